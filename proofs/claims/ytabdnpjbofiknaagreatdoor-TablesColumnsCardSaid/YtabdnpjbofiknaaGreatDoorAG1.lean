/- The functions as they have been read. -/
import Derived.Test.YtabdnpjbofiknaaGreatDoorA8
import Derived.Test.YtabdnpjbofiknaaGreatDoorProg
set_option linter.all false
/- The functions as they have been read. -/
namespace Go.Avm
open Go
def F_law13_TablesColumns : Nat := 5
def F_law13_Far : Nat := 6
def F_law13_awake : Nat := 7
def F_ref13_Same : Nat := 10
def F_tables_Order : Nat := 11
def F_ref04_Same : Nat := 13
def F_tables_Sort : Nat := 14
def F_tables_Check : Nat := 16
def F_ref13_Check : Nat := 17
def F_tables_Find : Nat := 22
def F_ref06_Same : Nat := 24
def F_tables_Add : Nat := 25
def F_ref13_Add : Nat := 26
def F_tables_Drop : Nat := 27
def F_ref13_Drop : Nat := 28
def F_law13_example : Nat := 29
def F_tables_Print : Nat := 30
def F_law13_vector : Nat := 31
def F_tables_many : Nat := 32
def F_slices_IndexFunc_int_int : Nat := 33
def F_tables_taken : Nat := 35
def F_tables_at : Nat := 38
def F_tables_ranked : Nat := 39
def F_ref13_at : Nat := 40
def F_arrays_Check : Nat := 41
def F_words_Name : Nat := 42
def F_ref01_Name : Nat := 43
def F_ref06_Check : Nat := 44
def F_tables_clone : Nat := 45
def F_slices_Index_int64_int64 : Nat := 46
def F_ref06_Like : Nat := 47
def F_tables_each : Nat := 48
def F_strings_Builder_WriteString : Nat := 51
def F_words_Digits : Nat := 52
def F_strings_Builder_WriteByte : Nat := 53
def F_strings_Builder_String : Nat := 54
def F_tables_taken_1 : Nat := 55
def F_slices_Index_string_string : Nat := 56
def F_slices_SortStableFunc_int_int : Nat := 57
def F_tables_ranked_1 : Nat := 58
def F_shapes_Cells : Nat := 59
def F_slices_ContainsFunc_int64_int64 : Nat := 60
def F_arrays_Check_1 : Nat := 61
def F_arrays_right : Nat := 62
def F_strings_Trim : Nat := 63
def F_ref01_lower : Nat := 64
def F_ref01_digit : Nat := 65
def F_ref05_Cells : Nat := 66
def F_ref06_rune64 : Nat := 67
def F_slices_Clone_int64_int64 : Nat := 68
def F_slices_Clone_string_string : Nat := 69
def F_strconv_FormatInt : Nat := 71
def F_slices_stableCmpFunc_int : Nat := 72
def F_shapes_Check : Nat := 73
def F_shapes_product : Nat := 74
def F_slices_IndexFunc_int64_int64 : Nat := 75
def F_utf8_ValidRune : Nat := 76
def F_strings_trimLeftByte : Nat := 77
def F_strings_trimRightByte : Nat := 78
def F_strings_makeASCIISet : Nat := 79
def F_strings_trimLeftASCII : Nat := 80
def F_strings_trimRightASCII : Nat := 81
def F_strings_trimLeftUnicode : Nat := 82
def F_strings_trimRightUnicode : Nat := 83
def F_ref05_Check : Nat := 84
def F_ref05_Many : Nat := 85
def F_slices_insertionSortCmpFunc_int : Nat := 88
def F_slices_symMergeCmpFunc_int : Nat := 89
def F_slices_ContainsFunc_int_int : Nat := 90
def F_shapes_Check_1 : Nat := 91
def F_shapes_Check_2 : Nat := 92
def F_shapes_Check_3 : Nat := 93
def F_strings_asciiSet_contains : Nat := 94
def F_slices_rotateCmpFunc_int : Nat := 102
def F_slices_swapRangeCmpFunc_int : Nat := 111
def F_tables_byCells_before : Nat := 134
/- law13_TablesRows -/
/- law13_TablesChecks -/
/- law13_TablesColumns -/
def A_law13_TablesColumns : AFun := ⟨71,
  .seq (.region false [⟨(some 3), .box (.t 0), none⟩,
    ⟨(some 5), .box (.t 2), none⟩,
    ⟨(some 6), .mov (.c (.bool false)), none⟩])
  (.seq (.seq (.region false [⟨(some 11), .ld (some 2) (.t 3), none⟩,
    ⟨(some 12), .call F_law13_Far [(.t 11)], none⟩,
    ⟨(some 13), .mov (.t 12), none⟩,
    ⟨(some 14), .mov (.t 1), some (13, false)⟩,
    ⟨(some 15), .lenS (.t 14), some (13, false)⟩,
    ⟨(some 16), .bin .gtr (.t 15) (.c (.int .i64 100)), some (13, false)⟩,
    ⟨(some 17), .pick (.t 13) (.c (.bool true)) (.t 16), none⟩,
    ⟨(some 18), .mov (.t 17), none⟩,
    ⟨(some 19), .fldA 4 (.t 5), some (18, false)⟩,
    ⟨(some 20), .ld none (.t 19), some (18, false)⟩,
    ⟨(some 21), .len (.t 20), some (18, false)⟩,
    ⟨(some 22), .bin .gtr (.t 21) (.c (.int .i64 500)), some (18, false)⟩,
    ⟨(some 23), .pick (.t 18) (.c (.bool true)) (.t 22), none⟩])
  (.cond (.t 23)
   (.seq (.region false [⟨(some 24), .call F_law13_awake [], none⟩,
     ⟨(some 6), .mov (.t 24), none⟩])
   (.ret))
   (.skip)))
  (.seq (.region false [⟨(some 26), .ld (some 2) (.t 3), none⟩,
    ⟨(some 27), .mov (.t 1), none⟩,
    ⟨(some 28), .ld (some 5) (.t 5), none⟩,
    ⟨(some 29), .call F_tables_Add [(.t 26), (.t 27), (.t 28)], none⟩,
    ⟨(some 25), .mov (.t 29), none⟩,
    ⟨(some 30), .extr (.t 25) 0, none⟩,
    ⟨(some 31), .extr (.t 25) 1, none⟩,
    ⟨(some 7), .alloc [.sl .ex [], .sl .ex []], none⟩,
    ⟨none, .st 2 (.t 7) (.t 30), none⟩,
    ⟨(some 8), .mov (.t 31), none⟩])
  (.seq (.region false [⟨(some 33), .ld (some 2) (.t 3), none⟩,
    ⟨(some 34), .mov (.t 1), none⟩,
    ⟨(some 35), .ld (some 5) (.t 5), none⟩,
    ⟨(some 36), .call F_ref13_Add [(.t 33), (.t 34), (.t 35)], none⟩,
    ⟨(some 32), .mov (.t 36), none⟩,
    ⟨(some 37), .extr (.t 32) 0, none⟩,
    ⟨(some 38), .extr (.t 32) 1, none⟩,
    ⟨(some 9), .alloc [.sl .ex [], .sl .ex []], none⟩,
    ⟨none, .st 2 (.t 9) (.t 37), none⟩,
    ⟨(some 10), .mov (.t 38), none⟩])
  (.seq (.seq (.region false [⟨(some 39), .ld (some 2) (.t 7), none⟩,
    ⟨(some 40), .ld (some 2) (.t 9), none⟩,
    ⟨(some 41), .call F_ref13_Same [(.t 39), (.t 40)], none⟩,
    ⟨(some 42), .not (.t 41), none⟩,
    ⟨(some 43), .mov (.t 42), none⟩,
    ⟨(some 44), .mov (.t 8), some (43, false)⟩,
    ⟨(some 45), .mov (.t 10), some (43, false)⟩,
    ⟨(some 46), .bin .neq (.t 44) (.t 45), some (43, false)⟩,
    ⟨(some 47), .pick (.t 43) (.c (.bool true)) (.t 46), none⟩])
  (.cond (.t 47)
   (.seq (.region false [⟨(some 6), .mov (.c (.bool false)), none⟩])
   (.ret))
   (.skip)))
  (.seq (.region false [⟨(some 49), .ld (some 2) (.t 3), none⟩,
    ⟨(some 50), .mov (.t 1), none⟩,
    ⟨(some 51), .call F_tables_Drop [(.t 49), (.t 50)], none⟩,
    ⟨(some 48), .mov (.t 51), none⟩,
    ⟨(some 52), .extr (.t 48) 0, none⟩,
    ⟨(some 53), .extr (.t 48) 1, none⟩,
    ⟨none, .st 2 (.t 7) (.t 52), none⟩,
    ⟨(some 8), .mov (.t 53), none⟩])
  (.seq (.region false [⟨(some 55), .ld (some 2) (.t 3), none⟩,
    ⟨(some 56), .mov (.t 1), none⟩,
    ⟨(some 57), .call F_ref13_Drop [(.t 55), (.t 56)], none⟩,
    ⟨(some 54), .mov (.t 57), none⟩,
    ⟨(some 58), .extr (.t 54) 0, none⟩,
    ⟨(some 59), .extr (.t 54) 1, none⟩,
    ⟨none, .st 2 (.t 9) (.t 58), none⟩,
    ⟨(some 10), .mov (.t 59), none⟩])
  (.seq (.region false [⟨(some 60), .ld (some 2) (.t 7), none⟩,
    ⟨(some 61), .ld (some 2) (.t 9), none⟩,
    ⟨(some 62), .call F_ref13_Same [(.t 60), (.t 61)], none⟩,
    ⟨(some 63), .mov (.t 62), none⟩,
    ⟨(some 64), .mov (.t 8), some (63, true)⟩,
    ⟨(some 65), .mov (.t 10), some (63, true)⟩,
    ⟨(some 66), .bin .eql (.t 64) (.t 65), some (63, true)⟩,
    ⟨(some 67), .pick (.t 63) (.t 66) (.c (.bool false)), none⟩,
    ⟨(some 68), .mov (.t 67), none⟩,
    ⟨(some 69), .call F_law13_awake [], some (68, true)⟩,
    ⟨(some 70), .pick (.t 68) (.t 69) (.c (.bool false)), none⟩,
    ⟨(some 6), .mov (.t 70), none⟩])
  (.ret)))))))),
  [.tmp 6]⟩

/- law13_Far -/
def A_law13_FarL0 : ACode :=
  .seq (.seq (.region false [⟨(some 6), .mov (.t 4), none⟩,
    ⟨(some 7), .fldA 1 (.t 1), none⟩,
    ⟨(some 8), .ld none (.t 7), none⟩,
    ⟨(some 9), .len (.t 8), none⟩,
    ⟨(some 10), .bin .lss (.t 6) (.t 9), none⟩,
    ⟨(some 11), .mov (.t 10), none⟩,
    ⟨(some 12), .mov (.t 4), some (11, true)⟩,
    ⟨(some 13), .bin .lss (.t 12) (.c (.int .i64 30)), some (11, true)⟩,
    ⟨(some 14), .pick (.t 11) (.t 13) (.c (.bool false)), none⟩])
  (.cond (.t 14)
   (.skip)
   (.exit 0)))
  (.seq (.block 1 (.region false [⟨(some 17), .mov (.t 3), none⟩,
    ⟨(some 18), .fldA 1 (.t 1), none⟩,
    ⟨(some 19), .ld none (.t 18), none⟩,
    ⟨(some 20), .mov (.t 4), none⟩,
    ⟨(some 21), .idxA 5 (.t 19) (.t 20), none⟩,
    ⟨(some 22), .fldA 4 (.t 21), none⟩,
    ⟨(some 23), .ld none (.t 22), none⟩,
    ⟨(some 24), .len (.t 23), none⟩,
    ⟨(some 25), .bin .add (.t 17) (.t 24), none⟩,
    ⟨(some 3), .mov (.t 25), none⟩]))
  (.region false [⟨(some 15), .mov (.t 4), none⟩,
    ⟨(some 16), .bin .add (.t 15) (.c (.int .i64 1)), none⟩,
    ⟨(some 4), .mov (.t 16), none⟩]))
def A_law13_FarL1 : ACode :=
  .seq (.seq (.region false [⟨(some 26), .mov (.t 5), none⟩,
    ⟨(some 27), .fldA 0 (.t 1), none⟩,
    ⟨(some 28), .ld none (.t 27), none⟩,
    ⟨(some 29), .len (.t 28), none⟩,
    ⟨(some 30), .bin .lss (.t 26) (.t 29), none⟩,
    ⟨(some 31), .mov (.t 30), none⟩,
    ⟨(some 32), .mov (.t 5), some (31, true)⟩,
    ⟨(some 33), .bin .lss (.t 32) (.c (.int .i64 30)), some (31, true)⟩,
    ⟨(some 34), .pick (.t 31) (.t 33) (.c (.bool false)), none⟩])
  (.cond (.t 34)
   (.skip)
   (.exit 2)))
  (.seq (.block 3 (.seq (.region false [⟨(some 37), .fldA 0 (.t 1), none⟩,
    ⟨(some 38), .ld none (.t 37), none⟩,
    ⟨(some 39), .mov (.t 5), none⟩,
    ⟨(some 40), .idxA 1 (.t 38) (.t 39), none⟩,
    ⟨(some 41), .ld none (.t 40), none⟩,
    ⟨(some 42), .lenS (.t 41), none⟩,
    ⟨(some 43), .bin .gtr (.t 42) (.c (.int .i64 100)), none⟩])
  (.cond (.t 43)
   (.seq (.region false [⟨(some 2), .mov (.c (.bool true)), none⟩])
   (.ret))
   (.skip))))
  (.region false [⟨(some 35), .mov (.t 5), none⟩,
    ⟨(some 36), .bin .add (.t 35) (.c (.int .i64 1)), none⟩,
    ⟨(some 5), .mov (.t 36), none⟩]))
def A_law13_Far : AFun := ⟨58,
  .seq (.region false [⟨(some 1), .box (.t 0), none⟩,
    ⟨(some 2), .mov (.c (.bool false)), none⟩])
  (.seq (.region false [⟨(some 3), .mov (.c (.int .i64 0)), none⟩])
  (.seq (.seq (.region false [⟨(some 4), .mov (.c (.int .i64 0)), none⟩])
  (.block 0 (.loop A_law13_FarL0)))
  (.seq (.seq (.region false [⟨(some 5), .mov (.c (.int .i64 0)), none⟩])
  (.block 2 (.loop A_law13_FarL1)))
  (.seq (.region false [⟨(some 44), .mov (.t 3), none⟩,
    ⟨(some 45), .bin .gtr (.t 44) (.c (.int .i64 1000)), none⟩,
    ⟨(some 46), .mov (.t 45), none⟩,
    ⟨(some 47), .fldA 0 (.t 1), some (46, false)⟩,
    ⟨(some 48), .ld none (.t 47), some (46, false)⟩,
    ⟨(some 49), .len (.t 48), some (46, false)⟩,
    ⟨(some 50), .bin .gtr (.t 49) (.c (.int .i64 20)), some (46, false)⟩,
    ⟨(some 51), .pick (.t 46) (.c (.bool true)) (.t 50), none⟩,
    ⟨(some 52), .mov (.t 51), none⟩,
    ⟨(some 53), .fldA 1 (.t 1), some (52, false)⟩,
    ⟨(some 54), .ld none (.t 53), some (52, false)⟩,
    ⟨(some 55), .len (.t 54), some (52, false)⟩,
    ⟨(some 56), .bin .gtr (.t 55) (.c (.int .i64 20)), some (52, false)⟩,
    ⟨(some 57), .pick (.t 52) (.c (.bool true)) (.t 56), none⟩,
    ⟨(some 2), .mov (.t 57), none⟩])
  (.ret))))),
  [.tmp 2]⟩

/- law13_awake -/
def A_law13_awake : AFun := ⟨71,
  .seq (.region false [⟨(some 0), .mov (.c (.bool false)), none⟩])
  (.seq (.region false [⟨(some 10), .call F_law13_example [], none⟩,
    ⟨(some 11), .call F_tables_Order [(.t 10), (.c (.str [109, 97, 114, 107]))], none⟩,
    ⟨(some 9), .mov (.t 11), none⟩,
    ⟨(some 12), .extr (.t 9) 0, none⟩,
    ⟨(some 13), .extr (.t 9) 1, none⟩,
    ⟨(some 1), .mov (.t 12), none⟩,
    ⟨(some 2), .mov (.t 13), none⟩])
  (.seq (.region false [⟨(some 15), .call F_law13_example [], none⟩,
    ⟨(some 16), .call F_tables_Sort [(.t 15), (.c (.str [109, 97, 114, 107]))], none⟩,
    ⟨(some 14), .mov (.t 16), none⟩,
    ⟨(some 17), .extr (.t 14) 0, none⟩,
    ⟨(some 18), .extr (.t 14) 1, none⟩,
    ⟨(some 3), .alloc [.sl .ex [], .sl .ex []], none⟩,
    ⟨none, .st 2 (.t 3) (.t 17), none⟩,
    ⟨(some 4), .mov (.t 18), none⟩])
  (.seq (.region false [⟨(some 20), .call F_law13_example [], none⟩,
    ⟨(some 21), .call F_tables_Find [(.t 20), (.c (.str [109, 97, 114, 107])), (.c (.int .i64 3))], none⟩,
    ⟨(some 19), .mov (.t 21), none⟩,
    ⟨(some 22), .extr (.t 19) 0, none⟩,
    ⟨(some 23), .extr (.t 19) 1, none⟩,
    ⟨(some 5), .mov (.t 22), none⟩,
    ⟨(some 6), .mov (.t 23), none⟩])
  (.seq (.region false [⟨(some 25), .call F_law13_example [], none⟩,
    ⟨(some 26), .call F_tables_Print [(.t 25)], none⟩,
    ⟨(some 24), .mov (.t 26), none⟩,
    ⟨(some 27), .extr (.t 24) 0, none⟩,
    ⟨(some 28), .extr (.t 24) 1, none⟩,
    ⟨(some 7), .mov (.t 27), none⟩,
    ⟨(some 8), .mov (.t 28), none⟩])
  (.seq (.region true [⟨(some 29), .mov (.t 2), none⟩,
    ⟨(some 30), .bin .eql (.t 29) (.c (.int .i64 0)), none⟩,
    ⟨(some 31), .mov (.t 30), none⟩,
    ⟨(some 32), .mov (.t 4), some (31, true)⟩,
    ⟨(some 33), .bin .eql (.t 32) (.c (.int .i64 0)), some (31, true)⟩,
    ⟨(some 34), .pick (.t 31) (.t 33) (.c (.bool false)), none⟩,
    ⟨(some 35), .mov (.t 34), none⟩,
    ⟨(some 36), .mov (.t 6), some (35, true)⟩,
    ⟨(some 37), .bin .eql (.t 36) (.c (.int .i64 0)), some (35, true)⟩,
    ⟨(some 38), .pick (.t 35) (.t 37) (.c (.bool false)), none⟩,
    ⟨(some 39), .mov (.t 38), none⟩,
    ⟨(some 40), .mov (.t 8), some (39, true)⟩,
    ⟨(some 41), .bin .eql (.t 40) (.c (.int .i64 0)), some (39, true)⟩,
    ⟨(some 42), .pick (.t 39) (.t 41) (.c (.bool false)), none⟩,
    ⟨(some 43), .mov (.t 42), none⟩,
    ⟨(some 44), .mov (.t 1), some (43, true)⟩,
    ⟨(some 45), .bsl 1 (.int .i64 0) 3 [(0, (.c (.int .i64 1))), (1, (.c (.int .i64 0))), (2, (.c (.int .i64 2)))], some (43, true)⟩,
    ⟨(some 46), .call F_ref04_Same [(.t 44), (.t 45)], some (43, true)⟩,
    ⟨(some 47), .pick (.t 43) (.t 46) (.c (.bool false)), none⟩,
    ⟨(some 48), .mov (.t 47), none⟩,
    ⟨(some 49), .fldA 1 (.t 3), some (48, true)⟩,
    ⟨(some 50), .ld none (.t 49), some (48, true)⟩,
    ⟨(some 51), .len (.t 50), some (48, true)⟩,
    ⟨(some 52), .bin .eql (.t 51) (.c (.int .i64 2)), some (48, true)⟩,
    ⟨(some 53), .pick (.t 48) (.t 52) (.c (.bool false)), none⟩,
    ⟨(some 54), .mov (.t 53), none⟩,
    ⟨(some 55), .fldA 1 (.t 3), some (54, true)⟩,
    ⟨(some 56), .ld none (.t 55), some (54, true)⟩,
    ⟨(some 57), .idxA 5 (.t 56) (.c (.int .i64 1)), some (54, true)⟩,
    ⟨(some 58), .ld (some 5) (.t 57), some (54, true)⟩,
    ⟨(some 59), .bsl 1 (.int .i64 0) 3 [(0, (.c (.int .i64 97))), (1, (.c (.int .i64 99))), (2, (.c (.int .i64 98)))], some (54, true)⟩,
    ⟨(some 60), .call F_law13_vector [(.c (.int .i64 2)), (.t 59)], some (54, true)⟩,
    ⟨(some 61), .call F_ref06_Same [(.t 58), (.t 60)], some (54, true)⟩,
    ⟨(some 62), .pick (.t 54) (.t 61) (.c (.bool false)), none⟩,
    ⟨(some 63), .mov (.t 62), none⟩,
    ⟨(some 64), .mov (.t 5), some (63, true)⟩,
    ⟨(some 65), .bin .eql (.t 64) (.c (.int .i64 0)), some (63, true)⟩,
    ⟨(some 66), .pick (.t 63) (.t 65) (.c (.bool false)), none⟩,
    ⟨(some 67), .mov (.t 66), none⟩,
    ⟨(some 68), .mov (.t 7), some (67, true)⟩,
    ⟨(some 69), .bin .eql (.t 68) (.c (.str [109, 97, 114, 107, 32, 105, 110, 116, 32, 51, 32, 49, 32, 51, 10, 110, 97, 109, 101, 32, 99, 104, 97, 114, 32, 57, 57, 32, 57, 55, 32, 57, 56, 10])), some (67, true)⟩,
    ⟨(some 70), .pick (.t 67) (.t 69) (.c (.bool false)), none⟩,
    ⟨(some 0), .mov (.t 70), none⟩])
  (.ret)))))),
  [.tmp 0]⟩

/- tables_Take -/
/- ref13_Take -/
/- ref13_Same -/
def A_ref13_SameL0 : ACode :=
  .seq (.seq (.region false [⟨(some 23), .mov (.t 5), none⟩,
    ⟨(some 24), .fldA 0 (.t 2), none⟩,
    ⟨(some 25), .ld none (.t 24), none⟩,
    ⟨(some 26), .len (.t 25), none⟩,
    ⟨(some 27), .bin .lss (.t 23) (.t 26), none⟩])
  (.cond (.t 27)
   (.skip)
   (.exit 0)))
  (.seq (.block 1 (.seq (.region true [⟨(some 30), .fldA 0 (.t 2), none⟩,
    ⟨(some 31), .ld none (.t 30), none⟩,
    ⟨(some 32), .mov (.t 5), none⟩,
    ⟨(some 33), .idxA 1 (.t 31) (.t 32), none⟩,
    ⟨(some 34), .ld none (.t 33), none⟩,
    ⟨(some 35), .fldA 0 (.t 3), none⟩,
    ⟨(some 36), .ld none (.t 35), none⟩,
    ⟨(some 37), .mov (.t 5), none⟩,
    ⟨(some 38), .idxA 1 (.t 36) (.t 37), none⟩,
    ⟨(some 39), .ld none (.t 38), none⟩,
    ⟨(some 40), .bin .neq (.t 34) (.t 39), none⟩])
  (.cond (.t 40)
   (.seq (.region false [⟨(some 4), .mov (.c (.bool false)), none⟩])
   (.ret))
   (.skip))))
  (.region false [⟨(some 28), .mov (.t 5), none⟩,
    ⟨(some 29), .bin .add (.t 28) (.c (.int .i64 1)), none⟩,
    ⟨(some 5), .mov (.t 29), none⟩]))
def A_ref13_SameL1 : ACode :=
  .seq (.seq (.region false [⟨(some 41), .mov (.t 6), none⟩,
    ⟨(some 42), .fldA 1 (.t 2), none⟩,
    ⟨(some 43), .ld none (.t 42), none⟩,
    ⟨(some 44), .len (.t 43), none⟩,
    ⟨(some 45), .bin .lss (.t 41) (.t 44), none⟩])
  (.cond (.t 45)
   (.skip)
   (.exit 2)))
  (.seq (.block 3 (.seq (.region true [⟨(some 48), .fldA 1 (.t 2), none⟩,
    ⟨(some 49), .ld none (.t 48), none⟩,
    ⟨(some 50), .mov (.t 6), none⟩,
    ⟨(some 51), .idxA 5 (.t 49) (.t 50), none⟩,
    ⟨(some 52), .ld (some 5) (.t 51), none⟩,
    ⟨(some 53), .fldA 1 (.t 3), none⟩,
    ⟨(some 54), .ld none (.t 53), none⟩,
    ⟨(some 55), .mov (.t 6), none⟩,
    ⟨(some 56), .idxA 5 (.t 54) (.t 55), none⟩,
    ⟨(some 57), .ld (some 5) (.t 56), none⟩,
    ⟨(some 58), .call F_ref06_Same [(.t 52), (.t 57)], none⟩,
    ⟨(some 59), .not (.t 58), none⟩])
  (.cond (.t 59)
   (.seq (.region false [⟨(some 4), .mov (.c (.bool false)), none⟩])
   (.ret))
   (.skip))))
  (.region false [⟨(some 46), .mov (.t 6), none⟩,
    ⟨(some 47), .bin .add (.t 46) (.c (.int .i64 1)), none⟩,
    ⟨(some 6), .mov (.t 47), none⟩]))
def A_ref13_Same : AFun := ⟨60,
  .seq (.region false [⟨(some 2), .box (.t 0), none⟩,
    ⟨(some 3), .box (.t 1), none⟩,
    ⟨(some 4), .mov (.c (.bool false)), none⟩])
  (.seq (.seq (.region false [⟨(some 7), .fldA 0 (.t 2), none⟩,
    ⟨(some 8), .ld none (.t 7), none⟩,
    ⟨(some 9), .len (.t 8), none⟩,
    ⟨(some 10), .fldA 0 (.t 3), none⟩,
    ⟨(some 11), .ld none (.t 10), none⟩,
    ⟨(some 12), .len (.t 11), none⟩,
    ⟨(some 13), .bin .neq (.t 9) (.t 12), none⟩,
    ⟨(some 14), .mov (.t 13), none⟩,
    ⟨(some 15), .fldA 1 (.t 2), some (14, false)⟩,
    ⟨(some 16), .ld none (.t 15), some (14, false)⟩,
    ⟨(some 17), .len (.t 16), some (14, false)⟩,
    ⟨(some 18), .fldA 1 (.t 3), some (14, false)⟩,
    ⟨(some 19), .ld none (.t 18), some (14, false)⟩,
    ⟨(some 20), .len (.t 19), some (14, false)⟩,
    ⟨(some 21), .bin .neq (.t 17) (.t 20), some (14, false)⟩,
    ⟨(some 22), .pick (.t 14) (.c (.bool true)) (.t 21), none⟩])
  (.cond (.t 22)
   (.seq (.region false [⟨(some 4), .mov (.c (.bool false)), none⟩])
   (.ret))
   (.skip)))
  (.seq (.seq (.region false [⟨(some 5), .mov (.c (.int .i64 0)), none⟩])
  (.block 0 (.loop A_ref13_SameL0)))
  (.seq (.seq (.region false [⟨(some 6), .mov (.c (.int .i64 0)), none⟩])
  (.block 2 (.loop A_ref13_SameL1)))
  (.seq (.region false [⟨(some 4), .mov (.c (.bool true)), none⟩])
  (.ret))))),
  [.tmp 4]⟩

/- tables_Order -/
def A_tables_Order : AFun := ⟨25,
  .seq (.region false [⟨(some 2), .box (.t 0), none⟩,
    ⟨(some 4), .mov (.c (.sl .ex [])), none⟩,
    ⟨(some 5), .mov (.c (.int .i64 0)), none⟩])
  (.seq (.region false [⟨(some 9), .mov (.t 1), none⟩,
    ⟨(some 10), .call F_tables_at [(.t 2), (.t 9)], none⟩,
    ⟨(some 8), .mov (.t 10), none⟩,
    ⟨(some 11), .extr (.t 8) 0, none⟩,
    ⟨(some 12), .extr (.t 8) 1, none⟩,
    ⟨(some 6), .mov (.t 11), none⟩,
    ⟨(some 7), .mov (.t 12), none⟩])
  (.seq (.seq (.region false [⟨(some 13), .mov (.t 7), none⟩,
    ⟨(some 14), .bin .neq (.t 13) (.c (.int .i64 0)), none⟩])
  (.cond (.t 14)
   (.seq (.region false [⟨(some 15), .mov (.t 7), none⟩,
     ⟨(some 4), .mov (.c (.sl .ex [])), none⟩,
     ⟨(some 5), .mov (.t 15), none⟩])
   (.ret))
   (.skip)))
  (.seq (.region true [⟨(some 16), .call F_tables_many [(.t 2)], none⟩,
    ⟨(some 17), .fldA 1 (.t 2), none⟩,
    ⟨(some 18), .ld none (.t 17), none⟩,
    ⟨(some 19), .mov (.t 6), none⟩,
    ⟨(some 20), .idxA 5 (.t 18) (.t 19), none⟩,
    ⟨(some 21), .fldA 4 (.t 20), none⟩,
    ⟨(some 22), .ld none (.t 21), none⟩,
    ⟨(some 23), .mki 65 (.t 22), none⟩,
    ⟨(some 24), .call F_tables_ranked [(.t 16), (.t 23)], none⟩,
    ⟨(some 4), .mov (.t 24), none⟩,
    ⟨(some 5), .mov (.c (.int .i64 0)), none⟩])
  (.ret)))),
  [.tmp 4, .tmp 5]⟩

/- ref13_Order -/
/- ref04_Same -/
def A_ref04_SameL0 : ACode :=
  .seq (.seq (.region false [⟨(some 11), .mov (.t 5), none⟩,
    ⟨(some 12), .mov (.t 0), none⟩,
    ⟨(some 13), .len (.t 12), none⟩,
    ⟨(some 14), .bin .lss (.t 11) (.t 13), none⟩])
  (.cond (.t 14)
   (.skip)
   (.exit 0)))
  (.seq (.block 1 (.seq (.region true [⟨(some 17), .mov (.t 0), none⟩,
    ⟨(some 18), .mov (.t 5), none⟩,
    ⟨(some 19), .idxA 1 (.t 17) (.t 18), none⟩,
    ⟨(some 20), .ld none (.t 19), none⟩,
    ⟨(some 21), .mov (.t 1), none⟩,
    ⟨(some 22), .mov (.t 5), none⟩,
    ⟨(some 23), .idxA 1 (.t 21) (.t 22), none⟩,
    ⟨(some 24), .ld none (.t 23), none⟩,
    ⟨(some 25), .bin .neq (.t 20) (.t 24), none⟩])
  (.cond (.t 25)
   (.seq (.region false [⟨(some 4), .mov (.c (.bool false)), none⟩])
   (.ret))
   (.skip))))
  (.region false [⟨(some 15), .mov (.t 5), none⟩,
    ⟨(some 16), .bin .add (.t 15) (.c (.int .i64 1)), none⟩,
    ⟨(some 5), .mov (.t 16), none⟩]))
def A_ref04_Same : AFun := ⟨26,
  .seq (.region false [⟨(some 4), .mov (.c (.bool false)), none⟩])
  (.seq (.seq (.region false [⟨(some 6), .mov (.t 0), none⟩,
    ⟨(some 7), .len (.t 6), none⟩,
    ⟨(some 8), .mov (.t 1), none⟩,
    ⟨(some 9), .len (.t 8), none⟩,
    ⟨(some 10), .bin .neq (.t 7) (.t 9), none⟩])
  (.cond (.t 10)
   (.seq (.region false [⟨(some 4), .mov (.c (.bool false)), none⟩])
   (.ret))
   (.skip)))
  (.seq (.seq (.region false [⟨(some 5), .mov (.c (.int .i64 0)), none⟩])
  (.block 0 (.loop A_ref04_SameL0)))
  (.seq (.region false [⟨(some 4), .mov (.c (.bool true)), none⟩])
  (.ret)))),
  [.tmp 4]⟩

/- tables_Sort -/
def A_tables_Sort : AFun := ⟨20,
  .seq (.region false [⟨(some 2), .box (.t 0), none⟩,
    ⟨(some 4), .alloc [.sl .ex [], .sl .ex []], none⟩,
    ⟨(some 5), .mov (.c (.int .i64 0)), none⟩])
  (.seq (.region false [⟨(some 9), .ld (some 2) (.t 2), none⟩,
    ⟨(some 10), .mov (.t 1), none⟩,
    ⟨(some 11), .call F_tables_Order [(.t 9), (.t 10)], none⟩,
    ⟨(some 8), .mov (.t 11), none⟩,
    ⟨(some 12), .extr (.t 8) 0, none⟩,
    ⟨(some 13), .extr (.t 8) 1, none⟩,
    ⟨(some 6), .mov (.t 12), none⟩,
    ⟨(some 7), .mov (.t 13), none⟩])
  (.seq (.seq (.region false [⟨(some 14), .mov (.t 7), none⟩,
    ⟨(some 15), .bin .neq (.t 14) (.c (.int .i64 0)), none⟩])
  (.cond (.t 15)
   (.seq (.region false [⟨(some 16), .build [.sl .ex [], .sl .ex []] [], none⟩,
     ⟨(some 17), .mov (.t 7), none⟩,
     ⟨none, .st 2 (.t 4) (.t 16), none⟩,
     ⟨(some 5), .mov (.t 17), none⟩])
   (.ret))
   (.skip)))
  (.seq (.region false [⟨(some 18), .mov (.t 6), none⟩,
    ⟨(some 19), .call F_tables_taken [(.t 2), (.t 18)], none⟩,
    ⟨none, .st 2 (.t 4) (.t 19), none⟩,
    ⟨(some 5), .mov (.c (.int .i64 0)), none⟩])
  (.ret)))),
  [.cell (some 2) 4, .tmp 5]⟩

/- ref13_Sort -/
/- tables_Check -/
def A_tables_CheckL0 : ACode :=
  .seq (.region false [⟨(some 27), .bin .lss (.t 26) (.t 25), none⟩])
  (.seq (.cond (.t 27)
   (.skip)
   (.exit 1))
  (.seq (.block 2 (.seq (.region false [⟨(some 28), .mov (.t 26), none⟩,
    ⟨(some 29), .idxA 1 (.t 24) (.t 26), none⟩,
    ⟨(some 30), .ld none (.t 29), none⟩,
    ⟨(some 5), .mov (.t 28), none⟩,
    ⟨(some 6), .mov (.t 30), none⟩])
  (.seq (.region false [⟨(some 31), .fldA 1 (.t 1), none⟩,
    ⟨(some 32), .ld none (.t 31), none⟩,
    ⟨(some 33), .mov (.t 5), none⟩,
    ⟨(some 34), .idxA 5 (.t 32) (.t 33), none⟩,
    ⟨(some 35), .ld (some 5) (.t 34), none⟩,
    ⟨(some 7), .alloc [.int .i64 0, .int .i64 0, .int .i64 0, .int .i64 0, .sl .ex []], none⟩,
    ⟨none, .st 5 (.t 7) (.t 35), none⟩])
  (.seq (.seq (.region false [⟨(some 36), .ld (some 5) (.t 7), none⟩,
    ⟨(some 37), .call F_arrays_Check [(.t 36)], none⟩,
    ⟨(some 8), .mov (.t 37), none⟩])
  (.block 3 (.seq (.region false [⟨(some 39), .mov (.t 6), none⟩,
    ⟨(some 40), .call F_words_Name [(.t 39)], none⟩,
    ⟨(some 41), .not (.t 40), none⟩,
    ⟨(some 38), .mov (.t 41), none⟩])
  (.cond (.t 38)
   (.seq (.region false [⟨(some 42), .mov (.t 5), none⟩,
     ⟨(some 2), .mov (.t 42), none⟩,
     ⟨(some 3), .mov (.c (.int .i64 6)), none⟩])
   (.ret))
   (.seq (.region false [⟨(some 44), .mov (.t 4), none⟩,
     ⟨(some 45), .mov (.t 6), none⟩,
     ⟨(some 46), .mget (.t 44) (.t 45), none⟩,
     ⟨(some 43), .mov (.t 46), none⟩])
   (.cond (.t 43)
    (.seq (.region false [⟨(some 47), .mov (.t 5), none⟩,
      ⟨(some 2), .mov (.t 47), none⟩,
      ⟨(some 3), .mov (.c (.int .i64 8)), none⟩])
    (.ret))
    (.seq (.region false [⟨(some 49), .mov (.t 8), none⟩,
      ⟨(some 50), .bin .neq (.t 49) (.c (.int .i64 0)), none⟩,
      ⟨(some 48), .mov (.t 50), none⟩])
    (.cond (.t 48)
     (.seq (.region false [⟨(some 51), .mov (.t 5), none⟩,
       ⟨(some 52), .mov (.t 8), none⟩,
       ⟨(some 2), .mov (.t 51), none⟩,
       ⟨(some 3), .mov (.t 52), none⟩])
     (.ret))
     (.seq (.region false [⟨(some 54), .fldA 1 (.t 7), none⟩,
       ⟨(some 55), .ld none (.t 54), none⟩,
       ⟨(some 56), .bin .neq (.t 55) (.c (.int .i64 1)), none⟩,
       ⟨(some 53), .mov (.t 56), none⟩])
     (.cond (.t 53)
      (.seq (.region false [⟨(some 57), .mov (.t 5), none⟩,
        ⟨(some 2), .mov (.t 57), none⟩,
        ⟨(some 3), .mov (.c (.int .i64 22)), none⟩])
      (.ret))
      (.seq (.region true [⟨(some 59), .fldA 2 (.t 7), none⟩,
        ⟨(some 60), .ld (some 2) (.t 59), none⟩,
        ⟨(some 61), .fldA 1 (.t 1), none⟩,
        ⟨(some 62), .ld none (.t 61), none⟩,
        ⟨(some 63), .idxA 5 (.t 62) (.c (.int .i64 0)), none⟩,
        ⟨(some 64), .fldA 2 (.t 63), none⟩,
        ⟨(some 65), .ld (some 2) (.t 64), none⟩,
        ⟨(some 66), .aeq true [0, 0] (.t 60) (.t 65), none⟩,
        ⟨(some 58), .mov (.t 66), none⟩])
      (.cond (.t 58)
       (.seq (.region false [⟨(some 67), .mov (.t 5), none⟩,
         ⟨(some 2), .mov (.t 67), none⟩,
         ⟨(some 3), .mov (.c (.int .i64 11)), none⟩])
       (.ret))
       (.skip)))))))))))))
  (.region false [⟨(some 68), .mov (.t 4), none⟩,
    ⟨(some 69), .mov (.t 6), none⟩,
    ⟨none, .mset (.t 68) (.t 69), none⟩])))))
  (.region false [⟨(some 70), .bin .add (.t 26) (.c (.int .i64 1)), none⟩,
    ⟨(some 26), .mov (.t 70), none⟩])))
def A_tables_Check : AFun := ⟨71,
  .seq (.region false [⟨(some 1), .box (.t 0), none⟩,
    ⟨(some 2), .mov (.c (.int .i64 0)), none⟩,
    ⟨(some 3), .mov (.c (.int .i64 0)), none⟩])
  (.seq (.block 0 (.seq (.region false [⟨(some 10), .fldA 0 (.t 1), none⟩,
    ⟨(some 11), .ld none (.t 10), none⟩,
    ⟨(some 12), .len (.t 11), none⟩,
    ⟨(some 13), .bin .gtr (.t 12) (.c (.int .i64 16)), none⟩,
    ⟨(some 9), .mov (.t 13), none⟩])
  (.cond (.t 9)
   (.seq (.region false [⟨(some 2), .mov (.c (.int .i64 (-1))), none⟩,
     ⟨(some 3), .mov (.c (.int .i64 3)), none⟩])
   (.ret))
   (.seq (.region false [⟨(some 15), .fldA 1 (.t 1), none⟩,
     ⟨(some 16), .ld none (.t 15), none⟩,
     ⟨(some 17), .len (.t 16), none⟩,
     ⟨(some 18), .fldA 0 (.t 1), none⟩,
     ⟨(some 19), .ld none (.t 18), none⟩,
     ⟨(some 20), .len (.t 19), none⟩,
     ⟨(some 21), .bin .neq (.t 17) (.t 20), none⟩,
     ⟨(some 14), .mov (.t 21), none⟩])
   (.cond (.t 14)
    (.seq (.region false [⟨(some 2), .mov (.c (.int .i64 (-1))), none⟩,
      ⟨(some 3), .mov (.c (.int .i64 6)), none⟩])
    (.ret))
    (.skip))))))
  (.seq (.region false [⟨(some 22), .mkM, none⟩,
    ⟨(some 4), .mov (.t 22), none⟩])
  (.seq (.seq (.region false [⟨(some 23), .fldA 0 (.t 1), none⟩,
    ⟨(some 24), .ld none (.t 23), none⟩,
    ⟨(some 25), .len (.t 24), none⟩,
    ⟨(some 26), .mov (.c (.int .i64 0)), none⟩])
  (.block 1 (.loop A_tables_CheckL0)))
  (.seq (.region false [⟨(some 2), .mov (.c (.int .i64 0)), none⟩,
    ⟨(some 3), .mov (.c (.int .i64 0)), none⟩])
  (.ret))))),
  [.tmp 2, .tmp 3]⟩

/- ref13_Check -/
def A_ref13_CheckL1 : ACode :=
  .seq (.seq (.region false [⟨(some 34), .mov (.t 5), none⟩,
    ⟨(some 35), .mov (.t 4), none⟩,
    ⟨(some 36), .bin .lss (.t 34) (.t 35), none⟩])
  (.cond (.t 36)
   (.skip)
   (.exit 2)))
  (.seq (.block 3 (.seq (.region true [⟨(some 39), .fldA 0 (.t 1), none⟩,
    ⟨(some 40), .ld none (.t 39), none⟩,
    ⟨(some 41), .mov (.t 5), none⟩,
    ⟨(some 42), .idxA 1 (.t 40) (.t 41), none⟩,
    ⟨(some 43), .ld none (.t 42), none⟩,
    ⟨(some 44), .fldA 0 (.t 1), none⟩,
    ⟨(some 45), .ld none (.t 44), none⟩,
    ⟨(some 46), .mov (.t 4), none⟩,
    ⟨(some 47), .idxA 1 (.t 45) (.t 46), none⟩,
    ⟨(some 48), .ld none (.t 47), none⟩,
    ⟨(some 49), .bin .eql (.t 43) (.t 48), none⟩])
  (.cond (.t 49)
   (.seq (.region false [⟨(some 50), .mov (.t 4), none⟩,
     ⟨(some 2), .mov (.t 50), none⟩,
     ⟨(some 3), .mov (.c (.int .i64 8)), none⟩])
   (.ret))
   (.skip))))
  (.region false [⟨(some 37), .mov (.t 5), none⟩,
    ⟨(some 38), .bin .add (.t 37) (.c (.int .i64 1)), none⟩,
    ⟨(some 5), .mov (.t 38), none⟩]))
def A_ref13_CheckL0 : ACode :=
  .seq (.seq (.region false [⟨(some 19), .mov (.t 4), none⟩,
    ⟨(some 20), .fldA 0 (.t 1), none⟩,
    ⟨(some 21), .ld none (.t 20), none⟩,
    ⟨(some 22), .len (.t 21), none⟩,
    ⟨(some 23), .bin .lss (.t 19) (.t 22), none⟩])
  (.cond (.t 23)
   (.skip)
   (.exit 0)))
  (.seq (.block 1 (.seq (.seq (.region false [⟨(some 26), .fldA 0 (.t 1), none⟩,
    ⟨(some 27), .ld none (.t 26), none⟩,
    ⟨(some 28), .mov (.t 4), none⟩,
    ⟨(some 29), .idxA 1 (.t 27) (.t 28), none⟩,
    ⟨(some 30), .ld none (.t 29), none⟩,
    ⟨(some 31), .call F_ref01_Name [(.t 30)], none⟩,
    ⟨(some 32), .not (.t 31), none⟩])
  (.cond (.t 32)
   (.seq (.region false [⟨(some 33), .mov (.t 4), none⟩,
     ⟨(some 2), .mov (.t 33), none⟩,
     ⟨(some 3), .mov (.c (.int .i64 6)), none⟩])
   (.ret))
   (.skip)))
  (.seq (.seq (.region false [⟨(some 5), .mov (.c (.int .i64 0)), none⟩])
  (.block 2 (.loop A_ref13_CheckL1)))
  (.seq (.region false [⟨(some 51), .fldA 1 (.t 1), none⟩,
    ⟨(some 52), .ld none (.t 51), none⟩,
    ⟨(some 53), .mov (.t 4), none⟩,
    ⟨(some 54), .idxA 5 (.t 52) (.t 53), none⟩,
    ⟨(some 55), .ld (some 5) (.t 54), none⟩,
    ⟨(some 6), .alloc [.int .i64 0, .int .i64 0, .int .i64 0, .int .i64 0, .sl .ex []], none⟩,
    ⟨none, .st 5 (.t 6) (.t 55), none⟩])
  (.seq (.region false [⟨(some 56), .ld (some 5) (.t 6), none⟩,
    ⟨(some 57), .call F_ref06_Check [(.t 56)], none⟩,
    ⟨(some 7), .mov (.t 57), none⟩])
  (.seq (.seq (.region false [⟨(some 58), .mov (.t 7), none⟩,
    ⟨(some 59), .bin .eql (.t 58) (.c (.int .i64 0)), none⟩,
    ⟨(some 60), .mov (.t 59), none⟩,
    ⟨(some 61), .fldA 1 (.t 6), some (60, true)⟩,
    ⟨(some 62), .ld none (.t 61), some (60, true)⟩,
    ⟨(some 63), .bin .neq (.t 62) (.c (.int .i64 1)), some (60, true)⟩,
    ⟨(some 64), .pick (.t 60) (.t 63) (.c (.bool false)), none⟩])
  (.cond (.t 64)
   (.region false [⟨(some 7), .mov (.c (.int .i64 22)), none⟩])
   (.skip)))
  (.seq (.seq (.region true [⟨(some 65), .mov (.t 7), none⟩,
    ⟨(some 66), .bin .eql (.t 65) (.c (.int .i64 0)), none⟩,
    ⟨(some 67), .mov (.t 66), none⟩,
    ⟨(some 68), .fldA 2 (.t 6), some (67, true)⟩,
    ⟨(some 69), .ld (some 2) (.t 68), some (67, true)⟩,
    ⟨(some 70), .fldA 1 (.t 1), some (67, true)⟩,
    ⟨(some 71), .ld none (.t 70), some (67, true)⟩,
    ⟨(some 72), .idxA 5 (.t 71) (.c (.int .i64 0)), some (67, true)⟩,
    ⟨(some 73), .fldA 2 (.t 72), some (67, true)⟩,
    ⟨(some 74), .ld (some 2) (.t 73), some (67, true)⟩,
    ⟨(some 75), .aeq true [0, 0] (.t 69) (.t 74), some (67, true)⟩,
    ⟨(some 76), .pick (.t 67) (.t 75) (.c (.bool false)), none⟩])
  (.cond (.t 76)
   (.region false [⟨(some 7), .mov (.c (.int .i64 11)), none⟩])
   (.skip)))
  (.seq (.region false [⟨(some 77), .mov (.t 7), none⟩,
    ⟨(some 78), .bin .neq (.t 77) (.c (.int .i64 0)), none⟩])
  (.cond (.t 78)
   (.seq (.region false [⟨(some 79), .mov (.t 4), none⟩,
     ⟨(some 80), .mov (.t 7), none⟩,
     ⟨(some 2), .mov (.t 79), none⟩,
     ⟨(some 3), .mov (.t 80), none⟩])
   (.ret))
   (.skip))))))))))
  (.region false [⟨(some 24), .mov (.t 4), none⟩,
    ⟨(some 25), .bin .add (.t 24) (.c (.int .i64 1)), none⟩,
    ⟨(some 4), .mov (.t 25), none⟩]))
def A_ref13_Check : AFun := ⟨81,
  .seq (.region false [⟨(some 1), .box (.t 0), none⟩,
    ⟨(some 2), .mov (.c (.int .i64 0)), none⟩,
    ⟨(some 3), .mov (.c (.int .i64 0)), none⟩])
  (.seq (.seq (.region false [⟨(some 8), .fldA 0 (.t 1), none⟩,
    ⟨(some 9), .ld none (.t 8), none⟩,
    ⟨(some 10), .len (.t 9), none⟩,
    ⟨(some 11), .bin .gtr (.t 10) (.c (.int .i64 16)), none⟩])
  (.cond (.t 11)
   (.seq (.region false [⟨(some 2), .mov (.c (.int .i64 (-1))), none⟩,
     ⟨(some 3), .mov (.c (.int .i64 3)), none⟩])
   (.ret))
   (.skip)))
  (.seq (.seq (.region false [⟨(some 12), .fldA 1 (.t 1), none⟩,
    ⟨(some 13), .ld none (.t 12), none⟩,
    ⟨(some 14), .len (.t 13), none⟩,
    ⟨(some 15), .fldA 0 (.t 1), none⟩,
    ⟨(some 16), .ld none (.t 15), none⟩,
    ⟨(some 17), .len (.t 16), none⟩,
    ⟨(some 18), .bin .neq (.t 14) (.t 17), none⟩])
  (.cond (.t 18)
   (.seq (.region false [⟨(some 2), .mov (.c (.int .i64 (-1))), none⟩,
     ⟨(some 3), .mov (.c (.int .i64 6)), none⟩])
   (.ret))
   (.skip)))
  (.seq (.seq (.region false [⟨(some 4), .mov (.c (.int .i64 0)), none⟩])
  (.block 0 (.loop A_ref13_CheckL0)))
  (.seq (.region false [⟨(some 2), .mov (.c (.int .i64 0)), none⟩,
    ⟨(some 3), .mov (.c (.int .i64 0)), none⟩])
  (.ret))))),
  [.tmp 2, .tmp 3]⟩

/- tables_Rows -/
/- ref13_Rows -/
/- tables_Column -/
/- ref13_Column -/
/- tables_Find -/
def A_tables_Find : AFun := ⟨28,
  .seq (.region false [⟨(some 3), .box (.t 0), none⟩,
    ⟨(some 6), .mov (.c (.int .i64 0)), none⟩,
    ⟨(some 7), .mov (.c (.int .i64 0)), none⟩])
  (.seq (.region false [⟨(some 10), .mov (.t 1), none⟩,
    ⟨(some 11), .call F_tables_at [(.t 3), (.t 10)], none⟩,
    ⟨(some 9), .mov (.t 11), none⟩,
    ⟨(some 12), .extr (.t 9) 0, none⟩,
    ⟨(some 13), .extr (.t 9) 1, none⟩,
    ⟨(some 8), .mov (.t 12), none⟩,
    ⟨(some 7), .mov (.t 13), none⟩])
  (.seq (.seq (.region false [⟨(some 14), .mov (.t 7), none⟩,
    ⟨(some 15), .bin .neq (.t 14) (.c (.int .i64 0)), none⟩])
  (.cond (.t 15)
   (.seq (.region false [⟨(some 16), .mov (.t 7), none⟩,
     ⟨(some 6), .mov (.c (.int .i64 0)), none⟩,
     ⟨(some 7), .mov (.t 16), none⟩])
   (.ret))
   (.skip)))
  (.seq (.seq (.region false [⟨(some 17), .fldA 1 (.t 3), none⟩,
    ⟨(some 18), .ld none (.t 17), none⟩,
    ⟨(some 19), .mov (.t 8), none⟩,
    ⟨(some 20), .idxA 5 (.t 18) (.t 19), none⟩,
    ⟨(some 21), .fldA 4 (.t 20), none⟩,
    ⟨(some 22), .ld none (.t 21), none⟩,
    ⟨(some 23), .mov (.t 2), none⟩,
    ⟨(some 24), .call F_slices_Index_int64_int64 [(.t 22), (.t 23)], none⟩,
    ⟨(some 6), .mov (.t 24), none⟩])
  (.seq (.region false [⟨(some 25), .mov (.t 6), none⟩,
    ⟨(some 26), .bin .lss (.t 25) (.c (.int .i64 0)), none⟩])
  (.cond (.t 26)
   (.seq (.region false [⟨(some 6), .mov (.c (.int .i64 0)), none⟩,
     ⟨(some 7), .mov (.c (.int .i64 4)), none⟩])
   (.ret))
   (.skip))))
  (.seq (.region false [⟨(some 27), .mov (.t 6), none⟩,
    ⟨(some 6), .mov (.t 27), none⟩,
    ⟨(some 7), .mov (.c (.int .i64 0)), none⟩])
  (.ret))))),
  [.tmp 6, .tmp 7]⟩

/- ref13_Find -/
/- ref06_Same -/
def A_ref06_SameL0 : ACode :=
  .seq (.seq (.region false [⟨(some 19), .mov (.t 5), none⟩,
    ⟨(some 20), .fldA 4 (.t 2), none⟩,
    ⟨(some 21), .ld none (.t 20), none⟩,
    ⟨(some 22), .len (.t 21), none⟩,
    ⟨(some 23), .bin .lss (.t 19) (.t 22), none⟩])
  (.cond (.t 23)
   (.skip)
   (.exit 0)))
  (.seq (.block 1 (.seq (.region true [⟨(some 26), .fldA 4 (.t 2), none⟩,
    ⟨(some 27), .ld none (.t 26), none⟩,
    ⟨(some 28), .mov (.t 5), none⟩,
    ⟨(some 29), .idxA 1 (.t 27) (.t 28), none⟩,
    ⟨(some 30), .ld none (.t 29), none⟩,
    ⟨(some 31), .fldA 4 (.t 3), none⟩,
    ⟨(some 32), .ld none (.t 31), none⟩,
    ⟨(some 33), .mov (.t 5), none⟩,
    ⟨(some 34), .idxA 1 (.t 32) (.t 33), none⟩,
    ⟨(some 35), .ld none (.t 34), none⟩,
    ⟨(some 36), .bin .neq (.t 30) (.t 35), none⟩])
  (.cond (.t 36)
   (.seq (.region false [⟨(some 4), .mov (.c (.bool false)), none⟩])
   (.ret))
   (.skip))))
  (.region false [⟨(some 24), .mov (.t 5), none⟩,
    ⟨(some 25), .bin .add (.t 24) (.c (.int .i64 1)), none⟩,
    ⟨(some 5), .mov (.t 25), none⟩]))
def A_ref06_Same : AFun := ⟨37,
  .seq (.region false [⟨(some 2), .box (.t 0), none⟩,
    ⟨(some 3), .box (.t 1), none⟩,
    ⟨(some 4), .mov (.c (.bool false)), none⟩])
  (.seq (.seq (.region false [⟨(some 6), .ld (some 5) (.t 2), none⟩,
    ⟨(some 7), .ld (some 5) (.t 3), none⟩,
    ⟨(some 8), .call F_ref06_Like [(.t 6), (.t 7)], none⟩,
    ⟨(some 9), .not (.t 8), none⟩,
    ⟨(some 10), .mov (.t 9), none⟩,
    ⟨(some 11), .fldA 4 (.t 2), some (10, false)⟩,
    ⟨(some 12), .ld none (.t 11), some (10, false)⟩,
    ⟨(some 13), .len (.t 12), some (10, false)⟩,
    ⟨(some 14), .fldA 4 (.t 3), some (10, false)⟩,
    ⟨(some 15), .ld none (.t 14), some (10, false)⟩,
    ⟨(some 16), .len (.t 15), some (10, false)⟩,
    ⟨(some 17), .bin .neq (.t 13) (.t 16), some (10, false)⟩,
    ⟨(some 18), .pick (.t 10) (.c (.bool true)) (.t 17), none⟩])
  (.cond (.t 18)
   (.seq (.region false [⟨(some 4), .mov (.c (.bool false)), none⟩])
   (.ret))
   (.skip)))
  (.seq (.seq (.region false [⟨(some 5), .mov (.c (.int .i64 0)), none⟩])
  (.block 0 (.loop A_ref06_SameL0)))
  (.seq (.region false [⟨(some 4), .mov (.c (.bool true)), none⟩])
  (.ret)))),
  [.tmp 4]⟩

/- tables_Add -/
def A_tables_Add : AFun := ⟨46,
  .seq (.region false [⟨(some 3), .box (.t 0), none⟩,
    ⟨(some 5), .box (.t 2), none⟩,
    ⟨(some 6), .alloc [.sl .ex [], .sl .ex []], none⟩,
    ⟨(some 7), .mov (.c (.int .i64 0)), none⟩])
  (.seq (.seq (.region false [⟨(some 14), .ld (some 2) (.t 3), none⟩,
    ⟨(some 15), .call F_tables_Check [(.t 14)], none⟩,
    ⟨(some 13), .mov (.t 15), none⟩,
    ⟨(some 16), .extr (.t 13) 0, none⟩,
    ⟨(some 17), .extr (.t 13) 1, none⟩,
    ⟨(some 8), .mov (.t 16), none⟩,
    ⟨(some 9), .mov (.t 17), none⟩])
  (.seq (.region false [⟨(some 18), .mov (.t 9), none⟩,
    ⟨(some 19), .bin .neq (.t 18) (.c (.int .i64 0)), none⟩])
  (.cond (.t 19)
   (.seq (.region false [⟨(some 20), .build [.sl .ex [], .sl .ex []] [], none⟩,
     ⟨(some 21), .mov (.t 9), none⟩,
     ⟨none, .st 2 (.t 6) (.t 20), none⟩,
     ⟨(some 7), .mov (.t 21), none⟩])
   (.ret))
   (.skip))))
  (.seq (.region false [⟨(some 22), .call F_tables_each [(.t 3), (.c (.clo F_tables_clone [] []))], none⟩,
    ⟨(some 10), .alloc [.sl .ex [], .sl .ex []], none⟩,
    ⟨none, .st 2 (.t 10) (.t 22), none⟩])
  (.seq (.region true [⟨(some 23), .fldA 0 (.t 10), none⟩,
    ⟨(some 24), .ld none (.t 23), none⟩,
    ⟨(some 25), .mov (.t 1), none⟩,
    ⟨(some 26), .bsl 1 (.str []) 1 [(0, (.t 25))], none⟩,
    ⟨(some 27), .app 1 16 (.t 24) (.t 26), none⟩,
    ⟨(some 28), .fldA 1 (.t 10), none⟩,
    ⟨(some 29), .ld none (.t 28), none⟩,
    ⟨(some 30), .ld (some 5) (.t 5), none⟩,
    ⟨(some 31), .call F_tables_clone [(.t 30)], none⟩,
    ⟨(some 32), .bsl 5 (.agg [.int .i64 0, .int .i64 0, .int .i64 0, .int .i64 0, .sl .ex []]) 1 [(0, (.t 31))], none⟩,
    ⟨(some 33), .app 5 56 (.t 29) (.t 32), none⟩,
    ⟨(some 34), .fldA 0 (.t 10), none⟩,
    ⟨none, .st 1 (.t 34) (.t 27), none⟩,
    ⟨(some 35), .fldA 1 (.t 10), none⟩,
    ⟨none, .st 1 (.t 35) (.t 33), none⟩])
  (.seq (.seq (.region false [⟨(some 37), .ld (some 2) (.t 10), none⟩,
    ⟨(some 38), .call F_tables_Check [(.t 37)], none⟩,
    ⟨(some 36), .mov (.t 38), none⟩,
    ⟨(some 39), .extr (.t 36) 0, none⟩,
    ⟨(some 40), .extr (.t 36) 1, none⟩,
    ⟨(some 11), .mov (.t 39), none⟩,
    ⟨(some 12), .mov (.t 40), none⟩])
  (.seq (.region false [⟨(some 41), .mov (.t 12), none⟩,
    ⟨(some 42), .bin .neq (.t 41) (.c (.int .i64 0)), none⟩])
  (.cond (.t 42)
   (.seq (.region false [⟨(some 43), .build [.sl .ex [], .sl .ex []] [], none⟩,
     ⟨(some 44), .mov (.t 12), none⟩,
     ⟨none, .st 2 (.t 6) (.t 43), none⟩,
     ⟨(some 7), .mov (.t 44), none⟩])
   (.ret))
   (.skip))))
  (.seq (.region false [⟨(some 45), .ld (some 2) (.t 10), none⟩,
    ⟨none, .st 2 (.t 6) (.t 45), none⟩,
    ⟨(some 7), .mov (.c (.int .i64 0)), none⟩])
  (.ret)))))),
  [.cell (some 2) 6, .tmp 7]⟩

/- ref13_Add -/
def A_ref13_Add : AFun := ⟨45,
  .seq (.region false [⟨(some 3), .box (.t 0), none⟩,
    ⟨(some 5), .box (.t 2), none⟩,
    ⟨(some 6), .alloc [.sl .ex [], .sl .ex []], none⟩,
    ⟨(some 7), .mov (.c (.int .i64 0)), none⟩])
  (.seq (.region false [⟨(some 12), .ld (some 2) (.t 3), none⟩,
    ⟨(some 13), .call F_ref13_Check [(.t 12)], none⟩,
    ⟨(some 11), .mov (.t 13), none⟩,
    ⟨(some 14), .extr (.t 11) 0, none⟩,
    ⟨(some 15), .extr (.t 11) 1, none⟩,
    ⟨(some 8), .mov (.t 14), none⟩,
    ⟨(some 9), .mov (.t 15), none⟩])
  (.seq (.seq (.region false [⟨(some 16), .mov (.t 9), none⟩,
    ⟨(some 17), .bin .neq (.t 16) (.c (.int .i64 0)), none⟩])
  (.cond (.t 17)
   (.seq (.region false [⟨(some 18), .build [.sl .ex [], .sl .ex []] [], none⟩,
     ⟨(some 19), .mov (.t 9), none⟩,
     ⟨none, .st 2 (.t 6) (.t 18), none⟩,
     ⟨(some 7), .mov (.t 19), none⟩])
   (.ret))
   (.skip)))
  (.seq (.region true [⟨(some 20), .bsl 1 (.str []) 0 [], none⟩,
    ⟨(some 21), .fldA 0 (.t 3), none⟩,
    ⟨(some 22), .ld none (.t 21), none⟩,
    ⟨(some 23), .app 1 16 (.t 20) (.t 22), none⟩,
    ⟨(some 24), .mov (.t 1), none⟩,
    ⟨(some 25), .bsl 1 (.str []) 1 [(0, (.t 24))], none⟩,
    ⟨(some 26), .app 1 16 (.t 23) (.t 25), none⟩,
    ⟨(some 27), .bsl 5 (.agg [.int .i64 0, .int .i64 0, .int .i64 0, .int .i64 0, .sl .ex []]) 0 [], none⟩,
    ⟨(some 28), .fldA 1 (.t 3), none⟩,
    ⟨(some 29), .ld none (.t 28), none⟩,
    ⟨(some 30), .app 5 56 (.t 27) (.t 29), none⟩,
    ⟨(some 31), .ld (some 5) (.t 5), none⟩,
    ⟨(some 32), .bsl 5 (.agg [.int .i64 0, .int .i64 0, .int .i64 0, .int .i64 0, .sl .ex []]) 1 [(0, (.t 31))], none⟩,
    ⟨(some 33), .app 5 56 (.t 30) (.t 32), none⟩,
    ⟨(some 34), .build [.sl .ex [], .sl .ex []] [(0, 1, (.t 26)), (1, 1, (.t 33))], none⟩,
    ⟨(some 10), .mov (.c (.undef)), none⟩,
    ⟨(some 10), .boxS 2 (.t 34), none⟩])
  (.seq (.region false [⟨(some 36), .ld (some 2) (.t 10), none⟩,
    ⟨(some 37), .call F_ref13_Check [(.t 36)], none⟩,
    ⟨(some 35), .mov (.t 37), none⟩,
    ⟨(some 38), .extr (.t 35) 0, none⟩,
    ⟨(some 39), .extr (.t 35) 1, none⟩,
    ⟨(some 9), .mov (.t 39), none⟩])
  (.seq (.seq (.region false [⟨(some 40), .mov (.t 9), none⟩,
    ⟨(some 41), .bin .neq (.t 40) (.c (.int .i64 0)), none⟩])
  (.cond (.t 41)
   (.seq (.region false [⟨(some 42), .build [.sl .ex [], .sl .ex []] [], none⟩,
     ⟨(some 43), .mov (.t 9), none⟩,
     ⟨none, .st 2 (.t 6) (.t 42), none⟩,
     ⟨(some 7), .mov (.t 43), none⟩])
   (.ret))
   (.skip)))
  (.seq (.region false [⟨(some 44), .ld (some 2) (.t 10), none⟩,
    ⟨none, .st 2 (.t 6) (.t 44), none⟩,
    ⟨(some 7), .mov (.c (.int .i64 0)), none⟩])
  (.ret))))))),
  [.cell (some 2) 6, .tmp 7]⟩

/- tables_Drop -/
/- ref13_Drop -/
def A_ref13_Drop : AFun := ⟨51,
  .seq (.region false [⟨(some 2), .box (.t 0), none⟩,
    ⟨(some 4), .alloc [.sl .ex [], .sl .ex []], none⟩,
    ⟨(some 5), .mov (.c (.int .i64 0)), none⟩])
  (.seq (.region false [⟨(some 10), .ld (some 2) (.t 2), none⟩,
    ⟨(some 11), .mov (.t 1), none⟩,
    ⟨(some 12), .call F_ref13_at [(.t 10), (.t 11)], none⟩,
    ⟨(some 9), .mov (.t 12), none⟩,
    ⟨(some 13), .extr (.t 9) 0, none⟩,
    ⟨(some 14), .extr (.t 9) 1, none⟩,
    ⟨(some 6), .mov (.t 13), none⟩,
    ⟨(some 7), .mov (.t 14), none⟩])
  (.seq (.seq (.region false [⟨(some 15), .mov (.t 7), none⟩,
    ⟨(some 16), .bin .neq (.t 15) (.c (.int .i64 0)), none⟩])
  (.cond (.t 16)
   (.seq (.region false [⟨(some 17), .build [.sl .ex [], .sl .ex []] [], none⟩,
     ⟨(some 18), .mov (.t 7), none⟩,
     ⟨none, .st 2 (.t 4) (.t 17), none⟩,
     ⟨(some 5), .mov (.t 18), none⟩])
   (.ret))
   (.skip)))
  (.seq (.region true [⟨(some 19), .bsl 1 (.str []) 0 [], none⟩,
    ⟨(some 20), .fldA 0 (.t 2), none⟩,
    ⟨(some 21), .ld none (.t 20), none⟩,
    ⟨(some 22), .mov (.t 6), none⟩,
    ⟨(some 23), .sls 1 (.t 21) none (some (.t 22)) none, none⟩,
    ⟨(some 24), .app 1 16 (.t 19) (.t 23), none⟩,
    ⟨(some 25), .bsl 5 (.agg [.int .i64 0, .int .i64 0, .int .i64 0, .int .i64 0, .sl .ex []]) 0 [], none⟩,
    ⟨(some 26), .fldA 1 (.t 2), none⟩,
    ⟨(some 27), .ld none (.t 26), none⟩,
    ⟨(some 28), .mov (.t 6), none⟩,
    ⟨(some 29), .sls 5 (.t 27) none (some (.t 28)) none, none⟩,
    ⟨(some 30), .app 5 56 (.t 25) (.t 29), none⟩,
    ⟨(some 31), .build [.sl .ex [], .sl .ex []] [(0, 1, (.t 24)), (1, 1, (.t 30))], none⟩,
    ⟨(some 8), .mov (.c (.undef)), none⟩,
    ⟨(some 8), .boxS 2 (.t 31), none⟩])
  (.seq (.region true [⟨(some 32), .fldA 0 (.t 8), none⟩,
    ⟨(some 33), .ld none (.t 32), none⟩,
    ⟨(some 34), .fldA 0 (.t 2), none⟩,
    ⟨(some 35), .ld none (.t 34), none⟩,
    ⟨(some 36), .mov (.t 6), none⟩,
    ⟨(some 37), .bin .add (.t 36) (.c (.int .i64 1)), none⟩,
    ⟨(some 38), .sls 1 (.t 35) (some (.t 37)) none none, none⟩,
    ⟨(some 39), .app 1 16 (.t 33) (.t 38), none⟩,
    ⟨(some 40), .fldA 1 (.t 8), none⟩,
    ⟨(some 41), .ld none (.t 40), none⟩,
    ⟨(some 42), .fldA 1 (.t 2), none⟩,
    ⟨(some 43), .ld none (.t 42), none⟩,
    ⟨(some 44), .mov (.t 6), none⟩,
    ⟨(some 45), .bin .add (.t 44) (.c (.int .i64 1)), none⟩,
    ⟨(some 46), .sls 5 (.t 43) (some (.t 45)) none none, none⟩,
    ⟨(some 47), .app 5 56 (.t 41) (.t 46), none⟩,
    ⟨(some 48), .fldA 0 (.t 8), none⟩,
    ⟨none, .st 1 (.t 48) (.t 39), none⟩,
    ⟨(some 49), .fldA 1 (.t 8), none⟩,
    ⟨none, .st 1 (.t 49) (.t 47), none⟩])
  (.seq (.region false [⟨(some 50), .ld (some 2) (.t 8), none⟩,
    ⟨none, .st 2 (.t 4) (.t 50), none⟩,
    ⟨(some 5), .mov (.c (.int .i64 0)), none⟩])
  (.ret)))))),
  [.cell (some 2) 4, .tmp 5]⟩

/- law13_example -/
def A_law13_example : AFun := ⟨8,
  .seq (.region false [⟨(some 0), .alloc [.sl .ex [], .sl .ex []], none⟩])
  (.seq (.region false [⟨(some 1), .bsl 1 (.str []) 2 [(0, (.c (.str [109, 97, 114, 107]))), (1, (.c (.str [110, 97, 109, 101])))], none⟩,
    ⟨(some 2), .bsl 1 (.int .i64 0) 3 [(0, (.c (.int .i64 3))), (1, (.c (.int .i64 1))), (2, (.c (.int .i64 3)))], none⟩,
    ⟨(some 3), .call F_law13_vector [(.c (.int .i64 1)), (.t 2)], none⟩,
    ⟨(some 4), .bsl 1 (.int .i64 0) 3 [(0, (.c (.int .i64 99))), (1, (.c (.int .i64 97))), (2, (.c (.int .i64 98)))], none⟩,
    ⟨(some 5), .call F_law13_vector [(.c (.int .i64 2)), (.t 4)], none⟩,
    ⟨(some 6), .bsl 5 (.agg [.int .i64 0, .int .i64 0, .int .i64 0, .int .i64 0, .sl .ex []]) 2 [(0, (.t 3)), (1, (.t 5))], none⟩,
    ⟨(some 7), .build [.sl .ex [], .sl .ex []] [(0, 1, (.t 1)), (1, 1, (.t 6))], none⟩,
    ⟨none, .st 2 (.t 0) (.t 7), none⟩])
  (.ret)),
  [.cell (some 2) 0]⟩

/- tables_Print -/
def A_tables_PrintL1 : ACode :=
  .seq (.region false [⟨(some 43), .bin .lss (.t 42) (.t 41), none⟩])
  (.seq (.cond (.t 43)
   (.skip)
   (.exit 2))
  (.seq (.block 3 (.seq (.region false [⟨(some 44), .idxA 1 (.t 40) (.t 42), none⟩,
    ⟨(some 45), .ld none (.t 44), none⟩,
    ⟨(some 11), .mov (.t 45), none⟩])
  (.region false [⟨(some 46), .mov (.t 11), none⟩,
    ⟨(some 47), .call F_words_Digits [(.t 46)], none⟩,
    ⟨(some 48), .bin .add (.c (.str [32])) (.t 47), none⟩,
    ⟨(some 49), .call F_strings_Builder_WriteString [(.t 6), (.t 48)], none⟩])))
  (.region false [⟨(some 50), .bin .add (.t 42) (.c (.int .i64 1)), none⟩,
    ⟨(some 42), .mov (.t 50), none⟩])))
def A_tables_PrintL0 : ACode :=
  .seq (.region false [⟨(some 24), .bin .lss (.t 23) (.t 22), none⟩])
  (.seq (.cond (.t 24)
   (.skip)
   (.exit 0))
  (.seq (.block 1 (.seq (.region false [⟨(some 25), .mov (.t 23), none⟩,
    ⟨(some 26), .idxA 5 (.t 21) (.t 23), none⟩,
    ⟨(some 27), .ld (some 5) (.t 26), none⟩,
    ⟨(some 8), .alloc [.int .i64 0, .int .i64 0, .int .i64 0, .int .i64 0, .sl .ex []], none⟩,
    ⟨(some 7), .mov (.t 25), none⟩,
    ⟨none, .st 5 (.t 8) (.t 27), none⟩])
  (.seq (.region false [⟨(some 9), .mov (.c (.str [32, 105, 110, 116])), none⟩])
  (.seq (.seq (.region false [⟨(some 28), .fldA 0 (.t 8), none⟩,
    ⟨(some 29), .ld none (.t 28), none⟩,
    ⟨(some 30), .bin .eql (.t 29) (.c (.int .i64 2)), none⟩])
  (.cond (.t 30)
   (.region false [⟨(some 9), .mov (.c (.str [32, 99, 104, 97, 114])), none⟩])
   (.skip)))
  (.seq (.region false [⟨(some 31), .fldA 0 (.t 1), none⟩,
    ⟨(some 32), .ld none (.t 31), none⟩,
    ⟨(some 33), .mov (.t 7), none⟩,
    ⟨(some 34), .idxA 1 (.t 32) (.t 33), none⟩,
    ⟨(some 35), .ld none (.t 34), none⟩,
    ⟨(some 36), .mov (.t 9), none⟩,
    ⟨(some 37), .bin .add (.t 35) (.t 36), none⟩,
    ⟨(some 38), .call F_strings_Builder_WriteString [(.t 6), (.t 37)], none⟩])
  (.seq (.seq (.region false [⟨(some 39), .fldA 4 (.t 8), none⟩,
    ⟨(some 40), .ld none (.t 39), none⟩,
    ⟨(some 41), .len (.t 40), none⟩,
    ⟨(some 42), .mov (.c (.int .i64 0)), none⟩])
  (.block 2 (.loop A_tables_PrintL1)))
  (.region false [⟨(some 51), .call F_strings_Builder_WriteByte [(.t 6), (.c (.int .u8 10))], none⟩])))))))
  (.region false [⟨(some 52), .bin .add (.t 23) (.c (.int .i64 1)), none⟩,
    ⟨(some 23), .mov (.t 52), none⟩])))
def A_tables_Print : AFun := ⟨54,
  .seq (.region false [⟨(some 1), .box (.t 0), none⟩,
    ⟨(some 2), .mov (.c (.str [])), none⟩,
    ⟨(some 3), .mov (.c (.int .i64 0)), none⟩])
  (.seq (.seq (.region false [⟨(some 13), .ld (some 2) (.t 1), none⟩,
    ⟨(some 14), .call F_tables_Check [(.t 13)], none⟩,
    ⟨(some 12), .mov (.t 14), none⟩,
    ⟨(some 15), .extr (.t 12) 0, none⟩,
    ⟨(some 16), .extr (.t 12) 1, none⟩,
    ⟨(some 4), .mov (.t 15), none⟩,
    ⟨(some 5), .mov (.t 16), none⟩])
  (.seq (.region false [⟨(some 17), .mov (.t 5), none⟩,
    ⟨(some 18), .bin .neq (.t 17) (.c (.int .i64 0)), none⟩])
  (.cond (.t 18)
   (.seq (.region false [⟨(some 19), .mov (.t 5), none⟩,
     ⟨(some 2), .mov (.c (.str [])), none⟩,
     ⟨(some 3), .mov (.t 19), none⟩])
   (.ret))
   (.skip))))
  (.seq (.region false [⟨(some 6), .allocB 78 5, none⟩])
  (.seq (.seq (.region false [⟨(some 20), .fldA 1 (.t 1), none⟩,
    ⟨(some 21), .ld none (.t 20), none⟩,
    ⟨(some 22), .len (.t 21), none⟩,
    ⟨(some 23), .mov (.c (.int .i64 0)), none⟩])
  (.block 0 (.loop A_tables_PrintL0)))
  (.seq (.region false [⟨(some 53), .call F_strings_Builder_String [(.t 6)], none⟩,
    ⟨(some 2), .mov (.t 53), none⟩,
    ⟨(some 3), .mov (.c (.int .i64 0)), none⟩])
  (.ret))))),
  [.tmp 2, .tmp 3]⟩

/- law13_vector -/
def A_law13_vector : AFun := ⟨11,
  .seq (.region false [⟨(some 4), .alloc [.int .i64 0, .int .i64 0, .int .i64 0, .int .i64 0, .sl .ex []], none⟩])
  (.seq (.region false [⟨(some 5), .mov (.t 0), none⟩,
    ⟨(some 6), .mov (.t 1), none⟩,
    ⟨(some 7), .len (.t 6), none⟩,
    ⟨(some 8), .build [.int .i64 0, .int .i64 0] [(0, 1, (.t 7)), (1, 1, (.c (.int .i64 0)))], none⟩,
    ⟨(some 9), .mov (.t 1), none⟩,
    ⟨(some 10), .build [.int .i64 0, .int .i64 0, .int .i64 0, .int .i64 0, .sl .ex []] [(0, 1, (.t 5)), (1, 1, (.c (.int .i64 1))), (2, 2, (.t 8)), (4, 1, (.t 9))], none⟩,
    ⟨none, .st 5 (.t 4) (.t 10), none⟩])
  (.ret)),
  [.cell (some 5) 4]⟩

/- tables_many -/
def A_tables_many : AFun := ⟨17,
  .seq (.region false [⟨(some 2), .mov (.c (.int .i64 0)), none⟩])
  (.seq (.seq (.region false [⟨(some 3), .mov (.t 0), none⟩,
    ⟨(some 4), .nck (.t 3), none⟩,
    ⟨(some 5), .fldA 1 (.t 4), none⟩,
    ⟨(some 6), .ld none (.t 5), none⟩,
    ⟨(some 7), .len (.t 6), none⟩,
    ⟨(some 8), .bin .eql (.t 7) (.c (.int .i64 0)), none⟩])
  (.cond (.t 8)
   (.seq (.region false [⟨(some 2), .mov (.c (.int .i64 0)), none⟩])
   (.ret))
   (.skip)))
  (.seq (.region false [⟨(some 9), .mov (.t 0), none⟩,
    ⟨(some 10), .nck (.t 9), none⟩,
    ⟨(some 11), .fldA 1 (.t 10), none⟩,
    ⟨(some 12), .ld none (.t 11), none⟩,
    ⟨(some 13), .idxA 5 (.t 12) (.c (.int .i64 0)), none⟩,
    ⟨(some 14), .fldA 2 (.t 13), none⟩,
    ⟨(some 15), .idxP 2 1 (.t 14) (.c (.int .i64 0)), none⟩,
    ⟨(some 16), .ld none (.t 15), none⟩,
    ⟨(some 2), .mov (.t 16), none⟩])
  (.ret))),
  [.tmp 2]⟩

/- slices_IndexFunc_int_int -/
def A_slices_IndexFunc_int_intL0 : ACode :=
  .seq (.region false [⟨(some 9), .bin .lss (.t 8) (.t 7), none⟩])
  (.seq (.cond (.t 9)
   (.skip)
   (.exit 0))
  (.seq (.block 1 (.seq (.region false [⟨(some 10), .mov (.t 8), none⟩,
    ⟨(some 5), .mov (.t 10), none⟩])
  (.seq (.region false [⟨(some 11), .mov (.t 1), none⟩,
    ⟨(some 12), .mov (.t 0), none⟩,
    ⟨(some 13), .mov (.t 5), none⟩,
    ⟨(some 14), .idxA 1 (.t 12) (.t 13), none⟩,
    ⟨(some 15), .ld none (.t 14), none⟩,
    ⟨(some 16), .callv (.t 11) [(.t 15)], none⟩])
  (.cond (.t 16)
   (.seq (.region false [⟨(some 17), .mov (.t 5), none⟩,
     ⟨(some 4), .mov (.t 17), none⟩])
   (.ret))
   (.skip)))))
  (.region false [⟨(some 18), .bin .add (.t 8) (.c (.int .i64 1)), none⟩,
    ⟨(some 8), .mov (.t 18), none⟩])))
def A_slices_IndexFunc_int_int : AFun := ⟨19,
  .seq (.region false [⟨(some 4), .mov (.c (.int .i64 0)), none⟩])
  (.seq (.seq (.region false [⟨(some 6), .mov (.t 0), none⟩,
    ⟨(some 7), .len (.t 6), none⟩,
    ⟨(some 8), .mov (.c (.int .i64 0)), none⟩])
  (.block 0 (.loop A_slices_IndexFunc_int_intL0)))
  (.seq (.region false [⟨(some 4), .mov (.c (.int .i64 (-1))), none⟩])
  (.ret))),
  [.tmp 4]⟩

/- tables_Take_1 -/
/- tables_taken -/
def A_tables_taken : AFun := ⟨8,
  .seq (.region false [⟨(some 3), .box (.t 1), none⟩,
    ⟨(some 4), .alloc [.sl .ex [], .sl .ex []], none⟩])
  (.seq (.region false [⟨(some 5), .mov (.t 0), none⟩,
    ⟨(some 6), .mkf F_tables_taken_1 [] [(.t 3)], none⟩,
    ⟨(some 7), .call F_tables_each [(.t 5), (.t 6)], none⟩,
    ⟨none, .st 2 (.t 4) (.t 7), none⟩])
  (.ret)),
  [.cell (some 2) 4]⟩

/- ref13_rows -/
/- ref13_taken -/
/- tables_at -/
def A_tables_at : AFun := ⟨28,
  .seq (.region false [⟨(some 4), .mov (.c (.int .i64 0)), none⟩,
    ⟨(some 5), .mov (.c (.int .i64 0)), none⟩])
  (.seq (.seq (.region false [⟨(some 10), .mov (.t 0), none⟩,
    ⟨(some 11), .nck (.t 10), none⟩,
    ⟨(some 12), .ld (some 2) (.t 11), none⟩,
    ⟨(some 13), .call F_tables_Check [(.t 12)], none⟩,
    ⟨(some 9), .mov (.t 13), none⟩,
    ⟨(some 14), .extr (.t 9) 0, none⟩,
    ⟨(some 15), .extr (.t 9) 1, none⟩,
    ⟨(some 6), .mov (.t 14), none⟩,
    ⟨(some 7), .mov (.t 15), none⟩])
  (.seq (.region false [⟨(some 16), .mov (.t 7), none⟩,
    ⟨(some 17), .bin .neq (.t 16) (.c (.int .i64 0)), none⟩])
  (.cond (.t 17)
   (.seq (.region false [⟨(some 18), .mov (.t 7), none⟩,
     ⟨(some 4), .mov (.c (.int .i64 0)), none⟩,
     ⟨(some 5), .mov (.t 18), none⟩])
   (.ret))
   (.skip))))
  (.seq (.seq (.region false [⟨(some 19), .mov (.t 0), none⟩,
    ⟨(some 20), .nck (.t 19), none⟩,
    ⟨(some 21), .fldA 0 (.t 20), none⟩,
    ⟨(some 22), .ld none (.t 21), none⟩,
    ⟨(some 23), .mov (.t 1), none⟩,
    ⟨(some 24), .call F_slices_Index_string_string [(.t 22), (.t 23)], none⟩,
    ⟨(some 8), .mov (.t 24), none⟩])
  (.seq (.region false [⟨(some 25), .mov (.t 8), none⟩,
    ⟨(some 26), .bin .geq (.t 25) (.c (.int .i64 0)), none⟩])
  (.cond (.t 26)
   (.seq (.region false [⟨(some 27), .mov (.t 8), none⟩,
     ⟨(some 4), .mov (.t 27), none⟩,
     ⟨(some 5), .mov (.c (.int .i64 0)), none⟩])
   (.ret))
   (.skip))))
  (.seq (.region false [⟨(some 4), .mov (.c (.int .i64 0)), none⟩,
    ⟨(some 5), .mov (.c (.int .i64 4)), none⟩])
  (.ret)))),
  [.tmp 4, .tmp 5]⟩

/- tables_ranked -/
def A_tables_rankedL0 : ACode :=
  .seq (.region false [⟨(some 12), .bin .lss (.t 11) (.t 10), none⟩])
  (.seq (.cond (.t 12)
   (.skip)
   (.exit 0))
  (.seq (.block 1 (.seq (.region false [⟨(some 13), .mov (.t 11), none⟩,
    ⟨(some 6), .mov (.t 13), none⟩])
  (.region false [⟨(some 14), .mov (.t 5), none⟩,
    ⟨(some 15), .mov (.t 6), none⟩,
    ⟨(some 16), .mov (.t 6), none⟩,
    ⟨(some 17), .idxA 1 (.t 14) (.t 15), none⟩,
    ⟨none, .st 1 (.t 17) (.t 16), none⟩])))
  (.region false [⟨(some 18), .bin .add (.t 11) (.c (.int .i64 1)), none⟩,
    ⟨(some 11), .mov (.t 18), none⟩])))
def A_tables_ranked : AFun := ⟨23,
  .seq (.region false [⟨(some 3), .box (.t 1), none⟩,
    ⟨(some 4), .mov (.c (.sl .ex [])), none⟩])
  (.seq (.region false [⟨(some 7), .mov (.t 0), none⟩,
    ⟨(some 8), .mkR 1 8 [.int .i64 0] (.t 7) (.t 7), none⟩,
    ⟨(some 5), .mov (.t 8), none⟩])
  (.seq (.seq (.region false [⟨(some 9), .mov (.t 5), none⟩,
    ⟨(some 10), .len (.t 9), none⟩,
    ⟨(some 11), .mov (.c (.int .i64 0)), none⟩])
  (.block 0 (.loop A_tables_rankedL0)))
  (.seq (.region false [⟨(some 19), .mov (.t 5), none⟩,
    ⟨(some 20), .mkf F_tables_ranked_1 [] [(.t 3)], none⟩,
    ⟨(some 21), .call F_slices_SortStableFunc_int_int [(.t 19), (.t 20)], none⟩])
  (.seq (.region false [⟨(some 22), .mov (.t 5), none⟩,
    ⟨(some 4), .mov (.t 22), none⟩])
  (.ret))))),
  [.tmp 4]⟩

/- ref13_at -/
def A_ref13_atL0 : ACode :=
  .seq (.seq (.region false [⟨(some 17), .mov (.t 8), none⟩,
    ⟨(some 18), .fldA 0 (.t 2), none⟩,
    ⟨(some 19), .ld none (.t 18), none⟩,
    ⟨(some 20), .len (.t 19), none⟩,
    ⟨(some 21), .bin .lss (.t 17) (.t 20), none⟩])
  (.cond (.t 21)
   (.skip)
   (.exit 0)))
  (.seq (.block 1 (.seq (.region false [⟨(some 24), .fldA 0 (.t 2), none⟩,
    ⟨(some 25), .ld none (.t 24), none⟩,
    ⟨(some 26), .mov (.t 8), none⟩,
    ⟨(some 27), .idxA 1 (.t 25) (.t 26), none⟩,
    ⟨(some 28), .ld none (.t 27), none⟩,
    ⟨(some 29), .mov (.t 1), none⟩,
    ⟨(some 30), .bin .eql (.t 28) (.t 29), none⟩])
  (.cond (.t 30)
   (.seq (.region false [⟨(some 31), .mov (.t 8), none⟩,
     ⟨(some 4), .mov (.t 31), none⟩,
     ⟨(some 5), .mov (.c (.int .i64 0)), none⟩])
   (.ret))
   (.skip))))
  (.region false [⟨(some 22), .mov (.t 8), none⟩,
    ⟨(some 23), .bin .add (.t 22) (.c (.int .i64 1)), none⟩,
    ⟨(some 8), .mov (.t 23), none⟩]))
def A_ref13_at : AFun := ⟨32,
  .seq (.region false [⟨(some 2), .box (.t 0), none⟩,
    ⟨(some 4), .mov (.c (.int .i64 0)), none⟩,
    ⟨(some 5), .mov (.c (.int .i64 0)), none⟩])
  (.seq (.region false [⟨(some 10), .ld (some 2) (.t 2), none⟩,
    ⟨(some 11), .call F_ref13_Check [(.t 10)], none⟩,
    ⟨(some 9), .mov (.t 11), none⟩,
    ⟨(some 12), .extr (.t 9) 0, none⟩,
    ⟨(some 13), .extr (.t 9) 1, none⟩,
    ⟨(some 6), .mov (.t 12), none⟩,
    ⟨(some 7), .mov (.t 13), none⟩])
  (.seq (.seq (.region false [⟨(some 14), .mov (.t 7), none⟩,
    ⟨(some 15), .bin .neq (.t 14) (.c (.int .i64 0)), none⟩])
  (.cond (.t 15)
   (.seq (.region false [⟨(some 16), .mov (.t 7), none⟩,
     ⟨(some 4), .mov (.c (.int .i64 0)), none⟩,
     ⟨(some 5), .mov (.t 16), none⟩])
   (.ret))
   (.skip)))
  (.seq (.seq (.region false [⟨(some 8), .mov (.c (.int .i64 0)), none⟩])
  (.block 0 (.loop A_ref13_atL0)))
  (.seq (.region false [⟨(some 4), .mov (.c (.int .i64 0)), none⟩,
    ⟨(some 5), .mov (.c (.int .i64 4)), none⟩])
  (.ret))))),
  [.tmp 4, .tmp 5]⟩

/- arrays_Check -/
def A_arrays_Check : AFun := ⟨36,
  .seq (.region false [⟨(some 1), .box (.t 0), none⟩,
    ⟨(some 2), .mov (.c (.int .i64 0)), none⟩])
  (.seq (.seq (.region false [⟨(some 5), .fldA 0 (.t 1), none⟩,
    ⟨(some 6), .ld none (.t 5), none⟩,
    ⟨(some 7), .bin .neq (.t 6) (.c (.int .i64 1)), none⟩,
    ⟨(some 8), .mov (.t 7), none⟩,
    ⟨(some 9), .fldA 0 (.t 1), some (8, true)⟩,
    ⟨(some 10), .ld none (.t 9), some (8, true)⟩,
    ⟨(some 11), .bin .neq (.t 10) (.c (.int .i64 2)), some (8, true)⟩,
    ⟨(some 12), .pick (.t 8) (.t 11) (.c (.bool false)), none⟩])
  (.cond (.t 12)
   (.seq (.region false [⟨(some 2), .mov (.c (.int .i64 2)), none⟩])
   (.ret))
   (.skip)))
  (.seq (.seq (.region false [⟨(some 14), .fldA 1 (.t 1), none⟩,
    ⟨(some 15), .ld none (.t 14), none⟩,
    ⟨(some 16), .fldA 2 (.t 1), none⟩,
    ⟨(some 17), .ld (some 2) (.t 16), none⟩,
    ⟨(some 18), .call F_shapes_Cells [(.t 15), (.t 17)], none⟩,
    ⟨(some 13), .mov (.t 18), none⟩,
    ⟨(some 19), .extr (.t 13) 0, none⟩,
    ⟨(some 20), .extr (.t 13) 1, none⟩,
    ⟨(some 3), .mov (.t 19), none⟩,
    ⟨(some 4), .mov (.t 20), none⟩])
  (.block 0 (.seq (.region false [⟨(some 22), .mov (.t 4), none⟩,
    ⟨(some 23), .bin .neq (.t 22) (.c (.int .i64 0)), none⟩,
    ⟨(some 21), .mov (.t 23), none⟩])
  (.cond (.t 21)
   (.seq (.region false [⟨(some 24), .mov (.t 4), none⟩,
     ⟨(some 2), .mov (.t 24), none⟩])
   (.ret))
   (.seq (.region false [⟨(some 26), .fldA 4 (.t 1), none⟩,
     ⟨(some 27), .ld none (.t 26), none⟩,
     ⟨(some 28), .len (.t 27), none⟩,
     ⟨(some 29), .mov (.t 3), none⟩,
     ⟨(some 30), .bin .neq (.t 28) (.t 29), none⟩,
     ⟨(some 25), .mov (.t 30), none⟩])
   (.cond (.t 25)
    (.seq (.region false [⟨(some 2), .mov (.c (.int .i64 6)), none⟩])
    (.ret))
    (.seq (.region false [⟨(some 32), .fldA 4 (.t 1), none⟩,
      ⟨(some 33), .ld none (.t 32), none⟩,
      ⟨(some 34), .mkf F_arrays_Check_1 [] [(.t 1)], none⟩,
      ⟨(some 35), .call F_slices_ContainsFunc_int64_int64 [(.t 33), (.t 34)], none⟩,
      ⟨(some 31), .mov (.t 35), none⟩])
    (.cond (.t 31)
     (.seq (.region false [⟨(some 2), .mov (.c (.int .i64 7)), none⟩])
     (.ret))
     (.skip)))))))))
  (.seq (.region false [⟨(some 2), .mov (.c (.int .i64 0)), none⟩])
  (.ret)))),
  [.tmp 2]⟩

/- words_Name -/
def A_words_Name : AFun := ⟨23,
  .seq (.region false [⟨(some 2), .mov (.c (.bool false)), none⟩])
  (.seq (.seq (.region false [⟨(some 3), .mov (.t 0), none⟩,
    ⟨(some 4), .bin .eql (.t 3) (.c (.str [])), none⟩,
    ⟨(some 5), .mov (.t 4), none⟩,
    ⟨(some 6), .mov (.t 0), some (5, false)⟩,
    ⟨(some 7), .lenS (.t 6), some (5, false)⟩,
    ⟨(some 8), .bin .gtr (.t 7) (.c (.int .i64 16)), some (5, false)⟩,
    ⟨(some 9), .pick (.t 5) (.c (.bool true)) (.t 8), none⟩,
    ⟨(some 10), .mov (.t 9), none⟩,
    ⟨(some 11), .mov (.t 0), some (10, false)⟩,
    ⟨(some 12), .idxS (.t 11) (.c (.int .i64 0)), some (10, false)⟩,
    ⟨(some 13), .bin .lss (.t 12) (.c (.int .u8 97)), some (10, false)⟩,
    ⟨(some 14), .pick (.t 10) (.c (.bool true)) (.t 13), none⟩,
    ⟨(some 15), .mov (.t 14), none⟩,
    ⟨(some 16), .mov (.t 0), some (15, false)⟩,
    ⟨(some 17), .idxS (.t 16) (.c (.int .i64 0)), some (15, false)⟩,
    ⟨(some 18), .bin .gtr (.t 17) (.c (.int .u8 122)), some (15, false)⟩,
    ⟨(some 19), .pick (.t 15) (.c (.bool true)) (.t 18), none⟩])
  (.cond (.t 19)
   (.seq (.region false [⟨(some 2), .mov (.c (.bool false)), none⟩])
   (.ret))
   (.skip)))
  (.seq (.region false [⟨(some 20), .mov (.t 0), none⟩,
    ⟨(some 21), .call F_strings_Trim [(.t 20), (.c (.str [97, 98, 99, 100, 101, 102, 103, 104, 105, 106, 107, 108, 109, 110, 111, 112, 113, 114, 115, 116, 117, 118, 119, 120, 121, 122, 48, 49, 50, 51, 52, 53, 54, 55, 56, 57, 45]))], none⟩,
    ⟨(some 22), .bin .eql (.t 21) (.c (.str [])), none⟩,
    ⟨(some 2), .mov (.t 22), none⟩])
  (.ret))),
  [.tmp 2]⟩

/- ref01_Name -/
def A_ref01_NameL0 : ACode :=
  .seq (.seq (.region false [⟨(some 18), .mov (.t 3), none⟩,
    ⟨(some 19), .mov (.t 0), none⟩,
    ⟨(some 20), .lenS (.t 19), none⟩,
    ⟨(some 21), .bin .lss (.t 18) (.t 20), none⟩])
  (.cond (.t 21)
   (.skip)
   (.exit 0)))
  (.seq (.block 1 (.seq (.region false [⟨(some 24), .mov (.t 0), none⟩,
    ⟨(some 25), .mov (.t 3), none⟩,
    ⟨(some 26), .idxS (.t 24) (.t 25), none⟩,
    ⟨(some 27), .call F_ref01_lower [(.t 26)], none⟩,
    ⟨(some 28), .not (.t 27), none⟩,
    ⟨(some 29), .mov (.t 28), none⟩,
    ⟨(some 30), .mov (.t 0), some (29, true)⟩,
    ⟨(some 31), .mov (.t 3), some (29, true)⟩,
    ⟨(some 32), .idxS (.t 30) (.t 31), some (29, true)⟩,
    ⟨(some 33), .call F_ref01_digit [(.t 32)], some (29, true)⟩,
    ⟨(some 34), .not (.t 33), some (29, true)⟩,
    ⟨(some 35), .pick (.t 29) (.t 34) (.c (.bool false)), none⟩,
    ⟨(some 36), .mov (.t 35), none⟩,
    ⟨(some 37), .mov (.t 0), some (36, true)⟩,
    ⟨(some 38), .mov (.t 3), some (36, true)⟩,
    ⟨(some 39), .idxS (.t 37) (.t 38), some (36, true)⟩,
    ⟨(some 40), .bin .neq (.t 39) (.c (.int .u8 45)), some (36, true)⟩,
    ⟨(some 41), .pick (.t 36) (.t 40) (.c (.bool false)), none⟩])
  (.cond (.t 41)
   (.seq (.region false [⟨(some 2), .mov (.c (.bool false)), none⟩])
   (.ret))
   (.skip))))
  (.region false [⟨(some 22), .mov (.t 3), none⟩,
    ⟨(some 23), .bin .add (.t 22) (.c (.int .i64 1)), none⟩,
    ⟨(some 3), .mov (.t 23), none⟩]))
def A_ref01_Name : AFun := ⟨42,
  .seq (.region false [⟨(some 2), .mov (.c (.bool false)), none⟩])
  (.seq (.seq (.region false [⟨(some 4), .mov (.t 0), none⟩,
    ⟨(some 5), .lenS (.t 4), none⟩,
    ⟨(some 6), .bin .lss (.t 5) (.c (.int .i64 1)), none⟩,
    ⟨(some 7), .mov (.t 6), none⟩,
    ⟨(some 8), .mov (.t 0), some (7, false)⟩,
    ⟨(some 9), .lenS (.t 8), some (7, false)⟩,
    ⟨(some 10), .bin .gtr (.t 9) (.c (.int .i64 16)), some (7, false)⟩,
    ⟨(some 11), .pick (.t 7) (.c (.bool true)) (.t 10), none⟩,
    ⟨(some 12), .mov (.t 11), none⟩,
    ⟨(some 13), .mov (.t 0), some (12, false)⟩,
    ⟨(some 14), .idxS (.t 13) (.c (.int .i64 0)), some (12, false)⟩,
    ⟨(some 15), .call F_ref01_lower [(.t 14)], some (12, false)⟩,
    ⟨(some 16), .not (.t 15), some (12, false)⟩,
    ⟨(some 17), .pick (.t 12) (.c (.bool true)) (.t 16), none⟩])
  (.cond (.t 17)
   (.seq (.region false [⟨(some 2), .mov (.c (.bool false)), none⟩])
   (.ret))
   (.skip)))
  (.seq (.seq (.region false [⟨(some 3), .mov (.c (.int .i64 0)), none⟩])
  (.block 0 (.loop A_ref01_NameL0)))
  (.seq (.region false [⟨(some 2), .mov (.c (.bool true)), none⟩])
  (.ret)))),
  [.tmp 2]⟩

/- ref06_Check -/
def A_ref06_CheckL0 : ACode :=
  .seq (.seq (.region false [⟨(some 31), .mov (.t 5), none⟩,
    ⟨(some 32), .fldA 4 (.t 1), none⟩,
    ⟨(some 33), .ld none (.t 32), none⟩,
    ⟨(some 34), .len (.t 33), none⟩,
    ⟨(some 35), .bin .lss (.t 31) (.t 34), none⟩,
    ⟨(some 36), .mov (.t 35), none⟩,
    ⟨(some 37), .mov (.t 4), some (36, true)⟩,
    ⟨(some 38), .bin .eql (.t 37) (.c (.int .i64 0)), some (36, true)⟩,
    ⟨(some 39), .pick (.t 36) (.t 38) (.c (.bool false)), none⟩])
  (.cond (.t 39)
   (.skip)
   (.exit 0)))
  (.seq (.block 1 (.seq (.region false [⟨(some 42), .fldA 0 (.t 1), none⟩,
    ⟨(some 43), .ld none (.t 42), none⟩,
    ⟨(some 44), .bin .eql (.t 43) (.c (.int .i64 2)), none⟩,
    ⟨(some 45), .mov (.t 44), none⟩,
    ⟨(some 46), .fldA 4 (.t 1), some (45, true)⟩,
    ⟨(some 47), .ld none (.t 46), some (45, true)⟩,
    ⟨(some 48), .mov (.t 5), some (45, true)⟩,
    ⟨(some 49), .idxA 1 (.t 47) (.t 48), some (45, true)⟩,
    ⟨(some 50), .ld none (.t 49), some (45, true)⟩,
    ⟨(some 51), .call F_ref06_rune64 [(.t 50)], some (45, true)⟩,
    ⟨(some 52), .not (.t 51), some (45, true)⟩,
    ⟨(some 53), .pick (.t 45) (.t 52) (.c (.bool false)), none⟩])
  (.cond (.t 53)
   (.region false [⟨(some 4), .mov (.c (.int .i64 7)), none⟩])
   (.skip))))
  (.region false [⟨(some 40), .mov (.t 5), none⟩,
    ⟨(some 41), .bin .add (.t 40) (.c (.int .i64 1)), none⟩,
    ⟨(some 5), .mov (.t 41), none⟩]))
def A_ref06_Check : AFun := ⟨55,
  .seq (.region false [⟨(some 1), .box (.t 0), none⟩,
    ⟨(some 2), .mov (.c (.int .i64 0)), none⟩])
  (.seq (.seq (.region false [⟨(some 6), .fldA 0 (.t 1), none⟩,
    ⟨(some 7), .ld none (.t 6), none⟩,
    ⟨(some 8), .bin .neq (.t 7) (.c (.int .i64 1)), none⟩,
    ⟨(some 9), .mov (.t 8), none⟩,
    ⟨(some 10), .fldA 0 (.t 1), some (9, true)⟩,
    ⟨(some 11), .ld none (.t 10), some (9, true)⟩,
    ⟨(some 12), .bin .neq (.t 11) (.c (.int .i64 2)), some (9, true)⟩,
    ⟨(some 13), .pick (.t 9) (.t 12) (.c (.bool false)), none⟩])
  (.cond (.t 13)
   (.seq (.region false [⟨(some 2), .mov (.c (.int .i64 2)), none⟩])
   (.ret))
   (.skip)))
  (.seq (.region false [⟨(some 15), .fldA 1 (.t 1), none⟩,
    ⟨(some 16), .ld none (.t 15), none⟩,
    ⟨(some 17), .fldA 2 (.t 1), none⟩,
    ⟨(some 18), .ld (some 2) (.t 17), none⟩,
    ⟨(some 19), .call F_ref05_Cells [(.t 16), (.t 18)], none⟩,
    ⟨(some 14), .mov (.t 19), none⟩,
    ⟨(some 20), .extr (.t 14) 0, none⟩,
    ⟨(some 21), .extr (.t 14) 1, none⟩,
    ⟨(some 3), .mov (.t 20), none⟩,
    ⟨(some 4), .mov (.t 21), none⟩])
  (.seq (.seq (.region false [⟨(some 22), .mov (.t 4), none⟩,
    ⟨(some 23), .bin .eql (.t 22) (.c (.int .i64 0)), none⟩,
    ⟨(some 24), .mov (.t 23), none⟩,
    ⟨(some 25), .fldA 4 (.t 1), some (24, true)⟩,
    ⟨(some 26), .ld none (.t 25), some (24, true)⟩,
    ⟨(some 27), .len (.t 26), some (24, true)⟩,
    ⟨(some 28), .mov (.t 3), some (24, true)⟩,
    ⟨(some 29), .bin .neq (.t 27) (.t 28), some (24, true)⟩,
    ⟨(some 30), .pick (.t 24) (.t 29) (.c (.bool false)), none⟩])
  (.cond (.t 30)
   (.region false [⟨(some 4), .mov (.c (.int .i64 6)), none⟩])
   (.skip)))
  (.seq (.seq (.region false [⟨(some 5), .mov (.c (.int .i64 0)), none⟩])
  (.block 0 (.loop A_ref06_CheckL0)))
  (.seq (.region false [⟨(some 54), .mov (.t 4), none⟩,
    ⟨(some 2), .mov (.t 54), none⟩])
  (.ret)))))),
  [.tmp 2]⟩

/- tables_clone -/
def A_tables_clone : AFun := ⟨8,
  .seq (.region false [⟨(some 1), .box (.t 0), none⟩,
    ⟨(some 2), .alloc [.int .i64 0, .int .i64 0, .int .i64 0, .int .i64 0, .sl .ex []], none⟩])
  (.seq (.region false [⟨(some 3), .fldA 4 (.t 1), none⟩,
    ⟨(some 4), .ld none (.t 3), none⟩,
    ⟨(some 5), .call F_slices_Clone_int64_int64 [(.t 4)], none⟩,
    ⟨(some 6), .fldA 4 (.t 1), none⟩,
    ⟨none, .st 1 (.t 6) (.t 5), none⟩])
  (.seq (.region false [⟨(some 7), .ld (some 5) (.t 1), none⟩,
    ⟨none, .st 5 (.t 2) (.t 7), none⟩])
  (.ret))),
  [.cell (some 5) 2]⟩

/- slices_Index_int64_int64 -/
def A_slices_Index_int64_int64L0 : ACode :=
  .seq (.region false [⟨(some 9), .bin .lss (.t 8) (.t 7), none⟩])
  (.seq (.cond (.t 9)
   (.skip)
   (.exit 0))
  (.seq (.block 1 (.seq (.region false [⟨(some 10), .mov (.t 8), none⟩,
    ⟨(some 5), .mov (.t 10), none⟩])
  (.seq (.region false [⟨(some 11), .mov (.t 1), none⟩,
    ⟨(some 12), .mov (.t 0), none⟩,
    ⟨(some 13), .mov (.t 5), none⟩,
    ⟨(some 14), .idxA 1 (.t 12) (.t 13), none⟩,
    ⟨(some 15), .ld none (.t 14), none⟩,
    ⟨(some 16), .bin .eql (.t 11) (.t 15), none⟩])
  (.cond (.t 16)
   (.seq (.region false [⟨(some 17), .mov (.t 5), none⟩,
     ⟨(some 4), .mov (.t 17), none⟩])
   (.ret))
   (.skip)))))
  (.region false [⟨(some 18), .bin .add (.t 8) (.c (.int .i64 1)), none⟩,
    ⟨(some 8), .mov (.t 18), none⟩])))
def A_slices_Index_int64_int64 : AFun := ⟨19,
  .seq (.region false [⟨(some 4), .mov (.c (.int .i64 0)), none⟩])
  (.seq (.seq (.region false [⟨(some 6), .mov (.t 0), none⟩,
    ⟨(some 7), .len (.t 6), none⟩,
    ⟨(some 8), .mov (.c (.int .i64 0)), none⟩])
  (.block 0 (.loop A_slices_Index_int64_int64L0)))
  (.seq (.region false [⟨(some 4), .mov (.c (.int .i64 (-1))), none⟩])
  (.ret))),
  [.tmp 4]⟩

/- ref06_Like -/
def A_ref06_Like : AFun := ⟨24,
  .seq (.region false [⟨(some 2), .box (.t 0), none⟩,
    ⟨(some 3), .box (.t 1), none⟩,
    ⟨(some 4), .mov (.c (.bool false)), none⟩])
  (.seq (.region false [⟨(some 5), .fldA 0 (.t 2), none⟩,
    ⟨(some 6), .ld none (.t 5), none⟩,
    ⟨(some 7), .fldA 0 (.t 3), none⟩,
    ⟨(some 8), .ld none (.t 7), none⟩,
    ⟨(some 9), .bin .eql (.t 6) (.t 8), none⟩,
    ⟨(some 10), .mov (.t 9), none⟩,
    ⟨(some 11), .fldA 1 (.t 2), some (10, true)⟩,
    ⟨(some 12), .ld none (.t 11), some (10, true)⟩,
    ⟨(some 13), .fldA 1 (.t 3), some (10, true)⟩,
    ⟨(some 14), .ld none (.t 13), some (10, true)⟩,
    ⟨(some 15), .bin .eql (.t 12) (.t 14), some (10, true)⟩,
    ⟨(some 16), .pick (.t 10) (.t 15) (.c (.bool false)), none⟩,
    ⟨(some 17), .mov (.t 16), none⟩,
    ⟨(some 18), .fldA 2 (.t 2), some (17, true)⟩,
    ⟨(some 19), .ld (some 2) (.t 18), some (17, true)⟩,
    ⟨(some 20), .fldA 2 (.t 3), some (17, true)⟩,
    ⟨(some 21), .ld (some 2) (.t 20), some (17, true)⟩,
    ⟨(some 22), .aeq false [0, 0] (.t 19) (.t 21), some (17, true)⟩,
    ⟨(some 23), .pick (.t 17) (.t 22) (.c (.bool false)), none⟩,
    ⟨(some 4), .mov (.t 23), none⟩])
  (.ret)),
  [.tmp 4]⟩

/- tables_each -/
def A_tables_eachL0 : ACode :=
  .seq (.region false [⟨(some 20), .bin .lss (.t 19) (.t 18), none⟩])
  (.seq (.cond (.t 20)
   (.skip)
   (.exit 0))
  (.seq (.block 1 (.seq (.region false [⟨(some 21), .idxA 5 (.t 17) (.t 19), none⟩,
    ⟨(some 22), .ld (some 5) (.t 21), none⟩,
    ⟨(some 7), .alloc [.int .i64 0, .int .i64 0, .int .i64 0, .int .i64 0, .sl .ex []], none⟩,
    ⟨none, .st 5 (.t 7) (.t 22), none⟩])
  (.region true [⟨(some 23), .fldA 1 (.t 5), none⟩,
    ⟨(some 24), .ld none (.t 23), none⟩,
    ⟨(some 25), .mov (.t 1), none⟩,
    ⟨(some 26), .ld (some 5) (.t 7), none⟩,
    ⟨(some 27), .callv (.t 25) [(.t 26)], none⟩,
    ⟨(some 28), .bsl 5 (.agg [.int .i64 0, .int .i64 0, .int .i64 0, .int .i64 0, .sl .ex []]) 1 [(0, (.t 27))], none⟩,
    ⟨(some 29), .app 5 56 (.t 24) (.t 28), none⟩,
    ⟨(some 30), .fldA 1 (.t 5), none⟩,
    ⟨none, .st 1 (.t 30) (.t 29), none⟩])))
  (.region false [⟨(some 31), .bin .add (.t 19) (.c (.int .i64 1)), none⟩,
    ⟨(some 19), .mov (.t 31), none⟩])))
def A_tables_each : AFun := ⟨33,
  .seq (.region false [⟨(some 4), .alloc [.sl .ex [], .sl .ex []], none⟩])
  (.seq (.region false [⟨(some 8), .mov (.t 0), none⟩,
    ⟨(some 9), .nck (.t 8), none⟩,
    ⟨(some 10), .fldA 0 (.t 9), none⟩,
    ⟨(some 11), .ld none (.t 10), none⟩,
    ⟨(some 12), .call F_slices_Clone_string_string [(.t 11)], none⟩,
    ⟨(some 13), .build [.sl .ex [], .sl .ex []] [(0, 1, (.t 12))], none⟩,
    ⟨(some 5), .alloc [.sl .ex [], .sl .ex []], none⟩,
    ⟨none, .st 2 (.t 5) (.t 13), none⟩])
  (.seq (.seq (.region false [⟨(some 14), .mov (.t 0), none⟩,
    ⟨(some 15), .nck (.t 14), none⟩,
    ⟨(some 16), .fldA 1 (.t 15), none⟩,
    ⟨(some 17), .ld none (.t 16), none⟩,
    ⟨(some 18), .len (.t 17), none⟩,
    ⟨(some 19), .mov (.c (.int .i64 0)), none⟩])
  (.block 0 (.loop A_tables_eachL0)))
  (.seq (.region false [⟨(some 32), .ld (some 2) (.t 5), none⟩,
    ⟨none, .st 2 (.t 4) (.t 32), none⟩])
  (.ret)))),
  [.cell (some 2) 4]⟩

/- words_Digits -/
def A_words_Digits : AFun := ⟨5,
  .seq (.region false [⟨(some 2), .mov (.c (.str [])), none⟩])
  (.seq (.region false [⟨(some 3), .mov (.t 0), none⟩,
    ⟨(some 4), .call F_strconv_FormatInt [(.t 3), (.c (.int .i64 10))], none⟩,
    ⟨(some 2), .mov (.t 4), none⟩])
  (.ret)),
  [.tmp 2]⟩

/- tables_taken_1 -/
def A_tables_taken_1L0 : ACode :=
  .seq (.region false [⟨(some 16), .bin .lss (.t 15) (.t 14), none⟩])
  (.seq (.cond (.t 16)
   (.skip)
   (.exit 0))
  (.seq (.block 1 (.seq (.region false [⟨(some 17), .idxA 1 (.t 13) (.t 15), none⟩,
    ⟨(some 18), .ld none (.t 17), none⟩,
    ⟨(some 6), .mov (.t 18), none⟩])
  (.region true [⟨(some 19), .fldA 4 (.t 4), none⟩,
    ⟨(some 20), .ld none (.t 19), none⟩,
    ⟨(some 21), .fldA 4 (.t 2), none⟩,
    ⟨(some 22), .ld none (.t 21), none⟩,
    ⟨(some 23), .mov (.t 6), none⟩,
    ⟨(some 24), .idxA 1 (.t 22) (.t 23), none⟩,
    ⟨(some 25), .ld none (.t 24), none⟩,
    ⟨(some 26), .bsl 1 (.int .i64 0) 1 [(0, (.t 25))], none⟩,
    ⟨(some 27), .app 1 8 (.t 20) (.t 26), none⟩,
    ⟨(some 28), .fldA 4 (.t 4), none⟩,
    ⟨none, .st 1 (.t 28) (.t 27), none⟩])))
  (.region false [⟨(some 29), .bin .add (.t 15) (.c (.int .i64 1)), none⟩,
    ⟨(some 15), .mov (.t 29), none⟩])))
def A_tables_taken_1 : AFun := ⟨31,
  .seq (.region false [⟨(some 2), .box (.t 0), none⟩,
    ⟨(some 3), .alloc [.int .i64 0, .int .i64 0, .int .i64 0, .int .i64 0, .sl .ex []], none⟩])
  (.seq (.region false [⟨(some 7), .fldA 0 (.t 2), none⟩,
    ⟨(some 8), .ld none (.t 7), none⟩,
    ⟨(some 9), .ld none (.t 1), none⟩,
    ⟨(some 10), .len (.t 9), none⟩,
    ⟨(some 11), .build [.int .i64 0, .int .i64 0] [(0, 1, (.t 10))], none⟩,
    ⟨(some 12), .build [.int .i64 0, .int .i64 0, .int .i64 0, .int .i64 0, .sl .ex []] [(0, 1, (.t 8)), (1, 1, (.c (.int .i64 1))), (2, 2, (.t 11))], none⟩,
    ⟨(some 4), .alloc [.int .i64 0, .int .i64 0, .int .i64 0, .int .i64 0, .sl .ex []], none⟩,
    ⟨none, .st 5 (.t 4) (.t 12), none⟩])
  (.seq (.seq (.region false [⟨(some 13), .ld none (.t 1), none⟩,
    ⟨(some 14), .len (.t 13), none⟩,
    ⟨(some 15), .mov (.c (.int .i64 0)), none⟩])
  (.block 0 (.loop A_tables_taken_1L0)))
  (.seq (.region false [⟨(some 30), .ld (some 5) (.t 4), none⟩,
    ⟨none, .st 5 (.t 3) (.t 30), none⟩])
  (.ret)))),
  [.cell (some 5) 3]⟩

/- slices_Index_string_string -/
def A_slices_Index_string_stringL0 : ACode :=
  .seq (.region false [⟨(some 9), .bin .lss (.t 8) (.t 7), none⟩])
  (.seq (.cond (.t 9)
   (.skip)
   (.exit 0))
  (.seq (.block 1 (.seq (.region false [⟨(some 10), .mov (.t 8), none⟩,
    ⟨(some 5), .mov (.t 10), none⟩])
  (.seq (.region false [⟨(some 11), .mov (.t 1), none⟩,
    ⟨(some 12), .mov (.t 0), none⟩,
    ⟨(some 13), .mov (.t 5), none⟩,
    ⟨(some 14), .idxA 1 (.t 12) (.t 13), none⟩,
    ⟨(some 15), .ld none (.t 14), none⟩,
    ⟨(some 16), .bin .eql (.t 11) (.t 15), none⟩])
  (.cond (.t 16)
   (.seq (.region false [⟨(some 17), .mov (.t 5), none⟩,
     ⟨(some 4), .mov (.t 17), none⟩])
   (.ret))
   (.skip)))))
  (.region false [⟨(some 18), .bin .add (.t 8) (.c (.int .i64 1)), none⟩,
    ⟨(some 8), .mov (.t 18), none⟩])))
def A_slices_Index_string_string : AFun := ⟨19,
  .seq (.region false [⟨(some 4), .mov (.c (.int .i64 0)), none⟩])
  (.seq (.seq (.region false [⟨(some 6), .mov (.t 0), none⟩,
    ⟨(some 7), .len (.t 6), none⟩,
    ⟨(some 8), .mov (.c (.int .i64 0)), none⟩])
  (.block 0 (.loop A_slices_Index_string_stringL0)))
  (.seq (.region false [⟨(some 4), .mov (.c (.int .i64 (-1))), none⟩])
  (.ret))),
  [.tmp 4]⟩

/- slices_SortStableFunc_int_int -/
def A_slices_SortStableFunc_int_int : AFun := ⟨9,
  .region false [⟨(some 4), .mov (.t 0), none⟩,
    ⟨(some 5), .mov (.t 0), none⟩,
    ⟨(some 6), .len (.t 5), none⟩,
    ⟨(some 7), .mov (.t 1), none⟩,
    ⟨(some 8), .call F_slices_stableCmpFunc_int [(.t 4), (.t 6), (.t 7)], none⟩],
  []⟩

section
variable {X : Cx} (hX : X.P = Go.Proofs.Tryz.prog)
include hX
theorem A_law13_TablesColumns_ok : compileFun X.P F_law13_TablesColumns (fun _ => false) = some A_law13_TablesColumns := by rw [hX]; kernel_rfl
theorem A_law13_Far_ok : compileFun X.P F_law13_Far (fun _ => false) = some A_law13_Far := by rw [hX]; kernel_rfl
theorem A_law13_awake_ok : compileFun X.P F_law13_awake (fun _ => false) = some A_law13_awake := by rw [hX]; kernel_rfl
theorem A_ref13_Same_ok : compileFun X.P F_ref13_Same (fun _ => false) = some A_ref13_Same := by rw [hX]; kernel_rfl
theorem A_tables_Order_ok : compileFun X.P F_tables_Order (fun _ => false) = some A_tables_Order := by rw [hX]; kernel_rfl
theorem A_ref04_Same_ok : compileFun X.P F_ref04_Same (fun _ => false) = some A_ref04_Same := by rw [hX]; kernel_rfl
theorem A_tables_Sort_ok : compileFun X.P F_tables_Sort (fun _ => false) = some A_tables_Sort := by rw [hX]; kernel_rfl
theorem A_tables_Check_ok : compileFun X.P F_tables_Check (fun _ => false) = some A_tables_Check := by rw [hX]; kernel_rfl
theorem A_ref13_Check_ok : compileFun X.P F_ref13_Check (fun _ => false) = some A_ref13_Check := by rw [hX]; kernel_rfl
theorem A_tables_Find_ok : compileFun X.P F_tables_Find (fun _ => false) = some A_tables_Find := by rw [hX]; kernel_rfl
theorem A_ref06_Same_ok : compileFun X.P F_ref06_Same (fun _ => false) = some A_ref06_Same := by rw [hX]; kernel_rfl
theorem A_tables_Add_ok : compileFun X.P F_tables_Add (fun _ => false) = some A_tables_Add := by rw [hX]; kernel_rfl
theorem A_ref13_Add_ok : compileFun X.P F_ref13_Add (fun _ => false) = some A_ref13_Add := by rw [hX]; kernel_rfl
theorem A_ref13_Drop_ok : compileFun X.P F_ref13_Drop (fun _ => false) = some A_ref13_Drop := by rw [hX]; kernel_rfl
theorem A_law13_example_ok : compileFun X.P F_law13_example (fun _ => false) = some A_law13_example := by rw [hX]; kernel_rfl
theorem A_tables_Print_ok : compileFun X.P F_tables_Print (fun _ => false) = some A_tables_Print := by rw [hX]; kernel_rfl
theorem A_law13_vector_ok : compileFun X.P F_law13_vector (fun _ => false) = some A_law13_vector := by rw [hX]; kernel_rfl
theorem A_tables_many_ok : compileFun X.P F_tables_many (fun _ => false) = some A_tables_many := by rw [hX]; kernel_rfl
theorem A_slices_IndexFunc_int_int_ok : compileFun X.P F_slices_IndexFunc_int_int (fun _ => false) = some A_slices_IndexFunc_int_int := by rw [hX]; kernel_rfl
theorem A_tables_taken_ok : compileFun X.P F_tables_taken (fun _ => false) = some A_tables_taken := by rw [hX]; kernel_rfl
theorem A_tables_at_ok : compileFun X.P F_tables_at (fun _ => false) = some A_tables_at := by rw [hX]; kernel_rfl
theorem A_tables_ranked_ok : compileFun X.P F_tables_ranked (fun _ => false) = some A_tables_ranked := by rw [hX]; kernel_rfl
theorem A_ref13_at_ok : compileFun X.P F_ref13_at (fun _ => false) = some A_ref13_at := by rw [hX]; kernel_rfl
theorem A_arrays_Check_ok : compileFun X.P F_arrays_Check (fun _ => false) = some A_arrays_Check := by rw [hX]; kernel_rfl
theorem A_words_Name_ok : compileFun X.P F_words_Name (fun _ => false) = some A_words_Name := by rw [hX]; kernel_rfl
theorem A_ref01_Name_ok : compileFun X.P F_ref01_Name (fun _ => false) = some A_ref01_Name := by rw [hX]; kernel_rfl
theorem A_ref06_Check_ok : compileFun X.P F_ref06_Check (fun _ => false) = some A_ref06_Check := by rw [hX]; kernel_rfl
theorem A_tables_clone_ok : compileFun X.P F_tables_clone (fun _ => false) = some A_tables_clone := by rw [hX]; kernel_rfl
theorem A_slices_Index_int64_int64_ok : compileFun X.P F_slices_Index_int64_int64 (fun _ => false) = some A_slices_Index_int64_int64 := by rw [hX]; kernel_rfl
theorem A_ref06_Like_ok : compileFun X.P F_ref06_Like (fun _ => false) = some A_ref06_Like := by rw [hX]; kernel_rfl
theorem A_tables_each_ok : compileFun X.P F_tables_each (fun _ => false) = some A_tables_each := by rw [hX]; kernel_rfl
theorem A_words_Digits_ok : compileFun X.P F_words_Digits (fun _ => false) = some A_words_Digits := by rw [hX]; kernel_rfl
theorem A_tables_taken_1_ok : compileFun X.P F_tables_taken_1 (fun _ => false) = some A_tables_taken_1 := by rw [hX]; kernel_rfl
theorem A_slices_Index_string_string_ok : compileFun X.P F_slices_Index_string_string (fun _ => false) = some A_slices_Index_string_string := by rw [hX]; kernel_rfl
theorem A_slices_SortStableFunc_int_int_ok : compileFun X.P F_slices_SortStableFunc_int_int (fun _ => false) = some A_slices_SortStableFunc_int_int := by rw [hX]; kernel_rfl
end
end Go.Avm
