/- The functions as they have been read. -/
import Derived.Test.YtbhdhlkjchgddaaGreatDoorA8
import Derived.Test.YtbhdhlkjchgddaaGreatDoorProg
set_option linter.unusedSectionVars false
set_option linter.unusedSimpArgs false
set_option linter.unusedVariables false

/- The functions as they have been read. -/
namespace Go.Avm
open Go
def F_law20_TypesTexts : Nat := 4
def F_law20_Large : Nat := 5
def F_law20_shown : Nat := 7
def F_types_Sees : Nat := 12
def F_types_Print : Nat := 16
def F_ref20_Print : Nat := 17
def F_types_Parse : Nat := 18
def F_ref20_Parse : Nat := 19
def F_law20_Line : Nat := 20
def F_law20_vector : Nat := 21
def F_types_Within : Nat := 22
def F_types_Raise : Nat := 23
def F_types_Check : Nat := 24
def F_types_of : Nat := 25
def F_ref03_Check : Nat := 27
def F_ref20_Low : Nat := 29
def F_types_order_check : Nat := 30
def F_types_order_label : Nat := 31
def F_types_order_leq : Nat := 32
def F_ref20_Check : Nat := 33
def F_ref20_Label : Nat := 34
def F_ref20_Leq : Nat := 35
def F_types_names : Nat := 37
def F_strconv_Itoa : Nat := 38
def F_types_each : Nat := 39
def F_types_Print_1 : Nat := 40
def F_ref20_kind : Nat := 41
def F_ref01_Digits : Nat := 42
def F_words_Split : Nat := 43
def F_slices_ContainsFunc_api_Field_api_Field : Nat := 44
def F_types_Parse_1 : Nat := 45
def F_slices_Index_string_string : Nat := 46
def F_words_Int : Nat := 47
def F_types_Parse_2 : Nat := 48
def F_lattice_Find : Nat := 49
def F_ref01_Split : Nat := 50
def F_ref01_Int : Nat := 51
def F_ref03_Find : Nat := 52
def F_ref20_Good : Nat := 53
def F_types_Join : Nat := 54
def F_types_with_up : Nat := 55
def F_lattice_Check : Nat := 56
def F_lattice_Bottom : Nat := 57
def F_ref03_names : Nat := 62
def F_ref03_ordered : Nat := 63
def F_ref03_downs : Nat := 64
def F_ref03_nearest : Nat := 65
def F_slices_ContainsFunc_int_int : Nat := 68
def F_types_order_check_1 : Nat := 69
def F_ref03_Below : Nat := 70
def F_words_fields : Nat := 72
def F_slices_IndexFunc_api_Field_api_Field : Nat := 73
def F_words_isDecimal : Nat := 74
def F_strconv_ParseInt : Nat := 75
def F_lattice_asked : Nat := 76
def F_ref01_quoted : Nat := 77
def F_ref01_bare : Nat := 78
def F_ref01_decimal : Nat := 79
def F_types_both : Nat := 80
def F_types_order_join : Nat := 81
def F_lattice_named : Nat := 82
def F_bits_Len8 : Nat := 83
def F_lattice_of : Nat := 84
def F_lattice_bound_lattice_ups : Nat := 85
def F_lattice_bound_lattice_downs : Nat := 86
def F_lattice_end_lattice_ups : Nat := 87
def F_ref01_Name : Nat := 92
def F_slices_IndexFunc_int_int : Nat := 95
def F_words_fields_1 : Nat := 97
def F_words_unquote : Nat := 98
def F_strings_Cut : Nat := 99
def F_words_isBare : Nat := 100
def F_strings_TrimPrefix : Nat := 101
def F_strings_Trim : Nat := 102
def F_ref01_escaped : Nat := 105
def F_ref01_plain : Nat := 106
def F_ref01_digit : Nat := 107
def F_slices_Index_uint8_uint8 : Nat := 108
def F_words_Name : Nat := 109
def F_slices_Contains_string_string : Nat := 110
def F_bits_OnesCount8 : Nat := 111
def F_ref01_lower : Nat := 115
def F_words_unescape : Nat := 120
def F_words_isPlain : Nat := 121
def F_stringslite_Cut : Nat := 122
def F_stringslite_TrimPrefix : Nat := 123
def F_strings_trimLeftByte : Nat := 124
def F_strings_trimRightByte : Nat := 125
def F_strings_makeASCIISet : Nat := 126
def F_strings_trimLeftASCII : Nat := 127
def F_strings_trimRightASCII : Nat := 128
def F_strings_trimLeftUnicode : Nat := 129
def F_strings_trimRightUnicode : Nat := 130
def F_ref01_hex : Nat := 136
def F_strings_IndexByte : Nat := 142
def F_words_letterOf : Nat := 143
def F_stringslite_Index : Nat := 144
def F_stringslite_HasPrefix : Nat := 145
def F_strings_asciiSet_contains : Nat := 146
def F_stringslite_IndexByte : Nat := 156
/- law20_TypesTexts -/
def A_law20_TypesTexts : AFun := ⟨84,
  .seq (.region false [⟨(some 3), .box (.t 0), none⟩,
    ⟨(some 4), .box (.t 1), none⟩,
    ⟨(some 6), .mov (.c (.bool false)), none⟩])
  (.seq (.seq (.region false [⟨(some 15), .ld (some 2) (.t 3), none⟩,
    ⟨(some 16), .call F_law20_Large [(.t 15)], none⟩,
    ⟨(some 17), .mov (.t 16), none⟩,
    ⟨(some 18), .mov (.t 2), some (17, false)⟩,
    ⟨(some 19), .lenS (.t 18), some (17, false)⟩,
    ⟨(some 20), .bin .gtr (.t 19) (.c (.int .i64 500)), some (17, false)⟩,
    ⟨(some 21), .pick (.t 17) (.c (.bool true)) (.t 20), none⟩])
  (.cond (.t 21)
   (.seq (.region false [⟨(some 22), .call F_law20_shown [], none⟩,
     ⟨(some 6), .mov (.t 22), none⟩])
   (.ret))
   (.skip)))
  (.seq (.region false [⟨(some 24), .ld (some 2) (.t 3), none⟩,
    ⟨(some 25), .ld (some 5) (.t 4), none⟩,
    ⟨(some 26), .call F_types_Print [(.t 24), (.t 25)], none⟩,
    ⟨(some 23), .mov (.t 26), none⟩,
    ⟨(some 27), .extr (.t 23) 0, none⟩,
    ⟨(some 28), .extr (.t 23) 1, none⟩,
    ⟨(some 7), .mov (.t 27), none⟩,
    ⟨(some 8), .mov (.t 28), none⟩])
  (.seq (.region false [⟨(some 30), .ld (some 2) (.t 3), none⟩,
    ⟨(some 31), .ld (some 5) (.t 4), none⟩,
    ⟨(some 32), .call F_ref20_Print [(.t 30), (.t 31)], none⟩,
    ⟨(some 29), .mov (.t 32), none⟩,
    ⟨(some 33), .extr (.t 29) 0, none⟩,
    ⟨(some 34), .extr (.t 29) 1, none⟩,
    ⟨(some 9), .mov (.t 33), none⟩,
    ⟨(some 10), .mov (.t 34), none⟩])
  (.seq (.region false [⟨(some 36), .ld (some 2) (.t 3), none⟩,
    ⟨(some 37), .mov (.t 2), none⟩,
    ⟨(some 38), .call F_types_Parse [(.t 36), (.t 37)], none⟩,
    ⟨(some 35), .mov (.t 38), none⟩,
    ⟨(some 39), .extr (.t 35) 0, none⟩,
    ⟨(some 40), .extr (.t 35) 1, none⟩,
    ⟨(some 11), .alloc [.int .i64 0, .int .i64 0, .int .i64 0, .int .i64 0, .int .i64 0], none⟩,
    ⟨none, .st 5 (.t 11) (.t 39), none⟩,
    ⟨(some 12), .mov (.t 40), none⟩])
  (.seq (.region false [⟨(some 42), .ld (some 2) (.t 3), none⟩,
    ⟨(some 43), .mov (.t 2), none⟩,
    ⟨(some 44), .call F_ref20_Parse [(.t 42), (.t 43)], none⟩,
    ⟨(some 41), .mov (.t 44), none⟩,
    ⟨(some 45), .extr (.t 41) 0, none⟩,
    ⟨(some 46), .extr (.t 41) 1, none⟩,
    ⟨(some 13), .alloc [.int .i64 0, .int .i64 0, .int .i64 0, .int .i64 0, .int .i64 0], none⟩,
    ⟨none, .st 5 (.t 13) (.t 45), none⟩,
    ⟨(some 14), .mov (.t 46), none⟩])
  (.seq (.seq (.region false [⟨(some 47), .mov (.t 7), none⟩,
    ⟨(some 48), .mov (.t 9), none⟩,
    ⟨(some 49), .bin .neq (.t 47) (.t 48), none⟩,
    ⟨(some 50), .mov (.t 49), none⟩,
    ⟨(some 51), .mov (.t 8), some (50, false)⟩,
    ⟨(some 52), .mov (.t 10), some (50, false)⟩,
    ⟨(some 53), .bin .neq (.t 51) (.t 52), some (50, false)⟩,
    ⟨(some 54), .pick (.t 50) (.c (.bool true)) (.t 53), none⟩,
    ⟨(some 55), .mov (.t 54), none⟩,
    ⟨(some 56), .ld (some 5) (.t 11), some (55, false)⟩,
    ⟨(some 57), .ld (some 5) (.t 13), some (55, false)⟩,
    ⟨(some 58), .aeq true [0, 0, 0, 0, 0] (.t 56) (.t 57), some (55, false)⟩,
    ⟨(some 59), .pick (.t 55) (.c (.bool true)) (.t 58), none⟩,
    ⟨(some 60), .mov (.t 59), none⟩,
    ⟨(some 61), .mov (.t 12), some (60, false)⟩,
    ⟨(some 62), .mov (.t 14), some (60, false)⟩,
    ⟨(some 63), .bin .neq (.t 61) (.t 62), some (60, false)⟩,
    ⟨(some 64), .pick (.t 60) (.c (.bool true)) (.t 63), none⟩])
  (.cond (.t 64)
   (.seq (.region false [⟨(some 6), .mov (.c (.bool false)), none⟩])
   (.ret))
   (.skip)))
  (.seq (.seq (.region false [⟨(some 65), .mov (.t 8), none⟩,
    ⟨(some 66), .bin .eql (.t 65) (.c (.int .i64 0)), none⟩])
  (.cond (.t 66)
   (.seq (.region false [⟨(some 68), .ld (some 2) (.t 3), none⟩,
     ⟨(some 69), .mov (.t 7), none⟩,
     ⟨(some 70), .call F_types_Parse [(.t 68), (.t 69)], none⟩,
     ⟨(some 67), .mov (.t 70), none⟩,
     ⟨(some 71), .extr (.t 67) 0, none⟩,
     ⟨(some 72), .extr (.t 67) 1, none⟩,
     ⟨none, .st 5 (.t 11) (.t 71), none⟩,
     ⟨(some 12), .mov (.t 72), none⟩])
   (.seq (.region false [⟨(some 73), .mov (.t 12), none⟩,
     ⟨(some 74), .bin .eql (.t 73) (.c (.int .i64 0)), none⟩,
     ⟨(some 75), .mov (.t 74), none⟩,
     ⟨(some 76), .ld (some 5) (.t 11), some (75, true)⟩,
     ⟨(some 77), .ld (some 5) (.t 4), some (75, true)⟩,
     ⟨(some 78), .aeq false [0, 0, 0, 0, 0] (.t 76) (.t 77), some (75, true)⟩,
     ⟨(some 79), .pick (.t 75) (.t 78) (.c (.bool false)), none⟩,
     ⟨(some 80), .mov (.t 79), none⟩,
     ⟨(some 81), .call F_law20_shown [], some (80, true)⟩,
     ⟨(some 82), .pick (.t 80) (.t 81) (.c (.bool false)), none⟩,
     ⟨(some 6), .mov (.t 82), none⟩])
   (.ret)))
   (.skip)))
  (.seq (.region false [⟨(some 83), .call F_law20_shown [], none⟩,
    ⟨(some 6), .mov (.t 83), none⟩])
  (.ret))))))))),
  [.tmp 6]⟩

/- law20_Large -/
def A_law20_LargeL0 : ACode :=
  .seq (.seq (.region false [⟨(some 4), .mov (.t 3), none⟩,
    ⟨(some 5), .fldA 0 (.t 1), none⟩,
    ⟨(some 6), .ld none (.t 5), none⟩,
    ⟨(some 7), .len (.t 6), none⟩,
    ⟨(some 8), .bin .lss (.t 4) (.t 7), none⟩,
    ⟨(some 9), .mov (.t 8), none⟩,
    ⟨(some 10), .mov (.t 3), some (9, true)⟩,
    ⟨(some 11), .bin .lss (.t 10) (.c (.int .i64 30)), some (9, true)⟩,
    ⟨(some 12), .pick (.t 9) (.t 11) (.c (.bool false)), none⟩])
  (.cond (.t 12)
   (.skip)
   (.exit 0)))
  (.seq (.block 1 (.seq (.region false [⟨(some 15), .fldA 0 (.t 1), none⟩,
    ⟨(some 16), .ld none (.t 15), none⟩,
    ⟨(some 17), .mov (.t 3), none⟩,
    ⟨(some 18), .idxA 1 (.t 16) (.t 17), none⟩,
    ⟨(some 19), .ld none (.t 18), none⟩,
    ⟨(some 20), .lenS (.t 19), none⟩,
    ⟨(some 21), .bin .gtr (.t 20) (.c (.int .i64 50)), none⟩])
  (.cond (.t 21)
   (.seq (.region false [⟨(some 2), .mov (.c (.bool true)), none⟩])
   (.ret))
   (.skip))))
  (.region false [⟨(some 13), .mov (.t 3), none⟩,
    ⟨(some 14), .bin .add (.t 13) (.c (.int .i64 1)), none⟩,
    ⟨(some 3), .mov (.t 14), none⟩]))
def A_law20_Large : AFun := ⟨32,
  .seq (.region false [⟨(some 1), .box (.t 0), none⟩,
    ⟨(some 2), .mov (.c (.bool false)), none⟩])
  (.seq (.seq (.region false [⟨(some 3), .mov (.c (.int .i64 0)), none⟩])
  (.block 0 (.loop A_law20_LargeL0)))
  (.seq (.region false [⟨(some 22), .fldA 0 (.t 1), none⟩,
    ⟨(some 23), .ld none (.t 22), none⟩,
    ⟨(some 24), .len (.t 23), none⟩,
    ⟨(some 25), .bin .gtr (.t 24) (.c (.int .i64 20)), none⟩,
    ⟨(some 26), .mov (.t 25), none⟩,
    ⟨(some 27), .fldA 1 (.t 1), some (26, false)⟩,
    ⟨(some 28), .ld none (.t 27), some (26, false)⟩,
    ⟨(some 29), .len (.t 28), some (26, false)⟩,
    ⟨(some 30), .bin .gtr (.t 29) (.c (.int .i64 20)), some (26, false)⟩,
    ⟨(some 31), .pick (.t 26) (.c (.bool true)) (.t 30), none⟩,
    ⟨(some 2), .mov (.t 31), none⟩])
  (.ret))),
  [.tmp 2]⟩

/- law20_shown -/
def A_law20_shown : AFun := ⟨81,
  .seq (.region false [⟨(some 0), .mov (.c (.bool false)), none⟩])
  (.seq (.region false [⟨(some 12), .call F_law20_Line [], none⟩,
    ⟨(some 13), .call F_law20_vector [(.c (.int .i64 1)), (.c (.int .i64 2))], none⟩,
    ⟨(some 1), .alloc [.sl .ex [], .sl .ex []], none⟩,
    ⟨(some 2), .alloc [.int .i64 0, .int .i64 0, .int .i64 0, .int .i64 0, .int .i64 0], none⟩,
    ⟨none, .st 2 (.t 1) (.t 12), none⟩,
    ⟨none, .st 5 (.t 2) (.t 13), none⟩])
  (.seq (.region true [⟨(some 15), .ld (some 2) (.t 1), none⟩,
    ⟨(some 16), .call F_law20_vector [(.c (.int .i64 0)), (.c (.int .i64 2))], none⟩,
    ⟨(some 17), .ld (some 5) (.t 2), none⟩,
    ⟨(some 18), .call F_types_Within [(.t 15), (.t 16), (.t 17)], none⟩,
    ⟨(some 14), .mov (.t 18), none⟩,
    ⟨(some 19), .extr (.t 14) 0, none⟩,
    ⟨(some 20), .extr (.t 14) 1, none⟩,
    ⟨(some 3), .mov (.t 19), none⟩,
    ⟨(some 4), .mov (.t 20), none⟩])
  (.seq (.region false [⟨(some 22), .ld (some 2) (.t 1), none⟩,
    ⟨(some 23), .ld (some 5) (.t 2), none⟩,
    ⟨(some 24), .call F_types_Raise [(.t 22), (.t 23), (.c (.int .i64 2))], none⟩,
    ⟨(some 21), .mov (.t 24), none⟩,
    ⟨(some 25), .extr (.t 21) 0, none⟩,
    ⟨(some 26), .extr (.t 21) 1, none⟩,
    ⟨(some 5), .alloc [.int .i64 0, .int .i64 0, .int .i64 0, .int .i64 0, .int .i64 0], none⟩,
    ⟨none, .st 5 (.t 5) (.t 25), none⟩,
    ⟨(some 6), .mov (.t 26), none⟩])
  (.seq (.region false [⟨(some 28), .ld (some 2) (.t 1), none⟩,
    ⟨(some 29), .ld (some 5) (.t 2), none⟩,
    ⟨(some 30), .call F_types_Sees [(.t 28), (.t 29), (.c (.int .i64 1))], none⟩,
    ⟨(some 27), .mov (.t 30), none⟩,
    ⟨(some 31), .extr (.t 27) 0, none⟩,
    ⟨(some 32), .extr (.t 27) 1, none⟩,
    ⟨(some 33), .extr (.t 27) 2, none⟩,
    ⟨(some 7), .alloc [.bool false, .bool false], none⟩,
    ⟨none, .st 2 (.t 7) (.t 31), none⟩,
    ⟨(some 8), .mov (.t 32), none⟩,
    ⟨(some 9), .mov (.t 33), none⟩])
  (.seq (.region false [⟨(some 35), .ld (some 2) (.t 1), none⟩,
    ⟨(some 36), .ld (some 5) (.t 2), none⟩,
    ⟨(some 37), .call F_types_Print [(.t 35), (.t 36)], none⟩,
    ⟨(some 34), .mov (.t 37), none⟩,
    ⟨(some 38), .extr (.t 34) 0, none⟩,
    ⟨(some 39), .extr (.t 34) 1, none⟩,
    ⟨(some 10), .mov (.t 38), none⟩,
    ⟨(some 11), .mov (.t 39), none⟩])
  (.seq (.region true [⟨(some 40), .ld (some 2) (.t 1), none⟩,
    ⟨(some 41), .call F_law20_vector [(.c (.int .i64 2)), (.c (.int .i64 0))], none⟩,
    ⟨(some 42), .call F_types_Check [(.t 40), (.t 41)], none⟩,
    ⟨(some 43), .bin .eql (.t 42) (.c (.int .i64 25)), none⟩,
    ⟨(some 44), .mov (.t 43), none⟩,
    ⟨(some 45), .mov (.t 3), some (44, true)⟩,
    ⟨(some 46), .pick (.t 44) (.t 45) (.c (.bool false)), none⟩,
    ⟨(some 47), .mov (.t 46), none⟩,
    ⟨(some 48), .mov (.t 4), some (47, true)⟩,
    ⟨(some 49), .bin .eql (.t 48) (.c (.int .i64 0)), some (47, true)⟩,
    ⟨(some 50), .pick (.t 47) (.t 49) (.c (.bool false)), none⟩,
    ⟨(some 51), .mov (.t 50), none⟩,
    ⟨(some 52), .ld (some 5) (.t 5), some (51, true)⟩,
    ⟨(some 53), .call F_law20_vector [(.c (.int .i64 2)), (.c (.int .i64 2))], some (51, true)⟩,
    ⟨(some 54), .aeq false [0, 0, 0, 0, 0] (.t 52) (.t 53), some (51, true)⟩,
    ⟨(some 55), .pick (.t 51) (.t 54) (.c (.bool false)), none⟩,
    ⟨(some 56), .mov (.t 55), none⟩,
    ⟨(some 57), .mov (.t 6), some (56, true)⟩,
    ⟨(some 58), .bin .eql (.t 57) (.c (.int .i64 0)), some (56, true)⟩,
    ⟨(some 59), .pick (.t 56) (.t 58) (.c (.bool false)), none⟩,
    ⟨(some 60), .mov (.t 59), none⟩,
    ⟨(some 61), .ld (some 2) (.t 7), some (60, true)⟩,
    ⟨(some 62), .build [.bool false, .bool false] [(0, 1, (.c (.bool true))), (1, 1, (.c (.bool false)))], some (60, true)⟩,
    ⟨(some 63), .aeq false [1, 1] (.t 61) (.t 62), some (60, true)⟩,
    ⟨(some 64), .pick (.t 60) (.t 63) (.c (.bool false)), none⟩,
    ⟨(some 65), .mov (.t 64), none⟩,
    ⟨(some 66), .mov (.t 8), some (65, true)⟩,
    ⟨(some 67), .not (.t 66), some (65, true)⟩,
    ⟨(some 68), .pick (.t 65) (.t 67) (.c (.bool false)), none⟩,
    ⟨(some 69), .mov (.t 68), none⟩,
    ⟨(some 70), .mov (.t 9), some (69, true)⟩,
    ⟨(some 71), .bin .eql (.t 70) (.c (.int .i64 0)), some (69, true)⟩,
    ⟨(some 72), .pick (.t 69) (.t 71) (.c (.bool false)), none⟩,
    ⟨(some 73), .mov (.t 72), none⟩,
    ⟨(some 74), .mov (.t 10), some (73, true)⟩,
    ⟨(some 75), .bin .eql (.t 74) (.c (.str [105, 110, 116, 32, 49, 32, 115, 116, 97, 102, 102, 32, 104, 105, 103, 104])), some (73, true)⟩,
    ⟨(some 76), .pick (.t 73) (.t 75) (.c (.bool false)), none⟩,
    ⟨(some 77), .mov (.t 76), none⟩,
    ⟨(some 78), .mov (.t 11), some (77, true)⟩,
    ⟨(some 79), .bin .eql (.t 78) (.c (.int .i64 0)), some (77, true)⟩,
    ⟨(some 80), .pick (.t 77) (.t 79) (.c (.bool false)), none⟩,
    ⟨(some 0), .mov (.t 80), none⟩])
  (.ret))))))),
  [.tmp 0]⟩

/- types_Sees -/
def A_types_SeesL0 : ACode :=
  .seq (.region false [⟨(some 36), .bin .lss (.t 35) (.t 34), none⟩])
  (.seq (.cond (.t 36)
   (.skip)
   (.exit 0))
  (.seq (.block 1 (.seq (.region false [⟨(some 37), .mov (.t 35), none⟩,
    ⟨(some 11), .mov (.t 37), none⟩])
  (.region true [⟨(some 38), .mov (.t 11), none⟩,
    ⟨(some 39), .ld (some 3) (.t 9), none⟩,
    ⟨(some 40), .mov (.t 11), none⟩,
    ⟨(some 41), .fldA 2 (.t 4), none⟩,
    ⟨(some 42), .idxP 2 1 (.t 41) (.t 40), none⟩,
    ⟨(some 43), .ld none (.t 42), none⟩,
    ⟨(some 44), .mov (.t 2), none⟩,
    ⟨(some 45), .call F_types_order_leq [(.t 39), (.t 43), (.t 44)], none⟩,
    ⟨(some 46), .idxP 2 1 (.t 6) (.t 38), none⟩,
    ⟨none, .st 1 (.t 46) (.t 45), none⟩])))
  (.region false [⟨(some 47), .bin .add (.t 35) (.c (.int .i64 1)), none⟩,
    ⟨(some 35), .mov (.t 47), none⟩])))
def A_types_Sees : AFun := ⟨54,
  .seq (.region false [⟨(some 3), .box (.t 0), none⟩,
    ⟨(some 4), .box (.t 1), none⟩,
    ⟨(some 6), .alloc [.bool false, .bool false], none⟩,
    ⟨(some 7), .mov (.c (.bool false)), none⟩,
    ⟨(some 8), .mov (.c (.int .i64 0)), none⟩])
  (.seq (.region false [⟨(some 13), .ld (some 2) (.t 3), none⟩,
    ⟨(some 14), .call F_types_of [(.t 13)], none⟩,
    ⟨(some 12), .mov (.t 14), none⟩,
    ⟨(some 15), .extr (.t 12) 0, none⟩,
    ⟨(some 16), .extr (.t 12) 1, none⟩,
    ⟨(some 9), .alloc [.sl .ex [], .sl .ex [], .int .i64 0], none⟩,
    ⟨none, .st 3 (.t 9) (.t 15), none⟩,
    ⟨(some 8), .mov (.t 16), none⟩])
  (.seq (.seq (.region false [⟨(some 17), .mov (.t 8), none⟩,
    ⟨(some 18), .bin .neq (.t 17) (.c (.int .i64 0)), none⟩])
  (.cond (.t 18)
   (.seq (.region false [⟨(some 19), .ld (some 2) (.t 6), none⟩,
     ⟨(some 20), .mov (.t 8), none⟩,
     ⟨none, .st 2 (.t 6) (.t 19), none⟩,
     ⟨(some 7), .mov (.c (.bool false)), none⟩,
     ⟨(some 8), .mov (.t 20), none⟩])
   (.ret))
   (.skip)))
  (.seq (.seq (.region false [⟨(some 21), .ld (some 3) (.t 9), none⟩,
    ⟨(some 22), .ld (some 5) (.t 4), none⟩,
    ⟨(some 23), .call F_types_order_check [(.t 21), (.t 22)], none⟩,
    ⟨(some 10), .mov (.t 23), none⟩])
  (.seq (.region false [⟨(some 24), .mov (.t 10), none⟩,
    ⟨(some 25), .bin .neq (.t 24) (.c (.int .i64 0)), none⟩])
  (.cond (.t 25)
   (.seq (.region false [⟨(some 26), .ld (some 2) (.t 6), none⟩,
     ⟨(some 27), .mov (.t 10), none⟩,
     ⟨none, .st 2 (.t 6) (.t 26), none⟩,
     ⟨(some 7), .mov (.c (.bool false)), none⟩,
     ⟨(some 8), .mov (.t 27), none⟩])
   (.ret))
   (.skip))))
  (.seq (.seq (.region false [⟨(some 28), .ld (some 3) (.t 9), none⟩,
    ⟨(some 29), .mov (.t 2), none⟩,
    ⟨(some 30), .call F_types_order_label [(.t 28), (.t 29)], none⟩,
    ⟨(some 31), .not (.t 30), none⟩])
  (.cond (.t 31)
   (.seq (.region false [⟨(some 32), .ld (some 2) (.t 6), none⟩,
     ⟨none, .st 2 (.t 6) (.t 32), none⟩,
     ⟨(some 7), .mov (.c (.bool false)), none⟩,
     ⟨(some 8), .mov (.c (.int .i64 7)), none⟩])
   (.ret))
   (.skip)))
  (.seq (.seq (.region false [⟨(some 33), .fldA 1 (.t 4), none⟩,
    ⟨(some 34), .ld none (.t 33), none⟩,
    ⟨(some 35), .mov (.c (.int .i64 0)), none⟩])
  (.block 0 (.loop A_types_SeesL0)))
  (.seq (.region true [⟨(some 48), .ld (some 2) (.t 6), none⟩,
    ⟨(some 49), .ld (some 3) (.t 9), none⟩,
    ⟨(some 50), .fldA 4 (.t 4), none⟩,
    ⟨(some 51), .ld none (.t 50), none⟩,
    ⟨(some 52), .mov (.t 2), none⟩,
    ⟨(some 53), .call F_types_order_leq [(.t 49), (.t 51), (.t 52)], none⟩,
    ⟨none, .st 2 (.t 6) (.t 48), none⟩,
    ⟨(some 7), .mov (.t 53), none⟩,
    ⟨(some 8), .mov (.c (.int .i64 0)), none⟩])
  (.ret))))))),
  [.cell (some 2) 6, .tmp 7, .tmp 8]⟩

/- types_Print -/
def A_types_Print : AFun := ⟨29,
  .seq (.region false [⟨(some 2), .box (.t 0), none⟩,
    ⟨(some 3), .box (.t 1), none⟩,
    ⟨(some 4), .mov (.c (.str [])), none⟩,
    ⟨(some 5), .mov (.c (.int .i64 0)), none⟩])
  (.seq (.seq (.region false [⟨(some 8), .ld (some 2) (.t 2), none⟩,
    ⟨(some 9), .ld (some 5) (.t 3), none⟩,
    ⟨(some 10), .call F_types_Check [(.t 8), (.t 9)], none⟩,
    ⟨(some 6), .mov (.t 10), none⟩])
  (.seq (.region false [⟨(some 11), .mov (.t 6), none⟩,
    ⟨(some 12), .bin .neq (.t 11) (.c (.int .i64 0)), none⟩])
  (.cond (.t 12)
   (.seq (.region false [⟨(some 13), .mov (.t 6), none⟩,
     ⟨(some 4), .mov (.c (.str [])), none⟩,
     ⟨(some 5), .mov (.t 13), none⟩])
   (.ret))
   (.skip))))
  (.seq (.region true [⟨(some 14), .call F_types_names [], none⟩,
    ⟨(some 15), .fldA 0 (.t 3), none⟩,
    ⟨(some 16), .ld none (.t 15), none⟩,
    ⟨(some 17), .idxG 3 1 none (.t 14) (.t 16), none⟩,
    ⟨(some 18), .bin .add (.t 17) (.c (.str [32])), none⟩,
    ⟨(some 19), .fldA 1 (.t 3), none⟩,
    ⟨(some 20), .ld none (.t 19), none⟩,
    ⟨(some 21), .call F_strconv_Itoa [(.t 20)], none⟩,
    ⟨(some 22), .bin .add (.t 18) (.t 21), none⟩,
    ⟨(some 23), .s2b true (.t 22), none⟩,
    ⟨(some 7), .mov (.c (.undef)), none⟩,
    ⟨(some 7), .boxS 1 (.t 23), none⟩])
  (.seq (.region false [⟨(some 24), .ld (some 5) (.t 3), none⟩,
    ⟨(some 25), .mkf F_types_Print_1 [] [(.t 7), (.t 2)], none⟩,
    ⟨(some 26), .call F_types_each [(.t 24), (.t 25)], none⟩])
  (.seq (.region false [⟨(some 27), .ld none (.t 7), none⟩,
    ⟨(some 28), .b2s (.t 27), none⟩,
    ⟨(some 4), .mov (.t 28), none⟩,
    ⟨(some 5), .mov (.c (.int .i64 0)), none⟩])
  (.ret))))),
  [.tmp 4, .tmp 5]⟩

/- ref20_Print -/
def A_ref20_PrintL0 : ACode :=
  .seq (.seq (.region false [⟨(some 23), .mov (.t 8), none⟩,
    ⟨(some 24), .fldA 1 (.t 3), none⟩,
    ⟨(some 25), .ld none (.t 24), none⟩,
    ⟨(some 26), .bin .lss (.t 23) (.t 25), none⟩])
  (.cond (.t 26)
   (.skip)
   (.exit 0)))
  (.seq (.block 1 (.region true [⟨(some 29), .mov (.t 7), none⟩,
    ⟨(some 30), .bin .add (.t 29) (.c (.str [32])), none⟩,
    ⟨(some 31), .fldA 0 (.t 2), none⟩,
    ⟨(some 32), .ld none (.t 31), none⟩,
    ⟨(some 33), .mov (.t 8), none⟩,
    ⟨(some 34), .fldA 2 (.t 3), none⟩,
    ⟨(some 35), .idxP 2 1 (.t 34) (.t 33), none⟩,
    ⟨(some 36), .ld none (.t 35), none⟩,
    ⟨(some 37), .idxA 1 (.t 32) (.t 36), none⟩,
    ⟨(some 38), .ld none (.t 37), none⟩,
    ⟨(some 39), .bin .add (.t 30) (.t 38), none⟩,
    ⟨(some 7), .mov (.t 39), none⟩]))
  (.region false [⟨(some 27), .mov (.t 8), none⟩,
    ⟨(some 28), .bin .add (.t 27) (.c (.int .i64 1)), none⟩,
    ⟨(some 8), .mov (.t 28), none⟩]))
def A_ref20_Print : AFun := ⟨49,
  .seq (.region false [⟨(some 2), .box (.t 0), none⟩,
    ⟨(some 3), .box (.t 1), none⟩,
    ⟨(some 4), .mov (.c (.str [])), none⟩,
    ⟨(some 5), .mov (.c (.int .i64 0)), none⟩])
  (.seq (.region false [⟨(some 9), .ld (some 2) (.t 2), none⟩,
    ⟨(some 10), .ld (some 5) (.t 3), none⟩,
    ⟨(some 11), .call F_ref20_Check [(.t 9), (.t 10)], none⟩,
    ⟨(some 6), .mov (.t 11), none⟩])
  (.seq (.seq (.region false [⟨(some 12), .mov (.t 6), none⟩,
    ⟨(some 13), .bin .neq (.t 12) (.c (.int .i64 0)), none⟩])
  (.cond (.t 13)
   (.seq (.region false [⟨(some 14), .mov (.t 6), none⟩,
     ⟨(some 4), .mov (.c (.str [])), none⟩,
     ⟨(some 5), .mov (.t 14), none⟩])
   (.ret))
   (.skip)))
  (.seq (.region true [⟨(some 15), .fldA 0 (.t 3), none⟩,
    ⟨(some 16), .ld none (.t 15), none⟩,
    ⟨(some 17), .call F_ref20_kind [(.t 16)], none⟩,
    ⟨(some 18), .bin .add (.t 17) (.c (.str [32])), none⟩,
    ⟨(some 19), .fldA 1 (.t 3), none⟩,
    ⟨(some 20), .ld none (.t 19), none⟩,
    ⟨(some 21), .call F_ref01_Digits [(.t 20)], none⟩,
    ⟨(some 22), .bin .add (.t 18) (.t 21), none⟩,
    ⟨(some 7), .mov (.t 22), none⟩])
  (.seq (.seq (.region false [⟨(some 8), .mov (.c (.int .i64 0)), none⟩])
  (.block 0 (.loop A_ref20_PrintL0)))
  (.seq (.region false [⟨(some 40), .mov (.t 7), none⟩,
    ⟨(some 41), .bin .add (.t 40) (.c (.str [32])), none⟩,
    ⟨(some 42), .fldA 0 (.t 2), none⟩,
    ⟨(some 43), .ld none (.t 42), none⟩,
    ⟨(some 44), .fldA 4 (.t 3), none⟩,
    ⟨(some 45), .ld none (.t 44), none⟩,
    ⟨(some 46), .idxA 1 (.t 43) (.t 45), none⟩,
    ⟨(some 47), .ld none (.t 46), none⟩,
    ⟨(some 48), .bin .add (.t 41) (.t 47), none⟩,
    ⟨(some 4), .mov (.t 48), none⟩,
    ⟨(some 5), .mov (.c (.int .i64 0)), none⟩])
  (.ret)))))),
  [.tmp 4, .tmp 5]⟩

/- types_Parse -/
def A_types_Parse : AFun := ⟨96,
  .seq (.region false [⟨(some 2), .box (.t 0), none⟩,
    ⟨(some 4), .alloc [.int .i64 0, .int .i64 0, .int .i64 0, .int .i64 0, .int .i64 0], none⟩,
    ⟨(some 5), .mov (.c (.int .i64 0)), none⟩])
  (.seq (.region false [⟨(some 6), .alloc [.int .i64 0, .int .i64 0, .int .i64 0, .int .i64 0, .int .i64 0], none⟩])
  (.seq (.region false [⟨(some 16), .ld (some 2) (.t 2), none⟩,
    ⟨(some 17), .call F_types_of [(.t 16)], none⟩,
    ⟨(some 15), .mov (.t 17), none⟩,
    ⟨(some 18), .extr (.t 15) 0, none⟩,
    ⟨(some 19), .extr (.t 15) 1, none⟩,
    ⟨(some 7), .alloc [.sl .ex [], .sl .ex [], .int .i64 0], none⟩,
    ⟨(some 8), .alloc [.int .i64 0], none⟩,
    ⟨none, .st 3 (.t 7) (.t 18), none⟩,
    ⟨none, .st 1 (.t 8) (.t 19), none⟩])
  (.seq (.seq (.region false [⟨(some 20), .ld none (.t 8), none⟩,
    ⟨(some 21), .bin .neq (.t 20) (.c (.int .i64 0)), none⟩])
  (.cond (.t 21)
   (.seq (.region true [⟨(some 22), .ld (some 5) (.m true 6), none⟩,
     ⟨(some 23), .ld none (.m true 8), none⟩,
     ⟨none, .st 5 (.m false 4) (.t 22), none⟩,
     ⟨(some 5), .mov (.t 23), none⟩])
   (.ret))
   (.skip)))
  (.seq (.region false [⟨(some 25), .mov (.t 1), none⟩,
    ⟨(some 26), .call F_words_Split [(.t 25)], none⟩,
    ⟨(some 24), .mov (.t 26), none⟩,
    ⟨(some 27), .extr (.t 24) 0, none⟩,
    ⟨(some 28), .extr (.t 24) 1, none⟩,
    ⟨(some 9), .alloc [.sl .ex []], none⟩,
    ⟨none, .st 1 (.t 9) (.t 27), none⟩,
    ⟨none, .st 1 (.t 8) (.t 28), none⟩])
  (.seq (.seq (.region false [⟨(some 29), .ld none (.t 8), none⟩,
    ⟨(some 30), .bin .neq (.t 29) (.c (.int .i64 0)), none⟩])
  (.cond (.t 30)
   (.seq (.region true [⟨(some 31), .ld (some 5) (.m true 6), none⟩,
     ⟨(some 32), .ld none (.m true 8), none⟩,
     ⟨none, .st 5 (.m false 4) (.t 31), none⟩,
     ⟨(some 5), .mov (.t 32), none⟩])
   (.ret))
   (.skip)))
  (.seq (.seq (.region false [⟨(some 33), .ld none (.t 9), none⟩,
    ⟨(some 34), .len (.t 33), none⟩,
    ⟨(some 35), .bin .lss (.t 34) (.c (.int .i64 2)), none⟩,
    ⟨(some 36), .mov (.t 35), none⟩,
    ⟨(some 37), .ld none (.t 9), some (36, false)⟩,
    ⟨(some 38), .call F_slices_ContainsFunc_api_Field_api_Field [(.t 37), (.c (.clo F_types_Parse_1 [] []))], some (36, false)⟩,
    ⟨(some 39), .pick (.t 36) (.c (.bool true)) (.t 38), none⟩])
  (.cond (.t 39)
   (.seq (.region false [⟨(some 40), .ld (some 5) (.t 6), none⟩,
     ⟨none, .st 5 (.t 4) (.t 40), none⟩,
     ⟨(some 5), .mov (.c (.int .i64 6)), none⟩])
   (.ret))
   (.skip)))
  (.seq (.region false [⟨(some 41), .call F_types_names [], none⟩,
    ⟨(some 10), .alloc [.str [], .str [], .str []], none⟩,
    ⟨none, .st 3 (.t 10) (.t 41), none⟩])
  (.seq (.region true [⟨(some 42), .slA 3 1 (.t 10) none none none, none⟩,
    ⟨(some 43), .ld none (.t 9), none⟩,
    ⟨(some 44), .idxA 2 (.t 43) (.c (.int .i64 0)), none⟩,
    ⟨(some 45), .fldA 0 (.t 44), none⟩,
    ⟨(some 46), .ld none (.t 45), none⟩,
    ⟨(some 47), .call F_slices_Index_string_string [(.t 42), (.t 46)], none⟩,
    ⟨(some 11), .mov (.t 47), none⟩])
  (.seq (.region false [⟨(some 49), .ld none (.t 9), none⟩,
    ⟨(some 50), .idxA 2 (.t 49) (.c (.int .i64 1)), none⟩,
    ⟨(some 51), .fldA 0 (.t 50), none⟩,
    ⟨(some 52), .ld none (.t 51), none⟩,
    ⟨(some 53), .call F_words_Int [(.t 52), (.c (.int .i64 0)), (.c (.int .i64 4611686018427387904))], none⟩,
    ⟨(some 48), .mov (.t 53), none⟩,
    ⟨(some 54), .extr (.t 48) 0, none⟩,
    ⟨(some 55), .extr (.t 48) 1, none⟩,
    ⟨(some 12), .mov (.t 54), none⟩,
    ⟨(some 13), .mov (.t 55), none⟩])
  (.seq (.block 0 (.seq (.region false [⟨(some 57), .mov (.t 11), none⟩,
    ⟨(some 58), .bin .lss (.t 57) (.c (.int .i64 1)), none⟩,
    ⟨(some 59), .mov (.t 58), none⟩,
    ⟨(some 60), .mov (.t 13), some (59, false)⟩,
    ⟨(some 61), .bin .neq (.t 60) (.c (.int .i64 0)), some (59, false)⟩,
    ⟨(some 62), .pick (.t 59) (.c (.bool true)) (.t 61), none⟩,
    ⟨(some 56), .mov (.t 62), none⟩])
  (.cond (.t 56)
   (.seq (.region false [⟨(some 63), .ld (some 5) (.t 6), none⟩,
     ⟨none, .st 5 (.t 4) (.t 63), none⟩,
     ⟨(some 5), .mov (.c (.int .i64 6)), none⟩])
   (.ret))
   (.seq (.region false [⟨(some 65), .mov (.t 12), none⟩,
     ⟨(some 66), .bin .gtr (.t 65) (.c (.int .i64 2)), none⟩,
     ⟨(some 64), .mov (.t 66), none⟩])
   (.cond (.t 64)
    (.seq (.region false [⟨(some 67), .ld (some 5) (.t 6), none⟩,
      ⟨none, .st 5 (.t 4) (.t 67), none⟩,
      ⟨(some 5), .mov (.c (.int .i64 7)), none⟩])
    (.ret))
    (.seq (.region false [⟨(some 69), .ld none (.t 9), none⟩,
      ⟨(some 70), .len (.t 69), none⟩,
      ⟨(some 71), .mov (.t 12), none⟩,
      ⟨(some 72), .bin .add (.c (.int .i64 3)) (.t 71), none⟩,
      ⟨(some 73), .bin .neq (.t 70) (.t 72), none⟩,
      ⟨(some 68), .mov (.t 73), none⟩])
    (.cond (.t 68)
     (.seq (.region false [⟨(some 74), .ld (some 5) (.t 6), none⟩,
       ⟨none, .st 5 (.t 4) (.t 74), none⟩,
       ⟨(some 5), .mov (.c (.int .i64 6)), none⟩])
     (.ret))
     (.skip))))))))
  (.seq (.region false [⟨(some 75), .mov (.t 11), none⟩,
    ⟨(some 76), .mov (.t 12), none⟩,
    ⟨(some 77), .fldA 2 (.t 7), none⟩,
    ⟨(some 78), .ld none (.t 77), none⟩,
    ⟨(some 79), .fldA 2 (.t 7), none⟩,
    ⟨(some 80), .ld none (.t 79), none⟩,
    ⟨(some 81), .build [.int .i64 0, .int .i64 0] [(0, 1, (.t 78)), (1, 1, (.t 80))], none⟩,
    ⟨(some 82), .build [.int .i64 0, .int .i64 0, .int .i64 0, .int .i64 0, .int .i64 0] [(0, 1, (.t 75)), (1, 1, (.t 76)), (2, 2, (.t 81))], none⟩,
    ⟨none, .st 5 (.t 6) (.t 82), none⟩])
  (.seq (.region false [⟨(some 14), .alloc [.int .i64 0], none⟩,
    ⟨none, .st 1 (.t 14) (.c (.int .i64 2)), none⟩])
  (.seq (.region false [⟨none, .st 1 (.t 8) (.c (.int .i64 0)), none⟩])
  (.seq (.region false [⟨(some 83), .ld (some 5) (.t 6), none⟩,
    ⟨(some 84), .mkf F_types_Parse_2 [] [(.t 2), (.t 9), (.t 14), (.t 8)], none⟩,
    ⟨(some 85), .call F_types_each [(.t 83), (.t 84)], none⟩,
    ⟨none, .st 5 (.t 6) (.t 85), none⟩])
  (.seq (.seq (.region false [⟨(some 86), .ld none (.t 8), none⟩,
    ⟨(some 87), .bin .eql (.t 86) (.c (.int .i64 0)), none⟩])
  (.cond (.t 87)
   (.region false [⟨(some 88), .ld (some 3) (.t 7), none⟩,
     ⟨(some 89), .ld (some 5) (.t 6), none⟩,
     ⟨(some 90), .call F_types_order_check [(.t 88), (.t 89)], none⟩,
     ⟨none, .st 1 (.t 8) (.t 90), none⟩])
   (.skip)))
  (.seq (.seq (.region false [⟨(some 91), .ld none (.t 8), none⟩,
    ⟨(some 92), .bin .neq (.t 91) (.c (.int .i64 0)), none⟩])
  (.cond (.t 92)
   (.seq (.region true [⟨(some 93), .build [.int .i64 0, .int .i64 0, .int .i64 0, .int .i64 0, .int .i64 0] [], none⟩,
     ⟨(some 94), .ld none (.m true 8), none⟩,
     ⟨none, .st 5 (.m false 4) (.t 93), none⟩,
     ⟨(some 5), .mov (.t 94), none⟩])
   (.ret))
   (.skip)))
  (.seq (.region false [⟨(some 95), .ld (some 5) (.t 6), none⟩,
    ⟨none, .st 5 (.t 4) (.t 95), none⟩,
    ⟨(some 5), .mov (.c (.int .i64 0)), none⟩])
  (.ret)))))))))))))))))),
  [.cell (some 5) 4, .tmp 5]⟩

/- ref20_Parse -/
def A_ref20_ParseL0 : ACode :=
  .seq (.seq (.region false [⟨(some 33), .mov (.t 9), none⟩,
    ⟨(some 34), .mov (.t 8), none⟩,
    ⟨(some 35), .len (.t 34), none⟩,
    ⟨(some 36), .bin .lss (.t 33) (.t 35), none⟩])
  (.cond (.t 36)
   (.skip)
   (.exit 0)))
  (.seq (.block 1 (.seq (.region false [⟨(some 39), .mov (.t 8), none⟩,
    ⟨(some 40), .mov (.t 9), none⟩,
    ⟨(some 41), .idxA 2 (.t 39) (.t 40), none⟩,
    ⟨(some 42), .fldA 1 (.t 41), none⟩,
    ⟨(some 43), .ld none (.t 42), none⟩])
  (.cond (.t 43)
   (.seq (.region false [⟨(some 44), .build [.int .i64 0, .int .i64 0, .int .i64 0, .int .i64 0, .int .i64 0] [], none⟩,
     ⟨none, .st 5 (.t 4) (.t 44), none⟩,
     ⟨(some 5), .mov (.c (.int .i64 6)), none⟩])
   (.ret))
   (.skip))))
  (.region false [⟨(some 37), .mov (.t 9), none⟩,
    ⟨(some 38), .bin .add (.t 37) (.c (.int .i64 1)), none⟩,
    ⟨(some 9), .mov (.t 38), none⟩]))
def A_ref20_ParseL1 : ACode :=
  .seq (.seq (.region false [⟨(some 96), .mov (.t 12), none⟩,
    ⟨(some 97), .fldA 1 (.t 11), none⟩,
    ⟨(some 98), .ld none (.t 97), none⟩,
    ⟨(some 99), .bin .leq (.t 96) (.t 98), none⟩])
  (.cond (.t 99)
   (.skip)
   (.exit 2)))
  (.seq (.block 3 (.seq (.region true [⟨(some 103), .ld (some 2) (.t 2), none⟩,
    ⟨(some 104), .mov (.t 8), none⟩,
    ⟨(some 105), .mov (.t 12), none⟩,
    ⟨(some 106), .bin .add (.c (.int .i64 2)) (.t 105), none⟩,
    ⟨(some 107), .idxA 2 (.t 104) (.t 106), none⟩,
    ⟨(some 108), .fldA 0 (.t 107), none⟩,
    ⟨(some 109), .ld none (.t 108), none⟩,
    ⟨(some 110), .call F_ref03_Find [(.t 103), (.t 109)], none⟩,
    ⟨(some 102), .mov (.t 110), none⟩,
    ⟨(some 111), .extr (.t 102) 0, none⟩,
    ⟨(some 112), .extr (.t 102) 1, none⟩,
    ⟨(some 13), .mov (.t 111), none⟩,
    ⟨(some 14), .mov (.t 112), none⟩])
  (.seq (.seq (.region false [⟨(some 113), .mov (.t 14), none⟩,
    ⟨(some 114), .bin .neq (.t 113) (.c (.int .i64 0)), none⟩])
  (.cond (.t 114)
   (.seq (.region false [⟨(some 115), .build [.int .i64 0, .int .i64 0, .int .i64 0, .int .i64 0, .int .i64 0] [], none⟩,
     ⟨(some 116), .mov (.t 14), none⟩,
     ⟨none, .st 5 (.t 4) (.t 115), none⟩,
     ⟨(some 5), .mov (.t 116), none⟩])
   (.ret))
   (.skip)))
  (.seq (.region false [⟨(some 117), .mov (.t 12), none⟩,
    ⟨(some 118), .fldA 1 (.t 11), none⟩,
    ⟨(some 119), .ld none (.t 118), none⟩,
    ⟨(some 120), .bin .lss (.t 117) (.t 119), none⟩])
  (.cond (.t 120)
   (.region false [⟨(some 121), .mov (.t 12), none⟩,
     ⟨(some 122), .mov (.t 13), none⟩,
     ⟨(some 123), .fldA 2 (.t 11), none⟩,
     ⟨(some 124), .idxP 2 1 (.t 123) (.t 121), none⟩,
     ⟨none, .st 1 (.t 124) (.t 122), none⟩])
   (.region false [⟨(some 125), .mov (.t 13), none⟩,
     ⟨(some 126), .fldA 4 (.t 11), none⟩,
     ⟨none, .st 1 (.t 126) (.t 125), none⟩]))))))
  (.region false [⟨(some 100), .mov (.t 12), none⟩,
    ⟨(some 101), .bin .add (.t 100) (.c (.int .i64 1)), none⟩,
    ⟨(some 12), .mov (.t 101), none⟩]))
def A_ref20_Parse : AFun := ⟨135,
  .seq (.region false [⟨(some 2), .box (.t 0), none⟩,
    ⟨(some 4), .alloc [.int .i64 0, .int .i64 0, .int .i64 0, .int .i64 0, .int .i64 0], none⟩,
    ⟨(some 5), .mov (.c (.int .i64 0)), none⟩])
  (.seq (.region false [⟨(some 16), .ld (some 2) (.t 2), none⟩,
    ⟨(some 17), .call F_ref03_Check [(.t 16)], none⟩,
    ⟨(some 15), .mov (.t 17), none⟩,
    ⟨(some 18), .extr (.t 15) 0, none⟩,
    ⟨(some 19), .extr (.t 15) 1, none⟩,
    ⟨(some 6), .mov (.t 18), none⟩,
    ⟨(some 7), .mov (.t 19), none⟩])
  (.seq (.seq (.region false [⟨(some 20), .mov (.t 7), none⟩,
    ⟨(some 21), .bin .neq (.t 20) (.c (.int .i64 0)), none⟩])
  (.cond (.t 21)
   (.seq (.region false [⟨(some 22), .build [.int .i64 0, .int .i64 0, .int .i64 0, .int .i64 0, .int .i64 0] [], none⟩,
     ⟨(some 23), .mov (.t 7), none⟩,
     ⟨none, .st 5 (.t 4) (.t 22), none⟩,
     ⟨(some 5), .mov (.t 23), none⟩])
   (.ret))
   (.skip)))
  (.seq (.region false [⟨(some 25), .mov (.t 1), none⟩,
    ⟨(some 26), .call F_ref01_Split [(.t 25)], none⟩,
    ⟨(some 24), .mov (.t 26), none⟩,
    ⟨(some 27), .extr (.t 24) 0, none⟩,
    ⟨(some 28), .extr (.t 24) 1, none⟩,
    ⟨(some 8), .mov (.t 27), none⟩,
    ⟨(some 7), .mov (.t 28), none⟩])
  (.seq (.seq (.region false [⟨(some 29), .mov (.t 7), none⟩,
    ⟨(some 30), .bin .neq (.t 29) (.c (.int .i64 0)), none⟩])
  (.cond (.t 30)
   (.seq (.region false [⟨(some 31), .build [.int .i64 0, .int .i64 0, .int .i64 0, .int .i64 0, .int .i64 0] [], none⟩,
     ⟨(some 32), .mov (.t 7), none⟩,
     ⟨none, .st 5 (.t 4) (.t 31), none⟩,
     ⟨(some 5), .mov (.t 32), none⟩])
   (.ret))
   (.skip)))
  (.seq (.seq (.region false [⟨(some 9), .mov (.c (.int .i64 0)), none⟩])
  (.block 0 (.loop A_ref20_ParseL0)))
  (.seq (.seq (.region false [⟨(some 45), .mov (.t 8), none⟩,
    ⟨(some 46), .len (.t 45), none⟩,
    ⟨(some 47), .bin .lss (.t 46) (.c (.int .i64 2)), none⟩,
    ⟨(some 48), .mov (.t 47), none⟩,
    ⟨(some 49), .mov (.t 8), some (48, false)⟩,
    ⟨(some 50), .idxA 2 (.t 49) (.c (.int .i64 0)), some (48, false)⟩,
    ⟨(some 51), .fldA 0 (.t 50), some (48, false)⟩,
    ⟨(some 52), .ld none (.t 51), some (48, false)⟩,
    ⟨(some 53), .bin .neq (.t 52) (.c (.str [105, 110, 116])), some (48, false)⟩,
    ⟨(some 54), .mov (.t 53), some (48, false)⟩,
    ⟨(some 55), .mov (.t 8), some (54, true)⟩,
    ⟨(some 56), .idxA 2 (.t 55) (.c (.int .i64 0)), some (54, true)⟩,
    ⟨(some 57), .fldA 0 (.t 56), some (54, true)⟩,
    ⟨(some 58), .ld none (.t 57), some (54, true)⟩,
    ⟨(some 59), .bin .neq (.t 58) (.c (.str [99, 104, 97, 114])), some (54, true)⟩,
    ⟨(some 60), .pick (.t 54) (.t 59) (.c (.bool false)), some (48, false)⟩,
    ⟨(some 61), .pick (.t 48) (.c (.bool true)) (.t 60), none⟩])
  (.cond (.t 61)
   (.seq (.region false [⟨(some 62), .build [.int .i64 0, .int .i64 0, .int .i64 0, .int .i64 0, .int .i64 0] [], none⟩,
     ⟨none, .st 5 (.t 4) (.t 62), none⟩,
     ⟨(some 5), .mov (.c (.int .i64 6)), none⟩])
   (.ret))
   (.skip)))
  (.seq (.region false [⟨(some 64), .mov (.t 8), none⟩,
    ⟨(some 65), .idxA 2 (.t 64) (.c (.int .i64 1)), none⟩,
    ⟨(some 66), .fldA 0 (.t 65), none⟩,
    ⟨(some 67), .ld none (.t 66), none⟩,
    ⟨(some 68), .call F_ref01_Int [(.t 67), (.c (.int .i64 0)), (.c (.int .i64 4611686018427387904))], none⟩,
    ⟨(some 63), .mov (.t 68), none⟩,
    ⟨(some 69), .extr (.t 63) 0, none⟩,
    ⟨(some 70), .extr (.t 63) 1, none⟩,
    ⟨(some 10), .mov (.t 69), none⟩,
    ⟨(some 7), .mov (.t 70), none⟩])
  (.seq (.seq (.region false [⟨(some 71), .mov (.t 7), none⟩,
    ⟨(some 72), .bin .neq (.t 71) (.c (.int .i64 0)), none⟩])
  (.cond (.t 72)
   (.seq (.region false [⟨(some 73), .build [.int .i64 0, .int .i64 0, .int .i64 0, .int .i64 0, .int .i64 0] [], none⟩,
     ⟨none, .st 5 (.t 4) (.t 73), none⟩,
     ⟨(some 5), .mov (.c (.int .i64 6)), none⟩])
   (.ret))
   (.skip)))
  (.seq (.seq (.region false [⟨(some 74), .mov (.t 10), none⟩,
    ⟨(some 75), .bin .gtr (.t 74) (.c (.int .i64 2)), none⟩])
  (.cond (.t 75)
   (.seq (.region false [⟨(some 76), .build [.int .i64 0, .int .i64 0, .int .i64 0, .int .i64 0, .int .i64 0] [], none⟩,
     ⟨none, .st 5 (.t 4) (.t 76), none⟩,
     ⟨(some 5), .mov (.c (.int .i64 7)), none⟩])
   (.ret))
   (.skip)))
  (.seq (.seq (.region false [⟨(some 77), .mov (.t 8), none⟩,
    ⟨(some 78), .len (.t 77), none⟩,
    ⟨(some 79), .mov (.t 10), none⟩,
    ⟨(some 80), .bin .add (.c (.int .i64 3)) (.t 79), none⟩,
    ⟨(some 81), .bin .neq (.t 78) (.t 80), none⟩])
  (.cond (.t 81)
   (.seq (.region false [⟨(some 82), .build [.int .i64 0, .int .i64 0, .int .i64 0, .int .i64 0, .int .i64 0] [], none⟩,
     ⟨none, .st 5 (.t 4) (.t 82), none⟩,
     ⟨(some 5), .mov (.c (.int .i64 6)), none⟩])
   (.ret))
   (.skip)))
  (.seq (.region true [⟨(some 83), .mov (.t 10), none⟩,
    ⟨(some 84), .ld (some 2) (.t 2), none⟩,
    ⟨(some 85), .call F_ref20_Low [(.t 84)], none⟩,
    ⟨(some 86), .ld (some 2) (.t 2), none⟩,
    ⟨(some 87), .call F_ref20_Low [(.t 86)], none⟩,
    ⟨(some 88), .build [.int .i64 0, .int .i64 0] [(0, 1, (.t 85)), (1, 1, (.t 87))], none⟩,
    ⟨(some 89), .build [.int .i64 0, .int .i64 0, .int .i64 0, .int .i64 0, .int .i64 0] [(0, 1, (.c (.int .i64 1))), (1, 1, (.t 83)), (2, 2, (.t 88))], none⟩,
    ⟨(some 11), .mov (.c (.undef)), none⟩,
    ⟨(some 11), .boxS 5 (.t 89), none⟩])
  (.seq (.seq (.region false [⟨(some 90), .mov (.t 8), none⟩,
    ⟨(some 91), .idxA 2 (.t 90) (.c (.int .i64 0)), none⟩,
    ⟨(some 92), .fldA 0 (.t 91), none⟩,
    ⟨(some 93), .ld none (.t 92), none⟩,
    ⟨(some 94), .bin .eql (.t 93) (.c (.str [99, 104, 97, 114])), none⟩])
  (.cond (.t 94)
   (.region false [⟨(some 95), .fldA 0 (.t 11), none⟩,
     ⟨none, .st 1 (.t 95) (.c (.int .i64 2)), none⟩])
   (.skip)))
  (.seq (.seq (.region false [⟨(some 12), .mov (.c (.int .i64 0)), none⟩])
  (.block 2 (.loop A_ref20_ParseL1)))
  (.seq (.region false [⟨(some 127), .ld (some 2) (.t 2), none⟩,
    ⟨(some 128), .ld (some 5) (.t 11), none⟩,
    ⟨(some 129), .call F_ref20_Good [(.t 127), (.t 128)], none⟩,
    ⟨(some 7), .mov (.t 129), none⟩])
  (.seq (.seq (.region false [⟨(some 130), .mov (.t 7), none⟩,
    ⟨(some 131), .bin .neq (.t 130) (.c (.int .i64 0)), none⟩])
  (.cond (.t 131)
   (.seq (.region false [⟨(some 132), .build [.int .i64 0, .int .i64 0, .int .i64 0, .int .i64 0, .int .i64 0] [], none⟩,
     ⟨(some 133), .mov (.t 7), none⟩,
     ⟨none, .st 5 (.t 4) (.t 132), none⟩,
     ⟨(some 5), .mov (.t 133), none⟩])
   (.ret))
   (.skip)))
  (.seq (.region false [⟨(some 134), .ld (some 5) (.t 11), none⟩,
    ⟨none, .st 5 (.t 4) (.t 134), none⟩,
    ⟨(some 5), .mov (.c (.int .i64 0)), none⟩])
  (.ret))))))))))))))))),
  [.cell (some 5) 4, .tmp 5]⟩

/- law20_Line -/
def A_law20_Line : AFun := ⟨4,
  .seq (.region false [⟨(some 0), .alloc [.sl .ex [], .sl .ex []], none⟩])
  (.seq (.region false [⟨(some 1), .bsl 1 (.str []) 3 [(0, (.c (.str [108, 111, 119]))), (1, (.c (.str [115, 116, 97, 102, 102]))), (2, (.c (.str [104, 105, 103, 104])))], none⟩,
    ⟨(some 2), .bsl 1 (.int .u8 0) 3 [(0, (.c (.int .u8 7))), (1, (.c (.int .u8 6))), (2, (.c (.int .u8 4)))], none⟩,
    ⟨(some 3), .build [.sl .ex [], .sl .ex []] [(0, 1, (.t 1)), (1, 1, (.t 2))], none⟩,
    ⟨none, .st 2 (.t 0) (.t 3), none⟩])
  (.ret)),
  [.cell (some 2) 0]⟩

/- law20_vector -/
def A_law20_vector : AFun := ⟨9,
  .seq (.region false [⟨(some 4), .alloc [.int .i64 0, .int .i64 0, .int .i64 0, .int .i64 0, .int .i64 0], none⟩])
  (.seq (.region false [⟨(some 5), .mov (.t 0), none⟩,
    ⟨(some 6), .build [.int .i64 0, .int .i64 0] [(0, 1, (.t 5)), (1, 1, (.c (.int .i64 0)))], none⟩,
    ⟨(some 7), .mov (.t 1), none⟩,
    ⟨(some 8), .build [.int .i64 0, .int .i64 0, .int .i64 0, .int .i64 0, .int .i64 0] [(0, 1, (.c (.int .i64 1))), (1, 1, (.c (.int .i64 1))), (2, 2, (.t 6)), (4, 1, (.t 7))], none⟩,
    ⟨none, .st 5 (.t 4) (.t 8), none⟩])
  (.ret)),
  [.cell (some 5) 4]⟩

/- types_Within -/
def A_types_Within : AFun := ⟨23,
  .seq (.region false [⟨(some 3), .box (.t 0), none⟩,
    ⟨(some 4), .box (.t 1), none⟩,
    ⟨(some 5), .box (.t 2), none⟩,
    ⟨(some 6), .mov (.c (.bool false)), none⟩,
    ⟨(some 7), .mov (.c (.int .i64 0)), none⟩])
  (.seq (.region false [⟨(some 11), .ld (some 2) (.t 3), none⟩,
    ⟨(some 12), .ld (some 5) (.t 4), none⟩,
    ⟨(some 13), .ld (some 5) (.t 5), none⟩,
    ⟨(some 14), .call F_types_Join [(.t 11), (.t 12), (.t 13)], none⟩,
    ⟨(some 10), .mov (.t 14), none⟩,
    ⟨(some 15), .extr (.t 10) 0, none⟩,
    ⟨(some 16), .extr (.t 10) 1, none⟩,
    ⟨(some 8), .alloc [.int .i64 0, .int .i64 0, .int .i64 0, .int .i64 0, .int .i64 0], none⟩,
    ⟨none, .st 5 (.t 8) (.t 15), none⟩,
    ⟨(some 9), .mov (.t 16), none⟩])
  (.seq (.seq (.region false [⟨(some 17), .mov (.t 9), none⟩,
    ⟨(some 18), .bin .neq (.t 17) (.c (.int .i64 0)), none⟩])
  (.cond (.t 18)
   (.seq (.region false [⟨(some 19), .mov (.t 9), none⟩,
     ⟨(some 6), .mov (.c (.bool false)), none⟩,
     ⟨(some 7), .mov (.t 19), none⟩])
   (.ret))
   (.skip)))
  (.seq (.region false [⟨(some 20), .ld (some 5) (.t 8), none⟩,
    ⟨(some 21), .ld (some 5) (.t 5), none⟩,
    ⟨(some 22), .aeq false [0, 0, 0, 0, 0] (.t 20) (.t 21), none⟩,
    ⟨(some 6), .mov (.t 22), none⟩,
    ⟨(some 7), .mov (.c (.int .i64 0)), none⟩])
  (.ret)))),
  [.tmp 6, .tmp 7]⟩

/- types_Raise -/
def A_types_Raise : AFun := ⟨38,
  .seq (.region false [⟨(some 3), .box (.t 0), none⟩,
    ⟨(some 4), .box (.t 1), none⟩,
    ⟨(some 6), .alloc [.int .i64 0, .int .i64 0, .int .i64 0, .int .i64 0, .int .i64 0], none⟩,
    ⟨(some 7), .mov (.c (.int .i64 0)), none⟩])
  (.seq (.region false [⟨(some 12), .ld (some 2) (.t 3), none⟩,
    ⟨(some 13), .call F_types_of [(.t 12)], none⟩,
    ⟨(some 11), .mov (.t 13), none⟩,
    ⟨(some 14), .extr (.t 11) 0, none⟩,
    ⟨(some 15), .extr (.t 11) 1, none⟩,
    ⟨(some 8), .alloc [.sl .ex [], .sl .ex [], .int .i64 0], none⟩,
    ⟨none, .st 3 (.t 8) (.t 14), none⟩,
    ⟨(some 9), .mov (.t 15), none⟩])
  (.seq (.seq (.region false [⟨(some 16), .mov (.t 9), none⟩,
    ⟨(some 17), .bin .neq (.t 16) (.c (.int .i64 0)), none⟩])
  (.cond (.t 17)
   (.seq (.region false [⟨(some 18), .build [.int .i64 0, .int .i64 0, .int .i64 0, .int .i64 0, .int .i64 0] [], none⟩,
     ⟨(some 19), .mov (.t 9), none⟩,
     ⟨none, .st 5 (.t 6) (.t 18), none⟩,
     ⟨(some 7), .mov (.t 19), none⟩])
   (.ret))
   (.skip)))
  (.seq (.seq (.region false [⟨(some 20), .ld (some 3) (.t 8), none⟩,
    ⟨(some 21), .ld (some 5) (.t 4), none⟩,
    ⟨(some 22), .call F_types_order_check [(.t 20), (.t 21)], none⟩,
    ⟨(some 10), .mov (.t 22), none⟩])
  (.seq (.region false [⟨(some 23), .mov (.t 10), none⟩,
    ⟨(some 24), .bin .neq (.t 23) (.c (.int .i64 0)), none⟩])
  (.cond (.t 24)
   (.seq (.region false [⟨(some 25), .build [.int .i64 0, .int .i64 0, .int .i64 0, .int .i64 0, .int .i64 0] [], none⟩,
     ⟨(some 26), .mov (.t 10), none⟩,
     ⟨none, .st 5 (.t 6) (.t 25), none⟩,
     ⟨(some 7), .mov (.t 26), none⟩])
   (.ret))
   (.skip))))
  (.seq (.seq (.region false [⟨(some 27), .ld (some 3) (.t 8), none⟩,
    ⟨(some 28), .mov (.t 2), none⟩,
    ⟨(some 29), .call F_types_order_label [(.t 27), (.t 28)], none⟩,
    ⟨(some 30), .not (.t 29), none⟩])
  (.cond (.t 30)
   (.seq (.region false [⟨(some 31), .build [.int .i64 0, .int .i64 0, .int .i64 0, .int .i64 0, .int .i64 0] [], none⟩,
     ⟨none, .st 5 (.t 6) (.t 31), none⟩,
     ⟨(some 7), .mov (.c (.int .i64 7)), none⟩])
   (.ret))
   (.skip)))
  (.seq (.region false [⟨(some 32), .ld (some 5) (.t 4), none⟩,
    ⟨(some 33), .ld (some 3) (.t 8), none⟩,
    ⟨(some 34), .mov (.t 2), none⟩,
    ⟨(some 35), .build [.sl .ex [], .sl .ex [], .int .i64 0, .int .i64 0] [(0, 3, (.t 33)), (3, 1, (.t 34))], none⟩,
    ⟨(some 36), .mkf F_types_with_up [(.t 35)] [], none⟩,
    ⟨(some 37), .call F_types_each [(.t 32), (.t 36)], none⟩,
    ⟨none, .st 5 (.t 6) (.t 37), none⟩,
    ⟨(some 7), .mov (.c (.int .i64 0)), none⟩])
  (.ret)))))),
  [.cell (some 5) 6, .tmp 7]⟩

/- types_Check -/
def A_types_Check : AFun := ⟨18,
  .seq (.region false [⟨(some 2), .box (.t 0), none⟩,
    ⟨(some 3), .box (.t 1), none⟩,
    ⟨(some 4), .mov (.c (.int .i64 0)), none⟩])
  (.seq (.region false [⟨(some 8), .ld (some 2) (.t 2), none⟩,
    ⟨(some 9), .call F_types_of [(.t 8)], none⟩,
    ⟨(some 7), .mov (.t 9), none⟩,
    ⟨(some 10), .extr (.t 7) 0, none⟩,
    ⟨(some 11), .extr (.t 7) 1, none⟩,
    ⟨(some 5), .alloc [.sl .ex [], .sl .ex [], .int .i64 0], none⟩,
    ⟨none, .st 3 (.t 5) (.t 10), none⟩,
    ⟨(some 6), .mov (.t 11), none⟩])
  (.seq (.seq (.region false [⟨(some 12), .mov (.t 6), none⟩,
    ⟨(some 13), .bin .neq (.t 12) (.c (.int .i64 0)), none⟩])
  (.cond (.t 13)
   (.seq (.region false [⟨(some 14), .mov (.t 6), none⟩,
     ⟨(some 4), .mov (.t 14), none⟩])
   (.ret))
   (.skip)))
  (.seq (.region false [⟨(some 15), .ld (some 3) (.t 5), none⟩,
    ⟨(some 16), .ld (some 5) (.t 3), none⟩,
    ⟨(some 17), .call F_types_order_check [(.t 15), (.t 16)], none⟩,
    ⟨(some 4), .mov (.t 17), none⟩])
  (.ret)))),
  [.tmp 4]⟩

/- types_of -/
def A_types_of : AFun := ⟨26,
  .seq (.region false [⟨(some 1), .box (.t 0), none⟩,
    ⟨(some 2), .alloc [.sl .ex [], .sl .ex [], .int .i64 0], none⟩,
    ⟨(some 3), .mov (.c (.int .i64 0)), none⟩])
  (.seq (.seq (.region false [⟨(some 9), .ld (some 2) (.t 1), none⟩,
    ⟨(some 10), .call F_lattice_Check [(.t 9)], none⟩,
    ⟨(some 8), .mov (.t 10), none⟩,
    ⟨(some 11), .extr (.t 8) 0, none⟩,
    ⟨(some 12), .extr (.t 8) 1, none⟩,
    ⟨(some 4), .mov (.t 11), none⟩,
    ⟨(some 5), .mov (.t 12), none⟩])
  (.seq (.region false [⟨(some 13), .mov (.t 5), none⟩,
    ⟨(some 14), .bin .neq (.t 13) (.c (.int .i64 0)), none⟩])
  (.cond (.t 14)
   (.seq (.region false [⟨(some 15), .build [.sl .ex [], .sl .ex [], .int .i64 0] [], none⟩,
     ⟨(some 16), .mov (.t 5), none⟩,
     ⟨none, .st 3 (.t 2) (.t 15), none⟩,
     ⟨(some 3), .mov (.t 16), none⟩])
   (.ret))
   (.skip))))
  (.seq (.region false [⟨(some 18), .ld (some 2) (.t 1), none⟩,
    ⟨(some 19), .call F_lattice_Bottom [(.t 18)], none⟩,
    ⟨(some 17), .mov (.t 19), none⟩,
    ⟨(some 20), .extr (.t 17) 0, none⟩,
    ⟨(some 21), .extr (.t 17) 1, none⟩,
    ⟨(some 6), .mov (.t 20), none⟩,
    ⟨(some 7), .mov (.t 21), none⟩])
  (.seq (.region false [⟨(some 22), .ld (some 2) (.t 1), none⟩,
    ⟨(some 23), .mov (.t 6), none⟩,
    ⟨(some 24), .build [.sl .ex [], .sl .ex [], .int .i64 0] [(0, 2, (.t 22)), (2, 1, (.t 23))], none⟩,
    ⟨(some 25), .mov (.t 7), none⟩,
    ⟨none, .st 3 (.t 2) (.t 24), none⟩,
    ⟨(some 3), .mov (.t 25), none⟩])
  (.ret)))),
  [.cell (some 3) 2, .tmp 3]⟩

/- ref03_Check -/
def A_ref03_CheckL0 : ACode :=
  .seq (.seq (.region false [⟨(some 29), .mov (.t 7), none⟩,
    ⟨(some 30), .mov (.t 6), none⟩,
    ⟨(some 31), .bin .lss (.t 29) (.t 30), none⟩])
  (.cond (.t 31)
   (.skip)
   (.exit 0)))
  (.seq (.block 1 (.seq (.region false [⟨(some 34), .ld (some 2) (.t 1), none⟩,
    ⟨(some 35), .mov (.t 7), none⟩,
    ⟨(some 36), .call F_ref03_ordered [(.t 34), (.t 35)], none⟩,
    ⟨(some 37), .not (.t 36), none⟩])
  (.cond (.t 37)
   (.seq (.region false [⟨(some 38), .mov (.t 7), none⟩,
     ⟨(some 2), .mov (.t 38), none⟩,
     ⟨(some 3), .mov (.c (.int .i64 6)), none⟩])
   (.ret))
   (.skip))))
  (.region false [⟨(some 32), .mov (.t 7), none⟩,
    ⟨(some 33), .bin .add (.t 32) (.c (.int .i64 1)), none⟩,
    ⟨(some 7), .mov (.t 33), none⟩]))
def A_ref03_CheckL2 : ACode :=
  .seq (.seq (.region false [⟨(some 46), .mov (.t 10), none⟩,
    ⟨(some 47), .mov (.t 6), none⟩,
    ⟨(some 48), .bin .lss (.t 46) (.t 47), none⟩])
  (.cond (.t 48)
   (.skip)
   (.exit 4)))
  (.seq (.block 5 (.seq (.region false [⟨(some 51), .fldA 1 (.t 1), none⟩,
    ⟨(some 52), .ld none (.t 51), none⟩,
    ⟨(some 53), .mov (.t 9), none⟩,
    ⟨(some 54), .mov (.t 10), none⟩,
    ⟨(some 55), .call F_ref03_nearest [(.t 52), (.t 53), (.t 54)], none⟩,
    ⟨(some 56), .bin .lss (.t 55) (.c (.int .i64 0)), none⟩,
    ⟨(some 57), .mov (.t 56), none⟩,
    ⟨(some 58), .mov (.t 8), some (57, false)⟩,
    ⟨(some 59), .mov (.t 9), some (57, false)⟩,
    ⟨(some 60), .mov (.t 10), some (57, false)⟩,
    ⟨(some 61), .call F_ref03_nearest [(.t 58), (.t 59), (.t 60)], some (57, false)⟩,
    ⟨(some 62), .bin .lss (.t 61) (.c (.int .i64 0)), some (57, false)⟩,
    ⟨(some 63), .pick (.t 57) (.c (.bool true)) (.t 62), none⟩])
  (.cond (.t 63)
   (.seq (.region false [⟨(some 64), .mov (.t 9), none⟩,
     ⟨(some 2), .mov (.t 64), none⟩,
     ⟨(some 3), .mov (.c (.int .i64 4)), none⟩])
   (.ret))
   (.skip))))
  (.region false [⟨(some 49), .mov (.t 10), none⟩,
    ⟨(some 50), .bin .add (.t 49) (.c (.int .i64 1)), none⟩,
    ⟨(some 10), .mov (.t 50), none⟩]))
def A_ref03_CheckL1 : ACode :=
  .seq (.seq (.region false [⟨(some 41), .mov (.t 9), none⟩,
    ⟨(some 42), .mov (.t 6), none⟩,
    ⟨(some 43), .bin .lss (.t 41) (.t 42), none⟩])
  (.cond (.t 43)
   (.skip)
   (.exit 2)))
  (.seq (.block 3 (.seq (.region false [⟨(some 10), .mov (.c (.int .i64 0)), none⟩])
  (.block 4 (.loop A_ref03_CheckL2))))
  (.region false [⟨(some 44), .mov (.t 9), none⟩,
    ⟨(some 45), .bin .add (.t 44) (.c (.int .i64 1)), none⟩,
    ⟨(some 9), .mov (.t 45), none⟩]))
def A_ref03_Check : AFun := ⟨65,
  .seq (.region false [⟨(some 1), .box (.t 0), none⟩,
    ⟨(some 2), .mov (.c (.int .i64 0)), none⟩,
    ⟨(some 3), .mov (.c (.int .i64 0)), none⟩])
  (.seq (.region false [⟨(some 12), .fldA 0 (.t 1), none⟩,
    ⟨(some 13), .ld none (.t 12), none⟩,
    ⟨(some 14), .call F_ref03_names [(.t 13)], none⟩,
    ⟨(some 11), .mov (.t 14), none⟩,
    ⟨(some 15), .extr (.t 11) 0, none⟩,
    ⟨(some 16), .extr (.t 11) 1, none⟩,
    ⟨(some 4), .mov (.t 15), none⟩,
    ⟨(some 5), .mov (.t 16), none⟩])
  (.seq (.seq (.region false [⟨(some 17), .mov (.t 5), none⟩,
    ⟨(some 18), .bin .neq (.t 17) (.c (.int .i64 0)), none⟩])
  (.cond (.t 18)
   (.seq (.region false [⟨(some 19), .mov (.t 4), none⟩,
     ⟨(some 20), .mov (.t 5), none⟩,
     ⟨(some 2), .mov (.t 19), none⟩,
     ⟨(some 3), .mov (.t 20), none⟩])
   (.ret))
   (.skip)))
  (.seq (.region false [⟨(some 21), .fldA 0 (.t 1), none⟩,
    ⟨(some 22), .ld none (.t 21), none⟩,
    ⟨(some 23), .len (.t 22), none⟩,
    ⟨(some 6), .mov (.t 23), none⟩])
  (.seq (.seq (.region false [⟨(some 24), .fldA 1 (.t 1), none⟩,
    ⟨(some 25), .ld none (.t 24), none⟩,
    ⟨(some 26), .len (.t 25), none⟩,
    ⟨(some 27), .mov (.t 6), none⟩,
    ⟨(some 28), .bin .neq (.t 26) (.t 27), none⟩])
  (.cond (.t 28)
   (.seq (.region false [⟨(some 2), .mov (.c (.int .i64 (-1))), none⟩,
     ⟨(some 3), .mov (.c (.int .i64 6)), none⟩])
   (.ret))
   (.skip)))
  (.seq (.seq (.region false [⟨(some 7), .mov (.c (.int .i64 0)), none⟩])
  (.block 0 (.loop A_ref03_CheckL0)))
  (.seq (.region false [⟨(some 39), .ld (some 2) (.t 1), none⟩,
    ⟨(some 40), .call F_ref03_downs [(.t 39)], none⟩,
    ⟨(some 8), .mov (.t 40), none⟩])
  (.seq (.seq (.region false [⟨(some 9), .mov (.c (.int .i64 0)), none⟩])
  (.block 2 (.loop A_ref03_CheckL1)))
  (.seq (.region false [⟨(some 2), .mov (.c (.int .i64 0)), none⟩,
    ⟨(some 3), .mov (.c (.int .i64 0)), none⟩])
  (.ret))))))))),
  [.tmp 2, .tmp 3]⟩

/- ref20_Low -/
def A_ref20_LowL0 : ACode :=
  .seq (.seq (.region false [⟨(some 4), .mov (.t 3), none⟩,
    ⟨(some 5), .fldA 1 (.t 1), none⟩,
    ⟨(some 6), .ld none (.t 5), none⟩,
    ⟨(some 7), .len (.t 6), none⟩,
    ⟨(some 8), .bin .lss (.t 4) (.t 7), none⟩])
  (.cond (.t 8)
   (.skip)
   (.exit 0)))
  (.seq (.block 1 (.seq (.region true [⟨(some 11), .fldA 1 (.t 1), none⟩,
    ⟨(some 12), .ld none (.t 11), none⟩,
    ⟨(some 13), .mov (.t 3), none⟩,
    ⟨(some 14), .idxA 1 (.t 12) (.t 13), none⟩,
    ⟨(some 15), .ld none (.t 14), none⟩,
    ⟨(some 16), .conv .i64 (.t 15), none⟩,
    ⟨(some 17), .fldA 1 (.t 1), none⟩,
    ⟨(some 18), .ld none (.t 17), none⟩,
    ⟨(some 19), .len (.t 18), none⟩,
    ⟨(some 20), .bin .shl (.c (.int .i64 1)) (.t 19), none⟩,
    ⟨(some 21), .bin .sub (.t 20) (.c (.int .i64 1)), none⟩,
    ⟨(some 22), .bin .eql (.t 16) (.t 21), none⟩])
  (.cond (.t 22)
   (.seq (.region false [⟨(some 23), .mov (.t 3), none⟩,
     ⟨(some 2), .mov (.t 23), none⟩])
   (.ret))
   (.skip))))
  (.region false [⟨(some 9), .mov (.t 3), none⟩,
    ⟨(some 10), .bin .add (.t 9) (.c (.int .i64 1)), none⟩,
    ⟨(some 3), .mov (.t 10), none⟩]))
def A_ref20_Low : AFun := ⟨24,
  .seq (.region false [⟨(some 1), .box (.t 0), none⟩,
    ⟨(some 2), .mov (.c (.int .i64 0)), none⟩])
  (.seq (.seq (.region false [⟨(some 3), .mov (.c (.int .i64 0)), none⟩])
  (.block 0 (.loop A_ref20_LowL0)))
  (.seq (.region false [⟨(some 2), .mov (.c (.int .i64 0)), none⟩])
  (.ret))),
  [.tmp 2]⟩

/- types_order_check -/
def A_types_order_check : AFun := ⟨60,
  .seq (.region false [⟨(some 2), .box (.t 0), none⟩,
    ⟨(some 3), .box (.t 1), none⟩,
    ⟨(some 4), .mov (.c (.int .i64 0)), none⟩])
  (.seq (.block 0 (.seq (.seq (.region false [⟨(some 7), .fldA 0 (.t 3), none⟩,
    ⟨(some 8), .ld none (.t 7), none⟩,
    ⟨(some 9), .bin .neq (.t 8) (.c (.int .i64 1)), none⟩,
    ⟨(some 10), .mov (.t 9), none⟩,
    ⟨(some 11), .fldA 0 (.t 3), some (10, true)⟩,
    ⟨(some 12), .ld none (.t 11), some (10, true)⟩,
    ⟨(some 13), .bin .neq (.t 12) (.c (.int .i64 2)), some (10, true)⟩,
    ⟨(some 14), .pick (.t 10) (.t 13) (.c (.bool false)), none⟩,
    ⟨(some 6), .mov (.t 14), none⟩])
  (.cond (.t 6)
   (.skip)
   (.seq (.region false [⟨(some 15), .fldA 1 (.t 3), none⟩,
     ⟨(some 16), .ld none (.t 15), none⟩,
     ⟨(some 17), .bin .lss (.t 16) (.c (.int .i64 0)), none⟩,
     ⟨(some 6), .mov (.t 17), none⟩])
   (.cond (.t 6)
    (.skip)
    (.region false [⟨(some 18), .fldA 1 (.t 3), none⟩,
      ⟨(some 19), .ld none (.t 18), none⟩,
      ⟨(some 20), .bin .gtr (.t 19) (.c (.int .i64 2)), none⟩,
      ⟨(some 6), .mov (.t 20), none⟩])))))
  (.cond (.t 6)
   (.seq (.region false [⟨(some 4), .mov (.c (.int .i64 7)), none⟩])
   (.ret))
   (.seq (.seq (.region false [⟨(some 22), .ld (some 3) (.t 2), none⟩,
     ⟨(some 23), .fldA 2 (.t 3), none⟩,
     ⟨(some 24), .idxP 2 1 (.t 23) (.c (.int .i64 0)), none⟩,
     ⟨(some 25), .ld none (.t 24), none⟩,
     ⟨(some 26), .call F_types_order_label [(.t 22), (.t 25)], none⟩,
     ⟨(some 27), .not (.t 26), none⟩,
     ⟨(some 21), .mov (.t 27), none⟩])
   (.cond (.t 21)
    (.skip)
    (.seq (.region false [⟨(some 28), .ld (some 3) (.t 2), none⟩,
      ⟨(some 29), .fldA 2 (.t 3), none⟩,
      ⟨(some 30), .idxP 2 1 (.t 29) (.c (.int .i64 1)), none⟩,
      ⟨(some 31), .ld none (.t 30), none⟩,
      ⟨(some 32), .call F_types_order_label [(.t 28), (.t 31)], none⟩,
      ⟨(some 33), .not (.t 32), none⟩,
      ⟨(some 21), .mov (.t 33), none⟩])
    (.cond (.t 21)
     (.skip)
     (.region false [⟨(some 34), .ld (some 3) (.t 2), none⟩,
       ⟨(some 35), .fldA 4 (.t 3), none⟩,
       ⟨(some 36), .ld none (.t 35), none⟩,
       ⟨(some 37), .call F_types_order_label [(.t 34), (.t 36)], none⟩,
       ⟨(some 38), .not (.t 37), none⟩,
       ⟨(some 21), .mov (.t 38), none⟩])))))
   (.cond (.t 21)
    (.seq (.region false [⟨(some 4), .mov (.c (.int .i64 7)), none⟩])
    (.ret))
    (.skip))))))
  (.seq (.region false [⟨(some 39), .fldA 2 (.t 2), none⟩,
    ⟨(some 40), .ld none (.t 39), none⟩,
    ⟨(some 41), .fldA 2 (.t 2), none⟩,
    ⟨(some 42), .ld none (.t 41), none⟩,
    ⟨(some 43), .build [.int .i64 0, .int .i64 0] [(0, 1, (.t 40)), (1, 1, (.t 42))], none⟩,
    ⟨(some 5), .alloc [.int .i64 0, .int .i64 0], none⟩,
    ⟨none, .st 2 (.t 5) (.t 43), none⟩])
  (.seq (.region true [⟨(some 44), .fldA 1 (.t 3), none⟩,
    ⟨(some 45), .ld none (.t 44), none⟩,
    ⟨(some 46), .slA 2 1 (.t 5) none (some (.t 45)) none, none⟩,
    ⟨(some 47), .fldA 2 (.t 3), none⟩,
    ⟨(some 48), .slA 2 1 (.t 47) none none none, none⟩,
    ⟨(some 49), .cpy (.t 46) (.t 48), none⟩])
  (.seq (.seq (.region false [⟨(some 50), .ld (some 2) (.t 5), none⟩,
    ⟨(some 51), .fldA 2 (.t 3), none⟩,
    ⟨(some 52), .ld (some 2) (.t 51), none⟩,
    ⟨(some 53), .aeq true [0, 0] (.t 50) (.t 52), none⟩])
  (.cond (.t 53)
   (.seq (.region false [⟨(some 4), .mov (.c (.int .i64 6)), none⟩])
   (.ret))
   (.skip)))
  (.seq (.seq (.region false [⟨(some 54), .fldA 2 (.t 3), none⟩,
    ⟨(some 55), .fldA 1 (.t 3), none⟩,
    ⟨(some 56), .ld none (.t 55), none⟩,
    ⟨(some 57), .slA 2 1 (.t 54) none (some (.t 56)) none, none⟩,
    ⟨(some 58), .mkf F_types_order_check_1 [] [(.t 2), (.t 3)], none⟩,
    ⟨(some 59), .call F_slices_ContainsFunc_int_int [(.t 57), (.t 58)], none⟩])
  (.cond (.t 59)
   (.seq (.region false [⟨(some 4), .mov (.c (.int .i64 25)), none⟩])
   (.ret))
   (.skip)))
  (.seq (.region false [⟨(some 4), .mov (.c (.int .i64 0)), none⟩])
  (.ret))))))),
  [.tmp 4]⟩

/- types_order_label -/
def A_types_order_label : AFun := ⟨15,
  .seq (.region false [⟨(some 2), .box (.t 0), none⟩,
    ⟨(some 4), .mov (.c (.bool false)), none⟩])
  (.seq (.region false [⟨(some 5), .mov (.t 1), none⟩,
    ⟨(some 6), .bin .geq (.t 5) (.c (.int .i64 0)), none⟩,
    ⟨(some 7), .mov (.t 6), none⟩,
    ⟨(some 8), .mov (.t 1), some (7, true)⟩,
    ⟨(some 9), .fldA 0 (.t 2), some (7, true)⟩,
    ⟨(some 10), .fldA 0 (.t 9), some (7, true)⟩,
    ⟨(some 11), .ld none (.t 10), some (7, true)⟩,
    ⟨(some 12), .len (.t 11), some (7, true)⟩,
    ⟨(some 13), .bin .lss (.t 8) (.t 12), some (7, true)⟩,
    ⟨(some 14), .pick (.t 7) (.t 13) (.c (.bool false)), none⟩,
    ⟨(some 4), .mov (.t 14), none⟩])
  (.ret)),
  [.tmp 4]⟩

/- types_order_leq -/
def A_types_order_leq : AFun := ⟨17,
  .seq (.region false [⟨(some 3), .box (.t 0), none⟩,
    ⟨(some 6), .mov (.c (.bool false)), none⟩])
  (.seq (.region false [⟨(some 7), .fldA 0 (.t 3), none⟩,
    ⟨(some 8), .fldA 1 (.t 7), none⟩,
    ⟨(some 9), .ld none (.t 8), none⟩,
    ⟨(some 10), .mov (.t 1), none⟩,
    ⟨(some 11), .idxA 1 (.t 9) (.t 10), none⟩,
    ⟨(some 12), .ld none (.t 11), none⟩,
    ⟨(some 13), .mov (.t 2), none⟩,
    ⟨(some 14), .bin .shr (.t 12) (.t 13), none⟩,
    ⟨(some 15), .bin .and (.t 14) (.c (.int .u8 1)), none⟩,
    ⟨(some 16), .bin .eql (.t 15) (.c (.int .u8 1)), none⟩,
    ⟨(some 6), .mov (.t 16), none⟩])
  (.ret)),
  [.tmp 6]⟩

/- ref20_Check -/
def A_ref20_Check : AFun := ⟨18,
  .seq (.region false [⟨(some 2), .box (.t 0), none⟩,
    ⟨(some 3), .box (.t 1), none⟩,
    ⟨(some 4), .mov (.c (.int .i64 0)), none⟩])
  (.seq (.region false [⟨(some 8), .ld (some 2) (.t 2), none⟩,
    ⟨(some 9), .call F_ref03_Check [(.t 8)], none⟩,
    ⟨(some 7), .mov (.t 9), none⟩,
    ⟨(some 10), .extr (.t 7) 0, none⟩,
    ⟨(some 11), .extr (.t 7) 1, none⟩,
    ⟨(some 5), .mov (.t 10), none⟩,
    ⟨(some 6), .mov (.t 11), none⟩])
  (.seq (.seq (.region false [⟨(some 12), .mov (.t 6), none⟩,
    ⟨(some 13), .bin .neq (.t 12) (.c (.int .i64 0)), none⟩])
  (.cond (.t 13)
   (.seq (.region false [⟨(some 14), .mov (.t 6), none⟩,
     ⟨(some 4), .mov (.t 14), none⟩])
   (.ret))
   (.skip)))
  (.seq (.region false [⟨(some 15), .ld (some 2) (.t 2), none⟩,
    ⟨(some 16), .ld (some 5) (.t 3), none⟩,
    ⟨(some 17), .call F_ref20_Good [(.t 15), (.t 16)], none⟩,
    ⟨(some 4), .mov (.t 17), none⟩])
  (.ret)))),
  [.tmp 4]⟩

/- ref20_Label -/
def A_ref20_Label : AFun := ⟨14,
  .seq (.region false [⟨(some 2), .box (.t 0), none⟩,
    ⟨(some 4), .mov (.c (.bool false)), none⟩])
  (.seq (.region false [⟨(some 5), .mov (.t 1), none⟩,
    ⟨(some 6), .bin .geq (.t 5) (.c (.int .i64 0)), none⟩,
    ⟨(some 7), .mov (.t 6), none⟩,
    ⟨(some 8), .mov (.t 1), some (7, true)⟩,
    ⟨(some 9), .fldA 0 (.t 2), some (7, true)⟩,
    ⟨(some 10), .ld none (.t 9), some (7, true)⟩,
    ⟨(some 11), .len (.t 10), some (7, true)⟩,
    ⟨(some 12), .bin .lss (.t 8) (.t 11), some (7, true)⟩,
    ⟨(some 13), .pick (.t 7) (.t 12) (.c (.bool false)), none⟩,
    ⟨(some 4), .mov (.t 13), none⟩])
  (.ret)),
  [.tmp 4]⟩

/- ref20_Leq -/
def A_ref20_Leq : AFun := ⟨11,
  .seq (.region false [⟨(some 3), .box (.t 0), none⟩,
    ⟨(some 6), .mov (.c (.bool false)), none⟩])
  (.seq (.region false [⟨(some 7), .ld (some 2) (.t 3), none⟩,
    ⟨(some 8), .mov (.t 1), none⟩,
    ⟨(some 9), .mov (.t 2), none⟩,
    ⟨(some 10), .call F_ref03_Below [(.t 7), (.t 8), (.t 9)], none⟩,
    ⟨(some 6), .mov (.t 10), none⟩])
  (.ret)),
  [.tmp 6]⟩

/- types_names -/
def A_types_names : AFun := ⟨2,
  .seq (.region false [⟨(some 0), .alloc [.str [], .str [], .str []], none⟩])
  (.seq (.region false [⟨(some 1), .build [.str [], .str [], .str []] [(1, 1, (.c (.str [105, 110, 116]))), (2, 1, (.c (.str [99, 104, 97, 114])))], none⟩,
    ⟨none, .st 3 (.t 0) (.t 1), none⟩])
  (.ret)),
  [.cell (some 3) 0]⟩

/- types_each -/
def A_types_eachL0 : ACode :=
  .seq (.region false [⟨(some 9), .bin .lss (.t 8) (.t 7), none⟩])
  (.seq (.cond (.t 9)
   (.skip)
   (.exit 0))
  (.seq (.block 1 (.seq (.region false [⟨(some 10), .mov (.t 8), none⟩,
    ⟨(some 5), .mov (.t 10), none⟩])
  (.region false [⟨(some 11), .mov (.t 5), none⟩,
    ⟨(some 12), .mov (.t 1), none⟩,
    ⟨(some 13), .mov (.t 5), none⟩,
    ⟨(some 14), .fldA 2 (.t 2), none⟩,
    ⟨(some 15), .idxP 2 1 (.t 14) (.t 13), none⟩,
    ⟨(some 16), .ld none (.t 15), none⟩,
    ⟨(some 17), .callv (.t 12) [(.t 16)], none⟩,
    ⟨(some 18), .fldA 2 (.t 2), none⟩,
    ⟨(some 19), .idxP 2 1 (.t 18) (.t 11), none⟩,
    ⟨none, .st 1 (.t 19) (.t 17), none⟩])))
  (.region false [⟨(some 20), .bin .add (.t 8) (.c (.int .i64 1)), none⟩,
    ⟨(some 8), .mov (.t 20), none⟩])))
def A_types_each : AFun := ⟨27,
  .seq (.region false [⟨(some 2), .box (.t 0), none⟩,
    ⟨(some 4), .alloc [.int .i64 0, .int .i64 0, .int .i64 0, .int .i64 0, .int .i64 0], none⟩])
  (.seq (.seq (.region false [⟨(some 6), .fldA 1 (.t 2), none⟩,
    ⟨(some 7), .ld none (.t 6), none⟩,
    ⟨(some 8), .mov (.c (.int .i64 0)), none⟩])
  (.block 0 (.loop A_types_eachL0)))
  (.seq (.region false [⟨(some 21), .mov (.t 1), none⟩,
    ⟨(some 22), .fldA 4 (.t 2), none⟩,
    ⟨(some 23), .ld none (.t 22), none⟩,
    ⟨(some 24), .callv (.t 21) [(.t 23)], none⟩,
    ⟨(some 25), .fldA 4 (.t 2), none⟩,
    ⟨none, .st 1 (.t 25) (.t 24), none⟩])
  (.seq (.region false [⟨(some 26), .ld (some 5) (.t 2), none⟩,
    ⟨none, .st 5 (.t 4) (.t 26), none⟩])
  (.ret)))),
  [.cell (some 5) 4]⟩

/- types_Print_1 -/
def A_types_Print_1 : AFun := ⟨15,
  .seq (.region false [⟨(some 4), .mov (.c (.int .i64 0)), none⟩])
  (.seq (.region true [⟨(some 5), .ld none (.t 1), none⟩,
    ⟨(some 6), .bsl 1 (.int .u8 0) 1 [(0, (.c (.int .u8 32)))], none⟩,
    ⟨(some 7), .app 1 1 (.t 5) (.t 6), none⟩,
    ⟨(some 8), .fldA 0 (.t 2), none⟩,
    ⟨(some 9), .ld none (.t 8), none⟩,
    ⟨(some 10), .mov (.t 0), none⟩,
    ⟨(some 11), .idxA 1 (.t 9) (.t 10), none⟩,
    ⟨(some 12), .ld none (.t 11), none⟩,
    ⟨(some 13), .app 1 1 (.t 7) (.t 12), none⟩,
    ⟨none, .st 1 (.t 1) (.t 13), none⟩])
  (.seq (.region false [⟨(some 14), .mov (.t 0), none⟩,
    ⟨(some 4), .mov (.t 14), none⟩])
  (.ret))),
  [.tmp 4]⟩

/- ref20_kind -/
def A_ref20_kind : AFun := ⟨5,
  .seq (.region false [⟨(some 2), .mov (.c (.str [])), none⟩])
  (.seq (.seq (.region false [⟨(some 3), .mov (.t 0), none⟩,
    ⟨(some 4), .bin .eql (.t 3) (.c (.int .i64 1)), none⟩])
  (.cond (.t 4)
   (.seq (.region false [⟨(some 2), .mov (.c (.str [105, 110, 116])), none⟩])
   (.ret))
   (.skip)))
  (.seq (.region false [⟨(some 2), .mov (.c (.str [99, 104, 97, 114])), none⟩])
  (.ret))),
  [.tmp 2]⟩

/- ref01_Digits -/
def A_ref01_Digits : AFun := ⟨36,
  .seq (.region false [⟨(some 2), .mov (.c (.str [])), none⟩])
  (.seq (.seq (.region false [⟨(some 4), .mov (.t 0), none⟩,
    ⟨(some 5), .bin .gtr (.t 4) (.c (.int .i64 9)), none⟩,
    ⟨(some 6), .mov (.t 5), none⟩,
    ⟨(some 7), .mov (.t 0), some (6, false)⟩,
    ⟨(some 8), .bin .lss (.t 7) (.c (.int .i64 (-9))), some (6, false)⟩,
    ⟨(some 9), .pick (.t 6) (.c (.bool true)) (.t 8), none⟩])
  (.cond (.t 9)
   (.seq (.region false [⟨(some 10), .mov (.t 0), none⟩,
     ⟨(some 11), .bin .rem (.t 10) (.c (.int .i64 10)), none⟩,
     ⟨(some 3), .mov (.t 11), none⟩])
   (.seq (.seq (.region false [⟨(some 12), .mov (.t 3), none⟩,
     ⟨(some 13), .bin .lss (.t 12) (.c (.int .i64 0)), none⟩])
   (.cond (.t 13)
    (.region false [⟨(some 14), .mov (.t 3), none⟩,
      ⟨(some 15), .neg (.t 14), none⟩,
      ⟨(some 3), .mov (.t 15), none⟩])
    (.skip)))
   (.seq (.region true [⟨(some 16), .mov (.t 0), none⟩,
     ⟨(some 17), .bin .quo (.t 16) (.c (.int .i64 10)), none⟩,
     ⟨(some 18), .call F_ref01_Digits [(.t 17)], none⟩,
     ⟨(some 19), .mov (.t 3), none⟩,
     ⟨(some 20), .bin .add (.c (.int .i64 48)) (.t 19), none⟩,
     ⟨(some 21), .conv .u8 (.t 20), none⟩,
     ⟨(some 22), .bsl 1 (.int .u8 0) 1 [(0, (.t 21))], none⟩,
     ⟨(some 23), .b2s (.t 22), none⟩,
     ⟨(some 24), .bin .add (.t 18) (.t 23), none⟩,
     ⟨(some 2), .mov (.t 24), none⟩])
   (.ret))))
   (.skip)))
  (.seq (.seq (.region false [⟨(some 25), .mov (.t 0), none⟩,
    ⟨(some 26), .bin .lss (.t 25) (.c (.int .i64 0)), none⟩])
  (.cond (.t 26)
   (.seq (.region false [⟨(some 27), .mov (.t 0), none⟩,
     ⟨(some 28), .neg (.t 27), none⟩,
     ⟨(some 29), .call F_ref01_Digits [(.t 28)], none⟩,
     ⟨(some 30), .bin .add (.c (.str [45])) (.t 29), none⟩,
     ⟨(some 2), .mov (.t 30), none⟩])
   (.ret))
   (.skip)))
  (.seq (.region false [⟨(some 31), .mov (.t 0), none⟩,
    ⟨(some 32), .bin .add (.c (.int .i64 48)) (.t 31), none⟩,
    ⟨(some 33), .conv .u8 (.t 32), none⟩,
    ⟨(some 34), .bsl 1 (.int .u8 0) 1 [(0, (.t 33))], none⟩,
    ⟨(some 35), .b2s (.t 34), none⟩,
    ⟨(some 2), .mov (.t 35), none⟩])
  (.ret)))),
  [.tmp 2]⟩

/- words_Split -/
def A_words_SplitR0a : ACode :=
  .seq (.region false [⟨(some 6), .alloc [.str [], .bool false], none⟩,
    ⟨none, .st 2 (.t 6) (.t 17), none⟩])
  (.region false [⟨(some 7), .mov (.t 18), none⟩])
def A_words_SplitR0b : ACode :=
  .block 2 (.seq (.seq (.region false [⟨(some 19), .mov (.t 7), none⟩,
    ⟨(some 20), .not (.t 19), none⟩])
  (.cond (.t 20)
   (.seq (.region false [⟨none, .st 1 (.t 2) (.c (.sl .ex [])), none⟩,
     ⟨none, .st 1 (.t 3) (.c (.int .i64 6)), none⟩])
   (.ret))
   (.skip)))
  (.seq (.region false [⟨(some 21), .ld none (.t 5), none⟩,
    ⟨(some 22), .mov (.t 21), none⟩,
    ⟨(some 23), .fldA 0 (.t 6), some (22, false)⟩,
    ⟨(some 24), .ld none (.t 23), some (22, false)⟩,
    ⟨(some 25), .lenS (.t 24), some (22, false)⟩,
    ⟨(some 26), .bin .gtr (.t 25) (.c (.int .i64 2000)), some (22, false)⟩,
    ⟨(some 27), .pick (.t 22) (.c (.bool true)) (.t 26), none⟩,
    ⟨none, .st 1 (.t 5) (.t 27), none⟩])
  (.region false [⟨(some 28), .ld none (.t 4), none⟩,
    ⟨(some 29), .ld (some 2) (.t 6), none⟩,
    ⟨(some 30), .bsl 2 (.agg [.str [], .bool false]) 1 [(0, (.t 29))], none⟩,
    ⟨(some 31), .app 2 24 (.t 28) (.t 30), none⟩,
    ⟨none, .st 1 (.t 4) (.t 31), none⟩])))
def A_words_Split : AFun := ⟨39,
  .seq (.region false [⟨(some 2), .alloc [.sl .ex []], none⟩,
    ⟨(some 3), .alloc [.int .i64 0], none⟩])
  (.seq (.block 0 (.seq (.region false [⟨(some 9), .mov (.t 0), none⟩,
    ⟨(some 10), .lenS (.t 9), none⟩,
    ⟨(some 11), .bin .gtr (.t 10) (.c (.int .i64 8192)), none⟩,
    ⟨(some 8), .mov (.t 11), none⟩])
  (.cond (.t 8)
   (.seq (.region false [⟨none, .st 1 (.t 2) (.c (.sl .ex [])), none⟩,
     ⟨none, .st 1 (.t 3) (.c (.int .i64 3)), none⟩])
   (.ret))
   (.seq (.region false [⟨(some 13), .mov (.t 0), none⟩,
     ⟨(some 14), .bin .eql (.t 13) (.c (.str [])), none⟩,
     ⟨(some 12), .mov (.t 14), none⟩])
   (.cond (.t 12)
    (.seq (.region false [⟨none, .st 1 (.t 2) (.c (.sl .ex [])), none⟩,
      ⟨none, .st 1 (.t 3) (.c (.int .i64 0)), none⟩])
    (.ret))
    (.skip))))))
  (.seq (.region false [⟨(some 4), .alloc [.sl .ex []], none⟩])
  (.seq (.region false [⟨(some 5), .alloc [.bool false], none⟩,
    ⟨none, .st 1 (.t 5) (.c (.bool false)), none⟩])
  (.seq (.seq (.region false [⟨(some 15), .mov (.t 0), none⟩,
    ⟨(some 16), .call F_words_fields [(.t 15)], none⟩])
  (.block 1 (.rangeF (.t 16) [17, 18] A_words_SplitR0a A_words_SplitR0b)))
  (.seq (.seq (.region false [⟨(some 32), .ld none (.t 5), none⟩,
    ⟨(some 33), .mov (.t 32), none⟩,
    ⟨(some 34), .ld none (.t 4), some (33, false)⟩,
    ⟨(some 35), .len (.t 34), some (33, false)⟩,
    ⟨(some 36), .bin .gtr (.t 35) (.c (.int .i64 64)), some (33, false)⟩,
    ⟨(some 37), .pick (.t 33) (.c (.bool true)) (.t 36), none⟩])
  (.cond (.t 37)
   (.seq (.region false [⟨none, .st 1 (.t 2) (.c (.sl .ex [])), none⟩,
     ⟨none, .st 1 (.t 3) (.c (.int .i64 3)), none⟩])
   (.ret))
   (.skip)))
  (.seq (.region false [⟨(some 38), .ld none (.t 4), none⟩,
    ⟨none, .st 1 (.t 2) (.t 38), none⟩,
    ⟨none, .st 1 (.t 3) (.c (.int .i64 0)), none⟩])
  (.ret))))))),
  [.cell none 2, .cell none 3]⟩

/- slices_ContainsFunc_api_Field_api_Field -/
def A_slices_ContainsFunc_api_Field_api_Field : AFun := ⟨9,
  .seq (.region false [⟨(some 4), .mov (.c (.bool false)), none⟩])
  (.seq (.region false [⟨(some 5), .mov (.t 0), none⟩,
    ⟨(some 6), .mov (.t 1), none⟩,
    ⟨(some 7), .call F_slices_IndexFunc_api_Field_api_Field [(.t 5), (.t 6)], none⟩,
    ⟨(some 8), .bin .geq (.t 7) (.c (.int .i64 0)), none⟩,
    ⟨(some 4), .mov (.t 8), none⟩])
  (.ret)),
  [.tmp 4]⟩

/- types_Parse_1 -/
def A_types_Parse_1 : AFun := ⟨5,
  .seq (.region false [⟨(some 1), .box (.t 0), none⟩,
    ⟨(some 2), .mov (.c (.bool false)), none⟩])
  (.seq (.region false [⟨(some 3), .fldA 1 (.t 1), none⟩,
    ⟨(some 4), .ld none (.t 3), none⟩,
    ⟨(some 2), .mov (.t 4), none⟩])
  (.ret)),
  [.tmp 2]⟩

/- slices_Index_string_string -/
def A_slices_Index_string_stringL0 : ACode :=
  .seq (.region false [⟨(some 9), .bin .lss (.t 8) (.t 7), none⟩])
  (.seq (.cond (.t 9)
   (.skip)
   (.exit 0))
  (.seq (.block 1 (.seq (.region false [⟨(some 10), .mov (.t 8), none⟩,
    ⟨(some 5), .mov (.t 10), none⟩])
  (.seq (.region false [⟨(some 11), .mov (.t 1), none⟩,
    ⟨(some 12), .mov (.t 0), none⟩,
    ⟨(some 13), .mov (.t 5), none⟩,
    ⟨(some 14), .idxA 1 (.t 12) (.t 13), none⟩,
    ⟨(some 15), .ld none (.t 14), none⟩,
    ⟨(some 16), .bin .eql (.t 11) (.t 15), none⟩])
  (.cond (.t 16)
   (.seq (.region false [⟨(some 17), .mov (.t 5), none⟩,
     ⟨(some 4), .mov (.t 17), none⟩])
   (.ret))
   (.skip)))))
  (.region false [⟨(some 18), .bin .add (.t 8) (.c (.int .i64 1)), none⟩,
    ⟨(some 8), .mov (.t 18), none⟩])))
def A_slices_Index_string_string : AFun := ⟨19,
  .seq (.region false [⟨(some 4), .mov (.c (.int .i64 0)), none⟩])
  (.seq (.seq (.region false [⟨(some 6), .mov (.t 0), none⟩,
    ⟨(some 7), .len (.t 6), none⟩,
    ⟨(some 8), .mov (.c (.int .i64 0)), none⟩])
  (.block 0 (.loop A_slices_Index_string_stringL0)))
  (.seq (.region false [⟨(some 4), .mov (.c (.int .i64 (-1))), none⟩])
  (.ret))),
  [.tmp 4]⟩

/- words_Int -/
def A_words_Int : AFun := ⟨31,
  .seq (.region false [⟨(some 6), .mov (.c (.int .i64 0)), none⟩,
    ⟨(some 7), .mov (.c (.int .i64 0)), none⟩])
  (.seq (.seq (.region false [⟨(some 10), .mov (.t 0), none⟩,
    ⟨(some 11), .call F_words_isDecimal [(.t 10)], none⟩,
    ⟨(some 12), .not (.t 11), none⟩])
  (.cond (.t 12)
   (.seq (.region false [⟨(some 6), .mov (.c (.int .i64 0)), none⟩,
     ⟨(some 7), .mov (.c (.int .i64 6)), none⟩])
   (.ret))
   (.skip)))
  (.seq (.region false [⟨(some 14), .mov (.t 0), none⟩,
    ⟨(some 15), .call F_strconv_ParseInt [(.t 14), (.c (.int .i64 10)), (.c (.int .i64 64))], none⟩,
    ⟨(some 13), .mov (.t 15), none⟩,
    ⟨(some 16), .extr (.t 13) 0, none⟩,
    ⟨(some 17), .extr (.t 13) 1, none⟩,
    ⟨(some 8), .mov (.t 16), none⟩,
    ⟨(some 9), .mov (.t 17), none⟩])
  (.seq (.seq (.region false [⟨(some 18), .mov (.t 9), none⟩,
    ⟨(some 19), .ifn true (.t 18), none⟩,
    ⟨(some 20), .mov (.t 19), none⟩,
    ⟨(some 21), .mov (.t 8), some (20, false)⟩,
    ⟨(some 22), .mov (.t 1), some (20, false)⟩,
    ⟨(some 23), .bin .lss (.t 21) (.t 22), some (20, false)⟩,
    ⟨(some 24), .pick (.t 20) (.c (.bool true)) (.t 23), none⟩,
    ⟨(some 25), .mov (.t 24), none⟩,
    ⟨(some 26), .mov (.t 8), some (25, false)⟩,
    ⟨(some 27), .mov (.t 2), some (25, false)⟩,
    ⟨(some 28), .bin .gtr (.t 26) (.t 27), some (25, false)⟩,
    ⟨(some 29), .pick (.t 25) (.c (.bool true)) (.t 28), none⟩])
  (.cond (.t 29)
   (.seq (.region false [⟨(some 6), .mov (.c (.int .i64 0)), none⟩,
     ⟨(some 7), .mov (.c (.int .i64 7)), none⟩])
   (.ret))
   (.skip)))
  (.seq (.region false [⟨(some 30), .mov (.t 8), none⟩,
    ⟨(some 6), .mov (.t 30), none⟩,
    ⟨(some 7), .mov (.c (.int .i64 0)), none⟩])
  (.ret))))),
  [.tmp 6, .tmp 7]⟩

/- types_Parse_2 -/
def A_types_Parse_2 : AFun := ⟨25,
  .seq (.region false [⟨(some 6), .mov (.c (.int .i64 0)), none⟩])
  (.seq (.region true [⟨(some 10), .ld (some 2) (.t 1), none⟩,
    ⟨(some 11), .ld none (.t 2), none⟩,
    ⟨(some 12), .ld none (.t 3), none⟩,
    ⟨(some 13), .idxA 2 (.t 11) (.t 12), none⟩,
    ⟨(some 14), .fldA 0 (.t 13), none⟩,
    ⟨(some 15), .ld none (.t 14), none⟩,
    ⟨(some 16), .call F_lattice_Find [(.t 10), (.t 15)], none⟩,
    ⟨(some 9), .mov (.t 16), none⟩,
    ⟨(some 17), .extr (.t 9) 0, none⟩,
    ⟨(some 18), .extr (.t 9) 1, none⟩,
    ⟨(some 7), .mov (.t 17), none⟩,
    ⟨(some 8), .mov (.t 18), none⟩])
  (.seq (.region false [⟨(some 19), .ld none (.t 3), none⟩,
    ⟨(some 20), .bin .add (.t 19) (.c (.int .i64 1)), none⟩,
    ⟨none, .st 1 (.t 3) (.t 20), none⟩])
  (.seq (.seq (.region false [⟨(some 21), .ld none (.t 4), none⟩,
    ⟨(some 22), .bin .eql (.t 21) (.c (.int .i64 0)), none⟩])
  (.cond (.t 22)
   (.region false [⟨(some 23), .mov (.t 8), none⟩,
     ⟨none, .st 1 (.t 4) (.t 23), none⟩])
   (.skip)))
  (.seq (.region false [⟨(some 24), .mov (.t 7), none⟩,
    ⟨(some 6), .mov (.t 24), none⟩])
  (.ret))))),
  [.tmp 6]⟩

/- lattice_Find -/
def A_lattice_Find : AFun := ⟨19,
  .seq (.region false [⟨(some 2), .box (.t 0), none⟩,
    ⟨(some 4), .mov (.c (.int .i64 0)), none⟩,
    ⟨(some 5), .mov (.c (.int .i64 0)), none⟩])
  (.seq (.seq (.region false [⟨(some 8), .call F_lattice_asked [(.t 2), (.c (.sl .ex []))], none⟩,
    ⟨(some 6), .mov (.t 8), none⟩])
  (.seq (.region false [⟨(some 9), .mov (.t 6), none⟩,
    ⟨(some 10), .bin .neq (.t 9) (.c (.int .i64 0)), none⟩])
  (.cond (.t 10)
   (.seq (.region false [⟨(some 11), .mov (.t 6), none⟩,
     ⟨(some 4), .mov (.c (.int .i64 0)), none⟩,
     ⟨(some 5), .mov (.t 11), none⟩])
   (.ret))
   (.skip))))
  (.seq (.seq (.region false [⟨(some 12), .fldA 0 (.t 2), none⟩,
    ⟨(some 13), .ld none (.t 12), none⟩,
    ⟨(some 14), .mov (.t 1), none⟩,
    ⟨(some 15), .call F_slices_Index_string_string [(.t 13), (.t 14)], none⟩,
    ⟨(some 7), .mov (.t 15), none⟩])
  (.seq (.region false [⟨(some 16), .mov (.t 7), none⟩,
    ⟨(some 17), .bin .geq (.t 16) (.c (.int .i64 0)), none⟩])
  (.cond (.t 17)
   (.seq (.region false [⟨(some 18), .mov (.t 7), none⟩,
     ⟨(some 4), .mov (.t 18), none⟩,
     ⟨(some 5), .mov (.c (.int .i64 0)), none⟩])
   (.ret))
   (.skip))))
  (.seq (.region false [⟨(some 4), .mov (.c (.int .i64 0)), none⟩,
    ⟨(some 5), .mov (.c (.int .i64 4)), none⟩])
  (.ret)))),
  [.tmp 4, .tmp 5]⟩

/- ref01_Split -/
def A_ref01_SplitL1 : ACode :=
  .seq (.seq (.region false [⟨(some 26), .mov (.t 6), none⟩,
    ⟨(some 27), .mov (.t 8), none⟩,
    ⟨(some 28), .bin .add (.t 26) (.t 27), none⟩,
    ⟨(some 29), .mov (.t 0), none⟩,
    ⟨(some 30), .lenS (.t 29), none⟩,
    ⟨(some 31), .bin .lss (.t 28) (.t 30), none⟩,
    ⟨(some 32), .mov (.t 31), none⟩,
    ⟨(some 33), .mov (.t 0), some (32, true)⟩,
    ⟨(some 34), .mov (.t 6), some (32, true)⟩,
    ⟨(some 35), .mov (.t 8), some (32, true)⟩,
    ⟨(some 36), .bin .add (.t 34) (.t 35), some (32, true)⟩,
    ⟨(some 37), .idxS (.t 33) (.t 36), some (32, true)⟩,
    ⟨(some 38), .bin .neq (.t 37) (.c (.int .u8 32)), some (32, true)⟩,
    ⟨(some 39), .pick (.t 32) (.t 38) (.c (.bool false)), none⟩])
  (.cond (.t 39)
   (.skip)
   (.exit 2)))
  (.block 3 (.region false [⟨(some 40), .mov (.t 8), none⟩,
    ⟨(some 41), .bin .add (.t 40) (.c (.int .i64 1)), none⟩,
    ⟨(some 8), .mov (.t 41), none⟩]))
def A_ref01_SplitL0 : ACode :=
  .block 1 (.seq (.region false [⟨(some 16), .mov (.t 0), none⟩,
    ⟨(some 17), .mov (.t 6), none⟩,
    ⟨(some 18), .ssl (.t 16) (some (.t 17)) none, none⟩,
    ⟨(some 19), .call F_ref01_quoted [(.t 18)], none⟩,
    ⟨(some 15), .mov (.t 19), none⟩,
    ⟨(some 20), .extr (.t 15) 0, none⟩,
    ⟨(some 21), .extr (.t 15) 1, none⟩,
    ⟨(some 7), .mov (.t 20), none⟩,
    ⟨(some 8), .mov (.t 21), none⟩])
  (.seq (.region false [⟨(some 22), .mov (.t 7), none⟩,
    ⟨(some 23), .build [.str [], .bool false] [(0, 1, (.t 22)), (1, 1, (.c (.bool true)))], none⟩,
    ⟨(some 9), .alloc [.str [], .bool false], none⟩,
    ⟨none, .st 2 (.t 9) (.t 23), none⟩])
  (.seq (.seq (.region false [⟨(some 24), .mov (.t 8), none⟩,
    ⟨(some 25), .bin .eql (.t 24) (.c (.int .i64 0)), none⟩])
  (.cond (.t 25)
   (.seq (.block 2 (.loop A_ref01_SplitL1))
   (.seq (.region false [⟨(some 42), .mov (.t 0), none⟩,
     ⟨(some 43), .mov (.t 6), none⟩,
     ⟨(some 44), .mov (.t 6), none⟩,
     ⟨(some 45), .mov (.t 8), none⟩,
     ⟨(some 46), .bin .add (.t 44) (.t 45), none⟩,
     ⟨(some 47), .ssl (.t 42) (some (.t 43)) (some (.t 46)), none⟩,
     ⟨(some 48), .build [.str [], .bool false] [(0, 1, (.t 47))], none⟩,
     ⟨none, .st 2 (.t 9) (.t 48), none⟩])
   (.seq (.region false [⟨(some 49), .fldA 0 (.t 9), none⟩,
     ⟨(some 50), .ld none (.t 49), none⟩,
     ⟨(some 51), .call F_ref01_bare [(.t 50)], none⟩,
     ⟨(some 52), .not (.t 51), none⟩])
   (.cond (.t 52)
    (.seq (.region false [⟨(some 2), .mov (.c (.sl .ex [])), none⟩,
      ⟨(some 3), .mov (.c (.int .i64 6)), none⟩])
    (.ret))
    (.skip)))))
   (.skip)))
  (.seq (.region false [⟨(some 53), .mov (.t 4), none⟩,
    ⟨(some 54), .ld (some 2) (.t 9), none⟩,
    ⟨(some 55), .bsl 2 (.agg [.str [], .bool false]) 1 [(0, (.t 54))], none⟩,
    ⟨(some 56), .app 2 24 (.t 53) (.t 55), none⟩,
    ⟨(some 4), .mov (.t 56), none⟩])
  (.seq (.region false [⟨(some 57), .mov (.t 5), none⟩,
    ⟨(some 58), .mov (.t 57), none⟩,
    ⟨(some 59), .fldA 0 (.t 9), some (58, false)⟩,
    ⟨(some 60), .ld none (.t 59), some (58, false)⟩,
    ⟨(some 61), .lenS (.t 60), some (58, false)⟩,
    ⟨(some 62), .bin .gtr (.t 61) (.c (.int .i64 2000)), some (58, false)⟩,
    ⟨(some 63), .pick (.t 58) (.c (.bool true)) (.t 62), none⟩,
    ⟨(some 5), .mov (.t 63), none⟩])
  (.seq (.region false [⟨(some 64), .mov (.t 6), none⟩,
    ⟨(some 65), .mov (.t 8), none⟩,
    ⟨(some 66), .bin .add (.t 64) (.t 65), none⟩,
    ⟨(some 6), .mov (.t 66), none⟩])
  (.seq (.seq (.region false [⟨(some 67), .mov (.t 6), none⟩,
    ⟨(some 68), .mov (.t 0), none⟩,
    ⟨(some 69), .lenS (.t 68), none⟩,
    ⟨(some 70), .bin .eql (.t 67) (.t 69), none⟩])
  (.cond (.t 70)
   (.exit 0)
   (.skip)))
  (.seq (.seq (.region false [⟨(some 71), .mov (.t 0), none⟩,
    ⟨(some 72), .mov (.t 6), none⟩,
    ⟨(some 73), .idxS (.t 71) (.t 72), none⟩,
    ⟨(some 74), .bin .neq (.t 73) (.c (.int .u8 32)), none⟩])
  (.cond (.t 74)
   (.seq (.region false [⟨(some 2), .mov (.c (.sl .ex [])), none⟩,
     ⟨(some 3), .mov (.c (.int .i64 6)), none⟩])
   (.ret))
   (.skip)))
  (.region false [⟨(some 75), .mov (.t 6), none⟩,
    ⟨(some 76), .bin .add (.t 75) (.c (.int .i64 1)), none⟩,
    ⟨(some 6), .mov (.t 76), none⟩])))))))))
def A_ref01_Split : AFun := ⟨84,
  .seq (.region false [⟨(some 2), .mov (.c (.sl .ex [])), none⟩,
    ⟨(some 3), .mov (.c (.int .i64 0)), none⟩])
  (.seq (.seq (.region false [⟨(some 10), .mov (.t 0), none⟩,
    ⟨(some 11), .lenS (.t 10), none⟩,
    ⟨(some 12), .bin .gtr (.t 11) (.c (.int .i64 8192)), none⟩])
  (.cond (.t 12)
   (.seq (.region false [⟨(some 2), .mov (.c (.sl .ex [])), none⟩,
     ⟨(some 3), .mov (.c (.int .i64 3)), none⟩])
   (.ret))
   (.skip)))
  (.seq (.seq (.region false [⟨(some 13), .mov (.t 0), none⟩,
    ⟨(some 14), .bin .eql (.t 13) (.c (.str [])), none⟩])
  (.cond (.t 14)
   (.seq (.region false [⟨(some 2), .mov (.c (.sl .ex [])), none⟩,
     ⟨(some 3), .mov (.c (.int .i64 0)), none⟩])
   (.ret))
   (.skip)))
  (.seq (.region false [⟨(some 4), .mov (.c (.sl .ex [])), none⟩])
  (.seq (.region false [⟨(some 5), .mov (.c (.bool false)), none⟩])
  (.seq (.region false [⟨(some 6), .mov (.c (.int .i64 0)), none⟩])
  (.seq (.block 0 (.loop A_ref01_SplitL0))
  (.seq (.seq (.region false [⟨(some 77), .mov (.t 5), none⟩,
    ⟨(some 78), .mov (.t 77), none⟩,
    ⟨(some 79), .mov (.t 4), some (78, false)⟩,
    ⟨(some 80), .len (.t 79), some (78, false)⟩,
    ⟨(some 81), .bin .gtr (.t 80) (.c (.int .i64 64)), some (78, false)⟩,
    ⟨(some 82), .pick (.t 78) (.c (.bool true)) (.t 81), none⟩])
  (.cond (.t 82)
   (.seq (.region false [⟨(some 2), .mov (.c (.sl .ex [])), none⟩,
     ⟨(some 3), .mov (.c (.int .i64 3)), none⟩])
   (.ret))
   (.skip)))
  (.seq (.region false [⟨(some 83), .mov (.t 4), none⟩,
    ⟨(some 2), .mov (.t 83), none⟩,
    ⟨(some 3), .mov (.c (.int .i64 0)), none⟩])
  (.ret))))))))),
  [.tmp 2, .tmp 3]⟩

/- ref01_Int -/
def A_ref01_IntL0 : ACode :=
  .seq (.seq (.region false [⟨(some 18), .mov (.t 10), none⟩,
    ⟨(some 19), .mov (.t 0), none⟩,
    ⟨(some 20), .lenS (.t 19), none⟩,
    ⟨(some 21), .bin .lss (.t 18) (.t 20), none⟩])
  (.cond (.t 21)
   (.skip)
   (.exit 0)))
  (.seq (.block 1 (.seq (.seq (.region false [⟨(some 24), .mov (.t 0), none⟩,
    ⟨(some 25), .mov (.t 10), none⟩,
    ⟨(some 26), .idxS (.t 24) (.t 25), none⟩,
    ⟨(some 27), .bin .eql (.t 26) (.c (.int .u8 45)), none⟩])
  (.cond (.t 27)
   (.exit 1)
   (.skip)))
  (.seq (.region false [⟨(some 28), .mov (.t 0), none⟩,
    ⟨(some 29), .mov (.t 10), none⟩,
    ⟨(some 30), .idxS (.t 28) (.t 29), none⟩,
    ⟨(some 31), .bin .sub (.t 30) (.c (.int .u8 48)), none⟩,
    ⟨(some 32), .conv .i64 (.t 31), none⟩,
    ⟨(some 11), .mov (.t 32), none⟩])
  (.seq (.seq (.region false [⟨(some 33), .mov (.t 9), none⟩,
    ⟨(some 34), .mov (.t 11), none⟩,
    ⟨(some 35), .bin .add (.c (.int .i64 (-9223372036854775808))) (.t 34), none⟩,
    ⟨(some 36), .bin .quo (.t 35) (.c (.int .i64 10)), none⟩,
    ⟨(some 37), .bin .lss (.t 33) (.t 36), none⟩])
  (.cond (.t 37)
   (.seq (.region false [⟨(some 6), .mov (.c (.int .i64 0)), none⟩,
     ⟨(some 7), .mov (.c (.int .i64 7)), none⟩])
   (.ret))
   (.skip)))
  (.region false [⟨(some 38), .mov (.t 9), none⟩,
    ⟨(some 39), .bin .mul (.c (.int .i64 10)) (.t 38), none⟩,
    ⟨(some 40), .mov (.t 11), none⟩,
    ⟨(some 41), .bin .sub (.t 39) (.t 40), none⟩,
    ⟨(some 9), .mov (.t 41), none⟩])))))
  (.region false [⟨(some 22), .mov (.t 10), none⟩,
    ⟨(some 23), .bin .add (.t 22) (.c (.int .i64 1)), none⟩,
    ⟨(some 10), .mov (.t 23), none⟩]))
def A_ref01_Int : AFun := ⟨61,
  .seq (.region false [⟨(some 6), .mov (.c (.int .i64 0)), none⟩,
    ⟨(some 7), .mov (.c (.int .i64 0)), none⟩])
  (.seq (.seq (.region false [⟨(some 12), .mov (.t 0), none⟩,
    ⟨(some 13), .call F_ref01_decimal [(.t 12)], none⟩,
    ⟨(some 14), .not (.t 13), none⟩])
  (.cond (.t 14)
   (.seq (.region false [⟨(some 6), .mov (.c (.int .i64 0)), none⟩,
     ⟨(some 7), .mov (.c (.int .i64 6)), none⟩])
   (.ret))
   (.skip)))
  (.seq (.region false [⟨(some 15), .mov (.t 0), none⟩,
    ⟨(some 16), .idxS (.t 15) (.c (.int .i64 0)), none⟩,
    ⟨(some 17), .bin .eql (.t 16) (.c (.int .u8 45)), none⟩,
    ⟨(some 8), .mov (.t 17), none⟩])
  (.seq (.region false [⟨(some 9), .mov (.c (.int .i64 0)), none⟩])
  (.seq (.seq (.region false [⟨(some 10), .mov (.c (.int .i64 0)), none⟩])
  (.block 0 (.loop A_ref01_IntL0)))
  (.seq (.seq (.region false [⟨(some 42), .mov (.t 8), none⟩,
    ⟨(some 43), .not (.t 42), none⟩,
    ⟨(some 44), .mov (.t 43), none⟩,
    ⟨(some 45), .mov (.t 9), some (44, true)⟩,
    ⟨(some 46), .bin .eql (.t 45) (.c (.int .i64 (-9223372036854775808))), some (44, true)⟩,
    ⟨(some 47), .pick (.t 44) (.t 46) (.c (.bool false)), none⟩])
  (.cond (.t 47)
   (.seq (.region false [⟨(some 6), .mov (.c (.int .i64 0)), none⟩,
     ⟨(some 7), .mov (.c (.int .i64 7)), none⟩])
   (.ret))
   (.skip)))
  (.seq (.seq (.region false [⟨(some 48), .mov (.t 8), none⟩,
    ⟨(some 49), .not (.t 48), none⟩])
  (.cond (.t 49)
   (.region false [⟨(some 50), .mov (.t 9), none⟩,
     ⟨(some 51), .neg (.t 50), none⟩,
     ⟨(some 9), .mov (.t 51), none⟩])
   (.skip)))
  (.seq (.seq (.region false [⟨(some 52), .mov (.t 9), none⟩,
    ⟨(some 53), .mov (.t 1), none⟩,
    ⟨(some 54), .bin .lss (.t 52) (.t 53), none⟩,
    ⟨(some 55), .mov (.t 54), none⟩,
    ⟨(some 56), .mov (.t 9), some (55, false)⟩,
    ⟨(some 57), .mov (.t 2), some (55, false)⟩,
    ⟨(some 58), .bin .gtr (.t 56) (.t 57), some (55, false)⟩,
    ⟨(some 59), .pick (.t 55) (.c (.bool true)) (.t 58), none⟩])
  (.cond (.t 59)
   (.seq (.region false [⟨(some 6), .mov (.c (.int .i64 0)), none⟩,
     ⟨(some 7), .mov (.c (.int .i64 7)), none⟩])
   (.ret))
   (.skip)))
  (.seq (.region false [⟨(some 60), .mov (.t 9), none⟩,
    ⟨(some 6), .mov (.t 60), none⟩,
    ⟨(some 7), .mov (.c (.int .i64 0)), none⟩])
  (.ret))))))))),
  [.tmp 6, .tmp 7]⟩

/- ref03_Find -/
def A_ref03_FindL0 : ACode :=
  .seq (.seq (.region false [⟨(some 17), .mov (.t 8), none⟩,
    ⟨(some 18), .fldA 0 (.t 2), none⟩,
    ⟨(some 19), .ld none (.t 18), none⟩,
    ⟨(some 20), .len (.t 19), none⟩,
    ⟨(some 21), .bin .lss (.t 17) (.t 20), none⟩])
  (.cond (.t 21)
   (.skip)
   (.exit 0)))
  (.seq (.block 1 (.seq (.region false [⟨(some 24), .fldA 0 (.t 2), none⟩,
    ⟨(some 25), .ld none (.t 24), none⟩,
    ⟨(some 26), .mov (.t 8), none⟩,
    ⟨(some 27), .idxA 1 (.t 25) (.t 26), none⟩,
    ⟨(some 28), .ld none (.t 27), none⟩,
    ⟨(some 29), .mov (.t 1), none⟩,
    ⟨(some 30), .bin .eql (.t 28) (.t 29), none⟩])
  (.cond (.t 30)
   (.seq (.region false [⟨(some 31), .mov (.t 8), none⟩,
     ⟨(some 4), .mov (.t 31), none⟩,
     ⟨(some 5), .mov (.c (.int .i64 0)), none⟩])
   (.ret))
   (.skip))))
  (.region false [⟨(some 22), .mov (.t 8), none⟩,
    ⟨(some 23), .bin .add (.t 22) (.c (.int .i64 1)), none⟩,
    ⟨(some 8), .mov (.t 23), none⟩]))
def A_ref03_Find : AFun := ⟨32,
  .seq (.region false [⟨(some 2), .box (.t 0), none⟩,
    ⟨(some 4), .mov (.c (.int .i64 0)), none⟩,
    ⟨(some 5), .mov (.c (.int .i64 0)), none⟩])
  (.seq (.region false [⟨(some 10), .ld (some 2) (.t 2), none⟩,
    ⟨(some 11), .call F_ref03_Check [(.t 10)], none⟩,
    ⟨(some 9), .mov (.t 11), none⟩,
    ⟨(some 12), .extr (.t 9) 0, none⟩,
    ⟨(some 13), .extr (.t 9) 1, none⟩,
    ⟨(some 6), .mov (.t 12), none⟩,
    ⟨(some 7), .mov (.t 13), none⟩])
  (.seq (.seq (.region false [⟨(some 14), .mov (.t 7), none⟩,
    ⟨(some 15), .bin .neq (.t 14) (.c (.int .i64 0)), none⟩])
  (.cond (.t 15)
   (.seq (.region false [⟨(some 16), .mov (.t 7), none⟩,
     ⟨(some 4), .mov (.c (.int .i64 0)), none⟩,
     ⟨(some 5), .mov (.t 16), none⟩])
   (.ret))
   (.skip)))
  (.seq (.seq (.region false [⟨(some 8), .mov (.c (.int .i64 0)), none⟩])
  (.block 0 (.loop A_ref03_FindL0)))
  (.seq (.region false [⟨(some 4), .mov (.c (.int .i64 0)), none⟩,
    ⟨(some 5), .mov (.c (.int .i64 4)), none⟩])
  (.ret))))),
  [.tmp 4, .tmp 5]⟩

/- ref20_Good -/
def A_ref20_GoodL0 : ACode :=
  .seq (.seq (.region false [⟨(some 48), .mov (.t 5), none⟩,
    ⟨(some 49), .bin .lss (.t 48) (.c (.int .i64 2)), none⟩])
  (.cond (.t 49)
   (.skip)
   (.exit 0)))
  (.seq (.block 1 (.seq (.region true [⟨(some 52), .mov (.t 5), none⟩,
    ⟨(some 53), .fldA 2 (.t 3), none⟩,
    ⟨(some 54), .idxP 2 1 (.t 53) (.t 52), none⟩,
    ⟨(some 55), .ld none (.t 54), none⟩,
    ⟨(some 56), .ld (some 2) (.t 2), none⟩,
    ⟨(some 57), .call F_ref20_Low [(.t 56)], none⟩,
    ⟨(some 58), .bin .neq (.t 55) (.t 57), none⟩])
  (.cond (.t 58)
   (.seq (.region false [⟨(some 4), .mov (.c (.int .i64 6)), none⟩])
   (.ret))
   (.skip))))
  (.region false [⟨(some 50), .mov (.t 5), none⟩,
    ⟨(some 51), .bin .add (.t 50) (.c (.int .i64 1)), none⟩,
    ⟨(some 5), .mov (.t 51), none⟩]))
def A_ref20_GoodL1 : ACode :=
  .seq (.seq (.region false [⟨(some 59), .mov (.t 6), none⟩,
    ⟨(some 60), .fldA 1 (.t 3), none⟩,
    ⟨(some 61), .ld none (.t 60), none⟩,
    ⟨(some 62), .bin .lss (.t 59) (.t 61), none⟩])
  (.cond (.t 62)
   (.skip)
   (.exit 2)))
  (.seq (.block 3 (.seq (.region true [⟨(some 65), .ld (some 2) (.t 2), none⟩,
    ⟨(some 66), .mov (.t 6), none⟩,
    ⟨(some 67), .fldA 2 (.t 3), none⟩,
    ⟨(some 68), .idxP 2 1 (.t 67) (.t 66), none⟩,
    ⟨(some 69), .ld none (.t 68), none⟩,
    ⟨(some 70), .fldA 4 (.t 3), none⟩,
    ⟨(some 71), .ld none (.t 70), none⟩,
    ⟨(some 72), .call F_ref20_Leq [(.t 65), (.t 69), (.t 71)], none⟩,
    ⟨(some 73), .not (.t 72), none⟩])
  (.cond (.t 73)
   (.seq (.region false [⟨(some 4), .mov (.c (.int .i64 25)), none⟩])
   (.ret))
   (.skip))))
  (.region false [⟨(some 63), .mov (.t 6), none⟩,
    ⟨(some 64), .bin .add (.t 63) (.c (.int .i64 1)), none⟩,
    ⟨(some 6), .mov (.t 64), none⟩]))
def A_ref20_Good : AFun := ⟨74,
  .seq (.region false [⟨(some 2), .box (.t 0), none⟩,
    ⟨(some 3), .box (.t 1), none⟩,
    ⟨(some 4), .mov (.c (.int .i64 0)), none⟩])
  (.seq (.seq (.region false [⟨(some 7), .fldA 0 (.t 3), none⟩,
    ⟨(some 8), .ld none (.t 7), none⟩,
    ⟨(some 9), .bin .neq (.t 8) (.c (.int .i64 1)), none⟩,
    ⟨(some 10), .mov (.t 9), none⟩,
    ⟨(some 11), .fldA 0 (.t 3), some (10, true)⟩,
    ⟨(some 12), .ld none (.t 11), some (10, true)⟩,
    ⟨(some 13), .bin .neq (.t 12) (.c (.int .i64 2)), some (10, true)⟩,
    ⟨(some 14), .pick (.t 10) (.t 13) (.c (.bool false)), none⟩,
    ⟨(some 15), .mov (.t 14), none⟩,
    ⟨(some 16), .fldA 1 (.t 3), some (15, false)⟩,
    ⟨(some 17), .ld none (.t 16), some (15, false)⟩,
    ⟨(some 18), .bin .lss (.t 17) (.c (.int .i64 0)), some (15, false)⟩,
    ⟨(some 19), .pick (.t 15) (.c (.bool true)) (.t 18), none⟩,
    ⟨(some 20), .mov (.t 19), none⟩,
    ⟨(some 21), .fldA 1 (.t 3), some (20, false)⟩,
    ⟨(some 22), .ld none (.t 21), some (20, false)⟩,
    ⟨(some 23), .bin .gtr (.t 22) (.c (.int .i64 2)), some (20, false)⟩,
    ⟨(some 24), .pick (.t 20) (.c (.bool true)) (.t 23), none⟩])
  (.cond (.t 24)
   (.seq (.region false [⟨(some 4), .mov (.c (.int .i64 7)), none⟩])
   (.ret))
   (.skip)))
  (.seq (.seq (.region false [⟨(some 25), .ld (some 2) (.t 2), none⟩,
    ⟨(some 26), .fldA 2 (.t 3), none⟩,
    ⟨(some 27), .idxP 2 1 (.t 26) (.c (.int .i64 0)), none⟩,
    ⟨(some 28), .ld none (.t 27), none⟩,
    ⟨(some 29), .call F_ref20_Label [(.t 25), (.t 28)], none⟩,
    ⟨(some 30), .not (.t 29), none⟩,
    ⟨(some 31), .mov (.t 30), none⟩,
    ⟨(some 32), .ld (some 2) (.t 2), some (31, false)⟩,
    ⟨(some 33), .fldA 2 (.t 3), some (31, false)⟩,
    ⟨(some 34), .idxP 2 1 (.t 33) (.c (.int .i64 1)), some (31, false)⟩,
    ⟨(some 35), .ld none (.t 34), some (31, false)⟩,
    ⟨(some 36), .call F_ref20_Label [(.t 32), (.t 35)], some (31, false)⟩,
    ⟨(some 37), .not (.t 36), some (31, false)⟩,
    ⟨(some 38), .pick (.t 31) (.c (.bool true)) (.t 37), none⟩,
    ⟨(some 39), .mov (.t 38), none⟩,
    ⟨(some 40), .ld (some 2) (.t 2), some (39, false)⟩,
    ⟨(some 41), .fldA 4 (.t 3), some (39, false)⟩,
    ⟨(some 42), .ld none (.t 41), some (39, false)⟩,
    ⟨(some 43), .call F_ref20_Label [(.t 40), (.t 42)], some (39, false)⟩,
    ⟨(some 44), .not (.t 43), some (39, false)⟩,
    ⟨(some 45), .pick (.t 39) (.c (.bool true)) (.t 44), none⟩])
  (.cond (.t 45)
   (.seq (.region false [⟨(some 4), .mov (.c (.int .i64 7)), none⟩])
   (.ret))
   (.skip)))
  (.seq (.seq (.region false [⟨(some 46), .fldA 1 (.t 3), none⟩,
    ⟨(some 47), .ld none (.t 46), none⟩,
    ⟨(some 5), .mov (.t 47), none⟩])
  (.block 0 (.loop A_ref20_GoodL0)))
  (.seq (.seq (.region false [⟨(some 6), .mov (.c (.int .i64 0)), none⟩])
  (.block 2 (.loop A_ref20_GoodL1)))
  (.seq (.region false [⟨(some 4), .mov (.c (.int .i64 0)), none⟩])
  (.ret)))))),
  [.tmp 4]⟩

/- types_Join -/
def A_types_Join : AFun := ⟨47,
  .seq (.region false [⟨(some 3), .box (.t 0), none⟩,
    ⟨(some 4), .box (.t 1), none⟩,
    ⟨(some 5), .box (.t 2), none⟩,
    ⟨(some 6), .alloc [.int .i64 0, .int .i64 0, .int .i64 0, .int .i64 0, .int .i64 0], none⟩,
    ⟨(some 7), .mov (.c (.int .i64 0)), none⟩])
  (.seq (.region false [⟨(some 11), .ld (some 2) (.t 3), none⟩,
    ⟨(some 12), .ld (some 5) (.t 4), none⟩,
    ⟨(some 13), .ld (some 5) (.t 5), none⟩,
    ⟨(some 14), .call F_types_both [(.t 11), (.t 12), (.t 13)], none⟩,
    ⟨(some 10), .mov (.t 14), none⟩,
    ⟨(some 15), .extr (.t 10) 0, none⟩,
    ⟨(some 16), .extr (.t 10) 1, none⟩,
    ⟨(some 8), .alloc [.sl .ex [], .sl .ex [], .int .i64 0], none⟩,
    ⟨none, .st 3 (.t 8) (.t 15), none⟩,
    ⟨(some 9), .mov (.t 16), none⟩])
  (.seq (.seq (.region false [⟨(some 17), .mov (.t 9), none⟩,
    ⟨(some 18), .bin .neq (.t 17) (.c (.int .i64 0)), none⟩])
  (.cond (.t 18)
   (.seq (.region false [⟨(some 19), .build [.int .i64 0, .int .i64 0, .int .i64 0, .int .i64 0, .int .i64 0] [], none⟩,
     ⟨(some 20), .mov (.t 9), none⟩,
     ⟨none, .st 5 (.t 6) (.t 19), none⟩,
     ⟨(some 7), .mov (.t 20), none⟩])
   (.ret))
   (.skip)))
  (.seq (.region true [⟨(some 21), .ld (some 3) (.t 8), none⟩,
    ⟨(some 22), .fldA 2 (.t 4), none⟩,
    ⟨(some 23), .idxP 2 1 (.t 22) (.c (.int .i64 0)), none⟩,
    ⟨(some 24), .ld none (.t 23), none⟩,
    ⟨(some 25), .fldA 2 (.t 5), none⟩,
    ⟨(some 26), .idxP 2 1 (.t 25) (.c (.int .i64 0)), none⟩,
    ⟨(some 27), .ld none (.t 26), none⟩,
    ⟨(some 28), .call F_types_order_join [(.t 21), (.t 24), (.t 27)], none⟩,
    ⟨(some 29), .ld (some 3) (.t 8), none⟩,
    ⟨(some 30), .fldA 2 (.t 4), none⟩,
    ⟨(some 31), .idxP 2 1 (.t 30) (.c (.int .i64 1)), none⟩,
    ⟨(some 32), .ld none (.t 31), none⟩,
    ⟨(some 33), .fldA 2 (.t 5), none⟩,
    ⟨(some 34), .idxP 2 1 (.t 33) (.c (.int .i64 1)), none⟩,
    ⟨(some 35), .ld none (.t 34), none⟩,
    ⟨(some 36), .call F_types_order_join [(.t 29), (.t 32), (.t 35)], none⟩,
    ⟨(some 37), .build [.int .i64 0, .int .i64 0] [(0, 1, (.t 28)), (1, 1, (.t 36))], none⟩,
    ⟨(some 38), .fldA 2 (.t 4), none⟩,
    ⟨none, .st 2 (.t 38) (.t 37), none⟩])
  (.seq (.region false [⟨(some 39), .ld (some 3) (.t 8), none⟩,
    ⟨(some 40), .fldA 4 (.t 4), none⟩,
    ⟨(some 41), .ld none (.t 40), none⟩,
    ⟨(some 42), .fldA 4 (.t 5), none⟩,
    ⟨(some 43), .ld none (.t 42), none⟩,
    ⟨(some 44), .call F_types_order_join [(.t 39), (.t 41), (.t 43)], none⟩,
    ⟨(some 45), .fldA 4 (.t 4), none⟩,
    ⟨none, .st 1 (.t 45) (.t 44), none⟩])
  (.seq (.region false [⟨(some 46), .ld (some 5) (.t 4), none⟩,
    ⟨none, .st 5 (.t 6) (.t 46), none⟩,
    ⟨(some 7), .mov (.c (.int .i64 0)), none⟩])
  (.ret)))))),
  [.cell (some 5) 6, .tmp 7]⟩

/- types_with_up -/
def A_types_with_up : AFun := ⟨11,
  .seq (.region false [⟨(some 2), .box (.t 0), none⟩,
    ⟨(some 4), .mov (.c (.int .i64 0)), none⟩])
  (.seq (.region false [⟨(some 5), .fldA 0 (.t 2), none⟩,
    ⟨(some 6), .ld (some 3) (.t 5), none⟩,
    ⟨(some 7), .mov (.t 1), none⟩,
    ⟨(some 8), .fldA 3 (.t 2), none⟩,
    ⟨(some 9), .ld none (.t 8), none⟩,
    ⟨(some 10), .call F_types_order_join [(.t 6), (.t 7), (.t 9)], none⟩,
    ⟨(some 4), .mov (.t 10), none⟩])
  (.ret)),
  [.tmp 4]⟩

/- lattice_Check -/
def A_lattice_CheckL1 : ACode :=
  .seq (.region false [⟨(some 60), .bin .lss (.t 59) (.t 58), none⟩])
  (.seq (.cond (.t 60)
   (.skip)
   (.exit 2))
  (.seq (.block 3 (.seq (.region false [⟨(some 61), .mov (.t 59), none⟩,
    ⟨(some 62), .idxA 1 (.t 57) (.t 59), none⟩,
    ⟨(some 63), .ld none (.t 62), none⟩,
    ⟨(some 10), .mov (.t 61), none⟩,
    ⟨(some 11), .mov (.t 63), none⟩])
  (.seq (.block 4 (.seq (.region false [⟨(some 65), .mov (.t 9), none⟩,
    ⟨(some 66), .mov (.t 10), none⟩,
    ⟨(some 67), .bin .shr (.t 65) (.t 66), none⟩,
    ⟨(some 68), .bin .and (.t 67) (.c (.int .u8 1)), none⟩,
    ⟨(some 69), .bin .eql (.t 68) (.c (.int .u8 0)), none⟩,
    ⟨(some 64), .mov (.t 69), none⟩])
  (.cond (.t 64)
   (.skip)
   (.seq (.seq (.region false [⟨(some 71), .mov (.t 10), none⟩,
     ⟨(some 72), .mov (.t 8), none⟩,
     ⟨(some 73), .bin .neq (.t 71) (.t 72), none⟩,
     ⟨(some 74), .mov (.t 73), none⟩,
     ⟨(some 75), .mov (.t 11), some (74, true)⟩,
     ⟨(some 76), .mov (.t 8), some (74, true)⟩,
     ⟨(some 77), .bin .shr (.t 75) (.t 76), some (74, true)⟩,
     ⟨(some 78), .bin .and (.t 77) (.c (.int .u8 1)), some (74, true)⟩,
     ⟨(some 79), .bin .eql (.t 78) (.c (.int .u8 1)), some (74, true)⟩,
     ⟨(some 80), .pick (.t 74) (.t 79) (.c (.bool false)), none⟩,
     ⟨(some 70), .mov (.t 80), none⟩])
   (.cond (.t 70)
    (.skip)
    (.region false [⟨(some 81), .mov (.t 11), none⟩,
      ⟨(some 82), .mov (.t 7), none⟩,
      ⟨(some 83), .bin .and (.t 81) (.t 82), none⟩,
      ⟨(some 84), .mov (.t 9), none⟩,
      ⟨(some 85), .bin .andNot (.t 83) (.t 84), none⟩,
      ⟨(some 86), .bin .neq (.t 85) (.c (.int .u8 0)), none⟩,
      ⟨(some 70), .mov (.t 86), none⟩])))
   (.cond (.t 70)
    (.seq (.region false [⟨(some 87), .mov (.t 8), none⟩,
      ⟨(some 2), .mov (.t 87), none⟩,
      ⟨(some 3), .mov (.c (.int .i64 6)), none⟩])
    (.ret))
    (.skip))))))
  (.seq (.region false [⟨(some 88), .mov (.t 10), none⟩,
    ⟨(some 89), .mov (.t 6), none⟩,
    ⟨(some 90), .bin .sub (.t 89) (.c (.int .i64 1)), none⟩,
    ⟨(some 91), .bin .eql (.t 88) (.t 90), none⟩])
  (.cond (.t 91)
   (.exit 1)
   (.skip))))))
  (.region false [⟨(some 92), .bin .add (.t 59) (.c (.int .i64 1)), none⟩,
    ⟨(some 59), .mov (.t 92), none⟩])))
def A_lattice_CheckL0 : ACode :=
  .seq (.region false [⟨(some 40), .bin .lss (.t 39) (.t 38), none⟩])
  (.seq (.cond (.t 40)
   (.skip)
   (.exit 0))
  (.seq (.block 1 (.seq (.region false [⟨(some 41), .mov (.t 39), none⟩,
    ⟨(some 42), .idxA 1 (.t 37) (.t 39), none⟩,
    ⟨(some 43), .ld none (.t 42), none⟩,
    ⟨(some 8), .mov (.t 41), none⟩,
    ⟨(some 9), .mov (.t 43), none⟩])
  (.seq (.seq (.region false [⟨(some 44), .mov (.t 9), none⟩,
    ⟨(some 45), .call F_bits_Len8 [(.t 44)], none⟩,
    ⟨(some 46), .mov (.t 6), none⟩,
    ⟨(some 47), .bin .gtr (.t 45) (.t 46), none⟩,
    ⟨(some 48), .mov (.t 47), none⟩,
    ⟨(some 49), .mov (.t 9), some (48, false)⟩,
    ⟨(some 50), .mov (.t 8), some (48, false)⟩,
    ⟨(some 51), .bin .shr (.t 49) (.t 50), some (48, false)⟩,
    ⟨(some 52), .bin .and (.t 51) (.c (.int .u8 1)), some (48, false)⟩,
    ⟨(some 53), .bin .eql (.t 52) (.c (.int .u8 0)), some (48, false)⟩,
    ⟨(some 54), .pick (.t 48) (.c (.bool true)) (.t 53), none⟩])
  (.cond (.t 54)
   (.seq (.region false [⟨(some 55), .mov (.t 8), none⟩,
     ⟨(some 2), .mov (.t 55), none⟩,
     ⟨(some 3), .mov (.c (.int .i64 6)), none⟩])
   (.ret))
   (.skip)))
  (.seq (.region false [⟨(some 56), .fldA 1 (.t 1), none⟩,
    ⟨(some 57), .ld none (.t 56), none⟩,
    ⟨(some 58), .len (.t 57), none⟩,
    ⟨(some 59), .mov (.c (.int .i64 0)), none⟩])
  (.block 2 (.loop A_lattice_CheckL1))))))
  (.region false [⟨(some 93), .bin .add (.t 39) (.c (.int .i64 1)), none⟩,
    ⟨(some 39), .mov (.t 93), none⟩])))
def A_lattice_CheckL3 : ACode :=
  .seq (.region false [⟨(some 101), .bin .lss (.t 100) (.t 99), none⟩])
  (.seq (.cond (.t 101)
   (.skip)
   (.exit 7))
  (.seq (.block 8 (.seq (.region false [⟨(some 102), .mov (.t 100), none⟩,
    ⟨(some 14), .mov (.t 102), none⟩])
  (.seq (.region false [⟨(some 103), .fldA 1 (.t 12), none⟩,
    ⟨(some 104), .ld (some 8) (.t 103), none⟩,
    ⟨(some 105), .mov (.t 6), none⟩,
    ⟨(some 106), .mov (.t 13), none⟩,
    ⟨(some 107), .mov (.t 14), none⟩,
    ⟨(some 108), .call F_lattice_bound_lattice_ups [(.t 104), (.t 105), (.t 106), (.t 107)], none⟩,
    ⟨(some 109), .bin .lss (.t 108) (.c (.int .i64 0)), none⟩,
    ⟨(some 110), .mov (.t 109), none⟩,
    ⟨(some 111), .fldA 9 (.t 12), some (110, false)⟩,
    ⟨(some 112), .ld (some 8) (.t 111), some (110, false)⟩,
    ⟨(some 113), .mov (.t 6), some (110, false)⟩,
    ⟨(some 114), .mov (.t 13), some (110, false)⟩,
    ⟨(some 115), .mov (.t 14), some (110, false)⟩,
    ⟨(some 116), .call F_lattice_bound_lattice_downs [(.t 112), (.t 113), (.t 114), (.t 115)], some (110, false)⟩,
    ⟨(some 117), .bin .lss (.t 116) (.c (.int .i64 0)), some (110, false)⟩,
    ⟨(some 118), .pick (.t 110) (.c (.bool true)) (.t 117), none⟩])
  (.cond (.t 118)
   (.seq (.region false [⟨(some 119), .mov (.t 13), none⟩,
     ⟨(some 2), .mov (.t 119), none⟩,
     ⟨(some 3), .mov (.c (.int .i64 4)), none⟩])
   (.ret))
   (.skip)))))
  (.region false [⟨(some 120), .bin .add (.t 100) (.c (.int .i64 1)), none⟩,
    ⟨(some 100), .mov (.t 120), none⟩])))
def A_lattice_CheckL2 : ACode :=
  .seq (.region false [⟨(some 97), .bin .lss (.t 96) (.t 95), none⟩])
  (.seq (.cond (.t 97)
   (.skip)
   (.exit 5))
  (.seq (.block 6 (.seq (.region false [⟨(some 98), .mov (.t 96), none⟩,
    ⟨(some 13), .mov (.t 98), none⟩])
  (.seq (.region false [⟨(some 99), .mov (.t 6), none⟩,
    ⟨(some 100), .mov (.c (.int .i64 0)), none⟩])
  (.block 7 (.loop A_lattice_CheckL3)))))
  (.region false [⟨(some 121), .bin .add (.t 96) (.c (.int .i64 1)), none⟩,
    ⟨(some 96), .mov (.t 121), none⟩])))
def A_lattice_Check : AFun := ⟨122,
  .seq (.region false [⟨(some 1), .box (.t 0), none⟩,
    ⟨(some 2), .mov (.c (.int .i64 0)), none⟩,
    ⟨(some 3), .mov (.c (.int .i64 0)), none⟩])
  (.scope (.seq (.seq (.region false [⟨(some 16), .fldA 0 (.t 1), none⟩,
     ⟨(some 17), .ld none (.t 16), none⟩,
     ⟨(some 18), .call F_lattice_named [(.t 17)], none⟩,
     ⟨(some 15), .mov (.t 18), none⟩,
     ⟨(some 19), .extr (.t 15) 0, none⟩,
     ⟨(some 20), .extr (.t 15) 1, none⟩,
     ⟨(some 4), .mov (.t 19), none⟩,
     ⟨(some 5), .mov (.t 20), none⟩])
   (.seq (.region false [⟨(some 21), .mov (.t 5), none⟩,
     ⟨(some 22), .bin .neq (.t 21) (.c (.int .i64 0)), none⟩])
   (.cond (.t 22)
    (.seq (.region false [⟨(some 23), .mov (.t 4), none⟩,
      ⟨(some 24), .mov (.t 5), none⟩,
      ⟨(some 2), .mov (.t 23), none⟩,
      ⟨(some 3), .mov (.t 24), none⟩])
    (.ret))
    (.skip))))
   (.seq (.region false [⟨(some 25), .fldA 0 (.t 1), none⟩,
     ⟨(some 26), .ld none (.t 25), none⟩,
     ⟨(some 27), .len (.t 26), none⟩,
     ⟨(some 6), .mov (.t 27), none⟩])
   (.seq (.seq (.region false [⟨(some 28), .fldA 1 (.t 1), none⟩,
     ⟨(some 29), .ld none (.t 28), none⟩,
     ⟨(some 30), .len (.t 29), none⟩,
     ⟨(some 31), .mov (.t 6), none⟩,
     ⟨(some 32), .bin .neq (.t 30) (.t 31), none⟩])
   (.cond (.t 32)
    (.seq (.region false [⟨(some 2), .mov (.c (.int .i64 (-1))), none⟩,
      ⟨(some 3), .mov (.c (.int .i64 6)), none⟩])
    (.ret))
    (.skip)))
   (.seq (.region false [⟨(some 33), .mov (.t 6), none⟩,
     ⟨(some 34), .bin .shl (.c (.int .u8 1)) (.t 33), none⟩,
     ⟨(some 35), .bin .sub (.t 34) (.c (.int .u8 1)), none⟩,
     ⟨(some 7), .mov (.t 35), none⟩])
   (.seq (.label 0)
   (.seq (.seq (.region false [⟨(some 36), .fldA 1 (.t 1), none⟩,
     ⟨(some 37), .ld none (.t 36), none⟩,
     ⟨(some 38), .len (.t 37), none⟩,
     ⟨(some 39), .mov (.c (.int .i64 0)), none⟩])
   (.block 0 (.loop A_lattice_CheckL0)))
   (.seq (.region false [⟨(some 94), .call F_lattice_of [(.t 1)], none⟩,
     ⟨(some 12), .alloc [.int .i64 0, .int .u8 0, .int .u8 0, .int .u8 0, .int .u8 0, .int .u8 0, .int .u8 0, .int .u8 0, .int .u8 0, .int .u8 0, .int .u8 0, .int .u8 0, .int .u8 0, .int .u8 0, .int .u8 0, .int .u8 0, .int .u8 0], none⟩,
     ⟨none, .st 17 (.t 12) (.t 94), none⟩])
   (.seq (.seq (.region false [⟨(some 95), .mov (.t 6), none⟩,
     ⟨(some 96), .mov (.c (.int .i64 0)), none⟩])
   (.block 5 (.loop A_lattice_CheckL2)))
   (.seq (.region false [⟨(some 2), .mov (.c (.int .i64 0)), none⟩,
     ⟨(some 3), .mov (.c (.int .i64 0)), none⟩])
   (.ret))))))))))),
  [.tmp 2, .tmp 3]⟩

/- lattice_Bottom -/
def A_lattice_Bottom : AFun := ⟨16,
  .seq (.region false [⟨(some 1), .box (.t 0), none⟩,
    ⟨(some 2), .mov (.c (.int .i64 0)), none⟩,
    ⟨(some 3), .mov (.c (.int .i64 0)), none⟩])
  (.seq (.seq (.region false [⟨(some 6), .call F_lattice_asked [(.t 1), (.c (.sl .ex []))], none⟩,
    ⟨(some 4), .mov (.t 6), none⟩])
  (.seq (.region false [⟨(some 7), .mov (.t 4), none⟩,
    ⟨(some 8), .bin .neq (.t 7) (.c (.int .i64 0)), none⟩])
  (.cond (.t 8)
   (.seq (.region false [⟨(some 9), .mov (.t 4), none⟩,
     ⟨(some 2), .mov (.c (.int .i64 0)), none⟩,
     ⟨(some 3), .mov (.t 9), none⟩])
   (.ret))
   (.skip))))
  (.seq (.region false [⟨(some 10), .call F_lattice_of [(.t 1)], none⟩,
    ⟨(some 5), .alloc [.int .i64 0, .int .u8 0, .int .u8 0, .int .u8 0, .int .u8 0, .int .u8 0, .int .u8 0, .int .u8 0, .int .u8 0, .int .u8 0, .int .u8 0, .int .u8 0, .int .u8 0, .int .u8 0, .int .u8 0, .int .u8 0, .int .u8 0], none⟩,
    ⟨none, .st 17 (.t 5) (.t 10), none⟩])
  (.seq (.region false [⟨(some 11), .fldA 1 (.t 5), none⟩,
    ⟨(some 12), .ld (some 8) (.t 11), none⟩,
    ⟨(some 13), .fldA 0 (.t 5), none⟩,
    ⟨(some 14), .ld none (.t 13), none⟩,
    ⟨(some 15), .call F_lattice_end_lattice_ups [(.t 12), (.t 14)], none⟩,
    ⟨(some 2), .mov (.t 15), none⟩,
    ⟨(some 3), .mov (.c (.int .i64 0)), none⟩])
  (.ret)))),
  [.tmp 2, .tmp 3]⟩

/- ref03_names -/
def A_ref03_namesL1 : ACode :=
  .seq (.seq (.region false [⟨(some 27), .mov (.t 5), none⟩,
    ⟨(some 28), .mov (.t 4), none⟩,
    ⟨(some 29), .bin .lss (.t 27) (.t 28), none⟩])
  (.cond (.t 29)
   (.skip)
   (.exit 2)))
  (.seq (.block 3 (.seq (.region true [⟨(some 32), .mov (.t 0), none⟩,
    ⟨(some 33), .mov (.t 5), none⟩,
    ⟨(some 34), .idxA 1 (.t 32) (.t 33), none⟩,
    ⟨(some 35), .ld none (.t 34), none⟩,
    ⟨(some 36), .mov (.t 0), none⟩,
    ⟨(some 37), .mov (.t 4), none⟩,
    ⟨(some 38), .idxA 1 (.t 36) (.t 37), none⟩,
    ⟨(some 39), .ld none (.t 38), none⟩,
    ⟨(some 40), .bin .eql (.t 35) (.t 39), none⟩])
  (.cond (.t 40)
   (.seq (.region false [⟨(some 41), .mov (.t 4), none⟩,
     ⟨(some 2), .mov (.t 41), none⟩,
     ⟨(some 3), .mov (.c (.int .i64 8)), none⟩])
   (.ret))
   (.skip))))
  (.region false [⟨(some 30), .mov (.t 5), none⟩,
    ⟨(some 31), .bin .add (.t 30) (.c (.int .i64 1)), none⟩,
    ⟨(some 5), .mov (.t 31), none⟩]))
def A_ref03_namesL0 : ACode :=
  .seq (.seq (.region false [⟨(some 14), .mov (.t 4), none⟩,
    ⟨(some 15), .mov (.t 0), none⟩,
    ⟨(some 16), .len (.t 15), none⟩,
    ⟨(some 17), .bin .lss (.t 14) (.t 16), none⟩])
  (.cond (.t 17)
   (.skip)
   (.exit 0)))
  (.seq (.block 1 (.seq (.seq (.region false [⟨(some 20), .mov (.t 0), none⟩,
    ⟨(some 21), .mov (.t 4), none⟩,
    ⟨(some 22), .idxA 1 (.t 20) (.t 21), none⟩,
    ⟨(some 23), .ld none (.t 22), none⟩,
    ⟨(some 24), .call F_ref01_Name [(.t 23)], none⟩,
    ⟨(some 25), .not (.t 24), none⟩])
  (.cond (.t 25)
   (.seq (.region false [⟨(some 26), .mov (.t 4), none⟩,
     ⟨(some 2), .mov (.t 26), none⟩,
     ⟨(some 3), .mov (.c (.int .i64 6)), none⟩])
   (.ret))
   (.skip)))
  (.seq (.region false [⟨(some 5), .mov (.c (.int .i64 0)), none⟩])
  (.block 2 (.loop A_ref03_namesL1)))))
  (.region false [⟨(some 18), .mov (.t 4), none⟩,
    ⟨(some 19), .bin .add (.t 18) (.c (.int .i64 1)), none⟩,
    ⟨(some 4), .mov (.t 19), none⟩]))
def A_ref03_names : AFun := ⟨42,
  .seq (.region false [⟨(some 2), .mov (.c (.int .i64 0)), none⟩,
    ⟨(some 3), .mov (.c (.int .i64 0)), none⟩])
  (.seq (.seq (.region false [⟨(some 6), .mov (.t 0), none⟩,
    ⟨(some 7), .len (.t 6), none⟩,
    ⟨(some 8), .bin .lss (.t 7) (.c (.int .i64 1)), none⟩,
    ⟨(some 9), .mov (.t 8), none⟩,
    ⟨(some 10), .mov (.t 0), some (9, false)⟩,
    ⟨(some 11), .len (.t 10), some (9, false)⟩,
    ⟨(some 12), .bin .gtr (.t 11) (.c (.int .i64 8)), some (9, false)⟩,
    ⟨(some 13), .pick (.t 9) (.c (.bool true)) (.t 12), none⟩])
  (.cond (.t 13)
   (.seq (.region false [⟨(some 2), .mov (.c (.int .i64 (-1))), none⟩,
     ⟨(some 3), .mov (.c (.int .i64 3)), none⟩])
   (.ret))
   (.skip)))
  (.seq (.seq (.region false [⟨(some 4), .mov (.c (.int .i64 0)), none⟩])
  (.block 0 (.loop A_ref03_namesL0)))
  (.seq (.region false [⟨(some 2), .mov (.c (.int .i64 0)), none⟩,
    ⟨(some 3), .mov (.c (.int .i64 0)), none⟩])
  (.ret)))),
  [.tmp 2, .tmp 3]⟩

/- ref03_ordered -/
def A_ref03_orderedL0 : ACode :=
  .seq (.seq (.region false [⟨(some 29), .mov (.t 7), none⟩,
    ⟨(some 30), .mov (.t 5), none⟩,
    ⟨(some 31), .bin .lss (.t 29) (.t 30), none⟩])
  (.cond (.t 31)
   (.skip)
   (.exit 0)))
  (.seq (.block 1 (.seq (.seq (.region false [⟨(some 34), .ld (some 2) (.t 2), none⟩,
    ⟨(some 35), .mov (.t 1), none⟩,
    ⟨(some 36), .mov (.t 7), none⟩,
    ⟨(some 37), .call F_ref03_Below [(.t 34), (.t 35), (.t 36)], none⟩,
    ⟨(some 38), .not (.t 37), none⟩])
  (.cond (.t 38)
   (.exit 1)
   (.skip)))
  (.seq (.region true [⟨(some 39), .fldA 1 (.t 2), none⟩,
    ⟨(some 40), .ld none (.t 39), none⟩,
    ⟨(some 41), .mov (.t 7), none⟩,
    ⟨(some 42), .idxA 1 (.t 40) (.t 41), none⟩,
    ⟨(some 43), .ld none (.t 42), none⟩,
    ⟨(some 44), .conv .i64 (.t 43), none⟩,
    ⟨(some 45), .mov (.t 5), none⟩,
    ⟨(some 46), .bin .shl (.c (.int .i64 1)) (.t 45), none⟩,
    ⟨(some 47), .bin .sub (.t 46) (.c (.int .i64 1)), none⟩,
    ⟨(some 48), .bin .and (.t 44) (.t 47), none⟩,
    ⟨(some 8), .mov (.t 48), none⟩])
  (.seq (.region false [⟨(some 49), .mov (.t 7), none⟩,
    ⟨(some 50), .mov (.t 1), none⟩,
    ⟨(some 51), .bin .neq (.t 49) (.t 50), none⟩,
    ⟨(some 52), .mov (.t 51), none⟩,
    ⟨(some 53), .ld (some 2) (.t 2), some (52, true)⟩,
    ⟨(some 54), .mov (.t 7), some (52, true)⟩,
    ⟨(some 55), .mov (.t 1), some (52, true)⟩,
    ⟨(some 56), .call F_ref03_Below [(.t 53), (.t 54), (.t 55)], some (52, true)⟩,
    ⟨(some 57), .pick (.t 52) (.t 56) (.c (.bool false)), none⟩,
    ⟨(some 58), .mov (.t 57), none⟩,
    ⟨(some 59), .mov (.t 8), some (58, false)⟩,
    ⟨(some 60), .mov (.t 6), some (58, false)⟩,
    ⟨(some 61), .bin .and (.t 59) (.t 60), some (58, false)⟩,
    ⟨(some 62), .mov (.t 8), some (58, false)⟩,
    ⟨(some 63), .bin .neq (.t 61) (.t 62), some (58, false)⟩,
    ⟨(some 64), .pick (.t 58) (.c (.bool true)) (.t 63), none⟩])
  (.cond (.t 64)
   (.seq (.region false [⟨(some 4), .mov (.c (.bool false)), none⟩])
   (.ret))
   (.skip))))))
  (.region false [⟨(some 32), .mov (.t 7), none⟩,
    ⟨(some 33), .bin .add (.t 32) (.c (.int .i64 1)), none⟩,
    ⟨(some 7), .mov (.t 33), none⟩]))
def A_ref03_ordered : AFun := ⟨65,
  .seq (.region false [⟨(some 2), .box (.t 0), none⟩,
    ⟨(some 4), .mov (.c (.bool false)), none⟩])
  (.seq (.region false [⟨(some 9), .fldA 0 (.t 2), none⟩,
    ⟨(some 10), .ld none (.t 9), none⟩,
    ⟨(some 11), .len (.t 10), none⟩,
    ⟨(some 5), .mov (.t 11), none⟩])
  (.seq (.region false [⟨(some 12), .fldA 1 (.t 2), none⟩,
    ⟨(some 13), .ld none (.t 12), none⟩,
    ⟨(some 14), .mov (.t 1), none⟩,
    ⟨(some 15), .idxA 1 (.t 13) (.t 14), none⟩,
    ⟨(some 16), .ld none (.t 15), none⟩,
    ⟨(some 17), .conv .i64 (.t 16), none⟩,
    ⟨(some 6), .mov (.t 17), none⟩])
  (.seq (.seq (.region false [⟨(some 18), .mov (.t 6), none⟩,
    ⟨(some 19), .mov (.t 5), none⟩,
    ⟨(some 20), .bin .shr (.t 18) (.t 19), none⟩,
    ⟨(some 21), .bin .gtr (.t 20) (.c (.int .i64 0)), none⟩,
    ⟨(some 22), .mov (.t 21), none⟩,
    ⟨(some 23), .ld (some 2) (.t 2), some (22, false)⟩,
    ⟨(some 24), .mov (.t 1), some (22, false)⟩,
    ⟨(some 25), .mov (.t 1), some (22, false)⟩,
    ⟨(some 26), .call F_ref03_Below [(.t 23), (.t 24), (.t 25)], some (22, false)⟩,
    ⟨(some 27), .not (.t 26), some (22, false)⟩,
    ⟨(some 28), .pick (.t 22) (.c (.bool true)) (.t 27), none⟩])
  (.cond (.t 28)
   (.seq (.region false [⟨(some 4), .mov (.c (.bool false)), none⟩])
   (.ret))
   (.skip)))
  (.seq (.seq (.region false [⟨(some 7), .mov (.c (.int .i64 0)), none⟩])
  (.block 0 (.loop A_ref03_orderedL0)))
  (.seq (.region false [⟨(some 4), .mov (.c (.bool true)), none⟩])
  (.ret)))))),
  [.tmp 4]⟩

section
variable {X : Cx} (hX : X.P = Go.Proofs.Tryz.prog)
include hX
theorem A_law20_TypesTexts_ok : compileFun X.P F_law20_TypesTexts (fun _ => false) = some A_law20_TypesTexts := by rw [hX]; kernel_rfl
theorem A_law20_Large_ok : compileFun X.P F_law20_Large (fun _ => false) = some A_law20_Large := by rw [hX]; kernel_rfl
theorem A_law20_shown_ok : compileFun X.P F_law20_shown (fun _ => false) = some A_law20_shown := by rw [hX]; kernel_rfl
theorem A_types_Sees_ok : compileFun X.P F_types_Sees (fun _ => false) = some A_types_Sees := by rw [hX]; kernel_rfl
theorem A_types_Print_ok : compileFun X.P F_types_Print (fun d => d == 23) = some A_types_Print := by rw [hX]; kernel_rfl
theorem A_ref20_Print_ok : compileFun X.P F_ref20_Print (fun _ => false) = some A_ref20_Print := by rw [hX]; kernel_rfl
theorem A_types_Parse_ok : compileFun X.P F_types_Parse (fun _ => false) = some A_types_Parse := by rw [hX]; kernel_rfl
theorem A_ref20_Parse_ok : compileFun X.P F_ref20_Parse (fun _ => false) = some A_ref20_Parse := by rw [hX]; kernel_rfl
theorem A_law20_Line_ok : compileFun X.P F_law20_Line (fun _ => false) = some A_law20_Line := by rw [hX]; kernel_rfl
theorem A_law20_vector_ok : compileFun X.P F_law20_vector (fun _ => false) = some A_law20_vector := by rw [hX]; kernel_rfl
theorem A_types_Within_ok : compileFun X.P F_types_Within (fun _ => false) = some A_types_Within := by rw [hX]; kernel_rfl
theorem A_types_Raise_ok : compileFun X.P F_types_Raise (fun _ => false) = some A_types_Raise := by rw [hX]; kernel_rfl
theorem A_types_Check_ok : compileFun X.P F_types_Check (fun _ => false) = some A_types_Check := by rw [hX]; kernel_rfl
theorem A_types_of_ok : compileFun X.P F_types_of (fun _ => false) = some A_types_of := by rw [hX]; kernel_rfl
theorem A_ref03_Check_ok : compileFun X.P F_ref03_Check (fun _ => false) = some A_ref03_Check := by rw [hX]; kernel_rfl
theorem A_ref20_Low_ok : compileFun X.P F_ref20_Low (fun _ => false) = some A_ref20_Low := by rw [hX]; kernel_rfl
theorem A_types_order_check_ok : compileFun X.P F_types_order_check (fun _ => false) = some A_types_order_check := by rw [hX]; kernel_rfl
theorem A_types_order_label_ok : compileFun X.P F_types_order_label (fun _ => false) = some A_types_order_label := by rw [hX]; kernel_rfl
theorem A_types_order_leq_ok : compileFun X.P F_types_order_leq (fun _ => false) = some A_types_order_leq := by rw [hX]; kernel_rfl
theorem A_ref20_Check_ok : compileFun X.P F_ref20_Check (fun _ => false) = some A_ref20_Check := by rw [hX]; kernel_rfl
theorem A_ref20_Label_ok : compileFun X.P F_ref20_Label (fun _ => false) = some A_ref20_Label := by rw [hX]; kernel_rfl
theorem A_ref20_Leq_ok : compileFun X.P F_ref20_Leq (fun _ => false) = some A_ref20_Leq := by rw [hX]; kernel_rfl
theorem A_types_names_ok : compileFun X.P F_types_names (fun _ => false) = some A_types_names := by rw [hX]; kernel_rfl
theorem A_types_each_ok : compileFun X.P F_types_each (fun _ => false) = some A_types_each := by rw [hX]; kernel_rfl
theorem A_types_Print_1_ok : compileFun X.P F_types_Print_1 (fun _ => false) = some A_types_Print_1 := by rw [hX]; kernel_rfl
theorem A_ref20_kind_ok : compileFun X.P F_ref20_kind (fun _ => false) = some A_ref20_kind := by rw [hX]; kernel_rfl
theorem A_ref01_Digits_ok : compileFun X.P F_ref01_Digits (fun _ => false) = some A_ref01_Digits := by rw [hX]; kernel_rfl
theorem A_words_Split_ok : compileFun X.P F_words_Split (fun _ => false) = some A_words_Split := by rw [hX]; kernel_rfl
theorem A_slices_ContainsFunc_api_Field_api_Field_ok : compileFun X.P F_slices_ContainsFunc_api_Field_api_Field (fun _ => false) = some A_slices_ContainsFunc_api_Field_api_Field := by rw [hX]; kernel_rfl
theorem A_types_Parse_1_ok : compileFun X.P F_types_Parse_1 (fun _ => false) = some A_types_Parse_1 := by rw [hX]; kernel_rfl
theorem A_slices_Index_string_string_ok : compileFun X.P F_slices_Index_string_string (fun _ => false) = some A_slices_Index_string_string := by rw [hX]; kernel_rfl
theorem A_words_Int_ok : compileFun X.P F_words_Int (fun _ => false) = some A_words_Int := by rw [hX]; kernel_rfl
theorem A_types_Parse_2_ok : compileFun X.P F_types_Parse_2 (fun _ => false) = some A_types_Parse_2 := by rw [hX]; kernel_rfl
theorem A_lattice_Find_ok : compileFun X.P F_lattice_Find (fun _ => false) = some A_lattice_Find := by rw [hX]; kernel_rfl
theorem A_ref01_Split_ok : compileFun X.P F_ref01_Split (fun _ => false) = some A_ref01_Split := by rw [hX]; kernel_rfl
theorem A_ref01_Int_ok : compileFun X.P F_ref01_Int (fun _ => false) = some A_ref01_Int := by rw [hX]; kernel_rfl
theorem A_ref03_Find_ok : compileFun X.P F_ref03_Find (fun _ => false) = some A_ref03_Find := by rw [hX]; kernel_rfl
theorem A_ref20_Good_ok : compileFun X.P F_ref20_Good (fun _ => false) = some A_ref20_Good := by rw [hX]; kernel_rfl
theorem A_types_Join_ok : compileFun X.P F_types_Join (fun _ => false) = some A_types_Join := by rw [hX]; kernel_rfl
theorem A_types_with_up_ok : compileFun X.P F_types_with_up (fun _ => false) = some A_types_with_up := by rw [hX]; kernel_rfl
theorem A_lattice_Check_ok : compileFun X.P F_lattice_Check (fun _ => false) = some A_lattice_Check := by rw [hX]; kernel_rfl
theorem A_lattice_Bottom_ok : compileFun X.P F_lattice_Bottom (fun _ => false) = some A_lattice_Bottom := by rw [hX]; kernel_rfl
theorem A_ref03_names_ok : compileFun X.P F_ref03_names (fun _ => false) = some A_ref03_names := by rw [hX]; kernel_rfl
theorem A_ref03_ordered_ok : compileFun X.P F_ref03_ordered (fun _ => false) = some A_ref03_ordered := by rw [hX]; kernel_rfl
end
end Go.Avm
