/- The functions as they have been read. -/
import Derived.Test.YtbhdhlkjchgddaaDoorZ8
import Derived.Test.YtbhdhlkjchgddaaDoorProg
set_option linter.unusedSectionVars false
set_option linter.unusedSimpArgs false
set_option linter.unusedVariables false

/- The functions as they have been read. -/
namespace Go.Avm
open Go
def F_law20_TypesOrder : Nat := 3
def F_law20_TypesRaises : Nat := 4
def F_law20_TypesKnown : Nat := 5
def F_law20_TypesChecks : Nat := 6
def F_law20_TypesAgrees : Nat := 7
def F_law20_Large : Nat := 8
def F_law20_shown : Nat := 9
def F_types_Within : Nat := 10
def F_types_Join : Nat := 11
def F_types_Check : Nat := 12
def F_types_Raise : Nat := 13
def F_ref03_Join : Nat := 14
def F_ref03_Bottom : Nat := 15
def F_ref20_Check : Nat := 16
def F_ref20_Within : Nat := 17
def F_ref20_Join : Nat := 18
def F_ref20_Raise : Nat := 19
def F_types_Shape : Nat := 20
def F_ref20_Shape : Nat := 21
def F_law20_big : Nat := 22
def F_types_Agree : Nat := 23
def F_types_Sees : Nat := 24
def F_ref03_Leq : Nat := 25
def F_law20_Line : Nat := 26
def F_law20_vector : Nat := 27
def F_types_Print : Nat := 28
def F_types_both : Nat := 29
def F_types_order_join : Nat := 30
def F_types_of : Nat := 31
def F_types_order_check : Nat := 32
def F_types_order_label : Nat := 33
def F_types_each : Nat := 34
def F_types_with_up : Nat := 35
def F_ref03_asked : Nat := 36
def F_ref03_join : Nat := 37
def F_ref03_downs : Nat := 38
def F_ref03_nearest : Nat := 39
def F_ref03_Check : Nat := 40
def F_ref20_Good : Nat := 41
def F_ref20_both : Nat := 42
def F_ref20_Leq : Nat := 43
def F_ref20_Up : Nat := 44
def F_ref20_Label : Nat := 45
def F_arrays_Check : Nat := 46
def F_types_Fits : Nat := 47
def F_slices_Equal_int64_int64 : Nat := 48
def F_types_order_leq : Nat := 49
def F_ref03_Below : Nat := 50
def F_types_names : Nat := 51
def F_strconv_Itoa : Nat := 52
def F_types_Print_1 : Nat := 53
def F_slices_Index_uint8_uint8 : Nat := 54
def F_lattice_Check : Nat := 55
def F_lattice_Bottom : Nat := 56
def F_slices_ContainsFunc_int_int : Nat := 57
def F_types_order_check_1 : Nat := 58
def F_ref03_names : Nat := 59
def F_ref03_ordered : Nat := 60
def F_ref20_Low : Nat := 61
def F_shapes_Cells : Nat := 62
def F_slices_ContainsFunc_int64_int64 : Nat := 63
def F_arrays_Check_1 : Nat := 64
def F_arrays_right : Nat := 65
def F_strconv_Itoa_66 : Nat := 66
def F_lattice_named : Nat := 67
def F_bits_Len8 : Nat := 68
def F_lattice_of : Nat := 69
def F_lattice_bound_lattice_ups : Nat := 70
def F_lattice_bound_lattice_downs : Nat := 71
def F_lattice_asked : Nat := 72
def F_lattice_end_lattice_ups : Nat := 73
def F_slices_IndexFunc_int_int : Nat := 74
def F_ref01_Name : Nat := 75
def F_shapes_Check : Nat := 76
def F_shapes_product : Nat := 77
def F_slices_IndexFunc_int64_int64 : Nat := 78
def F_utf8_ValidRune : Nat := 79
def F_strconv_FormatInt : Nat := 80
def F_words_Name : Nat := 81
def F_slices_Contains_string_string : Nat := 82
def F_bits_OnesCount8 : Nat := 83
def F_ref01_lower : Nat := 84
def F_ref01_digit : Nat := 85
def F_shapes_Check_1 : Nat := 86
def F_shapes_Check_2 : Nat := 87
def F_shapes_Check_3 : Nat := 88
def F_strconv_small : Nat := 89
def F_strconv_numDigits : Nat := 90
def F_strconv_formatBase10 : Nat := 91
def F_strconv_formatBits : Nat := 92
def F_strings_Trim : Nat := 93
def F_slices_Index_string_string : Nat := 94
def F_strconv_log10Pow2 : Nat := 95
def F_bits_Len64 : Nat := 96
def F_strconv_bool2_int : Nat := 97
def F_strconv_isPowerOfTwo : Nat := 98
def F_bits_TrailingZeros : Nat := 99
def F_strings_trimLeftByte : Nat := 100
def F_strings_trimRightByte : Nat := 101
def F_strings_makeASCIISet : Nat := 102
def F_strings_trimLeftASCII : Nat := 103
def F_strings_trimRightASCII : Nat := 104
def F_strings_trimLeftUnicode : Nat := 105
def F_strings_trimRightUnicode : Nat := 106
def F_bits_TrailingZeros32 : Nat := 107
def F_bits_TrailingZeros64 : Nat := 108
def F_strings_asciiSet_contains : Nat := 109
def F_utf8_DecodeRuneInString : Nat := 110
def F_strings_ContainsRune : Nat := 111
def F_utf8_DecodeLastRuneInString : Nat := 112
def F_utf8_decodeRuneInStringSlow : Nat := 113
def F_strings_IndexRune : Nat := 114
def F_utf8_RuneStart : Nat := 115
def F_strings_IndexByte : Nat := 116
def F_bytealg_Cutover : Nat := 117
def F_stringslite_IndexByte : Nat := 119
/- law20_TypesOrder -/
def A_law20_TypesOrder : AFun := ⟨170,
  .seq (.region false [⟨(some 2), .box (.t 0), none⟩,
    ⟨(some 3), .box (.t 1), none⟩,
    ⟨(some 4), .mov (.c (.bool false)), none⟩])
  (.seq (.seq (.region false [⟨(some 19), .ld (some 2) (.t 2), none⟩,
    ⟨(some 20), .call F_law20_Large [(.t 19)], none⟩])
  (.cond (.t 20)
   (.seq (.region false [⟨(some 21), .call F_law20_shown [], none⟩,
     ⟨(some 4), .mov (.t 21), none⟩])
   (.ret))
   (.skip)))
  (.seq (.region false [⟨(some 23), .ld (some 2) (.t 2), none⟩,
    ⟨(some 24), .idxP 3 5 (.t 3) (.c (.int .i64 0)), none⟩,
    ⟨(some 25), .ld (some 5) (.t 24), none⟩,
    ⟨(some 26), .idxP 3 5 (.t 3) (.c (.int .i64 1)), none⟩,
    ⟨(some 27), .ld (some 5) (.t 26), none⟩,
    ⟨(some 28), .call F_types_Within [(.t 23), (.t 25), (.t 27)], none⟩,
    ⟨(some 22), .mov (.t 28), none⟩,
    ⟨(some 29), .extr (.t 22) 0, none⟩,
    ⟨(some 30), .extr (.t 22) 1, none⟩,
    ⟨(some 5), .mov (.t 29), none⟩,
    ⟨(some 6), .mov (.t 30), none⟩])
  (.seq (.region false [⟨(some 32), .ld (some 2) (.t 2), none⟩,
    ⟨(some 33), .idxP 3 5 (.t 3) (.c (.int .i64 1)), none⟩,
    ⟨(some 34), .ld (some 5) (.t 33), none⟩,
    ⟨(some 35), .idxP 3 5 (.t 3) (.c (.int .i64 2)), none⟩,
    ⟨(some 36), .ld (some 5) (.t 35), none⟩,
    ⟨(some 37), .call F_types_Within [(.t 32), (.t 34), (.t 36)], none⟩,
    ⟨(some 31), .mov (.t 37), none⟩,
    ⟨(some 38), .extr (.t 31) 0, none⟩,
    ⟨(some 39), .extr (.t 31) 1, none⟩,
    ⟨(some 7), .mov (.t 38), none⟩,
    ⟨(some 8), .mov (.t 39), none⟩])
  (.seq (.seq (.region false [⟨(some 40), .mov (.t 6), none⟩,
    ⟨(some 41), .bin .neq (.t 40) (.c (.int .i64 0)), none⟩,
    ⟨(some 42), .mov (.t 41), none⟩,
    ⟨(some 43), .mov (.t 8), some (42, false)⟩,
    ⟨(some 44), .bin .neq (.t 43) (.c (.int .i64 0)), some (42, false)⟩,
    ⟨(some 45), .pick (.t 42) (.c (.bool true)) (.t 44), none⟩])
  (.cond (.t 45)
   (.seq (.region false [⟨(some 46), .call F_law20_shown [], none⟩,
     ⟨(some 4), .mov (.t 46), none⟩])
   (.ret))
   (.skip)))
  (.seq (.region false [⟨(some 48), .ld (some 2) (.t 2), none⟩,
    ⟨(some 49), .idxP 3 5 (.t 3) (.c (.int .i64 0)), none⟩,
    ⟨(some 50), .ld (some 5) (.t 49), none⟩,
    ⟨(some 51), .idxP 3 5 (.t 3) (.c (.int .i64 2)), none⟩,
    ⟨(some 52), .ld (some 5) (.t 51), none⟩,
    ⟨(some 53), .call F_types_Within [(.t 48), (.t 50), (.t 52)], none⟩,
    ⟨(some 47), .mov (.t 53), none⟩,
    ⟨(some 54), .extr (.t 47) 0, none⟩,
    ⟨(some 55), .extr (.t 47) 1, none⟩,
    ⟨(some 9), .mov (.t 54), none⟩,
    ⟨(some 6), .mov (.t 55), none⟩])
  (.seq (.region false [⟨(some 57), .ld (some 2) (.t 2), none⟩,
    ⟨(some 58), .idxP 3 5 (.t 3) (.c (.int .i64 1)), none⟩,
    ⟨(some 59), .ld (some 5) (.t 58), none⟩,
    ⟨(some 60), .idxP 3 5 (.t 3) (.c (.int .i64 0)), none⟩,
    ⟨(some 61), .ld (some 5) (.t 60), none⟩,
    ⟨(some 62), .call F_types_Within [(.t 57), (.t 59), (.t 61)], none⟩,
    ⟨(some 56), .mov (.t 62), none⟩,
    ⟨(some 63), .extr (.t 56) 0, none⟩,
    ⟨(some 64), .extr (.t 56) 1, none⟩,
    ⟨(some 10), .mov (.t 63), none⟩,
    ⟨(some 8), .mov (.t 64), none⟩])
  (.seq (.region false [⟨(some 66), .ld (some 2) (.t 2), none⟩,
    ⟨(some 67), .idxP 3 5 (.t 3) (.c (.int .i64 0)), none⟩,
    ⟨(some 68), .ld (some 5) (.t 67), none⟩,
    ⟨(some 69), .idxP 3 5 (.t 3) (.c (.int .i64 0)), none⟩,
    ⟨(some 70), .ld (some 5) (.t 69), none⟩,
    ⟨(some 71), .call F_types_Within [(.t 66), (.t 68), (.t 70)], none⟩,
    ⟨(some 65), .mov (.t 71), none⟩,
    ⟨(some 72), .extr (.t 65) 0, none⟩,
    ⟨(some 73), .extr (.t 65) 1, none⟩,
    ⟨(some 11), .mov (.t 72), none⟩,
    ⟨(some 12), .mov (.t 73), none⟩])
  (.seq (.seq (.region false [⟨(some 74), .mov (.t 6), none⟩,
    ⟨(some 75), .bin .neq (.t 74) (.c (.int .i64 0)), none⟩,
    ⟨(some 76), .mov (.t 75), none⟩,
    ⟨(some 77), .mov (.t 8), some (76, false)⟩,
    ⟨(some 78), .bin .neq (.t 77) (.c (.int .i64 0)), some (76, false)⟩,
    ⟨(some 79), .pick (.t 76) (.c (.bool true)) (.t 78), none⟩,
    ⟨(some 80), .mov (.t 79), none⟩,
    ⟨(some 81), .mov (.t 12), some (80, false)⟩,
    ⟨(some 82), .bin .neq (.t 81) (.c (.int .i64 0)), some (80, false)⟩,
    ⟨(some 83), .pick (.t 80) (.c (.bool true)) (.t 82), none⟩,
    ⟨(some 84), .mov (.t 83), none⟩,
    ⟨(some 85), .mov (.t 11), some (84, false)⟩,
    ⟨(some 86), .not (.t 85), some (84, false)⟩,
    ⟨(some 87), .pick (.t 84) (.c (.bool true)) (.t 86), none⟩,
    ⟨(some 88), .mov (.t 87), none⟩,
    ⟨(some 89), .mov (.t 5), some (88, false)⟩,
    ⟨(some 90), .mov (.t 89), some (88, false)⟩,
    ⟨(some 91), .mov (.t 7), some (90, true)⟩,
    ⟨(some 92), .pick (.t 90) (.t 91) (.c (.bool false)), some (88, false)⟩,
    ⟨(some 93), .mov (.t 92), some (88, false)⟩,
    ⟨(some 94), .mov (.t 9), some (93, true)⟩,
    ⟨(some 95), .not (.t 94), some (93, true)⟩,
    ⟨(some 96), .pick (.t 93) (.t 95) (.c (.bool false)), some (88, false)⟩,
    ⟨(some 97), .pick (.t 88) (.c (.bool true)) (.t 96), none⟩,
    ⟨(some 98), .mov (.t 97), none⟩,
    ⟨(some 99), .mov (.t 5), some (98, false)⟩,
    ⟨(some 100), .mov (.t 99), some (98, false)⟩,
    ⟨(some 101), .mov (.t 10), some (100, true)⟩,
    ⟨(some 102), .idxP 3 5 (.t 3) (.c (.int .i64 0)), some (100, true)⟩,
    ⟨(some 103), .ld (some 5) (.t 102), some (100, true)⟩,
    ⟨(some 104), .idxP 3 5 (.t 3) (.c (.int .i64 1)), some (100, true)⟩,
    ⟨(some 105), .ld (some 5) (.t 104), some (100, true)⟩,
    ⟨(some 106), .aeq false [0, 0, 0, 0, 0] (.t 103) (.t 105), some (100, true)⟩,
    ⟨(some 107), .beq true (.t 101) (.t 106), some (100, true)⟩,
    ⟨(some 108), .pick (.t 100) (.t 107) (.c (.bool false)), some (98, false)⟩,
    ⟨(some 109), .pick (.t 98) (.c (.bool true)) (.t 108), none⟩])
  (.cond (.t 109)
   (.seq (.region false [⟨(some 4), .mov (.c (.bool false)), none⟩])
   (.ret))
   (.skip)))
  (.seq (.region false [⟨(some 111), .ld (some 2) (.t 2), none⟩,
    ⟨(some 112), .idxP 3 5 (.t 3) (.c (.int .i64 0)), none⟩,
    ⟨(some 113), .ld (some 5) (.t 112), none⟩,
    ⟨(some 114), .idxP 3 5 (.t 3) (.c (.int .i64 1)), none⟩,
    ⟨(some 115), .ld (some 5) (.t 114), none⟩,
    ⟨(some 116), .call F_types_Join [(.t 111), (.t 113), (.t 115)], none⟩,
    ⟨(some 110), .mov (.t 116), none⟩,
    ⟨(some 117), .extr (.t 110) 0, none⟩,
    ⟨(some 118), .extr (.t 110) 1, none⟩,
    ⟨(some 13), .alloc [.int .i64 0, .int .i64 0, .int .i64 0, .int .i64 0, .int .i64 0], none⟩,
    ⟨none, .st 5 (.t 13) (.t 117), none⟩,
    ⟨(some 6), .mov (.t 118), none⟩])
  (.seq (.seq (.region false [⟨(some 119), .mov (.t 6), none⟩,
    ⟨(some 120), .bin .neq (.t 119) (.c (.int .i64 0)), none⟩,
    ⟨(some 121), .mov (.t 120), none⟩,
    ⟨(some 122), .ld (some 2) (.t 2), some (121, false)⟩,
    ⟨(some 123), .ld (some 5) (.t 13), some (121, false)⟩,
    ⟨(some 124), .call F_types_Check [(.t 122), (.t 123)], some (121, false)⟩,
    ⟨(some 125), .bin .neq (.t 124) (.c (.int .i64 0)), some (121, false)⟩,
    ⟨(some 126), .pick (.t 121) (.c (.bool true)) (.t 125), none⟩])
  (.cond (.t 126)
   (.seq (.region false [⟨(some 4), .mov (.c (.bool false)), none⟩])
   (.ret))
   (.skip)))
  (.seq (.region false [⟨(some 128), .ld (some 2) (.t 2), none⟩,
    ⟨(some 129), .idxP 3 5 (.t 3) (.c (.int .i64 0)), none⟩,
    ⟨(some 130), .ld (some 5) (.t 129), none⟩,
    ⟨(some 131), .ld (some 5) (.t 13), none⟩,
    ⟨(some 132), .call F_types_Within [(.t 128), (.t 130), (.t 131)], none⟩,
    ⟨(some 127), .mov (.t 132), none⟩,
    ⟨(some 133), .extr (.t 127) 0, none⟩,
    ⟨(some 134), .extr (.t 127) 1, none⟩,
    ⟨(some 14), .mov (.t 133), none⟩,
    ⟨(some 15), .mov (.t 134), none⟩])
  (.seq (.region false [⟨(some 136), .ld (some 2) (.t 2), none⟩,
    ⟨(some 137), .idxP 3 5 (.t 3) (.c (.int .i64 1)), none⟩,
    ⟨(some 138), .ld (some 5) (.t 137), none⟩,
    ⟨(some 139), .ld (some 5) (.t 13), none⟩,
    ⟨(some 140), .call F_types_Within [(.t 136), (.t 138), (.t 139)], none⟩,
    ⟨(some 135), .mov (.t 140), none⟩,
    ⟨(some 141), .extr (.t 135) 0, none⟩,
    ⟨(some 142), .extr (.t 135) 1, none⟩,
    ⟨(some 16), .mov (.t 141), none⟩,
    ⟨(some 17), .mov (.t 142), none⟩])
  (.seq (.region false [⟨(some 144), .ld (some 2) (.t 2), none⟩,
    ⟨(some 145), .ld (some 5) (.t 13), none⟩,
    ⟨(some 146), .idxP 3 5 (.t 3) (.c (.int .i64 2)), none⟩,
    ⟨(some 147), .ld (some 5) (.t 146), none⟩,
    ⟨(some 148), .call F_types_Within [(.t 144), (.t 145), (.t 147)], none⟩,
    ⟨(some 143), .mov (.t 148), none⟩,
    ⟨(some 149), .extr (.t 143) 0, none⟩,
    ⟨(some 150), .extr (.t 143) 1, none⟩,
    ⟨(some 18), .mov (.t 149), none⟩,
    ⟨(some 6), .mov (.t 150), none⟩])
  (.seq (.region false [⟨(some 151), .mov (.t 6), none⟩,
    ⟨(some 152), .bin .eql (.t 151) (.c (.int .i64 0)), none⟩,
    ⟨(some 153), .mov (.t 152), none⟩,
    ⟨(some 154), .mov (.t 14), some (153, true)⟩,
    ⟨(some 155), .pick (.t 153) (.t 154) (.c (.bool false)), none⟩,
    ⟨(some 156), .mov (.t 155), none⟩,
    ⟨(some 157), .mov (.t 16), some (156, true)⟩,
    ⟨(some 158), .pick (.t 156) (.t 157) (.c (.bool false)), none⟩,
    ⟨(some 159), .mov (.t 158), none⟩,
    ⟨(some 160), .mov (.t 18), some (159, true)⟩,
    ⟨(some 161), .mov (.t 9), some (159, true)⟩,
    ⟨(some 162), .mov (.t 161), some (159, true)⟩,
    ⟨(some 163), .mov (.t 7), some (162, true)⟩,
    ⟨(some 164), .pick (.t 162) (.t 163) (.c (.bool false)), some (159, true)⟩,
    ⟨(some 165), .beq false (.t 160) (.t 164), some (159, true)⟩,
    ⟨(some 166), .pick (.t 159) (.t 165) (.c (.bool false)), none⟩,
    ⟨(some 167), .mov (.t 166), none⟩,
    ⟨(some 168), .call F_law20_shown [], some (167, true)⟩,
    ⟨(some 169), .pick (.t 167) (.t 168) (.c (.bool false)), none⟩,
    ⟨(some 4), .mov (.t 169), none⟩])
  (.ret))))))))))))))),
  [.tmp 4]⟩

/- law20_TypesRaises -/
def A_law20_TypesRaises : AFun := ⟨150,
  .seq (.region false [⟨(some 3), .box (.t 0), none⟩,
    ⟨(some 4), .box (.t 1), none⟩,
    ⟨(some 5), .box (.t 2), none⟩,
    ⟨(some 6), .mov (.c (.bool false)), none⟩])
  (.seq (.seq (.region false [⟨(some 23), .ld (some 2) (.t 3), none⟩,
    ⟨(some 24), .call F_law20_Large [(.t 23)], none⟩])
  (.cond (.t 24)
   (.seq (.region false [⟨(some 25), .call F_law20_shown [], none⟩,
     ⟨(some 6), .mov (.t 25), none⟩])
   (.ret))
   (.skip)))
  (.seq (.region false [⟨(some 27), .ld (some 2) (.t 3), none⟩,
    ⟨(some 28), .ld (some 5) (.t 4), none⟩,
    ⟨(some 29), .idxP 2 1 (.t 5) (.c (.int .i64 0)), none⟩,
    ⟨(some 30), .ld none (.t 29), none⟩,
    ⟨(some 31), .call F_types_Raise [(.t 27), (.t 28), (.t 30)], none⟩,
    ⟨(some 26), .mov (.t 31), none⟩,
    ⟨(some 32), .extr (.t 26) 0, none⟩,
    ⟨(some 33), .extr (.t 26) 1, none⟩,
    ⟨(some 7), .alloc [.int .i64 0, .int .i64 0, .int .i64 0, .int .i64 0, .int .i64 0], none⟩,
    ⟨none, .st 5 (.t 7) (.t 32), none⟩,
    ⟨(some 8), .mov (.t 33), none⟩])
  (.seq (.region false [⟨(some 35), .ld (some 2) (.t 3), none⟩,
    ⟨(some 36), .ld (some 5) (.t 4), none⟩,
    ⟨(some 37), .idxP 2 1 (.t 5) (.c (.int .i64 1)), none⟩,
    ⟨(some 38), .ld none (.t 37), none⟩,
    ⟨(some 39), .call F_types_Raise [(.t 35), (.t 36), (.t 38)], none⟩,
    ⟨(some 34), .mov (.t 39), none⟩,
    ⟨(some 40), .extr (.t 34) 0, none⟩,
    ⟨(some 41), .extr (.t 34) 1, none⟩,
    ⟨(some 9), .alloc [.int .i64 0, .int .i64 0, .int .i64 0, .int .i64 0, .int .i64 0], none⟩,
    ⟨none, .st 5 (.t 9) (.t 40), none⟩,
    ⟨(some 10), .mov (.t 41), none⟩])
  (.seq (.seq (.region false [⟨(some 42), .mov (.t 8), none⟩,
    ⟨(some 43), .bin .neq (.t 42) (.c (.int .i64 0)), none⟩,
    ⟨(some 44), .mov (.t 43), none⟩,
    ⟨(some 45), .mov (.t 10), some (44, false)⟩,
    ⟨(some 46), .bin .neq (.t 45) (.c (.int .i64 0)), some (44, false)⟩,
    ⟨(some 47), .pick (.t 44) (.c (.bool true)) (.t 46), none⟩])
  (.cond (.t 47)
   (.seq (.region false [⟨(some 48), .call F_law20_shown [], none⟩,
     ⟨(some 6), .mov (.t 48), none⟩])
   (.ret))
   (.skip)))
  (.seq (.region false [⟨(some 50), .ld (some 2) (.t 3), none⟩,
    ⟨(some 51), .ld (some 5) (.t 7), none⟩,
    ⟨(some 52), .idxP 2 1 (.t 5) (.c (.int .i64 1)), none⟩,
    ⟨(some 53), .ld none (.t 52), none⟩,
    ⟨(some 54), .call F_types_Raise [(.t 50), (.t 51), (.t 53)], none⟩,
    ⟨(some 49), .mov (.t 54), none⟩,
    ⟨(some 55), .extr (.t 49) 0, none⟩,
    ⟨(some 56), .extr (.t 49) 1, none⟩,
    ⟨(some 11), .alloc [.int .i64 0, .int .i64 0, .int .i64 0, .int .i64 0, .int .i64 0], none⟩,
    ⟨none, .st 5 (.t 11) (.t 55), none⟩,
    ⟨(some 8), .mov (.t 56), none⟩])
  (.seq (.region false [⟨(some 58), .ld (some 2) (.t 3), none⟩,
    ⟨(some 59), .idxP 2 1 (.t 5) (.c (.int .i64 0)), none⟩,
    ⟨(some 60), .ld none (.t 59), none⟩,
    ⟨(some 61), .idxP 2 1 (.t 5) (.c (.int .i64 1)), none⟩,
    ⟨(some 62), .ld none (.t 61), none⟩,
    ⟨(some 63), .call F_ref03_Join [(.t 58), (.t 60), (.t 62)], none⟩,
    ⟨(some 57), .mov (.t 63), none⟩,
    ⟨(some 64), .extr (.t 57) 0, none⟩,
    ⟨(some 65), .extr (.t 57) 1, none⟩,
    ⟨(some 12), .mov (.t 64), none⟩,
    ⟨(some 10), .mov (.t 65), none⟩])
  (.seq (.region false [⟨(some 67), .ld (some 2) (.t 3), none⟩,
    ⟨(some 68), .ld (some 5) (.t 4), none⟩,
    ⟨(some 69), .mov (.t 12), none⟩,
    ⟨(some 70), .call F_types_Raise [(.t 67), (.t 68), (.t 69)], none⟩,
    ⟨(some 66), .mov (.t 70), none⟩,
    ⟨(some 71), .extr (.t 66) 0, none⟩,
    ⟨(some 72), .extr (.t 66) 1, none⟩,
    ⟨(some 13), .alloc [.int .i64 0, .int .i64 0, .int .i64 0, .int .i64 0, .int .i64 0], none⟩,
    ⟨none, .st 5 (.t 13) (.t 71), none⟩,
    ⟨(some 14), .mov (.t 72), none⟩])
  (.seq (.region false [⟨(some 74), .ld (some 2) (.t 3), none⟩,
    ⟨(some 75), .ld (some 5) (.t 4), none⟩,
    ⟨(some 76), .ld (some 5) (.t 7), none⟩,
    ⟨(some 77), .call F_types_Within [(.t 74), (.t 75), (.t 76)], none⟩,
    ⟨(some 73), .mov (.t 77), none⟩,
    ⟨(some 78), .extr (.t 73) 0, none⟩,
    ⟨(some 79), .extr (.t 73) 1, none⟩,
    ⟨(some 15), .mov (.t 78), none⟩,
    ⟨(some 16), .mov (.t 79), none⟩])
  (.seq (.region false [⟨(some 81), .ld (some 2) (.t 3), none⟩,
    ⟨(some 82), .ld (some 5) (.t 9), none⟩,
    ⟨(some 83), .ld (some 5) (.t 11), none⟩,
    ⟨(some 84), .call F_types_Within [(.t 81), (.t 82), (.t 83)], none⟩,
    ⟨(some 80), .mov (.t 84), none⟩,
    ⟨(some 85), .extr (.t 80) 0, none⟩,
    ⟨(some 86), .extr (.t 80) 1, none⟩,
    ⟨(some 17), .mov (.t 85), none⟩,
    ⟨(some 18), .mov (.t 86), none⟩])
  (.seq (.region false [⟨(some 88), .ld (some 2) (.t 3), none⟩,
    ⟨(some 89), .call F_ref03_Bottom [(.t 88)], none⟩,
    ⟨(some 87), .mov (.t 89), none⟩,
    ⟨(some 90), .extr (.t 87) 0, none⟩,
    ⟨(some 91), .extr (.t 87) 1, none⟩,
    ⟨(some 19), .mov (.t 90), none⟩,
    ⟨(some 20), .mov (.t 91), none⟩])
  (.seq (.region false [⟨(some 93), .ld (some 2) (.t 3), none⟩,
    ⟨(some 94), .ld (some 5) (.t 4), none⟩,
    ⟨(some 95), .mov (.t 19), none⟩,
    ⟨(some 96), .call F_types_Raise [(.t 93), (.t 94), (.t 95)], none⟩,
    ⟨(some 92), .mov (.t 96), none⟩,
    ⟨(some 97), .extr (.t 92) 0, none⟩,
    ⟨(some 98), .extr (.t 92) 1, none⟩,
    ⟨(some 21), .alloc [.int .i64 0, .int .i64 0, .int .i64 0, .int .i64 0, .int .i64 0], none⟩,
    ⟨none, .st 5 (.t 21) (.t 97), none⟩,
    ⟨(some 22), .mov (.t 98), none⟩])
  (.seq (.region false [⟨(some 99), .mov (.t 8), none⟩,
    ⟨(some 100), .bin .eql (.t 99) (.c (.int .i64 0)), none⟩,
    ⟨(some 101), .mov (.t 100), none⟩,
    ⟨(some 102), .mov (.t 10), some (101, true)⟩,
    ⟨(some 103), .bin .eql (.t 102) (.c (.int .i64 0)), some (101, true)⟩,
    ⟨(some 104), .pick (.t 101) (.t 103) (.c (.bool false)), none⟩,
    ⟨(some 105), .mov (.t 104), none⟩,
    ⟨(some 106), .mov (.t 14), some (105, true)⟩,
    ⟨(some 107), .bin .eql (.t 106) (.c (.int .i64 0)), some (105, true)⟩,
    ⟨(some 108), .pick (.t 105) (.t 107) (.c (.bool false)), none⟩,
    ⟨(some 109), .mov (.t 108), none⟩,
    ⟨(some 110), .ld (some 5) (.t 11), some (109, true)⟩,
    ⟨(some 111), .ld (some 5) (.t 13), some (109, true)⟩,
    ⟨(some 112), .aeq false [0, 0, 0, 0, 0] (.t 110) (.t 111), some (109, true)⟩,
    ⟨(some 113), .pick (.t 109) (.t 112) (.c (.bool false)), none⟩,
    ⟨(some 114), .mov (.t 113), none⟩,
    ⟨(some 115), .mov (.t 16), some (114, true)⟩,
    ⟨(some 116), .bin .eql (.t 115) (.c (.int .i64 0)), some (114, true)⟩,
    ⟨(some 117), .pick (.t 114) (.t 116) (.c (.bool false)), none⟩,
    ⟨(some 118), .mov (.t 117), none⟩,
    ⟨(some 119), .mov (.t 15), some (118, true)⟩,
    ⟨(some 120), .pick (.t 118) (.t 119) (.c (.bool false)), none⟩,
    ⟨(some 121), .mov (.t 120), none⟩,
    ⟨(some 122), .mov (.t 18), some (121, true)⟩,
    ⟨(some 123), .bin .eql (.t 122) (.c (.int .i64 0)), some (121, true)⟩,
    ⟨(some 124), .pick (.t 121) (.t 123) (.c (.bool false)), none⟩,
    ⟨(some 125), .mov (.t 124), none⟩,
    ⟨(some 126), .mov (.t 17), some (125, true)⟩,
    ⟨(some 127), .pick (.t 125) (.t 126) (.c (.bool false)), none⟩,
    ⟨(some 128), .mov (.t 127), none⟩,
    ⟨(some 129), .ld (some 2) (.t 3), some (128, true)⟩,
    ⟨(some 130), .ld (some 5) (.t 7), some (128, true)⟩,
    ⟨(some 131), .call F_types_Check [(.t 129), (.t 130)], some (128, true)⟩,
    ⟨(some 132), .bin .eql (.t 131) (.c (.int .i64 0)), some (128, true)⟩,
    ⟨(some 133), .pick (.t 128) (.t 132) (.c (.bool false)), none⟩,
    ⟨(some 134), .mov (.t 133), none⟩,
    ⟨(some 135), .mov (.t 20), some (134, true)⟩,
    ⟨(some 136), .bin .eql (.t 135) (.c (.int .i64 0)), some (134, true)⟩,
    ⟨(some 137), .pick (.t 134) (.t 136) (.c (.bool false)), none⟩,
    ⟨(some 138), .mov (.t 137), none⟩,
    ⟨(some 139), .mov (.t 22), some (138, true)⟩,
    ⟨(some 140), .bin .eql (.t 139) (.c (.int .i64 0)), some (138, true)⟩,
    ⟨(some 141), .pick (.t 138) (.t 140) (.c (.bool false)), none⟩,
    ⟨(some 142), .mov (.t 141), none⟩,
    ⟨(some 143), .ld (some 5) (.t 21), some (142, true)⟩,
    ⟨(some 144), .ld (some 5) (.t 4), some (142, true)⟩,
    ⟨(some 145), .aeq false [0, 0, 0, 0, 0] (.t 143) (.t 144), some (142, true)⟩,
    ⟨(some 146), .pick (.t 142) (.t 145) (.c (.bool false)), none⟩,
    ⟨(some 147), .mov (.t 146), none⟩,
    ⟨(some 148), .call F_law20_shown [], some (147, true)⟩,
    ⟨(some 149), .pick (.t 147) (.t 148) (.c (.bool false)), none⟩,
    ⟨(some 6), .mov (.t 149), none⟩])
  (.ret))))))))))))),
  [.tmp 6]⟩

/- law20_TypesKnown -/
def A_law20_TypesKnown : AFun := ⟨2,
  .seq (.region false [⟨(some 0), .mov (.c (.bool false)), none⟩])
  (.seq (.region false [⟨(some 1), .call F_law20_shown [], none⟩,
    ⟨(some 0), .mov (.t 1), none⟩])
  (.ret)),
  [.tmp 0]⟩

/- law20_TypesChecks -/
def A_law20_TypesChecks : AFun := ⟨132,
  .seq (.region false [⟨(some 3), .box (.t 0), none⟩,
    ⟨(some 4), .box (.t 1), none⟩,
    ⟨(some 6), .mov (.c (.bool false)), none⟩])
  (.seq (.seq (.region false [⟨(some 17), .ld (some 2) (.t 3), none⟩,
    ⟨(some 18), .call F_law20_Large [(.t 17)], none⟩])
  (.cond (.t 18)
   (.seq (.region false [⟨(some 19), .call F_law20_shown [], none⟩,
     ⟨(some 6), .mov (.t 19), none⟩])
   (.ret))
   (.skip)))
  (.seq (.seq (.region true [⟨(some 20), .ld (some 2) (.t 3), none⟩,
    ⟨(some 21), .idxP 2 5 (.t 4) (.c (.int .i64 0)), none⟩,
    ⟨(some 22), .ld (some 5) (.t 21), none⟩,
    ⟨(some 23), .call F_types_Check [(.t 20), (.t 22)], none⟩,
    ⟨(some 24), .ld (some 2) (.t 3), none⟩,
    ⟨(some 25), .idxP 2 5 (.t 4) (.c (.int .i64 0)), none⟩,
    ⟨(some 26), .ld (some 5) (.t 25), none⟩,
    ⟨(some 27), .call F_ref20_Check [(.t 24), (.t 26)], none⟩,
    ⟨(some 28), .bin .neq (.t 23) (.t 27), none⟩])
  (.cond (.t 28)
   (.seq (.region false [⟨(some 6), .mov (.c (.bool false)), none⟩])
   (.ret))
   (.skip)))
  (.seq (.region false [⟨(some 30), .ld (some 2) (.t 3), none⟩,
    ⟨(some 31), .idxP 2 5 (.t 4) (.c (.int .i64 0)), none⟩,
    ⟨(some 32), .ld (some 5) (.t 31), none⟩,
    ⟨(some 33), .idxP 2 5 (.t 4) (.c (.int .i64 1)), none⟩,
    ⟨(some 34), .ld (some 5) (.t 33), none⟩,
    ⟨(some 35), .call F_types_Within [(.t 30), (.t 32), (.t 34)], none⟩,
    ⟨(some 29), .mov (.t 35), none⟩,
    ⟨(some 36), .extr (.t 29) 0, none⟩,
    ⟨(some 37), .extr (.t 29) 1, none⟩,
    ⟨(some 7), .mov (.t 36), none⟩,
    ⟨(some 8), .mov (.t 37), none⟩])
  (.seq (.region false [⟨(some 39), .ld (some 2) (.t 3), none⟩,
    ⟨(some 40), .idxP 2 5 (.t 4) (.c (.int .i64 0)), none⟩,
    ⟨(some 41), .ld (some 5) (.t 40), none⟩,
    ⟨(some 42), .idxP 2 5 (.t 4) (.c (.int .i64 1)), none⟩,
    ⟨(some 43), .ld (some 5) (.t 42), none⟩,
    ⟨(some 44), .call F_ref20_Within [(.t 39), (.t 41), (.t 43)], none⟩,
    ⟨(some 38), .mov (.t 44), none⟩,
    ⟨(some 45), .extr (.t 38) 0, none⟩,
    ⟨(some 46), .extr (.t 38) 1, none⟩,
    ⟨(some 9), .mov (.t 45), none⟩,
    ⟨(some 10), .mov (.t 46), none⟩])
  (.seq (.seq (.region false [⟨(some 47), .mov (.t 7), none⟩,
    ⟨(some 48), .mov (.t 9), none⟩,
    ⟨(some 49), .beq true (.t 47) (.t 48), none⟩,
    ⟨(some 50), .mov (.t 49), none⟩,
    ⟨(some 51), .mov (.t 8), some (50, false)⟩,
    ⟨(some 52), .mov (.t 10), some (50, false)⟩,
    ⟨(some 53), .bin .neq (.t 51) (.t 52), some (50, false)⟩,
    ⟨(some 54), .pick (.t 50) (.c (.bool true)) (.t 53), none⟩])
  (.cond (.t 54)
   (.seq (.region false [⟨(some 6), .mov (.c (.bool false)), none⟩])
   (.ret))
   (.skip)))
  (.seq (.region false [⟨(some 56), .ld (some 2) (.t 3), none⟩,
    ⟨(some 57), .idxP 2 5 (.t 4) (.c (.int .i64 0)), none⟩,
    ⟨(some 58), .ld (some 5) (.t 57), none⟩,
    ⟨(some 59), .idxP 2 5 (.t 4) (.c (.int .i64 1)), none⟩,
    ⟨(some 60), .ld (some 5) (.t 59), none⟩,
    ⟨(some 61), .call F_types_Join [(.t 56), (.t 58), (.t 60)], none⟩,
    ⟨(some 55), .mov (.t 61), none⟩,
    ⟨(some 62), .extr (.t 55) 0, none⟩,
    ⟨(some 63), .extr (.t 55) 1, none⟩,
    ⟨(some 11), .alloc [.int .i64 0, .int .i64 0, .int .i64 0, .int .i64 0, .int .i64 0], none⟩,
    ⟨none, .st 5 (.t 11) (.t 62), none⟩,
    ⟨(some 8), .mov (.t 63), none⟩])
  (.seq (.region false [⟨(some 65), .ld (some 2) (.t 3), none⟩,
    ⟨(some 66), .idxP 2 5 (.t 4) (.c (.int .i64 0)), none⟩,
    ⟨(some 67), .ld (some 5) (.t 66), none⟩,
    ⟨(some 68), .idxP 2 5 (.t 4) (.c (.int .i64 1)), none⟩,
    ⟨(some 69), .ld (some 5) (.t 68), none⟩,
    ⟨(some 70), .call F_ref20_Join [(.t 65), (.t 67), (.t 69)], none⟩,
    ⟨(some 64), .mov (.t 70), none⟩,
    ⟨(some 71), .extr (.t 64) 0, none⟩,
    ⟨(some 72), .extr (.t 64) 1, none⟩,
    ⟨(some 12), .alloc [.int .i64 0, .int .i64 0, .int .i64 0, .int .i64 0, .int .i64 0], none⟩,
    ⟨none, .st 5 (.t 12) (.t 71), none⟩,
    ⟨(some 10), .mov (.t 72), none⟩])
  (.seq (.seq (.region false [⟨(some 73), .ld (some 5) (.t 11), none⟩,
    ⟨(some 74), .ld (some 5) (.t 12), none⟩,
    ⟨(some 75), .aeq true [0, 0, 0, 0, 0] (.t 73) (.t 74), none⟩,
    ⟨(some 76), .mov (.t 75), none⟩,
    ⟨(some 77), .mov (.t 8), some (76, false)⟩,
    ⟨(some 78), .mov (.t 10), some (76, false)⟩,
    ⟨(some 79), .bin .neq (.t 77) (.t 78), some (76, false)⟩,
    ⟨(some 80), .pick (.t 76) (.c (.bool true)) (.t 79), none⟩])
  (.cond (.t 80)
   (.seq (.region false [⟨(some 6), .mov (.c (.bool false)), none⟩])
   (.ret))
   (.skip)))
  (.seq (.region false [⟨(some 82), .ld (some 2) (.t 3), none⟩,
    ⟨(some 83), .idxP 2 5 (.t 4) (.c (.int .i64 0)), none⟩,
    ⟨(some 84), .ld (some 5) (.t 83), none⟩,
    ⟨(some 85), .mov (.t 2), none⟩,
    ⟨(some 86), .call F_types_Raise [(.t 82), (.t 84), (.t 85)], none⟩,
    ⟨(some 81), .mov (.t 86), none⟩,
    ⟨(some 87), .extr (.t 81) 0, none⟩,
    ⟨(some 88), .extr (.t 81) 1, none⟩,
    ⟨none, .st 5 (.t 11) (.t 87), none⟩,
    ⟨(some 8), .mov (.t 88), none⟩])
  (.seq (.region false [⟨(some 90), .ld (some 2) (.t 3), none⟩,
    ⟨(some 91), .idxP 2 5 (.t 4) (.c (.int .i64 0)), none⟩,
    ⟨(some 92), .ld (some 5) (.t 91), none⟩,
    ⟨(some 93), .mov (.t 2), none⟩,
    ⟨(some 94), .call F_ref20_Raise [(.t 90), (.t 92), (.t 93)], none⟩,
    ⟨(some 89), .mov (.t 94), none⟩,
    ⟨(some 95), .extr (.t 89) 0, none⟩,
    ⟨(some 96), .extr (.t 89) 1, none⟩,
    ⟨none, .st 5 (.t 12) (.t 95), none⟩,
    ⟨(some 10), .mov (.t 96), none⟩])
  (.seq (.region false [⟨(some 98), .ld (some 2) (.t 3), none⟩,
    ⟨(some 99), .idxP 2 5 (.t 4) (.c (.int .i64 0)), none⟩,
    ⟨(some 100), .ld (some 5) (.t 99), none⟩,
    ⟨(some 101), .call F_types_Shape [(.t 98), (.t 100)], none⟩,
    ⟨(some 97), .mov (.t 101), none⟩,
    ⟨(some 102), .extr (.t 97) 0, none⟩,
    ⟨(some 103), .extr (.t 97) 1, none⟩,
    ⟨(some 13), .mov (.t 102), none⟩,
    ⟨(some 14), .mov (.t 103), none⟩])
  (.seq (.region false [⟨(some 105), .ld (some 2) (.t 3), none⟩,
    ⟨(some 106), .idxP 2 5 (.t 4) (.c (.int .i64 0)), none⟩,
    ⟨(some 107), .ld (some 5) (.t 106), none⟩,
    ⟨(some 108), .call F_ref20_Shape [(.t 105), (.t 107)], none⟩,
    ⟨(some 104), .mov (.t 108), none⟩,
    ⟨(some 109), .extr (.t 104) 0, none⟩,
    ⟨(some 110), .extr (.t 104) 1, none⟩,
    ⟨(some 15), .mov (.t 109), none⟩,
    ⟨(some 16), .mov (.t 110), none⟩])
  (.seq (.region false [⟨(some 111), .ld (some 5) (.t 11), none⟩,
    ⟨(some 112), .ld (some 5) (.t 12), none⟩,
    ⟨(some 113), .aeq false [0, 0, 0, 0, 0] (.t 111) (.t 112), none⟩,
    ⟨(some 114), .mov (.t 113), none⟩,
    ⟨(some 115), .mov (.t 8), some (114, true)⟩,
    ⟨(some 116), .mov (.t 10), some (114, true)⟩,
    ⟨(some 117), .bin .eql (.t 115) (.t 116), some (114, true)⟩,
    ⟨(some 118), .pick (.t 114) (.t 117) (.c (.bool false)), none⟩,
    ⟨(some 119), .mov (.t 118), none⟩,
    ⟨(some 120), .mov (.t 13), some (119, true)⟩,
    ⟨(some 121), .mov (.t 15), some (119, true)⟩,
    ⟨(some 122), .bin .eql (.t 120) (.t 121), some (119, true)⟩,
    ⟨(some 123), .pick (.t 119) (.t 122) (.c (.bool false)), none⟩,
    ⟨(some 124), .mov (.t 123), none⟩,
    ⟨(some 125), .mov (.t 14), some (124, true)⟩,
    ⟨(some 126), .mov (.t 16), some (124, true)⟩,
    ⟨(some 127), .bin .eql (.t 125) (.t 126), some (124, true)⟩,
    ⟨(some 128), .pick (.t 124) (.t 127) (.c (.bool false)), none⟩,
    ⟨(some 129), .mov (.t 128), none⟩,
    ⟨(some 130), .call F_law20_shown [], some (129, true)⟩,
    ⟨(some 131), .pick (.t 129) (.t 130) (.c (.bool false)), none⟩,
    ⟨(some 6), .mov (.t 131), none⟩])
  (.ret)))))))))))))),
  [.tmp 6]⟩

/- law20_TypesAgrees -/
def A_law20_TypesAgreesL1 : ACode :=
  .seq (.seq (.region false [⟨(some 217), .mov (.t 26), none⟩,
    ⟨(some 218), .fldA 0 (.t 4), none⟩,
    ⟨(some 219), .fldA 1 (.t 218), none⟩,
    ⟨(some 220), .ld none (.t 219), none⟩,
    ⟨(some 221), .bin .lss (.t 217) (.t 220), none⟩])
  (.cond (.t 221)
   (.skip)
   (.exit 2)))
  (.seq (.block 3 (.seq (.region false [⟨(some 224), .mov (.t 24), none⟩,
    ⟨(some 225), .mov (.t 224), none⟩,
    ⟨(some 226), .mov (.t 26), some (225, true)⟩,
    ⟨(some 227), .idxP 2 1 (.t 19) (.t 226), some (225, true)⟩,
    ⟨(some 228), .ld none (.t 227), some (225, true)⟩,
    ⟨(some 229), .pick (.t 225) (.t 228) (.c (.bool false)), none⟩,
    ⟨(some 230), .mov (.t 229), none⟩,
    ⟨(some 231), .mov (.t 26), some (230, true)⟩,
    ⟨(some 232), .idxP 2 1 (.t 15) (.t 231), some (230, true)⟩,
    ⟨(some 233), .ld none (.t 232), some (230, true)⟩,
    ⟨(some 234), .not (.t 233), some (230, true)⟩,
    ⟨(some 235), .pick (.t 230) (.t 234) (.c (.bool false)), none⟩,
    ⟨(some 236), .mov (.t 235), none⟩,
    ⟨(some 237), .mov (.t 20), some (236, false)⟩,
    ⟨(some 238), .mov (.t 237), some (236, false)⟩,
    ⟨(some 239), .mov (.t 26), some (238, true)⟩,
    ⟨(some 240), .idxP 2 1 (.t 19) (.t 239), some (238, true)⟩,
    ⟨(some 241), .ld none (.t 240), some (238, true)⟩,
    ⟨(some 242), .not (.t 241), some (238, true)⟩,
    ⟨(some 243), .pick (.t 238) (.t 242) (.c (.bool false)), some (236, false)⟩,
    ⟨(some 244), .pick (.t 236) (.c (.bool true)) (.t 243), none⟩])
  (.cond (.t 244)
   (.seq (.region false [⟨(some 6), .mov (.c (.bool false)), none⟩])
   (.ret))
   (.skip))))
  (.region false [⟨(some 222), .mov (.t 26), none⟩,
    ⟨(some 223), .bin .add (.t 222) (.c (.int .i64 1)), none⟩,
    ⟨(some 26), .mov (.t 223), none⟩]))
def A_law20_TypesAgreesL0 : ACode :=
  .seq (.seq (.region false [⟨(some 156), .mov (.t 18), none⟩,
    ⟨(some 157), .fldA 0 (.t 3), none⟩,
    ⟨(some 158), .ld none (.t 157), none⟩,
    ⟨(some 159), .len (.t 158), none⟩,
    ⟨(some 160), .bin .lss (.t 156) (.t 159), none⟩])
  (.cond (.t 160)
   (.skip)
   (.exit 0)))
  (.seq (.block 1 (.seq (.region false [⟨(some 164), .ld (some 2) (.t 3), none⟩,
    ⟨(some 165), .fldA 0 (.t 4), none⟩,
    ⟨(some 166), .ld (some 5) (.t 165), none⟩,
    ⟨(some 167), .mov (.t 18), none⟩,
    ⟨(some 168), .call F_types_Sees [(.t 164), (.t 166), (.t 167)], none⟩,
    ⟨(some 163), .mov (.t 168), none⟩,
    ⟨(some 169), .extr (.t 163) 0, none⟩,
    ⟨(some 170), .extr (.t 163) 1, none⟩,
    ⟨(some 171), .extr (.t 163) 2, none⟩,
    ⟨(some 19), .alloc [.bool false, .bool false], none⟩,
    ⟨none, .st 2 (.t 19) (.t 169), none⟩,
    ⟨(some 20), .mov (.t 170), none⟩,
    ⟨(some 21), .mov (.t 171), none⟩])
  (.seq (.region false [⟨(some 173), .ld (some 2) (.t 3), none⟩,
    ⟨(some 174), .fldA 0 (.t 4), none⟩,
    ⟨(some 175), .ld (some 5) (.t 174), none⟩,
    ⟨(some 176), .mov (.t 18), none⟩,
    ⟨(some 177), .idxP 3 5 (.t 5) (.c (.int .i64 0)), none⟩,
    ⟨(some 178), .ld (some 5) (.t 177), none⟩,
    ⟨(some 179), .idxP 3 5 (.t 5) (.c (.int .i64 1)), none⟩,
    ⟨(some 180), .ld (some 5) (.t 179), none⟩,
    ⟨(some 181), .call F_types_Agree [(.t 173), (.t 175), (.t 176), (.t 178), (.t 180)], none⟩,
    ⟨(some 172), .mov (.t 181), none⟩,
    ⟨(some 182), .extr (.t 172) 0, none⟩,
    ⟨(some 183), .extr (.t 172) 1, none⟩,
    ⟨(some 22), .mov (.t 182), none⟩,
    ⟨(some 23), .mov (.t 183), none⟩])
  (.seq (.region false [⟨(some 185), .ld (some 2) (.t 3), none⟩,
    ⟨(some 186), .mov (.t 18), none⟩,
    ⟨(some 187), .fldA 5 (.t 4), none⟩,
    ⟨(some 188), .ld none (.t 187), none⟩,
    ⟨(some 189), .call F_ref03_Leq [(.t 185), (.t 186), (.t 188)], none⟩,
    ⟨(some 184), .mov (.t 189), none⟩,
    ⟨(some 190), .extr (.t 184) 0, none⟩,
    ⟨(some 191), .extr (.t 184) 1, none⟩,
    ⟨(some 24), .mov (.t 190), none⟩,
    ⟨(some 25), .mov (.t 191), none⟩])
  (.seq (.seq (.region false [⟨(some 192), .mov (.t 21), none⟩,
    ⟨(some 193), .bin .neq (.t 192) (.c (.int .i64 0)), none⟩,
    ⟨(some 194), .mov (.t 193), none⟩,
    ⟨(some 195), .mov (.t 23), some (194, false)⟩,
    ⟨(some 196), .bin .neq (.t 195) (.c (.int .i64 0)), some (194, false)⟩,
    ⟨(some 197), .pick (.t 194) (.c (.bool true)) (.t 196), none⟩,
    ⟨(some 198), .mov (.t 197), none⟩,
    ⟨(some 199), .mov (.t 25), some (198, false)⟩,
    ⟨(some 200), .bin .neq (.t 199) (.c (.int .i64 0)), some (198, false)⟩,
    ⟨(some 201), .pick (.t 198) (.c (.bool true)) (.t 200), none⟩])
  (.cond (.t 201)
   (.seq (.region false [⟨(some 6), .mov (.c (.bool false)), none⟩])
   (.ret))
   (.skip)))
  (.seq (.seq (.region false [⟨(some 202), .mov (.t 24), none⟩,
    ⟨(some 203), .mov (.t 202), none⟩,
    ⟨(some 204), .mov (.t 20), some (203, true)⟩,
    ⟨(some 205), .mov (.t 204), some (203, true)⟩,
    ⟨(some 206), .mov (.t 16), some (205, true)⟩,
    ⟨(some 207), .not (.t 206), some (205, true)⟩,
    ⟨(some 208), .pick (.t 205) (.t 207) (.c (.bool false)), some (203, true)⟩,
    ⟨(some 209), .mov (.t 208), some (203, true)⟩,
    ⟨(some 210), .mov (.t 7), some (209, false)⟩,
    ⟨(some 211), .mov (.t 210), some (209, false)⟩,
    ⟨(some 212), .mov (.t 22), some (211, true)⟩,
    ⟨(some 213), .not (.t 212), some (211, true)⟩,
    ⟨(some 214), .pick (.t 211) (.t 213) (.c (.bool false)), some (209, false)⟩,
    ⟨(some 215), .pick (.t 209) (.c (.bool true)) (.t 214), some (203, true)⟩,
    ⟨(some 216), .pick (.t 203) (.t 215) (.c (.bool false)), none⟩])
  (.cond (.t 216)
   (.seq (.region false [⟨(some 6), .mov (.c (.bool false)), none⟩])
   (.ret))
   (.skip)))
  (.seq (.region false [⟨(some 26), .mov (.c (.int .i64 0)), none⟩])
  (.block 2 (.loop A_law20_TypesAgreesL1)))))))))
  (.region false [⟨(some 161), .mov (.t 18), none⟩,
    ⟨(some 162), .bin .add (.t 161) (.c (.int .i64 1)), none⟩,
    ⟨(some 18), .mov (.t 162), none⟩]))
def A_law20_TypesAgrees : AFun := ⟨246,
  .seq (.region false [⟨(some 3), .box (.t 0), none⟩,
    ⟨(some 4), .box (.t 1), none⟩,
    ⟨(some 5), .box (.t 2), none⟩,
    ⟨(some 6), .mov (.c (.bool false)), none⟩])
  (.seq (.seq (.region false [⟨(some 27), .ld (some 2) (.t 3), none⟩,
    ⟨(some 28), .call F_law20_Large [(.t 27)], none⟩,
    ⟨(some 29), .mov (.t 28), none⟩,
    ⟨(some 30), .idxP 3 5 (.t 5) (.c (.int .i64 0)), some (29, false)⟩,
    ⟨(some 31), .ld (some 5) (.t 30), some (29, false)⟩,
    ⟨(some 32), .call F_law20_big [(.t 31)], some (29, false)⟩,
    ⟨(some 33), .pick (.t 29) (.c (.bool true)) (.t 32), none⟩,
    ⟨(some 34), .mov (.t 33), none⟩,
    ⟨(some 35), .idxP 3 5 (.t 5) (.c (.int .i64 1)), some (34, false)⟩,
    ⟨(some 36), .ld (some 5) (.t 35), some (34, false)⟩,
    ⟨(some 37), .call F_law20_big [(.t 36)], some (34, false)⟩,
    ⟨(some 38), .pick (.t 34) (.c (.bool true)) (.t 37), none⟩,
    ⟨(some 39), .mov (.t 38), none⟩,
    ⟨(some 40), .idxP 3 5 (.t 5) (.c (.int .i64 2)), some (39, false)⟩,
    ⟨(some 41), .ld (some 5) (.t 40), some (39, false)⟩,
    ⟨(some 42), .call F_law20_big [(.t 41)], some (39, false)⟩,
    ⟨(some 43), .pick (.t 39) (.c (.bool true)) (.t 42), none⟩])
  (.cond (.t 43)
   (.seq (.region false [⟨(some 44), .call F_law20_shown [], none⟩,
     ⟨(some 6), .mov (.t 44), none⟩])
   (.ret))
   (.skip)))
  (.seq (.region false [⟨(some 46), .ld (some 2) (.t 3), none⟩,
    ⟨(some 47), .fldA 0 (.t 4), none⟩,
    ⟨(some 48), .ld (some 5) (.t 47), none⟩,
    ⟨(some 49), .fldA 5 (.t 4), none⟩,
    ⟨(some 50), .ld none (.t 49), none⟩,
    ⟨(some 51), .idxP 3 5 (.t 5) (.c (.int .i64 0)), none⟩,
    ⟨(some 52), .ld (some 5) (.t 51), none⟩,
    ⟨(some 53), .idxP 3 5 (.t 5) (.c (.int .i64 1)), none⟩,
    ⟨(some 54), .ld (some 5) (.t 53), none⟩,
    ⟨(some 55), .call F_types_Agree [(.t 46), (.t 48), (.t 50), (.t 52), (.t 54)], none⟩,
    ⟨(some 45), .mov (.t 55), none⟩,
    ⟨(some 56), .extr (.t 45) 0, none⟩,
    ⟨(some 57), .extr (.t 45) 1, none⟩,
    ⟨(some 7), .mov (.t 56), none⟩,
    ⟨(some 8), .mov (.t 57), none⟩])
  (.seq (.region false [⟨(some 59), .ld (some 2) (.t 3), none⟩,
    ⟨(some 60), .fldA 0 (.t 4), none⟩,
    ⟨(some 61), .ld (some 5) (.t 60), none⟩,
    ⟨(some 62), .fldA 5 (.t 4), none⟩,
    ⟨(some 63), .ld none (.t 62), none⟩,
    ⟨(some 64), .idxP 3 5 (.t 5) (.c (.int .i64 1)), none⟩,
    ⟨(some 65), .ld (some 5) (.t 64), none⟩,
    ⟨(some 66), .idxP 3 5 (.t 5) (.c (.int .i64 2)), none⟩,
    ⟨(some 67), .ld (some 5) (.t 66), none⟩,
    ⟨(some 68), .call F_types_Agree [(.t 59), (.t 61), (.t 63), (.t 65), (.t 67)], none⟩,
    ⟨(some 58), .mov (.t 68), none⟩,
    ⟨(some 69), .extr (.t 58) 0, none⟩,
    ⟨(some 70), .extr (.t 58) 1, none⟩,
    ⟨(some 9), .mov (.t 69), none⟩,
    ⟨(some 10), .mov (.t 70), none⟩])
  (.seq (.seq (.region false [⟨(some 71), .mov (.t 8), none⟩,
    ⟨(some 72), .bin .neq (.t 71) (.c (.int .i64 0)), none⟩,
    ⟨(some 73), .mov (.t 72), none⟩,
    ⟨(some 74), .mov (.t 10), some (73, false)⟩,
    ⟨(some 75), .bin .neq (.t 74) (.c (.int .i64 0)), some (73, false)⟩,
    ⟨(some 76), .pick (.t 73) (.c (.bool true)) (.t 75), none⟩])
  (.cond (.t 76)
   (.seq (.region false [⟨(some 77), .call F_law20_shown [], none⟩,
     ⟨(some 6), .mov (.t 77), none⟩])
   (.ret))
   (.skip)))
  (.seq (.region false [⟨(some 79), .ld (some 2) (.t 3), none⟩,
    ⟨(some 80), .fldA 0 (.t 4), none⟩,
    ⟨(some 81), .ld (some 5) (.t 80), none⟩,
    ⟨(some 82), .fldA 5 (.t 4), none⟩,
    ⟨(some 83), .ld none (.t 82), none⟩,
    ⟨(some 84), .idxP 3 5 (.t 5) (.c (.int .i64 0)), none⟩,
    ⟨(some 85), .ld (some 5) (.t 84), none⟩,
    ⟨(some 86), .idxP 3 5 (.t 5) (.c (.int .i64 2)), none⟩,
    ⟨(some 87), .ld (some 5) (.t 86), none⟩,
    ⟨(some 88), .call F_types_Agree [(.t 79), (.t 81), (.t 83), (.t 85), (.t 87)], none⟩,
    ⟨(some 78), .mov (.t 88), none⟩,
    ⟨(some 89), .extr (.t 78) 0, none⟩,
    ⟨(some 90), .extr (.t 78) 1, none⟩,
    ⟨(some 11), .mov (.t 89), none⟩,
    ⟨(some 8), .mov (.t 90), none⟩])
  (.seq (.region false [⟨(some 92), .ld (some 2) (.t 3), none⟩,
    ⟨(some 93), .fldA 0 (.t 4), none⟩,
    ⟨(some 94), .ld (some 5) (.t 93), none⟩,
    ⟨(some 95), .fldA 5 (.t 4), none⟩,
    ⟨(some 96), .ld none (.t 95), none⟩,
    ⟨(some 97), .idxP 3 5 (.t 5) (.c (.int .i64 1)), none⟩,
    ⟨(some 98), .ld (some 5) (.t 97), none⟩,
    ⟨(some 99), .idxP 3 5 (.t 5) (.c (.int .i64 0)), none⟩,
    ⟨(some 100), .ld (some 5) (.t 99), none⟩,
    ⟨(some 101), .call F_types_Agree [(.t 92), (.t 94), (.t 96), (.t 98), (.t 100)], none⟩,
    ⟨(some 91), .mov (.t 101), none⟩,
    ⟨(some 102), .extr (.t 91) 0, none⟩,
    ⟨(some 103), .extr (.t 91) 1, none⟩,
    ⟨(some 12), .mov (.t 102), none⟩,
    ⟨(some 10), .mov (.t 103), none⟩])
  (.seq (.region false [⟨(some 105), .ld (some 2) (.t 3), none⟩,
    ⟨(some 106), .fldA 0 (.t 4), none⟩,
    ⟨(some 107), .ld (some 5) (.t 106), none⟩,
    ⟨(some 108), .fldA 5 (.t 4), none⟩,
    ⟨(some 109), .ld none (.t 108), none⟩,
    ⟨(some 110), .idxP 3 5 (.t 5) (.c (.int .i64 0)), none⟩,
    ⟨(some 111), .ld (some 5) (.t 110), none⟩,
    ⟨(some 112), .idxP 3 5 (.t 5) (.c (.int .i64 0)), none⟩,
    ⟨(some 113), .ld (some 5) (.t 112), none⟩,
    ⟨(some 114), .call F_types_Agree [(.t 105), (.t 107), (.t 109), (.t 111), (.t 113)], none⟩,
    ⟨(some 104), .mov (.t 114), none⟩,
    ⟨(some 115), .extr (.t 104) 0, none⟩,
    ⟨(some 116), .extr (.t 104) 1, none⟩,
    ⟨(some 13), .mov (.t 115), none⟩,
    ⟨(some 14), .mov (.t 116), none⟩])
  (.seq (.seq (.region false [⟨(some 117), .mov (.t 8), none⟩,
    ⟨(some 118), .bin .neq (.t 117) (.c (.int .i64 0)), none⟩,
    ⟨(some 119), .mov (.t 118), none⟩,
    ⟨(some 120), .mov (.t 10), some (119, false)⟩,
    ⟨(some 121), .bin .neq (.t 120) (.c (.int .i64 0)), some (119, false)⟩,
    ⟨(some 122), .pick (.t 119) (.c (.bool true)) (.t 121), none⟩,
    ⟨(some 123), .mov (.t 122), none⟩,
    ⟨(some 124), .mov (.t 14), some (123, false)⟩,
    ⟨(some 125), .bin .neq (.t 124) (.c (.int .i64 0)), some (123, false)⟩,
    ⟨(some 126), .pick (.t 123) (.c (.bool true)) (.t 125), none⟩,
    ⟨(some 127), .mov (.t 126), none⟩,
    ⟨(some 128), .mov (.t 13), some (127, false)⟩,
    ⟨(some 129), .not (.t 128), some (127, false)⟩,
    ⟨(some 130), .pick (.t 127) (.c (.bool true)) (.t 129), none⟩,
    ⟨(some 131), .mov (.t 130), none⟩,
    ⟨(some 132), .mov (.t 7), some (131, false)⟩,
    ⟨(some 133), .mov (.t 12), some (131, false)⟩,
    ⟨(some 134), .beq true (.t 132) (.t 133), some (131, false)⟩,
    ⟨(some 135), .pick (.t 131) (.c (.bool true)) (.t 134), none⟩,
    ⟨(some 136), .mov (.t 135), none⟩,
    ⟨(some 137), .mov (.t 7), some (136, false)⟩,
    ⟨(some 138), .mov (.t 137), some (136, false)⟩,
    ⟨(some 139), .mov (.t 9), some (138, true)⟩,
    ⟨(some 140), .pick (.t 138) (.t 139) (.c (.bool false)), some (136, false)⟩,
    ⟨(some 141), .mov (.t 140), some (136, false)⟩,
    ⟨(some 142), .mov (.t 11), some (141, true)⟩,
    ⟨(some 143), .not (.t 142), some (141, true)⟩,
    ⟨(some 144), .pick (.t 141) (.t 143) (.c (.bool false)), some (136, false)⟩,
    ⟨(some 145), .pick (.t 136) (.c (.bool true)) (.t 144), none⟩])
  (.cond (.t 145)
   (.seq (.region false [⟨(some 6), .mov (.c (.bool false)), none⟩])
   (.ret))
   (.skip)))
  (.seq (.region false [⟨(some 147), .ld (some 2) (.t 3), none⟩,
    ⟨(some 148), .fldA 0 (.t 4), none⟩,
    ⟨(some 149), .ld (some 5) (.t 148), none⟩,
    ⟨(some 150), .fldA 5 (.t 4), none⟩,
    ⟨(some 151), .ld none (.t 150), none⟩,
    ⟨(some 152), .call F_types_Sees [(.t 147), (.t 149), (.t 151)], none⟩,
    ⟨(some 146), .mov (.t 152), none⟩,
    ⟨(some 153), .extr (.t 146) 0, none⟩,
    ⟨(some 154), .extr (.t 146) 1, none⟩,
    ⟨(some 155), .extr (.t 146) 2, none⟩,
    ⟨(some 15), .alloc [.bool false, .bool false], none⟩,
    ⟨none, .st 2 (.t 15) (.t 153), none⟩,
    ⟨(some 16), .mov (.t 154), none⟩,
    ⟨(some 17), .mov (.t 155), none⟩])
  (.seq (.seq (.region false [⟨(some 18), .mov (.c (.int .i64 0)), none⟩])
  (.block 0 (.loop A_law20_TypesAgreesL0)))
  (.seq (.region false [⟨(some 245), .call F_law20_shown [], none⟩,
    ⟨(some 6), .mov (.t 245), none⟩])
  (.ret)))))))))))),
  [.tmp 6]⟩

/- law20_Large -/
def A_law20_LargeL0 : ACode :=
  .seq (.seq (.region false [⟨(some 4), .mov (.t 3), none⟩,
    ⟨(some 5), .fldA 0 (.t 1), none⟩,
    ⟨(some 6), .ld none (.t 5), none⟩,
    ⟨(some 7), .len (.t 6), none⟩,
    ⟨(some 8), .bin .lss (.t 4) (.t 7), none⟩,
    ⟨(some 9), .mov (.t 8), none⟩,
    ⟨(some 10), .mov (.t 3), some (9, true)⟩,
    ⟨(some 11), .bin .lss (.t 10) (.c (.int .i64 30)), some (9, true)⟩,
    ⟨(some 12), .pick (.t 9) (.t 11) (.c (.bool false)), none⟩])
  (.cond (.t 12)
   (.skip)
   (.exit 0)))
  (.seq (.block 1 (.seq (.region false [⟨(some 15), .fldA 0 (.t 1), none⟩,
    ⟨(some 16), .ld none (.t 15), none⟩,
    ⟨(some 17), .mov (.t 3), none⟩,
    ⟨(some 18), .idxA 1 (.t 16) (.t 17), none⟩,
    ⟨(some 19), .ld none (.t 18), none⟩,
    ⟨(some 20), .lenS (.t 19), none⟩,
    ⟨(some 21), .bin .gtr (.t 20) (.c (.int .i64 50)), none⟩])
  (.cond (.t 21)
   (.seq (.region false [⟨(some 2), .mov (.c (.bool true)), none⟩])
   (.ret))
   (.skip))))
  (.region false [⟨(some 13), .mov (.t 3), none⟩,
    ⟨(some 14), .bin .add (.t 13) (.c (.int .i64 1)), none⟩,
    ⟨(some 3), .mov (.t 14), none⟩]))
def A_law20_Large : AFun := ⟨32,
  .seq (.region false [⟨(some 1), .box (.t 0), none⟩,
    ⟨(some 2), .mov (.c (.bool false)), none⟩])
  (.seq (.seq (.region false [⟨(some 3), .mov (.c (.int .i64 0)), none⟩])
  (.block 0 (.loop A_law20_LargeL0)))
  (.seq (.region false [⟨(some 22), .fldA 0 (.t 1), none⟩,
    ⟨(some 23), .ld none (.t 22), none⟩,
    ⟨(some 24), .len (.t 23), none⟩,
    ⟨(some 25), .bin .gtr (.t 24) (.c (.int .i64 20)), none⟩,
    ⟨(some 26), .mov (.t 25), none⟩,
    ⟨(some 27), .fldA 1 (.t 1), some (26, false)⟩,
    ⟨(some 28), .ld none (.t 27), some (26, false)⟩,
    ⟨(some 29), .len (.t 28), some (26, false)⟩,
    ⟨(some 30), .bin .gtr (.t 29) (.c (.int .i64 20)), some (26, false)⟩,
    ⟨(some 31), .pick (.t 26) (.c (.bool true)) (.t 30), none⟩,
    ⟨(some 2), .mov (.t 31), none⟩])
  (.ret))),
  [.tmp 2]⟩

/- law20_shown -/
def A_law20_shown : AFun := ⟨81,
  .seq (.region false [⟨(some 0), .mov (.c (.bool false)), none⟩])
  (.seq (.region false [⟨(some 12), .call F_law20_Line [], none⟩,
    ⟨(some 13), .call F_law20_vector [(.c (.int .i64 1)), (.c (.int .i64 2))], none⟩,
    ⟨(some 1), .alloc [.sl .ex [], .sl .ex []], none⟩,
    ⟨(some 2), .alloc [.int .i64 0, .int .i64 0, .int .i64 0, .int .i64 0, .int .i64 0], none⟩,
    ⟨none, .st 2 (.t 1) (.t 12), none⟩,
    ⟨none, .st 5 (.t 2) (.t 13), none⟩])
  (.seq (.region true [⟨(some 15), .ld (some 2) (.t 1), none⟩,
    ⟨(some 16), .call F_law20_vector [(.c (.int .i64 0)), (.c (.int .i64 2))], none⟩,
    ⟨(some 17), .ld (some 5) (.t 2), none⟩,
    ⟨(some 18), .call F_types_Within [(.t 15), (.t 16), (.t 17)], none⟩,
    ⟨(some 14), .mov (.t 18), none⟩,
    ⟨(some 19), .extr (.t 14) 0, none⟩,
    ⟨(some 20), .extr (.t 14) 1, none⟩,
    ⟨(some 3), .mov (.t 19), none⟩,
    ⟨(some 4), .mov (.t 20), none⟩])
  (.seq (.region false [⟨(some 22), .ld (some 2) (.t 1), none⟩,
    ⟨(some 23), .ld (some 5) (.t 2), none⟩,
    ⟨(some 24), .call F_types_Raise [(.t 22), (.t 23), (.c (.int .i64 2))], none⟩,
    ⟨(some 21), .mov (.t 24), none⟩,
    ⟨(some 25), .extr (.t 21) 0, none⟩,
    ⟨(some 26), .extr (.t 21) 1, none⟩,
    ⟨(some 5), .alloc [.int .i64 0, .int .i64 0, .int .i64 0, .int .i64 0, .int .i64 0], none⟩,
    ⟨none, .st 5 (.t 5) (.t 25), none⟩,
    ⟨(some 6), .mov (.t 26), none⟩])
  (.seq (.region false [⟨(some 28), .ld (some 2) (.t 1), none⟩,
    ⟨(some 29), .ld (some 5) (.t 2), none⟩,
    ⟨(some 30), .call F_types_Sees [(.t 28), (.t 29), (.c (.int .i64 1))], none⟩,
    ⟨(some 27), .mov (.t 30), none⟩,
    ⟨(some 31), .extr (.t 27) 0, none⟩,
    ⟨(some 32), .extr (.t 27) 1, none⟩,
    ⟨(some 33), .extr (.t 27) 2, none⟩,
    ⟨(some 7), .alloc [.bool false, .bool false], none⟩,
    ⟨none, .st 2 (.t 7) (.t 31), none⟩,
    ⟨(some 8), .mov (.t 32), none⟩,
    ⟨(some 9), .mov (.t 33), none⟩])
  (.seq (.region false [⟨(some 35), .ld (some 2) (.t 1), none⟩,
    ⟨(some 36), .ld (some 5) (.t 2), none⟩,
    ⟨(some 37), .call F_types_Print [(.t 35), (.t 36)], none⟩,
    ⟨(some 34), .mov (.t 37), none⟩,
    ⟨(some 38), .extr (.t 34) 0, none⟩,
    ⟨(some 39), .extr (.t 34) 1, none⟩,
    ⟨(some 10), .mov (.t 38), none⟩,
    ⟨(some 11), .mov (.t 39), none⟩])
  (.seq (.region true [⟨(some 40), .ld (some 2) (.t 1), none⟩,
    ⟨(some 41), .call F_law20_vector [(.c (.int .i64 2)), (.c (.int .i64 0))], none⟩,
    ⟨(some 42), .call F_types_Check [(.t 40), (.t 41)], none⟩,
    ⟨(some 43), .bin .eql (.t 42) (.c (.int .i64 25)), none⟩,
    ⟨(some 44), .mov (.t 43), none⟩,
    ⟨(some 45), .mov (.t 3), some (44, true)⟩,
    ⟨(some 46), .pick (.t 44) (.t 45) (.c (.bool false)), none⟩,
    ⟨(some 47), .mov (.t 46), none⟩,
    ⟨(some 48), .mov (.t 4), some (47, true)⟩,
    ⟨(some 49), .bin .eql (.t 48) (.c (.int .i64 0)), some (47, true)⟩,
    ⟨(some 50), .pick (.t 47) (.t 49) (.c (.bool false)), none⟩,
    ⟨(some 51), .mov (.t 50), none⟩,
    ⟨(some 52), .ld (some 5) (.t 5), some (51, true)⟩,
    ⟨(some 53), .call F_law20_vector [(.c (.int .i64 2)), (.c (.int .i64 2))], some (51, true)⟩,
    ⟨(some 54), .aeq false [0, 0, 0, 0, 0] (.t 52) (.t 53), some (51, true)⟩,
    ⟨(some 55), .pick (.t 51) (.t 54) (.c (.bool false)), none⟩,
    ⟨(some 56), .mov (.t 55), none⟩,
    ⟨(some 57), .mov (.t 6), some (56, true)⟩,
    ⟨(some 58), .bin .eql (.t 57) (.c (.int .i64 0)), some (56, true)⟩,
    ⟨(some 59), .pick (.t 56) (.t 58) (.c (.bool false)), none⟩,
    ⟨(some 60), .mov (.t 59), none⟩,
    ⟨(some 61), .ld (some 2) (.t 7), some (60, true)⟩,
    ⟨(some 62), .build [.bool false, .bool false] [(0, 1, (.c (.bool true))), (1, 1, (.c (.bool false)))], some (60, true)⟩,
    ⟨(some 63), .aeq false [1, 1] (.t 61) (.t 62), some (60, true)⟩,
    ⟨(some 64), .pick (.t 60) (.t 63) (.c (.bool false)), none⟩,
    ⟨(some 65), .mov (.t 64), none⟩,
    ⟨(some 66), .mov (.t 8), some (65, true)⟩,
    ⟨(some 67), .not (.t 66), some (65, true)⟩,
    ⟨(some 68), .pick (.t 65) (.t 67) (.c (.bool false)), none⟩,
    ⟨(some 69), .mov (.t 68), none⟩,
    ⟨(some 70), .mov (.t 9), some (69, true)⟩,
    ⟨(some 71), .bin .eql (.t 70) (.c (.int .i64 0)), some (69, true)⟩,
    ⟨(some 72), .pick (.t 69) (.t 71) (.c (.bool false)), none⟩,
    ⟨(some 73), .mov (.t 72), none⟩,
    ⟨(some 74), .mov (.t 10), some (73, true)⟩,
    ⟨(some 75), .bin .eql (.t 74) (.c (.str [105, 110, 116, 32, 49, 32, 115, 116, 97, 102, 102, 32, 104, 105, 103, 104])), some (73, true)⟩,
    ⟨(some 76), .pick (.t 73) (.t 75) (.c (.bool false)), none⟩,
    ⟨(some 77), .mov (.t 76), none⟩,
    ⟨(some 78), .mov (.t 11), some (77, true)⟩,
    ⟨(some 79), .bin .eql (.t 78) (.c (.int .i64 0)), some (77, true)⟩,
    ⟨(some 80), .pick (.t 77) (.t 79) (.c (.bool false)), none⟩,
    ⟨(some 0), .mov (.t 80), none⟩])
  (.ret))))))),
  [.tmp 0]⟩

/- types_Within -/
def A_types_Within : AFun := ⟨23,
  .seq (.region false [⟨(some 3), .box (.t 0), none⟩,
    ⟨(some 4), .box (.t 1), none⟩,
    ⟨(some 5), .box (.t 2), none⟩,
    ⟨(some 6), .mov (.c (.bool false)), none⟩,
    ⟨(some 7), .mov (.c (.int .i64 0)), none⟩])
  (.seq (.region false [⟨(some 11), .ld (some 2) (.t 3), none⟩,
    ⟨(some 12), .ld (some 5) (.t 4), none⟩,
    ⟨(some 13), .ld (some 5) (.t 5), none⟩,
    ⟨(some 14), .call F_types_Join [(.t 11), (.t 12), (.t 13)], none⟩,
    ⟨(some 10), .mov (.t 14), none⟩,
    ⟨(some 15), .extr (.t 10) 0, none⟩,
    ⟨(some 16), .extr (.t 10) 1, none⟩,
    ⟨(some 8), .alloc [.int .i64 0, .int .i64 0, .int .i64 0, .int .i64 0, .int .i64 0], none⟩,
    ⟨none, .st 5 (.t 8) (.t 15), none⟩,
    ⟨(some 9), .mov (.t 16), none⟩])
  (.seq (.seq (.region false [⟨(some 17), .mov (.t 9), none⟩,
    ⟨(some 18), .bin .neq (.t 17) (.c (.int .i64 0)), none⟩])
  (.cond (.t 18)
   (.seq (.region false [⟨(some 19), .mov (.t 9), none⟩,
     ⟨(some 6), .mov (.c (.bool false)), none⟩,
     ⟨(some 7), .mov (.t 19), none⟩])
   (.ret))
   (.skip)))
  (.seq (.region false [⟨(some 20), .ld (some 5) (.t 8), none⟩,
    ⟨(some 21), .ld (some 5) (.t 5), none⟩,
    ⟨(some 22), .aeq false [0, 0, 0, 0, 0] (.t 20) (.t 21), none⟩,
    ⟨(some 6), .mov (.t 22), none⟩,
    ⟨(some 7), .mov (.c (.int .i64 0)), none⟩])
  (.ret)))),
  [.tmp 6, .tmp 7]⟩

/- types_Join -/
def A_types_Join : AFun := ⟨47,
  .seq (.region false [⟨(some 3), .box (.t 0), none⟩,
    ⟨(some 4), .box (.t 1), none⟩,
    ⟨(some 5), .box (.t 2), none⟩,
    ⟨(some 6), .alloc [.int .i64 0, .int .i64 0, .int .i64 0, .int .i64 0, .int .i64 0], none⟩,
    ⟨(some 7), .mov (.c (.int .i64 0)), none⟩])
  (.seq (.region false [⟨(some 11), .ld (some 2) (.t 3), none⟩,
    ⟨(some 12), .ld (some 5) (.t 4), none⟩,
    ⟨(some 13), .ld (some 5) (.t 5), none⟩,
    ⟨(some 14), .call F_types_both [(.t 11), (.t 12), (.t 13)], none⟩,
    ⟨(some 10), .mov (.t 14), none⟩,
    ⟨(some 15), .extr (.t 10) 0, none⟩,
    ⟨(some 16), .extr (.t 10) 1, none⟩,
    ⟨(some 8), .alloc [.sl .ex [], .sl .ex [], .int .i64 0], none⟩,
    ⟨none, .st 3 (.t 8) (.t 15), none⟩,
    ⟨(some 9), .mov (.t 16), none⟩])
  (.seq (.seq (.region false [⟨(some 17), .mov (.t 9), none⟩,
    ⟨(some 18), .bin .neq (.t 17) (.c (.int .i64 0)), none⟩])
  (.cond (.t 18)
   (.seq (.region false [⟨(some 19), .build [.int .i64 0, .int .i64 0, .int .i64 0, .int .i64 0, .int .i64 0] [], none⟩,
     ⟨(some 20), .mov (.t 9), none⟩,
     ⟨none, .st 5 (.t 6) (.t 19), none⟩,
     ⟨(some 7), .mov (.t 20), none⟩])
   (.ret))
   (.skip)))
  (.seq (.region true [⟨(some 21), .ld (some 3) (.t 8), none⟩,
    ⟨(some 22), .fldA 2 (.t 4), none⟩,
    ⟨(some 23), .idxP 2 1 (.t 22) (.c (.int .i64 0)), none⟩,
    ⟨(some 24), .ld none (.t 23), none⟩,
    ⟨(some 25), .fldA 2 (.t 5), none⟩,
    ⟨(some 26), .idxP 2 1 (.t 25) (.c (.int .i64 0)), none⟩,
    ⟨(some 27), .ld none (.t 26), none⟩,
    ⟨(some 28), .call F_types_order_join [(.t 21), (.t 24), (.t 27)], none⟩,
    ⟨(some 29), .ld (some 3) (.t 8), none⟩,
    ⟨(some 30), .fldA 2 (.t 4), none⟩,
    ⟨(some 31), .idxP 2 1 (.t 30) (.c (.int .i64 1)), none⟩,
    ⟨(some 32), .ld none (.t 31), none⟩,
    ⟨(some 33), .fldA 2 (.t 5), none⟩,
    ⟨(some 34), .idxP 2 1 (.t 33) (.c (.int .i64 1)), none⟩,
    ⟨(some 35), .ld none (.t 34), none⟩,
    ⟨(some 36), .call F_types_order_join [(.t 29), (.t 32), (.t 35)], none⟩,
    ⟨(some 37), .build [.int .i64 0, .int .i64 0] [(0, 1, (.t 28)), (1, 1, (.t 36))], none⟩,
    ⟨(some 38), .fldA 2 (.t 4), none⟩,
    ⟨none, .st 2 (.t 38) (.t 37), none⟩])
  (.seq (.region false [⟨(some 39), .ld (some 3) (.t 8), none⟩,
    ⟨(some 40), .fldA 4 (.t 4), none⟩,
    ⟨(some 41), .ld none (.t 40), none⟩,
    ⟨(some 42), .fldA 4 (.t 5), none⟩,
    ⟨(some 43), .ld none (.t 42), none⟩,
    ⟨(some 44), .call F_types_order_join [(.t 39), (.t 41), (.t 43)], none⟩,
    ⟨(some 45), .fldA 4 (.t 4), none⟩,
    ⟨none, .st 1 (.t 45) (.t 44), none⟩])
  (.seq (.region false [⟨(some 46), .ld (some 5) (.t 4), none⟩,
    ⟨none, .st 5 (.t 6) (.t 46), none⟩,
    ⟨(some 7), .mov (.c (.int .i64 0)), none⟩])
  (.ret)))))),
  [.cell (some 5) 6, .tmp 7]⟩

/- types_Check -/
def A_types_Check : AFun := ⟨18,
  .seq (.region false [⟨(some 2), .box (.t 0), none⟩,
    ⟨(some 3), .box (.t 1), none⟩,
    ⟨(some 4), .mov (.c (.int .i64 0)), none⟩])
  (.seq (.region false [⟨(some 8), .ld (some 2) (.t 2), none⟩,
    ⟨(some 9), .call F_types_of [(.t 8)], none⟩,
    ⟨(some 7), .mov (.t 9), none⟩,
    ⟨(some 10), .extr (.t 7) 0, none⟩,
    ⟨(some 11), .extr (.t 7) 1, none⟩,
    ⟨(some 5), .alloc [.sl .ex [], .sl .ex [], .int .i64 0], none⟩,
    ⟨none, .st 3 (.t 5) (.t 10), none⟩,
    ⟨(some 6), .mov (.t 11), none⟩])
  (.seq (.seq (.region false [⟨(some 12), .mov (.t 6), none⟩,
    ⟨(some 13), .bin .neq (.t 12) (.c (.int .i64 0)), none⟩])
  (.cond (.t 13)
   (.seq (.region false [⟨(some 14), .mov (.t 6), none⟩,
     ⟨(some 4), .mov (.t 14), none⟩])
   (.ret))
   (.skip)))
  (.seq (.region false [⟨(some 15), .ld (some 3) (.t 5), none⟩,
    ⟨(some 16), .ld (some 5) (.t 3), none⟩,
    ⟨(some 17), .call F_types_order_check [(.t 15), (.t 16)], none⟩,
    ⟨(some 4), .mov (.t 17), none⟩])
  (.ret)))),
  [.tmp 4]⟩

/- types_Raise -/
def A_types_Raise : AFun := ⟨38,
  .seq (.region false [⟨(some 3), .box (.t 0), none⟩,
    ⟨(some 4), .box (.t 1), none⟩,
    ⟨(some 6), .alloc [.int .i64 0, .int .i64 0, .int .i64 0, .int .i64 0, .int .i64 0], none⟩,
    ⟨(some 7), .mov (.c (.int .i64 0)), none⟩])
  (.seq (.region false [⟨(some 12), .ld (some 2) (.t 3), none⟩,
    ⟨(some 13), .call F_types_of [(.t 12)], none⟩,
    ⟨(some 11), .mov (.t 13), none⟩,
    ⟨(some 14), .extr (.t 11) 0, none⟩,
    ⟨(some 15), .extr (.t 11) 1, none⟩,
    ⟨(some 8), .alloc [.sl .ex [], .sl .ex [], .int .i64 0], none⟩,
    ⟨none, .st 3 (.t 8) (.t 14), none⟩,
    ⟨(some 9), .mov (.t 15), none⟩])
  (.seq (.seq (.region false [⟨(some 16), .mov (.t 9), none⟩,
    ⟨(some 17), .bin .neq (.t 16) (.c (.int .i64 0)), none⟩])
  (.cond (.t 17)
   (.seq (.region false [⟨(some 18), .build [.int .i64 0, .int .i64 0, .int .i64 0, .int .i64 0, .int .i64 0] [], none⟩,
     ⟨(some 19), .mov (.t 9), none⟩,
     ⟨none, .st 5 (.t 6) (.t 18), none⟩,
     ⟨(some 7), .mov (.t 19), none⟩])
   (.ret))
   (.skip)))
  (.seq (.seq (.region false [⟨(some 20), .ld (some 3) (.t 8), none⟩,
    ⟨(some 21), .ld (some 5) (.t 4), none⟩,
    ⟨(some 22), .call F_types_order_check [(.t 20), (.t 21)], none⟩,
    ⟨(some 10), .mov (.t 22), none⟩])
  (.seq (.region false [⟨(some 23), .mov (.t 10), none⟩,
    ⟨(some 24), .bin .neq (.t 23) (.c (.int .i64 0)), none⟩])
  (.cond (.t 24)
   (.seq (.region false [⟨(some 25), .build [.int .i64 0, .int .i64 0, .int .i64 0, .int .i64 0, .int .i64 0] [], none⟩,
     ⟨(some 26), .mov (.t 10), none⟩,
     ⟨none, .st 5 (.t 6) (.t 25), none⟩,
     ⟨(some 7), .mov (.t 26), none⟩])
   (.ret))
   (.skip))))
  (.seq (.seq (.region false [⟨(some 27), .ld (some 3) (.t 8), none⟩,
    ⟨(some 28), .mov (.t 2), none⟩,
    ⟨(some 29), .call F_types_order_label [(.t 27), (.t 28)], none⟩,
    ⟨(some 30), .not (.t 29), none⟩])
  (.cond (.t 30)
   (.seq (.region false [⟨(some 31), .build [.int .i64 0, .int .i64 0, .int .i64 0, .int .i64 0, .int .i64 0] [], none⟩,
     ⟨none, .st 5 (.t 6) (.t 31), none⟩,
     ⟨(some 7), .mov (.c (.int .i64 7)), none⟩])
   (.ret))
   (.skip)))
  (.seq (.region false [⟨(some 32), .ld (some 5) (.t 4), none⟩,
    ⟨(some 33), .ld (some 3) (.t 8), none⟩,
    ⟨(some 34), .mov (.t 2), none⟩,
    ⟨(some 35), .build [.sl .ex [], .sl .ex [], .int .i64 0, .int .i64 0] [(0, 3, (.t 33)), (3, 1, (.t 34))], none⟩,
    ⟨(some 36), .mkf F_types_with_up [(.t 35)] [], none⟩,
    ⟨(some 37), .call F_types_each [(.t 32), (.t 36)], none⟩,
    ⟨none, .st 5 (.t 6) (.t 37), none⟩,
    ⟨(some 7), .mov (.c (.int .i64 0)), none⟩])
  (.ret)))))),
  [.cell (some 5) 6, .tmp 7]⟩

/- ref03_Join -/
def A_ref03_Join : AFun := ⟨20,
  .seq (.region false [⟨(some 3), .box (.t 0), none⟩,
    ⟨(some 6), .mov (.c (.int .i64 0)), none⟩,
    ⟨(some 7), .mov (.c (.int .i64 0)), none⟩])
  (.seq (.region false [⟨(some 9), .ld (some 2) (.t 3), none⟩,
    ⟨(some 10), .mov (.t 1), none⟩,
    ⟨(some 11), .mov (.t 2), none⟩,
    ⟨(some 12), .call F_ref03_asked [(.t 9), (.t 10), (.t 11)], none⟩,
    ⟨(some 8), .mov (.t 12), none⟩])
  (.seq (.seq (.region false [⟨(some 13), .mov (.t 8), none⟩,
    ⟨(some 14), .bin .neq (.t 13) (.c (.int .i64 0)), none⟩])
  (.cond (.t 14)
   (.seq (.region false [⟨(some 15), .mov (.t 8), none⟩,
     ⟨(some 6), .mov (.c (.int .i64 0)), none⟩,
     ⟨(some 7), .mov (.t 15), none⟩])
   (.ret))
   (.skip)))
  (.seq (.region false [⟨(some 16), .ld (some 2) (.t 3), none⟩,
    ⟨(some 17), .mov (.t 1), none⟩,
    ⟨(some 18), .mov (.t 2), none⟩,
    ⟨(some 19), .call F_ref03_join [(.t 16), (.t 17), (.t 18)], none⟩,
    ⟨(some 6), .mov (.t 19), none⟩,
    ⟨(some 7), .mov (.c (.int .i64 0)), none⟩])
  (.ret)))),
  [.tmp 6, .tmp 7]⟩

/- ref03_Bottom -/
def A_ref03_BottomL0 : ACode :=
  .seq (.seq (.region false [⟨(some 15), .mov (.t 7), none⟩,
    ⟨(some 16), .fldA 0 (.t 1), none⟩,
    ⟨(some 17), .ld none (.t 16), none⟩,
    ⟨(some 18), .len (.t 17), none⟩,
    ⟨(some 19), .bin .lss (.t 15) (.t 18), none⟩])
  (.cond (.t 19)
   (.skip)
   (.exit 0)))
  (.seq (.block 1 (.region false [⟨(some 22), .mov (.t 5), none⟩,
    ⟨(some 23), .mov (.t 7), none⟩,
    ⟨(some 24), .mov (.t 6), none⟩,
    ⟨(some 25), .call F_ref03_nearest [(.t 22), (.t 23), (.t 24)], none⟩,
    ⟨(some 6), .mov (.t 25), none⟩]))
  (.region false [⟨(some 20), .mov (.t 7), none⟩,
    ⟨(some 21), .bin .add (.t 20) (.c (.int .i64 1)), none⟩,
    ⟨(some 7), .mov (.t 21), none⟩]))
def A_ref03_Bottom : AFun := ⟨27,
  .seq (.region false [⟨(some 1), .box (.t 0), none⟩,
    ⟨(some 2), .mov (.c (.int .i64 0)), none⟩,
    ⟨(some 3), .mov (.c (.int .i64 0)), none⟩])
  (.seq (.region false [⟨(some 8), .ld (some 2) (.t 1), none⟩,
    ⟨(some 9), .call F_ref03_asked [(.t 8), (.c (.int .i64 0)), (.c (.int .i64 0))], none⟩,
    ⟨(some 4), .mov (.t 9), none⟩])
  (.seq (.seq (.region false [⟨(some 10), .mov (.t 4), none⟩,
    ⟨(some 11), .bin .neq (.t 10) (.c (.int .i64 0)), none⟩])
  (.cond (.t 11)
   (.seq (.region false [⟨(some 12), .mov (.t 4), none⟩,
     ⟨(some 2), .mov (.c (.int .i64 0)), none⟩,
     ⟨(some 3), .mov (.t 12), none⟩])
   (.ret))
   (.skip)))
  (.seq (.region false [⟨(some 13), .ld (some 2) (.t 1), none⟩,
    ⟨(some 14), .call F_ref03_downs [(.t 13)], none⟩,
    ⟨(some 5), .mov (.t 14), none⟩])
  (.seq (.region false [⟨(some 6), .mov (.c (.int .i64 0)), none⟩])
  (.seq (.seq (.region false [⟨(some 7), .mov (.c (.int .i64 0)), none⟩])
  (.block 0 (.loop A_ref03_BottomL0)))
  (.seq (.region false [⟨(some 26), .mov (.t 6), none⟩,
    ⟨(some 2), .mov (.t 26), none⟩,
    ⟨(some 3), .mov (.c (.int .i64 0)), none⟩])
  (.ret))))))),
  [.tmp 2, .tmp 3]⟩

/- ref20_Check -/
def A_ref20_Check : AFun := ⟨18,
  .seq (.region false [⟨(some 2), .box (.t 0), none⟩,
    ⟨(some 3), .box (.t 1), none⟩,
    ⟨(some 4), .mov (.c (.int .i64 0)), none⟩])
  (.seq (.region false [⟨(some 8), .ld (some 2) (.t 2), none⟩,
    ⟨(some 9), .call F_ref03_Check [(.t 8)], none⟩,
    ⟨(some 7), .mov (.t 9), none⟩,
    ⟨(some 10), .extr (.t 7) 0, none⟩,
    ⟨(some 11), .extr (.t 7) 1, none⟩,
    ⟨(some 5), .mov (.t 10), none⟩,
    ⟨(some 6), .mov (.t 11), none⟩])
  (.seq (.seq (.region false [⟨(some 12), .mov (.t 6), none⟩,
    ⟨(some 13), .bin .neq (.t 12) (.c (.int .i64 0)), none⟩])
  (.cond (.t 13)
   (.seq (.region false [⟨(some 14), .mov (.t 6), none⟩,
     ⟨(some 4), .mov (.t 14), none⟩])
   (.ret))
   (.skip)))
  (.seq (.region false [⟨(some 15), .ld (some 2) (.t 2), none⟩,
    ⟨(some 16), .ld (some 5) (.t 3), none⟩,
    ⟨(some 17), .call F_ref20_Good [(.t 15), (.t 16)], none⟩,
    ⟨(some 4), .mov (.t 17), none⟩])
  (.ret)))),
  [.tmp 4]⟩

/- ref20_Within -/
def A_ref20_Within : AFun := ⟨42,
  .seq (.region false [⟨(some 3), .box (.t 0), none⟩,
    ⟨(some 4), .box (.t 1), none⟩,
    ⟨(some 5), .box (.t 2), none⟩,
    ⟨(some 6), .mov (.c (.bool false)), none⟩,
    ⟨(some 7), .mov (.c (.int .i64 0)), none⟩])
  (.seq (.region false [⟨(some 9), .ld (some 2) (.t 3), none⟩,
    ⟨(some 10), .ld (some 5) (.t 4), none⟩,
    ⟨(some 11), .ld (some 5) (.t 5), none⟩,
    ⟨(some 12), .call F_ref20_both [(.t 9), (.t 10), (.t 11)], none⟩,
    ⟨(some 8), .mov (.t 12), none⟩])
  (.seq (.seq (.region false [⟨(some 13), .mov (.t 8), none⟩,
    ⟨(some 14), .bin .neq (.t 13) (.c (.int .i64 0)), none⟩])
  (.cond (.t 14)
   (.seq (.region false [⟨(some 15), .mov (.t 8), none⟩,
     ⟨(some 6), .mov (.c (.bool false)), none⟩,
     ⟨(some 7), .mov (.t 15), none⟩])
   (.ret))
   (.skip)))
  (.seq (.region false [⟨(some 16), .ld (some 2) (.t 3), none⟩,
    ⟨(some 17), .fldA 2 (.t 4), none⟩,
    ⟨(some 18), .idxP 2 1 (.t 17) (.c (.int .i64 0)), none⟩,
    ⟨(some 19), .ld none (.t 18), none⟩,
    ⟨(some 20), .fldA 2 (.t 5), none⟩,
    ⟨(some 21), .idxP 2 1 (.t 20) (.c (.int .i64 0)), none⟩,
    ⟨(some 22), .ld none (.t 21), none⟩,
    ⟨(some 23), .call F_ref20_Leq [(.t 16), (.t 19), (.t 22)], none⟩,
    ⟨(some 24), .mov (.t 23), none⟩,
    ⟨(some 25), .ld (some 2) (.t 3), some (24, true)⟩,
    ⟨(some 26), .fldA 2 (.t 4), some (24, true)⟩,
    ⟨(some 27), .idxP 2 1 (.t 26) (.c (.int .i64 1)), some (24, true)⟩,
    ⟨(some 28), .ld none (.t 27), some (24, true)⟩,
    ⟨(some 29), .fldA 2 (.t 5), some (24, true)⟩,
    ⟨(some 30), .idxP 2 1 (.t 29) (.c (.int .i64 1)), some (24, true)⟩,
    ⟨(some 31), .ld none (.t 30), some (24, true)⟩,
    ⟨(some 32), .call F_ref20_Leq [(.t 25), (.t 28), (.t 31)], some (24, true)⟩,
    ⟨(some 33), .pick (.t 24) (.t 32) (.c (.bool false)), none⟩,
    ⟨(some 34), .mov (.t 33), none⟩,
    ⟨(some 35), .ld (some 2) (.t 3), some (34, true)⟩,
    ⟨(some 36), .fldA 4 (.t 4), some (34, true)⟩,
    ⟨(some 37), .ld none (.t 36), some (34, true)⟩,
    ⟨(some 38), .fldA 4 (.t 5), some (34, true)⟩,
    ⟨(some 39), .ld none (.t 38), some (34, true)⟩,
    ⟨(some 40), .call F_ref20_Leq [(.t 35), (.t 37), (.t 39)], some (34, true)⟩,
    ⟨(some 41), .pick (.t 34) (.t 40) (.c (.bool false)), none⟩,
    ⟨(some 6), .mov (.t 41), none⟩,
    ⟨(some 7), .mov (.c (.int .i64 0)), none⟩])
  (.ret)))),
  [.tmp 6, .tmp 7]⟩

/- ref20_Join -/
def A_ref20_Join : AFun := ⟨45,
  .seq (.region false [⟨(some 3), .box (.t 0), none⟩,
    ⟨(some 4), .box (.t 1), none⟩,
    ⟨(some 5), .box (.t 2), none⟩,
    ⟨(some 6), .alloc [.int .i64 0, .int .i64 0, .int .i64 0, .int .i64 0, .int .i64 0], none⟩,
    ⟨(some 7), .mov (.c (.int .i64 0)), none⟩])
  (.seq (.region false [⟨(some 9), .ld (some 2) (.t 3), none⟩,
    ⟨(some 10), .ld (some 5) (.t 4), none⟩,
    ⟨(some 11), .ld (some 5) (.t 5), none⟩,
    ⟨(some 12), .call F_ref20_both [(.t 9), (.t 10), (.t 11)], none⟩,
    ⟨(some 8), .mov (.t 12), none⟩])
  (.seq (.seq (.region false [⟨(some 13), .mov (.t 8), none⟩,
    ⟨(some 14), .bin .neq (.t 13) (.c (.int .i64 0)), none⟩])
  (.cond (.t 14)
   (.seq (.region false [⟨(some 15), .build [.int .i64 0, .int .i64 0, .int .i64 0, .int .i64 0, .int .i64 0] [], none⟩,
     ⟨(some 16), .mov (.t 8), none⟩,
     ⟨none, .st 5 (.t 6) (.t 15), none⟩,
     ⟨(some 7), .mov (.t 16), none⟩])
   (.ret))
   (.skip)))
  (.seq (.region true [⟨(some 17), .fldA 0 (.t 4), none⟩,
    ⟨(some 18), .ld none (.t 17), none⟩,
    ⟨(some 19), .fldA 1 (.t 4), none⟩,
    ⟨(some 20), .ld none (.t 19), none⟩,
    ⟨(some 21), .ld (some 2) (.t 3), none⟩,
    ⟨(some 22), .fldA 2 (.t 4), none⟩,
    ⟨(some 23), .idxP 2 1 (.t 22) (.c (.int .i64 0)), none⟩,
    ⟨(some 24), .ld none (.t 23), none⟩,
    ⟨(some 25), .fldA 2 (.t 5), none⟩,
    ⟨(some 26), .idxP 2 1 (.t 25) (.c (.int .i64 0)), none⟩,
    ⟨(some 27), .ld none (.t 26), none⟩,
    ⟨(some 28), .call F_ref20_Up [(.t 21), (.t 24), (.t 27)], none⟩,
    ⟨(some 29), .ld (some 2) (.t 3), none⟩,
    ⟨(some 30), .fldA 2 (.t 4), none⟩,
    ⟨(some 31), .idxP 2 1 (.t 30) (.c (.int .i64 1)), none⟩,
    ⟨(some 32), .ld none (.t 31), none⟩,
    ⟨(some 33), .fldA 2 (.t 5), none⟩,
    ⟨(some 34), .idxP 2 1 (.t 33) (.c (.int .i64 1)), none⟩,
    ⟨(some 35), .ld none (.t 34), none⟩,
    ⟨(some 36), .call F_ref20_Up [(.t 29), (.t 32), (.t 35)], none⟩,
    ⟨(some 37), .build [.int .i64 0, .int .i64 0] [(0, 1, (.t 28)), (1, 1, (.t 36))], none⟩,
    ⟨(some 38), .ld (some 2) (.t 3), none⟩,
    ⟨(some 39), .fldA 4 (.t 4), none⟩,
    ⟨(some 40), .ld none (.t 39), none⟩,
    ⟨(some 41), .fldA 4 (.t 5), none⟩,
    ⟨(some 42), .ld none (.t 41), none⟩,
    ⟨(some 43), .call F_ref20_Up [(.t 38), (.t 40), (.t 42)], none⟩,
    ⟨(some 44), .build [.int .i64 0, .int .i64 0, .int .i64 0, .int .i64 0, .int .i64 0] [(0, 1, (.t 18)), (1, 1, (.t 20)), (2, 2, (.t 37)), (4, 1, (.t 43))], none⟩,
    ⟨none, .st 5 (.t 6) (.t 44), none⟩,
    ⟨(some 7), .mov (.c (.int .i64 0)), none⟩])
  (.ret)))),
  [.cell (some 5) 6, .tmp 7]⟩

/- ref20_Raise -/
def A_ref20_RaiseL0 : ACode :=
  .seq (.seq (.region false [⟨(some 25), .mov (.t 9), none⟩,
    ⟨(some 26), .fldA 1 (.t 4), none⟩,
    ⟨(some 27), .ld none (.t 26), none⟩,
    ⟨(some 28), .bin .lss (.t 25) (.t 27), none⟩])
  (.cond (.t 28)
   (.skip)
   (.exit 0)))
  (.seq (.block 1 (.region true [⟨(some 31), .mov (.t 9), none⟩,
    ⟨(some 32), .ld (some 2) (.t 3), none⟩,
    ⟨(some 33), .mov (.t 9), none⟩,
    ⟨(some 34), .fldA 2 (.t 4), none⟩,
    ⟨(some 35), .idxP 2 1 (.t 34) (.t 33), none⟩,
    ⟨(some 36), .ld none (.t 35), none⟩,
    ⟨(some 37), .mov (.t 2), none⟩,
    ⟨(some 38), .call F_ref20_Up [(.t 32), (.t 36), (.t 37)], none⟩,
    ⟨(some 39), .fldA 2 (.t 4), none⟩,
    ⟨(some 40), .idxP 2 1 (.t 39) (.t 31), none⟩,
    ⟨none, .st 1 (.t 40) (.t 38), none⟩]))
  (.region false [⟨(some 29), .mov (.t 9), none⟩,
    ⟨(some 30), .bin .add (.t 29) (.c (.int .i64 1)), none⟩,
    ⟨(some 9), .mov (.t 30), none⟩]))
def A_ref20_Raise : AFun := ⟨48,
  .seq (.region false [⟨(some 3), .box (.t 0), none⟩,
    ⟨(some 4), .box (.t 1), none⟩,
    ⟨(some 6), .alloc [.int .i64 0, .int .i64 0, .int .i64 0, .int .i64 0, .int .i64 0], none⟩,
    ⟨(some 7), .mov (.c (.int .i64 0)), none⟩])
  (.seq (.region false [⟨(some 10), .ld (some 2) (.t 3), none⟩,
    ⟨(some 11), .ld (some 5) (.t 4), none⟩,
    ⟨(some 12), .call F_ref20_Check [(.t 10), (.t 11)], none⟩,
    ⟨(some 8), .mov (.t 12), none⟩])
  (.seq (.seq (.region false [⟨(some 13), .mov (.t 8), none⟩,
    ⟨(some 14), .bin .eql (.t 13) (.c (.int .i64 0)), none⟩,
    ⟨(some 15), .mov (.t 14), none⟩,
    ⟨(some 16), .ld (some 2) (.t 3), some (15, true)⟩,
    ⟨(some 17), .mov (.t 2), some (15, true)⟩,
    ⟨(some 18), .call F_ref20_Label [(.t 16), (.t 17)], some (15, true)⟩,
    ⟨(some 19), .not (.t 18), some (15, true)⟩,
    ⟨(some 20), .pick (.t 15) (.t 19) (.c (.bool false)), none⟩])
  (.cond (.t 20)
   (.region false [⟨(some 8), .mov (.c (.int .i64 7)), none⟩])
   (.skip)))
  (.seq (.seq (.region false [⟨(some 21), .mov (.t 8), none⟩,
    ⟨(some 22), .bin .neq (.t 21) (.c (.int .i64 0)), none⟩])
  (.cond (.t 22)
   (.seq (.region false [⟨(some 23), .build [.int .i64 0, .int .i64 0, .int .i64 0, .int .i64 0, .int .i64 0] [], none⟩,
     ⟨(some 24), .mov (.t 8), none⟩,
     ⟨none, .st 5 (.t 6) (.t 23), none⟩,
     ⟨(some 7), .mov (.t 24), none⟩])
   (.ret))
   (.skip)))
  (.seq (.seq (.region false [⟨(some 9), .mov (.c (.int .i64 0)), none⟩])
  (.block 0 (.loop A_ref20_RaiseL0)))
  (.seq (.region false [⟨(some 41), .ld (some 2) (.t 3), none⟩,
    ⟨(some 42), .fldA 4 (.t 4), none⟩,
    ⟨(some 43), .ld none (.t 42), none⟩,
    ⟨(some 44), .mov (.t 2), none⟩,
    ⟨(some 45), .call F_ref20_Up [(.t 41), (.t 43), (.t 44)], none⟩,
    ⟨(some 46), .fldA 4 (.t 4), none⟩,
    ⟨none, .st 1 (.t 46) (.t 45), none⟩])
  (.seq (.region false [⟨(some 47), .ld (some 5) (.t 4), none⟩,
    ⟨none, .st 5 (.t 6) (.t 47), none⟩,
    ⟨(some 7), .mov (.c (.int .i64 0)), none⟩])
  (.ret))))))),
  [.cell (some 5) 6, .tmp 7]⟩

/- types_Shape -/
def A_types_Shape : AFun := ⟨30,
  .seq (.region false [⟨(some 2), .box (.t 0), none⟩,
    ⟨(some 3), .box (.t 1), none⟩,
    ⟨(some 4), .mov (.c (.int .i64 0)), none⟩,
    ⟨(some 5), .mov (.c (.int .i64 0)), none⟩])
  (.seq (.region false [⟨(some 9), .ld (some 2) (.t 2), none⟩,
    ⟨(some 10), .call F_types_of [(.t 9)], none⟩,
    ⟨(some 8), .mov (.t 10), none⟩,
    ⟨(some 11), .extr (.t 8) 0, none⟩,
    ⟨(some 12), .extr (.t 8) 1, none⟩,
    ⟨(some 6), .alloc [.sl .ex [], .sl .ex [], .int .i64 0], none⟩,
    ⟨none, .st 3 (.t 6) (.t 11), none⟩,
    ⟨(some 5), .mov (.t 12), none⟩])
  (.seq (.seq (.region false [⟨(some 13), .mov (.t 5), none⟩,
    ⟨(some 14), .bin .neq (.t 13) (.c (.int .i64 0)), none⟩])
  (.cond (.t 14)
   (.seq (.region false [⟨(some 15), .mov (.t 5), none⟩,
     ⟨(some 4), .mov (.c (.int .i64 0)), none⟩,
     ⟨(some 5), .mov (.t 15), none⟩])
   (.ret))
   (.skip)))
  (.seq (.seq (.region false [⟨(some 16), .ld (some 3) (.t 6), none⟩,
    ⟨(some 17), .ld (some 5) (.t 3), none⟩,
    ⟨(some 18), .call F_types_order_check [(.t 16), (.t 17)], none⟩,
    ⟨(some 7), .mov (.t 18), none⟩])
  (.seq (.region false [⟨(some 19), .mov (.t 7), none⟩,
    ⟨(some 20), .bin .neq (.t 19) (.c (.int .i64 0)), none⟩])
  (.cond (.t 20)
   (.seq (.region false [⟨(some 21), .mov (.t 7), none⟩,
     ⟨(some 4), .mov (.c (.int .i64 0)), none⟩,
     ⟨(some 5), .mov (.t 21), none⟩])
   (.ret))
   (.skip))))
  (.seq (.region false [⟨(some 22), .ld (some 3) (.t 6), none⟩,
    ⟨(some 23), .fldA 2 (.t 3), none⟩,
    ⟨(some 24), .idxP 2 1 (.t 23) (.c (.int .i64 0)), none⟩,
    ⟨(some 25), .ld none (.t 24), none⟩,
    ⟨(some 26), .fldA 2 (.t 3), none⟩,
    ⟨(some 27), .idxP 2 1 (.t 26) (.c (.int .i64 1)), none⟩,
    ⟨(some 28), .ld none (.t 27), none⟩,
    ⟨(some 29), .call F_types_order_join [(.t 22), (.t 25), (.t 28)], none⟩,
    ⟨(some 4), .mov (.t 29), none⟩,
    ⟨(some 5), .mov (.c (.int .i64 0)), none⟩])
  (.ret))))),
  [.tmp 4, .tmp 5]⟩

/- ref20_Shape -/
def A_ref20_Shape : AFun := ⟨21,
  .seq (.region false [⟨(some 2), .box (.t 0), none⟩,
    ⟨(some 3), .box (.t 1), none⟩,
    ⟨(some 4), .mov (.c (.int .i64 0)), none⟩,
    ⟨(some 5), .mov (.c (.int .i64 0)), none⟩])
  (.seq (.region false [⟨(some 7), .ld (some 2) (.t 2), none⟩,
    ⟨(some 8), .ld (some 5) (.t 3), none⟩,
    ⟨(some 9), .call F_ref20_Check [(.t 7), (.t 8)], none⟩,
    ⟨(some 6), .mov (.t 9), none⟩])
  (.seq (.seq (.region false [⟨(some 10), .mov (.t 6), none⟩,
    ⟨(some 11), .bin .neq (.t 10) (.c (.int .i64 0)), none⟩])
  (.cond (.t 11)
   (.seq (.region false [⟨(some 12), .mov (.t 6), none⟩,
     ⟨(some 4), .mov (.c (.int .i64 0)), none⟩,
     ⟨(some 5), .mov (.t 12), none⟩])
   (.ret))
   (.skip)))
  (.seq (.region false [⟨(some 13), .ld (some 2) (.t 2), none⟩,
    ⟨(some 14), .fldA 2 (.t 3), none⟩,
    ⟨(some 15), .idxP 2 1 (.t 14) (.c (.int .i64 0)), none⟩,
    ⟨(some 16), .ld none (.t 15), none⟩,
    ⟨(some 17), .fldA 2 (.t 3), none⟩,
    ⟨(some 18), .idxP 2 1 (.t 17) (.c (.int .i64 1)), none⟩,
    ⟨(some 19), .ld none (.t 18), none⟩,
    ⟨(some 20), .call F_ref20_Up [(.t 13), (.t 16), (.t 19)], none⟩,
    ⟨(some 4), .mov (.t 20), none⟩,
    ⟨(some 5), .mov (.c (.int .i64 0)), none⟩])
  (.ret)))),
  [.tmp 4, .tmp 5]⟩

/- law20_big -/
def A_law20_big : AFun := ⟨7,
  .seq (.region false [⟨(some 1), .box (.t 0), none⟩,
    ⟨(some 2), .mov (.c (.bool false)), none⟩])
  (.seq (.region false [⟨(some 3), .fldA 4 (.t 1), none⟩,
    ⟨(some 4), .ld none (.t 3), none⟩,
    ⟨(some 5), .len (.t 4), none⟩,
    ⟨(some 6), .bin .gtr (.t 5) (.c (.int .i64 450)), none⟩,
    ⟨(some 2), .mov (.t 6), none⟩])
  (.ret)),
  [.tmp 2]⟩

/- types_Agree -/
def A_types_AgreeL0 : ACode :=
  .seq (.region false [⟨(some 36), .bin .lss (.t 35) (.t 34), none⟩])
  (.seq (.cond (.t 36)
   (.skip)
   (.exit 0))
  (.seq (.block 1 (.seq (.region false [⟨(some 37), .idxA 5 (.t 33) (.t 35), none⟩,
    ⟨(some 38), .ld (some 5) (.t 37), none⟩,
    ⟨(some 16), .alloc [.int .i64 0, .int .i64 0, .int .i64 0, .int .i64 0, .sl .ex []], none⟩,
    ⟨none, .st 5 (.t 16) (.t 38), none⟩])
  (.seq (.region false [⟨(some 39), .ld (some 5) (.t 16), none⟩,
    ⟨(some 40), .call F_arrays_Check [(.t 39)], none⟩,
    ⟨(some 17), .mov (.t 40), none⟩])
  (.seq (.region false [⟨(some 41), .mov (.t 17), none⟩,
    ⟨(some 42), .bin .neq (.t 41) (.c (.int .i64 0)), none⟩])
  (.cond (.t 42)
   (.seq (.region false [⟨(some 43), .mov (.t 17), none⟩,
     ⟨(some 10), .mov (.c (.bool false)), none⟩,
     ⟨(some 11), .mov (.t 43), none⟩])
   (.ret))
   (.skip))))))
  (.region false [⟨(some 44), .bin .add (.t 35) (.c (.int .i64 1)), none⟩,
    ⟨(some 35), .mov (.t 44), none⟩])))
def A_types_AgreeL1 : ACode :=
  .seq (.region false [⟨(some 57), .bin .lss (.t 56) (.c (.int .i64 2)), none⟩])
  (.seq (.cond (.t 57)
   (.skip)
   (.exit 2))
  (.seq (.block 3 (.seq (.region false [⟨(some 58), .mov (.t 56), none⟩,
    ⟨(some 59), .idxG 2 1 none (.t 55) (.t 56), none⟩,
    ⟨(some 18), .mov (.t 58), none⟩,
    ⟨(some 19), .mov (.t 59), none⟩])
  (.seq (.region true [⟨(some 60), .mov (.t 19), none⟩,
    ⟨(some 61), .mov (.t 60), none⟩,
    ⟨(some 62), .mov (.t 18), some (61, true)⟩,
    ⟨(some 63), .fldA 2 (.t 8), some (61, true)⟩,
    ⟨(some 64), .idxP 2 1 (.t 63) (.t 62), some (61, true)⟩,
    ⟨(some 65), .ld none (.t 64), some (61, true)⟩,
    ⟨(some 66), .mov (.t 18), some (61, true)⟩,
    ⟨(some 67), .fldA 2 (.t 9), some (61, true)⟩,
    ⟨(some 68), .idxP 2 1 (.t 67) (.t 66), some (61, true)⟩,
    ⟨(some 69), .ld none (.t 68), some (61, true)⟩,
    ⟨(some 70), .bin .neq (.t 65) (.t 69), some (61, true)⟩,
    ⟨(some 71), .pick (.t 61) (.t 70) (.c (.bool false)), none⟩])
  (.cond (.t 71)
   (.seq (.region false [⟨(some 10), .mov (.c (.bool false)), none⟩,
     ⟨(some 11), .mov (.c (.int .i64 0)), none⟩])
   (.ret))
   (.skip)))))
  (.region false [⟨(some 72), .bin .add (.t 56) (.c (.int .i64 1)), none⟩,
    ⟨(some 56), .mov (.t 72), none⟩])))
def A_types_Agree : AFun := ⟨82,
  .seq (.region false [⟨(some 5), .box (.t 0), none⟩,
    ⟨(some 6), .box (.t 1), none⟩,
    ⟨(some 8), .box (.t 3), none⟩,
    ⟨(some 9), .box (.t 4), none⟩,
    ⟨(some 10), .mov (.c (.bool false)), none⟩,
    ⟨(some 11), .mov (.c (.int .i64 0)), none⟩])
  (.seq (.region false [⟨(some 21), .ld (some 2) (.t 5), none⟩,
    ⟨(some 22), .ld (some 5) (.t 6), none⟩,
    ⟨(some 23), .mov (.t 2), none⟩,
    ⟨(some 24), .call F_types_Sees [(.t 21), (.t 22), (.t 23)], none⟩,
    ⟨(some 20), .mov (.t 24), none⟩,
    ⟨(some 25), .extr (.t 20) 0, none⟩,
    ⟨(some 26), .extr (.t 20) 1, none⟩,
    ⟨(some 27), .extr (.t 20) 2, none⟩,
    ⟨(some 12), .alloc [.bool false, .bool false], none⟩,
    ⟨none, .st 2 (.t 12) (.t 25), none⟩,
    ⟨(some 13), .mov (.t 26), none⟩,
    ⟨(some 14), .mov (.t 27), none⟩])
  (.seq (.seq (.region false [⟨(some 28), .mov (.t 14), none⟩,
    ⟨(some 29), .bin .neq (.t 28) (.c (.int .i64 0)), none⟩])
  (.cond (.t 29)
   (.seq (.region false [⟨(some 30), .mov (.t 14), none⟩,
     ⟨(some 10), .mov (.c (.bool false)), none⟩,
     ⟨(some 11), .mov (.t 30), none⟩])
   (.ret))
   (.skip)))
  (.seq (.seq (.region false [⟨(some 31), .ld (some 5) (.t 8), none⟩,
    ⟨(some 32), .ld (some 5) (.t 9), none⟩,
    ⟨(some 33), .bsl 5 (.agg [.int .i64 0, .int .i64 0, .int .i64 0, .int .i64 0, .sl .ex []]) 2 [(0, (.t 31)), (1, (.t 32))], none⟩,
    ⟨(some 34), .len (.t 33), none⟩,
    ⟨(some 35), .mov (.c (.int .i64 0)), none⟩])
  (.block 0 (.loop A_types_AgreeL0)))
  (.seq (.seq (.region false [⟨(some 45), .ld (some 5) (.t 6), none⟩,
    ⟨(some 46), .ld (some 5) (.t 8), none⟩,
    ⟨(some 47), .call F_types_Fits [(.t 45), (.t 46)], none⟩,
    ⟨(some 48), .not (.t 47), none⟩,
    ⟨(some 49), .mov (.t 48), none⟩,
    ⟨(some 50), .ld (some 5) (.t 6), some (49, false)⟩,
    ⟨(some 51), .ld (some 5) (.t 9), some (49, false)⟩,
    ⟨(some 52), .call F_types_Fits [(.t 50), (.t 51)], some (49, false)⟩,
    ⟨(some 53), .not (.t 52), some (49, false)⟩,
    ⟨(some 54), .pick (.t 49) (.c (.bool true)) (.t 53), none⟩])
  (.cond (.t 54)
   (.seq (.region false [⟨(some 10), .mov (.c (.bool false)), none⟩,
     ⟨(some 11), .mov (.c (.int .i64 21)), none⟩])
   (.ret))
   (.skip)))
  (.seq (.seq (.region false [⟨(some 55), .ld (some 2) (.t 12), none⟩,
    ⟨(some 56), .mov (.c (.int .i64 0)), none⟩])
  (.block 2 (.loop A_types_AgreeL1)))
  (.seq (.region false [⟨(some 73), .mov (.t 13), none⟩,
    ⟨(some 74), .not (.t 73), none⟩,
    ⟨(some 75), .mov (.t 74), none⟩,
    ⟨(some 76), .fldA 4 (.t 8), some (75, false)⟩,
    ⟨(some 77), .ld none (.t 76), some (75, false)⟩,
    ⟨(some 78), .fldA 4 (.t 9), some (75, false)⟩,
    ⟨(some 79), .ld none (.t 78), some (75, false)⟩,
    ⟨(some 80), .call F_slices_Equal_int64_int64 [(.t 77), (.t 79)], some (75, false)⟩,
    ⟨(some 81), .pick (.t 75) (.c (.bool true)) (.t 80), none⟩,
    ⟨(some 10), .mov (.t 81), none⟩,
    ⟨(some 11), .mov (.c (.int .i64 0)), none⟩])
  (.ret))))))),
  [.tmp 10, .tmp 11]⟩

/- types_Sees -/
def A_types_SeesL0 : ACode :=
  .seq (.region false [⟨(some 36), .bin .lss (.t 35) (.t 34), none⟩])
  (.seq (.cond (.t 36)
   (.skip)
   (.exit 0))
  (.seq (.block 1 (.seq (.region false [⟨(some 37), .mov (.t 35), none⟩,
    ⟨(some 11), .mov (.t 37), none⟩])
  (.region true [⟨(some 38), .mov (.t 11), none⟩,
    ⟨(some 39), .ld (some 3) (.t 9), none⟩,
    ⟨(some 40), .mov (.t 11), none⟩,
    ⟨(some 41), .fldA 2 (.t 4), none⟩,
    ⟨(some 42), .idxP 2 1 (.t 41) (.t 40), none⟩,
    ⟨(some 43), .ld none (.t 42), none⟩,
    ⟨(some 44), .mov (.t 2), none⟩,
    ⟨(some 45), .call F_types_order_leq [(.t 39), (.t 43), (.t 44)], none⟩,
    ⟨(some 46), .idxP 2 1 (.t 6) (.t 38), none⟩,
    ⟨none, .st 1 (.t 46) (.t 45), none⟩])))
  (.region false [⟨(some 47), .bin .add (.t 35) (.c (.int .i64 1)), none⟩,
    ⟨(some 35), .mov (.t 47), none⟩])))
def A_types_Sees : AFun := ⟨54,
  .seq (.region false [⟨(some 3), .box (.t 0), none⟩,
    ⟨(some 4), .box (.t 1), none⟩,
    ⟨(some 6), .alloc [.bool false, .bool false], none⟩,
    ⟨(some 7), .mov (.c (.bool false)), none⟩,
    ⟨(some 8), .mov (.c (.int .i64 0)), none⟩])
  (.seq (.region false [⟨(some 13), .ld (some 2) (.t 3), none⟩,
    ⟨(some 14), .call F_types_of [(.t 13)], none⟩,
    ⟨(some 12), .mov (.t 14), none⟩,
    ⟨(some 15), .extr (.t 12) 0, none⟩,
    ⟨(some 16), .extr (.t 12) 1, none⟩,
    ⟨(some 9), .alloc [.sl .ex [], .sl .ex [], .int .i64 0], none⟩,
    ⟨none, .st 3 (.t 9) (.t 15), none⟩,
    ⟨(some 8), .mov (.t 16), none⟩])
  (.seq (.seq (.region false [⟨(some 17), .mov (.t 8), none⟩,
    ⟨(some 18), .bin .neq (.t 17) (.c (.int .i64 0)), none⟩])
  (.cond (.t 18)
   (.seq (.region false [⟨(some 19), .ld (some 2) (.t 6), none⟩,
     ⟨(some 20), .mov (.t 8), none⟩,
     ⟨none, .st 2 (.t 6) (.t 19), none⟩,
     ⟨(some 7), .mov (.c (.bool false)), none⟩,
     ⟨(some 8), .mov (.t 20), none⟩])
   (.ret))
   (.skip)))
  (.seq (.seq (.region false [⟨(some 21), .ld (some 3) (.t 9), none⟩,
    ⟨(some 22), .ld (some 5) (.t 4), none⟩,
    ⟨(some 23), .call F_types_order_check [(.t 21), (.t 22)], none⟩,
    ⟨(some 10), .mov (.t 23), none⟩])
  (.seq (.region false [⟨(some 24), .mov (.t 10), none⟩,
    ⟨(some 25), .bin .neq (.t 24) (.c (.int .i64 0)), none⟩])
  (.cond (.t 25)
   (.seq (.region false [⟨(some 26), .ld (some 2) (.t 6), none⟩,
     ⟨(some 27), .mov (.t 10), none⟩,
     ⟨none, .st 2 (.t 6) (.t 26), none⟩,
     ⟨(some 7), .mov (.c (.bool false)), none⟩,
     ⟨(some 8), .mov (.t 27), none⟩])
   (.ret))
   (.skip))))
  (.seq (.seq (.region false [⟨(some 28), .ld (some 3) (.t 9), none⟩,
    ⟨(some 29), .mov (.t 2), none⟩,
    ⟨(some 30), .call F_types_order_label [(.t 28), (.t 29)], none⟩,
    ⟨(some 31), .not (.t 30), none⟩])
  (.cond (.t 31)
   (.seq (.region false [⟨(some 32), .ld (some 2) (.t 6), none⟩,
     ⟨none, .st 2 (.t 6) (.t 32), none⟩,
     ⟨(some 7), .mov (.c (.bool false)), none⟩,
     ⟨(some 8), .mov (.c (.int .i64 7)), none⟩])
   (.ret))
   (.skip)))
  (.seq (.seq (.region false [⟨(some 33), .fldA 1 (.t 4), none⟩,
    ⟨(some 34), .ld none (.t 33), none⟩,
    ⟨(some 35), .mov (.c (.int .i64 0)), none⟩])
  (.block 0 (.loop A_types_SeesL0)))
  (.seq (.region true [⟨(some 48), .ld (some 2) (.t 6), none⟩,
    ⟨(some 49), .ld (some 3) (.t 9), none⟩,
    ⟨(some 50), .fldA 4 (.t 4), none⟩,
    ⟨(some 51), .ld none (.t 50), none⟩,
    ⟨(some 52), .mov (.t 2), none⟩,
    ⟨(some 53), .call F_types_order_leq [(.t 49), (.t 51), (.t 52)], none⟩,
    ⟨none, .st 2 (.t 6) (.t 48), none⟩,
    ⟨(some 7), .mov (.t 53), none⟩,
    ⟨(some 8), .mov (.c (.int .i64 0)), none⟩])
  (.ret))))))),
  [.cell (some 2) 6, .tmp 7, .tmp 8]⟩

/- ref03_Leq -/
def A_ref03_Leq : AFun := ⟨22,
  .seq (.region false [⟨(some 3), .box (.t 0), none⟩,
    ⟨(some 6), .mov (.c (.bool false)), none⟩,
    ⟨(some 7), .mov (.c (.int .i64 0)), none⟩])
  (.seq (.region false [⟨(some 9), .ld (some 2) (.t 3), none⟩,
    ⟨(some 10), .mov (.t 1), none⟩,
    ⟨(some 11), .mov (.t 2), none⟩,
    ⟨(some 12), .call F_ref03_asked [(.t 9), (.t 10), (.t 11)], none⟩,
    ⟨(some 8), .mov (.t 12), none⟩])
  (.seq (.region false [⟨(some 13), .mov (.t 8), none⟩,
    ⟨(some 14), .bin .eql (.t 13) (.c (.int .i64 0)), none⟩,
    ⟨(some 15), .mov (.t 14), none⟩,
    ⟨(some 16), .ld (some 2) (.t 3), some (15, true)⟩,
    ⟨(some 17), .mov (.t 1), some (15, true)⟩,
    ⟨(some 18), .mov (.t 2), some (15, true)⟩,
    ⟨(some 19), .call F_ref03_Below [(.t 16), (.t 17), (.t 18)], some (15, true)⟩,
    ⟨(some 20), .pick (.t 15) (.t 19) (.c (.bool false)), none⟩,
    ⟨(some 21), .mov (.t 8), none⟩,
    ⟨(some 6), .mov (.t 20), none⟩,
    ⟨(some 7), .mov (.t 21), none⟩])
  (.ret))),
  [.tmp 6, .tmp 7]⟩

/- law20_Line -/
def A_law20_Line : AFun := ⟨4,
  .seq (.region false [⟨(some 0), .alloc [.sl .ex [], .sl .ex []], none⟩])
  (.seq (.region false [⟨(some 1), .bsl 1 (.str []) 3 [(0, (.c (.str [108, 111, 119]))), (1, (.c (.str [115, 116, 97, 102, 102]))), (2, (.c (.str [104, 105, 103, 104])))], none⟩,
    ⟨(some 2), .bsl 1 (.int .u8 0) 3 [(0, (.c (.int .u8 7))), (1, (.c (.int .u8 6))), (2, (.c (.int .u8 4)))], none⟩,
    ⟨(some 3), .build [.sl .ex [], .sl .ex []] [(0, 1, (.t 1)), (1, 1, (.t 2))], none⟩,
    ⟨none, .st 2 (.t 0) (.t 3), none⟩])
  (.ret)),
  [.cell (some 2) 0]⟩

/- law20_vector -/
def A_law20_vector : AFun := ⟨9,
  .seq (.region false [⟨(some 4), .alloc [.int .i64 0, .int .i64 0, .int .i64 0, .int .i64 0, .int .i64 0], none⟩])
  (.seq (.region false [⟨(some 5), .mov (.t 0), none⟩,
    ⟨(some 6), .build [.int .i64 0, .int .i64 0] [(0, 1, (.t 5)), (1, 1, (.c (.int .i64 0)))], none⟩,
    ⟨(some 7), .mov (.t 1), none⟩,
    ⟨(some 8), .build [.int .i64 0, .int .i64 0, .int .i64 0, .int .i64 0, .int .i64 0] [(0, 1, (.c (.int .i64 1))), (1, 1, (.c (.int .i64 1))), (2, 2, (.t 6)), (4, 1, (.t 7))], none⟩,
    ⟨none, .st 5 (.t 4) (.t 8), none⟩])
  (.ret)),
  [.cell (some 5) 4]⟩

/- types_Print -/
def A_types_Print : AFun := ⟨29,
  .seq (.region false [⟨(some 2), .box (.t 0), none⟩,
    ⟨(some 3), .box (.t 1), none⟩,
    ⟨(some 4), .mov (.c (.str [])), none⟩,
    ⟨(some 5), .mov (.c (.int .i64 0)), none⟩])
  (.seq (.seq (.region false [⟨(some 8), .ld (some 2) (.t 2), none⟩,
    ⟨(some 9), .ld (some 5) (.t 3), none⟩,
    ⟨(some 10), .call F_types_Check [(.t 8), (.t 9)], none⟩,
    ⟨(some 6), .mov (.t 10), none⟩])
  (.seq (.region false [⟨(some 11), .mov (.t 6), none⟩,
    ⟨(some 12), .bin .neq (.t 11) (.c (.int .i64 0)), none⟩])
  (.cond (.t 12)
   (.seq (.region false [⟨(some 13), .mov (.t 6), none⟩,
     ⟨(some 4), .mov (.c (.str [])), none⟩,
     ⟨(some 5), .mov (.t 13), none⟩])
   (.ret))
   (.skip))))
  (.seq (.region true [⟨(some 14), .call F_types_names [], none⟩,
    ⟨(some 15), .fldA 0 (.t 3), none⟩,
    ⟨(some 16), .ld none (.t 15), none⟩,
    ⟨(some 17), .idxG 3 1 none (.t 14) (.t 16), none⟩,
    ⟨(some 18), .bin .add (.t 17) (.c (.str [32])), none⟩,
    ⟨(some 19), .fldA 1 (.t 3), none⟩,
    ⟨(some 20), .ld none (.t 19), none⟩,
    ⟨(some 21), .call F_strconv_Itoa [(.t 20)], none⟩,
    ⟨(some 22), .bin .add (.t 18) (.t 21), none⟩,
    ⟨(some 23), .s2b true (.t 22), none⟩,
    ⟨(some 7), .mov (.c (.undef)), none⟩,
    ⟨(some 7), .boxS 1 (.t 23), none⟩])
  (.seq (.region false [⟨(some 24), .ld (some 5) (.t 3), none⟩,
    ⟨(some 25), .mkf F_types_Print_1 [] [(.t 7), (.t 2)], none⟩,
    ⟨(some 26), .call F_types_each [(.t 24), (.t 25)], none⟩])
  (.seq (.region false [⟨(some 27), .ld none (.t 7), none⟩,
    ⟨(some 28), .b2s (.t 27), none⟩,
    ⟨(some 4), .mov (.t 28), none⟩,
    ⟨(some 5), .mov (.c (.int .i64 0)), none⟩])
  (.ret))))),
  [.tmp 4, .tmp 5]⟩

/- types_both -/
def A_types_both : AFun := ⟨50,
  .seq (.region false [⟨(some 3), .box (.t 0), none⟩,
    ⟨(some 4), .box (.t 1), none⟩,
    ⟨(some 5), .box (.t 2), none⟩,
    ⟨(some 6), .alloc [.sl .ex [], .sl .ex [], .int .i64 0], none⟩,
    ⟨(some 7), .mov (.c (.int .i64 0)), none⟩])
  (.seq (.region false [⟨(some 13), .ld (some 2) (.t 3), none⟩,
    ⟨(some 14), .call F_types_of [(.t 13)], none⟩,
    ⟨(some 12), .mov (.t 14), none⟩,
    ⟨(some 15), .extr (.t 12) 0, none⟩,
    ⟨(some 16), .extr (.t 12) 1, none⟩,
    ⟨(some 8), .alloc [.sl .ex [], .sl .ex [], .int .i64 0], none⟩,
    ⟨none, .st 3 (.t 8) (.t 15), none⟩,
    ⟨(some 9), .mov (.t 16), none⟩])
  (.seq (.seq (.region false [⟨(some 17), .mov (.t 9), none⟩,
    ⟨(some 18), .bin .neq (.t 17) (.c (.int .i64 0)), none⟩])
  (.cond (.t 18)
   (.seq (.region false [⟨(some 19), .ld (some 3) (.t 8), none⟩,
     ⟨(some 20), .mov (.t 9), none⟩,
     ⟨none, .st 3 (.t 6) (.t 19), none⟩,
     ⟨(some 7), .mov (.t 20), none⟩])
   (.ret))
   (.skip)))
  (.seq (.seq (.region false [⟨(some 21), .ld (some 3) (.t 8), none⟩,
    ⟨(some 22), .ld (some 5) (.t 4), none⟩,
    ⟨(some 23), .call F_types_order_check [(.t 21), (.t 22)], none⟩,
    ⟨(some 10), .mov (.t 23), none⟩])
  (.seq (.region false [⟨(some 24), .mov (.t 10), none⟩,
    ⟨(some 25), .bin .neq (.t 24) (.c (.int .i64 0)), none⟩])
  (.cond (.t 25)
   (.seq (.region false [⟨(some 26), .ld (some 3) (.t 8), none⟩,
     ⟨(some 27), .mov (.t 10), none⟩,
     ⟨none, .st 3 (.t 6) (.t 26), none⟩,
     ⟨(some 7), .mov (.t 27), none⟩])
   (.ret))
   (.skip))))
  (.seq (.seq (.region false [⟨(some 28), .ld (some 3) (.t 8), none⟩,
    ⟨(some 29), .ld (some 5) (.t 5), none⟩,
    ⟨(some 30), .call F_types_order_check [(.t 28), (.t 29)], none⟩,
    ⟨(some 11), .mov (.t 30), none⟩])
  (.seq (.region false [⟨(some 31), .mov (.t 11), none⟩,
    ⟨(some 32), .bin .neq (.t 31) (.c (.int .i64 0)), none⟩])
  (.cond (.t 32)
   (.seq (.region false [⟨(some 33), .ld (some 3) (.t 8), none⟩,
     ⟨(some 34), .mov (.t 11), none⟩,
     ⟨none, .st 3 (.t 6) (.t 33), none⟩,
     ⟨(some 7), .mov (.t 34), none⟩])
   (.ret))
   (.skip))))
  (.seq (.block 0 (.seq (.region false [⟨(some 36), .fldA 0 (.t 4), none⟩,
    ⟨(some 37), .ld none (.t 36), none⟩,
    ⟨(some 38), .fldA 0 (.t 5), none⟩,
    ⟨(some 39), .ld none (.t 38), none⟩,
    ⟨(some 40), .bin .neq (.t 37) (.t 39), none⟩,
    ⟨(some 35), .mov (.t 40), none⟩])
  (.cond (.t 35)
   (.seq (.region false [⟨(some 41), .ld (some 3) (.t 8), none⟩,
     ⟨none, .st 3 (.t 6) (.t 41), none⟩,
     ⟨(some 7), .mov (.c (.int .i64 21)), none⟩])
   (.ret))
   (.seq (.region false [⟨(some 43), .fldA 1 (.t 4), none⟩,
     ⟨(some 44), .ld none (.t 43), none⟩,
     ⟨(some 45), .fldA 1 (.t 5), none⟩,
     ⟨(some 46), .ld none (.t 45), none⟩,
     ⟨(some 47), .bin .neq (.t 44) (.t 46), none⟩,
     ⟨(some 42), .mov (.t 47), none⟩])
   (.cond (.t 42)
    (.seq (.region false [⟨(some 48), .ld (some 3) (.t 8), none⟩,
      ⟨none, .st 3 (.t 6) (.t 48), none⟩,
      ⟨(some 7), .mov (.c (.int .i64 22)), none⟩])
    (.ret))
    (.skip))))))
  (.seq (.region false [⟨(some 49), .ld (some 3) (.t 8), none⟩,
    ⟨none, .st 3 (.t 6) (.t 49), none⟩,
    ⟨(some 7), .mov (.c (.int .i64 0)), none⟩])
  (.ret))))))),
  [.cell (some 3) 6, .tmp 7]⟩

/- types_order_join -/
def A_types_order_join : AFun := ⟨24,
  .seq (.region false [⟨(some 3), .box (.t 0), none⟩,
    ⟨(some 6), .mov (.c (.int .i64 0)), none⟩])
  (.seq (.region true [⟨(some 7), .fldA 0 (.t 3), none⟩,
    ⟨(some 8), .fldA 1 (.t 7), none⟩,
    ⟨(some 9), .ld none (.t 8), none⟩,
    ⟨(some 10), .fldA 0 (.t 3), none⟩,
    ⟨(some 11), .fldA 1 (.t 10), none⟩,
    ⟨(some 12), .ld none (.t 11), none⟩,
    ⟨(some 13), .mov (.t 1), none⟩,
    ⟨(some 14), .idxA 1 (.t 12) (.t 13), none⟩,
    ⟨(some 15), .ld none (.t 14), none⟩,
    ⟨(some 16), .fldA 0 (.t 3), none⟩,
    ⟨(some 17), .fldA 1 (.t 16), none⟩,
    ⟨(some 18), .ld none (.t 17), none⟩,
    ⟨(some 19), .mov (.t 2), none⟩,
    ⟨(some 20), .idxA 1 (.t 18) (.t 19), none⟩,
    ⟨(some 21), .ld none (.t 20), none⟩,
    ⟨(some 22), .bin .and (.t 15) (.t 21), none⟩,
    ⟨(some 23), .call F_slices_Index_uint8_uint8 [(.t 9), (.t 22)], none⟩,
    ⟨(some 6), .mov (.t 23), none⟩])
  (.ret)),
  [.tmp 6]⟩

/- types_of -/
def A_types_of : AFun := ⟨26,
  .seq (.region false [⟨(some 1), .box (.t 0), none⟩,
    ⟨(some 2), .alloc [.sl .ex [], .sl .ex [], .int .i64 0], none⟩,
    ⟨(some 3), .mov (.c (.int .i64 0)), none⟩])
  (.seq (.seq (.region false [⟨(some 9), .ld (some 2) (.t 1), none⟩,
    ⟨(some 10), .call F_lattice_Check [(.t 9)], none⟩,
    ⟨(some 8), .mov (.t 10), none⟩,
    ⟨(some 11), .extr (.t 8) 0, none⟩,
    ⟨(some 12), .extr (.t 8) 1, none⟩,
    ⟨(some 4), .mov (.t 11), none⟩,
    ⟨(some 5), .mov (.t 12), none⟩])
  (.seq (.region false [⟨(some 13), .mov (.t 5), none⟩,
    ⟨(some 14), .bin .neq (.t 13) (.c (.int .i64 0)), none⟩])
  (.cond (.t 14)
   (.seq (.region false [⟨(some 15), .build [.sl .ex [], .sl .ex [], .int .i64 0] [], none⟩,
     ⟨(some 16), .mov (.t 5), none⟩,
     ⟨none, .st 3 (.t 2) (.t 15), none⟩,
     ⟨(some 3), .mov (.t 16), none⟩])
   (.ret))
   (.skip))))
  (.seq (.region false [⟨(some 18), .ld (some 2) (.t 1), none⟩,
    ⟨(some 19), .call F_lattice_Bottom [(.t 18)], none⟩,
    ⟨(some 17), .mov (.t 19), none⟩,
    ⟨(some 20), .extr (.t 17) 0, none⟩,
    ⟨(some 21), .extr (.t 17) 1, none⟩,
    ⟨(some 6), .mov (.t 20), none⟩,
    ⟨(some 7), .mov (.t 21), none⟩])
  (.seq (.region false [⟨(some 22), .ld (some 2) (.t 1), none⟩,
    ⟨(some 23), .mov (.t 6), none⟩,
    ⟨(some 24), .build [.sl .ex [], .sl .ex [], .int .i64 0] [(0, 2, (.t 22)), (2, 1, (.t 23))], none⟩,
    ⟨(some 25), .mov (.t 7), none⟩,
    ⟨none, .st 3 (.t 2) (.t 24), none⟩,
    ⟨(some 3), .mov (.t 25), none⟩])
  (.ret)))),
  [.cell (some 3) 2, .tmp 3]⟩

/- types_order_check -/
def A_types_order_check : AFun := ⟨60,
  .seq (.region false [⟨(some 2), .box (.t 0), none⟩,
    ⟨(some 3), .box (.t 1), none⟩,
    ⟨(some 4), .mov (.c (.int .i64 0)), none⟩])
  (.seq (.block 0 (.seq (.seq (.region false [⟨(some 7), .fldA 0 (.t 3), none⟩,
    ⟨(some 8), .ld none (.t 7), none⟩,
    ⟨(some 9), .bin .neq (.t 8) (.c (.int .i64 1)), none⟩,
    ⟨(some 10), .mov (.t 9), none⟩,
    ⟨(some 11), .fldA 0 (.t 3), some (10, true)⟩,
    ⟨(some 12), .ld none (.t 11), some (10, true)⟩,
    ⟨(some 13), .bin .neq (.t 12) (.c (.int .i64 2)), some (10, true)⟩,
    ⟨(some 14), .pick (.t 10) (.t 13) (.c (.bool false)), none⟩,
    ⟨(some 6), .mov (.t 14), none⟩])
  (.cond (.t 6)
   (.skip)
   (.seq (.region false [⟨(some 15), .fldA 1 (.t 3), none⟩,
     ⟨(some 16), .ld none (.t 15), none⟩,
     ⟨(some 17), .bin .lss (.t 16) (.c (.int .i64 0)), none⟩,
     ⟨(some 6), .mov (.t 17), none⟩])
   (.cond (.t 6)
    (.skip)
    (.region false [⟨(some 18), .fldA 1 (.t 3), none⟩,
      ⟨(some 19), .ld none (.t 18), none⟩,
      ⟨(some 20), .bin .gtr (.t 19) (.c (.int .i64 2)), none⟩,
      ⟨(some 6), .mov (.t 20), none⟩])))))
  (.cond (.t 6)
   (.seq (.region false [⟨(some 4), .mov (.c (.int .i64 7)), none⟩])
   (.ret))
   (.seq (.seq (.region false [⟨(some 22), .ld (some 3) (.t 2), none⟩,
     ⟨(some 23), .fldA 2 (.t 3), none⟩,
     ⟨(some 24), .idxP 2 1 (.t 23) (.c (.int .i64 0)), none⟩,
     ⟨(some 25), .ld none (.t 24), none⟩,
     ⟨(some 26), .call F_types_order_label [(.t 22), (.t 25)], none⟩,
     ⟨(some 27), .not (.t 26), none⟩,
     ⟨(some 21), .mov (.t 27), none⟩])
   (.cond (.t 21)
    (.skip)
    (.seq (.region false [⟨(some 28), .ld (some 3) (.t 2), none⟩,
      ⟨(some 29), .fldA 2 (.t 3), none⟩,
      ⟨(some 30), .idxP 2 1 (.t 29) (.c (.int .i64 1)), none⟩,
      ⟨(some 31), .ld none (.t 30), none⟩,
      ⟨(some 32), .call F_types_order_label [(.t 28), (.t 31)], none⟩,
      ⟨(some 33), .not (.t 32), none⟩,
      ⟨(some 21), .mov (.t 33), none⟩])
    (.cond (.t 21)
     (.skip)
     (.region false [⟨(some 34), .ld (some 3) (.t 2), none⟩,
       ⟨(some 35), .fldA 4 (.t 3), none⟩,
       ⟨(some 36), .ld none (.t 35), none⟩,
       ⟨(some 37), .call F_types_order_label [(.t 34), (.t 36)], none⟩,
       ⟨(some 38), .not (.t 37), none⟩,
       ⟨(some 21), .mov (.t 38), none⟩])))))
   (.cond (.t 21)
    (.seq (.region false [⟨(some 4), .mov (.c (.int .i64 7)), none⟩])
    (.ret))
    (.skip))))))
  (.seq (.region false [⟨(some 39), .fldA 2 (.t 2), none⟩,
    ⟨(some 40), .ld none (.t 39), none⟩,
    ⟨(some 41), .fldA 2 (.t 2), none⟩,
    ⟨(some 42), .ld none (.t 41), none⟩,
    ⟨(some 43), .build [.int .i64 0, .int .i64 0] [(0, 1, (.t 40)), (1, 1, (.t 42))], none⟩,
    ⟨(some 5), .alloc [.int .i64 0, .int .i64 0], none⟩,
    ⟨none, .st 2 (.t 5) (.t 43), none⟩])
  (.seq (.region true [⟨(some 44), .fldA 1 (.t 3), none⟩,
    ⟨(some 45), .ld none (.t 44), none⟩,
    ⟨(some 46), .slA 2 1 (.t 5) none (some (.t 45)) none, none⟩,
    ⟨(some 47), .fldA 2 (.t 3), none⟩,
    ⟨(some 48), .slA 2 1 (.t 47) none none none, none⟩,
    ⟨(some 49), .cpy (.t 46) (.t 48), none⟩])
  (.seq (.seq (.region false [⟨(some 50), .ld (some 2) (.t 5), none⟩,
    ⟨(some 51), .fldA 2 (.t 3), none⟩,
    ⟨(some 52), .ld (some 2) (.t 51), none⟩,
    ⟨(some 53), .aeq true [0, 0] (.t 50) (.t 52), none⟩])
  (.cond (.t 53)
   (.seq (.region false [⟨(some 4), .mov (.c (.int .i64 6)), none⟩])
   (.ret))
   (.skip)))
  (.seq (.seq (.region false [⟨(some 54), .fldA 2 (.t 3), none⟩,
    ⟨(some 55), .fldA 1 (.t 3), none⟩,
    ⟨(some 56), .ld none (.t 55), none⟩,
    ⟨(some 57), .slA 2 1 (.t 54) none (some (.t 56)) none, none⟩,
    ⟨(some 58), .mkf F_types_order_check_1 [] [(.t 2), (.t 3)], none⟩,
    ⟨(some 59), .call F_slices_ContainsFunc_int_int [(.t 57), (.t 58)], none⟩])
  (.cond (.t 59)
   (.seq (.region false [⟨(some 4), .mov (.c (.int .i64 25)), none⟩])
   (.ret))
   (.skip)))
  (.seq (.region false [⟨(some 4), .mov (.c (.int .i64 0)), none⟩])
  (.ret))))))),
  [.tmp 4]⟩

/- types_order_label -/
def A_types_order_label : AFun := ⟨15,
  .seq (.region false [⟨(some 2), .box (.t 0), none⟩,
    ⟨(some 4), .mov (.c (.bool false)), none⟩])
  (.seq (.region false [⟨(some 5), .mov (.t 1), none⟩,
    ⟨(some 6), .bin .geq (.t 5) (.c (.int .i64 0)), none⟩,
    ⟨(some 7), .mov (.t 6), none⟩,
    ⟨(some 8), .mov (.t 1), some (7, true)⟩,
    ⟨(some 9), .fldA 0 (.t 2), some (7, true)⟩,
    ⟨(some 10), .fldA 0 (.t 9), some (7, true)⟩,
    ⟨(some 11), .ld none (.t 10), some (7, true)⟩,
    ⟨(some 12), .len (.t 11), some (7, true)⟩,
    ⟨(some 13), .bin .lss (.t 8) (.t 12), some (7, true)⟩,
    ⟨(some 14), .pick (.t 7) (.t 13) (.c (.bool false)), none⟩,
    ⟨(some 4), .mov (.t 14), none⟩])
  (.ret)),
  [.tmp 4]⟩

/- types_each -/
def A_types_eachL0 : ACode :=
  .seq (.region false [⟨(some 9), .bin .lss (.t 8) (.t 7), none⟩])
  (.seq (.cond (.t 9)
   (.skip)
   (.exit 0))
  (.seq (.block 1 (.seq (.region false [⟨(some 10), .mov (.t 8), none⟩,
    ⟨(some 5), .mov (.t 10), none⟩])
  (.region false [⟨(some 11), .mov (.t 5), none⟩,
    ⟨(some 12), .mov (.t 1), none⟩,
    ⟨(some 13), .mov (.t 5), none⟩,
    ⟨(some 14), .fldA 2 (.t 2), none⟩,
    ⟨(some 15), .idxP 2 1 (.t 14) (.t 13), none⟩,
    ⟨(some 16), .ld none (.t 15), none⟩,
    ⟨(some 17), .callv (.t 12) [(.t 16)], none⟩,
    ⟨(some 18), .fldA 2 (.t 2), none⟩,
    ⟨(some 19), .idxP 2 1 (.t 18) (.t 11), none⟩,
    ⟨none, .st 1 (.t 19) (.t 17), none⟩])))
  (.region false [⟨(some 20), .bin .add (.t 8) (.c (.int .i64 1)), none⟩,
    ⟨(some 8), .mov (.t 20), none⟩])))
def A_types_each : AFun := ⟨27,
  .seq (.region false [⟨(some 2), .box (.t 0), none⟩,
    ⟨(some 4), .alloc [.int .i64 0, .int .i64 0, .int .i64 0, .int .i64 0, .int .i64 0], none⟩])
  (.seq (.seq (.region false [⟨(some 6), .fldA 1 (.t 2), none⟩,
    ⟨(some 7), .ld none (.t 6), none⟩,
    ⟨(some 8), .mov (.c (.int .i64 0)), none⟩])
  (.block 0 (.loop A_types_eachL0)))
  (.seq (.region false [⟨(some 21), .mov (.t 1), none⟩,
    ⟨(some 22), .fldA 4 (.t 2), none⟩,
    ⟨(some 23), .ld none (.t 22), none⟩,
    ⟨(some 24), .callv (.t 21) [(.t 23)], none⟩,
    ⟨(some 25), .fldA 4 (.t 2), none⟩,
    ⟨none, .st 1 (.t 25) (.t 24), none⟩])
  (.seq (.region false [⟨(some 26), .ld (some 5) (.t 2), none⟩,
    ⟨none, .st 5 (.t 4) (.t 26), none⟩])
  (.ret)))),
  [.cell (some 5) 4]⟩

/- types_with_up -/
def A_types_with_up : AFun := ⟨11,
  .seq (.region false [⟨(some 2), .box (.t 0), none⟩,
    ⟨(some 4), .mov (.c (.int .i64 0)), none⟩])
  (.seq (.region false [⟨(some 5), .fldA 0 (.t 2), none⟩,
    ⟨(some 6), .ld (some 3) (.t 5), none⟩,
    ⟨(some 7), .mov (.t 1), none⟩,
    ⟨(some 8), .fldA 3 (.t 2), none⟩,
    ⟨(some 9), .ld none (.t 8), none⟩,
    ⟨(some 10), .call F_types_order_join [(.t 6), (.t 7), (.t 9)], none⟩,
    ⟨(some 4), .mov (.t 10), none⟩])
  (.ret)),
  [.tmp 4]⟩

/- ref03_asked -/
def A_ref03_asked : AFun := ⟨39,
  .seq (.region false [⟨(some 3), .box (.t 0), none⟩,
    ⟨(some 6), .mov (.c (.int .i64 0)), none⟩])
  (.seq (.region false [⟨(some 10), .ld (some 2) (.t 3), none⟩,
    ⟨(some 11), .call F_ref03_Check [(.t 10)], none⟩,
    ⟨(some 9), .mov (.t 11), none⟩,
    ⟨(some 12), .extr (.t 9) 0, none⟩,
    ⟨(some 13), .extr (.t 9) 1, none⟩,
    ⟨(some 7), .mov (.t 12), none⟩,
    ⟨(some 8), .mov (.t 13), none⟩])
  (.seq (.seq (.region false [⟨(some 14), .mov (.t 8), none⟩,
    ⟨(some 15), .bin .eql (.t 14) (.c (.int .i64 0)), none⟩,
    ⟨(some 16), .mov (.t 15), none⟩,
    ⟨(some 17), .mov (.t 1), some (16, true)⟩,
    ⟨(some 18), .bin .lss (.t 17) (.c (.int .i64 0)), some (16, true)⟩,
    ⟨(some 19), .mov (.t 18), some (16, true)⟩,
    ⟨(some 20), .mov (.t 1), some (19, false)⟩,
    ⟨(some 21), .fldA 0 (.t 3), some (19, false)⟩,
    ⟨(some 22), .ld none (.t 21), some (19, false)⟩,
    ⟨(some 23), .len (.t 22), some (19, false)⟩,
    ⟨(some 24), .bin .geq (.t 20) (.t 23), some (19, false)⟩,
    ⟨(some 25), .pick (.t 19) (.c (.bool true)) (.t 24), some (16, true)⟩,
    ⟨(some 26), .mov (.t 25), some (16, true)⟩,
    ⟨(some 27), .mov (.t 2), some (26, false)⟩,
    ⟨(some 28), .bin .lss (.t 27) (.c (.int .i64 0)), some (26, false)⟩,
    ⟨(some 29), .pick (.t 26) (.c (.bool true)) (.t 28), some (16, true)⟩,
    ⟨(some 30), .mov (.t 29), some (16, true)⟩,
    ⟨(some 31), .mov (.t 2), some (30, false)⟩,
    ⟨(some 32), .fldA 0 (.t 3), some (30, false)⟩,
    ⟨(some 33), .ld none (.t 32), some (30, false)⟩,
    ⟨(some 34), .len (.t 33), some (30, false)⟩,
    ⟨(some 35), .bin .geq (.t 31) (.t 34), some (30, false)⟩,
    ⟨(some 36), .pick (.t 30) (.c (.bool true)) (.t 35), some (16, true)⟩,
    ⟨(some 37), .pick (.t 16) (.t 36) (.c (.bool false)), none⟩])
  (.cond (.t 37)
   (.region false [⟨(some 8), .mov (.c (.int .i64 7)), none⟩])
   (.skip)))
  (.seq (.region false [⟨(some 38), .mov (.t 8), none⟩,
    ⟨(some 6), .mov (.t 38), none⟩])
  (.ret)))),
  [.tmp 6]⟩

/- ref03_join -/
def A_ref03_join : AFun := ⟨12,
  .seq (.region false [⟨(some 3), .box (.t 0), none⟩,
    ⟨(some 6), .mov (.c (.int .i64 0)), none⟩])
  (.seq (.region false [⟨(some 7), .fldA 1 (.t 3), none⟩,
    ⟨(some 8), .ld none (.t 7), none⟩,
    ⟨(some 9), .mov (.t 1), none⟩,
    ⟨(some 10), .mov (.t 2), none⟩,
    ⟨(some 11), .call F_ref03_nearest [(.t 8), (.t 9), (.t 10)], none⟩,
    ⟨(some 6), .mov (.t 11), none⟩])
  (.ret)),
  [.tmp 6]⟩

/- ref03_downs -/
def A_ref03_downsL1 : ACode :=
  .seq (.seq (.region false [⟨(some 17), .mov (.t 5), none⟩,
    ⟨(some 18), .fldA 0 (.t 1), none⟩,
    ⟨(some 19), .ld none (.t 18), none⟩,
    ⟨(some 20), .len (.t 19), none⟩,
    ⟨(some 21), .bin .lss (.t 17) (.t 20), none⟩])
  (.cond (.t 21)
   (.skip)
   (.exit 2)))
  (.seq (.block 3 (.seq (.region false [⟨(some 24), .ld (some 2) (.t 1), none⟩,
    ⟨(some 25), .mov (.t 4), none⟩,
    ⟨(some 26), .mov (.t 5), none⟩,
    ⟨(some 27), .call F_ref03_Below [(.t 24), (.t 25), (.t 26)], none⟩])
  (.cond (.t 27)
   (.region true [⟨(some 28), .mov (.t 3), none⟩,
     ⟨(some 29), .mov (.t 5), none⟩,
     ⟨(some 30), .mov (.t 3), none⟩,
     ⟨(some 31), .mov (.t 5), none⟩,
     ⟨(some 32), .idxA 1 (.t 30) (.t 31), none⟩,
     ⟨(some 33), .ld none (.t 32), none⟩,
     ⟨(some 34), .mov (.t 4), none⟩,
     ⟨(some 35), .bin .shl (.c (.int .u8 1)) (.t 34), none⟩,
     ⟨(some 36), .bin .or (.t 33) (.t 35), none⟩,
     ⟨(some 37), .idxA 1 (.t 28) (.t 29), none⟩,
     ⟨none, .st 1 (.t 37) (.t 36), none⟩])
   (.skip))))
  (.region false [⟨(some 22), .mov (.t 5), none⟩,
    ⟨(some 23), .bin .add (.t 22) (.c (.int .i64 1)), none⟩,
    ⟨(some 5), .mov (.t 23), none⟩]))
def A_ref03_downsL0 : ACode :=
  .seq (.seq (.region false [⟨(some 10), .mov (.t 4), none⟩,
    ⟨(some 11), .fldA 0 (.t 1), none⟩,
    ⟨(some 12), .ld none (.t 11), none⟩,
    ⟨(some 13), .len (.t 12), none⟩,
    ⟨(some 14), .bin .lss (.t 10) (.t 13), none⟩])
  (.cond (.t 14)
   (.skip)
   (.exit 0)))
  (.seq (.block 1 (.seq (.region false [⟨(some 5), .mov (.c (.int .i64 0)), none⟩])
  (.block 2 (.loop A_ref03_downsL1))))
  (.region false [⟨(some 15), .mov (.t 4), none⟩,
    ⟨(some 16), .bin .add (.t 15) (.c (.int .i64 1)), none⟩,
    ⟨(some 4), .mov (.t 16), none⟩]))
def A_ref03_downs : AFun := ⟨39,
  .seq (.region false [⟨(some 1), .box (.t 0), none⟩,
    ⟨(some 2), .mov (.c (.sl .ex [])), none⟩])
  (.seq (.region false [⟨(some 6), .fldA 0 (.t 1), none⟩,
    ⟨(some 7), .ld none (.t 6), none⟩,
    ⟨(some 8), .len (.t 7), none⟩,
    ⟨(some 9), .mkR 1 1 [.int .u8 0] (.t 8) (.t 8), none⟩,
    ⟨(some 3), .mov (.t 9), none⟩])
  (.seq (.seq (.region false [⟨(some 4), .mov (.c (.int .i64 0)), none⟩])
  (.block 0 (.loop A_ref03_downsL0)))
  (.seq (.region false [⟨(some 38), .mov (.t 3), none⟩,
    ⟨(some 2), .mov (.t 38), none⟩])
  (.ret)))),
  [.tmp 2]⟩

/- ref03_nearest -/
def A_ref03_nearestL0 : ACode :=
  .seq (.seq (.region false [⟨(some 18), .mov (.t 8), none⟩,
    ⟨(some 19), .mov (.t 0), none⟩,
    ⟨(some 20), .len (.t 19), none⟩,
    ⟨(some 21), .bin .lss (.t 18) (.t 20), none⟩])
  (.cond (.t 21)
   (.skip)
   (.exit 0)))
  (.seq (.block 1 (.seq (.region false [⟨(some 24), .mov (.t 0), none⟩,
    ⟨(some 25), .mov (.t 8), none⟩,
    ⟨(some 26), .idxA 1 (.t 24) (.t 25), none⟩,
    ⟨(some 27), .ld none (.t 26), none⟩,
    ⟨(some 28), .mov (.t 7), none⟩,
    ⟨(some 29), .bin .eql (.t 27) (.t 28), none⟩])
  (.cond (.t 29)
   (.seq (.region false [⟨(some 30), .mov (.t 8), none⟩,
     ⟨(some 6), .mov (.t 30), none⟩])
   (.ret))
   (.skip))))
  (.region false [⟨(some 22), .mov (.t 8), none⟩,
    ⟨(some 23), .bin .add (.t 22) (.c (.int .i64 1)), none⟩,
    ⟨(some 8), .mov (.t 23), none⟩]))
def A_ref03_nearest : AFun := ⟨31,
  .seq (.region false [⟨(some 6), .mov (.c (.int .i64 0)), none⟩])
  (.seq (.region true [⟨(some 9), .mov (.t 0), none⟩,
    ⟨(some 10), .mov (.t 1), none⟩,
    ⟨(some 11), .idxA 1 (.t 9) (.t 10), none⟩,
    ⟨(some 12), .ld none (.t 11), none⟩,
    ⟨(some 13), .mov (.t 0), none⟩,
    ⟨(some 14), .mov (.t 2), none⟩,
    ⟨(some 15), .idxA 1 (.t 13) (.t 14), none⟩,
    ⟨(some 16), .ld none (.t 15), none⟩,
    ⟨(some 17), .bin .and (.t 12) (.t 16), none⟩,
    ⟨(some 7), .mov (.t 17), none⟩])
  (.seq (.seq (.region false [⟨(some 8), .mov (.c (.int .i64 0)), none⟩])
  (.block 0 (.loop A_ref03_nearestL0)))
  (.seq (.region false [⟨(some 6), .mov (.c (.int .i64 (-1))), none⟩])
  (.ret)))),
  [.tmp 6]⟩

/- ref03_Check -/
def A_ref03_CheckL0 : ACode :=
  .seq (.seq (.region false [⟨(some 29), .mov (.t 7), none⟩,
    ⟨(some 30), .mov (.t 6), none⟩,
    ⟨(some 31), .bin .lss (.t 29) (.t 30), none⟩])
  (.cond (.t 31)
   (.skip)
   (.exit 0)))
  (.seq (.block 1 (.seq (.region false [⟨(some 34), .ld (some 2) (.t 1), none⟩,
    ⟨(some 35), .mov (.t 7), none⟩,
    ⟨(some 36), .call F_ref03_ordered [(.t 34), (.t 35)], none⟩,
    ⟨(some 37), .not (.t 36), none⟩])
  (.cond (.t 37)
   (.seq (.region false [⟨(some 38), .mov (.t 7), none⟩,
     ⟨(some 2), .mov (.t 38), none⟩,
     ⟨(some 3), .mov (.c (.int .i64 6)), none⟩])
   (.ret))
   (.skip))))
  (.region false [⟨(some 32), .mov (.t 7), none⟩,
    ⟨(some 33), .bin .add (.t 32) (.c (.int .i64 1)), none⟩,
    ⟨(some 7), .mov (.t 33), none⟩]))
def A_ref03_CheckL2 : ACode :=
  .seq (.seq (.region false [⟨(some 46), .mov (.t 10), none⟩,
    ⟨(some 47), .mov (.t 6), none⟩,
    ⟨(some 48), .bin .lss (.t 46) (.t 47), none⟩])
  (.cond (.t 48)
   (.skip)
   (.exit 4)))
  (.seq (.block 5 (.seq (.region false [⟨(some 51), .fldA 1 (.t 1), none⟩,
    ⟨(some 52), .ld none (.t 51), none⟩,
    ⟨(some 53), .mov (.t 9), none⟩,
    ⟨(some 54), .mov (.t 10), none⟩,
    ⟨(some 55), .call F_ref03_nearest [(.t 52), (.t 53), (.t 54)], none⟩,
    ⟨(some 56), .bin .lss (.t 55) (.c (.int .i64 0)), none⟩,
    ⟨(some 57), .mov (.t 56), none⟩,
    ⟨(some 58), .mov (.t 8), some (57, false)⟩,
    ⟨(some 59), .mov (.t 9), some (57, false)⟩,
    ⟨(some 60), .mov (.t 10), some (57, false)⟩,
    ⟨(some 61), .call F_ref03_nearest [(.t 58), (.t 59), (.t 60)], some (57, false)⟩,
    ⟨(some 62), .bin .lss (.t 61) (.c (.int .i64 0)), some (57, false)⟩,
    ⟨(some 63), .pick (.t 57) (.c (.bool true)) (.t 62), none⟩])
  (.cond (.t 63)
   (.seq (.region false [⟨(some 64), .mov (.t 9), none⟩,
     ⟨(some 2), .mov (.t 64), none⟩,
     ⟨(some 3), .mov (.c (.int .i64 4)), none⟩])
   (.ret))
   (.skip))))
  (.region false [⟨(some 49), .mov (.t 10), none⟩,
    ⟨(some 50), .bin .add (.t 49) (.c (.int .i64 1)), none⟩,
    ⟨(some 10), .mov (.t 50), none⟩]))
def A_ref03_CheckL1 : ACode :=
  .seq (.seq (.region false [⟨(some 41), .mov (.t 9), none⟩,
    ⟨(some 42), .mov (.t 6), none⟩,
    ⟨(some 43), .bin .lss (.t 41) (.t 42), none⟩])
  (.cond (.t 43)
   (.skip)
   (.exit 2)))
  (.seq (.block 3 (.seq (.region false [⟨(some 10), .mov (.c (.int .i64 0)), none⟩])
  (.block 4 (.loop A_ref03_CheckL2))))
  (.region false [⟨(some 44), .mov (.t 9), none⟩,
    ⟨(some 45), .bin .add (.t 44) (.c (.int .i64 1)), none⟩,
    ⟨(some 9), .mov (.t 45), none⟩]))
def A_ref03_Check : AFun := ⟨65,
  .seq (.region false [⟨(some 1), .box (.t 0), none⟩,
    ⟨(some 2), .mov (.c (.int .i64 0)), none⟩,
    ⟨(some 3), .mov (.c (.int .i64 0)), none⟩])
  (.seq (.region false [⟨(some 12), .fldA 0 (.t 1), none⟩,
    ⟨(some 13), .ld none (.t 12), none⟩,
    ⟨(some 14), .call F_ref03_names [(.t 13)], none⟩,
    ⟨(some 11), .mov (.t 14), none⟩,
    ⟨(some 15), .extr (.t 11) 0, none⟩,
    ⟨(some 16), .extr (.t 11) 1, none⟩,
    ⟨(some 4), .mov (.t 15), none⟩,
    ⟨(some 5), .mov (.t 16), none⟩])
  (.seq (.seq (.region false [⟨(some 17), .mov (.t 5), none⟩,
    ⟨(some 18), .bin .neq (.t 17) (.c (.int .i64 0)), none⟩])
  (.cond (.t 18)
   (.seq (.region false [⟨(some 19), .mov (.t 4), none⟩,
     ⟨(some 20), .mov (.t 5), none⟩,
     ⟨(some 2), .mov (.t 19), none⟩,
     ⟨(some 3), .mov (.t 20), none⟩])
   (.ret))
   (.skip)))
  (.seq (.region false [⟨(some 21), .fldA 0 (.t 1), none⟩,
    ⟨(some 22), .ld none (.t 21), none⟩,
    ⟨(some 23), .len (.t 22), none⟩,
    ⟨(some 6), .mov (.t 23), none⟩])
  (.seq (.seq (.region false [⟨(some 24), .fldA 1 (.t 1), none⟩,
    ⟨(some 25), .ld none (.t 24), none⟩,
    ⟨(some 26), .len (.t 25), none⟩,
    ⟨(some 27), .mov (.t 6), none⟩,
    ⟨(some 28), .bin .neq (.t 26) (.t 27), none⟩])
  (.cond (.t 28)
   (.seq (.region false [⟨(some 2), .mov (.c (.int .i64 (-1))), none⟩,
     ⟨(some 3), .mov (.c (.int .i64 6)), none⟩])
   (.ret))
   (.skip)))
  (.seq (.seq (.region false [⟨(some 7), .mov (.c (.int .i64 0)), none⟩])
  (.block 0 (.loop A_ref03_CheckL0)))
  (.seq (.region false [⟨(some 39), .ld (some 2) (.t 1), none⟩,
    ⟨(some 40), .call F_ref03_downs [(.t 39)], none⟩,
    ⟨(some 8), .mov (.t 40), none⟩])
  (.seq (.seq (.region false [⟨(some 9), .mov (.c (.int .i64 0)), none⟩])
  (.block 2 (.loop A_ref03_CheckL1)))
  (.seq (.region false [⟨(some 2), .mov (.c (.int .i64 0)), none⟩,
    ⟨(some 3), .mov (.c (.int .i64 0)), none⟩])
  (.ret))))))))),
  [.tmp 2, .tmp 3]⟩

/- ref20_Good -/
def A_ref20_GoodL0 : ACode :=
  .seq (.seq (.region false [⟨(some 48), .mov (.t 5), none⟩,
    ⟨(some 49), .bin .lss (.t 48) (.c (.int .i64 2)), none⟩])
  (.cond (.t 49)
   (.skip)
   (.exit 0)))
  (.seq (.block 1 (.seq (.region true [⟨(some 52), .mov (.t 5), none⟩,
    ⟨(some 53), .fldA 2 (.t 3), none⟩,
    ⟨(some 54), .idxP 2 1 (.t 53) (.t 52), none⟩,
    ⟨(some 55), .ld none (.t 54), none⟩,
    ⟨(some 56), .ld (some 2) (.t 2), none⟩,
    ⟨(some 57), .call F_ref20_Low [(.t 56)], none⟩,
    ⟨(some 58), .bin .neq (.t 55) (.t 57), none⟩])
  (.cond (.t 58)
   (.seq (.region false [⟨(some 4), .mov (.c (.int .i64 6)), none⟩])
   (.ret))
   (.skip))))
  (.region false [⟨(some 50), .mov (.t 5), none⟩,
    ⟨(some 51), .bin .add (.t 50) (.c (.int .i64 1)), none⟩,
    ⟨(some 5), .mov (.t 51), none⟩]))
def A_ref20_GoodL1 : ACode :=
  .seq (.seq (.region false [⟨(some 59), .mov (.t 6), none⟩,
    ⟨(some 60), .fldA 1 (.t 3), none⟩,
    ⟨(some 61), .ld none (.t 60), none⟩,
    ⟨(some 62), .bin .lss (.t 59) (.t 61), none⟩])
  (.cond (.t 62)
   (.skip)
   (.exit 2)))
  (.seq (.block 3 (.seq (.region true [⟨(some 65), .ld (some 2) (.t 2), none⟩,
    ⟨(some 66), .mov (.t 6), none⟩,
    ⟨(some 67), .fldA 2 (.t 3), none⟩,
    ⟨(some 68), .idxP 2 1 (.t 67) (.t 66), none⟩,
    ⟨(some 69), .ld none (.t 68), none⟩,
    ⟨(some 70), .fldA 4 (.t 3), none⟩,
    ⟨(some 71), .ld none (.t 70), none⟩,
    ⟨(some 72), .call F_ref20_Leq [(.t 65), (.t 69), (.t 71)], none⟩,
    ⟨(some 73), .not (.t 72), none⟩])
  (.cond (.t 73)
   (.seq (.region false [⟨(some 4), .mov (.c (.int .i64 25)), none⟩])
   (.ret))
   (.skip))))
  (.region false [⟨(some 63), .mov (.t 6), none⟩,
    ⟨(some 64), .bin .add (.t 63) (.c (.int .i64 1)), none⟩,
    ⟨(some 6), .mov (.t 64), none⟩]))
def A_ref20_Good : AFun := ⟨74,
  .seq (.region false [⟨(some 2), .box (.t 0), none⟩,
    ⟨(some 3), .box (.t 1), none⟩,
    ⟨(some 4), .mov (.c (.int .i64 0)), none⟩])
  (.seq (.seq (.region false [⟨(some 7), .fldA 0 (.t 3), none⟩,
    ⟨(some 8), .ld none (.t 7), none⟩,
    ⟨(some 9), .bin .neq (.t 8) (.c (.int .i64 1)), none⟩,
    ⟨(some 10), .mov (.t 9), none⟩,
    ⟨(some 11), .fldA 0 (.t 3), some (10, true)⟩,
    ⟨(some 12), .ld none (.t 11), some (10, true)⟩,
    ⟨(some 13), .bin .neq (.t 12) (.c (.int .i64 2)), some (10, true)⟩,
    ⟨(some 14), .pick (.t 10) (.t 13) (.c (.bool false)), none⟩,
    ⟨(some 15), .mov (.t 14), none⟩,
    ⟨(some 16), .fldA 1 (.t 3), some (15, false)⟩,
    ⟨(some 17), .ld none (.t 16), some (15, false)⟩,
    ⟨(some 18), .bin .lss (.t 17) (.c (.int .i64 0)), some (15, false)⟩,
    ⟨(some 19), .pick (.t 15) (.c (.bool true)) (.t 18), none⟩,
    ⟨(some 20), .mov (.t 19), none⟩,
    ⟨(some 21), .fldA 1 (.t 3), some (20, false)⟩,
    ⟨(some 22), .ld none (.t 21), some (20, false)⟩,
    ⟨(some 23), .bin .gtr (.t 22) (.c (.int .i64 2)), some (20, false)⟩,
    ⟨(some 24), .pick (.t 20) (.c (.bool true)) (.t 23), none⟩])
  (.cond (.t 24)
   (.seq (.region false [⟨(some 4), .mov (.c (.int .i64 7)), none⟩])
   (.ret))
   (.skip)))
  (.seq (.seq (.region false [⟨(some 25), .ld (some 2) (.t 2), none⟩,
    ⟨(some 26), .fldA 2 (.t 3), none⟩,
    ⟨(some 27), .idxP 2 1 (.t 26) (.c (.int .i64 0)), none⟩,
    ⟨(some 28), .ld none (.t 27), none⟩,
    ⟨(some 29), .call F_ref20_Label [(.t 25), (.t 28)], none⟩,
    ⟨(some 30), .not (.t 29), none⟩,
    ⟨(some 31), .mov (.t 30), none⟩,
    ⟨(some 32), .ld (some 2) (.t 2), some (31, false)⟩,
    ⟨(some 33), .fldA 2 (.t 3), some (31, false)⟩,
    ⟨(some 34), .idxP 2 1 (.t 33) (.c (.int .i64 1)), some (31, false)⟩,
    ⟨(some 35), .ld none (.t 34), some (31, false)⟩,
    ⟨(some 36), .call F_ref20_Label [(.t 32), (.t 35)], some (31, false)⟩,
    ⟨(some 37), .not (.t 36), some (31, false)⟩,
    ⟨(some 38), .pick (.t 31) (.c (.bool true)) (.t 37), none⟩,
    ⟨(some 39), .mov (.t 38), none⟩,
    ⟨(some 40), .ld (some 2) (.t 2), some (39, false)⟩,
    ⟨(some 41), .fldA 4 (.t 3), some (39, false)⟩,
    ⟨(some 42), .ld none (.t 41), some (39, false)⟩,
    ⟨(some 43), .call F_ref20_Label [(.t 40), (.t 42)], some (39, false)⟩,
    ⟨(some 44), .not (.t 43), some (39, false)⟩,
    ⟨(some 45), .pick (.t 39) (.c (.bool true)) (.t 44), none⟩])
  (.cond (.t 45)
   (.seq (.region false [⟨(some 4), .mov (.c (.int .i64 7)), none⟩])
   (.ret))
   (.skip)))
  (.seq (.seq (.region false [⟨(some 46), .fldA 1 (.t 3), none⟩,
    ⟨(some 47), .ld none (.t 46), none⟩,
    ⟨(some 5), .mov (.t 47), none⟩])
  (.block 0 (.loop A_ref20_GoodL0)))
  (.seq (.seq (.region false [⟨(some 6), .mov (.c (.int .i64 0)), none⟩])
  (.block 2 (.loop A_ref20_GoodL1)))
  (.seq (.region false [⟨(some 4), .mov (.c (.int .i64 0)), none⟩])
  (.ret)))))),
  [.tmp 4]⟩

/- ref20_both -/
def A_ref20_both : AFun := ⟨35,
  .seq (.region false [⟨(some 3), .box (.t 0), none⟩,
    ⟨(some 4), .box (.t 1), none⟩,
    ⟨(some 5), .box (.t 2), none⟩,
    ⟨(some 6), .mov (.c (.int .i64 0)), none⟩])
  (.seq (.region false [⟨(some 8), .ld (some 2) (.t 3), none⟩,
    ⟨(some 9), .ld (some 5) (.t 4), none⟩,
    ⟨(some 10), .call F_ref20_Check [(.t 8), (.t 9)], none⟩,
    ⟨(some 7), .mov (.t 10), none⟩])
  (.seq (.seq (.region false [⟨(some 11), .mov (.t 7), none⟩,
    ⟨(some 12), .bin .eql (.t 11) (.c (.int .i64 0)), none⟩])
  (.cond (.t 12)
   (.region false [⟨(some 13), .ld (some 2) (.t 3), none⟩,
     ⟨(some 14), .ld (some 5) (.t 5), none⟩,
     ⟨(some 15), .call F_ref20_Check [(.t 13), (.t 14)], none⟩,
     ⟨(some 7), .mov (.t 15), none⟩])
   (.skip)))
  (.seq (.seq (.region false [⟨(some 16), .mov (.t 7), none⟩,
    ⟨(some 17), .bin .eql (.t 16) (.c (.int .i64 0)), none⟩,
    ⟨(some 18), .mov (.t 17), none⟩,
    ⟨(some 19), .fldA 0 (.t 4), some (18, true)⟩,
    ⟨(some 20), .ld none (.t 19), some (18, true)⟩,
    ⟨(some 21), .fldA 0 (.t 5), some (18, true)⟩,
    ⟨(some 22), .ld none (.t 21), some (18, true)⟩,
    ⟨(some 23), .bin .neq (.t 20) (.t 22), some (18, true)⟩,
    ⟨(some 24), .pick (.t 18) (.t 23) (.c (.bool false)), none⟩])
  (.cond (.t 24)
   (.region false [⟨(some 7), .mov (.c (.int .i64 21)), none⟩])
   (.skip)))
  (.seq (.seq (.region false [⟨(some 25), .mov (.t 7), none⟩,
    ⟨(some 26), .bin .eql (.t 25) (.c (.int .i64 0)), none⟩,
    ⟨(some 27), .mov (.t 26), none⟩,
    ⟨(some 28), .fldA 1 (.t 4), some (27, true)⟩,
    ⟨(some 29), .ld none (.t 28), some (27, true)⟩,
    ⟨(some 30), .fldA 1 (.t 5), some (27, true)⟩,
    ⟨(some 31), .ld none (.t 30), some (27, true)⟩,
    ⟨(some 32), .bin .neq (.t 29) (.t 31), some (27, true)⟩,
    ⟨(some 33), .pick (.t 27) (.t 32) (.c (.bool false)), none⟩])
  (.cond (.t 33)
   (.region false [⟨(some 7), .mov (.c (.int .i64 22)), none⟩])
   (.skip)))
  (.seq (.region false [⟨(some 34), .mov (.t 7), none⟩,
    ⟨(some 6), .mov (.t 34), none⟩])
  (.ret)))))),
  [.tmp 6]⟩

/- ref20_Leq -/
def A_ref20_Leq : AFun := ⟨11,
  .seq (.region false [⟨(some 3), .box (.t 0), none⟩,
    ⟨(some 6), .mov (.c (.bool false)), none⟩])
  (.seq (.region false [⟨(some 7), .ld (some 2) (.t 3), none⟩,
    ⟨(some 8), .mov (.t 1), none⟩,
    ⟨(some 9), .mov (.t 2), none⟩,
    ⟨(some 10), .call F_ref03_Below [(.t 7), (.t 8), (.t 9)], none⟩,
    ⟨(some 6), .mov (.t 10), none⟩])
  (.ret)),
  [.tmp 6]⟩

/- ref20_Up -/
def A_ref20_UpL0 : ACode :=
  .seq (.seq (.region false [⟨(some 8), .mov (.t 7), none⟩,
    ⟨(some 9), .fldA 1 (.t 3), none⟩,
    ⟨(some 10), .ld none (.t 9), none⟩,
    ⟨(some 11), .len (.t 10), none⟩,
    ⟨(some 12), .bin .lss (.t 8) (.t 11), none⟩])
  (.cond (.t 12)
   (.skip)
   (.exit 0)))
  (.seq (.block 1 (.seq (.region true [⟨(some 15), .fldA 1 (.t 3), none⟩,
    ⟨(some 16), .ld none (.t 15), none⟩,
    ⟨(some 17), .mov (.t 7), none⟩,
    ⟨(some 18), .idxA 1 (.t 16) (.t 17), none⟩,
    ⟨(some 19), .ld none (.t 18), none⟩,
    ⟨(some 20), .fldA 1 (.t 3), none⟩,
    ⟨(some 21), .ld none (.t 20), none⟩,
    ⟨(some 22), .mov (.t 1), none⟩,
    ⟨(some 23), .idxA 1 (.t 21) (.t 22), none⟩,
    ⟨(some 24), .ld none (.t 23), none⟩,
    ⟨(some 25), .fldA 1 (.t 3), none⟩,
    ⟨(some 26), .ld none (.t 25), none⟩,
    ⟨(some 27), .mov (.t 2), none⟩,
    ⟨(some 28), .idxA 1 (.t 26) (.t 27), none⟩,
    ⟨(some 29), .ld none (.t 28), none⟩,
    ⟨(some 30), .bin .and (.t 24) (.t 29), none⟩,
    ⟨(some 31), .bin .eql (.t 19) (.t 30), none⟩])
  (.cond (.t 31)
   (.seq (.region false [⟨(some 32), .mov (.t 7), none⟩,
     ⟨(some 6), .mov (.t 32), none⟩])
   (.ret))
   (.skip))))
  (.region false [⟨(some 13), .mov (.t 7), none⟩,
    ⟨(some 14), .bin .add (.t 13) (.c (.int .i64 1)), none⟩,
    ⟨(some 7), .mov (.t 14), none⟩]))
def A_ref20_Up : AFun := ⟨34,
  .seq (.region false [⟨(some 3), .box (.t 0), none⟩,
    ⟨(some 6), .mov (.c (.int .i64 0)), none⟩])
  (.seq (.seq (.region false [⟨(some 7), .mov (.c (.int .i64 0)), none⟩])
  (.block 0 (.loop A_ref20_UpL0)))
  (.seq (.region false [⟨(some 33), .mov (.t 1), none⟩,
    ⟨(some 6), .mov (.t 33), none⟩])
  (.ret))),
  [.tmp 6]⟩

/- ref20_Label -/
def A_ref20_Label : AFun := ⟨14,
  .seq (.region false [⟨(some 2), .box (.t 0), none⟩,
    ⟨(some 4), .mov (.c (.bool false)), none⟩])
  (.seq (.region false [⟨(some 5), .mov (.t 1), none⟩,
    ⟨(some 6), .bin .geq (.t 5) (.c (.int .i64 0)), none⟩,
    ⟨(some 7), .mov (.t 6), none⟩,
    ⟨(some 8), .mov (.t 1), some (7, true)⟩,
    ⟨(some 9), .fldA 0 (.t 2), some (7, true)⟩,
    ⟨(some 10), .ld none (.t 9), some (7, true)⟩,
    ⟨(some 11), .len (.t 10), some (7, true)⟩,
    ⟨(some 12), .bin .lss (.t 8) (.t 11), some (7, true)⟩,
    ⟨(some 13), .pick (.t 7) (.t 12) (.c (.bool false)), none⟩,
    ⟨(some 4), .mov (.t 13), none⟩])
  (.ret)),
  [.tmp 4]⟩

/- arrays_Check -/
def A_arrays_Check : AFun := ⟨36,
  .seq (.region false [⟨(some 1), .box (.t 0), none⟩,
    ⟨(some 2), .mov (.c (.int .i64 0)), none⟩])
  (.seq (.seq (.region false [⟨(some 5), .fldA 0 (.t 1), none⟩,
    ⟨(some 6), .ld none (.t 5), none⟩,
    ⟨(some 7), .bin .neq (.t 6) (.c (.int .i64 1)), none⟩,
    ⟨(some 8), .mov (.t 7), none⟩,
    ⟨(some 9), .fldA 0 (.t 1), some (8, true)⟩,
    ⟨(some 10), .ld none (.t 9), some (8, true)⟩,
    ⟨(some 11), .bin .neq (.t 10) (.c (.int .i64 2)), some (8, true)⟩,
    ⟨(some 12), .pick (.t 8) (.t 11) (.c (.bool false)), none⟩])
  (.cond (.t 12)
   (.seq (.region false [⟨(some 2), .mov (.c (.int .i64 2)), none⟩])
   (.ret))
   (.skip)))
  (.seq (.seq (.region false [⟨(some 14), .fldA 1 (.t 1), none⟩,
    ⟨(some 15), .ld none (.t 14), none⟩,
    ⟨(some 16), .fldA 2 (.t 1), none⟩,
    ⟨(some 17), .ld (some 2) (.t 16), none⟩,
    ⟨(some 18), .call F_shapes_Cells [(.t 15), (.t 17)], none⟩,
    ⟨(some 13), .mov (.t 18), none⟩,
    ⟨(some 19), .extr (.t 13) 0, none⟩,
    ⟨(some 20), .extr (.t 13) 1, none⟩,
    ⟨(some 3), .mov (.t 19), none⟩,
    ⟨(some 4), .mov (.t 20), none⟩])
  (.block 0 (.seq (.region false [⟨(some 22), .mov (.t 4), none⟩,
    ⟨(some 23), .bin .neq (.t 22) (.c (.int .i64 0)), none⟩,
    ⟨(some 21), .mov (.t 23), none⟩])
  (.cond (.t 21)
   (.seq (.region false [⟨(some 24), .mov (.t 4), none⟩,
     ⟨(some 2), .mov (.t 24), none⟩])
   (.ret))
   (.seq (.region false [⟨(some 26), .fldA 4 (.t 1), none⟩,
     ⟨(some 27), .ld none (.t 26), none⟩,
     ⟨(some 28), .len (.t 27), none⟩,
     ⟨(some 29), .mov (.t 3), none⟩,
     ⟨(some 30), .bin .neq (.t 28) (.t 29), none⟩,
     ⟨(some 25), .mov (.t 30), none⟩])
   (.cond (.t 25)
    (.seq (.region false [⟨(some 2), .mov (.c (.int .i64 6)), none⟩])
    (.ret))
    (.seq (.region false [⟨(some 32), .fldA 4 (.t 1), none⟩,
      ⟨(some 33), .ld none (.t 32), none⟩,
      ⟨(some 34), .mkf F_arrays_Check_1 [] [(.t 1)], none⟩,
      ⟨(some 35), .call F_slices_ContainsFunc_int64_int64 [(.t 33), (.t 34)], none⟩,
      ⟨(some 31), .mov (.t 35), none⟩])
    (.cond (.t 31)
     (.seq (.region false [⟨(some 2), .mov (.c (.int .i64 7)), none⟩])
     (.ret))
     (.skip)))))))))
  (.seq (.region false [⟨(some 2), .mov (.c (.int .i64 0)), none⟩])
  (.ret)))),
  [.tmp 2]⟩

/- types_Fits -/
def A_types_Fits : AFun := ⟨17,
  .seq (.region false [⟨(some 2), .box (.t 0), none⟩,
    ⟨(some 3), .box (.t 1), none⟩,
    ⟨(some 4), .mov (.c (.bool false)), none⟩])
  (.seq (.region false [⟨(some 5), .fldA 0 (.t 2), none⟩,
    ⟨(some 6), .ld none (.t 5), none⟩,
    ⟨(some 7), .fldA 0 (.t 3), none⟩,
    ⟨(some 8), .ld none (.t 7), none⟩,
    ⟨(some 9), .bin .eql (.t 6) (.t 8), none⟩,
    ⟨(some 10), .mov (.t 9), none⟩,
    ⟨(some 11), .fldA 1 (.t 2), some (10, true)⟩,
    ⟨(some 12), .ld none (.t 11), some (10, true)⟩,
    ⟨(some 13), .fldA 1 (.t 3), some (10, true)⟩,
    ⟨(some 14), .ld none (.t 13), some (10, true)⟩,
    ⟨(some 15), .bin .eql (.t 12) (.t 14), some (10, true)⟩,
    ⟨(some 16), .pick (.t 10) (.t 15) (.c (.bool false)), none⟩,
    ⟨(some 4), .mov (.t 16), none⟩])
  (.ret)),
  [.tmp 4]⟩

/- slices_Equal_int64_int64 -/
def A_slices_Equal_int64_int64L0 : ACode :=
  .seq (.region false [⟨(some 14), .bin .lss (.t 13) (.t 12), none⟩])
  (.seq (.cond (.t 14)
   (.skip)
   (.exit 0))
  (.seq (.block 1 (.seq (.region false [⟨(some 15), .mov (.t 13), none⟩,
    ⟨(some 5), .mov (.t 15), none⟩])
  (.seq (.region true [⟨(some 16), .mov (.t 0), none⟩,
    ⟨(some 17), .mov (.t 5), none⟩,
    ⟨(some 18), .idxA 1 (.t 16) (.t 17), none⟩,
    ⟨(some 19), .ld none (.t 18), none⟩,
    ⟨(some 20), .mov (.t 1), none⟩,
    ⟨(some 21), .mov (.t 5), none⟩,
    ⟨(some 22), .idxA 1 (.t 20) (.t 21), none⟩,
    ⟨(some 23), .ld none (.t 22), none⟩,
    ⟨(some 24), .bin .neq (.t 19) (.t 23), none⟩])
  (.cond (.t 24)
   (.seq (.region false [⟨(some 4), .mov (.c (.bool false)), none⟩])
   (.ret))
   (.skip)))))
  (.region false [⟨(some 25), .bin .add (.t 13) (.c (.int .i64 1)), none⟩,
    ⟨(some 13), .mov (.t 25), none⟩])))
def A_slices_Equal_int64_int64 : AFun := ⟨26,
  .seq (.region false [⟨(some 4), .mov (.c (.bool false)), none⟩])
  (.seq (.seq (.region false [⟨(some 6), .mov (.t 0), none⟩,
    ⟨(some 7), .len (.t 6), none⟩,
    ⟨(some 8), .mov (.t 1), none⟩,
    ⟨(some 9), .len (.t 8), none⟩,
    ⟨(some 10), .bin .neq (.t 7) (.t 9), none⟩])
  (.cond (.t 10)
   (.seq (.region false [⟨(some 4), .mov (.c (.bool false)), none⟩])
   (.ret))
   (.skip)))
  (.seq (.seq (.region false [⟨(some 11), .mov (.t 0), none⟩,
    ⟨(some 12), .len (.t 11), none⟩,
    ⟨(some 13), .mov (.c (.int .i64 0)), none⟩])
  (.block 0 (.loop A_slices_Equal_int64_int64L0)))
  (.seq (.region false [⟨(some 4), .mov (.c (.bool true)), none⟩])
  (.ret)))),
  [.tmp 4]⟩

/- types_order_leq -/
def A_types_order_leq : AFun := ⟨17,
  .seq (.region false [⟨(some 3), .box (.t 0), none⟩,
    ⟨(some 6), .mov (.c (.bool false)), none⟩])
  (.seq (.region false [⟨(some 7), .fldA 0 (.t 3), none⟩,
    ⟨(some 8), .fldA 1 (.t 7), none⟩,
    ⟨(some 9), .ld none (.t 8), none⟩,
    ⟨(some 10), .mov (.t 1), none⟩,
    ⟨(some 11), .idxA 1 (.t 9) (.t 10), none⟩,
    ⟨(some 12), .ld none (.t 11), none⟩,
    ⟨(some 13), .mov (.t 2), none⟩,
    ⟨(some 14), .bin .shr (.t 12) (.t 13), none⟩,
    ⟨(some 15), .bin .and (.t 14) (.c (.int .u8 1)), none⟩,
    ⟨(some 16), .bin .eql (.t 15) (.c (.int .u8 1)), none⟩,
    ⟨(some 6), .mov (.t 16), none⟩])
  (.ret)),
  [.tmp 6]⟩

/- ref03_Below -/
def A_ref03_Below : AFun := ⟨31,
  .seq (.region false [⟨(some 3), .box (.t 0), none⟩,
    ⟨(some 6), .mov (.c (.bool false)), none⟩])
  (.seq (.region false [⟨(some 7), .mov (.t 1), none⟩,
    ⟨(some 8), .bin .geq (.t 7) (.c (.int .i64 0)), none⟩,
    ⟨(some 9), .mov (.t 8), none⟩,
    ⟨(some 10), .mov (.t 1), some (9, true)⟩,
    ⟨(some 11), .fldA 1 (.t 3), some (9, true)⟩,
    ⟨(some 12), .ld none (.t 11), some (9, true)⟩,
    ⟨(some 13), .len (.t 12), some (9, true)⟩,
    ⟨(some 14), .bin .lss (.t 10) (.t 13), some (9, true)⟩,
    ⟨(some 15), .pick (.t 9) (.t 14) (.c (.bool false)), none⟩,
    ⟨(some 16), .mov (.t 15), none⟩,
    ⟨(some 17), .mov (.t 2), some (16, true)⟩,
    ⟨(some 18), .bin .geq (.t 17) (.c (.int .i64 0)), some (16, true)⟩,
    ⟨(some 19), .pick (.t 16) (.t 18) (.c (.bool false)), none⟩,
    ⟨(some 20), .mov (.t 19), none⟩,
    ⟨(some 21), .fldA 1 (.t 3), some (20, true)⟩,
    ⟨(some 22), .ld none (.t 21), some (20, true)⟩,
    ⟨(some 23), .mov (.t 1), some (20, true)⟩,
    ⟨(some 24), .idxA 1 (.t 22) (.t 23), some (20, true)⟩,
    ⟨(some 25), .ld none (.t 24), some (20, true)⟩,
    ⟨(some 26), .mov (.t 2), some (20, true)⟩,
    ⟨(some 27), .bin .shr (.t 25) (.t 26), some (20, true)⟩,
    ⟨(some 28), .bin .rem (.t 27) (.c (.int .u8 2)), some (20, true)⟩,
    ⟨(some 29), .bin .eql (.t 28) (.c (.int .u8 1)), some (20, true)⟩,
    ⟨(some 30), .pick (.t 20) (.t 29) (.c (.bool false)), none⟩,
    ⟨(some 6), .mov (.t 30), none⟩])
  (.ret)),
  [.tmp 6]⟩

section
variable {X : Cx} (hX : X.P = Go.Proofs.Tryd.prog)
include hX
theorem A_law20_TypesOrder_ok : compileFun X.P F_law20_TypesOrder (fun _ => false) = some A_law20_TypesOrder := by rw [hX]; kernel_rfl
theorem A_law20_TypesRaises_ok : compileFun X.P F_law20_TypesRaises (fun _ => false) = some A_law20_TypesRaises := by rw [hX]; kernel_rfl
theorem A_law20_TypesKnown_ok : compileFun X.P F_law20_TypesKnown (fun _ => false) = some A_law20_TypesKnown := by rw [hX]; kernel_rfl
theorem A_law20_TypesChecks_ok : compileFun X.P F_law20_TypesChecks (fun _ => false) = some A_law20_TypesChecks := by rw [hX]; kernel_rfl
theorem A_law20_TypesAgrees_ok : compileFun X.P F_law20_TypesAgrees (fun _ => false) = some A_law20_TypesAgrees := by rw [hX]; kernel_rfl
theorem A_law20_Large_ok : compileFun X.P F_law20_Large (fun _ => false) = some A_law20_Large := by rw [hX]; kernel_rfl
theorem A_law20_shown_ok : compileFun X.P F_law20_shown (fun _ => false) = some A_law20_shown := by rw [hX]; kernel_rfl
theorem A_types_Within_ok : compileFun X.P F_types_Within (fun _ => false) = some A_types_Within := by rw [hX]; kernel_rfl
theorem A_types_Join_ok : compileFun X.P F_types_Join (fun _ => false) = some A_types_Join := by rw [hX]; kernel_rfl
theorem A_types_Check_ok : compileFun X.P F_types_Check (fun _ => false) = some A_types_Check := by rw [hX]; kernel_rfl
theorem A_types_Raise_ok : compileFun X.P F_types_Raise (fun _ => false) = some A_types_Raise := by rw [hX]; kernel_rfl
theorem A_ref03_Join_ok : compileFun X.P F_ref03_Join (fun _ => false) = some A_ref03_Join := by rw [hX]; kernel_rfl
theorem A_ref03_Bottom_ok : compileFun X.P F_ref03_Bottom (fun _ => false) = some A_ref03_Bottom := by rw [hX]; kernel_rfl
theorem A_ref20_Check_ok : compileFun X.P F_ref20_Check (fun _ => false) = some A_ref20_Check := by rw [hX]; kernel_rfl
theorem A_ref20_Within_ok : compileFun X.P F_ref20_Within (fun _ => false) = some A_ref20_Within := by rw [hX]; kernel_rfl
theorem A_ref20_Join_ok : compileFun X.P F_ref20_Join (fun _ => false) = some A_ref20_Join := by rw [hX]; kernel_rfl
theorem A_ref20_Raise_ok : compileFun X.P F_ref20_Raise (fun _ => false) = some A_ref20_Raise := by rw [hX]; kernel_rfl
theorem A_types_Shape_ok : compileFun X.P F_types_Shape (fun _ => false) = some A_types_Shape := by rw [hX]; kernel_rfl
theorem A_ref20_Shape_ok : compileFun X.P F_ref20_Shape (fun _ => false) = some A_ref20_Shape := by rw [hX]; kernel_rfl
theorem A_law20_big_ok : compileFun X.P F_law20_big (fun _ => false) = some A_law20_big := by rw [hX]; kernel_rfl
theorem A_types_Agree_ok : compileFun X.P F_types_Agree (fun _ => false) = some A_types_Agree := by rw [hX]; kernel_rfl
theorem A_types_Sees_ok : compileFun X.P F_types_Sees (fun _ => false) = some A_types_Sees := by rw [hX]; kernel_rfl
theorem A_ref03_Leq_ok : compileFun X.P F_ref03_Leq (fun _ => false) = some A_ref03_Leq := by rw [hX]; kernel_rfl
theorem A_law20_Line_ok : compileFun X.P F_law20_Line (fun _ => false) = some A_law20_Line := by rw [hX]; kernel_rfl
theorem A_law20_vector_ok : compileFun X.P F_law20_vector (fun _ => false) = some A_law20_vector := by rw [hX]; kernel_rfl
theorem A_types_Print_ok : compileFun X.P F_types_Print (fun d => d == 23) = some A_types_Print := by rw [hX]; kernel_rfl
theorem A_types_both_ok : compileFun X.P F_types_both (fun _ => false) = some A_types_both := by rw [hX]; kernel_rfl
theorem A_types_order_join_ok : compileFun X.P F_types_order_join (fun _ => false) = some A_types_order_join := by rw [hX]; kernel_rfl
theorem A_types_of_ok : compileFun X.P F_types_of (fun _ => false) = some A_types_of := by rw [hX]; kernel_rfl
theorem A_types_order_check_ok : compileFun X.P F_types_order_check (fun _ => false) = some A_types_order_check := by rw [hX]; kernel_rfl
theorem A_types_order_label_ok : compileFun X.P F_types_order_label (fun _ => false) = some A_types_order_label := by rw [hX]; kernel_rfl
theorem A_types_each_ok : compileFun X.P F_types_each (fun _ => false) = some A_types_each := by rw [hX]; kernel_rfl
theorem A_types_with_up_ok : compileFun X.P F_types_with_up (fun _ => false) = some A_types_with_up := by rw [hX]; kernel_rfl
theorem A_ref03_asked_ok : compileFun X.P F_ref03_asked (fun _ => false) = some A_ref03_asked := by rw [hX]; kernel_rfl
theorem A_ref03_join_ok : compileFun X.P F_ref03_join (fun _ => false) = some A_ref03_join := by rw [hX]; kernel_rfl
theorem A_ref03_downs_ok : compileFun X.P F_ref03_downs (fun _ => false) = some A_ref03_downs := by rw [hX]; kernel_rfl
theorem A_ref03_nearest_ok : compileFun X.P F_ref03_nearest (fun _ => false) = some A_ref03_nearest := by rw [hX]; kernel_rfl
theorem A_ref03_Check_ok : compileFun X.P F_ref03_Check (fun _ => false) = some A_ref03_Check := by rw [hX]; kernel_rfl
theorem A_ref20_Good_ok : compileFun X.P F_ref20_Good (fun _ => false) = some A_ref20_Good := by rw [hX]; kernel_rfl
theorem A_ref20_both_ok : compileFun X.P F_ref20_both (fun _ => false) = some A_ref20_both := by rw [hX]; kernel_rfl
theorem A_ref20_Leq_ok : compileFun X.P F_ref20_Leq (fun _ => false) = some A_ref20_Leq := by rw [hX]; kernel_rfl
theorem A_ref20_Up_ok : compileFun X.P F_ref20_Up (fun _ => false) = some A_ref20_Up := by rw [hX]; kernel_rfl
theorem A_ref20_Label_ok : compileFun X.P F_ref20_Label (fun _ => false) = some A_ref20_Label := by rw [hX]; kernel_rfl
theorem A_arrays_Check_ok : compileFun X.P F_arrays_Check (fun _ => false) = some A_arrays_Check := by rw [hX]; kernel_rfl
theorem A_types_Fits_ok : compileFun X.P F_types_Fits (fun _ => false) = some A_types_Fits := by rw [hX]; kernel_rfl
theorem A_slices_Equal_int64_int64_ok : compileFun X.P F_slices_Equal_int64_int64 (fun _ => false) = some A_slices_Equal_int64_int64 := by rw [hX]; kernel_rfl
theorem A_types_order_leq_ok : compileFun X.P F_types_order_leq (fun _ => false) = some A_types_order_leq := by rw [hX]; kernel_rfl
theorem A_ref03_Below_ok : compileFun X.P F_ref03_Below (fun _ => false) = some A_ref03_Below := by rw [hX]; kernel_rfl
end
end Go.Avm
