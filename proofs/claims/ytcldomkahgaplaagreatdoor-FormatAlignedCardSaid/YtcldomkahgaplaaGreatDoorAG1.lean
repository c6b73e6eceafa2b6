/- The functions as they have been read. -/
import Derived.Test.YtcldomkahgaplaaGreatDoorA8
import Derived.Test.YtcldomkahgaplaaGreatDoorProg
set_option linter.unusedSectionVars false
set_option linter.unusedSimpArgs false
set_option linter.unusedVariables false

/- The functions as they have been read. -/
namespace Go.Avm
open Go
def F_law33_FormatAligned : Nat := 3
def F_law33_Far : Nat := 11
def F_law33_FarTable : Nat := 12
def F_law33_shown : Nat := 13
def F_format_Picture : Nat := 14
def F_law33_lengths : Nat := 15
def F_format_Grid : Nat := 16
def F_ref06_Same : Nat := 17
def F_format_Table : Nat := 18
def F_format_Widths : Nat := 19
def F_format_Array : Nat := 23
def F_format_Parse : Nat := 25
def F_law33_Matrix : Nat := 30
def F_law33_Marks : Nat := 31
def F_arrays_Check : Nat := 32
def F_strings_Join : Nat := 33
def F_format_stacked : Nat := 34
def F_strings_Builder_WriteString : Nat := 35
def F_strings_Builder_String : Nat := 36
def F_words_Lines : Nat := 37
def F_format_row : Nat := 38
def F_ref06_Like : Nat := 39
def F_format_drawn : Nat := 40
def F_format_Table_1 : Nat := 41
def F_format_Table_2 : Nat := 42
def F_format_Table_3 : Nat := 43
def F_strings_Repeat : Nat := 44
def F_format_Table_4 : Nat := 45
def F_format_cell : Nat := 51
def F_format_numbers : Nat := 53
def F_format_pieces : Nat := 54
def F_format_piece : Nat := 55
def F_format_Parse_1 : Nat := 58
def F_format_begun : Nat := 59
def F_format_cells : Nat := 60
def F_shapes_Cells : Nat := 68
def F_slices_ContainsFunc_int64_int64 : Nat := 69
def F_arrays_Check_1 : Nat := 70
def F_arrays_right : Nat := 71
def F_format_left : Nat := 73
def F_format_right : Nat := 74
def F_strings_HasSuffix : Nat := 76
def F_strings_Split : Nat := 77
def F_strings_FieldsFunc : Nat := 78
def F_format_row_1 : Nat := 79
def F_words_Int : Nat := 80
def F_tables_Check : Nat := 81
def F_strconv_FormatInt : Nat := 91
def F_slices_Chunk_int64_int64 : Nat := 92
def F_runes_Bytes : Nat := 93
def F_lexer_Quote : Nat := 94
def F_format_whole : Nat := 98
def F_lexer_Line : Nat := 99
def F_runes_Runes : Nat := 100
def F_shapes_Check : Nat := 106
def F_shapes_product : Nat := 107
def F_slices_IndexFunc_int64_int64 : Nat := 108
def F_utf8_ValidRune : Nat := 109
def F_format_blanks : Nat := 111
def F_stringslite_HasSuffix : Nat := 113
def F_strings_genSplit : Nat := 114
def F_words_isDecimal : Nat := 115
def F_strconv_ParseInt : Nat := 116
def F_words_Name : Nat := 117
def F_stringslite_HasPrefix : Nat := 120
def F_slices_Chunk_int64_int64_1 : Nat := 125
def F_slices_ContainsFunc_int_int : Nat := 146
def F_shapes_Check_1 : Nat := 147
def F_shapes_Check_2 : Nat := 148
def F_shapes_Check_3 : Nat := 149
def F_strings_explode : Nat := 151
def F_strings_Count : Nat := 152
def F_strings_Index : Nat := 153
def F_strings_TrimPrefix : Nat := 154
def F_strings_Trim : Nat := 155
def F_slices_IndexFunc_int_int : Nat := 181
def F_stringslite_Index : Nat := 185
def F_stringslite_TrimPrefix : Nat := 186
def F_strings_trimLeftByte : Nat := 187
def F_strings_trimRightByte : Nat := 188
def F_strings_makeASCIISet : Nat := 189
def F_strings_trimLeftASCII : Nat := 190
def F_strings_trimRightASCII : Nat := 191
def F_strings_trimLeftUnicode : Nat := 192
def F_strings_trimRightUnicode : Nat := 193
def F_strings_asciiSet_contains : Nat := 217
/- law33_FormatAligned -/
def A_law33_FormatAlignedL0 : ACode :=
  .seq (.seq (.region false [⟨(some 46), .mov (.t 8), none⟩,
    ⟨(some 47), .mov (.t 7), none⟩,
    ⟨(some 48), .len (.t 47), none⟩,
    ⟨(some 49), .bin .lss (.t 46) (.t 48), none⟩])
  (.cond (.t 49)
   (.skip)
   (.exit 0)))
  (.seq (.block 1 (.seq (.region true [⟨(some 52), .mov (.t 7), none⟩,
    ⟨(some 53), .mov (.t 8), none⟩,
    ⟨(some 54), .idxA 1 (.t 52) (.t 53), none⟩,
    ⟨(some 55), .ld none (.t 54), none⟩,
    ⟨(some 56), .mov (.t 7), none⟩,
    ⟨(some 57), .idxA 1 (.t 56) (.c (.int .i64 0)), none⟩,
    ⟨(some 58), .ld none (.t 57), none⟩,
    ⟨(some 59), .bin .neq (.t 55) (.t 58), none⟩])
  (.cond (.t 59)
   (.seq (.region false [⟨(some 4), .mov (.c (.bool false)), none⟩])
   (.ret))
   (.skip))))
  (.region false [⟨(some 50), .mov (.t 8), none⟩,
    ⟨(some 51), .bin .add (.t 50) (.c (.int .i64 1)), none⟩,
    ⟨(some 8), .mov (.t 51), none⟩]))
def A_law33_FormatAlignedL1 : ACode :=
  .seq (.seq (.region false [⟨(some 122), .mov (.t 16), none⟩,
    ⟨(some 123), .mov (.t 13), none⟩,
    ⟨(some 124), .len (.t 123), none⟩,
    ⟨(some 125), .bin .lss (.t 122) (.t 124), none⟩])
  (.cond (.t 125)
   (.skip)
   (.exit 2)))
  (.seq (.block 3 (.region false [⟨(some 128), .mov (.t 15), none⟩,
    ⟨(some 129), .mov (.t 13), none⟩,
    ⟨(some 130), .mov (.t 16), none⟩,
    ⟨(some 131), .idxA 1 (.t 129) (.t 130), none⟩,
    ⟨(some 132), .ld none (.t 131), none⟩,
    ⟨(some 133), .bin .add (.t 128) (.t 132), none⟩,
    ⟨(some 15), .mov (.t 133), none⟩]))
  (.region false [⟨(some 126), .mov (.t 16), none⟩,
    ⟨(some 127), .bin .add (.t 126) (.c (.int .i64 1)), none⟩,
    ⟨(some 16), .mov (.t 127), none⟩]))
def A_law33_FormatAlignedL2 : ACode :=
  .seq (.seq (.region false [⟨(some 136), .mov (.t 18), none⟩,
    ⟨(some 137), .mov (.t 17), none⟩,
    ⟨(some 138), .len (.t 137), none⟩,
    ⟨(some 139), .bin .lss (.t 136) (.t 138), none⟩])
  (.cond (.t 139)
   (.skip)
   (.exit 4)))
  (.seq (.block 5 (.seq (.region false [⟨(some 142), .mov (.t 17), none⟩,
    ⟨(some 143), .mov (.t 18), none⟩,
    ⟨(some 144), .idxA 1 (.t 142) (.t 143), none⟩,
    ⟨(some 145), .ld none (.t 144), none⟩,
    ⟨(some 146), .mov (.t 15), none⟩,
    ⟨(some 147), .bin .neq (.t 145) (.t 146), none⟩])
  (.cond (.t 147)
   (.seq (.region false [⟨(some 4), .mov (.c (.bool false)), none⟩])
   (.ret))
   (.skip))))
  (.region false [⟨(some 140), .mov (.t 18), none⟩,
    ⟨(some 141), .bin .add (.t 140) (.c (.int .i64 1)), none⟩,
    ⟨(some 18), .mov (.t 141), none⟩]))
def A_law33_FormatAligned : AFun := ⟨161,
  .seq (.region false [⟨(some 2), .box (.t 0), none⟩,
    ⟨(some 3), .box (.t 1), none⟩,
    ⟨(some 4), .mov (.c (.bool false)), none⟩])
  (.seq (.seq (.region false [⟨(some 19), .ld (some 5) (.t 2), none⟩,
    ⟨(some 20), .call F_law33_Far [(.t 19)], none⟩,
    ⟨(some 21), .mov (.t 20), none⟩,
    ⟨(some 22), .ld (some 2) (.t 3), some (21, false)⟩,
    ⟨(some 23), .call F_law33_FarTable [(.t 22)], some (21, false)⟩,
    ⟨(some 24), .pick (.t 21) (.c (.bool true)) (.t 23), none⟩])
  (.cond (.t 24)
   (.seq (.region false [⟨(some 25), .call F_law33_shown [], none⟩,
     ⟨(some 4), .mov (.t 25), none⟩])
   (.ret))
   (.skip)))
  (.seq (.region false [⟨(some 27), .ld (some 5) (.t 2), none⟩,
    ⟨(some 28), .call F_format_Picture [(.t 27)], none⟩,
    ⟨(some 26), .mov (.t 28), none⟩,
    ⟨(some 29), .extr (.t 26) 0, none⟩,
    ⟨(some 30), .extr (.t 26) 1, none⟩,
    ⟨(some 5), .mov (.t 29), none⟩,
    ⟨(some 6), .mov (.t 30), none⟩])
  (.seq (.seq (.region false [⟨(some 31), .mov (.t 6), none⟩,
    ⟨(some 32), .bin .eql (.t 31) (.c (.int .i64 0)), none⟩,
    ⟨(some 33), .mov (.t 32), none⟩,
    ⟨(some 34), .fldA 1 (.t 2), some (33, true)⟩,
    ⟨(some 35), .ld none (.t 34), some (33, true)⟩,
    ⟨(some 36), .bin .eql (.t 35) (.c (.int .i64 2)), some (33, true)⟩,
    ⟨(some 37), .pick (.t 33) (.t 36) (.c (.bool false)), none⟩])
  (.cond (.t 37)
   (.seq (.region false [⟨(some 38), .mov (.t 5), none⟩,
     ⟨(some 39), .call F_law33_lengths [(.t 38)], none⟩,
     ⟨(some 7), .mov (.t 39), none⟩])
   (.seq (.seq (.region false [⟨(some 40), .mov (.t 7), none⟩,
     ⟨(some 41), .len (.t 40), none⟩,
     ⟨(some 42), .fldA 2 (.t 2), none⟩,
     ⟨(some 43), .idxP 2 1 (.t 42) (.c (.int .i64 0)), none⟩,
     ⟨(some 44), .ld none (.t 43), none⟩,
     ⟨(some 45), .bin .neq (.t 41) (.t 44), none⟩])
   (.cond (.t 45)
    (.seq (.region false [⟨(some 4), .mov (.c (.bool false)), none⟩])
    (.ret))
    (.skip)))
   (.seq (.seq (.region false [⟨(some 8), .mov (.c (.int .i64 1)), none⟩])
   (.block 0 (.loop A_law33_FormatAlignedL0)))
   (.seq (.region false [⟨(some 61), .mov (.t 5), none⟩,
     ⟨(some 62), .call F_format_Grid [(.t 61)], none⟩,
     ⟨(some 60), .mov (.t 62), none⟩,
     ⟨(some 63), .extr (.t 60) 0, none⟩,
     ⟨(some 64), .extr (.t 60) 1, none⟩,
     ⟨(some 65), .extr (.t 60) 2, none⟩,
     ⟨(some 9), .alloc [.int .i64 0, .int .i64 0, .int .i64 0, .int .i64 0, .sl .ex []], none⟩,
     ⟨none, .st 5 (.t 9) (.t 63), none⟩,
     ⟨(some 10), .mov (.t 64), none⟩,
     ⟨(some 11), .mov (.t 65), none⟩])
   (.seq (.region false [⟨(some 66), .fldA 0 (.t 2), none⟩,
     ⟨(some 67), .ld none (.t 66), none⟩,
     ⟨(some 68), .bin .eql (.t 67) (.c (.int .i64 1)), none⟩,
     ⟨(some 69), .mov (.t 68), none⟩,
     ⟨(some 70), .fldA 4 (.t 2), some (69, true)⟩,
     ⟨(some 71), .ld none (.t 70), some (69, true)⟩,
     ⟨(some 72), .len (.t 71), some (69, true)⟩,
     ⟨(some 73), .bin .gtr (.t 72) (.c (.int .i64 0)), some (69, true)⟩,
     ⟨(some 74), .pick (.t 69) (.t 73) (.c (.bool false)), none⟩,
     ⟨(some 75), .mov (.t 74), none⟩,
     ⟨(some 76), .mov (.t 11), some (75, true)⟩,
     ⟨(some 77), .bin .neq (.t 76) (.c (.int .i64 0)), some (75, true)⟩,
     ⟨(some 78), .mov (.t 77), some (75, true)⟩,
     ⟨(some 79), .ld (some 5) (.t 2), some (78, false)⟩,
     ⟨(some 80), .ld (some 5) (.t 9), some (78, false)⟩,
     ⟨(some 81), .call F_ref06_Same [(.t 79), (.t 80)], some (78, false)⟩,
     ⟨(some 82), .not (.t 81), some (78, false)⟩,
     ⟨(some 83), .pick (.t 78) (.c (.bool true)) (.t 82), some (75, true)⟩,
     ⟨(some 84), .pick (.t 75) (.t 83) (.c (.bool false)), none⟩])
   (.cond (.t 84)
    (.seq (.region false [⟨(some 4), .mov (.c (.bool false)), none⟩])
    (.ret))
    (.skip)))))))
   (.skip)))
  (.seq (.region false [⟨(some 86), .ld (some 2) (.t 3), none⟩,
    ⟨(some 87), .call F_format_Table [(.t 86)], none⟩,
    ⟨(some 85), .mov (.t 87), none⟩,
    ⟨(some 88), .extr (.t 85) 0, none⟩,
    ⟨(some 89), .extr (.t 85) 1, none⟩,
    ⟨(some 12), .mov (.t 88), none⟩,
    ⟨(some 6), .mov (.t 89), none⟩])
  (.seq (.region false [⟨(some 91), .ld (some 2) (.t 3), none⟩,
    ⟨(some 92), .call F_format_Widths [(.t 91)], none⟩,
    ⟨(some 90), .mov (.t 92), none⟩,
    ⟨(some 93), .extr (.t 90) 0, none⟩,
    ⟨(some 94), .extr (.t 90) 1, none⟩,
    ⟨(some 13), .mov (.t 93), none⟩,
    ⟨(some 14), .mov (.t 94), none⟩])
  (.seq (.seq (.region false [⟨(some 95), .mov (.t 6), none⟩,
    ⟨(some 96), .bin .neq (.t 95) (.c (.int .i64 0)), none⟩,
    ⟨(some 97), .mov (.t 96), none⟩,
    ⟨(some 98), .mov (.t 13), some (97, false)⟩,
    ⟨(some 99), .len (.t 98), some (97, false)⟩,
    ⟨(some 100), .bin .eql (.t 99) (.c (.int .i64 0)), some (97, false)⟩,
    ⟨(some 101), .pick (.t 97) (.c (.bool true)) (.t 100), none⟩])
  (.cond (.t 101)
   (.seq (.region false [⟨(some 102), .mov (.t 12), none⟩,
     ⟨(some 103), .bin .eql (.t 102) (.c (.str [])), none⟩,
     ⟨(some 104), .mov (.t 103), none⟩,
     ⟨(some 105), .mov (.t 6), some (104, true)⟩,
     ⟨(some 106), .mov (.t 14), some (104, true)⟩,
     ⟨(some 107), .bin .eql (.t 105) (.t 106), some (104, true)⟩,
     ⟨(some 108), .pick (.t 104) (.t 107) (.c (.bool false)), none⟩,
     ⟨(some 109), .mov (.t 108), none⟩,
     ⟨(some 110), .call F_law33_shown [], some (109, true)⟩,
     ⟨(some 111), .pick (.t 109) (.t 110) (.c (.bool false)), none⟩,
     ⟨(some 4), .mov (.t 111), none⟩])
   (.ret))
   (.skip)))
  (.seq (.seq (.region false [⟨(some 112), .mov (.t 13), none⟩,
    ⟨(some 113), .len (.t 112), none⟩,
    ⟨(some 114), .fldA 1 (.t 3), none⟩,
    ⟨(some 115), .ld none (.t 114), none⟩,
    ⟨(some 116), .len (.t 115), none⟩,
    ⟨(some 117), .bin .neq (.t 113) (.t 116), none⟩])
  (.cond (.t 117)
   (.seq (.region false [⟨(some 4), .mov (.c (.bool false)), none⟩])
   (.ret))
   (.skip)))
  (.seq (.region false [⟨(some 118), .mov (.t 13), none⟩,
    ⟨(some 119), .len (.t 118), none⟩,
    ⟨(some 120), .bin .sub (.t 119) (.c (.int .i64 1)), none⟩,
    ⟨(some 121), .bin .mul (.c (.int .i64 2)) (.t 120), none⟩,
    ⟨(some 15), .mov (.t 121), none⟩])
  (.seq (.seq (.region false [⟨(some 16), .mov (.c (.int .i64 0)), none⟩])
  (.block 2 (.loop A_law33_FormatAlignedL1)))
  (.seq (.region false [⟨(some 134), .mov (.t 12), none⟩,
    ⟨(some 135), .call F_law33_lengths [(.t 134)], none⟩,
    ⟨(some 17), .mov (.t 135), none⟩])
  (.seq (.seq (.region false [⟨(some 18), .mov (.c (.int .i64 0)), none⟩])
  (.block 4 (.loop A_law33_FormatAlignedL2)))
  (.seq (.region false [⟨(some 148), .mov (.t 17), none⟩,
    ⟨(some 149), .len (.t 148), none⟩,
    ⟨(some 150), .fldA 1 (.t 3), none⟩,
    ⟨(some 151), .ld none (.t 150), none⟩,
    ⟨(some 152), .idxA 5 (.t 151) (.c (.int .i64 0)), none⟩,
    ⟨(some 153), .fldA 4 (.t 152), none⟩,
    ⟨(some 154), .ld none (.t 153), none⟩,
    ⟨(some 155), .len (.t 154), none⟩,
    ⟨(some 156), .bin .add (.c (.int .i64 2)) (.t 155), none⟩,
    ⟨(some 157), .bin .eql (.t 149) (.t 156), none⟩,
    ⟨(some 158), .mov (.t 157), none⟩,
    ⟨(some 159), .call F_law33_shown [], some (158, true)⟩,
    ⟨(some 160), .pick (.t 158) (.t 159) (.c (.bool false)), none⟩,
    ⟨(some 4), .mov (.t 160), none⟩])
  (.ret))))))))))))),
  [.tmp 4]⟩

/- law33_FormatPictures -/
/- law33_FormatArrays -/
/- law33_FormatParses -/
/- law33_FormatGrids -/
/- law33_FormatBack -/
/- law33_FormatKnown -/
/- law33_FormatTables -/
/- law33_Far -/
def A_law33_Far : AFun := ⟨19,
  .seq (.region false [⟨(some 1), .box (.t 0), none⟩,
    ⟨(some 2), .mov (.c (.bool false)), none⟩])
  (.seq (.region false [⟨(some 3), .fldA 4 (.t 1), none⟩,
    ⟨(some 4), .ld none (.t 3), none⟩,
    ⟨(some 5), .len (.t 4), none⟩,
    ⟨(some 6), .bin .gtr (.t 5) (.c (.int .i64 60)), none⟩,
    ⟨(some 7), .mov (.t 6), none⟩,
    ⟨(some 8), .fldA 4 (.t 1), some (7, true)⟩,
    ⟨(some 9), .ld none (.t 8), some (7, true)⟩,
    ⟨(some 10), .len (.t 9), some (7, true)⟩,
    ⟨(some 11), .bin .leq (.t 10) (.c (.int .i64 400)), some (7, true)⟩,
    ⟨(some 12), .pick (.t 7) (.t 11) (.c (.bool false)), none⟩,
    ⟨(some 13), .mov (.t 12), none⟩,
    ⟨(some 14), .fldA 4 (.t 1), some (13, false)⟩,
    ⟨(some 15), .ld none (.t 14), some (13, false)⟩,
    ⟨(some 16), .len (.t 15), some (13, false)⟩,
    ⟨(some 17), .bin .gtr (.t 16) (.c (.int .i64 405)), some (13, false)⟩,
    ⟨(some 18), .pick (.t 13) (.c (.bool true)) (.t 17), none⟩,
    ⟨(some 2), .mov (.t 18), none⟩])
  (.ret)),
  [.tmp 2]⟩

/- law33_FarTable -/
def A_law33_FarTableL0 : ACode :=
  .seq (.seq (.region false [⟨(some 15), .mov (.t 3), none⟩,
    ⟨(some 16), .fldA 1 (.t 1), none⟩,
    ⟨(some 17), .ld none (.t 16), none⟩,
    ⟨(some 18), .len (.t 17), none⟩,
    ⟨(some 19), .bin .lss (.t 15) (.t 18), none⟩])
  (.cond (.t 19)
   (.skip)
   (.exit 0)))
  (.seq (.block 1 (.seq (.region false [⟨(some 22), .fldA 1 (.t 1), none⟩,
    ⟨(some 23), .ld none (.t 22), none⟩,
    ⟨(some 24), .mov (.t 3), none⟩,
    ⟨(some 25), .idxA 5 (.t 23) (.t 24), none⟩,
    ⟨(some 26), .ld (some 5) (.t 25), none⟩,
    ⟨(some 27), .call F_law33_Far [(.t 26)], none⟩])
  (.cond (.t 27)
   (.seq (.region false [⟨(some 2), .mov (.c (.bool true)), none⟩])
   (.ret))
   (.skip))))
  (.region false [⟨(some 20), .mov (.t 3), none⟩,
    ⟨(some 21), .bin .add (.t 20) (.c (.int .i64 1)), none⟩,
    ⟨(some 3), .mov (.t 21), none⟩]))
def A_law33_FarTableL1 : ACode :=
  .seq (.seq (.region false [⟨(some 28), .mov (.t 4), none⟩,
    ⟨(some 29), .fldA 0 (.t 1), none⟩,
    ⟨(some 30), .ld none (.t 29), none⟩,
    ⟨(some 31), .len (.t 30), none⟩,
    ⟨(some 32), .bin .lss (.t 28) (.t 31), none⟩])
  (.cond (.t 32)
   (.skip)
   (.exit 2)))
  (.seq (.block 3 (.seq (.region false [⟨(some 35), .fldA 0 (.t 1), none⟩,
    ⟨(some 36), .ld none (.t 35), none⟩,
    ⟨(some 37), .mov (.t 4), none⟩,
    ⟨(some 38), .idxA 1 (.t 36) (.t 37), none⟩,
    ⟨(some 39), .ld none (.t 38), none⟩,
    ⟨(some 40), .lenS (.t 39), none⟩,
    ⟨(some 41), .bin .gtr (.t 40) (.c (.int .i64 100)), none⟩])
  (.cond (.t 41)
   (.seq (.region false [⟨(some 2), .mov (.c (.bool true)), none⟩])
   (.ret))
   (.skip))))
  (.region false [⟨(some 33), .mov (.t 4), none⟩,
    ⟨(some 34), .bin .add (.t 33) (.c (.int .i64 1)), none⟩,
    ⟨(some 4), .mov (.t 34), none⟩]))
def A_law33_FarTable : AFun := ⟨42,
  .seq (.region false [⟨(some 1), .box (.t 0), none⟩,
    ⟨(some 2), .mov (.c (.bool false)), none⟩])
  (.seq (.seq (.region false [⟨(some 5), .fldA 0 (.t 1), none⟩,
    ⟨(some 6), .ld none (.t 5), none⟩,
    ⟨(some 7), .len (.t 6), none⟩,
    ⟨(some 8), .bin .gtr (.t 7) (.c (.int .i64 18)), none⟩,
    ⟨(some 9), .mov (.t 8), none⟩,
    ⟨(some 10), .fldA 1 (.t 1), some (9, false)⟩,
    ⟨(some 11), .ld none (.t 10), some (9, false)⟩,
    ⟨(some 12), .len (.t 11), some (9, false)⟩,
    ⟨(some 13), .bin .gtr (.t 12) (.c (.int .i64 18)), some (9, false)⟩,
    ⟨(some 14), .pick (.t 9) (.c (.bool true)) (.t 13), none⟩])
  (.cond (.t 14)
   (.seq (.region false [⟨(some 2), .mov (.c (.bool true)), none⟩])
   (.ret))
   (.skip)))
  (.seq (.seq (.region false [⟨(some 3), .mov (.c (.int .i64 0)), none⟩])
  (.block 0 (.loop A_law33_FarTableL0)))
  (.seq (.seq (.region false [⟨(some 4), .mov (.c (.int .i64 0)), none⟩])
  (.block 2 (.loop A_law33_FarTableL1)))
  (.seq (.region false [⟨(some 2), .mov (.c (.bool false)), none⟩])
  (.ret))))),
  [.tmp 2]⟩

/- law33_shown -/
def A_law33_shown : AFun := ⟨76,
  .seq (.region false [⟨(some 0), .mov (.c (.bool false)), none⟩])
  (.seq (.region false [⟨(some 14), .call F_law33_Matrix [], none⟩,
    ⟨(some 15), .call F_format_Array [(.t 14)], none⟩,
    ⟨(some 13), .mov (.t 15), none⟩,
    ⟨(some 16), .extr (.t 13) 0, none⟩,
    ⟨(some 17), .extr (.t 13) 1, none⟩,
    ⟨(some 1), .mov (.t 16), none⟩,
    ⟨(some 2), .mov (.t 17), none⟩])
  (.seq (.region false [⟨(some 19), .call F_law33_Matrix [], none⟩,
    ⟨(some 20), .call F_format_Picture [(.t 19)], none⟩,
    ⟨(some 18), .mov (.t 20), none⟩,
    ⟨(some 21), .extr (.t 18) 0, none⟩,
    ⟨(some 22), .extr (.t 18) 1, none⟩,
    ⟨(some 3), .mov (.t 21), none⟩,
    ⟨(some 4), .mov (.t 22), none⟩])
  (.seq (.region false [⟨(some 24), .call F_law33_Marks [], none⟩,
    ⟨(some 25), .call F_format_Table [(.t 24)], none⟩,
    ⟨(some 23), .mov (.t 25), none⟩,
    ⟨(some 26), .extr (.t 23) 0, none⟩,
    ⟨(some 27), .extr (.t 23) 1, none⟩,
    ⟨(some 5), .mov (.t 26), none⟩,
    ⟨(some 6), .mov (.t 27), none⟩])
  (.seq (.region false [⟨(some 29), .call F_format_Parse [(.c (.str [105, 110, 116, 32, 49, 32, 51, 10, 49, 32, 50, 10]))], none⟩,
    ⟨(some 28), .mov (.t 29), none⟩,
    ⟨(some 30), .extr (.t 28) 0, none⟩,
    ⟨(some 31), .extr (.t 28) 1, none⟩,
    ⟨(some 32), .extr (.t 28) 2, none⟩,
    ⟨(some 7), .alloc [.int .i64 0, .int .i64 0, .int .i64 0, .int .i64 0, .sl .ex []], none⟩,
    ⟨none, .st 5 (.t 7) (.t 30), none⟩,
    ⟨(some 8), .mov (.t 31), none⟩,
    ⟨(some 9), .mov (.t 32), none⟩])
  (.seq (.region false [⟨(some 34), .call F_format_Grid [(.c (.str [49, 32, 50, 10, 51, 10]))], none⟩,
    ⟨(some 33), .mov (.t 34), none⟩,
    ⟨(some 35), .extr (.t 33) 0, none⟩,
    ⟨(some 36), .extr (.t 33) 1, none⟩,
    ⟨(some 37), .extr (.t 33) 2, none⟩,
    ⟨(some 10), .alloc [.int .i64 0, .int .i64 0, .int .i64 0, .int .i64 0, .sl .ex []], none⟩,
    ⟨none, .st 5 (.t 10) (.t 35), none⟩,
    ⟨(some 11), .mov (.t 36), none⟩,
    ⟨(some 12), .mov (.t 37), none⟩])
  (.seq (.region false [⟨(some 38), .mov (.t 1), none⟩,
    ⟨(some 39), .bin .eql (.t 38) (.c (.str [105, 110, 116, 32, 50, 32, 50, 32, 50, 10, 49, 32, 45, 50, 48, 32, 51, 48, 48, 32, 52, 10])), none⟩,
    ⟨(some 40), .mov (.t 39), none⟩,
    ⟨(some 41), .mov (.t 2), some (40, true)⟩,
    ⟨(some 42), .bin .eql (.t 41) (.c (.int .i64 0)), some (40, true)⟩,
    ⟨(some 43), .pick (.t 40) (.t 42) (.c (.bool false)), none⟩,
    ⟨(some 44), .mov (.t 43), none⟩,
    ⟨(some 45), .mov (.t 3), some (44, true)⟩,
    ⟨(some 46), .bin .eql (.t 45) (.c (.str [32, 32, 49, 32, 45, 50, 48, 10, 51, 48, 48, 32, 32, 32, 52, 10])), some (44, true)⟩,
    ⟨(some 47), .pick (.t 44) (.t 46) (.c (.bool false)), none⟩,
    ⟨(some 48), .mov (.t 47), none⟩,
    ⟨(some 49), .mov (.t 4), some (48, true)⟩,
    ⟨(some 50), .bin .eql (.t 49) (.c (.int .i64 0)), some (48, true)⟩,
    ⟨(some 51), .pick (.t 48) (.t 50) (.c (.bool false)), none⟩,
    ⟨(some 52), .mov (.t 51), none⟩,
    ⟨(some 53), .mov (.t 5), some (52, true)⟩,
    ⟨(some 54), .bin .eql (.t 53) (.c (.str [109, 97, 114, 107, 32, 32, 103, 114, 97, 100, 101, 10, 45, 45, 45, 45, 32, 32, 45, 45, 45, 45, 45, 10, 32, 32, 32, 51, 32, 32, 97, 32, 32, 32, 32, 10, 32, 32, 49, 50, 32, 32, 98, 32, 32, 32, 32, 10])), some (52, true)⟩,
    ⟨(some 55), .pick (.t 52) (.t 54) (.c (.bool false)), none⟩,
    ⟨(some 56), .mov (.t 55), none⟩,
    ⟨(some 57), .mov (.t 6), some (56, true)⟩,
    ⟨(some 58), .bin .eql (.t 57) (.c (.int .i64 0)), some (56, true)⟩,
    ⟨(some 59), .pick (.t 56) (.t 58) (.c (.bool false)), none⟩,
    ⟨(some 60), .mov (.t 59), none⟩,
    ⟨(some 61), .mov (.t 8), some (60, true)⟩,
    ⟨(some 62), .bin .eql (.t 61) (.c (.int .i64 2)), some (60, true)⟩,
    ⟨(some 63), .pick (.t 60) (.t 62) (.c (.bool false)), none⟩,
    ⟨(some 64), .mov (.t 63), none⟩,
    ⟨(some 65), .mov (.t 9), some (64, true)⟩,
    ⟨(some 66), .bin .eql (.t 65) (.c (.int .i64 6)), some (64, true)⟩,
    ⟨(some 67), .pick (.t 64) (.t 66) (.c (.bool false)), none⟩,
    ⟨(some 68), .mov (.t 67), none⟩,
    ⟨(some 69), .mov (.t 11), some (68, true)⟩,
    ⟨(some 70), .bin .eql (.t 69) (.c (.int .i64 2)), some (68, true)⟩,
    ⟨(some 71), .pick (.t 68) (.t 70) (.c (.bool false)), none⟩,
    ⟨(some 72), .mov (.t 71), none⟩,
    ⟨(some 73), .mov (.t 12), some (72, true)⟩,
    ⟨(some 74), .bin .eql (.t 73) (.c (.int .i64 11)), some (72, true)⟩,
    ⟨(some 75), .pick (.t 72) (.t 74) (.c (.bool false)), none⟩,
    ⟨(some 0), .mov (.t 75), none⟩])
  (.ret))))))),
  [.tmp 0]⟩

/- format_Picture -/
def A_format_PictureL1 : ACode :=
  .seq (.seq (.region false [⟨(some 42), .mov (.t 9), none⟩,
    ⟨(some 43), .fldA 4 (.t 1), none⟩,
    ⟨(some 44), .ld none (.t 43), none⟩,
    ⟨(some 45), .len (.t 44), none⟩,
    ⟨(some 46), .bin .lss (.t 42) (.t 45), none⟩])
  (.cond (.t 46)
   (.skip)
   (.exit 2)))
  (.seq (.block 3 (.region false [⟨(some 52), .mov (.t 8), none⟩,
    ⟨(some 53), .fldA 4 (.t 1), none⟩,
    ⟨(some 54), .ld none (.t 53), none⟩,
    ⟨(some 55), .mov (.t 9), none⟩,
    ⟨(some 56), .idxA 1 (.t 54) (.t 55), none⟩,
    ⟨(some 57), .ld none (.t 56), none⟩,
    ⟨(some 58), .bsl 1 (.int .i64 0) 1 [(0, (.t 57))], none⟩,
    ⟨(some 59), .app 1 8 (.t 52) (.t 58), none⟩,
    ⟨(some 8), .mov (.t 59), none⟩]))
  (.region false [⟨(some 47), .mov (.t 9), none⟩,
    ⟨(some 48), .fldA 2 (.t 1), none⟩,
    ⟨(some 49), .idxP 2 1 (.t 48) (.c (.int .i64 1)), none⟩,
    ⟨(some 50), .ld none (.t 49), none⟩,
    ⟨(some 51), .bin .add (.t 47) (.t 50), none⟩,
    ⟨(some 9), .mov (.t 51), none⟩]))
def A_format_PictureL0 : ACode :=
  .seq (.region false [⟨(some 39), .bin .lss (.t 38) (.t 37), none⟩])
  (.seq (.cond (.t 39)
   (.skip)
   (.exit 0))
  (.seq (.block 1 (.seq (.region false [⟨(some 40), .mov (.t 38), none⟩,
    ⟨(some 7), .mov (.t 40), none⟩])
  (.seq (.region false [⟨(some 8), .mov (.c (.sl .ex [])), none⟩])
  (.seq (.seq (.region false [⟨(some 41), .mov (.t 7), none⟩,
    ⟨(some 9), .mov (.t 41), none⟩])
  (.block 2 (.loop A_format_PictureL1)))
  (.region false [⟨(some 60), .mov (.t 6), none⟩,
    ⟨(some 61), .fldA 0 (.t 1), none⟩,
    ⟨(some 62), .ld none (.t 61), none⟩,
    ⟨(some 63), .mov (.t 8), none⟩,
    ⟨(some 64), .call F_format_stacked [(.t 62), (.t 63), (.c (.int .i64 0))], none⟩,
    ⟨(some 65), .bsl 3 (.agg [.sl .ex [], .int .i64 0, .nilF]) 1 [(0, (.t 64))], none⟩,
    ⟨(some 66), .app 3 40 (.t 60) (.t 65), none⟩,
    ⟨(some 6), .mov (.t 66), none⟩])))))
  (.region false [⟨(some 67), .bin .add (.t 38) (.c (.int .i64 1)), none⟩,
    ⟨(some 38), .mov (.t 67), none⟩])))
def A_format_PictureL3 : ACode :=
  .seq (.region false [⟨(some 77), .bin .lss (.t 76) (.t 75), none⟩])
  (.seq (.cond (.t 77)
   (.skip)
   (.exit 6))
  (.seq (.block 7 (.seq (.region false [⟨(some 78), .idxA 3 (.t 74) (.t 76), none⟩,
    ⟨(some 79), .ld (some 3) (.t 78), none⟩,
    ⟨(some 14), .alloc [.sl .ex [], .int .i64 0, .nilF], none⟩,
    ⟨none, .st 3 (.t 14) (.t 79), none⟩])
  (.region true [⟨(some 80), .mov (.t 12), none⟩,
    ⟨(some 81), .fldA 2 (.t 14), none⟩,
    ⟨(some 82), .ld none (.t 81), none⟩,
    ⟨(some 83), .fldA 0 (.t 14), none⟩,
    ⟨(some 84), .ld none (.t 83), none⟩,
    ⟨(some 85), .mov (.t 11), none⟩,
    ⟨(some 86), .idxA 1 (.t 84) (.t 85), none⟩,
    ⟨(some 87), .ld none (.t 86), none⟩,
    ⟨(some 88), .fldA 1 (.t 14), none⟩,
    ⟨(some 89), .ld none (.t 88), none⟩,
    ⟨(some 90), .callv (.t 82) [(.t 87), (.t 89)], none⟩,
    ⟨(some 91), .bsl 1 (.str []) 1 [(0, (.t 90))], none⟩,
    ⟨(some 92), .app 1 16 (.t 80) (.t 91), none⟩,
    ⟨(some 12), .mov (.t 92), none⟩])))
  (.region false [⟨(some 93), .bin .add (.t 76) (.c (.int .i64 1)), none⟩,
    ⟨(some 76), .mov (.t 93), none⟩])))
def A_format_PictureL2 : ACode :=
  .seq (.region false [⟨(some 72), .bin .lss (.t 71) (.t 70), none⟩])
  (.seq (.cond (.t 72)
   (.skip)
   (.exit 4))
  (.seq (.block 5 (.seq (.region false [⟨(some 73), .mov (.t 71), none⟩,
    ⟨(some 11), .mov (.t 73), none⟩])
  (.seq (.region false [⟨(some 12), .mov (.c (.sl .ex [])), none⟩])
  (.seq (.seq (.region false [⟨(some 74), .mov (.t 6), none⟩,
    ⟨(some 75), .len (.t 74), none⟩,
    ⟨(some 76), .mov (.c (.int .i64 0)), none⟩])
  (.block 6 (.loop A_format_PictureL3)))
  (.region false [⟨(some 94), .mov (.t 12), none⟩,
    ⟨(some 95), .mov (.t 5), none⟩,
    ⟨(some 96), .call F_strings_Join [(.t 94), (.t 95)], none⟩,
    ⟨(some 97), .bin .add (.t 96) (.c (.str [10])), none⟩,
    ⟨(some 98), .call F_strings_Builder_WriteString [(.t 10), (.t 97)], none⟩])))))
  (.region false [⟨(some 99), .bin .add (.t 71) (.c (.int .i64 1)), none⟩,
    ⟨(some 71), .mov (.t 99), none⟩])))
def A_format_Picture : AFun := ⟨101,
  .seq (.region false [⟨(some 1), .box (.t 0), none⟩,
    ⟨(some 2), .mov (.c (.str [])), none⟩,
    ⟨(some 3), .mov (.c (.int .i64 0)), none⟩])
  (.seq (.seq (.region false [⟨(some 15), .ld (some 5) (.t 1), none⟩,
    ⟨(some 16), .call F_arrays_Check [(.t 15)], none⟩,
    ⟨(some 4), .mov (.t 16), none⟩])
  (.seq (.region false [⟨(some 17), .mov (.t 4), none⟩,
    ⟨(some 18), .bin .neq (.t 17) (.c (.int .i64 0)), none⟩])
  (.cond (.t 18)
   (.seq (.region false [⟨(some 19), .mov (.t 4), none⟩,
     ⟨(some 2), .mov (.c (.str [])), none⟩,
     ⟨(some 3), .mov (.t 19), none⟩])
   (.ret))
   (.skip))))
  (.seq (.region false [⟨(some 5), .mov (.c (.str [])), none⟩])
  (.seq (.seq (.region false [⟨(some 20), .fldA 0 (.t 1), none⟩,
    ⟨(some 21), .ld none (.t 20), none⟩,
    ⟨(some 22), .bin .eql (.t 21) (.c (.int .i64 1)), none⟩])
  (.cond (.t 22)
   (.region false [⟨(some 5), .mov (.c (.str [32])), none⟩])
   (.skip)))
  (.seq (.seq (.region false [⟨(some 23), .fldA 1 (.t 1), none⟩,
    ⟨(some 24), .ld none (.t 23), none⟩,
    ⟨(some 25), .bin .lss (.t 24) (.c (.int .i64 2)), none⟩])
  (.cond (.t 25)
   (.seq (.region false [⟨(some 26), .fldA 0 (.t 1), none⟩,
     ⟨(some 27), .ld none (.t 26), none⟩,
     ⟨(some 28), .fldA 4 (.t 1), none⟩,
     ⟨(some 29), .ld none (.t 28), none⟩,
     ⟨(some 30), .call F_format_stacked [(.t 27), (.t 29), (.c (.int .i64 0))], none⟩,
     ⟨(some 31), .fld 0 none (.t 30), none⟩,
     ⟨(some 32), .mov (.t 5), none⟩,
     ⟨(some 33), .call F_strings_Join [(.t 31), (.t 32)], none⟩,
     ⟨(some 34), .bin .add (.t 33) (.c (.str [10])), none⟩,
     ⟨(some 2), .mov (.t 34), none⟩,
     ⟨(some 3), .mov (.c (.int .i64 0)), none⟩])
   (.ret))
   (.skip)))
  (.seq (.region false [⟨(some 6), .mov (.c (.sl .ex [])), none⟩])
  (.seq (.seq (.region false [⟨(some 35), .fldA 2 (.t 1), none⟩,
    ⟨(some 36), .idxP 2 1 (.t 35) (.c (.int .i64 1)), none⟩,
    ⟨(some 37), .ld none (.t 36), none⟩,
    ⟨(some 38), .mov (.c (.int .i64 0)), none⟩])
  (.block 0 (.loop A_format_PictureL0)))
  (.seq (.region false [⟨(some 10), .allocB 61 5, none⟩])
  (.seq (.seq (.region false [⟨(some 68), .fldA 2 (.t 1), none⟩,
    ⟨(some 69), .idxP 2 1 (.t 68) (.c (.int .i64 0)), none⟩,
    ⟨(some 70), .ld none (.t 69), none⟩,
    ⟨(some 71), .mov (.c (.int .i64 0)), none⟩])
  (.block 4 (.loop A_format_PictureL2)))
  (.seq (.region false [⟨(some 100), .call F_strings_Builder_String [(.t 10)], none⟩,
    ⟨(some 2), .mov (.t 100), none⟩,
    ⟨(some 3), .mov (.c (.int .i64 0)), none⟩])
  (.ret)))))))))),
  [.tmp 2, .tmp 3]⟩

/- law33_lengths -/
def A_law33_lengthsL0 : ACode :=
  .seq (.seq (.region false [⟨(some 6), .mov (.t 5), none⟩,
    ⟨(some 7), .mov (.t 0), none⟩,
    ⟨(some 8), .lenS (.t 7), none⟩,
    ⟨(some 9), .bin .lss (.t 6) (.t 8), none⟩])
  (.cond (.t 9)
   (.skip)
   (.exit 0)))
  (.seq (.block 1 (.seq (.region false [⟨(some 12), .mov (.t 0), none⟩,
    ⟨(some 13), .mov (.t 5), none⟩,
    ⟨(some 14), .idxS (.t 12) (.t 13), none⟩,
    ⟨(some 15), .bin .eql (.t 14) (.c (.int .u8 10)), none⟩])
  (.cond (.t 15)
   (.seq (.region false [⟨(some 16), .mov (.t 3), none⟩,
     ⟨(some 17), .mov (.t 5), none⟩,
     ⟨(some 18), .mov (.t 4), none⟩,
     ⟨(some 19), .bin .sub (.t 17) (.t 18), none⟩,
     ⟨(some 20), .bsl 1 (.int .i64 0) 1 [(0, (.t 19))], none⟩,
     ⟨(some 21), .app 1 8 (.t 16) (.t 20), none⟩,
     ⟨(some 3), .mov (.t 21), none⟩])
   (.region false [⟨(some 22), .mov (.t 5), none⟩,
     ⟨(some 23), .bin .add (.t 22) (.c (.int .i64 1)), none⟩,
     ⟨(some 4), .mov (.t 23), none⟩]))
   (.skip))))
  (.region false [⟨(some 10), .mov (.t 5), none⟩,
    ⟨(some 11), .bin .add (.t 10) (.c (.int .i64 1)), none⟩,
    ⟨(some 5), .mov (.t 11), none⟩]))
def A_law33_lengths : AFun := ⟨32,
  .seq (.region false [⟨(some 2), .mov (.c (.sl .ex [])), none⟩])
  (.seq (.region false [⟨(some 3), .mov (.c (.sl .ex [])), none⟩])
  (.seq (.region false [⟨(some 4), .mov (.c (.int .i64 0)), none⟩])
  (.seq (.seq (.region false [⟨(some 5), .mov (.c (.int .i64 0)), none⟩])
  (.block 0 (.loop A_law33_lengthsL0)))
  (.seq (.seq (.region false [⟨(some 24), .mov (.t 4), none⟩,
    ⟨(some 25), .mov (.t 0), none⟩,
    ⟨(some 26), .lenS (.t 25), none⟩,
    ⟨(some 27), .bin .lss (.t 24) (.t 26), none⟩])
  (.cond (.t 27)
   (.region false [⟨(some 28), .mov (.t 3), none⟩,
     ⟨(some 29), .bsl 1 (.int .i64 0) 1 [(0, (.c (.int .i64 (-1))))], none⟩,
     ⟨(some 30), .app 1 8 (.t 28) (.t 29), none⟩,
     ⟨(some 3), .mov (.t 30), none⟩])
   (.skip)))
  (.seq (.region false [⟨(some 31), .mov (.t 3), none⟩,
    ⟨(some 2), .mov (.t 31), none⟩])
  (.ret)))))),
  [.tmp 2]⟩

/- format_Grid -/
def A_format_GridL0 : ACode :=
  .seq (.region false [⟨(some 29), .bin .lss (.t 28) (.t 27), none⟩])
  (.seq (.cond (.t 29)
   (.skip)
   (.exit 1))
  (.seq (.block 2 (.seq (.region false [⟨(some 30), .mov (.t 28), none⟩,
    ⟨(some 31), .idxA 1 (.t 26) (.t 28), none⟩,
    ⟨(some 32), .ld none (.t 31), none⟩,
    ⟨(some 6), .mov (.t 30), none⟩,
    ⟨(some 7), .mov (.t 32), none⟩])
  (.seq (.region false [⟨(some 34), .mov (.t 7), none⟩,
    ⟨(some 35), .call F_format_row [(.t 34)], none⟩,
    ⟨(some 33), .mov (.t 35), none⟩,
    ⟨(some 36), .extr (.t 33) 0, none⟩,
    ⟨(some 37), .extr (.t 33) 1, none⟩,
    ⟨(some 8), .mov (.t 36), none⟩,
    ⟨(some 9), .mov (.t 37), none⟩])
  (.seq (.block 3 (.seq (.region false [⟨(some 39), .mov (.t 9), none⟩,
    ⟨(some 40), .bin .neq (.t 39) (.c (.int .i64 0)), none⟩,
    ⟨(some 38), .mov (.t 40), none⟩])
  (.cond (.t 38)
   (.seq (.region false [⟨(some 41), .build [.int .i64 0, .int .i64 0, .int .i64 0, .int .i64 0, .sl .ex []] [], none⟩,
     ⟨(some 42), .mov (.t 6), none⟩,
     ⟨(some 43), .bin .add (.t 42) (.c (.int .i64 1)), none⟩,
     ⟨(some 44), .mov (.t 9), none⟩,
     ⟨none, .st 5 (.t 2) (.t 41), none⟩,
     ⟨(some 3), .mov (.t 43), none⟩,
     ⟨(some 4), .mov (.t 44), none⟩])
   (.ret))
   (.seq (.region false [⟨(some 46), .mov (.t 6), none⟩,
     ⟨(some 47), .bin .gtr (.t 46) (.c (.int .i64 0)), none⟩,
     ⟨(some 48), .mov (.t 47), none⟩,
     ⟨(some 49), .mov (.t 8), some (48, true)⟩,
     ⟨(some 50), .len (.t 49), some (48, true)⟩,
     ⟨(some 51), .fldA 2 (.t 2), some (48, true)⟩,
     ⟨(some 52), .idxP 2 1 (.t 51) (.c (.int .i64 1)), some (48, true)⟩,
     ⟨(some 53), .ld none (.t 52), some (48, true)⟩,
     ⟨(some 54), .bin .neq (.t 50) (.t 53), some (48, true)⟩,
     ⟨(some 55), .pick (.t 48) (.t 54) (.c (.bool false)), none⟩,
     ⟨(some 45), .mov (.t 55), none⟩])
   (.cond (.t 45)
    (.seq (.region false [⟨(some 56), .build [.int .i64 0, .int .i64 0, .int .i64 0, .int .i64 0, .sl .ex []] [], none⟩,
      ⟨(some 57), .mov (.t 6), none⟩,
      ⟨(some 58), .bin .add (.t 57) (.c (.int .i64 1)), none⟩,
      ⟨none, .st 5 (.t 2) (.t 56), none⟩,
      ⟨(some 3), .mov (.t 58), none⟩,
      ⟨(some 4), .mov (.c (.int .i64 11)), none⟩])
    (.ret))
    (.skip))))))
  (.seq (.region false [⟨(some 59), .mov (.t 6), none⟩,
    ⟨(some 60), .bin .add (.t 59) (.c (.int .i64 1)), none⟩,
    ⟨(some 61), .mov (.t 8), none⟩,
    ⟨(some 62), .len (.t 61), none⟩,
    ⟨(some 63), .build [.int .i64 0, .int .i64 0] [(0, 1, (.t 60)), (1, 1, (.t 62))], none⟩,
    ⟨(some 64), .fldA 2 (.t 2), none⟩,
    ⟨none, .st 2 (.t 64) (.t 63), none⟩])
  (.region false [⟨(some 65), .fldA 4 (.t 2), none⟩,
    ⟨(some 66), .ld none (.t 65), none⟩,
    ⟨(some 67), .mov (.t 8), none⟩,
    ⟨(some 68), .app 1 8 (.t 66) (.t 67), none⟩,
    ⟨(some 69), .fldA 4 (.t 2), none⟩,
    ⟨none, .st 1 (.t 69) (.t 68), none⟩]))))))
  (.region false [⟨(some 70), .bin .add (.t 28) (.c (.int .i64 1)), none⟩,
    ⟨(some 28), .mov (.t 70), none⟩])))
def A_format_Grid : AFun := ⟨77,
  .seq (.region false [⟨(some 2), .alloc [.int .i64 0, .int .i64 0, .int .i64 0, .int .i64 0, .sl .ex []], none⟩,
    ⟨(some 3), .mov (.c (.int .i64 0)), none⟩,
    ⟨(some 4), .mov (.c (.int .i64 0)), none⟩])
  (.seq (.region false [⟨(some 11), .mov (.t 0), none⟩,
    ⟨(some 12), .call F_words_Lines [(.t 11)], none⟩,
    ⟨(some 10), .mov (.t 12), none⟩,
    ⟨(some 13), .extr (.t 10) 0, none⟩,
    ⟨(some 14), .extr (.t 10) 1, none⟩,
    ⟨(some 5), .mov (.t 13), none⟩,
    ⟨(some 4), .mov (.t 14), none⟩])
  (.seq (.block 0 (.seq (.region false [⟨(some 16), .mov (.t 4), none⟩,
    ⟨(some 17), .bin .neq (.t 16) (.c (.int .i64 0)), none⟩,
    ⟨(some 15), .mov (.t 17), none⟩])
  (.cond (.t 15)
   (.seq (.region false [⟨(some 18), .build [.int .i64 0, .int .i64 0, .int .i64 0, .int .i64 0, .sl .ex []] [], none⟩,
     ⟨(some 19), .mov (.t 4), none⟩,
     ⟨none, .st 5 (.t 2) (.t 18), none⟩,
     ⟨(some 3), .mov (.c (.int .i64 0)), none⟩,
     ⟨(some 4), .mov (.t 19), none⟩])
   (.ret))
   (.seq (.region false [⟨(some 21), .mov (.t 5), none⟩,
     ⟨(some 22), .len (.t 21), none⟩,
     ⟨(some 23), .bin .eql (.t 22) (.c (.int .i64 0)), none⟩,
     ⟨(some 20), .mov (.t 23), none⟩])
   (.cond (.t 20)
    (.seq (.region false [⟨(some 24), .build [.int .i64 0, .int .i64 0, .int .i64 0, .int .i64 0, .sl .ex []] [], none⟩,
      ⟨none, .st 5 (.t 2) (.t 24), none⟩,
      ⟨(some 3), .mov (.c (.int .i64 0)), none⟩,
      ⟨(some 4), .mov (.c (.int .i64 6)), none⟩])
    (.ret))
    (.skip))))))
  (.seq (.region false [⟨(some 25), .build [.int .i64 0, .int .i64 0, .int .i64 0, .int .i64 0, .sl .ex []] [(0, 1, (.c (.int .i64 1))), (1, 1, (.c (.int .i64 2)))], none⟩,
    ⟨none, .st 5 (.t 2) (.t 25), none⟩])
  (.seq (.seq (.region false [⟨(some 26), .mov (.t 5), none⟩,
    ⟨(some 27), .len (.t 26), none⟩,
    ⟨(some 28), .mov (.c (.int .i64 0)), none⟩])
  (.block 1 (.loop A_format_GridL0)))
  (.seq (.seq (.region false [⟨(some 71), .fldA 4 (.t 2), none⟩,
    ⟨(some 72), .ld none (.t 71), none⟩,
    ⟨(some 73), .len (.t 72), none⟩,
    ⟨(some 74), .bin .gtr (.t 73) (.c (.int .i64 400)), none⟩])
  (.cond (.t 74)
   (.seq (.region false [⟨(some 75), .build [.int .i64 0, .int .i64 0, .int .i64 0, .int .i64 0, .sl .ex []] [], none⟩,
     ⟨none, .st 5 (.t 2) (.t 75), none⟩,
     ⟨(some 3), .mov (.c (.int .i64 0)), none⟩,
     ⟨(some 4), .mov (.c (.int .i64 15)), none⟩])
   (.ret))
   (.skip)))
  (.seq (.region false [⟨(some 76), .ld (some 5) (.t 2), none⟩,
    ⟨none, .st 5 (.t 2) (.t 76), none⟩,
    ⟨(some 3), .mov (.c (.int .i64 0)), none⟩,
    ⟨(some 4), .mov (.c (.int .i64 0)), none⟩])
  (.ret))))))),
  [.cell (some 5) 2, .tmp 3, .tmp 4]⟩

/- ref06_Same -/
def A_ref06_SameL0 : ACode :=
  .seq (.seq (.region false [⟨(some 19), .mov (.t 5), none⟩,
    ⟨(some 20), .fldA 4 (.t 2), none⟩,
    ⟨(some 21), .ld none (.t 20), none⟩,
    ⟨(some 22), .len (.t 21), none⟩,
    ⟨(some 23), .bin .lss (.t 19) (.t 22), none⟩])
  (.cond (.t 23)
   (.skip)
   (.exit 0)))
  (.seq (.block 1 (.seq (.region true [⟨(some 26), .fldA 4 (.t 2), none⟩,
    ⟨(some 27), .ld none (.t 26), none⟩,
    ⟨(some 28), .mov (.t 5), none⟩,
    ⟨(some 29), .idxA 1 (.t 27) (.t 28), none⟩,
    ⟨(some 30), .ld none (.t 29), none⟩,
    ⟨(some 31), .fldA 4 (.t 3), none⟩,
    ⟨(some 32), .ld none (.t 31), none⟩,
    ⟨(some 33), .mov (.t 5), none⟩,
    ⟨(some 34), .idxA 1 (.t 32) (.t 33), none⟩,
    ⟨(some 35), .ld none (.t 34), none⟩,
    ⟨(some 36), .bin .neq (.t 30) (.t 35), none⟩])
  (.cond (.t 36)
   (.seq (.region false [⟨(some 4), .mov (.c (.bool false)), none⟩])
   (.ret))
   (.skip))))
  (.region false [⟨(some 24), .mov (.t 5), none⟩,
    ⟨(some 25), .bin .add (.t 24) (.c (.int .i64 1)), none⟩,
    ⟨(some 5), .mov (.t 25), none⟩]))
def A_ref06_Same : AFun := ⟨37,
  .seq (.region false [⟨(some 2), .box (.t 0), none⟩,
    ⟨(some 3), .box (.t 1), none⟩,
    ⟨(some 4), .mov (.c (.bool false)), none⟩])
  (.seq (.seq (.region false [⟨(some 6), .ld (some 5) (.t 2), none⟩,
    ⟨(some 7), .ld (some 5) (.t 3), none⟩,
    ⟨(some 8), .call F_ref06_Like [(.t 6), (.t 7)], none⟩,
    ⟨(some 9), .not (.t 8), none⟩,
    ⟨(some 10), .mov (.t 9), none⟩,
    ⟨(some 11), .fldA 4 (.t 2), some (10, false)⟩,
    ⟨(some 12), .ld none (.t 11), some (10, false)⟩,
    ⟨(some 13), .len (.t 12), some (10, false)⟩,
    ⟨(some 14), .fldA 4 (.t 3), some (10, false)⟩,
    ⟨(some 15), .ld none (.t 14), some (10, false)⟩,
    ⟨(some 16), .len (.t 15), some (10, false)⟩,
    ⟨(some 17), .bin .neq (.t 13) (.t 16), some (10, false)⟩,
    ⟨(some 18), .pick (.t 10) (.c (.bool true)) (.t 17), none⟩])
  (.cond (.t 18)
   (.seq (.region false [⟨(some 4), .mov (.c (.bool false)), none⟩])
   (.ret))
   (.skip)))
  (.seq (.seq (.region false [⟨(some 5), .mov (.c (.int .i64 0)), none⟩])
  (.block 0 (.loop A_ref06_SameL0)))
  (.seq (.region false [⟨(some 4), .mov (.c (.bool true)), none⟩])
  (.ret)))),
  [.tmp 4]⟩

/- format_Table -/
def A_format_TableL0 : ACode :=
  .seq (.region false [⟨(some 34), .bin .lss (.t 33) (.t 32), none⟩])
  (.seq (.cond (.t 34)
   (.skip)
   (.exit 0))
  (.seq (.block 1 (.seq (.region false [⟨(some 35), .mov (.t 33), none⟩,
    ⟨(some 8), .alloc [.int .i64 0], none⟩,
    ⟨none, .st 1 (.t 8) (.t 35), none⟩])
  (.region false [⟨(some 36), .mov (.t 7), none⟩,
    ⟨(some 37), .mkf F_format_Table_4 [] [(.t 8)], none⟩,
    ⟨(some 38), .callv (.t 36) [(.t 37)], none⟩])))
  (.region false [⟨(some 39), .bin .add (.t 33) (.c (.int .i64 1)), none⟩,
    ⟨(some 33), .mov (.t 39), none⟩])))
def A_format_Table : AFun := ⟨41,
  .seq (.region false [⟨(some 1), .box (.t 0), none⟩,
    ⟨(some 2), .mov (.c (.str [])), none⟩,
    ⟨(some 3), .mov (.c (.int .i64 0)), none⟩])
  (.seq (.region false [⟨(some 10), .ld (some 2) (.t 1), none⟩,
    ⟨(some 11), .call F_format_drawn [(.t 10)], none⟩,
    ⟨(some 9), .mov (.t 11), none⟩,
    ⟨(some 12), .extr (.t 9) 0, none⟩,
    ⟨(some 13), .extr (.t 9) 1, none⟩,
    ⟨(some 4), .alloc [.sl .ex []], none⟩,
    ⟨none, .st 1 (.t 4) (.t 12), none⟩,
    ⟨(some 5), .mov (.t 13), none⟩])
  (.seq (.seq (.region false [⟨(some 14), .mov (.t 5), none⟩,
    ⟨(some 15), .bin .neq (.t 14) (.c (.int .i64 0)), none⟩,
    ⟨(some 16), .mov (.t 15), none⟩,
    ⟨(some 17), .ld none (.t 4), some (16, false)⟩,
    ⟨(some 18), .len (.t 17), some (16, false)⟩,
    ⟨(some 19), .bin .eql (.t 18) (.c (.int .i64 0)), some (16, false)⟩,
    ⟨(some 20), .pick (.t 16) (.c (.bool true)) (.t 19), none⟩])
  (.cond (.t 20)
   (.seq (.region false [⟨(some 21), .mov (.t 5), none⟩,
     ⟨(some 2), .mov (.c (.str [])), none⟩,
     ⟨(some 3), .mov (.t 21), none⟩])
   (.ret))
   (.skip)))
  (.seq (.region false [⟨(some 6), .allocB 61 5, none⟩])
  (.seq (.region false [⟨(some 22), .mkf F_format_Table_1 [] [(.t 4), (.t 6)], none⟩,
    ⟨(some 7), .mov (.t 22), none⟩])
  (.seq (.region false [⟨(some 23), .mov (.t 7), none⟩,
    ⟨(some 24), .mkf F_format_Table_2 [] [(.t 1)], none⟩,
    ⟨(some 25), .callv (.t 23) [(.t 24)], none⟩])
  (.seq (.region false [⟨(some 26), .mov (.t 7), none⟩,
    ⟨(some 27), .callv (.t 26) [(.c (.clo F_format_Table_3 [] []))], none⟩])
  (.seq (.seq (.region false [⟨(some 28), .ld none (.t 4), none⟩,
    ⟨(some 29), .idxA 3 (.t 28) (.c (.int .i64 0)), none⟩,
    ⟨(some 30), .fldA 0 (.t 29), none⟩,
    ⟨(some 31), .ld none (.t 30), none⟩,
    ⟨(some 32), .len (.t 31), none⟩,
    ⟨(some 33), .mov (.c (.int .i64 0)), none⟩])
  (.block 0 (.loop A_format_TableL0)))
  (.seq (.region false [⟨(some 40), .call F_strings_Builder_String [(.t 6)], none⟩,
    ⟨(some 2), .mov (.t 40), none⟩,
    ⟨(some 3), .mov (.c (.int .i64 0)), none⟩])
  (.ret))))))))),
  [.tmp 2, .tmp 3]⟩

/- format_Widths -/
def A_format_WidthsL0 : ACode :=
  .seq (.region false [⟨(some 20), .bin .lss (.t 19) (.t 18), none⟩])
  (.seq (.cond (.t 20)
   (.skip)
   (.exit 0))
  (.seq (.block 1 (.seq (.region false [⟨(some 21), .idxA 3 (.t 17) (.t 19), none⟩,
    ⟨(some 22), .ld (some 3) (.t 21), none⟩,
    ⟨(some 8), .alloc [.sl .ex [], .int .i64 0, .nilF], none⟩,
    ⟨none, .st 3 (.t 8) (.t 22), none⟩])
  (.region false [⟨(some 23), .mov (.t 6), none⟩,
    ⟨(some 24), .fldA 1 (.t 8), none⟩,
    ⟨(some 25), .ld none (.t 24), none⟩,
    ⟨(some 26), .bsl 1 (.int .i64 0) 1 [(0, (.t 25))], none⟩,
    ⟨(some 27), .app 1 8 (.t 23) (.t 26), none⟩,
    ⟨(some 6), .mov (.t 27), none⟩])))
  (.region false [⟨(some 28), .bin .add (.t 19) (.c (.int .i64 1)), none⟩,
    ⟨(some 19), .mov (.t 28), none⟩])))
def A_format_Widths : AFun := ⟨30,
  .seq (.region false [⟨(some 1), .box (.t 0), none⟩,
    ⟨(some 2), .mov (.c (.sl .ex [])), none⟩,
    ⟨(some 3), .mov (.c (.int .i64 0)), none⟩])
  (.seq (.region false [⟨(some 10), .ld (some 2) (.t 1), none⟩,
    ⟨(some 11), .call F_format_drawn [(.t 10)], none⟩,
    ⟨(some 9), .mov (.t 11), none⟩,
    ⟨(some 12), .extr (.t 9) 0, none⟩,
    ⟨(some 13), .extr (.t 9) 1, none⟩,
    ⟨(some 4), .mov (.t 12), none⟩,
    ⟨(some 5), .mov (.t 13), none⟩])
  (.seq (.seq (.region false [⟨(some 14), .mov (.t 5), none⟩,
    ⟨(some 15), .bin .neq (.t 14) (.c (.int .i64 0)), none⟩])
  (.cond (.t 15)
   (.seq (.region false [⟨(some 16), .mov (.t 5), none⟩,
     ⟨(some 2), .mov (.c (.sl .ex [])), none⟩,
     ⟨(some 3), .mov (.t 16), none⟩])
   (.ret))
   (.skip)))
  (.seq (.region false [⟨(some 6), .mov (.c (.sl .ex [])), none⟩])
  (.seq (.seq (.region false [⟨(some 17), .mov (.t 4), none⟩,
    ⟨(some 18), .len (.t 17), none⟩,
    ⟨(some 19), .mov (.c (.int .i64 0)), none⟩])
  (.block 0 (.loop A_format_WidthsL0)))
  (.seq (.region false [⟨(some 29), .mov (.t 6), none⟩,
    ⟨(some 2), .mov (.t 29), none⟩,
    ⟨(some 3), .mov (.c (.int .i64 0)), none⟩])
  (.ret)))))),
  [.tmp 2, .tmp 3]⟩

/- ref33_Picture -/
/- format_Cell -/
/- ref33_Cell -/
/- format_Array -/
def A_format_ArrayR0a : ACode :=
  .region false [⟨(some 7), .mov (.t 38), none⟩]
def A_format_ArrayR0b : ACode :=
  .block 1 (.region false [⟨(some 39), .fldA 0 (.t 1), none⟩,
    ⟨(some 40), .ld none (.t 39), none⟩,
    ⟨(some 41), .mov (.t 7), none⟩,
    ⟨(some 42), .call F_format_piece [(.t 40), (.t 41)], none⟩,
    ⟨(some 43), .bin .add (.t 42) (.c (.str [10])), none⟩,
    ⟨(some 44), .call F_strings_Builder_WriteString [(.t 5), (.t 43)], none⟩])
def A_format_Array : AFun := ⟨46,
  .seq (.region false [⟨(some 1), .box (.t 0), none⟩,
    ⟨(some 2), .mov (.c (.str [])), none⟩,
    ⟨(some 3), .mov (.c (.int .i64 0)), none⟩])
  (.seq (.seq (.region false [⟨(some 8), .ld (some 5) (.t 1), none⟩,
    ⟨(some 9), .call F_arrays_Check [(.t 8)], none⟩,
    ⟨(some 4), .mov (.t 9), none⟩])
  (.seq (.region false [⟨(some 10), .mov (.t 4), none⟩,
    ⟨(some 11), .bin .neq (.t 10) (.c (.int .i64 0)), none⟩])
  (.cond (.t 11)
   (.seq (.region false [⟨(some 12), .mov (.t 4), none⟩,
     ⟨(some 2), .mov (.c (.str [])), none⟩,
     ⟨(some 3), .mov (.t 12), none⟩])
   (.ret))
   (.skip))))
  (.seq (.region false [⟨(some 5), .allocB 61 5, none⟩])
  (.seq (.seq (.region false [⟨(some 13), .fldA 0 (.t 1), none⟩,
    ⟨(some 14), .ld none (.t 13), none⟩,
    ⟨(some 15), .bin .eql (.t 14) (.c (.int .i64 2)), none⟩])
  (.cond (.t 15)
   (.region false [⟨(some 16), .call F_strings_Builder_WriteString [(.t 5), (.c (.str [99, 104, 97, 114, 32]))], none⟩])
   (.region false [⟨(some 17), .call F_strings_Builder_WriteString [(.t 5), (.c (.str [105, 110, 116, 32]))], none⟩])))
  (.seq (.region false [⟨(some 18), .fldA 1 (.t 1), none⟩,
    ⟨(some 19), .ld none (.t 18), none⟩,
    ⟨(some 20), .fldA 2 (.t 1), none⟩,
    ⟨(some 21), .idxP 2 1 (.t 20) (.c (.int .i64 0)), none⟩,
    ⟨(some 22), .ld none (.t 21), none⟩,
    ⟨(some 23), .fldA 2 (.t 1), none⟩,
    ⟨(some 24), .idxP 2 1 (.t 23) (.c (.int .i64 1)), none⟩,
    ⟨(some 25), .ld none (.t 24), none⟩,
    ⟨(some 26), .bsl 1 (.int .i64 0) 3 [(0, (.t 19)), (1, (.t 22)), (2, (.t 25))], none⟩,
    ⟨(some 6), .mov (.t 26), none⟩])
  (.seq (.region false [⟨(some 27), .mov (.t 6), none⟩,
    ⟨(some 28), .fldA 1 (.t 1), none⟩,
    ⟨(some 29), .ld none (.t 28), none⟩,
    ⟨(some 30), .bin .add (.t 29) (.c (.int .i64 1)), none⟩,
    ⟨(some 31), .sls 1 (.t 27) none (some (.t 30)) none, none⟩,
    ⟨(some 32), .call F_format_numbers [(.t 31)], none⟩,
    ⟨(some 33), .bin .add (.t 32) (.c (.str [10])), none⟩,
    ⟨(some 34), .call F_strings_Builder_WriteString [(.t 5), (.t 33)], none⟩])
  (.seq (.seq (.region false [⟨(some 35), .fldA 4 (.t 1), none⟩,
    ⟨(some 36), .ld none (.t 35), none⟩,
    ⟨(some 37), .call F_format_pieces [(.t 36)], none⟩])
  (.block 0 (.rangeF (.t 37) [38] A_format_ArrayR0a A_format_ArrayR0b)))
  (.seq (.region false [⟨(some 45), .call F_strings_Builder_String [(.t 5)], none⟩,
    ⟨(some 2), .mov (.t 45), none⟩,
    ⟨(some 3), .mov (.c (.int .i64 0)), none⟩])
  (.ret)))))))),
  [.tmp 2, .tmp 3]⟩

/- ref33_Array -/
/- format_Parse -/
def A_format_ParseL0 : ACode :=
  .seq (.seq (.region false [⟨(some 51), .mov (.t 9), none⟩,
    ⟨(some 52), .bin .gtr (.t 51) (.c (.int .i64 0)), none⟩])
  (.cond (.t 52)
   (.skip)
   (.exit 1)))
  (.seq (.block 2 (.seq (.seq (.region false [⟨(some 55), .mov (.t 3), none⟩,
    ⟨(some 56), .mov (.t 5), none⟩,
    ⟨(some 57), .len (.t 56), none⟩,
    ⟨(some 58), .bin .eql (.t 55) (.t 57), none⟩])
  (.cond (.t 58)
   (.seq (.region false [⟨(some 59), .mov (.t 6), none⟩,
     ⟨(some 60), .mov (.t 3), none⟩,
     ⟨(some 61), .bin .add (.t 60) (.c (.int .i64 1)), none⟩,
     ⟨(some 62), .callv (.t 59) [(.t 61)], none⟩,
     ⟨(some 63), .extr (.t 62) 0, none⟩,
     ⟨(some 64), .extr (.t 62) 1, none⟩,
     ⟨(some 65), .extr (.t 62) 2, none⟩,
     ⟨none, .st 5 (.t 2) (.t 63), none⟩,
     ⟨(some 3), .mov (.t 64), none⟩,
     ⟨(some 4), .mov (.t 65), none⟩])
   (.ret))
   (.skip)))
  (.seq (.region true [⟨(some 67), .fldA 0 (.t 2), none⟩,
    ⟨(some 68), .ld none (.t 67), none⟩,
    ⟨(some 69), .mov (.t 5), none⟩,
    ⟨(some 70), .mov (.t 3), none⟩,
    ⟨(some 71), .idxA 1 (.t 69) (.t 70), none⟩,
    ⟨(some 72), .ld none (.t 71), none⟩,
    ⟨(some 73), .mov (.t 9), none⟩,
    ⟨(some 74), .mm false (.t 73) (.c (.int .i64 20)), none⟩,
    ⟨(some 75), .call F_format_cells [(.t 68), (.t 72), (.t 74)], none⟩,
    ⟨(some 66), .mov (.t 75), none⟩,
    ⟨(some 76), .extr (.t 66) 0, none⟩,
    ⟨(some 77), .extr (.t 66) 1, none⟩,
    ⟨(some 10), .mov (.t 76), none⟩,
    ⟨(some 11), .mov (.t 77), none⟩])
  (.seq (.seq (.region false [⟨(some 78), .mov (.t 11), none⟩,
    ⟨(some 79), .not (.t 78), none⟩])
  (.cond (.t 79)
   (.seq (.region false [⟨(some 80), .mov (.t 6), none⟩,
     ⟨(some 81), .mov (.t 3), none⟩,
     ⟨(some 82), .bin .add (.t 81) (.c (.int .i64 1)), none⟩,
     ⟨(some 83), .callv (.t 80) [(.t 82)], none⟩,
     ⟨(some 84), .extr (.t 83) 0, none⟩,
     ⟨(some 85), .extr (.t 83) 1, none⟩,
     ⟨(some 86), .extr (.t 83) 2, none⟩,
     ⟨none, .st 5 (.t 2) (.t 84), none⟩,
     ⟨(some 3), .mov (.t 85), none⟩,
     ⟨(some 4), .mov (.t 86), none⟩])
   (.ret))
   (.skip)))
  (.seq (.region false [⟨(some 87), .fldA 4 (.t 2), none⟩,
    ⟨(some 88), .ld none (.t 87), none⟩,
    ⟨(some 89), .mov (.t 10), none⟩,
    ⟨(some 90), .app 1 8 (.t 88) (.t 89), none⟩,
    ⟨(some 91), .fldA 4 (.t 2), none⟩,
    ⟨none, .st 1 (.t 91) (.t 90), none⟩])
  (.region false [⟨(some 92), .mov (.t 9), none⟩,
    ⟨(some 93), .mov (.t 10), none⟩,
    ⟨(some 94), .len (.t 93), none⟩,
    ⟨(some 95), .bin .sub (.t 92) (.t 94), none⟩,
    ⟨(some 9), .mov (.t 95), none⟩]))))))
  (.region false [⟨(some 53), .mov (.t 3), none⟩,
    ⟨(some 54), .bin .add (.t 53) (.c (.int .i64 1)), none⟩,
    ⟨(some 3), .mov (.t 54), none⟩]))
def A_format_Parse : AFun := ⟨114,
  .seq (.region false [⟨(some 2), .alloc [.int .i64 0, .int .i64 0, .int .i64 0, .int .i64 0, .sl .ex []], none⟩,
    ⟨(some 3), .mov (.c (.int .i64 0)), none⟩,
    ⟨(some 4), .mov (.c (.int .i64 0)), none⟩])
  (.seq (.region false [⟨(some 14), .mov (.t 0), none⟩,
    ⟨(some 15), .call F_words_Lines [(.t 14)], none⟩,
    ⟨(some 13), .mov (.t 15), none⟩,
    ⟨(some 16), .extr (.t 13) 0, none⟩,
    ⟨(some 17), .extr (.t 13) 1, none⟩,
    ⟨(some 5), .mov (.t 16), none⟩,
    ⟨(some 4), .mov (.t 17), none⟩])
  (.seq (.seq (.region false [⟨(some 18), .mov (.t 4), none⟩,
    ⟨(some 19), .bin .neq (.t 18) (.c (.int .i64 0)), none⟩])
  (.cond (.t 19)
   (.seq (.region false [⟨(some 20), .build [.int .i64 0, .int .i64 0, .int .i64 0, .int .i64 0, .sl .ex []] [], none⟩,
     ⟨(some 21), .mov (.t 4), none⟩,
     ⟨none, .st 5 (.t 2) (.t 20), none⟩,
     ⟨(some 3), .mov (.c (.int .i64 0)), none⟩,
     ⟨(some 4), .mov (.t 21), none⟩])
   (.ret))
   (.skip)))
  (.seq (.region false [⟨(some 6), .mov (.c (.clo F_format_Parse_1 [] [])), none⟩])
  (.seq (.seq (.region false [⟨(some 22), .mov (.t 5), none⟩,
    ⟨(some 23), .len (.t 22), none⟩,
    ⟨(some 24), .bin .eql (.t 23) (.c (.int .i64 0)), none⟩])
  (.cond (.t 24)
   (.seq (.region false [⟨(some 25), .mov (.t 6), none⟩,
     ⟨(some 26), .callv (.t 25) [(.c (.int .i64 1))], none⟩,
     ⟨(some 27), .extr (.t 26) 0, none⟩,
     ⟨(some 28), .extr (.t 26) 1, none⟩,
     ⟨(some 29), .extr (.t 26) 2, none⟩,
     ⟨none, .st 5 (.t 2) (.t 27), none⟩,
     ⟨(some 3), .mov (.t 28), none⟩,
     ⟨(some 4), .mov (.t 29), none⟩])
   (.ret))
   (.skip)))
  (.seq (.region false [⟨(some 31), .mov (.t 5), none⟩,
    ⟨(some 32), .idxA 1 (.t 31) (.c (.int .i64 0)), none⟩,
    ⟨(some 33), .ld none (.t 32), none⟩,
    ⟨(some 34), .call F_format_begun [(.t 33)], none⟩,
    ⟨(some 30), .mov (.t 34), none⟩,
    ⟨(some 35), .extr (.t 30) 0, none⟩,
    ⟨(some 36), .extr (.t 30) 1, none⟩,
    ⟨(some 37), .extr (.t 30) 2, none⟩,
    ⟨none, .st 5 (.t 2) (.t 35), none⟩,
    ⟨(some 7), .mov (.t 36), none⟩,
    ⟨(some 8), .mov (.t 37), none⟩])
  (.seq (.block 0 (.seq (.region false [⟨(some 39), .mov (.t 8), none⟩,
    ⟨(some 40), .not (.t 39), none⟩,
    ⟨(some 38), .mov (.t 40), none⟩])
  (.cond (.t 38)
   (.seq (.region false [⟨(some 41), .mov (.t 6), none⟩,
     ⟨(some 42), .callv (.t 41) [(.c (.int .i64 1))], none⟩,
     ⟨(some 43), .extr (.t 42) 0, none⟩,
     ⟨(some 44), .extr (.t 42) 1, none⟩,
     ⟨(some 45), .extr (.t 42) 2, none⟩,
     ⟨none, .st 5 (.t 2) (.t 43), none⟩,
     ⟨(some 3), .mov (.t 44), none⟩,
     ⟨(some 4), .mov (.t 45), none⟩])
   (.ret))
   (.seq (.region false [⟨(some 47), .mov (.t 7), none⟩,
     ⟨(some 48), .bin .gtr (.t 47) (.c (.int .i64 400)), none⟩,
     ⟨(some 46), .mov (.t 48), none⟩])
   (.cond (.t 46)
    (.seq (.region false [⟨(some 49), .build [.int .i64 0, .int .i64 0, .int .i64 0, .int .i64 0, .sl .ex []] [], none⟩,
      ⟨none, .st 5 (.t 2) (.t 49), none⟩,
      ⟨(some 3), .mov (.c (.int .i64 1)), none⟩,
      ⟨(some 4), .mov (.c (.int .i64 15)), none⟩])
    (.ret))
    (.skip))))))
  (.seq (.region false [⟨(some 3), .mov (.c (.int .i64 1)), none⟩])
  (.seq (.seq (.region false [⟨(some 50), .mov (.t 7), none⟩,
    ⟨(some 9), .mov (.t 50), none⟩])
  (.block 1 (.loop A_format_ParseL0)))
  (.seq (.seq (.region false [⟨(some 96), .mov (.t 3), none⟩,
    ⟨(some 97), .mov (.t 5), none⟩,
    ⟨(some 98), .len (.t 97), none⟩,
    ⟨(some 99), .bin .lss (.t 96) (.t 98), none⟩])
  (.cond (.t 99)
   (.seq (.region false [⟨(some 100), .mov (.t 6), none⟩,
     ⟨(some 101), .mov (.t 3), none⟩,
     ⟨(some 102), .bin .add (.t 101) (.c (.int .i64 1)), none⟩,
     ⟨(some 103), .callv (.t 100) [(.t 102)], none⟩,
     ⟨(some 104), .extr (.t 103) 0, none⟩,
     ⟨(some 105), .extr (.t 103) 1, none⟩,
     ⟨(some 106), .extr (.t 103) 2, none⟩,
     ⟨none, .st 5 (.t 2) (.t 104), none⟩,
     ⟨(some 3), .mov (.t 105), none⟩,
     ⟨(some 4), .mov (.t 106), none⟩])
   (.ret))
   (.skip)))
  (.seq (.seq (.region false [⟨(some 107), .ld (some 5) (.t 2), none⟩,
    ⟨(some 108), .call F_arrays_Check [(.t 107)], none⟩,
    ⟨(some 12), .mov (.t 108), none⟩])
  (.seq (.region false [⟨(some 109), .mov (.t 12), none⟩,
    ⟨(some 110), .bin .neq (.t 109) (.c (.int .i64 0)), none⟩])
  (.cond (.t 110)
   (.seq (.region false [⟨(some 111), .build [.int .i64 0, .int .i64 0, .int .i64 0, .int .i64 0, .sl .ex []] [], none⟩,
     ⟨(some 112), .mov (.t 12), none⟩,
     ⟨none, .st 5 (.t 2) (.t 111), none⟩,
     ⟨(some 3), .mov (.c (.int .i64 0)), none⟩,
     ⟨(some 4), .mov (.t 112), none⟩])
   (.ret))
   (.skip))))
  (.seq (.region false [⟨(some 113), .ld (some 5) (.t 2), none⟩,
    ⟨none, .st 5 (.t 2) (.t 113), none⟩,
    ⟨(some 3), .mov (.c (.int .i64 0)), none⟩,
    ⟨(some 4), .mov (.c (.int .i64 0)), none⟩])
  (.ret)))))))))))),
  [.cell (some 5) 2, .tmp 3, .tmp 4]⟩

/- ref33_Parse -/
/- ref33_Grid -/
/- ref33_Table -/
/- ref33_Widths -/
/- law33_Matrix -/
def A_law33_Matrix : AFun := ⟨4,
  .seq (.region false [⟨(some 0), .alloc [.int .i64 0, .int .i64 0, .int .i64 0, .int .i64 0, .sl .ex []], none⟩])
  (.seq (.region false [⟨(some 1), .build [.int .i64 0, .int .i64 0] [(0, 1, (.c (.int .i64 2))), (1, 1, (.c (.int .i64 2)))], none⟩,
    ⟨(some 2), .bsl 1 (.int .i64 0) 4 [(0, (.c (.int .i64 1))), (1, (.c (.int .i64 (-20)))), (2, (.c (.int .i64 300))), (3, (.c (.int .i64 4)))], none⟩,
    ⟨(some 3), .build [.int .i64 0, .int .i64 0, .int .i64 0, .int .i64 0, .sl .ex []] [(0, 1, (.c (.int .i64 1))), (1, 1, (.c (.int .i64 2))), (2, 2, (.t 1)), (4, 1, (.t 2))], none⟩,
    ⟨none, .st 5 (.t 0) (.t 3), none⟩])
  (.ret)),
  [.cell (some 5) 0]⟩

/- law33_Marks -/
def A_law33_Marks : AFun := ⟨10,
  .seq (.region false [⟨(some 0), .alloc [.sl .ex [], .sl .ex []], none⟩])
  (.seq (.region false [⟨(some 1), .bsl 1 (.str []) 2 [(0, (.c (.str [109, 97, 114, 107]))), (1, (.c (.str [103, 114, 97, 100, 101])))], none⟩,
    ⟨(some 2), .build [.int .i64 0, .int .i64 0] [(0, 1, (.c (.int .i64 2))), (1, 1, (.c (.int .i64 0)))], none⟩,
    ⟨(some 3), .bsl 1 (.int .i64 0) 2 [(0, (.c (.int .i64 3))), (1, (.c (.int .i64 12)))], none⟩,
    ⟨(some 4), .build [.int .i64 0, .int .i64 0, .int .i64 0, .int .i64 0, .sl .ex []] [(0, 1, (.c (.int .i64 1))), (1, 1, (.c (.int .i64 1))), (2, 2, (.t 2)), (4, 1, (.t 3))], none⟩,
    ⟨(some 5), .build [.int .i64 0, .int .i64 0] [(0, 1, (.c (.int .i64 2))), (1, 1, (.c (.int .i64 0)))], none⟩,
    ⟨(some 6), .bsl 1 (.int .i64 0) 2 [(0, (.c (.int .i64 97))), (1, (.c (.int .i64 98)))], none⟩,
    ⟨(some 7), .build [.int .i64 0, .int .i64 0, .int .i64 0, .int .i64 0, .sl .ex []] [(0, 1, (.c (.int .i64 2))), (1, 1, (.c (.int .i64 1))), (2, 2, (.t 5)), (4, 1, (.t 6))], none⟩,
    ⟨(some 8), .bsl 5 (.agg [.int .i64 0, .int .i64 0, .int .i64 0, .int .i64 0, .sl .ex []]) 2 [(0, (.t 4)), (1, (.t 7))], none⟩,
    ⟨(some 9), .build [.sl .ex [], .sl .ex []] [(0, 1, (.t 1)), (1, 1, (.t 8))], none⟩,
    ⟨none, .st 2 (.t 0) (.t 9), none⟩])
  (.ret)),
  [.cell (some 2) 0]⟩

/- arrays_Check -/
def A_arrays_Check : AFun := ⟨36,
  .seq (.region false [⟨(some 1), .box (.t 0), none⟩,
    ⟨(some 2), .mov (.c (.int .i64 0)), none⟩])
  (.seq (.seq (.region false [⟨(some 5), .fldA 0 (.t 1), none⟩,
    ⟨(some 6), .ld none (.t 5), none⟩,
    ⟨(some 7), .bin .neq (.t 6) (.c (.int .i64 1)), none⟩,
    ⟨(some 8), .mov (.t 7), none⟩,
    ⟨(some 9), .fldA 0 (.t 1), some (8, true)⟩,
    ⟨(some 10), .ld none (.t 9), some (8, true)⟩,
    ⟨(some 11), .bin .neq (.t 10) (.c (.int .i64 2)), some (8, true)⟩,
    ⟨(some 12), .pick (.t 8) (.t 11) (.c (.bool false)), none⟩])
  (.cond (.t 12)
   (.seq (.region false [⟨(some 2), .mov (.c (.int .i64 2)), none⟩])
   (.ret))
   (.skip)))
  (.seq (.seq (.region false [⟨(some 14), .fldA 1 (.t 1), none⟩,
    ⟨(some 15), .ld none (.t 14), none⟩,
    ⟨(some 16), .fldA 2 (.t 1), none⟩,
    ⟨(some 17), .ld (some 2) (.t 16), none⟩,
    ⟨(some 18), .call F_shapes_Cells [(.t 15), (.t 17)], none⟩,
    ⟨(some 13), .mov (.t 18), none⟩,
    ⟨(some 19), .extr (.t 13) 0, none⟩,
    ⟨(some 20), .extr (.t 13) 1, none⟩,
    ⟨(some 3), .mov (.t 19), none⟩,
    ⟨(some 4), .mov (.t 20), none⟩])
  (.block 0 (.seq (.region false [⟨(some 22), .mov (.t 4), none⟩,
    ⟨(some 23), .bin .neq (.t 22) (.c (.int .i64 0)), none⟩,
    ⟨(some 21), .mov (.t 23), none⟩])
  (.cond (.t 21)
   (.seq (.region false [⟨(some 24), .mov (.t 4), none⟩,
     ⟨(some 2), .mov (.t 24), none⟩])
   (.ret))
   (.seq (.region false [⟨(some 26), .fldA 4 (.t 1), none⟩,
     ⟨(some 27), .ld none (.t 26), none⟩,
     ⟨(some 28), .len (.t 27), none⟩,
     ⟨(some 29), .mov (.t 3), none⟩,
     ⟨(some 30), .bin .neq (.t 28) (.t 29), none⟩,
     ⟨(some 25), .mov (.t 30), none⟩])
   (.cond (.t 25)
    (.seq (.region false [⟨(some 2), .mov (.c (.int .i64 6)), none⟩])
    (.ret))
    (.seq (.region false [⟨(some 32), .fldA 4 (.t 1), none⟩,
      ⟨(some 33), .ld none (.t 32), none⟩,
      ⟨(some 34), .mkf F_arrays_Check_1 [] [(.t 1)], none⟩,
      ⟨(some 35), .call F_slices_ContainsFunc_int64_int64 [(.t 33), (.t 34)], none⟩,
      ⟨(some 31), .mov (.t 35), none⟩])
    (.cond (.t 31)
     (.seq (.region false [⟨(some 2), .mov (.c (.int .i64 7)), none⟩])
     (.ret))
     (.skip)))))))))
  (.seq (.region false [⟨(some 2), .mov (.c (.int .i64 0)), none⟩])
  (.ret)))),
  [.tmp 2]⟩

/- format_stacked -/
def A_format_stackedL0 : ACode :=
  .seq (.region false [⟨(some 19), .bin .lss (.t 18) (.t 17), none⟩])
  (.seq (.cond (.t 19)
   (.skip)
   (.exit 0))
  (.seq (.block 1 (.seq (.region false [⟨(some 20), .idxA 1 (.t 16) (.t 18), none⟩,
    ⟨(some 21), .ld none (.t 20), none⟩,
    ⟨(some 9), .mov (.t 21), none⟩])
  (.seq (.region false [⟨(some 22), .mov (.t 0), none⟩,
    ⟨(some 23), .mov (.t 9), none⟩,
    ⟨(some 24), .call F_format_cell [(.t 22), (.t 23)], none⟩,
    ⟨(some 10), .mov (.t 24), none⟩])
  (.region true [⟨(some 25), .fldA 0 (.t 7), none⟩,
    ⟨(some 26), .ld none (.t 25), none⟩,
    ⟨(some 27), .mov (.t 10), none⟩,
    ⟨(some 28), .bsl 1 (.str []) 1 [(0, (.t 27))], none⟩,
    ⟨(some 29), .app 1 16 (.t 26) (.t 28), none⟩,
    ⟨(some 30), .fldA 1 (.t 7), none⟩,
    ⟨(some 31), .ld none (.t 30), none⟩,
    ⟨(some 32), .mov (.t 10), none⟩,
    ⟨(some 33), .lenS (.t 32), none⟩,
    ⟨(some 34), .mm true (.t 31) (.t 33), none⟩,
    ⟨(some 35), .fldA 0 (.t 7), none⟩,
    ⟨none, .st 1 (.t 35) (.t 29), none⟩,
    ⟨(some 36), .fldA 1 (.t 7), none⟩,
    ⟨none, .st 1 (.t 36) (.t 34), none⟩]))))
  (.region false [⟨(some 37), .bin .add (.t 18) (.c (.int .i64 1)), none⟩,
    ⟨(some 18), .mov (.t 37), none⟩])))
def A_format_stacked : AFun := ⟨39,
  .seq (.region false [⟨(some 6), .alloc [.sl .ex [], .int .i64 0, .nilF], none⟩])
  (.seq (.region false [⟨(some 11), .mov (.t 2), none⟩,
    ⟨(some 12), .build [.sl .ex [], .int .i64 0, .nilF] [(1, 1, (.t 11)), (2, 1, (.c (.clo F_format_left [] [])))], none⟩,
    ⟨(some 7), .alloc [.sl .ex [], .int .i64 0, .nilF], none⟩,
    ⟨none, .st 3 (.t 7) (.t 12), none⟩])
  (.seq (.seq (.region false [⟨(some 13), .mov (.t 0), none⟩,
    ⟨(some 14), .bin .eql (.t 13) (.c (.int .i64 1)), none⟩])
  (.cond (.t 14)
   (.region false [⟨(some 15), .fldA 2 (.t 7), none⟩,
     ⟨none, .st 1 (.t 15) (.c (.clo F_format_right [] [])), none⟩])
   (.skip)))
  (.seq (.seq (.region false [⟨(some 16), .mov (.t 1), none⟩,
    ⟨(some 17), .len (.t 16), none⟩,
    ⟨(some 18), .mov (.c (.int .i64 0)), none⟩])
  (.block 0 (.loop A_format_stackedL0)))
  (.seq (.region false [⟨(some 38), .ld (some 3) (.t 7), none⟩,
    ⟨none, .st 3 (.t 6) (.t 38), none⟩])
  (.ret))))),
  [.cell (some 3) 6]⟩

/- words_Lines -/
def A_words_Lines : AFun := ⟨26,
  .seq (.region false [⟨(some 2), .mov (.c (.sl .ex [])), none⟩,
    ⟨(some 3), .mov (.c (.int .i64 0)), none⟩])
  (.seq (.block 0 (.seq (.region false [⟨(some 6), .mov (.t 0), none⟩,
    ⟨(some 7), .lenS (.t 6), none⟩,
    ⟨(some 8), .bin .gtr (.t 7) (.c (.int .i64 1048576)), none⟩,
    ⟨(some 5), .mov (.t 8), none⟩])
  (.cond (.t 5)
   (.seq (.region false [⟨(some 2), .mov (.c (.sl .ex [])), none⟩,
     ⟨(some 3), .mov (.c (.int .i64 3)), none⟩])
   (.ret))
   (.seq (.region false [⟨(some 10), .mov (.t 0), none⟩,
     ⟨(some 11), .bin .eql (.t 10) (.c (.str [])), none⟩,
     ⟨(some 9), .mov (.t 11), none⟩])
   (.cond (.t 9)
    (.seq (.region false [⟨(some 2), .mov (.c (.sl .ex [])), none⟩,
      ⟨(some 3), .mov (.c (.int .i64 0)), none⟩])
    (.ret))
    (.seq (.region false [⟨(some 13), .mov (.t 0), none⟩,
      ⟨(some 14), .call F_strings_HasSuffix [(.t 13), (.c (.str [10]))], none⟩,
      ⟨(some 15), .not (.t 14), none⟩,
      ⟨(some 12), .mov (.t 15), none⟩])
    (.cond (.t 12)
     (.seq (.region false [⟨(some 2), .mov (.c (.sl .ex [])), none⟩,
       ⟨(some 3), .mov (.c (.int .i64 6)), none⟩])
     (.ret))
     (.skip))))))))
  (.seq (.region false [⟨(some 16), .mov (.t 0), none⟩,
    ⟨(some 17), .mov (.t 0), none⟩,
    ⟨(some 18), .lenS (.t 17), none⟩,
    ⟨(some 19), .bin .sub (.t 18) (.c (.int .i64 1)), none⟩,
    ⟨(some 20), .ssl (.t 16) none (some (.t 19)), none⟩,
    ⟨(some 21), .call F_strings_Split [(.t 20), (.c (.str [10]))], none⟩,
    ⟨(some 4), .mov (.t 21), none⟩])
  (.seq (.seq (.region false [⟨(some 22), .mov (.t 4), none⟩,
    ⟨(some 23), .len (.t 22), none⟩,
    ⟨(some 24), .bin .gtr (.t 23) (.c (.int .i64 5000)), none⟩])
  (.cond (.t 24)
   (.seq (.region false [⟨(some 2), .mov (.c (.sl .ex [])), none⟩,
     ⟨(some 3), .mov (.c (.int .i64 3)), none⟩])
   (.ret))
   (.skip)))
  (.seq (.region false [⟨(some 25), .mov (.t 4), none⟩,
    ⟨(some 2), .mov (.t 25), none⟩,
    ⟨(some 3), .mov (.c (.int .i64 0)), none⟩])
  (.ret))))),
  [.tmp 2, .tmp 3]⟩

/- format_row -/
def A_format_rowL0 : ACode :=
  .seq (.region false [⟨(some 12), .bin .lss (.t 11) (.t 10), none⟩])
  (.seq (.cond (.t 12)
   (.skip)
   (.exit 0))
  (.seq (.block 1 (.seq (.region false [⟨(some 13), .idxA 1 (.t 9) (.t 11), none⟩,
    ⟨(some 14), .ld none (.t 13), none⟩,
    ⟨(some 5), .mov (.t 14), none⟩])
  (.seq (.region false [⟨(some 16), .mov (.t 5), none⟩,
    ⟨(some 17), .call F_words_Int [(.t 16), (.c (.int .i64 (-9223372036854775808))), (.c (.int .i64 9223372036854775807))], none⟩,
    ⟨(some 15), .mov (.t 17), none⟩,
    ⟨(some 18), .extr (.t 15) 0, none⟩,
    ⟨(some 19), .extr (.t 15) 1, none⟩,
    ⟨(some 6), .mov (.t 18), none⟩,
    ⟨(some 7), .mov (.t 19), none⟩])
  (.seq (.seq (.region false [⟨(some 20), .mov (.t 7), none⟩,
    ⟨(some 21), .bin .eql (.t 20) (.c (.int .i64 6)), none⟩])
  (.cond (.t 21)
   (.seq (.region false [⟨(some 22), .mov (.t 7), none⟩,
     ⟨(some 2), .mov (.c (.sl .ex [])), none⟩,
     ⟨(some 3), .mov (.t 22), none⟩])
   (.ret))
   (.skip)))
  (.seq (.seq (.region false [⟨(some 23), .mov (.t 7), none⟩,
    ⟨(some 24), .bin .neq (.t 23) (.c (.int .i64 0)), none⟩])
  (.cond (.t 24)
   (.region false [⟨(some 25), .mov (.t 7), none⟩,
     ⟨(some 3), .mov (.t 25), none⟩])
   (.skip)))
  (.region false [⟨(some 26), .mov (.t 2), none⟩,
    ⟨(some 27), .mov (.t 6), none⟩,
    ⟨(some 28), .bsl 1 (.int .i64 0) 1 [(0, (.t 27))], none⟩,
    ⟨(some 29), .app 1 8 (.t 26) (.t 28), none⟩,
    ⟨(some 2), .mov (.t 29), none⟩]))))))
  (.region false [⟨(some 30), .bin .add (.t 11) (.c (.int .i64 1)), none⟩,
    ⟨(some 11), .mov (.t 30), none⟩])))
def A_format_row : AFun := ⟨36,
  .seq (.region false [⟨(some 2), .mov (.c (.sl .ex [])), none⟩,
    ⟨(some 3), .mov (.c (.int .i64 0)), none⟩])
  (.seq (.seq (.region false [⟨(some 8), .mov (.t 0), none⟩,
    ⟨(some 9), .call F_strings_FieldsFunc [(.t 8), (.c (.clo F_format_row_1 [] []))], none⟩,
    ⟨(some 10), .len (.t 9), none⟩,
    ⟨(some 11), .mov (.c (.int .i64 0)), none⟩])
  (.block 0 (.loop A_format_rowL0)))
  (.seq (.seq (.region false [⟨(some 31), .mov (.t 2), none⟩,
    ⟨(some 32), .len (.t 31), none⟩,
    ⟨(some 33), .bin .eql (.t 32) (.c (.int .i64 0)), none⟩])
  (.cond (.t 33)
   (.seq (.region false [⟨(some 2), .mov (.c (.sl .ex [])), none⟩,
     ⟨(some 3), .mov (.c (.int .i64 6)), none⟩])
   (.ret))
   (.skip)))
  (.seq (.region false [⟨(some 34), .mov (.t 2), none⟩,
    ⟨(some 35), .mov (.t 3), none⟩,
    ⟨(some 2), .mov (.t 34), none⟩,
    ⟨(some 3), .mov (.t 35), none⟩])
  (.ret)))),
  [.tmp 2, .tmp 3]⟩

section
variable {X : Cx} (hX : X.P = Go.Proofs.Tryz.prog)
include hX
theorem A_law33_FormatAligned_ok : compileFun X.P F_law33_FormatAligned (fun _ => false) = some A_law33_FormatAligned := by rw [hX]; kernel_rfl
theorem A_law33_Far_ok : compileFun X.P F_law33_Far (fun _ => false) = some A_law33_Far := by rw [hX]; kernel_rfl
theorem A_law33_FarTable_ok : compileFun X.P F_law33_FarTable (fun _ => false) = some A_law33_FarTable := by rw [hX]; kernel_rfl
theorem A_law33_shown_ok : compileFun X.P F_law33_shown (fun _ => false) = some A_law33_shown := by rw [hX]; kernel_rfl
theorem A_format_Picture_ok : compileFun X.P F_format_Picture (fun _ => false) = some A_format_Picture := by rw [hX]; kernel_rfl
theorem A_law33_lengths_ok : compileFun X.P F_law33_lengths (fun _ => false) = some A_law33_lengths := by rw [hX]; kernel_rfl
theorem A_format_Grid_ok : compileFun X.P F_format_Grid (fun _ => false) = some A_format_Grid := by rw [hX]; kernel_rfl
theorem A_ref06_Same_ok : compileFun X.P F_ref06_Same (fun _ => false) = some A_ref06_Same := by rw [hX]; kernel_rfl
theorem A_format_Table_ok : compileFun X.P F_format_Table (fun _ => false) = some A_format_Table := by rw [hX]; kernel_rfl
theorem A_format_Widths_ok : compileFun X.P F_format_Widths (fun _ => false) = some A_format_Widths := by rw [hX]; kernel_rfl
theorem A_format_Array_ok : compileFun X.P F_format_Array (fun _ => false) = some A_format_Array := by rw [hX]; kernel_rfl
theorem A_format_Parse_ok : compileFun X.P F_format_Parse (fun _ => false) = some A_format_Parse := by rw [hX]; kernel_rfl
theorem A_law33_Matrix_ok : compileFun X.P F_law33_Matrix (fun _ => false) = some A_law33_Matrix := by rw [hX]; kernel_rfl
theorem A_law33_Marks_ok : compileFun X.P F_law33_Marks (fun _ => false) = some A_law33_Marks := by rw [hX]; kernel_rfl
theorem A_arrays_Check_ok : compileFun X.P F_arrays_Check (fun _ => false) = some A_arrays_Check := by rw [hX]; kernel_rfl
theorem A_format_stacked_ok : compileFun X.P F_format_stacked (fun _ => false) = some A_format_stacked := by rw [hX]; kernel_rfl
theorem A_words_Lines_ok : compileFun X.P F_words_Lines (fun _ => false) = some A_words_Lines := by rw [hX]; kernel_rfl
theorem A_format_row_ok : compileFun X.P F_format_row (fun _ => false) = some A_format_row := by rw [hX]; kernel_rfl
end
end Go.Avm
