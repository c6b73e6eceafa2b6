/- The functions as they have been read. -/
import Derived.Test.YtcldomkahgaplaaGreatDoorA8
import Derived.Test.YtcldomkahgaplaaGreatDoorProg
set_option linter.all false
namespace Go.Avm
open Go
def F_main_main : Nat := 0
def F_law33_FormatKnown : Nat := 9
def F_law33_shown : Nat := 13
def F_format_Picture : Nat := 14
def F_format_Grid : Nat := 16
def F_format_Table : Nat := 18
def F_format_Array : Nat := 23
def F_format_Parse : Nat := 25
def F_law33_Matrix : Nat := 30
def F_law33_Marks : Nat := 31
def F_arrays_Check : Nat := 32
def F_strings_Join : Nat := 33
def F_format_stacked : Nat := 34
def F_strings_Builder_WriteString : Nat := 35
def F_strings_Builder_String : Nat := 36
def F_words_Lines : Nat := 37
def F_format_row : Nat := 38
def F_format_drawn : Nat := 40
def F_format_Table_1 : Nat := 41
def F_format_Table_2 : Nat := 42
def F_format_Table_3 : Nat := 43
def F_strings_Repeat : Nat := 44
def F_format_Table_4 : Nat := 45
def F_format_cell : Nat := 51
def F_format_numbers : Nat := 53
def F_format_pieces : Nat := 54
def F_format_piece : Nat := 55
def F_format_Parse_1 : Nat := 58
def F_format_begun : Nat := 59
def F_format_cells : Nat := 60
def F_shapes_Cells : Nat := 68
def F_slices_ContainsFunc_int64_int64 : Nat := 69
def F_arrays_Check_1 : Nat := 70
def F_arrays_right : Nat := 71
def F_format_left : Nat := 73
def F_format_right : Nat := 74
def F_strings_HasSuffix : Nat := 76
def F_strings_Split : Nat := 77
def F_strings_FieldsFunc : Nat := 78
def F_format_row_1 : Nat := 79
def F_words_Int : Nat := 80
def F_tables_Check : Nat := 81
def F_strings_HasPrefix : Nat := 83
def F_runes_is : Nat := 88
def F_utf8_RuneLen : Nat := 90
def F_strconv_FormatInt : Nat := 91
def F_slices_Chunk_int64_int64 : Nat := 92
def F_runes_Bytes : Nat := 93
def F_lexer_Quote : Nat := 94
def F_format_whole : Nat := 98
def F_lexer_Line : Nat := 99
def F_runes_Runes : Nat := 100
def F_shapes_Check : Nat := 106
def F_shapes_product : Nat := 107
def F_slices_IndexFunc_int64_int64 : Nat := 108
def F_utf8_ValidRune : Nat := 109
def F_format_blanks : Nat := 111
def F_stringslite_HasSuffix : Nat := 113
def F_strings_genSplit : Nat := 114
def F_words_isDecimal : Nat := 115
def F_strconv_ParseInt : Nat := 116
def F_words_Name : Nat := 117
def F_stringslite_HasPrefix : Nat := 120
def F_strconv_FormatInt_124 : Nat := 124
def F_slices_Chunk_int64_int64_1 : Nat := 125
def F_runes_Bytes_1 : Nat := 126
def F_utf8_AppendRune : Nat := 127
def F_utf8_ValidString : Nat := 128
def F_lexer_quoted : Nat := 129
def F_lexer_reader_mark : Nat := 133
def F_lexer_reader_class : Nat := 134
def F_lexer_reader_word : Nat := 135
def F_lexer_reader_number : Nat := 136
def F_lexer_reader_text : Nat := 137
def F_runes_Check : Nat := 138
def F_runes_all : Nat := 139
def F_slices_ContainsFunc_int_int : Nat := 146
def F_shapes_Check_1 : Nat := 147
def F_shapes_Check_2 : Nat := 148
def F_shapes_Check_3 : Nat := 149
def F_strings_explode : Nat := 151
def F_strings_Count : Nat := 152
def F_strings_Index : Nat := 153
def F_strings_TrimPrefix : Nat := 154
def F_strings_Trim : Nat := 155
def F_strconv_ParseInt_156 : Nat := 156
def F_strconv_toError : Nat := 157
def F_strconv_small : Nat := 158
def F_strconv_numDigits : Nat := 159
def F_strconv_formatBase10 : Nat := 160
def F_strconv_formatBits : Nat := 161
def F_utf8_appendRuneNonASCII : Nat := 162
def F_strings_Builder_WriteByte : Nat := 164
def F_strings_Builder_WriteRune : Nat := 165
def F_lexer_written : Nat := 167
def F_runes_Class : Nat := 168
def F_lexer_reader_while : Nat := 169
def F_lexer_escape : Nat := 170
def F_runes_Decode : Nat := 171
def F_runes_all_1 : Nat := 172
def F_slices_IndexFunc_int_int : Nat := 181
def F_stringslite_Index : Nat := 185
def F_stringslite_TrimPrefix : Nat := 186
def F_strings_trimLeftByte : Nat := 187
def F_strings_trimRightByte : Nat := 188
def F_strings_makeASCIISet : Nat := 189
def F_strings_trimLeftASCII : Nat := 190
def F_strings_trimRightASCII : Nat := 191
def F_strings_trimLeftUnicode : Nat := 192
def F_strings_trimRightUnicode : Nat := 193
def F_strconv_ParseUint : Nat := 194
def F_strconv_isPowerOfTwo : Nat := 202
def F_bits_TrailingZeros : Nat := 203
def F_runes_classes : Nat := 204
def F_strings_ContainsRune : Nat := 205
def F_strings_Cut : Nat := 206
def F_utf8_DecodeRune : Nat := 207
def F_utf8_FullRune : Nat := 208
def F_stringslite_IndexByte : Nat := 213
def F_bytealg_Cutover : Nat := 215
def F_strings_asciiSet_contains : Nat := 217
def F_strconv_lower : Nat := 219
def F_strconv_underscoreOK : Nat := 220
def F_bits_TrailingZeros32 : Nat := 224
def F_bits_TrailingZeros64 : Nat := 225
def F_strings_IndexRune : Nat := 226
def F_stringslite_Cut : Nat := 227
def F_utf8_decodeRuneSlow : Nat := 228
def F_strings_IndexByte : Nat := 234
def A_law33_FormatKnown : AFun := ⟨64,
  .seq (vR [vO 0 (.mov (.c (.bool false)))])
 (.seq (vR [vO 9 (.build [.int .i64 0, .int .i64 0] [(0, 1, (vI 2)), (1, 1, (vI 0))]), vO 10 (.bsl 1 (.int .i64 0) 2 [(0, (vI 233)), (1, (vI 34))]), vO 11 (.build [.int .i64 0, .int .i64 0, .int .i64 0, .int .i64 0, .sl .ex []] [(0, 1, (vI 2)), (1, 1, (vI 1)), (2, 2, (.t 9)), (4, 1, (.t 10))]), vO 12 (.call F_format_Array [(.t 11)]), vM 8 12, vO 13 (.extr (.t 8) 0), vO 14 (.extr (.t 8) 1), vM 1 13, vM 2 14])
 (.seq (vR [vO 16 (.bsl 1 (.int .i64 0) 1 [(0, (vI 7))]), vO 17 (.build [.int .i64 0, .int .i64 0, .int .i64 0, .int .i64 0, .sl .ex []] [(0, 1, (vI 1)), (4, 1, (.t 16))]), vO 18 (.call F_format_Array [(.t 17)]), vM 15 18, vO 19 (.extr (.t 15) 0), vO 20 (.extr (.t 15) 1), vM 3 19, vM 4 20])
 (.seq (vR [vO 22 (.call F_format_Parse [(.c (.str [99, 104, 97, 114, 32, 49, 32, 50, 10, 34, 92, 117, 101, 57, 59, 92, 34, 34, 10]))]), vM 21 22, vO 23 (.extr (.t 21) 0), vO 24 (.extr (.t 21) 1), vO 25 (.extr (.t 21) 2), vO 5 (.alloc [.int .i64 0, .int .i64 0, .int .i64 0, .int .i64 0, .sl .ex []]), ⟨none, .st 5 (.t 5) (.t 23), none⟩, vM 6 24, vM 7 25])
 (.seq (vR [vM 26 1, vO 27 (.bin .eql (.t 26) (.c (.str [99, 104, 97, 114, 32, 49, 32, 50, 10, 34, 92, 117, 101, 57, 59, 92, 34, 34, 10]))), vM 28 27, ⟨some 29, .mov (.t 2), some (28, true)⟩, ⟨some 30, .bin .eql (.t 29) (vI 0), some (28, true)⟩, vO 31 (.pick (.t 28) (.t 30) (.c (.bool false))), vM 32 31, ⟨some 33, .mov (.t 3), some (32, true)⟩, ⟨some 34, .bin .eql (.t 33) (.c (.str [105, 110, 116, 32, 48, 10, 55, 10])), some (32, true)⟩, vO 35 (.pick (.t 32) (.t 34) (.c (.bool false))), vM 36 35, ⟨some 37, .mov (.t 4), some (36, true)⟩, ⟨some 38, .bin .eql (.t 37) (vI 0), some (36, true)⟩, vO 39 (.pick (.t 36) (.t 38) (.c (.bool false))), vM 40 39, ⟨some 41, .fldA 4 (.t 5), some (40, true)⟩, ⟨some 42, .ld none (.t 41), some (40, true)⟩, ⟨some 43, .len (.t 42), some (40, true)⟩, ⟨some 44, .bin .eql (.t 43) (vI 2), some (40, true)⟩, vO 45 (.pick (.t 40) (.t 44) (.c (.bool false))), vM 46 45, ⟨some 47, .fldA 4 (.t 5), some (46, true)⟩, ⟨some 48, .ld none (.t 47), some (46, true)⟩, ⟨some 49, .idxA 1 (.t 48) (vI 0), some (46, true)⟩, ⟨some 50, .ld none (.t 49), some (46, true)⟩, ⟨some 51, .bin .eql (.t 50) (vI 233), some (46, true)⟩, vO 52 (.pick (.t 46) (.t 51) (.c (.bool false))), vM 53 52, ⟨some 54, .mov (.t 6), some (53, true)⟩, ⟨some 55, .bin .eql (.t 54) (vI 0), some (53, true)⟩, vO 56 (.pick (.t 53) (.t 55) (.c (.bool false))), vM 57 56, ⟨some 58, .mov (.t 7), some (57, true)⟩, ⟨some 59, .bin .eql (.t 58) (vI 0), some (57, true)⟩, vO 60 (.pick (.t 57) (.t 59) (.c (.bool false))), vM 61 60, ⟨some 62, .call F_law33_shown [], some (61, true)⟩, vO 63 (.pick (.t 61) (.t 62) (.c (.bool false))), vM 0 63])
 (.ret))))),
  [.tmp 0]⟩
def A_law33_shown : AFun := ⟨76,
  .seq (vR [vO 0 (.mov (.c (.bool false)))])
 (.seq (vR [vO 14 (.call F_law33_Matrix []), vO 15 (.call F_format_Array [(.t 14)]), vM 13 15, vO 16 (.extr (.t 13) 0), vO 17 (.extr (.t 13) 1), vM 1 16, vM 2 17])
 (.seq (vR [vO 19 (.call F_law33_Matrix []), vO 20 (.call F_format_Picture [(.t 19)]), vM 18 20, vO 21 (.extr (.t 18) 0), vO 22 (.extr (.t 18) 1), vM 3 21, vM 4 22])
 (.seq (vR [vO 24 (.call F_law33_Marks []), vO 25 (.call F_format_Table [(.t 24)]), vM 23 25, vO 26 (.extr (.t 23) 0), vO 27 (.extr (.t 23) 1), vM 5 26, vM 6 27])
 (.seq (vR [vO 29 (.call F_format_Parse [(.c (.str [105, 110, 116, 32, 49, 32, 51, 10, 49, 32, 50, 10]))]), vM 28 29, vO 30 (.extr (.t 28) 0), vO 31 (.extr (.t 28) 1), vO 32 (.extr (.t 28) 2), vO 7 (.alloc [.int .i64 0, .int .i64 0, .int .i64 0, .int .i64 0, .sl .ex []]), ⟨none, .st 5 (.t 7) (.t 30), none⟩, vM 8 31, vM 9 32])
 (.seq (vR [vO 34 (.call F_format_Grid [(.c (.str [49, 32, 50, 10, 51, 10]))]), vM 33 34, vO 35 (.extr (.t 33) 0), vO 36 (.extr (.t 33) 1), vO 37 (.extr (.t 33) 2), vO 10 (.alloc [.int .i64 0, .int .i64 0, .int .i64 0, .int .i64 0, .sl .ex []]), ⟨none, .st 5 (.t 10) (.t 35), none⟩, vM 11 36, vM 12 37])
 (.seq (vR [vM 38 1, vO 39 (.bin .eql (.t 38) (.c (.str [105, 110, 116, 32, 50, 32, 50, 32, 50, 10, 49, 32, 45, 50, 48, 32, 51, 48, 48, 32, 52, 10]))), vM 40 39, ⟨some 41, .mov (.t 2), some (40, true)⟩, ⟨some 42, .bin .eql (.t 41) (vI 0), some (40, true)⟩, vO 43 (.pick (.t 40) (.t 42) (.c (.bool false))), vM 44 43, ⟨some 45, .mov (.t 3), some (44, true)⟩, ⟨some 46, .bin .eql (.t 45) (.c (.str [32, 32, 49, 32, 45, 50, 48, 10, 51, 48, 48, 32, 32, 32, 52, 10])), some (44, true)⟩, vO 47 (.pick (.t 44) (.t 46) (.c (.bool false))), vM 48 47, ⟨some 49, .mov (.t 4), some (48, true)⟩, ⟨some 50, .bin .eql (.t 49) (vI 0), some (48, true)⟩, vO 51 (.pick (.t 48) (.t 50) (.c (.bool false))), vM 52 51, ⟨some 53, .mov (.t 5), some (52, true)⟩, ⟨some 54, .bin .eql (.t 53) (.c (.str [109, 97, 114, 107, 32, 32, 103, 114, 97, 100, 101, 10, 45, 45, 45, 45, 32, 32, 45, 45, 45, 45, 45, 10, 32, 32, 32, 51, 32, 32, 97, 32, 32, 32, 32, 10, 32, 32, 49, 50, 32, 32, 98, 32, 32, 32, 32, 10])), some (52, true)⟩, vO 55 (.pick (.t 52) (.t 54) (.c (.bool false))), vM 56 55, ⟨some 57, .mov (.t 6), some (56, true)⟩, ⟨some 58, .bin .eql (.t 57) (vI 0), some (56, true)⟩, vO 59 (.pick (.t 56) (.t 58) (.c (.bool false))), vM 60 59, ⟨some 61, .mov (.t 8), some (60, true)⟩, ⟨some 62, .bin .eql (.t 61) (vI 2), some (60, true)⟩, vO 63 (.pick (.t 60) (.t 62) (.c (.bool false))), vM 64 63, ⟨some 65, .mov (.t 9), some (64, true)⟩, ⟨some 66, .bin .eql (.t 65) (vI 6), some (64, true)⟩, vO 67 (.pick (.t 64) (.t 66) (.c (.bool false))), vM 68 67, ⟨some 69, .mov (.t 11), some (68, true)⟩, ⟨some 70, .bin .eql (.t 69) (vI 2), some (68, true)⟩, vO 71 (.pick (.t 68) (.t 70) (.c (.bool false))), vM 72 71, ⟨some 73, .mov (.t 12), some (72, true)⟩, ⟨some 74, .bin .eql (.t 73) (vI 11), some (72, true)⟩, vO 75 (.pick (.t 72) (.t 74) (.c (.bool false))), vM 0 75])
 (.ret))))))),
  [.tmp 0]⟩
def A_format_PictureL1 : ACode :=
  .seq (.seq (vR [vM 42 9, vO 43 (.fldA 4 (.t 1)), vO 44 (.ld none (.t 43)), vO 45 (.len (.t 44)), vO 46 (.bin .lss (.t 42) (.t 45))])
 (.cond (.t 46)
 (.skip)
 (.exit 2)))
 (.seq (.block 3 (vR [vM 52 8, vO 53 (.fldA 4 (.t 1)), vO 54 (.ld none (.t 53)), vM 55 9, vO 56 (.idxA 1 (.t 54) (.t 55)), vO 57 (.ld none (.t 56)), vO 58 (.bsl 1 (.int .i64 0) 1 [(0, (.t 57))]), vO 59 (.app 1 8 (.t 52) (.t 58)), vM 8 59]))
 (vR [vM 47 9, vO 48 (.fldA 2 (.t 1)), vO 49 (.idxP 2 1 (.t 48) (vI 1)), vO 50 (.ld none (.t 49)), vO 51 (.bin .add (.t 47) (.t 50)), vM 9 51]))
def A_format_PictureL0 : ACode :=
  .seq (vR [vO 39 (.bin .lss (.t 38) (.t 37))])
 (.seq (.cond (.t 39)
 (.skip)
 (.exit 0))
 (.seq (.block 1 (.seq (vR [vM 40 38, vM 7 40])
 (.seq (vR [vO 8 (.mov (.c (.sl .ex [])))])
 (.seq (.seq (vR [vM 41 7, vM 9 41])
 (.block 2 (.loop A_format_PictureL1)))
 (vR [vM 60 6, vO 61 (.fldA 0 (.t 1)), vO 62 (.ld none (.t 61)), vM 63 8, vO 64 (.call F_format_stacked [(.t 62), (.t 63), (vI 0)]), vO 65 (.bsl 3 (.agg [.sl .ex [], .int .i64 0, .nilF]) 1 [(0, (.t 64))]), vO 66 (.app 3 40 (.t 60) (.t 65)), vM 6 66])))))
 (vR [vO 67 (.bin .add (.t 38) (vI 1)), vM 38 67])))
def A_format_PictureL3 : ACode :=
  .seq (vR [vO 77 (.bin .lss (.t 76) (.t 75))])
 (.seq (.cond (.t 77)
 (.skip)
 (.exit 6))
 (.seq (.block 7 (.seq (vR [vO 78 (.idxA 3 (.t 74) (.t 76)), vO 79 (.ld (some 3) (.t 78)), vO 14 (.alloc [.sl .ex [], .int .i64 0, .nilF]), ⟨none, .st 3 (.t 14) (.t 79), none⟩])
 (.region true [vM 80 12, vO 81 (.fldA 2 (.t 14)), vO 82 (.ld none (.t 81)), vO 83 (.fldA 0 (.t 14)), vO 84 (.ld none (.t 83)), vM 85 11, vO 86 (.idxA 1 (.t 84) (.t 85)), vO 87 (.ld none (.t 86)), vO 88 (.fldA 1 (.t 14)), vO 89 (.ld none (.t 88)), vO 90 (.callv (.t 82) [(.t 87), (.t 89)]), vO 91 (.bsl 1 (.str []) 1 [(0, (.t 90))]), vO 92 (.app 1 16 (.t 80) (.t 91)), vM 12 92])))
 (vR [vO 93 (.bin .add (.t 76) (vI 1)), vM 76 93])))
def A_format_PictureL2 : ACode :=
  .seq (vR [vO 72 (.bin .lss (.t 71) (.t 70))])
 (.seq (.cond (.t 72)
 (.skip)
 (.exit 4))
 (.seq (.block 5 (.seq (vR [vM 73 71, vM 11 73])
 (.seq (vR [vO 12 (.mov (.c (.sl .ex [])))])
 (.seq (.seq (vR [vM 74 6, vO 75 (.len (.t 74)), vO 76 (.mov (vI 0))])
 (.block 6 (.loop A_format_PictureL3)))
 (vR [vM 94 12, vM 95 5, vO 96 (.call F_strings_Join [(.t 94), (.t 95)]), vO 97 (.bin .add (.t 96) (.c (.str [10]))), vO 98 (.call F_strings_Builder_WriteString [(.t 10), (.t 97)])])))))
 (vR [vO 99 (.bin .add (.t 71) (vI 1)), vM 71 99])))
def A_format_Picture : AFun := ⟨101,
  .seq (vR [vO 1 (.box (.t 0)), vO 2 (.mov (.c (.str []))), vO 3 (.mov (vI 0))])
 (.seq (.seq (vR [vO 15 (.ld (some 5) (.t 1)), vO 16 (.call F_arrays_Check [(.t 15)]), vM 4 16])
 (.seq (vR [vM 17 4, vO 18 (.bin .neq (.t 17) (vI 0))])
 (.cond (.t 18)
 (.seq (vR [vM 19 4, vO 2 (.mov (.c (.str []))), vM 3 19])
 (.ret))
 (.skip))))
 (.seq (vR [vO 5 (.mov (.c (.str [])))])
 (.seq (.seq (vR [vO 20 (.fldA 0 (.t 1)), vO 21 (.ld none (.t 20)), vO 22 (.bin .eql (.t 21) (vI 1))])
 (.cond (.t 22)
 (vR [vO 5 (.mov (.c (.str [32])))])
 (.skip)))
 (.seq (.seq (vR [vO 23 (.fldA 1 (.t 1)), vO 24 (.ld none (.t 23)), vO 25 (.bin .lss (.t 24) (vI 2))])
 (.cond (.t 25)
 (.seq (vR [vO 26 (.fldA 0 (.t 1)), vO 27 (.ld none (.t 26)), vO 28 (.fldA 4 (.t 1)), vO 29 (.ld none (.t 28)), vO 30 (.call F_format_stacked [(.t 27), (.t 29), (vI 0)]), vO 31 (.fld 0 none (.t 30)), vM 32 5, vO 33 (.call F_strings_Join [(.t 31), (.t 32)]), vO 34 (.bin .add (.t 33) (.c (.str [10]))), vM 2 34, vO 3 (.mov (vI 0))])
 (.ret))
 (.skip)))
 (.seq (vR [vO 6 (.mov (.c (.sl .ex [])))])
 (.seq (.seq (vR [vO 35 (.fldA 2 (.t 1)), vO 36 (.idxP 2 1 (.t 35) (vI 1)), vO 37 (.ld none (.t 36)), vO 38 (.mov (vI 0))])
 (.block 0 (.loop A_format_PictureL0)))
 (.seq (vR [vO 10 (.allocB 61 5)])
 (.seq (.seq (vR [vO 68 (.fldA 2 (.t 1)), vO 69 (.idxP 2 1 (.t 68) (vI 0)), vO 70 (.ld none (.t 69)), vO 71 (.mov (vI 0))])
 (.block 4 (.loop A_format_PictureL2)))
 (.seq (vR [vO 100 (.call F_strings_Builder_String [(.t 10)]), vM 2 100, vO 3 (.mov (vI 0))])
 (.ret)))))))))),
  [.tmp 2, .tmp 3]⟩
def A_format_GridL0 : ACode :=
  .seq (vR [vO 29 (.bin .lss (.t 28) (.t 27))])
 (.seq (.cond (.t 29)
 (.skip)
 (.exit 1))
 (.seq (.block 2 (.seq (vR [vM 30 28, vO 31 (.idxA 1 (.t 26) (.t 28)), vO 32 (.ld none (.t 31)), vM 6 30, vM 7 32])
 (.seq (vR [vM 34 7, vO 35 (.call F_format_row [(.t 34)]), vM 33 35, vO 36 (.extr (.t 33) 0), vO 37 (.extr (.t 33) 1), vM 8 36, vM 9 37])
 (.seq (.block 3 (.seq (vR [vM 39 9, vO 40 (.bin .neq (.t 39) (vI 0)), vM 38 40])
 (.cond (.t 38)
 (.seq (vR [vO 41 (.build [.int .i64 0, .int .i64 0, .int .i64 0, .int .i64 0, .sl .ex []] []), vM 42 6, vO 43 (.bin .add (.t 42) (vI 1)), vM 44 9, ⟨none, .st 5 (.t 2) (.t 41), none⟩, vM 3 43, vM 4 44])
 (.ret))
 (.seq (vR [vM 46 6, vO 47 (.bin .gtr (.t 46) (vI 0)), vM 48 47, ⟨some 49, .mov (.t 8), some (48, true)⟩, ⟨some 50, .len (.t 49), some (48, true)⟩, ⟨some 51, .fldA 2 (.t 2), some (48, true)⟩, ⟨some 52, .idxP 2 1 (.t 51) (vI 1), some (48, true)⟩, ⟨some 53, .ld none (.t 52), some (48, true)⟩, ⟨some 54, .bin .neq (.t 50) (.t 53), some (48, true)⟩, vO 55 (.pick (.t 48) (.t 54) (.c (.bool false))), vM 45 55])
 (.cond (.t 45)
 (.seq (vR [vO 56 (.build [.int .i64 0, .int .i64 0, .int .i64 0, .int .i64 0, .sl .ex []] []), vM 57 6, vO 58 (.bin .add (.t 57) (vI 1)), ⟨none, .st 5 (.t 2) (.t 56), none⟩, vM 3 58, vO 4 (.mov (vI 11))])
 (.ret))
 (.skip))))))
 (.seq (vR [vM 59 6, vO 60 (.bin .add (.t 59) (vI 1)), vM 61 8, vO 62 (.len (.t 61)), vO 63 (.build [.int .i64 0, .int .i64 0] [(0, 1, (.t 60)), (1, 1, (.t 62))]), vO 64 (.fldA 2 (.t 2)), ⟨none, .st 2 (.t 64) (.t 63), none⟩])
 (vR [vO 65 (.fldA 4 (.t 2)), vO 66 (.ld none (.t 65)), vM 67 8, vO 68 (.app 1 8 (.t 66) (.t 67)), vO 69 (.fldA 4 (.t 2)), ⟨none, .st 1 (.t 69) (.t 68), none⟩]))))))
 (vR [vO 70 (.bin .add (.t 28) (vI 1)), vM 28 70])))
def A_format_Grid : AFun := ⟨77,
  .seq (vR [vO 2 (.alloc [.int .i64 0, .int .i64 0, .int .i64 0, .int .i64 0, .sl .ex []]), vO 3 (.mov (vI 0)), vO 4 (.mov (vI 0))])
 (.seq (vR [vM 11 0, vO 12 (.call F_words_Lines [(.t 11)]), vM 10 12, vO 13 (.extr (.t 10) 0), vO 14 (.extr (.t 10) 1), vM 5 13, vM 4 14])
 (.seq (.block 0 (.seq (vR [vM 16 4, vO 17 (.bin .neq (.t 16) (vI 0)), vM 15 17])
 (.cond (.t 15)
 (.seq (vR [vO 18 (.build [.int .i64 0, .int .i64 0, .int .i64 0, .int .i64 0, .sl .ex []] []), vM 19 4, ⟨none, .st 5 (.t 2) (.t 18), none⟩, vO 3 (.mov (vI 0)), vM 4 19])
 (.ret))
 (.seq (vR [vM 21 5, vO 22 (.len (.t 21)), vO 23 (.bin .eql (.t 22) (vI 0)), vM 20 23])
 (.cond (.t 20)
 (.seq (vR [vO 24 (.build [.int .i64 0, .int .i64 0, .int .i64 0, .int .i64 0, .sl .ex []] []), ⟨none, .st 5 (.t 2) (.t 24), none⟩, vO 3 (.mov (vI 0)), vO 4 (.mov (vI 6))])
 (.ret))
 (.skip))))))
 (.seq (vR [vO 25 (.build [.int .i64 0, .int .i64 0, .int .i64 0, .int .i64 0, .sl .ex []] [(0, 1, (vI 1)), (1, 1, (vI 2))]), ⟨none, .st 5 (.t 2) (.t 25), none⟩])
 (.seq (.seq (vR [vM 26 5, vO 27 (.len (.t 26)), vO 28 (.mov (vI 0))])
 (.block 1 (.loop A_format_GridL0)))
 (.seq (.seq (vR [vO 71 (.fldA 4 (.t 2)), vO 72 (.ld none (.t 71)), vO 73 (.len (.t 72)), vO 74 (.bin .gtr (.t 73) (vI 400))])
 (.cond (.t 74)
 (.seq (vR [vO 75 (.build [.int .i64 0, .int .i64 0, .int .i64 0, .int .i64 0, .sl .ex []] []), ⟨none, .st 5 (.t 2) (.t 75), none⟩, vO 3 (.mov (vI 0)), vO 4 (.mov (vI 15))])
 (.ret))
 (.skip)))
 (.seq (vR [vO 76 (.ld (some 5) (.t 2)), ⟨none, .st 5 (.t 2) (.t 76), none⟩, vO 3 (.mov (vI 0)), vO 4 (.mov (vI 0))])
 (.ret))))))),
  [.cell (some 5) 2, .tmp 3, .tmp 4]⟩
def A_format_TableL0 : ACode :=
  .seq (vR [vO 34 (.bin .lss (.t 33) (.t 32))])
 (.seq (.cond (.t 34)
 (.skip)
 (.exit 0))
 (.seq (.block 1 (.seq (vR [vM 35 33, vO 8 (.alloc [.int .i64 0]), ⟨none, .st 1 (.t 8) (.t 35), none⟩])
 (vR [vM 36 7, vO 37 (.mkf F_format_Table_4 [] [(.t 8)]), vO 38 (.callv (.t 36) [(.t 37)])])))
 (vR [vO 39 (.bin .add (.t 33) (vI 1)), vM 33 39])))
def A_format_Table : AFun := ⟨41,
  .seq (vR [vO 1 (.box (.t 0)), vO 2 (.mov (.c (.str []))), vO 3 (.mov (vI 0))])
 (.seq (vR [vO 10 (.ld (some 2) (.t 1)), vO 11 (.call F_format_drawn [(.t 10)]), vM 9 11, vO 12 (.extr (.t 9) 0), vO 13 (.extr (.t 9) 1), vO 4 (.alloc [.sl .ex []]), ⟨none, .st 1 (.t 4) (.t 12), none⟩, vM 5 13])
 (.seq (.seq (vR [vM 14 5, vO 15 (.bin .neq (.t 14) (vI 0)), vM 16 15, ⟨some 17, .ld none (.t 4), some (16, false)⟩, ⟨some 18, .len (.t 17), some (16, false)⟩, ⟨some 19, .bin .eql (.t 18) (vI 0), some (16, false)⟩, vO 20 (.pick (.t 16) (.c (.bool true)) (.t 19))])
 (.cond (.t 20)
 (.seq (vR [vM 21 5, vO 2 (.mov (.c (.str []))), vM 3 21])
 (.ret))
 (.skip)))
 (.seq (vR [vO 6 (.allocB 61 5)])
 (.seq (vR [vO 22 (.mkf F_format_Table_1 [] [(.t 4), (.t 6)]), vM 7 22])
 (.seq (vR [vM 23 7, vO 24 (.mkf F_format_Table_2 [] [(.t 1)]), vO 25 (.callv (.t 23) [(.t 24)])])
 (.seq (vR [vM 26 7, vO 27 (.callv (.t 26) [(.c (.clo F_format_Table_3 [] []))])])
 (.seq (.seq (vR [vO 28 (.ld none (.t 4)), vO 29 (.idxA 3 (.t 28) (vI 0)), vO 30 (.fldA 0 (.t 29)), vO 31 (.ld none (.t 30)), vO 32 (.len (.t 31)), vO 33 (.mov (vI 0))])
 (.block 0 (.loop A_format_TableL0)))
 (.seq (vR [vO 40 (.call F_strings_Builder_String [(.t 6)]), vM 2 40, vO 3 (.mov (vI 0))])
 (.ret))))))))),
  [.tmp 2, .tmp 3]⟩
def A_format_ArrayR0a : ACode :=
  vR [vM 7 38]
def A_format_ArrayR0b : ACode :=
  .block 1 (vR [vO 39 (.fldA 0 (.t 1)), vO 40 (.ld none (.t 39)), vM 41 7, vO 42 (.call F_format_piece [(.t 40), (.t 41)]), vO 43 (.bin .add (.t 42) (.c (.str [10]))), vO 44 (.call F_strings_Builder_WriteString [(.t 5), (.t 43)])])
def A_format_Array : AFun := ⟨46,
  .seq (vR [vO 1 (.box (.t 0)), vO 2 (.mov (.c (.str []))), vO 3 (.mov (vI 0))])
 (.seq (.seq (vR [vO 8 (.ld (some 5) (.t 1)), vO 9 (.call F_arrays_Check [(.t 8)]), vM 4 9])
 (.seq (vR [vM 10 4, vO 11 (.bin .neq (.t 10) (vI 0))])
 (.cond (.t 11)
 (.seq (vR [vM 12 4, vO 2 (.mov (.c (.str []))), vM 3 12])
 (.ret))
 (.skip))))
 (.seq (vR [vO 5 (.allocB 61 5)])
 (.seq (.seq (vR [vO 13 (.fldA 0 (.t 1)), vO 14 (.ld none (.t 13)), vO 15 (.bin .eql (.t 14) (vI 2))])
 (.cond (.t 15)
 (vR [vO 16 (.call F_strings_Builder_WriteString [(.t 5), (.c (.str [99, 104, 97, 114, 32]))])])
 (vR [vO 17 (.call F_strings_Builder_WriteString [(.t 5), (.c (.str [105, 110, 116, 32]))])])))
 (.seq (vR [vO 18 (.fldA 1 (.t 1)), vO 19 (.ld none (.t 18)), vO 20 (.fldA 2 (.t 1)), vO 21 (.idxP 2 1 (.t 20) (vI 0)), vO 22 (.ld none (.t 21)), vO 23 (.fldA 2 (.t 1)), vO 24 (.idxP 2 1 (.t 23) (vI 1)), vO 25 (.ld none (.t 24)), vO 26 (.bsl 1 (.int .i64 0) 3 [(0, (.t 19)), (1, (.t 22)), (2, (.t 25))]), vM 6 26])
 (.seq (vR [vM 27 6, vO 28 (.fldA 1 (.t 1)), vO 29 (.ld none (.t 28)), vO 30 (.bin .add (.t 29) (vI 1)), vO 31 (.sls 1 (.t 27) none (some (.t 30)) none), vO 32 (.call F_format_numbers [(.t 31)]), vO 33 (.bin .add (.t 32) (.c (.str [10]))), vO 34 (.call F_strings_Builder_WriteString [(.t 5), (.t 33)])])
 (.seq (.seq (vR [vO 35 (.fldA 4 (.t 1)), vO 36 (.ld none (.t 35)), vO 37 (.call F_format_pieces [(.t 36)])])
 (.block 0 (.rangeF (.t 37) [38] A_format_ArrayR0a A_format_ArrayR0b)))
 (.seq (vR [vO 45 (.call F_strings_Builder_String [(.t 5)]), vM 2 45, vO 3 (.mov (vI 0))])
 (.ret)))))))),
  [.tmp 2, .tmp 3]⟩
def A_format_ParseL0 : ACode :=
  .seq (.seq (vR [vM 51 9, vO 52 (.bin .gtr (.t 51) (vI 0))])
 (.cond (.t 52)
 (.skip)
 (.exit 1)))
 (.seq (.block 2 (.seq (.seq (vR [vM 55 3, vM 56 5, vO 57 (.len (.t 56)), vO 58 (.bin .eql (.t 55) (.t 57))])
 (.cond (.t 58)
 (.seq (vR [vM 59 6, vM 60 3, vO 61 (.bin .add (.t 60) (vI 1)), vO 62 (.callv (.t 59) [(.t 61)]), vO 63 (.extr (.t 62) 0), vO 64 (.extr (.t 62) 1), vO 65 (.extr (.t 62) 2), ⟨none, .st 5 (.t 2) (.t 63), none⟩, vM 3 64, vM 4 65])
 (.ret))
 (.skip)))
 (.seq (.region true [vO 67 (.fldA 0 (.t 2)), vO 68 (.ld none (.t 67)), vM 69 5, vM 70 3, vO 71 (.idxA 1 (.t 69) (.t 70)), vO 72 (.ld none (.t 71)), vM 73 9, vO 74 (.mm false (.t 73) (vI 20)), vO 75 (.call F_format_cells [(.t 68), (.t 72), (.t 74)]), vM 66 75, vO 76 (.extr (.t 66) 0), vO 77 (.extr (.t 66) 1), vM 10 76, vM 11 77])
 (.seq (.seq (vR [vM 78 11, vO 79 (.not (.t 78))])
 (.cond (.t 79)
 (.seq (vR [vM 80 6, vM 81 3, vO 82 (.bin .add (.t 81) (vI 1)), vO 83 (.callv (.t 80) [(.t 82)]), vO 84 (.extr (.t 83) 0), vO 85 (.extr (.t 83) 1), vO 86 (.extr (.t 83) 2), ⟨none, .st 5 (.t 2) (.t 84), none⟩, vM 3 85, vM 4 86])
 (.ret))
 (.skip)))
 (.seq (vR [vO 87 (.fldA 4 (.t 2)), vO 88 (.ld none (.t 87)), vM 89 10, vO 90 (.app 1 8 (.t 88) (.t 89)), vO 91 (.fldA 4 (.t 2)), ⟨none, .st 1 (.t 91) (.t 90), none⟩])
 (vR [vM 92 9, vM 93 10, vO 94 (.len (.t 93)), vO 95 (.bin .sub (.t 92) (.t 94)), vM 9 95]))))))
 (vR [vM 53 3, vO 54 (.bin .add (.t 53) (vI 1)), vM 3 54]))
def A_format_Parse : AFun := ⟨114,
  .seq (vR [vO 2 (.alloc [.int .i64 0, .int .i64 0, .int .i64 0, .int .i64 0, .sl .ex []]), vO 3 (.mov (vI 0)), vO 4 (.mov (vI 0))])
 (.seq (vR [vM 14 0, vO 15 (.call F_words_Lines [(.t 14)]), vM 13 15, vO 16 (.extr (.t 13) 0), vO 17 (.extr (.t 13) 1), vM 5 16, vM 4 17])
 (.seq (.seq (vR [vM 18 4, vO 19 (.bin .neq (.t 18) (vI 0))])
 (.cond (.t 19)
 (.seq (vR [vO 20 (.build [.int .i64 0, .int .i64 0, .int .i64 0, .int .i64 0, .sl .ex []] []), vM 21 4, ⟨none, .st 5 (.t 2) (.t 20), none⟩, vO 3 (.mov (vI 0)), vM 4 21])
 (.ret))
 (.skip)))
 (.seq (vR [vO 6 (.mov (.c (.clo F_format_Parse_1 [] [])))])
 (.seq (.seq (vR [vM 22 5, vO 23 (.len (.t 22)), vO 24 (.bin .eql (.t 23) (vI 0))])
 (.cond (.t 24)
 (.seq (vR [vM 25 6, vO 26 (.callv (.t 25) [(vI 1)]), vO 27 (.extr (.t 26) 0), vO 28 (.extr (.t 26) 1), vO 29 (.extr (.t 26) 2), ⟨none, .st 5 (.t 2) (.t 27), none⟩, vM 3 28, vM 4 29])
 (.ret))
 (.skip)))
 (.seq (vR [vM 31 5, vO 32 (.idxA 1 (.t 31) (vI 0)), vO 33 (.ld none (.t 32)), vO 34 (.call F_format_begun [(.t 33)]), vM 30 34, vO 35 (.extr (.t 30) 0), vO 36 (.extr (.t 30) 1), vO 37 (.extr (.t 30) 2), ⟨none, .st 5 (.t 2) (.t 35), none⟩, vM 7 36, vM 8 37])
 (.seq (.block 0 (.seq (vR [vM 39 8, vO 40 (.not (.t 39)), vM 38 40])
 (.cond (.t 38)
 (.seq (vR [vM 41 6, vO 42 (.callv (.t 41) [(vI 1)]), vO 43 (.extr (.t 42) 0), vO 44 (.extr (.t 42) 1), vO 45 (.extr (.t 42) 2), ⟨none, .st 5 (.t 2) (.t 43), none⟩, vM 3 44, vM 4 45])
 (.ret))
 (.seq (vR [vM 47 7, vO 48 (.bin .gtr (.t 47) (vI 400)), vM 46 48])
 (.cond (.t 46)
 (.seq (vR [vO 49 (.build [.int .i64 0, .int .i64 0, .int .i64 0, .int .i64 0, .sl .ex []] []), ⟨none, .st 5 (.t 2) (.t 49), none⟩, vO 3 (.mov (vI 1)), vO 4 (.mov (vI 15))])
 (.ret))
 (.skip))))))
 (.seq (vR [vO 3 (.mov (vI 1))])
 (.seq (.seq (vR [vM 50 7, vM 9 50])
 (.block 1 (.loop A_format_ParseL0)))
 (.seq (.seq (vR [vM 96 3, vM 97 5, vO 98 (.len (.t 97)), vO 99 (.bin .lss (.t 96) (.t 98))])
 (.cond (.t 99)
 (.seq (vR [vM 100 6, vM 101 3, vO 102 (.bin .add (.t 101) (vI 1)), vO 103 (.callv (.t 100) [(.t 102)]), vO 104 (.extr (.t 103) 0), vO 105 (.extr (.t 103) 1), vO 106 (.extr (.t 103) 2), ⟨none, .st 5 (.t 2) (.t 104), none⟩, vM 3 105, vM 4 106])
 (.ret))
 (.skip)))
 (.seq (.seq (vR [vO 107 (.ld (some 5) (.t 2)), vO 108 (.call F_arrays_Check [(.t 107)]), vM 12 108])
 (.seq (vR [vM 109 12, vO 110 (.bin .neq (.t 109) (vI 0))])
 (.cond (.t 110)
 (.seq (vR [vO 111 (.build [.int .i64 0, .int .i64 0, .int .i64 0, .int .i64 0, .sl .ex []] []), vM 112 12, ⟨none, .st 5 (.t 2) (.t 111), none⟩, vO 3 (.mov (vI 0)), vM 4 112])
 (.ret))
 (.skip))))
 (.seq (vR [vO 113 (.ld (some 5) (.t 2)), ⟨none, .st 5 (.t 2) (.t 113), none⟩, vO 3 (.mov (vI 0)), vO 4 (.mov (vI 0))])
 (.ret)))))))))))),
  [.cell (some 5) 2, .tmp 3, .tmp 4]⟩
def A_law33_Matrix : AFun := ⟨4,
  .seq (vR [vO 0 (.alloc [.int .i64 0, .int .i64 0, .int .i64 0, .int .i64 0, .sl .ex []])])
 (.seq (vR [vO 1 (.build [.int .i64 0, .int .i64 0] [(0, 1, (vI 2)), (1, 1, (vI 2))]), vO 2 (.bsl 1 (.int .i64 0) 4 [(0, (vI 1)), (1, (vI (-20))), (2, (vI 300)), (3, (vI 4))]), vO 3 (.build [.int .i64 0, .int .i64 0, .int .i64 0, .int .i64 0, .sl .ex []] [(0, 1, (vI 1)), (1, 1, (vI 2)), (2, 2, (.t 1)), (4, 1, (.t 2))]), ⟨none, .st 5 (.t 0) (.t 3), none⟩])
 (.ret)),
  [.cell (some 5) 0]⟩
def A_law33_Marks : AFun := ⟨10,
  .seq (vR [vO 0 (.alloc [.sl .ex [], .sl .ex []])])
 (.seq (vR [vO 1 (.bsl 1 (.str []) 2 [(0, (.c (.str [109, 97, 114, 107]))), (1, (.c (.str [103, 114, 97, 100, 101])))]), vO 2 (.build [.int .i64 0, .int .i64 0] [(0, 1, (vI 2)), (1, 1, (vI 0))]), vO 3 (.bsl 1 (.int .i64 0) 2 [(0, (vI 3)), (1, (vI 12))]), vO 4 (.build [.int .i64 0, .int .i64 0, .int .i64 0, .int .i64 0, .sl .ex []] [(0, 1, (vI 1)), (1, 1, (vI 1)), (2, 2, (.t 2)), (4, 1, (.t 3))]), vO 5 (.build [.int .i64 0, .int .i64 0] [(0, 1, (vI 2)), (1, 1, (vI 0))]), vO 6 (.bsl 1 (.int .i64 0) 2 [(0, (vI 97)), (1, (vI 98))]), vO 7 (.build [.int .i64 0, .int .i64 0, .int .i64 0, .int .i64 0, .sl .ex []] [(0, 1, (vI 2)), (1, 1, (vI 1)), (2, 2, (.t 5)), (4, 1, (.t 6))]), vO 8 (.bsl 5 (.agg [.int .i64 0, .int .i64 0, .int .i64 0, .int .i64 0, .sl .ex []]) 2 [(0, (.t 4)), (1, (.t 7))]), vO 9 (.build [.sl .ex [], .sl .ex []] [(0, 1, (.t 1)), (1, 1, (.t 8))]), ⟨none, .st 2 (.t 0) (.t 9), none⟩])
 (.ret)),
  [.cell (some 2) 0]⟩
def A_arrays_Check : AFun := ⟨36,
  .seq (vR [vO 1 (.box (.t 0)), vO 2 (.mov (vI 0))])
 (.seq (.seq (vR [vO 5 (.fldA 0 (.t 1)), vO 6 (.ld none (.t 5)), vO 7 (.bin .neq (.t 6) (vI 1)), vM 8 7, ⟨some 9, .fldA 0 (.t 1), some (8, true)⟩, ⟨some 10, .ld none (.t 9), some (8, true)⟩, ⟨some 11, .bin .neq (.t 10) (vI 2), some (8, true)⟩, vO 12 (.pick (.t 8) (.t 11) (.c (.bool false)))])
 (.cond (.t 12)
 (.seq (vR [vO 2 (.mov (vI 2))])
 (.ret))
 (.skip)))
 (.seq (.seq (vR [vO 14 (.fldA 1 (.t 1)), vO 15 (.ld none (.t 14)), vO 16 (.fldA 2 (.t 1)), vO 17 (.ld (some 2) (.t 16)), vO 18 (.call F_shapes_Cells [(.t 15), (.t 17)]), vM 13 18, vO 19 (.extr (.t 13) 0), vO 20 (.extr (.t 13) 1), vM 3 19, vM 4 20])
 (.block 0 (.seq (vR [vM 22 4, vO 23 (.bin .neq (.t 22) (vI 0)), vM 21 23])
 (.cond (.t 21)
 (.seq (vR [vM 24 4, vM 2 24])
 (.ret))
 (.seq (vR [vO 26 (.fldA 4 (.t 1)), vO 27 (.ld none (.t 26)), vO 28 (.len (.t 27)), vM 29 3, vO 30 (.bin .neq (.t 28) (.t 29)), vM 25 30])
 (.cond (.t 25)
 (.seq (vR [vO 2 (.mov (vI 6))])
 (.ret))
 (.seq (vR [vO 32 (.fldA 4 (.t 1)), vO 33 (.ld none (.t 32)), vO 34 (.mkf F_arrays_Check_1 [] [(.t 1)]), vO 35 (.call F_slices_ContainsFunc_int64_int64 [(.t 33), (.t 34)]), vM 31 35])
 (.cond (.t 31)
 (.seq (vR [vO 2 (.mov (vI 7))])
 (.ret))
 (.skip)))))))))
 (.seq (vR [vO 2 (.mov (vI 0))])
 (.ret)))),
  [.tmp 2]⟩
def A_format_stackedL0 : ACode :=
  .seq (vR [vO 19 (.bin .lss (.t 18) (.t 17))])
 (.seq (.cond (.t 19)
 (.skip)
 (.exit 0))
 (.seq (.block 1 (.seq (vR [vO 20 (.idxA 1 (.t 16) (.t 18)), vO 21 (.ld none (.t 20)), vM 9 21])
 (.seq (vR [vM 22 0, vM 23 9, vO 24 (.call F_format_cell [(.t 22), (.t 23)]), vM 10 24])
 (.region true [vO 25 (.fldA 0 (.t 7)), vO 26 (.ld none (.t 25)), vM 27 10, vO 28 (.bsl 1 (.str []) 1 [(0, (.t 27))]), vO 29 (.app 1 16 (.t 26) (.t 28)), vO 30 (.fldA 1 (.t 7)), vO 31 (.ld none (.t 30)), vM 32 10, vO 33 (.lenS (.t 32)), vO 34 (.mm true (.t 31) (.t 33)), vO 35 (.fldA 0 (.t 7)), ⟨none, .st 1 (.t 35) (.t 29), none⟩, vO 36 (.fldA 1 (.t 7)), ⟨none, .st 1 (.t 36) (.t 34), none⟩]))))
 (vR [vO 37 (.bin .add (.t 18) (vI 1)), vM 18 37])))
def A_format_stacked : AFun := ⟨39,
  .seq (vR [vO 6 (.alloc [.sl .ex [], .int .i64 0, .nilF])])
 (.seq (vR [vM 11 2, vO 12 (.build [.sl .ex [], .int .i64 0, .nilF] [(1, 1, (.t 11)), (2, 1, (.c (.clo F_format_left [] [])))]), vO 7 (.alloc [.sl .ex [], .int .i64 0, .nilF]), ⟨none, .st 3 (.t 7) (.t 12), none⟩])
 (.seq (.seq (vR [vM 13 0, vO 14 (.bin .eql (.t 13) (vI 1))])
 (.cond (.t 14)
 (vR [vO 15 (.fldA 2 (.t 7)), ⟨none, .st 1 (.t 15) (.c (.clo F_format_right [] [])), none⟩])
 (.skip)))
 (.seq (.seq (vR [vM 16 1, vO 17 (.len (.t 16)), vO 18 (.mov (vI 0))])
 (.block 0 (.loop A_format_stackedL0)))
 (.seq (vR [vO 38 (.ld (some 3) (.t 7)), ⟨none, .st 3 (.t 6) (.t 38), none⟩])
 (.ret))))),
  [.cell (some 3) 6]⟩
def A_words_Lines : AFun := ⟨26,
  .seq (vR [vO 2 (.mov (.c (.sl .ex []))), vO 3 (.mov (vI 0))])
 (.seq (.block 0 (.seq (vR [vM 6 0, vO 7 (.lenS (.t 6)), vO 8 (.bin .gtr (.t 7) (vI 1048576)), vM 5 8])
 (.cond (.t 5)
 (.seq (vR [vO 2 (.mov (.c (.sl .ex []))), vO 3 (.mov (vI 3))])
 (.ret))
 (.seq (vR [vM 10 0, vO 11 (.bin .eql (.t 10) (.c (.str []))), vM 9 11])
 (.cond (.t 9)
 (.seq (vR [vO 2 (.mov (.c (.sl .ex []))), vO 3 (.mov (vI 0))])
 (.ret))
 (.seq (vR [vM 13 0, vO 14 (.call F_strings_HasSuffix [(.t 13), (.c (.str [10]))]), vO 15 (.not (.t 14)), vM 12 15])
 (.cond (.t 12)
 (.seq (vR [vO 2 (.mov (.c (.sl .ex []))), vO 3 (.mov (vI 6))])
 (.ret))
 (.skip))))))))
 (.seq (vR [vM 16 0, vM 17 0, vO 18 (.lenS (.t 17)), vO 19 (.bin .sub (.t 18) (vI 1)), vO 20 (.ssl (.t 16) none (some (.t 19))), vO 21 (.call F_strings_Split [(.t 20), (.c (.str [10]))]), vM 4 21])
 (.seq (.seq (vR [vM 22 4, vO 23 (.len (.t 22)), vO 24 (.bin .gtr (.t 23) (vI 5000))])
 (.cond (.t 24)
 (.seq (vR [vO 2 (.mov (.c (.sl .ex []))), vO 3 (.mov (vI 3))])
 (.ret))
 (.skip)))
 (.seq (vR [vM 25 4, vM 2 25, vO 3 (.mov (vI 0))])
 (.ret))))),
  [.tmp 2, .tmp 3]⟩
section
variable {X : Cx} (hX : X.P = Go.Proofs.Tryz.prog)
include hX
theorem A_law33_FormatKnown_ok : compileFun X.P F_law33_FormatKnown vH = some A_law33_FormatKnown := by rw [hX]; kernel_rfl
theorem A_law33_shown_ok : compileFun X.P F_law33_shown vH = some A_law33_shown := by rw [hX]; kernel_rfl
theorem A_format_Picture_ok : compileFun X.P F_format_Picture vH = some A_format_Picture := by rw [hX]; kernel_rfl
theorem A_format_Grid_ok : compileFun X.P F_format_Grid vH = some A_format_Grid := by rw [hX]; kernel_rfl
theorem A_format_Table_ok : compileFun X.P F_format_Table vH = some A_format_Table := by rw [hX]; kernel_rfl
theorem A_format_Array_ok : compileFun X.P F_format_Array vH = some A_format_Array := by rw [hX]; kernel_rfl
theorem A_format_Parse_ok : compileFun X.P F_format_Parse vH = some A_format_Parse := by rw [hX]; kernel_rfl
theorem A_law33_Matrix_ok : compileFun X.P F_law33_Matrix vH = some A_law33_Matrix := by rw [hX]; kernel_rfl
theorem A_law33_Marks_ok : compileFun X.P F_law33_Marks vH = some A_law33_Marks := by rw [hX]; kernel_rfl
theorem A_arrays_Check_ok : compileFun X.P F_arrays_Check vH = some A_arrays_Check := by rw [hX]; kernel_rfl
theorem A_format_stacked_ok : compileFun X.P F_format_stacked vH = some A_format_stacked := by rw [hX]; kernel_rfl
theorem A_words_Lines_ok : compileFun X.P F_words_Lines vH = some A_words_Lines := by rw [hX]; kernel_rfl
end
end Go.Avm
