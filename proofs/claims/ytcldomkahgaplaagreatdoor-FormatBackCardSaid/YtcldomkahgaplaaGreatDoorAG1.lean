/- The functions as they have been read. -/
import Derived.Test.YtcldomkahgaplaaGreatDoorA8
import Derived.Test.YtcldomkahgaplaaGreatDoorProg
set_option linter.all false
namespace Go.Avm
open Go
def F_main_main : Nat := 0
def F_lf_Back : Nat := 8
def F_lw_Far : Nat := 11
def F_lw_shown : Nat := 13
def F_fo_Picture : Nat := 14
def F_fo_Grid : Nat := 16
def F_ra_Same : Nat := 17
def F_fo_Table : Nat := 18
def F_fo_Array : Nat := 23
def F_fo_Parse : Nat := 25
def F_lw_Matrix : Nat := 30
def F_lw_Marks : Nat := 31
def F_ar_Check : Nat := 32
def F_st_Join : Nat := 33
def F_fo_stacked : Nat := 34
def F_sb_WriteString : Nat := 35
def F_sb_String : Nat := 36
def F_wo_Lines : Nat := 37
def F_fo_row : Nat := 38
def F_ra_Like : Nat := 39
def F_fo_drawn : Nat := 40
def F_fo_Table_1 : Nat := 41
def F_fo_Table_2 : Nat := 42
def F_fo_Table_3 : Nat := 43
def F_st_Repeat : Nat := 44
def F_fo_Table_4 : Nat := 45
def F_fo_cell : Nat := 51
def F_fo_numbers : Nat := 53
def F_fo_pieces : Nat := 54
def F_fo_piece : Nat := 55
def F_fo_Parse_1 : Nat := 58
def F_fo_begun : Nat := 59
def F_fo_cells : Nat := 60
def F_sh_Cells : Nat := 68
def F_sx_ContainsFunc_int64_int64 : Nat := 69
def F_ar_Check_1 : Nat := 70
def F_ar_right : Nat := 71
def F_fo_left : Nat := 73
def F_fo_right : Nat := 74
def F_st_HasSuffix : Nat := 76
def F_st_Split : Nat := 77
def F_st_FieldsFunc : Nat := 78
def F_fo_row_1 : Nat := 79
def F_wo_Int : Nat := 80
def F_tb_Check : Nat := 81
def F_st_HasPrefix : Nat := 83
def F_ru_is : Nat := 88
def F_u_RuneLen : Nat := 90
def F_sc_FormatInt : Nat := 91
def F_sx_Chunk_int64_int64 : Nat := 92
def F_ru_Bytes : Nat := 93
def F_lx_Quote : Nat := 94
def F_fo_whole : Nat := 98
def F_lx_Line : Nat := 99
def F_ru_Runes : Nat := 100
def F_sh_Check : Nat := 106
def F_sh_product : Nat := 107
def F_sx_IndexFunc_int64_int64 : Nat := 108
def F_u_ValidRune : Nat := 109
def F_fo_blanks : Nat := 111
def F_sl_HasSuffix : Nat := 113
def F_st_genSplit : Nat := 114
def F_wo_isDecimal : Nat := 115
def F_sc_ParseInt : Nat := 116
def F_wo_Name : Nat := 117
def F_sl_HasPrefix : Nat := 120
def F_sc_FormatInt_124 : Nat := 124
def F_sx_Chunk_int64_int64_1 : Nat := 125
def F_ru_Bytes_1 : Nat := 126
def F_u_AppendRune : Nat := 127
def F_u_ValidString : Nat := 128
def F_lx_quoted : Nat := 129
def F_lr_mark : Nat := 133
def F_lr_class : Nat := 134
def F_lr_word : Nat := 135
def F_lr_number : Nat := 136
def F_lr_text : Nat := 137
def F_ru_Check : Nat := 138
def F_ru_all : Nat := 139
def F_sx_ContainsFunc_int_int : Nat := 146
def F_sh_Check_1 : Nat := 147
def F_sh_Check_2 : Nat := 148
def F_sh_Check_3 : Nat := 149
def F_st_explode : Nat := 151
def F_st_Count : Nat := 152
def F_st_Index : Nat := 153
def F_st_TrimPrefix : Nat := 154
def F_st_Trim : Nat := 155
def F_sc_ParseInt_156 : Nat := 156
def F_sc_toError : Nat := 157
def F_sc_small : Nat := 158
def F_sc_numDigits : Nat := 159
def F_sc_formatBase10 : Nat := 160
def F_sc_formatBits : Nat := 161
def F_u_appendRuneNonASCII : Nat := 162
def F_sb_WriteByte : Nat := 164
def F_sb_WriteRune : Nat := 165
def F_lx_written : Nat := 167
def F_ru_Class : Nat := 168
def F_lr_while : Nat := 169
def F_lx_escape : Nat := 170
def F_ru_Decode : Nat := 171
def F_ru_all_1 : Nat := 172
def F_sx_IndexFunc_int_int : Nat := 181
def F_sl_Index : Nat := 185
def F_sl_TrimPrefix : Nat := 186
def F_st_trimLeftByte : Nat := 187
def F_st_trimRightByte : Nat := 188
def F_st_makeASCIISet : Nat := 189
def F_st_trimLeftASCII : Nat := 190
def F_st_trimRightASCII : Nat := 191
def F_st_trimLeftUnicode : Nat := 192
def F_st_trimRightUnicode : Nat := 193
def F_sc_ParseUint : Nat := 194
def F_sc_isPowerOfTwo : Nat := 202
def F_bits_TrailingZeros : Nat := 203
def F_ru_classes : Nat := 204
def F_st_ContainsRune : Nat := 205
def F_st_Cut : Nat := 206
def F_u_DecodeRune : Nat := 207
def F_u_FullRune : Nat := 208
def F_sl_IndexByte : Nat := 213
def F_bytealg_Cutover : Nat := 215
def F_st_asciiSet_contains : Nat := 217
def F_sc_lower : Nat := 219
def F_sc_underscoreOK : Nat := 220
def F_bits_TrailingZeros32 : Nat := 224
def F_bits_TrailingZeros64 : Nat := 225
def F_st_IndexRune : Nat := 226
def F_sl_Cut : Nat := 227
def F_u_decodeRuneSlow : Nat := 228
def F_st_IndexByte : Nat := 234
def A_lf_Back : AFun := ⟨72,
  .seq (vR [vO 2 (.box (.t 0)), vO 4 (.mov (.c (.bool false)))])
 (.seq (.seq (vR [vO 15 (.ld (some 5) (.t 2)), vO 16 (.call F_lw_Far [(.t 15)]), vM 17 16, ⟨some 18, .mov (.t 1), some (17, false)⟩, ⟨some 19, .lenS (.t 18), some (17, false)⟩, ⟨some 20, .bin .gtr (.t 19) (vI 3000), some (17, false)⟩, vO 21 (.pick (.t 17) (.c (.bool true)) (.t 20))])
 (.cond (.t 21)
 (.seq (vR [vO 22 (.call F_lw_shown []), vM 4 22])
 (.ret))
 (.skip)))
 (.seq (vR [vO 24 (.ld (some 5) (.t 2)), vO 25 (.call F_fo_Array [(.t 24)]), vM 23 25, vE 26 23 0, vE 27 23 1, vM 5 26, vM 6 27])
 (.seq (.seq (vR [vM 28 6, vO 29 (.bin .eql (.t 28) (vI 0))])
 (.cond (.t 29)
 (.seq (vR [vM 31 5, vO 32 (.call F_fo_Parse [(.t 31)]), vM 30 32, vE 33 30 0, vE 34 30 1, vE 35 30 2, vO 7 (.alloc [.int .i64 0, .int .i64 0, .int .i64 0, .int .i64 0, .sl .ex []]), ⟨none, .st 5 (.t 7) (.t 33), none⟩, vM 8 34, vM 9 35])
 (.seq (vR [vO 36 (.ld (some 5) (.t 2)), vO 37 (.ld (some 5) (.t 7)), vO 38 (.call F_ra_Same [(.t 36), (.t 37)]), vO 39 (.not (.t 38)), vM 40 39, ⟨some 41, .mov (.t 8), some (40, false)⟩, ⟨some 42, .bin .neq (.t 41) (vI 0), some (40, false)⟩, vO 43 (.pick (.t 40) (.c (.bool true)) (.t 42)), vM 44 43, ⟨some 45, .mov (.t 9), some (44, false)⟩, ⟨some 46, .bin .neq (.t 45) (vI 0), some (44, false)⟩, vO 47 (.pick (.t 44) (.c (.bool true)) (.t 46))])
 (.cond (.t 47)
 (.seq (vR [vO 4 (.mov (.c (.bool false)))])
 (.ret))
 (.skip))))
 (.skip)))
 (.seq (vR [vM 49 1, vO 50 (.call F_fo_Parse [(.t 49)]), vM 48 50, vE 51 48 0, vE 52 48 1, vE 53 48 2, vO 10 (.alloc [.int .i64 0, .int .i64 0, .int .i64 0, .int .i64 0, .sl .ex []]), ⟨none, .st 5 (.t 10) (.t 51), none⟩, vM 11 52, vM 12 53])
 (.seq (.seq (vR [vM 54 12, vO 55 (.bin .neq (.t 54) (vI 0))])
 (.cond (.t 55)
 (.seq (vR [vO 56 (.call F_lw_shown []), vM 4 56])
 (.ret))
 (.skip)))
 (.seq (vR [vO 58 (.ld (some 5) (.t 10)), vO 59 (.call F_fo_Array [(.t 58)]), vM 57 59, vE 60 57 0, vE 61 57 1, vM 13 60, vM 14 61])
 (.seq (vR [vM 62 13, vM 63 1, vB 64 .eql 62 63, vM 65 64, ⟨some 66, .mov (.t 14), some (65, true)⟩, ⟨some 67, .bin .eql (.t 66) (vI 0), some (65, true)⟩, vO 68 (.pick (.t 65) (.t 67) (.c (.bool false))), vM 69 68, ⟨some 70, .call F_lw_shown [], some (69, true)⟩, vO 71 (.pick (.t 69) (.t 70) (.c (.bool false))), vM 4 71])
 (.ret)))))))),
  [.tmp 4]⟩
def A_lw_Far : AFun := ⟨19,
  .seq (vR [vO 1 (.box (.t 0)), vO 2 (.mov (.c (.bool false)))])
 (.seq (vR [vO 3 (.fldA 4 (.t 1)), vO 4 (.ld none (.t 3)), vO 5 (.len (.t 4)), vO 6 (.bin .gtr (.t 5) (vI 60)), vM 7 6, ⟨some 8, .fldA 4 (.t 1), some (7, true)⟩, ⟨some 9, .ld none (.t 8), some (7, true)⟩, ⟨some 10, .len (.t 9), some (7, true)⟩, ⟨some 11, .bin .leq (.t 10) (vI 400), some (7, true)⟩, vO 12 (.pick (.t 7) (.t 11) (.c (.bool false))), vM 13 12, ⟨some 14, .fldA 4 (.t 1), some (13, false)⟩, ⟨some 15, .ld none (.t 14), some (13, false)⟩, ⟨some 16, .len (.t 15), some (13, false)⟩, ⟨some 17, .bin .gtr (.t 16) (vI 405), some (13, false)⟩, vO 18 (.pick (.t 13) (.c (.bool true)) (.t 17)), vM 2 18])
 (.ret)),
  [.tmp 2]⟩
def A_lw_shown : AFun := ⟨76,
  .seq (vR [vO 0 (.mov (.c (.bool false)))])
 (.seq (vR [vO 14 (.call F_lw_Matrix []), vO 15 (.call F_fo_Array [(.t 14)]), vM 13 15, vE 16 13 0, vE 17 13 1, vM 1 16, vM 2 17])
 (.seq (vR [vO 19 (.call F_lw_Matrix []), vO 20 (.call F_fo_Picture [(.t 19)]), vM 18 20, vE 21 18 0, vE 22 18 1, vM 3 21, vM 4 22])
 (.seq (vR [vO 24 (.call F_lw_Marks []), vO 25 (.call F_fo_Table [(.t 24)]), vM 23 25, vE 26 23 0, vE 27 23 1, vM 5 26, vM 6 27])
 (.seq (vR [vO 29 (.call F_fo_Parse [(.c (.str [105, 110, 116, 32, 49, 32, 51, 10, 49, 32, 50, 10]))]), vM 28 29, vE 30 28 0, vE 31 28 1, vE 32 28 2, vO 7 (.alloc [.int .i64 0, .int .i64 0, .int .i64 0, .int .i64 0, .sl .ex []]), ⟨none, .st 5 (.t 7) (.t 30), none⟩, vM 8 31, vM 9 32])
 (.seq (vR [vO 34 (.call F_fo_Grid [(.c (.str [49, 32, 50, 10, 51, 10]))]), vM 33 34, vE 35 33 0, vE 36 33 1, vE 37 33 2, vO 10 (.alloc [.int .i64 0, .int .i64 0, .int .i64 0, .int .i64 0, .sl .ex []]), ⟨none, .st 5 (.t 10) (.t 35), none⟩, vM 11 36, vM 12 37])
 (.seq (vR [vM 38 1, vO 39 (.bin .eql (.t 38) (.c (.str [105, 110, 116, 32, 50, 32, 50, 32, 50, 10, 49, 32, 45, 50, 48, 32, 51, 48, 48, 32, 52, 10]))), vM 40 39, ⟨some 41, .mov (.t 2), some (40, true)⟩, ⟨some 42, .bin .eql (.t 41) (vI 0), some (40, true)⟩, vO 43 (.pick (.t 40) (.t 42) (.c (.bool false))), vM 44 43, ⟨some 45, .mov (.t 3), some (44, true)⟩, ⟨some 46, .bin .eql (.t 45) (.c (.str [32, 32, 49, 32, 45, 50, 48, 10, 51, 48, 48, 32, 32, 32, 52, 10])), some (44, true)⟩, vO 47 (.pick (.t 44) (.t 46) (.c (.bool false))), vM 48 47, ⟨some 49, .mov (.t 4), some (48, true)⟩, ⟨some 50, .bin .eql (.t 49) (vI 0), some (48, true)⟩, vO 51 (.pick (.t 48) (.t 50) (.c (.bool false))), vM 52 51, ⟨some 53, .mov (.t 5), some (52, true)⟩, ⟨some 54, .bin .eql (.t 53) (.c (.str [109, 97, 114, 107, 32, 32, 103, 114, 97, 100, 101, 10, 45, 45, 45, 45, 32, 32, 45, 45, 45, 45, 45, 10, 32, 32, 32, 51, 32, 32, 97, 32, 32, 32, 32, 10, 32, 32, 49, 50, 32, 32, 98, 32, 32, 32, 32, 10])), some (52, true)⟩, vO 55 (.pick (.t 52) (.t 54) (.c (.bool false))), vM 56 55, ⟨some 57, .mov (.t 6), some (56, true)⟩, ⟨some 58, .bin .eql (.t 57) (vI 0), some (56, true)⟩, vO 59 (.pick (.t 56) (.t 58) (.c (.bool false))), vM 60 59, ⟨some 61, .mov (.t 8), some (60, true)⟩, ⟨some 62, .bin .eql (.t 61) (vI 2), some (60, true)⟩, vO 63 (.pick (.t 60) (.t 62) (.c (.bool false))), vM 64 63, ⟨some 65, .mov (.t 9), some (64, true)⟩, ⟨some 66, .bin .eql (.t 65) (vI 6), some (64, true)⟩, vO 67 (.pick (.t 64) (.t 66) (.c (.bool false))), vM 68 67, ⟨some 69, .mov (.t 11), some (68, true)⟩, ⟨some 70, .bin .eql (.t 69) (vI 2), some (68, true)⟩, vO 71 (.pick (.t 68) (.t 70) (.c (.bool false))), vM 72 71, ⟨some 73, .mov (.t 12), some (72, true)⟩, ⟨some 74, .bin .eql (.t 73) (vI 11), some (72, true)⟩, vO 75 (.pick (.t 72) (.t 74) (.c (.bool false))), vM 0 75])
 (.ret))))))),
  [.tmp 0]⟩
def A_fo_PictureL1 : ACode :=
  .seq (.seq (vR [vM 42 9, vO 43 (.fldA 4 (.t 1)), vO 44 (.ld none (.t 43)), vO 45 (.len (.t 44)), vB 46 .lss 42 45])
 (.cond (.t 46)
 (.skip)
 (.exit 2)))
 (.seq (.block 3 (vR [vM 52 8, vO 53 (.fldA 4 (.t 1)), vO 54 (.ld none (.t 53)), vM 55 9, vO 56 (.idxA 1 (.t 54) (.t 55)), vO 57 (.ld none (.t 56)), vO 58 (.bsl 1 (.int .i64 0) 1 [(0, (.t 57))]), vO 59 (.app 1 8 (.t 52) (.t 58)), vM 8 59]))
 (vR [vM 47 9, vO 48 (.fldA 2 (.t 1)), vO 49 (.idxP 2 1 (.t 48) (vI 1)), vO 50 (.ld none (.t 49)), vB 51 .add 47 50, vM 9 51]))
def A_fo_PictureL0 : ACode :=
  .seq (vR [vB 39 .lss 38 37])
 (.seq (.cond (.t 39)
 (.skip)
 (.exit 0))
 (.seq (.block 1 (.seq (vR [vM 40 38, vM 7 40])
 (.seq (vR [vO 8 (.mov (.c (.sl .ex [])))])
 (.seq (.seq (vR [vM 41 7, vM 9 41])
 (.block 2 (.loop A_fo_PictureL1)))
 (vR [vM 60 6, vO 61 (.fldA 0 (.t 1)), vO 62 (.ld none (.t 61)), vM 63 8, vO 64 (.call F_fo_stacked [(.t 62), (.t 63), (vI 0)]), vO 65 (.bsl 3 (.agg [.sl .ex [], .int .i64 0, .nilF]) 1 [(0, (.t 64))]), vO 66 (.app 3 40 (.t 60) (.t 65)), vM 6 66])))))
 (vR [vO 67 (.bin .add (.t 38) (vI 1)), vM 38 67])))
def A_fo_PictureL3 : ACode :=
  .seq (vR [vB 77 .lss 76 75])
 (.seq (.cond (.t 77)
 (.skip)
 (.exit 6))
 (.seq (.block 7 (.seq (vR [vO 78 (.idxA 3 (.t 74) (.t 76)), vO 79 (.ld (some 3) (.t 78)), vO 14 (.alloc [.sl .ex [], .int .i64 0, .nilF]), ⟨none, .st 3 (.t 14) (.t 79), none⟩])
 (.region true [vM 80 12, vO 81 (.fldA 2 (.t 14)), vO 82 (.ld none (.t 81)), vO 83 (.fldA 0 (.t 14)), vO 84 (.ld none (.t 83)), vM 85 11, vO 86 (.idxA 1 (.t 84) (.t 85)), vO 87 (.ld none (.t 86)), vO 88 (.fldA 1 (.t 14)), vO 89 (.ld none (.t 88)), vO 90 (.callv (.t 82) [(.t 87), (.t 89)]), vO 91 (.bsl 1 (.str []) 1 [(0, (.t 90))]), vO 92 (.app 1 16 (.t 80) (.t 91)), vM 12 92])))
 (vR [vO 93 (.bin .add (.t 76) (vI 1)), vM 76 93])))
def A_fo_PictureL2 : ACode :=
  .seq (vR [vB 72 .lss 71 70])
 (.seq (.cond (.t 72)
 (.skip)
 (.exit 4))
 (.seq (.block 5 (.seq (vR [vM 73 71, vM 11 73])
 (.seq (vR [vO 12 (.mov (.c (.sl .ex [])))])
 (.seq (.seq (vR [vM 74 6, vO 75 (.len (.t 74)), vO 76 (.mov (vI 0))])
 (.block 6 (.loop A_fo_PictureL3)))
 (vR [vM 94 12, vM 95 5, vO 96 (.call F_st_Join [(.t 94), (.t 95)]), vO 97 (.bin .add (.t 96) (.c (.str [10]))), vO 98 (.call F_sb_WriteString [(.t 10), (.t 97)])])))))
 (vR [vO 99 (.bin .add (.t 71) (vI 1)), vM 71 99])))
def A_fo_Picture : AFun := ⟨101,
  .seq (vR [vO 1 (.box (.t 0)), vO 2 (.mov (.c (.str []))), vO 3 (.mov (vI 0))])
 (.seq (.seq (vR [vO 15 (.ld (some 5) (.t 1)), vO 16 (.call F_ar_Check [(.t 15)]), vM 4 16])
 (.seq (vR [vM 17 4, vO 18 (.bin .neq (.t 17) (vI 0))])
 (.cond (.t 18)
 (.seq (vR [vM 19 4, vO 2 (.mov (.c (.str []))), vM 3 19])
 (.ret))
 (.skip))))
 (.seq (vR [vO 5 (.mov (.c (.str [])))])
 (.seq (.seq (vR [vO 20 (.fldA 0 (.t 1)), vO 21 (.ld none (.t 20)), vO 22 (.bin .eql (.t 21) (vI 1))])
 (.cond (.t 22)
 (vR [vO 5 (.mov (.c (.str [32])))])
 (.skip)))
 (.seq (.seq (vR [vO 23 (.fldA 1 (.t 1)), vO 24 (.ld none (.t 23)), vO 25 (.bin .lss (.t 24) (vI 2))])
 (.cond (.t 25)
 (.seq (vR [vO 26 (.fldA 0 (.t 1)), vO 27 (.ld none (.t 26)), vO 28 (.fldA 4 (.t 1)), vO 29 (.ld none (.t 28)), vO 30 (.call F_fo_stacked [(.t 27), (.t 29), (vI 0)]), vO 31 (.fld 0 none (.t 30)), vM 32 5, vO 33 (.call F_st_Join [(.t 31), (.t 32)]), vO 34 (.bin .add (.t 33) (.c (.str [10]))), vM 2 34, vO 3 (.mov (vI 0))])
 (.ret))
 (.skip)))
 (.seq (vR [vO 6 (.mov (.c (.sl .ex [])))])
 (.seq (.seq (vR [vO 35 (.fldA 2 (.t 1)), vO 36 (.idxP 2 1 (.t 35) (vI 1)), vO 37 (.ld none (.t 36)), vO 38 (.mov (vI 0))])
 (.block 0 (.loop A_fo_PictureL0)))
 (.seq (vR [vO 10 (.allocB 61 5)])
 (.seq (.seq (vR [vO 68 (.fldA 2 (.t 1)), vO 69 (.idxP 2 1 (.t 68) (vI 0)), vO 70 (.ld none (.t 69)), vO 71 (.mov (vI 0))])
 (.block 4 (.loop A_fo_PictureL2)))
 (.seq (vR [vO 100 (.call F_sb_String [(.t 10)]), vM 2 100, vO 3 (.mov (vI 0))])
 (.ret)))))))))),
  [.tmp 2, .tmp 3]⟩
def A_fo_GridL0 : ACode :=
  .seq (vR [vB 29 .lss 28 27])
 (.seq (.cond (.t 29)
 (.skip)
 (.exit 1))
 (.seq (.block 2 (.seq (vR [vM 30 28, vO 31 (.idxA 1 (.t 26) (.t 28)), vO 32 (.ld none (.t 31)), vM 6 30, vM 7 32])
 (.seq (vR [vM 34 7, vO 35 (.call F_fo_row [(.t 34)]), vM 33 35, vE 36 33 0, vE 37 33 1, vM 8 36, vM 9 37])
 (.seq (.block 3 (.seq (vR [vM 39 9, vO 40 (.bin .neq (.t 39) (vI 0)), vM 38 40])
 (.cond (.t 38)
 (.seq (vR [vO 41 (.build [.int .i64 0, .int .i64 0, .int .i64 0, .int .i64 0, .sl .ex []] []), vM 42 6, vO 43 (.bin .add (.t 42) (vI 1)), vM 44 9, ⟨none, .st 5 (.t 2) (.t 41), none⟩, vM 3 43, vM 4 44])
 (.ret))
 (.seq (vR [vM 46 6, vO 47 (.bin .gtr (.t 46) (vI 0)), vM 48 47, ⟨some 49, .mov (.t 8), some (48, true)⟩, ⟨some 50, .len (.t 49), some (48, true)⟩, ⟨some 51, .fldA 2 (.t 2), some (48, true)⟩, ⟨some 52, .idxP 2 1 (.t 51) (vI 1), some (48, true)⟩, ⟨some 53, .ld none (.t 52), some (48, true)⟩, ⟨some 54, .bin .neq (.t 50) (.t 53), some (48, true)⟩, vO 55 (.pick (.t 48) (.t 54) (.c (.bool false))), vM 45 55])
 (.cond (.t 45)
 (.seq (vR [vO 56 (.build [.int .i64 0, .int .i64 0, .int .i64 0, .int .i64 0, .sl .ex []] []), vM 57 6, vO 58 (.bin .add (.t 57) (vI 1)), ⟨none, .st 5 (.t 2) (.t 56), none⟩, vM 3 58, vO 4 (.mov (vI 11))])
 (.ret))
 (.skip))))))
 (.seq (vR [vM 59 6, vO 60 (.bin .add (.t 59) (vI 1)), vM 61 8, vO 62 (.len (.t 61)), vO 63 (.build [.int .i64 0, .int .i64 0] [(0, 1, (.t 60)), (1, 1, (.t 62))]), vO 64 (.fldA 2 (.t 2)), ⟨none, .st 2 (.t 64) (.t 63), none⟩])
 (vR [vO 65 (.fldA 4 (.t 2)), vO 66 (.ld none (.t 65)), vM 67 8, vO 68 (.app 1 8 (.t 66) (.t 67)), vO 69 (.fldA 4 (.t 2)), ⟨none, .st 1 (.t 69) (.t 68), none⟩]))))))
 (vR [vO 70 (.bin .add (.t 28) (vI 1)), vM 28 70])))
def A_fo_Grid : AFun := ⟨77,
  .seq (vR [vO 2 (.alloc [.int .i64 0, .int .i64 0, .int .i64 0, .int .i64 0, .sl .ex []]), vO 3 (.mov (vI 0)), vO 4 (.mov (vI 0))])
 (.seq (vR [vM 11 0, vO 12 (.call F_wo_Lines [(.t 11)]), vM 10 12, vE 13 10 0, vE 14 10 1, vM 5 13, vM 4 14])
 (.seq (.block 0 (.seq (vR [vM 16 4, vO 17 (.bin .neq (.t 16) (vI 0)), vM 15 17])
 (.cond (.t 15)
 (.seq (vR [vO 18 (.build [.int .i64 0, .int .i64 0, .int .i64 0, .int .i64 0, .sl .ex []] []), vM 19 4, ⟨none, .st 5 (.t 2) (.t 18), none⟩, vO 3 (.mov (vI 0)), vM 4 19])
 (.ret))
 (.seq (vR [vM 21 5, vO 22 (.len (.t 21)), vO 23 (.bin .eql (.t 22) (vI 0)), vM 20 23])
 (.cond (.t 20)
 (.seq (vR [vO 24 (.build [.int .i64 0, .int .i64 0, .int .i64 0, .int .i64 0, .sl .ex []] []), ⟨none, .st 5 (.t 2) (.t 24), none⟩, vO 3 (.mov (vI 0)), vO 4 (.mov (vI 6))])
 (.ret))
 (.skip))))))
 (.seq (vR [vO 25 (.build [.int .i64 0, .int .i64 0, .int .i64 0, .int .i64 0, .sl .ex []] [(0, 1, (vI 1)), (1, 1, (vI 2))]), ⟨none, .st 5 (.t 2) (.t 25), none⟩])
 (.seq (.seq (vR [vM 26 5, vO 27 (.len (.t 26)), vO 28 (.mov (vI 0))])
 (.block 1 (.loop A_fo_GridL0)))
 (.seq (.seq (vR [vO 71 (.fldA 4 (.t 2)), vO 72 (.ld none (.t 71)), vO 73 (.len (.t 72)), vO 74 (.bin .gtr (.t 73) (vI 400))])
 (.cond (.t 74)
 (.seq (vR [vO 75 (.build [.int .i64 0, .int .i64 0, .int .i64 0, .int .i64 0, .sl .ex []] []), ⟨none, .st 5 (.t 2) (.t 75), none⟩, vO 3 (.mov (vI 0)), vO 4 (.mov (vI 15))])
 (.ret))
 (.skip)))
 (.seq (vR [vO 76 (.ld (some 5) (.t 2)), ⟨none, .st 5 (.t 2) (.t 76), none⟩, vO 3 (.mov (vI 0)), vO 4 (.mov (vI 0))])
 (.ret))))))),
  [.cell (some 5) 2, .tmp 3, .tmp 4]⟩
def A_ra_SameL0 : ACode :=
  .seq (.seq (vR [vM 19 5, vO 20 (.fldA 4 (.t 2)), vO 21 (.ld none (.t 20)), vO 22 (.len (.t 21)), vB 23 .lss 19 22])
 (.cond (.t 23)
 (.skip)
 (.exit 0)))
 (.seq (.block 1 (.seq (.region true [vO 26 (.fldA 4 (.t 2)), vO 27 (.ld none (.t 26)), vM 28 5, vO 29 (.idxA 1 (.t 27) (.t 28)), vO 30 (.ld none (.t 29)), vO 31 (.fldA 4 (.t 3)), vO 32 (.ld none (.t 31)), vM 33 5, vO 34 (.idxA 1 (.t 32) (.t 33)), vO 35 (.ld none (.t 34)), vB 36 .neq 30 35])
 (.cond (.t 36)
 (.seq (vR [vO 4 (.mov (.c (.bool false)))])
 (.ret))
 (.skip))))
 (vR [vM 24 5, vO 25 (.bin .add (.t 24) (vI 1)), vM 5 25]))
def A_ra_Same : AFun := ⟨37,
  .seq (vR [vO 2 (.box (.t 0)), vO 3 (.box (.t 1)), vO 4 (.mov (.c (.bool false)))])
 (.seq (.seq (vR [vO 6 (.ld (some 5) (.t 2)), vO 7 (.ld (some 5) (.t 3)), vO 8 (.call F_ra_Like [(.t 6), (.t 7)]), vO 9 (.not (.t 8)), vM 10 9, ⟨some 11, .fldA 4 (.t 2), some (10, false)⟩, ⟨some 12, .ld none (.t 11), some (10, false)⟩, ⟨some 13, .len (.t 12), some (10, false)⟩, ⟨some 14, .fldA 4 (.t 3), some (10, false)⟩, ⟨some 15, .ld none (.t 14), some (10, false)⟩, ⟨some 16, .len (.t 15), some (10, false)⟩, ⟨some 17, .bin .neq (.t 13) (.t 16), some (10, false)⟩, vO 18 (.pick (.t 10) (.c (.bool true)) (.t 17))])
 (.cond (.t 18)
 (.seq (vR [vO 4 (.mov (.c (.bool false)))])
 (.ret))
 (.skip)))
 (.seq (.seq (vR [vO 5 (.mov (vI 0))])
 (.block 0 (.loop A_ra_SameL0)))
 (.seq (vR [vO 4 (.mov (.c (.bool true)))])
 (.ret)))),
  [.tmp 4]⟩
def A_fo_TableL0 : ACode :=
  .seq (vR [vB 34 .lss 33 32])
 (.seq (.cond (.t 34)
 (.skip)
 (.exit 0))
 (.seq (.block 1 (.seq (vR [vM 35 33, vO 8 (.alloc [.int .i64 0]), ⟨none, .st 1 (.t 8) (.t 35), none⟩])
 (vR [vM 36 7, vO 37 (.mkf F_fo_Table_4 [] [(.t 8)]), vO 38 (.callv (.t 36) [(.t 37)])])))
 (vR [vO 39 (.bin .add (.t 33) (vI 1)), vM 33 39])))
def A_fo_Table : AFun := ⟨41,
  .seq (vR [vO 1 (.box (.t 0)), vO 2 (.mov (.c (.str []))), vO 3 (.mov (vI 0))])
 (.seq (vR [vO 10 (.ld (some 2) (.t 1)), vO 11 (.call F_fo_drawn [(.t 10)]), vM 9 11, vE 12 9 0, vE 13 9 1, vO 4 (.alloc [.sl .ex []]), ⟨none, .st 1 (.t 4) (.t 12), none⟩, vM 5 13])
 (.seq (.seq (vR [vM 14 5, vO 15 (.bin .neq (.t 14) (vI 0)), vM 16 15, ⟨some 17, .ld none (.t 4), some (16, false)⟩, ⟨some 18, .len (.t 17), some (16, false)⟩, ⟨some 19, .bin .eql (.t 18) (vI 0), some (16, false)⟩, vO 20 (.pick (.t 16) (.c (.bool true)) (.t 19))])
 (.cond (.t 20)
 (.seq (vR [vM 21 5, vO 2 (.mov (.c (.str []))), vM 3 21])
 (.ret))
 (.skip)))
 (.seq (vR [vO 6 (.allocB 61 5)])
 (.seq (vR [vO 22 (.mkf F_fo_Table_1 [] [(.t 4), (.t 6)]), vM 7 22])
 (.seq (vR [vM 23 7, vO 24 (.mkf F_fo_Table_2 [] [(.t 1)]), vO 25 (.callv (.t 23) [(.t 24)])])
 (.seq (vR [vM 26 7, vO 27 (.callv (.t 26) [(.c (.clo F_fo_Table_3 [] []))])])
 (.seq (.seq (vR [vO 28 (.ld none (.t 4)), vO 29 (.idxA 3 (.t 28) (vI 0)), vO 30 (.fldA 0 (.t 29)), vO 31 (.ld none (.t 30)), vO 32 (.len (.t 31)), vO 33 (.mov (vI 0))])
 (.block 0 (.loop A_fo_TableL0)))
 (.seq (vR [vO 40 (.call F_sb_String [(.t 6)]), vM 2 40, vO 3 (.mov (vI 0))])
 (.ret))))))))),
  [.tmp 2, .tmp 3]⟩
def A_fo_ArrayR0a : ACode :=
  vR [vM 7 38]
def A_fo_ArrayR0b : ACode :=
  .block 1 (vR [vO 39 (.fldA 0 (.t 1)), vO 40 (.ld none (.t 39)), vM 41 7, vO 42 (.call F_fo_piece [(.t 40), (.t 41)]), vO 43 (.bin .add (.t 42) (.c (.str [10]))), vO 44 (.call F_sb_WriteString [(.t 5), (.t 43)])])
def A_fo_Array : AFun := ⟨46,
  .seq (vR [vO 1 (.box (.t 0)), vO 2 (.mov (.c (.str []))), vO 3 (.mov (vI 0))])
 (.seq (.seq (vR [vO 8 (.ld (some 5) (.t 1)), vO 9 (.call F_ar_Check [(.t 8)]), vM 4 9])
 (.seq (vR [vM 10 4, vO 11 (.bin .neq (.t 10) (vI 0))])
 (.cond (.t 11)
 (.seq (vR [vM 12 4, vO 2 (.mov (.c (.str []))), vM 3 12])
 (.ret))
 (.skip))))
 (.seq (vR [vO 5 (.allocB 61 5)])
 (.seq (.seq (vR [vO 13 (.fldA 0 (.t 1)), vO 14 (.ld none (.t 13)), vO 15 (.bin .eql (.t 14) (vI 2))])
 (.cond (.t 15)
 (vR [vO 16 (.call F_sb_WriteString [(.t 5), (.c (.str [99, 104, 97, 114, 32]))])])
 (vR [vO 17 (.call F_sb_WriteString [(.t 5), (.c (.str [105, 110, 116, 32]))])])))
 (.seq (vR [vO 18 (.fldA 1 (.t 1)), vO 19 (.ld none (.t 18)), vO 20 (.fldA 2 (.t 1)), vO 21 (.idxP 2 1 (.t 20) (vI 0)), vO 22 (.ld none (.t 21)), vO 23 (.fldA 2 (.t 1)), vO 24 (.idxP 2 1 (.t 23) (vI 1)), vO 25 (.ld none (.t 24)), vO 26 (.bsl 1 (.int .i64 0) 3 [(0, (.t 19)), (1, (.t 22)), (2, (.t 25))]), vM 6 26])
 (.seq (vR [vM 27 6, vO 28 (.fldA 1 (.t 1)), vO 29 (.ld none (.t 28)), vO 30 (.bin .add (.t 29) (vI 1)), vO 31 (.sls 1 (.t 27) none (some (.t 30)) none), vO 32 (.call F_fo_numbers [(.t 31)]), vO 33 (.bin .add (.t 32) (.c (.str [10]))), vO 34 (.call F_sb_WriteString [(.t 5), (.t 33)])])
 (.seq (.seq (vR [vO 35 (.fldA 4 (.t 1)), vO 36 (.ld none (.t 35)), vO 37 (.call F_fo_pieces [(.t 36)])])
 (.block 0 (.rangeF (.t 37) [38] A_fo_ArrayR0a A_fo_ArrayR0b)))
 (.seq (vR [vO 45 (.call F_sb_String [(.t 5)]), vM 2 45, vO 3 (.mov (vI 0))])
 (.ret)))))))),
  [.tmp 2, .tmp 3]⟩
def A_fo_ParseL0 : ACode :=
  .seq (.seq (vR [vM 51 9, vO 52 (.bin .gtr (.t 51) (vI 0))])
 (.cond (.t 52)
 (.skip)
 (.exit 1)))
 (.seq (.block 2 (.seq (.seq (vR [vM 55 3, vM 56 5, vO 57 (.len (.t 56)), vB 58 .eql 55 57])
 (.cond (.t 58)
 (.seq (vR [vM 59 6, vM 60 3, vO 61 (.bin .add (.t 60) (vI 1)), vO 62 (.callv (.t 59) [(.t 61)]), vE 63 62 0, vE 64 62 1, vE 65 62 2, ⟨none, .st 5 (.t 2) (.t 63), none⟩, vM 3 64, vM 4 65])
 (.ret))
 (.skip)))
 (.seq (.region true [vO 67 (.fldA 0 (.t 2)), vO 68 (.ld none (.t 67)), vM 69 5, vM 70 3, vO 71 (.idxA 1 (.t 69) (.t 70)), vO 72 (.ld none (.t 71)), vM 73 9, vO 74 (.mm false (.t 73) (vI 20)), vO 75 (.call F_fo_cells [(.t 68), (.t 72), (.t 74)]), vM 66 75, vE 76 66 0, vE 77 66 1, vM 10 76, vM 11 77])
 (.seq (.seq (vR [vM 78 11, vO 79 (.not (.t 78))])
 (.cond (.t 79)
 (.seq (vR [vM 80 6, vM 81 3, vO 82 (.bin .add (.t 81) (vI 1)), vO 83 (.callv (.t 80) [(.t 82)]), vE 84 83 0, vE 85 83 1, vE 86 83 2, ⟨none, .st 5 (.t 2) (.t 84), none⟩, vM 3 85, vM 4 86])
 (.ret))
 (.skip)))
 (.seq (vR [vO 87 (.fldA 4 (.t 2)), vO 88 (.ld none (.t 87)), vM 89 10, vO 90 (.app 1 8 (.t 88) (.t 89)), vO 91 (.fldA 4 (.t 2)), ⟨none, .st 1 (.t 91) (.t 90), none⟩])
 (vR [vM 92 9, vM 93 10, vO 94 (.len (.t 93)), vB 95 .sub 92 94, vM 9 95]))))))
 (vR [vM 53 3, vO 54 (.bin .add (.t 53) (vI 1)), vM 3 54]))
def A_fo_Parse : AFun := ⟨114,
  .seq (vR [vO 2 (.alloc [.int .i64 0, .int .i64 0, .int .i64 0, .int .i64 0, .sl .ex []]), vO 3 (.mov (vI 0)), vO 4 (.mov (vI 0))])
 (.seq (vR [vM 14 0, vO 15 (.call F_wo_Lines [(.t 14)]), vM 13 15, vE 16 13 0, vE 17 13 1, vM 5 16, vM 4 17])
 (.seq (.seq (vR [vM 18 4, vO 19 (.bin .neq (.t 18) (vI 0))])
 (.cond (.t 19)
 (.seq (vR [vO 20 (.build [.int .i64 0, .int .i64 0, .int .i64 0, .int .i64 0, .sl .ex []] []), vM 21 4, ⟨none, .st 5 (.t 2) (.t 20), none⟩, vO 3 (.mov (vI 0)), vM 4 21])
 (.ret))
 (.skip)))
 (.seq (vR [vO 6 (.mov (.c (.clo F_fo_Parse_1 [] [])))])
 (.seq (.seq (vR [vM 22 5, vO 23 (.len (.t 22)), vO 24 (.bin .eql (.t 23) (vI 0))])
 (.cond (.t 24)
 (.seq (vR [vM 25 6, vO 26 (.callv (.t 25) [(vI 1)]), vE 27 26 0, vE 28 26 1, vE 29 26 2, ⟨none, .st 5 (.t 2) (.t 27), none⟩, vM 3 28, vM 4 29])
 (.ret))
 (.skip)))
 (.seq (vR [vM 31 5, vO 32 (.idxA 1 (.t 31) (vI 0)), vO 33 (.ld none (.t 32)), vO 34 (.call F_fo_begun [(.t 33)]), vM 30 34, vE 35 30 0, vE 36 30 1, vE 37 30 2, ⟨none, .st 5 (.t 2) (.t 35), none⟩, vM 7 36, vM 8 37])
 (.seq (.block 0 (.seq (vR [vM 39 8, vO 40 (.not (.t 39)), vM 38 40])
 (.cond (.t 38)
 (.seq (vR [vM 41 6, vO 42 (.callv (.t 41) [(vI 1)]), vE 43 42 0, vE 44 42 1, vE 45 42 2, ⟨none, .st 5 (.t 2) (.t 43), none⟩, vM 3 44, vM 4 45])
 (.ret))
 (.seq (vR [vM 47 7, vO 48 (.bin .gtr (.t 47) (vI 400)), vM 46 48])
 (.cond (.t 46)
 (.seq (vR [vO 49 (.build [.int .i64 0, .int .i64 0, .int .i64 0, .int .i64 0, .sl .ex []] []), ⟨none, .st 5 (.t 2) (.t 49), none⟩, vO 3 (.mov (vI 1)), vO 4 (.mov (vI 15))])
 (.ret))
 (.skip))))))
 (.seq (vR [vO 3 (.mov (vI 1))])
 (.seq (.seq (vR [vM 50 7, vM 9 50])
 (.block 1 (.loop A_fo_ParseL0)))
 (.seq (.seq (vR [vM 96 3, vM 97 5, vO 98 (.len (.t 97)), vB 99 .lss 96 98])
 (.cond (.t 99)
 (.seq (vR [vM 100 6, vM 101 3, vO 102 (.bin .add (.t 101) (vI 1)), vO 103 (.callv (.t 100) [(.t 102)]), vE 104 103 0, vE 105 103 1, vE 106 103 2, ⟨none, .st 5 (.t 2) (.t 104), none⟩, vM 3 105, vM 4 106])
 (.ret))
 (.skip)))
 (.seq (.seq (vR [vO 107 (.ld (some 5) (.t 2)), vO 108 (.call F_ar_Check [(.t 107)]), vM 12 108])
 (.seq (vR [vM 109 12, vO 110 (.bin .neq (.t 109) (vI 0))])
 (.cond (.t 110)
 (.seq (vR [vO 111 (.build [.int .i64 0, .int .i64 0, .int .i64 0, .int .i64 0, .sl .ex []] []), vM 112 12, ⟨none, .st 5 (.t 2) (.t 111), none⟩, vO 3 (.mov (vI 0)), vM 4 112])
 (.ret))
 (.skip))))
 (.seq (vR [vO 113 (.ld (some 5) (.t 2)), ⟨none, .st 5 (.t 2) (.t 113), none⟩, vO 3 (.mov (vI 0)), vO 4 (.mov (vI 0))])
 (.ret)))))))))))),
  [.cell (some 5) 2, .tmp 3, .tmp 4]⟩
def A_lw_Matrix : AFun := ⟨4,
  .seq (vR [vO 0 (.alloc [.int .i64 0, .int .i64 0, .int .i64 0, .int .i64 0, .sl .ex []])])
 (.seq (vR [vO 1 (.build [.int .i64 0, .int .i64 0] [(0, 1, (vI 2)), (1, 1, (vI 2))]), vO 2 (.bsl 1 (.int .i64 0) 4 [(0, (vI 1)), (1, (vI (-20))), (2, (vI 300)), (3, (vI 4))]), vO 3 (.build [.int .i64 0, .int .i64 0, .int .i64 0, .int .i64 0, .sl .ex []] [(0, 1, (vI 1)), (1, 1, (vI 2)), (2, 2, (.t 1)), (4, 1, (.t 2))]), ⟨none, .st 5 (.t 0) (.t 3), none⟩])
 (.ret)),
  [.cell (some 5) 0]⟩
def A_lw_Marks : AFun := ⟨10,
  .seq (vR [vO 0 (.alloc [.sl .ex [], .sl .ex []])])
 (.seq (vR [vO 1 (.bsl 1 (.str []) 2 [(0, (.c (.str [109, 97, 114, 107]))), (1, (.c (.str [103, 114, 97, 100, 101])))]), vO 2 (.build [.int .i64 0, .int .i64 0] [(0, 1, (vI 2)), (1, 1, (vI 0))]), vO 3 (.bsl 1 (.int .i64 0) 2 [(0, (vI 3)), (1, (vI 12))]), vO 4 (.build [.int .i64 0, .int .i64 0, .int .i64 0, .int .i64 0, .sl .ex []] [(0, 1, (vI 1)), (1, 1, (vI 1)), (2, 2, (.t 2)), (4, 1, (.t 3))]), vO 5 (.build [.int .i64 0, .int .i64 0] [(0, 1, (vI 2)), (1, 1, (vI 0))]), vO 6 (.bsl 1 (.int .i64 0) 2 [(0, (vI 97)), (1, (vI 98))]), vO 7 (.build [.int .i64 0, .int .i64 0, .int .i64 0, .int .i64 0, .sl .ex []] [(0, 1, (vI 2)), (1, 1, (vI 1)), (2, 2, (.t 5)), (4, 1, (.t 6))]), vO 8 (.bsl 5 (.agg [.int .i64 0, .int .i64 0, .int .i64 0, .int .i64 0, .sl .ex []]) 2 [(0, (.t 4)), (1, (.t 7))]), vO 9 (.build [.sl .ex [], .sl .ex []] [(0, 1, (.t 1)), (1, 1, (.t 8))]), ⟨none, .st 2 (.t 0) (.t 9), none⟩])
 (.ret)),
  [.cell (some 2) 0]⟩
def A_ar_Check : AFun := ⟨36,
  .seq (vR [vO 1 (.box (.t 0)), vO 2 (.mov (vI 0))])
 (.seq (.seq (vR [vO 5 (.fldA 0 (.t 1)), vO 6 (.ld none (.t 5)), vO 7 (.bin .neq (.t 6) (vI 1)), vM 8 7, ⟨some 9, .fldA 0 (.t 1), some (8, true)⟩, ⟨some 10, .ld none (.t 9), some (8, true)⟩, ⟨some 11, .bin .neq (.t 10) (vI 2), some (8, true)⟩, vO 12 (.pick (.t 8) (.t 11) (.c (.bool false)))])
 (.cond (.t 12)
 (.seq (vR [vO 2 (.mov (vI 2))])
 (.ret))
 (.skip)))
 (.seq (.seq (vR [vO 14 (.fldA 1 (.t 1)), vO 15 (.ld none (.t 14)), vO 16 (.fldA 2 (.t 1)), vO 17 (.ld (some 2) (.t 16)), vO 18 (.call F_sh_Cells [(.t 15), (.t 17)]), vM 13 18, vE 19 13 0, vE 20 13 1, vM 3 19, vM 4 20])
 (.block 0 (.seq (vR [vM 22 4, vO 23 (.bin .neq (.t 22) (vI 0)), vM 21 23])
 (.cond (.t 21)
 (.seq (vR [vM 24 4, vM 2 24])
 (.ret))
 (.seq (vR [vO 26 (.fldA 4 (.t 1)), vO 27 (.ld none (.t 26)), vO 28 (.len (.t 27)), vM 29 3, vB 30 .neq 28 29, vM 25 30])
 (.cond (.t 25)
 (.seq (vR [vO 2 (.mov (vI 6))])
 (.ret))
 (.seq (vR [vO 32 (.fldA 4 (.t 1)), vO 33 (.ld none (.t 32)), vO 34 (.mkf F_ar_Check_1 [] [(.t 1)]), vO 35 (.call F_sx_ContainsFunc_int64_int64 [(.t 33), (.t 34)]), vM 31 35])
 (.cond (.t 31)
 (.seq (vR [vO 2 (.mov (vI 7))])
 (.ret))
 (.skip)))))))))
 (.seq (vR [vO 2 (.mov (vI 0))])
 (.ret)))),
  [.tmp 2]⟩
def A_fo_stackedL0 : ACode :=
  .seq (vR [vB 19 .lss 18 17])
 (.seq (.cond (.t 19)
 (.skip)
 (.exit 0))
 (.seq (.block 1 (.seq (vR [vO 20 (.idxA 1 (.t 16) (.t 18)), vO 21 (.ld none (.t 20)), vM 9 21])
 (.seq (vR [vM 22 0, vM 23 9, vO 24 (.call F_fo_cell [(.t 22), (.t 23)]), vM 10 24])
 (.region true [vO 25 (.fldA 0 (.t 7)), vO 26 (.ld none (.t 25)), vM 27 10, vO 28 (.bsl 1 (.str []) 1 [(0, (.t 27))]), vO 29 (.app 1 16 (.t 26) (.t 28)), vO 30 (.fldA 1 (.t 7)), vO 31 (.ld none (.t 30)), vM 32 10, vO 33 (.lenS (.t 32)), vO 34 (.mm true (.t 31) (.t 33)), vO 35 (.fldA 0 (.t 7)), ⟨none, .st 1 (.t 35) (.t 29), none⟩, vO 36 (.fldA 1 (.t 7)), ⟨none, .st 1 (.t 36) (.t 34), none⟩]))))
 (vR [vO 37 (.bin .add (.t 18) (vI 1)), vM 18 37])))
def A_fo_stacked : AFun := ⟨39,
  .seq (vR [vO 6 (.alloc [.sl .ex [], .int .i64 0, .nilF])])
 (.seq (vR [vM 11 2, vO 12 (.build [.sl .ex [], .int .i64 0, .nilF] [(1, 1, (.t 11)), (2, 1, (.c (.clo F_fo_left [] [])))]), vO 7 (.alloc [.sl .ex [], .int .i64 0, .nilF]), ⟨none, .st 3 (.t 7) (.t 12), none⟩])
 (.seq (.seq (vR [vM 13 0, vO 14 (.bin .eql (.t 13) (vI 1))])
 (.cond (.t 14)
 (vR [vO 15 (.fldA 2 (.t 7)), ⟨none, .st 1 (.t 15) (.c (.clo F_fo_right [] [])), none⟩])
 (.skip)))
 (.seq (.seq (vR [vM 16 1, vO 17 (.len (.t 16)), vO 18 (.mov (vI 0))])
 (.block 0 (.loop A_fo_stackedL0)))
 (.seq (vR [vO 38 (.ld (some 3) (.t 7)), ⟨none, .st 3 (.t 6) (.t 38), none⟩])
 (.ret))))),
  [.cell (some 3) 6]⟩
def A_wo_Lines : AFun := ⟨26,
  .seq (vR [vO 2 (.mov (.c (.sl .ex []))), vO 3 (.mov (vI 0))])
 (.seq (.block 0 (.seq (vR [vM 6 0, vO 7 (.lenS (.t 6)), vO 8 (.bin .gtr (.t 7) (vI 1048576)), vM 5 8])
 (.cond (.t 5)
 (.seq (vR [vO 2 (.mov (.c (.sl .ex []))), vO 3 (.mov (vI 3))])
 (.ret))
 (.seq (vR [vM 10 0, vO 11 (.bin .eql (.t 10) (.c (.str []))), vM 9 11])
 (.cond (.t 9)
 (.seq (vR [vO 2 (.mov (.c (.sl .ex []))), vO 3 (.mov (vI 0))])
 (.ret))
 (.seq (vR [vM 13 0, vO 14 (.call F_st_HasSuffix [(.t 13), (.c (.str [10]))]), vO 15 (.not (.t 14)), vM 12 15])
 (.cond (.t 12)
 (.seq (vR [vO 2 (.mov (.c (.sl .ex []))), vO 3 (.mov (vI 6))])
 (.ret))
 (.skip))))))))
 (.seq (vR [vM 16 0, vM 17 0, vO 18 (.lenS (.t 17)), vO 19 (.bin .sub (.t 18) (vI 1)), vO 20 (.ssl (.t 16) none (some (.t 19))), vO 21 (.call F_st_Split [(.t 20), (.c (.str [10]))]), vM 4 21])
 (.seq (.seq (vR [vM 22 4, vO 23 (.len (.t 22)), vO 24 (.bin .gtr (.t 23) (vI 5000))])
 (.cond (.t 24)
 (.seq (vR [vO 2 (.mov (.c (.sl .ex []))), vO 3 (.mov (vI 3))])
 (.ret))
 (.skip)))
 (.seq (vR [vM 25 4, vM 2 25, vO 3 (.mov (vI 0))])
 (.ret))))),
  [.tmp 2, .tmp 3]⟩
def A_fo_rowL0 : ACode :=
  .seq (vR [vB 12 .lss 11 10])
 (.seq (.cond (.t 12)
 (.skip)
 (.exit 0))
 (.seq (.block 1 (.seq (vR [vO 13 (.idxA 1 (.t 9) (.t 11)), vO 14 (.ld none (.t 13)), vM 5 14])
 (.seq (vR [vM 16 5, vO 17 (.call F_wo_Int [(.t 16), (vI (-9223372036854775808)), (vI 9223372036854775807)]), vM 15 17, vE 18 15 0, vE 19 15 1, vM 6 18, vM 7 19])
 (.seq (.seq (vR [vM 20 7, vO 21 (.bin .eql (.t 20) (vI 6))])
 (.cond (.t 21)
 (.seq (vR [vM 22 7, vO 2 (.mov (.c (.sl .ex []))), vM 3 22])
 (.ret))
 (.skip)))
 (.seq (.seq (vR [vM 23 7, vO 24 (.bin .neq (.t 23) (vI 0))])
 (.cond (.t 24)
 (vR [vM 25 7, vM 3 25])
 (.skip)))
 (vR [vM 26 2, vM 27 6, vO 28 (.bsl 1 (.int .i64 0) 1 [(0, (.t 27))]), vO 29 (.app 1 8 (.t 26) (.t 28)), vM 2 29]))))))
 (vR [vO 30 (.bin .add (.t 11) (vI 1)), vM 11 30])))
def A_fo_row : AFun := ⟨36,
  .seq (vR [vO 2 (.mov (.c (.sl .ex []))), vO 3 (.mov (vI 0))])
 (.seq (.seq (vR [vM 8 0, vO 9 (.call F_st_FieldsFunc [(.t 8), (.c (.clo F_fo_row_1 [] []))]), vO 10 (.len (.t 9)), vO 11 (.mov (vI 0))])
 (.block 0 (.loop A_fo_rowL0)))
 (.seq (.seq (vR [vM 31 2, vO 32 (.len (.t 31)), vO 33 (.bin .eql (.t 32) (vI 0))])
 (.cond (.t 33)
 (.seq (vR [vO 2 (.mov (.c (.sl .ex []))), vO 3 (.mov (vI 6))])
 (.ret))
 (.skip)))
 (.seq (vR [vM 34 2, vM 35 3, vM 2 34, vM 3 35])
 (.ret)))),
  [.tmp 2, .tmp 3]⟩
section
variable {X : Cx} (hX : X.P = Go.Proofs.Tryz.prog)
include hX
theorem A_lf_Back_ok : compileFun X.P F_lf_Back vH = some A_lf_Back := by rw [hX]; kernel_rfl
theorem A_lw_Far_ok : compileFun X.P F_lw_Far vH = some A_lw_Far := by rw [hX]; kernel_rfl
theorem A_lw_shown_ok : compileFun X.P F_lw_shown vH = some A_lw_shown := by rw [hX]; kernel_rfl
theorem A_fo_Picture_ok : compileFun X.P F_fo_Picture vH = some A_fo_Picture := by rw [hX]; kernel_rfl
theorem A_fo_Grid_ok : compileFun X.P F_fo_Grid vH = some A_fo_Grid := by rw [hX]; kernel_rfl
theorem A_ra_Same_ok : compileFun X.P F_ra_Same vH = some A_ra_Same := by rw [hX]; kernel_rfl
theorem A_fo_Table_ok : compileFun X.P F_fo_Table vH = some A_fo_Table := by rw [hX]; kernel_rfl
theorem A_fo_Array_ok : compileFun X.P F_fo_Array vH = some A_fo_Array := by rw [hX]; kernel_rfl
theorem A_fo_Parse_ok : compileFun X.P F_fo_Parse vH = some A_fo_Parse := by rw [hX]; kernel_rfl
theorem A_lw_Matrix_ok : compileFun X.P F_lw_Matrix vH = some A_lw_Matrix := by rw [hX]; kernel_rfl
theorem A_lw_Marks_ok : compileFun X.P F_lw_Marks vH = some A_lw_Marks := by rw [hX]; kernel_rfl
theorem A_ar_Check_ok : compileFun X.P F_ar_Check vH = some A_ar_Check := by rw [hX]; kernel_rfl
theorem A_fo_stacked_ok : compileFun X.P F_fo_stacked vH = some A_fo_stacked := by rw [hX]; kernel_rfl
theorem A_wo_Lines_ok : compileFun X.P F_wo_Lines vH = some A_wo_Lines := by rw [hX]; kernel_rfl
theorem A_fo_row_ok : compileFun X.P F_fo_row vH = some A_fo_row := by rw [hX]; kernel_rfl
end
end Go.Avm
