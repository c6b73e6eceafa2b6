/- The functions as they have been read. -/
import Derived.Test.YtpkgglpiboeogaaDoorA8
import Derived.Test.YtpkgglpiboeogaaDoorProg
set_option linter.unusedSectionVars false
set_option linter.unusedSimpArgs false
set_option linter.unusedVariables false

/- The functions as they have been read. -/
namespace Go.Avm
open Go
def F_main_main : Nat := 0
def F_gosem_cut : Nat := 1
def F_law14_LexerBack : Nat := 3
def F_law14_LexerPlaces : Nat := 4
def F_law14_LexerBlanks : Nat := 5
def F_law14_LexerJoins : Nat := 6
def F_law14_LexerKnown : Nat := 7
def F_law14_LexerQuotes : Nat := 8
def F_law14_far : Nat := 9
def F_law14_shown : Nat := 10
def F_lexer_Print : Nat := 11
def F_lexer_Line : Nat := 12
def F_ref14_Same : Nat := 13
def F_lexer_Quote : Nat := 14
def F_ref14_Quote : Nat := 15
def F_law14_Example : Nat := 16
def F_lexer_Check : Nat := 17
def F_strings_Builder_WriteByte : Nat := 18
def F_strings_Builder_WriteString : Nat := 19
def F_lexer_written : Nat := 20
def F_strings_Builder_Len : Nat := 21
def F_strings_Builder_String : Nat := 22
def F_lexer_reader_mark : Nat := 23
def F_lexer_reader_class : Nat := 24
def F_lexer_reader_word : Nat := 25
def F_lexer_reader_number : Nat := 26
def F_lexer_reader_text : Nat := 27
def F_utf8_ValidString : Nat := 28
def F_lexer_quoted : Nat := 29
def F_ref14_runes : Nat := 30
def F_ref14_quoted : Nat := 31
def F_lexer_reader_while : Nat := 32
def F_strconv_FormatInt : Nat := 34
def F_strings_HasPrefix : Nat := 35
def F_runes_Class : Nat := 36
def F_strconv_ParseInt : Nat := 37
def F_lexer_escape : Nat := 38
def F_strings_Builder_WriteRune : Nat := 39
def F_ref02_Decode : Nat := 41
def F_ref14_code : Nat := 42
def F_strconv_FormatInt_44 : Nat := 44
def F_stringslite_HasPrefix : Nat := 45
def F_runes_is : Nat := 46
def F_runes_classes : Nat := 47
def F_strings_ContainsRune : Nat := 48
def F_strconv_ParseInt_49 : Nat := 49
def F_strconv_toError : Nat := 50
def F_strings_Cut : Nat := 51
def F_strings_Trim : Nat := 52
def F_utf8_ValidRune : Nat := 53
def F_ref02_stands : Nat := 55
def F_ref02_begins : Nat := 56
def F_strconv_small : Nat := 57
def F_strconv_numDigits : Nat := 58
def F_strconv_formatBase10 : Nat := 59
def F_strconv_formatBits : Nat := 60
def F_strings_IndexRune : Nat := 61
def F_strconv_ParseUint : Nat := 62
def F_stringslite_Cut : Nat := 67
def F_strings_trimLeftByte : Nat := 68
def F_strings_trimRightByte : Nat := 69
def F_strings_makeASCIISet : Nat := 70
def F_strings_trimLeftASCII : Nat := 71
def F_strings_trimRightASCII : Nat := 72
def F_strings_trimLeftUnicode : Nat := 73
def F_strings_trimRightUnicode : Nat := 74
def F_ref02_number : Nat := 76
def F_ref02_Is : Nat := 77
def F_ref02_Encode : Nat := 78
def F_strconv_isPowerOfTwo : Nat := 82
def F_bits_TrailingZeros : Nat := 83
def F_strings_IndexByte : Nat := 84
def F_bytealg_Cutover : Nat := 85
def F_strconv_lower : Nat := 87
def F_strconv_underscoreOK : Nat := 88
def F_stringslite_Index : Nat := 92
def F_strings_asciiSet_contains : Nat := 93
def F_bits_TrailingZeros32 : Nat := 96
def F_bits_TrailingZeros64 : Nat := 97
def F_stringslite_IndexByte : Nat := 98
/- law14_LexerBack -/
def A_law14_LexerBack : AFun := ⟨63,
  .seq (.region false [⟨(some 2), .mov (.c (.bool false)), none⟩])
  (.seq (.seq (.region false [⟨(some 12), .mov (.t 0), none⟩,
    ⟨(some 13), .call F_law14_far [(.t 12)], none⟩])
  (.cond (.t 13)
   (.seq (.region false [⟨(some 14), .call F_law14_shown [], none⟩,
     ⟨(some 2), .mov (.t 14), none⟩])
   (.ret))
   (.skip)))
  (.seq (.region false [⟨(some 16), .mov (.t 0), none⟩,
    ⟨(some 17), .call F_lexer_Print [(.t 16)], none⟩,
    ⟨(some 15), .mov (.t 17), none⟩,
    ⟨(some 18), .extr (.t 15) 0, none⟩,
    ⟨(some 19), .extr (.t 15) 1, none⟩,
    ⟨(some 20), .extr (.t 15) 2, none⟩,
    ⟨(some 3), .mov (.t 18), none⟩,
    ⟨(some 4), .mov (.t 19), none⟩,
    ⟨(some 5), .mov (.t 20), none⟩])
  (.seq (.seq (.region false [⟨(some 21), .mov (.t 5), none⟩,
    ⟨(some 22), .bin .neq (.t 21) (.c (.int .i64 0)), none⟩])
  (.cond (.t 22)
   (.seq (.region false [⟨(some 23), .mov (.t 3), none⟩,
     ⟨(some 24), .bin .eql (.t 23) (.c (.str [])), none⟩,
     ⟨(some 25), .mov (.t 24), none⟩,
     ⟨(some 26), .call F_law14_shown [], some (25, true)⟩,
     ⟨(some 27), .pick (.t 25) (.t 26) (.c (.bool false)), none⟩,
     ⟨(some 2), .mov (.t 27), none⟩])
   (.ret))
   (.skip)))
  (.seq (.region false [⟨(some 29), .mov (.t 3), none⟩,
    ⟨(some 30), .call F_lexer_Line [(.t 29)], none⟩,
    ⟨(some 28), .mov (.t 30), none⟩,
    ⟨(some 31), .extr (.t 28) 0, none⟩,
    ⟨(some 32), .extr (.t 28) 1, none⟩,
    ⟨(some 33), .extr (.t 28) 2, none⟩,
    ⟨(some 6), .mov (.t 31), none⟩,
    ⟨(some 7), .mov (.t 32), none⟩,
    ⟨(some 8), .mov (.t 33), none⟩])
  (.seq (.region false [⟨(some 35), .mov (.t 6), none⟩,
    ⟨(some 36), .call F_lexer_Print [(.t 35)], none⟩,
    ⟨(some 34), .mov (.t 36), none⟩,
    ⟨(some 37), .extr (.t 34) 0, none⟩,
    ⟨(some 38), .extr (.t 34) 1, none⟩,
    ⟨(some 39), .extr (.t 34) 2, none⟩,
    ⟨(some 9), .mov (.t 37), none⟩,
    ⟨(some 10), .mov (.t 38), none⟩,
    ⟨(some 11), .mov (.t 39), none⟩])
  (.seq (.region false [⟨(some 40), .mov (.t 8), none⟩,
    ⟨(some 41), .bin .eql (.t 40) (.c (.int .i64 0)), none⟩,
    ⟨(some 42), .mov (.t 41), none⟩,
    ⟨(some 43), .mov (.t 7), some (42, true)⟩,
    ⟨(some 44), .bin .eql (.t 43) (.c (.int .i64 0)), some (42, true)⟩,
    ⟨(some 45), .pick (.t 42) (.t 44) (.c (.bool false)), none⟩,
    ⟨(some 46), .mov (.t 45), none⟩,
    ⟨(some 47), .mov (.t 6), some (46, true)⟩,
    ⟨(some 48), .mov (.t 0), some (46, true)⟩,
    ⟨(some 49), .call F_ref14_Same [(.t 47), (.t 48), (.c (.bool false))], some (46, true)⟩,
    ⟨(some 50), .pick (.t 46) (.t 49) (.c (.bool false)), none⟩,
    ⟨(some 51), .mov (.t 50), none⟩,
    ⟨(some 52), .mov (.t 11), some (51, true)⟩,
    ⟨(some 53), .bin .eql (.t 52) (.c (.int .i64 0)), some (51, true)⟩,
    ⟨(some 54), .pick (.t 51) (.t 53) (.c (.bool false)), none⟩,
    ⟨(some 55), .mov (.t 54), none⟩,
    ⟨(some 56), .mov (.t 9), some (55, true)⟩,
    ⟨(some 57), .mov (.t 3), some (55, true)⟩,
    ⟨(some 58), .bin .eql (.t 56) (.t 57), some (55, true)⟩,
    ⟨(some 59), .pick (.t 55) (.t 58) (.c (.bool false)), none⟩,
    ⟨(some 60), .mov (.t 59), none⟩,
    ⟨(some 61), .call F_law14_shown [], some (60, true)⟩,
    ⟨(some 62), .pick (.t 60) (.t 61) (.c (.bool false)), none⟩,
    ⟨(some 2), .mov (.t 62), none⟩])
  (.ret))))))),
  [.tmp 2]⟩

/- law14_LexerPlaces -/
def A_law14_LexerPlacesL0 : ACode :=
  .seq (.seq (.region false [⟨(some 40), .mov (.t 7), none⟩,
    ⟨(some 41), .mov (.t 3), none⟩,
    ⟨(some 42), .len (.t 41), none⟩,
    ⟨(some 43), .bin .lss (.t 40) (.t 42), none⟩])
  (.cond (.t 43)
   (.skip)
   (.exit 0)))
  (.seq (.block 1 (.seq (.region false [⟨(some 46), .mov (.t 3), none⟩,
    ⟨(some 47), .mov (.t 7), none⟩,
    ⟨(some 48), .idxA 5 (.t 46) (.t 47), none⟩,
    ⟨(some 49), .ld (some 5) (.t 48), none⟩,
    ⟨(some 8), .alloc [.int .i64 0, .int .i64 0, .int .i64 0, .int .i64 0, .str []], none⟩,
    ⟨none, .st 5 (.t 8) (.t 49), none⟩])
  (.seq (.seq (.region false [⟨(some 50), .fldA 1 (.t 8), none⟩,
    ⟨(some 51), .ld none (.t 50), none⟩,
    ⟨(some 52), .mov (.t 6), none⟩,
    ⟨(some 53), .bin .lss (.t 51) (.t 52), none⟩,
    ⟨(some 54), .mov (.t 53), none⟩,
    ⟨(some 55), .fldA 1 (.t 8), some (54, false)⟩,
    ⟨(some 56), .ld none (.t 55), some (54, false)⟩,
    ⟨(some 57), .fldA 2 (.t 8), some (54, false)⟩,
    ⟨(some 58), .ld none (.t 57), some (54, false)⟩,
    ⟨(some 59), .bin .geq (.t 56) (.t 58), some (54, false)⟩,
    ⟨(some 60), .pick (.t 54) (.c (.bool true)) (.t 59), none⟩,
    ⟨(some 61), .mov (.t 60), none⟩,
    ⟨(some 62), .fldA 2 (.t 8), some (61, false)⟩,
    ⟨(some 63), .ld none (.t 62), some (61, false)⟩,
    ⟨(some 64), .mov (.t 0), some (61, false)⟩,
    ⟨(some 65), .lenS (.t 64), some (61, false)⟩,
    ⟨(some 66), .bin .gtr (.t 63) (.t 65), some (61, false)⟩,
    ⟨(some 67), .pick (.t 61) (.c (.bool true)) (.t 66), none⟩])
  (.cond (.t 67)
   (.seq (.region false [⟨(some 2), .mov (.c (.bool false)), none⟩])
   (.ret))
   (.skip)))
  (.seq (.region false [⟨(some 68), .fldA 2 (.t 8), none⟩,
    ⟨(some 69), .ld none (.t 68), none⟩,
    ⟨(some 6), .mov (.t 69), none⟩])
  (.seq (.region false [⟨(some 71), .mov (.t 0), none⟩,
    ⟨(some 72), .fldA 1 (.t 8), none⟩,
    ⟨(some 73), .ld none (.t 72), none⟩,
    ⟨(some 74), .fldA 2 (.t 8), none⟩,
    ⟨(some 75), .ld none (.t 74), none⟩,
    ⟨(some 76), .ssl (.t 71) (some (.t 73)) (some (.t 75)), none⟩,
    ⟨(some 77), .call F_lexer_Line [(.t 76)], none⟩,
    ⟨(some 70), .mov (.t 77), none⟩,
    ⟨(some 78), .extr (.t 70) 0, none⟩,
    ⟨(some 79), .extr (.t 70) 1, none⟩,
    ⟨(some 80), .extr (.t 70) 2, none⟩,
    ⟨(some 9), .mov (.t 78), none⟩,
    ⟨(some 10), .mov (.t 79), none⟩,
    ⟨(some 11), .mov (.t 80), none⟩])
  (.seq (.region true [⟨(some 81), .mov (.t 11), none⟩,
    ⟨(some 82), .bin .neq (.t 81) (.c (.int .i64 0)), none⟩,
    ⟨(some 83), .mov (.t 82), none⟩,
    ⟨(some 84), .mov (.t 9), some (83, false)⟩,
    ⟨(some 85), .mov (.t 3), some (83, false)⟩,
    ⟨(some 86), .mov (.t 7), some (83, false)⟩,
    ⟨(some 87), .mov (.t 7), some (83, false)⟩,
    ⟨(some 88), .bin .add (.t 87) (.c (.int .i64 1)), some (83, false)⟩,
    ⟨(some 89), .sls 5 (.t 85) (some (.t 86)) (some (.t 88)) none, some (83, false)⟩,
    ⟨(some 90), .call F_ref14_Same [(.t 84), (.t 89), (.c (.bool false))], some (83, false)⟩,
    ⟨(some 91), .not (.t 90), some (83, false)⟩,
    ⟨(some 92), .pick (.t 83) (.c (.bool true)) (.t 91), none⟩,
    ⟨(some 93), .mov (.t 92), none⟩,
    ⟨(some 94), .mov (.t 9), some (93, false)⟩,
    ⟨(some 95), .idxA 5 (.t 94) (.c (.int .i64 0)), some (93, false)⟩,
    ⟨(some 96), .fldA 1 (.t 95), some (93, false)⟩,
    ⟨(some 97), .ld none (.t 96), some (93, false)⟩,
    ⟨(some 98), .bin .neq (.t 97) (.c (.int .i64 0)), some (93, false)⟩,
    ⟨(some 99), .pick (.t 93) (.c (.bool true)) (.t 98), none⟩,
    ⟨(some 100), .mov (.t 99), none⟩,
    ⟨(some 101), .mov (.t 9), some (100, false)⟩,
    ⟨(some 102), .idxA 5 (.t 101) (.c (.int .i64 0)), some (100, false)⟩,
    ⟨(some 103), .fldA 2 (.t 102), some (100, false)⟩,
    ⟨(some 104), .ld none (.t 103), some (100, false)⟩,
    ⟨(some 105), .fldA 2 (.t 8), some (100, false)⟩,
    ⟨(some 106), .ld none (.t 105), some (100, false)⟩,
    ⟨(some 107), .fldA 1 (.t 8), some (100, false)⟩,
    ⟨(some 108), .ld none (.t 107), some (100, false)⟩,
    ⟨(some 109), .bin .sub (.t 106) (.t 108), some (100, false)⟩,
    ⟨(some 110), .bin .neq (.t 104) (.t 109), some (100, false)⟩,
    ⟨(some 111), .pick (.t 100) (.c (.bool true)) (.t 110), none⟩])
  (.cond (.t 111)
   (.seq (.region false [⟨(some 2), .mov (.c (.bool false)), none⟩])
   (.ret))
   (.skip))))))))
  (.region false [⟨(some 44), .mov (.t 7), none⟩,
    ⟨(some 45), .bin .add (.t 44) (.c (.int .i64 1)), none⟩,
    ⟨(some 7), .mov (.t 45), none⟩]))
def A_law14_LexerPlaces : AFun := ⟨117,
  .seq (.region false [⟨(some 2), .mov (.c (.bool false)), none⟩])
  (.seq (.seq (.region false [⟨(some 12), .mov (.t 0), none⟩,
    ⟨(some 13), .lenS (.t 12), none⟩,
    ⟨(some 14), .bin .gtr (.t 13) (.c (.int .i64 300)), none⟩])
  (.cond (.t 14)
   (.seq (.region false [⟨(some 15), .call F_law14_shown [], none⟩,
     ⟨(some 2), .mov (.t 15), none⟩])
   (.ret))
   (.skip)))
  (.seq (.region false [⟨(some 17), .mov (.t 0), none⟩,
    ⟨(some 18), .call F_lexer_Line [(.t 17)], none⟩,
    ⟨(some 16), .mov (.t 18), none⟩,
    ⟨(some 19), .extr (.t 16) 0, none⟩,
    ⟨(some 20), .extr (.t 16) 1, none⟩,
    ⟨(some 21), .extr (.t 16) 2, none⟩,
    ⟨(some 3), .mov (.t 19), none⟩,
    ⟨(some 4), .mov (.t 20), none⟩,
    ⟨(some 5), .mov (.t 21), none⟩])
  (.seq (.seq (.region false [⟨(some 22), .mov (.t 5), none⟩,
    ⟨(some 23), .bin .neq (.t 22) (.c (.int .i64 0)), none⟩])
  (.cond (.t 23)
   (.seq (.region false [⟨(some 24), .mov (.t 3), none⟩,
     ⟨(some 25), .len (.t 24), none⟩,
     ⟨(some 26), .bin .eql (.t 25) (.c (.int .i64 0)), none⟩,
     ⟨(some 27), .mov (.t 26), none⟩,
     ⟨(some 28), .mov (.t 4), some (27, true)⟩,
     ⟨(some 29), .bin .geq (.t 28) (.c (.int .i64 0)), some (27, true)⟩,
     ⟨(some 30), .pick (.t 27) (.t 29) (.c (.bool false)), none⟩,
     ⟨(some 31), .mov (.t 30), none⟩,
     ⟨(some 32), .mov (.t 4), some (31, true)⟩,
     ⟨(some 33), .mov (.t 0), some (31, true)⟩,
     ⟨(some 34), .lenS (.t 33), some (31, true)⟩,
     ⟨(some 35), .bin .leq (.t 32) (.t 34), some (31, true)⟩,
     ⟨(some 36), .pick (.t 31) (.t 35) (.c (.bool false)), none⟩,
     ⟨(some 37), .mov (.t 36), none⟩,
     ⟨(some 38), .call F_law14_shown [], some (37, true)⟩,
     ⟨(some 39), .pick (.t 37) (.t 38) (.c (.bool false)), none⟩,
     ⟨(some 2), .mov (.t 39), none⟩])
   (.ret))
   (.skip)))
  (.seq (.region false [⟨(some 6), .mov (.c (.int .i64 0)), none⟩])
  (.seq (.seq (.region false [⟨(some 7), .mov (.c (.int .i64 0)), none⟩])
  (.block 0 (.loop A_law14_LexerPlacesL0)))
  (.seq (.region false [⟨(some 112), .mov (.t 4), none⟩,
    ⟨(some 113), .bin .eql (.t 112) (.c (.int .i64 0)), none⟩,
    ⟨(some 114), .mov (.t 113), none⟩,
    ⟨(some 115), .call F_law14_shown [], some (114, true)⟩,
    ⟨(some 116), .pick (.t 114) (.t 115) (.c (.bool false)), none⟩,
    ⟨(some 2), .mov (.t 116), none⟩])
  (.ret))))))),
  [.tmp 2]⟩

/- law14_LexerBlanks -/
def A_law14_LexerBlanksL0 : ACode :=
  .seq (.seq (.region false [⟨(some 80), .mov (.t 16), none⟩,
    ⟨(some 81), .mov (.t 7), none⟩,
    ⟨(some 82), .len (.t 81), none⟩,
    ⟨(some 83), .bin .lss (.t 80) (.t 82), none⟩])
  (.cond (.t 83)
   (.skip)
   (.exit 0)))
  (.seq (.block 1 (.seq (.region false [⟨(some 17), .mov (.c (.int .i64 0)), none⟩])
  (.seq (.seq (.region false [⟨(some 86), .mov (.t 16), none⟩,
    ⟨(some 87), .mov (.t 12), none⟩,
    ⟨(some 88), .bin .geq (.t 86) (.t 87), none⟩])
  (.cond (.t 88)
   (.region false [⟨(some 89), .mov (.t 10), none⟩,
     ⟨(some 90), .lenS (.t 89), none⟩,
     ⟨(some 17), .mov (.t 90), none⟩])
   (.skip)))
  (.seq (.region true [⟨(some 91), .mov (.t 13), none⟩,
    ⟨(some 92), .mov (.t 16), none⟩,
    ⟨(some 93), .idxA 5 (.t 91) (.t 92), none⟩,
    ⟨(some 94), .fldA 1 (.t 93), none⟩,
    ⟨(some 95), .ld none (.t 94), none⟩,
    ⟨(some 96), .mov (.t 7), none⟩,
    ⟨(some 97), .mov (.t 16), none⟩,
    ⟨(some 98), .idxA 5 (.t 96) (.t 97), none⟩,
    ⟨(some 99), .fldA 1 (.t 98), none⟩,
    ⟨(some 100), .ld none (.t 99), none⟩,
    ⟨(some 101), .mov (.t 17), none⟩,
    ⟨(some 102), .bin .add (.t 100) (.t 101), none⟩,
    ⟨(some 103), .bin .neq (.t 95) (.t 102), none⟩,
    ⟨(some 104), .mov (.t 103), none⟩,
    ⟨(some 105), .mov (.t 13), some (104, false)⟩,
    ⟨(some 106), .mov (.t 16), some (104, false)⟩,
    ⟨(some 107), .idxA 5 (.t 105) (.t 106), some (104, false)⟩,
    ⟨(some 108), .fldA 2 (.t 107), some (104, false)⟩,
    ⟨(some 109), .ld none (.t 108), some (104, false)⟩,
    ⟨(some 110), .mov (.t 7), some (104, false)⟩,
    ⟨(some 111), .mov (.t 16), some (104, false)⟩,
    ⟨(some 112), .idxA 5 (.t 110) (.t 111), some (104, false)⟩,
    ⟨(some 113), .fldA 2 (.t 112), some (104, false)⟩,
    ⟨(some 114), .ld none (.t 113), some (104, false)⟩,
    ⟨(some 115), .mov (.t 17), some (104, false)⟩,
    ⟨(some 116), .bin .add (.t 114) (.t 115), some (104, false)⟩,
    ⟨(some 117), .bin .neq (.t 109) (.t 116), some (104, false)⟩,
    ⟨(some 118), .pick (.t 104) (.c (.bool true)) (.t 117), none⟩])
  (.cond (.t 118)
   (.seq (.region false [⟨(some 6), .mov (.c (.bool false)), none⟩])
   (.ret))
   (.skip))))))
  (.region false [⟨(some 84), .mov (.t 16), none⟩,
    ⟨(some 85), .bin .add (.t 84) (.c (.int .i64 1)), none⟩,
    ⟨(some 16), .mov (.t 85), none⟩]))
def A_law14_LexerBlanks : AFun := ⟨120,
  .seq (.region false [⟨(some 6), .mov (.c (.bool false)), none⟩])
  (.seq (.seq (.region false [⟨(some 18), .mov (.t 0), none⟩,
    ⟨(some 19), .lenS (.t 18), none⟩,
    ⟨(some 20), .bin .gtr (.t 19) (.c (.int .i64 300)), none⟩])
  (.cond (.t 20)
   (.seq (.region false [⟨(some 21), .call F_law14_shown [], none⟩,
     ⟨(some 6), .mov (.t 21), none⟩])
   (.ret))
   (.skip)))
  (.seq (.region false [⟨(some 23), .mov (.t 0), none⟩,
    ⟨(some 24), .call F_lexer_Line [(.t 23)], none⟩,
    ⟨(some 22), .mov (.t 24), none⟩,
    ⟨(some 25), .extr (.t 22) 0, none⟩,
    ⟨(some 26), .extr (.t 22) 1, none⟩,
    ⟨(some 27), .extr (.t 22) 2, none⟩,
    ⟨(some 7), .mov (.t 25), none⟩,
    ⟨(some 8), .mov (.t 26), none⟩,
    ⟨(some 9), .mov (.t 27), none⟩])
  (.seq (.seq (.region false [⟨(some 28), .mov (.t 9), none⟩,
    ⟨(some 29), .bin .neq (.t 28) (.c (.int .i64 0)), none⟩])
  (.cond (.t 29)
   (.seq (.region false [⟨(some 30), .call F_law14_shown [], none⟩,
     ⟨(some 6), .mov (.t 30), none⟩])
   (.ret))
   (.skip)))
  (.seq (.region false [⟨(some 31), .mov (.t 1), none⟩,
    ⟨(some 32), .bin .rem (.t 31) (.c (.int .u8 5)), none⟩,
    ⟨(some 33), .ssl (.c (.str [32, 32, 32, 32, 32])) none (some (.t 32)), none⟩,
    ⟨(some 10), .mov (.t 33), none⟩])
  (.seq (.region false [⟨(some 11), .mov (.c (.int .i64 0)), none⟩])
  (.seq (.region false [⟨(some 34), .mov (.t 2), none⟩,
    ⟨(some 35), .conv .i64 (.t 34), none⟩,
    ⟨(some 36), .mov (.t 7), none⟩,
    ⟨(some 37), .len (.t 36), none⟩,
    ⟨(some 38), .bin .add (.t 37) (.c (.int .i64 1)), none⟩,
    ⟨(some 39), .bin .rem (.t 35) (.t 38), none⟩,
    ⟨(some 12), .mov (.t 39), none⟩])
  (.seq (.seq (.region false [⟨(some 40), .mov (.t 12), none⟩,
    ⟨(some 41), .bin .gtr (.t 40) (.c (.int .i64 0)), none⟩])
  (.cond (.t 41)
   (.region false [⟨(some 42), .mov (.t 7), none⟩,
     ⟨(some 43), .mov (.t 12), none⟩,
     ⟨(some 44), .bin .sub (.t 43) (.c (.int .i64 1)), none⟩,
     ⟨(some 45), .idxA 5 (.t 42) (.t 44), none⟩,
     ⟨(some 46), .fldA 2 (.t 45), none⟩,
     ⟨(some 47), .ld none (.t 46), none⟩,
     ⟨(some 11), .mov (.t 47), none⟩])
   (.skip)))
  (.seq (.seq (.region false [⟨(some 48), .mov (.t 11), none⟩,
    ⟨(some 49), .bin .lss (.t 48) (.c (.int .i64 0)), none⟩,
    ⟨(some 50), .mov (.t 49), none⟩,
    ⟨(some 51), .mov (.t 11), some (50, false)⟩,
    ⟨(some 52), .mov (.t 0), some (50, false)⟩,
    ⟨(some 53), .lenS (.t 52), some (50, false)⟩,
    ⟨(some 54), .bin .gtr (.t 51) (.t 53), some (50, false)⟩,
    ⟨(some 55), .pick (.t 50) (.c (.bool true)) (.t 54), none⟩])
  (.cond (.t 55)
   (.seq (.region false [⟨(some 6), .mov (.c (.bool false)), none⟩])
   (.ret))
   (.skip)))
  (.seq (.region true [⟨(some 57), .mov (.t 0), none⟩,
    ⟨(some 58), .mov (.t 11), none⟩,
    ⟨(some 59), .ssl (.t 57) none (some (.t 58)), none⟩,
    ⟨(some 60), .mov (.t 10), none⟩,
    ⟨(some 61), .bin .add (.t 59) (.t 60), none⟩,
    ⟨(some 62), .mov (.t 0), none⟩,
    ⟨(some 63), .mov (.t 11), none⟩,
    ⟨(some 64), .ssl (.t 62) (some (.t 63)) none, none⟩,
    ⟨(some 65), .bin .add (.t 61) (.t 64), none⟩,
    ⟨(some 66), .mov (.t 10), none⟩,
    ⟨(some 67), .bin .add (.t 65) (.t 66), none⟩,
    ⟨(some 68), .call F_lexer_Line [(.t 67)], none⟩,
    ⟨(some 56), .mov (.t 68), none⟩,
    ⟨(some 69), .extr (.t 56) 0, none⟩,
    ⟨(some 70), .extr (.t 56) 1, none⟩,
    ⟨(some 71), .extr (.t 56) 2, none⟩,
    ⟨(some 13), .mov (.t 69), none⟩,
    ⟨(some 14), .mov (.t 70), none⟩,
    ⟨(some 15), .mov (.t 71), none⟩])
  (.seq (.seq (.region false [⟨(some 72), .mov (.t 15), none⟩,
    ⟨(some 73), .bin .neq (.t 72) (.c (.int .i64 0)), none⟩,
    ⟨(some 74), .mov (.t 73), none⟩,
    ⟨(some 75), .mov (.t 13), some (74, false)⟩,
    ⟨(some 76), .mov (.t 7), some (74, false)⟩,
    ⟨(some 77), .call F_ref14_Same [(.t 75), (.t 76), (.c (.bool false))], some (74, false)⟩,
    ⟨(some 78), .not (.t 77), some (74, false)⟩,
    ⟨(some 79), .pick (.t 74) (.c (.bool true)) (.t 78), none⟩])
  (.cond (.t 79)
   (.seq (.region false [⟨(some 6), .mov (.c (.bool false)), none⟩])
   (.ret))
   (.skip)))
  (.seq (.seq (.region false [⟨(some 16), .mov (.c (.int .i64 0)), none⟩])
  (.block 0 (.loop A_law14_LexerBlanksL0)))
  (.seq (.region false [⟨(some 119), .call F_law14_shown [], none⟩,
    ⟨(some 6), .mov (.t 119), none⟩])
  (.ret))))))))))))),
  [.tmp 6]⟩

/- law14_LexerJoins -/
def A_law14_LexerJoinsL0 : ACode :=
  .seq (.seq (.region false [⟨(some 95), .mov (.t 14), none⟩,
    ⟨(some 96), .mov (.t 8), none⟩,
    ⟨(some 97), .len (.t 96), none⟩,
    ⟨(some 98), .bin .lss (.t 95) (.t 97), none⟩])
  (.cond (.t 98)
   (.skip)
   (.exit 0)))
  (.seq (.block 1 (.seq (.region true [⟨(some 101), .mov (.t 11), none⟩,
    ⟨(some 102), .mov (.t 5), none⟩,
    ⟨(some 103), .len (.t 102), none⟩,
    ⟨(some 104), .mov (.t 14), none⟩,
    ⟨(some 105), .bin .add (.t 103) (.t 104), none⟩,
    ⟨(some 106), .idxA 5 (.t 101) (.t 105), none⟩,
    ⟨(some 107), .fldA 1 (.t 106), none⟩,
    ⟨(some 108), .ld none (.t 107), none⟩,
    ⟨(some 109), .mov (.t 8), none⟩,
    ⟨(some 110), .mov (.t 14), none⟩,
    ⟨(some 111), .idxA 5 (.t 109) (.t 110), none⟩,
    ⟨(some 112), .fldA 1 (.t 111), none⟩,
    ⟨(some 113), .ld none (.t 112), none⟩,
    ⟨(some 114), .mov (.t 0), none⟩,
    ⟨(some 115), .lenS (.t 114), none⟩,
    ⟨(some 116), .bin .add (.t 113) (.t 115), none⟩,
    ⟨(some 117), .bin .add (.t 116) (.c (.int .i64 1)), none⟩,
    ⟨(some 118), .bin .neq (.t 108) (.t 117), none⟩,
    ⟨(some 119), .mov (.t 118), none⟩,
    ⟨(some 120), .mov (.t 11), some (119, false)⟩,
    ⟨(some 121), .mov (.t 5), some (119, false)⟩,
    ⟨(some 122), .len (.t 121), some (119, false)⟩,
    ⟨(some 123), .mov (.t 14), some (119, false)⟩,
    ⟨(some 124), .bin .add (.t 122) (.t 123), some (119, false)⟩,
    ⟨(some 125), .idxA 5 (.t 120) (.t 124), some (119, false)⟩,
    ⟨(some 126), .fldA 2 (.t 125), some (119, false)⟩,
    ⟨(some 127), .ld none (.t 126), some (119, false)⟩,
    ⟨(some 128), .mov (.t 8), some (119, false)⟩,
    ⟨(some 129), .mov (.t 14), some (119, false)⟩,
    ⟨(some 130), .idxA 5 (.t 128) (.t 129), some (119, false)⟩,
    ⟨(some 131), .fldA 2 (.t 130), some (119, false)⟩,
    ⟨(some 132), .ld none (.t 131), some (119, false)⟩,
    ⟨(some 133), .mov (.t 0), some (119, false)⟩,
    ⟨(some 134), .lenS (.t 133), some (119, false)⟩,
    ⟨(some 135), .bin .add (.t 132) (.t 134), some (119, false)⟩,
    ⟨(some 136), .bin .add (.t 135) (.c (.int .i64 1)), some (119, false)⟩,
    ⟨(some 137), .bin .neq (.t 127) (.t 136), some (119, false)⟩,
    ⟨(some 138), .pick (.t 119) (.c (.bool true)) (.t 137), none⟩])
  (.cond (.t 138)
   (.seq (.region false [⟨(some 4), .mov (.c (.bool false)), none⟩])
   (.ret))
   (.skip))))
  (.region false [⟨(some 99), .mov (.t 14), none⟩,
    ⟨(some 100), .bin .add (.t 99) (.c (.int .i64 1)), none⟩,
    ⟨(some 14), .mov (.t 100), none⟩]))
def A_law14_LexerJoins : AFun := ⟨140,
  .seq (.region false [⟨(some 4), .mov (.c (.bool false)), none⟩])
  (.seq (.seq (.region false [⟨(some 15), .mov (.t 0), none⟩,
    ⟨(some 16), .lenS (.t 15), none⟩,
    ⟨(some 17), .bin .gtr (.t 16) (.c (.int .i64 300)), none⟩,
    ⟨(some 18), .mov (.t 17), none⟩,
    ⟨(some 19), .mov (.t 1), some (18, false)⟩,
    ⟨(some 20), .lenS (.t 19), some (18, false)⟩,
    ⟨(some 21), .bin .gtr (.t 20) (.c (.int .i64 300)), some (18, false)⟩,
    ⟨(some 22), .pick (.t 18) (.c (.bool true)) (.t 21), none⟩])
  (.cond (.t 22)
   (.seq (.region false [⟨(some 23), .call F_law14_shown [], none⟩,
     ⟨(some 4), .mov (.t 23), none⟩])
   (.ret))
   (.skip)))
  (.seq (.region false [⟨(some 25), .mov (.t 0), none⟩,
    ⟨(some 26), .call F_lexer_Line [(.t 25)], none⟩,
    ⟨(some 24), .mov (.t 26), none⟩,
    ⟨(some 27), .extr (.t 24) 0, none⟩,
    ⟨(some 28), .extr (.t 24) 1, none⟩,
    ⟨(some 29), .extr (.t 24) 2, none⟩,
    ⟨(some 5), .mov (.t 27), none⟩,
    ⟨(some 6), .mov (.t 28), none⟩,
    ⟨(some 7), .mov (.t 29), none⟩])
  (.seq (.region false [⟨(some 31), .mov (.t 1), none⟩,
    ⟨(some 32), .call F_lexer_Line [(.t 31)], none⟩,
    ⟨(some 30), .mov (.t 32), none⟩,
    ⟨(some 33), .extr (.t 30) 0, none⟩,
    ⟨(some 34), .extr (.t 30) 1, none⟩,
    ⟨(some 35), .extr (.t 30) 2, none⟩,
    ⟨(some 8), .mov (.t 33), none⟩,
    ⟨(some 9), .mov (.t 34), none⟩,
    ⟨(some 10), .mov (.t 35), none⟩])
  (.seq (.region false [⟨(some 37), .mov (.t 0), none⟩,
    ⟨(some 38), .bin .add (.t 37) (.c (.str [32])), none⟩,
    ⟨(some 39), .mov (.t 1), none⟩,
    ⟨(some 40), .bin .add (.t 38) (.t 39), none⟩,
    ⟨(some 41), .call F_lexer_Line [(.t 40)], none⟩,
    ⟨(some 36), .mov (.t 41), none⟩,
    ⟨(some 42), .extr (.t 36) 0, none⟩,
    ⟨(some 43), .extr (.t 36) 1, none⟩,
    ⟨(some 44), .extr (.t 36) 2, none⟩,
    ⟨(some 11), .mov (.t 42), none⟩,
    ⟨(some 12), .mov (.t 43), none⟩,
    ⟨(some 13), .mov (.t 44), none⟩])
  (.seq (.seq (.region false [⟨(some 45), .mov (.t 7), none⟩,
    ⟨(some 46), .bin .neq (.t 45) (.c (.int .i64 0)), none⟩])
  (.cond (.t 46)
   (.seq (.region false [⟨(some 47), .call F_law14_shown [], none⟩,
     ⟨(some 4), .mov (.t 47), none⟩])
   (.ret))
   (.skip)))
  (.seq (.seq (.region false [⟨(some 48), .mov (.t 10), none⟩,
    ⟨(some 49), .bin .neq (.t 48) (.c (.int .i64 0)), none⟩])
  (.cond (.t 49)
   (.seq (.region false [⟨(some 50), .mov (.t 13), none⟩,
     ⟨(some 51), .bin .neq (.t 50) (.c (.int .i64 0)), none⟩,
     ⟨(some 52), .mov (.t 51), none⟩,
     ⟨(some 53), .mov (.t 12), some (52, true)⟩,
     ⟨(some 54), .mov (.t 0), some (52, true)⟩,
     ⟨(some 55), .lenS (.t 54), some (52, true)⟩,
     ⟨(some 56), .bin .gtr (.t 53) (.t 55), some (52, true)⟩,
     ⟨(some 57), .pick (.t 52) (.t 56) (.c (.bool false)), none⟩,
     ⟨(some 58), .mov (.t 57), none⟩,
     ⟨(some 59), .call F_law14_shown [], some (58, true)⟩,
     ⟨(some 60), .pick (.t 58) (.t 59) (.c (.bool false)), none⟩,
     ⟨(some 4), .mov (.t 60), none⟩])
   (.ret))
   (.skip)))
  (.seq (.seq (.region false [⟨(some 61), .mov (.t 13), none⟩,
    ⟨(some 62), .bin .neq (.t 61) (.c (.int .i64 0)), none⟩,
    ⟨(some 63), .mov (.t 62), none⟩,
    ⟨(some 64), .mov (.t 12), some (63, false)⟩,
    ⟨(some 65), .bin .neq (.t 64) (.c (.int .i64 0)), some (63, false)⟩,
    ⟨(some 66), .pick (.t 63) (.c (.bool true)) (.t 65), none⟩,
    ⟨(some 67), .mov (.t 66), none⟩,
    ⟨(some 68), .mov (.t 11), some (67, false)⟩,
    ⟨(some 69), .len (.t 68), some (67, false)⟩,
    ⟨(some 70), .mov (.t 5), some (67, false)⟩,
    ⟨(some 71), .len (.t 70), some (67, false)⟩,
    ⟨(some 72), .mov (.t 8), some (67, false)⟩,
    ⟨(some 73), .len (.t 72), some (67, false)⟩,
    ⟨(some 74), .bin .add (.t 71) (.t 73), some (67, false)⟩,
    ⟨(some 75), .bin .neq (.t 69) (.t 74), some (67, false)⟩,
    ⟨(some 76), .pick (.t 67) (.c (.bool true)) (.t 75), none⟩,
    ⟨(some 77), .mov (.t 76), none⟩,
    ⟨(some 78), .mov (.t 11), some (77, false)⟩,
    ⟨(some 79), .mov (.t 5), some (77, false)⟩,
    ⟨(some 80), .len (.t 79), some (77, false)⟩,
    ⟨(some 81), .sls 5 (.t 78) none (some (.t 80)) none, some (77, false)⟩,
    ⟨(some 82), .mov (.t 5), some (77, false)⟩,
    ⟨(some 83), .call F_ref14_Same [(.t 81), (.t 82), (.c (.bool true))], some (77, false)⟩,
    ⟨(some 84), .not (.t 83), some (77, false)⟩,
    ⟨(some 85), .pick (.t 77) (.c (.bool true)) (.t 84), none⟩,
    ⟨(some 86), .mov (.t 85), none⟩,
    ⟨(some 87), .mov (.t 11), some (86, false)⟩,
    ⟨(some 88), .mov (.t 5), some (86, false)⟩,
    ⟨(some 89), .len (.t 88), some (86, false)⟩,
    ⟨(some 90), .sls 5 (.t 87) (some (.t 89)) none none, some (86, false)⟩,
    ⟨(some 91), .mov (.t 8), some (86, false)⟩,
    ⟨(some 92), .call F_ref14_Same [(.t 90), (.t 91), (.c (.bool false))], some (86, false)⟩,
    ⟨(some 93), .not (.t 92), some (86, false)⟩,
    ⟨(some 94), .pick (.t 86) (.c (.bool true)) (.t 93), none⟩])
  (.cond (.t 94)
   (.seq (.region false [⟨(some 4), .mov (.c (.bool false)), none⟩])
   (.ret))
   (.skip)))
  (.seq (.seq (.region false [⟨(some 14), .mov (.c (.int .i64 0)), none⟩])
  (.block 0 (.loop A_law14_LexerJoinsL0)))
  (.seq (.region false [⟨(some 139), .call F_law14_shown [], none⟩,
    ⟨(some 4), .mov (.t 139), none⟩])
  (.ret)))))))))),
  [.tmp 4]⟩

/- law14_LexerKnown -/
def A_law14_LexerKnownL0 : ACode :=
  .seq (.seq (.region false [⟨(some 20), .mov (.t 4), none⟩,
    ⟨(some 21), .bin .lss (.t 20) (.c (.int .i64 9)), none⟩])
  (.cond (.t 21)
   (.skip)
   (.exit 0)))
  (.seq (.block 1 (.seq (.region false [⟨(some 25), .mov (.t 4), none⟩,
    ⟨(some 26), .idxP 9 1 (.t 1) (.t 25), none⟩,
    ⟨(some 27), .ld none (.t 26), none⟩,
    ⟨(some 28), .call F_lexer_Line [(.t 27)], none⟩,
    ⟨(some 24), .mov (.t 28), none⟩,
    ⟨(some 29), .extr (.t 24) 0, none⟩,
    ⟨(some 30), .extr (.t 24) 1, none⟩,
    ⟨(some 31), .extr (.t 24) 2, none⟩,
    ⟨(some 5), .mov (.t 29), none⟩,
    ⟨(some 6), .mov (.t 30), none⟩,
    ⟨(some 7), .mov (.t 31), none⟩])
  (.seq (.region false [⟨(some 32), .mov (.t 5), none⟩,
    ⟨(some 33), .len (.t 32), none⟩,
    ⟨(some 34), .bin .neq (.t 33) (.c (.int .i64 0)), none⟩,
    ⟨(some 35), .mov (.t 34), none⟩,
    ⟨(some 36), .mov (.t 6), some (35, false)⟩,
    ⟨(some 37), .mov (.t 4), some (35, false)⟩,
    ⟨(some 38), .idxP 9 1 (.t 2) (.t 37), some (35, false)⟩,
    ⟨(some 39), .ld none (.t 38), some (35, false)⟩,
    ⟨(some 40), .bin .neq (.t 36) (.t 39), some (35, false)⟩,
    ⟨(some 41), .pick (.t 35) (.c (.bool true)) (.t 40), none⟩,
    ⟨(some 42), .mov (.t 41), none⟩,
    ⟨(some 43), .mov (.t 7), some (42, false)⟩,
    ⟨(some 44), .mov (.t 4), some (42, false)⟩,
    ⟨(some 45), .idxP 9 1 (.t 3) (.t 44), some (42, false)⟩,
    ⟨(some 46), .ld none (.t 45), some (42, false)⟩,
    ⟨(some 47), .bin .neq (.t 43) (.t 46), some (42, false)⟩,
    ⟨(some 48), .pick (.t 42) (.c (.bool true)) (.t 47), none⟩])
  (.cond (.t 48)
   (.seq (.region false [⟨(some 0), .mov (.c (.bool false)), none⟩])
   (.ret))
   (.skip)))))
  (.region false [⟨(some 22), .mov (.t 4), none⟩,
    ⟨(some 23), .bin .add (.t 22) (.c (.int .i64 1)), none⟩,
    ⟨(some 4), .mov (.t 23), none⟩]))
def A_law14_LexerKnown : AFun := ⟨92,
  .seq (.region false [⟨(some 0), .mov (.c (.bool false)), none⟩])
  (.seq (.region false [⟨(some 17), .build [.str [], .str [], .str [], .str [], .str [], .str [], .str [], .str [], .str []] [(0, 1, (.c (.str [120, 32, 60, 32, 53]))), (1, 1, (.c (.str [45]))), (2, 1, (.c (.str [53, 120]))), (3, 1, (.c (.str [65]))), (4, 1, (.c (.str [57, 50, 50, 51, 51, 55, 50, 48, 51, 54, 56, 53, 52, 55, 55, 53, 56, 48, 56]))), (5, 1, (.c (.str [34, 97]))), (6, 1, (.c (.str [34, 92, 113, 34]))), (7, 1, (.c (.str [34, 92, 117, 49, 49, 48, 48, 48, 48, 59, 34]))), (8, 1, (.c (.str [97, 98, 99, 100, 101, 102, 103, 104, 105, 106, 107, 108, 109, 110, 111, 112, 113])))], none⟩,
    ⟨(some 1), .alloc [.str [], .str [], .str [], .str [], .str [], .str [], .str [], .str [], .str []], none⟩,
    ⟨none, .st 9 (.t 1) (.t 17), none⟩])
  (.seq (.region false [⟨(some 18), .build [.int .i64 0, .int .i64 0, .int .i64 0, .int .i64 0, .int .i64 0, .int .i64 0, .int .i64 0, .int .i64 0, .int .i64 0] [(0, 1, (.c (.int .i64 2))), (1, 1, (.c (.int .i64 0))), (2, 1, (.c (.int .i64 1))), (3, 1, (.c (.int .i64 0))), (4, 1, (.c (.int .i64 0))), (5, 1, (.c (.int .i64 0))), (6, 1, (.c (.int .i64 1))), (7, 1, (.c (.int .i64 1))), (8, 1, (.c (.int .i64 16)))], none⟩,
    ⟨(some 2), .alloc (List.replicate 9 (.int .i64 0)), none⟩,
    ⟨none, .st 9 (.t 2) (.t 18), none⟩])
  (.seq (.region false [⟨(some 19), .build [.int .i64 0, .int .i64 0, .int .i64 0, .int .i64 0, .int .i64 0, .int .i64 0, .int .i64 0, .int .i64 0, .int .i64 0] [(0, 1, (.c (.int .i64 6))), (1, 1, (.c (.int .i64 6))), (2, 1, (.c (.int .i64 6))), (3, 1, (.c (.int .i64 6))), (4, 1, (.c (.int .i64 7))), (5, 1, (.c (.int .i64 6))), (6, 1, (.c (.int .i64 6))), (7, 1, (.c (.int .i64 6))), (8, 1, (.c (.int .i64 3)))], none⟩,
    ⟨(some 3), .alloc (List.replicate 9 (.int .i64 0)), none⟩,
    ⟨none, .st 9 (.t 3) (.t 19), none⟩])
  (.seq (.seq (.region false [⟨(some 4), .mov (.c (.int .i64 0)), none⟩])
  (.block 0 (.loop A_law14_LexerKnownL0)))
  (.seq (.region false [⟨(some 50), .call F_lexer_Line [(.c (.str [40, 32, 120, 32, 32, 97, 100, 100, 91, 32, 49, 32, 50, 32, 93, 41]))], none⟩,
    ⟨(some 49), .mov (.t 50), none⟩,
    ⟨(some 51), .extr (.t 49) 0, none⟩,
    ⟨(some 52), .extr (.t 49) 1, none⟩,
    ⟨(some 53), .extr (.t 49) 2, none⟩,
    ⟨(some 8), .mov (.t 51), none⟩,
    ⟨(some 9), .mov (.t 52), none⟩,
    ⟨(some 10), .mov (.t 53), none⟩])
  (.seq (.region false [⟨(some 55), .mov (.t 8), none⟩,
    ⟨(some 56), .call F_lexer_Print [(.t 55)], none⟩,
    ⟨(some 54), .mov (.t 56), none⟩,
    ⟨(some 57), .extr (.t 54) 0, none⟩,
    ⟨(some 58), .extr (.t 54) 1, none⟩,
    ⟨(some 59), .extr (.t 54) 2, none⟩,
    ⟨(some 11), .mov (.t 57), none⟩,
    ⟨(some 12), .mov (.t 58), none⟩,
    ⟨(some 13), .mov (.t 59), none⟩])
  (.seq (.region false [⟨(some 61), .call F_lexer_Line [(.c (.str [110, 50, 60, 45, 40, 53, 41]))], none⟩,
    ⟨(some 60), .mov (.t 61), none⟩,
    ⟨(some 62), .extr (.t 60) 0, none⟩,
    ⟨(some 63), .extr (.t 60) 1, none⟩,
    ⟨(some 64), .extr (.t 60) 2, none⟩,
    ⟨(some 14), .mov (.t 62), none⟩,
    ⟨(some 15), .mov (.t 63), none⟩,
    ⟨(some 16), .mov (.t 64), none⟩])
  (.seq (.region false [⟨(some 65), .mov (.t 10), none⟩,
    ⟨(some 66), .bin .eql (.t 65) (.c (.int .i64 0)), none⟩,
    ⟨(some 67), .mov (.t 66), none⟩,
    ⟨(some 68), .mov (.t 11), some (67, true)⟩,
    ⟨(some 69), .bin .eql (.t 68) (.c (.str [40, 120, 32, 97, 100, 100, 32, 91, 49, 32, 50, 93, 41])), some (67, true)⟩,
    ⟨(some 70), .pick (.t 67) (.t 69) (.c (.bool false)), none⟩,
    ⟨(some 71), .mov (.t 70), none⟩,
    ⟨(some 72), .mov (.t 13), some (71, true)⟩,
    ⟨(some 73), .bin .eql (.t 72) (.c (.int .i64 0)), some (71, true)⟩,
    ⟨(some 74), .pick (.t 71) (.t 73) (.c (.bool false)), none⟩,
    ⟨(some 75), .mov (.t 74), none⟩,
    ⟨(some 76), .mov (.t 14), some (75, true)⟩,
    ⟨(some 77), .build [.int .i64 0, .int .i64 0, .int .i64 0, .int .i64 0, .str []] [(0, 1, (.c (.int .i64 1))), (4, 1, (.c (.str [110, 50])))], some (75, true)⟩,
    ⟨(some 78), .build [.int .i64 0, .int .i64 0, .int .i64 0, .int .i64 0, .str []] [(0, 1, (.c (.int .i64 8)))], some (75, true)⟩,
    ⟨(some 79), .build [.int .i64 0, .int .i64 0, .int .i64 0, .int .i64 0, .str []] [(0, 1, (.c (.int .i64 4)))], some (75, true)⟩,
    ⟨(some 80), .build [.int .i64 0, .int .i64 0, .int .i64 0, .int .i64 0, .str []] [(0, 1, (.c (.int .i64 2))), (3, 1, (.c (.int .i64 5)))], some (75, true)⟩,
    ⟨(some 81), .build [.int .i64 0, .int .i64 0, .int .i64 0, .int .i64 0, .str []] [(0, 1, (.c (.int .i64 5)))], some (75, true)⟩,
    ⟨(some 82), .bsl 5 (.agg [.int .i64 0, .int .i64 0, .int .i64 0, .int .i64 0, .str []]) 5 [(0, (.t 77)), (1, (.t 78)), (2, (.t 79)), (3, (.t 80)), (4, (.t 81))], some (75, true)⟩,
    ⟨(some 83), .call F_ref14_Same [(.t 76), (.t 82), (.c (.bool false))], some (75, true)⟩,
    ⟨(some 84), .pick (.t 75) (.t 83) (.c (.bool false)), none⟩,
    ⟨(some 85), .mov (.t 84), none⟩,
    ⟨(some 86), .mov (.t 16), some (85, true)⟩,
    ⟨(some 87), .bin .eql (.t 86) (.c (.int .i64 0)), some (85, true)⟩,
    ⟨(some 88), .pick (.t 85) (.t 87) (.c (.bool false)), none⟩,
    ⟨(some 89), .mov (.t 88), none⟩,
    ⟨(some 90), .call F_law14_shown [], some (89, true)⟩,
    ⟨(some 91), .pick (.t 89) (.t 90) (.c (.bool false)), none⟩,
    ⟨(some 0), .mov (.t 91), none⟩])
  (.ret))))))))),
  [.tmp 0]⟩

/- law14_LexerQuotes -/
def A_law14_LexerQuotes : AFun := ⟨72,
  .seq (.region false [⟨(some 2), .mov (.c (.bool false)), none⟩])
  (.seq (.seq (.region false [⟨(some 10), .mov (.t 0), none⟩,
    ⟨(some 11), .lenS (.t 10), none⟩,
    ⟨(some 12), .bin .gtr (.t 11) (.c (.int .i64 600)), none⟩,
    ⟨(some 13), .mov (.t 12), none⟩,
    ⟨(some 14), .mov (.t 0), some (13, true)⟩,
    ⟨(some 15), .lenS (.t 14), some (13, true)⟩,
    ⟨(some 16), .bin .leq (.t 15) (.c (.int .i64 2000)), some (13, true)⟩,
    ⟨(some 17), .pick (.t 13) (.t 16) (.c (.bool false)), none⟩,
    ⟨(some 18), .mov (.t 17), none⟩,
    ⟨(some 19), .mov (.t 0), some (18, false)⟩,
    ⟨(some 20), .lenS (.t 19), some (18, false)⟩,
    ⟨(some 21), .bin .gtr (.t 20) (.c (.int .i64 2010)), some (18, false)⟩,
    ⟨(some 22), .pick (.t 18) (.c (.bool true)) (.t 21), none⟩])
  (.cond (.t 22)
   (.seq (.region false [⟨(some 23), .call F_law14_shown [], none⟩,
     ⟨(some 2), .mov (.t 23), none⟩])
   (.ret))
   (.skip)))
  (.seq (.region false [⟨(some 25), .mov (.t 0), none⟩,
    ⟨(some 26), .call F_lexer_Quote [(.t 25)], none⟩,
    ⟨(some 24), .mov (.t 26), none⟩,
    ⟨(some 27), .extr (.t 24) 0, none⟩,
    ⟨(some 28), .extr (.t 24) 1, none⟩,
    ⟨(some 3), .mov (.t 27), none⟩,
    ⟨(some 4), .mov (.t 28), none⟩])
  (.seq (.region false [⟨(some 30), .mov (.t 0), none⟩,
    ⟨(some 31), .call F_ref14_Quote [(.t 30)], none⟩,
    ⟨(some 29), .mov (.t 31), none⟩,
    ⟨(some 32), .extr (.t 29) 0, none⟩,
    ⟨(some 33), .extr (.t 29) 1, none⟩,
    ⟨(some 5), .mov (.t 32), none⟩,
    ⟨(some 6), .mov (.t 33), none⟩])
  (.seq (.seq (.region false [⟨(some 34), .mov (.t 3), none⟩,
    ⟨(some 35), .mov (.t 5), none⟩,
    ⟨(some 36), .bin .neq (.t 34) (.t 35), none⟩,
    ⟨(some 37), .mov (.t 36), none⟩,
    ⟨(some 38), .mov (.t 4), some (37, false)⟩,
    ⟨(some 39), .mov (.t 6), some (37, false)⟩,
    ⟨(some 40), .bin .neq (.t 38) (.t 39), some (37, false)⟩,
    ⟨(some 41), .pick (.t 37) (.c (.bool true)) (.t 40), none⟩])
  (.cond (.t 41)
   (.seq (.region false [⟨(some 2), .mov (.c (.bool false)), none⟩])
   (.ret))
   (.skip)))
  (.seq (.seq (.region false [⟨(some 42), .mov (.t 4), none⟩,
    ⟨(some 43), .bin .neq (.t 42) (.c (.int .i64 0)), none⟩,
    ⟨(some 44), .mov (.t 43), none⟩,
    ⟨(some 45), .mov (.t 3), some (44, false)⟩,
    ⟨(some 46), .lenS (.t 45), some (44, false)⟩,
    ⟨(some 47), .bin .gtr (.t 46) (.c (.int .i64 2000)), some (44, false)⟩,
    ⟨(some 48), .pick (.t 44) (.c (.bool true)) (.t 47), none⟩])
  (.cond (.t 48)
   (.seq (.region false [⟨(some 49), .call F_law14_shown [], none⟩,
     ⟨(some 2), .mov (.t 49), none⟩])
   (.ret))
   (.skip)))
  (.seq (.region false [⟨(some 51), .mov (.t 3), none⟩,
    ⟨(some 52), .call F_lexer_Line [(.t 51)], none⟩,
    ⟨(some 50), .mov (.t 52), none⟩,
    ⟨(some 53), .extr (.t 50) 0, none⟩,
    ⟨(some 54), .extr (.t 50) 1, none⟩,
    ⟨(some 55), .extr (.t 50) 2, none⟩,
    ⟨(some 7), .mov (.t 53), none⟩,
    ⟨(some 8), .mov (.t 54), none⟩,
    ⟨(some 9), .mov (.t 55), none⟩])
  (.seq (.region false [⟨(some 56), .mov (.t 7), none⟩,
    ⟨(some 57), .mov (.t 0), none⟩,
    ⟨(some 58), .build [.int .i64 0, .int .i64 0, .int .i64 0, .int .i64 0, .str []] [(0, 1, (.c (.int .i64 3))), (4, 1, (.t 57))], none⟩,
    ⟨(some 59), .bsl 5 (.agg [.int .i64 0, .int .i64 0, .int .i64 0, .int .i64 0, .str []]) 1 [(0, (.t 58))], none⟩,
    ⟨(some 60), .call F_ref14_Same [(.t 56), (.t 59), (.c (.bool false))], none⟩,
    ⟨(some 61), .mov (.t 60), none⟩,
    ⟨(some 62), .mov (.t 8), some (61, true)⟩,
    ⟨(some 63), .bin .eql (.t 62) (.c (.int .i64 0)), some (61, true)⟩,
    ⟨(some 64), .pick (.t 61) (.t 63) (.c (.bool false)), none⟩,
    ⟨(some 65), .mov (.t 64), none⟩,
    ⟨(some 66), .mov (.t 9), some (65, true)⟩,
    ⟨(some 67), .bin .eql (.t 66) (.c (.int .i64 0)), some (65, true)⟩,
    ⟨(some 68), .pick (.t 65) (.t 67) (.c (.bool false)), none⟩,
    ⟨(some 69), .mov (.t 68), none⟩,
    ⟨(some 70), .call F_law14_shown [], some (69, true)⟩,
    ⟨(some 71), .pick (.t 69) (.t 70) (.c (.bool false)), none⟩,
    ⟨(some 2), .mov (.t 71), none⟩])
  (.ret)))))))),
  [.tmp 2]⟩

/- law14_far -/
def A_law14_farL0 : ACode :=
  .seq (.seq (.region false [⟨(some 18), .mov (.t 4), none⟩,
    ⟨(some 19), .mov (.t 0), none⟩,
    ⟨(some 20), .len (.t 19), none⟩,
    ⟨(some 21), .bin .lss (.t 18) (.t 20), none⟩])
  (.cond (.t 21)
   (.skip)
   (.exit 0)))
  (.seq (.block 1 (.region false [⟨(some 24), .mov (.t 3), none⟩,
    ⟨(some 25), .mov (.t 0), none⟩,
    ⟨(some 26), .mov (.t 4), none⟩,
    ⟨(some 27), .idxA 5 (.t 25) (.t 26), none⟩,
    ⟨(some 28), .fldA 4 (.t 27), none⟩,
    ⟨(some 29), .ld none (.t 28), none⟩,
    ⟨(some 30), .lenS (.t 29), none⟩,
    ⟨(some 31), .bin .add (.t 24) (.t 30), none⟩,
    ⟨(some 3), .mov (.t 31), none⟩]))
  (.region false [⟨(some 22), .mov (.t 4), none⟩,
    ⟨(some 23), .bin .add (.t 22) (.c (.int .i64 1)), none⟩,
    ⟨(some 4), .mov (.t 23), none⟩]))
def A_law14_far : AFun := ⟨43,
  .seq (.region false [⟨(some 2), .mov (.c (.bool false)), none⟩])
  (.seq (.seq (.region false [⟨(some 5), .mov (.t 0), none⟩,
    ⟨(some 6), .len (.t 5), none⟩,
    ⟨(some 7), .bin .gtr (.t 6) (.c (.int .i64 100)), none⟩,
    ⟨(some 8), .mov (.t 7), none⟩,
    ⟨(some 9), .mov (.t 0), some (8, true)⟩,
    ⟨(some 10), .len (.t 9), some (8, true)⟩,
    ⟨(some 11), .bin .leq (.t 10) (.c (.int .i64 2000)), some (8, true)⟩,
    ⟨(some 12), .pick (.t 8) (.t 11) (.c (.bool false)), none⟩,
    ⟨(some 13), .mov (.t 12), none⟩,
    ⟨(some 14), .mov (.t 0), some (13, false)⟩,
    ⟨(some 15), .len (.t 14), some (13, false)⟩,
    ⟨(some 16), .bin .gtr (.t 15) (.c (.int .i64 2005)), some (13, false)⟩,
    ⟨(some 17), .pick (.t 13) (.c (.bool true)) (.t 16), none⟩])
  (.cond (.t 17)
   (.seq (.region false [⟨(some 2), .mov (.c (.bool true)), none⟩])
   (.ret))
   (.skip)))
  (.seq (.region false [⟨(some 3), .mov (.c (.int .i64 0)), none⟩])
  (.seq (.seq (.region false [⟨(some 4), .mov (.c (.int .i64 0)), none⟩])
  (.block 0 (.loop A_law14_farL0)))
  (.seq (.region false [⟨(some 32), .mov (.t 3), none⟩,
    ⟨(some 33), .bin .gtr (.t 32) (.c (.int .i64 3000)), none⟩,
    ⟨(some 34), .mov (.t 33), none⟩,
    ⟨(some 35), .mov (.t 0), some (34, false)⟩,
    ⟨(some 36), .len (.t 35), some (34, false)⟩,
    ⟨(some 37), .bin .gtr (.t 36) (.c (.int .i64 100)), some (34, false)⟩,
    ⟨(some 38), .mov (.t 37), some (34, false)⟩,
    ⟨(some 39), .mov (.t 3), some (38, true)⟩,
    ⟨(some 40), .bin .gtr (.t 39) (.c (.int .i64 0)), some (38, true)⟩,
    ⟨(some 41), .pick (.t 38) (.t 40) (.c (.bool false)), some (34, false)⟩,
    ⟨(some 42), .pick (.t 34) (.c (.bool true)) (.t 41), none⟩,
    ⟨(some 2), .mov (.t 42), none⟩])
  (.ret))))),
  [.tmp 2]⟩

/- law14_shown -/
def A_law14_shown : AFun := ⟨65,
  .seq (.region false [⟨(some 0), .mov (.c (.bool false)), none⟩])
  (.seq (.region false [⟨(some 14), .call F_lexer_Line [(.c (.str [120, 32, 60, 45, 32, 91, 49, 32, 45, 50, 93, 32, 97, 100, 100, 32, 34, 97, 92, 117, 101, 57, 59, 34]))], none⟩,
    ⟨(some 13), .mov (.t 14), none⟩,
    ⟨(some 15), .extr (.t 13) 0, none⟩,
    ⟨(some 16), .extr (.t 13) 1, none⟩,
    ⟨(some 17), .extr (.t 13) 2, none⟩,
    ⟨(some 1), .mov (.t 15), none⟩,
    ⟨(some 2), .mov (.t 16), none⟩,
    ⟨(some 3), .mov (.t 17), none⟩])
  (.seq (.region false [⟨(some 19), .call F_law14_Example [], none⟩,
    ⟨(some 20), .call F_lexer_Print [(.t 19)], none⟩,
    ⟨(some 18), .mov (.t 20), none⟩,
    ⟨(some 21), .extr (.t 18) 0, none⟩,
    ⟨(some 22), .extr (.t 18) 1, none⟩,
    ⟨(some 23), .extr (.t 18) 2, none⟩,
    ⟨(some 4), .mov (.t 21), none⟩,
    ⟨(some 5), .mov (.t 22), none⟩,
    ⟨(some 6), .mov (.t 23), none⟩])
  (.seq (.region false [⟨(some 25), .call F_lexer_Line [(.c (.str [53, 120]))], none⟩,
    ⟨(some 24), .mov (.t 25), none⟩,
    ⟨(some 26), .extr (.t 24) 0, none⟩,
    ⟨(some 27), .extr (.t 24) 1, none⟩,
    ⟨(some 28), .extr (.t 24) 2, none⟩,
    ⟨(some 7), .mov (.t 26), none⟩,
    ⟨(some 8), .mov (.t 27), none⟩,
    ⟨(some 9), .mov (.t 28), none⟩])
  (.seq (.region false [⟨(some 30), .call F_lexer_Line [(.c (.str [120, 32, 60, 32, 53]))], none⟩,
    ⟨(some 29), .mov (.t 30), none⟩,
    ⟨(some 31), .extr (.t 29) 0, none⟩,
    ⟨(some 32), .extr (.t 29) 1, none⟩,
    ⟨(some 33), .extr (.t 29) 2, none⟩,
    ⟨(some 10), .mov (.t 31), none⟩,
    ⟨(some 11), .mov (.t 32), none⟩,
    ⟨(some 12), .mov (.t 33), none⟩])
  (.seq (.region false [⟨(some 34), .mov (.t 1), none⟩,
    ⟨(some 35), .call F_law14_Example [], none⟩,
    ⟨(some 36), .call F_ref14_Same [(.t 34), (.t 35), (.c (.bool false))], none⟩,
    ⟨(some 37), .mov (.t 36), none⟩,
    ⟨(some 38), .mov (.t 3), some (37, true)⟩,
    ⟨(some 39), .bin .eql (.t 38) (.c (.int .i64 0)), some (37, true)⟩,
    ⟨(some 40), .pick (.t 37) (.t 39) (.c (.bool false)), none⟩,
    ⟨(some 41), .mov (.t 40), none⟩,
    ⟨(some 42), .mov (.t 4), some (41, true)⟩,
    ⟨(some 43), .bin .eql (.t 42) (.c (.str [120, 32, 60, 45, 32, 91, 49, 32, 45, 50, 93, 32, 97, 100, 100, 32, 34, 97, 92, 117, 101, 57, 59, 34])), some (41, true)⟩,
    ⟨(some 44), .pick (.t 41) (.t 43) (.c (.bool false)), none⟩,
    ⟨(some 45), .mov (.t 44), none⟩,
    ⟨(some 46), .mov (.t 6), some (45, true)⟩,
    ⟨(some 47), .bin .eql (.t 46) (.c (.int .i64 0)), some (45, true)⟩,
    ⟨(some 48), .pick (.t 45) (.t 47) (.c (.bool false)), none⟩,
    ⟨(some 49), .mov (.t 48), none⟩,
    ⟨(some 50), .mov (.t 8), some (49, true)⟩,
    ⟨(some 51), .bin .eql (.t 50) (.c (.int .i64 1)), some (49, true)⟩,
    ⟨(some 52), .pick (.t 49) (.t 51) (.c (.bool false)), none⟩,
    ⟨(some 53), .mov (.t 52), none⟩,
    ⟨(some 54), .mov (.t 9), some (53, true)⟩,
    ⟨(some 55), .bin .eql (.t 54) (.c (.int .i64 6)), some (53, true)⟩,
    ⟨(some 56), .pick (.t 53) (.t 55) (.c (.bool false)), none⟩,
    ⟨(some 57), .mov (.t 56), none⟩,
    ⟨(some 58), .mov (.t 11), some (57, true)⟩,
    ⟨(some 59), .bin .eql (.t 58) (.c (.int .i64 2)), some (57, true)⟩,
    ⟨(some 60), .pick (.t 57) (.t 59) (.c (.bool false)), none⟩,
    ⟨(some 61), .mov (.t 60), none⟩,
    ⟨(some 62), .mov (.t 12), some (61, true)⟩,
    ⟨(some 63), .bin .eql (.t 62) (.c (.int .i64 6)), some (61, true)⟩,
    ⟨(some 64), .pick (.t 61) (.t 63) (.c (.bool false)), none⟩,
    ⟨(some 0), .mov (.t 64), none⟩])
  (.ret)))))),
  [.tmp 0]⟩

/- lexer_Print -/
def A_lexer_PrintL0 : ACode :=
  .seq (.region false [⟨(some 15), .bin .lss (.t 14) (.t 13), none⟩])
  (.seq (.cond (.t 15)
   (.skip)
   (.exit 0))
  (.seq (.block 1 (.seq (.region false [⟨(some 16), .mov (.t 14), none⟩,
    ⟨(some 17), .idxA 5 (.t 12) (.t 14), none⟩,
    ⟨(some 18), .ld (some 5) (.t 17), none⟩,
    ⟨(some 6), .alloc [.int .i64 0, .int .i64 0, .int .i64 0, .int .i64 0, .str []], none⟩,
    ⟨(some 5), .mov (.t 16), none⟩,
    ⟨none, .st 5 (.t 6) (.t 18), none⟩])
  (.seq (.region false [⟨(some 19), .ld (some 5) (.t 6), none⟩,
    ⟨(some 20), .call F_lexer_Check [(.t 19)], none⟩,
    ⟨(some 7), .mov (.t 20), none⟩])
  (.seq (.region false [⟨(some 21), .mov (.t 7), none⟩,
    ⟨(some 22), .bin .neq (.t 21) (.c (.int .i64 0)), none⟩])
  (.cond (.t 22)
   (.seq (.region false [⟨(some 23), .mov (.t 5), none⟩,
     ⟨(some 24), .mov (.t 7), none⟩,
     ⟨(some 2), .mov (.c (.str [])), none⟩,
     ⟨(some 3), .mov (.t 23), none⟩,
     ⟨(some 4), .mov (.t 24), none⟩])
   (.ret))
   (.skip))))))
  (.region false [⟨(some 25), .bin .add (.t 14) (.c (.int .i64 1)), none⟩,
    ⟨(some 14), .mov (.t 25), none⟩])))
def A_lexer_PrintL1 : ACode :=
  .seq (.region false [⟨(some 29), .bin .lss (.t 28) (.t 27), none⟩])
  (.seq (.cond (.t 29)
   (.skip)
   (.exit 2))
  (.seq (.block 3 (.seq (.region false [⟨(some 30), .idxA 5 (.t 26) (.t 28), none⟩,
    ⟨(some 31), .ld (some 5) (.t 30), none⟩,
    ⟨(some 11), .alloc [.int .i64 0, .int .i64 0, .int .i64 0, .int .i64 0, .str []], none⟩,
    ⟨none, .st 5 (.t 11) (.t 31), none⟩])
  (.seq (.seq (.region false [⟨(some 32), .mov (.t 9), none⟩,
    ⟨(some 33), .not (.t 32), none⟩,
    ⟨(some 34), .mov (.t 33), none⟩,
    ⟨(some 35), .fldA 0 (.t 11), some (34, true)⟩,
    ⟨(some 36), .ld none (.t 35), some (34, true)⟩,
    ⟨(some 37), .bin .neq (.t 36) (.c (.int .i64 5)), some (34, true)⟩,
    ⟨(some 38), .pick (.t 34) (.t 37) (.c (.bool false)), none⟩,
    ⟨(some 39), .mov (.t 38), none⟩,
    ⟨(some 40), .fldA 0 (.t 11), some (39, true)⟩,
    ⟨(some 41), .ld none (.t 40), some (39, true)⟩,
    ⟨(some 42), .bin .neq (.t 41) (.c (.int .i64 7)), some (39, true)⟩,
    ⟨(some 43), .pick (.t 39) (.t 42) (.c (.bool false)), none⟩])
  (.cond (.t 43)
   (.region false [⟨(some 44), .call F_strings_Builder_WriteByte [(.t 8), (.c (.int .u8 32))], none⟩])
   (.skip)))
  (.seq (.region false [⟨(some 45), .ld (some 5) (.t 11), none⟩,
    ⟨(some 46), .call F_lexer_written [(.t 45)], none⟩,
    ⟨(some 47), .call F_strings_Builder_WriteString [(.t 8), (.t 46)], none⟩])
  (.region false [⟨(some 48), .fldA 0 (.t 11), none⟩,
    ⟨(some 49), .ld none (.t 48), none⟩,
    ⟨(some 50), .bin .eql (.t 49) (.c (.int .i64 4)), none⟩,
    ⟨(some 51), .mov (.t 50), none⟩,
    ⟨(some 52), .fldA 0 (.t 11), some (51, false)⟩,
    ⟨(some 53), .ld none (.t 52), some (51, false)⟩,
    ⟨(some 54), .bin .eql (.t 53) (.c (.int .i64 6)), some (51, false)⟩,
    ⟨(some 55), .pick (.t 51) (.c (.bool true)) (.t 54), none⟩,
    ⟨(some 9), .mov (.t 55), none⟩])))))
  (.region false [⟨(some 56), .bin .add (.t 28) (.c (.int .i64 1)), none⟩,
    ⟨(some 28), .mov (.t 56), none⟩])))
def A_lexer_Print : AFun := ⟨60,
  .seq (.region false [⟨(some 2), .mov (.c (.str [])), none⟩,
    ⟨(some 3), .mov (.c (.int .i64 0)), none⟩,
    ⟨(some 4), .mov (.c (.int .i64 0)), none⟩])
  (.seq (.seq (.region false [⟨(some 12), .mov (.t 0), none⟩,
    ⟨(some 13), .len (.t 12), none⟩,
    ⟨(some 14), .mov (.c (.int .i64 0)), none⟩])
  (.block 0 (.loop A_lexer_PrintL0)))
  (.seq (.region false [⟨(some 8), .allocB 46 5, none⟩])
  (.seq (.region false [⟨(some 9), .mov (.c (.bool true)), none⟩])
  (.seq (.seq (.region false [⟨(some 26), .mov (.t 0), none⟩,
    ⟨(some 27), .len (.t 26), none⟩,
    ⟨(some 28), .mov (.c (.int .i64 0)), none⟩])
  (.block 2 (.loop A_lexer_PrintL1)))
  (.seq (.seq (.region false [⟨(some 57), .call F_strings_Builder_Len [(.t 8)], none⟩,
    ⟨(some 58), .bin .gtr (.t 57) (.c (.int .i64 2000)), none⟩])
  (.cond (.t 58)
   (.seq (.region false [⟨(some 2), .mov (.c (.str [])), none⟩,
     ⟨(some 3), .mov (.c (.int .i64 0)), none⟩,
     ⟨(some 4), .mov (.c (.int .i64 3)), none⟩])
   (.ret))
   (.skip)))
  (.seq (.region false [⟨(some 59), .call F_strings_Builder_String [(.t 8)], none⟩,
    ⟨(some 2), .mov (.t 59), none⟩,
    ⟨(some 3), .mov (.c (.int .i64 0)), none⟩,
    ⟨(some 4), .mov (.c (.int .i64 0)), none⟩])
  (.ret))))))),
  [.tmp 2, .tmp 3, .tmp 4]⟩

/- lexer_Line -/
def A_lexer_LineL0 : ACode :=
  .seq (.seq (.region false [⟨(some 16), .mov (.t 5), none⟩,
    ⟨(some 17), .nck (.t 16), none⟩,
    ⟨(some 18), .fldA 1 (.t 17), none⟩,
    ⟨(some 19), .ld none (.t 18), none⟩,
    ⟨(some 20), .mov (.t 0), none⟩,
    ⟨(some 21), .lenS (.t 20), none⟩,
    ⟨(some 22), .bin .lss (.t 19) (.t 21), none⟩])
  (.cond (.t 22)
   (.skip)
   (.exit 0)))
  (.block 1 (.seq (.region false [⟨(some 23), .mov (.t 5), none⟩,
    ⟨(some 24), .mkf F_lexer_reader_mark [(.t 23)] [], none⟩,
    ⟨(some 6), .mov (.t 24), none⟩])
  (.seq (.seq (.region false [⟨(some 25), .mov (.t 5), none⟩,
    ⟨(some 26), .mov (.t 5), none⟩,
    ⟨(some 27), .nck (.t 26), none⟩,
    ⟨(some 28), .fldA 1 (.t 27), none⟩,
    ⟨(some 29), .ld none (.t 28), none⟩,
    ⟨(some 30), .call F_lexer_reader_class [(.t 25), (.t 29)], none⟩])
  (.block 2 (.seq (.region false [⟨(some 32), .bin .eql (.t 30) (.c (.int .i64 1)), none⟩,
    ⟨(some 31), .mov (.t 32), none⟩])
  (.cond (.t 31)
   (.seq (.region false [⟨(some 33), .mov (.t 5), none⟩,
     ⟨(some 34), .nck (.t 33), none⟩,
     ⟨(some 35), .fldA 1 (.t 34), none⟩,
     ⟨(some 36), .ld none (.t 35), none⟩,
     ⟨(some 37), .bin .add (.t 36) (.c (.int .i64 1)), none⟩,
     ⟨(some 38), .nck (.t 33), none⟩,
     ⟨(some 39), .fldA 1 (.t 38), none⟩,
     ⟨none, .st 1 (.t 39) (.t 37), none⟩])
   (.exit 1))
   (.seq (.region false [⟨(some 41), .bin .eql (.t 30) (.c (.int .i64 8)), none⟩,
     ⟨(some 40), .mov (.t 41), none⟩])
   (.cond (.t 40)
    (.region false [⟨(some 42), .mov (.t 5), none⟩,
      ⟨(some 43), .mkf F_lexer_reader_word [(.t 42)] [], none⟩,
      ⟨(some 6), .mov (.t 43), none⟩])
    (.seq (.seq (.region false [⟨(some 45), .bin .eql (.t 30) (.c (.int .i64 6)), none⟩,
      ⟨(some 44), .mov (.t 45), none⟩])
    (.cond (.t 44)
     (.skip)
     (.region false [⟨(some 46), .bin .eql (.t 30) (.c (.int .i64 7)), none⟩,
       ⟨(some 44), .mov (.t 46), none⟩])))
    (.cond (.t 44)
     (.region false [⟨(some 47), .mov (.t 5), none⟩,
       ⟨(some 48), .mkf F_lexer_reader_number [(.t 47)] [], none⟩,
       ⟨(some 6), .mov (.t 48), none⟩])
     (.seq (.region false [⟨(some 50), .bin .eql (.t 30) (.c (.int .i64 5)), none⟩,
       ⟨(some 49), .mov (.t 50), none⟩])
     (.cond (.t 49)
      (.region false [⟨(some 51), .mov (.t 5), none⟩,
        ⟨(some 52), .mkf F_lexer_reader_text [(.t 51)] [], none⟩,
        ⟨(some 6), .mov (.t 52), none⟩])
      (.skip)))))))))))
  (.seq (.region false [⟨(some 53), .mov (.t 5), none⟩,
    ⟨(some 54), .nck (.t 53), none⟩,
    ⟨(some 55), .fldA 1 (.t 54), none⟩,
    ⟨(some 56), .ld none (.t 55), none⟩,
    ⟨(some 7), .mov (.t 56), none⟩])
  (.seq (.region false [⟨(some 58), .mov (.t 6), none⟩,
    ⟨(some 59), .callv (.t 58) [], none⟩,
    ⟨(some 57), .mov (.t 59), none⟩,
    ⟨(some 60), .extr (.t 57) 0, none⟩,
    ⟨(some 61), .extr (.t 57) 1, none⟩,
    ⟨(some 8), .alloc [.int .i64 0, .int .i64 0, .int .i64 0, .int .i64 0, .str []], none⟩,
    ⟨(some 9), .alloc [.int .i64 0, .int .i64 0], none⟩,
    ⟨none, .st 5 (.t 8) (.t 60), none⟩,
    ⟨none, .st 2 (.t 9) (.t 61), none⟩])
  (.seq (.seq (.region false [⟨(some 62), .fldA 1 (.t 9), none⟩,
    ⟨(some 63), .ld none (.t 62), none⟩,
    ⟨(some 64), .bin .neq (.t 63) (.c (.int .i64 0)), none⟩])
  (.cond (.t 64)
   (.seq (.region true [⟨(some 65), .fldA 0 (.t 9), none⟩,
     ⟨(some 66), .ld none (.t 65), none⟩,
     ⟨(some 67), .fldA 1 (.t 9), none⟩,
     ⟨(some 68), .ld none (.t 67), none⟩,
     ⟨(some 2), .mov (.c (.sl .ex [])), none⟩,
     ⟨(some 3), .mov (.t 66), none⟩,
     ⟨(some 4), .mov (.t 68), none⟩])
   (.ret))
   (.skip)))
  (.seq (.region true [⟨(some 69), .mov (.t 7), none⟩,
    ⟨(some 70), .mov (.t 5), none⟩,
    ⟨(some 71), .nck (.t 70), none⟩,
    ⟨(some 72), .fldA 1 (.t 71), none⟩,
    ⟨(some 73), .ld none (.m true 72), none⟩,
    ⟨(some 74), .fldA 1 (.t 8), none⟩,
    ⟨none, .st 1 (.m false 74) (.t 69), none⟩,
    ⟨(some 75), .fldA 2 (.t 8), none⟩,
    ⟨none, .st 1 (.m false 75) (.t 73), none⟩])
  (.region false [⟨(some 76), .mov (.t 2), none⟩,
    ⟨(some 77), .ld (some 5) (.t 8), none⟩,
    ⟨(some 78), .bsl 5 (.agg [.int .i64 0, .int .i64 0, .int .i64 0, .int .i64 0, .str []]) 1 [(0, (.t 77))], none⟩,
    ⟨(some 79), .app 5 48 (.t 76) (.t 78), none⟩,
    ⟨(some 2), .mov (.t 79), none⟩]))))))))
def A_lexer_Line : AFun := ⟨81,
  .seq (.region false [⟨(some 2), .mov (.c (.sl .ex [])), none⟩,
    ⟨(some 3), .mov (.c (.int .i64 0)), none⟩,
    ⟨(some 4), .mov (.c (.int .i64 0)), none⟩])
  (.scope (.seq (.seq (.region false [⟨(some 10), .mov (.t 0), none⟩,
     ⟨(some 11), .lenS (.t 10), none⟩,
     ⟨(some 12), .bin .gtr (.t 11) (.c (.int .i64 2000)), none⟩])
   (.cond (.t 12)
    (.seq (.region false [⟨(some 2), .mov (.c (.sl .ex [])), none⟩,
      ⟨(some 3), .mov (.c (.int .i64 0)), none⟩,
      ⟨(some 4), .mov (.c (.int .i64 3)), none⟩])
    (.ret))
    (.skip)))
   (.seq (.region false [⟨(some 13), .mov (.t 0), none⟩,
     ⟨(some 14), .build [.str [], .int .i64 0] [(0, 1, (.t 13))], none⟩,
     ⟨(some 15), .box (.t 14), none⟩,
     ⟨(some 5), .mov (.t 15), none⟩])
   (.seq (.label 0)
   (.seq (.block 0 (.loop A_lexer_LineL0))
   (.seq (.region false [⟨(some 80), .mov (.t 2), none⟩,
     ⟨(some 2), .mov (.t 80), none⟩,
     ⟨(some 3), .mov (.c (.int .i64 0)), none⟩,
     ⟨(some 4), .mov (.c (.int .i64 0)), none⟩])
   (.ret))))))),
  [.tmp 2, .tmp 3, .tmp 4]⟩

/- ref14_Same -/
def A_ref14_SameL0 : ACode :=
  .seq (.seq (.region false [⟨(some 15), .mov (.t 7), none⟩,
    ⟨(some 16), .mov (.t 0), none⟩,
    ⟨(some 17), .len (.t 16), none⟩,
    ⟨(some 18), .bin .lss (.t 15) (.t 17), none⟩])
  (.cond (.t 18)
   (.skip)
   (.exit 0)))
  (.seq (.block 1 (.seq (.region true [⟨(some 21), .mov (.t 0), none⟩,
    ⟨(some 22), .mov (.t 7), none⟩,
    ⟨(some 23), .idxA 5 (.t 21) (.t 22), none⟩,
    ⟨(some 24), .lds (some 5) (.t 23), none⟩,
    ⟨(some 25), .mov (.t 1), none⟩,
    ⟨(some 26), .mov (.t 7), none⟩,
    ⟨(some 27), .idxA 5 (.t 25) (.t 26), none⟩,
    ⟨(some 28), .lds (some 5) (.t 27), none⟩,
    ⟨(some 8), .mov (.c (.undef)), none⟩,
    ⟨(some 9), .mov (.c (.undef)), none⟩,
    ⟨(some 8), .boxS 5 (.t 24), none⟩,
    ⟨(some 9), .boxS 5 (.t 28), none⟩])
  (.seq (.seq (.region false [⟨(some 29), .mov (.t 2), none⟩,
    ⟨(some 30), .not (.t 29), none⟩])
  (.cond (.t 30)
   (.region true [⟨(some 31), .fldA 1 (.t 9), none⟩,
     ⟨(some 32), .ld none (.m true 65567), none⟩,
     ⟨(some 33), .fldA 2 (.t 9), none⟩,
     ⟨(some 34), .ld none (.m true 65569), none⟩,
     ⟨(some 35), .fldA 1 (.t 8), none⟩,
     ⟨none, .st 1 (.m false 65571) (.t 32), none⟩,
     ⟨(some 36), .fldA 2 (.t 8), none⟩,
     ⟨none, .st 1 (.m false 65572) (.t 34), none⟩])
   (.skip)))
  (.seq (.region false [⟨(some 37), .ld (some 5) (.t 8), none⟩,
    ⟨(some 38), .ld (some 5) (.t 9), none⟩,
    ⟨(some 39), .aeq true [0, 0, 0, 0, 2] (.t 37) (.t 38), none⟩])
  (.cond (.t 39)
   (.seq (.region false [⟨(some 6), .mov (.c (.bool false)), none⟩])
   (.ret))
   (.skip))))))
  (.region false [⟨(some 19), .mov (.t 7), none⟩,
    ⟨(some 20), .bin .add (.t 19) (.c (.int .i64 1)), none⟩,
    ⟨(some 7), .mov (.t 20), none⟩]))
def A_ref14_Same : AFun := ⟨40,
  .seq (.region false [⟨(some 6), .mov (.c (.bool false)), none⟩])
  (.seq (.seq (.region false [⟨(some 10), .mov (.t 0), none⟩,
    ⟨(some 11), .len (.t 10), none⟩,
    ⟨(some 12), .mov (.t 1), none⟩,
    ⟨(some 13), .len (.t 12), none⟩,
    ⟨(some 14), .bin .neq (.t 11) (.t 13), none⟩])
  (.cond (.t 14)
   (.seq (.region false [⟨(some 6), .mov (.c (.bool false)), none⟩])
   (.ret))
   (.skip)))
  (.seq (.seq (.region false [⟨(some 7), .mov (.c (.int .i64 0)), none⟩])
  (.block 0 (.loop A_ref14_SameL0)))
  (.seq (.region false [⟨(some 6), .mov (.c (.bool true)), none⟩])
  (.ret)))),
  [.tmp 6]⟩

/- lexer_Quote -/
def A_lexer_Quote : AFun := ⟨12,
  .seq (.region false [⟨(some 2), .mov (.c (.str [])), none⟩,
    ⟨(some 3), .mov (.c (.int .i64 0)), none⟩])
  (.seq (.seq (.region false [⟨(some 4), .mov (.t 0), none⟩,
    ⟨(some 5), .lenS (.t 4), none⟩,
    ⟨(some 6), .bin .gtr (.t 5) (.c (.int .i64 2000)), none⟩])
  (.cond (.t 6)
   (.seq (.region false [⟨(some 2), .mov (.c (.str [])), none⟩,
     ⟨(some 3), .mov (.c (.int .i64 3)), none⟩])
   (.ret))
   (.skip)))
  (.seq (.seq (.region false [⟨(some 7), .mov (.t 0), none⟩,
    ⟨(some 8), .call F_utf8_ValidString [(.t 7)], none⟩,
    ⟨(some 9), .not (.t 8), none⟩])
  (.cond (.t 9)
   (.seq (.region false [⟨(some 2), .mov (.c (.str [])), none⟩,
     ⟨(some 3), .mov (.c (.int .i64 6)), none⟩])
   (.ret))
   (.skip)))
  (.seq (.region false [⟨(some 10), .mov (.t 0), none⟩,
    ⟨(some 11), .call F_lexer_quoted [(.t 10)], none⟩,
    ⟨(some 2), .mov (.t 11), none⟩,
    ⟨(some 3), .mov (.c (.int .i64 0)), none⟩])
  (.ret)))),
  [.tmp 2, .tmp 3]⟩

/- ref14_Quote -/
def A_ref14_Quote : AFun := ⟨18,
  .seq (.region false [⟨(some 2), .mov (.c (.str [])), none⟩,
    ⟨(some 3), .mov (.c (.int .i64 0)), none⟩])
  (.seq (.seq (.region false [⟨(some 6), .mov (.t 0), none⟩,
    ⟨(some 7), .lenS (.t 6), none⟩,
    ⟨(some 8), .bin .gtr (.t 7) (.c (.int .i64 2000)), none⟩])
  (.cond (.t 8)
   (.seq (.region false [⟨(some 2), .mov (.c (.str [])), none⟩,
     ⟨(some 3), .mov (.c (.int .i64 3)), none⟩])
   (.ret))
   (.skip)))
  (.seq (.region false [⟨(some 10), .mov (.t 0), none⟩,
    ⟨(some 11), .call F_ref14_runes [(.t 10)], none⟩,
    ⟨(some 9), .mov (.t 11), none⟩,
    ⟨(some 12), .extr (.t 9) 0, none⟩,
    ⟨(some 13), .extr (.t 9) 1, none⟩,
    ⟨(some 4), .mov (.t 12), none⟩,
    ⟨(some 5), .mov (.t 13), none⟩])
  (.seq (.seq (.region false [⟨(some 14), .mov (.t 5), none⟩,
    ⟨(some 15), .not (.t 14), none⟩])
  (.cond (.t 15)
   (.seq (.region false [⟨(some 2), .mov (.c (.str [])), none⟩,
     ⟨(some 3), .mov (.c (.int .i64 6)), none⟩])
   (.ret))
   (.skip)))
  (.seq (.region false [⟨(some 16), .mov (.t 4), none⟩,
    ⟨(some 17), .call F_ref14_quoted [(.t 16)], none⟩,
    ⟨(some 2), .mov (.t 17), none⟩,
    ⟨(some 3), .mov (.c (.int .i64 0)), none⟩])
  (.ret))))),
  [.tmp 2, .tmp 3]⟩

section
variable {X : Cx} (hX : X.P = Go.Proofs.Tryd.prog)
include hX
theorem A_law14_LexerBack_ok : compileFun X.P F_law14_LexerBack (fun _ => false) = some A_law14_LexerBack := by rw [hX]; kernel_rfl
theorem A_law14_LexerPlaces_ok : compileFun X.P F_law14_LexerPlaces (fun _ => false) = some A_law14_LexerPlaces := by rw [hX]; kernel_rfl
theorem A_law14_LexerBlanks_ok : compileFun X.P F_law14_LexerBlanks (fun _ => false) = some A_law14_LexerBlanks := by rw [hX]; kernel_rfl
theorem A_law14_LexerJoins_ok : compileFun X.P F_law14_LexerJoins (fun _ => false) = some A_law14_LexerJoins := by rw [hX]; kernel_rfl
theorem A_law14_LexerKnown_ok : compileFun X.P F_law14_LexerKnown (fun _ => false) = some A_law14_LexerKnown := by rw [hX]; kernel_rfl
theorem A_law14_LexerQuotes_ok : compileFun X.P F_law14_LexerQuotes (fun _ => false) = some A_law14_LexerQuotes := by rw [hX]; kernel_rfl
theorem A_law14_far_ok : compileFun X.P F_law14_far (fun _ => false) = some A_law14_far := by rw [hX]; kernel_rfl
theorem A_law14_shown_ok : compileFun X.P F_law14_shown (fun _ => false) = some A_law14_shown := by rw [hX]; kernel_rfl
theorem A_lexer_Print_ok : compileFun X.P F_lexer_Print (fun _ => false) = some A_lexer_Print := by rw [hX]; kernel_rfl
theorem A_lexer_Line_ok : compileFun X.P F_lexer_Line (fun _ => false) = some A_lexer_Line := by rw [hX]; kernel_rfl
theorem A_ref14_Same_ok : compileFun X.P F_ref14_Same (fun d => d == 100000) = some A_ref14_Same := by rw [hX]; kernel_rfl
theorem A_lexer_Quote_ok : compileFun X.P F_lexer_Quote (fun _ => false) = some A_lexer_Quote := by rw [hX]; kernel_rfl
theorem A_ref14_Quote_ok : compileFun X.P F_ref14_Quote (fun _ => false) = some A_ref14_Quote := by rw [hX]; kernel_rfl
end
end Go.Avm
