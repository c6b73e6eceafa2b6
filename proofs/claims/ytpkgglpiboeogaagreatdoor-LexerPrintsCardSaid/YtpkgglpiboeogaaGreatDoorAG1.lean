/- The functions as they have been read. -/
import Derived.Test.YtpkgglpiboeogaaGreatDoorA8
import Derived.Test.YtpkgglpiboeogaaGreatDoorProg
set_option linter.unusedSectionVars false
set_option linter.unusedSimpArgs false
set_option linter.unusedVariables false

/- The functions as they have been read. -/
namespace Go.Avm
open Go
def F_main_main : Nat := 0
def F_gosem_cut : Nat := 1
def F_law14_LexerPrints : Nat := 3
def F_law14_far : Nat := 4
def F_law14_shown : Nat := 5
def F_lexer_Print : Nat := 6
def F_ref14_Print : Nat := 7
def F_lexer_Check : Nat := 8
def F_ref14_Check : Nat := 9
def F_lexer_Line : Nat := 10
def F_law14_Example : Nat := 11
def F_ref14_Same : Nat := 12
def F_strings_Builder_WriteByte : Nat := 13
def F_strings_Builder_WriteString : Nat := 14
def F_lexer_written : Nat := 15
def F_strings_Builder_Len : Nat := 16
def F_strings_Builder_String : Nat := 17
def F_ref14_joined : Nat := 18
def F_ref14_written : Nat := 19
def F_lexer_reader_class : Nat := 20
def F_lexer_reader_while : Nat := 21
def F_utf8_ValidString : Nat := 22
def F_ref14_named : Nat := 23
def F_ref14_runes : Nat := 24
def F_lexer_reader_mark : Nat := 25
def F_lexer_reader_word : Nat := 26
def F_lexer_reader_number : Nat := 27
def F_lexer_reader_text : Nat := 28
def F_strconv_FormatInt : Nat := 30
def F_lexer_quoted : Nat := 31
def F_ref01_Digits : Nat := 32
def F_ref14_quoted : Nat := 33
def F_ref14_mark : Nat := 34
def F_runes_Class : Nat := 35
def F_ref14_letter : Nat := 37
def F_ref14_digit : Nat := 38
def F_ref02_Decode : Nat := 39
def F_strings_HasPrefix : Nat := 40
def F_strconv_ParseInt : Nat := 41
def F_lexer_escape : Nat := 42
def F_strings_Builder_WriteRune : Nat := 43
def F_strconv_FormatInt_45 : Nat := 45
def F_ref14_code : Nat := 46
def F_runes_is : Nat := 47
def F_runes_classes : Nat := 48
def F_strings_ContainsRune : Nat := 49
def F_ref02_stands : Nat := 50
def F_ref02_begins : Nat := 51
def F_stringslite_HasPrefix : Nat := 52
def F_strconv_ParseInt_53 : Nat := 53
def F_strconv_toError : Nat := 54
def F_strings_Cut : Nat := 55
def F_strings_Trim : Nat := 56
def F_utf8_ValidRune : Nat := 57
def F_strconv_small : Nat := 59
def F_strconv_numDigits : Nat := 60
def F_strconv_formatBase10 : Nat := 61
def F_strconv_formatBits : Nat := 62
def F_strings_IndexRune : Nat := 63
def F_ref02_number : Nat := 64
def F_ref02_Is : Nat := 65
def F_ref02_Encode : Nat := 66
def F_strconv_ParseUint : Nat := 67
def F_stringslite_Cut : Nat := 72
def F_strings_trimLeftByte : Nat := 73
def F_strings_trimRightByte : Nat := 74
def F_strings_makeASCIISet : Nat := 75
def F_strings_trimLeftASCII : Nat := 76
def F_strings_trimRightASCII : Nat := 77
def F_strings_trimLeftUnicode : Nat := 78
def F_strings_trimRightUnicode : Nat := 79
def F_strconv_isPowerOfTwo : Nat := 84
def F_bits_TrailingZeros : Nat := 85
def F_strings_IndexByte : Nat := 86
def F_bytealg_Cutover : Nat := 87
def F_strconv_lower : Nat := 89
def F_strconv_underscoreOK : Nat := 90
def F_stringslite_Index : Nat := 94
def F_strings_asciiSet_contains : Nat := 95
def F_bits_TrailingZeros32 : Nat := 98
def F_bits_TrailingZeros64 : Nat := 99
def F_stringslite_IndexByte : Nat := 100
/- law14_LexerPrints -/
def A_law14_LexerPrintsL0 : ACode :=
  .seq (.seq (.region false [⟨(some 38), .mov (.t 9), none⟩,
    ⟨(some 39), .mov (.t 0), none⟩,
    ⟨(some 40), .len (.t 39), none⟩,
    ⟨(some 41), .bin .lss (.t 38) (.t 40), none⟩])
  (.cond (.t 41)
   (.skip)
   (.exit 0)))
  (.seq (.block 1 (.seq (.region true [⟨(some 44), .mov (.t 0), none⟩,
    ⟨(some 45), .mov (.t 9), none⟩,
    ⟨(some 46), .idxA 5 (.t 44) (.t 45), none⟩,
    ⟨(some 47), .ld (some 5) (.t 46), none⟩,
    ⟨(some 48), .call F_lexer_Check [(.t 47)], none⟩,
    ⟨(some 49), .mov (.t 0), none⟩,
    ⟨(some 50), .mov (.t 9), none⟩,
    ⟨(some 51), .idxA 5 (.t 49) (.t 50), none⟩,
    ⟨(some 52), .ld (some 5) (.t 51), none⟩,
    ⟨(some 53), .call F_ref14_Check [(.t 52)], none⟩,
    ⟨(some 54), .bin .neq (.t 48) (.t 53), none⟩])
  (.cond (.t 54)
   (.seq (.region false [⟨(some 2), .mov (.c (.bool false)), none⟩])
   (.ret))
   (.skip))))
  (.region false [⟨(some 42), .mov (.t 9), none⟩,
    ⟨(some 43), .bin .add (.t 42) (.c (.int .i64 1)), none⟩,
    ⟨(some 9), .mov (.t 43), none⟩]))
def A_law14_LexerPrints : AFun := ⟨56,
  .seq (.region false [⟨(some 2), .mov (.c (.bool false)), none⟩])
  (.seq (.seq (.region false [⟨(some 10), .mov (.t 0), none⟩,
    ⟨(some 11), .call F_law14_far [(.t 10)], none⟩])
  (.cond (.t 11)
   (.seq (.region false [⟨(some 12), .call F_law14_shown [], none⟩,
     ⟨(some 2), .mov (.t 12), none⟩])
   (.ret))
   (.skip)))
  (.seq (.region false [⟨(some 14), .mov (.t 0), none⟩,
    ⟨(some 15), .call F_lexer_Print [(.t 14)], none⟩,
    ⟨(some 13), .mov (.t 15), none⟩,
    ⟨(some 16), .extr (.t 13) 0, none⟩,
    ⟨(some 17), .extr (.t 13) 1, none⟩,
    ⟨(some 18), .extr (.t 13) 2, none⟩,
    ⟨(some 3), .mov (.t 16), none⟩,
    ⟨(some 4), .mov (.t 17), none⟩,
    ⟨(some 5), .mov (.t 18), none⟩])
  (.seq (.region false [⟨(some 20), .mov (.t 0), none⟩,
    ⟨(some 21), .call F_ref14_Print [(.t 20)], none⟩,
    ⟨(some 19), .mov (.t 21), none⟩,
    ⟨(some 22), .extr (.t 19) 0, none⟩,
    ⟨(some 23), .extr (.t 19) 1, none⟩,
    ⟨(some 24), .extr (.t 19) 2, none⟩,
    ⟨(some 6), .mov (.t 22), none⟩,
    ⟨(some 7), .mov (.t 23), none⟩,
    ⟨(some 8), .mov (.t 24), none⟩])
  (.seq (.seq (.region false [⟨(some 25), .mov (.t 3), none⟩,
    ⟨(some 26), .mov (.t 6), none⟩,
    ⟨(some 27), .bin .neq (.t 25) (.t 26), none⟩,
    ⟨(some 28), .mov (.t 27), none⟩,
    ⟨(some 29), .mov (.t 4), some (28, false)⟩,
    ⟨(some 30), .mov (.t 7), some (28, false)⟩,
    ⟨(some 31), .bin .neq (.t 29) (.t 30), some (28, false)⟩,
    ⟨(some 32), .pick (.t 28) (.c (.bool true)) (.t 31), none⟩,
    ⟨(some 33), .mov (.t 32), none⟩,
    ⟨(some 34), .mov (.t 5), some (33, false)⟩,
    ⟨(some 35), .mov (.t 8), some (33, false)⟩,
    ⟨(some 36), .bin .neq (.t 34) (.t 35), some (33, false)⟩,
    ⟨(some 37), .pick (.t 33) (.c (.bool true)) (.t 36), none⟩])
  (.cond (.t 37)
   (.seq (.region false [⟨(some 2), .mov (.c (.bool false)), none⟩])
   (.ret))
   (.skip)))
  (.seq (.seq (.region false [⟨(some 9), .mov (.c (.int .i64 0)), none⟩])
  (.block 0 (.loop A_law14_LexerPrintsL0)))
  (.seq (.region false [⟨(some 55), .call F_law14_shown [], none⟩,
    ⟨(some 2), .mov (.t 55), none⟩])
  (.ret))))))),
  [.tmp 2]⟩

/- law14_far -/
def A_law14_farL0 : ACode :=
  .seq (.seq (.region false [⟨(some 18), .mov (.t 4), none⟩,
    ⟨(some 19), .mov (.t 0), none⟩,
    ⟨(some 20), .len (.t 19), none⟩,
    ⟨(some 21), .bin .lss (.t 18) (.t 20), none⟩])
  (.cond (.t 21)
   (.skip)
   (.exit 0)))
  (.seq (.block 1 (.region false [⟨(some 24), .mov (.t 3), none⟩,
    ⟨(some 25), .mov (.t 0), none⟩,
    ⟨(some 26), .mov (.t 4), none⟩,
    ⟨(some 27), .idxA 5 (.t 25) (.t 26), none⟩,
    ⟨(some 28), .fldA 4 (.t 27), none⟩,
    ⟨(some 29), .ld none (.t 28), none⟩,
    ⟨(some 30), .lenS (.t 29), none⟩,
    ⟨(some 31), .bin .add (.t 24) (.t 30), none⟩,
    ⟨(some 3), .mov (.t 31), none⟩]))
  (.region false [⟨(some 22), .mov (.t 4), none⟩,
    ⟨(some 23), .bin .add (.t 22) (.c (.int .i64 1)), none⟩,
    ⟨(some 4), .mov (.t 23), none⟩]))
def A_law14_far : AFun := ⟨43,
  .seq (.region false [⟨(some 2), .mov (.c (.bool false)), none⟩])
  (.seq (.seq (.region false [⟨(some 5), .mov (.t 0), none⟩,
    ⟨(some 6), .len (.t 5), none⟩,
    ⟨(some 7), .bin .gtr (.t 6) (.c (.int .i64 100)), none⟩,
    ⟨(some 8), .mov (.t 7), none⟩,
    ⟨(some 9), .mov (.t 0), some (8, true)⟩,
    ⟨(some 10), .len (.t 9), some (8, true)⟩,
    ⟨(some 11), .bin .leq (.t 10) (.c (.int .i64 2000)), some (8, true)⟩,
    ⟨(some 12), .pick (.t 8) (.t 11) (.c (.bool false)), none⟩,
    ⟨(some 13), .mov (.t 12), none⟩,
    ⟨(some 14), .mov (.t 0), some (13, false)⟩,
    ⟨(some 15), .len (.t 14), some (13, false)⟩,
    ⟨(some 16), .bin .gtr (.t 15) (.c (.int .i64 2005)), some (13, false)⟩,
    ⟨(some 17), .pick (.t 13) (.c (.bool true)) (.t 16), none⟩])
  (.cond (.t 17)
   (.seq (.region false [⟨(some 2), .mov (.c (.bool true)), none⟩])
   (.ret))
   (.skip)))
  (.seq (.region false [⟨(some 3), .mov (.c (.int .i64 0)), none⟩])
  (.seq (.seq (.region false [⟨(some 4), .mov (.c (.int .i64 0)), none⟩])
  (.block 0 (.loop A_law14_farL0)))
  (.seq (.region false [⟨(some 32), .mov (.t 3), none⟩,
    ⟨(some 33), .bin .gtr (.t 32) (.c (.int .i64 3000)), none⟩,
    ⟨(some 34), .mov (.t 33), none⟩,
    ⟨(some 35), .mov (.t 0), some (34, false)⟩,
    ⟨(some 36), .len (.t 35), some (34, false)⟩,
    ⟨(some 37), .bin .gtr (.t 36) (.c (.int .i64 100)), some (34, false)⟩,
    ⟨(some 38), .mov (.t 37), some (34, false)⟩,
    ⟨(some 39), .mov (.t 3), some (38, true)⟩,
    ⟨(some 40), .bin .gtr (.t 39) (.c (.int .i64 0)), some (38, true)⟩,
    ⟨(some 41), .pick (.t 38) (.t 40) (.c (.bool false)), some (34, false)⟩,
    ⟨(some 42), .pick (.t 34) (.c (.bool true)) (.t 41), none⟩,
    ⟨(some 2), .mov (.t 42), none⟩])
  (.ret))))),
  [.tmp 2]⟩

/- law14_shown -/
def A_law14_shown : AFun := ⟨65,
  .seq (.region false [⟨(some 0), .mov (.c (.bool false)), none⟩])
  (.seq (.region false [⟨(some 14), .call F_lexer_Line [(.c (.str [120, 32, 60, 45, 32, 91, 49, 32, 45, 50, 93, 32, 97, 100, 100, 32, 34, 97, 92, 117, 101, 57, 59, 34]))], none⟩,
    ⟨(some 13), .mov (.t 14), none⟩,
    ⟨(some 15), .extr (.t 13) 0, none⟩,
    ⟨(some 16), .extr (.t 13) 1, none⟩,
    ⟨(some 17), .extr (.t 13) 2, none⟩,
    ⟨(some 1), .mov (.t 15), none⟩,
    ⟨(some 2), .mov (.t 16), none⟩,
    ⟨(some 3), .mov (.t 17), none⟩])
  (.seq (.region false [⟨(some 19), .call F_law14_Example [], none⟩,
    ⟨(some 20), .call F_lexer_Print [(.t 19)], none⟩,
    ⟨(some 18), .mov (.t 20), none⟩,
    ⟨(some 21), .extr (.t 18) 0, none⟩,
    ⟨(some 22), .extr (.t 18) 1, none⟩,
    ⟨(some 23), .extr (.t 18) 2, none⟩,
    ⟨(some 4), .mov (.t 21), none⟩,
    ⟨(some 5), .mov (.t 22), none⟩,
    ⟨(some 6), .mov (.t 23), none⟩])
  (.seq (.region false [⟨(some 25), .call F_lexer_Line [(.c (.str [53, 120]))], none⟩,
    ⟨(some 24), .mov (.t 25), none⟩,
    ⟨(some 26), .extr (.t 24) 0, none⟩,
    ⟨(some 27), .extr (.t 24) 1, none⟩,
    ⟨(some 28), .extr (.t 24) 2, none⟩,
    ⟨(some 7), .mov (.t 26), none⟩,
    ⟨(some 8), .mov (.t 27), none⟩,
    ⟨(some 9), .mov (.t 28), none⟩])
  (.seq (.region false [⟨(some 30), .call F_lexer_Line [(.c (.str [120, 32, 60, 32, 53]))], none⟩,
    ⟨(some 29), .mov (.t 30), none⟩,
    ⟨(some 31), .extr (.t 29) 0, none⟩,
    ⟨(some 32), .extr (.t 29) 1, none⟩,
    ⟨(some 33), .extr (.t 29) 2, none⟩,
    ⟨(some 10), .mov (.t 31), none⟩,
    ⟨(some 11), .mov (.t 32), none⟩,
    ⟨(some 12), .mov (.t 33), none⟩])
  (.seq (.region false [⟨(some 34), .mov (.t 1), none⟩,
    ⟨(some 35), .call F_law14_Example [], none⟩,
    ⟨(some 36), .call F_ref14_Same [(.t 34), (.t 35), (.c (.bool false))], none⟩,
    ⟨(some 37), .mov (.t 36), none⟩,
    ⟨(some 38), .mov (.t 3), some (37, true)⟩,
    ⟨(some 39), .bin .eql (.t 38) (.c (.int .i64 0)), some (37, true)⟩,
    ⟨(some 40), .pick (.t 37) (.t 39) (.c (.bool false)), none⟩,
    ⟨(some 41), .mov (.t 40), none⟩,
    ⟨(some 42), .mov (.t 4), some (41, true)⟩,
    ⟨(some 43), .bin .eql (.t 42) (.c (.str [120, 32, 60, 45, 32, 91, 49, 32, 45, 50, 93, 32, 97, 100, 100, 32, 34, 97, 92, 117, 101, 57, 59, 34])), some (41, true)⟩,
    ⟨(some 44), .pick (.t 41) (.t 43) (.c (.bool false)), none⟩,
    ⟨(some 45), .mov (.t 44), none⟩,
    ⟨(some 46), .mov (.t 6), some (45, true)⟩,
    ⟨(some 47), .bin .eql (.t 46) (.c (.int .i64 0)), some (45, true)⟩,
    ⟨(some 48), .pick (.t 45) (.t 47) (.c (.bool false)), none⟩,
    ⟨(some 49), .mov (.t 48), none⟩,
    ⟨(some 50), .mov (.t 8), some (49, true)⟩,
    ⟨(some 51), .bin .eql (.t 50) (.c (.int .i64 1)), some (49, true)⟩,
    ⟨(some 52), .pick (.t 49) (.t 51) (.c (.bool false)), none⟩,
    ⟨(some 53), .mov (.t 52), none⟩,
    ⟨(some 54), .mov (.t 9), some (53, true)⟩,
    ⟨(some 55), .bin .eql (.t 54) (.c (.int .i64 6)), some (53, true)⟩,
    ⟨(some 56), .pick (.t 53) (.t 55) (.c (.bool false)), none⟩,
    ⟨(some 57), .mov (.t 56), none⟩,
    ⟨(some 58), .mov (.t 11), some (57, true)⟩,
    ⟨(some 59), .bin .eql (.t 58) (.c (.int .i64 2)), some (57, true)⟩,
    ⟨(some 60), .pick (.t 57) (.t 59) (.c (.bool false)), none⟩,
    ⟨(some 61), .mov (.t 60), none⟩,
    ⟨(some 62), .mov (.t 12), some (61, true)⟩,
    ⟨(some 63), .bin .eql (.t 62) (.c (.int .i64 6)), some (61, true)⟩,
    ⟨(some 64), .pick (.t 61) (.t 63) (.c (.bool false)), none⟩,
    ⟨(some 0), .mov (.t 64), none⟩])
  (.ret)))))),
  [.tmp 0]⟩

/- lexer_Print -/
def A_lexer_PrintL0 : ACode :=
  .seq (.region false [⟨(some 15), .bin .lss (.t 14) (.t 13), none⟩])
  (.seq (.cond (.t 15)
   (.skip)
   (.exit 0))
  (.seq (.block 1 (.seq (.region false [⟨(some 16), .mov (.t 14), none⟩,
    ⟨(some 17), .idxA 5 (.t 12) (.t 14), none⟩,
    ⟨(some 18), .ld (some 5) (.t 17), none⟩,
    ⟨(some 6), .alloc [.int .i64 0, .int .i64 0, .int .i64 0, .int .i64 0, .str []], none⟩,
    ⟨(some 5), .mov (.t 16), none⟩,
    ⟨none, .st 5 (.t 6) (.t 18), none⟩])
  (.seq (.region false [⟨(some 19), .ld (some 5) (.t 6), none⟩,
    ⟨(some 20), .call F_lexer_Check [(.t 19)], none⟩,
    ⟨(some 7), .mov (.t 20), none⟩])
  (.seq (.region false [⟨(some 21), .mov (.t 7), none⟩,
    ⟨(some 22), .bin .neq (.t 21) (.c (.int .i64 0)), none⟩])
  (.cond (.t 22)
   (.seq (.region false [⟨(some 23), .mov (.t 5), none⟩,
     ⟨(some 24), .mov (.t 7), none⟩,
     ⟨(some 2), .mov (.c (.str [])), none⟩,
     ⟨(some 3), .mov (.t 23), none⟩,
     ⟨(some 4), .mov (.t 24), none⟩])
   (.ret))
   (.skip))))))
  (.region false [⟨(some 25), .bin .add (.t 14) (.c (.int .i64 1)), none⟩,
    ⟨(some 14), .mov (.t 25), none⟩])))
def A_lexer_PrintL1 : ACode :=
  .seq (.region false [⟨(some 29), .bin .lss (.t 28) (.t 27), none⟩])
  (.seq (.cond (.t 29)
   (.skip)
   (.exit 2))
  (.seq (.block 3 (.seq (.region false [⟨(some 30), .idxA 5 (.t 26) (.t 28), none⟩,
    ⟨(some 31), .ld (some 5) (.t 30), none⟩,
    ⟨(some 11), .alloc [.int .i64 0, .int .i64 0, .int .i64 0, .int .i64 0, .str []], none⟩,
    ⟨none, .st 5 (.t 11) (.t 31), none⟩])
  (.seq (.seq (.region false [⟨(some 32), .mov (.t 9), none⟩,
    ⟨(some 33), .not (.t 32), none⟩,
    ⟨(some 34), .mov (.t 33), none⟩,
    ⟨(some 35), .fldA 0 (.t 11), some (34, true)⟩,
    ⟨(some 36), .ld none (.t 35), some (34, true)⟩,
    ⟨(some 37), .bin .neq (.t 36) (.c (.int .i64 5)), some (34, true)⟩,
    ⟨(some 38), .pick (.t 34) (.t 37) (.c (.bool false)), none⟩,
    ⟨(some 39), .mov (.t 38), none⟩,
    ⟨(some 40), .fldA 0 (.t 11), some (39, true)⟩,
    ⟨(some 41), .ld none (.t 40), some (39, true)⟩,
    ⟨(some 42), .bin .neq (.t 41) (.c (.int .i64 7)), some (39, true)⟩,
    ⟨(some 43), .pick (.t 39) (.t 42) (.c (.bool false)), none⟩])
  (.cond (.t 43)
   (.region false [⟨(some 44), .call F_strings_Builder_WriteByte [(.t 8), (.c (.int .u8 32))], none⟩])
   (.skip)))
  (.seq (.region false [⟨(some 45), .ld (some 5) (.t 11), none⟩,
    ⟨(some 46), .call F_lexer_written [(.t 45)], none⟩,
    ⟨(some 47), .call F_strings_Builder_WriteString [(.t 8), (.t 46)], none⟩])
  (.region false [⟨(some 48), .fldA 0 (.t 11), none⟩,
    ⟨(some 49), .ld none (.t 48), none⟩,
    ⟨(some 50), .bin .eql (.t 49) (.c (.int .i64 4)), none⟩,
    ⟨(some 51), .mov (.t 50), none⟩,
    ⟨(some 52), .fldA 0 (.t 11), some (51, false)⟩,
    ⟨(some 53), .ld none (.t 52), some (51, false)⟩,
    ⟨(some 54), .bin .eql (.t 53) (.c (.int .i64 6)), some (51, false)⟩,
    ⟨(some 55), .pick (.t 51) (.c (.bool true)) (.t 54), none⟩,
    ⟨(some 9), .mov (.t 55), none⟩])))))
  (.region false [⟨(some 56), .bin .add (.t 28) (.c (.int .i64 1)), none⟩,
    ⟨(some 28), .mov (.t 56), none⟩])))
def A_lexer_Print : AFun := ⟨60,
  .seq (.region false [⟨(some 2), .mov (.c (.str [])), none⟩,
    ⟨(some 3), .mov (.c (.int .i64 0)), none⟩,
    ⟨(some 4), .mov (.c (.int .i64 0)), none⟩])
  (.seq (.seq (.region false [⟨(some 12), .mov (.t 0), none⟩,
    ⟨(some 13), .len (.t 12), none⟩,
    ⟨(some 14), .mov (.c (.int .i64 0)), none⟩])
  (.block 0 (.loop A_lexer_PrintL0)))
  (.seq (.region false [⟨(some 8), .allocB 38 5, none⟩])
  (.seq (.region false [⟨(some 9), .mov (.c (.bool true)), none⟩])
  (.seq (.seq (.region false [⟨(some 26), .mov (.t 0), none⟩,
    ⟨(some 27), .len (.t 26), none⟩,
    ⟨(some 28), .mov (.c (.int .i64 0)), none⟩])
  (.block 2 (.loop A_lexer_PrintL1)))
  (.seq (.seq (.region false [⟨(some 57), .call F_strings_Builder_Len [(.t 8)], none⟩,
    ⟨(some 58), .bin .gtr (.t 57) (.c (.int .i64 2000)), none⟩])
  (.cond (.t 58)
   (.seq (.region false [⟨(some 2), .mov (.c (.str [])), none⟩,
     ⟨(some 3), .mov (.c (.int .i64 0)), none⟩,
     ⟨(some 4), .mov (.c (.int .i64 3)), none⟩])
   (.ret))
   (.skip)))
  (.seq (.region false [⟨(some 59), .call F_strings_Builder_String [(.t 8)], none⟩,
    ⟨(some 2), .mov (.t 59), none⟩,
    ⟨(some 3), .mov (.c (.int .i64 0)), none⟩,
    ⟨(some 4), .mov (.c (.int .i64 0)), none⟩])
  (.ret))))))),
  [.tmp 2, .tmp 3, .tmp 4]⟩

/- ref14_Print -/
def A_ref14_PrintL0 : ACode :=
  .seq (.seq (.region false [⟨(some 9), .mov (.t 5), none⟩,
    ⟨(some 10), .mov (.t 0), none⟩,
    ⟨(some 11), .len (.t 10), none⟩,
    ⟨(some 12), .bin .lss (.t 9) (.t 11), none⟩])
  (.cond (.t 12)
   (.skip)
   (.exit 0)))
  (.seq (.block 1 (.seq (.region false [⟨(some 15), .mov (.t 0), none⟩,
    ⟨(some 16), .mov (.t 5), none⟩,
    ⟨(some 17), .idxA 5 (.t 15) (.t 16), none⟩,
    ⟨(some 18), .ld (some 5) (.t 17), none⟩,
    ⟨(some 19), .call F_ref14_Check [(.t 18)], none⟩,
    ⟨(some 6), .mov (.t 19), none⟩])
  (.seq (.region false [⟨(some 20), .mov (.t 6), none⟩,
    ⟨(some 21), .bin .neq (.t 20) (.c (.int .i64 0)), none⟩])
  (.cond (.t 21)
   (.seq (.region false [⟨(some 22), .mov (.t 5), none⟩,
     ⟨(some 23), .mov (.t 6), none⟩,
     ⟨(some 2), .mov (.c (.str [])), none⟩,
     ⟨(some 3), .mov (.t 22), none⟩,
     ⟨(some 4), .mov (.t 23), none⟩])
   (.ret))
   (.skip)))))
  (.region false [⟨(some 13), .mov (.t 5), none⟩,
    ⟨(some 14), .bin .add (.t 13) (.c (.int .i64 1)), none⟩,
    ⟨(some 5), .mov (.t 14), none⟩]))
def A_ref14_PrintL1 : ACode :=
  .seq (.seq (.region false [⟨(some 24), .mov (.t 8), none⟩,
    ⟨(some 25), .mov (.t 0), none⟩,
    ⟨(some 26), .len (.t 25), none⟩,
    ⟨(some 27), .bin .lss (.t 24) (.t 26), none⟩])
  (.cond (.t 27)
   (.skip)
   (.exit 2)))
  (.seq (.block 3 (.seq (.seq (.region true [⟨(some 30), .mov (.t 8), none⟩,
    ⟨(some 31), .bin .gtr (.t 30) (.c (.int .i64 0)), none⟩,
    ⟨(some 32), .mov (.t 31), none⟩,
    ⟨(some 33), .mov (.t 0), some (32, true)⟩,
    ⟨(some 34), .mov (.t 8), some (32, true)⟩,
    ⟨(some 35), .bin .sub (.t 34) (.c (.int .i64 1)), some (32, true)⟩,
    ⟨(some 36), .idxA 5 (.t 33) (.t 35), some (32, true)⟩,
    ⟨(some 37), .ld (some 5) (.t 36), some (32, true)⟩,
    ⟨(some 38), .mov (.t 0), some (32, true)⟩,
    ⟨(some 39), .mov (.t 8), some (32, true)⟩,
    ⟨(some 40), .idxA 5 (.t 38) (.t 39), some (32, true)⟩,
    ⟨(some 41), .ld (some 5) (.t 40), some (32, true)⟩,
    ⟨(some 42), .call F_ref14_joined [(.t 37), (.t 41)], some (32, true)⟩,
    ⟨(some 43), .not (.t 42), some (32, true)⟩,
    ⟨(some 44), .pick (.t 32) (.t 43) (.c (.bool false)), none⟩])
  (.cond (.t 44)
   (.region false [⟨(some 45), .mov (.t 7), none⟩,
     ⟨(some 46), .bin .add (.t 45) (.c (.str [32])), none⟩,
     ⟨(some 7), .mov (.t 46), none⟩])
   (.skip)))
  (.seq (.region false [⟨(some 47), .mov (.t 7), none⟩,
    ⟨(some 48), .mov (.t 0), none⟩,
    ⟨(some 49), .mov (.t 8), none⟩,
    ⟨(some 50), .idxA 5 (.t 48) (.t 49), none⟩,
    ⟨(some 51), .ld (some 5) (.t 50), none⟩,
    ⟨(some 52), .call F_ref14_written [(.t 51)], none⟩,
    ⟨(some 53), .bin .add (.t 47) (.t 52), none⟩,
    ⟨(some 7), .mov (.t 53), none⟩])
  (.seq (.region false [⟨(some 54), .mov (.t 7), none⟩,
    ⟨(some 55), .lenS (.t 54), none⟩,
    ⟨(some 56), .bin .gtr (.t 55) (.c (.int .i64 2000)), none⟩])
  (.cond (.t 56)
   (.seq (.region false [⟨(some 2), .mov (.c (.str [])), none⟩,
     ⟨(some 3), .mov (.c (.int .i64 0)), none⟩,
     ⟨(some 4), .mov (.c (.int .i64 3)), none⟩])
   (.ret))
   (.skip))))))
  (.region false [⟨(some 28), .mov (.t 8), none⟩,
    ⟨(some 29), .bin .add (.t 28) (.c (.int .i64 1)), none⟩,
    ⟨(some 8), .mov (.t 29), none⟩]))
def A_ref14_Print : AFun := ⟨58,
  .seq (.region false [⟨(some 2), .mov (.c (.str [])), none⟩,
    ⟨(some 3), .mov (.c (.int .i64 0)), none⟩,
    ⟨(some 4), .mov (.c (.int .i64 0)), none⟩])
  (.seq (.seq (.region false [⟨(some 5), .mov (.c (.int .i64 0)), none⟩])
  (.block 0 (.loop A_ref14_PrintL0)))
  (.seq (.region false [⟨(some 7), .mov (.c (.str [])), none⟩])
  (.seq (.seq (.region false [⟨(some 8), .mov (.c (.int .i64 0)), none⟩])
  (.block 2 (.loop A_ref14_PrintL1)))
  (.seq (.region false [⟨(some 57), .mov (.t 7), none⟩,
    ⟨(some 2), .mov (.t 57), none⟩,
    ⟨(some 3), .mov (.c (.int .i64 0)), none⟩,
    ⟨(some 4), .mov (.c (.int .i64 0)), none⟩])
  (.ret))))),
  [.tmp 2, .tmp 3, .tmp 4]⟩

/- lexer_Check -/
def A_lexer_Check : AFun := ⟨68,
  .seq (.region false [⟨(some 1), .box (.t 0), none⟩,
    ⟨(some 2), .mov (.c (.int .i64 0)), none⟩])
  (.seq (.region false [⟨(some 6), .fldA 0 (.t 1), none⟩,
    ⟨(some 7), .ld none (.t 6), none⟩,
    ⟨(some 8), .fldA 1 (.t 1), none⟩,
    ⟨(some 9), .ld none (.t 8), none⟩,
    ⟨(some 10), .fldA 2 (.t 1), none⟩,
    ⟨(some 11), .ld none (.t 10), none⟩,
    ⟨(some 12), .build [.int .i64 0, .int .i64 0, .int .i64 0, .int .i64 0, .str []] [(0, 1, (.t 7)), (1, 1, (.t 9)), (2, 1, (.t 11))], none⟩,
    ⟨(some 3), .alloc [.int .i64 0, .int .i64 0, .int .i64 0, .int .i64 0, .str []], none⟩,
    ⟨none, .st 5 (.t 3) (.t 12), none⟩])
  (.seq (.seq (.region false [⟨(some 13), .fldA 0 (.t 1), none⟩,
    ⟨(some 14), .ld none (.t 13), none⟩])
  (.block 0 (.seq (.seq (.region false [⟨(some 16), .bin .eql (.t 14) (.c (.int .i64 1)), none⟩,
    ⟨(some 15), .mov (.t 16), none⟩])
  (.cond (.t 15)
   (.skip)
   (.region false [⟨(some 17), .bin .eql (.t 14) (.c (.int .i64 3)), none⟩,
     ⟨(some 15), .mov (.t 17), none⟩])))
  (.cond (.t 15)
   (.region false [⟨(some 18), .fldA 4 (.t 1), none⟩,
     ⟨(some 19), .ld none (.t 18), none⟩,
     ⟨(some 20), .fldA 4 (.t 3), none⟩,
     ⟨none, .st 1 (.t 20) (.t 19), none⟩])
   (.seq (.region false [⟨(some 22), .bin .eql (.t 14) (.c (.int .i64 2)), none⟩,
     ⟨(some 21), .mov (.t 22), none⟩])
   (.cond (.t 21)
    (.region false [⟨(some 23), .fldA 3 (.t 1), none⟩,
      ⟨(some 24), .ld none (.t 23), none⟩,
      ⟨(some 25), .fldA 3 (.t 3), none⟩,
      ⟨none, .st 1 (.t 25) (.t 24), none⟩])
    (.skip)))))))
  (.seq (.seq (.region false [⟨(some 26), .fldA 0 (.t 1), none⟩,
    ⟨(some 27), .ld none (.t 26), none⟩,
    ⟨(some 28), .bin .lss (.t 27) (.c (.int .i64 1)), none⟩,
    ⟨(some 29), .mov (.t 28), none⟩,
    ⟨(some 30), .fldA 0 (.t 1), some (29, false)⟩,
    ⟨(some 31), .ld none (.t 30), some (29, false)⟩,
    ⟨(some 32), .bin .gtr (.t 31) (.c (.int .i64 9)), some (29, false)⟩,
    ⟨(some 33), .pick (.t 29) (.c (.bool true)) (.t 32), none⟩,
    ⟨(some 34), .mov (.t 33), none⟩,
    ⟨(some 35), .ld (some 5) (.t 1), some (34, false)⟩,
    ⟨(some 36), .ld (some 5) (.t 3), some (34, false)⟩,
    ⟨(some 37), .aeq true [0, 0, 0, 0, 2] (.t 35) (.t 36), some (34, false)⟩,
    ⟨(some 38), .pick (.t 34) (.c (.bool true)) (.t 37), none⟩])
  (.cond (.t 38)
   (.seq (.region false [⟨(some 2), .mov (.c (.int .i64 2)), none⟩])
   (.ret))
   (.skip)))
  (.seq (.region false [⟨(some 4), .mov (.c (.int .i64 0)), none⟩])
  (.seq (.seq (.region false [⟨(some 39), .fldA 0 (.t 1), none⟩,
    ⟨(some 40), .ld none (.t 39), none⟩])
  (.block 1 (.seq (.region false [⟨(some 42), .bin .eql (.t 40) (.c (.int .i64 1)), none⟩,
    ⟨(some 41), .mov (.t 42), none⟩])
  (.cond (.t 41)
   (.seq (.region false [⟨(some 43), .fldA 4 (.t 1), none⟩,
     ⟨(some 44), .ld none (.t 43), none⟩,
     ⟨(some 45), .build [.str [], .int .i64 0] [(0, 1, (.t 44))], none⟩,
     ⟨(some 46), .box (.t 45), none⟩,
     ⟨(some 5), .mov (.t 46), none⟩])
   (.seq (.seq (.region true [⟨(some 47), .mov (.t 5), none⟩,
     ⟨(some 48), .call F_lexer_reader_class [(.t 47), (.c (.int .i64 0))], none⟩,
     ⟨(some 49), .bin .neq (.t 48) (.c (.int .i64 8)), none⟩,
     ⟨(some 50), .mov (.t 49), none⟩,
     ⟨(some 51), .mov (.t 5), some (50, false)⟩,
     ⟨(some 52), .inv [(21, F_gosem_cut)] (.m false 51) [(.t 51), (.c (.int .i64 8)), (.c (.int .i64 6))], some (50, false)⟩,
     ⟨(some 53), .fldA 4 (.t 1), some (50, false)⟩,
     ⟨(some 54), .ld none (.m true 53), some (50, false)⟩,
     ⟨(some 55), .bin .neq (.t 52) (.t 54), some (50, false)⟩,
     ⟨(some 56), .pick (.t 50) (.c (.bool true)) (.t 55), none⟩])
   (.cond (.t 56)
    (.seq (.region false [⟨(some 2), .mov (.c (.int .i64 6)), none⟩])
    (.ret))
    (.skip)))
   (.region false [⟨(some 4), .mov (.c (.int .i64 16)), none⟩])))
   (.seq (.region false [⟨(some 58), .bin .eql (.t 40) (.c (.int .i64 3)), none⟩,
     ⟨(some 57), .mov (.t 58), none⟩])
   (.cond (.t 57)
    (.seq (.seq (.region false [⟨(some 59), .fldA 4 (.t 1), none⟩,
      ⟨(some 60), .ld none (.t 59), none⟩,
      ⟨(some 61), .call F_utf8_ValidString [(.t 60)], none⟩,
      ⟨(some 62), .not (.t 61), none⟩])
    (.cond (.t 62)
     (.seq (.region false [⟨(some 2), .mov (.c (.int .i64 6)), none⟩])
     (.ret))
     (.skip)))
    (.region false [⟨(some 4), .mov (.c (.int .i64 2000)), none⟩]))
    (.skip)))))))
  (.seq (.seq (.region false [⟨(some 63), .fldA 4 (.t 1), none⟩,
    ⟨(some 64), .ld none (.t 63), none⟩,
    ⟨(some 65), .lenS (.t 64), none⟩,
    ⟨(some 66), .mov (.t 4), none⟩,
    ⟨(some 67), .bin .gtr (.t 65) (.t 66), none⟩])
  (.cond (.t 67)
   (.seq (.region false [⟨(some 2), .mov (.c (.int .i64 3)), none⟩])
   (.ret))
   (.skip)))
  (.seq (.region false [⟨(some 2), .mov (.c (.int .i64 0)), none⟩])
  (.ret)))))))),
  [.tmp 2]⟩

/- ref14_Check -/
def A_ref14_Check : AFun := ⟨64,
  .seq (.region false [⟨(some 1), .box (.t 0), none⟩,
    ⟨(some 2), .mov (.c (.int .i64 0)), none⟩])
  (.seq (.seq (.region false [⟨(some 5), .fldA 0 (.t 1), none⟩,
    ⟨(some 6), .ld none (.t 5), none⟩,
    ⟨(some 7), .bin .lss (.t 6) (.c (.int .i64 1)), none⟩,
    ⟨(some 8), .mov (.t 7), none⟩,
    ⟨(some 9), .fldA 0 (.t 1), some (8, false)⟩,
    ⟨(some 10), .ld none (.t 9), some (8, false)⟩,
    ⟨(some 11), .bin .gtr (.t 10) (.c (.int .i64 9)), some (8, false)⟩,
    ⟨(some 12), .pick (.t 8) (.c (.bool true)) (.t 11), none⟩,
    ⟨(some 13), .mov (.t 12), none⟩,
    ⟨(some 14), .fldA 0 (.t 1), some (13, false)⟩,
    ⟨(some 15), .ld none (.t 14), some (13, false)⟩,
    ⟨(some 16), .bin .neq (.t 15) (.c (.int .i64 2)), some (13, false)⟩,
    ⟨(some 17), .mov (.t 16), some (13, false)⟩,
    ⟨(some 18), .fldA 3 (.t 1), some (17, true)⟩,
    ⟨(some 19), .ld none (.t 18), some (17, true)⟩,
    ⟨(some 20), .bin .neq (.t 19) (.c (.int .i64 0)), some (17, true)⟩,
    ⟨(some 21), .pick (.t 17) (.t 20) (.c (.bool false)), some (13, false)⟩,
    ⟨(some 22), .pick (.t 13) (.c (.bool true)) (.t 21), none⟩,
    ⟨(some 23), .mov (.t 22), none⟩,
    ⟨(some 24), .fldA 0 (.t 1), some (23, false)⟩,
    ⟨(some 25), .ld none (.t 24), some (23, false)⟩,
    ⟨(some 26), .bin .neq (.t 25) (.c (.int .i64 1)), some (23, false)⟩,
    ⟨(some 27), .mov (.t 26), some (23, false)⟩,
    ⟨(some 28), .fldA 0 (.t 1), some (27, true)⟩,
    ⟨(some 29), .ld none (.t 28), some (27, true)⟩,
    ⟨(some 30), .bin .neq (.t 29) (.c (.int .i64 3)), some (27, true)⟩,
    ⟨(some 31), .pick (.t 27) (.t 30) (.c (.bool false)), some (23, false)⟩,
    ⟨(some 32), .mov (.t 31), some (23, false)⟩,
    ⟨(some 33), .fldA 4 (.t 1), some (32, true)⟩,
    ⟨(some 34), .ld none (.t 33), some (32, true)⟩,
    ⟨(some 35), .bin .neq (.t 34) (.c (.str [])), some (32, true)⟩,
    ⟨(some 36), .pick (.t 32) (.t 35) (.c (.bool false)), some (23, false)⟩,
    ⟨(some 37), .pick (.t 23) (.c (.bool true)) (.t 36), none⟩])
  (.cond (.t 37)
   (.seq (.region false [⟨(some 2), .mov (.c (.int .i64 2)), none⟩])
   (.ret))
   (.skip)))
  (.seq (.seq (.region false [⟨(some 38), .fldA 0 (.t 1), none⟩,
    ⟨(some 39), .ld none (.t 38), none⟩])
  (.block 0 (.seq (.region false [⟨(some 41), .bin .eql (.t 39) (.c (.int .i64 1)), none⟩,
    ⟨(some 40), .mov (.t 41), none⟩])
  (.cond (.t 40)
   (.seq (.seq (.region false [⟨(some 42), .fldA 4 (.t 1), none⟩,
     ⟨(some 43), .ld none (.t 42), none⟩,
     ⟨(some 44), .call F_ref14_named [(.t 43)], none⟩,
     ⟨(some 45), .not (.t 44), none⟩])
   (.cond (.t 45)
    (.seq (.region false [⟨(some 2), .mov (.c (.int .i64 6)), none⟩])
    (.ret))
    (.skip)))
   (.seq (.region false [⟨(some 46), .fldA 4 (.t 1), none⟩,
     ⟨(some 47), .ld none (.t 46), none⟩,
     ⟨(some 48), .lenS (.t 47), none⟩,
     ⟨(some 49), .bin .gtr (.t 48) (.c (.int .i64 16)), none⟩])
   (.cond (.t 49)
    (.seq (.region false [⟨(some 2), .mov (.c (.int .i64 3)), none⟩])
    (.ret))
    (.skip))))
   (.seq (.region false [⟨(some 51), .bin .eql (.t 39) (.c (.int .i64 3)), none⟩,
     ⟨(some 50), .mov (.t 51), none⟩])
   (.cond (.t 50)
    (.seq (.region false [⟨(some 53), .fldA 4 (.t 1), none⟩,
      ⟨(some 54), .ld none (.t 53), none⟩,
      ⟨(some 55), .call F_ref14_runes [(.t 54)], none⟩,
      ⟨(some 52), .mov (.t 55), none⟩,
      ⟨(some 56), .extr (.t 52) 0, none⟩,
      ⟨(some 57), .extr (.t 52) 1, none⟩,
      ⟨(some 3), .mov (.t 56), none⟩,
      ⟨(some 4), .mov (.t 57), none⟩])
    (.seq (.seq (.region false [⟨(some 58), .mov (.t 4), none⟩,
      ⟨(some 59), .not (.t 58), none⟩])
    (.cond (.t 59)
     (.seq (.region false [⟨(some 2), .mov (.c (.int .i64 6)), none⟩])
     (.ret))
     (.skip)))
    (.seq (.region false [⟨(some 60), .fldA 4 (.t 1), none⟩,
      ⟨(some 61), .ld none (.t 60), none⟩,
      ⟨(some 62), .lenS (.t 61), none⟩,
      ⟨(some 63), .bin .gtr (.t 62) (.c (.int .i64 2000)), none⟩])
    (.cond (.t 63)
     (.seq (.region false [⟨(some 2), .mov (.c (.int .i64 3)), none⟩])
     (.ret))
     (.skip)))))
    (.skip)))))))
  (.seq (.region false [⟨(some 2), .mov (.c (.int .i64 0)), none⟩])
  (.ret)))),
  [.tmp 2]⟩

/- lexer_Line -/
def A_lexer_LineL0 : ACode :=
  .seq (.seq (.region false [⟨(some 16), .mov (.t 5), none⟩,
    ⟨(some 17), .nck (.t 16), none⟩,
    ⟨(some 18), .fldA 1 (.t 17), none⟩,
    ⟨(some 19), .ld none (.t 18), none⟩,
    ⟨(some 20), .mov (.t 0), none⟩,
    ⟨(some 21), .lenS (.t 20), none⟩,
    ⟨(some 22), .bin .lss (.t 19) (.t 21), none⟩])
  (.cond (.t 22)
   (.skip)
   (.exit 0)))
  (.block 1 (.seq (.region false [⟨(some 23), .mov (.t 5), none⟩,
    ⟨(some 24), .mkf F_lexer_reader_mark [(.t 23)] [], none⟩,
    ⟨(some 6), .mov (.t 24), none⟩])
  (.seq (.seq (.region false [⟨(some 25), .mov (.t 5), none⟩,
    ⟨(some 26), .mov (.t 5), none⟩,
    ⟨(some 27), .nck (.t 26), none⟩,
    ⟨(some 28), .fldA 1 (.t 27), none⟩,
    ⟨(some 29), .ld none (.t 28), none⟩,
    ⟨(some 30), .call F_lexer_reader_class [(.t 25), (.t 29)], none⟩])
  (.block 2 (.seq (.region false [⟨(some 32), .bin .eql (.t 30) (.c (.int .i64 1)), none⟩,
    ⟨(some 31), .mov (.t 32), none⟩])
  (.cond (.t 31)
   (.seq (.region false [⟨(some 33), .mov (.t 5), none⟩,
     ⟨(some 34), .nck (.t 33), none⟩,
     ⟨(some 35), .fldA 1 (.t 34), none⟩,
     ⟨(some 36), .ld none (.t 35), none⟩,
     ⟨(some 37), .bin .add (.t 36) (.c (.int .i64 1)), none⟩,
     ⟨(some 38), .nck (.t 33), none⟩,
     ⟨(some 39), .fldA 1 (.t 38), none⟩,
     ⟨none, .st 1 (.t 39) (.t 37), none⟩])
   (.exit 1))
   (.seq (.region false [⟨(some 41), .bin .eql (.t 30) (.c (.int .i64 8)), none⟩,
     ⟨(some 40), .mov (.t 41), none⟩])
   (.cond (.t 40)
    (.region false [⟨(some 42), .mov (.t 5), none⟩,
      ⟨(some 43), .mkf F_lexer_reader_word [(.t 42)] [], none⟩,
      ⟨(some 6), .mov (.t 43), none⟩])
    (.seq (.seq (.region false [⟨(some 45), .bin .eql (.t 30) (.c (.int .i64 6)), none⟩,
      ⟨(some 44), .mov (.t 45), none⟩])
    (.cond (.t 44)
     (.skip)
     (.region false [⟨(some 46), .bin .eql (.t 30) (.c (.int .i64 7)), none⟩,
       ⟨(some 44), .mov (.t 46), none⟩])))
    (.cond (.t 44)
     (.region false [⟨(some 47), .mov (.t 5), none⟩,
       ⟨(some 48), .mkf F_lexer_reader_number [(.t 47)] [], none⟩,
       ⟨(some 6), .mov (.t 48), none⟩])
     (.seq (.region false [⟨(some 50), .bin .eql (.t 30) (.c (.int .i64 5)), none⟩,
       ⟨(some 49), .mov (.t 50), none⟩])
     (.cond (.t 49)
      (.region false [⟨(some 51), .mov (.t 5), none⟩,
        ⟨(some 52), .mkf F_lexer_reader_text [(.t 51)] [], none⟩,
        ⟨(some 6), .mov (.t 52), none⟩])
      (.skip)))))))))))
  (.seq (.region false [⟨(some 53), .mov (.t 5), none⟩,
    ⟨(some 54), .nck (.t 53), none⟩,
    ⟨(some 55), .fldA 1 (.t 54), none⟩,
    ⟨(some 56), .ld none (.t 55), none⟩,
    ⟨(some 7), .mov (.t 56), none⟩])
  (.seq (.region false [⟨(some 58), .mov (.t 6), none⟩,
    ⟨(some 59), .callv (.t 58) [], none⟩,
    ⟨(some 57), .mov (.t 59), none⟩,
    ⟨(some 60), .extr (.t 57) 0, none⟩,
    ⟨(some 61), .extr (.t 57) 1, none⟩,
    ⟨(some 8), .alloc [.int .i64 0, .int .i64 0, .int .i64 0, .int .i64 0, .str []], none⟩,
    ⟨(some 9), .alloc [.int .i64 0, .int .i64 0], none⟩,
    ⟨none, .st 5 (.t 8) (.t 60), none⟩,
    ⟨none, .st 2 (.t 9) (.t 61), none⟩])
  (.seq (.seq (.region false [⟨(some 62), .fldA 1 (.t 9), none⟩,
    ⟨(some 63), .ld none (.t 62), none⟩,
    ⟨(some 64), .bin .neq (.t 63) (.c (.int .i64 0)), none⟩])
  (.cond (.t 64)
   (.seq (.region true [⟨(some 65), .fldA 0 (.t 9), none⟩,
     ⟨(some 66), .ld none (.t 65), none⟩,
     ⟨(some 67), .fldA 1 (.t 9), none⟩,
     ⟨(some 68), .ld none (.t 67), none⟩,
     ⟨(some 2), .mov (.c (.sl .ex [])), none⟩,
     ⟨(some 3), .mov (.t 66), none⟩,
     ⟨(some 4), .mov (.t 68), none⟩])
   (.ret))
   (.skip)))
  (.seq (.region true [⟨(some 69), .mov (.t 7), none⟩,
    ⟨(some 70), .mov (.t 5), none⟩,
    ⟨(some 71), .nck (.t 70), none⟩,
    ⟨(some 72), .fldA 1 (.t 71), none⟩,
    ⟨(some 73), .ld none (.m true 72), none⟩,
    ⟨(some 74), .fldA 1 (.t 8), none⟩,
    ⟨none, .st 1 (.m false 74) (.t 69), none⟩,
    ⟨(some 75), .fldA 2 (.t 8), none⟩,
    ⟨none, .st 1 (.m false 75) (.t 73), none⟩])
  (.region false [⟨(some 76), .mov (.t 2), none⟩,
    ⟨(some 77), .ld (some 5) (.t 8), none⟩,
    ⟨(some 78), .bsl 5 (.agg [.int .i64 0, .int .i64 0, .int .i64 0, .int .i64 0, .str []]) 1 [(0, (.t 77))], none⟩,
    ⟨(some 79), .app 5 48 (.t 76) (.t 78), none⟩,
    ⟨(some 2), .mov (.t 79), none⟩]))))))))
def A_lexer_Line : AFun := ⟨81,
  .seq (.region false [⟨(some 2), .mov (.c (.sl .ex [])), none⟩,
    ⟨(some 3), .mov (.c (.int .i64 0)), none⟩,
    ⟨(some 4), .mov (.c (.int .i64 0)), none⟩])
  (.scope (.seq (.seq (.region false [⟨(some 10), .mov (.t 0), none⟩,
     ⟨(some 11), .lenS (.t 10), none⟩,
     ⟨(some 12), .bin .gtr (.t 11) (.c (.int .i64 2000)), none⟩])
   (.cond (.t 12)
    (.seq (.region false [⟨(some 2), .mov (.c (.sl .ex [])), none⟩,
      ⟨(some 3), .mov (.c (.int .i64 0)), none⟩,
      ⟨(some 4), .mov (.c (.int .i64 3)), none⟩])
    (.ret))
    (.skip)))
   (.seq (.region false [⟨(some 13), .mov (.t 0), none⟩,
     ⟨(some 14), .build [.str [], .int .i64 0] [(0, 1, (.t 13))], none⟩,
     ⟨(some 15), .box (.t 14), none⟩,
     ⟨(some 5), .mov (.t 15), none⟩])
   (.seq (.label 0)
   (.seq (.block 0 (.loop A_lexer_LineL0))
   (.seq (.region false [⟨(some 80), .mov (.t 2), none⟩,
     ⟨(some 2), .mov (.t 80), none⟩,
     ⟨(some 3), .mov (.c (.int .i64 0)), none⟩,
     ⟨(some 4), .mov (.c (.int .i64 0)), none⟩])
   (.ret))))))),
  [.tmp 2, .tmp 3, .tmp 4]⟩

/- law14_Example -/
def A_law14_Example : AFun := ⟨10,
  .seq (.region false [⟨(some 0), .mov (.c (.sl .ex [])), none⟩])
  (.seq (.region false [⟨(some 1), .build [.int .i64 0, .int .i64 0, .int .i64 0, .int .i64 0, .str []] [(0, 1, (.c (.int .i64 1))), (4, 1, (.c (.str [120])))], none⟩,
    ⟨(some 2), .build [.int .i64 0, .int .i64 0, .int .i64 0, .int .i64 0, .str []] [(0, 1, (.c (.int .i64 8)))], none⟩,
    ⟨(some 3), .build [.int .i64 0, .int .i64 0, .int .i64 0, .int .i64 0, .str []] [(0, 1, (.c (.int .i64 6)))], none⟩,
    ⟨(some 4), .build [.int .i64 0, .int .i64 0, .int .i64 0, .int .i64 0, .str []] [(0, 1, (.c (.int .i64 2))), (3, 1, (.c (.int .i64 1)))], none⟩,
    ⟨(some 5), .build [.int .i64 0, .int .i64 0, .int .i64 0, .int .i64 0, .str []] [(0, 1, (.c (.int .i64 2))), (3, 1, (.c (.int .i64 (-2))))], none⟩,
    ⟨(some 6), .build [.int .i64 0, .int .i64 0, .int .i64 0, .int .i64 0, .str []] [(0, 1, (.c (.int .i64 7)))], none⟩,
    ⟨(some 7), .build [.int .i64 0, .int .i64 0, .int .i64 0, .int .i64 0, .str []] [(0, 1, (.c (.int .i64 1))), (4, 1, (.c (.str [97, 100, 100])))], none⟩,
    ⟨(some 8), .build [.int .i64 0, .int .i64 0, .int .i64 0, .int .i64 0, .str []] [(0, 1, (.c (.int .i64 3))), (4, 1, (.c (.str [97, 195, 169])))], none⟩,
    ⟨(some 9), .bsl 5 (.agg [.int .i64 0, .int .i64 0, .int .i64 0, .int .i64 0, .str []]) 8 [(0, (.t 1)), (1, (.t 2)), (2, (.t 3)), (3, (.t 4)), (4, (.t 5)), (5, (.t 6)), (6, (.t 7)), (7, (.t 8))], none⟩,
    ⟨(some 0), .mov (.t 9), none⟩])
  (.ret)),
  [.tmp 0]⟩

/- ref14_Same -/
def A_ref14_SameL0 : ACode :=
  .seq (.seq (.region false [⟨(some 15), .mov (.t 7), none⟩,
    ⟨(some 16), .mov (.t 0), none⟩,
    ⟨(some 17), .len (.t 16), none⟩,
    ⟨(some 18), .bin .lss (.t 15) (.t 17), none⟩])
  (.cond (.t 18)
   (.skip)
   (.exit 0)))
  (.seq (.block 1 (.seq (.region true [⟨(some 21), .mov (.t 0), none⟩,
    ⟨(some 22), .mov (.t 7), none⟩,
    ⟨(some 23), .idxA 5 (.t 21) (.t 22), none⟩,
    ⟨(some 24), .lds (some 5) (.t 23), none⟩,
    ⟨(some 25), .mov (.t 1), none⟩,
    ⟨(some 26), .mov (.t 7), none⟩,
    ⟨(some 27), .idxA 5 (.t 25) (.t 26), none⟩,
    ⟨(some 28), .lds (some 5) (.t 27), none⟩,
    ⟨(some 8), .mov (.c (.undef)), none⟩,
    ⟨(some 9), .mov (.c (.undef)), none⟩,
    ⟨(some 8), .boxS 5 (.t 24), none⟩,
    ⟨(some 9), .boxS 5 (.t 28), none⟩])
  (.seq (.seq (.region false [⟨(some 29), .mov (.t 2), none⟩,
    ⟨(some 30), .not (.t 29), none⟩])
  (.cond (.t 30)
   (.region true [⟨(some 31), .fldA 1 (.t 9), none⟩,
     ⟨(some 32), .ld none (.m true 65567), none⟩,
     ⟨(some 33), .fldA 2 (.t 9), none⟩,
     ⟨(some 34), .ld none (.m true 65569), none⟩,
     ⟨(some 35), .fldA 1 (.t 8), none⟩,
     ⟨none, .st 1 (.m false 65571) (.t 32), none⟩,
     ⟨(some 36), .fldA 2 (.t 8), none⟩,
     ⟨none, .st 1 (.m false 65572) (.t 34), none⟩])
   (.skip)))
  (.seq (.region false [⟨(some 37), .ld (some 5) (.t 8), none⟩,
    ⟨(some 38), .ld (some 5) (.t 9), none⟩,
    ⟨(some 39), .aeq true [0, 0, 0, 0, 2] (.t 37) (.t 38), none⟩])
  (.cond (.t 39)
   (.seq (.region false [⟨(some 6), .mov (.c (.bool false)), none⟩])
   (.ret))
   (.skip))))))
  (.region false [⟨(some 19), .mov (.t 7), none⟩,
    ⟨(some 20), .bin .add (.t 19) (.c (.int .i64 1)), none⟩,
    ⟨(some 7), .mov (.t 20), none⟩]))
def A_ref14_Same : AFun := ⟨40,
  .seq (.region false [⟨(some 6), .mov (.c (.bool false)), none⟩])
  (.seq (.seq (.region false [⟨(some 10), .mov (.t 0), none⟩,
    ⟨(some 11), .len (.t 10), none⟩,
    ⟨(some 12), .mov (.t 1), none⟩,
    ⟨(some 13), .len (.t 12), none⟩,
    ⟨(some 14), .bin .neq (.t 11) (.t 13), none⟩])
  (.cond (.t 14)
   (.seq (.region false [⟨(some 6), .mov (.c (.bool false)), none⟩])
   (.ret))
   (.skip)))
  (.seq (.seq (.region false [⟨(some 7), .mov (.c (.int .i64 0)), none⟩])
  (.block 0 (.loop A_ref14_SameL0)))
  (.seq (.region false [⟨(some 6), .mov (.c (.bool true)), none⟩])
  (.ret)))),
  [.tmp 6]⟩

/- lexer_written -/
def A_lexer_written : AFun := ⟨23,
  .seq (.region false [⟨(some 1), .box (.t 0), none⟩,
    ⟨(some 2), .mov (.c (.str [])), none⟩])
  (.seq (.seq (.region false [⟨(some 3), .fldA 0 (.t 1), none⟩,
    ⟨(some 4), .ld none (.t 3), none⟩])
  (.block 0 (.seq (.region false [⟨(some 6), .bin .eql (.t 4) (.c (.int .i64 1)), none⟩,
    ⟨(some 5), .mov (.t 6), none⟩])
  (.cond (.t 5)
   (.seq (.region false [⟨(some 7), .fldA 4 (.t 1), none⟩,
     ⟨(some 8), .ld none (.t 7), none⟩,
     ⟨(some 2), .mov (.t 8), none⟩])
   (.ret))
   (.seq (.region false [⟨(some 10), .bin .eql (.t 4) (.c (.int .i64 2)), none⟩,
     ⟨(some 9), .mov (.t 10), none⟩])
   (.cond (.t 9)
    (.seq (.region false [⟨(some 11), .fldA 3 (.t 1), none⟩,
      ⟨(some 12), .ld none (.t 11), none⟩,
      ⟨(some 13), .call F_strconv_FormatInt [(.t 12), (.c (.int .i64 10))], none⟩,
      ⟨(some 2), .mov (.t 13), none⟩])
    (.ret))
    (.seq (.region false [⟨(some 15), .bin .eql (.t 4) (.c (.int .i64 3)), none⟩,
      ⟨(some 14), .mov (.t 15), none⟩])
    (.cond (.t 14)
     (.seq (.region false [⟨(some 16), .fldA 4 (.t 1), none⟩,
       ⟨(some 17), .ld none (.t 16), none⟩,
       ⟨(some 18), .call F_lexer_quoted [(.t 17)], none⟩,
       ⟨(some 2), .mov (.t 18), none⟩])
     (.ret))
     (.skip)))))))))
  (.seq (.region false [⟨(some 19), .build [.str [], .str [], .str [], .str [], .str [], .str [], .str [], .str [], .str [], .str []] [(4, 1, (.c (.str [40]))), (5, 1, (.c (.str [41]))), (6, 1, (.c (.str [91]))), (7, 1, (.c (.str [93]))), (8, 1, (.c (.str [60, 45]))), (9, 1, (.c (.str [61])))], none⟩,
    ⟨(some 20), .fldA 0 (.t 1), none⟩,
    ⟨(some 21), .ld none (.t 20), none⟩,
    ⟨(some 22), .idxG 10 1 none (.t 19) (.t 21), none⟩,
    ⟨(some 2), .mov (.t 22), none⟩])
  (.ret))),
  [.tmp 2]⟩

/- ref14_joined -/
def A_ref14_joined : AFun := ⟨23,
  .seq (.region false [⟨(some 2), .box (.t 0), none⟩,
    ⟨(some 3), .box (.t 1), none⟩,
    ⟨(some 4), .mov (.c (.bool false)), none⟩])
  (.seq (.region false [⟨(some 5), .fldA 0 (.t 2), none⟩,
    ⟨(some 6), .ld none (.t 5), none⟩,
    ⟨(some 7), .bin .eql (.t 6) (.c (.int .i64 4)), none⟩,
    ⟨(some 8), .mov (.t 7), none⟩,
    ⟨(some 9), .fldA 0 (.t 2), some (8, false)⟩,
    ⟨(some 10), .ld none (.t 9), some (8, false)⟩,
    ⟨(some 11), .bin .eql (.t 10) (.c (.int .i64 6)), some (8, false)⟩,
    ⟨(some 12), .pick (.t 8) (.c (.bool true)) (.t 11), none⟩,
    ⟨(some 13), .mov (.t 12), none⟩,
    ⟨(some 14), .fldA 0 (.t 3), some (13, false)⟩,
    ⟨(some 15), .ld none (.t 14), some (13, false)⟩,
    ⟨(some 16), .bin .eql (.t 15) (.c (.int .i64 5)), some (13, false)⟩,
    ⟨(some 17), .pick (.t 13) (.c (.bool true)) (.t 16), none⟩,
    ⟨(some 18), .mov (.t 17), none⟩,
    ⟨(some 19), .fldA 0 (.t 3), some (18, false)⟩,
    ⟨(some 20), .ld none (.t 19), some (18, false)⟩,
    ⟨(some 21), .bin .eql (.t 20) (.c (.int .i64 7)), some (18, false)⟩,
    ⟨(some 22), .pick (.t 18) (.c (.bool true)) (.t 21), none⟩,
    ⟨(some 4), .mov (.t 22), none⟩])
  (.ret)),
  [.tmp 4]⟩

/- ref14_written -/
def A_ref14_written : AFun := ⟨29,
  .seq (.region false [⟨(some 1), .box (.t 0), none⟩,
    ⟨(some 2), .mov (.c (.str [])), none⟩])
  (.seq (.seq (.region false [⟨(some 5), .fldA 0 (.t 1), none⟩,
    ⟨(some 6), .ld none (.t 5), none⟩])
  (.block 0 (.seq (.region false [⟨(some 8), .bin .eql (.t 6) (.c (.int .i64 1)), none⟩,
    ⟨(some 7), .mov (.t 8), none⟩])
  (.cond (.t 7)
   (.seq (.region false [⟨(some 9), .fldA 4 (.t 1), none⟩,
     ⟨(some 10), .ld none (.t 9), none⟩,
     ⟨(some 2), .mov (.t 10), none⟩])
   (.ret))
   (.seq (.region false [⟨(some 12), .bin .eql (.t 6) (.c (.int .i64 2)), none⟩,
     ⟨(some 11), .mov (.t 12), none⟩])
   (.cond (.t 11)
    (.seq (.region false [⟨(some 13), .fldA 3 (.t 1), none⟩,
      ⟨(some 14), .ld none (.t 13), none⟩,
      ⟨(some 15), .call F_ref01_Digits [(.t 14)], none⟩,
      ⟨(some 2), .mov (.t 15), none⟩])
    (.ret))
    (.seq (.region false [⟨(some 17), .bin .eql (.t 6) (.c (.int .i64 3)), none⟩,
      ⟨(some 16), .mov (.t 17), none⟩])
    (.cond (.t 16)
     (.seq (.region false [⟨(some 19), .fldA 4 (.t 1), none⟩,
       ⟨(some 20), .ld none (.t 19), none⟩,
       ⟨(some 21), .call F_ref14_runes [(.t 20)], none⟩,
       ⟨(some 18), .mov (.t 21), none⟩,
       ⟨(some 22), .extr (.t 18) 0, none⟩,
       ⟨(some 23), .extr (.t 18) 1, none⟩,
       ⟨(some 3), .mov (.t 22), none⟩,
       ⟨(some 4), .mov (.t 23), none⟩])
     (.seq (.region false [⟨(some 24), .mov (.t 3), none⟩,
       ⟨(some 25), .call F_ref14_quoted [(.t 24)], none⟩,
       ⟨(some 2), .mov (.t 25), none⟩])
     (.ret)))
     (.skip)))))))))
  (.seq (.region false [⟨(some 26), .fldA 0 (.t 1), none⟩,
    ⟨(some 27), .ld none (.t 26), none⟩,
    ⟨(some 28), .call F_ref14_mark [(.t 27)], none⟩,
    ⟨(some 2), .mov (.t 28), none⟩])
  (.ret))),
  [.tmp 2]⟩

/- lexer_reader_class -/
def A_lexer_reader_class : AFun := ⟨26,
  .seq (.region false [⟨(some 4), .mov (.c (.int .i64 0)), none⟩])
  (.seq (.seq (.region false [⟨(some 7), .mov (.t 1), none⟩,
    ⟨(some 8), .mov (.t 0), none⟩,
    ⟨(some 9), .nck (.t 8), none⟩,
    ⟨(some 10), .fldA 0 (.t 9), none⟩,
    ⟨(some 11), .ld none (.t 10), none⟩,
    ⟨(some 12), .lenS (.t 11), none⟩,
    ⟨(some 13), .bin .geq (.t 7) (.t 12), none⟩])
  (.cond (.t 13)
   (.seq (.region false [⟨(some 4), .mov (.c (.int .i64 10)), none⟩])
   (.ret))
   (.skip)))
  (.seq (.region false [⟨(some 15), .mov (.t 0), none⟩,
    ⟨(some 16), .nck (.t 15), none⟩,
    ⟨(some 17), .fldA 0 (.t 16), none⟩,
    ⟨(some 18), .ld none (.t 17), none⟩,
    ⟨(some 19), .mov (.t 1), none⟩,
    ⟨(some 20), .idxS (.t 18) (.t 19), none⟩,
    ⟨(some 21), .conv .i64 (.t 20), none⟩,
    ⟨(some 22), .call F_runes_Class [(.t 21)], none⟩,
    ⟨(some 14), .mov (.t 22), none⟩,
    ⟨(some 23), .extr (.t 14) 0, none⟩,
    ⟨(some 24), .extr (.t 14) 1, none⟩,
    ⟨(some 5), .mov (.t 23), none⟩,
    ⟨(some 6), .mov (.t 24), none⟩])
  (.seq (.region false [⟨(some 25), .mov (.t 5), none⟩,
    ⟨(some 4), .mov (.t 25), none⟩])
  (.ret)))),
  [.tmp 4]⟩

/- lexer_reader_while -/
def A_lexer_reader_whileL0 : ACode :=
  .seq (.seq (.region false [⟨(some 19), .mov (.t 8), none⟩,
    ⟨(some 20), .mov (.t 1), none⟩,
    ⟨(some 21), .bin .eql (.t 19) (.t 20), none⟩,
    ⟨(some 22), .mov (.t 21), none⟩,
    ⟨(some 23), .mov (.t 8), some (22, false)⟩,
    ⟨(some 24), .mov (.t 2), some (22, false)⟩,
    ⟨(some 25), .bin .eql (.t 23) (.t 24), some (22, false)⟩,
    ⟨(some 26), .pick (.t 22) (.c (.bool true)) (.t 25), none⟩])
  (.cond (.t 26)
   (.skip)
   (.exit 0)))
  (.seq (.block 1 (.region false [⟨(some 33), .mov (.t 0), none⟩,
    ⟨(some 34), .nck (.t 33), none⟩,
    ⟨(some 35), .fldA 1 (.t 34), none⟩,
    ⟨(some 36), .ld none (.t 35), none⟩,
    ⟨(some 37), .bin .add (.t 36) (.c (.int .i64 1)), none⟩,
    ⟨(some 38), .nck (.t 33), none⟩,
    ⟨(some 39), .fldA 1 (.t 38), none⟩,
    ⟨none, .st 1 (.t 39) (.t 37), none⟩]))
  (.region false [⟨(some 27), .mov (.t 0), none⟩,
    ⟨(some 28), .mov (.t 0), none⟩,
    ⟨(some 29), .nck (.t 28), none⟩,
    ⟨(some 30), .fldA 1 (.t 29), none⟩,
    ⟨(some 31), .ld none (.t 30), none⟩,
    ⟨(some 32), .call F_lexer_reader_class [(.t 27), (.t 31)], none⟩,
    ⟨(some 8), .mov (.t 32), none⟩]))
def A_lexer_reader_while : AFun := ⟨50,
  .seq (.region false [⟨(some 6), .mov (.c (.str [])), none⟩])
  (.seq (.region false [⟨(some 9), .mov (.t 0), none⟩,
    ⟨(some 10), .nck (.t 9), none⟩,
    ⟨(some 11), .fldA 1 (.t 10), none⟩,
    ⟨(some 12), .ld none (.t 11), none⟩,
    ⟨(some 7), .mov (.t 12), none⟩])
  (.seq (.seq (.region false [⟨(some 13), .mov (.t 0), none⟩,
    ⟨(some 14), .mov (.t 0), none⟩,
    ⟨(some 15), .nck (.t 14), none⟩,
    ⟨(some 16), .fldA 1 (.t 15), none⟩,
    ⟨(some 17), .ld none (.t 16), none⟩,
    ⟨(some 18), .call F_lexer_reader_class [(.t 13), (.t 17)], none⟩,
    ⟨(some 8), .mov (.t 18), none⟩])
  (.block 0 (.loop A_lexer_reader_whileL0)))
  (.seq (.region true [⟨(some 40), .mov (.t 0), none⟩,
    ⟨(some 41), .nck (.t 40), none⟩,
    ⟨(some 42), .fldA 0 (.t 41), none⟩,
    ⟨(some 43), .ld none (.t 42), none⟩,
    ⟨(some 44), .mov (.t 7), none⟩,
    ⟨(some 45), .mov (.t 0), none⟩,
    ⟨(some 46), .nck (.t 45), none⟩,
    ⟨(some 47), .fldA 1 (.t 46), none⟩,
    ⟨(some 48), .ld none (.t 47), none⟩,
    ⟨(some 49), .ssl (.t 43) (some (.t 44)) (some (.t 48)), none⟩,
    ⟨(some 6), .mov (.t 49), none⟩])
  (.ret)))),
  [.tmp 6]⟩

/- ref14_named -/
def A_ref14_namedL0 : ACode :=
  .seq (.seq (.region false [⟨(some 12), .mov (.t 3), none⟩,
    ⟨(some 13), .mov (.t 0), none⟩,
    ⟨(some 14), .lenS (.t 13), none⟩,
    ⟨(some 15), .bin .lss (.t 12) (.t 14), none⟩])
  (.cond (.t 15)
   (.skip)
   (.exit 0)))
  (.seq (.block 1 (.seq (.region false [⟨(some 18), .mov (.t 0), none⟩,
    ⟨(some 19), .mov (.t 3), none⟩,
    ⟨(some 20), .idxS (.t 18) (.t 19), none⟩,
    ⟨(some 21), .call F_ref14_letter [(.t 20)], none⟩,
    ⟨(some 22), .not (.t 21), none⟩,
    ⟨(some 23), .mov (.t 22), none⟩,
    ⟨(some 24), .mov (.t 0), some (23, true)⟩,
    ⟨(some 25), .mov (.t 3), some (23, true)⟩,
    ⟨(some 26), .idxS (.t 24) (.t 25), some (23, true)⟩,
    ⟨(some 27), .call F_ref14_digit [(.t 26)], some (23, true)⟩,
    ⟨(some 28), .not (.t 27), some (23, true)⟩,
    ⟨(some 29), .pick (.t 23) (.t 28) (.c (.bool false)), none⟩])
  (.cond (.t 29)
   (.seq (.region false [⟨(some 2), .mov (.c (.bool false)), none⟩])
   (.ret))
   (.skip))))
  (.region false [⟨(some 16), .mov (.t 3), none⟩,
    ⟨(some 17), .bin .add (.t 16) (.c (.int .i64 1)), none⟩,
    ⟨(some 3), .mov (.t 17), none⟩]))
def A_ref14_named : AFun := ⟨30,
  .seq (.region false [⟨(some 2), .mov (.c (.bool false)), none⟩])
  (.seq (.seq (.region false [⟨(some 4), .mov (.t 0), none⟩,
    ⟨(some 5), .bin .eql (.t 4) (.c (.str [])), none⟩,
    ⟨(some 6), .mov (.t 5), none⟩,
    ⟨(some 7), .mov (.t 0), some (6, false)⟩,
    ⟨(some 8), .idxS (.t 7) (.c (.int .i64 0)), some (6, false)⟩,
    ⟨(some 9), .call F_ref14_letter [(.t 8)], some (6, false)⟩,
    ⟨(some 10), .not (.t 9), some (6, false)⟩,
    ⟨(some 11), .pick (.t 6) (.c (.bool true)) (.t 10), none⟩])
  (.cond (.t 11)
   (.seq (.region false [⟨(some 2), .mov (.c (.bool false)), none⟩])
   (.ret))
   (.skip)))
  (.seq (.seq (.region false [⟨(some 3), .mov (.c (.int .i64 0)), none⟩])
  (.block 0 (.loop A_ref14_namedL0)))
  (.seq (.region false [⟨(some 2), .mov (.c (.bool true)), none⟩])
  (.ret)))),
  [.tmp 2]⟩

/- ref14_runes -/
def A_ref14_runesL0 : ACode :=
  .seq (.seq (.region false [⟨(some 9), .mov (.t 5), none⟩,
    ⟨(some 10), .mov (.t 0), none⟩,
    ⟨(some 11), .lenS (.t 10), none⟩,
    ⟨(some 12), .bin .lss (.t 9) (.t 11), none⟩])
  (.cond (.t 12)
   (.skip)
   (.exit 0)))
  (.block 1 (.seq (.region false [⟨(some 14), .mov (.t 0), none⟩,
    ⟨(some 15), .s2b false (.t 14), none⟩,
    ⟨(some 16), .mov (.t 5), none⟩,
    ⟨(some 17), .call F_ref02_Decode [(.t 15), (.t 16)], none⟩,
    ⟨(some 13), .mov (.t 17), none⟩,
    ⟨(some 18), .extr (.t 13) 0, none⟩,
    ⟨(some 19), .extr (.t 13) 1, none⟩,
    ⟨(some 20), .extr (.t 13) 2, none⟩,
    ⟨(some 6), .mov (.t 18), none⟩,
    ⟨(some 7), .mov (.t 19), none⟩,
    ⟨(some 8), .mov (.t 20), none⟩])
  (.seq (.seq (.region false [⟨(some 21), .mov (.t 8), none⟩,
    ⟨(some 22), .bin .neq (.t 21) (.c (.int .i64 0)), none⟩])
  (.cond (.t 22)
   (.seq (.region false [⟨(some 2), .mov (.c (.sl .ex [])), none⟩,
     ⟨(some 3), .mov (.c (.bool false)), none⟩])
   (.ret))
   (.skip)))
  (.seq (.region false [⟨(some 23), .mov (.t 4), none⟩,
    ⟨(some 24), .mov (.t 6), none⟩,
    ⟨(some 25), .bsl 1 (.int .i64 0) 1 [(0, (.t 24))], none⟩,
    ⟨(some 26), .app 1 8 (.t 23) (.t 25), none⟩,
    ⟨(some 4), .mov (.t 26), none⟩])
  (.region false [⟨(some 27), .mov (.t 5), none⟩,
    ⟨(some 28), .mov (.t 7), none⟩,
    ⟨(some 29), .bin .add (.t 27) (.t 28), none⟩,
    ⟨(some 5), .mov (.t 29), none⟩])))))
def A_ref14_runes : AFun := ⟨31,
  .seq (.region false [⟨(some 2), .mov (.c (.sl .ex [])), none⟩,
    ⟨(some 3), .mov (.c (.bool false)), none⟩])
  (.seq (.region false [⟨(some 4), .mov (.c (.sl .ex [])), none⟩])
  (.seq (.seq (.region false [⟨(some 5), .mov (.c (.int .i64 0)), none⟩])
  (.block 0 (.loop A_ref14_runesL0)))
  (.seq (.region false [⟨(some 30), .mov (.t 4), none⟩,
    ⟨(some 2), .mov (.t 30), none⟩,
    ⟨(some 3), .mov (.c (.bool true)), none⟩])
  (.ret)))),
  [.tmp 2, .tmp 3]⟩

/- lexer_reader_mark -/
def A_lexer_reader_markL0 : ACode :=
  .seq (.seq (.region false [⟨(some 5), .mov (.t 4), none⟩,
    ⟨(some 6), .bin .leq (.t 5) (.c (.int .i64 9)), none⟩])
  (.cond (.t 6)
   (.skip)
   (.exit 0)))
  (.seq (.block 1 (.seq (.region true [⟨(some 9), .mov (.t 0), none⟩,
    ⟨(some 10), .nck (.t 9), none⟩,
    ⟨(some 11), .fldA 0 (.t 10), none⟩,
    ⟨(some 12), .ld none (.t 11), none⟩,
    ⟨(some 13), .mov (.t 0), none⟩,
    ⟨(some 14), .nck (.t 13), none⟩,
    ⟨(some 15), .fldA 1 (.t 14), none⟩,
    ⟨(some 16), .ld none (.t 15), none⟩,
    ⟨(some 17), .ssl (.t 12) (some (.t 16)) none, none⟩,
    ⟨(some 18), .mov (.t 4), none⟩,
    ⟨(some 19), .build [.int .i64 0, .int .i64 0, .int .i64 0, .int .i64 0, .str []] [(0, 1, (.t 18))], none⟩,
    ⟨(some 20), .call F_lexer_written [(.t 19)], none⟩,
    ⟨(some 21), .call F_strings_HasPrefix [(.t 17), (.t 20)], none⟩])
  (.cond (.t 21)
   (.seq (.region true [⟨(some 22), .mov (.t 0), none⟩,
     ⟨(some 23), .nck (.t 22), none⟩,
     ⟨(some 24), .fldA 1 (.t 23), none⟩,
     ⟨(some 25), .ld none (.t 24), none⟩,
     ⟨(some 26), .mov (.t 4), none⟩,
     ⟨(some 27), .build [.int .i64 0, .int .i64 0, .int .i64 0, .int .i64 0, .str []] [(0, 1, (.t 26))], none⟩,
     ⟨(some 28), .call F_lexer_written [(.t 27)], none⟩,
     ⟨(some 29), .lenS (.t 28), none⟩,
     ⟨(some 30), .bin .add (.t 25) (.t 29), none⟩,
     ⟨(some 31), .nck (.t 22), none⟩,
     ⟨(some 32), .fldA 1 (.t 31), none⟩,
     ⟨none, .st 1 (.t 32) (.t 30), none⟩])
   (.seq (.region true [⟨(some 33), .mov (.t 4), none⟩,
     ⟨(some 34), .build [.int .i64 0, .int .i64 0, .int .i64 0, .int .i64 0, .str []] [(0, 1, (.t 33))], none⟩,
     ⟨(some 35), .lds (some 2) (.gl 2), none⟩,
     ⟨none, .st 5 (.t 2) (.t 34), none⟩,
     ⟨none, .st 2 (.t 3) (.t 35), none⟩])
   (.ret)))
   (.skip))))
  (.region false [⟨(some 7), .mov (.t 4), none⟩,
    ⟨(some 8), .bin .add (.t 7) (.c (.int .i64 1)), none⟩,
    ⟨(some 4), .mov (.t 8), none⟩]))
def A_lexer_reader_mark : AFun := ⟨42,
  .seq (.region false [⟨(some 2), .alloc [.int .i64 0, .int .i64 0, .int .i64 0, .int .i64 0, .str []], none⟩,
    ⟨(some 3), .alloc [.int .i64 0, .int .i64 0], none⟩])
  (.seq (.seq (.region false [⟨(some 4), .mov (.c (.int .i64 4)), none⟩])
  (.block 0 (.loop A_lexer_reader_markL0)))
  (.seq (.region true [⟨(some 36), .build [.int .i64 0, .int .i64 0, .int .i64 0, .int .i64 0, .str []] [], none⟩,
    ⟨(some 37), .mov (.t 0), none⟩,
    ⟨(some 38), .nck (.t 37), none⟩,
    ⟨(some 39), .fldA 1 (.t 38), none⟩,
    ⟨(some 40), .ld none (.m true 39), none⟩,
    ⟨(some 41), .build [.int .i64 0, .int .i64 0] [(0, 1, (.t 40)), (1, 1, (.c (.int .i64 6)))], none⟩,
    ⟨none, .st 5 (.m false 2) (.t 36), none⟩,
    ⟨none, .st 2 (.m false 3) (.t 41), none⟩])
  (.ret))),
  [.cell (some 5) 2, .cell (some 2) 3]⟩

/- lexer_reader_word -/
def A_lexer_reader_word : AFun := ⟨22,
  .seq (.region false [⟨(some 2), .alloc [.int .i64 0, .int .i64 0, .int .i64 0, .int .i64 0, .str []], none⟩,
    ⟨(some 3), .alloc [.int .i64 0, .int .i64 0], none⟩])
  (.seq (.region false [⟨(some 6), .mov (.t 0), none⟩,
    ⟨(some 7), .nck (.t 6), none⟩,
    ⟨(some 8), .fldA 1 (.t 7), none⟩,
    ⟨(some 9), .ld none (.t 8), none⟩,
    ⟨(some 4), .mov (.t 9), none⟩])
  (.seq (.region false [⟨(some 10), .mov (.t 0), none⟩,
    ⟨(some 11), .call F_lexer_reader_while [(.t 10), (.c (.int .i64 8)), (.c (.int .i64 6))], none⟩,
    ⟨(some 5), .mov (.t 11), none⟩])
  (.seq (.seq (.region false [⟨(some 12), .mov (.t 5), none⟩,
    ⟨(some 13), .lenS (.t 12), none⟩,
    ⟨(some 14), .bin .gtr (.t 13) (.c (.int .i64 16)), none⟩])
  (.cond (.t 14)
   (.seq (.region false [⟨(some 15), .build [.int .i64 0, .int .i64 0, .int .i64 0, .int .i64 0, .str []] [], none⟩,
     ⟨(some 16), .mov (.t 4), none⟩,
     ⟨(some 17), .bin .add (.t 16) (.c (.int .i64 16)), none⟩,
     ⟨(some 18), .build [.int .i64 0, .int .i64 0] [(0, 1, (.t 17)), (1, 1, (.c (.int .i64 3)))], none⟩,
     ⟨none, .st 5 (.t 2) (.t 15), none⟩,
     ⟨none, .st 2 (.t 3) (.t 18), none⟩])
   (.ret))
   (.skip)))
  (.seq (.region true [⟨(some 19), .mov (.t 5), none⟩,
    ⟨(some 20), .build [.int .i64 0, .int .i64 0, .int .i64 0, .int .i64 0, .str []] [(0, 1, (.c (.int .i64 1))), (4, 1, (.t 19))], none⟩,
    ⟨(some 21), .lds (some 2) (.gl 2), none⟩,
    ⟨none, .st 5 (.t 2) (.t 20), none⟩,
    ⟨none, .st 2 (.t 3) (.t 21), none⟩])
  (.ret))))),
  [.cell (some 5) 2, .cell (some 2) 3]⟩

section
variable {X : Cx} (hX : X.P = Go.Proofs.Tryz.prog)
include hX
theorem A_law14_LexerPrints_ok : compileFun X.P F_law14_LexerPrints (fun _ => false) = some A_law14_LexerPrints := by rw [hX]; kernel_rfl
theorem A_law14_far_ok : compileFun X.P F_law14_far (fun _ => false) = some A_law14_far := by rw [hX]; kernel_rfl
theorem A_law14_shown_ok : compileFun X.P F_law14_shown (fun _ => false) = some A_law14_shown := by rw [hX]; kernel_rfl
theorem A_lexer_Print_ok : compileFun X.P F_lexer_Print (fun _ => false) = some A_lexer_Print := by rw [hX]; kernel_rfl
theorem A_ref14_Print_ok : compileFun X.P F_ref14_Print (fun _ => false) = some A_ref14_Print := by rw [hX]; kernel_rfl
theorem A_lexer_Check_ok : compileFun X.P F_lexer_Check (fun d => d == 52) = some A_lexer_Check := by rw [hX]; kernel_rfl
theorem A_ref14_Check_ok : compileFun X.P F_ref14_Check (fun _ => false) = some A_ref14_Check := by rw [hX]; kernel_rfl
theorem A_lexer_Line_ok : compileFun X.P F_lexer_Line (fun _ => false) = some A_lexer_Line := by rw [hX]; kernel_rfl
theorem A_law14_Example_ok : compileFun X.P F_law14_Example (fun _ => false) = some A_law14_Example := by rw [hX]; kernel_rfl
theorem A_ref14_Same_ok : compileFun X.P F_ref14_Same (fun d => d == 100000) = some A_ref14_Same := by rw [hX]; kernel_rfl
theorem A_lexer_written_ok : compileFun X.P F_lexer_written (fun _ => false) = some A_lexer_written := by rw [hX]; kernel_rfl
theorem A_ref14_joined_ok : compileFun X.P F_ref14_joined (fun _ => false) = some A_ref14_joined := by rw [hX]; kernel_rfl
theorem A_ref14_written_ok : compileFun X.P F_ref14_written (fun _ => false) = some A_ref14_written := by rw [hX]; kernel_rfl
theorem A_lexer_reader_class_ok : compileFun X.P F_lexer_reader_class (fun _ => false) = some A_lexer_reader_class := by rw [hX]; kernel_rfl
theorem A_lexer_reader_while_ok : compileFun X.P F_lexer_reader_while (fun _ => false) = some A_lexer_reader_while := by rw [hX]; kernel_rfl
theorem A_ref14_named_ok : compileFun X.P F_ref14_named (fun _ => false) = some A_ref14_named := by rw [hX]; kernel_rfl
theorem A_ref14_runes_ok : compileFun X.P F_ref14_runes (fun _ => false) = some A_ref14_runes := by rw [hX]; kernel_rfl
theorem A_lexer_reader_mark_ok : compileFun X.P F_lexer_reader_mark (fun _ => false) = some A_lexer_reader_mark := by rw [hX]; kernel_rfl
theorem A_lexer_reader_word_ok : compileFun X.P F_lexer_reader_word (fun _ => false) = some A_lexer_reader_word := by rw [hX]; kernel_rfl
end
end Go.Avm
