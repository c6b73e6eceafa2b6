/- The functions as they have been read. -/
import Derived.Test.YtpichdklbnkhfaaGreatDoorZ8
import Derived.Test.YtpichdklbnkhfaaGreatDoorProg
set_option linter.unusedSectionVars false
set_option linter.unusedSimpArgs false
set_option linter.unusedVariables false

/- The functions as they have been read. -/
namespace Go.Avm
open Go
def F_law01_WordsLists : Nat := 3
def F_law01_WordsKnown : Nat := 4
def F_law01_WordsInverse : Nat := 5
def F_law01_shown : Nat := 6
def F_words_List : Nat := 7
def F_ref01_List : Nat := 8
def F_words_ParseList : Nat := 9
def F_ref01_ParseList : Nat := 10
def F_law01_lists : Nat := 11
def F_words_Int : Nat := 12
def F_words_Unquote : Nat := 13
def F_words_Split : Nat := 14
def F_words_Name : Nat := 15
def F_law01_far : Nat := 16
def F_words_Join : Nat := 17
def F_ref01_Same : Nat := 18
def F_words_Quote : Nat := 19
def F_words_Digits : Nat := 20
def F_strings_Builder_Len : Nat := 21
def F_strings_Builder_WriteByte : Nat := 22
def F_strings_Builder_WriteString : Nat := 23
def F_strconv_Itoa : Nat := 24
def F_strings_Builder_String : Nat := 25
def F_ref01_Digits : Nat := 26
def F_strings_Split : Nat := 27
def F_strings_Cut : Nat := 28
def F_words_isDecimal : Nat := 29
def F_words_compare : Nat := 30
def F_words_follows : Nat := 31
def F_strconv_Atoi : Nat := 32
def F_ref01_parts : Nat := 33
def F_ref01_decimal : Nat := 34
def F_ref01_less : Nat := 35
def F_ref01_next : Nat := 36
def F_ref01_Int : Nat := 37
def F_strconv_ParseInt : Nat := 38
def F_words_unquote : Nat := 39
def F_words_fields : Nat := 40
def F_strings_Trim : Nat := 41
def F_words_isBare : Nat := 42
def F_strings_Join : Nat := 43
def F_words_letterOf : Nat := 44
def F_words_isPlain : Nat := 45
def F_strconv_FormatInt : Nat := 46
def F_strings_genSplit : Nat := 49
def F_stringslite_Cut : Nat := 50
def F_strings_TrimPrefix : Nat := 51
def F_strings_Compare : Nat := 52
def F_strings_LastIndexFunc : Nat := 53
def F_words_follows_1 : Nat := 54
def F_strings_Repeat : Nat := 55
def F_ref01_digit : Nat := 58
def F_words_unescape : Nat := 60
def F_words_fields_1 : Nat := 61
def F_strings_trimLeftByte : Nat := 62
def F_strings_trimRightByte : Nat := 63
def F_strings_makeASCIISet : Nat := 64
def F_strings_trimLeftASCII : Nat := 65
def F_strings_trimRightASCII : Nat := 66
def F_strings_trimLeftUnicode : Nat := 67
def F_strings_trimRightUnicode : Nat := 68
def F_strings_explode : Nat := 72
def F_strings_Count : Nat := 73
def F_strings_Index : Nat := 74
def F_stringslite_Index : Nat := 75
def F_stringslite_TrimPrefix : Nat := 76
def F_strings_lastIndexFunc : Nat := 78
def F_strings_IndexByte : Nat := 86
def F_strings_asciiSet_contains : Nat := 87
def F_utf8_DecodeRuneInString : Nat := 88
def F_strings_ContainsRune : Nat := 89
def F_utf8_DecodeLastRuneInString : Nat := 90
def F_stringslite_IndexByte : Nat := 98
def F_bytealg_Cutover : Nat := 100
def F_stringslite_HasPrefix : Nat := 102
def F_utf8_decodeRuneInStringSlow : Nat := 110
def F_strings_IndexRune : Nat := 111
def F_utf8_RuneStart : Nat := 112
def F_utf8_ValidRune : Nat := 121
/- law01_WordsLists -/
def A_law01_WordsLists : AFun := ⟨63,
  .seq (.region false [⟨(some 4), .mov (.c (.bool false)), none⟩])
  (.seq (.seq (.region false [⟨(some 13), .mov (.t 0), none⟩,
    ⟨(some 14), .len (.t 13), none⟩,
    ⟨(some 15), .bin .gtr (.t 14) (.c (.int .i64 510)), none⟩,
    ⟨(some 16), .mov (.t 15), none⟩,
    ⟨(some 17), .mov (.t 1), some (16, false)⟩,
    ⟨(some 18), .lenS (.t 17), some (16, false)⟩,
    ⟨(some 19), .bin .gtr (.t 18) (.c (.int .i64 2000)), some (16, false)⟩,
    ⟨(some 20), .pick (.t 16) (.c (.bool true)) (.t 19), none⟩])
  (.cond (.t 20)
   (.seq (.region false [⟨(some 21), .call F_law01_shown [], none⟩,
     ⟨(some 4), .mov (.t 21), none⟩])
   (.ret))
   (.skip)))
  (.seq (.region false [⟨(some 23), .mov (.t 0), none⟩,
    ⟨(some 24), .call F_words_List [(.t 23)], none⟩,
    ⟨(some 22), .mov (.t 24), none⟩,
    ⟨(some 25), .extr (.t 22) 0, none⟩,
    ⟨(some 26), .extr (.t 22) 1, none⟩,
    ⟨(some 5), .mov (.t 25), none⟩,
    ⟨(some 6), .mov (.t 26), none⟩])
  (.seq (.region false [⟨(some 28), .mov (.t 0), none⟩,
    ⟨(some 29), .call F_ref01_List [(.t 28)], none⟩,
    ⟨(some 27), .mov (.t 29), none⟩,
    ⟨(some 30), .extr (.t 27) 0, none⟩,
    ⟨(some 31), .extr (.t 27) 1, none⟩,
    ⟨(some 7), .mov (.t 30), none⟩,
    ⟨(some 8), .mov (.t 31), none⟩])
  (.seq (.region false [⟨(some 33), .mov (.t 1), none⟩,
    ⟨(some 34), .call F_words_ParseList [(.t 33)], none⟩,
    ⟨(some 32), .mov (.t 34), none⟩,
    ⟨(some 35), .extr (.t 32) 0, none⟩,
    ⟨(some 36), .extr (.t 32) 1, none⟩,
    ⟨(some 9), .mov (.t 35), none⟩,
    ⟨(some 10), .mov (.t 36), none⟩])
  (.seq (.region false [⟨(some 38), .mov (.t 1), none⟩,
    ⟨(some 39), .call F_ref01_ParseList [(.t 38)], none⟩,
    ⟨(some 37), .mov (.t 39), none⟩,
    ⟨(some 40), .extr (.t 37) 0, none⟩,
    ⟨(some 41), .extr (.t 37) 1, none⟩,
    ⟨(some 11), .mov (.t 40), none⟩,
    ⟨(some 12), .mov (.t 41), none⟩])
  (.seq (.region false [⟨(some 42), .mov (.t 5), none⟩,
    ⟨(some 43), .mov (.t 7), none⟩,
    ⟨(some 44), .bin .eql (.t 42) (.t 43), none⟩,
    ⟨(some 45), .mov (.t 44), none⟩,
    ⟨(some 46), .mov (.t 6), some (45, true)⟩,
    ⟨(some 47), .mov (.t 8), some (45, true)⟩,
    ⟨(some 48), .bin .eql (.t 46) (.t 47), some (45, true)⟩,
    ⟨(some 49), .pick (.t 45) (.t 48) (.c (.bool false)), none⟩,
    ⟨(some 50), .mov (.t 49), none⟩,
    ⟨(some 51), .mov (.t 9), some (50, true)⟩,
    ⟨(some 52), .mov (.t 11), some (50, true)⟩,
    ⟨(some 53), .call F_law01_lists [(.t 51), (.t 52)], some (50, true)⟩,
    ⟨(some 54), .pick (.t 50) (.t 53) (.c (.bool false)), none⟩,
    ⟨(some 55), .mov (.t 54), none⟩,
    ⟨(some 56), .mov (.t 10), some (55, true)⟩,
    ⟨(some 57), .mov (.t 12), some (55, true)⟩,
    ⟨(some 58), .bin .eql (.t 56) (.t 57), some (55, true)⟩,
    ⟨(some 59), .pick (.t 55) (.t 58) (.c (.bool false)), none⟩,
    ⟨(some 60), .mov (.t 59), none⟩,
    ⟨(some 61), .call F_law01_shown [], some (60, true)⟩,
    ⟨(some 62), .pick (.t 60) (.t 61) (.c (.bool false)), none⟩,
    ⟨(some 4), .mov (.t 62), none⟩])
  (.ret))))))),
  [.tmp 4]⟩

/- law01_WordsKnown -/
def A_law01_WordsKnown : AFun := ⟨147,
  .seq (.region false [⟨(some 0), .mov (.c (.bool false)), none⟩])
  (.seq (.region false [⟨(some 28), .call F_words_Int [(.c (.str [48, 48, 55])), (.c (.int .i64 0)), (.c (.int .i64 10))], none⟩,
    ⟨(some 27), .mov (.t 28), none⟩,
    ⟨(some 29), .extr (.t 27) 0, none⟩,
    ⟨(some 30), .extr (.t 27) 1, none⟩,
    ⟨(some 1), .mov (.t 29), none⟩,
    ⟨(some 2), .mov (.t 30), none⟩])
  (.seq (.region false [⟨(some 32), .call F_words_Int [(.c (.str [45, 48])), (.c (.int .i64 0)), (.c (.int .i64 10))], none⟩,
    ⟨(some 31), .mov (.t 32), none⟩,
    ⟨(some 33), .extr (.t 31) 0, none⟩,
    ⟨(some 34), .extr (.t 31) 1, none⟩,
    ⟨(some 3), .mov (.t 33), none⟩,
    ⟨(some 4), .mov (.t 34), none⟩])
  (.seq (.region false [⟨(some 36), .call F_words_Int [(.c (.str [49, 50])), (.c (.int .i64 0)), (.c (.int .i64 10))], none⟩,
    ⟨(some 35), .mov (.t 36), none⟩,
    ⟨(some 37), .extr (.t 35) 0, none⟩,
    ⟨(some 38), .extr (.t 35) 1, none⟩,
    ⟨(some 5), .mov (.t 37), none⟩,
    ⟨(some 6), .mov (.t 38), none⟩])
  (.seq (.region false [⟨(some 40), .call F_words_Unquote [(.c (.str [34, 92, 120, 52, 49, 34]))], none⟩,
    ⟨(some 39), .mov (.t 40), none⟩,
    ⟨(some 41), .extr (.t 39) 0, none⟩,
    ⟨(some 42), .extr (.t 39) 1, none⟩,
    ⟨(some 7), .mov (.t 41), none⟩,
    ⟨(some 8), .mov (.t 42), none⟩])
  (.seq (.region false [⟨(some 44), .call F_words_Unquote [(.c (.str [34, 92, 120, 55, 70, 34]))], none⟩,
    ⟨(some 43), .mov (.t 44), none⟩,
    ⟨(some 45), .extr (.t 43) 0, none⟩,
    ⟨(some 46), .extr (.t 43) 1, none⟩,
    ⟨(some 9), .mov (.t 45), none⟩,
    ⟨(some 10), .mov (.t 46), none⟩])
  (.seq (.region false [⟨(some 48), .call F_words_Unquote [(.c (.str [34, 97]))], none⟩,
    ⟨(some 47), .mov (.t 48), none⟩,
    ⟨(some 49), .extr (.t 47) 0, none⟩,
    ⟨(some 50), .extr (.t 47) 1, none⟩,
    ⟨(some 11), .mov (.t 49), none⟩,
    ⟨(some 12), .mov (.t 50), none⟩])
  (.seq (.region false [⟨(some 52), .call F_words_Split [(.c (.str [97, 32, 32, 98]))], none⟩,
    ⟨(some 51), .mov (.t 52), none⟩,
    ⟨(some 53), .extr (.t 51) 0, none⟩,
    ⟨(some 54), .extr (.t 51) 1, none⟩,
    ⟨(some 13), .mov (.t 53), none⟩,
    ⟨(some 14), .mov (.t 54), none⟩])
  (.seq (.region false [⟨(some 56), .call F_words_Split [(.c (.str []))], none⟩,
    ⟨(some 55), .mov (.t 56), none⟩,
    ⟨(some 57), .extr (.t 55) 0, none⟩,
    ⟨(some 58), .extr (.t 55) 1, none⟩,
    ⟨(some 15), .mov (.t 57), none⟩,
    ⟨(some 16), .mov (.t 58), none⟩])
  (.seq (.region false [⟨(some 60), .call F_words_List [(.c (.sl .ex []))], none⟩,
    ⟨(some 59), .mov (.t 60), none⟩,
    ⟨(some 61), .extr (.t 59) 0, none⟩,
    ⟨(some 62), .extr (.t 59) 1, none⟩,
    ⟨(some 17), .mov (.t 61), none⟩,
    ⟨(some 18), .mov (.t 62), none⟩])
  (.seq (.region false [⟨(some 64), .call F_words_ParseList [(.c (.str [49, 45, 51, 44, 52]))], none⟩,
    ⟨(some 63), .mov (.t 64), none⟩,
    ⟨(some 65), .extr (.t 63) 0, none⟩,
    ⟨(some 66), .extr (.t 63) 1, none⟩,
    ⟨(some 19), .mov (.t 65), none⟩,
    ⟨(some 20), .mov (.t 66), none⟩])
  (.seq (.region false [⟨(some 68), .call F_words_ParseList [(.c (.str [51, 45, 51]))], none⟩,
    ⟨(some 67), .mov (.t 68), none⟩,
    ⟨(some 69), .extr (.t 67) 0, none⟩,
    ⟨(some 70), .extr (.t 67) 1, none⟩,
    ⟨(some 21), .mov (.t 69), none⟩,
    ⟨(some 22), .mov (.t 70), none⟩])
  (.seq (.region false [⟨(some 72), .call F_words_ParseList [(.c (.str [50, 44, 49]))], none⟩,
    ⟨(some 71), .mov (.t 72), none⟩,
    ⟨(some 73), .extr (.t 71) 0, none⟩,
    ⟨(some 74), .extr (.t 71) 1, none⟩,
    ⟨(some 23), .mov (.t 73), none⟩,
    ⟨(some 24), .mov (.t 74), none⟩])
  (.seq (.region false [⟨(some 76), .call F_words_ParseList [(.c (.str [48, 45, 54, 48, 48]))], none⟩,
    ⟨(some 75), .mov (.t 76), none⟩,
    ⟨(some 77), .extr (.t 75) 0, none⟩,
    ⟨(some 78), .extr (.t 75) 1, none⟩,
    ⟨(some 25), .mov (.t 77), none⟩,
    ⟨(some 26), .mov (.t 78), none⟩])
  (.seq (.seq (.region false [⟨(some 79), .mov (.t 2), none⟩,
    ⟨(some 80), .bin .neq (.t 79) (.c (.int .i64 6)), none⟩,
    ⟨(some 81), .mov (.t 80), none⟩,
    ⟨(some 82), .mov (.t 4), some (81, false)⟩,
    ⟨(some 83), .bin .neq (.t 82) (.c (.int .i64 6)), some (81, false)⟩,
    ⟨(some 84), .pick (.t 81) (.c (.bool true)) (.t 83), none⟩,
    ⟨(some 85), .mov (.t 84), none⟩,
    ⟨(some 86), .mov (.t 6), some (85, false)⟩,
    ⟨(some 87), .bin .neq (.t 86) (.c (.int .i64 7)), some (85, false)⟩,
    ⟨(some 88), .pick (.t 85) (.c (.bool true)) (.t 87), none⟩,
    ⟨(some 89), .mov (.t 88), none⟩,
    ⟨(some 90), .mov (.t 8), some (89, false)⟩,
    ⟨(some 91), .bin .neq (.t 90) (.c (.int .i64 6)), some (89, false)⟩,
    ⟨(some 92), .pick (.t 89) (.c (.bool true)) (.t 91), none⟩,
    ⟨(some 93), .mov (.t 92), none⟩,
    ⟨(some 94), .mov (.t 10), some (93, false)⟩,
    ⟨(some 95), .bin .neq (.t 94) (.c (.int .i64 6)), some (93, false)⟩,
    ⟨(some 96), .pick (.t 93) (.c (.bool true)) (.t 95), none⟩,
    ⟨(some 97), .mov (.t 96), none⟩,
    ⟨(some 98), .mov (.t 12), some (97, false)⟩,
    ⟨(some 99), .bin .neq (.t 98) (.c (.int .i64 6)), some (97, false)⟩,
    ⟨(some 100), .pick (.t 97) (.c (.bool true)) (.t 99), none⟩,
    ⟨(some 101), .mov (.t 100), none⟩,
    ⟨(some 102), .mov (.t 14), some (101, false)⟩,
    ⟨(some 103), .bin .neq (.t 102) (.c (.int .i64 6)), some (101, false)⟩,
    ⟨(some 104), .pick (.t 101) (.c (.bool true)) (.t 103), none⟩,
    ⟨(some 105), .mov (.t 104), none⟩,
    ⟨(some 106), .mov (.t 15), some (105, false)⟩,
    ⟨(some 107), .len (.t 106), some (105, false)⟩,
    ⟨(some 108), .bin .neq (.t 107) (.c (.int .i64 0)), some (105, false)⟩,
    ⟨(some 109), .pick (.t 105) (.c (.bool true)) (.t 108), none⟩,
    ⟨(some 110), .mov (.t 109), none⟩,
    ⟨(some 111), .mov (.t 16), some (110, false)⟩,
    ⟨(some 112), .bin .neq (.t 111) (.c (.int .i64 0)), some (110, false)⟩,
    ⟨(some 113), .pick (.t 110) (.c (.bool true)) (.t 112), none⟩,
    ⟨(some 114), .mov (.t 113), none⟩,
    ⟨(some 115), .mov (.t 17), some (114, false)⟩,
    ⟨(some 116), .bin .neq (.t 115) (.c (.str [45])), some (114, false)⟩,
    ⟨(some 117), .pick (.t 114) (.c (.bool true)) (.t 116), none⟩,
    ⟨(some 118), .mov (.t 117), none⟩,
    ⟨(some 119), .mov (.t 18), some (118, false)⟩,
    ⟨(some 120), .bin .neq (.t 119) (.c (.int .i64 0)), some (118, false)⟩,
    ⟨(some 121), .pick (.t 118) (.c (.bool true)) (.t 120), none⟩])
  (.cond (.t 121)
   (.seq (.region false [⟨(some 0), .mov (.c (.bool false)), none⟩])
   (.ret))
   (.skip)))
  (.seq (.region false [⟨(some 122), .mov (.t 20), none⟩,
    ⟨(some 123), .bin .eql (.t 122) (.c (.int .i64 6)), none⟩,
    ⟨(some 124), .mov (.t 123), none⟩,
    ⟨(some 125), .mov (.t 22), some (124, true)⟩,
    ⟨(some 126), .bin .eql (.t 125) (.c (.int .i64 6)), some (124, true)⟩,
    ⟨(some 127), .pick (.t 124) (.t 126) (.c (.bool false)), none⟩,
    ⟨(some 128), .mov (.t 127), none⟩,
    ⟨(some 129), .mov (.t 24), some (128, true)⟩,
    ⟨(some 130), .bin .eql (.t 129) (.c (.int .i64 6)), some (128, true)⟩,
    ⟨(some 131), .pick (.t 128) (.t 130) (.c (.bool false)), none⟩,
    ⟨(some 132), .mov (.t 131), none⟩,
    ⟨(some 133), .mov (.t 26), some (132, true)⟩,
    ⟨(some 134), .bin .eql (.t 133) (.c (.int .i64 3)), some (132, true)⟩,
    ⟨(some 135), .pick (.t 132) (.t 134) (.c (.bool false)), none⟩,
    ⟨(some 136), .mov (.t 135), none⟩,
    ⟨(some 137), .call F_words_Name [(.c (.str [87, 101, 98]))], some (136, true)⟩,
    ⟨(some 138), .not (.t 137), some (136, true)⟩,
    ⟨(some 139), .pick (.t 136) (.t 138) (.c (.bool false)), none⟩,
    ⟨(some 140), .mov (.t 139), none⟩,
    ⟨(some 141), .call F_words_Name [(.c (.str [97, 97, 97, 97, 97, 97, 97, 97, 97, 97, 97, 97, 97, 97, 97, 97, 97]))], some (140, true)⟩,
    ⟨(some 142), .not (.t 141), some (140, true)⟩,
    ⟨(some 143), .pick (.t 140) (.t 142) (.c (.bool false)), none⟩,
    ⟨(some 144), .mov (.t 143), none⟩,
    ⟨(some 145), .call F_law01_shown [], some (144, true)⟩,
    ⟨(some 146), .pick (.t 144) (.t 145) (.c (.bool false)), none⟩,
    ⟨(some 0), .mov (.t 146), none⟩])
  (.ret)))))))))))))))),
  [.tmp 0]⟩

/- law01_WordsInverse -/
def A_law01_WordsInverse : AFun := ⟨184,
  .seq (.region false [⟨(some 5), .box (.t 2), none⟩,
    ⟨(some 6), .mov (.c (.bool false)), none⟩])
  (.seq (.seq (.region false [⟨(some 25), .mov (.t 0), none⟩,
    ⟨(some 26), .lenS (.t 25), none⟩,
    ⟨(some 27), .bin .gtr (.t 26) (.c (.int .i64 3000)), none⟩,
    ⟨(some 28), .mov (.t 27), none⟩,
    ⟨(some 29), .mov (.t 1), some (28, false)⟩,
    ⟨(some 30), .call F_law01_far [(.t 29)], some (28, false)⟩,
    ⟨(some 31), .pick (.t 28) (.c (.bool true)) (.t 30), none⟩,
    ⟨(some 32), .mov (.t 31), none⟩,
    ⟨(some 33), .fldA 0 (.t 5), some (32, false)⟩,
    ⟨(some 34), .ld none (.t 33), some (32, false)⟩,
    ⟨(some 35), .len (.t 34), some (32, false)⟩,
    ⟨(some 36), .bin .gtr (.t 35) (.c (.int .i64 510)), some (32, false)⟩,
    ⟨(some 37), .pick (.t 32) (.c (.bool true)) (.t 36), none⟩])
  (.cond (.t 37)
   (.seq (.region false [⟨(some 38), .call F_law01_shown [], none⟩,
     ⟨(some 6), .mov (.t 38), none⟩])
   (.ret))
   (.skip)))
  (.seq (.region false [⟨(some 40), .mov (.t 0), none⟩,
    ⟨(some 41), .call F_words_Split [(.t 40)], none⟩,
    ⟨(some 39), .mov (.t 41), none⟩,
    ⟨(some 42), .extr (.t 39) 0, none⟩,
    ⟨(some 43), .extr (.t 39) 1, none⟩,
    ⟨(some 7), .mov (.t 42), none⟩,
    ⟨(some 8), .mov (.t 43), none⟩])
  (.seq (.seq (.region false [⟨(some 44), .mov (.t 8), none⟩,
    ⟨(some 45), .bin .eql (.t 44) (.c (.int .i64 0)), none⟩])
  (.cond (.t 45)
   (.seq (.region false [⟨(some 47), .mov (.t 7), none⟩,
     ⟨(some 48), .call F_words_Join [(.t 47)], none⟩,
     ⟨(some 46), .mov (.t 48), none⟩,
     ⟨(some 49), .extr (.t 46) 0, none⟩,
     ⟨(some 50), .extr (.t 46) 1, none⟩,
     ⟨(some 9), .mov (.t 49), none⟩,
     ⟨(some 10), .mov (.t 50), none⟩])
   (.seq (.region false [⟨(some 51), .mov (.t 9), none⟩,
     ⟨(some 52), .mov (.t 0), none⟩,
     ⟨(some 53), .bin .neq (.t 51) (.t 52), none⟩,
     ⟨(some 54), .mov (.t 53), none⟩,
     ⟨(some 55), .mov (.t 10), some (54, false)⟩,
     ⟨(some 56), .bin .neq (.t 55) (.c (.int .i64 0)), some (54, false)⟩,
     ⟨(some 57), .pick (.t 54) (.c (.bool true)) (.t 56), none⟩])
   (.cond (.t 57)
    (.seq (.region false [⟨(some 6), .mov (.c (.bool false)), none⟩])
    (.ret))
    (.skip))))
   (.skip)))
  (.seq (.region false [⟨(some 59), .mov (.t 1), none⟩,
    ⟨(some 60), .call F_words_Join [(.t 59)], none⟩,
    ⟨(some 58), .mov (.t 60), none⟩,
    ⟨(some 61), .extr (.t 58) 0, none⟩,
    ⟨(some 62), .extr (.t 58) 1, none⟩,
    ⟨(some 11), .mov (.t 61), none⟩,
    ⟨(some 8), .mov (.t 62), none⟩])
  (.seq (.seq (.region false [⟨(some 63), .mov (.t 8), none⟩,
    ⟨(some 64), .bin .eql (.t 63) (.c (.int .i64 0)), none⟩])
  (.cond (.t 64)
   (.seq (.region false [⟨(some 66), .mov (.t 11), none⟩,
     ⟨(some 67), .call F_words_Split [(.t 66)], none⟩,
     ⟨(some 65), .mov (.t 67), none⟩,
     ⟨(some 68), .extr (.t 65) 0, none⟩,
     ⟨(some 69), .extr (.t 65) 1, none⟩,
     ⟨(some 12), .mov (.t 68), none⟩,
     ⟨(some 13), .mov (.t 69), none⟩])
   (.seq (.region false [⟨(some 70), .mov (.t 13), none⟩,
     ⟨(some 71), .bin .neq (.t 70) (.c (.int .i64 0)), none⟩,
     ⟨(some 72), .mov (.t 71), none⟩,
     ⟨(some 73), .mov (.t 12), some (72, false)⟩,
     ⟨(some 74), .mov (.t 1), some (72, false)⟩,
     ⟨(some 75), .call F_ref01_Same [(.t 73), (.t 74)], some (72, false)⟩,
     ⟨(some 76), .not (.t 75), some (72, false)⟩,
     ⟨(some 77), .pick (.t 72) (.c (.bool true)) (.t 76), none⟩])
   (.cond (.t 77)
    (.seq (.region false [⟨(some 6), .mov (.c (.bool false)), none⟩])
    (.ret))
    (.skip))))
   (.skip)))
  (.seq (.region false [⟨(some 79), .mov (.t 0), none⟩,
    ⟨(some 80), .call F_words_Quote [(.t 79)], none⟩,
    ⟨(some 81), .call F_words_Unquote [(.t 80)], none⟩,
    ⟨(some 78), .mov (.t 81), none⟩,
    ⟨(some 82), .extr (.t 78) 0, none⟩,
    ⟨(some 83), .extr (.t 78) 1, none⟩,
    ⟨(some 14), .mov (.t 82), none⟩,
    ⟨(some 8), .mov (.t 83), none⟩])
  (.seq (.region false [⟨(some 85), .mov (.t 0), none⟩,
    ⟨(some 86), .call F_words_Unquote [(.t 85)], none⟩,
    ⟨(some 84), .mov (.t 86), none⟩,
    ⟨(some 87), .extr (.t 84) 0, none⟩,
    ⟨(some 88), .extr (.t 84) 1, none⟩,
    ⟨(some 15), .mov (.t 87), none⟩,
    ⟨(some 16), .mov (.t 88), none⟩])
  (.seq (.seq (.region false [⟨(some 89), .mov (.t 14), none⟩,
    ⟨(some 90), .mov (.t 0), none⟩,
    ⟨(some 91), .bin .neq (.t 89) (.t 90), none⟩,
    ⟨(some 92), .mov (.t 91), none⟩,
    ⟨(some 93), .mov (.t 8), some (92, false)⟩,
    ⟨(some 94), .bin .neq (.t 93) (.c (.int .i64 0)), some (92, false)⟩,
    ⟨(some 95), .pick (.t 92) (.c (.bool true)) (.t 94), none⟩,
    ⟨(some 96), .mov (.t 95), none⟩,
    ⟨(some 97), .mov (.t 16), some (96, false)⟩,
    ⟨(some 98), .bin .eql (.t 97) (.c (.int .i64 0)), some (96, false)⟩,
    ⟨(some 99), .mov (.t 98), some (96, false)⟩,
    ⟨(some 100), .mov (.t 15), some (99, true)⟩,
    ⟨(some 101), .call F_words_Quote [(.t 100)], some (99, true)⟩,
    ⟨(some 102), .mov (.t 0), some (99, true)⟩,
    ⟨(some 103), .bin .neq (.t 101) (.t 102), some (99, true)⟩,
    ⟨(some 104), .pick (.t 99) (.t 103) (.c (.bool false)), some (96, false)⟩,
    ⟨(some 105), .pick (.t 96) (.c (.bool true)) (.t 104), none⟩])
  (.cond (.t 105)
   (.seq (.region false [⟨(some 6), .mov (.c (.bool false)), none⟩])
   (.ret))
   (.skip)))
  (.seq (.region false [⟨(some 107), .fldA 0 (.t 5), none⟩,
    ⟨(some 108), .ld none (.t 107), none⟩,
    ⟨(some 109), .call F_words_List [(.t 108)], none⟩,
    ⟨(some 106), .mov (.t 109), none⟩,
    ⟨(some 110), .extr (.t 106) 0, none⟩,
    ⟨(some 111), .extr (.t 106) 1, none⟩,
    ⟨(some 17), .mov (.t 110), none⟩,
    ⟨(some 8), .mov (.t 111), none⟩])
  (.seq (.seq (.region false [⟨(some 112), .mov (.t 8), none⟩,
    ⟨(some 113), .bin .eql (.t 112) (.c (.int .i64 0)), none⟩])
  (.cond (.t 113)
   (.seq (.region false [⟨(some 115), .mov (.t 17), none⟩,
     ⟨(some 116), .call F_words_ParseList [(.t 115)], none⟩,
     ⟨(some 114), .mov (.t 116), none⟩,
     ⟨(some 117), .extr (.t 114) 0, none⟩,
     ⟨(some 118), .extr (.t 114) 1, none⟩,
     ⟨(some 18), .mov (.t 117), none⟩,
     ⟨(some 19), .mov (.t 118), none⟩])
   (.seq (.region false [⟨(some 119), .mov (.t 19), none⟩,
     ⟨(some 120), .bin .neq (.t 119) (.c (.int .i64 0)), none⟩,
     ⟨(some 121), .mov (.t 120), none⟩,
     ⟨(some 122), .mov (.t 18), some (121, false)⟩,
     ⟨(some 123), .fldA 0 (.t 5), some (121, false)⟩,
     ⟨(some 124), .ld none (.t 123), some (121, false)⟩,
     ⟨(some 125), .call F_law01_lists [(.t 122), (.t 124)], some (121, false)⟩,
     ⟨(some 126), .not (.t 125), some (121, false)⟩,
     ⟨(some 127), .pick (.t 121) (.c (.bool true)) (.t 126), none⟩])
   (.cond (.t 127)
    (.seq (.region false [⟨(some 6), .mov (.c (.bool false)), none⟩])
    (.ret))
    (.skip))))
   (.skip)))
  (.seq (.region false [⟨(some 129), .mov (.t 0), none⟩,
    ⟨(some 130), .call F_words_ParseList [(.t 129)], none⟩,
    ⟨(some 128), .mov (.t 130), none⟩,
    ⟨(some 131), .extr (.t 128) 0, none⟩,
    ⟨(some 132), .extr (.t 128) 1, none⟩,
    ⟨(some 20), .mov (.t 131), none⟩,
    ⟨(some 8), .mov (.t 132), none⟩])
  (.seq (.seq (.region false [⟨(some 133), .mov (.t 8), none⟩,
    ⟨(some 134), .bin .eql (.t 133) (.c (.int .i64 0)), none⟩])
  (.cond (.t 134)
   (.seq (.region false [⟨(some 136), .mov (.t 20), none⟩,
     ⟨(some 137), .call F_words_List [(.t 136)], none⟩,
     ⟨(some 135), .mov (.t 137), none⟩,
     ⟨(some 138), .extr (.t 135) 0, none⟩,
     ⟨(some 139), .extr (.t 135) 1, none⟩,
     ⟨(some 21), .mov (.t 138), none⟩,
     ⟨(some 22), .mov (.t 139), none⟩])
   (.seq (.region false [⟨(some 140), .mov (.t 22), none⟩,
     ⟨(some 141), .bin .neq (.t 140) (.c (.int .i64 0)), none⟩,
     ⟨(some 142), .mov (.t 141), none⟩,
     ⟨(some 143), .mov (.t 21), some (142, false)⟩,
     ⟨(some 144), .mov (.t 0), some (142, false)⟩,
     ⟨(some 145), .bin .neq (.t 143) (.t 144), some (142, false)⟩,
     ⟨(some 146), .pick (.t 142) (.c (.bool true)) (.t 145), none⟩])
   (.cond (.t 146)
    (.seq (.region false [⟨(some 6), .mov (.c (.bool false)), none⟩])
    (.ret))
    (.skip))))
   (.skip)))
  (.seq (.region true [⟨(some 148), .fldA 1 (.t 5), none⟩,
    ⟨(some 149), .ld none (.t 148), none⟩,
    ⟨(some 150), .call F_words_Digits [(.t 149)], none⟩,
    ⟨(some 151), .fldA 1 (.t 5), none⟩,
    ⟨(some 152), .ld none (.t 151), none⟩,
    ⟨(some 153), .fldA 1 (.t 5), none⟩,
    ⟨(some 154), .ld none (.t 153), none⟩,
    ⟨(some 155), .call F_words_Int [(.t 150), (.t 152), (.t 154)], none⟩,
    ⟨(some 147), .mov (.t 155), none⟩,
    ⟨(some 156), .extr (.t 147) 0, none⟩,
    ⟨(some 157), .extr (.t 147) 1, none⟩,
    ⟨(some 23), .mov (.t 156), none⟩,
    ⟨(some 8), .mov (.t 157), none⟩])
  (.seq (.region false [⟨(some 159), .mov (.t 0), none⟩,
    ⟨(some 160), .call F_words_Int [(.t 159), (.c (.int .i64 (-9223372036854775808))), (.c (.int .i64 9223372036854775807))], none⟩,
    ⟨(some 158), .mov (.t 160), none⟩,
    ⟨(some 161), .extr (.t 158) 0, none⟩,
    ⟨(some 162), .extr (.t 158) 1, none⟩,
    ⟨(some 24), .mov (.t 161), none⟩,
    ⟨(some 16), .mov (.t 162), none⟩])
  (.seq (.region false [⟨(some 163), .mov (.t 23), none⟩,
    ⟨(some 164), .fldA 1 (.t 5), none⟩,
    ⟨(some 165), .ld none (.t 164), none⟩,
    ⟨(some 166), .bin .eql (.t 163) (.t 165), none⟩,
    ⟨(some 167), .mov (.t 166), none⟩,
    ⟨(some 168), .mov (.t 8), some (167, true)⟩,
    ⟨(some 169), .bin .eql (.t 168) (.c (.int .i64 0)), some (167, true)⟩,
    ⟨(some 170), .pick (.t 167) (.t 169) (.c (.bool false)), none⟩,
    ⟨(some 171), .mov (.t 170), none⟩,
    ⟨(some 172), .mov (.t 16), some (171, true)⟩,
    ⟨(some 173), .bin .neq (.t 172) (.c (.int .i64 0)), some (171, true)⟩,
    ⟨(some 174), .mov (.t 173), some (171, true)⟩,
    ⟨(some 175), .mov (.t 24), some (174, false)⟩,
    ⟨(some 176), .call F_words_Digits [(.t 175)], some (174, false)⟩,
    ⟨(some 177), .mov (.t 0), some (174, false)⟩,
    ⟨(some 178), .bin .eql (.t 176) (.t 177), some (174, false)⟩,
    ⟨(some 179), .pick (.t 174) (.c (.bool true)) (.t 178), some (171, true)⟩,
    ⟨(some 180), .pick (.t 171) (.t 179) (.c (.bool false)), none⟩,
    ⟨(some 181), .mov (.t 180), none⟩,
    ⟨(some 182), .call F_law01_shown [], some (181, true)⟩,
    ⟨(some 183), .pick (.t 181) (.t 182) (.c (.bool false)), none⟩,
    ⟨(some 6), .mov (.t 183), none⟩])
  (.ret)))))))))))))))),
  [.tmp 6]⟩

/- law01_shown -/
def A_law01_shown : AFun := ⟨63,
  .seq (.region false [⟨(some 0), .mov (.c (.bool false)), none⟩])
  (.seq (.region false [⟨(some 10), .call F_words_Split [(.c (.str [103, 101, 116, 32, 47, 32, 34, 97, 32, 98, 34]))], none⟩,
    ⟨(some 9), .mov (.t 10), none⟩,
    ⟨(some 11), .extr (.t 9) 0, none⟩,
    ⟨(some 12), .extr (.t 9) 1, none⟩,
    ⟨(some 1), .mov (.t 11), none⟩,
    ⟨(some 2), .mov (.t 12), none⟩])
  (.seq (.region false [⟨(some 14), .call F_words_Int [(.c (.str [45, 49, 50])), (.c (.int .i64 (-20))), (.c (.int .i64 20))], none⟩,
    ⟨(some 13), .mov (.t 14), none⟩,
    ⟨(some 15), .extr (.t 13) 0, none⟩,
    ⟨(some 16), .extr (.t 13) 1, none⟩,
    ⟨(some 3), .mov (.t 15), none⟩,
    ⟨(some 4), .mov (.t 16), none⟩])
  (.seq (.region false [⟨(some 18), .bsl 1 (.int .i64 0) 6 [(0, (.c (.int .i64 1))), (1, (.c (.int .i64 2))), (2, (.c (.int .i64 3))), (3, (.c (.int .i64 5))), (4, (.c (.int .i64 8))), (5, (.c (.int .i64 9)))], none⟩,
    ⟨(some 19), .call F_words_List [(.t 18)], none⟩,
    ⟨(some 17), .mov (.t 19), none⟩,
    ⟨(some 20), .extr (.t 17) 0, none⟩,
    ⟨(some 21), .extr (.t 17) 1, none⟩,
    ⟨(some 5), .mov (.t 20), none⟩,
    ⟨(some 6), .mov (.t 21), none⟩])
  (.seq (.region false [⟨(some 23), .call F_words_Unquote [(.c (.str [34, 97, 92, 110, 92, 120, 48, 48, 92, 34, 34]))], none⟩,
    ⟨(some 22), .mov (.t 23), none⟩,
    ⟨(some 24), .extr (.t 22) 0, none⟩,
    ⟨(some 25), .extr (.t 22) 1, none⟩,
    ⟨(some 7), .mov (.t 24), none⟩,
    ⟨(some 8), .mov (.t 25), none⟩])
  (.seq (.region false [⟨(some 26), .mov (.t 1), none⟩,
    ⟨(some 27), .build [.str [], .bool false] [(0, 1, (.c (.str [103, 101, 116])))], none⟩,
    ⟨(some 28), .build [.str [], .bool false] [(0, 1, (.c (.str [47])))], none⟩,
    ⟨(some 29), .build [.str [], .bool false] [(0, 1, (.c (.str [97, 32, 98]))), (1, 1, (.c (.bool true)))], none⟩,
    ⟨(some 30), .bsl 2 (.agg [.str [], .bool false]) 3 [(0, (.t 27)), (1, (.t 28)), (2, (.t 29))], none⟩,
    ⟨(some 31), .call F_ref01_Same [(.t 26), (.t 30)], none⟩,
    ⟨(some 32), .mov (.t 31), none⟩,
    ⟨(some 33), .mov (.t 3), some (32, true)⟩,
    ⟨(some 34), .bin .eql (.t 33) (.c (.int .i64 (-12))), some (32, true)⟩,
    ⟨(some 35), .pick (.t 32) (.t 34) (.c (.bool false)), none⟩,
    ⟨(some 36), .mov (.t 35), none⟩,
    ⟨(some 37), .mov (.t 5), some (36, true)⟩,
    ⟨(some 38), .bin .eql (.t 37) (.c (.str [49, 45, 51, 44, 53, 44, 56, 45, 57])), some (36, true)⟩,
    ⟨(some 39), .pick (.t 36) (.t 38) (.c (.bool false)), none⟩,
    ⟨(some 40), .mov (.t 39), none⟩,
    ⟨(some 41), .mov (.t 7), some (40, true)⟩,
    ⟨(some 42), .bin .eql (.t 41) (.c (.str [97, 10, 0, 34])), some (40, true)⟩,
    ⟨(some 43), .pick (.t 40) (.t 42) (.c (.bool false)), none⟩,
    ⟨(some 44), .mov (.t 43), none⟩,
    ⟨(some 45), .call F_words_Name [(.c (.str [119, 101, 98, 45, 49]))], some (44, true)⟩,
    ⟨(some 46), .pick (.t 44) (.t 45) (.c (.bool false)), none⟩,
    ⟨(some 47), .mov (.t 46), none⟩,
    ⟨(some 48), .mov (.t 2), some (47, true)⟩,
    ⟨(some 49), .bin .eql (.t 48) (.c (.int .i64 0)), some (47, true)⟩,
    ⟨(some 50), .pick (.t 47) (.t 49) (.c (.bool false)), none⟩,
    ⟨(some 51), .mov (.t 50), none⟩,
    ⟨(some 52), .mov (.t 4), some (51, true)⟩,
    ⟨(some 53), .bin .eql (.t 52) (.c (.int .i64 0)), some (51, true)⟩,
    ⟨(some 54), .pick (.t 51) (.t 53) (.c (.bool false)), none⟩,
    ⟨(some 55), .mov (.t 54), none⟩,
    ⟨(some 56), .mov (.t 6), some (55, true)⟩,
    ⟨(some 57), .bin .eql (.t 56) (.c (.int .i64 0)), some (55, true)⟩,
    ⟨(some 58), .pick (.t 55) (.t 57) (.c (.bool false)), none⟩,
    ⟨(some 59), .mov (.t 58), none⟩,
    ⟨(some 60), .mov (.t 8), some (59, true)⟩,
    ⟨(some 61), .bin .eql (.t 60) (.c (.int .i64 0)), some (59, true)⟩,
    ⟨(some 62), .pick (.t 59) (.t 61) (.c (.bool false)), none⟩,
    ⟨(some 0), .mov (.t 62), none⟩])
  (.ret)))))),
  [.tmp 0]⟩

/- words_List -/
def A_words_ListL0 : ACode :=
  .seq (.seq (.region false [⟨(some 13), .mov (.t 6), none⟩,
    ⟨(some 14), .mov (.t 0), none⟩,
    ⟨(some 15), .len (.t 14), none⟩,
    ⟨(some 16), .bin .lss (.t 13) (.t 15), none⟩])
  (.cond (.t 16)
   (.skip)
   (.exit 0)))
  (.seq (.block 1 (.seq (.region false [⟨(some 19), .mov (.t 0), none⟩,
    ⟨(some 20), .mov (.t 6), none⟩,
    ⟨(some 21), .idxA 1 (.t 19) (.t 20), none⟩,
    ⟨(some 22), .ld none (.t 21), none⟩,
    ⟨(some 7), .mov (.t 22), none⟩])
  (.seq (.seq (.region false [⟨(some 23), .mov (.t 7), none⟩,
    ⟨(some 24), .bin .lss (.t 23) (.c (.int .i64 0)), none⟩,
    ⟨(some 25), .mov (.t 24), none⟩,
    ⟨(some 26), .mov (.t 7), some (25, false)⟩,
    ⟨(some 27), .bin .gtr (.t 26) (.c (.int .i64 1000000000)), some (25, false)⟩,
    ⟨(some 28), .pick (.t 25) (.c (.bool true)) (.t 27), none⟩])
  (.cond (.t 28)
   (.seq (.region false [⟨(some 2), .mov (.c (.str [])), none⟩,
     ⟨(some 3), .mov (.c (.int .i64 7)), none⟩])
   (.ret))
   (.skip)))
  (.seq (.region false [⟨(some 29), .mov (.t 6), none⟩,
    ⟨(some 30), .bin .gtr (.t 29) (.c (.int .i64 0)), none⟩,
    ⟨(some 31), .mov (.t 30), none⟩,
    ⟨(some 32), .mov (.t 7), some (31, true)⟩,
    ⟨(some 33), .mov (.t 0), some (31, true)⟩,
    ⟨(some 34), .mov (.t 6), some (31, true)⟩,
    ⟨(some 35), .bin .sub (.t 34) (.c (.int .i64 1)), some (31, true)⟩,
    ⟨(some 36), .idxA 1 (.t 33) (.t 35), some (31, true)⟩,
    ⟨(some 37), .ld none (.t 36), some (31, true)⟩,
    ⟨(some 38), .bin .leq (.t 32) (.t 37), some (31, true)⟩,
    ⟨(some 39), .pick (.t 31) (.t 38) (.c (.bool false)), none⟩])
  (.cond (.t 39)
   (.region false [⟨(some 4), .mov (.c (.int .i64 6)), none⟩])
   (.skip))))))
  (.region false [⟨(some 17), .mov (.t 6), none⟩,
    ⟨(some 18), .bin .add (.t 17) (.c (.int .i64 1)), none⟩,
    ⟨(some 6), .mov (.t 18), none⟩]))
def A_words_ListL2 : ACode :=
  .seq (.seq (.region true [⟨(some 54), .mov (.t 8), none⟩,
    ⟨(some 55), .bin .add (.t 54) (.c (.int .i64 1)), none⟩,
    ⟨(some 56), .mov (.t 0), none⟩,
    ⟨(some 57), .len (.t 56), none⟩,
    ⟨(some 58), .bin .lss (.t 55) (.t 57), none⟩,
    ⟨(some 59), .mov (.t 58), none⟩,
    ⟨(some 60), .mov (.t 0), some (59, true)⟩,
    ⟨(some 61), .mov (.t 8), some (59, true)⟩,
    ⟨(some 62), .bin .add (.t 61) (.c (.int .i64 1)), some (59, true)⟩,
    ⟨(some 63), .idxA 1 (.t 60) (.t 62), some (59, true)⟩,
    ⟨(some 64), .ld none (.t 63), some (59, true)⟩,
    ⟨(some 65), .mov (.t 0), some (59, true)⟩,
    ⟨(some 66), .mov (.t 8), some (59, true)⟩,
    ⟨(some 67), .idxA 1 (.t 65) (.t 66), some (59, true)⟩,
    ⟨(some 68), .ld none (.t 67), some (59, true)⟩,
    ⟨(some 69), .bin .add (.t 68) (.c (.int .i64 1)), some (59, true)⟩,
    ⟨(some 70), .bin .eql (.t 64) (.t 69), some (59, true)⟩,
    ⟨(some 71), .pick (.t 59) (.t 70) (.c (.bool false)), none⟩])
  (.cond (.t 71)
   (.skip)
   (.exit 4)))
  (.block 5 (.region false [⟨(some 72), .mov (.t 8), none⟩,
    ⟨(some 73), .bin .add (.t 72) (.c (.int .i64 1)), none⟩,
    ⟨(some 8), .mov (.t 73), none⟩]))
def A_words_ListL1 : ACode :=
  .seq (.seq (.region false [⟨(some 40), .mov (.t 8), none⟩,
    ⟨(some 41), .mov (.t 0), none⟩,
    ⟨(some 42), .len (.t 41), none⟩,
    ⟨(some 43), .bin .lss (.t 40) (.t 42), none⟩,
    ⟨(some 44), .mov (.t 43), none⟩,
    ⟨(some 45), .mov (.t 4), some (44, true)⟩,
    ⟨(some 46), .bin .eql (.t 45) (.c (.int .i64 0)), some (44, true)⟩,
    ⟨(some 47), .pick (.t 44) (.t 46) (.c (.bool false)), none⟩])
  (.cond (.t 47)
   (.skip)
   (.exit 2)))
  (.seq (.block 3 (.seq (.region false [⟨(some 50), .mov (.t 0), none⟩,
    ⟨(some 51), .mov (.t 8), none⟩,
    ⟨(some 52), .idxA 1 (.t 50) (.t 51), none⟩,
    ⟨(some 53), .ld none (.t 52), none⟩,
    ⟨(some 9), .mov (.t 53), none⟩])
  (.seq (.block 4 (.loop A_words_ListL2))
  (.seq (.seq (.region false [⟨(some 74), .call F_strings_Builder_Len [(.t 5)], none⟩,
    ⟨(some 75), .bin .gtr (.t 74) (.c (.int .i64 0)), none⟩])
  (.cond (.t 75)
   (.region false [⟨(some 76), .call F_strings_Builder_WriteByte [(.t 5), (.c (.int .u8 44))], none⟩])
   (.skip)))
  (.seq (.region false [⟨(some 77), .mov (.t 9), none⟩,
    ⟨(some 78), .call F_strconv_Itoa [(.t 77)], none⟩,
    ⟨(some 79), .call F_strings_Builder_WriteString [(.t 5), (.t 78)], none⟩])
  (.seq (.region false [⟨(some 80), .mov (.t 0), none⟩,
    ⟨(some 81), .mov (.t 8), none⟩,
    ⟨(some 82), .idxA 1 (.t 80) (.t 81), none⟩,
    ⟨(some 83), .ld none (.t 82), none⟩,
    ⟨(some 84), .mov (.t 9), none⟩,
    ⟨(some 85), .bin .gtr (.t 83) (.t 84), none⟩])
  (.cond (.t 85)
   (.region false [⟨(some 86), .mov (.t 0), none⟩,
     ⟨(some 87), .mov (.t 8), none⟩,
     ⟨(some 88), .idxA 1 (.t 86) (.t 87), none⟩,
     ⟨(some 89), .ld none (.t 88), none⟩,
     ⟨(some 90), .call F_strconv_Itoa [(.t 89)], none⟩,
     ⟨(some 91), .bin .add (.c (.str [45])) (.t 90), none⟩,
     ⟨(some 92), .call F_strings_Builder_WriteString [(.t 5), (.t 91)], none⟩])
   (.skip))))))))
  (.region false [⟨(some 48), .mov (.t 8), none⟩,
    ⟨(some 49), .bin .add (.t 48) (.c (.int .i64 1)), none⟩,
    ⟨(some 8), .mov (.t 49), none⟩]))
def A_words_List : AFun := ⟨102,
  .seq (.region false [⟨(some 2), .mov (.c (.str [])), none⟩,
    ⟨(some 3), .mov (.c (.int .i64 0)), none⟩])
  (.seq (.seq (.region false [⟨(some 10), .mov (.t 0), none⟩,
    ⟨(some 11), .len (.t 10), none⟩,
    ⟨(some 12), .bin .gtr (.t 11) (.c (.int .i64 500)), none⟩])
  (.cond (.t 12)
   (.seq (.region false [⟨(some 2), .mov (.c (.str [])), none⟩,
     ⟨(some 3), .mov (.c (.int .i64 3)), none⟩])
   (.ret))
   (.skip)))
  (.seq (.region false [⟨(some 4), .mov (.c (.int .i64 0)), none⟩])
  (.seq (.region false [⟨(some 5), .allocB 51 5, none⟩])
  (.seq (.seq (.region false [⟨(some 6), .mov (.c (.int .i64 0)), none⟩])
  (.block 0 (.loop A_words_ListL0)))
  (.seq (.seq (.region false [⟨(some 8), .mov (.c (.int .i64 0)), none⟩])
  (.block 2 (.loop A_words_ListL1)))
  (.seq (.block 6 (.seq (.region false [⟨(some 94), .mov (.t 4), none⟩,
    ⟨(some 95), .bin .neq (.t 94) (.c (.int .i64 0)), none⟩,
    ⟨(some 93), .mov (.t 95), none⟩])
  (.cond (.t 93)
   (.seq (.region false [⟨(some 96), .mov (.t 4), none⟩,
     ⟨(some 2), .mov (.c (.str [])), none⟩,
     ⟨(some 3), .mov (.t 96), none⟩])
   (.ret))
   (.seq (.region false [⟨(some 98), .mov (.t 0), none⟩,
     ⟨(some 99), .len (.t 98), none⟩,
     ⟨(some 100), .bin .eql (.t 99) (.c (.int .i64 0)), none⟩,
     ⟨(some 97), .mov (.t 100), none⟩])
   (.cond (.t 97)
    (.seq (.region false [⟨(some 2), .mov (.c (.str [45])), none⟩,
      ⟨(some 3), .mov (.c (.int .i64 0)), none⟩])
    (.ret))
    (.skip))))))
  (.seq (.region false [⟨(some 101), .call F_strings_Builder_String [(.t 5)], none⟩,
    ⟨(some 2), .mov (.t 101), none⟩,
    ⟨(some 3), .mov (.c (.int .i64 0)), none⟩])
  (.ret)))))))),
  [.tmp 2, .tmp 3]⟩

/- ref01_List -/
def A_ref01_ListL0 : ACode :=
  .seq (.seq (.region false [⟨(some 12), .mov (.t 4), none⟩,
    ⟨(some 13), .mov (.t 0), none⟩,
    ⟨(some 14), .len (.t 13), none⟩,
    ⟨(some 15), .bin .lss (.t 12) (.t 14), none⟩])
  (.cond (.t 15)
   (.skip)
   (.exit 0)))
  (.seq (.block 1 (.seq (.region false [⟨(some 18), .mov (.t 0), none⟩,
    ⟨(some 19), .mov (.t 4), none⟩,
    ⟨(some 20), .idxA 1 (.t 18) (.t 19), none⟩,
    ⟨(some 21), .ld none (.t 20), none⟩,
    ⟨(some 22), .bin .lss (.t 21) (.c (.int .i64 0)), none⟩,
    ⟨(some 23), .mov (.t 22), none⟩,
    ⟨(some 24), .mov (.t 0), some (23, false)⟩,
    ⟨(some 25), .mov (.t 4), some (23, false)⟩,
    ⟨(some 26), .idxA 1 (.t 24) (.t 25), some (23, false)⟩,
    ⟨(some 27), .ld none (.t 26), some (23, false)⟩,
    ⟨(some 28), .bin .gtr (.t 27) (.c (.int .i64 1000000000)), some (23, false)⟩,
    ⟨(some 29), .pick (.t 23) (.c (.bool true)) (.t 28), none⟩])
  (.cond (.t 29)
   (.seq (.region false [⟨(some 2), .mov (.c (.str [])), none⟩,
     ⟨(some 3), .mov (.c (.int .i64 7)), none⟩])
   (.ret))
   (.skip))))
  (.region false [⟨(some 16), .mov (.t 4), none⟩,
    ⟨(some 17), .bin .add (.t 16) (.c (.int .i64 1)), none⟩,
    ⟨(some 4), .mov (.t 17), none⟩]))
def A_ref01_ListL1 : ACode :=
  .seq (.seq (.region false [⟨(some 30), .mov (.t 5), none⟩,
    ⟨(some 31), .mov (.t 0), none⟩,
    ⟨(some 32), .len (.t 31), none⟩,
    ⟨(some 33), .bin .lss (.t 30) (.t 32), none⟩])
  (.cond (.t 33)
   (.skip)
   (.exit 2)))
  (.seq (.block 3 (.seq (.region true [⟨(some 36), .mov (.t 0), none⟩,
    ⟨(some 37), .mov (.t 5), none⟩,
    ⟨(some 38), .idxA 1 (.t 36) (.t 37), none⟩,
    ⟨(some 39), .ld none (.t 38), none⟩,
    ⟨(some 40), .mov (.t 0), none⟩,
    ⟨(some 41), .mov (.t 5), none⟩,
    ⟨(some 42), .bin .sub (.t 41) (.c (.int .i64 1)), none⟩,
    ⟨(some 43), .idxA 1 (.t 40) (.t 42), none⟩,
    ⟨(some 44), .ld none (.t 43), none⟩,
    ⟨(some 45), .bin .leq (.t 39) (.t 44), none⟩])
  (.cond (.t 45)
   (.seq (.region false [⟨(some 2), .mov (.c (.str [])), none⟩,
     ⟨(some 3), .mov (.c (.int .i64 6)), none⟩])
   (.ret))
   (.skip))))
  (.region false [⟨(some 34), .mov (.t 5), none⟩,
    ⟨(some 35), .bin .add (.t 34) (.c (.int .i64 1)), none⟩,
    ⟨(some 5), .mov (.t 35), none⟩]))
def A_ref01_ListL3 : ACode :=
  .seq (.seq (.region true [⟨(some 56), .mov (.t 8), none⟩,
    ⟨(some 57), .bin .add (.t 56) (.c (.int .i64 1)), none⟩,
    ⟨(some 58), .mov (.t 0), none⟩,
    ⟨(some 59), .len (.t 58), none⟩,
    ⟨(some 60), .bin .lss (.t 57) (.t 59), none⟩,
    ⟨(some 61), .mov (.t 60), none⟩,
    ⟨(some 62), .mov (.t 0), some (61, true)⟩,
    ⟨(some 63), .mov (.t 8), some (61, true)⟩,
    ⟨(some 64), .bin .add (.t 63) (.c (.int .i64 1)), some (61, true)⟩,
    ⟨(some 65), .idxA 1 (.t 62) (.t 64), some (61, true)⟩,
    ⟨(some 66), .ld none (.t 65), some (61, true)⟩,
    ⟨(some 67), .mov (.t 0), some (61, true)⟩,
    ⟨(some 68), .mov (.t 8), some (61, true)⟩,
    ⟨(some 69), .idxA 1 (.t 67) (.t 68), some (61, true)⟩,
    ⟨(some 70), .ld none (.t 69), some (61, true)⟩,
    ⟨(some 71), .bin .add (.t 70) (.c (.int .i64 1)), some (61, true)⟩,
    ⟨(some 72), .bin .eql (.t 66) (.t 71), some (61, true)⟩,
    ⟨(some 73), .pick (.t 61) (.t 72) (.c (.bool false)), none⟩])
  (.cond (.t 73)
   (.skip)
   (.exit 6)))
  (.block 7 (.region false [⟨(some 74), .mov (.t 8), none⟩,
    ⟨(some 75), .bin .add (.t 74) (.c (.int .i64 1)), none⟩,
    ⟨(some 8), .mov (.t 75), none⟩]))
def A_ref01_ListL2 : ACode :=
  .seq (.seq (.region false [⟨(some 49), .mov (.t 7), none⟩,
    ⟨(some 50), .mov (.t 0), none⟩,
    ⟨(some 51), .len (.t 50), none⟩,
    ⟨(some 52), .bin .lss (.t 49) (.t 51), none⟩])
  (.cond (.t 52)
   (.skip)
   (.exit 4)))
  (.seq (.block 5 (.seq (.region false [⟨(some 55), .mov (.t 7), none⟩,
    ⟨(some 8), .mov (.t 55), none⟩])
  (.seq (.block 6 (.loop A_ref01_ListL3))
  (.seq (.seq (.region false [⟨(some 76), .mov (.t 6), none⟩,
    ⟨(some 77), .bin .neq (.t 76) (.c (.str [])), none⟩])
  (.cond (.t 77)
   (.region false [⟨(some 78), .mov (.t 6), none⟩,
     ⟨(some 79), .bin .add (.t 78) (.c (.str [44])), none⟩,
     ⟨(some 6), .mov (.t 79), none⟩])
   (.skip)))
  (.seq (.region false [⟨(some 80), .mov (.t 6), none⟩,
    ⟨(some 81), .mov (.t 0), none⟩,
    ⟨(some 82), .mov (.t 7), none⟩,
    ⟨(some 83), .idxA 1 (.t 81) (.t 82), none⟩,
    ⟨(some 84), .ld none (.t 83), none⟩,
    ⟨(some 85), .call F_ref01_Digits [(.t 84)], none⟩,
    ⟨(some 86), .bin .add (.t 80) (.t 85), none⟩,
    ⟨(some 6), .mov (.t 86), none⟩])
  (.seq (.seq (.region false [⟨(some 87), .mov (.t 8), none⟩,
    ⟨(some 88), .mov (.t 7), none⟩,
    ⟨(some 89), .bin .gtr (.t 87) (.t 88), none⟩])
  (.cond (.t 89)
   (.region false [⟨(some 90), .mov (.t 6), none⟩,
     ⟨(some 91), .bin .add (.t 90) (.c (.str [45])), none⟩,
     ⟨(some 92), .mov (.t 0), none⟩,
     ⟨(some 93), .mov (.t 8), none⟩,
     ⟨(some 94), .idxA 1 (.t 92) (.t 93), none⟩,
     ⟨(some 95), .ld none (.t 94), none⟩,
     ⟨(some 96), .call F_ref01_Digits [(.t 95)], none⟩,
     ⟨(some 97), .bin .add (.t 91) (.t 96), none⟩,
     ⟨(some 6), .mov (.t 97), none⟩])
   (.skip)))
  (.region false [⟨(some 98), .mov (.t 8), none⟩,
    ⟨(some 7), .mov (.t 98), none⟩])))))))
  (.region false [⟨(some 53), .mov (.t 7), none⟩,
    ⟨(some 54), .bin .add (.t 53) (.c (.int .i64 1)), none⟩,
    ⟨(some 7), .mov (.t 54), none⟩]))
def A_ref01_List : AFun := ⟨100,
  .seq (.region false [⟨(some 2), .mov (.c (.str [])), none⟩,
    ⟨(some 3), .mov (.c (.int .i64 0)), none⟩])
  (.seq (.seq (.region false [⟨(some 9), .mov (.t 0), none⟩,
    ⟨(some 10), .len (.t 9), none⟩,
    ⟨(some 11), .bin .gtr (.t 10) (.c (.int .i64 500)), none⟩])
  (.cond (.t 11)
   (.seq (.region false [⟨(some 2), .mov (.c (.str [])), none⟩,
     ⟨(some 3), .mov (.c (.int .i64 3)), none⟩])
   (.ret))
   (.skip)))
  (.seq (.seq (.region false [⟨(some 4), .mov (.c (.int .i64 0)), none⟩])
  (.block 0 (.loop A_ref01_ListL0)))
  (.seq (.seq (.region false [⟨(some 5), .mov (.c (.int .i64 1)), none⟩])
  (.block 2 (.loop A_ref01_ListL1)))
  (.seq (.seq (.region false [⟨(some 46), .mov (.t 0), none⟩,
    ⟨(some 47), .len (.t 46), none⟩,
    ⟨(some 48), .bin .eql (.t 47) (.c (.int .i64 0)), none⟩])
  (.cond (.t 48)
   (.seq (.region false [⟨(some 2), .mov (.c (.str [45])), none⟩,
     ⟨(some 3), .mov (.c (.int .i64 0)), none⟩])
   (.ret))
   (.skip)))
  (.seq (.region false [⟨(some 6), .mov (.c (.str [])), none⟩])
  (.seq (.seq (.region false [⟨(some 7), .mov (.c (.int .i64 0)), none⟩])
  (.block 4 (.loop A_ref01_ListL2)))
  (.seq (.region false [⟨(some 99), .mov (.t 6), none⟩,
    ⟨(some 2), .mov (.t 99), none⟩,
    ⟨(some 3), .mov (.c (.int .i64 0)), none⟩])
  (.ret)))))))),
  [.tmp 2, .tmp 3]⟩

/- words_ParseList -/
def A_words_ParseListL0 : ACode :=
  .seq (.region false [⟨(some 25), .bin .lss (.t 24) (.t 23), none⟩])
  (.seq (.cond (.t 25)
   (.skip)
   (.exit 0))
  (.seq (.block 1 (.seq (.region false [⟨(some 26), .mov (.t 24), none⟩,
    ⟨(some 27), .idxA 1 (.t 22) (.t 24), none⟩,
    ⟨(some 28), .ld none (.t 27), none⟩,
    ⟨(some 6), .mov (.t 26), none⟩,
    ⟨(some 7), .mov (.t 28), none⟩])
  (.seq (.region false [⟨(some 30), .mov (.t 7), none⟩,
    ⟨(some 31), .call F_strings_Cut [(.t 30), (.c (.str [45]))], none⟩,
    ⟨(some 29), .mov (.t 31), none⟩,
    ⟨(some 32), .extr (.t 29) 0, none⟩,
    ⟨(some 33), .extr (.t 29) 1, none⟩,
    ⟨(some 34), .extr (.t 29) 2, none⟩,
    ⟨(some 8), .mov (.t 32), none⟩,
    ⟨(some 9), .mov (.t 33), none⟩,
    ⟨(some 10), .mov (.t 34), none⟩])
  (.seq (.seq (.region false [⟨(some 35), .mov (.t 10), none⟩,
    ⟨(some 36), .not (.t 35), none⟩])
  (.cond (.t 36)
   (.region false [⟨(some 37), .mov (.t 8), none⟩,
     ⟨(some 9), .mov (.t 37), none⟩])
   (.skip)))
  (.seq (.seq (.region false [⟨(some 38), .mov (.t 8), none⟩,
    ⟨(some 39), .call F_words_isDecimal [(.t 38)], none⟩,
    ⟨(some 40), .not (.t 39), none⟩,
    ⟨(some 41), .mov (.t 40), none⟩,
    ⟨(some 42), .mov (.t 9), some (41, false)⟩,
    ⟨(some 43), .call F_words_isDecimal [(.t 42)], some (41, false)⟩,
    ⟨(some 44), .not (.t 43), some (41, false)⟩,
    ⟨(some 45), .pick (.t 41) (.c (.bool true)) (.t 44), none⟩,
    ⟨(some 46), .mov (.t 45), none⟩,
    ⟨(some 47), .mov (.t 9), some (46, false)⟩,
    ⟨(some 48), .idxS (.t 47) (.c (.int .i64 0)), some (46, false)⟩,
    ⟨(some 49), .bin .eql (.t 48) (.c (.int .u8 45)), some (46, false)⟩,
    ⟨(some 50), .pick (.t 46) (.c (.bool true)) (.t 49), none⟩,
    ⟨(some 51), .mov (.t 50), none⟩,
    ⟨(some 52), .mov (.t 10), some (51, false)⟩,
    ⟨(some 53), .mov (.t 52), some (51, false)⟩,
    ⟨(some 54), .mov (.t 8), some (53, true)⟩,
    ⟨(some 55), .mov (.t 9), some (53, true)⟩,
    ⟨(some 56), .call F_words_compare [(.t 54), (.t 55)], some (53, true)⟩,
    ⟨(some 57), .bin .geq (.t 56) (.c (.int .i64 0)), some (53, true)⟩,
    ⟨(some 58), .pick (.t 53) (.t 57) (.c (.bool false)), some (51, false)⟩,
    ⟨(some 59), .pick (.t 51) (.c (.bool true)) (.t 58), none⟩,
    ⟨(some 60), .mov (.t 59), none⟩,
    ⟨(some 61), .mov (.t 6), some (60, false)⟩,
    ⟨(some 62), .bin .gtr (.t 61) (.c (.int .i64 0)), some (60, false)⟩,
    ⟨(some 63), .mov (.t 62), some (60, false)⟩,
    ⟨(some 64), .mov (.t 4), some (63, true)⟩,
    ⟨(some 65), .mov (.t 8), some (63, true)⟩,
    ⟨(some 66), .call F_words_follows [(.t 64), (.t 65)], some (63, true)⟩,
    ⟨(some 67), .not (.t 66), some (63, true)⟩,
    ⟨(some 68), .pick (.t 63) (.t 67) (.c (.bool false)), some (60, false)⟩,
    ⟨(some 69), .pick (.t 60) (.c (.bool true)) (.t 68), none⟩])
  (.cond (.t 69)
   (.seq (.region false [⟨(some 2), .mov (.c (.sl .ex [])), none⟩,
     ⟨(some 3), .mov (.c (.int .i64 6)), none⟩])
   (.ret))
   (.skip)))
  (.seq (.region false [⟨(some 70), .mov (.t 9), none⟩,
    ⟨(some 4), .mov (.t 70), none⟩])
  (.region false [⟨(some 71), .mov (.t 5), none⟩,
    ⟨(some 72), .mov (.t 8), none⟩,
    ⟨(some 73), .mov (.t 9), none⟩,
    ⟨(some 74), .build [.str [], .str []] [(0, 1, (.t 72)), (1, 1, (.t 73))], none⟩,
    ⟨(some 75), .bsl 2 (.agg [.str [], .str []]) 1 [(0, (.t 74))], none⟩,
    ⟨(some 76), .app 2 32 (.t 71) (.t 75), none⟩,
    ⟨(some 5), .mov (.t 76), none⟩])))))))
  (.region false [⟨(some 77), .bin .add (.t 24) (.c (.int .i64 1)), none⟩,
    ⟨(some 24), .mov (.t 77), none⟩])))
def A_words_ParseListL2 : ACode :=
  .seq (.seq (.region false [⟨(some 108), .mov (.t 18), none⟩,
    ⟨(some 109), .mov (.t 16), none⟩,
    ⟨(some 110), .bin .leq (.t 108) (.t 109), none⟩])
  (.cond (.t 110)
   (.skip)
   (.exit 4)))
  (.seq (.block 5 (.region false [⟨(some 113), .mov (.t 11), none⟩,
    ⟨(some 114), .mov (.t 18), none⟩,
    ⟨(some 115), .bsl 1 (.int .i64 0) 1 [(0, (.t 114))], none⟩,
    ⟨(some 116), .app 1 8 (.t 113) (.t 115), none⟩,
    ⟨(some 11), .mov (.t 116), none⟩]))
  (.region false [⟨(some 111), .mov (.t 18), none⟩,
    ⟨(some 112), .bin .add (.t 111) (.c (.int .i64 1)), none⟩,
    ⟨(some 18), .mov (.t 112), none⟩]))
def A_words_ParseListL1 : ACode :=
  .seq (.region false [⟨(some 85), .bin .lss (.t 84) (.t 83), none⟩])
  (.seq (.cond (.t 85)
   (.skip)
   (.exit 2))
  (.seq (.block 3 (.seq (.region false [⟨(some 86), .idxA 2 (.t 82) (.t 84), none⟩,
    ⟨(some 87), .ld (some 2) (.t 86), none⟩,
    ⟨(some 13), .alloc [.str [], .str []], none⟩,
    ⟨none, .st 2 (.t 13) (.t 87), none⟩])
  (.seq (.region false [⟨(some 89), .idxP 2 1 (.t 13) (.c (.int .i64 0)), none⟩,
    ⟨(some 90), .ld none (.t 89), none⟩,
    ⟨(some 91), .call F_strconv_Atoi [(.t 90)], none⟩,
    ⟨(some 88), .mov (.t 91), none⟩,
    ⟨(some 92), .extr (.t 88) 0, none⟩,
    ⟨(some 93), .extr (.t 88) 1, none⟩,
    ⟨(some 14), .mov (.t 92), none⟩,
    ⟨(some 15), .mov (.t 93), none⟩])
  (.seq (.region false [⟨(some 95), .idxP 2 1 (.t 13) (.c (.int .i64 1)), none⟩,
    ⟨(some 96), .ld none (.t 95), none⟩,
    ⟨(some 97), .call F_strconv_Atoi [(.t 96)], none⟩,
    ⟨(some 94), .mov (.t 97), none⟩,
    ⟨(some 98), .extr (.t 94) 0, none⟩,
    ⟨(some 99), .extr (.t 94) 1, none⟩,
    ⟨(some 16), .mov (.t 98), none⟩,
    ⟨(some 17), .mov (.t 99), none⟩])
  (.seq (.seq (.region false [⟨(some 100), .mov (.t 16), none⟩,
    ⟨(some 101), .mov (.t 14), none⟩,
    ⟨(some 102), .bin .sub (.t 100) (.t 101), none⟩,
    ⟨(some 103), .mov (.t 11), none⟩,
    ⟨(some 104), .len (.t 103), none⟩,
    ⟨(some 105), .bin .sub (.c (.int .i64 500)) (.t 104), none⟩,
    ⟨(some 106), .bin .geq (.t 102) (.t 105), none⟩])
  (.cond (.t 106)
   (.seq (.region false [⟨(some 2), .mov (.c (.sl .ex [])), none⟩,
     ⟨(some 3), .mov (.c (.int .i64 3)), none⟩])
   (.ret))
   (.skip)))
  (.seq (.region false [⟨(some 107), .mov (.t 14), none⟩,
    ⟨(some 18), .mov (.t 107), none⟩])
  (.block 4 (.loop A_words_ParseListL2))))))))
  (.region false [⟨(some 117), .bin .add (.t 84) (.c (.int .i64 1)), none⟩,
    ⟨(some 84), .mov (.t 117), none⟩])))
def A_words_ParseList : AFun := ⟨119,
  .seq (.region false [⟨(some 2), .mov (.c (.sl .ex [])), none⟩,
    ⟨(some 3), .mov (.c (.int .i64 0)), none⟩])
  (.seq (.seq (.region false [⟨(some 19), .mov (.t 0), none⟩,
    ⟨(some 20), .bin .eql (.t 19) (.c (.str [45])), none⟩])
  (.cond (.t 20)
   (.seq (.region false [⟨(some 2), .mov (.c (.sl .ex [])), none⟩,
     ⟨(some 3), .mov (.c (.int .i64 0)), none⟩])
   (.ret))
   (.skip)))
  (.seq (.region false [⟨(some 4), .mov (.c (.str [])), none⟩])
  (.seq (.region false [⟨(some 5), .mov (.c (.sl .ex [])), none⟩])
  (.seq (.seq (.region false [⟨(some 21), .mov (.t 0), none⟩,
    ⟨(some 22), .call F_strings_Split [(.t 21), (.c (.str [44]))], none⟩,
    ⟨(some 23), .len (.t 22), none⟩,
    ⟨(some 24), .mov (.c (.int .i64 0)), none⟩])
  (.block 0 (.loop A_words_ParseListL0)))
  (.seq (.seq (.region false [⟨(some 78), .mov (.t 4), none⟩,
    ⟨(some 79), .call F_strconv_Itoa [(.c (.int .i64 1000000000))], none⟩,
    ⟨(some 80), .call F_words_compare [(.t 78), (.t 79)], none⟩,
    ⟨(some 81), .bin .gtr (.t 80) (.c (.int .i64 0)), none⟩])
  (.cond (.t 81)
   (.seq (.region false [⟨(some 2), .mov (.c (.sl .ex [])), none⟩,
     ⟨(some 3), .mov (.c (.int .i64 7)), none⟩])
   (.ret))
   (.skip)))
  (.seq (.region false [⟨(some 11), .mov (.c (.sl .ex [])), none⟩])
  (.seq (.seq (.region false [⟨(some 82), .mov (.t 5), none⟩,
    ⟨(some 83), .len (.t 82), none⟩,
    ⟨(some 84), .mov (.c (.int .i64 0)), none⟩])
  (.block 2 (.loop A_words_ParseListL1)))
  (.seq (.region false [⟨(some 118), .mov (.t 11), none⟩,
    ⟨(some 2), .mov (.t 118), none⟩,
    ⟨(some 3), .mov (.c (.int .i64 0)), none⟩])
  (.ret))))))))),
  [.tmp 2, .tmp 3]⟩

/- ref01_ParseList -/
def A_ref01_ParseListL0 : ACode :=
  .seq (.seq (.region false [⟨(some 21), .mov (.t 8), none⟩,
    ⟨(some 22), .mov (.t 7), none⟩,
    ⟨(some 23), .len (.t 22), none⟩,
    ⟨(some 24), .bin .lss (.t 21) (.t 23), none⟩])
  (.cond (.t 24)
   (.skip)
   (.exit 0)))
  (.seq (.block 1 (.seq (.region false [⟨(some 27), .mov (.t 7), none⟩,
    ⟨(some 28), .mov (.t 8), none⟩,
    ⟨(some 29), .idxA 1 (.t 27) (.t 28), none⟩,
    ⟨(some 30), .ld none (.t 29), none⟩,
    ⟨(some 31), .call F_ref01_parts [(.t 30), (.c (.int .u8 45))], none⟩,
    ⟨(some 9), .mov (.t 31), none⟩])
  (.seq (.seq (.region true [⟨(some 32), .mov (.t 9), none⟩,
    ⟨(some 33), .len (.t 32), none⟩,
    ⟨(some 34), .bin .gtr (.t 33) (.c (.int .i64 2)), none⟩,
    ⟨(some 35), .mov (.t 34), none⟩,
    ⟨(some 36), .mov (.t 9), some (35, false)⟩,
    ⟨(some 37), .idxA 1 (.t 36) (.c (.int .i64 0)), some (35, false)⟩,
    ⟨(some 38), .ld none (.t 37), some (35, false)⟩,
    ⟨(some 39), .call F_ref01_decimal [(.t 38)], some (35, false)⟩,
    ⟨(some 40), .not (.t 39), some (35, false)⟩,
    ⟨(some 41), .pick (.t 35) (.c (.bool true)) (.t 40), none⟩,
    ⟨(some 42), .mov (.t 41), none⟩,
    ⟨(some 43), .mov (.t 9), some (42, false)⟩,
    ⟨(some 44), .len (.t 43), some (42, false)⟩,
    ⟨(some 45), .bin .eql (.t 44) (.c (.int .i64 2)), some (42, false)⟩,
    ⟨(some 46), .mov (.t 45), some (42, false)⟩,
    ⟨(some 47), .mov (.t 9), some (46, true)⟩,
    ⟨(some 48), .idxA 1 (.t 47) (.c (.int .i64 1)), some (46, true)⟩,
    ⟨(some 49), .ld none (.t 48), some (46, true)⟩,
    ⟨(some 50), .call F_ref01_decimal [(.t 49)], some (46, true)⟩,
    ⟨(some 51), .not (.t 50), some (46, true)⟩,
    ⟨(some 52), .mov (.t 51), some (46, true)⟩,
    ⟨(some 53), .mov (.t 9), some (52, false)⟩,
    ⟨(some 54), .idxA 1 (.t 53) (.c (.int .i64 0)), some (52, false)⟩,
    ⟨(some 55), .ld none (.t 54), some (52, false)⟩,
    ⟨(some 56), .mov (.t 9), some (52, false)⟩,
    ⟨(some 57), .idxA 1 (.t 56) (.c (.int .i64 1)), some (52, false)⟩,
    ⟨(some 58), .ld none (.t 57), some (52, false)⟩,
    ⟨(some 59), .call F_ref01_less [(.t 55), (.t 58)], some (52, false)⟩,
    ⟨(some 60), .not (.t 59), some (52, false)⟩,
    ⟨(some 61), .pick (.t 52) (.c (.bool true)) (.t 60), some (46, true)⟩,
    ⟨(some 62), .pick (.t 46) (.t 61) (.c (.bool false)), some (42, false)⟩,
    ⟨(some 63), .pick (.t 42) (.c (.bool true)) (.t 62), none⟩])
  (.cond (.t 63)
   (.seq (.region false [⟨(some 2), .mov (.c (.sl .ex [])), none⟩,
     ⟨(some 3), .mov (.c (.int .i64 6)), none⟩])
   (.ret))
   (.skip)))
  (.seq (.seq (.region true [⟨(some 64), .mov (.t 8), none⟩,
    ⟨(some 65), .bin .gtr (.t 64) (.c (.int .i64 0)), none⟩,
    ⟨(some 66), .mov (.t 65), none⟩,
    ⟨(some 67), .mov (.t 4), some (66, true)⟩,
    ⟨(some 68), .call F_ref01_next [(.t 67)], some (66, true)⟩,
    ⟨(some 69), .mov (.t 9), some (66, true)⟩,
    ⟨(some 70), .idxA 1 (.t 69) (.c (.int .i64 0)), some (66, true)⟩,
    ⟨(some 71), .ld none (.t 70), some (66, true)⟩,
    ⟨(some 72), .call F_ref01_less [(.t 68), (.t 71)], some (66, true)⟩,
    ⟨(some 73), .not (.t 72), some (66, true)⟩,
    ⟨(some 74), .pick (.t 66) (.t 73) (.c (.bool false)), none⟩])
  (.cond (.t 74)
   (.seq (.region false [⟨(some 2), .mov (.c (.sl .ex [])), none⟩,
     ⟨(some 3), .mov (.c (.int .i64 6)), none⟩])
   (.ret))
   (.skip)))
  (.seq (.region false [⟨(some 75), .mov (.t 9), none⟩,
    ⟨(some 76), .mov (.t 9), none⟩,
    ⟨(some 77), .len (.t 76), none⟩,
    ⟨(some 78), .bin .sub (.t 77) (.c (.int .i64 1)), none⟩,
    ⟨(some 79), .idxA 1 (.t 75) (.t 78), none⟩,
    ⟨(some 80), .ld none (.t 79), none⟩,
    ⟨(some 4), .mov (.t 80), none⟩])
  (.seq (.region false [⟨(some 81), .mov (.t 5), none⟩,
    ⟨(some 82), .mov (.t 9), none⟩,
    ⟨(some 83), .idxA 1 (.t 82) (.c (.int .i64 0)), none⟩,
    ⟨(some 84), .ld none (.t 83), none⟩,
    ⟨(some 85), .bsl 1 (.str []) 1 [(0, (.t 84))], none⟩,
    ⟨(some 86), .app 1 16 (.t 81) (.t 85), none⟩,
    ⟨(some 5), .mov (.t 86), none⟩])
  (.region false [⟨(some 87), .mov (.t 6), none⟩,
    ⟨(some 88), .mov (.t 4), none⟩,
    ⟨(some 89), .bsl 1 (.str []) 1 [(0, (.t 88))], none⟩,
    ⟨(some 90), .app 1 16 (.t 87) (.t 89), none⟩,
    ⟨(some 6), .mov (.t 90), none⟩])))))))
  (.region false [⟨(some 25), .mov (.t 8), none⟩,
    ⟨(some 26), .bin .add (.t 25) (.c (.int .i64 1)), none⟩,
    ⟨(some 8), .mov (.t 26), none⟩]))
def A_ref01_ParseListL2 : ACode :=
  .seq (.seq (.region false [⟨(some 117), .mov (.t 16), none⟩,
    ⟨(some 118), .mov (.t 14), none⟩,
    ⟨(some 119), .bin .leq (.t 117) (.t 118), none⟩])
  (.cond (.t 119)
   (.skip)
   (.exit 4)))
  (.seq (.block 5 (.seq (.seq (.region false [⟨(some 122), .mov (.t 10), none⟩,
    ⟨(some 123), .len (.t 122), none⟩,
    ⟨(some 124), .bin .eql (.t 123) (.c (.int .i64 500)), none⟩])
  (.cond (.t 124)
   (.seq (.region false [⟨(some 2), .mov (.c (.sl .ex [])), none⟩,
     ⟨(some 3), .mov (.c (.int .i64 3)), none⟩])
   (.ret))
   (.skip)))
  (.region false [⟨(some 125), .mov (.t 10), none⟩,
    ⟨(some 126), .mov (.t 16), none⟩,
    ⟨(some 127), .bsl 1 (.int .i64 0) 1 [(0, (.t 126))], none⟩,
    ⟨(some 128), .app 1 8 (.t 125) (.t 127), none⟩,
    ⟨(some 10), .mov (.t 128), none⟩])))
  (.region false [⟨(some 120), .mov (.t 16), none⟩,
    ⟨(some 121), .bin .add (.t 120) (.c (.int .i64 1)), none⟩,
    ⟨(some 16), .mov (.t 121), none⟩]))
def A_ref01_ParseListL1 : ACode :=
  .seq (.seq (.region false [⟨(some 94), .mov (.t 11), none⟩,
    ⟨(some 95), .mov (.t 7), none⟩,
    ⟨(some 96), .len (.t 95), none⟩,
    ⟨(some 97), .bin .lss (.t 94) (.t 96), none⟩])
  (.cond (.t 97)
   (.skip)
   (.exit 2)))
  (.seq (.block 3 (.seq (.region false [⟨(some 101), .mov (.t 5), none⟩,
    ⟨(some 102), .mov (.t 11), none⟩,
    ⟨(some 103), .idxA 1 (.t 101) (.t 102), none⟩,
    ⟨(some 104), .ld none (.t 103), none⟩,
    ⟨(some 105), .call F_ref01_Int [(.t 104), (.c (.int .i64 0)), (.c (.int .i64 1000000000))], none⟩,
    ⟨(some 100), .mov (.t 105), none⟩,
    ⟨(some 106), .extr (.t 100) 0, none⟩,
    ⟨(some 107), .extr (.t 100) 1, none⟩,
    ⟨(some 12), .mov (.t 106), none⟩,
    ⟨(some 13), .mov (.t 107), none⟩])
  (.seq (.region false [⟨(some 109), .mov (.t 6), none⟩,
    ⟨(some 110), .mov (.t 11), none⟩,
    ⟨(some 111), .idxA 1 (.t 109) (.t 110), none⟩,
    ⟨(some 112), .ld none (.t 111), none⟩,
    ⟨(some 113), .call F_ref01_Int [(.t 112), (.c (.int .i64 0)), (.c (.int .i64 1000000000))], none⟩,
    ⟨(some 108), .mov (.t 113), none⟩,
    ⟨(some 114), .extr (.t 108) 0, none⟩,
    ⟨(some 115), .extr (.t 108) 1, none⟩,
    ⟨(some 14), .mov (.t 114), none⟩,
    ⟨(some 15), .mov (.t 115), none⟩])
  (.seq (.region false [⟨(some 116), .mov (.t 12), none⟩,
    ⟨(some 16), .mov (.t 116), none⟩])
  (.block 4 (.loop A_ref01_ParseListL2))))))
  (.region false [⟨(some 98), .mov (.t 11), none⟩,
    ⟨(some 99), .bin .add (.t 98) (.c (.int .i64 1)), none⟩,
    ⟨(some 11), .mov (.t 99), none⟩]))
def A_ref01_ParseList : AFun := ⟨130,
  .seq (.region false [⟨(some 2), .mov (.c (.sl .ex [])), none⟩,
    ⟨(some 3), .mov (.c (.int .i64 0)), none⟩])
  (.seq (.seq (.region false [⟨(some 17), .mov (.t 0), none⟩,
    ⟨(some 18), .bin .eql (.t 17) (.c (.str [45])), none⟩])
  (.cond (.t 18)
   (.seq (.region false [⟨(some 2), .mov (.c (.sl .ex [])), none⟩,
     ⟨(some 3), .mov (.c (.int .i64 0)), none⟩])
   (.ret))
   (.skip)))
  (.seq (.region false [⟨(some 4), .mov (.c (.str [])), none⟩])
  (.seq (.region false [⟨(some 5), .mov (.c (.sl .ex [])), none⟩,
    ⟨(some 6), .mov (.c (.sl .ex [])), none⟩])
  (.seq (.region false [⟨(some 19), .mov (.t 0), none⟩,
    ⟨(some 20), .call F_ref01_parts [(.t 19), (.c (.int .u8 44))], none⟩,
    ⟨(some 7), .mov (.t 20), none⟩])
  (.seq (.seq (.region false [⟨(some 8), .mov (.c (.int .i64 0)), none⟩])
  (.block 0 (.loop A_ref01_ParseListL0)))
  (.seq (.seq (.region false [⟨(some 91), .call F_ref01_Digits [(.c (.int .i64 1000000000))], none⟩,
    ⟨(some 92), .mov (.t 4), none⟩,
    ⟨(some 93), .call F_ref01_less [(.t 91), (.t 92)], none⟩])
  (.cond (.t 93)
   (.seq (.region false [⟨(some 2), .mov (.c (.sl .ex [])), none⟩,
     ⟨(some 3), .mov (.c (.int .i64 7)), none⟩])
   (.ret))
   (.skip)))
  (.seq (.region false [⟨(some 10), .mov (.c (.sl .ex [])), none⟩])
  (.seq (.seq (.region false [⟨(some 11), .mov (.c (.int .i64 0)), none⟩])
  (.block 2 (.loop A_ref01_ParseListL1)))
  (.seq (.region false [⟨(some 129), .mov (.t 10), none⟩,
    ⟨(some 2), .mov (.t 129), none⟩,
    ⟨(some 3), .mov (.c (.int .i64 0)), none⟩])
  (.ret)))))))))),
  [.tmp 2, .tmp 3]⟩

/- law01_lists -/
def A_law01_listsL0 : ACode :=
  .seq (.seq (.region false [⟨(some 11), .mov (.t 5), none⟩,
    ⟨(some 12), .mov (.t 0), none⟩,
    ⟨(some 13), .len (.t 12), none⟩,
    ⟨(some 14), .bin .lss (.t 11) (.t 13), none⟩])
  (.cond (.t 14)
   (.skip)
   (.exit 0)))
  (.seq (.block 1 (.seq (.region true [⟨(some 17), .mov (.t 0), none⟩,
    ⟨(some 18), .mov (.t 5), none⟩,
    ⟨(some 19), .idxA 1 (.t 17) (.t 18), none⟩,
    ⟨(some 20), .ld none (.t 19), none⟩,
    ⟨(some 21), .mov (.t 1), none⟩,
    ⟨(some 22), .mov (.t 5), none⟩,
    ⟨(some 23), .idxA 1 (.t 21) (.t 22), none⟩,
    ⟨(some 24), .ld none (.t 23), none⟩,
    ⟨(some 25), .bin .neq (.t 20) (.t 24), none⟩])
  (.cond (.t 25)
   (.seq (.region false [⟨(some 4), .mov (.c (.bool false)), none⟩])
   (.ret))
   (.skip))))
  (.region false [⟨(some 15), .mov (.t 5), none⟩,
    ⟨(some 16), .bin .add (.t 15) (.c (.int .i64 1)), none⟩,
    ⟨(some 5), .mov (.t 16), none⟩]))
def A_law01_lists : AFun := ⟨26,
  .seq (.region false [⟨(some 4), .mov (.c (.bool false)), none⟩])
  (.seq (.seq (.region false [⟨(some 6), .mov (.t 0), none⟩,
    ⟨(some 7), .len (.t 6), none⟩,
    ⟨(some 8), .mov (.t 1), none⟩,
    ⟨(some 9), .len (.t 8), none⟩,
    ⟨(some 10), .bin .neq (.t 7) (.t 9), none⟩])
  (.cond (.t 10)
   (.seq (.region false [⟨(some 4), .mov (.c (.bool false)), none⟩])
   (.ret))
   (.skip)))
  (.seq (.seq (.region false [⟨(some 5), .mov (.c (.int .i64 0)), none⟩])
  (.block 0 (.loop A_law01_listsL0)))
  (.seq (.region false [⟨(some 4), .mov (.c (.bool true)), none⟩])
  (.ret)))),
  [.tmp 4]⟩

/- words_Int -/
def A_words_Int : AFun := ⟨31,
  .seq (.region false [⟨(some 6), .mov (.c (.int .i64 0)), none⟩,
    ⟨(some 7), .mov (.c (.int .i64 0)), none⟩])
  (.seq (.seq (.region false [⟨(some 10), .mov (.t 0), none⟩,
    ⟨(some 11), .call F_words_isDecimal [(.t 10)], none⟩,
    ⟨(some 12), .not (.t 11), none⟩])
  (.cond (.t 12)
   (.seq (.region false [⟨(some 6), .mov (.c (.int .i64 0)), none⟩,
     ⟨(some 7), .mov (.c (.int .i64 6)), none⟩])
   (.ret))
   (.skip)))
  (.seq (.region false [⟨(some 14), .mov (.t 0), none⟩,
    ⟨(some 15), .call F_strconv_ParseInt [(.t 14), (.c (.int .i64 10)), (.c (.int .i64 64))], none⟩,
    ⟨(some 13), .mov (.t 15), none⟩,
    ⟨(some 16), .extr (.t 13) 0, none⟩,
    ⟨(some 17), .extr (.t 13) 1, none⟩,
    ⟨(some 8), .mov (.t 16), none⟩,
    ⟨(some 9), .mov (.t 17), none⟩])
  (.seq (.seq (.region false [⟨(some 18), .mov (.t 9), none⟩,
    ⟨(some 19), .ifn true (.t 18), none⟩,
    ⟨(some 20), .mov (.t 19), none⟩,
    ⟨(some 21), .mov (.t 8), some (20, false)⟩,
    ⟨(some 22), .mov (.t 1), some (20, false)⟩,
    ⟨(some 23), .bin .lss (.t 21) (.t 22), some (20, false)⟩,
    ⟨(some 24), .pick (.t 20) (.c (.bool true)) (.t 23), none⟩,
    ⟨(some 25), .mov (.t 24), none⟩,
    ⟨(some 26), .mov (.t 8), some (25, false)⟩,
    ⟨(some 27), .mov (.t 2), some (25, false)⟩,
    ⟨(some 28), .bin .gtr (.t 26) (.t 27), some (25, false)⟩,
    ⟨(some 29), .pick (.t 25) (.c (.bool true)) (.t 28), none⟩])
  (.cond (.t 29)
   (.seq (.region false [⟨(some 6), .mov (.c (.int .i64 0)), none⟩,
     ⟨(some 7), .mov (.c (.int .i64 7)), none⟩])
   (.ret))
   (.skip)))
  (.seq (.region false [⟨(some 30), .mov (.t 8), none⟩,
    ⟨(some 6), .mov (.t 30), none⟩,
    ⟨(some 7), .mov (.c (.int .i64 0)), none⟩])
  (.ret))))),
  [.tmp 6, .tmp 7]⟩

/- words_Unquote -/
def A_words_Unquote : AFun := ⟨20,
  .seq (.region false [⟨(some 2), .mov (.c (.str [])), none⟩,
    ⟨(some 3), .mov (.c (.int .i64 0)), none⟩])
  (.seq (.region false [⟨(some 7), .mov (.t 0), none⟩,
    ⟨(some 8), .call F_words_unquote [(.t 7)], none⟩,
    ⟨(some 6), .mov (.t 8), none⟩,
    ⟨(some 9), .extr (.t 6) 0, none⟩,
    ⟨(some 10), .extr (.t 6) 1, none⟩,
    ⟨(some 4), .mov (.t 9), none⟩,
    ⟨(some 5), .mov (.t 10), none⟩])
  (.seq (.seq (.region false [⟨(some 11), .mov (.t 5), none⟩,
    ⟨(some 12), .bin .eql (.t 11) (.c (.int .i64 0)), none⟩,
    ⟨(some 13), .mov (.t 12), none⟩,
    ⟨(some 14), .mov (.t 5), some (13, false)⟩,
    ⟨(some 15), .mov (.t 0), some (13, false)⟩,
    ⟨(some 16), .lenS (.t 15), some (13, false)⟩,
    ⟨(some 17), .bin .lss (.t 14) (.t 16), some (13, false)⟩,
    ⟨(some 18), .pick (.t 13) (.c (.bool true)) (.t 17), none⟩])
  (.cond (.t 18)
   (.seq (.region false [⟨(some 2), .mov (.c (.str [])), none⟩,
     ⟨(some 3), .mov (.c (.int .i64 6)), none⟩])
   (.ret))
   (.skip)))
  (.seq (.region false [⟨(some 19), .mov (.t 4), none⟩,
    ⟨(some 2), .mov (.t 19), none⟩,
    ⟨(some 3), .mov (.c (.int .i64 0)), none⟩])
  (.ret)))),
  [.tmp 2, .tmp 3]⟩

/- words_Split -/
def A_words_SplitR0a : ACode :=
  .seq (.region false [⟨(some 6), .alloc [.str [], .bool false], none⟩,
    ⟨none, .st 2 (.t 6) (.t 17), none⟩])
  (.region false [⟨(some 7), .mov (.t 18), none⟩])
def A_words_SplitR0b : ACode :=
  .block 2 (.seq (.seq (.region false [⟨(some 19), .mov (.t 7), none⟩,
    ⟨(some 20), .not (.t 19), none⟩])
  (.cond (.t 20)
   (.seq (.region false [⟨none, .st 1 (.t 2) (.c (.sl .ex [])), none⟩,
     ⟨none, .st 1 (.t 3) (.c (.int .i64 6)), none⟩])
   (.ret))
   (.skip)))
  (.seq (.region false [⟨(some 21), .ld none (.t 5), none⟩,
    ⟨(some 22), .mov (.t 21), none⟩,
    ⟨(some 23), .fldA 0 (.t 6), some (22, false)⟩,
    ⟨(some 24), .ld none (.t 23), some (22, false)⟩,
    ⟨(some 25), .lenS (.t 24), some (22, false)⟩,
    ⟨(some 26), .bin .gtr (.t 25) (.c (.int .i64 2000)), some (22, false)⟩,
    ⟨(some 27), .pick (.t 22) (.c (.bool true)) (.t 26), none⟩,
    ⟨none, .st 1 (.t 5) (.t 27), none⟩])
  (.region false [⟨(some 28), .ld none (.t 4), none⟩,
    ⟨(some 29), .ld (some 2) (.t 6), none⟩,
    ⟨(some 30), .bsl 2 (.agg [.str [], .bool false]) 1 [(0, (.t 29))], none⟩,
    ⟨(some 31), .app 2 24 (.t 28) (.t 30), none⟩,
    ⟨none, .st 1 (.t 4) (.t 31), none⟩])))
def A_words_Split : AFun := ⟨39,
  .seq (.region false [⟨(some 2), .alloc [.sl .ex []], none⟩,
    ⟨(some 3), .alloc [.int .i64 0], none⟩])
  (.seq (.block 0 (.seq (.region false [⟨(some 9), .mov (.t 0), none⟩,
    ⟨(some 10), .lenS (.t 9), none⟩,
    ⟨(some 11), .bin .gtr (.t 10) (.c (.int .i64 8192)), none⟩,
    ⟨(some 8), .mov (.t 11), none⟩])
  (.cond (.t 8)
   (.seq (.region false [⟨none, .st 1 (.t 2) (.c (.sl .ex [])), none⟩,
     ⟨none, .st 1 (.t 3) (.c (.int .i64 3)), none⟩])
   (.ret))
   (.seq (.region false [⟨(some 13), .mov (.t 0), none⟩,
     ⟨(some 14), .bin .eql (.t 13) (.c (.str [])), none⟩,
     ⟨(some 12), .mov (.t 14), none⟩])
   (.cond (.t 12)
    (.seq (.region false [⟨none, .st 1 (.t 2) (.c (.sl .ex [])), none⟩,
      ⟨none, .st 1 (.t 3) (.c (.int .i64 0)), none⟩])
    (.ret))
    (.skip))))))
  (.seq (.region false [⟨(some 4), .alloc [.sl .ex []], none⟩])
  (.seq (.region false [⟨(some 5), .alloc [.bool false], none⟩,
    ⟨none, .st 1 (.t 5) (.c (.bool false)), none⟩])
  (.seq (.seq (.region false [⟨(some 15), .mov (.t 0), none⟩,
    ⟨(some 16), .call F_words_fields [(.t 15)], none⟩])
  (.block 1 (.rangeF (.t 16) [17, 18] A_words_SplitR0a A_words_SplitR0b)))
  (.seq (.seq (.region false [⟨(some 32), .ld none (.t 5), none⟩,
    ⟨(some 33), .mov (.t 32), none⟩,
    ⟨(some 34), .ld none (.t 4), some (33, false)⟩,
    ⟨(some 35), .len (.t 34), some (33, false)⟩,
    ⟨(some 36), .bin .gtr (.t 35) (.c (.int .i64 64)), some (33, false)⟩,
    ⟨(some 37), .pick (.t 33) (.c (.bool true)) (.t 36), none⟩])
  (.cond (.t 37)
   (.seq (.region false [⟨none, .st 1 (.t 2) (.c (.sl .ex [])), none⟩,
     ⟨none, .st 1 (.t 3) (.c (.int .i64 3)), none⟩])
   (.ret))
   (.skip)))
  (.seq (.region false [⟨(some 38), .ld none (.t 4), none⟩,
    ⟨none, .st 1 (.t 2) (.t 38), none⟩,
    ⟨none, .st 1 (.t 3) (.c (.int .i64 0)), none⟩])
  (.ret))))))),
  [.cell none 2, .cell none 3]⟩

/- words_Name -/
def A_words_Name : AFun := ⟨23,
  .seq (.region false [⟨(some 2), .mov (.c (.bool false)), none⟩])
  (.seq (.seq (.region false [⟨(some 3), .mov (.t 0), none⟩,
    ⟨(some 4), .bin .eql (.t 3) (.c (.str [])), none⟩,
    ⟨(some 5), .mov (.t 4), none⟩,
    ⟨(some 6), .mov (.t 0), some (5, false)⟩,
    ⟨(some 7), .lenS (.t 6), some (5, false)⟩,
    ⟨(some 8), .bin .gtr (.t 7) (.c (.int .i64 16)), some (5, false)⟩,
    ⟨(some 9), .pick (.t 5) (.c (.bool true)) (.t 8), none⟩,
    ⟨(some 10), .mov (.t 9), none⟩,
    ⟨(some 11), .mov (.t 0), some (10, false)⟩,
    ⟨(some 12), .idxS (.t 11) (.c (.int .i64 0)), some (10, false)⟩,
    ⟨(some 13), .bin .lss (.t 12) (.c (.int .u8 97)), some (10, false)⟩,
    ⟨(some 14), .pick (.t 10) (.c (.bool true)) (.t 13), none⟩,
    ⟨(some 15), .mov (.t 14), none⟩,
    ⟨(some 16), .mov (.t 0), some (15, false)⟩,
    ⟨(some 17), .idxS (.t 16) (.c (.int .i64 0)), some (15, false)⟩,
    ⟨(some 18), .bin .gtr (.t 17) (.c (.int .u8 122)), some (15, false)⟩,
    ⟨(some 19), .pick (.t 15) (.c (.bool true)) (.t 18), none⟩])
  (.cond (.t 19)
   (.seq (.region false [⟨(some 2), .mov (.c (.bool false)), none⟩])
   (.ret))
   (.skip)))
  (.seq (.region false [⟨(some 20), .mov (.t 0), none⟩,
    ⟨(some 21), .call F_strings_Trim [(.t 20), (.c (.str [97, 98, 99, 100, 101, 102, 103, 104, 105, 106, 107, 108, 109, 110, 111, 112, 113, 114, 115, 116, 117, 118, 119, 120, 121, 122, 48, 49, 50, 51, 52, 53, 54, 55, 56, 57, 45]))], none⟩,
    ⟨(some 22), .bin .eql (.t 21) (.c (.str [])), none⟩,
    ⟨(some 2), .mov (.t 22), none⟩])
  (.ret))),
  [.tmp 2]⟩

/- law01_far -/
def A_law01_farL0 : ACode :=
  .seq (.seq (.region false [⟨(some 8), .mov (.t 4), none⟩,
    ⟨(some 9), .mov (.t 0), none⟩,
    ⟨(some 10), .len (.t 9), none⟩,
    ⟨(some 11), .bin .lss (.t 8) (.t 10), none⟩])
  (.cond (.t 11)
   (.skip)
   (.exit 0)))
  (.seq (.block 1 (.seq (.seq (.region false [⟨(some 14), .mov (.t 0), none⟩,
    ⟨(some 15), .mov (.t 4), none⟩,
    ⟨(some 16), .idxA 2 (.t 14) (.t 15), none⟩,
    ⟨(some 17), .fldA 0 (.t 16), none⟩,
    ⟨(some 18), .ld none (.t 17), none⟩,
    ⟨(some 19), .lenS (.t 18), none⟩,
    ⟨(some 20), .bin .gtr (.t 19) (.c (.int .i64 2100)), none⟩])
  (.cond (.t 20)
   (.seq (.region false [⟨(some 2), .mov (.c (.bool true)), none⟩])
   (.ret))
   (.skip)))
  (.region false [⟨(some 21), .mov (.t 3), none⟩,
    ⟨(some 22), .mov (.t 0), none⟩,
    ⟨(some 23), .mov (.t 4), none⟩,
    ⟨(some 24), .idxA 2 (.t 22) (.t 23), none⟩,
    ⟨(some 25), .fldA 0 (.t 24), none⟩,
    ⟨(some 26), .ld none (.t 25), none⟩,
    ⟨(some 27), .lenS (.t 26), none⟩,
    ⟨(some 28), .bin .add (.t 21) (.t 27), none⟩,
    ⟨(some 3), .mov (.t 28), none⟩])))
  (.region false [⟨(some 12), .mov (.t 4), none⟩,
    ⟨(some 13), .bin .add (.t 12) (.c (.int .i64 1)), none⟩,
    ⟨(some 4), .mov (.t 13), none⟩]))
def A_law01_far : AFun := ⟨31,
  .seq (.region false [⟨(some 2), .mov (.c (.bool false)), none⟩])
  (.seq (.seq (.region false [⟨(some 5), .mov (.t 0), none⟩,
    ⟨(some 6), .len (.t 5), none⟩,
    ⟨(some 7), .bin .gtr (.t 6) (.c (.int .i64 70)), none⟩])
  (.cond (.t 7)
   (.seq (.region false [⟨(some 2), .mov (.c (.bool true)), none⟩])
   (.ret))
   (.skip)))
  (.seq (.region false [⟨(some 3), .mov (.c (.int .i64 0)), none⟩])
  (.seq (.seq (.region false [⟨(some 4), .mov (.c (.int .i64 0)), none⟩])
  (.block 0 (.loop A_law01_farL0)))
  (.seq (.region false [⟨(some 29), .mov (.t 3), none⟩,
    ⟨(some 30), .bin .gtr (.t 29) (.c (.int .i64 12000)), none⟩,
    ⟨(some 2), .mov (.t 30), none⟩])
  (.ret))))),
  [.tmp 2]⟩

/- words_Join -/
def A_words_JoinL0 : ACode :=
  .seq (.region false [⟨(some 16), .bin .lss (.t 15) (.t 14), none⟩])
  (.seq (.cond (.t 16)
   (.skip)
   (.exit 0))
  (.seq (.block 1 (.seq (.region false [⟨(some 17), .idxA 2 (.t 13) (.t 15), none⟩,
    ⟨(some 18), .ld (some 2) (.t 17), none⟩,
    ⟨(some 7), .alloc [.str [], .bool false], none⟩,
    ⟨none, .st 2 (.t 7) (.t 18), none⟩])
  (.seq (.seq (.region false [⟨(some 19), .fldA 0 (.t 7), none⟩,
    ⟨(some 20), .ld none (.t 19), none⟩,
    ⟨(some 21), .lenS (.t 20), none⟩,
    ⟨(some 22), .bin .gtr (.t 21) (.c (.int .i64 2000)), none⟩])
  (.cond (.t 22)
   (.seq (.region false [⟨(some 2), .mov (.c (.str [])), none⟩,
     ⟨(some 3), .mov (.c (.int .i64 3)), none⟩])
   (.ret))
   (.skip)))
  (.seq (.region false [⟨(some 23), .fldA 0 (.t 7), none⟩,
    ⟨(some 24), .ld none (.t 23), none⟩,
    ⟨(some 8), .mov (.t 24), none⟩])
  (.seq (.seq (.region false [⟨(some 25), .fldA 1 (.t 7), none⟩,
    ⟨(some 26), .ld none (.t 25), none⟩])
  (.cond (.t 26)
   (.region false [⟨(some 27), .mov (.t 8), none⟩,
     ⟨(some 28), .call F_words_Quote [(.t 27)], none⟩,
     ⟨(some 8), .mov (.t 28), none⟩])
   (.seq (.region false [⟨(some 29), .mov (.t 8), none⟩,
     ⟨(some 30), .call F_words_isBare [(.t 29)], none⟩,
     ⟨(some 31), .not (.t 30), none⟩])
   (.cond (.t 31)
    (.region false [⟨(some 4), .mov (.c (.int .i64 6)), none⟩])
    (.skip)))))
  (.region false [⟨(some 32), .mov (.t 5), none⟩,
    ⟨(some 33), .mov (.t 8), none⟩,
    ⟨(some 34), .bsl 1 (.str []) 1 [(0, (.t 33))], none⟩,
    ⟨(some 35), .app 1 16 (.t 32) (.t 34), none⟩,
    ⟨(some 5), .mov (.t 35), none⟩]))))))
  (.region false [⟨(some 36), .bin .add (.t 15) (.c (.int .i64 1)), none⟩,
    ⟨(some 15), .mov (.t 36), none⟩])))
def A_words_Join : AFun := ⟨48,
  .seq (.region false [⟨(some 2), .mov (.c (.str [])), none⟩,
    ⟨(some 3), .mov (.c (.int .i64 0)), none⟩])
  (.seq (.seq (.region false [⟨(some 10), .mov (.t 0), none⟩,
    ⟨(some 11), .len (.t 10), none⟩,
    ⟨(some 12), .bin .gtr (.t 11) (.c (.int .i64 64)), none⟩])
  (.cond (.t 12)
   (.seq (.region false [⟨(some 2), .mov (.c (.str [])), none⟩,
     ⟨(some 3), .mov (.c (.int .i64 3)), none⟩])
   (.ret))
   (.skip)))
  (.seq (.region false [⟨(some 4), .mov (.c (.int .i64 0)), none⟩])
  (.seq (.region false [⟨(some 5), .mov (.c (.sl .ex [])), none⟩])
  (.seq (.seq (.region false [⟨(some 13), .mov (.t 0), none⟩,
    ⟨(some 14), .len (.t 13), none⟩,
    ⟨(some 15), .mov (.c (.int .i64 0)), none⟩])
  (.block 0 (.loop A_words_JoinL0)))
  (.seq (.region false [⟨(some 37), .mov (.t 5), none⟩,
    ⟨(some 38), .call F_strings_Join [(.t 37), (.c (.str [32]))], none⟩,
    ⟨(some 9), .mov (.t 38), none⟩])
  (.seq (.block 2 (.seq (.region false [⟨(some 40), .mov (.t 4), none⟩,
    ⟨(some 41), .bin .neq (.t 40) (.c (.int .i64 0)), none⟩,
    ⟨(some 39), .mov (.t 41), none⟩])
  (.cond (.t 39)
   (.seq (.region false [⟨(some 42), .mov (.t 4), none⟩,
     ⟨(some 2), .mov (.c (.str [])), none⟩,
     ⟨(some 3), .mov (.t 42), none⟩])
   (.ret))
   (.seq (.region false [⟨(some 44), .mov (.t 9), none⟩,
     ⟨(some 45), .lenS (.t 44), none⟩,
     ⟨(some 46), .bin .gtr (.t 45) (.c (.int .i64 8192)), none⟩,
     ⟨(some 43), .mov (.t 46), none⟩])
   (.cond (.t 43)
    (.seq (.region false [⟨(some 2), .mov (.c (.str [])), none⟩,
      ⟨(some 3), .mov (.c (.int .i64 3)), none⟩])
    (.ret))
    (.skip))))))
  (.seq (.region false [⟨(some 47), .mov (.t 9), none⟩,
    ⟨(some 2), .mov (.t 47), none⟩,
    ⟨(some 3), .mov (.c (.int .i64 0)), none⟩])
  (.ret)))))))),
  [.tmp 2, .tmp 3]⟩

/- ref01_Same -/
def A_ref01_SameL0 : ACode :=
  .seq (.seq (.region false [⟨(some 11), .mov (.t 5), none⟩,
    ⟨(some 12), .mov (.t 0), none⟩,
    ⟨(some 13), .len (.t 12), none⟩,
    ⟨(some 14), .bin .lss (.t 11) (.t 13), none⟩])
  (.cond (.t 14)
   (.skip)
   (.exit 0)))
  (.seq (.block 1 (.seq (.region true [⟨(some 17), .mov (.t 0), none⟩,
    ⟨(some 18), .mov (.t 5), none⟩,
    ⟨(some 19), .idxA 2 (.t 17) (.t 18), none⟩,
    ⟨(some 20), .ld (some 2) (.t 19), none⟩,
    ⟨(some 21), .mov (.t 1), none⟩,
    ⟨(some 22), .mov (.t 5), none⟩,
    ⟨(some 23), .idxA 2 (.t 21) (.t 22), none⟩,
    ⟨(some 24), .ld (some 2) (.t 23), none⟩,
    ⟨(some 25), .aeq true [2, 1] (.t 20) (.t 24), none⟩])
  (.cond (.t 25)
   (.seq (.region false [⟨(some 4), .mov (.c (.bool false)), none⟩])
   (.ret))
   (.skip))))
  (.region false [⟨(some 15), .mov (.t 5), none⟩,
    ⟨(some 16), .bin .add (.t 15) (.c (.int .i64 1)), none⟩,
    ⟨(some 5), .mov (.t 16), none⟩]))
def A_ref01_Same : AFun := ⟨26,
  .seq (.region false [⟨(some 4), .mov (.c (.bool false)), none⟩])
  (.seq (.seq (.region false [⟨(some 6), .mov (.t 0), none⟩,
    ⟨(some 7), .len (.t 6), none⟩,
    ⟨(some 8), .mov (.t 1), none⟩,
    ⟨(some 9), .len (.t 8), none⟩,
    ⟨(some 10), .bin .neq (.t 7) (.t 9), none⟩])
  (.cond (.t 10)
   (.seq (.region false [⟨(some 4), .mov (.c (.bool false)), none⟩])
   (.ret))
   (.skip)))
  (.seq (.seq (.region false [⟨(some 5), .mov (.c (.int .i64 0)), none⟩])
  (.block 0 (.loop A_ref01_SameL0)))
  (.seq (.region false [⟨(some 4), .mov (.c (.bool true)), none⟩])
  (.ret)))),
  [.tmp 4]⟩

/- words_Quote -/
def A_words_QuoteL0 : ACode :=
  .seq (.region false [⟨(some 17), .bin .lss (.t 16) (.t 15), none⟩])
  (.seq (.cond (.t 17)
   (.skip)
   (.exit 0))
  (.seq (.block 1 (.seq (.region false [⟨(some 18), .mov (.t 16), none⟩,
    ⟨(some 4), .mov (.t 18), none⟩])
  (.seq (.region false [⟨(some 19), .mov (.t 0), none⟩,
    ⟨(some 20), .mov (.t 4), none⟩,
    ⟨(some 21), .idxS (.t 19) (.t 20), none⟩,
    ⟨(some 5), .mov (.t 21), none⟩])
  (.seq (.region false [⟨(some 22), .mov (.t 5), none⟩,
    ⟨(some 23), .call F_words_letterOf [(.t 22)], none⟩,
    ⟨(some 6), .mov (.t 23), none⟩])
  (.block 2 (.seq (.region false [⟨(some 34), .mov (.t 5), none⟩,
    ⟨(some 35), .call F_words_isPlain [(.t 34)], none⟩,
    ⟨(some 33), .mov (.t 35), none⟩])
  (.cond (.t 33)
   (.region false [⟨(some 36), .mov (.t 3), none⟩,
     ⟨(some 37), .mov (.t 5), none⟩,
     ⟨(some 38), .bsl 1 (.int .u8 0) 1 [(0, (.t 37))], none⟩,
     ⟨(some 39), .app 1 1 (.t 36) (.t 38), none⟩,
     ⟨(some 3), .mov (.t 39), none⟩])
   (.seq (.region false [⟨(some 41), .mov (.t 6), none⟩,
     ⟨(some 42), .bin .neq (.t 41) (.c (.int .u8 0)), none⟩,
     ⟨(some 40), .mov (.t 42), none⟩])
   (.cond (.t 40)
    (.region false [⟨(some 43), .mov (.t 3), none⟩,
      ⟨(some 44), .mov (.t 6), none⟩,
      ⟨(some 45), .bsl 1 (.int .u8 0) 2 [(0, (.c (.int .u8 92))), (1, (.t 44))], none⟩,
      ⟨(some 46), .app 1 1 (.t 43) (.t 45), none⟩,
      ⟨(some 3), .mov (.t 46), none⟩])
    (.region true [⟨(some 24), .mov (.t 3), none⟩,
      ⟨(some 25), .mov (.t 5), none⟩,
      ⟨(some 26), .bin .shr (.t 25) (.c (.int .u64 4)), none⟩,
      ⟨(some 27), .idxS (.c (.str [48, 49, 50, 51, 52, 53, 54, 55, 56, 57, 97, 98, 99, 100, 101, 102])) (.t 26), none⟩,
      ⟨(some 28), .mov (.t 5), none⟩,
      ⟨(some 29), .bin .and (.t 28) (.c (.int .u8 15)), none⟩,
      ⟨(some 30), .idxS (.c (.str [48, 49, 50, 51, 52, 53, 54, 55, 56, 57, 97, 98, 99, 100, 101, 102])) (.t 29), none⟩,
      ⟨(some 31), .bsl 1 (.int .u8 0) 4 [(0, (.c (.int .u8 92))), (1, (.c (.int .u8 120))), (2, (.t 27)), (3, (.t 30))], none⟩,
      ⟨(some 32), .app 1 1 (.t 24) (.t 31), none⟩,
      ⟨(some 3), .mov (.t 32), none⟩]))))))))))
  (.region false [⟨(some 47), .bin .add (.t 16) (.c (.int .i64 1)), none⟩,
    ⟨(some 16), .mov (.t 47), none⟩])))
def A_words_Quote : AFun := ⟨52,
  .seq (.region false [⟨(some 2), .mov (.c (.str [])), none⟩])
  (.seq (.region false [⟨(some 7), .mov (.t 0), none⟩,
    ⟨(some 8), .lenS (.t 7), none⟩,
    ⟨(some 9), .bin .add (.t 8) (.c (.int .i64 2)), none⟩,
    ⟨(some 10), .mkT 1 1 (.t 9), none⟩,
    ⟨(some 3), .mov (.t 10), none⟩])
  (.seq (.region false [⟨(some 11), .mov (.t 3), none⟩,
    ⟨(some 12), .bsl 1 (.int .u8 0) 1 [(0, (.c (.int .u8 34)))], none⟩,
    ⟨(some 13), .app 1 1 (.t 11) (.t 12), none⟩,
    ⟨(some 3), .mov (.t 13), none⟩])
  (.seq (.seq (.region false [⟨(some 14), .mov (.t 0), none⟩,
    ⟨(some 15), .lenS (.t 14), none⟩,
    ⟨(some 16), .mov (.c (.int .i64 0)), none⟩])
  (.block 0 (.loop A_words_QuoteL0)))
  (.seq (.region false [⟨(some 48), .mov (.t 3), none⟩,
    ⟨(some 49), .bsl 1 (.int .u8 0) 1 [(0, (.c (.int .u8 34)))], none⟩,
    ⟨(some 50), .app 1 1 (.t 48) (.t 49), none⟩,
    ⟨(some 51), .b2s (.t 50), none⟩,
    ⟨(some 2), .mov (.t 51), none⟩])
  (.ret))))),
  [.tmp 2]⟩

/- words_Digits -/
def A_words_Digits : AFun := ⟨5,
  .seq (.region false [⟨(some 2), .mov (.c (.str [])), none⟩])
  (.seq (.region false [⟨(some 3), .mov (.t 0), none⟩,
    ⟨(some 4), .call F_strconv_FormatInt [(.t 3), (.c (.int .i64 10))], none⟩,
    ⟨(some 2), .mov (.t 4), none⟩])
  (.ret)),
  [.tmp 2]⟩

/- ref01_Digits -/
def A_ref01_Digits : AFun := ⟨36,
  .seq (.region false [⟨(some 2), .mov (.c (.str [])), none⟩])
  (.seq (.seq (.region false [⟨(some 4), .mov (.t 0), none⟩,
    ⟨(some 5), .bin .gtr (.t 4) (.c (.int .i64 9)), none⟩,
    ⟨(some 6), .mov (.t 5), none⟩,
    ⟨(some 7), .mov (.t 0), some (6, false)⟩,
    ⟨(some 8), .bin .lss (.t 7) (.c (.int .i64 (-9))), some (6, false)⟩,
    ⟨(some 9), .pick (.t 6) (.c (.bool true)) (.t 8), none⟩])
  (.cond (.t 9)
   (.seq (.region false [⟨(some 10), .mov (.t 0), none⟩,
     ⟨(some 11), .bin .rem (.t 10) (.c (.int .i64 10)), none⟩,
     ⟨(some 3), .mov (.t 11), none⟩])
   (.seq (.seq (.region false [⟨(some 12), .mov (.t 3), none⟩,
     ⟨(some 13), .bin .lss (.t 12) (.c (.int .i64 0)), none⟩])
   (.cond (.t 13)
    (.region false [⟨(some 14), .mov (.t 3), none⟩,
      ⟨(some 15), .neg (.t 14), none⟩,
      ⟨(some 3), .mov (.t 15), none⟩])
    (.skip)))
   (.seq (.region true [⟨(some 16), .mov (.t 0), none⟩,
     ⟨(some 17), .bin .quo (.t 16) (.c (.int .i64 10)), none⟩,
     ⟨(some 18), .call F_ref01_Digits [(.t 17)], none⟩,
     ⟨(some 19), .mov (.t 3), none⟩,
     ⟨(some 20), .bin .add (.c (.int .i64 48)) (.t 19), none⟩,
     ⟨(some 21), .conv .u8 (.t 20), none⟩,
     ⟨(some 22), .bsl 1 (.int .u8 0) 1 [(0, (.t 21))], none⟩,
     ⟨(some 23), .b2s (.t 22), none⟩,
     ⟨(some 24), .bin .add (.t 18) (.t 23), none⟩,
     ⟨(some 2), .mov (.t 24), none⟩])
   (.ret))))
   (.skip)))
  (.seq (.seq (.region false [⟨(some 25), .mov (.t 0), none⟩,
    ⟨(some 26), .bin .lss (.t 25) (.c (.int .i64 0)), none⟩])
  (.cond (.t 26)
   (.seq (.region false [⟨(some 27), .mov (.t 0), none⟩,
     ⟨(some 28), .neg (.t 27), none⟩,
     ⟨(some 29), .call F_ref01_Digits [(.t 28)], none⟩,
     ⟨(some 30), .bin .add (.c (.str [45])) (.t 29), none⟩,
     ⟨(some 2), .mov (.t 30), none⟩])
   (.ret))
   (.skip)))
  (.seq (.region false [⟨(some 31), .mov (.t 0), none⟩,
    ⟨(some 32), .bin .add (.c (.int .i64 48)) (.t 31), none⟩,
    ⟨(some 33), .conv .u8 (.t 32), none⟩,
    ⟨(some 34), .bsl 1 (.int .u8 0) 1 [(0, (.t 33))], none⟩,
    ⟨(some 35), .b2s (.t 34), none⟩,
    ⟨(some 2), .mov (.t 35), none⟩])
  (.ret)))),
  [.tmp 2]⟩

/- strings_Split -/
def A_strings_Split : AFun := ⟨8,
  .seq (.region false [⟨(some 4), .mov (.c (.sl .ex [])), none⟩])
  (.seq (.region false [⟨(some 5), .mov (.t 0), none⟩,
    ⟨(some 6), .mov (.t 1), none⟩,
    ⟨(some 7), .call F_strings_genSplit [(.t 5), (.t 6), (.c (.int .i64 0)), (.c (.int .i64 (-1)))], none⟩,
    ⟨(some 4), .mov (.t 7), none⟩])
  (.ret)),
  [.tmp 4]⟩

/- strings_Cut -/
def A_strings_Cut : AFun := ⟨13,
  .seq (.region false [⟨(some 4), .mov (.c (.str [])), none⟩,
    ⟨(some 5), .mov (.c (.str [])), none⟩,
    ⟨(some 6), .mov (.c (.bool false)), none⟩])
  (.seq (.region false [⟨(some 7), .mov (.t 0), none⟩,
    ⟨(some 8), .mov (.t 1), none⟩,
    ⟨(some 9), .call F_stringslite_Cut [(.t 7), (.t 8)], none⟩,
    ⟨(some 10), .extr (.t 9) 0, none⟩,
    ⟨(some 11), .extr (.t 9) 1, none⟩,
    ⟨(some 12), .extr (.t 9) 2, none⟩,
    ⟨(some 4), .mov (.t 10), none⟩,
    ⟨(some 5), .mov (.t 11), none⟩,
    ⟨(some 6), .mov (.t 12), none⟩])
  (.ret)),
  [.tmp 4, .tmp 5, .tmp 6]⟩

/- words_isDecimal -/
def A_words_isDecimal : AFun := ⟨20,
  .seq (.region false [⟨(some 2), .mov (.c (.bool false)), none⟩])
  (.seq (.region false [⟨(some 4), .mov (.t 0), none⟩,
    ⟨(some 5), .call F_strings_TrimPrefix [(.t 4), (.c (.str [45]))], none⟩,
    ⟨(some 3), .mov (.t 5), none⟩])
  (.seq (.seq (.region false [⟨(some 6), .mov (.t 3), none⟩,
    ⟨(some 7), .bin .eql (.t 6) (.c (.str [])), none⟩,
    ⟨(some 8), .mov (.t 7), none⟩,
    ⟨(some 9), .mov (.t 3), some (8, false)⟩,
    ⟨(some 10), .call F_strings_Trim [(.t 9), (.c (.str [48, 49, 50, 51, 52, 53, 54, 55, 56, 57]))], some (8, false)⟩,
    ⟨(some 11), .bin .neq (.t 10) (.c (.str [])), some (8, false)⟩,
    ⟨(some 12), .pick (.t 8) (.c (.bool true)) (.t 11), none⟩])
  (.cond (.t 12)
   (.seq (.region false [⟨(some 2), .mov (.c (.bool false)), none⟩])
   (.ret))
   (.skip)))
  (.seq (.region false [⟨(some 13), .mov (.t 3), none⟩,
    ⟨(some 14), .idxS (.t 13) (.c (.int .i64 0)), none⟩,
    ⟨(some 15), .bin .neq (.t 14) (.c (.int .u8 48)), none⟩,
    ⟨(some 16), .mov (.t 15), none⟩,
    ⟨(some 17), .mov (.t 0), some (16, false)⟩,
    ⟨(some 18), .bin .eql (.t 17) (.c (.str [48])), some (16, false)⟩,
    ⟨(some 19), .pick (.t 16) (.c (.bool true)) (.t 18), none⟩,
    ⟨(some 2), .mov (.t 19), none⟩])
  (.ret)))),
  [.tmp 2]⟩

/- words_compare -/
def A_words_compare : AFun := ⟨18,
  .seq (.region false [⟨(some 4), .mov (.c (.int .i64 0)), none⟩])
  (.seq (.seq (.region false [⟨(some 5), .mov (.t 0), none⟩,
    ⟨(some 6), .lenS (.t 5), none⟩,
    ⟨(some 7), .mov (.t 1), none⟩,
    ⟨(some 8), .lenS (.t 7), none⟩,
    ⟨(some 9), .bin .neq (.t 6) (.t 8), none⟩])
  (.cond (.t 9)
   (.seq (.region false [⟨(some 10), .mov (.t 0), none⟩,
     ⟨(some 11), .lenS (.t 10), none⟩,
     ⟨(some 12), .mov (.t 1), none⟩,
     ⟨(some 13), .lenS (.t 12), none⟩,
     ⟨(some 14), .bin .sub (.t 11) (.t 13), none⟩,
     ⟨(some 4), .mov (.t 14), none⟩])
   (.ret))
   (.skip)))
  (.seq (.region false [⟨(some 15), .mov (.t 0), none⟩,
    ⟨(some 16), .mov (.t 1), none⟩,
    ⟨(some 17), .call F_strings_Compare [(.t 15), (.t 16)], none⟩,
    ⟨(some 4), .mov (.t 17), none⟩])
  (.ret))),
  [.tmp 4]⟩

/- words_follows -/
def A_words_follows : AFun := ⟨37,
  .seq (.region false [⟨(some 4), .mov (.c (.bool false)), none⟩])
  (.seq (.region false [⟨(some 7), .mov (.t 0), none⟩,
    ⟨(some 8), .call F_strings_LastIndexFunc [(.t 7), (.c (.clo F_words_follows_1 [] []))], none⟩,
    ⟨(some 5), .mov (.t 8), none⟩])
  (.seq (.region false [⟨(some 9), .mov (.t 0), none⟩,
    ⟨(some 10), .lenS (.t 9), none⟩,
    ⟨(some 11), .bin .sub (.t 10) (.c (.int .i64 1)), none⟩,
    ⟨(some 12), .mov (.t 5), none⟩,
    ⟨(some 13), .bin .sub (.t 11) (.t 12), none⟩,
    ⟨(some 14), .call F_strings_Repeat [(.c (.str [48])), (.t 13)], none⟩,
    ⟨(some 6), .mov (.t 14), none⟩])
  (.seq (.seq (.region false [⟨(some 15), .mov (.t 5), none⟩,
    ⟨(some 16), .bin .lss (.t 15) (.c (.int .i64 0)), none⟩])
  (.cond (.t 16)
   (.seq (.region false [⟨(some 17), .mov (.t 6), none⟩,
     ⟨(some 18), .bin .add (.c (.str [49])) (.t 17), none⟩,
     ⟨(some 19), .mov (.t 1), none⟩,
     ⟨(some 20), .call F_words_compare [(.t 18), (.t 19)], none⟩,
     ⟨(some 21), .bin .lss (.t 20) (.c (.int .i64 0)), none⟩,
     ⟨(some 4), .mov (.t 21), none⟩])
   (.ret))
   (.skip)))
  (.seq (.region true [⟨(some 22), .mov (.t 0), none⟩,
    ⟨(some 23), .mov (.t 5), none⟩,
    ⟨(some 24), .ssl (.t 22) none (some (.t 23)), none⟩,
    ⟨(some 25), .mov (.t 0), none⟩,
    ⟨(some 26), .mov (.t 5), none⟩,
    ⟨(some 27), .idxS (.t 25) (.t 26), none⟩,
    ⟨(some 28), .bin .add (.t 27) (.c (.int .u8 1)), none⟩,
    ⟨(some 29), .bsl 1 (.int .u8 0) 1 [(0, (.t 28))], none⟩,
    ⟨(some 30), .b2s (.t 29), none⟩,
    ⟨(some 31), .bin .add (.t 24) (.t 30), none⟩,
    ⟨(some 32), .mov (.t 6), none⟩,
    ⟨(some 33), .bin .add (.t 31) (.t 32), none⟩,
    ⟨(some 34), .mov (.t 1), none⟩,
    ⟨(some 35), .call F_words_compare [(.t 33), (.t 34)], none⟩,
    ⟨(some 36), .bin .lss (.t 35) (.c (.int .i64 0)), none⟩,
    ⟨(some 4), .mov (.t 36), none⟩])
  (.ret))))),
  [.tmp 4]⟩

/- ref01_parts -/
def A_ref01_partsL0 : ACode :=
  .seq (.seq (.region false [⟨(some 8), .mov (.t 7), none⟩,
    ⟨(some 9), .mov (.t 0), none⟩,
    ⟨(some 10), .lenS (.t 9), none⟩,
    ⟨(some 11), .bin .lss (.t 8) (.t 10), none⟩])
  (.cond (.t 11)
   (.skip)
   (.exit 0)))
  (.seq (.block 1 (.seq (.region false [⟨(some 14), .mov (.t 0), none⟩,
    ⟨(some 15), .mov (.t 7), none⟩,
    ⟨(some 16), .idxS (.t 14) (.t 15), none⟩,
    ⟨(some 17), .mov (.t 1), none⟩,
    ⟨(some 18), .bin .eql (.t 16) (.t 17), none⟩])
  (.cond (.t 18)
   (.seq (.region false [⟨(some 19), .mov (.t 5), none⟩,
     ⟨(some 20), .mov (.t 0), none⟩,
     ⟨(some 21), .mov (.t 6), none⟩,
     ⟨(some 22), .mov (.t 7), none⟩,
     ⟨(some 23), .ssl (.t 20) (some (.t 21)) (some (.t 22)), none⟩,
     ⟨(some 24), .bsl 1 (.str []) 1 [(0, (.t 23))], none⟩,
     ⟨(some 25), .app 1 16 (.t 19) (.t 24), none⟩,
     ⟨(some 5), .mov (.t 25), none⟩])
   (.region false [⟨(some 26), .mov (.t 7), none⟩,
     ⟨(some 27), .bin .add (.t 26) (.c (.int .i64 1)), none⟩,
     ⟨(some 6), .mov (.t 27), none⟩]))
   (.skip))))
  (.region false [⟨(some 12), .mov (.t 7), none⟩,
    ⟨(some 13), .bin .add (.t 12) (.c (.int .i64 1)), none⟩,
    ⟨(some 7), .mov (.t 13), none⟩]))
def A_ref01_parts : AFun := ⟨34,
  .seq (.region false [⟨(some 4), .mov (.c (.sl .ex [])), none⟩])
  (.seq (.region false [⟨(some 5), .mov (.c (.sl .ex [])), none⟩])
  (.seq (.region false [⟨(some 6), .mov (.c (.int .i64 0)), none⟩])
  (.seq (.seq (.region false [⟨(some 7), .mov (.c (.int .i64 0)), none⟩])
  (.block 0 (.loop A_ref01_partsL0)))
  (.seq (.region false [⟨(some 28), .mov (.t 5), none⟩,
    ⟨(some 29), .mov (.t 0), none⟩,
    ⟨(some 30), .mov (.t 6), none⟩,
    ⟨(some 31), .ssl (.t 29) (some (.t 30)) none, none⟩,
    ⟨(some 32), .bsl 1 (.str []) 1 [(0, (.t 31))], none⟩,
    ⟨(some 33), .app 1 16 (.t 28) (.t 32), none⟩,
    ⟨(some 4), .mov (.t 33), none⟩])
  (.ret))))),
  [.tmp 4]⟩

/- ref01_decimal -/
def A_ref01_decimalL0 : ACode :=
  .seq (.seq (.region false [⟨(some 32), .mov (.t 3), none⟩,
    ⟨(some 33), .mov (.t 0), none⟩,
    ⟨(some 34), .lenS (.t 33), none⟩,
    ⟨(some 35), .bin .lss (.t 32) (.t 34), none⟩])
  (.cond (.t 35)
   (.skip)
   (.exit 0)))
  (.seq (.block 1 (.seq (.region false [⟨(some 38), .mov (.t 0), none⟩,
    ⟨(some 39), .mov (.t 3), none⟩,
    ⟨(some 40), .idxS (.t 38) (.t 39), none⟩,
    ⟨(some 41), .call F_ref01_digit [(.t 40)], none⟩,
    ⟨(some 42), .not (.t 41), none⟩])
  (.cond (.t 42)
   (.seq (.region false [⟨(some 2), .mov (.c (.bool false)), none⟩])
   (.ret))
   (.skip))))
  (.region false [⟨(some 36), .mov (.t 3), none⟩,
    ⟨(some 37), .bin .add (.t 36) (.c (.int .i64 1)), none⟩,
    ⟨(some 3), .mov (.t 37), none⟩]))
def A_ref01_decimal : AFun := ⟨43,
  .seq (.region false [⟨(some 2), .mov (.c (.bool false)), none⟩])
  (.seq (.seq (.region false [⟨(some 4), .mov (.t 0), none⟩,
    ⟨(some 5), .lenS (.t 4), none⟩,
    ⟨(some 6), .bin .gtr (.t 5) (.c (.int .i64 1)), none⟩,
    ⟨(some 7), .mov (.t 6), none⟩,
    ⟨(some 8), .mov (.t 0), some (7, true)⟩,
    ⟨(some 9), .idxS (.t 8) (.c (.int .i64 0)), some (7, true)⟩,
    ⟨(some 10), .bin .eql (.t 9) (.c (.int .u8 45)), some (7, true)⟩,
    ⟨(some 11), .pick (.t 7) (.t 10) (.c (.bool false)), none⟩,
    ⟨(some 12), .mov (.t 11), none⟩,
    ⟨(some 13), .mov (.t 0), some (12, true)⟩,
    ⟨(some 14), .idxS (.t 13) (.c (.int .i64 1)), some (12, true)⟩,
    ⟨(some 15), .bin .neq (.t 14) (.c (.int .u8 48)), some (12, true)⟩,
    ⟨(some 16), .pick (.t 12) (.t 15) (.c (.bool false)), none⟩])
  (.cond (.t 16)
   (.region false [⟨(some 17), .mov (.t 0), none⟩,
     ⟨(some 18), .ssl (.t 17) (some (.c (.int .i64 1))) none, none⟩,
     ⟨(some 0), .mov (.t 18), none⟩])
   (.skip)))
  (.seq (.seq (.region false [⟨(some 19), .mov (.t 0), none⟩,
    ⟨(some 20), .lenS (.t 19), none⟩,
    ⟨(some 21), .bin .eql (.t 20) (.c (.int .i64 0)), none⟩,
    ⟨(some 22), .mov (.t 21), none⟩,
    ⟨(some 23), .mov (.t 0), some (22, false)⟩,
    ⟨(some 24), .lenS (.t 23), some (22, false)⟩,
    ⟨(some 25), .bin .gtr (.t 24) (.c (.int .i64 1)), some (22, false)⟩,
    ⟨(some 26), .mov (.t 25), some (22, false)⟩,
    ⟨(some 27), .mov (.t 0), some (26, true)⟩,
    ⟨(some 28), .idxS (.t 27) (.c (.int .i64 0)), some (26, true)⟩,
    ⟨(some 29), .bin .eql (.t 28) (.c (.int .u8 48)), some (26, true)⟩,
    ⟨(some 30), .pick (.t 26) (.t 29) (.c (.bool false)), some (22, false)⟩,
    ⟨(some 31), .pick (.t 22) (.c (.bool true)) (.t 30), none⟩])
  (.cond (.t 31)
   (.seq (.region false [⟨(some 2), .mov (.c (.bool false)), none⟩])
   (.ret))
   (.skip)))
  (.seq (.seq (.region false [⟨(some 3), .mov (.c (.int .i64 0)), none⟩])
  (.block 0 (.loop A_ref01_decimalL0)))
  (.seq (.region false [⟨(some 2), .mov (.c (.bool true)), none⟩])
  (.ret))))),
  [.tmp 2]⟩

/- ref01_less -/
def A_ref01_less : AFun := ⟨18,
  .seq (.region false [⟨(some 4), .mov (.c (.bool false)), none⟩])
  (.seq (.seq (.region false [⟨(some 5), .mov (.t 0), none⟩,
    ⟨(some 6), .lenS (.t 5), none⟩,
    ⟨(some 7), .mov (.t 1), none⟩,
    ⟨(some 8), .lenS (.t 7), none⟩,
    ⟨(some 9), .bin .neq (.t 6) (.t 8), none⟩])
  (.cond (.t 9)
   (.seq (.region false [⟨(some 10), .mov (.t 0), none⟩,
     ⟨(some 11), .lenS (.t 10), none⟩,
     ⟨(some 12), .mov (.t 1), none⟩,
     ⟨(some 13), .lenS (.t 12), none⟩,
     ⟨(some 14), .bin .lss (.t 11) (.t 13), none⟩,
     ⟨(some 4), .mov (.t 14), none⟩])
   (.ret))
   (.skip)))
  (.seq (.region false [⟨(some 15), .mov (.t 0), none⟩,
    ⟨(some 16), .mov (.t 1), none⟩,
    ⟨(some 17), .bin .lss (.t 15) (.t 16), none⟩,
    ⟨(some 4), .mov (.t 17), none⟩])
  (.ret))),
  [.tmp 4]⟩

/- ref01_next -/
def A_ref01_nextL0 : ACode :=
  .seq (.seq (.region false [⟨(some 9), .mov (.t 3), none⟩,
    ⟨(some 10), .bin .geq (.t 9) (.c (.int .i64 0)), none⟩,
    ⟨(some 11), .mov (.t 10), none⟩,
    ⟨(some 12), .mov (.t 0), some (11, true)⟩,
    ⟨(some 13), .mov (.t 3), some (11, true)⟩,
    ⟨(some 14), .idxS (.t 12) (.t 13), some (11, true)⟩,
    ⟨(some 15), .bin .eql (.t 14) (.c (.int .u8 57)), some (11, true)⟩,
    ⟨(some 16), .pick (.t 11) (.t 15) (.c (.bool false)), none⟩])
  (.cond (.t 16)
   (.skip)
   (.exit 0)))
  (.block 1 (.region false [⟨(some 17), .mov (.t 3), none⟩,
    ⟨(some 18), .bin .sub (.t 17) (.c (.int .i64 1)), none⟩,
    ⟨(some 3), .mov (.t 18), none⟩]))
def A_ref01_nextL1 : ACode :=
  .seq (.seq (.region false [⟨(some 21), .mov (.t 5), none⟩,
    ⟨(some 22), .mov (.t 0), none⟩,
    ⟨(some 23), .lenS (.t 22), none⟩,
    ⟨(some 24), .bin .lss (.t 21) (.t 23), none⟩])
  (.cond (.t 24)
   (.skip)
   (.exit 2)))
  (.seq (.block 3 (.region false [⟨(some 27), .mov (.t 4), none⟩,
    ⟨(some 28), .bin .add (.t 27) (.c (.str [48])), none⟩,
    ⟨(some 4), .mov (.t 28), none⟩]))
  (.region false [⟨(some 25), .mov (.t 5), none⟩,
    ⟨(some 26), .bin .add (.t 25) (.c (.int .i64 1)), none⟩,
    ⟨(some 5), .mov (.t 26), none⟩]))
def A_ref01_next : AFun := ⟨45,
  .seq (.region false [⟨(some 2), .mov (.c (.str [])), none⟩])
  (.seq (.region false [⟨(some 6), .mov (.t 0), none⟩,
    ⟨(some 7), .lenS (.t 6), none⟩,
    ⟨(some 8), .bin .sub (.t 7) (.c (.int .i64 1)), none⟩,
    ⟨(some 3), .mov (.t 8), none⟩])
  (.seq (.block 0 (.loop A_ref01_nextL0))
  (.seq (.region false [⟨(some 4), .mov (.c (.str [])), none⟩])
  (.seq (.seq (.region false [⟨(some 19), .mov (.t 3), none⟩,
    ⟨(some 20), .bin .add (.t 19) (.c (.int .i64 1)), none⟩,
    ⟨(some 5), .mov (.t 20), none⟩])
  (.block 2 (.loop A_ref01_nextL1)))
  (.seq (.seq (.region false [⟨(some 29), .mov (.t 3), none⟩,
    ⟨(some 30), .bin .lss (.t 29) (.c (.int .i64 0)), none⟩])
  (.cond (.t 30)
   (.seq (.region false [⟨(some 31), .mov (.t 4), none⟩,
     ⟨(some 32), .bin .add (.c (.str [49])) (.t 31), none⟩,
     ⟨(some 2), .mov (.t 32), none⟩])
   (.ret))
   (.skip)))
  (.seq (.region true [⟨(some 33), .mov (.t 0), none⟩,
    ⟨(some 34), .mov (.t 3), none⟩,
    ⟨(some 35), .ssl (.t 33) none (some (.t 34)), none⟩,
    ⟨(some 36), .mov (.t 0), none⟩,
    ⟨(some 37), .mov (.t 3), none⟩,
    ⟨(some 38), .idxS (.t 36) (.t 37), none⟩,
    ⟨(some 39), .bin .add (.t 38) (.c (.int .u8 1)), none⟩,
    ⟨(some 40), .bsl 1 (.int .u8 0) 1 [(0, (.t 39))], none⟩,
    ⟨(some 41), .b2s (.t 40), none⟩,
    ⟨(some 42), .bin .add (.t 35) (.t 41), none⟩,
    ⟨(some 43), .mov (.t 4), none⟩,
    ⟨(some 44), .bin .add (.t 42) (.t 43), none⟩,
    ⟨(some 2), .mov (.t 44), none⟩])
  (.ret))))))),
  [.tmp 2]⟩

/- ref01_Int -/
def A_ref01_IntL0 : ACode :=
  .seq (.seq (.region false [⟨(some 18), .mov (.t 10), none⟩,
    ⟨(some 19), .mov (.t 0), none⟩,
    ⟨(some 20), .lenS (.t 19), none⟩,
    ⟨(some 21), .bin .lss (.t 18) (.t 20), none⟩])
  (.cond (.t 21)
   (.skip)
   (.exit 0)))
  (.seq (.block 1 (.seq (.seq (.region false [⟨(some 24), .mov (.t 0), none⟩,
    ⟨(some 25), .mov (.t 10), none⟩,
    ⟨(some 26), .idxS (.t 24) (.t 25), none⟩,
    ⟨(some 27), .bin .eql (.t 26) (.c (.int .u8 45)), none⟩])
  (.cond (.t 27)
   (.exit 1)
   (.skip)))
  (.seq (.region false [⟨(some 28), .mov (.t 0), none⟩,
    ⟨(some 29), .mov (.t 10), none⟩,
    ⟨(some 30), .idxS (.t 28) (.t 29), none⟩,
    ⟨(some 31), .bin .sub (.t 30) (.c (.int .u8 48)), none⟩,
    ⟨(some 32), .conv .i64 (.t 31), none⟩,
    ⟨(some 11), .mov (.t 32), none⟩])
  (.seq (.seq (.region false [⟨(some 33), .mov (.t 9), none⟩,
    ⟨(some 34), .mov (.t 11), none⟩,
    ⟨(some 35), .bin .add (.c (.int .i64 (-9223372036854775808))) (.t 34), none⟩,
    ⟨(some 36), .bin .quo (.t 35) (.c (.int .i64 10)), none⟩,
    ⟨(some 37), .bin .lss (.t 33) (.t 36), none⟩])
  (.cond (.t 37)
   (.seq (.region false [⟨(some 6), .mov (.c (.int .i64 0)), none⟩,
     ⟨(some 7), .mov (.c (.int .i64 7)), none⟩])
   (.ret))
   (.skip)))
  (.region false [⟨(some 38), .mov (.t 9), none⟩,
    ⟨(some 39), .bin .mul (.c (.int .i64 10)) (.t 38), none⟩,
    ⟨(some 40), .mov (.t 11), none⟩,
    ⟨(some 41), .bin .sub (.t 39) (.t 40), none⟩,
    ⟨(some 9), .mov (.t 41), none⟩])))))
  (.region false [⟨(some 22), .mov (.t 10), none⟩,
    ⟨(some 23), .bin .add (.t 22) (.c (.int .i64 1)), none⟩,
    ⟨(some 10), .mov (.t 23), none⟩]))
def A_ref01_Int : AFun := ⟨61,
  .seq (.region false [⟨(some 6), .mov (.c (.int .i64 0)), none⟩,
    ⟨(some 7), .mov (.c (.int .i64 0)), none⟩])
  (.seq (.seq (.region false [⟨(some 12), .mov (.t 0), none⟩,
    ⟨(some 13), .call F_ref01_decimal [(.t 12)], none⟩,
    ⟨(some 14), .not (.t 13), none⟩])
  (.cond (.t 14)
   (.seq (.region false [⟨(some 6), .mov (.c (.int .i64 0)), none⟩,
     ⟨(some 7), .mov (.c (.int .i64 6)), none⟩])
   (.ret))
   (.skip)))
  (.seq (.region false [⟨(some 15), .mov (.t 0), none⟩,
    ⟨(some 16), .idxS (.t 15) (.c (.int .i64 0)), none⟩,
    ⟨(some 17), .bin .eql (.t 16) (.c (.int .u8 45)), none⟩,
    ⟨(some 8), .mov (.t 17), none⟩])
  (.seq (.region false [⟨(some 9), .mov (.c (.int .i64 0)), none⟩])
  (.seq (.seq (.region false [⟨(some 10), .mov (.c (.int .i64 0)), none⟩])
  (.block 0 (.loop A_ref01_IntL0)))
  (.seq (.seq (.region false [⟨(some 42), .mov (.t 8), none⟩,
    ⟨(some 43), .not (.t 42), none⟩,
    ⟨(some 44), .mov (.t 43), none⟩,
    ⟨(some 45), .mov (.t 9), some (44, true)⟩,
    ⟨(some 46), .bin .eql (.t 45) (.c (.int .i64 (-9223372036854775808))), some (44, true)⟩,
    ⟨(some 47), .pick (.t 44) (.t 46) (.c (.bool false)), none⟩])
  (.cond (.t 47)
   (.seq (.region false [⟨(some 6), .mov (.c (.int .i64 0)), none⟩,
     ⟨(some 7), .mov (.c (.int .i64 7)), none⟩])
   (.ret))
   (.skip)))
  (.seq (.seq (.region false [⟨(some 48), .mov (.t 8), none⟩,
    ⟨(some 49), .not (.t 48), none⟩])
  (.cond (.t 49)
   (.region false [⟨(some 50), .mov (.t 9), none⟩,
     ⟨(some 51), .neg (.t 50), none⟩,
     ⟨(some 9), .mov (.t 51), none⟩])
   (.skip)))
  (.seq (.seq (.region false [⟨(some 52), .mov (.t 9), none⟩,
    ⟨(some 53), .mov (.t 1), none⟩,
    ⟨(some 54), .bin .lss (.t 52) (.t 53), none⟩,
    ⟨(some 55), .mov (.t 54), none⟩,
    ⟨(some 56), .mov (.t 9), some (55, false)⟩,
    ⟨(some 57), .mov (.t 2), some (55, false)⟩,
    ⟨(some 58), .bin .gtr (.t 56) (.t 57), some (55, false)⟩,
    ⟨(some 59), .pick (.t 55) (.c (.bool true)) (.t 58), none⟩])
  (.cond (.t 59)
   (.seq (.region false [⟨(some 6), .mov (.c (.int .i64 0)), none⟩,
     ⟨(some 7), .mov (.c (.int .i64 7)), none⟩])
   (.ret))
   (.skip)))
  (.seq (.region false [⟨(some 60), .mov (.t 9), none⟩,
    ⟨(some 6), .mov (.t 60), none⟩,
    ⟨(some 7), .mov (.c (.int .i64 0)), none⟩])
  (.ret))))))))),
  [.tmp 6, .tmp 7]⟩

/- words_unquote -/
def A_words_unquoteL0 : ACode :=
  .seq (.seq (.region false [⟨(some 16), .mov (.t 5), none⟩,
    ⟨(some 17), .mov (.t 0), none⟩,
    ⟨(some 18), .lenS (.t 17), none⟩,
    ⟨(some 19), .bin .lss (.t 16) (.t 18), none⟩])
  (.cond (.t 19)
   (.skip)
   (.exit 0)))
  (.seq (.block 1 (.seq (.region false [⟨(some 22), .mov (.t 0), none⟩,
    ⟨(some 23), .mov (.t 5), none⟩,
    ⟨(some 24), .idxS (.t 22) (.t 23), none⟩,
    ⟨(some 6), .mov (.t 24), none⟩])
  (.block 2 (.seq (.region false [⟨(some 26), .mov (.t 6), none⟩,
    ⟨(some 27), .bin .eql (.t 26) (.c (.int .u8 34)), none⟩,
    ⟨(some 25), .mov (.t 27), none⟩])
  (.cond (.t 25)
   (.seq (.region false [⟨(some 28), .mov (.t 4), none⟩,
     ⟨(some 29), .b2s (.t 28), none⟩,
     ⟨(some 30), .mov (.t 5), none⟩,
     ⟨(some 31), .bin .add (.t 30) (.c (.int .i64 1)), none⟩,
     ⟨(some 2), .mov (.t 29), none⟩,
     ⟨(some 3), .mov (.t 31), none⟩])
   (.ret))
   (.seq (.region false [⟨(some 33), .mov (.t 6), none⟩,
     ⟨(some 34), .bin .eql (.t 33) (.c (.int .u8 92)), none⟩,
     ⟨(some 32), .mov (.t 34), none⟩])
   (.cond (.t 32)
    (.seq (.region false [⟨(some 36), .mov (.t 0), none⟩,
      ⟨(some 37), .mov (.t 5), none⟩,
      ⟨(some 38), .bin .add (.t 37) (.c (.int .i64 1)), none⟩,
      ⟨(some 39), .ssl (.t 36) (some (.t 38)) none, none⟩,
      ⟨(some 40), .call F_words_unescape [(.t 39)], none⟩,
      ⟨(some 35), .mov (.t 40), none⟩,
      ⟨(some 41), .extr (.t 35) 0, none⟩,
      ⟨(some 42), .extr (.t 35) 1, none⟩,
      ⟨(some 7), .mov (.t 41), none⟩,
      ⟨(some 8), .mov (.t 42), none⟩])
    (.seq (.seq (.region false [⟨(some 43), .mov (.t 8), none⟩,
      ⟨(some 44), .bin .eql (.t 43) (.c (.int .i64 0)), none⟩])
    (.cond (.t 44)
     (.seq (.region false [⟨(some 2), .mov (.c (.str [])), none⟩,
       ⟨(some 3), .mov (.c (.int .i64 0)), none⟩])
     (.ret))
     (.skip)))
    (.seq (.region false [⟨(some 45), .mov (.t 4), none⟩,
      ⟨(some 46), .mov (.t 7), none⟩,
      ⟨(some 47), .bsl 1 (.int .u8 0) 1 [(0, (.t 46))], none⟩,
      ⟨(some 48), .app 1 1 (.t 45) (.t 47), none⟩,
      ⟨(some 4), .mov (.t 48), none⟩])
    (.region false [⟨(some 49), .mov (.t 5), none⟩,
      ⟨(some 50), .mov (.t 8), none⟩,
      ⟨(some 51), .bin .add (.t 49) (.t 50), none⟩,
      ⟨(some 5), .mov (.t 51), none⟩]))))
    (.seq (.region false [⟨(some 53), .mov (.t 6), none⟩,
      ⟨(some 54), .call F_words_isPlain [(.t 53)], none⟩,
      ⟨(some 52), .mov (.t 54), none⟩])
    (.cond (.t 52)
     (.region false [⟨(some 55), .mov (.t 4), none⟩,
       ⟨(some 56), .mov (.t 6), none⟩,
       ⟨(some 57), .bsl 1 (.int .u8 0) 1 [(0, (.t 56))], none⟩,
       ⟨(some 58), .app 1 1 (.t 55) (.t 57), none⟩,
       ⟨(some 4), .mov (.t 58), none⟩])
     (.seq (.region false [⟨(some 2), .mov (.c (.str [])), none⟩,
       ⟨(some 3), .mov (.c (.int .i64 0)), none⟩])
     (.ret)))))))))))
  (.region false [⟨(some 20), .mov (.t 5), none⟩,
    ⟨(some 21), .bin .add (.t 20) (.c (.int .i64 1)), none⟩,
    ⟨(some 5), .mov (.t 21), none⟩]))
def A_words_unquote : AFun := ⟨59,
  .seq (.region false [⟨(some 2), .mov (.c (.str [])), none⟩,
    ⟨(some 3), .mov (.c (.int .i64 0)), none⟩])
  (.seq (.seq (.region false [⟨(some 9), .mov (.t 0), none⟩,
    ⟨(some 10), .bin .eql (.t 9) (.c (.str [])), none⟩,
    ⟨(some 11), .mov (.t 10), none⟩,
    ⟨(some 12), .mov (.t 0), some (11, false)⟩,
    ⟨(some 13), .idxS (.t 12) (.c (.int .i64 0)), some (11, false)⟩,
    ⟨(some 14), .bin .neq (.t 13) (.c (.int .u8 34)), some (11, false)⟩,
    ⟨(some 15), .pick (.t 11) (.c (.bool true)) (.t 14), none⟩])
  (.cond (.t 15)
   (.seq (.region false [⟨(some 2), .mov (.c (.str [])), none⟩,
     ⟨(some 3), .mov (.c (.int .i64 0)), none⟩])
   (.ret))
   (.skip)))
  (.seq (.region false [⟨(some 4), .mov (.c (.sl .ex [])), none⟩])
  (.seq (.seq (.region false [⟨(some 5), .mov (.c (.int .i64 1)), none⟩])
  (.block 0 (.loop A_words_unquoteL0)))
  (.seq (.region false [⟨(some 2), .mov (.c (.str [])), none⟩,
    ⟨(some 3), .mov (.c (.int .i64 0)), none⟩])
  (.ret))))),
  [.tmp 2, .tmp 3]⟩

/- words_fields -/
def A_words_fields : AFun := ⟨4,
  .seq (.region false [⟨(some 1), .box (.t 0), none⟩,
    ⟨(some 2), .mov (.c (.nilF)), none⟩])
  (.seq (.region false [⟨(some 3), .mkf F_words_fields_1 [] [(.t 1)], none⟩,
    ⟨(some 2), .mov (.t 3), none⟩])
  (.ret)),
  [.tmp 2]⟩

/- strings_Trim -/
def A_strings_Trim : AFun := ⟨43,
  .seq (.region false [⟨(some 4), .mov (.c (.str [])), none⟩])
  (.seq (.seq (.region false [⟨(some 7), .mov (.t 0), none⟩,
    ⟨(some 8), .bin .eql (.t 7) (.c (.str [])), none⟩,
    ⟨(some 9), .mov (.t 8), none⟩,
    ⟨(some 10), .mov (.t 1), some (9, false)⟩,
    ⟨(some 11), .bin .eql (.t 10) (.c (.str [])), some (9, false)⟩,
    ⟨(some 12), .pick (.t 9) (.c (.bool true)) (.t 11), none⟩])
  (.cond (.t 12)
   (.seq (.region false [⟨(some 13), .mov (.t 0), none⟩,
     ⟨(some 4), .mov (.t 13), none⟩])
   (.ret))
   (.skip)))
  (.seq (.seq (.region false [⟨(some 14), .mov (.t 1), none⟩,
    ⟨(some 15), .lenS (.t 14), none⟩,
    ⟨(some 16), .bin .eql (.t 15) (.c (.int .i64 1)), none⟩,
    ⟨(some 17), .mov (.t 16), none⟩,
    ⟨(some 18), .mov (.t 1), some (17, true)⟩,
    ⟨(some 19), .idxS (.t 18) (.c (.int .i64 0)), some (17, true)⟩,
    ⟨(some 20), .bin .lss (.t 19) (.c (.int .u8 128)), some (17, true)⟩,
    ⟨(some 21), .pick (.t 17) (.t 20) (.c (.bool false)), none⟩])
  (.cond (.t 21)
   (.seq (.region true [⟨(some 22), .mov (.t 0), none⟩,
     ⟨(some 23), .mov (.t 1), none⟩,
     ⟨(some 24), .idxS (.t 23) (.c (.int .i64 0)), none⟩,
     ⟨(some 25), .call F_strings_trimRightByte [(.t 22), (.t 24)], none⟩,
     ⟨(some 26), .mov (.t 1), none⟩,
     ⟨(some 27), .idxS (.t 26) (.c (.int .i64 0)), none⟩,
     ⟨(some 28), .call F_strings_trimLeftByte [(.t 25), (.t 27)], none⟩,
     ⟨(some 4), .mov (.t 28), none⟩])
   (.ret))
   (.skip)))
  (.seq (.seq (.region false [⟨(some 30), .mov (.t 1), none⟩,
    ⟨(some 31), .call F_strings_makeASCIISet [(.t 30)], none⟩,
    ⟨(some 29), .mov (.t 31), none⟩,
    ⟨(some 32), .extr (.t 29) 0, none⟩,
    ⟨(some 33), .extr (.t 29) 1, none⟩,
    ⟨(some 5), .alloc (List.replicate 256 (.bool false)), none⟩,
    ⟨none, .st 256 (.t 5) (.t 32), none⟩,
    ⟨(some 6), .mov (.t 33), none⟩])
  (.seq (.region false [⟨(some 34), .mov (.t 6), none⟩])
  (.cond (.t 34)
   (.seq (.region false [⟨(some 35), .mov (.t 0), none⟩,
     ⟨(some 36), .call F_strings_trimRightASCII [(.t 35), (.t 5)], none⟩,
     ⟨(some 37), .call F_strings_trimLeftASCII [(.t 36), (.t 5)], none⟩,
     ⟨(some 4), .mov (.t 37), none⟩])
   (.ret))
   (.skip))))
  (.seq (.region false [⟨(some 38), .mov (.t 0), none⟩,
    ⟨(some 39), .mov (.t 1), none⟩,
    ⟨(some 40), .call F_strings_trimRightUnicode [(.t 38), (.t 39)], none⟩,
    ⟨(some 41), .mov (.t 1), none⟩,
    ⟨(some 42), .call F_strings_trimLeftUnicode [(.t 40), (.t 41)], none⟩,
    ⟨(some 4), .mov (.t 42), none⟩])
  (.ret))))),
  [.tmp 4]⟩

/- words_isBare -/
def A_words_isBareL0 : ACode :=
  .seq (.region false [⟨(some 7), .bin .lss (.t 6) (.t 5), none⟩])
  (.seq (.cond (.t 7)
   (.skip)
   (.exit 0))
  (.seq (.block 1 (.seq (.region false [⟨(some 8), .mov (.t 6), none⟩,
    ⟨(some 3), .mov (.t 8), none⟩])
  (.seq (.region false [⟨(some 9), .mov (.t 0), none⟩,
    ⟨(some 10), .mov (.t 3), none⟩,
    ⟨(some 11), .idxS (.t 9) (.t 10), none⟩,
    ⟨(some 12), .call F_words_isPlain [(.t 11)], none⟩,
    ⟨(some 13), .not (.t 12), none⟩,
    ⟨(some 14), .mov (.t 13), none⟩,
    ⟨(some 15), .mov (.t 0), some (14, false)⟩,
    ⟨(some 16), .mov (.t 3), some (14, false)⟩,
    ⟨(some 17), .idxS (.t 15) (.t 16), some (14, false)⟩,
    ⟨(some 18), .bin .eql (.t 17) (.c (.int .u8 32)), some (14, false)⟩,
    ⟨(some 19), .pick (.t 14) (.c (.bool true)) (.t 18), none⟩])
  (.cond (.t 19)
   (.seq (.region false [⟨(some 2), .mov (.c (.bool false)), none⟩])
   (.ret))
   (.skip)))))
  (.region false [⟨(some 20), .bin .add (.t 6) (.c (.int .i64 1)), none⟩,
    ⟨(some 6), .mov (.t 20), none⟩])))
def A_words_isBare : AFun := ⟨23,
  .seq (.region false [⟨(some 2), .mov (.c (.bool false)), none⟩])
  (.seq (.seq (.region false [⟨(some 4), .mov (.t 0), none⟩,
    ⟨(some 5), .lenS (.t 4), none⟩,
    ⟨(some 6), .mov (.c (.int .i64 0)), none⟩])
  (.block 0 (.loop A_words_isBareL0)))
  (.seq (.region false [⟨(some 21), .mov (.t 0), none⟩,
    ⟨(some 22), .bin .neq (.t 21) (.c (.str [])), none⟩,
    ⟨(some 2), .mov (.t 22), none⟩])
  (.ret))),
  [.tmp 2]⟩

/- words_letterOf -/
def A_words_letterOfL0 : ACode :=
  .seq (.region false [⟨(some 7), .bin .lss (.t 6) (.c (.int .i64 5)), none⟩])
  (.seq (.cond (.t 7)
   (.skip)
   (.exit 0))
  (.seq (.block 1 (.seq (.region false [⟨(some 8), .idxG 5 2 (some 2) (.t 5) (.t 6), none⟩,
    ⟨(some 4), .alloc [.int .u8 0, .int .u8 0], none⟩,
    ⟨none, .st 2 (.t 4) (.t 8), none⟩])
  (.seq (.region false [⟨(some 9), .fldA 0 (.t 4), none⟩,
    ⟨(some 10), .ld none (.t 9), none⟩,
    ⟨(some 11), .mov (.t 0), none⟩,
    ⟨(some 12), .bin .eql (.t 10) (.t 11), none⟩])
  (.cond (.t 12)
   (.seq (.region false [⟨(some 13), .fldA 1 (.t 4), none⟩,
     ⟨(some 14), .ld none (.t 13), none⟩,
     ⟨(some 2), .mov (.t 14), none⟩])
   (.ret))
   (.skip)))))
  (.region false [⟨(some 15), .bin .add (.t 6) (.c (.int .i64 1)), none⟩,
    ⟨(some 6), .mov (.t 15), none⟩])))
def A_words_letterOf : AFun := ⟨16,
  .seq (.region false [⟨(some 2), .mov (.c (.int .u8 0)), none⟩])
  (.seq (.seq (.region false [⟨(some 5), .ld (some 10) (.gl 0), none⟩,
    ⟨(some 6), .mov (.c (.int .i64 0)), none⟩])
  (.block 0 (.loop A_words_letterOfL0)))
  (.seq (.region false [⟨(some 2), .mov (.c (.int .u8 0)), none⟩])
  (.ret))),
  [.tmp 2]⟩

/- words_isPlain -/
def A_words_isPlain : AFun := ⟨17,
  .seq (.region false [⟨(some 2), .mov (.c (.bool false)), none⟩])
  (.seq (.region false [⟨(some 3), .mov (.t 0), none⟩,
    ⟨(some 4), .bin .geq (.t 3) (.c (.int .u8 32)), none⟩,
    ⟨(some 5), .mov (.t 4), none⟩,
    ⟨(some 6), .mov (.t 0), some (5, true)⟩,
    ⟨(some 7), .bin .leq (.t 6) (.c (.int .u8 126)), some (5, true)⟩,
    ⟨(some 8), .pick (.t 5) (.t 7) (.c (.bool false)), none⟩,
    ⟨(some 9), .mov (.t 8), none⟩,
    ⟨(some 10), .mov (.t 0), some (9, true)⟩,
    ⟨(some 11), .bin .neq (.t 10) (.c (.int .u8 34)), some (9, true)⟩,
    ⟨(some 12), .pick (.t 9) (.t 11) (.c (.bool false)), none⟩,
    ⟨(some 13), .mov (.t 12), none⟩,
    ⟨(some 14), .mov (.t 0), some (13, true)⟩,
    ⟨(some 15), .bin .neq (.t 14) (.c (.int .u8 92)), some (13, true)⟩,
    ⟨(some 16), .pick (.t 13) (.t 15) (.c (.bool false)), none⟩,
    ⟨(some 2), .mov (.t 16), none⟩])
  (.ret)),
  [.tmp 2]⟩

/- strings_genSplit -/
def A_strings_genSplitL0 : ACode :=
  .seq (.seq (.region false [⟨(some 34), .mov (.t 10), none⟩,
    ⟨(some 35), .mov (.t 3), none⟩,
    ⟨(some 36), .bin .lss (.t 34) (.t 35), none⟩])
  (.cond (.t 36)
   (.skip)
   (.exit 0)))
  (.block 1 (.seq (.region false [⟨(some 37), .mov (.t 0), none⟩,
    ⟨(some 38), .mov (.t 1), none⟩,
    ⟨(some 39), .call F_strings_Index [(.t 37), (.t 38)], none⟩,
    ⟨(some 11), .mov (.t 39), none⟩])
  (.seq (.seq (.region false [⟨(some 40), .mov (.t 11), none⟩,
    ⟨(some 41), .bin .lss (.t 40) (.c (.int .i64 0)), none⟩])
  (.cond (.t 41)
   (.exit 0)
   (.skip)))
  (.seq (.region false [⟨(some 42), .mov (.t 9), none⟩,
    ⟨(some 43), .mov (.t 10), none⟩,
    ⟨(some 44), .mov (.t 0), none⟩,
    ⟨(some 45), .mov (.t 11), none⟩,
    ⟨(some 46), .mov (.t 2), none⟩,
    ⟨(some 47), .bin .add (.t 45) (.t 46), none⟩,
    ⟨(some 48), .ssl (.t 44) none (some (.t 47)), none⟩,
    ⟨(some 49), .idxA 1 (.t 42) (.t 43), none⟩,
    ⟨none, .st 1 (.t 49) (.t 48), none⟩])
  (.seq (.region false [⟨(some 50), .mov (.t 0), none⟩,
    ⟨(some 51), .mov (.t 11), none⟩,
    ⟨(some 52), .mov (.t 1), none⟩,
    ⟨(some 53), .lenS (.t 52), none⟩,
    ⟨(some 54), .bin .add (.t 51) (.t 53), none⟩,
    ⟨(some 55), .ssl (.t 50) (some (.t 54)) none, none⟩,
    ⟨(some 0), .mov (.t 55), none⟩])
  (.region false [⟨(some 56), .mov (.t 10), none⟩,
    ⟨(some 57), .bin .add (.t 56) (.c (.int .i64 1)), none⟩,
    ⟨(some 10), .mov (.t 57), none⟩]))))))
def A_strings_genSplit : AFun := ⟨66,
  .seq (.region false [⟨(some 8), .mov (.c (.sl .ex [])), none⟩])
  (.seq (.seq (.region false [⟨(some 12), .mov (.t 3), none⟩,
    ⟨(some 13), .bin .eql (.t 12) (.c (.int .i64 0)), none⟩])
  (.cond (.t 13)
   (.seq (.region false [⟨(some 8), .mov (.c (.sl .ex [])), none⟩])
   (.ret))
   (.skip)))
  (.seq (.seq (.region false [⟨(some 14), .mov (.t 1), none⟩,
    ⟨(some 15), .bin .eql (.t 14) (.c (.str [])), none⟩])
  (.cond (.t 15)
   (.seq (.region false [⟨(some 16), .mov (.t 0), none⟩,
     ⟨(some 17), .mov (.t 3), none⟩,
     ⟨(some 18), .call F_strings_explode [(.t 16), (.t 17)], none⟩,
     ⟨(some 8), .mov (.t 18), none⟩])
   (.ret))
   (.skip)))
  (.seq (.seq (.region false [⟨(some 19), .mov (.t 3), none⟩,
    ⟨(some 20), .bin .lss (.t 19) (.c (.int .i64 0)), none⟩])
  (.cond (.t 20)
   (.region false [⟨(some 21), .mov (.t 0), none⟩,
     ⟨(some 22), .mov (.t 1), none⟩,
     ⟨(some 23), .call F_strings_Count [(.t 21), (.t 22)], none⟩,
     ⟨(some 24), .bin .add (.t 23) (.c (.int .i64 1)), none⟩,
     ⟨(some 3), .mov (.t 24), none⟩])
   (.skip)))
  (.seq (.region false [⟨(some 25), .mov (.t 3), none⟩,
    ⟨(some 26), .mov (.t 0), none⟩,
    ⟨(some 27), .lenS (.t 26), none⟩,
    ⟨(some 28), .bin .add (.t 27) (.c (.int .i64 1)), none⟩,
    ⟨(some 29), .mm false (.t 25) (.t 28), none⟩,
    ⟨(some 3), .mov (.t 29), none⟩])
  (.seq (.region false [⟨(some 30), .mov (.t 3), none⟩,
    ⟨(some 31), .mkR 1 16 [.str []] (.t 30) (.t 30), none⟩,
    ⟨(some 9), .mov (.t 31), none⟩])
  (.seq (.region false [⟨(some 32), .mov (.t 3), none⟩,
    ⟨(some 33), .bin .sub (.t 32) (.c (.int .i64 1)), none⟩,
    ⟨(some 3), .mov (.t 33), none⟩])
  (.seq (.region false [⟨(some 10), .mov (.c (.int .i64 0)), none⟩])
  (.seq (.block 0 (.loop A_strings_genSplitL0))
  (.seq (.region false [⟨(some 58), .mov (.t 9), none⟩,
    ⟨(some 59), .mov (.t 10), none⟩,
    ⟨(some 60), .mov (.t 0), none⟩,
    ⟨(some 61), .idxA 1 (.t 58) (.t 59), none⟩,
    ⟨none, .st 1 (.t 61) (.t 60), none⟩])
  (.seq (.region false [⟨(some 62), .mov (.t 9), none⟩,
    ⟨(some 63), .mov (.t 10), none⟩,
    ⟨(some 64), .bin .add (.t 63) (.c (.int .i64 1)), none⟩,
    ⟨(some 65), .sls 1 (.t 62) none (some (.t 64)) none, none⟩,
    ⟨(some 8), .mov (.t 65), none⟩])
  (.ret))))))))))),
  [.tmp 8]⟩

/- stringslite_Cut -/
def A_stringslite_Cut : AFun := ⟨23,
  .seq (.region false [⟨(some 4), .mov (.c (.str [])), none⟩,
    ⟨(some 5), .mov (.c (.str [])), none⟩,
    ⟨(some 6), .mov (.c (.bool false)), none⟩])
  (.seq (.seq (.region false [⟨(some 8), .mov (.t 0), none⟩,
    ⟨(some 9), .mov (.t 1), none⟩,
    ⟨(some 10), .call F_stringslite_Index [(.t 8), (.t 9)], none⟩,
    ⟨(some 7), .mov (.t 10), none⟩])
  (.seq (.region false [⟨(some 11), .mov (.t 7), none⟩,
    ⟨(some 12), .bin .geq (.t 11) (.c (.int .i64 0)), none⟩])
  (.cond (.t 12)
   (.seq (.region true [⟨(some 13), .mov (.t 0), none⟩,
     ⟨(some 14), .mov (.t 7), none⟩,
     ⟨(some 15), .ssl (.t 13) none (some (.t 14)), none⟩,
     ⟨(some 16), .mov (.t 0), none⟩,
     ⟨(some 17), .mov (.t 7), none⟩,
     ⟨(some 18), .mov (.t 1), none⟩,
     ⟨(some 19), .lenS (.t 18), none⟩,
     ⟨(some 20), .bin .add (.t 17) (.t 19), none⟩,
     ⟨(some 21), .ssl (.t 16) (some (.t 20)) none, none⟩,
     ⟨(some 4), .mov (.t 15), none⟩,
     ⟨(some 5), .mov (.t 21), none⟩,
     ⟨(some 6), .mov (.c (.bool true)), none⟩])
   (.ret))
   (.skip))))
  (.seq (.region false [⟨(some 22), .mov (.t 0), none⟩,
    ⟨(some 4), .mov (.t 22), none⟩,
    ⟨(some 5), .mov (.c (.str [])), none⟩,
    ⟨(some 6), .mov (.c (.bool false)), none⟩])
  (.ret))),
  [.tmp 4, .tmp 5, .tmp 6]⟩

/- strings_TrimPrefix -/
def A_strings_TrimPrefix : AFun := ⟨8,
  .seq (.region false [⟨(some 4), .mov (.c (.str [])), none⟩])
  (.seq (.region false [⟨(some 5), .mov (.t 0), none⟩,
    ⟨(some 6), .mov (.t 1), none⟩,
    ⟨(some 7), .call F_stringslite_TrimPrefix [(.t 5), (.t 6)], none⟩,
    ⟨(some 4), .mov (.t 7), none⟩])
  (.ret)),
  [.tmp 4]⟩

/- strings_LastIndexFunc -/
def A_strings_LastIndexFunc : AFun := ⟨8,
  .seq (.region false [⟨(some 4), .mov (.c (.int .i64 0)), none⟩])
  (.seq (.region false [⟨(some 5), .mov (.t 0), none⟩,
    ⟨(some 6), .mov (.t 1), none⟩,
    ⟨(some 7), .call F_strings_lastIndexFunc [(.t 5), (.t 6), (.c (.bool true))], none⟩,
    ⟨(some 4), .mov (.t 7), none⟩])
  (.ret)),
  [.tmp 4]⟩

/- words_follows_1 -/
def A_words_follows_1 : AFun := ⟨5,
  .seq (.region false [⟨(some 2), .mov (.c (.bool false)), none⟩])
  (.seq (.region false [⟨(some 3), .mov (.t 0), none⟩,
    ⟨(some 4), .bin .neq (.t 3) (.c (.int .i32 57)), none⟩,
    ⟨(some 2), .mov (.t 4), none⟩])
  (.ret)),
  [.tmp 2]⟩

/- ref01_digit -/
def A_ref01_digit : AFun := ⟨9,
  .seq (.region false [⟨(some 2), .mov (.c (.bool false)), none⟩])
  (.seq (.region false [⟨(some 3), .mov (.t 0), none⟩,
    ⟨(some 4), .bin .geq (.t 3) (.c (.int .u8 48)), none⟩,
    ⟨(some 5), .mov (.t 4), none⟩,
    ⟨(some 6), .mov (.t 0), some (5, true)⟩,
    ⟨(some 7), .bin .leq (.t 6) (.c (.int .u8 57)), some (5, true)⟩,
    ⟨(some 8), .pick (.t 5) (.t 7) (.c (.bool false)), none⟩,
    ⟨(some 2), .mov (.t 8), none⟩])
  (.ret)),
  [.tmp 2]⟩

/- words_unescape -/
def A_words_unescapeL0 : ACode :=
  .seq (.region false [⟨(some 13), .bin .lss (.t 12) (.c (.int .i64 5)), none⟩])
  (.seq (.cond (.t 13)
   (.skip)
   (.exit 0))
  (.seq (.block 1 (.seq (.region false [⟨(some 14), .idxG 5 2 (some 2) (.t 11) (.t 12), none⟩,
    ⟨(some 5), .alloc [.int .u8 0, .int .u8 0], none⟩,
    ⟨none, .st 2 (.t 5) (.t 14), none⟩])
  (.seq (.region true [⟨(some 15), .fldA 1 (.t 5), none⟩,
    ⟨(some 16), .ld none (.t 15), none⟩,
    ⟨(some 17), .mov (.t 0), none⟩,
    ⟨(some 18), .idxS (.t 17) (.c (.int .i64 0)), none⟩,
    ⟨(some 19), .bin .eql (.t 16) (.t 18), none⟩])
  (.cond (.t 19)
   (.seq (.region false [⟨(some 20), .fldA 0 (.t 5), none⟩,
     ⟨(some 21), .ld none (.t 20), none⟩,
     ⟨(some 2), .mov (.t 21), none⟩,
     ⟨(some 3), .mov (.c (.int .i64 1)), none⟩])
   (.ret))
   (.skip)))))
  (.region false [⟨(some 22), .bin .add (.t 12) (.c (.int .i64 1)), none⟩,
    ⟨(some 12), .mov (.t 22), none⟩])))
def A_words_unescape : AFun := ⟨56,
  .seq (.region false [⟨(some 2), .mov (.c (.int .u8 0)), none⟩,
    ⟨(some 3), .mov (.c (.int .i64 0)), none⟩])
  (.seq (.seq (.region false [⟨(some 9), .mov (.t 0), none⟩,
    ⟨(some 10), .bin .eql (.t 9) (.c (.str [])), none⟩])
  (.cond (.t 10)
   (.seq (.region false [⟨(some 2), .mov (.c (.int .u8 0)), none⟩,
     ⟨(some 3), .mov (.c (.int .i64 0)), none⟩])
   (.ret))
   (.skip)))
  (.seq (.seq (.region false [⟨(some 11), .ld (some 10) (.gl 0), none⟩,
    ⟨(some 12), .mov (.c (.int .i64 0)), none⟩])
  (.block 0 (.loop A_words_unescapeL0)))
  (.seq (.seq (.region false [⟨(some 23), .mov (.t 0), none⟩,
    ⟨(some 24), .idxS (.t 23) (.c (.int .i64 0)), none⟩,
    ⟨(some 25), .bin .neq (.t 24) (.c (.int .u8 120)), none⟩,
    ⟨(some 26), .mov (.t 25), none⟩,
    ⟨(some 27), .mov (.t 0), some (26, false)⟩,
    ⟨(some 28), .lenS (.t 27), some (26, false)⟩,
    ⟨(some 29), .bin .lss (.t 28) (.c (.int .i64 3)), some (26, false)⟩,
    ⟨(some 30), .pick (.t 26) (.c (.bool true)) (.t 29), none⟩])
  (.cond (.t 30)
   (.seq (.region false [⟨(some 2), .mov (.c (.int .u8 0)), none⟩,
     ⟨(some 3), .mov (.c (.int .i64 0)), none⟩])
   (.ret))
   (.skip)))
  (.seq (.region true [⟨(some 31), .mov (.t 0), none⟩,
    ⟨(some 32), .idxS (.t 31) (.c (.int .i64 1)), none⟩,
    ⟨(some 33), .call F_strings_IndexByte [(.c (.str [48, 49, 50, 51, 52, 53, 54, 55, 56, 57, 97, 98, 99, 100, 101, 102])), (.t 32)], none⟩,
    ⟨(some 34), .mov (.t 0), none⟩,
    ⟨(some 35), .idxS (.t 34) (.c (.int .i64 2)), none⟩,
    ⟨(some 36), .call F_strings_IndexByte [(.c (.str [48, 49, 50, 51, 52, 53, 54, 55, 56, 57, 97, 98, 99, 100, 101, 102])), (.t 35)], none⟩,
    ⟨(some 6), .mov (.t 33), none⟩,
    ⟨(some 7), .mov (.t 36), none⟩])
  (.seq (.seq (.region false [⟨(some 37), .mov (.t 6), none⟩,
    ⟨(some 38), .bin .lss (.t 37) (.c (.int .i64 0)), none⟩,
    ⟨(some 39), .mov (.t 38), none⟩,
    ⟨(some 40), .mov (.t 7), some (39, false)⟩,
    ⟨(some 41), .bin .lss (.t 40) (.c (.int .i64 0)), some (39, false)⟩,
    ⟨(some 42), .pick (.t 39) (.c (.bool true)) (.t 41), none⟩])
  (.cond (.t 42)
   (.seq (.region false [⟨(some 2), .mov (.c (.int .u8 0)), none⟩,
     ⟨(some 3), .mov (.c (.int .i64 0)), none⟩])
   (.ret))
   (.skip)))
  (.seq (.region false [⟨(some 43), .mov (.t 6), none⟩,
    ⟨(some 44), .bin .shl (.t 43) (.c (.int .u64 4)), none⟩,
    ⟨(some 45), .mov (.t 7), none⟩,
    ⟨(some 46), .bin .or (.t 44) (.t 45), none⟩,
    ⟨(some 47), .conv .u8 (.t 46), none⟩,
    ⟨(some 8), .mov (.t 47), none⟩])
  (.seq (.seq (.region false [⟨(some 48), .mov (.t 8), none⟩,
    ⟨(some 49), .call F_words_isPlain [(.t 48)], none⟩,
    ⟨(some 50), .mov (.t 49), none⟩,
    ⟨(some 51), .mov (.t 8), some (50, false)⟩,
    ⟨(some 52), .call F_words_letterOf [(.t 51)], some (50, false)⟩,
    ⟨(some 53), .bin .neq (.t 52) (.c (.int .u8 0)), some (50, false)⟩,
    ⟨(some 54), .pick (.t 50) (.c (.bool true)) (.t 53), none⟩])
  (.cond (.t 54)
   (.seq (.region false [⟨(some 2), .mov (.c (.int .u8 0)), none⟩,
     ⟨(some 3), .mov (.c (.int .i64 0)), none⟩])
   (.ret))
   (.skip)))
  (.seq (.region false [⟨(some 55), .mov (.t 8), none⟩,
    ⟨(some 2), .mov (.t 55), none⟩,
    ⟨(some 3), .mov (.c (.int .i64 3)), none⟩])
  (.ret))))))))),
  [.tmp 2, .tmp 3]⟩

/- words_fields_1 -/
def A_words_fields_1J0 : ACode :=
  .seq (.region false [⟨(some 6), .ld none (.t 1), none⟩,
    ⟨(some 3), .mov (.t 6), none⟩])
  (.seq (.region false [⟨(some 4), .alloc [.str [], .bool false], none⟩])
  (.seq (.region false [⟨(some 5), .mov (.c (.int .i64 0)), none⟩])
  (.seq (.label 1)
  (.seq (.seq (.region false [⟨(some 8), .mov (.t 3), none⟩,
    ⟨(some 9), .call F_words_unquote [(.t 8)], none⟩,
    ⟨(some 7), .mov (.t 9), none⟩,
    ⟨(some 10), .extr (.t 7) 0, none⟩,
    ⟨(some 11), .extr (.t 7) 1, none⟩,
    ⟨(some 12), .fldA 0 (.t 4), none⟩,
    ⟨none, .st 1 (.t 12) (.t 10), none⟩,
    ⟨(some 5), .mov (.t 11), none⟩])
  (.seq (.region false [⟨(some 13), .mov (.t 5), none⟩,
    ⟨(some 14), .bin .gtr (.t 13) (.c (.int .i64 0)), none⟩])
  (.cond (.t 14)
   (.seq (.region false [⟨(some 15), .fldA 1 (.t 4), none⟩,
     ⟨none, .st 1 (.t 15) (.c (.bool true)), none⟩])
   (.goto 0))
   (.skip))))
  (.seq (.region false [⟨(some 16), .fldA 1 (.t 4), none⟩,
    ⟨none, .st 1 (.t 16) (.c (.bool false)), none⟩])
  (.seq (.region false [⟨(some 18), .mov (.t 3), none⟩,
    ⟨(some 19), .call F_strings_Cut [(.t 18), (.c (.str [32]))], none⟩,
    ⟨(some 17), .mov (.t 19), none⟩,
    ⟨(some 20), .extr (.t 17) 0, none⟩,
    ⟨(some 21), .extr (.t 17) 1, none⟩,
    ⟨(some 22), .extr (.t 17) 2, none⟩,
    ⟨(some 23), .fldA 0 (.t 4), none⟩,
    ⟨none, .st 1 (.t 23) (.t 20), none⟩])
  (.seq (.region false [⟨(some 24), .fldA 0 (.t 4), none⟩,
    ⟨(some 25), .ld none (.t 24), none⟩,
    ⟨(some 26), .lenS (.t 25), none⟩,
    ⟨(some 5), .mov (.t 26), none⟩])
  (.seq (.seq (.region false [⟨(some 27), .fldA 0 (.t 4), none⟩,
    ⟨(some 28), .ld none (.t 27), none⟩,
    ⟨(some 29), .call F_words_isBare [(.t 28)], none⟩,
    ⟨(some 30), .not (.t 29), none⟩])
  (.cond (.t 30)
   (.seq (.region false [⟨(some 31), .mov (.t 0), none⟩,
     ⟨(some 32), .build [.str [], .bool false] [], none⟩,
     ⟨(some 33), .callv (.t 31) [(.t 32), (.c (.bool false))], none⟩])
   (.ret))
   (.skip)))
  (.seq (.label 0)
  (.seq (.region false [⟨(some 34), .mov (.t 3), none⟩,
    ⟨(some 35), .mov (.t 5), none⟩,
    ⟨(some 36), .ssl (.t 34) (some (.t 35)) none, none⟩,
    ⟨(some 3), .mov (.t 36), none⟩])
  (.seq (.seq (.region false [⟨(some 37), .mov (.t 3), none⟩,
    ⟨(some 38), .bin .neq (.t 37) (.c (.str [])), none⟩,
    ⟨(some 39), .mov (.t 38), none⟩,
    ⟨(some 40), .mov (.t 3), some (39, true)⟩,
    ⟨(some 41), .idxS (.t 40) (.c (.int .i64 0)), some (39, true)⟩,
    ⟨(some 42), .bin .neq (.t 41) (.c (.int .u8 32)), some (39, true)⟩,
    ⟨(some 43), .pick (.t 39) (.t 42) (.c (.bool false)), none⟩])
  (.cond (.t 43)
   (.seq (.region false [⟨(some 44), .mov (.t 0), none⟩,
     ⟨(some 45), .build [.str [], .bool false] [], none⟩,
     ⟨(some 46), .callv (.t 44) [(.t 45), (.c (.bool false))], none⟩])
   (.ret))
   (.skip)))
  (.seq (.seq (.region false [⟨(some 47), .mov (.t 0), none⟩,
    ⟨(some 48), .ld (some 2) (.t 4), none⟩,
    ⟨(some 49), .callv (.t 47) [(.t 48), (.c (.bool true))], none⟩,
    ⟨(some 50), .not (.t 49), none⟩,
    ⟨(some 51), .mov (.t 50), none⟩,
    ⟨(some 52), .mov (.t 3), some (51, false)⟩,
    ⟨(some 53), .bin .eql (.t 52) (.c (.str [])), some (51, false)⟩,
    ⟨(some 54), .pick (.t 51) (.c (.bool true)) (.t 53), none⟩])
  (.cond (.t 54)
   (.ret)
   (.skip)))
  (.seq (.region false [⟨(some 55), .mov (.t 3), none⟩,
    ⟨(some 56), .ssl (.t 55) (some (.c (.int .i64 1))) none, none⟩,
    ⟨(some 3), .mov (.t 56), none⟩])
  (.goto 1))))))))))))))
def A_words_fields_1 : AFun := ⟨57,
  .scopeJ A_words_fields_1J0,
  []⟩

/- strings_trimLeftByte -/
def A_strings_trimLeftByteL0 : ACode :=
  .seq (.seq (.region false [⟨(some 5), .mov (.t 0), none⟩,
    ⟨(some 6), .lenS (.t 5), none⟩,
    ⟨(some 7), .bin .gtr (.t 6) (.c (.int .i64 0)), none⟩,
    ⟨(some 8), .mov (.t 7), none⟩,
    ⟨(some 9), .mov (.t 0), some (8, true)⟩,
    ⟨(some 10), .idxS (.t 9) (.c (.int .i64 0)), some (8, true)⟩,
    ⟨(some 11), .mov (.t 1), some (8, true)⟩,
    ⟨(some 12), .bin .eql (.t 10) (.t 11), some (8, true)⟩,
    ⟨(some 13), .pick (.t 8) (.t 12) (.c (.bool false)), none⟩])
  (.cond (.t 13)
   (.skip)
   (.exit 0)))
  (.block 1 (.region false [⟨(some 14), .mov (.t 0), none⟩,
    ⟨(some 15), .ssl (.t 14) (some (.c (.int .i64 1))) none, none⟩,
    ⟨(some 0), .mov (.t 15), none⟩]))
def A_strings_trimLeftByte : AFun := ⟨17,
  .seq (.region false [⟨(some 4), .mov (.c (.str [])), none⟩])
  (.seq (.block 0 (.loop A_strings_trimLeftByteL0))
  (.seq (.region false [⟨(some 16), .mov (.t 0), none⟩,
    ⟨(some 4), .mov (.t 16), none⟩])
  (.ret))),
  [.tmp 4]⟩

/- strings_trimRightByte -/
def A_strings_trimRightByteL0 : ACode :=
  .seq (.seq (.region false [⟨(some 5), .mov (.t 0), none⟩,
    ⟨(some 6), .lenS (.t 5), none⟩,
    ⟨(some 7), .bin .gtr (.t 6) (.c (.int .i64 0)), none⟩,
    ⟨(some 8), .mov (.t 7), none⟩,
    ⟨(some 9), .mov (.t 0), some (8, true)⟩,
    ⟨(some 10), .mov (.t 0), some (8, true)⟩,
    ⟨(some 11), .lenS (.t 10), some (8, true)⟩,
    ⟨(some 12), .bin .sub (.t 11) (.c (.int .i64 1)), some (8, true)⟩,
    ⟨(some 13), .idxS (.t 9) (.t 12), some (8, true)⟩,
    ⟨(some 14), .mov (.t 1), some (8, true)⟩,
    ⟨(some 15), .bin .eql (.t 13) (.t 14), some (8, true)⟩,
    ⟨(some 16), .pick (.t 8) (.t 15) (.c (.bool false)), none⟩])
  (.cond (.t 16)
   (.skip)
   (.exit 0)))
  (.block 1 (.region false [⟨(some 17), .mov (.t 0), none⟩,
    ⟨(some 18), .mov (.t 0), none⟩,
    ⟨(some 19), .lenS (.t 18), none⟩,
    ⟨(some 20), .bin .sub (.t 19) (.c (.int .i64 1)), none⟩,
    ⟨(some 21), .ssl (.t 17) none (some (.t 20)), none⟩,
    ⟨(some 0), .mov (.t 21), none⟩]))
def A_strings_trimRightByte : AFun := ⟨23,
  .seq (.region false [⟨(some 4), .mov (.c (.str [])), none⟩])
  (.seq (.block 0 (.loop A_strings_trimRightByteL0))
  (.seq (.region false [⟨(some 22), .mov (.t 0), none⟩,
    ⟨(some 4), .mov (.t 22), none⟩])
  (.ret))),
  [.tmp 4]⟩

/- strings_makeASCIISet -/
def A_strings_makeASCIISetL0 : ACode :=
  .seq (.seq (.region false [⟨(some 6), .mov (.t 4), none⟩,
    ⟨(some 7), .mov (.t 0), none⟩,
    ⟨(some 8), .lenS (.t 7), none⟩,
    ⟨(some 9), .bin .lss (.t 6) (.t 8), none⟩])
  (.cond (.t 9)
   (.skip)
   (.exit 0)))
  (.seq (.block 1 (.seq (.region false [⟨(some 12), .mov (.t 0), none⟩,
    ⟨(some 13), .mov (.t 4), none⟩,
    ⟨(some 14), .idxS (.t 12) (.t 13), none⟩,
    ⟨(some 5), .mov (.t 14), none⟩])
  (.seq (.seq (.region false [⟨(some 15), .mov (.t 5), none⟩,
    ⟨(some 16), .bin .geq (.t 15) (.c (.int .u8 128)), none⟩])
  (.cond (.t 16)
   (.seq (.region false [⟨(some 17), .ld (some 256) (.t 2), none⟩,
     ⟨none, .st 256 (.t 2) (.t 17), none⟩,
     ⟨(some 3), .mov (.c (.bool false)), none⟩])
   (.ret))
   (.skip)))
  (.region false [⟨(some 18), .mov (.t 5), none⟩,
    ⟨(some 19), .idxP 256 1 (.t 2) (.t 18), none⟩,
    ⟨none, .st 1 (.t 19) (.c (.bool true)), none⟩]))))
  (.region false [⟨(some 10), .mov (.t 4), none⟩,
    ⟨(some 11), .bin .add (.t 10) (.c (.int .i64 1)), none⟩,
    ⟨(some 4), .mov (.t 11), none⟩]))
def A_strings_makeASCIISet : AFun := ⟨21,
  .seq (.region false [⟨(some 2), .alloc (List.replicate 256 (.bool false)), none⟩,
    ⟨(some 3), .mov (.c (.bool false)), none⟩])
  (.seq (.seq (.region false [⟨(some 4), .mov (.c (.int .i64 0)), none⟩])
  (.block 0 (.loop A_strings_makeASCIISetL0)))
  (.seq (.region false [⟨(some 20), .ld (some 256) (.t 2), none⟩,
    ⟨none, .st 256 (.t 2) (.t 20), none⟩,
    ⟨(some 3), .mov (.c (.bool true)), none⟩])
  (.ret))),
  [.cell (some 256) 2, .tmp 3]⟩

/- strings_trimLeftASCII -/
def A_strings_trimLeftASCIIL0 : ACode :=
  .seq (.seq (.region false [⟨(some 5), .mov (.t 0), none⟩,
    ⟨(some 6), .lenS (.t 5), none⟩,
    ⟨(some 7), .bin .gtr (.t 6) (.c (.int .i64 0)), none⟩])
  (.cond (.t 7)
   (.skip)
   (.exit 0)))
  (.block 1 (.seq (.seq (.region false [⟨(some 8), .mov (.t 1), none⟩,
    ⟨(some 9), .mov (.t 0), none⟩,
    ⟨(some 10), .idxS (.t 9) (.c (.int .i64 0)), none⟩,
    ⟨(some 11), .call F_strings_asciiSet_contains [(.t 8), (.t 10)], none⟩,
    ⟨(some 12), .not (.t 11), none⟩])
  (.cond (.t 12)
   (.exit 0)
   (.skip)))
  (.region false [⟨(some 13), .mov (.t 0), none⟩,
    ⟨(some 14), .ssl (.t 13) (some (.c (.int .i64 1))) none, none⟩,
    ⟨(some 0), .mov (.t 14), none⟩])))
def A_strings_trimLeftASCII : AFun := ⟨16,
  .seq (.region false [⟨(some 4), .mov (.c (.str [])), none⟩])
  (.seq (.block 0 (.loop A_strings_trimLeftASCIIL0))
  (.seq (.region false [⟨(some 15), .mov (.t 0), none⟩,
    ⟨(some 4), .mov (.t 15), none⟩])
  (.ret))),
  [.tmp 4]⟩

/- strings_trimRightASCII -/
def A_strings_trimRightASCIIL0 : ACode :=
  .seq (.seq (.region false [⟨(some 5), .mov (.t 0), none⟩,
    ⟨(some 6), .lenS (.t 5), none⟩,
    ⟨(some 7), .bin .gtr (.t 6) (.c (.int .i64 0)), none⟩])
  (.cond (.t 7)
   (.skip)
   (.exit 0)))
  (.block 1 (.seq (.seq (.region false [⟨(some 8), .mov (.t 1), none⟩,
    ⟨(some 9), .mov (.t 0), none⟩,
    ⟨(some 10), .mov (.t 0), none⟩,
    ⟨(some 11), .lenS (.t 10), none⟩,
    ⟨(some 12), .bin .sub (.t 11) (.c (.int .i64 1)), none⟩,
    ⟨(some 13), .idxS (.t 9) (.t 12), none⟩,
    ⟨(some 14), .call F_strings_asciiSet_contains [(.t 8), (.t 13)], none⟩,
    ⟨(some 15), .not (.t 14), none⟩])
  (.cond (.t 15)
   (.exit 0)
   (.skip)))
  (.region false [⟨(some 16), .mov (.t 0), none⟩,
    ⟨(some 17), .mov (.t 0), none⟩,
    ⟨(some 18), .lenS (.t 17), none⟩,
    ⟨(some 19), .bin .sub (.t 18) (.c (.int .i64 1)), none⟩,
    ⟨(some 20), .ssl (.t 16) none (some (.t 19)), none⟩,
    ⟨(some 0), .mov (.t 20), none⟩])))
def A_strings_trimRightASCII : AFun := ⟨22,
  .seq (.region false [⟨(some 4), .mov (.c (.str [])), none⟩])
  (.seq (.block 0 (.loop A_strings_trimRightASCIIL0))
  (.seq (.region false [⟨(some 21), .mov (.t 0), none⟩,
    ⟨(some 4), .mov (.t 21), none⟩])
  (.ret))),
  [.tmp 4]⟩

/- strings_trimLeftUnicode -/
def A_strings_trimLeftUnicodeL0 : ACode :=
  .seq (.seq (.region false [⟨(some 7), .mov (.t 0), none⟩,
    ⟨(some 8), .lenS (.t 7), none⟩,
    ⟨(some 9), .bin .gtr (.t 8) (.c (.int .i64 0)), none⟩])
  (.cond (.t 9)
   (.skip)
   (.exit 0)))
  (.block 1 (.seq (.region false [⟨(some 11), .mov (.t 0), none⟩,
    ⟨(some 12), .call F_utf8_DecodeRuneInString [(.t 11)], none⟩,
    ⟨(some 10), .mov (.t 12), none⟩,
    ⟨(some 13), .extr (.t 10) 0, none⟩,
    ⟨(some 14), .extr (.t 10) 1, none⟩,
    ⟨(some 5), .mov (.t 13), none⟩,
    ⟨(some 6), .mov (.t 14), none⟩])
  (.seq (.seq (.region false [⟨(some 15), .mov (.t 1), none⟩,
    ⟨(some 16), .mov (.t 5), none⟩,
    ⟨(some 17), .call F_strings_ContainsRune [(.t 15), (.t 16)], none⟩,
    ⟨(some 18), .not (.t 17), none⟩])
  (.cond (.t 18)
   (.exit 0)
   (.skip)))
  (.region false [⟨(some 19), .mov (.t 0), none⟩,
    ⟨(some 20), .mov (.t 6), none⟩,
    ⟨(some 21), .ssl (.t 19) (some (.t 20)) none, none⟩,
    ⟨(some 0), .mov (.t 21), none⟩]))))
def A_strings_trimLeftUnicode : AFun := ⟨23,
  .seq (.region false [⟨(some 4), .mov (.c (.str [])), none⟩])
  (.seq (.block 0 (.loop A_strings_trimLeftUnicodeL0))
  (.seq (.region false [⟨(some 22), .mov (.t 0), none⟩,
    ⟨(some 4), .mov (.t 22), none⟩])
  (.ret))),
  [.tmp 4]⟩

/- strings_trimRightUnicode -/
def A_strings_trimRightUnicodeL0 : ACode :=
  .seq (.seq (.region false [⟨(some 7), .mov (.t 0), none⟩,
    ⟨(some 8), .lenS (.t 7), none⟩,
    ⟨(some 9), .bin .gtr (.t 8) (.c (.int .i64 0)), none⟩])
  (.cond (.t 9)
   (.skip)
   (.exit 0)))
  (.block 1 (.seq (.region false [⟨(some 10), .mov (.t 0), none⟩,
    ⟨(some 11), .mov (.t 0), none⟩,
    ⟨(some 12), .lenS (.t 11), none⟩,
    ⟨(some 13), .bin .sub (.t 12) (.c (.int .i64 1)), none⟩,
    ⟨(some 14), .idxS (.t 10) (.t 13), none⟩,
    ⟨(some 15), .conv .i32 (.t 14), none⟩,
    ⟨(some 5), .mov (.t 15), none⟩,
    ⟨(some 6), .mov (.c (.int .i64 1)), none⟩])
  (.seq (.seq (.region false [⟨(some 16), .mov (.t 5), none⟩,
    ⟨(some 17), .bin .geq (.t 16) (.c (.int .i32 128)), none⟩])
  (.cond (.t 17)
   (.region false [⟨(some 19), .mov (.t 0), none⟩,
     ⟨(some 20), .call F_utf8_DecodeLastRuneInString [(.t 19)], none⟩,
     ⟨(some 18), .mov (.t 20), none⟩,
     ⟨(some 21), .extr (.t 18) 0, none⟩,
     ⟨(some 22), .extr (.t 18) 1, none⟩,
     ⟨(some 5), .mov (.t 21), none⟩,
     ⟨(some 6), .mov (.t 22), none⟩])
   (.skip)))
  (.seq (.seq (.region false [⟨(some 23), .mov (.t 1), none⟩,
    ⟨(some 24), .mov (.t 5), none⟩,
    ⟨(some 25), .call F_strings_ContainsRune [(.t 23), (.t 24)], none⟩,
    ⟨(some 26), .not (.t 25), none⟩])
  (.cond (.t 26)
   (.exit 0)
   (.skip)))
  (.region false [⟨(some 27), .mov (.t 0), none⟩,
    ⟨(some 28), .mov (.t 0), none⟩,
    ⟨(some 29), .lenS (.t 28), none⟩,
    ⟨(some 30), .mov (.t 6), none⟩,
    ⟨(some 31), .bin .sub (.t 29) (.t 30), none⟩,
    ⟨(some 32), .ssl (.t 27) none (some (.t 31)), none⟩,
    ⟨(some 0), .mov (.t 32), none⟩])))))
def A_strings_trimRightUnicode : AFun := ⟨34,
  .seq (.region false [⟨(some 4), .mov (.c (.str [])), none⟩])
  (.seq (.block 0 (.loop A_strings_trimRightUnicodeL0))
  (.seq (.region false [⟨(some 33), .mov (.t 0), none⟩,
    ⟨(some 4), .mov (.t 33), none⟩])
  (.ret))),
  [.tmp 4]⟩

/- strings_Index -/
def A_strings_Index : AFun := ⟨8,
  .seq (.region false [⟨(some 4), .mov (.c (.int .i64 0)), none⟩])
  (.seq (.region false [⟨(some 5), .mov (.t 0), none⟩,
    ⟨(some 6), .mov (.t 1), none⟩,
    ⟨(some 7), .call F_stringslite_Index [(.t 5), (.t 6)], none⟩,
    ⟨(some 4), .mov (.t 7), none⟩])
  (.ret)),
  [.tmp 4]⟩

/- stringslite_TrimPrefix -/
def A_stringslite_TrimPrefix : AFun := ⟨13,
  .seq (.region false [⟨(some 4), .mov (.c (.str [])), none⟩])
  (.seq (.seq (.region false [⟨(some 5), .mov (.t 0), none⟩,
    ⟨(some 6), .mov (.t 1), none⟩,
    ⟨(some 7), .call F_stringslite_HasPrefix [(.t 5), (.t 6)], none⟩])
  (.cond (.t 7)
   (.seq (.region false [⟨(some 8), .mov (.t 0), none⟩,
     ⟨(some 9), .mov (.t 1), none⟩,
     ⟨(some 10), .lenS (.t 9), none⟩,
     ⟨(some 11), .ssl (.t 8) (some (.t 10)) none, none⟩,
     ⟨(some 4), .mov (.t 11), none⟩])
   (.ret))
   (.skip)))
  (.seq (.region false [⟨(some 12), .mov (.t 0), none⟩,
    ⟨(some 4), .mov (.t 12), none⟩])
  (.ret))),
  [.tmp 4]⟩

/- strings_lastIndexFunc -/
def A_strings_lastIndexFuncL0 : ACode :=
  .seq (.seq (.region false [⟨(some 12), .mov (.t 7), none⟩,
    ⟨(some 13), .bin .gtr (.t 12) (.c (.int .i64 0)), none⟩])
  (.cond (.t 13)
   (.skip)
   (.exit 0)))
  (.block 1 (.seq (.region false [⟨(some 15), .mov (.t 0), none⟩,
    ⟨(some 16), .mov (.t 7), none⟩,
    ⟨(some 17), .ssl (.t 15) (some (.c (.int .i64 0))) (some (.t 16)), none⟩,
    ⟨(some 18), .call F_utf8_DecodeLastRuneInString [(.t 17)], none⟩,
    ⟨(some 14), .mov (.t 18), none⟩,
    ⟨(some 19), .extr (.t 14) 0, none⟩,
    ⟨(some 20), .extr (.t 14) 1, none⟩,
    ⟨(some 8), .mov (.t 19), none⟩,
    ⟨(some 9), .mov (.t 20), none⟩])
  (.seq (.region false [⟨(some 21), .mov (.t 7), none⟩,
    ⟨(some 22), .mov (.t 9), none⟩,
    ⟨(some 23), .bin .sub (.t 21) (.t 22), none⟩,
    ⟨(some 7), .mov (.t 23), none⟩])
  (.seq (.region false [⟨(some 24), .mov (.t 1), none⟩,
    ⟨(some 25), .mov (.t 8), none⟩,
    ⟨(some 26), .callv (.t 24) [(.t 25)], none⟩,
    ⟨(some 27), .mov (.t 2), none⟩,
    ⟨(some 28), .beq false (.t 26) (.t 27), none⟩])
  (.cond (.t 28)
   (.seq (.region false [⟨(some 29), .mov (.t 7), none⟩,
     ⟨(some 6), .mov (.t 29), none⟩])
   (.ret))
   (.skip))))))
def A_strings_lastIndexFunc : AFun := ⟨30,
  .seq (.region false [⟨(some 6), .mov (.c (.int .i64 0)), none⟩])
  (.seq (.seq (.region false [⟨(some 10), .mov (.t 0), none⟩,
    ⟨(some 11), .lenS (.t 10), none⟩,
    ⟨(some 7), .mov (.t 11), none⟩])
  (.block 0 (.loop A_strings_lastIndexFuncL0)))
  (.seq (.region false [⟨(some 6), .mov (.c (.int .i64 (-1))), none⟩])
  (.ret))),
  [.tmp 6]⟩

/- strings_IndexByte -/
def A_strings_IndexByte : AFun := ⟨8,
  .seq (.region false [⟨(some 4), .mov (.c (.int .i64 0)), none⟩])
  (.seq (.region false [⟨(some 5), .mov (.t 0), none⟩,
    ⟨(some 6), .mov (.t 1), none⟩,
    ⟨(some 7), .call F_stringslite_IndexByte [(.t 5), (.t 6)], none⟩,
    ⟨(some 4), .mov (.t 7), none⟩])
  (.ret)),
  [.tmp 4]⟩

/- strings_asciiSet_contains -/
def A_strings_asciiSet_contains : AFun := ⟨10,
  .seq (.region false [⟨(some 4), .mov (.c (.bool false)), none⟩])
  (.seq (.region false [⟨(some 5), .mov (.t 0), none⟩,
    ⟨(some 6), .mov (.t 1), none⟩,
    ⟨(some 7), .nck (.t 5), none⟩,
    ⟨(some 8), .idxP 256 1 (.t 7) (.t 6), none⟩,
    ⟨(some 9), .ld none (.t 8), none⟩,
    ⟨(some 4), .mov (.t 9), none⟩])
  (.ret)),
  [.tmp 4]⟩

/- utf8_DecodeRuneInString -/
def A_utf8_DecodeRuneInString : AFun := ⟨19,
  .seq (.region false [⟨(some 2), .mov (.c (.int .i32 0)), none⟩,
    ⟨(some 3), .mov (.c (.int .i64 0)), none⟩])
  (.seq (.seq (.region false [⟨(some 4), .mov (.t 0), none⟩,
    ⟨(some 5), .bin .neq (.t 4) (.c (.str [])), none⟩,
    ⟨(some 6), .mov (.t 5), none⟩,
    ⟨(some 7), .mov (.t 0), some (6, true)⟩,
    ⟨(some 8), .idxS (.t 7) (.c (.int .i64 0)), some (6, true)⟩,
    ⟨(some 9), .bin .lss (.t 8) (.c (.int .u8 128)), some (6, true)⟩,
    ⟨(some 10), .pick (.t 6) (.t 9) (.c (.bool false)), none⟩])
  (.cond (.t 10)
   (.seq (.region false [⟨(some 11), .mov (.t 0), none⟩,
     ⟨(some 12), .idxS (.t 11) (.c (.int .i64 0)), none⟩,
     ⟨(some 13), .conv .i32 (.t 12), none⟩,
     ⟨(some 2), .mov (.t 13), none⟩,
     ⟨(some 3), .mov (.c (.int .i64 1)), none⟩])
   (.ret))
   (.region false [⟨(some 15), .mov (.t 0), none⟩,
     ⟨(some 16), .call F_utf8_decodeRuneInStringSlow [(.t 15)], none⟩,
     ⟨(some 14), .mov (.t 16), none⟩,
     ⟨(some 17), .extr (.t 14) 0, none⟩,
     ⟨(some 18), .extr (.t 14) 1, none⟩,
     ⟨(some 2), .mov (.t 17), none⟩,
     ⟨(some 3), .mov (.t 18), none⟩])))
  (.ret)),
  [.tmp 2, .tmp 3]⟩

/- strings_ContainsRune -/
def A_strings_ContainsRune : AFun := ⟨9,
  .seq (.region false [⟨(some 4), .mov (.c (.bool false)), none⟩])
  (.seq (.region false [⟨(some 5), .mov (.t 0), none⟩,
    ⟨(some 6), .mov (.t 1), none⟩,
    ⟨(some 7), .call F_strings_IndexRune [(.t 5), (.t 6)], none⟩,
    ⟨(some 8), .bin .geq (.t 7) (.c (.int .i64 0)), none⟩,
    ⟨(some 4), .mov (.t 8), none⟩])
  (.ret)),
  [.tmp 4]⟩

/- utf8_DecodeLastRuneInString -/
def A_utf8_DecodeLastRuneInStringL0 : ACode :=
  .seq (.seq (.region false [⟨(some 25), .mov (.t 5), none⟩,
    ⟨(some 26), .mov (.t 6), none⟩,
    ⟨(some 27), .bin .geq (.t 25) (.t 26), none⟩])
  (.cond (.t 27)
   (.skip)
   (.exit 0)))
  (.seq (.block 1 (.seq (.region false [⟨(some 30), .mov (.t 0), none⟩,
    ⟨(some 31), .mov (.t 5), none⟩,
    ⟨(some 32), .idxS (.t 30) (.t 31), none⟩,
    ⟨(some 33), .call F_utf8_RuneStart [(.t 32)], none⟩])
  (.cond (.t 33)
   (.exit 0)
   (.skip))))
  (.region false [⟨(some 28), .mov (.t 5), none⟩,
    ⟨(some 29), .bin .sub (.t 28) (.c (.int .i64 1)), none⟩,
    ⟨(some 5), .mov (.t 29), none⟩]))
def A_utf8_DecodeLastRuneInString : AFun := ⟨51,
  .seq (.region false [⟨(some 2), .mov (.c (.int .i32 0)), none⟩,
    ⟨(some 3), .mov (.c (.int .i64 0)), none⟩])
  (.seq (.region false [⟨(some 7), .mov (.t 0), none⟩,
    ⟨(some 8), .lenS (.t 7), none⟩,
    ⟨(some 4), .mov (.t 8), none⟩])
  (.seq (.seq (.region false [⟨(some 9), .mov (.t 4), none⟩,
    ⟨(some 10), .bin .eql (.t 9) (.c (.int .i64 0)), none⟩])
  (.cond (.t 10)
   (.seq (.region false [⟨(some 2), .mov (.c (.int .i32 65533)), none⟩,
     ⟨(some 3), .mov (.c (.int .i64 0)), none⟩])
   (.ret))
   (.skip)))
  (.seq (.region false [⟨(some 11), .mov (.t 4), none⟩,
    ⟨(some 12), .bin .sub (.t 11) (.c (.int .i64 1)), none⟩,
    ⟨(some 5), .mov (.t 12), none⟩])
  (.seq (.region false [⟨(some 13), .mov (.t 0), none⟩,
    ⟨(some 14), .mov (.t 5), none⟩,
    ⟨(some 15), .idxS (.t 13) (.t 14), none⟩,
    ⟨(some 16), .conv .i32 (.t 15), none⟩,
    ⟨(some 2), .mov (.t 16), none⟩])
  (.seq (.seq (.region false [⟨(some 17), .mov (.t 2), none⟩,
    ⟨(some 18), .bin .lss (.t 17) (.c (.int .i32 128)), none⟩])
  (.cond (.t 18)
   (.seq (.region false [⟨(some 19), .mov (.t 2), none⟩,
     ⟨(some 2), .mov (.t 19), none⟩,
     ⟨(some 3), .mov (.c (.int .i64 1)), none⟩])
   (.ret))
   (.skip)))
  (.seq (.region false [⟨(some 20), .mov (.t 4), none⟩,
    ⟨(some 21), .bin .sub (.t 20) (.c (.int .i64 4)), none⟩,
    ⟨(some 22), .mm true (.t 21) (.c (.int .i64 0)), none⟩,
    ⟨(some 6), .mov (.t 22), none⟩])
  (.seq (.seq (.region false [⟨(some 23), .mov (.t 5), none⟩,
    ⟨(some 24), .bin .sub (.t 23) (.c (.int .i64 1)), none⟩,
    ⟨(some 5), .mov (.t 24), none⟩])
  (.block 0 (.loop A_utf8_DecodeLastRuneInStringL0)))
  (.seq (.seq (.region false [⟨(some 34), .mov (.t 5), none⟩,
    ⟨(some 35), .bin .lss (.t 34) (.c (.int .i64 0)), none⟩])
  (.cond (.t 35)
   (.region false [⟨(some 5), .mov (.c (.int .i64 0)), none⟩])
   (.skip)))
  (.seq (.region false [⟨(some 37), .mov (.t 0), none⟩,
    ⟨(some 38), .mov (.t 5), none⟩,
    ⟨(some 39), .mov (.t 4), none⟩,
    ⟨(some 40), .ssl (.t 37) (some (.t 38)) (some (.t 39)), none⟩,
    ⟨(some 41), .call F_utf8_DecodeRuneInString [(.t 40)], none⟩,
    ⟨(some 36), .mov (.t 41), none⟩,
    ⟨(some 42), .extr (.t 36) 0, none⟩,
    ⟨(some 43), .extr (.t 36) 1, none⟩,
    ⟨(some 2), .mov (.t 42), none⟩,
    ⟨(some 3), .mov (.t 43), none⟩])
  (.seq (.seq (.region false [⟨(some 44), .mov (.t 5), none⟩,
    ⟨(some 45), .mov (.t 3), none⟩,
    ⟨(some 46), .bin .add (.t 44) (.t 45), none⟩,
    ⟨(some 47), .mov (.t 4), none⟩,
    ⟨(some 48), .bin .neq (.t 46) (.t 47), none⟩])
  (.cond (.t 48)
   (.seq (.region false [⟨(some 2), .mov (.c (.int .i32 65533)), none⟩,
     ⟨(some 3), .mov (.c (.int .i64 1)), none⟩])
   (.ret))
   (.skip)))
  (.seq (.region false [⟨(some 49), .mov (.t 2), none⟩,
    ⟨(some 50), .mov (.t 3), none⟩,
    ⟨(some 2), .mov (.t 49), none⟩,
    ⟨(some 3), .mov (.t 50), none⟩])
  (.ret)))))))))))),
  [.tmp 2, .tmp 3]⟩

/- bytealg_Cutover -/
def A_bytealg_Cutover : AFun := ⟨6,
  .seq (.region false [⟨(some 2), .mov (.c (.int .i64 0)), none⟩])
  (.seq (.region false [⟨(some 3), .mov (.t 0), none⟩,
    ⟨(some 4), .bin .add (.t 3) (.c (.int .i64 16)), none⟩,
    ⟨(some 5), .bin .quo (.t 4) (.c (.int .i64 8)), none⟩,
    ⟨(some 2), .mov (.t 5), none⟩])
  (.ret)),
  [.tmp 2]⟩

/- stringslite_HasPrefix -/
def A_stringslite_HasPrefix : AFun := ⟨18,
  .seq (.region false [⟨(some 4), .mov (.c (.bool false)), none⟩])
  (.seq (.region false [⟨(some 5), .mov (.t 0), none⟩,
    ⟨(some 6), .lenS (.t 5), none⟩,
    ⟨(some 7), .mov (.t 1), none⟩,
    ⟨(some 8), .lenS (.t 7), none⟩,
    ⟨(some 9), .bin .geq (.t 6) (.t 8), none⟩,
    ⟨(some 10), .mov (.t 9), none⟩,
    ⟨(some 11), .mov (.t 0), some (10, true)⟩,
    ⟨(some 12), .mov (.t 1), some (10, true)⟩,
    ⟨(some 13), .lenS (.t 12), some (10, true)⟩,
    ⟨(some 14), .ssl (.t 11) none (some (.t 13)), some (10, true)⟩,
    ⟨(some 15), .mov (.t 1), some (10, true)⟩,
    ⟨(some 16), .bin .eql (.t 14) (.t 15), some (10, true)⟩,
    ⟨(some 17), .pick (.t 10) (.t 16) (.c (.bool false)), none⟩,
    ⟨(some 4), .mov (.t 17), none⟩])
  (.ret)),
  [.tmp 4]⟩

/- utf8_decodeRuneInStringSlow -/
def A_utf8_decodeRuneInStringSlow : AFun := ⟨117,
  .seq (.region false [⟨(some 2), .mov (.c (.int .i32 0)), none⟩,
    ⟨(some 3), .mov (.c (.int .i64 0)), none⟩])
  (.seq (.region false [⟨(some 13), .mov (.t 0), none⟩,
    ⟨(some 14), .lenS (.t 13), none⟩,
    ⟨(some 4), .mov (.t 14), none⟩])
  (.seq (.seq (.region false [⟨(some 15), .mov (.t 4), none⟩,
    ⟨(some 16), .bin .lss (.t 15) (.c (.int .i64 1)), none⟩])
  (.cond (.t 16)
   (.seq (.region false [⟨(some 2), .mov (.c (.int .i32 65533)), none⟩,
     ⟨(some 3), .mov (.c (.int .i64 0)), none⟩])
   (.ret))
   (.skip)))
  (.seq (.region false [⟨(some 17), .mov (.t 0), none⟩,
    ⟨(some 18), .idxS (.t 17) (.c (.int .i64 0)), none⟩,
    ⟨(some 5), .mov (.t 18), none⟩])
  (.seq (.region false [⟨(some 19), .mov (.t 5), none⟩,
    ⟨(some 20), .idxP 256 1 (.gl 5) (.t 19), none⟩,
    ⟨(some 21), .ld none (.t 20), none⟩,
    ⟨(some 6), .mov (.t 21), none⟩])
  (.seq (.seq (.region false [⟨(some 22), .mov (.t 6), none⟩,
    ⟨(some 23), .bin .geq (.t 22) (.c (.int .u8 240)), none⟩])
  (.cond (.t 23)
   (.seq (.region false [⟨(some 24), .mov (.t 6), none⟩,
     ⟨(some 25), .conv .i32 (.t 24), none⟩,
     ⟨(some 26), .bin .shl (.t 25) (.c (.int .u64 31)), none⟩,
     ⟨(some 27), .bin .shr (.t 26) (.c (.int .u64 31)), none⟩,
     ⟨(some 7), .mov (.t 27), none⟩])
   (.seq (.region false [⟨(some 28), .mov (.t 0), none⟩,
     ⟨(some 29), .idxS (.t 28) (.c (.int .i64 0)), none⟩,
     ⟨(some 30), .conv .i32 (.t 29), none⟩,
     ⟨(some 31), .mov (.t 7), none⟩,
     ⟨(some 32), .bin .andNot (.t 30) (.t 31), none⟩,
     ⟨(some 33), .mov (.t 7), none⟩,
     ⟨(some 34), .bin .and (.c (.int .i32 65533)) (.t 33), none⟩,
     ⟨(some 35), .bin .or (.t 32) (.t 34), none⟩,
     ⟨(some 2), .mov (.t 35), none⟩,
     ⟨(some 3), .mov (.c (.int .i64 1)), none⟩])
   (.ret)))
   (.skip)))
  (.seq (.region false [⟨(some 36), .mov (.t 6), none⟩,
    ⟨(some 37), .bin .and (.t 36) (.c (.int .u8 7)), none⟩,
    ⟨(some 38), .conv .i64 (.t 37), none⟩,
    ⟨(some 8), .mov (.t 38), none⟩])
  (.seq (.region false [⟨(some 39), .mov (.t 6), none⟩,
    ⟨(some 40), .bin .shr (.t 39) (.c (.int .u64 4)), none⟩,
    ⟨(some 41), .idxP 16 2 (.gl 6) (.t 40), none⟩,
    ⟨(some 42), .ld (some 2) (.t 41), none⟩,
    ⟨(some 9), .alloc [.int .u8 0, .int .u8 0], none⟩,
    ⟨none, .st 2 (.t 9) (.t 42), none⟩])
  (.seq (.seq (.region false [⟨(some 43), .mov (.t 4), none⟩,
    ⟨(some 44), .mov (.t 8), none⟩,
    ⟨(some 45), .bin .lss (.t 43) (.t 44), none⟩])
  (.cond (.t 45)
   (.seq (.region false [⟨(some 2), .mov (.c (.int .i32 65533)), none⟩,
     ⟨(some 3), .mov (.c (.int .i64 1)), none⟩])
   (.ret))
   (.skip)))
  (.seq (.region false [⟨(some 46), .mov (.t 0), none⟩,
    ⟨(some 47), .idxS (.t 46) (.c (.int .i64 1)), none⟩,
    ⟨(some 10), .mov (.t 47), none⟩])
  (.seq (.seq (.region false [⟨(some 48), .mov (.t 10), none⟩,
    ⟨(some 49), .fldA 0 (.t 9), none⟩,
    ⟨(some 50), .ld none (.t 49), none⟩,
    ⟨(some 51), .bin .lss (.t 48) (.t 50), none⟩,
    ⟨(some 52), .mov (.t 51), none⟩,
    ⟨(some 53), .fldA 1 (.t 9), some (52, false)⟩,
    ⟨(some 54), .ld none (.t 53), some (52, false)⟩,
    ⟨(some 55), .mov (.t 10), some (52, false)⟩,
    ⟨(some 56), .bin .lss (.t 54) (.t 55), some (52, false)⟩,
    ⟨(some 57), .pick (.t 52) (.c (.bool true)) (.t 56), none⟩])
  (.cond (.t 57)
   (.seq (.region false [⟨(some 2), .mov (.c (.int .i32 65533)), none⟩,
     ⟨(some 3), .mov (.c (.int .i64 1)), none⟩])
   (.ret))
   (.skip)))
  (.seq (.seq (.region false [⟨(some 58), .mov (.t 8), none⟩,
    ⟨(some 59), .bin .leq (.t 58) (.c (.int .i64 2)), none⟩])
  (.cond (.t 59)
   (.seq (.region false [⟨(some 60), .mov (.t 5), none⟩,
     ⟨(some 61), .bin .and (.t 60) (.c (.int .u8 31)), none⟩,
     ⟨(some 62), .conv .i32 (.t 61), none⟩,
     ⟨(some 63), .bin .shl (.t 62) (.c (.int .u64 6)), none⟩,
     ⟨(some 64), .mov (.t 10), none⟩,
     ⟨(some 65), .bin .and (.t 64) (.c (.int .u8 63)), none⟩,
     ⟨(some 66), .conv .i32 (.t 65), none⟩,
     ⟨(some 67), .bin .or (.t 63) (.t 66), none⟩,
     ⟨(some 2), .mov (.t 67), none⟩,
     ⟨(some 3), .mov (.c (.int .i64 2)), none⟩])
   (.ret))
   (.skip)))
  (.seq (.region false [⟨(some 68), .mov (.t 0), none⟩,
    ⟨(some 69), .idxS (.t 68) (.c (.int .i64 2)), none⟩,
    ⟨(some 11), .mov (.t 69), none⟩])
  (.seq (.seq (.region false [⟨(some 70), .mov (.t 11), none⟩,
    ⟨(some 71), .bin .lss (.t 70) (.c (.int .u8 128)), none⟩,
    ⟨(some 72), .mov (.t 71), none⟩,
    ⟨(some 73), .mov (.t 11), some (72, false)⟩,
    ⟨(some 74), .bin .lss (.c (.int .u8 191)) (.t 73), some (72, false)⟩,
    ⟨(some 75), .pick (.t 72) (.c (.bool true)) (.t 74), none⟩])
  (.cond (.t 75)
   (.seq (.region false [⟨(some 2), .mov (.c (.int .i32 65533)), none⟩,
     ⟨(some 3), .mov (.c (.int .i64 1)), none⟩])
   (.ret))
   (.skip)))
  (.seq (.seq (.region false [⟨(some 76), .mov (.t 8), none⟩,
    ⟨(some 77), .bin .leq (.t 76) (.c (.int .i64 3)), none⟩])
  (.cond (.t 77)
   (.seq (.region false [⟨(some 78), .mov (.t 5), none⟩,
     ⟨(some 79), .bin .and (.t 78) (.c (.int .u8 15)), none⟩,
     ⟨(some 80), .conv .i32 (.t 79), none⟩,
     ⟨(some 81), .bin .shl (.t 80) (.c (.int .u64 12)), none⟩,
     ⟨(some 82), .mov (.t 10), none⟩,
     ⟨(some 83), .bin .and (.t 82) (.c (.int .u8 63)), none⟩,
     ⟨(some 84), .conv .i32 (.t 83), none⟩,
     ⟨(some 85), .bin .shl (.t 84) (.c (.int .u64 6)), none⟩,
     ⟨(some 86), .bin .or (.t 81) (.t 85), none⟩,
     ⟨(some 87), .mov (.t 11), none⟩,
     ⟨(some 88), .bin .and (.t 87) (.c (.int .u8 63)), none⟩,
     ⟨(some 89), .conv .i32 (.t 88), none⟩,
     ⟨(some 90), .bin .or (.t 86) (.t 89), none⟩,
     ⟨(some 2), .mov (.t 90), none⟩,
     ⟨(some 3), .mov (.c (.int .i64 3)), none⟩])
   (.ret))
   (.skip)))
  (.seq (.region false [⟨(some 91), .mov (.t 0), none⟩,
    ⟨(some 92), .idxS (.t 91) (.c (.int .i64 3)), none⟩,
    ⟨(some 12), .mov (.t 92), none⟩])
  (.seq (.seq (.region false [⟨(some 93), .mov (.t 12), none⟩,
    ⟨(some 94), .bin .lss (.t 93) (.c (.int .u8 128)), none⟩,
    ⟨(some 95), .mov (.t 94), none⟩,
    ⟨(some 96), .mov (.t 12), some (95, false)⟩,
    ⟨(some 97), .bin .lss (.c (.int .u8 191)) (.t 96), some (95, false)⟩,
    ⟨(some 98), .pick (.t 95) (.c (.bool true)) (.t 97), none⟩])
  (.cond (.t 98)
   (.seq (.region false [⟨(some 2), .mov (.c (.int .i32 65533)), none⟩,
     ⟨(some 3), .mov (.c (.int .i64 1)), none⟩])
   (.ret))
   (.skip)))
  (.seq (.region false [⟨(some 99), .mov (.t 5), none⟩,
    ⟨(some 100), .bin .and (.t 99) (.c (.int .u8 7)), none⟩,
    ⟨(some 101), .conv .i32 (.t 100), none⟩,
    ⟨(some 102), .bin .shl (.t 101) (.c (.int .u64 18)), none⟩,
    ⟨(some 103), .mov (.t 10), none⟩,
    ⟨(some 104), .bin .and (.t 103) (.c (.int .u8 63)), none⟩,
    ⟨(some 105), .conv .i32 (.t 104), none⟩,
    ⟨(some 106), .bin .shl (.t 105) (.c (.int .u64 12)), none⟩,
    ⟨(some 107), .bin .or (.t 102) (.t 106), none⟩,
    ⟨(some 108), .mov (.t 11), none⟩,
    ⟨(some 109), .bin .and (.t 108) (.c (.int .u8 63)), none⟩,
    ⟨(some 110), .conv .i32 (.t 109), none⟩,
    ⟨(some 111), .bin .shl (.t 110) (.c (.int .u64 6)), none⟩,
    ⟨(some 112), .bin .or (.t 107) (.t 111), none⟩,
    ⟨(some 113), .mov (.t 12), none⟩,
    ⟨(some 114), .bin .and (.t 113) (.c (.int .u8 63)), none⟩,
    ⟨(some 115), .conv .i32 (.t 114), none⟩,
    ⟨(some 116), .bin .or (.t 112) (.t 115), none⟩,
    ⟨(some 2), .mov (.t 116), none⟩,
    ⟨(some 3), .mov (.c (.int .i64 4)), none⟩])
  (.ret)))))))))))))))))),
  [.tmp 2, .tmp 3]⟩

/- strings_IndexRune -/
def A_strings_IndexRuneL0 : ACode :=
  .seq (.bad)
  (.seq (.cond (.t 177)
   (.skip)
   (.exit 9))
  (.block 10 (.seq (.region false [⟨(some 178), .extr (.t 176) 1, none⟩,
    ⟨(some 179), .extr (.t 176) 2, none⟩,
    ⟨(some 5), .mov (.t 178), none⟩,
    ⟨(some 6), .mov (.t 179), none⟩])
  (.seq (.region false [⟨(some 180), .mov (.t 6), none⟩,
    ⟨(some 181), .bin .eql (.t 180) (.c (.int .i32 65533)), none⟩])
  (.cond (.t 181)
   (.seq (.region false [⟨(some 182), .mov (.t 5), none⟩,
     ⟨(some 4), .mov (.t 182), none⟩])
   (.ret))
   (.skip))))))
def A_strings_IndexRuneL4 : ACode :=
  .seq (.seq (.region false [⟨(some 48), .mov (.t 12), none⟩,
    ⟨(some 49), .mov (.t 7), none⟩,
    ⟨(some 50), .lenS (.t 49), none⟩,
    ⟨(some 51), .bin .lss (.t 48) (.t 50), none⟩])
  (.cond (.t 51)
   (.skip)
   (.exit 3)))
  (.seq (.block 4 (.seq (.region true [⟨(some 54), .mov (.t 0), none⟩,
    ⟨(some 55), .mov (.t 9), none⟩,
    ⟨(some 56), .mov (.t 12), none⟩,
    ⟨(some 57), .bin .sub (.t 55) (.t 56), none⟩,
    ⟨(some 58), .idxS (.t 54) (.t 57), none⟩,
    ⟨(some 59), .mov (.t 7), none⟩,
    ⟨(some 60), .mov (.t 8), none⟩,
    ⟨(some 61), .mov (.t 12), none⟩,
    ⟨(some 62), .bin .sub (.t 60) (.t 61), none⟩,
    ⟨(some 63), .idxS (.t 59) (.t 62), none⟩,
    ⟨(some 64), .bin .neq (.t 58) (.t 63), none⟩])
  (.cond (.t 64)
   (.goto 0)
   (.skip))))
  (.region false [⟨(some 52), .mov (.t 12), none⟩,
    ⟨(some 53), .bin .add (.t 52) (.c (.int .i64 1)), none⟩,
    ⟨(some 12), .mov (.t 53), none⟩]))
def A_strings_IndexRuneJ3 : ACode :=
  .seq (.seq (.region true [⟨(some 27), .mov (.t 0), none⟩,
    ⟨(some 28), .mov (.t 9), none⟩,
    ⟨(some 29), .idxS (.t 27) (.t 28), none⟩,
    ⟨(some 30), .mov (.t 7), none⟩,
    ⟨(some 31), .mov (.t 8), none⟩,
    ⟨(some 32), .idxS (.t 30) (.t 31), none⟩,
    ⟨(some 33), .bin .neq (.t 29) (.t 32), none⟩])
  (.cond (.t 33)
   (.seq (.region true [⟨(some 34), .mov (.t 0), none⟩,
     ⟨(some 35), .mov (.t 9), none⟩,
     ⟨(some 36), .bin .add (.t 35) (.c (.int .i64 1)), none⟩,
     ⟨(some 37), .ssl (.t 34) (some (.t 36)) none, none⟩,
     ⟨(some 38), .mov (.t 7), none⟩,
     ⟨(some 39), .mov (.t 8), none⟩,
     ⟨(some 40), .idxS (.t 38) (.t 39), none⟩,
     ⟨(some 41), .call F_strings_IndexByte [(.t 37), (.t 40)], none⟩,
     ⟨(some 11), .mov (.t 41), none⟩])
   (.seq (.seq (.region false [⟨(some 42), .mov (.t 11), none⟩,
     ⟨(some 43), .bin .lss (.t 42) (.c (.int .i64 0)), none⟩])
   (.cond (.t 43)
    (.seq (.region false [⟨(some 4), .mov (.c (.int .i64 (-1))), none⟩])
    (.ret))
    (.skip)))
   (.region false [⟨(some 44), .mov (.t 9), none⟩,
     ⟨(some 45), .mov (.t 11), none⟩,
     ⟨(some 46), .bin .add (.t 45) (.c (.int .i64 1)), none⟩,
     ⟨(some 47), .bin .add (.t 44) (.t 46), none⟩,
     ⟨(some 9), .mov (.t 47), none⟩])))
   (.skip)))
  (.seq (.seq (.region false [⟨(some 12), .mov (.c (.int .i64 1)), none⟩])
  (.block 3 (.loop A_strings_IndexRuneL4)))
  (.seq (.seq (.region false [⟨(some 65), .mov (.t 9), none⟩,
    ⟨(some 66), .mov (.t 8), none⟩,
    ⟨(some 67), .bin .sub (.t 65) (.t 66), none⟩,
    ⟨(some 4), .mov (.t 67), none⟩])
  (.ret))
  (.seq (.label 0)
  (.seq (.region false [⟨(some 68), .mov (.t 10), none⟩,
    ⟨(some 69), .bin .add (.t 68) (.c (.int .i64 1)), none⟩,
    ⟨(some 10), .mov (.t 69), none⟩])
  (.seq (.region false [⟨(some 70), .mov (.t 9), none⟩,
    ⟨(some 71), .bin .add (.t 70) (.c (.int .i64 1)), none⟩,
    ⟨(some 9), .mov (.t 71), none⟩])
  (.seq (.region false [⟨(some 72), .mov (.c (.bool true)), none⟩,
    ⟨(some 73), .mov (.t 10), some (72, true)⟩,
    ⟨(some 74), .mov (.t 9), some (72, true)⟩,
    ⟨(some 75), .call F_bytealg_Cutover [(.t 74)], some (72, true)⟩,
    ⟨(some 76), .bin .gtr (.t 73) (.t 75), some (72, true)⟩,
    ⟨(some 77), .pick (.t 72) (.t 76) (.c (.bool false)), none⟩,
    ⟨(some 78), .mov (.t 77), none⟩,
    ⟨(some 79), .mov (.t 9), some (78, true)⟩,
    ⟨(some 80), .mov (.t 0), some (78, true)⟩,
    ⟨(some 81), .lenS (.t 80), some (78, true)⟩,
    ⟨(some 82), .bin .lss (.t 79) (.t 81), some (78, true)⟩,
    ⟨(some 83), .pick (.t 78) (.t 82) (.c (.bool false)), none⟩,
    ⟨(some 84), .mov (.t 83), none⟩,
    ⟨(some 85), .mov (.c (.bool false)), some (84, false)⟩,
    ⟨(some 86), .mov (.t 10), some (85, true)⟩,
    ⟨(some 87), .mov (.t 9), some (85, true)⟩,
    ⟨(some 88), .bin .shr (.t 87) (.c (.int .u64 4)), some (85, true)⟩,
    ⟨(some 89), .bin .add (.c (.int .i64 4)) (.t 88), some (85, true)⟩,
    ⟨(some 90), .bin .geq (.t 86) (.t 89), some (85, true)⟩,
    ⟨(some 91), .pick (.t 85) (.t 90) (.c (.bool false)), some (84, false)⟩,
    ⟨(some 92), .mov (.t 91), some (84, false)⟩,
    ⟨(some 93), .mov (.t 9), some (92, true)⟩,
    ⟨(some 94), .mov (.t 0), some (92, true)⟩,
    ⟨(some 95), .lenS (.t 94), some (92, true)⟩,
    ⟨(some 96), .bin .lss (.t 93) (.t 95), some (92, true)⟩,
    ⟨(some 97), .pick (.t 92) (.t 96) (.c (.bool false)), some (84, false)⟩,
    ⟨(some 98), .pick (.t 84) (.c (.bool true)) (.t 97), none⟩])
  (.cond (.t 98)
   (.goto 1)
   (.skip))))))))
def A_strings_IndexRuneL2 : ACode :=
  .seq (.seq (.region false [⟨(some 23), .mov (.t 9), none⟩,
    ⟨(some 24), .mov (.t 0), none⟩,
    ⟨(some 25), .lenS (.t 24), none⟩,
    ⟨(some 26), .bin .lss (.t 23) (.t 25), none⟩])
  (.cond (.t 26)
   (.skip)
   (.exit 1)))
  (.block 2 (.scopeJ A_strings_IndexRuneJ3))
def A_strings_IndexRuneL6 : ACode :=
  .seq (.seq (.region false [⟨(some 140), .mov (.t 16), none⟩,
    ⟨(some 141), .mov (.t 7), none⟩,
    ⟨(some 142), .lenS (.t 141), none⟩,
    ⟨(some 143), .bin .lss (.t 140) (.t 142), none⟩])
  (.cond (.t 143)
   (.skip)
   (.exit 7)))
  (.seq (.block 8 (.seq (.region true [⟨(some 146), .mov (.t 0), none⟩,
    ⟨(some 147), .mov (.t 9), none⟩,
    ⟨(some 148), .mov (.t 16), none⟩,
    ⟨(some 149), .bin .sub (.t 147) (.t 148), none⟩,
    ⟨(some 150), .idxS (.t 146) (.t 149), none⟩,
    ⟨(some 151), .mov (.t 7), none⟩,
    ⟨(some 152), .mov (.t 8), none⟩,
    ⟨(some 153), .mov (.t 16), none⟩,
    ⟨(some 154), .bin .sub (.t 152) (.t 153), none⟩,
    ⟨(some 155), .idxS (.t 151) (.t 154), none⟩,
    ⟨(some 156), .bin .neq (.t 150) (.t 155), none⟩])
  (.cond (.t 156)
   (.exit 6)
   (.skip))))
  (.region false [⟨(some 144), .mov (.t 16), none⟩,
    ⟨(some 145), .bin .add (.t 144) (.c (.int .i64 1)), none⟩,
    ⟨(some 16), .mov (.t 145), none⟩]))
def A_strings_IndexRuneL5 : ACode :=
  .seq (.seq (.region false [⟨(some 121), .mov (.t 9), none⟩,
    ⟨(some 122), .mov (.t 0), none⟩,
    ⟨(some 123), .lenS (.t 122), none⟩,
    ⟨(some 124), .bin .lss (.t 121) (.t 123), none⟩])
  (.cond (.t 124)
   (.skip)
   (.exit 5)))
  (.seq (.block 6 (.seq (.region false [⟨(some 127), .mov (.t 0), none⟩,
    ⟨(some 128), .mov (.t 9), none⟩,
    ⟨(some 129), .idxS (.t 127) (.t 128), none⟩,
    ⟨(some 130), .mov (.t 14), none⟩,
    ⟨(some 131), .bin .eql (.t 129) (.t 130), none⟩,
    ⟨(some 132), .mov (.t 131), none⟩,
    ⟨(some 133), .mov (.t 0), some (132, true)⟩,
    ⟨(some 134), .mov (.t 9), some (132, true)⟩,
    ⟨(some 135), .bin .sub (.t 134) (.c (.int .i64 1)), some (132, true)⟩,
    ⟨(some 136), .idxS (.t 133) (.t 135), some (132, true)⟩,
    ⟨(some 137), .mov (.t 15), some (132, true)⟩,
    ⟨(some 138), .bin .eql (.t 136) (.t 137), some (132, true)⟩,
    ⟨(some 139), .pick (.t 132) (.t 138) (.c (.bool false)), none⟩])
  (.cond (.t 139)
   (.seq (.seq (.region false [⟨(some 16), .mov (.c (.int .i64 2)), none⟩])
   (.block 7 (.loop A_strings_IndexRuneL6)))
   (.seq (.region false [⟨(some 157), .mov (.t 9), none⟩,
     ⟨(some 158), .mov (.t 8), none⟩,
     ⟨(some 159), .bin .sub (.t 157) (.t 158), none⟩,
     ⟨(some 4), .mov (.t 159), none⟩])
   (.ret)))
   (.skip))))
  (.region false [⟨(some 125), .mov (.t 9), none⟩,
    ⟨(some 126), .bin .add (.t 125) (.c (.int .i64 1)), none⟩,
    ⟨(some 9), .mov (.t 126), none⟩]))
def A_strings_IndexRuneJ1 : ACode :=
  .seq (.region false [⟨(some 17), .mov (.t 1), none⟩,
    ⟨(some 18), .r2s (.t 17), none⟩,
    ⟨(some 7), .mov (.t 18), none⟩])
  (.seq (.region false [⟨(some 19), .mov (.t 7), none⟩,
    ⟨(some 20), .lenS (.t 19), none⟩,
    ⟨(some 21), .bin .sub (.t 20) (.c (.int .i64 1)), none⟩,
    ⟨(some 8), .mov (.t 21), none⟩])
  (.seq (.region false [⟨(some 22), .mov (.t 8), none⟩,
    ⟨(some 9), .mov (.t 22), none⟩])
  (.seq (.region false [⟨(some 10), .mov (.c (.int .i64 0)), none⟩])
  (.seq (.block 1 (.loop A_strings_IndexRuneL2))
  (.seq (.seq (.region false [⟨(some 4), .mov (.c (.int .i64 (-1))), none⟩])
  (.ret))
  (.seq (.label 1)
  (.seq (.cond (.c (.bool true))
   (.seq (.bad)
   (.seq (.region false [⟨(some 107), .mov (.t 13), none⟩,
     ⟨(some 108), .bin .geq (.t 107) (.c (.int .i64 0)), none⟩])
   (.cond (.t 108)
    (.seq (.region false [⟨(some 109), .mov (.t 9), none⟩,
      ⟨(some 110), .mov (.t 13), none⟩,
      ⟨(some 111), .bin .add (.t 109) (.t 110), none⟩,
      ⟨(some 112), .mov (.t 8), none⟩,
      ⟨(some 113), .bin .sub (.t 111) (.t 112), none⟩,
      ⟨(some 4), .mov (.t 113), none⟩])
    (.ret))
    (.skip))))
   (.scope (.seq (.region false [⟨(some 114), .mov (.t 7), none⟩,
      ⟨(some 115), .mov (.t 8), none⟩,
      ⟨(some 116), .idxS (.t 114) (.t 115), none⟩,
      ⟨(some 14), .mov (.t 116), none⟩])
    (.seq (.region false [⟨(some 117), .mov (.t 7), none⟩,
      ⟨(some 118), .mov (.t 8), none⟩,
      ⟨(some 119), .bin .sub (.t 118) (.c (.int .i64 1)), none⟩,
      ⟨(some 120), .idxS (.t 117) (.t 119), none⟩,
      ⟨(some 15), .mov (.t 120), none⟩])
    (.seq (.label 2)
    (.block 5 (.loop A_strings_IndexRuneL5)))))))
  (.seq (.region false [⟨(some 4), .mov (.c (.int .i64 (-1))), none⟩])
  (.ret)))))))))
def A_strings_IndexRune : AFun := ⟨187,
  .seq (.region false [⟨(some 4), .mov (.c (.int .i64 0)), none⟩])
  (.block 0 (.seq (.region false [⟨(some 161), .mov (.t 1), none⟩,
    ⟨(some 162), .bin .leq (.c (.int .i32 0)) (.t 161), none⟩,
    ⟨(some 163), .mov (.t 162), none⟩,
    ⟨(some 164), .mov (.t 1), some (163, true)⟩,
    ⟨(some 165), .bin .lss (.t 164) (.c (.int .i32 128)), some (163, true)⟩,
    ⟨(some 166), .pick (.t 163) (.t 165) (.c (.bool false)), none⟩,
    ⟨(some 160), .mov (.t 166), none⟩])
  (.cond (.t 160)
   (.seq (.region false [⟨(some 167), .mov (.t 0), none⟩,
     ⟨(some 168), .mov (.t 1), none⟩,
     ⟨(some 169), .conv .u8 (.t 168), none⟩,
     ⟨(some 170), .call F_strings_IndexByte [(.t 167), (.t 169)], none⟩,
     ⟨(some 4), .mov (.t 170), none⟩])
   (.ret))
   (.seq (.region false [⟨(some 172), .mov (.t 1), none⟩,
     ⟨(some 173), .bin .eql (.t 172) (.c (.int .i32 65533)), none⟩,
     ⟨(some 171), .mov (.t 173), none⟩])
   (.cond (.t 171)
    (.seq (.seq (.bad)
    (.block 9 (.loop A_strings_IndexRuneL0)))
    (.seq (.region false [⟨(some 4), .mov (.c (.int .i64 (-1))), none⟩])
    (.ret)))
    (.seq (.region false [⟨(some 184), .mov (.t 1), none⟩,
      ⟨(some 185), .call F_utf8_ValidRune [(.t 184)], none⟩,
      ⟨(some 186), .not (.t 185), none⟩,
      ⟨(some 183), .mov (.t 186), none⟩])
    (.cond (.t 183)
     (.seq (.region false [⟨(some 4), .mov (.c (.int .i64 (-1))), none⟩])
     (.ret))
     (.scopeJ A_strings_IndexRuneJ1)))))))),
  [.tmp 4]⟩

/- utf8_RuneStart -/
def A_utf8_RuneStart : AFun := ⟨6,
  .seq (.region false [⟨(some 2), .mov (.c (.bool false)), none⟩])
  (.seq (.region false [⟨(some 3), .mov (.t 0), none⟩,
    ⟨(some 4), .bin .and (.t 3) (.c (.int .u8 192)), none⟩,
    ⟨(some 5), .bin .neq (.t 4) (.c (.int .u8 128)), none⟩,
    ⟨(some 2), .mov (.t 5), none⟩])
  (.ret)),
  [.tmp 2]⟩

/- utf8_ValidRune -/
def A_utf8_ValidRune : AFun := ⟨17,
  .seq (.region false [⟨(some 2), .mov (.c (.bool false)), none⟩])
  (.seq (.block 0 (.seq (.region false [⟨(some 4), .mov (.t 0), none⟩,
    ⟨(some 5), .bin .leq (.c (.int .i32 0)) (.t 4), none⟩,
    ⟨(some 6), .mov (.t 5), none⟩,
    ⟨(some 7), .mov (.t 0), some (6, true)⟩,
    ⟨(some 8), .bin .lss (.t 7) (.c (.int .i32 55296)), some (6, true)⟩,
    ⟨(some 9), .pick (.t 6) (.t 8) (.c (.bool false)), none⟩,
    ⟨(some 3), .mov (.t 9), none⟩])
  (.cond (.t 3)
   (.seq (.region false [⟨(some 2), .mov (.c (.bool true)), none⟩])
   (.ret))
   (.seq (.region false [⟨(some 11), .mov (.t 0), none⟩,
     ⟨(some 12), .bin .lss (.c (.int .i32 57343)) (.t 11), none⟩,
     ⟨(some 13), .mov (.t 12), none⟩,
     ⟨(some 14), .mov (.t 0), some (13, true)⟩,
     ⟨(some 15), .bin .leq (.t 14) (.c (.int .i32 1114111)), some (13, true)⟩,
     ⟨(some 16), .pick (.t 13) (.t 15) (.c (.bool false)), none⟩,
     ⟨(some 10), .mov (.t 16), none⟩])
   (.cond (.t 10)
    (.seq (.region false [⟨(some 2), .mov (.c (.bool true)), none⟩])
    (.ret))
    (.skip))))))
  (.seq (.region false [⟨(some 2), .mov (.c (.bool false)), none⟩])
  (.ret))),
  [.tmp 2]⟩

section
variable {X : Cx} (hX : X.P = Go.Proofs.Tryz.prog)
include hX
theorem A_law01_WordsLists_ok : compileFun X.P F_law01_WordsLists (fun _ => false) = some A_law01_WordsLists := by rw [hX]; kernel_rfl
theorem A_law01_WordsKnown_ok : compileFun X.P F_law01_WordsKnown (fun _ => false) = some A_law01_WordsKnown := by rw [hX]; kernel_rfl
theorem A_law01_WordsInverse_ok : compileFun X.P F_law01_WordsInverse (fun _ => false) = some A_law01_WordsInverse := by rw [hX]; kernel_rfl
theorem A_law01_shown_ok : compileFun X.P F_law01_shown (fun _ => false) = some A_law01_shown := by rw [hX]; kernel_rfl
theorem A_words_List_ok : compileFun X.P F_words_List (fun _ => false) = some A_words_List := by rw [hX]; kernel_rfl
theorem A_ref01_List_ok : compileFun X.P F_ref01_List (fun _ => false) = some A_ref01_List := by rw [hX]; kernel_rfl
theorem A_words_ParseList_ok : compileFun X.P F_words_ParseList (fun _ => false) = some A_words_ParseList := by rw [hX]; kernel_rfl
theorem A_ref01_ParseList_ok : compileFun X.P F_ref01_ParseList (fun _ => false) = some A_ref01_ParseList := by rw [hX]; kernel_rfl
theorem A_law01_lists_ok : compileFun X.P F_law01_lists (fun _ => false) = some A_law01_lists := by rw [hX]; kernel_rfl
theorem A_words_Int_ok : compileFun X.P F_words_Int (fun _ => false) = some A_words_Int := by rw [hX]; kernel_rfl
theorem A_words_Unquote_ok : compileFun X.P F_words_Unquote (fun _ => false) = some A_words_Unquote := by rw [hX]; kernel_rfl
theorem A_words_Split_ok : compileFun X.P F_words_Split (fun _ => false) = some A_words_Split := by rw [hX]; kernel_rfl
theorem A_words_Name_ok : compileFun X.P F_words_Name (fun _ => false) = some A_words_Name := by rw [hX]; kernel_rfl
theorem A_law01_far_ok : compileFun X.P F_law01_far (fun _ => false) = some A_law01_far := by rw [hX]; kernel_rfl
theorem A_words_Join_ok : compileFun X.P F_words_Join (fun _ => false) = some A_words_Join := by rw [hX]; kernel_rfl
theorem A_ref01_Same_ok : compileFun X.P F_ref01_Same (fun _ => false) = some A_ref01_Same := by rw [hX]; kernel_rfl
theorem A_words_Quote_ok : compileFun X.P F_words_Quote (fun _ => false) = some A_words_Quote := by rw [hX]; kernel_rfl
theorem A_words_Digits_ok : compileFun X.P F_words_Digits (fun _ => false) = some A_words_Digits := by rw [hX]; kernel_rfl
theorem A_ref01_Digits_ok : compileFun X.P F_ref01_Digits (fun _ => false) = some A_ref01_Digits := by rw [hX]; kernel_rfl
theorem A_strings_Split_ok : compileFun X.P F_strings_Split (fun _ => false) = some A_strings_Split := by rw [hX]; kernel_rfl
theorem A_strings_Cut_ok : compileFun X.P F_strings_Cut (fun _ => false) = some A_strings_Cut := by rw [hX]; kernel_rfl
theorem A_words_isDecimal_ok : compileFun X.P F_words_isDecimal (fun _ => false) = some A_words_isDecimal := by rw [hX]; kernel_rfl
theorem A_words_compare_ok : compileFun X.P F_words_compare (fun _ => false) = some A_words_compare := by rw [hX]; kernel_rfl
theorem A_words_follows_ok : compileFun X.P F_words_follows (fun _ => false) = some A_words_follows := by rw [hX]; kernel_rfl
theorem A_ref01_parts_ok : compileFun X.P F_ref01_parts (fun _ => false) = some A_ref01_parts := by rw [hX]; kernel_rfl
theorem A_ref01_decimal_ok : compileFun X.P F_ref01_decimal (fun _ => false) = some A_ref01_decimal := by rw [hX]; kernel_rfl
theorem A_ref01_less_ok : compileFun X.P F_ref01_less (fun _ => false) = some A_ref01_less := by rw [hX]; kernel_rfl
theorem A_ref01_next_ok : compileFun X.P F_ref01_next (fun _ => false) = some A_ref01_next := by rw [hX]; kernel_rfl
theorem A_ref01_Int_ok : compileFun X.P F_ref01_Int (fun _ => false) = some A_ref01_Int := by rw [hX]; kernel_rfl
theorem A_words_unquote_ok : compileFun X.P F_words_unquote (fun _ => false) = some A_words_unquote := by rw [hX]; kernel_rfl
theorem A_words_fields_ok : compileFun X.P F_words_fields (fun _ => false) = some A_words_fields := by rw [hX]; kernel_rfl
theorem A_strings_Trim_ok : compileFun X.P F_strings_Trim (fun _ => false) = some A_strings_Trim := by rw [hX]; kernel_rfl
theorem A_words_isBare_ok : compileFun X.P F_words_isBare (fun _ => false) = some A_words_isBare := by rw [hX]; kernel_rfl
theorem A_words_letterOf_ok : compileFun X.P F_words_letterOf (fun _ => false) = some A_words_letterOf := by rw [hX]; kernel_rfl
theorem A_words_isPlain_ok : compileFun X.P F_words_isPlain (fun _ => false) = some A_words_isPlain := by rw [hX]; kernel_rfl
theorem A_strings_genSplit_ok : compileFun X.P F_strings_genSplit (fun _ => false) = some A_strings_genSplit := by rw [hX]; kernel_rfl
theorem A_stringslite_Cut_ok : compileFun X.P F_stringslite_Cut (fun _ => false) = some A_stringslite_Cut := by rw [hX]; kernel_rfl
theorem A_strings_TrimPrefix_ok : compileFun X.P F_strings_TrimPrefix (fun _ => false) = some A_strings_TrimPrefix := by rw [hX]; kernel_rfl
theorem A_strings_LastIndexFunc_ok : compileFun X.P F_strings_LastIndexFunc (fun _ => false) = some A_strings_LastIndexFunc := by rw [hX]; kernel_rfl
theorem A_words_follows_1_ok : compileFun X.P F_words_follows_1 (fun _ => false) = some A_words_follows_1 := by rw [hX]; kernel_rfl
theorem A_ref01_digit_ok : compileFun X.P F_ref01_digit (fun _ => false) = some A_ref01_digit := by rw [hX]; kernel_rfl
theorem A_words_unescape_ok : compileFun X.P F_words_unescape (fun _ => false) = some A_words_unescape := by rw [hX]; kernel_rfl
theorem A_words_fields_1_ok : compileFun X.P F_words_fields_1 (fun _ => false) = some A_words_fields_1 := by rw [hX]; kernel_rfl
theorem A_strings_trimLeftByte_ok : compileFun X.P F_strings_trimLeftByte (fun _ => false) = some A_strings_trimLeftByte := by rw [hX]; kernel_rfl
theorem A_strings_trimRightByte_ok : compileFun X.P F_strings_trimRightByte (fun _ => false) = some A_strings_trimRightByte := by rw [hX]; kernel_rfl
theorem A_strings_makeASCIISet_ok : compileFun X.P F_strings_makeASCIISet (fun _ => false) = some A_strings_makeASCIISet := by rw [hX]; kernel_rfl
theorem A_strings_trimLeftASCII_ok : compileFun X.P F_strings_trimLeftASCII (fun _ => false) = some A_strings_trimLeftASCII := by rw [hX]; kernel_rfl
theorem A_strings_trimRightASCII_ok : compileFun X.P F_strings_trimRightASCII (fun _ => false) = some A_strings_trimRightASCII := by rw [hX]; kernel_rfl
theorem A_strings_trimLeftUnicode_ok : compileFun X.P F_strings_trimLeftUnicode (fun _ => false) = some A_strings_trimLeftUnicode := by rw [hX]; kernel_rfl
theorem A_strings_trimRightUnicode_ok : compileFun X.P F_strings_trimRightUnicode (fun _ => false) = some A_strings_trimRightUnicode := by rw [hX]; kernel_rfl
theorem A_strings_Index_ok : compileFun X.P F_strings_Index (fun _ => false) = some A_strings_Index := by rw [hX]; kernel_rfl
theorem A_stringslite_TrimPrefix_ok : compileFun X.P F_stringslite_TrimPrefix (fun _ => false) = some A_stringslite_TrimPrefix := by rw [hX]; kernel_rfl
theorem A_strings_lastIndexFunc_ok : compileFun X.P F_strings_lastIndexFunc (fun _ => false) = some A_strings_lastIndexFunc := by rw [hX]; kernel_rfl
theorem A_strings_IndexByte_ok : compileFun X.P F_strings_IndexByte (fun _ => false) = some A_strings_IndexByte := by rw [hX]; kernel_rfl
theorem A_strings_asciiSet_contains_ok : compileFun X.P F_strings_asciiSet_contains (fun _ => false) = some A_strings_asciiSet_contains := by rw [hX]; kernel_rfl
theorem A_utf8_DecodeRuneInString_ok : compileFun X.P F_utf8_DecodeRuneInString (fun _ => false) = some A_utf8_DecodeRuneInString := by rw [hX]; kernel_rfl
theorem A_strings_ContainsRune_ok : compileFun X.P F_strings_ContainsRune (fun _ => false) = some A_strings_ContainsRune := by rw [hX]; kernel_rfl
theorem A_utf8_DecodeLastRuneInString_ok : compileFun X.P F_utf8_DecodeLastRuneInString (fun _ => false) = some A_utf8_DecodeLastRuneInString := by rw [hX]; kernel_rfl
theorem A_bytealg_Cutover_ok : compileFun X.P F_bytealg_Cutover (fun _ => false) = some A_bytealg_Cutover := by rw [hX]; kernel_rfl
theorem A_stringslite_HasPrefix_ok : compileFun X.P F_stringslite_HasPrefix (fun _ => false) = some A_stringslite_HasPrefix := by rw [hX]; kernel_rfl
theorem A_utf8_decodeRuneInStringSlow_ok : compileFun X.P F_utf8_decodeRuneInStringSlow (fun _ => false) = some A_utf8_decodeRuneInStringSlow := by rw [hX]; kernel_rfl
theorem A_strings_IndexRune_ok : compileFun X.P F_strings_IndexRune (fun _ => false) = some A_strings_IndexRune := by rw [hX]; kernel_rfl
theorem A_utf8_RuneStart_ok : compileFun X.P F_utf8_RuneStart (fun _ => false) = some A_utf8_RuneStart := by rw [hX]; kernel_rfl
theorem A_utf8_ValidRune_ok : compileFun X.P F_utf8_ValidRune (fun _ => false) = some A_utf8_ValidRune := by rw [hX]; kernel_rfl
end
end Go.Avm
