/- The functions as they have been read. -/
import Derived.Test.YtcldomkahgaplaaGreatDoorAG2
import Derived.Test.YtcldomkahgaplaaGreatDoorProg
set_option linter.unusedSectionVars false
set_option linter.unusedSimpArgs false
set_option linter.unusedVariables false

/- The functions as they have been read. -/
namespace Go.Avm
open Go
/- strings_genSplit -/
def A_strings_genSplitL0 : ACode :=
  .seq (.seq (.region false [⟨(some 34), .mov (.t 10), none⟩,
    ⟨(some 35), .mov (.t 3), none⟩,
    ⟨(some 36), .bin .lss (.t 34) (.t 35), none⟩])
  (.cond (.t 36)
   (.skip)
   (.exit 0)))
  (.block 1 (.seq (.region false [⟨(some 37), .mov (.t 0), none⟩,
    ⟨(some 38), .mov (.t 1), none⟩,
    ⟨(some 39), .call F_strings_Index [(.t 37), (.t 38)], none⟩,
    ⟨(some 11), .mov (.t 39), none⟩])
  (.seq (.seq (.region false [⟨(some 40), .mov (.t 11), none⟩,
    ⟨(some 41), .bin .lss (.t 40) (.c (.int .i64 0)), none⟩])
  (.cond (.t 41)
   (.exit 0)
   (.skip)))
  (.seq (.region false [⟨(some 42), .mov (.t 9), none⟩,
    ⟨(some 43), .mov (.t 10), none⟩,
    ⟨(some 44), .mov (.t 0), none⟩,
    ⟨(some 45), .mov (.t 11), none⟩,
    ⟨(some 46), .mov (.t 2), none⟩,
    ⟨(some 47), .bin .add (.t 45) (.t 46), none⟩,
    ⟨(some 48), .ssl (.t 44) none (some (.t 47)), none⟩,
    ⟨(some 49), .idxA 1 (.t 42) (.t 43), none⟩,
    ⟨none, .st 1 (.t 49) (.t 48), none⟩])
  (.seq (.region false [⟨(some 50), .mov (.t 0), none⟩,
    ⟨(some 51), .mov (.t 11), none⟩,
    ⟨(some 52), .mov (.t 1), none⟩,
    ⟨(some 53), .lenS (.t 52), none⟩,
    ⟨(some 54), .bin .add (.t 51) (.t 53), none⟩,
    ⟨(some 55), .ssl (.t 50) (some (.t 54)) none, none⟩,
    ⟨(some 0), .mov (.t 55), none⟩])
  (.region false [⟨(some 56), .mov (.t 10), none⟩,
    ⟨(some 57), .bin .add (.t 56) (.c (.int .i64 1)), none⟩,
    ⟨(some 10), .mov (.t 57), none⟩]))))))
def A_strings_genSplit : AFun := ⟨66,
  .seq (.region false [⟨(some 8), .mov (.c (.sl .ex [])), none⟩])
  (.seq (.seq (.region false [⟨(some 12), .mov (.t 3), none⟩,
    ⟨(some 13), .bin .eql (.t 12) (.c (.int .i64 0)), none⟩])
  (.cond (.t 13)
   (.seq (.region false [⟨(some 8), .mov (.c (.sl .ex [])), none⟩])
   (.ret))
   (.skip)))
  (.seq (.seq (.region false [⟨(some 14), .mov (.t 1), none⟩,
    ⟨(some 15), .bin .eql (.t 14) (.c (.str [])), none⟩])
  (.cond (.t 15)
   (.seq (.region false [⟨(some 16), .mov (.t 0), none⟩,
     ⟨(some 17), .mov (.t 3), none⟩,
     ⟨(some 18), .call F_strings_explode [(.t 16), (.t 17)], none⟩,
     ⟨(some 8), .mov (.t 18), none⟩])
   (.ret))
   (.skip)))
  (.seq (.seq (.region false [⟨(some 19), .mov (.t 3), none⟩,
    ⟨(some 20), .bin .lss (.t 19) (.c (.int .i64 0)), none⟩])
  (.cond (.t 20)
   (.region false [⟨(some 21), .mov (.t 0), none⟩,
     ⟨(some 22), .mov (.t 1), none⟩,
     ⟨(some 23), .call F_strings_Count [(.t 21), (.t 22)], none⟩,
     ⟨(some 24), .bin .add (.t 23) (.c (.int .i64 1)), none⟩,
     ⟨(some 3), .mov (.t 24), none⟩])
   (.skip)))
  (.seq (.region false [⟨(some 25), .mov (.t 3), none⟩,
    ⟨(some 26), .mov (.t 0), none⟩,
    ⟨(some 27), .lenS (.t 26), none⟩,
    ⟨(some 28), .bin .add (.t 27) (.c (.int .i64 1)), none⟩,
    ⟨(some 29), .mm false (.t 25) (.t 28), none⟩,
    ⟨(some 3), .mov (.t 29), none⟩])
  (.seq (.region false [⟨(some 30), .mov (.t 3), none⟩,
    ⟨(some 31), .mkR 1 16 [.str []] (.t 30) (.t 30), none⟩,
    ⟨(some 9), .mov (.t 31), none⟩])
  (.seq (.region false [⟨(some 32), .mov (.t 3), none⟩,
    ⟨(some 33), .bin .sub (.t 32) (.c (.int .i64 1)), none⟩,
    ⟨(some 3), .mov (.t 33), none⟩])
  (.seq (.region false [⟨(some 10), .mov (.c (.int .i64 0)), none⟩])
  (.seq (.block 0 (.loop A_strings_genSplitL0))
  (.seq (.region false [⟨(some 58), .mov (.t 9), none⟩,
    ⟨(some 59), .mov (.t 10), none⟩,
    ⟨(some 60), .mov (.t 0), none⟩,
    ⟨(some 61), .idxA 1 (.t 58) (.t 59), none⟩,
    ⟨none, .st 1 (.t 61) (.t 60), none⟩])
  (.seq (.region false [⟨(some 62), .mov (.t 9), none⟩,
    ⟨(some 63), .mov (.t 10), none⟩,
    ⟨(some 64), .bin .add (.t 63) (.c (.int .i64 1)), none⟩,
    ⟨(some 65), .sls 1 (.t 62) none (some (.t 64)) none, none⟩,
    ⟨(some 8), .mov (.t 65), none⟩])
  (.ret))))))))))),
  [.tmp 8]⟩

/- words_isDecimal -/
def A_words_isDecimal : AFun := ⟨20,
  .seq (.region false [⟨(some 2), .mov (.c (.bool false)), none⟩])
  (.seq (.region false [⟨(some 4), .mov (.t 0), none⟩,
    ⟨(some 5), .call F_strings_TrimPrefix [(.t 4), (.c (.str [45]))], none⟩,
    ⟨(some 3), .mov (.t 5), none⟩])
  (.seq (.seq (.region false [⟨(some 6), .mov (.t 3), none⟩,
    ⟨(some 7), .bin .eql (.t 6) (.c (.str [])), none⟩,
    ⟨(some 8), .mov (.t 7), none⟩,
    ⟨(some 9), .mov (.t 3), some (8, false)⟩,
    ⟨(some 10), .call F_strings_Trim [(.t 9), (.c (.str [48, 49, 50, 51, 52, 53, 54, 55, 56, 57]))], some (8, false)⟩,
    ⟨(some 11), .bin .neq (.t 10) (.c (.str [])), some (8, false)⟩,
    ⟨(some 12), .pick (.t 8) (.c (.bool true)) (.t 11), none⟩])
  (.cond (.t 12)
   (.seq (.region false [⟨(some 2), .mov (.c (.bool false)), none⟩])
   (.ret))
   (.skip)))
  (.seq (.region false [⟨(some 13), .mov (.t 3), none⟩,
    ⟨(some 14), .idxS (.t 13) (.c (.int .i64 0)), none⟩,
    ⟨(some 15), .bin .neq (.t 14) (.c (.int .u8 48)), none⟩,
    ⟨(some 16), .mov (.t 15), none⟩,
    ⟨(some 17), .mov (.t 0), some (16, false)⟩,
    ⟨(some 18), .bin .eql (.t 17) (.c (.str [48])), some (16, false)⟩,
    ⟨(some 19), .pick (.t 16) (.c (.bool true)) (.t 18), none⟩,
    ⟨(some 2), .mov (.t 19), none⟩])
  (.ret)))),
  [.tmp 2]⟩

/- strconv_ParseInt -/
/- words_Name -/
def A_words_Name : AFun := ⟨23,
  .seq (.region false [⟨(some 2), .mov (.c (.bool false)), none⟩])
  (.seq (.seq (.region false [⟨(some 3), .mov (.t 0), none⟩,
    ⟨(some 4), .bin .eql (.t 3) (.c (.str [])), none⟩,
    ⟨(some 5), .mov (.t 4), none⟩,
    ⟨(some 6), .mov (.t 0), some (5, false)⟩,
    ⟨(some 7), .lenS (.t 6), some (5, false)⟩,
    ⟨(some 8), .bin .gtr (.t 7) (.c (.int .i64 16)), some (5, false)⟩,
    ⟨(some 9), .pick (.t 5) (.c (.bool true)) (.t 8), none⟩,
    ⟨(some 10), .mov (.t 9), none⟩,
    ⟨(some 11), .mov (.t 0), some (10, false)⟩,
    ⟨(some 12), .idxS (.t 11) (.c (.int .i64 0)), some (10, false)⟩,
    ⟨(some 13), .bin .lss (.t 12) (.c (.int .u8 97)), some (10, false)⟩,
    ⟨(some 14), .pick (.t 10) (.c (.bool true)) (.t 13), none⟩,
    ⟨(some 15), .mov (.t 14), none⟩,
    ⟨(some 16), .mov (.t 0), some (15, false)⟩,
    ⟨(some 17), .idxS (.t 16) (.c (.int .i64 0)), some (15, false)⟩,
    ⟨(some 18), .bin .gtr (.t 17) (.c (.int .u8 122)), some (15, false)⟩,
    ⟨(some 19), .pick (.t 15) (.c (.bool true)) (.t 18), none⟩])
  (.cond (.t 19)
   (.seq (.region false [⟨(some 2), .mov (.c (.bool false)), none⟩])
   (.ret))
   (.skip)))
  (.seq (.region false [⟨(some 20), .mov (.t 0), none⟩,
    ⟨(some 21), .call F_strings_Trim [(.t 20), (.c (.str [97, 98, 99, 100, 101, 102, 103, 104, 105, 106, 107, 108, 109, 110, 111, 112, 113, 114, 115, 116, 117, 118, 119, 120, 121, 122, 48, 49, 50, 51, 52, 53, 54, 55, 56, 57, 45]))], none⟩,
    ⟨(some 22), .bin .eql (.t 21) (.c (.str [])), none⟩,
    ⟨(some 2), .mov (.t 22), none⟩])
  (.ret))),
  [.tmp 2]⟩

/- stringslite_HasPrefix -/
def A_stringslite_HasPrefix : AFun := ⟨18,
  .seq (.region false [⟨(some 4), .mov (.c (.bool false)), none⟩])
  (.seq (.region false [⟨(some 5), .mov (.t 0), none⟩,
    ⟨(some 6), .lenS (.t 5), none⟩,
    ⟨(some 7), .mov (.t 1), none⟩,
    ⟨(some 8), .lenS (.t 7), none⟩,
    ⟨(some 9), .bin .geq (.t 6) (.t 8), none⟩,
    ⟨(some 10), .mov (.t 9), none⟩,
    ⟨(some 11), .mov (.t 0), some (10, true)⟩,
    ⟨(some 12), .mov (.t 1), some (10, true)⟩,
    ⟨(some 13), .lenS (.t 12), some (10, true)⟩,
    ⟨(some 14), .ssl (.t 11) none (some (.t 13)), some (10, true)⟩,
    ⟨(some 15), .mov (.t 1), some (10, true)⟩,
    ⟨(some 16), .bin .eql (.t 14) (.t 15), some (10, true)⟩,
    ⟨(some 17), .pick (.t 10) (.t 16) (.c (.bool false)), none⟩,
    ⟨(some 4), .mov (.t 17), none⟩])
  (.ret)),
  [.tmp 4]⟩

/- ref05_Check -/
/- ref05_Many -/
/- ref01_Digits -/
/- strconv_FormatInt_124 -/
/- slices_Chunk_int64_int64_1 -/
def A_slices_Chunk_int64_int64_1L0 : ACode :=
  .seq (.seq (.region false [⟨(some 6), .mov (.t 4), none⟩,
    ⟨(some 7), .ld none (.t 1), none⟩,
    ⟨(some 8), .len (.t 7), none⟩,
    ⟨(some 9), .bin .lss (.t 6) (.t 8), none⟩])
  (.cond (.t 9)
   (.skip)
   (.exit 0)))
  (.seq (.block 1 (.seq (.region true [⟨(some 13), .ld none (.t 2), none⟩,
    ⟨(some 14), .ld none (.t 1), none⟩,
    ⟨(some 15), .mov (.t 4), none⟩,
    ⟨(some 16), .sls 1 (.t 14) (some (.t 15)) none none, none⟩,
    ⟨(some 17), .len (.t 16), none⟩,
    ⟨(some 18), .mm false (.t 13) (.t 17), none⟩,
    ⟨(some 5), .mov (.t 18), none⟩])
  (.seq (.region false [⟨(some 19), .mov (.t 0), none⟩,
    ⟨(some 20), .ld none (.t 1), none⟩,
    ⟨(some 21), .mov (.t 4), none⟩,
    ⟨(some 22), .mov (.t 4), none⟩,
    ⟨(some 23), .mov (.t 5), none⟩,
    ⟨(some 24), .bin .add (.t 22) (.t 23), none⟩,
    ⟨(some 25), .mov (.t 4), none⟩,
    ⟨(some 26), .mov (.t 5), none⟩,
    ⟨(some 27), .bin .add (.t 25) (.t 26), none⟩,
    ⟨(some 28), .sls 1 (.t 20) (some (.t 21)) (some (.t 24)) (some (.t 27)), none⟩,
    ⟨(some 29), .callv (.t 19) [(.t 28)], none⟩,
    ⟨(some 30), .not (.t 29), none⟩])
  (.cond (.t 30)
   (.ret)
   (.skip)))))
  (.region false [⟨(some 10), .mov (.t 4), none⟩,
    ⟨(some 11), .ld none (.t 2), none⟩,
    ⟨(some 12), .bin .add (.t 10) (.t 11), none⟩,
    ⟨(some 4), .mov (.t 12), none⟩]))
def A_slices_Chunk_int64_int64_1 : AFun := ⟨31,
  .seq (.region false [⟨(some 4), .mov (.c (.int .i64 0)), none⟩])
  (.block 0 (.loop A_slices_Chunk_int64_int64_1L0)),
  []⟩

/- runes_Bytes_1 -/
/- utf8_AppendRune -/
/- lexer_quoted -/
/- ref14_runes -/
/- ref14_quoted -/
/- ref02_Encode -/
/- lexer_reader_mark -/
/- lexer_reader_class -/
/- lexer_reader_word -/
/- lexer_reader_number -/
/- lexer_reader_text -/
/- runes_Check -/
/- runes_all -/
/- ref01_decimal -/
/- ref14_token -/
/- ref02_Check -/
/- ref02_Decode -/
/- ref01_lower -/
/- ref01_digit -/
/- slices_ContainsFunc_int_int -/
def A_slices_ContainsFunc_int_int : AFun := ⟨9,
  .seq (.region false [⟨(some 4), .mov (.c (.bool false)), none⟩])
  (.seq (.region false [⟨(some 5), .mov (.t 0), none⟩,
    ⟨(some 6), .mov (.t 1), none⟩,
    ⟨(some 7), .call F_slices_IndexFunc_int_int [(.t 5), (.t 6)], none⟩,
    ⟨(some 8), .bin .geq (.t 7) (.c (.int .i64 0)), none⟩,
    ⟨(some 4), .mov (.t 8), none⟩])
  (.ret)),
  [.tmp 4]⟩

/- shapes_Check_1 -/
def A_shapes_Check_1 : AFun := ⟨5,
  .seq (.region false [⟨(some 2), .mov (.c (.bool false)), none⟩])
  (.seq (.region false [⟨(some 3), .mov (.t 0), none⟩,
    ⟨(some 4), .bin .lss (.t 3) (.c (.int .i64 0)), none⟩,
    ⟨(some 2), .mov (.t 4), none⟩])
  (.ret)),
  [.tmp 2]⟩

/- shapes_Check_2 -/
def A_shapes_Check_2 : AFun := ⟨5,
  .seq (.region false [⟨(some 2), .mov (.c (.bool false)), none⟩])
  (.seq (.region false [⟨(some 3), .mov (.t 0), none⟩,
    ⟨(some 4), .bin .neq (.t 3) (.c (.int .i64 0)), none⟩,
    ⟨(some 2), .mov (.t 4), none⟩])
  (.ret)),
  [.tmp 2]⟩

/- shapes_Check_3 -/
def A_shapes_Check_3 : AFun := ⟨5,
  .seq (.region false [⟨(some 2), .mov (.c (.bool false)), none⟩])
  (.seq (.region false [⟨(some 3), .mov (.t 0), none⟩,
    ⟨(some 4), .bin .gtr (.t 3) (.c (.int .i64 400)), none⟩,
    ⟨(some 2), .mov (.t 4), none⟩])
  (.ret)),
  [.tmp 2]⟩

/- strings_Index -/
def A_strings_Index : AFun := ⟨8,
  .seq (.region false [⟨(some 4), .mov (.c (.int .i64 0)), none⟩])
  (.seq (.region false [⟨(some 5), .mov (.t 0), none⟩,
    ⟨(some 6), .mov (.t 1), none⟩,
    ⟨(some 7), .call F_stringslite_Index [(.t 5), (.t 6)], none⟩,
    ⟨(some 4), .mov (.t 7), none⟩])
  (.ret)),
  [.tmp 4]⟩

/- strings_TrimPrefix -/
def A_strings_TrimPrefix : AFun := ⟨8,
  .seq (.region false [⟨(some 4), .mov (.c (.str [])), none⟩])
  (.seq (.region false [⟨(some 5), .mov (.t 0), none⟩,
    ⟨(some 6), .mov (.t 1), none⟩,
    ⟨(some 7), .call F_stringslite_TrimPrefix [(.t 5), (.t 6)], none⟩,
    ⟨(some 4), .mov (.t 7), none⟩])
  (.ret)),
  [.tmp 4]⟩

/- strings_Trim -/
def A_strings_Trim : AFun := ⟨43,
  .seq (.region false [⟨(some 4), .mov (.c (.str [])), none⟩])
  (.seq (.seq (.region false [⟨(some 7), .mov (.t 0), none⟩,
    ⟨(some 8), .bin .eql (.t 7) (.c (.str [])), none⟩,
    ⟨(some 9), .mov (.t 8), none⟩,
    ⟨(some 10), .mov (.t 1), some (9, false)⟩,
    ⟨(some 11), .bin .eql (.t 10) (.c (.str [])), some (9, false)⟩,
    ⟨(some 12), .pick (.t 9) (.c (.bool true)) (.t 11), none⟩])
  (.cond (.t 12)
   (.seq (.region false [⟨(some 13), .mov (.t 0), none⟩,
     ⟨(some 4), .mov (.t 13), none⟩])
   (.ret))
   (.skip)))
  (.seq (.seq (.region false [⟨(some 14), .mov (.t 1), none⟩,
    ⟨(some 15), .lenS (.t 14), none⟩,
    ⟨(some 16), .bin .eql (.t 15) (.c (.int .i64 1)), none⟩,
    ⟨(some 17), .mov (.t 16), none⟩,
    ⟨(some 18), .mov (.t 1), some (17, true)⟩,
    ⟨(some 19), .idxS (.t 18) (.c (.int .i64 0)), some (17, true)⟩,
    ⟨(some 20), .bin .lss (.t 19) (.c (.int .u8 128)), some (17, true)⟩,
    ⟨(some 21), .pick (.t 17) (.t 20) (.c (.bool false)), none⟩])
  (.cond (.t 21)
   (.seq (.region true [⟨(some 22), .mov (.t 0), none⟩,
     ⟨(some 23), .mov (.t 1), none⟩,
     ⟨(some 24), .idxS (.t 23) (.c (.int .i64 0)), none⟩,
     ⟨(some 25), .call F_strings_trimRightByte [(.t 22), (.t 24)], none⟩,
     ⟨(some 26), .mov (.t 1), none⟩,
     ⟨(some 27), .idxS (.t 26) (.c (.int .i64 0)), none⟩,
     ⟨(some 28), .call F_strings_trimLeftByte [(.t 25), (.t 27)], none⟩,
     ⟨(some 4), .mov (.t 28), none⟩])
   (.ret))
   (.skip)))
  (.seq (.seq (.region false [⟨(some 30), .mov (.t 1), none⟩,
    ⟨(some 31), .call F_strings_makeASCIISet [(.t 30)], none⟩,
    ⟨(some 29), .mov (.t 31), none⟩,
    ⟨(some 32), .extr (.t 29) 0, none⟩,
    ⟨(some 33), .extr (.t 29) 1, none⟩,
    ⟨(some 5), .alloc (List.replicate 256 (.bool false)), none⟩,
    ⟨none, .st 256 (.t 5) (.t 32), none⟩,
    ⟨(some 6), .mov (.t 33), none⟩])
  (.seq (.region false [⟨(some 34), .mov (.t 6), none⟩])
  (.cond (.t 34)
   (.seq (.region false [⟨(some 35), .mov (.t 0), none⟩,
     ⟨(some 36), .call F_strings_trimRightASCII [(.t 35), (.t 5)], none⟩,
     ⟨(some 37), .call F_strings_trimLeftASCII [(.t 36), (.t 5)], none⟩,
     ⟨(some 4), .mov (.t 37), none⟩])
   (.ret))
   (.skip))))
  (.seq (.region false [⟨(some 38), .mov (.t 0), none⟩,
    ⟨(some 39), .mov (.t 1), none⟩,
    ⟨(some 40), .call F_strings_trimRightUnicode [(.t 38), (.t 39)], none⟩,
    ⟨(some 41), .mov (.t 1), none⟩,
    ⟨(some 42), .call F_strings_trimLeftUnicode [(.t 40), (.t 41)], none⟩,
    ⟨(some 4), .mov (.t 42), none⟩])
  (.ret))))),
  [.tmp 4]⟩

/- strconv_ParseInt_156 -/
/- strconv_toError -/
/- strconv_small -/
/- strconv_numDigits -/
/- strconv_formatBase10 -/
/- strconv_formatBits -/
/- utf8_appendRuneNonASCII -/
/- ref14_code -/
/- lexer_written -/
/- runes_Class -/
/- lexer_reader_while -/
/- lexer_escape -/
/- runes_Decode -/
section
variable {X : Cx} (hX : X.P = Go.Proofs.Tryz.prog)
include hX
theorem A_strings_genSplit_ok : compileFun X.P F_strings_genSplit (fun _ => false) = some A_strings_genSplit := by rw [hX]; kernel_rfl
theorem A_words_isDecimal_ok : compileFun X.P F_words_isDecimal (fun _ => false) = some A_words_isDecimal := by rw [hX]; kernel_rfl
theorem A_words_Name_ok : compileFun X.P F_words_Name (fun _ => false) = some A_words_Name := by rw [hX]; kernel_rfl
theorem A_stringslite_HasPrefix_ok : compileFun X.P F_stringslite_HasPrefix (fun _ => false) = some A_stringslite_HasPrefix := by rw [hX]; kernel_rfl
theorem A_slices_Chunk_int64_int64_1_ok : compileFun X.P F_slices_Chunk_int64_int64_1 (fun _ => false) = some A_slices_Chunk_int64_int64_1 := by rw [hX]; kernel_rfl
theorem A_slices_ContainsFunc_int_int_ok : compileFun X.P F_slices_ContainsFunc_int_int (fun _ => false) = some A_slices_ContainsFunc_int_int := by rw [hX]; kernel_rfl
theorem A_shapes_Check_1_ok : compileFun X.P F_shapes_Check_1 (fun _ => false) = some A_shapes_Check_1 := by rw [hX]; kernel_rfl
theorem A_shapes_Check_2_ok : compileFun X.P F_shapes_Check_2 (fun _ => false) = some A_shapes_Check_2 := by rw [hX]; kernel_rfl
theorem A_shapes_Check_3_ok : compileFun X.P F_shapes_Check_3 (fun _ => false) = some A_shapes_Check_3 := by rw [hX]; kernel_rfl
theorem A_strings_Index_ok : compileFun X.P F_strings_Index (fun _ => false) = some A_strings_Index := by rw [hX]; kernel_rfl
theorem A_strings_TrimPrefix_ok : compileFun X.P F_strings_TrimPrefix (fun _ => false) = some A_strings_TrimPrefix := by rw [hX]; kernel_rfl
theorem A_strings_Trim_ok : compileFun X.P F_strings_Trim (fun _ => false) = some A_strings_Trim := by rw [hX]; kernel_rfl
end
end Go.Avm
