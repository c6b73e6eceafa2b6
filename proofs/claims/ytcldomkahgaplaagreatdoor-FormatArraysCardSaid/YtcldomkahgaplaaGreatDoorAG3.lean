/- The functions as they have been read. -/
import Derived.Test.YtcldomkahgaplaaGreatDoorAG2
import Derived.Test.YtcldomkahgaplaaGreatDoorProg
set_option linter.all false
namespace Go.Avm
open Go
def A_words_isDecimal : AFun := ⟨20,
  .seq (vR [vO 2 (.mov (.c (.bool false)))])
 (.seq (vR [vM 4 0, vO 5 (.call F_strings_TrimPrefix [(.t 4), (.c (.str [45]))]), vM 3 5])
 (.seq (.seq (vR [vM 6 3, vO 7 (.bin .eql (.t 6) (.c (.str []))), vM 8 7, ⟨some 9, .mov (.t 3), some (8, false)⟩, ⟨some 10, .call F_strings_Trim [(.t 9), (.c (.str [48, 49, 50, 51, 52, 53, 54, 55, 56, 57]))], some (8, false)⟩, ⟨some 11, .bin .neq (.t 10) (.c (.str [])), some (8, false)⟩, vO 12 (.pick (.t 8) (.c (.bool true)) (.t 11))])
 (.cond (.t 12)
 (.seq (vR [vO 2 (.mov (.c (.bool false)))])
 (.ret))
 (.skip)))
 (.seq (vR [vM 13 3, vO 14 (.idxS (.t 13) (vI 0)), vO 15 (.bin .neq (.t 14) (.c (.int .u8 48))), vM 16 15, ⟨some 17, .mov (.t 0), some (16, false)⟩, ⟨some 18, .bin .eql (.t 17) (.c (.str [48])), some (16, false)⟩, vO 19 (.pick (.t 16) (.c (.bool true)) (.t 18)), vM 2 19])
 (.ret)))),
  [.tmp 2]⟩
def A_words_Name : AFun := ⟨23,
  .seq (vR [vO 2 (.mov (.c (.bool false)))])
 (.seq (.seq (vR [vM 3 0, vO 4 (.bin .eql (.t 3) (.c (.str []))), vM 5 4, ⟨some 6, .mov (.t 0), some (5, false)⟩, ⟨some 7, .lenS (.t 6), some (5, false)⟩, ⟨some 8, .bin .gtr (.t 7) (vI 16), some (5, false)⟩, vO 9 (.pick (.t 5) (.c (.bool true)) (.t 8)), vM 10 9, ⟨some 11, .mov (.t 0), some (10, false)⟩, ⟨some 12, .idxS (.t 11) (vI 0), some (10, false)⟩, ⟨some 13, .bin .lss (.t 12) (.c (.int .u8 97)), some (10, false)⟩, vO 14 (.pick (.t 10) (.c (.bool true)) (.t 13)), vM 15 14, ⟨some 16, .mov (.t 0), some (15, false)⟩, ⟨some 17, .idxS (.t 16) (vI 0), some (15, false)⟩, ⟨some 18, .bin .gtr (.t 17) (.c (.int .u8 122)), some (15, false)⟩, vO 19 (.pick (.t 15) (.c (.bool true)) (.t 18))])
 (.cond (.t 19)
 (.seq (vR [vO 2 (.mov (.c (.bool false)))])
 (.ret))
 (.skip)))
 (.seq (vR [vM 20 0, vO 21 (.call F_strings_Trim [(.t 20), (.c (.str [97, 98, 99, 100, 101, 102, 103, 104, 105, 106, 107, 108, 109, 110, 111, 112, 113, 114, 115, 116, 117, 118, 119, 120, 121, 122, 48, 49, 50, 51, 52, 53, 54, 55, 56, 57, 45]))]), vO 22 (.bin .eql (.t 21) (.c (.str []))), vM 2 22])
 (.ret))),
  [.tmp 2]⟩
def A_stringslite_HasPrefix : AFun := ⟨18,
  .seq (vR [vO 4 (.mov (.c (.bool false)))])
 (.seq (vR [vM 5 0, vO 6 (.lenS (.t 5)), vM 7 1, vO 8 (.lenS (.t 7)), vO 9 (.bin .geq (.t 6) (.t 8)), vM 10 9, ⟨some 11, .mov (.t 0), some (10, true)⟩, ⟨some 12, .mov (.t 1), some (10, true)⟩, ⟨some 13, .lenS (.t 12), some (10, true)⟩, ⟨some 14, .ssl (.t 11) none (some (.t 13)), some (10, true)⟩, ⟨some 15, .mov (.t 1), some (10, true)⟩, ⟨some 16, .bin .eql (.t 14) (.t 15), some (10, true)⟩, vO 17 (.pick (.t 10) (.t 16) (.c (.bool false))), vM 4 17])
 (.ret)),
  [.tmp 4]⟩
def A_ref05_CheckL0 : ACode :=
  .seq (.seq (vR [vM 13 5, vM 14 0, vO 15 (.bin .lss (.t 13) (.t 14))])
 (.cond (.t 15)
 (.skip)
 (.exit 0)))
 (.seq (.block 1 (.seq (vR [vM 18 5, vO 19 (.idxP 2 1 (.t 3) (.t 18)), vO 20 (.ld none (.t 19)), vO 21 (.bin .lss (.t 20) (vI 0))])
 (.cond (.t 21)
 (.seq (vR [vO 4 (.mov (vI 7))])
 (.ret))
 (.skip))))
 (vR [vM 16 5, vO 17 (.bin .add (.t 16) (vI 1)), vM 5 17]))
def A_ref05_CheckL1 : ACode :=
  .seq (.seq (vR [vM 23 6, vO 24 (.bin .lss (.t 23) (vI 2))])
 (.cond (.t 24)
 (.skip)
 (.exit 2)))
 (.seq (.block 3 (.seq (vR [vM 27 6, vO 28 (.idxP 2 1 (.t 3) (.t 27)), vO 29 (.ld none (.t 28)), vO 30 (.bin .neq (.t 29) (vI 0))])
 (.cond (.t 30)
 (.seq (vR [vO 4 (.mov (vI 6))])
 (.ret))
 (.skip))))
 (vR [vM 25 6, vO 26 (.bin .add (.t 25) (vI 1)), vM 6 26]))
def A_ref05_Check : AFun := ⟨45,
  .seq (vR [vO 3 (.box (.t 1)), vO 4 (.mov (vI 0))])
 (.seq (.seq (vR [vM 7 0, vO 8 (.bin .lss (.t 7) (vI 0)), vM 9 8, ⟨some 10, .mov (.t 0), some (9, false)⟩, ⟨some 11, .bin .gtr (.t 10) (vI 2), some (9, false)⟩, vO 12 (.pick (.t 9) (.c (.bool true)) (.t 11))])
 (.cond (.t 12)
 (.seq (vR [vO 4 (.mov (vI 7))])
 (.ret))
 (.skip)))
 (.seq (.seq (vR [vO 5 (.mov (vI 0))])
 (.block 0 (.loop A_ref05_CheckL0)))
 (.seq (.seq (vR [vM 22 0, vM 6 22])
 (.block 2 (.loop A_ref05_CheckL1)))
 (.seq (.seq (vR [vO 31 (.idxP 2 1 (.t 3) (vI 0)), vO 32 (.ld none (.t 31)), vO 33 (.bin .gtr (.t 32) (vI 400)), vM 34 33, ⟨some 35, .idxP 2 1 (.t 3) (vI 1), some (34, false)⟩, ⟨some 36, .ld none (.t 35), some (34, false)⟩, ⟨some 37, .bin .gtr (.t 36) (vI 400), some (34, false)⟩, vO 38 (.pick (.t 34) (.c (.bool true)) (.t 37)), vM 39 38, ⟨some 40, .mov (.t 0), some (39, false)⟩, ⟨some 41, .ld (some 2) (.t 3), some (39, false)⟩, ⟨some 42, .call F_ref05_Many [(.t 40), (.t 41)], some (39, false)⟩, ⟨some 43, .bin .gtr (.t 42) (vI 400), some (39, false)⟩, vO 44 (.pick (.t 39) (.c (.bool true)) (.t 43))])
 (.cond (.t 44)
 (.seq (vR [vO 4 (.mov (vI 15))])
 (.ret))
 (.skip)))
 (.seq (vR [vO 4 (.mov (vI 0))])
 (.ret)))))),
  [.tmp 4]⟩
def A_ref05_ManyL0 : ACode :=
  .seq (.seq (vR [vM 7 6, vM 8 0, vO 9 (.bin .lss (.t 7) (.t 8))])
 (.cond (.t 9)
 (.skip)
 (.exit 0)))
 (.seq (.block 1 (vR [vM 12 5, vM 13 6, vO 14 (.idxP 2 1 (.t 3) (.t 13)), vO 15 (.ld none (.t 14)), vO 16 (.bin .mul (.t 12) (.t 15)), vM 5 16]))
 (vR [vM 10 6, vO 11 (.bin .add (.t 10) (vI 1)), vM 6 11]))
def A_ref05_Many : AFun := ⟨18,
  .seq (vR [vO 3 (.box (.t 1)), vO 4 (.mov (vI 0))])
 (.seq (vR [vO 5 (.mov (vI 1))])
 (.seq (.seq (vR [vO 6 (.mov (vI 0))])
 (.block 0 (.loop A_ref05_ManyL0)))
 (.seq (vR [vM 17 5, vM 4 17])
 (.ret)))),
  [.tmp 4]⟩
def A_ref01_Digits : AFun := ⟨36,
  .seq (vR [vO 2 (.mov (.c (.str [])))])
 (.seq (.seq (vR [vM 4 0, vO 5 (.bin .gtr (.t 4) (vI 9)), vM 6 5, ⟨some 7, .mov (.t 0), some (6, false)⟩, ⟨some 8, .bin .lss (.t 7) (vI (-9)), some (6, false)⟩, vO 9 (.pick (.t 6) (.c (.bool true)) (.t 8))])
 (.cond (.t 9)
 (.seq (vR [vM 10 0, vO 11 (.bin .rem (.t 10) (vI 10)), vM 3 11])
 (.seq (.seq (vR [vM 12 3, vO 13 (.bin .lss (.t 12) (vI 0))])
 (.cond (.t 13)
 (vR [vM 14 3, vO 15 (.neg (.t 14)), vM 3 15])
 (.skip)))
 (.seq (.region true [vM 16 0, vO 17 (.bin .quo (.t 16) (vI 10)), vO 18 (.call F_ref01_Digits [(.t 17)]), vM 19 3, vO 20 (.bin .add (vI 48) (.t 19)), vO 21 (.conv .u8 (.t 20)), vO 22 (.bsl 1 (.int .u8 0) 1 [(0, (.t 21))]), vO 23 (.b2s (.t 22)), vO 24 (.bin .add (.t 18) (.t 23)), vM 2 24])
 (.ret))))
 (.skip)))
 (.seq (.seq (vR [vM 25 0, vO 26 (.bin .lss (.t 25) (vI 0))])
 (.cond (.t 26)
 (.seq (vR [vM 27 0, vO 28 (.neg (.t 27)), vO 29 (.call F_ref01_Digits [(.t 28)]), vO 30 (.bin .add (.c (.str [45])) (.t 29)), vM 2 30])
 (.ret))
 (.skip)))
 (.seq (vR [vM 31 0, vO 32 (.bin .add (vI 48) (.t 31)), vO 33 (.conv .u8 (.t 32)), vO 34 (.bsl 1 (.int .u8 0) 1 [(0, (.t 33))]), vO 35 (.b2s (.t 34)), vM 2 35])
 (.ret)))),
  [.tmp 2]⟩
def A_strconv_FormatInt_124 : AFun := ⟨54,
  .seq (vR [vO 4 (.mov (.c (.str [])))])
 (.seq (.seq (vR [vM 10 1, vO 11 (.bin .eql (.t 10) (vI 10))])
 (.cond (.t 11)
 (.seq (.seq (vR [vM 12 0, vO 13 (.bin .leq (vI 0) (.t 12)), vM 14 13, ⟨some 15, .mov (.t 0), some (14, true)⟩, ⟨some 16, .bin .lss (.t 15) (vI 100), some (14, true)⟩, vO 17 (.pick (.t 14) (.t 16) (.c (.bool false)))])
 (.cond (.t 17)
 (.seq (vR [vM 18 0, vO 19 (.call F_strconv_small [(.t 18)]), vM 4 19])
 (.ret))
 (.skip)))
 (.seq (vR [vO 5 (.alloc (List.replicate 24 (.int .u8 0)))])
 (.seq (vR [vM 20 0, vO 21 (.conv .u64 (.t 20)), vM 6 21])
 (.seq (.seq (vR [vM 22 0, vO 23 (.bin .lss (.t 22) (vI 0))])
 (.cond (.t 23)
 (vR [vM 24 6, vO 25 (.neg (.t 24)), vM 6 25])
 (.skip)))
 (.seq (vR [vM 26 6, vO 27 (.call F_strconv_numDigits [(.t 26)]), vM 7 27])
 (.seq (vR [vM 28 7, vO 29 (.bin .add (vI 1) (.t 28)), vO 30 (.slA 24 1 (.t 5) (some (vI 1)) (some (.t 29)) none), vM 31 6, vO 32 (.call F_strconv_formatBase10 [(.t 30), (.t 31)])])
 (.seq (.seq (vR [vM 33 0, vO 34 (.bin .lss (.t 33) (vI 0))])
 (.cond (.t 34)
 (.seq (vR [vO 35 (.idxP 24 1 (.t 5) (vI 0)), ⟨none, .st 1 (.t 35) (.c (.int .u8 45)), none⟩])
 (.seq (vR [vM 36 7, vO 37 (.bin .add (vI 1) (.t 36)), vO 38 (.slA 24 1 (.t 5) none (some (.t 37)) none), vO 39 (.b2s (.t 38)), vM 4 39])
 (.ret)))
 (.skip)))
 (.seq (vR [vM 40 7, vO 41 (.bin .add (vI 1) (.t 40)), vO 42 (.slA 24 1 (.t 5) (some (vI 1)) (some (.t 41)) none), vO 43 (.b2s (.t 42)), vM 4 43])
 (.ret)))))))))
 (.skip)))
 (.seq (vR [vM 45 0, vO 46 (.conv .u64 (.t 45)), vM 47 1, vM 48 0, vO 49 (.bin .lss (.t 48) (vI 0)), vO 50 (.call F_strconv_formatBits [(.c (.sl .ex [])), (.t 46), (.t 47), (.t 49), (.c (.bool false))]), vM 44 50, vO 51 (.extr (.t 44) 0), vO 52 (.extr (.t 44) 1), vM 8 51, vM 9 52])
 (.seq (vR [vM 53 9, vM 4 53])
 (.ret)))),
  [.tmp 4]⟩
def A_slices_Chunk_int64_int64_1L0 : ACode :=
  .seq (.seq (vR [vM 6 4, vO 7 (.ld none (.t 1)), vO 8 (.len (.t 7)), vO 9 (.bin .lss (.t 6) (.t 8))])
 (.cond (.t 9)
 (.skip)
 (.exit 0)))
 (.seq (.block 1 (.seq (.region true [vO 13 (.ld none (.t 2)), vO 14 (.ld none (.t 1)), vM 15 4, vO 16 (.sls 1 (.t 14) (some (.t 15)) none none), vO 17 (.len (.t 16)), vO 18 (.mm false (.t 13) (.t 17)), vM 5 18])
 (.seq (vR [vM 19 0, vO 20 (.ld none (.t 1)), vM 21 4, vM 22 4, vM 23 5, vO 24 (.bin .add (.t 22) (.t 23)), vM 25 4, vM 26 5, vO 27 (.bin .add (.t 25) (.t 26)), vO 28 (.sls 1 (.t 20) (some (.t 21)) (some (.t 24)) (some (.t 27))), vO 29 (.callv (.t 19) [(.t 28)]), vO 30 (.not (.t 29))])
 (.cond (.t 30)
 (.ret)
 (.skip)))))
 (vR [vM 10 4, vO 11 (.ld none (.t 2)), vO 12 (.bin .add (.t 10) (.t 11)), vM 4 12]))
def A_slices_Chunk_int64_int64_1 : AFun := ⟨31,
  .seq (vR [vO 4 (.mov (vI 0))])
 (.block 0 (.loop A_slices_Chunk_int64_int64_1L0)),
  []⟩
def A_runes_Bytes_1 : AFun := ⟨6,
  .seq (vR [vO 2 (.mov (.c (.bool false)))])
 (.seq (vR [vM 3 0, vO 4 (.call F_runes_is [(.t 3)]), vO 5 (.not (.t 4)), vM 2 5])
 (.ret)),
  [.tmp 2]⟩
def A_utf8_AppendRune : AFun := ⟨16,
  .seq (vR [vO 4 (.mov (.c (.sl .ex [])))])
 (.seq (.seq (vR [vM 5 1, vO 6 (.conv .u32 (.t 5)), vO 7 (.bin .leq (.t 6) (.c (.int .u32 127)))])
 (.cond (.t 7)
 (.seq (vR [vM 8 0, vM 9 1, vO 10 (.conv .u8 (.t 9)), vO 11 (.bsl 1 (.int .u8 0) 1 [(0, (.t 10))]), vO 12 (.app 1 1 (.t 8) (.t 11)), vM 4 12])
 (.ret))
 (.skip)))
 (.seq (vR [vM 13 0, vM 14 1, vO 15 (.call F_utf8_appendRuneNonASCII [(.t 13), (.t 14)]), vM 4 15])
 (.ret))),
  [.tmp 4]⟩
def A_lexer_quotedL0 : ACode :=
  .seq (vR [vO 9 (.nxt (.t 8)), vO 10 (.extr (.t 9) 0)])
 (.seq (.cond (.t 10)
 (.skip)
 (.exit 0))
 (.block 1 (.seq (vR [vO 11 (.extr (.t 9) 2), vM 5 11])
 (.block 2 (.seq (vR [vM 19 5, vO 20 (.bin .eql (.t 19) (.c (.int .i32 34))), vM 21 20, ⟨some 22, .mov (.t 5), some (21, false)⟩, ⟨some 23, .bin .eql (.t 22) (.c (.int .i32 92)), some (21, false)⟩, vO 24 (.pick (.t 21) (.c (.bool true)) (.t 23)), vM 18 24])
 (.cond (.t 18)
 (.seq (vR [vO 25 (.call F_strings_Builder_WriteByte [(.t 3), (.c (.int .u8 92))])])
 (vR [vM 26 5, vO 27 (.call F_strings_Builder_WriteRune [(.t 3), (.t 26)])]))
 (.seq (vR [vM 29 5, vO 30 (.bin .eql (.t 29) (.c (.int .i32 10))), vM 28 30])
 (.cond (.t 28)
 (vR [vO 31 (.call F_strings_Builder_WriteString [(.t 3), (.c (.str [92, 110]))])])
 (.seq (vR [vM 33 5, vO 34 (.bin .geq (.t 33) (.c (.int .i32 32))), vM 35 34, ⟨some 36, .mov (.t 5), some (35, true)⟩, ⟨some 37, .bin .lss (.t 36) (.c (.int .i32 127)), some (35, true)⟩, vO 38 (.pick (.t 35) (.t 37) (.c (.bool false))), vM 32 38])
 (.cond (.t 32)
 (vR [vM 39 5, vO 40 (.call F_strings_Builder_WriteRune [(.t 3), (.t 39)])])
 (vR [vM 12 5, vO 13 (.conv .i64 (.t 12)), vO 14 (.call F_strconv_FormatInt [(.t 13), (vI 16)]), vO 15 (.bin .add (.c (.str [92, 117])) (.t 14)), vO 16 (.bin .add (.t 15) (.c (.str [59]))), vO 17 (.call F_strings_Builder_WriteString [(.t 3), (.t 16)])])))))))))))
def A_lexer_quoted : AFun := ⟨43,
  .seq (vR [vO 2 (.mov (.c (.str [])))])
 (.seq (vR [vO 3 (.allocB 61 5)])
 (.seq (vR [vO 6 (.call F_strings_Builder_WriteByte [(.t 3), (.c (.int .u8 34))])])
 (.seq (.seq (vR [vM 7 0, vO 8 (.rng (.t 7))])
 (.block 0 (.loop A_lexer_quotedL0)))
 (.seq (vR [vO 41 (.call F_strings_Builder_WriteByte [(.t 3), (.c (.int .u8 34))])])
 (.seq (vR [vO 42 (.call F_strings_Builder_String [(.t 3)]), vM 2 42])
 (.ret)))))),
  [.tmp 2]⟩
def A_ref14_runesL0 : ACode :=
  .seq (.seq (vR [vM 9 5, vM 10 0, vO 11 (.lenS (.t 10)), vO 12 (.bin .lss (.t 9) (.t 11))])
 (.cond (.t 12)
 (.skip)
 (.exit 0)))
 (.block 1 (.seq (vR [vM 14 0, vO 15 (.s2b false (.t 14)), vM 16 5, vO 17 (.call F_ref02_Decode [(.t 15), (.t 16)]), vM 13 17, vO 18 (.extr (.t 13) 0), vO 19 (.extr (.t 13) 1), vO 20 (.extr (.t 13) 2), vM 6 18, vM 7 19, vM 8 20])
 (.seq (.seq (vR [vM 21 8, vO 22 (.bin .neq (.t 21) (vI 0))])
 (.cond (.t 22)
 (.seq (vR [vO 2 (.mov (.c (.sl .ex []))), vO 3 (.mov (.c (.bool false)))])
 (.ret))
 (.skip)))
 (.seq (vR [vM 23 4, vM 24 6, vO 25 (.bsl 1 (.int .i64 0) 1 [(0, (.t 24))]), vO 26 (.app 1 8 (.t 23) (.t 25)), vM 4 26])
 (vR [vM 27 5, vM 28 7, vO 29 (.bin .add (.t 27) (.t 28)), vM 5 29])))))
def A_ref14_runes : AFun := ⟨31,
  .seq (vR [vO 2 (.mov (.c (.sl .ex []))), vO 3 (.mov (.c (.bool false)))])
 (.seq (vR [vO 4 (.mov (.c (.sl .ex [])))])
 (.seq (.seq (vR [vO 5 (.mov (vI 0))])
 (.block 0 (.loop A_ref14_runesL0)))
 (.seq (vR [vM 30 4, vM 2 30, vO 3 (.mov (.c (.bool true)))])
 (.ret)))),
  [.tmp 2, .tmp 3]⟩
def A_ref14_quotedL0 : ACode :=
  .seq (.seq (vR [vM 6 4, vM 7 0, vO 8 (.len (.t 7)), vO 9 (.bin .lss (.t 6) (.t 8))])
 (.cond (.t 9)
 (.skip)
 (.exit 0)))
 (.seq (.block 1 (.seq (vR [vM 12 0, vM 13 4, vO 14 (.idxA 1 (.t 12) (.t 13)), vO 15 (.ld none (.t 14)), vM 5 15])
 (.block 2 (.seq (vR [vM 23 5, vO 24 (.bin .eql (.t 23) (vI 34)), vM 25 24, ⟨some 26, .mov (.t 5), some (25, false)⟩, ⟨some 27, .bin .eql (.t 26) (vI 92), some (25, false)⟩, vO 28 (.pick (.t 25) (.c (.bool true)) (.t 27)), vM 22 28])
 (.cond (.t 22)
 (vR [vM 29 3, vO 30 (.bin .add (.t 29) (.c (.str [92]))), vM 31 5, vO 32 (.conv .u8 (.t 31)), vO 33 (.bsl 1 (.int .u8 0) 1 [(0, (.t 32))]), vO 34 (.b2s (.t 33)), vO 35 (.bin .add (.t 30) (.t 34)), vM 3 35])
 (.seq (vR [vM 37 5, vO 38 (.bin .eql (.t 37) (vI 10)), vM 36 38])
 (.cond (.t 36)
 (vR [vM 39 3, vO 40 (.bin .add (.t 39) (.c (.str [92, 110]))), vM 3 40])
 (.seq (vR [vM 42 5, vO 43 (.bin .geq (.t 42) (vI 32)), vM 44 43, ⟨some 45, .mov (.t 5), some (44, true)⟩, ⟨some 46, .bin .leq (.t 45) (vI 126), some (44, true)⟩, vO 47 (.pick (.t 44) (.t 46) (.c (.bool false))), vM 41 47])
 (.cond (.t 41)
 (vR [vM 48 3, vM 49 5, vO 50 (.conv .u8 (.t 49)), vO 51 (.bsl 1 (.int .u8 0) 1 [(0, (.t 50))]), vO 52 (.b2s (.t 51)), vO 53 (.bin .add (.t 48) (.t 52)), vM 3 53])
 (vR [vM 16 3, vO 17 (.bin .add (.t 16) (.c (.str [92, 117]))), vM 18 5, vO 19 (.call F_ref14_code [(.t 18)]), vO 20 (.bin .add (.t 17) (.t 19)), vO 21 (.bin .add (.t 20) (.c (.str [59]))), vM 3 21]))))))))))
 (vR [vM 10 4, vO 11 (.bin .add (.t 10) (vI 1)), vM 4 11]))
def A_ref14_quoted : AFun := ⟨56,
  .seq (vR [vO 2 (.mov (.c (.str [])))])
 (.seq (vR [vO 3 (.mov (.c (.str [34])))])
 (.seq (.seq (vR [vO 4 (.mov (vI 0))])
 (.block 0 (.loop A_ref14_quotedL0)))
 (.seq (vR [vM 54 3, vO 55 (.bin .add (.t 54) (.c (.str [34]))), vM 2 55])
 (.ret)))),
  [.tmp 2]⟩
def A_ref02_Encode : AFun := ⟨58,
  .seq (vR [vO 2 (.mov (.c (.sl .ex []))), vO 3 (.mov (vI 0))])
 (.seq (.seq (vR [vM 4 0, vO 5 (.call F_ref02_Is [(.t 4)]), vO 6 (.not (.t 5))])
 (.cond (.t 6)
 (.seq (vR [vO 2 (.mov (.c (.sl .ex []))), vO 3 (.mov (vI 7))])
 (.ret))
 (.skip)))
 (.seq (.seq (vR [vM 7 0, vO 8 (.bin .lss (.t 7) (vI 128))])
 (.cond (.t 8)
 (.seq (vR [vM 9 0, vO 10 (.conv .u8 (.t 9)), vO 11 (.bsl 1 (.int .u8 0) 1 [(0, (.t 10))]), vM 2 11, vO 3 (.mov (vI 0))])
 (.ret))
 (.skip)))
 (.seq (.seq (vR [vM 12 0, vO 13 (.bin .lss (.t 12) (vI 2048))])
 (.cond (.t 13)
 (.seq (vR [vM 14 0, vO 15 (.bin .quo (.t 14) (vI 64)), vO 16 (.bin .add (vI 192) (.t 15)), vO 17 (.conv .u8 (.t 16)), vM 18 0, vO 19 (.bin .rem (.t 18) (vI 64)), vO 20 (.bin .add (vI 128) (.t 19)), vO 21 (.conv .u8 (.t 20)), vO 22 (.bsl 1 (.int .u8 0) 2 [(0, (.t 17)), (1, (.t 21))]), vM 2 22, vO 3 (.mov (vI 0))])
 (.ret))
 (.skip)))
 (.seq (.seq (vR [vM 23 0, vO 24 (.bin .lss (.t 23) (vI 65536))])
 (.cond (.t 24)
 (.seq (vR [vM 25 0, vO 26 (.bin .quo (.t 25) (vI 4096)), vO 27 (.bin .add (vI 224) (.t 26)), vO 28 (.conv .u8 (.t 27)), vM 29 0, vO 30 (.bin .quo (.t 29) (vI 64)), vO 31 (.bin .rem (.t 30) (vI 64)), vO 32 (.bin .add (vI 128) (.t 31)), vO 33 (.conv .u8 (.t 32)), vM 34 0, vO 35 (.bin .rem (.t 34) (vI 64)), vO 36 (.bin .add (vI 128) (.t 35)), vO 37 (.conv .u8 (.t 36)), vO 38 (.bsl 1 (.int .u8 0) 3 [(0, (.t 28)), (1, (.t 33)), (2, (.t 37))]), vM 2 38, vO 3 (.mov (vI 0))])
 (.ret))
 (.skip)))
 (.seq (vR [vM 39 0, vO 40 (.bin .quo (.t 39) (vI 262144)), vO 41 (.bin .add (vI 240) (.t 40)), vO 42 (.conv .u8 (.t 41)), vM 43 0, vO 44 (.bin .quo (.t 43) (vI 4096)), vO 45 (.bin .rem (.t 44) (vI 64)), vO 46 (.bin .add (vI 128) (.t 45)), vO 47 (.conv .u8 (.t 46)), vM 48 0, vO 49 (.bin .quo (.t 48) (vI 64)), vO 50 (.bin .rem (.t 49) (vI 64)), vO 51 (.bin .add (vI 128) (.t 50)), vO 52 (.conv .u8 (.t 51)), vM 53 0, vO 54 (.bin .rem (.t 53) (vI 64)), vO 55 (.bin .add (vI 128) (.t 54)), vO 56 (.conv .u8 (.t 55)), vO 57 (.bsl 1 (.int .u8 0) 4 [(0, (.t 42)), (1, (.t 47)), (2, (.t 52)), (3, (.t 56))]), vM 2 57, vO 3 (.mov (vI 0))])
 (.ret)))))),
  [.tmp 2, .tmp 3]⟩
def A_ref02_DecodeL0 : ACode :=
  .seq (.seq (vR [vM 18 7, vO 19 (.bin .leq (.t 18) (vI 4)), vM 20 19, ⟨some 21, .mov (.t 1), some (20, true)⟩, ⟨some 22, .mov (.t 7), some (20, true)⟩, ⟨some 23, .bin .add (.t 21) (.t 22), some (20, true)⟩, ⟨some 24, .mov (.t 0), some (20, true)⟩, ⟨some 25, .len (.t 24), some (20, true)⟩, ⟨some 26, .bin .leq (.t 23) (.t 25), some (20, true)⟩, vO 27 (.pick (.t 20) (.t 26) (.c (.bool false)))])
 (.cond (.t 27)
 (.skip)
 (.exit 0)))
 (.seq (.block 1 (.seq (vR [vM 31 0, vM 32 1, vM 33 1, vM 34 7, vO 35 (.bin .add (.t 33) (.t 34)), vO 36 (.sls 1 (.t 31) (some (.t 32)) (some (.t 35)) none), vO 37 (.call F_ref02_stands [(.t 36)]), vM 30 37, vO 38 (.extr (.t 30) 0), vO 39 (.extr (.t 30) 1), vM 8 38, vM 9 39])
 (.seq (vR [vM 40 9])
 (.cond (.t 40)
 (.seq (vR [vM 41 8, vM 42 7, vM 4 41, vM 5 42, vO 6 (.mov (vI 0))])
 (.ret))
 (.skip)))))
 (vR [vM 28 7, vO 29 (.bin .add (.t 28) (vI 1)), vM 7 29]))
def A_ref02_Decode : AFun := ⟨54,
  .seq (vR [vO 4 (.mov (vI 0)), vO 5 (.mov (vI 0)), vO 6 (.mov (vI 0))])
 (.seq (.seq (vR [vM 10 1, vO 11 (.bin .lss (.t 10) (vI 0)), vM 12 11, ⟨some 13, .mov (.t 1), some (12, false)⟩, ⟨some 14, .mov (.t 0), some (12, false)⟩, ⟨some 15, .len (.t 14), some (12, false)⟩, ⟨some 16, .bin .geq (.t 13) (.t 15), some (12, false)⟩, vO 17 (.pick (.t 12) (.c (.bool true)) (.t 16))])
 (.cond (.t 17)
 (.seq (vR [vO 4 (.mov (vI 0)), vO 5 (.mov (vI 0)), vO 6 (.mov (vI 7))])
 (.ret))
 (.skip)))
 (.seq (.seq (vR [vO 7 (.mov (vI 1))])
 (.block 0 (.loop A_ref02_DecodeL0)))
 (.seq (.seq (vR [vM 43 0, vO 44 (.len (.t 43)), vM 45 1, vO 46 (.bin .sub (.t 44) (.t 45)), vO 47 (.bin .lss (.t 46) (vI 4)), vM 48 47, ⟨some 49, .mov (.t 0), some (48, true)⟩, ⟨some 50, .mov (.t 1), some (48, true)⟩, ⟨some 51, .sls 1 (.t 49) (some (.t 50)) none none, some (48, true)⟩, ⟨some 52, .call F_ref02_begins [(.t 51)], some (48, true)⟩, vO 53 (.pick (.t 48) (.t 52) (.c (.bool false)))])
 (.cond (.t 53)
 (.seq (vR [vO 4 (.mov (vI 0)), vO 5 (.mov (vI 0)), vO 6 (.mov (vI 370))])
 (.ret))
 (.skip)))
 (.seq (vR [vO 4 (.mov (vI 0)), vO 5 (.mov (vI 0)), vO 6 (.mov (vI 6))])
 (.ret))))),
  [.tmp 4, .tmp 5, .tmp 6]⟩
def A_slices_ContainsFunc_int_int : AFun := ⟨9,
  .seq (vR [vO 4 (.mov (.c (.bool false)))])
 (.seq (vR [vM 5 0, vM 6 1, vO 7 (.call F_slices_IndexFunc_int_int [(.t 5), (.t 6)]), vO 8 (.bin .geq (.t 7) (vI 0)), vM 4 8])
 (.ret)),
  [.tmp 4]⟩
def A_shapes_Check_1 : AFun := ⟨5,
  .seq (vR [vO 2 (.mov (.c (.bool false)))])
 (.seq (vR [vM 3 0, vO 4 (.bin .lss (.t 3) (vI 0)), vM 2 4])
 (.ret)),
  [.tmp 2]⟩
def A_shapes_Check_2 : AFun := ⟨5,
  .seq (vR [vO 2 (.mov (.c (.bool false)))])
 (.seq (vR [vM 3 0, vO 4 (.bin .neq (.t 3) (vI 0)), vM 2 4])
 (.ret)),
  [.tmp 2]⟩
def A_shapes_Check_3 : AFun := ⟨5,
  .seq (vR [vO 2 (.mov (.c (.bool false)))])
 (.seq (vR [vM 3 0, vO 4 (.bin .gtr (.t 3) (vI 400)), vM 2 4])
 (.ret)),
  [.tmp 2]⟩
def A_strings_Index : AFun := ⟨8,
  .seq (vR [vO 4 (.mov (vI 0))])
 (.seq (vR [vM 5 0, vM 6 1, vO 7 (.call F_stringslite_Index [(.t 5), (.t 6)]), vM 4 7])
 (.ret)),
  [.tmp 4]⟩
def A_strings_TrimPrefix : AFun := ⟨8,
  .seq (vR [vO 4 (.mov (.c (.str [])))])
 (.seq (vR [vM 5 0, vM 6 1, vO 7 (.call F_stringslite_TrimPrefix [(.t 5), (.t 6)]), vM 4 7])
 (.ret)),
  [.tmp 4]⟩
def A_strings_Trim : AFun := ⟨43,
  .seq (vR [vO 4 (.mov (.c (.str [])))])
 (.seq (.seq (vR [vM 7 0, vO 8 (.bin .eql (.t 7) (.c (.str []))), vM 9 8, ⟨some 10, .mov (.t 1), some (9, false)⟩, ⟨some 11, .bin .eql (.t 10) (.c (.str [])), some (9, false)⟩, vO 12 (.pick (.t 9) (.c (.bool true)) (.t 11))])
 (.cond (.t 12)
 (.seq (vR [vM 13 0, vM 4 13])
 (.ret))
 (.skip)))
 (.seq (.seq (vR [vM 14 1, vO 15 (.lenS (.t 14)), vO 16 (.bin .eql (.t 15) (vI 1)), vM 17 16, ⟨some 18, .mov (.t 1), some (17, true)⟩, ⟨some 19, .idxS (.t 18) (vI 0), some (17, true)⟩, ⟨some 20, .bin .lss (.t 19) (.c (.int .u8 128)), some (17, true)⟩, vO 21 (.pick (.t 17) (.t 20) (.c (.bool false)))])
 (.cond (.t 21)
 (.seq (.region true [vM 22 0, vM 23 1, vO 24 (.idxS (.t 23) (vI 0)), vO 25 (.call F_strings_trimRightByte [(.t 22), (.t 24)]), vM 26 1, vO 27 (.idxS (.t 26) (vI 0)), vO 28 (.call F_strings_trimLeftByte [(.t 25), (.t 27)]), vM 4 28])
 (.ret))
 (.skip)))
 (.seq (.seq (vR [vM 30 1, vO 31 (.call F_strings_makeASCIISet [(.t 30)]), vM 29 31, vO 32 (.extr (.t 29) 0), vO 33 (.extr (.t 29) 1), vO 5 (.alloc (List.replicate 256 (.bool false))), ⟨none, .st 256 (.t 5) (.t 32), none⟩, vM 6 33])
 (.seq (vR [vM 34 6])
 (.cond (.t 34)
 (.seq (vR [vM 35 0, vO 36 (.call F_strings_trimRightASCII [(.t 35), (.t 5)]), vO 37 (.call F_strings_trimLeftASCII [(.t 36), (.t 5)]), vM 4 37])
 (.ret))
 (.skip))))
 (.seq (vR [vM 38 0, vM 39 1, vO 40 (.call F_strings_trimRightUnicode [(.t 38), (.t 39)]), vM 41 1, vO 42 (.call F_strings_trimLeftUnicode [(.t 40), (.t 41)]), vM 4 42])
 (.ret))))),
  [.tmp 4]⟩
def A_strconv_formatBitsL0 : ACode :=
  .seq (.seq (vR [vM 44 1, vM 45 15, vO 46 (.bin .geq (.t 44) (.t 45))])
 (.cond (.t 46)
 (.skip)
 (.exit 0)))
 (.block 1 (.seq (vR [vM 47 13, vO 48 (.bin .sub (.t 47) (vI 1)), vM 13 48])
 (.seq (vR [vM 49 13, vM 50 1, vM 51 16, vO 52 (.bin .and (.t 50) (.t 51)), vO 53 (.idxS (.c (.str [48, 49, 50, 51, 52, 53, 54, 55, 56, 57, 97, 98, 99, 100, 101, 102, 103, 104, 105, 106, 107, 108, 109, 110, 111, 112, 113, 114, 115, 116, 117, 118, 119, 120, 121, 122])) (.t 52)), vO 54 (.idxP 65 1 (.t 12) (.t 49)), ⟨none, .st 1 (.t 54) (.t 53), none⟩])
 (vR [vM 55 1, vM 56 14, vO 57 (.bin .shr (.t 55) (.t 56)), vM 1 57]))))
def A_strconv_formatBitsL1 : ACode :=
  .seq (.seq (vR [vM 66 1, vM 67 17, vO 68 (.bin .geq (.t 66) (.t 67))])
 (.cond (.t 68)
 (.skip)
 (.exit 2)))
 (.block 3 (.seq (vR [vM 69 13, vO 70 (.bin .sub (.t 69) (vI 1)), vM 13 70])
 (.seq (vR [vM 71 1, vM 72 17, vO 73 (.bin .quo (.t 71) (.t 72)), vM 18 73])
 (.seq (vR [vM 74 13, vM 75 1, vM 76 18, vM 77 17, vO 78 (.bin .mul (.t 76) (.t 77)), vO 79 (.bin .sub (.t 75) (.t 78)), vO 80 (.idxS (.c (.str [48, 49, 50, 51, 52, 53, 54, 55, 56, 57, 97, 98, 99, 100, 101, 102, 103, 104, 105, 106, 107, 108, 109, 110, 111, 112, 113, 114, 115, 116, 117, 118, 119, 120, 121, 122])) (.t 79)), vO 81 (.idxP 65 1 (.t 12) (.t 74)), ⟨none, .st 1 (.t 81) (.t 80), none⟩])
 (vR [vM 82 18, vM 1 82])))))
def A_strconv_formatBits : AFun := ⟨102,
  .seq (vR [vO 10 (.mov (.c (.sl .ex []))), vO 11 (.mov (.c (.str [])))])
 (.seq (.seq (vR [vM 19 2, vO 20 (.bin .lss (.t 19) (vI 2)), vM 21 20, ⟨some 22, .mov (.t 2), some (21, false)⟩, ⟨some 23, .bin .eql (.t 22) (vI 10), some (21, false)⟩, vO 24 (.pick (.t 21) (.c (.bool true)) (.t 23)), vM 25 24, ⟨some 26, .mov (.t 2), some (25, false)⟩, ⟨some 27, .bin .gtr (.t 26) (vI 36), some (25, false)⟩, vO 28 (.pick (.t 25) (.c (.bool true)) (.t 27))])
 (.cond (.t 28)
 (.bad)
 (.skip)))
 (.seq (vR [vO 12 (.alloc (List.replicate 65 (.int .u8 0)))])
 (.seq (vR [vO 13 (.mov (vI 65))])
 (.seq (.seq (vR [vM 30 3])
 (.cond (.t 30)
 (vR [vM 31 1, vO 32 (.neg (.t 31)), vM 1 32])
 (.skip)))
 (.seq (.seq (vR [vM 33 2, vO 34 (.call F_strconv_isPowerOfTwo [(.t 33)])])
 (.cond (.t 34)
 (.seq (vR [vM 35 2, vO 36 (.conv .u64 (.t 35)), vO 37 (.call F_bits_TrailingZeros [(.t 36)]), vO 38 (.conv .u64 (.t 37)), vM 14 38])
 (.seq (vR [vM 39 2, vO 40 (.conv .u64 (.t 39)), vM 15 40])
 (.seq (vR [vM 41 2, vO 42 (.conv .u64 (.t 41)), vO 43 (.bin .sub (.t 42) (.c (.int .u64 1))), vM 16 43])
 (.seq (.block 0 (.loop A_strconv_formatBitsL0))
 (.seq (vR [vM 58 13, vO 59 (.bin .sub (.t 58) (vI 1)), vM 13 59])
 (vR [vM 60 13, vM 61 1, vO 62 (.idxS (.c (.str [48, 49, 50, 51, 52, 53, 54, 55, 56, 57, 97, 98, 99, 100, 101, 102, 103, 104, 105, 106, 107, 108, 109, 110, 111, 112, 113, 114, 115, 116, 117, 118, 119, 120, 121, 122])) (.t 61)), vO 63 (.idxP 65 1 (.t 12) (.t 60)), ⟨none, .st 1 (.t 63) (.t 62), none⟩]))))))
 (.seq (vR [vM 64 2, vO 65 (.conv .u64 (.t 64)), vM 17 65])
 (.seq (.block 2 (.loop A_strconv_formatBitsL1))
 (.seq (vR [vM 83 13, vO 84 (.bin .sub (.t 83) (vI 1)), vM 13 84])
 (vR [vM 85 13, vM 86 1, vO 87 (.idxS (.c (.str [48, 49, 50, 51, 52, 53, 54, 55, 56, 57, 97, 98, 99, 100, 101, 102, 103, 104, 105, 106, 107, 108, 109, 110, 111, 112, 113, 114, 115, 116, 117, 118, 119, 120, 121, 122])) (.t 86)), vO 88 (.idxP 65 1 (.t 12) (.t 85)), ⟨none, .st 1 (.t 88) (.t 87), none⟩]))))))
 (.seq (.seq (vR [vM 89 3])
 (.cond (.t 89)
 (.seq (vR [vM 90 13, vO 91 (.bin .sub (.t 90) (vI 1)), vM 13 91])
 (vR [vM 92 13, vO 93 (.idxP 65 1 (.t 12) (.t 92)), ⟨none, .st 1 (.t 93) (.c (.int .u8 45)), none⟩]))
 (.skip)))
 (.seq (.seq (vR [vM 94 4])
 (.cond (.t 94)
 (.seq (vR [vM 95 0, vM 96 13, vO 97 (.slA 65 1 (.t 12) (some (.t 96)) none none), vO 98 (.app 1 1 (.t 95) (.t 97)), vM 10 98])
 (.ret))
 (.skip)))
 (.seq (vR [vM 99 13, vO 100 (.slA 65 1 (.t 12) (some (.t 99)) none none), vO 101 (.b2s (.t 100)), vM 11 101])
 (.ret))))))))),
  [.tmp 10, .tmp 11]⟩
def A_utf8_appendRuneNonASCII : AFun := ⟨78,
  .seq (vR [vO 4 (.mov (.c (.sl .ex [])))])
 (.seq (vR [vM 6 1, vO 7 (.conv .u32 (.t 6)), vM 5 7])
 (.block 0 (.seq (vR [vM 12 5, vO 13 (.bin .leq (.t 12) (.c (.int .u32 2047))), vM 11 13])
 (.cond (.t 11)
 (.seq (vR [vM 14 0, vM 15 1, vO 16 (.bin .shr (.t 15) (.c (.int .u64 6))), vO 17 (.conv .u8 (.t 16)), vO 18 (.bin .or (.c (.int .u8 192)) (.t 17)), vM 19 1, vO 20 (.conv .u8 (.t 19)), vO 21 (.bin .and (.t 20) (.c (.int .u8 63))), vO 22 (.bin .or (.c (.int .u8 128)) (.t 21)), vO 23 (.bsl 1 (.int .u8 0) 2 [(0, (.t 18)), (1, (.t 22))]), vO 24 (.app 1 1 (.t 14) (.t 23)), vM 4 24])
 (.ret))
 (.seq (.seq (vR [vM 26 5, vO 27 (.bin .lss (.t 26) (.c (.int .u32 55296))), vM 25 27])
 (.cond (.t 25)
 (.skip)
 (vR [vM 28 5, vO 29 (.bin .lss (.c (.int .u32 57343)) (.t 28)), vM 30 29, ⟨some 31, .mov (.t 5), some (30, true)⟩, ⟨some 32, .bin .leq (.t 31) (.c (.int .u32 65535)), some (30, true)⟩, vO 33 (.pick (.t 30) (.t 32) (.c (.bool false))), vM 25 33])))
 (.cond (.t 25)
 (.seq (vR [vM 34 0, vM 35 1, vO 36 (.bin .shr (.t 35) (.c (.int .u64 12))), vO 37 (.conv .u8 (.t 36)), vO 38 (.bin .or (.c (.int .u8 224)) (.t 37)), vM 39 1, vO 40 (.bin .shr (.t 39) (.c (.int .u64 6))), vO 41 (.conv .u8 (.t 40)), vO 42 (.bin .and (.t 41) (.c (.int .u8 63))), vO 43 (.bin .or (.c (.int .u8 128)) (.t 42)), vM 44 1, vO 45 (.conv .u8 (.t 44)), vO 46 (.bin .and (.t 45) (.c (.int .u8 63))), vO 47 (.bin .or (.c (.int .u8 128)) (.t 46)), vO 48 (.bsl 1 (.int .u8 0) 3 [(0, (.t 38)), (1, (.t 43)), (2, (.t 47))]), vO 49 (.app 1 1 (.t 34) (.t 48)), vM 4 49])
 (.ret))
 (.seq (vR [vM 51 5, vO 52 (.bin .gtr (.t 51) (.c (.int .u32 65535))), vM 53 52, ⟨some 54, .mov (.t 5), some (53, true)⟩, ⟨some 55, .bin .leq (.t 54) (.c (.int .u32 1114111)), some (53, true)⟩, vO 56 (.pick (.t 53) (.t 55) (.c (.bool false))), vM 50 56])
 (.cond (.t 50)
 (.seq (vR [vM 57 0, vM 58 1, vO 59 (.bin .shr (.t 58) (.c (.int .u64 18))), vO 60 (.conv .u8 (.t 59)), vO 61 (.bin .or (.c (.int .u8 240)) (.t 60)), vM 62 1, vO 63 (.bin .shr (.t 62) (.c (.int .u64 12))), vO 64 (.conv .u8 (.t 63)), vO 65 (.bin .and (.t 64) (.c (.int .u8 63))), vO 66 (.bin .or (.c (.int .u8 128)) (.t 65)), vM 67 1, vO 68 (.bin .shr (.t 67) (.c (.int .u64 6))), vO 69 (.conv .u8 (.t 68)), vO 70 (.bin .and (.t 69) (.c (.int .u8 63))), vO 71 (.bin .or (.c (.int .u8 128)) (.t 70)), vM 72 1, vO 73 (.conv .u8 (.t 72)), vO 74 (.bin .and (.t 73) (.c (.int .u8 63))), vO 75 (.bin .or (.c (.int .u8 128)) (.t 74)), vO 76 (.bsl 1 (.int .u8 0) 4 [(0, (.t 61)), (1, (.t 66)), (2, (.t 71)), (3, (.t 75))]), vO 77 (.app 1 1 (.t 57) (.t 76)), vM 4 77])
 (.ret))
 (.seq (vR [vM 8 0, vO 9 (.bsl 1 (.int .u8 0) 3 [(0, (.c (.int .u8 239))), (1, (.c (.int .u8 191))), (2, (.c (.int .u8 189)))]), vO 10 (.app 1 1 (.t 8) (.t 9)), vM 4 10])
 (.ret)))))))))),
  [.tmp 4]⟩
def A_ref14_code : AFun := ⟨18,
  .seq (vR [vO 2 (.mov (.c (.str [])))])
 (.seq (vR [vM 4 0, vO 5 (.bin .rem (.t 4) (vI 16)), vM 6 0, vO 7 (.bin .rem (.t 6) (vI 16)), vO 8 (.bin .add (.t 7) (vI 1)), vO 9 (.ssl (.c (.str [48, 49, 50, 51, 52, 53, 54, 55, 56, 57, 97, 98, 99, 100, 101, 102])) (some (.t 5)) (some (.t 8))), vM 3 9])
 (.seq (.seq (vR [vM 10 0, vO 11 (.bin .lss (.t 10) (vI 16))])
 (.cond (.t 11)
 (.seq (vR [vM 12 3, vM 2 12])
 (.ret))
 (.skip)))
 (.seq (vR [vM 13 0, vO 14 (.bin .quo (.t 13) (vI 16)), vO 15 (.call F_ref14_code [(.t 14)]), vM 16 3, vO 17 (.bin .add (.t 15) (.t 16)), vM 2 17])
 (.ret)))),
  [.tmp 2]⟩
section
variable {X : Cx} (hX : X.P = Go.Proofs.Tryz.prog)
include hX
theorem A_words_isDecimal_ok : compileFun X.P F_words_isDecimal vH = some A_words_isDecimal := by rw [hX]; kernel_rfl
theorem A_words_Name_ok : compileFun X.P F_words_Name vH = some A_words_Name := by rw [hX]; kernel_rfl
theorem A_stringslite_HasPrefix_ok : compileFun X.P F_stringslite_HasPrefix vH = some A_stringslite_HasPrefix := by rw [hX]; kernel_rfl
theorem A_ref05_Check_ok : compileFun X.P F_ref05_Check vH = some A_ref05_Check := by rw [hX]; kernel_rfl
theorem A_ref05_Many_ok : compileFun X.P F_ref05_Many vH = some A_ref05_Many := by rw [hX]; kernel_rfl
theorem A_ref01_Digits_ok : compileFun X.P F_ref01_Digits vH = some A_ref01_Digits := by rw [hX]; kernel_rfl
theorem A_strconv_FormatInt_124_ok : compileFun X.P F_strconv_FormatInt_124 vH = some A_strconv_FormatInt_124 := by rw [hX]; kernel_rfl
theorem A_slices_Chunk_int64_int64_1_ok : compileFun X.P F_slices_Chunk_int64_int64_1 vH = some A_slices_Chunk_int64_int64_1 := by rw [hX]; kernel_rfl
theorem A_runes_Bytes_1_ok : compileFun X.P F_runes_Bytes_1 vH = some A_runes_Bytes_1 := by rw [hX]; kernel_rfl
theorem A_utf8_AppendRune_ok : compileFun X.P F_utf8_AppendRune vH = some A_utf8_AppendRune := by rw [hX]; kernel_rfl
theorem A_lexer_quoted_ok : compileFun X.P F_lexer_quoted vH = some A_lexer_quoted := by rw [hX]; kernel_rfl
theorem A_ref14_runes_ok : compileFun X.P F_ref14_runes vH = some A_ref14_runes := by rw [hX]; kernel_rfl
theorem A_ref14_quoted_ok : compileFun X.P F_ref14_quoted vH = some A_ref14_quoted := by rw [hX]; kernel_rfl
theorem A_ref02_Encode_ok : compileFun X.P F_ref02_Encode vH = some A_ref02_Encode := by rw [hX]; kernel_rfl
theorem A_ref02_Decode_ok : compileFun X.P F_ref02_Decode vH = some A_ref02_Decode := by rw [hX]; kernel_rfl
theorem A_slices_ContainsFunc_int_int_ok : compileFun X.P F_slices_ContainsFunc_int_int vH = some A_slices_ContainsFunc_int_int := by rw [hX]; kernel_rfl
theorem A_shapes_Check_1_ok : compileFun X.P F_shapes_Check_1 vH = some A_shapes_Check_1 := by rw [hX]; kernel_rfl
theorem A_shapes_Check_2_ok : compileFun X.P F_shapes_Check_2 vH = some A_shapes_Check_2 := by rw [hX]; kernel_rfl
theorem A_shapes_Check_3_ok : compileFun X.P F_shapes_Check_3 vH = some A_shapes_Check_3 := by rw [hX]; kernel_rfl
theorem A_strings_Index_ok : compileFun X.P F_strings_Index vH = some A_strings_Index := by rw [hX]; kernel_rfl
theorem A_strings_TrimPrefix_ok : compileFun X.P F_strings_TrimPrefix vH = some A_strings_TrimPrefix := by rw [hX]; kernel_rfl
theorem A_strings_Trim_ok : compileFun X.P F_strings_Trim vH = some A_strings_Trim := by rw [hX]; kernel_rfl
theorem A_strconv_formatBits_ok : compileFun X.P F_strconv_formatBits vH = some A_strconv_formatBits := by rw [hX]; kernel_rfl
theorem A_utf8_appendRuneNonASCII_ok : compileFun X.P F_utf8_appendRuneNonASCII vH = some A_utf8_appendRuneNonASCII := by rw [hX]; kernel_rfl
theorem A_ref14_code_ok : compileFun X.P F_ref14_code vH = some A_ref14_code := by rw [hX]; kernel_rfl
end
end Go.Avm
