/- The functions as they have been read. -/
import Derived.Test.YtpkgglpiboeogaaGreatDoorAG2
import Derived.Test.YtpkgglpiboeogaaGreatDoorProg
set_option linter.unusedSectionVars false
set_option linter.unusedSimpArgs false
set_option linter.unusedVariables false

/- The functions as they have been read. -/
namespace Go.Avm
open Go
/- strconv_toError -/
/- strings_Cut -/
def A_strings_Cut : AFun := ⟨13,
  .seq (.region false [⟨(some 4), .mov (.c (.str [])), none⟩,
    ⟨(some 5), .mov (.c (.str [])), none⟩,
    ⟨(some 6), .mov (.c (.bool false)), none⟩])
  (.seq (.region false [⟨(some 7), .mov (.t 0), none⟩,
    ⟨(some 8), .mov (.t 1), none⟩,
    ⟨(some 9), .call F_stringslite_Cut [(.t 7), (.t 8)], none⟩,
    ⟨(some 10), .extr (.t 9) 0, none⟩,
    ⟨(some 11), .extr (.t 9) 1, none⟩,
    ⟨(some 12), .extr (.t 9) 2, none⟩,
    ⟨(some 4), .mov (.t 10), none⟩,
    ⟨(some 5), .mov (.t 11), none⟩,
    ⟨(some 6), .mov (.t 12), none⟩])
  (.ret)),
  [.tmp 4, .tmp 5, .tmp 6]⟩

/- strings_Trim -/
def A_strings_Trim : AFun := ⟨43,
  .seq (.region false [⟨(some 4), .mov (.c (.str [])), none⟩])
  (.seq (.seq (.region false [⟨(some 7), .mov (.t 0), none⟩,
    ⟨(some 8), .bin .eql (.t 7) (.c (.str [])), none⟩,
    ⟨(some 9), .mov (.t 8), none⟩,
    ⟨(some 10), .mov (.t 1), some (9, false)⟩,
    ⟨(some 11), .bin .eql (.t 10) (.c (.str [])), some (9, false)⟩,
    ⟨(some 12), .pick (.t 9) (.c (.bool true)) (.t 11), none⟩])
  (.cond (.t 12)
   (.seq (.region false [⟨(some 13), .mov (.t 0), none⟩,
     ⟨(some 4), .mov (.t 13), none⟩])
   (.ret))
   (.skip)))
  (.seq (.seq (.region false [⟨(some 14), .mov (.t 1), none⟩,
    ⟨(some 15), .lenS (.t 14), none⟩,
    ⟨(some 16), .bin .eql (.t 15) (.c (.int .i64 1)), none⟩,
    ⟨(some 17), .mov (.t 16), none⟩,
    ⟨(some 18), .mov (.t 1), some (17, true)⟩,
    ⟨(some 19), .idxS (.t 18) (.c (.int .i64 0)), some (17, true)⟩,
    ⟨(some 20), .bin .lss (.t 19) (.c (.int .u8 128)), some (17, true)⟩,
    ⟨(some 21), .pick (.t 17) (.t 20) (.c (.bool false)), none⟩])
  (.cond (.t 21)
   (.seq (.region true [⟨(some 22), .mov (.t 0), none⟩,
     ⟨(some 23), .mov (.t 1), none⟩,
     ⟨(some 24), .idxS (.t 23) (.c (.int .i64 0)), none⟩,
     ⟨(some 25), .call F_strings_trimRightByte [(.t 22), (.t 24)], none⟩,
     ⟨(some 26), .mov (.t 1), none⟩,
     ⟨(some 27), .idxS (.t 26) (.c (.int .i64 0)), none⟩,
     ⟨(some 28), .call F_strings_trimLeftByte [(.t 25), (.t 27)], none⟩,
     ⟨(some 4), .mov (.t 28), none⟩])
   (.ret))
   (.skip)))
  (.seq (.seq (.region false [⟨(some 30), .mov (.t 1), none⟩,
    ⟨(some 31), .call F_strings_makeASCIISet [(.t 30)], none⟩,
    ⟨(some 29), .mov (.t 31), none⟩,
    ⟨(some 32), .extr (.t 29) 0, none⟩,
    ⟨(some 33), .extr (.t 29) 1, none⟩,
    ⟨(some 5), .alloc (List.replicate 256 (.bool false)), none⟩,
    ⟨none, .st 256 (.t 5) (.t 32), none⟩,
    ⟨(some 6), .mov (.t 33), none⟩])
  (.seq (.region false [⟨(some 34), .mov (.t 6), none⟩])
  (.cond (.t 34)
   (.seq (.region false [⟨(some 35), .mov (.t 0), none⟩,
     ⟨(some 36), .call F_strings_trimRightASCII [(.t 35), (.t 5)], none⟩,
     ⟨(some 37), .call F_strings_trimLeftASCII [(.t 36), (.t 5)], none⟩,
     ⟨(some 4), .mov (.t 37), none⟩])
   (.ret))
   (.skip))))
  (.seq (.region false [⟨(some 38), .mov (.t 0), none⟩,
    ⟨(some 39), .mov (.t 1), none⟩,
    ⟨(some 40), .call F_strings_trimRightUnicode [(.t 38), (.t 39)], none⟩,
    ⟨(some 41), .mov (.t 1), none⟩,
    ⟨(some 42), .call F_strings_trimLeftUnicode [(.t 40), (.t 41)], none⟩,
    ⟨(some 4), .mov (.t 42), none⟩])
  (.ret))))),
  [.tmp 4]⟩

/- utf8_ValidRune -/
def A_utf8_ValidRune : AFun := ⟨17,
  .seq (.region false [⟨(some 2), .mov (.c (.bool false)), none⟩])
  (.seq (.block 0 (.seq (.region false [⟨(some 4), .mov (.t 0), none⟩,
    ⟨(some 5), .bin .leq (.c (.int .i32 0)) (.t 4), none⟩,
    ⟨(some 6), .mov (.t 5), none⟩,
    ⟨(some 7), .mov (.t 0), some (6, true)⟩,
    ⟨(some 8), .bin .lss (.t 7) (.c (.int .i32 55296)), some (6, true)⟩,
    ⟨(some 9), .pick (.t 6) (.t 8) (.c (.bool false)), none⟩,
    ⟨(some 3), .mov (.t 9), none⟩])
  (.cond (.t 3)
   (.seq (.region false [⟨(some 2), .mov (.c (.bool true)), none⟩])
   (.ret))
   (.seq (.region false [⟨(some 11), .mov (.t 0), none⟩,
     ⟨(some 12), .bin .lss (.c (.int .i32 57343)) (.t 11), none⟩,
     ⟨(some 13), .mov (.t 12), none⟩,
     ⟨(some 14), .mov (.t 0), some (13, true)⟩,
     ⟨(some 15), .bin .leq (.t 14) (.c (.int .i32 1114111)), some (13, true)⟩,
     ⟨(some 16), .pick (.t 13) (.t 15) (.c (.bool false)), none⟩,
     ⟨(some 10), .mov (.t 16), none⟩])
   (.cond (.t 10)
    (.seq (.region false [⟨(some 2), .mov (.c (.bool true)), none⟩])
    (.ret))
    (.skip))))))
  (.seq (.region false [⟨(some 2), .mov (.c (.bool false)), none⟩])
  (.ret))),
  [.tmp 2]⟩

/- strconv_small -/
/- strconv_numDigits -/
/- strconv_formatBase10 -/
/- strconv_formatBits -/
def A_strconv_formatBitsL0 : ACode :=
  .seq (.seq (.region false [⟨(some 44), .mov (.t 1), none⟩,
    ⟨(some 45), .mov (.t 15), none⟩,
    ⟨(some 46), .bin .geq (.t 44) (.t 45), none⟩])
  (.cond (.t 46)
   (.skip)
   (.exit 0)))
  (.block 1 (.seq (.region false [⟨(some 47), .mov (.t 13), none⟩,
    ⟨(some 48), .bin .sub (.t 47) (.c (.int .i64 1)), none⟩,
    ⟨(some 13), .mov (.t 48), none⟩])
  (.seq (.region false [⟨(some 49), .mov (.t 13), none⟩,
    ⟨(some 50), .mov (.t 1), none⟩,
    ⟨(some 51), .mov (.t 16), none⟩,
    ⟨(some 52), .bin .and (.t 50) (.t 51), none⟩,
    ⟨(some 53), .idxS (.c (.str [48, 49, 50, 51, 52, 53, 54, 55, 56, 57, 97, 98, 99, 100, 101, 102, 103, 104, 105, 106, 107, 108, 109, 110, 111, 112, 113, 114, 115, 116, 117, 118, 119, 120, 121, 122])) (.t 52), none⟩,
    ⟨(some 54), .idxP 65 1 (.t 12) (.t 49), none⟩,
    ⟨none, .st 1 (.t 54) (.t 53), none⟩])
  (.region false [⟨(some 55), .mov (.t 1), none⟩,
    ⟨(some 56), .mov (.t 14), none⟩,
    ⟨(some 57), .bin .shr (.t 55) (.t 56), none⟩,
    ⟨(some 1), .mov (.t 57), none⟩]))))
def A_strconv_formatBitsL1 : ACode :=
  .seq (.seq (.region false [⟨(some 66), .mov (.t 1), none⟩,
    ⟨(some 67), .mov (.t 17), none⟩,
    ⟨(some 68), .bin .geq (.t 66) (.t 67), none⟩])
  (.cond (.t 68)
   (.skip)
   (.exit 2)))
  (.block 3 (.seq (.region false [⟨(some 69), .mov (.t 13), none⟩,
    ⟨(some 70), .bin .sub (.t 69) (.c (.int .i64 1)), none⟩,
    ⟨(some 13), .mov (.t 70), none⟩])
  (.seq (.region false [⟨(some 71), .mov (.t 1), none⟩,
    ⟨(some 72), .mov (.t 17), none⟩,
    ⟨(some 73), .bin .quo (.t 71) (.t 72), none⟩,
    ⟨(some 18), .mov (.t 73), none⟩])
  (.seq (.region false [⟨(some 74), .mov (.t 13), none⟩,
    ⟨(some 75), .mov (.t 1), none⟩,
    ⟨(some 76), .mov (.t 18), none⟩,
    ⟨(some 77), .mov (.t 17), none⟩,
    ⟨(some 78), .bin .mul (.t 76) (.t 77), none⟩,
    ⟨(some 79), .bin .sub (.t 75) (.t 78), none⟩,
    ⟨(some 80), .idxS (.c (.str [48, 49, 50, 51, 52, 53, 54, 55, 56, 57, 97, 98, 99, 100, 101, 102, 103, 104, 105, 106, 107, 108, 109, 110, 111, 112, 113, 114, 115, 116, 117, 118, 119, 120, 121, 122])) (.t 79), none⟩,
    ⟨(some 81), .idxP 65 1 (.t 12) (.t 74), none⟩,
    ⟨none, .st 1 (.t 81) (.t 80), none⟩])
  (.region false [⟨(some 82), .mov (.t 18), none⟩,
    ⟨(some 1), .mov (.t 82), none⟩])))))
def A_strconv_formatBits : AFun := ⟨102,
  .seq (.region false [⟨(some 10), .mov (.c (.sl .ex [])), none⟩,
    ⟨(some 11), .mov (.c (.str [])), none⟩])
  (.seq (.seq (.region false [⟨(some 19), .mov (.t 2), none⟩,
    ⟨(some 20), .bin .lss (.t 19) (.c (.int .i64 2)), none⟩,
    ⟨(some 21), .mov (.t 20), none⟩,
    ⟨(some 22), .mov (.t 2), some (21, false)⟩,
    ⟨(some 23), .bin .eql (.t 22) (.c (.int .i64 10)), some (21, false)⟩,
    ⟨(some 24), .pick (.t 21) (.c (.bool true)) (.t 23), none⟩,
    ⟨(some 25), .mov (.t 24), none⟩,
    ⟨(some 26), .mov (.t 2), some (25, false)⟩,
    ⟨(some 27), .bin .gtr (.t 26) (.c (.int .i64 36)), some (25, false)⟩,
    ⟨(some 28), .pick (.t 25) (.c (.bool true)) (.t 27), none⟩])
  (.cond (.t 28)
   (.bad)
   (.skip)))
  (.seq (.region false [⟨(some 12), .alloc (List.replicate 65 (.int .u8 0)), none⟩])
  (.seq (.region false [⟨(some 13), .mov (.c (.int .i64 65)), none⟩])
  (.seq (.seq (.region false [⟨(some 30), .mov (.t 3), none⟩])
  (.cond (.t 30)
   (.region false [⟨(some 31), .mov (.t 1), none⟩,
     ⟨(some 32), .neg (.t 31), none⟩,
     ⟨(some 1), .mov (.t 32), none⟩])
   (.skip)))
  (.seq (.seq (.region false [⟨(some 33), .mov (.t 2), none⟩,
    ⟨(some 34), .call F_strconv_isPowerOfTwo [(.t 33)], none⟩])
  (.cond (.t 34)
   (.seq (.region false [⟨(some 35), .mov (.t 2), none⟩,
     ⟨(some 36), .conv .u64 (.t 35), none⟩,
     ⟨(some 37), .call F_bits_TrailingZeros [(.t 36)], none⟩,
     ⟨(some 38), .conv .u64 (.t 37), none⟩,
     ⟨(some 14), .mov (.t 38), none⟩])
   (.seq (.region false [⟨(some 39), .mov (.t 2), none⟩,
     ⟨(some 40), .conv .u64 (.t 39), none⟩,
     ⟨(some 15), .mov (.t 40), none⟩])
   (.seq (.region false [⟨(some 41), .mov (.t 2), none⟩,
     ⟨(some 42), .conv .u64 (.t 41), none⟩,
     ⟨(some 43), .bin .sub (.t 42) (.c (.int .u64 1)), none⟩,
     ⟨(some 16), .mov (.t 43), none⟩])
   (.seq (.block 0 (.loop A_strconv_formatBitsL0))
   (.seq (.region false [⟨(some 58), .mov (.t 13), none⟩,
     ⟨(some 59), .bin .sub (.t 58) (.c (.int .i64 1)), none⟩,
     ⟨(some 13), .mov (.t 59), none⟩])
   (.region false [⟨(some 60), .mov (.t 13), none⟩,
     ⟨(some 61), .mov (.t 1), none⟩,
     ⟨(some 62), .idxS (.c (.str [48, 49, 50, 51, 52, 53, 54, 55, 56, 57, 97, 98, 99, 100, 101, 102, 103, 104, 105, 106, 107, 108, 109, 110, 111, 112, 113, 114, 115, 116, 117, 118, 119, 120, 121, 122])) (.t 61), none⟩,
     ⟨(some 63), .idxP 65 1 (.t 12) (.t 60), none⟩,
     ⟨none, .st 1 (.t 63) (.t 62), none⟩]))))))
   (.seq (.region false [⟨(some 64), .mov (.t 2), none⟩,
     ⟨(some 65), .conv .u64 (.t 64), none⟩,
     ⟨(some 17), .mov (.t 65), none⟩])
   (.seq (.block 2 (.loop A_strconv_formatBitsL1))
   (.seq (.region false [⟨(some 83), .mov (.t 13), none⟩,
     ⟨(some 84), .bin .sub (.t 83) (.c (.int .i64 1)), none⟩,
     ⟨(some 13), .mov (.t 84), none⟩])
   (.region false [⟨(some 85), .mov (.t 13), none⟩,
     ⟨(some 86), .mov (.t 1), none⟩,
     ⟨(some 87), .idxS (.c (.str [48, 49, 50, 51, 52, 53, 54, 55, 56, 57, 97, 98, 99, 100, 101, 102, 103, 104, 105, 106, 107, 108, 109, 110, 111, 112, 113, 114, 115, 116, 117, 118, 119, 120, 121, 122])) (.t 86), none⟩,
     ⟨(some 88), .idxP 65 1 (.t 12) (.t 85), none⟩,
     ⟨none, .st 1 (.t 88) (.t 87), none⟩]))))))
  (.seq (.seq (.region false [⟨(some 89), .mov (.t 3), none⟩])
  (.cond (.t 89)
   (.seq (.region false [⟨(some 90), .mov (.t 13), none⟩,
     ⟨(some 91), .bin .sub (.t 90) (.c (.int .i64 1)), none⟩,
     ⟨(some 13), .mov (.t 91), none⟩])
   (.region false [⟨(some 92), .mov (.t 13), none⟩,
     ⟨(some 93), .idxP 65 1 (.t 12) (.t 92), none⟩,
     ⟨none, .st 1 (.t 93) (.c (.int .u8 45)), none⟩]))
   (.skip)))
  (.seq (.seq (.region false [⟨(some 94), .mov (.t 4), none⟩])
  (.cond (.t 94)
   (.seq (.region false [⟨(some 95), .mov (.t 0), none⟩,
     ⟨(some 96), .mov (.t 13), none⟩,
     ⟨(some 97), .slA 65 1 (.t 12) (some (.t 96)) none none, none⟩,
     ⟨(some 98), .app 1 1 (.t 95) (.t 97), none⟩,
     ⟨(some 10), .mov (.t 98), none⟩])
   (.ret))
   (.skip)))
  (.seq (.region false [⟨(some 99), .mov (.t 13), none⟩,
    ⟨(some 100), .slA 65 1 (.t 12) (some (.t 99)) none none, none⟩,
    ⟨(some 101), .b2s (.t 100), none⟩,
    ⟨(some 11), .mov (.t 101), none⟩])
  (.ret))))))))),
  [.tmp 10, .tmp 11]⟩

/- strings_IndexRune -/
def A_strings_IndexRuneL0 : ACode :=
  .seq (.region false [⟨(some 176), .nxt (.t 175), none⟩,
    ⟨(some 177), .extr (.t 176) 0, none⟩])
  (.seq (.cond (.t 177)
   (.skip)
   (.exit 9))
  (.block 10 (.seq (.region false [⟨(some 178), .extr (.t 176) 1, none⟩,
    ⟨(some 179), .extr (.t 176) 2, none⟩,
    ⟨(some 5), .mov (.t 178), none⟩,
    ⟨(some 6), .mov (.t 179), none⟩])
  (.seq (.region false [⟨(some 180), .mov (.t 6), none⟩,
    ⟨(some 181), .bin .eql (.t 180) (.c (.int .i32 65533)), none⟩])
  (.cond (.t 181)
   (.seq (.region false [⟨(some 182), .mov (.t 5), none⟩,
     ⟨(some 4), .mov (.t 182), none⟩])
   (.ret))
   (.skip))))))
def A_strings_IndexRuneL4 : ACode :=
  .seq (.seq (.region false [⟨(some 48), .mov (.t 12), none⟩,
    ⟨(some 49), .mov (.t 7), none⟩,
    ⟨(some 50), .lenS (.t 49), none⟩,
    ⟨(some 51), .bin .lss (.t 48) (.t 50), none⟩])
  (.cond (.t 51)
   (.skip)
   (.exit 3)))
  (.seq (.block 4 (.seq (.region true [⟨(some 54), .mov (.t 0), none⟩,
    ⟨(some 55), .mov (.t 9), none⟩,
    ⟨(some 56), .mov (.t 12), none⟩,
    ⟨(some 57), .bin .sub (.t 55) (.t 56), none⟩,
    ⟨(some 58), .idxS (.t 54) (.t 57), none⟩,
    ⟨(some 59), .mov (.t 7), none⟩,
    ⟨(some 60), .mov (.t 8), none⟩,
    ⟨(some 61), .mov (.t 12), none⟩,
    ⟨(some 62), .bin .sub (.t 60) (.t 61), none⟩,
    ⟨(some 63), .idxS (.t 59) (.t 62), none⟩,
    ⟨(some 64), .bin .neq (.t 58) (.t 63), none⟩])
  (.cond (.t 64)
   (.goto 0)
   (.skip))))
  (.region false [⟨(some 52), .mov (.t 12), none⟩,
    ⟨(some 53), .bin .add (.t 52) (.c (.int .i64 1)), none⟩,
    ⟨(some 12), .mov (.t 53), none⟩]))
def A_strings_IndexRuneJ3 : ACode :=
  .seq (.seq (.region true [⟨(some 27), .mov (.t 0), none⟩,
    ⟨(some 28), .mov (.t 9), none⟩,
    ⟨(some 29), .idxS (.t 27) (.t 28), none⟩,
    ⟨(some 30), .mov (.t 7), none⟩,
    ⟨(some 31), .mov (.t 8), none⟩,
    ⟨(some 32), .idxS (.t 30) (.t 31), none⟩,
    ⟨(some 33), .bin .neq (.t 29) (.t 32), none⟩])
  (.cond (.t 33)
   (.seq (.region true [⟨(some 34), .mov (.t 0), none⟩,
     ⟨(some 35), .mov (.t 9), none⟩,
     ⟨(some 36), .bin .add (.t 35) (.c (.int .i64 1)), none⟩,
     ⟨(some 37), .ssl (.t 34) (some (.t 36)) none, none⟩,
     ⟨(some 38), .mov (.t 7), none⟩,
     ⟨(some 39), .mov (.t 8), none⟩,
     ⟨(some 40), .idxS (.t 38) (.t 39), none⟩,
     ⟨(some 41), .call F_strings_IndexByte [(.t 37), (.t 40)], none⟩,
     ⟨(some 11), .mov (.t 41), none⟩])
   (.seq (.seq (.region false [⟨(some 42), .mov (.t 11), none⟩,
     ⟨(some 43), .bin .lss (.t 42) (.c (.int .i64 0)), none⟩])
   (.cond (.t 43)
    (.seq (.region false [⟨(some 4), .mov (.c (.int .i64 (-1))), none⟩])
    (.ret))
    (.skip)))
   (.region false [⟨(some 44), .mov (.t 9), none⟩,
     ⟨(some 45), .mov (.t 11), none⟩,
     ⟨(some 46), .bin .add (.t 45) (.c (.int .i64 1)), none⟩,
     ⟨(some 47), .bin .add (.t 44) (.t 46), none⟩,
     ⟨(some 9), .mov (.t 47), none⟩])))
   (.skip)))
  (.seq (.seq (.region false [⟨(some 12), .mov (.c (.int .i64 1)), none⟩])
  (.block 3 (.loop A_strings_IndexRuneL4)))
  (.seq (.seq (.region false [⟨(some 65), .mov (.t 9), none⟩,
    ⟨(some 66), .mov (.t 8), none⟩,
    ⟨(some 67), .bin .sub (.t 65) (.t 66), none⟩,
    ⟨(some 4), .mov (.t 67), none⟩])
  (.ret))
  (.seq (.label 0)
  (.seq (.region false [⟨(some 68), .mov (.t 10), none⟩,
    ⟨(some 69), .bin .add (.t 68) (.c (.int .i64 1)), none⟩,
    ⟨(some 10), .mov (.t 69), none⟩])
  (.seq (.region false [⟨(some 70), .mov (.t 9), none⟩,
    ⟨(some 71), .bin .add (.t 70) (.c (.int .i64 1)), none⟩,
    ⟨(some 9), .mov (.t 71), none⟩])
  (.seq (.region false [⟨(some 72), .mov (.c (.bool true)), none⟩,
    ⟨(some 73), .mov (.t 10), some (72, true)⟩,
    ⟨(some 74), .mov (.t 9), some (72, true)⟩,
    ⟨(some 75), .call F_bytealg_Cutover [(.t 74)], some (72, true)⟩,
    ⟨(some 76), .bin .gtr (.t 73) (.t 75), some (72, true)⟩,
    ⟨(some 77), .pick (.t 72) (.t 76) (.c (.bool false)), none⟩,
    ⟨(some 78), .mov (.t 77), none⟩,
    ⟨(some 79), .mov (.t 9), some (78, true)⟩,
    ⟨(some 80), .mov (.t 0), some (78, true)⟩,
    ⟨(some 81), .lenS (.t 80), some (78, true)⟩,
    ⟨(some 82), .bin .lss (.t 79) (.t 81), some (78, true)⟩,
    ⟨(some 83), .pick (.t 78) (.t 82) (.c (.bool false)), none⟩,
    ⟨(some 84), .mov (.t 83), none⟩,
    ⟨(some 85), .mov (.c (.bool false)), some (84, false)⟩,
    ⟨(some 86), .mov (.t 10), some (85, true)⟩,
    ⟨(some 87), .mov (.t 9), some (85, true)⟩,
    ⟨(some 88), .bin .shr (.t 87) (.c (.int .u64 4)), some (85, true)⟩,
    ⟨(some 89), .bin .add (.c (.int .i64 4)) (.t 88), some (85, true)⟩,
    ⟨(some 90), .bin .geq (.t 86) (.t 89), some (85, true)⟩,
    ⟨(some 91), .pick (.t 85) (.t 90) (.c (.bool false)), some (84, false)⟩,
    ⟨(some 92), .mov (.t 91), some (84, false)⟩,
    ⟨(some 93), .mov (.t 9), some (92, true)⟩,
    ⟨(some 94), .mov (.t 0), some (92, true)⟩,
    ⟨(some 95), .lenS (.t 94), some (92, true)⟩,
    ⟨(some 96), .bin .lss (.t 93) (.t 95), some (92, true)⟩,
    ⟨(some 97), .pick (.t 92) (.t 96) (.c (.bool false)), some (84, false)⟩,
    ⟨(some 98), .pick (.t 84) (.c (.bool true)) (.t 97), none⟩])
  (.cond (.t 98)
   (.goto 1)
   (.skip))))))))
def A_strings_IndexRuneL2 : ACode :=
  .seq (.seq (.region false [⟨(some 23), .mov (.t 9), none⟩,
    ⟨(some 24), .mov (.t 0), none⟩,
    ⟨(some 25), .lenS (.t 24), none⟩,
    ⟨(some 26), .bin .lss (.t 23) (.t 25), none⟩])
  (.cond (.t 26)
   (.skip)
   (.exit 1)))
  (.block 2 (.scopeJ A_strings_IndexRuneJ3))
def A_strings_IndexRuneL6 : ACode :=
  .seq (.seq (.region false [⟨(some 140), .mov (.t 16), none⟩,
    ⟨(some 141), .mov (.t 7), none⟩,
    ⟨(some 142), .lenS (.t 141), none⟩,
    ⟨(some 143), .bin .lss (.t 140) (.t 142), none⟩])
  (.cond (.t 143)
   (.skip)
   (.exit 7)))
  (.seq (.block 8 (.seq (.region true [⟨(some 146), .mov (.t 0), none⟩,
    ⟨(some 147), .mov (.t 9), none⟩,
    ⟨(some 148), .mov (.t 16), none⟩,
    ⟨(some 149), .bin .sub (.t 147) (.t 148), none⟩,
    ⟨(some 150), .idxS (.t 146) (.t 149), none⟩,
    ⟨(some 151), .mov (.t 7), none⟩,
    ⟨(some 152), .mov (.t 8), none⟩,
    ⟨(some 153), .mov (.t 16), none⟩,
    ⟨(some 154), .bin .sub (.t 152) (.t 153), none⟩,
    ⟨(some 155), .idxS (.t 151) (.t 154), none⟩,
    ⟨(some 156), .bin .neq (.t 150) (.t 155), none⟩])
  (.cond (.t 156)
   (.exit 6)
   (.skip))))
  (.region false [⟨(some 144), .mov (.t 16), none⟩,
    ⟨(some 145), .bin .add (.t 144) (.c (.int .i64 1)), none⟩,
    ⟨(some 16), .mov (.t 145), none⟩]))
def A_strings_IndexRuneL5 : ACode :=
  .seq (.seq (.region false [⟨(some 121), .mov (.t 9), none⟩,
    ⟨(some 122), .mov (.t 0), none⟩,
    ⟨(some 123), .lenS (.t 122), none⟩,
    ⟨(some 124), .bin .lss (.t 121) (.t 123), none⟩])
  (.cond (.t 124)
   (.skip)
   (.exit 5)))
  (.seq (.block 6 (.seq (.region false [⟨(some 127), .mov (.t 0), none⟩,
    ⟨(some 128), .mov (.t 9), none⟩,
    ⟨(some 129), .idxS (.t 127) (.t 128), none⟩,
    ⟨(some 130), .mov (.t 14), none⟩,
    ⟨(some 131), .bin .eql (.t 129) (.t 130), none⟩,
    ⟨(some 132), .mov (.t 131), none⟩,
    ⟨(some 133), .mov (.t 0), some (132, true)⟩,
    ⟨(some 134), .mov (.t 9), some (132, true)⟩,
    ⟨(some 135), .bin .sub (.t 134) (.c (.int .i64 1)), some (132, true)⟩,
    ⟨(some 136), .idxS (.t 133) (.t 135), some (132, true)⟩,
    ⟨(some 137), .mov (.t 15), some (132, true)⟩,
    ⟨(some 138), .bin .eql (.t 136) (.t 137), some (132, true)⟩,
    ⟨(some 139), .pick (.t 132) (.t 138) (.c (.bool false)), none⟩])
  (.cond (.t 139)
   (.seq (.seq (.region false [⟨(some 16), .mov (.c (.int .i64 2)), none⟩])
   (.block 7 (.loop A_strings_IndexRuneL6)))
   (.seq (.region false [⟨(some 157), .mov (.t 9), none⟩,
     ⟨(some 158), .mov (.t 8), none⟩,
     ⟨(some 159), .bin .sub (.t 157) (.t 158), none⟩,
     ⟨(some 4), .mov (.t 159), none⟩])
   (.ret)))
   (.skip))))
  (.region false [⟨(some 125), .mov (.t 9), none⟩,
    ⟨(some 126), .bin .add (.t 125) (.c (.int .i64 1)), none⟩,
    ⟨(some 9), .mov (.t 126), none⟩]))
def A_strings_IndexRuneJ1 : ACode :=
  .seq (.region false [⟨(some 17), .mov (.t 1), none⟩,
    ⟨(some 18), .r2s (.t 17), none⟩,
    ⟨(some 7), .mov (.t 18), none⟩])
  (.seq (.region false [⟨(some 19), .mov (.t 7), none⟩,
    ⟨(some 20), .lenS (.t 19), none⟩,
    ⟨(some 21), .bin .sub (.t 20) (.c (.int .i64 1)), none⟩,
    ⟨(some 8), .mov (.t 21), none⟩])
  (.seq (.region false [⟨(some 22), .mov (.t 8), none⟩,
    ⟨(some 9), .mov (.t 22), none⟩])
  (.seq (.region false [⟨(some 10), .mov (.c (.int .i64 0)), none⟩])
  (.seq (.block 1 (.loop A_strings_IndexRuneL2))
  (.seq (.seq (.region false [⟨(some 4), .mov (.c (.int .i64 (-1))), none⟩])
  (.ret))
  (.seq (.label 1)
  (.seq (.cond (.c (.bool true))
   (.seq (.bad)
   (.seq (.region false [⟨(some 107), .mov (.t 13), none⟩,
     ⟨(some 108), .bin .geq (.t 107) (.c (.int .i64 0)), none⟩])
   (.cond (.t 108)
    (.seq (.region false [⟨(some 109), .mov (.t 9), none⟩,
      ⟨(some 110), .mov (.t 13), none⟩,
      ⟨(some 111), .bin .add (.t 109) (.t 110), none⟩,
      ⟨(some 112), .mov (.t 8), none⟩,
      ⟨(some 113), .bin .sub (.t 111) (.t 112), none⟩,
      ⟨(some 4), .mov (.t 113), none⟩])
    (.ret))
    (.skip))))
   (.scope (.seq (.region false [⟨(some 114), .mov (.t 7), none⟩,
      ⟨(some 115), .mov (.t 8), none⟩,
      ⟨(some 116), .idxS (.t 114) (.t 115), none⟩,
      ⟨(some 14), .mov (.t 116), none⟩])
    (.seq (.region false [⟨(some 117), .mov (.t 7), none⟩,
      ⟨(some 118), .mov (.t 8), none⟩,
      ⟨(some 119), .bin .sub (.t 118) (.c (.int .i64 1)), none⟩,
      ⟨(some 120), .idxS (.t 117) (.t 119), none⟩,
      ⟨(some 15), .mov (.t 120), none⟩])
    (.seq (.label 2)
    (.block 5 (.loop A_strings_IndexRuneL5)))))))
  (.seq (.region false [⟨(some 4), .mov (.c (.int .i64 (-1))), none⟩])
  (.ret)))))))))
def A_strings_IndexRune : AFun := ⟨187,
  .seq (.region false [⟨(some 4), .mov (.c (.int .i64 0)), none⟩])
  (.block 0 (.seq (.region false [⟨(some 161), .mov (.t 1), none⟩,
    ⟨(some 162), .bin .leq (.c (.int .i32 0)) (.t 161), none⟩,
    ⟨(some 163), .mov (.t 162), none⟩,
    ⟨(some 164), .mov (.t 1), some (163, true)⟩,
    ⟨(some 165), .bin .lss (.t 164) (.c (.int .i32 128)), some (163, true)⟩,
    ⟨(some 166), .pick (.t 163) (.t 165) (.c (.bool false)), none⟩,
    ⟨(some 160), .mov (.t 166), none⟩])
  (.cond (.t 160)
   (.seq (.region false [⟨(some 167), .mov (.t 0), none⟩,
     ⟨(some 168), .mov (.t 1), none⟩,
     ⟨(some 169), .conv .u8 (.t 168), none⟩,
     ⟨(some 170), .call F_strings_IndexByte [(.t 167), (.t 169)], none⟩,
     ⟨(some 4), .mov (.t 170), none⟩])
   (.ret))
   (.seq (.region false [⟨(some 172), .mov (.t 1), none⟩,
     ⟨(some 173), .bin .eql (.t 172) (.c (.int .i32 65533)), none⟩,
     ⟨(some 171), .mov (.t 173), none⟩])
   (.cond (.t 171)
    (.seq (.seq (.region false [⟨(some 174), .mov (.t 0), none⟩,
      ⟨(some 175), .rng (.t 174), none⟩])
    (.block 9 (.loop A_strings_IndexRuneL0)))
    (.seq (.region false [⟨(some 4), .mov (.c (.int .i64 (-1))), none⟩])
    (.ret)))
    (.seq (.region false [⟨(some 184), .mov (.t 1), none⟩,
      ⟨(some 185), .call F_utf8_ValidRune [(.t 184)], none⟩,
      ⟨(some 186), .not (.t 185), none⟩,
      ⟨(some 183), .mov (.t 186), none⟩])
    (.cond (.t 183)
     (.seq (.region false [⟨(some 4), .mov (.c (.int .i64 (-1))), none⟩])
     (.ret))
     (.scopeJ A_strings_IndexRuneJ1)))))))),
  [.tmp 4]⟩

/- ref02_number -/
def A_ref02_numberL1 : ACode :=
  .seq (.seq (.region false [⟨(some 47), .mov (.t 8), none⟩,
    ⟨(some 48), .mov (.t 5), none⟩,
    ⟨(some 49), .bin .lss (.t 47) (.t 48), none⟩])
  (.cond (.t 49)
   (.skip)
   (.exit 2)))
  (.seq (.block 3 (.seq (.seq (.region false [⟨(some 52), .mov (.t 0), none⟩,
    ⟨(some 53), .mov (.t 8), none⟩,
    ⟨(some 54), .idxA 1 (.t 52) (.t 53), none⟩,
    ⟨(some 55), .ld none (.t 54), none⟩,
    ⟨(some 56), .bin .lss (.t 55) (.c (.int .u8 128)), none⟩,
    ⟨(some 57), .mov (.t 56), none⟩,
    ⟨(some 58), .mov (.t 0), some (57, false)⟩,
    ⟨(some 59), .mov (.t 8), some (57, false)⟩,
    ⟨(some 60), .idxA 1 (.t 58) (.t 59), some (57, false)⟩,
    ⟨(some 61), .ld none (.t 60), some (57, false)⟩,
    ⟨(some 62), .bin .geq (.t 61) (.c (.int .u8 192)), some (57, false)⟩,
    ⟨(some 63), .pick (.t 57) (.c (.bool true)) (.t 62), none⟩])
  (.cond (.t 63)
   (.seq (.region false [⟨(some 2), .mov (.c (.int .i64 (-1))), none⟩])
   (.ret))
   (.skip)))
  (.region false [⟨(some 64), .mov (.t 7), none⟩,
    ⟨(some 65), .bin .mul (.c (.int .i64 64)) (.t 64), none⟩,
    ⟨(some 66), .mov (.t 0), none⟩,
    ⟨(some 67), .mov (.t 8), none⟩,
    ⟨(some 68), .idxA 1 (.t 66) (.t 67), none⟩,
    ⟨(some 69), .ld none (.t 68), none⟩,
    ⟨(some 70), .conv .i64 (.t 69), none⟩,
    ⟨(some 71), .bin .add (.t 65) (.t 70), none⟩,
    ⟨(some 72), .bin .sub (.t 71) (.c (.int .i64 128)), none⟩,
    ⟨(some 7), .mov (.t 72), none⟩])))
  (.region false [⟨(some 50), .mov (.t 8), none⟩,
    ⟨(some 51), .bin .add (.t 50) (.c (.int .i64 1)), none⟩,
    ⟨(some 8), .mov (.t 51), none⟩]))
def A_ref02_numberL0 : ACode :=
  .seq (.seq (.region false [⟨(some 14), .mov (.t 5), none⟩,
    ⟨(some 15), .bin .leq (.t 14) (.c (.int .i64 4)), none⟩])
  (.cond (.t 15)
   (.skip)
   (.exit 0)))
  (.seq (.block 1 (.seq (.region false [⟨(some 18), .mov (.t 5), none⟩,
    ⟨(some 19), .idxP 5 1 (.t 4) (.t 18), none⟩,
    ⟨(some 20), .ld none (.t 19), none⟩,
    ⟨(some 21), .mov (.t 5), none⟩,
    ⟨(some 22), .conv .u64 (.t 21), none⟩,
    ⟨(some 23), .bin .shr (.c (.int .i64 64)) (.t 22), none⟩,
    ⟨(some 24), .bin .mul (.t 23) (.c (.int .i64 2)), none⟩,
    ⟨(some 25), .bin .add (.t 20) (.t 24), none⟩,
    ⟨(some 6), .mov (.t 25), none⟩])
  (.seq (.seq (.region false [⟨(some 26), .mov (.t 0), none⟩,
    ⟨(some 27), .len (.t 26), none⟩,
    ⟨(some 28), .mov (.t 5), none⟩,
    ⟨(some 29), .bin .neq (.t 27) (.t 28), none⟩,
    ⟨(some 30), .mov (.t 29), none⟩,
    ⟨(some 31), .mov (.t 3), some (30, false)⟩,
    ⟨(some 32), .mov (.t 5), some (30, false)⟩,
    ⟨(some 33), .idxP 5 1 (.t 4) (.t 32), some (30, false)⟩,
    ⟨(some 34), .ld none (.t 33), some (30, false)⟩,
    ⟨(some 35), .bin .lss (.t 31) (.t 34), some (30, false)⟩,
    ⟨(some 36), .pick (.t 30) (.c (.bool true)) (.t 35), none⟩,
    ⟨(some 37), .mov (.t 36), none⟩,
    ⟨(some 38), .mov (.t 3), some (37, false)⟩,
    ⟨(some 39), .mov (.t 6), some (37, false)⟩,
    ⟨(some 40), .bin .geq (.t 38) (.t 39), some (37, false)⟩,
    ⟨(some 41), .pick (.t 37) (.c (.bool true)) (.t 40), none⟩])
  (.cond (.t 41)
   (.exit 1)
   (.skip)))
  (.seq (.region false [⟨(some 42), .mov (.t 3), none⟩,
    ⟨(some 43), .mov (.t 5), none⟩,
    ⟨(some 44), .idxP 5 1 (.t 4) (.t 43), none⟩,
    ⟨(some 45), .ld none (.t 44), none⟩,
    ⟨(some 46), .bin .sub (.t 42) (.t 45), none⟩,
    ⟨(some 7), .mov (.t 46), none⟩])
  (.seq (.seq (.region false [⟨(some 8), .mov (.c (.int .i64 1)), none⟩])
  (.block 2 (.loop A_ref02_numberL1)))
  (.seq (.region false [⟨(some 73), .mov (.t 7), none⟩,
    ⟨(some 2), .mov (.t 73), none⟩])
  (.ret)))))))
  (.region false [⟨(some 16), .mov (.t 5), none⟩,
    ⟨(some 17), .bin .add (.t 16) (.c (.int .i64 1)), none⟩,
    ⟨(some 5), .mov (.t 17), none⟩]))
def A_ref02_number : AFun := ⟨82,
  .seq (.region false [⟨(some 2), .mov (.c (.int .i64 0)), none⟩])
  (.seq (.region false [⟨(some 9), .mov (.t 0), none⟩,
    ⟨(some 10), .idxA 1 (.t 9) (.c (.int .i64 0)), none⟩,
    ⟨(some 11), .ld none (.t 10), none⟩,
    ⟨(some 12), .conv .i64 (.t 11), none⟩,
    ⟨(some 3), .mov (.t 12), none⟩])
  (.seq (.region false [⟨(some 13), .build [.int .i64 0, .int .i64 0, .int .i64 0, .int .i64 0, .int .i64 0] [(0, 1, (.c (.int .i64 0))), (1, 1, (.c (.int .i64 0))), (2, 1, (.c (.int .i64 192))), (3, 1, (.c (.int .i64 224))), (4, 1, (.c (.int .i64 240)))], none⟩,
    ⟨(some 4), .alloc [.int .i64 0, .int .i64 0, .int .i64 0, .int .i64 0, .int .i64 0], none⟩,
    ⟨none, .st 5 (.t 4) (.t 13), none⟩])
  (.seq (.seq (.region false [⟨(some 5), .mov (.c (.int .i64 2)), none⟩])
  (.block 0 (.loop A_ref02_numberL0)))
  (.seq (.seq (.region false [⟨(some 74), .mov (.t 0), none⟩,
    ⟨(some 75), .len (.t 74), none⟩,
    ⟨(some 76), .bin .eql (.t 75) (.c (.int .i64 1)), none⟩,
    ⟨(some 77), .mov (.t 76), none⟩,
    ⟨(some 78), .mov (.t 3), some (77, true)⟩,
    ⟨(some 79), .bin .lss (.t 78) (.c (.int .i64 128)), some (77, true)⟩,
    ⟨(some 80), .pick (.t 77) (.t 79) (.c (.bool false)), none⟩])
  (.cond (.t 80)
   (.seq (.region false [⟨(some 81), .mov (.t 3), none⟩,
     ⟨(some 2), .mov (.t 81), none⟩])
   (.ret))
   (.skip)))
  (.seq (.region false [⟨(some 2), .mov (.c (.int .i64 (-1))), none⟩])
  (.ret)))))),
  [.tmp 2]⟩

/- ref02_Is -/
def A_ref02_Is : AFun := ⟨17,
  .seq (.region false [⟨(some 2), .mov (.c (.bool false)), none⟩])
  (.seq (.region false [⟨(some 3), .mov (.t 0), none⟩,
    ⟨(some 4), .bin .geq (.t 3) (.c (.int .i64 0)), none⟩,
    ⟨(some 5), .mov (.t 4), none⟩,
    ⟨(some 6), .mov (.t 0), some (5, true)⟩,
    ⟨(some 7), .bin .leq (.t 6) (.c (.int .i64 1114111)), some (5, true)⟩,
    ⟨(some 8), .pick (.t 5) (.t 7) (.c (.bool false)), none⟩,
    ⟨(some 9), .mov (.t 8), none⟩,
    ⟨(some 10), .mov (.t 0), some (9, true)⟩,
    ⟨(some 11), .bin .lss (.t 10) (.c (.int .i64 55296)), some (9, true)⟩,
    ⟨(some 12), .mov (.t 11), some (9, true)⟩,
    ⟨(some 13), .mov (.t 0), some (12, false)⟩,
    ⟨(some 14), .bin .gtr (.t 13) (.c (.int .i64 57343)), some (12, false)⟩,
    ⟨(some 15), .pick (.t 12) (.c (.bool true)) (.t 14), some (9, true)⟩,
    ⟨(some 16), .pick (.t 9) (.t 15) (.c (.bool false)), none⟩,
    ⟨(some 2), .mov (.t 16), none⟩])
  (.ret)),
  [.tmp 2]⟩

/- ref02_Encode -/
def A_ref02_Encode : AFun := ⟨58,
  .seq (.region false [⟨(some 2), .mov (.c (.sl .ex [])), none⟩,
    ⟨(some 3), .mov (.c (.int .i64 0)), none⟩])
  (.seq (.seq (.region false [⟨(some 4), .mov (.t 0), none⟩,
    ⟨(some 5), .call F_ref02_Is [(.t 4)], none⟩,
    ⟨(some 6), .not (.t 5), none⟩])
  (.cond (.t 6)
   (.seq (.region false [⟨(some 2), .mov (.c (.sl .ex [])), none⟩,
     ⟨(some 3), .mov (.c (.int .i64 7)), none⟩])
   (.ret))
   (.skip)))
  (.seq (.seq (.region false [⟨(some 7), .mov (.t 0), none⟩,
    ⟨(some 8), .bin .lss (.t 7) (.c (.int .i64 128)), none⟩])
  (.cond (.t 8)
   (.seq (.region false [⟨(some 9), .mov (.t 0), none⟩,
     ⟨(some 10), .conv .u8 (.t 9), none⟩,
     ⟨(some 11), .bsl 1 (.int .u8 0) 1 [(0, (.t 10))], none⟩,
     ⟨(some 2), .mov (.t 11), none⟩,
     ⟨(some 3), .mov (.c (.int .i64 0)), none⟩])
   (.ret))
   (.skip)))
  (.seq (.seq (.region false [⟨(some 12), .mov (.t 0), none⟩,
    ⟨(some 13), .bin .lss (.t 12) (.c (.int .i64 2048)), none⟩])
  (.cond (.t 13)
   (.seq (.region false [⟨(some 14), .mov (.t 0), none⟩,
     ⟨(some 15), .bin .quo (.t 14) (.c (.int .i64 64)), none⟩,
     ⟨(some 16), .bin .add (.c (.int .i64 192)) (.t 15), none⟩,
     ⟨(some 17), .conv .u8 (.t 16), none⟩,
     ⟨(some 18), .mov (.t 0), none⟩,
     ⟨(some 19), .bin .rem (.t 18) (.c (.int .i64 64)), none⟩,
     ⟨(some 20), .bin .add (.c (.int .i64 128)) (.t 19), none⟩,
     ⟨(some 21), .conv .u8 (.t 20), none⟩,
     ⟨(some 22), .bsl 1 (.int .u8 0) 2 [(0, (.t 17)), (1, (.t 21))], none⟩,
     ⟨(some 2), .mov (.t 22), none⟩,
     ⟨(some 3), .mov (.c (.int .i64 0)), none⟩])
   (.ret))
   (.skip)))
  (.seq (.seq (.region false [⟨(some 23), .mov (.t 0), none⟩,
    ⟨(some 24), .bin .lss (.t 23) (.c (.int .i64 65536)), none⟩])
  (.cond (.t 24)
   (.seq (.region false [⟨(some 25), .mov (.t 0), none⟩,
     ⟨(some 26), .bin .quo (.t 25) (.c (.int .i64 4096)), none⟩,
     ⟨(some 27), .bin .add (.c (.int .i64 224)) (.t 26), none⟩,
     ⟨(some 28), .conv .u8 (.t 27), none⟩,
     ⟨(some 29), .mov (.t 0), none⟩,
     ⟨(some 30), .bin .quo (.t 29) (.c (.int .i64 64)), none⟩,
     ⟨(some 31), .bin .rem (.t 30) (.c (.int .i64 64)), none⟩,
     ⟨(some 32), .bin .add (.c (.int .i64 128)) (.t 31), none⟩,
     ⟨(some 33), .conv .u8 (.t 32), none⟩,
     ⟨(some 34), .mov (.t 0), none⟩,
     ⟨(some 35), .bin .rem (.t 34) (.c (.int .i64 64)), none⟩,
     ⟨(some 36), .bin .add (.c (.int .i64 128)) (.t 35), none⟩,
     ⟨(some 37), .conv .u8 (.t 36), none⟩,
     ⟨(some 38), .bsl 1 (.int .u8 0) 3 [(0, (.t 28)), (1, (.t 33)), (2, (.t 37))], none⟩,
     ⟨(some 2), .mov (.t 38), none⟩,
     ⟨(some 3), .mov (.c (.int .i64 0)), none⟩])
   (.ret))
   (.skip)))
  (.seq (.region false [⟨(some 39), .mov (.t 0), none⟩,
    ⟨(some 40), .bin .quo (.t 39) (.c (.int .i64 262144)), none⟩,
    ⟨(some 41), .bin .add (.c (.int .i64 240)) (.t 40), none⟩,
    ⟨(some 42), .conv .u8 (.t 41), none⟩,
    ⟨(some 43), .mov (.t 0), none⟩,
    ⟨(some 44), .bin .quo (.t 43) (.c (.int .i64 4096)), none⟩,
    ⟨(some 45), .bin .rem (.t 44) (.c (.int .i64 64)), none⟩,
    ⟨(some 46), .bin .add (.c (.int .i64 128)) (.t 45), none⟩,
    ⟨(some 47), .conv .u8 (.t 46), none⟩,
    ⟨(some 48), .mov (.t 0), none⟩,
    ⟨(some 49), .bin .quo (.t 48) (.c (.int .i64 64)), none⟩,
    ⟨(some 50), .bin .rem (.t 49) (.c (.int .i64 64)), none⟩,
    ⟨(some 51), .bin .add (.c (.int .i64 128)) (.t 50), none⟩,
    ⟨(some 52), .conv .u8 (.t 51), none⟩,
    ⟨(some 53), .mov (.t 0), none⟩,
    ⟨(some 54), .bin .rem (.t 53) (.c (.int .i64 64)), none⟩,
    ⟨(some 55), .bin .add (.c (.int .i64 128)) (.t 54), none⟩,
    ⟨(some 56), .conv .u8 (.t 55), none⟩,
    ⟨(some 57), .bsl 1 (.int .u8 0) 4 [(0, (.t 42)), (1, (.t 47)), (2, (.t 52)), (3, (.t 56))], none⟩,
    ⟨(some 2), .mov (.t 57), none⟩,
    ⟨(some 3), .mov (.c (.int .i64 0)), none⟩])
  (.ret)))))),
  [.tmp 2, .tmp 3]⟩

/- strconv_ParseUint -/
def A_strconv_ParseUintL0 : ACode :=
  .seq (.region false [⟨(some 102), .bin .lss (.t 101) (.t 100), none⟩])
  (.seq (.cond (.t 102)
   (.skip)
   (.exit 3))
  (.seq (.block 4 (.seq (.region false [⟨(some 103), .idxA 1 (.t 99) (.t 101), none⟩,
    ⟨(some 104), .ld none (.t 103), none⟩,
    ⟨(some 15), .mov (.t 104), none⟩])
  (.seq (.region false [⟨(some 16), .mov (.c (.int .u8 0)), none⟩])
  (.seq (.block 5 (.seq (.region false [⟨(some 107), .mov (.t 15), none⟩,
    ⟨(some 108), .bin .eql (.t 107) (.c (.int .u8 95)), none⟩,
    ⟨(some 109), .mov (.t 108), none⟩,
    ⟨(some 110), .mov (.t 8), some (109, true)⟩,
    ⟨(some 111), .pick (.t 109) (.t 110) (.c (.bool false)), none⟩,
    ⟨(some 106), .mov (.t 111), none⟩])
  (.cond (.t 106)
   (.seq (.region false [⟨(some 12), .mov (.c (.bool true)), none⟩])
   (.exit 4))
   (.seq (.region false [⟨(some 113), .mov (.t 15), none⟩,
     ⟨(some 114), .bin .leq (.c (.int .u8 48)) (.t 113), none⟩,
     ⟨(some 115), .mov (.t 114), none⟩,
     ⟨(some 116), .mov (.t 15), some (115, true)⟩,
     ⟨(some 117), .bin .leq (.t 116) (.c (.int .u8 57)), some (115, true)⟩,
     ⟨(some 118), .pick (.t 115) (.t 117) (.c (.bool false)), none⟩,
     ⟨(some 112), .mov (.t 118), none⟩])
   (.cond (.t 112)
    (.region false [⟨(some 119), .mov (.t 15), none⟩,
      ⟨(some 120), .bin .sub (.t 119) (.c (.int .u8 48)), none⟩,
      ⟨(some 16), .mov (.t 120), none⟩])
    (.seq (.region false [⟨(some 122), .mov (.t 15), none⟩,
      ⟨(some 123), .call F_strconv_lower [(.t 122)], none⟩,
      ⟨(some 124), .bin .leq (.c (.int .u8 97)) (.t 123), none⟩,
      ⟨(some 125), .mov (.t 124), none⟩,
      ⟨(some 126), .mov (.t 15), some (125, true)⟩,
      ⟨(some 127), .call F_strconv_lower [(.t 126)], some (125, true)⟩,
      ⟨(some 128), .bin .leq (.t 127) (.c (.int .u8 122)), some (125, true)⟩,
      ⟨(some 129), .pick (.t 125) (.t 128) (.c (.bool false)), none⟩,
      ⟨(some 121), .mov (.t 129), none⟩])
    (.cond (.t 121)
     (.region false [⟨(some 130), .mov (.t 15), none⟩,
       ⟨(some 131), .call F_strconv_lower [(.t 130)], none⟩,
       ⟨(some 132), .bin .sub (.t 131) (.c (.int .u8 97)), none⟩,
       ⟨(some 133), .bin .add (.t 132) (.c (.int .u8 10)), none⟩,
       ⟨(some 16), .mov (.t 133), none⟩])
     (.seq (.region false [⟨(some 105), .mki 110 (.c (.int .i64 2)), none⟩,
       ⟨(some 6), .mov (.c (.int .u64 0)), none⟩,
       ⟨(some 7), .mov (.t 105), none⟩])
     (.ret)))))))))
  (.seq (.seq (.region false [⟨(some 134), .mov (.t 16), none⟩,
    ⟨(some 135), .mov (.t 1), none⟩,
    ⟨(some 136), .conv .u8 (.t 135), none⟩,
    ⟨(some 137), .bin .geq (.t 134) (.t 136), none⟩])
  (.cond (.t 137)
   (.seq (.region false [⟨(some 138), .mki 110 (.c (.int .i64 2)), none⟩,
     ⟨(some 6), .mov (.c (.int .u64 0)), none⟩,
     ⟨(some 7), .mov (.t 138), none⟩])
   (.ret))
   (.skip)))
  (.seq (.seq (.region false [⟨(some 139), .mov (.t 13), none⟩,
    ⟨(some 140), .mov (.t 10), none⟩,
    ⟨(some 141), .bin .geq (.t 139) (.t 140), none⟩])
  (.cond (.t 141)
   (.seq (.region false [⟨(some 142), .mov (.t 11), none⟩,
     ⟨(some 143), .mki 110 (.c (.int .i64 1)), none⟩,
     ⟨(some 6), .mov (.t 142), none⟩,
     ⟨(some 7), .mov (.t 143), none⟩])
   (.ret))
   (.skip)))
  (.seq (.region false [⟨(some 144), .mov (.t 13), none⟩,
    ⟨(some 145), .mov (.t 1), none⟩,
    ⟨(some 146), .conv .u64 (.t 145), none⟩,
    ⟨(some 147), .bin .mul (.t 144) (.t 146), none⟩,
    ⟨(some 13), .mov (.t 147), none⟩])
  (.seq (.region false [⟨(some 148), .mov (.t 13), none⟩,
    ⟨(some 149), .mov (.t 16), none⟩,
    ⟨(some 150), .conv .u64 (.t 149), none⟩,
    ⟨(some 151), .bin .add (.t 148) (.t 150), none⟩,
    ⟨(some 17), .mov (.t 151), none⟩])
  (.seq (.seq (.region false [⟨(some 152), .mov (.t 17), none⟩,
    ⟨(some 153), .mov (.t 13), none⟩,
    ⟨(some 154), .bin .lss (.t 152) (.t 153), none⟩,
    ⟨(some 155), .mov (.t 154), none⟩,
    ⟨(some 156), .mov (.t 17), some (155, false)⟩,
    ⟨(some 157), .mov (.t 11), some (155, false)⟩,
    ⟨(some 158), .bin .gtr (.t 156) (.t 157), some (155, false)⟩,
    ⟨(some 159), .pick (.t 155) (.c (.bool true)) (.t 158), none⟩])
  (.cond (.t 159)
   (.seq (.region false [⟨(some 160), .mov (.t 11), none⟩,
     ⟨(some 161), .mki 110 (.c (.int .i64 1)), none⟩,
     ⟨(some 6), .mov (.t 160), none⟩,
     ⟨(some 7), .mov (.t 161), none⟩])
   (.ret))
   (.skip)))
  (.region false [⟨(some 162), .mov (.t 17), none⟩,
    ⟨(some 13), .mov (.t 162), none⟩]))))))))))
  (.region false [⟨(some 163), .bin .add (.t 101) (.c (.int .i64 1)), none⟩,
    ⟨(some 101), .mov (.t 163), none⟩])))
def A_strconv_ParseUint : AFun := ⟨172,
  .seq (.region false [⟨(some 6), .mov (.c (.int .u64 0)), none⟩,
    ⟨(some 7), .mov (.c (.nilI)), none⟩])
  (.seq (.seq (.region false [⟨(some 18), .mov (.t 0), none⟩,
    ⟨(some 19), .bin .eql (.t 18) (.c (.str [])), none⟩])
  (.cond (.t 19)
   (.seq (.region false [⟨(some 20), .mki 110 (.c (.int .i64 2)), none⟩,
     ⟨(some 6), .mov (.c (.int .u64 0)), none⟩,
     ⟨(some 7), .mov (.t 20), none⟩])
   (.ret))
   (.skip)))
  (.seq (.region false [⟨(some 21), .mov (.t 1), none⟩,
    ⟨(some 22), .bin .eql (.t 21) (.c (.int .i64 0)), none⟩,
    ⟨(some 8), .mov (.t 22), none⟩])
  (.seq (.region false [⟨(some 23), .mov (.t 0), none⟩,
    ⟨(some 9), .mov (.t 23), none⟩])
  (.seq (.block 0 (.seq (.region false [⟨(some 26), .mov (.t 1), none⟩,
    ⟨(some 27), .bin .leq (.c (.int .i64 2)) (.t 26), none⟩,
    ⟨(some 28), .mov (.t 27), none⟩,
    ⟨(some 29), .mov (.t 1), some (28, true)⟩,
    ⟨(some 30), .bin .leq (.t 29) (.c (.int .i64 36)), some (28, true)⟩,
    ⟨(some 31), .pick (.t 28) (.t 30) (.c (.bool false)), none⟩,
    ⟨(some 25), .mov (.t 31), none⟩])
  (.cond (.t 25)
   (.skip)
   (.seq (.region false [⟨(some 33), .mov (.t 1), none⟩,
     ⟨(some 34), .bin .eql (.t 33) (.c (.int .i64 0)), none⟩,
     ⟨(some 32), .mov (.t 34), none⟩])
   (.cond (.t 32)
    (.seq (.region false [⟨(some 1), .mov (.c (.int .i64 10)), none⟩])
    (.seq (.region false [⟨(some 35), .mov (.t 0), none⟩,
      ⟨(some 36), .idxS (.t 35) (.c (.int .i64 0)), none⟩,
      ⟨(some 37), .bin .eql (.t 36) (.c (.int .u8 48)), none⟩])
    (.cond (.t 37)
     (.block 1 (.seq (.region false [⟨(some 41), .mov (.t 0), none⟩,
       ⟨(some 42), .lenS (.t 41), none⟩,
       ⟨(some 43), .bin .geq (.t 42) (.c (.int .i64 3)), none⟩,
       ⟨(some 44), .mov (.t 43), none⟩,
       ⟨(some 45), .mov (.t 0), some (44, true)⟩,
       ⟨(some 46), .idxS (.t 45) (.c (.int .i64 1)), some (44, true)⟩,
       ⟨(some 47), .call F_strconv_lower [(.t 46)], some (44, true)⟩,
       ⟨(some 48), .bin .eql (.t 47) (.c (.int .u8 98)), some (44, true)⟩,
       ⟨(some 49), .pick (.t 44) (.t 48) (.c (.bool false)), none⟩,
       ⟨(some 40), .mov (.t 49), none⟩])
     (.cond (.t 40)
      (.seq (.region false [⟨(some 1), .mov (.c (.int .i64 2)), none⟩])
      (.region false [⟨(some 50), .mov (.t 0), none⟩,
        ⟨(some 51), .ssl (.t 50) (some (.c (.int .i64 2))) none, none⟩,
        ⟨(some 0), .mov (.t 51), none⟩]))
      (.seq (.region false [⟨(some 53), .mov (.t 0), none⟩,
        ⟨(some 54), .lenS (.t 53), none⟩,
        ⟨(some 55), .bin .geq (.t 54) (.c (.int .i64 3)), none⟩,
        ⟨(some 56), .mov (.t 55), none⟩,
        ⟨(some 57), .mov (.t 0), some (56, true)⟩,
        ⟨(some 58), .idxS (.t 57) (.c (.int .i64 1)), some (56, true)⟩,
        ⟨(some 59), .call F_strconv_lower [(.t 58)], some (56, true)⟩,
        ⟨(some 60), .bin .eql (.t 59) (.c (.int .u8 111)), some (56, true)⟩,
        ⟨(some 61), .pick (.t 56) (.t 60) (.c (.bool false)), none⟩,
        ⟨(some 52), .mov (.t 61), none⟩])
      (.cond (.t 52)
       (.seq (.region false [⟨(some 1), .mov (.c (.int .i64 8)), none⟩])
       (.region false [⟨(some 62), .mov (.t 0), none⟩,
         ⟨(some 63), .ssl (.t 62) (some (.c (.int .i64 2))) none, none⟩,
         ⟨(some 0), .mov (.t 63), none⟩]))
       (.seq (.region false [⟨(some 65), .mov (.t 0), none⟩,
         ⟨(some 66), .lenS (.t 65), none⟩,
         ⟨(some 67), .bin .geq (.t 66) (.c (.int .i64 3)), none⟩,
         ⟨(some 68), .mov (.t 67), none⟩,
         ⟨(some 69), .mov (.t 0), some (68, true)⟩,
         ⟨(some 70), .idxS (.t 69) (.c (.int .i64 1)), some (68, true)⟩,
         ⟨(some 71), .call F_strconv_lower [(.t 70)], some (68, true)⟩,
         ⟨(some 72), .bin .eql (.t 71) (.c (.int .u8 120)), some (68, true)⟩,
         ⟨(some 73), .pick (.t 68) (.t 72) (.c (.bool false)), none⟩,
         ⟨(some 64), .mov (.t 73), none⟩])
       (.cond (.t 64)
        (.seq (.region false [⟨(some 1), .mov (.c (.int .i64 16)), none⟩])
        (.region false [⟨(some 74), .mov (.t 0), none⟩,
          ⟨(some 75), .ssl (.t 74) (some (.c (.int .i64 2))) none, none⟩,
          ⟨(some 0), .mov (.t 75), none⟩]))
        (.seq (.region false [⟨(some 1), .mov (.c (.int .i64 8)), none⟩])
        (.region false [⟨(some 38), .mov (.t 0), none⟩,
          ⟨(some 39), .ssl (.t 38) (some (.c (.int .i64 1))) none, none⟩,
          ⟨(some 0), .mov (.t 39), none⟩])))))))))
     (.skip))))
    (.seq (.region false [⟨(some 24), .mki 110 (.c (.int .i64 3)), none⟩,
      ⟨(some 6), .mov (.c (.int .u64 0)), none⟩,
      ⟨(some 7), .mov (.t 24), none⟩])
    (.ret)))))))
  (.seq (.seq (.region false [⟨(some 76), .mov (.t 2), none⟩,
    ⟨(some 77), .bin .eql (.t 76) (.c (.int .i64 0)), none⟩])
  (.cond (.t 77)
   (.region false [⟨(some 2), .mov (.c (.int .i64 64)), none⟩])
   (.seq (.region false [⟨(some 78), .mov (.t 2), none⟩,
     ⟨(some 79), .bin .lss (.t 78) (.c (.int .i64 0)), none⟩,
     ⟨(some 80), .mov (.t 79), none⟩,
     ⟨(some 81), .mov (.t 2), some (80, false)⟩,
     ⟨(some 82), .bin .gtr (.t 81) (.c (.int .i64 64)), some (80, false)⟩,
     ⟨(some 83), .pick (.t 80) (.c (.bool true)) (.t 82), none⟩])
   (.cond (.t 83)
    (.seq (.region false [⟨(some 84), .mki 110 (.c (.int .i64 4)), none⟩,
      ⟨(some 6), .mov (.c (.int .u64 0)), none⟩,
      ⟨(some 7), .mov (.t 84), none⟩])
    (.ret))
    (.skip)))))
  (.seq (.region false [⟨(some 10), .mov (.c (.int .u64 0)), none⟩])
  (.seq (.seq (.region false [⟨(some 85), .mov (.t 1), none⟩])
  (.block 2 (.seq (.region false [⟨(some 91), .bin .eql (.t 85) (.c (.int .i64 10)), none⟩,
    ⟨(some 90), .mov (.t 91), none⟩])
  (.cond (.t 90)
   (.region false [⟨(some 10), .mov (.c (.int .u64 1844674407370955162)), none⟩])
   (.seq (.region false [⟨(some 93), .bin .eql (.t 85) (.c (.int .i64 16)), none⟩,
     ⟨(some 92), .mov (.t 93), none⟩])
   (.cond (.t 92)
    (.region false [⟨(some 10), .mov (.c (.int .u64 1152921504606846976)), none⟩])
    (.region false [⟨(some 86), .mov (.t 1), none⟩,
      ⟨(some 87), .conv .u64 (.t 86), none⟩,
      ⟨(some 88), .bin .quo (.c (.int .u64 18446744073709551615)) (.t 87), none⟩,
      ⟨(some 89), .bin .add (.t 88) (.c (.int .u64 1)), none⟩,
      ⟨(some 10), .mov (.t 89), none⟩])))))))
  (.seq (.region false [⟨(some 94), .mov (.t 2), none⟩,
    ⟨(some 95), .conv .u64 (.t 94), none⟩,
    ⟨(some 96), .bin .shl (.c (.int .u64 1)) (.t 95), none⟩,
    ⟨(some 97), .bin .sub (.t 96) (.c (.int .u64 1)), none⟩,
    ⟨(some 11), .mov (.t 97), none⟩])
  (.seq (.region false [⟨(some 12), .mov (.c (.bool false)), none⟩])
  (.seq (.region false [⟨(some 13), .mov (.c (.int .u64 0)), none⟩])
  (.seq (.seq (.region false [⟨(some 98), .mov (.t 0), none⟩,
    ⟨(some 99), .s2b false (.t 98), none⟩,
    ⟨(some 100), .len (.t 99), none⟩,
    ⟨(some 101), .mov (.c (.int .i64 0)), none⟩])
  (.block 3 (.loop A_strconv_ParseUintL0)))
  (.seq (.seq (.region false [⟨(some 164), .mov (.t 12), none⟩,
    ⟨(some 165), .mov (.t 164), none⟩,
    ⟨(some 166), .mov (.t 9), some (165, true)⟩,
    ⟨(some 167), .call F_strconv_underscoreOK [(.t 166)], some (165, true)⟩,
    ⟨(some 168), .not (.t 167), some (165, true)⟩,
    ⟨(some 169), .pick (.t 165) (.t 168) (.c (.bool false)), none⟩])
  (.cond (.t 169)
   (.seq (.region false [⟨(some 170), .mki 110 (.c (.int .i64 2)), none⟩,
     ⟨(some 6), .mov (.c (.int .u64 0)), none⟩,
     ⟨(some 7), .mov (.t 170), none⟩])
   (.ret))
   (.skip)))
  (.seq (.region false [⟨(some 171), .mov (.t 13), none⟩,
    ⟨(some 6), .mov (.t 171), none⟩,
    ⟨(some 7), .mov (.c (.nilI)), none⟩])
  (.ret)))))))))))))),
  [.tmp 6, .tmp 7]⟩

section
variable {X : Cx} (hX : X.P = Go.Proofs.Tryz.prog)
include hX
theorem A_strings_Cut_ok : compileFun X.P F_strings_Cut (fun _ => false) = some A_strings_Cut := by rw [hX]; kernel_rfl
theorem A_strings_Trim_ok : compileFun X.P F_strings_Trim (fun _ => false) = some A_strings_Trim := by rw [hX]; kernel_rfl
theorem A_utf8_ValidRune_ok : compileFun X.P F_utf8_ValidRune (fun _ => false) = some A_utf8_ValidRune := by rw [hX]; kernel_rfl
theorem A_strconv_formatBits_ok : compileFun X.P F_strconv_formatBits (fun _ => false) = some A_strconv_formatBits := by rw [hX]; kernel_rfl
theorem A_strings_IndexRune_ok : compileFun X.P F_strings_IndexRune (fun _ => false) = some A_strings_IndexRune := by rw [hX]; kernel_rfl
theorem A_ref02_number_ok : compileFun X.P F_ref02_number (fun _ => false) = some A_ref02_number := by rw [hX]; kernel_rfl
theorem A_ref02_Is_ok : compileFun X.P F_ref02_Is (fun _ => false) = some A_ref02_Is := by rw [hX]; kernel_rfl
theorem A_ref02_Encode_ok : compileFun X.P F_ref02_Encode (fun _ => false) = some A_ref02_Encode := by rw [hX]; kernel_rfl
theorem A_strconv_ParseUint_ok : compileFun X.P F_strconv_ParseUint (fun _ => false) = some A_strconv_ParseUint := by rw [hX]; kernel_rfl
end
end Go.Avm
