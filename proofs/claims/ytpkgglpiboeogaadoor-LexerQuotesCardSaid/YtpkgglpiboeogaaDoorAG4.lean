/- The functions as they have been read. -/
import Derived.Test.YtpkgglpiboeogaaDoorAG3
import Derived.Test.YtpkgglpiboeogaaDoorProg
set_option linter.unusedSectionVars false
set_option linter.unusedSimpArgs false
set_option linter.unusedVariables false

/- The functions as they have been read. -/
namespace Go.Avm
open Go
/- strconv_syntaxError -/
/- strconv_rangeError -/
/- strconv_baseError -/
/- strconv_bitSizeError -/
/- stringslite_Cut -/
def A_stringslite_Cut : AFun := ⟨23,
  .seq (.region false [⟨(some 4), .mov (.c (.str [])), none⟩,
    ⟨(some 5), .mov (.c (.str [])), none⟩,
    ⟨(some 6), .mov (.c (.bool false)), none⟩])
  (.seq (.seq (.region false [⟨(some 8), .mov (.t 0), none⟩,
    ⟨(some 9), .mov (.t 1), none⟩,
    ⟨(some 10), .call F_stringslite_Index [(.t 8), (.t 9)], none⟩,
    ⟨(some 7), .mov (.t 10), none⟩])
  (.seq (.region false [⟨(some 11), .mov (.t 7), none⟩,
    ⟨(some 12), .bin .geq (.t 11) (.c (.int .i64 0)), none⟩])
  (.cond (.t 12)
   (.seq (.region true [⟨(some 13), .mov (.t 0), none⟩,
     ⟨(some 14), .mov (.t 7), none⟩,
     ⟨(some 15), .ssl (.t 13) none (some (.t 14)), none⟩,
     ⟨(some 16), .mov (.t 0), none⟩,
     ⟨(some 17), .mov (.t 7), none⟩,
     ⟨(some 18), .mov (.t 1), none⟩,
     ⟨(some 19), .lenS (.t 18), none⟩,
     ⟨(some 20), .bin .add (.t 17) (.t 19), none⟩,
     ⟨(some 21), .ssl (.t 16) (some (.t 20)) none, none⟩,
     ⟨(some 4), .mov (.t 15), none⟩,
     ⟨(some 5), .mov (.t 21), none⟩,
     ⟨(some 6), .mov (.c (.bool true)), none⟩])
   (.ret))
   (.skip))))
  (.seq (.region false [⟨(some 22), .mov (.t 0), none⟩,
    ⟨(some 4), .mov (.t 22), none⟩,
    ⟨(some 5), .mov (.c (.str [])), none⟩,
    ⟨(some 6), .mov (.c (.bool false)), none⟩])
  (.ret))),
  [.tmp 4, .tmp 5, .tmp 6]⟩

/- strings_trimLeftByte -/
/- strings_trimRightByte -/
/- strings_makeASCIISet -/
def A_strings_makeASCIISetL0 : ACode :=
  .seq (.seq (.region false [⟨(some 6), .mov (.t 4), none⟩,
    ⟨(some 7), .mov (.t 0), none⟩,
    ⟨(some 8), .lenS (.t 7), none⟩,
    ⟨(some 9), .bin .lss (.t 6) (.t 8), none⟩])
  (.cond (.t 9)
   (.skip)
   (.exit 0)))
  (.seq (.block 1 (.seq (.region false [⟨(some 12), .mov (.t 0), none⟩,
    ⟨(some 13), .mov (.t 4), none⟩,
    ⟨(some 14), .idxS (.t 12) (.t 13), none⟩,
    ⟨(some 5), .mov (.t 14), none⟩])
  (.seq (.seq (.region false [⟨(some 15), .mov (.t 5), none⟩,
    ⟨(some 16), .bin .geq (.t 15) (.c (.int .u8 128)), none⟩])
  (.cond (.t 16)
   (.seq (.region false [⟨(some 17), .ld (some 256) (.t 2), none⟩,
     ⟨none, .st 256 (.t 2) (.t 17), none⟩,
     ⟨(some 3), .mov (.c (.bool false)), none⟩])
   (.ret))
   (.skip)))
  (.region false [⟨(some 18), .mov (.t 5), none⟩,
    ⟨(some 19), .idxP 256 1 (.t 2) (.t 18), none⟩,
    ⟨none, .st 1 (.t 19) (.c (.bool true)), none⟩]))))
  (.region false [⟨(some 10), .mov (.t 4), none⟩,
    ⟨(some 11), .bin .add (.t 10) (.c (.int .i64 1)), none⟩,
    ⟨(some 4), .mov (.t 11), none⟩]))
def A_strings_makeASCIISet : AFun := ⟨21,
  .seq (.region false [⟨(some 2), .alloc (List.replicate 256 (.bool false)), none⟩,
    ⟨(some 3), .mov (.c (.bool false)), none⟩])
  (.seq (.seq (.region false [⟨(some 4), .mov (.c (.int .i64 0)), none⟩])
  (.block 0 (.loop A_strings_makeASCIISetL0)))
  (.seq (.region false [⟨(some 20), .ld (some 256) (.t 2), none⟩,
    ⟨none, .st 256 (.t 2) (.t 20), none⟩,
    ⟨(some 3), .mov (.c (.bool true)), none⟩])
  (.ret))),
  [.cell (some 256) 2, .tmp 3]⟩

/- strings_trimLeftASCII -/
def A_strings_trimLeftASCIIL0 : ACode :=
  .seq (.seq (.region false [⟨(some 5), .mov (.t 0), none⟩,
    ⟨(some 6), .lenS (.t 5), none⟩,
    ⟨(some 7), .bin .gtr (.t 6) (.c (.int .i64 0)), none⟩])
  (.cond (.t 7)
   (.skip)
   (.exit 0)))
  (.block 1 (.seq (.seq (.region false [⟨(some 8), .mov (.t 1), none⟩,
    ⟨(some 9), .mov (.t 0), none⟩,
    ⟨(some 10), .idxS (.t 9) (.c (.int .i64 0)), none⟩,
    ⟨(some 11), .call F_strings_asciiSet_contains [(.t 8), (.t 10)], none⟩,
    ⟨(some 12), .not (.t 11), none⟩])
  (.cond (.t 12)
   (.exit 0)
   (.skip)))
  (.region false [⟨(some 13), .mov (.t 0), none⟩,
    ⟨(some 14), .ssl (.t 13) (some (.c (.int .i64 1))) none, none⟩,
    ⟨(some 0), .mov (.t 14), none⟩])))
def A_strings_trimLeftASCII : AFun := ⟨16,
  .seq (.region false [⟨(some 4), .mov (.c (.str [])), none⟩])
  (.seq (.block 0 (.loop A_strings_trimLeftASCIIL0))
  (.seq (.region false [⟨(some 15), .mov (.t 0), none⟩,
    ⟨(some 4), .mov (.t 15), none⟩])
  (.ret))),
  [.tmp 4]⟩

/- strings_trimRightASCII -/
def A_strings_trimRightASCIIL0 : ACode :=
  .seq (.seq (.region false [⟨(some 5), .mov (.t 0), none⟩,
    ⟨(some 6), .lenS (.t 5), none⟩,
    ⟨(some 7), .bin .gtr (.t 6) (.c (.int .i64 0)), none⟩])
  (.cond (.t 7)
   (.skip)
   (.exit 0)))
  (.block 1 (.seq (.seq (.region false [⟨(some 8), .mov (.t 1), none⟩,
    ⟨(some 9), .mov (.t 0), none⟩,
    ⟨(some 10), .mov (.t 0), none⟩,
    ⟨(some 11), .lenS (.t 10), none⟩,
    ⟨(some 12), .bin .sub (.t 11) (.c (.int .i64 1)), none⟩,
    ⟨(some 13), .idxS (.t 9) (.t 12), none⟩,
    ⟨(some 14), .call F_strings_asciiSet_contains [(.t 8), (.t 13)], none⟩,
    ⟨(some 15), .not (.t 14), none⟩])
  (.cond (.t 15)
   (.exit 0)
   (.skip)))
  (.region false [⟨(some 16), .mov (.t 0), none⟩,
    ⟨(some 17), .mov (.t 0), none⟩,
    ⟨(some 18), .lenS (.t 17), none⟩,
    ⟨(some 19), .bin .sub (.t 18) (.c (.int .i64 1)), none⟩,
    ⟨(some 20), .ssl (.t 16) none (some (.t 19)), none⟩,
    ⟨(some 0), .mov (.t 20), none⟩])))
def A_strings_trimRightASCII : AFun := ⟨22,
  .seq (.region false [⟨(some 4), .mov (.c (.str [])), none⟩])
  (.seq (.block 0 (.loop A_strings_trimRightASCIIL0))
  (.seq (.region false [⟨(some 21), .mov (.t 0), none⟩,
    ⟨(some 4), .mov (.t 21), none⟩])
  (.ret))),
  [.tmp 4]⟩

/- strings_trimLeftUnicode -/
/- strings_trimRightUnicode -/
/- ref02_number -/
def A_ref02_numberL1 : ACode :=
  .seq (.seq (.region false [⟨(some 47), .mov (.t 8), none⟩,
    ⟨(some 48), .mov (.t 5), none⟩,
    ⟨(some 49), .bin .lss (.t 47) (.t 48), none⟩])
  (.cond (.t 49)
   (.skip)
   (.exit 2)))
  (.seq (.block 3 (.seq (.seq (.region false [⟨(some 52), .mov (.t 0), none⟩,
    ⟨(some 53), .mov (.t 8), none⟩,
    ⟨(some 54), .idxA 1 (.t 52) (.t 53), none⟩,
    ⟨(some 55), .ld none (.t 54), none⟩,
    ⟨(some 56), .bin .lss (.t 55) (.c (.int .u8 128)), none⟩,
    ⟨(some 57), .mov (.t 56), none⟩,
    ⟨(some 58), .mov (.t 0), some (57, false)⟩,
    ⟨(some 59), .mov (.t 8), some (57, false)⟩,
    ⟨(some 60), .idxA 1 (.t 58) (.t 59), some (57, false)⟩,
    ⟨(some 61), .ld none (.t 60), some (57, false)⟩,
    ⟨(some 62), .bin .geq (.t 61) (.c (.int .u8 192)), some (57, false)⟩,
    ⟨(some 63), .pick (.t 57) (.c (.bool true)) (.t 62), none⟩])
  (.cond (.t 63)
   (.seq (.region false [⟨(some 2), .mov (.c (.int .i64 (-1))), none⟩])
   (.ret))
   (.skip)))
  (.region false [⟨(some 64), .mov (.t 7), none⟩,
    ⟨(some 65), .bin .mul (.c (.int .i64 64)) (.t 64), none⟩,
    ⟨(some 66), .mov (.t 0), none⟩,
    ⟨(some 67), .mov (.t 8), none⟩,
    ⟨(some 68), .idxA 1 (.t 66) (.t 67), none⟩,
    ⟨(some 69), .ld none (.t 68), none⟩,
    ⟨(some 70), .conv .i64 (.t 69), none⟩,
    ⟨(some 71), .bin .add (.t 65) (.t 70), none⟩,
    ⟨(some 72), .bin .sub (.t 71) (.c (.int .i64 128)), none⟩,
    ⟨(some 7), .mov (.t 72), none⟩])))
  (.region false [⟨(some 50), .mov (.t 8), none⟩,
    ⟨(some 51), .bin .add (.t 50) (.c (.int .i64 1)), none⟩,
    ⟨(some 8), .mov (.t 51), none⟩]))
def A_ref02_numberL0 : ACode :=
  .seq (.seq (.region false [⟨(some 14), .mov (.t 5), none⟩,
    ⟨(some 15), .bin .leq (.t 14) (.c (.int .i64 4)), none⟩])
  (.cond (.t 15)
   (.skip)
   (.exit 0)))
  (.seq (.block 1 (.seq (.region false [⟨(some 18), .mov (.t 5), none⟩,
    ⟨(some 19), .idxP 5 1 (.t 4) (.t 18), none⟩,
    ⟨(some 20), .ld none (.t 19), none⟩,
    ⟨(some 21), .mov (.t 5), none⟩,
    ⟨(some 22), .conv .u64 (.t 21), none⟩,
    ⟨(some 23), .bin .shr (.c (.int .i64 64)) (.t 22), none⟩,
    ⟨(some 24), .bin .mul (.t 23) (.c (.int .i64 2)), none⟩,
    ⟨(some 25), .bin .add (.t 20) (.t 24), none⟩,
    ⟨(some 6), .mov (.t 25), none⟩])
  (.seq (.seq (.region false [⟨(some 26), .mov (.t 0), none⟩,
    ⟨(some 27), .len (.t 26), none⟩,
    ⟨(some 28), .mov (.t 5), none⟩,
    ⟨(some 29), .bin .neq (.t 27) (.t 28), none⟩,
    ⟨(some 30), .mov (.t 29), none⟩,
    ⟨(some 31), .mov (.t 3), some (30, false)⟩,
    ⟨(some 32), .mov (.t 5), some (30, false)⟩,
    ⟨(some 33), .idxP 5 1 (.t 4) (.t 32), some (30, false)⟩,
    ⟨(some 34), .ld none (.t 33), some (30, false)⟩,
    ⟨(some 35), .bin .lss (.t 31) (.t 34), some (30, false)⟩,
    ⟨(some 36), .pick (.t 30) (.c (.bool true)) (.t 35), none⟩,
    ⟨(some 37), .mov (.t 36), none⟩,
    ⟨(some 38), .mov (.t 3), some (37, false)⟩,
    ⟨(some 39), .mov (.t 6), some (37, false)⟩,
    ⟨(some 40), .bin .geq (.t 38) (.t 39), some (37, false)⟩,
    ⟨(some 41), .pick (.t 37) (.c (.bool true)) (.t 40), none⟩])
  (.cond (.t 41)
   (.exit 1)
   (.skip)))
  (.seq (.region false [⟨(some 42), .mov (.t 3), none⟩,
    ⟨(some 43), .mov (.t 5), none⟩,
    ⟨(some 44), .idxP 5 1 (.t 4) (.t 43), none⟩,
    ⟨(some 45), .ld none (.t 44), none⟩,
    ⟨(some 46), .bin .sub (.t 42) (.t 45), none⟩,
    ⟨(some 7), .mov (.t 46), none⟩])
  (.seq (.seq (.region false [⟨(some 8), .mov (.c (.int .i64 1)), none⟩])
  (.block 2 (.loop A_ref02_numberL1)))
  (.seq (.region false [⟨(some 73), .mov (.t 7), none⟩,
    ⟨(some 2), .mov (.t 73), none⟩])
  (.ret)))))))
  (.region false [⟨(some 16), .mov (.t 5), none⟩,
    ⟨(some 17), .bin .add (.t 16) (.c (.int .i64 1)), none⟩,
    ⟨(some 5), .mov (.t 17), none⟩]))
def A_ref02_number : AFun := ⟨82,
  .seq (.region false [⟨(some 2), .mov (.c (.int .i64 0)), none⟩])
  (.seq (.region false [⟨(some 9), .mov (.t 0), none⟩,
    ⟨(some 10), .idxA 1 (.t 9) (.c (.int .i64 0)), none⟩,
    ⟨(some 11), .ld none (.t 10), none⟩,
    ⟨(some 12), .conv .i64 (.t 11), none⟩,
    ⟨(some 3), .mov (.t 12), none⟩])
  (.seq (.region false [⟨(some 13), .build [.int .i64 0, .int .i64 0, .int .i64 0, .int .i64 0, .int .i64 0] [(0, 1, (.c (.int .i64 0))), (1, 1, (.c (.int .i64 0))), (2, 1, (.c (.int .i64 192))), (3, 1, (.c (.int .i64 224))), (4, 1, (.c (.int .i64 240)))], none⟩,
    ⟨(some 4), .alloc [.int .i64 0, .int .i64 0, .int .i64 0, .int .i64 0, .int .i64 0], none⟩,
    ⟨none, .st 5 (.t 4) (.t 13), none⟩])
  (.seq (.seq (.region false [⟨(some 5), .mov (.c (.int .i64 2)), none⟩])
  (.block 0 (.loop A_ref02_numberL0)))
  (.seq (.seq (.region false [⟨(some 74), .mov (.t 0), none⟩,
    ⟨(some 75), .len (.t 74), none⟩,
    ⟨(some 76), .bin .eql (.t 75) (.c (.int .i64 1)), none⟩,
    ⟨(some 77), .mov (.t 76), none⟩,
    ⟨(some 78), .mov (.t 3), some (77, true)⟩,
    ⟨(some 79), .bin .lss (.t 78) (.c (.int .i64 128)), some (77, true)⟩,
    ⟨(some 80), .pick (.t 77) (.t 79) (.c (.bool false)), none⟩])
  (.cond (.t 80)
   (.seq (.region false [⟨(some 81), .mov (.t 3), none⟩,
     ⟨(some 2), .mov (.t 81), none⟩])
   (.ret))
   (.skip)))
  (.seq (.region false [⟨(some 2), .mov (.c (.int .i64 (-1))), none⟩])
  (.ret)))))),
  [.tmp 2]⟩

/- ref02_Is -/
def A_ref02_Is : AFun := ⟨17,
  .seq (.region false [⟨(some 2), .mov (.c (.bool false)), none⟩])
  (.seq (.region false [⟨(some 3), .mov (.t 0), none⟩,
    ⟨(some 4), .bin .geq (.t 3) (.c (.int .i64 0)), none⟩,
    ⟨(some 5), .mov (.t 4), none⟩,
    ⟨(some 6), .mov (.t 0), some (5, true)⟩,
    ⟨(some 7), .bin .leq (.t 6) (.c (.int .i64 1114111)), some (5, true)⟩,
    ⟨(some 8), .pick (.t 5) (.t 7) (.c (.bool false)), none⟩,
    ⟨(some 9), .mov (.t 8), none⟩,
    ⟨(some 10), .mov (.t 0), some (9, true)⟩,
    ⟨(some 11), .bin .lss (.t 10) (.c (.int .i64 55296)), some (9, true)⟩,
    ⟨(some 12), .mov (.t 11), some (9, true)⟩,
    ⟨(some 13), .mov (.t 0), some (12, false)⟩,
    ⟨(some 14), .bin .gtr (.t 13) (.c (.int .i64 57343)), some (12, false)⟩,
    ⟨(some 15), .pick (.t 12) (.c (.bool true)) (.t 14), some (9, true)⟩,
    ⟨(some 16), .pick (.t 9) (.t 15) (.c (.bool false)), none⟩,
    ⟨(some 2), .mov (.t 16), none⟩])
  (.ret)),
  [.tmp 2]⟩

/- ref02_Encode -/
def A_ref02_Encode : AFun := ⟨58,
  .seq (.region false [⟨(some 2), .mov (.c (.sl .ex [])), none⟩,
    ⟨(some 3), .mov (.c (.int .i64 0)), none⟩])
  (.seq (.seq (.region false [⟨(some 4), .mov (.t 0), none⟩,
    ⟨(some 5), .call F_ref02_Is [(.t 4)], none⟩,
    ⟨(some 6), .not (.t 5), none⟩])
  (.cond (.t 6)
   (.seq (.region false [⟨(some 2), .mov (.c (.sl .ex [])), none⟩,
     ⟨(some 3), .mov (.c (.int .i64 7)), none⟩])
   (.ret))
   (.skip)))
  (.seq (.seq (.region false [⟨(some 7), .mov (.t 0), none⟩,
    ⟨(some 8), .bin .lss (.t 7) (.c (.int .i64 128)), none⟩])
  (.cond (.t 8)
   (.seq (.region false [⟨(some 9), .mov (.t 0), none⟩,
     ⟨(some 10), .conv .u8 (.t 9), none⟩,
     ⟨(some 11), .bsl 1 (.int .u8 0) 1 [(0, (.t 10))], none⟩,
     ⟨(some 2), .mov (.t 11), none⟩,
     ⟨(some 3), .mov (.c (.int .i64 0)), none⟩])
   (.ret))
   (.skip)))
  (.seq (.seq (.region false [⟨(some 12), .mov (.t 0), none⟩,
    ⟨(some 13), .bin .lss (.t 12) (.c (.int .i64 2048)), none⟩])
  (.cond (.t 13)
   (.seq (.region false [⟨(some 14), .mov (.t 0), none⟩,
     ⟨(some 15), .bin .quo (.t 14) (.c (.int .i64 64)), none⟩,
     ⟨(some 16), .bin .add (.c (.int .i64 192)) (.t 15), none⟩,
     ⟨(some 17), .conv .u8 (.t 16), none⟩,
     ⟨(some 18), .mov (.t 0), none⟩,
     ⟨(some 19), .bin .rem (.t 18) (.c (.int .i64 64)), none⟩,
     ⟨(some 20), .bin .add (.c (.int .i64 128)) (.t 19), none⟩,
     ⟨(some 21), .conv .u8 (.t 20), none⟩,
     ⟨(some 22), .bsl 1 (.int .u8 0) 2 [(0, (.t 17)), (1, (.t 21))], none⟩,
     ⟨(some 2), .mov (.t 22), none⟩,
     ⟨(some 3), .mov (.c (.int .i64 0)), none⟩])
   (.ret))
   (.skip)))
  (.seq (.seq (.region false [⟨(some 23), .mov (.t 0), none⟩,
    ⟨(some 24), .bin .lss (.t 23) (.c (.int .i64 65536)), none⟩])
  (.cond (.t 24)
   (.seq (.region false [⟨(some 25), .mov (.t 0), none⟩,
     ⟨(some 26), .bin .quo (.t 25) (.c (.int .i64 4096)), none⟩,
     ⟨(some 27), .bin .add (.c (.int .i64 224)) (.t 26), none⟩,
     ⟨(some 28), .conv .u8 (.t 27), none⟩,
     ⟨(some 29), .mov (.t 0), none⟩,
     ⟨(some 30), .bin .quo (.t 29) (.c (.int .i64 64)), none⟩,
     ⟨(some 31), .bin .rem (.t 30) (.c (.int .i64 64)), none⟩,
     ⟨(some 32), .bin .add (.c (.int .i64 128)) (.t 31), none⟩,
     ⟨(some 33), .conv .u8 (.t 32), none⟩,
     ⟨(some 34), .mov (.t 0), none⟩,
     ⟨(some 35), .bin .rem (.t 34) (.c (.int .i64 64)), none⟩,
     ⟨(some 36), .bin .add (.c (.int .i64 128)) (.t 35), none⟩,
     ⟨(some 37), .conv .u8 (.t 36), none⟩,
     ⟨(some 38), .bsl 1 (.int .u8 0) 3 [(0, (.t 28)), (1, (.t 33)), (2, (.t 37))], none⟩,
     ⟨(some 2), .mov (.t 38), none⟩,
     ⟨(some 3), .mov (.c (.int .i64 0)), none⟩])
   (.ret))
   (.skip)))
  (.seq (.region false [⟨(some 39), .mov (.t 0), none⟩,
    ⟨(some 40), .bin .quo (.t 39) (.c (.int .i64 262144)), none⟩,
    ⟨(some 41), .bin .add (.c (.int .i64 240)) (.t 40), none⟩,
    ⟨(some 42), .conv .u8 (.t 41), none⟩,
    ⟨(some 43), .mov (.t 0), none⟩,
    ⟨(some 44), .bin .quo (.t 43) (.c (.int .i64 4096)), none⟩,
    ⟨(some 45), .bin .rem (.t 44) (.c (.int .i64 64)), none⟩,
    ⟨(some 46), .bin .add (.c (.int .i64 128)) (.t 45), none⟩,
    ⟨(some 47), .conv .u8 (.t 46), none⟩,
    ⟨(some 48), .mov (.t 0), none⟩,
    ⟨(some 49), .bin .quo (.t 48) (.c (.int .i64 64)), none⟩,
    ⟨(some 50), .bin .rem (.t 49) (.c (.int .i64 64)), none⟩,
    ⟨(some 51), .bin .add (.c (.int .i64 128)) (.t 50), none⟩,
    ⟨(some 52), .conv .u8 (.t 51), none⟩,
    ⟨(some 53), .mov (.t 0), none⟩,
    ⟨(some 54), .bin .rem (.t 53) (.c (.int .i64 64)), none⟩,
    ⟨(some 55), .bin .add (.c (.int .i64 128)) (.t 54), none⟩,
    ⟨(some 56), .conv .u8 (.t 55), none⟩,
    ⟨(some 57), .bsl 1 (.int .u8 0) 4 [(0, (.t 42)), (1, (.t 47)), (2, (.t 52)), (3, (.t 56))], none⟩,
    ⟨(some 2), .mov (.t 57), none⟩,
    ⟨(some 3), .mov (.c (.int .i64 0)), none⟩])
  (.ret)))))),
  [.tmp 2, .tmp 3]⟩

/- strconv_log10Pow2 -/
/- bits_Len64 -/
/- strconv_bool2_int -/
/- strconv_isPowerOfTwo -/
def A_strconv_isPowerOfTwo : AFun := ⟨8,
  .seq (.region false [⟨(some 2), .mov (.c (.bool false)), none⟩])
  (.seq (.region false [⟨(some 3), .mov (.t 0), none⟩,
    ⟨(some 4), .mov (.t 0), none⟩,
    ⟨(some 5), .bin .sub (.t 4) (.c (.int .i64 1)), none⟩,
    ⟨(some 6), .bin .and (.t 3) (.t 5), none⟩,
    ⟨(some 7), .bin .eql (.t 6) (.c (.int .i64 0)), none⟩,
    ⟨(some 2), .mov (.t 7), none⟩])
  (.ret)),
  [.tmp 2]⟩

/- bits_TrailingZeros -/
def A_bits_TrailingZeros : AFun := ⟨8,
  .seq (.region false [⟨(some 2), .mov (.c (.int .i64 0)), none⟩])
  (.seq (.cond (.c (.bool false))
   (.seq (.region false [⟨(some 3), .mov (.t 0), none⟩,
     ⟨(some 4), .conv .u32 (.t 3), none⟩,
     ⟨(some 5), .call F_bits_TrailingZeros32 [(.t 4)], none⟩,
     ⟨(some 2), .mov (.t 5), none⟩])
   (.ret))
   (.skip))
  (.seq (.region false [⟨(some 6), .mov (.t 0), none⟩,
    ⟨(some 7), .call F_bits_TrailingZeros64 [(.t 6)], none⟩,
    ⟨(some 2), .mov (.t 7), none⟩])
  (.ret))),
  [.tmp 2]⟩

/- strings_IndexByte -/
def A_strings_IndexByte : AFun := ⟨8,
  .seq (.region false [⟨(some 4), .mov (.c (.int .i64 0)), none⟩])
  (.seq (.region false [⟨(some 5), .mov (.t 0), none⟩,
    ⟨(some 6), .mov (.t 1), none⟩,
    ⟨(some 7), .call F_stringslite_IndexByte [(.t 5), (.t 6)], none⟩,
    ⟨(some 4), .mov (.t 7), none⟩])
  (.ret)),
  [.tmp 4]⟩

/- bytealg_Cutover -/
/- strconv_lower -/
def A_strconv_lower : AFun := ⟨5,
  .seq (.region false [⟨(some 2), .mov (.c (.int .u8 0)), none⟩])
  (.seq (.region false [⟨(some 3), .mov (.t 0), none⟩,
    ⟨(some 4), .bin .or (.t 3) (.c (.int .u8 32)), none⟩,
    ⟨(some 2), .mov (.t 4), none⟩])
  (.ret)),
  [.tmp 2]⟩

/- strconv_underscoreOK -/
/- stringslite_Clone -/
/- errors_New -/
/- strconv_Itoa -/
/- strings_asciiSet_contains -/
def A_strings_asciiSet_contains : AFun := ⟨10,
  .seq (.region false [⟨(some 4), .mov (.c (.bool false)), none⟩])
  (.seq (.region false [⟨(some 5), .mov (.t 0), none⟩,
    ⟨(some 6), .mov (.t 1), none⟩,
    ⟨(some 7), .nck (.t 5), none⟩,
    ⟨(some 8), .idxP 256 1 (.t 7) (.t 6), none⟩,
    ⟨(some 9), .ld none (.t 8), none⟩,
    ⟨(some 4), .mov (.t 9), none⟩])
  (.ret)),
  [.tmp 4]⟩

/- utf8_DecodeRuneInString -/
/- utf8_DecodeLastRuneInString -/
/- bits_TrailingZeros32 -/
/- bits_TrailingZeros64 -/
def A_bits_TrailingZeros64 : AFun := ⟨14,
  .seq (.region false [⟨(some 2), .mov (.c (.int .i64 0)), none⟩])
  (.seq (.seq (.region false [⟨(some 3), .mov (.t 0), none⟩,
    ⟨(some 4), .bin .eql (.t 3) (.c (.int .u64 0)), none⟩])
  (.cond (.t 4)
   (.seq (.region false [⟨(some 2), .mov (.c (.int .i64 64)), none⟩])
   (.ret))
   (.skip)))
  (.seq (.region false [⟨(some 5), .mov (.t 0), none⟩,
    ⟨(some 6), .mov (.t 0), none⟩,
    ⟨(some 7), .neg (.t 6), none⟩,
    ⟨(some 8), .bin .and (.t 5) (.t 7), none⟩,
    ⟨(some 9), .bin .mul (.t 8) (.c (.int .u64 285870213051353865)), none⟩,
    ⟨(some 10), .bin .shr (.t 9) (.c (.int .u64 58)), none⟩,
    ⟨(some 11), .idxP 64 1 (.gl 8) (.t 10), none⟩,
    ⟨(some 12), .ld none (.t 11), none⟩,
    ⟨(some 13), .conv .i64 (.t 12), none⟩,
    ⟨(some 2), .mov (.t 13), none⟩])
  (.ret))),
  [.tmp 2]⟩

/- strconv_Itoa_99 -/
/- utf8_decodeRuneInStringSlow -/
/- utf8_RuneStart -/
section
variable {X : Cx} (hX : X.P = Go.Proofs.Tryd.prog)
include hX
theorem A_stringslite_Cut_ok : compileFun X.P F_stringslite_Cut (fun _ => false) = some A_stringslite_Cut := by rw [hX]; kernel_rfl
theorem A_strings_makeASCIISet_ok : compileFun X.P F_strings_makeASCIISet (fun _ => false) = some A_strings_makeASCIISet := by rw [hX]; kernel_rfl
theorem A_strings_trimLeftASCII_ok : compileFun X.P F_strings_trimLeftASCII (fun _ => false) = some A_strings_trimLeftASCII := by rw [hX]; kernel_rfl
theorem A_strings_trimRightASCII_ok : compileFun X.P F_strings_trimRightASCII (fun _ => false) = some A_strings_trimRightASCII := by rw [hX]; kernel_rfl
theorem A_ref02_number_ok : compileFun X.P F_ref02_number (fun _ => false) = some A_ref02_number := by rw [hX]; kernel_rfl
theorem A_ref02_Is_ok : compileFun X.P F_ref02_Is (fun _ => false) = some A_ref02_Is := by rw [hX]; kernel_rfl
theorem A_ref02_Encode_ok : compileFun X.P F_ref02_Encode (fun _ => false) = some A_ref02_Encode := by rw [hX]; kernel_rfl
theorem A_strconv_isPowerOfTwo_ok : compileFun X.P F_strconv_isPowerOfTwo (fun _ => false) = some A_strconv_isPowerOfTwo := by rw [hX]; kernel_rfl
theorem A_bits_TrailingZeros_ok : compileFun X.P F_bits_TrailingZeros (fun _ => false) = some A_bits_TrailingZeros := by rw [hX]; kernel_rfl
theorem A_strings_IndexByte_ok : compileFun X.P F_strings_IndexByte (fun _ => false) = some A_strings_IndexByte := by rw [hX]; kernel_rfl
theorem A_strconv_lower_ok : compileFun X.P F_strconv_lower (fun _ => false) = some A_strconv_lower := by rw [hX]; kernel_rfl
theorem A_strings_asciiSet_contains_ok : compileFun X.P F_strings_asciiSet_contains (fun _ => false) = some A_strings_asciiSet_contains := by rw [hX]; kernel_rfl
theorem A_bits_TrailingZeros64_ok : compileFun X.P F_bits_TrailingZeros64 (fun _ => false) = some A_bits_TrailingZeros64 := by rw [hX]; kernel_rfl
end
end Go.Avm
