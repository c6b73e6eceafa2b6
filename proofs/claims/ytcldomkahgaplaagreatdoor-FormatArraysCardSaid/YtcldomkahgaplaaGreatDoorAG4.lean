/- The functions as they have been read. -/
import Derived.Test.YtcldomkahgaplaaGreatDoorAG3
import Derived.Test.YtcldomkahgaplaaGreatDoorProg
set_option linter.all false
namespace Go.Avm
open Go
def A_ref02_stands : AFun := ⟨23,
  .seq (vR [vO 2 (.mov (vI 0)), vO 3 (.mov (.c (.bool false)))])
 (.seq (vR [vM 7 0, vO 8 (.call F_ref02_number [(.t 7)]), vM 4 8])
 (.seq (.seq (vR [vM 9 4, vO 10 (.call F_ref02_Is [(.t 9)]), vO 11 (.not (.t 10))])
 (.cond (.t 11)
 (.seq (vR [vO 2 (.mov (vI 0)), vO 3 (.mov (.c (.bool false)))])
 (.ret))
 (.skip)))
 (.seq (vR [vM 13 4, vO 14 (.call F_ref02_Encode [(.t 13)]), vM 12 14, vO 15 (.extr (.t 12) 0), vO 16 (.extr (.t 12) 1), vM 5 15, vM 6 16])
 (.seq (.region true [vM 17 4, vM 18 0, vO 19 (.b2s (.t 18)), vM 20 5, vO 21 (.b2s (.t 20)), vO 22 (.bin .eql (.t 19) (.t 21)), vM 2 17, vM 3 22])
 (.ret))))),
  [.tmp 2, .tmp 3]⟩
def A_ref02_beginsL1 : ACode :=
  .seq (.seq (vR [vM 45 6, vO 46 (.len (.t 45)), vM 47 3, vO 48 (.bin .lss (.t 46) (.t 47))])
 (.cond (.t 48)
 (.skip)
 (.exit 3)))
 (.block 4 (vR [vM 49 6, vM 50 5, vO 51 (.conv .u8 (.t 50)), vO 52 (.bsl 1 (.int .u8 0) 1 [(0, (.t 51))]), vO 53 (.app 1 1 (.t 49) (.t 52)), vM 6 53]))
def A_ref02_beginsL0 : ACode :=
  .seq (.seq (vR [vM 38 5, vO 39 (.bin .leq (.t 38) (vI 191))])
 (.cond (.t 39)
 (.skip)
 (.exit 1)))
 (.seq (.block 2 (.seq (vR [vO 42 (.bsl 1 (.int .u8 0) 0 []), vM 43 0, vO 44 (.app 1 1 (.t 42) (.t 43)), vM 6 44])
 (.seq (.block 3 (.loop A_ref02_beginsL1))
 (.seq (vR [vM 55 6, vO 56 (.call F_ref02_stands [(.t 55)]), vM 54 56, vO 57 (.extr (.t 54) 0), vO 58 (.extr (.t 54) 1), vM 7 57, vM 8 58])
 (.seq (vR [vM 59 8])
 (.cond (.t 59)
 (.seq (vR [vO 2 (.mov (.c (.bool true)))])
 (.ret))
 (.skip)))))))
 (vR [vM 40 5, vO 41 (.bin .add (.t 40) (vI 63)), vM 5 41]))
def A_ref02_begins : AFun := ⟨60,
  .seq (vR [vO 2 (.mov (.c (.bool false)))])
 (.seq (vR [vO 3 (.mov (vI 0))])
 (.seq (vR [vM 9 0, vO 10 (.idxA 1 (.t 9) (vI 0)), vO 11 (.ld none (.t 10)), vO 12 (.conv .i64 (.t 11)), vM 4 12])
 (.seq (.block 0 (.seq (vR [vM 14 4, vO 15 (.bin .geq (.t 14) (vI 192)), vM 16 15, ⟨some 17, .mov (.t 4), some (16, true)⟩, ⟨some 18, .bin .lss (.t 17) (vI 224), some (16, true)⟩, vO 19 (.pick (.t 16) (.t 18) (.c (.bool false))), vM 13 19])
 (.cond (.t 13)
 (vR [vO 3 (.mov (vI 2))])
 (.seq (vR [vM 21 4, vO 22 (.bin .geq (.t 21) (vI 224)), vM 23 22, ⟨some 24, .mov (.t 4), some (23, true)⟩, ⟨some 25, .bin .lss (.t 24) (vI 240), some (23, true)⟩, vO 26 (.pick (.t 23) (.t 25) (.c (.bool false))), vM 20 26])
 (.cond (.t 20)
 (vR [vO 3 (.mov (vI 3))])
 (.seq (vR [vM 28 4, vO 29 (.bin .geq (.t 28) (vI 240)), vM 30 29, ⟨some 31, .mov (.t 4), some (30, true)⟩, ⟨some 32, .bin .lss (.t 31) (vI 248), some (30, true)⟩, vO 33 (.pick (.t 30) (.t 32) (.c (.bool false))), vM 27 33])
 (.cond (.t 27)
 (vR [vO 3 (.mov (vI 4))])
 (.skip))))))))
 (.seq (.seq (vR [vM 34 0, vO 35 (.len (.t 34)), vM 36 3, vO 37 (.bin .geq (.t 35) (.t 36))])
 (.cond (.t 37)
 (.seq (vR [vO 2 (.mov (.c (.bool false)))])
 (.ret))
 (.skip)))
 (.seq (.seq (vR [vO 5 (.mov (vI 128))])
 (.block 1 (.loop A_ref02_beginsL0)))
 (.seq (vR [vO 2 (.mov (.c (.bool false)))])
 (.ret))))))),
  [.tmp 2]⟩
def A_slices_IndexFunc_int_intL0 : ACode :=
  .seq (vR [vO 9 (.bin .lss (.t 8) (.t 7))])
 (.seq (.cond (.t 9)
 (.skip)
 (.exit 0))
 (.seq (.block 1 (.seq (vR [vM 10 8, vM 5 10])
 (.seq (vR [vM 11 1, vM 12 0, vM 13 5, vO 14 (.idxA 1 (.t 12) (.t 13)), vO 15 (.ld none (.t 14)), vO 16 (.callv (.t 11) [(.t 15)])])
 (.cond (.t 16)
 (.seq (vR [vM 17 5, vM 4 17])
 (.ret))
 (.skip)))))
 (vR [vO 18 (.bin .add (.t 8) (vI 1)), vM 8 18])))
def A_slices_IndexFunc_int_int : AFun := ⟨19,
  .seq (vR [vO 4 (.mov (vI 0))])
 (.seq (.seq (vR [vM 6 0, vO 7 (.len (.t 6)), vO 8 (.mov (vI 0))])
 (.block 0 (.loop A_slices_IndexFunc_int_intL0)))
 (.seq (vR [vO 4 (.mov (vI (-1)))])
 (.ret))),
  [.tmp 4]⟩
def A_stringslite_TrimPrefix : AFun := ⟨13,
  .seq (vR [vO 4 (.mov (.c (.str [])))])
 (.seq (.seq (vR [vM 5 0, vM 6 1, vO 7 (.call F_stringslite_HasPrefix [(.t 5), (.t 6)])])
 (.cond (.t 7)
 (.seq (vR [vM 8 0, vM 9 1, vO 10 (.lenS (.t 9)), vO 11 (.ssl (.t 8) (some (.t 10)) none), vM 4 11])
 (.ret))
 (.skip)))
 (.seq (vR [vM 12 0, vM 4 12])
 (.ret))),
  [.tmp 4]⟩
def A_strings_makeASCIISetL0 : ACode :=
  .seq (.seq (vR [vM 6 4, vM 7 0, vO 8 (.lenS (.t 7)), vO 9 (.bin .lss (.t 6) (.t 8))])
 (.cond (.t 9)
 (.skip)
 (.exit 0)))
 (.seq (.block 1 (.seq (vR [vM 12 0, vM 13 4, vO 14 (.idxS (.t 12) (.t 13)), vM 5 14])
 (.seq (.seq (vR [vM 15 5, vO 16 (.bin .geq (.t 15) (.c (.int .u8 128)))])
 (.cond (.t 16)
 (.seq (vR [vO 17 (.ld (some 256) (.t 2)), ⟨none, .st 256 (.t 2) (.t 17), none⟩, vO 3 (.mov (.c (.bool false)))])
 (.ret))
 (.skip)))
 (vR [vM 18 5, vO 19 (.idxP 256 1 (.t 2) (.t 18)), ⟨none, .st 1 (.t 19) (.c (.bool true)), none⟩]))))
 (vR [vM 10 4, vO 11 (.bin .add (.t 10) (vI 1)), vM 4 11]))
def A_strings_makeASCIISet : AFun := ⟨21,
  .seq (vR [vO 2 (.alloc (List.replicate 256 (.bool false))), vO 3 (.mov (.c (.bool false)))])
 (.seq (.seq (vR [vO 4 (.mov (vI 0))])
 (.block 0 (.loop A_strings_makeASCIISetL0)))
 (.seq (vR [vO 20 (.ld (some 256) (.t 2)), ⟨none, .st 256 (.t 2) (.t 20), none⟩, vO 3 (.mov (.c (.bool true)))])
 (.ret))),
  [.cell (some 256) 2, .tmp 3]⟩
def A_strings_trimLeftASCIIL0 : ACode :=
  .seq (.seq (vR [vM 5 0, vO 6 (.lenS (.t 5)), vO 7 (.bin .gtr (.t 6) (vI 0))])
 (.cond (.t 7)
 (.skip)
 (.exit 0)))
 (.block 1 (.seq (.seq (vR [vM 8 1, vM 9 0, vO 10 (.idxS (.t 9) (vI 0)), vO 11 (.call F_strings_asciiSet_contains [(.t 8), (.t 10)]), vO 12 (.not (.t 11))])
 (.cond (.t 12)
 (.exit 0)
 (.skip)))
 (vR [vM 13 0, vO 14 (.ssl (.t 13) (some (vI 1)) none), vM 0 14])))
def A_strings_trimLeftASCII : AFun := ⟨16,
  .seq (vR [vO 4 (.mov (.c (.str [])))])
 (.seq (.block 0 (.loop A_strings_trimLeftASCIIL0))
 (.seq (vR [vM 15 0, vM 4 15])
 (.ret))),
  [.tmp 4]⟩
def A_strings_trimRightASCIIL0 : ACode :=
  .seq (.seq (vR [vM 5 0, vO 6 (.lenS (.t 5)), vO 7 (.bin .gtr (.t 6) (vI 0))])
 (.cond (.t 7)
 (.skip)
 (.exit 0)))
 (.block 1 (.seq (.seq (vR [vM 8 1, vM 9 0, vM 10 0, vO 11 (.lenS (.t 10)), vO 12 (.bin .sub (.t 11) (vI 1)), vO 13 (.idxS (.t 9) (.t 12)), vO 14 (.call F_strings_asciiSet_contains [(.t 8), (.t 13)]), vO 15 (.not (.t 14))])
 (.cond (.t 15)
 (.exit 0)
 (.skip)))
 (vR [vM 16 0, vM 17 0, vO 18 (.lenS (.t 17)), vO 19 (.bin .sub (.t 18) (vI 1)), vO 20 (.ssl (.t 16) none (some (.t 19))), vM 0 20])))
def A_strings_trimRightASCII : AFun := ⟨22,
  .seq (vR [vO 4 (.mov (.c (.str [])))])
 (.seq (.block 0 (.loop A_strings_trimRightASCIIL0))
 (.seq (vR [vM 21 0, vM 4 21])
 (.ret))),
  [.tmp 4]⟩
def A_strconv_isPowerOfTwo : AFun := ⟨8,
  .seq (vR [vO 2 (.mov (.c (.bool false)))])
 (.seq (vR [vM 3 0, vM 4 0, vO 5 (.bin .sub (.t 4) (vI 1)), vO 6 (.bin .and (.t 3) (.t 5)), vO 7 (.bin .eql (.t 6) (vI 0)), vM 2 7])
 (.ret)),
  [.tmp 2]⟩
def A_bits_TrailingZeros : AFun := ⟨8,
  .seq (vR [vO 2 (.mov (vI 0))])
 (.seq (.cond (.c (.bool false))
 (.seq (vR [vM 3 0, vO 4 (.conv .u32 (.t 3)), vO 5 (.call F_bits_TrailingZeros32 [(.t 4)]), vM 2 5])
 (.ret))
 (.skip))
 (.seq (vR [vM 6 0, vO 7 (.call F_bits_TrailingZeros64 [(.t 6)]), vM 2 7])
 (.ret))),
  [.tmp 2]⟩
def A_ref02_numberL1 : ACode :=
  .seq (.seq (vR [vM 47 8, vM 48 5, vO 49 (.bin .lss (.t 47) (.t 48))])
 (.cond (.t 49)
 (.skip)
 (.exit 2)))
 (.seq (.block 3 (.seq (.seq (vR [vM 52 0, vM 53 8, vO 54 (.idxA 1 (.t 52) (.t 53)), vO 55 (.ld none (.t 54)), vO 56 (.bin .lss (.t 55) (.c (.int .u8 128))), vM 57 56, ⟨some 58, .mov (.t 0), some (57, false)⟩, ⟨some 59, .mov (.t 8), some (57, false)⟩, ⟨some 60, .idxA 1 (.t 58) (.t 59), some (57, false)⟩, ⟨some 61, .ld none (.t 60), some (57, false)⟩, ⟨some 62, .bin .geq (.t 61) (.c (.int .u8 192)), some (57, false)⟩, vO 63 (.pick (.t 57) (.c (.bool true)) (.t 62))])
 (.cond (.t 63)
 (.seq (vR [vO 2 (.mov (vI (-1)))])
 (.ret))
 (.skip)))
 (vR [vM 64 7, vO 65 (.bin .mul (vI 64) (.t 64)), vM 66 0, vM 67 8, vO 68 (.idxA 1 (.t 66) (.t 67)), vO 69 (.ld none (.t 68)), vO 70 (.conv .i64 (.t 69)), vO 71 (.bin .add (.t 65) (.t 70)), vO 72 (.bin .sub (.t 71) (vI 128)), vM 7 72])))
 (vR [vM 50 8, vO 51 (.bin .add (.t 50) (vI 1)), vM 8 51]))
def A_ref02_numberL0 : ACode :=
  .seq (.seq (vR [vM 14 5, vO 15 (.bin .leq (.t 14) (vI 4))])
 (.cond (.t 15)
 (.skip)
 (.exit 0)))
 (.seq (.block 1 (.seq (vR [vM 18 5, vO 19 (.idxP 5 1 (.t 4) (.t 18)), vO 20 (.ld none (.t 19)), vM 21 5, vO 22 (.conv .u64 (.t 21)), vO 23 (.bin .shr (vI 64) (.t 22)), vO 24 (.bin .mul (.t 23) (vI 2)), vO 25 (.bin .add (.t 20) (.t 24)), vM 6 25])
 (.seq (.seq (vR [vM 26 0, vO 27 (.len (.t 26)), vM 28 5, vO 29 (.bin .neq (.t 27) (.t 28)), vM 30 29, ⟨some 31, .mov (.t 3), some (30, false)⟩, ⟨some 32, .mov (.t 5), some (30, false)⟩, ⟨some 33, .idxP 5 1 (.t 4) (.t 32), some (30, false)⟩, ⟨some 34, .ld none (.t 33), some (30, false)⟩, ⟨some 35, .bin .lss (.t 31) (.t 34), some (30, false)⟩, vO 36 (.pick (.t 30) (.c (.bool true)) (.t 35)), vM 37 36, ⟨some 38, .mov (.t 3), some (37, false)⟩, ⟨some 39, .mov (.t 6), some (37, false)⟩, ⟨some 40, .bin .geq (.t 38) (.t 39), some (37, false)⟩, vO 41 (.pick (.t 37) (.c (.bool true)) (.t 40))])
 (.cond (.t 41)
 (.exit 1)
 (.skip)))
 (.seq (vR [vM 42 3, vM 43 5, vO 44 (.idxP 5 1 (.t 4) (.t 43)), vO 45 (.ld none (.t 44)), vO 46 (.bin .sub (.t 42) (.t 45)), vM 7 46])
 (.seq (.seq (vR [vO 8 (.mov (vI 1))])
 (.block 2 (.loop A_ref02_numberL1)))
 (.seq (vR [vM 73 7, vM 2 73])
 (.ret)))))))
 (vR [vM 16 5, vO 17 (.bin .add (.t 16) (vI 1)), vM 5 17]))
def A_ref02_number : AFun := ⟨82,
  .seq (vR [vO 2 (.mov (vI 0))])
 (.seq (vR [vM 9 0, vO 10 (.idxA 1 (.t 9) (vI 0)), vO 11 (.ld none (.t 10)), vO 12 (.conv .i64 (.t 11)), vM 3 12])
 (.seq (vR [vO 13 (.build [.int .i64 0, .int .i64 0, .int .i64 0, .int .i64 0, .int .i64 0] [(0, 1, (vI 0)), (1, 1, (vI 0)), (2, 1, (vI 192)), (3, 1, (vI 224)), (4, 1, (vI 240))]), vO 4 (.alloc [.int .i64 0, .int .i64 0, .int .i64 0, .int .i64 0, .int .i64 0]), ⟨none, .st 5 (.t 4) (.t 13), none⟩])
 (.seq (.seq (vR [vO 5 (.mov (vI 2))])
 (.block 0 (.loop A_ref02_numberL0)))
 (.seq (.seq (vR [vM 74 0, vO 75 (.len (.t 74)), vO 76 (.bin .eql (.t 75) (vI 1)), vM 77 76, ⟨some 78, .mov (.t 3), some (77, true)⟩, ⟨some 79, .bin .lss (.t 78) (vI 128), some (77, true)⟩, vO 80 (.pick (.t 77) (.t 79) (.c (.bool false)))])
 (.cond (.t 80)
 (.seq (vR [vM 81 3, vM 2 81])
 (.ret))
 (.skip)))
 (.seq (vR [vO 2 (.mov (vI (-1)))])
 (.ret)))))),
  [.tmp 2]⟩
def A_strings_asciiSet_contains : AFun := ⟨10,
  .seq (vR [vO 4 (.mov (.c (.bool false)))])
 (.seq (vR [vM 5 0, vM 6 1, vO 7 (.nck (.t 5)), vO 8 (.idxP 256 1 (.t 7) (.t 6)), vO 9 (.ld none (.t 8)), vM 4 9])
 (.ret)),
  [.tmp 4]⟩
def A_bits_TrailingZeros64 : AFun := ⟨14,
  .seq (vR [vO 2 (.mov (vI 0))])
 (.seq (.seq (vR [vM 3 0, vO 4 (.bin .eql (.t 3) (.c (.int .u64 0)))])
 (.cond (.t 4)
 (.seq (vR [vO 2 (.mov (vI 64))])
 (.ret))
 (.skip)))
 (.seq (vR [vM 5 0, vM 6 0, vO 7 (.neg (.t 6)), vO 8 (.bin .and (.t 5) (.t 7)), vO 9 (.bin .mul (.t 8) (.c (.int .u64 285870213051353865))), vO 10 (.bin .shr (.t 9) (.c (.int .u64 58))), vO 11 (.idxP 64 1 (.gl 8) (.t 10)), vO 12 (.ld none (.t 11)), vO 13 (.conv .i64 (.t 12)), vM 2 13])
 (.ret))),
  [.tmp 2]⟩
section
variable {X : Cx} (hX : X.P = Go.Proofs.Tryz.prog)
include hX
theorem A_ref02_stands_ok : compileFun X.P F_ref02_stands vH = some A_ref02_stands := by rw [hX]; kernel_rfl
theorem A_ref02_begins_ok : compileFun X.P F_ref02_begins vH = some A_ref02_begins := by rw [hX]; kernel_rfl
theorem A_slices_IndexFunc_int_int_ok : compileFun X.P F_slices_IndexFunc_int_int vH = some A_slices_IndexFunc_int_int := by rw [hX]; kernel_rfl
theorem A_stringslite_TrimPrefix_ok : compileFun X.P F_stringslite_TrimPrefix vH = some A_stringslite_TrimPrefix := by rw [hX]; kernel_rfl
theorem A_strings_makeASCIISet_ok : compileFun X.P F_strings_makeASCIISet vH = some A_strings_makeASCIISet := by rw [hX]; kernel_rfl
theorem A_strings_trimLeftASCII_ok : compileFun X.P F_strings_trimLeftASCII vH = some A_strings_trimLeftASCII := by rw [hX]; kernel_rfl
theorem A_strings_trimRightASCII_ok : compileFun X.P F_strings_trimRightASCII vH = some A_strings_trimRightASCII := by rw [hX]; kernel_rfl
theorem A_strconv_isPowerOfTwo_ok : compileFun X.P F_strconv_isPowerOfTwo vH = some A_strconv_isPowerOfTwo := by rw [hX]; kernel_rfl
theorem A_bits_TrailingZeros_ok : compileFun X.P F_bits_TrailingZeros vH = some A_bits_TrailingZeros := by rw [hX]; kernel_rfl
theorem A_ref02_number_ok : compileFun X.P F_ref02_number vH = some A_ref02_number := by rw [hX]; kernel_rfl
theorem A_strings_asciiSet_contains_ok : compileFun X.P F_strings_asciiSet_contains vH = some A_strings_asciiSet_contains := by rw [hX]; kernel_rfl
theorem A_bits_TrailingZeros64_ok : compileFun X.P F_bits_TrailingZeros64 vH = some A_bits_TrailingZeros64 := by rw [hX]; kernel_rfl
end
end Go.Avm
