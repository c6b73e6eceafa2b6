/- The functions as they have been read. -/
import Derived.Test.YtcldomkahgaplaaGreatDoorAG1
import Derived.Test.YtcldomkahgaplaaGreatDoorProg
set_option linter.all false
namespace Go.Avm
open Go
def A_ra_Like : AFun := ⟨24,
  .seq (vR [vO 2 (.box (.t 0)), vO 3 (.box (.t 1)), vO 4 (.mov (.c (.bool false)))])
 (.seq (vR [vO 5 (.fldA 0 (.t 2)), vO 6 (.ld none (.t 5)), vO 7 (.fldA 0 (.t 3)), vO 8 (.ld none (.t 7)), vB 9 .eql 6 8, vM 10 9, ⟨some 11, .fldA 1 (.t 2), some (10, true)⟩, ⟨some 12, .ld none (.t 11), some (10, true)⟩, ⟨some 13, .fldA 1 (.t 3), some (10, true)⟩, ⟨some 14, .ld none (.t 13), some (10, true)⟩, ⟨some 15, .bin .eql (.t 12) (.t 14), some (10, true)⟩, vO 16 (.pick (.t 10) (.t 15) (.c (.bool false))), vM 17 16, ⟨some 18, .fldA 2 (.t 2), some (17, true)⟩, ⟨some 19, .ld (some 2) (.t 18), some (17, true)⟩, ⟨some 20, .fldA 2 (.t 3), some (17, true)⟩, ⟨some 21, .ld (some 2) (.t 20), some (17, true)⟩, ⟨some 22, .aeq false [0, 0] (.t 19) (.t 21), some (17, true)⟩, vO 23 (.pick (.t 17) (.t 22) (.c (.bool false))), vM 4 23])
 (.ret)),
  [.tmp 4]⟩
def A_fo_drawnL0 : ACode :=
  .seq (vR [vB 21 .lss 20 19])
 (.seq (.cond (.t 21)
 (.skip)
 (.exit 0))
 (.seq (.block 1 (.seq (vR [vM 22 20, vO 23 (.idxA 5 (.t 18) (.t 20)), vO 24 (.ld (some 5) (.t 23)), vO 8 (.alloc [.int .i64 0, .int .i64 0, .int .i64 0, .int .i64 0, .sl .ex []]), vM 7 22, ⟨none, .st 5 (.t 8) (.t 24), none⟩])
 (.region true [vM 25 6, vO 26 (.fldA 0 (.t 8)), vO 27 (.ld none (.t 26)), vO 28 (.fldA 4 (.t 8)), vO 29 (.ld none (.t 28)), vO 30 (.fldA 0 (.t 1)), vO 31 (.ld none (.t 30)), vM 32 7, vO 33 (.idxA 1 (.t 31) (.t 32)), vO 34 (.ld none (.t 33)), vO 35 (.lenS (.t 34)), vO 36 (.call F_fo_stacked [(.t 27), (.t 29), (.t 35)]), vO 37 (.bsl 3 (.agg [.sl .ex [], .int .i64 0, .nilF]) 1 [(0, (.t 36))]), vO 38 (.app 3 40 (.t 25) (.t 37)), vM 6 38])))
 (vR [vO 39 (.bin .add (.t 20) (vI 1)), vM 20 39])))
def A_fo_drawn : AFun := ⟨41,
  .seq (vR [vO 1 (.box (.t 0)), vO 2 (.mov (.c (.sl .ex []))), vO 3 (.mov (vI 0))])
 (.seq (.seq (vR [vO 10 (.ld (some 2) (.t 1)), vO 11 (.call F_tb_Check [(.t 10)]), vM 9 11, vE 12 9 0, vE 13 9 1, vM 4 12, vM 5 13])
 (.seq (vR [vM 14 5, vO 15 (.bin .neq (.t 14) (vI 0))])
 (.cond (.t 15)
 (.seq (vR [vM 16 5, vO 2 (.mov (.c (.sl .ex []))), vM 3 16])
 (.ret))
 (.skip))))
 (.seq (vR [vO 6 (.mov (.c (.sl .ex [])))])
 (.seq (.seq (vR [vO 17 (.fldA 1 (.t 1)), vO 18 (.ld none (.t 17)), vO 19 (.len (.t 18)), vO 20 (.mov (vI 0))])
 (.block 0 (.loop A_fo_drawnL0)))
 (.seq (vR [vM 40 6, vM 2 40, vO 3 (.mov (vI 0))])
 (.ret))))),
  [.tmp 2, .tmp 3]⟩
def A_fo_Table_1L0 : ACode :=
  .seq (vR [vB 10 .lss 9 8])
 (.seq (.cond (.t 10)
 (.skip)
 (.exit 0))
 (.seq (.block 1 (.seq (vR [vM 11 9, vO 12 (.idxA 3 (.t 7) (.t 9)), vO 13 (.ld (some 3) (.t 12)), vO 6 (.alloc [.sl .ex [], .int .i64 0, .nilF]), vM 5 11, ⟨none, .st 3 (.t 6) (.t 13), none⟩])
 (vR [vM 14 4, vM 15 0, vM 16 5, vO 17 (.ld (some 3) (.t 6)), vO 18 (.callv (.t 15) [(.t 16), (.t 17)]), vO 19 (.bsl 1 (.str []) 1 [(0, (.t 18))]), vO 20 (.app 1 16 (.t 14) (.t 19)), vM 4 20])))
 (vR [vO 21 (.bin .add (.t 9) (vI 1)), vM 9 21])))
def A_fo_Table_1 : AFun := ⟨26,
  .seq (vR [vO 4 (.mov (.c (.sl .ex [])))])
 (.seq (.seq (vR [vO 7 (.ld none (.t 1)), vO 8 (.len (.t 7)), vO 9 (.mov (vI 0))])
 (.block 0 (.loop A_fo_Table_1L0)))
 (vR [vM 22 4, vO 23 (.call F_st_Join [(.t 22), (.c (.str [32, 32]))]), vO 24 (.bin .add (.t 23) (.c (.str [10]))), vO 25 (.call F_sb_WriteString [(.t 2), (.t 24)])])),
  []⟩
def A_fo_Table_2 : AFun := ⟨16,
  .seq (vR [vO 4 (.box (.t 1)), vO 5 (.mov (.c (.str [])))])
 (.seq (.region true [vO 6 (.fldA 2 (.t 4)), vO 7 (.ld none (.t 6)), vO 8 (.fldA 0 (.t 2)), vO 9 (.ld none (.t 8)), vM 10 0, vO 11 (.idxA 1 (.t 9) (.t 10)), vO 12 (.ld none (.t 11)), vO 13 (.fldA 1 (.t 4)), vO 14 (.ld none (.t 13)), vO 15 (.callv (.t 7) [(.t 12), (.t 14)]), vM 5 15])
 (.ret)),
  [.tmp 5]⟩
def A_fo_Table_3 : AFun := ⟨8,
  .seq (vR [vO 3 (.box (.t 1)), vO 4 (.mov (.c (.str [])))])
 (.seq (vR [vO 5 (.fldA 1 (.t 3)), vO 6 (.ld none (.t 5)), vO 7 (.call F_st_Repeat [(.c (.str [45])), (.t 6)]), vM 4 7])
 (.ret)),
  [.tmp 4]⟩
def A_fo_Table_4 : AFun := ⟨16,
  .seq (vR [vO 4 (.box (.t 1)), vO 5 (.mov (.c (.str [])))])
 (.seq (.region true [vO 6 (.fldA 2 (.t 4)), vO 7 (.ld none (.t 6)), vO 8 (.fldA 0 (.t 4)), vO 9 (.ld none (.t 8)), vO 10 (.ld none (.t 2)), vO 11 (.idxA 1 (.t 9) (.t 10)), vO 12 (.ld none (.t 11)), vO 13 (.fldA 1 (.t 4)), vO 14 (.ld none (.t 13)), vO 15 (.callv (.t 7) [(.t 12), (.t 14)]), vM 5 15])
 (.ret)),
  [.tmp 5]⟩
def A_fo_cell : AFun := ⟨20,
  .seq (vR [vO 4 (.mov (.c (.str [])))])
 (.seq (.block 0 (.seq (vR [vM 6 0, vO 7 (.bin .eql (.t 6) (vI 1)), vM 5 7])
 (.cond (.t 5)
 (.seq (vR [vM 8 1, vO 9 (.call F_sc_FormatInt [(.t 8), (vI 10)]), vM 4 9])
 (.ret))
 (.seq (vR [vM 11 1, vO 12 (.bin .geq (.t 11) (vI 32)), vM 13 12, ⟨some 14, .mov (.t 1), some (13, true)⟩, ⟨some 15, .bin .leq (.t 14) (vI 126), some (13, true)⟩, vO 16 (.pick (.t 13) (.t 15) (.c (.bool false))), vM 10 16])
 (.cond (.t 10)
 (.seq (vR [vM 17 1, vO 18 (.conv .i32 (.t 17)), vO 19 (.r2s (.t 18)), vM 4 19])
 (.ret))
 (.skip))))))
 (.seq (vR [vO 4 (.mov (.c (.str [46])))])
 (.ret))),
  [.tmp 4]⟩
def A_fo_numbersL0 : ACode :=
  .seq (vR [vB 9 .lss 8 7])
 (.seq (.cond (.t 9)
 (.skip)
 (.exit 0))
 (.seq (.block 1 (.seq (vR [vO 10 (.idxA 1 (.t 6) (.t 8)), vO 11 (.ld none (.t 10)), vM 5 11])
 (vR [vM 12 3, vM 13 5, vO 14 (.call F_sc_FormatInt [(.t 13), (vI 10)]), vO 15 (.bsl 1 (.str []) 1 [(0, (.t 14))]), vO 16 (.app 1 16 (.t 12) (.t 15)), vM 3 16])))
 (vR [vO 17 (.bin .add (.t 8) (vI 1)), vM 8 17])))
def A_fo_numbers : AFun := ⟨20,
  .seq (vR [vO 2 (.mov (.c (.str [])))])
 (.seq (vR [vO 3 (.mov (.c (.sl .ex [])))])
 (.seq (.seq (vR [vM 6 0, vO 7 (.len (.t 6)), vO 8 (.mov (vI 0))])
 (.block 0 (.loop A_fo_numbersL0)))
 (.seq (vR [vM 18 3, vO 19 (.call F_st_Join [(.t 18), (.c (.str [32]))]), vM 2 19])
 (.ret)))),
  [.tmp 2]⟩
def A_fo_pieces : AFun := ⟨5,
  .seq (vR [vO 2 (.mov (.c (.nilF)))])
 (.seq (vR [vM 3 0, vO 4 (.call F_sx_Chunk_int64_int64 [(.t 3), (vI 20)]), vM 2 4])
 (.ret)),
  [.tmp 2]⟩
def A_fo_piece : AFun := ⟨27,
  .seq (vR [vO 4 (.mov (.c (.str [])))])
 (.seq (.seq (vR [vM 10 0, vO 11 (.bin .eql (.t 10) (vI 1))])
 (.cond (.t 11)
 (.seq (vR [vM 12 1, vO 13 (.call F_fo_numbers [(.t 12)]), vM 4 13])
 (.ret))
 (.skip)))
 (.seq (vR [vM 15 1, vO 16 (.call F_ru_Bytes [(.t 15)]), vM 14 16, vE 17 14 0, vE 18 14 1, vE 19 14 2, vM 5 17, vM 6 18, vM 7 19])
 (.seq (vR [vM 21 5, vO 22 (.b2s (.t 21)), vO 23 (.call F_lx_Quote [(.t 22)]), vM 20 23, vE 24 20 0, vE 25 20 1, vM 8 24, vM 9 25])
 (.seq (vR [vM 26 8, vM 4 26])
 (.ret))))),
  [.tmp 4]⟩
def A_fo_Parse_1 : AFun := ⟨7,
  .seq (vR [vO 2 (.alloc [.int .i64 0, .int .i64 0, .int .i64 0, .int .i64 0, .sl .ex []]), vO 3 (.mov (vI 0)), vO 4 (.mov (vI 0))])
 (.seq (vR [vO 5 (.build [.int .i64 0, .int .i64 0, .int .i64 0, .int .i64 0, .sl .ex []] []), vM 6 0, ⟨none, .st 5 (.t 2) (.t 5), none⟩, vM 3 6, vO 4 (.mov (vI 6))])
 (.ret)),
  [.cell (some 5) 2, .tmp 3, .tmp 4]⟩
def A_fo_begunL0 : ACode :=
  .seq (vR [vB 58 .lss 57 56])
 (.seq (.cond (.t 58)
 (.skip)
 (.exit 1))
 (.seq (.block 2 (.seq (vR [vM 59 57, vO 60 (.idxA 1 (.t 55) (.t 57)), vO 61 (.ld none (.t 60)), vM 7 59, vM 8 61])
 (.seq (vR [vM 62 7, vM 63 8, vO 64 (.fldA 2 (.t 2)), vO 65 (.idxP 2 1 (.t 64) (.t 62)), ⟨none, .st 1 (.t 65) (.t 63), none⟩])
 (vR [vM 66 3, vM 67 8, vB 68 .mul 66 67, vM 3 68]))))
 (vR [vO 69 (.bin .add (.t 57) (vI 1)), vM 57 69])))
def A_fo_begun : AFun := ⟨72,
  .seq (vR [vO 2 (.alloc [.int .i64 0, .int .i64 0, .int .i64 0, .int .i64 0, .sl .ex []]), vO 3 (.mov (vI 0)), vO 4 (.mov (.c (.bool false)))])
 (.seq (vR [vM 9 0, vO 10 (.call F_st_Split [(.t 9), (.c (.str [32]))]), vM 5 10])
 (.seq (.seq (vR [vM 11 5, vO 12 (.idxA 1 (.t 11) (vI 0)), vO 13 (.ld none (.t 12))])
 (.block 0 (.seq (vR [vO 16 (.bin .eql (.t 13) (.c (.str [105, 110, 116]))), vM 15 16])
 (.cond (.t 15)
 (vR [vO 17 (.fldA 0 (.t 2)), ⟨none, .st 1 (.t 17) (vI 1), none⟩])
 (.seq (vR [vO 19 (.bin .eql (.t 13) (.c (.str [99, 104, 97, 114]))), vM 18 19])
 (.cond (.t 18)
 (vR [vO 20 (.fldA 0 (.t 2)), ⟨none, .st 1 (.t 20) (vI 2), none⟩])
 (.seq (vR [vO 14 (.build [.int .i64 0, .int .i64 0, .int .i64 0, .int .i64 0, .sl .ex []] []), ⟨none, .st 5 (.t 2) (.t 14), none⟩, vO 3 (.mov (vI 0)), vO 4 (.mov (.c (.bool false)))])
 (.ret))))))))
 (.seq (vR [vM 22 5, vO 23 (.sls 1 (.t 22) (some (vI 1)) none none), vO 24 (.call F_fo_whole [(.t 23), (vI 1000000000)]), vM 21 24, vE 25 21 0, vE 26 21 1, vM 6 25, vM 4 26])
 (.seq (.seq (vR [vM 27 4, vO 28 (.not (.t 27)), vM 29 28, ⟨some 30, .mov (.t 6), some (29, false)⟩, ⟨some 31, .len (.t 30), some (29, false)⟩, ⟨some 32, .bin .eql (.t 31) (vI 0), some (29, false)⟩, vO 33 (.pick (.t 29) (.c (.bool true)) (.t 32)), vM 34 33, ⟨some 35, .mov (.t 6), some (34, false)⟩, ⟨some 36, .idxA 1 (.t 35) (vI 0), some (34, false)⟩, ⟨some 37, .ld none (.t 36), some (34, false)⟩, ⟨some 38, .bin .gtr (.t 37) (vI 2), some (34, false)⟩, vO 39 (.pick (.t 34) (.c (.bool true)) (.t 38)), vM 40 39, ⟨some 41, .mov (.t 6), some (40, false)⟩, ⟨some 42, .len (.t 41), some (40, false)⟩, ⟨some 43, .mov (.t 6), some (40, false)⟩, ⟨some 44, .idxA 1 (.t 43) (vI 0), some (40, false)⟩, ⟨some 45, .ld none (.t 44), some (40, false)⟩, ⟨some 46, .bin .add (.t 45) (vI 1), some (40, false)⟩, ⟨some 47, .bin .neq (.t 42) (.t 46), some (40, false)⟩, vO 48 (.pick (.t 40) (.c (.bool true)) (.t 47))])
 (.cond (.t 48)
 (.seq (vR [vO 49 (.build [.int .i64 0, .int .i64 0, .int .i64 0, .int .i64 0, .sl .ex []] []), ⟨none, .st 5 (.t 2) (.t 49), none⟩, vO 3 (.mov (vI 0)), vO 4 (.mov (.c (.bool false)))])
 (.ret))
 (.skip)))
 (.seq (vR [vM 50 6, vO 51 (.idxA 1 (.t 50) (vI 0)), vO 52 (.ld none (.t 51)), vO 53 (.fldA 1 (.t 2)), ⟨none, .st 1 (.t 53) (.t 52), none⟩])
 (.seq (vR [vO 3 (.mov (vI 1))])
 (.seq (.seq (vR [vM 54 6, vO 55 (.sls 1 (.t 54) (some (vI 1)) none none), vO 56 (.len (.t 55)), vO 57 (.mov (vI 0))])
 (.block 1 (.loop A_fo_begunL0)))
 (.seq (vR [vO 70 (.ld (some 5) (.t 2)), vM 71 3, ⟨none, .st 5 (.t 2) (.t 70), none⟩, vM 3 71, vO 4 (.mov (.c (.bool true)))])
 (.ret))))))))),
  [.cell (some 5) 2, .tmp 3, .tmp 4]⟩
def A_fo_cells : AFun := ⟨54,
  .seq (vR [vO 6 (.mov (.c (.sl .ex []))), vO 7 (.mov (.c (.bool false)))])
 (.seq (vR [vO 8 (.mov (.c (.sl .ex [])))])
 (.seq (.seq (vR [vM 12 0, vO 13 (.bin .eql (.t 12) (vI 1))])
 (.cond (.t 13)
 (vR [vM 15 1, vO 16 (.call F_st_Split [(.t 15), (.c (.str [32]))]), vO 17 (.call F_fo_whole [(.t 16), (vI 9223372036854775807)]), vM 14 17, vE 18 14 0, vE 19 14 1, vM 8 18])
 (.seq (vR [vM 21 1, vO 22 (.call F_lx_Line [(.t 21)]), vM 20 22, vE 23 20 0, vE 24 20 1, vE 25 20 2, vM 9 23, vM 10 24, vM 11 25])
 (.seq (vR [vM 26 11, vO 27 (.bin .eql (.t 26) (vI 0)), vM 28 27, ⟨some 29, .mov (.t 9), some (28, true)⟩, ⟨some 30, .len (.t 29), some (28, true)⟩, ⟨some 31, .bin .eql (.t 30) (vI 1), some (28, true)⟩, vO 32 (.pick (.t 28) (.t 31) (.c (.bool false)))])
 (.cond (.t 32)
 (vR [vM 34 9, vO 35 (.idxA 5 (.t 34) (vI 0)), vO 36 (.fldA 4 (.t 35)), vO 37 (.ld none (.t 36)), vO 38 (.s2b false (.t 37)), vO 39 (.call F_ru_Runes [(.t 38)]), vM 33 39, vE 40 33 0, vE 41 33 1, vM 8 40])
 (.skip))))))
 (.seq (vR [vM 42 8, vM 43 8, vO 44 (.len (.t 43)), vM 45 2, vB 46 .eql 44 45, vM 47 46, ⟨some 48, .mov (.t 0), some (47, true)⟩, ⟨some 49, .mov (.t 8), some (47, true)⟩, ⟨some 50, .call F_fo_piece [(.t 48), (.t 49)], some (47, true)⟩, ⟨some 51, .mov (.t 1), some (47, true)⟩, ⟨some 52, .bin .eql (.t 50) (.t 51), some (47, true)⟩, vO 53 (.pick (.t 47) (.t 52) (.c (.bool false))), vM 6 42, vM 7 53])
 (.ret)))),
  [.tmp 6, .tmp 7]⟩
def A_sh_Cells : AFun := ⟨16,
  .seq (vR [vO 3 (.box (.t 1)), vO 4 (.mov (vI 0)), vO 5 (.mov (vI 0))])
 (.seq (.seq (vR [vM 7 0, vO 8 (.ld (some 2) (.t 3)), vO 9 (.call F_sh_Check [(.t 7), (.t 8)]), vM 6 9])
 (.seq (vR [vM 10 6, vO 11 (.bin .neq (.t 10) (vI 0))])
 (.cond (.t 11)
 (.seq (vR [vM 12 6, vO 4 (.mov (vI 0)), vM 5 12])
 (.ret))
 (.skip))))
 (.seq (vR [vM 13 0, vO 14 (.ld (some 2) (.t 3)), vO 15 (.call F_sh_product [(.t 13), (.t 14)]), vM 4 15, vO 5 (.mov (vI 0))])
 (.ret))),
  [.tmp 4, .tmp 5]⟩
def A_sx_ContainsFunc_int64_int64 : AFun := ⟨9,
  .seq (vR [vO 4 (.mov (.c (.bool false)))])
 (.seq (vR [vM 5 0, vM 6 1, vO 7 (.call F_sx_IndexFunc_int64_int64 [(.t 5), (.t 6)]), vO 8 (.bin .geq (.t 7) (vI 0)), vM 4 8])
 (.ret)),
  [.tmp 4]⟩
def A_ar_Check_1 : AFun := ⟨9,
  .seq (vR [vO 3 (.mov (.c (.bool false)))])
 (.seq (vR [vO 4 (.fldA 0 (.t 1)), vO 5 (.ld none (.t 4)), vM 6 0, vO 7 (.call F_ar_right [(.t 5), (.t 6)]), vO 8 (.not (.t 7)), vM 3 8])
 (.ret)),
  [.tmp 3]⟩
def A_ar_right : AFun := ⟨20,
  .seq (vR [vO 4 (.mov (.c (.bool false)))])
 (.seq (vR [vM 5 0, vO 6 (.bin .eql (.t 5) (vI 1)), vM 7 6, ⟨some 8, .mov (.t 1), some (7, false)⟩, ⟨some 9, .bin .geq (.t 8) (vI 0), some (7, false)⟩, ⟨some 10, .mov (.t 9), some (7, false)⟩, ⟨some 11, .mov (.t 1), some (10, true)⟩, ⟨some 12, .bin .leq (.t 11) (vI 1114111), some (10, true)⟩, ⟨some 13, .pick (.t 10) (.t 12) (.c (.bool false)), some (7, false)⟩, ⟨some 14, .mov (.t 13), some (7, false)⟩, ⟨some 15, .mov (.t 1), some (14, true)⟩, ⟨some 16, .conv .i32 (.t 15), some (14, true)⟩, ⟨some 17, .call F_u_ValidRune [(.t 16)], some (14, true)⟩, ⟨some 18, .pick (.t 14) (.t 17) (.c (.bool false)), some (7, false)⟩, vO 19 (.pick (.t 7) (.c (.bool true)) (.t 18)), vM 4 19])
 (.ret)),
  [.tmp 4]⟩
def A_fo_left : AFun := ⟨10,
  .seq (vR [vO 4 (.mov (.c (.str [])))])
 (.seq (vR [vM 5 0, vM 6 0, vM 7 1, vO 8 (.call F_fo_blanks [(.t 6), (.t 7)]), vB 9 .add 5 8, vM 4 9])
 (.ret)),
  [.tmp 4]⟩
def A_fo_right : AFun := ⟨10,
  .seq (vR [vO 4 (.mov (.c (.str [])))])
 (.seq (vR [vM 5 0, vM 6 1, vO 7 (.call F_fo_blanks [(.t 5), (.t 6)]), vM 8 0, vB 9 .add 7 8, vM 4 9])
 (.ret)),
  [.tmp 4]⟩
def A_st_HasSuffix : AFun := ⟨8,
  .seq (vR [vO 4 (.mov (.c (.bool false)))])
 (.seq (vR [vM 5 0, vM 6 1, vO 7 (.call F_sl_HasSuffix [(.t 5), (.t 6)]), vM 4 7])
 (.ret)),
  [.tmp 4]⟩
def A_st_Split : AFun := ⟨8,
  .seq (vR [vO 4 (.mov (.c (.sl .ex [])))])
 (.seq (vR [vM 5 0, vM 6 1, vO 7 (.call F_st_genSplit [(.t 5), (.t 6), (vI 0), (vI (-1))]), vM 4 7])
 (.ret)),
  [.tmp 4]⟩
def A_wo_Int : AFun := ⟨31,
  .seq (vR [vO 6 (.mov (vI 0)), vO 7 (.mov (vI 0))])
 (.seq (.seq (vR [vM 10 0, vO 11 (.call F_wo_isDecimal [(.t 10)]), vO 12 (.not (.t 11))])
 (.cond (.t 12)
 (.seq (vR [vO 6 (.mov (vI 0)), vO 7 (.mov (vI 6))])
 (.ret))
 (.skip)))
 (.seq (vR [vM 14 0, vO 15 (.call F_sc_ParseInt [(.t 14), (vI 10), (vI 64)]), vM 13 15, vE 16 13 0, vE 17 13 1, vM 8 16, vM 9 17])
 (.seq (.seq (vR [vM 18 9, vO 19 (.ifn true (.t 18)), vM 20 19, ⟨some 21, .mov (.t 8), some (20, false)⟩, ⟨some 22, .mov (.t 1), some (20, false)⟩, ⟨some 23, .bin .lss (.t 21) (.t 22), some (20, false)⟩, vO 24 (.pick (.t 20) (.c (.bool true)) (.t 23)), vM 25 24, ⟨some 26, .mov (.t 8), some (25, false)⟩, ⟨some 27, .mov (.t 2), some (25, false)⟩, ⟨some 28, .bin .gtr (.t 26) (.t 27), some (25, false)⟩, vO 29 (.pick (.t 25) (.c (.bool true)) (.t 28))])
 (.cond (.t 29)
 (.seq (vR [vO 6 (.mov (vI 0)), vO 7 (.mov (vI 7))])
 (.ret))
 (.skip)))
 (.seq (vR [vM 30 8, vM 6 30, vO 7 (.mov (vI 0))])
 (.ret))))),
  [.tmp 6, .tmp 7]⟩
def A_tb_CheckL0 : ACode :=
  .seq (vR [vB 27 .lss 26 25])
 (.seq (.cond (.t 27)
 (.skip)
 (.exit 1))
 (.seq (.block 2 (.seq (vR [vM 28 26, vO 29 (.idxA 1 (.t 24) (.t 26)), vO 30 (.ld none (.t 29)), vM 5 28, vM 6 30])
 (.seq (vR [vO 31 (.fldA 1 (.t 1)), vO 32 (.ld none (.t 31)), vM 33 5, vO 34 (.idxA 5 (.t 32) (.t 33)), vO 35 (.ld (some 5) (.t 34)), vO 7 (.alloc [.int .i64 0, .int .i64 0, .int .i64 0, .int .i64 0, .sl .ex []]), ⟨none, .st 5 (.t 7) (.t 35), none⟩])
 (.seq (.seq (vR [vO 36 (.ld (some 5) (.t 7)), vO 37 (.call F_ar_Check [(.t 36)]), vM 8 37])
 (.block 3 (.seq (vR [vM 39 6, vO 40 (.call F_wo_Name [(.t 39)]), vO 41 (.not (.t 40)), vM 38 41])
 (.cond (.t 38)
 (.seq (vR [vM 42 5, vM 2 42, vO 3 (.mov (vI 6))])
 (.ret))
 (.seq (vR [vM 44 4, vM 45 6, vO 46 (.mget (.t 44) (.t 45)), vM 43 46])
 (.cond (.t 43)
 (.seq (vR [vM 47 5, vM 2 47, vO 3 (.mov (vI 8))])
 (.ret))
 (.seq (vR [vM 49 8, vO 50 (.bin .neq (.t 49) (vI 0)), vM 48 50])
 (.cond (.t 48)
 (.seq (vR [vM 51 5, vM 52 8, vM 2 51, vM 3 52])
 (.ret))
 (.seq (vR [vO 54 (.fldA 1 (.t 7)), vO 55 (.ld none (.t 54)), vO 56 (.bin .neq (.t 55) (vI 1)), vM 53 56])
 (.cond (.t 53)
 (.seq (vR [vM 57 5, vM 2 57, vO 3 (.mov (vI 22))])
 (.ret))
 (.seq (.region true [vO 59 (.fldA 2 (.t 7)), vO 60 (.ld (some 2) (.t 59)), vO 61 (.fldA 1 (.t 1)), vO 62 (.ld none (.t 61)), vO 63 (.idxA 5 (.t 62) (vI 0)), vO 64 (.fldA 2 (.t 63)), vO 65 (.ld (some 2) (.t 64)), vO 66 (.aeq true [0, 0] (.t 60) (.t 65)), vM 58 66])
 (.cond (.t 58)
 (.seq (vR [vM 67 5, vM 2 67, vO 3 (.mov (vI 11))])
 (.ret))
 (.skip)))))))))))))
 (vR [vM 68 4, vM 69 6, ⟨none, .mset (.t 68) (.t 69), none⟩])))))
 (vR [vO 70 (.bin .add (.t 26) (vI 1)), vM 26 70])))
def A_tb_Check : AFun := ⟨71,
  .seq (vR [vO 1 (.box (.t 0)), vO 2 (.mov (vI 0)), vO 3 (.mov (vI 0))])
 (.seq (.block 0 (.seq (vR [vO 10 (.fldA 0 (.t 1)), vO 11 (.ld none (.t 10)), vO 12 (.len (.t 11)), vO 13 (.bin .gtr (.t 12) (vI 16)), vM 9 13])
 (.cond (.t 9)
 (.seq (vR [vO 2 (.mov (vI (-1))), vO 3 (.mov (vI 3))])
 (.ret))
 (.seq (vR [vO 15 (.fldA 1 (.t 1)), vO 16 (.ld none (.t 15)), vO 17 (.len (.t 16)), vO 18 (.fldA 0 (.t 1)), vO 19 (.ld none (.t 18)), vO 20 (.len (.t 19)), vB 21 .neq 17 20, vM 14 21])
 (.cond (.t 14)
 (.seq (vR [vO 2 (.mov (vI (-1))), vO 3 (.mov (vI 6))])
 (.ret))
 (.skip))))))
 (.seq (vR [vO 22 (.mkM), vM 4 22])
 (.seq (.seq (vR [vO 23 (.fldA 0 (.t 1)), vO 24 (.ld none (.t 23)), vO 25 (.len (.t 24)), vO 26 (.mov (vI 0))])
 (.block 1 (.loop A_tb_CheckL0)))
 (.seq (vR [vO 2 (.mov (vI 0)), vO 3 (.mov (vI 0))])
 (.ret))))),
  [.tmp 2, .tmp 3]⟩
def A_st_HasPrefix : AFun := ⟨8,
  .seq (vR [vO 4 (.mov (.c (.bool false)))])
 (.seq (vR [vM 5 0, vM 6 1, vO 7 (.call F_sl_HasPrefix [(.t 5), (.t 6)]), vM 4 7])
 (.ret)),
  [.tmp 4]⟩
def A_ru_is : AFun := ⟨13,
  .seq (vR [vO 2 (.mov (.c (.bool false)))])
 (.seq (vR [vM 3 0, vM 4 0, vO 5 (.conv .i32 (.t 4)), vO 6 (.conv .i64 (.t 5)), vB 7 .eql 3 6, vM 8 7, ⟨some 9, .mov (.t 0), some (8, true)⟩, ⟨some 10, .conv .i32 (.t 9), some (8, true)⟩, ⟨some 11, .call F_u_ValidRune [(.t 10)], some (8, true)⟩, vO 12 (.pick (.t 8) (.t 11) (.c (.bool false))), vM 2 12])
 (.ret)),
  [.tmp 2]⟩
def A_u_RuneLen : AFun := ⟨25,
  .seq (vR [vO 2 (.mov (vI 0))])
 (.seq (.block 0 (.seq (vR [vM 4 0, vO 5 (.bin .lss (.t 4) (.c (.int .i32 0))), vM 3 5])
 (.cond (.t 3)
 (.seq (vR [vO 2 (.mov (vI (-1)))])
 (.ret))
 (.seq (vR [vM 7 0, vO 8 (.bin .leq (.t 7) (.c (.int .i32 127))), vM 6 8])
 (.cond (.t 6)
 (.seq (vR [vO 2 (.mov (vI 1))])
 (.ret))
 (.seq (vR [vM 10 0, vO 11 (.bin .leq (.t 10) (.c (.int .i32 2047))), vM 9 11])
 (.cond (.t 9)
 (.seq (vR [vO 2 (.mov (vI 2))])
 (.ret))
 (.seq (vR [vM 13 0, vO 14 (.bin .leq (.c (.int .i32 55296)) (.t 13)), vM 15 14, ⟨some 16, .mov (.t 0), some (15, true)⟩, ⟨some 17, .bin .leq (.t 16) (.c (.int .i32 57343)), some (15, true)⟩, vO 18 (.pick (.t 15) (.t 17) (.c (.bool false))), vM 12 18])
 (.cond (.t 12)
 (.seq (vR [vO 2 (.mov (vI (-1)))])
 (.ret))
 (.seq (vR [vM 20 0, vO 21 (.bin .leq (.t 20) (.c (.int .i32 65535))), vM 19 21])
 (.cond (.t 19)
 (.seq (vR [vO 2 (.mov (vI 3))])
 (.ret))
 (.seq (vR [vM 23 0, vO 24 (.bin .leq (.t 23) (.c (.int .i32 1114111))), vM 22 24])
 (.cond (.t 22)
 (.seq (vR [vO 2 (.mov (vI 4))])
 (.ret))
 (.skip))))))))))))))
 (.seq (vR [vO 2 (.mov (vI (-1)))])
 (.ret))),
  [.tmp 2]⟩
def A_sc_FormatInt : AFun := ⟨8,
  .seq (vR [vO 4 (.mov (.c (.str [])))])
 (.seq (vR [vM 5 0, vM 6 1, vO 7 (.call F_sc_FormatInt_124 [(.t 5), (.t 6)]), vM 4 7])
 (.ret)),
  [.tmp 4]⟩
def A_sx_Chunk_int64_int64 : AFun := ⟨9,
  .seq (vR [vO 2 (.box (.t 0)), vO 3 (.box (.t 1)), vO 4 (.mov (.c (.nilF)))])
 (.seq (.seq (vR [vO 5 (.ld none (.t 3)), vO 6 (.bin .lss (.t 5) (vI 1))])
 (.cond (.t 6)
 (.bad)
 (.skip)))
 (.seq (vR [vO 8 (.mkf F_sx_Chunk_int64_int64_1 [] [(.t 2), (.t 3)]), vM 4 8])
 (.ret))),
  [.tmp 4]⟩
def A_ru_BytesL0 : ACode :=
  .seq (vR [vB 16 .lss 15 14])
 (.seq (.cond (.t 16)
 (.skip)
 (.exit 0))
 (.seq (.block 1 (.seq (vR [vO 17 (.idxA 1 (.t 13) (.t 15)), vO 18 (.ld none (.t 17)), vM 7 18])
 (.seq (vR [vM 19 2, vM 20 7, vO 21 (.conv .i32 (.t 20)), vO 22 (.call F_u_AppendRune [(.t 19), (.t 21)]), vM 2 22])
 (.seq (vR [vM 23 2, vO 24 (.len (.t 23)), vO 25 (.bin .gtr (.t 24) (vI 8000))])
 (.cond (.t 25)
 (.seq (vR [vO 2 (.mov (.c (.sl .ex []))), vO 3 (.mov (vI 0)), vO 4 (.mov (vI 3))])
 (.ret))
 (.skip))))))
 (vR [vO 26 (.bin .add (.t 15) (vI 1)), vM 15 26])))
def A_ru_Bytes : AFun := ⟨28,
  .seq (vR [vO 2 (.mov (.c (.sl .ex []))), vO 3 (.mov (vI 0)), vO 4 (.mov (vI 0))])
 (.seq (.seq (vR [vM 8 0, vO 9 (.call F_sx_IndexFunc_int64_int64 [(.t 8), (.c (.clo F_ru_Bytes_1 [] []))]), vM 5 9])
 (.seq (vR [vM 10 5, vO 11 (.bin .geq (.t 10) (vI 0))])
 (.cond (.t 11)
 (.seq (vR [vM 12 5, vO 2 (.mov (.c (.sl .ex []))), vM 3 12, vO 4 (.mov (vI 7))])
 (.ret))
 (.skip))))
 (.seq (.seq (vR [vM 13 0, vO 14 (.len (.t 13)), vO 15 (.mov (vI 0))])
 (.block 0 (.loop A_ru_BytesL0)))
 (.seq (vR [vM 27 2, vM 2 27, vO 3 (.mov (vI 0)), vO 4 (.mov (vI 0))])
 (.ret)))),
  [.tmp 2, .tmp 3, .tmp 4]⟩
def A_lx_Quote : AFun := ⟨12,
  .seq (vR [vO 2 (.mov (.c (.str []))), vO 3 (.mov (vI 0))])
 (.seq (.seq (vR [vM 4 0, vO 5 (.lenS (.t 4)), vO 6 (.bin .gtr (.t 5) (vI 2000))])
 (.cond (.t 6)
 (.seq (vR [vO 2 (.mov (.c (.str []))), vO 3 (.mov (vI 3))])
 (.ret))
 (.skip)))
 (.seq (.seq (vR [vM 7 0, vO 8 (.call F_u_ValidString [(.t 7)]), vO 9 (.not (.t 8))])
 (.cond (.t 9)
 (.seq (vR [vO 2 (.mov (.c (.str []))), vO 3 (.mov (vI 6))])
 (.ret))
 (.skip)))
 (.seq (vR [vM 10 0, vO 11 (.call F_lx_quoted [(.t 10)]), vM 2 11, vO 3 (.mov (vI 0))])
 (.ret)))),
  [.tmp 2, .tmp 3]⟩
def A_fo_wholeL0 : ACode :=
  .seq (vR [vB 14 .lss 13 12])
 (.seq (.cond (.t 14)
 (.skip)
 (.exit 0))
 (.seq (.block 1 (.seq (vR [vO 15 (.idxA 1 (.t 11) (.t 13)), vO 16 (.ld none (.t 15)), vM 8 16])
 (.seq (vR [vM 18 8, vM 19 1, vO 20 (.bin .sub (vI (-1)) (.t 19)), vM 21 1, vO 22 (.call F_wo_Int [(.t 18), (.t 20), (.t 21)]), vM 17 22, vE 23 17 0, vE 24 17 1, vM 9 23, vM 10 24])
 (.seq (.seq (vR [vM 25 10, vO 26 (.bin .neq (.t 25) (vI 0)), vM 27 26, ⟨some 28, .mov (.t 1), some (27, false)⟩, ⟨some 29, .bin .lss (.t 28) (vI 9223372036854775807), some (27, false)⟩, ⟨some 30, .mov (.t 29), some (27, false)⟩, ⟨some 31, .mov (.t 9), some (30, true)⟩, ⟨some 32, .bin .lss (.t 31) (vI 0), some (30, true)⟩, ⟨some 33, .pick (.t 30) (.t 32) (.c (.bool false)), some (27, false)⟩, vO 34 (.pick (.t 27) (.c (.bool true)) (.t 33))])
 (.cond (.t 34)
 (.seq (vR [vO 4 (.mov (.c (.sl .ex []))), vO 5 (.mov (.c (.bool false)))])
 (.ret))
 (.skip)))
 (vR [vM 35 6, vM 36 9, vO 37 (.bsl 1 (.int .i64 0) 1 [(0, (.t 36))]), vO 38 (.app 1 8 (.t 35) (.t 37)), vM 6 38])))))
 (vR [vO 39 (.bin .add (.t 13) (vI 1)), vM 13 39])))
def A_fo_whole : AFun := ⟨41,
  .seq (vR [vO 4 (.mov (.c (.sl .ex []))), vO 5 (.mov (.c (.bool false)))])
 (.seq (vR [vO 6 (.mov (.c (.sl .ex [])))])
 (.seq (.seq (vR [vM 11 0, vO 12 (.len (.t 11)), vO 13 (.mov (vI 0))])
 (.block 0 (.loop A_fo_wholeL0)))
 (.seq (vR [vM 40 6, vM 4 40, vO 5 (.mov (.c (.bool true)))])
 (.ret)))),
  [.tmp 4, .tmp 5]⟩
def A_lx_LineL0 : ACode :=
  .seq (.seq (vR [vM 16 5, vO 17 (.nck (.t 16)), vO 18 (.fldA 1 (.t 17)), vO 19 (.ld none (.t 18)), vM 20 0, vO 21 (.lenS (.t 20)), vB 22 .lss 19 21])
 (.cond (.t 22)
 (.skip)
 (.exit 0)))
 (.block 1 (.seq (vR [vM 23 5, vO 24 (.mkf F_lr_mark [(.t 23)] []), vM 6 24])
 (.seq (.seq (vR [vM 25 5, vM 26 5, vO 27 (.nck (.t 26)), vO 28 (.fldA 1 (.t 27)), vO 29 (.ld none (.t 28)), vO 30 (.call F_lr_class [(.t 25), (.t 29)])])
 (.block 2 (.seq (vR [vO 32 (.bin .eql (.t 30) (vI 1)), vM 31 32])
 (.cond (.t 31)
 (.seq (vR [vM 33 5, vO 34 (.nck (.t 33)), vO 35 (.fldA 1 (.t 34)), vO 36 (.ld none (.t 35)), vO 37 (.bin .add (.t 36) (vI 1)), vO 38 (.nck (.t 33)), vO 39 (.fldA 1 (.t 38)), ⟨none, .st 1 (.t 39) (.t 37), none⟩])
 (.exit 1))
 (.seq (vR [vO 41 (.bin .eql (.t 30) (vI 8)), vM 40 41])
 (.cond (.t 40)
 (vR [vM 42 5, vO 43 (.mkf F_lr_word [(.t 42)] []), vM 6 43])
 (.seq (.seq (vR [vO 45 (.bin .eql (.t 30) (vI 6)), vM 44 45])
 (.cond (.t 44)
 (.skip)
 (vR [vO 46 (.bin .eql (.t 30) (vI 7)), vM 44 46])))
 (.cond (.t 44)
 (vR [vM 47 5, vO 48 (.mkf F_lr_number [(.t 47)] []), vM 6 48])
 (.seq (vR [vO 50 (.bin .eql (.t 30) (vI 5)), vM 49 50])
 (.cond (.t 49)
 (vR [vM 51 5, vO 52 (.mkf F_lr_text [(.t 51)] []), vM 6 52])
 (.skip)))))))))))
 (.seq (vR [vM 53 5, vO 54 (.nck (.t 53)), vO 55 (.fldA 1 (.t 54)), vO 56 (.ld none (.t 55)), vM 7 56])
 (.seq (vR [vM 58 6, vO 59 (.callv (.t 58) []), vM 57 59, vE 60 57 0, vE 61 57 1, vO 8 (.alloc [.int .i64 0, .int .i64 0, .int .i64 0, .int .i64 0, .str []]), vO 9 (.alloc [.int .i64 0, .int .i64 0]), ⟨none, .st 5 (.t 8) (.t 60), none⟩, ⟨none, .st 2 (.t 9) (.t 61), none⟩])
 (.seq (.seq (vR [vO 62 (.fldA 1 (.t 9)), vO 63 (.ld none (.t 62)), vO 64 (.bin .neq (.t 63) (vI 0))])
 (.cond (.t 64)
 (.seq (.region true [vO 65 (.fldA 0 (.t 9)), vO 66 (.ld none (.t 65)), vO 67 (.fldA 1 (.t 9)), vO 68 (.ld none (.t 67)), vO 2 (.mov (.c (.sl .ex []))), vM 3 66, vM 4 68])
 (.ret))
 (.skip)))
 (.seq (.region true [vM 69 7, vM 70 5, vO 71 (.nck (.t 70)), vO 72 (.fldA 1 (.t 71)), vO 73 (.ld none (.m true 72)), vO 74 (.fldA 1 (.t 8)), ⟨none, .st 1 (.m false 74) (.t 69), none⟩, vO 75 (.fldA 2 (.t 8)), ⟨none, .st 1 (.m false 75) (.t 73), none⟩])
 (vR [vM 76 2, vO 77 (.ld (some 5) (.t 8)), vO 78 (.bsl 5 (.agg [.int .i64 0, .int .i64 0, .int .i64 0, .int .i64 0, .str []]) 1 [(0, (.t 77))]), vO 79 (.app 5 48 (.t 76) (.t 78)), vM 2 79]))))))))
def A_lx_Line : AFun := ⟨81,
  .seq (vR [vO 2 (.mov (.c (.sl .ex []))), vO 3 (.mov (vI 0)), vO 4 (.mov (vI 0))])
 (.scope (.seq (.seq (vR [vM 10 0, vO 11 (.lenS (.t 10)), vO 12 (.bin .gtr (.t 11) (vI 2000))])
 (.cond (.t 12)
 (.seq (vR [vO 2 (.mov (.c (.sl .ex []))), vO 3 (.mov (vI 0)), vO 4 (.mov (vI 3))])
 (.ret))
 (.skip)))
 (.seq (vR [vM 13 0, vO 14 (.build [.str [], .int .i64 0] [(0, 1, (.t 13))]), vO 15 (.box (.t 14)), vM 5 15])
 (.seq (.label 0)
 (.seq (.block 0 (.loop A_lx_LineL0))
 (.seq (vR [vM 80 2, vM 2 80, vO 3 (.mov (vI 0)), vO 4 (.mov (vI 0))])
 (.ret))))))),
  [.tmp 2, .tmp 3, .tmp 4]⟩
def A_ru_RunesR0a : ACode :=
  vR [vM 8 20]
def A_ru_RunesR0b : ACode :=
  .block 1 (vR [vO 21 (.ld none (.t 6)), vM 22 8, vO 23 (.bsl 1 (.int .i64 0) 1 [(0, (.t 22))]), vO 24 (.app 1 8 (.t 21) (.t 23)), ⟨none, .st 1 (.t 6) (.t 24), none⟩])
def A_ru_Runes : AFun := ⟨26,
  .seq (vR [vO 2 (.mov (.c (.sl .ex []))), vO 3 (.mov (vI 0))])
 (.seq (.seq (vR [vM 10 0, vO 11 (.call F_ru_Check [(.t 10)]), vM 9 11, vE 12 9 0, vE 13 9 1, vM 4 12, vM 5 13])
 (.seq (vR [vM 14 5, vO 15 (.bin .neq (.t 14) (vI 0))])
 (.cond (.t 15)
 (.seq (vR [vM 16 5, vO 2 (.mov (.c (.sl .ex []))), vM 3 16])
 (.ret))
 (.skip))))
 (.seq (vR [vO 6 (.alloc [.sl .ex []])])
 (.seq (.seq (vR [vM 17 0, vO 18 (.call F_ru_all [(.t 17)])])
 (.block 0 (.rangeF (.t 18) [19, 20] A_ru_RunesR0a A_ru_RunesR0b)))
 (.seq (vR [vO 25 (.ld none (.t 6)), vM 2 25, vO 3 (.mov (vI 0))])
 (.ret))))),
  [.tmp 2, .tmp 3]⟩
def A_sh_Check : AFun := ⟨30,
  .seq (vR [vO 3 (.box (.t 1)), vO 4 (.mov (vI 0))])
 (.seq (.seq (vR [vM 7 0, vO 8 (.bin .lss (.t 7) (vI 0)), vM 9 8, ⟨some 10, .mov (.t 0), some (9, false)⟩, ⟨some 11, .bin .gtr (.t 10) (vI 2), some (9, false)⟩, vO 12 (.pick (.t 9) (.c (.bool true)) (.t 11))])
 (.cond (.t 12)
 (.seq (vR [vO 4 (.mov (vI 7))])
 (.ret))
 (.skip)))
 (.seq (.region true [vM 13 0, vO 14 (.slA 2 1 (.t 3) none (some (.t 13)) none), vM 15 0, vO 16 (.slA 2 1 (.t 3) (some (.t 15)) none none), vM 5 14, vM 6 16])
 (.seq (.block 0 (.seq (vR [vM 18 5, vO 19 (.call F_sx_ContainsFunc_int_int [(.t 18), (.c (.clo F_sh_Check_1 [] []))]), vM 17 19])
 (.cond (.t 17)
 (.seq (vR [vO 4 (.mov (vI 7))])
 (.ret))
 (.seq (vR [vM 21 6, vO 22 (.call F_sx_ContainsFunc_int_int [(.t 21), (.c (.clo F_sh_Check_2 [] []))]), vM 20 22])
 (.cond (.t 20)
 (.seq (vR [vO 4 (.mov (vI 6))])
 (.ret))
 (.seq (.seq (vR [vM 24 5, vO 25 (.call F_sx_ContainsFunc_int_int [(.t 24), (.c (.clo F_sh_Check_3 [] []))]), vM 23 25])
 (.cond (.t 23)
 (.skip)
 (vR [vM 26 0, vO 27 (.ld (some 2) (.t 3)), vO 28 (.call F_sh_product [(.t 26), (.t 27)]), vO 29 (.bin .gtr (.t 28) (vI 400)), vM 23 29])))
 (.cond (.t 23)
 (.seq (vR [vO 4 (.mov (vI 15))])
 (.ret))
 (.skip))))))))
 (.seq (vR [vO 4 (.mov (vI 0))])
 (.ret))))),
  [.tmp 4]⟩
def A_sh_product : AFun := ⟨20,
  .seq (vR [vO 3 (.box (.t 1)), vO 4 (.mov (vI 0))])
 (.seq (vR [vO 5 (.mov (vI 1))])
 (.seq (.seq (vR [vM 6 0])
 (.block 0 (.seq (.block 2 (.seq (.block 1 (.seq (.seq (.seq (vR [vO 8 (.bin .eql (.t 6) (vI 2)), vM 7 8])
 (.cond (.t 7)
 (.exit 1)
 (.skip)))
 (.seq (vR [vO 10 (.bin .eql (.t 6) (vI 1)), vM 9 10])
 (.cond (.t 9)
 (.exit 2)
 (.skip))))
 (.exit 0)))
 (vR [vM 11 5, vO 12 (.idxP 2 1 (.t 3) (vI 1)), vO 13 (.ld none (.t 12)), vB 14 .mul 11 13, vM 5 14])))
 (.seq (vR [vM 15 5, vO 16 (.idxP 2 1 (.t 3) (vI 0)), vO 17 (.ld none (.t 16)), vB 18 .mul 15 17, vM 5 18])
 (.exit 0)))))
 (.seq (vR [vM 19 5, vM 4 19])
 (.ret)))),
  [.tmp 4]⟩
def A_sx_IndexFunc_int64_int64L0 : ACode :=
  .seq (vR [vB 9 .lss 8 7])
 (.seq (.cond (.t 9)
 (.skip)
 (.exit 0))
 (.seq (.block 1 (.seq (vR [vM 10 8, vM 5 10])
 (.seq (vR [vM 11 1, vM 12 0, vM 13 5, vO 14 (.idxA 1 (.t 12) (.t 13)), vO 15 (.ld none (.t 14)), vO 16 (.callv (.t 11) [(.t 15)])])
 (.cond (.t 16)
 (.seq (vR [vM 17 5, vM 4 17])
 (.ret))
 (.skip)))))
 (vR [vO 18 (.bin .add (.t 8) (vI 1)), vM 8 18])))
def A_sx_IndexFunc_int64_int64 : AFun := ⟨19,
  .seq (vR [vO 4 (.mov (vI 0))])
 (.seq (.seq (vR [vM 6 0, vO 7 (.len (.t 6)), vO 8 (.mov (vI 0))])
 (.block 0 (.loop A_sx_IndexFunc_int64_int64L0)))
 (.seq (vR [vO 4 (.mov (vI (-1)))])
 (.ret))),
  [.tmp 4]⟩
def A_u_ValidRune : AFun := ⟨17,
  .seq (vR [vO 2 (.mov (.c (.bool false)))])
 (.seq (.block 0 (.seq (vR [vM 4 0, vO 5 (.bin .leq (.c (.int .i32 0)) (.t 4)), vM 6 5, ⟨some 7, .mov (.t 0), some (6, true)⟩, ⟨some 8, .bin .lss (.t 7) (.c (.int .i32 55296)), some (6, true)⟩, vO 9 (.pick (.t 6) (.t 8) (.c (.bool false))), vM 3 9])
 (.cond (.t 3)
 (.seq (vR [vO 2 (.mov (.c (.bool true)))])
 (.ret))
 (.seq (vR [vM 11 0, vO 12 (.bin .lss (.c (.int .i32 57343)) (.t 11)), vM 13 12, ⟨some 14, .mov (.t 0), some (13, true)⟩, ⟨some 15, .bin .leq (.t 14) (.c (.int .i32 1114111)), some (13, true)⟩, vO 16 (.pick (.t 13) (.t 15) (.c (.bool false))), vM 10 16])
 (.cond (.t 10)
 (.seq (vR [vO 2 (.mov (.c (.bool true)))])
 (.ret))
 (.skip))))))
 (.seq (vR [vO 2 (.mov (.c (.bool false)))])
 (.ret))),
  [.tmp 2]⟩
def A_fo_blanks : AFun := ⟨11,
  .seq (vR [vO 4 (.mov (.c (.str [])))])
 (.seq (vR [vM 5 1, vM 6 0, vO 7 (.lenS (.t 6)), vB 8 .sub 5 7, vO 9 (.mm true (.t 8) (vI 0)), vO 10 (.call F_st_Repeat [(.c (.str [32])), (.t 9)]), vM 4 10])
 (.ret)),
  [.tmp 4]⟩
def A_sl_HasSuffix : AFun := ⟨21,
  .seq (vR [vO 4 (.mov (.c (.bool false)))])
 (.seq (vR [vM 5 0, vO 6 (.lenS (.t 5)), vM 7 1, vO 8 (.lenS (.t 7)), vB 9 .geq 6 8, vM 10 9, ⟨some 11, .mov (.t 0), some (10, true)⟩, ⟨some 12, .mov (.t 0), some (10, true)⟩, ⟨some 13, .lenS (.t 12), some (10, true)⟩, ⟨some 14, .mov (.t 1), some (10, true)⟩, ⟨some 15, .lenS (.t 14), some (10, true)⟩, ⟨some 16, .bin .sub (.t 13) (.t 15), some (10, true)⟩, ⟨some 17, .ssl (.t 11) (some (.t 16)) none, some (10, true)⟩, ⟨some 18, .mov (.t 1), some (10, true)⟩, ⟨some 19, .bin .eql (.t 17) (.t 18), some (10, true)⟩, vO 20 (.pick (.t 10) (.t 19) (.c (.bool false))), vM 4 20])
 (.ret)),
  [.tmp 4]⟩
def A_st_genSplitL0 : ACode :=
  .seq (.seq (vR [vM 34 10, vM 35 3, vB 36 .lss 34 35])
 (.cond (.t 36)
 (.skip)
 (.exit 0)))
 (.block 1 (.seq (vR [vM 37 0, vM 38 1, vO 39 (.call F_st_Index [(.t 37), (.t 38)]), vM 11 39])
 (.seq (.seq (vR [vM 40 11, vO 41 (.bin .lss (.t 40) (vI 0))])
 (.cond (.t 41)
 (.exit 0)
 (.skip)))
 (.seq (vR [vM 42 9, vM 43 10, vM 44 0, vM 45 11, vM 46 2, vB 47 .add 45 46, vO 48 (.ssl (.t 44) none (some (.t 47))), vO 49 (.idxA 1 (.t 42) (.t 43)), ⟨none, .st 1 (.t 49) (.t 48), none⟩])
 (.seq (vR [vM 50 0, vM 51 11, vM 52 1, vO 53 (.lenS (.t 52)), vB 54 .add 51 53, vO 55 (.ssl (.t 50) (some (.t 54)) none), vM 0 55])
 (vR [vM 56 10, vO 57 (.bin .add (.t 56) (vI 1)), vM 10 57]))))))
def A_st_genSplit : AFun := ⟨66,
  .seq (vR [vO 8 (.mov (.c (.sl .ex [])))])
 (.seq (.seq (vR [vM 12 3, vO 13 (.bin .eql (.t 12) (vI 0))])
 (.cond (.t 13)
 (.seq (vR [vO 8 (.mov (.c (.sl .ex [])))])
 (.ret))
 (.skip)))
 (.seq (.seq (vR [vM 14 1, vO 15 (.bin .eql (.t 14) (.c (.str [])))])
 (.cond (.t 15)
 (.seq (vR [vM 16 0, vM 17 3, vO 18 (.call F_st_explode [(.t 16), (.t 17)]), vM 8 18])
 (.ret))
 (.skip)))
 (.seq (.seq (vR [vM 19 3, vO 20 (.bin .lss (.t 19) (vI 0))])
 (.cond (.t 20)
 (vR [vM 21 0, vM 22 1, vO 23 (.call F_st_Count [(.t 21), (.t 22)]), vO 24 (.bin .add (.t 23) (vI 1)), vM 3 24])
 (.skip)))
 (.seq (vR [vM 25 3, vM 26 0, vO 27 (.lenS (.t 26)), vO 28 (.bin .add (.t 27) (vI 1)), vO 29 (.mm false (.t 25) (.t 28)), vM 3 29])
 (.seq (vR [vM 30 3, vO 31 (.mkR 1 16 [.str []] (.t 30) (.t 30)), vM 9 31])
 (.seq (vR [vM 32 3, vO 33 (.bin .sub (.t 32) (vI 1)), vM 3 33])
 (.seq (vR [vO 10 (.mov (vI 0))])
 (.seq (.block 0 (.loop A_st_genSplitL0))
 (.seq (vR [vM 58 9, vM 59 10, vM 60 0, vO 61 (.idxA 1 (.t 58) (.t 59)), ⟨none, .st 1 (.t 61) (.t 60), none⟩])
 (.seq (vR [vM 62 9, vM 63 10, vO 64 (.bin .add (.t 63) (vI 1)), vO 65 (.sls 1 (.t 62) none (some (.t 64)) none), vM 8 65])
 (.ret))))))))))),
  [.tmp 8]⟩
section
variable {X : Cx} (hX : X.P = Go.Proofs.Tryz.prog)
include hX
theorem A_ra_Like_ok : compileFun X.P F_ra_Like vH = some A_ra_Like := by rw [hX]; kernel_rfl
theorem A_fo_drawn_ok : compileFun X.P F_fo_drawn vH = some A_fo_drawn := by rw [hX]; kernel_rfl
theorem A_fo_Table_1_ok : compileFun X.P F_fo_Table_1 vH = some A_fo_Table_1 := by rw [hX]; kernel_rfl
theorem A_fo_Table_2_ok : compileFun X.P F_fo_Table_2 vH = some A_fo_Table_2 := by rw [hX]; kernel_rfl
theorem A_fo_Table_3_ok : compileFun X.P F_fo_Table_3 vH = some A_fo_Table_3 := by rw [hX]; kernel_rfl
theorem A_fo_Table_4_ok : compileFun X.P F_fo_Table_4 vH = some A_fo_Table_4 := by rw [hX]; kernel_rfl
theorem A_fo_cell_ok : compileFun X.P F_fo_cell vH = some A_fo_cell := by rw [hX]; kernel_rfl
theorem A_fo_numbers_ok : compileFun X.P F_fo_numbers vH = some A_fo_numbers := by rw [hX]; kernel_rfl
theorem A_fo_pieces_ok : compileFun X.P F_fo_pieces vH = some A_fo_pieces := by rw [hX]; kernel_rfl
theorem A_fo_piece_ok : compileFun X.P F_fo_piece vH = some A_fo_piece := by rw [hX]; kernel_rfl
theorem A_fo_Parse_1_ok : compileFun X.P F_fo_Parse_1 vH = some A_fo_Parse_1 := by rw [hX]; kernel_rfl
theorem A_fo_begun_ok : compileFun X.P F_fo_begun vH = some A_fo_begun := by rw [hX]; kernel_rfl
theorem A_fo_cells_ok : compileFun X.P F_fo_cells vH = some A_fo_cells := by rw [hX]; kernel_rfl
theorem A_sh_Cells_ok : compileFun X.P F_sh_Cells vH = some A_sh_Cells := by rw [hX]; kernel_rfl
theorem A_sx_ContainsFunc_int64_int64_ok : compileFun X.P F_sx_ContainsFunc_int64_int64 vH = some A_sx_ContainsFunc_int64_int64 := by rw [hX]; kernel_rfl
theorem A_ar_Check_1_ok : compileFun X.P F_ar_Check_1 vH = some A_ar_Check_1 := by rw [hX]; kernel_rfl
theorem A_ar_right_ok : compileFun X.P F_ar_right vH = some A_ar_right := by rw [hX]; kernel_rfl
theorem A_fo_left_ok : compileFun X.P F_fo_left vH = some A_fo_left := by rw [hX]; kernel_rfl
theorem A_fo_right_ok : compileFun X.P F_fo_right vH = some A_fo_right := by rw [hX]; kernel_rfl
theorem A_st_HasSuffix_ok : compileFun X.P F_st_HasSuffix vH = some A_st_HasSuffix := by rw [hX]; kernel_rfl
theorem A_st_Split_ok : compileFun X.P F_st_Split vH = some A_st_Split := by rw [hX]; kernel_rfl
theorem A_wo_Int_ok : compileFun X.P F_wo_Int vH = some A_wo_Int := by rw [hX]; kernel_rfl
theorem A_tb_Check_ok : compileFun X.P F_tb_Check vH = some A_tb_Check := by rw [hX]; kernel_rfl
theorem A_st_HasPrefix_ok : compileFun X.P F_st_HasPrefix vH = some A_st_HasPrefix := by rw [hX]; kernel_rfl
theorem A_ru_is_ok : compileFun X.P F_ru_is vH = some A_ru_is := by rw [hX]; kernel_rfl
theorem A_u_RuneLen_ok : compileFun X.P F_u_RuneLen vH = some A_u_RuneLen := by rw [hX]; kernel_rfl
theorem A_sc_FormatInt_ok : compileFun X.P F_sc_FormatInt vH = some A_sc_FormatInt := by rw [hX]; kernel_rfl
theorem A_sx_Chunk_int64_int64_ok : compileFun X.P F_sx_Chunk_int64_int64 vH = some A_sx_Chunk_int64_int64 := by rw [hX]; kernel_rfl
theorem A_ru_Bytes_ok : compileFun X.P F_ru_Bytes vH = some A_ru_Bytes := by rw [hX]; kernel_rfl
theorem A_lx_Quote_ok : compileFun X.P F_lx_Quote vH = some A_lx_Quote := by rw [hX]; kernel_rfl
theorem A_fo_whole_ok : compileFun X.P F_fo_whole vH = some A_fo_whole := by rw [hX]; kernel_rfl
theorem A_lx_Line_ok : compileFun X.P F_lx_Line vH = some A_lx_Line := by rw [hX]; kernel_rfl
theorem A_ru_Runes_ok : compileFun X.P F_ru_Runes vH = some A_ru_Runes := by rw [hX]; kernel_rfl
theorem A_sh_Check_ok : compileFun X.P F_sh_Check vH = some A_sh_Check := by rw [hX]; kernel_rfl
theorem A_sh_product_ok : compileFun X.P F_sh_product vH = some A_sh_product := by rw [hX]; kernel_rfl
theorem A_sx_IndexFunc_int64_int64_ok : compileFun X.P F_sx_IndexFunc_int64_int64 vH = some A_sx_IndexFunc_int64_int64 := by rw [hX]; kernel_rfl
theorem A_u_ValidRune_ok : compileFun X.P F_u_ValidRune vH = some A_u_ValidRune := by rw [hX]; kernel_rfl
theorem A_fo_blanks_ok : compileFun X.P F_fo_blanks vH = some A_fo_blanks := by rw [hX]; kernel_rfl
theorem A_sl_HasSuffix_ok : compileFun X.P F_sl_HasSuffix vH = some A_sl_HasSuffix := by rw [hX]; kernel_rfl
theorem A_st_genSplit_ok : compileFun X.P F_st_genSplit vH = some A_st_genSplit := by rw [hX]; kernel_rfl
end
end Go.Avm
