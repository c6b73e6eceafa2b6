/- The functions as they have been read. -/
import Derived.Test.YtcldomkahgaplaaGreatDoorAG1
import Derived.Test.YtcldomkahgaplaaGreatDoorProg
set_option linter.unusedSectionVars false
set_option linter.unusedSimpArgs false
set_option linter.unusedVariables false

/- The functions as they have been read. -/
namespace Go.Avm
open Go
/- ref06_Like -/
def A_ref06_Like : AFun := ⟨24,
  .seq (.region false [⟨(some 2), .box (.t 0), none⟩,
    ⟨(some 3), .box (.t 1), none⟩,
    ⟨(some 4), .mov (.c (.bool false)), none⟩])
  (.seq (.region false [⟨(some 5), .fldA 0 (.t 2), none⟩,
    ⟨(some 6), .ld none (.t 5), none⟩,
    ⟨(some 7), .fldA 0 (.t 3), none⟩,
    ⟨(some 8), .ld none (.t 7), none⟩,
    ⟨(some 9), .bin .eql (.t 6) (.t 8), none⟩,
    ⟨(some 10), .mov (.t 9), none⟩,
    ⟨(some 11), .fldA 1 (.t 2), some (10, true)⟩,
    ⟨(some 12), .ld none (.t 11), some (10, true)⟩,
    ⟨(some 13), .fldA 1 (.t 3), some (10, true)⟩,
    ⟨(some 14), .ld none (.t 13), some (10, true)⟩,
    ⟨(some 15), .bin .eql (.t 12) (.t 14), some (10, true)⟩,
    ⟨(some 16), .pick (.t 10) (.t 15) (.c (.bool false)), none⟩,
    ⟨(some 17), .mov (.t 16), none⟩,
    ⟨(some 18), .fldA 2 (.t 2), some (17, true)⟩,
    ⟨(some 19), .ld (some 2) (.t 18), some (17, true)⟩,
    ⟨(some 20), .fldA 2 (.t 3), some (17, true)⟩,
    ⟨(some 21), .ld (some 2) (.t 20), some (17, true)⟩,
    ⟨(some 22), .aeq false [0, 0] (.t 19) (.t 21), some (17, true)⟩,
    ⟨(some 23), .pick (.t 17) (.t 22) (.c (.bool false)), none⟩,
    ⟨(some 4), .mov (.t 23), none⟩])
  (.ret)),
  [.tmp 4]⟩

/- format_drawn -/
def A_format_drawnL0 : ACode :=
  .seq (.region false [⟨(some 21), .bin .lss (.t 20) (.t 19), none⟩])
  (.seq (.cond (.t 21)
   (.skip)
   (.exit 0))
  (.seq (.block 1 (.seq (.region false [⟨(some 22), .mov (.t 20), none⟩,
    ⟨(some 23), .idxA 5 (.t 18) (.t 20), none⟩,
    ⟨(some 24), .ld (some 5) (.t 23), none⟩,
    ⟨(some 8), .alloc [.int .i64 0, .int .i64 0, .int .i64 0, .int .i64 0, .sl .ex []], none⟩,
    ⟨(some 7), .mov (.t 22), none⟩,
    ⟨none, .st 5 (.t 8) (.t 24), none⟩])
  (.region true [⟨(some 25), .mov (.t 6), none⟩,
    ⟨(some 26), .fldA 0 (.t 8), none⟩,
    ⟨(some 27), .ld none (.t 26), none⟩,
    ⟨(some 28), .fldA 4 (.t 8), none⟩,
    ⟨(some 29), .ld none (.t 28), none⟩,
    ⟨(some 30), .fldA 0 (.t 1), none⟩,
    ⟨(some 31), .ld none (.t 30), none⟩,
    ⟨(some 32), .mov (.t 7), none⟩,
    ⟨(some 33), .idxA 1 (.t 31) (.t 32), none⟩,
    ⟨(some 34), .ld none (.t 33), none⟩,
    ⟨(some 35), .lenS (.t 34), none⟩,
    ⟨(some 36), .call F_format_stacked [(.t 27), (.t 29), (.t 35)], none⟩,
    ⟨(some 37), .bsl 3 (.agg [.sl .ex [], .int .i64 0, .nilF]) 1 [(0, (.t 36))], none⟩,
    ⟨(some 38), .app 3 40 (.t 25) (.t 37), none⟩,
    ⟨(some 6), .mov (.t 38), none⟩])))
  (.region false [⟨(some 39), .bin .add (.t 20) (.c (.int .i64 1)), none⟩,
    ⟨(some 20), .mov (.t 39), none⟩])))
def A_format_drawn : AFun := ⟨41,
  .seq (.region false [⟨(some 1), .box (.t 0), none⟩,
    ⟨(some 2), .mov (.c (.sl .ex [])), none⟩,
    ⟨(some 3), .mov (.c (.int .i64 0)), none⟩])
  (.seq (.seq (.region false [⟨(some 10), .ld (some 2) (.t 1), none⟩,
    ⟨(some 11), .call F_tables_Check [(.t 10)], none⟩,
    ⟨(some 9), .mov (.t 11), none⟩,
    ⟨(some 12), .extr (.t 9) 0, none⟩,
    ⟨(some 13), .extr (.t 9) 1, none⟩,
    ⟨(some 4), .mov (.t 12), none⟩,
    ⟨(some 5), .mov (.t 13), none⟩])
  (.seq (.region false [⟨(some 14), .mov (.t 5), none⟩,
    ⟨(some 15), .bin .neq (.t 14) (.c (.int .i64 0)), none⟩])
  (.cond (.t 15)
   (.seq (.region false [⟨(some 16), .mov (.t 5), none⟩,
     ⟨(some 2), .mov (.c (.sl .ex [])), none⟩,
     ⟨(some 3), .mov (.t 16), none⟩])
   (.ret))
   (.skip))))
  (.seq (.region false [⟨(some 6), .mov (.c (.sl .ex [])), none⟩])
  (.seq (.seq (.region false [⟨(some 17), .fldA 1 (.t 1), none⟩,
    ⟨(some 18), .ld none (.t 17), none⟩,
    ⟨(some 19), .len (.t 18), none⟩,
    ⟨(some 20), .mov (.c (.int .i64 0)), none⟩])
  (.block 0 (.loop A_format_drawnL0)))
  (.seq (.region false [⟨(some 40), .mov (.t 6), none⟩,
    ⟨(some 2), .mov (.t 40), none⟩,
    ⟨(some 3), .mov (.c (.int .i64 0)), none⟩])
  (.ret))))),
  [.tmp 2, .tmp 3]⟩

/- format_Table_1 -/
def A_format_Table_1L0 : ACode :=
  .seq (.region false [⟨(some 10), .bin .lss (.t 9) (.t 8), none⟩])
  (.seq (.cond (.t 10)
   (.skip)
   (.exit 0))
  (.seq (.block 1 (.seq (.region false [⟨(some 11), .mov (.t 9), none⟩,
    ⟨(some 12), .idxA 3 (.t 7) (.t 9), none⟩,
    ⟨(some 13), .ld (some 3) (.t 12), none⟩,
    ⟨(some 6), .alloc [.sl .ex [], .int .i64 0, .nilF], none⟩,
    ⟨(some 5), .mov (.t 11), none⟩,
    ⟨none, .st 3 (.t 6) (.t 13), none⟩])
  (.region false [⟨(some 14), .mov (.t 4), none⟩,
    ⟨(some 15), .mov (.t 0), none⟩,
    ⟨(some 16), .mov (.t 5), none⟩,
    ⟨(some 17), .ld (some 3) (.t 6), none⟩,
    ⟨(some 18), .callv (.t 15) [(.t 16), (.t 17)], none⟩,
    ⟨(some 19), .bsl 1 (.str []) 1 [(0, (.t 18))], none⟩,
    ⟨(some 20), .app 1 16 (.t 14) (.t 19), none⟩,
    ⟨(some 4), .mov (.t 20), none⟩])))
  (.region false [⟨(some 21), .bin .add (.t 9) (.c (.int .i64 1)), none⟩,
    ⟨(some 9), .mov (.t 21), none⟩])))
def A_format_Table_1 : AFun := ⟨26,
  .seq (.region false [⟨(some 4), .mov (.c (.sl .ex [])), none⟩])
  (.seq (.seq (.region false [⟨(some 7), .ld none (.t 1), none⟩,
    ⟨(some 8), .len (.t 7), none⟩,
    ⟨(some 9), .mov (.c (.int .i64 0)), none⟩])
  (.block 0 (.loop A_format_Table_1L0)))
  (.region false [⟨(some 22), .mov (.t 4), none⟩,
    ⟨(some 23), .call F_strings_Join [(.t 22), (.c (.str [32, 32]))], none⟩,
    ⟨(some 24), .bin .add (.t 23) (.c (.str [10])), none⟩,
    ⟨(some 25), .call F_strings_Builder_WriteString [(.t 2), (.t 24)], none⟩])),
  []⟩

/- format_Table_2 -/
def A_format_Table_2 : AFun := ⟨16,
  .seq (.region false [⟨(some 4), .box (.t 1), none⟩,
    ⟨(some 5), .mov (.c (.str [])), none⟩])
  (.seq (.region true [⟨(some 6), .fldA 2 (.t 4), none⟩,
    ⟨(some 7), .ld none (.t 6), none⟩,
    ⟨(some 8), .fldA 0 (.t 2), none⟩,
    ⟨(some 9), .ld none (.t 8), none⟩,
    ⟨(some 10), .mov (.t 0), none⟩,
    ⟨(some 11), .idxA 1 (.t 9) (.t 10), none⟩,
    ⟨(some 12), .ld none (.t 11), none⟩,
    ⟨(some 13), .fldA 1 (.t 4), none⟩,
    ⟨(some 14), .ld none (.t 13), none⟩,
    ⟨(some 15), .callv (.t 7) [(.t 12), (.t 14)], none⟩,
    ⟨(some 5), .mov (.t 15), none⟩])
  (.ret)),
  [.tmp 5]⟩

/- format_Table_3 -/
def A_format_Table_3 : AFun := ⟨8,
  .seq (.region false [⟨(some 3), .box (.t 1), none⟩,
    ⟨(some 4), .mov (.c (.str [])), none⟩])
  (.seq (.region false [⟨(some 5), .fldA 1 (.t 3), none⟩,
    ⟨(some 6), .ld none (.t 5), none⟩,
    ⟨(some 7), .call F_strings_Repeat [(.c (.str [45])), (.t 6)], none⟩,
    ⟨(some 4), .mov (.t 7), none⟩])
  (.ret)),
  [.tmp 4]⟩

/- format_Table_4 -/
def A_format_Table_4 : AFun := ⟨16,
  .seq (.region false [⟨(some 4), .box (.t 1), none⟩,
    ⟨(some 5), .mov (.c (.str [])), none⟩])
  (.seq (.region true [⟨(some 6), .fldA 2 (.t 4), none⟩,
    ⟨(some 7), .ld none (.t 6), none⟩,
    ⟨(some 8), .fldA 0 (.t 4), none⟩,
    ⟨(some 9), .ld none (.t 8), none⟩,
    ⟨(some 10), .ld none (.t 2), none⟩,
    ⟨(some 11), .idxA 1 (.t 9) (.t 10), none⟩,
    ⟨(some 12), .ld none (.t 11), none⟩,
    ⟨(some 13), .fldA 1 (.t 4), none⟩,
    ⟨(some 14), .ld none (.t 13), none⟩,
    ⟨(some 15), .callv (.t 7) [(.t 12), (.t 14)], none⟩,
    ⟨(some 5), .mov (.t 15), none⟩])
  (.ret)),
  [.tmp 5]⟩

/- ref06_Check -/
/- ref33_cell -/
/- ref33_blanks -/
/- ref33_widest -/
/- runes_Encode -/
/- format_cell -/
def A_format_cell : AFun := ⟨20,
  .seq (.region false [⟨(some 4), .mov (.c (.str [])), none⟩])
  (.seq (.block 0 (.seq (.region false [⟨(some 6), .mov (.t 0), none⟩,
    ⟨(some 7), .bin .eql (.t 6) (.c (.int .i64 1)), none⟩,
    ⟨(some 5), .mov (.t 7), none⟩])
  (.cond (.t 5)
   (.seq (.region false [⟨(some 8), .mov (.t 1), none⟩,
     ⟨(some 9), .call F_strconv_FormatInt [(.t 8), (.c (.int .i64 10))], none⟩,
     ⟨(some 4), .mov (.t 9), none⟩])
   (.ret))
   (.seq (.region false [⟨(some 11), .mov (.t 1), none⟩,
     ⟨(some 12), .bin .geq (.t 11) (.c (.int .i64 32)), none⟩,
     ⟨(some 13), .mov (.t 12), none⟩,
     ⟨(some 14), .mov (.t 1), some (13, true)⟩,
     ⟨(some 15), .bin .leq (.t 14) (.c (.int .i64 126)), some (13, true)⟩,
     ⟨(some 16), .pick (.t 13) (.t 15) (.c (.bool false)), none⟩,
     ⟨(some 10), .mov (.t 16), none⟩])
   (.cond (.t 10)
    (.seq (.region false [⟨(some 17), .mov (.t 1), none⟩,
      ⟨(some 18), .conv .i32 (.t 17), none⟩,
      ⟨(some 19), .r2s (.t 18), none⟩,
      ⟨(some 4), .mov (.t 19), none⟩])
    (.ret))
    (.skip))))))
  (.seq (.region false [⟨(some 4), .mov (.c (.str [46])), none⟩])
  (.ret))),
  [.tmp 4]⟩

/- ref02_Is -/
/- format_numbers -/
def A_format_numbersL0 : ACode :=
  .seq (.region false [⟨(some 9), .bin .lss (.t 8) (.t 7), none⟩])
  (.seq (.cond (.t 9)
   (.skip)
   (.exit 0))
  (.seq (.block 1 (.seq (.region false [⟨(some 10), .idxA 1 (.t 6) (.t 8), none⟩,
    ⟨(some 11), .ld none (.t 10), none⟩,
    ⟨(some 5), .mov (.t 11), none⟩])
  (.region false [⟨(some 12), .mov (.t 3), none⟩,
    ⟨(some 13), .mov (.t 5), none⟩,
    ⟨(some 14), .call F_strconv_FormatInt [(.t 13), (.c (.int .i64 10))], none⟩,
    ⟨(some 15), .bsl 1 (.str []) 1 [(0, (.t 14))], none⟩,
    ⟨(some 16), .app 1 16 (.t 12) (.t 15), none⟩,
    ⟨(some 3), .mov (.t 16), none⟩])))
  (.region false [⟨(some 17), .bin .add (.t 8) (.c (.int .i64 1)), none⟩,
    ⟨(some 8), .mov (.t 17), none⟩])))
def A_format_numbers : AFun := ⟨20,
  .seq (.region false [⟨(some 2), .mov (.c (.str [])), none⟩])
  (.seq (.region false [⟨(some 3), .mov (.c (.sl .ex [])), none⟩])
  (.seq (.seq (.region false [⟨(some 6), .mov (.t 0), none⟩,
    ⟨(some 7), .len (.t 6), none⟩,
    ⟨(some 8), .mov (.c (.int .i64 0)), none⟩])
  (.block 0 (.loop A_format_numbersL0)))
  (.seq (.region false [⟨(some 18), .mov (.t 3), none⟩,
    ⟨(some 19), .call F_strings_Join [(.t 18), (.c (.str [32]))], none⟩,
    ⟨(some 2), .mov (.t 19), none⟩])
  (.ret)))),
  [.tmp 2]⟩

/- format_pieces -/
def A_format_pieces : AFun := ⟨5,
  .seq (.region false [⟨(some 2), .mov (.c (.nilF)), none⟩])
  (.seq (.region false [⟨(some 3), .mov (.t 0), none⟩,
    ⟨(some 4), .call F_slices_Chunk_int64_int64 [(.t 3), (.c (.int .i64 20))], none⟩,
    ⟨(some 2), .mov (.t 4), none⟩])
  (.ret)),
  [.tmp 2]⟩

/- format_piece -/
def A_format_piece : AFun := ⟨27,
  .seq (.region false [⟨(some 4), .mov (.c (.str [])), none⟩])
  (.seq (.seq (.region false [⟨(some 10), .mov (.t 0), none⟩,
    ⟨(some 11), .bin .eql (.t 10) (.c (.int .i64 1)), none⟩])
  (.cond (.t 11)
   (.seq (.region false [⟨(some 12), .mov (.t 1), none⟩,
     ⟨(some 13), .call F_format_numbers [(.t 12)], none⟩,
     ⟨(some 4), .mov (.t 13), none⟩])
   (.ret))
   (.skip)))
  (.seq (.region false [⟨(some 15), .mov (.t 1), none⟩,
    ⟨(some 16), .call F_runes_Bytes [(.t 15)], none⟩,
    ⟨(some 14), .mov (.t 16), none⟩,
    ⟨(some 17), .extr (.t 14) 0, none⟩,
    ⟨(some 18), .extr (.t 14) 1, none⟩,
    ⟨(some 19), .extr (.t 14) 2, none⟩,
    ⟨(some 5), .mov (.t 17), none⟩,
    ⟨(some 6), .mov (.t 18), none⟩,
    ⟨(some 7), .mov (.t 19), none⟩])
  (.seq (.region false [⟨(some 21), .mov (.t 5), none⟩,
    ⟨(some 22), .b2s (.t 21), none⟩,
    ⟨(some 23), .call F_lexer_Quote [(.t 22)], none⟩,
    ⟨(some 20), .mov (.t 23), none⟩,
    ⟨(some 24), .extr (.t 20) 0, none⟩,
    ⟨(some 25), .extr (.t 20) 1, none⟩,
    ⟨(some 8), .mov (.t 24), none⟩,
    ⟨(some 9), .mov (.t 25), none⟩])
  (.seq (.region false [⟨(some 26), .mov (.t 8), none⟩,
    ⟨(some 4), .mov (.t 26), none⟩])
  (.ret))))),
  [.tmp 4]⟩

/- ref33_head -/
/- ref33_piece -/
/- format_Parse_1 -/
def A_format_Parse_1 : AFun := ⟨7,
  .seq (.region false [⟨(some 2), .alloc [.int .i64 0, .int .i64 0, .int .i64 0, .int .i64 0, .sl .ex []], none⟩,
    ⟨(some 3), .mov (.c (.int .i64 0)), none⟩,
    ⟨(some 4), .mov (.c (.int .i64 0)), none⟩])
  (.seq (.region false [⟨(some 5), .build [.int .i64 0, .int .i64 0, .int .i64 0, .int .i64 0, .sl .ex []] [], none⟩,
    ⟨(some 6), .mov (.t 0), none⟩,
    ⟨none, .st 5 (.t 2) (.t 5), none⟩,
    ⟨(some 3), .mov (.t 6), none⟩,
    ⟨(some 4), .mov (.c (.int .i64 6)), none⟩])
  (.ret)),
  [.cell (some 5) 2, .tmp 3, .tmp 4]⟩

/- format_begun -/
def A_format_begunL0 : ACode :=
  .seq (.region false [⟨(some 58), .bin .lss (.t 57) (.t 56), none⟩])
  (.seq (.cond (.t 58)
   (.skip)
   (.exit 1))
  (.seq (.block 2 (.seq (.region false [⟨(some 59), .mov (.t 57), none⟩,
    ⟨(some 60), .idxA 1 (.t 55) (.t 57), none⟩,
    ⟨(some 61), .ld none (.t 60), none⟩,
    ⟨(some 7), .mov (.t 59), none⟩,
    ⟨(some 8), .mov (.t 61), none⟩])
  (.seq (.region false [⟨(some 62), .mov (.t 7), none⟩,
    ⟨(some 63), .mov (.t 8), none⟩,
    ⟨(some 64), .fldA 2 (.t 2), none⟩,
    ⟨(some 65), .idxP 2 1 (.t 64) (.t 62), none⟩,
    ⟨none, .st 1 (.t 65) (.t 63), none⟩])
  (.region false [⟨(some 66), .mov (.t 3), none⟩,
    ⟨(some 67), .mov (.t 8), none⟩,
    ⟨(some 68), .bin .mul (.t 66) (.t 67), none⟩,
    ⟨(some 3), .mov (.t 68), none⟩]))))
  (.region false [⟨(some 69), .bin .add (.t 57) (.c (.int .i64 1)), none⟩,
    ⟨(some 57), .mov (.t 69), none⟩])))
def A_format_begun : AFun := ⟨72,
  .seq (.region false [⟨(some 2), .alloc [.int .i64 0, .int .i64 0, .int .i64 0, .int .i64 0, .sl .ex []], none⟩,
    ⟨(some 3), .mov (.c (.int .i64 0)), none⟩,
    ⟨(some 4), .mov (.c (.bool false)), none⟩])
  (.seq (.region false [⟨(some 9), .mov (.t 0), none⟩,
    ⟨(some 10), .call F_strings_Split [(.t 9), (.c (.str [32]))], none⟩,
    ⟨(some 5), .mov (.t 10), none⟩])
  (.seq (.seq (.region false [⟨(some 11), .mov (.t 5), none⟩,
    ⟨(some 12), .idxA 1 (.t 11) (.c (.int .i64 0)), none⟩,
    ⟨(some 13), .ld none (.t 12), none⟩])
  (.block 0 (.seq (.region false [⟨(some 16), .bin .eql (.t 13) (.c (.str [105, 110, 116])), none⟩,
    ⟨(some 15), .mov (.t 16), none⟩])
  (.cond (.t 15)
   (.region false [⟨(some 17), .fldA 0 (.t 2), none⟩,
     ⟨none, .st 1 (.t 17) (.c (.int .i64 1)), none⟩])
   (.seq (.region false [⟨(some 19), .bin .eql (.t 13) (.c (.str [99, 104, 97, 114])), none⟩,
     ⟨(some 18), .mov (.t 19), none⟩])
   (.cond (.t 18)
    (.region false [⟨(some 20), .fldA 0 (.t 2), none⟩,
      ⟨none, .st 1 (.t 20) (.c (.int .i64 2)), none⟩])
    (.seq (.region false [⟨(some 14), .build [.int .i64 0, .int .i64 0, .int .i64 0, .int .i64 0, .sl .ex []] [], none⟩,
      ⟨none, .st 5 (.t 2) (.t 14), none⟩,
      ⟨(some 3), .mov (.c (.int .i64 0)), none⟩,
      ⟨(some 4), .mov (.c (.bool false)), none⟩])
    (.ret))))))))
  (.seq (.region false [⟨(some 22), .mov (.t 5), none⟩,
    ⟨(some 23), .sls 1 (.t 22) (some (.c (.int .i64 1))) none none, none⟩,
    ⟨(some 24), .call F_format_whole [(.t 23), (.c (.int .i64 1000000000))], none⟩,
    ⟨(some 21), .mov (.t 24), none⟩,
    ⟨(some 25), .extr (.t 21) 0, none⟩,
    ⟨(some 26), .extr (.t 21) 1, none⟩,
    ⟨(some 6), .mov (.t 25), none⟩,
    ⟨(some 4), .mov (.t 26), none⟩])
  (.seq (.seq (.region false [⟨(some 27), .mov (.t 4), none⟩,
    ⟨(some 28), .not (.t 27), none⟩,
    ⟨(some 29), .mov (.t 28), none⟩,
    ⟨(some 30), .mov (.t 6), some (29, false)⟩,
    ⟨(some 31), .len (.t 30), some (29, false)⟩,
    ⟨(some 32), .bin .eql (.t 31) (.c (.int .i64 0)), some (29, false)⟩,
    ⟨(some 33), .pick (.t 29) (.c (.bool true)) (.t 32), none⟩,
    ⟨(some 34), .mov (.t 33), none⟩,
    ⟨(some 35), .mov (.t 6), some (34, false)⟩,
    ⟨(some 36), .idxA 1 (.t 35) (.c (.int .i64 0)), some (34, false)⟩,
    ⟨(some 37), .ld none (.t 36), some (34, false)⟩,
    ⟨(some 38), .bin .gtr (.t 37) (.c (.int .i64 2)), some (34, false)⟩,
    ⟨(some 39), .pick (.t 34) (.c (.bool true)) (.t 38), none⟩,
    ⟨(some 40), .mov (.t 39), none⟩,
    ⟨(some 41), .mov (.t 6), some (40, false)⟩,
    ⟨(some 42), .len (.t 41), some (40, false)⟩,
    ⟨(some 43), .mov (.t 6), some (40, false)⟩,
    ⟨(some 44), .idxA 1 (.t 43) (.c (.int .i64 0)), some (40, false)⟩,
    ⟨(some 45), .ld none (.t 44), some (40, false)⟩,
    ⟨(some 46), .bin .add (.t 45) (.c (.int .i64 1)), some (40, false)⟩,
    ⟨(some 47), .bin .neq (.t 42) (.t 46), some (40, false)⟩,
    ⟨(some 48), .pick (.t 40) (.c (.bool true)) (.t 47), none⟩])
  (.cond (.t 48)
   (.seq (.region false [⟨(some 49), .build [.int .i64 0, .int .i64 0, .int .i64 0, .int .i64 0, .sl .ex []] [], none⟩,
     ⟨none, .st 5 (.t 2) (.t 49), none⟩,
     ⟨(some 3), .mov (.c (.int .i64 0)), none⟩,
     ⟨(some 4), .mov (.c (.bool false)), none⟩])
   (.ret))
   (.skip)))
  (.seq (.region false [⟨(some 50), .mov (.t 6), none⟩,
    ⟨(some 51), .idxA 1 (.t 50) (.c (.int .i64 0)), none⟩,
    ⟨(some 52), .ld none (.t 51), none⟩,
    ⟨(some 53), .fldA 1 (.t 2), none⟩,
    ⟨none, .st 1 (.t 53) (.t 52), none⟩])
  (.seq (.region false [⟨(some 3), .mov (.c (.int .i64 1)), none⟩])
  (.seq (.seq (.region false [⟨(some 54), .mov (.t 6), none⟩,
    ⟨(some 55), .sls 1 (.t 54) (some (.c (.int .i64 1))) none none, none⟩,
    ⟨(some 56), .len (.t 55), none⟩,
    ⟨(some 57), .mov (.c (.int .i64 0)), none⟩])
  (.block 1 (.loop A_format_begunL0)))
  (.seq (.region false [⟨(some 70), .ld (some 5) (.t 2), none⟩,
    ⟨(some 71), .mov (.t 3), none⟩,
    ⟨none, .st 5 (.t 2) (.t 70), none⟩,
    ⟨(some 3), .mov (.t 71), none⟩,
    ⟨(some 4), .mov (.c (.bool true)), none⟩])
  (.ret))))))))),
  [.cell (some 5) 2, .tmp 3, .tmp 4]⟩

/- format_cells -/
def A_format_cells : AFun := ⟨54,
  .seq (.region false [⟨(some 6), .mov (.c (.sl .ex [])), none⟩,
    ⟨(some 7), .mov (.c (.bool false)), none⟩])
  (.seq (.region false [⟨(some 8), .mov (.c (.sl .ex [])), none⟩])
  (.seq (.seq (.region false [⟨(some 12), .mov (.t 0), none⟩,
    ⟨(some 13), .bin .eql (.t 12) (.c (.int .i64 1)), none⟩])
  (.cond (.t 13)
   (.region false [⟨(some 15), .mov (.t 1), none⟩,
     ⟨(some 16), .call F_strings_Split [(.t 15), (.c (.str [32]))], none⟩,
     ⟨(some 17), .call F_format_whole [(.t 16), (.c (.int .i64 9223372036854775807))], none⟩,
     ⟨(some 14), .mov (.t 17), none⟩,
     ⟨(some 18), .extr (.t 14) 0, none⟩,
     ⟨(some 19), .extr (.t 14) 1, none⟩,
     ⟨(some 8), .mov (.t 18), none⟩])
   (.seq (.region false [⟨(some 21), .mov (.t 1), none⟩,
     ⟨(some 22), .call F_lexer_Line [(.t 21)], none⟩,
     ⟨(some 20), .mov (.t 22), none⟩,
     ⟨(some 23), .extr (.t 20) 0, none⟩,
     ⟨(some 24), .extr (.t 20) 1, none⟩,
     ⟨(some 25), .extr (.t 20) 2, none⟩,
     ⟨(some 9), .mov (.t 23), none⟩,
     ⟨(some 10), .mov (.t 24), none⟩,
     ⟨(some 11), .mov (.t 25), none⟩])
   (.seq (.region false [⟨(some 26), .mov (.t 11), none⟩,
     ⟨(some 27), .bin .eql (.t 26) (.c (.int .i64 0)), none⟩,
     ⟨(some 28), .mov (.t 27), none⟩,
     ⟨(some 29), .mov (.t 9), some (28, true)⟩,
     ⟨(some 30), .len (.t 29), some (28, true)⟩,
     ⟨(some 31), .bin .eql (.t 30) (.c (.int .i64 1)), some (28, true)⟩,
     ⟨(some 32), .pick (.t 28) (.t 31) (.c (.bool false)), none⟩])
   (.cond (.t 32)
    (.region false [⟨(some 34), .mov (.t 9), none⟩,
      ⟨(some 35), .idxA 5 (.t 34) (.c (.int .i64 0)), none⟩,
      ⟨(some 36), .fldA 4 (.t 35), none⟩,
      ⟨(some 37), .ld none (.t 36), none⟩,
      ⟨(some 38), .s2b false (.t 37), none⟩,
      ⟨(some 39), .call F_runes_Runes [(.t 38)], none⟩,
      ⟨(some 33), .mov (.t 39), none⟩,
      ⟨(some 40), .extr (.t 33) 0, none⟩,
      ⟨(some 41), .extr (.t 33) 1, none⟩,
      ⟨(some 8), .mov (.t 40), none⟩])
    (.skip))))))
  (.seq (.region false [⟨(some 42), .mov (.t 8), none⟩,
    ⟨(some 43), .mov (.t 8), none⟩,
    ⟨(some 44), .len (.t 43), none⟩,
    ⟨(some 45), .mov (.t 2), none⟩,
    ⟨(some 46), .bin .eql (.t 44) (.t 45), none⟩,
    ⟨(some 47), .mov (.t 46), none⟩,
    ⟨(some 48), .mov (.t 0), some (47, true)⟩,
    ⟨(some 49), .mov (.t 8), some (47, true)⟩,
    ⟨(some 50), .call F_format_piece [(.t 48), (.t 49)], some (47, true)⟩,
    ⟨(some 51), .mov (.t 1), some (47, true)⟩,
    ⟨(some 52), .bin .eql (.t 50) (.t 51), some (47, true)⟩,
    ⟨(some 53), .pick (.t 47) (.t 52) (.c (.bool false)), none⟩,
    ⟨(some 6), .mov (.t 42), none⟩,
    ⟨(some 7), .mov (.t 53), none⟩])
  (.ret)))),
  [.tmp 6, .tmp 7]⟩

/- ref01_Lines -/
/- ref33_first -/
/- ref33_cells -/
/- ref33_row -/
/- ref33_aligned -/
/- ref33_joined -/
/- ref13_Check -/
/- shapes_Cells -/
def A_shapes_Cells : AFun := ⟨16,
  .seq (.region false [⟨(some 3), .box (.t 1), none⟩,
    ⟨(some 4), .mov (.c (.int .i64 0)), none⟩,
    ⟨(some 5), .mov (.c (.int .i64 0)), none⟩])
  (.seq (.seq (.region false [⟨(some 7), .mov (.t 0), none⟩,
    ⟨(some 8), .ld (some 2) (.t 3), none⟩,
    ⟨(some 9), .call F_shapes_Check [(.t 7), (.t 8)], none⟩,
    ⟨(some 6), .mov (.t 9), none⟩])
  (.seq (.region false [⟨(some 10), .mov (.t 6), none⟩,
    ⟨(some 11), .bin .neq (.t 10) (.c (.int .i64 0)), none⟩])
  (.cond (.t 11)
   (.seq (.region false [⟨(some 12), .mov (.t 6), none⟩,
     ⟨(some 4), .mov (.c (.int .i64 0)), none⟩,
     ⟨(some 5), .mov (.t 12), none⟩])
   (.ret))
   (.skip))))
  (.seq (.region false [⟨(some 13), .mov (.t 0), none⟩,
    ⟨(some 14), .ld (some 2) (.t 3), none⟩,
    ⟨(some 15), .call F_shapes_product [(.t 13), (.t 14)], none⟩,
    ⟨(some 4), .mov (.t 15), none⟩,
    ⟨(some 5), .mov (.c (.int .i64 0)), none⟩])
  (.ret))),
  [.tmp 4, .tmp 5]⟩

/- slices_ContainsFunc_int64_int64 -/
def A_slices_ContainsFunc_int64_int64 : AFun := ⟨9,
  .seq (.region false [⟨(some 4), .mov (.c (.bool false)), none⟩])
  (.seq (.region false [⟨(some 5), .mov (.t 0), none⟩,
    ⟨(some 6), .mov (.t 1), none⟩,
    ⟨(some 7), .call F_slices_IndexFunc_int64_int64 [(.t 5), (.t 6)], none⟩,
    ⟨(some 8), .bin .geq (.t 7) (.c (.int .i64 0)), none⟩,
    ⟨(some 4), .mov (.t 8), none⟩])
  (.ret)),
  [.tmp 4]⟩

/- arrays_Check_1 -/
def A_arrays_Check_1 : AFun := ⟨9,
  .seq (.region false [⟨(some 3), .mov (.c (.bool false)), none⟩])
  (.seq (.region false [⟨(some 4), .fldA 0 (.t 1), none⟩,
    ⟨(some 5), .ld none (.t 4), none⟩,
    ⟨(some 6), .mov (.t 0), none⟩,
    ⟨(some 7), .call F_arrays_right [(.t 5), (.t 6)], none⟩,
    ⟨(some 8), .not (.t 7), none⟩,
    ⟨(some 3), .mov (.t 8), none⟩])
  (.ret)),
  [.tmp 3]⟩

/- arrays_right -/
def A_arrays_right : AFun := ⟨20,
  .seq (.region false [⟨(some 4), .mov (.c (.bool false)), none⟩])
  (.seq (.region false [⟨(some 5), .mov (.t 0), none⟩,
    ⟨(some 6), .bin .eql (.t 5) (.c (.int .i64 1)), none⟩,
    ⟨(some 7), .mov (.t 6), none⟩,
    ⟨(some 8), .mov (.t 1), some (7, false)⟩,
    ⟨(some 9), .bin .geq (.t 8) (.c (.int .i64 0)), some (7, false)⟩,
    ⟨(some 10), .mov (.t 9), some (7, false)⟩,
    ⟨(some 11), .mov (.t 1), some (10, true)⟩,
    ⟨(some 12), .bin .leq (.t 11) (.c (.int .i64 1114111)), some (10, true)⟩,
    ⟨(some 13), .pick (.t 10) (.t 12) (.c (.bool false)), some (7, false)⟩,
    ⟨(some 14), .mov (.t 13), some (7, false)⟩,
    ⟨(some 15), .mov (.t 1), some (14, true)⟩,
    ⟨(some 16), .conv .i32 (.t 15), some (14, true)⟩,
    ⟨(some 17), .call F_utf8_ValidRune [(.t 16)], some (14, true)⟩,
    ⟨(some 18), .pick (.t 14) (.t 17) (.c (.bool false)), some (7, false)⟩,
    ⟨(some 19), .pick (.t 7) (.c (.bool true)) (.t 18), none⟩,
    ⟨(some 4), .mov (.t 19), none⟩])
  (.ret)),
  [.tmp 4]⟩

/- format_left -/
def A_format_left : AFun := ⟨10,
  .seq (.region false [⟨(some 4), .mov (.c (.str [])), none⟩])
  (.seq (.region false [⟨(some 5), .mov (.t 0), none⟩,
    ⟨(some 6), .mov (.t 0), none⟩,
    ⟨(some 7), .mov (.t 1), none⟩,
    ⟨(some 8), .call F_format_blanks [(.t 6), (.t 7)], none⟩,
    ⟨(some 9), .bin .add (.t 5) (.t 8), none⟩,
    ⟨(some 4), .mov (.t 9), none⟩])
  (.ret)),
  [.tmp 4]⟩

/- format_right -/
def A_format_right : AFun := ⟨10,
  .seq (.region false [⟨(some 4), .mov (.c (.str [])), none⟩])
  (.seq (.region false [⟨(some 5), .mov (.t 0), none⟩,
    ⟨(some 6), .mov (.t 1), none⟩,
    ⟨(some 7), .call F_format_blanks [(.t 5), (.t 6)], none⟩,
    ⟨(some 8), .mov (.t 0), none⟩,
    ⟨(some 9), .bin .add (.t 7) (.t 8), none⟩,
    ⟨(some 4), .mov (.t 9), none⟩])
  (.ret)),
  [.tmp 4]⟩

/- strings_HasSuffix -/
def A_strings_HasSuffix : AFun := ⟨8,
  .seq (.region false [⟨(some 4), .mov (.c (.bool false)), none⟩])
  (.seq (.region false [⟨(some 5), .mov (.t 0), none⟩,
    ⟨(some 6), .mov (.t 1), none⟩,
    ⟨(some 7), .call F_stringslite_HasSuffix [(.t 5), (.t 6)], none⟩,
    ⟨(some 4), .mov (.t 7), none⟩])
  (.ret)),
  [.tmp 4]⟩

/- strings_Split -/
def A_strings_Split : AFun := ⟨8,
  .seq (.region false [⟨(some 4), .mov (.c (.sl .ex [])), none⟩])
  (.seq (.region false [⟨(some 5), .mov (.t 0), none⟩,
    ⟨(some 6), .mov (.t 1), none⟩,
    ⟨(some 7), .call F_strings_genSplit [(.t 5), (.t 6), (.c (.int .i64 0)), (.c (.int .i64 (-1)))], none⟩,
    ⟨(some 4), .mov (.t 7), none⟩])
  (.ret)),
  [.tmp 4]⟩

/- format_row_1 -/
/- words_Int -/
def A_words_Int : AFun := ⟨31,
  .seq (.region false [⟨(some 6), .mov (.c (.int .i64 0)), none⟩,
    ⟨(some 7), .mov (.c (.int .i64 0)), none⟩])
  (.seq (.seq (.region false [⟨(some 10), .mov (.t 0), none⟩,
    ⟨(some 11), .call F_words_isDecimal [(.t 10)], none⟩,
    ⟨(some 12), .not (.t 11), none⟩])
  (.cond (.t 12)
   (.seq (.region false [⟨(some 6), .mov (.c (.int .i64 0)), none⟩,
     ⟨(some 7), .mov (.c (.int .i64 6)), none⟩])
   (.ret))
   (.skip)))
  (.seq (.region false [⟨(some 14), .mov (.t 0), none⟩,
    ⟨(some 15), .call F_strconv_ParseInt [(.t 14), (.c (.int .i64 10)), (.c (.int .i64 64))], none⟩,
    ⟨(some 13), .mov (.t 15), none⟩,
    ⟨(some 16), .extr (.t 13) 0, none⟩,
    ⟨(some 17), .extr (.t 13) 1, none⟩,
    ⟨(some 8), .mov (.t 16), none⟩,
    ⟨(some 9), .mov (.t 17), none⟩])
  (.seq (.seq (.region false [⟨(some 18), .mov (.t 9), none⟩,
    ⟨(some 19), .ifn true (.t 18), none⟩,
    ⟨(some 20), .mov (.t 19), none⟩,
    ⟨(some 21), .mov (.t 8), some (20, false)⟩,
    ⟨(some 22), .mov (.t 1), some (20, false)⟩,
    ⟨(some 23), .bin .lss (.t 21) (.t 22), some (20, false)⟩,
    ⟨(some 24), .pick (.t 20) (.c (.bool true)) (.t 23), none⟩,
    ⟨(some 25), .mov (.t 24), none⟩,
    ⟨(some 26), .mov (.t 8), some (25, false)⟩,
    ⟨(some 27), .mov (.t 2), some (25, false)⟩,
    ⟨(some 28), .bin .gtr (.t 26) (.t 27), some (25, false)⟩,
    ⟨(some 29), .pick (.t 25) (.c (.bool true)) (.t 28), none⟩])
  (.cond (.t 29)
   (.seq (.region false [⟨(some 6), .mov (.c (.int .i64 0)), none⟩,
     ⟨(some 7), .mov (.c (.int .i64 7)), none⟩])
   (.ret))
   (.skip)))
  (.seq (.region false [⟨(some 30), .mov (.t 8), none⟩,
    ⟨(some 6), .mov (.t 30), none⟩,
    ⟨(some 7), .mov (.c (.int .i64 0)), none⟩])
  (.ret))))),
  [.tmp 6, .tmp 7]⟩

/- tables_Check -/
def A_tables_CheckL0 : ACode :=
  .seq (.region false [⟨(some 27), .bin .lss (.t 26) (.t 25), none⟩])
  (.seq (.cond (.t 27)
   (.skip)
   (.exit 1))
  (.seq (.block 2 (.seq (.region false [⟨(some 28), .mov (.t 26), none⟩,
    ⟨(some 29), .idxA 1 (.t 24) (.t 26), none⟩,
    ⟨(some 30), .ld none (.t 29), none⟩,
    ⟨(some 5), .mov (.t 28), none⟩,
    ⟨(some 6), .mov (.t 30), none⟩])
  (.seq (.region false [⟨(some 31), .fldA 1 (.t 1), none⟩,
    ⟨(some 32), .ld none (.t 31), none⟩,
    ⟨(some 33), .mov (.t 5), none⟩,
    ⟨(some 34), .idxA 5 (.t 32) (.t 33), none⟩,
    ⟨(some 35), .ld (some 5) (.t 34), none⟩,
    ⟨(some 7), .alloc [.int .i64 0, .int .i64 0, .int .i64 0, .int .i64 0, .sl .ex []], none⟩,
    ⟨none, .st 5 (.t 7) (.t 35), none⟩])
  (.seq (.seq (.region false [⟨(some 36), .ld (some 5) (.t 7), none⟩,
    ⟨(some 37), .call F_arrays_Check [(.t 36)], none⟩,
    ⟨(some 8), .mov (.t 37), none⟩])
  (.block 3 (.seq (.region false [⟨(some 39), .mov (.t 6), none⟩,
    ⟨(some 40), .call F_words_Name [(.t 39)], none⟩,
    ⟨(some 41), .not (.t 40), none⟩,
    ⟨(some 38), .mov (.t 41), none⟩])
  (.cond (.t 38)
   (.seq (.region false [⟨(some 42), .mov (.t 5), none⟩,
     ⟨(some 2), .mov (.t 42), none⟩,
     ⟨(some 3), .mov (.c (.int .i64 6)), none⟩])
   (.ret))
   (.seq (.region false [⟨(some 44), .mov (.t 4), none⟩,
     ⟨(some 45), .mov (.t 6), none⟩,
     ⟨(some 46), .mget (.t 44) (.t 45), none⟩,
     ⟨(some 43), .mov (.t 46), none⟩])
   (.cond (.t 43)
    (.seq (.region false [⟨(some 47), .mov (.t 5), none⟩,
      ⟨(some 2), .mov (.t 47), none⟩,
      ⟨(some 3), .mov (.c (.int .i64 8)), none⟩])
    (.ret))
    (.seq (.region false [⟨(some 49), .mov (.t 8), none⟩,
      ⟨(some 50), .bin .neq (.t 49) (.c (.int .i64 0)), none⟩,
      ⟨(some 48), .mov (.t 50), none⟩])
    (.cond (.t 48)
     (.seq (.region false [⟨(some 51), .mov (.t 5), none⟩,
       ⟨(some 52), .mov (.t 8), none⟩,
       ⟨(some 2), .mov (.t 51), none⟩,
       ⟨(some 3), .mov (.t 52), none⟩])
     (.ret))
     (.seq (.region false [⟨(some 54), .fldA 1 (.t 7), none⟩,
       ⟨(some 55), .ld none (.t 54), none⟩,
       ⟨(some 56), .bin .neq (.t 55) (.c (.int .i64 1)), none⟩,
       ⟨(some 53), .mov (.t 56), none⟩])
     (.cond (.t 53)
      (.seq (.region false [⟨(some 57), .mov (.t 5), none⟩,
        ⟨(some 2), .mov (.t 57), none⟩,
        ⟨(some 3), .mov (.c (.int .i64 22)), none⟩])
      (.ret))
      (.seq (.region true [⟨(some 59), .fldA 2 (.t 7), none⟩,
        ⟨(some 60), .ld (some 2) (.t 59), none⟩,
        ⟨(some 61), .fldA 1 (.t 1), none⟩,
        ⟨(some 62), .ld none (.t 61), none⟩,
        ⟨(some 63), .idxA 5 (.t 62) (.c (.int .i64 0)), none⟩,
        ⟨(some 64), .fldA 2 (.t 63), none⟩,
        ⟨(some 65), .ld (some 2) (.t 64), none⟩,
        ⟨(some 66), .aeq true [0, 0] (.t 60) (.t 65), none⟩,
        ⟨(some 58), .mov (.t 66), none⟩])
      (.cond (.t 58)
       (.seq (.region false [⟨(some 67), .mov (.t 5), none⟩,
         ⟨(some 2), .mov (.t 67), none⟩,
         ⟨(some 3), .mov (.c (.int .i64 11)), none⟩])
       (.ret))
       (.skip)))))))))))))
  (.region false [⟨(some 68), .mov (.t 4), none⟩,
    ⟨(some 69), .mov (.t 6), none⟩,
    ⟨none, .mset (.t 68) (.t 69), none⟩])))))
  (.region false [⟨(some 70), .bin .add (.t 26) (.c (.int .i64 1)), none⟩,
    ⟨(some 26), .mov (.t 70), none⟩])))
def A_tables_Check : AFun := ⟨71,
  .seq (.region false [⟨(some 1), .box (.t 0), none⟩,
    ⟨(some 2), .mov (.c (.int .i64 0)), none⟩,
    ⟨(some 3), .mov (.c (.int .i64 0)), none⟩])
  (.seq (.block 0 (.seq (.region false [⟨(some 10), .fldA 0 (.t 1), none⟩,
    ⟨(some 11), .ld none (.t 10), none⟩,
    ⟨(some 12), .len (.t 11), none⟩,
    ⟨(some 13), .bin .gtr (.t 12) (.c (.int .i64 16)), none⟩,
    ⟨(some 9), .mov (.t 13), none⟩])
  (.cond (.t 9)
   (.seq (.region false [⟨(some 2), .mov (.c (.int .i64 (-1))), none⟩,
     ⟨(some 3), .mov (.c (.int .i64 3)), none⟩])
   (.ret))
   (.seq (.region false [⟨(some 15), .fldA 1 (.t 1), none⟩,
     ⟨(some 16), .ld none (.t 15), none⟩,
     ⟨(some 17), .len (.t 16), none⟩,
     ⟨(some 18), .fldA 0 (.t 1), none⟩,
     ⟨(some 19), .ld none (.t 18), none⟩,
     ⟨(some 20), .len (.t 19), none⟩,
     ⟨(some 21), .bin .neq (.t 17) (.t 20), none⟩,
     ⟨(some 14), .mov (.t 21), none⟩])
   (.cond (.t 14)
    (.seq (.region false [⟨(some 2), .mov (.c (.int .i64 (-1))), none⟩,
      ⟨(some 3), .mov (.c (.int .i64 6)), none⟩])
    (.ret))
    (.skip))))))
  (.seq (.region false [⟨(some 22), .mkM, none⟩,
    ⟨(some 4), .mov (.t 22), none⟩])
  (.seq (.seq (.region false [⟨(some 23), .fldA 0 (.t 1), none⟩,
    ⟨(some 24), .ld none (.t 23), none⟩,
    ⟨(some 25), .len (.t 24), none⟩,
    ⟨(some 26), .mov (.c (.int .i64 0)), none⟩])
  (.block 1 (.loop A_tables_CheckL0)))
  (.seq (.region false [⟨(some 2), .mov (.c (.int .i64 0)), none⟩,
    ⟨(some 3), .mov (.c (.int .i64 0)), none⟩])
  (.ret))))),
  [.tmp 2, .tmp 3]⟩

/- strings_HasPrefix -/
/- ref05_Cells -/
/- ref06_rune64 -/
/- ref33_digits -/
/- runes_is -/
/- runes_Encode_1 -/
/- utf8_RuneLen -/
/- strconv_FormatInt -/
/- slices_Chunk_int64_int64 -/
def A_slices_Chunk_int64_int64 : AFun := ⟨9,
  .seq (.region false [⟨(some 2), .box (.t 0), none⟩,
    ⟨(some 3), .box (.t 1), none⟩,
    ⟨(some 4), .mov (.c (.nilF)), none⟩])
  (.seq (.seq (.region false [⟨(some 5), .ld none (.t 3), none⟩,
    ⟨(some 6), .bin .lss (.t 5) (.c (.int .i64 1)), none⟩])
  (.cond (.t 6)
   (.bad)
   (.skip)))
  (.seq (.region false [⟨(some 8), .mkf F_slices_Chunk_int64_int64_1 [] [(.t 2), (.t 3)], none⟩,
    ⟨(some 4), .mov (.t 8), none⟩])
  (.ret))),
  [.tmp 4]⟩

/- runes_Bytes -/
/- lexer_Quote -/
/- ref33_numbers -/
/- ref14_Quote -/
/- ref33_text -/
/- format_whole -/
def A_format_wholeL0 : ACode :=
  .seq (.region false [⟨(some 14), .bin .lss (.t 13) (.t 12), none⟩])
  (.seq (.cond (.t 14)
   (.skip)
   (.exit 0))
  (.seq (.block 1 (.seq (.region false [⟨(some 15), .idxA 1 (.t 11) (.t 13), none⟩,
    ⟨(some 16), .ld none (.t 15), none⟩,
    ⟨(some 8), .mov (.t 16), none⟩])
  (.seq (.region false [⟨(some 18), .mov (.t 8), none⟩,
    ⟨(some 19), .mov (.t 1), none⟩,
    ⟨(some 20), .bin .sub (.c (.int .i64 (-1))) (.t 19), none⟩,
    ⟨(some 21), .mov (.t 1), none⟩,
    ⟨(some 22), .call F_words_Int [(.t 18), (.t 20), (.t 21)], none⟩,
    ⟨(some 17), .mov (.t 22), none⟩,
    ⟨(some 23), .extr (.t 17) 0, none⟩,
    ⟨(some 24), .extr (.t 17) 1, none⟩,
    ⟨(some 9), .mov (.t 23), none⟩,
    ⟨(some 10), .mov (.t 24), none⟩])
  (.seq (.seq (.region false [⟨(some 25), .mov (.t 10), none⟩,
    ⟨(some 26), .bin .neq (.t 25) (.c (.int .i64 0)), none⟩,
    ⟨(some 27), .mov (.t 26), none⟩,
    ⟨(some 28), .mov (.t 1), some (27, false)⟩,
    ⟨(some 29), .bin .lss (.t 28) (.c (.int .i64 9223372036854775807)), some (27, false)⟩,
    ⟨(some 30), .mov (.t 29), some (27, false)⟩,
    ⟨(some 31), .mov (.t 9), some (30, true)⟩,
    ⟨(some 32), .bin .lss (.t 31) (.c (.int .i64 0)), some (30, true)⟩,
    ⟨(some 33), .pick (.t 30) (.t 32) (.c (.bool false)), some (27, false)⟩,
    ⟨(some 34), .pick (.t 27) (.c (.bool true)) (.t 33), none⟩])
  (.cond (.t 34)
   (.seq (.region false [⟨(some 4), .mov (.c (.sl .ex [])), none⟩,
     ⟨(some 5), .mov (.c (.bool false)), none⟩])
   (.ret))
   (.skip)))
  (.region false [⟨(some 35), .mov (.t 6), none⟩,
    ⟨(some 36), .mov (.t 9), none⟩,
    ⟨(some 37), .bsl 1 (.int .i64 0) 1 [(0, (.t 36))], none⟩,
    ⟨(some 38), .app 1 8 (.t 35) (.t 37), none⟩,
    ⟨(some 6), .mov (.t 38), none⟩])))))
  (.region false [⟨(some 39), .bin .add (.t 13) (.c (.int .i64 1)), none⟩,
    ⟨(some 13), .mov (.t 39), none⟩])))
def A_format_whole : AFun := ⟨41,
  .seq (.region false [⟨(some 4), .mov (.c (.sl .ex [])), none⟩,
    ⟨(some 5), .mov (.c (.bool false)), none⟩])
  (.seq (.region false [⟨(some 6), .mov (.c (.sl .ex [])), none⟩])
  (.seq (.seq (.region false [⟨(some 11), .mov (.t 0), none⟩,
    ⟨(some 12), .len (.t 11), none⟩,
    ⟨(some 13), .mov (.c (.int .i64 0)), none⟩])
  (.block 0 (.loop A_format_wholeL0)))
  (.seq (.region false [⟨(some 40), .mov (.t 6), none⟩,
    ⟨(some 4), .mov (.t 40), none⟩,
    ⟨(some 5), .mov (.c (.bool true)), none⟩])
  (.ret)))),
  [.tmp 4, .tmp 5]⟩

/- lexer_Line -/
/- runes_Runes -/
/- ref33_split -/
/- ref01_Int -/
/- ref14_Line -/
/- ref02_Runes -/
/- ref01_Name -/
/- shapes_Check -/
def A_shapes_Check : AFun := ⟨30,
  .seq (.region false [⟨(some 3), .box (.t 1), none⟩,
    ⟨(some 4), .mov (.c (.int .i64 0)), none⟩])
  (.seq (.seq (.region false [⟨(some 7), .mov (.t 0), none⟩,
    ⟨(some 8), .bin .lss (.t 7) (.c (.int .i64 0)), none⟩,
    ⟨(some 9), .mov (.t 8), none⟩,
    ⟨(some 10), .mov (.t 0), some (9, false)⟩,
    ⟨(some 11), .bin .gtr (.t 10) (.c (.int .i64 2)), some (9, false)⟩,
    ⟨(some 12), .pick (.t 9) (.c (.bool true)) (.t 11), none⟩])
  (.cond (.t 12)
   (.seq (.region false [⟨(some 4), .mov (.c (.int .i64 7)), none⟩])
   (.ret))
   (.skip)))
  (.seq (.region true [⟨(some 13), .mov (.t 0), none⟩,
    ⟨(some 14), .slA 2 1 (.t 3) none (some (.t 13)) none, none⟩,
    ⟨(some 15), .mov (.t 0), none⟩,
    ⟨(some 16), .slA 2 1 (.t 3) (some (.t 15)) none none, none⟩,
    ⟨(some 5), .mov (.t 14), none⟩,
    ⟨(some 6), .mov (.t 16), none⟩])
  (.seq (.block 0 (.seq (.region false [⟨(some 18), .mov (.t 5), none⟩,
    ⟨(some 19), .call F_slices_ContainsFunc_int_int [(.t 18), (.c (.clo F_shapes_Check_1 [] []))], none⟩,
    ⟨(some 17), .mov (.t 19), none⟩])
  (.cond (.t 17)
   (.seq (.region false [⟨(some 4), .mov (.c (.int .i64 7)), none⟩])
   (.ret))
   (.seq (.region false [⟨(some 21), .mov (.t 6), none⟩,
     ⟨(some 22), .call F_slices_ContainsFunc_int_int [(.t 21), (.c (.clo F_shapes_Check_2 [] []))], none⟩,
     ⟨(some 20), .mov (.t 22), none⟩])
   (.cond (.t 20)
    (.seq (.region false [⟨(some 4), .mov (.c (.int .i64 6)), none⟩])
    (.ret))
    (.seq (.seq (.region false [⟨(some 24), .mov (.t 5), none⟩,
      ⟨(some 25), .call F_slices_ContainsFunc_int_int [(.t 24), (.c (.clo F_shapes_Check_3 [] []))], none⟩,
      ⟨(some 23), .mov (.t 25), none⟩])
    (.cond (.t 23)
     (.skip)
     (.region false [⟨(some 26), .mov (.t 0), none⟩,
       ⟨(some 27), .ld (some 2) (.t 3), none⟩,
       ⟨(some 28), .call F_shapes_product [(.t 26), (.t 27)], none⟩,
       ⟨(some 29), .bin .gtr (.t 28) (.c (.int .i64 400)), none⟩,
       ⟨(some 23), .mov (.t 29), none⟩])))
    (.cond (.t 23)
     (.seq (.region false [⟨(some 4), .mov (.c (.int .i64 15)), none⟩])
     (.ret))
     (.skip))))))))
  (.seq (.region false [⟨(some 4), .mov (.c (.int .i64 0)), none⟩])
  (.ret))))),
  [.tmp 4]⟩

/- shapes_product -/
def A_shapes_product : AFun := ⟨20,
  .seq (.region false [⟨(some 3), .box (.t 1), none⟩,
    ⟨(some 4), .mov (.c (.int .i64 0)), none⟩])
  (.seq (.region false [⟨(some 5), .mov (.c (.int .i64 1)), none⟩])
  (.seq (.seq (.region false [⟨(some 6), .mov (.t 0), none⟩])
  (.block 0 (.seq (.block 2 (.seq (.block 1 (.seq (.seq (.seq (.region false [⟨(some 8), .bin .eql (.t 6) (.c (.int .i64 2)), none⟩,
    ⟨(some 7), .mov (.t 8), none⟩])
  (.cond (.t 7)
   (.exit 1)
   (.skip)))
  (.seq (.region false [⟨(some 10), .bin .eql (.t 6) (.c (.int .i64 1)), none⟩,
    ⟨(some 9), .mov (.t 10), none⟩])
  (.cond (.t 9)
   (.exit 2)
   (.skip))))
  (.exit 0)))
  (.region false [⟨(some 11), .mov (.t 5), none⟩,
    ⟨(some 12), .idxP 2 1 (.t 3) (.c (.int .i64 1)), none⟩,
    ⟨(some 13), .ld none (.t 12), none⟩,
    ⟨(some 14), .bin .mul (.t 11) (.t 13), none⟩,
    ⟨(some 5), .mov (.t 14), none⟩])))
  (.seq (.region false [⟨(some 15), .mov (.t 5), none⟩,
    ⟨(some 16), .idxP 2 1 (.t 3) (.c (.int .i64 0)), none⟩,
    ⟨(some 17), .ld none (.t 16), none⟩,
    ⟨(some 18), .bin .mul (.t 15) (.t 17), none⟩,
    ⟨(some 5), .mov (.t 18), none⟩])
  (.exit 0)))))
  (.seq (.region false [⟨(some 19), .mov (.t 5), none⟩,
    ⟨(some 4), .mov (.t 19), none⟩])
  (.ret)))),
  [.tmp 4]⟩

/- slices_IndexFunc_int64_int64 -/
def A_slices_IndexFunc_int64_int64L0 : ACode :=
  .seq (.region false [⟨(some 9), .bin .lss (.t 8) (.t 7), none⟩])
  (.seq (.cond (.t 9)
   (.skip)
   (.exit 0))
  (.seq (.block 1 (.seq (.region false [⟨(some 10), .mov (.t 8), none⟩,
    ⟨(some 5), .mov (.t 10), none⟩])
  (.seq (.region false [⟨(some 11), .mov (.t 1), none⟩,
    ⟨(some 12), .mov (.t 0), none⟩,
    ⟨(some 13), .mov (.t 5), none⟩,
    ⟨(some 14), .idxA 1 (.t 12) (.t 13), none⟩,
    ⟨(some 15), .ld none (.t 14), none⟩,
    ⟨(some 16), .callv (.t 11) [(.t 15)], none⟩])
  (.cond (.t 16)
   (.seq (.region false [⟨(some 17), .mov (.t 5), none⟩,
     ⟨(some 4), .mov (.t 17), none⟩])
   (.ret))
   (.skip)))))
  (.region false [⟨(some 18), .bin .add (.t 8) (.c (.int .i64 1)), none⟩,
    ⟨(some 8), .mov (.t 18), none⟩])))
def A_slices_IndexFunc_int64_int64 : AFun := ⟨19,
  .seq (.region false [⟨(some 4), .mov (.c (.int .i64 0)), none⟩])
  (.seq (.seq (.region false [⟨(some 6), .mov (.t 0), none⟩,
    ⟨(some 7), .len (.t 6), none⟩,
    ⟨(some 8), .mov (.c (.int .i64 0)), none⟩])
  (.block 0 (.loop A_slices_IndexFunc_int64_int64L0)))
  (.seq (.region false [⟨(some 4), .mov (.c (.int .i64 (-1))), none⟩])
  (.ret))),
  [.tmp 4]⟩

/- utf8_ValidRune -/
def A_utf8_ValidRune : AFun := ⟨17,
  .seq (.region false [⟨(some 2), .mov (.c (.bool false)), none⟩])
  (.seq (.block 0 (.seq (.region false [⟨(some 4), .mov (.t 0), none⟩,
    ⟨(some 5), .bin .leq (.c (.int .i32 0)) (.t 4), none⟩,
    ⟨(some 6), .mov (.t 5), none⟩,
    ⟨(some 7), .mov (.t 0), some (6, true)⟩,
    ⟨(some 8), .bin .lss (.t 7) (.c (.int .i32 55296)), some (6, true)⟩,
    ⟨(some 9), .pick (.t 6) (.t 8) (.c (.bool false)), none⟩,
    ⟨(some 3), .mov (.t 9), none⟩])
  (.cond (.t 3)
   (.seq (.region false [⟨(some 2), .mov (.c (.bool true)), none⟩])
   (.ret))
   (.seq (.region false [⟨(some 11), .mov (.t 0), none⟩,
     ⟨(some 12), .bin .lss (.c (.int .i32 57343)) (.t 11), none⟩,
     ⟨(some 13), .mov (.t 12), none⟩,
     ⟨(some 14), .mov (.t 0), some (13, true)⟩,
     ⟨(some 15), .bin .leq (.t 14) (.c (.int .i32 1114111)), some (13, true)⟩,
     ⟨(some 16), .pick (.t 13) (.t 15) (.c (.bool false)), none⟩,
     ⟨(some 10), .mov (.t 16), none⟩])
   (.cond (.t 10)
    (.seq (.region false [⟨(some 2), .mov (.c (.bool true)), none⟩])
    (.ret))
    (.skip))))))
  (.seq (.region false [⟨(some 2), .mov (.c (.bool false)), none⟩])
  (.ret))),
  [.tmp 2]⟩

/- format_blanks -/
def A_format_blanks : AFun := ⟨11,
  .seq (.region false [⟨(some 4), .mov (.c (.str [])), none⟩])
  (.seq (.region false [⟨(some 5), .mov (.t 1), none⟩,
    ⟨(some 6), .mov (.t 0), none⟩,
    ⟨(some 7), .lenS (.t 6), none⟩,
    ⟨(some 8), .bin .sub (.t 5) (.t 7), none⟩,
    ⟨(some 9), .mm true (.t 8) (.c (.int .i64 0)), none⟩,
    ⟨(some 10), .call F_strings_Repeat [(.c (.str [32])), (.t 9)], none⟩,
    ⟨(some 4), .mov (.t 10), none⟩])
  (.ret)),
  [.tmp 4]⟩

/- stringslite_HasSuffix -/
def A_stringslite_HasSuffix : AFun := ⟨21,
  .seq (.region false [⟨(some 4), .mov (.c (.bool false)), none⟩])
  (.seq (.region false [⟨(some 5), .mov (.t 0), none⟩,
    ⟨(some 6), .lenS (.t 5), none⟩,
    ⟨(some 7), .mov (.t 1), none⟩,
    ⟨(some 8), .lenS (.t 7), none⟩,
    ⟨(some 9), .bin .geq (.t 6) (.t 8), none⟩,
    ⟨(some 10), .mov (.t 9), none⟩,
    ⟨(some 11), .mov (.t 0), some (10, true)⟩,
    ⟨(some 12), .mov (.t 0), some (10, true)⟩,
    ⟨(some 13), .lenS (.t 12), some (10, true)⟩,
    ⟨(some 14), .mov (.t 1), some (10, true)⟩,
    ⟨(some 15), .lenS (.t 14), some (10, true)⟩,
    ⟨(some 16), .bin .sub (.t 13) (.t 15), some (10, true)⟩,
    ⟨(some 17), .ssl (.t 11) (some (.t 16)) none, some (10, true)⟩,
    ⟨(some 18), .mov (.t 1), some (10, true)⟩,
    ⟨(some 19), .bin .eql (.t 17) (.t 18), some (10, true)⟩,
    ⟨(some 20), .pick (.t 10) (.t 19) (.c (.bool false)), none⟩,
    ⟨(some 4), .mov (.t 20), none⟩])
  (.ret)),
  [.tmp 4]⟩

section
variable {X : Cx} (hX : X.P = Go.Proofs.Tryz.prog)
include hX
theorem A_ref06_Like_ok : compileFun X.P F_ref06_Like (fun _ => false) = some A_ref06_Like := by rw [hX]; kernel_rfl
theorem A_format_drawn_ok : compileFun X.P F_format_drawn (fun _ => false) = some A_format_drawn := by rw [hX]; kernel_rfl
theorem A_format_Table_1_ok : compileFun X.P F_format_Table_1 (fun _ => false) = some A_format_Table_1 := by rw [hX]; kernel_rfl
theorem A_format_Table_2_ok : compileFun X.P F_format_Table_2 (fun _ => false) = some A_format_Table_2 := by rw [hX]; kernel_rfl
theorem A_format_Table_3_ok : compileFun X.P F_format_Table_3 (fun _ => false) = some A_format_Table_3 := by rw [hX]; kernel_rfl
theorem A_format_Table_4_ok : compileFun X.P F_format_Table_4 (fun _ => false) = some A_format_Table_4 := by rw [hX]; kernel_rfl
theorem A_format_cell_ok : compileFun X.P F_format_cell (fun _ => false) = some A_format_cell := by rw [hX]; kernel_rfl
theorem A_format_numbers_ok : compileFun X.P F_format_numbers (fun _ => false) = some A_format_numbers := by rw [hX]; kernel_rfl
theorem A_format_pieces_ok : compileFun X.P F_format_pieces (fun _ => false) = some A_format_pieces := by rw [hX]; kernel_rfl
theorem A_format_piece_ok : compileFun X.P F_format_piece (fun _ => false) = some A_format_piece := by rw [hX]; kernel_rfl
theorem A_format_Parse_1_ok : compileFun X.P F_format_Parse_1 (fun _ => false) = some A_format_Parse_1 := by rw [hX]; kernel_rfl
theorem A_format_begun_ok : compileFun X.P F_format_begun (fun _ => false) = some A_format_begun := by rw [hX]; kernel_rfl
theorem A_format_cells_ok : compileFun X.P F_format_cells (fun _ => false) = some A_format_cells := by rw [hX]; kernel_rfl
theorem A_shapes_Cells_ok : compileFun X.P F_shapes_Cells (fun _ => false) = some A_shapes_Cells := by rw [hX]; kernel_rfl
theorem A_slices_ContainsFunc_int64_int64_ok : compileFun X.P F_slices_ContainsFunc_int64_int64 (fun _ => false) = some A_slices_ContainsFunc_int64_int64 := by rw [hX]; kernel_rfl
theorem A_arrays_Check_1_ok : compileFun X.P F_arrays_Check_1 (fun _ => false) = some A_arrays_Check_1 := by rw [hX]; kernel_rfl
theorem A_arrays_right_ok : compileFun X.P F_arrays_right (fun _ => false) = some A_arrays_right := by rw [hX]; kernel_rfl
theorem A_format_left_ok : compileFun X.P F_format_left (fun _ => false) = some A_format_left := by rw [hX]; kernel_rfl
theorem A_format_right_ok : compileFun X.P F_format_right (fun _ => false) = some A_format_right := by rw [hX]; kernel_rfl
theorem A_strings_HasSuffix_ok : compileFun X.P F_strings_HasSuffix (fun _ => false) = some A_strings_HasSuffix := by rw [hX]; kernel_rfl
theorem A_strings_Split_ok : compileFun X.P F_strings_Split (fun _ => false) = some A_strings_Split := by rw [hX]; kernel_rfl
theorem A_words_Int_ok : compileFun X.P F_words_Int (fun _ => false) = some A_words_Int := by rw [hX]; kernel_rfl
theorem A_tables_Check_ok : compileFun X.P F_tables_Check (fun _ => false) = some A_tables_Check := by rw [hX]; kernel_rfl
theorem A_slices_Chunk_int64_int64_ok : compileFun X.P F_slices_Chunk_int64_int64 (fun _ => false) = some A_slices_Chunk_int64_int64 := by rw [hX]; kernel_rfl
theorem A_format_whole_ok : compileFun X.P F_format_whole (fun _ => false) = some A_format_whole := by rw [hX]; kernel_rfl
theorem A_shapes_Check_ok : compileFun X.P F_shapes_Check (fun _ => false) = some A_shapes_Check := by rw [hX]; kernel_rfl
theorem A_shapes_product_ok : compileFun X.P F_shapes_product (fun _ => false) = some A_shapes_product := by rw [hX]; kernel_rfl
theorem A_slices_IndexFunc_int64_int64_ok : compileFun X.P F_slices_IndexFunc_int64_int64 (fun _ => false) = some A_slices_IndexFunc_int64_int64 := by rw [hX]; kernel_rfl
theorem A_utf8_ValidRune_ok : compileFun X.P F_utf8_ValidRune (fun _ => false) = some A_utf8_ValidRune := by rw [hX]; kernel_rfl
theorem A_format_blanks_ok : compileFun X.P F_format_blanks (fun _ => false) = some A_format_blanks := by rw [hX]; kernel_rfl
theorem A_stringslite_HasSuffix_ok : compileFun X.P F_stringslite_HasSuffix (fun _ => false) = some A_stringslite_HasSuffix := by rw [hX]; kernel_rfl
end
end Go.Avm
