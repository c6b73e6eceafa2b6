/- The functions as they have been read. -/
import Derived.Test.YtpkgglpiboeogaaGreatDoorAG1
import Derived.Test.YtpkgglpiboeogaaGreatDoorProg
set_option linter.unusedSectionVars false
set_option linter.unusedSimpArgs false
set_option linter.unusedVariables false

/- The functions as they have been read. -/
namespace Go.Avm
open Go
/- lexer_reader_number -/
def A_lexer_reader_number : AFun := ⟨71,
  .seq (.region false [⟨(some 2), .alloc [.int .i64 0, .int .i64 0, .int .i64 0, .int .i64 0, .str []], none⟩,
    ⟨(some 3), .alloc [.int .i64 0, .int .i64 0], none⟩])
  (.seq (.region false [⟨(some 7), .mov (.t 0), none⟩,
    ⟨(some 8), .nck (.t 7), none⟩,
    ⟨(some 9), .fldA 1 (.t 8), none⟩,
    ⟨(some 10), .ld none (.t 9), none⟩,
    ⟨(some 4), .mov (.t 10), none⟩])
  (.seq (.seq (.region true [⟨(some 11), .mov (.t 0), none⟩,
    ⟨(some 12), .nck (.t 11), none⟩,
    ⟨(some 13), .fldA 0 (.t 12), none⟩,
    ⟨(some 14), .ld none (.t 13), none⟩,
    ⟨(some 15), .mov (.t 0), none⟩,
    ⟨(some 16), .nck (.t 15), none⟩,
    ⟨(some 17), .fldA 1 (.t 16), none⟩,
    ⟨(some 18), .ld none (.t 17), none⟩,
    ⟨(some 19), .idxS (.t 14) (.t 18), none⟩,
    ⟨(some 20), .bin .eql (.t 19) (.c (.int .u8 45)), none⟩])
  (.cond (.t 20)
   (.region false [⟨(some 21), .mov (.t 0), none⟩,
     ⟨(some 22), .nck (.t 21), none⟩,
     ⟨(some 23), .fldA 1 (.t 22), none⟩,
     ⟨(some 24), .ld none (.t 23), none⟩,
     ⟨(some 25), .bin .add (.t 24) (.c (.int .i64 1)), none⟩,
     ⟨(some 26), .nck (.t 21), none⟩,
     ⟨(some 27), .fldA 1 (.t 26), none⟩,
     ⟨none, .st 1 (.t 27) (.t 25), none⟩])
   (.skip)))
  (.seq (.seq (.region false [⟨(some 28), .mov (.t 0), none⟩,
    ⟨(some 29), .call F_lexer_reader_while [(.t 28), (.c (.int .i64 6)), (.c (.int .i64 6))], none⟩,
    ⟨(some 30), .bin .eql (.t 29) (.c (.str [])), none⟩])
  (.cond (.t 30)
   (.seq (.region false [⟨(some 31), .build [.int .i64 0, .int .i64 0, .int .i64 0, .int .i64 0, .str []] [], none⟩,
     ⟨(some 32), .mov (.t 4), none⟩,
     ⟨(some 33), .build [.int .i64 0, .int .i64 0] [(0, 1, (.t 32)), (1, 1, (.c (.int .i64 6)))], none⟩,
     ⟨none, .st 5 (.t 2) (.t 31), none⟩,
     ⟨none, .st 2 (.t 3) (.t 33), none⟩])
   (.ret))
   (.skip)))
  (.seq (.region true [⟨(some 35), .mov (.t 0), none⟩,
    ⟨(some 36), .nck (.t 35), none⟩,
    ⟨(some 37), .fldA 0 (.t 36), none⟩,
    ⟨(some 38), .ld none (.t 37), none⟩,
    ⟨(some 39), .mov (.t 4), none⟩,
    ⟨(some 40), .mov (.t 0), none⟩,
    ⟨(some 41), .nck (.t 40), none⟩,
    ⟨(some 42), .fldA 1 (.t 41), none⟩,
    ⟨(some 43), .ld none (.t 42), none⟩,
    ⟨(some 44), .ssl (.t 38) (some (.t 39)) (some (.t 43)), none⟩,
    ⟨(some 45), .call F_strconv_ParseInt [(.t 44), (.c (.int .i64 10)), (.c (.int .i64 64))], none⟩,
    ⟨(some 34), .mov (.t 45), none⟩,
    ⟨(some 46), .extr (.t 34) 0, none⟩,
    ⟨(some 47), .extr (.t 34) 1, none⟩,
    ⟨(some 5), .mov (.t 46), none⟩,
    ⟨(some 6), .mov (.t 47), none⟩])
  (.seq (.block 0 (.seq (.region false [⟨(some 49), .mov (.t 6), none⟩,
    ⟨(some 50), .ifn true (.t 49), none⟩,
    ⟨(some 48), .mov (.t 50), none⟩])
  (.cond (.t 48)
   (.seq (.region false [⟨(some 51), .build [.int .i64 0, .int .i64 0, .int .i64 0, .int .i64 0, .str []] [], none⟩,
     ⟨(some 52), .mov (.t 4), none⟩,
     ⟨(some 53), .build [.int .i64 0, .int .i64 0] [(0, 1, (.t 52)), (1, 1, (.c (.int .i64 7)))], none⟩,
     ⟨none, .st 5 (.t 2) (.t 51), none⟩,
     ⟨none, .st 2 (.t 3) (.t 53), none⟩])
   (.ret))
   (.seq (.region false [⟨(some 55), .mov (.t 0), none⟩,
     ⟨(some 56), .mov (.t 0), none⟩,
     ⟨(some 57), .nck (.t 56), none⟩,
     ⟨(some 58), .fldA 1 (.t 57), none⟩,
     ⟨(some 59), .ld none (.t 58), none⟩,
     ⟨(some 60), .call F_lexer_reader_class [(.t 55), (.t 59)], none⟩,
     ⟨(some 61), .bin .eql (.t 60) (.c (.int .i64 8)), none⟩,
     ⟨(some 54), .mov (.t 61), none⟩])
   (.cond (.t 54)
    (.seq (.region true [⟨(some 62), .build [.int .i64 0, .int .i64 0, .int .i64 0, .int .i64 0, .str []] [], none⟩,
      ⟨(some 63), .mov (.t 0), none⟩,
      ⟨(some 64), .nck (.t 63), none⟩,
      ⟨(some 65), .fldA 1 (.t 64), none⟩,
      ⟨(some 66), .ld none (.m true 65), none⟩,
      ⟨(some 67), .build [.int .i64 0, .int .i64 0] [(0, 1, (.t 66)), (1, 1, (.c (.int .i64 6)))], none⟩,
      ⟨none, .st 5 (.m false 2) (.t 62), none⟩,
      ⟨none, .st 2 (.m false 3) (.t 67), none⟩])
    (.ret))
    (.skip))))))
  (.seq (.region true [⟨(some 68), .mov (.t 5), none⟩,
    ⟨(some 69), .build [.int .i64 0, .int .i64 0, .int .i64 0, .int .i64 0, .str []] [(0, 1, (.c (.int .i64 2))), (3, 1, (.t 68))], none⟩,
    ⟨(some 70), .lds (some 2) (.gl 2), none⟩,
    ⟨none, .st 5 (.t 2) (.t 69), none⟩,
    ⟨none, .st 2 (.t 3) (.t 70), none⟩])
  (.ret))))))),
  [.cell (some 5) 2, .cell (some 2) 3]⟩

/- lexer_reader_text -/
def A_lexer_reader_textL0 : ACode :=
  .seq (.region false [⟨(some 24), .nxt (.t 23), none⟩,
    ⟨(some 25), .extr (.t 24) 0, none⟩])
  (.seq (.cond (.t 25)
   (.skip)
   (.exit 0))
  (.block 1 (.seq (.region false [⟨(some 26), .extr (.t 24) 1, none⟩,
    ⟨(some 27), .extr (.t 24) 2, none⟩,
    ⟨(some 7), .mov (.t 26), none⟩,
    ⟨(some 8), .mov (.t 27), none⟩])
  (.seq (.seq (.region false [⟨(some 28), .mov (.t 6), none⟩,
    ⟨(some 29), .bin .gtr (.t 28) (.c (.int .i64 0)), none⟩])
  (.cond (.t 29)
   (.seq (.region false [⟨(some 30), .mov (.t 6), none⟩,
     ⟨(some 31), .bin .sub (.t 30) (.c (.int .i64 1)), none⟩,
     ⟨(some 6), .mov (.t 31), none⟩])
   (.seq (.region false [⟨(some 32), .mov (.t 6), none⟩,
     ⟨(some 33), .bin .gtr (.t 32) (.c (.int .i64 0)), none⟩,
     ⟨(some 34), .mov (.t 33), none⟩,
     ⟨(some 35), .mov (.t 7), some (34, false)⟩,
     ⟨(some 36), .bin .eql (.t 35) (.c (.int .i64 0)), some (34, false)⟩,
     ⟨(some 37), .pick (.t 34) (.c (.bool true)) (.t 36), none⟩])
   (.cond (.t 37)
    (.exit 1)
    (.skip))))
   (.skip)))
  (.seq (.region false [⟨(some 38), .mov (.t 4), none⟩,
    ⟨(some 39), .mov (.t 7), none⟩,
    ⟨(some 40), .bin .add (.t 38) (.t 39), none⟩,
    ⟨(some 9), .mov (.t 40), none⟩])
  (.block 2 (.seq (.region false [⟨(some 44), .mov (.t 8), none⟩,
    ⟨(some 45), .bin .eql (.t 44) (.c (.int .i32 34)), none⟩,
    ⟨(some 43), .mov (.t 45), none⟩])
  (.cond (.t 43)
   (.seq (.region false [⟨(some 46), .mov (.t 0), none⟩,
     ⟨(some 47), .mov (.t 9), none⟩,
     ⟨(some 48), .bin .add (.t 47) (.c (.int .i64 1)), none⟩,
     ⟨(some 49), .nck (.t 46), none⟩,
     ⟨(some 50), .fldA 1 (.t 49), none⟩,
     ⟨none, .st 1 (.t 50) (.t 48), none⟩])
   (.seq (.region true [⟨(some 51), .inv [(17, F_main_main)] (.m true 5) [(.t 5)], none⟩,
     ⟨(some 52), .build [.int .i64 0, .int .i64 0, .int .i64 0, .int .i64 0, .str []] [(0, 1, (.c (.int .i64 3))), (4, 1, (.t 51))], none⟩,
     ⟨(some 53), .lds (some 2) (.gl 2), none⟩,
     ⟨none, .st 5 (.t 2) (.t 52), none⟩,
     ⟨none, .st 2 (.t 3) (.t 53), none⟩])
   (.ret)))
   (.seq (.region false [⟨(some 55), .mov (.t 8), none⟩,
     ⟨(some 56), .bin .eql (.t 55) (.c (.int .i32 92)), none⟩,
     ⟨(some 54), .mov (.t 56), none⟩])
   (.cond (.t 54)
    (.seq (.region false [⟨(some 58), .mov (.t 0), none⟩,
      ⟨(some 59), .nck (.t 58), none⟩,
      ⟨(some 60), .fldA 0 (.t 59), none⟩,
      ⟨(some 61), .ld none (.t 60), none⟩,
      ⟨(some 62), .mov (.t 9), none⟩,
      ⟨(some 63), .bin .add (.t 62) (.c (.int .i64 1)), none⟩,
      ⟨(some 64), .ssl (.t 61) (some (.t 63)) none, none⟩,
      ⟨(some 65), .call F_lexer_escape [(.t 64)], none⟩,
      ⟨(some 57), .mov (.t 65), none⟩,
      ⟨(some 66), .extr (.t 57) 0, none⟩,
      ⟨(some 67), .extr (.t 57) 1, none⟩,
      ⟨(some 68), .extr (.t 57) 2, none⟩,
      ⟨(some 10), .mov (.t 66), none⟩,
      ⟨(some 11), .mov (.t 67), none⟩,
      ⟨(some 12), .mov (.t 68), none⟩])
    (.seq (.seq (.region false [⟨(some 69), .mov (.t 12), none⟩,
      ⟨(some 70), .not (.t 69), none⟩])
    (.cond (.t 70)
     (.seq (.region false [⟨(some 71), .build [.int .i64 0, .int .i64 0, .int .i64 0, .int .i64 0, .str []] [], none⟩,
       ⟨(some 72), .mov (.t 9), none⟩,
       ⟨(some 73), .build [.int .i64 0, .int .i64 0] [(0, 1, (.t 72)), (1, 1, (.c (.int .i64 6)))], none⟩,
       ⟨none, .st 5 (.t 2) (.t 71), none⟩,
       ⟨none, .st 2 (.t 3) (.t 73), none⟩])
     (.ret))
     (.skip)))
    (.seq (.region false [⟨(some 74), .mov (.t 10), none⟩,
      ⟨(some 75), .call F_strings_Builder_WriteRune [(.t 5), (.t 74)], none⟩])
    (.region false [⟨(some 76), .mov (.t 11), none⟩,
      ⟨(some 77), .bin .add (.t 76) (.c (.int .i64 1)), none⟩,
      ⟨(some 6), .mov (.t 77), none⟩]))))
    (.seq (.region false [⟨(some 79), .mov (.t 8), none⟩,
      ⟨(some 80), .bin .lss (.t 79) (.c (.int .i32 32)), none⟩,
      ⟨(some 81), .mov (.t 80), none⟩,
      ⟨(some 82), .mov (.t 8), some (81, false)⟩,
      ⟨(some 83), .bin .eql (.t 82) (.c (.int .i32 65533)), some (81, false)⟩,
      ⟨(some 84), .mov (.t 83), some (81, false)⟩,
      ⟨(some 85), .mov (.t 0), some (84, true)⟩,
      ⟨(some 86), .nck (.t 85), some (84, true)⟩,
      ⟨(some 87), .fldA 0 (.t 86), some (84, true)⟩,
      ⟨(some 88), .ld none (.t 87), some (84, true)⟩,
      ⟨(some 89), .mov (.t 9), some (84, true)⟩,
      ⟨(some 90), .ssl (.t 88) (some (.t 89)) none, some (84, true)⟩,
      ⟨(some 91), .call F_strings_HasPrefix [(.t 90), (.c (.str [239, 191, 189]))], some (84, true)⟩,
      ⟨(some 92), .not (.t 91), some (84, true)⟩,
      ⟨(some 93), .pick (.t 84) (.t 92) (.c (.bool false)), some (81, false)⟩,
      ⟨(some 94), .pick (.t 81) (.c (.bool true)) (.t 93), none⟩,
      ⟨(some 78), .mov (.t 94), none⟩])
    (.cond (.t 78)
     (.seq (.region false [⟨(some 95), .build [.int .i64 0, .int .i64 0, .int .i64 0, .int .i64 0, .str []] [], none⟩,
       ⟨(some 96), .mov (.t 9), none⟩,
       ⟨(some 97), .build [.int .i64 0, .int .i64 0] [(0, 1, (.t 96)), (1, 1, (.c (.int .i64 6)))], none⟩,
       ⟨none, .st 5 (.t 2) (.t 95), none⟩,
       ⟨none, .st 2 (.t 3) (.t 97), none⟩])
     (.ret))
     (.region false [⟨(some 41), .mov (.t 8), none⟩,
       ⟨(some 42), .call F_strings_Builder_WriteRune [(.t 5), (.t 41)], none⟩])))))))))))))
def A_lexer_reader_text : AFun := ⟨101,
  .seq (.region false [⟨(some 2), .alloc [.int .i64 0, .int .i64 0, .int .i64 0, .int .i64 0, .str []], none⟩,
    ⟨(some 3), .alloc [.int .i64 0, .int .i64 0], none⟩])
  (.seq (.region false [⟨(some 13), .mov (.t 0), none⟩,
    ⟨(some 14), .nck (.t 13), none⟩,
    ⟨(some 15), .fldA 1 (.t 14), none⟩,
    ⟨(some 16), .ld none (.t 15), none⟩,
    ⟨(some 4), .mov (.t 16), none⟩])
  (.seq (.region false [⟨(some 5), .allocB 38 5, none⟩])
  (.seq (.region false [⟨(some 6), .mov (.c (.int .i64 1)), none⟩])
  (.seq (.seq (.region false [⟨(some 17), .mov (.t 0), none⟩,
    ⟨(some 18), .nck (.t 17), none⟩,
    ⟨(some 19), .fldA 0 (.t 18), none⟩,
    ⟨(some 20), .ld none (.t 19), none⟩,
    ⟨(some 21), .mov (.t 4), none⟩,
    ⟨(some 22), .ssl (.t 20) (some (.t 21)) none, none⟩,
    ⟨(some 23), .rng (.t 22), none⟩])
  (.block 0 (.loop A_lexer_reader_textL0)))
  (.seq (.region false [⟨(some 98), .build [.int .i64 0, .int .i64 0, .int .i64 0, .int .i64 0, .str []] [], none⟩,
    ⟨(some 99), .mov (.t 4), none⟩,
    ⟨(some 100), .build [.int .i64 0, .int .i64 0] [(0, 1, (.t 99)), (1, 1, (.c (.int .i64 6)))], none⟩,
    ⟨none, .st 5 (.t 2) (.t 98), none⟩,
    ⟨none, .st 2 (.t 3) (.t 100), none⟩])
  (.ret)))))),
  [.cell (some 5) 2, .cell (some 2) 3]⟩

/- strconv_FormatInt -/
def A_strconv_FormatInt : AFun := ⟨8,
  .seq (.region false [⟨(some 4), .mov (.c (.str [])), none⟩])
  (.seq (.region false [⟨(some 5), .mov (.t 0), none⟩,
    ⟨(some 6), .mov (.t 1), none⟩,
    ⟨(some 7), .call F_strconv_FormatInt_45 [(.t 5), (.t 6)], none⟩,
    ⟨(some 4), .mov (.t 7), none⟩])
  (.ret)),
  [.tmp 4]⟩

/- lexer_quoted -/
def A_lexer_quotedL0 : ACode :=
  .seq (.region false [⟨(some 9), .nxt (.t 8), none⟩,
    ⟨(some 10), .extr (.t 9) 0, none⟩])
  (.seq (.cond (.t 10)
   (.skip)
   (.exit 0))
  (.block 1 (.seq (.region false [⟨(some 11), .extr (.t 9) 2, none⟩,
    ⟨(some 5), .mov (.t 11), none⟩])
  (.block 2 (.seq (.region false [⟨(some 19), .mov (.t 5), none⟩,
    ⟨(some 20), .bin .eql (.t 19) (.c (.int .i32 34)), none⟩,
    ⟨(some 21), .mov (.t 20), none⟩,
    ⟨(some 22), .mov (.t 5), some (21, false)⟩,
    ⟨(some 23), .bin .eql (.t 22) (.c (.int .i32 92)), some (21, false)⟩,
    ⟨(some 24), .pick (.t 21) (.c (.bool true)) (.t 23), none⟩,
    ⟨(some 18), .mov (.t 24), none⟩])
  (.cond (.t 18)
   (.seq (.region false [⟨(some 25), .call F_strings_Builder_WriteByte [(.t 3), (.c (.int .u8 92))], none⟩])
   (.region false [⟨(some 26), .mov (.t 5), none⟩,
     ⟨(some 27), .call F_strings_Builder_WriteRune [(.t 3), (.t 26)], none⟩]))
   (.seq (.region false [⟨(some 29), .mov (.t 5), none⟩,
     ⟨(some 30), .bin .eql (.t 29) (.c (.int .i32 10)), none⟩,
     ⟨(some 28), .mov (.t 30), none⟩])
   (.cond (.t 28)
    (.region false [⟨(some 31), .call F_strings_Builder_WriteString [(.t 3), (.c (.str [92, 110]))], none⟩])
    (.seq (.region false [⟨(some 33), .mov (.t 5), none⟩,
      ⟨(some 34), .bin .geq (.t 33) (.c (.int .i32 32)), none⟩,
      ⟨(some 35), .mov (.t 34), none⟩,
      ⟨(some 36), .mov (.t 5), some (35, true)⟩,
      ⟨(some 37), .bin .lss (.t 36) (.c (.int .i32 127)), some (35, true)⟩,
      ⟨(some 38), .pick (.t 35) (.t 37) (.c (.bool false)), none⟩,
      ⟨(some 32), .mov (.t 38), none⟩])
    (.cond (.t 32)
     (.region false [⟨(some 39), .mov (.t 5), none⟩,
       ⟨(some 40), .call F_strings_Builder_WriteRune [(.t 3), (.t 39)], none⟩])
     (.region false [⟨(some 12), .mov (.t 5), none⟩,
       ⟨(some 13), .conv .i64 (.t 12), none⟩,
       ⟨(some 14), .call F_strconv_FormatInt [(.t 13), (.c (.int .i64 16))], none⟩,
       ⟨(some 15), .bin .add (.c (.str [92, 117])) (.t 14), none⟩,
       ⟨(some 16), .bin .add (.t 15) (.c (.str [59])), none⟩,
       ⟨(some 17), .call F_strings_Builder_WriteString [(.t 3), (.t 16)], none⟩])))))))))))
def A_lexer_quoted : AFun := ⟨43,
  .seq (.region false [⟨(some 2), .mov (.c (.str [])), none⟩])
  (.seq (.region false [⟨(some 3), .allocB 38 5, none⟩])
  (.seq (.region false [⟨(some 6), .call F_strings_Builder_WriteByte [(.t 3), (.c (.int .u8 34))], none⟩])
  (.seq (.seq (.region false [⟨(some 7), .mov (.t 0), none⟩,
    ⟨(some 8), .rng (.t 7), none⟩])
  (.block 0 (.loop A_lexer_quotedL0)))
  (.seq (.region false [⟨(some 41), .call F_strings_Builder_WriteByte [(.t 3), (.c (.int .u8 34))], none⟩])
  (.seq (.region false [⟨(some 42), .call F_strings_Builder_String [(.t 3)], none⟩,
    ⟨(some 2), .mov (.t 42), none⟩])
  (.ret)))))),
  [.tmp 2]⟩

/- ref01_Digits -/
def A_ref01_Digits : AFun := ⟨36,
  .seq (.region false [⟨(some 2), .mov (.c (.str [])), none⟩])
  (.seq (.seq (.region false [⟨(some 4), .mov (.t 0), none⟩,
    ⟨(some 5), .bin .gtr (.t 4) (.c (.int .i64 9)), none⟩,
    ⟨(some 6), .mov (.t 5), none⟩,
    ⟨(some 7), .mov (.t 0), some (6, false)⟩,
    ⟨(some 8), .bin .lss (.t 7) (.c (.int .i64 (-9))), some (6, false)⟩,
    ⟨(some 9), .pick (.t 6) (.c (.bool true)) (.t 8), none⟩])
  (.cond (.t 9)
   (.seq (.region false [⟨(some 10), .mov (.t 0), none⟩,
     ⟨(some 11), .bin .rem (.t 10) (.c (.int .i64 10)), none⟩,
     ⟨(some 3), .mov (.t 11), none⟩])
   (.seq (.seq (.region false [⟨(some 12), .mov (.t 3), none⟩,
     ⟨(some 13), .bin .lss (.t 12) (.c (.int .i64 0)), none⟩])
   (.cond (.t 13)
    (.region false [⟨(some 14), .mov (.t 3), none⟩,
      ⟨(some 15), .neg (.t 14), none⟩,
      ⟨(some 3), .mov (.t 15), none⟩])
    (.skip)))
   (.seq (.region true [⟨(some 16), .mov (.t 0), none⟩,
     ⟨(some 17), .bin .quo (.t 16) (.c (.int .i64 10)), none⟩,
     ⟨(some 18), .call F_ref01_Digits [(.t 17)], none⟩,
     ⟨(some 19), .mov (.t 3), none⟩,
     ⟨(some 20), .bin .add (.c (.int .i64 48)) (.t 19), none⟩,
     ⟨(some 21), .conv .u8 (.t 20), none⟩,
     ⟨(some 22), .bsl 1 (.int .u8 0) 1 [(0, (.t 21))], none⟩,
     ⟨(some 23), .b2s (.t 22), none⟩,
     ⟨(some 24), .bin .add (.t 18) (.t 23), none⟩,
     ⟨(some 2), .mov (.t 24), none⟩])
   (.ret))))
   (.skip)))
  (.seq (.seq (.region false [⟨(some 25), .mov (.t 0), none⟩,
    ⟨(some 26), .bin .lss (.t 25) (.c (.int .i64 0)), none⟩])
  (.cond (.t 26)
   (.seq (.region false [⟨(some 27), .mov (.t 0), none⟩,
     ⟨(some 28), .neg (.t 27), none⟩,
     ⟨(some 29), .call F_ref01_Digits [(.t 28)], none⟩,
     ⟨(some 30), .bin .add (.c (.str [45])) (.t 29), none⟩,
     ⟨(some 2), .mov (.t 30), none⟩])
   (.ret))
   (.skip)))
  (.seq (.region false [⟨(some 31), .mov (.t 0), none⟩,
    ⟨(some 32), .bin .add (.c (.int .i64 48)) (.t 31), none⟩,
    ⟨(some 33), .conv .u8 (.t 32), none⟩,
    ⟨(some 34), .bsl 1 (.int .u8 0) 1 [(0, (.t 33))], none⟩,
    ⟨(some 35), .b2s (.t 34), none⟩,
    ⟨(some 2), .mov (.t 35), none⟩])
  (.ret)))),
  [.tmp 2]⟩

/- ref14_quoted -/
def A_ref14_quotedL0 : ACode :=
  .seq (.seq (.region false [⟨(some 6), .mov (.t 4), none⟩,
    ⟨(some 7), .mov (.t 0), none⟩,
    ⟨(some 8), .len (.t 7), none⟩,
    ⟨(some 9), .bin .lss (.t 6) (.t 8), none⟩])
  (.cond (.t 9)
   (.skip)
   (.exit 0)))
  (.seq (.block 1 (.seq (.region false [⟨(some 12), .mov (.t 0), none⟩,
    ⟨(some 13), .mov (.t 4), none⟩,
    ⟨(some 14), .idxA 1 (.t 12) (.t 13), none⟩,
    ⟨(some 15), .ld none (.t 14), none⟩,
    ⟨(some 5), .mov (.t 15), none⟩])
  (.block 2 (.seq (.region false [⟨(some 23), .mov (.t 5), none⟩,
    ⟨(some 24), .bin .eql (.t 23) (.c (.int .i64 34)), none⟩,
    ⟨(some 25), .mov (.t 24), none⟩,
    ⟨(some 26), .mov (.t 5), some (25, false)⟩,
    ⟨(some 27), .bin .eql (.t 26) (.c (.int .i64 92)), some (25, false)⟩,
    ⟨(some 28), .pick (.t 25) (.c (.bool true)) (.t 27), none⟩,
    ⟨(some 22), .mov (.t 28), none⟩])
  (.cond (.t 22)
   (.region false [⟨(some 29), .mov (.t 3), none⟩,
     ⟨(some 30), .bin .add (.t 29) (.c (.str [92])), none⟩,
     ⟨(some 31), .mov (.t 5), none⟩,
     ⟨(some 32), .conv .u8 (.t 31), none⟩,
     ⟨(some 33), .bsl 1 (.int .u8 0) 1 [(0, (.t 32))], none⟩,
     ⟨(some 34), .b2s (.t 33), none⟩,
     ⟨(some 35), .bin .add (.t 30) (.t 34), none⟩,
     ⟨(some 3), .mov (.t 35), none⟩])
   (.seq (.region false [⟨(some 37), .mov (.t 5), none⟩,
     ⟨(some 38), .bin .eql (.t 37) (.c (.int .i64 10)), none⟩,
     ⟨(some 36), .mov (.t 38), none⟩])
   (.cond (.t 36)
    (.region false [⟨(some 39), .mov (.t 3), none⟩,
      ⟨(some 40), .bin .add (.t 39) (.c (.str [92, 110])), none⟩,
      ⟨(some 3), .mov (.t 40), none⟩])
    (.seq (.region false [⟨(some 42), .mov (.t 5), none⟩,
      ⟨(some 43), .bin .geq (.t 42) (.c (.int .i64 32)), none⟩,
      ⟨(some 44), .mov (.t 43), none⟩,
      ⟨(some 45), .mov (.t 5), some (44, true)⟩,
      ⟨(some 46), .bin .leq (.t 45) (.c (.int .i64 126)), some (44, true)⟩,
      ⟨(some 47), .pick (.t 44) (.t 46) (.c (.bool false)), none⟩,
      ⟨(some 41), .mov (.t 47), none⟩])
    (.cond (.t 41)
     (.region false [⟨(some 48), .mov (.t 3), none⟩,
       ⟨(some 49), .mov (.t 5), none⟩,
       ⟨(some 50), .conv .u8 (.t 49), none⟩,
       ⟨(some 51), .bsl 1 (.int .u8 0) 1 [(0, (.t 50))], none⟩,
       ⟨(some 52), .b2s (.t 51), none⟩,
       ⟨(some 53), .bin .add (.t 48) (.t 52), none⟩,
       ⟨(some 3), .mov (.t 53), none⟩])
     (.region false [⟨(some 16), .mov (.t 3), none⟩,
       ⟨(some 17), .bin .add (.t 16) (.c (.str [92, 117])), none⟩,
       ⟨(some 18), .mov (.t 5), none⟩,
       ⟨(some 19), .call F_ref14_code [(.t 18)], none⟩,
       ⟨(some 20), .bin .add (.t 17) (.t 19), none⟩,
       ⟨(some 21), .bin .add (.t 20) (.c (.str [59])), none⟩,
       ⟨(some 3), .mov (.t 21), none⟩]))))))))))
  (.region false [⟨(some 10), .mov (.t 4), none⟩,
    ⟨(some 11), .bin .add (.t 10) (.c (.int .i64 1)), none⟩,
    ⟨(some 4), .mov (.t 11), none⟩]))
def A_ref14_quoted : AFun := ⟨56,
  .seq (.region false [⟨(some 2), .mov (.c (.str [])), none⟩])
  (.seq (.region false [⟨(some 3), .mov (.c (.str [34])), none⟩])
  (.seq (.seq (.region false [⟨(some 4), .mov (.c (.int .i64 0)), none⟩])
  (.block 0 (.loop A_ref14_quotedL0)))
  (.seq (.region false [⟨(some 54), .mov (.t 3), none⟩,
    ⟨(some 55), .bin .add (.t 54) (.c (.str [34])), none⟩,
    ⟨(some 2), .mov (.t 55), none⟩])
  (.ret)))),
  [.tmp 2]⟩

/- ref14_mark -/
def A_ref14_mark : AFun := ⟨8,
  .seq (.region false [⟨(some 2), .mov (.c (.str [])), none⟩])
  (.seq (.region false [⟨(some 3), .bsl 1 (.str []) 6 [(0, (.c (.str [40]))), (1, (.c (.str [41]))), (2, (.c (.str [91]))), (3, (.c (.str [93]))), (4, (.c (.str [60, 45]))), (5, (.c (.str [61])))], none⟩,
    ⟨(some 4), .mov (.t 0), none⟩,
    ⟨(some 5), .bin .sub (.t 4) (.c (.int .i64 4)), none⟩,
    ⟨(some 6), .idxA 1 (.t 3) (.t 5), none⟩,
    ⟨(some 7), .ld none (.t 6), none⟩,
    ⟨(some 2), .mov (.t 7), none⟩])
  (.ret)),
  [.tmp 2]⟩

/- runes_Class -/
def A_runes_ClassL0 : ACode :=
  .seq (.region false [⟨(some 26), .bin .lss (.t 25) (.c (.int .i64 10)), none⟩])
  (.seq (.cond (.t 26)
   (.skip)
   (.exit 1))
  (.seq (.block 2 (.seq (.region false [⟨(some 27), .mov (.t 25), none⟩,
    ⟨(some 28), .idxG 10 1 none (.t 24) (.t 25), none⟩,
    ⟨(some 4), .mov (.t 27), none⟩,
    ⟨(some 5), .mov (.t 28), none⟩])
  (.seq (.region false [⟨(some 29), .mov (.t 5), none⟩,
    ⟨(some 30), .mov (.t 0), none⟩,
    ⟨(some 31), .conv .i32 (.t 30), none⟩,
    ⟨(some 32), .call F_strings_ContainsRune [(.t 29), (.t 31)], none⟩])
  (.cond (.t 32)
   (.seq (.region false [⟨(some 33), .mov (.t 4), none⟩,
     ⟨(some 2), .mov (.t 33), none⟩,
     ⟨(some 3), .mov (.c (.int .i64 0)), none⟩])
   (.ret))
   (.skip)))))
  (.region false [⟨(some 34), .bin .add (.t 25) (.c (.int .i64 1)), none⟩,
    ⟨(some 25), .mov (.t 34), none⟩])))
def A_runes_Class : AFun := ⟨35,
  .seq (.region false [⟨(some 2), .mov (.c (.int .i64 0)), none⟩,
    ⟨(some 3), .mov (.c (.int .i64 0)), none⟩])
  (.seq (.block 0 (.seq (.region false [⟨(some 7), .mov (.t 0), none⟩,
    ⟨(some 8), .call F_runes_is [(.t 7)], none⟩,
    ⟨(some 9), .not (.t 8), none⟩,
    ⟨(some 6), .mov (.t 9), none⟩])
  (.cond (.t 6)
   (.seq (.region false [⟨(some 2), .mov (.c (.int .i64 0)), none⟩,
     ⟨(some 3), .mov (.c (.int .i64 7)), none⟩])
   (.ret))
   (.seq (.region false [⟨(some 11), .mov (.t 0), none⟩,
     ⟨(some 12), .bin .geq (.t 11) (.c (.int .i64 48)), none⟩,
     ⟨(some 13), .mov (.t 12), none⟩,
     ⟨(some 14), .mov (.t 0), some (13, true)⟩,
     ⟨(some 15), .bin .leq (.t 14) (.c (.int .i64 57)), some (13, true)⟩,
     ⟨(some 16), .pick (.t 13) (.t 15) (.c (.bool false)), none⟩,
     ⟨(some 10), .mov (.t 16), none⟩])
   (.cond (.t 10)
    (.seq (.region false [⟨(some 2), .mov (.c (.int .i64 6)), none⟩,
      ⟨(some 3), .mov (.c (.int .i64 0)), none⟩])
    (.ret))
    (.seq (.region false [⟨(some 18), .mov (.t 0), none⟩,
      ⟨(some 19), .bin .geq (.t 18) (.c (.int .i64 97)), none⟩,
      ⟨(some 20), .mov (.t 19), none⟩,
      ⟨(some 21), .mov (.t 0), some (20, true)⟩,
      ⟨(some 22), .bin .leq (.t 21) (.c (.int .i64 122)), some (20, true)⟩,
      ⟨(some 23), .pick (.t 20) (.t 22) (.c (.bool false)), none⟩,
      ⟨(some 17), .mov (.t 23), none⟩])
    (.cond (.t 17)
     (.seq (.region false [⟨(some 2), .mov (.c (.int .i64 8)), none⟩,
       ⟨(some 3), .mov (.c (.int .i64 0)), none⟩])
     (.ret))
     (.skip))))))))
  (.seq (.seq (.region false [⟨(some 24), .call F_runes_classes [], none⟩,
    ⟨(some 25), .mov (.c (.int .i64 0)), none⟩])
  (.block 1 (.loop A_runes_ClassL0)))
  (.seq (.region false [⟨(some 2), .mov (.c (.int .i64 10)), none⟩,
    ⟨(some 3), .mov (.c (.int .i64 0)), none⟩])
  (.ret)))),
  [.tmp 2, .tmp 3]⟩

/- ref14_letter -/
def A_ref14_letter : AFun := ⟨9,
  .seq (.region false [⟨(some 2), .mov (.c (.bool false)), none⟩])
  (.seq (.region false [⟨(some 3), .mov (.t 0), none⟩,
    ⟨(some 4), .bin .geq (.t 3) (.c (.int .u8 97)), none⟩,
    ⟨(some 5), .mov (.t 4), none⟩,
    ⟨(some 6), .mov (.t 0), some (5, true)⟩,
    ⟨(some 7), .bin .leq (.t 6) (.c (.int .u8 122)), some (5, true)⟩,
    ⟨(some 8), .pick (.t 5) (.t 7) (.c (.bool false)), none⟩,
    ⟨(some 2), .mov (.t 8), none⟩])
  (.ret)),
  [.tmp 2]⟩

/- ref14_digit -/
def A_ref14_digit : AFun := ⟨9,
  .seq (.region false [⟨(some 2), .mov (.c (.bool false)), none⟩])
  (.seq (.region false [⟨(some 3), .mov (.t 0), none⟩,
    ⟨(some 4), .bin .geq (.t 3) (.c (.int .u8 48)), none⟩,
    ⟨(some 5), .mov (.t 4), none⟩,
    ⟨(some 6), .mov (.t 0), some (5, true)⟩,
    ⟨(some 7), .bin .leq (.t 6) (.c (.int .u8 57)), some (5, true)⟩,
    ⟨(some 8), .pick (.t 5) (.t 7) (.c (.bool false)), none⟩,
    ⟨(some 2), .mov (.t 8), none⟩])
  (.ret)),
  [.tmp 2]⟩

/- ref02_Decode -/
def A_ref02_DecodeL0 : ACode :=
  .seq (.seq (.region false [⟨(some 18), .mov (.t 7), none⟩,
    ⟨(some 19), .bin .leq (.t 18) (.c (.int .i64 4)), none⟩,
    ⟨(some 20), .mov (.t 19), none⟩,
    ⟨(some 21), .mov (.t 1), some (20, true)⟩,
    ⟨(some 22), .mov (.t 7), some (20, true)⟩,
    ⟨(some 23), .bin .add (.t 21) (.t 22), some (20, true)⟩,
    ⟨(some 24), .mov (.t 0), some (20, true)⟩,
    ⟨(some 25), .len (.t 24), some (20, true)⟩,
    ⟨(some 26), .bin .leq (.t 23) (.t 25), some (20, true)⟩,
    ⟨(some 27), .pick (.t 20) (.t 26) (.c (.bool false)), none⟩])
  (.cond (.t 27)
   (.skip)
   (.exit 0)))
  (.seq (.block 1 (.seq (.region false [⟨(some 31), .mov (.t 0), none⟩,
    ⟨(some 32), .mov (.t 1), none⟩,
    ⟨(some 33), .mov (.t 1), none⟩,
    ⟨(some 34), .mov (.t 7), none⟩,
    ⟨(some 35), .bin .add (.t 33) (.t 34), none⟩,
    ⟨(some 36), .sls 1 (.t 31) (some (.t 32)) (some (.t 35)) none, none⟩,
    ⟨(some 37), .call F_ref02_stands [(.t 36)], none⟩,
    ⟨(some 30), .mov (.t 37), none⟩,
    ⟨(some 38), .extr (.t 30) 0, none⟩,
    ⟨(some 39), .extr (.t 30) 1, none⟩,
    ⟨(some 8), .mov (.t 38), none⟩,
    ⟨(some 9), .mov (.t 39), none⟩])
  (.seq (.region false [⟨(some 40), .mov (.t 9), none⟩])
  (.cond (.t 40)
   (.seq (.region false [⟨(some 41), .mov (.t 8), none⟩,
     ⟨(some 42), .mov (.t 7), none⟩,
     ⟨(some 4), .mov (.t 41), none⟩,
     ⟨(some 5), .mov (.t 42), none⟩,
     ⟨(some 6), .mov (.c (.int .i64 0)), none⟩])
   (.ret))
   (.skip)))))
  (.region false [⟨(some 28), .mov (.t 7), none⟩,
    ⟨(some 29), .bin .add (.t 28) (.c (.int .i64 1)), none⟩,
    ⟨(some 7), .mov (.t 29), none⟩]))
def A_ref02_Decode : AFun := ⟨54,
  .seq (.region false [⟨(some 4), .mov (.c (.int .i64 0)), none⟩,
    ⟨(some 5), .mov (.c (.int .i64 0)), none⟩,
    ⟨(some 6), .mov (.c (.int .i64 0)), none⟩])
  (.seq (.seq (.region false [⟨(some 10), .mov (.t 1), none⟩,
    ⟨(some 11), .bin .lss (.t 10) (.c (.int .i64 0)), none⟩,
    ⟨(some 12), .mov (.t 11), none⟩,
    ⟨(some 13), .mov (.t 1), some (12, false)⟩,
    ⟨(some 14), .mov (.t 0), some (12, false)⟩,
    ⟨(some 15), .len (.t 14), some (12, false)⟩,
    ⟨(some 16), .bin .geq (.t 13) (.t 15), some (12, false)⟩,
    ⟨(some 17), .pick (.t 12) (.c (.bool true)) (.t 16), none⟩])
  (.cond (.t 17)
   (.seq (.region false [⟨(some 4), .mov (.c (.int .i64 0)), none⟩,
     ⟨(some 5), .mov (.c (.int .i64 0)), none⟩,
     ⟨(some 6), .mov (.c (.int .i64 7)), none⟩])
   (.ret))
   (.skip)))
  (.seq (.seq (.region false [⟨(some 7), .mov (.c (.int .i64 1)), none⟩])
  (.block 0 (.loop A_ref02_DecodeL0)))
  (.seq (.seq (.region false [⟨(some 43), .mov (.t 0), none⟩,
    ⟨(some 44), .len (.t 43), none⟩,
    ⟨(some 45), .mov (.t 1), none⟩,
    ⟨(some 46), .bin .sub (.t 44) (.t 45), none⟩,
    ⟨(some 47), .bin .lss (.t 46) (.c (.int .i64 4)), none⟩,
    ⟨(some 48), .mov (.t 47), none⟩,
    ⟨(some 49), .mov (.t 0), some (48, true)⟩,
    ⟨(some 50), .mov (.t 1), some (48, true)⟩,
    ⟨(some 51), .sls 1 (.t 49) (some (.t 50)) none none, some (48, true)⟩,
    ⟨(some 52), .call F_ref02_begins [(.t 51)], some (48, true)⟩,
    ⟨(some 53), .pick (.t 48) (.t 52) (.c (.bool false)), none⟩])
  (.cond (.t 53)
   (.seq (.region false [⟨(some 4), .mov (.c (.int .i64 0)), none⟩,
     ⟨(some 5), .mov (.c (.int .i64 0)), none⟩,
     ⟨(some 6), .mov (.c (.int .i64 370)), none⟩])
   (.ret))
   (.skip)))
  (.seq (.region false [⟨(some 4), .mov (.c (.int .i64 0)), none⟩,
    ⟨(some 5), .mov (.c (.int .i64 0)), none⟩,
    ⟨(some 6), .mov (.c (.int .i64 6)), none⟩])
  (.ret))))),
  [.tmp 4, .tmp 5, .tmp 6]⟩

/- strings_HasPrefix -/
def A_strings_HasPrefix : AFun := ⟨8,
  .seq (.region false [⟨(some 4), .mov (.c (.bool false)), none⟩])
  (.seq (.region false [⟨(some 5), .mov (.t 0), none⟩,
    ⟨(some 6), .mov (.t 1), none⟩,
    ⟨(some 7), .call F_stringslite_HasPrefix [(.t 5), (.t 6)], none⟩,
    ⟨(some 4), .mov (.t 7), none⟩])
  (.ret)),
  [.tmp 4]⟩

/- strconv_ParseInt -/
def A_strconv_ParseInt : AFun := ⟨25,
  .seq (.region false [⟨(some 6), .mov (.c (.int .i64 0)), none⟩,
    ⟨(some 7), .mov (.c (.nilI)), none⟩])
  (.seq (.region false [⟨(some 10), .mov (.t 0), none⟩,
    ⟨(some 11), .mov (.t 1), none⟩,
    ⟨(some 12), .mov (.t 2), none⟩,
    ⟨(some 13), .call F_strconv_ParseInt_53 [(.t 10), (.t 11), (.t 12)], none⟩,
    ⟨(some 9), .mov (.t 13), none⟩,
    ⟨(some 14), .extr (.t 9) 0, none⟩,
    ⟨(some 15), .extr (.t 9) 1, none⟩,
    ⟨(some 8), .mov (.t 14), none⟩,
    ⟨(some 7), .mov (.t 15), none⟩])
  (.seq (.seq (.region false [⟨(some 16), .mov (.t 7), none⟩,
    ⟨(some 17), .ifn true (.t 16), none⟩])
  (.cond (.t 17)
   (.seq (.region false [⟨(some 18), .mov (.t 8), none⟩,
     ⟨(some 19), .mov (.t 0), none⟩,
     ⟨(some 20), .mov (.t 1), none⟩,
     ⟨(some 21), .mov (.t 2), none⟩,
     ⟨(some 22), .mov (.t 7), none⟩,
     ⟨(some 23), .call F_strconv_toError [(.c (.str [80, 97, 114, 115, 101, 73, 110, 116])), (.t 19), (.t 20), (.t 21), (.t 22)], none⟩,
     ⟨(some 6), .mov (.t 18), none⟩,
     ⟨(some 7), .mov (.t 23), none⟩])
   (.ret))
   (.skip)))
  (.seq (.region false [⟨(some 24), .mov (.t 8), none⟩,
    ⟨(some 6), .mov (.t 24), none⟩,
    ⟨(some 7), .mov (.c (.nilI)), none⟩])
  (.ret)))),
  [.tmp 6, .tmp 7]⟩

/- lexer_escape -/
def A_lexer_escape : AFun := ⟨62,
  .seq (.region false [⟨(some 2), .mov (.c (.int .i32 0)), none⟩,
    ⟨(some 3), .mov (.c (.int .i64 0)), none⟩,
    ⟨(some 4), .mov (.c (.bool false)), none⟩])
  (.seq (.block 0 (.seq (.seq (.region false [⟨(some 11), .mov (.t 0), none⟩,
    ⟨(some 12), .call F_strings_HasPrefix [(.t 11), (.c (.str [34]))], none⟩,
    ⟨(some 10), .mov (.t 12), none⟩])
  (.cond (.t 10)
   (.skip)
   (.region false [⟨(some 13), .mov (.t 0), none⟩,
     ⟨(some 14), .call F_strings_HasPrefix [(.t 13), (.c (.str [92]))], none⟩,
     ⟨(some 10), .mov (.t 14), none⟩])))
  (.cond (.t 10)
   (.seq (.region false [⟨(some 15), .mov (.t 0), none⟩,
     ⟨(some 16), .idxS (.t 15) (.c (.int .i64 0)), none⟩,
     ⟨(some 17), .conv .i32 (.t 16), none⟩,
     ⟨(some 2), .mov (.t 17), none⟩,
     ⟨(some 3), .mov (.c (.int .i64 1)), none⟩,
     ⟨(some 4), .mov (.c (.bool true)), none⟩])
   (.ret))
   (.seq (.region false [⟨(some 19), .mov (.t 0), none⟩,
     ⟨(some 20), .call F_strings_HasPrefix [(.t 19), (.c (.str [110]))], none⟩,
     ⟨(some 18), .mov (.t 20), none⟩])
   (.cond (.t 18)
    (.seq (.region false [⟨(some 2), .mov (.c (.int .i32 10)), none⟩,
      ⟨(some 3), .mov (.c (.int .i64 1)), none⟩,
      ⟨(some 4), .mov (.c (.bool true)), none⟩])
    (.ret))
    (.seq (.region false [⟨(some 22), .mov (.t 0), none⟩,
      ⟨(some 23), .call F_strings_HasPrefix [(.t 22), (.c (.str [117]))], none⟩,
      ⟨(some 24), .not (.t 23), none⟩,
      ⟨(some 21), .mov (.t 24), none⟩])
    (.cond (.t 21)
     (.seq (.region false [⟨(some 2), .mov (.c (.int .i32 0)), none⟩,
       ⟨(some 3), .mov (.c (.int .i64 0)), none⟩,
       ⟨(some 4), .mov (.c (.bool false)), none⟩])
     (.ret))
     (.skip))))))))
  (.seq (.region false [⟨(some 26), .mov (.t 0), none⟩,
    ⟨(some 27), .ssl (.t 26) (some (.c (.int .i64 1))) none, none⟩,
    ⟨(some 28), .call F_strings_Cut [(.t 27), (.c (.str [59]))], none⟩,
    ⟨(some 25), .mov (.t 28), none⟩,
    ⟨(some 29), .extr (.t 25) 0, none⟩,
    ⟨(some 30), .extr (.t 25) 1, none⟩,
    ⟨(some 31), .extr (.t 25) 2, none⟩,
    ⟨(some 5), .mov (.t 29), none⟩,
    ⟨(some 6), .mov (.t 30), none⟩,
    ⟨(some 7), .mov (.t 31), none⟩])
  (.seq (.seq (.region false [⟨(some 32), .mov (.t 7), none⟩,
    ⟨(some 33), .not (.t 32), none⟩,
    ⟨(some 34), .mov (.t 33), none⟩,
    ⟨(some 35), .mov (.t 5), some (34, false)⟩,
    ⟨(some 36), .lenS (.t 35), some (34, false)⟩,
    ⟨(some 37), .bin .gtr (.t 36) (.c (.int .i64 6)), some (34, false)⟩,
    ⟨(some 38), .pick (.t 34) (.c (.bool true)) (.t 37), none⟩,
    ⟨(some 39), .mov (.t 38), none⟩,
    ⟨(some 40), .mov (.t 5), some (39, false)⟩,
    ⟨(some 41), .call F_strings_Trim [(.t 40), (.c (.str [48, 49, 50, 51, 52, 53, 54, 55, 56, 57, 97, 98, 99, 100, 101, 102]))], some (39, false)⟩,
    ⟨(some 42), .bin .neq (.t 41) (.c (.str [])), some (39, false)⟩,
    ⟨(some 43), .pick (.t 39) (.c (.bool true)) (.t 42), none⟩])
  (.cond (.t 43)
   (.seq (.region false [⟨(some 2), .mov (.c (.int .i32 0)), none⟩,
     ⟨(some 3), .mov (.c (.int .i64 0)), none⟩,
     ⟨(some 4), .mov (.c (.bool false)), none⟩])
   (.ret))
   (.skip)))
  (.seq (.region false [⟨(some 45), .mov (.t 5), none⟩,
    ⟨(some 46), .call F_strconv_ParseInt [(.t 45), (.c (.int .i64 16)), (.c (.int .i64 32))], none⟩,
    ⟨(some 44), .mov (.t 46), none⟩,
    ⟨(some 47), .extr (.t 44) 0, none⟩,
    ⟨(some 48), .extr (.t 44) 1, none⟩,
    ⟨(some 8), .mov (.t 47), none⟩,
    ⟨(some 9), .mov (.t 48), none⟩])
  (.seq (.seq (.region false [⟨(some 49), .mov (.t 9), none⟩,
    ⟨(some 50), .ifn true (.t 49), none⟩,
    ⟨(some 51), .mov (.t 50), none⟩,
    ⟨(some 52), .mov (.t 8), some (51, false)⟩,
    ⟨(some 53), .conv .i32 (.t 52), some (51, false)⟩,
    ⟨(some 54), .call F_utf8_ValidRune [(.t 53)], some (51, false)⟩,
    ⟨(some 55), .not (.t 54), some (51, false)⟩,
    ⟨(some 56), .pick (.t 51) (.c (.bool true)) (.t 55), none⟩])
  (.cond (.t 56)
   (.seq (.region false [⟨(some 2), .mov (.c (.int .i32 0)), none⟩,
     ⟨(some 3), .mov (.c (.int .i64 0)), none⟩,
     ⟨(some 4), .mov (.c (.bool false)), none⟩])
   (.ret))
   (.skip)))
  (.seq (.region false [⟨(some 57), .mov (.t 8), none⟩,
    ⟨(some 58), .conv .i32 (.t 57), none⟩,
    ⟨(some 59), .mov (.t 5), none⟩,
    ⟨(some 60), .lenS (.t 59), none⟩,
    ⟨(some 61), .bin .add (.t 60) (.c (.int .i64 2)), none⟩,
    ⟨(some 2), .mov (.t 58), none⟩,
    ⟨(some 3), .mov (.t 61), none⟩,
    ⟨(some 4), .mov (.c (.bool true)), none⟩])
  (.ret))))))),
  [.tmp 2, .tmp 3, .tmp 4]⟩

/- strconv_FormatInt_45 -/
def A_strconv_FormatInt_45 : AFun := ⟨54,
  .seq (.region false [⟨(some 4), .mov (.c (.str [])), none⟩])
  (.seq (.seq (.region false [⟨(some 10), .mov (.t 1), none⟩,
    ⟨(some 11), .bin .eql (.t 10) (.c (.int .i64 10)), none⟩])
  (.cond (.t 11)
   (.seq (.seq (.region false [⟨(some 12), .mov (.t 0), none⟩,
     ⟨(some 13), .bin .leq (.c (.int .i64 0)) (.t 12), none⟩,
     ⟨(some 14), .mov (.t 13), none⟩,
     ⟨(some 15), .mov (.t 0), some (14, true)⟩,
     ⟨(some 16), .bin .lss (.t 15) (.c (.int .i64 100)), some (14, true)⟩,
     ⟨(some 17), .pick (.t 14) (.t 16) (.c (.bool false)), none⟩])
   (.cond (.t 17)
    (.seq (.region false [⟨(some 18), .mov (.t 0), none⟩,
      ⟨(some 19), .call F_strconv_small [(.t 18)], none⟩,
      ⟨(some 4), .mov (.t 19), none⟩])
    (.ret))
    (.skip)))
   (.seq (.region false [⟨(some 5), .alloc (List.replicate 24 (.int .u8 0)), none⟩])
   (.seq (.region false [⟨(some 20), .mov (.t 0), none⟩,
     ⟨(some 21), .conv .u64 (.t 20), none⟩,
     ⟨(some 6), .mov (.t 21), none⟩])
   (.seq (.seq (.region false [⟨(some 22), .mov (.t 0), none⟩,
     ⟨(some 23), .bin .lss (.t 22) (.c (.int .i64 0)), none⟩])
   (.cond (.t 23)
    (.region false [⟨(some 24), .mov (.t 6), none⟩,
      ⟨(some 25), .neg (.t 24), none⟩,
      ⟨(some 6), .mov (.t 25), none⟩])
    (.skip)))
   (.seq (.region false [⟨(some 26), .mov (.t 6), none⟩,
     ⟨(some 27), .call F_strconv_numDigits [(.t 26)], none⟩,
     ⟨(some 7), .mov (.t 27), none⟩])
   (.seq (.region false [⟨(some 28), .mov (.t 7), none⟩,
     ⟨(some 29), .bin .add (.c (.int .i64 1)) (.t 28), none⟩,
     ⟨(some 30), .slA 24 1 (.t 5) (some (.c (.int .i64 1))) (some (.t 29)) none, none⟩,
     ⟨(some 31), .mov (.t 6), none⟩,
     ⟨(some 32), .call F_strconv_formatBase10 [(.t 30), (.t 31)], none⟩])
   (.seq (.seq (.region false [⟨(some 33), .mov (.t 0), none⟩,
     ⟨(some 34), .bin .lss (.t 33) (.c (.int .i64 0)), none⟩])
   (.cond (.t 34)
    (.seq (.region false [⟨(some 35), .idxP 24 1 (.t 5) (.c (.int .i64 0)), none⟩,
      ⟨none, .st 1 (.t 35) (.c (.int .u8 45)), none⟩])
    (.seq (.region false [⟨(some 36), .mov (.t 7), none⟩,
      ⟨(some 37), .bin .add (.c (.int .i64 1)) (.t 36), none⟩,
      ⟨(some 38), .slA 24 1 (.t 5) none (some (.t 37)) none, none⟩,
      ⟨(some 39), .b2s (.t 38), none⟩,
      ⟨(some 4), .mov (.t 39), none⟩])
    (.ret)))
    (.skip)))
   (.seq (.region false [⟨(some 40), .mov (.t 7), none⟩,
     ⟨(some 41), .bin .add (.c (.int .i64 1)) (.t 40), none⟩,
     ⟨(some 42), .slA 24 1 (.t 5) (some (.c (.int .i64 1))) (some (.t 41)) none, none⟩,
     ⟨(some 43), .b2s (.t 42), none⟩,
     ⟨(some 4), .mov (.t 43), none⟩])
   (.ret)))))))))
   (.skip)))
  (.seq (.region false [⟨(some 45), .mov (.t 0), none⟩,
    ⟨(some 46), .conv .u64 (.t 45), none⟩,
    ⟨(some 47), .mov (.t 1), none⟩,
    ⟨(some 48), .mov (.t 0), none⟩,
    ⟨(some 49), .bin .lss (.t 48) (.c (.int .i64 0)), none⟩,
    ⟨(some 50), .call F_strconv_formatBits [(.c (.sl .ex [])), (.t 46), (.t 47), (.t 49), (.c (.bool false))], none⟩,
    ⟨(some 44), .mov (.t 50), none⟩,
    ⟨(some 51), .extr (.t 44) 0, none⟩,
    ⟨(some 52), .extr (.t 44) 1, none⟩,
    ⟨(some 8), .mov (.t 51), none⟩,
    ⟨(some 9), .mov (.t 52), none⟩])
  (.seq (.region false [⟨(some 53), .mov (.t 9), none⟩,
    ⟨(some 4), .mov (.t 53), none⟩])
  (.ret)))),
  [.tmp 4]⟩

/- ref14_code -/
def A_ref14_code : AFun := ⟨18,
  .seq (.region false [⟨(some 2), .mov (.c (.str [])), none⟩])
  (.seq (.region false [⟨(some 4), .mov (.t 0), none⟩,
    ⟨(some 5), .bin .rem (.t 4) (.c (.int .i64 16)), none⟩,
    ⟨(some 6), .mov (.t 0), none⟩,
    ⟨(some 7), .bin .rem (.t 6) (.c (.int .i64 16)), none⟩,
    ⟨(some 8), .bin .add (.t 7) (.c (.int .i64 1)), none⟩,
    ⟨(some 9), .ssl (.c (.str [48, 49, 50, 51, 52, 53, 54, 55, 56, 57, 97, 98, 99, 100, 101, 102])) (some (.t 5)) (some (.t 8)), none⟩,
    ⟨(some 3), .mov (.t 9), none⟩])
  (.seq (.seq (.region false [⟨(some 10), .mov (.t 0), none⟩,
    ⟨(some 11), .bin .lss (.t 10) (.c (.int .i64 16)), none⟩])
  (.cond (.t 11)
   (.seq (.region false [⟨(some 12), .mov (.t 3), none⟩,
     ⟨(some 2), .mov (.t 12), none⟩])
   (.ret))
   (.skip)))
  (.seq (.region false [⟨(some 13), .mov (.t 0), none⟩,
    ⟨(some 14), .bin .quo (.t 13) (.c (.int .i64 16)), none⟩,
    ⟨(some 15), .call F_ref14_code [(.t 14)], none⟩,
    ⟨(some 16), .mov (.t 3), none⟩,
    ⟨(some 17), .bin .add (.t 15) (.t 16), none⟩,
    ⟨(some 2), .mov (.t 17), none⟩])
  (.ret)))),
  [.tmp 2]⟩

/- runes_is -/
def A_runes_is : AFun := ⟨13,
  .seq (.region false [⟨(some 2), .mov (.c (.bool false)), none⟩])
  (.seq (.region false [⟨(some 3), .mov (.t 0), none⟩,
    ⟨(some 4), .mov (.t 0), none⟩,
    ⟨(some 5), .conv .i32 (.t 4), none⟩,
    ⟨(some 6), .conv .i64 (.t 5), none⟩,
    ⟨(some 7), .bin .eql (.t 3) (.t 6), none⟩,
    ⟨(some 8), .mov (.t 7), none⟩,
    ⟨(some 9), .mov (.t 0), some (8, true)⟩,
    ⟨(some 10), .conv .i32 (.t 9), some (8, true)⟩,
    ⟨(some 11), .call F_utf8_ValidRune [(.t 10)], some (8, true)⟩,
    ⟨(some 12), .pick (.t 8) (.t 11) (.c (.bool false)), none⟩,
    ⟨(some 2), .mov (.t 12), none⟩])
  (.ret)),
  [.tmp 2]⟩

/- runes_classes -/
def A_runes_classes : AFun := ⟨2,
  .seq (.region false [⟨(some 0), .alloc [.str [], .str [], .str [], .str [], .str [], .str [], .str [], .str [], .str [], .str []], none⟩])
  (.seq (.region false [⟨(some 1), .build [.str [], .str [], .str [], .str [], .str [], .str [], .str [], .str [], .str [], .str []] [(1, 1, (.c (.str [32]))), (2, 1, (.c (.str [10]))), (3, 1, (.c (.str [40, 91]))), (4, 1, (.c (.str [41, 93]))), (5, 1, (.c (.str [34]))), (7, 1, (.c (.str [45]))), (9, 1, (.c (.str [60, 61])))], none⟩,
    ⟨none, .st 10 (.t 0) (.t 1), none⟩])
  (.ret)),
  [.cell (some 10) 0]⟩

/- strings_ContainsRune -/
def A_strings_ContainsRune : AFun := ⟨9,
  .seq (.region false [⟨(some 4), .mov (.c (.bool false)), none⟩])
  (.seq (.region false [⟨(some 5), .mov (.t 0), none⟩,
    ⟨(some 6), .mov (.t 1), none⟩,
    ⟨(some 7), .call F_strings_IndexRune [(.t 5), (.t 6)], none⟩,
    ⟨(some 8), .bin .geq (.t 7) (.c (.int .i64 0)), none⟩,
    ⟨(some 4), .mov (.t 8), none⟩])
  (.ret)),
  [.tmp 4]⟩

/- ref02_stands -/
def A_ref02_stands : AFun := ⟨23,
  .seq (.region false [⟨(some 2), .mov (.c (.int .i64 0)), none⟩,
    ⟨(some 3), .mov (.c (.bool false)), none⟩])
  (.seq (.region false [⟨(some 7), .mov (.t 0), none⟩,
    ⟨(some 8), .call F_ref02_number [(.t 7)], none⟩,
    ⟨(some 4), .mov (.t 8), none⟩])
  (.seq (.seq (.region false [⟨(some 9), .mov (.t 4), none⟩,
    ⟨(some 10), .call F_ref02_Is [(.t 9)], none⟩,
    ⟨(some 11), .not (.t 10), none⟩])
  (.cond (.t 11)
   (.seq (.region false [⟨(some 2), .mov (.c (.int .i64 0)), none⟩,
     ⟨(some 3), .mov (.c (.bool false)), none⟩])
   (.ret))
   (.skip)))
  (.seq (.region false [⟨(some 13), .mov (.t 4), none⟩,
    ⟨(some 14), .call F_ref02_Encode [(.t 13)], none⟩,
    ⟨(some 12), .mov (.t 14), none⟩,
    ⟨(some 15), .extr (.t 12) 0, none⟩,
    ⟨(some 16), .extr (.t 12) 1, none⟩,
    ⟨(some 5), .mov (.t 15), none⟩,
    ⟨(some 6), .mov (.t 16), none⟩])
  (.seq (.region true [⟨(some 17), .mov (.t 4), none⟩,
    ⟨(some 18), .mov (.t 0), none⟩,
    ⟨(some 19), .b2s (.t 18), none⟩,
    ⟨(some 20), .mov (.t 5), none⟩,
    ⟨(some 21), .b2s (.t 20), none⟩,
    ⟨(some 22), .bin .eql (.t 19) (.t 21), none⟩,
    ⟨(some 2), .mov (.t 17), none⟩,
    ⟨(some 3), .mov (.t 22), none⟩])
  (.ret))))),
  [.tmp 2, .tmp 3]⟩

/- ref02_begins -/
def A_ref02_beginsL1 : ACode :=
  .seq (.seq (.region false [⟨(some 45), .mov (.t 6), none⟩,
    ⟨(some 46), .len (.t 45), none⟩,
    ⟨(some 47), .mov (.t 3), none⟩,
    ⟨(some 48), .bin .lss (.t 46) (.t 47), none⟩])
  (.cond (.t 48)
   (.skip)
   (.exit 3)))
  (.block 4 (.region false [⟨(some 49), .mov (.t 6), none⟩,
    ⟨(some 50), .mov (.t 5), none⟩,
    ⟨(some 51), .conv .u8 (.t 50), none⟩,
    ⟨(some 52), .bsl 1 (.int .u8 0) 1 [(0, (.t 51))], none⟩,
    ⟨(some 53), .app 1 1 (.t 49) (.t 52), none⟩,
    ⟨(some 6), .mov (.t 53), none⟩]))
def A_ref02_beginsL0 : ACode :=
  .seq (.seq (.region false [⟨(some 38), .mov (.t 5), none⟩,
    ⟨(some 39), .bin .leq (.t 38) (.c (.int .i64 191)), none⟩])
  (.cond (.t 39)
   (.skip)
   (.exit 1)))
  (.seq (.block 2 (.seq (.region false [⟨(some 42), .bsl 1 (.int .u8 0) 0 [], none⟩,
    ⟨(some 43), .mov (.t 0), none⟩,
    ⟨(some 44), .app 1 1 (.t 42) (.t 43), none⟩,
    ⟨(some 6), .mov (.t 44), none⟩])
  (.seq (.block 3 (.loop A_ref02_beginsL1))
  (.seq (.region false [⟨(some 55), .mov (.t 6), none⟩,
    ⟨(some 56), .call F_ref02_stands [(.t 55)], none⟩,
    ⟨(some 54), .mov (.t 56), none⟩,
    ⟨(some 57), .extr (.t 54) 0, none⟩,
    ⟨(some 58), .extr (.t 54) 1, none⟩,
    ⟨(some 7), .mov (.t 57), none⟩,
    ⟨(some 8), .mov (.t 58), none⟩])
  (.seq (.region false [⟨(some 59), .mov (.t 8), none⟩])
  (.cond (.t 59)
   (.seq (.region false [⟨(some 2), .mov (.c (.bool true)), none⟩])
   (.ret))
   (.skip)))))))
  (.region false [⟨(some 40), .mov (.t 5), none⟩,
    ⟨(some 41), .bin .add (.t 40) (.c (.int .i64 63)), none⟩,
    ⟨(some 5), .mov (.t 41), none⟩]))
def A_ref02_begins : AFun := ⟨60,
  .seq (.region false [⟨(some 2), .mov (.c (.bool false)), none⟩])
  (.seq (.region false [⟨(some 3), .mov (.c (.int .i64 0)), none⟩])
  (.seq (.region false [⟨(some 9), .mov (.t 0), none⟩,
    ⟨(some 10), .idxA 1 (.t 9) (.c (.int .i64 0)), none⟩,
    ⟨(some 11), .ld none (.t 10), none⟩,
    ⟨(some 12), .conv .i64 (.t 11), none⟩,
    ⟨(some 4), .mov (.t 12), none⟩])
  (.seq (.block 0 (.seq (.region false [⟨(some 14), .mov (.t 4), none⟩,
    ⟨(some 15), .bin .geq (.t 14) (.c (.int .i64 192)), none⟩,
    ⟨(some 16), .mov (.t 15), none⟩,
    ⟨(some 17), .mov (.t 4), some (16, true)⟩,
    ⟨(some 18), .bin .lss (.t 17) (.c (.int .i64 224)), some (16, true)⟩,
    ⟨(some 19), .pick (.t 16) (.t 18) (.c (.bool false)), none⟩,
    ⟨(some 13), .mov (.t 19), none⟩])
  (.cond (.t 13)
   (.region false [⟨(some 3), .mov (.c (.int .i64 2)), none⟩])
   (.seq (.region false [⟨(some 21), .mov (.t 4), none⟩,
     ⟨(some 22), .bin .geq (.t 21) (.c (.int .i64 224)), none⟩,
     ⟨(some 23), .mov (.t 22), none⟩,
     ⟨(some 24), .mov (.t 4), some (23, true)⟩,
     ⟨(some 25), .bin .lss (.t 24) (.c (.int .i64 240)), some (23, true)⟩,
     ⟨(some 26), .pick (.t 23) (.t 25) (.c (.bool false)), none⟩,
     ⟨(some 20), .mov (.t 26), none⟩])
   (.cond (.t 20)
    (.region false [⟨(some 3), .mov (.c (.int .i64 3)), none⟩])
    (.seq (.region false [⟨(some 28), .mov (.t 4), none⟩,
      ⟨(some 29), .bin .geq (.t 28) (.c (.int .i64 240)), none⟩,
      ⟨(some 30), .mov (.t 29), none⟩,
      ⟨(some 31), .mov (.t 4), some (30, true)⟩,
      ⟨(some 32), .bin .lss (.t 31) (.c (.int .i64 248)), some (30, true)⟩,
      ⟨(some 33), .pick (.t 30) (.t 32) (.c (.bool false)), none⟩,
      ⟨(some 27), .mov (.t 33), none⟩])
    (.cond (.t 27)
     (.region false [⟨(some 3), .mov (.c (.int .i64 4)), none⟩])
     (.skip))))))))
  (.seq (.seq (.region false [⟨(some 34), .mov (.t 0), none⟩,
    ⟨(some 35), .len (.t 34), none⟩,
    ⟨(some 36), .mov (.t 3), none⟩,
    ⟨(some 37), .bin .geq (.t 35) (.t 36), none⟩])
  (.cond (.t 37)
   (.seq (.region false [⟨(some 2), .mov (.c (.bool false)), none⟩])
   (.ret))
   (.skip)))
  (.seq (.seq (.region false [⟨(some 5), .mov (.c (.int .i64 128)), none⟩])
  (.block 1 (.loop A_ref02_beginsL0)))
  (.seq (.region false [⟨(some 2), .mov (.c (.bool false)), none⟩])
  (.ret))))))),
  [.tmp 2]⟩

/- stringslite_HasPrefix -/
def A_stringslite_HasPrefix : AFun := ⟨18,
  .seq (.region false [⟨(some 4), .mov (.c (.bool false)), none⟩])
  (.seq (.region false [⟨(some 5), .mov (.t 0), none⟩,
    ⟨(some 6), .lenS (.t 5), none⟩,
    ⟨(some 7), .mov (.t 1), none⟩,
    ⟨(some 8), .lenS (.t 7), none⟩,
    ⟨(some 9), .bin .geq (.t 6) (.t 8), none⟩,
    ⟨(some 10), .mov (.t 9), none⟩,
    ⟨(some 11), .mov (.t 0), some (10, true)⟩,
    ⟨(some 12), .mov (.t 1), some (10, true)⟩,
    ⟨(some 13), .lenS (.t 12), some (10, true)⟩,
    ⟨(some 14), .ssl (.t 11) none (some (.t 13)), some (10, true)⟩,
    ⟨(some 15), .mov (.t 1), some (10, true)⟩,
    ⟨(some 16), .bin .eql (.t 14) (.t 15), some (10, true)⟩,
    ⟨(some 17), .pick (.t 10) (.t 16) (.c (.bool false)), none⟩,
    ⟨(some 4), .mov (.t 17), none⟩])
  (.ret)),
  [.tmp 4]⟩

/- strconv_ParseInt_53 -/
def A_strconv_ParseInt_53 : AFun := ⟨73,
  .seq (.region false [⟨(some 6), .mov (.c (.int .i64 0)), none⟩,
    ⟨(some 7), .mov (.c (.nilI)), none⟩])
  (.seq (.seq (.region false [⟨(some 12), .mov (.t 0), none⟩,
    ⟨(some 13), .bin .eql (.t 12) (.c (.str [])), none⟩])
  (.cond (.t 13)
   (.seq (.region false [⟨(some 14), .mki 110 (.c (.int .i64 2)), none⟩,
     ⟨(some 6), .mov (.c (.int .i64 0)), none⟩,
     ⟨(some 7), .mov (.t 14), none⟩])
   (.ret))
   (.skip)))
  (.seq (.region false [⟨(some 8), .mov (.c (.bool false)), none⟩])
  (.seq (.seq (.region false [⟨(some 15), .mov (.t 0), none⟩,
    ⟨(some 16), .idxS (.t 15) (.c (.int .i64 0)), none⟩])
  (.block 0 (.seq (.region false [⟨(some 18), .bin .eql (.t 16) (.c (.int .u8 43)), none⟩,
    ⟨(some 17), .mov (.t 18), none⟩])
  (.cond (.t 17)
   (.region false [⟨(some 19), .mov (.t 0), none⟩,
     ⟨(some 20), .ssl (.t 19) (some (.c (.int .i64 1))) none, none⟩,
     ⟨(some 0), .mov (.t 20), none⟩])
   (.seq (.region false [⟨(some 22), .bin .eql (.t 16) (.c (.int .u8 45)), none⟩,
     ⟨(some 21), .mov (.t 22), none⟩])
   (.cond (.t 21)
    (.seq (.region false [⟨(some 23), .mov (.t 0), none⟩,
      ⟨(some 24), .ssl (.t 23) (some (.c (.int .i64 1))) none, none⟩,
      ⟨(some 0), .mov (.t 24), none⟩])
    (.region false [⟨(some 8), .mov (.c (.bool true)), none⟩]))
    (.skip)))))))
  (.seq (.region false [⟨(some 9), .mov (.c (.int .u64 0)), none⟩])
  (.seq (.region false [⟨(some 26), .mov (.t 0), none⟩,
    ⟨(some 27), .mov (.t 1), none⟩,
    ⟨(some 28), .mov (.t 2), none⟩,
    ⟨(some 29), .call F_strconv_ParseUint [(.t 26), (.t 27), (.t 28)], none⟩,
    ⟨(some 25), .mov (.t 29), none⟩,
    ⟨(some 30), .extr (.t 25) 0, none⟩,
    ⟨(some 31), .extr (.t 25) 1, none⟩,
    ⟨(some 9), .mov (.t 30), none⟩,
    ⟨(some 7), .mov (.t 31), none⟩])
  (.seq (.seq (.region false [⟨(some 32), .mov (.t 7), none⟩,
    ⟨(some 33), .ifn true (.t 32), none⟩,
    ⟨(some 34), .mov (.t 33), none⟩,
    ⟨(some 35), .mov (.t 7), some (34, true)⟩,
    ⟨(some 36), .mki 110 (.c (.int .i64 1)), some (34, true)⟩,
    ⟨(some 37), .extr (.c (.nilI)) 0, some (34, true)⟩,
    ⟨(some 38), .pick (.t 34) (.t 37) (.c (.bool false)), none⟩])
  (.cond (.t 38)
   (.seq (.region false [⟨(some 39), .mov (.t 7), none⟩,
     ⟨(some 6), .mov (.c (.int .i64 0)), none⟩,
     ⟨(some 7), .mov (.t 39), none⟩])
   (.ret))
   (.skip)))
  (.seq (.seq (.region false [⟨(some 40), .mov (.t 2), none⟩,
    ⟨(some 41), .bin .eql (.t 40) (.c (.int .i64 0)), none⟩])
  (.cond (.t 41)
   (.region false [⟨(some 2), .mov (.c (.int .i64 64)), none⟩])
   (.skip)))
  (.seq (.region false [⟨(some 42), .mov (.t 2), none⟩,
    ⟨(some 43), .bin .sub (.t 42) (.c (.int .i64 1)), none⟩,
    ⟨(some 44), .conv .u64 (.t 43), none⟩,
    ⟨(some 45), .bin .shl (.c (.int .u64 1)) (.t 44), none⟩,
    ⟨(some 10), .mov (.t 45), none⟩])
  (.seq (.seq (.region false [⟨(some 46), .mov (.t 8), none⟩,
    ⟨(some 47), .not (.t 46), none⟩,
    ⟨(some 48), .mov (.t 47), none⟩,
    ⟨(some 49), .mov (.t 9), some (48, true)⟩,
    ⟨(some 50), .mov (.t 10), some (48, true)⟩,
    ⟨(some 51), .bin .geq (.t 49) (.t 50), some (48, true)⟩,
    ⟨(some 52), .pick (.t 48) (.t 51) (.c (.bool false)), none⟩])
  (.cond (.t 52)
   (.seq (.region false [⟨(some 53), .mov (.t 10), none⟩,
     ⟨(some 54), .bin .sub (.t 53) (.c (.int .u64 1)), none⟩,
     ⟨(some 55), .conv .i64 (.t 54), none⟩,
     ⟨(some 56), .mki 110 (.c (.int .i64 1)), none⟩,
     ⟨(some 6), .mov (.t 55), none⟩,
     ⟨(some 7), .mov (.t 56), none⟩])
   (.ret))
   (.skip)))
  (.seq (.seq (.region false [⟨(some 57), .mov (.t 8), none⟩,
    ⟨(some 58), .mov (.t 57), none⟩,
    ⟨(some 59), .mov (.t 9), some (58, true)⟩,
    ⟨(some 60), .mov (.t 10), some (58, true)⟩,
    ⟨(some 61), .bin .gtr (.t 59) (.t 60), some (58, true)⟩,
    ⟨(some 62), .pick (.t 58) (.t 61) (.c (.bool false)), none⟩])
  (.cond (.t 62)
   (.seq (.region false [⟨(some 63), .mov (.t 10), none⟩,
     ⟨(some 64), .conv .i64 (.t 63), none⟩,
     ⟨(some 65), .neg (.t 64), none⟩,
     ⟨(some 66), .mki 110 (.c (.int .i64 1)), none⟩,
     ⟨(some 6), .mov (.t 65), none⟩,
     ⟨(some 7), .mov (.t 66), none⟩])
   (.ret))
   (.skip)))
  (.seq (.region false [⟨(some 67), .mov (.t 9), none⟩,
    ⟨(some 68), .conv .i64 (.t 67), none⟩,
    ⟨(some 11), .mov (.t 68), none⟩])
  (.seq (.seq (.region false [⟨(some 69), .mov (.t 8), none⟩])
  (.cond (.t 69)
   (.region false [⟨(some 70), .mov (.t 11), none⟩,
     ⟨(some 71), .neg (.t 70), none⟩,
     ⟨(some 11), .mov (.t 71), none⟩])
   (.skip)))
  (.seq (.region false [⟨(some 72), .mov (.t 11), none⟩,
    ⟨(some 6), .mov (.t 72), none⟩,
    ⟨(some 7), .mov (.c (.nilI)), none⟩])
  (.ret)))))))))))))),
  [.tmp 6, .tmp 7]⟩

section
variable {X : Cx} (hX : X.P = Go.Proofs.Tryz.prog)
include hX
theorem A_lexer_reader_number_ok : compileFun X.P F_lexer_reader_number (fun _ => false) = some A_lexer_reader_number := by rw [hX]; kernel_rfl
theorem A_lexer_reader_text_ok : compileFun X.P F_lexer_reader_text (fun _ => false) = some A_lexer_reader_text := by rw [hX]; kernel_rfl
theorem A_strconv_FormatInt_ok : compileFun X.P F_strconv_FormatInt (fun _ => false) = some A_strconv_FormatInt := by rw [hX]; kernel_rfl
theorem A_lexer_quoted_ok : compileFun X.P F_lexer_quoted (fun _ => false) = some A_lexer_quoted := by rw [hX]; kernel_rfl
theorem A_ref01_Digits_ok : compileFun X.P F_ref01_Digits (fun _ => false) = some A_ref01_Digits := by rw [hX]; kernel_rfl
theorem A_ref14_quoted_ok : compileFun X.P F_ref14_quoted (fun _ => false) = some A_ref14_quoted := by rw [hX]; kernel_rfl
theorem A_ref14_mark_ok : compileFun X.P F_ref14_mark (fun _ => false) = some A_ref14_mark := by rw [hX]; kernel_rfl
theorem A_runes_Class_ok : compileFun X.P F_runes_Class (fun _ => false) = some A_runes_Class := by rw [hX]; kernel_rfl
theorem A_ref14_letter_ok : compileFun X.P F_ref14_letter (fun _ => false) = some A_ref14_letter := by rw [hX]; kernel_rfl
theorem A_ref14_digit_ok : compileFun X.P F_ref14_digit (fun _ => false) = some A_ref14_digit := by rw [hX]; kernel_rfl
theorem A_ref02_Decode_ok : compileFun X.P F_ref02_Decode (fun _ => false) = some A_ref02_Decode := by rw [hX]; kernel_rfl
theorem A_strings_HasPrefix_ok : compileFun X.P F_strings_HasPrefix (fun _ => false) = some A_strings_HasPrefix := by rw [hX]; kernel_rfl
theorem A_strconv_ParseInt_ok : compileFun X.P F_strconv_ParseInt (fun _ => false) = some A_strconv_ParseInt := by rw [hX]; kernel_rfl
theorem A_lexer_escape_ok : compileFun X.P F_lexer_escape (fun _ => false) = some A_lexer_escape := by rw [hX]; kernel_rfl
theorem A_strconv_FormatInt_45_ok : compileFun X.P F_strconv_FormatInt_45 (fun _ => false) = some A_strconv_FormatInt_45 := by rw [hX]; kernel_rfl
theorem A_ref14_code_ok : compileFun X.P F_ref14_code (fun _ => false) = some A_ref14_code := by rw [hX]; kernel_rfl
theorem A_runes_is_ok : compileFun X.P F_runes_is (fun _ => false) = some A_runes_is := by rw [hX]; kernel_rfl
theorem A_runes_classes_ok : compileFun X.P F_runes_classes (fun _ => false) = some A_runes_classes := by rw [hX]; kernel_rfl
theorem A_strings_ContainsRune_ok : compileFun X.P F_strings_ContainsRune (fun _ => false) = some A_strings_ContainsRune := by rw [hX]; kernel_rfl
theorem A_ref02_stands_ok : compileFun X.P F_ref02_stands (fun _ => false) = some A_ref02_stands := by rw [hX]; kernel_rfl
theorem A_ref02_begins_ok : compileFun X.P F_ref02_begins (fun _ => false) = some A_ref02_begins := by rw [hX]; kernel_rfl
theorem A_stringslite_HasPrefix_ok : compileFun X.P F_stringslite_HasPrefix (fun _ => false) = some A_stringslite_HasPrefix := by rw [hX]; kernel_rfl
theorem A_strconv_ParseInt_53_ok : compileFun X.P F_strconv_ParseInt_53 (fun _ => false) = some A_strconv_ParseInt_53 := by rw [hX]; kernel_rfl
end
end Go.Avm
