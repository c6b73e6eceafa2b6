/- Contracts of the functions that the statements reach. -/
import Derived.Test.YtpdhdilhlkpiaaaDoorM9
import Derived.Test.YtpdhdilhlkpiaaaDoorProg
set_option linter.unusedSectionVars false
set_option linter.unusedSimpArgs false
set_option linter.unusedVariables false

namespace Go.Avm
open Go
/- invigilator/invigilatorlaw02.RunesDecodes -/
def A3 : AFun := ⟨97,
  .seq (.region false [⟨(some 6), .mov (.c (.bool false)), none⟩])
  (.seq (.seq (.region false [⟨(some 21), .mov (.t 0), none⟩,
    ⟨(some 22), .len (.t 21), none⟩,
    ⟨(some 23), .bin .gtr (.t 22) (.c (.int .i64 200)), none⟩])
  (.cond (.t 23)
   (.seq (.region false [⟨(some 24), .call 11 [], none⟩,
     ⟨(some 6), .mov (.t 24), none⟩])
   (.ret))
   (.skip)))
  (.seq (.region false [⟨(some 26), .mov (.t 0), none⟩,
    ⟨(some 27), .mov (.t 1), none⟩,
    ⟨(some 28), .call 12 [(.t 26), (.t 27)], none⟩,
    ⟨(some 25), .mov (.t 28), none⟩,
    ⟨(some 29), .extr (.t 25) 0, none⟩,
    ⟨(some 30), .extr (.t 25) 1, none⟩,
    ⟨(some 31), .extr (.t 25) 2, none⟩,
    ⟨(some 7), .mov (.t 29), none⟩,
    ⟨(some 8), .mov (.t 30), none⟩,
    ⟨(some 9), .mov (.t 31), none⟩])
  (.seq (.region false [⟨(some 33), .mov (.t 0), none⟩,
    ⟨(some 34), .mov (.t 1), none⟩,
    ⟨(some 35), .call 13 [(.t 33), (.t 34)], none⟩,
    ⟨(some 32), .mov (.t 35), none⟩,
    ⟨(some 36), .extr (.t 32) 0, none⟩,
    ⟨(some 37), .extr (.t 32) 1, none⟩,
    ⟨(some 38), .extr (.t 32) 2, none⟩,
    ⟨(some 10), .mov (.t 36), none⟩,
    ⟨(some 11), .mov (.t 37), none⟩,
    ⟨(some 12), .mov (.t 38), none⟩])
  (.seq (.region false [⟨(some 40), .mov (.t 2), none⟩,
    ⟨(some 41), .call 14 [(.t 40)], none⟩,
    ⟨(some 39), .mov (.t 41), none⟩,
    ⟨(some 42), .extr (.t 39) 0, none⟩,
    ⟨(some 43), .extr (.t 39) 1, none⟩,
    ⟨(some 13), .mov (.t 42), none⟩,
    ⟨(some 14), .mov (.t 43), none⟩])
  (.seq (.region false [⟨(some 45), .mov (.t 2), none⟩,
    ⟨(some 46), .call 15 [(.t 45)], none⟩,
    ⟨(some 44), .mov (.t 46), none⟩,
    ⟨(some 47), .extr (.t 44) 0, none⟩,
    ⟨(some 48), .extr (.t 44) 1, none⟩,
    ⟨(some 15), .mov (.t 47), none⟩,
    ⟨(some 16), .mov (.t 48), none⟩])
  (.seq (.region false [⟨(some 50), .mov (.t 2), none⟩,
    ⟨(some 51), .call 16 [(.t 50)], none⟩,
    ⟨(some 49), .mov (.t 51), none⟩,
    ⟨(some 52), .extr (.t 49) 0, none⟩,
    ⟨(some 53), .extr (.t 49) 1, none⟩,
    ⟨(some 17), .mov (.t 52), none⟩,
    ⟨(some 18), .mov (.t 53), none⟩])
  (.seq (.region false [⟨(some 55), .mov (.t 2), none⟩,
    ⟨(some 56), .call 17 [(.t 55)], none⟩,
    ⟨(some 54), .mov (.t 56), none⟩,
    ⟨(some 57), .extr (.t 54) 0, none⟩,
    ⟨(some 58), .extr (.t 54) 1, none⟩,
    ⟨(some 19), .mov (.t 57), none⟩,
    ⟨(some 20), .mov (.t 58), none⟩])
  (.seq (.region false [⟨(some 59), .mov (.t 7), none⟩,
    ⟨(some 60), .mov (.t 10), none⟩,
    ⟨(some 61), .bin .eql (.t 59) (.t 60), none⟩,
    ⟨(some 62), .mov (.t 61), none⟩,
    ⟨(some 63), .mov (.t 8), some (62, true)⟩,
    ⟨(some 64), .mov (.t 11), some (62, true)⟩,
    ⟨(some 65), .bin .eql (.t 63) (.t 64), some (62, true)⟩,
    ⟨(some 66), .pick (.t 62) (.t 65) (.c (.bool false)), none⟩,
    ⟨(some 67), .mov (.t 66), none⟩,
    ⟨(some 68), .mov (.t 9), some (67, true)⟩,
    ⟨(some 69), .mov (.t 12), some (67, true)⟩,
    ⟨(some 70), .bin .eql (.t 68) (.t 69), some (67, true)⟩,
    ⟨(some 71), .pick (.t 67) (.t 70) (.c (.bool false)), none⟩,
    ⟨(some 72), .mov (.t 71), none⟩,
    ⟨(some 73), .mov (.t 13), some (72, true)⟩,
    ⟨(some 74), .b2s (.t 73), some (72, true)⟩,
    ⟨(some 75), .mov (.t 15), some (72, true)⟩,
    ⟨(some 76), .b2s (.t 75), some (72, true)⟩,
    ⟨(some 77), .bin .eql (.t 74) (.t 76), some (72, true)⟩,
    ⟨(some 78), .pick (.t 72) (.t 77) (.c (.bool false)), none⟩,
    ⟨(some 79), .mov (.t 78), none⟩,
    ⟨(some 80), .mov (.t 14), some (79, true)⟩,
    ⟨(some 81), .mov (.t 16), some (79, true)⟩,
    ⟨(some 82), .bin .eql (.t 80) (.t 81), some (79, true)⟩,
    ⟨(some 83), .pick (.t 79) (.t 82) (.c (.bool false)), none⟩,
    ⟨(some 84), .mov (.t 83), none⟩,
    ⟨(some 85), .mov (.t 17), some (84, true)⟩,
    ⟨(some 86), .mov (.t 19), some (84, true)⟩,
    ⟨(some 87), .bin .eql (.t 85) (.t 86), some (84, true)⟩,
    ⟨(some 88), .pick (.t 84) (.t 87) (.c (.bool false)), none⟩,
    ⟨(some 89), .mov (.t 88), none⟩,
    ⟨(some 90), .mov (.t 18), some (89, true)⟩,
    ⟨(some 91), .mov (.t 20), some (89, true)⟩,
    ⟨(some 92), .bin .eql (.t 90) (.t 91), some (89, true)⟩,
    ⟨(some 93), .pick (.t 89) (.t 92) (.c (.bool false)), none⟩,
    ⟨(some 94), .mov (.t 93), none⟩,
    ⟨(some 95), .call 11 [], some (94, true)⟩,
    ⟨(some 96), .pick (.t 94) (.t 95) (.c (.bool false)), none⟩,
    ⟨(some 6), .mov (.t 96), none⟩])
  (.ret))))))))),
  [.tmp 6]⟩

/- invigilator/invigilatorlaw02.RunesClasses -/
def A4L1 : ACode :=
  .seq (.seq (.region false [⟨(some 55), .mov (.t 10), none⟩,
    ⟨(some 56), .mov (.t 8), none⟩,
    ⟨(some 57), .idxP 10 1 (.t 7) (.t 56), none⟩,
    ⟨(some 58), .ld none (.t 57), none⟩,
    ⟨(some 59), .lenS (.t 58), none⟩,
    ⟨(some 60), .bin .lss (.t 55) (.t 59), none⟩])
  (.cond (.t 60)
   (.skip)
   (.exit 2)))
  (.seq (.block 3 (.region false [⟨(some 63), .mov (.t 9), none⟩,
    ⟨(some 64), .mov (.t 63), none⟩,
    ⟨(some 65), .mov (.t 8), some (64, false)⟩,
    ⟨(some 66), .idxP 10 1 (.t 7) (.t 65), some (64, false)⟩,
    ⟨(some 67), .ld none (.t 66), some (64, false)⟩,
    ⟨(some 68), .mov (.t 10), some (64, false)⟩,
    ⟨(some 69), .idxS (.t 67) (.t 68), some (64, false)⟩,
    ⟨(some 70), .conv .i64 (.t 69), some (64, false)⟩,
    ⟨(some 71), .mov (.t 0), some (64, false)⟩,
    ⟨(some 72), .bin .eql (.t 70) (.t 71), some (64, false)⟩,
    ⟨(some 73), .pick (.t 64) (.c (.bool true)) (.t 72), none⟩,
    ⟨(some 9), .mov (.t 73), none⟩]))
  (.region false [⟨(some 61), .mov (.t 10), none⟩,
    ⟨(some 62), .bin .add (.t 61) (.c (.int .i64 1)), none⟩,
    ⟨(some 10), .mov (.t 62), none⟩]))
def A4L0 : ACode :=
  .seq (.seq (.region false [⟨(some 51), .mov (.t 8), none⟩,
    ⟨(some 52), .bin .lss (.t 51) (.c (.int .i64 10)), none⟩])
  (.cond (.t 52)
   (.skip)
   (.exit 0)))
  (.seq (.block 1 (.seq (.region false [⟨(some 9), .mov (.c (.bool false)), none⟩])
  (.seq (.seq (.region false [⟨(some 10), .mov (.c (.int .i64 0)), none⟩])
  (.block 2 (.loop A4L1)))
  (.seq (.region false [⟨(some 74), .mov (.t 9), none⟩,
    ⟨(some 75), .mov (.t 3), none⟩,
    ⟨(some 76), .mov (.t 8), none⟩,
    ⟨(some 77), .bin .eql (.t 75) (.t 76), none⟩,
    ⟨(some 78), .beq true (.t 74) (.t 77), none⟩])
  (.cond (.t 78)
   (.seq (.region false [⟨(some 2), .mov (.c (.bool false)), none⟩])
   (.ret))
   (.skip))))))
  (.region false [⟨(some 53), .mov (.t 8), none⟩,
    ⟨(some 54), .bin .add (.t 53) (.c (.int .i64 1)), none⟩,
    ⟨(some 8), .mov (.t 54), none⟩]))
def A4 : AFun := ⟨80,
  .seq (.region false [⟨(some 2), .mov (.c (.bool false)), none⟩])
  (.seq (.region false [⟨(some 12), .mov (.t 0), none⟩,
    ⟨(some 13), .call 16 [(.t 12)], none⟩,
    ⟨(some 11), .mov (.t 13), none⟩,
    ⟨(some 14), .extr (.t 11) 0, none⟩,
    ⟨(some 15), .extr (.t 11) 1, none⟩,
    ⟨(some 3), .mov (.t 14), none⟩,
    ⟨(some 4), .mov (.t 15), none⟩])
  (.seq (.region false [⟨(some 17), .mov (.t 0), none⟩,
    ⟨(some 18), .call 14 [(.t 17)], none⟩,
    ⟨(some 16), .mov (.t 18), none⟩,
    ⟨(some 19), .extr (.t 16) 0, none⟩,
    ⟨(some 20), .extr (.t 16) 1, none⟩,
    ⟨(some 5), .mov (.t 19), none⟩,
    ⟨(some 6), .mov (.t 20), none⟩])
  (.seq (.seq (.region false [⟨(some 21), .mov (.t 4), none⟩,
    ⟨(some 22), .mov (.t 6), none⟩,
    ⟨(some 23), .bin .neq (.t 21) (.t 22), none⟩,
    ⟨(some 24), .mov (.t 23), none⟩,
    ⟨(some 25), .mov (.t 4), some (24, false)⟩,
    ⟨(some 26), .bin .eql (.t 25) (.c (.int .i64 0)), some (24, false)⟩,
    ⟨(some 27), .mov (.t 3), some (24, false)⟩,
    ⟨(some 28), .bin .geq (.t 27) (.c (.int .i64 1)), some (24, false)⟩,
    ⟨(some 29), .mov (.t 28), some (24, false)⟩,
    ⟨(some 30), .mov (.t 3), some (29, true)⟩,
    ⟨(some 31), .bin .leq (.t 30) (.c (.int .i64 10)), some (29, true)⟩,
    ⟨(some 32), .pick (.t 29) (.t 31) (.c (.bool false)), some (24, false)⟩,
    ⟨(some 33), .beq true (.t 26) (.t 32), some (24, false)⟩,
    ⟨(some 34), .pick (.t 24) (.c (.bool true)) (.t 33), none⟩])
  (.cond (.t 34)
   (.seq (.region false [⟨(some 2), .mov (.c (.bool false)), none⟩])
   (.ret))
   (.skip)))
  (.seq (.seq (.region false [⟨(some 35), .mov (.t 4), none⟩,
    ⟨(some 36), .bin .neq (.t 35) (.c (.int .i64 0)), none⟩,
    ⟨(some 37), .mov (.t 36), none⟩,
    ⟨(some 38), .mov (.t 0), some (37, false)⟩,
    ⟨(some 39), .bin .geq (.t 38) (.c (.int .i64 128)), some (37, false)⟩,
    ⟨(some 40), .pick (.t 37) (.c (.bool true)) (.t 39), none⟩])
  (.cond (.t 40)
   (.seq (.region false [⟨(some 41), .mov (.t 4), none⟩,
     ⟨(some 42), .bin .neq (.t 41) (.c (.int .i64 0)), none⟩,
     ⟨(some 43), .mov (.t 42), none⟩,
     ⟨(some 44), .mov (.t 3), some (43, false)⟩,
     ⟨(some 45), .bin .eql (.t 44) (.c (.int .i64 10)), some (43, false)⟩,
     ⟨(some 46), .pick (.t 43) (.c (.bool true)) (.t 45), none⟩,
     ⟨(some 47), .mov (.t 46), none⟩,
     ⟨(some 48), .call 11 [], some (47, true)⟩,
     ⟨(some 49), .pick (.t 47) (.t 48) (.c (.bool false)), none⟩,
     ⟨(some 2), .mov (.t 49), none⟩])
   (.ret))
   (.skip)))
  (.seq (.region false [⟨(some 50), .build [.str [], .str [], .str [], .str [], .str [], .str [], .str [], .str [], .str [], .str []] [(1, 1, (.c (.str [32]))), (2, 1, (.c (.str [10]))), (3, 1, (.c (.str [40, 91]))), (4, 1, (.c (.str [93, 41]))), (5, 1, (.c (.str [34]))), (6, 1, (.c (.str [48, 49, 50, 51, 52, 53, 54, 55, 56, 57]))), (7, 1, (.c (.str [45]))), (8, 1, (.c (.str [97, 98, 99, 100, 101, 102, 103, 104, 105, 106, 107, 108, 109, 110, 111, 112, 113, 114, 115, 116, 117, 118, 119, 120, 121, 122]))), (9, 1, (.c (.str [61, 60])))], none⟩,
    ⟨(some 7), .alloc [.str [], .str [], .str [], .str [], .str [], .str [], .str [], .str [], .str [], .str []], none⟩,
    ⟨none, .st 10 (.t 7) (.t 50), none⟩])
  (.seq (.seq (.region false [⟨(some 8), .mov (.c (.int .i64 1)), none⟩])
  (.block 0 (.loop A4L0)))
  (.seq (.region false [⟨(some 79), .call 11 [], none⟩,
    ⟨(some 2), .mov (.t 79), none⟩])
  (.ret)))))))),
  [.tmp 2]⟩

/- invigilator/invigilatorlaw02.RunesJoins -/
def A5 : AFun := ⟨131,
  .seq (.region false [⟨(some 4), .mov (.c (.bool false)), none⟩])
  (.seq (.seq (.region false [⟨(some 18), .mov (.t 0), none⟩,
    ⟨(some 19), .len (.t 18), none⟩,
    ⟨(some 20), .bin .gtr (.t 19) (.c (.int .i64 200)), none⟩,
    ⟨(some 21), .mov (.t 20), none⟩,
    ⟨(some 22), .mov (.t 1), some (21, false)⟩,
    ⟨(some 23), .len (.t 22), some (21, false)⟩,
    ⟨(some 24), .bin .gtr (.t 23) (.c (.int .i64 200)), some (21, false)⟩,
    ⟨(some 25), .pick (.t 21) (.c (.bool true)) (.t 24), none⟩])
  (.cond (.t 25)
   (.seq (.region false [⟨(some 26), .call 11 [], none⟩,
     ⟨(some 4), .mov (.t 26), none⟩])
   (.ret))
   (.skip)))
  (.seq (.region false [⟨(some 28), .mov (.t 0), none⟩,
    ⟨(some 29), .call 18 [(.t 28)], none⟩,
    ⟨(some 27), .mov (.t 29), none⟩,
    ⟨(some 30), .extr (.t 27) 0, none⟩,
    ⟨(some 31), .extr (.t 27) 1, none⟩,
    ⟨(some 5), .mov (.t 30), none⟩,
    ⟨(some 6), .mov (.t 31), none⟩])
  (.seq (.region false [⟨(some 33), .mov (.t 1), none⟩,
    ⟨(some 34), .call 18 [(.t 33)], none⟩,
    ⟨(some 32), .mov (.t 34), none⟩,
    ⟨(some 35), .extr (.t 32) 0, none⟩,
    ⟨(some 36), .extr (.t 32) 1, none⟩,
    ⟨(some 7), .mov (.t 35), none⟩,
    ⟨(some 8), .mov (.t 36), none⟩])
  (.seq (.region false [⟨(some 37), .bsl 1 (.int .u8 0) 0 [], none⟩,
    ⟨(some 38), .mov (.t 0), none⟩,
    ⟨(some 39), .app 1 1 (.t 37) (.t 38), none⟩,
    ⟨(some 40), .mov (.t 1), none⟩,
    ⟨(some 41), .app 1 1 (.t 39) (.t 40), none⟩,
    ⟨(some 9), .mov (.t 41), none⟩])
  (.seq (.region false [⟨(some 43), .mov (.t 9), none⟩,
    ⟨(some 44), .call 18 [(.t 43)], none⟩,
    ⟨(some 42), .mov (.t 44), none⟩,
    ⟨(some 45), .extr (.t 42) 0, none⟩,
    ⟨(some 46), .extr (.t 42) 1, none⟩,
    ⟨(some 10), .mov (.t 45), none⟩,
    ⟨(some 11), .mov (.t 46), none⟩])
  (.seq (.region false [⟨(some 48), .mov (.t 9), none⟩,
    ⟨(some 49), .call 19 [(.t 48)], none⟩,
    ⟨(some 47), .mov (.t 49), none⟩,
    ⟨(some 50), .extr (.t 47) 0, none⟩,
    ⟨(some 51), .extr (.t 47) 1, none⟩,
    ⟨(some 12), .mov (.t 50), none⟩,
    ⟨(some 13), .mov (.t 51), none⟩])
  (.seq (.seq (.region false [⟨(some 52), .mov (.t 6), none⟩,
    ⟨(some 53), .bin .neq (.t 52) (.c (.int .i64 0)), none⟩,
    ⟨(some 54), .mov (.t 53), none⟩,
    ⟨(some 55), .mov (.t 8), some (54, false)⟩,
    ⟨(some 56), .bin .neq (.t 55) (.c (.int .i64 0)), some (54, false)⟩,
    ⟨(some 57), .pick (.t 54) (.c (.bool true)) (.t 56), none⟩])
  (.cond (.t 57)
   (.seq (.region false [⟨(some 58), .mov (.t 6), none⟩,
     ⟨(some 59), .bin .eql (.t 58) (.c (.int .i64 0)), none⟩,
     ⟨(some 60), .mov (.t 59), none⟩,
     ⟨(some 61), .mov (.t 6), some (60, false)⟩,
     ⟨(some 62), .bin .eql (.t 61) (.c (.int .i64 370)), some (60, false)⟩,
     ⟨(some 63), .pick (.t 60) (.c (.bool true)) (.t 62), none⟩,
     ⟨(some 64), .mov (.t 63), none⟩,
     ⟨(some 65), .mov (.t 11), some (64, false)⟩,
     ⟨(some 66), .mov (.t 6), some (64, false)⟩,
     ⟨(some 67), .bin .eql (.t 65) (.t 66), some (64, false)⟩,
     ⟨(some 68), .pick (.t 64) (.c (.bool true)) (.t 67), none⟩,
     ⟨(some 69), .mov (.t 68), none⟩,
     ⟨(some 70), .call 11 [], some (69, true)⟩,
     ⟨(some 71), .pick (.t 69) (.t 70) (.c (.bool false)), none⟩,
     ⟨(some 4), .mov (.t 71), none⟩])
   (.ret))
   (.skip)))
  (.seq (.region false [⟨(some 73), .mov (.t 0), none⟩,
    ⟨(some 74), .call 20 [(.t 73)], none⟩,
    ⟨(some 72), .mov (.t 74), none⟩,
    ⟨(some 75), .extr (.t 72) 0, none⟩,
    ⟨(some 76), .extr (.t 72) 1, none⟩,
    ⟨(some 14), .mov (.t 75), none⟩,
    ⟨(some 15), .mov (.t 76), none⟩])
  (.seq (.region false [⟨(some 78), .mov (.t 9), none⟩,
    ⟨(some 79), .call 20 [(.t 78)], none⟩,
    ⟨(some 77), .mov (.t 79), none⟩,
    ⟨(some 80), .extr (.t 77) 0, none⟩,
    ⟨(some 81), .extr (.t 77) 1, none⟩,
    ⟨(some 16), .mov (.t 80), none⟩,
    ⟨(some 17), .mov (.t 81), none⟩])
  (.seq (.seq (.region false [⟨(some 82), .mov (.t 11), none⟩,
    ⟨(some 83), .bin .neq (.t 82) (.c (.int .i64 0)), none⟩,
    ⟨(some 84), .mov (.t 83), none⟩,
    ⟨(some 85), .mov (.t 13), some (84, false)⟩,
    ⟨(some 86), .bin .neq (.t 85) (.c (.int .i64 0)), some (84, false)⟩,
    ⟨(some 87), .pick (.t 84) (.c (.bool true)) (.t 86), none⟩,
    ⟨(some 88), .mov (.t 87), none⟩,
    ⟨(some 89), .mov (.t 12), some (88, false)⟩,
    ⟨(some 90), .mov (.t 5), some (88, false)⟩,
    ⟨(some 91), .len (.t 90), some (88, false)⟩,
    ⟨(some 92), .mov (.t 7), some (88, false)⟩,
    ⟨(some 93), .len (.t 92), some (88, false)⟩,
    ⟨(some 94), .bin .add (.t 91) (.t 93), some (88, false)⟩,
    ⟨(some 95), .bin .neq (.t 89) (.t 94), some (88, false)⟩,
    ⟨(some 96), .pick (.t 88) (.c (.bool true)) (.t 95), none⟩,
    ⟨(some 97), .mov (.t 96), none⟩,
    ⟨(some 98), .mov (.t 10), some (97, false)⟩,
    ⟨(some 99), .bsl 1 (.int .i64 0) 0 [], some (97, false)⟩,
    ⟨(some 100), .mov (.t 5), some (97, false)⟩,
    ⟨(some 101), .app 1 8 (.t 99) (.t 100), some (97, false)⟩,
    ⟨(some 102), .mov (.t 7), some (97, false)⟩,
    ⟨(some 103), .app 1 8 (.t 101) (.t 102), some (97, false)⟩,
    ⟨(some 104), .call 21 [(.t 98), (.t 103)], some (97, false)⟩,
    ⟨(some 105), .not (.t 104), some (97, false)⟩,
    ⟨(some 106), .pick (.t 97) (.c (.bool true)) (.t 105), none⟩])
  (.cond (.t 106)
   (.seq (.region false [⟨(some 4), .mov (.c (.bool false)), none⟩])
   (.ret))
   (.skip)))
  (.seq (.region false [⟨(some 107), .mov (.t 15), none⟩,
    ⟨(some 108), .bin .eql (.t 107) (.c (.int .i64 0)), none⟩,
    ⟨(some 109), .mov (.t 108), none⟩,
    ⟨(some 110), .mov (.t 17), some (109, true)⟩,
    ⟨(some 111), .bin .eql (.t 110) (.c (.int .i64 0)), some (109, true)⟩,
    ⟨(some 112), .pick (.t 109) (.t 111) (.c (.bool false)), none⟩,
    ⟨(some 113), .mov (.t 112), none⟩,
    ⟨(some 114), .mov (.t 16), some (113, true)⟩,
    ⟨(some 115), .len (.t 114), some (113, true)⟩,
    ⟨(some 116), .mov (.t 14), some (113, true)⟩,
    ⟨(some 117), .len (.t 116), some (113, true)⟩,
    ⟨(some 118), .bin .geq (.t 115) (.t 117), some (113, true)⟩,
    ⟨(some 119), .pick (.t 113) (.t 118) (.c (.bool false)), none⟩,
    ⟨(some 120), .mov (.t 119), none⟩,
    ⟨(some 121), .mov (.t 16), some (120, true)⟩,
    ⟨(some 122), .mov (.t 14), some (120, true)⟩,
    ⟨(some 123), .len (.t 122), some (120, true)⟩,
    ⟨(some 124), .sls 1 (.t 121) none (some (.t 123)) none, some (120, true)⟩,
    ⟨(some 125), .mov (.t 14), some (120, true)⟩,
    ⟨(some 126), .call 22 [(.t 124), (.t 125)], some (120, true)⟩,
    ⟨(some 127), .pick (.t 120) (.t 126) (.c (.bool false)), none⟩,
    ⟨(some 128), .mov (.t 127), none⟩,
    ⟨(some 129), .call 11 [], some (128, true)⟩,
    ⟨(some 130), .pick (.t 128) (.t 129) (.c (.bool false)), none⟩,
    ⟨(some 4), .mov (.t 130), none⟩])
  (.ret)))))))))))),
  [.tmp 4]⟩

/- invigilator/invigilatorlaw02.RunesStarts -/
def A6 : AFun := ⟨96,
  .seq (.region false [⟨(some 4), .mov (.c (.bool false)), none⟩])
  (.seq (.seq (.region false [⟨(some 17), .mov (.t 0), none⟩,
    ⟨(some 18), .len (.t 17), none⟩,
    ⟨(some 19), .bin .gtr (.t 18) (.c (.int .i64 200)), none⟩,
    ⟨(some 20), .mov (.t 19), none⟩,
    ⟨(some 21), .mov (.t 0), some (20, true)⟩,
    ⟨(some 22), .len (.t 21), some (20, true)⟩,
    ⟨(some 23), .bin .leq (.t 22) (.c (.int .i64 8000)), some (20, true)⟩,
    ⟨(some 24), .pick (.t 20) (.t 23) (.c (.bool false)), none⟩,
    ⟨(some 25), .mov (.t 24), none⟩,
    ⟨(some 26), .mov (.t 0), some (25, false)⟩,
    ⟨(some 27), .len (.t 26), some (25, false)⟩,
    ⟨(some 28), .bin .gtr (.t 27) (.c (.int .i64 8100)), some (25, false)⟩,
    ⟨(some 29), .pick (.t 25) (.c (.bool true)) (.t 28), none⟩])
  (.cond (.t 29)
   (.seq (.region false [⟨(some 30), .call 11 [], none⟩,
     ⟨(some 4), .mov (.t 30), none⟩])
   (.ret))
   (.skip)))
  (.seq (.region false [⟨(some 32), .mov (.t 0), none⟩,
    ⟨(some 33), .call 20 [(.t 32)], none⟩,
    ⟨(some 31), .mov (.t 33), none⟩,
    ⟨(some 34), .extr (.t 31) 0, none⟩,
    ⟨(some 35), .extr (.t 31) 1, none⟩,
    ⟨(some 5), .mov (.t 34), none⟩,
    ⟨(some 6), .mov (.t 35), none⟩])
  (.seq (.region false [⟨(some 37), .mov (.t 0), none⟩,
    ⟨(some 38), .call 23 [(.t 37)], none⟩,
    ⟨(some 36), .mov (.t 38), none⟩,
    ⟨(some 39), .extr (.t 36) 0, none⟩,
    ⟨(some 40), .extr (.t 36) 1, none⟩,
    ⟨(some 7), .mov (.t 39), none⟩,
    ⟨(some 8), .mov (.t 40), none⟩])
  (.seq (.region false [⟨(some 42), .mov (.t 0), none⟩,
    ⟨(some 43), .mov (.t 1), none⟩,
    ⟨(some 44), .call 24 [(.t 42), (.t 43)], none⟩,
    ⟨(some 41), .mov (.t 44), none⟩,
    ⟨(some 45), .extr (.t 41) 0, none⟩,
    ⟨(some 46), .extr (.t 41) 1, none⟩,
    ⟨(some 9), .mov (.t 45), none⟩,
    ⟨(some 10), .mov (.t 46), none⟩])
  (.seq (.region false [⟨(some 48), .mov (.t 0), none⟩,
    ⟨(some 49), .mov (.t 1), none⟩,
    ⟨(some 50), .call 25 [(.t 48), (.t 49)], none⟩,
    ⟨(some 47), .mov (.t 50), none⟩,
    ⟨(some 51), .extr (.t 47) 0, none⟩,
    ⟨(some 52), .extr (.t 47) 1, none⟩,
    ⟨(some 11), .mov (.t 51), none⟩,
    ⟨(some 12), .mov (.t 52), none⟩])
  (.seq (.region false [⟨(some 54), .mov (.t 0), none⟩,
    ⟨(some 55), .mov (.t 1), none⟩,
    ⟨(some 56), .call 26 [(.t 54), (.t 55)], none⟩,
    ⟨(some 53), .mov (.t 56), none⟩,
    ⟨(some 57), .extr (.t 53) 0, none⟩,
    ⟨(some 58), .extr (.t 53) 1, none⟩,
    ⟨(some 13), .mov (.t 57), none⟩,
    ⟨(some 14), .mov (.t 58), none⟩])
  (.seq (.region false [⟨(some 60), .mov (.t 0), none⟩,
    ⟨(some 61), .mov (.t 1), none⟩,
    ⟨(some 62), .call 27 [(.t 60), (.t 61)], none⟩,
    ⟨(some 59), .mov (.t 62), none⟩,
    ⟨(some 63), .extr (.t 59) 0, none⟩,
    ⟨(some 64), .extr (.t 59) 1, none⟩,
    ⟨(some 15), .mov (.t 63), none⟩,
    ⟨(some 16), .mov (.t 64), none⟩])
  (.seq (.region false [⟨(some 65), .mov (.t 5), none⟩,
    ⟨(some 66), .mov (.t 7), none⟩,
    ⟨(some 67), .call 22 [(.t 65), (.t 66)], none⟩,
    ⟨(some 68), .mov (.t 67), none⟩,
    ⟨(some 69), .mov (.t 6), some (68, true)⟩,
    ⟨(some 70), .mov (.t 8), some (68, true)⟩,
    ⟨(some 71), .bin .eql (.t 69) (.t 70), some (68, true)⟩,
    ⟨(some 72), .pick (.t 68) (.t 71) (.c (.bool false)), none⟩,
    ⟨(some 73), .mov (.t 72), none⟩,
    ⟨(some 74), .mov (.t 9), some (73, true)⟩,
    ⟨(some 75), .mov (.t 11), some (73, true)⟩,
    ⟨(some 76), .beq false (.t 74) (.t 75), some (73, true)⟩,
    ⟨(some 77), .pick (.t 73) (.t 76) (.c (.bool false)), none⟩,
    ⟨(some 78), .mov (.t 77), none⟩,
    ⟨(some 79), .mov (.t 10), some (78, true)⟩,
    ⟨(some 80), .mov (.t 12), some (78, true)⟩,
    ⟨(some 81), .bin .eql (.t 79) (.t 80), some (78, true)⟩,
    ⟨(some 82), .pick (.t 78) (.t 81) (.c (.bool false)), none⟩,
    ⟨(some 83), .mov (.t 82), none⟩,
    ⟨(some 84), .mov (.t 13), some (83, true)⟩,
    ⟨(some 85), .mov (.t 15), some (83, true)⟩,
    ⟨(some 86), .bin .eql (.t 84) (.t 85), some (83, true)⟩,
    ⟨(some 87), .pick (.t 83) (.t 86) (.c (.bool false)), none⟩,
    ⟨(some 88), .mov (.t 87), none⟩,
    ⟨(some 89), .mov (.t 14), some (88, true)⟩,
    ⟨(some 90), .mov (.t 16), some (88, true)⟩,
    ⟨(some 91), .bin .eql (.t 89) (.t 90), some (88, true)⟩,
    ⟨(some 92), .pick (.t 88) (.t 91) (.c (.bool false)), none⟩,
    ⟨(some 93), .mov (.t 92), none⟩,
    ⟨(some 94), .call 11 [], some (93, true)⟩,
    ⟨(some 95), .pick (.t 93) (.t 94) (.c (.bool false)), none⟩,
    ⟨(some 4), .mov (.t 95), none⟩])
  (.ret))))))))),
  [.tmp 4]⟩

/- invigilator/invigilatorlaw02.RunesOrder -/
def A7L0 : ACode :=
  .seq (.seq (.region false [⟨(some 73), .mov (.t 13), none⟩,
    ⟨(some 74), .mov (.t 2), none⟩,
    ⟨(some 75), .len (.t 74), none⟩,
    ⟨(some 76), .bin .leq (.t 73) (.t 75), none⟩])
  (.cond (.t 76)
   (.skip)
   (.exit 0)))
  (.seq (.block 1 (.seq (.region false [⟨(some 80), .mov (.t 2), none⟩,
    ⟨(some 81), .mov (.t 13), none⟩,
    ⟨(some 82), .call 24 [(.t 80), (.t 81)], none⟩,
    ⟨(some 79), .mov (.t 82), none⟩,
    ⟨(some 83), .extr (.t 79) 0, none⟩,
    ⟨(some 84), .extr (.t 79) 1, none⟩,
    ⟨(some 14), .mov (.t 83), none⟩,
    ⟨(some 15), .mov (.t 84), none⟩])
  (.seq (.region false [⟨(some 86), .mov (.t 2), none⟩,
    ⟨(some 87), .mov (.t 13), none⟩,
    ⟨(some 88), .call 26 [(.t 86), (.t 87)], none⟩,
    ⟨(some 85), .mov (.t 88), none⟩,
    ⟨(some 89), .extr (.t 85) 0, none⟩,
    ⟨(some 90), .extr (.t 85) 1, none⟩,
    ⟨(some 16), .mov (.t 89), none⟩,
    ⟨(some 17), .mov (.t 90), none⟩])
  (.seq (.region false [⟨(some 92), .mov (.t 2), none⟩,
    ⟨(some 93), .mov (.t 13), none⟩,
    ⟨(some 94), .sls 1 (.t 92) none (some (.t 93)) none, none⟩,
    ⟨(some 95), .call 28 [(.t 94)], none⟩,
    ⟨(some 91), .mov (.t 95), none⟩,
    ⟨(some 96), .extr (.t 91) 0, none⟩,
    ⟨(some 97), .extr (.t 91) 1, none⟩,
    ⟨(some 18), .mov (.t 96), none⟩,
    ⟨(some 19), .mov (.t 97), none⟩])
  (.seq (.region false [⟨(some 99), .mov (.t 2), none⟩,
    ⟨(some 100), .mov (.t 13), none⟩,
    ⟨(some 101), .sls 1 (.t 99) (some (.t 100)) none none, none⟩,
    ⟨(some 102), .call 28 [(.t 101)], none⟩,
    ⟨(some 98), .mov (.t 102), none⟩,
    ⟨(some 103), .extr (.t 98) 0, none⟩,
    ⟨(some 104), .extr (.t 98) 1, none⟩,
    ⟨(some 20), .mov (.t 103), none⟩,
    ⟨(some 21), .mov (.t 104), none⟩])
  (.seq (.seq (.region false [⟨(some 105), .mov (.t 15), none⟩,
    ⟨(some 106), .bin .neq (.t 105) (.c (.int .i64 0)), none⟩,
    ⟨(some 107), .mov (.t 106), none⟩,
    ⟨(some 108), .mov (.t 17), some (107, false)⟩,
    ⟨(some 109), .bin .neq (.t 108) (.c (.int .i64 0)), some (107, false)⟩,
    ⟨(some 110), .pick (.t 107) (.c (.bool true)) (.t 109), none⟩,
    ⟨(some 111), .mov (.t 110), none⟩,
    ⟨(some 112), .mov (.t 14), some (111, false)⟩,
    ⟨(some 113), .mov (.t 19), some (111, false)⟩,
    ⟨(some 114), .bin .eql (.t 113) (.c (.int .i64 0)), some (111, false)⟩,
    ⟨(some 115), .mov (.t 114), some (111, false)⟩,
    ⟨(some 116), .mov (.t 21), some (115, true)⟩,
    ⟨(some 117), .bin .eql (.t 116) (.c (.int .i64 0)), some (115, true)⟩,
    ⟨(some 118), .pick (.t 115) (.t 117) (.c (.bool false)), some (111, false)⟩,
    ⟨(some 119), .beq true (.t 112) (.t 118), some (111, false)⟩,
    ⟨(some 120), .pick (.t 111) (.c (.bool true)) (.t 119), none⟩,
    ⟨(some 121), .mov (.t 120), none⟩,
    ⟨(some 122), .mov (.t 14), some (121, false)⟩,
    ⟨(some 123), .mov (.t 16), some (121, false)⟩,
    ⟨(some 124), .mov (.t 13), some (121, false)⟩,
    ⟨(some 125), .bin .eql (.t 123) (.t 124), some (121, false)⟩,
    ⟨(some 126), .beq true (.t 122) (.t 125), some (121, false)⟩,
    ⟨(some 127), .pick (.t 121) (.c (.bool true)) (.t 126), none⟩,
    ⟨(some 128), .mov (.t 127), none⟩,
    ⟨(some 129), .mov (.t 16), some (128, false)⟩,
    ⟨(some 130), .mov (.t 13), some (128, false)⟩,
    ⟨(some 131), .bin .gtr (.t 129) (.t 130), some (128, false)⟩,
    ⟨(some 132), .pick (.t 128) (.c (.bool true)) (.t 131), none⟩,
    ⟨(some 133), .mov (.t 132), none⟩,
    ⟨(some 134), .mov (.t 16), some (133, false)⟩,
    ⟨(some 135), .mov (.t 13), some (133, false)⟩,
    ⟨(some 136), .bin .sub (.t 135) (.c (.int .i64 3)), some (133, false)⟩,
    ⟨(some 137), .bin .lss (.t 134) (.t 136), some (133, false)⟩,
    ⟨(some 138), .pick (.t 133) (.c (.bool true)) (.t 137), none⟩])
  (.cond (.t 138)
   (.seq (.region false [⟨(some 6), .mov (.c (.bool false)), none⟩])
   (.ret))
   (.skip)))
  (.seq (.region false [⟨(some 139), .mov (.t 14), none⟩])
  (.cond (.t 139)
   (.seq (.seq (.region false [⟨(some 140), .mov (.t 12), none⟩,
     ⟨(some 141), .mov (.t 11), none⟩,
     ⟨(some 142), .len (.t 141), none⟩,
     ⟨(some 143), .bin .geq (.t 140) (.t 142), none⟩,
     ⟨(some 144), .mov (.t 143), none⟩,
     ⟨(some 145), .mov (.t 11), some (144, false)⟩,
     ⟨(some 146), .mov (.t 12), some (144, false)⟩,
     ⟨(some 147), .idxA 1 (.t 145) (.t 146), some (144, false)⟩,
     ⟨(some 148), .ld none (.t 147), some (144, false)⟩,
     ⟨(some 149), .mov (.t 13), some (144, false)⟩,
     ⟨(some 150), .bin .neq (.t 148) (.t 149), some (144, false)⟩,
     ⟨(some 151), .pick (.t 144) (.c (.bool true)) (.t 150), none⟩])
   (.cond (.t 151)
    (.seq (.region false [⟨(some 6), .mov (.c (.bool false)), none⟩])
    (.ret))
    (.skip)))
   (.region false [⟨(some 152), .mov (.t 12), none⟩,
     ⟨(some 153), .bin .add (.t 152) (.c (.int .i64 1)), none⟩,
     ⟨(some 12), .mov (.t 153), none⟩]))
   (.skip)))))))))
  (.region false [⟨(some 77), .mov (.t 13), none⟩,
    ⟨(some 78), .bin .add (.t 77) (.c (.int .i64 1)), none⟩,
    ⟨(some 13), .mov (.t 78), none⟩]))
def A7 : AFun := ⟨177,
  .seq (.region false [⟨(some 6), .mov (.c (.bool false)), none⟩])
  (.seq (.seq (.region false [⟨(some 23), .mov (.t 2), none⟩,
    ⟨(some 24), .len (.t 23), none⟩,
    ⟨(some 25), .bin .gtr (.t 24) (.c (.int .i64 200)), none⟩])
  (.cond (.t 25)
   (.seq (.region false [⟨(some 26), .call 11 [], none⟩,
     ⟨(some 6), .mov (.t 26), none⟩])
   (.ret))
   (.skip)))
  (.seq (.region false [⟨(some 28), .mov (.t 0), none⟩,
    ⟨(some 29), .call 14 [(.t 28)], none⟩,
    ⟨(some 27), .mov (.t 29), none⟩,
    ⟨(some 30), .extr (.t 27) 0, none⟩,
    ⟨(some 31), .extr (.t 27) 1, none⟩,
    ⟨(some 7), .mov (.t 30), none⟩,
    ⟨(some 8), .mov (.t 31), none⟩])
  (.seq (.region false [⟨(some 33), .mov (.t 1), none⟩,
    ⟨(some 34), .call 14 [(.t 33)], none⟩,
    ⟨(some 32), .mov (.t 34), none⟩,
    ⟨(some 35), .extr (.t 32) 0, none⟩,
    ⟨(some 36), .extr (.t 32) 1, none⟩,
    ⟨(some 9), .mov (.t 35), none⟩,
    ⟨(some 10), .mov (.t 36), none⟩])
  (.seq (.seq (.region false [⟨(some 37), .mov (.t 8), none⟩,
    ⟨(some 38), .bin .eql (.t 37) (.c (.int .i64 0)), none⟩,
    ⟨(some 39), .mov (.t 38), none⟩,
    ⟨(some 40), .mov (.t 10), some (39, true)⟩,
    ⟨(some 41), .bin .eql (.t 40) (.c (.int .i64 0)), some (39, true)⟩,
    ⟨(some 42), .pick (.t 39) (.t 41) (.c (.bool false)), none⟩,
    ⟨(some 43), .mov (.t 42), none⟩,
    ⟨(some 44), .mov (.t 7), some (43, true)⟩,
    ⟨(some 45), .b2s (.t 44), some (43, true)⟩,
    ⟨(some 46), .mov (.t 9), some (43, true)⟩,
    ⟨(some 47), .b2s (.t 46), some (43, true)⟩,
    ⟨(some 48), .bin .lss (.t 45) (.t 47), some (43, true)⟩,
    ⟨(some 49), .mov (.t 0), some (43, true)⟩,
    ⟨(some 50), .mov (.t 1), some (43, true)⟩,
    ⟨(some 51), .bin .lss (.t 49) (.t 50), some (43, true)⟩,
    ⟨(some 52), .beq true (.t 48) (.t 51), some (43, true)⟩,
    ⟨(some 53), .mov (.t 52), some (43, true)⟩,
    ⟨(some 54), .mov (.t 7), some (53, false)⟩,
    ⟨(some 55), .b2s (.t 54), some (53, false)⟩,
    ⟨(some 56), .mov (.t 9), some (53, false)⟩,
    ⟨(some 57), .b2s (.t 56), some (53, false)⟩,
    ⟨(some 58), .bin .eql (.t 55) (.t 57), some (53, false)⟩,
    ⟨(some 59), .mov (.t 0), some (53, false)⟩,
    ⟨(some 60), .mov (.t 1), some (53, false)⟩,
    ⟨(some 61), .bin .eql (.t 59) (.t 60), some (53, false)⟩,
    ⟨(some 62), .beq true (.t 58) (.t 61), some (53, false)⟩,
    ⟨(some 63), .pick (.t 53) (.c (.bool true)) (.t 62), some (43, true)⟩,
    ⟨(some 64), .pick (.t 43) (.t 63) (.c (.bool false)), none⟩])
  (.cond (.t 64)
   (.seq (.region false [⟨(some 6), .mov (.c (.bool false)), none⟩])
   (.ret))
   (.skip)))
  (.seq (.region false [⟨(some 66), .mov (.t 2), none⟩,
    ⟨(some 67), .call 20 [(.t 66)], none⟩,
    ⟨(some 65), .mov (.t 67), none⟩,
    ⟨(some 68), .extr (.t 65) 0, none⟩,
    ⟨(some 69), .extr (.t 65) 1, none⟩,
    ⟨(some 11), .mov (.t 68), none⟩,
    ⟨(some 8), .mov (.t 69), none⟩])
  (.seq (.seq (.region false [⟨(some 70), .mov (.t 8), none⟩,
    ⟨(some 71), .bin .neq (.t 70) (.c (.int .i64 0)), none⟩])
  (.cond (.t 71)
   (.seq (.region false [⟨(some 72), .call 11 [], none⟩,
     ⟨(some 6), .mov (.t 72), none⟩])
   (.ret))
   (.skip)))
  (.seq (.region false [⟨(some 12), .mov (.c (.int .i64 0)), none⟩])
  (.seq (.seq (.region false [⟨(some 13), .mov (.c (.int .i64 0)), none⟩])
  (.block 0 (.loop A7L0)))
  (.seq (.region false [⟨(some 155), .mov (.t 2), none⟩,
    ⟨(some 156), .call 19 [(.t 155)], none⟩,
    ⟨(some 154), .mov (.t 156), none⟩,
    ⟨(some 157), .extr (.t 154) 0, none⟩,
    ⟨(some 158), .extr (.t 154) 1, none⟩,
    ⟨(some 22), .mov (.t 157), none⟩,
    ⟨(some 8), .mov (.t 158), none⟩])
  (.seq (.region false [⟨(some 159), .mov (.t 8), none⟩,
    ⟨(some 160), .bin .eql (.t 159) (.c (.int .i64 0)), none⟩,
    ⟨(some 161), .mov (.t 160), none⟩,
    ⟨(some 162), .mov (.t 12), some (161, true)⟩,
    ⟨(some 163), .mov (.t 11), some (161, true)⟩,
    ⟨(some 164), .len (.t 163), some (161, true)⟩,
    ⟨(some 165), .bin .eql (.t 162) (.t 164), some (161, true)⟩,
    ⟨(some 166), .pick (.t 161) (.t 165) (.c (.bool false)), none⟩,
    ⟨(some 167), .mov (.t 166), none⟩,
    ⟨(some 168), .mov (.t 22), some (167, true)⟩,
    ⟨(some 169), .mov (.t 11), some (167, true)⟩,
    ⟨(some 170), .len (.t 169), some (167, true)⟩,
    ⟨(some 171), .bin .sub (.t 170) (.c (.int .i64 1)), some (167, true)⟩,
    ⟨(some 172), .bin .eql (.t 168) (.t 171), some (167, true)⟩,
    ⟨(some 173), .pick (.t 167) (.t 172) (.c (.bool false)), none⟩,
    ⟨(some 174), .mov (.t 173), none⟩,
    ⟨(some 175), .call 11 [], some (174, true)⟩,
    ⟨(some 176), .pick (.t 174) (.t 175) (.c (.bool false)), none⟩,
    ⟨(some 6), .mov (.t 176), none⟩])
  (.ret))))))))))),
  [.tmp 6]⟩

/- invigilator/invigilatorlaw02.RunesKnown -/
def A8 : AFun := ⟨151,
  .seq (.region false [⟨(some 0), .mov (.c (.bool false)), none⟩])
  (.seq (.region false [⟨(some 18), .call 14 [(.c (.int .i64 65))], none⟩,
    ⟨(some 17), .mov (.t 18), none⟩,
    ⟨(some 19), .extr (.t 17) 0, none⟩,
    ⟨(some 20), .extr (.t 17) 1, none⟩,
    ⟨(some 1), .mov (.t 19), none⟩,
    ⟨(some 2), .mov (.t 20), none⟩])
  (.seq (.region false [⟨(some 22), .call 14 [(.c (.int .i64 233))], none⟩,
    ⟨(some 21), .mov (.t 22), none⟩,
    ⟨(some 23), .extr (.t 21) 0, none⟩,
    ⟨(some 24), .extr (.t 21) 1, none⟩,
    ⟨(some 3), .mov (.t 23), none⟩,
    ⟨(some 4), .mov (.t 24), none⟩])
  (.seq (.region false [⟨(some 26), .call 14 [(.c (.int .i64 128512))], none⟩,
    ⟨(some 25), .mov (.t 26), none⟩,
    ⟨(some 27), .extr (.t 25) 0, none⟩,
    ⟨(some 28), .extr (.t 25) 1, none⟩,
    ⟨(some 5), .mov (.t 27), none⟩,
    ⟨(some 6), .mov (.t 28), none⟩])
  (.seq (.region false [⟨(some 30), .call 14 [(.c (.int .i64 55296))], none⟩,
    ⟨(some 29), .mov (.t 30), none⟩,
    ⟨(some 31), .extr (.t 29) 0, none⟩,
    ⟨(some 32), .extr (.t 29) 1, none⟩,
    ⟨(some 7), .mov (.t 31), none⟩,
    ⟨(some 8), .mov (.t 32), none⟩])
  (.seq (.region false [⟨(some 34), .call 14 [(.c (.int .i64 1114112))], none⟩,
    ⟨(some 33), .mov (.t 34), none⟩,
    ⟨(some 35), .extr (.t 33) 0, none⟩,
    ⟨(some 36), .extr (.t 33) 1, none⟩,
    ⟨(some 9), .mov (.t 35), none⟩,
    ⟨(some 10), .mov (.t 36), none⟩])
  (.seq (.region false [⟨(some 38), .call 14 [(.c (.int .i64 (-1)))], none⟩,
    ⟨(some 37), .mov (.t 38), none⟩,
    ⟨(some 39), .extr (.t 37) 0, none⟩,
    ⟨(some 40), .extr (.t 37) 1, none⟩,
    ⟨(some 11), .mov (.t 39), none⟩,
    ⟨(some 12), .mov (.t 40), none⟩])
  (.seq (.seq (.region false [⟨(some 41), .mov (.t 2), none⟩,
    ⟨(some 42), .bin .neq (.t 41) (.c (.int .i64 0)), none⟩,
    ⟨(some 43), .mov (.t 42), none⟩,
    ⟨(some 44), .mov (.t 4), some (43, false)⟩,
    ⟨(some 45), .bin .neq (.t 44) (.c (.int .i64 0)), some (43, false)⟩,
    ⟨(some 46), .pick (.t 43) (.c (.bool true)) (.t 45), none⟩,
    ⟨(some 47), .mov (.t 46), none⟩,
    ⟨(some 48), .mov (.t 6), some (47, false)⟩,
    ⟨(some 49), .bin .neq (.t 48) (.c (.int .i64 0)), some (47, false)⟩,
    ⟨(some 50), .pick (.t 47) (.c (.bool true)) (.t 49), none⟩,
    ⟨(some 51), .mov (.t 50), none⟩,
    ⟨(some 52), .mov (.t 8), some (51, false)⟩,
    ⟨(some 53), .bin .neq (.t 52) (.c (.int .i64 7)), some (51, false)⟩,
    ⟨(some 54), .pick (.t 51) (.c (.bool true)) (.t 53), none⟩,
    ⟨(some 55), .mov (.t 54), none⟩,
    ⟨(some 56), .mov (.t 10), some (55, false)⟩,
    ⟨(some 57), .bin .neq (.t 56) (.c (.int .i64 7)), some (55, false)⟩,
    ⟨(some 58), .pick (.t 55) (.c (.bool true)) (.t 57), none⟩,
    ⟨(some 59), .mov (.t 58), none⟩,
    ⟨(some 60), .mov (.t 12), some (59, false)⟩,
    ⟨(some 61), .bin .neq (.t 60) (.c (.int .i64 7)), some (59, false)⟩,
    ⟨(some 62), .pick (.t 59) (.c (.bool true)) (.t 61), none⟩,
    ⟨(some 63), .mov (.t 62), none⟩,
    ⟨(some 64), .mov (.t 1), some (63, false)⟩,
    ⟨(some 65), .b2s (.t 64), some (63, false)⟩,
    ⟨(some 66), .bin .neq (.t 65) (.c (.str [65])), some (63, false)⟩,
    ⟨(some 67), .pick (.t 63) (.c (.bool true)) (.t 66), none⟩,
    ⟨(some 68), .mov (.t 67), none⟩,
    ⟨(some 69), .mov (.t 3), some (68, false)⟩,
    ⟨(some 70), .b2s (.t 69), some (68, false)⟩,
    ⟨(some 71), .bin .neq (.t 70) (.c (.str [195, 169])), some (68, false)⟩,
    ⟨(some 72), .pick (.t 68) (.c (.bool true)) (.t 71), none⟩,
    ⟨(some 73), .mov (.t 72), none⟩,
    ⟨(some 74), .mov (.t 5), some (73, false)⟩,
    ⟨(some 75), .b2s (.t 74), some (73, false)⟩,
    ⟨(some 76), .bin .neq (.t 75) (.c (.str [240, 159, 152, 128])), some (73, false)⟩,
    ⟨(some 77), .pick (.t 73) (.c (.bool true)) (.t 76), none⟩])
  (.cond (.t 77)
   (.seq (.region false [⟨(some 0), .mov (.c (.bool false)), none⟩])
   (.ret))
   (.skip)))
  (.seq (.region false [⟨(some 79), .bsl 1 (.int .u8 0) 1 [(0, (.c (.int .u8 169)))], none⟩,
    ⟨(some 80), .call 12 [(.t 79), (.c (.int .i64 0))], none⟩,
    ⟨(some 78), .mov (.t 80), none⟩,
    ⟨(some 81), .extr (.t 78) 0, none⟩,
    ⟨(some 82), .extr (.t 78) 1, none⟩,
    ⟨(some 83), .extr (.t 78) 2, none⟩,
    ⟨(some 2), .mov (.t 83), none⟩])
  (.seq (.region false [⟨(some 85), .bsl 1 (.int .u8 0) 2 [(0, (.c (.int .u8 192))), (1, (.c (.int .u8 128)))], none⟩,
    ⟨(some 86), .call 12 [(.t 85), (.c (.int .i64 0))], none⟩,
    ⟨(some 84), .mov (.t 86), none⟩,
    ⟨(some 87), .extr (.t 84) 0, none⟩,
    ⟨(some 88), .extr (.t 84) 1, none⟩,
    ⟨(some 89), .extr (.t 84) 2, none⟩,
    ⟨(some 4), .mov (.t 89), none⟩])
  (.seq (.region false [⟨(some 91), .bsl 1 (.int .u8 0) 4 [(0, (.c (.int .u8 97))), (1, (.c (.int .u8 195))), (2, (.c (.int .u8 169))), (3, (.c (.int .u8 255)))], none⟩,
    ⟨(some 92), .call 28 [(.t 91)], none⟩,
    ⟨(some 90), .mov (.t 92), none⟩,
    ⟨(some 93), .extr (.t 90) 0, none⟩,
    ⟨(some 94), .extr (.t 90) 1, none⟩,
    ⟨(some 13), .mov (.t 93), none⟩,
    ⟨(some 6), .mov (.t 94), none⟩])
  (.seq (.region false [⟨(some 96), .bsl 1 (.int .u8 0) 3 [(0, (.c (.int .u8 97))), (1, (.c (.int .u8 195))), (2, (.c (.int .u8 169)))], none⟩,
    ⟨(some 97), .call 19 [(.t 96)], none⟩,
    ⟨(some 95), .mov (.t 97), none⟩,
    ⟨(some 98), .extr (.t 95) 0, none⟩,
    ⟨(some 99), .extr (.t 95) 1, none⟩,
    ⟨(some 14), .mov (.t 98), none⟩,
    ⟨(some 8), .mov (.t 99), none⟩])
  (.seq (.region false [⟨(some 101), .bsl 1 (.int .u8 0) 3 [(0, (.c (.int .u8 97))), (1, (.c (.int .u8 195))), (2, (.c (.int .u8 169)))], none⟩,
    ⟨(some 102), .call 24 [(.t 101), (.c (.int .i64 2))], none⟩,
    ⟨(some 100), .mov (.t 102), none⟩,
    ⟨(some 103), .extr (.t 100) 0, none⟩,
    ⟨(some 104), .extr (.t 100) 1, none⟩,
    ⟨(some 15), .mov (.t 103), none⟩,
    ⟨(some 10), .mov (.t 104), none⟩])
  (.seq (.region false [⟨(some 106), .bsl 1 (.int .u8 0) 3 [(0, (.c (.int .u8 97))), (1, (.c (.int .u8 195))), (2, (.c (.int .u8 169)))], none⟩,
    ⟨(some 107), .call 26 [(.t 106), (.c (.int .i64 2))], none⟩,
    ⟨(some 105), .mov (.t 107), none⟩,
    ⟨(some 108), .extr (.t 105) 0, none⟩,
    ⟨(some 109), .extr (.t 105) 1, none⟩,
    ⟨(some 16), .mov (.t 108), none⟩,
    ⟨(some 12), .mov (.t 109), none⟩])
  (.seq (.region false [⟨(some 110), .mov (.t 2), none⟩,
    ⟨(some 111), .bin .eql (.t 110) (.c (.int .i64 6)), none⟩,
    ⟨(some 112), .mov (.t 111), none⟩,
    ⟨(some 113), .mov (.t 4), some (112, true)⟩,
    ⟨(some 114), .bin .eql (.t 113) (.c (.int .i64 6)), some (112, true)⟩,
    ⟨(some 115), .pick (.t 112) (.t 114) (.c (.bool false)), none⟩,
    ⟨(some 116), .mov (.t 115), none⟩,
    ⟨(some 117), .mov (.t 6), some (116, true)⟩,
    ⟨(some 118), .bin .eql (.t 117) (.c (.int .i64 6)), some (116, true)⟩,
    ⟨(some 119), .pick (.t 116) (.t 118) (.c (.bool false)), none⟩,
    ⟨(some 120), .mov (.t 119), none⟩,
    ⟨(some 121), .mov (.t 8), some (120, true)⟩,
    ⟨(some 122), .bin .eql (.t 121) (.c (.int .i64 0)), some (120, true)⟩,
    ⟨(some 123), .pick (.t 120) (.t 122) (.c (.bool false)), none⟩,
    ⟨(some 124), .mov (.t 123), none⟩,
    ⟨(some 125), .mov (.t 10), some (124, true)⟩,
    ⟨(some 126), .bin .eql (.t 125) (.c (.int .i64 0)), some (124, true)⟩,
    ⟨(some 127), .pick (.t 124) (.t 126) (.c (.bool false)), none⟩,
    ⟨(some 128), .mov (.t 127), none⟩,
    ⟨(some 129), .mov (.t 12), some (128, true)⟩,
    ⟨(some 130), .bin .eql (.t 129) (.c (.int .i64 0)), some (128, true)⟩,
    ⟨(some 131), .pick (.t 128) (.t 130) (.c (.bool false)), none⟩,
    ⟨(some 132), .mov (.t 131), none⟩,
    ⟨(some 133), .mov (.t 13), some (132, true)⟩,
    ⟨(some 134), .bin .eql (.t 133) (.c (.int .i64 3)), some (132, true)⟩,
    ⟨(some 135), .pick (.t 132) (.t 134) (.c (.bool false)), none⟩,
    ⟨(some 136), .mov (.t 135), none⟩,
    ⟨(some 137), .mov (.t 14), some (136, true)⟩,
    ⟨(some 138), .bin .eql (.t 137) (.c (.int .i64 2)), some (136, true)⟩,
    ⟨(some 139), .pick (.t 136) (.t 138) (.c (.bool false)), none⟩,
    ⟨(some 140), .mov (.t 139), none⟩,
    ⟨(some 141), .mov (.t 15), some (140, true)⟩,
    ⟨(some 142), .not (.t 141), some (140, true)⟩,
    ⟨(some 143), .pick (.t 140) (.t 142) (.c (.bool false)), none⟩,
    ⟨(some 144), .mov (.t 143), none⟩,
    ⟨(some 145), .mov (.t 16), some (144, true)⟩,
    ⟨(some 146), .bin .eql (.t 145) (.c (.int .i64 1)), some (144, true)⟩,
    ⟨(some 147), .pick (.t 144) (.t 146) (.c (.bool false)), none⟩,
    ⟨(some 148), .mov (.t 147), none⟩,
    ⟨(some 149), .call 11 [], some (148, true)⟩,
    ⟨(some 150), .pick (.t 148) (.t 149) (.c (.bool false)), none⟩,
    ⟨(some 0), .mov (.t 150), none⟩])
  (.ret))))))))))))))),
  [.tmp 0]⟩

/- invigilator/invigilatorlaw02.RunesBack -/
def A9L0 : ACode :=
  .seq (.seq (.region false [⟨(some 69), .mov (.t 12), none⟩,
    ⟨(some 70), .mov (.t 7), none⟩,
    ⟨(some 71), .len (.t 70), none⟩,
    ⟨(some 72), .bin .lss (.t 69) (.t 71), none⟩])
  (.cond (.t 72)
   (.skip)
   (.exit 0)))
  (.seq (.block 1 (.seq (.region false [⟨(some 76), .mov (.t 7), none⟩,
    ⟨(some 77), .mov (.t 12), none⟩,
    ⟨(some 78), .sls 1 (.t 76) none (some (.t 77)) none, none⟩,
    ⟨(some 79), .call 12 [(.t 78), (.c (.int .i64 0))], none⟩,
    ⟨(some 75), .mov (.t 79), none⟩,
    ⟨(some 80), .extr (.t 75) 0, none⟩,
    ⟨(some 81), .extr (.t 75) 1, none⟩,
    ⟨(some 82), .extr (.t 75) 2, none⟩,
    ⟨(some 13), .mov (.t 80), none⟩,
    ⟨(some 14), .mov (.t 81), none⟩,
    ⟨(some 15), .mov (.t 82), none⟩])
  (.seq (.region false [⟨(some 83), .mov (.t 12), none⟩,
    ⟨(some 84), .bin .gtr (.t 83) (.c (.int .i64 0)), none⟩,
    ⟨(some 85), .mov (.t 84), none⟩,
    ⟨(some 86), .mov (.t 15), some (85, true)⟩,
    ⟨(some 87), .bin .neq (.t 86) (.c (.int .i64 370)), some (85, true)⟩,
    ⟨(some 88), .pick (.t 85) (.t 87) (.c (.bool false)), none⟩,
    ⟨(some 89), .mov (.t 88), none⟩,
    ⟨(some 90), .mov (.t 12), some (89, false)⟩,
    ⟨(some 91), .bin .eql (.t 90) (.c (.int .i64 0)), some (89, false)⟩,
    ⟨(some 92), .mov (.t 91), some (89, false)⟩,
    ⟨(some 93), .mov (.t 15), some (92, true)⟩,
    ⟨(some 94), .bin .neq (.t 93) (.c (.int .i64 7)), some (92, true)⟩,
    ⟨(some 95), .pick (.t 92) (.t 94) (.c (.bool false)), some (89, false)⟩,
    ⟨(some 96), .pick (.t 89) (.c (.bool true)) (.t 95), none⟩])
  (.cond (.t 96)
   (.seq (.region false [⟨(some 6), .mov (.c (.bool false)), none⟩])
   (.ret))
   (.skip)))))
  (.region false [⟨(some 73), .mov (.t 12), none⟩,
    ⟨(some 74), .bin .add (.t 73) (.c (.int .i64 1)), none⟩,
    ⟨(some 12), .mov (.t 74), none⟩]))
def A9L1 : ACode :=
  .seq (.seq (.region false [⟨(some 97), .mov (.t 16), none⟩,
    ⟨(some 98), .mov (.t 1), none⟩,
    ⟨(some 99), .len (.t 98), none⟩,
    ⟨(some 100), .bin .lss (.t 97) (.t 99), none⟩])
  (.cond (.t 100)
   (.skip)
   (.exit 2)))
  (.seq (.block 3 (.seq (.region false [⟨(some 104), .mov (.t 1), none⟩,
    ⟨(some 105), .mov (.t 16), none⟩,
    ⟨(some 106), .call 12 [(.t 104), (.t 105)], none⟩,
    ⟨(some 103), .mov (.t 106), none⟩,
    ⟨(some 107), .extr (.t 103) 0, none⟩,
    ⟨(some 108), .extr (.t 103) 1, none⟩,
    ⟨(some 109), .extr (.t 103) 2, none⟩,
    ⟨(some 17), .mov (.t 107), none⟩,
    ⟨(some 18), .mov (.t 108), none⟩,
    ⟨(some 19), .mov (.t 109), none⟩])
  (.seq (.seq (.region false [⟨(some 110), .mov (.t 19), none⟩,
    ⟨(some 111), .bin .neq (.t 110) (.c (.int .i64 0)), none⟩])
  (.cond (.t 111)
   (.exit 3)
   (.skip)))
  (.seq (.region false [⟨(some 113), .mov (.t 17), none⟩,
    ⟨(some 114), .call 14 [(.t 113)], none⟩,
    ⟨(some 112), .mov (.t 114), none⟩,
    ⟨(some 115), .extr (.t 112) 0, none⟩,
    ⟨(some 116), .extr (.t 112) 1, none⟩,
    ⟨(some 20), .mov (.t 115), none⟩,
    ⟨(some 21), .mov (.t 116), none⟩])
  (.seq (.region true [⟨(some 117), .mov (.t 21), none⟩,
    ⟨(some 118), .bin .neq (.t 117) (.c (.int .i64 0)), none⟩,
    ⟨(some 119), .mov (.t 118), none⟩,
    ⟨(some 120), .mov (.t 18), some (119, false)⟩,
    ⟨(some 121), .mov (.t 20), some (119, false)⟩,
    ⟨(some 122), .len (.t 121), some (119, false)⟩,
    ⟨(some 123), .bin .neq (.t 120) (.t 122), some (119, false)⟩,
    ⟨(some 124), .pick (.t 119) (.c (.bool true)) (.t 123), none⟩,
    ⟨(some 125), .mov (.t 124), none⟩,
    ⟨(some 126), .mov (.t 16), some (125, false)⟩,
    ⟨(some 127), .mov (.t 18), some (125, false)⟩,
    ⟨(some 128), .bin .add (.t 126) (.t 127), some (125, false)⟩,
    ⟨(some 129), .mov (.t 1), some (125, false)⟩,
    ⟨(some 130), .len (.t 129), some (125, false)⟩,
    ⟨(some 131), .bin .gtr (.t 128) (.t 130), some (125, false)⟩,
    ⟨(some 132), .pick (.t 125) (.c (.bool true)) (.t 131), none⟩,
    ⟨(some 133), .mov (.t 132), none⟩,
    ⟨(some 134), .mov (.t 20), some (133, false)⟩,
    ⟨(some 135), .b2s (.t 134), some (133, false)⟩,
    ⟨(some 136), .mov (.t 1), some (133, false)⟩,
    ⟨(some 137), .mov (.t 16), some (133, false)⟩,
    ⟨(some 138), .mov (.t 16), some (133, false)⟩,
    ⟨(some 139), .mov (.t 18), some (133, false)⟩,
    ⟨(some 140), .bin .add (.t 138) (.t 139), some (133, false)⟩,
    ⟨(some 141), .sls 1 (.t 136) (some (.t 137)) (some (.t 140)) none, some (133, false)⟩,
    ⟨(some 142), .b2s (.t 141), some (133, false)⟩,
    ⟨(some 143), .bin .neq (.t 135) (.t 142), some (133, false)⟩,
    ⟨(some 144), .pick (.t 133) (.c (.bool true)) (.t 143), none⟩])
  (.cond (.t 144)
   (.seq (.region false [⟨(some 6), .mov (.c (.bool false)), none⟩])
   (.ret))
   (.skip)))))))
  (.region false [⟨(some 101), .mov (.t 16), none⟩,
    ⟨(some 102), .bin .add (.t 101) (.c (.int .i64 1)), none⟩,
    ⟨(some 16), .mov (.t 102), none⟩]))
def A9 : AFun := ⟨189,
  .seq (.region false [⟨(some 6), .mov (.c (.bool false)), none⟩])
  (.seq (.seq (.region false [⟨(some 30), .mov (.t 1), none⟩,
    ⟨(some 31), .len (.t 30), none⟩,
    ⟨(some 32), .bin .gtr (.t 31) (.c (.int .i64 200)), none⟩,
    ⟨(some 33), .mov (.t 32), none⟩,
    ⟨(some 34), .mov (.t 2), some (33, false)⟩,
    ⟨(some 35), .len (.t 34), some (33, false)⟩,
    ⟨(some 36), .bin .gtr (.t 35) (.c (.int .i64 100)), some (33, false)⟩,
    ⟨(some 37), .pick (.t 33) (.c (.bool true)) (.t 36), none⟩])
  (.cond (.t 37)
   (.seq (.region false [⟨(some 38), .call 11 [], none⟩,
     ⟨(some 6), .mov (.t 38), none⟩])
   (.ret))
   (.skip)))
  (.seq (.region false [⟨(some 40), .mov (.t 0), none⟩,
    ⟨(some 41), .call 14 [(.t 40)], none⟩,
    ⟨(some 39), .mov (.t 41), none⟩,
    ⟨(some 42), .extr (.t 39) 0, none⟩,
    ⟨(some 43), .extr (.t 39) 1, none⟩,
    ⟨(some 7), .mov (.t 42), none⟩,
    ⟨(some 8), .mov (.t 43), none⟩])
  (.seq (.seq (.region false [⟨(some 44), .mov (.t 8), none⟩,
    ⟨(some 45), .bin .eql (.t 44) (.c (.int .i64 0)), none⟩])
  (.cond (.t 45)
   (.seq (.region false [⟨(some 47), .bsl 1 (.int .u8 0) 0 [], none⟩,
     ⟨(some 48), .mov (.t 7), none⟩,
     ⟨(some 49), .app 1 1 (.t 47) (.t 48), none⟩,
     ⟨(some 50), .mov (.t 1), none⟩,
     ⟨(some 51), .app 1 1 (.t 49) (.t 50), none⟩,
     ⟨(some 52), .call 12 [(.t 51), (.c (.int .i64 0))], none⟩,
     ⟨(some 46), .mov (.t 52), none⟩,
     ⟨(some 53), .extr (.t 46) 0, none⟩,
     ⟨(some 54), .extr (.t 46) 1, none⟩,
     ⟨(some 55), .extr (.t 46) 2, none⟩,
     ⟨(some 9), .mov (.t 53), none⟩,
     ⟨(some 10), .mov (.t 54), none⟩,
     ⟨(some 11), .mov (.t 55), none⟩])
   (.seq (.seq (.region false [⟨(some 56), .mov (.t 11), none⟩,
     ⟨(some 57), .bin .neq (.t 56) (.c (.int .i64 0)), none⟩,
     ⟨(some 58), .mov (.t 57), none⟩,
     ⟨(some 59), .mov (.t 9), some (58, false)⟩,
     ⟨(some 60), .mov (.t 0), some (58, false)⟩,
     ⟨(some 61), .bin .neq (.t 59) (.t 60), some (58, false)⟩,
     ⟨(some 62), .pick (.t 58) (.c (.bool true)) (.t 61), none⟩,
     ⟨(some 63), .mov (.t 62), none⟩,
     ⟨(some 64), .mov (.t 10), some (63, false)⟩,
     ⟨(some 65), .mov (.t 7), some (63, false)⟩,
     ⟨(some 66), .len (.t 65), some (63, false)⟩,
     ⟨(some 67), .bin .neq (.t 64) (.t 66), some (63, false)⟩,
     ⟨(some 68), .pick (.t 63) (.c (.bool true)) (.t 67), none⟩])
   (.cond (.t 68)
    (.seq (.region false [⟨(some 6), .mov (.c (.bool false)), none⟩])
    (.ret))
    (.skip)))
   (.seq (.region false [⟨(some 12), .mov (.c (.int .i64 0)), none⟩])
   (.block 0 (.loop A9L0)))))
   (.skip)))
  (.seq (.seq (.region false [⟨(some 16), .mov (.c (.int .i64 0)), none⟩])
  (.block 2 (.loop A9L1)))
  (.seq (.region false [⟨(some 146), .mov (.t 1), none⟩,
    ⟨(some 147), .call 18 [(.t 146)], none⟩,
    ⟨(some 145), .mov (.t 147), none⟩,
    ⟨(some 148), .extr (.t 145) 0, none⟩,
    ⟨(some 149), .extr (.t 145) 1, none⟩,
    ⟨(some 22), .mov (.t 148), none⟩,
    ⟨(some 8), .mov (.t 149), none⟩])
  (.seq (.seq (.region false [⟨(some 150), .mov (.t 8), none⟩,
    ⟨(some 151), .bin .eql (.t 150) (.c (.int .i64 0)), none⟩])
  (.cond (.t 151)
   (.seq (.region false [⟨(some 153), .mov (.t 22), none⟩,
     ⟨(some 154), .call 29 [(.t 153)], none⟩,
     ⟨(some 152), .mov (.t 154), none⟩,
     ⟨(some 155), .extr (.t 152) 0, none⟩,
     ⟨(some 156), .extr (.t 152) 1, none⟩,
     ⟨(some 157), .extr (.t 152) 2, none⟩,
     ⟨(some 23), .mov (.t 155), none⟩,
     ⟨(some 24), .mov (.t 156), none⟩,
     ⟨(some 25), .mov (.t 157), none⟩])
   (.seq (.region false [⟨(some 158), .mov (.t 25), none⟩,
     ⟨(some 159), .bin .neq (.t 158) (.c (.int .i64 0)), none⟩,
     ⟨(some 160), .mov (.t 159), none⟩,
     ⟨(some 161), .mov (.t 23), some (160, false)⟩,
     ⟨(some 162), .b2s (.t 161), some (160, false)⟩,
     ⟨(some 163), .mov (.t 1), some (160, false)⟩,
     ⟨(some 164), .b2s (.t 163), some (160, false)⟩,
     ⟨(some 165), .bin .neq (.t 162) (.t 164), some (160, false)⟩,
     ⟨(some 166), .pick (.t 160) (.c (.bool true)) (.t 165), none⟩])
   (.cond (.t 166)
    (.seq (.region false [⟨(some 6), .mov (.c (.bool false)), none⟩])
    (.ret))
    (.skip))))
   (.skip)))
  (.seq (.region false [⟨(some 168), .mov (.t 2), none⟩,
    ⟨(some 169), .call 29 [(.t 168)], none⟩,
    ⟨(some 167), .mov (.t 169), none⟩,
    ⟨(some 170), .extr (.t 167) 0, none⟩,
    ⟨(some 171), .extr (.t 167) 1, none⟩,
    ⟨(some 172), .extr (.t 167) 2, none⟩,
    ⟨(some 26), .mov (.t 170), none⟩,
    ⟨(some 27), .mov (.t 171), none⟩,
    ⟨(some 8), .mov (.t 172), none⟩])
  (.seq (.seq (.region false [⟨(some 173), .mov (.t 8), none⟩,
    ⟨(some 174), .bin .eql (.t 173) (.c (.int .i64 0)), none⟩])
  (.cond (.t 174)
   (.seq (.region false [⟨(some 176), .mov (.t 26), none⟩,
     ⟨(some 177), .call 18 [(.t 176)], none⟩,
     ⟨(some 175), .mov (.t 177), none⟩,
     ⟨(some 178), .extr (.t 175) 0, none⟩,
     ⟨(some 179), .extr (.t 175) 1, none⟩,
     ⟨(some 28), .mov (.t 178), none⟩,
     ⟨(some 29), .mov (.t 179), none⟩])
   (.seq (.region false [⟨(some 180), .mov (.t 29), none⟩,
     ⟨(some 181), .bin .neq (.t 180) (.c (.int .i64 0)), none⟩,
     ⟨(some 182), .mov (.t 181), none⟩,
     ⟨(some 183), .mov (.t 28), some (182, false)⟩,
     ⟨(some 184), .mov (.t 2), some (182, false)⟩,
     ⟨(some 185), .call 21 [(.t 183), (.t 184)], some (182, false)⟩,
     ⟨(some 186), .not (.t 185), some (182, false)⟩,
     ⟨(some 187), .pick (.t 182) (.c (.bool true)) (.t 186), none⟩])
   (.cond (.t 187)
    (.seq (.region false [⟨(some 6), .mov (.c (.bool false)), none⟩])
    (.ret))
    (.skip))))
   (.skip)))
  (.seq (.region false [⟨(some 188), .call 11 [], none⟩,
    ⟨(some 6), .mov (.t 188), none⟩])
  (.ret)))))))))),
  [.tmp 6]⟩

/- invigilator/invigilatorlaw02.RunesTexts -/
def A10 : AFun := ⟨136,
  .seq (.region false [⟨(some 4), .mov (.c (.bool false)), none⟩])
  (.seq (.seq (.region false [⟨(some 19), .mov (.t 0), none⟩,
    ⟨(some 20), .len (.t 19), none⟩,
    ⟨(some 21), .bin .gtr (.t 20) (.c (.int .i64 200)), none⟩,
    ⟨(some 22), .mov (.t 21), none⟩,
    ⟨(some 23), .mov (.t 0), some (22, true)⟩,
    ⟨(some 24), .len (.t 23), some (22, true)⟩,
    ⟨(some 25), .bin .leq (.t 24) (.c (.int .i64 8000)), some (22, true)⟩,
    ⟨(some 26), .pick (.t 22) (.t 25) (.c (.bool false)), none⟩,
    ⟨(some 27), .mov (.t 26), none⟩,
    ⟨(some 28), .mov (.t 0), some (27, false)⟩,
    ⟨(some 29), .len (.t 28), some (27, false)⟩,
    ⟨(some 30), .bin .gtr (.t 29) (.c (.int .i64 8100)), some (27, false)⟩,
    ⟨(some 31), .pick (.t 27) (.c (.bool true)) (.t 30), none⟩,
    ⟨(some 32), .mov (.t 31), none⟩,
    ⟨(some 33), .mov (.t 1), some (32, false)⟩,
    ⟨(some 34), .len (.t 33), some (32, false)⟩,
    ⟨(some 35), .bin .gtr (.t 34) (.c (.int .i64 100)), some (32, false)⟩,
    ⟨(some 36), .mov (.t 35), some (32, false)⟩,
    ⟨(some 37), .mov (.t 1), some (36, true)⟩,
    ⟨(some 38), .len (.t 37), some (36, true)⟩,
    ⟨(some 39), .bin .leq (.t 38) (.c (.int .i64 2000)), some (36, true)⟩,
    ⟨(some 40), .pick (.t 36) (.t 39) (.c (.bool false)), some (32, false)⟩,
    ⟨(some 41), .pick (.t 32) (.c (.bool true)) (.t 40), none⟩,
    ⟨(some 42), .mov (.t 41), none⟩,
    ⟨(some 43), .mov (.t 1), some (42, false)⟩,
    ⟨(some 44), .len (.t 43), some (42, false)⟩,
    ⟨(some 45), .bin .gtr (.t 44) (.c (.int .i64 8100)), some (42, false)⟩,
    ⟨(some 46), .pick (.t 42) (.c (.bool true)) (.t 45), none⟩])
  (.cond (.t 46)
   (.seq (.region false [⟨(some 47), .call 11 [], none⟩,
     ⟨(some 4), .mov (.t 47), none⟩])
   (.ret))
   (.skip)))
  (.seq (.region false [⟨(some 49), .mov (.t 0), none⟩,
    ⟨(some 50), .call 28 [(.t 49)], none⟩,
    ⟨(some 48), .mov (.t 50), none⟩,
    ⟨(some 51), .extr (.t 48) 0, none⟩,
    ⟨(some 52), .extr (.t 48) 1, none⟩,
    ⟨(some 5), .mov (.t 51), none⟩,
    ⟨(some 6), .mov (.t 52), none⟩])
  (.seq (.region false [⟨(some 54), .mov (.t 0), none⟩,
    ⟨(some 55), .call 30 [(.t 54)], none⟩,
    ⟨(some 53), .mov (.t 55), none⟩,
    ⟨(some 56), .extr (.t 53) 0, none⟩,
    ⟨(some 57), .extr (.t 53) 1, none⟩,
    ⟨(some 7), .mov (.t 56), none⟩,
    ⟨(some 8), .mov (.t 57), none⟩])
  (.seq (.region false [⟨(some 59), .mov (.t 0), none⟩,
    ⟨(some 60), .call 19 [(.t 59)], none⟩,
    ⟨(some 58), .mov (.t 60), none⟩,
    ⟨(some 61), .extr (.t 58) 0, none⟩,
    ⟨(some 62), .extr (.t 58) 1, none⟩,
    ⟨(some 9), .mov (.t 61), none⟩,
    ⟨(some 10), .mov (.t 62), none⟩])
  (.seq (.region false [⟨(some 64), .mov (.t 0), none⟩,
    ⟨(some 65), .call 31 [(.t 64)], none⟩,
    ⟨(some 63), .mov (.t 65), none⟩,
    ⟨(some 66), .extr (.t 63) 0, none⟩,
    ⟨(some 67), .extr (.t 63) 1, none⟩,
    ⟨(some 11), .mov (.t 66), none⟩,
    ⟨(some 12), .mov (.t 67), none⟩])
  (.seq (.seq (.region false [⟨(some 68), .mov (.t 5), none⟩,
    ⟨(some 69), .mov (.t 7), none⟩,
    ⟨(some 70), .bin .neq (.t 68) (.t 69), none⟩,
    ⟨(some 71), .mov (.t 70), none⟩,
    ⟨(some 72), .mov (.t 6), some (71, false)⟩,
    ⟨(some 73), .mov (.t 8), some (71, false)⟩,
    ⟨(some 74), .bin .neq (.t 72) (.t 73), some (71, false)⟩,
    ⟨(some 75), .pick (.t 71) (.c (.bool true)) (.t 74), none⟩,
    ⟨(some 76), .mov (.t 75), none⟩,
    ⟨(some 77), .mov (.t 9), some (76, false)⟩,
    ⟨(some 78), .mov (.t 11), some (76, false)⟩,
    ⟨(some 79), .bin .neq (.t 77) (.t 78), some (76, false)⟩,
    ⟨(some 80), .pick (.t 76) (.c (.bool true)) (.t 79), none⟩,
    ⟨(some 81), .mov (.t 80), none⟩,
    ⟨(some 82), .mov (.t 10), some (81, false)⟩,
    ⟨(some 83), .mov (.t 12), some (81, false)⟩,
    ⟨(some 84), .bin .neq (.t 82) (.t 83), some (81, false)⟩,
    ⟨(some 85), .pick (.t 81) (.c (.bool true)) (.t 84), none⟩])
  (.cond (.t 85)
   (.seq (.region false [⟨(some 4), .mov (.c (.bool false)), none⟩])
   (.ret))
   (.skip)))
  (.seq (.region false [⟨(some 87), .mov (.t 0), none⟩,
    ⟨(some 88), .call 18 [(.t 87)], none⟩,
    ⟨(some 86), .mov (.t 88), none⟩,
    ⟨(some 89), .extr (.t 86) 0, none⟩,
    ⟨(some 90), .extr (.t 86) 1, none⟩,
    ⟨(some 13), .mov (.t 89), none⟩,
    ⟨(some 6), .mov (.t 90), none⟩])
  (.seq (.region false [⟨(some 92), .mov (.t 0), none⟩,
    ⟨(some 93), .call 32 [(.t 92)], none⟩,
    ⟨(some 91), .mov (.t 93), none⟩,
    ⟨(some 94), .extr (.t 91) 0, none⟩,
    ⟨(some 95), .extr (.t 91) 1, none⟩,
    ⟨(some 14), .mov (.t 94), none⟩,
    ⟨(some 8), .mov (.t 95), none⟩])
  (.seq (.region false [⟨(some 97), .mov (.t 1), none⟩,
    ⟨(some 98), .call 29 [(.t 97)], none⟩,
    ⟨(some 96), .mov (.t 98), none⟩,
    ⟨(some 99), .extr (.t 96) 0, none⟩,
    ⟨(some 100), .extr (.t 96) 1, none⟩,
    ⟨(some 101), .extr (.t 96) 2, none⟩,
    ⟨(some 15), .mov (.t 99), none⟩,
    ⟨(some 16), .mov (.t 100), none⟩,
    ⟨(some 10), .mov (.t 101), none⟩])
  (.seq (.region false [⟨(some 103), .mov (.t 1), none⟩,
    ⟨(some 104), .call 33 [(.t 103)], none⟩,
    ⟨(some 102), .mov (.t 104), none⟩,
    ⟨(some 105), .extr (.t 102) 0, none⟩,
    ⟨(some 106), .extr (.t 102) 1, none⟩,
    ⟨(some 107), .extr (.t 102) 2, none⟩,
    ⟨(some 17), .mov (.t 105), none⟩,
    ⟨(some 18), .mov (.t 106), none⟩,
    ⟨(some 12), .mov (.t 107), none⟩])
  (.seq (.region false [⟨(some 108), .mov (.t 13), none⟩,
    ⟨(some 109), .mov (.t 14), none⟩,
    ⟨(some 110), .call 21 [(.t 108), (.t 109)], none⟩,
    ⟨(some 111), .mov (.t 110), none⟩,
    ⟨(some 112), .mov (.t 6), some (111, true)⟩,
    ⟨(some 113), .mov (.t 8), some (111, true)⟩,
    ⟨(some 114), .bin .eql (.t 112) (.t 113), some (111, true)⟩,
    ⟨(some 115), .pick (.t 111) (.t 114) (.c (.bool false)), none⟩,
    ⟨(some 116), .mov (.t 115), none⟩,
    ⟨(some 117), .mov (.t 15), some (116, true)⟩,
    ⟨(some 118), .b2s (.t 117), some (116, true)⟩,
    ⟨(some 119), .mov (.t 17), some (116, true)⟩,
    ⟨(some 120), .b2s (.t 119), some (116, true)⟩,
    ⟨(some 121), .bin .eql (.t 118) (.t 120), some (116, true)⟩,
    ⟨(some 122), .pick (.t 116) (.t 121) (.c (.bool false)), none⟩,
    ⟨(some 123), .mov (.t 122), none⟩,
    ⟨(some 124), .mov (.t 16), some (123, true)⟩,
    ⟨(some 125), .mov (.t 18), some (123, true)⟩,
    ⟨(some 126), .bin .eql (.t 124) (.t 125), some (123, true)⟩,
    ⟨(some 127), .pick (.t 123) (.t 126) (.c (.bool false)), none⟩,
    ⟨(some 128), .mov (.t 127), none⟩,
    ⟨(some 129), .mov (.t 10), some (128, true)⟩,
    ⟨(some 130), .mov (.t 12), some (128, true)⟩,
    ⟨(some 131), .bin .eql (.t 129) (.t 130), some (128, true)⟩,
    ⟨(some 132), .pick (.t 128) (.t 131) (.c (.bool false)), none⟩,
    ⟨(some 133), .mov (.t 132), none⟩,
    ⟨(some 134), .call 11 [], some (133, true)⟩,
    ⟨(some 135), .pick (.t 133) (.t 134) (.c (.bool false)), none⟩,
    ⟨(some 4), .mov (.t 135), none⟩])
  (.ret)))))))))))),
  [.tmp 4]⟩

/- invigilator/invigilatorlaw02.awake -/
def A11 : AFun := ⟨91,
  .seq (.region false [⟨(some 0), .mov (.c (.bool false)), none⟩])
  (.seq (.region false [⟨(some 17), .call 14 [(.c (.int .i64 8364))], none⟩,
    ⟨(some 16), .mov (.t 17), none⟩,
    ⟨(some 18), .extr (.t 16) 0, none⟩,
    ⟨(some 19), .extr (.t 16) 1, none⟩,
    ⟨(some 1), .mov (.t 18), none⟩,
    ⟨(some 2), .mov (.t 19), none⟩])
  (.seq (.region false [⟨(some 21), .bsl 1 (.int .u8 0) 3 [(0, (.c (.int .u8 195))), (1, (.c (.int .u8 169))), (2, (.c (.int .u8 0)))], none⟩,
    ⟨(some 22), .call 12 [(.t 21), (.c (.int .i64 0))], none⟩,
    ⟨(some 20), .mov (.t 22), none⟩,
    ⟨(some 23), .extr (.t 20) 0, none⟩,
    ⟨(some 24), .extr (.t 20) 1, none⟩,
    ⟨(some 25), .extr (.t 20) 2, none⟩,
    ⟨(some 3), .mov (.t 23), none⟩,
    ⟨(some 4), .mov (.t 24), none⟩,
    ⟨(some 5), .mov (.t 25), none⟩])
  (.seq (.region false [⟨(some 27), .bsl 1 (.int .u8 0) 1 [(0, (.c (.int .u8 195)))], none⟩,
    ⟨(some 28), .call 12 [(.t 27), (.c (.int .i64 0))], none⟩,
    ⟨(some 26), .mov (.t 28), none⟩,
    ⟨(some 29), .extr (.t 26) 0, none⟩,
    ⟨(some 30), .extr (.t 26) 1, none⟩,
    ⟨(some 31), .extr (.t 26) 2, none⟩,
    ⟨(some 6), .mov (.t 29), none⟩,
    ⟨(some 7), .mov (.t 30), none⟩,
    ⟨(some 8), .mov (.t 31), none⟩])
  (.seq (.region false [⟨(some 33), .bsl 1 (.int .u8 0) 3 [(0, (.c (.int .u8 237))), (1, (.c (.int .u8 160))), (2, (.c (.int .u8 128)))], none⟩,
    ⟨(some 34), .call 12 [(.t 33), (.c (.int .i64 0))], none⟩,
    ⟨(some 32), .mov (.t 34), none⟩,
    ⟨(some 35), .extr (.t 32) 0, none⟩,
    ⟨(some 36), .extr (.t 32) 1, none⟩,
    ⟨(some 37), .extr (.t 32) 2, none⟩,
    ⟨(some 9), .mov (.t 35), none⟩,
    ⟨(some 10), .mov (.t 36), none⟩,
    ⟨(some 11), .mov (.t 37), none⟩])
  (.seq (.region false [⟨(some 39), .bsl 1 (.int .u8 0) 3 [(0, (.c (.int .u8 97))), (1, (.c (.int .u8 195))), (2, (.c (.int .u8 169)))], none⟩,
    ⟨(some 40), .call 20 [(.t 39)], none⟩,
    ⟨(some 38), .mov (.t 40), none⟩,
    ⟨(some 41), .extr (.t 38) 0, none⟩,
    ⟨(some 42), .extr (.t 38) 1, none⟩,
    ⟨(some 12), .mov (.t 41), none⟩,
    ⟨(some 13), .mov (.t 42), none⟩])
  (.seq (.region false [⟨(some 44), .call 16 [(.c (.int .i64 91))], none⟩,
    ⟨(some 43), .mov (.t 44), none⟩,
    ⟨(some 45), .extr (.t 43) 0, none⟩,
    ⟨(some 46), .extr (.t 43) 1, none⟩,
    ⟨(some 14), .mov (.t 45), none⟩,
    ⟨(some 15), .mov (.t 46), none⟩])
  (.seq (.region false [⟨(some 47), .mov (.t 2), none⟩,
    ⟨(some 48), .bin .eql (.t 47) (.c (.int .i64 0)), none⟩,
    ⟨(some 49), .mov (.t 48), none⟩,
    ⟨(some 50), .mov (.t 5), some (49, true)⟩,
    ⟨(some 51), .bin .eql (.t 50) (.c (.int .i64 0)), some (49, true)⟩,
    ⟨(some 52), .pick (.t 49) (.t 51) (.c (.bool false)), none⟩,
    ⟨(some 53), .mov (.t 52), none⟩,
    ⟨(some 54), .mov (.t 8), some (53, true)⟩,
    ⟨(some 55), .bin .eql (.t 54) (.c (.int .i64 370)), some (53, true)⟩,
    ⟨(some 56), .pick (.t 53) (.t 55) (.c (.bool false)), none⟩,
    ⟨(some 57), .mov (.t 56), none⟩,
    ⟨(some 58), .mov (.t 11), some (57, true)⟩,
    ⟨(some 59), .bin .eql (.t 58) (.c (.int .i64 6)), some (57, true)⟩,
    ⟨(some 60), .pick (.t 57) (.t 59) (.c (.bool false)), none⟩,
    ⟨(some 61), .mov (.t 60), none⟩,
    ⟨(some 62), .mov (.t 13), some (61, true)⟩,
    ⟨(some 63), .bin .eql (.t 62) (.c (.int .i64 0)), some (61, true)⟩,
    ⟨(some 64), .pick (.t 61) (.t 63) (.c (.bool false)), none⟩,
    ⟨(some 65), .mov (.t 64), none⟩,
    ⟨(some 66), .mov (.t 15), some (65, true)⟩,
    ⟨(some 67), .bin .eql (.t 66) (.c (.int .i64 0)), some (65, true)⟩,
    ⟨(some 68), .pick (.t 65) (.t 67) (.c (.bool false)), none⟩,
    ⟨(some 69), .mov (.t 68), none⟩,
    ⟨(some 70), .mov (.t 1), some (69, true)⟩,
    ⟨(some 71), .b2s (.t 70), some (69, true)⟩,
    ⟨(some 72), .bin .eql (.t 71) (.c (.str [226, 130, 172])), some (69, true)⟩,
    ⟨(some 73), .pick (.t 69) (.t 72) (.c (.bool false)), none⟩,
    ⟨(some 74), .mov (.t 73), none⟩,
    ⟨(some 75), .mov (.t 3), some (74, true)⟩,
    ⟨(some 76), .bin .eql (.t 75) (.c (.int .i64 233)), some (74, true)⟩,
    ⟨(some 77), .pick (.t 74) (.t 76) (.c (.bool false)), none⟩,
    ⟨(some 78), .mov (.t 77), none⟩,
    ⟨(some 79), .mov (.t 4), some (78, true)⟩,
    ⟨(some 80), .bin .eql (.t 79) (.c (.int .i64 2)), some (78, true)⟩,
    ⟨(some 81), .pick (.t 78) (.t 80) (.c (.bool false)), none⟩,
    ⟨(some 82), .mov (.t 81), none⟩,
    ⟨(some 83), .mov (.t 12), some (82, true)⟩,
    ⟨(some 84), .bsl 1 (.int .i64 0) 3 [(0, (.c (.int .i64 0))), (1, (.c (.int .i64 1))), (2, (.c (.int .i64 3)))], some (82, true)⟩,
    ⟨(some 85), .call 22 [(.t 83), (.t 84)], some (82, true)⟩,
    ⟨(some 86), .pick (.t 82) (.t 85) (.c (.bool false)), none⟩,
    ⟨(some 87), .mov (.t 86), none⟩,
    ⟨(some 88), .mov (.t 14), some (87, true)⟩,
    ⟨(some 89), .bin .eql (.t 88) (.c (.int .i64 3)), some (87, true)⟩,
    ⟨(some 90), .pick (.t 87) (.t 89) (.c (.bool false)), none⟩,
    ⟨(some 0), .mov (.t 90), none⟩])
  (.ret)))))))),
  [.tmp 0]⟩

/- invigilator/runes.Decode -/
def A12 : AFun := ⟨39,
  .seq (.region false [⟨(some 4), .mov (.c (.int .i64 0)), none⟩,
    ⟨(some 5), .mov (.c (.int .i64 0)), none⟩,
    ⟨(some 6), .mov (.c (.int .i64 0)), none⟩])
  (.seq (.seq (.region false [⟨(some 8), .mov (.t 1), none⟩,
    ⟨(some 9), .bin .lss (.t 8) (.c (.int .i64 0)), none⟩,
    ⟨(some 10), .mov (.t 9), none⟩,
    ⟨(some 11), .mov (.t 1), some (10, false)⟩,
    ⟨(some 12), .mov (.t 0), some (10, false)⟩,
    ⟨(some 13), .len (.t 12), some (10, false)⟩,
    ⟨(some 14), .bin .geq (.t 11) (.t 13), some (10, false)⟩,
    ⟨(some 15), .pick (.t 10) (.c (.bool true)) (.t 14), none⟩])
  (.cond (.t 15)
   (.seq (.region false [⟨(some 4), .mov (.c (.int .i64 0)), none⟩,
     ⟨(some 5), .mov (.c (.int .i64 0)), none⟩,
     ⟨(some 6), .mov (.c (.int .i64 7)), none⟩])
   (.ret))
   (.skip)))
  (.seq (.region false [⟨(some 17), .mov (.t 0), none⟩,
    ⟨(some 18), .mov (.t 1), none⟩,
    ⟨(some 19), .sls 1 (.t 17) (some (.t 18)) none none, none⟩,
    ⟨(some 20), .call 34 [(.t 19)], none⟩,
    ⟨(some 16), .mov (.t 20), none⟩,
    ⟨(some 21), .extr (.t 16) 0, none⟩,
    ⟨(some 22), .extr (.t 16) 1, none⟩,
    ⟨(some 7), .mov (.t 21), none⟩,
    ⟨(some 5), .mov (.t 22), none⟩])
  (.seq (.block 0 (.seq (.region false [⟨(some 24), .mov (.t 7), none⟩,
    ⟨(some 25), .bin .neq (.t 24) (.c (.int .i32 65533)), none⟩,
    ⟨(some 26), .mov (.t 25), none⟩,
    ⟨(some 27), .mov (.t 5), some (26, false)⟩,
    ⟨(some 28), .bin .gtr (.t 27) (.c (.int .i64 1)), some (26, false)⟩,
    ⟨(some 29), .pick (.t 26) (.c (.bool true)) (.t 28), none⟩,
    ⟨(some 23), .mov (.t 29), none⟩])
  (.cond (.t 23)
   (.seq (.region false [⟨(some 30), .mov (.t 7), none⟩,
     ⟨(some 31), .conv .i64 (.t 30), none⟩,
     ⟨(some 32), .mov (.t 5), none⟩,
     ⟨(some 4), .mov (.t 31), none⟩,
     ⟨(some 5), .mov (.t 32), none⟩,
     ⟨(some 6), .mov (.c (.int .i64 0)), none⟩])
   (.ret))
   (.seq (.region false [⟨(some 34), .mov (.t 0), none⟩,
     ⟨(some 35), .mov (.t 1), none⟩,
     ⟨(some 36), .sls 1 (.t 34) (some (.t 35)) none none, none⟩,
     ⟨(some 37), .call 35 [(.t 36)], none⟩,
     ⟨(some 38), .not (.t 37), none⟩,
     ⟨(some 33), .mov (.t 38), none⟩])
   (.cond (.t 33)
    (.seq (.region false [⟨(some 4), .mov (.c (.int .i64 0)), none⟩,
      ⟨(some 5), .mov (.c (.int .i64 0)), none⟩,
      ⟨(some 6), .mov (.c (.int .i64 370)), none⟩])
    (.ret))
    (.skip))))))
  (.seq (.region false [⟨(some 4), .mov (.c (.int .i64 0)), none⟩,
    ⟨(some 5), .mov (.c (.int .i64 0)), none⟩,
    ⟨(some 6), .mov (.c (.int .i64 6)), none⟩])
  (.ret))))),
  [.tmp 4, .tmp 5, .tmp 6]⟩

/- invigilator/invigilatorref02.Decode -/
def A13L0 : ACode :=
  .seq (.seq (.region false [⟨(some 18), .mov (.t 7), none⟩,
    ⟨(some 19), .bin .leq (.t 18) (.c (.int .i64 4)), none⟩,
    ⟨(some 20), .mov (.t 19), none⟩,
    ⟨(some 21), .mov (.t 1), some (20, true)⟩,
    ⟨(some 22), .mov (.t 7), some (20, true)⟩,
    ⟨(some 23), .bin .add (.t 21) (.t 22), some (20, true)⟩,
    ⟨(some 24), .mov (.t 0), some (20, true)⟩,
    ⟨(some 25), .len (.t 24), some (20, true)⟩,
    ⟨(some 26), .bin .leq (.t 23) (.t 25), some (20, true)⟩,
    ⟨(some 27), .pick (.t 20) (.t 26) (.c (.bool false)), none⟩])
  (.cond (.t 27)
   (.skip)
   (.exit 0)))
  (.seq (.block 1 (.seq (.region false [⟨(some 31), .mov (.t 0), none⟩,
    ⟨(some 32), .mov (.t 1), none⟩,
    ⟨(some 33), .mov (.t 1), none⟩,
    ⟨(some 34), .mov (.t 7), none⟩,
    ⟨(some 35), .bin .add (.t 33) (.t 34), none⟩,
    ⟨(some 36), .sls 1 (.t 31) (some (.t 32)) (some (.t 35)) none, none⟩,
    ⟨(some 37), .call 36 [(.t 36)], none⟩,
    ⟨(some 30), .mov (.t 37), none⟩,
    ⟨(some 38), .extr (.t 30) 0, none⟩,
    ⟨(some 39), .extr (.t 30) 1, none⟩,
    ⟨(some 8), .mov (.t 38), none⟩,
    ⟨(some 9), .mov (.t 39), none⟩])
  (.seq (.region false [⟨(some 40), .mov (.t 9), none⟩])
  (.cond (.t 40)
   (.seq (.region false [⟨(some 41), .mov (.t 8), none⟩,
     ⟨(some 42), .mov (.t 7), none⟩,
     ⟨(some 4), .mov (.t 41), none⟩,
     ⟨(some 5), .mov (.t 42), none⟩,
     ⟨(some 6), .mov (.c (.int .i64 0)), none⟩])
   (.ret))
   (.skip)))))
  (.region false [⟨(some 28), .mov (.t 7), none⟩,
    ⟨(some 29), .bin .add (.t 28) (.c (.int .i64 1)), none⟩,
    ⟨(some 7), .mov (.t 29), none⟩]))
def A13 : AFun := ⟨54,
  .seq (.region false [⟨(some 4), .mov (.c (.int .i64 0)), none⟩,
    ⟨(some 5), .mov (.c (.int .i64 0)), none⟩,
    ⟨(some 6), .mov (.c (.int .i64 0)), none⟩])
  (.seq (.seq (.region false [⟨(some 10), .mov (.t 1), none⟩,
    ⟨(some 11), .bin .lss (.t 10) (.c (.int .i64 0)), none⟩,
    ⟨(some 12), .mov (.t 11), none⟩,
    ⟨(some 13), .mov (.t 1), some (12, false)⟩,
    ⟨(some 14), .mov (.t 0), some (12, false)⟩,
    ⟨(some 15), .len (.t 14), some (12, false)⟩,
    ⟨(some 16), .bin .geq (.t 13) (.t 15), some (12, false)⟩,
    ⟨(some 17), .pick (.t 12) (.c (.bool true)) (.t 16), none⟩])
  (.cond (.t 17)
   (.seq (.region false [⟨(some 4), .mov (.c (.int .i64 0)), none⟩,
     ⟨(some 5), .mov (.c (.int .i64 0)), none⟩,
     ⟨(some 6), .mov (.c (.int .i64 7)), none⟩])
   (.ret))
   (.skip)))
  (.seq (.seq (.region false [⟨(some 7), .mov (.c (.int .i64 1)), none⟩])
  (.block 0 (.loop A13L0)))
  (.seq (.seq (.region false [⟨(some 43), .mov (.t 0), none⟩,
    ⟨(some 44), .len (.t 43), none⟩,
    ⟨(some 45), .mov (.t 1), none⟩,
    ⟨(some 46), .bin .sub (.t 44) (.t 45), none⟩,
    ⟨(some 47), .bin .lss (.t 46) (.c (.int .i64 4)), none⟩,
    ⟨(some 48), .mov (.t 47), none⟩,
    ⟨(some 49), .mov (.t 0), some (48, true)⟩,
    ⟨(some 50), .mov (.t 1), some (48, true)⟩,
    ⟨(some 51), .sls 1 (.t 49) (some (.t 50)) none none, some (48, true)⟩,
    ⟨(some 52), .call 37 [(.t 51)], some (48, true)⟩,
    ⟨(some 53), .pick (.t 48) (.t 52) (.c (.bool false)), none⟩])
  (.cond (.t 53)
   (.seq (.region false [⟨(some 4), .mov (.c (.int .i64 0)), none⟩,
     ⟨(some 5), .mov (.c (.int .i64 0)), none⟩,
     ⟨(some 6), .mov (.c (.int .i64 370)), none⟩])
   (.ret))
   (.skip)))
  (.seq (.region false [⟨(some 4), .mov (.c (.int .i64 0)), none⟩,
    ⟨(some 5), .mov (.c (.int .i64 0)), none⟩,
    ⟨(some 6), .mov (.c (.int .i64 6)), none⟩])
  (.ret))))),
  [.tmp 4, .tmp 5, .tmp 6]⟩

/- invigilator/runes.Encode -/
def A14 : AFun := ⟨63,
  .seq (.region false [⟨(some 2), .mov (.c (.sl .ex [])), none⟩,
    ⟨(some 3), .mov (.c (.int .i64 0)), none⟩])
  (.seq (.seq (.region false [⟨(some 7), .mov (.t 0), none⟩,
    ⟨(some 8), .call 38 [(.t 7)], none⟩,
    ⟨(some 9), .not (.t 8), none⟩])
  (.cond (.t 9)
   (.seq (.region false [⟨(some 2), .mov (.c (.sl .ex [])), none⟩,
     ⟨(some 3), .mov (.c (.int .i64 7)), none⟩])
   (.ret))
   (.skip)))
  (.seq (.region false [⟨(some 4), .alloc [.int .u8 0, .int .u8 0, .int .u8 0, .int .u8 0], none⟩])
  (.seq (.region false [⟨(some 5), .alloc [.int .i64 0], none⟩,
    ⟨none, .st 1 (.t 5) (.c (.int .i64 0)), none⟩])
  (.seq (.region false [⟨(some 10), .mkf 39 [] [(.t 4), (.t 5)], none⟩,
    ⟨(some 6), .mov (.t 10), none⟩])
  (.seq (.seq (.region false [⟨(some 11), .mov (.t 0), none⟩,
    ⟨(some 12), .conv .i32 (.t 11), none⟩,
    ⟨(some 13), .call 40 [(.t 12)], none⟩])
  (.block 0 (.seq (.block 4 (.seq (.block 3 (.seq (.block 2 (.seq (.block 1 (.seq (.seq (.seq (.region false [⟨(some 15), .bin .eql (.t 13) (.c (.int .i64 1)), none⟩,
    ⟨(some 14), .mov (.t 15), none⟩])
  (.cond (.t 14)
   (.exit 1)
   (.skip)))
  (.seq (.seq (.region false [⟨(some 17), .bin .eql (.t 13) (.c (.int .i64 4)), none⟩,
    ⟨(some 16), .mov (.t 17), none⟩])
  (.cond (.t 16)
   (.exit 2)
   (.skip)))
  (.seq (.seq (.region false [⟨(some 19), .bin .eql (.t 13) (.c (.int .i64 3)), none⟩,
    ⟨(some 18), .mov (.t 19), none⟩])
  (.cond (.t 18)
   (.exit 3)
   (.skip)))
  (.seq (.region false [⟨(some 21), .bin .eql (.t 13) (.c (.int .i64 2)), none⟩,
    ⟨(some 20), .mov (.t 21), none⟩])
  (.cond (.t 20)
   (.exit 4)
   (.skip))))))
  (.exit 0)))
  (.seq (.region false [⟨(some 22), .mov (.t 6), none⟩,
    ⟨(some 23), .mov (.t 0), none⟩,
    ⟨(some 24), .callv (.t 22) [(.t 23)], none⟩])
  (.exit 0))))
  (.region false [⟨(some 25), .mov (.t 6), none⟩,
    ⟨(some 26), .mov (.t 0), none⟩,
    ⟨(some 27), .bin .shr (.t 26) (.c (.int .u64 18)), none⟩,
    ⟨(some 28), .bin .or (.c (.int .i64 240)) (.t 27), none⟩,
    ⟨(some 29), .callv (.t 25) [(.t 28)], none⟩])))
  (.seq (.region false [⟨(some 30), .ld none (.t 5), none⟩,
    ⟨(some 31), .bin .eql (.t 30) (.c (.int .i64 0)), none⟩])
  (.cond (.t 31)
   (.region false [⟨(some 32), .mov (.t 6), none⟩,
     ⟨(some 33), .mov (.t 0), none⟩,
     ⟨(some 34), .bin .shr (.t 33) (.c (.int .u64 12)), none⟩,
     ⟨(some 35), .bin .or (.c (.int .i64 224)) (.t 34), none⟩,
     ⟨(some 36), .callv (.t 32) [(.t 35)], none⟩])
   (.region false [⟨(some 37), .mov (.t 6), none⟩,
     ⟨(some 38), .mov (.t 0), none⟩,
     ⟨(some 39), .bin .shr (.t 38) (.c (.int .u64 12)), none⟩,
     ⟨(some 40), .bin .and (.t 39) (.c (.int .i64 63)), none⟩,
     ⟨(some 41), .bin .or (.c (.int .i64 128)) (.t 40), none⟩,
     ⟨(some 42), .callv (.t 37) [(.t 41)], none⟩])))))
  (.seq (.seq (.seq (.region false [⟨(some 43), .ld none (.t 5), none⟩,
    ⟨(some 44), .bin .eql (.t 43) (.c (.int .i64 0)), none⟩])
  (.cond (.t 44)
   (.region false [⟨(some 45), .mov (.t 6), none⟩,
     ⟨(some 46), .mov (.t 0), none⟩,
     ⟨(some 47), .bin .shr (.t 46) (.c (.int .u64 6)), none⟩,
     ⟨(some 48), .bin .or (.c (.int .i64 192)) (.t 47), none⟩,
     ⟨(some 49), .callv (.t 45) [(.t 48)], none⟩])
   (.region false [⟨(some 50), .mov (.t 6), none⟩,
     ⟨(some 51), .mov (.t 0), none⟩,
     ⟨(some 52), .bin .shr (.t 51) (.c (.int .u64 6)), none⟩,
     ⟨(some 53), .bin .and (.t 52) (.c (.int .i64 63)), none⟩,
     ⟨(some 54), .bin .or (.c (.int .i64 128)) (.t 53), none⟩,
     ⟨(some 55), .callv (.t 50) [(.t 54)], none⟩])))
  (.region false [⟨(some 56), .mov (.t 6), none⟩,
    ⟨(some 57), .mov (.t 0), none⟩,
    ⟨(some 58), .bin .and (.t 57) (.c (.int .i64 63)), none⟩,
    ⟨(some 59), .bin .or (.c (.int .i64 128)) (.t 58), none⟩,
    ⟨(some 60), .callv (.t 56) [(.t 59)], none⟩]))
  (.exit 0)))))
  (.seq (.region false [⟨(some 61), .ld none (.t 5), none⟩,
    ⟨(some 62), .slA 4 1 (.t 4) none (some (.t 61)) none, none⟩,
    ⟨(some 2), .mov (.t 62), none⟩,
    ⟨(some 3), .mov (.c (.int .i64 0)), none⟩])
  (.ret))))))),
  [.tmp 2, .tmp 3]⟩

/- invigilator/invigilatorref02.Encode -/
def A15 : AFun := ⟨58,
  .seq (.region false [⟨(some 2), .mov (.c (.sl .ex [])), none⟩,
    ⟨(some 3), .mov (.c (.int .i64 0)), none⟩])
  (.seq (.seq (.region false [⟨(some 4), .mov (.t 0), none⟩,
    ⟨(some 5), .call 41 [(.t 4)], none⟩,
    ⟨(some 6), .not (.t 5), none⟩])
  (.cond (.t 6)
   (.seq (.region false [⟨(some 2), .mov (.c (.sl .ex [])), none⟩,
     ⟨(some 3), .mov (.c (.int .i64 7)), none⟩])
   (.ret))
   (.skip)))
  (.seq (.seq (.region false [⟨(some 7), .mov (.t 0), none⟩,
    ⟨(some 8), .bin .lss (.t 7) (.c (.int .i64 128)), none⟩])
  (.cond (.t 8)
   (.seq (.region false [⟨(some 9), .mov (.t 0), none⟩,
     ⟨(some 10), .conv .u8 (.t 9), none⟩,
     ⟨(some 11), .bsl 1 (.int .u8 0) 1 [(0, (.t 10))], none⟩,
     ⟨(some 2), .mov (.t 11), none⟩,
     ⟨(some 3), .mov (.c (.int .i64 0)), none⟩])
   (.ret))
   (.skip)))
  (.seq (.seq (.region false [⟨(some 12), .mov (.t 0), none⟩,
    ⟨(some 13), .bin .lss (.t 12) (.c (.int .i64 2048)), none⟩])
  (.cond (.t 13)
   (.seq (.region false [⟨(some 14), .mov (.t 0), none⟩,
     ⟨(some 15), .bin .quo (.t 14) (.c (.int .i64 64)), none⟩,
     ⟨(some 16), .bin .add (.c (.int .i64 192)) (.t 15), none⟩,
     ⟨(some 17), .conv .u8 (.t 16), none⟩,
     ⟨(some 18), .mov (.t 0), none⟩,
     ⟨(some 19), .bin .rem (.t 18) (.c (.int .i64 64)), none⟩,
     ⟨(some 20), .bin .add (.c (.int .i64 128)) (.t 19), none⟩,
     ⟨(some 21), .conv .u8 (.t 20), none⟩,
     ⟨(some 22), .bsl 1 (.int .u8 0) 2 [(0, (.t 17)), (1, (.t 21))], none⟩,
     ⟨(some 2), .mov (.t 22), none⟩,
     ⟨(some 3), .mov (.c (.int .i64 0)), none⟩])
   (.ret))
   (.skip)))
  (.seq (.seq (.region false [⟨(some 23), .mov (.t 0), none⟩,
    ⟨(some 24), .bin .lss (.t 23) (.c (.int .i64 65536)), none⟩])
  (.cond (.t 24)
   (.seq (.region false [⟨(some 25), .mov (.t 0), none⟩,
     ⟨(some 26), .bin .quo (.t 25) (.c (.int .i64 4096)), none⟩,
     ⟨(some 27), .bin .add (.c (.int .i64 224)) (.t 26), none⟩,
     ⟨(some 28), .conv .u8 (.t 27), none⟩,
     ⟨(some 29), .mov (.t 0), none⟩,
     ⟨(some 30), .bin .quo (.t 29) (.c (.int .i64 64)), none⟩,
     ⟨(some 31), .bin .rem (.t 30) (.c (.int .i64 64)), none⟩,
     ⟨(some 32), .bin .add (.c (.int .i64 128)) (.t 31), none⟩,
     ⟨(some 33), .conv .u8 (.t 32), none⟩,
     ⟨(some 34), .mov (.t 0), none⟩,
     ⟨(some 35), .bin .rem (.t 34) (.c (.int .i64 64)), none⟩,
     ⟨(some 36), .bin .add (.c (.int .i64 128)) (.t 35), none⟩,
     ⟨(some 37), .conv .u8 (.t 36), none⟩,
     ⟨(some 38), .bsl 1 (.int .u8 0) 3 [(0, (.t 28)), (1, (.t 33)), (2, (.t 37))], none⟩,
     ⟨(some 2), .mov (.t 38), none⟩,
     ⟨(some 3), .mov (.c (.int .i64 0)), none⟩])
   (.ret))
   (.skip)))
  (.seq (.region false [⟨(some 39), .mov (.t 0), none⟩,
    ⟨(some 40), .bin .quo (.t 39) (.c (.int .i64 262144)), none⟩,
    ⟨(some 41), .bin .add (.c (.int .i64 240)) (.t 40), none⟩,
    ⟨(some 42), .conv .u8 (.t 41), none⟩,
    ⟨(some 43), .mov (.t 0), none⟩,
    ⟨(some 44), .bin .quo (.t 43) (.c (.int .i64 4096)), none⟩,
    ⟨(some 45), .bin .rem (.t 44) (.c (.int .i64 64)), none⟩,
    ⟨(some 46), .bin .add (.c (.int .i64 128)) (.t 45), none⟩,
    ⟨(some 47), .conv .u8 (.t 46), none⟩,
    ⟨(some 48), .mov (.t 0), none⟩,
    ⟨(some 49), .bin .quo (.t 48) (.c (.int .i64 64)), none⟩,
    ⟨(some 50), .bin .rem (.t 49) (.c (.int .i64 64)), none⟩,
    ⟨(some 51), .bin .add (.c (.int .i64 128)) (.t 50), none⟩,
    ⟨(some 52), .conv .u8 (.t 51), none⟩,
    ⟨(some 53), .mov (.t 0), none⟩,
    ⟨(some 54), .bin .rem (.t 53) (.c (.int .i64 64)), none⟩,
    ⟨(some 55), .bin .add (.c (.int .i64 128)) (.t 54), none⟩,
    ⟨(some 56), .conv .u8 (.t 55), none⟩,
    ⟨(some 57), .bsl 1 (.int .u8 0) 4 [(0, (.t 42)), (1, (.t 47)), (2, (.t 52)), (3, (.t 56))], none⟩,
    ⟨(some 2), .mov (.t 57), none⟩,
    ⟨(some 3), .mov (.c (.int .i64 0)), none⟩])
  (.ret)))))),
  [.tmp 2, .tmp 3]⟩

/- invigilator/runes.Class -/
def A16L0 : ACode :=
  .seq (.region false [⟨(some 26), .bin .lss (.t 25) (.c (.int .i64 10)), none⟩])
  (.seq (.cond (.t 26)
   (.skip)
   (.exit 1))
  (.seq (.block 2 (.seq (.region false [⟨(some 27), .mov (.t 25), none⟩,
    ⟨(some 28), .idxG 10 1 none (.t 24) (.t 25), none⟩,
    ⟨(some 4), .mov (.t 27), none⟩,
    ⟨(some 5), .mov (.t 28), none⟩])
  (.seq (.region false [⟨(some 29), .mov (.t 5), none⟩,
    ⟨(some 30), .mov (.t 0), none⟩,
    ⟨(some 31), .conv .i32 (.t 30), none⟩,
    ⟨(some 32), .call 43 [(.t 29), (.t 31)], none⟩])
  (.cond (.t 32)
   (.seq (.region false [⟨(some 33), .mov (.t 4), none⟩,
     ⟨(some 2), .mov (.t 33), none⟩,
     ⟨(some 3), .mov (.c (.int .i64 0)), none⟩])
   (.ret))
   (.skip)))))
  (.region false [⟨(some 34), .bin .add (.t 25) (.c (.int .i64 1)), none⟩,
    ⟨(some 25), .mov (.t 34), none⟩])))
def A16 : AFun := ⟨35,
  .seq (.region false [⟨(some 2), .mov (.c (.int .i64 0)), none⟩,
    ⟨(some 3), .mov (.c (.int .i64 0)), none⟩])
  (.seq (.block 0 (.seq (.region false [⟨(some 7), .mov (.t 0), none⟩,
    ⟨(some 8), .call 38 [(.t 7)], none⟩,
    ⟨(some 9), .not (.t 8), none⟩,
    ⟨(some 6), .mov (.t 9), none⟩])
  (.cond (.t 6)
   (.seq (.region false [⟨(some 2), .mov (.c (.int .i64 0)), none⟩,
     ⟨(some 3), .mov (.c (.int .i64 7)), none⟩])
   (.ret))
   (.seq (.region false [⟨(some 11), .mov (.t 0), none⟩,
     ⟨(some 12), .bin .geq (.t 11) (.c (.int .i64 48)), none⟩,
     ⟨(some 13), .mov (.t 12), none⟩,
     ⟨(some 14), .mov (.t 0), some (13, true)⟩,
     ⟨(some 15), .bin .leq (.t 14) (.c (.int .i64 57)), some (13, true)⟩,
     ⟨(some 16), .pick (.t 13) (.t 15) (.c (.bool false)), none⟩,
     ⟨(some 10), .mov (.t 16), none⟩])
   (.cond (.t 10)
    (.seq (.region false [⟨(some 2), .mov (.c (.int .i64 6)), none⟩,
      ⟨(some 3), .mov (.c (.int .i64 0)), none⟩])
    (.ret))
    (.seq (.region false [⟨(some 18), .mov (.t 0), none⟩,
      ⟨(some 19), .bin .geq (.t 18) (.c (.int .i64 97)), none⟩,
      ⟨(some 20), .mov (.t 19), none⟩,
      ⟨(some 21), .mov (.t 0), some (20, true)⟩,
      ⟨(some 22), .bin .leq (.t 21) (.c (.int .i64 122)), some (20, true)⟩,
      ⟨(some 23), .pick (.t 20) (.t 22) (.c (.bool false)), none⟩,
      ⟨(some 17), .mov (.t 23), none⟩])
    (.cond (.t 17)
     (.seq (.region false [⟨(some 2), .mov (.c (.int .i64 8)), none⟩,
       ⟨(some 3), .mov (.c (.int .i64 0)), none⟩])
     (.ret))
     (.skip))))))))
  (.seq (.seq (.region false [⟨(some 24), .call 42 [], none⟩,
    ⟨(some 25), .mov (.c (.int .i64 0)), none⟩])
  (.block 1 (.loop A16L0)))
  (.seq (.region false [⟨(some 2), .mov (.c (.int .i64 10)), none⟩,
    ⟨(some 3), .mov (.c (.int .i64 0)), none⟩])
  (.ret)))),
  [.tmp 2, .tmp 3]⟩

/- invigilator/invigilatorref02.Class -/
def A17 : AFun := ⟨33,
  .seq (.region false [⟨(some 2), .mov (.c (.int .i64 0)), none⟩,
    ⟨(some 3), .mov (.c (.int .i64 0)), none⟩])
  (.seq (.seq (.region false [⟨(some 4), .mov (.t 0), none⟩,
    ⟨(some 5), .call 41 [(.t 4)], none⟩,
    ⟨(some 6), .not (.t 5), none⟩])
  (.cond (.t 6)
   (.seq (.region false [⟨(some 2), .mov (.c (.int .i64 0)), none⟩,
     ⟨(some 3), .mov (.c (.int .i64 7)), none⟩])
   (.ret))
   (.skip)))
  (.seq (.seq (.region false [⟨(some 7), .mov (.t 0), none⟩,
    ⟨(some 8), .bin .eql (.t 7) (.c (.int .i64 32)), none⟩])
  (.cond (.t 8)
   (.seq (.region false [⟨(some 2), .mov (.c (.int .i64 1)), none⟩,
     ⟨(some 3), .mov (.c (.int .i64 0)), none⟩])
   (.ret))
   (.skip)))
  (.seq (.seq (.region false [⟨(some 9), .mov (.t 0), none⟩,
    ⟨(some 10), .bin .eql (.t 9) (.c (.int .i64 10)), none⟩])
  (.cond (.t 10)
   (.seq (.region false [⟨(some 2), .mov (.c (.int .i64 2)), none⟩,
     ⟨(some 3), .mov (.c (.int .i64 0)), none⟩])
   (.ret))
   (.skip)))
  (.seq (.seq (.region false [⟨(some 11), .mov (.t 0), none⟩,
    ⟨(some 12), .call 44 [(.t 11), (.c (.str [40, 91]))], none⟩])
  (.cond (.t 12)
   (.seq (.region false [⟨(some 2), .mov (.c (.int .i64 3)), none⟩,
     ⟨(some 3), .mov (.c (.int .i64 0)), none⟩])
   (.ret))
   (.skip)))
  (.seq (.seq (.region false [⟨(some 13), .mov (.t 0), none⟩,
    ⟨(some 14), .call 44 [(.t 13), (.c (.str [41, 93]))], none⟩])
  (.cond (.t 14)
   (.seq (.region false [⟨(some 2), .mov (.c (.int .i64 4)), none⟩,
     ⟨(some 3), .mov (.c (.int .i64 0)), none⟩])
   (.ret))
   (.skip)))
  (.seq (.seq (.region false [⟨(some 15), .mov (.t 0), none⟩,
    ⟨(some 16), .bin .eql (.t 15) (.c (.int .i64 34)), none⟩])
  (.cond (.t 16)
   (.seq (.region false [⟨(some 2), .mov (.c (.int .i64 5)), none⟩,
     ⟨(some 3), .mov (.c (.int .i64 0)), none⟩])
   (.ret))
   (.skip)))
  (.seq (.seq (.region false [⟨(some 17), .mov (.t 0), none⟩,
    ⟨(some 18), .bin .geq (.t 17) (.c (.int .i64 48)), none⟩,
    ⟨(some 19), .mov (.t 18), none⟩,
    ⟨(some 20), .mov (.t 0), some (19, true)⟩,
    ⟨(some 21), .bin .leq (.t 20) (.c (.int .i64 57)), some (19, true)⟩,
    ⟨(some 22), .pick (.t 19) (.t 21) (.c (.bool false)), none⟩])
  (.cond (.t 22)
   (.seq (.region false [⟨(some 2), .mov (.c (.int .i64 6)), none⟩,
     ⟨(some 3), .mov (.c (.int .i64 0)), none⟩])
   (.ret))
   (.skip)))
  (.seq (.seq (.region false [⟨(some 23), .mov (.t 0), none⟩,
    ⟨(some 24), .bin .eql (.t 23) (.c (.int .i64 45)), none⟩])
  (.cond (.t 24)
   (.seq (.region false [⟨(some 2), .mov (.c (.int .i64 7)), none⟩,
     ⟨(some 3), .mov (.c (.int .i64 0)), none⟩])
   (.ret))
   (.skip)))
  (.seq (.seq (.region false [⟨(some 25), .mov (.t 0), none⟩,
    ⟨(some 26), .bin .geq (.t 25) (.c (.int .i64 97)), none⟩,
    ⟨(some 27), .mov (.t 26), none⟩,
    ⟨(some 28), .mov (.t 0), some (27, true)⟩,
    ⟨(some 29), .bin .leq (.t 28) (.c (.int .i64 122)), some (27, true)⟩,
    ⟨(some 30), .pick (.t 27) (.t 29) (.c (.bool false)), none⟩])
  (.cond (.t 30)
   (.seq (.region false [⟨(some 2), .mov (.c (.int .i64 8)), none⟩,
     ⟨(some 3), .mov (.c (.int .i64 0)), none⟩])
   (.ret))
   (.skip)))
  (.seq (.seq (.region false [⟨(some 31), .mov (.t 0), none⟩,
    ⟨(some 32), .call 44 [(.t 31), (.c (.str [60, 61]))], none⟩])
  (.cond (.t 32)
   (.seq (.region false [⟨(some 2), .mov (.c (.int .i64 9)), none⟩,
     ⟨(some 3), .mov (.c (.int .i64 0)), none⟩])
   (.ret))
   (.skip)))
  (.seq (.region false [⟨(some 2), .mov (.c (.int .i64 10)), none⟩,
    ⟨(some 3), .mov (.c (.int .i64 0)), none⟩])
  (.ret)))))))))))),
  [.tmp 2, .tmp 3]⟩

/- invigilator/runes.Runes -/
def A18R0a : ACode :=
  .region false [⟨(some 8), .mov (.t 20), none⟩]
def A18R0b : ACode :=
  .block 1 (.region false [⟨(some 21), .ld none (.t 6), none⟩,
    ⟨(some 22), .mov (.t 8), none⟩,
    ⟨(some 23), .bsl 1 (.int .i64 0) 1 [(0, (.t 22))], none⟩,
    ⟨(some 24), .app 1 8 (.t 21) (.t 23), none⟩,
    ⟨none, .st 1 (.t 6) (.t 24), none⟩])
def A18 : AFun := ⟨26,
  .seq (.region false [⟨(some 2), .mov (.c (.sl .ex [])), none⟩,
    ⟨(some 3), .mov (.c (.int .i64 0)), none⟩])
  (.seq (.seq (.region false [⟨(some 10), .mov (.t 0), none⟩,
    ⟨(some 11), .call 28 [(.t 10)], none⟩,
    ⟨(some 9), .mov (.t 11), none⟩,
    ⟨(some 12), .extr (.t 9) 0, none⟩,
    ⟨(some 13), .extr (.t 9) 1, none⟩,
    ⟨(some 4), .mov (.t 12), none⟩,
    ⟨(some 5), .mov (.t 13), none⟩])
  (.seq (.region false [⟨(some 14), .mov (.t 5), none⟩,
    ⟨(some 15), .bin .neq (.t 14) (.c (.int .i64 0)), none⟩])
  (.cond (.t 15)
   (.seq (.region false [⟨(some 16), .mov (.t 5), none⟩,
     ⟨(some 2), .mov (.c (.sl .ex [])), none⟩,
     ⟨(some 3), .mov (.t 16), none⟩])
   (.ret))
   (.skip))))
  (.seq (.region false [⟨(some 6), .alloc [.sl .ex []], none⟩])
  (.seq (.seq (.region false [⟨(some 17), .mov (.t 0), none⟩,
    ⟨(some 18), .call 45 [(.t 17)], none⟩])
  (.block 0 (.rangeF (.t 18) [19, 20] A18R0a A18R0b)))
  (.seq (.region false [⟨(some 25), .ld none (.t 6), none⟩,
    ⟨(some 2), .mov (.t 25), none⟩,
    ⟨(some 3), .mov (.c (.int .i64 0)), none⟩])
  (.ret))))),
  [.tmp 2, .tmp 3]⟩

/- invigilator/runes.Count -/
def A19 : AFun := ⟨14,
  .seq (.region false [⟨(some 2), .mov (.c (.int .i64 0)), none⟩,
    ⟨(some 3), .mov (.c (.int .i64 0)), none⟩])
  (.seq (.region false [⟨(some 7), .mov (.t 0), none⟩,
    ⟨(some 8), .call 18 [(.t 7)], none⟩,
    ⟨(some 6), .mov (.t 8), none⟩,
    ⟨(some 9), .extr (.t 6) 0, none⟩,
    ⟨(some 10), .extr (.t 6) 1, none⟩,
    ⟨(some 4), .mov (.t 9), none⟩,
    ⟨(some 5), .mov (.t 10), none⟩])
  (.seq (.region false [⟨(some 11), .mov (.t 4), none⟩,
    ⟨(some 12), .len (.t 11), none⟩,
    ⟨(some 13), .mov (.t 5), none⟩,
    ⟨(some 2), .mov (.t 12), none⟩,
    ⟨(some 3), .mov (.t 13), none⟩])
  (.ret))),
  [.tmp 2, .tmp 3]⟩

/- invigilator/runes.Starts -/
def A20R0a : ACode :=
  .region false [⟨(some 7), .mov (.t 18), none⟩]
def A20R0b : ACode :=
  .block 1 (.region false [⟨(some 20), .ld none (.t 6), none⟩,
    ⟨(some 21), .mov (.t 7), none⟩,
    ⟨(some 22), .bsl 1 (.int .i64 0) 1 [(0, (.t 21))], none⟩,
    ⟨(some 23), .app 1 8 (.t 20) (.t 22), none⟩,
    ⟨none, .st 1 (.t 6) (.t 23), none⟩])
def A20 : AFun := ⟨29,
  .seq (.region false [⟨(some 2), .mov (.c (.sl .ex [])), none⟩,
    ⟨(some 3), .mov (.c (.int .i64 0)), none⟩])
  (.seq (.seq (.region false [⟨(some 9), .mov (.t 0), none⟩,
    ⟨(some 10), .call 28 [(.t 9)], none⟩,
    ⟨(some 8), .mov (.t 10), none⟩,
    ⟨(some 11), .extr (.t 8) 0, none⟩,
    ⟨(some 12), .extr (.t 8) 1, none⟩,
    ⟨(some 4), .mov (.t 11), none⟩,
    ⟨(some 5), .mov (.t 12), none⟩])
  (.seq (.region false [⟨(some 13), .mov (.t 5), none⟩,
    ⟨(some 14), .bin .neq (.t 13) (.c (.int .i64 0)), none⟩])
  (.cond (.t 14)
   (.seq (.region false [⟨(some 15), .mov (.t 5), none⟩,
     ⟨(some 2), .mov (.c (.sl .ex [])), none⟩,
     ⟨(some 3), .mov (.t 15), none⟩])
   (.ret))
   (.skip))))
  (.seq (.region false [⟨(some 6), .alloc [.sl .ex []], none⟩])
  (.seq (.seq (.region false [⟨(some 16), .mov (.t 0), none⟩,
    ⟨(some 17), .call 45 [(.t 16)], none⟩])
  (.block 0 (.rangeF (.t 17) [18, 19] A20R0a A20R0b)))
  (.seq (.region false [⟨(some 24), .ld none (.t 6), none⟩,
    ⟨(some 25), .mov (.t 0), none⟩,
    ⟨(some 26), .len (.t 25), none⟩,
    ⟨(some 27), .bsl 1 (.int .i64 0) 1 [(0, (.t 26))], none⟩,
    ⟨(some 28), .app 1 8 (.t 24) (.t 27), none⟩,
    ⟨(some 2), .mov (.t 28), none⟩,
    ⟨(some 3), .mov (.c (.int .i64 0)), none⟩])
  (.ret))))),
  [.tmp 2, .tmp 3]⟩

/- invigilator/invigilatorref02.Same -/
def A21L0 : ACode :=
  .seq (.seq (.region false [⟨(some 11), .mov (.t 5), none⟩,
    ⟨(some 12), .mov (.t 0), none⟩,
    ⟨(some 13), .len (.t 12), none⟩,
    ⟨(some 14), .bin .lss (.t 11) (.t 13), none⟩])
  (.cond (.t 14)
   (.skip)
   (.exit 0)))
  (.seq (.block 1 (.seq (.region true [⟨(some 17), .mov (.t 0), none⟩,
    ⟨(some 18), .mov (.t 5), none⟩,
    ⟨(some 19), .idxA 1 (.t 17) (.t 18), none⟩,
    ⟨(some 20), .ld none (.t 19), none⟩,
    ⟨(some 21), .mov (.t 1), none⟩,
    ⟨(some 22), .mov (.t 5), none⟩,
    ⟨(some 23), .idxA 1 (.t 21) (.t 22), none⟩,
    ⟨(some 24), .ld none (.t 23), none⟩,
    ⟨(some 25), .bin .neq (.t 20) (.t 24), none⟩])
  (.cond (.t 25)
   (.seq (.region false [⟨(some 4), .mov (.c (.bool false)), none⟩])
   (.ret))
   (.skip))))
  (.region false [⟨(some 15), .mov (.t 5), none⟩,
    ⟨(some 16), .bin .add (.t 15) (.c (.int .i64 1)), none⟩,
    ⟨(some 5), .mov (.t 16), none⟩]))
def A21 : AFun := ⟨26,
  .seq (.region false [⟨(some 4), .mov (.c (.bool false)), none⟩])
  (.seq (.seq (.region false [⟨(some 6), .mov (.t 0), none⟩,
    ⟨(some 7), .len (.t 6), none⟩,
    ⟨(some 8), .mov (.t 1), none⟩,
    ⟨(some 9), .len (.t 8), none⟩,
    ⟨(some 10), .bin .neq (.t 7) (.t 9), none⟩])
  (.cond (.t 10)
   (.seq (.region false [⟨(some 4), .mov (.c (.bool false)), none⟩])
   (.ret))
   (.skip)))
  (.seq (.seq (.region false [⟨(some 5), .mov (.c (.int .i64 0)), none⟩])
  (.block 0 (.loop A21L0)))
  (.seq (.region false [⟨(some 4), .mov (.c (.bool true)), none⟩])
  (.ret)))),
  [.tmp 4]⟩

/- invigilator/invigilatorref02.SameInts -/
def A22L0 : ACode :=
  .seq (.seq (.region false [⟨(some 11), .mov (.t 5), none⟩,
    ⟨(some 12), .mov (.t 0), none⟩,
    ⟨(some 13), .len (.t 12), none⟩,
    ⟨(some 14), .bin .lss (.t 11) (.t 13), none⟩])
  (.cond (.t 14)
   (.skip)
   (.exit 0)))
  (.seq (.block 1 (.seq (.region true [⟨(some 17), .mov (.t 0), none⟩,
    ⟨(some 18), .mov (.t 5), none⟩,
    ⟨(some 19), .idxA 1 (.t 17) (.t 18), none⟩,
    ⟨(some 20), .ld none (.t 19), none⟩,
    ⟨(some 21), .mov (.t 1), none⟩,
    ⟨(some 22), .mov (.t 5), none⟩,
    ⟨(some 23), .idxA 1 (.t 21) (.t 22), none⟩,
    ⟨(some 24), .ld none (.t 23), none⟩,
    ⟨(some 25), .bin .neq (.t 20) (.t 24), none⟩])
  (.cond (.t 25)
   (.seq (.region false [⟨(some 4), .mov (.c (.bool false)), none⟩])
   (.ret))
   (.skip))))
  (.region false [⟨(some 15), .mov (.t 5), none⟩,
    ⟨(some 16), .bin .add (.t 15) (.c (.int .i64 1)), none⟩,
    ⟨(some 5), .mov (.t 16), none⟩]))
def A22 : AFun := ⟨26,
  .seq (.region false [⟨(some 4), .mov (.c (.bool false)), none⟩])
  (.seq (.seq (.region false [⟨(some 6), .mov (.t 0), none⟩,
    ⟨(some 7), .len (.t 6), none⟩,
    ⟨(some 8), .mov (.t 1), none⟩,
    ⟨(some 9), .len (.t 8), none⟩,
    ⟨(some 10), .bin .neq (.t 7) (.t 9), none⟩])
  (.cond (.t 10)
   (.seq (.region false [⟨(some 4), .mov (.c (.bool false)), none⟩])
   (.ret))
   (.skip)))
  (.seq (.seq (.region false [⟨(some 5), .mov (.c (.int .i64 0)), none⟩])
  (.block 0 (.loop A22L0)))
  (.seq (.region false [⟨(some 4), .mov (.c (.bool true)), none⟩])
  (.ret)))),
  [.tmp 4]⟩

/- invigilator/invigilatorref02.Starts -/
def A23L0 : ACode :=
  .seq (.seq (.region false [⟨(some 19), .mov (.t 7), none⟩,
    ⟨(some 20), .mov (.t 0), none⟩,
    ⟨(some 21), .len (.t 20), none⟩,
    ⟨(some 22), .bin .lss (.t 19) (.t 21), none⟩])
  (.cond (.t 22)
   (.skip)
   (.exit 0)))
  (.block 1 (.seq (.region false [⟨(some 23), .mov (.t 6), none⟩,
    ⟨(some 24), .mov (.t 7), none⟩,
    ⟨(some 25), .bsl 1 (.int .i64 0) 1 [(0, (.t 24))], none⟩,
    ⟨(some 26), .app 1 8 (.t 23) (.t 25), none⟩,
    ⟨(some 6), .mov (.t 26), none⟩])
  (.seq (.region false [⟨(some 28), .mov (.t 0), none⟩,
    ⟨(some 29), .mov (.t 7), none⟩,
    ⟨(some 30), .call 13 [(.t 28), (.t 29)], none⟩,
    ⟨(some 27), .mov (.t 30), none⟩,
    ⟨(some 31), .extr (.t 27) 0, none⟩,
    ⟨(some 32), .extr (.t 27) 1, none⟩,
    ⟨(some 33), .extr (.t 27) 2, none⟩,
    ⟨(some 8), .mov (.t 31), none⟩,
    ⟨(some 9), .mov (.t 32), none⟩,
    ⟨(some 10), .mov (.t 33), none⟩])
  (.region false [⟨(some 34), .mov (.t 7), none⟩,
    ⟨(some 35), .mov (.t 9), none⟩,
    ⟨(some 36), .bin .add (.t 34) (.t 35), none⟩,
    ⟨(some 7), .mov (.t 36), none⟩]))))
def A23 : AFun := ⟨41,
  .seq (.region false [⟨(some 2), .mov (.c (.sl .ex [])), none⟩,
    ⟨(some 3), .mov (.c (.int .i64 0)), none⟩])
  (.seq (.region false [⟨(some 12), .mov (.t 0), none⟩,
    ⟨(some 13), .call 30 [(.t 12)], none⟩,
    ⟨(some 11), .mov (.t 13), none⟩,
    ⟨(some 14), .extr (.t 11) 0, none⟩,
    ⟨(some 15), .extr (.t 11) 1, none⟩,
    ⟨(some 4), .mov (.t 14), none⟩,
    ⟨(some 5), .mov (.t 15), none⟩])
  (.seq (.seq (.region false [⟨(some 16), .mov (.t 5), none⟩,
    ⟨(some 17), .bin .neq (.t 16) (.c (.int .i64 0)), none⟩])
  (.cond (.t 17)
   (.seq (.region false [⟨(some 18), .mov (.t 5), none⟩,
     ⟨(some 2), .mov (.c (.sl .ex [])), none⟩,
     ⟨(some 3), .mov (.t 18), none⟩])
   (.ret))
   (.skip)))
  (.seq (.region false [⟨(some 6), .mov (.c (.sl .ex [])), none⟩])
  (.seq (.region false [⟨(some 7), .mov (.c (.int .i64 0)), none⟩])
  (.seq (.block 0 (.loop A23L0))
  (.seq (.region false [⟨(some 37), .mov (.t 6), none⟩,
    ⟨(some 38), .mov (.t 7), none⟩,
    ⟨(some 39), .bsl 1 (.int .i64 0) 1 [(0, (.t 38))], none⟩,
    ⟨(some 40), .app 1 8 (.t 37) (.t 39), none⟩,
    ⟨(some 2), .mov (.t 40), none⟩,
    ⟨(some 3), .mov (.c (.int .i64 0)), none⟩])
  (.ret))))))),
  [.tmp 2, .tmp 3]⟩

/- invigilator/runes.On -/
def A24 : AFun := ⟨22,
  .seq (.region false [⟨(some 4), .mov (.c (.bool false)), none⟩,
    ⟨(some 5), .mov (.c (.int .i64 0)), none⟩])
  (.seq (.region false [⟨(some 9), .mov (.t 0), none⟩,
    ⟨(some 10), .mov (.t 1), none⟩,
    ⟨(some 11), .call 26 [(.t 9), (.t 10)], none⟩,
    ⟨(some 8), .mov (.t 11), none⟩,
    ⟨(some 12), .extr (.t 8) 0, none⟩,
    ⟨(some 13), .extr (.t 8) 1, none⟩,
    ⟨(some 6), .mov (.t 12), none⟩,
    ⟨(some 7), .mov (.t 13), none⟩])
  (.seq (.region false [⟨(some 14), .mov (.t 7), none⟩,
    ⟨(some 15), .bin .eql (.t 14) (.c (.int .i64 0)), none⟩,
    ⟨(some 16), .mov (.t 15), none⟩,
    ⟨(some 17), .mov (.t 6), some (16, true)⟩,
    ⟨(some 18), .mov (.t 1), some (16, true)⟩,
    ⟨(some 19), .bin .eql (.t 17) (.t 18), some (16, true)⟩,
    ⟨(some 20), .pick (.t 16) (.t 19) (.c (.bool false)), none⟩,
    ⟨(some 21), .mov (.t 7), none⟩,
    ⟨(some 4), .mov (.t 20), none⟩,
    ⟨(some 5), .mov (.t 21), none⟩])
  (.ret))),
  [.tmp 4, .tmp 5]⟩

/- invigilator/invigilatorref02.On -/
def A25 : AFun := ⟨22,
  .seq (.region false [⟨(some 4), .mov (.c (.bool false)), none⟩,
    ⟨(some 5), .mov (.c (.int .i64 0)), none⟩])
  (.seq (.region false [⟨(some 9), .mov (.t 0), none⟩,
    ⟨(some 10), .mov (.t 1), none⟩,
    ⟨(some 11), .call 27 [(.t 9), (.t 10)], none⟩,
    ⟨(some 8), .mov (.t 11), none⟩,
    ⟨(some 12), .extr (.t 8) 0, none⟩,
    ⟨(some 13), .extr (.t 8) 1, none⟩,
    ⟨(some 6), .mov (.t 12), none⟩,
    ⟨(some 7), .mov (.t 13), none⟩])
  (.seq (.region false [⟨(some 14), .mov (.t 7), none⟩,
    ⟨(some 15), .bin .eql (.t 14) (.c (.int .i64 0)), none⟩,
    ⟨(some 16), .mov (.t 15), none⟩,
    ⟨(some 17), .mov (.t 6), some (16, true)⟩,
    ⟨(some 18), .mov (.t 1), some (16, true)⟩,
    ⟨(some 19), .bin .eql (.t 17) (.t 18), some (16, true)⟩,
    ⟨(some 20), .pick (.t 16) (.t 19) (.c (.bool false)), none⟩,
    ⟨(some 21), .mov (.t 7), none⟩,
    ⟨(some 4), .mov (.t 20), none⟩,
    ⟨(some 5), .mov (.t 21), none⟩])
  (.ret))),
  [.tmp 4, .tmp 5]⟩

/- invigilator/runes.Back -/
def A26L0 : ACode :=
  .seq (.seq (.region false [⟨(some 24), .mov (.t 1), none⟩,
    ⟨(some 25), .mov (.t 0), none⟩,
    ⟨(some 26), .len (.t 25), none⟩,
    ⟨(some 27), .bin .lss (.t 24) (.t 26), none⟩,
    ⟨(some 28), .mov (.t 27), none⟩,
    ⟨(some 29), .mov (.t 1), some (28, true)⟩,
    ⟨(some 30), .bin .gtr (.t 29) (.c (.int .i64 0)), some (28, true)⟩,
    ⟨(some 31), .pick (.t 28) (.t 30) (.c (.bool false)), none⟩,
    ⟨(some 32), .mov (.t 31), none⟩,
    ⟨(some 33), .mov (.t 0), some (32, true)⟩,
    ⟨(some 34), .mov (.t 1), some (32, true)⟩,
    ⟨(some 35), .idxA 1 (.t 33) (.t 34), some (32, true)⟩,
    ⟨(some 36), .ld none (.t 35), some (32, true)⟩,
    ⟨(some 37), .call 46 [(.t 36)], some (32, true)⟩,
    ⟨(some 38), .not (.t 37), some (32, true)⟩,
    ⟨(some 39), .pick (.t 32) (.t 38) (.c (.bool false)), none⟩])
  (.cond (.t 39)
   (.skip)
   (.exit 0)))
  (.block 1 (.region false [⟨(some 40), .mov (.t 1), none⟩,
    ⟨(some 41), .bin .sub (.t 40) (.c (.int .i64 1)), none⟩,
    ⟨(some 1), .mov (.t 41), none⟩]))
def A26 : AFun := ⟨43,
  .seq (.region false [⟨(some 4), .mov (.c (.int .i64 0)), none⟩,
    ⟨(some 5), .mov (.c (.int .i64 0)), none⟩])
  (.seq (.seq (.region false [⟨(some 9), .mov (.t 0), none⟩,
    ⟨(some 10), .call 28 [(.t 9)], none⟩,
    ⟨(some 8), .mov (.t 10), none⟩,
    ⟨(some 11), .extr (.t 8) 0, none⟩,
    ⟨(some 12), .extr (.t 8) 1, none⟩,
    ⟨(some 6), .mov (.t 11), none⟩,
    ⟨(some 7), .mov (.t 12), none⟩])
  (.seq (.region false [⟨(some 13), .mov (.t 7), none⟩,
    ⟨(some 14), .bin .neq (.t 13) (.c (.int .i64 0)), none⟩])
  (.cond (.t 14)
   (.seq (.region false [⟨(some 15), .mov (.t 7), none⟩,
     ⟨(some 4), .mov (.c (.int .i64 0)), none⟩,
     ⟨(some 5), .mov (.t 15), none⟩])
   (.ret))
   (.skip))))
  (.seq (.seq (.region false [⟨(some 16), .mov (.t 1), none⟩,
    ⟨(some 17), .bin .lss (.t 16) (.c (.int .i64 0)), none⟩,
    ⟨(some 18), .mov (.t 17), none⟩,
    ⟨(some 19), .mov (.t 1), some (18, false)⟩,
    ⟨(some 20), .mov (.t 0), some (18, false)⟩,
    ⟨(some 21), .len (.t 20), some (18, false)⟩,
    ⟨(some 22), .bin .gtr (.t 19) (.t 21), some (18, false)⟩,
    ⟨(some 23), .pick (.t 18) (.c (.bool true)) (.t 22), none⟩])
  (.cond (.t 23)
   (.seq (.region false [⟨(some 4), .mov (.c (.int .i64 0)), none⟩,
     ⟨(some 5), .mov (.c (.int .i64 7)), none⟩])
   (.ret))
   (.skip)))
  (.seq (.block 0 (.loop A26L0))
  (.seq (.region false [⟨(some 42), .mov (.t 1), none⟩,
    ⟨(some 4), .mov (.t 42), none⟩,
    ⟨(some 5), .mov (.c (.int .i64 0)), none⟩])
  (.ret))))),
  [.tmp 4, .tmp 5]⟩

/- invigilator/invigilatorref02.Back -/
def A27L0 : ACode :=
  .seq (.seq (.region false [⟨(some 30), .mov (.t 9), none⟩,
    ⟨(some 31), .mov (.t 6), none⟩,
    ⟨(some 32), .len (.t 31), none⟩,
    ⟨(some 33), .bin .lss (.t 30) (.t 32), none⟩])
  (.cond (.t 33)
   (.skip)
   (.exit 0)))
  (.seq (.block 1 (.seq (.region false [⟨(some 36), .mov (.t 6), none⟩,
    ⟨(some 37), .mov (.t 9), none⟩,
    ⟨(some 38), .idxA 1 (.t 36) (.t 37), none⟩,
    ⟨(some 39), .ld none (.t 38), none⟩,
    ⟨(some 40), .mov (.t 1), none⟩,
    ⟨(some 41), .bin .leq (.t 39) (.t 40), none⟩])
  (.cond (.t 41)
   (.region false [⟨(some 42), .mov (.t 6), none⟩,
     ⟨(some 43), .mov (.t 9), none⟩,
     ⟨(some 44), .idxA 1 (.t 42) (.t 43), none⟩,
     ⟨(some 45), .ld none (.t 44), none⟩,
     ⟨(some 8), .mov (.t 45), none⟩])
   (.skip))))
  (.region false [⟨(some 34), .mov (.t 9), none⟩,
    ⟨(some 35), .bin .add (.t 34) (.c (.int .i64 1)), none⟩,
    ⟨(some 9), .mov (.t 35), none⟩]))
def A27 : AFun := ⟨47,
  .seq (.region false [⟨(some 4), .mov (.c (.int .i64 0)), none⟩,
    ⟨(some 5), .mov (.c (.int .i64 0)), none⟩])
  (.seq (.region false [⟨(some 11), .mov (.t 0), none⟩,
    ⟨(some 12), .call 23 [(.t 11)], none⟩,
    ⟨(some 10), .mov (.t 12), none⟩,
    ⟨(some 13), .extr (.t 10) 0, none⟩,
    ⟨(some 14), .extr (.t 10) 1, none⟩,
    ⟨(some 6), .mov (.t 13), none⟩,
    ⟨(some 7), .mov (.t 14), none⟩])
  (.seq (.seq (.region false [⟨(some 15), .mov (.t 7), none⟩,
    ⟨(some 16), .bin .eql (.t 15) (.c (.int .i64 0)), none⟩,
    ⟨(some 17), .mov (.t 16), none⟩,
    ⟨(some 18), .mov (.t 1), some (17, true)⟩,
    ⟨(some 19), .bin .lss (.t 18) (.c (.int .i64 0)), some (17, true)⟩,
    ⟨(some 20), .mov (.t 19), some (17, true)⟩,
    ⟨(some 21), .mov (.t 1), some (20, false)⟩,
    ⟨(some 22), .mov (.t 0), some (20, false)⟩,
    ⟨(some 23), .len (.t 22), some (20, false)⟩,
    ⟨(some 24), .bin .gtr (.t 21) (.t 23), some (20, false)⟩,
    ⟨(some 25), .pick (.t 20) (.c (.bool true)) (.t 24), some (17, true)⟩,
    ⟨(some 26), .pick (.t 17) (.t 25) (.c (.bool false)), none⟩])
  (.cond (.t 26)
   (.region false [⟨(some 7), .mov (.c (.int .i64 7)), none⟩])
   (.skip)))
  (.seq (.seq (.region false [⟨(some 27), .mov (.t 7), none⟩,
    ⟨(some 28), .bin .neq (.t 27) (.c (.int .i64 0)), none⟩])
  (.cond (.t 28)
   (.seq (.region false [⟨(some 29), .mov (.t 7), none⟩,
     ⟨(some 4), .mov (.c (.int .i64 0)), none⟩,
     ⟨(some 5), .mov (.t 29), none⟩])
   (.ret))
   (.skip)))
  (.seq (.region false [⟨(some 8), .mov (.c (.int .i64 0)), none⟩])
  (.seq (.seq (.region false [⟨(some 9), .mov (.c (.int .i64 0)), none⟩])
  (.block 0 (.loop A27L0)))
  (.seq (.region false [⟨(some 46), .mov (.t 8), none⟩,
    ⟨(some 4), .mov (.t 46), none⟩,
    ⟨(some 5), .mov (.c (.int .i64 0)), none⟩])
  (.ret))))))),
  [.tmp 4, .tmp 5]⟩

/- invigilator/runes.Check -/
def A28R0a : ACode :=
  .seq (.region false [⟨(some 4), .mov (.t 11), none⟩])
  (.region false [⟨(some 5), .mov (.t 12), none⟩])
def A28R0b : ACode :=
  .block 1 (.region false [⟨(some 13), .mov (.t 4), none⟩,
    ⟨(some 14), .mov (.t 5), none⟩,
    ⟨(some 15), .conv .i32 (.t 14), none⟩,
    ⟨(some 16), .call 40 [(.t 15)], none⟩,
    ⟨(some 17), .bin .add (.t 13) (.t 16), none⟩,
    ⟨none, .st 1 (.t 2) (.t 17), none⟩])
def A28 : AFun := ⟨31,
  .seq (.region false [⟨(some 2), .alloc [.int .i64 0], none⟩,
    ⟨(some 3), .mov (.c (.int .i64 0)), none⟩])
  (.seq (.seq (.region false [⟨(some 6), .mov (.t 0), none⟩,
    ⟨(some 7), .len (.t 6), none⟩,
    ⟨(some 8), .bin .gtr (.t 7) (.c (.int .i64 8000)), none⟩])
  (.cond (.t 8)
   (.seq (.region false [⟨none, .st 1 (.t 2) (.c (.int .i64 0)), none⟩,
     ⟨(some 3), .mov (.c (.int .i64 3)), none⟩])
   (.ret))
   (.skip)))
  (.seq (.seq (.region false [⟨(some 9), .mov (.t 0), none⟩,
    ⟨(some 10), .call 45 [(.t 9)], none⟩])
  (.block 0 (.rangeF (.t 10) [11, 12] A28R0a A28R0b)))
  (.seq (.seq (.region false [⟨(some 18), .ld none (.t 2), none⟩,
    ⟨(some 19), .mov (.t 0), none⟩,
    ⟨(some 20), .len (.t 19), none⟩,
    ⟨(some 21), .bin .lss (.t 18) (.t 20), none⟩])
  (.cond (.t 21)
   (.region false [⟨(some 23), .mov (.t 0), none⟩,
     ⟨(some 24), .ld none (.t 2), none⟩,
     ⟨(some 25), .call 12 [(.t 23), (.t 24)], none⟩,
     ⟨(some 22), .mov (.t 25), none⟩,
     ⟨(some 26), .extr (.t 22) 0, none⟩,
     ⟨(some 27), .extr (.t 22) 1, none⟩,
     ⟨(some 28), .extr (.t 22) 2, none⟩,
     ⟨(some 3), .mov (.t 28), none⟩])
   (.skip)))
  (.seq (.region false [⟨(some 29), .ld none (.t 2), none⟩,
    ⟨(some 30), .mov (.t 3), none⟩,
    ⟨none, .st 1 (.t 2) (.t 29), none⟩,
    ⟨(some 3), .mov (.t 30), none⟩])
  (.ret))))),
  [.cell none 2, .tmp 3]⟩

/- invigilator/runes.Bytes -/
def A29L0 : ACode :=
  .seq (.region false [⟨(some 16), .bin .lss (.t 15) (.t 14), none⟩])
  (.seq (.cond (.t 16)
   (.skip)
   (.exit 0))
  (.seq (.block 1 (.seq (.region false [⟨(some 17), .idxA 1 (.t 13) (.t 15), none⟩,
    ⟨(some 18), .ld none (.t 17), none⟩,
    ⟨(some 7), .mov (.t 18), none⟩])
  (.seq (.region false [⟨(some 19), .mov (.t 2), none⟩,
    ⟨(some 20), .mov (.t 7), none⟩,
    ⟨(some 21), .conv .i32 (.t 20), none⟩,
    ⟨(some 22), .call 49 [(.t 19), (.t 21)], none⟩,
    ⟨(some 2), .mov (.t 22), none⟩])
  (.seq (.region false [⟨(some 23), .mov (.t 2), none⟩,
    ⟨(some 24), .len (.t 23), none⟩,
    ⟨(some 25), .bin .gtr (.t 24) (.c (.int .i64 8000)), none⟩])
  (.cond (.t 25)
   (.seq (.region false [⟨(some 2), .mov (.c (.sl .ex [])), none⟩,
     ⟨(some 3), .mov (.c (.int .i64 0)), none⟩,
     ⟨(some 4), .mov (.c (.int .i64 3)), none⟩])
   (.ret))
   (.skip))))))
  (.region false [⟨(some 26), .bin .add (.t 15) (.c (.int .i64 1)), none⟩,
    ⟨(some 15), .mov (.t 26), none⟩])))
def A29 : AFun := ⟨28,
  .seq (.region false [⟨(some 2), .mov (.c (.sl .ex [])), none⟩,
    ⟨(some 3), .mov (.c (.int .i64 0)), none⟩,
    ⟨(some 4), .mov (.c (.int .i64 0)), none⟩])
  (.seq (.seq (.region false [⟨(some 8), .mov (.t 0), none⟩,
    ⟨(some 9), .call 47 [(.t 8), (.c (.clo 48 [] []))], none⟩,
    ⟨(some 5), .mov (.t 9), none⟩])
  (.seq (.region false [⟨(some 10), .mov (.t 5), none⟩,
    ⟨(some 11), .bin .geq (.t 10) (.c (.int .i64 0)), none⟩])
  (.cond (.t 11)
   (.seq (.region false [⟨(some 12), .mov (.t 5), none⟩,
     ⟨(some 2), .mov (.c (.sl .ex [])), none⟩,
     ⟨(some 3), .mov (.t 12), none⟩,
     ⟨(some 4), .mov (.c (.int .i64 7)), none⟩])
   (.ret))
   (.skip))))
  (.seq (.seq (.region false [⟨(some 13), .mov (.t 0), none⟩,
    ⟨(some 14), .len (.t 13), none⟩,
    ⟨(some 15), .mov (.c (.int .i64 0)), none⟩])
  (.block 0 (.loop A29L0)))
  (.seq (.region false [⟨(some 27), .mov (.t 2), none⟩,
    ⟨(some 2), .mov (.t 27), none⟩,
    ⟨(some 3), .mov (.c (.int .i64 0)), none⟩,
    ⟨(some 4), .mov (.c (.int .i64 0)), none⟩])
  (.ret)))),
  [.tmp 2, .tmp 3, .tmp 4]⟩

/- invigilator/invigilatorref02.Check -/
def A30L0 : ACode :=
  .seq (.seq (.region false [⟨(some 11), .mov (.t 4), none⟩,
    ⟨(some 12), .mov (.t 0), none⟩,
    ⟨(some 13), .len (.t 12), none⟩,
    ⟨(some 14), .bin .lss (.t 11) (.t 13), none⟩])
  (.cond (.t 14)
   (.skip)
   (.exit 0)))
  (.block 1 (.seq (.region false [⟨(some 16), .mov (.t 0), none⟩,
    ⟨(some 17), .mov (.t 4), none⟩,
    ⟨(some 18), .call 13 [(.t 16), (.t 17)], none⟩,
    ⟨(some 15), .mov (.t 18), none⟩,
    ⟨(some 19), .extr (.t 15) 0, none⟩,
    ⟨(some 20), .extr (.t 15) 1, none⟩,
    ⟨(some 21), .extr (.t 15) 2, none⟩,
    ⟨(some 5), .mov (.t 19), none⟩,
    ⟨(some 6), .mov (.t 20), none⟩,
    ⟨(some 7), .mov (.t 21), none⟩])
  (.seq (.seq (.region false [⟨(some 22), .mov (.t 7), none⟩,
    ⟨(some 23), .bin .neq (.t 22) (.c (.int .i64 0)), none⟩])
  (.cond (.t 23)
   (.seq (.region false [⟨(some 24), .mov (.t 4), none⟩,
     ⟨(some 25), .mov (.t 7), none⟩,
     ⟨(some 2), .mov (.t 24), none⟩,
     ⟨(some 3), .mov (.t 25), none⟩])
   (.ret))
   (.skip)))
  (.region false [⟨(some 26), .mov (.t 4), none⟩,
    ⟨(some 27), .mov (.t 6), none⟩,
    ⟨(some 28), .bin .add (.t 26) (.t 27), none⟩,
    ⟨(some 4), .mov (.t 28), none⟩]))))
def A30 : AFun := ⟨30,
  .seq (.region false [⟨(some 2), .mov (.c (.int .i64 0)), none⟩,
    ⟨(some 3), .mov (.c (.int .i64 0)), none⟩])
  (.seq (.seq (.region false [⟨(some 8), .mov (.t 0), none⟩,
    ⟨(some 9), .len (.t 8), none⟩,
    ⟨(some 10), .bin .gtr (.t 9) (.c (.int .i64 8000)), none⟩])
  (.cond (.t 10)
   (.seq (.region false [⟨(some 2), .mov (.c (.int .i64 0)), none⟩,
     ⟨(some 3), .mov (.c (.int .i64 3)), none⟩])
   (.ret))
   (.skip)))
  (.seq (.region false [⟨(some 4), .mov (.c (.int .i64 0)), none⟩])
  (.seq (.block 0 (.loop A30L0))
  (.seq (.region false [⟨(some 29), .mov (.t 4), none⟩,
    ⟨(some 2), .mov (.t 29), none⟩,
    ⟨(some 3), .mov (.c (.int .i64 0)), none⟩])
  (.ret))))),
  [.tmp 2, .tmp 3]⟩

/- invigilator/invigilatorref02.Count -/
def A31 : AFun := ⟨14,
  .seq (.region false [⟨(some 2), .mov (.c (.int .i64 0)), none⟩,
    ⟨(some 3), .mov (.c (.int .i64 0)), none⟩])
  (.seq (.region false [⟨(some 7), .mov (.t 0), none⟩,
    ⟨(some 8), .call 32 [(.t 7)], none⟩,
    ⟨(some 6), .mov (.t 8), none⟩,
    ⟨(some 9), .extr (.t 6) 0, none⟩,
    ⟨(some 10), .extr (.t 6) 1, none⟩,
    ⟨(some 4), .mov (.t 9), none⟩,
    ⟨(some 5), .mov (.t 10), none⟩])
  (.seq (.region false [⟨(some 11), .mov (.t 4), none⟩,
    ⟨(some 12), .len (.t 11), none⟩,
    ⟨(some 13), .mov (.t 5), none⟩,
    ⟨(some 2), .mov (.t 12), none⟩,
    ⟨(some 3), .mov (.t 13), none⟩])
  (.ret))),
  [.tmp 2, .tmp 3]⟩

/- invigilator/invigilatorref02.Runes -/
def A32L0 : ACode :=
  .seq (.seq (.region false [⟨(some 19), .mov (.t 7), none⟩,
    ⟨(some 20), .mov (.t 0), none⟩,
    ⟨(some 21), .len (.t 20), none⟩,
    ⟨(some 22), .bin .lss (.t 19) (.t 21), none⟩])
  (.cond (.t 22)
   (.skip)
   (.exit 0)))
  (.block 1 (.seq (.region false [⟨(some 24), .mov (.t 0), none⟩,
    ⟨(some 25), .mov (.t 7), none⟩,
    ⟨(some 26), .call 13 [(.t 24), (.t 25)], none⟩,
    ⟨(some 23), .mov (.t 26), none⟩,
    ⟨(some 27), .extr (.t 23) 0, none⟩,
    ⟨(some 28), .extr (.t 23) 1, none⟩,
    ⟨(some 29), .extr (.t 23) 2, none⟩,
    ⟨(some 8), .mov (.t 27), none⟩,
    ⟨(some 9), .mov (.t 28), none⟩,
    ⟨(some 10), .mov (.t 29), none⟩])
  (.seq (.region false [⟨(some 30), .mov (.t 6), none⟩,
    ⟨(some 31), .mov (.t 8), none⟩,
    ⟨(some 32), .bsl 1 (.int .i64 0) 1 [(0, (.t 31))], none⟩,
    ⟨(some 33), .app 1 8 (.t 30) (.t 32), none⟩,
    ⟨(some 6), .mov (.t 33), none⟩])
  (.region false [⟨(some 34), .mov (.t 7), none⟩,
    ⟨(some 35), .mov (.t 9), none⟩,
    ⟨(some 36), .bin .add (.t 34) (.t 35), none⟩,
    ⟨(some 7), .mov (.t 36), none⟩]))))
def A32 : AFun := ⟨38,
  .seq (.region false [⟨(some 2), .mov (.c (.sl .ex [])), none⟩,
    ⟨(some 3), .mov (.c (.int .i64 0)), none⟩])
  (.seq (.region false [⟨(some 12), .mov (.t 0), none⟩,
    ⟨(some 13), .call 30 [(.t 12)], none⟩,
    ⟨(some 11), .mov (.t 13), none⟩,
    ⟨(some 14), .extr (.t 11) 0, none⟩,
    ⟨(some 15), .extr (.t 11) 1, none⟩,
    ⟨(some 4), .mov (.t 14), none⟩,
    ⟨(some 5), .mov (.t 15), none⟩])
  (.seq (.seq (.region false [⟨(some 16), .mov (.t 5), none⟩,
    ⟨(some 17), .bin .neq (.t 16) (.c (.int .i64 0)), none⟩])
  (.cond (.t 17)
   (.seq (.region false [⟨(some 18), .mov (.t 5), none⟩,
     ⟨(some 2), .mov (.c (.sl .ex [])), none⟩,
     ⟨(some 3), .mov (.t 18), none⟩])
   (.ret))
   (.skip)))
  (.seq (.region false [⟨(some 6), .mov (.c (.sl .ex [])), none⟩])
  (.seq (.seq (.region false [⟨(some 7), .mov (.c (.int .i64 0)), none⟩])
  (.block 0 (.loop A32L0)))
  (.seq (.region false [⟨(some 37), .mov (.t 6), none⟩,
    ⟨(some 2), .mov (.t 37), none⟩,
    ⟨(some 3), .mov (.c (.int .i64 0)), none⟩])
  (.ret)))))),
  [.tmp 2, .tmp 3]⟩

/- invigilator/invigilatorref02.Bytes -/
def A33L0 : ACode :=
  .seq (.seq (.region false [⟨(some 10), .mov (.t 5), none⟩,
    ⟨(some 11), .mov (.t 0), none⟩,
    ⟨(some 12), .len (.t 11), none⟩,
    ⟨(some 13), .bin .lss (.t 10) (.t 12), none⟩])
  (.cond (.t 13)
   (.skip)
   (.exit 0)))
  (.seq (.block 1 (.seq (.region false [⟨(some 16), .mov (.t 0), none⟩,
    ⟨(some 17), .mov (.t 5), none⟩,
    ⟨(some 18), .idxA 1 (.t 16) (.t 17), none⟩,
    ⟨(some 19), .ld none (.t 18), none⟩,
    ⟨(some 20), .call 41 [(.t 19)], none⟩,
    ⟨(some 21), .not (.t 20), none⟩])
  (.cond (.t 21)
   (.seq (.region false [⟨(some 22), .mov (.t 5), none⟩,
     ⟨(some 2), .mov (.c (.sl .ex [])), none⟩,
     ⟨(some 3), .mov (.t 22), none⟩,
     ⟨(some 4), .mov (.c (.int .i64 7)), none⟩])
   (.ret))
   (.skip))))
  (.region false [⟨(some 14), .mov (.t 5), none⟩,
    ⟨(some 15), .bin .add (.t 14) (.c (.int .i64 1)), none⟩,
    ⟨(some 5), .mov (.t 15), none⟩]))
def A33L1 : ACode :=
  .seq (.seq (.region false [⟨(some 23), .mov (.t 7), none⟩,
    ⟨(some 24), .mov (.t 0), none⟩,
    ⟨(some 25), .len (.t 24), none⟩,
    ⟨(some 26), .bin .lss (.t 23) (.t 25), none⟩])
  (.cond (.t 26)
   (.skip)
   (.exit 2)))
  (.seq (.block 3 (.seq (.region false [⟨(some 30), .mov (.t 0), none⟩,
    ⟨(some 31), .mov (.t 7), none⟩,
    ⟨(some 32), .idxA 1 (.t 30) (.t 31), none⟩,
    ⟨(some 33), .ld none (.t 32), none⟩,
    ⟨(some 34), .call 15 [(.t 33)], none⟩,
    ⟨(some 29), .mov (.t 34), none⟩,
    ⟨(some 35), .extr (.t 29) 0, none⟩,
    ⟨(some 36), .extr (.t 29) 1, none⟩,
    ⟨(some 8), .mov (.t 35), none⟩,
    ⟨(some 9), .mov (.t 36), none⟩])
  (.seq (.region false [⟨(some 37), .mov (.t 6), none⟩,
    ⟨(some 38), .mov (.t 8), none⟩,
    ⟨(some 39), .app 1 1 (.t 37) (.t 38), none⟩,
    ⟨(some 6), .mov (.t 39), none⟩])
  (.seq (.region false [⟨(some 40), .mov (.t 6), none⟩,
    ⟨(some 41), .len (.t 40), none⟩,
    ⟨(some 42), .bin .gtr (.t 41) (.c (.int .i64 8000)), none⟩])
  (.cond (.t 42)
   (.seq (.region false [⟨(some 2), .mov (.c (.sl .ex [])), none⟩,
     ⟨(some 3), .mov (.c (.int .i64 0)), none⟩,
     ⟨(some 4), .mov (.c (.int .i64 3)), none⟩])
   (.ret))
   (.skip))))))
  (.region false [⟨(some 27), .mov (.t 7), none⟩,
    ⟨(some 28), .bin .add (.t 27) (.c (.int .i64 1)), none⟩,
    ⟨(some 7), .mov (.t 28), none⟩]))
def A33 : AFun := ⟨44,
  .seq (.region false [⟨(some 2), .mov (.c (.sl .ex [])), none⟩,
    ⟨(some 3), .mov (.c (.int .i64 0)), none⟩,
    ⟨(some 4), .mov (.c (.int .i64 0)), none⟩])
  (.seq (.seq (.region false [⟨(some 5), .mov (.c (.int .i64 0)), none⟩])
  (.block 0 (.loop A33L0)))
  (.seq (.region false [⟨(some 6), .mov (.c (.sl .ex [])), none⟩])
  (.seq (.seq (.region false [⟨(some 7), .mov (.c (.int .i64 0)), none⟩])
  (.block 2 (.loop A33L1)))
  (.seq (.region false [⟨(some 43), .mov (.t 6), none⟩,
    ⟨(some 2), .mov (.t 43), none⟩,
    ⟨(some 3), .mov (.c (.int .i64 0)), none⟩,
    ⟨(some 4), .mov (.c (.int .i64 0)), none⟩])
  (.ret))))),
  [.tmp 2, .tmp 3, .tmp 4]⟩

/- unicode/utf8.DecodeRune -/
def A34L0 : ACode :=
  .seq (.region false [⟨(some 9), .bin .lss (.t 8) (.t 7), none⟩])
  (.seq (.cond (.t 9)
   (.skip)
   (.exit 0))
  (.seq (.block 1 (.seq (.region false [⟨(some 10), .idxA 1 (.t 6) (.t 8), none⟩,
    ⟨(some 11), .ld none (.t 10), none⟩,
    ⟨(some 5), .mov (.t 11), none⟩])
  (.seq (.seq (.region false [⟨(some 12), .mov (.t 5), none⟩,
    ⟨(some 13), .bin .lss (.t 12) (.c (.int .u8 128)), none⟩])
  (.cond (.t 13)
   (.seq (.region false [⟨(some 14), .mov (.t 5), none⟩,
     ⟨(some 15), .conv .i32 (.t 14), none⟩,
     ⟨(some 2), .mov (.t 15), none⟩,
     ⟨(some 3), .mov (.c (.int .i64 1)), none⟩])
   (.ret))
   (.skip)))
  (.exit 0))))
  (.region false [⟨(some 16), .bin .add (.t 8) (.c (.int .i64 1)), none⟩,
    ⟨(some 8), .mov (.t 16), none⟩])))
def A34 : AFun := ⟨22,
  .seq (.region false [⟨(some 2), .mov (.c (.int .i32 0)), none⟩,
    ⟨(some 3), .mov (.c (.int .i64 0)), none⟩])
  (.seq (.seq (.region false [⟨(some 6), .mov (.t 0), none⟩,
    ⟨(some 7), .len (.t 6), none⟩,
    ⟨(some 8), .mov (.c (.int .i64 0)), none⟩])
  (.block 0 (.loop A34L0)))
  (.seq (.region false [⟨(some 18), .mov (.t 0), none⟩,
    ⟨(some 19), .call 50 [(.t 18)], none⟩,
    ⟨(some 17), .mov (.t 19), none⟩,
    ⟨(some 20), .extr (.t 17) 0, none⟩,
    ⟨(some 21), .extr (.t 17) 1, none⟩,
    ⟨(some 2), .mov (.t 20), none⟩,
    ⟨(some 3), .mov (.t 21), none⟩])
  (.ret))),
  [.tmp 2, .tmp 3]⟩

/- unicode/utf8.FullRune -/
def A35 : AFun := ⟨56,
  .seq (.region false [⟨(some 2), .mov (.c (.bool false)), none⟩])
  (.seq (.region false [⟨(some 6), .mov (.t 0), none⟩,
    ⟨(some 7), .len (.t 6), none⟩,
    ⟨(some 3), .mov (.t 7), none⟩])
  (.seq (.seq (.region false [⟨(some 8), .mov (.t 3), none⟩,
    ⟨(some 9), .bin .eql (.t 8) (.c (.int .i64 0)), none⟩])
  (.cond (.t 9)
   (.seq (.region false [⟨(some 2), .mov (.c (.bool false)), none⟩])
   (.ret))
   (.skip)))
  (.seq (.region false [⟨(some 10), .mov (.t 0), none⟩,
    ⟨(some 11), .idxA 1 (.t 10) (.c (.int .i64 0)), none⟩,
    ⟨(some 12), .ld none (.t 11), none⟩,
    ⟨(some 13), .idxP 256 1 (.gl 0) (.t 12), none⟩,
    ⟨(some 14), .ld none (.t 13), none⟩,
    ⟨(some 4), .mov (.t 14), none⟩])
  (.seq (.seq (.region false [⟨(some 15), .mov (.t 3), none⟩,
    ⟨(some 16), .mov (.t 4), none⟩,
    ⟨(some 17), .bin .and (.t 16) (.c (.int .u8 7)), none⟩,
    ⟨(some 18), .conv .i64 (.t 17), none⟩,
    ⟨(some 19), .bin .geq (.t 15) (.t 18), none⟩])
  (.cond (.t 19)
   (.seq (.region false [⟨(some 2), .mov (.c (.bool true)), none⟩])
   (.ret))
   (.skip)))
  (.seq (.region false [⟨(some 20), .mov (.t 4), none⟩,
    ⟨(some 21), .bin .shr (.t 20) (.c (.int .u64 4)), none⟩,
    ⟨(some 22), .idxP 16 2 (.gl 1) (.t 21), none⟩,
    ⟨(some 23), .ld (some 2) (.t 22), none⟩,
    ⟨(some 5), .alloc [.int .u8 0, .int .u8 0], none⟩,
    ⟨none, .st 2 (.t 5) (.t 23), none⟩])
  (.seq (.seq (.region true [⟨(some 24), .mov (.t 3), none⟩,
    ⟨(some 25), .bin .gtr (.t 24) (.c (.int .i64 1)), none⟩,
    ⟨(some 26), .mov (.t 25), none⟩,
    ⟨(some 27), .mov (.t 0), some (26, true)⟩,
    ⟨(some 28), .idxA 1 (.t 27) (.c (.int .i64 1)), some (26, true)⟩,
    ⟨(some 29), .ld none (.t 28), some (26, true)⟩,
    ⟨(some 30), .fldA 0 (.t 5), some (26, true)⟩,
    ⟨(some 31), .ld none (.t 30), some (26, true)⟩,
    ⟨(some 32), .bin .lss (.t 29) (.t 31), some (26, true)⟩,
    ⟨(some 33), .mov (.t 32), some (26, true)⟩,
    ⟨(some 34), .fldA 1 (.t 5), some (33, false)⟩,
    ⟨(some 35), .ld none (.t 34), some (33, false)⟩,
    ⟨(some 36), .mov (.t 0), some (33, false)⟩,
    ⟨(some 37), .idxA 1 (.t 36) (.c (.int .i64 1)), some (33, false)⟩,
    ⟨(some 38), .ld none (.t 37), some (33, false)⟩,
    ⟨(some 39), .bin .lss (.t 35) (.t 38), some (33, false)⟩,
    ⟨(some 40), .pick (.t 33) (.c (.bool true)) (.t 39), some (26, true)⟩,
    ⟨(some 41), .pick (.t 26) (.t 40) (.c (.bool false)), none⟩])
  (.cond (.t 41)
   (.seq (.region false [⟨(some 2), .mov (.c (.bool true)), none⟩])
   (.ret))
   (.seq (.region false [⟨(some 42), .mov (.t 3), none⟩,
     ⟨(some 43), .bin .gtr (.t 42) (.c (.int .i64 2)), none⟩,
     ⟨(some 44), .mov (.t 43), none⟩,
     ⟨(some 45), .mov (.t 0), some (44, true)⟩,
     ⟨(some 46), .idxA 1 (.t 45) (.c (.int .i64 2)), some (44, true)⟩,
     ⟨(some 47), .ld none (.t 46), some (44, true)⟩,
     ⟨(some 48), .bin .lss (.t 47) (.c (.int .u8 128)), some (44, true)⟩,
     ⟨(some 49), .mov (.t 48), some (44, true)⟩,
     ⟨(some 50), .mov (.t 0), some (49, false)⟩,
     ⟨(some 51), .idxA 1 (.t 50) (.c (.int .i64 2)), some (49, false)⟩,
     ⟨(some 52), .ld none (.t 51), some (49, false)⟩,
     ⟨(some 53), .bin .lss (.c (.int .u8 191)) (.t 52), some (49, false)⟩,
     ⟨(some 54), .pick (.t 49) (.c (.bool true)) (.t 53), some (44, true)⟩,
     ⟨(some 55), .pick (.t 44) (.t 54) (.c (.bool false)), none⟩])
   (.cond (.t 55)
    (.seq (.region false [⟨(some 2), .mov (.c (.bool true)), none⟩])
    (.ret))
    (.skip)))))
  (.seq (.region false [⟨(some 2), .mov (.c (.bool false)), none⟩])
  (.ret)))))))),
  [.tmp 2]⟩

/- invigilator/invigilatorref02.stands -/
def A36 : AFun := ⟨23,
  .seq (.region false [⟨(some 2), .mov (.c (.int .i64 0)), none⟩,
    ⟨(some 3), .mov (.c (.bool false)), none⟩])
  (.seq (.region false [⟨(some 7), .mov (.t 0), none⟩,
    ⟨(some 8), .call 51 [(.t 7)], none⟩,
    ⟨(some 4), .mov (.t 8), none⟩])
  (.seq (.seq (.region false [⟨(some 9), .mov (.t 4), none⟩,
    ⟨(some 10), .call 41 [(.t 9)], none⟩,
    ⟨(some 11), .not (.t 10), none⟩])
  (.cond (.t 11)
   (.seq (.region false [⟨(some 2), .mov (.c (.int .i64 0)), none⟩,
     ⟨(some 3), .mov (.c (.bool false)), none⟩])
   (.ret))
   (.skip)))
  (.seq (.region false [⟨(some 13), .mov (.t 4), none⟩,
    ⟨(some 14), .call 15 [(.t 13)], none⟩,
    ⟨(some 12), .mov (.t 14), none⟩,
    ⟨(some 15), .extr (.t 12) 0, none⟩,
    ⟨(some 16), .extr (.t 12) 1, none⟩,
    ⟨(some 5), .mov (.t 15), none⟩,
    ⟨(some 6), .mov (.t 16), none⟩])
  (.seq (.region true [⟨(some 17), .mov (.t 4), none⟩,
    ⟨(some 18), .mov (.t 0), none⟩,
    ⟨(some 19), .b2s (.t 18), none⟩,
    ⟨(some 20), .mov (.t 5), none⟩,
    ⟨(some 21), .b2s (.t 20), none⟩,
    ⟨(some 22), .bin .eql (.t 19) (.t 21), none⟩,
    ⟨(some 2), .mov (.t 17), none⟩,
    ⟨(some 3), .mov (.t 22), none⟩])
  (.ret))))),
  [.tmp 2, .tmp 3]⟩

/- invigilator/invigilatorref02.begins -/
def A37L1 : ACode :=
  .seq (.seq (.region false [⟨(some 45), .mov (.t 6), none⟩,
    ⟨(some 46), .len (.t 45), none⟩,
    ⟨(some 47), .mov (.t 3), none⟩,
    ⟨(some 48), .bin .lss (.t 46) (.t 47), none⟩])
  (.cond (.t 48)
   (.skip)
   (.exit 3)))
  (.block 4 (.region false [⟨(some 49), .mov (.t 6), none⟩,
    ⟨(some 50), .mov (.t 5), none⟩,
    ⟨(some 51), .conv .u8 (.t 50), none⟩,
    ⟨(some 52), .bsl 1 (.int .u8 0) 1 [(0, (.t 51))], none⟩,
    ⟨(some 53), .app 1 1 (.t 49) (.t 52), none⟩,
    ⟨(some 6), .mov (.t 53), none⟩]))
def A37L0 : ACode :=
  .seq (.seq (.region false [⟨(some 38), .mov (.t 5), none⟩,
    ⟨(some 39), .bin .leq (.t 38) (.c (.int .i64 191)), none⟩])
  (.cond (.t 39)
   (.skip)
   (.exit 1)))
  (.seq (.block 2 (.seq (.region false [⟨(some 42), .bsl 1 (.int .u8 0) 0 [], none⟩,
    ⟨(some 43), .mov (.t 0), none⟩,
    ⟨(some 44), .app 1 1 (.t 42) (.t 43), none⟩,
    ⟨(some 6), .mov (.t 44), none⟩])
  (.seq (.block 3 (.loop A37L1))
  (.seq (.region false [⟨(some 55), .mov (.t 6), none⟩,
    ⟨(some 56), .call 36 [(.t 55)], none⟩,
    ⟨(some 54), .mov (.t 56), none⟩,
    ⟨(some 57), .extr (.t 54) 0, none⟩,
    ⟨(some 58), .extr (.t 54) 1, none⟩,
    ⟨(some 7), .mov (.t 57), none⟩,
    ⟨(some 8), .mov (.t 58), none⟩])
  (.seq (.region false [⟨(some 59), .mov (.t 8), none⟩])
  (.cond (.t 59)
   (.seq (.region false [⟨(some 2), .mov (.c (.bool true)), none⟩])
   (.ret))
   (.skip)))))))
  (.region false [⟨(some 40), .mov (.t 5), none⟩,
    ⟨(some 41), .bin .add (.t 40) (.c (.int .i64 63)), none⟩,
    ⟨(some 5), .mov (.t 41), none⟩]))
def A37 : AFun := ⟨60,
  .seq (.region false [⟨(some 2), .mov (.c (.bool false)), none⟩])
  (.seq (.region false [⟨(some 3), .mov (.c (.int .i64 0)), none⟩])
  (.seq (.region false [⟨(some 9), .mov (.t 0), none⟩,
    ⟨(some 10), .idxA 1 (.t 9) (.c (.int .i64 0)), none⟩,
    ⟨(some 11), .ld none (.t 10), none⟩,
    ⟨(some 12), .conv .i64 (.t 11), none⟩,
    ⟨(some 4), .mov (.t 12), none⟩])
  (.seq (.block 0 (.seq (.region false [⟨(some 14), .mov (.t 4), none⟩,
    ⟨(some 15), .bin .geq (.t 14) (.c (.int .i64 192)), none⟩,
    ⟨(some 16), .mov (.t 15), none⟩,
    ⟨(some 17), .mov (.t 4), some (16, true)⟩,
    ⟨(some 18), .bin .lss (.t 17) (.c (.int .i64 224)), some (16, true)⟩,
    ⟨(some 19), .pick (.t 16) (.t 18) (.c (.bool false)), none⟩,
    ⟨(some 13), .mov (.t 19), none⟩])
  (.cond (.t 13)
   (.region false [⟨(some 3), .mov (.c (.int .i64 2)), none⟩])
   (.seq (.region false [⟨(some 21), .mov (.t 4), none⟩,
     ⟨(some 22), .bin .geq (.t 21) (.c (.int .i64 224)), none⟩,
     ⟨(some 23), .mov (.t 22), none⟩,
     ⟨(some 24), .mov (.t 4), some (23, true)⟩,
     ⟨(some 25), .bin .lss (.t 24) (.c (.int .i64 240)), some (23, true)⟩,
     ⟨(some 26), .pick (.t 23) (.t 25) (.c (.bool false)), none⟩,
     ⟨(some 20), .mov (.t 26), none⟩])
   (.cond (.t 20)
    (.region false [⟨(some 3), .mov (.c (.int .i64 3)), none⟩])
    (.seq (.region false [⟨(some 28), .mov (.t 4), none⟩,
      ⟨(some 29), .bin .geq (.t 28) (.c (.int .i64 240)), none⟩,
      ⟨(some 30), .mov (.t 29), none⟩,
      ⟨(some 31), .mov (.t 4), some (30, true)⟩,
      ⟨(some 32), .bin .lss (.t 31) (.c (.int .i64 248)), some (30, true)⟩,
      ⟨(some 33), .pick (.t 30) (.t 32) (.c (.bool false)), none⟩,
      ⟨(some 27), .mov (.t 33), none⟩])
    (.cond (.t 27)
     (.region false [⟨(some 3), .mov (.c (.int .i64 4)), none⟩])
     (.skip))))))))
  (.seq (.seq (.region false [⟨(some 34), .mov (.t 0), none⟩,
    ⟨(some 35), .len (.t 34), none⟩,
    ⟨(some 36), .mov (.t 3), none⟩,
    ⟨(some 37), .bin .geq (.t 35) (.t 36), none⟩])
  (.cond (.t 37)
   (.seq (.region false [⟨(some 2), .mov (.c (.bool false)), none⟩])
   (.ret))
   (.skip)))
  (.seq (.seq (.region false [⟨(some 5), .mov (.c (.int .i64 128)), none⟩])
  (.block 1 (.loop A37L0)))
  (.seq (.region false [⟨(some 2), .mov (.c (.bool false)), none⟩])
  (.ret))))))),
  [.tmp 2]⟩

/- invigilator/runes.is -/
def A38 : AFun := ⟨13,
  .seq (.region false [⟨(some 2), .mov (.c (.bool false)), none⟩])
  (.seq (.region false [⟨(some 3), .mov (.t 0), none⟩,
    ⟨(some 4), .mov (.t 0), none⟩,
    ⟨(some 5), .conv .i32 (.t 4), none⟩,
    ⟨(some 6), .conv .i64 (.t 5), none⟩,
    ⟨(some 7), .bin .eql (.t 3) (.t 6), none⟩,
    ⟨(some 8), .mov (.t 7), none⟩,
    ⟨(some 9), .mov (.t 0), some (8, true)⟩,
    ⟨(some 10), .conv .i32 (.t 9), some (8, true)⟩,
    ⟨(some 11), .call 52 [(.t 10)], some (8, true)⟩,
    ⟨(some 12), .pick (.t 8) (.t 11) (.c (.bool false)), none⟩,
    ⟨(some 2), .mov (.t 12), none⟩])
  (.ret)),
  [.tmp 2]⟩

/- invigilator/runes.Encode$1 -/
def A39 : AFun := ⟨10,
  .seq (.region false [⟨(some 4), .ld none (.t 2), none⟩,
    ⟨(some 5), .mov (.t 0), none⟩,
    ⟨(some 6), .conv .u8 (.t 5), none⟩,
    ⟨(some 7), .idxP 4 1 (.t 1) (.t 4), none⟩,
    ⟨none, .st 1 (.t 7) (.t 6), none⟩])
  (.region false [⟨(some 8), .ld none (.t 2), none⟩,
    ⟨(some 9), .bin .add (.t 8) (.c (.int .i64 1)), none⟩,
    ⟨none, .st 1 (.t 2) (.t 9), none⟩]),
  []⟩

/- unicode/utf8.RuneLen -/
def A40 : AFun := ⟨25,
  .seq (.region false [⟨(some 2), .mov (.c (.int .i64 0)), none⟩])
  (.seq (.block 0 (.seq (.region false [⟨(some 4), .mov (.t 0), none⟩,
    ⟨(some 5), .bin .lss (.t 4) (.c (.int .i32 0)), none⟩,
    ⟨(some 3), .mov (.t 5), none⟩])
  (.cond (.t 3)
   (.seq (.region false [⟨(some 2), .mov (.c (.int .i64 (-1))), none⟩])
   (.ret))
   (.seq (.region false [⟨(some 7), .mov (.t 0), none⟩,
     ⟨(some 8), .bin .leq (.t 7) (.c (.int .i32 127)), none⟩,
     ⟨(some 6), .mov (.t 8), none⟩])
   (.cond (.t 6)
    (.seq (.region false [⟨(some 2), .mov (.c (.int .i64 1)), none⟩])
    (.ret))
    (.seq (.region false [⟨(some 10), .mov (.t 0), none⟩,
      ⟨(some 11), .bin .leq (.t 10) (.c (.int .i32 2047)), none⟩,
      ⟨(some 9), .mov (.t 11), none⟩])
    (.cond (.t 9)
     (.seq (.region false [⟨(some 2), .mov (.c (.int .i64 2)), none⟩])
     (.ret))
     (.seq (.region false [⟨(some 13), .mov (.t 0), none⟩,
       ⟨(some 14), .bin .leq (.c (.int .i32 55296)) (.t 13), none⟩,
       ⟨(some 15), .mov (.t 14), none⟩,
       ⟨(some 16), .mov (.t 0), some (15, true)⟩,
       ⟨(some 17), .bin .leq (.t 16) (.c (.int .i32 57343)), some (15, true)⟩,
       ⟨(some 18), .pick (.t 15) (.t 17) (.c (.bool false)), none⟩,
       ⟨(some 12), .mov (.t 18), none⟩])
     (.cond (.t 12)
      (.seq (.region false [⟨(some 2), .mov (.c (.int .i64 (-1))), none⟩])
      (.ret))
      (.seq (.region false [⟨(some 20), .mov (.t 0), none⟩,
        ⟨(some 21), .bin .leq (.t 20) (.c (.int .i32 65535)), none⟩,
        ⟨(some 19), .mov (.t 21), none⟩])
      (.cond (.t 19)
       (.seq (.region false [⟨(some 2), .mov (.c (.int .i64 3)), none⟩])
       (.ret))
       (.seq (.region false [⟨(some 23), .mov (.t 0), none⟩,
         ⟨(some 24), .bin .leq (.t 23) (.c (.int .i32 1114111)), none⟩,
         ⟨(some 22), .mov (.t 24), none⟩])
       (.cond (.t 22)
        (.seq (.region false [⟨(some 2), .mov (.c (.int .i64 4)), none⟩])
        (.ret))
        (.skip))))))))))))))
  (.seq (.region false [⟨(some 2), .mov (.c (.int .i64 (-1))), none⟩])
  (.ret))),
  [.tmp 2]⟩

/- invigilator/invigilatorref02.Is -/
def A41 : AFun := ⟨17,
  .seq (.region false [⟨(some 2), .mov (.c (.bool false)), none⟩])
  (.seq (.region false [⟨(some 3), .mov (.t 0), none⟩,
    ⟨(some 4), .bin .geq (.t 3) (.c (.int .i64 0)), none⟩,
    ⟨(some 5), .mov (.t 4), none⟩,
    ⟨(some 6), .mov (.t 0), some (5, true)⟩,
    ⟨(some 7), .bin .leq (.t 6) (.c (.int .i64 1114111)), some (5, true)⟩,
    ⟨(some 8), .pick (.t 5) (.t 7) (.c (.bool false)), none⟩,
    ⟨(some 9), .mov (.t 8), none⟩,
    ⟨(some 10), .mov (.t 0), some (9, true)⟩,
    ⟨(some 11), .bin .lss (.t 10) (.c (.int .i64 55296)), some (9, true)⟩,
    ⟨(some 12), .mov (.t 11), some (9, true)⟩,
    ⟨(some 13), .mov (.t 0), some (12, false)⟩,
    ⟨(some 14), .bin .gtr (.t 13) (.c (.int .i64 57343)), some (12, false)⟩,
    ⟨(some 15), .pick (.t 12) (.c (.bool true)) (.t 14), some (9, true)⟩,
    ⟨(some 16), .pick (.t 9) (.t 15) (.c (.bool false)), none⟩,
    ⟨(some 2), .mov (.t 16), none⟩])
  (.ret)),
  [.tmp 2]⟩

/- invigilator/runes.classes -/
def A42 : AFun := ⟨2,
  .seq (.region false [⟨(some 0), .alloc [.str [], .str [], .str [], .str [], .str [], .str [], .str [], .str [], .str [], .str []], none⟩])
  (.seq (.region false [⟨(some 1), .build [.str [], .str [], .str [], .str [], .str [], .str [], .str [], .str [], .str [], .str []] [(1, 1, (.c (.str [32]))), (2, 1, (.c (.str [10]))), (3, 1, (.c (.str [40, 91]))), (4, 1, (.c (.str [41, 93]))), (5, 1, (.c (.str [34]))), (7, 1, (.c (.str [45]))), (9, 1, (.c (.str [60, 61])))], none⟩,
    ⟨none, .st 10 (.t 0) (.t 1), none⟩])
  (.ret)),
  [.cell (some 10) 0]⟩

/- strings.ContainsRune -/
def A43 : AFun := ⟨9,
  .seq (.region false [⟨(some 4), .mov (.c (.bool false)), none⟩])
  (.seq (.region false [⟨(some 5), .mov (.t 0), none⟩,
    ⟨(some 6), .mov (.t 1), none⟩,
    ⟨(some 7), .call 53 [(.t 5), (.t 6)], none⟩,
    ⟨(some 8), .bin .geq (.t 7) (.c (.int .i64 0)), none⟩,
    ⟨(some 4), .mov (.t 8), none⟩])
  (.ret)),
  [.tmp 4]⟩

/- invigilator/invigilatorref02.one -/
def A44L0 : ACode :=
  .seq (.seq (.region false [⟨(some 6), .mov (.t 5), none⟩,
    ⟨(some 7), .mov (.t 1), none⟩,
    ⟨(some 8), .lenS (.t 7), none⟩,
    ⟨(some 9), .bin .lss (.t 6) (.t 8), none⟩])
  (.cond (.t 9)
   (.skip)
   (.exit 0)))
  (.seq (.block 1 (.seq (.region false [⟨(some 12), .mov (.t 1), none⟩,
    ⟨(some 13), .mov (.t 5), none⟩,
    ⟨(some 14), .idxS (.t 12) (.t 13), none⟩,
    ⟨(some 15), .conv .i64 (.t 14), none⟩,
    ⟨(some 16), .mov (.t 0), none⟩,
    ⟨(some 17), .bin .eql (.t 15) (.t 16), none⟩])
  (.cond (.t 17)
   (.seq (.region false [⟨(some 4), .mov (.c (.bool true)), none⟩])
   (.ret))
   (.skip))))
  (.region false [⟨(some 10), .mov (.t 5), none⟩,
    ⟨(some 11), .bin .add (.t 10) (.c (.int .i64 1)), none⟩,
    ⟨(some 5), .mov (.t 11), none⟩]))
def A44 : AFun := ⟨18,
  .seq (.region false [⟨(some 4), .mov (.c (.bool false)), none⟩])
  (.seq (.seq (.region false [⟨(some 5), .mov (.c (.int .i64 0)), none⟩])
  (.block 0 (.loop A44L0)))
  (.seq (.region false [⟨(some 4), .mov (.c (.bool false)), none⟩])
  (.ret))),
  [.tmp 4]⟩

/- invigilator/runes.all -/
def A45 : AFun := ⟨4,
  .seq (.region false [⟨(some 1), .box (.t 0), none⟩,
    ⟨(some 2), .mov (.c (.nilF)), none⟩])
  (.seq (.region false [⟨(some 3), .mkf 54 [] [(.t 1)], none⟩,
    ⟨(some 2), .mov (.t 3), none⟩])
  (.ret)),
  [.tmp 2]⟩

/- unicode/utf8.RuneStart -/
def A46 : AFun := ⟨6,
  .seq (.region false [⟨(some 2), .mov (.c (.bool false)), none⟩])
  (.seq (.region false [⟨(some 3), .mov (.t 0), none⟩,
    ⟨(some 4), .bin .and (.t 3) (.c (.int .u8 192)), none⟩,
    ⟨(some 5), .bin .neq (.t 4) (.c (.int .u8 128)), none⟩,
    ⟨(some 2), .mov (.t 5), none⟩])
  (.ret)),
  [.tmp 2]⟩

/- slices.IndexFunc[[]int64,int64] -/
def A47L0 : ACode :=
  .seq (.region false [⟨(some 9), .bin .lss (.t 8) (.t 7), none⟩])
  (.seq (.cond (.t 9)
   (.skip)
   (.exit 0))
  (.seq (.block 1 (.seq (.region false [⟨(some 10), .mov (.t 8), none⟩,
    ⟨(some 5), .mov (.t 10), none⟩])
  (.seq (.region false [⟨(some 11), .mov (.t 1), none⟩,
    ⟨(some 12), .mov (.t 0), none⟩,
    ⟨(some 13), .mov (.t 5), none⟩,
    ⟨(some 14), .idxA 1 (.t 12) (.t 13), none⟩,
    ⟨(some 15), .ld none (.t 14), none⟩,
    ⟨(some 16), .callv (.t 11) [(.t 15)], none⟩])
  (.cond (.t 16)
   (.seq (.region false [⟨(some 17), .mov (.t 5), none⟩,
     ⟨(some 4), .mov (.t 17), none⟩])
   (.ret))
   (.skip)))))
  (.region false [⟨(some 18), .bin .add (.t 8) (.c (.int .i64 1)), none⟩,
    ⟨(some 8), .mov (.t 18), none⟩])))
def A47 : AFun := ⟨19,
  .seq (.region false [⟨(some 4), .mov (.c (.int .i64 0)), none⟩])
  (.seq (.seq (.region false [⟨(some 6), .mov (.t 0), none⟩,
    ⟨(some 7), .len (.t 6), none⟩,
    ⟨(some 8), .mov (.c (.int .i64 0)), none⟩])
  (.block 0 (.loop A47L0)))
  (.seq (.region false [⟨(some 4), .mov (.c (.int .i64 (-1))), none⟩])
  (.ret))),
  [.tmp 4]⟩

/- invigilator/runes.Bytes$1 -/
def A48 : AFun := ⟨6,
  .seq (.region false [⟨(some 2), .mov (.c (.bool false)), none⟩])
  (.seq (.region false [⟨(some 3), .mov (.t 0), none⟩,
    ⟨(some 4), .call 38 [(.t 3)], none⟩,
    ⟨(some 5), .not (.t 4), none⟩,
    ⟨(some 2), .mov (.t 5), none⟩])
  (.ret)),
  [.tmp 2]⟩

/- unicode/utf8.AppendRune -/
def A49 : AFun := ⟨16,
  .seq (.region false [⟨(some 4), .mov (.c (.sl .ex [])), none⟩])
  (.seq (.seq (.region false [⟨(some 5), .mov (.t 1), none⟩,
    ⟨(some 6), .conv .u32 (.t 5), none⟩,
    ⟨(some 7), .bin .leq (.t 6) (.c (.int .u32 127)), none⟩])
  (.cond (.t 7)
   (.seq (.region false [⟨(some 8), .mov (.t 0), none⟩,
     ⟨(some 9), .mov (.t 1), none⟩,
     ⟨(some 10), .conv .u8 (.t 9), none⟩,
     ⟨(some 11), .bsl 1 (.int .u8 0) 1 [(0, (.t 10))], none⟩,
     ⟨(some 12), .app 1 1 (.t 8) (.t 11), none⟩,
     ⟨(some 4), .mov (.t 12), none⟩])
   (.ret))
   (.skip)))
  (.seq (.region false [⟨(some 13), .mov (.t 0), none⟩,
    ⟨(some 14), .mov (.t 1), none⟩,
    ⟨(some 15), .call 55 [(.t 13), (.t 14)], none⟩,
    ⟨(some 4), .mov (.t 15), none⟩])
  (.ret))),
  [.tmp 4]⟩

/- unicode/utf8.decodeRuneSlow -/
def A50 : AFun := ⟨122,
  .seq (.region false [⟨(some 2), .mov (.c (.int .i32 0)), none⟩,
    ⟨(some 3), .mov (.c (.int .i64 0)), none⟩])
  (.seq (.region false [⟨(some 13), .mov (.t 0), none⟩,
    ⟨(some 14), .len (.t 13), none⟩,
    ⟨(some 4), .mov (.t 14), none⟩])
  (.seq (.seq (.region false [⟨(some 15), .mov (.t 4), none⟩,
    ⟨(some 16), .bin .lss (.t 15) (.c (.int .i64 1)), none⟩])
  (.cond (.t 16)
   (.seq (.region false [⟨(some 2), .mov (.c (.int .i32 65533)), none⟩,
     ⟨(some 3), .mov (.c (.int .i64 0)), none⟩])
   (.ret))
   (.skip)))
  (.seq (.region false [⟨(some 17), .mov (.t 0), none⟩,
    ⟨(some 18), .idxA 1 (.t 17) (.c (.int .i64 0)), none⟩,
    ⟨(some 19), .ld none (.t 18), none⟩,
    ⟨(some 5), .mov (.t 19), none⟩])
  (.seq (.region false [⟨(some 20), .mov (.t 5), none⟩,
    ⟨(some 21), .idxP 256 1 (.gl 0) (.t 20), none⟩,
    ⟨(some 22), .ld none (.t 21), none⟩,
    ⟨(some 6), .mov (.t 22), none⟩])
  (.seq (.seq (.region false [⟨(some 23), .mov (.t 6), none⟩,
    ⟨(some 24), .bin .geq (.t 23) (.c (.int .u8 240)), none⟩])
  (.cond (.t 24)
   (.seq (.region false [⟨(some 25), .mov (.t 6), none⟩,
     ⟨(some 26), .conv .i32 (.t 25), none⟩,
     ⟨(some 27), .bin .shl (.t 26) (.c (.int .u64 31)), none⟩,
     ⟨(some 28), .bin .shr (.t 27) (.c (.int .u64 31)), none⟩,
     ⟨(some 7), .mov (.t 28), none⟩])
   (.seq (.region false [⟨(some 29), .mov (.t 0), none⟩,
     ⟨(some 30), .idxA 1 (.t 29) (.c (.int .i64 0)), none⟩,
     ⟨(some 31), .ld none (.t 30), none⟩,
     ⟨(some 32), .conv .i32 (.t 31), none⟩,
     ⟨(some 33), .mov (.t 7), none⟩,
     ⟨(some 34), .bin .andNot (.t 32) (.t 33), none⟩,
     ⟨(some 35), .mov (.t 7), none⟩,
     ⟨(some 36), .bin .and (.c (.int .i32 65533)) (.t 35), none⟩,
     ⟨(some 37), .bin .or (.t 34) (.t 36), none⟩,
     ⟨(some 2), .mov (.t 37), none⟩,
     ⟨(some 3), .mov (.c (.int .i64 1)), none⟩])
   (.ret)))
   (.skip)))
  (.seq (.region false [⟨(some 38), .mov (.t 6), none⟩,
    ⟨(some 39), .bin .and (.t 38) (.c (.int .u8 7)), none⟩,
    ⟨(some 40), .conv .i64 (.t 39), none⟩,
    ⟨(some 8), .mov (.t 40), none⟩])
  (.seq (.region false [⟨(some 41), .mov (.t 6), none⟩,
    ⟨(some 42), .bin .shr (.t 41) (.c (.int .u64 4)), none⟩,
    ⟨(some 43), .idxP 16 2 (.gl 1) (.t 42), none⟩,
    ⟨(some 44), .ld (some 2) (.t 43), none⟩,
    ⟨(some 9), .alloc [.int .u8 0, .int .u8 0], none⟩,
    ⟨none, .st 2 (.t 9) (.t 44), none⟩])
  (.seq (.seq (.region false [⟨(some 45), .mov (.t 4), none⟩,
    ⟨(some 46), .mov (.t 8), none⟩,
    ⟨(some 47), .bin .lss (.t 45) (.t 46), none⟩])
  (.cond (.t 47)
   (.seq (.region false [⟨(some 2), .mov (.c (.int .i32 65533)), none⟩,
     ⟨(some 3), .mov (.c (.int .i64 1)), none⟩])
   (.ret))
   (.skip)))
  (.seq (.region false [⟨(some 48), .mov (.t 0), none⟩,
    ⟨(some 49), .idxA 1 (.t 48) (.c (.int .i64 1)), none⟩,
    ⟨(some 50), .ld none (.t 49), none⟩,
    ⟨(some 10), .mov (.t 50), none⟩])
  (.seq (.seq (.region false [⟨(some 51), .mov (.t 10), none⟩,
    ⟨(some 52), .fldA 0 (.t 9), none⟩,
    ⟨(some 53), .ld none (.t 52), none⟩,
    ⟨(some 54), .bin .lss (.t 51) (.t 53), none⟩,
    ⟨(some 55), .mov (.t 54), none⟩,
    ⟨(some 56), .fldA 1 (.t 9), some (55, false)⟩,
    ⟨(some 57), .ld none (.t 56), some (55, false)⟩,
    ⟨(some 58), .mov (.t 10), some (55, false)⟩,
    ⟨(some 59), .bin .lss (.t 57) (.t 58), some (55, false)⟩,
    ⟨(some 60), .pick (.t 55) (.c (.bool true)) (.t 59), none⟩])
  (.cond (.t 60)
   (.seq (.region false [⟨(some 2), .mov (.c (.int .i32 65533)), none⟩,
     ⟨(some 3), .mov (.c (.int .i64 1)), none⟩])
   (.ret))
   (.skip)))
  (.seq (.seq (.region false [⟨(some 61), .mov (.t 8), none⟩,
    ⟨(some 62), .bin .leq (.t 61) (.c (.int .i64 2)), none⟩])
  (.cond (.t 62)
   (.seq (.region false [⟨(some 63), .mov (.t 5), none⟩,
     ⟨(some 64), .bin .and (.t 63) (.c (.int .u8 31)), none⟩,
     ⟨(some 65), .conv .i32 (.t 64), none⟩,
     ⟨(some 66), .bin .shl (.t 65) (.c (.int .u64 6)), none⟩,
     ⟨(some 67), .mov (.t 10), none⟩,
     ⟨(some 68), .bin .and (.t 67) (.c (.int .u8 63)), none⟩,
     ⟨(some 69), .conv .i32 (.t 68), none⟩,
     ⟨(some 70), .bin .or (.t 66) (.t 69), none⟩,
     ⟨(some 2), .mov (.t 70), none⟩,
     ⟨(some 3), .mov (.c (.int .i64 2)), none⟩])
   (.ret))
   (.skip)))
  (.seq (.region false [⟨(some 71), .mov (.t 0), none⟩,
    ⟨(some 72), .idxA 1 (.t 71) (.c (.int .i64 2)), none⟩,
    ⟨(some 73), .ld none (.t 72), none⟩,
    ⟨(some 11), .mov (.t 73), none⟩])
  (.seq (.seq (.region false [⟨(some 74), .mov (.t 11), none⟩,
    ⟨(some 75), .bin .lss (.t 74) (.c (.int .u8 128)), none⟩,
    ⟨(some 76), .mov (.t 75), none⟩,
    ⟨(some 77), .mov (.t 11), some (76, false)⟩,
    ⟨(some 78), .bin .lss (.c (.int .u8 191)) (.t 77), some (76, false)⟩,
    ⟨(some 79), .pick (.t 76) (.c (.bool true)) (.t 78), none⟩])
  (.cond (.t 79)
   (.seq (.region false [⟨(some 2), .mov (.c (.int .i32 65533)), none⟩,
     ⟨(some 3), .mov (.c (.int .i64 1)), none⟩])
   (.ret))
   (.skip)))
  (.seq (.seq (.region false [⟨(some 80), .mov (.t 8), none⟩,
    ⟨(some 81), .bin .leq (.t 80) (.c (.int .i64 3)), none⟩])
  (.cond (.t 81)
   (.seq (.region false [⟨(some 82), .mov (.t 5), none⟩,
     ⟨(some 83), .bin .and (.t 82) (.c (.int .u8 15)), none⟩,
     ⟨(some 84), .conv .i32 (.t 83), none⟩,
     ⟨(some 85), .bin .shl (.t 84) (.c (.int .u64 12)), none⟩,
     ⟨(some 86), .mov (.t 10), none⟩,
     ⟨(some 87), .bin .and (.t 86) (.c (.int .u8 63)), none⟩,
     ⟨(some 88), .conv .i32 (.t 87), none⟩,
     ⟨(some 89), .bin .shl (.t 88) (.c (.int .u64 6)), none⟩,
     ⟨(some 90), .bin .or (.t 85) (.t 89), none⟩,
     ⟨(some 91), .mov (.t 11), none⟩,
     ⟨(some 92), .bin .and (.t 91) (.c (.int .u8 63)), none⟩,
     ⟨(some 93), .conv .i32 (.t 92), none⟩,
     ⟨(some 94), .bin .or (.t 90) (.t 93), none⟩,
     ⟨(some 2), .mov (.t 94), none⟩,
     ⟨(some 3), .mov (.c (.int .i64 3)), none⟩])
   (.ret))
   (.skip)))
  (.seq (.region false [⟨(some 95), .mov (.t 0), none⟩,
    ⟨(some 96), .idxA 1 (.t 95) (.c (.int .i64 3)), none⟩,
    ⟨(some 97), .ld none (.t 96), none⟩,
    ⟨(some 12), .mov (.t 97), none⟩])
  (.seq (.seq (.region false [⟨(some 98), .mov (.t 12), none⟩,
    ⟨(some 99), .bin .lss (.t 98) (.c (.int .u8 128)), none⟩,
    ⟨(some 100), .mov (.t 99), none⟩,
    ⟨(some 101), .mov (.t 12), some (100, false)⟩,
    ⟨(some 102), .bin .lss (.c (.int .u8 191)) (.t 101), some (100, false)⟩,
    ⟨(some 103), .pick (.t 100) (.c (.bool true)) (.t 102), none⟩])
  (.cond (.t 103)
   (.seq (.region false [⟨(some 2), .mov (.c (.int .i32 65533)), none⟩,
     ⟨(some 3), .mov (.c (.int .i64 1)), none⟩])
   (.ret))
   (.skip)))
  (.seq (.region false [⟨(some 104), .mov (.t 5), none⟩,
    ⟨(some 105), .bin .and (.t 104) (.c (.int .u8 7)), none⟩,
    ⟨(some 106), .conv .i32 (.t 105), none⟩,
    ⟨(some 107), .bin .shl (.t 106) (.c (.int .u64 18)), none⟩,
    ⟨(some 108), .mov (.t 10), none⟩,
    ⟨(some 109), .bin .and (.t 108) (.c (.int .u8 63)), none⟩,
    ⟨(some 110), .conv .i32 (.t 109), none⟩,
    ⟨(some 111), .bin .shl (.t 110) (.c (.int .u64 12)), none⟩,
    ⟨(some 112), .bin .or (.t 107) (.t 111), none⟩,
    ⟨(some 113), .mov (.t 11), none⟩,
    ⟨(some 114), .bin .and (.t 113) (.c (.int .u8 63)), none⟩,
    ⟨(some 115), .conv .i32 (.t 114), none⟩,
    ⟨(some 116), .bin .shl (.t 115) (.c (.int .u64 6)), none⟩,
    ⟨(some 117), .bin .or (.t 112) (.t 116), none⟩,
    ⟨(some 118), .mov (.t 12), none⟩,
    ⟨(some 119), .bin .and (.t 118) (.c (.int .u8 63)), none⟩,
    ⟨(some 120), .conv .i32 (.t 119), none⟩,
    ⟨(some 121), .bin .or (.t 117) (.t 120), none⟩,
    ⟨(some 2), .mov (.t 121), none⟩,
    ⟨(some 3), .mov (.c (.int .i64 4)), none⟩])
  (.ret)))))))))))))))))),
  [.tmp 2, .tmp 3]⟩

/- invigilator/invigilatorref02.number -/
def A51L1 : ACode :=
  .seq (.seq (.region false [⟨(some 47), .mov (.t 8), none⟩,
    ⟨(some 48), .mov (.t 5), none⟩,
    ⟨(some 49), .bin .lss (.t 47) (.t 48), none⟩])
  (.cond (.t 49)
   (.skip)
   (.exit 2)))
  (.seq (.block 3 (.seq (.seq (.region false [⟨(some 52), .mov (.t 0), none⟩,
    ⟨(some 53), .mov (.t 8), none⟩,
    ⟨(some 54), .idxA 1 (.t 52) (.t 53), none⟩,
    ⟨(some 55), .ld none (.t 54), none⟩,
    ⟨(some 56), .bin .lss (.t 55) (.c (.int .u8 128)), none⟩,
    ⟨(some 57), .mov (.t 56), none⟩,
    ⟨(some 58), .mov (.t 0), some (57, false)⟩,
    ⟨(some 59), .mov (.t 8), some (57, false)⟩,
    ⟨(some 60), .idxA 1 (.t 58) (.t 59), some (57, false)⟩,
    ⟨(some 61), .ld none (.t 60), some (57, false)⟩,
    ⟨(some 62), .bin .geq (.t 61) (.c (.int .u8 192)), some (57, false)⟩,
    ⟨(some 63), .pick (.t 57) (.c (.bool true)) (.t 62), none⟩])
  (.cond (.t 63)
   (.seq (.region false [⟨(some 2), .mov (.c (.int .i64 (-1))), none⟩])
   (.ret))
   (.skip)))
  (.region false [⟨(some 64), .mov (.t 7), none⟩,
    ⟨(some 65), .bin .mul (.c (.int .i64 64)) (.t 64), none⟩,
    ⟨(some 66), .mov (.t 0), none⟩,
    ⟨(some 67), .mov (.t 8), none⟩,
    ⟨(some 68), .idxA 1 (.t 66) (.t 67), none⟩,
    ⟨(some 69), .ld none (.t 68), none⟩,
    ⟨(some 70), .conv .i64 (.t 69), none⟩,
    ⟨(some 71), .bin .add (.t 65) (.t 70), none⟩,
    ⟨(some 72), .bin .sub (.t 71) (.c (.int .i64 128)), none⟩,
    ⟨(some 7), .mov (.t 72), none⟩])))
  (.region false [⟨(some 50), .mov (.t 8), none⟩,
    ⟨(some 51), .bin .add (.t 50) (.c (.int .i64 1)), none⟩,
    ⟨(some 8), .mov (.t 51), none⟩]))
def A51L0 : ACode :=
  .seq (.seq (.region false [⟨(some 14), .mov (.t 5), none⟩,
    ⟨(some 15), .bin .leq (.t 14) (.c (.int .i64 4)), none⟩])
  (.cond (.t 15)
   (.skip)
   (.exit 0)))
  (.seq (.block 1 (.seq (.region false [⟨(some 18), .mov (.t 5), none⟩,
    ⟨(some 19), .idxP 5 1 (.t 4) (.t 18), none⟩,
    ⟨(some 20), .ld none (.t 19), none⟩,
    ⟨(some 21), .mov (.t 5), none⟩,
    ⟨(some 22), .conv .u64 (.t 21), none⟩,
    ⟨(some 23), .bin .shr (.c (.int .i64 64)) (.t 22), none⟩,
    ⟨(some 24), .bin .mul (.t 23) (.c (.int .i64 2)), none⟩,
    ⟨(some 25), .bin .add (.t 20) (.t 24), none⟩,
    ⟨(some 6), .mov (.t 25), none⟩])
  (.seq (.seq (.region false [⟨(some 26), .mov (.t 0), none⟩,
    ⟨(some 27), .len (.t 26), none⟩,
    ⟨(some 28), .mov (.t 5), none⟩,
    ⟨(some 29), .bin .neq (.t 27) (.t 28), none⟩,
    ⟨(some 30), .mov (.t 29), none⟩,
    ⟨(some 31), .mov (.t 3), some (30, false)⟩,
    ⟨(some 32), .mov (.t 5), some (30, false)⟩,
    ⟨(some 33), .idxP 5 1 (.t 4) (.t 32), some (30, false)⟩,
    ⟨(some 34), .ld none (.t 33), some (30, false)⟩,
    ⟨(some 35), .bin .lss (.t 31) (.t 34), some (30, false)⟩,
    ⟨(some 36), .pick (.t 30) (.c (.bool true)) (.t 35), none⟩,
    ⟨(some 37), .mov (.t 36), none⟩,
    ⟨(some 38), .mov (.t 3), some (37, false)⟩,
    ⟨(some 39), .mov (.t 6), some (37, false)⟩,
    ⟨(some 40), .bin .geq (.t 38) (.t 39), some (37, false)⟩,
    ⟨(some 41), .pick (.t 37) (.c (.bool true)) (.t 40), none⟩])
  (.cond (.t 41)
   (.exit 1)
   (.skip)))
  (.seq (.region false [⟨(some 42), .mov (.t 3), none⟩,
    ⟨(some 43), .mov (.t 5), none⟩,
    ⟨(some 44), .idxP 5 1 (.t 4) (.t 43), none⟩,
    ⟨(some 45), .ld none (.t 44), none⟩,
    ⟨(some 46), .bin .sub (.t 42) (.t 45), none⟩,
    ⟨(some 7), .mov (.t 46), none⟩])
  (.seq (.seq (.region false [⟨(some 8), .mov (.c (.int .i64 1)), none⟩])
  (.block 2 (.loop A51L1)))
  (.seq (.region false [⟨(some 73), .mov (.t 7), none⟩,
    ⟨(some 2), .mov (.t 73), none⟩])
  (.ret)))))))
  (.region false [⟨(some 16), .mov (.t 5), none⟩,
    ⟨(some 17), .bin .add (.t 16) (.c (.int .i64 1)), none⟩,
    ⟨(some 5), .mov (.t 17), none⟩]))
def A51 : AFun := ⟨82,
  .seq (.region false [⟨(some 2), .mov (.c (.int .i64 0)), none⟩])
  (.seq (.region false [⟨(some 9), .mov (.t 0), none⟩,
    ⟨(some 10), .idxA 1 (.t 9) (.c (.int .i64 0)), none⟩,
    ⟨(some 11), .ld none (.t 10), none⟩,
    ⟨(some 12), .conv .i64 (.t 11), none⟩,
    ⟨(some 3), .mov (.t 12), none⟩])
  (.seq (.region false [⟨(some 13), .build [.int .i64 0, .int .i64 0, .int .i64 0, .int .i64 0, .int .i64 0] [(0, 1, (.c (.int .i64 0))), (1, 1, (.c (.int .i64 0))), (2, 1, (.c (.int .i64 192))), (3, 1, (.c (.int .i64 224))), (4, 1, (.c (.int .i64 240)))], none⟩,
    ⟨(some 4), .alloc [.int .i64 0, .int .i64 0, .int .i64 0, .int .i64 0, .int .i64 0], none⟩,
    ⟨none, .st 5 (.t 4) (.t 13), none⟩])
  (.seq (.seq (.region false [⟨(some 5), .mov (.c (.int .i64 2)), none⟩])
  (.block 0 (.loop A51L0)))
  (.seq (.seq (.region false [⟨(some 74), .mov (.t 0), none⟩,
    ⟨(some 75), .len (.t 74), none⟩,
    ⟨(some 76), .bin .eql (.t 75) (.c (.int .i64 1)), none⟩,
    ⟨(some 77), .mov (.t 76), none⟩,
    ⟨(some 78), .mov (.t 3), some (77, true)⟩,
    ⟨(some 79), .bin .lss (.t 78) (.c (.int .i64 128)), some (77, true)⟩,
    ⟨(some 80), .pick (.t 77) (.t 79) (.c (.bool false)), none⟩])
  (.cond (.t 80)
   (.seq (.region false [⟨(some 81), .mov (.t 3), none⟩,
     ⟨(some 2), .mov (.t 81), none⟩])
   (.ret))
   (.skip)))
  (.seq (.region false [⟨(some 2), .mov (.c (.int .i64 (-1))), none⟩])
  (.ret)))))),
  [.tmp 2]⟩

/- unicode/utf8.ValidRune -/
def A52 : AFun := ⟨17,
  .seq (.region false [⟨(some 2), .mov (.c (.bool false)), none⟩])
  (.seq (.block 0 (.seq (.region false [⟨(some 4), .mov (.t 0), none⟩,
    ⟨(some 5), .bin .leq (.c (.int .i32 0)) (.t 4), none⟩,
    ⟨(some 6), .mov (.t 5), none⟩,
    ⟨(some 7), .mov (.t 0), some (6, true)⟩,
    ⟨(some 8), .bin .lss (.t 7) (.c (.int .i32 55296)), some (6, true)⟩,
    ⟨(some 9), .pick (.t 6) (.t 8) (.c (.bool false)), none⟩,
    ⟨(some 3), .mov (.t 9), none⟩])
  (.cond (.t 3)
   (.seq (.region false [⟨(some 2), .mov (.c (.bool true)), none⟩])
   (.ret))
   (.seq (.region false [⟨(some 11), .mov (.t 0), none⟩,
     ⟨(some 12), .bin .lss (.c (.int .i32 57343)) (.t 11), none⟩,
     ⟨(some 13), .mov (.t 12), none⟩,
     ⟨(some 14), .mov (.t 0), some (13, true)⟩,
     ⟨(some 15), .bin .leq (.t 14) (.c (.int .i32 1114111)), some (13, true)⟩,
     ⟨(some 16), .pick (.t 13) (.t 15) (.c (.bool false)), none⟩,
     ⟨(some 10), .mov (.t 16), none⟩])
   (.cond (.t 10)
    (.seq (.region false [⟨(some 2), .mov (.c (.bool true)), none⟩])
    (.ret))
    (.skip))))))
  (.seq (.region false [⟨(some 2), .mov (.c (.bool false)), none⟩])
  (.ret))),
  [.tmp 2]⟩

/- strings.IndexRune -/
def A53L0 : ACode :=
  .seq (.bad)
  (.seq (.cond (.t 177)
   (.skip)
   (.exit 9))
  (.block 10 (.seq (.region false [⟨(some 178), .extr (.t 176) 1, none⟩,
    ⟨(some 179), .extr (.t 176) 2, none⟩,
    ⟨(some 5), .mov (.t 178), none⟩,
    ⟨(some 6), .mov (.t 179), none⟩])
  (.seq (.region false [⟨(some 180), .mov (.t 6), none⟩,
    ⟨(some 181), .bin .eql (.t 180) (.c (.int .i32 65533)), none⟩])
  (.cond (.t 181)
   (.seq (.region false [⟨(some 182), .mov (.t 5), none⟩,
     ⟨(some 4), .mov (.t 182), none⟩])
   (.ret))
   (.skip))))))
def A53L2 : ACode :=
  .seq (.seq (.region false [⟨(some 48), .mov (.t 12), none⟩,
    ⟨(some 49), .mov (.t 7), none⟩,
    ⟨(some 50), .lenS (.t 49), none⟩,
    ⟨(some 51), .bin .lss (.t 48) (.t 50), none⟩])
  (.cond (.t 51)
   (.skip)
   (.exit 3)))
  (.seq (.block 4 (.seq (.region true [⟨(some 54), .mov (.t 0), none⟩,
    ⟨(some 55), .mov (.t 9), none⟩,
    ⟨(some 56), .mov (.t 12), none⟩,
    ⟨(some 57), .bin .sub (.t 55) (.t 56), none⟩,
    ⟨(some 58), .idxS (.t 54) (.t 57), none⟩,
    ⟨(some 59), .mov (.t 7), none⟩,
    ⟨(some 60), .mov (.t 8), none⟩,
    ⟨(some 61), .mov (.t 12), none⟩,
    ⟨(some 62), .bin .sub (.t 60) (.t 61), none⟩,
    ⟨(some 63), .idxS (.t 59) (.t 62), none⟩,
    ⟨(some 64), .bin .neq (.t 58) (.t 63), none⟩])
  (.cond (.t 64)
   (.bad)
   (.skip))))
  (.region false [⟨(some 52), .mov (.t 12), none⟩,
    ⟨(some 53), .bin .add (.t 52) (.c (.int .i64 1)), none⟩,
    ⟨(some 12), .mov (.t 53), none⟩]))
def A53L1 : ACode :=
  .seq (.seq (.region false [⟨(some 23), .mov (.t 9), none⟩,
    ⟨(some 24), .mov (.t 0), none⟩,
    ⟨(some 25), .lenS (.t 24), none⟩,
    ⟨(some 26), .bin .lss (.t 23) (.t 25), none⟩])
  (.cond (.t 26)
   (.skip)
   (.exit 1)))
  (.block 2 (.scope (.seq (.seq (.region true [⟨(some 27), .mov (.t 0), none⟩,
     ⟨(some 28), .mov (.t 9), none⟩,
     ⟨(some 29), .idxS (.t 27) (.t 28), none⟩,
     ⟨(some 30), .mov (.t 7), none⟩,
     ⟨(some 31), .mov (.t 8), none⟩,
     ⟨(some 32), .idxS (.t 30) (.t 31), none⟩,
     ⟨(some 33), .bin .neq (.t 29) (.t 32), none⟩])
   (.cond (.t 33)
    (.seq (.region true [⟨(some 34), .mov (.t 0), none⟩,
      ⟨(some 35), .mov (.t 9), none⟩,
      ⟨(some 36), .bin .add (.t 35) (.c (.int .i64 1)), none⟩,
      ⟨(some 37), .ssl (.t 34) (some (.t 36)) none, none⟩,
      ⟨(some 38), .mov (.t 7), none⟩,
      ⟨(some 39), .mov (.t 8), none⟩,
      ⟨(some 40), .idxS (.t 38) (.t 39), none⟩,
      ⟨(some 41), .call 56 [(.t 37), (.t 40)], none⟩,
      ⟨(some 11), .mov (.t 41), none⟩])
    (.seq (.seq (.region false [⟨(some 42), .mov (.t 11), none⟩,
      ⟨(some 43), .bin .lss (.t 42) (.c (.int .i64 0)), none⟩])
    (.cond (.t 43)
     (.seq (.region false [⟨(some 4), .mov (.c (.int .i64 (-1))), none⟩])
     (.ret))
     (.skip)))
    (.region false [⟨(some 44), .mov (.t 9), none⟩,
      ⟨(some 45), .mov (.t 11), none⟩,
      ⟨(some 46), .bin .add (.t 45) (.c (.int .i64 1)), none⟩,
      ⟨(some 47), .bin .add (.t 44) (.t 46), none⟩,
      ⟨(some 9), .mov (.t 47), none⟩])))
    (.skip)))
   (.seq (.seq (.region false [⟨(some 12), .mov (.c (.int .i64 1)), none⟩])
   (.block 3 (.loop A53L2)))
   (.seq (.seq (.region false [⟨(some 65), .mov (.t 9), none⟩,
     ⟨(some 66), .mov (.t 8), none⟩,
     ⟨(some 67), .bin .sub (.t 65) (.t 66), none⟩,
     ⟨(some 4), .mov (.t 67), none⟩])
   (.ret))
   (.seq (.label)
   (.seq (.region false [⟨(some 68), .mov (.t 10), none⟩,
     ⟨(some 69), .bin .add (.t 68) (.c (.int .i64 1)), none⟩,
     ⟨(some 10), .mov (.t 69), none⟩])
   (.seq (.region false [⟨(some 70), .mov (.t 9), none⟩,
     ⟨(some 71), .bin .add (.t 70) (.c (.int .i64 1)), none⟩,
     ⟨(some 9), .mov (.t 71), none⟩])
   (.seq (.region false [⟨(some 72), .mov (.c (.bool true)), none⟩,
     ⟨(some 73), .mov (.t 10), some (72, true)⟩,
     ⟨(some 74), .mov (.t 9), some (72, true)⟩,
     ⟨(some 75), .call 57 [(.t 74)], some (72, true)⟩,
     ⟨(some 76), .bin .gtr (.t 73) (.t 75), some (72, true)⟩,
     ⟨(some 77), .pick (.t 72) (.t 76) (.c (.bool false)), none⟩,
     ⟨(some 78), .mov (.t 77), none⟩,
     ⟨(some 79), .mov (.t 9), some (78, true)⟩,
     ⟨(some 80), .mov (.t 0), some (78, true)⟩,
     ⟨(some 81), .lenS (.t 80), some (78, true)⟩,
     ⟨(some 82), .bin .lss (.t 79) (.t 81), some (78, true)⟩,
     ⟨(some 83), .pick (.t 78) (.t 82) (.c (.bool false)), none⟩,
     ⟨(some 84), .mov (.t 83), none⟩,
     ⟨(some 85), .mov (.c (.bool false)), some (84, false)⟩,
     ⟨(some 86), .mov (.t 10), some (85, true)⟩,
     ⟨(some 87), .mov (.t 9), some (85, true)⟩,
     ⟨(some 88), .bin .shr (.t 87) (.c (.int .u64 4)), some (85, true)⟩,
     ⟨(some 89), .bin .add (.c (.int .i64 4)) (.t 88), some (85, true)⟩,
     ⟨(some 90), .bin .geq (.t 86) (.t 89), some (85, true)⟩,
     ⟨(some 91), .pick (.t 85) (.t 90) (.c (.bool false)), some (84, false)⟩,
     ⟨(some 92), .mov (.t 91), some (84, false)⟩,
     ⟨(some 93), .mov (.t 9), some (92, true)⟩,
     ⟨(some 94), .mov (.t 0), some (92, true)⟩,
     ⟨(some 95), .lenS (.t 94), some (92, true)⟩,
     ⟨(some 96), .bin .lss (.t 93) (.t 95), some (92, true)⟩,
     ⟨(some 97), .pick (.t 92) (.t 96) (.c (.bool false)), some (84, false)⟩,
     ⟨(some 98), .pick (.t 84) (.c (.bool true)) (.t 97), none⟩])
   (.cond (.t 98)
    (.bad)
    (.skip)))))))))))
def A53L4 : ACode :=
  .seq (.seq (.region false [⟨(some 140), .mov (.t 16), none⟩,
    ⟨(some 141), .mov (.t 7), none⟩,
    ⟨(some 142), .lenS (.t 141), none⟩,
    ⟨(some 143), .bin .lss (.t 140) (.t 142), none⟩])
  (.cond (.t 143)
   (.skip)
   (.exit 7)))
  (.seq (.block 8 (.seq (.region true [⟨(some 146), .mov (.t 0), none⟩,
    ⟨(some 147), .mov (.t 9), none⟩,
    ⟨(some 148), .mov (.t 16), none⟩,
    ⟨(some 149), .bin .sub (.t 147) (.t 148), none⟩,
    ⟨(some 150), .idxS (.t 146) (.t 149), none⟩,
    ⟨(some 151), .mov (.t 7), none⟩,
    ⟨(some 152), .mov (.t 8), none⟩,
    ⟨(some 153), .mov (.t 16), none⟩,
    ⟨(some 154), .bin .sub (.t 152) (.t 153), none⟩,
    ⟨(some 155), .idxS (.t 151) (.t 154), none⟩,
    ⟨(some 156), .bin .neq (.t 150) (.t 155), none⟩])
  (.cond (.t 156)
   (.exit 6)
   (.skip))))
  (.region false [⟨(some 144), .mov (.t 16), none⟩,
    ⟨(some 145), .bin .add (.t 144) (.c (.int .i64 1)), none⟩,
    ⟨(some 16), .mov (.t 145), none⟩]))
def A53L3 : ACode :=
  .seq (.seq (.region false [⟨(some 121), .mov (.t 9), none⟩,
    ⟨(some 122), .mov (.t 0), none⟩,
    ⟨(some 123), .lenS (.t 122), none⟩,
    ⟨(some 124), .bin .lss (.t 121) (.t 123), none⟩])
  (.cond (.t 124)
   (.skip)
   (.exit 5)))
  (.seq (.block 6 (.seq (.region false [⟨(some 127), .mov (.t 0), none⟩,
    ⟨(some 128), .mov (.t 9), none⟩,
    ⟨(some 129), .idxS (.t 127) (.t 128), none⟩,
    ⟨(some 130), .mov (.t 14), none⟩,
    ⟨(some 131), .bin .eql (.t 129) (.t 130), none⟩,
    ⟨(some 132), .mov (.t 131), none⟩,
    ⟨(some 133), .mov (.t 0), some (132, true)⟩,
    ⟨(some 134), .mov (.t 9), some (132, true)⟩,
    ⟨(some 135), .bin .sub (.t 134) (.c (.int .i64 1)), some (132, true)⟩,
    ⟨(some 136), .idxS (.t 133) (.t 135), some (132, true)⟩,
    ⟨(some 137), .mov (.t 15), some (132, true)⟩,
    ⟨(some 138), .bin .eql (.t 136) (.t 137), some (132, true)⟩,
    ⟨(some 139), .pick (.t 132) (.t 138) (.c (.bool false)), none⟩])
  (.cond (.t 139)
   (.seq (.seq (.region false [⟨(some 16), .mov (.c (.int .i64 2)), none⟩])
   (.block 7 (.loop A53L4)))
   (.seq (.region false [⟨(some 157), .mov (.t 9), none⟩,
     ⟨(some 158), .mov (.t 8), none⟩,
     ⟨(some 159), .bin .sub (.t 157) (.t 158), none⟩,
     ⟨(some 4), .mov (.t 159), none⟩])
   (.ret)))
   (.skip))))
  (.region false [⟨(some 125), .mov (.t 9), none⟩,
    ⟨(some 126), .bin .add (.t 125) (.c (.int .i64 1)), none⟩,
    ⟨(some 9), .mov (.t 126), none⟩]))
def A53 : AFun := ⟨187,
  .seq (.region false [⟨(some 4), .mov (.c (.int .i64 0)), none⟩])
  (.block 0 (.seq (.region false [⟨(some 161), .mov (.t 1), none⟩,
    ⟨(some 162), .bin .leq (.c (.int .i32 0)) (.t 161), none⟩,
    ⟨(some 163), .mov (.t 162), none⟩,
    ⟨(some 164), .mov (.t 1), some (163, true)⟩,
    ⟨(some 165), .bin .lss (.t 164) (.c (.int .i32 128)), some (163, true)⟩,
    ⟨(some 166), .pick (.t 163) (.t 165) (.c (.bool false)), none⟩,
    ⟨(some 160), .mov (.t 166), none⟩])
  (.cond (.t 160)
   (.seq (.region false [⟨(some 167), .mov (.t 0), none⟩,
     ⟨(some 168), .mov (.t 1), none⟩,
     ⟨(some 169), .conv .u8 (.t 168), none⟩,
     ⟨(some 170), .call 56 [(.t 167), (.t 169)], none⟩,
     ⟨(some 4), .mov (.t 170), none⟩])
   (.ret))
   (.seq (.region false [⟨(some 172), .mov (.t 1), none⟩,
     ⟨(some 173), .bin .eql (.t 172) (.c (.int .i32 65533)), none⟩,
     ⟨(some 171), .mov (.t 173), none⟩])
   (.cond (.t 171)
    (.seq (.seq (.bad)
    (.block 9 (.loop A53L0)))
    (.seq (.region false [⟨(some 4), .mov (.c (.int .i64 (-1))), none⟩])
    (.ret)))
    (.seq (.region false [⟨(some 184), .mov (.t 1), none⟩,
      ⟨(some 185), .call 52 [(.t 184)], none⟩,
      ⟨(some 186), .not (.t 185), none⟩,
      ⟨(some 183), .mov (.t 186), none⟩])
    (.cond (.t 183)
     (.seq (.region false [⟨(some 4), .mov (.c (.int .i64 (-1))), none⟩])
     (.ret))
     (.scope (.seq (.region false [⟨(some 17), .mov (.t 1), none⟩,
        ⟨(some 18), .r2s (.t 17), none⟩,
        ⟨(some 7), .mov (.t 18), none⟩])
      (.seq (.region false [⟨(some 19), .mov (.t 7), none⟩,
        ⟨(some 20), .lenS (.t 19), none⟩,
        ⟨(some 21), .bin .sub (.t 20) (.c (.int .i64 1)), none⟩,
        ⟨(some 8), .mov (.t 21), none⟩])
      (.seq (.region false [⟨(some 22), .mov (.t 8), none⟩,
        ⟨(some 9), .mov (.t 22), none⟩])
      (.seq (.region false [⟨(some 10), .mov (.c (.int .i64 0)), none⟩])
      (.seq (.block 1 (.loop A53L1))
      (.seq (.seq (.region false [⟨(some 4), .mov (.c (.int .i64 (-1))), none⟩])
      (.ret))
      (.seq (.label)
      (.seq (.cond (.c (.bool true))
       (.seq (.bad)
       (.seq (.region false [⟨(some 107), .mov (.t 13), none⟩,
         ⟨(some 108), .bin .geq (.t 107) (.c (.int .i64 0)), none⟩])
       (.cond (.t 108)
        (.seq (.region false [⟨(some 109), .mov (.t 9), none⟩,
          ⟨(some 110), .mov (.t 13), none⟩,
          ⟨(some 111), .bin .add (.t 109) (.t 110), none⟩,
          ⟨(some 112), .mov (.t 8), none⟩,
          ⟨(some 113), .bin .sub (.t 111) (.t 112), none⟩,
          ⟨(some 4), .mov (.t 113), none⟩])
        (.ret))
        (.skip))))
       (.scope (.seq (.region false [⟨(some 114), .mov (.t 7), none⟩,
          ⟨(some 115), .mov (.t 8), none⟩,
          ⟨(some 116), .idxS (.t 114) (.t 115), none⟩,
          ⟨(some 14), .mov (.t 116), none⟩])
        (.seq (.region false [⟨(some 117), .mov (.t 7), none⟩,
          ⟨(some 118), .mov (.t 8), none⟩,
          ⟨(some 119), .bin .sub (.t 118) (.c (.int .i64 1)), none⟩,
          ⟨(some 120), .idxS (.t 117) (.t 119), none⟩,
          ⟨(some 15), .mov (.t 120), none⟩])
        (.seq (.label)
        (.block 5 (.loop A53L3)))))))
      (.seq (.region false [⟨(some 4), .mov (.c (.int .i64 (-1))), none⟩])
      (.ret)))))))))))))))))),
  [.tmp 4]⟩

/- invigilator/runes.all$1 -/
def A54L0 : ACode :=
  .seq (.seq (.region false [⟨(some 7), .mov (.t 3), none⟩,
    ⟨(some 8), .ld none (.t 1), none⟩,
    ⟨(some 9), .len (.t 8), none⟩,
    ⟨(some 10), .bin .lss (.t 7) (.t 9), none⟩])
  (.cond (.t 10)
   (.skip)
   (.exit 0)))
  (.block 1 (.seq (.region false [⟨(some 12), .ld none (.t 1), none⟩,
    ⟨(some 13), .mov (.t 3), none⟩,
    ⟨(some 14), .call 12 [(.t 12), (.t 13)], none⟩,
    ⟨(some 11), .mov (.t 14), none⟩,
    ⟨(some 15), .extr (.t 11) 0, none⟩,
    ⟨(some 16), .extr (.t 11) 1, none⟩,
    ⟨(some 17), .extr (.t 11) 2, none⟩,
    ⟨(some 4), .mov (.t 15), none⟩,
    ⟨(some 5), .mov (.t 16), none⟩,
    ⟨(some 6), .mov (.t 17), none⟩])
  (.seq (.seq (.region false [⟨(some 18), .mov (.t 6), none⟩,
    ⟨(some 19), .bin .neq (.t 18) (.c (.int .i64 0)), none⟩,
    ⟨(some 20), .mov (.t 19), none⟩,
    ⟨(some 21), .mov (.t 0), some (20, false)⟩,
    ⟨(some 22), .mov (.t 3), some (20, false)⟩,
    ⟨(some 23), .mov (.t 4), some (20, false)⟩,
    ⟨(some 24), .callv (.t 21) [(.t 22), (.t 23)], some (20, false)⟩,
    ⟨(some 25), .not (.t 24), some (20, false)⟩,
    ⟨(some 26), .pick (.t 20) (.c (.bool true)) (.t 25), none⟩])
  (.cond (.t 26)
   (.ret)
   (.skip)))
  (.region false [⟨(some 27), .mov (.t 3), none⟩,
    ⟨(some 28), .mov (.t 5), none⟩,
    ⟨(some 29), .bin .add (.t 27) (.t 28), none⟩,
    ⟨(some 3), .mov (.t 29), none⟩]))))
def A54 : AFun := ⟨30,
  .seq (.region false [⟨(some 3), .mov (.c (.int .i64 0)), none⟩])
  (.block 0 (.loop A54L0)),
  []⟩

/- unicode/utf8.appendRuneNonASCII -/
def A55 : AFun := ⟨78,
  .seq (.region false [⟨(some 4), .mov (.c (.sl .ex [])), none⟩])
  (.seq (.region false [⟨(some 6), .mov (.t 1), none⟩,
    ⟨(some 7), .conv .u32 (.t 6), none⟩,
    ⟨(some 5), .mov (.t 7), none⟩])
  (.block 0 (.seq (.region false [⟨(some 12), .mov (.t 5), none⟩,
    ⟨(some 13), .bin .leq (.t 12) (.c (.int .u32 2047)), none⟩,
    ⟨(some 11), .mov (.t 13), none⟩])
  (.cond (.t 11)
   (.seq (.region false [⟨(some 14), .mov (.t 0), none⟩,
     ⟨(some 15), .mov (.t 1), none⟩,
     ⟨(some 16), .bin .shr (.t 15) (.c (.int .u64 6)), none⟩,
     ⟨(some 17), .conv .u8 (.t 16), none⟩,
     ⟨(some 18), .bin .or (.c (.int .u8 192)) (.t 17), none⟩,
     ⟨(some 19), .mov (.t 1), none⟩,
     ⟨(some 20), .conv .u8 (.t 19), none⟩,
     ⟨(some 21), .bin .and (.t 20) (.c (.int .u8 63)), none⟩,
     ⟨(some 22), .bin .or (.c (.int .u8 128)) (.t 21), none⟩,
     ⟨(some 23), .bsl 1 (.int .u8 0) 2 [(0, (.t 18)), (1, (.t 22))], none⟩,
     ⟨(some 24), .app 1 1 (.t 14) (.t 23), none⟩,
     ⟨(some 4), .mov (.t 24), none⟩])
   (.ret))
   (.seq (.seq (.region false [⟨(some 26), .mov (.t 5), none⟩,
     ⟨(some 27), .bin .lss (.t 26) (.c (.int .u32 55296)), none⟩,
     ⟨(some 25), .mov (.t 27), none⟩])
   (.cond (.t 25)
    (.skip)
    (.region false [⟨(some 28), .mov (.t 5), none⟩,
      ⟨(some 29), .bin .lss (.c (.int .u32 57343)) (.t 28), none⟩,
      ⟨(some 30), .mov (.t 29), none⟩,
      ⟨(some 31), .mov (.t 5), some (30, true)⟩,
      ⟨(some 32), .bin .leq (.t 31) (.c (.int .u32 65535)), some (30, true)⟩,
      ⟨(some 33), .pick (.t 30) (.t 32) (.c (.bool false)), none⟩,
      ⟨(some 25), .mov (.t 33), none⟩])))
   (.cond (.t 25)
    (.seq (.region false [⟨(some 34), .mov (.t 0), none⟩,
      ⟨(some 35), .mov (.t 1), none⟩,
      ⟨(some 36), .bin .shr (.t 35) (.c (.int .u64 12)), none⟩,
      ⟨(some 37), .conv .u8 (.t 36), none⟩,
      ⟨(some 38), .bin .or (.c (.int .u8 224)) (.t 37), none⟩,
      ⟨(some 39), .mov (.t 1), none⟩,
      ⟨(some 40), .bin .shr (.t 39) (.c (.int .u64 6)), none⟩,
      ⟨(some 41), .conv .u8 (.t 40), none⟩,
      ⟨(some 42), .bin .and (.t 41) (.c (.int .u8 63)), none⟩,
      ⟨(some 43), .bin .or (.c (.int .u8 128)) (.t 42), none⟩,
      ⟨(some 44), .mov (.t 1), none⟩,
      ⟨(some 45), .conv .u8 (.t 44), none⟩,
      ⟨(some 46), .bin .and (.t 45) (.c (.int .u8 63)), none⟩,
      ⟨(some 47), .bin .or (.c (.int .u8 128)) (.t 46), none⟩,
      ⟨(some 48), .bsl 1 (.int .u8 0) 3 [(0, (.t 38)), (1, (.t 43)), (2, (.t 47))], none⟩,
      ⟨(some 49), .app 1 1 (.t 34) (.t 48), none⟩,
      ⟨(some 4), .mov (.t 49), none⟩])
    (.ret))
    (.seq (.region false [⟨(some 51), .mov (.t 5), none⟩,
      ⟨(some 52), .bin .gtr (.t 51) (.c (.int .u32 65535)), none⟩,
      ⟨(some 53), .mov (.t 52), none⟩,
      ⟨(some 54), .mov (.t 5), some (53, true)⟩,
      ⟨(some 55), .bin .leq (.t 54) (.c (.int .u32 1114111)), some (53, true)⟩,
      ⟨(some 56), .pick (.t 53) (.t 55) (.c (.bool false)), none⟩,
      ⟨(some 50), .mov (.t 56), none⟩])
    (.cond (.t 50)
     (.seq (.region false [⟨(some 57), .mov (.t 0), none⟩,
       ⟨(some 58), .mov (.t 1), none⟩,
       ⟨(some 59), .bin .shr (.t 58) (.c (.int .u64 18)), none⟩,
       ⟨(some 60), .conv .u8 (.t 59), none⟩,
       ⟨(some 61), .bin .or (.c (.int .u8 240)) (.t 60), none⟩,
       ⟨(some 62), .mov (.t 1), none⟩,
       ⟨(some 63), .bin .shr (.t 62) (.c (.int .u64 12)), none⟩,
       ⟨(some 64), .conv .u8 (.t 63), none⟩,
       ⟨(some 65), .bin .and (.t 64) (.c (.int .u8 63)), none⟩,
       ⟨(some 66), .bin .or (.c (.int .u8 128)) (.t 65), none⟩,
       ⟨(some 67), .mov (.t 1), none⟩,
       ⟨(some 68), .bin .shr (.t 67) (.c (.int .u64 6)), none⟩,
       ⟨(some 69), .conv .u8 (.t 68), none⟩,
       ⟨(some 70), .bin .and (.t 69) (.c (.int .u8 63)), none⟩,
       ⟨(some 71), .bin .or (.c (.int .u8 128)) (.t 70), none⟩,
       ⟨(some 72), .mov (.t 1), none⟩,
       ⟨(some 73), .conv .u8 (.t 72), none⟩,
       ⟨(some 74), .bin .and (.t 73) (.c (.int .u8 63)), none⟩,
       ⟨(some 75), .bin .or (.c (.int .u8 128)) (.t 74), none⟩,
       ⟨(some 76), .bsl 1 (.int .u8 0) 4 [(0, (.t 61)), (1, (.t 66)), (2, (.t 71)), (3, (.t 75))], none⟩,
       ⟨(some 77), .app 1 1 (.t 57) (.t 76), none⟩,
       ⟨(some 4), .mov (.t 77), none⟩])
     (.ret))
     (.seq (.region false [⟨(some 8), .mov (.t 0), none⟩,
       ⟨(some 9), .bsl 1 (.int .u8 0) 3 [(0, (.c (.int .u8 239))), (1, (.c (.int .u8 191))), (2, (.c (.int .u8 189)))], none⟩,
       ⟨(some 10), .app 1 1 (.t 8) (.t 9), none⟩,
       ⟨(some 4), .mov (.t 10), none⟩])
     (.ret)))))))))),
  [.tmp 4]⟩

/- strings.IndexByte -/
def A56 : AFun := ⟨8,
  .seq (.region false [⟨(some 4), .mov (.c (.int .i64 0)), none⟩])
  (.seq (.region false [⟨(some 5), .mov (.t 0), none⟩,
    ⟨(some 6), .mov (.t 1), none⟩,
    ⟨(some 7), .call 59 [(.t 5), (.t 6)], none⟩,
    ⟨(some 4), .mov (.t 7), none⟩])
  (.ret)),
  [.tmp 4]⟩

/- internal/bytealg.Cutover -/
def A57 : AFun := ⟨6,
  .seq (.region false [⟨(some 2), .mov (.c (.int .i64 0)), none⟩])
  (.seq (.region false [⟨(some 3), .mov (.t 0), none⟩,
    ⟨(some 4), .bin .add (.t 3) (.c (.int .i64 16)), none⟩,
    ⟨(some 5), .bin .quo (.t 4) (.c (.int .i64 8)), none⟩,
    ⟨(some 2), .mov (.t 5), none⟩])
  (.ret)),
  [.tmp 2]⟩

/- internal/stringslite.IndexByte -/
def A59 : AFun := ⟨8,
  .seq (.region false [⟨(some 4), .mov (.c (.int .i64 0)), none⟩])
  (.seq (.bad)
  (.ret)),
  [.tmp 4]⟩

section
variable {X : Cx} (hX : X.P = Go.Proofs.Tryd.prog)
include hX
theorem A3_ok : compileFun X.P 3 (fun _ => false) = some A3 := by rw [hX]; kernel_rfl
theorem A4_ok : compileFun X.P 4 (fun _ => false) = some A4 := by rw [hX]; kernel_rfl
theorem A5_ok : compileFun X.P 5 (fun _ => false) = some A5 := by rw [hX]; kernel_rfl
theorem A6_ok : compileFun X.P 6 (fun _ => false) = some A6 := by rw [hX]; kernel_rfl
theorem A7_ok : compileFun X.P 7 (fun _ => false) = some A7 := by rw [hX]; kernel_rfl
theorem A8_ok : compileFun X.P 8 (fun _ => false) = some A8 := by rw [hX]; kernel_rfl
theorem A9_ok : compileFun X.P 9 (fun _ => false) = some A9 := by rw [hX]; kernel_rfl
theorem A10_ok : compileFun X.P 10 (fun _ => false) = some A10 := by rw [hX]; kernel_rfl
theorem A11_ok : compileFun X.P 11 (fun _ => false) = some A11 := by rw [hX]; kernel_rfl
theorem A12_ok : compileFun X.P 12 (fun _ => false) = some A12 := by rw [hX]; kernel_rfl
theorem A13_ok : compileFun X.P 13 (fun _ => false) = some A13 := by rw [hX]; kernel_rfl
theorem A14_ok : compileFun X.P 14 (fun _ => false) = some A14 := by rw [hX]; kernel_rfl
theorem A15_ok : compileFun X.P 15 (fun _ => false) = some A15 := by rw [hX]; kernel_rfl
theorem A16_ok : compileFun X.P 16 (fun _ => false) = some A16 := by rw [hX]; kernel_rfl
theorem A17_ok : compileFun X.P 17 (fun _ => false) = some A17 := by rw [hX]; kernel_rfl
theorem A18_ok : compileFun X.P 18 (fun _ => false) = some A18 := by rw [hX]; kernel_rfl
theorem A19_ok : compileFun X.P 19 (fun _ => false) = some A19 := by rw [hX]; kernel_rfl
theorem A20_ok : compileFun X.P 20 (fun _ => false) = some A20 := by rw [hX]; kernel_rfl
theorem A21_ok : compileFun X.P 21 (fun _ => false) = some A21 := by rw [hX]; kernel_rfl
theorem A22_ok : compileFun X.P 22 (fun _ => false) = some A22 := by rw [hX]; kernel_rfl
theorem A23_ok : compileFun X.P 23 (fun _ => false) = some A23 := by rw [hX]; kernel_rfl
theorem A24_ok : compileFun X.P 24 (fun _ => false) = some A24 := by rw [hX]; kernel_rfl
theorem A25_ok : compileFun X.P 25 (fun _ => false) = some A25 := by rw [hX]; kernel_rfl
theorem A26_ok : compileFun X.P 26 (fun _ => false) = some A26 := by rw [hX]; kernel_rfl
theorem A27_ok : compileFun X.P 27 (fun _ => false) = some A27 := by rw [hX]; kernel_rfl
theorem A28_ok : compileFun X.P 28 (fun _ => false) = some A28 := by rw [hX]; kernel_rfl
theorem A29_ok : compileFun X.P 29 (fun _ => false) = some A29 := by rw [hX]; kernel_rfl
theorem A30_ok : compileFun X.P 30 (fun _ => false) = some A30 := by rw [hX]; kernel_rfl
theorem A31_ok : compileFun X.P 31 (fun _ => false) = some A31 := by rw [hX]; kernel_rfl
theorem A32_ok : compileFun X.P 32 (fun _ => false) = some A32 := by rw [hX]; kernel_rfl
theorem A33_ok : compileFun X.P 33 (fun _ => false) = some A33 := by rw [hX]; kernel_rfl
theorem A34_ok : compileFun X.P 34 (fun _ => false) = some A34 := by rw [hX]; kernel_rfl
theorem A35_ok : compileFun X.P 35 (fun _ => false) = some A35 := by rw [hX]; kernel_rfl
theorem A36_ok : compileFun X.P 36 (fun _ => false) = some A36 := by rw [hX]; kernel_rfl
theorem A37_ok : compileFun X.P 37 (fun _ => false) = some A37 := by rw [hX]; kernel_rfl
theorem A38_ok : compileFun X.P 38 (fun _ => false) = some A38 := by rw [hX]; kernel_rfl
theorem A39_ok : compileFun X.P 39 (fun _ => false) = some A39 := by rw [hX]; kernel_rfl
theorem A40_ok : compileFun X.P 40 (fun _ => false) = some A40 := by rw [hX]; kernel_rfl
theorem A41_ok : compileFun X.P 41 (fun _ => false) = some A41 := by rw [hX]; kernel_rfl
theorem A42_ok : compileFun X.P 42 (fun _ => false) = some A42 := by rw [hX]; kernel_rfl
theorem A43_ok : compileFun X.P 43 (fun _ => false) = some A43 := by rw [hX]; kernel_rfl
theorem A44_ok : compileFun X.P 44 (fun _ => false) = some A44 := by rw [hX]; kernel_rfl
theorem A45_ok : compileFun X.P 45 (fun _ => false) = some A45 := by rw [hX]; kernel_rfl
theorem A46_ok : compileFun X.P 46 (fun _ => false) = some A46 := by rw [hX]; kernel_rfl
theorem A47_ok : compileFun X.P 47 (fun _ => false) = some A47 := by rw [hX]; kernel_rfl
theorem A48_ok : compileFun X.P 48 (fun _ => false) = some A48 := by rw [hX]; kernel_rfl
theorem A49_ok : compileFun X.P 49 (fun _ => false) = some A49 := by rw [hX]; kernel_rfl
theorem A50_ok : compileFun X.P 50 (fun _ => false) = some A50 := by rw [hX]; kernel_rfl
theorem A51_ok : compileFun X.P 51 (fun _ => false) = some A51 := by rw [hX]; kernel_rfl
theorem A52_ok : compileFun X.P 52 (fun _ => false) = some A52 := by rw [hX]; kernel_rfl
theorem A53_ok : compileFun X.P 53 (fun _ => false) = some A53 := by rw [hX]; kernel_rfl
theorem A54_ok : compileFun X.P 54 (fun _ => false) = some A54 := by rw [hX]; kernel_rfl
theorem A55_ok : compileFun X.P 55 (fun _ => false) = some A55 := by rw [hX]; kernel_rfl
theorem A56_ok : compileFun X.P 56 (fun _ => false) = some A56 := by rw [hX]; kernel_rfl
theorem A57_ok : compileFun X.P 57 (fun _ => false) = some A57 := by rw [hX]; kernel_rfl
theorem A59_ok : compileFun X.P 59 (fun _ => false) = some A59 := by rw [hX]; kernel_rfl
end
end Go.Avm
