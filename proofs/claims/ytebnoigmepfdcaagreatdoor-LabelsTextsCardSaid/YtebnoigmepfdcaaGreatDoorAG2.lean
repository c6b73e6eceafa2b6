/- The functions as they have been read. -/
import Derived.Test.YtebnoigmepfdcaaGreatDoorAG1
import Derived.Test.YtebnoigmepfdcaaGreatDoorProg
set_option linter.unusedSectionVars false
set_option linter.unusedSimpArgs false
set_option linter.unusedVariables false

/- The functions as they have been read. -/
namespace Go.Avm
open Go
/- ref04_Meet -/
def A_ref04_MeetL0 : ACode :=
  .seq (.seq (.region false [⟨(some 25), .mov (.t 10), none⟩,
    ⟨(some 26), .mov (.t 1), none⟩,
    ⟨(some 27), .len (.t 26), none⟩,
    ⟨(some 28), .bin .lss (.t 25) (.t 27), none⟩])
  (.cond (.t 28)
   (.skip)
   (.exit 0)))
  (.seq (.block 1 (.region true [⟨(some 32), .ld (some 2) (.t 2), none⟩,
    ⟨(some 33), .mov (.t 8), none⟩,
    ⟨(some 34), .mov (.t 1), none⟩,
    ⟨(some 35), .mov (.t 10), none⟩,
    ⟨(some 36), .idxA 1 (.t 34) (.t 35), none⟩,
    ⟨(some 37), .ld none (.t 36), none⟩,
    ⟨(some 38), .call F_ref03_Meet [(.t 32), (.t 33), (.t 37)], none⟩,
    ⟨(some 31), .mov (.t 38), none⟩,
    ⟨(some 39), .extr (.t 31) 0, none⟩,
    ⟨(some 40), .extr (.t 31) 1, none⟩,
    ⟨(some 8), .mov (.t 39), none⟩]))
  (.region false [⟨(some 29), .mov (.t 10), none⟩,
    ⟨(some 30), .bin .add (.t 29) (.c (.int .i64 1)), none⟩,
    ⟨(some 10), .mov (.t 30), none⟩]))
def A_ref04_Meet : AFun := ⟨42,
  .seq (.region false [⟨(some 2), .box (.t 0), none⟩,
    ⟨(some 4), .mov (.c (.int .i64 0)), none⟩,
    ⟨(some 5), .mov (.c (.int .i64 0)), none⟩])
  (.seq (.region false [⟨(some 12), .ld (some 2) (.t 2), none⟩,
    ⟨(some 13), .mov (.t 1), none⟩,
    ⟨(some 14), .call F_ref04_Check [(.t 12), (.t 13)], none⟩,
    ⟨(some 11), .mov (.t 14), none⟩,
    ⟨(some 15), .extr (.t 11) 0, none⟩,
    ⟨(some 16), .extr (.t 11) 1, none⟩,
    ⟨(some 6), .mov (.t 15), none⟩,
    ⟨(some 7), .mov (.t 16), none⟩])
  (.seq (.seq (.region false [⟨(some 17), .mov (.t 7), none⟩,
    ⟨(some 18), .bin .neq (.t 17) (.c (.int .i64 0)), none⟩])
  (.cond (.t 18)
   (.seq (.region false [⟨(some 19), .mov (.t 7), none⟩,
     ⟨(some 4), .mov (.c (.int .i64 0)), none⟩,
     ⟨(some 5), .mov (.t 19), none⟩])
   (.ret))
   (.skip)))
  (.seq (.region false [⟨(some 21), .ld (some 2) (.t 2), none⟩,
    ⟨(some 22), .call F_ref03_Top [(.t 21)], none⟩,
    ⟨(some 20), .mov (.t 22), none⟩,
    ⟨(some 23), .extr (.t 20) 0, none⟩,
    ⟨(some 24), .extr (.t 20) 1, none⟩,
    ⟨(some 8), .mov (.t 23), none⟩,
    ⟨(some 9), .mov (.t 24), none⟩])
  (.seq (.seq (.region false [⟨(some 10), .mov (.c (.int .i64 0)), none⟩])
  (.block 0 (.loop A_ref04_MeetL0)))
  (.seq (.region false [⟨(some 41), .mov (.t 8), none⟩,
    ⟨(some 4), .mov (.t 41), none⟩,
    ⟨(some 5), .mov (.c (.int .i64 0)), none⟩])
  (.ret)))))),
  [.tmp 4, .tmp 5]⟩

/- labels_Flows -/
def A_labels_Flows : AFun := ⟨38,
  .seq (.region false [⟨(some 3), .box (.t 0), none⟩,
    ⟨(some 5), .box (.t 2), none⟩,
    ⟨(some 6), .mov (.c (.int .i64 0)), none⟩,
    ⟨(some 7), .mov (.c (.int .i64 0)), none⟩])
  (.seq (.seq (.region false [⟨(some 13), .ld (some 2) (.t 3), none⟩,
    ⟨(some 14), .mov (.t 1), none⟩,
    ⟨(some 15), .call F_labels_Check [(.t 13), (.t 14)], none⟩,
    ⟨(some 12), .mov (.t 15), none⟩,
    ⟨(some 16), .extr (.t 12) 0, none⟩,
    ⟨(some 17), .extr (.t 12) 1, none⟩,
    ⟨(some 8), .mov (.t 16), none⟩,
    ⟨(some 9), .mov (.t 17), none⟩])
  (.seq (.region false [⟨(some 18), .mov (.t 9), none⟩,
    ⟨(some 19), .bin .neq (.t 18) (.c (.int .i64 0)), none⟩])
  (.cond (.t 19)
   (.seq (.region false [⟨(some 20), .mov (.t 8), none⟩,
     ⟨(some 21), .mov (.t 9), none⟩,
     ⟨(some 6), .mov (.t 20), none⟩,
     ⟨(some 7), .mov (.t 21), none⟩])
   (.ret))
   (.skip))))
  (.seq (.seq (.region false [⟨(some 22), .ld none (.t 5), none⟩,
    ⟨(some 23), .bin .lss (.t 22) (.c (.int .i64 0)), none⟩,
    ⟨(some 24), .mov (.t 23), none⟩,
    ⟨(some 25), .ld none (.t 5), some (24, false)⟩,
    ⟨(some 26), .fldA 0 (.t 3), some (24, false)⟩,
    ⟨(some 27), .ld none (.t 26), some (24, false)⟩,
    ⟨(some 28), .len (.t 27), some (24, false)⟩,
    ⟨(some 29), .bin .geq (.t 25) (.t 28), some (24, false)⟩,
    ⟨(some 30), .pick (.t 24) (.c (.bool true)) (.t 29), none⟩])
  (.cond (.t 30)
   (.seq (.region false [⟨(some 6), .mov (.c (.int .i64 (-1))), none⟩,
     ⟨(some 7), .mov (.c (.int .i64 7)), none⟩])
   (.ret))
   (.skip)))
  (.seq (.region false [⟨(some 31), .ld (some 2) (.t 3), none⟩,
    ⟨(some 10), .alloc [.sl .ex [], .sl .ex []], none⟩,
    ⟨none, .st 2 (.t 10) (.t 31), none⟩])
  (.seq (.seq (.region false [⟨(some 32), .mov (.t 1), none⟩,
    ⟨(some 33), .mkf F_labels_Flows_1 [] [(.t 10), (.t 5)], none⟩,
    ⟨(some 34), .call F_slices_IndexFunc_int_int [(.t 32), (.t 33)], none⟩,
    ⟨(some 11), .mov (.t 34), none⟩])
  (.seq (.region false [⟨(some 35), .mov (.t 11), none⟩,
    ⟨(some 36), .bin .geq (.t 35) (.c (.int .i64 0)), none⟩])
  (.cond (.t 36)
   (.seq (.region false [⟨(some 37), .mov (.t 11), none⟩,
     ⟨(some 6), .mov (.t 37), none⟩,
     ⟨(some 7), .mov (.c (.int .i64 25)), none⟩])
   (.ret))
   (.skip))))
  (.seq (.region false [⟨(some 6), .mov (.c (.int .i64 0)), none⟩,
    ⟨(some 7), .mov (.c (.int .i64 0)), none⟩])
  (.ret)))))),
  [.tmp 6, .tmp 7]⟩

/- ref04_Flows -/
def A_ref04_FlowsL0 : ACode :=
  .seq (.seq (.region false [⟨(some 30), .mov (.t 10), none⟩,
    ⟨(some 31), .mov (.t 1), none⟩,
    ⟨(some 32), .len (.t 31), none⟩,
    ⟨(some 33), .bin .lss (.t 30) (.t 32), none⟩])
  (.cond (.t 33)
   (.skip)
   (.exit 0)))
  (.seq (.block 1 (.seq (.region true [⟨(some 36), .ld (some 2) (.t 3), none⟩,
    ⟨(some 37), .mov (.t 1), none⟩,
    ⟨(some 38), .mov (.t 10), none⟩,
    ⟨(some 39), .idxA 1 (.t 37) (.t 38), none⟩,
    ⟨(some 40), .ld none (.t 39), none⟩,
    ⟨(some 41), .mov (.t 2), none⟩,
    ⟨(some 42), .call F_ref03_Below [(.t 36), (.t 40), (.t 41)], none⟩,
    ⟨(some 43), .not (.t 42), none⟩])
  (.cond (.t 43)
   (.seq (.region false [⟨(some 44), .mov (.t 10), none⟩,
     ⟨(some 6), .mov (.t 44), none⟩,
     ⟨(some 7), .mov (.c (.int .i64 25)), none⟩])
   (.ret))
   (.skip))))
  (.region false [⟨(some 34), .mov (.t 10), none⟩,
    ⟨(some 35), .bin .add (.t 34) (.c (.int .i64 1)), none⟩,
    ⟨(some 10), .mov (.t 35), none⟩]))
def A_ref04_Flows : AFun := ⟨45,
  .seq (.region false [⟨(some 3), .box (.t 0), none⟩,
    ⟨(some 6), .mov (.c (.int .i64 0)), none⟩,
    ⟨(some 7), .mov (.c (.int .i64 0)), none⟩])
  (.seq (.region false [⟨(some 12), .ld (some 2) (.t 3), none⟩,
    ⟨(some 13), .mov (.t 1), none⟩,
    ⟨(some 14), .call F_ref04_Check [(.t 12), (.t 13)], none⟩,
    ⟨(some 11), .mov (.t 14), none⟩,
    ⟨(some 15), .extr (.t 11) 0, none⟩,
    ⟨(some 16), .extr (.t 11) 1, none⟩,
    ⟨(some 8), .mov (.t 15), none⟩,
    ⟨(some 9), .mov (.t 16), none⟩])
  (.seq (.seq (.region false [⟨(some 17), .mov (.t 9), none⟩,
    ⟨(some 18), .bin .neq (.t 17) (.c (.int .i64 0)), none⟩])
  (.cond (.t 18)
   (.seq (.region false [⟨(some 19), .mov (.t 8), none⟩,
     ⟨(some 20), .mov (.t 9), none⟩,
     ⟨(some 6), .mov (.t 19), none⟩,
     ⟨(some 7), .mov (.t 20), none⟩])
   (.ret))
   (.skip)))
  (.seq (.seq (.region false [⟨(some 21), .mov (.t 2), none⟩,
    ⟨(some 22), .bin .lss (.t 21) (.c (.int .i64 0)), none⟩,
    ⟨(some 23), .mov (.t 22), none⟩,
    ⟨(some 24), .mov (.t 2), some (23, false)⟩,
    ⟨(some 25), .fldA 0 (.t 3), some (23, false)⟩,
    ⟨(some 26), .ld none (.t 25), some (23, false)⟩,
    ⟨(some 27), .len (.t 26), some (23, false)⟩,
    ⟨(some 28), .bin .geq (.t 24) (.t 27), some (23, false)⟩,
    ⟨(some 29), .pick (.t 23) (.c (.bool true)) (.t 28), none⟩])
  (.cond (.t 29)
   (.seq (.region false [⟨(some 6), .mov (.c (.int .i64 (-1))), none⟩,
     ⟨(some 7), .mov (.c (.int .i64 7)), none⟩])
   (.ret))
   (.skip)))
  (.seq (.seq (.region false [⟨(some 10), .mov (.c (.int .i64 0)), none⟩])
  (.block 0 (.loop A_ref04_FlowsL0)))
  (.seq (.region false [⟨(some 6), .mov (.c (.int .i64 0)), none⟩,
    ⟨(some 7), .mov (.c (.int .i64 0)), none⟩])
  (.ret)))))),
  [.tmp 6, .tmp 7]⟩

/- ref03_Join -/
def A_ref03_Join : AFun := ⟨20,
  .seq (.region false [⟨(some 3), .box (.t 0), none⟩,
    ⟨(some 6), .mov (.c (.int .i64 0)), none⟩,
    ⟨(some 7), .mov (.c (.int .i64 0)), none⟩])
  (.seq (.region false [⟨(some 9), .ld (some 2) (.t 3), none⟩,
    ⟨(some 10), .mov (.t 1), none⟩,
    ⟨(some 11), .mov (.t 2), none⟩,
    ⟨(some 12), .call F_ref03_asked [(.t 9), (.t 10), (.t 11)], none⟩,
    ⟨(some 8), .mov (.t 12), none⟩])
  (.seq (.seq (.region false [⟨(some 13), .mov (.t 8), none⟩,
    ⟨(some 14), .bin .neq (.t 13) (.c (.int .i64 0)), none⟩])
  (.cond (.t 14)
   (.seq (.region false [⟨(some 15), .mov (.t 8), none⟩,
     ⟨(some 6), .mov (.c (.int .i64 0)), none⟩,
     ⟨(some 7), .mov (.t 15), none⟩])
   (.ret))
   (.skip)))
  (.seq (.region false [⟨(some 16), .ld (some 2) (.t 3), none⟩,
    ⟨(some 17), .mov (.t 1), none⟩,
    ⟨(some 18), .mov (.t 2), none⟩,
    ⟨(some 19), .call F_ref03_join [(.t 16), (.t 17), (.t 18)], none⟩,
    ⟨(some 6), .mov (.t 19), none⟩,
    ⟨(some 7), .mov (.c (.int .i64 0)), none⟩])
  (.ret)))),
  [.tmp 6, .tmp 7]⟩

/- ref03_Bottom -/
def A_ref03_BottomL0 : ACode :=
  .seq (.seq (.region false [⟨(some 15), .mov (.t 7), none⟩,
    ⟨(some 16), .fldA 0 (.t 1), none⟩,
    ⟨(some 17), .ld none (.t 16), none⟩,
    ⟨(some 18), .len (.t 17), none⟩,
    ⟨(some 19), .bin .lss (.t 15) (.t 18), none⟩])
  (.cond (.t 19)
   (.skip)
   (.exit 0)))
  (.seq (.block 1 (.region false [⟨(some 22), .mov (.t 5), none⟩,
    ⟨(some 23), .mov (.t 7), none⟩,
    ⟨(some 24), .mov (.t 6), none⟩,
    ⟨(some 25), .call F_ref03_nearest [(.t 22), (.t 23), (.t 24)], none⟩,
    ⟨(some 6), .mov (.t 25), none⟩]))
  (.region false [⟨(some 20), .mov (.t 7), none⟩,
    ⟨(some 21), .bin .add (.t 20) (.c (.int .i64 1)), none⟩,
    ⟨(some 7), .mov (.t 21), none⟩]))
def A_ref03_Bottom : AFun := ⟨27,
  .seq (.region false [⟨(some 1), .box (.t 0), none⟩,
    ⟨(some 2), .mov (.c (.int .i64 0)), none⟩,
    ⟨(some 3), .mov (.c (.int .i64 0)), none⟩])
  (.seq (.region false [⟨(some 8), .ld (some 2) (.t 1), none⟩,
    ⟨(some 9), .call F_ref03_asked [(.t 8), (.c (.int .i64 0)), (.c (.int .i64 0))], none⟩,
    ⟨(some 4), .mov (.t 9), none⟩])
  (.seq (.seq (.region false [⟨(some 10), .mov (.t 4), none⟩,
    ⟨(some 11), .bin .neq (.t 10) (.c (.int .i64 0)), none⟩])
  (.cond (.t 11)
   (.seq (.region false [⟨(some 12), .mov (.t 4), none⟩,
     ⟨(some 2), .mov (.c (.int .i64 0)), none⟩,
     ⟨(some 3), .mov (.t 12), none⟩])
   (.ret))
   (.skip)))
  (.seq (.region false [⟨(some 13), .ld (some 2) (.t 1), none⟩,
    ⟨(some 14), .call F_ref03_downs [(.t 13)], none⟩,
    ⟨(some 5), .mov (.t 14), none⟩])
  (.seq (.region false [⟨(some 6), .mov (.c (.int .i64 0)), none⟩])
  (.seq (.seq (.region false [⟨(some 7), .mov (.c (.int .i64 0)), none⟩])
  (.block 0 (.loop A_ref03_BottomL0)))
  (.seq (.region false [⟨(some 26), .mov (.t 6), none⟩,
    ⟨(some 2), .mov (.t 26), none⟩,
    ⟨(some 3), .mov (.c (.int .i64 0)), none⟩])
  (.ret))))))),
  [.tmp 2, .tmp 3]⟩

/- ref03_Top -/
def A_ref03_TopL0 : ACode :=
  .seq (.seq (.region false [⟨(some 12), .mov (.t 6), none⟩,
    ⟨(some 13), .fldA 0 (.t 1), none⟩,
    ⟨(some 14), .ld none (.t 13), none⟩,
    ⟨(some 15), .len (.t 14), none⟩,
    ⟨(some 16), .bin .lss (.t 12) (.t 15), none⟩])
  (.cond (.t 16)
   (.skip)
   (.exit 0)))
  (.seq (.block 1 (.region false [⟨(some 19), .ld (some 2) (.t 1), none⟩,
    ⟨(some 20), .mov (.t 6), none⟩,
    ⟨(some 21), .mov (.t 5), none⟩,
    ⟨(some 22), .call F_ref03_join [(.t 19), (.t 20), (.t 21)], none⟩,
    ⟨(some 5), .mov (.t 22), none⟩]))
  (.region false [⟨(some 17), .mov (.t 6), none⟩,
    ⟨(some 18), .bin .add (.t 17) (.c (.int .i64 1)), none⟩,
    ⟨(some 6), .mov (.t 18), none⟩]))
def A_ref03_Top : AFun := ⟨24,
  .seq (.region false [⟨(some 1), .box (.t 0), none⟩,
    ⟨(some 2), .mov (.c (.int .i64 0)), none⟩,
    ⟨(some 3), .mov (.c (.int .i64 0)), none⟩])
  (.seq (.region false [⟨(some 7), .ld (some 2) (.t 1), none⟩,
    ⟨(some 8), .call F_ref03_asked [(.t 7), (.c (.int .i64 0)), (.c (.int .i64 0))], none⟩,
    ⟨(some 4), .mov (.t 8), none⟩])
  (.seq (.seq (.region false [⟨(some 9), .mov (.t 4), none⟩,
    ⟨(some 10), .bin .neq (.t 9) (.c (.int .i64 0)), none⟩])
  (.cond (.t 10)
   (.seq (.region false [⟨(some 11), .mov (.t 4), none⟩,
     ⟨(some 2), .mov (.c (.int .i64 0)), none⟩,
     ⟨(some 3), .mov (.t 11), none⟩])
   (.ret))
   (.skip)))
  (.seq (.region false [⟨(some 5), .mov (.c (.int .i64 0)), none⟩])
  (.seq (.seq (.region false [⟨(some 6), .mov (.c (.int .i64 0)), none⟩])
  (.block 0 (.loop A_ref03_TopL0)))
  (.seq (.region false [⟨(some 23), .mov (.t 5), none⟩,
    ⟨(some 2), .mov (.t 23), none⟩,
    ⟨(some 3), .mov (.c (.int .i64 0)), none⟩])
  (.ret)))))),
  [.tmp 2, .tmp 3]⟩

/- ref03_Meet -/
def A_ref03_Meet : AFun := ⟨20,
  .seq (.region false [⟨(some 3), .box (.t 0), none⟩,
    ⟨(some 6), .mov (.c (.int .i64 0)), none⟩,
    ⟨(some 7), .mov (.c (.int .i64 0)), none⟩])
  (.seq (.region false [⟨(some 9), .ld (some 2) (.t 3), none⟩,
    ⟨(some 10), .mov (.t 1), none⟩,
    ⟨(some 11), .mov (.t 2), none⟩,
    ⟨(some 12), .call F_ref03_asked [(.t 9), (.t 10), (.t 11)], none⟩,
    ⟨(some 8), .mov (.t 12), none⟩])
  (.seq (.seq (.region false [⟨(some 13), .mov (.t 8), none⟩,
    ⟨(some 14), .bin .neq (.t 13) (.c (.int .i64 0)), none⟩])
  (.cond (.t 14)
   (.seq (.region false [⟨(some 15), .mov (.t 8), none⟩,
     ⟨(some 6), .mov (.c (.int .i64 0)), none⟩,
     ⟨(some 7), .mov (.t 15), none⟩])
   (.ret))
   (.skip)))
  (.seq (.region false [⟨(some 16), .ld (some 2) (.t 3), none⟩,
    ⟨(some 17), .mov (.t 1), none⟩,
    ⟨(some 18), .mov (.t 2), none⟩,
    ⟨(some 19), .call F_ref03_meet [(.t 16), (.t 17), (.t 18)], none⟩,
    ⟨(some 6), .mov (.t 19), none⟩,
    ⟨(some 7), .mov (.c (.int .i64 0)), none⟩])
  (.ret)))),
  [.tmp 6, .tmp 7]⟩

/- ref03_Below -/
def A_ref03_Below : AFun := ⟨31,
  .seq (.region false [⟨(some 3), .box (.t 0), none⟩,
    ⟨(some 6), .mov (.c (.bool false)), none⟩])
  (.seq (.region false [⟨(some 7), .mov (.t 1), none⟩,
    ⟨(some 8), .bin .geq (.t 7) (.c (.int .i64 0)), none⟩,
    ⟨(some 9), .mov (.t 8), none⟩,
    ⟨(some 10), .mov (.t 1), some (9, true)⟩,
    ⟨(some 11), .fldA 1 (.t 3), some (9, true)⟩,
    ⟨(some 12), .ld none (.t 11), some (9, true)⟩,
    ⟨(some 13), .len (.t 12), some (9, true)⟩,
    ⟨(some 14), .bin .lss (.t 10) (.t 13), some (9, true)⟩,
    ⟨(some 15), .pick (.t 9) (.t 14) (.c (.bool false)), none⟩,
    ⟨(some 16), .mov (.t 15), none⟩,
    ⟨(some 17), .mov (.t 2), some (16, true)⟩,
    ⟨(some 18), .bin .geq (.t 17) (.c (.int .i64 0)), some (16, true)⟩,
    ⟨(some 19), .pick (.t 16) (.t 18) (.c (.bool false)), none⟩,
    ⟨(some 20), .mov (.t 19), none⟩,
    ⟨(some 21), .fldA 1 (.t 3), some (20, true)⟩,
    ⟨(some 22), .ld none (.t 21), some (20, true)⟩,
    ⟨(some 23), .mov (.t 1), some (20, true)⟩,
    ⟨(some 24), .idxA 1 (.t 22) (.t 23), some (20, true)⟩,
    ⟨(some 25), .ld none (.t 24), some (20, true)⟩,
    ⟨(some 26), .mov (.t 2), some (20, true)⟩,
    ⟨(some 27), .bin .shr (.t 25) (.t 26), some (20, true)⟩,
    ⟨(some 28), .bin .rem (.t 27) (.c (.int .u8 2)), some (20, true)⟩,
    ⟨(some 29), .bin .eql (.t 28) (.c (.int .u8 1)), some (20, true)⟩,
    ⟨(some 30), .pick (.t 20) (.t 29) (.c (.bool false)), none⟩,
    ⟨(some 6), .mov (.t 30), none⟩])
  (.ret)),
  [.tmp 6]⟩

/- labels_Show -/
def A_labels_ShowL0 : ACode :=
  .seq (.region false [⟨(some 26), .bin .lss (.t 25) (.t 24), none⟩])
  (.seq (.cond (.t 26)
   (.skip)
   (.exit 0))
  (.seq (.block 1 (.seq (.region false [⟨(some 27), .idxA 1 (.t 23) (.t 25), none⟩,
    ⟨(some 28), .ld none (.t 27), none⟩,
    ⟨(some 10), .mov (.t 28), none⟩])
  (.region false [⟨(some 29), .mov (.t 8), none⟩,
    ⟨(some 30), .fldA 0 (.t 2), none⟩,
    ⟨(some 31), .ld none (.t 30), none⟩,
    ⟨(some 32), .mov (.t 10), none⟩,
    ⟨(some 33), .idxA 1 (.t 31) (.t 32), none⟩,
    ⟨(some 34), .ld none (.t 33), none⟩,
    ⟨(some 35), .bsl 1 (.str []) 1 [(0, (.t 34))], none⟩,
    ⟨(some 36), .app 1 16 (.t 29) (.t 35), none⟩,
    ⟨(some 8), .mov (.t 36), none⟩])))
  (.region false [⟨(some 37), .bin .add (.t 25) (.c (.int .i64 1)), none⟩,
    ⟨(some 25), .mov (.t 37), none⟩])))
def A_labels_Show : AFun := ⟨40,
  .seq (.region false [⟨(some 2), .box (.t 0), none⟩,
    ⟨(some 4), .mov (.c (.str [])), none⟩,
    ⟨(some 5), .mov (.c (.int .i64 0)), none⟩])
  (.seq (.seq (.region false [⟨(some 12), .ld (some 2) (.t 2), none⟩,
    ⟨(some 13), .mov (.t 1), none⟩,
    ⟨(some 14), .call F_labels_Check [(.t 12), (.t 13)], none⟩,
    ⟨(some 11), .mov (.t 14), none⟩,
    ⟨(some 15), .extr (.t 11) 0, none⟩,
    ⟨(some 16), .extr (.t 11) 1, none⟩,
    ⟨(some 6), .mov (.t 15), none⟩,
    ⟨(some 7), .mov (.t 16), none⟩])
  (.seq (.region false [⟨(some 17), .mov (.t 7), none⟩,
    ⟨(some 18), .bin .neq (.t 17) (.c (.int .i64 0)), none⟩])
  (.cond (.t 18)
   (.seq (.region false [⟨(some 19), .mov (.t 7), none⟩,
     ⟨(some 4), .mov (.c (.str [])), none⟩,
     ⟨(some 5), .mov (.t 19), none⟩])
   (.ret))
   (.skip))))
  (.seq (.seq (.region false [⟨(some 20), .mov (.t 1), none⟩,
    ⟨(some 21), .len (.t 20), none⟩,
    ⟨(some 22), .bin .eql (.t 21) (.c (.int .i64 0)), none⟩])
  (.cond (.t 22)
   (.seq (.region false [⟨(some 4), .mov (.c (.str [45])), none⟩,
     ⟨(some 5), .mov (.c (.int .i64 0)), none⟩])
   (.ret))
   (.skip)))
  (.seq (.region false [⟨(some 8), .mov (.c (.sl .ex [])), none⟩])
  (.seq (.seq (.region false [⟨(some 23), .mov (.t 1), none⟩,
    ⟨(some 24), .len (.t 23), none⟩,
    ⟨(some 25), .mov (.c (.int .i64 0)), none⟩])
  (.block 0 (.loop A_labels_ShowL0)))
  (.seq (.region false [⟨(some 38), .mov (.t 8), none⟩,
    ⟨(some 39), .call F_strings_Join [(.t 38), (.c (.str [44]))], none⟩,
    ⟨(some 4), .mov (.t 39), none⟩,
    ⟨(some 5), .mov (.c (.int .i64 0)), none⟩])
  (.ret)))))),
  [.tmp 4, .tmp 5]⟩

/- ref04_Show -/
def A_ref04_ShowL0 : ACode :=
  .seq (.seq (.region false [⟨(some 29), .mov (.t 9), none⟩,
    ⟨(some 30), .mov (.t 1), none⟩,
    ⟨(some 31), .len (.t 30), none⟩,
    ⟨(some 32), .bin .lss (.t 29) (.t 31), none⟩])
  (.cond (.t 32)
   (.skip)
   (.exit 0)))
  (.seq (.block 1 (.region true [⟨(some 35), .mov (.t 8), none⟩,
    ⟨(some 36), .bin .add (.t 35) (.c (.str [44])), none⟩,
    ⟨(some 37), .fldA 0 (.t 2), none⟩,
    ⟨(some 38), .ld none (.t 37), none⟩,
    ⟨(some 39), .mov (.t 1), none⟩,
    ⟨(some 40), .mov (.t 9), none⟩,
    ⟨(some 41), .idxA 1 (.t 39) (.t 40), none⟩,
    ⟨(some 42), .ld none (.t 41), none⟩,
    ⟨(some 43), .idxA 1 (.t 38) (.t 42), none⟩,
    ⟨(some 44), .ld none (.t 43), none⟩,
    ⟨(some 45), .bin .add (.t 36) (.t 44), none⟩,
    ⟨(some 8), .mov (.t 45), none⟩]))
  (.region false [⟨(some 33), .mov (.t 9), none⟩,
    ⟨(some 34), .bin .add (.t 33) (.c (.int .i64 1)), none⟩,
    ⟨(some 9), .mov (.t 34), none⟩]))
def A_ref04_Show : AFun := ⟨47,
  .seq (.region false [⟨(some 2), .box (.t 0), none⟩,
    ⟨(some 4), .mov (.c (.str [])), none⟩,
    ⟨(some 5), .mov (.c (.int .i64 0)), none⟩])
  (.seq (.region false [⟨(some 11), .ld (some 2) (.t 2), none⟩,
    ⟨(some 12), .mov (.t 1), none⟩,
    ⟨(some 13), .call F_ref04_Check [(.t 11), (.t 12)], none⟩,
    ⟨(some 10), .mov (.t 13), none⟩,
    ⟨(some 14), .extr (.t 10) 0, none⟩,
    ⟨(some 15), .extr (.t 10) 1, none⟩,
    ⟨(some 6), .mov (.t 14), none⟩,
    ⟨(some 7), .mov (.t 15), none⟩])
  (.seq (.seq (.region false [⟨(some 16), .mov (.t 7), none⟩,
    ⟨(some 17), .bin .neq (.t 16) (.c (.int .i64 0)), none⟩])
  (.cond (.t 17)
   (.seq (.region false [⟨(some 18), .mov (.t 7), none⟩,
     ⟨(some 4), .mov (.c (.str [])), none⟩,
     ⟨(some 5), .mov (.t 18), none⟩])
   (.ret))
   (.skip)))
  (.seq (.seq (.region false [⟨(some 19), .mov (.t 1), none⟩,
    ⟨(some 20), .len (.t 19), none⟩,
    ⟨(some 21), .bin .eql (.t 20) (.c (.int .i64 0)), none⟩])
  (.cond (.t 21)
   (.seq (.region false [⟨(some 4), .mov (.c (.str [45])), none⟩,
     ⟨(some 5), .mov (.c (.int .i64 0)), none⟩])
   (.ret))
   (.skip)))
  (.seq (.region true [⟨(some 22), .fldA 0 (.t 2), none⟩,
    ⟨(some 23), .ld none (.t 22), none⟩,
    ⟨(some 24), .mov (.t 1), none⟩,
    ⟨(some 25), .idxA 1 (.t 24) (.c (.int .i64 0)), none⟩,
    ⟨(some 26), .ld none (.t 25), none⟩,
    ⟨(some 27), .idxA 1 (.t 23) (.t 26), none⟩,
    ⟨(some 28), .ld none (.t 27), none⟩,
    ⟨(some 8), .mov (.t 28), none⟩])
  (.seq (.seq (.region false [⟨(some 9), .mov (.c (.int .i64 1)), none⟩])
  (.block 0 (.loop A_ref04_ShowL0)))
  (.seq (.region false [⟨(some 46), .mov (.t 8), none⟩,
    ⟨(some 4), .mov (.t 46), none⟩,
    ⟨(some 5), .mov (.c (.int .i64 0)), none⟩])
  (.ret))))))),
  [.tmp 4, .tmp 5]⟩

/- labels_Read -/
def A_labels_ReadL0 : ACode :=
  .seq (.region false [⟨(some 36), .bin .lss (.t 35) (.t 34), none⟩])
  (.seq (.cond (.t 36)
   (.skip)
   (.exit 1))
  (.seq (.block 2 (.seq (.region false [⟨(some 37), .idxA 1 (.t 33) (.t 35), none⟩,
    ⟨(some 38), .ld none (.t 37), none⟩,
    ⟨(some 11), .mov (.t 38), none⟩])
  (.seq (.region false [⟨(some 40), .ld (some 2) (.t 2), none⟩,
    ⟨(some 41), .mov (.t 11), none⟩,
    ⟨(some 42), .call F_lattice_Find [(.t 40), (.t 41)], none⟩,
    ⟨(some 39), .mov (.t 42), none⟩,
    ⟨(some 43), .extr (.t 39) 0, none⟩,
    ⟨(some 44), .extr (.t 39) 1, none⟩,
    ⟨(some 12), .mov (.t 43), none⟩,
    ⟨(some 13), .mov (.t 44), none⟩])
  (.seq (.seq (.region false [⟨(some 45), .mov (.t 13), none⟩,
    ⟨(some 46), .bin .neq (.t 45) (.c (.int .i64 0)), none⟩])
  (.cond (.t 46)
   (.seq (.region false [⟨(some 47), .mov (.t 13), none⟩,
     ⟨(some 4), .mov (.c (.sl .ex [])), none⟩,
     ⟨(some 5), .mov (.t 47), none⟩])
   (.ret))
   (.skip)))
  (.region false [⟨(some 48), .mov (.t 9), none⟩,
    ⟨(some 49), .mov (.t 12), none⟩,
    ⟨(some 50), .bsl 1 (.int .i64 0) 1 [(0, (.t 49))], none⟩,
    ⟨(some 51), .app 1 8 (.t 48) (.t 50), none⟩,
    ⟨(some 9), .mov (.t 51), none⟩])))))
  (.region false [⟨(some 52), .bin .add (.t 35) (.c (.int .i64 1)), none⟩,
    ⟨(some 35), .mov (.t 52), none⟩])))
def A_labels_Read : AFun := ⟨54,
  .seq (.region false [⟨(some 2), .box (.t 0), none⟩,
    ⟨(some 4), .mov (.c (.sl .ex [])), none⟩,
    ⟨(some 5), .mov (.c (.int .i64 0)), none⟩])
  (.seq (.seq (.region false [⟨(some 15), .ld (some 2) (.t 2), none⟩,
    ⟨(some 16), .call F_lattice_Check [(.t 15)], none⟩,
    ⟨(some 14), .mov (.t 16), none⟩,
    ⟨(some 17), .extr (.t 14) 0, none⟩,
    ⟨(some 18), .extr (.t 14) 1, none⟩,
    ⟨(some 6), .mov (.t 17), none⟩,
    ⟨(some 7), .mov (.t 18), none⟩])
  (.seq (.region false [⟨(some 19), .mov (.t 7), none⟩,
    ⟨(some 20), .bin .neq (.t 19) (.c (.int .i64 0)), none⟩])
  (.cond (.t 20)
   (.seq (.region false [⟨(some 21), .mov (.t 7), none⟩,
     ⟨(some 4), .mov (.c (.sl .ex [])), none⟩,
     ⟨(some 5), .mov (.t 21), none⟩])
   (.ret))
   (.skip))))
  (.seq (.seq (.region false [⟨(some 22), .mov (.t 1), none⟩,
    ⟨(some 23), .bin .eql (.t 22) (.c (.str [45])), none⟩])
  (.cond (.t 23)
   (.seq (.region false [⟨(some 4), .mov (.c (.sl .ex [])), none⟩,
     ⟨(some 5), .mov (.c (.int .i64 0)), none⟩])
   (.ret))
   (.skip)))
  (.seq (.region false [⟨(some 24), .mov (.t 1), none⟩,
    ⟨(some 25), .call F_strings_Split [(.t 24), (.c (.str [44]))], none⟩,
    ⟨(some 8), .mov (.t 25), none⟩])
  (.seq (.block 0 (.seq (.region false [⟨(some 27), .mov (.t 8), none⟩,
    ⟨(some 28), .len (.t 27), none⟩,
    ⟨(some 29), .bin .gtr (.t 28) (.c (.int .i64 64)), none⟩,
    ⟨(some 26), .mov (.t 29), none⟩])
  (.cond (.t 26)
   (.seq (.region false [⟨(some 4), .mov (.c (.sl .ex [])), none⟩,
     ⟨(some 5), .mov (.c (.int .i64 3)), none⟩])
   (.ret))
   (.seq (.region false [⟨(some 31), .mov (.t 8), none⟩,
     ⟨(some 32), .call F_slices_Contains_string_string [(.t 31), (.c (.str []))], none⟩,
     ⟨(some 30), .mov (.t 32), none⟩])
   (.cond (.t 30)
    (.seq (.region false [⟨(some 4), .mov (.c (.sl .ex [])), none⟩,
      ⟨(some 5), .mov (.c (.int .i64 6)), none⟩])
    (.ret))
    (.skip))))))
  (.seq (.region false [⟨(some 9), .mov (.c (.sl .ex [])), none⟩])
  (.seq (.seq (.region false [⟨(some 33), .mov (.t 8), none⟩,
    ⟨(some 34), .len (.t 33), none⟩,
    ⟨(some 35), .mov (.c (.int .i64 0)), none⟩])
  (.block 1 (.loop A_labels_ReadL0)))
  (.seq (.region false [⟨(some 53), .mov (.t 9), none⟩,
    ⟨(some 4), .mov (.t 53), none⟩,
    ⟨(some 5), .mov (.c (.int .i64 0)), none⟩])
  (.ret)))))))),
  [.tmp 4, .tmp 5]⟩

/- ref04_Read -/
def A_ref04_ReadL0 : ACode :=
  .seq (.seq (.region false [⟨(some 26), .mov (.t 10), none⟩,
    ⟨(some 27), .mov (.t 1), none⟩,
    ⟨(some 28), .lenS (.t 27), none⟩,
    ⟨(some 29), .bin .leq (.t 26) (.t 28), none⟩])
  (.cond (.t 29)
   (.skip)
   (.exit 0)))
  (.seq (.block 1 (.seq (.region false [⟨(some 32), .mov (.t 10), none⟩,
    ⟨(some 33), .mov (.t 1), none⟩,
    ⟨(some 34), .lenS (.t 33), none⟩,
    ⟨(some 35), .bin .eql (.t 32) (.t 34), none⟩,
    ⟨(some 36), .mov (.t 35), none⟩,
    ⟨(some 37), .mov (.t 1), some (36, false)⟩,
    ⟨(some 38), .mov (.t 10), some (36, false)⟩,
    ⟨(some 39), .idxS (.t 37) (.t 38), some (36, false)⟩,
    ⟨(some 40), .bin .eql (.t 39) (.c (.int .u8 44)), some (36, false)⟩,
    ⟨(some 41), .pick (.t 36) (.c (.bool true)) (.t 40), none⟩])
  (.cond (.t 41)
   (.seq (.region false [⟨(some 42), .mov (.t 8), none⟩,
     ⟨(some 43), .mov (.t 1), none⟩,
     ⟨(some 44), .mov (.t 9), none⟩,
     ⟨(some 45), .mov (.t 10), none⟩,
     ⟨(some 46), .ssl (.t 43) (some (.t 44)) (some (.t 45)), none⟩,
     ⟨(some 47), .bsl 1 (.str []) 1 [(0, (.t 46))], none⟩,
     ⟨(some 48), .app 1 16 (.t 42) (.t 47), none⟩,
     ⟨(some 8), .mov (.t 48), none⟩])
   (.region false [⟨(some 49), .mov (.t 10), none⟩,
     ⟨(some 50), .bin .add (.t 49) (.c (.int .i64 1)), none⟩,
     ⟨(some 9), .mov (.t 50), none⟩]))
   (.skip))))
  (.region false [⟨(some 30), .mov (.t 10), none⟩,
    ⟨(some 31), .bin .add (.t 30) (.c (.int .i64 1)), none⟩,
    ⟨(some 10), .mov (.t 31), none⟩]))
def A_ref04_ReadL1 : ACode :=
  .seq (.seq (.region false [⟨(some 54), .mov (.t 11), none⟩,
    ⟨(some 55), .mov (.t 8), none⟩,
    ⟨(some 56), .len (.t 55), none⟩,
    ⟨(some 57), .bin .lss (.t 54) (.t 56), none⟩])
  (.cond (.t 57)
   (.skip)
   (.exit 2)))
  (.seq (.block 3 (.seq (.region false [⟨(some 60), .mov (.t 8), none⟩,
    ⟨(some 61), .mov (.t 11), none⟩,
    ⟨(some 62), .idxA 1 (.t 60) (.t 61), none⟩,
    ⟨(some 63), .ld none (.t 62), none⟩,
    ⟨(some 64), .bin .eql (.t 63) (.c (.str [])), none⟩])
  (.cond (.t 64)
   (.seq (.region false [⟨(some 4), .mov (.c (.sl .ex [])), none⟩,
     ⟨(some 5), .mov (.c (.int .i64 6)), none⟩])
   (.ret))
   (.skip))))
  (.region false [⟨(some 58), .mov (.t 11), none⟩,
    ⟨(some 59), .bin .add (.t 58) (.c (.int .i64 1)), none⟩,
    ⟨(some 11), .mov (.t 59), none⟩]))
def A_ref04_ReadL2 : ACode :=
  .seq (.seq (.region false [⟨(some 65), .mov (.t 13), none⟩,
    ⟨(some 66), .mov (.t 8), none⟩,
    ⟨(some 67), .len (.t 66), none⟩,
    ⟨(some 68), .bin .lss (.t 65) (.t 67), none⟩])
  (.cond (.t 68)
   (.skip)
   (.exit 4)))
  (.seq (.block 5 (.seq (.region true [⟨(some 72), .ld (some 2) (.t 2), none⟩,
    ⟨(some 73), .mov (.t 8), none⟩,
    ⟨(some 74), .mov (.t 13), none⟩,
    ⟨(some 75), .idxA 1 (.t 73) (.t 74), none⟩,
    ⟨(some 76), .ld none (.t 75), none⟩,
    ⟨(some 77), .call F_ref03_Find [(.t 72), (.t 76)], none⟩,
    ⟨(some 71), .mov (.t 77), none⟩,
    ⟨(some 78), .extr (.t 71) 0, none⟩,
    ⟨(some 79), .extr (.t 71) 1, none⟩,
    ⟨(some 14), .mov (.t 78), none⟩,
    ⟨(some 15), .mov (.t 79), none⟩])
  (.seq (.seq (.region false [⟨(some 80), .mov (.t 15), none⟩,
    ⟨(some 81), .bin .neq (.t 80) (.c (.int .i64 0)), none⟩])
  (.cond (.t 81)
   (.seq (.region false [⟨(some 82), .mov (.t 15), none⟩,
     ⟨(some 4), .mov (.c (.sl .ex [])), none⟩,
     ⟨(some 5), .mov (.t 82), none⟩])
   (.ret))
   (.skip)))
  (.region false [⟨(some 83), .mov (.t 12), none⟩,
    ⟨(some 84), .mov (.t 14), none⟩,
    ⟨(some 85), .bsl 1 (.int .i64 0) 1 [(0, (.t 84))], none⟩,
    ⟨(some 86), .app 1 8 (.t 83) (.t 85), none⟩,
    ⟨(some 12), .mov (.t 86), none⟩]))))
  (.region false [⟨(some 69), .mov (.t 13), none⟩,
    ⟨(some 70), .bin .add (.t 69) (.c (.int .i64 1)), none⟩,
    ⟨(some 13), .mov (.t 70), none⟩]))
def A_ref04_Read : AFun := ⟨88,
  .seq (.region false [⟨(some 2), .box (.t 0), none⟩,
    ⟨(some 4), .mov (.c (.sl .ex [])), none⟩,
    ⟨(some 5), .mov (.c (.int .i64 0)), none⟩])
  (.seq (.region false [⟨(some 17), .ld (some 2) (.t 2), none⟩,
    ⟨(some 18), .call F_ref03_Check [(.t 17)], none⟩,
    ⟨(some 16), .mov (.t 18), none⟩,
    ⟨(some 19), .extr (.t 16) 0, none⟩,
    ⟨(some 20), .extr (.t 16) 1, none⟩,
    ⟨(some 6), .mov (.t 19), none⟩,
    ⟨(some 7), .mov (.t 20), none⟩])
  (.seq (.seq (.region false [⟨(some 21), .mov (.t 7), none⟩,
    ⟨(some 22), .bin .neq (.t 21) (.c (.int .i64 0)), none⟩])
  (.cond (.t 22)
   (.seq (.region false [⟨(some 23), .mov (.t 7), none⟩,
     ⟨(some 4), .mov (.c (.sl .ex [])), none⟩,
     ⟨(some 5), .mov (.t 23), none⟩])
   (.ret))
   (.skip)))
  (.seq (.seq (.region false [⟨(some 24), .mov (.t 1), none⟩,
    ⟨(some 25), .bin .eql (.t 24) (.c (.str [45])), none⟩])
  (.cond (.t 25)
   (.seq (.region false [⟨(some 4), .mov (.c (.sl .ex [])), none⟩,
     ⟨(some 5), .mov (.c (.int .i64 0)), none⟩])
   (.ret))
   (.skip)))
  (.seq (.region false [⟨(some 8), .mov (.c (.sl .ex [])), none⟩])
  (.seq (.region false [⟨(some 9), .mov (.c (.int .i64 0)), none⟩])
  (.seq (.seq (.region false [⟨(some 10), .mov (.c (.int .i64 0)), none⟩])
  (.block 0 (.loop A_ref04_ReadL0)))
  (.seq (.seq (.region false [⟨(some 51), .mov (.t 8), none⟩,
    ⟨(some 52), .len (.t 51), none⟩,
    ⟨(some 53), .bin .gtr (.t 52) (.c (.int .i64 64)), none⟩])
  (.cond (.t 53)
   (.seq (.region false [⟨(some 4), .mov (.c (.sl .ex [])), none⟩,
     ⟨(some 5), .mov (.c (.int .i64 3)), none⟩])
   (.ret))
   (.skip)))
  (.seq (.seq (.region false [⟨(some 11), .mov (.c (.int .i64 0)), none⟩])
  (.block 2 (.loop A_ref04_ReadL1)))
  (.seq (.region false [⟨(some 12), .mov (.c (.sl .ex [])), none⟩])
  (.seq (.seq (.region false [⟨(some 13), .mov (.c (.int .i64 0)), none⟩])
  (.block 4 (.loop A_ref04_ReadL2)))
  (.seq (.region false [⟨(some 87), .mov (.t 12), none⟩,
    ⟨(some 4), .mov (.t 87), none⟩,
    ⟨(some 5), .mov (.c (.int .i64 0)), none⟩])
  (.ret)))))))))))),
  [.tmp 4, .tmp 5]⟩

/- law03_Diamond -/
def A_law03_Diamond : AFun := ⟨4,
  .seq (.region false [⟨(some 0), .alloc [.sl .ex [], .sl .ex []], none⟩])
  (.seq (.region false [⟨(some 1), .bsl 1 (.str []) 4 [(0, (.c (.str [108, 111, 119]))), (1, (.c (.str [97, 110, 110]))), (2, (.c (.str [98, 111, 98]))), (3, (.c (.str [116, 111, 112])))], none⟩,
    ⟨(some 2), .bsl 1 (.int .u8 0) 4 [(0, (.c (.int .u8 15))), (1, (.c (.int .u8 10))), (2, (.c (.int .u8 12))), (3, (.c (.int .u8 8)))], none⟩,
    ⟨(some 3), .build [.sl .ex [], .sl .ex []] [(0, 1, (.t 1)), (1, 1, (.t 2))], none⟩,
    ⟨none, .st 2 (.t 0) (.t 3), none⟩])
  (.ret)),
  [.cell (some 2) 0]⟩

/- law03_long -/
def A_law03_longL0 : ACode :=
  .seq (.seq (.region false [⟨(some 4), .mov (.t 3), none⟩,
    ⟨(some 5), .mov (.t 0), none⟩,
    ⟨(some 6), .len (.t 5), none⟩,
    ⟨(some 7), .bin .lss (.t 4) (.t 6), none⟩,
    ⟨(some 8), .mov (.t 7), none⟩,
    ⟨(some 9), .mov (.t 3), some (8, true)⟩,
    ⟨(some 10), .bin .lss (.t 9) (.c (.int .i64 20)), some (8, true)⟩,
    ⟨(some 11), .pick (.t 8) (.t 10) (.c (.bool false)), none⟩])
  (.cond (.t 11)
   (.skip)
   (.exit 0)))
  (.seq (.block 1 (.seq (.region false [⟨(some 14), .mov (.t 0), none⟩,
    ⟨(some 15), .mov (.t 3), none⟩,
    ⟨(some 16), .idxA 1 (.t 14) (.t 15), none⟩,
    ⟨(some 17), .ld none (.t 16), none⟩,
    ⟨(some 18), .lenS (.t 17), none⟩,
    ⟨(some 19), .bin .gtr (.t 18) (.c (.int .i64 100)), none⟩])
  (.cond (.t 19)
   (.seq (.region false [⟨(some 2), .mov (.c (.bool true)), none⟩])
   (.ret))
   (.skip))))
  (.region false [⟨(some 12), .mov (.t 3), none⟩,
    ⟨(some 13), .bin .add (.t 12) (.c (.int .i64 1)), none⟩,
    ⟨(some 3), .mov (.t 13), none⟩]))
def A_law03_long : AFun := ⟨23,
  .seq (.region false [⟨(some 2), .mov (.c (.bool false)), none⟩])
  (.seq (.seq (.region false [⟨(some 3), .mov (.c (.int .i64 0)), none⟩])
  (.block 0 (.loop A_law03_longL0)))
  (.seq (.region false [⟨(some 20), .mov (.t 0), none⟩,
    ⟨(some 21), .len (.t 20), none⟩,
    ⟨(some 22), .bin .gtr (.t 21) (.c (.int .i64 12)), none⟩,
    ⟨(some 2), .mov (.t 22), none⟩])
  (.ret))),
  [.tmp 2]⟩

/- labels_order_below -/
def A_labels_order_below : AFun := ⟨18,
  .seq (.region false [⟨(some 6), .mov (.c (.bool false)), none⟩])
  (.seq (.region false [⟨(some 7), .mov (.t 0), none⟩,
    ⟨(some 8), .nck (.t 7), none⟩,
    ⟨(some 9), .fldA 1 (.t 8), none⟩,
    ⟨(some 10), .ld none (.t 9), none⟩,
    ⟨(some 11), .mov (.t 1), none⟩,
    ⟨(some 12), .idxA 1 (.t 10) (.t 11), none⟩,
    ⟨(some 13), .ld none (.t 12), none⟩,
    ⟨(some 14), .mov (.t 2), none⟩,
    ⟨(some 15), .bin .shr (.t 13) (.t 14), none⟩,
    ⟨(some 16), .bin .and (.t 15) (.c (.int .u8 1)), none⟩,
    ⟨(some 17), .bin .eql (.t 16) (.c (.int .u8 1)), none⟩,
    ⟨(some 6), .mov (.t 17), none⟩])
  (.ret)),
  [.tmp 6]⟩

/- slices_ContainsFunc_int_int -/
def A_slices_ContainsFunc_int_int : AFun := ⟨9,
  .seq (.region false [⟨(some 4), .mov (.c (.bool false)), none⟩])
  (.seq (.region false [⟨(some 5), .mov (.t 0), none⟩,
    ⟨(some 6), .mov (.t 1), none⟩,
    ⟨(some 7), .call F_slices_IndexFunc_int_int [(.t 5), (.t 6)], none⟩,
    ⟨(some 8), .bin .geq (.t 7) (.c (.int .i64 0)), none⟩,
    ⟨(some 4), .mov (.t 8), none⟩])
  (.ret)),
  [.tmp 4]⟩

/- labels_Least_1 -/
def A_labels_Least_1 : AFun := ⟨8,
  .seq (.region false [⟨(some 4), .mov (.c (.bool false)), none⟩])
  (.seq (.region false [⟨(some 5), .mov (.t 0), none⟩,
    ⟨(some 6), .ld none (.t 2), none⟩,
    ⟨(some 7), .call F_labels_order_below [(.t 1), (.t 5), (.t 6)], none⟩,
    ⟨(some 4), .mov (.t 7), none⟩])
  (.ret)),
  [.tmp 4]⟩

/- ref04_sorted -/
def A_ref04_sortedL1 : ACode :=
  .seq (.seq (.region false [⟨(some 15), .mov (.t 7), none⟩,
    ⟨(some 16), .fldA 0 (.t 2), none⟩,
    ⟨(some 17), .ld none (.t 16), none⟩,
    ⟨(some 18), .len (.t 17), none⟩,
    ⟨(some 19), .bin .lss (.t 15) (.t 18), none⟩])
  (.cond (.t 19)
   (.skip)
   (.exit 2)))
  (.seq (.block 3 (.seq (.region false [⟨(some 22), .ld (some 2) (.t 2), none⟩,
    ⟨(some 23), .mov (.t 7), none⟩,
    ⟨(some 24), .call F_ref04_level [(.t 22), (.t 23)], none⟩,
    ⟨(some 25), .mov (.t 6), none⟩,
    ⟨(some 26), .bin .eql (.t 24) (.t 25), none⟩,
    ⟨(some 27), .mov (.t 26), none⟩,
    ⟨(some 28), .mov (.t 1), some (27, true)⟩,
    ⟨(some 29), .mov (.t 7), some (27, true)⟩,
    ⟨(some 30), .call F_ref04_has [(.t 28), (.t 29)], some (27, true)⟩,
    ⟨(some 31), .pick (.t 27) (.t 30) (.c (.bool false)), none⟩])
  (.cond (.t 31)
   (.region false [⟨(some 32), .mov (.t 5), none⟩,
     ⟨(some 33), .mov (.t 7), none⟩,
     ⟨(some 34), .bsl 1 (.int .i64 0) 1 [(0, (.t 33))], none⟩,
     ⟨(some 35), .app 1 8 (.t 32) (.t 34), none⟩,
     ⟨(some 5), .mov (.t 35), none⟩])
   (.skip))))
  (.region false [⟨(some 20), .mov (.t 7), none⟩,
    ⟨(some 21), .bin .add (.t 20) (.c (.int .i64 1)), none⟩,
    ⟨(some 7), .mov (.t 21), none⟩]))
def A_ref04_sortedL0 : ACode :=
  .seq (.seq (.region false [⟨(some 8), .mov (.t 6), none⟩,
    ⟨(some 9), .fldA 0 (.t 2), none⟩,
    ⟨(some 10), .ld none (.t 9), none⟩,
    ⟨(some 11), .len (.t 10), none⟩,
    ⟨(some 12), .bin .leq (.t 8) (.t 11), none⟩])
  (.cond (.t 12)
   (.skip)
   (.exit 0)))
  (.seq (.block 1 (.seq (.region false [⟨(some 7), .mov (.c (.int .i64 0)), none⟩])
  (.block 2 (.loop A_ref04_sortedL1))))
  (.region false [⟨(some 13), .mov (.t 6), none⟩,
    ⟨(some 14), .bin .add (.t 13) (.c (.int .i64 1)), none⟩,
    ⟨(some 6), .mov (.t 14), none⟩]))
def A_ref04_sorted : AFun := ⟨37,
  .seq (.region false [⟨(some 2), .box (.t 0), none⟩,
    ⟨(some 4), .mov (.c (.sl .ex [])), none⟩])
  (.seq (.region false [⟨(some 5), .mov (.c (.sl .ex [])), none⟩])
  (.seq (.seq (.region false [⟨(some 6), .mov (.c (.int .i64 1)), none⟩])
  (.block 0 (.loop A_ref04_sortedL0)))
  (.seq (.region false [⟨(some 36), .mov (.t 5), none⟩,
    ⟨(some 4), .mov (.t 36), none⟩])
  (.ret)))),
  [.tmp 4]⟩

/- labels_beyond -/
def A_labels_beyondL0 : ACode :=
  .seq (.region false [⟨(some 28), .bin .lss (.t 27) (.t 26), none⟩])
  (.seq (.cond (.t 28)
   (.skip)
   (.exit 0))
  (.seq (.block 1 (.seq (.region false [⟨(some 29), .mov (.t 27), none⟩,
    ⟨(some 12), .mov (.t 29), none⟩])
  (.seq (.region false [⟨(some 30), .mov (.t 2), none⟩,
    ⟨(some 31), .mov (.t 12), none⟩,
    ⟨(some 32), .callv (.t 30) [(.t 10), (.t 31)], none⟩])
  (.cond (.t 32)
   (.region false [⟨(some 33), .mov (.t 11), none⟩,
     ⟨(some 34), .mov (.t 12), none⟩,
     ⟨(some 35), .bsl 1 (.int .i64 0) 1 [(0, (.t 34))], none⟩,
     ⟨(some 36), .app 1 8 (.t 33) (.t 35), none⟩,
     ⟨(some 11), .mov (.t 36), none⟩])
   (.skip)))))
  (.region false [⟨(some 37), .bin .add (.t 27) (.c (.int .i64 1)), none⟩,
    ⟨(some 27), .mov (.t 37), none⟩])))
def A_labels_beyond : AFun := ⟨40,
  .seq (.region false [⟨(some 3), .box (.t 0), none⟩,
    ⟨(some 6), .mov (.c (.sl .ex [])), none⟩,
    ⟨(some 7), .mov (.c (.int .i64 0)), none⟩])
  (.seq (.seq (.region false [⟨(some 14), .ld (some 2) (.t 3), none⟩,
    ⟨(some 15), .mov (.t 1), none⟩,
    ⟨(some 16), .bsl 1 (.int .i64 0) 1 [(0, (.t 15))], none⟩,
    ⟨(some 17), .call F_labels_Check [(.t 14), (.t 16)], none⟩,
    ⟨(some 13), .mov (.t 17), none⟩,
    ⟨(some 18), .extr (.t 13) 0, none⟩,
    ⟨(some 19), .extr (.t 13) 1, none⟩,
    ⟨(some 8), .mov (.t 18), none⟩,
    ⟨(some 9), .mov (.t 19), none⟩])
  (.seq (.region false [⟨(some 20), .mov (.t 9), none⟩,
    ⟨(some 21), .bin .neq (.t 20) (.c (.int .i64 0)), none⟩])
  (.cond (.t 21)
   (.seq (.region false [⟨(some 22), .mov (.t 9), none⟩,
     ⟨(some 6), .mov (.c (.sl .ex [])), none⟩,
     ⟨(some 7), .mov (.t 22), none⟩])
   (.ret))
   (.skip))))
  (.seq (.region false [⟨(some 23), .ld (some 2) (.t 3), none⟩,
    ⟨(some 10), .alloc [.sl .ex [], .sl .ex []], none⟩,
    ⟨none, .st 2 (.t 10) (.t 23), none⟩])
  (.seq (.region false [⟨(some 11), .mov (.c (.sl .ex [])), none⟩])
  (.seq (.seq (.region false [⟨(some 24), .fldA 0 (.t 3), none⟩,
    ⟨(some 25), .ld none (.t 24), none⟩,
    ⟨(some 26), .len (.t 25), none⟩,
    ⟨(some 27), .mov (.c (.int .i64 0)), none⟩])
  (.block 0 (.loop A_labels_beyondL0)))
  (.seq (.region false [⟨(some 38), .mov (.t 11), none⟩,
    ⟨(some 39), .call F_labels_sorted [(.t 10), (.t 38)], none⟩,
    ⟨(some 6), .mov (.t 39), none⟩,
    ⟨(some 7), .mov (.c (.int .i64 0)), none⟩])
  (.ret)))))),
  [.tmp 6, .tmp 7]⟩

/- labels_Down_1 -/
def A_labels_Down_1 : AFun := ⟨10,
  .seq (.region false [⟨(some 5), .mov (.c (.bool false)), none⟩])
  (.seq (.region false [⟨(some 6), .mov (.t 0), none⟩,
    ⟨(some 7), .mov (.t 1), none⟩,
    ⟨(some 8), .ld none (.t 2), none⟩,
    ⟨(some 9), .call F_labels_order_below [(.t 6), (.t 7), (.t 8)], none⟩,
    ⟨(some 5), .mov (.t 9), none⟩])
  (.ret)),
  [.tmp 5]⟩

/- labels_Up_1 -/
def A_labels_Up_1 : AFun := ⟨10,
  .seq (.region false [⟨(some 5), .mov (.c (.bool false)), none⟩])
  (.seq (.region false [⟨(some 6), .mov (.t 0), none⟩,
    ⟨(some 7), .ld none (.t 2), none⟩,
    ⟨(some 8), .mov (.t 1), none⟩,
    ⟨(some 9), .call F_labels_order_below [(.t 6), (.t 7), (.t 8)], none⟩,
    ⟨(some 5), .mov (.t 9), none⟩])
  (.ret)),
  [.tmp 5]⟩

/- labels_sorted -/
def A_labels_sortedL1 : ACode :=
  .seq (.region false [⟨(some 29), .bin .lss (.t 28) (.t 27), none⟩])
  (.seq (.cond (.t 29)
   (.skip)
   (.exit 2))
  (.seq (.block 3 (.seq (.region false [⟨(some 30), .mov (.t 28), none⟩,
    ⟨(some 7), .mov (.t 30), none⟩])
  (.seq (.region false [⟨(some 31), .mov (.t 0), none⟩,
    ⟨(some 32), .mov (.t 7), none⟩,
    ⟨(some 33), .mov (.t 6), none⟩,
    ⟨(some 34), .call F_labels_order_below [(.t 31), (.t 32), (.t 33)], none⟩])
  (.cond (.t 34)
   (.region false [⟨(some 35), .ld none (.t 5), none⟩,
     ⟨(some 36), .mov (.t 6), none⟩,
     ⟨(some 37), .idxA 1 (.t 35) (.t 36), none⟩,
     ⟨(some 38), .ld none (.t 37), none⟩,
     ⟨(some 39), .bin .add (.t 38) (.c (.int .i64 1)), none⟩,
     ⟨(some 40), .idxA 1 (.t 35) (.t 36), none⟩,
     ⟨none, .st 1 (.t 40) (.t 39), none⟩])
   (.skip)))))
  (.region false [⟨(some 41), .bin .add (.t 28) (.c (.int .i64 1)), none⟩,
    ⟨(some 28), .mov (.t 41), none⟩])))
def A_labels_sortedL0 : ACode :=
  .seq (.region false [⟨(some 21), .bin .lss (.t 20) (.t 19), none⟩])
  (.seq (.cond (.t 21)
   (.skip)
   (.exit 0))
  (.seq (.block 1 (.seq (.region false [⟨(some 22), .mov (.t 20), none⟩,
    ⟨(some 6), .mov (.t 22), none⟩])
  (.seq (.region false [⟨(some 23), .mov (.t 0), none⟩,
    ⟨(some 24), .nck (.t 23), none⟩,
    ⟨(some 25), .fldA 0 (.t 24), none⟩,
    ⟨(some 26), .ld none (.t 25), none⟩,
    ⟨(some 27), .len (.t 26), none⟩,
    ⟨(some 28), .mov (.c (.int .i64 0)), none⟩])
  (.block 2 (.loop A_labels_sortedL1)))))
  (.region false [⟨(some 42), .bin .add (.t 20) (.c (.int .i64 1)), none⟩,
    ⟨(some 20), .mov (.t 42), none⟩])))
def A_labels_sorted : AFun := ⟨50,
  .seq (.region false [⟨(some 4), .mov (.c (.sl .ex [])), none⟩])
  (.seq (.region false [⟨(some 9), .mov (.t 0), none⟩,
    ⟨(some 10), .nck (.t 9), none⟩,
    ⟨(some 11), .fldA 0 (.t 10), none⟩,
    ⟨(some 12), .ld none (.t 11), none⟩,
    ⟨(some 13), .len (.t 12), none⟩,
    ⟨(some 14), .mkR 1 8 [.int .i64 0] (.t 13) (.t 13), none⟩,
    ⟨(some 5), .alloc [.sl .ex []], none⟩,
    ⟨none, .st 1 (.t 5) (.t 14), none⟩])
  (.seq (.seq (.region false [⟨(some 15), .mov (.t 0), none⟩,
    ⟨(some 16), .nck (.t 15), none⟩,
    ⟨(some 17), .fldA 0 (.t 16), none⟩,
    ⟨(some 18), .ld none (.t 17), none⟩,
    ⟨(some 19), .len (.t 18), none⟩,
    ⟨(some 20), .mov (.c (.int .i64 0)), none⟩])
  (.block 0 (.loop A_labels_sortedL0)))
  (.seq (.region false [⟨(some 43), .mov (.t 1), none⟩,
    ⟨(some 44), .call F_slices_Clone_int_int [(.t 43)], none⟩,
    ⟨(some 8), .mov (.t 44), none⟩])
  (.seq (.region false [⟨(some 45), .mov (.t 8), none⟩,
    ⟨(some 46), .mkf F_labels_sorted_1 [] [(.t 5)], none⟩,
    ⟨(some 47), .call F_slices_SortFunc_int_int [(.t 45), (.t 46)], none⟩])
  (.seq (.region false [⟨(some 48), .mov (.t 8), none⟩,
    ⟨(some 49), .call F_slices_Compact_int_int [(.t 48)], none⟩,
    ⟨(some 4), .mov (.t 49), none⟩])
  (.ret)))))),
  [.tmp 4]⟩

/- lattice_Check -/
def A_lattice_CheckL1 : ACode :=
  .seq (.region false [⟨(some 60), .bin .lss (.t 59) (.t 58), none⟩])
  (.seq (.cond (.t 60)
   (.skip)
   (.exit 2))
  (.seq (.block 3 (.seq (.region false [⟨(some 61), .mov (.t 59), none⟩,
    ⟨(some 62), .idxA 1 (.t 57) (.t 59), none⟩,
    ⟨(some 63), .ld none (.t 62), none⟩,
    ⟨(some 10), .mov (.t 61), none⟩,
    ⟨(some 11), .mov (.t 63), none⟩])
  (.seq (.block 4 (.seq (.region false [⟨(some 65), .mov (.t 9), none⟩,
    ⟨(some 66), .mov (.t 10), none⟩,
    ⟨(some 67), .bin .shr (.t 65) (.t 66), none⟩,
    ⟨(some 68), .bin .and (.t 67) (.c (.int .u8 1)), none⟩,
    ⟨(some 69), .bin .eql (.t 68) (.c (.int .u8 0)), none⟩,
    ⟨(some 64), .mov (.t 69), none⟩])
  (.cond (.t 64)
   (.skip)
   (.seq (.seq (.region false [⟨(some 71), .mov (.t 10), none⟩,
     ⟨(some 72), .mov (.t 8), none⟩,
     ⟨(some 73), .bin .neq (.t 71) (.t 72), none⟩,
     ⟨(some 74), .mov (.t 73), none⟩,
     ⟨(some 75), .mov (.t 11), some (74, true)⟩,
     ⟨(some 76), .mov (.t 8), some (74, true)⟩,
     ⟨(some 77), .bin .shr (.t 75) (.t 76), some (74, true)⟩,
     ⟨(some 78), .bin .and (.t 77) (.c (.int .u8 1)), some (74, true)⟩,
     ⟨(some 79), .bin .eql (.t 78) (.c (.int .u8 1)), some (74, true)⟩,
     ⟨(some 80), .pick (.t 74) (.t 79) (.c (.bool false)), none⟩,
     ⟨(some 70), .mov (.t 80), none⟩])
   (.cond (.t 70)
    (.skip)
    (.region false [⟨(some 81), .mov (.t 11), none⟩,
      ⟨(some 82), .mov (.t 7), none⟩,
      ⟨(some 83), .bin .and (.t 81) (.t 82), none⟩,
      ⟨(some 84), .mov (.t 9), none⟩,
      ⟨(some 85), .bin .andNot (.t 83) (.t 84), none⟩,
      ⟨(some 86), .bin .neq (.t 85) (.c (.int .u8 0)), none⟩,
      ⟨(some 70), .mov (.t 86), none⟩])))
   (.cond (.t 70)
    (.seq (.region false [⟨(some 87), .mov (.t 8), none⟩,
      ⟨(some 2), .mov (.t 87), none⟩,
      ⟨(some 3), .mov (.c (.int .i64 6)), none⟩])
    (.ret))
    (.skip))))))
  (.seq (.region false [⟨(some 88), .mov (.t 10), none⟩,
    ⟨(some 89), .mov (.t 6), none⟩,
    ⟨(some 90), .bin .sub (.t 89) (.c (.int .i64 1)), none⟩,
    ⟨(some 91), .bin .eql (.t 88) (.t 90), none⟩])
  (.cond (.t 91)
   (.exit 1)
   (.skip))))))
  (.region false [⟨(some 92), .bin .add (.t 59) (.c (.int .i64 1)), none⟩,
    ⟨(some 59), .mov (.t 92), none⟩])))
def A_lattice_CheckL0 : ACode :=
  .seq (.region false [⟨(some 40), .bin .lss (.t 39) (.t 38), none⟩])
  (.seq (.cond (.t 40)
   (.skip)
   (.exit 0))
  (.seq (.block 1 (.seq (.region false [⟨(some 41), .mov (.t 39), none⟩,
    ⟨(some 42), .idxA 1 (.t 37) (.t 39), none⟩,
    ⟨(some 43), .ld none (.t 42), none⟩,
    ⟨(some 8), .mov (.t 41), none⟩,
    ⟨(some 9), .mov (.t 43), none⟩])
  (.seq (.seq (.region false [⟨(some 44), .mov (.t 9), none⟩,
    ⟨(some 45), .call F_bits_Len8 [(.t 44)], none⟩,
    ⟨(some 46), .mov (.t 6), none⟩,
    ⟨(some 47), .bin .gtr (.t 45) (.t 46), none⟩,
    ⟨(some 48), .mov (.t 47), none⟩,
    ⟨(some 49), .mov (.t 9), some (48, false)⟩,
    ⟨(some 50), .mov (.t 8), some (48, false)⟩,
    ⟨(some 51), .bin .shr (.t 49) (.t 50), some (48, false)⟩,
    ⟨(some 52), .bin .and (.t 51) (.c (.int .u8 1)), some (48, false)⟩,
    ⟨(some 53), .bin .eql (.t 52) (.c (.int .u8 0)), some (48, false)⟩,
    ⟨(some 54), .pick (.t 48) (.c (.bool true)) (.t 53), none⟩])
  (.cond (.t 54)
   (.seq (.region false [⟨(some 55), .mov (.t 8), none⟩,
     ⟨(some 2), .mov (.t 55), none⟩,
     ⟨(some 3), .mov (.c (.int .i64 6)), none⟩])
   (.ret))
   (.skip)))
  (.seq (.region false [⟨(some 56), .fldA 1 (.t 1), none⟩,
    ⟨(some 57), .ld none (.t 56), none⟩,
    ⟨(some 58), .len (.t 57), none⟩,
    ⟨(some 59), .mov (.c (.int .i64 0)), none⟩])
  (.block 2 (.loop A_lattice_CheckL1))))))
  (.region false [⟨(some 93), .bin .add (.t 39) (.c (.int .i64 1)), none⟩,
    ⟨(some 39), .mov (.t 93), none⟩])))
def A_lattice_CheckL3 : ACode :=
  .seq (.region false [⟨(some 101), .bin .lss (.t 100) (.t 99), none⟩])
  (.seq (.cond (.t 101)
   (.skip)
   (.exit 7))
  (.seq (.block 8 (.seq (.region false [⟨(some 102), .mov (.t 100), none⟩,
    ⟨(some 14), .mov (.t 102), none⟩])
  (.seq (.region false [⟨(some 103), .fldA 1 (.t 12), none⟩,
    ⟨(some 104), .ld (some 8) (.t 103), none⟩,
    ⟨(some 105), .mov (.t 6), none⟩,
    ⟨(some 106), .mov (.t 13), none⟩,
    ⟨(some 107), .mov (.t 14), none⟩,
    ⟨(some 108), .call F_lattice_bound_lattice_ups [(.t 104), (.t 105), (.t 106), (.t 107)], none⟩,
    ⟨(some 109), .bin .lss (.t 108) (.c (.int .i64 0)), none⟩,
    ⟨(some 110), .mov (.t 109), none⟩,
    ⟨(some 111), .fldA 9 (.t 12), some (110, false)⟩,
    ⟨(some 112), .ld (some 8) (.t 111), some (110, false)⟩,
    ⟨(some 113), .mov (.t 6), some (110, false)⟩,
    ⟨(some 114), .mov (.t 13), some (110, false)⟩,
    ⟨(some 115), .mov (.t 14), some (110, false)⟩,
    ⟨(some 116), .call F_lattice_bound_lattice_downs [(.t 112), (.t 113), (.t 114), (.t 115)], some (110, false)⟩,
    ⟨(some 117), .bin .lss (.t 116) (.c (.int .i64 0)), some (110, false)⟩,
    ⟨(some 118), .pick (.t 110) (.c (.bool true)) (.t 117), none⟩])
  (.cond (.t 118)
   (.seq (.region false [⟨(some 119), .mov (.t 13), none⟩,
     ⟨(some 2), .mov (.t 119), none⟩,
     ⟨(some 3), .mov (.c (.int .i64 4)), none⟩])
   (.ret))
   (.skip)))))
  (.region false [⟨(some 120), .bin .add (.t 100) (.c (.int .i64 1)), none⟩,
    ⟨(some 100), .mov (.t 120), none⟩])))
def A_lattice_CheckL2 : ACode :=
  .seq (.region false [⟨(some 97), .bin .lss (.t 96) (.t 95), none⟩])
  (.seq (.cond (.t 97)
   (.skip)
   (.exit 5))
  (.seq (.block 6 (.seq (.region false [⟨(some 98), .mov (.t 96), none⟩,
    ⟨(some 13), .mov (.t 98), none⟩])
  (.seq (.region false [⟨(some 99), .mov (.t 6), none⟩,
    ⟨(some 100), .mov (.c (.int .i64 0)), none⟩])
  (.block 7 (.loop A_lattice_CheckL3)))))
  (.region false [⟨(some 121), .bin .add (.t 96) (.c (.int .i64 1)), none⟩,
    ⟨(some 96), .mov (.t 121), none⟩])))
def A_lattice_Check : AFun := ⟨122,
  .seq (.region false [⟨(some 1), .box (.t 0), none⟩,
    ⟨(some 2), .mov (.c (.int .i64 0)), none⟩,
    ⟨(some 3), .mov (.c (.int .i64 0)), none⟩])
  (.scope (.seq (.seq (.region false [⟨(some 16), .fldA 0 (.t 1), none⟩,
     ⟨(some 17), .ld none (.t 16), none⟩,
     ⟨(some 18), .call F_lattice_named [(.t 17)], none⟩,
     ⟨(some 15), .mov (.t 18), none⟩,
     ⟨(some 19), .extr (.t 15) 0, none⟩,
     ⟨(some 20), .extr (.t 15) 1, none⟩,
     ⟨(some 4), .mov (.t 19), none⟩,
     ⟨(some 5), .mov (.t 20), none⟩])
   (.seq (.region false [⟨(some 21), .mov (.t 5), none⟩,
     ⟨(some 22), .bin .neq (.t 21) (.c (.int .i64 0)), none⟩])
   (.cond (.t 22)
    (.seq (.region false [⟨(some 23), .mov (.t 4), none⟩,
      ⟨(some 24), .mov (.t 5), none⟩,
      ⟨(some 2), .mov (.t 23), none⟩,
      ⟨(some 3), .mov (.t 24), none⟩])
    (.ret))
    (.skip))))
   (.seq (.region false [⟨(some 25), .fldA 0 (.t 1), none⟩,
     ⟨(some 26), .ld none (.t 25), none⟩,
     ⟨(some 27), .len (.t 26), none⟩,
     ⟨(some 6), .mov (.t 27), none⟩])
   (.seq (.seq (.region false [⟨(some 28), .fldA 1 (.t 1), none⟩,
     ⟨(some 29), .ld none (.t 28), none⟩,
     ⟨(some 30), .len (.t 29), none⟩,
     ⟨(some 31), .mov (.t 6), none⟩,
     ⟨(some 32), .bin .neq (.t 30) (.t 31), none⟩])
   (.cond (.t 32)
    (.seq (.region false [⟨(some 2), .mov (.c (.int .i64 (-1))), none⟩,
      ⟨(some 3), .mov (.c (.int .i64 6)), none⟩])
    (.ret))
    (.skip)))
   (.seq (.region false [⟨(some 33), .mov (.t 6), none⟩,
     ⟨(some 34), .bin .shl (.c (.int .u8 1)) (.t 33), none⟩,
     ⟨(some 35), .bin .sub (.t 34) (.c (.int .u8 1)), none⟩,
     ⟨(some 7), .mov (.t 35), none⟩])
   (.seq (.label 0)
   (.seq (.seq (.region false [⟨(some 36), .fldA 1 (.t 1), none⟩,
     ⟨(some 37), .ld none (.t 36), none⟩,
     ⟨(some 38), .len (.t 37), none⟩,
     ⟨(some 39), .mov (.c (.int .i64 0)), none⟩])
   (.block 0 (.loop A_lattice_CheckL0)))
   (.seq (.region false [⟨(some 94), .call F_lattice_of [(.t 1)], none⟩,
     ⟨(some 12), .alloc [.int .i64 0, .int .u8 0, .int .u8 0, .int .u8 0, .int .u8 0, .int .u8 0, .int .u8 0, .int .u8 0, .int .u8 0, .int .u8 0, .int .u8 0, .int .u8 0, .int .u8 0, .int .u8 0, .int .u8 0, .int .u8 0, .int .u8 0], none⟩,
     ⟨none, .st 17 (.t 12) (.t 94), none⟩])
   (.seq (.seq (.region false [⟨(some 95), .mov (.t 6), none⟩,
     ⟨(some 96), .mov (.c (.int .i64 0)), none⟩])
   (.block 5 (.loop A_lattice_CheckL2)))
   (.seq (.region false [⟨(some 2), .mov (.c (.int .i64 0)), none⟩,
     ⟨(some 3), .mov (.c (.int .i64 0)), none⟩])
   (.ret))))))))))),
  [.tmp 2, .tmp 3]⟩

/- ref03_Check -/
def A_ref03_CheckL0 : ACode :=
  .seq (.seq (.region false [⟨(some 29), .mov (.t 7), none⟩,
    ⟨(some 30), .mov (.t 6), none⟩,
    ⟨(some 31), .bin .lss (.t 29) (.t 30), none⟩])
  (.cond (.t 31)
   (.skip)
   (.exit 0)))
  (.seq (.block 1 (.seq (.region false [⟨(some 34), .ld (some 2) (.t 1), none⟩,
    ⟨(some 35), .mov (.t 7), none⟩,
    ⟨(some 36), .call F_ref03_ordered [(.t 34), (.t 35)], none⟩,
    ⟨(some 37), .not (.t 36), none⟩])
  (.cond (.t 37)
   (.seq (.region false [⟨(some 38), .mov (.t 7), none⟩,
     ⟨(some 2), .mov (.t 38), none⟩,
     ⟨(some 3), .mov (.c (.int .i64 6)), none⟩])
   (.ret))
   (.skip))))
  (.region false [⟨(some 32), .mov (.t 7), none⟩,
    ⟨(some 33), .bin .add (.t 32) (.c (.int .i64 1)), none⟩,
    ⟨(some 7), .mov (.t 33), none⟩]))
def A_ref03_CheckL2 : ACode :=
  .seq (.seq (.region false [⟨(some 46), .mov (.t 10), none⟩,
    ⟨(some 47), .mov (.t 6), none⟩,
    ⟨(some 48), .bin .lss (.t 46) (.t 47), none⟩])
  (.cond (.t 48)
   (.skip)
   (.exit 4)))
  (.seq (.block 5 (.seq (.region false [⟨(some 51), .fldA 1 (.t 1), none⟩,
    ⟨(some 52), .ld none (.t 51), none⟩,
    ⟨(some 53), .mov (.t 9), none⟩,
    ⟨(some 54), .mov (.t 10), none⟩,
    ⟨(some 55), .call F_ref03_nearest [(.t 52), (.t 53), (.t 54)], none⟩,
    ⟨(some 56), .bin .lss (.t 55) (.c (.int .i64 0)), none⟩,
    ⟨(some 57), .mov (.t 56), none⟩,
    ⟨(some 58), .mov (.t 8), some (57, false)⟩,
    ⟨(some 59), .mov (.t 9), some (57, false)⟩,
    ⟨(some 60), .mov (.t 10), some (57, false)⟩,
    ⟨(some 61), .call F_ref03_nearest [(.t 58), (.t 59), (.t 60)], some (57, false)⟩,
    ⟨(some 62), .bin .lss (.t 61) (.c (.int .i64 0)), some (57, false)⟩,
    ⟨(some 63), .pick (.t 57) (.c (.bool true)) (.t 62), none⟩])
  (.cond (.t 63)
   (.seq (.region false [⟨(some 64), .mov (.t 9), none⟩,
     ⟨(some 2), .mov (.t 64), none⟩,
     ⟨(some 3), .mov (.c (.int .i64 4)), none⟩])
   (.ret))
   (.skip))))
  (.region false [⟨(some 49), .mov (.t 10), none⟩,
    ⟨(some 50), .bin .add (.t 49) (.c (.int .i64 1)), none⟩,
    ⟨(some 10), .mov (.t 50), none⟩]))
def A_ref03_CheckL1 : ACode :=
  .seq (.seq (.region false [⟨(some 41), .mov (.t 9), none⟩,
    ⟨(some 42), .mov (.t 6), none⟩,
    ⟨(some 43), .bin .lss (.t 41) (.t 42), none⟩])
  (.cond (.t 43)
   (.skip)
   (.exit 2)))
  (.seq (.block 3 (.seq (.region false [⟨(some 10), .mov (.c (.int .i64 0)), none⟩])
  (.block 4 (.loop A_ref03_CheckL2))))
  (.region false [⟨(some 44), .mov (.t 9), none⟩,
    ⟨(some 45), .bin .add (.t 44) (.c (.int .i64 1)), none⟩,
    ⟨(some 9), .mov (.t 45), none⟩]))
def A_ref03_Check : AFun := ⟨65,
  .seq (.region false [⟨(some 1), .box (.t 0), none⟩,
    ⟨(some 2), .mov (.c (.int .i64 0)), none⟩,
    ⟨(some 3), .mov (.c (.int .i64 0)), none⟩])
  (.seq (.region false [⟨(some 12), .fldA 0 (.t 1), none⟩,
    ⟨(some 13), .ld none (.t 12), none⟩,
    ⟨(some 14), .call F_ref03_names [(.t 13)], none⟩,
    ⟨(some 11), .mov (.t 14), none⟩,
    ⟨(some 15), .extr (.t 11) 0, none⟩,
    ⟨(some 16), .extr (.t 11) 1, none⟩,
    ⟨(some 4), .mov (.t 15), none⟩,
    ⟨(some 5), .mov (.t 16), none⟩])
  (.seq (.seq (.region false [⟨(some 17), .mov (.t 5), none⟩,
    ⟨(some 18), .bin .neq (.t 17) (.c (.int .i64 0)), none⟩])
  (.cond (.t 18)
   (.seq (.region false [⟨(some 19), .mov (.t 4), none⟩,
     ⟨(some 20), .mov (.t 5), none⟩,
     ⟨(some 2), .mov (.t 19), none⟩,
     ⟨(some 3), .mov (.t 20), none⟩])
   (.ret))
   (.skip)))
  (.seq (.region false [⟨(some 21), .fldA 0 (.t 1), none⟩,
    ⟨(some 22), .ld none (.t 21), none⟩,
    ⟨(some 23), .len (.t 22), none⟩,
    ⟨(some 6), .mov (.t 23), none⟩])
  (.seq (.seq (.region false [⟨(some 24), .fldA 1 (.t 1), none⟩,
    ⟨(some 25), .ld none (.t 24), none⟩,
    ⟨(some 26), .len (.t 25), none⟩,
    ⟨(some 27), .mov (.t 6), none⟩,
    ⟨(some 28), .bin .neq (.t 26) (.t 27), none⟩])
  (.cond (.t 28)
   (.seq (.region false [⟨(some 2), .mov (.c (.int .i64 (-1))), none⟩,
     ⟨(some 3), .mov (.c (.int .i64 6)), none⟩])
   (.ret))
   (.skip)))
  (.seq (.seq (.region false [⟨(some 7), .mov (.c (.int .i64 0)), none⟩])
  (.block 0 (.loop A_ref03_CheckL0)))
  (.seq (.region false [⟨(some 39), .ld (some 2) (.t 1), none⟩,
    ⟨(some 40), .call F_ref03_downs [(.t 39)], none⟩,
    ⟨(some 8), .mov (.t 40), none⟩])
  (.seq (.seq (.region false [⟨(some 9), .mov (.c (.int .i64 0)), none⟩])
  (.block 2 (.loop A_ref03_CheckL1)))
  (.seq (.region false [⟨(some 2), .mov (.c (.int .i64 0)), none⟩,
    ⟨(some 3), .mov (.c (.int .i64 0)), none⟩])
  (.ret))))))))),
  [.tmp 2, .tmp 3]⟩

/- lattice_Bottom -/
def A_lattice_Bottom : AFun := ⟨16,
  .seq (.region false [⟨(some 1), .box (.t 0), none⟩,
    ⟨(some 2), .mov (.c (.int .i64 0)), none⟩,
    ⟨(some 3), .mov (.c (.int .i64 0)), none⟩])
  (.seq (.seq (.region false [⟨(some 6), .call F_lattice_asked [(.t 1), (.c (.sl .ex []))], none⟩,
    ⟨(some 4), .mov (.t 6), none⟩])
  (.seq (.region false [⟨(some 7), .mov (.t 4), none⟩,
    ⟨(some 8), .bin .neq (.t 7) (.c (.int .i64 0)), none⟩])
  (.cond (.t 8)
   (.seq (.region false [⟨(some 9), .mov (.t 4), none⟩,
     ⟨(some 2), .mov (.c (.int .i64 0)), none⟩,
     ⟨(some 3), .mov (.t 9), none⟩])
   (.ret))
   (.skip))))
  (.seq (.region false [⟨(some 10), .call F_lattice_of [(.t 1)], none⟩,
    ⟨(some 5), .alloc [.int .i64 0, .int .u8 0, .int .u8 0, .int .u8 0, .int .u8 0, .int .u8 0, .int .u8 0, .int .u8 0, .int .u8 0, .int .u8 0, .int .u8 0, .int .u8 0, .int .u8 0, .int .u8 0, .int .u8 0, .int .u8 0, .int .u8 0], none⟩,
    ⟨none, .st 17 (.t 5) (.t 10), none⟩])
  (.seq (.region false [⟨(some 11), .fldA 1 (.t 5), none⟩,
    ⟨(some 12), .ld (some 8) (.t 11), none⟩,
    ⟨(some 13), .fldA 0 (.t 5), none⟩,
    ⟨(some 14), .ld none (.t 13), none⟩,
    ⟨(some 15), .call F_lattice_end_lattice_ups [(.t 12), (.t 14)], none⟩,
    ⟨(some 2), .mov (.t 15), none⟩,
    ⟨(some 3), .mov (.c (.int .i64 0)), none⟩])
  (.ret)))),
  [.tmp 2, .tmp 3]⟩

/- labels_fold -/
def A_labels_foldL0 : ACode :=
  .seq (.region false [⟨(some 12), .bin .lss (.t 11) (.t 10), none⟩])
  (.seq (.cond (.t 12)
   (.skip)
   (.exit 0))
  (.seq (.block 1 (.seq (.region false [⟨(some 13), .idxA 1 (.t 9) (.t 11), none⟩,
    ⟨(some 14), .ld none (.t 13), none⟩,
    ⟨(some 8), .mov (.t 14), none⟩])
  (.region false [⟨(some 15), .mov (.t 2), none⟩,
    ⟨(some 16), .mov (.t 1), none⟩,
    ⟨(some 17), .mov (.t 8), none⟩,
    ⟨(some 18), .callv (.t 15) [(.t 16), (.t 17)], none⟩,
    ⟨(some 1), .mov (.t 18), none⟩])))
  (.region false [⟨(some 19), .bin .add (.t 11) (.c (.int .i64 1)), none⟩,
    ⟨(some 11), .mov (.t 19), none⟩])))
def A_labels_fold : AFun := ⟨21,
  .seq (.region false [⟨(some 6), .mov (.c (.int .i64 0)), none⟩])
  (.seq (.seq (.region false [⟨(some 9), .mov (.t 0), none⟩,
    ⟨(some 10), .len (.t 9), none⟩,
    ⟨(some 11), .mov (.c (.int .i64 0)), none⟩])
  (.block 0 (.loop A_labels_foldL0)))
  (.seq (.region false [⟨(some 20), .mov (.t 1), none⟩,
    ⟨(some 6), .mov (.t 20), none⟩])
  (.ret))),
  [.tmp 6]⟩

/- labels_order_join -/
def A_labels_order_join : AFun := ⟨19,
  .seq (.region false [⟨(some 6), .mov (.c (.int .i64 0)), none⟩])
  (.seq (.region false [⟨(some 10), .mov (.t 0), none⟩,
    ⟨(some 11), .nck (.t 10), none⟩,
    ⟨(some 12), .ld (some 2) (.t 11), none⟩,
    ⟨(some 13), .mov (.t 1), none⟩,
    ⟨(some 14), .mov (.t 2), none⟩,
    ⟨(some 15), .call F_lattice_Join [(.t 12), (.t 13), (.t 14)], none⟩,
    ⟨(some 9), .mov (.t 15), none⟩,
    ⟨(some 16), .extr (.t 9) 0, none⟩,
    ⟨(some 17), .extr (.t 9) 1, none⟩,
    ⟨(some 7), .mov (.t 16), none⟩,
    ⟨(some 8), .mov (.t 17), none⟩])
  (.seq (.region false [⟨(some 18), .mov (.t 7), none⟩,
    ⟨(some 6), .mov (.t 18), none⟩])
  (.ret))),
  [.tmp 6]⟩

/- ref04_JoinAll -/
def A_ref04_JoinAllL0 : ACode :=
  .seq (.seq (.region false [⟨(some 13), .mov (.t 7), none⟩,
    ⟨(some 14), .mov (.t 1), none⟩,
    ⟨(some 15), .len (.t 14), none⟩,
    ⟨(some 16), .bin .lss (.t 13) (.t 15), none⟩])
  (.cond (.t 16)
   (.skip)
   (.exit 0)))
  (.seq (.block 1 (.region true [⟨(some 20), .ld (some 2) (.t 2), none⟩,
    ⟨(some 21), .mov (.t 5), none⟩,
    ⟨(some 22), .mov (.t 1), none⟩,
    ⟨(some 23), .mov (.t 7), none⟩,
    ⟨(some 24), .idxA 1 (.t 22) (.t 23), none⟩,
    ⟨(some 25), .ld none (.t 24), none⟩,
    ⟨(some 26), .call F_ref03_Join [(.t 20), (.t 21), (.t 25)], none⟩,
    ⟨(some 19), .mov (.t 26), none⟩,
    ⟨(some 27), .extr (.t 19) 0, none⟩,
    ⟨(some 28), .extr (.t 19) 1, none⟩,
    ⟨(some 5), .mov (.t 27), none⟩]))
  (.region false [⟨(some 17), .mov (.t 7), none⟩,
    ⟨(some 18), .bin .add (.t 17) (.c (.int .i64 1)), none⟩,
    ⟨(some 7), .mov (.t 18), none⟩]))
def A_ref04_JoinAll : AFun := ⟨30,
  .seq (.region false [⟨(some 2), .box (.t 0), none⟩,
    ⟨(some 4), .mov (.c (.int .i64 0)), none⟩])
  (.seq (.region false [⟨(some 9), .ld (some 2) (.t 2), none⟩,
    ⟨(some 10), .call F_ref03_Bottom [(.t 9)], none⟩,
    ⟨(some 8), .mov (.t 10), none⟩,
    ⟨(some 11), .extr (.t 8) 0, none⟩,
    ⟨(some 12), .extr (.t 8) 1, none⟩,
    ⟨(some 5), .mov (.t 11), none⟩,
    ⟨(some 6), .mov (.t 12), none⟩])
  (.seq (.seq (.region false [⟨(some 7), .mov (.c (.int .i64 0)), none⟩])
  (.block 0 (.loop A_ref04_JoinAllL0)))
  (.seq (.region false [⟨(some 29), .mov (.t 5), none⟩,
    ⟨(some 4), .mov (.t 29), none⟩])
  (.ret)))),
  [.tmp 4]⟩

/- lattice_Top -/
def A_lattice_Top : AFun := ⟨16,
  .seq (.region false [⟨(some 1), .box (.t 0), none⟩,
    ⟨(some 2), .mov (.c (.int .i64 0)), none⟩,
    ⟨(some 3), .mov (.c (.int .i64 0)), none⟩])
  (.seq (.seq (.region false [⟨(some 6), .call F_lattice_asked [(.t 1), (.c (.sl .ex []))], none⟩,
    ⟨(some 4), .mov (.t 6), none⟩])
  (.seq (.region false [⟨(some 7), .mov (.t 4), none⟩,
    ⟨(some 8), .bin .neq (.t 7) (.c (.int .i64 0)), none⟩])
  (.cond (.t 8)
   (.seq (.region false [⟨(some 9), .mov (.t 4), none⟩,
     ⟨(some 2), .mov (.c (.int .i64 0)), none⟩,
     ⟨(some 3), .mov (.t 9), none⟩])
   (.ret))
   (.skip))))
  (.seq (.region false [⟨(some 10), .call F_lattice_of [(.t 1)], none⟩,
    ⟨(some 5), .alloc [.int .i64 0, .int .u8 0, .int .u8 0, .int .u8 0, .int .u8 0, .int .u8 0, .int .u8 0, .int .u8 0, .int .u8 0, .int .u8 0, .int .u8 0, .int .u8 0, .int .u8 0, .int .u8 0, .int .u8 0, .int .u8 0, .int .u8 0], none⟩,
    ⟨none, .st 17 (.t 5) (.t 10), none⟩])
  (.seq (.region false [⟨(some 11), .fldA 9 (.t 5), none⟩,
    ⟨(some 12), .ld (some 8) (.t 11), none⟩,
    ⟨(some 13), .fldA 0 (.t 5), none⟩,
    ⟨(some 14), .ld none (.t 13), none⟩,
    ⟨(some 15), .call F_lattice_end_lattice_downs [(.t 12), (.t 14)], none⟩,
    ⟨(some 2), .mov (.t 15), none⟩,
    ⟨(some 3), .mov (.c (.int .i64 0)), none⟩])
  (.ret)))),
  [.tmp 2, .tmp 3]⟩

/- labels_order_meet -/
def A_labels_order_meet : AFun := ⟨19,
  .seq (.region false [⟨(some 6), .mov (.c (.int .i64 0)), none⟩])
  (.seq (.region false [⟨(some 10), .mov (.t 0), none⟩,
    ⟨(some 11), .nck (.t 10), none⟩,
    ⟨(some 12), .ld (some 2) (.t 11), none⟩,
    ⟨(some 13), .mov (.t 1), none⟩,
    ⟨(some 14), .mov (.t 2), none⟩,
    ⟨(some 15), .call F_lattice_Meet [(.t 12), (.t 13), (.t 14)], none⟩,
    ⟨(some 9), .mov (.t 15), none⟩,
    ⟨(some 16), .extr (.t 9) 0, none⟩,
    ⟨(some 17), .extr (.t 9) 1, none⟩,
    ⟨(some 7), .mov (.t 16), none⟩,
    ⟨(some 8), .mov (.t 17), none⟩])
  (.seq (.region false [⟨(some 18), .mov (.t 7), none⟩,
    ⟨(some 6), .mov (.t 18), none⟩])
  (.ret))),
  [.tmp 6]⟩

/- slices_IndexFunc_int_int -/
def A_slices_IndexFunc_int_intL0 : ACode :=
  .seq (.region false [⟨(some 9), .bin .lss (.t 8) (.t 7), none⟩])
  (.seq (.cond (.t 9)
   (.skip)
   (.exit 0))
  (.seq (.block 1 (.seq (.region false [⟨(some 10), .mov (.t 8), none⟩,
    ⟨(some 5), .mov (.t 10), none⟩])
  (.seq (.region false [⟨(some 11), .mov (.t 1), none⟩,
    ⟨(some 12), .mov (.t 0), none⟩,
    ⟨(some 13), .mov (.t 5), none⟩,
    ⟨(some 14), .idxA 1 (.t 12) (.t 13), none⟩,
    ⟨(some 15), .ld none (.t 14), none⟩,
    ⟨(some 16), .callv (.t 11) [(.t 15)], none⟩])
  (.cond (.t 16)
   (.seq (.region false [⟨(some 17), .mov (.t 5), none⟩,
     ⟨(some 4), .mov (.t 17), none⟩])
   (.ret))
   (.skip)))))
  (.region false [⟨(some 18), .bin .add (.t 8) (.c (.int .i64 1)), none⟩,
    ⟨(some 8), .mov (.t 18), none⟩])))
def A_slices_IndexFunc_int_int : AFun := ⟨19,
  .seq (.region false [⟨(some 4), .mov (.c (.int .i64 0)), none⟩])
  (.seq (.seq (.region false [⟨(some 6), .mov (.t 0), none⟩,
    ⟨(some 7), .len (.t 6), none⟩,
    ⟨(some 8), .mov (.c (.int .i64 0)), none⟩])
  (.block 0 (.loop A_slices_IndexFunc_int_intL0)))
  (.seq (.region false [⟨(some 4), .mov (.c (.int .i64 (-1))), none⟩])
  (.ret))),
  [.tmp 4]⟩

/- labels_Flows_1 -/
def A_labels_Flows_1 : AFun := ⟨9,
  .seq (.region false [⟨(some 4), .mov (.c (.bool false)), none⟩])
  (.seq (.region false [⟨(some 5), .mov (.t 0), none⟩,
    ⟨(some 6), .ld none (.t 2), none⟩,
    ⟨(some 7), .call F_labels_order_below [(.t 1), (.t 5), (.t 6)], none⟩,
    ⟨(some 8), .not (.t 7), none⟩,
    ⟨(some 4), .mov (.t 8), none⟩])
  (.ret)),
  [.tmp 4]⟩

/- ref03_asked -/
def A_ref03_asked : AFun := ⟨39,
  .seq (.region false [⟨(some 3), .box (.t 0), none⟩,
    ⟨(some 6), .mov (.c (.int .i64 0)), none⟩])
  (.seq (.region false [⟨(some 10), .ld (some 2) (.t 3), none⟩,
    ⟨(some 11), .call F_ref03_Check [(.t 10)], none⟩,
    ⟨(some 9), .mov (.t 11), none⟩,
    ⟨(some 12), .extr (.t 9) 0, none⟩,
    ⟨(some 13), .extr (.t 9) 1, none⟩,
    ⟨(some 7), .mov (.t 12), none⟩,
    ⟨(some 8), .mov (.t 13), none⟩])
  (.seq (.seq (.region false [⟨(some 14), .mov (.t 8), none⟩,
    ⟨(some 15), .bin .eql (.t 14) (.c (.int .i64 0)), none⟩,
    ⟨(some 16), .mov (.t 15), none⟩,
    ⟨(some 17), .mov (.t 1), some (16, true)⟩,
    ⟨(some 18), .bin .lss (.t 17) (.c (.int .i64 0)), some (16, true)⟩,
    ⟨(some 19), .mov (.t 18), some (16, true)⟩,
    ⟨(some 20), .mov (.t 1), some (19, false)⟩,
    ⟨(some 21), .fldA 0 (.t 3), some (19, false)⟩,
    ⟨(some 22), .ld none (.t 21), some (19, false)⟩,
    ⟨(some 23), .len (.t 22), some (19, false)⟩,
    ⟨(some 24), .bin .geq (.t 20) (.t 23), some (19, false)⟩,
    ⟨(some 25), .pick (.t 19) (.c (.bool true)) (.t 24), some (16, true)⟩,
    ⟨(some 26), .mov (.t 25), some (16, true)⟩,
    ⟨(some 27), .mov (.t 2), some (26, false)⟩,
    ⟨(some 28), .bin .lss (.t 27) (.c (.int .i64 0)), some (26, false)⟩,
    ⟨(some 29), .pick (.t 26) (.c (.bool true)) (.t 28), some (16, true)⟩,
    ⟨(some 30), .mov (.t 29), some (16, true)⟩,
    ⟨(some 31), .mov (.t 2), some (30, false)⟩,
    ⟨(some 32), .fldA 0 (.t 3), some (30, false)⟩,
    ⟨(some 33), .ld none (.t 32), some (30, false)⟩,
    ⟨(some 34), .len (.t 33), some (30, false)⟩,
    ⟨(some 35), .bin .geq (.t 31) (.t 34), some (30, false)⟩,
    ⟨(some 36), .pick (.t 30) (.c (.bool true)) (.t 35), some (16, true)⟩,
    ⟨(some 37), .pick (.t 16) (.t 36) (.c (.bool false)), none⟩])
  (.cond (.t 37)
   (.region false [⟨(some 8), .mov (.c (.int .i64 7)), none⟩])
   (.skip)))
  (.seq (.region false [⟨(some 38), .mov (.t 8), none⟩,
    ⟨(some 6), .mov (.t 38), none⟩])
  (.ret)))),
  [.tmp 6]⟩

/- ref03_join -/
def A_ref03_join : AFun := ⟨12,
  .seq (.region false [⟨(some 3), .box (.t 0), none⟩,
    ⟨(some 6), .mov (.c (.int .i64 0)), none⟩])
  (.seq (.region false [⟨(some 7), .fldA 1 (.t 3), none⟩,
    ⟨(some 8), .ld none (.t 7), none⟩,
    ⟨(some 9), .mov (.t 1), none⟩,
    ⟨(some 10), .mov (.t 2), none⟩,
    ⟨(some 11), .call F_ref03_nearest [(.t 8), (.t 9), (.t 10)], none⟩,
    ⟨(some 6), .mov (.t 11), none⟩])
  (.ret)),
  [.tmp 6]⟩

/- ref03_downs -/
def A_ref03_downsL1 : ACode :=
  .seq (.seq (.region false [⟨(some 17), .mov (.t 5), none⟩,
    ⟨(some 18), .fldA 0 (.t 1), none⟩,
    ⟨(some 19), .ld none (.t 18), none⟩,
    ⟨(some 20), .len (.t 19), none⟩,
    ⟨(some 21), .bin .lss (.t 17) (.t 20), none⟩])
  (.cond (.t 21)
   (.skip)
   (.exit 2)))
  (.seq (.block 3 (.seq (.region false [⟨(some 24), .ld (some 2) (.t 1), none⟩,
    ⟨(some 25), .mov (.t 4), none⟩,
    ⟨(some 26), .mov (.t 5), none⟩,
    ⟨(some 27), .call F_ref03_Below [(.t 24), (.t 25), (.t 26)], none⟩])
  (.cond (.t 27)
   (.region true [⟨(some 28), .mov (.t 3), none⟩,
     ⟨(some 29), .mov (.t 5), none⟩,
     ⟨(some 30), .mov (.t 3), none⟩,
     ⟨(some 31), .mov (.t 5), none⟩,
     ⟨(some 32), .idxA 1 (.t 30) (.t 31), none⟩,
     ⟨(some 33), .ld none (.t 32), none⟩,
     ⟨(some 34), .mov (.t 4), none⟩,
     ⟨(some 35), .bin .shl (.c (.int .u8 1)) (.t 34), none⟩,
     ⟨(some 36), .bin .or (.t 33) (.t 35), none⟩,
     ⟨(some 37), .idxA 1 (.t 28) (.t 29), none⟩,
     ⟨none, .st 1 (.t 37) (.t 36), none⟩])
   (.skip))))
  (.region false [⟨(some 22), .mov (.t 5), none⟩,
    ⟨(some 23), .bin .add (.t 22) (.c (.int .i64 1)), none⟩,
    ⟨(some 5), .mov (.t 23), none⟩]))
def A_ref03_downsL0 : ACode :=
  .seq (.seq (.region false [⟨(some 10), .mov (.t 4), none⟩,
    ⟨(some 11), .fldA 0 (.t 1), none⟩,
    ⟨(some 12), .ld none (.t 11), none⟩,
    ⟨(some 13), .len (.t 12), none⟩,
    ⟨(some 14), .bin .lss (.t 10) (.t 13), none⟩])
  (.cond (.t 14)
   (.skip)
   (.exit 0)))
  (.seq (.block 1 (.seq (.region false [⟨(some 5), .mov (.c (.int .i64 0)), none⟩])
  (.block 2 (.loop A_ref03_downsL1))))
  (.region false [⟨(some 15), .mov (.t 4), none⟩,
    ⟨(some 16), .bin .add (.t 15) (.c (.int .i64 1)), none⟩,
    ⟨(some 4), .mov (.t 16), none⟩]))
def A_ref03_downs : AFun := ⟨39,
  .seq (.region false [⟨(some 1), .box (.t 0), none⟩,
    ⟨(some 2), .mov (.c (.sl .ex [])), none⟩])
  (.seq (.region false [⟨(some 6), .fldA 0 (.t 1), none⟩,
    ⟨(some 7), .ld none (.t 6), none⟩,
    ⟨(some 8), .len (.t 7), none⟩,
    ⟨(some 9), .mkR 1 1 [.int .u8 0] (.t 8) (.t 8), none⟩,
    ⟨(some 3), .mov (.t 9), none⟩])
  (.seq (.seq (.region false [⟨(some 4), .mov (.c (.int .i64 0)), none⟩])
  (.block 0 (.loop A_ref03_downsL0)))
  (.seq (.region false [⟨(some 38), .mov (.t 3), none⟩,
    ⟨(some 2), .mov (.t 38), none⟩])
  (.ret)))),
  [.tmp 2]⟩

/- ref03_nearest -/
def A_ref03_nearestL0 : ACode :=
  .seq (.seq (.region false [⟨(some 18), .mov (.t 8), none⟩,
    ⟨(some 19), .mov (.t 0), none⟩,
    ⟨(some 20), .len (.t 19), none⟩,
    ⟨(some 21), .bin .lss (.t 18) (.t 20), none⟩])
  (.cond (.t 21)
   (.skip)
   (.exit 0)))
  (.seq (.block 1 (.seq (.region false [⟨(some 24), .mov (.t 0), none⟩,
    ⟨(some 25), .mov (.t 8), none⟩,
    ⟨(some 26), .idxA 1 (.t 24) (.t 25), none⟩,
    ⟨(some 27), .ld none (.t 26), none⟩,
    ⟨(some 28), .mov (.t 7), none⟩,
    ⟨(some 29), .bin .eql (.t 27) (.t 28), none⟩])
  (.cond (.t 29)
   (.seq (.region false [⟨(some 30), .mov (.t 8), none⟩,
     ⟨(some 6), .mov (.t 30), none⟩])
   (.ret))
   (.skip))))
  (.region false [⟨(some 22), .mov (.t 8), none⟩,
    ⟨(some 23), .bin .add (.t 22) (.c (.int .i64 1)), none⟩,
    ⟨(some 8), .mov (.t 23), none⟩]))
def A_ref03_nearest : AFun := ⟨31,
  .seq (.region false [⟨(some 6), .mov (.c (.int .i64 0)), none⟩])
  (.seq (.region true [⟨(some 9), .mov (.t 0), none⟩,
    ⟨(some 10), .mov (.t 1), none⟩,
    ⟨(some 11), .idxA 1 (.t 9) (.t 10), none⟩,
    ⟨(some 12), .ld none (.t 11), none⟩,
    ⟨(some 13), .mov (.t 0), none⟩,
    ⟨(some 14), .mov (.t 2), none⟩,
    ⟨(some 15), .idxA 1 (.t 13) (.t 14), none⟩,
    ⟨(some 16), .ld none (.t 15), none⟩,
    ⟨(some 17), .bin .and (.t 12) (.t 16), none⟩,
    ⟨(some 7), .mov (.t 17), none⟩])
  (.seq (.seq (.region false [⟨(some 8), .mov (.c (.int .i64 0)), none⟩])
  (.block 0 (.loop A_ref03_nearestL0)))
  (.seq (.region false [⟨(some 6), .mov (.c (.int .i64 (-1))), none⟩])
  (.ret)))),
  [.tmp 6]⟩

/- ref03_meet -/
def A_ref03_meet : AFun := ⟨12,
  .seq (.region false [⟨(some 3), .box (.t 0), none⟩,
    ⟨(some 6), .mov (.c (.int .i64 0)), none⟩])
  (.seq (.region false [⟨(some 7), .ld (some 2) (.t 3), none⟩,
    ⟨(some 8), .call F_ref03_downs [(.t 7)], none⟩,
    ⟨(some 9), .mov (.t 1), none⟩,
    ⟨(some 10), .mov (.t 2), none⟩,
    ⟨(some 11), .call F_ref03_nearest [(.t 8), (.t 9), (.t 10)], none⟩,
    ⟨(some 6), .mov (.t 11), none⟩])
  (.ret)),
  [.tmp 6]⟩

/- strings_Split -/
def A_strings_Split : AFun := ⟨8,
  .seq (.region false [⟨(some 4), .mov (.c (.sl .ex [])), none⟩])
  (.seq (.region false [⟨(some 5), .mov (.t 0), none⟩,
    ⟨(some 6), .mov (.t 1), none⟩,
    ⟨(some 7), .call F_strings_genSplit [(.t 5), (.t 6), (.c (.int .i64 0)), (.c (.int .i64 (-1)))], none⟩,
    ⟨(some 4), .mov (.t 7), none⟩])
  (.ret)),
  [.tmp 4]⟩

/- slices_Contains_string_string -/
def A_slices_Contains_string_string : AFun := ⟨9,
  .seq (.region false [⟨(some 4), .mov (.c (.bool false)), none⟩])
  (.seq (.region false [⟨(some 5), .mov (.t 0), none⟩,
    ⟨(some 6), .mov (.t 1), none⟩,
    ⟨(some 7), .call F_slices_Index_string_string [(.t 5), (.t 6)], none⟩,
    ⟨(some 8), .bin .geq (.t 7) (.c (.int .i64 0)), none⟩,
    ⟨(some 4), .mov (.t 8), none⟩])
  (.ret)),
  [.tmp 4]⟩

/- lattice_Find -/
def A_lattice_Find : AFun := ⟨19,
  .seq (.region false [⟨(some 2), .box (.t 0), none⟩,
    ⟨(some 4), .mov (.c (.int .i64 0)), none⟩,
    ⟨(some 5), .mov (.c (.int .i64 0)), none⟩])
  (.seq (.seq (.region false [⟨(some 8), .call F_lattice_asked [(.t 2), (.c (.sl .ex []))], none⟩,
    ⟨(some 6), .mov (.t 8), none⟩])
  (.seq (.region false [⟨(some 9), .mov (.t 6), none⟩,
    ⟨(some 10), .bin .neq (.t 9) (.c (.int .i64 0)), none⟩])
  (.cond (.t 10)
   (.seq (.region false [⟨(some 11), .mov (.t 6), none⟩,
     ⟨(some 4), .mov (.c (.int .i64 0)), none⟩,
     ⟨(some 5), .mov (.t 11), none⟩])
   (.ret))
   (.skip))))
  (.seq (.seq (.region false [⟨(some 12), .fldA 0 (.t 2), none⟩,
    ⟨(some 13), .ld none (.t 12), none⟩,
    ⟨(some 14), .mov (.t 1), none⟩,
    ⟨(some 15), .call F_slices_Index_string_string [(.t 13), (.t 14)], none⟩,
    ⟨(some 7), .mov (.t 15), none⟩])
  (.seq (.region false [⟨(some 16), .mov (.t 7), none⟩,
    ⟨(some 17), .bin .geq (.t 16) (.c (.int .i64 0)), none⟩])
  (.cond (.t 17)
   (.seq (.region false [⟨(some 18), .mov (.t 7), none⟩,
     ⟨(some 4), .mov (.t 18), none⟩,
     ⟨(some 5), .mov (.c (.int .i64 0)), none⟩])
   (.ret))
   (.skip))))
  (.seq (.region false [⟨(some 4), .mov (.c (.int .i64 0)), none⟩,
    ⟨(some 5), .mov (.c (.int .i64 4)), none⟩])
  (.ret)))),
  [.tmp 4, .tmp 5]⟩

/- ref03_Find -/
def A_ref03_FindL0 : ACode :=
  .seq (.seq (.region false [⟨(some 17), .mov (.t 8), none⟩,
    ⟨(some 18), .fldA 0 (.t 2), none⟩,
    ⟨(some 19), .ld none (.t 18), none⟩,
    ⟨(some 20), .len (.t 19), none⟩,
    ⟨(some 21), .bin .lss (.t 17) (.t 20), none⟩])
  (.cond (.t 21)
   (.skip)
   (.exit 0)))
  (.seq (.block 1 (.seq (.region false [⟨(some 24), .fldA 0 (.t 2), none⟩,
    ⟨(some 25), .ld none (.t 24), none⟩,
    ⟨(some 26), .mov (.t 8), none⟩,
    ⟨(some 27), .idxA 1 (.t 25) (.t 26), none⟩,
    ⟨(some 28), .ld none (.t 27), none⟩,
    ⟨(some 29), .mov (.t 1), none⟩,
    ⟨(some 30), .bin .eql (.t 28) (.t 29), none⟩])
  (.cond (.t 30)
   (.seq (.region false [⟨(some 31), .mov (.t 8), none⟩,
     ⟨(some 4), .mov (.t 31), none⟩,
     ⟨(some 5), .mov (.c (.int .i64 0)), none⟩])
   (.ret))
   (.skip))))
  (.region false [⟨(some 22), .mov (.t 8), none⟩,
    ⟨(some 23), .bin .add (.t 22) (.c (.int .i64 1)), none⟩,
    ⟨(some 8), .mov (.t 23), none⟩]))
def A_ref03_Find : AFun := ⟨32,
  .seq (.region false [⟨(some 2), .box (.t 0), none⟩,
    ⟨(some 4), .mov (.c (.int .i64 0)), none⟩,
    ⟨(some 5), .mov (.c (.int .i64 0)), none⟩])
  (.seq (.region false [⟨(some 10), .ld (some 2) (.t 2), none⟩,
    ⟨(some 11), .call F_ref03_Check [(.t 10)], none⟩,
    ⟨(some 9), .mov (.t 11), none⟩,
    ⟨(some 12), .extr (.t 9) 0, none⟩,
    ⟨(some 13), .extr (.t 9) 1, none⟩,
    ⟨(some 6), .mov (.t 12), none⟩,
    ⟨(some 7), .mov (.t 13), none⟩])
  (.seq (.seq (.region false [⟨(some 14), .mov (.t 7), none⟩,
    ⟨(some 15), .bin .neq (.t 14) (.c (.int .i64 0)), none⟩])
  (.cond (.t 15)
   (.seq (.region false [⟨(some 16), .mov (.t 7), none⟩,
     ⟨(some 4), .mov (.c (.int .i64 0)), none⟩,
     ⟨(some 5), .mov (.t 16), none⟩])
   (.ret))
   (.skip)))
  (.seq (.seq (.region false [⟨(some 8), .mov (.c (.int .i64 0)), none⟩])
  (.block 0 (.loop A_ref03_FindL0)))
  (.seq (.region false [⟨(some 4), .mov (.c (.int .i64 0)), none⟩,
    ⟨(some 5), .mov (.c (.int .i64 4)), none⟩])
  (.ret))))),
  [.tmp 4, .tmp 5]⟩

/- ref04_level -/
def A_ref04_levelL0 : ACode :=
  .seq (.seq (.region false [⟨(some 7), .mov (.t 6), none⟩,
    ⟨(some 8), .fldA 0 (.t 2), none⟩,
    ⟨(some 9), .ld none (.t 8), none⟩,
    ⟨(some 10), .len (.t 9), none⟩,
    ⟨(some 11), .bin .lss (.t 7) (.t 10), none⟩])
  (.cond (.t 11)
   (.skip)
   (.exit 0)))
  (.seq (.block 1 (.seq (.region false [⟨(some 14), .ld (some 2) (.t 2), none⟩,
    ⟨(some 15), .mov (.t 6), none⟩,
    ⟨(some 16), .mov (.t 1), none⟩,
    ⟨(some 17), .call F_ref03_Below [(.t 14), (.t 15), (.t 16)], none⟩])
  (.cond (.t 17)
   (.region false [⟨(some 18), .mov (.t 5), none⟩,
     ⟨(some 19), .bin .add (.t 18) (.c (.int .i64 1)), none⟩,
     ⟨(some 5), .mov (.t 19), none⟩])
   (.skip))))
  (.region false [⟨(some 12), .mov (.t 6), none⟩,
    ⟨(some 13), .bin .add (.t 12) (.c (.int .i64 1)), none⟩,
    ⟨(some 6), .mov (.t 13), none⟩]))
def A_ref04_level : AFun := ⟨21,
  .seq (.region false [⟨(some 2), .box (.t 0), none⟩,
    ⟨(some 4), .mov (.c (.int .i64 0)), none⟩])
  (.seq (.region false [⟨(some 5), .mov (.c (.int .i64 0)), none⟩])
  (.seq (.seq (.region false [⟨(some 6), .mov (.c (.int .i64 0)), none⟩])
  (.block 0 (.loop A_ref04_levelL0)))
  (.seq (.region false [⟨(some 20), .mov (.t 5), none⟩,
    ⟨(some 4), .mov (.t 20), none⟩])
  (.ret)))),
  [.tmp 4]⟩

/- ref04_has -/
def A_ref04_hasL0 : ACode :=
  .seq (.seq (.region false [⟨(some 6), .mov (.t 5), none⟩,
    ⟨(some 7), .mov (.t 0), none⟩,
    ⟨(some 8), .len (.t 7), none⟩,
    ⟨(some 9), .bin .lss (.t 6) (.t 8), none⟩])
  (.cond (.t 9)
   (.skip)
   (.exit 0)))
  (.seq (.block 1 (.seq (.region false [⟨(some 12), .mov (.t 0), none⟩,
    ⟨(some 13), .mov (.t 5), none⟩,
    ⟨(some 14), .idxA 1 (.t 12) (.t 13), none⟩,
    ⟨(some 15), .ld none (.t 14), none⟩,
    ⟨(some 16), .mov (.t 1), none⟩,
    ⟨(some 17), .bin .eql (.t 15) (.t 16), none⟩])
  (.cond (.t 17)
   (.seq (.region false [⟨(some 4), .mov (.c (.bool true)), none⟩])
   (.ret))
   (.skip))))
  (.region false [⟨(some 10), .mov (.t 5), none⟩,
    ⟨(some 11), .bin .add (.t 10) (.c (.int .i64 1)), none⟩,
    ⟨(some 5), .mov (.t 11), none⟩]))
def A_ref04_has : AFun := ⟨18,
  .seq (.region false [⟨(some 4), .mov (.c (.bool false)), none⟩])
  (.seq (.seq (.region false [⟨(some 5), .mov (.c (.int .i64 0)), none⟩])
  (.block 0 (.loop A_ref04_hasL0)))
  (.seq (.region false [⟨(some 4), .mov (.c (.bool false)), none⟩])
  (.ret))),
  [.tmp 4]⟩

/- slices_Clone_int_int -/
def A_slices_Clone_int_int : AFun := ⟨8,
  .seq (.region false [⟨(some 2), .mov (.c (.sl .ex [])), none⟩])
  (.seq (.seq (.region false [⟨(some 3), .mov (.t 0), none⟩,
    ⟨(some 4), .isn false (.t 3), none⟩])
  (.cond (.t 4)
   (.seq (.region false [⟨(some 2), .mov (.c (.sl .ex [])), none⟩])
   (.ret))
   (.skip)))
  (.seq (.region false [⟨(some 5), .bsl 1 (.int .i64 0) 0 [], none⟩,
    ⟨(some 6), .mov (.t 0), none⟩,
    ⟨(some 7), .app 1 8 (.t 5) (.t 6), none⟩,
    ⟨(some 2), .mov (.t 7), none⟩])
  (.ret))),
  [.tmp 2]⟩

/- labels_sorted_1 -/
def A_labels_sorted_1 : AFun := ⟨11,
  .seq (.region false [⟨(some 5), .mov (.c (.int .i64 0)), none⟩])
  (.seq (.region false [⟨(some 6), .ld none (.t 2), none⟩,
    ⟨(some 7), .mki 74 (.t 6), none⟩,
    ⟨(some 8), .mov (.t 0), none⟩,
    ⟨(some 9), .mov (.t 1), none⟩,
    ⟨(some 10), .call F_labels_compare [(.t 7), (.t 8), (.t 9)], none⟩,
    ⟨(some 5), .mov (.t 10), none⟩])
  (.ret)),
  [.tmp 5]⟩

/- labels_compare -/
def A_labels_compare : AFun := ⟨17,
  .seq (.region false [⟨(some 6), .mov (.c (.int .i64 0)), none⟩])
  (.seq (.block 0 (.seq (.region false [⟨(some 8), .mov (.t 0), none⟩,
    ⟨(some 9), .mov (.t 1), none⟩,
    ⟨(some 10), .mov (.t 2), none⟩,
    ⟨(some 11), .inv [(74, F_labels_levels_less)] (.t 8) [(.t 9), (.t 10)], none⟩,
    ⟨(some 7), .mov (.t 11), none⟩])
  (.cond (.t 7)
   (.seq (.region false [⟨(some 6), .mov (.c (.int .i64 (-1))), none⟩])
   (.ret))
   (.seq (.region false [⟨(some 13), .mov (.t 0), none⟩,
     ⟨(some 14), .mov (.t 2), none⟩,
     ⟨(some 15), .mov (.t 1), none⟩,
     ⟨(some 16), .inv [(74, F_labels_levels_less)] (.t 13) [(.t 14), (.t 15)], none⟩,
     ⟨(some 12), .mov (.t 16), none⟩])
   (.cond (.t 12)
    (.seq (.region false [⟨(some 6), .mov (.c (.int .i64 1)), none⟩])
    (.ret))
    (.skip))))))
  (.seq (.region false [⟨(some 6), .mov (.c (.int .i64 0)), none⟩])
  (.ret))),
  [.tmp 6]⟩

section
variable {X : Cx} (hX : X.P = Go.Proofs.Tryz.prog)
include hX
theorem A_ref04_Meet_ok : compileFun X.P F_ref04_Meet (fun _ => false) = some A_ref04_Meet := by rw [hX]; kernel_rfl
theorem A_labels_Flows_ok : compileFun X.P F_labels_Flows (fun _ => false) = some A_labels_Flows := by rw [hX]; kernel_rfl
theorem A_ref04_Flows_ok : compileFun X.P F_ref04_Flows (fun _ => false) = some A_ref04_Flows := by rw [hX]; kernel_rfl
theorem A_ref03_Join_ok : compileFun X.P F_ref03_Join (fun _ => false) = some A_ref03_Join := by rw [hX]; kernel_rfl
theorem A_ref03_Bottom_ok : compileFun X.P F_ref03_Bottom (fun _ => false) = some A_ref03_Bottom := by rw [hX]; kernel_rfl
theorem A_ref03_Top_ok : compileFun X.P F_ref03_Top (fun _ => false) = some A_ref03_Top := by rw [hX]; kernel_rfl
theorem A_ref03_Meet_ok : compileFun X.P F_ref03_Meet (fun _ => false) = some A_ref03_Meet := by rw [hX]; kernel_rfl
theorem A_ref03_Below_ok : compileFun X.P F_ref03_Below (fun _ => false) = some A_ref03_Below := by rw [hX]; kernel_rfl
theorem A_labels_Show_ok : compileFun X.P F_labels_Show (fun _ => false) = some A_labels_Show := by rw [hX]; kernel_rfl
theorem A_ref04_Show_ok : compileFun X.P F_ref04_Show (fun _ => false) = some A_ref04_Show := by rw [hX]; kernel_rfl
theorem A_labels_Read_ok : compileFun X.P F_labels_Read (fun _ => false) = some A_labels_Read := by rw [hX]; kernel_rfl
theorem A_ref04_Read_ok : compileFun X.P F_ref04_Read (fun _ => false) = some A_ref04_Read := by rw [hX]; kernel_rfl
theorem A_law03_Diamond_ok : compileFun X.P F_law03_Diamond (fun _ => false) = some A_law03_Diamond := by rw [hX]; kernel_rfl
theorem A_law03_long_ok : compileFun X.P F_law03_long (fun _ => false) = some A_law03_long := by rw [hX]; kernel_rfl
theorem A_labels_order_below_ok : compileFun X.P F_labels_order_below (fun _ => false) = some A_labels_order_below := by rw [hX]; kernel_rfl
theorem A_slices_ContainsFunc_int_int_ok : compileFun X.P F_slices_ContainsFunc_int_int (fun _ => false) = some A_slices_ContainsFunc_int_int := by rw [hX]; kernel_rfl
theorem A_labels_Least_1_ok : compileFun X.P F_labels_Least_1 (fun _ => false) = some A_labels_Least_1 := by rw [hX]; kernel_rfl
theorem A_ref04_sorted_ok : compileFun X.P F_ref04_sorted (fun _ => false) = some A_ref04_sorted := by rw [hX]; kernel_rfl
theorem A_labels_beyond_ok : compileFun X.P F_labels_beyond (fun _ => false) = some A_labels_beyond := by rw [hX]; kernel_rfl
theorem A_labels_Down_1_ok : compileFun X.P F_labels_Down_1 (fun _ => false) = some A_labels_Down_1 := by rw [hX]; kernel_rfl
theorem A_labels_Up_1_ok : compileFun X.P F_labels_Up_1 (fun _ => false) = some A_labels_Up_1 := by rw [hX]; kernel_rfl
theorem A_labels_sorted_ok : compileFun X.P F_labels_sorted (fun _ => false) = some A_labels_sorted := by rw [hX]; kernel_rfl
theorem A_lattice_Check_ok : compileFun X.P F_lattice_Check (fun _ => false) = some A_lattice_Check := by rw [hX]; kernel_rfl
theorem A_ref03_Check_ok : compileFun X.P F_ref03_Check (fun _ => false) = some A_ref03_Check := by rw [hX]; kernel_rfl
theorem A_lattice_Bottom_ok : compileFun X.P F_lattice_Bottom (fun _ => false) = some A_lattice_Bottom := by rw [hX]; kernel_rfl
theorem A_labels_fold_ok : compileFun X.P F_labels_fold (fun _ => false) = some A_labels_fold := by rw [hX]; kernel_rfl
theorem A_labels_order_join_ok : compileFun X.P F_labels_order_join (fun _ => false) = some A_labels_order_join := by rw [hX]; kernel_rfl
theorem A_ref04_JoinAll_ok : compileFun X.P F_ref04_JoinAll (fun _ => false) = some A_ref04_JoinAll := by rw [hX]; kernel_rfl
theorem A_lattice_Top_ok : compileFun X.P F_lattice_Top (fun _ => false) = some A_lattice_Top := by rw [hX]; kernel_rfl
theorem A_labels_order_meet_ok : compileFun X.P F_labels_order_meet (fun _ => false) = some A_labels_order_meet := by rw [hX]; kernel_rfl
theorem A_slices_IndexFunc_int_int_ok : compileFun X.P F_slices_IndexFunc_int_int (fun _ => false) = some A_slices_IndexFunc_int_int := by rw [hX]; kernel_rfl
theorem A_labels_Flows_1_ok : compileFun X.P F_labels_Flows_1 (fun _ => false) = some A_labels_Flows_1 := by rw [hX]; kernel_rfl
theorem A_ref03_asked_ok : compileFun X.P F_ref03_asked (fun _ => false) = some A_ref03_asked := by rw [hX]; kernel_rfl
theorem A_ref03_join_ok : compileFun X.P F_ref03_join (fun _ => false) = some A_ref03_join := by rw [hX]; kernel_rfl
theorem A_ref03_downs_ok : compileFun X.P F_ref03_downs (fun _ => false) = some A_ref03_downs := by rw [hX]; kernel_rfl
theorem A_ref03_nearest_ok : compileFun X.P F_ref03_nearest (fun _ => false) = some A_ref03_nearest := by rw [hX]; kernel_rfl
theorem A_ref03_meet_ok : compileFun X.P F_ref03_meet (fun _ => false) = some A_ref03_meet := by rw [hX]; kernel_rfl
theorem A_strings_Split_ok : compileFun X.P F_strings_Split (fun _ => false) = some A_strings_Split := by rw [hX]; kernel_rfl
theorem A_slices_Contains_string_string_ok : compileFun X.P F_slices_Contains_string_string (fun _ => false) = some A_slices_Contains_string_string := by rw [hX]; kernel_rfl
theorem A_lattice_Find_ok : compileFun X.P F_lattice_Find (fun _ => false) = some A_lattice_Find := by rw [hX]; kernel_rfl
theorem A_ref03_Find_ok : compileFun X.P F_ref03_Find (fun _ => false) = some A_ref03_Find := by rw [hX]; kernel_rfl
theorem A_ref04_level_ok : compileFun X.P F_ref04_level (fun _ => false) = some A_ref04_level := by rw [hX]; kernel_rfl
theorem A_ref04_has_ok : compileFun X.P F_ref04_has (fun _ => false) = some A_ref04_has := by rw [hX]; kernel_rfl
theorem A_slices_Clone_int_int_ok : compileFun X.P F_slices_Clone_int_int (fun _ => false) = some A_slices_Clone_int_int := by rw [hX]; kernel_rfl
theorem A_labels_sorted_1_ok : compileFun X.P F_labels_sorted_1 (fun _ => false) = some A_labels_sorted_1 := by rw [hX]; kernel_rfl
theorem A_labels_compare_ok : compileFun X.P F_labels_compare (fun _ => false) = some A_labels_compare := by rw [hX]; kernel_rfl
end
end Go.Avm
