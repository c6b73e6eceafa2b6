/- The functions as they have been read. -/
import Derived.Test.YtbhdhlkjchgddaaGreatDoorAG1
import Derived.Test.YtbhdhlkjchgddaaGreatDoorProg
set_option linter.unusedSectionVars false
set_option linter.unusedSimpArgs false
set_option linter.unusedVariables false

/- The functions as they have been read. -/
namespace Go.Avm
open Go
/- ref03_downs -/
def A_ref03_downsL1 : ACode :=
  .seq (.seq (.region false [⟨(some 17), .mov (.t 5), none⟩,
    ⟨(some 18), .fldA 0 (.t 1), none⟩,
    ⟨(some 19), .ld none (.t 18), none⟩,
    ⟨(some 20), .len (.t 19), none⟩,
    ⟨(some 21), .bin .lss (.t 17) (.t 20), none⟩])
  (.cond (.t 21)
   (.skip)
   (.exit 2)))
  (.seq (.block 3 (.seq (.region false [⟨(some 24), .ld (some 2) (.t 1), none⟩,
    ⟨(some 25), .mov (.t 4), none⟩,
    ⟨(some 26), .mov (.t 5), none⟩,
    ⟨(some 27), .call F_ref03_Below [(.t 24), (.t 25), (.t 26)], none⟩])
  (.cond (.t 27)
   (.region true [⟨(some 28), .mov (.t 3), none⟩,
     ⟨(some 29), .mov (.t 5), none⟩,
     ⟨(some 30), .mov (.t 3), none⟩,
     ⟨(some 31), .mov (.t 5), none⟩,
     ⟨(some 32), .idxA 1 (.t 30) (.t 31), none⟩,
     ⟨(some 33), .ld none (.t 32), none⟩,
     ⟨(some 34), .mov (.t 4), none⟩,
     ⟨(some 35), .bin .shl (.c (.int .u8 1)) (.t 34), none⟩,
     ⟨(some 36), .bin .or (.t 33) (.t 35), none⟩,
     ⟨(some 37), .idxA 1 (.t 28) (.t 29), none⟩,
     ⟨none, .st 1 (.t 37) (.t 36), none⟩])
   (.skip))))
  (.region false [⟨(some 22), .mov (.t 5), none⟩,
    ⟨(some 23), .bin .add (.t 22) (.c (.int .i64 1)), none⟩,
    ⟨(some 5), .mov (.t 23), none⟩]))
def A_ref03_downsL0 : ACode :=
  .seq (.seq (.region false [⟨(some 10), .mov (.t 4), none⟩,
    ⟨(some 11), .fldA 0 (.t 1), none⟩,
    ⟨(some 12), .ld none (.t 11), none⟩,
    ⟨(some 13), .len (.t 12), none⟩,
    ⟨(some 14), .bin .lss (.t 10) (.t 13), none⟩])
  (.cond (.t 14)
   (.skip)
   (.exit 0)))
  (.seq (.block 1 (.seq (.region false [⟨(some 5), .mov (.c (.int .i64 0)), none⟩])
  (.block 2 (.loop A_ref03_downsL1))))
  (.region false [⟨(some 15), .mov (.t 4), none⟩,
    ⟨(some 16), .bin .add (.t 15) (.c (.int .i64 1)), none⟩,
    ⟨(some 4), .mov (.t 16), none⟩]))
def A_ref03_downs : AFun := ⟨39,
  .seq (.region false [⟨(some 1), .box (.t 0), none⟩,
    ⟨(some 2), .mov (.c (.sl .ex [])), none⟩])
  (.seq (.region false [⟨(some 6), .fldA 0 (.t 1), none⟩,
    ⟨(some 7), .ld none (.t 6), none⟩,
    ⟨(some 8), .len (.t 7), none⟩,
    ⟨(some 9), .mkR 1 1 [.int .u8 0] (.t 8) (.t 8), none⟩,
    ⟨(some 3), .mov (.t 9), none⟩])
  (.seq (.seq (.region false [⟨(some 4), .mov (.c (.int .i64 0)), none⟩])
  (.block 0 (.loop A_ref03_downsL0)))
  (.seq (.region false [⟨(some 38), .mov (.t 3), none⟩,
    ⟨(some 2), .mov (.t 38), none⟩])
  (.ret)))),
  [.tmp 2]⟩

/- ref03_nearest -/
def A_ref03_nearestL0 : ACode :=
  .seq (.seq (.region false [⟨(some 18), .mov (.t 8), none⟩,
    ⟨(some 19), .mov (.t 0), none⟩,
    ⟨(some 20), .len (.t 19), none⟩,
    ⟨(some 21), .bin .lss (.t 18) (.t 20), none⟩])
  (.cond (.t 21)
   (.skip)
   (.exit 0)))
  (.seq (.block 1 (.seq (.region false [⟨(some 24), .mov (.t 0), none⟩,
    ⟨(some 25), .mov (.t 8), none⟩,
    ⟨(some 26), .idxA 1 (.t 24) (.t 25), none⟩,
    ⟨(some 27), .ld none (.t 26), none⟩,
    ⟨(some 28), .mov (.t 7), none⟩,
    ⟨(some 29), .bin .eql (.t 27) (.t 28), none⟩])
  (.cond (.t 29)
   (.seq (.region false [⟨(some 30), .mov (.t 8), none⟩,
     ⟨(some 6), .mov (.t 30), none⟩])
   (.ret))
   (.skip))))
  (.region false [⟨(some 22), .mov (.t 8), none⟩,
    ⟨(some 23), .bin .add (.t 22) (.c (.int .i64 1)), none⟩,
    ⟨(some 8), .mov (.t 23), none⟩]))
def A_ref03_nearest : AFun := ⟨31,
  .seq (.region false [⟨(some 6), .mov (.c (.int .i64 0)), none⟩])
  (.seq (.region true [⟨(some 9), .mov (.t 0), none⟩,
    ⟨(some 10), .mov (.t 1), none⟩,
    ⟨(some 11), .idxA 1 (.t 9) (.t 10), none⟩,
    ⟨(some 12), .ld none (.t 11), none⟩,
    ⟨(some 13), .mov (.t 0), none⟩,
    ⟨(some 14), .mov (.t 2), none⟩,
    ⟨(some 15), .idxA 1 (.t 13) (.t 14), none⟩,
    ⟨(some 16), .ld none (.t 15), none⟩,
    ⟨(some 17), .bin .and (.t 12) (.t 16), none⟩,
    ⟨(some 7), .mov (.t 17), none⟩])
  (.seq (.seq (.region false [⟨(some 8), .mov (.c (.int .i64 0)), none⟩])
  (.block 0 (.loop A_ref03_nearestL0)))
  (.seq (.region false [⟨(some 6), .mov (.c (.int .i64 (-1))), none⟩])
  (.ret)))),
  [.tmp 6]⟩

/- slices_ContainsFunc_int_int -/
def A_slices_ContainsFunc_int_int : AFun := ⟨9,
  .seq (.region false [⟨(some 4), .mov (.c (.bool false)), none⟩])
  (.seq (.region false [⟨(some 5), .mov (.t 0), none⟩,
    ⟨(some 6), .mov (.t 1), none⟩,
    ⟨(some 7), .call F_slices_IndexFunc_int_int [(.t 5), (.t 6)], none⟩,
    ⟨(some 8), .bin .geq (.t 7) (.c (.int .i64 0)), none⟩,
    ⟨(some 4), .mov (.t 8), none⟩])
  (.ret)),
  [.tmp 4]⟩

/- types_order_check_1 -/
def A_types_order_check_1 : AFun := ⟨11,
  .seq (.region false [⟨(some 4), .mov (.c (.bool false)), none⟩])
  (.seq (.region false [⟨(some 5), .ld (some 3) (.t 1), none⟩,
    ⟨(some 6), .mov (.t 0), none⟩,
    ⟨(some 7), .fldA 4 (.t 2), none⟩,
    ⟨(some 8), .ld none (.t 7), none⟩,
    ⟨(some 9), .call F_types_order_leq [(.t 5), (.t 6), (.t 8)], none⟩,
    ⟨(some 10), .not (.t 9), none⟩,
    ⟨(some 4), .mov (.t 10), none⟩])
  (.ret)),
  [.tmp 4]⟩

/- ref03_Below -/
def A_ref03_Below : AFun := ⟨31,
  .seq (.region false [⟨(some 3), .box (.t 0), none⟩,
    ⟨(some 6), .mov (.c (.bool false)), none⟩])
  (.seq (.region false [⟨(some 7), .mov (.t 1), none⟩,
    ⟨(some 8), .bin .geq (.t 7) (.c (.int .i64 0)), none⟩,
    ⟨(some 9), .mov (.t 8), none⟩,
    ⟨(some 10), .mov (.t 1), some (9, true)⟩,
    ⟨(some 11), .fldA 1 (.t 3), some (9, true)⟩,
    ⟨(some 12), .ld none (.t 11), some (9, true)⟩,
    ⟨(some 13), .len (.t 12), some (9, true)⟩,
    ⟨(some 14), .bin .lss (.t 10) (.t 13), some (9, true)⟩,
    ⟨(some 15), .pick (.t 9) (.t 14) (.c (.bool false)), none⟩,
    ⟨(some 16), .mov (.t 15), none⟩,
    ⟨(some 17), .mov (.t 2), some (16, true)⟩,
    ⟨(some 18), .bin .geq (.t 17) (.c (.int .i64 0)), some (16, true)⟩,
    ⟨(some 19), .pick (.t 16) (.t 18) (.c (.bool false)), none⟩,
    ⟨(some 20), .mov (.t 19), none⟩,
    ⟨(some 21), .fldA 1 (.t 3), some (20, true)⟩,
    ⟨(some 22), .ld none (.t 21), some (20, true)⟩,
    ⟨(some 23), .mov (.t 1), some (20, true)⟩,
    ⟨(some 24), .idxA 1 (.t 22) (.t 23), some (20, true)⟩,
    ⟨(some 25), .ld none (.t 24), some (20, true)⟩,
    ⟨(some 26), .mov (.t 2), some (20, true)⟩,
    ⟨(some 27), .bin .shr (.t 25) (.t 26), some (20, true)⟩,
    ⟨(some 28), .bin .rem (.t 27) (.c (.int .u8 2)), some (20, true)⟩,
    ⟨(some 29), .bin .eql (.t 28) (.c (.int .u8 1)), some (20, true)⟩,
    ⟨(some 30), .pick (.t 20) (.t 29) (.c (.bool false)), none⟩,
    ⟨(some 6), .mov (.t 30), none⟩])
  (.ret)),
  [.tmp 6]⟩

/- words_fields -/
def A_words_fields : AFun := ⟨4,
  .seq (.region false [⟨(some 1), .box (.t 0), none⟩,
    ⟨(some 2), .mov (.c (.nilF)), none⟩])
  (.seq (.region false [⟨(some 3), .mkf F_words_fields_1 [] [(.t 1)], none⟩,
    ⟨(some 2), .mov (.t 3), none⟩])
  (.ret)),
  [.tmp 2]⟩

/- slices_IndexFunc_api_Field_api_Field -/
def A_slices_IndexFunc_api_Field_api_FieldL0 : ACode :=
  .seq (.region false [⟨(some 9), .bin .lss (.t 8) (.t 7), none⟩])
  (.seq (.cond (.t 9)
   (.skip)
   (.exit 0))
  (.seq (.block 1 (.seq (.region false [⟨(some 10), .mov (.t 8), none⟩,
    ⟨(some 5), .mov (.t 10), none⟩])
  (.seq (.region false [⟨(some 11), .mov (.t 1), none⟩,
    ⟨(some 12), .mov (.t 0), none⟩,
    ⟨(some 13), .mov (.t 5), none⟩,
    ⟨(some 14), .idxA 2 (.t 12) (.t 13), none⟩,
    ⟨(some 15), .ld (some 2) (.t 14), none⟩,
    ⟨(some 16), .callv (.t 11) [(.t 15)], none⟩])
  (.cond (.t 16)
   (.seq (.region false [⟨(some 17), .mov (.t 5), none⟩,
     ⟨(some 4), .mov (.t 17), none⟩])
   (.ret))
   (.skip)))))
  (.region false [⟨(some 18), .bin .add (.t 8) (.c (.int .i64 1)), none⟩,
    ⟨(some 8), .mov (.t 18), none⟩])))
def A_slices_IndexFunc_api_Field_api_Field : AFun := ⟨19,
  .seq (.region false [⟨(some 4), .mov (.c (.int .i64 0)), none⟩])
  (.seq (.seq (.region false [⟨(some 6), .mov (.t 0), none⟩,
    ⟨(some 7), .len (.t 6), none⟩,
    ⟨(some 8), .mov (.c (.int .i64 0)), none⟩])
  (.block 0 (.loop A_slices_IndexFunc_api_Field_api_FieldL0)))
  (.seq (.region false [⟨(some 4), .mov (.c (.int .i64 (-1))), none⟩])
  (.ret))),
  [.tmp 4]⟩

/- words_isDecimal -/
def A_words_isDecimal : AFun := ⟨20,
  .seq (.region false [⟨(some 2), .mov (.c (.bool false)), none⟩])
  (.seq (.region false [⟨(some 4), .mov (.t 0), none⟩,
    ⟨(some 5), .call F_strings_TrimPrefix [(.t 4), (.c (.str [45]))], none⟩,
    ⟨(some 3), .mov (.t 5), none⟩])
  (.seq (.seq (.region false [⟨(some 6), .mov (.t 3), none⟩,
    ⟨(some 7), .bin .eql (.t 6) (.c (.str [])), none⟩,
    ⟨(some 8), .mov (.t 7), none⟩,
    ⟨(some 9), .mov (.t 3), some (8, false)⟩,
    ⟨(some 10), .call F_strings_Trim [(.t 9), (.c (.str [48, 49, 50, 51, 52, 53, 54, 55, 56, 57]))], some (8, false)⟩,
    ⟨(some 11), .bin .neq (.t 10) (.c (.str [])), some (8, false)⟩,
    ⟨(some 12), .pick (.t 8) (.c (.bool true)) (.t 11), none⟩])
  (.cond (.t 12)
   (.seq (.region false [⟨(some 2), .mov (.c (.bool false)), none⟩])
   (.ret))
   (.skip)))
  (.seq (.region false [⟨(some 13), .mov (.t 3), none⟩,
    ⟨(some 14), .idxS (.t 13) (.c (.int .i64 0)), none⟩,
    ⟨(some 15), .bin .neq (.t 14) (.c (.int .u8 48)), none⟩,
    ⟨(some 16), .mov (.t 15), none⟩,
    ⟨(some 17), .mov (.t 0), some (16, false)⟩,
    ⟨(some 18), .bin .eql (.t 17) (.c (.str [48])), some (16, false)⟩,
    ⟨(some 19), .pick (.t 16) (.c (.bool true)) (.t 18), none⟩,
    ⟨(some 2), .mov (.t 19), none⟩])
  (.ret)))),
  [.tmp 2]⟩

/- lattice_asked -/
def A_lattice_askedL0 : ACode :=
  .seq (.region false [⟨(some 22), .bin .lss (.t 21) (.t 20), none⟩])
  (.seq (.cond (.t 22)
   (.skip)
   (.exit 0))
  (.seq (.block 1 (.seq (.region false [⟨(some 23), .idxA 1 (.t 19) (.t 21), none⟩,
    ⟨(some 24), .ld none (.t 23), none⟩,
    ⟨(some 8), .mov (.t 24), none⟩])
  (.seq (.region false [⟨(some 25), .mov (.t 8), none⟩,
    ⟨(some 26), .bin .lss (.t 25) (.c (.int .i64 0)), none⟩,
    ⟨(some 27), .mov (.t 26), none⟩,
    ⟨(some 28), .mov (.t 8), some (27, false)⟩,
    ⟨(some 29), .mov (.t 0), some (27, false)⟩,
    ⟨(some 30), .nck (.t 29), some (27, false)⟩,
    ⟨(some 31), .fldA 0 (.t 30), some (27, false)⟩,
    ⟨(some 32), .ld none (.t 31), some (27, false)⟩,
    ⟨(some 33), .len (.t 32), some (27, false)⟩,
    ⟨(some 34), .bin .geq (.t 28) (.t 33), some (27, false)⟩,
    ⟨(some 35), .pick (.t 27) (.c (.bool true)) (.t 34), none⟩])
  (.cond (.t 35)
   (.seq (.region false [⟨(some 4), .mov (.c (.int .i64 7)), none⟩])
   (.ret))
   (.skip)))))
  (.region false [⟨(some 36), .bin .add (.t 21) (.c (.int .i64 1)), none⟩,
    ⟨(some 21), .mov (.t 36), none⟩])))
def A_lattice_asked : AFun := ⟨37,
  .seq (.region false [⟨(some 4), .mov (.c (.int .i64 0)), none⟩])
  (.seq (.seq (.region false [⟨(some 10), .mov (.t 0), none⟩,
    ⟨(some 11), .nck (.t 10), none⟩,
    ⟨(some 12), .ld (some 2) (.t 11), none⟩,
    ⟨(some 13), .call F_lattice_Check [(.t 12)], none⟩,
    ⟨(some 9), .mov (.t 13), none⟩,
    ⟨(some 14), .extr (.t 9) 0, none⟩,
    ⟨(some 15), .extr (.t 9) 1, none⟩,
    ⟨(some 5), .mov (.t 14), none⟩,
    ⟨(some 6), .mov (.t 15), none⟩])
  (.seq (.region false [⟨(some 16), .mov (.t 6), none⟩,
    ⟨(some 17), .bin .neq (.t 16) (.c (.int .i64 0)), none⟩])
  (.cond (.t 17)
   (.seq (.region false [⟨(some 18), .mov (.t 6), none⟩,
     ⟨(some 4), .mov (.t 18), none⟩])
   (.ret))
   (.skip))))
  (.seq (.seq (.region false [⟨(some 19), .mov (.t 1), none⟩,
    ⟨(some 20), .len (.t 19), none⟩,
    ⟨(some 21), .mov (.c (.int .i64 0)), none⟩])
  (.block 0 (.loop A_lattice_askedL0)))
  (.seq (.region false [⟨(some 4), .mov (.c (.int .i64 0)), none⟩])
  (.ret)))),
  [.tmp 4]⟩

/- ref01_quoted -/
def A_ref01_quotedL1 : ACode :=
  .seq (.seq (.region false [⟨(some 27), .mov (.t 7), none⟩,
    ⟨(some 28), .bin .lss (.t 27) (.c (.int .i64 256)), none⟩,
    ⟨(some 29), .mov (.t 28), none⟩,
    ⟨(some 30), .mov (.t 6), some (29, true)⟩,
    ⟨(some 31), .not (.t 30), some (29, true)⟩,
    ⟨(some 32), .pick (.t 29) (.t 31) (.c (.bool false)), none⟩])
  (.cond (.t 32)
   (.skip)
   (.exit 2)))
  (.seq (.block 3 (.seq (.region false [⟨(some 35), .mov (.t 7), none⟩,
    ⟨(some 36), .conv .u8 (.t 35), none⟩,
    ⟨(some 37), .call F_ref01_escaped [(.t 36)], none⟩,
    ⟨(some 8), .mov (.t 37), none⟩])
  (.seq (.region false [⟨(some 38), .mov (.t 8), none⟩,
    ⟨(some 39), .lenS (.t 38), none⟩,
    ⟨(some 40), .mov (.t 0), none⟩,
    ⟨(some 41), .lenS (.t 40), none⟩,
    ⟨(some 42), .mov (.t 5), none⟩,
    ⟨(some 43), .bin .sub (.t 41) (.t 42), none⟩,
    ⟨(some 44), .bin .leq (.t 39) (.t 43), none⟩,
    ⟨(some 45), .mov (.t 44), none⟩,
    ⟨(some 46), .mov (.t 0), some (45, true)⟩,
    ⟨(some 47), .mov (.t 5), some (45, true)⟩,
    ⟨(some 48), .mov (.t 5), some (45, true)⟩,
    ⟨(some 49), .mov (.t 8), some (45, true)⟩,
    ⟨(some 50), .lenS (.t 49), some (45, true)⟩,
    ⟨(some 51), .bin .add (.t 48) (.t 50), some (45, true)⟩,
    ⟨(some 52), .ssl (.t 46) (some (.t 47)) (some (.t 51)), some (45, true)⟩,
    ⟨(some 53), .mov (.t 8), some (45, true)⟩,
    ⟨(some 54), .bin .eql (.t 52) (.t 53), some (45, true)⟩,
    ⟨(some 55), .pick (.t 45) (.t 54) (.c (.bool false)), none⟩])
  (.cond (.t 55)
   (.seq (.region false [⟨(some 56), .mov (.t 4), none⟩,
     ⟨(some 57), .mov (.t 7), none⟩,
     ⟨(some 58), .conv .u8 (.t 57), none⟩,
     ⟨(some 59), .bsl 1 (.int .u8 0) 1 [(0, (.t 58))], none⟩,
     ⟨(some 60), .app 1 1 (.t 56) (.t 59), none⟩,
     ⟨(some 4), .mov (.t 60), none⟩])
   (.seq (.region false [⟨(some 61), .mov (.t 5), none⟩,
     ⟨(some 62), .mov (.t 8), none⟩,
     ⟨(some 63), .lenS (.t 62), none⟩,
     ⟨(some 64), .bin .add (.t 61) (.t 63), none⟩,
     ⟨(some 5), .mov (.t 64), none⟩])
   (.region false [⟨(some 6), .mov (.c (.bool true)), none⟩])))
   (.skip)))))
  (.region false [⟨(some 33), .mov (.t 7), none⟩,
    ⟨(some 34), .bin .add (.t 33) (.c (.int .i64 1)), none⟩,
    ⟨(some 7), .mov (.t 34), none⟩]))
def A_ref01_quotedL0 : ACode :=
  .seq (.seq (.region false [⟨(some 17), .mov (.t 5), none⟩,
    ⟨(some 18), .mov (.t 0), none⟩,
    ⟨(some 19), .lenS (.t 18), none⟩,
    ⟨(some 20), .bin .lss (.t 17) (.t 19), none⟩,
    ⟨(some 21), .mov (.t 20), none⟩,
    ⟨(some 22), .mov (.t 0), some (21, true)⟩,
    ⟨(some 23), .mov (.t 5), some (21, true)⟩,
    ⟨(some 24), .idxS (.t 22) (.t 23), some (21, true)⟩,
    ⟨(some 25), .bin .neq (.t 24) (.c (.int .u8 34)), some (21, true)⟩,
    ⟨(some 26), .pick (.t 21) (.t 25) (.c (.bool false)), none⟩])
  (.cond (.t 26)
   (.skip)
   (.exit 0)))
  (.block 1 (.seq (.region false [⟨(some 6), .mov (.c (.bool false)), none⟩])
  (.seq (.seq (.region false [⟨(some 7), .mov (.c (.int .i64 0)), none⟩])
  (.block 2 (.loop A_ref01_quotedL1)))
  (.seq (.region false [⟨(some 65), .mov (.t 6), none⟩,
    ⟨(some 66), .not (.t 65), none⟩])
  (.cond (.t 66)
   (.seq (.region false [⟨(some 2), .mov (.c (.str [])), none⟩,
     ⟨(some 3), .mov (.c (.int .i64 0)), none⟩])
   (.ret))
   (.skip))))))
def A_ref01_quoted : AFun := ⟨75,
  .seq (.region false [⟨(some 2), .mov (.c (.str [])), none⟩,
    ⟨(some 3), .mov (.c (.int .i64 0)), none⟩])
  (.seq (.seq (.region false [⟨(some 9), .mov (.t 0), none⟩,
    ⟨(some 10), .lenS (.t 9), none⟩,
    ⟨(some 11), .bin .eql (.t 10) (.c (.int .i64 0)), none⟩,
    ⟨(some 12), .mov (.t 11), none⟩,
    ⟨(some 13), .mov (.t 0), some (12, false)⟩,
    ⟨(some 14), .idxS (.t 13) (.c (.int .i64 0)), some (12, false)⟩,
    ⟨(some 15), .bin .neq (.t 14) (.c (.int .u8 34)), some (12, false)⟩,
    ⟨(some 16), .pick (.t 12) (.c (.bool true)) (.t 15), none⟩])
  (.cond (.t 16)
   (.seq (.region false [⟨(some 2), .mov (.c (.str [])), none⟩,
     ⟨(some 3), .mov (.c (.int .i64 0)), none⟩])
   (.ret))
   (.skip)))
  (.seq (.region false [⟨(some 4), .mov (.c (.sl .ex [])), none⟩])
  (.seq (.region false [⟨(some 5), .mov (.c (.int .i64 1)), none⟩])
  (.seq (.block 0 (.loop A_ref01_quotedL0))
  (.seq (.seq (.region false [⟨(some 67), .mov (.t 5), none⟩,
    ⟨(some 68), .mov (.t 0), none⟩,
    ⟨(some 69), .lenS (.t 68), none⟩,
    ⟨(some 70), .bin .eql (.t 67) (.t 69), none⟩])
  (.cond (.t 70)
   (.seq (.region false [⟨(some 2), .mov (.c (.str [])), none⟩,
     ⟨(some 3), .mov (.c (.int .i64 0)), none⟩])
   (.ret))
   (.skip)))
  (.seq (.region false [⟨(some 71), .mov (.t 4), none⟩,
    ⟨(some 72), .b2s (.t 71), none⟩,
    ⟨(some 73), .mov (.t 5), none⟩,
    ⟨(some 74), .bin .add (.t 73) (.c (.int .i64 1)), none⟩,
    ⟨(some 2), .mov (.t 72), none⟩,
    ⟨(some 3), .mov (.t 74), none⟩])
  (.ret))))))),
  [.tmp 2, .tmp 3]⟩

/- ref01_bare -/
def A_ref01_bareL0 : ACode :=
  .seq (.seq (.region false [⟨(some 4), .mov (.t 3), none⟩,
    ⟨(some 5), .mov (.t 0), none⟩,
    ⟨(some 6), .lenS (.t 5), none⟩,
    ⟨(some 7), .bin .lss (.t 4) (.t 6), none⟩])
  (.cond (.t 7)
   (.skip)
   (.exit 0)))
  (.seq (.block 1 (.seq (.region false [⟨(some 10), .mov (.t 0), none⟩,
    ⟨(some 11), .mov (.t 3), none⟩,
    ⟨(some 12), .idxS (.t 10) (.t 11), none⟩,
    ⟨(some 13), .call F_ref01_plain [(.t 12)], none⟩,
    ⟨(some 14), .not (.t 13), none⟩,
    ⟨(some 15), .mov (.t 14), none⟩,
    ⟨(some 16), .mov (.t 0), some (15, false)⟩,
    ⟨(some 17), .mov (.t 3), some (15, false)⟩,
    ⟨(some 18), .idxS (.t 16) (.t 17), some (15, false)⟩,
    ⟨(some 19), .bin .eql (.t 18) (.c (.int .u8 32)), some (15, false)⟩,
    ⟨(some 20), .pick (.t 15) (.c (.bool true)) (.t 19), none⟩])
  (.cond (.t 20)
   (.seq (.region false [⟨(some 2), .mov (.c (.bool false)), none⟩])
   (.ret))
   (.skip))))
  (.region false [⟨(some 8), .mov (.t 3), none⟩,
    ⟨(some 9), .bin .add (.t 8) (.c (.int .i64 1)), none⟩,
    ⟨(some 3), .mov (.t 9), none⟩]))
def A_ref01_bare : AFun := ⟨24,
  .seq (.region false [⟨(some 2), .mov (.c (.bool false)), none⟩])
  (.seq (.seq (.region false [⟨(some 3), .mov (.c (.int .i64 0)), none⟩])
  (.block 0 (.loop A_ref01_bareL0)))
  (.seq (.region false [⟨(some 21), .mov (.t 0), none⟩,
    ⟨(some 22), .lenS (.t 21), none⟩,
    ⟨(some 23), .bin .gtr (.t 22) (.c (.int .i64 0)), none⟩,
    ⟨(some 2), .mov (.t 23), none⟩])
  (.ret))),
  [.tmp 2]⟩

/- ref01_decimal -/
def A_ref01_decimalL0 : ACode :=
  .seq (.seq (.region false [⟨(some 32), .mov (.t 3), none⟩,
    ⟨(some 33), .mov (.t 0), none⟩,
    ⟨(some 34), .lenS (.t 33), none⟩,
    ⟨(some 35), .bin .lss (.t 32) (.t 34), none⟩])
  (.cond (.t 35)
   (.skip)
   (.exit 0)))
  (.seq (.block 1 (.seq (.region false [⟨(some 38), .mov (.t 0), none⟩,
    ⟨(some 39), .mov (.t 3), none⟩,
    ⟨(some 40), .idxS (.t 38) (.t 39), none⟩,
    ⟨(some 41), .call F_ref01_digit [(.t 40)], none⟩,
    ⟨(some 42), .not (.t 41), none⟩])
  (.cond (.t 42)
   (.seq (.region false [⟨(some 2), .mov (.c (.bool false)), none⟩])
   (.ret))
   (.skip))))
  (.region false [⟨(some 36), .mov (.t 3), none⟩,
    ⟨(some 37), .bin .add (.t 36) (.c (.int .i64 1)), none⟩,
    ⟨(some 3), .mov (.t 37), none⟩]))
def A_ref01_decimal : AFun := ⟨43,
  .seq (.region false [⟨(some 2), .mov (.c (.bool false)), none⟩])
  (.seq (.seq (.region false [⟨(some 4), .mov (.t 0), none⟩,
    ⟨(some 5), .lenS (.t 4), none⟩,
    ⟨(some 6), .bin .gtr (.t 5) (.c (.int .i64 1)), none⟩,
    ⟨(some 7), .mov (.t 6), none⟩,
    ⟨(some 8), .mov (.t 0), some (7, true)⟩,
    ⟨(some 9), .idxS (.t 8) (.c (.int .i64 0)), some (7, true)⟩,
    ⟨(some 10), .bin .eql (.t 9) (.c (.int .u8 45)), some (7, true)⟩,
    ⟨(some 11), .pick (.t 7) (.t 10) (.c (.bool false)), none⟩,
    ⟨(some 12), .mov (.t 11), none⟩,
    ⟨(some 13), .mov (.t 0), some (12, true)⟩,
    ⟨(some 14), .idxS (.t 13) (.c (.int .i64 1)), some (12, true)⟩,
    ⟨(some 15), .bin .neq (.t 14) (.c (.int .u8 48)), some (12, true)⟩,
    ⟨(some 16), .pick (.t 12) (.t 15) (.c (.bool false)), none⟩])
  (.cond (.t 16)
   (.region false [⟨(some 17), .mov (.t 0), none⟩,
     ⟨(some 18), .ssl (.t 17) (some (.c (.int .i64 1))) none, none⟩,
     ⟨(some 0), .mov (.t 18), none⟩])
   (.skip)))
  (.seq (.seq (.region false [⟨(some 19), .mov (.t 0), none⟩,
    ⟨(some 20), .lenS (.t 19), none⟩,
    ⟨(some 21), .bin .eql (.t 20) (.c (.int .i64 0)), none⟩,
    ⟨(some 22), .mov (.t 21), none⟩,
    ⟨(some 23), .mov (.t 0), some (22, false)⟩,
    ⟨(some 24), .lenS (.t 23), some (22, false)⟩,
    ⟨(some 25), .bin .gtr (.t 24) (.c (.int .i64 1)), some (22, false)⟩,
    ⟨(some 26), .mov (.t 25), some (22, false)⟩,
    ⟨(some 27), .mov (.t 0), some (26, true)⟩,
    ⟨(some 28), .idxS (.t 27) (.c (.int .i64 0)), some (26, true)⟩,
    ⟨(some 29), .bin .eql (.t 28) (.c (.int .u8 48)), some (26, true)⟩,
    ⟨(some 30), .pick (.t 26) (.t 29) (.c (.bool false)), some (22, false)⟩,
    ⟨(some 31), .pick (.t 22) (.c (.bool true)) (.t 30), none⟩])
  (.cond (.t 31)
   (.seq (.region false [⟨(some 2), .mov (.c (.bool false)), none⟩])
   (.ret))
   (.skip)))
  (.seq (.seq (.region false [⟨(some 3), .mov (.c (.int .i64 0)), none⟩])
  (.block 0 (.loop A_ref01_decimalL0)))
  (.seq (.region false [⟨(some 2), .mov (.c (.bool true)), none⟩])
  (.ret))))),
  [.tmp 2]⟩

/- types_both -/
def A_types_both : AFun := ⟨50,
  .seq (.region false [⟨(some 3), .box (.t 0), none⟩,
    ⟨(some 4), .box (.t 1), none⟩,
    ⟨(some 5), .box (.t 2), none⟩,
    ⟨(some 6), .alloc [.sl .ex [], .sl .ex [], .int .i64 0], none⟩,
    ⟨(some 7), .mov (.c (.int .i64 0)), none⟩])
  (.seq (.region false [⟨(some 13), .ld (some 2) (.t 3), none⟩,
    ⟨(some 14), .call F_types_of [(.t 13)], none⟩,
    ⟨(some 12), .mov (.t 14), none⟩,
    ⟨(some 15), .extr (.t 12) 0, none⟩,
    ⟨(some 16), .extr (.t 12) 1, none⟩,
    ⟨(some 8), .alloc [.sl .ex [], .sl .ex [], .int .i64 0], none⟩,
    ⟨none, .st 3 (.t 8) (.t 15), none⟩,
    ⟨(some 9), .mov (.t 16), none⟩])
  (.seq (.seq (.region false [⟨(some 17), .mov (.t 9), none⟩,
    ⟨(some 18), .bin .neq (.t 17) (.c (.int .i64 0)), none⟩])
  (.cond (.t 18)
   (.seq (.region false [⟨(some 19), .ld (some 3) (.t 8), none⟩,
     ⟨(some 20), .mov (.t 9), none⟩,
     ⟨none, .st 3 (.t 6) (.t 19), none⟩,
     ⟨(some 7), .mov (.t 20), none⟩])
   (.ret))
   (.skip)))
  (.seq (.seq (.region false [⟨(some 21), .ld (some 3) (.t 8), none⟩,
    ⟨(some 22), .ld (some 5) (.t 4), none⟩,
    ⟨(some 23), .call F_types_order_check [(.t 21), (.t 22)], none⟩,
    ⟨(some 10), .mov (.t 23), none⟩])
  (.seq (.region false [⟨(some 24), .mov (.t 10), none⟩,
    ⟨(some 25), .bin .neq (.t 24) (.c (.int .i64 0)), none⟩])
  (.cond (.t 25)
   (.seq (.region false [⟨(some 26), .ld (some 3) (.t 8), none⟩,
     ⟨(some 27), .mov (.t 10), none⟩,
     ⟨none, .st 3 (.t 6) (.t 26), none⟩,
     ⟨(some 7), .mov (.t 27), none⟩])
   (.ret))
   (.skip))))
  (.seq (.seq (.region false [⟨(some 28), .ld (some 3) (.t 8), none⟩,
    ⟨(some 29), .ld (some 5) (.t 5), none⟩,
    ⟨(some 30), .call F_types_order_check [(.t 28), (.t 29)], none⟩,
    ⟨(some 11), .mov (.t 30), none⟩])
  (.seq (.region false [⟨(some 31), .mov (.t 11), none⟩,
    ⟨(some 32), .bin .neq (.t 31) (.c (.int .i64 0)), none⟩])
  (.cond (.t 32)
   (.seq (.region false [⟨(some 33), .ld (some 3) (.t 8), none⟩,
     ⟨(some 34), .mov (.t 11), none⟩,
     ⟨none, .st 3 (.t 6) (.t 33), none⟩,
     ⟨(some 7), .mov (.t 34), none⟩])
   (.ret))
   (.skip))))
  (.seq (.block 0 (.seq (.region false [⟨(some 36), .fldA 0 (.t 4), none⟩,
    ⟨(some 37), .ld none (.t 36), none⟩,
    ⟨(some 38), .fldA 0 (.t 5), none⟩,
    ⟨(some 39), .ld none (.t 38), none⟩,
    ⟨(some 40), .bin .neq (.t 37) (.t 39), none⟩,
    ⟨(some 35), .mov (.t 40), none⟩])
  (.cond (.t 35)
   (.seq (.region false [⟨(some 41), .ld (some 3) (.t 8), none⟩,
     ⟨none, .st 3 (.t 6) (.t 41), none⟩,
     ⟨(some 7), .mov (.c (.int .i64 21)), none⟩])
   (.ret))
   (.seq (.region false [⟨(some 43), .fldA 1 (.t 4), none⟩,
     ⟨(some 44), .ld none (.t 43), none⟩,
     ⟨(some 45), .fldA 1 (.t 5), none⟩,
     ⟨(some 46), .ld none (.t 45), none⟩,
     ⟨(some 47), .bin .neq (.t 44) (.t 46), none⟩,
     ⟨(some 42), .mov (.t 47), none⟩])
   (.cond (.t 42)
    (.seq (.region false [⟨(some 48), .ld (some 3) (.t 8), none⟩,
      ⟨none, .st 3 (.t 6) (.t 48), none⟩,
      ⟨(some 7), .mov (.c (.int .i64 22)), none⟩])
    (.ret))
    (.skip))))))
  (.seq (.region false [⟨(some 49), .ld (some 3) (.t 8), none⟩,
    ⟨none, .st 3 (.t 6) (.t 49), none⟩,
    ⟨(some 7), .mov (.c (.int .i64 0)), none⟩])
  (.ret))))))),
  [.cell (some 3) 6, .tmp 7]⟩

/- types_order_join -/
def A_types_order_join : AFun := ⟨24,
  .seq (.region false [⟨(some 3), .box (.t 0), none⟩,
    ⟨(some 6), .mov (.c (.int .i64 0)), none⟩])
  (.seq (.region true [⟨(some 7), .fldA 0 (.t 3), none⟩,
    ⟨(some 8), .fldA 1 (.t 7), none⟩,
    ⟨(some 9), .ld none (.t 8), none⟩,
    ⟨(some 10), .fldA 0 (.t 3), none⟩,
    ⟨(some 11), .fldA 1 (.t 10), none⟩,
    ⟨(some 12), .ld none (.t 11), none⟩,
    ⟨(some 13), .mov (.t 1), none⟩,
    ⟨(some 14), .idxA 1 (.t 12) (.t 13), none⟩,
    ⟨(some 15), .ld none (.t 14), none⟩,
    ⟨(some 16), .fldA 0 (.t 3), none⟩,
    ⟨(some 17), .fldA 1 (.t 16), none⟩,
    ⟨(some 18), .ld none (.t 17), none⟩,
    ⟨(some 19), .mov (.t 2), none⟩,
    ⟨(some 20), .idxA 1 (.t 18) (.t 19), none⟩,
    ⟨(some 21), .ld none (.t 20), none⟩,
    ⟨(some 22), .bin .and (.t 15) (.t 21), none⟩,
    ⟨(some 23), .call F_slices_Index_uint8_uint8 [(.t 9), (.t 22)], none⟩,
    ⟨(some 6), .mov (.t 23), none⟩])
  (.ret)),
  [.tmp 6]⟩

/- lattice_named -/
def A_lattice_namedL0 : ACode :=
  .seq (.region false [⟨(some 17), .bin .lss (.t 16) (.t 15), none⟩])
  (.seq (.cond (.t 17)
   (.skip)
   (.exit 0))
  (.seq (.block 1 (.seq (.region false [⟨(some 18), .mov (.t 16), none⟩,
    ⟨(some 19), .idxA 1 (.t 14) (.t 16), none⟩,
    ⟨(some 20), .ld none (.t 19), none⟩,
    ⟨(some 4), .mov (.t 18), none⟩,
    ⟨(some 5), .mov (.t 20), none⟩])
  (.block 2 (.seq (.region false [⟨(some 22), .mov (.t 5), none⟩,
    ⟨(some 23), .call F_words_Name [(.t 22)], none⟩,
    ⟨(some 24), .not (.t 23), none⟩,
    ⟨(some 21), .mov (.t 24), none⟩])
  (.cond (.t 21)
   (.seq (.region false [⟨(some 25), .mov (.t 4), none⟩,
     ⟨(some 2), .mov (.t 25), none⟩,
     ⟨(some 3), .mov (.c (.int .i64 6)), none⟩])
   (.ret))
   (.seq (.region false [⟨(some 27), .mov (.t 0), none⟩,
     ⟨(some 28), .mov (.t 4), none⟩,
     ⟨(some 29), .sls 1 (.t 27) none (some (.t 28)) none, none⟩,
     ⟨(some 30), .mov (.t 5), none⟩,
     ⟨(some 31), .call F_slices_Contains_string_string [(.t 29), (.t 30)], none⟩,
     ⟨(some 26), .mov (.t 31), none⟩])
   (.cond (.t 26)
    (.seq (.region false [⟨(some 32), .mov (.t 4), none⟩,
      ⟨(some 2), .mov (.t 32), none⟩,
      ⟨(some 3), .mov (.c (.int .i64 8)), none⟩])
    (.ret))
    (.skip))))))))
  (.region false [⟨(some 33), .bin .add (.t 16) (.c (.int .i64 1)), none⟩,
    ⟨(some 16), .mov (.t 33), none⟩])))
def A_lattice_named : AFun := ⟨34,
  .seq (.region false [⟨(some 2), .mov (.c (.int .i64 0)), none⟩,
    ⟨(some 3), .mov (.c (.int .i64 0)), none⟩])
  (.seq (.seq (.region false [⟨(some 6), .mov (.t 0), none⟩,
    ⟨(some 7), .len (.t 6), none⟩,
    ⟨(some 8), .bin .lss (.t 7) (.c (.int .i64 1)), none⟩,
    ⟨(some 9), .mov (.t 8), none⟩,
    ⟨(some 10), .mov (.t 0), some (9, false)⟩,
    ⟨(some 11), .len (.t 10), some (9, false)⟩,
    ⟨(some 12), .bin .gtr (.t 11) (.c (.int .i64 8)), some (9, false)⟩,
    ⟨(some 13), .pick (.t 9) (.c (.bool true)) (.t 12), none⟩])
  (.cond (.t 13)
   (.seq (.region false [⟨(some 2), .mov (.c (.int .i64 (-1))), none⟩,
     ⟨(some 3), .mov (.c (.int .i64 3)), none⟩])
   (.ret))
   (.skip)))
  (.seq (.seq (.region false [⟨(some 14), .mov (.t 0), none⟩,
    ⟨(some 15), .len (.t 14), none⟩,
    ⟨(some 16), .mov (.c (.int .i64 0)), none⟩])
  (.block 0 (.loop A_lattice_namedL0)))
  (.seq (.region false [⟨(some 2), .mov (.c (.int .i64 0)), none⟩,
    ⟨(some 3), .mov (.c (.int .i64 0)), none⟩])
  (.ret)))),
  [.tmp 2, .tmp 3]⟩

/- bits_Len8 -/
def S_bits_Len8 : List UInt8 := [0, 1, 2, 2, 3, 3, 3, 3, 4, 4, 4, 4, 4, 4, 4, 4, 5, 5, 5, 5, 5, 5, 5, 5, 5, 5, 5, 5, 5, 5, 5, 5, 6, 6, 6, 6, 6, 6, 6, 6, 6, 6, 6, 6, 6, 6, 6, 6, 6, 6, 6, 6, 6, 6, 6, 6, 6, 6, 6, 6, 6, 6, 6, 6, 7, 7, 7, 7, 7, 7, 7, 7, 7, 7, 7, 7, 7, 7, 7, 7, 7, 7, 7, 7, 7, 7, 7, 7, 7, 7, 7, 7, 7, 7, 7, 7, 7, 7, 7, 7, 7, 7, 7, 7, 7, 7, 7, 7, 7, 7, 7, 7, 7, 7, 7, 7, 7, 7, 7, 7, 7, 7, 7, 7, 7, 7, 7, 7, 8, 8, 8, 8, 8, 8, 8, 8, 8, 8, 8, 8, 8, 8, 8, 8, 8, 8, 8, 8, 8, 8, 8, 8, 8, 8, 8, 8, 8, 8, 8, 8, 8, 8, 8, 8, 8, 8, 8, 8, 8, 8, 8, 8, 8, 8, 8, 8, 8, 8, 8, 8, 8, 8, 8, 8, 8, 8, 8, 8, 8, 8, 8, 8, 8, 8, 8, 8, 8, 8, 8, 8, 8, 8, 8, 8, 8, 8, 8, 8, 8, 8, 8, 8, 8, 8, 8, 8, 8, 8, 8, 8, 8, 8, 8, 8, 8, 8, 8, 8, 8, 8, 8, 8, 8, 8, 8, 8, 8, 8, 8, 8, 8, 8, 8, 8, 8, 8, 8, 8, 8, 8, 8, 8, 8, 8, 8, 8]
def A_bits_Len8 : AFun := ⟨6,
  .seq (.region false [⟨(some 2), .mov (.c (.int .i64 0)), none⟩])
  (.seq (.region false [⟨(some 3), .mov (.t 0), none⟩,
    ⟨(some 4), .idxS (.c (.str S_bits_Len8)) (.t 3), none⟩,
    ⟨(some 5), .conv .i64 (.t 4), none⟩,
    ⟨(some 2), .mov (.t 5), none⟩])
  (.ret)),
  [.tmp 2]⟩

/- lattice_of -/
def A_lattice_ofL1 : ACode :=
  .seq (.region false [⟨(some 30), .bin .lss (.t 29) (.t 28), none⟩])
  (.seq (.cond (.t 30)
   (.skip)
   (.exit 2))
  (.seq (.block 3 (.seq (.region false [⟨(some 31), .mov (.t 29), none⟩,
    ⟨(some 6), .mov (.t 31), none⟩])
  (.region true [⟨(some 32), .mov (.t 6), none⟩,
    ⟨(some 33), .fldA 9 (.t 3), none⟩,
    ⟨(some 34), .idxP 8 1 (.t 33) (.t 32), none⟩,
    ⟨(some 35), .ld none (.t 34), none⟩,
    ⟨(some 36), .mov (.t 5), none⟩,
    ⟨(some 37), .mov (.t 6), none⟩,
    ⟨(some 38), .bin .shr (.t 36) (.t 37), none⟩,
    ⟨(some 39), .bin .and (.t 38) (.c (.int .u8 1)), none⟩,
    ⟨(some 40), .mov (.t 4), none⟩,
    ⟨(some 41), .bin .shl (.t 39) (.t 40), none⟩,
    ⟨(some 42), .bin .or (.t 35) (.t 41), none⟩,
    ⟨(some 43), .fldA 9 (.t 3), none⟩,
    ⟨(some 44), .idxP 8 1 (.t 43) (.t 32), none⟩,
    ⟨none, .st 1 (.t 44) (.t 42), none⟩])))
  (.region false [⟨(some 45), .bin .add (.t 29) (.c (.int .i64 1)), none⟩,
    ⟨(some 29), .mov (.t 45), none⟩])))
def A_lattice_ofL0 : ACode :=
  .seq (.region false [⟨(some 19), .bin .lss (.t 18) (.t 17), none⟩])
  (.seq (.cond (.t 19)
   (.skip)
   (.exit 0))
  (.seq (.block 1 (.seq (.region false [⟨(some 20), .mov (.t 18), none⟩,
    ⟨(some 21), .idxA 1 (.t 16) (.t 18), none⟩,
    ⟨(some 22), .ld none (.t 21), none⟩,
    ⟨(some 4), .mov (.t 20), none⟩,
    ⟨(some 5), .mov (.t 22), none⟩])
  (.seq (.region false [⟨(some 23), .mov (.t 4), none⟩,
    ⟨(some 24), .mov (.t 5), none⟩,
    ⟨(some 25), .fldA 1 (.t 3), none⟩,
    ⟨(some 26), .idxP 8 1 (.t 25) (.t 23), none⟩,
    ⟨none, .st 1 (.t 26) (.t 24), none⟩])
  (.seq (.region false [⟨(some 27), .fldA 0 (.t 3), none⟩,
    ⟨(some 28), .ld none (.t 27), none⟩,
    ⟨(some 29), .mov (.c (.int .i64 0)), none⟩])
  (.block 2 (.loop A_lattice_ofL1))))))
  (.region false [⟨(some 46), .bin .add (.t 18) (.c (.int .i64 1)), none⟩,
    ⟨(some 18), .mov (.t 46), none⟩])))
def A_lattice_of : AFun := ⟨48,
  .seq (.region false [⟨(some 2), .alloc [.int .i64 0, .int .u8 0, .int .u8 0, .int .u8 0, .int .u8 0, .int .u8 0, .int .u8 0, .int .u8 0, .int .u8 0, .int .u8 0, .int .u8 0, .int .u8 0, .int .u8 0, .int .u8 0, .int .u8 0, .int .u8 0, .int .u8 0], none⟩])
  (.seq (.region false [⟨(some 7), .mov (.t 0), none⟩,
    ⟨(some 8), .nck (.t 7), none⟩,
    ⟨(some 9), .fldA 0 (.t 8), none⟩,
    ⟨(some 10), .ld none (.t 9), none⟩,
    ⟨(some 11), .len (.t 10), none⟩,
    ⟨(some 12), .build [.int .i64 0, .int .u8 0, .int .u8 0, .int .u8 0, .int .u8 0, .int .u8 0, .int .u8 0, .int .u8 0, .int .u8 0, .int .u8 0, .int .u8 0, .int .u8 0, .int .u8 0, .int .u8 0, .int .u8 0, .int .u8 0, .int .u8 0] [(0, 1, (.t 11))], none⟩,
    ⟨(some 3), .alloc [.int .i64 0, .int .u8 0, .int .u8 0, .int .u8 0, .int .u8 0, .int .u8 0, .int .u8 0, .int .u8 0, .int .u8 0, .int .u8 0, .int .u8 0, .int .u8 0, .int .u8 0, .int .u8 0, .int .u8 0, .int .u8 0, .int .u8 0], none⟩,
    ⟨none, .st 17 (.t 3) (.t 12), none⟩])
  (.seq (.seq (.region false [⟨(some 13), .mov (.t 0), none⟩,
    ⟨(some 14), .nck (.t 13), none⟩,
    ⟨(some 15), .fldA 1 (.t 14), none⟩,
    ⟨(some 16), .ld none (.t 15), none⟩,
    ⟨(some 17), .len (.t 16), none⟩,
    ⟨(some 18), .mov (.c (.int .i64 0)), none⟩])
  (.block 0 (.loop A_lattice_ofL0)))
  (.seq (.region false [⟨(some 47), .ld (some 17) (.t 3), none⟩,
    ⟨none, .st 17 (.t 2) (.t 47), none⟩])
  (.ret)))),
  [.cell (some 17) 2]⟩

/- lattice_bound_lattice_ups -/
def A_lattice_bound_lattice_upsL0 : ACode :=
  .seq (.region false [⟨(some 20), .bin .lss (.t 19) (.t 18), none⟩])
  (.seq (.cond (.t 20)
   (.skip)
   (.exit 0))
  (.seq (.block 1 (.seq (.region false [⟨(some 21), .mov (.t 19), none⟩,
    ⟨(some 10), .mov (.t 21), none⟩])
  (.seq (.region false [⟨(some 22), .mov (.t 9), none⟩,
    ⟨(some 23), .mov (.t 10), none⟩,
    ⟨(some 24), .bin .shr (.t 22) (.t 23), none⟩,
    ⟨(some 25), .bin .and (.t 24) (.c (.int .u8 1)), none⟩,
    ⟨(some 26), .bin .eql (.t 25) (.c (.int .u8 1)), none⟩,
    ⟨(some 27), .mov (.t 26), none⟩,
    ⟨(some 28), .mov (.t 10), some (27, true)⟩,
    ⟨(some 29), .idxP 8 1 (.t 4) (.t 28), some (27, true)⟩,
    ⟨(some 30), .ld none (.t 29), some (27, true)⟩,
    ⟨(some 31), .mov (.t 9), some (27, true)⟩,
    ⟨(some 32), .bin .eql (.t 30) (.t 31), some (27, true)⟩,
    ⟨(some 33), .pick (.t 27) (.t 32) (.c (.bool false)), none⟩])
  (.cond (.t 33)
   (.seq (.region false [⟨(some 34), .mov (.t 10), none⟩,
     ⟨(some 8), .mov (.t 34), none⟩])
   (.ret))
   (.skip)))))
  (.region false [⟨(some 35), .bin .add (.t 19) (.c (.int .i64 1)), none⟩,
    ⟨(some 19), .mov (.t 35), none⟩])))
def A_lattice_bound_lattice_ups : AFun := ⟨36,
  .seq (.region false [⟨(some 4), .box (.t 0), none⟩,
    ⟨(some 8), .mov (.c (.int .i64 0)), none⟩])
  (.seq (.region true [⟨(some 11), .mov (.t 2), none⟩,
    ⟨(some 12), .idxP 8 1 (.t 4) (.t 11), none⟩,
    ⟨(some 13), .ld none (.t 12), none⟩,
    ⟨(some 14), .mov (.t 3), none⟩,
    ⟨(some 15), .idxP 8 1 (.t 4) (.t 14), none⟩,
    ⟨(some 16), .ld none (.t 15), none⟩,
    ⟨(some 17), .bin .and (.t 13) (.t 16), none⟩,
    ⟨(some 9), .mov (.t 17), none⟩])
  (.seq (.seq (.region false [⟨(some 18), .mov (.t 1), none⟩,
    ⟨(some 19), .mov (.c (.int .i64 0)), none⟩])
  (.block 0 (.loop A_lattice_bound_lattice_upsL0)))
  (.seq (.region false [⟨(some 8), .mov (.c (.int .i64 (-1))), none⟩])
  (.ret)))),
  [.tmp 8]⟩

/- lattice_bound_lattice_downs -/
def A_lattice_bound_lattice_downsL0 : ACode :=
  .seq (.region false [⟨(some 20), .bin .lss (.t 19) (.t 18), none⟩])
  (.seq (.cond (.t 20)
   (.skip)
   (.exit 0))
  (.seq (.block 1 (.seq (.region false [⟨(some 21), .mov (.t 19), none⟩,
    ⟨(some 10), .mov (.t 21), none⟩])
  (.seq (.region false [⟨(some 22), .mov (.t 9), none⟩,
    ⟨(some 23), .mov (.t 10), none⟩,
    ⟨(some 24), .bin .shr (.t 22) (.t 23), none⟩,
    ⟨(some 25), .bin .and (.t 24) (.c (.int .u8 1)), none⟩,
    ⟨(some 26), .bin .eql (.t 25) (.c (.int .u8 1)), none⟩,
    ⟨(some 27), .mov (.t 26), none⟩,
    ⟨(some 28), .mov (.t 10), some (27, true)⟩,
    ⟨(some 29), .idxP 8 1 (.t 4) (.t 28), some (27, true)⟩,
    ⟨(some 30), .ld none (.t 29), some (27, true)⟩,
    ⟨(some 31), .mov (.t 9), some (27, true)⟩,
    ⟨(some 32), .bin .eql (.t 30) (.t 31), some (27, true)⟩,
    ⟨(some 33), .pick (.t 27) (.t 32) (.c (.bool false)), none⟩])
  (.cond (.t 33)
   (.seq (.region false [⟨(some 34), .mov (.t 10), none⟩,
     ⟨(some 8), .mov (.t 34), none⟩])
   (.ret))
   (.skip)))))
  (.region false [⟨(some 35), .bin .add (.t 19) (.c (.int .i64 1)), none⟩,
    ⟨(some 19), .mov (.t 35), none⟩])))
def A_lattice_bound_lattice_downs : AFun := ⟨36,
  .seq (.region false [⟨(some 4), .box (.t 0), none⟩,
    ⟨(some 8), .mov (.c (.int .i64 0)), none⟩])
  (.seq (.region true [⟨(some 11), .mov (.t 2), none⟩,
    ⟨(some 12), .idxP 8 1 (.t 4) (.t 11), none⟩,
    ⟨(some 13), .ld none (.t 12), none⟩,
    ⟨(some 14), .mov (.t 3), none⟩,
    ⟨(some 15), .idxP 8 1 (.t 4) (.t 14), none⟩,
    ⟨(some 16), .ld none (.t 15), none⟩,
    ⟨(some 17), .bin .and (.t 13) (.t 16), none⟩,
    ⟨(some 9), .mov (.t 17), none⟩])
  (.seq (.seq (.region false [⟨(some 18), .mov (.t 1), none⟩,
    ⟨(some 19), .mov (.c (.int .i64 0)), none⟩])
  (.block 0 (.loop A_lattice_bound_lattice_downsL0)))
  (.seq (.region false [⟨(some 8), .mov (.c (.int .i64 (-1))), none⟩])
  (.ret)))),
  [.tmp 8]⟩

/- lattice_end_lattice_ups -/
def A_lattice_end_lattice_upsL0 : ACode :=
  .seq (.seq (.region false [⟨(some 6), .mov (.t 5), none⟩,
    ⟨(some 7), .mov (.t 1), none⟩,
    ⟨(some 8), .bin .sub (.t 7) (.c (.int .i64 1)), none⟩,
    ⟨(some 9), .bin .lss (.t 6) (.t 8), none⟩,
    ⟨(some 10), .mov (.t 9), none⟩,
    ⟨(some 11), .mov (.t 5), some (10, true)⟩,
    ⟨(some 12), .idxP 8 1 (.t 2) (.t 11), some (10, true)⟩,
    ⟨(some 13), .ld none (.t 12), some (10, true)⟩,
    ⟨(some 14), .call F_bits_OnesCount8 [(.t 13)], some (10, true)⟩,
    ⟨(some 15), .mov (.t 1), some (10, true)⟩,
    ⟨(some 16), .bin .lss (.t 14) (.t 15), some (10, true)⟩,
    ⟨(some 17), .pick (.t 10) (.t 16) (.c (.bool false)), none⟩])
  (.cond (.t 17)
   (.skip)
   (.exit 0)))
  (.block 1 (.region false [⟨(some 18), .mov (.t 5), none⟩,
    ⟨(some 19), .bin .add (.t 18) (.c (.int .i64 1)), none⟩,
    ⟨(some 5), .mov (.t 19), none⟩]))
def A_lattice_end_lattice_ups : AFun := ⟨21,
  .seq (.region false [⟨(some 2), .box (.t 0), none⟩,
    ⟨(some 4), .mov (.c (.int .i64 0)), none⟩])
  (.seq (.region false [⟨(some 5), .mov (.c (.int .i64 0)), none⟩])
  (.seq (.block 0 (.loop A_lattice_end_lattice_upsL0))
  (.seq (.region false [⟨(some 20), .mov (.t 5), none⟩,
    ⟨(some 4), .mov (.t 20), none⟩])
  (.ret)))),
  [.tmp 4]⟩

/- utf8_ValidRune -/
/- ref01_Name -/
def A_ref01_NameL0 : ACode :=
  .seq (.seq (.region false [⟨(some 18), .mov (.t 3), none⟩,
    ⟨(some 19), .mov (.t 0), none⟩,
    ⟨(some 20), .lenS (.t 19), none⟩,
    ⟨(some 21), .bin .lss (.t 18) (.t 20), none⟩])
  (.cond (.t 21)
   (.skip)
   (.exit 0)))
  (.seq (.block 1 (.seq (.region false [⟨(some 24), .mov (.t 0), none⟩,
    ⟨(some 25), .mov (.t 3), none⟩,
    ⟨(some 26), .idxS (.t 24) (.t 25), none⟩,
    ⟨(some 27), .call F_ref01_lower [(.t 26)], none⟩,
    ⟨(some 28), .not (.t 27), none⟩,
    ⟨(some 29), .mov (.t 28), none⟩,
    ⟨(some 30), .mov (.t 0), some (29, true)⟩,
    ⟨(some 31), .mov (.t 3), some (29, true)⟩,
    ⟨(some 32), .idxS (.t 30) (.t 31), some (29, true)⟩,
    ⟨(some 33), .call F_ref01_digit [(.t 32)], some (29, true)⟩,
    ⟨(some 34), .not (.t 33), some (29, true)⟩,
    ⟨(some 35), .pick (.t 29) (.t 34) (.c (.bool false)), none⟩,
    ⟨(some 36), .mov (.t 35), none⟩,
    ⟨(some 37), .mov (.t 0), some (36, true)⟩,
    ⟨(some 38), .mov (.t 3), some (36, true)⟩,
    ⟨(some 39), .idxS (.t 37) (.t 38), some (36, true)⟩,
    ⟨(some 40), .bin .neq (.t 39) (.c (.int .u8 45)), some (36, true)⟩,
    ⟨(some 41), .pick (.t 36) (.t 40) (.c (.bool false)), none⟩])
  (.cond (.t 41)
   (.seq (.region false [⟨(some 2), .mov (.c (.bool false)), none⟩])
   (.ret))
   (.skip))))
  (.region false [⟨(some 22), .mov (.t 3), none⟩,
    ⟨(some 23), .bin .add (.t 22) (.c (.int .i64 1)), none⟩,
    ⟨(some 3), .mov (.t 23), none⟩]))
def A_ref01_Name : AFun := ⟨42,
  .seq (.region false [⟨(some 2), .mov (.c (.bool false)), none⟩])
  (.seq (.seq (.region false [⟨(some 4), .mov (.t 0), none⟩,
    ⟨(some 5), .lenS (.t 4), none⟩,
    ⟨(some 6), .bin .lss (.t 5) (.c (.int .i64 1)), none⟩,
    ⟨(some 7), .mov (.t 6), none⟩,
    ⟨(some 8), .mov (.t 0), some (7, false)⟩,
    ⟨(some 9), .lenS (.t 8), some (7, false)⟩,
    ⟨(some 10), .bin .gtr (.t 9) (.c (.int .i64 16)), some (7, false)⟩,
    ⟨(some 11), .pick (.t 7) (.c (.bool true)) (.t 10), none⟩,
    ⟨(some 12), .mov (.t 11), none⟩,
    ⟨(some 13), .mov (.t 0), some (12, false)⟩,
    ⟨(some 14), .idxS (.t 13) (.c (.int .i64 0)), some (12, false)⟩,
    ⟨(some 15), .call F_ref01_lower [(.t 14)], some (12, false)⟩,
    ⟨(some 16), .not (.t 15), some (12, false)⟩,
    ⟨(some 17), .pick (.t 12) (.c (.bool true)) (.t 16), none⟩])
  (.cond (.t 17)
   (.seq (.region false [⟨(some 2), .mov (.c (.bool false)), none⟩])
   (.ret))
   (.skip)))
  (.seq (.seq (.region false [⟨(some 3), .mov (.c (.int .i64 0)), none⟩])
  (.block 0 (.loop A_ref01_NameL0)))
  (.seq (.region false [⟨(some 2), .mov (.c (.bool true)), none⟩])
  (.ret)))),
  [.tmp 2]⟩

/- slices_IndexFunc_int_int -/
def A_slices_IndexFunc_int_intL0 : ACode :=
  .seq (.region false [⟨(some 9), .bin .lss (.t 8) (.t 7), none⟩])
  (.seq (.cond (.t 9)
   (.skip)
   (.exit 0))
  (.seq (.block 1 (.seq (.region false [⟨(some 10), .mov (.t 8), none⟩,
    ⟨(some 5), .mov (.t 10), none⟩])
  (.seq (.region false [⟨(some 11), .mov (.t 1), none⟩,
    ⟨(some 12), .mov (.t 0), none⟩,
    ⟨(some 13), .mov (.t 5), none⟩,
    ⟨(some 14), .idxA 1 (.t 12) (.t 13), none⟩,
    ⟨(some 15), .ld none (.t 14), none⟩,
    ⟨(some 16), .callv (.t 11) [(.t 15)], none⟩])
  (.cond (.t 16)
   (.seq (.region false [⟨(some 17), .mov (.t 5), none⟩,
     ⟨(some 4), .mov (.t 17), none⟩])
   (.ret))
   (.skip)))))
  (.region false [⟨(some 18), .bin .add (.t 8) (.c (.int .i64 1)), none⟩,
    ⟨(some 8), .mov (.t 18), none⟩])))
def A_slices_IndexFunc_int_int : AFun := ⟨19,
  .seq (.region false [⟨(some 4), .mov (.c (.int .i64 0)), none⟩])
  (.seq (.seq (.region false [⟨(some 6), .mov (.t 0), none⟩,
    ⟨(some 7), .len (.t 6), none⟩,
    ⟨(some 8), .mov (.c (.int .i64 0)), none⟩])
  (.block 0 (.loop A_slices_IndexFunc_int_intL0)))
  (.seq (.region false [⟨(some 4), .mov (.c (.int .i64 (-1))), none⟩])
  (.ret))),
  [.tmp 4]⟩

/- words_fields_1 -/
def A_words_fields_1J0 : ACode :=
  .seq (.region false [⟨(some 6), .ld none (.t 1), none⟩,
    ⟨(some 3), .mov (.t 6), none⟩])
  (.seq (.region false [⟨(some 4), .alloc [.str [], .bool false], none⟩])
  (.seq (.region false [⟨(some 5), .mov (.c (.int .i64 0)), none⟩])
  (.seq (.label 1)
  (.seq (.seq (.region false [⟨(some 8), .mov (.t 3), none⟩,
    ⟨(some 9), .call F_words_unquote [(.t 8)], none⟩,
    ⟨(some 7), .mov (.t 9), none⟩,
    ⟨(some 10), .extr (.t 7) 0, none⟩,
    ⟨(some 11), .extr (.t 7) 1, none⟩,
    ⟨(some 12), .fldA 0 (.t 4), none⟩,
    ⟨none, .st 1 (.t 12) (.t 10), none⟩,
    ⟨(some 5), .mov (.t 11), none⟩])
  (.seq (.region false [⟨(some 13), .mov (.t 5), none⟩,
    ⟨(some 14), .bin .gtr (.t 13) (.c (.int .i64 0)), none⟩])
  (.cond (.t 14)
   (.seq (.region false [⟨(some 15), .fldA 1 (.t 4), none⟩,
     ⟨none, .st 1 (.t 15) (.c (.bool true)), none⟩])
   (.goto 0))
   (.skip))))
  (.seq (.region false [⟨(some 16), .fldA 1 (.t 4), none⟩,
    ⟨none, .st 1 (.t 16) (.c (.bool false)), none⟩])
  (.seq (.region false [⟨(some 18), .mov (.t 3), none⟩,
    ⟨(some 19), .call F_strings_Cut [(.t 18), (.c (.str [32]))], none⟩,
    ⟨(some 17), .mov (.t 19), none⟩,
    ⟨(some 20), .extr (.t 17) 0, none⟩,
    ⟨(some 21), .extr (.t 17) 1, none⟩,
    ⟨(some 22), .extr (.t 17) 2, none⟩,
    ⟨(some 23), .fldA 0 (.t 4), none⟩,
    ⟨none, .st 1 (.t 23) (.t 20), none⟩])
  (.seq (.region false [⟨(some 24), .fldA 0 (.t 4), none⟩,
    ⟨(some 25), .ld none (.t 24), none⟩,
    ⟨(some 26), .lenS (.t 25), none⟩,
    ⟨(some 5), .mov (.t 26), none⟩])
  (.seq (.seq (.region false [⟨(some 27), .fldA 0 (.t 4), none⟩,
    ⟨(some 28), .ld none (.t 27), none⟩,
    ⟨(some 29), .call F_words_isBare [(.t 28)], none⟩,
    ⟨(some 30), .not (.t 29), none⟩])
  (.cond (.t 30)
   (.seq (.region false [⟨(some 31), .mov (.t 0), none⟩,
     ⟨(some 32), .build [.str [], .bool false] [], none⟩,
     ⟨(some 33), .callv (.t 31) [(.t 32), (.c (.bool false))], none⟩])
   (.ret))
   (.skip)))
  (.seq (.label 0)
  (.seq (.region false [⟨(some 34), .mov (.t 3), none⟩,
    ⟨(some 35), .mov (.t 5), none⟩,
    ⟨(some 36), .ssl (.t 34) (some (.t 35)) none, none⟩,
    ⟨(some 3), .mov (.t 36), none⟩])
  (.seq (.seq (.region false [⟨(some 37), .mov (.t 3), none⟩,
    ⟨(some 38), .bin .neq (.t 37) (.c (.str [])), none⟩,
    ⟨(some 39), .mov (.t 38), none⟩,
    ⟨(some 40), .mov (.t 3), some (39, true)⟩,
    ⟨(some 41), .idxS (.t 40) (.c (.int .i64 0)), some (39, true)⟩,
    ⟨(some 42), .bin .neq (.t 41) (.c (.int .u8 32)), some (39, true)⟩,
    ⟨(some 43), .pick (.t 39) (.t 42) (.c (.bool false)), none⟩])
  (.cond (.t 43)
   (.seq (.region false [⟨(some 44), .mov (.t 0), none⟩,
     ⟨(some 45), .build [.str [], .bool false] [], none⟩,
     ⟨(some 46), .callv (.t 44) [(.t 45), (.c (.bool false))], none⟩])
   (.ret))
   (.skip)))
  (.seq (.seq (.region false [⟨(some 47), .mov (.t 0), none⟩,
    ⟨(some 48), .ld (some 2) (.t 4), none⟩,
    ⟨(some 49), .callv (.t 47) [(.t 48), (.c (.bool true))], none⟩,
    ⟨(some 50), .not (.t 49), none⟩,
    ⟨(some 51), .mov (.t 50), none⟩,
    ⟨(some 52), .mov (.t 3), some (51, false)⟩,
    ⟨(some 53), .bin .eql (.t 52) (.c (.str [])), some (51, false)⟩,
    ⟨(some 54), .pick (.t 51) (.c (.bool true)) (.t 53), none⟩])
  (.cond (.t 54)
   (.ret)
   (.skip)))
  (.seq (.region false [⟨(some 55), .mov (.t 3), none⟩,
    ⟨(some 56), .ssl (.t 55) (some (.c (.int .i64 1))) none, none⟩,
    ⟨(some 3), .mov (.t 56), none⟩])
  (.goto 1))))))))))))))
def A_words_fields_1 : AFun := ⟨57,
  .scopeJ A_words_fields_1J0,
  []⟩

/- words_unquote -/
def A_words_unquoteL0 : ACode :=
  .seq (.seq (.region false [⟨(some 16), .mov (.t 5), none⟩,
    ⟨(some 17), .mov (.t 0), none⟩,
    ⟨(some 18), .lenS (.t 17), none⟩,
    ⟨(some 19), .bin .lss (.t 16) (.t 18), none⟩])
  (.cond (.t 19)
   (.skip)
   (.exit 0)))
  (.seq (.block 1 (.seq (.region false [⟨(some 22), .mov (.t 0), none⟩,
    ⟨(some 23), .mov (.t 5), none⟩,
    ⟨(some 24), .idxS (.t 22) (.t 23), none⟩,
    ⟨(some 6), .mov (.t 24), none⟩])
  (.block 2 (.seq (.region false [⟨(some 26), .mov (.t 6), none⟩,
    ⟨(some 27), .bin .eql (.t 26) (.c (.int .u8 34)), none⟩,
    ⟨(some 25), .mov (.t 27), none⟩])
  (.cond (.t 25)
   (.seq (.region false [⟨(some 28), .mov (.t 4), none⟩,
     ⟨(some 29), .b2s (.t 28), none⟩,
     ⟨(some 30), .mov (.t 5), none⟩,
     ⟨(some 31), .bin .add (.t 30) (.c (.int .i64 1)), none⟩,
     ⟨(some 2), .mov (.t 29), none⟩,
     ⟨(some 3), .mov (.t 31), none⟩])
   (.ret))
   (.seq (.region false [⟨(some 33), .mov (.t 6), none⟩,
     ⟨(some 34), .bin .eql (.t 33) (.c (.int .u8 92)), none⟩,
     ⟨(some 32), .mov (.t 34), none⟩])
   (.cond (.t 32)
    (.seq (.region false [⟨(some 36), .mov (.t 0), none⟩,
      ⟨(some 37), .mov (.t 5), none⟩,
      ⟨(some 38), .bin .add (.t 37) (.c (.int .i64 1)), none⟩,
      ⟨(some 39), .ssl (.t 36) (some (.t 38)) none, none⟩,
      ⟨(some 40), .call F_words_unescape [(.t 39)], none⟩,
      ⟨(some 35), .mov (.t 40), none⟩,
      ⟨(some 41), .extr (.t 35) 0, none⟩,
      ⟨(some 42), .extr (.t 35) 1, none⟩,
      ⟨(some 7), .mov (.t 41), none⟩,
      ⟨(some 8), .mov (.t 42), none⟩])
    (.seq (.seq (.region false [⟨(some 43), .mov (.t 8), none⟩,
      ⟨(some 44), .bin .eql (.t 43) (.c (.int .i64 0)), none⟩])
    (.cond (.t 44)
     (.seq (.region false [⟨(some 2), .mov (.c (.str [])), none⟩,
       ⟨(some 3), .mov (.c (.int .i64 0)), none⟩])
     (.ret))
     (.skip)))
    (.seq (.region false [⟨(some 45), .mov (.t 4), none⟩,
      ⟨(some 46), .mov (.t 7), none⟩,
      ⟨(some 47), .bsl 1 (.int .u8 0) 1 [(0, (.t 46))], none⟩,
      ⟨(some 48), .app 1 1 (.t 45) (.t 47), none⟩,
      ⟨(some 4), .mov (.t 48), none⟩])
    (.region false [⟨(some 49), .mov (.t 5), none⟩,
      ⟨(some 50), .mov (.t 8), none⟩,
      ⟨(some 51), .bin .add (.t 49) (.t 50), none⟩,
      ⟨(some 5), .mov (.t 51), none⟩]))))
    (.seq (.region false [⟨(some 53), .mov (.t 6), none⟩,
      ⟨(some 54), .call F_words_isPlain [(.t 53)], none⟩,
      ⟨(some 52), .mov (.t 54), none⟩])
    (.cond (.t 52)
     (.region false [⟨(some 55), .mov (.t 4), none⟩,
       ⟨(some 56), .mov (.t 6), none⟩,
       ⟨(some 57), .bsl 1 (.int .u8 0) 1 [(0, (.t 56))], none⟩,
       ⟨(some 58), .app 1 1 (.t 55) (.t 57), none⟩,
       ⟨(some 4), .mov (.t 58), none⟩])
     (.seq (.region false [⟨(some 2), .mov (.c (.str [])), none⟩,
       ⟨(some 3), .mov (.c (.int .i64 0)), none⟩])
     (.ret)))))))))))
  (.region false [⟨(some 20), .mov (.t 5), none⟩,
    ⟨(some 21), .bin .add (.t 20) (.c (.int .i64 1)), none⟩,
    ⟨(some 5), .mov (.t 21), none⟩]))
def A_words_unquote : AFun := ⟨59,
  .seq (.region false [⟨(some 2), .mov (.c (.str [])), none⟩,
    ⟨(some 3), .mov (.c (.int .i64 0)), none⟩])
  (.seq (.seq (.region false [⟨(some 9), .mov (.t 0), none⟩,
    ⟨(some 10), .bin .eql (.t 9) (.c (.str [])), none⟩,
    ⟨(some 11), .mov (.t 10), none⟩,
    ⟨(some 12), .mov (.t 0), some (11, false)⟩,
    ⟨(some 13), .idxS (.t 12) (.c (.int .i64 0)), some (11, false)⟩,
    ⟨(some 14), .bin .neq (.t 13) (.c (.int .u8 34)), some (11, false)⟩,
    ⟨(some 15), .pick (.t 11) (.c (.bool true)) (.t 14), none⟩])
  (.cond (.t 15)
   (.seq (.region false [⟨(some 2), .mov (.c (.str [])), none⟩,
     ⟨(some 3), .mov (.c (.int .i64 0)), none⟩])
   (.ret))
   (.skip)))
  (.seq (.region false [⟨(some 4), .mov (.c (.sl .ex [])), none⟩])
  (.seq (.seq (.region false [⟨(some 5), .mov (.c (.int .i64 1)), none⟩])
  (.block 0 (.loop A_words_unquoteL0)))
  (.seq (.region false [⟨(some 2), .mov (.c (.str [])), none⟩,
    ⟨(some 3), .mov (.c (.int .i64 0)), none⟩])
  (.ret))))),
  [.tmp 2, .tmp 3]⟩

/- strings_Cut -/
def A_strings_Cut : AFun := ⟨13,
  .seq (.region false [⟨(some 4), .mov (.c (.str [])), none⟩,
    ⟨(some 5), .mov (.c (.str [])), none⟩,
    ⟨(some 6), .mov (.c (.bool false)), none⟩])
  (.seq (.region false [⟨(some 7), .mov (.t 0), none⟩,
    ⟨(some 8), .mov (.t 1), none⟩,
    ⟨(some 9), .call F_stringslite_Cut [(.t 7), (.t 8)], none⟩,
    ⟨(some 10), .extr (.t 9) 0, none⟩,
    ⟨(some 11), .extr (.t 9) 1, none⟩,
    ⟨(some 12), .extr (.t 9) 2, none⟩,
    ⟨(some 4), .mov (.t 10), none⟩,
    ⟨(some 5), .mov (.t 11), none⟩,
    ⟨(some 6), .mov (.t 12), none⟩])
  (.ret)),
  [.tmp 4, .tmp 5, .tmp 6]⟩

/- words_isBare -/
def A_words_isBareL0 : ACode :=
  .seq (.region false [⟨(some 7), .bin .lss (.t 6) (.t 5), none⟩])
  (.seq (.cond (.t 7)
   (.skip)
   (.exit 0))
  (.seq (.block 1 (.seq (.region false [⟨(some 8), .mov (.t 6), none⟩,
    ⟨(some 3), .mov (.t 8), none⟩])
  (.seq (.region false [⟨(some 9), .mov (.t 0), none⟩,
    ⟨(some 10), .mov (.t 3), none⟩,
    ⟨(some 11), .idxS (.t 9) (.t 10), none⟩,
    ⟨(some 12), .call F_words_isPlain [(.t 11)], none⟩,
    ⟨(some 13), .not (.t 12), none⟩,
    ⟨(some 14), .mov (.t 13), none⟩,
    ⟨(some 15), .mov (.t 0), some (14, false)⟩,
    ⟨(some 16), .mov (.t 3), some (14, false)⟩,
    ⟨(some 17), .idxS (.t 15) (.t 16), some (14, false)⟩,
    ⟨(some 18), .bin .eql (.t 17) (.c (.int .u8 32)), some (14, false)⟩,
    ⟨(some 19), .pick (.t 14) (.c (.bool true)) (.t 18), none⟩])
  (.cond (.t 19)
   (.seq (.region false [⟨(some 2), .mov (.c (.bool false)), none⟩])
   (.ret))
   (.skip)))))
  (.region false [⟨(some 20), .bin .add (.t 6) (.c (.int .i64 1)), none⟩,
    ⟨(some 6), .mov (.t 20), none⟩])))
def A_words_isBare : AFun := ⟨23,
  .seq (.region false [⟨(some 2), .mov (.c (.bool false)), none⟩])
  (.seq (.seq (.region false [⟨(some 4), .mov (.t 0), none⟩,
    ⟨(some 5), .lenS (.t 4), none⟩,
    ⟨(some 6), .mov (.c (.int .i64 0)), none⟩])
  (.block 0 (.loop A_words_isBareL0)))
  (.seq (.region false [⟨(some 21), .mov (.t 0), none⟩,
    ⟨(some 22), .bin .neq (.t 21) (.c (.str [])), none⟩,
    ⟨(some 2), .mov (.t 22), none⟩])
  (.ret))),
  [.tmp 2]⟩

/- strings_TrimPrefix -/
def A_strings_TrimPrefix : AFun := ⟨8,
  .seq (.region false [⟨(some 4), .mov (.c (.str [])), none⟩])
  (.seq (.region false [⟨(some 5), .mov (.t 0), none⟩,
    ⟨(some 6), .mov (.t 1), none⟩,
    ⟨(some 7), .call F_stringslite_TrimPrefix [(.t 5), (.t 6)], none⟩,
    ⟨(some 4), .mov (.t 7), none⟩])
  (.ret)),
  [.tmp 4]⟩

/- strings_Trim -/
def A_strings_Trim : AFun := ⟨43,
  .seq (.region false [⟨(some 4), .mov (.c (.str [])), none⟩])
  (.seq (.seq (.region false [⟨(some 7), .mov (.t 0), none⟩,
    ⟨(some 8), .bin .eql (.t 7) (.c (.str [])), none⟩,
    ⟨(some 9), .mov (.t 8), none⟩,
    ⟨(some 10), .mov (.t 1), some (9, false)⟩,
    ⟨(some 11), .bin .eql (.t 10) (.c (.str [])), some (9, false)⟩,
    ⟨(some 12), .pick (.t 9) (.c (.bool true)) (.t 11), none⟩])
  (.cond (.t 12)
   (.seq (.region false [⟨(some 13), .mov (.t 0), none⟩,
     ⟨(some 4), .mov (.t 13), none⟩])
   (.ret))
   (.skip)))
  (.seq (.seq (.region false [⟨(some 14), .mov (.t 1), none⟩,
    ⟨(some 15), .lenS (.t 14), none⟩,
    ⟨(some 16), .bin .eql (.t 15) (.c (.int .i64 1)), none⟩,
    ⟨(some 17), .mov (.t 16), none⟩,
    ⟨(some 18), .mov (.t 1), some (17, true)⟩,
    ⟨(some 19), .idxS (.t 18) (.c (.int .i64 0)), some (17, true)⟩,
    ⟨(some 20), .bin .lss (.t 19) (.c (.int .u8 128)), some (17, true)⟩,
    ⟨(some 21), .pick (.t 17) (.t 20) (.c (.bool false)), none⟩])
  (.cond (.t 21)
   (.seq (.region true [⟨(some 22), .mov (.t 0), none⟩,
     ⟨(some 23), .mov (.t 1), none⟩,
     ⟨(some 24), .idxS (.t 23) (.c (.int .i64 0)), none⟩,
     ⟨(some 25), .call F_strings_trimRightByte [(.t 22), (.t 24)], none⟩,
     ⟨(some 26), .mov (.t 1), none⟩,
     ⟨(some 27), .idxS (.t 26) (.c (.int .i64 0)), none⟩,
     ⟨(some 28), .call F_strings_trimLeftByte [(.t 25), (.t 27)], none⟩,
     ⟨(some 4), .mov (.t 28), none⟩])
   (.ret))
   (.skip)))
  (.seq (.seq (.region false [⟨(some 30), .mov (.t 1), none⟩,
    ⟨(some 31), .call F_strings_makeASCIISet [(.t 30)], none⟩,
    ⟨(some 29), .mov (.t 31), none⟩,
    ⟨(some 32), .extr (.t 29) 0, none⟩,
    ⟨(some 33), .extr (.t 29) 1, none⟩,
    ⟨(some 5), .alloc (List.replicate 256 (.bool false)), none⟩,
    ⟨none, .st 256 (.t 5) (.t 32), none⟩,
    ⟨(some 6), .mov (.t 33), none⟩])
  (.seq (.region false [⟨(some 34), .mov (.t 6), none⟩])
  (.cond (.t 34)
   (.seq (.region false [⟨(some 35), .mov (.t 0), none⟩,
     ⟨(some 36), .call F_strings_trimRightASCII [(.t 35), (.t 5)], none⟩,
     ⟨(some 37), .call F_strings_trimLeftASCII [(.t 36), (.t 5)], none⟩,
     ⟨(some 4), .mov (.t 37), none⟩])
   (.ret))
   (.skip))))
  (.seq (.region false [⟨(some 38), .mov (.t 0), none⟩,
    ⟨(some 39), .mov (.t 1), none⟩,
    ⟨(some 40), .call F_strings_trimRightUnicode [(.t 38), (.t 39)], none⟩,
    ⟨(some 41), .mov (.t 1), none⟩,
    ⟨(some 42), .call F_strings_trimLeftUnicode [(.t 40), (.t 41)], none⟩,
    ⟨(some 4), .mov (.t 42), none⟩])
  (.ret))))),
  [.tmp 4]⟩

/- ref01_escaped -/
def A_ref01_escaped : AFun := ⟨33,
  .seq (.region false [⟨(some 2), .mov (.c (.str [])), none⟩])
  (.seq (.block 0 (.seq (.region false [⟨(some 4), .mov (.t 0), none⟩,
    ⟨(some 5), .call F_ref01_plain [(.t 4)], none⟩,
    ⟨(some 3), .mov (.t 5), none⟩])
  (.cond (.t 3)
   (.seq (.region false [⟨(some 6), .mov (.t 0), none⟩,
     ⟨(some 7), .bsl 1 (.int .u8 0) 1 [(0, (.t 6))], none⟩,
     ⟨(some 8), .b2s (.t 7), none⟩,
     ⟨(some 2), .mov (.t 8), none⟩])
   (.ret))
   (.seq (.region false [⟨(some 10), .mov (.t 0), none⟩,
     ⟨(some 11), .bin .eql (.t 10) (.c (.int .u8 34)), none⟩,
     ⟨(some 9), .mov (.t 11), none⟩])
   (.cond (.t 9)
    (.seq (.region false [⟨(some 2), .mov (.c (.str [92, 34])), none⟩])
    (.ret))
    (.seq (.region false [⟨(some 13), .mov (.t 0), none⟩,
      ⟨(some 14), .bin .eql (.t 13) (.c (.int .u8 92)), none⟩,
      ⟨(some 12), .mov (.t 14), none⟩])
    (.cond (.t 12)
     (.seq (.region false [⟨(some 2), .mov (.c (.str [92, 92])), none⟩])
     (.ret))
     (.seq (.region false [⟨(some 16), .mov (.t 0), none⟩,
       ⟨(some 17), .bin .eql (.t 16) (.c (.int .u8 10)), none⟩,
       ⟨(some 15), .mov (.t 17), none⟩])
     (.cond (.t 15)
      (.seq (.region false [⟨(some 2), .mov (.c (.str [92, 110])), none⟩])
      (.ret))
      (.seq (.region false [⟨(some 19), .mov (.t 0), none⟩,
        ⟨(some 20), .bin .eql (.t 19) (.c (.int .u8 13)), none⟩,
        ⟨(some 18), .mov (.t 20), none⟩])
      (.cond (.t 18)
       (.seq (.region false [⟨(some 2), .mov (.c (.str [92, 114])), none⟩])
       (.ret))
       (.seq (.region false [⟨(some 22), .mov (.t 0), none⟩,
         ⟨(some 23), .bin .eql (.t 22) (.c (.int .u8 9)), none⟩,
         ⟨(some 21), .mov (.t 23), none⟩])
       (.cond (.t 21)
        (.seq (.region false [⟨(some 2), .mov (.c (.str [92, 116])), none⟩])
        (.ret))
        (.skip))))))))))))))
  (.seq (.region false [⟨(some 24), .mov (.t 0), none⟩,
    ⟨(some 25), .bin .quo (.t 24) (.c (.int .u8 16)), none⟩,
    ⟨(some 26), .call F_ref01_hex [(.t 25)], none⟩,
    ⟨(some 27), .mov (.t 0), none⟩,
    ⟨(some 28), .bin .rem (.t 27) (.c (.int .u8 16)), none⟩,
    ⟨(some 29), .call F_ref01_hex [(.t 28)], none⟩,
    ⟨(some 30), .bsl 1 (.int .u8 0) 2 [(0, (.t 26)), (1, (.t 29))], none⟩,
    ⟨(some 31), .b2s (.t 30), none⟩,
    ⟨(some 32), .bin .add (.c (.str [92, 120])) (.t 31), none⟩,
    ⟨(some 2), .mov (.t 32), none⟩])
  (.ret))),
  [.tmp 2]⟩

/- ref01_plain -/
def A_ref01_plain : AFun := ⟨17,
  .seq (.region false [⟨(some 2), .mov (.c (.bool false)), none⟩])
  (.seq (.region false [⟨(some 3), .mov (.t 0), none⟩,
    ⟨(some 4), .bin .geq (.t 3) (.c (.int .u8 32)), none⟩,
    ⟨(some 5), .mov (.t 4), none⟩,
    ⟨(some 6), .mov (.t 0), some (5, true)⟩,
    ⟨(some 7), .bin .leq (.t 6) (.c (.int .u8 126)), some (5, true)⟩,
    ⟨(some 8), .pick (.t 5) (.t 7) (.c (.bool false)), none⟩,
    ⟨(some 9), .mov (.t 8), none⟩,
    ⟨(some 10), .mov (.t 0), some (9, true)⟩,
    ⟨(some 11), .bin .neq (.t 10) (.c (.int .u8 34)), some (9, true)⟩,
    ⟨(some 12), .pick (.t 9) (.t 11) (.c (.bool false)), none⟩,
    ⟨(some 13), .mov (.t 12), none⟩,
    ⟨(some 14), .mov (.t 0), some (13, true)⟩,
    ⟨(some 15), .bin .neq (.t 14) (.c (.int .u8 92)), some (13, true)⟩,
    ⟨(some 16), .pick (.t 13) (.t 15) (.c (.bool false)), none⟩,
    ⟨(some 2), .mov (.t 16), none⟩])
  (.ret)),
  [.tmp 2]⟩

/- ref01_digit -/
def A_ref01_digit : AFun := ⟨9,
  .seq (.region false [⟨(some 2), .mov (.c (.bool false)), none⟩])
  (.seq (.region false [⟨(some 3), .mov (.t 0), none⟩,
    ⟨(some 4), .bin .geq (.t 3) (.c (.int .u8 48)), none⟩,
    ⟨(some 5), .mov (.t 4), none⟩,
    ⟨(some 6), .mov (.t 0), some (5, true)⟩,
    ⟨(some 7), .bin .leq (.t 6) (.c (.int .u8 57)), some (5, true)⟩,
    ⟨(some 8), .pick (.t 5) (.t 7) (.c (.bool false)), none⟩,
    ⟨(some 2), .mov (.t 8), none⟩])
  (.ret)),
  [.tmp 2]⟩

/- slices_Index_uint8_uint8 -/
def A_slices_Index_uint8_uint8L0 : ACode :=
  .seq (.region false [⟨(some 9), .bin .lss (.t 8) (.t 7), none⟩])
  (.seq (.cond (.t 9)
   (.skip)
   (.exit 0))
  (.seq (.block 1 (.seq (.region false [⟨(some 10), .mov (.t 8), none⟩,
    ⟨(some 5), .mov (.t 10), none⟩])
  (.seq (.region false [⟨(some 11), .mov (.t 1), none⟩,
    ⟨(some 12), .mov (.t 0), none⟩,
    ⟨(some 13), .mov (.t 5), none⟩,
    ⟨(some 14), .idxA 1 (.t 12) (.t 13), none⟩,
    ⟨(some 15), .ld none (.t 14), none⟩,
    ⟨(some 16), .bin .eql (.t 11) (.t 15), none⟩])
  (.cond (.t 16)
   (.seq (.region false [⟨(some 17), .mov (.t 5), none⟩,
     ⟨(some 4), .mov (.t 17), none⟩])
   (.ret))
   (.skip)))))
  (.region false [⟨(some 18), .bin .add (.t 8) (.c (.int .i64 1)), none⟩,
    ⟨(some 8), .mov (.t 18), none⟩])))
def A_slices_Index_uint8_uint8 : AFun := ⟨19,
  .seq (.region false [⟨(some 4), .mov (.c (.int .i64 0)), none⟩])
  (.seq (.seq (.region false [⟨(some 6), .mov (.t 0), none⟩,
    ⟨(some 7), .len (.t 6), none⟩,
    ⟨(some 8), .mov (.c (.int .i64 0)), none⟩])
  (.block 0 (.loop A_slices_Index_uint8_uint8L0)))
  (.seq (.region false [⟨(some 4), .mov (.c (.int .i64 (-1))), none⟩])
  (.ret))),
  [.tmp 4]⟩

/- words_Name -/
def A_words_Name : AFun := ⟨23,
  .seq (.region false [⟨(some 2), .mov (.c (.bool false)), none⟩])
  (.seq (.seq (.region false [⟨(some 3), .mov (.t 0), none⟩,
    ⟨(some 4), .bin .eql (.t 3) (.c (.str [])), none⟩,
    ⟨(some 5), .mov (.t 4), none⟩,
    ⟨(some 6), .mov (.t 0), some (5, false)⟩,
    ⟨(some 7), .lenS (.t 6), some (5, false)⟩,
    ⟨(some 8), .bin .gtr (.t 7) (.c (.int .i64 16)), some (5, false)⟩,
    ⟨(some 9), .pick (.t 5) (.c (.bool true)) (.t 8), none⟩,
    ⟨(some 10), .mov (.t 9), none⟩,
    ⟨(some 11), .mov (.t 0), some (10, false)⟩,
    ⟨(some 12), .idxS (.t 11) (.c (.int .i64 0)), some (10, false)⟩,
    ⟨(some 13), .bin .lss (.t 12) (.c (.int .u8 97)), some (10, false)⟩,
    ⟨(some 14), .pick (.t 10) (.c (.bool true)) (.t 13), none⟩,
    ⟨(some 15), .mov (.t 14), none⟩,
    ⟨(some 16), .mov (.t 0), some (15, false)⟩,
    ⟨(some 17), .idxS (.t 16) (.c (.int .i64 0)), some (15, false)⟩,
    ⟨(some 18), .bin .gtr (.t 17) (.c (.int .u8 122)), some (15, false)⟩,
    ⟨(some 19), .pick (.t 15) (.c (.bool true)) (.t 18), none⟩])
  (.cond (.t 19)
   (.seq (.region false [⟨(some 2), .mov (.c (.bool false)), none⟩])
   (.ret))
   (.skip)))
  (.seq (.region false [⟨(some 20), .mov (.t 0), none⟩,
    ⟨(some 21), .call F_strings_Trim [(.t 20), (.c (.str [97, 98, 99, 100, 101, 102, 103, 104, 105, 106, 107, 108, 109, 110, 111, 112, 113, 114, 115, 116, 117, 118, 119, 120, 121, 122, 48, 49, 50, 51, 52, 53, 54, 55, 56, 57, 45]))], none⟩,
    ⟨(some 22), .bin .eql (.t 21) (.c (.str [])), none⟩,
    ⟨(some 2), .mov (.t 22), none⟩])
  (.ret))),
  [.tmp 2]⟩

/- slices_Contains_string_string -/
def A_slices_Contains_string_string : AFun := ⟨9,
  .seq (.region false [⟨(some 4), .mov (.c (.bool false)), none⟩])
  (.seq (.region false [⟨(some 5), .mov (.t 0), none⟩,
    ⟨(some 6), .mov (.t 1), none⟩,
    ⟨(some 7), .call F_slices_Index_string_string [(.t 5), (.t 6)], none⟩,
    ⟨(some 8), .bin .geq (.t 7) (.c (.int .i64 0)), none⟩,
    ⟨(some 4), .mov (.t 8), none⟩])
  (.ret)),
  [.tmp 4]⟩

/- bits_OnesCount8 -/
def S_bits_OnesCount8 : List UInt8 := [0, 1, 1, 2, 1, 2, 2, 3, 1, 2, 2, 3, 2, 3, 3, 4, 1, 2, 2, 3, 2, 3, 3, 4, 2, 3, 3, 4, 3, 4, 4, 5, 1, 2, 2, 3, 2, 3, 3, 4, 2, 3, 3, 4, 3, 4, 4, 5, 2, 3, 3, 4, 3, 4, 4, 5, 3, 4, 4, 5, 4, 5, 5, 6, 1, 2, 2, 3, 2, 3, 3, 4, 2, 3, 3, 4, 3, 4, 4, 5, 2, 3, 3, 4, 3, 4, 4, 5, 3, 4, 4, 5, 4, 5, 5, 6, 2, 3, 3, 4, 3, 4, 4, 5, 3, 4, 4, 5, 4, 5, 5, 6, 3, 4, 4, 5, 4, 5, 5, 6, 4, 5, 5, 6, 5, 6, 6, 7, 1, 2, 2, 3, 2, 3, 3, 4, 2, 3, 3, 4, 3, 4, 4, 5, 2, 3, 3, 4, 3, 4, 4, 5, 3, 4, 4, 5, 4, 5, 5, 6, 2, 3, 3, 4, 3, 4, 4, 5, 3, 4, 4, 5, 4, 5, 5, 6, 3, 4, 4, 5, 4, 5, 5, 6, 4, 5, 5, 6, 5, 6, 6, 7, 2, 3, 3, 4, 3, 4, 4, 5, 3, 4, 4, 5, 4, 5, 5, 6, 3, 4, 4, 5, 4, 5, 5, 6, 4, 5, 5, 6, 5, 6, 6, 7, 3, 4, 4, 5, 4, 5, 5, 6, 4, 5, 5, 6, 5, 6, 6, 7, 4, 5, 5, 6, 5, 6, 6, 7, 5, 6, 6, 7, 6, 7, 7, 8]
def A_bits_OnesCount8 : AFun := ⟨6,
  .seq (.region false [⟨(some 2), .mov (.c (.int .i64 0)), none⟩])
  (.seq (.region false [⟨(some 3), .mov (.t 0), none⟩,
    ⟨(some 4), .idxS (.c (.str S_bits_OnesCount8)) (.t 3), none⟩,
    ⟨(some 5), .conv .i64 (.t 4), none⟩,
    ⟨(some 2), .mov (.t 5), none⟩])
  (.ret)),
  [.tmp 2]⟩

/- ref01_lower -/
def A_ref01_lower : AFun := ⟨9,
  .seq (.region false [⟨(some 2), .mov (.c (.bool false)), none⟩])
  (.seq (.region false [⟨(some 3), .mov (.t 0), none⟩,
    ⟨(some 4), .bin .geq (.t 3) (.c (.int .u8 97)), none⟩,
    ⟨(some 5), .mov (.t 4), none⟩,
    ⟨(some 6), .mov (.t 0), some (5, true)⟩,
    ⟨(some 7), .bin .leq (.t 6) (.c (.int .u8 122)), some (5, true)⟩,
    ⟨(some 8), .pick (.t 5) (.t 7) (.c (.bool false)), none⟩,
    ⟨(some 2), .mov (.t 8), none⟩])
  (.ret)),
  [.tmp 2]⟩

/- words_unescape -/
def A_words_unescapeL0 : ACode :=
  .seq (.region false [⟨(some 13), .bin .lss (.t 12) (.c (.int .i64 5)), none⟩])
  (.seq (.cond (.t 13)
   (.skip)
   (.exit 0))
  (.seq (.block 1 (.seq (.region false [⟨(some 14), .idxG 5 2 (some 2) (.t 11) (.t 12), none⟩,
    ⟨(some 5), .alloc [.int .u8 0, .int .u8 0], none⟩,
    ⟨none, .st 2 (.t 5) (.t 14), none⟩])
  (.seq (.region true [⟨(some 15), .fldA 1 (.t 5), none⟩,
    ⟨(some 16), .ld none (.t 15), none⟩,
    ⟨(some 17), .mov (.t 0), none⟩,
    ⟨(some 18), .idxS (.t 17) (.c (.int .i64 0)), none⟩,
    ⟨(some 19), .bin .eql (.t 16) (.t 18), none⟩])
  (.cond (.t 19)
   (.seq (.region false [⟨(some 20), .fldA 0 (.t 5), none⟩,
     ⟨(some 21), .ld none (.t 20), none⟩,
     ⟨(some 2), .mov (.t 21), none⟩,
     ⟨(some 3), .mov (.c (.int .i64 1)), none⟩])
   (.ret))
   (.skip)))))
  (.region false [⟨(some 22), .bin .add (.t 12) (.c (.int .i64 1)), none⟩,
    ⟨(some 12), .mov (.t 22), none⟩])))
def A_words_unescape : AFun := ⟨56,
  .seq (.region false [⟨(some 2), .mov (.c (.int .u8 0)), none⟩,
    ⟨(some 3), .mov (.c (.int .i64 0)), none⟩])
  (.seq (.seq (.region false [⟨(some 9), .mov (.t 0), none⟩,
    ⟨(some 10), .bin .eql (.t 9) (.c (.str [])), none⟩])
  (.cond (.t 10)
   (.seq (.region false [⟨(some 2), .mov (.c (.int .u8 0)), none⟩,
     ⟨(some 3), .mov (.c (.int .i64 0)), none⟩])
   (.ret))
   (.skip)))
  (.seq (.seq (.region false [⟨(some 11), .ld (some 10) (.gl 1), none⟩,
    ⟨(some 12), .mov (.c (.int .i64 0)), none⟩])
  (.block 0 (.loop A_words_unescapeL0)))
  (.seq (.seq (.region false [⟨(some 23), .mov (.t 0), none⟩,
    ⟨(some 24), .idxS (.t 23) (.c (.int .i64 0)), none⟩,
    ⟨(some 25), .bin .neq (.t 24) (.c (.int .u8 120)), none⟩,
    ⟨(some 26), .mov (.t 25), none⟩,
    ⟨(some 27), .mov (.t 0), some (26, false)⟩,
    ⟨(some 28), .lenS (.t 27), some (26, false)⟩,
    ⟨(some 29), .bin .lss (.t 28) (.c (.int .i64 3)), some (26, false)⟩,
    ⟨(some 30), .pick (.t 26) (.c (.bool true)) (.t 29), none⟩])
  (.cond (.t 30)
   (.seq (.region false [⟨(some 2), .mov (.c (.int .u8 0)), none⟩,
     ⟨(some 3), .mov (.c (.int .i64 0)), none⟩])
   (.ret))
   (.skip)))
  (.seq (.region true [⟨(some 31), .mov (.t 0), none⟩,
    ⟨(some 32), .idxS (.t 31) (.c (.int .i64 1)), none⟩,
    ⟨(some 33), .call F_strings_IndexByte [(.c (.str [48, 49, 50, 51, 52, 53, 54, 55, 56, 57, 97, 98, 99, 100, 101, 102])), (.t 32)], none⟩,
    ⟨(some 34), .mov (.t 0), none⟩,
    ⟨(some 35), .idxS (.t 34) (.c (.int .i64 2)), none⟩,
    ⟨(some 36), .call F_strings_IndexByte [(.c (.str [48, 49, 50, 51, 52, 53, 54, 55, 56, 57, 97, 98, 99, 100, 101, 102])), (.t 35)], none⟩,
    ⟨(some 6), .mov (.t 33), none⟩,
    ⟨(some 7), .mov (.t 36), none⟩])
  (.seq (.seq (.region false [⟨(some 37), .mov (.t 6), none⟩,
    ⟨(some 38), .bin .lss (.t 37) (.c (.int .i64 0)), none⟩,
    ⟨(some 39), .mov (.t 38), none⟩,
    ⟨(some 40), .mov (.t 7), some (39, false)⟩,
    ⟨(some 41), .bin .lss (.t 40) (.c (.int .i64 0)), some (39, false)⟩,
    ⟨(some 42), .pick (.t 39) (.c (.bool true)) (.t 41), none⟩])
  (.cond (.t 42)
   (.seq (.region false [⟨(some 2), .mov (.c (.int .u8 0)), none⟩,
     ⟨(some 3), .mov (.c (.int .i64 0)), none⟩])
   (.ret))
   (.skip)))
  (.seq (.region false [⟨(some 43), .mov (.t 6), none⟩,
    ⟨(some 44), .bin .shl (.t 43) (.c (.int .u64 4)), none⟩,
    ⟨(some 45), .mov (.t 7), none⟩,
    ⟨(some 46), .bin .or (.t 44) (.t 45), none⟩,
    ⟨(some 47), .conv .u8 (.t 46), none⟩,
    ⟨(some 8), .mov (.t 47), none⟩])
  (.seq (.seq (.region false [⟨(some 48), .mov (.t 8), none⟩,
    ⟨(some 49), .call F_words_isPlain [(.t 48)], none⟩,
    ⟨(some 50), .mov (.t 49), none⟩,
    ⟨(some 51), .mov (.t 8), some (50, false)⟩,
    ⟨(some 52), .call F_words_letterOf [(.t 51)], some (50, false)⟩,
    ⟨(some 53), .bin .neq (.t 52) (.c (.int .u8 0)), some (50, false)⟩,
    ⟨(some 54), .pick (.t 50) (.c (.bool true)) (.t 53), none⟩])
  (.cond (.t 54)
   (.seq (.region false [⟨(some 2), .mov (.c (.int .u8 0)), none⟩,
     ⟨(some 3), .mov (.c (.int .i64 0)), none⟩])
   (.ret))
   (.skip)))
  (.seq (.region false [⟨(some 55), .mov (.t 8), none⟩,
    ⟨(some 2), .mov (.t 55), none⟩,
    ⟨(some 3), .mov (.c (.int .i64 3)), none⟩])
  (.ret))))))))),
  [.tmp 2, .tmp 3]⟩

/- words_isPlain -/
def A_words_isPlain : AFun := ⟨17,
  .seq (.region false [⟨(some 2), .mov (.c (.bool false)), none⟩])
  (.seq (.region false [⟨(some 3), .mov (.t 0), none⟩,
    ⟨(some 4), .bin .geq (.t 3) (.c (.int .u8 32)), none⟩,
    ⟨(some 5), .mov (.t 4), none⟩,
    ⟨(some 6), .mov (.t 0), some (5, true)⟩,
    ⟨(some 7), .bin .leq (.t 6) (.c (.int .u8 126)), some (5, true)⟩,
    ⟨(some 8), .pick (.t 5) (.t 7) (.c (.bool false)), none⟩,
    ⟨(some 9), .mov (.t 8), none⟩,
    ⟨(some 10), .mov (.t 0), some (9, true)⟩,
    ⟨(some 11), .bin .neq (.t 10) (.c (.int .u8 34)), some (9, true)⟩,
    ⟨(some 12), .pick (.t 9) (.t 11) (.c (.bool false)), none⟩,
    ⟨(some 13), .mov (.t 12), none⟩,
    ⟨(some 14), .mov (.t 0), some (13, true)⟩,
    ⟨(some 15), .bin .neq (.t 14) (.c (.int .u8 92)), some (13, true)⟩,
    ⟨(some 16), .pick (.t 13) (.t 15) (.c (.bool false)), none⟩,
    ⟨(some 2), .mov (.t 16), none⟩])
  (.ret)),
  [.tmp 2]⟩

/- stringslite_Cut -/
def A_stringslite_Cut : AFun := ⟨23,
  .seq (.region false [⟨(some 4), .mov (.c (.str [])), none⟩,
    ⟨(some 5), .mov (.c (.str [])), none⟩,
    ⟨(some 6), .mov (.c (.bool false)), none⟩])
  (.seq (.seq (.region false [⟨(some 8), .mov (.t 0), none⟩,
    ⟨(some 9), .mov (.t 1), none⟩,
    ⟨(some 10), .call F_stringslite_Index [(.t 8), (.t 9)], none⟩,
    ⟨(some 7), .mov (.t 10), none⟩])
  (.seq (.region false [⟨(some 11), .mov (.t 7), none⟩,
    ⟨(some 12), .bin .geq (.t 11) (.c (.int .i64 0)), none⟩])
  (.cond (.t 12)
   (.seq (.region true [⟨(some 13), .mov (.t 0), none⟩,
     ⟨(some 14), .mov (.t 7), none⟩,
     ⟨(some 15), .ssl (.t 13) none (some (.t 14)), none⟩,
     ⟨(some 16), .mov (.t 0), none⟩,
     ⟨(some 17), .mov (.t 7), none⟩,
     ⟨(some 18), .mov (.t 1), none⟩,
     ⟨(some 19), .lenS (.t 18), none⟩,
     ⟨(some 20), .bin .add (.t 17) (.t 19), none⟩,
     ⟨(some 21), .ssl (.t 16) (some (.t 20)) none, none⟩,
     ⟨(some 4), .mov (.t 15), none⟩,
     ⟨(some 5), .mov (.t 21), none⟩,
     ⟨(some 6), .mov (.c (.bool true)), none⟩])
   (.ret))
   (.skip))))
  (.seq (.region false [⟨(some 22), .mov (.t 0), none⟩,
    ⟨(some 4), .mov (.t 22), none⟩,
    ⟨(some 5), .mov (.c (.str [])), none⟩,
    ⟨(some 6), .mov (.c (.bool false)), none⟩])
  (.ret))),
  [.tmp 4, .tmp 5, .tmp 6]⟩

/- stringslite_TrimPrefix -/
def A_stringslite_TrimPrefix : AFun := ⟨13,
  .seq (.region false [⟨(some 4), .mov (.c (.str [])), none⟩])
  (.seq (.seq (.region false [⟨(some 5), .mov (.t 0), none⟩,
    ⟨(some 6), .mov (.t 1), none⟩,
    ⟨(some 7), .call F_stringslite_HasPrefix [(.t 5), (.t 6)], none⟩])
  (.cond (.t 7)
   (.seq (.region false [⟨(some 8), .mov (.t 0), none⟩,
     ⟨(some 9), .mov (.t 1), none⟩,
     ⟨(some 10), .lenS (.t 9), none⟩,
     ⟨(some 11), .ssl (.t 8) (some (.t 10)) none, none⟩,
     ⟨(some 4), .mov (.t 11), none⟩])
   (.ret))
   (.skip)))
  (.seq (.region false [⟨(some 12), .mov (.t 0), none⟩,
    ⟨(some 4), .mov (.t 12), none⟩])
  (.ret))),
  [.tmp 4]⟩

/- strings_trimLeftByte -/
/- strings_trimRightByte -/
/- strings_makeASCIISet -/
def A_strings_makeASCIISetL0 : ACode :=
  .seq (.seq (.region false [⟨(some 6), .mov (.t 4), none⟩,
    ⟨(some 7), .mov (.t 0), none⟩,
    ⟨(some 8), .lenS (.t 7), none⟩,
    ⟨(some 9), .bin .lss (.t 6) (.t 8), none⟩])
  (.cond (.t 9)
   (.skip)
   (.exit 0)))
  (.seq (.block 1 (.seq (.region false [⟨(some 12), .mov (.t 0), none⟩,
    ⟨(some 13), .mov (.t 4), none⟩,
    ⟨(some 14), .idxS (.t 12) (.t 13), none⟩,
    ⟨(some 5), .mov (.t 14), none⟩])
  (.seq (.seq (.region false [⟨(some 15), .mov (.t 5), none⟩,
    ⟨(some 16), .bin .geq (.t 15) (.c (.int .u8 128)), none⟩])
  (.cond (.t 16)
   (.seq (.region false [⟨(some 17), .ld (some 256) (.t 2), none⟩,
     ⟨none, .st 256 (.t 2) (.t 17), none⟩,
     ⟨(some 3), .mov (.c (.bool false)), none⟩])
   (.ret))
   (.skip)))
  (.region false [⟨(some 18), .mov (.t 5), none⟩,
    ⟨(some 19), .idxP 256 1 (.t 2) (.t 18), none⟩,
    ⟨none, .st 1 (.t 19) (.c (.bool true)), none⟩]))))
  (.region false [⟨(some 10), .mov (.t 4), none⟩,
    ⟨(some 11), .bin .add (.t 10) (.c (.int .i64 1)), none⟩,
    ⟨(some 4), .mov (.t 11), none⟩]))
def A_strings_makeASCIISet : AFun := ⟨21,
  .seq (.region false [⟨(some 2), .alloc (List.replicate 256 (.bool false)), none⟩,
    ⟨(some 3), .mov (.c (.bool false)), none⟩])
  (.seq (.seq (.region false [⟨(some 4), .mov (.c (.int .i64 0)), none⟩])
  (.block 0 (.loop A_strings_makeASCIISetL0)))
  (.seq (.region false [⟨(some 20), .ld (some 256) (.t 2), none⟩,
    ⟨none, .st 256 (.t 2) (.t 20), none⟩,
    ⟨(some 3), .mov (.c (.bool true)), none⟩])
  (.ret))),
  [.cell (some 256) 2, .tmp 3]⟩

/- strings_trimLeftASCII -/
def A_strings_trimLeftASCIIL0 : ACode :=
  .seq (.seq (.region false [⟨(some 5), .mov (.t 0), none⟩,
    ⟨(some 6), .lenS (.t 5), none⟩,
    ⟨(some 7), .bin .gtr (.t 6) (.c (.int .i64 0)), none⟩])
  (.cond (.t 7)
   (.skip)
   (.exit 0)))
  (.block 1 (.seq (.seq (.region false [⟨(some 8), .mov (.t 1), none⟩,
    ⟨(some 9), .mov (.t 0), none⟩,
    ⟨(some 10), .idxS (.t 9) (.c (.int .i64 0)), none⟩,
    ⟨(some 11), .call F_strings_asciiSet_contains [(.t 8), (.t 10)], none⟩,
    ⟨(some 12), .not (.t 11), none⟩])
  (.cond (.t 12)
   (.exit 0)
   (.skip)))
  (.region false [⟨(some 13), .mov (.t 0), none⟩,
    ⟨(some 14), .ssl (.t 13) (some (.c (.int .i64 1))) none, none⟩,
    ⟨(some 0), .mov (.t 14), none⟩])))
def A_strings_trimLeftASCII : AFun := ⟨16,
  .seq (.region false [⟨(some 4), .mov (.c (.str [])), none⟩])
  (.seq (.block 0 (.loop A_strings_trimLeftASCIIL0))
  (.seq (.region false [⟨(some 15), .mov (.t 0), none⟩,
    ⟨(some 4), .mov (.t 15), none⟩])
  (.ret))),
  [.tmp 4]⟩

/- strings_trimRightASCII -/
def A_strings_trimRightASCIIL0 : ACode :=
  .seq (.seq (.region false [⟨(some 5), .mov (.t 0), none⟩,
    ⟨(some 6), .lenS (.t 5), none⟩,
    ⟨(some 7), .bin .gtr (.t 6) (.c (.int .i64 0)), none⟩])
  (.cond (.t 7)
   (.skip)
   (.exit 0)))
  (.block 1 (.seq (.seq (.region false [⟨(some 8), .mov (.t 1), none⟩,
    ⟨(some 9), .mov (.t 0), none⟩,
    ⟨(some 10), .mov (.t 0), none⟩,
    ⟨(some 11), .lenS (.t 10), none⟩,
    ⟨(some 12), .bin .sub (.t 11) (.c (.int .i64 1)), none⟩,
    ⟨(some 13), .idxS (.t 9) (.t 12), none⟩,
    ⟨(some 14), .call F_strings_asciiSet_contains [(.t 8), (.t 13)], none⟩,
    ⟨(some 15), .not (.t 14), none⟩])
  (.cond (.t 15)
   (.exit 0)
   (.skip)))
  (.region false [⟨(some 16), .mov (.t 0), none⟩,
    ⟨(some 17), .mov (.t 0), none⟩,
    ⟨(some 18), .lenS (.t 17), none⟩,
    ⟨(some 19), .bin .sub (.t 18) (.c (.int .i64 1)), none⟩,
    ⟨(some 20), .ssl (.t 16) none (some (.t 19)), none⟩,
    ⟨(some 0), .mov (.t 20), none⟩])))
def A_strings_trimRightASCII : AFun := ⟨22,
  .seq (.region false [⟨(some 4), .mov (.c (.str [])), none⟩])
  (.seq (.block 0 (.loop A_strings_trimRightASCIIL0))
  (.seq (.region false [⟨(some 21), .mov (.t 0), none⟩,
    ⟨(some 4), .mov (.t 21), none⟩])
  (.ret))),
  [.tmp 4]⟩

/- strings_trimLeftUnicode -/
/- strings_trimRightUnicode -/
/- ref01_hex -/
def A_ref01_hex : AFun := ⟨5,
  .seq (.region false [⟨(some 2), .mov (.c (.int .u8 0)), none⟩])
  (.seq (.region false [⟨(some 3), .mov (.t 0), none⟩,
    ⟨(some 4), .idxS (.c (.str [48, 49, 50, 51, 52, 53, 54, 55, 56, 57, 97, 98, 99, 100, 101, 102])) (.t 3), none⟩,
    ⟨(some 2), .mov (.t 4), none⟩])
  (.ret)),
  [.tmp 2]⟩

/- strings_IndexByte -/
def A_strings_IndexByte : AFun := ⟨8,
  .seq (.region false [⟨(some 4), .mov (.c (.int .i64 0)), none⟩])
  (.seq (.region false [⟨(some 5), .mov (.t 0), none⟩,
    ⟨(some 6), .mov (.t 1), none⟩,
    ⟨(some 7), .call F_stringslite_IndexByte [(.t 5), (.t 6)], none⟩,
    ⟨(some 4), .mov (.t 7), none⟩])
  (.ret)),
  [.tmp 4]⟩

/- words_letterOf -/
def A_words_letterOfL0 : ACode :=
  .seq (.region false [⟨(some 7), .bin .lss (.t 6) (.c (.int .i64 5)), none⟩])
  (.seq (.cond (.t 7)
   (.skip)
   (.exit 0))
  (.seq (.block 1 (.seq (.region false [⟨(some 8), .idxG 5 2 (some 2) (.t 5) (.t 6), none⟩,
    ⟨(some 4), .alloc [.int .u8 0, .int .u8 0], none⟩,
    ⟨none, .st 2 (.t 4) (.t 8), none⟩])
  (.seq (.region false [⟨(some 9), .fldA 0 (.t 4), none⟩,
    ⟨(some 10), .ld none (.t 9), none⟩,
    ⟨(some 11), .mov (.t 0), none⟩,
    ⟨(some 12), .bin .eql (.t 10) (.t 11), none⟩])
  (.cond (.t 12)
   (.seq (.region false [⟨(some 13), .fldA 1 (.t 4), none⟩,
     ⟨(some 14), .ld none (.t 13), none⟩,
     ⟨(some 2), .mov (.t 14), none⟩])
   (.ret))
   (.skip)))))
  (.region false [⟨(some 15), .bin .add (.t 6) (.c (.int .i64 1)), none⟩,
    ⟨(some 6), .mov (.t 15), none⟩])))
def A_words_letterOf : AFun := ⟨16,
  .seq (.region false [⟨(some 2), .mov (.c (.int .u8 0)), none⟩])
  (.seq (.seq (.region false [⟨(some 5), .ld (some 10) (.gl 1), none⟩,
    ⟨(some 6), .mov (.c (.int .i64 0)), none⟩])
  (.block 0 (.loop A_words_letterOfL0)))
  (.seq (.region false [⟨(some 2), .mov (.c (.int .u8 0)), none⟩])
  (.ret))),
  [.tmp 2]⟩

/- stringslite_HasPrefix -/
def A_stringslite_HasPrefix : AFun := ⟨18,
  .seq (.region false [⟨(some 4), .mov (.c (.bool false)), none⟩])
  (.seq (.region false [⟨(some 5), .mov (.t 0), none⟩,
    ⟨(some 6), .lenS (.t 5), none⟩,
    ⟨(some 7), .mov (.t 1), none⟩,
    ⟨(some 8), .lenS (.t 7), none⟩,
    ⟨(some 9), .bin .geq (.t 6) (.t 8), none⟩,
    ⟨(some 10), .mov (.t 9), none⟩,
    ⟨(some 11), .mov (.t 0), some (10, true)⟩,
    ⟨(some 12), .mov (.t 1), some (10, true)⟩,
    ⟨(some 13), .lenS (.t 12), some (10, true)⟩,
    ⟨(some 14), .ssl (.t 11) none (some (.t 13)), some (10, true)⟩,
    ⟨(some 15), .mov (.t 1), some (10, true)⟩,
    ⟨(some 16), .bin .eql (.t 14) (.t 15), some (10, true)⟩,
    ⟨(some 17), .pick (.t 10) (.t 16) (.c (.bool false)), none⟩,
    ⟨(some 4), .mov (.t 17), none⟩])
  (.ret)),
  [.tmp 4]⟩

/- strings_asciiSet_contains -/
def A_strings_asciiSet_contains : AFun := ⟨10,
  .seq (.region false [⟨(some 4), .mov (.c (.bool false)), none⟩])
  (.seq (.region false [⟨(some 5), .mov (.t 0), none⟩,
    ⟨(some 6), .mov (.t 1), none⟩,
    ⟨(some 7), .nck (.t 5), none⟩,
    ⟨(some 8), .idxP 256 1 (.t 7) (.t 6), none⟩,
    ⟨(some 9), .ld none (.t 8), none⟩,
    ⟨(some 4), .mov (.t 9), none⟩])
  (.ret)),
  [.tmp 4]⟩

/- utf8_DecodeRuneInString -/
/- strings_ContainsRune -/
/- utf8_DecodeLastRuneInString -/
/- bytealg_Cutover -/
/- utf8_decodeRuneInStringSlow -/
/- strings_IndexRune -/
/- utf8_RuneStart -/
section
variable {X : Cx} (hX : X.P = Go.Proofs.Tryz.prog)
include hX
theorem A_ref03_downs_ok : compileFun X.P F_ref03_downs (fun _ => false) = some A_ref03_downs := by rw [hX]; kernel_rfl
theorem A_ref03_nearest_ok : compileFun X.P F_ref03_nearest (fun _ => false) = some A_ref03_nearest := by rw [hX]; kernel_rfl
theorem A_slices_ContainsFunc_int_int_ok : compileFun X.P F_slices_ContainsFunc_int_int (fun _ => false) = some A_slices_ContainsFunc_int_int := by rw [hX]; kernel_rfl
theorem A_types_order_check_1_ok : compileFun X.P F_types_order_check_1 (fun _ => false) = some A_types_order_check_1 := by rw [hX]; kernel_rfl
theorem A_ref03_Below_ok : compileFun X.P F_ref03_Below (fun _ => false) = some A_ref03_Below := by rw [hX]; kernel_rfl
theorem A_words_fields_ok : compileFun X.P F_words_fields (fun _ => false) = some A_words_fields := by rw [hX]; kernel_rfl
theorem A_slices_IndexFunc_api_Field_api_Field_ok : compileFun X.P F_slices_IndexFunc_api_Field_api_Field (fun _ => false) = some A_slices_IndexFunc_api_Field_api_Field := by rw [hX]; kernel_rfl
theorem A_words_isDecimal_ok : compileFun X.P F_words_isDecimal (fun _ => false) = some A_words_isDecimal := by rw [hX]; kernel_rfl
theorem A_lattice_asked_ok : compileFun X.P F_lattice_asked (fun _ => false) = some A_lattice_asked := by rw [hX]; kernel_rfl
theorem A_ref01_quoted_ok : compileFun X.P F_ref01_quoted (fun _ => false) = some A_ref01_quoted := by rw [hX]; kernel_rfl
theorem A_ref01_bare_ok : compileFun X.P F_ref01_bare (fun _ => false) = some A_ref01_bare := by rw [hX]; kernel_rfl
theorem A_ref01_decimal_ok : compileFun X.P F_ref01_decimal (fun _ => false) = some A_ref01_decimal := by rw [hX]; kernel_rfl
theorem A_types_both_ok : compileFun X.P F_types_both (fun _ => false) = some A_types_both := by rw [hX]; kernel_rfl
theorem A_types_order_join_ok : compileFun X.P F_types_order_join (fun _ => false) = some A_types_order_join := by rw [hX]; kernel_rfl
theorem A_lattice_named_ok : compileFun X.P F_lattice_named (fun _ => false) = some A_lattice_named := by rw [hX]; kernel_rfl
theorem A_bits_Len8_ok : compileFun X.P F_bits_Len8 (fun _ => false) = some A_bits_Len8 := by rw [hX]; kernel_rfl
theorem A_lattice_of_ok : compileFun X.P F_lattice_of (fun _ => false) = some A_lattice_of := by rw [hX]; kernel_rfl
theorem A_lattice_bound_lattice_ups_ok : compileFun X.P F_lattice_bound_lattice_ups (fun _ => false) = some A_lattice_bound_lattice_ups := by rw [hX]; kernel_rfl
theorem A_lattice_bound_lattice_downs_ok : compileFun X.P F_lattice_bound_lattice_downs (fun _ => false) = some A_lattice_bound_lattice_downs := by rw [hX]; kernel_rfl
theorem A_lattice_end_lattice_ups_ok : compileFun X.P F_lattice_end_lattice_ups (fun _ => false) = some A_lattice_end_lattice_ups := by rw [hX]; kernel_rfl
theorem A_ref01_Name_ok : compileFun X.P F_ref01_Name (fun _ => false) = some A_ref01_Name := by rw [hX]; kernel_rfl
theorem A_slices_IndexFunc_int_int_ok : compileFun X.P F_slices_IndexFunc_int_int (fun _ => false) = some A_slices_IndexFunc_int_int := by rw [hX]; kernel_rfl
theorem A_words_fields_1_ok : compileFun X.P F_words_fields_1 (fun _ => false) = some A_words_fields_1 := by rw [hX]; kernel_rfl
theorem A_words_unquote_ok : compileFun X.P F_words_unquote (fun _ => false) = some A_words_unquote := by rw [hX]; kernel_rfl
theorem A_strings_Cut_ok : compileFun X.P F_strings_Cut (fun _ => false) = some A_strings_Cut := by rw [hX]; kernel_rfl
theorem A_words_isBare_ok : compileFun X.P F_words_isBare (fun _ => false) = some A_words_isBare := by rw [hX]; kernel_rfl
theorem A_strings_TrimPrefix_ok : compileFun X.P F_strings_TrimPrefix (fun _ => false) = some A_strings_TrimPrefix := by rw [hX]; kernel_rfl
theorem A_strings_Trim_ok : compileFun X.P F_strings_Trim (fun _ => false) = some A_strings_Trim := by rw [hX]; kernel_rfl
theorem A_ref01_escaped_ok : compileFun X.P F_ref01_escaped (fun _ => false) = some A_ref01_escaped := by rw [hX]; kernel_rfl
theorem A_ref01_plain_ok : compileFun X.P F_ref01_plain (fun _ => false) = some A_ref01_plain := by rw [hX]; kernel_rfl
theorem A_ref01_digit_ok : compileFun X.P F_ref01_digit (fun _ => false) = some A_ref01_digit := by rw [hX]; kernel_rfl
theorem A_slices_Index_uint8_uint8_ok : compileFun X.P F_slices_Index_uint8_uint8 (fun _ => false) = some A_slices_Index_uint8_uint8 := by rw [hX]; kernel_rfl
theorem A_words_Name_ok : compileFun X.P F_words_Name (fun _ => false) = some A_words_Name := by rw [hX]; kernel_rfl
theorem A_slices_Contains_string_string_ok : compileFun X.P F_slices_Contains_string_string (fun _ => false) = some A_slices_Contains_string_string := by rw [hX]; kernel_rfl
theorem A_bits_OnesCount8_ok : compileFun X.P F_bits_OnesCount8 (fun _ => false) = some A_bits_OnesCount8 := by rw [hX]; kernel_rfl
theorem A_ref01_lower_ok : compileFun X.P F_ref01_lower (fun _ => false) = some A_ref01_lower := by rw [hX]; kernel_rfl
theorem A_words_unescape_ok : compileFun X.P F_words_unescape (fun _ => false) = some A_words_unescape := by rw [hX]; kernel_rfl
theorem A_words_isPlain_ok : compileFun X.P F_words_isPlain (fun _ => false) = some A_words_isPlain := by rw [hX]; kernel_rfl
theorem A_stringslite_Cut_ok : compileFun X.P F_stringslite_Cut (fun _ => false) = some A_stringslite_Cut := by rw [hX]; kernel_rfl
theorem A_stringslite_TrimPrefix_ok : compileFun X.P F_stringslite_TrimPrefix (fun _ => false) = some A_stringslite_TrimPrefix := by rw [hX]; kernel_rfl
theorem A_strings_makeASCIISet_ok : compileFun X.P F_strings_makeASCIISet (fun _ => false) = some A_strings_makeASCIISet := by rw [hX]; kernel_rfl
theorem A_strings_trimLeftASCII_ok : compileFun X.P F_strings_trimLeftASCII (fun _ => false) = some A_strings_trimLeftASCII := by rw [hX]; kernel_rfl
theorem A_strings_trimRightASCII_ok : compileFun X.P F_strings_trimRightASCII (fun _ => false) = some A_strings_trimRightASCII := by rw [hX]; kernel_rfl
theorem A_ref01_hex_ok : compileFun X.P F_ref01_hex (fun _ => false) = some A_ref01_hex := by rw [hX]; kernel_rfl
theorem A_strings_IndexByte_ok : compileFun X.P F_strings_IndexByte (fun _ => false) = some A_strings_IndexByte := by rw [hX]; kernel_rfl
theorem A_words_letterOf_ok : compileFun X.P F_words_letterOf (fun _ => false) = some A_words_letterOf := by rw [hX]; kernel_rfl
theorem A_stringslite_HasPrefix_ok : compileFun X.P F_stringslite_HasPrefix (fun _ => false) = some A_stringslite_HasPrefix := by rw [hX]; kernel_rfl
theorem A_strings_asciiSet_contains_ok : compileFun X.P F_strings_asciiSet_contains (fun _ => false) = some A_strings_asciiSet_contains := by rw [hX]; kernel_rfl
end
end Go.Avm
