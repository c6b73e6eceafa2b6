/- The functions as they have been read. -/
import Derived.Test.YtbhdhlkjchgddaaGreatDoorZG1
import Derived.Test.YtbhdhlkjchgddaaGreatDoorProg
set_option linter.unusedSectionVars false
set_option linter.unusedSimpArgs false
set_option linter.unusedVariables false

/- The functions as they have been read. -/
namespace Go.Avm
open Go
/- types_both -/
def A_types_both : AFun := ⟨50,
  .seq (.region false [⟨(some 3), .box (.t 0), none⟩,
    ⟨(some 4), .box (.t 1), none⟩,
    ⟨(some 5), .box (.t 2), none⟩,
    ⟨(some 6), .alloc [.sl .ex [], .sl .ex [], .int .i64 0], none⟩,
    ⟨(some 7), .mov (.c (.int .i64 0)), none⟩])
  (.seq (.region false [⟨(some 13), .ld (some 2) (.t 3), none⟩,
    ⟨(some 14), .call F_types_of [(.t 13)], none⟩,
    ⟨(some 12), .mov (.t 14), none⟩,
    ⟨(some 15), .extr (.t 12) 0, none⟩,
    ⟨(some 16), .extr (.t 12) 1, none⟩,
    ⟨(some 8), .alloc [.sl .ex [], .sl .ex [], .int .i64 0], none⟩,
    ⟨none, .st 3 (.t 8) (.t 15), none⟩,
    ⟨(some 9), .mov (.t 16), none⟩])
  (.seq (.seq (.region false [⟨(some 17), .mov (.t 9), none⟩,
    ⟨(some 18), .bin .neq (.t 17) (.c (.int .i64 0)), none⟩])
  (.cond (.t 18)
   (.seq (.region false [⟨(some 19), .ld (some 3) (.t 8), none⟩,
     ⟨(some 20), .mov (.t 9), none⟩,
     ⟨none, .st 3 (.t 6) (.t 19), none⟩,
     ⟨(some 7), .mov (.t 20), none⟩])
   (.ret))
   (.skip)))
  (.seq (.seq (.region false [⟨(some 21), .ld (some 3) (.t 8), none⟩,
    ⟨(some 22), .ld (some 5) (.t 4), none⟩,
    ⟨(some 23), .call F_types_order_check [(.t 21), (.t 22)], none⟩,
    ⟨(some 10), .mov (.t 23), none⟩])
  (.seq (.region false [⟨(some 24), .mov (.t 10), none⟩,
    ⟨(some 25), .bin .neq (.t 24) (.c (.int .i64 0)), none⟩])
  (.cond (.t 25)
   (.seq (.region false [⟨(some 26), .ld (some 3) (.t 8), none⟩,
     ⟨(some 27), .mov (.t 10), none⟩,
     ⟨none, .st 3 (.t 6) (.t 26), none⟩,
     ⟨(some 7), .mov (.t 27), none⟩])
   (.ret))
   (.skip))))
  (.seq (.seq (.region false [⟨(some 28), .ld (some 3) (.t 8), none⟩,
    ⟨(some 29), .ld (some 5) (.t 5), none⟩,
    ⟨(some 30), .call F_types_order_check [(.t 28), (.t 29)], none⟩,
    ⟨(some 11), .mov (.t 30), none⟩])
  (.seq (.region false [⟨(some 31), .mov (.t 11), none⟩,
    ⟨(some 32), .bin .neq (.t 31) (.c (.int .i64 0)), none⟩])
  (.cond (.t 32)
   (.seq (.region false [⟨(some 33), .ld (some 3) (.t 8), none⟩,
     ⟨(some 34), .mov (.t 11), none⟩,
     ⟨none, .st 3 (.t 6) (.t 33), none⟩,
     ⟨(some 7), .mov (.t 34), none⟩])
   (.ret))
   (.skip))))
  (.seq (.block 0 (.seq (.region false [⟨(some 36), .fldA 0 (.t 4), none⟩,
    ⟨(some 37), .ld none (.t 36), none⟩,
    ⟨(some 38), .fldA 0 (.t 5), none⟩,
    ⟨(some 39), .ld none (.t 38), none⟩,
    ⟨(some 40), .bin .neq (.t 37) (.t 39), none⟩,
    ⟨(some 35), .mov (.t 40), none⟩])
  (.cond (.t 35)
   (.seq (.region false [⟨(some 41), .ld (some 3) (.t 8), none⟩,
     ⟨none, .st 3 (.t 6) (.t 41), none⟩,
     ⟨(some 7), .mov (.c (.int .i64 21)), none⟩])
   (.ret))
   (.seq (.region false [⟨(some 43), .fldA 1 (.t 4), none⟩,
     ⟨(some 44), .ld none (.t 43), none⟩,
     ⟨(some 45), .fldA 1 (.t 5), none⟩,
     ⟨(some 46), .ld none (.t 45), none⟩,
     ⟨(some 47), .bin .neq (.t 44) (.t 46), none⟩,
     ⟨(some 42), .mov (.t 47), none⟩])
   (.cond (.t 42)
    (.seq (.region false [⟨(some 48), .ld (some 3) (.t 8), none⟩,
      ⟨none, .st 3 (.t 6) (.t 48), none⟩,
      ⟨(some 7), .mov (.c (.int .i64 22)), none⟩])
    (.ret))
    (.skip))))))
  (.seq (.region false [⟨(some 49), .ld (some 3) (.t 8), none⟩,
    ⟨none, .st 3 (.t 6) (.t 49), none⟩,
    ⟨(some 7), .mov (.c (.int .i64 0)), none⟩])
  (.ret))))))),
  [.cell (some 3) 6, .tmp 7]⟩

/- types_order_join -/
def A_types_order_join : AFun := ⟨24,
  .seq (.region false [⟨(some 3), .box (.t 0), none⟩,
    ⟨(some 6), .mov (.c (.int .i64 0)), none⟩])
  (.seq (.region true [⟨(some 7), .fldA 0 (.t 3), none⟩,
    ⟨(some 8), .fldA 1 (.t 7), none⟩,
    ⟨(some 9), .ld none (.t 8), none⟩,
    ⟨(some 10), .fldA 0 (.t 3), none⟩,
    ⟨(some 11), .fldA 1 (.t 10), none⟩,
    ⟨(some 12), .ld none (.t 11), none⟩,
    ⟨(some 13), .mov (.t 1), none⟩,
    ⟨(some 14), .idxA 1 (.t 12) (.t 13), none⟩,
    ⟨(some 15), .ld none (.t 14), none⟩,
    ⟨(some 16), .fldA 0 (.t 3), none⟩,
    ⟨(some 17), .fldA 1 (.t 16), none⟩,
    ⟨(some 18), .ld none (.t 17), none⟩,
    ⟨(some 19), .mov (.t 2), none⟩,
    ⟨(some 20), .idxA 1 (.t 18) (.t 19), none⟩,
    ⟨(some 21), .ld none (.t 20), none⟩,
    ⟨(some 22), .bin .and (.t 15) (.t 21), none⟩,
    ⟨(some 23), .call F_slices_Index_uint8_uint8 [(.t 9), (.t 22)], none⟩,
    ⟨(some 6), .mov (.t 23), none⟩])
  (.ret)),
  [.tmp 6]⟩

/- lattice_named -/
def A_lattice_namedL0 : ACode :=
  .seq (.region false [⟨(some 17), .bin .lss (.t 16) (.t 15), none⟩])
  (.seq (.cond (.t 17)
   (.skip)
   (.exit 0))
  (.seq (.block 1 (.seq (.region false [⟨(some 18), .mov (.t 16), none⟩,
    ⟨(some 19), .idxA 1 (.t 14) (.t 16), none⟩,
    ⟨(some 20), .ld none (.t 19), none⟩,
    ⟨(some 4), .mov (.t 18), none⟩,
    ⟨(some 5), .mov (.t 20), none⟩])
  (.block 2 (.seq (.region false [⟨(some 22), .mov (.t 5), none⟩,
    ⟨(some 23), .call F_words_Name [(.t 22)], none⟩,
    ⟨(some 24), .not (.t 23), none⟩,
    ⟨(some 21), .mov (.t 24), none⟩])
  (.cond (.t 21)
   (.seq (.region false [⟨(some 25), .mov (.t 4), none⟩,
     ⟨(some 2), .mov (.t 25), none⟩,
     ⟨(some 3), .mov (.c (.int .i64 6)), none⟩])
   (.ret))
   (.seq (.region false [⟨(some 27), .mov (.t 0), none⟩,
     ⟨(some 28), .mov (.t 4), none⟩,
     ⟨(some 29), .sls 1 (.t 27) none (some (.t 28)) none, none⟩,
     ⟨(some 30), .mov (.t 5), none⟩,
     ⟨(some 31), .call F_slices_Contains_string_string [(.t 29), (.t 30)], none⟩,
     ⟨(some 26), .mov (.t 31), none⟩])
   (.cond (.t 26)
    (.seq (.region false [⟨(some 32), .mov (.t 4), none⟩,
      ⟨(some 2), .mov (.t 32), none⟩,
      ⟨(some 3), .mov (.c (.int .i64 8)), none⟩])
    (.ret))
    (.skip))))))))
  (.region false [⟨(some 33), .bin .add (.t 16) (.c (.int .i64 1)), none⟩,
    ⟨(some 16), .mov (.t 33), none⟩])))
def A_lattice_named : AFun := ⟨34,
  .seq (.region false [⟨(some 2), .mov (.c (.int .i64 0)), none⟩,
    ⟨(some 3), .mov (.c (.int .i64 0)), none⟩])
  (.seq (.seq (.region false [⟨(some 6), .mov (.t 0), none⟩,
    ⟨(some 7), .len (.t 6), none⟩,
    ⟨(some 8), .bin .lss (.t 7) (.c (.int .i64 1)), none⟩,
    ⟨(some 9), .mov (.t 8), none⟩,
    ⟨(some 10), .mov (.t 0), some (9, false)⟩,
    ⟨(some 11), .len (.t 10), some (9, false)⟩,
    ⟨(some 12), .bin .gtr (.t 11) (.c (.int .i64 8)), some (9, false)⟩,
    ⟨(some 13), .pick (.t 9) (.c (.bool true)) (.t 12), none⟩])
  (.cond (.t 13)
   (.seq (.region false [⟨(some 2), .mov (.c (.int .i64 (-1))), none⟩,
     ⟨(some 3), .mov (.c (.int .i64 3)), none⟩])
   (.ret))
   (.skip)))
  (.seq (.seq (.region false [⟨(some 14), .mov (.t 0), none⟩,
    ⟨(some 15), .len (.t 14), none⟩,
    ⟨(some 16), .mov (.c (.int .i64 0)), none⟩])
  (.block 0 (.loop A_lattice_namedL0)))
  (.seq (.region false [⟨(some 2), .mov (.c (.int .i64 0)), none⟩,
    ⟨(some 3), .mov (.c (.int .i64 0)), none⟩])
  (.ret)))),
  [.tmp 2, .tmp 3]⟩

/- bits_Len8 -/
def S_bits_Len8 : List UInt8 := [0, 1, 2, 2, 3, 3, 3, 3, 4, 4, 4, 4, 4, 4, 4, 4, 5, 5, 5, 5, 5, 5, 5, 5, 5, 5, 5, 5, 5, 5, 5, 5, 6, 6, 6, 6, 6, 6, 6, 6, 6, 6, 6, 6, 6, 6, 6, 6, 6, 6, 6, 6, 6, 6, 6, 6, 6, 6, 6, 6, 6, 6, 6, 6, 7, 7, 7, 7, 7, 7, 7, 7, 7, 7, 7, 7, 7, 7, 7, 7, 7, 7, 7, 7, 7, 7, 7, 7, 7, 7, 7, 7, 7, 7, 7, 7, 7, 7, 7, 7, 7, 7, 7, 7, 7, 7, 7, 7, 7, 7, 7, 7, 7, 7, 7, 7, 7, 7, 7, 7, 7, 7, 7, 7, 7, 7, 7, 7, 8, 8, 8, 8, 8, 8, 8, 8, 8, 8, 8, 8, 8, 8, 8, 8, 8, 8, 8, 8, 8, 8, 8, 8, 8, 8, 8, 8, 8, 8, 8, 8, 8, 8, 8, 8, 8, 8, 8, 8, 8, 8, 8, 8, 8, 8, 8, 8, 8, 8, 8, 8, 8, 8, 8, 8, 8, 8, 8, 8, 8, 8, 8, 8, 8, 8, 8, 8, 8, 8, 8, 8, 8, 8, 8, 8, 8, 8, 8, 8, 8, 8, 8, 8, 8, 8, 8, 8, 8, 8, 8, 8, 8, 8, 8, 8, 8, 8, 8, 8, 8, 8, 8, 8, 8, 8, 8, 8, 8, 8, 8, 8, 8, 8, 8, 8, 8, 8, 8, 8, 8, 8, 8, 8, 8, 8, 8, 8]
def A_bits_Len8 : AFun := ⟨6,
  .seq (.region false [⟨(some 2), .mov (.c (.int .i64 0)), none⟩])
  (.seq (.region false [⟨(some 3), .mov (.t 0), none⟩,
    ⟨(some 4), .idxS (.c (.str S_bits_Len8)) (.t 3), none⟩,
    ⟨(some 5), .conv .i64 (.t 4), none⟩,
    ⟨(some 2), .mov (.t 5), none⟩])
  (.ret)),
  [.tmp 2]⟩

/- lattice_of -/
def A_lattice_ofL1 : ACode :=
  .seq (.region false [⟨(some 30), .bin .lss (.t 29) (.t 28), none⟩])
  (.seq (.cond (.t 30)
   (.skip)
   (.exit 2))
  (.seq (.block 3 (.seq (.region false [⟨(some 31), .mov (.t 29), none⟩,
    ⟨(some 6), .mov (.t 31), none⟩])
  (.region true [⟨(some 32), .mov (.t 6), none⟩,
    ⟨(some 33), .fldA 9 (.t 3), none⟩,
    ⟨(some 34), .idxP 8 1 (.t 33) (.t 32), none⟩,
    ⟨(some 35), .ld none (.t 34), none⟩,
    ⟨(some 36), .mov (.t 5), none⟩,
    ⟨(some 37), .mov (.t 6), none⟩,
    ⟨(some 38), .bin .shr (.t 36) (.t 37), none⟩,
    ⟨(some 39), .bin .and (.t 38) (.c (.int .u8 1)), none⟩,
    ⟨(some 40), .mov (.t 4), none⟩,
    ⟨(some 41), .bin .shl (.t 39) (.t 40), none⟩,
    ⟨(some 42), .bin .or (.t 35) (.t 41), none⟩,
    ⟨(some 43), .fldA 9 (.t 3), none⟩,
    ⟨(some 44), .idxP 8 1 (.t 43) (.t 32), none⟩,
    ⟨none, .st 1 (.t 44) (.t 42), none⟩])))
  (.region false [⟨(some 45), .bin .add (.t 29) (.c (.int .i64 1)), none⟩,
    ⟨(some 29), .mov (.t 45), none⟩])))
def A_lattice_ofL0 : ACode :=
  .seq (.region false [⟨(some 19), .bin .lss (.t 18) (.t 17), none⟩])
  (.seq (.cond (.t 19)
   (.skip)
   (.exit 0))
  (.seq (.block 1 (.seq (.region false [⟨(some 20), .mov (.t 18), none⟩,
    ⟨(some 21), .idxA 1 (.t 16) (.t 18), none⟩,
    ⟨(some 22), .ld none (.t 21), none⟩,
    ⟨(some 4), .mov (.t 20), none⟩,
    ⟨(some 5), .mov (.t 22), none⟩])
  (.seq (.region false [⟨(some 23), .mov (.t 4), none⟩,
    ⟨(some 24), .mov (.t 5), none⟩,
    ⟨(some 25), .fldA 1 (.t 3), none⟩,
    ⟨(some 26), .idxP 8 1 (.t 25) (.t 23), none⟩,
    ⟨none, .st 1 (.t 26) (.t 24), none⟩])
  (.seq (.region false [⟨(some 27), .fldA 0 (.t 3), none⟩,
    ⟨(some 28), .ld none (.t 27), none⟩,
    ⟨(some 29), .mov (.c (.int .i64 0)), none⟩])
  (.block 2 (.loop A_lattice_ofL1))))))
  (.region false [⟨(some 46), .bin .add (.t 18) (.c (.int .i64 1)), none⟩,
    ⟨(some 18), .mov (.t 46), none⟩])))
def A_lattice_of : AFun := ⟨48,
  .seq (.region false [⟨(some 2), .alloc [.int .i64 0, .int .u8 0, .int .u8 0, .int .u8 0, .int .u8 0, .int .u8 0, .int .u8 0, .int .u8 0, .int .u8 0, .int .u8 0, .int .u8 0, .int .u8 0, .int .u8 0, .int .u8 0, .int .u8 0, .int .u8 0, .int .u8 0], none⟩])
  (.seq (.region false [⟨(some 7), .mov (.t 0), none⟩,
    ⟨(some 8), .nck (.t 7), none⟩,
    ⟨(some 9), .fldA 0 (.t 8), none⟩,
    ⟨(some 10), .ld none (.t 9), none⟩,
    ⟨(some 11), .len (.t 10), none⟩,
    ⟨(some 12), .build [.int .i64 0, .int .u8 0, .int .u8 0, .int .u8 0, .int .u8 0, .int .u8 0, .int .u8 0, .int .u8 0, .int .u8 0, .int .u8 0, .int .u8 0, .int .u8 0, .int .u8 0, .int .u8 0, .int .u8 0, .int .u8 0, .int .u8 0] [(0, 1, (.t 11))], none⟩,
    ⟨(some 3), .alloc [.int .i64 0, .int .u8 0, .int .u8 0, .int .u8 0, .int .u8 0, .int .u8 0, .int .u8 0, .int .u8 0, .int .u8 0, .int .u8 0, .int .u8 0, .int .u8 0, .int .u8 0, .int .u8 0, .int .u8 0, .int .u8 0, .int .u8 0], none⟩,
    ⟨none, .st 17 (.t 3) (.t 12), none⟩])
  (.seq (.seq (.region false [⟨(some 13), .mov (.t 0), none⟩,
    ⟨(some 14), .nck (.t 13), none⟩,
    ⟨(some 15), .fldA 1 (.t 14), none⟩,
    ⟨(some 16), .ld none (.t 15), none⟩,
    ⟨(some 17), .len (.t 16), none⟩,
    ⟨(some 18), .mov (.c (.int .i64 0)), none⟩])
  (.block 0 (.loop A_lattice_ofL0)))
  (.seq (.region false [⟨(some 47), .ld (some 17) (.t 3), none⟩,
    ⟨none, .st 17 (.t 2) (.t 47), none⟩])
  (.ret)))),
  [.cell (some 17) 2]⟩

/- lattice_bound_lattice_ups -/
def A_lattice_bound_lattice_upsL0 : ACode :=
  .seq (.region false [⟨(some 20), .bin .lss (.t 19) (.t 18), none⟩])
  (.seq (.cond (.t 20)
   (.skip)
   (.exit 0))
  (.seq (.block 1 (.seq (.region false [⟨(some 21), .mov (.t 19), none⟩,
    ⟨(some 10), .mov (.t 21), none⟩])
  (.seq (.region false [⟨(some 22), .mov (.t 9), none⟩,
    ⟨(some 23), .mov (.t 10), none⟩,
    ⟨(some 24), .bin .shr (.t 22) (.t 23), none⟩,
    ⟨(some 25), .bin .and (.t 24) (.c (.int .u8 1)), none⟩,
    ⟨(some 26), .bin .eql (.t 25) (.c (.int .u8 1)), none⟩,
    ⟨(some 27), .mov (.t 26), none⟩,
    ⟨(some 28), .mov (.t 10), some (27, true)⟩,
    ⟨(some 29), .idxP 8 1 (.t 4) (.t 28), some (27, true)⟩,
    ⟨(some 30), .ld none (.t 29), some (27, true)⟩,
    ⟨(some 31), .mov (.t 9), some (27, true)⟩,
    ⟨(some 32), .bin .eql (.t 30) (.t 31), some (27, true)⟩,
    ⟨(some 33), .pick (.t 27) (.t 32) (.c (.bool false)), none⟩])
  (.cond (.t 33)
   (.seq (.region false [⟨(some 34), .mov (.t 10), none⟩,
     ⟨(some 8), .mov (.t 34), none⟩])
   (.ret))
   (.skip)))))
  (.region false [⟨(some 35), .bin .add (.t 19) (.c (.int .i64 1)), none⟩,
    ⟨(some 19), .mov (.t 35), none⟩])))
def A_lattice_bound_lattice_ups : AFun := ⟨36,
  .seq (.region false [⟨(some 4), .box (.t 0), none⟩,
    ⟨(some 8), .mov (.c (.int .i64 0)), none⟩])
  (.seq (.region true [⟨(some 11), .mov (.t 2), none⟩,
    ⟨(some 12), .idxP 8 1 (.t 4) (.t 11), none⟩,
    ⟨(some 13), .ld none (.t 12), none⟩,
    ⟨(some 14), .mov (.t 3), none⟩,
    ⟨(some 15), .idxP 8 1 (.t 4) (.t 14), none⟩,
    ⟨(some 16), .ld none (.t 15), none⟩,
    ⟨(some 17), .bin .and (.t 13) (.t 16), none⟩,
    ⟨(some 9), .mov (.t 17), none⟩])
  (.seq (.seq (.region false [⟨(some 18), .mov (.t 1), none⟩,
    ⟨(some 19), .mov (.c (.int .i64 0)), none⟩])
  (.block 0 (.loop A_lattice_bound_lattice_upsL0)))
  (.seq (.region false [⟨(some 8), .mov (.c (.int .i64 (-1))), none⟩])
  (.ret)))),
  [.tmp 8]⟩

/- lattice_bound_lattice_downs -/
def A_lattice_bound_lattice_downsL0 : ACode :=
  .seq (.region false [⟨(some 20), .bin .lss (.t 19) (.t 18), none⟩])
  (.seq (.cond (.t 20)
   (.skip)
   (.exit 0))
  (.seq (.block 1 (.seq (.region false [⟨(some 21), .mov (.t 19), none⟩,
    ⟨(some 10), .mov (.t 21), none⟩])
  (.seq (.region false [⟨(some 22), .mov (.t 9), none⟩,
    ⟨(some 23), .mov (.t 10), none⟩,
    ⟨(some 24), .bin .shr (.t 22) (.t 23), none⟩,
    ⟨(some 25), .bin .and (.t 24) (.c (.int .u8 1)), none⟩,
    ⟨(some 26), .bin .eql (.t 25) (.c (.int .u8 1)), none⟩,
    ⟨(some 27), .mov (.t 26), none⟩,
    ⟨(some 28), .mov (.t 10), some (27, true)⟩,
    ⟨(some 29), .idxP 8 1 (.t 4) (.t 28), some (27, true)⟩,
    ⟨(some 30), .ld none (.t 29), some (27, true)⟩,
    ⟨(some 31), .mov (.t 9), some (27, true)⟩,
    ⟨(some 32), .bin .eql (.t 30) (.t 31), some (27, true)⟩,
    ⟨(some 33), .pick (.t 27) (.t 32) (.c (.bool false)), none⟩])
  (.cond (.t 33)
   (.seq (.region false [⟨(some 34), .mov (.t 10), none⟩,
     ⟨(some 8), .mov (.t 34), none⟩])
   (.ret))
   (.skip)))))
  (.region false [⟨(some 35), .bin .add (.t 19) (.c (.int .i64 1)), none⟩,
    ⟨(some 19), .mov (.t 35), none⟩])))
def A_lattice_bound_lattice_downs : AFun := ⟨36,
  .seq (.region false [⟨(some 4), .box (.t 0), none⟩,
    ⟨(some 8), .mov (.c (.int .i64 0)), none⟩])
  (.seq (.region true [⟨(some 11), .mov (.t 2), none⟩,
    ⟨(some 12), .idxP 8 1 (.t 4) (.t 11), none⟩,
    ⟨(some 13), .ld none (.t 12), none⟩,
    ⟨(some 14), .mov (.t 3), none⟩,
    ⟨(some 15), .idxP 8 1 (.t 4) (.t 14), none⟩,
    ⟨(some 16), .ld none (.t 15), none⟩,
    ⟨(some 17), .bin .and (.t 13) (.t 16), none⟩,
    ⟨(some 9), .mov (.t 17), none⟩])
  (.seq (.seq (.region false [⟨(some 18), .mov (.t 1), none⟩,
    ⟨(some 19), .mov (.c (.int .i64 0)), none⟩])
  (.block 0 (.loop A_lattice_bound_lattice_downsL0)))
  (.seq (.region false [⟨(some 8), .mov (.c (.int .i64 (-1))), none⟩])
  (.ret)))),
  [.tmp 8]⟩

/- lattice_end_lattice_ups -/
def A_lattice_end_lattice_upsL0 : ACode :=
  .seq (.seq (.region false [⟨(some 6), .mov (.t 5), none⟩,
    ⟨(some 7), .mov (.t 1), none⟩,
    ⟨(some 8), .bin .sub (.t 7) (.c (.int .i64 1)), none⟩,
    ⟨(some 9), .bin .lss (.t 6) (.t 8), none⟩,
    ⟨(some 10), .mov (.t 9), none⟩,
    ⟨(some 11), .mov (.t 5), some (10, true)⟩,
    ⟨(some 12), .idxP 8 1 (.t 2) (.t 11), some (10, true)⟩,
    ⟨(some 13), .ld none (.t 12), some (10, true)⟩,
    ⟨(some 14), .call F_bits_OnesCount8 [(.t 13)], some (10, true)⟩,
    ⟨(some 15), .mov (.t 1), some (10, true)⟩,
    ⟨(some 16), .bin .lss (.t 14) (.t 15), some (10, true)⟩,
    ⟨(some 17), .pick (.t 10) (.t 16) (.c (.bool false)), none⟩])
  (.cond (.t 17)
   (.skip)
   (.exit 0)))
  (.block 1 (.region false [⟨(some 18), .mov (.t 5), none⟩,
    ⟨(some 19), .bin .add (.t 18) (.c (.int .i64 1)), none⟩,
    ⟨(some 5), .mov (.t 19), none⟩]))
def A_lattice_end_lattice_ups : AFun := ⟨21,
  .seq (.region false [⟨(some 2), .box (.t 0), none⟩,
    ⟨(some 4), .mov (.c (.int .i64 0)), none⟩])
  (.seq (.region false [⟨(some 5), .mov (.c (.int .i64 0)), none⟩])
  (.seq (.block 0 (.loop A_lattice_end_lattice_upsL0))
  (.seq (.region false [⟨(some 20), .mov (.t 5), none⟩,
    ⟨(some 4), .mov (.t 20), none⟩])
  (.ret)))),
  [.tmp 4]⟩

/- shapes_Check -/
def A_shapes_Check : AFun := ⟨30,
  .seq (.region false [⟨(some 3), .box (.t 1), none⟩,
    ⟨(some 4), .mov (.c (.int .i64 0)), none⟩])
  (.seq (.seq (.region false [⟨(some 7), .mov (.t 0), none⟩,
    ⟨(some 8), .bin .lss (.t 7) (.c (.int .i64 0)), none⟩,
    ⟨(some 9), .mov (.t 8), none⟩,
    ⟨(some 10), .mov (.t 0), some (9, false)⟩,
    ⟨(some 11), .bin .gtr (.t 10) (.c (.int .i64 2)), some (9, false)⟩,
    ⟨(some 12), .pick (.t 9) (.c (.bool true)) (.t 11), none⟩])
  (.cond (.t 12)
   (.seq (.region false [⟨(some 4), .mov (.c (.int .i64 7)), none⟩])
   (.ret))
   (.skip)))
  (.seq (.region true [⟨(some 13), .mov (.t 0), none⟩,
    ⟨(some 14), .slA 2 1 (.t 3) none (some (.t 13)) none, none⟩,
    ⟨(some 15), .mov (.t 0), none⟩,
    ⟨(some 16), .slA 2 1 (.t 3) (some (.t 15)) none none, none⟩,
    ⟨(some 5), .mov (.t 14), none⟩,
    ⟨(some 6), .mov (.t 16), none⟩])
  (.seq (.block 0 (.seq (.region false [⟨(some 18), .mov (.t 5), none⟩,
    ⟨(some 19), .call F_slices_ContainsFunc_int_int [(.t 18), (.c (.clo F_shapes_Check_1 [] []))], none⟩,
    ⟨(some 17), .mov (.t 19), none⟩])
  (.cond (.t 17)
   (.seq (.region false [⟨(some 4), .mov (.c (.int .i64 7)), none⟩])
   (.ret))
   (.seq (.region false [⟨(some 21), .mov (.t 6), none⟩,
     ⟨(some 22), .call F_slices_ContainsFunc_int_int [(.t 21), (.c (.clo F_shapes_Check_2 [] []))], none⟩,
     ⟨(some 20), .mov (.t 22), none⟩])
   (.cond (.t 20)
    (.seq (.region false [⟨(some 4), .mov (.c (.int .i64 6)), none⟩])
    (.ret))
    (.seq (.seq (.region false [⟨(some 24), .mov (.t 5), none⟩,
      ⟨(some 25), .call F_slices_ContainsFunc_int_int [(.t 24), (.c (.clo F_shapes_Check_3 [] []))], none⟩,
      ⟨(some 23), .mov (.t 25), none⟩])
    (.cond (.t 23)
     (.skip)
     (.region false [⟨(some 26), .mov (.t 0), none⟩,
       ⟨(some 27), .ld (some 2) (.t 3), none⟩,
       ⟨(some 28), .call F_shapes_product [(.t 26), (.t 27)], none⟩,
       ⟨(some 29), .bin .gtr (.t 28) (.c (.int .i64 400)), none⟩,
       ⟨(some 23), .mov (.t 29), none⟩])))
    (.cond (.t 23)
     (.seq (.region false [⟨(some 4), .mov (.c (.int .i64 15)), none⟩])
     (.ret))
     (.skip))))))))
  (.seq (.region false [⟨(some 4), .mov (.c (.int .i64 0)), none⟩])
  (.ret))))),
  [.tmp 4]⟩

/- shapes_product -/
def A_shapes_product : AFun := ⟨20,
  .seq (.region false [⟨(some 3), .box (.t 1), none⟩,
    ⟨(some 4), .mov (.c (.int .i64 0)), none⟩])
  (.seq (.region false [⟨(some 5), .mov (.c (.int .i64 1)), none⟩])
  (.seq (.seq (.region false [⟨(some 6), .mov (.t 0), none⟩])
  (.block 0 (.seq (.block 2 (.seq (.block 1 (.seq (.seq (.seq (.region false [⟨(some 8), .bin .eql (.t 6) (.c (.int .i64 2)), none⟩,
    ⟨(some 7), .mov (.t 8), none⟩])
  (.cond (.t 7)
   (.exit 1)
   (.skip)))
  (.seq (.region false [⟨(some 10), .bin .eql (.t 6) (.c (.int .i64 1)), none⟩,
    ⟨(some 9), .mov (.t 10), none⟩])
  (.cond (.t 9)
   (.exit 2)
   (.skip))))
  (.exit 0)))
  (.region false [⟨(some 11), .mov (.t 5), none⟩,
    ⟨(some 12), .idxP 2 1 (.t 3) (.c (.int .i64 1)), none⟩,
    ⟨(some 13), .ld none (.t 12), none⟩,
    ⟨(some 14), .bin .mul (.t 11) (.t 13), none⟩,
    ⟨(some 5), .mov (.t 14), none⟩])))
  (.seq (.region false [⟨(some 15), .mov (.t 5), none⟩,
    ⟨(some 16), .idxP 2 1 (.t 3) (.c (.int .i64 0)), none⟩,
    ⟨(some 17), .ld none (.t 16), none⟩,
    ⟨(some 18), .bin .mul (.t 15) (.t 17), none⟩,
    ⟨(some 5), .mov (.t 18), none⟩])
  (.exit 0)))))
  (.seq (.region false [⟨(some 19), .mov (.t 5), none⟩,
    ⟨(some 4), .mov (.t 19), none⟩])
  (.ret)))),
  [.tmp 4]⟩

/- slices_IndexFunc_int64_int64 -/
def A_slices_IndexFunc_int64_int64L0 : ACode :=
  .seq (.region false [⟨(some 9), .bin .lss (.t 8) (.t 7), none⟩])
  (.seq (.cond (.t 9)
   (.skip)
   (.exit 0))
  (.seq (.block 1 (.seq (.region false [⟨(some 10), .mov (.t 8), none⟩,
    ⟨(some 5), .mov (.t 10), none⟩])
  (.seq (.region false [⟨(some 11), .mov (.t 1), none⟩,
    ⟨(some 12), .mov (.t 0), none⟩,
    ⟨(some 13), .mov (.t 5), none⟩,
    ⟨(some 14), .idxA 1 (.t 12) (.t 13), none⟩,
    ⟨(some 15), .ld none (.t 14), none⟩,
    ⟨(some 16), .callv (.t 11) [(.t 15)], none⟩])
  (.cond (.t 16)
   (.seq (.region false [⟨(some 17), .mov (.t 5), none⟩,
     ⟨(some 4), .mov (.t 17), none⟩])
   (.ret))
   (.skip)))))
  (.region false [⟨(some 18), .bin .add (.t 8) (.c (.int .i64 1)), none⟩,
    ⟨(some 8), .mov (.t 18), none⟩])))
def A_slices_IndexFunc_int64_int64 : AFun := ⟨19,
  .seq (.region false [⟨(some 4), .mov (.c (.int .i64 0)), none⟩])
  (.seq (.seq (.region false [⟨(some 6), .mov (.t 0), none⟩,
    ⟨(some 7), .len (.t 6), none⟩,
    ⟨(some 8), .mov (.c (.int .i64 0)), none⟩])
  (.block 0 (.loop A_slices_IndexFunc_int64_int64L0)))
  (.seq (.region false [⟨(some 4), .mov (.c (.int .i64 (-1))), none⟩])
  (.ret))),
  [.tmp 4]⟩

/- utf8_ValidRune -/
def A_utf8_ValidRune : AFun := ⟨17,
  .seq (.region false [⟨(some 2), .mov (.c (.bool false)), none⟩])
  (.seq (.block 0 (.seq (.region false [⟨(some 4), .mov (.t 0), none⟩,
    ⟨(some 5), .bin .leq (.c (.int .i32 0)) (.t 4), none⟩,
    ⟨(some 6), .mov (.t 5), none⟩,
    ⟨(some 7), .mov (.t 0), some (6, true)⟩,
    ⟨(some 8), .bin .lss (.t 7) (.c (.int .i32 55296)), some (6, true)⟩,
    ⟨(some 9), .pick (.t 6) (.t 8) (.c (.bool false)), none⟩,
    ⟨(some 3), .mov (.t 9), none⟩])
  (.cond (.t 3)
   (.seq (.region false [⟨(some 2), .mov (.c (.bool true)), none⟩])
   (.ret))
   (.seq (.region false [⟨(some 11), .mov (.t 0), none⟩,
     ⟨(some 12), .bin .lss (.c (.int .i32 57343)) (.t 11), none⟩,
     ⟨(some 13), .mov (.t 12), none⟩,
     ⟨(some 14), .mov (.t 0), some (13, true)⟩,
     ⟨(some 15), .bin .leq (.t 14) (.c (.int .i32 1114111)), some (13, true)⟩,
     ⟨(some 16), .pick (.t 13) (.t 15) (.c (.bool false)), none⟩,
     ⟨(some 10), .mov (.t 16), none⟩])
   (.cond (.t 10)
    (.seq (.region false [⟨(some 2), .mov (.c (.bool true)), none⟩])
    (.ret))
    (.skip))))))
  (.seq (.region false [⟨(some 2), .mov (.c (.bool false)), none⟩])
  (.ret))),
  [.tmp 2]⟩

/- ref01_Name -/
def A_ref01_NameL0 : ACode :=
  .seq (.seq (.region false [⟨(some 18), .mov (.t 3), none⟩,
    ⟨(some 19), .mov (.t 0), none⟩,
    ⟨(some 20), .lenS (.t 19), none⟩,
    ⟨(some 21), .bin .lss (.t 18) (.t 20), none⟩])
  (.cond (.t 21)
   (.skip)
   (.exit 0)))
  (.seq (.block 1 (.seq (.region false [⟨(some 24), .mov (.t 0), none⟩,
    ⟨(some 25), .mov (.t 3), none⟩,
    ⟨(some 26), .idxS (.t 24) (.t 25), none⟩,
    ⟨(some 27), .call F_ref01_lower [(.t 26)], none⟩,
    ⟨(some 28), .not (.t 27), none⟩,
    ⟨(some 29), .mov (.t 28), none⟩,
    ⟨(some 30), .mov (.t 0), some (29, true)⟩,
    ⟨(some 31), .mov (.t 3), some (29, true)⟩,
    ⟨(some 32), .idxS (.t 30) (.t 31), some (29, true)⟩,
    ⟨(some 33), .call F_ref01_digit [(.t 32)], some (29, true)⟩,
    ⟨(some 34), .not (.t 33), some (29, true)⟩,
    ⟨(some 35), .pick (.t 29) (.t 34) (.c (.bool false)), none⟩,
    ⟨(some 36), .mov (.t 35), none⟩,
    ⟨(some 37), .mov (.t 0), some (36, true)⟩,
    ⟨(some 38), .mov (.t 3), some (36, true)⟩,
    ⟨(some 39), .idxS (.t 37) (.t 38), some (36, true)⟩,
    ⟨(some 40), .bin .neq (.t 39) (.c (.int .u8 45)), some (36, true)⟩,
    ⟨(some 41), .pick (.t 36) (.t 40) (.c (.bool false)), none⟩])
  (.cond (.t 41)
   (.seq (.region false [⟨(some 2), .mov (.c (.bool false)), none⟩])
   (.ret))
   (.skip))))
  (.region false [⟨(some 22), .mov (.t 3), none⟩,
    ⟨(some 23), .bin .add (.t 22) (.c (.int .i64 1)), none⟩,
    ⟨(some 3), .mov (.t 23), none⟩]))
def A_ref01_Name : AFun := ⟨42,
  .seq (.region false [⟨(some 2), .mov (.c (.bool false)), none⟩])
  (.seq (.seq (.region false [⟨(some 4), .mov (.t 0), none⟩,
    ⟨(some 5), .lenS (.t 4), none⟩,
    ⟨(some 6), .bin .lss (.t 5) (.c (.int .i64 1)), none⟩,
    ⟨(some 7), .mov (.t 6), none⟩,
    ⟨(some 8), .mov (.t 0), some (7, false)⟩,
    ⟨(some 9), .lenS (.t 8), some (7, false)⟩,
    ⟨(some 10), .bin .gtr (.t 9) (.c (.int .i64 16)), some (7, false)⟩,
    ⟨(some 11), .pick (.t 7) (.c (.bool true)) (.t 10), none⟩,
    ⟨(some 12), .mov (.t 11), none⟩,
    ⟨(some 13), .mov (.t 0), some (12, false)⟩,
    ⟨(some 14), .idxS (.t 13) (.c (.int .i64 0)), some (12, false)⟩,
    ⟨(some 15), .call F_ref01_lower [(.t 14)], some (12, false)⟩,
    ⟨(some 16), .not (.t 15), some (12, false)⟩,
    ⟨(some 17), .pick (.t 12) (.c (.bool true)) (.t 16), none⟩])
  (.cond (.t 17)
   (.seq (.region false [⟨(some 2), .mov (.c (.bool false)), none⟩])
   (.ret))
   (.skip)))
  (.seq (.seq (.region false [⟨(some 3), .mov (.c (.int .i64 0)), none⟩])
  (.block 0 (.loop A_ref01_NameL0)))
  (.seq (.region false [⟨(some 2), .mov (.c (.bool true)), none⟩])
  (.ret)))),
  [.tmp 2]⟩

/- ref05_Check -/
def A_ref05_CheckL0 : ACode :=
  .seq (.seq (.region false [⟨(some 13), .mov (.t 5), none⟩,
    ⟨(some 14), .mov (.t 0), none⟩,
    ⟨(some 15), .bin .lss (.t 13) (.t 14), none⟩])
  (.cond (.t 15)
   (.skip)
   (.exit 0)))
  (.seq (.block 1 (.seq (.region false [⟨(some 18), .mov (.t 5), none⟩,
    ⟨(some 19), .idxP 2 1 (.t 3) (.t 18), none⟩,
    ⟨(some 20), .ld none (.t 19), none⟩,
    ⟨(some 21), .bin .lss (.t 20) (.c (.int .i64 0)), none⟩])
  (.cond (.t 21)
   (.seq (.region false [⟨(some 4), .mov (.c (.int .i64 7)), none⟩])
   (.ret))
   (.skip))))
  (.region false [⟨(some 16), .mov (.t 5), none⟩,
    ⟨(some 17), .bin .add (.t 16) (.c (.int .i64 1)), none⟩,
    ⟨(some 5), .mov (.t 17), none⟩]))
def A_ref05_CheckL1 : ACode :=
  .seq (.seq (.region false [⟨(some 23), .mov (.t 6), none⟩,
    ⟨(some 24), .bin .lss (.t 23) (.c (.int .i64 2)), none⟩])
  (.cond (.t 24)
   (.skip)
   (.exit 2)))
  (.seq (.block 3 (.seq (.region false [⟨(some 27), .mov (.t 6), none⟩,
    ⟨(some 28), .idxP 2 1 (.t 3) (.t 27), none⟩,
    ⟨(some 29), .ld none (.t 28), none⟩,
    ⟨(some 30), .bin .neq (.t 29) (.c (.int .i64 0)), none⟩])
  (.cond (.t 30)
   (.seq (.region false [⟨(some 4), .mov (.c (.int .i64 6)), none⟩])
   (.ret))
   (.skip))))
  (.region false [⟨(some 25), .mov (.t 6), none⟩,
    ⟨(some 26), .bin .add (.t 25) (.c (.int .i64 1)), none⟩,
    ⟨(some 6), .mov (.t 26), none⟩]))
def A_ref05_Check : AFun := ⟨45,
  .seq (.region false [⟨(some 3), .box (.t 1), none⟩,
    ⟨(some 4), .mov (.c (.int .i64 0)), none⟩])
  (.seq (.seq (.region false [⟨(some 7), .mov (.t 0), none⟩,
    ⟨(some 8), .bin .lss (.t 7) (.c (.int .i64 0)), none⟩,
    ⟨(some 9), .mov (.t 8), none⟩,
    ⟨(some 10), .mov (.t 0), some (9, false)⟩,
    ⟨(some 11), .bin .gtr (.t 10) (.c (.int .i64 2)), some (9, false)⟩,
    ⟨(some 12), .pick (.t 9) (.c (.bool true)) (.t 11), none⟩])
  (.cond (.t 12)
   (.seq (.region false [⟨(some 4), .mov (.c (.int .i64 7)), none⟩])
   (.ret))
   (.skip)))
  (.seq (.seq (.region false [⟨(some 5), .mov (.c (.int .i64 0)), none⟩])
  (.block 0 (.loop A_ref05_CheckL0)))
  (.seq (.seq (.region false [⟨(some 22), .mov (.t 0), none⟩,
    ⟨(some 6), .mov (.t 22), none⟩])
  (.block 2 (.loop A_ref05_CheckL1)))
  (.seq (.seq (.region false [⟨(some 31), .idxP 2 1 (.t 3) (.c (.int .i64 0)), none⟩,
    ⟨(some 32), .ld none (.t 31), none⟩,
    ⟨(some 33), .bin .gtr (.t 32) (.c (.int .i64 400)), none⟩,
    ⟨(some 34), .mov (.t 33), none⟩,
    ⟨(some 35), .idxP 2 1 (.t 3) (.c (.int .i64 1)), some (34, false)⟩,
    ⟨(some 36), .ld none (.t 35), some (34, false)⟩,
    ⟨(some 37), .bin .gtr (.t 36) (.c (.int .i64 400)), some (34, false)⟩,
    ⟨(some 38), .pick (.t 34) (.c (.bool true)) (.t 37), none⟩,
    ⟨(some 39), .mov (.t 38), none⟩,
    ⟨(some 40), .mov (.t 0), some (39, false)⟩,
    ⟨(some 41), .ld (some 2) (.t 3), some (39, false)⟩,
    ⟨(some 42), .call F_ref05_Many [(.t 40), (.t 41)], some (39, false)⟩,
    ⟨(some 43), .bin .gtr (.t 42) (.c (.int .i64 400)), some (39, false)⟩,
    ⟨(some 44), .pick (.t 39) (.c (.bool true)) (.t 43), none⟩])
  (.cond (.t 44)
   (.seq (.region false [⟨(some 4), .mov (.c (.int .i64 15)), none⟩])
   (.ret))
   (.skip)))
  (.seq (.region false [⟨(some 4), .mov (.c (.int .i64 0)), none⟩])
  (.ret)))))),
  [.tmp 4]⟩

/- ref05_Many -/
def A_ref05_ManyL0 : ACode :=
  .seq (.seq (.region false [⟨(some 7), .mov (.t 6), none⟩,
    ⟨(some 8), .mov (.t 0), none⟩,
    ⟨(some 9), .bin .lss (.t 7) (.t 8), none⟩])
  (.cond (.t 9)
   (.skip)
   (.exit 0)))
  (.seq (.block 1 (.region false [⟨(some 12), .mov (.t 5), none⟩,
    ⟨(some 13), .mov (.t 6), none⟩,
    ⟨(some 14), .idxP 2 1 (.t 3) (.t 13), none⟩,
    ⟨(some 15), .ld none (.t 14), none⟩,
    ⟨(some 16), .bin .mul (.t 12) (.t 15), none⟩,
    ⟨(some 5), .mov (.t 16), none⟩]))
  (.region false [⟨(some 10), .mov (.t 6), none⟩,
    ⟨(some 11), .bin .add (.t 10) (.c (.int .i64 1)), none⟩,
    ⟨(some 6), .mov (.t 11), none⟩]))
def A_ref05_Many : AFun := ⟨18,
  .seq (.region false [⟨(some 3), .box (.t 1), none⟩,
    ⟨(some 4), .mov (.c (.int .i64 0)), none⟩])
  (.seq (.region false [⟨(some 5), .mov (.c (.int .i64 1)), none⟩])
  (.seq (.seq (.region false [⟨(some 6), .mov (.c (.int .i64 0)), none⟩])
  (.block 0 (.loop A_ref05_ManyL0)))
  (.seq (.region false [⟨(some 17), .mov (.t 5), none⟩,
    ⟨(some 4), .mov (.t 17), none⟩])
  (.ret)))),
  [.tmp 4]⟩

/- slices_IndexFunc_int_int -/
def A_slices_IndexFunc_int_intL0 : ACode :=
  .seq (.region false [⟨(some 9), .bin .lss (.t 8) (.t 7), none⟩])
  (.seq (.cond (.t 9)
   (.skip)
   (.exit 0))
  (.seq (.block 1 (.seq (.region false [⟨(some 10), .mov (.t 8), none⟩,
    ⟨(some 5), .mov (.t 10), none⟩])
  (.seq (.region false [⟨(some 11), .mov (.t 1), none⟩,
    ⟨(some 12), .mov (.t 0), none⟩,
    ⟨(some 13), .mov (.t 5), none⟩,
    ⟨(some 14), .idxA 1 (.t 12) (.t 13), none⟩,
    ⟨(some 15), .ld none (.t 14), none⟩,
    ⟨(some 16), .callv (.t 11) [(.t 15)], none⟩])
  (.cond (.t 16)
   (.seq (.region false [⟨(some 17), .mov (.t 5), none⟩,
     ⟨(some 4), .mov (.t 17), none⟩])
   (.ret))
   (.skip)))))
  (.region false [⟨(some 18), .bin .add (.t 8) (.c (.int .i64 1)), none⟩,
    ⟨(some 8), .mov (.t 18), none⟩])))
def A_slices_IndexFunc_int_int : AFun := ⟨19,
  .seq (.region false [⟨(some 4), .mov (.c (.int .i64 0)), none⟩])
  (.seq (.seq (.region false [⟨(some 6), .mov (.t 0), none⟩,
    ⟨(some 7), .len (.t 6), none⟩,
    ⟨(some 8), .mov (.c (.int .i64 0)), none⟩])
  (.block 0 (.loop A_slices_IndexFunc_int_intL0)))
  (.seq (.region false [⟨(some 4), .mov (.c (.int .i64 (-1))), none⟩])
  (.ret))),
  [.tmp 4]⟩

/- strconv_FormatInt -/
def A_strconv_FormatInt : AFun := ⟨54,
  .seq (.region false [⟨(some 4), .mov (.c (.str [])), none⟩])
  (.seq (.seq (.region false [⟨(some 10), .mov (.t 1), none⟩,
    ⟨(some 11), .bin .eql (.t 10) (.c (.int .i64 10)), none⟩])
  (.cond (.t 11)
   (.seq (.seq (.region false [⟨(some 12), .mov (.t 0), none⟩,
     ⟨(some 13), .bin .leq (.c (.int .i64 0)) (.t 12), none⟩,
     ⟨(some 14), .mov (.t 13), none⟩,
     ⟨(some 15), .mov (.t 0), some (14, true)⟩,
     ⟨(some 16), .bin .lss (.t 15) (.c (.int .i64 100)), some (14, true)⟩,
     ⟨(some 17), .pick (.t 14) (.t 16) (.c (.bool false)), none⟩])
   (.cond (.t 17)
    (.seq (.region false [⟨(some 18), .mov (.t 0), none⟩,
      ⟨(some 19), .call F_strconv_small [(.t 18)], none⟩,
      ⟨(some 4), .mov (.t 19), none⟩])
    (.ret))
    (.skip)))
   (.seq (.region false [⟨(some 5), .alloc (List.replicate 24 (.int .u8 0)), none⟩])
   (.seq (.region false [⟨(some 20), .mov (.t 0), none⟩,
     ⟨(some 21), .conv .u64 (.t 20), none⟩,
     ⟨(some 6), .mov (.t 21), none⟩])
   (.seq (.seq (.region false [⟨(some 22), .mov (.t 0), none⟩,
     ⟨(some 23), .bin .lss (.t 22) (.c (.int .i64 0)), none⟩])
   (.cond (.t 23)
    (.region false [⟨(some 24), .mov (.t 6), none⟩,
      ⟨(some 25), .neg (.t 24), none⟩,
      ⟨(some 6), .mov (.t 25), none⟩])
    (.skip)))
   (.seq (.region false [⟨(some 26), .mov (.t 6), none⟩,
     ⟨(some 27), .call F_strconv_numDigits [(.t 26)], none⟩,
     ⟨(some 7), .mov (.t 27), none⟩])
   (.seq (.region false [⟨(some 28), .mov (.t 7), none⟩,
     ⟨(some 29), .bin .add (.c (.int .i64 1)) (.t 28), none⟩,
     ⟨(some 30), .slA 24 1 (.t 5) (some (.c (.int .i64 1))) (some (.t 29)) none, none⟩,
     ⟨(some 31), .mov (.t 6), none⟩,
     ⟨(some 32), .call F_strconv_formatBase10 [(.t 30), (.t 31)], none⟩])
   (.seq (.seq (.region false [⟨(some 33), .mov (.t 0), none⟩,
     ⟨(some 34), .bin .lss (.t 33) (.c (.int .i64 0)), none⟩])
   (.cond (.t 34)
    (.seq (.region false [⟨(some 35), .idxP 24 1 (.t 5) (.c (.int .i64 0)), none⟩,
      ⟨none, .st 1 (.t 35) (.c (.int .u8 45)), none⟩])
    (.seq (.region false [⟨(some 36), .mov (.t 7), none⟩,
      ⟨(some 37), .bin .add (.c (.int .i64 1)) (.t 36), none⟩,
      ⟨(some 38), .slA 24 1 (.t 5) none (some (.t 37)) none, none⟩,
      ⟨(some 39), .b2s (.t 38), none⟩,
      ⟨(some 4), .mov (.t 39), none⟩])
    (.ret)))
    (.skip)))
   (.seq (.region false [⟨(some 40), .mov (.t 7), none⟩,
     ⟨(some 41), .bin .add (.c (.int .i64 1)) (.t 40), none⟩,
     ⟨(some 42), .slA 24 1 (.t 5) (some (.c (.int .i64 1))) (some (.t 41)) none, none⟩,
     ⟨(some 43), .b2s (.t 42), none⟩,
     ⟨(some 4), .mov (.t 43), none⟩])
   (.ret)))))))))
   (.skip)))
  (.seq (.region false [⟨(some 45), .mov (.t 0), none⟩,
    ⟨(some 46), .conv .u64 (.t 45), none⟩,
    ⟨(some 47), .mov (.t 1), none⟩,
    ⟨(some 48), .mov (.t 0), none⟩,
    ⟨(some 49), .bin .lss (.t 48) (.c (.int .i64 0)), none⟩,
    ⟨(some 50), .call F_strconv_formatBits [(.c (.sl .ex [])), (.t 46), (.t 47), (.t 49), (.c (.bool false))], none⟩,
    ⟨(some 44), .mov (.t 50), none⟩,
    ⟨(some 51), .extr (.t 44) 0, none⟩,
    ⟨(some 52), .extr (.t 44) 1, none⟩,
    ⟨(some 8), .mov (.t 51), none⟩,
    ⟨(some 9), .mov (.t 52), none⟩])
  (.seq (.region false [⟨(some 53), .mov (.t 9), none⟩,
    ⟨(some 4), .mov (.t 53), none⟩])
  (.ret)))),
  [.tmp 4]⟩

/- words_fields_1 -/
def A_words_fields_1J0 : ACode :=
  .seq (.region false [⟨(some 6), .ld none (.t 1), none⟩,
    ⟨(some 3), .mov (.t 6), none⟩])
  (.seq (.region false [⟨(some 4), .alloc [.str [], .bool false], none⟩])
  (.seq (.region false [⟨(some 5), .mov (.c (.int .i64 0)), none⟩])
  (.seq (.label 1)
  (.seq (.seq (.region false [⟨(some 8), .mov (.t 3), none⟩,
    ⟨(some 9), .call F_words_unquote [(.t 8)], none⟩,
    ⟨(some 7), .mov (.t 9), none⟩,
    ⟨(some 10), .extr (.t 7) 0, none⟩,
    ⟨(some 11), .extr (.t 7) 1, none⟩,
    ⟨(some 12), .fldA 0 (.t 4), none⟩,
    ⟨none, .st 1 (.t 12) (.t 10), none⟩,
    ⟨(some 5), .mov (.t 11), none⟩])
  (.seq (.region false [⟨(some 13), .mov (.t 5), none⟩,
    ⟨(some 14), .bin .gtr (.t 13) (.c (.int .i64 0)), none⟩])
  (.cond (.t 14)
   (.seq (.region false [⟨(some 15), .fldA 1 (.t 4), none⟩,
     ⟨none, .st 1 (.t 15) (.c (.bool true)), none⟩])
   (.goto 0))
   (.skip))))
  (.seq (.region false [⟨(some 16), .fldA 1 (.t 4), none⟩,
    ⟨none, .st 1 (.t 16) (.c (.bool false)), none⟩])
  (.seq (.region false [⟨(some 18), .mov (.t 3), none⟩,
    ⟨(some 19), .call F_strings_Cut [(.t 18), (.c (.str [32]))], none⟩,
    ⟨(some 17), .mov (.t 19), none⟩,
    ⟨(some 20), .extr (.t 17) 0, none⟩,
    ⟨(some 21), .extr (.t 17) 1, none⟩,
    ⟨(some 22), .extr (.t 17) 2, none⟩,
    ⟨(some 23), .fldA 0 (.t 4), none⟩,
    ⟨none, .st 1 (.t 23) (.t 20), none⟩])
  (.seq (.region false [⟨(some 24), .fldA 0 (.t 4), none⟩,
    ⟨(some 25), .ld none (.t 24), none⟩,
    ⟨(some 26), .lenS (.t 25), none⟩,
    ⟨(some 5), .mov (.t 26), none⟩])
  (.seq (.seq (.region false [⟨(some 27), .fldA 0 (.t 4), none⟩,
    ⟨(some 28), .ld none (.t 27), none⟩,
    ⟨(some 29), .call F_words_isBare [(.t 28)], none⟩,
    ⟨(some 30), .not (.t 29), none⟩])
  (.cond (.t 30)
   (.seq (.region false [⟨(some 31), .mov (.t 0), none⟩,
     ⟨(some 32), .build [.str [], .bool false] [], none⟩,
     ⟨(some 33), .callv (.t 31) [(.t 32), (.c (.bool false))], none⟩])
   (.ret))
   (.skip)))
  (.seq (.label 0)
  (.seq (.region false [⟨(some 34), .mov (.t 3), none⟩,
    ⟨(some 35), .mov (.t 5), none⟩,
    ⟨(some 36), .ssl (.t 34) (some (.t 35)) none, none⟩,
    ⟨(some 3), .mov (.t 36), none⟩])
  (.seq (.seq (.region false [⟨(some 37), .mov (.t 3), none⟩,
    ⟨(some 38), .bin .neq (.t 37) (.c (.str [])), none⟩,
    ⟨(some 39), .mov (.t 38), none⟩,
    ⟨(some 40), .mov (.t 3), some (39, true)⟩,
    ⟨(some 41), .idxS (.t 40) (.c (.int .i64 0)), some (39, true)⟩,
    ⟨(some 42), .bin .neq (.t 41) (.c (.int .u8 32)), some (39, true)⟩,
    ⟨(some 43), .pick (.t 39) (.t 42) (.c (.bool false)), none⟩])
  (.cond (.t 43)
   (.seq (.region false [⟨(some 44), .mov (.t 0), none⟩,
     ⟨(some 45), .build [.str [], .bool false] [], none⟩,
     ⟨(some 46), .callv (.t 44) [(.t 45), (.c (.bool false))], none⟩])
   (.ret))
   (.skip)))
  (.seq (.seq (.region false [⟨(some 47), .mov (.t 0), none⟩,
    ⟨(some 48), .ld (some 2) (.t 4), none⟩,
    ⟨(some 49), .callv (.t 47) [(.t 48), (.c (.bool true))], none⟩,
    ⟨(some 50), .not (.t 49), none⟩,
    ⟨(some 51), .mov (.t 50), none⟩,
    ⟨(some 52), .mov (.t 3), some (51, false)⟩,
    ⟨(some 53), .bin .eql (.t 52) (.c (.str [])), some (51, false)⟩,
    ⟨(some 54), .pick (.t 51) (.c (.bool true)) (.t 53), none⟩])
  (.cond (.t 54)
   (.ret)
   (.skip)))
  (.seq (.region false [⟨(some 55), .mov (.t 3), none⟩,
    ⟨(some 56), .ssl (.t 55) (some (.c (.int .i64 1))) none, none⟩,
    ⟨(some 3), .mov (.t 56), none⟩])
  (.goto 1))))))))))))))
def A_words_fields_1 : AFun := ⟨57,
  .scopeJ A_words_fields_1J0,
  []⟩

/- words_unquote -/
def A_words_unquoteL0 : ACode :=
  .seq (.seq (.region false [⟨(some 16), .mov (.t 5), none⟩,
    ⟨(some 17), .mov (.t 0), none⟩,
    ⟨(some 18), .lenS (.t 17), none⟩,
    ⟨(some 19), .bin .lss (.t 16) (.t 18), none⟩])
  (.cond (.t 19)
   (.skip)
   (.exit 0)))
  (.seq (.block 1 (.seq (.region false [⟨(some 22), .mov (.t 0), none⟩,
    ⟨(some 23), .mov (.t 5), none⟩,
    ⟨(some 24), .idxS (.t 22) (.t 23), none⟩,
    ⟨(some 6), .mov (.t 24), none⟩])
  (.block 2 (.seq (.region false [⟨(some 26), .mov (.t 6), none⟩,
    ⟨(some 27), .bin .eql (.t 26) (.c (.int .u8 34)), none⟩,
    ⟨(some 25), .mov (.t 27), none⟩])
  (.cond (.t 25)
   (.seq (.region false [⟨(some 28), .mov (.t 4), none⟩,
     ⟨(some 29), .b2s (.t 28), none⟩,
     ⟨(some 30), .mov (.t 5), none⟩,
     ⟨(some 31), .bin .add (.t 30) (.c (.int .i64 1)), none⟩,
     ⟨(some 2), .mov (.t 29), none⟩,
     ⟨(some 3), .mov (.t 31), none⟩])
   (.ret))
   (.seq (.region false [⟨(some 33), .mov (.t 6), none⟩,
     ⟨(some 34), .bin .eql (.t 33) (.c (.int .u8 92)), none⟩,
     ⟨(some 32), .mov (.t 34), none⟩])
   (.cond (.t 32)
    (.seq (.region false [⟨(some 36), .mov (.t 0), none⟩,
      ⟨(some 37), .mov (.t 5), none⟩,
      ⟨(some 38), .bin .add (.t 37) (.c (.int .i64 1)), none⟩,
      ⟨(some 39), .ssl (.t 36) (some (.t 38)) none, none⟩,
      ⟨(some 40), .call F_words_unescape [(.t 39)], none⟩,
      ⟨(some 35), .mov (.t 40), none⟩,
      ⟨(some 41), .extr (.t 35) 0, none⟩,
      ⟨(some 42), .extr (.t 35) 1, none⟩,
      ⟨(some 7), .mov (.t 41), none⟩,
      ⟨(some 8), .mov (.t 42), none⟩])
    (.seq (.seq (.region false [⟨(some 43), .mov (.t 8), none⟩,
      ⟨(some 44), .bin .eql (.t 43) (.c (.int .i64 0)), none⟩])
    (.cond (.t 44)
     (.seq (.region false [⟨(some 2), .mov (.c (.str [])), none⟩,
       ⟨(some 3), .mov (.c (.int .i64 0)), none⟩])
     (.ret))
     (.skip)))
    (.seq (.region false [⟨(some 45), .mov (.t 4), none⟩,
      ⟨(some 46), .mov (.t 7), none⟩,
      ⟨(some 47), .bsl 1 (.int .u8 0) 1 [(0, (.t 46))], none⟩,
      ⟨(some 48), .app 1 1 (.t 45) (.t 47), none⟩,
      ⟨(some 4), .mov (.t 48), none⟩])
    (.region false [⟨(some 49), .mov (.t 5), none⟩,
      ⟨(some 50), .mov (.t 8), none⟩,
      ⟨(some 51), .bin .add (.t 49) (.t 50), none⟩,
      ⟨(some 5), .mov (.t 51), none⟩]))))
    (.seq (.region false [⟨(some 53), .mov (.t 6), none⟩,
      ⟨(some 54), .call F_words_isPlain [(.t 53)], none⟩,
      ⟨(some 52), .mov (.t 54), none⟩])
    (.cond (.t 52)
     (.region false [⟨(some 55), .mov (.t 4), none⟩,
       ⟨(some 56), .mov (.t 6), none⟩,
       ⟨(some 57), .bsl 1 (.int .u8 0) 1 [(0, (.t 56))], none⟩,
       ⟨(some 58), .app 1 1 (.t 55) (.t 57), none⟩,
       ⟨(some 4), .mov (.t 58), none⟩])
     (.seq (.region false [⟨(some 2), .mov (.c (.str [])), none⟩,
       ⟨(some 3), .mov (.c (.int .i64 0)), none⟩])
     (.ret)))))))))))
  (.region false [⟨(some 20), .mov (.t 5), none⟩,
    ⟨(some 21), .bin .add (.t 20) (.c (.int .i64 1)), none⟩,
    ⟨(some 5), .mov (.t 21), none⟩]))
def A_words_unquote : AFun := ⟨59,
  .seq (.region false [⟨(some 2), .mov (.c (.str [])), none⟩,
    ⟨(some 3), .mov (.c (.int .i64 0)), none⟩])
  (.seq (.seq (.region false [⟨(some 9), .mov (.t 0), none⟩,
    ⟨(some 10), .bin .eql (.t 9) (.c (.str [])), none⟩,
    ⟨(some 11), .mov (.t 10), none⟩,
    ⟨(some 12), .mov (.t 0), some (11, false)⟩,
    ⟨(some 13), .idxS (.t 12) (.c (.int .i64 0)), some (11, false)⟩,
    ⟨(some 14), .bin .neq (.t 13) (.c (.int .u8 34)), some (11, false)⟩,
    ⟨(some 15), .pick (.t 11) (.c (.bool true)) (.t 14), none⟩])
  (.cond (.t 15)
   (.seq (.region false [⟨(some 2), .mov (.c (.str [])), none⟩,
     ⟨(some 3), .mov (.c (.int .i64 0)), none⟩])
   (.ret))
   (.skip)))
  (.seq (.region false [⟨(some 4), .mov (.c (.sl .ex [])), none⟩])
  (.seq (.seq (.region false [⟨(some 5), .mov (.c (.int .i64 1)), none⟩])
  (.block 0 (.loop A_words_unquoteL0)))
  (.seq (.region false [⟨(some 2), .mov (.c (.str [])), none⟩,
    ⟨(some 3), .mov (.c (.int .i64 0)), none⟩])
  (.ret))))),
  [.tmp 2, .tmp 3]⟩

/- strings_Cut -/
def A_strings_Cut : AFun := ⟨13,
  .seq (.region false [⟨(some 4), .mov (.c (.str [])), none⟩,
    ⟨(some 5), .mov (.c (.str [])), none⟩,
    ⟨(some 6), .mov (.c (.bool false)), none⟩])
  (.seq (.region false [⟨(some 7), .mov (.t 0), none⟩,
    ⟨(some 8), .mov (.t 1), none⟩,
    ⟨(some 9), .call F_stringslite_Cut [(.t 7), (.t 8)], none⟩,
    ⟨(some 10), .extr (.t 9) 0, none⟩,
    ⟨(some 11), .extr (.t 9) 1, none⟩,
    ⟨(some 12), .extr (.t 9) 2, none⟩,
    ⟨(some 4), .mov (.t 10), none⟩,
    ⟨(some 5), .mov (.t 11), none⟩,
    ⟨(some 6), .mov (.t 12), none⟩])
  (.ret)),
  [.tmp 4, .tmp 5, .tmp 6]⟩

/- words_isBare -/
def A_words_isBareL0 : ACode :=
  .seq (.region false [⟨(some 7), .bin .lss (.t 6) (.t 5), none⟩])
  (.seq (.cond (.t 7)
   (.skip)
   (.exit 0))
  (.seq (.block 1 (.seq (.region false [⟨(some 8), .mov (.t 6), none⟩,
    ⟨(some 3), .mov (.t 8), none⟩])
  (.seq (.region false [⟨(some 9), .mov (.t 0), none⟩,
    ⟨(some 10), .mov (.t 3), none⟩,
    ⟨(some 11), .idxS (.t 9) (.t 10), none⟩,
    ⟨(some 12), .call F_words_isPlain [(.t 11)], none⟩,
    ⟨(some 13), .not (.t 12), none⟩,
    ⟨(some 14), .mov (.t 13), none⟩,
    ⟨(some 15), .mov (.t 0), some (14, false)⟩,
    ⟨(some 16), .mov (.t 3), some (14, false)⟩,
    ⟨(some 17), .idxS (.t 15) (.t 16), some (14, false)⟩,
    ⟨(some 18), .bin .eql (.t 17) (.c (.int .u8 32)), some (14, false)⟩,
    ⟨(some 19), .pick (.t 14) (.c (.bool true)) (.t 18), none⟩])
  (.cond (.t 19)
   (.seq (.region false [⟨(some 2), .mov (.c (.bool false)), none⟩])
   (.ret))
   (.skip)))))
  (.region false [⟨(some 20), .bin .add (.t 6) (.c (.int .i64 1)), none⟩,
    ⟨(some 6), .mov (.t 20), none⟩])))
def A_words_isBare : AFun := ⟨23,
  .seq (.region false [⟨(some 2), .mov (.c (.bool false)), none⟩])
  (.seq (.seq (.region false [⟨(some 4), .mov (.t 0), none⟩,
    ⟨(some 5), .lenS (.t 4), none⟩,
    ⟨(some 6), .mov (.c (.int .i64 0)), none⟩])
  (.block 0 (.loop A_words_isBareL0)))
  (.seq (.region false [⟨(some 21), .mov (.t 0), none⟩,
    ⟨(some 22), .bin .neq (.t 21) (.c (.str [])), none⟩,
    ⟨(some 2), .mov (.t 22), none⟩])
  (.ret))),
  [.tmp 2]⟩

/- strings_TrimPrefix -/
def A_strings_TrimPrefix : AFun := ⟨8,
  .seq (.region false [⟨(some 4), .mov (.c (.str [])), none⟩])
  (.seq (.region false [⟨(some 5), .mov (.t 0), none⟩,
    ⟨(some 6), .mov (.t 1), none⟩,
    ⟨(some 7), .call F_stringslite_TrimPrefix [(.t 5), (.t 6)], none⟩,
    ⟨(some 4), .mov (.t 7), none⟩])
  (.ret)),
  [.tmp 4]⟩

/- strings_Trim -/
def A_strings_Trim : AFun := ⟨43,
  .seq (.region false [⟨(some 4), .mov (.c (.str [])), none⟩])
  (.seq (.seq (.region false [⟨(some 7), .mov (.t 0), none⟩,
    ⟨(some 8), .bin .eql (.t 7) (.c (.str [])), none⟩,
    ⟨(some 9), .mov (.t 8), none⟩,
    ⟨(some 10), .mov (.t 1), some (9, false)⟩,
    ⟨(some 11), .bin .eql (.t 10) (.c (.str [])), some (9, false)⟩,
    ⟨(some 12), .pick (.t 9) (.c (.bool true)) (.t 11), none⟩])
  (.cond (.t 12)
   (.seq (.region false [⟨(some 13), .mov (.t 0), none⟩,
     ⟨(some 4), .mov (.t 13), none⟩])
   (.ret))
   (.skip)))
  (.seq (.seq (.region false [⟨(some 14), .mov (.t 1), none⟩,
    ⟨(some 15), .lenS (.t 14), none⟩,
    ⟨(some 16), .bin .eql (.t 15) (.c (.int .i64 1)), none⟩,
    ⟨(some 17), .mov (.t 16), none⟩,
    ⟨(some 18), .mov (.t 1), some (17, true)⟩,
    ⟨(some 19), .idxS (.t 18) (.c (.int .i64 0)), some (17, true)⟩,
    ⟨(some 20), .bin .lss (.t 19) (.c (.int .u8 128)), some (17, true)⟩,
    ⟨(some 21), .pick (.t 17) (.t 20) (.c (.bool false)), none⟩])
  (.cond (.t 21)
   (.seq (.region true [⟨(some 22), .mov (.t 0), none⟩,
     ⟨(some 23), .mov (.t 1), none⟩,
     ⟨(some 24), .idxS (.t 23) (.c (.int .i64 0)), none⟩,
     ⟨(some 25), .call F_strings_trimRightByte [(.t 22), (.t 24)], none⟩,
     ⟨(some 26), .mov (.t 1), none⟩,
     ⟨(some 27), .idxS (.t 26) (.c (.int .i64 0)), none⟩,
     ⟨(some 28), .call F_strings_trimLeftByte [(.t 25), (.t 27)], none⟩,
     ⟨(some 4), .mov (.t 28), none⟩])
   (.ret))
   (.skip)))
  (.seq (.seq (.region false [⟨(some 30), .mov (.t 1), none⟩,
    ⟨(some 31), .call F_strings_makeASCIISet [(.t 30)], none⟩,
    ⟨(some 29), .mov (.t 31), none⟩,
    ⟨(some 32), .extr (.t 29) 0, none⟩,
    ⟨(some 33), .extr (.t 29) 1, none⟩,
    ⟨(some 5), .alloc (List.replicate 256 (.bool false)), none⟩,
    ⟨none, .st 256 (.t 5) (.t 32), none⟩,
    ⟨(some 6), .mov (.t 33), none⟩])
  (.seq (.region false [⟨(some 34), .mov (.t 6), none⟩])
  (.cond (.t 34)
   (.seq (.region false [⟨(some 35), .mov (.t 0), none⟩,
     ⟨(some 36), .call F_strings_trimRightASCII [(.t 35), (.t 5)], none⟩,
     ⟨(some 37), .call F_strings_trimLeftASCII [(.t 36), (.t 5)], none⟩,
     ⟨(some 4), .mov (.t 37), none⟩])
   (.ret))
   (.skip))))
  (.seq (.region false [⟨(some 38), .mov (.t 0), none⟩,
    ⟨(some 39), .mov (.t 1), none⟩,
    ⟨(some 40), .call F_strings_trimRightUnicode [(.t 38), (.t 39)], none⟩,
    ⟨(some 41), .mov (.t 1), none⟩,
    ⟨(some 42), .call F_strings_trimLeftUnicode [(.t 40), (.t 41)], none⟩,
    ⟨(some 4), .mov (.t 42), none⟩])
  (.ret))))),
  [.tmp 4]⟩

/- strconv_ParseInt_103 -/
def A_strconv_ParseInt_103 : AFun := ⟨73,
  .seq (.region false [⟨(some 6), .mov (.c (.int .i64 0)), none⟩,
    ⟨(some 7), .mov (.c (.nilI)), none⟩])
  (.seq (.seq (.region false [⟨(some 12), .mov (.t 0), none⟩,
    ⟨(some 13), .bin .eql (.t 12) (.c (.str [])), none⟩])
  (.cond (.t 13)
   (.seq (.region false [⟨(some 14), .mki 157 (.c (.int .i64 2)), none⟩,
     ⟨(some 6), .mov (.c (.int .i64 0)), none⟩,
     ⟨(some 7), .mov (.t 14), none⟩])
   (.ret))
   (.skip)))
  (.seq (.region false [⟨(some 8), .mov (.c (.bool false)), none⟩])
  (.seq (.seq (.region false [⟨(some 15), .mov (.t 0), none⟩,
    ⟨(some 16), .idxS (.t 15) (.c (.int .i64 0)), none⟩])
  (.block 0 (.seq (.region false [⟨(some 18), .bin .eql (.t 16) (.c (.int .u8 43)), none⟩,
    ⟨(some 17), .mov (.t 18), none⟩])
  (.cond (.t 17)
   (.region false [⟨(some 19), .mov (.t 0), none⟩,
     ⟨(some 20), .ssl (.t 19) (some (.c (.int .i64 1))) none, none⟩,
     ⟨(some 0), .mov (.t 20), none⟩])
   (.seq (.region false [⟨(some 22), .bin .eql (.t 16) (.c (.int .u8 45)), none⟩,
     ⟨(some 21), .mov (.t 22), none⟩])
   (.cond (.t 21)
    (.seq (.region false [⟨(some 23), .mov (.t 0), none⟩,
      ⟨(some 24), .ssl (.t 23) (some (.c (.int .i64 1))) none, none⟩,
      ⟨(some 0), .mov (.t 24), none⟩])
    (.region false [⟨(some 8), .mov (.c (.bool true)), none⟩]))
    (.skip)))))))
  (.seq (.region false [⟨(some 9), .mov (.c (.int .u64 0)), none⟩])
  (.seq (.region false [⟨(some 26), .mov (.t 0), none⟩,
    ⟨(some 27), .mov (.t 1), none⟩,
    ⟨(some 28), .mov (.t 2), none⟩,
    ⟨(some 29), .call F_strconv_ParseUint [(.t 26), (.t 27), (.t 28)], none⟩,
    ⟨(some 25), .mov (.t 29), none⟩,
    ⟨(some 30), .extr (.t 25) 0, none⟩,
    ⟨(some 31), .extr (.t 25) 1, none⟩,
    ⟨(some 9), .mov (.t 30), none⟩,
    ⟨(some 7), .mov (.t 31), none⟩])
  (.seq (.seq (.bad)
  (.cond (.t 38)
   (.seq (.region false [⟨(some 39), .mov (.t 7), none⟩,
     ⟨(some 6), .mov (.c (.int .i64 0)), none⟩,
     ⟨(some 7), .mov (.t 39), none⟩])
   (.ret))
   (.skip)))
  (.seq (.seq (.region false [⟨(some 40), .mov (.t 2), none⟩,
    ⟨(some 41), .bin .eql (.t 40) (.c (.int .i64 0)), none⟩])
  (.cond (.t 41)
   (.region false [⟨(some 2), .mov (.c (.int .i64 64)), none⟩])
   (.skip)))
  (.seq (.region false [⟨(some 42), .mov (.t 2), none⟩,
    ⟨(some 43), .bin .sub (.t 42) (.c (.int .i64 1)), none⟩,
    ⟨(some 44), .conv .u64 (.t 43), none⟩,
    ⟨(some 45), .bin .shl (.c (.int .u64 1)) (.t 44), none⟩,
    ⟨(some 10), .mov (.t 45), none⟩])
  (.seq (.seq (.region false [⟨(some 46), .mov (.t 8), none⟩,
    ⟨(some 47), .not (.t 46), none⟩,
    ⟨(some 48), .mov (.t 47), none⟩,
    ⟨(some 49), .mov (.t 9), some (48, true)⟩,
    ⟨(some 50), .mov (.t 10), some (48, true)⟩,
    ⟨(some 51), .bin .geq (.t 49) (.t 50), some (48, true)⟩,
    ⟨(some 52), .pick (.t 48) (.t 51) (.c (.bool false)), none⟩])
  (.cond (.t 52)
   (.seq (.region false [⟨(some 53), .mov (.t 10), none⟩,
     ⟨(some 54), .bin .sub (.t 53) (.c (.int .u64 1)), none⟩,
     ⟨(some 55), .conv .i64 (.t 54), none⟩,
     ⟨(some 56), .mki 157 (.c (.int .i64 1)), none⟩,
     ⟨(some 6), .mov (.t 55), none⟩,
     ⟨(some 7), .mov (.t 56), none⟩])
   (.ret))
   (.skip)))
  (.seq (.seq (.region false [⟨(some 57), .mov (.t 8), none⟩,
    ⟨(some 58), .mov (.t 57), none⟩,
    ⟨(some 59), .mov (.t 9), some (58, true)⟩,
    ⟨(some 60), .mov (.t 10), some (58, true)⟩,
    ⟨(some 61), .bin .gtr (.t 59) (.t 60), some (58, true)⟩,
    ⟨(some 62), .pick (.t 58) (.t 61) (.c (.bool false)), none⟩])
  (.cond (.t 62)
   (.seq (.region false [⟨(some 63), .mov (.t 10), none⟩,
     ⟨(some 64), .conv .i64 (.t 63), none⟩,
     ⟨(some 65), .neg (.t 64), none⟩,
     ⟨(some 66), .mki 157 (.c (.int .i64 1)), none⟩,
     ⟨(some 6), .mov (.t 65), none⟩,
     ⟨(some 7), .mov (.t 66), none⟩])
   (.ret))
   (.skip)))
  (.seq (.region false [⟨(some 67), .mov (.t 9), none⟩,
    ⟨(some 68), .conv .i64 (.t 67), none⟩,
    ⟨(some 11), .mov (.t 68), none⟩])
  (.seq (.seq (.region false [⟨(some 69), .mov (.t 8), none⟩])
  (.cond (.t 69)
   (.region false [⟨(some 70), .mov (.t 11), none⟩,
     ⟨(some 71), .neg (.t 70), none⟩,
     ⟨(some 11), .mov (.t 71), none⟩])
   (.skip)))
  (.seq (.region false [⟨(some 72), .mov (.t 11), none⟩,
    ⟨(some 6), .mov (.t 72), none⟩,
    ⟨(some 7), .mov (.c (.nilI)), none⟩])
  (.ret)))))))))))))),
  [.tmp 6, .tmp 7]⟩

/- strconv_toError -/
def A_strconv_toError : AFun := ⟨43,
  .seq (.region false [⟨(some 10), .mov (.c (.nilI)), none⟩])
  (.seq (.seq (.region false [⟨(some 11), .mov (.t 4), none⟩])
  (.block 0 (.seq (.bad)
  (.cond (.t 12)
   (.seq (.region false [⟨(some 15), .mov (.t 0), none⟩,
     ⟨(some 16), .mov (.t 1), none⟩,
     ⟨(some 17), .call F_strconv_syntaxError [(.t 15), (.t 16)], none⟩,
     ⟨(some 18), .mki 161 (.t 17), none⟩,
     ⟨(some 10), .mov (.t 18), none⟩])
   (.ret))
   (.seq (.bad)
   (.cond (.t 19)
    (.seq (.region false [⟨(some 22), .mov (.t 0), none⟩,
      ⟨(some 23), .mov (.t 1), none⟩,
      ⟨(some 24), .call F_strconv_rangeError [(.t 22), (.t 23)], none⟩,
      ⟨(some 25), .mki 161 (.t 24), none⟩,
      ⟨(some 10), .mov (.t 25), none⟩])
    (.ret))
    (.seq (.bad)
    (.cond (.t 26)
     (.seq (.region false [⟨(some 29), .mov (.t 0), none⟩,
       ⟨(some 30), .mov (.t 1), none⟩,
       ⟨(some 31), .mov (.t 2), none⟩,
       ⟨(some 32), .call F_strconv_baseError [(.t 29), (.t 30), (.t 31)], none⟩,
       ⟨(some 33), .mki 161 (.t 32), none⟩,
       ⟨(some 10), .mov (.t 33), none⟩])
     (.ret))
     (.seq (.bad)
     (.cond (.t 34)
      (.seq (.region false [⟨(some 37), .mov (.t 0), none⟩,
        ⟨(some 38), .mov (.t 1), none⟩,
        ⟨(some 39), .mov (.t 3), none⟩,
        ⟨(some 40), .call F_strconv_bitSizeError [(.t 37), (.t 38), (.t 39)], none⟩,
        ⟨(some 41), .mki 161 (.t 40), none⟩,
        ⟨(some 10), .mov (.t 41), none⟩])
      (.ret))
      (.skip)))))))))))
  (.seq (.region false [⟨(some 42), .mov (.t 4), none⟩,
    ⟨(some 10), .mov (.t 42), none⟩])
  (.ret))),
  [.tmp 10]⟩

/- ref01_escaped -/
def A_ref01_escaped : AFun := ⟨33,
  .seq (.region false [⟨(some 2), .mov (.c (.str [])), none⟩])
  (.seq (.block 0 (.seq (.region false [⟨(some 4), .mov (.t 0), none⟩,
    ⟨(some 5), .call F_ref01_plain [(.t 4)], none⟩,
    ⟨(some 3), .mov (.t 5), none⟩])
  (.cond (.t 3)
   (.seq (.region false [⟨(some 6), .mov (.t 0), none⟩,
     ⟨(some 7), .bsl 1 (.int .u8 0) 1 [(0, (.t 6))], none⟩,
     ⟨(some 8), .b2s (.t 7), none⟩,
     ⟨(some 2), .mov (.t 8), none⟩])
   (.ret))
   (.seq (.region false [⟨(some 10), .mov (.t 0), none⟩,
     ⟨(some 11), .bin .eql (.t 10) (.c (.int .u8 34)), none⟩,
     ⟨(some 9), .mov (.t 11), none⟩])
   (.cond (.t 9)
    (.seq (.region false [⟨(some 2), .mov (.c (.str [92, 34])), none⟩])
    (.ret))
    (.seq (.region false [⟨(some 13), .mov (.t 0), none⟩,
      ⟨(some 14), .bin .eql (.t 13) (.c (.int .u8 92)), none⟩,
      ⟨(some 12), .mov (.t 14), none⟩])
    (.cond (.t 12)
     (.seq (.region false [⟨(some 2), .mov (.c (.str [92, 92])), none⟩])
     (.ret))
     (.seq (.region false [⟨(some 16), .mov (.t 0), none⟩,
       ⟨(some 17), .bin .eql (.t 16) (.c (.int .u8 10)), none⟩,
       ⟨(some 15), .mov (.t 17), none⟩])
     (.cond (.t 15)
      (.seq (.region false [⟨(some 2), .mov (.c (.str [92, 110])), none⟩])
      (.ret))
      (.seq (.region false [⟨(some 19), .mov (.t 0), none⟩,
        ⟨(some 20), .bin .eql (.t 19) (.c (.int .u8 13)), none⟩,
        ⟨(some 18), .mov (.t 20), none⟩])
      (.cond (.t 18)
       (.seq (.region false [⟨(some 2), .mov (.c (.str [92, 114])), none⟩])
       (.ret))
       (.seq (.region false [⟨(some 22), .mov (.t 0), none⟩,
         ⟨(some 23), .bin .eql (.t 22) (.c (.int .u8 9)), none⟩,
         ⟨(some 21), .mov (.t 23), none⟩])
       (.cond (.t 21)
        (.seq (.region false [⟨(some 2), .mov (.c (.str [92, 116])), none⟩])
        (.ret))
        (.skip))))))))))))))
  (.seq (.region false [⟨(some 24), .mov (.t 0), none⟩,
    ⟨(some 25), .bin .quo (.t 24) (.c (.int .u8 16)), none⟩,
    ⟨(some 26), .call F_ref01_hex [(.t 25)], none⟩,
    ⟨(some 27), .mov (.t 0), none⟩,
    ⟨(some 28), .bin .rem (.t 27) (.c (.int .u8 16)), none⟩,
    ⟨(some 29), .call F_ref01_hex [(.t 28)], none⟩,
    ⟨(some 30), .bsl 1 (.int .u8 0) 2 [(0, (.t 26)), (1, (.t 29))], none⟩,
    ⟨(some 31), .b2s (.t 30), none⟩,
    ⟨(some 32), .bin .add (.c (.str [92, 120])) (.t 31), none⟩,
    ⟨(some 2), .mov (.t 32), none⟩])
  (.ret))),
  [.tmp 2]⟩

/- ref01_plain -/
def A_ref01_plain : AFun := ⟨17,
  .seq (.region false [⟨(some 2), .mov (.c (.bool false)), none⟩])
  (.seq (.region false [⟨(some 3), .mov (.t 0), none⟩,
    ⟨(some 4), .bin .geq (.t 3) (.c (.int .u8 32)), none⟩,
    ⟨(some 5), .mov (.t 4), none⟩,
    ⟨(some 6), .mov (.t 0), some (5, true)⟩,
    ⟨(some 7), .bin .leq (.t 6) (.c (.int .u8 126)), some (5, true)⟩,
    ⟨(some 8), .pick (.t 5) (.t 7) (.c (.bool false)), none⟩,
    ⟨(some 9), .mov (.t 8), none⟩,
    ⟨(some 10), .mov (.t 0), some (9, true)⟩,
    ⟨(some 11), .bin .neq (.t 10) (.c (.int .u8 34)), some (9, true)⟩,
    ⟨(some 12), .pick (.t 9) (.t 11) (.c (.bool false)), none⟩,
    ⟨(some 13), .mov (.t 12), none⟩,
    ⟨(some 14), .mov (.t 0), some (13, true)⟩,
    ⟨(some 15), .bin .neq (.t 14) (.c (.int .u8 92)), some (13, true)⟩,
    ⟨(some 16), .pick (.t 13) (.t 15) (.c (.bool false)), none⟩,
    ⟨(some 2), .mov (.t 16), none⟩])
  (.ret)),
  [.tmp 2]⟩

/- ref01_digit -/
def A_ref01_digit : AFun := ⟨9,
  .seq (.region false [⟨(some 2), .mov (.c (.bool false)), none⟩])
  (.seq (.region false [⟨(some 3), .mov (.t 0), none⟩,
    ⟨(some 4), .bin .geq (.t 3) (.c (.int .u8 48)), none⟩,
    ⟨(some 5), .mov (.t 4), none⟩,
    ⟨(some 6), .mov (.t 0), some (5, true)⟩,
    ⟨(some 7), .bin .leq (.t 6) (.c (.int .u8 57)), some (5, true)⟩,
    ⟨(some 8), .pick (.t 5) (.t 7) (.c (.bool false)), none⟩,
    ⟨(some 2), .mov (.t 8), none⟩])
  (.ret)),
  [.tmp 2]⟩

/- slices_Index_uint8_uint8 -/
def A_slices_Index_uint8_uint8L0 : ACode :=
  .seq (.region false [⟨(some 9), .bin .lss (.t 8) (.t 7), none⟩])
  (.seq (.cond (.t 9)
   (.skip)
   (.exit 0))
  (.seq (.block 1 (.seq (.region false [⟨(some 10), .mov (.t 8), none⟩,
    ⟨(some 5), .mov (.t 10), none⟩])
  (.seq (.region false [⟨(some 11), .mov (.t 1), none⟩,
    ⟨(some 12), .mov (.t 0), none⟩,
    ⟨(some 13), .mov (.t 5), none⟩,
    ⟨(some 14), .idxA 1 (.t 12) (.t 13), none⟩,
    ⟨(some 15), .ld none (.t 14), none⟩,
    ⟨(some 16), .bin .eql (.t 11) (.t 15), none⟩])
  (.cond (.t 16)
   (.seq (.region false [⟨(some 17), .mov (.t 5), none⟩,
     ⟨(some 4), .mov (.t 17), none⟩])
   (.ret))
   (.skip)))))
  (.region false [⟨(some 18), .bin .add (.t 8) (.c (.int .i64 1)), none⟩,
    ⟨(some 8), .mov (.t 18), none⟩])))
def A_slices_Index_uint8_uint8 : AFun := ⟨19,
  .seq (.region false [⟨(some 4), .mov (.c (.int .i64 0)), none⟩])
  (.seq (.seq (.region false [⟨(some 6), .mov (.t 0), none⟩,
    ⟨(some 7), .len (.t 6), none⟩,
    ⟨(some 8), .mov (.c (.int .i64 0)), none⟩])
  (.block 0 (.loop A_slices_Index_uint8_uint8L0)))
  (.seq (.region false [⟨(some 4), .mov (.c (.int .i64 (-1))), none⟩])
  (.ret))),
  [.tmp 4]⟩

/- words_Name -/
def A_words_Name : AFun := ⟨23,
  .seq (.region false [⟨(some 2), .mov (.c (.bool false)), none⟩])
  (.seq (.seq (.region false [⟨(some 3), .mov (.t 0), none⟩,
    ⟨(some 4), .bin .eql (.t 3) (.c (.str [])), none⟩,
    ⟨(some 5), .mov (.t 4), none⟩,
    ⟨(some 6), .mov (.t 0), some (5, false)⟩,
    ⟨(some 7), .lenS (.t 6), some (5, false)⟩,
    ⟨(some 8), .bin .gtr (.t 7) (.c (.int .i64 16)), some (5, false)⟩,
    ⟨(some 9), .pick (.t 5) (.c (.bool true)) (.t 8), none⟩,
    ⟨(some 10), .mov (.t 9), none⟩,
    ⟨(some 11), .mov (.t 0), some (10, false)⟩,
    ⟨(some 12), .idxS (.t 11) (.c (.int .i64 0)), some (10, false)⟩,
    ⟨(some 13), .bin .lss (.t 12) (.c (.int .u8 97)), some (10, false)⟩,
    ⟨(some 14), .pick (.t 10) (.c (.bool true)) (.t 13), none⟩,
    ⟨(some 15), .mov (.t 14), none⟩,
    ⟨(some 16), .mov (.t 0), some (15, false)⟩,
    ⟨(some 17), .idxS (.t 16) (.c (.int .i64 0)), some (15, false)⟩,
    ⟨(some 18), .bin .gtr (.t 17) (.c (.int .u8 122)), some (15, false)⟩,
    ⟨(some 19), .pick (.t 15) (.c (.bool true)) (.t 18), none⟩])
  (.cond (.t 19)
   (.seq (.region false [⟨(some 2), .mov (.c (.bool false)), none⟩])
   (.ret))
   (.skip)))
  (.seq (.region false [⟨(some 20), .mov (.t 0), none⟩,
    ⟨(some 21), .call F_strings_Trim [(.t 20), (.c (.str [97, 98, 99, 100, 101, 102, 103, 104, 105, 106, 107, 108, 109, 110, 111, 112, 113, 114, 115, 116, 117, 118, 119, 120, 121, 122, 48, 49, 50, 51, 52, 53, 54, 55, 56, 57, 45]))], none⟩,
    ⟨(some 22), .bin .eql (.t 21) (.c (.str [])), none⟩,
    ⟨(some 2), .mov (.t 22), none⟩])
  (.ret))),
  [.tmp 2]⟩

/- slices_Contains_string_string -/
def A_slices_Contains_string_string : AFun := ⟨9,
  .seq (.region false [⟨(some 4), .mov (.c (.bool false)), none⟩])
  (.seq (.region false [⟨(some 5), .mov (.t 0), none⟩,
    ⟨(some 6), .mov (.t 1), none⟩,
    ⟨(some 7), .call F_slices_Index_string_string [(.t 5), (.t 6)], none⟩,
    ⟨(some 8), .bin .geq (.t 7) (.c (.int .i64 0)), none⟩,
    ⟨(some 4), .mov (.t 8), none⟩])
  (.ret)),
  [.tmp 4]⟩

/- bits_OnesCount8 -/
def S_bits_OnesCount8 : List UInt8 := [0, 1, 1, 2, 1, 2, 2, 3, 1, 2, 2, 3, 2, 3, 3, 4, 1, 2, 2, 3, 2, 3, 3, 4, 2, 3, 3, 4, 3, 4, 4, 5, 1, 2, 2, 3, 2, 3, 3, 4, 2, 3, 3, 4, 3, 4, 4, 5, 2, 3, 3, 4, 3, 4, 4, 5, 3, 4, 4, 5, 4, 5, 5, 6, 1, 2, 2, 3, 2, 3, 3, 4, 2, 3, 3, 4, 3, 4, 4, 5, 2, 3, 3, 4, 3, 4, 4, 5, 3, 4, 4, 5, 4, 5, 5, 6, 2, 3, 3, 4, 3, 4, 4, 5, 3, 4, 4, 5, 4, 5, 5, 6, 3, 4, 4, 5, 4, 5, 5, 6, 4, 5, 5, 6, 5, 6, 6, 7, 1, 2, 2, 3, 2, 3, 3, 4, 2, 3, 3, 4, 3, 4, 4, 5, 2, 3, 3, 4, 3, 4, 4, 5, 3, 4, 4, 5, 4, 5, 5, 6, 2, 3, 3, 4, 3, 4, 4, 5, 3, 4, 4, 5, 4, 5, 5, 6, 3, 4, 4, 5, 4, 5, 5, 6, 4, 5, 5, 6, 5, 6, 6, 7, 2, 3, 3, 4, 3, 4, 4, 5, 3, 4, 4, 5, 4, 5, 5, 6, 3, 4, 4, 5, 4, 5, 5, 6, 4, 5, 5, 6, 5, 6, 6, 7, 3, 4, 4, 5, 4, 5, 5, 6, 4, 5, 5, 6, 5, 6, 6, 7, 4, 5, 5, 6, 5, 6, 6, 7, 5, 6, 6, 7, 6, 7, 7, 8]
def A_bits_OnesCount8 : AFun := ⟨6,
  .seq (.region false [⟨(some 2), .mov (.c (.int .i64 0)), none⟩])
  (.seq (.region false [⟨(some 3), .mov (.t 0), none⟩,
    ⟨(some 4), .idxS (.c (.str S_bits_OnesCount8)) (.t 3), none⟩,
    ⟨(some 5), .conv .i64 (.t 4), none⟩,
    ⟨(some 2), .mov (.t 5), none⟩])
  (.ret)),
  [.tmp 2]⟩

/- shapes_Check_1 -/
def A_shapes_Check_1 : AFun := ⟨5,
  .seq (.region false [⟨(some 2), .mov (.c (.bool false)), none⟩])
  (.seq (.region false [⟨(some 3), .mov (.t 0), none⟩,
    ⟨(some 4), .bin .lss (.t 3) (.c (.int .i64 0)), none⟩,
    ⟨(some 2), .mov (.t 4), none⟩])
  (.ret)),
  [.tmp 2]⟩

/- shapes_Check_2 -/
def A_shapes_Check_2 : AFun := ⟨5,
  .seq (.region false [⟨(some 2), .mov (.c (.bool false)), none⟩])
  (.seq (.region false [⟨(some 3), .mov (.t 0), none⟩,
    ⟨(some 4), .bin .neq (.t 3) (.c (.int .i64 0)), none⟩,
    ⟨(some 2), .mov (.t 4), none⟩])
  (.ret)),
  [.tmp 2]⟩

/- shapes_Check_3 -/
def A_shapes_Check_3 : AFun := ⟨5,
  .seq (.region false [⟨(some 2), .mov (.c (.bool false)), none⟩])
  (.seq (.region false [⟨(some 3), .mov (.t 0), none⟩,
    ⟨(some 4), .bin .gtr (.t 3) (.c (.int .i64 400)), none⟩,
    ⟨(some 2), .mov (.t 4), none⟩])
  (.ret)),
  [.tmp 2]⟩

/- ref01_lower -/
def A_ref01_lower : AFun := ⟨9,
  .seq (.region false [⟨(some 2), .mov (.c (.bool false)), none⟩])
  (.seq (.region false [⟨(some 3), .mov (.t 0), none⟩,
    ⟨(some 4), .bin .geq (.t 3) (.c (.int .u8 97)), none⟩,
    ⟨(some 5), .mov (.t 4), none⟩,
    ⟨(some 6), .mov (.t 0), some (5, true)⟩,
    ⟨(some 7), .bin .leq (.t 6) (.c (.int .u8 122)), some (5, true)⟩,
    ⟨(some 8), .pick (.t 5) (.t 7) (.c (.bool false)), none⟩,
    ⟨(some 2), .mov (.t 8), none⟩])
  (.ret)),
  [.tmp 2]⟩

/- strconv_small -/
def S_strconv_small : List UInt8 := [48, 48, 48, 49, 48, 50, 48, 51, 48, 52, 48, 53, 48, 54, 48, 55, 48, 56, 48, 57, 49, 48, 49, 49, 49, 50, 49, 51, 49, 52, 49, 53, 49, 54, 49, 55, 49, 56, 49, 57, 50, 48, 50, 49, 50, 50, 50, 51, 50, 52, 50, 53, 50, 54, 50, 55, 50, 56, 50, 57, 51, 48, 51, 49, 51, 50, 51, 51, 51, 52, 51, 53, 51, 54, 51, 55, 51, 56, 51, 57, 52, 48, 52, 49, 52, 50, 52, 51, 52, 52, 52, 53, 52, 54, 52, 55, 52, 56, 52, 57, 53, 48, 53, 49, 53, 50, 53, 51, 53, 52, 53, 53, 53, 54, 53, 55, 53, 56, 53, 57, 54, 48, 54, 49, 54, 50, 54, 51, 54, 52, 54, 53, 54, 54, 54, 55, 54, 56, 54, 57, 55, 48, 55, 49, 55, 50, 55, 51, 55, 52, 55, 53, 55, 54, 55, 55, 55, 56, 55, 57, 56, 48, 56, 49, 56, 50, 56, 51, 56, 52, 56, 53, 56, 54, 56, 55, 56, 56, 56, 57, 57, 48, 57, 49, 57, 50, 57, 51, 57, 52, 57, 53, 57, 54, 57, 55, 57, 56, 57, 57]
def A_strconv_small : AFun := ⟨15,
  .seq (.region false [⟨(some 2), .mov (.c (.str [])), none⟩])
  (.seq (.seq (.region false [⟨(some 3), .mov (.t 0), none⟩,
    ⟨(some 4), .bin .lss (.t 3) (.c (.int .i64 10)), none⟩])
  (.cond (.t 4)
   (.seq (.region false [⟨(some 5), .mov (.t 0), none⟩,
     ⟨(some 6), .mov (.t 0), none⟩,
     ⟨(some 7), .bin .add (.t 6) (.c (.int .i64 1)), none⟩,
     ⟨(some 8), .ssl (.c (.str [48, 49, 50, 51, 52, 53, 54, 55, 56, 57, 97, 98, 99, 100, 101, 102, 103, 104, 105, 106, 107, 108, 109, 110, 111, 112, 113, 114, 115, 116, 117, 118, 119, 120, 121, 122])) (some (.t 5)) (some (.t 7)), none⟩,
     ⟨(some 2), .mov (.t 8), none⟩])
   (.ret))
   (.skip)))
  (.seq (.region false [⟨(some 9), .mov (.t 0), none⟩,
    ⟨(some 10), .bin .mul (.t 9) (.c (.int .i64 2)), none⟩,
    ⟨(some 11), .mov (.t 0), none⟩,
    ⟨(some 12), .bin .mul (.t 11) (.c (.int .i64 2)), none⟩,
    ⟨(some 13), .bin .add (.t 12) (.c (.int .i64 2)), none⟩,
    ⟨(some 14), .ssl (.c (.str S_strconv_small)) (some (.t 10)) (some (.t 13)), none⟩,
    ⟨(some 2), .mov (.t 14), none⟩])
  (.ret))),
  [.tmp 2]⟩

/- strconv_numDigits -/
def A_strconv_numDigits : AFun := ⟨15,
  .seq (.region false [⟨(some 2), .mov (.c (.int .i64 0)), none⟩])
  (.seq (.region false [⟨(some 4), .mov (.t 0), none⟩,
    ⟨(some 5), .call F_bits_Len64 [(.t 4)], none⟩,
    ⟨(some 6), .call F_strconv_log10Pow2 [(.t 5)], none⟩,
    ⟨(some 3), .mov (.t 6), none⟩])
  (.seq (.region false [⟨(some 7), .mov (.t 3), none⟩,
    ⟨(some 8), .mov (.t 0), none⟩,
    ⟨(some 9), .mov (.t 3), none⟩,
    ⟨(some 10), .idxP 20 1 (.gl 0) (.t 9), none⟩,
    ⟨(some 11), .ld none (.t 10), none⟩,
    ⟨(some 12), .bin .geq (.t 8) (.t 11), none⟩,
    ⟨(some 13), .call F_strconv_bool2_int [(.t 12)], none⟩,
    ⟨(some 14), .bin .add (.t 7) (.t 13), none⟩,
    ⟨(some 2), .mov (.t 14), none⟩])
  (.ret))),
  [.tmp 2]⟩

/- strconv_formatBase10 -/
def S_strconv_formatBase10 : List UInt8 := [48, 48, 48, 49, 48, 50, 48, 51, 48, 52, 48, 53, 48, 54, 48, 55, 48, 56, 48, 57, 49, 48, 49, 49, 49, 50, 49, 51, 49, 52, 49, 53, 49, 54, 49, 55, 49, 56, 49, 57, 50, 48, 50, 49, 50, 50, 50, 51, 50, 52, 50, 53, 50, 54, 50, 55, 50, 56, 50, 57, 51, 48, 51, 49, 51, 50, 51, 51, 51, 52, 51, 53, 51, 54, 51, 55, 51, 56, 51, 57, 52, 48, 52, 49, 52, 50, 52, 51, 52, 52, 52, 53, 52, 54, 52, 55, 52, 56, 52, 57, 53, 48, 53, 49, 53, 50, 53, 51, 53, 52, 53, 53, 53, 54, 53, 55, 53, 56, 53, 57, 54, 48, 54, 49, 54, 50, 54, 51, 54, 52, 54, 53, 54, 54, 54, 55, 54, 56, 54, 57, 55, 48, 55, 49, 55, 50, 55, 51, 55, 52, 55, 53, 55, 54, 55, 55, 55, 56, 55, 57, 56, 48, 56, 49, 56, 50, 56, 51, 56, 52, 56, 53, 56, 54, 56, 55, 56, 56, 56, 57, 57, 48, 57, 49, 57, 50, 57, 51, 57, 52, 57, 53, 57, 54, 57, 55, 57, 56, 57, 57]
def A_strconv_formatBase10L0 : ACode :=
  .seq (.seq (.region false [⟨(some 19), .mov (.t 4), none⟩,
    ⟨(some 20), .bin .geq (.t 19) (.c (.int .i64 8)), none⟩])
  (.cond (.t 20)
   (.skip)
   (.exit 0)))
  (.block 1 (.seq (.region false [⟨(some 21), .mov (.t 1), none⟩,
    ⟨(some 22), .bin .rem (.t 21) (.c (.int .u64 100000000)), none⟩,
    ⟨(some 23), .conv .u32 (.t 22), none⟩,
    ⟨(some 5), .mov (.t 23), none⟩])
  (.seq (.region false [⟨(some 24), .mov (.t 1), none⟩,
    ⟨(some 25), .bin .quo (.t 24) (.c (.int .u64 100000000)), none⟩,
    ⟨(some 1), .mov (.t 25), none⟩])
  (.seq (.region false [⟨(some 26), .mov (.t 5), none⟩,
    ⟨(some 27), .bin .quo (.t 26) (.c (.int .u32 10000)), none⟩,
    ⟨(some 28), .mov (.t 5), none⟩,
    ⟨(some 29), .bin .rem (.t 28) (.c (.int .u32 10000)), none⟩,
    ⟨(some 6), .mov (.t 27), none⟩,
    ⟨(some 7), .mov (.t 29), none⟩])
  (.seq (.region false [⟨(some 30), .mov (.t 7), none⟩,
    ⟨(some 31), .bin .quo (.t 30) (.c (.int .u32 100)), none⟩,
    ⟨(some 32), .bin .mul (.t 31) (.c (.int .u32 2)), none⟩,
    ⟨(some 33), .mov (.t 7), none⟩,
    ⟨(some 34), .bin .rem (.t 33) (.c (.int .u32 100)), none⟩,
    ⟨(some 35), .bin .mul (.t 34) (.c (.int .u32 2)), none⟩,
    ⟨(some 8), .mov (.t 32), none⟩,
    ⟨(some 9), .mov (.t 35), none⟩])
  (.seq (.region false [⟨(some 36), .mov (.t 6), none⟩,
    ⟨(some 37), .bin .quo (.t 36) (.c (.int .u32 100)), none⟩,
    ⟨(some 38), .bin .mul (.t 37) (.c (.int .u32 2)), none⟩,
    ⟨(some 39), .mov (.t 6), none⟩,
    ⟨(some 40), .bin .rem (.t 39) (.c (.int .u32 100)), none⟩,
    ⟨(some 41), .bin .mul (.t 40) (.c (.int .u32 2)), none⟩,
    ⟨(some 10), .mov (.t 38), none⟩,
    ⟨(some 11), .mov (.t 41), none⟩])
  (.seq (.region true [⟨(some 42), .mov (.t 0), none⟩,
    ⟨(some 43), .mov (.t 4), none⟩,
    ⟨(some 44), .bin .sub (.t 43) (.c (.int .i64 1)), none⟩,
    ⟨(some 45), .mov (.t 0), none⟩,
    ⟨(some 46), .mov (.t 4), none⟩,
    ⟨(some 47), .bin .sub (.t 46) (.c (.int .i64 2)), none⟩,
    ⟨(some 48), .mov (.t 9), none⟩,
    ⟨(some 49), .bin .add (.t 48) (.c (.int .u32 1)), none⟩,
    ⟨(some 50), .idxS (.c (.str S_strconv_formatBase10)) (.t 49), none⟩,
    ⟨(some 51), .mov (.t 9), none⟩,
    ⟨(some 52), .idxS (.c (.str S_strconv_formatBase10)) (.t 51), none⟩,
    ⟨(some 53), .idxA 1 (.t 42) (.t 44), none⟩,
    ⟨none, .st 1 (.t 53) (.t 50), none⟩,
    ⟨(some 54), .idxA 1 (.t 45) (.t 47), none⟩,
    ⟨none, .st 1 (.t 54) (.t 52), none⟩])
  (.seq (.region true [⟨(some 55), .mov (.t 0), none⟩,
    ⟨(some 56), .mov (.t 4), none⟩,
    ⟨(some 57), .bin .sub (.t 56) (.c (.int .i64 3)), none⟩,
    ⟨(some 58), .mov (.t 0), none⟩,
    ⟨(some 59), .mov (.t 4), none⟩,
    ⟨(some 60), .bin .sub (.t 59) (.c (.int .i64 4)), none⟩,
    ⟨(some 61), .mov (.t 8), none⟩,
    ⟨(some 62), .bin .add (.t 61) (.c (.int .u32 1)), none⟩,
    ⟨(some 63), .idxS (.c (.str S_strconv_formatBase10)) (.t 62), none⟩,
    ⟨(some 64), .mov (.t 8), none⟩,
    ⟨(some 65), .idxS (.c (.str S_strconv_formatBase10)) (.t 64), none⟩,
    ⟨(some 66), .idxA 1 (.t 55) (.t 57), none⟩,
    ⟨none, .st 1 (.t 66) (.t 63), none⟩,
    ⟨(some 67), .idxA 1 (.t 58) (.t 60), none⟩,
    ⟨none, .st 1 (.t 67) (.t 65), none⟩])
  (.seq (.region true [⟨(some 68), .mov (.t 0), none⟩,
    ⟨(some 69), .mov (.t 4), none⟩,
    ⟨(some 70), .bin .sub (.t 69) (.c (.int .i64 5)), none⟩,
    ⟨(some 71), .mov (.t 0), none⟩,
    ⟨(some 72), .mov (.t 4), none⟩,
    ⟨(some 73), .bin .sub (.t 72) (.c (.int .i64 6)), none⟩,
    ⟨(some 74), .mov (.t 11), none⟩,
    ⟨(some 75), .bin .add (.t 74) (.c (.int .u32 1)), none⟩,
    ⟨(some 76), .idxS (.c (.str S_strconv_formatBase10)) (.t 75), none⟩,
    ⟨(some 77), .mov (.t 11), none⟩,
    ⟨(some 78), .idxS (.c (.str S_strconv_formatBase10)) (.t 77), none⟩,
    ⟨(some 79), .idxA 1 (.t 68) (.t 70), none⟩,
    ⟨none, .st 1 (.t 79) (.t 76), none⟩,
    ⟨(some 80), .idxA 1 (.t 71) (.t 73), none⟩,
    ⟨none, .st 1 (.t 80) (.t 78), none⟩])
  (.seq (.region true [⟨(some 81), .mov (.t 0), none⟩,
    ⟨(some 82), .mov (.t 4), none⟩,
    ⟨(some 83), .bin .sub (.t 82) (.c (.int .i64 7)), none⟩,
    ⟨(some 84), .mov (.t 0), none⟩,
    ⟨(some 85), .mov (.t 4), none⟩,
    ⟨(some 86), .bin .sub (.t 85) (.c (.int .i64 8)), none⟩,
    ⟨(some 87), .mov (.t 10), none⟩,
    ⟨(some 88), .bin .add (.t 87) (.c (.int .u32 1)), none⟩,
    ⟨(some 89), .idxS (.c (.str S_strconv_formatBase10)) (.t 88), none⟩,
    ⟨(some 90), .mov (.t 10), none⟩,
    ⟨(some 91), .idxS (.c (.str S_strconv_formatBase10)) (.t 90), none⟩,
    ⟨(some 92), .idxA 1 (.t 81) (.t 83), none⟩,
    ⟨none, .st 1 (.t 92) (.t 89), none⟩,
    ⟨(some 93), .idxA 1 (.t 84) (.t 86), none⟩,
    ⟨none, .st 1 (.t 93) (.t 91), none⟩])
  (.region false [⟨(some 94), .mov (.t 4), none⟩,
    ⟨(some 95), .bin .sub (.t 94) (.c (.int .i64 8)), none⟩,
    ⟨(some 4), .mov (.t 95), none⟩])))))))))))
def A_strconv_formatBase10 : AFun := ⟨167,
  .seq (.region false [⟨(some 17), .mov (.t 0), none⟩,
    ⟨(some 18), .len (.t 17), none⟩,
    ⟨(some 4), .mov (.t 18), none⟩])
  (.seq (.block 0 (.loop A_strconv_formatBase10L0))
  (.seq (.region false [⟨(some 96), .mov (.t 1), none⟩,
    ⟨(some 97), .conv .u32 (.t 96), none⟩,
    ⟨(some 12), .mov (.t 97), none⟩])
  (.seq (.seq (.region false [⟨(some 98), .mov (.t 4), none⟩,
    ⟨(some 99), .bin .geq (.t 98) (.c (.int .i64 4)), none⟩])
  (.cond (.t 99)
   (.seq (.region false [⟨(some 100), .mov (.t 12), none⟩,
     ⟨(some 101), .bin .rem (.t 100) (.c (.int .u32 10000)), none⟩,
     ⟨(some 13), .mov (.t 101), none⟩])
   (.seq (.region false [⟨(some 102), .mov (.t 12), none⟩,
     ⟨(some 103), .bin .quo (.t 102) (.c (.int .u32 10000)), none⟩,
     ⟨(some 12), .mov (.t 103), none⟩])
   (.seq (.region false [⟨(some 104), .mov (.t 13), none⟩,
     ⟨(some 105), .bin .quo (.t 104) (.c (.int .u32 100)), none⟩,
     ⟨(some 106), .bin .mul (.t 105) (.c (.int .u32 2)), none⟩,
     ⟨(some 107), .mov (.t 13), none⟩,
     ⟨(some 108), .bin .rem (.t 107) (.c (.int .u32 100)), none⟩,
     ⟨(some 109), .bin .mul (.t 108) (.c (.int .u32 2)), none⟩,
     ⟨(some 14), .mov (.t 106), none⟩,
     ⟨(some 15), .mov (.t 109), none⟩])
   (.seq (.region true [⟨(some 110), .mov (.t 0), none⟩,
     ⟨(some 111), .mov (.t 4), none⟩,
     ⟨(some 112), .bin .sub (.t 111) (.c (.int .i64 1)), none⟩,
     ⟨(some 113), .mov (.t 0), none⟩,
     ⟨(some 114), .mov (.t 4), none⟩,
     ⟨(some 115), .bin .sub (.t 114) (.c (.int .i64 2)), none⟩,
     ⟨(some 116), .mov (.t 15), none⟩,
     ⟨(some 117), .bin .add (.t 116) (.c (.int .u32 1)), none⟩,
     ⟨(some 118), .idxS (.c (.str S_strconv_formatBase10)) (.t 117), none⟩,
     ⟨(some 119), .mov (.t 15), none⟩,
     ⟨(some 120), .idxS (.c (.str S_strconv_formatBase10)) (.t 119), none⟩,
     ⟨(some 121), .idxA 1 (.t 110) (.t 112), none⟩,
     ⟨none, .st 1 (.t 121) (.t 118), none⟩,
     ⟨(some 122), .idxA 1 (.t 113) (.t 115), none⟩,
     ⟨none, .st 1 (.t 122) (.t 120), none⟩])
   (.seq (.region true [⟨(some 123), .mov (.t 0), none⟩,
     ⟨(some 124), .mov (.t 4), none⟩,
     ⟨(some 125), .bin .sub (.t 124) (.c (.int .i64 3)), none⟩,
     ⟨(some 126), .mov (.t 0), none⟩,
     ⟨(some 127), .mov (.t 4), none⟩,
     ⟨(some 128), .bin .sub (.t 127) (.c (.int .i64 4)), none⟩,
     ⟨(some 129), .mov (.t 14), none⟩,
     ⟨(some 130), .bin .add (.t 129) (.c (.int .u32 1)), none⟩,
     ⟨(some 131), .idxS (.c (.str S_strconv_formatBase10)) (.t 130), none⟩,
     ⟨(some 132), .mov (.t 14), none⟩,
     ⟨(some 133), .idxS (.c (.str S_strconv_formatBase10)) (.t 132), none⟩,
     ⟨(some 134), .idxA 1 (.t 123) (.t 125), none⟩,
     ⟨none, .st 1 (.t 134) (.t 131), none⟩,
     ⟨(some 135), .idxA 1 (.t 126) (.t 128), none⟩,
     ⟨none, .st 1 (.t 135) (.t 133), none⟩])
   (.region false [⟨(some 136), .mov (.t 4), none⟩,
     ⟨(some 137), .bin .sub (.t 136) (.c (.int .i64 4)), none⟩,
     ⟨(some 4), .mov (.t 137), none⟩]))))))
   (.skip)))
  (.seq (.seq (.region false [⟨(some 138), .mov (.t 4), none⟩,
    ⟨(some 139), .bin .geq (.t 138) (.c (.int .i64 2)), none⟩])
  (.cond (.t 139)
   (.seq (.region false [⟨(some 140), .mov (.t 12), none⟩,
     ⟨(some 141), .bin .rem (.t 140) (.c (.int .u32 100)), none⟩,
     ⟨(some 142), .bin .mul (.t 141) (.c (.int .u32 2)), none⟩,
     ⟨(some 16), .mov (.t 142), none⟩])
   (.seq (.region false [⟨(some 143), .mov (.t 12), none⟩,
     ⟨(some 144), .bin .quo (.t 143) (.c (.int .u32 100)), none⟩,
     ⟨(some 12), .mov (.t 144), none⟩])
   (.seq (.region true [⟨(some 145), .mov (.t 0), none⟩,
     ⟨(some 146), .mov (.t 4), none⟩,
     ⟨(some 147), .bin .sub (.t 146) (.c (.int .i64 1)), none⟩,
     ⟨(some 148), .mov (.t 0), none⟩,
     ⟨(some 149), .mov (.t 4), none⟩,
     ⟨(some 150), .bin .sub (.t 149) (.c (.int .i64 2)), none⟩,
     ⟨(some 151), .mov (.t 16), none⟩,
     ⟨(some 152), .bin .add (.t 151) (.c (.int .u32 1)), none⟩,
     ⟨(some 153), .idxS (.c (.str S_strconv_formatBase10)) (.t 152), none⟩,
     ⟨(some 154), .mov (.t 16), none⟩,
     ⟨(some 155), .idxS (.c (.str S_strconv_formatBase10)) (.t 154), none⟩,
     ⟨(some 156), .idxA 1 (.t 145) (.t 147), none⟩,
     ⟨none, .st 1 (.t 156) (.t 153), none⟩,
     ⟨(some 157), .idxA 1 (.t 148) (.t 150), none⟩,
     ⟨none, .st 1 (.t 157) (.t 155), none⟩])
   (.region false [⟨(some 158), .mov (.t 4), none⟩,
     ⟨(some 159), .bin .sub (.t 158) (.c (.int .i64 2)), none⟩,
     ⟨(some 4), .mov (.t 159), none⟩]))))
   (.skip)))
  (.seq (.region false [⟨(some 160), .mov (.t 4), none⟩,
    ⟨(some 161), .bin .gtr (.t 160) (.c (.int .i64 0)), none⟩])
  (.cond (.t 161)
   (.region false [⟨(some 162), .mov (.t 0), none⟩,
     ⟨(some 163), .mov (.t 12), none⟩,
     ⟨(some 164), .bin .add (.c (.int .u32 48)) (.t 163), none⟩,
     ⟨(some 165), .conv .u8 (.t 164), none⟩,
     ⟨(some 166), .idxA 1 (.t 162) (.c (.int .i64 0)), none⟩,
     ⟨none, .st 1 (.t 166) (.t 165), none⟩])
   (.skip))))))),
  []⟩

/- strconv_formatBits -/
def A_strconv_formatBitsL0 : ACode :=
  .seq (.seq (.region false [⟨(some 44), .mov (.t 1), none⟩,
    ⟨(some 45), .mov (.t 15), none⟩,
    ⟨(some 46), .bin .geq (.t 44) (.t 45), none⟩])
  (.cond (.t 46)
   (.skip)
   (.exit 0)))
  (.block 1 (.seq (.region false [⟨(some 47), .mov (.t 13), none⟩,
    ⟨(some 48), .bin .sub (.t 47) (.c (.int .i64 1)), none⟩,
    ⟨(some 13), .mov (.t 48), none⟩])
  (.seq (.region false [⟨(some 49), .mov (.t 13), none⟩,
    ⟨(some 50), .mov (.t 1), none⟩,
    ⟨(some 51), .mov (.t 16), none⟩,
    ⟨(some 52), .bin .and (.t 50) (.t 51), none⟩,
    ⟨(some 53), .idxS (.c (.str [48, 49, 50, 51, 52, 53, 54, 55, 56, 57, 97, 98, 99, 100, 101, 102, 103, 104, 105, 106, 107, 108, 109, 110, 111, 112, 113, 114, 115, 116, 117, 118, 119, 120, 121, 122])) (.t 52), none⟩,
    ⟨(some 54), .idxP 65 1 (.t 12) (.t 49), none⟩,
    ⟨none, .st 1 (.t 54) (.t 53), none⟩])
  (.region false [⟨(some 55), .mov (.t 1), none⟩,
    ⟨(some 56), .mov (.t 14), none⟩,
    ⟨(some 57), .bin .shr (.t 55) (.t 56), none⟩,
    ⟨(some 1), .mov (.t 57), none⟩]))))
def A_strconv_formatBitsL1 : ACode :=
  .seq (.seq (.region false [⟨(some 66), .mov (.t 1), none⟩,
    ⟨(some 67), .mov (.t 17), none⟩,
    ⟨(some 68), .bin .geq (.t 66) (.t 67), none⟩])
  (.cond (.t 68)
   (.skip)
   (.exit 2)))
  (.block 3 (.seq (.region false [⟨(some 69), .mov (.t 13), none⟩,
    ⟨(some 70), .bin .sub (.t 69) (.c (.int .i64 1)), none⟩,
    ⟨(some 13), .mov (.t 70), none⟩])
  (.seq (.region false [⟨(some 71), .mov (.t 1), none⟩,
    ⟨(some 72), .mov (.t 17), none⟩,
    ⟨(some 73), .bin .quo (.t 71) (.t 72), none⟩,
    ⟨(some 18), .mov (.t 73), none⟩])
  (.seq (.region false [⟨(some 74), .mov (.t 13), none⟩,
    ⟨(some 75), .mov (.t 1), none⟩,
    ⟨(some 76), .mov (.t 18), none⟩,
    ⟨(some 77), .mov (.t 17), none⟩,
    ⟨(some 78), .bin .mul (.t 76) (.t 77), none⟩,
    ⟨(some 79), .bin .sub (.t 75) (.t 78), none⟩,
    ⟨(some 80), .idxS (.c (.str [48, 49, 50, 51, 52, 53, 54, 55, 56, 57, 97, 98, 99, 100, 101, 102, 103, 104, 105, 106, 107, 108, 109, 110, 111, 112, 113, 114, 115, 116, 117, 118, 119, 120, 121, 122])) (.t 79), none⟩,
    ⟨(some 81), .idxP 65 1 (.t 12) (.t 74), none⟩,
    ⟨none, .st 1 (.t 81) (.t 80), none⟩])
  (.region false [⟨(some 82), .mov (.t 18), none⟩,
    ⟨(some 1), .mov (.t 82), none⟩])))))
def A_strconv_formatBits : AFun := ⟨102,
  .seq (.region false [⟨(some 10), .mov (.c (.sl .ex [])), none⟩,
    ⟨(some 11), .mov (.c (.str [])), none⟩])
  (.seq (.seq (.region false [⟨(some 19), .mov (.t 2), none⟩,
    ⟨(some 20), .bin .lss (.t 19) (.c (.int .i64 2)), none⟩,
    ⟨(some 21), .mov (.t 20), none⟩,
    ⟨(some 22), .mov (.t 2), some (21, false)⟩,
    ⟨(some 23), .bin .eql (.t 22) (.c (.int .i64 10)), some (21, false)⟩,
    ⟨(some 24), .pick (.t 21) (.c (.bool true)) (.t 23), none⟩,
    ⟨(some 25), .mov (.t 24), none⟩,
    ⟨(some 26), .mov (.t 2), some (25, false)⟩,
    ⟨(some 27), .bin .gtr (.t 26) (.c (.int .i64 36)), some (25, false)⟩,
    ⟨(some 28), .pick (.t 25) (.c (.bool true)) (.t 27), none⟩])
  (.cond (.t 28)
   (.bad)
   (.skip)))
  (.seq (.region false [⟨(some 12), .alloc (List.replicate 65 (.int .u8 0)), none⟩])
  (.seq (.region false [⟨(some 13), .mov (.c (.int .i64 65)), none⟩])
  (.seq (.seq (.region false [⟨(some 30), .mov (.t 3), none⟩])
  (.cond (.t 30)
   (.region false [⟨(some 31), .mov (.t 1), none⟩,
     ⟨(some 32), .neg (.t 31), none⟩,
     ⟨(some 1), .mov (.t 32), none⟩])
   (.skip)))
  (.seq (.seq (.region false [⟨(some 33), .mov (.t 2), none⟩,
    ⟨(some 34), .call F_strconv_isPowerOfTwo [(.t 33)], none⟩])
  (.cond (.t 34)
   (.seq (.region false [⟨(some 35), .mov (.t 2), none⟩,
     ⟨(some 36), .conv .u64 (.t 35), none⟩,
     ⟨(some 37), .call F_bits_TrailingZeros [(.t 36)], none⟩,
     ⟨(some 38), .conv .u64 (.t 37), none⟩,
     ⟨(some 14), .mov (.t 38), none⟩])
   (.seq (.region false [⟨(some 39), .mov (.t 2), none⟩,
     ⟨(some 40), .conv .u64 (.t 39), none⟩,
     ⟨(some 15), .mov (.t 40), none⟩])
   (.seq (.region false [⟨(some 41), .mov (.t 2), none⟩,
     ⟨(some 42), .conv .u64 (.t 41), none⟩,
     ⟨(some 43), .bin .sub (.t 42) (.c (.int .u64 1)), none⟩,
     ⟨(some 16), .mov (.t 43), none⟩])
   (.seq (.block 0 (.loop A_strconv_formatBitsL0))
   (.seq (.region false [⟨(some 58), .mov (.t 13), none⟩,
     ⟨(some 59), .bin .sub (.t 58) (.c (.int .i64 1)), none⟩,
     ⟨(some 13), .mov (.t 59), none⟩])
   (.region false [⟨(some 60), .mov (.t 13), none⟩,
     ⟨(some 61), .mov (.t 1), none⟩,
     ⟨(some 62), .idxS (.c (.str [48, 49, 50, 51, 52, 53, 54, 55, 56, 57, 97, 98, 99, 100, 101, 102, 103, 104, 105, 106, 107, 108, 109, 110, 111, 112, 113, 114, 115, 116, 117, 118, 119, 120, 121, 122])) (.t 61), none⟩,
     ⟨(some 63), .idxP 65 1 (.t 12) (.t 60), none⟩,
     ⟨none, .st 1 (.t 63) (.t 62), none⟩]))))))
   (.seq (.region false [⟨(some 64), .mov (.t 2), none⟩,
     ⟨(some 65), .conv .u64 (.t 64), none⟩,
     ⟨(some 17), .mov (.t 65), none⟩])
   (.seq (.block 2 (.loop A_strconv_formatBitsL1))
   (.seq (.region false [⟨(some 83), .mov (.t 13), none⟩,
     ⟨(some 84), .bin .sub (.t 83) (.c (.int .i64 1)), none⟩,
     ⟨(some 13), .mov (.t 84), none⟩])
   (.region false [⟨(some 85), .mov (.t 13), none⟩,
     ⟨(some 86), .mov (.t 1), none⟩,
     ⟨(some 87), .idxS (.c (.str [48, 49, 50, 51, 52, 53, 54, 55, 56, 57, 97, 98, 99, 100, 101, 102, 103, 104, 105, 106, 107, 108, 109, 110, 111, 112, 113, 114, 115, 116, 117, 118, 119, 120, 121, 122])) (.t 86), none⟩,
     ⟨(some 88), .idxP 65 1 (.t 12) (.t 85), none⟩,
     ⟨none, .st 1 (.t 88) (.t 87), none⟩]))))))
  (.seq (.seq (.region false [⟨(some 89), .mov (.t 3), none⟩])
  (.cond (.t 89)
   (.seq (.region false [⟨(some 90), .mov (.t 13), none⟩,
     ⟨(some 91), .bin .sub (.t 90) (.c (.int .i64 1)), none⟩,
     ⟨(some 13), .mov (.t 91), none⟩])
   (.region false [⟨(some 92), .mov (.t 13), none⟩,
     ⟨(some 93), .idxP 65 1 (.t 12) (.t 92), none⟩,
     ⟨none, .st 1 (.t 93) (.c (.int .u8 45)), none⟩]))
   (.skip)))
  (.seq (.seq (.region false [⟨(some 94), .mov (.t 4), none⟩])
  (.cond (.t 94)
   (.seq (.region false [⟨(some 95), .mov (.t 0), none⟩,
     ⟨(some 96), .mov (.t 13), none⟩,
     ⟨(some 97), .slA 65 1 (.t 12) (some (.t 96)) none none, none⟩,
     ⟨(some 98), .app 1 1 (.t 95) (.t 97), none⟩,
     ⟨(some 10), .mov (.t 98), none⟩])
   (.ret))
   (.skip)))
  (.seq (.region false [⟨(some 99), .mov (.t 13), none⟩,
    ⟨(some 100), .slA 65 1 (.t 12) (some (.t 99)) none none, none⟩,
    ⟨(some 101), .b2s (.t 100), none⟩,
    ⟨(some 11), .mov (.t 101), none⟩])
  (.ret))))))))),
  [.tmp 10, .tmp 11]⟩

/- words_unescape -/
def A_words_unescapeL0 : ACode :=
  .seq (.region false [⟨(some 13), .bin .lss (.t 12) (.c (.int .i64 5)), none⟩])
  (.seq (.cond (.t 13)
   (.skip)
   (.exit 0))
  (.seq (.block 1 (.seq (.region false [⟨(some 14), .idxG 5 2 (some 2) (.t 11) (.t 12), none⟩,
    ⟨(some 5), .alloc [.int .u8 0, .int .u8 0], none⟩,
    ⟨none, .st 2 (.t 5) (.t 14), none⟩])
  (.seq (.region true [⟨(some 15), .fldA 1 (.t 5), none⟩,
    ⟨(some 16), .ld none (.t 15), none⟩,
    ⟨(some 17), .mov (.t 0), none⟩,
    ⟨(some 18), .idxS (.t 17) (.c (.int .i64 0)), none⟩,
    ⟨(some 19), .bin .eql (.t 16) (.t 18), none⟩])
  (.cond (.t 19)
   (.seq (.region false [⟨(some 20), .fldA 0 (.t 5), none⟩,
     ⟨(some 21), .ld none (.t 20), none⟩,
     ⟨(some 2), .mov (.t 21), none⟩,
     ⟨(some 3), .mov (.c (.int .i64 1)), none⟩])
   (.ret))
   (.skip)))))
  (.region false [⟨(some 22), .bin .add (.t 12) (.c (.int .i64 1)), none⟩,
    ⟨(some 12), .mov (.t 22), none⟩])))
def A_words_unescape : AFun := ⟨56,
  .seq (.region false [⟨(some 2), .mov (.c (.int .u8 0)), none⟩,
    ⟨(some 3), .mov (.c (.int .i64 0)), none⟩])
  (.seq (.seq (.region false [⟨(some 9), .mov (.t 0), none⟩,
    ⟨(some 10), .bin .eql (.t 9) (.c (.str [])), none⟩])
  (.cond (.t 10)
   (.seq (.region false [⟨(some 2), .mov (.c (.int .u8 0)), none⟩,
     ⟨(some 3), .mov (.c (.int .i64 0)), none⟩])
   (.ret))
   (.skip)))
  (.seq (.seq (.region false [⟨(some 11), .ld (some 10) (.gl 1), none⟩,
    ⟨(some 12), .mov (.c (.int .i64 0)), none⟩])
  (.block 0 (.loop A_words_unescapeL0)))
  (.seq (.seq (.region false [⟨(some 23), .mov (.t 0), none⟩,
    ⟨(some 24), .idxS (.t 23) (.c (.int .i64 0)), none⟩,
    ⟨(some 25), .bin .neq (.t 24) (.c (.int .u8 120)), none⟩,
    ⟨(some 26), .mov (.t 25), none⟩,
    ⟨(some 27), .mov (.t 0), some (26, false)⟩,
    ⟨(some 28), .lenS (.t 27), some (26, false)⟩,
    ⟨(some 29), .bin .lss (.t 28) (.c (.int .i64 3)), some (26, false)⟩,
    ⟨(some 30), .pick (.t 26) (.c (.bool true)) (.t 29), none⟩])
  (.cond (.t 30)
   (.seq (.region false [⟨(some 2), .mov (.c (.int .u8 0)), none⟩,
     ⟨(some 3), .mov (.c (.int .i64 0)), none⟩])
   (.ret))
   (.skip)))
  (.seq (.region true [⟨(some 31), .mov (.t 0), none⟩,
    ⟨(some 32), .idxS (.t 31) (.c (.int .i64 1)), none⟩,
    ⟨(some 33), .call F_strings_IndexByte [(.c (.str [48, 49, 50, 51, 52, 53, 54, 55, 56, 57, 97, 98, 99, 100, 101, 102])), (.t 32)], none⟩,
    ⟨(some 34), .mov (.t 0), none⟩,
    ⟨(some 35), .idxS (.t 34) (.c (.int .i64 2)), none⟩,
    ⟨(some 36), .call F_strings_IndexByte [(.c (.str [48, 49, 50, 51, 52, 53, 54, 55, 56, 57, 97, 98, 99, 100, 101, 102])), (.t 35)], none⟩,
    ⟨(some 6), .mov (.t 33), none⟩,
    ⟨(some 7), .mov (.t 36), none⟩])
  (.seq (.seq (.region false [⟨(some 37), .mov (.t 6), none⟩,
    ⟨(some 38), .bin .lss (.t 37) (.c (.int .i64 0)), none⟩,
    ⟨(some 39), .mov (.t 38), none⟩,
    ⟨(some 40), .mov (.t 7), some (39, false)⟩,
    ⟨(some 41), .bin .lss (.t 40) (.c (.int .i64 0)), some (39, false)⟩,
    ⟨(some 42), .pick (.t 39) (.c (.bool true)) (.t 41), none⟩])
  (.cond (.t 42)
   (.seq (.region false [⟨(some 2), .mov (.c (.int .u8 0)), none⟩,
     ⟨(some 3), .mov (.c (.int .i64 0)), none⟩])
   (.ret))
   (.skip)))
  (.seq (.region false [⟨(some 43), .mov (.t 6), none⟩,
    ⟨(some 44), .bin .shl (.t 43) (.c (.int .u64 4)), none⟩,
    ⟨(some 45), .mov (.t 7), none⟩,
    ⟨(some 46), .bin .or (.t 44) (.t 45), none⟩,
    ⟨(some 47), .conv .u8 (.t 46), none⟩,
    ⟨(some 8), .mov (.t 47), none⟩])
  (.seq (.seq (.region false [⟨(some 48), .mov (.t 8), none⟩,
    ⟨(some 49), .call F_words_isPlain [(.t 48)], none⟩,
    ⟨(some 50), .mov (.t 49), none⟩,
    ⟨(some 51), .mov (.t 8), some (50, false)⟩,
    ⟨(some 52), .call F_words_letterOf [(.t 51)], some (50, false)⟩,
    ⟨(some 53), .bin .neq (.t 52) (.c (.int .u8 0)), some (50, false)⟩,
    ⟨(some 54), .pick (.t 50) (.c (.bool true)) (.t 53), none⟩])
  (.cond (.t 54)
   (.seq (.region false [⟨(some 2), .mov (.c (.int .u8 0)), none⟩,
     ⟨(some 3), .mov (.c (.int .i64 0)), none⟩])
   (.ret))
   (.skip)))
  (.seq (.region false [⟨(some 55), .mov (.t 8), none⟩,
    ⟨(some 2), .mov (.t 55), none⟩,
    ⟨(some 3), .mov (.c (.int .i64 3)), none⟩])
  (.ret))))))))),
  [.tmp 2, .tmp 3]⟩

/- words_isPlain -/
def A_words_isPlain : AFun := ⟨17,
  .seq (.region false [⟨(some 2), .mov (.c (.bool false)), none⟩])
  (.seq (.region false [⟨(some 3), .mov (.t 0), none⟩,
    ⟨(some 4), .bin .geq (.t 3) (.c (.int .u8 32)), none⟩,
    ⟨(some 5), .mov (.t 4), none⟩,
    ⟨(some 6), .mov (.t 0), some (5, true)⟩,
    ⟨(some 7), .bin .leq (.t 6) (.c (.int .u8 126)), some (5, true)⟩,
    ⟨(some 8), .pick (.t 5) (.t 7) (.c (.bool false)), none⟩,
    ⟨(some 9), .mov (.t 8), none⟩,
    ⟨(some 10), .mov (.t 0), some (9, true)⟩,
    ⟨(some 11), .bin .neq (.t 10) (.c (.int .u8 34)), some (9, true)⟩,
    ⟨(some 12), .pick (.t 9) (.t 11) (.c (.bool false)), none⟩,
    ⟨(some 13), .mov (.t 12), none⟩,
    ⟨(some 14), .mov (.t 0), some (13, true)⟩,
    ⟨(some 15), .bin .neq (.t 14) (.c (.int .u8 92)), some (13, true)⟩,
    ⟨(some 16), .pick (.t 13) (.t 15) (.c (.bool false)), none⟩,
    ⟨(some 2), .mov (.t 16), none⟩])
  (.ret)),
  [.tmp 2]⟩

/- stringslite_Cut -/
def A_stringslite_Cut : AFun := ⟨23,
  .seq (.region false [⟨(some 4), .mov (.c (.str [])), none⟩,
    ⟨(some 5), .mov (.c (.str [])), none⟩,
    ⟨(some 6), .mov (.c (.bool false)), none⟩])
  (.seq (.seq (.region false [⟨(some 8), .mov (.t 0), none⟩,
    ⟨(some 9), .mov (.t 1), none⟩,
    ⟨(some 10), .call F_stringslite_Index [(.t 8), (.t 9)], none⟩,
    ⟨(some 7), .mov (.t 10), none⟩])
  (.seq (.region false [⟨(some 11), .mov (.t 7), none⟩,
    ⟨(some 12), .bin .geq (.t 11) (.c (.int .i64 0)), none⟩])
  (.cond (.t 12)
   (.seq (.region true [⟨(some 13), .mov (.t 0), none⟩,
     ⟨(some 14), .mov (.t 7), none⟩,
     ⟨(some 15), .ssl (.t 13) none (some (.t 14)), none⟩,
     ⟨(some 16), .mov (.t 0), none⟩,
     ⟨(some 17), .mov (.t 7), none⟩,
     ⟨(some 18), .mov (.t 1), none⟩,
     ⟨(some 19), .lenS (.t 18), none⟩,
     ⟨(some 20), .bin .add (.t 17) (.t 19), none⟩,
     ⟨(some 21), .ssl (.t 16) (some (.t 20)) none, none⟩,
     ⟨(some 4), .mov (.t 15), none⟩,
     ⟨(some 5), .mov (.t 21), none⟩,
     ⟨(some 6), .mov (.c (.bool true)), none⟩])
   (.ret))
   (.skip))))
  (.seq (.region false [⟨(some 22), .mov (.t 0), none⟩,
    ⟨(some 4), .mov (.t 22), none⟩,
    ⟨(some 5), .mov (.c (.str [])), none⟩,
    ⟨(some 6), .mov (.c (.bool false)), none⟩])
  (.ret))),
  [.tmp 4, .tmp 5, .tmp 6]⟩

/- stringslite_TrimPrefix -/
def A_stringslite_TrimPrefix : AFun := ⟨13,
  .seq (.region false [⟨(some 4), .mov (.c (.str [])), none⟩])
  (.seq (.seq (.region false [⟨(some 5), .mov (.t 0), none⟩,
    ⟨(some 6), .mov (.t 1), none⟩,
    ⟨(some 7), .call F_stringslite_HasPrefix [(.t 5), (.t 6)], none⟩])
  (.cond (.t 7)
   (.seq (.region false [⟨(some 8), .mov (.t 0), none⟩,
     ⟨(some 9), .mov (.t 1), none⟩,
     ⟨(some 10), .lenS (.t 9), none⟩,
     ⟨(some 11), .ssl (.t 8) (some (.t 10)) none, none⟩,
     ⟨(some 4), .mov (.t 11), none⟩])
   (.ret))
   (.skip)))
  (.seq (.region false [⟨(some 12), .mov (.t 0), none⟩,
    ⟨(some 4), .mov (.t 12), none⟩])
  (.ret))),
  [.tmp 4]⟩

/- strings_trimLeftByte -/
def A_strings_trimLeftByteL0 : ACode :=
  .seq (.seq (.region false [⟨(some 5), .mov (.t 0), none⟩,
    ⟨(some 6), .lenS (.t 5), none⟩,
    ⟨(some 7), .bin .gtr (.t 6) (.c (.int .i64 0)), none⟩,
    ⟨(some 8), .mov (.t 7), none⟩,
    ⟨(some 9), .mov (.t 0), some (8, true)⟩,
    ⟨(some 10), .idxS (.t 9) (.c (.int .i64 0)), some (8, true)⟩,
    ⟨(some 11), .mov (.t 1), some (8, true)⟩,
    ⟨(some 12), .bin .eql (.t 10) (.t 11), some (8, true)⟩,
    ⟨(some 13), .pick (.t 8) (.t 12) (.c (.bool false)), none⟩])
  (.cond (.t 13)
   (.skip)
   (.exit 0)))
  (.block 1 (.region false [⟨(some 14), .mov (.t 0), none⟩,
    ⟨(some 15), .ssl (.t 14) (some (.c (.int .i64 1))) none, none⟩,
    ⟨(some 0), .mov (.t 15), none⟩]))
def A_strings_trimLeftByte : AFun := ⟨17,
  .seq (.region false [⟨(some 4), .mov (.c (.str [])), none⟩])
  (.seq (.block 0 (.loop A_strings_trimLeftByteL0))
  (.seq (.region false [⟨(some 16), .mov (.t 0), none⟩,
    ⟨(some 4), .mov (.t 16), none⟩])
  (.ret))),
  [.tmp 4]⟩

/- strings_trimRightByte -/
def A_strings_trimRightByteL0 : ACode :=
  .seq (.seq (.region false [⟨(some 5), .mov (.t 0), none⟩,
    ⟨(some 6), .lenS (.t 5), none⟩,
    ⟨(some 7), .bin .gtr (.t 6) (.c (.int .i64 0)), none⟩,
    ⟨(some 8), .mov (.t 7), none⟩,
    ⟨(some 9), .mov (.t 0), some (8, true)⟩,
    ⟨(some 10), .mov (.t 0), some (8, true)⟩,
    ⟨(some 11), .lenS (.t 10), some (8, true)⟩,
    ⟨(some 12), .bin .sub (.t 11) (.c (.int .i64 1)), some (8, true)⟩,
    ⟨(some 13), .idxS (.t 9) (.t 12), some (8, true)⟩,
    ⟨(some 14), .mov (.t 1), some (8, true)⟩,
    ⟨(some 15), .bin .eql (.t 13) (.t 14), some (8, true)⟩,
    ⟨(some 16), .pick (.t 8) (.t 15) (.c (.bool false)), none⟩])
  (.cond (.t 16)
   (.skip)
   (.exit 0)))
  (.block 1 (.region false [⟨(some 17), .mov (.t 0), none⟩,
    ⟨(some 18), .mov (.t 0), none⟩,
    ⟨(some 19), .lenS (.t 18), none⟩,
    ⟨(some 20), .bin .sub (.t 19) (.c (.int .i64 1)), none⟩,
    ⟨(some 21), .ssl (.t 17) none (some (.t 20)), none⟩,
    ⟨(some 0), .mov (.t 21), none⟩]))
def A_strings_trimRightByte : AFun := ⟨23,
  .seq (.region false [⟨(some 4), .mov (.c (.str [])), none⟩])
  (.seq (.block 0 (.loop A_strings_trimRightByteL0))
  (.seq (.region false [⟨(some 22), .mov (.t 0), none⟩,
    ⟨(some 4), .mov (.t 22), none⟩])
  (.ret))),
  [.tmp 4]⟩

/- strings_makeASCIISet -/
def A_strings_makeASCIISetL0 : ACode :=
  .seq (.seq (.region false [⟨(some 6), .mov (.t 4), none⟩,
    ⟨(some 7), .mov (.t 0), none⟩,
    ⟨(some 8), .lenS (.t 7), none⟩,
    ⟨(some 9), .bin .lss (.t 6) (.t 8), none⟩])
  (.cond (.t 9)
   (.skip)
   (.exit 0)))
  (.seq (.block 1 (.seq (.region false [⟨(some 12), .mov (.t 0), none⟩,
    ⟨(some 13), .mov (.t 4), none⟩,
    ⟨(some 14), .idxS (.t 12) (.t 13), none⟩,
    ⟨(some 5), .mov (.t 14), none⟩])
  (.seq (.seq (.region false [⟨(some 15), .mov (.t 5), none⟩,
    ⟨(some 16), .bin .geq (.t 15) (.c (.int .u8 128)), none⟩])
  (.cond (.t 16)
   (.seq (.region false [⟨(some 17), .ld (some 256) (.t 2), none⟩,
     ⟨none, .st 256 (.t 2) (.t 17), none⟩,
     ⟨(some 3), .mov (.c (.bool false)), none⟩])
   (.ret))
   (.skip)))
  (.region false [⟨(some 18), .mov (.t 5), none⟩,
    ⟨(some 19), .idxP 256 1 (.t 2) (.t 18), none⟩,
    ⟨none, .st 1 (.t 19) (.c (.bool true)), none⟩]))))
  (.region false [⟨(some 10), .mov (.t 4), none⟩,
    ⟨(some 11), .bin .add (.t 10) (.c (.int .i64 1)), none⟩,
    ⟨(some 4), .mov (.t 11), none⟩]))
def A_strings_makeASCIISet : AFun := ⟨21,
  .seq (.region false [⟨(some 2), .alloc (List.replicate 256 (.bool false)), none⟩,
    ⟨(some 3), .mov (.c (.bool false)), none⟩])
  (.seq (.seq (.region false [⟨(some 4), .mov (.c (.int .i64 0)), none⟩])
  (.block 0 (.loop A_strings_makeASCIISetL0)))
  (.seq (.region false [⟨(some 20), .ld (some 256) (.t 2), none⟩,
    ⟨none, .st 256 (.t 2) (.t 20), none⟩,
    ⟨(some 3), .mov (.c (.bool true)), none⟩])
  (.ret))),
  [.cell (some 256) 2, .tmp 3]⟩

/- strings_trimLeftASCII -/
def A_strings_trimLeftASCIIL0 : ACode :=
  .seq (.seq (.region false [⟨(some 5), .mov (.t 0), none⟩,
    ⟨(some 6), .lenS (.t 5), none⟩,
    ⟨(some 7), .bin .gtr (.t 6) (.c (.int .i64 0)), none⟩])
  (.cond (.t 7)
   (.skip)
   (.exit 0)))
  (.block 1 (.seq (.seq (.region false [⟨(some 8), .mov (.t 1), none⟩,
    ⟨(some 9), .mov (.t 0), none⟩,
    ⟨(some 10), .idxS (.t 9) (.c (.int .i64 0)), none⟩,
    ⟨(some 11), .call F_strings_asciiSet_contains [(.t 8), (.t 10)], none⟩,
    ⟨(some 12), .not (.t 11), none⟩])
  (.cond (.t 12)
   (.exit 0)
   (.skip)))
  (.region false [⟨(some 13), .mov (.t 0), none⟩,
    ⟨(some 14), .ssl (.t 13) (some (.c (.int .i64 1))) none, none⟩,
    ⟨(some 0), .mov (.t 14), none⟩])))
def A_strings_trimLeftASCII : AFun := ⟨16,
  .seq (.region false [⟨(some 4), .mov (.c (.str [])), none⟩])
  (.seq (.block 0 (.loop A_strings_trimLeftASCIIL0))
  (.seq (.region false [⟨(some 15), .mov (.t 0), none⟩,
    ⟨(some 4), .mov (.t 15), none⟩])
  (.ret))),
  [.tmp 4]⟩

/- strings_trimRightASCII -/
def A_strings_trimRightASCIIL0 : ACode :=
  .seq (.seq (.region false [⟨(some 5), .mov (.t 0), none⟩,
    ⟨(some 6), .lenS (.t 5), none⟩,
    ⟨(some 7), .bin .gtr (.t 6) (.c (.int .i64 0)), none⟩])
  (.cond (.t 7)
   (.skip)
   (.exit 0)))
  (.block 1 (.seq (.seq (.region false [⟨(some 8), .mov (.t 1), none⟩,
    ⟨(some 9), .mov (.t 0), none⟩,
    ⟨(some 10), .mov (.t 0), none⟩,
    ⟨(some 11), .lenS (.t 10), none⟩,
    ⟨(some 12), .bin .sub (.t 11) (.c (.int .i64 1)), none⟩,
    ⟨(some 13), .idxS (.t 9) (.t 12), none⟩,
    ⟨(some 14), .call F_strings_asciiSet_contains [(.t 8), (.t 13)], none⟩,
    ⟨(some 15), .not (.t 14), none⟩])
  (.cond (.t 15)
   (.exit 0)
   (.skip)))
  (.region false [⟨(some 16), .mov (.t 0), none⟩,
    ⟨(some 17), .mov (.t 0), none⟩,
    ⟨(some 18), .lenS (.t 17), none⟩,
    ⟨(some 19), .bin .sub (.t 18) (.c (.int .i64 1)), none⟩,
    ⟨(some 20), .ssl (.t 16) none (some (.t 19)), none⟩,
    ⟨(some 0), .mov (.t 20), none⟩])))
def A_strings_trimRightASCII : AFun := ⟨22,
  .seq (.region false [⟨(some 4), .mov (.c (.str [])), none⟩])
  (.seq (.block 0 (.loop A_strings_trimRightASCIIL0))
  (.seq (.region false [⟨(some 21), .mov (.t 0), none⟩,
    ⟨(some 4), .mov (.t 21), none⟩])
  (.ret))),
  [.tmp 4]⟩

/- strings_trimLeftUnicode -/
def A_strings_trimLeftUnicodeL0 : ACode :=
  .seq (.seq (.region false [⟨(some 7), .mov (.t 0), none⟩,
    ⟨(some 8), .lenS (.t 7), none⟩,
    ⟨(some 9), .bin .gtr (.t 8) (.c (.int .i64 0)), none⟩])
  (.cond (.t 9)
   (.skip)
   (.exit 0)))
  (.block 1 (.seq (.region false [⟨(some 11), .mov (.t 0), none⟩,
    ⟨(some 12), .call F_utf8_DecodeRuneInString [(.t 11)], none⟩,
    ⟨(some 10), .mov (.t 12), none⟩,
    ⟨(some 13), .extr (.t 10) 0, none⟩,
    ⟨(some 14), .extr (.t 10) 1, none⟩,
    ⟨(some 5), .mov (.t 13), none⟩,
    ⟨(some 6), .mov (.t 14), none⟩])
  (.seq (.seq (.region false [⟨(some 15), .mov (.t 1), none⟩,
    ⟨(some 16), .mov (.t 5), none⟩,
    ⟨(some 17), .call F_strings_ContainsRune [(.t 15), (.t 16)], none⟩,
    ⟨(some 18), .not (.t 17), none⟩])
  (.cond (.t 18)
   (.exit 0)
   (.skip)))
  (.region false [⟨(some 19), .mov (.t 0), none⟩,
    ⟨(some 20), .mov (.t 6), none⟩,
    ⟨(some 21), .ssl (.t 19) (some (.t 20)) none, none⟩,
    ⟨(some 0), .mov (.t 21), none⟩]))))
def A_strings_trimLeftUnicode : AFun := ⟨23,
  .seq (.region false [⟨(some 4), .mov (.c (.str [])), none⟩])
  (.seq (.block 0 (.loop A_strings_trimLeftUnicodeL0))
  (.seq (.region false [⟨(some 22), .mov (.t 0), none⟩,
    ⟨(some 4), .mov (.t 22), none⟩])
  (.ret))),
  [.tmp 4]⟩

/- strings_trimRightUnicode -/
def A_strings_trimRightUnicodeL0 : ACode :=
  .seq (.seq (.region false [⟨(some 7), .mov (.t 0), none⟩,
    ⟨(some 8), .lenS (.t 7), none⟩,
    ⟨(some 9), .bin .gtr (.t 8) (.c (.int .i64 0)), none⟩])
  (.cond (.t 9)
   (.skip)
   (.exit 0)))
  (.block 1 (.seq (.region false [⟨(some 10), .mov (.t 0), none⟩,
    ⟨(some 11), .mov (.t 0), none⟩,
    ⟨(some 12), .lenS (.t 11), none⟩,
    ⟨(some 13), .bin .sub (.t 12) (.c (.int .i64 1)), none⟩,
    ⟨(some 14), .idxS (.t 10) (.t 13), none⟩,
    ⟨(some 15), .conv .i32 (.t 14), none⟩,
    ⟨(some 5), .mov (.t 15), none⟩,
    ⟨(some 6), .mov (.c (.int .i64 1)), none⟩])
  (.seq (.seq (.region false [⟨(some 16), .mov (.t 5), none⟩,
    ⟨(some 17), .bin .geq (.t 16) (.c (.int .i32 128)), none⟩])
  (.cond (.t 17)
   (.region false [⟨(some 19), .mov (.t 0), none⟩,
     ⟨(some 20), .call F_utf8_DecodeLastRuneInString [(.t 19)], none⟩,
     ⟨(some 18), .mov (.t 20), none⟩,
     ⟨(some 21), .extr (.t 18) 0, none⟩,
     ⟨(some 22), .extr (.t 18) 1, none⟩,
     ⟨(some 5), .mov (.t 21), none⟩,
     ⟨(some 6), .mov (.t 22), none⟩])
   (.skip)))
  (.seq (.seq (.region false [⟨(some 23), .mov (.t 1), none⟩,
    ⟨(some 24), .mov (.t 5), none⟩,
    ⟨(some 25), .call F_strings_ContainsRune [(.t 23), (.t 24)], none⟩,
    ⟨(some 26), .not (.t 25), none⟩])
  (.cond (.t 26)
   (.exit 0)
   (.skip)))
  (.region false [⟨(some 27), .mov (.t 0), none⟩,
    ⟨(some 28), .mov (.t 0), none⟩,
    ⟨(some 29), .lenS (.t 28), none⟩,
    ⟨(some 30), .mov (.t 6), none⟩,
    ⟨(some 31), .bin .sub (.t 29) (.t 30), none⟩,
    ⟨(some 32), .ssl (.t 27) none (some (.t 31)), none⟩,
    ⟨(some 0), .mov (.t 32), none⟩])))))
def A_strings_trimRightUnicode : AFun := ⟨34,
  .seq (.region false [⟨(some 4), .mov (.c (.str [])), none⟩])
  (.seq (.block 0 (.loop A_strings_trimRightUnicodeL0))
  (.seq (.region false [⟨(some 33), .mov (.t 0), none⟩,
    ⟨(some 4), .mov (.t 33), none⟩])
  (.ret))),
  [.tmp 4]⟩

/- strconv_ParseUint -/
def A_strconv_ParseUintL0 : ACode :=
  .seq (.region false [⟨(some 102), .bin .lss (.t 101) (.t 100), none⟩])
  (.seq (.cond (.t 102)
   (.skip)
   (.exit 3))
  (.seq (.block 4 (.seq (.region false [⟨(some 103), .idxA 1 (.t 99) (.t 101), none⟩,
    ⟨(some 104), .ld none (.t 103), none⟩,
    ⟨(some 15), .mov (.t 104), none⟩])
  (.seq (.region false [⟨(some 16), .mov (.c (.int .u8 0)), none⟩])
  (.seq (.block 5 (.seq (.region false [⟨(some 107), .mov (.t 15), none⟩,
    ⟨(some 108), .bin .eql (.t 107) (.c (.int .u8 95)), none⟩,
    ⟨(some 109), .mov (.t 108), none⟩,
    ⟨(some 110), .mov (.t 8), some (109, true)⟩,
    ⟨(some 111), .pick (.t 109) (.t 110) (.c (.bool false)), none⟩,
    ⟨(some 106), .mov (.t 111), none⟩])
  (.cond (.t 106)
   (.seq (.region false [⟨(some 12), .mov (.c (.bool true)), none⟩])
   (.exit 4))
   (.seq (.region false [⟨(some 113), .mov (.t 15), none⟩,
     ⟨(some 114), .bin .leq (.c (.int .u8 48)) (.t 113), none⟩,
     ⟨(some 115), .mov (.t 114), none⟩,
     ⟨(some 116), .mov (.t 15), some (115, true)⟩,
     ⟨(some 117), .bin .leq (.t 116) (.c (.int .u8 57)), some (115, true)⟩,
     ⟨(some 118), .pick (.t 115) (.t 117) (.c (.bool false)), none⟩,
     ⟨(some 112), .mov (.t 118), none⟩])
   (.cond (.t 112)
    (.region false [⟨(some 119), .mov (.t 15), none⟩,
      ⟨(some 120), .bin .sub (.t 119) (.c (.int .u8 48)), none⟩,
      ⟨(some 16), .mov (.t 120), none⟩])
    (.seq (.region false [⟨(some 122), .mov (.t 15), none⟩,
      ⟨(some 123), .call F_strconv_lower [(.t 122)], none⟩,
      ⟨(some 124), .bin .leq (.c (.int .u8 97)) (.t 123), none⟩,
      ⟨(some 125), .mov (.t 124), none⟩,
      ⟨(some 126), .mov (.t 15), some (125, true)⟩,
      ⟨(some 127), .call F_strconv_lower [(.t 126)], some (125, true)⟩,
      ⟨(some 128), .bin .leq (.t 127) (.c (.int .u8 122)), some (125, true)⟩,
      ⟨(some 129), .pick (.t 125) (.t 128) (.c (.bool false)), none⟩,
      ⟨(some 121), .mov (.t 129), none⟩])
    (.cond (.t 121)
     (.region false [⟨(some 130), .mov (.t 15), none⟩,
       ⟨(some 131), .call F_strconv_lower [(.t 130)], none⟩,
       ⟨(some 132), .bin .sub (.t 131) (.c (.int .u8 97)), none⟩,
       ⟨(some 133), .bin .add (.t 132) (.c (.int .u8 10)), none⟩,
       ⟨(some 16), .mov (.t 133), none⟩])
     (.seq (.region false [⟨(some 105), .mki 157 (.c (.int .i64 2)), none⟩,
       ⟨(some 6), .mov (.c (.int .u64 0)), none⟩,
       ⟨(some 7), .mov (.t 105), none⟩])
     (.ret)))))))))
  (.seq (.seq (.region false [⟨(some 134), .mov (.t 16), none⟩,
    ⟨(some 135), .mov (.t 1), none⟩,
    ⟨(some 136), .conv .u8 (.t 135), none⟩,
    ⟨(some 137), .bin .geq (.t 134) (.t 136), none⟩])
  (.cond (.t 137)
   (.seq (.region false [⟨(some 138), .mki 157 (.c (.int .i64 2)), none⟩,
     ⟨(some 6), .mov (.c (.int .u64 0)), none⟩,
     ⟨(some 7), .mov (.t 138), none⟩])
   (.ret))
   (.skip)))
  (.seq (.seq (.region false [⟨(some 139), .mov (.t 13), none⟩,
    ⟨(some 140), .mov (.t 10), none⟩,
    ⟨(some 141), .bin .geq (.t 139) (.t 140), none⟩])
  (.cond (.t 141)
   (.seq (.region false [⟨(some 142), .mov (.t 11), none⟩,
     ⟨(some 143), .mki 157 (.c (.int .i64 1)), none⟩,
     ⟨(some 6), .mov (.t 142), none⟩,
     ⟨(some 7), .mov (.t 143), none⟩])
   (.ret))
   (.skip)))
  (.seq (.region false [⟨(some 144), .mov (.t 13), none⟩,
    ⟨(some 145), .mov (.t 1), none⟩,
    ⟨(some 146), .conv .u64 (.t 145), none⟩,
    ⟨(some 147), .bin .mul (.t 144) (.t 146), none⟩,
    ⟨(some 13), .mov (.t 147), none⟩])
  (.seq (.region false [⟨(some 148), .mov (.t 13), none⟩,
    ⟨(some 149), .mov (.t 16), none⟩,
    ⟨(some 150), .conv .u64 (.t 149), none⟩,
    ⟨(some 151), .bin .add (.t 148) (.t 150), none⟩,
    ⟨(some 17), .mov (.t 151), none⟩])
  (.seq (.seq (.region false [⟨(some 152), .mov (.t 17), none⟩,
    ⟨(some 153), .mov (.t 13), none⟩,
    ⟨(some 154), .bin .lss (.t 152) (.t 153), none⟩,
    ⟨(some 155), .mov (.t 154), none⟩,
    ⟨(some 156), .mov (.t 17), some (155, false)⟩,
    ⟨(some 157), .mov (.t 11), some (155, false)⟩,
    ⟨(some 158), .bin .gtr (.t 156) (.t 157), some (155, false)⟩,
    ⟨(some 159), .pick (.t 155) (.c (.bool true)) (.t 158), none⟩])
  (.cond (.t 159)
   (.seq (.region false [⟨(some 160), .mov (.t 11), none⟩,
     ⟨(some 161), .mki 157 (.c (.int .i64 1)), none⟩,
     ⟨(some 6), .mov (.t 160), none⟩,
     ⟨(some 7), .mov (.t 161), none⟩])
   (.ret))
   (.skip)))
  (.region false [⟨(some 162), .mov (.t 17), none⟩,
    ⟨(some 13), .mov (.t 162), none⟩]))))))))))
  (.region false [⟨(some 163), .bin .add (.t 101) (.c (.int .i64 1)), none⟩,
    ⟨(some 101), .mov (.t 163), none⟩])))
def A_strconv_ParseUint : AFun := ⟨172,
  .seq (.region false [⟨(some 6), .mov (.c (.int .u64 0)), none⟩,
    ⟨(some 7), .mov (.c (.nilI)), none⟩])
  (.seq (.seq (.region false [⟨(some 18), .mov (.t 0), none⟩,
    ⟨(some 19), .bin .eql (.t 18) (.c (.str [])), none⟩])
  (.cond (.t 19)
   (.seq (.region false [⟨(some 20), .mki 157 (.c (.int .i64 2)), none⟩,
     ⟨(some 6), .mov (.c (.int .u64 0)), none⟩,
     ⟨(some 7), .mov (.t 20), none⟩])
   (.ret))
   (.skip)))
  (.seq (.region false [⟨(some 21), .mov (.t 1), none⟩,
    ⟨(some 22), .bin .eql (.t 21) (.c (.int .i64 0)), none⟩,
    ⟨(some 8), .mov (.t 22), none⟩])
  (.seq (.region false [⟨(some 23), .mov (.t 0), none⟩,
    ⟨(some 9), .mov (.t 23), none⟩])
  (.seq (.block 0 (.seq (.region false [⟨(some 26), .mov (.t 1), none⟩,
    ⟨(some 27), .bin .leq (.c (.int .i64 2)) (.t 26), none⟩,
    ⟨(some 28), .mov (.t 27), none⟩,
    ⟨(some 29), .mov (.t 1), some (28, true)⟩,
    ⟨(some 30), .bin .leq (.t 29) (.c (.int .i64 36)), some (28, true)⟩,
    ⟨(some 31), .pick (.t 28) (.t 30) (.c (.bool false)), none⟩,
    ⟨(some 25), .mov (.t 31), none⟩])
  (.cond (.t 25)
   (.skip)
   (.seq (.region false [⟨(some 33), .mov (.t 1), none⟩,
     ⟨(some 34), .bin .eql (.t 33) (.c (.int .i64 0)), none⟩,
     ⟨(some 32), .mov (.t 34), none⟩])
   (.cond (.t 32)
    (.seq (.region false [⟨(some 1), .mov (.c (.int .i64 10)), none⟩])
    (.seq (.region false [⟨(some 35), .mov (.t 0), none⟩,
      ⟨(some 36), .idxS (.t 35) (.c (.int .i64 0)), none⟩,
      ⟨(some 37), .bin .eql (.t 36) (.c (.int .u8 48)), none⟩])
    (.cond (.t 37)
     (.block 1 (.seq (.region false [⟨(some 41), .mov (.t 0), none⟩,
       ⟨(some 42), .lenS (.t 41), none⟩,
       ⟨(some 43), .bin .geq (.t 42) (.c (.int .i64 3)), none⟩,
       ⟨(some 44), .mov (.t 43), none⟩,
       ⟨(some 45), .mov (.t 0), some (44, true)⟩,
       ⟨(some 46), .idxS (.t 45) (.c (.int .i64 1)), some (44, true)⟩,
       ⟨(some 47), .call F_strconv_lower [(.t 46)], some (44, true)⟩,
       ⟨(some 48), .bin .eql (.t 47) (.c (.int .u8 98)), some (44, true)⟩,
       ⟨(some 49), .pick (.t 44) (.t 48) (.c (.bool false)), none⟩,
       ⟨(some 40), .mov (.t 49), none⟩])
     (.cond (.t 40)
      (.seq (.region false [⟨(some 1), .mov (.c (.int .i64 2)), none⟩])
      (.region false [⟨(some 50), .mov (.t 0), none⟩,
        ⟨(some 51), .ssl (.t 50) (some (.c (.int .i64 2))) none, none⟩,
        ⟨(some 0), .mov (.t 51), none⟩]))
      (.seq (.region false [⟨(some 53), .mov (.t 0), none⟩,
        ⟨(some 54), .lenS (.t 53), none⟩,
        ⟨(some 55), .bin .geq (.t 54) (.c (.int .i64 3)), none⟩,
        ⟨(some 56), .mov (.t 55), none⟩,
        ⟨(some 57), .mov (.t 0), some (56, true)⟩,
        ⟨(some 58), .idxS (.t 57) (.c (.int .i64 1)), some (56, true)⟩,
        ⟨(some 59), .call F_strconv_lower [(.t 58)], some (56, true)⟩,
        ⟨(some 60), .bin .eql (.t 59) (.c (.int .u8 111)), some (56, true)⟩,
        ⟨(some 61), .pick (.t 56) (.t 60) (.c (.bool false)), none⟩,
        ⟨(some 52), .mov (.t 61), none⟩])
      (.cond (.t 52)
       (.seq (.region false [⟨(some 1), .mov (.c (.int .i64 8)), none⟩])
       (.region false [⟨(some 62), .mov (.t 0), none⟩,
         ⟨(some 63), .ssl (.t 62) (some (.c (.int .i64 2))) none, none⟩,
         ⟨(some 0), .mov (.t 63), none⟩]))
       (.seq (.region false [⟨(some 65), .mov (.t 0), none⟩,
         ⟨(some 66), .lenS (.t 65), none⟩,
         ⟨(some 67), .bin .geq (.t 66) (.c (.int .i64 3)), none⟩,
         ⟨(some 68), .mov (.t 67), none⟩,
         ⟨(some 69), .mov (.t 0), some (68, true)⟩,
         ⟨(some 70), .idxS (.t 69) (.c (.int .i64 1)), some (68, true)⟩,
         ⟨(some 71), .call F_strconv_lower [(.t 70)], some (68, true)⟩,
         ⟨(some 72), .bin .eql (.t 71) (.c (.int .u8 120)), some (68, true)⟩,
         ⟨(some 73), .pick (.t 68) (.t 72) (.c (.bool false)), none⟩,
         ⟨(some 64), .mov (.t 73), none⟩])
       (.cond (.t 64)
        (.seq (.region false [⟨(some 1), .mov (.c (.int .i64 16)), none⟩])
        (.region false [⟨(some 74), .mov (.t 0), none⟩,
          ⟨(some 75), .ssl (.t 74) (some (.c (.int .i64 2))) none, none⟩,
          ⟨(some 0), .mov (.t 75), none⟩]))
        (.seq (.region false [⟨(some 1), .mov (.c (.int .i64 8)), none⟩])
        (.region false [⟨(some 38), .mov (.t 0), none⟩,
          ⟨(some 39), .ssl (.t 38) (some (.c (.int .i64 1))) none, none⟩,
          ⟨(some 0), .mov (.t 39), none⟩])))))))))
     (.skip))))
    (.seq (.region false [⟨(some 24), .mki 157 (.c (.int .i64 3)), none⟩,
      ⟨(some 6), .mov (.c (.int .u64 0)), none⟩,
      ⟨(some 7), .mov (.t 24), none⟩])
    (.ret)))))))
  (.seq (.seq (.region false [⟨(some 76), .mov (.t 2), none⟩,
    ⟨(some 77), .bin .eql (.t 76) (.c (.int .i64 0)), none⟩])
  (.cond (.t 77)
   (.region false [⟨(some 2), .mov (.c (.int .i64 64)), none⟩])
   (.seq (.region false [⟨(some 78), .mov (.t 2), none⟩,
     ⟨(some 79), .bin .lss (.t 78) (.c (.int .i64 0)), none⟩,
     ⟨(some 80), .mov (.t 79), none⟩,
     ⟨(some 81), .mov (.t 2), some (80, false)⟩,
     ⟨(some 82), .bin .gtr (.t 81) (.c (.int .i64 64)), some (80, false)⟩,
     ⟨(some 83), .pick (.t 80) (.c (.bool true)) (.t 82), none⟩])
   (.cond (.t 83)
    (.seq (.region false [⟨(some 84), .mki 157 (.c (.int .i64 4)), none⟩,
      ⟨(some 6), .mov (.c (.int .u64 0)), none⟩,
      ⟨(some 7), .mov (.t 84), none⟩])
    (.ret))
    (.skip)))))
  (.seq (.region false [⟨(some 10), .mov (.c (.int .u64 0)), none⟩])
  (.seq (.seq (.region false [⟨(some 85), .mov (.t 1), none⟩])
  (.block 2 (.seq (.region false [⟨(some 91), .bin .eql (.t 85) (.c (.int .i64 10)), none⟩,
    ⟨(some 90), .mov (.t 91), none⟩])
  (.cond (.t 90)
   (.region false [⟨(some 10), .mov (.c (.int .u64 1844674407370955162)), none⟩])
   (.seq (.region false [⟨(some 93), .bin .eql (.t 85) (.c (.int .i64 16)), none⟩,
     ⟨(some 92), .mov (.t 93), none⟩])
   (.cond (.t 92)
    (.region false [⟨(some 10), .mov (.c (.int .u64 1152921504606846976)), none⟩])
    (.region false [⟨(some 86), .mov (.t 1), none⟩,
      ⟨(some 87), .conv .u64 (.t 86), none⟩,
      ⟨(some 88), .bin .quo (.c (.int .u64 18446744073709551615)) (.t 87), none⟩,
      ⟨(some 89), .bin .add (.t 88) (.c (.int .u64 1)), none⟩,
      ⟨(some 10), .mov (.t 89), none⟩])))))))
  (.seq (.region false [⟨(some 94), .mov (.t 2), none⟩,
    ⟨(some 95), .conv .u64 (.t 94), none⟩,
    ⟨(some 96), .bin .shl (.c (.int .u64 1)) (.t 95), none⟩,
    ⟨(some 97), .bin .sub (.t 96) (.c (.int .u64 1)), none⟩,
    ⟨(some 11), .mov (.t 97), none⟩])
  (.seq (.region false [⟨(some 12), .mov (.c (.bool false)), none⟩])
  (.seq (.region false [⟨(some 13), .mov (.c (.int .u64 0)), none⟩])
  (.seq (.seq (.region false [⟨(some 98), .mov (.t 0), none⟩,
    ⟨(some 99), .s2b false (.t 98), none⟩,
    ⟨(some 100), .len (.t 99), none⟩,
    ⟨(some 101), .mov (.c (.int .i64 0)), none⟩])
  (.block 3 (.loop A_strconv_ParseUintL0)))
  (.seq (.seq (.region false [⟨(some 164), .mov (.t 12), none⟩,
    ⟨(some 165), .mov (.t 164), none⟩,
    ⟨(some 166), .mov (.t 9), some (165, true)⟩,
    ⟨(some 167), .call F_strconv_underscoreOK [(.t 166)], some (165, true)⟩,
    ⟨(some 168), .not (.t 167), some (165, true)⟩,
    ⟨(some 169), .pick (.t 165) (.t 168) (.c (.bool false)), none⟩])
  (.cond (.t 169)
   (.seq (.region false [⟨(some 170), .mki 157 (.c (.int .i64 2)), none⟩,
     ⟨(some 6), .mov (.c (.int .u64 0)), none⟩,
     ⟨(some 7), .mov (.t 170), none⟩])
   (.ret))
   (.skip)))
  (.seq (.region false [⟨(some 171), .mov (.t 13), none⟩,
    ⟨(some 6), .mov (.t 171), none⟩,
    ⟨(some 7), .mov (.c (.nilI)), none⟩])
  (.ret)))))))))))))),
  [.tmp 6, .tmp 7]⟩

/- strconv_syntaxError -/
def A_strconv_syntaxError : AFun := ⟨11,
  .seq (.region false [⟨(some 4), .mov (.c (.nilP)), none⟩])
  (.seq (.region true [⟨(some 5), .mov (.t 0), none⟩,
    ⟨(some 6), .mov (.t 1), none⟩,
    ⟨(some 7), .call F_stringslite_Clone [(.t 6)], none⟩,
    ⟨(some 8), .ld none (.gl 2), none⟩,
    ⟨(some 9), .build [.str [], .str [], .nilI] [(0, 1, (.t 5)), (1, 1, (.t 7)), (2, 1, (.t 8))], none⟩,
    ⟨(some 10), .box (.t 9), none⟩,
    ⟨(some 4), .mov (.t 10), none⟩])
  (.ret)),
  [.tmp 4]⟩

/- strconv_rangeError -/
def A_strconv_rangeError : AFun := ⟨11,
  .seq (.region false [⟨(some 4), .mov (.c (.nilP)), none⟩])
  (.seq (.region true [⟨(some 5), .mov (.t 0), none⟩,
    ⟨(some 6), .mov (.t 1), none⟩,
    ⟨(some 7), .call F_stringslite_Clone [(.t 6)], none⟩,
    ⟨(some 8), .ld none (.gl 3), none⟩,
    ⟨(some 9), .build [.str [], .str [], .nilI] [(0, 1, (.t 5)), (1, 1, (.t 7)), (2, 1, (.t 8))], none⟩,
    ⟨(some 10), .box (.t 9), none⟩,
    ⟨(some 4), .mov (.t 10), none⟩])
  (.ret)),
  [.tmp 4]⟩

/- strconv_baseError -/
def A_strconv_baseError : AFun := ⟨16,
  .seq (.region false [⟨(some 6), .mov (.c (.nilP)), none⟩])
  (.seq (.region false [⟨(some 7), .mov (.t 0), none⟩,
    ⟨(some 8), .mov (.t 1), none⟩,
    ⟨(some 9), .call F_stringslite_Clone [(.t 8)], none⟩,
    ⟨(some 10), .mov (.t 2), none⟩,
    ⟨(some 11), .call F_strconv_Itoa [(.t 10)], none⟩,
    ⟨(some 12), .bin .add (.c (.str [105, 110, 118, 97, 108, 105, 100, 32, 98, 97, 115, 101, 32])) (.t 11), none⟩,
    ⟨(some 13), .call F_errors_New [(.t 12)], none⟩,
    ⟨(some 14), .build [.str [], .str [], .nilI] [(0, 1, (.t 7)), (1, 1, (.t 9)), (2, 1, (.t 13))], none⟩,
    ⟨(some 15), .box (.t 14), none⟩,
    ⟨(some 6), .mov (.t 15), none⟩])
  (.ret)),
  [.tmp 6]⟩

/- strconv_bitSizeError -/
def A_strconv_bitSizeError : AFun := ⟨16,
  .seq (.region false [⟨(some 6), .mov (.c (.nilP)), none⟩])
  (.seq (.region false [⟨(some 7), .mov (.t 0), none⟩,
    ⟨(some 8), .mov (.t 1), none⟩,
    ⟨(some 9), .call F_stringslite_Clone [(.t 8)], none⟩,
    ⟨(some 10), .mov (.t 2), none⟩,
    ⟨(some 11), .call F_strconv_Itoa [(.t 10)], none⟩,
    ⟨(some 12), .bin .add (.c (.str [105, 110, 118, 97, 108, 105, 100, 32, 98, 105, 116, 32, 115, 105, 122, 101, 32])) (.t 11), none⟩,
    ⟨(some 13), .call F_errors_New [(.t 12)], none⟩,
    ⟨(some 14), .build [.str [], .str [], .nilI] [(0, 1, (.t 7)), (1, 1, (.t 9)), (2, 1, (.t 13))], none⟩,
    ⟨(some 15), .box (.t 14), none⟩,
    ⟨(some 6), .mov (.t 15), none⟩])
  (.ret)),
  [.tmp 6]⟩

/- ref01_hex -/
def A_ref01_hex : AFun := ⟨5,
  .seq (.region false [⟨(some 2), .mov (.c (.int .u8 0)), none⟩])
  (.seq (.region false [⟨(some 3), .mov (.t 0), none⟩,
    ⟨(some 4), .idxS (.c (.str [48, 49, 50, 51, 52, 53, 54, 55, 56, 57, 97, 98, 99, 100, 101, 102])) (.t 3), none⟩,
    ⟨(some 2), .mov (.t 4), none⟩])
  (.ret)),
  [.tmp 2]⟩

/- strconv_log10Pow2 -/
def A_strconv_log10Pow2 : AFun := ⟨6,
  .seq (.region false [⟨(some 2), .mov (.c (.int .i64 0)), none⟩])
  (.seq (.region false [⟨(some 3), .mov (.t 0), none⟩,
    ⟨(some 4), .bin .mul (.t 3) (.c (.int .i64 78913)), none⟩,
    ⟨(some 5), .bin .shr (.t 4) (.c (.int .u64 18)), none⟩,
    ⟨(some 2), .mov (.t 5), none⟩])
  (.ret)),
  [.tmp 2]⟩

/- bits_Len64 -/
def S_bits_Len64 : List UInt8 := [0, 1, 2, 2, 3, 3, 3, 3, 4, 4, 4, 4, 4, 4, 4, 4, 5, 5, 5, 5, 5, 5, 5, 5, 5, 5, 5, 5, 5, 5, 5, 5, 6, 6, 6, 6, 6, 6, 6, 6, 6, 6, 6, 6, 6, 6, 6, 6, 6, 6, 6, 6, 6, 6, 6, 6, 6, 6, 6, 6, 6, 6, 6, 6, 7, 7, 7, 7, 7, 7, 7, 7, 7, 7, 7, 7, 7, 7, 7, 7, 7, 7, 7, 7, 7, 7, 7, 7, 7, 7, 7, 7, 7, 7, 7, 7, 7, 7, 7, 7, 7, 7, 7, 7, 7, 7, 7, 7, 7, 7, 7, 7, 7, 7, 7, 7, 7, 7, 7, 7, 7, 7, 7, 7, 7, 7, 7, 7, 8, 8, 8, 8, 8, 8, 8, 8, 8, 8, 8, 8, 8, 8, 8, 8, 8, 8, 8, 8, 8, 8, 8, 8, 8, 8, 8, 8, 8, 8, 8, 8, 8, 8, 8, 8, 8, 8, 8, 8, 8, 8, 8, 8, 8, 8, 8, 8, 8, 8, 8, 8, 8, 8, 8, 8, 8, 8, 8, 8, 8, 8, 8, 8, 8, 8, 8, 8, 8, 8, 8, 8, 8, 8, 8, 8, 8, 8, 8, 8, 8, 8, 8, 8, 8, 8, 8, 8, 8, 8, 8, 8, 8, 8, 8, 8, 8, 8, 8, 8, 8, 8, 8, 8, 8, 8, 8, 8, 8, 8, 8, 8, 8, 8, 8, 8, 8, 8, 8, 8, 8, 8, 8, 8, 8, 8, 8, 8]
def A_bits_Len64 : AFun := ⟨25,
  .seq (.region false [⟨(some 2), .mov (.c (.int .i64 0)), none⟩])
  (.seq (.seq (.region false [⟨(some 3), .mov (.t 0), none⟩,
    ⟨(some 4), .bin .geq (.t 3) (.c (.int .u64 4294967296)), none⟩])
  (.cond (.t 4)
   (.seq (.region false [⟨(some 5), .mov (.t 0), none⟩,
     ⟨(some 6), .bin .shr (.t 5) (.c (.int .u64 32)), none⟩,
     ⟨(some 0), .mov (.t 6), none⟩])
   (.region false [⟨(some 2), .mov (.c (.int .i64 32)), none⟩]))
   (.skip)))
  (.seq (.seq (.region false [⟨(some 7), .mov (.t 0), none⟩,
    ⟨(some 8), .bin .geq (.t 7) (.c (.int .u64 65536)), none⟩])
  (.cond (.t 8)
   (.seq (.region false [⟨(some 9), .mov (.t 0), none⟩,
     ⟨(some 10), .bin .shr (.t 9) (.c (.int .u64 16)), none⟩,
     ⟨(some 0), .mov (.t 10), none⟩])
   (.region false [⟨(some 11), .mov (.t 2), none⟩,
     ⟨(some 12), .bin .add (.t 11) (.c (.int .i64 16)), none⟩,
     ⟨(some 2), .mov (.t 12), none⟩]))
   (.skip)))
  (.seq (.seq (.region false [⟨(some 13), .mov (.t 0), none⟩,
    ⟨(some 14), .bin .geq (.t 13) (.c (.int .u64 256)), none⟩])
  (.cond (.t 14)
   (.seq (.region false [⟨(some 15), .mov (.t 0), none⟩,
     ⟨(some 16), .bin .shr (.t 15) (.c (.int .u64 8)), none⟩,
     ⟨(some 0), .mov (.t 16), none⟩])
   (.region false [⟨(some 17), .mov (.t 2), none⟩,
     ⟨(some 18), .bin .add (.t 17) (.c (.int .i64 8)), none⟩,
     ⟨(some 2), .mov (.t 18), none⟩]))
   (.skip)))
  (.seq (.region false [⟨(some 19), .mov (.t 2), none⟩,
    ⟨(some 20), .mov (.t 0), none⟩,
    ⟨(some 21), .conv .u8 (.t 20), none⟩,
    ⟨(some 22), .idxS (.c (.str S_bits_Len64)) (.t 21), none⟩,
    ⟨(some 23), .conv .i64 (.t 22), none⟩,
    ⟨(some 24), .bin .add (.t 19) (.t 23), none⟩,
    ⟨(some 2), .mov (.t 24), none⟩])
  (.ret))))),
  [.tmp 2]⟩

/- strconv_bool2_int -/
def A_strconv_bool2_int : AFun := ⟨4,
  .seq (.region false [⟨(some 2), .mov (.c (.int .i64 0)), none⟩])
  (.seq (.seq (.region false [⟨(some 3), .mov (.t 0), none⟩])
  (.cond (.t 3)
   (.seq (.region false [⟨(some 2), .mov (.c (.int .i64 1)), none⟩])
   (.ret))
   (.skip)))
  (.seq (.region false [⟨(some 2), .mov (.c (.int .i64 0)), none⟩])
  (.ret))),
  [.tmp 2]⟩

/- strconv_isPowerOfTwo -/
def A_strconv_isPowerOfTwo : AFun := ⟨8,
  .seq (.region false [⟨(some 2), .mov (.c (.bool false)), none⟩])
  (.seq (.region false [⟨(some 3), .mov (.t 0), none⟩,
    ⟨(some 4), .mov (.t 0), none⟩,
    ⟨(some 5), .bin .sub (.t 4) (.c (.int .i64 1)), none⟩,
    ⟨(some 6), .bin .and (.t 3) (.t 5), none⟩,
    ⟨(some 7), .bin .eql (.t 6) (.c (.int .i64 0)), none⟩,
    ⟨(some 2), .mov (.t 7), none⟩])
  (.ret)),
  [.tmp 2]⟩

/- bits_TrailingZeros -/
def A_bits_TrailingZeros : AFun := ⟨8,
  .seq (.region false [⟨(some 2), .mov (.c (.int .i64 0)), none⟩])
  (.seq (.cond (.c (.bool false))
   (.seq (.region false [⟨(some 3), .mov (.t 0), none⟩,
     ⟨(some 4), .conv .u32 (.t 3), none⟩,
     ⟨(some 5), .call F_bits_TrailingZeros32 [(.t 4)], none⟩,
     ⟨(some 2), .mov (.t 5), none⟩])
   (.ret))
   (.skip))
  (.seq (.region false [⟨(some 6), .mov (.t 0), none⟩,
    ⟨(some 7), .call F_bits_TrailingZeros64 [(.t 6)], none⟩,
    ⟨(some 2), .mov (.t 7), none⟩])
  (.ret))),
  [.tmp 2]⟩

/- strings_IndexByte -/
def A_strings_IndexByte : AFun := ⟨8,
  .seq (.region false [⟨(some 4), .mov (.c (.int .i64 0)), none⟩])
  (.seq (.region false [⟨(some 5), .mov (.t 0), none⟩,
    ⟨(some 6), .mov (.t 1), none⟩,
    ⟨(some 7), .call F_stringslite_IndexByte [(.t 5), (.t 6)], none⟩,
    ⟨(some 4), .mov (.t 7), none⟩])
  (.ret)),
  [.tmp 4]⟩

/- words_letterOf -/
def A_words_letterOfL0 : ACode :=
  .seq (.region false [⟨(some 7), .bin .lss (.t 6) (.c (.int .i64 5)), none⟩])
  (.seq (.cond (.t 7)
   (.skip)
   (.exit 0))
  (.seq (.block 1 (.seq (.region false [⟨(some 8), .idxG 5 2 (some 2) (.t 5) (.t 6), none⟩,
    ⟨(some 4), .alloc [.int .u8 0, .int .u8 0], none⟩,
    ⟨none, .st 2 (.t 4) (.t 8), none⟩])
  (.seq (.region false [⟨(some 9), .fldA 0 (.t 4), none⟩,
    ⟨(some 10), .ld none (.t 9), none⟩,
    ⟨(some 11), .mov (.t 0), none⟩,
    ⟨(some 12), .bin .eql (.t 10) (.t 11), none⟩])
  (.cond (.t 12)
   (.seq (.region false [⟨(some 13), .fldA 1 (.t 4), none⟩,
     ⟨(some 14), .ld none (.t 13), none⟩,
     ⟨(some 2), .mov (.t 14), none⟩])
   (.ret))
   (.skip)))))
  (.region false [⟨(some 15), .bin .add (.t 6) (.c (.int .i64 1)), none⟩,
    ⟨(some 6), .mov (.t 15), none⟩])))
def A_words_letterOf : AFun := ⟨16,
  .seq (.region false [⟨(some 2), .mov (.c (.int .u8 0)), none⟩])
  (.seq (.seq (.region false [⟨(some 5), .ld (some 10) (.gl 1), none⟩,
    ⟨(some 6), .mov (.c (.int .i64 0)), none⟩])
  (.block 0 (.loop A_words_letterOfL0)))
  (.seq (.region false [⟨(some 2), .mov (.c (.int .u8 0)), none⟩])
  (.ret))),
  [.tmp 2]⟩

/- stringslite_Index -/
def A_stringslite_IndexL0 : ACode :=
  .seq (.seq (.region false [⟨(some 57), .mov (.t 8), none⟩,
    ⟨(some 58), .mov (.t 9), none⟩,
    ⟨(some 59), .bin .lss (.t 57) (.t 58), none⟩])
  (.cond (.t 59)
   (.skip)
   (.exit 1)))
  (.block 2 (.seq (.seq (.region false [⟨(some 60), .mov (.t 0), none⟩,
    ⟨(some 61), .mov (.t 8), none⟩,
    ⟨(some 62), .idxS (.t 60) (.t 61), none⟩,
    ⟨(some 63), .mov (.t 6), none⟩,
    ⟨(some 64), .bin .neq (.t 62) (.t 63), none⟩])
  (.cond (.t 64)
   (.seq (.region false [⟨(some 65), .mov (.t 0), none⟩,
     ⟨(some 66), .mov (.t 8), none⟩,
     ⟨(some 67), .bin .add (.t 66) (.c (.int .i64 1)), none⟩,
     ⟨(some 68), .mov (.t 9), none⟩,
     ⟨(some 69), .ssl (.t 65) (some (.t 67)) (some (.t 68)), none⟩,
     ⟨(some 70), .mov (.t 6), none⟩,
     ⟨(some 71), .call F_stringslite_IndexByte [(.t 69), (.t 70)], none⟩,
     ⟨(some 11), .mov (.t 71), none⟩])
   (.seq (.seq (.region false [⟨(some 72), .mov (.t 11), none⟩,
     ⟨(some 73), .bin .lss (.t 72) (.c (.int .i64 0)), none⟩])
   (.cond (.t 73)
    (.seq (.region false [⟨(some 4), .mov (.c (.int .i64 (-1))), none⟩])
    (.ret))
    (.skip)))
   (.region false [⟨(some 74), .mov (.t 8), none⟩,
     ⟨(some 75), .mov (.t 11), none⟩,
     ⟨(some 76), .bin .add (.t 75) (.c (.int .i64 1)), none⟩,
     ⟨(some 77), .bin .add (.t 74) (.t 76), none⟩,
     ⟨(some 8), .mov (.t 77), none⟩])))
   (.skip)))
  (.seq (.seq (.region false [⟨(some 78), .mov (.t 0), none⟩,
    ⟨(some 79), .mov (.t 8), none⟩,
    ⟨(some 80), .bin .add (.t 79) (.c (.int .i64 1)), none⟩,
    ⟨(some 81), .idxS (.t 78) (.t 80), none⟩,
    ⟨(some 82), .mov (.t 7), none⟩,
    ⟨(some 83), .bin .eql (.t 81) (.t 82), none⟩,
    ⟨(some 84), .mov (.t 83), none⟩,
    ⟨(some 85), .mov (.t 0), some (84, true)⟩,
    ⟨(some 86), .mov (.t 8), some (84, true)⟩,
    ⟨(some 87), .mov (.t 8), some (84, true)⟩,
    ⟨(some 88), .mov (.t 5), some (84, true)⟩,
    ⟨(some 89), .bin .add (.t 87) (.t 88), some (84, true)⟩,
    ⟨(some 90), .ssl (.t 85) (some (.t 86)) (some (.t 89)), some (84, true)⟩,
    ⟨(some 91), .mov (.t 1), some (84, true)⟩,
    ⟨(some 92), .bin .eql (.t 90) (.t 91), some (84, true)⟩,
    ⟨(some 93), .pick (.t 84) (.t 92) (.c (.bool false)), none⟩])
  (.cond (.t 93)
   (.seq (.region false [⟨(some 94), .mov (.t 8), none⟩,
     ⟨(some 4), .mov (.t 94), none⟩])
   (.ret))
   (.skip)))
  (.seq (.region false [⟨(some 95), .mov (.t 8), none⟩,
    ⟨(some 96), .bin .add (.t 95) (.c (.int .i64 1)), none⟩,
    ⟨(some 8), .mov (.t 96), none⟩])
  (.seq (.region false [⟨(some 97), .mov (.t 10), none⟩,
    ⟨(some 98), .bin .add (.t 97) (.c (.int .i64 1)), none⟩,
    ⟨(some 10), .mov (.t 98), none⟩])
  (.seq (.region false [⟨(some 99), .mov (.t 5), none⟩,
    ⟨(some 100), .ld none (.gl 4), none⟩,
    ⟨(some 101), .bin .leq (.t 99) (.t 100), none⟩,
    ⟨(some 102), .mov (.t 101), none⟩,
    ⟨(some 103), .mov (.t 10), some (102, true)⟩,
    ⟨(some 104), .mov (.t 8), some (102, true)⟩,
    ⟨(some 105), .call F_bytealg_Cutover [(.t 104)], some (102, true)⟩,
    ⟨(some 106), .bin .gtr (.t 103) (.t 105), some (102, true)⟩,
    ⟨(some 107), .pick (.t 102) (.t 106) (.c (.bool false)), none⟩])
  (.cond (.t 107)
   (.seq (.bad)
   (.seq (.seq (.region false [⟨(some 113), .mov (.t 12), none⟩,
     ⟨(some 114), .bin .geq (.t 113) (.c (.int .i64 0)), none⟩])
   (.cond (.t 114)
    (.seq (.region false [⟨(some 115), .mov (.t 12), none⟩,
      ⟨(some 116), .mov (.t 8), none⟩,
      ⟨(some 117), .bin .add (.t 115) (.t 116), none⟩,
      ⟨(some 4), .mov (.t 117), none⟩])
    (.ret))
    (.skip)))
   (.seq (.region false [⟨(some 4), .mov (.c (.int .i64 (-1))), none⟩])
   (.ret))))
   (.seq (.region false [⟨(some 118), .mov (.t 5), none⟩,
     ⟨(some 119), .ld none (.gl 4), none⟩,
     ⟨(some 120), .bin .gtr (.t 118) (.t 119), none⟩,
     ⟨(some 121), .mov (.t 120), none⟩,
     ⟨(some 122), .mov (.t 10), some (121, true)⟩,
     ⟨(some 123), .mov (.t 8), some (121, true)⟩,
     ⟨(some 124), .bin .shr (.t 123) (.c (.int .u64 4)), some (121, true)⟩,
     ⟨(some 125), .bin .add (.c (.int .i64 4)) (.t 124), some (121, true)⟩,
     ⟨(some 126), .bin .geq (.t 122) (.t 125), some (121, true)⟩,
     ⟨(some 127), .pick (.t 121) (.t 126) (.c (.bool false)), none⟩,
     ⟨(some 128), .mov (.t 127), none⟩,
     ⟨(some 129), .mov (.t 8), some (128, true)⟩,
     ⟨(some 130), .mov (.t 9), some (128, true)⟩,
     ⟨(some 131), .bin .lss (.t 129) (.t 130), some (128, true)⟩,
     ⟨(some 132), .pick (.t 128) (.t 131) (.c (.bool false)), none⟩])
   (.cond (.t 132)
    (.seq (.region false [⟨(some 133), .mov (.t 0), none⟩,
      ⟨(some 134), .mov (.t 8), none⟩,
      ⟨(some 135), .ssl (.t 133) (some (.t 134)) none, none⟩,
      ⟨(some 136), .mov (.t 1), none⟩,
      ⟨(some 137), .call F_bytealg_IndexRabinKarp_string [(.t 135), (.t 136)], none⟩,
      ⟨(some 13), .mov (.t 137), none⟩])
    (.seq (.seq (.region false [⟨(some 138), .mov (.t 13), none⟩,
      ⟨(some 139), .bin .lss (.t 138) (.c (.int .i64 0)), none⟩])
    (.cond (.t 139)
     (.seq (.region false [⟨(some 4), .mov (.c (.int .i64 (-1))), none⟩])
     (.ret))
     (.skip)))
    (.seq (.region false [⟨(some 140), .mov (.t 8), none⟩,
      ⟨(some 141), .mov (.t 13), none⟩,
      ⟨(some 142), .bin .add (.t 140) (.t 141), none⟩,
      ⟨(some 4), .mov (.t 142), none⟩])
    (.ret))))
    (.skip))))))))))
def A_stringslite_Index : AFun := ⟨143,
  .seq (.region false [⟨(some 4), .mov (.c (.int .i64 0)), none⟩])
  (.seq (.region false [⟨(some 14), .mov (.t 1), none⟩,
    ⟨(some 15), .lenS (.t 14), none⟩,
    ⟨(some 5), .mov (.t 15), none⟩])
  (.seq (.block 0 (.seq (.region false [⟨(some 17), .mov (.t 5), none⟩,
    ⟨(some 18), .bin .eql (.t 17) (.c (.int .i64 0)), none⟩,
    ⟨(some 19), .mov (.t 18), none⟩,
    ⟨(some 20), .mov (.t 1), some (19, false)⟩,
    ⟨(some 21), .mov (.t 0), some (19, false)⟩,
    ⟨(some 22), .bin .eql (.t 20) (.t 21), some (19, false)⟩,
    ⟨(some 23), .pick (.t 19) (.c (.bool true)) (.t 22), none⟩,
    ⟨(some 16), .mov (.t 23), none⟩])
  (.cond (.t 16)
   (.seq (.region false [⟨(some 4), .mov (.c (.int .i64 0)), none⟩])
   (.ret))
   (.seq (.region false [⟨(some 25), .mov (.t 5), none⟩,
     ⟨(some 26), .bin .eql (.t 25) (.c (.int .i64 1)), none⟩,
     ⟨(some 24), .mov (.t 26), none⟩])
   (.cond (.t 24)
    (.seq (.region false [⟨(some 27), .mov (.t 0), none⟩,
      ⟨(some 28), .mov (.t 1), none⟩,
      ⟨(some 29), .idxS (.t 28) (.c (.int .i64 0)), none⟩,
      ⟨(some 30), .call F_stringslite_IndexByte [(.t 27), (.t 29)], none⟩,
      ⟨(some 4), .mov (.t 30), none⟩])
    (.ret))
    (.seq (.region false [⟨(some 32), .mov (.t 5), none⟩,
      ⟨(some 33), .mov (.t 0), none⟩,
      ⟨(some 34), .lenS (.t 33), none⟩,
      ⟨(some 35), .bin .geq (.t 32) (.t 34), none⟩,
      ⟨(some 31), .mov (.t 35), none⟩])
    (.cond (.t 31)
     (.seq (.region false [⟨(some 4), .mov (.c (.int .i64 (-1))), none⟩])
     (.ret))
     (.seq (.region false [⟨(some 37), .mov (.t 5), none⟩,
       ⟨(some 38), .ld none (.gl 4), none⟩,
       ⟨(some 39), .bin .leq (.t 37) (.t 38), none⟩,
       ⟨(some 40), .mov (.t 39), none⟩,
       ⟨(some 41), .mov (.t 0), some (40, true)⟩,
       ⟨(some 42), .lenS (.t 41), some (40, true)⟩,
       ⟨(some 43), .bin .leq (.t 42) (.c (.int .i64 64)), some (40, true)⟩,
       ⟨(some 44), .pick (.t 40) (.t 43) (.c (.bool false)), none⟩,
       ⟨(some 36), .mov (.t 44), none⟩])
     (.cond (.t 36)
      (.seq (.bad)
      (.ret))
      (.skip))))))))))
  (.seq (.region false [⟨(some 48), .mov (.t 1), none⟩,
    ⟨(some 49), .idxS (.t 48) (.c (.int .i64 0)), none⟩,
    ⟨(some 6), .mov (.t 49), none⟩])
  (.seq (.region false [⟨(some 50), .mov (.t 1), none⟩,
    ⟨(some 51), .idxS (.t 50) (.c (.int .i64 1)), none⟩,
    ⟨(some 7), .mov (.t 51), none⟩])
  (.seq (.region false [⟨(some 8), .mov (.c (.int .i64 0)), none⟩])
  (.seq (.region false [⟨(some 52), .mov (.t 0), none⟩,
    ⟨(some 53), .lenS (.t 52), none⟩,
    ⟨(some 54), .mov (.t 5), none⟩,
    ⟨(some 55), .bin .sub (.t 53) (.t 54), none⟩,
    ⟨(some 56), .bin .add (.t 55) (.c (.int .i64 1)), none⟩,
    ⟨(some 9), .mov (.t 56), none⟩])
  (.seq (.region false [⟨(some 10), .mov (.c (.int .i64 0)), none⟩])
  (.seq (.block 1 (.loop A_stringslite_IndexL0))
  (.seq (.region false [⟨(some 4), .mov (.c (.int .i64 (-1))), none⟩])
  (.ret)))))))))),
  [.tmp 4]⟩

/- stringslite_HasPrefix -/
def A_stringslite_HasPrefix : AFun := ⟨18,
  .seq (.region false [⟨(some 4), .mov (.c (.bool false)), none⟩])
  (.seq (.region false [⟨(some 5), .mov (.t 0), none⟩,
    ⟨(some 6), .lenS (.t 5), none⟩,
    ⟨(some 7), .mov (.t 1), none⟩,
    ⟨(some 8), .lenS (.t 7), none⟩,
    ⟨(some 9), .bin .geq (.t 6) (.t 8), none⟩,
    ⟨(some 10), .mov (.t 9), none⟩,
    ⟨(some 11), .mov (.t 0), some (10, true)⟩,
    ⟨(some 12), .mov (.t 1), some (10, true)⟩,
    ⟨(some 13), .lenS (.t 12), some (10, true)⟩,
    ⟨(some 14), .ssl (.t 11) none (some (.t 13)), some (10, true)⟩,
    ⟨(some 15), .mov (.t 1), some (10, true)⟩,
    ⟨(some 16), .bin .eql (.t 14) (.t 15), some (10, true)⟩,
    ⟨(some 17), .pick (.t 10) (.t 16) (.c (.bool false)), none⟩,
    ⟨(some 4), .mov (.t 17), none⟩])
  (.ret)),
  [.tmp 4]⟩

/- strings_asciiSet_contains -/
def A_strings_asciiSet_contains : AFun := ⟨10,
  .seq (.region false [⟨(some 4), .mov (.c (.bool false)), none⟩])
  (.seq (.region false [⟨(some 5), .mov (.t 0), none⟩,
    ⟨(some 6), .mov (.t 1), none⟩,
    ⟨(some 7), .nck (.t 5), none⟩,
    ⟨(some 8), .idxP 256 1 (.t 7) (.t 6), none⟩,
    ⟨(some 9), .ld none (.t 8), none⟩,
    ⟨(some 4), .mov (.t 9), none⟩])
  (.ret)),
  [.tmp 4]⟩

/- utf8_DecodeRuneInString -/
def A_utf8_DecodeRuneInString : AFun := ⟨19,
  .seq (.region false [⟨(some 2), .mov (.c (.int .i32 0)), none⟩,
    ⟨(some 3), .mov (.c (.int .i64 0)), none⟩])
  (.seq (.seq (.region false [⟨(some 4), .mov (.t 0), none⟩,
    ⟨(some 5), .bin .neq (.t 4) (.c (.str [])), none⟩,
    ⟨(some 6), .mov (.t 5), none⟩,
    ⟨(some 7), .mov (.t 0), some (6, true)⟩,
    ⟨(some 8), .idxS (.t 7) (.c (.int .i64 0)), some (6, true)⟩,
    ⟨(some 9), .bin .lss (.t 8) (.c (.int .u8 128)), some (6, true)⟩,
    ⟨(some 10), .pick (.t 6) (.t 9) (.c (.bool false)), none⟩])
  (.cond (.t 10)
   (.seq (.region false [⟨(some 11), .mov (.t 0), none⟩,
     ⟨(some 12), .idxS (.t 11) (.c (.int .i64 0)), none⟩,
     ⟨(some 13), .conv .i32 (.t 12), none⟩,
     ⟨(some 2), .mov (.t 13), none⟩,
     ⟨(some 3), .mov (.c (.int .i64 1)), none⟩])
   (.ret))
   (.region false [⟨(some 15), .mov (.t 0), none⟩,
     ⟨(some 16), .call F_utf8_decodeRuneInStringSlow [(.t 15)], none⟩,
     ⟨(some 14), .mov (.t 16), none⟩,
     ⟨(some 17), .extr (.t 14) 0, none⟩,
     ⟨(some 18), .extr (.t 14) 1, none⟩,
     ⟨(some 2), .mov (.t 17), none⟩,
     ⟨(some 3), .mov (.t 18), none⟩])))
  (.ret)),
  [.tmp 2, .tmp 3]⟩

/- strings_ContainsRune -/
def A_strings_ContainsRune : AFun := ⟨9,
  .seq (.region false [⟨(some 4), .mov (.c (.bool false)), none⟩])
  (.seq (.region false [⟨(some 5), .mov (.t 0), none⟩,
    ⟨(some 6), .mov (.t 1), none⟩,
    ⟨(some 7), .call F_strings_IndexRune [(.t 5), (.t 6)], none⟩,
    ⟨(some 8), .bin .geq (.t 7) (.c (.int .i64 0)), none⟩,
    ⟨(some 4), .mov (.t 8), none⟩])
  (.ret)),
  [.tmp 4]⟩

/- utf8_DecodeLastRuneInString -/
def A_utf8_DecodeLastRuneInStringL0 : ACode :=
  .seq (.seq (.region false [⟨(some 25), .mov (.t 5), none⟩,
    ⟨(some 26), .mov (.t 6), none⟩,
    ⟨(some 27), .bin .geq (.t 25) (.t 26), none⟩])
  (.cond (.t 27)
   (.skip)
   (.exit 0)))
  (.seq (.block 1 (.seq (.region false [⟨(some 30), .mov (.t 0), none⟩,
    ⟨(some 31), .mov (.t 5), none⟩,
    ⟨(some 32), .idxS (.t 30) (.t 31), none⟩,
    ⟨(some 33), .call F_utf8_RuneStart [(.t 32)], none⟩])
  (.cond (.t 33)
   (.exit 0)
   (.skip))))
  (.region false [⟨(some 28), .mov (.t 5), none⟩,
    ⟨(some 29), .bin .sub (.t 28) (.c (.int .i64 1)), none⟩,
    ⟨(some 5), .mov (.t 29), none⟩]))
def A_utf8_DecodeLastRuneInString : AFun := ⟨51,
  .seq (.region false [⟨(some 2), .mov (.c (.int .i32 0)), none⟩,
    ⟨(some 3), .mov (.c (.int .i64 0)), none⟩])
  (.seq (.region false [⟨(some 7), .mov (.t 0), none⟩,
    ⟨(some 8), .lenS (.t 7), none⟩,
    ⟨(some 4), .mov (.t 8), none⟩])
  (.seq (.seq (.region false [⟨(some 9), .mov (.t 4), none⟩,
    ⟨(some 10), .bin .eql (.t 9) (.c (.int .i64 0)), none⟩])
  (.cond (.t 10)
   (.seq (.region false [⟨(some 2), .mov (.c (.int .i32 65533)), none⟩,
     ⟨(some 3), .mov (.c (.int .i64 0)), none⟩])
   (.ret))
   (.skip)))
  (.seq (.region false [⟨(some 11), .mov (.t 4), none⟩,
    ⟨(some 12), .bin .sub (.t 11) (.c (.int .i64 1)), none⟩,
    ⟨(some 5), .mov (.t 12), none⟩])
  (.seq (.region false [⟨(some 13), .mov (.t 0), none⟩,
    ⟨(some 14), .mov (.t 5), none⟩,
    ⟨(some 15), .idxS (.t 13) (.t 14), none⟩,
    ⟨(some 16), .conv .i32 (.t 15), none⟩,
    ⟨(some 2), .mov (.t 16), none⟩])
  (.seq (.seq (.region false [⟨(some 17), .mov (.t 2), none⟩,
    ⟨(some 18), .bin .lss (.t 17) (.c (.int .i32 128)), none⟩])
  (.cond (.t 18)
   (.seq (.region false [⟨(some 19), .mov (.t 2), none⟩,
     ⟨(some 2), .mov (.t 19), none⟩,
     ⟨(some 3), .mov (.c (.int .i64 1)), none⟩])
   (.ret))
   (.skip)))
  (.seq (.region false [⟨(some 20), .mov (.t 4), none⟩,
    ⟨(some 21), .bin .sub (.t 20) (.c (.int .i64 4)), none⟩,
    ⟨(some 22), .mm true (.t 21) (.c (.int .i64 0)), none⟩,
    ⟨(some 6), .mov (.t 22), none⟩])
  (.seq (.seq (.region false [⟨(some 23), .mov (.t 5), none⟩,
    ⟨(some 24), .bin .sub (.t 23) (.c (.int .i64 1)), none⟩,
    ⟨(some 5), .mov (.t 24), none⟩])
  (.block 0 (.loop A_utf8_DecodeLastRuneInStringL0)))
  (.seq (.seq (.region false [⟨(some 34), .mov (.t 5), none⟩,
    ⟨(some 35), .bin .lss (.t 34) (.c (.int .i64 0)), none⟩])
  (.cond (.t 35)
   (.region false [⟨(some 5), .mov (.c (.int .i64 0)), none⟩])
   (.skip)))
  (.seq (.region false [⟨(some 37), .mov (.t 0), none⟩,
    ⟨(some 38), .mov (.t 5), none⟩,
    ⟨(some 39), .mov (.t 4), none⟩,
    ⟨(some 40), .ssl (.t 37) (some (.t 38)) (some (.t 39)), none⟩,
    ⟨(some 41), .call F_utf8_DecodeRuneInString [(.t 40)], none⟩,
    ⟨(some 36), .mov (.t 41), none⟩,
    ⟨(some 42), .extr (.t 36) 0, none⟩,
    ⟨(some 43), .extr (.t 36) 1, none⟩,
    ⟨(some 2), .mov (.t 42), none⟩,
    ⟨(some 3), .mov (.t 43), none⟩])
  (.seq (.seq (.region false [⟨(some 44), .mov (.t 5), none⟩,
    ⟨(some 45), .mov (.t 3), none⟩,
    ⟨(some 46), .bin .add (.t 44) (.t 45), none⟩,
    ⟨(some 47), .mov (.t 4), none⟩,
    ⟨(some 48), .bin .neq (.t 46) (.t 47), none⟩])
  (.cond (.t 48)
   (.seq (.region false [⟨(some 2), .mov (.c (.int .i32 65533)), none⟩,
     ⟨(some 3), .mov (.c (.int .i64 1)), none⟩])
   (.ret))
   (.skip)))
  (.seq (.region false [⟨(some 49), .mov (.t 2), none⟩,
    ⟨(some 50), .mov (.t 3), none⟩,
    ⟨(some 2), .mov (.t 49), none⟩,
    ⟨(some 3), .mov (.t 50), none⟩])
  (.ret)))))))))))),
  [.tmp 2, .tmp 3]⟩

/- strconv_lower -/
def A_strconv_lower : AFun := ⟨5,
  .seq (.region false [⟨(some 2), .mov (.c (.int .u8 0)), none⟩])
  (.seq (.region false [⟨(some 3), .mov (.t 0), none⟩,
    ⟨(some 4), .bin .or (.t 3) (.c (.int .u8 32)), none⟩,
    ⟨(some 2), .mov (.t 4), none⟩])
  (.ret)),
  [.tmp 2]⟩

/- strconv_underscoreOK -/
def A_strconv_underscoreOKL0 : ACode :=
  .seq (.seq (.region false [⟨(some 51), .mov (.t 4), none⟩,
    ⟨(some 52), .mov (.t 0), none⟩,
    ⟨(some 53), .lenS (.t 52), none⟩,
    ⟨(some 54), .bin .lss (.t 51) (.t 53), none⟩])
  (.cond (.t 54)
   (.skip)
   (.exit 0)))
  (.seq (.block 1 (.seq (.seq (.region false [⟨(some 57), .mov (.t 0), none⟩,
    ⟨(some 58), .mov (.t 4), none⟩,
    ⟨(some 59), .idxS (.t 57) (.t 58), none⟩,
    ⟨(some 60), .bin .leq (.c (.int .u8 48)) (.t 59), none⟩,
    ⟨(some 61), .mov (.t 60), none⟩,
    ⟨(some 62), .mov (.t 0), some (61, true)⟩,
    ⟨(some 63), .mov (.t 4), some (61, true)⟩,
    ⟨(some 64), .idxS (.t 62) (.t 63), some (61, true)⟩,
    ⟨(some 65), .bin .leq (.t 64) (.c (.int .u8 57)), some (61, true)⟩,
    ⟨(some 66), .pick (.t 61) (.t 65) (.c (.bool false)), none⟩,
    ⟨(some 67), .mov (.t 66), none⟩,
    ⟨(some 68), .mov (.t 5), some (67, false)⟩,
    ⟨(some 69), .mov (.t 68), some (67, false)⟩,
    ⟨(some 70), .mov (.t 0), some (69, true)⟩,
    ⟨(some 71), .mov (.t 4), some (69, true)⟩,
    ⟨(some 72), .idxS (.t 70) (.t 71), some (69, true)⟩,
    ⟨(some 73), .call F_strconv_lower [(.t 72)], some (69, true)⟩,
    ⟨(some 74), .bin .leq (.c (.int .u8 97)) (.t 73), some (69, true)⟩,
    ⟨(some 75), .pick (.t 69) (.t 74) (.c (.bool false)), some (67, false)⟩,
    ⟨(some 76), .mov (.t 75), some (67, false)⟩,
    ⟨(some 77), .mov (.t 0), some (76, true)⟩,
    ⟨(some 78), .mov (.t 4), some (76, true)⟩,
    ⟨(some 79), .idxS (.t 77) (.t 78), some (76, true)⟩,
    ⟨(some 80), .call F_strconv_lower [(.t 79)], some (76, true)⟩,
    ⟨(some 81), .bin .leq (.t 80) (.c (.int .u8 102)), some (76, true)⟩,
    ⟨(some 82), .pick (.t 76) (.t 81) (.c (.bool false)), some (67, false)⟩,
    ⟨(some 83), .pick (.t 67) (.c (.bool true)) (.t 82), none⟩])
  (.cond (.t 83)
   (.seq (.region false [⟨(some 3), .mov (.c (.int .i32 48)), none⟩])
   (.exit 1))
   (.skip)))
  (.seq (.seq (.region false [⟨(some 84), .mov (.t 0), none⟩,
    ⟨(some 85), .mov (.t 4), none⟩,
    ⟨(some 86), .idxS (.t 84) (.t 85), none⟩,
    ⟨(some 87), .bin .eql (.t 86) (.c (.int .u8 95)), none⟩])
  (.cond (.t 87)
   (.seq (.seq (.region false [⟨(some 88), .mov (.t 3), none⟩,
     ⟨(some 89), .bin .neq (.t 88) (.c (.int .i32 48)), none⟩])
   (.cond (.t 89)
    (.seq (.region false [⟨(some 2), .mov (.c (.bool false)), none⟩])
    (.ret))
    (.skip)))
   (.seq (.region false [⟨(some 3), .mov (.c (.int .i32 95)), none⟩])
   (.exit 1)))
   (.skip)))
  (.seq (.seq (.region false [⟨(some 90), .mov (.t 3), none⟩,
    ⟨(some 91), .bin .eql (.t 90) (.c (.int .i32 95)), none⟩])
  (.cond (.t 91)
   (.seq (.region false [⟨(some 2), .mov (.c (.bool false)), none⟩])
   (.ret))
   (.skip)))
  (.region false [⟨(some 3), .mov (.c (.int .i32 33)), none⟩])))))
  (.region false [⟨(some 55), .mov (.t 4), none⟩,
    ⟨(some 56), .bin .add (.t 55) (.c (.int .i64 1)), none⟩,
    ⟨(some 4), .mov (.t 56), none⟩]))
def A_strconv_underscoreOK : AFun := ⟨94,
  .seq (.region false [⟨(some 2), .mov (.c (.bool false)), none⟩])
  (.seq (.region false [⟨(some 3), .mov (.c (.int .i32 94)), none⟩])
  (.seq (.region false [⟨(some 4), .mov (.c (.int .i64 0)), none⟩])
  (.seq (.seq (.region false [⟨(some 6), .mov (.t 0), none⟩,
    ⟨(some 7), .lenS (.t 6), none⟩,
    ⟨(some 8), .bin .geq (.t 7) (.c (.int .i64 1)), none⟩,
    ⟨(some 9), .mov (.t 8), none⟩,
    ⟨(some 10), .mov (.t 0), some (9, true)⟩,
    ⟨(some 11), .idxS (.t 10) (.c (.int .i64 0)), some (9, true)⟩,
    ⟨(some 12), .bin .eql (.t 11) (.c (.int .u8 45)), some (9, true)⟩,
    ⟨(some 13), .mov (.t 12), some (9, true)⟩,
    ⟨(some 14), .mov (.t 0), some (13, false)⟩,
    ⟨(some 15), .idxS (.t 14) (.c (.int .i64 0)), some (13, false)⟩,
    ⟨(some 16), .bin .eql (.t 15) (.c (.int .u8 43)), some (13, false)⟩,
    ⟨(some 17), .pick (.t 13) (.c (.bool true)) (.t 16), some (9, true)⟩,
    ⟨(some 18), .pick (.t 9) (.t 17) (.c (.bool false)), none⟩])
  (.cond (.t 18)
   (.region false [⟨(some 19), .mov (.t 0), none⟩,
     ⟨(some 20), .ssl (.t 19) (some (.c (.int .i64 1))) none, none⟩,
     ⟨(some 0), .mov (.t 20), none⟩])
   (.skip)))
  (.seq (.region false [⟨(some 5), .mov (.c (.bool false)), none⟩])
  (.seq (.seq (.region false [⟨(some 21), .mov (.t 0), none⟩,
    ⟨(some 22), .lenS (.t 21), none⟩,
    ⟨(some 23), .bin .geq (.t 22) (.c (.int .i64 2)), none⟩,
    ⟨(some 24), .mov (.t 23), none⟩,
    ⟨(some 25), .mov (.t 0), some (24, true)⟩,
    ⟨(some 26), .idxS (.t 25) (.c (.int .i64 0)), some (24, true)⟩,
    ⟨(some 27), .bin .eql (.t 26) (.c (.int .u8 48)), some (24, true)⟩,
    ⟨(some 28), .pick (.t 24) (.t 27) (.c (.bool false)), none⟩,
    ⟨(some 29), .mov (.t 28), none⟩,
    ⟨(some 30), .mov (.t 0), some (29, true)⟩,
    ⟨(some 31), .idxS (.t 30) (.c (.int .i64 1)), some (29, true)⟩,
    ⟨(some 32), .call F_strconv_lower [(.t 31)], some (29, true)⟩,
    ⟨(some 33), .bin .eql (.t 32) (.c (.int .u8 98)), some (29, true)⟩,
    ⟨(some 34), .mov (.t 33), some (29, true)⟩,
    ⟨(some 35), .mov (.t 0), some (34, false)⟩,
    ⟨(some 36), .idxS (.t 35) (.c (.int .i64 1)), some (34, false)⟩,
    ⟨(some 37), .call F_strconv_lower [(.t 36)], some (34, false)⟩,
    ⟨(some 38), .bin .eql (.t 37) (.c (.int .u8 111)), some (34, false)⟩,
    ⟨(some 39), .pick (.t 34) (.c (.bool true)) (.t 38), some (29, true)⟩,
    ⟨(some 40), .mov (.t 39), some (29, true)⟩,
    ⟨(some 41), .mov (.t 0), some (40, false)⟩,
    ⟨(some 42), .idxS (.t 41) (.c (.int .i64 1)), some (40, false)⟩,
    ⟨(some 43), .call F_strconv_lower [(.t 42)], some (40, false)⟩,
    ⟨(some 44), .bin .eql (.t 43) (.c (.int .u8 120)), some (40, false)⟩,
    ⟨(some 45), .pick (.t 40) (.c (.bool true)) (.t 44), some (29, true)⟩,
    ⟨(some 46), .pick (.t 29) (.t 45) (.c (.bool false)), none⟩])
  (.cond (.t 46)
   (.seq (.region false [⟨(some 4), .mov (.c (.int .i64 2)), none⟩])
   (.seq (.region false [⟨(some 3), .mov (.c (.int .i32 48)), none⟩])
   (.region false [⟨(some 47), .mov (.t 0), none⟩,
     ⟨(some 48), .idxS (.t 47) (.c (.int .i64 1)), none⟩,
     ⟨(some 49), .call F_strconv_lower [(.t 48)], none⟩,
     ⟨(some 50), .bin .eql (.t 49) (.c (.int .u8 120)), none⟩,
     ⟨(some 5), .mov (.t 50), none⟩])))
   (.skip)))
  (.seq (.block 0 (.loop A_strconv_underscoreOKL0))
  (.seq (.region false [⟨(some 92), .mov (.t 3), none⟩,
    ⟨(some 93), .bin .neq (.t 92) (.c (.int .i32 95)), none⟩,
    ⟨(some 2), .mov (.t 93), none⟩])
  (.ret)))))))),
  [.tmp 2]⟩

/- stringslite_Clone -/
def A_stringslite_Clone : AFun := ⟨18,
  .seq (.region false [⟨(some 2), .mov (.c (.str [])), none⟩])
  (.seq (.seq (.region false [⟨(some 4), .mov (.t 0), none⟩,
    ⟨(some 5), .lenS (.t 4), none⟩,
    ⟨(some 6), .bin .eql (.t 5) (.c (.int .i64 0)), none⟩])
  (.cond (.t 6)
   (.seq (.region false [⟨(some 2), .mov (.c (.str [])), none⟩])
   (.ret))
   (.skip)))
  (.seq (.region false [⟨(some 7), .mov (.t 0), none⟩,
    ⟨(some 8), .lenS (.t 7), none⟩,
    ⟨(some 9), .mkR 1 1 [.int .u8 0] (.t 8) (.t 8), none⟩,
    ⟨(some 3), .mov (.t 9), none⟩])
  (.seq (.bad)
  (.seq (.bad)
  (.ret))))),
  [.tmp 2]⟩

/- errors_New -/
def A_errors_New : AFun := ⟨7,
  .seq (.region false [⟨(some 2), .mov (.c (.nilI)), none⟩])
  (.seq (.region false [⟨(some 3), .mov (.t 0), none⟩,
    ⟨(some 4), .build [.str []] [(0, 1, (.t 3))], none⟩,
    ⟨(some 5), .box (.t 4), none⟩,
    ⟨(some 6), .mki 185 (.t 5), none⟩,
    ⟨(some 2), .mov (.t 6), none⟩])
  (.ret)),
  [.tmp 2]⟩

/- bits_TrailingZeros32 -/
def A_bits_TrailingZeros32 : AFun := ⟨14,
  .seq (.region false [⟨(some 2), .mov (.c (.int .i64 0)), none⟩])
  (.seq (.seq (.region false [⟨(some 3), .mov (.t 0), none⟩,
    ⟨(some 4), .bin .eql (.t 3) (.c (.int .u32 0)), none⟩])
  (.cond (.t 4)
   (.seq (.region false [⟨(some 2), .mov (.c (.int .i64 32)), none⟩])
   (.ret))
   (.skip)))
  (.seq (.region false [⟨(some 5), .mov (.t 0), none⟩,
    ⟨(some 6), .mov (.t 0), none⟩,
    ⟨(some 7), .neg (.t 6), none⟩,
    ⟨(some 8), .bin .and (.t 5) (.t 7), none⟩,
    ⟨(some 9), .bin .mul (.t 8) (.c (.int .u32 125613361)), none⟩,
    ⟨(some 10), .bin .shr (.t 9) (.c (.int .u64 27)), none⟩,
    ⟨(some 11), .idxP 32 1 (.gl 5) (.t 10), none⟩,
    ⟨(some 12), .ld none (.t 11), none⟩,
    ⟨(some 13), .conv .i64 (.t 12), none⟩,
    ⟨(some 2), .mov (.t 13), none⟩])
  (.ret))),
  [.tmp 2]⟩

/- bits_TrailingZeros64 -/
def A_bits_TrailingZeros64 : AFun := ⟨14,
  .seq (.region false [⟨(some 2), .mov (.c (.int .i64 0)), none⟩])
  (.seq (.seq (.region false [⟨(some 3), .mov (.t 0), none⟩,
    ⟨(some 4), .bin .eql (.t 3) (.c (.int .u64 0)), none⟩])
  (.cond (.t 4)
   (.seq (.region false [⟨(some 2), .mov (.c (.int .i64 64)), none⟩])
   (.ret))
   (.skip)))
  (.seq (.region false [⟨(some 5), .mov (.t 0), none⟩,
    ⟨(some 6), .mov (.t 0), none⟩,
    ⟨(some 7), .neg (.t 6), none⟩,
    ⟨(some 8), .bin .and (.t 5) (.t 7), none⟩,
    ⟨(some 9), .bin .mul (.t 8) (.c (.int .u64 285870213051353865)), none⟩,
    ⟨(some 10), .bin .shr (.t 9) (.c (.int .u64 58)), none⟩,
    ⟨(some 11), .idxP 64 1 (.gl 6) (.t 10), none⟩,
    ⟨(some 12), .ld none (.t 11), none⟩,
    ⟨(some 13), .conv .i64 (.t 12), none⟩,
    ⟨(some 2), .mov (.t 13), none⟩])
  (.ret))),
  [.tmp 2]⟩

/- stringslite_IndexByte -/
def A_stringslite_IndexByte : AFun := ⟨8,
  .seq (.region false [⟨(some 4), .mov (.c (.int .i64 0)), none⟩])
  (.seq (.bad)
  (.ret)),
  [.tmp 4]⟩

/- bytealg_Cutover -/
def A_bytealg_Cutover : AFun := ⟨6,
  .seq (.region false [⟨(some 2), .mov (.c (.int .i64 0)), none⟩])
  (.seq (.region false [⟨(some 3), .mov (.t 0), none⟩,
    ⟨(some 4), .bin .add (.t 3) (.c (.int .i64 16)), none⟩,
    ⟨(some 5), .bin .quo (.t 4) (.c (.int .i64 8)), none⟩,
    ⟨(some 2), .mov (.t 5), none⟩])
  (.ret)),
  [.tmp 2]⟩

/- bytealg_IndexRabinKarp_string -/
def A_bytealg_IndexRabinKarp_stringL0 : ACode :=
  .seq (.seq (.region false [⟨(some 18), .mov (.t 9), none⟩,
    ⟨(some 19), .mov (.t 7), none⟩,
    ⟨(some 20), .bin .lss (.t 18) (.t 19), none⟩])
  (.cond (.t 20)
   (.skip)
   (.exit 0)))
  (.seq (.block 1 (.region false [⟨(some 23), .mov (.t 8), none⟩,
    ⟨(some 24), .bin .mul (.t 23) (.c (.int .u32 16777619)), none⟩,
    ⟨(some 25), .mov (.t 0), none⟩,
    ⟨(some 26), .mov (.t 9), none⟩,
    ⟨(some 27), .idxS (.t 25) (.t 26), none⟩,
    ⟨(some 28), .conv .u32 (.t 27), none⟩,
    ⟨(some 29), .bin .add (.t 24) (.t 28), none⟩,
    ⟨(some 8), .mov (.t 29), none⟩]))
  (.region false [⟨(some 21), .mov (.t 9), none⟩,
    ⟨(some 22), .bin .add (.t 21) (.c (.int .i64 1)), none⟩,
    ⟨(some 9), .mov (.t 22), none⟩]))
def A_bytealg_IndexRabinKarp_stringL1 : ACode :=
  .seq (.seq (.region false [⟨(some 41), .mov (.t 10), none⟩,
    ⟨(some 42), .mov (.t 0), none⟩,
    ⟨(some 43), .lenS (.t 42), none⟩,
    ⟨(some 44), .bin .lss (.t 41) (.t 43), none⟩])
  (.cond (.t 44)
   (.skip)
   (.exit 2)))
  (.block 3 (.seq (.region false [⟨(some 45), .mov (.t 8), none⟩,
    ⟨(some 46), .bin .mul (.t 45) (.c (.int .u32 16777619)), none⟩,
    ⟨(some 8), .mov (.t 46), none⟩])
  (.seq (.region false [⟨(some 47), .mov (.t 8), none⟩,
    ⟨(some 48), .mov (.t 0), none⟩,
    ⟨(some 49), .mov (.t 10), none⟩,
    ⟨(some 50), .idxS (.t 48) (.t 49), none⟩,
    ⟨(some 51), .conv .u32 (.t 50), none⟩,
    ⟨(some 52), .bin .add (.t 47) (.t 51), none⟩,
    ⟨(some 8), .mov (.t 52), none⟩])
  (.seq (.region false [⟨(some 53), .mov (.t 8), none⟩,
    ⟨(some 54), .mov (.t 6), none⟩,
    ⟨(some 55), .mov (.t 0), none⟩,
    ⟨(some 56), .mov (.t 10), none⟩,
    ⟨(some 57), .mov (.t 7), none⟩,
    ⟨(some 58), .bin .sub (.t 56) (.t 57), none⟩,
    ⟨(some 59), .idxS (.t 55) (.t 58), none⟩,
    ⟨(some 60), .conv .u32 (.t 59), none⟩,
    ⟨(some 61), .bin .mul (.t 54) (.t 60), none⟩,
    ⟨(some 62), .bin .sub (.t 53) (.t 61), none⟩,
    ⟨(some 8), .mov (.t 62), none⟩])
  (.seq (.region false [⟨(some 63), .mov (.t 10), none⟩,
    ⟨(some 64), .bin .add (.t 63) (.c (.int .i64 1)), none⟩,
    ⟨(some 10), .mov (.t 64), none⟩])
  (.seq (.region false [⟨(some 65), .mov (.t 8), none⟩,
    ⟨(some 66), .mov (.t 5), none⟩,
    ⟨(some 67), .bin .eql (.t 65) (.t 66), none⟩,
    ⟨(some 68), .mov (.t 67), none⟩,
    ⟨(some 69), .mov (.t 0), some (68, true)⟩,
    ⟨(some 70), .mov (.t 10), some (68, true)⟩,
    ⟨(some 71), .mov (.t 7), some (68, true)⟩,
    ⟨(some 72), .bin .sub (.t 70) (.t 71), some (68, true)⟩,
    ⟨(some 73), .mov (.t 10), some (68, true)⟩,
    ⟨(some 74), .ssl (.t 69) (some (.t 72)) (some (.t 73)), some (68, true)⟩,
    ⟨(some 75), .mov (.t 1), some (68, true)⟩,
    ⟨(some 76), .bin .eql (.t 74) (.t 75), some (68, true)⟩,
    ⟨(some 77), .pick (.t 68) (.t 76) (.c (.bool false)), none⟩])
  (.cond (.t 77)
   (.seq (.region false [⟨(some 78), .mov (.t 10), none⟩,
     ⟨(some 79), .mov (.t 7), none⟩,
     ⟨(some 80), .bin .sub (.t 78) (.t 79), none⟩,
     ⟨(some 4), .mov (.t 80), none⟩])
   (.ret))
   (.skip))))))))
def A_bytealg_IndexRabinKarp_string : AFun := ⟨81,
  .seq (.region false [⟨(some 4), .mov (.c (.int .i64 0)), none⟩])
  (.seq (.region false [⟨(some 12), .mov (.t 1), none⟩,
    ⟨(some 13), .call F_bytealg_hashStr_string [(.t 12)], none⟩,
    ⟨(some 11), .mov (.t 13), none⟩,
    ⟨(some 14), .extr (.t 11) 0, none⟩,
    ⟨(some 15), .extr (.t 11) 1, none⟩,
    ⟨(some 5), .mov (.t 14), none⟩,
    ⟨(some 6), .mov (.t 15), none⟩])
  (.seq (.region false [⟨(some 16), .mov (.t 1), none⟩,
    ⟨(some 17), .lenS (.t 16), none⟩,
    ⟨(some 7), .mov (.t 17), none⟩])
  (.seq (.region false [⟨(some 8), .mov (.c (.int .u32 0)), none⟩])
  (.seq (.seq (.region false [⟨(some 9), .mov (.c (.int .i64 0)), none⟩])
  (.block 0 (.loop A_bytealg_IndexRabinKarp_stringL0)))
  (.seq (.seq (.region false [⟨(some 30), .mov (.t 8), none⟩,
    ⟨(some 31), .mov (.t 5), none⟩,
    ⟨(some 32), .bin .eql (.t 30) (.t 31), none⟩,
    ⟨(some 33), .mov (.t 32), none⟩,
    ⟨(some 34), .mov (.t 0), some (33, true)⟩,
    ⟨(some 35), .mov (.t 7), some (33, true)⟩,
    ⟨(some 36), .ssl (.t 34) none (some (.t 35)), some (33, true)⟩,
    ⟨(some 37), .mov (.t 1), some (33, true)⟩,
    ⟨(some 38), .bin .eql (.t 36) (.t 37), some (33, true)⟩,
    ⟨(some 39), .pick (.t 33) (.t 38) (.c (.bool false)), none⟩])
  (.cond (.t 39)
   (.seq (.region false [⟨(some 4), .mov (.c (.int .i64 0)), none⟩])
   (.ret))
   (.skip)))
  (.seq (.seq (.region false [⟨(some 40), .mov (.t 7), none⟩,
    ⟨(some 10), .mov (.t 40), none⟩])
  (.block 2 (.loop A_bytealg_IndexRabinKarp_stringL1)))
  (.seq (.region false [⟨(some 4), .mov (.c (.int .i64 (-1))), none⟩])
  (.ret)))))))),
  [.tmp 4]⟩

/- utf8_decodeRuneInStringSlow -/
def A_utf8_decodeRuneInStringSlow : AFun := ⟨117,
  .seq (.region false [⟨(some 2), .mov (.c (.int .i32 0)), none⟩,
    ⟨(some 3), .mov (.c (.int .i64 0)), none⟩])
  (.seq (.region false [⟨(some 13), .mov (.t 0), none⟩,
    ⟨(some 14), .lenS (.t 13), none⟩,
    ⟨(some 4), .mov (.t 14), none⟩])
  (.seq (.seq (.region false [⟨(some 15), .mov (.t 4), none⟩,
    ⟨(some 16), .bin .lss (.t 15) (.c (.int .i64 1)), none⟩])
  (.cond (.t 16)
   (.seq (.region false [⟨(some 2), .mov (.c (.int .i32 65533)), none⟩,
     ⟨(some 3), .mov (.c (.int .i64 0)), none⟩])
   (.ret))
   (.skip)))
  (.seq (.region false [⟨(some 17), .mov (.t 0), none⟩,
    ⟨(some 18), .idxS (.t 17) (.c (.int .i64 0)), none⟩,
    ⟨(some 5), .mov (.t 18), none⟩])
  (.seq (.region false [⟨(some 19), .mov (.t 5), none⟩,
    ⟨(some 20), .idxP 256 1 (.gl 7) (.t 19), none⟩,
    ⟨(some 21), .ld none (.t 20), none⟩,
    ⟨(some 6), .mov (.t 21), none⟩])
  (.seq (.seq (.region false [⟨(some 22), .mov (.t 6), none⟩,
    ⟨(some 23), .bin .geq (.t 22) (.c (.int .u8 240)), none⟩])
  (.cond (.t 23)
   (.seq (.region false [⟨(some 24), .mov (.t 6), none⟩,
     ⟨(some 25), .conv .i32 (.t 24), none⟩,
     ⟨(some 26), .bin .shl (.t 25) (.c (.int .u64 31)), none⟩,
     ⟨(some 27), .bin .shr (.t 26) (.c (.int .u64 31)), none⟩,
     ⟨(some 7), .mov (.t 27), none⟩])
   (.seq (.region false [⟨(some 28), .mov (.t 0), none⟩,
     ⟨(some 29), .idxS (.t 28) (.c (.int .i64 0)), none⟩,
     ⟨(some 30), .conv .i32 (.t 29), none⟩,
     ⟨(some 31), .mov (.t 7), none⟩,
     ⟨(some 32), .bin .andNot (.t 30) (.t 31), none⟩,
     ⟨(some 33), .mov (.t 7), none⟩,
     ⟨(some 34), .bin .and (.c (.int .i32 65533)) (.t 33), none⟩,
     ⟨(some 35), .bin .or (.t 32) (.t 34), none⟩,
     ⟨(some 2), .mov (.t 35), none⟩,
     ⟨(some 3), .mov (.c (.int .i64 1)), none⟩])
   (.ret)))
   (.skip)))
  (.seq (.region false [⟨(some 36), .mov (.t 6), none⟩,
    ⟨(some 37), .bin .and (.t 36) (.c (.int .u8 7)), none⟩,
    ⟨(some 38), .conv .i64 (.t 37), none⟩,
    ⟨(some 8), .mov (.t 38), none⟩])
  (.seq (.region false [⟨(some 39), .mov (.t 6), none⟩,
    ⟨(some 40), .bin .shr (.t 39) (.c (.int .u64 4)), none⟩,
    ⟨(some 41), .idxP 16 2 (.gl 8) (.t 40), none⟩,
    ⟨(some 42), .ld (some 2) (.t 41), none⟩,
    ⟨(some 9), .alloc [.int .u8 0, .int .u8 0], none⟩,
    ⟨none, .st 2 (.t 9) (.t 42), none⟩])
  (.seq (.seq (.region false [⟨(some 43), .mov (.t 4), none⟩,
    ⟨(some 44), .mov (.t 8), none⟩,
    ⟨(some 45), .bin .lss (.t 43) (.t 44), none⟩])
  (.cond (.t 45)
   (.seq (.region false [⟨(some 2), .mov (.c (.int .i32 65533)), none⟩,
     ⟨(some 3), .mov (.c (.int .i64 1)), none⟩])
   (.ret))
   (.skip)))
  (.seq (.region false [⟨(some 46), .mov (.t 0), none⟩,
    ⟨(some 47), .idxS (.t 46) (.c (.int .i64 1)), none⟩,
    ⟨(some 10), .mov (.t 47), none⟩])
  (.seq (.seq (.region false [⟨(some 48), .mov (.t 10), none⟩,
    ⟨(some 49), .fldA 0 (.t 9), none⟩,
    ⟨(some 50), .ld none (.t 49), none⟩,
    ⟨(some 51), .bin .lss (.t 48) (.t 50), none⟩,
    ⟨(some 52), .mov (.t 51), none⟩,
    ⟨(some 53), .fldA 1 (.t 9), some (52, false)⟩,
    ⟨(some 54), .ld none (.t 53), some (52, false)⟩,
    ⟨(some 55), .mov (.t 10), some (52, false)⟩,
    ⟨(some 56), .bin .lss (.t 54) (.t 55), some (52, false)⟩,
    ⟨(some 57), .pick (.t 52) (.c (.bool true)) (.t 56), none⟩])
  (.cond (.t 57)
   (.seq (.region false [⟨(some 2), .mov (.c (.int .i32 65533)), none⟩,
     ⟨(some 3), .mov (.c (.int .i64 1)), none⟩])
   (.ret))
   (.skip)))
  (.seq (.seq (.region false [⟨(some 58), .mov (.t 8), none⟩,
    ⟨(some 59), .bin .leq (.t 58) (.c (.int .i64 2)), none⟩])
  (.cond (.t 59)
   (.seq (.region false [⟨(some 60), .mov (.t 5), none⟩,
     ⟨(some 61), .bin .and (.t 60) (.c (.int .u8 31)), none⟩,
     ⟨(some 62), .conv .i32 (.t 61), none⟩,
     ⟨(some 63), .bin .shl (.t 62) (.c (.int .u64 6)), none⟩,
     ⟨(some 64), .mov (.t 10), none⟩,
     ⟨(some 65), .bin .and (.t 64) (.c (.int .u8 63)), none⟩,
     ⟨(some 66), .conv .i32 (.t 65), none⟩,
     ⟨(some 67), .bin .or (.t 63) (.t 66), none⟩,
     ⟨(some 2), .mov (.t 67), none⟩,
     ⟨(some 3), .mov (.c (.int .i64 2)), none⟩])
   (.ret))
   (.skip)))
  (.seq (.region false [⟨(some 68), .mov (.t 0), none⟩,
    ⟨(some 69), .idxS (.t 68) (.c (.int .i64 2)), none⟩,
    ⟨(some 11), .mov (.t 69), none⟩])
  (.seq (.seq (.region false [⟨(some 70), .mov (.t 11), none⟩,
    ⟨(some 71), .bin .lss (.t 70) (.c (.int .u8 128)), none⟩,
    ⟨(some 72), .mov (.t 71), none⟩,
    ⟨(some 73), .mov (.t 11), some (72, false)⟩,
    ⟨(some 74), .bin .lss (.c (.int .u8 191)) (.t 73), some (72, false)⟩,
    ⟨(some 75), .pick (.t 72) (.c (.bool true)) (.t 74), none⟩])
  (.cond (.t 75)
   (.seq (.region false [⟨(some 2), .mov (.c (.int .i32 65533)), none⟩,
     ⟨(some 3), .mov (.c (.int .i64 1)), none⟩])
   (.ret))
   (.skip)))
  (.seq (.seq (.region false [⟨(some 76), .mov (.t 8), none⟩,
    ⟨(some 77), .bin .leq (.t 76) (.c (.int .i64 3)), none⟩])
  (.cond (.t 77)
   (.seq (.region false [⟨(some 78), .mov (.t 5), none⟩,
     ⟨(some 79), .bin .and (.t 78) (.c (.int .u8 15)), none⟩,
     ⟨(some 80), .conv .i32 (.t 79), none⟩,
     ⟨(some 81), .bin .shl (.t 80) (.c (.int .u64 12)), none⟩,
     ⟨(some 82), .mov (.t 10), none⟩,
     ⟨(some 83), .bin .and (.t 82) (.c (.int .u8 63)), none⟩,
     ⟨(some 84), .conv .i32 (.t 83), none⟩,
     ⟨(some 85), .bin .shl (.t 84) (.c (.int .u64 6)), none⟩,
     ⟨(some 86), .bin .or (.t 81) (.t 85), none⟩,
     ⟨(some 87), .mov (.t 11), none⟩,
     ⟨(some 88), .bin .and (.t 87) (.c (.int .u8 63)), none⟩,
     ⟨(some 89), .conv .i32 (.t 88), none⟩,
     ⟨(some 90), .bin .or (.t 86) (.t 89), none⟩,
     ⟨(some 2), .mov (.t 90), none⟩,
     ⟨(some 3), .mov (.c (.int .i64 3)), none⟩])
   (.ret))
   (.skip)))
  (.seq (.region false [⟨(some 91), .mov (.t 0), none⟩,
    ⟨(some 92), .idxS (.t 91) (.c (.int .i64 3)), none⟩,
    ⟨(some 12), .mov (.t 92), none⟩])
  (.seq (.seq (.region false [⟨(some 93), .mov (.t 12), none⟩,
    ⟨(some 94), .bin .lss (.t 93) (.c (.int .u8 128)), none⟩,
    ⟨(some 95), .mov (.t 94), none⟩,
    ⟨(some 96), .mov (.t 12), some (95, false)⟩,
    ⟨(some 97), .bin .lss (.c (.int .u8 191)) (.t 96), some (95, false)⟩,
    ⟨(some 98), .pick (.t 95) (.c (.bool true)) (.t 97), none⟩])
  (.cond (.t 98)
   (.seq (.region false [⟨(some 2), .mov (.c (.int .i32 65533)), none⟩,
     ⟨(some 3), .mov (.c (.int .i64 1)), none⟩])
   (.ret))
   (.skip)))
  (.seq (.region false [⟨(some 99), .mov (.t 5), none⟩,
    ⟨(some 100), .bin .and (.t 99) (.c (.int .u8 7)), none⟩,
    ⟨(some 101), .conv .i32 (.t 100), none⟩,
    ⟨(some 102), .bin .shl (.t 101) (.c (.int .u64 18)), none⟩,
    ⟨(some 103), .mov (.t 10), none⟩,
    ⟨(some 104), .bin .and (.t 103) (.c (.int .u8 63)), none⟩,
    ⟨(some 105), .conv .i32 (.t 104), none⟩,
    ⟨(some 106), .bin .shl (.t 105) (.c (.int .u64 12)), none⟩,
    ⟨(some 107), .bin .or (.t 102) (.t 106), none⟩,
    ⟨(some 108), .mov (.t 11), none⟩,
    ⟨(some 109), .bin .and (.t 108) (.c (.int .u8 63)), none⟩,
    ⟨(some 110), .conv .i32 (.t 109), none⟩,
    ⟨(some 111), .bin .shl (.t 110) (.c (.int .u64 6)), none⟩,
    ⟨(some 112), .bin .or (.t 107) (.t 111), none⟩,
    ⟨(some 113), .mov (.t 12), none⟩,
    ⟨(some 114), .bin .and (.t 113) (.c (.int .u8 63)), none⟩,
    ⟨(some 115), .conv .i32 (.t 114), none⟩,
    ⟨(some 116), .bin .or (.t 112) (.t 115), none⟩,
    ⟨(some 2), .mov (.t 116), none⟩,
    ⟨(some 3), .mov (.c (.int .i64 4)), none⟩])
  (.ret)))))))))))))))))),
  [.tmp 2, .tmp 3]⟩

/- strings_IndexRune -/
def A_strings_IndexRuneL0 : ACode :=
  .seq (.bad)
  (.seq (.cond (.t 177)
   (.skip)
   (.exit 9))
  (.block 10 (.seq (.region false [⟨(some 178), .extr (.t 176) 1, none⟩,
    ⟨(some 179), .extr (.t 176) 2, none⟩,
    ⟨(some 5), .mov (.t 178), none⟩,
    ⟨(some 6), .mov (.t 179), none⟩])
  (.seq (.region false [⟨(some 180), .mov (.t 6), none⟩,
    ⟨(some 181), .bin .eql (.t 180) (.c (.int .i32 65533)), none⟩])
  (.cond (.t 181)
   (.seq (.region false [⟨(some 182), .mov (.t 5), none⟩,
     ⟨(some 4), .mov (.t 182), none⟩])
   (.ret))
   (.skip))))))
def A_strings_IndexRuneL4 : ACode :=
  .seq (.seq (.region false [⟨(some 48), .mov (.t 12), none⟩,
    ⟨(some 49), .mov (.t 7), none⟩,
    ⟨(some 50), .lenS (.t 49), none⟩,
    ⟨(some 51), .bin .lss (.t 48) (.t 50), none⟩])
  (.cond (.t 51)
   (.skip)
   (.exit 3)))
  (.seq (.block 4 (.seq (.region true [⟨(some 54), .mov (.t 0), none⟩,
    ⟨(some 55), .mov (.t 9), none⟩,
    ⟨(some 56), .mov (.t 12), none⟩,
    ⟨(some 57), .bin .sub (.t 55) (.t 56), none⟩,
    ⟨(some 58), .idxS (.t 54) (.t 57), none⟩,
    ⟨(some 59), .mov (.t 7), none⟩,
    ⟨(some 60), .mov (.t 8), none⟩,
    ⟨(some 61), .mov (.t 12), none⟩,
    ⟨(some 62), .bin .sub (.t 60) (.t 61), none⟩,
    ⟨(some 63), .idxS (.t 59) (.t 62), none⟩,
    ⟨(some 64), .bin .neq (.t 58) (.t 63), none⟩])
  (.cond (.t 64)
   (.goto 0)
   (.skip))))
  (.region false [⟨(some 52), .mov (.t 12), none⟩,
    ⟨(some 53), .bin .add (.t 52) (.c (.int .i64 1)), none⟩,
    ⟨(some 12), .mov (.t 53), none⟩]))
def A_strings_IndexRuneJ3 : ACode :=
  .seq (.seq (.region true [⟨(some 27), .mov (.t 0), none⟩,
    ⟨(some 28), .mov (.t 9), none⟩,
    ⟨(some 29), .idxS (.t 27) (.t 28), none⟩,
    ⟨(some 30), .mov (.t 7), none⟩,
    ⟨(some 31), .mov (.t 8), none⟩,
    ⟨(some 32), .idxS (.t 30) (.t 31), none⟩,
    ⟨(some 33), .bin .neq (.t 29) (.t 32), none⟩])
  (.cond (.t 33)
   (.seq (.region true [⟨(some 34), .mov (.t 0), none⟩,
     ⟨(some 35), .mov (.t 9), none⟩,
     ⟨(some 36), .bin .add (.t 35) (.c (.int .i64 1)), none⟩,
     ⟨(some 37), .ssl (.t 34) (some (.t 36)) none, none⟩,
     ⟨(some 38), .mov (.t 7), none⟩,
     ⟨(some 39), .mov (.t 8), none⟩,
     ⟨(some 40), .idxS (.t 38) (.t 39), none⟩,
     ⟨(some 41), .call F_strings_IndexByte [(.t 37), (.t 40)], none⟩,
     ⟨(some 11), .mov (.t 41), none⟩])
   (.seq (.seq (.region false [⟨(some 42), .mov (.t 11), none⟩,
     ⟨(some 43), .bin .lss (.t 42) (.c (.int .i64 0)), none⟩])
   (.cond (.t 43)
    (.seq (.region false [⟨(some 4), .mov (.c (.int .i64 (-1))), none⟩])
    (.ret))
    (.skip)))
   (.region false [⟨(some 44), .mov (.t 9), none⟩,
     ⟨(some 45), .mov (.t 11), none⟩,
     ⟨(some 46), .bin .add (.t 45) (.c (.int .i64 1)), none⟩,
     ⟨(some 47), .bin .add (.t 44) (.t 46), none⟩,
     ⟨(some 9), .mov (.t 47), none⟩])))
   (.skip)))
  (.seq (.seq (.region false [⟨(some 12), .mov (.c (.int .i64 1)), none⟩])
  (.block 3 (.loop A_strings_IndexRuneL4)))
  (.seq (.seq (.region false [⟨(some 65), .mov (.t 9), none⟩,
    ⟨(some 66), .mov (.t 8), none⟩,
    ⟨(some 67), .bin .sub (.t 65) (.t 66), none⟩,
    ⟨(some 4), .mov (.t 67), none⟩])
  (.ret))
  (.seq (.label 0)
  (.seq (.region false [⟨(some 68), .mov (.t 10), none⟩,
    ⟨(some 69), .bin .add (.t 68) (.c (.int .i64 1)), none⟩,
    ⟨(some 10), .mov (.t 69), none⟩])
  (.seq (.region false [⟨(some 70), .mov (.t 9), none⟩,
    ⟨(some 71), .bin .add (.t 70) (.c (.int .i64 1)), none⟩,
    ⟨(some 9), .mov (.t 71), none⟩])
  (.seq (.region false [⟨(some 72), .mov (.c (.bool true)), none⟩,
    ⟨(some 73), .mov (.t 10), some (72, true)⟩,
    ⟨(some 74), .mov (.t 9), some (72, true)⟩,
    ⟨(some 75), .call F_bytealg_Cutover [(.t 74)], some (72, true)⟩,
    ⟨(some 76), .bin .gtr (.t 73) (.t 75), some (72, true)⟩,
    ⟨(some 77), .pick (.t 72) (.t 76) (.c (.bool false)), none⟩,
    ⟨(some 78), .mov (.t 77), none⟩,
    ⟨(some 79), .mov (.t 9), some (78, true)⟩,
    ⟨(some 80), .mov (.t 0), some (78, true)⟩,
    ⟨(some 81), .lenS (.t 80), some (78, true)⟩,
    ⟨(some 82), .bin .lss (.t 79) (.t 81), some (78, true)⟩,
    ⟨(some 83), .pick (.t 78) (.t 82) (.c (.bool false)), none⟩,
    ⟨(some 84), .mov (.t 83), none⟩,
    ⟨(some 85), .mov (.c (.bool false)), some (84, false)⟩,
    ⟨(some 86), .mov (.t 10), some (85, true)⟩,
    ⟨(some 87), .mov (.t 9), some (85, true)⟩,
    ⟨(some 88), .bin .shr (.t 87) (.c (.int .u64 4)), some (85, true)⟩,
    ⟨(some 89), .bin .add (.c (.int .i64 4)) (.t 88), some (85, true)⟩,
    ⟨(some 90), .bin .geq (.t 86) (.t 89), some (85, true)⟩,
    ⟨(some 91), .pick (.t 85) (.t 90) (.c (.bool false)), some (84, false)⟩,
    ⟨(some 92), .mov (.t 91), some (84, false)⟩,
    ⟨(some 93), .mov (.t 9), some (92, true)⟩,
    ⟨(some 94), .mov (.t 0), some (92, true)⟩,
    ⟨(some 95), .lenS (.t 94), some (92, true)⟩,
    ⟨(some 96), .bin .lss (.t 93) (.t 95), some (92, true)⟩,
    ⟨(some 97), .pick (.t 92) (.t 96) (.c (.bool false)), some (84, false)⟩,
    ⟨(some 98), .pick (.t 84) (.c (.bool true)) (.t 97), none⟩])
  (.cond (.t 98)
   (.goto 1)
   (.skip))))))))
def A_strings_IndexRuneL2 : ACode :=
  .seq (.seq (.region false [⟨(some 23), .mov (.t 9), none⟩,
    ⟨(some 24), .mov (.t 0), none⟩,
    ⟨(some 25), .lenS (.t 24), none⟩,
    ⟨(some 26), .bin .lss (.t 23) (.t 25), none⟩])
  (.cond (.t 26)
   (.skip)
   (.exit 1)))
  (.block 2 (.scopeJ A_strings_IndexRuneJ3))
def A_strings_IndexRuneL6 : ACode :=
  .seq (.seq (.region false [⟨(some 140), .mov (.t 16), none⟩,
    ⟨(some 141), .mov (.t 7), none⟩,
    ⟨(some 142), .lenS (.t 141), none⟩,
    ⟨(some 143), .bin .lss (.t 140) (.t 142), none⟩])
  (.cond (.t 143)
   (.skip)
   (.exit 7)))
  (.seq (.block 8 (.seq (.region true [⟨(some 146), .mov (.t 0), none⟩,
    ⟨(some 147), .mov (.t 9), none⟩,
    ⟨(some 148), .mov (.t 16), none⟩,
    ⟨(some 149), .bin .sub (.t 147) (.t 148), none⟩,
    ⟨(some 150), .idxS (.t 146) (.t 149), none⟩,
    ⟨(some 151), .mov (.t 7), none⟩,
    ⟨(some 152), .mov (.t 8), none⟩,
    ⟨(some 153), .mov (.t 16), none⟩,
    ⟨(some 154), .bin .sub (.t 152) (.t 153), none⟩,
    ⟨(some 155), .idxS (.t 151) (.t 154), none⟩,
    ⟨(some 156), .bin .neq (.t 150) (.t 155), none⟩])
  (.cond (.t 156)
   (.exit 6)
   (.skip))))
  (.region false [⟨(some 144), .mov (.t 16), none⟩,
    ⟨(some 145), .bin .add (.t 144) (.c (.int .i64 1)), none⟩,
    ⟨(some 16), .mov (.t 145), none⟩]))
def A_strings_IndexRuneL5 : ACode :=
  .seq (.seq (.region false [⟨(some 121), .mov (.t 9), none⟩,
    ⟨(some 122), .mov (.t 0), none⟩,
    ⟨(some 123), .lenS (.t 122), none⟩,
    ⟨(some 124), .bin .lss (.t 121) (.t 123), none⟩])
  (.cond (.t 124)
   (.skip)
   (.exit 5)))
  (.seq (.block 6 (.seq (.region false [⟨(some 127), .mov (.t 0), none⟩,
    ⟨(some 128), .mov (.t 9), none⟩,
    ⟨(some 129), .idxS (.t 127) (.t 128), none⟩,
    ⟨(some 130), .mov (.t 14), none⟩,
    ⟨(some 131), .bin .eql (.t 129) (.t 130), none⟩,
    ⟨(some 132), .mov (.t 131), none⟩,
    ⟨(some 133), .mov (.t 0), some (132, true)⟩,
    ⟨(some 134), .mov (.t 9), some (132, true)⟩,
    ⟨(some 135), .bin .sub (.t 134) (.c (.int .i64 1)), some (132, true)⟩,
    ⟨(some 136), .idxS (.t 133) (.t 135), some (132, true)⟩,
    ⟨(some 137), .mov (.t 15), some (132, true)⟩,
    ⟨(some 138), .bin .eql (.t 136) (.t 137), some (132, true)⟩,
    ⟨(some 139), .pick (.t 132) (.t 138) (.c (.bool false)), none⟩])
  (.cond (.t 139)
   (.seq (.seq (.region false [⟨(some 16), .mov (.c (.int .i64 2)), none⟩])
   (.block 7 (.loop A_strings_IndexRuneL6)))
   (.seq (.region false [⟨(some 157), .mov (.t 9), none⟩,
     ⟨(some 158), .mov (.t 8), none⟩,
     ⟨(some 159), .bin .sub (.t 157) (.t 158), none⟩,
     ⟨(some 4), .mov (.t 159), none⟩])
   (.ret)))
   (.skip))))
  (.region false [⟨(some 125), .mov (.t 9), none⟩,
    ⟨(some 126), .bin .add (.t 125) (.c (.int .i64 1)), none⟩,
    ⟨(some 9), .mov (.t 126), none⟩]))
def A_strings_IndexRuneJ1 : ACode :=
  .seq (.region false [⟨(some 17), .mov (.t 1), none⟩,
    ⟨(some 18), .r2s (.t 17), none⟩,
    ⟨(some 7), .mov (.t 18), none⟩])
  (.seq (.region false [⟨(some 19), .mov (.t 7), none⟩,
    ⟨(some 20), .lenS (.t 19), none⟩,
    ⟨(some 21), .bin .sub (.t 20) (.c (.int .i64 1)), none⟩,
    ⟨(some 8), .mov (.t 21), none⟩])
  (.seq (.region false [⟨(some 22), .mov (.t 8), none⟩,
    ⟨(some 9), .mov (.t 22), none⟩])
  (.seq (.region false [⟨(some 10), .mov (.c (.int .i64 0)), none⟩])
  (.seq (.block 1 (.loop A_strings_IndexRuneL2))
  (.seq (.seq (.region false [⟨(some 4), .mov (.c (.int .i64 (-1))), none⟩])
  (.ret))
  (.seq (.label 1)
  (.seq (.cond (.c (.bool true))
   (.seq (.bad)
   (.seq (.region false [⟨(some 107), .mov (.t 13), none⟩,
     ⟨(some 108), .bin .geq (.t 107) (.c (.int .i64 0)), none⟩])
   (.cond (.t 108)
    (.seq (.region false [⟨(some 109), .mov (.t 9), none⟩,
      ⟨(some 110), .mov (.t 13), none⟩,
      ⟨(some 111), .bin .add (.t 109) (.t 110), none⟩,
      ⟨(some 112), .mov (.t 8), none⟩,
      ⟨(some 113), .bin .sub (.t 111) (.t 112), none⟩,
      ⟨(some 4), .mov (.t 113), none⟩])
    (.ret))
    (.skip))))
   (.scope (.seq (.region false [⟨(some 114), .mov (.t 7), none⟩,
      ⟨(some 115), .mov (.t 8), none⟩,
      ⟨(some 116), .idxS (.t 114) (.t 115), none⟩,
      ⟨(some 14), .mov (.t 116), none⟩])
    (.seq (.region false [⟨(some 117), .mov (.t 7), none⟩,
      ⟨(some 118), .mov (.t 8), none⟩,
      ⟨(some 119), .bin .sub (.t 118) (.c (.int .i64 1)), none⟩,
      ⟨(some 120), .idxS (.t 117) (.t 119), none⟩,
      ⟨(some 15), .mov (.t 120), none⟩])
    (.seq (.label 2)
    (.block 5 (.loop A_strings_IndexRuneL5)))))))
  (.seq (.region false [⟨(some 4), .mov (.c (.int .i64 (-1))), none⟩])
  (.ret)))))))))
def A_strings_IndexRune : AFun := ⟨187,
  .seq (.region false [⟨(some 4), .mov (.c (.int .i64 0)), none⟩])
  (.block 0 (.seq (.region false [⟨(some 161), .mov (.t 1), none⟩,
    ⟨(some 162), .bin .leq (.c (.int .i32 0)) (.t 161), none⟩,
    ⟨(some 163), .mov (.t 162), none⟩,
    ⟨(some 164), .mov (.t 1), some (163, true)⟩,
    ⟨(some 165), .bin .lss (.t 164) (.c (.int .i32 128)), some (163, true)⟩,
    ⟨(some 166), .pick (.t 163) (.t 165) (.c (.bool false)), none⟩,
    ⟨(some 160), .mov (.t 166), none⟩])
  (.cond (.t 160)
   (.seq (.region false [⟨(some 167), .mov (.t 0), none⟩,
     ⟨(some 168), .mov (.t 1), none⟩,
     ⟨(some 169), .conv .u8 (.t 168), none⟩,
     ⟨(some 170), .call F_strings_IndexByte [(.t 167), (.t 169)], none⟩,
     ⟨(some 4), .mov (.t 170), none⟩])
   (.ret))
   (.seq (.region false [⟨(some 172), .mov (.t 1), none⟩,
     ⟨(some 173), .bin .eql (.t 172) (.c (.int .i32 65533)), none⟩,
     ⟨(some 171), .mov (.t 173), none⟩])
   (.cond (.t 171)
    (.seq (.seq (.bad)
    (.block 9 (.loop A_strings_IndexRuneL0)))
    (.seq (.region false [⟨(some 4), .mov (.c (.int .i64 (-1))), none⟩])
    (.ret)))
    (.seq (.region false [⟨(some 184), .mov (.t 1), none⟩,
      ⟨(some 185), .call F_utf8_ValidRune [(.t 184)], none⟩,
      ⟨(some 186), .not (.t 185), none⟩,
      ⟨(some 183), .mov (.t 186), none⟩])
    (.cond (.t 183)
     (.seq (.region false [⟨(some 4), .mov (.c (.int .i64 (-1))), none⟩])
     (.ret))
     (.scopeJ A_strings_IndexRuneJ1)))))))),
  [.tmp 4]⟩

/- utf8_RuneStart -/
def A_utf8_RuneStart : AFun := ⟨6,
  .seq (.region false [⟨(some 2), .mov (.c (.bool false)), none⟩])
  (.seq (.region false [⟨(some 3), .mov (.t 0), none⟩,
    ⟨(some 4), .bin .and (.t 3) (.c (.int .u8 192)), none⟩,
    ⟨(some 5), .bin .neq (.t 4) (.c (.int .u8 128)), none⟩,
    ⟨(some 2), .mov (.t 5), none⟩])
  (.ret)),
  [.tmp 2]⟩

/- bytealg_hashStr_string -/
def A_bytealg_hashStr_stringL0 : ACode :=
  .seq (.seq (.region false [⟨(some 9), .mov (.t 5), none⟩,
    ⟨(some 10), .mov (.t 0), none⟩,
    ⟨(some 11), .lenS (.t 10), none⟩,
    ⟨(some 12), .bin .lss (.t 9) (.t 11), none⟩])
  (.cond (.t 12)
   (.skip)
   (.exit 0)))
  (.seq (.block 1 (.region false [⟨(some 15), .mov (.t 4), none⟩,
    ⟨(some 16), .bin .mul (.t 15) (.c (.int .u32 16777619)), none⟩,
    ⟨(some 17), .mov (.t 0), none⟩,
    ⟨(some 18), .mov (.t 5), none⟩,
    ⟨(some 19), .idxS (.t 17) (.t 18), none⟩,
    ⟨(some 20), .conv .u32 (.t 19), none⟩,
    ⟨(some 21), .bin .add (.t 16) (.t 20), none⟩,
    ⟨(some 4), .mov (.t 21), none⟩]))
  (.region false [⟨(some 13), .mov (.t 5), none⟩,
    ⟨(some 14), .bin .add (.t 13) (.c (.int .i64 1)), none⟩,
    ⟨(some 5), .mov (.t 14), none⟩]))
def A_bytealg_hashStr_stringL1 : ACode :=
  .seq (.seq (.region false [⟨(some 24), .mov (.t 8), none⟩,
    ⟨(some 25), .bin .gtr (.t 24) (.c (.int .i64 0)), none⟩])
  (.cond (.t 25)
   (.skip)
   (.exit 2)))
  (.seq (.block 3 (.seq (.seq (.region false [⟨(some 28), .mov (.t 8), none⟩,
    ⟨(some 29), .bin .and (.t 28) (.c (.int .i64 1)), none⟩,
    ⟨(some 30), .bin .neq (.t 29) (.c (.int .i64 0)), none⟩])
  (.cond (.t 30)
   (.region false [⟨(some 31), .mov (.t 6), none⟩,
     ⟨(some 32), .mov (.t 7), none⟩,
     ⟨(some 33), .bin .mul (.t 31) (.t 32), none⟩,
     ⟨(some 6), .mov (.t 33), none⟩])
   (.skip)))
  (.region false [⟨(some 34), .mov (.t 7), none⟩,
    ⟨(some 35), .mov (.t 7), none⟩,
    ⟨(some 36), .bin .mul (.t 34) (.t 35), none⟩,
    ⟨(some 7), .mov (.t 36), none⟩])))
  (.region false [⟨(some 26), .mov (.t 8), none⟩,
    ⟨(some 27), .bin .shr (.t 26) (.c (.int .u64 1)), none⟩,
    ⟨(some 8), .mov (.t 27), none⟩]))
def A_bytealg_hashStr_string : AFun := ⟨39,
  .seq (.region false [⟨(some 2), .mov (.c (.int .u32 0)), none⟩,
    ⟨(some 3), .mov (.c (.int .u32 0)), none⟩])
  (.seq (.region false [⟨(some 4), .mov (.c (.int .u32 0)), none⟩])
  (.seq (.seq (.region false [⟨(some 5), .mov (.c (.int .i64 0)), none⟩])
  (.block 0 (.loop A_bytealg_hashStr_stringL0)))
  (.seq (.region false [⟨(some 6), .mov (.c (.int .u32 1)), none⟩,
    ⟨(some 7), .mov (.c (.int .u32 16777619)), none⟩])
  (.seq (.seq (.region false [⟨(some 22), .mov (.t 0), none⟩,
    ⟨(some 23), .lenS (.t 22), none⟩,
    ⟨(some 8), .mov (.t 23), none⟩])
  (.block 2 (.loop A_bytealg_hashStr_stringL1)))
  (.seq (.region false [⟨(some 37), .mov (.t 4), none⟩,
    ⟨(some 38), .mov (.t 6), none⟩,
    ⟨(some 2), .mov (.t 37), none⟩,
    ⟨(some 3), .mov (.t 38), none⟩])
  (.ret)))))),
  [.tmp 2, .tmp 3]⟩

section
variable {X : Cx} (hX : X.P = Go.Proofs.Tryz.prog)
include hX
theorem A_types_both_ok : compileFun X.P F_types_both (fun _ => false) = some A_types_both := by rw [hX]; kernel_rfl
theorem A_types_order_join_ok : compileFun X.P F_types_order_join (fun _ => false) = some A_types_order_join := by rw [hX]; kernel_rfl
theorem A_lattice_named_ok : compileFun X.P F_lattice_named (fun _ => false) = some A_lattice_named := by rw [hX]; kernel_rfl
theorem A_bits_Len8_ok : compileFun X.P F_bits_Len8 (fun _ => false) = some A_bits_Len8 := by rw [hX]; kernel_rfl
theorem A_lattice_of_ok : compileFun X.P F_lattice_of (fun _ => false) = some A_lattice_of := by rw [hX]; kernel_rfl
theorem A_lattice_bound_lattice_ups_ok : compileFun X.P F_lattice_bound_lattice_ups (fun _ => false) = some A_lattice_bound_lattice_ups := by rw [hX]; kernel_rfl
theorem A_lattice_bound_lattice_downs_ok : compileFun X.P F_lattice_bound_lattice_downs (fun _ => false) = some A_lattice_bound_lattice_downs := by rw [hX]; kernel_rfl
theorem A_lattice_end_lattice_ups_ok : compileFun X.P F_lattice_end_lattice_ups (fun _ => false) = some A_lattice_end_lattice_ups := by rw [hX]; kernel_rfl
theorem A_shapes_Check_ok : compileFun X.P F_shapes_Check (fun _ => false) = some A_shapes_Check := by rw [hX]; kernel_rfl
theorem A_shapes_product_ok : compileFun X.P F_shapes_product (fun _ => false) = some A_shapes_product := by rw [hX]; kernel_rfl
theorem A_slices_IndexFunc_int64_int64_ok : compileFun X.P F_slices_IndexFunc_int64_int64 (fun _ => false) = some A_slices_IndexFunc_int64_int64 := by rw [hX]; kernel_rfl
theorem A_utf8_ValidRune_ok : compileFun X.P F_utf8_ValidRune (fun _ => false) = some A_utf8_ValidRune := by rw [hX]; kernel_rfl
theorem A_ref01_Name_ok : compileFun X.P F_ref01_Name (fun _ => false) = some A_ref01_Name := by rw [hX]; kernel_rfl
theorem A_ref05_Check_ok : compileFun X.P F_ref05_Check (fun _ => false) = some A_ref05_Check := by rw [hX]; kernel_rfl
theorem A_ref05_Many_ok : compileFun X.P F_ref05_Many (fun _ => false) = some A_ref05_Many := by rw [hX]; kernel_rfl
theorem A_slices_IndexFunc_int_int_ok : compileFun X.P F_slices_IndexFunc_int_int (fun _ => false) = some A_slices_IndexFunc_int_int := by rw [hX]; kernel_rfl
theorem A_strconv_FormatInt_ok : compileFun X.P F_strconv_FormatInt (fun _ => false) = some A_strconv_FormatInt := by rw [hX]; kernel_rfl
theorem A_words_fields_1_ok : compileFun X.P F_words_fields_1 (fun _ => false) = some A_words_fields_1 := by rw [hX]; kernel_rfl
theorem A_words_unquote_ok : compileFun X.P F_words_unquote (fun _ => false) = some A_words_unquote := by rw [hX]; kernel_rfl
theorem A_strings_Cut_ok : compileFun X.P F_strings_Cut (fun _ => false) = some A_strings_Cut := by rw [hX]; kernel_rfl
theorem A_words_isBare_ok : compileFun X.P F_words_isBare (fun _ => false) = some A_words_isBare := by rw [hX]; kernel_rfl
theorem A_strings_TrimPrefix_ok : compileFun X.P F_strings_TrimPrefix (fun _ => false) = some A_strings_TrimPrefix := by rw [hX]; kernel_rfl
theorem A_strings_Trim_ok : compileFun X.P F_strings_Trim (fun _ => false) = some A_strings_Trim := by rw [hX]; kernel_rfl
theorem A_strconv_ParseInt_103_ok : compileFun X.P F_strconv_ParseInt_103 (fun _ => false) = some A_strconv_ParseInt_103 := by rw [hX]; kernel_rfl
theorem A_strconv_toError_ok : compileFun X.P F_strconv_toError (fun _ => false) = some A_strconv_toError := by rw [hX]; kernel_rfl
theorem A_ref01_escaped_ok : compileFun X.P F_ref01_escaped (fun _ => false) = some A_ref01_escaped := by rw [hX]; kernel_rfl
theorem A_ref01_plain_ok : compileFun X.P F_ref01_plain (fun _ => false) = some A_ref01_plain := by rw [hX]; kernel_rfl
theorem A_ref01_digit_ok : compileFun X.P F_ref01_digit (fun _ => false) = some A_ref01_digit := by rw [hX]; kernel_rfl
theorem A_slices_Index_uint8_uint8_ok : compileFun X.P F_slices_Index_uint8_uint8 (fun _ => false) = some A_slices_Index_uint8_uint8 := by rw [hX]; kernel_rfl
theorem A_words_Name_ok : compileFun X.P F_words_Name (fun _ => false) = some A_words_Name := by rw [hX]; kernel_rfl
theorem A_slices_Contains_string_string_ok : compileFun X.P F_slices_Contains_string_string (fun _ => false) = some A_slices_Contains_string_string := by rw [hX]; kernel_rfl
theorem A_bits_OnesCount8_ok : compileFun X.P F_bits_OnesCount8 (fun _ => false) = some A_bits_OnesCount8 := by rw [hX]; kernel_rfl
theorem A_shapes_Check_1_ok : compileFun X.P F_shapes_Check_1 (fun _ => false) = some A_shapes_Check_1 := by rw [hX]; kernel_rfl
theorem A_shapes_Check_2_ok : compileFun X.P F_shapes_Check_2 (fun _ => false) = some A_shapes_Check_2 := by rw [hX]; kernel_rfl
theorem A_shapes_Check_3_ok : compileFun X.P F_shapes_Check_3 (fun _ => false) = some A_shapes_Check_3 := by rw [hX]; kernel_rfl
theorem A_ref01_lower_ok : compileFun X.P F_ref01_lower (fun _ => false) = some A_ref01_lower := by rw [hX]; kernel_rfl
theorem A_strconv_small_ok : compileFun X.P F_strconv_small (fun _ => false) = some A_strconv_small := by rw [hX]; kernel_rfl
theorem A_strconv_numDigits_ok : compileFun X.P F_strconv_numDigits (fun _ => false) = some A_strconv_numDigits := by rw [hX]; kernel_rfl
theorem A_strconv_formatBase10_ok : compileFun X.P F_strconv_formatBase10 (fun _ => false) = some A_strconv_formatBase10 := by rw [hX]; kernel_rfl
theorem A_strconv_formatBits_ok : compileFun X.P F_strconv_formatBits (fun _ => false) = some A_strconv_formatBits := by rw [hX]; kernel_rfl
theorem A_words_unescape_ok : compileFun X.P F_words_unescape (fun _ => false) = some A_words_unescape := by rw [hX]; kernel_rfl
theorem A_words_isPlain_ok : compileFun X.P F_words_isPlain (fun _ => false) = some A_words_isPlain := by rw [hX]; kernel_rfl
theorem A_stringslite_Cut_ok : compileFun X.P F_stringslite_Cut (fun _ => false) = some A_stringslite_Cut := by rw [hX]; kernel_rfl
theorem A_stringslite_TrimPrefix_ok : compileFun X.P F_stringslite_TrimPrefix (fun _ => false) = some A_stringslite_TrimPrefix := by rw [hX]; kernel_rfl
theorem A_strings_trimLeftByte_ok : compileFun X.P F_strings_trimLeftByte (fun _ => false) = some A_strings_trimLeftByte := by rw [hX]; kernel_rfl
theorem A_strings_trimRightByte_ok : compileFun X.P F_strings_trimRightByte (fun _ => false) = some A_strings_trimRightByte := by rw [hX]; kernel_rfl
theorem A_strings_makeASCIISet_ok : compileFun X.P F_strings_makeASCIISet (fun _ => false) = some A_strings_makeASCIISet := by rw [hX]; kernel_rfl
theorem A_strings_trimLeftASCII_ok : compileFun X.P F_strings_trimLeftASCII (fun _ => false) = some A_strings_trimLeftASCII := by rw [hX]; kernel_rfl
theorem A_strings_trimRightASCII_ok : compileFun X.P F_strings_trimRightASCII (fun _ => false) = some A_strings_trimRightASCII := by rw [hX]; kernel_rfl
theorem A_strings_trimLeftUnicode_ok : compileFun X.P F_strings_trimLeftUnicode (fun _ => false) = some A_strings_trimLeftUnicode := by rw [hX]; kernel_rfl
theorem A_strings_trimRightUnicode_ok : compileFun X.P F_strings_trimRightUnicode (fun _ => false) = some A_strings_trimRightUnicode := by rw [hX]; kernel_rfl
theorem A_strconv_ParseUint_ok : compileFun X.P F_strconv_ParseUint (fun _ => false) = some A_strconv_ParseUint := by rw [hX]; kernel_rfl
theorem A_strconv_syntaxError_ok : compileFun X.P F_strconv_syntaxError (fun _ => false) = some A_strconv_syntaxError := by rw [hX]; kernel_rfl
theorem A_strconv_rangeError_ok : compileFun X.P F_strconv_rangeError (fun _ => false) = some A_strconv_rangeError := by rw [hX]; kernel_rfl
theorem A_strconv_baseError_ok : compileFun X.P F_strconv_baseError (fun _ => false) = some A_strconv_baseError := by rw [hX]; kernel_rfl
theorem A_strconv_bitSizeError_ok : compileFun X.P F_strconv_bitSizeError (fun _ => false) = some A_strconv_bitSizeError := by rw [hX]; kernel_rfl
theorem A_ref01_hex_ok : compileFun X.P F_ref01_hex (fun _ => false) = some A_ref01_hex := by rw [hX]; kernel_rfl
theorem A_strconv_log10Pow2_ok : compileFun X.P F_strconv_log10Pow2 (fun _ => false) = some A_strconv_log10Pow2 := by rw [hX]; kernel_rfl
theorem A_bits_Len64_ok : compileFun X.P F_bits_Len64 (fun _ => false) = some A_bits_Len64 := by rw [hX]; kernel_rfl
theorem A_strconv_bool2_int_ok : compileFun X.P F_strconv_bool2_int (fun _ => false) = some A_strconv_bool2_int := by rw [hX]; kernel_rfl
theorem A_strconv_isPowerOfTwo_ok : compileFun X.P F_strconv_isPowerOfTwo (fun _ => false) = some A_strconv_isPowerOfTwo := by rw [hX]; kernel_rfl
theorem A_bits_TrailingZeros_ok : compileFun X.P F_bits_TrailingZeros (fun _ => false) = some A_bits_TrailingZeros := by rw [hX]; kernel_rfl
theorem A_strings_IndexByte_ok : compileFun X.P F_strings_IndexByte (fun _ => false) = some A_strings_IndexByte := by rw [hX]; kernel_rfl
theorem A_words_letterOf_ok : compileFun X.P F_words_letterOf (fun _ => false) = some A_words_letterOf := by rw [hX]; kernel_rfl
theorem A_stringslite_Index_ok : compileFun X.P F_stringslite_Index (fun _ => false) = some A_stringslite_Index := by rw [hX]; kernel_rfl
theorem A_stringslite_HasPrefix_ok : compileFun X.P F_stringslite_HasPrefix (fun _ => false) = some A_stringslite_HasPrefix := by rw [hX]; kernel_rfl
theorem A_strings_asciiSet_contains_ok : compileFun X.P F_strings_asciiSet_contains (fun _ => false) = some A_strings_asciiSet_contains := by rw [hX]; kernel_rfl
theorem A_utf8_DecodeRuneInString_ok : compileFun X.P F_utf8_DecodeRuneInString (fun _ => false) = some A_utf8_DecodeRuneInString := by rw [hX]; kernel_rfl
theorem A_strings_ContainsRune_ok : compileFun X.P F_strings_ContainsRune (fun _ => false) = some A_strings_ContainsRune := by rw [hX]; kernel_rfl
theorem A_utf8_DecodeLastRuneInString_ok : compileFun X.P F_utf8_DecodeLastRuneInString (fun _ => false) = some A_utf8_DecodeLastRuneInString := by rw [hX]; kernel_rfl
theorem A_strconv_lower_ok : compileFun X.P F_strconv_lower (fun _ => false) = some A_strconv_lower := by rw [hX]; kernel_rfl
theorem A_strconv_underscoreOK_ok : compileFun X.P F_strconv_underscoreOK (fun _ => false) = some A_strconv_underscoreOK := by rw [hX]; kernel_rfl
theorem A_stringslite_Clone_ok : compileFun X.P F_stringslite_Clone (fun _ => false) = some A_stringslite_Clone := by rw [hX]; kernel_rfl
theorem A_errors_New_ok : compileFun X.P F_errors_New (fun _ => false) = some A_errors_New := by rw [hX]; kernel_rfl
theorem A_bits_TrailingZeros32_ok : compileFun X.P F_bits_TrailingZeros32 (fun _ => false) = some A_bits_TrailingZeros32 := by rw [hX]; kernel_rfl
theorem A_bits_TrailingZeros64_ok : compileFun X.P F_bits_TrailingZeros64 (fun _ => false) = some A_bits_TrailingZeros64 := by rw [hX]; kernel_rfl
theorem A_stringslite_IndexByte_ok : compileFun X.P F_stringslite_IndexByte (fun _ => false) = some A_stringslite_IndexByte := by rw [hX]; kernel_rfl
theorem A_bytealg_Cutover_ok : compileFun X.P F_bytealg_Cutover (fun _ => false) = some A_bytealg_Cutover := by rw [hX]; kernel_rfl
theorem A_bytealg_IndexRabinKarp_string_ok : compileFun X.P F_bytealg_IndexRabinKarp_string (fun _ => false) = some A_bytealg_IndexRabinKarp_string := by rw [hX]; kernel_rfl
theorem A_utf8_decodeRuneInStringSlow_ok : compileFun X.P F_utf8_decodeRuneInStringSlow (fun _ => false) = some A_utf8_decodeRuneInStringSlow := by rw [hX]; kernel_rfl
theorem A_strings_IndexRune_ok : compileFun X.P F_strings_IndexRune (fun _ => false) = some A_strings_IndexRune := by rw [hX]; kernel_rfl
theorem A_utf8_RuneStart_ok : compileFun X.P F_utf8_RuneStart (fun _ => false) = some A_utf8_RuneStart := by rw [hX]; kernel_rfl
theorem A_bytealg_hashStr_string_ok : compileFun X.P F_bytealg_hashStr_string (fun _ => false) = some A_bytealg_hashStr_string := by rw [hX]; kernel_rfl
end
end Go.Avm
