/- The functions as they have been read. -/
import Derived.Test.YtebnoigmepfdcaaGreatDoorAG2
import Derived.Test.YtebnoigmepfdcaaGreatDoorProg
set_option linter.unusedSectionVars false
set_option linter.unusedSimpArgs false
set_option linter.unusedVariables false

/- The functions as they have been read. -/
namespace Go.Avm
open Go
/- lattice_named -/
def A_lattice_namedL0 : ACode :=
  .seq (.region false [⟨(some 17), .bin .lss (.t 16) (.t 15), none⟩])
  (.seq (.cond (.t 17)
   (.skip)
   (.exit 0))
  (.seq (.block 1 (.seq (.region false [⟨(some 18), .mov (.t 16), none⟩,
    ⟨(some 19), .idxA 1 (.t 14) (.t 16), none⟩,
    ⟨(some 20), .ld none (.t 19), none⟩,
    ⟨(some 4), .mov (.t 18), none⟩,
    ⟨(some 5), .mov (.t 20), none⟩])
  (.block 2 (.seq (.region false [⟨(some 22), .mov (.t 5), none⟩,
    ⟨(some 23), .call F_words_Name [(.t 22)], none⟩,
    ⟨(some 24), .not (.t 23), none⟩,
    ⟨(some 21), .mov (.t 24), none⟩])
  (.cond (.t 21)
   (.seq (.region false [⟨(some 25), .mov (.t 4), none⟩,
     ⟨(some 2), .mov (.t 25), none⟩,
     ⟨(some 3), .mov (.c (.int .i64 6)), none⟩])
   (.ret))
   (.seq (.region false [⟨(some 27), .mov (.t 0), none⟩,
     ⟨(some 28), .mov (.t 4), none⟩,
     ⟨(some 29), .sls 1 (.t 27) none (some (.t 28)) none, none⟩,
     ⟨(some 30), .mov (.t 5), none⟩,
     ⟨(some 31), .call F_slices_Contains_string_string [(.t 29), (.t 30)], none⟩,
     ⟨(some 26), .mov (.t 31), none⟩])
   (.cond (.t 26)
    (.seq (.region false [⟨(some 32), .mov (.t 4), none⟩,
      ⟨(some 2), .mov (.t 32), none⟩,
      ⟨(some 3), .mov (.c (.int .i64 8)), none⟩])
    (.ret))
    (.skip))))))))
  (.region false [⟨(some 33), .bin .add (.t 16) (.c (.int .i64 1)), none⟩,
    ⟨(some 16), .mov (.t 33), none⟩])))
def A_lattice_named : AFun := ⟨34,
  .seq (.region false [⟨(some 2), .mov (.c (.int .i64 0)), none⟩,
    ⟨(some 3), .mov (.c (.int .i64 0)), none⟩])
  (.seq (.seq (.region false [⟨(some 6), .mov (.t 0), none⟩,
    ⟨(some 7), .len (.t 6), none⟩,
    ⟨(some 8), .bin .lss (.t 7) (.c (.int .i64 1)), none⟩,
    ⟨(some 9), .mov (.t 8), none⟩,
    ⟨(some 10), .mov (.t 0), some (9, false)⟩,
    ⟨(some 11), .len (.t 10), some (9, false)⟩,
    ⟨(some 12), .bin .gtr (.t 11) (.c (.int .i64 8)), some (9, false)⟩,
    ⟨(some 13), .pick (.t 9) (.c (.bool true)) (.t 12), none⟩])
  (.cond (.t 13)
   (.seq (.region false [⟨(some 2), .mov (.c (.int .i64 (-1))), none⟩,
     ⟨(some 3), .mov (.c (.int .i64 3)), none⟩])
   (.ret))
   (.skip)))
  (.seq (.seq (.region false [⟨(some 14), .mov (.t 0), none⟩,
    ⟨(some 15), .len (.t 14), none⟩,
    ⟨(some 16), .mov (.c (.int .i64 0)), none⟩])
  (.block 0 (.loop A_lattice_namedL0)))
  (.seq (.region false [⟨(some 2), .mov (.c (.int .i64 0)), none⟩,
    ⟨(some 3), .mov (.c (.int .i64 0)), none⟩])
  (.ret)))),
  [.tmp 2, .tmp 3]⟩

/- bits_Len8 -/
def S_bits_Len8 : List UInt8 := [0, 1, 2, 2, 3, 3, 3, 3, 4, 4, 4, 4, 4, 4, 4, 4, 5, 5, 5, 5, 5, 5, 5, 5, 5, 5, 5, 5, 5, 5, 5, 5, 6, 6, 6, 6, 6, 6, 6, 6, 6, 6, 6, 6, 6, 6, 6, 6, 6, 6, 6, 6, 6, 6, 6, 6, 6, 6, 6, 6, 6, 6, 6, 6, 7, 7, 7, 7, 7, 7, 7, 7, 7, 7, 7, 7, 7, 7, 7, 7, 7, 7, 7, 7, 7, 7, 7, 7, 7, 7, 7, 7, 7, 7, 7, 7, 7, 7, 7, 7, 7, 7, 7, 7, 7, 7, 7, 7, 7, 7, 7, 7, 7, 7, 7, 7, 7, 7, 7, 7, 7, 7, 7, 7, 7, 7, 7, 7, 8, 8, 8, 8, 8, 8, 8, 8, 8, 8, 8, 8, 8, 8, 8, 8, 8, 8, 8, 8, 8, 8, 8, 8, 8, 8, 8, 8, 8, 8, 8, 8, 8, 8, 8, 8, 8, 8, 8, 8, 8, 8, 8, 8, 8, 8, 8, 8, 8, 8, 8, 8, 8, 8, 8, 8, 8, 8, 8, 8, 8, 8, 8, 8, 8, 8, 8, 8, 8, 8, 8, 8, 8, 8, 8, 8, 8, 8, 8, 8, 8, 8, 8, 8, 8, 8, 8, 8, 8, 8, 8, 8, 8, 8, 8, 8, 8, 8, 8, 8, 8, 8, 8, 8, 8, 8, 8, 8, 8, 8, 8, 8, 8, 8, 8, 8, 8, 8, 8, 8, 8, 8, 8, 8, 8, 8, 8, 8]
def A_bits_Len8 : AFun := ⟨6,
  .seq (.region false [⟨(some 2), .mov (.c (.int .i64 0)), none⟩])
  (.seq (.region false [⟨(some 3), .mov (.t 0), none⟩,
    ⟨(some 4), .idxS (.c (.str S_bits_Len8)) (.t 3), none⟩,
    ⟨(some 5), .conv .i64 (.t 4), none⟩,
    ⟨(some 2), .mov (.t 5), none⟩])
  (.ret)),
  [.tmp 2]⟩

/- lattice_of -/
def A_lattice_ofL1 : ACode :=
  .seq (.region false [⟨(some 30), .bin .lss (.t 29) (.t 28), none⟩])
  (.seq (.cond (.t 30)
   (.skip)
   (.exit 2))
  (.seq (.block 3 (.seq (.region false [⟨(some 31), .mov (.t 29), none⟩,
    ⟨(some 6), .mov (.t 31), none⟩])
  (.region true [⟨(some 32), .mov (.t 6), none⟩,
    ⟨(some 33), .fldA 9 (.t 3), none⟩,
    ⟨(some 34), .idxP 8 1 (.t 33) (.t 32), none⟩,
    ⟨(some 35), .ld none (.t 34), none⟩,
    ⟨(some 36), .mov (.t 5), none⟩,
    ⟨(some 37), .mov (.t 6), none⟩,
    ⟨(some 38), .bin .shr (.t 36) (.t 37), none⟩,
    ⟨(some 39), .bin .and (.t 38) (.c (.int .u8 1)), none⟩,
    ⟨(some 40), .mov (.t 4), none⟩,
    ⟨(some 41), .bin .shl (.t 39) (.t 40), none⟩,
    ⟨(some 42), .bin .or (.t 35) (.t 41), none⟩,
    ⟨(some 43), .fldA 9 (.t 3), none⟩,
    ⟨(some 44), .idxP 8 1 (.t 43) (.t 32), none⟩,
    ⟨none, .st 1 (.t 44) (.t 42), none⟩])))
  (.region false [⟨(some 45), .bin .add (.t 29) (.c (.int .i64 1)), none⟩,
    ⟨(some 29), .mov (.t 45), none⟩])))
def A_lattice_ofL0 : ACode :=
  .seq (.region false [⟨(some 19), .bin .lss (.t 18) (.t 17), none⟩])
  (.seq (.cond (.t 19)
   (.skip)
   (.exit 0))
  (.seq (.block 1 (.seq (.region false [⟨(some 20), .mov (.t 18), none⟩,
    ⟨(some 21), .idxA 1 (.t 16) (.t 18), none⟩,
    ⟨(some 22), .ld none (.t 21), none⟩,
    ⟨(some 4), .mov (.t 20), none⟩,
    ⟨(some 5), .mov (.t 22), none⟩])
  (.seq (.region false [⟨(some 23), .mov (.t 4), none⟩,
    ⟨(some 24), .mov (.t 5), none⟩,
    ⟨(some 25), .fldA 1 (.t 3), none⟩,
    ⟨(some 26), .idxP 8 1 (.t 25) (.t 23), none⟩,
    ⟨none, .st 1 (.t 26) (.t 24), none⟩])
  (.seq (.region false [⟨(some 27), .fldA 0 (.t 3), none⟩,
    ⟨(some 28), .ld none (.t 27), none⟩,
    ⟨(some 29), .mov (.c (.int .i64 0)), none⟩])
  (.block 2 (.loop A_lattice_ofL1))))))
  (.region false [⟨(some 46), .bin .add (.t 18) (.c (.int .i64 1)), none⟩,
    ⟨(some 18), .mov (.t 46), none⟩])))
def A_lattice_of : AFun := ⟨48,
  .seq (.region false [⟨(some 2), .alloc [.int .i64 0, .int .u8 0, .int .u8 0, .int .u8 0, .int .u8 0, .int .u8 0, .int .u8 0, .int .u8 0, .int .u8 0, .int .u8 0, .int .u8 0, .int .u8 0, .int .u8 0, .int .u8 0, .int .u8 0, .int .u8 0, .int .u8 0], none⟩])
  (.seq (.region false [⟨(some 7), .mov (.t 0), none⟩,
    ⟨(some 8), .nck (.t 7), none⟩,
    ⟨(some 9), .fldA 0 (.t 8), none⟩,
    ⟨(some 10), .ld none (.t 9), none⟩,
    ⟨(some 11), .len (.t 10), none⟩,
    ⟨(some 12), .build [.int .i64 0, .int .u8 0, .int .u8 0, .int .u8 0, .int .u8 0, .int .u8 0, .int .u8 0, .int .u8 0, .int .u8 0, .int .u8 0, .int .u8 0, .int .u8 0, .int .u8 0, .int .u8 0, .int .u8 0, .int .u8 0, .int .u8 0] [(0, 1, (.t 11))], none⟩,
    ⟨(some 3), .alloc [.int .i64 0, .int .u8 0, .int .u8 0, .int .u8 0, .int .u8 0, .int .u8 0, .int .u8 0, .int .u8 0, .int .u8 0, .int .u8 0, .int .u8 0, .int .u8 0, .int .u8 0, .int .u8 0, .int .u8 0, .int .u8 0, .int .u8 0], none⟩,
    ⟨none, .st 17 (.t 3) (.t 12), none⟩])
  (.seq (.seq (.region false [⟨(some 13), .mov (.t 0), none⟩,
    ⟨(some 14), .nck (.t 13), none⟩,
    ⟨(some 15), .fldA 1 (.t 14), none⟩,
    ⟨(some 16), .ld none (.t 15), none⟩,
    ⟨(some 17), .len (.t 16), none⟩,
    ⟨(some 18), .mov (.c (.int .i64 0)), none⟩])
  (.block 0 (.loop A_lattice_ofL0)))
  (.seq (.region false [⟨(some 47), .ld (some 17) (.t 3), none⟩,
    ⟨none, .st 17 (.t 2) (.t 47), none⟩])
  (.ret)))),
  [.cell (some 17) 2]⟩

/- lattice_bound_lattice_ups -/
def A_lattice_bound_lattice_upsL0 : ACode :=
  .seq (.region false [⟨(some 20), .bin .lss (.t 19) (.t 18), none⟩])
  (.seq (.cond (.t 20)
   (.skip)
   (.exit 0))
  (.seq (.block 1 (.seq (.region false [⟨(some 21), .mov (.t 19), none⟩,
    ⟨(some 10), .mov (.t 21), none⟩])
  (.seq (.region false [⟨(some 22), .mov (.t 9), none⟩,
    ⟨(some 23), .mov (.t 10), none⟩,
    ⟨(some 24), .bin .shr (.t 22) (.t 23), none⟩,
    ⟨(some 25), .bin .and (.t 24) (.c (.int .u8 1)), none⟩,
    ⟨(some 26), .bin .eql (.t 25) (.c (.int .u8 1)), none⟩,
    ⟨(some 27), .mov (.t 26), none⟩,
    ⟨(some 28), .mov (.t 10), some (27, true)⟩,
    ⟨(some 29), .idxP 8 1 (.t 4) (.t 28), some (27, true)⟩,
    ⟨(some 30), .ld none (.t 29), some (27, true)⟩,
    ⟨(some 31), .mov (.t 9), some (27, true)⟩,
    ⟨(some 32), .bin .eql (.t 30) (.t 31), some (27, true)⟩,
    ⟨(some 33), .pick (.t 27) (.t 32) (.c (.bool false)), none⟩])
  (.cond (.t 33)
   (.seq (.region false [⟨(some 34), .mov (.t 10), none⟩,
     ⟨(some 8), .mov (.t 34), none⟩])
   (.ret))
   (.skip)))))
  (.region false [⟨(some 35), .bin .add (.t 19) (.c (.int .i64 1)), none⟩,
    ⟨(some 19), .mov (.t 35), none⟩])))
def A_lattice_bound_lattice_ups : AFun := ⟨36,
  .seq (.region false [⟨(some 4), .box (.t 0), none⟩,
    ⟨(some 8), .mov (.c (.int .i64 0)), none⟩])
  (.seq (.region true [⟨(some 11), .mov (.t 2), none⟩,
    ⟨(some 12), .idxP 8 1 (.t 4) (.t 11), none⟩,
    ⟨(some 13), .ld none (.t 12), none⟩,
    ⟨(some 14), .mov (.t 3), none⟩,
    ⟨(some 15), .idxP 8 1 (.t 4) (.t 14), none⟩,
    ⟨(some 16), .ld none (.t 15), none⟩,
    ⟨(some 17), .bin .and (.t 13) (.t 16), none⟩,
    ⟨(some 9), .mov (.t 17), none⟩])
  (.seq (.seq (.region false [⟨(some 18), .mov (.t 1), none⟩,
    ⟨(some 19), .mov (.c (.int .i64 0)), none⟩])
  (.block 0 (.loop A_lattice_bound_lattice_upsL0)))
  (.seq (.region false [⟨(some 8), .mov (.c (.int .i64 (-1))), none⟩])
  (.ret)))),
  [.tmp 8]⟩

/- lattice_bound_lattice_downs -/
def A_lattice_bound_lattice_downsL0 : ACode :=
  .seq (.region false [⟨(some 20), .bin .lss (.t 19) (.t 18), none⟩])
  (.seq (.cond (.t 20)
   (.skip)
   (.exit 0))
  (.seq (.block 1 (.seq (.region false [⟨(some 21), .mov (.t 19), none⟩,
    ⟨(some 10), .mov (.t 21), none⟩])
  (.seq (.region false [⟨(some 22), .mov (.t 9), none⟩,
    ⟨(some 23), .mov (.t 10), none⟩,
    ⟨(some 24), .bin .shr (.t 22) (.t 23), none⟩,
    ⟨(some 25), .bin .and (.t 24) (.c (.int .u8 1)), none⟩,
    ⟨(some 26), .bin .eql (.t 25) (.c (.int .u8 1)), none⟩,
    ⟨(some 27), .mov (.t 26), none⟩,
    ⟨(some 28), .mov (.t 10), some (27, true)⟩,
    ⟨(some 29), .idxP 8 1 (.t 4) (.t 28), some (27, true)⟩,
    ⟨(some 30), .ld none (.t 29), some (27, true)⟩,
    ⟨(some 31), .mov (.t 9), some (27, true)⟩,
    ⟨(some 32), .bin .eql (.t 30) (.t 31), some (27, true)⟩,
    ⟨(some 33), .pick (.t 27) (.t 32) (.c (.bool false)), none⟩])
  (.cond (.t 33)
   (.seq (.region false [⟨(some 34), .mov (.t 10), none⟩,
     ⟨(some 8), .mov (.t 34), none⟩])
   (.ret))
   (.skip)))))
  (.region false [⟨(some 35), .bin .add (.t 19) (.c (.int .i64 1)), none⟩,
    ⟨(some 19), .mov (.t 35), none⟩])))
def A_lattice_bound_lattice_downs : AFun := ⟨36,
  .seq (.region false [⟨(some 4), .box (.t 0), none⟩,
    ⟨(some 8), .mov (.c (.int .i64 0)), none⟩])
  (.seq (.region true [⟨(some 11), .mov (.t 2), none⟩,
    ⟨(some 12), .idxP 8 1 (.t 4) (.t 11), none⟩,
    ⟨(some 13), .ld none (.t 12), none⟩,
    ⟨(some 14), .mov (.t 3), none⟩,
    ⟨(some 15), .idxP 8 1 (.t 4) (.t 14), none⟩,
    ⟨(some 16), .ld none (.t 15), none⟩,
    ⟨(some 17), .bin .and (.t 13) (.t 16), none⟩,
    ⟨(some 9), .mov (.t 17), none⟩])
  (.seq (.seq (.region false [⟨(some 18), .mov (.t 1), none⟩,
    ⟨(some 19), .mov (.c (.int .i64 0)), none⟩])
  (.block 0 (.loop A_lattice_bound_lattice_downsL0)))
  (.seq (.region false [⟨(some 8), .mov (.c (.int .i64 (-1))), none⟩])
  (.ret)))),
  [.tmp 8]⟩

/- ref03_names -/
def A_ref03_namesL1 : ACode :=
  .seq (.seq (.region false [⟨(some 27), .mov (.t 5), none⟩,
    ⟨(some 28), .mov (.t 4), none⟩,
    ⟨(some 29), .bin .lss (.t 27) (.t 28), none⟩])
  (.cond (.t 29)
   (.skip)
   (.exit 2)))
  (.seq (.block 3 (.seq (.region true [⟨(some 32), .mov (.t 0), none⟩,
    ⟨(some 33), .mov (.t 5), none⟩,
    ⟨(some 34), .idxA 1 (.t 32) (.t 33), none⟩,
    ⟨(some 35), .ld none (.t 34), none⟩,
    ⟨(some 36), .mov (.t 0), none⟩,
    ⟨(some 37), .mov (.t 4), none⟩,
    ⟨(some 38), .idxA 1 (.t 36) (.t 37), none⟩,
    ⟨(some 39), .ld none (.t 38), none⟩,
    ⟨(some 40), .bin .eql (.t 35) (.t 39), none⟩])
  (.cond (.t 40)
   (.seq (.region false [⟨(some 41), .mov (.t 4), none⟩,
     ⟨(some 2), .mov (.t 41), none⟩,
     ⟨(some 3), .mov (.c (.int .i64 8)), none⟩])
   (.ret))
   (.skip))))
  (.region false [⟨(some 30), .mov (.t 5), none⟩,
    ⟨(some 31), .bin .add (.t 30) (.c (.int .i64 1)), none⟩,
    ⟨(some 5), .mov (.t 31), none⟩]))
def A_ref03_namesL0 : ACode :=
  .seq (.seq (.region false [⟨(some 14), .mov (.t 4), none⟩,
    ⟨(some 15), .mov (.t 0), none⟩,
    ⟨(some 16), .len (.t 15), none⟩,
    ⟨(some 17), .bin .lss (.t 14) (.t 16), none⟩])
  (.cond (.t 17)
   (.skip)
   (.exit 0)))
  (.seq (.block 1 (.seq (.seq (.region false [⟨(some 20), .mov (.t 0), none⟩,
    ⟨(some 21), .mov (.t 4), none⟩,
    ⟨(some 22), .idxA 1 (.t 20) (.t 21), none⟩,
    ⟨(some 23), .ld none (.t 22), none⟩,
    ⟨(some 24), .call F_ref01_Name [(.t 23)], none⟩,
    ⟨(some 25), .not (.t 24), none⟩])
  (.cond (.t 25)
   (.seq (.region false [⟨(some 26), .mov (.t 4), none⟩,
     ⟨(some 2), .mov (.t 26), none⟩,
     ⟨(some 3), .mov (.c (.int .i64 6)), none⟩])
   (.ret))
   (.skip)))
  (.seq (.region false [⟨(some 5), .mov (.c (.int .i64 0)), none⟩])
  (.block 2 (.loop A_ref03_namesL1)))))
  (.region false [⟨(some 18), .mov (.t 4), none⟩,
    ⟨(some 19), .bin .add (.t 18) (.c (.int .i64 1)), none⟩,
    ⟨(some 4), .mov (.t 19), none⟩]))
def A_ref03_names : AFun := ⟨42,
  .seq (.region false [⟨(some 2), .mov (.c (.int .i64 0)), none⟩,
    ⟨(some 3), .mov (.c (.int .i64 0)), none⟩])
  (.seq (.seq (.region false [⟨(some 6), .mov (.t 0), none⟩,
    ⟨(some 7), .len (.t 6), none⟩,
    ⟨(some 8), .bin .lss (.t 7) (.c (.int .i64 1)), none⟩,
    ⟨(some 9), .mov (.t 8), none⟩,
    ⟨(some 10), .mov (.t 0), some (9, false)⟩,
    ⟨(some 11), .len (.t 10), some (9, false)⟩,
    ⟨(some 12), .bin .gtr (.t 11) (.c (.int .i64 8)), some (9, false)⟩,
    ⟨(some 13), .pick (.t 9) (.c (.bool true)) (.t 12), none⟩])
  (.cond (.t 13)
   (.seq (.region false [⟨(some 2), .mov (.c (.int .i64 (-1))), none⟩,
     ⟨(some 3), .mov (.c (.int .i64 3)), none⟩])
   (.ret))
   (.skip)))
  (.seq (.seq (.region false [⟨(some 4), .mov (.c (.int .i64 0)), none⟩])
  (.block 0 (.loop A_ref03_namesL0)))
  (.seq (.region false [⟨(some 2), .mov (.c (.int .i64 0)), none⟩,
    ⟨(some 3), .mov (.c (.int .i64 0)), none⟩])
  (.ret)))),
  [.tmp 2, .tmp 3]⟩

/- ref03_ordered -/
def A_ref03_orderedL0 : ACode :=
  .seq (.seq (.region false [⟨(some 29), .mov (.t 7), none⟩,
    ⟨(some 30), .mov (.t 5), none⟩,
    ⟨(some 31), .bin .lss (.t 29) (.t 30), none⟩])
  (.cond (.t 31)
   (.skip)
   (.exit 0)))
  (.seq (.block 1 (.seq (.seq (.region false [⟨(some 34), .ld (some 2) (.t 2), none⟩,
    ⟨(some 35), .mov (.t 1), none⟩,
    ⟨(some 36), .mov (.t 7), none⟩,
    ⟨(some 37), .call F_ref03_Below [(.t 34), (.t 35), (.t 36)], none⟩,
    ⟨(some 38), .not (.t 37), none⟩])
  (.cond (.t 38)
   (.exit 1)
   (.skip)))
  (.seq (.region true [⟨(some 39), .fldA 1 (.t 2), none⟩,
    ⟨(some 40), .ld none (.t 39), none⟩,
    ⟨(some 41), .mov (.t 7), none⟩,
    ⟨(some 42), .idxA 1 (.t 40) (.t 41), none⟩,
    ⟨(some 43), .ld none (.t 42), none⟩,
    ⟨(some 44), .conv .i64 (.t 43), none⟩,
    ⟨(some 45), .mov (.t 5), none⟩,
    ⟨(some 46), .bin .shl (.c (.int .i64 1)) (.t 45), none⟩,
    ⟨(some 47), .bin .sub (.t 46) (.c (.int .i64 1)), none⟩,
    ⟨(some 48), .bin .and (.t 44) (.t 47), none⟩,
    ⟨(some 8), .mov (.t 48), none⟩])
  (.seq (.region false [⟨(some 49), .mov (.t 7), none⟩,
    ⟨(some 50), .mov (.t 1), none⟩,
    ⟨(some 51), .bin .neq (.t 49) (.t 50), none⟩,
    ⟨(some 52), .mov (.t 51), none⟩,
    ⟨(some 53), .ld (some 2) (.t 2), some (52, true)⟩,
    ⟨(some 54), .mov (.t 7), some (52, true)⟩,
    ⟨(some 55), .mov (.t 1), some (52, true)⟩,
    ⟨(some 56), .call F_ref03_Below [(.t 53), (.t 54), (.t 55)], some (52, true)⟩,
    ⟨(some 57), .pick (.t 52) (.t 56) (.c (.bool false)), none⟩,
    ⟨(some 58), .mov (.t 57), none⟩,
    ⟨(some 59), .mov (.t 8), some (58, false)⟩,
    ⟨(some 60), .mov (.t 6), some (58, false)⟩,
    ⟨(some 61), .bin .and (.t 59) (.t 60), some (58, false)⟩,
    ⟨(some 62), .mov (.t 8), some (58, false)⟩,
    ⟨(some 63), .bin .neq (.t 61) (.t 62), some (58, false)⟩,
    ⟨(some 64), .pick (.t 58) (.c (.bool true)) (.t 63), none⟩])
  (.cond (.t 64)
   (.seq (.region false [⟨(some 4), .mov (.c (.bool false)), none⟩])
   (.ret))
   (.skip))))))
  (.region false [⟨(some 32), .mov (.t 7), none⟩,
    ⟨(some 33), .bin .add (.t 32) (.c (.int .i64 1)), none⟩,
    ⟨(some 7), .mov (.t 33), none⟩]))
def A_ref03_ordered : AFun := ⟨65,
  .seq (.region false [⟨(some 2), .box (.t 0), none⟩,
    ⟨(some 4), .mov (.c (.bool false)), none⟩])
  (.seq (.region false [⟨(some 9), .fldA 0 (.t 2), none⟩,
    ⟨(some 10), .ld none (.t 9), none⟩,
    ⟨(some 11), .len (.t 10), none⟩,
    ⟨(some 5), .mov (.t 11), none⟩])
  (.seq (.region false [⟨(some 12), .fldA 1 (.t 2), none⟩,
    ⟨(some 13), .ld none (.t 12), none⟩,
    ⟨(some 14), .mov (.t 1), none⟩,
    ⟨(some 15), .idxA 1 (.t 13) (.t 14), none⟩,
    ⟨(some 16), .ld none (.t 15), none⟩,
    ⟨(some 17), .conv .i64 (.t 16), none⟩,
    ⟨(some 6), .mov (.t 17), none⟩])
  (.seq (.seq (.region false [⟨(some 18), .mov (.t 6), none⟩,
    ⟨(some 19), .mov (.t 5), none⟩,
    ⟨(some 20), .bin .shr (.t 18) (.t 19), none⟩,
    ⟨(some 21), .bin .gtr (.t 20) (.c (.int .i64 0)), none⟩,
    ⟨(some 22), .mov (.t 21), none⟩,
    ⟨(some 23), .ld (some 2) (.t 2), some (22, false)⟩,
    ⟨(some 24), .mov (.t 1), some (22, false)⟩,
    ⟨(some 25), .mov (.t 1), some (22, false)⟩,
    ⟨(some 26), .call F_ref03_Below [(.t 23), (.t 24), (.t 25)], some (22, false)⟩,
    ⟨(some 27), .not (.t 26), some (22, false)⟩,
    ⟨(some 28), .pick (.t 22) (.c (.bool true)) (.t 27), none⟩])
  (.cond (.t 28)
   (.seq (.region false [⟨(some 4), .mov (.c (.bool false)), none⟩])
   (.ret))
   (.skip)))
  (.seq (.seq (.region false [⟨(some 7), .mov (.c (.int .i64 0)), none⟩])
  (.block 0 (.loop A_ref03_orderedL0)))
  (.seq (.region false [⟨(some 4), .mov (.c (.bool true)), none⟩])
  (.ret)))))),
  [.tmp 4]⟩

/- lattice_asked -/
def A_lattice_askedL0 : ACode :=
  .seq (.region false [⟨(some 22), .bin .lss (.t 21) (.t 20), none⟩])
  (.seq (.cond (.t 22)
   (.skip)
   (.exit 0))
  (.seq (.block 1 (.seq (.region false [⟨(some 23), .idxA 1 (.t 19) (.t 21), none⟩,
    ⟨(some 24), .ld none (.t 23), none⟩,
    ⟨(some 8), .mov (.t 24), none⟩])
  (.seq (.region false [⟨(some 25), .mov (.t 8), none⟩,
    ⟨(some 26), .bin .lss (.t 25) (.c (.int .i64 0)), none⟩,
    ⟨(some 27), .mov (.t 26), none⟩,
    ⟨(some 28), .mov (.t 8), some (27, false)⟩,
    ⟨(some 29), .mov (.t 0), some (27, false)⟩,
    ⟨(some 30), .nck (.t 29), some (27, false)⟩,
    ⟨(some 31), .fldA 0 (.t 30), some (27, false)⟩,
    ⟨(some 32), .ld none (.t 31), some (27, false)⟩,
    ⟨(some 33), .len (.t 32), some (27, false)⟩,
    ⟨(some 34), .bin .geq (.t 28) (.t 33), some (27, false)⟩,
    ⟨(some 35), .pick (.t 27) (.c (.bool true)) (.t 34), none⟩])
  (.cond (.t 35)
   (.seq (.region false [⟨(some 4), .mov (.c (.int .i64 7)), none⟩])
   (.ret))
   (.skip)))))
  (.region false [⟨(some 36), .bin .add (.t 21) (.c (.int .i64 1)), none⟩,
    ⟨(some 21), .mov (.t 36), none⟩])))
def A_lattice_asked : AFun := ⟨37,
  .seq (.region false [⟨(some 4), .mov (.c (.int .i64 0)), none⟩])
  (.seq (.seq (.region false [⟨(some 10), .mov (.t 0), none⟩,
    ⟨(some 11), .nck (.t 10), none⟩,
    ⟨(some 12), .ld (some 2) (.t 11), none⟩,
    ⟨(some 13), .call F_lattice_Check [(.t 12)], none⟩,
    ⟨(some 9), .mov (.t 13), none⟩,
    ⟨(some 14), .extr (.t 9) 0, none⟩,
    ⟨(some 15), .extr (.t 9) 1, none⟩,
    ⟨(some 5), .mov (.t 14), none⟩,
    ⟨(some 6), .mov (.t 15), none⟩])
  (.seq (.region false [⟨(some 16), .mov (.t 6), none⟩,
    ⟨(some 17), .bin .neq (.t 16) (.c (.int .i64 0)), none⟩])
  (.cond (.t 17)
   (.seq (.region false [⟨(some 18), .mov (.t 6), none⟩,
     ⟨(some 4), .mov (.t 18), none⟩])
   (.ret))
   (.skip))))
  (.seq (.seq (.region false [⟨(some 19), .mov (.t 1), none⟩,
    ⟨(some 20), .len (.t 19), none⟩,
    ⟨(some 21), .mov (.c (.int .i64 0)), none⟩])
  (.block 0 (.loop A_lattice_askedL0)))
  (.seq (.region false [⟨(some 4), .mov (.c (.int .i64 0)), none⟩])
  (.ret)))),
  [.tmp 4]⟩

/- lattice_end_lattice_ups -/
def A_lattice_end_lattice_upsL0 : ACode :=
  .seq (.seq (.region false [⟨(some 6), .mov (.t 5), none⟩,
    ⟨(some 7), .mov (.t 1), none⟩,
    ⟨(some 8), .bin .sub (.t 7) (.c (.int .i64 1)), none⟩,
    ⟨(some 9), .bin .lss (.t 6) (.t 8), none⟩,
    ⟨(some 10), .mov (.t 9), none⟩,
    ⟨(some 11), .mov (.t 5), some (10, true)⟩,
    ⟨(some 12), .idxP 8 1 (.t 2) (.t 11), some (10, true)⟩,
    ⟨(some 13), .ld none (.t 12), some (10, true)⟩,
    ⟨(some 14), .call F_bits_OnesCount8 [(.t 13)], some (10, true)⟩,
    ⟨(some 15), .mov (.t 1), some (10, true)⟩,
    ⟨(some 16), .bin .lss (.t 14) (.t 15), some (10, true)⟩,
    ⟨(some 17), .pick (.t 10) (.t 16) (.c (.bool false)), none⟩])
  (.cond (.t 17)
   (.skip)
   (.exit 0)))
  (.block 1 (.region false [⟨(some 18), .mov (.t 5), none⟩,
    ⟨(some 19), .bin .add (.t 18) (.c (.int .i64 1)), none⟩,
    ⟨(some 5), .mov (.t 19), none⟩]))
def A_lattice_end_lattice_ups : AFun := ⟨21,
  .seq (.region false [⟨(some 2), .box (.t 0), none⟩,
    ⟨(some 4), .mov (.c (.int .i64 0)), none⟩])
  (.seq (.region false [⟨(some 5), .mov (.c (.int .i64 0)), none⟩])
  (.seq (.block 0 (.loop A_lattice_end_lattice_upsL0))
  (.seq (.region false [⟨(some 20), .mov (.t 5), none⟩,
    ⟨(some 4), .mov (.t 20), none⟩])
  (.ret)))),
  [.tmp 4]⟩

/- lattice_Join -/
def A_lattice_Join : AFun := ⟨25,
  .seq (.region false [⟨(some 3), .box (.t 0), none⟩,
    ⟨(some 6), .mov (.c (.int .i64 0)), none⟩,
    ⟨(some 7), .mov (.c (.int .i64 0)), none⟩])
  (.seq (.seq (.region false [⟨(some 10), .mov (.t 1), none⟩,
    ⟨(some 11), .mov (.t 2), none⟩,
    ⟨(some 12), .bsl 1 (.int .i64 0) 2 [(0, (.t 10)), (1, (.t 11))], none⟩,
    ⟨(some 13), .call F_lattice_asked [(.t 3), (.t 12)], none⟩,
    ⟨(some 8), .mov (.t 13), none⟩])
  (.seq (.region false [⟨(some 14), .mov (.t 8), none⟩,
    ⟨(some 15), .bin .neq (.t 14) (.c (.int .i64 0)), none⟩])
  (.cond (.t 15)
   (.seq (.region false [⟨(some 16), .mov (.t 8), none⟩,
     ⟨(some 6), .mov (.c (.int .i64 0)), none⟩,
     ⟨(some 7), .mov (.t 16), none⟩])
   (.ret))
   (.skip))))
  (.seq (.region false [⟨(some 17), .call F_lattice_of [(.t 3)], none⟩,
    ⟨(some 9), .alloc [.int .i64 0, .int .u8 0, .int .u8 0, .int .u8 0, .int .u8 0, .int .u8 0, .int .u8 0, .int .u8 0, .int .u8 0, .int .u8 0, .int .u8 0, .int .u8 0, .int .u8 0, .int .u8 0, .int .u8 0, .int .u8 0, .int .u8 0], none⟩,
    ⟨none, .st 17 (.t 9) (.t 17), none⟩])
  (.seq (.region false [⟨(some 18), .fldA 1 (.t 9), none⟩,
    ⟨(some 19), .ld (some 8) (.t 18), none⟩,
    ⟨(some 20), .fldA 0 (.t 9), none⟩,
    ⟨(some 21), .ld none (.t 20), none⟩,
    ⟨(some 22), .mov (.t 1), none⟩,
    ⟨(some 23), .mov (.t 2), none⟩,
    ⟨(some 24), .call F_lattice_bound_lattice_ups [(.t 19), (.t 21), (.t 22), (.t 23)], none⟩,
    ⟨(some 6), .mov (.t 24), none⟩,
    ⟨(some 7), .mov (.c (.int .i64 0)), none⟩])
  (.ret)))),
  [.tmp 6, .tmp 7]⟩

/- lattice_end_lattice_downs -/
def A_lattice_end_lattice_downsL0 : ACode :=
  .seq (.seq (.region false [⟨(some 6), .mov (.t 5), none⟩,
    ⟨(some 7), .mov (.t 1), none⟩,
    ⟨(some 8), .bin .sub (.t 7) (.c (.int .i64 1)), none⟩,
    ⟨(some 9), .bin .lss (.t 6) (.t 8), none⟩,
    ⟨(some 10), .mov (.t 9), none⟩,
    ⟨(some 11), .mov (.t 5), some (10, true)⟩,
    ⟨(some 12), .idxP 8 1 (.t 2) (.t 11), some (10, true)⟩,
    ⟨(some 13), .ld none (.t 12), some (10, true)⟩,
    ⟨(some 14), .call F_bits_OnesCount8 [(.t 13)], some (10, true)⟩,
    ⟨(some 15), .mov (.t 1), some (10, true)⟩,
    ⟨(some 16), .bin .lss (.t 14) (.t 15), some (10, true)⟩,
    ⟨(some 17), .pick (.t 10) (.t 16) (.c (.bool false)), none⟩])
  (.cond (.t 17)
   (.skip)
   (.exit 0)))
  (.block 1 (.region false [⟨(some 18), .mov (.t 5), none⟩,
    ⟨(some 19), .bin .add (.t 18) (.c (.int .i64 1)), none⟩,
    ⟨(some 5), .mov (.t 19), none⟩]))
def A_lattice_end_lattice_downs : AFun := ⟨21,
  .seq (.region false [⟨(some 2), .box (.t 0), none⟩,
    ⟨(some 4), .mov (.c (.int .i64 0)), none⟩])
  (.seq (.region false [⟨(some 5), .mov (.c (.int .i64 0)), none⟩])
  (.seq (.block 0 (.loop A_lattice_end_lattice_downsL0))
  (.seq (.region false [⟨(some 20), .mov (.t 5), none⟩,
    ⟨(some 4), .mov (.t 20), none⟩])
  (.ret)))),
  [.tmp 4]⟩

/- lattice_Meet -/
def A_lattice_Meet : AFun := ⟨25,
  .seq (.region false [⟨(some 3), .box (.t 0), none⟩,
    ⟨(some 6), .mov (.c (.int .i64 0)), none⟩,
    ⟨(some 7), .mov (.c (.int .i64 0)), none⟩])
  (.seq (.seq (.region false [⟨(some 10), .mov (.t 1), none⟩,
    ⟨(some 11), .mov (.t 2), none⟩,
    ⟨(some 12), .bsl 1 (.int .i64 0) 2 [(0, (.t 10)), (1, (.t 11))], none⟩,
    ⟨(some 13), .call F_lattice_asked [(.t 3), (.t 12)], none⟩,
    ⟨(some 8), .mov (.t 13), none⟩])
  (.seq (.region false [⟨(some 14), .mov (.t 8), none⟩,
    ⟨(some 15), .bin .neq (.t 14) (.c (.int .i64 0)), none⟩])
  (.cond (.t 15)
   (.seq (.region false [⟨(some 16), .mov (.t 8), none⟩,
     ⟨(some 6), .mov (.c (.int .i64 0)), none⟩,
     ⟨(some 7), .mov (.t 16), none⟩])
   (.ret))
   (.skip))))
  (.seq (.region false [⟨(some 17), .call F_lattice_of [(.t 3)], none⟩,
    ⟨(some 9), .alloc [.int .i64 0, .int .u8 0, .int .u8 0, .int .u8 0, .int .u8 0, .int .u8 0, .int .u8 0, .int .u8 0, .int .u8 0, .int .u8 0, .int .u8 0, .int .u8 0, .int .u8 0, .int .u8 0, .int .u8 0, .int .u8 0, .int .u8 0], none⟩,
    ⟨none, .st 17 (.t 9) (.t 17), none⟩])
  (.seq (.region false [⟨(some 18), .fldA 9 (.t 9), none⟩,
    ⟨(some 19), .ld (some 8) (.t 18), none⟩,
    ⟨(some 20), .fldA 0 (.t 9), none⟩,
    ⟨(some 21), .ld none (.t 20), none⟩,
    ⟨(some 22), .mov (.t 1), none⟩,
    ⟨(some 23), .mov (.t 2), none⟩,
    ⟨(some 24), .call F_lattice_bound_lattice_downs [(.t 19), (.t 21), (.t 22), (.t 23)], none⟩,
    ⟨(some 6), .mov (.t 24), none⟩,
    ⟨(some 7), .mov (.c (.int .i64 0)), none⟩])
  (.ret)))),
  [.tmp 6, .tmp 7]⟩

/- strings_genSplit -/
def A_strings_genSplitL0 : ACode :=
  .seq (.seq (.region false [⟨(some 34), .mov (.t 10), none⟩,
    ⟨(some 35), .mov (.t 3), none⟩,
    ⟨(some 36), .bin .lss (.t 34) (.t 35), none⟩])
  (.cond (.t 36)
   (.skip)
   (.exit 0)))
  (.block 1 (.seq (.region false [⟨(some 37), .mov (.t 0), none⟩,
    ⟨(some 38), .mov (.t 1), none⟩,
    ⟨(some 39), .call F_strings_Index [(.t 37), (.t 38)], none⟩,
    ⟨(some 11), .mov (.t 39), none⟩])
  (.seq (.seq (.region false [⟨(some 40), .mov (.t 11), none⟩,
    ⟨(some 41), .bin .lss (.t 40) (.c (.int .i64 0)), none⟩])
  (.cond (.t 41)
   (.exit 0)
   (.skip)))
  (.seq (.region false [⟨(some 42), .mov (.t 9), none⟩,
    ⟨(some 43), .mov (.t 10), none⟩,
    ⟨(some 44), .mov (.t 0), none⟩,
    ⟨(some 45), .mov (.t 11), none⟩,
    ⟨(some 46), .mov (.t 2), none⟩,
    ⟨(some 47), .bin .add (.t 45) (.t 46), none⟩,
    ⟨(some 48), .ssl (.t 44) none (some (.t 47)), none⟩,
    ⟨(some 49), .idxA 1 (.t 42) (.t 43), none⟩,
    ⟨none, .st 1 (.t 49) (.t 48), none⟩])
  (.seq (.region false [⟨(some 50), .mov (.t 0), none⟩,
    ⟨(some 51), .mov (.t 11), none⟩,
    ⟨(some 52), .mov (.t 1), none⟩,
    ⟨(some 53), .lenS (.t 52), none⟩,
    ⟨(some 54), .bin .add (.t 51) (.t 53), none⟩,
    ⟨(some 55), .ssl (.t 50) (some (.t 54)) none, none⟩,
    ⟨(some 0), .mov (.t 55), none⟩])
  (.region false [⟨(some 56), .mov (.t 10), none⟩,
    ⟨(some 57), .bin .add (.t 56) (.c (.int .i64 1)), none⟩,
    ⟨(some 10), .mov (.t 57), none⟩]))))))
def A_strings_genSplit : AFun := ⟨66,
  .seq (.region false [⟨(some 8), .mov (.c (.sl .ex [])), none⟩])
  (.seq (.seq (.region false [⟨(some 12), .mov (.t 3), none⟩,
    ⟨(some 13), .bin .eql (.t 12) (.c (.int .i64 0)), none⟩])
  (.cond (.t 13)
   (.seq (.region false [⟨(some 8), .mov (.c (.sl .ex [])), none⟩])
   (.ret))
   (.skip)))
  (.seq (.seq (.region false [⟨(some 14), .mov (.t 1), none⟩,
    ⟨(some 15), .bin .eql (.t 14) (.c (.str [])), none⟩])
  (.cond (.t 15)
   (.seq (.region false [⟨(some 16), .mov (.t 0), none⟩,
     ⟨(some 17), .mov (.t 3), none⟩,
     ⟨(some 18), .call F_strings_explode [(.t 16), (.t 17)], none⟩,
     ⟨(some 8), .mov (.t 18), none⟩])
   (.ret))
   (.skip)))
  (.seq (.seq (.region false [⟨(some 19), .mov (.t 3), none⟩,
    ⟨(some 20), .bin .lss (.t 19) (.c (.int .i64 0)), none⟩])
  (.cond (.t 20)
   (.region false [⟨(some 21), .mov (.t 0), none⟩,
     ⟨(some 22), .mov (.t 1), none⟩,
     ⟨(some 23), .call F_strings_Count [(.t 21), (.t 22)], none⟩,
     ⟨(some 24), .bin .add (.t 23) (.c (.int .i64 1)), none⟩,
     ⟨(some 3), .mov (.t 24), none⟩])
   (.skip)))
  (.seq (.region false [⟨(some 25), .mov (.t 3), none⟩,
    ⟨(some 26), .mov (.t 0), none⟩,
    ⟨(some 27), .lenS (.t 26), none⟩,
    ⟨(some 28), .bin .add (.t 27) (.c (.int .i64 1)), none⟩,
    ⟨(some 29), .mm false (.t 25) (.t 28), none⟩,
    ⟨(some 3), .mov (.t 29), none⟩])
  (.seq (.region false [⟨(some 30), .mov (.t 3), none⟩,
    ⟨(some 31), .mkR 1 16 [.str []] (.t 30) (.t 30), none⟩,
    ⟨(some 9), .mov (.t 31), none⟩])
  (.seq (.region false [⟨(some 32), .mov (.t 3), none⟩,
    ⟨(some 33), .bin .sub (.t 32) (.c (.int .i64 1)), none⟩,
    ⟨(some 3), .mov (.t 33), none⟩])
  (.seq (.region false [⟨(some 10), .mov (.c (.int .i64 0)), none⟩])
  (.seq (.block 0 (.loop A_strings_genSplitL0))
  (.seq (.region false [⟨(some 58), .mov (.t 9), none⟩,
    ⟨(some 59), .mov (.t 10), none⟩,
    ⟨(some 60), .mov (.t 0), none⟩,
    ⟨(some 61), .idxA 1 (.t 58) (.t 59), none⟩,
    ⟨none, .st 1 (.t 61) (.t 60), none⟩])
  (.seq (.region false [⟨(some 62), .mov (.t 9), none⟩,
    ⟨(some 63), .mov (.t 10), none⟩,
    ⟨(some 64), .bin .add (.t 63) (.c (.int .i64 1)), none⟩,
    ⟨(some 65), .sls 1 (.t 62) none (some (.t 64)) none, none⟩,
    ⟨(some 8), .mov (.t 65), none⟩])
  (.ret))))))))))),
  [.tmp 8]⟩

/- slices_Index_string_string -/
def A_slices_Index_string_stringL0 : ACode :=
  .seq (.region false [⟨(some 9), .bin .lss (.t 8) (.t 7), none⟩])
  (.seq (.cond (.t 9)
   (.skip)
   (.exit 0))
  (.seq (.block 1 (.seq (.region false [⟨(some 10), .mov (.t 8), none⟩,
    ⟨(some 5), .mov (.t 10), none⟩])
  (.seq (.region false [⟨(some 11), .mov (.t 1), none⟩,
    ⟨(some 12), .mov (.t 0), none⟩,
    ⟨(some 13), .mov (.t 5), none⟩,
    ⟨(some 14), .idxA 1 (.t 12) (.t 13), none⟩,
    ⟨(some 15), .ld none (.t 14), none⟩,
    ⟨(some 16), .bin .eql (.t 11) (.t 15), none⟩])
  (.cond (.t 16)
   (.seq (.region false [⟨(some 17), .mov (.t 5), none⟩,
     ⟨(some 4), .mov (.t 17), none⟩])
   (.ret))
   (.skip)))))
  (.region false [⟨(some 18), .bin .add (.t 8) (.c (.int .i64 1)), none⟩,
    ⟨(some 8), .mov (.t 18), none⟩])))
def A_slices_Index_string_string : AFun := ⟨19,
  .seq (.region false [⟨(some 4), .mov (.c (.int .i64 0)), none⟩])
  (.seq (.seq (.region false [⟨(some 6), .mov (.t 0), none⟩,
    ⟨(some 7), .len (.t 6), none⟩,
    ⟨(some 8), .mov (.c (.int .i64 0)), none⟩])
  (.block 0 (.loop A_slices_Index_string_stringL0)))
  (.seq (.region false [⟨(some 4), .mov (.c (.int .i64 (-1))), none⟩])
  (.ret))),
  [.tmp 4]⟩

/- words_Name -/
def A_words_Name : AFun := ⟨23,
  .seq (.region false [⟨(some 2), .mov (.c (.bool false)), none⟩])
  (.seq (.seq (.region false [⟨(some 3), .mov (.t 0), none⟩,
    ⟨(some 4), .bin .eql (.t 3) (.c (.str [])), none⟩,
    ⟨(some 5), .mov (.t 4), none⟩,
    ⟨(some 6), .mov (.t 0), some (5, false)⟩,
    ⟨(some 7), .lenS (.t 6), some (5, false)⟩,
    ⟨(some 8), .bin .gtr (.t 7) (.c (.int .i64 16)), some (5, false)⟩,
    ⟨(some 9), .pick (.t 5) (.c (.bool true)) (.t 8), none⟩,
    ⟨(some 10), .mov (.t 9), none⟩,
    ⟨(some 11), .mov (.t 0), some (10, false)⟩,
    ⟨(some 12), .idxS (.t 11) (.c (.int .i64 0)), some (10, false)⟩,
    ⟨(some 13), .bin .lss (.t 12) (.c (.int .u8 97)), some (10, false)⟩,
    ⟨(some 14), .pick (.t 10) (.c (.bool true)) (.t 13), none⟩,
    ⟨(some 15), .mov (.t 14), none⟩,
    ⟨(some 16), .mov (.t 0), some (15, false)⟩,
    ⟨(some 17), .idxS (.t 16) (.c (.int .i64 0)), some (15, false)⟩,
    ⟨(some 18), .bin .gtr (.t 17) (.c (.int .u8 122)), some (15, false)⟩,
    ⟨(some 19), .pick (.t 15) (.c (.bool true)) (.t 18), none⟩])
  (.cond (.t 19)
   (.seq (.region false [⟨(some 2), .mov (.c (.bool false)), none⟩])
   (.ret))
   (.skip)))
  (.seq (.region false [⟨(some 20), .mov (.t 0), none⟩,
    ⟨(some 21), .call F_strings_Trim [(.t 20), (.c (.str [97, 98, 99, 100, 101, 102, 103, 104, 105, 106, 107, 108, 109, 110, 111, 112, 113, 114, 115, 116, 117, 118, 119, 120, 121, 122, 48, 49, 50, 51, 52, 53, 54, 55, 56, 57, 45]))], none⟩,
    ⟨(some 22), .bin .eql (.t 21) (.c (.str [])), none⟩,
    ⟨(some 2), .mov (.t 22), none⟩])
  (.ret))),
  [.tmp 2]⟩

/- ref01_Name -/
def A_ref01_NameL0 : ACode :=
  .seq (.seq (.region false [⟨(some 18), .mov (.t 3), none⟩,
    ⟨(some 19), .mov (.t 0), none⟩,
    ⟨(some 20), .lenS (.t 19), none⟩,
    ⟨(some 21), .bin .lss (.t 18) (.t 20), none⟩])
  (.cond (.t 21)
   (.skip)
   (.exit 0)))
  (.seq (.block 1 (.seq (.region false [⟨(some 24), .mov (.t 0), none⟩,
    ⟨(some 25), .mov (.t 3), none⟩,
    ⟨(some 26), .idxS (.t 24) (.t 25), none⟩,
    ⟨(some 27), .call F_ref01_lower [(.t 26)], none⟩,
    ⟨(some 28), .not (.t 27), none⟩,
    ⟨(some 29), .mov (.t 28), none⟩,
    ⟨(some 30), .mov (.t 0), some (29, true)⟩,
    ⟨(some 31), .mov (.t 3), some (29, true)⟩,
    ⟨(some 32), .idxS (.t 30) (.t 31), some (29, true)⟩,
    ⟨(some 33), .call F_ref01_digit [(.t 32)], some (29, true)⟩,
    ⟨(some 34), .not (.t 33), some (29, true)⟩,
    ⟨(some 35), .pick (.t 29) (.t 34) (.c (.bool false)), none⟩,
    ⟨(some 36), .mov (.t 35), none⟩,
    ⟨(some 37), .mov (.t 0), some (36, true)⟩,
    ⟨(some 38), .mov (.t 3), some (36, true)⟩,
    ⟨(some 39), .idxS (.t 37) (.t 38), some (36, true)⟩,
    ⟨(some 40), .bin .neq (.t 39) (.c (.int .u8 45)), some (36, true)⟩,
    ⟨(some 41), .pick (.t 36) (.t 40) (.c (.bool false)), none⟩])
  (.cond (.t 41)
   (.seq (.region false [⟨(some 2), .mov (.c (.bool false)), none⟩])
   (.ret))
   (.skip))))
  (.region false [⟨(some 22), .mov (.t 3), none⟩,
    ⟨(some 23), .bin .add (.t 22) (.c (.int .i64 1)), none⟩,
    ⟨(some 3), .mov (.t 23), none⟩]))
def A_ref01_Name : AFun := ⟨42,
  .seq (.region false [⟨(some 2), .mov (.c (.bool false)), none⟩])
  (.seq (.seq (.region false [⟨(some 4), .mov (.t 0), none⟩,
    ⟨(some 5), .lenS (.t 4), none⟩,
    ⟨(some 6), .bin .lss (.t 5) (.c (.int .i64 1)), none⟩,
    ⟨(some 7), .mov (.t 6), none⟩,
    ⟨(some 8), .mov (.t 0), some (7, false)⟩,
    ⟨(some 9), .lenS (.t 8), some (7, false)⟩,
    ⟨(some 10), .bin .gtr (.t 9) (.c (.int .i64 16)), some (7, false)⟩,
    ⟨(some 11), .pick (.t 7) (.c (.bool true)) (.t 10), none⟩,
    ⟨(some 12), .mov (.t 11), none⟩,
    ⟨(some 13), .mov (.t 0), some (12, false)⟩,
    ⟨(some 14), .idxS (.t 13) (.c (.int .i64 0)), some (12, false)⟩,
    ⟨(some 15), .call F_ref01_lower [(.t 14)], some (12, false)⟩,
    ⟨(some 16), .not (.t 15), some (12, false)⟩,
    ⟨(some 17), .pick (.t 12) (.c (.bool true)) (.t 16), none⟩])
  (.cond (.t 17)
   (.seq (.region false [⟨(some 2), .mov (.c (.bool false)), none⟩])
   (.ret))
   (.skip)))
  (.seq (.seq (.region false [⟨(some 3), .mov (.c (.int .i64 0)), none⟩])
  (.block 0 (.loop A_ref01_NameL0)))
  (.seq (.region false [⟨(some 2), .mov (.c (.bool true)), none⟩])
  (.ret)))),
  [.tmp 2]⟩

/- bits_OnesCount8 -/
def S_bits_OnesCount8 : List UInt8 := [0, 1, 1, 2, 1, 2, 2, 3, 1, 2, 2, 3, 2, 3, 3, 4, 1, 2, 2, 3, 2, 3, 3, 4, 2, 3, 3, 4, 3, 4, 4, 5, 1, 2, 2, 3, 2, 3, 3, 4, 2, 3, 3, 4, 3, 4, 4, 5, 2, 3, 3, 4, 3, 4, 4, 5, 3, 4, 4, 5, 4, 5, 5, 6, 1, 2, 2, 3, 2, 3, 3, 4, 2, 3, 3, 4, 3, 4, 4, 5, 2, 3, 3, 4, 3, 4, 4, 5, 3, 4, 4, 5, 4, 5, 5, 6, 2, 3, 3, 4, 3, 4, 4, 5, 3, 4, 4, 5, 4, 5, 5, 6, 3, 4, 4, 5, 4, 5, 5, 6, 4, 5, 5, 6, 5, 6, 6, 7, 1, 2, 2, 3, 2, 3, 3, 4, 2, 3, 3, 4, 3, 4, 4, 5, 2, 3, 3, 4, 3, 4, 4, 5, 3, 4, 4, 5, 4, 5, 5, 6, 2, 3, 3, 4, 3, 4, 4, 5, 3, 4, 4, 5, 4, 5, 5, 6, 3, 4, 4, 5, 4, 5, 5, 6, 4, 5, 5, 6, 5, 6, 6, 7, 2, 3, 3, 4, 3, 4, 4, 5, 3, 4, 4, 5, 4, 5, 5, 6, 3, 4, 4, 5, 4, 5, 5, 6, 4, 5, 5, 6, 5, 6, 6, 7, 3, 4, 4, 5, 4, 5, 5, 6, 4, 5, 5, 6, 5, 6, 6, 7, 4, 5, 5, 6, 5, 6, 6, 7, 5, 6, 6, 7, 6, 7, 7, 8]
def A_bits_OnesCount8 : AFun := ⟨6,
  .seq (.region false [⟨(some 2), .mov (.c (.int .i64 0)), none⟩])
  (.seq (.region false [⟨(some 3), .mov (.t 0), none⟩,
    ⟨(some 4), .idxS (.c (.str S_bits_OnesCount8)) (.t 3), none⟩,
    ⟨(some 5), .conv .i64 (.t 4), none⟩,
    ⟨(some 2), .mov (.t 5), none⟩])
  (.ret)),
  [.tmp 2]⟩

/- strings_Index -/
def A_strings_Index : AFun := ⟨8,
  .seq (.region false [⟨(some 4), .mov (.c (.int .i64 0)), none⟩])
  (.seq (.region false [⟨(some 5), .mov (.t 0), none⟩,
    ⟨(some 6), .mov (.t 1), none⟩,
    ⟨(some 7), .call F_stringslite_Index [(.t 5), (.t 6)], none⟩,
    ⟨(some 4), .mov (.t 7), none⟩])
  (.ret)),
  [.tmp 4]⟩

/- strings_Trim -/
def A_strings_Trim : AFun := ⟨43,
  .seq (.region false [⟨(some 4), .mov (.c (.str [])), none⟩])
  (.seq (.seq (.region false [⟨(some 7), .mov (.t 0), none⟩,
    ⟨(some 8), .bin .eql (.t 7) (.c (.str [])), none⟩,
    ⟨(some 9), .mov (.t 8), none⟩,
    ⟨(some 10), .mov (.t 1), some (9, false)⟩,
    ⟨(some 11), .bin .eql (.t 10) (.c (.str [])), some (9, false)⟩,
    ⟨(some 12), .pick (.t 9) (.c (.bool true)) (.t 11), none⟩])
  (.cond (.t 12)
   (.seq (.region false [⟨(some 13), .mov (.t 0), none⟩,
     ⟨(some 4), .mov (.t 13), none⟩])
   (.ret))
   (.skip)))
  (.seq (.seq (.region false [⟨(some 14), .mov (.t 1), none⟩,
    ⟨(some 15), .lenS (.t 14), none⟩,
    ⟨(some 16), .bin .eql (.t 15) (.c (.int .i64 1)), none⟩,
    ⟨(some 17), .mov (.t 16), none⟩,
    ⟨(some 18), .mov (.t 1), some (17, true)⟩,
    ⟨(some 19), .idxS (.t 18) (.c (.int .i64 0)), some (17, true)⟩,
    ⟨(some 20), .bin .lss (.t 19) (.c (.int .u8 128)), some (17, true)⟩,
    ⟨(some 21), .pick (.t 17) (.t 20) (.c (.bool false)), none⟩])
  (.cond (.t 21)
   (.seq (.region true [⟨(some 22), .mov (.t 0), none⟩,
     ⟨(some 23), .mov (.t 1), none⟩,
     ⟨(some 24), .idxS (.t 23) (.c (.int .i64 0)), none⟩,
     ⟨(some 25), .call F_strings_trimRightByte [(.t 22), (.t 24)], none⟩,
     ⟨(some 26), .mov (.t 1), none⟩,
     ⟨(some 27), .idxS (.t 26) (.c (.int .i64 0)), none⟩,
     ⟨(some 28), .call F_strings_trimLeftByte [(.t 25), (.t 27)], none⟩,
     ⟨(some 4), .mov (.t 28), none⟩])
   (.ret))
   (.skip)))
  (.seq (.seq (.region false [⟨(some 30), .mov (.t 1), none⟩,
    ⟨(some 31), .call F_strings_makeASCIISet [(.t 30)], none⟩,
    ⟨(some 29), .mov (.t 31), none⟩,
    ⟨(some 32), .extr (.t 29) 0, none⟩,
    ⟨(some 33), .extr (.t 29) 1, none⟩,
    ⟨(some 5), .alloc (List.replicate 256 (.bool false)), none⟩,
    ⟨none, .st 256 (.t 5) (.t 32), none⟩,
    ⟨(some 6), .mov (.t 33), none⟩])
  (.seq (.region false [⟨(some 34), .mov (.t 6), none⟩])
  (.cond (.t 34)
   (.seq (.region false [⟨(some 35), .mov (.t 0), none⟩,
     ⟨(some 36), .call F_strings_trimRightASCII [(.t 35), (.t 5)], none⟩,
     ⟨(some 37), .call F_strings_trimLeftASCII [(.t 36), (.t 5)], none⟩,
     ⟨(some 4), .mov (.t 37), none⟩])
   (.ret))
   (.skip))))
  (.seq (.region false [⟨(some 38), .mov (.t 0), none⟩,
    ⟨(some 39), .mov (.t 1), none⟩,
    ⟨(some 40), .call F_strings_trimRightUnicode [(.t 38), (.t 39)], none⟩,
    ⟨(some 41), .mov (.t 1), none⟩,
    ⟨(some 42), .call F_strings_trimLeftUnicode [(.t 40), (.t 41)], none⟩,
    ⟨(some 4), .mov (.t 42), none⟩])
  (.ret))))),
  [.tmp 4]⟩

/- ref01_lower -/
def A_ref01_lower : AFun := ⟨9,
  .seq (.region false [⟨(some 2), .mov (.c (.bool false)), none⟩])
  (.seq (.region false [⟨(some 3), .mov (.t 0), none⟩,
    ⟨(some 4), .bin .geq (.t 3) (.c (.int .u8 97)), none⟩,
    ⟨(some 5), .mov (.t 4), none⟩,
    ⟨(some 6), .mov (.t 0), some (5, true)⟩,
    ⟨(some 7), .bin .leq (.t 6) (.c (.int .u8 122)), some (5, true)⟩,
    ⟨(some 8), .pick (.t 5) (.t 7) (.c (.bool false)), none⟩,
    ⟨(some 2), .mov (.t 8), none⟩])
  (.ret)),
  [.tmp 2]⟩

/- ref01_digit -/
def A_ref01_digit : AFun := ⟨9,
  .seq (.region false [⟨(some 2), .mov (.c (.bool false)), none⟩])
  (.seq (.region false [⟨(some 3), .mov (.t 0), none⟩,
    ⟨(some 4), .bin .geq (.t 3) (.c (.int .u8 48)), none⟩,
    ⟨(some 5), .mov (.t 4), none⟩,
    ⟨(some 6), .mov (.t 0), some (5, true)⟩,
    ⟨(some 7), .bin .leq (.t 6) (.c (.int .u8 57)), some (5, true)⟩,
    ⟨(some 8), .pick (.t 5) (.t 7) (.c (.bool false)), none⟩,
    ⟨(some 2), .mov (.t 8), none⟩])
  (.ret)),
  [.tmp 2]⟩

/- utf8_DecodeRuneInString -/
def A_utf8_DecodeRuneInString : AFun := ⟨19,
  .seq (.region false [⟨(some 2), .mov (.c (.int .i32 0)), none⟩,
    ⟨(some 3), .mov (.c (.int .i64 0)), none⟩])
  (.seq (.seq (.region false [⟨(some 4), .mov (.t 0), none⟩,
    ⟨(some 5), .bin .neq (.t 4) (.c (.str [])), none⟩,
    ⟨(some 6), .mov (.t 5), none⟩,
    ⟨(some 7), .mov (.t 0), some (6, true)⟩,
    ⟨(some 8), .idxS (.t 7) (.c (.int .i64 0)), some (6, true)⟩,
    ⟨(some 9), .bin .lss (.t 8) (.c (.int .u8 128)), some (6, true)⟩,
    ⟨(some 10), .pick (.t 6) (.t 9) (.c (.bool false)), none⟩])
  (.cond (.t 10)
   (.seq (.region false [⟨(some 11), .mov (.t 0), none⟩,
     ⟨(some 12), .idxS (.t 11) (.c (.int .i64 0)), none⟩,
     ⟨(some 13), .conv .i32 (.t 12), none⟩,
     ⟨(some 2), .mov (.t 13), none⟩,
     ⟨(some 3), .mov (.c (.int .i64 1)), none⟩])
   (.ret))
   (.region false [⟨(some 15), .mov (.t 0), none⟩,
     ⟨(some 16), .call F_utf8_decodeRuneInStringSlow [(.t 15)], none⟩,
     ⟨(some 14), .mov (.t 16), none⟩,
     ⟨(some 17), .extr (.t 14) 0, none⟩,
     ⟨(some 18), .extr (.t 14) 1, none⟩,
     ⟨(some 2), .mov (.t 17), none⟩,
     ⟨(some 3), .mov (.t 18), none⟩])))
  (.ret)),
  [.tmp 2, .tmp 3]⟩

/- strings_trimLeftByte -/
def A_strings_trimLeftByteL0 : ACode :=
  .seq (.seq (.region false [⟨(some 5), .mov (.t 0), none⟩,
    ⟨(some 6), .lenS (.t 5), none⟩,
    ⟨(some 7), .bin .gtr (.t 6) (.c (.int .i64 0)), none⟩,
    ⟨(some 8), .mov (.t 7), none⟩,
    ⟨(some 9), .mov (.t 0), some (8, true)⟩,
    ⟨(some 10), .idxS (.t 9) (.c (.int .i64 0)), some (8, true)⟩,
    ⟨(some 11), .mov (.t 1), some (8, true)⟩,
    ⟨(some 12), .bin .eql (.t 10) (.t 11), some (8, true)⟩,
    ⟨(some 13), .pick (.t 8) (.t 12) (.c (.bool false)), none⟩])
  (.cond (.t 13)
   (.skip)
   (.exit 0)))
  (.block 1 (.region false [⟨(some 14), .mov (.t 0), none⟩,
    ⟨(some 15), .ssl (.t 14) (some (.c (.int .i64 1))) none, none⟩,
    ⟨(some 0), .mov (.t 15), none⟩]))
def A_strings_trimLeftByte : AFun := ⟨17,
  .seq (.region false [⟨(some 4), .mov (.c (.str [])), none⟩])
  (.seq (.block 0 (.loop A_strings_trimLeftByteL0))
  (.seq (.region false [⟨(some 16), .mov (.t 0), none⟩,
    ⟨(some 4), .mov (.t 16), none⟩])
  (.ret))),
  [.tmp 4]⟩

/- strings_trimRightByte -/
def A_strings_trimRightByteL0 : ACode :=
  .seq (.seq (.region false [⟨(some 5), .mov (.t 0), none⟩,
    ⟨(some 6), .lenS (.t 5), none⟩,
    ⟨(some 7), .bin .gtr (.t 6) (.c (.int .i64 0)), none⟩,
    ⟨(some 8), .mov (.t 7), none⟩,
    ⟨(some 9), .mov (.t 0), some (8, true)⟩,
    ⟨(some 10), .mov (.t 0), some (8, true)⟩,
    ⟨(some 11), .lenS (.t 10), some (8, true)⟩,
    ⟨(some 12), .bin .sub (.t 11) (.c (.int .i64 1)), some (8, true)⟩,
    ⟨(some 13), .idxS (.t 9) (.t 12), some (8, true)⟩,
    ⟨(some 14), .mov (.t 1), some (8, true)⟩,
    ⟨(some 15), .bin .eql (.t 13) (.t 14), some (8, true)⟩,
    ⟨(some 16), .pick (.t 8) (.t 15) (.c (.bool false)), none⟩])
  (.cond (.t 16)
   (.skip)
   (.exit 0)))
  (.block 1 (.region false [⟨(some 17), .mov (.t 0), none⟩,
    ⟨(some 18), .mov (.t 0), none⟩,
    ⟨(some 19), .lenS (.t 18), none⟩,
    ⟨(some 20), .bin .sub (.t 19) (.c (.int .i64 1)), none⟩,
    ⟨(some 21), .ssl (.t 17) none (some (.t 20)), none⟩,
    ⟨(some 0), .mov (.t 21), none⟩]))
def A_strings_trimRightByte : AFun := ⟨23,
  .seq (.region false [⟨(some 4), .mov (.c (.str [])), none⟩])
  (.seq (.block 0 (.loop A_strings_trimRightByteL0))
  (.seq (.region false [⟨(some 22), .mov (.t 0), none⟩,
    ⟨(some 4), .mov (.t 22), none⟩])
  (.ret))),
  [.tmp 4]⟩

/- strings_makeASCIISet -/
def A_strings_makeASCIISetL0 : ACode :=
  .seq (.seq (.region false [⟨(some 6), .mov (.t 4), none⟩,
    ⟨(some 7), .mov (.t 0), none⟩,
    ⟨(some 8), .lenS (.t 7), none⟩,
    ⟨(some 9), .bin .lss (.t 6) (.t 8), none⟩])
  (.cond (.t 9)
   (.skip)
   (.exit 0)))
  (.seq (.block 1 (.seq (.region false [⟨(some 12), .mov (.t 0), none⟩,
    ⟨(some 13), .mov (.t 4), none⟩,
    ⟨(some 14), .idxS (.t 12) (.t 13), none⟩,
    ⟨(some 5), .mov (.t 14), none⟩])
  (.seq (.seq (.region false [⟨(some 15), .mov (.t 5), none⟩,
    ⟨(some 16), .bin .geq (.t 15) (.c (.int .u8 128)), none⟩])
  (.cond (.t 16)
   (.seq (.region false [⟨(some 17), .ld (some 256) (.t 2), none⟩,
     ⟨none, .st 256 (.t 2) (.t 17), none⟩,
     ⟨(some 3), .mov (.c (.bool false)), none⟩])
   (.ret))
   (.skip)))
  (.region false [⟨(some 18), .mov (.t 5), none⟩,
    ⟨(some 19), .idxP 256 1 (.t 2) (.t 18), none⟩,
    ⟨none, .st 1 (.t 19) (.c (.bool true)), none⟩]))))
  (.region false [⟨(some 10), .mov (.t 4), none⟩,
    ⟨(some 11), .bin .add (.t 10) (.c (.int .i64 1)), none⟩,
    ⟨(some 4), .mov (.t 11), none⟩]))
def A_strings_makeASCIISet : AFun := ⟨21,
  .seq (.region false [⟨(some 2), .alloc (List.replicate 256 (.bool false)), none⟩,
    ⟨(some 3), .mov (.c (.bool false)), none⟩])
  (.seq (.seq (.region false [⟨(some 4), .mov (.c (.int .i64 0)), none⟩])
  (.block 0 (.loop A_strings_makeASCIISetL0)))
  (.seq (.region false [⟨(some 20), .ld (some 256) (.t 2), none⟩,
    ⟨none, .st 256 (.t 2) (.t 20), none⟩,
    ⟨(some 3), .mov (.c (.bool true)), none⟩])
  (.ret))),
  [.cell (some 256) 2, .tmp 3]⟩

/- strings_trimLeftASCII -/
def A_strings_trimLeftASCIIL0 : ACode :=
  .seq (.seq (.region false [⟨(some 5), .mov (.t 0), none⟩,
    ⟨(some 6), .lenS (.t 5), none⟩,
    ⟨(some 7), .bin .gtr (.t 6) (.c (.int .i64 0)), none⟩])
  (.cond (.t 7)
   (.skip)
   (.exit 0)))
  (.block 1 (.seq (.seq (.region false [⟨(some 8), .mov (.t 1), none⟩,
    ⟨(some 9), .mov (.t 0), none⟩,
    ⟨(some 10), .idxS (.t 9) (.c (.int .i64 0)), none⟩,
    ⟨(some 11), .call F_strings_asciiSet_contains [(.t 8), (.t 10)], none⟩,
    ⟨(some 12), .not (.t 11), none⟩])
  (.cond (.t 12)
   (.exit 0)
   (.skip)))
  (.region false [⟨(some 13), .mov (.t 0), none⟩,
    ⟨(some 14), .ssl (.t 13) (some (.c (.int .i64 1))) none, none⟩,
    ⟨(some 0), .mov (.t 14), none⟩])))
def A_strings_trimLeftASCII : AFun := ⟨16,
  .seq (.region false [⟨(some 4), .mov (.c (.str [])), none⟩])
  (.seq (.block 0 (.loop A_strings_trimLeftASCIIL0))
  (.seq (.region false [⟨(some 15), .mov (.t 0), none⟩,
    ⟨(some 4), .mov (.t 15), none⟩])
  (.ret))),
  [.tmp 4]⟩

/- strings_trimRightASCII -/
def A_strings_trimRightASCIIL0 : ACode :=
  .seq (.seq (.region false [⟨(some 5), .mov (.t 0), none⟩,
    ⟨(some 6), .lenS (.t 5), none⟩,
    ⟨(some 7), .bin .gtr (.t 6) (.c (.int .i64 0)), none⟩])
  (.cond (.t 7)
   (.skip)
   (.exit 0)))
  (.block 1 (.seq (.seq (.region false [⟨(some 8), .mov (.t 1), none⟩,
    ⟨(some 9), .mov (.t 0), none⟩,
    ⟨(some 10), .mov (.t 0), none⟩,
    ⟨(some 11), .lenS (.t 10), none⟩,
    ⟨(some 12), .bin .sub (.t 11) (.c (.int .i64 1)), none⟩,
    ⟨(some 13), .idxS (.t 9) (.t 12), none⟩,
    ⟨(some 14), .call F_strings_asciiSet_contains [(.t 8), (.t 13)], none⟩,
    ⟨(some 15), .not (.t 14), none⟩])
  (.cond (.t 15)
   (.exit 0)
   (.skip)))
  (.region false [⟨(some 16), .mov (.t 0), none⟩,
    ⟨(some 17), .mov (.t 0), none⟩,
    ⟨(some 18), .lenS (.t 17), none⟩,
    ⟨(some 19), .bin .sub (.t 18) (.c (.int .i64 1)), none⟩,
    ⟨(some 20), .ssl (.t 16) none (some (.t 19)), none⟩,
    ⟨(some 0), .mov (.t 20), none⟩])))
def A_strings_trimRightASCII : AFun := ⟨22,
  .seq (.region false [⟨(some 4), .mov (.c (.str [])), none⟩])
  (.seq (.block 0 (.loop A_strings_trimRightASCIIL0))
  (.seq (.region false [⟨(some 21), .mov (.t 0), none⟩,
    ⟨(some 4), .mov (.t 21), none⟩])
  (.ret))),
  [.tmp 4]⟩

/- strings_trimLeftUnicode -/
def A_strings_trimLeftUnicodeL0 : ACode :=
  .seq (.seq (.region false [⟨(some 7), .mov (.t 0), none⟩,
    ⟨(some 8), .lenS (.t 7), none⟩,
    ⟨(some 9), .bin .gtr (.t 8) (.c (.int .i64 0)), none⟩])
  (.cond (.t 9)
   (.skip)
   (.exit 0)))
  (.block 1 (.seq (.region false [⟨(some 11), .mov (.t 0), none⟩,
    ⟨(some 12), .call F_utf8_DecodeRuneInString [(.t 11)], none⟩,
    ⟨(some 10), .mov (.t 12), none⟩,
    ⟨(some 13), .extr (.t 10) 0, none⟩,
    ⟨(some 14), .extr (.t 10) 1, none⟩,
    ⟨(some 5), .mov (.t 13), none⟩,
    ⟨(some 6), .mov (.t 14), none⟩])
  (.seq (.seq (.region false [⟨(some 15), .mov (.t 1), none⟩,
    ⟨(some 16), .mov (.t 5), none⟩,
    ⟨(some 17), .call F_strings_ContainsRune [(.t 15), (.t 16)], none⟩,
    ⟨(some 18), .not (.t 17), none⟩])
  (.cond (.t 18)
   (.exit 0)
   (.skip)))
  (.region false [⟨(some 19), .mov (.t 0), none⟩,
    ⟨(some 20), .mov (.t 6), none⟩,
    ⟨(some 21), .ssl (.t 19) (some (.t 20)) none, none⟩,
    ⟨(some 0), .mov (.t 21), none⟩]))))
def A_strings_trimLeftUnicode : AFun := ⟨23,
  .seq (.region false [⟨(some 4), .mov (.c (.str [])), none⟩])
  (.seq (.block 0 (.loop A_strings_trimLeftUnicodeL0))
  (.seq (.region false [⟨(some 22), .mov (.t 0), none⟩,
    ⟨(some 4), .mov (.t 22), none⟩])
  (.ret))),
  [.tmp 4]⟩

/- strings_trimRightUnicode -/
def A_strings_trimRightUnicodeL0 : ACode :=
  .seq (.seq (.region false [⟨(some 7), .mov (.t 0), none⟩,
    ⟨(some 8), .lenS (.t 7), none⟩,
    ⟨(some 9), .bin .gtr (.t 8) (.c (.int .i64 0)), none⟩])
  (.cond (.t 9)
   (.skip)
   (.exit 0)))
  (.block 1 (.seq (.region false [⟨(some 10), .mov (.t 0), none⟩,
    ⟨(some 11), .mov (.t 0), none⟩,
    ⟨(some 12), .lenS (.t 11), none⟩,
    ⟨(some 13), .bin .sub (.t 12) (.c (.int .i64 1)), none⟩,
    ⟨(some 14), .idxS (.t 10) (.t 13), none⟩,
    ⟨(some 15), .conv .i32 (.t 14), none⟩,
    ⟨(some 5), .mov (.t 15), none⟩,
    ⟨(some 6), .mov (.c (.int .i64 1)), none⟩])
  (.seq (.seq (.region false [⟨(some 16), .mov (.t 5), none⟩,
    ⟨(some 17), .bin .geq (.t 16) (.c (.int .i32 128)), none⟩])
  (.cond (.t 17)
   (.region false [⟨(some 19), .mov (.t 0), none⟩,
     ⟨(some 20), .call F_utf8_DecodeLastRuneInString [(.t 19)], none⟩,
     ⟨(some 18), .mov (.t 20), none⟩,
     ⟨(some 21), .extr (.t 18) 0, none⟩,
     ⟨(some 22), .extr (.t 18) 1, none⟩,
     ⟨(some 5), .mov (.t 21), none⟩,
     ⟨(some 6), .mov (.t 22), none⟩])
   (.skip)))
  (.seq (.seq (.region false [⟨(some 23), .mov (.t 1), none⟩,
    ⟨(some 24), .mov (.t 5), none⟩,
    ⟨(some 25), .call F_strings_ContainsRune [(.t 23), (.t 24)], none⟩,
    ⟨(some 26), .not (.t 25), none⟩])
  (.cond (.t 26)
   (.exit 0)
   (.skip)))
  (.region false [⟨(some 27), .mov (.t 0), none⟩,
    ⟨(some 28), .mov (.t 0), none⟩,
    ⟨(some 29), .lenS (.t 28), none⟩,
    ⟨(some 30), .mov (.t 6), none⟩,
    ⟨(some 31), .bin .sub (.t 29) (.t 30), none⟩,
    ⟨(some 32), .ssl (.t 27) none (some (.t 31)), none⟩,
    ⟨(some 0), .mov (.t 32), none⟩])))))
def A_strings_trimRightUnicode : AFun := ⟨34,
  .seq (.region false [⟨(some 4), .mov (.c (.str [])), none⟩])
  (.seq (.block 0 (.loop A_strings_trimRightUnicodeL0))
  (.seq (.region false [⟨(some 33), .mov (.t 0), none⟩,
    ⟨(some 4), .mov (.t 33), none⟩])
  (.ret))),
  [.tmp 4]⟩

/- utf8_decodeRuneInStringSlow -/
def A_utf8_decodeRuneInStringSlow : AFun := ⟨117,
  .seq (.region false [⟨(some 2), .mov (.c (.int .i32 0)), none⟩,
    ⟨(some 3), .mov (.c (.int .i64 0)), none⟩])
  (.seq (.region false [⟨(some 13), .mov (.t 0), none⟩,
    ⟨(some 14), .lenS (.t 13), none⟩,
    ⟨(some 4), .mov (.t 14), none⟩])
  (.seq (.seq (.region false [⟨(some 15), .mov (.t 4), none⟩,
    ⟨(some 16), .bin .lss (.t 15) (.c (.int .i64 1)), none⟩])
  (.cond (.t 16)
   (.seq (.region false [⟨(some 2), .mov (.c (.int .i32 65533)), none⟩,
     ⟨(some 3), .mov (.c (.int .i64 0)), none⟩])
   (.ret))
   (.skip)))
  (.seq (.region false [⟨(some 17), .mov (.t 0), none⟩,
    ⟨(some 18), .idxS (.t 17) (.c (.int .i64 0)), none⟩,
    ⟨(some 5), .mov (.t 18), none⟩])
  (.seq (.region false [⟨(some 19), .mov (.t 5), none⟩,
    ⟨(some 20), .idxP 256 1 (.gl 1) (.t 19), none⟩,
    ⟨(some 21), .ld none (.t 20), none⟩,
    ⟨(some 6), .mov (.t 21), none⟩])
  (.seq (.seq (.region false [⟨(some 22), .mov (.t 6), none⟩,
    ⟨(some 23), .bin .geq (.t 22) (.c (.int .u8 240)), none⟩])
  (.cond (.t 23)
   (.seq (.region false [⟨(some 24), .mov (.t 6), none⟩,
     ⟨(some 25), .conv .i32 (.t 24), none⟩,
     ⟨(some 26), .bin .shl (.t 25) (.c (.int .u64 31)), none⟩,
     ⟨(some 27), .bin .shr (.t 26) (.c (.int .u64 31)), none⟩,
     ⟨(some 7), .mov (.t 27), none⟩])
   (.seq (.region false [⟨(some 28), .mov (.t 0), none⟩,
     ⟨(some 29), .idxS (.t 28) (.c (.int .i64 0)), none⟩,
     ⟨(some 30), .conv .i32 (.t 29), none⟩,
     ⟨(some 31), .mov (.t 7), none⟩,
     ⟨(some 32), .bin .andNot (.t 30) (.t 31), none⟩,
     ⟨(some 33), .mov (.t 7), none⟩,
     ⟨(some 34), .bin .and (.c (.int .i32 65533)) (.t 33), none⟩,
     ⟨(some 35), .bin .or (.t 32) (.t 34), none⟩,
     ⟨(some 2), .mov (.t 35), none⟩,
     ⟨(some 3), .mov (.c (.int .i64 1)), none⟩])
   (.ret)))
   (.skip)))
  (.seq (.region false [⟨(some 36), .mov (.t 6), none⟩,
    ⟨(some 37), .bin .and (.t 36) (.c (.int .u8 7)), none⟩,
    ⟨(some 38), .conv .i64 (.t 37), none⟩,
    ⟨(some 8), .mov (.t 38), none⟩])
  (.seq (.region false [⟨(some 39), .mov (.t 6), none⟩,
    ⟨(some 40), .bin .shr (.t 39) (.c (.int .u64 4)), none⟩,
    ⟨(some 41), .idxP 16 2 (.gl 2) (.t 40), none⟩,
    ⟨(some 42), .ld (some 2) (.t 41), none⟩,
    ⟨(some 9), .alloc [.int .u8 0, .int .u8 0], none⟩,
    ⟨none, .st 2 (.t 9) (.t 42), none⟩])
  (.seq (.seq (.region false [⟨(some 43), .mov (.t 4), none⟩,
    ⟨(some 44), .mov (.t 8), none⟩,
    ⟨(some 45), .bin .lss (.t 43) (.t 44), none⟩])
  (.cond (.t 45)
   (.seq (.region false [⟨(some 2), .mov (.c (.int .i32 65533)), none⟩,
     ⟨(some 3), .mov (.c (.int .i64 1)), none⟩])
   (.ret))
   (.skip)))
  (.seq (.region false [⟨(some 46), .mov (.t 0), none⟩,
    ⟨(some 47), .idxS (.t 46) (.c (.int .i64 1)), none⟩,
    ⟨(some 10), .mov (.t 47), none⟩])
  (.seq (.seq (.region false [⟨(some 48), .mov (.t 10), none⟩,
    ⟨(some 49), .fldA 0 (.t 9), none⟩,
    ⟨(some 50), .ld none (.t 49), none⟩,
    ⟨(some 51), .bin .lss (.t 48) (.t 50), none⟩,
    ⟨(some 52), .mov (.t 51), none⟩,
    ⟨(some 53), .fldA 1 (.t 9), some (52, false)⟩,
    ⟨(some 54), .ld none (.t 53), some (52, false)⟩,
    ⟨(some 55), .mov (.t 10), some (52, false)⟩,
    ⟨(some 56), .bin .lss (.t 54) (.t 55), some (52, false)⟩,
    ⟨(some 57), .pick (.t 52) (.c (.bool true)) (.t 56), none⟩])
  (.cond (.t 57)
   (.seq (.region false [⟨(some 2), .mov (.c (.int .i32 65533)), none⟩,
     ⟨(some 3), .mov (.c (.int .i64 1)), none⟩])
   (.ret))
   (.skip)))
  (.seq (.seq (.region false [⟨(some 58), .mov (.t 8), none⟩,
    ⟨(some 59), .bin .leq (.t 58) (.c (.int .i64 2)), none⟩])
  (.cond (.t 59)
   (.seq (.region false [⟨(some 60), .mov (.t 5), none⟩,
     ⟨(some 61), .bin .and (.t 60) (.c (.int .u8 31)), none⟩,
     ⟨(some 62), .conv .i32 (.t 61), none⟩,
     ⟨(some 63), .bin .shl (.t 62) (.c (.int .u64 6)), none⟩,
     ⟨(some 64), .mov (.t 10), none⟩,
     ⟨(some 65), .bin .and (.t 64) (.c (.int .u8 63)), none⟩,
     ⟨(some 66), .conv .i32 (.t 65), none⟩,
     ⟨(some 67), .bin .or (.t 63) (.t 66), none⟩,
     ⟨(some 2), .mov (.t 67), none⟩,
     ⟨(some 3), .mov (.c (.int .i64 2)), none⟩])
   (.ret))
   (.skip)))
  (.seq (.region false [⟨(some 68), .mov (.t 0), none⟩,
    ⟨(some 69), .idxS (.t 68) (.c (.int .i64 2)), none⟩,
    ⟨(some 11), .mov (.t 69), none⟩])
  (.seq (.seq (.region false [⟨(some 70), .mov (.t 11), none⟩,
    ⟨(some 71), .bin .lss (.t 70) (.c (.int .u8 128)), none⟩,
    ⟨(some 72), .mov (.t 71), none⟩,
    ⟨(some 73), .mov (.t 11), some (72, false)⟩,
    ⟨(some 74), .bin .lss (.c (.int .u8 191)) (.t 73), some (72, false)⟩,
    ⟨(some 75), .pick (.t 72) (.c (.bool true)) (.t 74), none⟩])
  (.cond (.t 75)
   (.seq (.region false [⟨(some 2), .mov (.c (.int .i32 65533)), none⟩,
     ⟨(some 3), .mov (.c (.int .i64 1)), none⟩])
   (.ret))
   (.skip)))
  (.seq (.seq (.region false [⟨(some 76), .mov (.t 8), none⟩,
    ⟨(some 77), .bin .leq (.t 76) (.c (.int .i64 3)), none⟩])
  (.cond (.t 77)
   (.seq (.region false [⟨(some 78), .mov (.t 5), none⟩,
     ⟨(some 79), .bin .and (.t 78) (.c (.int .u8 15)), none⟩,
     ⟨(some 80), .conv .i32 (.t 79), none⟩,
     ⟨(some 81), .bin .shl (.t 80) (.c (.int .u64 12)), none⟩,
     ⟨(some 82), .mov (.t 10), none⟩,
     ⟨(some 83), .bin .and (.t 82) (.c (.int .u8 63)), none⟩,
     ⟨(some 84), .conv .i32 (.t 83), none⟩,
     ⟨(some 85), .bin .shl (.t 84) (.c (.int .u64 6)), none⟩,
     ⟨(some 86), .bin .or (.t 81) (.t 85), none⟩,
     ⟨(some 87), .mov (.t 11), none⟩,
     ⟨(some 88), .bin .and (.t 87) (.c (.int .u8 63)), none⟩,
     ⟨(some 89), .conv .i32 (.t 88), none⟩,
     ⟨(some 90), .bin .or (.t 86) (.t 89), none⟩,
     ⟨(some 2), .mov (.t 90), none⟩,
     ⟨(some 3), .mov (.c (.int .i64 3)), none⟩])
   (.ret))
   (.skip)))
  (.seq (.region false [⟨(some 91), .mov (.t 0), none⟩,
    ⟨(some 92), .idxS (.t 91) (.c (.int .i64 3)), none⟩,
    ⟨(some 12), .mov (.t 92), none⟩])
  (.seq (.seq (.region false [⟨(some 93), .mov (.t 12), none⟩,
    ⟨(some 94), .bin .lss (.t 93) (.c (.int .u8 128)), none⟩,
    ⟨(some 95), .mov (.t 94), none⟩,
    ⟨(some 96), .mov (.t 12), some (95, false)⟩,
    ⟨(some 97), .bin .lss (.c (.int .u8 191)) (.t 96), some (95, false)⟩,
    ⟨(some 98), .pick (.t 95) (.c (.bool true)) (.t 97), none⟩])
  (.cond (.t 98)
   (.seq (.region false [⟨(some 2), .mov (.c (.int .i32 65533)), none⟩,
     ⟨(some 3), .mov (.c (.int .i64 1)), none⟩])
   (.ret))
   (.skip)))
  (.seq (.region false [⟨(some 99), .mov (.t 5), none⟩,
    ⟨(some 100), .bin .and (.t 99) (.c (.int .u8 7)), none⟩,
    ⟨(some 101), .conv .i32 (.t 100), none⟩,
    ⟨(some 102), .bin .shl (.t 101) (.c (.int .u64 18)), none⟩,
    ⟨(some 103), .mov (.t 10), none⟩,
    ⟨(some 104), .bin .and (.t 103) (.c (.int .u8 63)), none⟩,
    ⟨(some 105), .conv .i32 (.t 104), none⟩,
    ⟨(some 106), .bin .shl (.t 105) (.c (.int .u64 12)), none⟩,
    ⟨(some 107), .bin .or (.t 102) (.t 106), none⟩,
    ⟨(some 108), .mov (.t 11), none⟩,
    ⟨(some 109), .bin .and (.t 108) (.c (.int .u8 63)), none⟩,
    ⟨(some 110), .conv .i32 (.t 109), none⟩,
    ⟨(some 111), .bin .shl (.t 110) (.c (.int .u64 6)), none⟩,
    ⟨(some 112), .bin .or (.t 107) (.t 111), none⟩,
    ⟨(some 113), .mov (.t 12), none⟩,
    ⟨(some 114), .bin .and (.t 113) (.c (.int .u8 63)), none⟩,
    ⟨(some 115), .conv .i32 (.t 114), none⟩,
    ⟨(some 116), .bin .or (.t 112) (.t 115), none⟩,
    ⟨(some 2), .mov (.t 116), none⟩,
    ⟨(some 3), .mov (.c (.int .i64 4)), none⟩])
  (.ret)))))))))))))))))),
  [.tmp 2, .tmp 3]⟩

/- bytealg_Cutover -/
def A_bytealg_Cutover : AFun := ⟨6,
  .seq (.region false [⟨(some 2), .mov (.c (.int .i64 0)), none⟩])
  (.seq (.region false [⟨(some 3), .mov (.t 0), none⟩,
    ⟨(some 4), .bin .add (.t 3) (.c (.int .i64 16)), none⟩,
    ⟨(some 5), .bin .quo (.t 4) (.c (.int .i64 8)), none⟩,
    ⟨(some 2), .mov (.t 5), none⟩])
  (.ret)),
  [.tmp 2]⟩

/- strings_asciiSet_contains -/
def A_strings_asciiSet_contains : AFun := ⟨10,
  .seq (.region false [⟨(some 4), .mov (.c (.bool false)), none⟩])
  (.seq (.region false [⟨(some 5), .mov (.t 0), none⟩,
    ⟨(some 6), .mov (.t 1), none⟩,
    ⟨(some 7), .nck (.t 5), none⟩,
    ⟨(some 8), .idxP 256 1 (.t 7) (.t 6), none⟩,
    ⟨(some 9), .ld none (.t 8), none⟩,
    ⟨(some 4), .mov (.t 9), none⟩])
  (.ret)),
  [.tmp 4]⟩

/- strings_ContainsRune -/
def A_strings_ContainsRune : AFun := ⟨9,
  .seq (.region false [⟨(some 4), .mov (.c (.bool false)), none⟩])
  (.seq (.region false [⟨(some 5), .mov (.t 0), none⟩,
    ⟨(some 6), .mov (.t 1), none⟩,
    ⟨(some 7), .call F_strings_IndexRune [(.t 5), (.t 6)], none⟩,
    ⟨(some 8), .bin .geq (.t 7) (.c (.int .i64 0)), none⟩,
    ⟨(some 4), .mov (.t 8), none⟩])
  (.ret)),
  [.tmp 4]⟩

/- utf8_DecodeLastRuneInString -/
def A_utf8_DecodeLastRuneInStringL0 : ACode :=
  .seq (.seq (.region false [⟨(some 25), .mov (.t 5), none⟩,
    ⟨(some 26), .mov (.t 6), none⟩,
    ⟨(some 27), .bin .geq (.t 25) (.t 26), none⟩])
  (.cond (.t 27)
   (.skip)
   (.exit 0)))
  (.seq (.block 1 (.seq (.region false [⟨(some 30), .mov (.t 0), none⟩,
    ⟨(some 31), .mov (.t 5), none⟩,
    ⟨(some 32), .idxS (.t 30) (.t 31), none⟩,
    ⟨(some 33), .call F_utf8_RuneStart [(.t 32)], none⟩])
  (.cond (.t 33)
   (.exit 0)
   (.skip))))
  (.region false [⟨(some 28), .mov (.t 5), none⟩,
    ⟨(some 29), .bin .sub (.t 28) (.c (.int .i64 1)), none⟩,
    ⟨(some 5), .mov (.t 29), none⟩]))
def A_utf8_DecodeLastRuneInString : AFun := ⟨51,
  .seq (.region false [⟨(some 2), .mov (.c (.int .i32 0)), none⟩,
    ⟨(some 3), .mov (.c (.int .i64 0)), none⟩])
  (.seq (.region false [⟨(some 7), .mov (.t 0), none⟩,
    ⟨(some 8), .lenS (.t 7), none⟩,
    ⟨(some 4), .mov (.t 8), none⟩])
  (.seq (.seq (.region false [⟨(some 9), .mov (.t 4), none⟩,
    ⟨(some 10), .bin .eql (.t 9) (.c (.int .i64 0)), none⟩])
  (.cond (.t 10)
   (.seq (.region false [⟨(some 2), .mov (.c (.int .i32 65533)), none⟩,
     ⟨(some 3), .mov (.c (.int .i64 0)), none⟩])
   (.ret))
   (.skip)))
  (.seq (.region false [⟨(some 11), .mov (.t 4), none⟩,
    ⟨(some 12), .bin .sub (.t 11) (.c (.int .i64 1)), none⟩,
    ⟨(some 5), .mov (.t 12), none⟩])
  (.seq (.region false [⟨(some 13), .mov (.t 0), none⟩,
    ⟨(some 14), .mov (.t 5), none⟩,
    ⟨(some 15), .idxS (.t 13) (.t 14), none⟩,
    ⟨(some 16), .conv .i32 (.t 15), none⟩,
    ⟨(some 2), .mov (.t 16), none⟩])
  (.seq (.seq (.region false [⟨(some 17), .mov (.t 2), none⟩,
    ⟨(some 18), .bin .lss (.t 17) (.c (.int .i32 128)), none⟩])
  (.cond (.t 18)
   (.seq (.region false [⟨(some 19), .mov (.t 2), none⟩,
     ⟨(some 2), .mov (.t 19), none⟩,
     ⟨(some 3), .mov (.c (.int .i64 1)), none⟩])
   (.ret))
   (.skip)))
  (.seq (.region false [⟨(some 20), .mov (.t 4), none⟩,
    ⟨(some 21), .bin .sub (.t 20) (.c (.int .i64 4)), none⟩,
    ⟨(some 22), .mm true (.t 21) (.c (.int .i64 0)), none⟩,
    ⟨(some 6), .mov (.t 22), none⟩])
  (.seq (.seq (.region false [⟨(some 23), .mov (.t 5), none⟩,
    ⟨(some 24), .bin .sub (.t 23) (.c (.int .i64 1)), none⟩,
    ⟨(some 5), .mov (.t 24), none⟩])
  (.block 0 (.loop A_utf8_DecodeLastRuneInStringL0)))
  (.seq (.seq (.region false [⟨(some 34), .mov (.t 5), none⟩,
    ⟨(some 35), .bin .lss (.t 34) (.c (.int .i64 0)), none⟩])
  (.cond (.t 35)
   (.region false [⟨(some 5), .mov (.c (.int .i64 0)), none⟩])
   (.skip)))
  (.seq (.region false [⟨(some 37), .mov (.t 0), none⟩,
    ⟨(some 38), .mov (.t 5), none⟩,
    ⟨(some 39), .mov (.t 4), none⟩,
    ⟨(some 40), .ssl (.t 37) (some (.t 38)) (some (.t 39)), none⟩,
    ⟨(some 41), .call F_utf8_DecodeRuneInString [(.t 40)], none⟩,
    ⟨(some 36), .mov (.t 41), none⟩,
    ⟨(some 42), .extr (.t 36) 0, none⟩,
    ⟨(some 43), .extr (.t 36) 1, none⟩,
    ⟨(some 2), .mov (.t 42), none⟩,
    ⟨(some 3), .mov (.t 43), none⟩])
  (.seq (.seq (.region false [⟨(some 44), .mov (.t 5), none⟩,
    ⟨(some 45), .mov (.t 3), none⟩,
    ⟨(some 46), .bin .add (.t 44) (.t 45), none⟩,
    ⟨(some 47), .mov (.t 4), none⟩,
    ⟨(some 48), .bin .neq (.t 46) (.t 47), none⟩])
  (.cond (.t 48)
   (.seq (.region false [⟨(some 2), .mov (.c (.int .i32 65533)), none⟩,
     ⟨(some 3), .mov (.c (.int .i64 1)), none⟩])
   (.ret))
   (.skip)))
  (.seq (.region false [⟨(some 49), .mov (.t 2), none⟩,
    ⟨(some 50), .mov (.t 3), none⟩,
    ⟨(some 2), .mov (.t 49), none⟩,
    ⟨(some 3), .mov (.t 50), none⟩])
  (.ret)))))))))))),
  [.tmp 2, .tmp 3]⟩

/- strings_IndexRune -/
def A_strings_IndexRuneL0 : ACode :=
  .seq (.region false [⟨(some 176), .nxt (.t 175), none⟩,
    ⟨(some 177), .extr (.t 176) 0, none⟩])
  (.seq (.cond (.t 177)
   (.skip)
   (.exit 9))
  (.block 10 (.seq (.region false [⟨(some 178), .extr (.t 176) 1, none⟩,
    ⟨(some 179), .extr (.t 176) 2, none⟩,
    ⟨(some 5), .mov (.t 178), none⟩,
    ⟨(some 6), .mov (.t 179), none⟩])
  (.seq (.region false [⟨(some 180), .mov (.t 6), none⟩,
    ⟨(some 181), .bin .eql (.t 180) (.c (.int .i32 65533)), none⟩])
  (.cond (.t 181)
   (.seq (.region false [⟨(some 182), .mov (.t 5), none⟩,
     ⟨(some 4), .mov (.t 182), none⟩])
   (.ret))
   (.skip))))))
def A_strings_IndexRuneL4 : ACode :=
  .seq (.seq (.region false [⟨(some 48), .mov (.t 12), none⟩,
    ⟨(some 49), .mov (.t 7), none⟩,
    ⟨(some 50), .lenS (.t 49), none⟩,
    ⟨(some 51), .bin .lss (.t 48) (.t 50), none⟩])
  (.cond (.t 51)
   (.skip)
   (.exit 3)))
  (.seq (.block 4 (.seq (.region true [⟨(some 54), .mov (.t 0), none⟩,
    ⟨(some 55), .mov (.t 9), none⟩,
    ⟨(some 56), .mov (.t 12), none⟩,
    ⟨(some 57), .bin .sub (.t 55) (.t 56), none⟩,
    ⟨(some 58), .idxS (.t 54) (.t 57), none⟩,
    ⟨(some 59), .mov (.t 7), none⟩,
    ⟨(some 60), .mov (.t 8), none⟩,
    ⟨(some 61), .mov (.t 12), none⟩,
    ⟨(some 62), .bin .sub (.t 60) (.t 61), none⟩,
    ⟨(some 63), .idxS (.t 59) (.t 62), none⟩,
    ⟨(some 64), .bin .neq (.t 58) (.t 63), none⟩])
  (.cond (.t 64)
   (.goto 0)
   (.skip))))
  (.region false [⟨(some 52), .mov (.t 12), none⟩,
    ⟨(some 53), .bin .add (.t 52) (.c (.int .i64 1)), none⟩,
    ⟨(some 12), .mov (.t 53), none⟩]))
def A_strings_IndexRuneJ3 : ACode :=
  .seq (.seq (.region true [⟨(some 27), .mov (.t 0), none⟩,
    ⟨(some 28), .mov (.t 9), none⟩,
    ⟨(some 29), .idxS (.t 27) (.t 28), none⟩,
    ⟨(some 30), .mov (.t 7), none⟩,
    ⟨(some 31), .mov (.t 8), none⟩,
    ⟨(some 32), .idxS (.t 30) (.t 31), none⟩,
    ⟨(some 33), .bin .neq (.t 29) (.t 32), none⟩])
  (.cond (.t 33)
   (.seq (.region true [⟨(some 34), .mov (.t 0), none⟩,
     ⟨(some 35), .mov (.t 9), none⟩,
     ⟨(some 36), .bin .add (.t 35) (.c (.int .i64 1)), none⟩,
     ⟨(some 37), .ssl (.t 34) (some (.t 36)) none, none⟩,
     ⟨(some 38), .mov (.t 7), none⟩,
     ⟨(some 39), .mov (.t 8), none⟩,
     ⟨(some 40), .idxS (.t 38) (.t 39), none⟩,
     ⟨(some 41), .call F_strings_IndexByte [(.t 37), (.t 40)], none⟩,
     ⟨(some 11), .mov (.t 41), none⟩])
   (.seq (.seq (.region false [⟨(some 42), .mov (.t 11), none⟩,
     ⟨(some 43), .bin .lss (.t 42) (.c (.int .i64 0)), none⟩])
   (.cond (.t 43)
    (.seq (.region false [⟨(some 4), .mov (.c (.int .i64 (-1))), none⟩])
    (.ret))
    (.skip)))
   (.region false [⟨(some 44), .mov (.t 9), none⟩,
     ⟨(some 45), .mov (.t 11), none⟩,
     ⟨(some 46), .bin .add (.t 45) (.c (.int .i64 1)), none⟩,
     ⟨(some 47), .bin .add (.t 44) (.t 46), none⟩,
     ⟨(some 9), .mov (.t 47), none⟩])))
   (.skip)))
  (.seq (.seq (.region false [⟨(some 12), .mov (.c (.int .i64 1)), none⟩])
  (.block 3 (.loop A_strings_IndexRuneL4)))
  (.seq (.seq (.region false [⟨(some 65), .mov (.t 9), none⟩,
    ⟨(some 66), .mov (.t 8), none⟩,
    ⟨(some 67), .bin .sub (.t 65) (.t 66), none⟩,
    ⟨(some 4), .mov (.t 67), none⟩])
  (.ret))
  (.seq (.label 0)
  (.seq (.region false [⟨(some 68), .mov (.t 10), none⟩,
    ⟨(some 69), .bin .add (.t 68) (.c (.int .i64 1)), none⟩,
    ⟨(some 10), .mov (.t 69), none⟩])
  (.seq (.region false [⟨(some 70), .mov (.t 9), none⟩,
    ⟨(some 71), .bin .add (.t 70) (.c (.int .i64 1)), none⟩,
    ⟨(some 9), .mov (.t 71), none⟩])
  (.seq (.region false [⟨(some 72), .mov (.c (.bool true)), none⟩,
    ⟨(some 73), .mov (.t 10), some (72, true)⟩,
    ⟨(some 74), .mov (.t 9), some (72, true)⟩,
    ⟨(some 75), .call F_bytealg_Cutover [(.t 74)], some (72, true)⟩,
    ⟨(some 76), .bin .gtr (.t 73) (.t 75), some (72, true)⟩,
    ⟨(some 77), .pick (.t 72) (.t 76) (.c (.bool false)), none⟩,
    ⟨(some 78), .mov (.t 77), none⟩,
    ⟨(some 79), .mov (.t 9), some (78, true)⟩,
    ⟨(some 80), .mov (.t 0), some (78, true)⟩,
    ⟨(some 81), .lenS (.t 80), some (78, true)⟩,
    ⟨(some 82), .bin .lss (.t 79) (.t 81), some (78, true)⟩,
    ⟨(some 83), .pick (.t 78) (.t 82) (.c (.bool false)), none⟩,
    ⟨(some 84), .mov (.t 83), none⟩,
    ⟨(some 85), .mov (.c (.bool false)), some (84, false)⟩,
    ⟨(some 86), .mov (.t 10), some (85, true)⟩,
    ⟨(some 87), .mov (.t 9), some (85, true)⟩,
    ⟨(some 88), .bin .shr (.t 87) (.c (.int .u64 4)), some (85, true)⟩,
    ⟨(some 89), .bin .add (.c (.int .i64 4)) (.t 88), some (85, true)⟩,
    ⟨(some 90), .bin .geq (.t 86) (.t 89), some (85, true)⟩,
    ⟨(some 91), .pick (.t 85) (.t 90) (.c (.bool false)), some (84, false)⟩,
    ⟨(some 92), .mov (.t 91), some (84, false)⟩,
    ⟨(some 93), .mov (.t 9), some (92, true)⟩,
    ⟨(some 94), .mov (.t 0), some (92, true)⟩,
    ⟨(some 95), .lenS (.t 94), some (92, true)⟩,
    ⟨(some 96), .bin .lss (.t 93) (.t 95), some (92, true)⟩,
    ⟨(some 97), .pick (.t 92) (.t 96) (.c (.bool false)), some (84, false)⟩,
    ⟨(some 98), .pick (.t 84) (.c (.bool true)) (.t 97), none⟩])
  (.cond (.t 98)
   (.goto 1)
   (.skip))))))))
def A_strings_IndexRuneL2 : ACode :=
  .seq (.seq (.region false [⟨(some 23), .mov (.t 9), none⟩,
    ⟨(some 24), .mov (.t 0), none⟩,
    ⟨(some 25), .lenS (.t 24), none⟩,
    ⟨(some 26), .bin .lss (.t 23) (.t 25), none⟩])
  (.cond (.t 26)
   (.skip)
   (.exit 1)))
  (.block 2 (.scopeJ A_strings_IndexRuneJ3))
def A_strings_IndexRuneL6 : ACode :=
  .seq (.seq (.region false [⟨(some 140), .mov (.t 16), none⟩,
    ⟨(some 141), .mov (.t 7), none⟩,
    ⟨(some 142), .lenS (.t 141), none⟩,
    ⟨(some 143), .bin .lss (.t 140) (.t 142), none⟩])
  (.cond (.t 143)
   (.skip)
   (.exit 7)))
  (.seq (.block 8 (.seq (.region true [⟨(some 146), .mov (.t 0), none⟩,
    ⟨(some 147), .mov (.t 9), none⟩,
    ⟨(some 148), .mov (.t 16), none⟩,
    ⟨(some 149), .bin .sub (.t 147) (.t 148), none⟩,
    ⟨(some 150), .idxS (.t 146) (.t 149), none⟩,
    ⟨(some 151), .mov (.t 7), none⟩,
    ⟨(some 152), .mov (.t 8), none⟩,
    ⟨(some 153), .mov (.t 16), none⟩,
    ⟨(some 154), .bin .sub (.t 152) (.t 153), none⟩,
    ⟨(some 155), .idxS (.t 151) (.t 154), none⟩,
    ⟨(some 156), .bin .neq (.t 150) (.t 155), none⟩])
  (.cond (.t 156)
   (.exit 6)
   (.skip))))
  (.region false [⟨(some 144), .mov (.t 16), none⟩,
    ⟨(some 145), .bin .add (.t 144) (.c (.int .i64 1)), none⟩,
    ⟨(some 16), .mov (.t 145), none⟩]))
def A_strings_IndexRuneL5 : ACode :=
  .seq (.seq (.region false [⟨(some 121), .mov (.t 9), none⟩,
    ⟨(some 122), .mov (.t 0), none⟩,
    ⟨(some 123), .lenS (.t 122), none⟩,
    ⟨(some 124), .bin .lss (.t 121) (.t 123), none⟩])
  (.cond (.t 124)
   (.skip)
   (.exit 5)))
  (.seq (.block 6 (.seq (.region false [⟨(some 127), .mov (.t 0), none⟩,
    ⟨(some 128), .mov (.t 9), none⟩,
    ⟨(some 129), .idxS (.t 127) (.t 128), none⟩,
    ⟨(some 130), .mov (.t 14), none⟩,
    ⟨(some 131), .bin .eql (.t 129) (.t 130), none⟩,
    ⟨(some 132), .mov (.t 131), none⟩,
    ⟨(some 133), .mov (.t 0), some (132, true)⟩,
    ⟨(some 134), .mov (.t 9), some (132, true)⟩,
    ⟨(some 135), .bin .sub (.t 134) (.c (.int .i64 1)), some (132, true)⟩,
    ⟨(some 136), .idxS (.t 133) (.t 135), some (132, true)⟩,
    ⟨(some 137), .mov (.t 15), some (132, true)⟩,
    ⟨(some 138), .bin .eql (.t 136) (.t 137), some (132, true)⟩,
    ⟨(some 139), .pick (.t 132) (.t 138) (.c (.bool false)), none⟩])
  (.cond (.t 139)
   (.seq (.seq (.region false [⟨(some 16), .mov (.c (.int .i64 2)), none⟩])
   (.block 7 (.loop A_strings_IndexRuneL6)))
   (.seq (.region false [⟨(some 157), .mov (.t 9), none⟩,
     ⟨(some 158), .mov (.t 8), none⟩,
     ⟨(some 159), .bin .sub (.t 157) (.t 158), none⟩,
     ⟨(some 4), .mov (.t 159), none⟩])
   (.ret)))
   (.skip))))
  (.region false [⟨(some 125), .mov (.t 9), none⟩,
    ⟨(some 126), .bin .add (.t 125) (.c (.int .i64 1)), none⟩,
    ⟨(some 9), .mov (.t 126), none⟩]))
def A_strings_IndexRuneJ1 : ACode :=
  .seq (.region false [⟨(some 17), .mov (.t 1), none⟩,
    ⟨(some 18), .r2s (.t 17), none⟩,
    ⟨(some 7), .mov (.t 18), none⟩])
  (.seq (.region false [⟨(some 19), .mov (.t 7), none⟩,
    ⟨(some 20), .lenS (.t 19), none⟩,
    ⟨(some 21), .bin .sub (.t 20) (.c (.int .i64 1)), none⟩,
    ⟨(some 8), .mov (.t 21), none⟩])
  (.seq (.region false [⟨(some 22), .mov (.t 8), none⟩,
    ⟨(some 9), .mov (.t 22), none⟩])
  (.seq (.region false [⟨(some 10), .mov (.c (.int .i64 0)), none⟩])
  (.seq (.block 1 (.loop A_strings_IndexRuneL2))
  (.seq (.seq (.region false [⟨(some 4), .mov (.c (.int .i64 (-1))), none⟩])
  (.ret))
  (.seq (.label 1)
  (.seq (.cond (.c (.bool true))
   (.seq (.bad)
   (.seq (.region false [⟨(some 107), .mov (.t 13), none⟩,
     ⟨(some 108), .bin .geq (.t 107) (.c (.int .i64 0)), none⟩])
   (.cond (.t 108)
    (.seq (.region false [⟨(some 109), .mov (.t 9), none⟩,
      ⟨(some 110), .mov (.t 13), none⟩,
      ⟨(some 111), .bin .add (.t 109) (.t 110), none⟩,
      ⟨(some 112), .mov (.t 8), none⟩,
      ⟨(some 113), .bin .sub (.t 111) (.t 112), none⟩,
      ⟨(some 4), .mov (.t 113), none⟩])
    (.ret))
    (.skip))))
   (.scope (.seq (.region false [⟨(some 114), .mov (.t 7), none⟩,
      ⟨(some 115), .mov (.t 8), none⟩,
      ⟨(some 116), .idxS (.t 114) (.t 115), none⟩,
      ⟨(some 14), .mov (.t 116), none⟩])
    (.seq (.region false [⟨(some 117), .mov (.t 7), none⟩,
      ⟨(some 118), .mov (.t 8), none⟩,
      ⟨(some 119), .bin .sub (.t 118) (.c (.int .i64 1)), none⟩,
      ⟨(some 120), .idxS (.t 117) (.t 119), none⟩,
      ⟨(some 15), .mov (.t 120), none⟩])
    (.seq (.label 2)
    (.block 5 (.loop A_strings_IndexRuneL5)))))))
  (.seq (.region false [⟨(some 4), .mov (.c (.int .i64 (-1))), none⟩])
  (.ret)))))))))
def A_strings_IndexRune : AFun := ⟨187,
  .seq (.region false [⟨(some 4), .mov (.c (.int .i64 0)), none⟩])
  (.block 0 (.seq (.region false [⟨(some 161), .mov (.t 1), none⟩,
    ⟨(some 162), .bin .leq (.c (.int .i32 0)) (.t 161), none⟩,
    ⟨(some 163), .mov (.t 162), none⟩,
    ⟨(some 164), .mov (.t 1), some (163, true)⟩,
    ⟨(some 165), .bin .lss (.t 164) (.c (.int .i32 128)), some (163, true)⟩,
    ⟨(some 166), .pick (.t 163) (.t 165) (.c (.bool false)), none⟩,
    ⟨(some 160), .mov (.t 166), none⟩])
  (.cond (.t 160)
   (.seq (.region false [⟨(some 167), .mov (.t 0), none⟩,
     ⟨(some 168), .mov (.t 1), none⟩,
     ⟨(some 169), .conv .u8 (.t 168), none⟩,
     ⟨(some 170), .call F_strings_IndexByte [(.t 167), (.t 169)], none⟩,
     ⟨(some 4), .mov (.t 170), none⟩])
   (.ret))
   (.seq (.region false [⟨(some 172), .mov (.t 1), none⟩,
     ⟨(some 173), .bin .eql (.t 172) (.c (.int .i32 65533)), none⟩,
     ⟨(some 171), .mov (.t 173), none⟩])
   (.cond (.t 171)
    (.seq (.seq (.region false [⟨(some 174), .mov (.t 0), none⟩,
      ⟨(some 175), .rng (.t 174), none⟩])
    (.block 9 (.loop A_strings_IndexRuneL0)))
    (.seq (.region false [⟨(some 4), .mov (.c (.int .i64 (-1))), none⟩])
    (.ret)))
    (.seq (.region false [⟨(some 184), .mov (.t 1), none⟩,
      ⟨(some 185), .call F_utf8_ValidRune [(.t 184)], none⟩,
      ⟨(some 186), .not (.t 185), none⟩,
      ⟨(some 183), .mov (.t 186), none⟩])
    (.cond (.t 183)
     (.seq (.region false [⟨(some 4), .mov (.c (.int .i64 (-1))), none⟩])
     (.ret))
     (.scopeJ A_strings_IndexRuneJ1)))))))),
  [.tmp 4]⟩

/- utf8_RuneStart -/
def A_utf8_RuneStart : AFun := ⟨6,
  .seq (.region false [⟨(some 2), .mov (.c (.bool false)), none⟩])
  (.seq (.region false [⟨(some 3), .mov (.t 0), none⟩,
    ⟨(some 4), .bin .and (.t 3) (.c (.int .u8 192)), none⟩,
    ⟨(some 5), .bin .neq (.t 4) (.c (.int .u8 128)), none⟩,
    ⟨(some 2), .mov (.t 5), none⟩])
  (.ret)),
  [.tmp 2]⟩

/- strings_IndexByte -/
def A_strings_IndexByte : AFun := ⟨8,
  .seq (.region false [⟨(some 4), .mov (.c (.int .i64 0)), none⟩])
  (.seq (.region false [⟨(some 5), .mov (.t 0), none⟩,
    ⟨(some 6), .mov (.t 1), none⟩,
    ⟨(some 7), .call F_stringslite_IndexByte [(.t 5), (.t 6)], none⟩,
    ⟨(some 4), .mov (.t 7), none⟩])
  (.ret)),
  [.tmp 4]⟩

/- utf8_ValidRune -/
def A_utf8_ValidRune : AFun := ⟨17,
  .seq (.region false [⟨(some 2), .mov (.c (.bool false)), none⟩])
  (.seq (.block 0 (.seq (.region false [⟨(some 4), .mov (.t 0), none⟩,
    ⟨(some 5), .bin .leq (.c (.int .i32 0)) (.t 4), none⟩,
    ⟨(some 6), .mov (.t 5), none⟩,
    ⟨(some 7), .mov (.t 0), some (6, true)⟩,
    ⟨(some 8), .bin .lss (.t 7) (.c (.int .i32 55296)), some (6, true)⟩,
    ⟨(some 9), .pick (.t 6) (.t 8) (.c (.bool false)), none⟩,
    ⟨(some 3), .mov (.t 9), none⟩])
  (.cond (.t 3)
   (.seq (.region false [⟨(some 2), .mov (.c (.bool true)), none⟩])
   (.ret))
   (.seq (.region false [⟨(some 11), .mov (.t 0), none⟩,
     ⟨(some 12), .bin .lss (.c (.int .i32 57343)) (.t 11), none⟩,
     ⟨(some 13), .mov (.t 12), none⟩,
     ⟨(some 14), .mov (.t 0), some (13, true)⟩,
     ⟨(some 15), .bin .leq (.t 14) (.c (.int .i32 1114111)), some (13, true)⟩,
     ⟨(some 16), .pick (.t 13) (.t 15) (.c (.bool false)), none⟩,
     ⟨(some 10), .mov (.t 16), none⟩])
   (.cond (.t 10)
    (.seq (.region false [⟨(some 2), .mov (.c (.bool true)), none⟩])
    (.ret))
    (.skip))))))
  (.seq (.region false [⟨(some 2), .mov (.c (.bool false)), none⟩])
  (.ret))),
  [.tmp 2]⟩

/- labels_levels_less -/
def A_labels_levels_less : AFun := ⟨28,
  .seq (.region false [⟨(some 6), .mov (.c (.bool false)), none⟩])
  (.seq (.seq (.region true [⟨(some 7), .mov (.t 0), none⟩,
    ⟨(some 8), .mov (.t 1), none⟩,
    ⟨(some 9), .idxA 1 (.t 7) (.t 8), none⟩,
    ⟨(some 10), .ld none (.t 9), none⟩,
    ⟨(some 11), .mov (.t 0), none⟩,
    ⟨(some 12), .mov (.t 2), none⟩,
    ⟨(some 13), .idxA 1 (.t 11) (.t 12), none⟩,
    ⟨(some 14), .ld none (.t 13), none⟩,
    ⟨(some 15), .bin .neq (.t 10) (.t 14), none⟩])
  (.cond (.t 15)
   (.seq (.region true [⟨(some 16), .mov (.t 0), none⟩,
     ⟨(some 17), .mov (.t 1), none⟩,
     ⟨(some 18), .idxA 1 (.t 16) (.t 17), none⟩,
     ⟨(some 19), .ld none (.t 18), none⟩,
     ⟨(some 20), .mov (.t 0), none⟩,
     ⟨(some 21), .mov (.t 2), none⟩,
     ⟨(some 22), .idxA 1 (.t 20) (.t 21), none⟩,
     ⟨(some 23), .ld none (.t 22), none⟩,
     ⟨(some 24), .bin .lss (.t 19) (.t 23), none⟩,
     ⟨(some 6), .mov (.t 24), none⟩])
   (.ret))
   (.skip)))
  (.seq (.region false [⟨(some 25), .mov (.t 1), none⟩,
    ⟨(some 26), .mov (.t 2), none⟩,
    ⟨(some 27), .bin .lss (.t 25) (.t 26), none⟩,
    ⟨(some 6), .mov (.t 27), none⟩])
  (.ret))),
  [.tmp 6]⟩

section
variable {X : Cx} (hX : X.P = Go.Proofs.Tryz.prog)
include hX
theorem A_lattice_named_ok : compileFun X.P F_lattice_named (fun _ => false) = some A_lattice_named := by rw [hX]; kernel_rfl
theorem A_bits_Len8_ok : compileFun X.P F_bits_Len8 (fun _ => false) = some A_bits_Len8 := by rw [hX]; kernel_rfl
theorem A_lattice_of_ok : compileFun X.P F_lattice_of (fun _ => false) = some A_lattice_of := by rw [hX]; kernel_rfl
theorem A_lattice_bound_lattice_ups_ok : compileFun X.P F_lattice_bound_lattice_ups (fun _ => false) = some A_lattice_bound_lattice_ups := by rw [hX]; kernel_rfl
theorem A_lattice_bound_lattice_downs_ok : compileFun X.P F_lattice_bound_lattice_downs (fun _ => false) = some A_lattice_bound_lattice_downs := by rw [hX]; kernel_rfl
theorem A_ref03_names_ok : compileFun X.P F_ref03_names (fun _ => false) = some A_ref03_names := by rw [hX]; kernel_rfl
theorem A_ref03_ordered_ok : compileFun X.P F_ref03_ordered (fun _ => false) = some A_ref03_ordered := by rw [hX]; kernel_rfl
theorem A_lattice_asked_ok : compileFun X.P F_lattice_asked (fun _ => false) = some A_lattice_asked := by rw [hX]; kernel_rfl
theorem A_lattice_end_lattice_ups_ok : compileFun X.P F_lattice_end_lattice_ups (fun _ => false) = some A_lattice_end_lattice_ups := by rw [hX]; kernel_rfl
theorem A_lattice_Join_ok : compileFun X.P F_lattice_Join (fun _ => false) = some A_lattice_Join := by rw [hX]; kernel_rfl
theorem A_lattice_end_lattice_downs_ok : compileFun X.P F_lattice_end_lattice_downs (fun _ => false) = some A_lattice_end_lattice_downs := by rw [hX]; kernel_rfl
theorem A_lattice_Meet_ok : compileFun X.P F_lattice_Meet (fun _ => false) = some A_lattice_Meet := by rw [hX]; kernel_rfl
theorem A_strings_genSplit_ok : compileFun X.P F_strings_genSplit (fun _ => false) = some A_strings_genSplit := by rw [hX]; kernel_rfl
theorem A_slices_Index_string_string_ok : compileFun X.P F_slices_Index_string_string (fun _ => false) = some A_slices_Index_string_string := by rw [hX]; kernel_rfl
theorem A_words_Name_ok : compileFun X.P F_words_Name (fun _ => false) = some A_words_Name := by rw [hX]; kernel_rfl
theorem A_ref01_Name_ok : compileFun X.P F_ref01_Name (fun _ => false) = some A_ref01_Name := by rw [hX]; kernel_rfl
theorem A_bits_OnesCount8_ok : compileFun X.P F_bits_OnesCount8 (fun _ => false) = some A_bits_OnesCount8 := by rw [hX]; kernel_rfl
theorem A_strings_Index_ok : compileFun X.P F_strings_Index (fun _ => false) = some A_strings_Index := by rw [hX]; kernel_rfl
theorem A_strings_Trim_ok : compileFun X.P F_strings_Trim (fun _ => false) = some A_strings_Trim := by rw [hX]; kernel_rfl
theorem A_ref01_lower_ok : compileFun X.P F_ref01_lower (fun _ => false) = some A_ref01_lower := by rw [hX]; kernel_rfl
theorem A_ref01_digit_ok : compileFun X.P F_ref01_digit (fun _ => false) = some A_ref01_digit := by rw [hX]; kernel_rfl
theorem A_utf8_DecodeRuneInString_ok : compileFun X.P F_utf8_DecodeRuneInString (fun _ => false) = some A_utf8_DecodeRuneInString := by rw [hX]; kernel_rfl
theorem A_strings_trimLeftByte_ok : compileFun X.P F_strings_trimLeftByte (fun _ => false) = some A_strings_trimLeftByte := by rw [hX]; kernel_rfl
theorem A_strings_trimRightByte_ok : compileFun X.P F_strings_trimRightByte (fun _ => false) = some A_strings_trimRightByte := by rw [hX]; kernel_rfl
theorem A_strings_makeASCIISet_ok : compileFun X.P F_strings_makeASCIISet (fun _ => false) = some A_strings_makeASCIISet := by rw [hX]; kernel_rfl
theorem A_strings_trimLeftASCII_ok : compileFun X.P F_strings_trimLeftASCII (fun _ => false) = some A_strings_trimLeftASCII := by rw [hX]; kernel_rfl
theorem A_strings_trimRightASCII_ok : compileFun X.P F_strings_trimRightASCII (fun _ => false) = some A_strings_trimRightASCII := by rw [hX]; kernel_rfl
theorem A_strings_trimLeftUnicode_ok : compileFun X.P F_strings_trimLeftUnicode (fun _ => false) = some A_strings_trimLeftUnicode := by rw [hX]; kernel_rfl
theorem A_strings_trimRightUnicode_ok : compileFun X.P F_strings_trimRightUnicode (fun _ => false) = some A_strings_trimRightUnicode := by rw [hX]; kernel_rfl
theorem A_utf8_decodeRuneInStringSlow_ok : compileFun X.P F_utf8_decodeRuneInStringSlow (fun _ => false) = some A_utf8_decodeRuneInStringSlow := by rw [hX]; kernel_rfl
theorem A_bytealg_Cutover_ok : compileFun X.P F_bytealg_Cutover (fun _ => false) = some A_bytealg_Cutover := by rw [hX]; kernel_rfl
theorem A_strings_asciiSet_contains_ok : compileFun X.P F_strings_asciiSet_contains (fun _ => false) = some A_strings_asciiSet_contains := by rw [hX]; kernel_rfl
theorem A_strings_ContainsRune_ok : compileFun X.P F_strings_ContainsRune (fun _ => false) = some A_strings_ContainsRune := by rw [hX]; kernel_rfl
theorem A_utf8_DecodeLastRuneInString_ok : compileFun X.P F_utf8_DecodeLastRuneInString (fun _ => false) = some A_utf8_DecodeLastRuneInString := by rw [hX]; kernel_rfl
theorem A_strings_IndexRune_ok : compileFun X.P F_strings_IndexRune (fun _ => false) = some A_strings_IndexRune := by rw [hX]; kernel_rfl
theorem A_utf8_RuneStart_ok : compileFun X.P F_utf8_RuneStart (fun _ => false) = some A_utf8_RuneStart := by rw [hX]; kernel_rfl
theorem A_strings_IndexByte_ok : compileFun X.P F_strings_IndexByte (fun _ => false) = some A_strings_IndexByte := by rw [hX]; kernel_rfl
theorem A_utf8_ValidRune_ok : compileFun X.P F_utf8_ValidRune (fun _ => false) = some A_utf8_ValidRune := by rw [hX]; kernel_rfl
theorem A_labels_levels_less_ok : compileFun X.P F_labels_levels_less (fun _ => false) = some A_labels_levels_less := by rw [hX]; kernel_rfl
end
end Go.Avm
