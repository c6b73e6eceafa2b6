/- The functions as they have been read. -/
import Derived.Test.YtebnoigmepfdcaaDoorA8
import Derived.Test.YtebnoigmepfdcaaDoorProg
set_option linter.unusedSectionVars false
set_option linter.unusedSimpArgs false
set_option linter.unusedVariables false

/- The functions as they have been read. -/
namespace Go.Avm
open Go
def F_law04_LabelsOrder : Nat := 3
def F_law04_LabelsLeast : Nat := 4
def F_law03_Far : Nat := 5
def F_law04_awake : Nat := 6
def F_labels_Sort : Nat := 7
def F_labels_Chain : Nat := 8
def F_ref04_Same : Nat := 9
def F_ref03_Below : Nat := 10
def F_labels_Least : Nat := 11
def F_labels_Down : Nat := 12
def F_labels_Up : Nat := 13
def F_law03_long : Nat := 14
def F_law03_Diamond : Nat := 15
def F_labels_Join : Nat := 16
def F_labels_Flows : Nat := 17
def F_labels_Show : Nat := 18
def F_labels_Check : Nat := 19
def F_labels_sorted : Nat := 20
def F_labels_order_below : Nat := 21
def F_slices_ContainsFunc_int_int : Nat := 22
def F_labels_Least_1 : Nat := 23
def F_labels_beyond : Nat := 24
def F_labels_Down_1 : Nat := 25
def F_labels_Up_1 : Nat := 26
def F_lattice_Bottom : Nat := 27
def F_labels_fold : Nat := 28
def F_labels_order_join : Nat := 29
def F_slices_IndexFunc_int_int : Nat := 30
def F_labels_Flows_1 : Nat := 31
def F_strings_Join : Nat := 32
def F_lattice_Check : Nat := 33
def F_slices_Clone_int_int : Nat := 34
def F_slices_SortFunc_int_int : Nat := 35
def F_labels_sorted_1 : Nat := 36
def F_labels_compare : Nat := 37
def F_slices_Compact_int_int : Nat := 38
def F_lattice_asked : Nat := 39
def F_lattice_of : Nat := 40
def F_lattice_end_lattice_ups : Nat := 41
def F_lattice_Join : Nat := 42
def F_strings_Builder_Grow : Nat := 43
def F_lattice_named : Nat := 46
def F_bits_Len8 : Nat := 47
def F_lattice_bound_lattice_ups : Nat := 48
def F_lattice_bound_lattice_downs : Nat := 49
def F_bits_OnesCount8 : Nat := 52
def F_words_Name : Nat := 55
def F_slices_Contains_string_string : Nat := 56
def F_strings_Trim : Nat := 69
def F_slices_Index_string_string : Nat := 70
def F_strings_trimLeftByte : Nat := 76
def F_strings_trimRightByte : Nat := 77
def F_strings_makeASCIISet : Nat := 78
def F_strings_trimLeftASCII : Nat := 79
def F_strings_trimRightASCII : Nat := 80
def F_strings_trimLeftUnicode : Nat := 81
def F_strings_trimRightUnicode : Nat := 82
def F_strings_asciiSet_contains : Nat := 84
def F_utf8_DecodeRuneInString : Nat := 85
def F_strings_ContainsRune : Nat := 86
def F_utf8_DecodeLastRuneInString : Nat := 87
def F_utf8_decodeRuneInStringSlow : Nat := 88
def F_strings_IndexRune : Nat := 89
def F_utf8_RuneStart : Nat := 90
def F_strings_IndexByte : Nat := 91
def F_utf8_ValidRune : Nat := 92
def F_bytealg_Cutover : Nat := 93
def F_stringslite_IndexByte : Nat := 95
def F_labels_levels_less : Nat := 112
/- law04_LabelsOrder -/
def A_law04_LabelsOrderL0 : ACode :=
  .seq (.seq (.region false [⟨(some 37), .mov (.t 9), none⟩,
    ⟨(some 38), .mov (.t 1), none⟩,
    ⟨(some 39), .len (.t 38), none⟩,
    ⟨(some 40), .bin .lss (.t 37) (.t 39), none⟩])
  (.cond (.t 40)
   (.skip)
   (.exit 0)))
  (.seq (.block 1 (.seq (.seq (.region false [⟨(some 43), .mov (.t 1), none⟩,
    ⟨(some 44), .mov (.t 9), none⟩,
    ⟨(some 45), .idxA 1 (.t 43) (.t 44), none⟩,
    ⟨(some 46), .ld none (.t 45), none⟩,
    ⟨(some 47), .bin .lss (.t 46) (.c (.int .i64 0)), none⟩,
    ⟨(some 48), .mov (.t 47), none⟩,
    ⟨(some 49), .mov (.t 1), some (48, false)⟩,
    ⟨(some 50), .mov (.t 9), some (48, false)⟩,
    ⟨(some 51), .idxA 1 (.t 49) (.t 50), some (48, false)⟩,
    ⟨(some 52), .ld none (.t 51), some (48, false)⟩,
    ⟨(some 53), .bin .geq (.t 52) (.c (.int .i64 8)), some (48, false)⟩,
    ⟨(some 54), .pick (.t 48) (.c (.bool true)) (.t 53), none⟩])
  (.cond (.t 54)
   (.seq (.region false [⟨(some 4), .mov (.c (.bool false)), none⟩])
   (.ret))
   (.skip)))
  (.region false [⟨(some 55), .mov (.t 1), none⟩,
    ⟨(some 56), .mov (.t 9), none⟩,
    ⟨(some 57), .idxA 1 (.t 55) (.t 56), none⟩,
    ⟨(some 58), .ld none (.t 57), none⟩,
    ⟨(some 59), .idxP 8 1 (.t 7) (.t 58), none⟩,
    ⟨none, .st 1 (.t 59) (.c (.bool true)), none⟩])))
  (.region false [⟨(some 41), .mov (.t 9), none⟩,
    ⟨(some 42), .bin .add (.t 41) (.c (.int .i64 1)), none⟩,
    ⟨(some 9), .mov (.t 42), none⟩]))
def A_law04_LabelsOrderL2 : ACode :=
  .seq (.seq (.region false [⟨(some 118), .mov (.t 14), none⟩,
    ⟨(some 119), .mov (.t 13), none⟩,
    ⟨(some 120), .bin .lss (.t 118) (.t 119), none⟩])
  (.cond (.t 120)
   (.skip)
   (.exit 4)))
  (.seq (.block 5 (.seq (.region true [⟨(some 123), .ld (some 2) (.t 2), none⟩,
    ⟨(some 124), .mov (.t 5), none⟩,
    ⟨(some 125), .mov (.t 13), none⟩,
    ⟨(some 126), .idxA 1 (.t 124) (.t 125), none⟩,
    ⟨(some 127), .ld none (.t 126), none⟩,
    ⟨(some 128), .mov (.t 5), none⟩,
    ⟨(some 129), .mov (.t 14), none⟩,
    ⟨(some 130), .idxA 1 (.t 128) (.t 129), none⟩,
    ⟨(some 131), .ld none (.t 130), none⟩,
    ⟨(some 132), .call F_ref03_Below [(.t 123), (.t 127), (.t 131)], none⟩,
    ⟨(some 133), .mov (.t 132), none⟩,
    ⟨(some 134), .mov (.t 10), some (133, false)⟩,
    ⟨(some 135), .mov (.t 134), some (133, false)⟩,
    ⟨(some 136), .ld (some 2) (.t 2), some (135, true)⟩,
    ⟨(some 137), .mov (.t 5), some (135, true)⟩,
    ⟨(some 138), .mov (.t 14), some (135, true)⟩,
    ⟨(some 139), .idxA 1 (.t 137) (.t 138), some (135, true)⟩,
    ⟨(some 140), .ld none (.t 139), some (135, true)⟩,
    ⟨(some 141), .mov (.t 5), some (135, true)⟩,
    ⟨(some 142), .mov (.t 13), some (135, true)⟩,
    ⟨(some 143), .idxA 1 (.t 141) (.t 142), some (135, true)⟩,
    ⟨(some 144), .ld none (.t 143), some (135, true)⟩,
    ⟨(some 145), .call F_ref03_Below [(.t 136), (.t 140), (.t 144)], some (135, true)⟩,
    ⟨(some 146), .not (.t 145), some (135, true)⟩,
    ⟨(some 147), .pick (.t 135) (.t 146) (.c (.bool false)), some (133, false)⟩,
    ⟨(some 148), .pick (.t 133) (.c (.bool true)) (.t 147), none⟩])
  (.cond (.t 148)
   (.seq (.region false [⟨(some 4), .mov (.c (.bool false)), none⟩])
   (.ret))
   (.skip))))
  (.region false [⟨(some 121), .mov (.t 14), none⟩,
    ⟨(some 122), .bin .add (.t 121) (.c (.int .i64 1)), none⟩,
    ⟨(some 14), .mov (.t 122), none⟩]))
def A_law04_LabelsOrderL1 : ACode :=
  .seq (.seq (.region false [⟨(some 84), .mov (.t 13), none⟩,
    ⟨(some 85), .mov (.t 5), none⟩,
    ⟨(some 86), .len (.t 85), none⟩,
    ⟨(some 87), .bin .lss (.t 84) (.t 86), none⟩])
  (.cond (.t 87)
   (.skip)
   (.exit 2)))
  (.seq (.block 3 (.seq (.seq (.region true [⟨(some 90), .mov (.t 5), none⟩,
    ⟨(some 91), .mov (.t 13), none⟩,
    ⟨(some 92), .idxA 1 (.t 90) (.t 91), none⟩,
    ⟨(some 93), .ld none (.t 92), none⟩,
    ⟨(some 94), .bin .lss (.t 93) (.c (.int .i64 0)), none⟩,
    ⟨(some 95), .mov (.t 94), none⟩,
    ⟨(some 96), .mov (.t 5), some (95, false)⟩,
    ⟨(some 97), .mov (.t 13), some (95, false)⟩,
    ⟨(some 98), .idxA 1 (.t 96) (.t 97), some (95, false)⟩,
    ⟨(some 99), .ld none (.t 98), some (95, false)⟩,
    ⟨(some 100), .fldA 0 (.t 2), some (95, false)⟩,
    ⟨(some 101), .ld none (.t 100), some (95, false)⟩,
    ⟨(some 102), .len (.t 101), some (95, false)⟩,
    ⟨(some 103), .bin .geq (.t 99) (.t 102), some (95, false)⟩,
    ⟨(some 104), .pick (.t 95) (.c (.bool true)) (.t 103), none⟩,
    ⟨(some 105), .mov (.t 104), none⟩,
    ⟨(some 106), .mov (.t 5), some (105, false)⟩,
    ⟨(some 107), .mov (.t 13), some (105, false)⟩,
    ⟨(some 108), .idxA 1 (.t 106) (.t 107), some (105, false)⟩,
    ⟨(some 109), .ld none (.t 108), some (105, false)⟩,
    ⟨(some 110), .idxP 8 1 (.t 8) (.t 109), some (105, false)⟩,
    ⟨(some 111), .ld none (.t 110), some (105, false)⟩,
    ⟨(some 112), .pick (.t 105) (.c (.bool true)) (.t 111), none⟩])
  (.cond (.t 112)
   (.seq (.region false [⟨(some 4), .mov (.c (.bool false)), none⟩])
   (.ret))
   (.skip)))
  (.seq (.region false [⟨(some 113), .mov (.t 5), none⟩,
    ⟨(some 114), .mov (.t 13), none⟩,
    ⟨(some 115), .idxA 1 (.t 113) (.t 114), none⟩,
    ⟨(some 116), .ld none (.t 115), none⟩,
    ⟨(some 117), .idxP 8 1 (.t 8) (.t 116), none⟩,
    ⟨none, .st 1 (.t 117) (.c (.bool true)), none⟩])
  (.seq (.region false [⟨(some 14), .mov (.c (.int .i64 0)), none⟩])
  (.block 4 (.loop A_law04_LabelsOrderL2))))))
  (.region false [⟨(some 88), .mov (.t 13), none⟩,
    ⟨(some 89), .bin .add (.t 88) (.c (.int .i64 1)), none⟩,
    ⟨(some 13), .mov (.t 89), none⟩]))
def A_law04_LabelsOrder : AFun := ⟨155,
  .seq (.region false [⟨(some 2), .box (.t 0), none⟩,
    ⟨(some 4), .mov (.c (.bool false)), none⟩])
  (.seq (.seq (.region false [⟨(some 15), .ld (some 2) (.t 2), none⟩,
    ⟨(some 16), .call F_law03_Far [(.t 15)], none⟩,
    ⟨(some 17), .mov (.t 16), none⟩,
    ⟨(some 18), .mov (.t 1), some (17, false)⟩,
    ⟨(some 19), .len (.t 18), some (17, false)⟩,
    ⟨(some 20), .bin .gtr (.t 19) (.c (.int .i64 80)), some (17, false)⟩,
    ⟨(some 21), .pick (.t 17) (.c (.bool true)) (.t 20), none⟩])
  (.cond (.t 21)
   (.seq (.region false [⟨(some 22), .call F_law04_awake [], none⟩,
     ⟨(some 4), .mov (.t 22), none⟩])
   (.ret))
   (.skip)))
  (.seq (.region false [⟨(some 24), .ld (some 2) (.t 2), none⟩,
    ⟨(some 25), .mov (.t 1), none⟩,
    ⟨(some 26), .call F_labels_Sort [(.t 24), (.t 25)], none⟩,
    ⟨(some 23), .mov (.t 26), none⟩,
    ⟨(some 27), .extr (.t 23) 0, none⟩,
    ⟨(some 28), .extr (.t 23) 1, none⟩,
    ⟨(some 5), .mov (.t 27), none⟩,
    ⟨(some 6), .mov (.t 28), none⟩])
  (.seq (.seq (.region false [⟨(some 29), .mov (.t 6), none⟩,
    ⟨(some 30), .bin .neq (.t 29) (.c (.int .i64 0)), none⟩])
  (.cond (.t 30)
   (.seq (.region false [⟨(some 31), .mov (.t 5), none⟩,
     ⟨(some 32), .len (.t 31), none⟩,
     ⟨(some 33), .bin .eql (.t 32) (.c (.int .i64 0)), none⟩,
     ⟨(some 34), .mov (.t 33), none⟩,
     ⟨(some 35), .call F_law04_awake [], some (34, true)⟩,
     ⟨(some 36), .pick (.t 34) (.t 35) (.c (.bool false)), none⟩,
     ⟨(some 4), .mov (.t 36), none⟩])
   (.ret))
   (.skip)))
  (.seq (.region false [⟨(some 7), .alloc [.bool false, .bool false, .bool false, .bool false, .bool false, .bool false, .bool false, .bool false], none⟩,
    ⟨(some 8), .alloc [.bool false, .bool false, .bool false, .bool false, .bool false, .bool false, .bool false, .bool false], none⟩])
  (.seq (.seq (.region false [⟨(some 9), .mov (.c (.int .i64 0)), none⟩])
  (.block 0 (.loop A_law04_LabelsOrderL0)))
  (.seq (.region false [⟨(some 61), .ld (some 2) (.t 2), none⟩,
    ⟨(some 62), .mov (.t 1), none⟩,
    ⟨(some 63), .call F_labels_Chain [(.t 61), (.t 62)], none⟩,
    ⟨(some 60), .mov (.t 63), none⟩,
    ⟨(some 64), .extr (.t 60) 0, none⟩,
    ⟨(some 65), .extr (.t 60) 1, none⟩,
    ⟨(some 10), .mov (.t 64), none⟩,
    ⟨(some 6), .mov (.t 65), none⟩])
  (.seq (.region false [⟨(some 67), .ld (some 2) (.t 2), none⟩,
    ⟨(some 68), .mov (.t 5), none⟩,
    ⟨(some 69), .call F_labels_Sort [(.t 67), (.t 68)], none⟩,
    ⟨(some 66), .mov (.t 69), none⟩,
    ⟨(some 70), .extr (.t 66) 0, none⟩,
    ⟨(some 71), .extr (.t 66) 1, none⟩,
    ⟨(some 11), .mov (.t 70), none⟩,
    ⟨(some 12), .mov (.t 71), none⟩])
  (.seq (.seq (.region false [⟨(some 72), .mov (.t 6), none⟩,
    ⟨(some 73), .bin .neq (.t 72) (.c (.int .i64 0)), none⟩,
    ⟨(some 74), .mov (.t 73), none⟩,
    ⟨(some 75), .mov (.t 12), some (74, false)⟩,
    ⟨(some 76), .bin .neq (.t 75) (.c (.int .i64 0)), some (74, false)⟩,
    ⟨(some 77), .pick (.t 74) (.c (.bool true)) (.t 76), none⟩,
    ⟨(some 78), .mov (.t 77), none⟩,
    ⟨(some 79), .mov (.t 11), some (78, false)⟩,
    ⟨(some 80), .mov (.t 5), some (78, false)⟩,
    ⟨(some 81), .call F_ref04_Same [(.t 79), (.t 80)], some (78, false)⟩,
    ⟨(some 82), .not (.t 81), some (78, false)⟩,
    ⟨(some 83), .pick (.t 78) (.c (.bool true)) (.t 82), none⟩])
  (.cond (.t 83)
   (.seq (.region false [⟨(some 4), .mov (.c (.bool false)), none⟩])
   (.ret))
   (.skip)))
  (.seq (.seq (.region false [⟨(some 13), .mov (.c (.int .i64 0)), none⟩])
  (.block 2 (.loop A_law04_LabelsOrderL1)))
  (.seq (.region false [⟨(some 149), .ld (some 8) (.t 7), none⟩,
    ⟨(some 150), .ld (some 8) (.t 8), none⟩,
    ⟨(some 151), .aeq false [1, 1, 1, 1, 1, 1, 1, 1] (.t 149) (.t 150), none⟩,
    ⟨(some 152), .mov (.t 151), none⟩,
    ⟨(some 153), .call F_law04_awake [], some (152, true)⟩,
    ⟨(some 154), .pick (.t 152) (.t 153) (.c (.bool false)), none⟩,
    ⟨(some 4), .mov (.t 154), none⟩])
  (.ret))))))))))),
  [.tmp 4]⟩

/- law04_LabelsLeast -/
def A_law04_LabelsLeastL1 : ACode :=
  .seq (.seq (.region false [⟨(some 53), .mov (.t 11), none⟩,
    ⟨(some 54), .mov (.t 7), none⟩,
    ⟨(some 55), .len (.t 54), none⟩,
    ⟨(some 56), .bin .lss (.t 53) (.t 55), none⟩])
  (.cond (.t 56)
   (.skip)
   (.exit 2)))
  (.seq (.block 3 (.region true [⟨(some 59), .mov (.t 10), none⟩,
    ⟨(some 60), .mov (.t 59), none⟩,
    ⟨(some 61), .ld (some 2) (.t 3), some (60, false)⟩,
    ⟨(some 62), .mov (.t 7), some (60, false)⟩,
    ⟨(some 63), .mov (.t 11), some (60, false)⟩,
    ⟨(some 64), .idxA 1 (.t 62) (.t 63), some (60, false)⟩,
    ⟨(some 65), .ld none (.t 64), some (60, false)⟩,
    ⟨(some 66), .mov (.t 1), some (60, false)⟩,
    ⟨(some 67), .mov (.t 9), some (60, false)⟩,
    ⟨(some 68), .idxA 1 (.t 66) (.t 67), some (60, false)⟩,
    ⟨(some 69), .ld none (.t 68), some (60, false)⟩,
    ⟨(some 70), .call F_ref03_Below [(.t 61), (.t 65), (.t 69)], some (60, false)⟩,
    ⟨(some 71), .pick (.t 60) (.c (.bool true)) (.t 70), none⟩,
    ⟨(some 10), .mov (.t 71), none⟩]))
  (.region false [⟨(some 57), .mov (.t 11), none⟩,
    ⟨(some 58), .bin .add (.t 57) (.c (.int .i64 1)), none⟩,
    ⟨(some 11), .mov (.t 58), none⟩]))
def A_law04_LabelsLeastL0 : ACode :=
  .seq (.seq (.region false [⟨(some 47), .mov (.t 9), none⟩,
    ⟨(some 48), .mov (.t 1), none⟩,
    ⟨(some 49), .len (.t 48), none⟩,
    ⟨(some 50), .bin .lss (.t 47) (.t 49), none⟩])
  (.cond (.t 50)
   (.skip)
   (.exit 0)))
  (.seq (.block 1 (.seq (.region false [⟨(some 10), .mov (.c (.bool false)), none⟩])
  (.seq (.seq (.region false [⟨(some 11), .mov (.c (.int .i64 0)), none⟩])
  (.block 2 (.loop A_law04_LabelsLeastL1)))
  (.seq (.region false [⟨(some 72), .mov (.t 10), none⟩,
    ⟨(some 73), .not (.t 72), none⟩])
  (.cond (.t 73)
   (.seq (.region false [⟨(some 6), .mov (.c (.bool false)), none⟩])
   (.ret))
   (.skip))))))
  (.region false [⟨(some 51), .mov (.t 9), none⟩,
    ⟨(some 52), .bin .add (.t 51) (.c (.int .i64 1)), none⟩,
    ⟨(some 9), .mov (.t 52), none⟩]))
def A_law04_LabelsLeastL3 : ACode :=
  .seq (.seq (.region false [⟨(some 80), .mov (.t 14), none⟩,
    ⟨(some 81), .mov (.t 1), none⟩,
    ⟨(some 82), .len (.t 81), none⟩,
    ⟨(some 83), .bin .lss (.t 80) (.t 82), none⟩])
  (.cond (.t 83)
   (.skip)
   (.exit 6)))
  (.seq (.block 7 (.region true [⟨(some 86), .mov (.t 13), none⟩,
    ⟨(some 87), .mov (.t 86), none⟩,
    ⟨(some 88), .mov (.t 1), some (87, false)⟩,
    ⟨(some 89), .mov (.t 14), some (87, false)⟩,
    ⟨(some 90), .idxA 1 (.t 88) (.t 89), some (87, false)⟩,
    ⟨(some 91), .ld none (.t 90), some (87, false)⟩,
    ⟨(some 92), .mov (.t 7), some (87, false)⟩,
    ⟨(some 93), .mov (.t 12), some (87, false)⟩,
    ⟨(some 94), .idxA 1 (.t 92) (.t 93), some (87, false)⟩,
    ⟨(some 95), .ld none (.t 94), some (87, false)⟩,
    ⟨(some 96), .bin .eql (.t 91) (.t 95), some (87, false)⟩,
    ⟨(some 97), .pick (.t 87) (.c (.bool true)) (.t 96), none⟩,
    ⟨(some 13), .mov (.t 97), none⟩]))
  (.region false [⟨(some 84), .mov (.t 14), none⟩,
    ⟨(some 85), .bin .add (.t 84) (.c (.int .i64 1)), none⟩,
    ⟨(some 14), .mov (.t 85), none⟩]))
def A_law04_LabelsLeastL4 : ACode :=
  .seq (.seq (.region false [⟨(some 98), .mov (.t 15), none⟩,
    ⟨(some 99), .mov (.t 12), none⟩,
    ⟨(some 100), .bin .lss (.t 98) (.t 99), none⟩])
  (.cond (.t 100)
   (.skip)
   (.exit 8)))
  (.seq (.block 9 (.seq (.region true [⟨(some 103), .ld (some 2) (.t 3), none⟩,
    ⟨(some 104), .mov (.t 7), none⟩,
    ⟨(some 105), .mov (.t 15), none⟩,
    ⟨(some 106), .idxA 1 (.t 104) (.t 105), none⟩,
    ⟨(some 107), .ld none (.t 106), none⟩,
    ⟨(some 108), .mov (.t 7), none⟩,
    ⟨(some 109), .mov (.t 12), none⟩,
    ⟨(some 110), .idxA 1 (.t 108) (.t 109), none⟩,
    ⟨(some 111), .ld none (.t 110), none⟩,
    ⟨(some 112), .call F_ref03_Below [(.t 103), (.t 107), (.t 111)], none⟩,
    ⟨(some 113), .mov (.t 112), none⟩,
    ⟨(some 114), .ld (some 2) (.t 3), some (113, false)⟩,
    ⟨(some 115), .mov (.t 7), some (113, false)⟩,
    ⟨(some 116), .mov (.t 12), some (113, false)⟩,
    ⟨(some 117), .idxA 1 (.t 115) (.t 116), some (113, false)⟩,
    ⟨(some 118), .ld none (.t 117), some (113, false)⟩,
    ⟨(some 119), .mov (.t 7), some (113, false)⟩,
    ⟨(some 120), .mov (.t 15), some (113, false)⟩,
    ⟨(some 121), .idxA 1 (.t 119) (.t 120), some (113, false)⟩,
    ⟨(some 122), .ld none (.t 121), some (113, false)⟩,
    ⟨(some 123), .call F_ref03_Below [(.t 114), (.t 118), (.t 122)], some (113, false)⟩,
    ⟨(some 124), .pick (.t 113) (.c (.bool true)) (.t 123), none⟩])
  (.cond (.t 124)
   (.seq (.region false [⟨(some 6), .mov (.c (.bool false)), none⟩])
   (.ret))
   (.skip))))
  (.region false [⟨(some 101), .mov (.t 15), none⟩,
    ⟨(some 102), .bin .add (.t 101) (.c (.int .i64 1)), none⟩,
    ⟨(some 15), .mov (.t 102), none⟩]))
def A_law04_LabelsLeastL2 : ACode :=
  .seq (.seq (.region false [⟨(some 74), .mov (.t 12), none⟩,
    ⟨(some 75), .mov (.t 7), none⟩,
    ⟨(some 76), .len (.t 75), none⟩,
    ⟨(some 77), .bin .lss (.t 74) (.t 76), none⟩])
  (.cond (.t 77)
   (.skip)
   (.exit 4)))
  (.seq (.block 5 (.seq (.region false [⟨(some 13), .mov (.c (.bool false)), none⟩])
  (.seq (.seq (.region false [⟨(some 14), .mov (.c (.int .i64 0)), none⟩])
  (.block 6 (.loop A_law04_LabelsLeastL3)))
  (.seq (.seq (.region false [⟨(some 15), .mov (.c (.int .i64 0)), none⟩])
  (.block 8 (.loop A_law04_LabelsLeastL4)))
  (.seq (.region false [⟨(some 125), .mov (.t 13), none⟩,
    ⟨(some 126), .not (.t 125), none⟩])
  (.cond (.t 126)
   (.seq (.region false [⟨(some 6), .mov (.c (.bool false)), none⟩])
   (.ret))
   (.skip)))))))
  (.region false [⟨(some 78), .mov (.t 12), none⟩,
    ⟨(some 79), .bin .add (.t 78) (.c (.int .i64 1)), none⟩,
    ⟨(some 12), .mov (.t 79), none⟩]))
def A_law04_LabelsLeastL5 : ACode :=
  .seq (.seq (.region false [⟨(some 182), .mov (.t 22), none⟩,
    ⟨(some 183), .fldA 0 (.t 3), none⟩,
    ⟨(some 184), .ld none (.t 183), none⟩,
    ⟨(some 185), .len (.t 184), none⟩,
    ⟨(some 186), .bin .lss (.t 182) (.t 185), none⟩])
  (.cond (.t 186)
   (.skip)
   (.exit 10)))
  (.seq (.block 11 (.seq (.seq (.region false [⟨(some 189), .ld (some 2) (.t 3), none⟩,
    ⟨(some 190), .mov (.t 22), none⟩,
    ⟨(some 191), .mov (.t 16), none⟩,
    ⟨(some 192), .call F_ref03_Below [(.t 189), (.t 190), (.t 191)], none⟩])
  (.cond (.t 192)
   (.region false [⟨(some 193), .mov (.t 20), none⟩,
     ⟨(some 194), .bin .add (.t 193) (.c (.int .i64 1)), none⟩,
     ⟨(some 20), .mov (.t 194), none⟩])
   (.skip)))
  (.seq (.region false [⟨(some 195), .ld (some 2) (.t 3), none⟩,
    ⟨(some 196), .mov (.t 16), none⟩,
    ⟨(some 197), .mov (.t 22), none⟩,
    ⟨(some 198), .call F_ref03_Below [(.t 195), (.t 196), (.t 197)], none⟩])
  (.cond (.t 198)
   (.region false [⟨(some 199), .mov (.t 21), none⟩,
     ⟨(some 200), .bin .add (.t 199) (.c (.int .i64 1)), none⟩,
     ⟨(some 21), .mov (.t 200), none⟩])
   (.skip)))))
  (.region false [⟨(some 187), .mov (.t 22), none⟩,
    ⟨(some 188), .bin .add (.t 187) (.c (.int .i64 1)), none⟩,
    ⟨(some 22), .mov (.t 188), none⟩]))
def A_law04_LabelsLeastL6 : ACode :=
  .seq (.seq (.region false [⟨(some 201), .mov (.t 23), none⟩,
    ⟨(some 202), .mov (.t 17), none⟩,
    ⟨(some 203), .len (.t 202), none⟩,
    ⟨(some 204), .bin .lss (.t 201) (.t 203), none⟩])
  (.cond (.t 204)
   (.skip)
   (.exit 12)))
  (.seq (.block 13 (.seq (.region true [⟨(some 207), .ld (some 2) (.t 3), none⟩,
    ⟨(some 208), .mov (.t 17), none⟩,
    ⟨(some 209), .mov (.t 23), none⟩,
    ⟨(some 210), .idxA 1 (.t 208) (.t 209), none⟩,
    ⟨(some 211), .ld none (.t 210), none⟩,
    ⟨(some 212), .mov (.t 16), none⟩,
    ⟨(some 213), .call F_ref03_Below [(.t 207), (.t 211), (.t 212)], none⟩,
    ⟨(some 214), .not (.t 213), none⟩])
  (.cond (.t 214)
   (.seq (.region false [⟨(some 6), .mov (.c (.bool false)), none⟩])
   (.ret))
   (.skip))))
  (.region false [⟨(some 205), .mov (.t 23), none⟩,
    ⟨(some 206), .bin .add (.t 205) (.c (.int .i64 1)), none⟩,
    ⟨(some 23), .mov (.t 206), none⟩]))
def A_law04_LabelsLeastL7 : ACode :=
  .seq (.seq (.region false [⟨(some 215), .mov (.t 24), none⟩,
    ⟨(some 216), .mov (.t 18), none⟩,
    ⟨(some 217), .len (.t 216), none⟩,
    ⟨(some 218), .bin .lss (.t 215) (.t 217), none⟩])
  (.cond (.t 218)
   (.skip)
   (.exit 14)))
  (.seq (.block 15 (.seq (.region true [⟨(some 221), .ld (some 2) (.t 3), none⟩,
    ⟨(some 222), .mov (.t 16), none⟩,
    ⟨(some 223), .mov (.t 18), none⟩,
    ⟨(some 224), .mov (.t 24), none⟩,
    ⟨(some 225), .idxA 1 (.t 223) (.t 224), none⟩,
    ⟨(some 226), .ld none (.t 225), none⟩,
    ⟨(some 227), .call F_ref03_Below [(.t 221), (.t 222), (.t 226)], none⟩,
    ⟨(some 228), .not (.t 227), none⟩])
  (.cond (.t 228)
   (.seq (.region false [⟨(some 6), .mov (.c (.bool false)), none⟩])
   (.ret))
   (.skip))))
  (.region false [⟨(some 219), .mov (.t 24), none⟩,
    ⟨(some 220), .bin .add (.t 219) (.c (.int .i64 1)), none⟩,
    ⟨(some 24), .mov (.t 220), none⟩]))
def A_law04_LabelsLeast : AFun := ⟨242,
  .seq (.region false [⟨(some 3), .box (.t 0), none⟩,
    ⟨(some 6), .mov (.c (.bool false)), none⟩])
  (.seq (.seq (.region false [⟨(some 25), .ld (some 2) (.t 3), none⟩,
    ⟨(some 26), .call F_law03_Far [(.t 25)], none⟩,
    ⟨(some 27), .mov (.t 26), none⟩,
    ⟨(some 28), .mov (.t 1), some (27, false)⟩,
    ⟨(some 29), .len (.t 28), some (27, false)⟩,
    ⟨(some 30), .bin .gtr (.t 29) (.c (.int .i64 80)), some (27, false)⟩,
    ⟨(some 31), .pick (.t 27) (.c (.bool true)) (.t 30), none⟩])
  (.cond (.t 31)
   (.seq (.region false [⟨(some 32), .call F_law04_awake [], none⟩,
     ⟨(some 6), .mov (.t 32), none⟩])
   (.ret))
   (.skip)))
  (.seq (.region false [⟨(some 34), .ld (some 2) (.t 3), none⟩,
    ⟨(some 35), .mov (.t 1), none⟩,
    ⟨(some 36), .call F_labels_Least [(.t 34), (.t 35)], none⟩,
    ⟨(some 33), .mov (.t 36), none⟩,
    ⟨(some 37), .extr (.t 33) 0, none⟩,
    ⟨(some 38), .extr (.t 33) 1, none⟩,
    ⟨(some 7), .mov (.t 37), none⟩,
    ⟨(some 8), .mov (.t 38), none⟩])
  (.seq (.seq (.region false [⟨(some 39), .mov (.t 8), none⟩,
    ⟨(some 40), .bin .neq (.t 39) (.c (.int .i64 0)), none⟩])
  (.cond (.t 40)
   (.seq (.region false [⟨(some 41), .mov (.t 7), none⟩,
     ⟨(some 42), .len (.t 41), none⟩,
     ⟨(some 43), .bin .eql (.t 42) (.c (.int .i64 0)), none⟩,
     ⟨(some 44), .mov (.t 43), none⟩,
     ⟨(some 45), .call F_law04_awake [], some (44, true)⟩,
     ⟨(some 46), .pick (.t 44) (.t 45) (.c (.bool false)), none⟩,
     ⟨(some 6), .mov (.t 46), none⟩])
   (.ret))
   (.skip)))
  (.seq (.seq (.region false [⟨(some 9), .mov (.c (.int .i64 0)), none⟩])
  (.block 0 (.loop A_law04_LabelsLeastL0)))
  (.seq (.seq (.region false [⟨(some 12), .mov (.c (.int .i64 0)), none⟩])
  (.block 4 (.loop A_law04_LabelsLeastL2)))
  (.seq (.seq (.region false [⟨(some 127), .fldA 0 (.t 3), none⟩,
    ⟨(some 128), .ld none (.t 127), none⟩,
    ⟨(some 129), .len (.t 128), none⟩,
    ⟨(some 130), .bin .eql (.t 129) (.c (.int .i64 0)), none⟩])
  (.cond (.t 130)
   (.seq (.region false [⟨(some 6), .mov (.c (.bool false)), none⟩])
   (.ret))
   (.skip)))
  (.seq (.region false [⟨(some 131), .mov (.t 2), none⟩,
    ⟨(some 132), .conv .i64 (.t 131), none⟩,
    ⟨(some 133), .fldA 0 (.t 3), none⟩,
    ⟨(some 134), .ld none (.t 133), none⟩,
    ⟨(some 135), .len (.t 134), none⟩,
    ⟨(some 136), .bin .rem (.t 132) (.t 135), none⟩,
    ⟨(some 16), .mov (.t 136), none⟩])
  (.seq (.region false [⟨(some 138), .ld (some 2) (.t 3), none⟩,
    ⟨(some 139), .mov (.t 16), none⟩,
    ⟨(some 140), .call F_labels_Down [(.t 138), (.t 139)], none⟩,
    ⟨(some 137), .mov (.t 140), none⟩,
    ⟨(some 141), .extr (.t 137) 0, none⟩,
    ⟨(some 142), .extr (.t 137) 1, none⟩,
    ⟨(some 17), .mov (.t 141), none⟩,
    ⟨(some 8), .mov (.t 142), none⟩])
  (.seq (.region false [⟨(some 144), .ld (some 2) (.t 3), none⟩,
    ⟨(some 145), .mov (.t 16), none⟩,
    ⟨(some 146), .call F_labels_Up [(.t 144), (.t 145)], none⟩,
    ⟨(some 143), .mov (.t 146), none⟩,
    ⟨(some 147), .extr (.t 143) 0, none⟩,
    ⟨(some 148), .extr (.t 143) 1, none⟩,
    ⟨(some 18), .mov (.t 147), none⟩,
    ⟨(some 19), .mov (.t 148), none⟩])
  (.seq (.seq (.region false [⟨(some 149), .mov (.t 8), none⟩,
    ⟨(some 150), .bin .neq (.t 149) (.c (.int .i64 0)), none⟩,
    ⟨(some 151), .mov (.t 150), none⟩,
    ⟨(some 152), .mov (.t 19), some (151, false)⟩,
    ⟨(some 153), .bin .neq (.t 152) (.c (.int .i64 0)), some (151, false)⟩,
    ⟨(some 154), .pick (.t 151) (.c (.bool true)) (.t 153), none⟩,
    ⟨(some 155), .mov (.t 154), none⟩,
    ⟨(some 156), .mov (.t 17), some (155, false)⟩,
    ⟨(some 157), .len (.t 156), some (155, false)⟩,
    ⟨(some 158), .bin .eql (.t 157) (.c (.int .i64 0)), some (155, false)⟩,
    ⟨(some 159), .pick (.t 155) (.c (.bool true)) (.t 158), none⟩,
    ⟨(some 160), .mov (.t 159), none⟩,
    ⟨(some 161), .mov (.t 18), some (160, false)⟩,
    ⟨(some 162), .len (.t 161), some (160, false)⟩,
    ⟨(some 163), .bin .eql (.t 162) (.c (.int .i64 0)), some (160, false)⟩,
    ⟨(some 164), .pick (.t 160) (.c (.bool true)) (.t 163), none⟩,
    ⟨(some 165), .mov (.t 164), none⟩,
    ⟨(some 166), .mov (.t 17), some (165, false)⟩,
    ⟨(some 167), .mov (.t 17), some (165, false)⟩,
    ⟨(some 168), .len (.t 167), some (165, false)⟩,
    ⟨(some 169), .bin .sub (.t 168) (.c (.int .i64 1)), some (165, false)⟩,
    ⟨(some 170), .idxA 1 (.t 166) (.t 169), some (165, false)⟩,
    ⟨(some 171), .ld none (.t 170), some (165, false)⟩,
    ⟨(some 172), .mov (.t 16), some (165, false)⟩,
    ⟨(some 173), .bin .neq (.t 171) (.t 172), some (165, false)⟩,
    ⟨(some 174), .pick (.t 165) (.c (.bool true)) (.t 173), none⟩,
    ⟨(some 175), .mov (.t 174), none⟩,
    ⟨(some 176), .mov (.t 18), some (175, false)⟩,
    ⟨(some 177), .idxA 1 (.t 176) (.c (.int .i64 0)), some (175, false)⟩,
    ⟨(some 178), .ld none (.t 177), some (175, false)⟩,
    ⟨(some 179), .mov (.t 16), some (175, false)⟩,
    ⟨(some 180), .bin .neq (.t 178) (.t 179), some (175, false)⟩,
    ⟨(some 181), .pick (.t 175) (.c (.bool true)) (.t 180), none⟩])
  (.cond (.t 181)
   (.seq (.region false [⟨(some 6), .mov (.c (.bool false)), none⟩])
   (.ret))
   (.skip)))
  (.seq (.region false [⟨(some 20), .mov (.c (.int .i64 0)), none⟩,
    ⟨(some 21), .mov (.c (.int .i64 0)), none⟩])
  (.seq (.seq (.region false [⟨(some 22), .mov (.c (.int .i64 0)), none⟩])
  (.block 10 (.loop A_law04_LabelsLeastL5)))
  (.seq (.seq (.region false [⟨(some 23), .mov (.c (.int .i64 0)), none⟩])
  (.block 12 (.loop A_law04_LabelsLeastL6)))
  (.seq (.seq (.region false [⟨(some 24), .mov (.c (.int .i64 0)), none⟩])
  (.block 14 (.loop A_law04_LabelsLeastL7)))
  (.seq (.region false [⟨(some 229), .mov (.t 17), none⟩,
    ⟨(some 230), .len (.t 229), none⟩,
    ⟨(some 231), .mov (.t 20), none⟩,
    ⟨(some 232), .bin .eql (.t 230) (.t 231), none⟩,
    ⟨(some 233), .mov (.t 232), none⟩,
    ⟨(some 234), .mov (.t 18), some (233, true)⟩,
    ⟨(some 235), .len (.t 234), some (233, true)⟩,
    ⟨(some 236), .mov (.t 21), some (233, true)⟩,
    ⟨(some 237), .bin .eql (.t 235) (.t 236), some (233, true)⟩,
    ⟨(some 238), .pick (.t 233) (.t 237) (.c (.bool false)), none⟩,
    ⟨(some 239), .mov (.t 238), none⟩,
    ⟨(some 240), .call F_law04_awake [], some (239, true)⟩,
    ⟨(some 241), .pick (.t 239) (.t 240) (.c (.bool false)), none⟩,
    ⟨(some 6), .mov (.t 241), none⟩])
  (.ret)))))))))))))))),
  [.tmp 6]⟩

/- law03_Far -/
def A_law03_Far : AFun := ⟨12,
  .seq (.region false [⟨(some 1), .box (.t 0), none⟩,
    ⟨(some 2), .mov (.c (.bool false)), none⟩])
  (.seq (.region false [⟨(some 3), .fldA 0 (.t 1), none⟩,
    ⟨(some 4), .ld none (.t 3), none⟩,
    ⟨(some 5), .call F_law03_long [(.t 4)], none⟩,
    ⟨(some 6), .mov (.t 5), none⟩,
    ⟨(some 7), .fldA 1 (.t 1), some (6, false)⟩,
    ⟨(some 8), .ld none (.t 7), some (6, false)⟩,
    ⟨(some 9), .len (.t 8), some (6, false)⟩,
    ⟨(some 10), .bin .gtr (.t 9) (.c (.int .i64 12)), some (6, false)⟩,
    ⟨(some 11), .pick (.t 6) (.c (.bool true)) (.t 10), none⟩,
    ⟨(some 2), .mov (.t 11), none⟩])
  (.ret)),
  [.tmp 2]⟩

/- law04_awake -/
def A_law04_awake : AFun := ⟨83,
  .seq (.region false [⟨(some 0), .mov (.c (.bool false)), none⟩])
  (.seq (.region false [⟨(some 12), .call F_law03_Diamond [], none⟩,
    ⟨(some 1), .alloc [.sl .ex [], .sl .ex []], none⟩,
    ⟨none, .st 2 (.t 1) (.t 12), none⟩])
  (.seq (.region false [⟨(some 14), .ld (some 2) (.t 1), none⟩,
    ⟨(some 15), .bsl 1 (.int .i64 0) 2 [(0, (.c (.int .i64 1))), (1, (.c (.int .i64 2)))], none⟩,
    ⟨(some 16), .call F_labels_Join [(.t 14), (.t 15)], none⟩,
    ⟨(some 13), .mov (.t 16), none⟩,
    ⟨(some 17), .extr (.t 13) 0, none⟩,
    ⟨(some 18), .extr (.t 13) 1, none⟩,
    ⟨(some 2), .mov (.t 17), none⟩,
    ⟨(some 3), .mov (.t 18), none⟩])
  (.seq (.region false [⟨(some 20), .ld (some 2) (.t 1), none⟩,
    ⟨(some 21), .bsl 1 (.int .i64 0) 3 [(0, (.c (.int .i64 0))), (1, (.c (.int .i64 1))), (2, (.c (.int .i64 2)))], none⟩,
    ⟨(some 22), .call F_labels_Flows [(.t 20), (.t 21), (.c (.int .i64 1))], none⟩,
    ⟨(some 19), .mov (.t 22), none⟩,
    ⟨(some 23), .extr (.t 19) 0, none⟩,
    ⟨(some 24), .extr (.t 19) 1, none⟩,
    ⟨(some 4), .mov (.t 23), none⟩,
    ⟨(some 5), .mov (.t 24), none⟩])
  (.seq (.region false [⟨(some 26), .ld (some 2) (.t 1), none⟩,
    ⟨(some 27), .bsl 1 (.int .i64 0) 4 [(0, (.c (.int .i64 3))), (1, (.c (.int .i64 2))), (2, (.c (.int .i64 1))), (3, (.c (.int .i64 2)))], none⟩,
    ⟨(some 28), .call F_labels_Sort [(.t 26), (.t 27)], none⟩,
    ⟨(some 25), .mov (.t 28), none⟩,
    ⟨(some 29), .extr (.t 25) 0, none⟩,
    ⟨(some 30), .extr (.t 25) 1, none⟩,
    ⟨(some 6), .mov (.t 29), none⟩,
    ⟨(some 7), .mov (.t 30), none⟩])
  (.seq (.region false [⟨(some 32), .ld (some 2) (.t 1), none⟩,
    ⟨(some 33), .bsl 1 (.int .i64 0) 3 [(0, (.c (.int .i64 3))), (1, (.c (.int .i64 2))), (2, (.c (.int .i64 1)))], none⟩,
    ⟨(some 34), .call F_labels_Least [(.t 32), (.t 33)], none⟩,
    ⟨(some 31), .mov (.t 34), none⟩,
    ⟨(some 35), .extr (.t 31) 0, none⟩,
    ⟨(some 36), .extr (.t 31) 1, none⟩,
    ⟨(some 8), .mov (.t 35), none⟩,
    ⟨(some 9), .mov (.t 36), none⟩])
  (.seq (.region false [⟨(some 38), .ld (some 2) (.t 1), none⟩,
    ⟨(some 39), .bsl 1 (.int .i64 0) 2 [(0, (.c (.int .i64 1))), (1, (.c (.int .i64 0)))], none⟩,
    ⟨(some 40), .call F_labels_Show [(.t 38), (.t 39)], none⟩,
    ⟨(some 37), .mov (.t 40), none⟩,
    ⟨(some 41), .extr (.t 37) 0, none⟩,
    ⟨(some 42), .extr (.t 37) 1, none⟩,
    ⟨(some 10), .mov (.t 41), none⟩,
    ⟨(some 11), .mov (.t 42), none⟩])
  (.seq (.region false [⟨(some 43), .mov (.t 3), none⟩,
    ⟨(some 44), .bin .eql (.t 43) (.c (.int .i64 0)), none⟩,
    ⟨(some 45), .mov (.t 44), none⟩,
    ⟨(some 46), .mov (.t 5), some (45, true)⟩,
    ⟨(some 47), .bin .eql (.t 46) (.c (.int .i64 25)), some (45, true)⟩,
    ⟨(some 48), .pick (.t 45) (.t 47) (.c (.bool false)), none⟩,
    ⟨(some 49), .mov (.t 48), none⟩,
    ⟨(some 50), .mov (.t 7), some (49, true)⟩,
    ⟨(some 51), .bin .eql (.t 50) (.c (.int .i64 0)), some (49, true)⟩,
    ⟨(some 52), .pick (.t 49) (.t 51) (.c (.bool false)), none⟩,
    ⟨(some 53), .mov (.t 52), none⟩,
    ⟨(some 54), .mov (.t 9), some (53, true)⟩,
    ⟨(some 55), .bin .eql (.t 54) (.c (.int .i64 0)), some (53, true)⟩,
    ⟨(some 56), .pick (.t 53) (.t 55) (.c (.bool false)), none⟩,
    ⟨(some 57), .mov (.t 56), none⟩,
    ⟨(some 58), .mov (.t 11), some (57, true)⟩,
    ⟨(some 59), .bin .eql (.t 58) (.c (.int .i64 0)), some (57, true)⟩,
    ⟨(some 60), .pick (.t 57) (.t 59) (.c (.bool false)), none⟩,
    ⟨(some 61), .mov (.t 60), none⟩,
    ⟨(some 62), .mov (.t 2), some (61, true)⟩,
    ⟨(some 63), .bin .eql (.t 62) (.c (.int .i64 3)), some (61, true)⟩,
    ⟨(some 64), .pick (.t 61) (.t 63) (.c (.bool false)), none⟩,
    ⟨(some 65), .mov (.t 64), none⟩,
    ⟨(some 66), .mov (.t 4), some (65, true)⟩,
    ⟨(some 67), .bin .eql (.t 66) (.c (.int .i64 2)), some (65, true)⟩,
    ⟨(some 68), .pick (.t 65) (.t 67) (.c (.bool false)), none⟩,
    ⟨(some 69), .mov (.t 68), none⟩,
    ⟨(some 70), .mov (.t 6), some (69, true)⟩,
    ⟨(some 71), .bsl 1 (.int .i64 0) 3 [(0, (.c (.int .i64 1))), (1, (.c (.int .i64 2))), (2, (.c (.int .i64 3)))], some (69, true)⟩,
    ⟨(some 72), .call F_ref04_Same [(.t 70), (.t 71)], some (69, true)⟩,
    ⟨(some 73), .pick (.t 69) (.t 72) (.c (.bool false)), none⟩,
    ⟨(some 74), .mov (.t 73), none⟩,
    ⟨(some 75), .mov (.t 8), some (74, true)⟩,
    ⟨(some 76), .bsl 1 (.int .i64 0) 2 [(0, (.c (.int .i64 1))), (1, (.c (.int .i64 2)))], some (74, true)⟩,
    ⟨(some 77), .call F_ref04_Same [(.t 75), (.t 76)], some (74, true)⟩,
    ⟨(some 78), .pick (.t 74) (.t 77) (.c (.bool false)), none⟩,
    ⟨(some 79), .mov (.t 78), none⟩,
    ⟨(some 80), .mov (.t 10), some (79, true)⟩,
    ⟨(some 81), .bin .eql (.t 80) (.c (.str [97, 110, 110, 44, 108, 111, 119])), some (79, true)⟩,
    ⟨(some 82), .pick (.t 79) (.t 81) (.c (.bool false)), none⟩,
    ⟨(some 0), .mov (.t 82), none⟩])
  (.ret)))))))),
  [.tmp 0]⟩

/- labels_Sort -/
def A_labels_Sort : AFun := ⟨21,
  .seq (.region false [⟨(some 2), .box (.t 0), none⟩,
    ⟨(some 4), .mov (.c (.sl .ex [])), none⟩,
    ⟨(some 5), .mov (.c (.int .i64 0)), none⟩])
  (.seq (.seq (.region false [⟨(some 10), .ld (some 2) (.t 2), none⟩,
    ⟨(some 11), .mov (.t 1), none⟩,
    ⟨(some 12), .call F_labels_Check [(.t 10), (.t 11)], none⟩,
    ⟨(some 9), .mov (.t 12), none⟩,
    ⟨(some 13), .extr (.t 9) 0, none⟩,
    ⟨(some 14), .extr (.t 9) 1, none⟩,
    ⟨(some 6), .mov (.t 13), none⟩,
    ⟨(some 7), .mov (.t 14), none⟩])
  (.seq (.region false [⟨(some 15), .mov (.t 7), none⟩,
    ⟨(some 16), .bin .neq (.t 15) (.c (.int .i64 0)), none⟩])
  (.cond (.t 16)
   (.seq (.region false [⟨(some 17), .mov (.t 7), none⟩,
     ⟨(some 4), .mov (.c (.sl .ex [])), none⟩,
     ⟨(some 5), .mov (.t 17), none⟩])
   (.ret))
   (.skip))))
  (.seq (.region false [⟨(some 18), .ld (some 2) (.t 2), none⟩,
    ⟨(some 8), .alloc [.sl .ex [], .sl .ex []], none⟩,
    ⟨none, .st 2 (.t 8) (.t 18), none⟩])
  (.seq (.region false [⟨(some 19), .mov (.t 1), none⟩,
    ⟨(some 20), .call F_labels_sorted [(.t 8), (.t 19)], none⟩,
    ⟨(some 4), .mov (.t 20), none⟩,
    ⟨(some 5), .mov (.c (.int .i64 0)), none⟩])
  (.ret)))),
  [.tmp 4, .tmp 5]⟩

/- labels_Chain -/
def A_labels_ChainL0 : ACode :=
  .seq (.seq (.region false [⟨(some 20), .mov (.t 9), none⟩,
    ⟨(some 21), .mov (.t 6), none⟩,
    ⟨(some 22), .len (.t 21), none⟩,
    ⟨(some 23), .bin .lss (.t 20) (.t 22), none⟩])
  (.cond (.t 23)
   (.skip)
   (.exit 0)))
  (.seq (.block 1 (.seq (.region true [⟨(some 26), .mov (.t 6), none⟩,
    ⟨(some 27), .mov (.t 9), none⟩,
    ⟨(some 28), .bin .sub (.t 27) (.c (.int .i64 1)), none⟩,
    ⟨(some 29), .idxA 1 (.t 26) (.t 28), none⟩,
    ⟨(some 30), .ld none (.t 29), none⟩,
    ⟨(some 31), .mov (.t 6), none⟩,
    ⟨(some 32), .mov (.t 9), none⟩,
    ⟨(some 33), .idxA 1 (.t 31) (.t 32), none⟩,
    ⟨(some 34), .ld none (.t 33), none⟩,
    ⟨(some 35), .call F_labels_order_below [(.t 8), (.t 30), (.t 34)], none⟩,
    ⟨(some 36), .not (.t 35), none⟩])
  (.cond (.t 36)
   (.seq (.region false [⟨(some 4), .mov (.c (.bool false)), none⟩,
     ⟨(some 5), .mov (.c (.int .i64 0)), none⟩])
   (.ret))
   (.skip))))
  (.region false [⟨(some 24), .mov (.t 9), none⟩,
    ⟨(some 25), .bin .add (.t 24) (.c (.int .i64 1)), none⟩,
    ⟨(some 9), .mov (.t 25), none⟩]))
def A_labels_Chain : AFun := ⟨37,
  .seq (.region false [⟨(some 2), .box (.t 0), none⟩,
    ⟨(some 4), .mov (.c (.bool false)), none⟩,
    ⟨(some 5), .mov (.c (.int .i64 0)), none⟩])
  (.seq (.region false [⟨(some 11), .ld (some 2) (.t 2), none⟩,
    ⟨(some 12), .mov (.t 1), none⟩,
    ⟨(some 13), .call F_labels_Sort [(.t 11), (.t 12)], none⟩,
    ⟨(some 10), .mov (.t 13), none⟩,
    ⟨(some 14), .extr (.t 10) 0, none⟩,
    ⟨(some 15), .extr (.t 10) 1, none⟩,
    ⟨(some 6), .mov (.t 14), none⟩,
    ⟨(some 7), .mov (.t 15), none⟩])
  (.seq (.seq (.region false [⟨(some 16), .mov (.t 7), none⟩,
    ⟨(some 17), .bin .neq (.t 16) (.c (.int .i64 0)), none⟩])
  (.cond (.t 17)
   (.seq (.region false [⟨(some 18), .mov (.t 7), none⟩,
     ⟨(some 4), .mov (.c (.bool false)), none⟩,
     ⟨(some 5), .mov (.t 18), none⟩])
   (.ret))
   (.skip)))
  (.seq (.region false [⟨(some 19), .ld (some 2) (.t 2), none⟩,
    ⟨(some 8), .alloc [.sl .ex [], .sl .ex []], none⟩,
    ⟨none, .st 2 (.t 8) (.t 19), none⟩])
  (.seq (.seq (.region false [⟨(some 9), .mov (.c (.int .i64 1)), none⟩])
  (.block 0 (.loop A_labels_ChainL0)))
  (.seq (.region false [⟨(some 4), .mov (.c (.bool true)), none⟩,
    ⟨(some 5), .mov (.c (.int .i64 0)), none⟩])
  (.ret)))))),
  [.tmp 4, .tmp 5]⟩

/- ref04_Same -/
def A_ref04_SameL0 : ACode :=
  .seq (.seq (.region false [⟨(some 11), .mov (.t 5), none⟩,
    ⟨(some 12), .mov (.t 0), none⟩,
    ⟨(some 13), .len (.t 12), none⟩,
    ⟨(some 14), .bin .lss (.t 11) (.t 13), none⟩])
  (.cond (.t 14)
   (.skip)
   (.exit 0)))
  (.seq (.block 1 (.seq (.region true [⟨(some 17), .mov (.t 0), none⟩,
    ⟨(some 18), .mov (.t 5), none⟩,
    ⟨(some 19), .idxA 1 (.t 17) (.t 18), none⟩,
    ⟨(some 20), .ld none (.t 19), none⟩,
    ⟨(some 21), .mov (.t 1), none⟩,
    ⟨(some 22), .mov (.t 5), none⟩,
    ⟨(some 23), .idxA 1 (.t 21) (.t 22), none⟩,
    ⟨(some 24), .ld none (.t 23), none⟩,
    ⟨(some 25), .bin .neq (.t 20) (.t 24), none⟩])
  (.cond (.t 25)
   (.seq (.region false [⟨(some 4), .mov (.c (.bool false)), none⟩])
   (.ret))
   (.skip))))
  (.region false [⟨(some 15), .mov (.t 5), none⟩,
    ⟨(some 16), .bin .add (.t 15) (.c (.int .i64 1)), none⟩,
    ⟨(some 5), .mov (.t 16), none⟩]))
def A_ref04_Same : AFun := ⟨26,
  .seq (.region false [⟨(some 4), .mov (.c (.bool false)), none⟩])
  (.seq (.seq (.region false [⟨(some 6), .mov (.t 0), none⟩,
    ⟨(some 7), .len (.t 6), none⟩,
    ⟨(some 8), .mov (.t 1), none⟩,
    ⟨(some 9), .len (.t 8), none⟩,
    ⟨(some 10), .bin .neq (.t 7) (.t 9), none⟩])
  (.cond (.t 10)
   (.seq (.region false [⟨(some 4), .mov (.c (.bool false)), none⟩])
   (.ret))
   (.skip)))
  (.seq (.seq (.region false [⟨(some 5), .mov (.c (.int .i64 0)), none⟩])
  (.block 0 (.loop A_ref04_SameL0)))
  (.seq (.region false [⟨(some 4), .mov (.c (.bool true)), none⟩])
  (.ret)))),
  [.tmp 4]⟩

/- ref03_Below -/
def A_ref03_Below : AFun := ⟨31,
  .seq (.region false [⟨(some 3), .box (.t 0), none⟩,
    ⟨(some 6), .mov (.c (.bool false)), none⟩])
  (.seq (.region false [⟨(some 7), .mov (.t 1), none⟩,
    ⟨(some 8), .bin .geq (.t 7) (.c (.int .i64 0)), none⟩,
    ⟨(some 9), .mov (.t 8), none⟩,
    ⟨(some 10), .mov (.t 1), some (9, true)⟩,
    ⟨(some 11), .fldA 1 (.t 3), some (9, true)⟩,
    ⟨(some 12), .ld none (.t 11), some (9, true)⟩,
    ⟨(some 13), .len (.t 12), some (9, true)⟩,
    ⟨(some 14), .bin .lss (.t 10) (.t 13), some (9, true)⟩,
    ⟨(some 15), .pick (.t 9) (.t 14) (.c (.bool false)), none⟩,
    ⟨(some 16), .mov (.t 15), none⟩,
    ⟨(some 17), .mov (.t 2), some (16, true)⟩,
    ⟨(some 18), .bin .geq (.t 17) (.c (.int .i64 0)), some (16, true)⟩,
    ⟨(some 19), .pick (.t 16) (.t 18) (.c (.bool false)), none⟩,
    ⟨(some 20), .mov (.t 19), none⟩,
    ⟨(some 21), .fldA 1 (.t 3), some (20, true)⟩,
    ⟨(some 22), .ld none (.t 21), some (20, true)⟩,
    ⟨(some 23), .mov (.t 1), some (20, true)⟩,
    ⟨(some 24), .idxA 1 (.t 22) (.t 23), some (20, true)⟩,
    ⟨(some 25), .ld none (.t 24), some (20, true)⟩,
    ⟨(some 26), .mov (.t 2), some (20, true)⟩,
    ⟨(some 27), .bin .shr (.t 25) (.t 26), some (20, true)⟩,
    ⟨(some 28), .bin .rem (.t 27) (.c (.int .u8 2)), some (20, true)⟩,
    ⟨(some 29), .bin .eql (.t 28) (.c (.int .u8 1)), some (20, true)⟩,
    ⟨(some 30), .pick (.t 20) (.t 29) (.c (.bool false)), none⟩,
    ⟨(some 6), .mov (.t 30), none⟩])
  (.ret)),
  [.tmp 6]⟩

/- labels_Least -/
def A_labels_LeastL0 : ACode :=
  .seq (.region false [⟨(some 25), .bin .lss (.t 24) (.t 23), none⟩])
  (.seq (.cond (.t 25)
   (.skip)
   (.exit 0))
  (.seq (.block 1 (.seq (.region false [⟨(some 26), .idxA 1 (.t 22) (.t 24), none⟩,
    ⟨(some 27), .ld none (.t 26), none⟩,
    ⟨(some 11), .alloc [.int .i64 0], none⟩,
    ⟨none, .st 1 (.t 11) (.t 27), none⟩])
  (.seq (.region false [⟨(some 28), .mov (.t 9), none⟩,
    ⟨(some 29), .mkf F_labels_Least_1 [] [(.t 8), (.t 11)], none⟩,
    ⟨(some 30), .call F_slices_ContainsFunc_int_int [(.t 28), (.t 29)], none⟩,
    ⟨(some 31), .not (.t 30), none⟩])
  (.cond (.t 31)
   (.region false [⟨(some 32), .mov (.t 9), none⟩,
     ⟨(some 33), .ld none (.t 11), none⟩,
     ⟨(some 34), .bsl 1 (.int .i64 0) 1 [(0, (.t 33))], none⟩,
     ⟨(some 35), .app 1 8 (.t 32) (.t 34), none⟩,
     ⟨(some 9), .mov (.t 35), none⟩])
   (.skip)))))
  (.region false [⟨(some 36), .bin .add (.t 24) (.c (.int .i64 1)), none⟩,
    ⟨(some 24), .mov (.t 36), none⟩])))
def A_labels_Least : AFun := ⟨38,
  .seq (.region false [⟨(some 2), .box (.t 0), none⟩,
    ⟨(some 4), .mov (.c (.sl .ex [])), none⟩,
    ⟨(some 5), .mov (.c (.int .i64 0)), none⟩])
  (.seq (.region false [⟨(some 13), .ld (some 2) (.t 2), none⟩,
    ⟨(some 14), .mov (.t 1), none⟩,
    ⟨(some 15), .call F_labels_Sort [(.t 13), (.t 14)], none⟩,
    ⟨(some 12), .mov (.t 15), none⟩,
    ⟨(some 16), .extr (.t 12) 0, none⟩,
    ⟨(some 17), .extr (.t 12) 1, none⟩,
    ⟨(some 6), .mov (.t 16), none⟩,
    ⟨(some 7), .mov (.t 17), none⟩])
  (.seq (.seq (.region false [⟨(some 18), .mov (.t 7), none⟩,
    ⟨(some 19), .bin .neq (.t 18) (.c (.int .i64 0)), none⟩])
  (.cond (.t 19)
   (.seq (.region false [⟨(some 20), .mov (.t 7), none⟩,
     ⟨(some 4), .mov (.c (.sl .ex [])), none⟩,
     ⟨(some 5), .mov (.t 20), none⟩])
   (.ret))
   (.skip)))
  (.seq (.region false [⟨(some 21), .ld (some 2) (.t 2), none⟩,
    ⟨(some 8), .alloc [.sl .ex [], .sl .ex []], none⟩,
    ⟨none, .st 2 (.t 8) (.t 21), none⟩])
  (.seq (.region false [⟨(some 9), .mov (.c (.sl .ex [])), none⟩])
  (.seq (.seq (.region false [⟨(some 22), .mov (.t 6), none⟩,
    ⟨(some 23), .len (.t 22), none⟩,
    ⟨(some 24), .mov (.c (.int .i64 0)), none⟩])
  (.block 0 (.loop A_labels_LeastL0)))
  (.seq (.region false [⟨(some 37), .mov (.t 9), none⟩,
    ⟨(some 4), .mov (.t 37), none⟩,
    ⟨(some 5), .mov (.c (.int .i64 0)), none⟩])
  (.ret))))))),
  [.tmp 4, .tmp 5]⟩

/- labels_Down -/
def A_labels_Down : AFun := ⟨12,
  .seq (.region false [⟨(some 2), .box (.t 0), none⟩,
    ⟨(some 3), .box (.t 1), none⟩,
    ⟨(some 4), .mov (.c (.sl .ex [])), none⟩,
    ⟨(some 5), .mov (.c (.int .i64 0)), none⟩])
  (.seq (.region false [⟨(some 6), .ld (some 2) (.t 2), none⟩,
    ⟨(some 7), .ld none (.t 3), none⟩,
    ⟨(some 8), .mkf F_labels_Down_1 [] [(.t 3)], none⟩,
    ⟨(some 9), .call F_labels_beyond [(.t 6), (.t 7), (.t 8)], none⟩,
    ⟨(some 10), .extr (.t 9) 0, none⟩,
    ⟨(some 11), .extr (.t 9) 1, none⟩,
    ⟨(some 4), .mov (.t 10), none⟩,
    ⟨(some 5), .mov (.t 11), none⟩])
  (.ret)),
  [.tmp 4, .tmp 5]⟩

/- labels_Up -/
def A_labels_Up : AFun := ⟨12,
  .seq (.region false [⟨(some 2), .box (.t 0), none⟩,
    ⟨(some 3), .box (.t 1), none⟩,
    ⟨(some 4), .mov (.c (.sl .ex [])), none⟩,
    ⟨(some 5), .mov (.c (.int .i64 0)), none⟩])
  (.seq (.region false [⟨(some 6), .ld (some 2) (.t 2), none⟩,
    ⟨(some 7), .ld none (.t 3), none⟩,
    ⟨(some 8), .mkf F_labels_Up_1 [] [(.t 3)], none⟩,
    ⟨(some 9), .call F_labels_beyond [(.t 6), (.t 7), (.t 8)], none⟩,
    ⟨(some 10), .extr (.t 9) 0, none⟩,
    ⟨(some 11), .extr (.t 9) 1, none⟩,
    ⟨(some 4), .mov (.t 10), none⟩,
    ⟨(some 5), .mov (.t 11), none⟩])
  (.ret)),
  [.tmp 4, .tmp 5]⟩

/- law03_long -/
def A_law03_longL0 : ACode :=
  .seq (.seq (.region false [⟨(some 4), .mov (.t 3), none⟩,
    ⟨(some 5), .mov (.t 0), none⟩,
    ⟨(some 6), .len (.t 5), none⟩,
    ⟨(some 7), .bin .lss (.t 4) (.t 6), none⟩,
    ⟨(some 8), .mov (.t 7), none⟩,
    ⟨(some 9), .mov (.t 3), some (8, true)⟩,
    ⟨(some 10), .bin .lss (.t 9) (.c (.int .i64 20)), some (8, true)⟩,
    ⟨(some 11), .pick (.t 8) (.t 10) (.c (.bool false)), none⟩])
  (.cond (.t 11)
   (.skip)
   (.exit 0)))
  (.seq (.block 1 (.seq (.region false [⟨(some 14), .mov (.t 0), none⟩,
    ⟨(some 15), .mov (.t 3), none⟩,
    ⟨(some 16), .idxA 1 (.t 14) (.t 15), none⟩,
    ⟨(some 17), .ld none (.t 16), none⟩,
    ⟨(some 18), .lenS (.t 17), none⟩,
    ⟨(some 19), .bin .gtr (.t 18) (.c (.int .i64 100)), none⟩])
  (.cond (.t 19)
   (.seq (.region false [⟨(some 2), .mov (.c (.bool true)), none⟩])
   (.ret))
   (.skip))))
  (.region false [⟨(some 12), .mov (.t 3), none⟩,
    ⟨(some 13), .bin .add (.t 12) (.c (.int .i64 1)), none⟩,
    ⟨(some 3), .mov (.t 13), none⟩]))
def A_law03_long : AFun := ⟨23,
  .seq (.region false [⟨(some 2), .mov (.c (.bool false)), none⟩])
  (.seq (.seq (.region false [⟨(some 3), .mov (.c (.int .i64 0)), none⟩])
  (.block 0 (.loop A_law03_longL0)))
  (.seq (.region false [⟨(some 20), .mov (.t 0), none⟩,
    ⟨(some 21), .len (.t 20), none⟩,
    ⟨(some 22), .bin .gtr (.t 21) (.c (.int .i64 12)), none⟩,
    ⟨(some 2), .mov (.t 22), none⟩])
  (.ret))),
  [.tmp 2]⟩

/- law03_Diamond -/
def A_law03_Diamond : AFun := ⟨4,
  .seq (.region false [⟨(some 0), .alloc [.sl .ex [], .sl .ex []], none⟩])
  (.seq (.region false [⟨(some 1), .bsl 1 (.str []) 4 [(0, (.c (.str [108, 111, 119]))), (1, (.c (.str [97, 110, 110]))), (2, (.c (.str [98, 111, 98]))), (3, (.c (.str [116, 111, 112])))], none⟩,
    ⟨(some 2), .bsl 1 (.int .u8 0) 4 [(0, (.c (.int .u8 15))), (1, (.c (.int .u8 10))), (2, (.c (.int .u8 12))), (3, (.c (.int .u8 8)))], none⟩,
    ⟨(some 3), .build [.sl .ex [], .sl .ex []] [(0, 1, (.t 1)), (1, 1, (.t 2))], none⟩,
    ⟨none, .st 2 (.t 0) (.t 3), none⟩])
  (.ret)),
  [.cell (some 2) 0]⟩

/- labels_Join -/
def A_labels_Join : AFun := ⟨31,
  .seq (.region false [⟨(some 2), .box (.t 0), none⟩,
    ⟨(some 4), .mov (.c (.int .i64 0)), none⟩,
    ⟨(some 5), .mov (.c (.int .i64 0)), none⟩])
  (.seq (.seq (.region false [⟨(some 12), .ld (some 2) (.t 2), none⟩,
    ⟨(some 13), .mov (.t 1), none⟩,
    ⟨(some 14), .call F_labels_Check [(.t 12), (.t 13)], none⟩,
    ⟨(some 11), .mov (.t 14), none⟩,
    ⟨(some 15), .extr (.t 11) 0, none⟩,
    ⟨(some 16), .extr (.t 11) 1, none⟩,
    ⟨(some 6), .mov (.t 15), none⟩,
    ⟨(some 7), .mov (.t 16), none⟩])
  (.seq (.region false [⟨(some 17), .mov (.t 7), none⟩,
    ⟨(some 18), .bin .neq (.t 17) (.c (.int .i64 0)), none⟩])
  (.cond (.t 18)
   (.seq (.region false [⟨(some 19), .mov (.t 7), none⟩,
     ⟨(some 4), .mov (.c (.int .i64 0)), none⟩,
     ⟨(some 5), .mov (.t 19), none⟩])
   (.ret))
   (.skip))))
  (.seq (.region false [⟨(some 21), .ld (some 2) (.t 2), none⟩,
    ⟨(some 22), .call F_lattice_Bottom [(.t 21)], none⟩,
    ⟨(some 20), .mov (.t 22), none⟩,
    ⟨(some 23), .extr (.t 20) 0, none⟩,
    ⟨(some 24), .extr (.t 20) 1, none⟩,
    ⟨(some 8), .mov (.t 23), none⟩,
    ⟨(some 9), .mov (.t 24), none⟩])
  (.seq (.region false [⟨(some 25), .ld (some 2) (.t 2), none⟩,
    ⟨(some 10), .alloc [.sl .ex [], .sl .ex []], none⟩,
    ⟨none, .st 2 (.t 10) (.t 25), none⟩])
  (.seq (.region false [⟨(some 26), .mov (.t 1), none⟩,
    ⟨(some 27), .mov (.t 8), none⟩,
    ⟨(some 28), .mkf F_labels_order_join [(.t 10)] [], none⟩,
    ⟨(some 29), .call F_labels_fold [(.t 26), (.t 27), (.t 28)], none⟩,
    ⟨(some 30), .mov (.t 9), none⟩,
    ⟨(some 4), .mov (.t 29), none⟩,
    ⟨(some 5), .mov (.t 30), none⟩])
  (.ret))))),
  [.tmp 4, .tmp 5]⟩

/- labels_Flows -/
def A_labels_Flows : AFun := ⟨38,
  .seq (.region false [⟨(some 3), .box (.t 0), none⟩,
    ⟨(some 5), .box (.t 2), none⟩,
    ⟨(some 6), .mov (.c (.int .i64 0)), none⟩,
    ⟨(some 7), .mov (.c (.int .i64 0)), none⟩])
  (.seq (.seq (.region false [⟨(some 13), .ld (some 2) (.t 3), none⟩,
    ⟨(some 14), .mov (.t 1), none⟩,
    ⟨(some 15), .call F_labels_Check [(.t 13), (.t 14)], none⟩,
    ⟨(some 12), .mov (.t 15), none⟩,
    ⟨(some 16), .extr (.t 12) 0, none⟩,
    ⟨(some 17), .extr (.t 12) 1, none⟩,
    ⟨(some 8), .mov (.t 16), none⟩,
    ⟨(some 9), .mov (.t 17), none⟩])
  (.seq (.region false [⟨(some 18), .mov (.t 9), none⟩,
    ⟨(some 19), .bin .neq (.t 18) (.c (.int .i64 0)), none⟩])
  (.cond (.t 19)
   (.seq (.region false [⟨(some 20), .mov (.t 8), none⟩,
     ⟨(some 21), .mov (.t 9), none⟩,
     ⟨(some 6), .mov (.t 20), none⟩,
     ⟨(some 7), .mov (.t 21), none⟩])
   (.ret))
   (.skip))))
  (.seq (.seq (.region false [⟨(some 22), .ld none (.t 5), none⟩,
    ⟨(some 23), .bin .lss (.t 22) (.c (.int .i64 0)), none⟩,
    ⟨(some 24), .mov (.t 23), none⟩,
    ⟨(some 25), .ld none (.t 5), some (24, false)⟩,
    ⟨(some 26), .fldA 0 (.t 3), some (24, false)⟩,
    ⟨(some 27), .ld none (.t 26), some (24, false)⟩,
    ⟨(some 28), .len (.t 27), some (24, false)⟩,
    ⟨(some 29), .bin .geq (.t 25) (.t 28), some (24, false)⟩,
    ⟨(some 30), .pick (.t 24) (.c (.bool true)) (.t 29), none⟩])
  (.cond (.t 30)
   (.seq (.region false [⟨(some 6), .mov (.c (.int .i64 (-1))), none⟩,
     ⟨(some 7), .mov (.c (.int .i64 7)), none⟩])
   (.ret))
   (.skip)))
  (.seq (.region false [⟨(some 31), .ld (some 2) (.t 3), none⟩,
    ⟨(some 10), .alloc [.sl .ex [], .sl .ex []], none⟩,
    ⟨none, .st 2 (.t 10) (.t 31), none⟩])
  (.seq (.seq (.region false [⟨(some 32), .mov (.t 1), none⟩,
    ⟨(some 33), .mkf F_labels_Flows_1 [] [(.t 10), (.t 5)], none⟩,
    ⟨(some 34), .call F_slices_IndexFunc_int_int [(.t 32), (.t 33)], none⟩,
    ⟨(some 11), .mov (.t 34), none⟩])
  (.seq (.region false [⟨(some 35), .mov (.t 11), none⟩,
    ⟨(some 36), .bin .geq (.t 35) (.c (.int .i64 0)), none⟩])
  (.cond (.t 36)
   (.seq (.region false [⟨(some 37), .mov (.t 11), none⟩,
     ⟨(some 6), .mov (.t 37), none⟩,
     ⟨(some 7), .mov (.c (.int .i64 25)), none⟩])
   (.ret))
   (.skip))))
  (.seq (.region false [⟨(some 6), .mov (.c (.int .i64 0)), none⟩,
    ⟨(some 7), .mov (.c (.int .i64 0)), none⟩])
  (.ret)))))),
  [.tmp 6, .tmp 7]⟩

section
variable {X : Cx} (hX : X.P = Go.Proofs.Tryd.prog)
include hX
theorem A_law04_LabelsOrder_ok : compileFun X.P F_law04_LabelsOrder (fun _ => false) = some A_law04_LabelsOrder := by rw [hX]; kernel_rfl
theorem A_law04_LabelsLeast_ok : compileFun X.P F_law04_LabelsLeast (fun _ => false) = some A_law04_LabelsLeast := by rw [hX]; kernel_rfl
theorem A_law03_Far_ok : compileFun X.P F_law03_Far (fun _ => false) = some A_law03_Far := by rw [hX]; kernel_rfl
theorem A_law04_awake_ok : compileFun X.P F_law04_awake (fun _ => false) = some A_law04_awake := by rw [hX]; kernel_rfl
theorem A_labels_Sort_ok : compileFun X.P F_labels_Sort (fun _ => false) = some A_labels_Sort := by rw [hX]; kernel_rfl
theorem A_labels_Chain_ok : compileFun X.P F_labels_Chain (fun _ => false) = some A_labels_Chain := by rw [hX]; kernel_rfl
theorem A_ref04_Same_ok : compileFun X.P F_ref04_Same (fun _ => false) = some A_ref04_Same := by rw [hX]; kernel_rfl
theorem A_ref03_Below_ok : compileFun X.P F_ref03_Below (fun _ => false) = some A_ref03_Below := by rw [hX]; kernel_rfl
theorem A_labels_Least_ok : compileFun X.P F_labels_Least (fun _ => false) = some A_labels_Least := by rw [hX]; kernel_rfl
theorem A_labels_Down_ok : compileFun X.P F_labels_Down (fun _ => false) = some A_labels_Down := by rw [hX]; kernel_rfl
theorem A_labels_Up_ok : compileFun X.P F_labels_Up (fun _ => false) = some A_labels_Up := by rw [hX]; kernel_rfl
theorem A_law03_long_ok : compileFun X.P F_law03_long (fun _ => false) = some A_law03_long := by rw [hX]; kernel_rfl
theorem A_law03_Diamond_ok : compileFun X.P F_law03_Diamond (fun _ => false) = some A_law03_Diamond := by rw [hX]; kernel_rfl
theorem A_labels_Join_ok : compileFun X.P F_labels_Join (fun _ => false) = some A_labels_Join := by rw [hX]; kernel_rfl
theorem A_labels_Flows_ok : compileFun X.P F_labels_Flows (fun _ => false) = some A_labels_Flows := by rw [hX]; kernel_rfl
end
end Go.Avm
