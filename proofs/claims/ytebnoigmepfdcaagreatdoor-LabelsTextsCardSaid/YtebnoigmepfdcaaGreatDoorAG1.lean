/- The functions as they have been read. -/
import Derived.Test.YtebnoigmepfdcaaGreatDoorA8
import Derived.Test.YtebnoigmepfdcaaGreatDoorProg
set_option linter.unusedSectionVars false
set_option linter.unusedSimpArgs false
set_option linter.unusedVariables false

/- The functions as they have been read. -/
namespace Go.Avm
open Go
def F_law04_LabelsChains : Nat := 3
def F_law04_LabelsSorts : Nat := 4
def F_law04_LabelsJoins : Nat := 5
def F_law04_LabelsFolds : Nat := 6
def F_law04_LabelsTexts : Nat := 7
def F_law04_LabelsKnown : Nat := 8
def F_law03_Far : Nat := 9
def F_law04_awake : Nat := 10
def F_labels_Chain : Nat := 11
def F_ref04_Chain : Nat := 12
def F_labels_Least : Nat := 13
def F_ref04_Least : Nat := 14
def F_ref04_Same : Nat := 15
def F_labels_Down : Nat := 16
def F_ref04_Down : Nat := 17
def F_labels_Up : Nat := 18
def F_ref04_Up : Nat := 19
def F_labels_Sort : Nat := 20
def F_ref04_Sort : Nat := 21
def F_labels_Check : Nat := 22
def F_ref04_Check : Nat := 23
def F_labels_Join : Nat := 24
def F_ref04_Join : Nat := 25
def F_labels_Meet : Nat := 26
def F_ref04_Meet : Nat := 27
def F_labels_Flows : Nat := 28
def F_ref04_Flows : Nat := 29
def F_ref03_Join : Nat := 30
def F_ref03_Bottom : Nat := 31
def F_ref03_Top : Nat := 32
def F_ref03_Meet : Nat := 33
def F_ref03_Below : Nat := 34
def F_labels_Show : Nat := 35
def F_ref04_Show : Nat := 36
def F_labels_Read : Nat := 37
def F_ref04_Read : Nat := 38
def F_law03_Diamond : Nat := 39
def F_law03_long : Nat := 40
def F_labels_order_below : Nat := 41
def F_slices_ContainsFunc_int_int : Nat := 42
def F_labels_Least_1 : Nat := 43
def F_ref04_sorted : Nat := 44
def F_labels_beyond : Nat := 45
def F_labels_Down_1 : Nat := 46
def F_labels_Up_1 : Nat := 47
def F_labels_sorted : Nat := 48
def F_lattice_Check : Nat := 49
def F_ref03_Check : Nat := 50
def F_lattice_Bottom : Nat := 51
def F_labels_fold : Nat := 52
def F_labels_order_join : Nat := 53
def F_ref04_JoinAll : Nat := 54
def F_lattice_Top : Nat := 55
def F_labels_order_meet : Nat := 56
def F_slices_IndexFunc_int_int : Nat := 57
def F_labels_Flows_1 : Nat := 58
def F_ref03_asked : Nat := 59
def F_ref03_join : Nat := 60
def F_ref03_downs : Nat := 61
def F_ref03_nearest : Nat := 62
def F_ref03_meet : Nat := 63
def F_strings_Join : Nat := 64
def F_strings_Split : Nat := 65
def F_slices_Contains_string_string : Nat := 66
def F_lattice_Find : Nat := 67
def F_ref03_Find : Nat := 68
def F_ref04_level : Nat := 69
def F_ref04_has : Nat := 70
def F_slices_Clone_int_int : Nat := 71
def F_slices_SortFunc_int_int : Nat := 72
def F_labels_sorted_1 : Nat := 73
def F_labels_compare : Nat := 74
def F_slices_Compact_int_int : Nat := 75
def F_lattice_named : Nat := 76
def F_bits_Len8 : Nat := 77
def F_lattice_of : Nat := 78
def F_lattice_bound_lattice_ups : Nat := 79
def F_lattice_bound_lattice_downs : Nat := 80
def F_ref03_names : Nat := 81
def F_ref03_ordered : Nat := 82
def F_lattice_asked : Nat := 83
def F_lattice_end_lattice_ups : Nat := 84
def F_lattice_Join : Nat := 85
def F_lattice_end_lattice_downs : Nat := 86
def F_lattice_Meet : Nat := 87
def F_strings_Builder_WriteString : Nat := 89
def F_strings_Builder_String : Nat := 90
def F_strings_genSplit : Nat := 91
def F_slices_Index_string_string : Nat := 92
def F_words_Name : Nat := 95
def F_ref01_Name : Nat := 96
def F_bits_OnesCount8 : Nat := 97
def F_strings_explode : Nat := 100
def F_strings_Count : Nat := 101
def F_strings_Index : Nat := 102
def F_strings_Trim : Nat := 113
def F_ref01_lower : Nat := 114
def F_ref01_digit : Nat := 115
def F_utf8_DecodeRuneInString : Nat := 119
def F_stringslite_Index : Nat := 121
def F_strings_trimLeftByte : Nat := 127
def F_strings_trimRightByte : Nat := 128
def F_strings_makeASCIISet : Nat := 129
def F_strings_trimLeftASCII : Nat := 130
def F_strings_trimRightASCII : Nat := 131
def F_strings_trimLeftUnicode : Nat := 132
def F_strings_trimRightUnicode : Nat := 133
def F_utf8_decodeRuneInStringSlow : Nat := 134
def F_stringslite_IndexByte : Nat := 135
def F_bytealg_Cutover : Nat := 137
def F_strings_asciiSet_contains : Nat := 140
def F_strings_ContainsRune : Nat := 141
def F_utf8_DecodeLastRuneInString : Nat := 142
def F_strings_IndexRune : Nat := 145
def F_utf8_RuneStart : Nat := 146
def F_strings_IndexByte : Nat := 147
def F_utf8_ValidRune : Nat := 148
def F_labels_levels_less : Nat := 164
/- law04_LabelsChains -/
def A_law04_LabelsChains : AFun := ⟨66,
  .seq (.region false [⟨(some 2), .box (.t 0), none⟩,
    ⟨(some 4), .mov (.c (.bool false)), none⟩])
  (.seq (.seq (.region false [⟨(some 13), .ld (some 2) (.t 2), none⟩,
    ⟨(some 14), .call F_law03_Far [(.t 13)], none⟩,
    ⟨(some 15), .mov (.t 14), none⟩,
    ⟨(some 16), .mov (.t 1), some (15, false)⟩,
    ⟨(some 17), .len (.t 16), some (15, false)⟩,
    ⟨(some 18), .bin .gtr (.t 17) (.c (.int .i64 80)), some (15, false)⟩,
    ⟨(some 19), .pick (.t 15) (.c (.bool true)) (.t 18), none⟩])
  (.cond (.t 19)
   (.seq (.region false [⟨(some 20), .call F_law04_awake [], none⟩,
     ⟨(some 4), .mov (.t 20), none⟩])
   (.ret))
   (.skip)))
  (.seq (.region false [⟨(some 22), .ld (some 2) (.t 2), none⟩,
    ⟨(some 23), .mov (.t 1), none⟩,
    ⟨(some 24), .call F_labels_Chain [(.t 22), (.t 23)], none⟩,
    ⟨(some 21), .mov (.t 24), none⟩,
    ⟨(some 25), .extr (.t 21) 0, none⟩,
    ⟨(some 26), .extr (.t 21) 1, none⟩,
    ⟨(some 5), .mov (.t 25), none⟩,
    ⟨(some 6), .mov (.t 26), none⟩])
  (.seq (.region false [⟨(some 28), .ld (some 2) (.t 2), none⟩,
    ⟨(some 29), .mov (.t 1), none⟩,
    ⟨(some 30), .call F_ref04_Chain [(.t 28), (.t 29)], none⟩,
    ⟨(some 27), .mov (.t 30), none⟩,
    ⟨(some 31), .extr (.t 27) 0, none⟩,
    ⟨(some 32), .extr (.t 27) 1, none⟩,
    ⟨(some 7), .mov (.t 31), none⟩,
    ⟨(some 8), .mov (.t 32), none⟩])
  (.seq (.region false [⟨(some 34), .ld (some 2) (.t 2), none⟩,
    ⟨(some 35), .mov (.t 1), none⟩,
    ⟨(some 36), .call F_labels_Least [(.t 34), (.t 35)], none⟩,
    ⟨(some 33), .mov (.t 36), none⟩,
    ⟨(some 37), .extr (.t 33) 0, none⟩,
    ⟨(some 38), .extr (.t 33) 1, none⟩,
    ⟨(some 9), .mov (.t 37), none⟩,
    ⟨(some 10), .mov (.t 38), none⟩])
  (.seq (.region false [⟨(some 40), .ld (some 2) (.t 2), none⟩,
    ⟨(some 41), .mov (.t 1), none⟩,
    ⟨(some 42), .call F_ref04_Least [(.t 40), (.t 41)], none⟩,
    ⟨(some 39), .mov (.t 42), none⟩,
    ⟨(some 43), .extr (.t 39) 0, none⟩,
    ⟨(some 44), .extr (.t 39) 1, none⟩,
    ⟨(some 11), .mov (.t 43), none⟩,
    ⟨(some 12), .mov (.t 44), none⟩])
  (.seq (.region false [⟨(some 45), .mov (.t 5), none⟩,
    ⟨(some 46), .mov (.t 7), none⟩,
    ⟨(some 47), .beq false (.t 45) (.t 46), none⟩,
    ⟨(some 48), .mov (.t 47), none⟩,
    ⟨(some 49), .mov (.t 6), some (48, true)⟩,
    ⟨(some 50), .mov (.t 8), some (48, true)⟩,
    ⟨(some 51), .bin .eql (.t 49) (.t 50), some (48, true)⟩,
    ⟨(some 52), .pick (.t 48) (.t 51) (.c (.bool false)), none⟩,
    ⟨(some 53), .mov (.t 52), none⟩,
    ⟨(some 54), .mov (.t 9), some (53, true)⟩,
    ⟨(some 55), .mov (.t 11), some (53, true)⟩,
    ⟨(some 56), .call F_ref04_Same [(.t 54), (.t 55)], some (53, true)⟩,
    ⟨(some 57), .pick (.t 53) (.t 56) (.c (.bool false)), none⟩,
    ⟨(some 58), .mov (.t 57), none⟩,
    ⟨(some 59), .mov (.t 10), some (58, true)⟩,
    ⟨(some 60), .mov (.t 12), some (58, true)⟩,
    ⟨(some 61), .bin .eql (.t 59) (.t 60), some (58, true)⟩,
    ⟨(some 62), .pick (.t 58) (.t 61) (.c (.bool false)), none⟩,
    ⟨(some 63), .mov (.t 62), none⟩,
    ⟨(some 64), .call F_law04_awake [], some (63, true)⟩,
    ⟨(some 65), .pick (.t 63) (.t 64) (.c (.bool false)), none⟩,
    ⟨(some 4), .mov (.t 65), none⟩])
  (.ret))))))),
  [.tmp 4]⟩

/- law04_LabelsSorts -/
def A_law04_LabelsSorts : AFun := ⟨84,
  .seq (.region false [⟨(some 3), .box (.t 0), none⟩,
    ⟨(some 6), .mov (.c (.bool false)), none⟩])
  (.seq (.seq (.region false [⟨(some 11), .ld (some 2) (.t 3), none⟩,
    ⟨(some 12), .call F_law03_Far [(.t 11)], none⟩,
    ⟨(some 13), .mov (.t 12), none⟩,
    ⟨(some 14), .mov (.t 1), some (13, false)⟩,
    ⟨(some 15), .len (.t 14), some (13, false)⟩,
    ⟨(some 16), .bin .gtr (.t 15) (.c (.int .i64 80)), some (13, false)⟩,
    ⟨(some 17), .pick (.t 13) (.c (.bool true)) (.t 16), none⟩])
  (.cond (.t 17)
   (.seq (.region false [⟨(some 18), .call F_law04_awake [], none⟩,
     ⟨(some 6), .mov (.t 18), none⟩])
   (.ret))
   (.skip)))
  (.seq (.region false [⟨(some 20), .ld (some 2) (.t 3), none⟩,
    ⟨(some 21), .mov (.t 2), none⟩,
    ⟨(some 22), .call F_labels_Down [(.t 20), (.t 21)], none⟩,
    ⟨(some 19), .mov (.t 22), none⟩,
    ⟨(some 23), .extr (.t 19) 0, none⟩,
    ⟨(some 24), .extr (.t 19) 1, none⟩,
    ⟨(some 7), .mov (.t 23), none⟩,
    ⟨(some 8), .mov (.t 24), none⟩])
  (.seq (.region false [⟨(some 26), .ld (some 2) (.t 3), none⟩,
    ⟨(some 27), .mov (.t 2), none⟩,
    ⟨(some 28), .call F_ref04_Down [(.t 26), (.t 27)], none⟩,
    ⟨(some 25), .mov (.t 28), none⟩,
    ⟨(some 29), .extr (.t 25) 0, none⟩,
    ⟨(some 30), .extr (.t 25) 1, none⟩,
    ⟨(some 9), .mov (.t 29), none⟩,
    ⟨(some 10), .mov (.t 30), none⟩])
  (.seq (.seq (.region false [⟨(some 31), .mov (.t 7), none⟩,
    ⟨(some 32), .mov (.t 9), none⟩,
    ⟨(some 33), .call F_ref04_Same [(.t 31), (.t 32)], none⟩,
    ⟨(some 34), .not (.t 33), none⟩,
    ⟨(some 35), .mov (.t 34), none⟩,
    ⟨(some 36), .mov (.t 8), some (35, false)⟩,
    ⟨(some 37), .mov (.t 10), some (35, false)⟩,
    ⟨(some 38), .bin .neq (.t 36) (.t 37), some (35, false)⟩,
    ⟨(some 39), .pick (.t 35) (.c (.bool true)) (.t 38), none⟩])
  (.cond (.t 39)
   (.seq (.region false [⟨(some 6), .mov (.c (.bool false)), none⟩])
   (.ret))
   (.skip)))
  (.seq (.region false [⟨(some 41), .ld (some 2) (.t 3), none⟩,
    ⟨(some 42), .mov (.t 2), none⟩,
    ⟨(some 43), .call F_labels_Up [(.t 41), (.t 42)], none⟩,
    ⟨(some 40), .mov (.t 43), none⟩,
    ⟨(some 44), .extr (.t 40) 0, none⟩,
    ⟨(some 45), .extr (.t 40) 1, none⟩,
    ⟨(some 7), .mov (.t 44), none⟩,
    ⟨(some 8), .mov (.t 45), none⟩])
  (.seq (.region false [⟨(some 47), .ld (some 2) (.t 3), none⟩,
    ⟨(some 48), .mov (.t 2), none⟩,
    ⟨(some 49), .call F_ref04_Up [(.t 47), (.t 48)], none⟩,
    ⟨(some 46), .mov (.t 49), none⟩,
    ⟨(some 50), .extr (.t 46) 0, none⟩,
    ⟨(some 51), .extr (.t 46) 1, none⟩,
    ⟨(some 9), .mov (.t 50), none⟩,
    ⟨(some 10), .mov (.t 51), none⟩])
  (.seq (.seq (.region false [⟨(some 52), .mov (.t 7), none⟩,
    ⟨(some 53), .mov (.t 9), none⟩,
    ⟨(some 54), .call F_ref04_Same [(.t 52), (.t 53)], none⟩,
    ⟨(some 55), .not (.t 54), none⟩,
    ⟨(some 56), .mov (.t 55), none⟩,
    ⟨(some 57), .mov (.t 8), some (56, false)⟩,
    ⟨(some 58), .mov (.t 10), some (56, false)⟩,
    ⟨(some 59), .bin .neq (.t 57) (.t 58), some (56, false)⟩,
    ⟨(some 60), .pick (.t 56) (.c (.bool true)) (.t 59), none⟩])
  (.cond (.t 60)
   (.seq (.region false [⟨(some 6), .mov (.c (.bool false)), none⟩])
   (.ret))
   (.skip)))
  (.seq (.region false [⟨(some 62), .ld (some 2) (.t 3), none⟩,
    ⟨(some 63), .mov (.t 1), none⟩,
    ⟨(some 64), .call F_labels_Sort [(.t 62), (.t 63)], none⟩,
    ⟨(some 61), .mov (.t 64), none⟩,
    ⟨(some 65), .extr (.t 61) 0, none⟩,
    ⟨(some 66), .extr (.t 61) 1, none⟩,
    ⟨(some 7), .mov (.t 65), none⟩,
    ⟨(some 8), .mov (.t 66), none⟩])
  (.seq (.region false [⟨(some 68), .ld (some 2) (.t 3), none⟩,
    ⟨(some 69), .mov (.t 1), none⟩,
    ⟨(some 70), .call F_ref04_Sort [(.t 68), (.t 69)], none⟩,
    ⟨(some 67), .mov (.t 70), none⟩,
    ⟨(some 71), .extr (.t 67) 0, none⟩,
    ⟨(some 72), .extr (.t 67) 1, none⟩,
    ⟨(some 9), .mov (.t 71), none⟩,
    ⟨(some 10), .mov (.t 72), none⟩])
  (.seq (.region false [⟨(some 73), .mov (.t 7), none⟩,
    ⟨(some 74), .mov (.t 9), none⟩,
    ⟨(some 75), .call F_ref04_Same [(.t 73), (.t 74)], none⟩,
    ⟨(some 76), .mov (.t 75), none⟩,
    ⟨(some 77), .mov (.t 8), some (76, true)⟩,
    ⟨(some 78), .mov (.t 10), some (76, true)⟩,
    ⟨(some 79), .bin .eql (.t 77) (.t 78), some (76, true)⟩,
    ⟨(some 80), .pick (.t 76) (.t 79) (.c (.bool false)), none⟩,
    ⟨(some 81), .mov (.t 80), none⟩,
    ⟨(some 82), .call F_law04_awake [], some (81, true)⟩,
    ⟨(some 83), .pick (.t 81) (.t 82) (.c (.bool false)), none⟩,
    ⟨(some 6), .mov (.t 83), none⟩])
  (.ret))))))))))),
  [.tmp 6]⟩

/- law04_LabelsJoins -/
def A_law04_LabelsJoins : AFun := ⟨104,
  .seq (.region false [⟨(some 3), .box (.t 0), none⟩,
    ⟨(some 6), .mov (.c (.bool false)), none⟩])
  (.seq (.seq (.region false [⟨(some 11), .ld (some 2) (.t 3), none⟩,
    ⟨(some 12), .call F_law03_Far [(.t 11)], none⟩,
    ⟨(some 13), .mov (.t 12), none⟩,
    ⟨(some 14), .mov (.t 1), some (13, false)⟩,
    ⟨(some 15), .len (.t 14), some (13, false)⟩,
    ⟨(some 16), .bin .gtr (.t 15) (.c (.int .i64 80)), some (13, false)⟩,
    ⟨(some 17), .pick (.t 13) (.c (.bool true)) (.t 16), none⟩])
  (.cond (.t 17)
   (.seq (.region false [⟨(some 18), .call F_law04_awake [], none⟩,
     ⟨(some 6), .mov (.t 18), none⟩])
   (.ret))
   (.skip)))
  (.seq (.region false [⟨(some 20), .ld (some 2) (.t 3), none⟩,
    ⟨(some 21), .mov (.t 1), none⟩,
    ⟨(some 22), .call F_labels_Check [(.t 20), (.t 21)], none⟩,
    ⟨(some 19), .mov (.t 22), none⟩,
    ⟨(some 23), .extr (.t 19) 0, none⟩,
    ⟨(some 24), .extr (.t 19) 1, none⟩,
    ⟨(some 7), .mov (.t 23), none⟩,
    ⟨(some 8), .mov (.t 24), none⟩])
  (.seq (.region false [⟨(some 26), .ld (some 2) (.t 3), none⟩,
    ⟨(some 27), .mov (.t 1), none⟩,
    ⟨(some 28), .call F_ref04_Check [(.t 26), (.t 27)], none⟩,
    ⟨(some 25), .mov (.t 28), none⟩,
    ⟨(some 29), .extr (.t 25) 0, none⟩,
    ⟨(some 30), .extr (.t 25) 1, none⟩,
    ⟨(some 9), .mov (.t 29), none⟩,
    ⟨(some 10), .mov (.t 30), none⟩])
  (.seq (.seq (.region false [⟨(some 31), .mov (.t 7), none⟩,
    ⟨(some 32), .mov (.t 9), none⟩,
    ⟨(some 33), .bin .neq (.t 31) (.t 32), none⟩,
    ⟨(some 34), .mov (.t 33), none⟩,
    ⟨(some 35), .mov (.t 8), some (34, false)⟩,
    ⟨(some 36), .mov (.t 10), some (34, false)⟩,
    ⟨(some 37), .bin .neq (.t 35) (.t 36), some (34, false)⟩,
    ⟨(some 38), .pick (.t 34) (.c (.bool true)) (.t 37), none⟩])
  (.cond (.t 38)
   (.seq (.region false [⟨(some 6), .mov (.c (.bool false)), none⟩])
   (.ret))
   (.skip)))
  (.seq (.region false [⟨(some 40), .ld (some 2) (.t 3), none⟩,
    ⟨(some 41), .mov (.t 1), none⟩,
    ⟨(some 42), .call F_labels_Join [(.t 40), (.t 41)], none⟩,
    ⟨(some 39), .mov (.t 42), none⟩,
    ⟨(some 43), .extr (.t 39) 0, none⟩,
    ⟨(some 44), .extr (.t 39) 1, none⟩,
    ⟨(some 7), .mov (.t 43), none⟩,
    ⟨(some 8), .mov (.t 44), none⟩])
  (.seq (.region false [⟨(some 46), .ld (some 2) (.t 3), none⟩,
    ⟨(some 47), .mov (.t 1), none⟩,
    ⟨(some 48), .call F_ref04_Join [(.t 46), (.t 47)], none⟩,
    ⟨(some 45), .mov (.t 48), none⟩,
    ⟨(some 49), .extr (.t 45) 0, none⟩,
    ⟨(some 50), .extr (.t 45) 1, none⟩,
    ⟨(some 9), .mov (.t 49), none⟩,
    ⟨(some 10), .mov (.t 50), none⟩])
  (.seq (.seq (.region false [⟨(some 51), .mov (.t 7), none⟩,
    ⟨(some 52), .mov (.t 9), none⟩,
    ⟨(some 53), .bin .neq (.t 51) (.t 52), none⟩,
    ⟨(some 54), .mov (.t 53), none⟩,
    ⟨(some 55), .mov (.t 8), some (54, false)⟩,
    ⟨(some 56), .mov (.t 10), some (54, false)⟩,
    ⟨(some 57), .bin .neq (.t 55) (.t 56), some (54, false)⟩,
    ⟨(some 58), .pick (.t 54) (.c (.bool true)) (.t 57), none⟩])
  (.cond (.t 58)
   (.seq (.region false [⟨(some 6), .mov (.c (.bool false)), none⟩])
   (.ret))
   (.skip)))
  (.seq (.region false [⟨(some 60), .ld (some 2) (.t 3), none⟩,
    ⟨(some 61), .mov (.t 1), none⟩,
    ⟨(some 62), .call F_labels_Meet [(.t 60), (.t 61)], none⟩,
    ⟨(some 59), .mov (.t 62), none⟩,
    ⟨(some 63), .extr (.t 59) 0, none⟩,
    ⟨(some 64), .extr (.t 59) 1, none⟩,
    ⟨(some 7), .mov (.t 63), none⟩,
    ⟨(some 8), .mov (.t 64), none⟩])
  (.seq (.region false [⟨(some 66), .ld (some 2) (.t 3), none⟩,
    ⟨(some 67), .mov (.t 1), none⟩,
    ⟨(some 68), .call F_ref04_Meet [(.t 66), (.t 67)], none⟩,
    ⟨(some 65), .mov (.t 68), none⟩,
    ⟨(some 69), .extr (.t 65) 0, none⟩,
    ⟨(some 70), .extr (.t 65) 1, none⟩,
    ⟨(some 9), .mov (.t 69), none⟩,
    ⟨(some 10), .mov (.t 70), none⟩])
  (.seq (.seq (.region false [⟨(some 71), .mov (.t 7), none⟩,
    ⟨(some 72), .mov (.t 9), none⟩,
    ⟨(some 73), .bin .neq (.t 71) (.t 72), none⟩,
    ⟨(some 74), .mov (.t 73), none⟩,
    ⟨(some 75), .mov (.t 8), some (74, false)⟩,
    ⟨(some 76), .mov (.t 10), some (74, false)⟩,
    ⟨(some 77), .bin .neq (.t 75) (.t 76), some (74, false)⟩,
    ⟨(some 78), .pick (.t 74) (.c (.bool true)) (.t 77), none⟩])
  (.cond (.t 78)
   (.seq (.region false [⟨(some 6), .mov (.c (.bool false)), none⟩])
   (.ret))
   (.skip)))
  (.seq (.region false [⟨(some 80), .ld (some 2) (.t 3), none⟩,
    ⟨(some 81), .mov (.t 1), none⟩,
    ⟨(some 82), .mov (.t 2), none⟩,
    ⟨(some 83), .call F_labels_Flows [(.t 80), (.t 81), (.t 82)], none⟩,
    ⟨(some 79), .mov (.t 83), none⟩,
    ⟨(some 84), .extr (.t 79) 0, none⟩,
    ⟨(some 85), .extr (.t 79) 1, none⟩,
    ⟨(some 7), .mov (.t 84), none⟩,
    ⟨(some 8), .mov (.t 85), none⟩])
  (.seq (.region false [⟨(some 87), .ld (some 2) (.t 3), none⟩,
    ⟨(some 88), .mov (.t 1), none⟩,
    ⟨(some 89), .mov (.t 2), none⟩,
    ⟨(some 90), .call F_ref04_Flows [(.t 87), (.t 88), (.t 89)], none⟩,
    ⟨(some 86), .mov (.t 90), none⟩,
    ⟨(some 91), .extr (.t 86) 0, none⟩,
    ⟨(some 92), .extr (.t 86) 1, none⟩,
    ⟨(some 9), .mov (.t 91), none⟩,
    ⟨(some 10), .mov (.t 92), none⟩])
  (.seq (.region false [⟨(some 93), .mov (.t 7), none⟩,
    ⟨(some 94), .mov (.t 9), none⟩,
    ⟨(some 95), .bin .eql (.t 93) (.t 94), none⟩,
    ⟨(some 96), .mov (.t 95), none⟩,
    ⟨(some 97), .mov (.t 8), some (96, true)⟩,
    ⟨(some 98), .mov (.t 10), some (96, true)⟩,
    ⟨(some 99), .bin .eql (.t 97) (.t 98), some (96, true)⟩,
    ⟨(some 100), .pick (.t 96) (.t 99) (.c (.bool false)), none⟩,
    ⟨(some 101), .mov (.t 100), none⟩,
    ⟨(some 102), .call F_law04_awake [], some (101, true)⟩,
    ⟨(some 103), .pick (.t 101) (.t 102) (.c (.bool false)), none⟩,
    ⟨(some 6), .mov (.t 103), none⟩])
  (.ret)))))))))))))),
  [.tmp 6]⟩

/- law04_LabelsFolds -/
def A_law04_LabelsFoldsL0 : ACode :=
  .seq (.seq (.region false [⟨(some 116), .mov (.t 20), none⟩,
    ⟨(some 117), .mov (.t 11), none⟩,
    ⟨(some 118), .len (.t 117), none⟩,
    ⟨(some 119), .bin .lss (.t 116) (.t 118), none⟩])
  (.cond (.t 119)
   (.skip)
   (.exit 0)))
  (.seq (.block 1 (.seq (.region false [⟨(some 122), .mov (.t 11), none⟩,
    ⟨(some 123), .mov (.t 11), none⟩,
    ⟨(some 124), .len (.t 123), none⟩,
    ⟨(some 125), .bin .sub (.t 124) (.c (.int .i64 1)), none⟩,
    ⟨(some 126), .mov (.t 20), none⟩,
    ⟨(some 127), .bin .sub (.t 125) (.t 126), none⟩,
    ⟨(some 128), .idxA 1 (.t 122) (.t 127), none⟩,
    ⟨(some 129), .ld none (.t 128), none⟩,
    ⟨(some 21), .mov (.t 129), none⟩])
  (.seq (.region false [⟨(some 131), .ld (some 2) (.t 3), none⟩,
    ⟨(some 132), .mov (.t 16), none⟩,
    ⟨(some 133), .mov (.t 21), none⟩,
    ⟨(some 134), .call F_ref03_Join [(.t 131), (.t 132), (.t 133)], none⟩,
    ⟨(some 130), .mov (.t 134), none⟩,
    ⟨(some 135), .extr (.t 130) 0, none⟩,
    ⟨(some 136), .extr (.t 130) 1, none⟩,
    ⟨(some 16), .mov (.t 135), none⟩])
  (.region true [⟨(some 138), .ld (some 2) (.t 3), none⟩,
    ⟨(some 139), .mov (.t 18), none⟩,
    ⟨(some 140), .mov (.t 11), none⟩,
    ⟨(some 141), .mov (.t 20), none⟩,
    ⟨(some 142), .idxA 1 (.t 140) (.t 141), none⟩,
    ⟨(some 143), .ld none (.t 142), none⟩,
    ⟨(some 144), .call F_ref03_Meet [(.t 138), (.t 139), (.t 143)], none⟩,
    ⟨(some 137), .mov (.t 144), none⟩,
    ⟨(some 145), .extr (.t 137) 0, none⟩,
    ⟨(some 146), .extr (.t 137) 1, none⟩,
    ⟨(some 18), .mov (.t 145), none⟩]))))
  (.region false [⟨(some 120), .mov (.t 20), none⟩,
    ⟨(some 121), .bin .add (.t 120) (.c (.int .i64 1)), none⟩,
    ⟨(some 20), .mov (.t 121), none⟩]))
def A_law04_LabelsFoldsL2 : ACode :=
  .seq (.seq (.region false [⟨(some 203), .mov (.t 25), none⟩,
    ⟨(some 204), .mov (.t 11), none⟩,
    ⟨(some 205), .len (.t 204), none⟩,
    ⟨(some 206), .bin .lss (.t 203) (.t 205), none⟩])
  (.cond (.t 206)
   (.skip)
   (.exit 4)))
  (.seq (.block 5 (.seq (.region true [⟨(some 209), .ld (some 2) (.t 3), none⟩,
    ⟨(some 210), .mov (.t 11), none⟩,
    ⟨(some 211), .mov (.t 25), none⟩,
    ⟨(some 212), .idxA 1 (.t 210) (.t 211), none⟩,
    ⟨(some 213), .ld none (.t 212), none⟩,
    ⟨(some 214), .mov (.t 22), none⟩,
    ⟨(some 215), .call F_ref03_Below [(.t 209), (.t 213), (.t 214)], none⟩,
    ⟨(some 26), .mov (.t 215), none⟩])
  (.seq (.region false [⟨(some 216), .mov (.t 24), none⟩,
    ⟨(some 217), .bin .eql (.t 216) (.c (.int .i64 0)), none⟩,
    ⟨(some 218), .mov (.t 217), none⟩,
    ⟨(some 219), .mov (.t 26), some (218, true)⟩,
    ⟨(some 220), .not (.t 219), some (218, true)⟩,
    ⟨(some 221), .pick (.t 218) (.t 220) (.c (.bool false)), none⟩,
    ⟨(some 222), .mov (.t 221), none⟩,
    ⟨(some 223), .mov (.t 24), some (222, false)⟩,
    ⟨(some 224), .bin .neq (.t 223) (.c (.int .i64 0)), some (222, false)⟩,
    ⟨(some 225), .mov (.t 224), some (222, false)⟩,
    ⟨(some 226), .mov (.t 25), some (225, true)⟩,
    ⟨(some 227), .mov (.t 23), some (225, true)⟩,
    ⟨(some 228), .bin .lss (.t 226) (.t 227), some (225, true)⟩,
    ⟨(some 229), .pick (.t 225) (.t 228) (.c (.bool false)), some (222, false)⟩,
    ⟨(some 230), .mov (.t 229), some (222, false)⟩,
    ⟨(some 231), .mov (.t 26), some (230, true)⟩,
    ⟨(some 232), .not (.t 231), some (230, true)⟩,
    ⟨(some 233), .pick (.t 230) (.t 232) (.c (.bool false)), some (222, false)⟩,
    ⟨(some 234), .pick (.t 222) (.c (.bool true)) (.t 233), none⟩])
  (.cond (.t 234)
   (.seq (.region false [⟨(some 6), .mov (.c (.bool false)), none⟩])
   (.ret))
   (.skip)))))
  (.region false [⟨(some 207), .mov (.t 25), none⟩,
    ⟨(some 208), .bin .add (.t 207) (.c (.int .i64 1)), none⟩,
    ⟨(some 25), .mov (.t 208), none⟩]))
def A_law04_LabelsFoldsL1 : ACode :=
  .seq (.seq (.region false [⟨(some 155), .mov (.t 22), none⟩,
    ⟨(some 156), .fldA 0 (.t 3), none⟩,
    ⟨(some 157), .ld none (.t 156), none⟩,
    ⟨(some 158), .len (.t 157), none⟩,
    ⟨(some 159), .bin .lss (.t 155) (.t 158), none⟩])
  (.cond (.t 159)
   (.skip)
   (.exit 2)))
  (.seq (.block 3 (.seq (.region false [⟨(some 163), .ld (some 2) (.t 3), none⟩,
    ⟨(some 164), .mov (.t 11), none⟩,
    ⟨(some 165), .mov (.t 22), none⟩,
    ⟨(some 166), .call F_labels_Flows [(.t 163), (.t 164), (.t 165)], none⟩,
    ⟨(some 162), .mov (.t 166), none⟩,
    ⟨(some 167), .extr (.t 162) 0, none⟩,
    ⟨(some 168), .extr (.t 162) 1, none⟩,
    ⟨(some 23), .mov (.t 167), none⟩,
    ⟨(some 24), .mov (.t 168), none⟩])
  (.seq (.seq (.region true [⟨(some 169), .mov (.t 24), none⟩,
    ⟨(some 170), .bin .eql (.t 169) (.c (.int .i64 0)), none⟩,
    ⟨(some 171), .ld (some 2) (.t 3), none⟩,
    ⟨(some 172), .mov (.t 12), none⟩,
    ⟨(some 173), .mov (.t 22), none⟩,
    ⟨(some 174), .call F_ref03_Below [(.t 171), (.t 172), (.t 173)], none⟩,
    ⟨(some 175), .beq true (.t 170) (.t 174), none⟩,
    ⟨(some 176), .mov (.t 175), none⟩,
    ⟨(some 177), .mov (.t 24), some (176, false)⟩,
    ⟨(some 178), .bin .neq (.t 177) (.c (.int .i64 0)), some (176, false)⟩,
    ⟨(some 179), .mov (.t 178), some (176, false)⟩,
    ⟨(some 180), .mov (.t 24), some (179, true)⟩,
    ⟨(some 181), .bin .neq (.t 180) (.c (.int .i64 25)), some (179, true)⟩,
    ⟨(some 182), .mov (.t 181), some (179, true)⟩,
    ⟨(some 183), .mov (.t 23), some (182, false)⟩,
    ⟨(some 184), .bin .lss (.t 183) (.c (.int .i64 0)), some (182, false)⟩,
    ⟨(some 185), .pick (.t 182) (.c (.bool true)) (.t 184), some (179, true)⟩,
    ⟨(some 186), .mov (.t 185), some (179, true)⟩,
    ⟨(some 187), .mov (.t 23), some (186, false)⟩,
    ⟨(some 188), .mov (.t 11), some (186, false)⟩,
    ⟨(some 189), .len (.t 188), some (186, false)⟩,
    ⟨(some 190), .bin .geq (.t 187) (.t 189), some (186, false)⟩,
    ⟨(some 191), .pick (.t 186) (.c (.bool true)) (.t 190), some (179, true)⟩,
    ⟨(some 192), .mov (.t 191), some (179, true)⟩,
    ⟨(some 193), .ld (some 2) (.t 3), some (192, false)⟩,
    ⟨(some 194), .mov (.t 11), some (192, false)⟩,
    ⟨(some 195), .mov (.t 23), some (192, false)⟩,
    ⟨(some 196), .idxA 1 (.t 194) (.t 195), some (192, false)⟩,
    ⟨(some 197), .ld none (.t 196), some (192, false)⟩,
    ⟨(some 198), .mov (.t 22), some (192, false)⟩,
    ⟨(some 199), .call F_ref03_Below [(.t 193), (.t 197), (.t 198)], some (192, false)⟩,
    ⟨(some 200), .pick (.t 192) (.c (.bool true)) (.t 199), some (179, true)⟩,
    ⟨(some 201), .pick (.t 179) (.t 200) (.c (.bool false)), some (176, false)⟩,
    ⟨(some 202), .pick (.t 176) (.c (.bool true)) (.t 201), none⟩])
  (.cond (.t 202)
   (.seq (.region false [⟨(some 6), .mov (.c (.bool false)), none⟩])
   (.ret))
   (.skip)))
  (.seq (.region false [⟨(some 25), .mov (.c (.int .i64 0)), none⟩])
  (.block 4 (.loop A_law04_LabelsFoldsL2))))))
  (.region false [⟨(some 160), .mov (.t 22), none⟩,
    ⟨(some 161), .bin .add (.t 160) (.c (.int .i64 1)), none⟩,
    ⟨(some 22), .mov (.t 161), none⟩]))
def A_law04_LabelsFolds : AFun := ⟨236,
  .seq (.region false [⟨(some 3), .box (.t 0), none⟩,
    ⟨(some 6), .mov (.c (.bool false)), none⟩])
  (.seq (.seq (.region false [⟨(some 27), .ld (some 2) (.t 3), none⟩,
    ⟨(some 28), .call F_law03_Far [(.t 27)], none⟩,
    ⟨(some 29), .mov (.t 28), none⟩,
    ⟨(some 30), .mov (.t 1), some (29, false)⟩,
    ⟨(some 31), .len (.t 30), some (29, false)⟩,
    ⟨(some 32), .bin .gtr (.t 31) (.c (.int .i64 32)), some (29, false)⟩,
    ⟨(some 33), .pick (.t 29) (.c (.bool true)) (.t 32), none⟩,
    ⟨(some 34), .mov (.t 33), none⟩,
    ⟨(some 35), .mov (.t 2), some (34, false)⟩,
    ⟨(some 36), .len (.t 35), some (34, false)⟩,
    ⟨(some 37), .bin .gtr (.t 36) (.c (.int .i64 32)), some (34, false)⟩,
    ⟨(some 38), .pick (.t 34) (.c (.bool true)) (.t 37), none⟩])
  (.cond (.t 38)
   (.seq (.region false [⟨(some 39), .call F_law04_awake [], none⟩,
     ⟨(some 6), .mov (.t 39), none⟩])
   (.ret))
   (.skip)))
  (.seq (.region false [⟨(some 41), .ld (some 2) (.t 3), none⟩,
    ⟨(some 42), .mov (.t 1), none⟩,
    ⟨(some 43), .call F_labels_Join [(.t 41), (.t 42)], none⟩,
    ⟨(some 40), .mov (.t 43), none⟩,
    ⟨(some 44), .extr (.t 40) 0, none⟩,
    ⟨(some 45), .extr (.t 40) 1, none⟩,
    ⟨(some 7), .mov (.t 44), none⟩,
    ⟨(some 8), .mov (.t 45), none⟩])
  (.seq (.region false [⟨(some 47), .ld (some 2) (.t 3), none⟩,
    ⟨(some 48), .mov (.t 2), none⟩,
    ⟨(some 49), .call F_labels_Join [(.t 47), (.t 48)], none⟩,
    ⟨(some 46), .mov (.t 49), none⟩,
    ⟨(some 50), .extr (.t 46) 0, none⟩,
    ⟨(some 51), .extr (.t 46) 1, none⟩,
    ⟨(some 9), .mov (.t 50), none⟩,
    ⟨(some 10), .mov (.t 51), none⟩])
  (.seq (.seq (.region false [⟨(some 52), .mov (.t 8), none⟩,
    ⟨(some 53), .bin .neq (.t 52) (.c (.int .i64 0)), none⟩,
    ⟨(some 54), .mov (.t 53), none⟩,
    ⟨(some 55), .mov (.t 10), some (54, false)⟩,
    ⟨(some 56), .bin .neq (.t 55) (.c (.int .i64 0)), some (54, false)⟩,
    ⟨(some 57), .pick (.t 54) (.c (.bool true)) (.t 56), none⟩])
  (.cond (.t 57)
   (.seq (.region false [⟨(some 58), .call F_law04_awake [], none⟩,
     ⟨(some 6), .mov (.t 58), none⟩])
   (.ret))
   (.skip)))
  (.seq (.region false [⟨(some 59), .bsl 1 (.int .i64 0) 0 [], none⟩,
    ⟨(some 60), .mov (.t 1), none⟩,
    ⟨(some 61), .app 1 8 (.t 59) (.t 60), none⟩,
    ⟨(some 62), .mov (.t 2), none⟩,
    ⟨(some 63), .app 1 8 (.t 61) (.t 62), none⟩,
    ⟨(some 11), .mov (.t 63), none⟩])
  (.seq (.region false [⟨(some 65), .ld (some 2) (.t 3), none⟩,
    ⟨(some 66), .mov (.t 11), none⟩,
    ⟨(some 67), .call F_labels_Join [(.t 65), (.t 66)], none⟩,
    ⟨(some 64), .mov (.t 67), none⟩,
    ⟨(some 68), .extr (.t 64) 0, none⟩,
    ⟨(some 69), .extr (.t 64) 1, none⟩,
    ⟨(some 12), .mov (.t 68), none⟩,
    ⟨(some 8), .mov (.t 69), none⟩])
  (.seq (.region false [⟨(some 71), .ld (some 2) (.t 3), none⟩,
    ⟨(some 72), .mov (.t 11), none⟩,
    ⟨(some 73), .call F_labels_Meet [(.t 71), (.t 72)], none⟩,
    ⟨(some 70), .mov (.t 73), none⟩,
    ⟨(some 74), .extr (.t 70) 0, none⟩,
    ⟨(some 75), .extr (.t 70) 1, none⟩,
    ⟨(some 13), .mov (.t 74), none⟩,
    ⟨(some 10), .mov (.t 75), none⟩])
  (.seq (.region false [⟨(some 77), .ld (some 2) (.t 3), none⟩,
    ⟨(some 78), .mov (.t 7), none⟩,
    ⟨(some 79), .mov (.t 9), none⟩,
    ⟨(some 80), .call F_ref03_Join [(.t 77), (.t 78), (.t 79)], none⟩,
    ⟨(some 76), .mov (.t 80), none⟩,
    ⟨(some 81), .extr (.t 76) 0, none⟩,
    ⟨(some 82), .extr (.t 76) 1, none⟩,
    ⟨(some 14), .mov (.t 81), none⟩,
    ⟨(some 15), .mov (.t 82), none⟩])
  (.seq (.region false [⟨(some 84), .ld (some 2) (.t 3), none⟩,
    ⟨(some 85), .call F_ref03_Bottom [(.t 84)], none⟩,
    ⟨(some 83), .mov (.t 85), none⟩,
    ⟨(some 86), .extr (.t 83) 0, none⟩,
    ⟨(some 87), .extr (.t 83) 1, none⟩,
    ⟨(some 16), .mov (.t 86), none⟩,
    ⟨(some 17), .mov (.t 87), none⟩])
  (.seq (.region false [⟨(some 89), .ld (some 2) (.t 3), none⟩,
    ⟨(some 90), .call F_ref03_Top [(.t 89)], none⟩,
    ⟨(some 88), .mov (.t 90), none⟩,
    ⟨(some 91), .extr (.t 88) 0, none⟩,
    ⟨(some 92), .extr (.t 88) 1, none⟩,
    ⟨(some 18), .mov (.t 91), none⟩,
    ⟨(some 19), .mov (.t 92), none⟩])
  (.seq (.seq (.region false [⟨(some 93), .mov (.t 8), none⟩,
    ⟨(some 94), .bin .neq (.t 93) (.c (.int .i64 0)), none⟩,
    ⟨(some 95), .mov (.t 94), none⟩,
    ⟨(some 96), .mov (.t 10), some (95, false)⟩,
    ⟨(some 97), .bin .neq (.t 96) (.c (.int .i64 0)), some (95, false)⟩,
    ⟨(some 98), .pick (.t 95) (.c (.bool true)) (.t 97), none⟩,
    ⟨(some 99), .mov (.t 98), none⟩,
    ⟨(some 100), .mov (.t 15), some (99, false)⟩,
    ⟨(some 101), .bin .neq (.t 100) (.c (.int .i64 0)), some (99, false)⟩,
    ⟨(some 102), .pick (.t 99) (.c (.bool true)) (.t 101), none⟩,
    ⟨(some 103), .mov (.t 102), none⟩,
    ⟨(some 104), .mov (.t 17), some (103, false)⟩,
    ⟨(some 105), .bin .neq (.t 104) (.c (.int .i64 0)), some (103, false)⟩,
    ⟨(some 106), .pick (.t 103) (.c (.bool true)) (.t 105), none⟩,
    ⟨(some 107), .mov (.t 106), none⟩,
    ⟨(some 108), .mov (.t 19), some (107, false)⟩,
    ⟨(some 109), .bin .neq (.t 108) (.c (.int .i64 0)), some (107, false)⟩,
    ⟨(some 110), .pick (.t 107) (.c (.bool true)) (.t 109), none⟩,
    ⟨(some 111), .mov (.t 110), none⟩,
    ⟨(some 112), .mov (.t 12), some (111, false)⟩,
    ⟨(some 113), .mov (.t 14), some (111, false)⟩,
    ⟨(some 114), .bin .neq (.t 112) (.t 113), some (111, false)⟩,
    ⟨(some 115), .pick (.t 111) (.c (.bool true)) (.t 114), none⟩])
  (.cond (.t 115)
   (.seq (.region false [⟨(some 6), .mov (.c (.bool false)), none⟩])
   (.ret))
   (.skip)))
  (.seq (.seq (.region false [⟨(some 20), .mov (.c (.int .i64 0)), none⟩])
  (.block 0 (.loop A_law04_LabelsFoldsL0)))
  (.seq (.seq (.region false [⟨(some 147), .mov (.t 16), none⟩,
    ⟨(some 148), .mov (.t 12), none⟩,
    ⟨(some 149), .bin .neq (.t 147) (.t 148), none⟩,
    ⟨(some 150), .mov (.t 149), none⟩,
    ⟨(some 151), .mov (.t 18), some (150, false)⟩,
    ⟨(some 152), .mov (.t 13), some (150, false)⟩,
    ⟨(some 153), .bin .neq (.t 151) (.t 152), some (150, false)⟩,
    ⟨(some 154), .pick (.t 150) (.c (.bool true)) (.t 153), none⟩])
  (.cond (.t 154)
   (.seq (.region false [⟨(some 6), .mov (.c (.bool false)), none⟩])
   (.ret))
   (.skip)))
  (.seq (.seq (.region false [⟨(some 22), .mov (.c (.int .i64 0)), none⟩])
  (.block 2 (.loop A_law04_LabelsFoldsL1)))
  (.seq (.region false [⟨(some 235), .call F_law04_awake [], none⟩,
    ⟨(some 6), .mov (.t 235), none⟩])
  (.ret)))))))))))))))),
  [.tmp 6]⟩

/- law04_LabelsTexts -/
def A_law04_LabelsTexts : AFun := ⟨107,
  .seq (.region false [⟨(some 3), .box (.t 0), none⟩,
    ⟨(some 6), .mov (.c (.bool false)), none⟩])
  (.seq (.seq (.region false [⟨(some 19), .ld (some 2) (.t 3), none⟩,
    ⟨(some 20), .call F_law03_Far [(.t 19)], none⟩,
    ⟨(some 21), .mov (.t 20), none⟩,
    ⟨(some 22), .mov (.t 1), some (21, false)⟩,
    ⟨(some 23), .len (.t 22), some (21, false)⟩,
    ⟨(some 24), .bin .gtr (.t 23) (.c (.int .i64 80)), some (21, false)⟩,
    ⟨(some 25), .pick (.t 21) (.c (.bool true)) (.t 24), none⟩,
    ⟨(some 26), .mov (.t 25), none⟩,
    ⟨(some 27), .mov (.t 2), some (26, false)⟩,
    ⟨(some 28), .lenS (.t 27), some (26, false)⟩,
    ⟨(some 29), .bin .gtr (.t 28) (.c (.int .i64 400)), some (26, false)⟩,
    ⟨(some 30), .pick (.t 26) (.c (.bool true)) (.t 29), none⟩])
  (.cond (.t 30)
   (.seq (.region false [⟨(some 31), .call F_law04_awake [], none⟩,
     ⟨(some 6), .mov (.t 31), none⟩])
   (.ret))
   (.skip)))
  (.seq (.region false [⟨(some 33), .ld (some 2) (.t 3), none⟩,
    ⟨(some 34), .mov (.t 1), none⟩,
    ⟨(some 35), .call F_labels_Show [(.t 33), (.t 34)], none⟩,
    ⟨(some 32), .mov (.t 35), none⟩,
    ⟨(some 36), .extr (.t 32) 0, none⟩,
    ⟨(some 37), .extr (.t 32) 1, none⟩,
    ⟨(some 7), .mov (.t 36), none⟩,
    ⟨(some 8), .mov (.t 37), none⟩])
  (.seq (.region false [⟨(some 39), .ld (some 2) (.t 3), none⟩,
    ⟨(some 40), .mov (.t 1), none⟩,
    ⟨(some 41), .call F_ref04_Show [(.t 39), (.t 40)], none⟩,
    ⟨(some 38), .mov (.t 41), none⟩,
    ⟨(some 42), .extr (.t 38) 0, none⟩,
    ⟨(some 43), .extr (.t 38) 1, none⟩,
    ⟨(some 9), .mov (.t 42), none⟩,
    ⟨(some 10), .mov (.t 43), none⟩])
  (.seq (.region false [⟨(some 45), .ld (some 2) (.t 3), none⟩,
    ⟨(some 46), .mov (.t 2), none⟩,
    ⟨(some 47), .call F_labels_Read [(.t 45), (.t 46)], none⟩,
    ⟨(some 44), .mov (.t 47), none⟩,
    ⟨(some 48), .extr (.t 44) 0, none⟩,
    ⟨(some 49), .extr (.t 44) 1, none⟩,
    ⟨(some 11), .mov (.t 48), none⟩,
    ⟨(some 12), .mov (.t 49), none⟩])
  (.seq (.region false [⟨(some 51), .ld (some 2) (.t 3), none⟩,
    ⟨(some 52), .mov (.t 2), none⟩,
    ⟨(some 53), .call F_ref04_Read [(.t 51), (.t 52)], none⟩,
    ⟨(some 50), .mov (.t 53), none⟩,
    ⟨(some 54), .extr (.t 50) 0, none⟩,
    ⟨(some 55), .extr (.t 50) 1, none⟩,
    ⟨(some 13), .mov (.t 54), none⟩,
    ⟨(some 14), .mov (.t 55), none⟩])
  (.seq (.seq (.region false [⟨(some 56), .mov (.t 7), none⟩,
    ⟨(some 57), .mov (.t 9), none⟩,
    ⟨(some 58), .bin .neq (.t 56) (.t 57), none⟩,
    ⟨(some 59), .mov (.t 58), none⟩,
    ⟨(some 60), .mov (.t 8), some (59, false)⟩,
    ⟨(some 61), .mov (.t 10), some (59, false)⟩,
    ⟨(some 62), .bin .neq (.t 60) (.t 61), some (59, false)⟩,
    ⟨(some 63), .pick (.t 59) (.c (.bool true)) (.t 62), none⟩,
    ⟨(some 64), .mov (.t 63), none⟩,
    ⟨(some 65), .mov (.t 11), some (64, false)⟩,
    ⟨(some 66), .mov (.t 13), some (64, false)⟩,
    ⟨(some 67), .call F_ref04_Same [(.t 65), (.t 66)], some (64, false)⟩,
    ⟨(some 68), .not (.t 67), some (64, false)⟩,
    ⟨(some 69), .pick (.t 64) (.c (.bool true)) (.t 68), none⟩,
    ⟨(some 70), .mov (.t 69), none⟩,
    ⟨(some 71), .mov (.t 12), some (70, false)⟩,
    ⟨(some 72), .mov (.t 14), some (70, false)⟩,
    ⟨(some 73), .bin .neq (.t 71) (.t 72), some (70, false)⟩,
    ⟨(some 74), .pick (.t 70) (.c (.bool true)) (.t 73), none⟩])
  (.cond (.t 74)
   (.seq (.region false [⟨(some 6), .mov (.c (.bool false)), none⟩])
   (.ret))
   (.skip)))
  (.seq (.seq (.region false [⟨(some 75), .mov (.t 8), none⟩,
    ⟨(some 76), .bin .eql (.t 75) (.c (.int .i64 0)), none⟩])
  (.cond (.t 76)
   (.seq (.region false [⟨(some 78), .ld (some 2) (.t 3), none⟩,
     ⟨(some 79), .mov (.t 7), none⟩,
     ⟨(some 80), .call F_labels_Read [(.t 78), (.t 79)], none⟩,
     ⟨(some 77), .mov (.t 80), none⟩,
     ⟨(some 81), .extr (.t 77) 0, none⟩,
     ⟨(some 82), .extr (.t 77) 1, none⟩,
     ⟨(some 15), .mov (.t 81), none⟩,
     ⟨(some 16), .mov (.t 82), none⟩])
   (.seq (.region false [⟨(some 83), .mov (.t 16), none⟩,
     ⟨(some 84), .bin .neq (.t 83) (.c (.int .i64 0)), none⟩,
     ⟨(some 85), .mov (.t 84), none⟩,
     ⟨(some 86), .mov (.t 15), some (85, false)⟩,
     ⟨(some 87), .mov (.t 1), some (85, false)⟩,
     ⟨(some 88), .call F_ref04_Same [(.t 86), (.t 87)], some (85, false)⟩,
     ⟨(some 89), .not (.t 88), some (85, false)⟩,
     ⟨(some 90), .pick (.t 85) (.c (.bool true)) (.t 89), none⟩])
   (.cond (.t 90)
    (.seq (.region false [⟨(some 6), .mov (.c (.bool false)), none⟩])
    (.ret))
    (.skip))))
   (.skip)))
  (.seq (.seq (.region false [⟨(some 91), .mov (.t 12), none⟩,
    ⟨(some 92), .bin .eql (.t 91) (.c (.int .i64 0)), none⟩])
  (.cond (.t 92)
   (.seq (.region false [⟨(some 94), .ld (some 2) (.t 3), none⟩,
     ⟨(some 95), .mov (.t 11), none⟩,
     ⟨(some 96), .call F_labels_Show [(.t 94), (.t 95)], none⟩,
     ⟨(some 93), .mov (.t 96), none⟩,
     ⟨(some 97), .extr (.t 93) 0, none⟩,
     ⟨(some 98), .extr (.t 93) 1, none⟩,
     ⟨(some 17), .mov (.t 97), none⟩,
     ⟨(some 18), .mov (.t 98), none⟩])
   (.seq (.region false [⟨(some 99), .mov (.t 18), none⟩,
     ⟨(some 100), .bin .neq (.t 99) (.c (.int .i64 0)), none⟩,
     ⟨(some 101), .mov (.t 100), none⟩,
     ⟨(some 102), .mov (.t 17), some (101, false)⟩,
     ⟨(some 103), .mov (.t 2), some (101, false)⟩,
     ⟨(some 104), .bin .neq (.t 102) (.t 103), some (101, false)⟩,
     ⟨(some 105), .pick (.t 101) (.c (.bool true)) (.t 104), none⟩])
   (.cond (.t 105)
    (.seq (.region false [⟨(some 6), .mov (.c (.bool false)), none⟩])
    (.ret))
    (.skip))))
   (.skip)))
  (.seq (.region false [⟨(some 106), .call F_law04_awake [], none⟩,
    ⟨(some 6), .mov (.t 106), none⟩])
  (.ret)))))))))),
  [.tmp 6]⟩

/- law04_LabelsKnown -/
def A_law04_LabelsKnown : AFun := ⟨143,
  .seq (.region false [⟨(some 0), .mov (.c (.bool false)), none⟩])
  (.seq (.region false [⟨(some 15), .call F_law03_Diamond [], none⟩,
    ⟨(some 1), .alloc [.sl .ex [], .sl .ex []], none⟩,
    ⟨none, .st 2 (.t 1) (.t 15), none⟩])
  (.seq (.region false [⟨(some 17), .ld (some 2) (.t 1), none⟩,
    ⟨(some 18), .call F_labels_Join [(.t 17), (.c (.sl .ex []))], none⟩,
    ⟨(some 16), .mov (.t 18), none⟩,
    ⟨(some 19), .extr (.t 16) 0, none⟩,
    ⟨(some 20), .extr (.t 16) 1, none⟩,
    ⟨(some 2), .mov (.t 19), none⟩,
    ⟨(some 3), .mov (.t 20), none⟩])
  (.seq (.region false [⟨(some 22), .ld (some 2) (.t 1), none⟩,
    ⟨(some 23), .bsl 1 (.int .i64 0) 2 [(0, (.c (.int .i64 3))), (1, (.c (.int .i64 1)))], none⟩,
    ⟨(some 24), .call F_labels_Meet [(.t 22), (.t 23)], none⟩,
    ⟨(some 21), .mov (.t 24), none⟩,
    ⟨(some 25), .extr (.t 21) 0, none⟩,
    ⟨(some 26), .extr (.t 21) 1, none⟩,
    ⟨(some 4), .mov (.t 25), none⟩,
    ⟨(some 5), .mov (.t 26), none⟩])
  (.seq (.region false [⟨(some 28), .ld (some 2) (.t 1), none⟩,
    ⟨(some 29), .call F_labels_Meet [(.t 28), (.c (.sl .ex []))], none⟩,
    ⟨(some 27), .mov (.t 29), none⟩,
    ⟨(some 30), .extr (.t 27) 0, none⟩,
    ⟨(some 31), .extr (.t 27) 1, none⟩,
    ⟨(some 6), .mov (.t 30), none⟩,
    ⟨(some 7), .mov (.t 31), none⟩])
  (.seq (.region false [⟨(some 33), .ld (some 2) (.t 1), none⟩,
    ⟨(some 34), .call F_labels_Down [(.t 33), (.c (.int .i64 1))], none⟩,
    ⟨(some 32), .mov (.t 34), none⟩,
    ⟨(some 35), .extr (.t 32) 0, none⟩,
    ⟨(some 36), .extr (.t 32) 1, none⟩,
    ⟨(some 8), .mov (.t 35), none⟩,
    ⟨(some 9), .mov (.t 36), none⟩])
  (.seq (.region false [⟨(some 38), .ld (some 2) (.t 1), none⟩,
    ⟨(some 39), .call F_labels_Up [(.t 38), (.c (.int .i64 2))], none⟩,
    ⟨(some 37), .mov (.t 39), none⟩,
    ⟨(some 40), .extr (.t 37) 0, none⟩,
    ⟨(some 41), .extr (.t 37) 1, none⟩,
    ⟨(some 10), .mov (.t 40), none⟩,
    ⟨(some 11), .mov (.t 41), none⟩])
  (.seq (.seq (.region false [⟨(some 42), .mov (.t 3), none⟩,
    ⟨(some 43), .bin .neq (.t 42) (.c (.int .i64 0)), none⟩,
    ⟨(some 44), .mov (.t 43), none⟩,
    ⟨(some 45), .mov (.t 5), some (44, false)⟩,
    ⟨(some 46), .bin .neq (.t 45) (.c (.int .i64 0)), some (44, false)⟩,
    ⟨(some 47), .pick (.t 44) (.c (.bool true)) (.t 46), none⟩,
    ⟨(some 48), .mov (.t 47), none⟩,
    ⟨(some 49), .mov (.t 7), some (48, false)⟩,
    ⟨(some 50), .bin .neq (.t 49) (.c (.int .i64 0)), some (48, false)⟩,
    ⟨(some 51), .pick (.t 48) (.c (.bool true)) (.t 50), none⟩,
    ⟨(some 52), .mov (.t 51), none⟩,
    ⟨(some 53), .mov (.t 9), some (52, false)⟩,
    ⟨(some 54), .bin .neq (.t 53) (.c (.int .i64 0)), some (52, false)⟩,
    ⟨(some 55), .pick (.t 52) (.c (.bool true)) (.t 54), none⟩,
    ⟨(some 56), .mov (.t 55), none⟩,
    ⟨(some 57), .mov (.t 11), some (56, false)⟩,
    ⟨(some 58), .bin .neq (.t 57) (.c (.int .i64 0)), some (56, false)⟩,
    ⟨(some 59), .pick (.t 56) (.c (.bool true)) (.t 58), none⟩,
    ⟨(some 60), .mov (.t 59), none⟩,
    ⟨(some 61), .mov (.t 2), some (60, false)⟩,
    ⟨(some 62), .bin .neq (.t 61) (.c (.int .i64 0)), some (60, false)⟩,
    ⟨(some 63), .pick (.t 60) (.c (.bool true)) (.t 62), none⟩,
    ⟨(some 64), .mov (.t 63), none⟩,
    ⟨(some 65), .mov (.t 4), some (64, false)⟩,
    ⟨(some 66), .bin .neq (.t 65) (.c (.int .i64 1)), some (64, false)⟩,
    ⟨(some 67), .pick (.t 64) (.c (.bool true)) (.t 66), none⟩,
    ⟨(some 68), .mov (.t 67), none⟩,
    ⟨(some 69), .mov (.t 6), some (68, false)⟩,
    ⟨(some 70), .bin .neq (.t 69) (.c (.int .i64 3)), some (68, false)⟩,
    ⟨(some 71), .pick (.t 68) (.c (.bool true)) (.t 70), none⟩,
    ⟨(some 72), .mov (.t 71), none⟩,
    ⟨(some 73), .mov (.t 8), some (72, false)⟩,
    ⟨(some 74), .bsl 1 (.int .i64 0) 2 [(0, (.c (.int .i64 0))), (1, (.c (.int .i64 1)))], some (72, false)⟩,
    ⟨(some 75), .call F_ref04_Same [(.t 73), (.t 74)], some (72, false)⟩,
    ⟨(some 76), .not (.t 75), some (72, false)⟩,
    ⟨(some 77), .pick (.t 72) (.c (.bool true)) (.t 76), none⟩,
    ⟨(some 78), .mov (.t 77), none⟩,
    ⟨(some 79), .mov (.t 10), some (78, false)⟩,
    ⟨(some 80), .bsl 1 (.int .i64 0) 2 [(0, (.c (.int .i64 2))), (1, (.c (.int .i64 3)))], some (78, false)⟩,
    ⟨(some 81), .call F_ref04_Same [(.t 79), (.t 80)], some (78, false)⟩,
    ⟨(some 82), .not (.t 81), some (78, false)⟩,
    ⟨(some 83), .pick (.t 78) (.c (.bool true)) (.t 82), none⟩])
  (.cond (.t 83)
   (.seq (.region false [⟨(some 0), .mov (.c (.bool false)), none⟩])
   (.ret))
   (.skip)))
  (.seq (.region false [⟨(some 85), .ld (some 2) (.t 1), none⟩,
    ⟨(some 86), .bsl 1 (.int .i64 0) 3 [(0, (.c (.int .i64 0))), (1, (.c (.int .i64 3))), (2, (.c (.int .i64 1)))], none⟩,
    ⟨(some 87), .call F_labels_Chain [(.t 85), (.t 86)], none⟩,
    ⟨(some 84), .mov (.t 87), none⟩,
    ⟨(some 88), .extr (.t 84) 0, none⟩,
    ⟨(some 89), .extr (.t 84) 1, none⟩,
    ⟨(some 12), .mov (.t 88), none⟩,
    ⟨(some 3), .mov (.t 89), none⟩])
  (.seq (.region false [⟨(some 91), .ld (some 2) (.t 1), none⟩,
    ⟨(some 92), .bsl 1 (.int .i64 0) 2 [(0, (.c (.int .i64 1))), (1, (.c (.int .i64 2)))], none⟩,
    ⟨(some 93), .call F_labels_Chain [(.t 91), (.t 92)], none⟩,
    ⟨(some 90), .mov (.t 93), none⟩,
    ⟨(some 94), .extr (.t 90) 0, none⟩,
    ⟨(some 95), .extr (.t 90) 1, none⟩,
    ⟨(some 13), .mov (.t 94), none⟩,
    ⟨(some 5), .mov (.t 95), none⟩])
  (.seq (.region false [⟨(some 97), .ld (some 2) (.t 1), none⟩,
    ⟨(some 98), .call F_labels_Show [(.t 97), (.c (.sl .ex []))], none⟩,
    ⟨(some 96), .mov (.t 98), none⟩,
    ⟨(some 99), .extr (.t 96) 0, none⟩,
    ⟨(some 100), .extr (.t 96) 1, none⟩,
    ⟨(some 14), .mov (.t 99), none⟩,
    ⟨(some 7), .mov (.t 100), none⟩])
  (.seq (.region false [⟨(some 102), .ld (some 2) (.t 1), none⟩,
    ⟨(some 103), .call F_labels_Read [(.t 102), (.c (.str [108, 111, 119, 44, 44, 97, 110, 110]))], none⟩,
    ⟨(some 101), .mov (.t 103), none⟩,
    ⟨(some 104), .extr (.t 101) 0, none⟩,
    ⟨(some 105), .extr (.t 101) 1, none⟩,
    ⟨(some 9), .mov (.t 105), none⟩])
  (.seq (.region false [⟨(some 107), .ld (some 2) (.t 1), none⟩,
    ⟨(some 108), .call F_labels_Read [(.t 107), (.c (.str [101, 118, 101]))], none⟩,
    ⟨(some 106), .mov (.t 108), none⟩,
    ⟨(some 109), .extr (.t 106) 0, none⟩,
    ⟨(some 110), .extr (.t 106) 1, none⟩,
    ⟨(some 11), .mov (.t 110), none⟩])
  (.seq (.region false [⟨(some 111), .mov (.t 3), none⟩,
    ⟨(some 112), .bin .eql (.t 111) (.c (.int .i64 0)), none⟩,
    ⟨(some 113), .mov (.t 112), none⟩,
    ⟨(some 114), .mov (.t 5), some (113, true)⟩,
    ⟨(some 115), .bin .eql (.t 114) (.c (.int .i64 0)), some (113, true)⟩,
    ⟨(some 116), .pick (.t 113) (.t 115) (.c (.bool false)), none⟩,
    ⟨(some 117), .mov (.t 116), none⟩,
    ⟨(some 118), .mov (.t 7), some (117, true)⟩,
    ⟨(some 119), .bin .eql (.t 118) (.c (.int .i64 0)), some (117, true)⟩,
    ⟨(some 120), .pick (.t 117) (.t 119) (.c (.bool false)), none⟩,
    ⟨(some 121), .mov (.t 120), none⟩,
    ⟨(some 122), .mov (.t 9), some (121, true)⟩,
    ⟨(some 123), .bin .eql (.t 122) (.c (.int .i64 6)), some (121, true)⟩,
    ⟨(some 124), .pick (.t 121) (.t 123) (.c (.bool false)), none⟩,
    ⟨(some 125), .mov (.t 124), none⟩,
    ⟨(some 126), .mov (.t 11), some (125, true)⟩,
    ⟨(some 127), .bin .eql (.t 126) (.c (.int .i64 4)), some (125, true)⟩,
    ⟨(some 128), .pick (.t 125) (.t 127) (.c (.bool false)), none⟩,
    ⟨(some 129), .mov (.t 128), none⟩,
    ⟨(some 130), .mov (.t 12), some (129, true)⟩,
    ⟨(some 131), .pick (.t 129) (.t 130) (.c (.bool false)), none⟩,
    ⟨(some 132), .mov (.t 131), none⟩,
    ⟨(some 133), .mov (.t 13), some (132, true)⟩,
    ⟨(some 134), .not (.t 133), some (132, true)⟩,
    ⟨(some 135), .pick (.t 132) (.t 134) (.c (.bool false)), none⟩,
    ⟨(some 136), .mov (.t 135), none⟩,
    ⟨(some 137), .mov (.t 14), some (136, true)⟩,
    ⟨(some 138), .bin .eql (.t 137) (.c (.str [45])), some (136, true)⟩,
    ⟨(some 139), .pick (.t 136) (.t 138) (.c (.bool false)), none⟩,
    ⟨(some 140), .mov (.t 139), none⟩,
    ⟨(some 141), .call F_law04_awake [], some (140, true)⟩,
    ⟨(some 142), .pick (.t 140) (.t 141) (.c (.bool false)), none⟩,
    ⟨(some 0), .mov (.t 142), none⟩])
  (.ret)))))))))))))),
  [.tmp 0]⟩

/- law03_Far -/
def A_law03_Far : AFun := ⟨12,
  .seq (.region false [⟨(some 1), .box (.t 0), none⟩,
    ⟨(some 2), .mov (.c (.bool false)), none⟩])
  (.seq (.region false [⟨(some 3), .fldA 0 (.t 1), none⟩,
    ⟨(some 4), .ld none (.t 3), none⟩,
    ⟨(some 5), .call F_law03_long [(.t 4)], none⟩,
    ⟨(some 6), .mov (.t 5), none⟩,
    ⟨(some 7), .fldA 1 (.t 1), some (6, false)⟩,
    ⟨(some 8), .ld none (.t 7), some (6, false)⟩,
    ⟨(some 9), .len (.t 8), some (6, false)⟩,
    ⟨(some 10), .bin .gtr (.t 9) (.c (.int .i64 12)), some (6, false)⟩,
    ⟨(some 11), .pick (.t 6) (.c (.bool true)) (.t 10), none⟩,
    ⟨(some 2), .mov (.t 11), none⟩])
  (.ret)),
  [.tmp 2]⟩

/- law04_awake -/
def A_law04_awake : AFun := ⟨83,
  .seq (.region false [⟨(some 0), .mov (.c (.bool false)), none⟩])
  (.seq (.region false [⟨(some 12), .call F_law03_Diamond [], none⟩,
    ⟨(some 1), .alloc [.sl .ex [], .sl .ex []], none⟩,
    ⟨none, .st 2 (.t 1) (.t 12), none⟩])
  (.seq (.region false [⟨(some 14), .ld (some 2) (.t 1), none⟩,
    ⟨(some 15), .bsl 1 (.int .i64 0) 2 [(0, (.c (.int .i64 1))), (1, (.c (.int .i64 2)))], none⟩,
    ⟨(some 16), .call F_labels_Join [(.t 14), (.t 15)], none⟩,
    ⟨(some 13), .mov (.t 16), none⟩,
    ⟨(some 17), .extr (.t 13) 0, none⟩,
    ⟨(some 18), .extr (.t 13) 1, none⟩,
    ⟨(some 2), .mov (.t 17), none⟩,
    ⟨(some 3), .mov (.t 18), none⟩])
  (.seq (.region false [⟨(some 20), .ld (some 2) (.t 1), none⟩,
    ⟨(some 21), .bsl 1 (.int .i64 0) 3 [(0, (.c (.int .i64 0))), (1, (.c (.int .i64 1))), (2, (.c (.int .i64 2)))], none⟩,
    ⟨(some 22), .call F_labels_Flows [(.t 20), (.t 21), (.c (.int .i64 1))], none⟩,
    ⟨(some 19), .mov (.t 22), none⟩,
    ⟨(some 23), .extr (.t 19) 0, none⟩,
    ⟨(some 24), .extr (.t 19) 1, none⟩,
    ⟨(some 4), .mov (.t 23), none⟩,
    ⟨(some 5), .mov (.t 24), none⟩])
  (.seq (.region false [⟨(some 26), .ld (some 2) (.t 1), none⟩,
    ⟨(some 27), .bsl 1 (.int .i64 0) 4 [(0, (.c (.int .i64 3))), (1, (.c (.int .i64 2))), (2, (.c (.int .i64 1))), (3, (.c (.int .i64 2)))], none⟩,
    ⟨(some 28), .call F_labels_Sort [(.t 26), (.t 27)], none⟩,
    ⟨(some 25), .mov (.t 28), none⟩,
    ⟨(some 29), .extr (.t 25) 0, none⟩,
    ⟨(some 30), .extr (.t 25) 1, none⟩,
    ⟨(some 6), .mov (.t 29), none⟩,
    ⟨(some 7), .mov (.t 30), none⟩])
  (.seq (.region false [⟨(some 32), .ld (some 2) (.t 1), none⟩,
    ⟨(some 33), .bsl 1 (.int .i64 0) 3 [(0, (.c (.int .i64 3))), (1, (.c (.int .i64 2))), (2, (.c (.int .i64 1)))], none⟩,
    ⟨(some 34), .call F_labels_Least [(.t 32), (.t 33)], none⟩,
    ⟨(some 31), .mov (.t 34), none⟩,
    ⟨(some 35), .extr (.t 31) 0, none⟩,
    ⟨(some 36), .extr (.t 31) 1, none⟩,
    ⟨(some 8), .mov (.t 35), none⟩,
    ⟨(some 9), .mov (.t 36), none⟩])
  (.seq (.region false [⟨(some 38), .ld (some 2) (.t 1), none⟩,
    ⟨(some 39), .bsl 1 (.int .i64 0) 2 [(0, (.c (.int .i64 1))), (1, (.c (.int .i64 0)))], none⟩,
    ⟨(some 40), .call F_labels_Show [(.t 38), (.t 39)], none⟩,
    ⟨(some 37), .mov (.t 40), none⟩,
    ⟨(some 41), .extr (.t 37) 0, none⟩,
    ⟨(some 42), .extr (.t 37) 1, none⟩,
    ⟨(some 10), .mov (.t 41), none⟩,
    ⟨(some 11), .mov (.t 42), none⟩])
  (.seq (.region false [⟨(some 43), .mov (.t 3), none⟩,
    ⟨(some 44), .bin .eql (.t 43) (.c (.int .i64 0)), none⟩,
    ⟨(some 45), .mov (.t 44), none⟩,
    ⟨(some 46), .mov (.t 5), some (45, true)⟩,
    ⟨(some 47), .bin .eql (.t 46) (.c (.int .i64 25)), some (45, true)⟩,
    ⟨(some 48), .pick (.t 45) (.t 47) (.c (.bool false)), none⟩,
    ⟨(some 49), .mov (.t 48), none⟩,
    ⟨(some 50), .mov (.t 7), some (49, true)⟩,
    ⟨(some 51), .bin .eql (.t 50) (.c (.int .i64 0)), some (49, true)⟩,
    ⟨(some 52), .pick (.t 49) (.t 51) (.c (.bool false)), none⟩,
    ⟨(some 53), .mov (.t 52), none⟩,
    ⟨(some 54), .mov (.t 9), some (53, true)⟩,
    ⟨(some 55), .bin .eql (.t 54) (.c (.int .i64 0)), some (53, true)⟩,
    ⟨(some 56), .pick (.t 53) (.t 55) (.c (.bool false)), none⟩,
    ⟨(some 57), .mov (.t 56), none⟩,
    ⟨(some 58), .mov (.t 11), some (57, true)⟩,
    ⟨(some 59), .bin .eql (.t 58) (.c (.int .i64 0)), some (57, true)⟩,
    ⟨(some 60), .pick (.t 57) (.t 59) (.c (.bool false)), none⟩,
    ⟨(some 61), .mov (.t 60), none⟩,
    ⟨(some 62), .mov (.t 2), some (61, true)⟩,
    ⟨(some 63), .bin .eql (.t 62) (.c (.int .i64 3)), some (61, true)⟩,
    ⟨(some 64), .pick (.t 61) (.t 63) (.c (.bool false)), none⟩,
    ⟨(some 65), .mov (.t 64), none⟩,
    ⟨(some 66), .mov (.t 4), some (65, true)⟩,
    ⟨(some 67), .bin .eql (.t 66) (.c (.int .i64 2)), some (65, true)⟩,
    ⟨(some 68), .pick (.t 65) (.t 67) (.c (.bool false)), none⟩,
    ⟨(some 69), .mov (.t 68), none⟩,
    ⟨(some 70), .mov (.t 6), some (69, true)⟩,
    ⟨(some 71), .bsl 1 (.int .i64 0) 3 [(0, (.c (.int .i64 1))), (1, (.c (.int .i64 2))), (2, (.c (.int .i64 3)))], some (69, true)⟩,
    ⟨(some 72), .call F_ref04_Same [(.t 70), (.t 71)], some (69, true)⟩,
    ⟨(some 73), .pick (.t 69) (.t 72) (.c (.bool false)), none⟩,
    ⟨(some 74), .mov (.t 73), none⟩,
    ⟨(some 75), .mov (.t 8), some (74, true)⟩,
    ⟨(some 76), .bsl 1 (.int .i64 0) 2 [(0, (.c (.int .i64 1))), (1, (.c (.int .i64 2)))], some (74, true)⟩,
    ⟨(some 77), .call F_ref04_Same [(.t 75), (.t 76)], some (74, true)⟩,
    ⟨(some 78), .pick (.t 74) (.t 77) (.c (.bool false)), none⟩,
    ⟨(some 79), .mov (.t 78), none⟩,
    ⟨(some 80), .mov (.t 10), some (79, true)⟩,
    ⟨(some 81), .bin .eql (.t 80) (.c (.str [97, 110, 110, 44, 108, 111, 119])), some (79, true)⟩,
    ⟨(some 82), .pick (.t 79) (.t 81) (.c (.bool false)), none⟩,
    ⟨(some 0), .mov (.t 82), none⟩])
  (.ret)))))))),
  [.tmp 0]⟩

/- labels_Chain -/
def A_labels_ChainL0 : ACode :=
  .seq (.seq (.region false [⟨(some 20), .mov (.t 9), none⟩,
    ⟨(some 21), .mov (.t 6), none⟩,
    ⟨(some 22), .len (.t 21), none⟩,
    ⟨(some 23), .bin .lss (.t 20) (.t 22), none⟩])
  (.cond (.t 23)
   (.skip)
   (.exit 0)))
  (.seq (.block 1 (.seq (.region true [⟨(some 26), .mov (.t 6), none⟩,
    ⟨(some 27), .mov (.t 9), none⟩,
    ⟨(some 28), .bin .sub (.t 27) (.c (.int .i64 1)), none⟩,
    ⟨(some 29), .idxA 1 (.t 26) (.t 28), none⟩,
    ⟨(some 30), .ld none (.t 29), none⟩,
    ⟨(some 31), .mov (.t 6), none⟩,
    ⟨(some 32), .mov (.t 9), none⟩,
    ⟨(some 33), .idxA 1 (.t 31) (.t 32), none⟩,
    ⟨(some 34), .ld none (.t 33), none⟩,
    ⟨(some 35), .call F_labels_order_below [(.t 8), (.t 30), (.t 34)], none⟩,
    ⟨(some 36), .not (.t 35), none⟩])
  (.cond (.t 36)
   (.seq (.region false [⟨(some 4), .mov (.c (.bool false)), none⟩,
     ⟨(some 5), .mov (.c (.int .i64 0)), none⟩])
   (.ret))
   (.skip))))
  (.region false [⟨(some 24), .mov (.t 9), none⟩,
    ⟨(some 25), .bin .add (.t 24) (.c (.int .i64 1)), none⟩,
    ⟨(some 9), .mov (.t 25), none⟩]))
def A_labels_Chain : AFun := ⟨37,
  .seq (.region false [⟨(some 2), .box (.t 0), none⟩,
    ⟨(some 4), .mov (.c (.bool false)), none⟩,
    ⟨(some 5), .mov (.c (.int .i64 0)), none⟩])
  (.seq (.region false [⟨(some 11), .ld (some 2) (.t 2), none⟩,
    ⟨(some 12), .mov (.t 1), none⟩,
    ⟨(some 13), .call F_labels_Sort [(.t 11), (.t 12)], none⟩,
    ⟨(some 10), .mov (.t 13), none⟩,
    ⟨(some 14), .extr (.t 10) 0, none⟩,
    ⟨(some 15), .extr (.t 10) 1, none⟩,
    ⟨(some 6), .mov (.t 14), none⟩,
    ⟨(some 7), .mov (.t 15), none⟩])
  (.seq (.seq (.region false [⟨(some 16), .mov (.t 7), none⟩,
    ⟨(some 17), .bin .neq (.t 16) (.c (.int .i64 0)), none⟩])
  (.cond (.t 17)
   (.seq (.region false [⟨(some 18), .mov (.t 7), none⟩,
     ⟨(some 4), .mov (.c (.bool false)), none⟩,
     ⟨(some 5), .mov (.t 18), none⟩])
   (.ret))
   (.skip)))
  (.seq (.region false [⟨(some 19), .ld (some 2) (.t 2), none⟩,
    ⟨(some 8), .alloc [.sl .ex [], .sl .ex []], none⟩,
    ⟨none, .st 2 (.t 8) (.t 19), none⟩])
  (.seq (.seq (.region false [⟨(some 9), .mov (.c (.int .i64 1)), none⟩])
  (.block 0 (.loop A_labels_ChainL0)))
  (.seq (.region false [⟨(some 4), .mov (.c (.bool true)), none⟩,
    ⟨(some 5), .mov (.c (.int .i64 0)), none⟩])
  (.ret)))))),
  [.tmp 4, .tmp 5]⟩

/- ref04_Chain -/
def A_ref04_ChainL1 : ACode :=
  .seq (.seq (.region false [⟨(some 25), .mov (.t 9), none⟩,
    ⟨(some 26), .mov (.t 8), none⟩,
    ⟨(some 27), .bin .lss (.t 25) (.t 26), none⟩])
  (.cond (.t 27)
   (.skip)
   (.exit 2)))
  (.seq (.block 3 (.seq (.region true [⟨(some 30), .ld (some 2) (.t 2), none⟩,
    ⟨(some 31), .mov (.t 1), none⟩,
    ⟨(some 32), .mov (.t 8), none⟩,
    ⟨(some 33), .idxA 1 (.t 31) (.t 32), none⟩,
    ⟨(some 34), .ld none (.t 33), none⟩,
    ⟨(some 35), .mov (.t 1), none⟩,
    ⟨(some 36), .mov (.t 9), none⟩,
    ⟨(some 37), .idxA 1 (.t 35) (.t 36), none⟩,
    ⟨(some 38), .ld none (.t 37), none⟩,
    ⟨(some 39), .call F_ref03_Below [(.t 30), (.t 34), (.t 38)], none⟩,
    ⟨(some 40), .not (.t 39), none⟩,
    ⟨(some 41), .mov (.t 40), none⟩,
    ⟨(some 42), .ld (some 2) (.t 2), some (41, true)⟩,
    ⟨(some 43), .mov (.t 1), some (41, true)⟩,
    ⟨(some 44), .mov (.t 9), some (41, true)⟩,
    ⟨(some 45), .idxA 1 (.t 43) (.t 44), some (41, true)⟩,
    ⟨(some 46), .ld none (.t 45), some (41, true)⟩,
    ⟨(some 47), .mov (.t 1), some (41, true)⟩,
    ⟨(some 48), .mov (.t 8), some (41, true)⟩,
    ⟨(some 49), .idxA 1 (.t 47) (.t 48), some (41, true)⟩,
    ⟨(some 50), .ld none (.t 49), some (41, true)⟩,
    ⟨(some 51), .call F_ref03_Below [(.t 42), (.t 46), (.t 50)], some (41, true)⟩,
    ⟨(some 52), .not (.t 51), some (41, true)⟩,
    ⟨(some 53), .pick (.t 41) (.t 52) (.c (.bool false)), none⟩])
  (.cond (.t 53)
   (.seq (.region false [⟨(some 4), .mov (.c (.bool false)), none⟩,
     ⟨(some 5), .mov (.c (.int .i64 0)), none⟩])
   (.ret))
   (.skip))))
  (.region false [⟨(some 28), .mov (.t 9), none⟩,
    ⟨(some 29), .bin .add (.t 28) (.c (.int .i64 1)), none⟩,
    ⟨(some 9), .mov (.t 29), none⟩]))
def A_ref04_ChainL0 : ACode :=
  .seq (.seq (.region false [⟨(some 19), .mov (.t 8), none⟩,
    ⟨(some 20), .mov (.t 1), none⟩,
    ⟨(some 21), .len (.t 20), none⟩,
    ⟨(some 22), .bin .lss (.t 19) (.t 21), none⟩])
  (.cond (.t 22)
   (.skip)
   (.exit 0)))
  (.seq (.block 1 (.seq (.region false [⟨(some 9), .mov (.c (.int .i64 0)), none⟩])
  (.block 2 (.loop A_ref04_ChainL1))))
  (.region false [⟨(some 23), .mov (.t 8), none⟩,
    ⟨(some 24), .bin .add (.t 23) (.c (.int .i64 1)), none⟩,
    ⟨(some 8), .mov (.t 24), none⟩]))
def A_ref04_Chain : AFun := ⟨54,
  .seq (.region false [⟨(some 2), .box (.t 0), none⟩,
    ⟨(some 4), .mov (.c (.bool false)), none⟩,
    ⟨(some 5), .mov (.c (.int .i64 0)), none⟩])
  (.seq (.region false [⟨(some 11), .ld (some 2) (.t 2), none⟩,
    ⟨(some 12), .mov (.t 1), none⟩,
    ⟨(some 13), .call F_ref04_Check [(.t 11), (.t 12)], none⟩,
    ⟨(some 10), .mov (.t 13), none⟩,
    ⟨(some 14), .extr (.t 10) 0, none⟩,
    ⟨(some 15), .extr (.t 10) 1, none⟩,
    ⟨(some 6), .mov (.t 14), none⟩,
    ⟨(some 7), .mov (.t 15), none⟩])
  (.seq (.seq (.region false [⟨(some 16), .mov (.t 7), none⟩,
    ⟨(some 17), .bin .neq (.t 16) (.c (.int .i64 0)), none⟩])
  (.cond (.t 17)
   (.seq (.region false [⟨(some 18), .mov (.t 7), none⟩,
     ⟨(some 4), .mov (.c (.bool false)), none⟩,
     ⟨(some 5), .mov (.t 18), none⟩])
   (.ret))
   (.skip)))
  (.seq (.seq (.region false [⟨(some 8), .mov (.c (.int .i64 0)), none⟩])
  (.block 0 (.loop A_ref04_ChainL0)))
  (.seq (.region false [⟨(some 4), .mov (.c (.bool true)), none⟩,
    ⟨(some 5), .mov (.c (.int .i64 0)), none⟩])
  (.ret))))),
  [.tmp 4, .tmp 5]⟩

/- labels_Least -/
def A_labels_LeastL0 : ACode :=
  .seq (.region false [⟨(some 25), .bin .lss (.t 24) (.t 23), none⟩])
  (.seq (.cond (.t 25)
   (.skip)
   (.exit 0))
  (.seq (.block 1 (.seq (.region false [⟨(some 26), .idxA 1 (.t 22) (.t 24), none⟩,
    ⟨(some 27), .ld none (.t 26), none⟩,
    ⟨(some 11), .alloc [.int .i64 0], none⟩,
    ⟨none, .st 1 (.t 11) (.t 27), none⟩])
  (.seq (.region false [⟨(some 28), .mov (.t 9), none⟩,
    ⟨(some 29), .mkf F_labels_Least_1 [] [(.t 8), (.t 11)], none⟩,
    ⟨(some 30), .call F_slices_ContainsFunc_int_int [(.t 28), (.t 29)], none⟩,
    ⟨(some 31), .not (.t 30), none⟩])
  (.cond (.t 31)
   (.region false [⟨(some 32), .mov (.t 9), none⟩,
     ⟨(some 33), .ld none (.t 11), none⟩,
     ⟨(some 34), .bsl 1 (.int .i64 0) 1 [(0, (.t 33))], none⟩,
     ⟨(some 35), .app 1 8 (.t 32) (.t 34), none⟩,
     ⟨(some 9), .mov (.t 35), none⟩])
   (.skip)))))
  (.region false [⟨(some 36), .bin .add (.t 24) (.c (.int .i64 1)), none⟩,
    ⟨(some 24), .mov (.t 36), none⟩])))
def A_labels_Least : AFun := ⟨38,
  .seq (.region false [⟨(some 2), .box (.t 0), none⟩,
    ⟨(some 4), .mov (.c (.sl .ex [])), none⟩,
    ⟨(some 5), .mov (.c (.int .i64 0)), none⟩])
  (.seq (.region false [⟨(some 13), .ld (some 2) (.t 2), none⟩,
    ⟨(some 14), .mov (.t 1), none⟩,
    ⟨(some 15), .call F_labels_Sort [(.t 13), (.t 14)], none⟩,
    ⟨(some 12), .mov (.t 15), none⟩,
    ⟨(some 16), .extr (.t 12) 0, none⟩,
    ⟨(some 17), .extr (.t 12) 1, none⟩,
    ⟨(some 6), .mov (.t 16), none⟩,
    ⟨(some 7), .mov (.t 17), none⟩])
  (.seq (.seq (.region false [⟨(some 18), .mov (.t 7), none⟩,
    ⟨(some 19), .bin .neq (.t 18) (.c (.int .i64 0)), none⟩])
  (.cond (.t 19)
   (.seq (.region false [⟨(some 20), .mov (.t 7), none⟩,
     ⟨(some 4), .mov (.c (.sl .ex [])), none⟩,
     ⟨(some 5), .mov (.t 20), none⟩])
   (.ret))
   (.skip)))
  (.seq (.region false [⟨(some 21), .ld (some 2) (.t 2), none⟩,
    ⟨(some 8), .alloc [.sl .ex [], .sl .ex []], none⟩,
    ⟨none, .st 2 (.t 8) (.t 21), none⟩])
  (.seq (.region false [⟨(some 9), .mov (.c (.sl .ex [])), none⟩])
  (.seq (.seq (.region false [⟨(some 22), .mov (.t 6), none⟩,
    ⟨(some 23), .len (.t 22), none⟩,
    ⟨(some 24), .mov (.c (.int .i64 0)), none⟩])
  (.block 0 (.loop A_labels_LeastL0)))
  (.seq (.region false [⟨(some 37), .mov (.t 9), none⟩,
    ⟨(some 4), .mov (.t 37), none⟩,
    ⟨(some 5), .mov (.c (.int .i64 0)), none⟩])
  (.ret))))))),
  [.tmp 4, .tmp 5]⟩

/- ref04_Least -/
def A_ref04_LeastL1 : ACode :=
  .seq (.seq (.region false [⟨(some 27), .mov (.t 11), none⟩,
    ⟨(some 28), .mov (.t 1), none⟩,
    ⟨(some 29), .len (.t 28), none⟩,
    ⟨(some 30), .bin .lss (.t 27) (.t 29), none⟩])
  (.cond (.t 30)
   (.skip)
   (.exit 2)))
  (.seq (.block 3 (.seq (.region true [⟨(some 33), .mov (.t 1), none⟩,
    ⟨(some 34), .mov (.t 11), none⟩,
    ⟨(some 35), .idxA 1 (.t 33) (.t 34), none⟩,
    ⟨(some 36), .ld none (.t 35), none⟩,
    ⟨(some 37), .mov (.t 1), none⟩,
    ⟨(some 38), .mov (.t 9), none⟩,
    ⟨(some 39), .idxA 1 (.t 37) (.t 38), none⟩,
    ⟨(some 40), .ld none (.t 39), none⟩,
    ⟨(some 41), .bin .neq (.t 36) (.t 40), none⟩,
    ⟨(some 42), .mov (.t 41), none⟩,
    ⟨(some 43), .ld (some 2) (.t 2), some (42, true)⟩,
    ⟨(some 44), .mov (.t 1), some (42, true)⟩,
    ⟨(some 45), .mov (.t 11), some (42, true)⟩,
    ⟨(some 46), .idxA 1 (.t 44) (.t 45), some (42, true)⟩,
    ⟨(some 47), .ld none (.t 46), some (42, true)⟩,
    ⟨(some 48), .mov (.t 1), some (42, true)⟩,
    ⟨(some 49), .mov (.t 9), some (42, true)⟩,
    ⟨(some 50), .idxA 1 (.t 48) (.t 49), some (42, true)⟩,
    ⟨(some 51), .ld none (.t 50), some (42, true)⟩,
    ⟨(some 52), .call F_ref03_Below [(.t 43), (.t 47), (.t 51)], some (42, true)⟩,
    ⟨(some 53), .pick (.t 42) (.t 52) (.c (.bool false)), none⟩])
  (.cond (.t 53)
   (.region false [⟨(some 10), .mov (.c (.bool false)), none⟩])
   (.skip))))
  (.region false [⟨(some 31), .mov (.t 11), none⟩,
    ⟨(some 32), .bin .add (.t 31) (.c (.int .i64 1)), none⟩,
    ⟨(some 11), .mov (.t 32), none⟩]))
def A_ref04_LeastL0 : ACode :=
  .seq (.seq (.region false [⟨(some 21), .mov (.t 9), none⟩,
    ⟨(some 22), .mov (.t 1), none⟩,
    ⟨(some 23), .len (.t 22), none⟩,
    ⟨(some 24), .bin .lss (.t 21) (.t 23), none⟩])
  (.cond (.t 24)
   (.skip)
   (.exit 0)))
  (.seq (.block 1 (.seq (.region false [⟨(some 10), .mov (.c (.bool true)), none⟩])
  (.seq (.seq (.region false [⟨(some 11), .mov (.c (.int .i64 0)), none⟩])
  (.block 2 (.loop A_ref04_LeastL1)))
  (.seq (.region false [⟨(some 54), .mov (.t 10), none⟩])
  (.cond (.t 54)
   (.region false [⟨(some 55), .mov (.t 8), none⟩,
     ⟨(some 56), .mov (.t 1), none⟩,
     ⟨(some 57), .mov (.t 9), none⟩,
     ⟨(some 58), .idxA 1 (.t 56) (.t 57), none⟩,
     ⟨(some 59), .ld none (.t 58), none⟩,
     ⟨(some 60), .bsl 1 (.int .i64 0) 1 [(0, (.t 59))], none⟩,
     ⟨(some 61), .app 1 8 (.t 55) (.t 60), none⟩,
     ⟨(some 8), .mov (.t 61), none⟩])
   (.skip))))))
  (.region false [⟨(some 25), .mov (.t 9), none⟩,
    ⟨(some 26), .bin .add (.t 25) (.c (.int .i64 1)), none⟩,
    ⟨(some 9), .mov (.t 26), none⟩]))
def A_ref04_Least : AFun := ⟨65,
  .seq (.region false [⟨(some 2), .box (.t 0), none⟩,
    ⟨(some 4), .mov (.c (.sl .ex [])), none⟩,
    ⟨(some 5), .mov (.c (.int .i64 0)), none⟩])
  (.seq (.region false [⟨(some 13), .ld (some 2) (.t 2), none⟩,
    ⟨(some 14), .mov (.t 1), none⟩,
    ⟨(some 15), .call F_ref04_Check [(.t 13), (.t 14)], none⟩,
    ⟨(some 12), .mov (.t 15), none⟩,
    ⟨(some 16), .extr (.t 12) 0, none⟩,
    ⟨(some 17), .extr (.t 12) 1, none⟩,
    ⟨(some 6), .mov (.t 16), none⟩,
    ⟨(some 7), .mov (.t 17), none⟩])
  (.seq (.seq (.region false [⟨(some 18), .mov (.t 7), none⟩,
    ⟨(some 19), .bin .neq (.t 18) (.c (.int .i64 0)), none⟩])
  (.cond (.t 19)
   (.seq (.region false [⟨(some 20), .mov (.t 7), none⟩,
     ⟨(some 4), .mov (.c (.sl .ex [])), none⟩,
     ⟨(some 5), .mov (.t 20), none⟩])
   (.ret))
   (.skip)))
  (.seq (.region false [⟨(some 8), .mov (.c (.sl .ex [])), none⟩])
  (.seq (.seq (.region false [⟨(some 9), .mov (.c (.int .i64 0)), none⟩])
  (.block 0 (.loop A_ref04_LeastL0)))
  (.seq (.region false [⟨(some 62), .ld (some 2) (.t 2), none⟩,
    ⟨(some 63), .mov (.t 8), none⟩,
    ⟨(some 64), .call F_ref04_sorted [(.t 62), (.t 63)], none⟩,
    ⟨(some 4), .mov (.t 64), none⟩,
    ⟨(some 5), .mov (.c (.int .i64 0)), none⟩])
  (.ret)))))),
  [.tmp 4, .tmp 5]⟩

/- ref04_Same -/
def A_ref04_SameL0 : ACode :=
  .seq (.seq (.region false [⟨(some 11), .mov (.t 5), none⟩,
    ⟨(some 12), .mov (.t 0), none⟩,
    ⟨(some 13), .len (.t 12), none⟩,
    ⟨(some 14), .bin .lss (.t 11) (.t 13), none⟩])
  (.cond (.t 14)
   (.skip)
   (.exit 0)))
  (.seq (.block 1 (.seq (.region true [⟨(some 17), .mov (.t 0), none⟩,
    ⟨(some 18), .mov (.t 5), none⟩,
    ⟨(some 19), .idxA 1 (.t 17) (.t 18), none⟩,
    ⟨(some 20), .ld none (.t 19), none⟩,
    ⟨(some 21), .mov (.t 1), none⟩,
    ⟨(some 22), .mov (.t 5), none⟩,
    ⟨(some 23), .idxA 1 (.t 21) (.t 22), none⟩,
    ⟨(some 24), .ld none (.t 23), none⟩,
    ⟨(some 25), .bin .neq (.t 20) (.t 24), none⟩])
  (.cond (.t 25)
   (.seq (.region false [⟨(some 4), .mov (.c (.bool false)), none⟩])
   (.ret))
   (.skip))))
  (.region false [⟨(some 15), .mov (.t 5), none⟩,
    ⟨(some 16), .bin .add (.t 15) (.c (.int .i64 1)), none⟩,
    ⟨(some 5), .mov (.t 16), none⟩]))
def A_ref04_Same : AFun := ⟨26,
  .seq (.region false [⟨(some 4), .mov (.c (.bool false)), none⟩])
  (.seq (.seq (.region false [⟨(some 6), .mov (.t 0), none⟩,
    ⟨(some 7), .len (.t 6), none⟩,
    ⟨(some 8), .mov (.t 1), none⟩,
    ⟨(some 9), .len (.t 8), none⟩,
    ⟨(some 10), .bin .neq (.t 7) (.t 9), none⟩])
  (.cond (.t 10)
   (.seq (.region false [⟨(some 4), .mov (.c (.bool false)), none⟩])
   (.ret))
   (.skip)))
  (.seq (.seq (.region false [⟨(some 5), .mov (.c (.int .i64 0)), none⟩])
  (.block 0 (.loop A_ref04_SameL0)))
  (.seq (.region false [⟨(some 4), .mov (.c (.bool true)), none⟩])
  (.ret)))),
  [.tmp 4]⟩

/- labels_Down -/
def A_labels_Down : AFun := ⟨12,
  .seq (.region false [⟨(some 2), .box (.t 0), none⟩,
    ⟨(some 3), .box (.t 1), none⟩,
    ⟨(some 4), .mov (.c (.sl .ex [])), none⟩,
    ⟨(some 5), .mov (.c (.int .i64 0)), none⟩])
  (.seq (.region false [⟨(some 6), .ld (some 2) (.t 2), none⟩,
    ⟨(some 7), .ld none (.t 3), none⟩,
    ⟨(some 8), .mkf F_labels_Down_1 [] [(.t 3)], none⟩,
    ⟨(some 9), .call F_labels_beyond [(.t 6), (.t 7), (.t 8)], none⟩,
    ⟨(some 10), .extr (.t 9) 0, none⟩,
    ⟨(some 11), .extr (.t 9) 1, none⟩,
    ⟨(some 4), .mov (.t 10), none⟩,
    ⟨(some 5), .mov (.t 11), none⟩])
  (.ret)),
  [.tmp 4, .tmp 5]⟩

/- ref04_Down -/
def A_ref04_DownL0 : ACode :=
  .seq (.seq (.region false [⟨(some 20), .mov (.t 9), none⟩,
    ⟨(some 21), .fldA 0 (.t 2), none⟩,
    ⟨(some 22), .ld none (.t 21), none⟩,
    ⟨(some 23), .len (.t 22), none⟩,
    ⟨(some 24), .bin .lss (.t 20) (.t 23), none⟩])
  (.cond (.t 24)
   (.skip)
   (.exit 0)))
  (.seq (.block 1 (.seq (.region false [⟨(some 27), .ld (some 2) (.t 2), none⟩,
    ⟨(some 28), .mov (.t 9), none⟩,
    ⟨(some 29), .mov (.t 1), none⟩,
    ⟨(some 30), .call F_ref03_Below [(.t 27), (.t 28), (.t 29)], none⟩])
  (.cond (.t 30)
   (.region false [⟨(some 31), .mov (.t 8), none⟩,
     ⟨(some 32), .mov (.t 9), none⟩,
     ⟨(some 33), .bsl 1 (.int .i64 0) 1 [(0, (.t 32))], none⟩,
     ⟨(some 34), .app 1 8 (.t 31) (.t 33), none⟩,
     ⟨(some 8), .mov (.t 34), none⟩])
   (.skip))))
  (.region false [⟨(some 25), .mov (.t 9), none⟩,
    ⟨(some 26), .bin .add (.t 25) (.c (.int .i64 1)), none⟩,
    ⟨(some 9), .mov (.t 26), none⟩]))
def A_ref04_Down : AFun := ⟨38,
  .seq (.region false [⟨(some 2), .box (.t 0), none⟩,
    ⟨(some 4), .mov (.c (.sl .ex [])), none⟩,
    ⟨(some 5), .mov (.c (.int .i64 0)), none⟩])
  (.seq (.region false [⟨(some 11), .ld (some 2) (.t 2), none⟩,
    ⟨(some 12), .mov (.t 1), none⟩,
    ⟨(some 13), .bsl 1 (.int .i64 0) 1 [(0, (.t 12))], none⟩,
    ⟨(some 14), .call F_ref04_Check [(.t 11), (.t 13)], none⟩,
    ⟨(some 10), .mov (.t 14), none⟩,
    ⟨(some 15), .extr (.t 10) 0, none⟩,
    ⟨(some 16), .extr (.t 10) 1, none⟩,
    ⟨(some 6), .mov (.t 15), none⟩,
    ⟨(some 7), .mov (.t 16), none⟩])
  (.seq (.seq (.region false [⟨(some 17), .mov (.t 7), none⟩,
    ⟨(some 18), .bin .neq (.t 17) (.c (.int .i64 0)), none⟩])
  (.cond (.t 18)
   (.seq (.region false [⟨(some 19), .mov (.t 7), none⟩,
     ⟨(some 4), .mov (.c (.sl .ex [])), none⟩,
     ⟨(some 5), .mov (.t 19), none⟩])
   (.ret))
   (.skip)))
  (.seq (.region false [⟨(some 8), .mov (.c (.sl .ex [])), none⟩])
  (.seq (.seq (.region false [⟨(some 9), .mov (.c (.int .i64 0)), none⟩])
  (.block 0 (.loop A_ref04_DownL0)))
  (.seq (.region false [⟨(some 35), .ld (some 2) (.t 2), none⟩,
    ⟨(some 36), .mov (.t 8), none⟩,
    ⟨(some 37), .call F_ref04_sorted [(.t 35), (.t 36)], none⟩,
    ⟨(some 4), .mov (.t 37), none⟩,
    ⟨(some 5), .mov (.c (.int .i64 0)), none⟩])
  (.ret)))))),
  [.tmp 4, .tmp 5]⟩

/- labels_Up -/
def A_labels_Up : AFun := ⟨12,
  .seq (.region false [⟨(some 2), .box (.t 0), none⟩,
    ⟨(some 3), .box (.t 1), none⟩,
    ⟨(some 4), .mov (.c (.sl .ex [])), none⟩,
    ⟨(some 5), .mov (.c (.int .i64 0)), none⟩])
  (.seq (.region false [⟨(some 6), .ld (some 2) (.t 2), none⟩,
    ⟨(some 7), .ld none (.t 3), none⟩,
    ⟨(some 8), .mkf F_labels_Up_1 [] [(.t 3)], none⟩,
    ⟨(some 9), .call F_labels_beyond [(.t 6), (.t 7), (.t 8)], none⟩,
    ⟨(some 10), .extr (.t 9) 0, none⟩,
    ⟨(some 11), .extr (.t 9) 1, none⟩,
    ⟨(some 4), .mov (.t 10), none⟩,
    ⟨(some 5), .mov (.t 11), none⟩])
  (.ret)),
  [.tmp 4, .tmp 5]⟩

/- ref04_Up -/
def A_ref04_UpL0 : ACode :=
  .seq (.seq (.region false [⟨(some 20), .mov (.t 9), none⟩,
    ⟨(some 21), .fldA 0 (.t 2), none⟩,
    ⟨(some 22), .ld none (.t 21), none⟩,
    ⟨(some 23), .len (.t 22), none⟩,
    ⟨(some 24), .bin .lss (.t 20) (.t 23), none⟩])
  (.cond (.t 24)
   (.skip)
   (.exit 0)))
  (.seq (.block 1 (.seq (.region false [⟨(some 27), .ld (some 2) (.t 2), none⟩,
    ⟨(some 28), .mov (.t 1), none⟩,
    ⟨(some 29), .mov (.t 9), none⟩,
    ⟨(some 30), .call F_ref03_Below [(.t 27), (.t 28), (.t 29)], none⟩])
  (.cond (.t 30)
   (.region false [⟨(some 31), .mov (.t 8), none⟩,
     ⟨(some 32), .mov (.t 9), none⟩,
     ⟨(some 33), .bsl 1 (.int .i64 0) 1 [(0, (.t 32))], none⟩,
     ⟨(some 34), .app 1 8 (.t 31) (.t 33), none⟩,
     ⟨(some 8), .mov (.t 34), none⟩])
   (.skip))))
  (.region false [⟨(some 25), .mov (.t 9), none⟩,
    ⟨(some 26), .bin .add (.t 25) (.c (.int .i64 1)), none⟩,
    ⟨(some 9), .mov (.t 26), none⟩]))
def A_ref04_Up : AFun := ⟨38,
  .seq (.region false [⟨(some 2), .box (.t 0), none⟩,
    ⟨(some 4), .mov (.c (.sl .ex [])), none⟩,
    ⟨(some 5), .mov (.c (.int .i64 0)), none⟩])
  (.seq (.region false [⟨(some 11), .ld (some 2) (.t 2), none⟩,
    ⟨(some 12), .mov (.t 1), none⟩,
    ⟨(some 13), .bsl 1 (.int .i64 0) 1 [(0, (.t 12))], none⟩,
    ⟨(some 14), .call F_ref04_Check [(.t 11), (.t 13)], none⟩,
    ⟨(some 10), .mov (.t 14), none⟩,
    ⟨(some 15), .extr (.t 10) 0, none⟩,
    ⟨(some 16), .extr (.t 10) 1, none⟩,
    ⟨(some 6), .mov (.t 15), none⟩,
    ⟨(some 7), .mov (.t 16), none⟩])
  (.seq (.seq (.region false [⟨(some 17), .mov (.t 7), none⟩,
    ⟨(some 18), .bin .neq (.t 17) (.c (.int .i64 0)), none⟩])
  (.cond (.t 18)
   (.seq (.region false [⟨(some 19), .mov (.t 7), none⟩,
     ⟨(some 4), .mov (.c (.sl .ex [])), none⟩,
     ⟨(some 5), .mov (.t 19), none⟩])
   (.ret))
   (.skip)))
  (.seq (.region false [⟨(some 8), .mov (.c (.sl .ex [])), none⟩])
  (.seq (.seq (.region false [⟨(some 9), .mov (.c (.int .i64 0)), none⟩])
  (.block 0 (.loop A_ref04_UpL0)))
  (.seq (.region false [⟨(some 35), .ld (some 2) (.t 2), none⟩,
    ⟨(some 36), .mov (.t 8), none⟩,
    ⟨(some 37), .call F_ref04_sorted [(.t 35), (.t 36)], none⟩,
    ⟨(some 4), .mov (.t 37), none⟩,
    ⟨(some 5), .mov (.c (.int .i64 0)), none⟩])
  (.ret)))))),
  [.tmp 4, .tmp 5]⟩

/- labels_Sort -/
def A_labels_Sort : AFun := ⟨21,
  .seq (.region false [⟨(some 2), .box (.t 0), none⟩,
    ⟨(some 4), .mov (.c (.sl .ex [])), none⟩,
    ⟨(some 5), .mov (.c (.int .i64 0)), none⟩])
  (.seq (.seq (.region false [⟨(some 10), .ld (some 2) (.t 2), none⟩,
    ⟨(some 11), .mov (.t 1), none⟩,
    ⟨(some 12), .call F_labels_Check [(.t 10), (.t 11)], none⟩,
    ⟨(some 9), .mov (.t 12), none⟩,
    ⟨(some 13), .extr (.t 9) 0, none⟩,
    ⟨(some 14), .extr (.t 9) 1, none⟩,
    ⟨(some 6), .mov (.t 13), none⟩,
    ⟨(some 7), .mov (.t 14), none⟩])
  (.seq (.region false [⟨(some 15), .mov (.t 7), none⟩,
    ⟨(some 16), .bin .neq (.t 15) (.c (.int .i64 0)), none⟩])
  (.cond (.t 16)
   (.seq (.region false [⟨(some 17), .mov (.t 7), none⟩,
     ⟨(some 4), .mov (.c (.sl .ex [])), none⟩,
     ⟨(some 5), .mov (.t 17), none⟩])
   (.ret))
   (.skip))))
  (.seq (.region false [⟨(some 18), .ld (some 2) (.t 2), none⟩,
    ⟨(some 8), .alloc [.sl .ex [], .sl .ex []], none⟩,
    ⟨none, .st 2 (.t 8) (.t 18), none⟩])
  (.seq (.region false [⟨(some 19), .mov (.t 1), none⟩,
    ⟨(some 20), .call F_labels_sorted [(.t 8), (.t 19)], none⟩,
    ⟨(some 4), .mov (.t 20), none⟩,
    ⟨(some 5), .mov (.c (.int .i64 0)), none⟩])
  (.ret)))),
  [.tmp 4, .tmp 5]⟩

/- ref04_Sort -/
def A_ref04_Sort : AFun := ⟨20,
  .seq (.region false [⟨(some 2), .box (.t 0), none⟩,
    ⟨(some 4), .mov (.c (.sl .ex [])), none⟩,
    ⟨(some 5), .mov (.c (.int .i64 0)), none⟩])
  (.seq (.region false [⟨(some 9), .ld (some 2) (.t 2), none⟩,
    ⟨(some 10), .mov (.t 1), none⟩,
    ⟨(some 11), .call F_ref04_Check [(.t 9), (.t 10)], none⟩,
    ⟨(some 8), .mov (.t 11), none⟩,
    ⟨(some 12), .extr (.t 8) 0, none⟩,
    ⟨(some 13), .extr (.t 8) 1, none⟩,
    ⟨(some 6), .mov (.t 12), none⟩,
    ⟨(some 7), .mov (.t 13), none⟩])
  (.seq (.seq (.region false [⟨(some 14), .mov (.t 7), none⟩,
    ⟨(some 15), .bin .neq (.t 14) (.c (.int .i64 0)), none⟩])
  (.cond (.t 15)
   (.seq (.region false [⟨(some 16), .mov (.t 7), none⟩,
     ⟨(some 4), .mov (.c (.sl .ex [])), none⟩,
     ⟨(some 5), .mov (.t 16), none⟩])
   (.ret))
   (.skip)))
  (.seq (.region false [⟨(some 17), .ld (some 2) (.t 2), none⟩,
    ⟨(some 18), .mov (.t 1), none⟩,
    ⟨(some 19), .call F_ref04_sorted [(.t 17), (.t 18)], none⟩,
    ⟨(some 4), .mov (.t 19), none⟩,
    ⟨(some 5), .mov (.c (.int .i64 0)), none⟩])
  (.ret)))),
  [.tmp 4, .tmp 5]⟩

/- labels_Check -/
def A_labels_CheckL0 : ACode :=
  .seq (.region false [⟨(some 24), .bin .lss (.t 23) (.t 22), none⟩])
  (.seq (.cond (.t 24)
   (.skip)
   (.exit 0))
  (.seq (.block 1 (.seq (.region false [⟨(some 25), .mov (.t 23), none⟩,
    ⟨(some 26), .idxA 1 (.t 21) (.t 23), none⟩,
    ⟨(some 27), .ld none (.t 26), none⟩,
    ⟨(some 8), .mov (.t 25), none⟩,
    ⟨(some 9), .mov (.t 27), none⟩])
  (.seq (.region false [⟨(some 28), .mov (.t 9), none⟩,
    ⟨(some 29), .bin .lss (.t 28) (.c (.int .i64 0)), none⟩,
    ⟨(some 30), .mov (.t 29), none⟩,
    ⟨(some 31), .mov (.t 9), some (30, false)⟩,
    ⟨(some 32), .fldA 0 (.t 2), some (30, false)⟩,
    ⟨(some 33), .ld none (.t 32), some (30, false)⟩,
    ⟨(some 34), .len (.t 33), some (30, false)⟩,
    ⟨(some 35), .bin .geq (.t 31) (.t 34), some (30, false)⟩,
    ⟨(some 36), .pick (.t 30) (.c (.bool true)) (.t 35), none⟩])
  (.cond (.t 36)
   (.seq (.region false [⟨(some 37), .mov (.t 8), none⟩,
     ⟨(some 4), .mov (.t 37), none⟩,
     ⟨(some 5), .mov (.c (.int .i64 7)), none⟩])
   (.ret))
   (.skip)))))
  (.region false [⟨(some 38), .bin .add (.t 23) (.c (.int .i64 1)), none⟩,
    ⟨(some 23), .mov (.t 38), none⟩])))
def A_labels_Check : AFun := ⟨39,
  .seq (.region false [⟨(some 2), .box (.t 0), none⟩,
    ⟨(some 4), .mov (.c (.int .i64 0)), none⟩,
    ⟨(some 5), .mov (.c (.int .i64 0)), none⟩])
  (.seq (.seq (.region false [⟨(some 11), .ld (some 2) (.t 2), none⟩,
    ⟨(some 12), .call F_lattice_Check [(.t 11)], none⟩,
    ⟨(some 10), .mov (.t 12), none⟩,
    ⟨(some 13), .extr (.t 10) 0, none⟩,
    ⟨(some 14), .extr (.t 10) 1, none⟩,
    ⟨(some 6), .mov (.t 13), none⟩,
    ⟨(some 7), .mov (.t 14), none⟩])
  (.seq (.region false [⟨(some 15), .mov (.t 7), none⟩,
    ⟨(some 16), .bin .neq (.t 15) (.c (.int .i64 0)), none⟩])
  (.cond (.t 16)
   (.seq (.region false [⟨(some 17), .mov (.t 7), none⟩,
     ⟨(some 4), .mov (.c (.int .i64 (-1))), none⟩,
     ⟨(some 5), .mov (.t 17), none⟩])
   (.ret))
   (.skip))))
  (.seq (.seq (.region false [⟨(some 18), .mov (.t 1), none⟩,
    ⟨(some 19), .len (.t 18), none⟩,
    ⟨(some 20), .bin .gtr (.t 19) (.c (.int .i64 64)), none⟩])
  (.cond (.t 20)
   (.seq (.region false [⟨(some 4), .mov (.c (.int .i64 (-1))), none⟩,
     ⟨(some 5), .mov (.c (.int .i64 3)), none⟩])
   (.ret))
   (.skip)))
  (.seq (.seq (.region false [⟨(some 21), .mov (.t 1), none⟩,
    ⟨(some 22), .len (.t 21), none⟩,
    ⟨(some 23), .mov (.c (.int .i64 0)), none⟩])
  (.block 0 (.loop A_labels_CheckL0)))
  (.seq (.region false [⟨(some 4), .mov (.c (.int .i64 0)), none⟩,
    ⟨(some 5), .mov (.c (.int .i64 0)), none⟩])
  (.ret))))),
  [.tmp 4, .tmp 5]⟩

/- ref04_Check -/
def A_ref04_CheckL0 : ACode :=
  .seq (.seq (.region false [⟨(some 20), .mov (.t 8), none⟩,
    ⟨(some 21), .mov (.t 1), none⟩,
    ⟨(some 22), .len (.t 21), none⟩,
    ⟨(some 23), .bin .lss (.t 20) (.t 22), none⟩])
  (.cond (.t 23)
   (.skip)
   (.exit 0)))
  (.seq (.block 1 (.seq (.region true [⟨(some 26), .mov (.t 1), none⟩,
    ⟨(some 27), .mov (.t 8), none⟩,
    ⟨(some 28), .idxA 1 (.t 26) (.t 27), none⟩,
    ⟨(some 29), .ld none (.t 28), none⟩,
    ⟨(some 30), .bin .lss (.t 29) (.c (.int .i64 0)), none⟩,
    ⟨(some 31), .mov (.t 30), none⟩,
    ⟨(some 32), .mov (.t 1), some (31, false)⟩,
    ⟨(some 33), .mov (.t 8), some (31, false)⟩,
    ⟨(some 34), .idxA 1 (.t 32) (.t 33), some (31, false)⟩,
    ⟨(some 35), .ld none (.t 34), some (31, false)⟩,
    ⟨(some 36), .fldA 0 (.t 2), some (31, false)⟩,
    ⟨(some 37), .ld none (.t 36), some (31, false)⟩,
    ⟨(some 38), .len (.t 37), some (31, false)⟩,
    ⟨(some 39), .bin .geq (.t 35) (.t 38), some (31, false)⟩,
    ⟨(some 40), .pick (.t 31) (.c (.bool true)) (.t 39), none⟩])
  (.cond (.t 40)
   (.seq (.region false [⟨(some 41), .mov (.t 8), none⟩,
     ⟨(some 4), .mov (.t 41), none⟩,
     ⟨(some 5), .mov (.c (.int .i64 7)), none⟩])
   (.ret))
   (.skip))))
  (.region false [⟨(some 24), .mov (.t 8), none⟩,
    ⟨(some 25), .bin .add (.t 24) (.c (.int .i64 1)), none⟩,
    ⟨(some 8), .mov (.t 25), none⟩]))
def A_ref04_Check : AFun := ⟨42,
  .seq (.region false [⟨(some 2), .box (.t 0), none⟩,
    ⟨(some 4), .mov (.c (.int .i64 0)), none⟩,
    ⟨(some 5), .mov (.c (.int .i64 0)), none⟩])
  (.seq (.region false [⟨(some 10), .ld (some 2) (.t 2), none⟩,
    ⟨(some 11), .call F_ref03_Check [(.t 10)], none⟩,
    ⟨(some 9), .mov (.t 11), none⟩,
    ⟨(some 12), .extr (.t 9) 0, none⟩,
    ⟨(some 13), .extr (.t 9) 1, none⟩,
    ⟨(some 6), .mov (.t 12), none⟩,
    ⟨(some 7), .mov (.t 13), none⟩])
  (.seq (.seq (.region false [⟨(some 14), .mov (.t 7), none⟩,
    ⟨(some 15), .bin .neq (.t 14) (.c (.int .i64 0)), none⟩])
  (.cond (.t 15)
   (.seq (.region false [⟨(some 16), .mov (.t 7), none⟩,
     ⟨(some 4), .mov (.c (.int .i64 (-1))), none⟩,
     ⟨(some 5), .mov (.t 16), none⟩])
   (.ret))
   (.skip)))
  (.seq (.seq (.region false [⟨(some 17), .mov (.t 1), none⟩,
    ⟨(some 18), .len (.t 17), none⟩,
    ⟨(some 19), .bin .gtr (.t 18) (.c (.int .i64 64)), none⟩])
  (.cond (.t 19)
   (.seq (.region false [⟨(some 4), .mov (.c (.int .i64 (-1))), none⟩,
     ⟨(some 5), .mov (.c (.int .i64 3)), none⟩])
   (.ret))
   (.skip)))
  (.seq (.seq (.region false [⟨(some 8), .mov (.c (.int .i64 0)), none⟩])
  (.block 0 (.loop A_ref04_CheckL0)))
  (.seq (.region false [⟨(some 4), .mov (.c (.int .i64 0)), none⟩,
    ⟨(some 5), .mov (.c (.int .i64 0)), none⟩])
  (.ret)))))),
  [.tmp 4, .tmp 5]⟩

/- labels_Join -/
def A_labels_Join : AFun := ⟨31,
  .seq (.region false [⟨(some 2), .box (.t 0), none⟩,
    ⟨(some 4), .mov (.c (.int .i64 0)), none⟩,
    ⟨(some 5), .mov (.c (.int .i64 0)), none⟩])
  (.seq (.seq (.region false [⟨(some 12), .ld (some 2) (.t 2), none⟩,
    ⟨(some 13), .mov (.t 1), none⟩,
    ⟨(some 14), .call F_labels_Check [(.t 12), (.t 13)], none⟩,
    ⟨(some 11), .mov (.t 14), none⟩,
    ⟨(some 15), .extr (.t 11) 0, none⟩,
    ⟨(some 16), .extr (.t 11) 1, none⟩,
    ⟨(some 6), .mov (.t 15), none⟩,
    ⟨(some 7), .mov (.t 16), none⟩])
  (.seq (.region false [⟨(some 17), .mov (.t 7), none⟩,
    ⟨(some 18), .bin .neq (.t 17) (.c (.int .i64 0)), none⟩])
  (.cond (.t 18)
   (.seq (.region false [⟨(some 19), .mov (.t 7), none⟩,
     ⟨(some 4), .mov (.c (.int .i64 0)), none⟩,
     ⟨(some 5), .mov (.t 19), none⟩])
   (.ret))
   (.skip))))
  (.seq (.region false [⟨(some 21), .ld (some 2) (.t 2), none⟩,
    ⟨(some 22), .call F_lattice_Bottom [(.t 21)], none⟩,
    ⟨(some 20), .mov (.t 22), none⟩,
    ⟨(some 23), .extr (.t 20) 0, none⟩,
    ⟨(some 24), .extr (.t 20) 1, none⟩,
    ⟨(some 8), .mov (.t 23), none⟩,
    ⟨(some 9), .mov (.t 24), none⟩])
  (.seq (.region false [⟨(some 25), .ld (some 2) (.t 2), none⟩,
    ⟨(some 10), .alloc [.sl .ex [], .sl .ex []], none⟩,
    ⟨none, .st 2 (.t 10) (.t 25), none⟩])
  (.seq (.region false [⟨(some 26), .mov (.t 1), none⟩,
    ⟨(some 27), .mov (.t 8), none⟩,
    ⟨(some 28), .mkf F_labels_order_join [(.t 10)] [], none⟩,
    ⟨(some 29), .call F_labels_fold [(.t 26), (.t 27), (.t 28)], none⟩,
    ⟨(some 30), .mov (.t 9), none⟩,
    ⟨(some 4), .mov (.t 29), none⟩,
    ⟨(some 5), .mov (.t 30), none⟩])
  (.ret))))),
  [.tmp 4, .tmp 5]⟩

/- ref04_Join -/
def A_ref04_Join : AFun := ⟨20,
  .seq (.region false [⟨(some 2), .box (.t 0), none⟩,
    ⟨(some 4), .mov (.c (.int .i64 0)), none⟩,
    ⟨(some 5), .mov (.c (.int .i64 0)), none⟩])
  (.seq (.region false [⟨(some 9), .ld (some 2) (.t 2), none⟩,
    ⟨(some 10), .mov (.t 1), none⟩,
    ⟨(some 11), .call F_ref04_Check [(.t 9), (.t 10)], none⟩,
    ⟨(some 8), .mov (.t 11), none⟩,
    ⟨(some 12), .extr (.t 8) 0, none⟩,
    ⟨(some 13), .extr (.t 8) 1, none⟩,
    ⟨(some 6), .mov (.t 12), none⟩,
    ⟨(some 7), .mov (.t 13), none⟩])
  (.seq (.seq (.region false [⟨(some 14), .mov (.t 7), none⟩,
    ⟨(some 15), .bin .neq (.t 14) (.c (.int .i64 0)), none⟩])
  (.cond (.t 15)
   (.seq (.region false [⟨(some 16), .mov (.t 7), none⟩,
     ⟨(some 4), .mov (.c (.int .i64 0)), none⟩,
     ⟨(some 5), .mov (.t 16), none⟩])
   (.ret))
   (.skip)))
  (.seq (.region false [⟨(some 17), .ld (some 2) (.t 2), none⟩,
    ⟨(some 18), .mov (.t 1), none⟩,
    ⟨(some 19), .call F_ref04_JoinAll [(.t 17), (.t 18)], none⟩,
    ⟨(some 4), .mov (.t 19), none⟩,
    ⟨(some 5), .mov (.c (.int .i64 0)), none⟩])
  (.ret)))),
  [.tmp 4, .tmp 5]⟩

/- labels_Meet -/
def A_labels_Meet : AFun := ⟨31,
  .seq (.region false [⟨(some 2), .box (.t 0), none⟩,
    ⟨(some 4), .mov (.c (.int .i64 0)), none⟩,
    ⟨(some 5), .mov (.c (.int .i64 0)), none⟩])
  (.seq (.seq (.region false [⟨(some 12), .ld (some 2) (.t 2), none⟩,
    ⟨(some 13), .mov (.t 1), none⟩,
    ⟨(some 14), .call F_labels_Check [(.t 12), (.t 13)], none⟩,
    ⟨(some 11), .mov (.t 14), none⟩,
    ⟨(some 15), .extr (.t 11) 0, none⟩,
    ⟨(some 16), .extr (.t 11) 1, none⟩,
    ⟨(some 6), .mov (.t 15), none⟩,
    ⟨(some 7), .mov (.t 16), none⟩])
  (.seq (.region false [⟨(some 17), .mov (.t 7), none⟩,
    ⟨(some 18), .bin .neq (.t 17) (.c (.int .i64 0)), none⟩])
  (.cond (.t 18)
   (.seq (.region false [⟨(some 19), .mov (.t 7), none⟩,
     ⟨(some 4), .mov (.c (.int .i64 0)), none⟩,
     ⟨(some 5), .mov (.t 19), none⟩])
   (.ret))
   (.skip))))
  (.seq (.region false [⟨(some 21), .ld (some 2) (.t 2), none⟩,
    ⟨(some 22), .call F_lattice_Top [(.t 21)], none⟩,
    ⟨(some 20), .mov (.t 22), none⟩,
    ⟨(some 23), .extr (.t 20) 0, none⟩,
    ⟨(some 24), .extr (.t 20) 1, none⟩,
    ⟨(some 8), .mov (.t 23), none⟩,
    ⟨(some 9), .mov (.t 24), none⟩])
  (.seq (.region false [⟨(some 25), .ld (some 2) (.t 2), none⟩,
    ⟨(some 10), .alloc [.sl .ex [], .sl .ex []], none⟩,
    ⟨none, .st 2 (.t 10) (.t 25), none⟩])
  (.seq (.region false [⟨(some 26), .mov (.t 1), none⟩,
    ⟨(some 27), .mov (.t 8), none⟩,
    ⟨(some 28), .mkf F_labels_order_meet [(.t 10)] [], none⟩,
    ⟨(some 29), .call F_labels_fold [(.t 26), (.t 27), (.t 28)], none⟩,
    ⟨(some 30), .mov (.t 9), none⟩,
    ⟨(some 4), .mov (.t 29), none⟩,
    ⟨(some 5), .mov (.t 30), none⟩])
  (.ret))))),
  [.tmp 4, .tmp 5]⟩

section
variable {X : Cx} (hX : X.P = Go.Proofs.Tryz.prog)
include hX
theorem A_law04_LabelsChains_ok : compileFun X.P F_law04_LabelsChains (fun _ => false) = some A_law04_LabelsChains := by rw [hX]; kernel_rfl
theorem A_law04_LabelsSorts_ok : compileFun X.P F_law04_LabelsSorts (fun _ => false) = some A_law04_LabelsSorts := by rw [hX]; kernel_rfl
theorem A_law04_LabelsJoins_ok : compileFun X.P F_law04_LabelsJoins (fun _ => false) = some A_law04_LabelsJoins := by rw [hX]; kernel_rfl
theorem A_law04_LabelsFolds_ok : compileFun X.P F_law04_LabelsFolds (fun _ => false) = some A_law04_LabelsFolds := by rw [hX]; kernel_rfl
theorem A_law04_LabelsTexts_ok : compileFun X.P F_law04_LabelsTexts (fun _ => false) = some A_law04_LabelsTexts := by rw [hX]; kernel_rfl
theorem A_law04_LabelsKnown_ok : compileFun X.P F_law04_LabelsKnown (fun _ => false) = some A_law04_LabelsKnown := by rw [hX]; kernel_rfl
theorem A_law03_Far_ok : compileFun X.P F_law03_Far (fun _ => false) = some A_law03_Far := by rw [hX]; kernel_rfl
theorem A_law04_awake_ok : compileFun X.P F_law04_awake (fun _ => false) = some A_law04_awake := by rw [hX]; kernel_rfl
theorem A_labels_Chain_ok : compileFun X.P F_labels_Chain (fun _ => false) = some A_labels_Chain := by rw [hX]; kernel_rfl
theorem A_ref04_Chain_ok : compileFun X.P F_ref04_Chain (fun _ => false) = some A_ref04_Chain := by rw [hX]; kernel_rfl
theorem A_labels_Least_ok : compileFun X.P F_labels_Least (fun _ => false) = some A_labels_Least := by rw [hX]; kernel_rfl
theorem A_ref04_Least_ok : compileFun X.P F_ref04_Least (fun _ => false) = some A_ref04_Least := by rw [hX]; kernel_rfl
theorem A_ref04_Same_ok : compileFun X.P F_ref04_Same (fun _ => false) = some A_ref04_Same := by rw [hX]; kernel_rfl
theorem A_labels_Down_ok : compileFun X.P F_labels_Down (fun _ => false) = some A_labels_Down := by rw [hX]; kernel_rfl
theorem A_ref04_Down_ok : compileFun X.P F_ref04_Down (fun _ => false) = some A_ref04_Down := by rw [hX]; kernel_rfl
theorem A_labels_Up_ok : compileFun X.P F_labels_Up (fun _ => false) = some A_labels_Up := by rw [hX]; kernel_rfl
theorem A_ref04_Up_ok : compileFun X.P F_ref04_Up (fun _ => false) = some A_ref04_Up := by rw [hX]; kernel_rfl
theorem A_labels_Sort_ok : compileFun X.P F_labels_Sort (fun _ => false) = some A_labels_Sort := by rw [hX]; kernel_rfl
theorem A_ref04_Sort_ok : compileFun X.P F_ref04_Sort (fun _ => false) = some A_ref04_Sort := by rw [hX]; kernel_rfl
theorem A_labels_Check_ok : compileFun X.P F_labels_Check (fun _ => false) = some A_labels_Check := by rw [hX]; kernel_rfl
theorem A_ref04_Check_ok : compileFun X.P F_ref04_Check (fun _ => false) = some A_ref04_Check := by rw [hX]; kernel_rfl
theorem A_labels_Join_ok : compileFun X.P F_labels_Join (fun _ => false) = some A_labels_Join := by rw [hX]; kernel_rfl
theorem A_ref04_Join_ok : compileFun X.P F_ref04_Join (fun _ => false) = some A_ref04_Join := by rw [hX]; kernel_rfl
theorem A_labels_Meet_ok : compileFun X.P F_labels_Meet (fun _ => false) = some A_labels_Meet := by rw [hX]; kernel_rfl
end
end Go.Avm
