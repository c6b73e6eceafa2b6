/- The functions as they have been read. -/
import Derived.Test.YtngmmanggdpeaaaDoorZ8
import Derived.Test.YtngmmanggdpeaaaDoorProg
set_option linter.unusedSectionVars false
set_option linter.unusedSimpArgs false
set_option linter.unusedVariables false

/- The functions as they have been read. -/
namespace Go.Avm
open Go
def F_law03_LatticeAlgebra : Nat := 3
def F_law03_LatticeOrders : Nat := 4
def F_law03_LatticeBounds : Nat := 5
def F_law03_LatticeFinds : Nat := 6
def F_law03_LatticeChecks : Nat := 7
def F_law03_LatticeDuals : Nat := 8
def F_law03_LatticeKnown : Nat := 9
def F_law03_LatticeTexts : Nat := 10
def F_law03_Far : Nat := 11
def F_law03_awake : Nat := 12
def F_lattice_Check : Nat := 13
def F_lattice_Join : Nat := 14
def F_lattice_Meet : Nat := 15
def F_law03_below : Nat := 16
def F_lattice_Leq : Nat := 17
def F_ref03_Leq : Nat := 18
def F_ref03_Join : Nat := 19
def F_ref03_Meet : Nat := 20
def F_lattice_Bottom : Nat := 21
def F_ref03_Bottom : Nat := 22
def F_lattice_Top : Nat := 23
def F_ref03_Top : Nat := 24
def F_lattice_Find : Nat := 25
def F_ref03_Find : Nat := 26
def F_lattice_Covers : Nat := 27
def F_ref03_Covers : Nat := 28
def F_law03_pairs : Nat := 29
def F_lattice_Dual : Nat := 30
def F_ref03_Dual : Nat := 31
def F_ref03_Same : Nat := 32
def F_law03_long : Nat := 33
def F_ref03_Check : Nat := 34
def F_lattice_Make : Nat := 35
def F_ref03_Make : Nat := 36
def F_law03_Diamond : Nat := 37
def F_lattice_Print : Nat := 38
def F_ref03_Print : Nat := 39
def F_lattice_Parse : Nat := 40
def F_ref03_Parse : Nat := 41
def F_lattice_named : Nat := 42
def F_bits_Len8 : Nat := 43
def F_lattice_of : Nat := 44
def F_lattice_bound_lattice_ups : Nat := 45
def F_lattice_bound_lattice_downs : Nat := 46
def F_lattice_asked : Nat := 47
def F_ref03_asked : Nat := 48
def F_ref03_Below : Nat := 49
def F_ref03_join : Nat := 50
def F_ref03_meet : Nat := 51
def F_lattice_end_lattice_ups : Nat := 52
def F_ref03_downs : Nat := 53
def F_ref03_nearest : Nat := 54
def F_lattice_end_lattice_downs : Nat := 55
def F_slices_Index_string_string : Nat := 56
def F_slices_Clone_string_string : Nat := 57
def F_ref03_names : Nat := 58
def F_ref03_ordered : Nat := 59
def F_lattice_row : Nat := 60
def F_ref03_row : Nat := 61
def F_strings_Builder_WriteString : Nat := 62
def F_strings_Builder_WriteByte : Nat := 63
def F_strings_Builder_String : Nat := 64
def F_strings_Count : Nat := 65
def F_strings_HasSuffix : Nat := 66
def F_strings_Split : Nat := 67
def F_strings_Cut : Nat := 68
def F_words_Name : Nat := 69
def F_ref01_Name : Nat := 70
def F_slices_Contains_string_string : Nat := 71
def F_bits_OnesCount8 : Nat := 72
def F_strings_Builder_copyCheck : Nat := 73
def F_utf8_RuneCountInString : Nat := 74
def F_strings_Index : Nat := 76
def F_stringslite_HasSuffix : Nat := 77
def F_strings_genSplit : Nat := 78
def F_stringslite_Cut : Nat := 79
def F_strings_Trim : Nat := 80
def F_ref01_lower : Nat := 81
def F_ref01_digit : Nat := 82
def F_stringslite_Index : Nat := 84
def F_strings_explode : Nat := 85
def F_strings_trimLeftByte : Nat := 86
def F_strings_trimRightByte : Nat := 87
def F_strings_makeASCIISet : Nat := 88
def F_strings_trimLeftASCII : Nat := 89
def F_strings_trimRightASCII : Nat := 90
def F_strings_trimLeftUnicode : Nat := 91
def F_strings_trimRightUnicode : Nat := 92
def F_stringslite_IndexByte : Nat := 93
def F_bytealg_Cutover : Nat := 95
def F_bytealg_IndexRabinKarp_string : Nat := 96
def F_utf8_DecodeRuneInString : Nat := 97
def F_strings_asciiSet_contains : Nat := 98
def F_strings_ContainsRune : Nat := 99
def F_utf8_DecodeLastRuneInString : Nat := 100
def F_bytealg_hashStr_string : Nat := 102
def F_utf8_decodeRuneInStringSlow : Nat := 103
def F_strings_IndexRune : Nat := 104
def F_utf8_RuneStart : Nat := 105
def F_strings_IndexByte : Nat := 106
def F_utf8_ValidRune : Nat := 107
/- law03_LatticeAlgebra -/
def A_law03_LatticeAlgebraL1 : ACode :=
  .seq (.seq (.region false [⟨(some 40), .mov (.t 9), none⟩,
    ⟨(some 41), .mov (.t 3), none⟩,
    ⟨(some 42), .bin .lss (.t 40) (.t 41), none⟩])
  (.cond (.t 42)
   (.skip)
   (.exit 2)))
  (.seq (.block 3 (.seq (.region false [⟨(some 46), .ld (some 2) (.t 1), none⟩,
    ⟨(some 47), .mov (.t 8), none⟩,
    ⟨(some 48), .mov (.t 9), none⟩,
    ⟨(some 49), .call F_lattice_Join [(.t 46), (.t 47), (.t 48)], none⟩,
    ⟨(some 45), .mov (.t 49), none⟩,
    ⟨(some 50), .extr (.t 45) 0, none⟩,
    ⟨(some 51), .extr (.t 45) 1, none⟩,
    ⟨(some 10), .mov (.t 50), none⟩,
    ⟨(some 11), .mov (.t 51), none⟩])
  (.seq (.region false [⟨(some 53), .ld (some 2) (.t 1), none⟩,
    ⟨(some 54), .mov (.t 8), none⟩,
    ⟨(some 55), .mov (.t 9), none⟩,
    ⟨(some 56), .call F_lattice_Meet [(.t 53), (.t 54), (.t 55)], none⟩,
    ⟨(some 52), .mov (.t 56), none⟩,
    ⟨(some 57), .extr (.t 52) 0, none⟩,
    ⟨(some 58), .extr (.t 52) 1, none⟩,
    ⟨(some 12), .mov (.t 57), none⟩,
    ⟨(some 13), .mov (.t 58), none⟩])
  (.seq (.seq (.region false [⟨(some 59), .mov (.t 11), none⟩,
    ⟨(some 60), .bin .neq (.t 59) (.c (.int .i64 0)), none⟩,
    ⟨(some 61), .mov (.t 60), none⟩,
    ⟨(some 62), .mov (.t 13), some (61, false)⟩,
    ⟨(some 63), .bin .neq (.t 62) (.c (.int .i64 0)), some (61, false)⟩,
    ⟨(some 64), .pick (.t 61) (.c (.bool true)) (.t 63), none⟩,
    ⟨(some 65), .mov (.t 64), none⟩,
    ⟨(some 66), .mov (.t 10), some (65, false)⟩,
    ⟨(some 67), .bin .lss (.t 66) (.c (.int .i64 0)), some (65, false)⟩,
    ⟨(some 68), .pick (.t 65) (.c (.bool true)) (.t 67), none⟩,
    ⟨(some 69), .mov (.t 68), none⟩,
    ⟨(some 70), .mov (.t 10), some (69, false)⟩,
    ⟨(some 71), .mov (.t 3), some (69, false)⟩,
    ⟨(some 72), .bin .geq (.t 70) (.t 71), some (69, false)⟩,
    ⟨(some 73), .pick (.t 69) (.c (.bool true)) (.t 72), none⟩,
    ⟨(some 74), .mov (.t 73), none⟩,
    ⟨(some 75), .mov (.t 12), some (74, false)⟩,
    ⟨(some 76), .bin .lss (.t 75) (.c (.int .i64 0)), some (74, false)⟩,
    ⟨(some 77), .pick (.t 74) (.c (.bool true)) (.t 76), none⟩,
    ⟨(some 78), .mov (.t 77), none⟩,
    ⟨(some 79), .mov (.t 12), some (78, false)⟩,
    ⟨(some 80), .mov (.t 3), some (78, false)⟩,
    ⟨(some 81), .bin .geq (.t 79) (.t 80), some (78, false)⟩,
    ⟨(some 82), .pick (.t 78) (.c (.bool true)) (.t 81), none⟩])
  (.cond (.t 82)
   (.seq (.region false [⟨(some 2), .mov (.c (.bool false)), none⟩])
   (.ret))
   (.skip)))
  (.region true [⟨(some 83), .mov (.t 8), none⟩,
    ⟨(some 84), .mov (.t 9), none⟩,
    ⟨(some 85), .mov (.t 8), none⟩,
    ⟨(some 86), .mov (.t 9), none⟩,
    ⟨(some 87), .mov (.t 10), none⟩,
    ⟨(some 88), .mov (.t 12), none⟩,
    ⟨(some 89), .idxP 8 8 (.t 6) (.t 83), none⟩,
    ⟨(some 90), .idxP 8 1 (.t 89) (.t 84), none⟩,
    ⟨none, .st 1 (.t 90) (.t 87), none⟩,
    ⟨(some 91), .idxP 8 8 (.t 7) (.t 85), none⟩,
    ⟨(some 92), .idxP 8 1 (.t 91) (.t 86), none⟩,
    ⟨none, .st 1 (.t 92) (.t 88), none⟩])))))
  (.region false [⟨(some 43), .mov (.t 9), none⟩,
    ⟨(some 44), .bin .add (.t 43) (.c (.int .i64 1)), none⟩,
    ⟨(some 9), .mov (.t 44), none⟩]))
def A_law03_LatticeAlgebraL0 : ACode :=
  .seq (.seq (.region false [⟨(some 35), .mov (.t 8), none⟩,
    ⟨(some 36), .mov (.t 3), none⟩,
    ⟨(some 37), .bin .lss (.t 35) (.t 36), none⟩])
  (.cond (.t 37)
   (.skip)
   (.exit 0)))
  (.seq (.block 1 (.seq (.region false [⟨(some 9), .mov (.c (.int .i64 0)), none⟩])
  (.block 2 (.loop A_law03_LatticeAlgebraL1))))
  (.region false [⟨(some 38), .mov (.t 8), none⟩,
    ⟨(some 39), .bin .add (.t 38) (.c (.int .i64 1)), none⟩,
    ⟨(some 8), .mov (.t 39), none⟩]))
def A_law03_LatticeAlgebraL4 : ACode :=
  .seq (.seq (.region false [⟨(some 183), .mov (.t 16), none⟩,
    ⟨(some 184), .mov (.t 3), none⟩,
    ⟨(some 185), .bin .lss (.t 183) (.t 184), none⟩])
  (.cond (.t 185)
   (.skip)
   (.exit 8)))
  (.seq (.block 9 (.seq (.region true [⟨(some 188), .mov (.t 14), none⟩,
    ⟨(some 189), .mov (.t 15), none⟩,
    ⟨(some 190), .idxP 8 8 (.t 6) (.t 188), none⟩,
    ⟨(some 191), .idxP 8 1 (.t 190) (.t 189), none⟩,
    ⟨(some 192), .ld none (.t 191), none⟩,
    ⟨(some 193), .mov (.t 16), none⟩,
    ⟨(some 194), .idxP 8 8 (.t 6) (.t 192), none⟩,
    ⟨(some 195), .idxP 8 1 (.t 194) (.t 193), none⟩,
    ⟨(some 196), .ld none (.t 195), none⟩,
    ⟨(some 197), .mov (.t 14), none⟩,
    ⟨(some 198), .mov (.t 15), none⟩,
    ⟨(some 199), .mov (.t 16), none⟩,
    ⟨(some 200), .idxP 8 8 (.t 6) (.t 198), none⟩,
    ⟨(some 201), .idxP 8 1 (.t 200) (.t 199), none⟩,
    ⟨(some 202), .ld none (.t 201), none⟩,
    ⟨(some 203), .idxP 8 8 (.t 6) (.t 197), none⟩,
    ⟨(some 204), .idxP 8 1 (.t 203) (.t 202), none⟩,
    ⟨(some 205), .ld none (.t 204), none⟩,
    ⟨(some 206), .bin .neq (.t 196) (.t 205), none⟩,
    ⟨(some 207), .mov (.t 206), none⟩,
    ⟨(some 208), .mov (.t 14), some (207, false)⟩,
    ⟨(some 209), .mov (.t 15), some (207, false)⟩,
    ⟨(some 210), .idxP 8 8 (.t 7) (.t 208), some (207, false)⟩,
    ⟨(some 211), .idxP 8 1 (.t 210) (.t 209), some (207, false)⟩,
    ⟨(some 212), .ld none (.t 211), some (207, false)⟩,
    ⟨(some 213), .mov (.t 16), some (207, false)⟩,
    ⟨(some 214), .idxP 8 8 (.t 7) (.t 212), some (207, false)⟩,
    ⟨(some 215), .idxP 8 1 (.t 214) (.t 213), some (207, false)⟩,
    ⟨(some 216), .ld none (.t 215), some (207, false)⟩,
    ⟨(some 217), .mov (.t 14), some (207, false)⟩,
    ⟨(some 218), .mov (.t 15), some (207, false)⟩,
    ⟨(some 219), .mov (.t 16), some (207, false)⟩,
    ⟨(some 220), .idxP 8 8 (.t 7) (.t 218), some (207, false)⟩,
    ⟨(some 221), .idxP 8 1 (.t 220) (.t 219), some (207, false)⟩,
    ⟨(some 222), .ld none (.t 221), some (207, false)⟩,
    ⟨(some 223), .idxP 8 8 (.t 7) (.t 217), some (207, false)⟩,
    ⟨(some 224), .idxP 8 1 (.t 223) (.t 222), some (207, false)⟩,
    ⟨(some 225), .ld none (.t 224), some (207, false)⟩,
    ⟨(some 226), .bin .neq (.t 216) (.t 225), some (207, false)⟩,
    ⟨(some 227), .pick (.t 207) (.c (.bool true)) (.t 226), none⟩])
  (.cond (.t 227)
   (.seq (.region false [⟨(some 2), .mov (.c (.bool false)), none⟩])
   (.ret))
   (.skip))))
  (.region false [⟨(some 186), .mov (.t 16), none⟩,
    ⟨(some 187), .bin .add (.t 186) (.c (.int .i64 1)), none⟩,
    ⟨(some 16), .mov (.t 187), none⟩]))
def A_law03_LatticeAlgebraL3 : ACode :=
  .seq (.seq (.region false [⟨(some 114), .mov (.t 15), none⟩,
    ⟨(some 115), .mov (.t 3), none⟩,
    ⟨(some 116), .bin .lss (.t 114) (.t 115), none⟩])
  (.cond (.t 116)
   (.skip)
   (.exit 6)))
  (.seq (.block 7 (.seq (.seq (.region true [⟨(some 119), .mov (.t 14), none⟩,
    ⟨(some 120), .mov (.t 15), none⟩,
    ⟨(some 121), .idxP 8 8 (.t 6) (.t 119), none⟩,
    ⟨(some 122), .idxP 8 1 (.t 121) (.t 120), none⟩,
    ⟨(some 123), .ld none (.t 122), none⟩,
    ⟨(some 124), .mov (.t 15), none⟩,
    ⟨(some 125), .mov (.t 14), none⟩,
    ⟨(some 126), .idxP 8 8 (.t 6) (.t 124), none⟩,
    ⟨(some 127), .idxP 8 1 (.t 126) (.t 125), none⟩,
    ⟨(some 128), .ld none (.t 127), none⟩,
    ⟨(some 129), .bin .neq (.t 123) (.t 128), none⟩,
    ⟨(some 130), .mov (.t 129), none⟩,
    ⟨(some 131), .mov (.t 14), some (130, false)⟩,
    ⟨(some 132), .mov (.t 15), some (130, false)⟩,
    ⟨(some 133), .idxP 8 8 (.t 7) (.t 131), some (130, false)⟩,
    ⟨(some 134), .idxP 8 1 (.t 133) (.t 132), some (130, false)⟩,
    ⟨(some 135), .ld none (.t 134), some (130, false)⟩,
    ⟨(some 136), .mov (.t 15), some (130, false)⟩,
    ⟨(some 137), .mov (.t 14), some (130, false)⟩,
    ⟨(some 138), .idxP 8 8 (.t 7) (.t 136), some (130, false)⟩,
    ⟨(some 139), .idxP 8 1 (.t 138) (.t 137), some (130, false)⟩,
    ⟨(some 140), .ld none (.t 139), some (130, false)⟩,
    ⟨(some 141), .bin .neq (.t 135) (.t 140), some (130, false)⟩,
    ⟨(some 142), .pick (.t 130) (.c (.bool true)) (.t 141), none⟩,
    ⟨(some 143), .mov (.t 142), none⟩,
    ⟨(some 144), .mov (.t 14), some (143, false)⟩,
    ⟨(some 145), .mov (.t 14), some (143, false)⟩,
    ⟨(some 146), .mov (.t 15), some (143, false)⟩,
    ⟨(some 147), .idxP 8 8 (.t 7) (.t 145), some (143, false)⟩,
    ⟨(some 148), .idxP 8 1 (.t 147) (.t 146), some (143, false)⟩,
    ⟨(some 149), .ld none (.t 148), some (143, false)⟩,
    ⟨(some 150), .idxP 8 8 (.t 6) (.t 144), some (143, false)⟩,
    ⟨(some 151), .idxP 8 1 (.t 150) (.t 149), some (143, false)⟩,
    ⟨(some 152), .ld none (.t 151), some (143, false)⟩,
    ⟨(some 153), .mov (.t 14), some (143, false)⟩,
    ⟨(some 154), .bin .neq (.t 152) (.t 153), some (143, false)⟩,
    ⟨(some 155), .pick (.t 143) (.c (.bool true)) (.t 154), none⟩,
    ⟨(some 156), .mov (.t 155), none⟩,
    ⟨(some 157), .mov (.t 14), some (156, false)⟩,
    ⟨(some 158), .mov (.t 14), some (156, false)⟩,
    ⟨(some 159), .mov (.t 15), some (156, false)⟩,
    ⟨(some 160), .idxP 8 8 (.t 6) (.t 158), some (156, false)⟩,
    ⟨(some 161), .idxP 8 1 (.t 160) (.t 159), some (156, false)⟩,
    ⟨(some 162), .ld none (.t 161), some (156, false)⟩,
    ⟨(some 163), .idxP 8 8 (.t 7) (.t 157), some (156, false)⟩,
    ⟨(some 164), .idxP 8 1 (.t 163) (.t 162), some (156, false)⟩,
    ⟨(some 165), .ld none (.t 164), some (156, false)⟩,
    ⟨(some 166), .mov (.t 14), some (156, false)⟩,
    ⟨(some 167), .bin .neq (.t 165) (.t 166), some (156, false)⟩,
    ⟨(some 168), .pick (.t 156) (.c (.bool true)) (.t 167), none⟩,
    ⟨(some 169), .mov (.t 168), none⟩,
    ⟨(some 170), .ld (some 2) (.t 1), some (169, false)⟩,
    ⟨(some 171), .mov (.t 14), some (169, false)⟩,
    ⟨(some 172), .mov (.t 15), some (169, false)⟩,
    ⟨(some 173), .call F_law03_below [(.t 170), (.t 171), (.t 172)], some (169, false)⟩,
    ⟨(some 174), .mov (.t 14), some (169, false)⟩,
    ⟨(some 175), .mov (.t 15), some (169, false)⟩,
    ⟨(some 176), .idxP 8 8 (.t 6) (.t 174), some (169, false)⟩,
    ⟨(some 177), .idxP 8 1 (.t 176) (.t 175), some (169, false)⟩,
    ⟨(some 178), .ld none (.t 177), some (169, false)⟩,
    ⟨(some 179), .mov (.t 15), some (169, false)⟩,
    ⟨(some 180), .bin .eql (.t 178) (.t 179), some (169, false)⟩,
    ⟨(some 181), .beq true (.t 173) (.t 180), some (169, false)⟩,
    ⟨(some 182), .pick (.t 169) (.c (.bool true)) (.t 181), none⟩])
  (.cond (.t 182)
   (.seq (.region false [⟨(some 2), .mov (.c (.bool false)), none⟩])
   (.ret))
   (.skip)))
  (.seq (.region false [⟨(some 16), .mov (.c (.int .i64 0)), none⟩])
  (.block 8 (.loop A_law03_LatticeAlgebraL4)))))
  (.region false [⟨(some 117), .mov (.t 15), none⟩,
    ⟨(some 118), .bin .add (.t 117) (.c (.int .i64 1)), none⟩,
    ⟨(some 15), .mov (.t 118), none⟩]))
def A_law03_LatticeAlgebraL2 : ACode :=
  .seq (.seq (.region false [⟨(some 93), .mov (.t 14), none⟩,
    ⟨(some 94), .mov (.t 3), none⟩,
    ⟨(some 95), .bin .lss (.t 93) (.t 94), none⟩])
  (.cond (.t 95)
   (.skip)
   (.exit 4)))
  (.seq (.block 5 (.seq (.seq (.region false [⟨(some 98), .mov (.t 14), none⟩,
    ⟨(some 99), .mov (.t 14), none⟩,
    ⟨(some 100), .idxP 8 8 (.t 6) (.t 98), none⟩,
    ⟨(some 101), .idxP 8 1 (.t 100) (.t 99), none⟩,
    ⟨(some 102), .ld none (.t 101), none⟩,
    ⟨(some 103), .mov (.t 14), none⟩,
    ⟨(some 104), .bin .neq (.t 102) (.t 103), none⟩,
    ⟨(some 105), .mov (.t 104), none⟩,
    ⟨(some 106), .mov (.t 14), some (105, false)⟩,
    ⟨(some 107), .mov (.t 14), some (105, false)⟩,
    ⟨(some 108), .idxP 8 8 (.t 7) (.t 106), some (105, false)⟩,
    ⟨(some 109), .idxP 8 1 (.t 108) (.t 107), some (105, false)⟩,
    ⟨(some 110), .ld none (.t 109), some (105, false)⟩,
    ⟨(some 111), .mov (.t 14), some (105, false)⟩,
    ⟨(some 112), .bin .neq (.t 110) (.t 111), some (105, false)⟩,
    ⟨(some 113), .pick (.t 105) (.c (.bool true)) (.t 112), none⟩])
  (.cond (.t 113)
   (.seq (.region false [⟨(some 2), .mov (.c (.bool false)), none⟩])
   (.ret))
   (.skip)))
  (.seq (.region false [⟨(some 15), .mov (.c (.int .i64 0)), none⟩])
  (.block 6 (.loop A_law03_LatticeAlgebraL3)))))
  (.region false [⟨(some 96), .mov (.t 14), none⟩,
    ⟨(some 97), .bin .add (.t 96) (.c (.int .i64 1)), none⟩,
    ⟨(some 14), .mov (.t 97), none⟩]))
def A_law03_LatticeAlgebra : AFun := ⟨229,
  .seq (.region false [⟨(some 1), .box (.t 0), none⟩,
    ⟨(some 2), .mov (.c (.bool false)), none⟩])
  (.seq (.seq (.region false [⟨(some 17), .ld (some 2) (.t 1), none⟩,
    ⟨(some 18), .call F_law03_Far [(.t 17)], none⟩])
  (.cond (.t 18)
   (.seq (.region false [⟨(some 19), .call F_law03_awake [], none⟩,
     ⟨(some 2), .mov (.t 19), none⟩])
   (.ret))
   (.skip)))
  (.seq (.region false [⟨(some 20), .fldA 0 (.t 1), none⟩,
    ⟨(some 21), .ld none (.t 20), none⟩,
    ⟨(some 22), .len (.t 21), none⟩,
    ⟨(some 3), .mov (.t 22), none⟩])
  (.seq (.seq (.region false [⟨(some 24), .ld (some 2) (.t 1), none⟩,
    ⟨(some 25), .call F_lattice_Check [(.t 24)], none⟩,
    ⟨(some 23), .mov (.t 25), none⟩,
    ⟨(some 26), .extr (.t 23) 0, none⟩,
    ⟨(some 27), .extr (.t 23) 1, none⟩,
    ⟨(some 4), .mov (.t 26), none⟩,
    ⟨(some 5), .mov (.t 27), none⟩])
  (.seq (.region false [⟨(some 28), .mov (.t 5), none⟩,
    ⟨(some 29), .bin .neq (.t 28) (.c (.int .i64 0)), none⟩,
    ⟨(some 30), .mov (.t 29), none⟩,
    ⟨(some 31), .mov (.t 3), some (30, false)⟩,
    ⟨(some 32), .bin .gtr (.t 31) (.c (.int .i64 8)), some (30, false)⟩,
    ⟨(some 33), .pick (.t 30) (.c (.bool true)) (.t 32), none⟩])
  (.cond (.t 33)
   (.seq (.region false [⟨(some 34), .call F_law03_awake [], none⟩,
     ⟨(some 2), .mov (.t 34), none⟩])
   (.ret))
   (.skip))))
  (.seq (.region false [⟨(some 6), .alloc (List.replicate 64 (.int .i64 0)), none⟩,
    ⟨(some 7), .alloc (List.replicate 64 (.int .i64 0)), none⟩])
  (.seq (.seq (.region false [⟨(some 8), .mov (.c (.int .i64 0)), none⟩])
  (.block 0 (.loop A_law03_LatticeAlgebraL0)))
  (.seq (.seq (.region false [⟨(some 14), .mov (.c (.int .i64 0)), none⟩])
  (.block 4 (.loop A_law03_LatticeAlgebraL2)))
  (.seq (.region false [⟨(some 228), .call F_law03_awake [], none⟩,
    ⟨(some 2), .mov (.t 228), none⟩])
  (.ret)))))))),
  [.tmp 2]⟩

/- law03_LatticeOrders -/
def A_law03_LatticeOrders : AFun := ⟨121,
  .seq (.region false [⟨(some 3), .box (.t 0), none⟩,
    ⟨(some 6), .mov (.c (.bool false)), none⟩])
  (.seq (.seq (.region false [⟨(some 13), .ld (some 2) (.t 3), none⟩,
    ⟨(some 14), .call F_law03_Far [(.t 13)], none⟩])
  (.cond (.t 14)
   (.seq (.region false [⟨(some 15), .call F_law03_awake [], none⟩,
     ⟨(some 6), .mov (.t 15), none⟩])
   (.ret))
   (.skip)))
  (.seq (.region false [⟨(some 17), .ld (some 2) (.t 3), none⟩,
    ⟨(some 18), .mov (.t 1), none⟩,
    ⟨(some 19), .mov (.t 2), none⟩,
    ⟨(some 20), .call F_lattice_Leq [(.t 17), (.t 18), (.t 19)], none⟩,
    ⟨(some 16), .mov (.t 20), none⟩,
    ⟨(some 21), .extr (.t 16) 0, none⟩,
    ⟨(some 22), .extr (.t 16) 1, none⟩,
    ⟨(some 7), .mov (.t 21), none⟩,
    ⟨(some 8), .mov (.t 22), none⟩])
  (.seq (.region false [⟨(some 24), .ld (some 2) (.t 3), none⟩,
    ⟨(some 25), .mov (.t 1), none⟩,
    ⟨(some 26), .mov (.t 2), none⟩,
    ⟨(some 27), .call F_ref03_Leq [(.t 24), (.t 25), (.t 26)], none⟩,
    ⟨(some 23), .mov (.t 27), none⟩,
    ⟨(some 28), .extr (.t 23) 0, none⟩,
    ⟨(some 29), .extr (.t 23) 1, none⟩,
    ⟨(some 9), .mov (.t 28), none⟩,
    ⟨(some 10), .mov (.t 29), none⟩])
  (.seq (.seq (.region false [⟨(some 30), .mov (.t 7), none⟩,
    ⟨(some 31), .mov (.t 9), none⟩,
    ⟨(some 32), .beq true (.t 30) (.t 31), none⟩,
    ⟨(some 33), .mov (.t 32), none⟩,
    ⟨(some 34), .mov (.t 8), some (33, false)⟩,
    ⟨(some 35), .mov (.t 10), some (33, false)⟩,
    ⟨(some 36), .bin .neq (.t 34) (.t 35), some (33, false)⟩,
    ⟨(some 37), .pick (.t 33) (.c (.bool true)) (.t 36), none⟩])
  (.cond (.t 37)
   (.seq (.region false [⟨(some 6), .mov (.c (.bool false)), none⟩])
   (.ret))
   (.skip)))
  (.seq (.region false [⟨(some 39), .ld (some 2) (.t 3), none⟩,
    ⟨(some 40), .mov (.t 1), none⟩,
    ⟨(some 41), .mov (.t 2), none⟩,
    ⟨(some 42), .call F_lattice_Join [(.t 39), (.t 40), (.t 41)], none⟩,
    ⟨(some 38), .mov (.t 42), none⟩,
    ⟨(some 43), .extr (.t 38) 0, none⟩,
    ⟨(some 44), .extr (.t 38) 1, none⟩,
    ⟨(some 11), .mov (.t 43), none⟩,
    ⟨(some 8), .mov (.t 44), none⟩])
  (.seq (.region false [⟨(some 46), .ld (some 2) (.t 3), none⟩,
    ⟨(some 47), .mov (.t 1), none⟩,
    ⟨(some 48), .mov (.t 2), none⟩,
    ⟨(some 49), .call F_ref03_Join [(.t 46), (.t 47), (.t 48)], none⟩,
    ⟨(some 45), .mov (.t 49), none⟩,
    ⟨(some 50), .extr (.t 45) 0, none⟩,
    ⟨(some 51), .extr (.t 45) 1, none⟩,
    ⟨(some 12), .mov (.t 50), none⟩,
    ⟨(some 10), .mov (.t 51), none⟩])
  (.seq (.seq (.region false [⟨(some 52), .mov (.t 11), none⟩,
    ⟨(some 53), .mov (.t 12), none⟩,
    ⟨(some 54), .bin .neq (.t 52) (.t 53), none⟩,
    ⟨(some 55), .mov (.t 54), none⟩,
    ⟨(some 56), .mov (.t 8), some (55, false)⟩,
    ⟨(some 57), .mov (.t 10), some (55, false)⟩,
    ⟨(some 58), .bin .neq (.t 56) (.t 57), some (55, false)⟩,
    ⟨(some 59), .pick (.t 55) (.c (.bool true)) (.t 58), none⟩])
  (.cond (.t 59)
   (.seq (.region false [⟨(some 6), .mov (.c (.bool false)), none⟩])
   (.ret))
   (.skip)))
  (.seq (.region false [⟨(some 61), .ld (some 2) (.t 3), none⟩,
    ⟨(some 62), .mov (.t 1), none⟩,
    ⟨(some 63), .mov (.t 2), none⟩,
    ⟨(some 64), .call F_lattice_Meet [(.t 61), (.t 62), (.t 63)], none⟩,
    ⟨(some 60), .mov (.t 64), none⟩,
    ⟨(some 65), .extr (.t 60) 0, none⟩,
    ⟨(some 66), .extr (.t 60) 1, none⟩,
    ⟨(some 11), .mov (.t 65), none⟩,
    ⟨(some 8), .mov (.t 66), none⟩])
  (.seq (.region false [⟨(some 68), .ld (some 2) (.t 3), none⟩,
    ⟨(some 69), .mov (.t 1), none⟩,
    ⟨(some 70), .mov (.t 2), none⟩,
    ⟨(some 71), .call F_ref03_Meet [(.t 68), (.t 69), (.t 70)], none⟩,
    ⟨(some 67), .mov (.t 71), none⟩,
    ⟨(some 72), .extr (.t 67) 0, none⟩,
    ⟨(some 73), .extr (.t 67) 1, none⟩,
    ⟨(some 12), .mov (.t 72), none⟩,
    ⟨(some 10), .mov (.t 73), none⟩])
  (.seq (.seq (.region false [⟨(some 74), .mov (.t 11), none⟩,
    ⟨(some 75), .mov (.t 12), none⟩,
    ⟨(some 76), .bin .neq (.t 74) (.t 75), none⟩,
    ⟨(some 77), .mov (.t 76), none⟩,
    ⟨(some 78), .mov (.t 8), some (77, false)⟩,
    ⟨(some 79), .mov (.t 10), some (77, false)⟩,
    ⟨(some 80), .bin .neq (.t 78) (.t 79), some (77, false)⟩,
    ⟨(some 81), .pick (.t 77) (.c (.bool true)) (.t 80), none⟩])
  (.cond (.t 81)
   (.seq (.region false [⟨(some 6), .mov (.c (.bool false)), none⟩])
   (.ret))
   (.skip)))
  (.seq (.region false [⟨(some 83), .ld (some 2) (.t 3), none⟩,
    ⟨(some 84), .call F_lattice_Bottom [(.t 83)], none⟩,
    ⟨(some 82), .mov (.t 84), none⟩,
    ⟨(some 85), .extr (.t 82) 0, none⟩,
    ⟨(some 86), .extr (.t 82) 1, none⟩,
    ⟨(some 11), .mov (.t 85), none⟩,
    ⟨(some 8), .mov (.t 86), none⟩])
  (.seq (.region false [⟨(some 88), .ld (some 2) (.t 3), none⟩,
    ⟨(some 89), .call F_ref03_Bottom [(.t 88)], none⟩,
    ⟨(some 87), .mov (.t 89), none⟩,
    ⟨(some 90), .extr (.t 87) 0, none⟩,
    ⟨(some 91), .extr (.t 87) 1, none⟩,
    ⟨(some 12), .mov (.t 90), none⟩,
    ⟨(some 10), .mov (.t 91), none⟩])
  (.seq (.seq (.region false [⟨(some 92), .mov (.t 11), none⟩,
    ⟨(some 93), .mov (.t 12), none⟩,
    ⟨(some 94), .bin .neq (.t 92) (.t 93), none⟩,
    ⟨(some 95), .mov (.t 94), none⟩,
    ⟨(some 96), .mov (.t 8), some (95, false)⟩,
    ⟨(some 97), .mov (.t 10), some (95, false)⟩,
    ⟨(some 98), .bin .neq (.t 96) (.t 97), some (95, false)⟩,
    ⟨(some 99), .pick (.t 95) (.c (.bool true)) (.t 98), none⟩])
  (.cond (.t 99)
   (.seq (.region false [⟨(some 6), .mov (.c (.bool false)), none⟩])
   (.ret))
   (.skip)))
  (.seq (.region false [⟨(some 101), .ld (some 2) (.t 3), none⟩,
    ⟨(some 102), .call F_lattice_Top [(.t 101)], none⟩,
    ⟨(some 100), .mov (.t 102), none⟩,
    ⟨(some 103), .extr (.t 100) 0, none⟩,
    ⟨(some 104), .extr (.t 100) 1, none⟩,
    ⟨(some 11), .mov (.t 103), none⟩,
    ⟨(some 8), .mov (.t 104), none⟩])
  (.seq (.region false [⟨(some 106), .ld (some 2) (.t 3), none⟩,
    ⟨(some 107), .call F_ref03_Top [(.t 106)], none⟩,
    ⟨(some 105), .mov (.t 107), none⟩,
    ⟨(some 108), .extr (.t 105) 0, none⟩,
    ⟨(some 109), .extr (.t 105) 1, none⟩,
    ⟨(some 12), .mov (.t 108), none⟩,
    ⟨(some 10), .mov (.t 109), none⟩])
  (.seq (.region false [⟨(some 110), .mov (.t 11), none⟩,
    ⟨(some 111), .mov (.t 12), none⟩,
    ⟨(some 112), .bin .eql (.t 110) (.t 111), none⟩,
    ⟨(some 113), .mov (.t 112), none⟩,
    ⟨(some 114), .mov (.t 8), some (113, true)⟩,
    ⟨(some 115), .mov (.t 10), some (113, true)⟩,
    ⟨(some 116), .bin .eql (.t 114) (.t 115), some (113, true)⟩,
    ⟨(some 117), .pick (.t 113) (.t 116) (.c (.bool false)), none⟩,
    ⟨(some 118), .mov (.t 117), none⟩,
    ⟨(some 119), .call F_law03_awake [], some (118, true)⟩,
    ⟨(some 120), .pick (.t 118) (.t 119) (.c (.bool false)), none⟩,
    ⟨(some 6), .mov (.t 120), none⟩])
  (.ret))))))))))))))))),
  [.tmp 6]⟩

/- law03_LatticeBounds -/
def A_law03_LatticeBoundsL2 : ACode :=
  .seq (.seq (.region false [⟨(some 117), .mov (.t 16), none⟩,
    ⟨(some 118), .mov (.t 9), none⟩,
    ⟨(some 119), .bin .lss (.t 117) (.t 118), none⟩])
  (.cond (.t 119)
   (.skip)
   (.exit 4)))
  (.seq (.block 5 (.seq (.region false [⟨(some 122), .ld (some 2) (.t 1), none⟩,
    ⟨(some 123), .mov (.t 10), none⟩,
    ⟨(some 124), .mov (.t 16), none⟩,
    ⟨(some 125), .call F_law03_below [(.t 122), (.t 123), (.t 124)], none⟩,
    ⟨(some 126), .mov (.t 125), none⟩,
    ⟨(some 127), .ld (some 2) (.t 1), some (126, true)⟩,
    ⟨(some 128), .mov (.t 11), some (126, true)⟩,
    ⟨(some 129), .mov (.t 16), some (126, true)⟩,
    ⟨(some 130), .call F_law03_below [(.t 127), (.t 128), (.t 129)], some (126, true)⟩,
    ⟨(some 131), .pick (.t 126) (.t 130) (.c (.bool false)), none⟩,
    ⟨(some 132), .mov (.t 131), none⟩,
    ⟨(some 133), .ld (some 2) (.t 1), some (132, true)⟩,
    ⟨(some 134), .mov (.t 12), some (132, true)⟩,
    ⟨(some 135), .mov (.t 16), some (132, true)⟩,
    ⟨(some 136), .call F_law03_below [(.t 133), (.t 134), (.t 135)], some (132, true)⟩,
    ⟨(some 137), .not (.t 136), some (132, true)⟩,
    ⟨(some 138), .pick (.t 132) (.t 137) (.c (.bool false)), none⟩,
    ⟨(some 139), .mov (.t 138), none⟩,
    ⟨(some 140), .ld (some 2) (.t 1), some (139, false)⟩,
    ⟨(some 141), .mov (.t 16), some (139, false)⟩,
    ⟨(some 142), .mov (.t 10), some (139, false)⟩,
    ⟨(some 143), .call F_law03_below [(.t 140), (.t 141), (.t 142)], some (139, false)⟩,
    ⟨(some 144), .mov (.t 143), some (139, false)⟩,
    ⟨(some 145), .ld (some 2) (.t 1), some (144, true)⟩,
    ⟨(some 146), .mov (.t 16), some (144, true)⟩,
    ⟨(some 147), .mov (.t 11), some (144, true)⟩,
    ⟨(some 148), .call F_law03_below [(.t 145), (.t 146), (.t 147)], some (144, true)⟩,
    ⟨(some 149), .pick (.t 144) (.t 148) (.c (.bool false)), some (139, false)⟩,
    ⟨(some 150), .mov (.t 149), some (139, false)⟩,
    ⟨(some 151), .ld (some 2) (.t 1), some (150, true)⟩,
    ⟨(some 152), .mov (.t 16), some (150, true)⟩,
    ⟨(some 153), .mov (.t 14), some (150, true)⟩,
    ⟨(some 154), .call F_law03_below [(.t 151), (.t 152), (.t 153)], some (150, true)⟩,
    ⟨(some 155), .not (.t 154), some (150, true)⟩,
    ⟨(some 156), .pick (.t 150) (.t 155) (.c (.bool false)), some (139, false)⟩,
    ⟨(some 157), .pick (.t 139) (.c (.bool true)) (.t 156), none⟩])
  (.cond (.t 157)
   (.seq (.region false [⟨(some 2), .mov (.c (.bool false)), none⟩])
   (.ret))
   (.skip))))
  (.region false [⟨(some 120), .mov (.t 16), none⟩,
    ⟨(some 121), .bin .add (.t 120) (.c (.int .i64 1)), none⟩,
    ⟨(some 16), .mov (.t 121), none⟩]))
def A_law03_LatticeBoundsL1 : ACode :=
  .seq (.seq (.region false [⟨(some 64), .mov (.t 11), none⟩,
    ⟨(some 65), .mov (.t 9), none⟩,
    ⟨(some 66), .bin .lss (.t 64) (.t 65), none⟩])
  (.cond (.t 66)
   (.skip)
   (.exit 2)))
  (.seq (.block 3 (.seq (.region false [⟨(some 70), .ld (some 2) (.t 1), none⟩,
    ⟨(some 71), .mov (.t 10), none⟩,
    ⟨(some 72), .mov (.t 11), none⟩,
    ⟨(some 73), .call F_lattice_Join [(.t 70), (.t 71), (.t 72)], none⟩,
    ⟨(some 69), .mov (.t 73), none⟩,
    ⟨(some 74), .extr (.t 69) 0, none⟩,
    ⟨(some 75), .extr (.t 69) 1, none⟩,
    ⟨(some 12), .mov (.t 74), none⟩,
    ⟨(some 13), .mov (.t 75), none⟩])
  (.seq (.region false [⟨(some 77), .ld (some 2) (.t 1), none⟩,
    ⟨(some 78), .mov (.t 10), none⟩,
    ⟨(some 79), .mov (.t 11), none⟩,
    ⟨(some 80), .call F_lattice_Meet [(.t 77), (.t 78), (.t 79)], none⟩,
    ⟨(some 76), .mov (.t 80), none⟩,
    ⟨(some 81), .extr (.t 76) 0, none⟩,
    ⟨(some 82), .extr (.t 76) 1, none⟩,
    ⟨(some 14), .mov (.t 81), none⟩,
    ⟨(some 15), .mov (.t 82), none⟩])
  (.seq (.seq (.region false [⟨(some 83), .mov (.t 13), none⟩,
    ⟨(some 84), .bin .neq (.t 83) (.c (.int .i64 0)), none⟩,
    ⟨(some 85), .mov (.t 84), none⟩,
    ⟨(some 86), .mov (.t 15), some (85, false)⟩,
    ⟨(some 87), .bin .neq (.t 86) (.c (.int .i64 0)), some (85, false)⟩,
    ⟨(some 88), .pick (.t 85) (.c (.bool true)) (.t 87), none⟩,
    ⟨(some 89), .mov (.t 88), none⟩,
    ⟨(some 90), .ld (some 2) (.t 1), some (89, false)⟩,
    ⟨(some 91), .mov (.t 10), some (89, false)⟩,
    ⟨(some 92), .mov (.t 12), some (89, false)⟩,
    ⟨(some 93), .call F_law03_below [(.t 90), (.t 91), (.t 92)], some (89, false)⟩,
    ⟨(some 94), .not (.t 93), some (89, false)⟩,
    ⟨(some 95), .pick (.t 89) (.c (.bool true)) (.t 94), none⟩,
    ⟨(some 96), .mov (.t 95), none⟩,
    ⟨(some 97), .ld (some 2) (.t 1), some (96, false)⟩,
    ⟨(some 98), .mov (.t 11), some (96, false)⟩,
    ⟨(some 99), .mov (.t 12), some (96, false)⟩,
    ⟨(some 100), .call F_law03_below [(.t 97), (.t 98), (.t 99)], some (96, false)⟩,
    ⟨(some 101), .not (.t 100), some (96, false)⟩,
    ⟨(some 102), .pick (.t 96) (.c (.bool true)) (.t 101), none⟩,
    ⟨(some 103), .mov (.t 102), none⟩,
    ⟨(some 104), .ld (some 2) (.t 1), some (103, false)⟩,
    ⟨(some 105), .mov (.t 14), some (103, false)⟩,
    ⟨(some 106), .mov (.t 10), some (103, false)⟩,
    ⟨(some 107), .call F_law03_below [(.t 104), (.t 105), (.t 106)], some (103, false)⟩,
    ⟨(some 108), .not (.t 107), some (103, false)⟩,
    ⟨(some 109), .pick (.t 103) (.c (.bool true)) (.t 108), none⟩,
    ⟨(some 110), .mov (.t 109), none⟩,
    ⟨(some 111), .ld (some 2) (.t 1), some (110, false)⟩,
    ⟨(some 112), .mov (.t 14), some (110, false)⟩,
    ⟨(some 113), .mov (.t 11), some (110, false)⟩,
    ⟨(some 114), .call F_law03_below [(.t 111), (.t 112), (.t 113)], some (110, false)⟩,
    ⟨(some 115), .not (.t 114), some (110, false)⟩,
    ⟨(some 116), .pick (.t 110) (.c (.bool true)) (.t 115), none⟩])
  (.cond (.t 116)
   (.seq (.region false [⟨(some 2), .mov (.c (.bool false)), none⟩])
   (.ret))
   (.skip)))
  (.seq (.region false [⟨(some 16), .mov (.c (.int .i64 0)), none⟩])
  (.block 4 (.loop A_law03_LatticeBoundsL2)))))))
  (.region false [⟨(some 67), .mov (.t 11), none⟩,
    ⟨(some 68), .bin .add (.t 67) (.c (.int .i64 1)), none⟩,
    ⟨(some 11), .mov (.t 68), none⟩]))
def A_law03_LatticeBoundsL0 : ACode :=
  .seq (.seq (.region false [⟨(some 47), .mov (.t 10), none⟩,
    ⟨(some 48), .mov (.t 9), none⟩,
    ⟨(some 49), .bin .lss (.t 47) (.t 48), none⟩])
  (.cond (.t 49)
   (.skip)
   (.exit 0)))
  (.seq (.block 1 (.seq (.seq (.region false [⟨(some 52), .ld (some 2) (.t 1), none⟩,
    ⟨(some 53), .mov (.t 5), none⟩,
    ⟨(some 54), .mov (.t 10), none⟩,
    ⟨(some 55), .call F_law03_below [(.t 52), (.t 53), (.t 54)], none⟩,
    ⟨(some 56), .not (.t 55), none⟩,
    ⟨(some 57), .mov (.t 56), none⟩,
    ⟨(some 58), .ld (some 2) (.t 1), some (57, false)⟩,
    ⟨(some 59), .mov (.t 10), some (57, false)⟩,
    ⟨(some 60), .mov (.t 7), some (57, false)⟩,
    ⟨(some 61), .call F_law03_below [(.t 58), (.t 59), (.t 60)], some (57, false)⟩,
    ⟨(some 62), .not (.t 61), some (57, false)⟩,
    ⟨(some 63), .pick (.t 57) (.c (.bool true)) (.t 62), none⟩])
  (.cond (.t 63)
   (.seq (.region false [⟨(some 2), .mov (.c (.bool false)), none⟩])
   (.ret))
   (.skip)))
  (.seq (.region false [⟨(some 11), .mov (.c (.int .i64 0)), none⟩])
  (.block 2 (.loop A_law03_LatticeBoundsL1)))))
  (.region false [⟨(some 50), .mov (.t 10), none⟩,
    ⟨(some 51), .bin .add (.t 50) (.c (.int .i64 1)), none⟩,
    ⟨(some 10), .mov (.t 51), none⟩]))
def A_law03_LatticeBounds : AFun := ⟨159,
  .seq (.region false [⟨(some 1), .box (.t 0), none⟩,
    ⟨(some 2), .mov (.c (.bool false)), none⟩])
  (.seq (.seq (.region false [⟨(some 17), .ld (some 2) (.t 1), none⟩,
    ⟨(some 18), .call F_law03_Far [(.t 17)], none⟩])
  (.cond (.t 18)
   (.seq (.region false [⟨(some 19), .call F_law03_awake [], none⟩,
     ⟨(some 2), .mov (.t 19), none⟩])
   (.ret))
   (.skip)))
  (.seq (.seq (.region false [⟨(some 21), .ld (some 2) (.t 1), none⟩,
    ⟨(some 22), .call F_lattice_Check [(.t 21)], none⟩,
    ⟨(some 20), .mov (.t 22), none⟩,
    ⟨(some 23), .extr (.t 20) 0, none⟩,
    ⟨(some 24), .extr (.t 20) 1, none⟩,
    ⟨(some 3), .mov (.t 23), none⟩,
    ⟨(some 4), .mov (.t 24), none⟩])
  (.seq (.region false [⟨(some 25), .mov (.t 4), none⟩,
    ⟨(some 26), .bin .neq (.t 25) (.c (.int .i64 0)), none⟩])
  (.cond (.t 26)
   (.seq (.region false [⟨(some 27), .call F_law03_awake [], none⟩,
     ⟨(some 2), .mov (.t 27), none⟩])
   (.ret))
   (.skip))))
  (.seq (.region false [⟨(some 29), .ld (some 2) (.t 1), none⟩,
    ⟨(some 30), .call F_lattice_Bottom [(.t 29)], none⟩,
    ⟨(some 28), .mov (.t 30), none⟩,
    ⟨(some 31), .extr (.t 28) 0, none⟩,
    ⟨(some 32), .extr (.t 28) 1, none⟩,
    ⟨(some 5), .mov (.t 31), none⟩,
    ⟨(some 6), .mov (.t 32), none⟩])
  (.seq (.region false [⟨(some 34), .ld (some 2) (.t 1), none⟩,
    ⟨(some 35), .call F_lattice_Top [(.t 34)], none⟩,
    ⟨(some 33), .mov (.t 35), none⟩,
    ⟨(some 36), .extr (.t 33) 0, none⟩,
    ⟨(some 37), .extr (.t 33) 1, none⟩,
    ⟨(some 7), .mov (.t 36), none⟩,
    ⟨(some 8), .mov (.t 37), none⟩])
  (.seq (.seq (.region false [⟨(some 38), .mov (.t 6), none⟩,
    ⟨(some 39), .bin .neq (.t 38) (.c (.int .i64 0)), none⟩,
    ⟨(some 40), .mov (.t 39), none⟩,
    ⟨(some 41), .mov (.t 8), some (40, false)⟩,
    ⟨(some 42), .bin .neq (.t 41) (.c (.int .i64 0)), some (40, false)⟩,
    ⟨(some 43), .pick (.t 40) (.c (.bool true)) (.t 42), none⟩])
  (.cond (.t 43)
   (.seq (.region false [⟨(some 2), .mov (.c (.bool false)), none⟩])
   (.ret))
   (.skip)))
  (.seq (.region false [⟨(some 44), .fldA 0 (.t 1), none⟩,
    ⟨(some 45), .ld none (.t 44), none⟩,
    ⟨(some 46), .len (.t 45), none⟩,
    ⟨(some 9), .mov (.t 46), none⟩])
  (.seq (.seq (.region false [⟨(some 10), .mov (.c (.int .i64 0)), none⟩])
  (.block 0 (.loop A_law03_LatticeBoundsL0)))
  (.seq (.region false [⟨(some 158), .call F_law03_awake [], none⟩,
    ⟨(some 2), .mov (.t 158), none⟩])
  (.ret))))))))),
  [.tmp 2]⟩

/- law03_LatticeFinds -/
def A_law03_LatticeFinds : AFun := ⟨85,
  .seq (.region false [⟨(some 2), .box (.t 0), none⟩,
    ⟨(some 4), .mov (.c (.bool false)), none⟩])
  (.seq (.seq (.region false [⟨(some 15), .ld (some 2) (.t 2), none⟩,
    ⟨(some 16), .call F_law03_Far [(.t 15)], none⟩,
    ⟨(some 17), .mov (.t 16), none⟩,
    ⟨(some 18), .mov (.t 1), some (17, false)⟩,
    ⟨(some 19), .lenS (.t 18), some (17, false)⟩,
    ⟨(some 20), .bin .gtr (.t 19) (.c (.int .i64 100)), some (17, false)⟩,
    ⟨(some 21), .pick (.t 17) (.c (.bool true)) (.t 20), none⟩])
  (.cond (.t 21)
   (.seq (.region false [⟨(some 22), .call F_law03_awake [], none⟩,
     ⟨(some 4), .mov (.t 22), none⟩])
   (.ret))
   (.skip)))
  (.seq (.region false [⟨(some 24), .ld (some 2) (.t 2), none⟩,
    ⟨(some 25), .mov (.t 1), none⟩,
    ⟨(some 26), .call F_lattice_Find [(.t 24), (.t 25)], none⟩,
    ⟨(some 23), .mov (.t 26), none⟩,
    ⟨(some 27), .extr (.t 23) 0, none⟩,
    ⟨(some 28), .extr (.t 23) 1, none⟩,
    ⟨(some 5), .mov (.t 27), none⟩,
    ⟨(some 6), .mov (.t 28), none⟩])
  (.seq (.region false [⟨(some 30), .ld (some 2) (.t 2), none⟩,
    ⟨(some 31), .mov (.t 1), none⟩,
    ⟨(some 32), .call F_ref03_Find [(.t 30), (.t 31)], none⟩,
    ⟨(some 29), .mov (.t 32), none⟩,
    ⟨(some 33), .extr (.t 29) 0, none⟩,
    ⟨(some 34), .extr (.t 29) 1, none⟩,
    ⟨(some 7), .mov (.t 33), none⟩,
    ⟨(some 8), .mov (.t 34), none⟩])
  (.seq (.region false [⟨(some 36), .ld (some 2) (.t 2), none⟩,
    ⟨(some 37), .call F_lattice_Covers [(.t 36)], none⟩,
    ⟨(some 35), .mov (.t 37), none⟩,
    ⟨(some 38), .extr (.t 35) 0, none⟩,
    ⟨(some 39), .extr (.t 35) 1, none⟩,
    ⟨(some 9), .mov (.t 38), none⟩,
    ⟨(some 10), .mov (.t 39), none⟩])
  (.seq (.region false [⟨(some 41), .ld (some 2) (.t 2), none⟩,
    ⟨(some 42), .call F_ref03_Covers [(.t 41)], none⟩,
    ⟨(some 40), .mov (.t 42), none⟩,
    ⟨(some 43), .extr (.t 40) 0, none⟩,
    ⟨(some 44), .extr (.t 40) 1, none⟩,
    ⟨(some 11), .mov (.t 43), none⟩,
    ⟨(some 12), .mov (.t 44), none⟩])
  (.seq (.seq (.region false [⟨(some 45), .mov (.t 5), none⟩,
    ⟨(some 46), .mov (.t 7), none⟩,
    ⟨(some 47), .bin .neq (.t 45) (.t 46), none⟩,
    ⟨(some 48), .mov (.t 47), none⟩,
    ⟨(some 49), .mov (.t 6), some (48, false)⟩,
    ⟨(some 50), .mov (.t 8), some (48, false)⟩,
    ⟨(some 51), .bin .neq (.t 49) (.t 50), some (48, false)⟩,
    ⟨(some 52), .pick (.t 48) (.c (.bool true)) (.t 51), none⟩,
    ⟨(some 53), .mov (.t 52), none⟩,
    ⟨(some 54), .mov (.t 9), some (53, false)⟩,
    ⟨(some 55), .mov (.t 11), some (53, false)⟩,
    ⟨(some 56), .call F_law03_pairs [(.t 54), (.t 55)], some (53, false)⟩,
    ⟨(some 57), .not (.t 56), some (53, false)⟩,
    ⟨(some 58), .pick (.t 53) (.c (.bool true)) (.t 57), none⟩,
    ⟨(some 59), .mov (.t 58), none⟩,
    ⟨(some 60), .mov (.t 10), some (59, false)⟩,
    ⟨(some 61), .mov (.t 12), some (59, false)⟩,
    ⟨(some 62), .bin .neq (.t 60) (.t 61), some (59, false)⟩,
    ⟨(some 63), .pick (.t 59) (.c (.bool true)) (.t 62), none⟩])
  (.cond (.t 63)
   (.seq (.region false [⟨(some 4), .mov (.c (.bool false)), none⟩])
   (.ret))
   (.skip)))
  (.seq (.region false [⟨(some 65), .ld (some 2) (.t 2), none⟩,
    ⟨(some 66), .call F_lattice_Dual [(.t 65)], none⟩,
    ⟨(some 64), .mov (.t 66), none⟩,
    ⟨(some 67), .extr (.t 64) 0, none⟩,
    ⟨(some 68), .extr (.t 64) 1, none⟩,
    ⟨(some 13), .alloc [.sl .ex [], .sl .ex []], none⟩,
    ⟨none, .st 2 (.t 13) (.t 67), none⟩,
    ⟨(some 6), .mov (.t 68), none⟩])
  (.seq (.region false [⟨(some 70), .ld (some 2) (.t 2), none⟩,
    ⟨(some 71), .call F_ref03_Dual [(.t 70)], none⟩,
    ⟨(some 69), .mov (.t 71), none⟩,
    ⟨(some 72), .extr (.t 69) 0, none⟩,
    ⟨(some 73), .extr (.t 69) 1, none⟩,
    ⟨(some 14), .alloc [.sl .ex [], .sl .ex []], none⟩,
    ⟨none, .st 2 (.t 14) (.t 72), none⟩,
    ⟨(some 8), .mov (.t 73), none⟩])
  (.seq (.region false [⟨(some 74), .ld (some 2) (.t 13), none⟩,
    ⟨(some 75), .ld (some 2) (.t 14), none⟩,
    ⟨(some 76), .call F_ref03_Same [(.t 74), (.t 75)], none⟩,
    ⟨(some 77), .mov (.t 76), none⟩,
    ⟨(some 78), .mov (.t 6), some (77, true)⟩,
    ⟨(some 79), .mov (.t 8), some (77, true)⟩,
    ⟨(some 80), .bin .eql (.t 78) (.t 79), some (77, true)⟩,
    ⟨(some 81), .pick (.t 77) (.t 80) (.c (.bool false)), none⟩,
    ⟨(some 82), .mov (.t 81), none⟩,
    ⟨(some 83), .call F_law03_awake [], some (82, true)⟩,
    ⟨(some 84), .pick (.t 82) (.t 83) (.c (.bool false)), none⟩,
    ⟨(some 4), .mov (.t 84), none⟩])
  (.ret)))))))))),
  [.tmp 4]⟩

/- law03_LatticeChecks -/
def A_law03_LatticeChecks : AFun := ⟨78,
  .seq (.region false [⟨(some 3), .box (.t 0), none⟩,
    ⟨(some 6), .mov (.c (.bool false)), none⟩])
  (.seq (.seq (.region false [⟨(some 17), .ld (some 2) (.t 3), none⟩,
    ⟨(some 18), .call F_law03_Far [(.t 17)], none⟩,
    ⟨(some 19), .mov (.t 18), none⟩,
    ⟨(some 20), .mov (.t 1), some (19, false)⟩,
    ⟨(some 21), .call F_law03_long [(.t 20)], some (19, false)⟩,
    ⟨(some 22), .pick (.t 19) (.c (.bool true)) (.t 21), none⟩,
    ⟨(some 23), .mov (.t 22), none⟩,
    ⟨(some 24), .mov (.t 2), some (23, false)⟩,
    ⟨(some 25), .call F_law03_long [(.t 24)], some (23, false)⟩,
    ⟨(some 26), .pick (.t 23) (.c (.bool true)) (.t 25), none⟩])
  (.cond (.t 26)
   (.seq (.region false [⟨(some 27), .call F_law03_awake [], none⟩,
     ⟨(some 6), .mov (.t 27), none⟩])
   (.ret))
   (.skip)))
  (.seq (.region false [⟨(some 29), .ld (some 2) (.t 3), none⟩,
    ⟨(some 30), .call F_lattice_Check [(.t 29)], none⟩,
    ⟨(some 28), .mov (.t 30), none⟩,
    ⟨(some 31), .extr (.t 28) 0, none⟩,
    ⟨(some 32), .extr (.t 28) 1, none⟩,
    ⟨(some 7), .mov (.t 31), none⟩,
    ⟨(some 8), .mov (.t 32), none⟩])
  (.seq (.region false [⟨(some 34), .ld (some 2) (.t 3), none⟩,
    ⟨(some 35), .call F_ref03_Check [(.t 34)], none⟩,
    ⟨(some 33), .mov (.t 35), none⟩,
    ⟨(some 36), .extr (.t 33) 0, none⟩,
    ⟨(some 37), .extr (.t 33) 1, none⟩,
    ⟨(some 9), .mov (.t 36), none⟩,
    ⟨(some 10), .mov (.t 37), none⟩])
  (.seq (.region false [⟨(some 39), .mov (.t 1), none⟩,
    ⟨(some 40), .mov (.t 2), none⟩,
    ⟨(some 41), .call F_lattice_Make [(.t 39), (.t 40)], none⟩,
    ⟨(some 38), .mov (.t 41), none⟩,
    ⟨(some 42), .extr (.t 38) 0, none⟩,
    ⟨(some 43), .extr (.t 38) 1, none⟩,
    ⟨(some 44), .extr (.t 38) 2, none⟩,
    ⟨(some 11), .alloc [.sl .ex [], .sl .ex []], none⟩,
    ⟨none, .st 2 (.t 11) (.t 42), none⟩,
    ⟨(some 12), .mov (.t 43), none⟩,
    ⟨(some 13), .mov (.t 44), none⟩])
  (.seq (.region false [⟨(some 46), .mov (.t 1), none⟩,
    ⟨(some 47), .mov (.t 2), none⟩,
    ⟨(some 48), .call F_ref03_Make [(.t 46), (.t 47)], none⟩,
    ⟨(some 45), .mov (.t 48), none⟩,
    ⟨(some 49), .extr (.t 45) 0, none⟩,
    ⟨(some 50), .extr (.t 45) 1, none⟩,
    ⟨(some 51), .extr (.t 45) 2, none⟩,
    ⟨(some 14), .alloc [.sl .ex [], .sl .ex []], none⟩,
    ⟨none, .st 2 (.t 14) (.t 49), none⟩,
    ⟨(some 15), .mov (.t 50), none⟩,
    ⟨(some 16), .mov (.t 51), none⟩])
  (.seq (.region false [⟨(some 52), .mov (.t 7), none⟩,
    ⟨(some 53), .mov (.t 9), none⟩,
    ⟨(some 54), .bin .eql (.t 52) (.t 53), none⟩,
    ⟨(some 55), .mov (.t 54), none⟩,
    ⟨(some 56), .mov (.t 8), some (55, true)⟩,
    ⟨(some 57), .mov (.t 10), some (55, true)⟩,
    ⟨(some 58), .bin .eql (.t 56) (.t 57), some (55, true)⟩,
    ⟨(some 59), .pick (.t 55) (.t 58) (.c (.bool false)), none⟩,
    ⟨(some 60), .mov (.t 59), none⟩,
    ⟨(some 61), .ld (some 2) (.t 11), some (60, true)⟩,
    ⟨(some 62), .ld (some 2) (.t 14), some (60, true)⟩,
    ⟨(some 63), .call F_ref03_Same [(.t 61), (.t 62)], some (60, true)⟩,
    ⟨(some 64), .pick (.t 60) (.t 63) (.c (.bool false)), none⟩,
    ⟨(some 65), .mov (.t 64), none⟩,
    ⟨(some 66), .mov (.t 12), some (65, true)⟩,
    ⟨(some 67), .mov (.t 15), some (65, true)⟩,
    ⟨(some 68), .bin .eql (.t 66) (.t 67), some (65, true)⟩,
    ⟨(some 69), .pick (.t 65) (.t 68) (.c (.bool false)), none⟩,
    ⟨(some 70), .mov (.t 69), none⟩,
    ⟨(some 71), .mov (.t 13), some (70, true)⟩,
    ⟨(some 72), .mov (.t 16), some (70, true)⟩,
    ⟨(some 73), .bin .eql (.t 71) (.t 72), some (70, true)⟩,
    ⟨(some 74), .pick (.t 70) (.t 73) (.c (.bool false)), none⟩,
    ⟨(some 75), .mov (.t 74), none⟩,
    ⟨(some 76), .call F_law03_awake [], some (75, true)⟩,
    ⟨(some 77), .pick (.t 75) (.t 76) (.c (.bool false)), none⟩,
    ⟨(some 6), .mov (.t 77), none⟩])
  (.ret))))))),
  [.tmp 6]⟩

/- law03_LatticeDuals -/
def A_law03_LatticeDualsL0 : ACode :=
  .seq (.seq (.region false [⟨(some 89), .mov (.t 14), none⟩,
    ⟨(some 90), .mov (.t 12), none⟩,
    ⟨(some 91), .bin .lss (.t 89) (.t 90), none⟩])
  (.cond (.t 91)
   (.skip)
   (.exit 0)))
  (.seq (.block 1 (.region false [⟨(some 94), .mov (.t 14), none⟩,
    ⟨(some 95), .mov (.t 14), none⟩,
    ⟨(some 96), .idxP 8 8 (.t 13) (.t 94), none⟩,
    ⟨(some 97), .idxP 8 1 (.t 96) (.t 95), none⟩,
    ⟨none, .st 1 (.t 97) (.c (.bool true)), none⟩]))
  (.region false [⟨(some 92), .mov (.t 14), none⟩,
    ⟨(some 93), .bin .add (.t 92) (.c (.int .i64 1)), none⟩,
    ⟨(some 14), .mov (.t 93), none⟩]))
def A_law03_LatticeDualsL3 : ACode :=
  .seq (.seq (.region false [⟨(some 109), .mov (.t 17), none⟩,
    ⟨(some 110), .mov (.t 12), none⟩,
    ⟨(some 111), .bin .lss (.t 109) (.t 110), none⟩])
  (.cond (.t 111)
   (.skip)
   (.exit 6)))
  (.seq (.block 7 (.region true [⟨(some 114), .mov (.t 17), none⟩,
    ⟨(some 115), .mov (.t 10), none⟩,
    ⟨(some 116), .mov (.t 16), none⟩,
    ⟨(some 117), .idxA 2 (.t 115) (.t 116), none⟩,
    ⟨(some 118), .idxP 2 1 (.t 117) (.c (.int .i64 1)), none⟩,
    ⟨(some 119), .ld none (.t 118), none⟩,
    ⟨(some 120), .mov (.t 17), none⟩,
    ⟨(some 121), .mov (.t 10), none⟩,
    ⟨(some 122), .mov (.t 16), none⟩,
    ⟨(some 123), .idxA 2 (.t 121) (.t 122), none⟩,
    ⟨(some 124), .idxP 2 1 (.t 123) (.c (.int .i64 1)), none⟩,
    ⟨(some 125), .ld none (.t 124), none⟩,
    ⟨(some 126), .idxP 8 8 (.t 13) (.t 120), none⟩,
    ⟨(some 127), .idxP 8 1 (.t 126) (.t 125), none⟩,
    ⟨(some 128), .ld none (.t 127), none⟩,
    ⟨(some 129), .mov (.t 128), none⟩,
    ⟨(some 130), .mov (.t 17), some (129, false)⟩,
    ⟨(some 131), .mov (.t 10), some (129, false)⟩,
    ⟨(some 132), .mov (.t 16), some (129, false)⟩,
    ⟨(some 133), .idxA 2 (.t 131) (.t 132), some (129, false)⟩,
    ⟨(some 134), .idxP 2 1 (.t 133) (.c (.int .i64 0)), some (129, false)⟩,
    ⟨(some 135), .ld none (.t 134), some (129, false)⟩,
    ⟨(some 136), .idxP 8 8 (.t 13) (.t 130), some (129, false)⟩,
    ⟨(some 137), .idxP 8 1 (.t 136) (.t 135), some (129, false)⟩,
    ⟨(some 138), .ld none (.t 137), some (129, false)⟩,
    ⟨(some 139), .pick (.t 129) (.c (.bool true)) (.t 138), none⟩,
    ⟨(some 140), .idxP 8 8 (.t 13) (.t 114), none⟩,
    ⟨(some 141), .idxP 8 1 (.t 140) (.t 119), none⟩,
    ⟨none, .st 1 (.t 141) (.t 139), none⟩]))
  (.region false [⟨(some 112), .mov (.t 17), none⟩,
    ⟨(some 113), .bin .add (.t 112) (.c (.int .i64 1)), none⟩,
    ⟨(some 17), .mov (.t 113), none⟩]))
def A_law03_LatticeDualsL2 : ACode :=
  .seq (.seq (.region false [⟨(some 103), .mov (.t 16), none⟩,
    ⟨(some 104), .mov (.t 10), none⟩,
    ⟨(some 105), .len (.t 104), none⟩,
    ⟨(some 106), .bin .lss (.t 103) (.t 105), none⟩])
  (.cond (.t 106)
   (.skip)
   (.exit 4)))
  (.seq (.block 5 (.seq (.region false [⟨(some 17), .mov (.c (.int .i64 0)), none⟩])
  (.block 6 (.loop A_law03_LatticeDualsL3))))
  (.region false [⟨(some 107), .mov (.t 16), none⟩,
    ⟨(some 108), .bin .add (.t 107) (.c (.int .i64 1)), none⟩,
    ⟨(some 16), .mov (.t 108), none⟩]))
def A_law03_LatticeDualsL1 : ACode :=
  .seq (.seq (.region false [⟨(some 98), .mov (.t 15), none⟩,
    ⟨(some 99), .mov (.t 12), none⟩,
    ⟨(some 100), .bin .lss (.t 98) (.t 99), none⟩])
  (.cond (.t 100)
   (.skip)
   (.exit 2)))
  (.seq (.block 3 (.seq (.region false [⟨(some 16), .mov (.c (.int .i64 0)), none⟩])
  (.block 4 (.loop A_law03_LatticeDualsL2))))
  (.region false [⟨(some 101), .mov (.t 15), none⟩,
    ⟨(some 102), .bin .add (.t 101) (.c (.int .i64 1)), none⟩,
    ⟨(some 15), .mov (.t 102), none⟩]))
def A_law03_LatticeDualsL5 : ACode :=
  .seq (.seq (.region false [⟨(some 147), .mov (.t 19), none⟩,
    ⟨(some 148), .mov (.t 12), none⟩,
    ⟨(some 149), .bin .lss (.t 147) (.t 148), none⟩])
  (.cond (.t 149)
   (.skip)
   (.exit 10)))
  (.seq (.block 11 (.seq (.region false [⟨(some 153), .ld (some 2) (.t 1), none⟩,
    ⟨(some 154), .mov (.t 18), none⟩,
    ⟨(some 155), .mov (.t 19), none⟩,
    ⟨(some 156), .call F_lattice_Join [(.t 153), (.t 154), (.t 155)], none⟩,
    ⟨(some 152), .mov (.t 156), none⟩,
    ⟨(some 157), .extr (.t 152) 0, none⟩,
    ⟨(some 158), .extr (.t 152) 1, none⟩,
    ⟨(some 20), .mov (.t 157), none⟩,
    ⟨(some 21), .mov (.t 158), none⟩])
  (.seq (.region false [⟨(some 160), .ld (some 2) (.t 3), none⟩,
    ⟨(some 161), .mov (.t 18), none⟩,
    ⟨(some 162), .mov (.t 19), none⟩,
    ⟨(some 163), .call F_lattice_Meet [(.t 160), (.t 161), (.t 162)], none⟩,
    ⟨(some 159), .mov (.t 163), none⟩,
    ⟨(some 164), .extr (.t 159) 0, none⟩,
    ⟨(some 165), .extr (.t 159) 1, none⟩,
    ⟨(some 22), .mov (.t 164), none⟩,
    ⟨(some 23), .mov (.t 165), none⟩])
  (.seq (.region true [⟨(some 166), .mov (.t 21), none⟩,
    ⟨(some 167), .bin .neq (.t 166) (.c (.int .i64 0)), none⟩,
    ⟨(some 168), .mov (.t 167), none⟩,
    ⟨(some 169), .mov (.t 23), some (168, false)⟩,
    ⟨(some 170), .bin .neq (.t 169) (.c (.int .i64 0)), some (168, false)⟩,
    ⟨(some 171), .pick (.t 168) (.c (.bool true)) (.t 170), none⟩,
    ⟨(some 172), .mov (.t 171), none⟩,
    ⟨(some 173), .mov (.t 20), some (172, false)⟩,
    ⟨(some 174), .mov (.t 22), some (172, false)⟩,
    ⟨(some 175), .bin .neq (.t 173) (.t 174), some (172, false)⟩,
    ⟨(some 176), .pick (.t 172) (.c (.bool true)) (.t 175), none⟩,
    ⟨(some 177), .mov (.t 176), none⟩,
    ⟨(some 178), .mov (.t 18), some (177, false)⟩,
    ⟨(some 179), .mov (.t 19), some (177, false)⟩,
    ⟨(some 180), .idxP 8 8 (.t 13) (.t 178), some (177, false)⟩,
    ⟨(some 181), .idxP 8 1 (.t 180) (.t 179), some (177, false)⟩,
    ⟨(some 182), .ld none (.t 181), some (177, false)⟩,
    ⟨(some 183), .ld (some 2) (.t 1), some (177, false)⟩,
    ⟨(some 184), .mov (.t 18), some (177, false)⟩,
    ⟨(some 185), .mov (.t 19), some (177, false)⟩,
    ⟨(some 186), .call F_law03_below [(.t 183), (.t 184), (.t 185)], some (177, false)⟩,
    ⟨(some 187), .beq true (.t 182) (.t 186), some (177, false)⟩,
    ⟨(some 188), .pick (.t 177) (.c (.bool true)) (.t 187), none⟩,
    ⟨(some 189), .mov (.t 188), none⟩,
    ⟨(some 190), .ld (some 2) (.t 1), some (189, false)⟩,
    ⟨(some 191), .mov (.t 18), some (189, false)⟩,
    ⟨(some 192), .mov (.t 19), some (189, false)⟩,
    ⟨(some 193), .call F_law03_below [(.t 190), (.t 191), (.t 192)], some (189, false)⟩,
    ⟨(some 194), .ld (some 2) (.t 3), some (189, false)⟩,
    ⟨(some 195), .mov (.t 19), some (189, false)⟩,
    ⟨(some 196), .mov (.t 18), some (189, false)⟩,
    ⟨(some 197), .call F_law03_below [(.t 194), (.t 195), (.t 196)], some (189, false)⟩,
    ⟨(some 198), .beq true (.t 193) (.t 197), some (189, false)⟩,
    ⟨(some 199), .pick (.t 189) (.c (.bool true)) (.t 198), none⟩])
  (.cond (.t 199)
   (.seq (.region false [⟨(some 2), .mov (.c (.bool false)), none⟩])
   (.ret))
   (.skip))))))
  (.region false [⟨(some 150), .mov (.t 19), none⟩,
    ⟨(some 151), .bin .add (.t 150) (.c (.int .i64 1)), none⟩,
    ⟨(some 19), .mov (.t 151), none⟩]))
def A_law03_LatticeDualsL4 : ACode :=
  .seq (.seq (.region false [⟨(some 142), .mov (.t 18), none⟩,
    ⟨(some 143), .mov (.t 12), none⟩,
    ⟨(some 144), .bin .lss (.t 142) (.t 143), none⟩])
  (.cond (.t 144)
   (.skip)
   (.exit 8)))
  (.seq (.block 9 (.seq (.region false [⟨(some 19), .mov (.c (.int .i64 0)), none⟩])
  (.block 10 (.loop A_law03_LatticeDualsL5))))
  (.region false [⟨(some 145), .mov (.t 18), none⟩,
    ⟨(some 146), .bin .add (.t 145) (.c (.int .i64 1)), none⟩,
    ⟨(some 18), .mov (.t 146), none⟩]))
def A_law03_LatticeDuals : AFun := ⟨201,
  .seq (.region false [⟨(some 1), .box (.t 0), none⟩,
    ⟨(some 2), .mov (.c (.bool false)), none⟩])
  (.seq (.seq (.region false [⟨(some 24), .ld (some 2) (.t 1), none⟩,
    ⟨(some 25), .call F_law03_Far [(.t 24)], none⟩])
  (.cond (.t 25)
   (.seq (.region false [⟨(some 26), .call F_law03_awake [], none⟩,
     ⟨(some 2), .mov (.t 26), none⟩])
   (.ret))
   (.skip)))
  (.seq (.region false [⟨(some 28), .ld (some 2) (.t 1), none⟩,
    ⟨(some 29), .call F_lattice_Dual [(.t 28)], none⟩,
    ⟨(some 27), .mov (.t 29), none⟩,
    ⟨(some 30), .extr (.t 27) 0, none⟩,
    ⟨(some 31), .extr (.t 27) 1, none⟩,
    ⟨(some 3), .alloc [.sl .ex [], .sl .ex []], none⟩,
    ⟨none, .st 2 (.t 3) (.t 30), none⟩,
    ⟨(some 4), .mov (.t 31), none⟩])
  (.seq (.seq (.region false [⟨(some 32), .mov (.t 4), none⟩,
    ⟨(some 33), .bin .neq (.t 32) (.c (.int .i64 0)), none⟩])
  (.cond (.t 33)
   (.seq (.region false [⟨(some 34), .fldA 0 (.t 3), none⟩,
     ⟨(some 35), .ld none (.t 34), none⟩,
     ⟨(some 36), .len (.t 35), none⟩,
     ⟨(some 37), .bin .eql (.t 36) (.c (.int .i64 0)), none⟩,
     ⟨(some 38), .mov (.t 37), none⟩,
     ⟨(some 39), .call F_law03_awake [], some (38, true)⟩,
     ⟨(some 40), .pick (.t 38) (.t 39) (.c (.bool false)), none⟩,
     ⟨(some 2), .mov (.t 40), none⟩])
   (.ret))
   (.skip)))
  (.seq (.region false [⟨(some 42), .ld (some 2) (.t 3), none⟩,
    ⟨(some 43), .call F_lattice_Dual [(.t 42)], none⟩,
    ⟨(some 41), .mov (.t 43), none⟩,
    ⟨(some 44), .extr (.t 41) 0, none⟩,
    ⟨(some 45), .extr (.t 41) 1, none⟩,
    ⟨(some 5), .alloc [.sl .ex [], .sl .ex []], none⟩,
    ⟨none, .st 2 (.t 5) (.t 44), none⟩,
    ⟨(some 4), .mov (.t 45), none⟩])
  (.seq (.region false [⟨(some 47), .ld (some 2) (.t 1), none⟩,
    ⟨(some 48), .call F_lattice_Bottom [(.t 47)], none⟩,
    ⟨(some 46), .mov (.t 48), none⟩,
    ⟨(some 49), .extr (.t 46) 0, none⟩,
    ⟨(some 50), .extr (.t 46) 1, none⟩,
    ⟨(some 6), .mov (.t 49), none⟩,
    ⟨(some 7), .mov (.t 50), none⟩])
  (.seq (.region false [⟨(some 52), .ld (some 2) (.t 3), none⟩,
    ⟨(some 53), .call F_lattice_Top [(.t 52)], none⟩,
    ⟨(some 51), .mov (.t 53), none⟩,
    ⟨(some 54), .extr (.t 51) 0, none⟩,
    ⟨(some 55), .extr (.t 51) 1, none⟩,
    ⟨(some 8), .mov (.t 54), none⟩,
    ⟨(some 9), .mov (.t 55), none⟩])
  (.seq (.region false [⟨(some 57), .ld (some 2) (.t 1), none⟩,
    ⟨(some 58), .call F_lattice_Covers [(.t 57)], none⟩,
    ⟨(some 56), .mov (.t 58), none⟩,
    ⟨(some 59), .extr (.t 56) 0, none⟩,
    ⟨(some 60), .extr (.t 56) 1, none⟩,
    ⟨(some 10), .mov (.t 59), none⟩,
    ⟨(some 11), .mov (.t 60), none⟩])
  (.seq (.seq (.region false [⟨(some 61), .mov (.t 4), none⟩,
    ⟨(some 62), .bin .neq (.t 61) (.c (.int .i64 0)), none⟩,
    ⟨(some 63), .mov (.t 62), none⟩,
    ⟨(some 64), .mov (.t 7), some (63, false)⟩,
    ⟨(some 65), .bin .neq (.t 64) (.c (.int .i64 0)), some (63, false)⟩,
    ⟨(some 66), .pick (.t 63) (.c (.bool true)) (.t 65), none⟩,
    ⟨(some 67), .mov (.t 66), none⟩,
    ⟨(some 68), .mov (.t 9), some (67, false)⟩,
    ⟨(some 69), .bin .neq (.t 68) (.c (.int .i64 0)), some (67, false)⟩,
    ⟨(some 70), .pick (.t 67) (.c (.bool true)) (.t 69), none⟩,
    ⟨(some 71), .mov (.t 70), none⟩,
    ⟨(some 72), .mov (.t 11), some (71, false)⟩,
    ⟨(some 73), .bin .neq (.t 72) (.c (.int .i64 0)), some (71, false)⟩,
    ⟨(some 74), .pick (.t 71) (.c (.bool true)) (.t 73), none⟩,
    ⟨(some 75), .mov (.t 74), none⟩,
    ⟨(some 76), .ld (some 2) (.t 5), some (75, false)⟩,
    ⟨(some 77), .ld (some 2) (.t 1), some (75, false)⟩,
    ⟨(some 78), .call F_ref03_Same [(.t 76), (.t 77)], some (75, false)⟩,
    ⟨(some 79), .not (.t 78), some (75, false)⟩,
    ⟨(some 80), .pick (.t 75) (.c (.bool true)) (.t 79), none⟩,
    ⟨(some 81), .mov (.t 80), none⟩,
    ⟨(some 82), .mov (.t 6), some (81, false)⟩,
    ⟨(some 83), .mov (.t 8), some (81, false)⟩,
    ⟨(some 84), .bin .neq (.t 82) (.t 83), some (81, false)⟩,
    ⟨(some 85), .pick (.t 81) (.c (.bool true)) (.t 84), none⟩])
  (.cond (.t 85)
   (.seq (.region false [⟨(some 2), .mov (.c (.bool false)), none⟩])
   (.ret))
   (.skip)))
  (.seq (.region false [⟨(some 86), .fldA 0 (.t 1), none⟩,
    ⟨(some 87), .ld none (.t 86), none⟩,
    ⟨(some 88), .len (.t 87), none⟩,
    ⟨(some 12), .mov (.t 88), none⟩])
  (.seq (.region false [⟨(some 13), .alloc (List.replicate 64 (.bool false)), none⟩])
  (.seq (.seq (.region false [⟨(some 14), .mov (.c (.int .i64 0)), none⟩])
  (.block 0 (.loop A_law03_LatticeDualsL0)))
  (.seq (.seq (.region false [⟨(some 15), .mov (.c (.int .i64 0)), none⟩])
  (.block 2 (.loop A_law03_LatticeDualsL1)))
  (.seq (.seq (.region false [⟨(some 18), .mov (.c (.int .i64 0)), none⟩])
  (.block 8 (.loop A_law03_LatticeDualsL4)))
  (.seq (.region false [⟨(some 200), .call F_law03_awake [], none⟩,
    ⟨(some 2), .mov (.t 200), none⟩])
  (.ret))))))))))))))),
  [.tmp 2]⟩

/- law03_LatticeKnown -/
def A_law03_LatticeKnown : AFun := ⟨123,
  .seq (.region false [⟨(some 0), .mov (.c (.bool false)), none⟩])
  (.seq (.region false [⟨(some 19), .call F_law03_Diamond [], none⟩,
    ⟨(some 20), .call F_lattice_Leq [(.t 19), (.c (.int .i64 1)), (.c (.int .i64 2))], none⟩,
    ⟨(some 18), .mov (.t 20), none⟩,
    ⟨(some 21), .extr (.t 18) 0, none⟩,
    ⟨(some 22), .extr (.t 18) 1, none⟩,
    ⟨(some 1), .mov (.t 21), none⟩,
    ⟨(some 2), .mov (.t 22), none⟩])
  (.seq (.region false [⟨(some 24), .call F_law03_Diamond [], none⟩,
    ⟨(some 25), .call F_lattice_Bottom [(.t 24)], none⟩,
    ⟨(some 23), .mov (.t 25), none⟩,
    ⟨(some 26), .extr (.t 23) 0, none⟩,
    ⟨(some 27), .extr (.t 23) 1, none⟩,
    ⟨(some 3), .mov (.t 26), none⟩,
    ⟨(some 4), .mov (.t 27), none⟩])
  (.seq (.region false [⟨(some 29), .call F_law03_Diamond [], none⟩,
    ⟨(some 30), .call F_lattice_Top [(.t 29)], none⟩,
    ⟨(some 28), .mov (.t 30), none⟩,
    ⟨(some 31), .extr (.t 28) 0, none⟩,
    ⟨(some 32), .extr (.t 28) 1, none⟩,
    ⟨(some 5), .mov (.t 31), none⟩,
    ⟨(some 6), .mov (.t 32), none⟩])
  (.seq (.region false [⟨(some 34), .bsl 1 (.str []) 3 [(0, (.c (.str [108, 111, 119]))), (1, (.c (.str [97, 110, 110]))), (2, (.c (.str [98, 111, 98])))], none⟩,
    ⟨(some 35), .bsl 1 (.int .u8 0) 3 [(0, (.c (.int .u8 7))), (1, (.c (.int .u8 2))), (2, (.c (.int .u8 4)))], none⟩,
    ⟨(some 36), .build [.sl .ex [], .sl .ex []] [(0, 1, (.t 34)), (1, 1, (.t 35))], none⟩,
    ⟨(some 37), .call F_lattice_Check [(.t 36)], none⟩,
    ⟨(some 33), .mov (.t 37), none⟩,
    ⟨(some 38), .extr (.t 33) 0, none⟩,
    ⟨(some 39), .extr (.t 33) 1, none⟩,
    ⟨(some 7), .mov (.t 38), none⟩,
    ⟨(some 8), .mov (.t 39), none⟩])
  (.seq (.region false [⟨(some 41), .bsl 1 (.str []) 2 [(0, (.c (.str [97]))), (1, (.c (.str [98])))], none⟩,
    ⟨(some 42), .bsl 1 (.str []) 2 [(0, (.c (.str [49, 48, 49]))), (1, (.c (.str [48, 49])))], none⟩,
    ⟨(some 43), .call F_lattice_Make [(.t 41), (.t 42)], none⟩,
    ⟨(some 40), .mov (.t 43), none⟩,
    ⟨(some 44), .extr (.t 40) 0, none⟩,
    ⟨(some 45), .extr (.t 40) 1, none⟩,
    ⟨(some 46), .extr (.t 40) 2, none⟩,
    ⟨(some 9), .alloc [.sl .ex [], .sl .ex []], none⟩,
    ⟨none, .st 2 (.t 9) (.t 44), none⟩,
    ⟨(some 10), .mov (.t 45), none⟩,
    ⟨(some 11), .mov (.t 46), none⟩])
  (.seq (.region false [⟨(some 48), .bsl 1 (.str []) 2 [(0, (.c (.str [97]))), (1, (.c (.str [98])))], none⟩,
    ⟨(some 49), .bsl 1 (.str []) 2 [(0, (.c (.str [49, 49]))), (1, (.c (.str [49, 49])))], none⟩,
    ⟨(some 50), .call F_lattice_Make [(.t 48), (.t 49)], none⟩,
    ⟨(some 47), .mov (.t 50), none⟩,
    ⟨(some 51), .extr (.t 47) 0, none⟩,
    ⟨(some 52), .extr (.t 47) 1, none⟩,
    ⟨(some 53), .extr (.t 47) 2, none⟩,
    ⟨(some 12), .alloc [.sl .ex [], .sl .ex []], none⟩,
    ⟨none, .st 2 (.t 12) (.t 51), none⟩,
    ⟨(some 13), .mov (.t 52), none⟩,
    ⟨(some 14), .mov (.t 53), none⟩])
  (.seq (.region false [⟨(some 55), .bsl 1 (.str []) 4 [(0, (.c (.str [108, 111, 119]))), (1, (.c (.str [97, 110, 110]))), (2, (.c (.str [98, 111, 98]))), (3, (.c (.str [116, 111, 112])))], none⟩,
    ⟨(some 56), .bsl 1 (.str []) 4 [(0, (.c (.str [49, 49, 49, 49]))), (1, (.c (.str [48, 49, 48, 49]))), (2, (.c (.str [48, 48, 49, 49]))), (3, (.c (.str [48, 48, 48, 49])))], none⟩,
    ⟨(some 57), .call F_lattice_Make [(.t 55), (.t 56)], none⟩,
    ⟨(some 54), .mov (.t 57), none⟩,
    ⟨(some 58), .extr (.t 54) 0, none⟩,
    ⟨(some 59), .extr (.t 54) 1, none⟩,
    ⟨(some 60), .extr (.t 54) 2, none⟩,
    ⟨(some 15), .alloc [.sl .ex [], .sl .ex []], none⟩,
    ⟨none, .st 2 (.t 15) (.t 58), none⟩,
    ⟨(some 16), .mov (.t 59), none⟩,
    ⟨(some 17), .mov (.t 60), none⟩])
  (.seq (.region true [⟨(some 61), .mov (.t 2), none⟩,
    ⟨(some 62), .bin .eql (.t 61) (.c (.int .i64 0)), none⟩,
    ⟨(some 63), .mov (.t 62), none⟩,
    ⟨(some 64), .mov (.t 4), some (63, true)⟩,
    ⟨(some 65), .bin .eql (.t 64) (.c (.int .i64 0)), some (63, true)⟩,
    ⟨(some 66), .pick (.t 63) (.t 65) (.c (.bool false)), none⟩,
    ⟨(some 67), .mov (.t 66), none⟩,
    ⟨(some 68), .mov (.t 6), some (67, true)⟩,
    ⟨(some 69), .bin .eql (.t 68) (.c (.int .i64 0)), some (67, true)⟩,
    ⟨(some 70), .pick (.t 67) (.t 69) (.c (.bool false)), none⟩,
    ⟨(some 71), .mov (.t 70), none⟩,
    ⟨(some 72), .mov (.t 8), some (71, true)⟩,
    ⟨(some 73), .bin .eql (.t 72) (.c (.int .i64 4)), some (71, true)⟩,
    ⟨(some 74), .pick (.t 71) (.t 73) (.c (.bool false)), none⟩,
    ⟨(some 75), .mov (.t 74), none⟩,
    ⟨(some 76), .mov (.t 11), some (75, true)⟩,
    ⟨(some 77), .bin .eql (.t 76) (.c (.int .i64 6)), some (75, true)⟩,
    ⟨(some 78), .pick (.t 75) (.t 77) (.c (.bool false)), none⟩,
    ⟨(some 79), .mov (.t 78), none⟩,
    ⟨(some 80), .mov (.t 14), some (79, true)⟩,
    ⟨(some 81), .bin .eql (.t 80) (.c (.int .i64 6)), some (79, true)⟩,
    ⟨(some 82), .pick (.t 79) (.t 81) (.c (.bool false)), none⟩,
    ⟨(some 83), .mov (.t 82), none⟩,
    ⟨(some 84), .mov (.t 17), some (83, true)⟩,
    ⟨(some 85), .bin .eql (.t 84) (.c (.int .i64 0)), some (83, true)⟩,
    ⟨(some 86), .pick (.t 83) (.t 85) (.c (.bool false)), none⟩,
    ⟨(some 87), .mov (.t 86), none⟩,
    ⟨(some 88), .mov (.t 1), some (87, true)⟩,
    ⟨(some 89), .not (.t 88), some (87, true)⟩,
    ⟨(some 90), .pick (.t 87) (.t 89) (.c (.bool false)), none⟩,
    ⟨(some 91), .mov (.t 90), none⟩,
    ⟨(some 92), .mov (.t 3), some (91, true)⟩,
    ⟨(some 93), .bin .eql (.t 92) (.c (.int .i64 0)), some (91, true)⟩,
    ⟨(some 94), .pick (.t 91) (.t 93) (.c (.bool false)), none⟩,
    ⟨(some 95), .mov (.t 94), none⟩,
    ⟨(some 96), .mov (.t 5), some (95, true)⟩,
    ⟨(some 97), .bin .eql (.t 96) (.c (.int .i64 3)), some (95, true)⟩,
    ⟨(some 98), .pick (.t 95) (.t 97) (.c (.bool false)), none⟩,
    ⟨(some 99), .mov (.t 98), none⟩,
    ⟨(some 100), .mov (.t 7), some (99, true)⟩,
    ⟨(some 101), .bin .eql (.t 100) (.c (.int .i64 1)), some (99, true)⟩,
    ⟨(some 102), .pick (.t 99) (.t 101) (.c (.bool false)), none⟩,
    ⟨(some 103), .mov (.t 102), none⟩,
    ⟨(some 104), .mov (.t 10), some (103, true)⟩,
    ⟨(some 105), .bin .eql (.t 104) (.c (.int .i64 0)), some (103, true)⟩,
    ⟨(some 106), .pick (.t 103) (.t 105) (.c (.bool false)), none⟩,
    ⟨(some 107), .mov (.t 106), none⟩,
    ⟨(some 108), .mov (.t 13), some (107, true)⟩,
    ⟨(some 109), .bin .eql (.t 108) (.c (.int .i64 0)), some (107, true)⟩,
    ⟨(some 110), .pick (.t 107) (.t 109) (.c (.bool false)), none⟩,
    ⟨(some 111), .mov (.t 110), none⟩,
    ⟨(some 112), .mov (.t 16), some (111, true)⟩,
    ⟨(some 113), .bin .eql (.t 112) (.c (.int .i64 0)), some (111, true)⟩,
    ⟨(some 114), .pick (.t 111) (.t 113) (.c (.bool false)), none⟩,
    ⟨(some 115), .mov (.t 114), none⟩,
    ⟨(some 116), .ld (some 2) (.t 15), some (115, true)⟩,
    ⟨(some 117), .call F_law03_Diamond [], some (115, true)⟩,
    ⟨(some 118), .call F_ref03_Same [(.t 116), (.t 117)], some (115, true)⟩,
    ⟨(some 119), .pick (.t 115) (.t 118) (.c (.bool false)), none⟩,
    ⟨(some 120), .mov (.t 119), none⟩,
    ⟨(some 121), .call F_law03_awake [], some (120, true)⟩,
    ⟨(some 122), .pick (.t 120) (.t 121) (.c (.bool false)), none⟩,
    ⟨(some 0), .mov (.t 122), none⟩])
  (.ret))))))))),
  [.tmp 0]⟩

/- law03_LatticeTexts -/
def A_law03_LatticeTexts : AFun := ⟨109,
  .seq (.region false [⟨(some 2), .box (.t 0), none⟩,
    ⟨(some 4), .mov (.c (.bool false)), none⟩])
  (.seq (.seq (.region false [⟨(some 20), .ld (some 2) (.t 2), none⟩,
    ⟨(some 21), .call F_law03_Far [(.t 20)], none⟩,
    ⟨(some 22), .mov (.t 21), none⟩,
    ⟨(some 23), .mov (.t 1), some (22, false)⟩,
    ⟨(some 24), .lenS (.t 23), some (22, false)⟩,
    ⟨(some 25), .bin .gtr (.t 24) (.c (.int .i64 400)), some (22, false)⟩,
    ⟨(some 26), .pick (.t 22) (.c (.bool true)) (.t 25), none⟩])
  (.cond (.t 26)
   (.seq (.region false [⟨(some 27), .call F_law03_awake [], none⟩,
     ⟨(some 4), .mov (.t 27), none⟩])
   (.ret))
   (.skip)))
  (.seq (.region false [⟨(some 29), .ld (some 2) (.t 2), none⟩,
    ⟨(some 30), .call F_lattice_Print [(.t 29)], none⟩,
    ⟨(some 28), .mov (.t 30), none⟩,
    ⟨(some 31), .extr (.t 28) 0, none⟩,
    ⟨(some 32), .extr (.t 28) 1, none⟩,
    ⟨(some 5), .mov (.t 31), none⟩,
    ⟨(some 6), .mov (.t 32), none⟩])
  (.seq (.region false [⟨(some 34), .ld (some 2) (.t 2), none⟩,
    ⟨(some 35), .call F_ref03_Print [(.t 34)], none⟩,
    ⟨(some 33), .mov (.t 35), none⟩,
    ⟨(some 36), .extr (.t 33) 0, none⟩,
    ⟨(some 37), .extr (.t 33) 1, none⟩,
    ⟨(some 7), .mov (.t 36), none⟩,
    ⟨(some 8), .mov (.t 37), none⟩])
  (.seq (.region false [⟨(some 39), .mov (.t 1), none⟩,
    ⟨(some 40), .call F_lattice_Parse [(.t 39)], none⟩,
    ⟨(some 38), .mov (.t 40), none⟩,
    ⟨(some 41), .extr (.t 38) 0, none⟩,
    ⟨(some 42), .extr (.t 38) 1, none⟩,
    ⟨(some 43), .extr (.t 38) 2, none⟩,
    ⟨(some 9), .alloc [.sl .ex [], .sl .ex []], none⟩,
    ⟨none, .st 2 (.t 9) (.t 41), none⟩,
    ⟨(some 10), .mov (.t 42), none⟩,
    ⟨(some 11), .mov (.t 43), none⟩])
  (.seq (.region false [⟨(some 45), .mov (.t 1), none⟩,
    ⟨(some 46), .call F_ref03_Parse [(.t 45)], none⟩,
    ⟨(some 44), .mov (.t 46), none⟩,
    ⟨(some 47), .extr (.t 44) 0, none⟩,
    ⟨(some 48), .extr (.t 44) 1, none⟩,
    ⟨(some 49), .extr (.t 44) 2, none⟩,
    ⟨(some 12), .alloc [.sl .ex [], .sl .ex []], none⟩,
    ⟨none, .st 2 (.t 12) (.t 47), none⟩,
    ⟨(some 13), .mov (.t 48), none⟩,
    ⟨(some 14), .mov (.t 49), none⟩])
  (.seq (.seq (.region false [⟨(some 50), .mov (.t 5), none⟩,
    ⟨(some 51), .mov (.t 7), none⟩,
    ⟨(some 52), .bin .neq (.t 50) (.t 51), none⟩,
    ⟨(some 53), .mov (.t 52), none⟩,
    ⟨(some 54), .mov (.t 6), some (53, false)⟩,
    ⟨(some 55), .mov (.t 8), some (53, false)⟩,
    ⟨(some 56), .bin .neq (.t 54) (.t 55), some (53, false)⟩,
    ⟨(some 57), .pick (.t 53) (.c (.bool true)) (.t 56), none⟩,
    ⟨(some 58), .mov (.t 57), none⟩,
    ⟨(some 59), .ld (some 2) (.t 9), some (58, false)⟩,
    ⟨(some 60), .ld (some 2) (.t 12), some (58, false)⟩,
    ⟨(some 61), .call F_ref03_Same [(.t 59), (.t 60)], some (58, false)⟩,
    ⟨(some 62), .not (.t 61), some (58, false)⟩,
    ⟨(some 63), .pick (.t 58) (.c (.bool true)) (.t 62), none⟩,
    ⟨(some 64), .mov (.t 63), none⟩,
    ⟨(some 65), .mov (.t 10), some (64, false)⟩,
    ⟨(some 66), .mov (.t 13), some (64, false)⟩,
    ⟨(some 67), .bin .neq (.t 65) (.t 66), some (64, false)⟩,
    ⟨(some 68), .pick (.t 64) (.c (.bool true)) (.t 67), none⟩,
    ⟨(some 69), .mov (.t 68), none⟩,
    ⟨(some 70), .mov (.t 11), some (69, false)⟩,
    ⟨(some 71), .mov (.t 14), some (69, false)⟩,
    ⟨(some 72), .bin .neq (.t 70) (.t 71), some (69, false)⟩,
    ⟨(some 73), .pick (.t 69) (.c (.bool true)) (.t 72), none⟩])
  (.cond (.t 73)
   (.seq (.region false [⟨(some 4), .mov (.c (.bool false)), none⟩])
   (.ret))
   (.skip)))
  (.seq (.seq (.region false [⟨(some 74), .mov (.t 6), none⟩,
    ⟨(some 75), .bin .eql (.t 74) (.c (.int .i64 0)), none⟩])
  (.cond (.t 75)
   (.seq (.region false [⟨(some 77), .mov (.t 5), none⟩,
     ⟨(some 78), .call F_lattice_Parse [(.t 77)], none⟩,
     ⟨(some 76), .mov (.t 78), none⟩,
     ⟨(some 79), .extr (.t 76) 0, none⟩,
     ⟨(some 80), .extr (.t 76) 1, none⟩,
     ⟨(some 81), .extr (.t 76) 2, none⟩,
     ⟨(some 15), .alloc [.sl .ex [], .sl .ex []], none⟩,
     ⟨none, .st 2 (.t 15) (.t 79), none⟩,
     ⟨(some 16), .mov (.t 80), none⟩,
     ⟨(some 17), .mov (.t 81), none⟩])
   (.seq (.region false [⟨(some 82), .mov (.t 17), none⟩,
     ⟨(some 83), .bin .neq (.t 82) (.c (.int .i64 0)), none⟩,
     ⟨(some 84), .mov (.t 83), none⟩,
     ⟨(some 85), .mov (.t 16), some (84, false)⟩,
     ⟨(some 86), .bin .neq (.t 85) (.c (.int .i64 0)), some (84, false)⟩,
     ⟨(some 87), .pick (.t 84) (.c (.bool true)) (.t 86), none⟩,
     ⟨(some 88), .mov (.t 87), none⟩,
     ⟨(some 89), .ld (some 2) (.t 15), some (88, false)⟩,
     ⟨(some 90), .ld (some 2) (.t 2), some (88, false)⟩,
     ⟨(some 91), .call F_ref03_Same [(.t 89), (.t 90)], some (88, false)⟩,
     ⟨(some 92), .not (.t 91), some (88, false)⟩,
     ⟨(some 93), .pick (.t 88) (.c (.bool true)) (.t 92), none⟩])
   (.cond (.t 93)
    (.seq (.region false [⟨(some 4), .mov (.c (.bool false)), none⟩])
    (.ret))
    (.skip))))
   (.skip)))
  (.seq (.seq (.region false [⟨(some 94), .mov (.t 11), none⟩,
    ⟨(some 95), .bin .eql (.t 94) (.c (.int .i64 0)), none⟩])
  (.cond (.t 95)
   (.seq (.region false [⟨(some 97), .ld (some 2) (.t 9), none⟩,
     ⟨(some 98), .call F_lattice_Print [(.t 97)], none⟩,
     ⟨(some 96), .mov (.t 98), none⟩,
     ⟨(some 99), .extr (.t 96) 0, none⟩,
     ⟨(some 100), .extr (.t 96) 1, none⟩,
     ⟨(some 18), .mov (.t 99), none⟩,
     ⟨(some 19), .mov (.t 100), none⟩])
   (.seq (.region false [⟨(some 101), .mov (.t 19), none⟩,
     ⟨(some 102), .bin .neq (.t 101) (.c (.int .i64 0)), none⟩,
     ⟨(some 103), .mov (.t 102), none⟩,
     ⟨(some 104), .mov (.t 18), some (103, false)⟩,
     ⟨(some 105), .mov (.t 1), some (103, false)⟩,
     ⟨(some 106), .bin .neq (.t 104) (.t 105), some (103, false)⟩,
     ⟨(some 107), .pick (.t 103) (.c (.bool true)) (.t 106), none⟩])
   (.cond (.t 107)
    (.seq (.region false [⟨(some 4), .mov (.c (.bool false)), none⟩])
    (.ret))
    (.skip))))
   (.skip)))
  (.seq (.region false [⟨(some 108), .call F_law03_awake [], none⟩,
    ⟨(some 4), .mov (.t 108), none⟩])
  (.ret)))))))))),
  [.tmp 4]⟩

/- law03_Far -/
def A_law03_Far : AFun := ⟨12,
  .seq (.region false [⟨(some 1), .box (.t 0), none⟩,
    ⟨(some 2), .mov (.c (.bool false)), none⟩])
  (.seq (.region false [⟨(some 3), .fldA 0 (.t 1), none⟩,
    ⟨(some 4), .ld none (.t 3), none⟩,
    ⟨(some 5), .call F_law03_long [(.t 4)], none⟩,
    ⟨(some 6), .mov (.t 5), none⟩,
    ⟨(some 7), .fldA 1 (.t 1), some (6, false)⟩,
    ⟨(some 8), .ld none (.t 7), some (6, false)⟩,
    ⟨(some 9), .len (.t 8), some (6, false)⟩,
    ⟨(some 10), .bin .gtr (.t 9) (.c (.int .i64 12)), some (6, false)⟩,
    ⟨(some 11), .pick (.t 6) (.c (.bool true)) (.t 10), none⟩,
    ⟨(some 2), .mov (.t 11), none⟩])
  (.ret)),
  [.tmp 2]⟩

/- law03_awake -/
def A_law03_awake : AFun := ⟨81,
  .seq (.region false [⟨(some 0), .mov (.c (.bool false)), none⟩])
  (.seq (.region false [⟨(some 12), .call F_law03_Diamond [], none⟩,
    ⟨(some 13), .call F_lattice_Join [(.t 12), (.c (.int .i64 1)), (.c (.int .i64 2))], none⟩,
    ⟨(some 11), .mov (.t 13), none⟩,
    ⟨(some 14), .extr (.t 11) 0, none⟩,
    ⟨(some 15), .extr (.t 11) 1, none⟩,
    ⟨(some 1), .mov (.t 14), none⟩,
    ⟨(some 2), .mov (.t 15), none⟩])
  (.seq (.region false [⟨(some 17), .call F_law03_Diamond [], none⟩,
    ⟨(some 18), .call F_lattice_Meet [(.t 17), (.c (.int .i64 1)), (.c (.int .i64 2))], none⟩,
    ⟨(some 16), .mov (.t 18), none⟩,
    ⟨(some 19), .extr (.t 16) 0, none⟩,
    ⟨(some 20), .extr (.t 16) 1, none⟩,
    ⟨(some 3), .mov (.t 19), none⟩,
    ⟨(some 4), .mov (.t 20), none⟩])
  (.seq (.region false [⟨(some 22), .call F_law03_Diamond [], none⟩,
    ⟨(some 23), .call F_lattice_Covers [(.t 22)], none⟩,
    ⟨(some 21), .mov (.t 23), none⟩,
    ⟨(some 24), .extr (.t 21) 0, none⟩,
    ⟨(some 25), .extr (.t 21) 1, none⟩,
    ⟨(some 5), .mov (.t 24), none⟩,
    ⟨(some 6), .mov (.t 25), none⟩])
  (.seq (.region false [⟨(some 27), .call F_law03_Diamond [], none⟩,
    ⟨(some 28), .call F_lattice_Leq [(.t 27), (.c (.int .i64 0)), (.c (.int .i64 2))], none⟩,
    ⟨(some 26), .mov (.t 28), none⟩,
    ⟨(some 29), .extr (.t 26) 0, none⟩,
    ⟨(some 30), .extr (.t 26) 1, none⟩,
    ⟨(some 7), .mov (.t 29), none⟩,
    ⟨(some 8), .mov (.t 30), none⟩])
  (.seq (.region false [⟨(some 32), .call F_law03_Diamond [], none⟩,
    ⟨(some 33), .call F_lattice_Print [(.t 32)], none⟩,
    ⟨(some 31), .mov (.t 33), none⟩,
    ⟨(some 34), .extr (.t 31) 0, none⟩,
    ⟨(some 35), .extr (.t 31) 1, none⟩,
    ⟨(some 9), .mov (.t 34), none⟩,
    ⟨(some 10), .mov (.t 35), none⟩])
  (.seq (.region false [⟨(some 36), .mov (.t 2), none⟩,
    ⟨(some 37), .bin .eql (.t 36) (.c (.int .i64 0)), none⟩,
    ⟨(some 38), .mov (.t 37), none⟩,
    ⟨(some 39), .mov (.t 4), some (38, true)⟩,
    ⟨(some 40), .bin .eql (.t 39) (.c (.int .i64 0)), some (38, true)⟩,
    ⟨(some 41), .pick (.t 38) (.t 40) (.c (.bool false)), none⟩,
    ⟨(some 42), .mov (.t 41), none⟩,
    ⟨(some 43), .mov (.t 6), some (42, true)⟩,
    ⟨(some 44), .bin .eql (.t 43) (.c (.int .i64 0)), some (42, true)⟩,
    ⟨(some 45), .pick (.t 42) (.t 44) (.c (.bool false)), none⟩,
    ⟨(some 46), .mov (.t 45), none⟩,
    ⟨(some 47), .mov (.t 8), some (46, true)⟩,
    ⟨(some 48), .bin .eql (.t 47) (.c (.int .i64 0)), some (46, true)⟩,
    ⟨(some 49), .pick (.t 46) (.t 48) (.c (.bool false)), none⟩,
    ⟨(some 50), .mov (.t 49), none⟩,
    ⟨(some 51), .mov (.t 10), some (50, true)⟩,
    ⟨(some 52), .bin .eql (.t 51) (.c (.int .i64 0)), some (50, true)⟩,
    ⟨(some 53), .pick (.t 50) (.t 52) (.c (.bool false)), none⟩,
    ⟨(some 54), .mov (.t 53), none⟩,
    ⟨(some 55), .mov (.t 1), some (54, true)⟩,
    ⟨(some 56), .bin .eql (.t 55) (.c (.int .i64 3)), some (54, true)⟩,
    ⟨(some 57), .pick (.t 54) (.t 56) (.c (.bool false)), none⟩,
    ⟨(some 58), .mov (.t 57), none⟩,
    ⟨(some 59), .mov (.t 3), some (58, true)⟩,
    ⟨(some 60), .bin .eql (.t 59) (.c (.int .i64 0)), some (58, true)⟩,
    ⟨(some 61), .pick (.t 58) (.t 60) (.c (.bool false)), none⟩,
    ⟨(some 62), .mov (.t 61), none⟩,
    ⟨(some 63), .mov (.t 5), some (62, true)⟩,
    ⟨(some 64), .len (.t 63), some (62, true)⟩,
    ⟨(some 65), .bin .eql (.t 64) (.c (.int .i64 4)), some (62, true)⟩,
    ⟨(some 66), .pick (.t 62) (.t 65) (.c (.bool false)), none⟩,
    ⟨(some 67), .mov (.t 66), none⟩,
    ⟨(some 68), .mov (.t 5), some (67, true)⟩,
    ⟨(some 69), .idxA 2 (.t 68) (.c (.int .i64 3)), some (67, true)⟩,
    ⟨(some 70), .ld (some 2) (.t 69), some (67, true)⟩,
    ⟨(some 71), .build [.int .i64 0, .int .i64 0] [(0, 1, (.c (.int .i64 2))), (1, 1, (.c (.int .i64 3)))], some (67, true)⟩,
    ⟨(some 72), .aeq false [0, 0] (.t 70) (.t 71), some (67, true)⟩,
    ⟨(some 73), .pick (.t 67) (.t 72) (.c (.bool false)), none⟩,
    ⟨(some 74), .mov (.t 73), none⟩,
    ⟨(some 75), .mov (.t 7), some (74, true)⟩,
    ⟨(some 76), .pick (.t 74) (.t 75) (.c (.bool false)), none⟩,
    ⟨(some 77), .mov (.t 76), none⟩,
    ⟨(some 78), .mov (.t 9), some (77, true)⟩,
    ⟨(some 79), .bin .eql (.t 78) (.c (.str [108, 111, 119, 32, 49, 49, 49, 49, 10, 97, 110, 110, 32, 48, 49, 48, 49, 10, 98, 111, 98, 32, 48, 48, 49, 49, 10, 116, 111, 112, 32, 48, 48, 48, 49, 10])), some (77, true)⟩,
    ⟨(some 80), .pick (.t 77) (.t 79) (.c (.bool false)), none⟩,
    ⟨(some 0), .mov (.t 80), none⟩])
  (.ret))))))),
  [.tmp 0]⟩

/- lattice_Check -/
def A_lattice_CheckL1 : ACode :=
  .seq (.region false [⟨(some 60), .bin .lss (.t 59) (.t 58), none⟩])
  (.seq (.cond (.t 60)
   (.skip)
   (.exit 2))
  (.seq (.block 3 (.seq (.region false [⟨(some 61), .mov (.t 59), none⟩,
    ⟨(some 62), .idxA 1 (.t 57) (.t 59), none⟩,
    ⟨(some 63), .ld none (.t 62), none⟩,
    ⟨(some 10), .mov (.t 61), none⟩,
    ⟨(some 11), .mov (.t 63), none⟩])
  (.seq (.block 4 (.seq (.region false [⟨(some 65), .mov (.t 9), none⟩,
    ⟨(some 66), .mov (.t 10), none⟩,
    ⟨(some 67), .bin .shr (.t 65) (.t 66), none⟩,
    ⟨(some 68), .bin .and (.t 67) (.c (.int .u8 1)), none⟩,
    ⟨(some 69), .bin .eql (.t 68) (.c (.int .u8 0)), none⟩,
    ⟨(some 64), .mov (.t 69), none⟩])
  (.cond (.t 64)
   (.skip)
   (.seq (.seq (.region false [⟨(some 71), .mov (.t 10), none⟩,
     ⟨(some 72), .mov (.t 8), none⟩,
     ⟨(some 73), .bin .neq (.t 71) (.t 72), none⟩,
     ⟨(some 74), .mov (.t 73), none⟩,
     ⟨(some 75), .mov (.t 11), some (74, true)⟩,
     ⟨(some 76), .mov (.t 8), some (74, true)⟩,
     ⟨(some 77), .bin .shr (.t 75) (.t 76), some (74, true)⟩,
     ⟨(some 78), .bin .and (.t 77) (.c (.int .u8 1)), some (74, true)⟩,
     ⟨(some 79), .bin .eql (.t 78) (.c (.int .u8 1)), some (74, true)⟩,
     ⟨(some 80), .pick (.t 74) (.t 79) (.c (.bool false)), none⟩,
     ⟨(some 70), .mov (.t 80), none⟩])
   (.cond (.t 70)
    (.skip)
    (.region false [⟨(some 81), .mov (.t 11), none⟩,
      ⟨(some 82), .mov (.t 7), none⟩,
      ⟨(some 83), .bin .and (.t 81) (.t 82), none⟩,
      ⟨(some 84), .mov (.t 9), none⟩,
      ⟨(some 85), .bin .andNot (.t 83) (.t 84), none⟩,
      ⟨(some 86), .bin .neq (.t 85) (.c (.int .u8 0)), none⟩,
      ⟨(some 70), .mov (.t 86), none⟩])))
   (.cond (.t 70)
    (.seq (.region false [⟨(some 87), .mov (.t 8), none⟩,
      ⟨(some 2), .mov (.t 87), none⟩,
      ⟨(some 3), .mov (.c (.int .i64 6)), none⟩])
    (.ret))
    (.skip))))))
  (.seq (.region false [⟨(some 88), .mov (.t 10), none⟩,
    ⟨(some 89), .mov (.t 6), none⟩,
    ⟨(some 90), .bin .sub (.t 89) (.c (.int .i64 1)), none⟩,
    ⟨(some 91), .bin .eql (.t 88) (.t 90), none⟩])
  (.cond (.t 91)
   (.exit 1)
   (.skip))))))
  (.region false [⟨(some 92), .bin .add (.t 59) (.c (.int .i64 1)), none⟩,
    ⟨(some 59), .mov (.t 92), none⟩])))
def A_lattice_CheckL0 : ACode :=
  .seq (.region false [⟨(some 40), .bin .lss (.t 39) (.t 38), none⟩])
  (.seq (.cond (.t 40)
   (.skip)
   (.exit 0))
  (.seq (.block 1 (.seq (.region false [⟨(some 41), .mov (.t 39), none⟩,
    ⟨(some 42), .idxA 1 (.t 37) (.t 39), none⟩,
    ⟨(some 43), .ld none (.t 42), none⟩,
    ⟨(some 8), .mov (.t 41), none⟩,
    ⟨(some 9), .mov (.t 43), none⟩])
  (.seq (.seq (.region false [⟨(some 44), .mov (.t 9), none⟩,
    ⟨(some 45), .call F_bits_Len8 [(.t 44)], none⟩,
    ⟨(some 46), .mov (.t 6), none⟩,
    ⟨(some 47), .bin .gtr (.t 45) (.t 46), none⟩,
    ⟨(some 48), .mov (.t 47), none⟩,
    ⟨(some 49), .mov (.t 9), some (48, false)⟩,
    ⟨(some 50), .mov (.t 8), some (48, false)⟩,
    ⟨(some 51), .bin .shr (.t 49) (.t 50), some (48, false)⟩,
    ⟨(some 52), .bin .and (.t 51) (.c (.int .u8 1)), some (48, false)⟩,
    ⟨(some 53), .bin .eql (.t 52) (.c (.int .u8 0)), some (48, false)⟩,
    ⟨(some 54), .pick (.t 48) (.c (.bool true)) (.t 53), none⟩])
  (.cond (.t 54)
   (.seq (.region false [⟨(some 55), .mov (.t 8), none⟩,
     ⟨(some 2), .mov (.t 55), none⟩,
     ⟨(some 3), .mov (.c (.int .i64 6)), none⟩])
   (.ret))
   (.skip)))
  (.seq (.region false [⟨(some 56), .fldA 1 (.t 1), none⟩,
    ⟨(some 57), .ld none (.t 56), none⟩,
    ⟨(some 58), .len (.t 57), none⟩,
    ⟨(some 59), .mov (.c (.int .i64 0)), none⟩])
  (.block 2 (.loop A_lattice_CheckL1))))))
  (.region false [⟨(some 93), .bin .add (.t 39) (.c (.int .i64 1)), none⟩,
    ⟨(some 39), .mov (.t 93), none⟩])))
def A_lattice_CheckL3 : ACode :=
  .seq (.region false [⟨(some 101), .bin .lss (.t 100) (.t 99), none⟩])
  (.seq (.cond (.t 101)
   (.skip)
   (.exit 7))
  (.seq (.block 8 (.seq (.region false [⟨(some 102), .mov (.t 100), none⟩,
    ⟨(some 14), .mov (.t 102), none⟩])
  (.seq (.region false [⟨(some 103), .fldA 1 (.t 12), none⟩,
    ⟨(some 104), .ld (some 8) (.t 103), none⟩,
    ⟨(some 105), .mov (.t 6), none⟩,
    ⟨(some 106), .mov (.t 13), none⟩,
    ⟨(some 107), .mov (.t 14), none⟩,
    ⟨(some 108), .call F_lattice_bound_lattice_ups [(.t 104), (.t 105), (.t 106), (.t 107)], none⟩,
    ⟨(some 109), .bin .lss (.t 108) (.c (.int .i64 0)), none⟩,
    ⟨(some 110), .mov (.t 109), none⟩,
    ⟨(some 111), .fldA 9 (.t 12), some (110, false)⟩,
    ⟨(some 112), .ld (some 8) (.t 111), some (110, false)⟩,
    ⟨(some 113), .mov (.t 6), some (110, false)⟩,
    ⟨(some 114), .mov (.t 13), some (110, false)⟩,
    ⟨(some 115), .mov (.t 14), some (110, false)⟩,
    ⟨(some 116), .call F_lattice_bound_lattice_downs [(.t 112), (.t 113), (.t 114), (.t 115)], some (110, false)⟩,
    ⟨(some 117), .bin .lss (.t 116) (.c (.int .i64 0)), some (110, false)⟩,
    ⟨(some 118), .pick (.t 110) (.c (.bool true)) (.t 117), none⟩])
  (.cond (.t 118)
   (.seq (.region false [⟨(some 119), .mov (.t 13), none⟩,
     ⟨(some 2), .mov (.t 119), none⟩,
     ⟨(some 3), .mov (.c (.int .i64 4)), none⟩])
   (.ret))
   (.skip)))))
  (.region false [⟨(some 120), .bin .add (.t 100) (.c (.int .i64 1)), none⟩,
    ⟨(some 100), .mov (.t 120), none⟩])))
def A_lattice_CheckL2 : ACode :=
  .seq (.region false [⟨(some 97), .bin .lss (.t 96) (.t 95), none⟩])
  (.seq (.cond (.t 97)
   (.skip)
   (.exit 5))
  (.seq (.block 6 (.seq (.region false [⟨(some 98), .mov (.t 96), none⟩,
    ⟨(some 13), .mov (.t 98), none⟩])
  (.seq (.region false [⟨(some 99), .mov (.t 6), none⟩,
    ⟨(some 100), .mov (.c (.int .i64 0)), none⟩])
  (.block 7 (.loop A_lattice_CheckL3)))))
  (.region false [⟨(some 121), .bin .add (.t 96) (.c (.int .i64 1)), none⟩,
    ⟨(some 96), .mov (.t 121), none⟩])))
def A_lattice_Check : AFun := ⟨122,
  .seq (.region false [⟨(some 1), .box (.t 0), none⟩,
    ⟨(some 2), .mov (.c (.int .i64 0)), none⟩,
    ⟨(some 3), .mov (.c (.int .i64 0)), none⟩])
  (.scope (.seq (.seq (.region false [⟨(some 16), .fldA 0 (.t 1), none⟩,
     ⟨(some 17), .ld none (.t 16), none⟩,
     ⟨(some 18), .call F_lattice_named [(.t 17)], none⟩,
     ⟨(some 15), .mov (.t 18), none⟩,
     ⟨(some 19), .extr (.t 15) 0, none⟩,
     ⟨(some 20), .extr (.t 15) 1, none⟩,
     ⟨(some 4), .mov (.t 19), none⟩,
     ⟨(some 5), .mov (.t 20), none⟩])
   (.seq (.region false [⟨(some 21), .mov (.t 5), none⟩,
     ⟨(some 22), .bin .neq (.t 21) (.c (.int .i64 0)), none⟩])
   (.cond (.t 22)
    (.seq (.region false [⟨(some 23), .mov (.t 4), none⟩,
      ⟨(some 24), .mov (.t 5), none⟩,
      ⟨(some 2), .mov (.t 23), none⟩,
      ⟨(some 3), .mov (.t 24), none⟩])
    (.ret))
    (.skip))))
   (.seq (.region false [⟨(some 25), .fldA 0 (.t 1), none⟩,
     ⟨(some 26), .ld none (.t 25), none⟩,
     ⟨(some 27), .len (.t 26), none⟩,
     ⟨(some 6), .mov (.t 27), none⟩])
   (.seq (.seq (.region false [⟨(some 28), .fldA 1 (.t 1), none⟩,
     ⟨(some 29), .ld none (.t 28), none⟩,
     ⟨(some 30), .len (.t 29), none⟩,
     ⟨(some 31), .mov (.t 6), none⟩,
     ⟨(some 32), .bin .neq (.t 30) (.t 31), none⟩])
   (.cond (.t 32)
    (.seq (.region false [⟨(some 2), .mov (.c (.int .i64 (-1))), none⟩,
      ⟨(some 3), .mov (.c (.int .i64 6)), none⟩])
    (.ret))
    (.skip)))
   (.seq (.region false [⟨(some 33), .mov (.t 6), none⟩,
     ⟨(some 34), .bin .shl (.c (.int .u8 1)) (.t 33), none⟩,
     ⟨(some 35), .bin .sub (.t 34) (.c (.int .u8 1)), none⟩,
     ⟨(some 7), .mov (.t 35), none⟩])
   (.seq (.label)
   (.seq (.seq (.region false [⟨(some 36), .fldA 1 (.t 1), none⟩,
     ⟨(some 37), .ld none (.t 36), none⟩,
     ⟨(some 38), .len (.t 37), none⟩,
     ⟨(some 39), .mov (.c (.int .i64 0)), none⟩])
   (.block 0 (.loop A_lattice_CheckL0)))
   (.seq (.region false [⟨(some 94), .call F_lattice_of [(.t 1)], none⟩,
     ⟨(some 12), .alloc [.int .i64 0, .int .u8 0, .int .u8 0, .int .u8 0, .int .u8 0, .int .u8 0, .int .u8 0, .int .u8 0, .int .u8 0, .int .u8 0, .int .u8 0, .int .u8 0, .int .u8 0, .int .u8 0, .int .u8 0, .int .u8 0, .int .u8 0], none⟩,
     ⟨none, .st 17 (.t 12) (.t 94), none⟩])
   (.seq (.seq (.region false [⟨(some 95), .mov (.t 6), none⟩,
     ⟨(some 96), .mov (.c (.int .i64 0)), none⟩])
   (.block 5 (.loop A_lattice_CheckL2)))
   (.seq (.region false [⟨(some 2), .mov (.c (.int .i64 0)), none⟩,
     ⟨(some 3), .mov (.c (.int .i64 0)), none⟩])
   (.ret))))))))))),
  [.tmp 2, .tmp 3]⟩

/- lattice_Join -/
def A_lattice_Join : AFun := ⟨25,
  .seq (.region false [⟨(some 3), .box (.t 0), none⟩,
    ⟨(some 6), .mov (.c (.int .i64 0)), none⟩,
    ⟨(some 7), .mov (.c (.int .i64 0)), none⟩])
  (.seq (.seq (.region false [⟨(some 10), .mov (.t 1), none⟩,
    ⟨(some 11), .mov (.t 2), none⟩,
    ⟨(some 12), .bsl 1 (.int .i64 0) 2 [(0, (.t 10)), (1, (.t 11))], none⟩,
    ⟨(some 13), .call F_lattice_asked [(.t 3), (.t 12)], none⟩,
    ⟨(some 8), .mov (.t 13), none⟩])
  (.seq (.region false [⟨(some 14), .mov (.t 8), none⟩,
    ⟨(some 15), .bin .neq (.t 14) (.c (.int .i64 0)), none⟩])
  (.cond (.t 15)
   (.seq (.region false [⟨(some 16), .mov (.t 8), none⟩,
     ⟨(some 6), .mov (.c (.int .i64 0)), none⟩,
     ⟨(some 7), .mov (.t 16), none⟩])
   (.ret))
   (.skip))))
  (.seq (.region false [⟨(some 17), .call F_lattice_of [(.t 3)], none⟩,
    ⟨(some 9), .alloc [.int .i64 0, .int .u8 0, .int .u8 0, .int .u8 0, .int .u8 0, .int .u8 0, .int .u8 0, .int .u8 0, .int .u8 0, .int .u8 0, .int .u8 0, .int .u8 0, .int .u8 0, .int .u8 0, .int .u8 0, .int .u8 0, .int .u8 0], none⟩,
    ⟨none, .st 17 (.t 9) (.t 17), none⟩])
  (.seq (.region false [⟨(some 18), .fldA 1 (.t 9), none⟩,
    ⟨(some 19), .ld (some 8) (.t 18), none⟩,
    ⟨(some 20), .fldA 0 (.t 9), none⟩,
    ⟨(some 21), .ld none (.t 20), none⟩,
    ⟨(some 22), .mov (.t 1), none⟩,
    ⟨(some 23), .mov (.t 2), none⟩,
    ⟨(some 24), .call F_lattice_bound_lattice_ups [(.t 19), (.t 21), (.t 22), (.t 23)], none⟩,
    ⟨(some 6), .mov (.t 24), none⟩,
    ⟨(some 7), .mov (.c (.int .i64 0)), none⟩])
  (.ret)))),
  [.tmp 6, .tmp 7]⟩

/- lattice_Meet -/
def A_lattice_Meet : AFun := ⟨25,
  .seq (.region false [⟨(some 3), .box (.t 0), none⟩,
    ⟨(some 6), .mov (.c (.int .i64 0)), none⟩,
    ⟨(some 7), .mov (.c (.int .i64 0)), none⟩])
  (.seq (.seq (.region false [⟨(some 10), .mov (.t 1), none⟩,
    ⟨(some 11), .mov (.t 2), none⟩,
    ⟨(some 12), .bsl 1 (.int .i64 0) 2 [(0, (.t 10)), (1, (.t 11))], none⟩,
    ⟨(some 13), .call F_lattice_asked [(.t 3), (.t 12)], none⟩,
    ⟨(some 8), .mov (.t 13), none⟩])
  (.seq (.region false [⟨(some 14), .mov (.t 8), none⟩,
    ⟨(some 15), .bin .neq (.t 14) (.c (.int .i64 0)), none⟩])
  (.cond (.t 15)
   (.seq (.region false [⟨(some 16), .mov (.t 8), none⟩,
     ⟨(some 6), .mov (.c (.int .i64 0)), none⟩,
     ⟨(some 7), .mov (.t 16), none⟩])
   (.ret))
   (.skip))))
  (.seq (.region false [⟨(some 17), .call F_lattice_of [(.t 3)], none⟩,
    ⟨(some 9), .alloc [.int .i64 0, .int .u8 0, .int .u8 0, .int .u8 0, .int .u8 0, .int .u8 0, .int .u8 0, .int .u8 0, .int .u8 0, .int .u8 0, .int .u8 0, .int .u8 0, .int .u8 0, .int .u8 0, .int .u8 0, .int .u8 0, .int .u8 0], none⟩,
    ⟨none, .st 17 (.t 9) (.t 17), none⟩])
  (.seq (.region false [⟨(some 18), .fldA 9 (.t 9), none⟩,
    ⟨(some 19), .ld (some 8) (.t 18), none⟩,
    ⟨(some 20), .fldA 0 (.t 9), none⟩,
    ⟨(some 21), .ld none (.t 20), none⟩,
    ⟨(some 22), .mov (.t 1), none⟩,
    ⟨(some 23), .mov (.t 2), none⟩,
    ⟨(some 24), .call F_lattice_bound_lattice_downs [(.t 19), (.t 21), (.t 22), (.t 23)], none⟩,
    ⟨(some 6), .mov (.t 24), none⟩,
    ⟨(some 7), .mov (.c (.int .i64 0)), none⟩])
  (.ret)))),
  [.tmp 6, .tmp 7]⟩

/- law03_below -/
def A_law03_below : AFun := ⟨21,
  .seq (.region false [⟨(some 3), .box (.t 0), none⟩,
    ⟨(some 6), .mov (.c (.bool false)), none⟩])
  (.seq (.region false [⟨(some 10), .ld (some 2) (.t 3), none⟩,
    ⟨(some 11), .mov (.t 1), none⟩,
    ⟨(some 12), .mov (.t 2), none⟩,
    ⟨(some 13), .call F_lattice_Leq [(.t 10), (.t 11), (.t 12)], none⟩,
    ⟨(some 9), .mov (.t 13), none⟩,
    ⟨(some 14), .extr (.t 9) 0, none⟩,
    ⟨(some 15), .extr (.t 9) 1, none⟩,
    ⟨(some 7), .mov (.t 14), none⟩,
    ⟨(some 8), .mov (.t 15), none⟩])
  (.seq (.region false [⟨(some 16), .mov (.t 7), none⟩,
    ⟨(some 17), .mov (.t 16), none⟩,
    ⟨(some 18), .mov (.t 8), some (17, true)⟩,
    ⟨(some 19), .bin .eql (.t 18) (.c (.int .i64 0)), some (17, true)⟩,
    ⟨(some 20), .pick (.t 17) (.t 19) (.c (.bool false)), none⟩,
    ⟨(some 6), .mov (.t 20), none⟩])
  (.ret))),
  [.tmp 6]⟩

/- lattice_Leq -/
def A_lattice_Leq : AFun := ⟨25,
  .seq (.region false [⟨(some 3), .box (.t 0), none⟩,
    ⟨(some 6), .mov (.c (.bool false)), none⟩,
    ⟨(some 7), .mov (.c (.int .i64 0)), none⟩])
  (.seq (.seq (.region false [⟨(some 9), .mov (.t 1), none⟩,
    ⟨(some 10), .mov (.t 2), none⟩,
    ⟨(some 11), .bsl 1 (.int .i64 0) 2 [(0, (.t 9)), (1, (.t 10))], none⟩,
    ⟨(some 12), .call F_lattice_asked [(.t 3), (.t 11)], none⟩,
    ⟨(some 8), .mov (.t 12), none⟩])
  (.seq (.region false [⟨(some 13), .mov (.t 8), none⟩,
    ⟨(some 14), .bin .neq (.t 13) (.c (.int .i64 0)), none⟩])
  (.cond (.t 14)
   (.seq (.region false [⟨(some 15), .mov (.t 8), none⟩,
     ⟨(some 6), .mov (.c (.bool false)), none⟩,
     ⟨(some 7), .mov (.t 15), none⟩])
   (.ret))
   (.skip))))
  (.seq (.region false [⟨(some 16), .fldA 1 (.t 3), none⟩,
    ⟨(some 17), .ld none (.t 16), none⟩,
    ⟨(some 18), .mov (.t 1), none⟩,
    ⟨(some 19), .idxA 1 (.t 17) (.t 18), none⟩,
    ⟨(some 20), .ld none (.t 19), none⟩,
    ⟨(some 21), .mov (.t 2), none⟩,
    ⟨(some 22), .bin .shr (.t 20) (.t 21), none⟩,
    ⟨(some 23), .bin .and (.t 22) (.c (.int .u8 1)), none⟩,
    ⟨(some 24), .bin .eql (.t 23) (.c (.int .u8 1)), none⟩,
    ⟨(some 6), .mov (.t 24), none⟩,
    ⟨(some 7), .mov (.c (.int .i64 0)), none⟩])
  (.ret))),
  [.tmp 6, .tmp 7]⟩

/- ref03_Leq -/
def A_ref03_Leq : AFun := ⟨22,
  .seq (.region false [⟨(some 3), .box (.t 0), none⟩,
    ⟨(some 6), .mov (.c (.bool false)), none⟩,
    ⟨(some 7), .mov (.c (.int .i64 0)), none⟩])
  (.seq (.region false [⟨(some 9), .ld (some 2) (.t 3), none⟩,
    ⟨(some 10), .mov (.t 1), none⟩,
    ⟨(some 11), .mov (.t 2), none⟩,
    ⟨(some 12), .call F_ref03_asked [(.t 9), (.t 10), (.t 11)], none⟩,
    ⟨(some 8), .mov (.t 12), none⟩])
  (.seq (.region false [⟨(some 13), .mov (.t 8), none⟩,
    ⟨(some 14), .bin .eql (.t 13) (.c (.int .i64 0)), none⟩,
    ⟨(some 15), .mov (.t 14), none⟩,
    ⟨(some 16), .ld (some 2) (.t 3), some (15, true)⟩,
    ⟨(some 17), .mov (.t 1), some (15, true)⟩,
    ⟨(some 18), .mov (.t 2), some (15, true)⟩,
    ⟨(some 19), .call F_ref03_Below [(.t 16), (.t 17), (.t 18)], some (15, true)⟩,
    ⟨(some 20), .pick (.t 15) (.t 19) (.c (.bool false)), none⟩,
    ⟨(some 21), .mov (.t 8), none⟩,
    ⟨(some 6), .mov (.t 20), none⟩,
    ⟨(some 7), .mov (.t 21), none⟩])
  (.ret))),
  [.tmp 6, .tmp 7]⟩

/- ref03_Join -/
def A_ref03_Join : AFun := ⟨20,
  .seq (.region false [⟨(some 3), .box (.t 0), none⟩,
    ⟨(some 6), .mov (.c (.int .i64 0)), none⟩,
    ⟨(some 7), .mov (.c (.int .i64 0)), none⟩])
  (.seq (.region false [⟨(some 9), .ld (some 2) (.t 3), none⟩,
    ⟨(some 10), .mov (.t 1), none⟩,
    ⟨(some 11), .mov (.t 2), none⟩,
    ⟨(some 12), .call F_ref03_asked [(.t 9), (.t 10), (.t 11)], none⟩,
    ⟨(some 8), .mov (.t 12), none⟩])
  (.seq (.seq (.region false [⟨(some 13), .mov (.t 8), none⟩,
    ⟨(some 14), .bin .neq (.t 13) (.c (.int .i64 0)), none⟩])
  (.cond (.t 14)
   (.seq (.region false [⟨(some 15), .mov (.t 8), none⟩,
     ⟨(some 6), .mov (.c (.int .i64 0)), none⟩,
     ⟨(some 7), .mov (.t 15), none⟩])
   (.ret))
   (.skip)))
  (.seq (.region false [⟨(some 16), .ld (some 2) (.t 3), none⟩,
    ⟨(some 17), .mov (.t 1), none⟩,
    ⟨(some 18), .mov (.t 2), none⟩,
    ⟨(some 19), .call F_ref03_join [(.t 16), (.t 17), (.t 18)], none⟩,
    ⟨(some 6), .mov (.t 19), none⟩,
    ⟨(some 7), .mov (.c (.int .i64 0)), none⟩])
  (.ret)))),
  [.tmp 6, .tmp 7]⟩

/- ref03_Meet -/
def A_ref03_Meet : AFun := ⟨20,
  .seq (.region false [⟨(some 3), .box (.t 0), none⟩,
    ⟨(some 6), .mov (.c (.int .i64 0)), none⟩,
    ⟨(some 7), .mov (.c (.int .i64 0)), none⟩])
  (.seq (.region false [⟨(some 9), .ld (some 2) (.t 3), none⟩,
    ⟨(some 10), .mov (.t 1), none⟩,
    ⟨(some 11), .mov (.t 2), none⟩,
    ⟨(some 12), .call F_ref03_asked [(.t 9), (.t 10), (.t 11)], none⟩,
    ⟨(some 8), .mov (.t 12), none⟩])
  (.seq (.seq (.region false [⟨(some 13), .mov (.t 8), none⟩,
    ⟨(some 14), .bin .neq (.t 13) (.c (.int .i64 0)), none⟩])
  (.cond (.t 14)
   (.seq (.region false [⟨(some 15), .mov (.t 8), none⟩,
     ⟨(some 6), .mov (.c (.int .i64 0)), none⟩,
     ⟨(some 7), .mov (.t 15), none⟩])
   (.ret))
   (.skip)))
  (.seq (.region false [⟨(some 16), .ld (some 2) (.t 3), none⟩,
    ⟨(some 17), .mov (.t 1), none⟩,
    ⟨(some 18), .mov (.t 2), none⟩,
    ⟨(some 19), .call F_ref03_meet [(.t 16), (.t 17), (.t 18)], none⟩,
    ⟨(some 6), .mov (.t 19), none⟩,
    ⟨(some 7), .mov (.c (.int .i64 0)), none⟩])
  (.ret)))),
  [.tmp 6, .tmp 7]⟩

/- lattice_Bottom -/
def A_lattice_Bottom : AFun := ⟨16,
  .seq (.region false [⟨(some 1), .box (.t 0), none⟩,
    ⟨(some 2), .mov (.c (.int .i64 0)), none⟩,
    ⟨(some 3), .mov (.c (.int .i64 0)), none⟩])
  (.seq (.seq (.region false [⟨(some 6), .call F_lattice_asked [(.t 1), (.c (.sl .ex []))], none⟩,
    ⟨(some 4), .mov (.t 6), none⟩])
  (.seq (.region false [⟨(some 7), .mov (.t 4), none⟩,
    ⟨(some 8), .bin .neq (.t 7) (.c (.int .i64 0)), none⟩])
  (.cond (.t 8)
   (.seq (.region false [⟨(some 9), .mov (.t 4), none⟩,
     ⟨(some 2), .mov (.c (.int .i64 0)), none⟩,
     ⟨(some 3), .mov (.t 9), none⟩])
   (.ret))
   (.skip))))
  (.seq (.region false [⟨(some 10), .call F_lattice_of [(.t 1)], none⟩,
    ⟨(some 5), .alloc [.int .i64 0, .int .u8 0, .int .u8 0, .int .u8 0, .int .u8 0, .int .u8 0, .int .u8 0, .int .u8 0, .int .u8 0, .int .u8 0, .int .u8 0, .int .u8 0, .int .u8 0, .int .u8 0, .int .u8 0, .int .u8 0, .int .u8 0], none⟩,
    ⟨none, .st 17 (.t 5) (.t 10), none⟩])
  (.seq (.region false [⟨(some 11), .fldA 1 (.t 5), none⟩,
    ⟨(some 12), .ld (some 8) (.t 11), none⟩,
    ⟨(some 13), .fldA 0 (.t 5), none⟩,
    ⟨(some 14), .ld none (.t 13), none⟩,
    ⟨(some 15), .call F_lattice_end_lattice_ups [(.t 12), (.t 14)], none⟩,
    ⟨(some 2), .mov (.t 15), none⟩,
    ⟨(some 3), .mov (.c (.int .i64 0)), none⟩])
  (.ret)))),
  [.tmp 2, .tmp 3]⟩

/- ref03_Bottom -/
def A_ref03_BottomL0 : ACode :=
  .seq (.seq (.region false [⟨(some 15), .mov (.t 7), none⟩,
    ⟨(some 16), .fldA 0 (.t 1), none⟩,
    ⟨(some 17), .ld none (.t 16), none⟩,
    ⟨(some 18), .len (.t 17), none⟩,
    ⟨(some 19), .bin .lss (.t 15) (.t 18), none⟩])
  (.cond (.t 19)
   (.skip)
   (.exit 0)))
  (.seq (.block 1 (.region false [⟨(some 22), .mov (.t 5), none⟩,
    ⟨(some 23), .mov (.t 7), none⟩,
    ⟨(some 24), .mov (.t 6), none⟩,
    ⟨(some 25), .call F_ref03_nearest [(.t 22), (.t 23), (.t 24)], none⟩,
    ⟨(some 6), .mov (.t 25), none⟩]))
  (.region false [⟨(some 20), .mov (.t 7), none⟩,
    ⟨(some 21), .bin .add (.t 20) (.c (.int .i64 1)), none⟩,
    ⟨(some 7), .mov (.t 21), none⟩]))
def A_ref03_Bottom : AFun := ⟨27,
  .seq (.region false [⟨(some 1), .box (.t 0), none⟩,
    ⟨(some 2), .mov (.c (.int .i64 0)), none⟩,
    ⟨(some 3), .mov (.c (.int .i64 0)), none⟩])
  (.seq (.region false [⟨(some 8), .ld (some 2) (.t 1), none⟩,
    ⟨(some 9), .call F_ref03_asked [(.t 8), (.c (.int .i64 0)), (.c (.int .i64 0))], none⟩,
    ⟨(some 4), .mov (.t 9), none⟩])
  (.seq (.seq (.region false [⟨(some 10), .mov (.t 4), none⟩,
    ⟨(some 11), .bin .neq (.t 10) (.c (.int .i64 0)), none⟩])
  (.cond (.t 11)
   (.seq (.region false [⟨(some 12), .mov (.t 4), none⟩,
     ⟨(some 2), .mov (.c (.int .i64 0)), none⟩,
     ⟨(some 3), .mov (.t 12), none⟩])
   (.ret))
   (.skip)))
  (.seq (.region false [⟨(some 13), .ld (some 2) (.t 1), none⟩,
    ⟨(some 14), .call F_ref03_downs [(.t 13)], none⟩,
    ⟨(some 5), .mov (.t 14), none⟩])
  (.seq (.region false [⟨(some 6), .mov (.c (.int .i64 0)), none⟩])
  (.seq (.seq (.region false [⟨(some 7), .mov (.c (.int .i64 0)), none⟩])
  (.block 0 (.loop A_ref03_BottomL0)))
  (.seq (.region false [⟨(some 26), .mov (.t 6), none⟩,
    ⟨(some 2), .mov (.t 26), none⟩,
    ⟨(some 3), .mov (.c (.int .i64 0)), none⟩])
  (.ret))))))),
  [.tmp 2, .tmp 3]⟩

/- lattice_Top -/
def A_lattice_Top : AFun := ⟨16,
  .seq (.region false [⟨(some 1), .box (.t 0), none⟩,
    ⟨(some 2), .mov (.c (.int .i64 0)), none⟩,
    ⟨(some 3), .mov (.c (.int .i64 0)), none⟩])
  (.seq (.seq (.region false [⟨(some 6), .call F_lattice_asked [(.t 1), (.c (.sl .ex []))], none⟩,
    ⟨(some 4), .mov (.t 6), none⟩])
  (.seq (.region false [⟨(some 7), .mov (.t 4), none⟩,
    ⟨(some 8), .bin .neq (.t 7) (.c (.int .i64 0)), none⟩])
  (.cond (.t 8)
   (.seq (.region false [⟨(some 9), .mov (.t 4), none⟩,
     ⟨(some 2), .mov (.c (.int .i64 0)), none⟩,
     ⟨(some 3), .mov (.t 9), none⟩])
   (.ret))
   (.skip))))
  (.seq (.region false [⟨(some 10), .call F_lattice_of [(.t 1)], none⟩,
    ⟨(some 5), .alloc [.int .i64 0, .int .u8 0, .int .u8 0, .int .u8 0, .int .u8 0, .int .u8 0, .int .u8 0, .int .u8 0, .int .u8 0, .int .u8 0, .int .u8 0, .int .u8 0, .int .u8 0, .int .u8 0, .int .u8 0, .int .u8 0, .int .u8 0], none⟩,
    ⟨none, .st 17 (.t 5) (.t 10), none⟩])
  (.seq (.region false [⟨(some 11), .fldA 9 (.t 5), none⟩,
    ⟨(some 12), .ld (some 8) (.t 11), none⟩,
    ⟨(some 13), .fldA 0 (.t 5), none⟩,
    ⟨(some 14), .ld none (.t 13), none⟩,
    ⟨(some 15), .call F_lattice_end_lattice_downs [(.t 12), (.t 14)], none⟩,
    ⟨(some 2), .mov (.t 15), none⟩,
    ⟨(some 3), .mov (.c (.int .i64 0)), none⟩])
  (.ret)))),
  [.tmp 2, .tmp 3]⟩

/- ref03_Top -/
def A_ref03_TopL0 : ACode :=
  .seq (.seq (.region false [⟨(some 12), .mov (.t 6), none⟩,
    ⟨(some 13), .fldA 0 (.t 1), none⟩,
    ⟨(some 14), .ld none (.t 13), none⟩,
    ⟨(some 15), .len (.t 14), none⟩,
    ⟨(some 16), .bin .lss (.t 12) (.t 15), none⟩])
  (.cond (.t 16)
   (.skip)
   (.exit 0)))
  (.seq (.block 1 (.region false [⟨(some 19), .ld (some 2) (.t 1), none⟩,
    ⟨(some 20), .mov (.t 6), none⟩,
    ⟨(some 21), .mov (.t 5), none⟩,
    ⟨(some 22), .call F_ref03_join [(.t 19), (.t 20), (.t 21)], none⟩,
    ⟨(some 5), .mov (.t 22), none⟩]))
  (.region false [⟨(some 17), .mov (.t 6), none⟩,
    ⟨(some 18), .bin .add (.t 17) (.c (.int .i64 1)), none⟩,
    ⟨(some 6), .mov (.t 18), none⟩]))
def A_ref03_Top : AFun := ⟨24,
  .seq (.region false [⟨(some 1), .box (.t 0), none⟩,
    ⟨(some 2), .mov (.c (.int .i64 0)), none⟩,
    ⟨(some 3), .mov (.c (.int .i64 0)), none⟩])
  (.seq (.region false [⟨(some 7), .ld (some 2) (.t 1), none⟩,
    ⟨(some 8), .call F_ref03_asked [(.t 7), (.c (.int .i64 0)), (.c (.int .i64 0))], none⟩,
    ⟨(some 4), .mov (.t 8), none⟩])
  (.seq (.seq (.region false [⟨(some 9), .mov (.t 4), none⟩,
    ⟨(some 10), .bin .neq (.t 9) (.c (.int .i64 0)), none⟩])
  (.cond (.t 10)
   (.seq (.region false [⟨(some 11), .mov (.t 4), none⟩,
     ⟨(some 2), .mov (.c (.int .i64 0)), none⟩,
     ⟨(some 3), .mov (.t 11), none⟩])
   (.ret))
   (.skip)))
  (.seq (.region false [⟨(some 5), .mov (.c (.int .i64 0)), none⟩])
  (.seq (.seq (.region false [⟨(some 6), .mov (.c (.int .i64 0)), none⟩])
  (.block 0 (.loop A_ref03_TopL0)))
  (.seq (.region false [⟨(some 23), .mov (.t 5), none⟩,
    ⟨(some 2), .mov (.t 23), none⟩,
    ⟨(some 3), .mov (.c (.int .i64 0)), none⟩])
  (.ret)))))),
  [.tmp 2, .tmp 3]⟩

/- lattice_Find -/
def A_lattice_Find : AFun := ⟨19,
  .seq (.region false [⟨(some 2), .box (.t 0), none⟩,
    ⟨(some 4), .mov (.c (.int .i64 0)), none⟩,
    ⟨(some 5), .mov (.c (.int .i64 0)), none⟩])
  (.seq (.seq (.region false [⟨(some 8), .call F_lattice_asked [(.t 2), (.c (.sl .ex []))], none⟩,
    ⟨(some 6), .mov (.t 8), none⟩])
  (.seq (.region false [⟨(some 9), .mov (.t 6), none⟩,
    ⟨(some 10), .bin .neq (.t 9) (.c (.int .i64 0)), none⟩])
  (.cond (.t 10)
   (.seq (.region false [⟨(some 11), .mov (.t 6), none⟩,
     ⟨(some 4), .mov (.c (.int .i64 0)), none⟩,
     ⟨(some 5), .mov (.t 11), none⟩])
   (.ret))
   (.skip))))
  (.seq (.seq (.region false [⟨(some 12), .fldA 0 (.t 2), none⟩,
    ⟨(some 13), .ld none (.t 12), none⟩,
    ⟨(some 14), .mov (.t 1), none⟩,
    ⟨(some 15), .call F_slices_Index_string_string [(.t 13), (.t 14)], none⟩,
    ⟨(some 7), .mov (.t 15), none⟩])
  (.seq (.region false [⟨(some 16), .mov (.t 7), none⟩,
    ⟨(some 17), .bin .geq (.t 16) (.c (.int .i64 0)), none⟩])
  (.cond (.t 17)
   (.seq (.region false [⟨(some 18), .mov (.t 7), none⟩,
     ⟨(some 4), .mov (.t 18), none⟩,
     ⟨(some 5), .mov (.c (.int .i64 0)), none⟩])
   (.ret))
   (.skip))))
  (.seq (.region false [⟨(some 4), .mov (.c (.int .i64 0)), none⟩,
    ⟨(some 5), .mov (.c (.int .i64 4)), none⟩])
  (.ret)))),
  [.tmp 4, .tmp 5]⟩

/- ref03_Find -/
def A_ref03_FindL0 : ACode :=
  .seq (.seq (.region false [⟨(some 17), .mov (.t 8), none⟩,
    ⟨(some 18), .fldA 0 (.t 2), none⟩,
    ⟨(some 19), .ld none (.t 18), none⟩,
    ⟨(some 20), .len (.t 19), none⟩,
    ⟨(some 21), .bin .lss (.t 17) (.t 20), none⟩])
  (.cond (.t 21)
   (.skip)
   (.exit 0)))
  (.seq (.block 1 (.seq (.region false [⟨(some 24), .fldA 0 (.t 2), none⟩,
    ⟨(some 25), .ld none (.t 24), none⟩,
    ⟨(some 26), .mov (.t 8), none⟩,
    ⟨(some 27), .idxA 1 (.t 25) (.t 26), none⟩,
    ⟨(some 28), .ld none (.t 27), none⟩,
    ⟨(some 29), .mov (.t 1), none⟩,
    ⟨(some 30), .bin .eql (.t 28) (.t 29), none⟩])
  (.cond (.t 30)
   (.seq (.region false [⟨(some 31), .mov (.t 8), none⟩,
     ⟨(some 4), .mov (.t 31), none⟩,
     ⟨(some 5), .mov (.c (.int .i64 0)), none⟩])
   (.ret))
   (.skip))))
  (.region false [⟨(some 22), .mov (.t 8), none⟩,
    ⟨(some 23), .bin .add (.t 22) (.c (.int .i64 1)), none⟩,
    ⟨(some 8), .mov (.t 23), none⟩]))
def A_ref03_Find : AFun := ⟨32,
  .seq (.region false [⟨(some 2), .box (.t 0), none⟩,
    ⟨(some 4), .mov (.c (.int .i64 0)), none⟩,
    ⟨(some 5), .mov (.c (.int .i64 0)), none⟩])
  (.seq (.region false [⟨(some 10), .ld (some 2) (.t 2), none⟩,
    ⟨(some 11), .call F_ref03_Check [(.t 10)], none⟩,
    ⟨(some 9), .mov (.t 11), none⟩,
    ⟨(some 12), .extr (.t 9) 0, none⟩,
    ⟨(some 13), .extr (.t 9) 1, none⟩,
    ⟨(some 6), .mov (.t 12), none⟩,
    ⟨(some 7), .mov (.t 13), none⟩])
  (.seq (.seq (.region false [⟨(some 14), .mov (.t 7), none⟩,
    ⟨(some 15), .bin .neq (.t 14) (.c (.int .i64 0)), none⟩])
  (.cond (.t 15)
   (.seq (.region false [⟨(some 16), .mov (.t 7), none⟩,
     ⟨(some 4), .mov (.c (.int .i64 0)), none⟩,
     ⟨(some 5), .mov (.t 16), none⟩])
   (.ret))
   (.skip)))
  (.seq (.seq (.region false [⟨(some 8), .mov (.c (.int .i64 0)), none⟩])
  (.block 0 (.loop A_ref03_FindL0)))
  (.seq (.region false [⟨(some 4), .mov (.c (.int .i64 0)), none⟩,
    ⟨(some 5), .mov (.c (.int .i64 4)), none⟩])
  (.ret))))),
  [.tmp 4, .tmp 5]⟩

/- lattice_Covers -/
def A_lattice_CoversL1 : ACode :=
  .seq (.region false [⟨(some 24), .bin .lss (.t 23) (.t 22), none⟩])
  (.seq (.cond (.t 24)
   (.skip)
   (.exit 2))
  (.seq (.block 3 (.seq (.region false [⟨(some 25), .mov (.t 23), none⟩,
    ⟨(some 8), .mov (.t 25), none⟩])
  (.seq (.region true [⟨(some 26), .mov (.t 7), none⟩,
    ⟨(some 27), .mov (.t 8), none⟩,
    ⟨(some 28), .bin .neq (.t 26) (.t 27), none⟩,
    ⟨(some 29), .mov (.t 28), none⟩,
    ⟨(some 30), .mov (.t 7), some (29, true)⟩,
    ⟨(some 31), .fldA 1 (.t 6), some (29, true)⟩,
    ⟨(some 32), .idxP 8 1 (.t 31) (.t 30), some (29, true)⟩,
    ⟨(some 33), .ld none (.t 32), some (29, true)⟩,
    ⟨(some 34), .mov (.t 8), some (29, true)⟩,
    ⟨(some 35), .fldA 9 (.t 6), some (29, true)⟩,
    ⟨(some 36), .idxP 8 1 (.t 35) (.t 34), some (29, true)⟩,
    ⟨(some 37), .ld none (.t 36), some (29, true)⟩,
    ⟨(some 38), .bin .and (.t 33) (.t 37), some (29, true)⟩,
    ⟨(some 39), .mov (.t 7), some (29, true)⟩,
    ⟨(some 40), .bin .shl (.c (.int .u8 1)) (.t 39), some (29, true)⟩,
    ⟨(some 41), .mov (.t 8), some (29, true)⟩,
    ⟨(some 42), .bin .shl (.c (.int .u8 1)) (.t 41), some (29, true)⟩,
    ⟨(some 43), .bin .or (.t 40) (.t 42), some (29, true)⟩,
    ⟨(some 44), .bin .eql (.t 38) (.t 43), some (29, true)⟩,
    ⟨(some 45), .pick (.t 29) (.t 44) (.c (.bool false)), none⟩])
  (.cond (.t 45)
   (.region false [⟨(some 46), .mov (.t 5), none⟩,
     ⟨(some 47), .mov (.t 7), none⟩,
     ⟨(some 48), .mov (.t 8), none⟩,
     ⟨(some 49), .build [.int .i64 0, .int .i64 0] [(0, 1, (.t 47)), (1, 1, (.t 48))], none⟩,
     ⟨(some 50), .bsl 2 (.agg [.int .i64 0, .int .i64 0]) 1 [(0, (.t 49))], none⟩,
     ⟨(some 51), .app 2 16 (.t 46) (.t 50), none⟩,
     ⟨(some 5), .mov (.t 51), none⟩])
   (.skip)))))
  (.region false [⟨(some 52), .bin .add (.t 23) (.c (.int .i64 1)), none⟩,
    ⟨(some 23), .mov (.t 52), none⟩])))
def A_lattice_CoversL0 : ACode :=
  .seq (.region false [⟨(some 18), .bin .lss (.t 17) (.t 16), none⟩])
  (.seq (.cond (.t 18)
   (.skip)
   (.exit 0))
  (.seq (.block 1 (.seq (.region false [⟨(some 19), .mov (.t 17), none⟩,
    ⟨(some 7), .mov (.t 19), none⟩])
  (.seq (.region false [⟨(some 20), .fldA 0 (.t 1), none⟩,
    ⟨(some 21), .ld none (.t 20), none⟩,
    ⟨(some 22), .len (.t 21), none⟩,
    ⟨(some 23), .mov (.c (.int .i64 0)), none⟩])
  (.block 2 (.loop A_lattice_CoversL1)))))
  (.region false [⟨(some 53), .bin .add (.t 17) (.c (.int .i64 1)), none⟩,
    ⟨(some 17), .mov (.t 53), none⟩])))
def A_lattice_Covers : AFun := ⟨55,
  .seq (.region false [⟨(some 1), .box (.t 0), none⟩,
    ⟨(some 2), .mov (.c (.sl .ex [])), none⟩,
    ⟨(some 3), .mov (.c (.int .i64 0)), none⟩])
  (.seq (.seq (.region false [⟨(some 9), .call F_lattice_asked [(.t 1), (.c (.sl .ex []))], none⟩,
    ⟨(some 4), .mov (.t 9), none⟩])
  (.seq (.region false [⟨(some 10), .mov (.t 4), none⟩,
    ⟨(some 11), .bin .neq (.t 10) (.c (.int .i64 0)), none⟩])
  (.cond (.t 11)
   (.seq (.region false [⟨(some 12), .mov (.t 4), none⟩,
     ⟨(some 2), .mov (.c (.sl .ex [])), none⟩,
     ⟨(some 3), .mov (.t 12), none⟩])
   (.ret))
   (.skip))))
  (.seq (.region false [⟨(some 5), .mov (.c (.sl .ex [])), none⟩])
  (.seq (.region false [⟨(some 13), .call F_lattice_of [(.t 1)], none⟩,
    ⟨(some 6), .alloc [.int .i64 0, .int .u8 0, .int .u8 0, .int .u8 0, .int .u8 0, .int .u8 0, .int .u8 0, .int .u8 0, .int .u8 0, .int .u8 0, .int .u8 0, .int .u8 0, .int .u8 0, .int .u8 0, .int .u8 0, .int .u8 0, .int .u8 0], none⟩,
    ⟨none, .st 17 (.t 6) (.t 13), none⟩])
  (.seq (.seq (.region false [⟨(some 14), .fldA 0 (.t 1), none⟩,
    ⟨(some 15), .ld none (.t 14), none⟩,
    ⟨(some 16), .len (.t 15), none⟩,
    ⟨(some 17), .mov (.c (.int .i64 0)), none⟩])
  (.block 0 (.loop A_lattice_CoversL0)))
  (.seq (.region false [⟨(some 54), .mov (.t 5), none⟩,
    ⟨(some 2), .mov (.t 54), none⟩,
    ⟨(some 3), .mov (.c (.int .i64 0)), none⟩])
  (.ret)))))),
  [.tmp 2, .tmp 3]⟩

/- ref03_Covers -/
def A_ref03_CoversL2 : ACode :=
  .seq (.seq (.region false [⟨(some 43), .mov (.t 11), none⟩,
    ⟨(some 44), .mov (.t 6), none⟩,
    ⟨(some 45), .bin .lss (.t 43) (.t 44), none⟩])
  (.cond (.t 45)
   (.skip)
   (.exit 4)))
  (.seq (.block 5 (.seq (.region false [⟨(some 48), .mov (.t 11), none⟩,
    ⟨(some 49), .mov (.t 8), none⟩,
    ⟨(some 50), .bin .neq (.t 48) (.t 49), none⟩,
    ⟨(some 51), .mov (.t 50), none⟩,
    ⟨(some 52), .mov (.t 11), some (51, true)⟩,
    ⟨(some 53), .mov (.t 9), some (51, true)⟩,
    ⟨(some 54), .bin .neq (.t 52) (.t 53), some (51, true)⟩,
    ⟨(some 55), .pick (.t 51) (.t 54) (.c (.bool false)), none⟩,
    ⟨(some 56), .mov (.t 55), none⟩,
    ⟨(some 57), .ld (some 2) (.t 1), some (56, true)⟩,
    ⟨(some 58), .mov (.t 8), some (56, true)⟩,
    ⟨(some 59), .mov (.t 11), some (56, true)⟩,
    ⟨(some 60), .call F_ref03_Below [(.t 57), (.t 58), (.t 59)], some (56, true)⟩,
    ⟨(some 61), .pick (.t 56) (.t 60) (.c (.bool false)), none⟩,
    ⟨(some 62), .mov (.t 61), none⟩,
    ⟨(some 63), .ld (some 2) (.t 1), some (62, true)⟩,
    ⟨(some 64), .mov (.t 11), some (62, true)⟩,
    ⟨(some 65), .mov (.t 9), some (62, true)⟩,
    ⟨(some 66), .call F_ref03_Below [(.t 63), (.t 64), (.t 65)], some (62, true)⟩,
    ⟨(some 67), .pick (.t 62) (.t 66) (.c (.bool false)), none⟩])
  (.cond (.t 67)
   (.region false [⟨(some 10), .mov (.c (.bool false)), none⟩])
   (.skip))))
  (.region false [⟨(some 46), .mov (.t 11), none⟩,
    ⟨(some 47), .bin .add (.t 46) (.c (.int .i64 1)), none⟩,
    ⟨(some 11), .mov (.t 47), none⟩]))
def A_ref03_CoversL1 : ACode :=
  .seq (.seq (.region false [⟨(some 28), .mov (.t 9), none⟩,
    ⟨(some 29), .mov (.t 6), none⟩,
    ⟨(some 30), .bin .lss (.t 28) (.t 29), none⟩])
  (.cond (.t 30)
   (.skip)
   (.exit 2)))
  (.seq (.block 3 (.seq (.seq (.region false [⟨(some 33), .mov (.t 8), none⟩,
    ⟨(some 34), .mov (.t 9), none⟩,
    ⟨(some 35), .bin .eql (.t 33) (.t 34), none⟩,
    ⟨(some 36), .mov (.t 35), none⟩,
    ⟨(some 37), .ld (some 2) (.t 1), some (36, false)⟩,
    ⟨(some 38), .mov (.t 8), some (36, false)⟩,
    ⟨(some 39), .mov (.t 9), some (36, false)⟩,
    ⟨(some 40), .call F_ref03_Below [(.t 37), (.t 38), (.t 39)], some (36, false)⟩,
    ⟨(some 41), .not (.t 40), some (36, false)⟩,
    ⟨(some 42), .pick (.t 36) (.c (.bool true)) (.t 41), none⟩])
  (.cond (.t 42)
   (.exit 3)
   (.skip)))
  (.seq (.region false [⟨(some 10), .mov (.c (.bool true)), none⟩])
  (.seq (.seq (.region false [⟨(some 11), .mov (.c (.int .i64 0)), none⟩])
  (.block 4 (.loop A_ref03_CoversL2)))
  (.seq (.region false [⟨(some 68), .mov (.t 10), none⟩])
  (.cond (.t 68)
   (.region false [⟨(some 69), .mov (.t 7), none⟩,
     ⟨(some 70), .mov (.t 8), none⟩,
     ⟨(some 71), .mov (.t 9), none⟩,
     ⟨(some 72), .build [.int .i64 0, .int .i64 0] [(0, 1, (.t 70)), (1, 1, (.t 71))], none⟩,
     ⟨(some 73), .bsl 2 (.agg [.int .i64 0, .int .i64 0]) 1 [(0, (.t 72))], none⟩,
     ⟨(some 74), .app 2 16 (.t 69) (.t 73), none⟩,
     ⟨(some 7), .mov (.t 74), none⟩])
   (.skip)))))))
  (.region false [⟨(some 31), .mov (.t 9), none⟩,
    ⟨(some 32), .bin .add (.t 31) (.c (.int .i64 1)), none⟩,
    ⟨(some 9), .mov (.t 32), none⟩]))
def A_ref03_CoversL0 : ACode :=
  .seq (.seq (.region false [⟨(some 23), .mov (.t 8), none⟩,
    ⟨(some 24), .mov (.t 6), none⟩,
    ⟨(some 25), .bin .lss (.t 23) (.t 24), none⟩])
  (.cond (.t 25)
   (.skip)
   (.exit 0)))
  (.seq (.block 1 (.seq (.region false [⟨(some 9), .mov (.c (.int .i64 0)), none⟩])
  (.block 2 (.loop A_ref03_CoversL1))))
  (.region false [⟨(some 26), .mov (.t 8), none⟩,
    ⟨(some 27), .bin .add (.t 26) (.c (.int .i64 1)), none⟩,
    ⟨(some 8), .mov (.t 27), none⟩]))
def A_ref03_Covers : AFun := ⟨76,
  .seq (.region false [⟨(some 1), .box (.t 0), none⟩,
    ⟨(some 2), .mov (.c (.sl .ex [])), none⟩,
    ⟨(some 3), .mov (.c (.int .i64 0)), none⟩])
  (.seq (.region false [⟨(some 13), .ld (some 2) (.t 1), none⟩,
    ⟨(some 14), .call F_ref03_Check [(.t 13)], none⟩,
    ⟨(some 12), .mov (.t 14), none⟩,
    ⟨(some 15), .extr (.t 12) 0, none⟩,
    ⟨(some 16), .extr (.t 12) 1, none⟩,
    ⟨(some 4), .mov (.t 15), none⟩,
    ⟨(some 5), .mov (.t 16), none⟩])
  (.seq (.seq (.region false [⟨(some 17), .mov (.t 5), none⟩,
    ⟨(some 18), .bin .neq (.t 17) (.c (.int .i64 0)), none⟩])
  (.cond (.t 18)
   (.seq (.region false [⟨(some 19), .mov (.t 5), none⟩,
     ⟨(some 2), .mov (.c (.sl .ex [])), none⟩,
     ⟨(some 3), .mov (.t 19), none⟩])
   (.ret))
   (.skip)))
  (.seq (.region false [⟨(some 20), .fldA 0 (.t 1), none⟩,
    ⟨(some 21), .ld none (.t 20), none⟩,
    ⟨(some 22), .len (.t 21), none⟩,
    ⟨(some 6), .mov (.t 22), none⟩])
  (.seq (.region false [⟨(some 7), .mov (.c (.sl .ex [])), none⟩])
  (.seq (.seq (.region false [⟨(some 8), .mov (.c (.int .i64 0)), none⟩])
  (.block 0 (.loop A_ref03_CoversL0)))
  (.seq (.region false [⟨(some 75), .mov (.t 7), none⟩,
    ⟨(some 2), .mov (.t 75), none⟩,
    ⟨(some 3), .mov (.c (.int .i64 0)), none⟩])
  (.ret))))))),
  [.tmp 2, .tmp 3]⟩

/- law03_pairs -/
def A_law03_pairsL0 : ACode :=
  .seq (.seq (.region false [⟨(some 11), .mov (.t 5), none⟩,
    ⟨(some 12), .mov (.t 0), none⟩,
    ⟨(some 13), .len (.t 12), none⟩,
    ⟨(some 14), .bin .lss (.t 11) (.t 13), none⟩])
  (.cond (.t 14)
   (.skip)
   (.exit 0)))
  (.seq (.block 1 (.seq (.region true [⟨(some 17), .mov (.t 0), none⟩,
    ⟨(some 18), .mov (.t 5), none⟩,
    ⟨(some 19), .idxA 2 (.t 17) (.t 18), none⟩,
    ⟨(some 20), .ld (some 2) (.t 19), none⟩,
    ⟨(some 21), .mov (.t 1), none⟩,
    ⟨(some 22), .mov (.t 5), none⟩,
    ⟨(some 23), .idxA 2 (.t 21) (.t 22), none⟩,
    ⟨(some 24), .ld (some 2) (.t 23), none⟩,
    ⟨(some 25), .aeq true [0, 0] (.t 20) (.t 24), none⟩])
  (.cond (.t 25)
   (.seq (.region false [⟨(some 4), .mov (.c (.bool false)), none⟩])
   (.ret))
   (.skip))))
  (.region false [⟨(some 15), .mov (.t 5), none⟩,
    ⟨(some 16), .bin .add (.t 15) (.c (.int .i64 1)), none⟩,
    ⟨(some 5), .mov (.t 16), none⟩]))
def A_law03_pairs : AFun := ⟨26,
  .seq (.region false [⟨(some 4), .mov (.c (.bool false)), none⟩])
  (.seq (.seq (.region false [⟨(some 6), .mov (.t 0), none⟩,
    ⟨(some 7), .len (.t 6), none⟩,
    ⟨(some 8), .mov (.t 1), none⟩,
    ⟨(some 9), .len (.t 8), none⟩,
    ⟨(some 10), .bin .neq (.t 7) (.t 9), none⟩])
  (.cond (.t 10)
   (.seq (.region false [⟨(some 4), .mov (.c (.bool false)), none⟩])
   (.ret))
   (.skip)))
  (.seq (.seq (.region false [⟨(some 5), .mov (.c (.int .i64 0)), none⟩])
  (.block 0 (.loop A_law03_pairsL0)))
  (.seq (.region false [⟨(some 4), .mov (.c (.bool true)), none⟩])
  (.ret)))),
  [.tmp 4]⟩

/- lattice_Dual -/
def A_lattice_DualL0 : ACode :=
  .seq (.region false [⟨(some 22), .bin .lss (.t 21) (.t 20), none⟩])
  (.seq (.cond (.t 22)
   (.skip)
   (.exit 0))
  (.seq (.block 1 (.seq (.region false [⟨(some 23), .mov (.t 21), none⟩,
    ⟨(some 7), .mov (.t 23), none⟩])
  (.region true [⟨(some 24), .fldA 1 (.t 5), none⟩,
    ⟨(some 25), .ld none (.t 24), none⟩,
    ⟨(some 26), .mov (.t 7), none⟩,
    ⟨(some 27), .fldA 9 (.t 6), none⟩,
    ⟨(some 28), .idxP 8 1 (.t 27) (.t 26), none⟩,
    ⟨(some 29), .ld none (.t 28), none⟩,
    ⟨(some 30), .bsl 1 (.int .u8 0) 1 [(0, (.t 29))], none⟩,
    ⟨(some 31), .app 1 1 (.t 25) (.t 30), none⟩,
    ⟨(some 32), .fldA 1 (.t 5), none⟩,
    ⟨none, .st 1 (.t 32) (.t 31), none⟩])))
  (.region false [⟨(some 33), .bin .add (.t 21) (.c (.int .i64 1)), none⟩,
    ⟨(some 21), .mov (.t 33), none⟩])))
def A_lattice_Dual : AFun := ⟨35,
  .seq (.region false [⟨(some 1), .box (.t 0), none⟩,
    ⟨(some 2), .alloc [.sl .ex [], .sl .ex []], none⟩,
    ⟨(some 3), .mov (.c (.int .i64 0)), none⟩])
  (.seq (.seq (.region false [⟨(some 8), .call F_lattice_asked [(.t 1), (.c (.sl .ex []))], none⟩,
    ⟨(some 4), .mov (.t 8), none⟩])
  (.seq (.region false [⟨(some 9), .mov (.t 4), none⟩,
    ⟨(some 10), .bin .neq (.t 9) (.c (.int .i64 0)), none⟩])
  (.cond (.t 10)
   (.seq (.region false [⟨(some 11), .build [.sl .ex [], .sl .ex []] [], none⟩,
     ⟨(some 12), .mov (.t 4), none⟩,
     ⟨none, .st 2 (.t 2) (.t 11), none⟩,
     ⟨(some 3), .mov (.t 12), none⟩])
   (.ret))
   (.skip))))
  (.seq (.region false [⟨(some 13), .fldA 0 (.t 1), none⟩,
    ⟨(some 14), .ld none (.t 13), none⟩,
    ⟨(some 15), .call F_slices_Clone_string_string [(.t 14)], none⟩,
    ⟨(some 16), .build [.sl .ex [], .sl .ex []] [(0, 1, (.t 15))], none⟩,
    ⟨(some 5), .alloc [.sl .ex [], .sl .ex []], none⟩,
    ⟨none, .st 2 (.t 5) (.t 16), none⟩])
  (.seq (.region false [⟨(some 17), .call F_lattice_of [(.t 1)], none⟩,
    ⟨(some 6), .alloc [.int .i64 0, .int .u8 0, .int .u8 0, .int .u8 0, .int .u8 0, .int .u8 0, .int .u8 0, .int .u8 0, .int .u8 0, .int .u8 0, .int .u8 0, .int .u8 0, .int .u8 0, .int .u8 0, .int .u8 0, .int .u8 0, .int .u8 0], none⟩,
    ⟨none, .st 17 (.t 6) (.t 17), none⟩])
  (.seq (.seq (.region false [⟨(some 18), .fldA 0 (.t 1), none⟩,
    ⟨(some 19), .ld none (.t 18), none⟩,
    ⟨(some 20), .len (.t 19), none⟩,
    ⟨(some 21), .mov (.c (.int .i64 0)), none⟩])
  (.block 0 (.loop A_lattice_DualL0)))
  (.seq (.region false [⟨(some 34), .ld (some 2) (.t 5), none⟩,
    ⟨none, .st 2 (.t 2) (.t 34), none⟩,
    ⟨(some 3), .mov (.c (.int .i64 0)), none⟩])
  (.ret)))))),
  [.cell (some 2) 2, .tmp 3]⟩

/- ref03_Dual -/
def A_ref03_DualL1 : ACode :=
  .seq (.seq (.region false [⟨(some 32), .mov (.t 10), none⟩,
    ⟨(some 33), .fldA 0 (.t 1), none⟩,
    ⟨(some 34), .ld none (.t 33), none⟩,
    ⟨(some 35), .len (.t 34), none⟩,
    ⟨(some 36), .bin .lss (.t 32) (.t 35), none⟩])
  (.cond (.t 36)
   (.skip)
   (.exit 2)))
  (.seq (.block 3 (.seq (.seq (.region false [⟨(some 39), .ld (some 2) (.t 1), none⟩,
    ⟨(some 40), .mov (.t 10), none⟩,
    ⟨(some 41), .mov (.t 7), none⟩,
    ⟨(some 42), .call F_ref03_Below [(.t 39), (.t 40), (.t 41)], none⟩])
  (.cond (.t 42)
   (.region false [⟨(some 43), .mov (.t 8), none⟩,
     ⟨(some 44), .mov (.t 9), none⟩,
     ⟨(some 45), .bin .or (.t 43) (.t 44), none⟩,
     ⟨(some 8), .mov (.t 45), none⟩])
   (.skip)))
  (.region false [⟨(some 46), .mov (.t 9), none⟩,
    ⟨(some 47), .bin .shl (.t 46) (.c (.int .u64 1)), none⟩,
    ⟨(some 9), .mov (.t 47), none⟩])))
  (.region false [⟨(some 37), .mov (.t 10), none⟩,
    ⟨(some 38), .bin .add (.t 37) (.c (.int .i64 1)), none⟩,
    ⟨(some 10), .mov (.t 38), none⟩]))
def A_ref03_DualL0 : ACode :=
  .seq (.seq (.region false [⟨(some 25), .mov (.t 7), none⟩,
    ⟨(some 26), .fldA 0 (.t 1), none⟩,
    ⟨(some 27), .ld none (.t 26), none⟩,
    ⟨(some 28), .len (.t 27), none⟩,
    ⟨(some 29), .bin .lss (.t 25) (.t 28), none⟩])
  (.cond (.t 29)
   (.skip)
   (.exit 0)))
  (.seq (.block 1 (.seq (.region false [⟨(some 8), .mov (.c (.int .u8 0)), none⟩,
    ⟨(some 9), .mov (.c (.int .u8 1)), none⟩])
  (.seq (.seq (.region false [⟨(some 10), .mov (.c (.int .i64 0)), none⟩])
  (.block 2 (.loop A_ref03_DualL1)))
  (.region false [⟨(some 48), .fldA 1 (.t 6), none⟩,
    ⟨(some 49), .ld none (.t 48), none⟩,
    ⟨(some 50), .mov (.t 8), none⟩,
    ⟨(some 51), .bsl 1 (.int .u8 0) 1 [(0, (.t 50))], none⟩,
    ⟨(some 52), .app 1 1 (.t 49) (.t 51), none⟩,
    ⟨(some 53), .fldA 1 (.t 6), none⟩,
    ⟨none, .st 1 (.t 53) (.t 52), none⟩]))))
  (.region false [⟨(some 30), .mov (.t 7), none⟩,
    ⟨(some 31), .bin .add (.t 30) (.c (.int .i64 1)), none⟩,
    ⟨(some 7), .mov (.t 31), none⟩]))
def A_ref03_Dual : AFun := ⟨55,
  .seq (.region false [⟨(some 1), .box (.t 0), none⟩,
    ⟨(some 2), .alloc [.sl .ex [], .sl .ex []], none⟩,
    ⟨(some 3), .mov (.c (.int .i64 0)), none⟩])
  (.seq (.region false [⟨(some 12), .ld (some 2) (.t 1), none⟩,
    ⟨(some 13), .call F_ref03_Check [(.t 12)], none⟩,
    ⟨(some 11), .mov (.t 13), none⟩,
    ⟨(some 14), .extr (.t 11) 0, none⟩,
    ⟨(some 15), .extr (.t 11) 1, none⟩,
    ⟨(some 4), .mov (.t 14), none⟩,
    ⟨(some 5), .mov (.t 15), none⟩])
  (.seq (.seq (.region false [⟨(some 16), .mov (.t 5), none⟩,
    ⟨(some 17), .bin .neq (.t 16) (.c (.int .i64 0)), none⟩])
  (.cond (.t 17)
   (.seq (.region false [⟨(some 18), .build [.sl .ex [], .sl .ex []] [], none⟩,
     ⟨(some 19), .mov (.t 5), none⟩,
     ⟨none, .st 2 (.t 2) (.t 18), none⟩,
     ⟨(some 3), .mov (.t 19), none⟩])
   (.ret))
   (.skip)))
  (.seq (.region false [⟨(some 20), .bsl 1 (.str []) 0 [], none⟩,
    ⟨(some 21), .fldA 0 (.t 1), none⟩,
    ⟨(some 22), .ld none (.t 21), none⟩,
    ⟨(some 23), .app 1 16 (.t 20) (.t 22), none⟩,
    ⟨(some 24), .build [.sl .ex [], .sl .ex []] [(0, 1, (.t 23))], none⟩,
    ⟨(some 6), .alloc [.sl .ex [], .sl .ex []], none⟩,
    ⟨none, .st 2 (.t 6) (.t 24), none⟩])
  (.seq (.seq (.region false [⟨(some 7), .mov (.c (.int .i64 0)), none⟩])
  (.block 0 (.loop A_ref03_DualL0)))
  (.seq (.region false [⟨(some 54), .ld (some 2) (.t 6), none⟩,
    ⟨none, .st 2 (.t 2) (.t 54), none⟩,
    ⟨(some 3), .mov (.c (.int .i64 0)), none⟩])
  (.ret)))))),
  [.cell (some 2) 2, .tmp 3]⟩

/- ref03_Same -/
def A_ref03_SameL0 : ACode :=
  .seq (.seq (.region false [⟨(some 23), .mov (.t 5), none⟩,
    ⟨(some 24), .fldA 0 (.t 2), none⟩,
    ⟨(some 25), .ld none (.t 24), none⟩,
    ⟨(some 26), .len (.t 25), none⟩,
    ⟨(some 27), .bin .lss (.t 23) (.t 26), none⟩])
  (.cond (.t 27)
   (.skip)
   (.exit 0)))
  (.seq (.block 1 (.seq (.region true [⟨(some 30), .fldA 0 (.t 2), none⟩,
    ⟨(some 31), .ld none (.t 30), none⟩,
    ⟨(some 32), .mov (.t 5), none⟩,
    ⟨(some 33), .idxA 1 (.t 31) (.t 32), none⟩,
    ⟨(some 34), .ld none (.t 33), none⟩,
    ⟨(some 35), .fldA 0 (.t 3), none⟩,
    ⟨(some 36), .ld none (.t 35), none⟩,
    ⟨(some 37), .mov (.t 5), none⟩,
    ⟨(some 38), .idxA 1 (.t 36) (.t 37), none⟩,
    ⟨(some 39), .ld none (.t 38), none⟩,
    ⟨(some 40), .bin .neq (.t 34) (.t 39), none⟩])
  (.cond (.t 40)
   (.seq (.region false [⟨(some 4), .mov (.c (.bool false)), none⟩])
   (.ret))
   (.skip))))
  (.region false [⟨(some 28), .mov (.t 5), none⟩,
    ⟨(some 29), .bin .add (.t 28) (.c (.int .i64 1)), none⟩,
    ⟨(some 5), .mov (.t 29), none⟩]))
def A_ref03_SameL1 : ACode :=
  .seq (.seq (.region false [⟨(some 41), .mov (.t 6), none⟩,
    ⟨(some 42), .fldA 1 (.t 2), none⟩,
    ⟨(some 43), .ld none (.t 42), none⟩,
    ⟨(some 44), .len (.t 43), none⟩,
    ⟨(some 45), .bin .lss (.t 41) (.t 44), none⟩])
  (.cond (.t 45)
   (.skip)
   (.exit 2)))
  (.seq (.block 3 (.seq (.region true [⟨(some 48), .fldA 1 (.t 2), none⟩,
    ⟨(some 49), .ld none (.t 48), none⟩,
    ⟨(some 50), .mov (.t 6), none⟩,
    ⟨(some 51), .idxA 1 (.t 49) (.t 50), none⟩,
    ⟨(some 52), .ld none (.t 51), none⟩,
    ⟨(some 53), .fldA 1 (.t 3), none⟩,
    ⟨(some 54), .ld none (.t 53), none⟩,
    ⟨(some 55), .mov (.t 6), none⟩,
    ⟨(some 56), .idxA 1 (.t 54) (.t 55), none⟩,
    ⟨(some 57), .ld none (.t 56), none⟩,
    ⟨(some 58), .bin .neq (.t 52) (.t 57), none⟩])
  (.cond (.t 58)
   (.seq (.region false [⟨(some 4), .mov (.c (.bool false)), none⟩])
   (.ret))
   (.skip))))
  (.region false [⟨(some 46), .mov (.t 6), none⟩,
    ⟨(some 47), .bin .add (.t 46) (.c (.int .i64 1)), none⟩,
    ⟨(some 6), .mov (.t 47), none⟩]))
def A_ref03_Same : AFun := ⟨59,
  .seq (.region false [⟨(some 2), .box (.t 0), none⟩,
    ⟨(some 3), .box (.t 1), none⟩,
    ⟨(some 4), .mov (.c (.bool false)), none⟩])
  (.seq (.seq (.region false [⟨(some 7), .fldA 0 (.t 2), none⟩,
    ⟨(some 8), .ld none (.t 7), none⟩,
    ⟨(some 9), .len (.t 8), none⟩,
    ⟨(some 10), .fldA 0 (.t 3), none⟩,
    ⟨(some 11), .ld none (.t 10), none⟩,
    ⟨(some 12), .len (.t 11), none⟩,
    ⟨(some 13), .bin .neq (.t 9) (.t 12), none⟩,
    ⟨(some 14), .mov (.t 13), none⟩,
    ⟨(some 15), .fldA 1 (.t 2), some (14, false)⟩,
    ⟨(some 16), .ld none (.t 15), some (14, false)⟩,
    ⟨(some 17), .len (.t 16), some (14, false)⟩,
    ⟨(some 18), .fldA 1 (.t 3), some (14, false)⟩,
    ⟨(some 19), .ld none (.t 18), some (14, false)⟩,
    ⟨(some 20), .len (.t 19), some (14, false)⟩,
    ⟨(some 21), .bin .neq (.t 17) (.t 20), some (14, false)⟩,
    ⟨(some 22), .pick (.t 14) (.c (.bool true)) (.t 21), none⟩])
  (.cond (.t 22)
   (.seq (.region false [⟨(some 4), .mov (.c (.bool false)), none⟩])
   (.ret))
   (.skip)))
  (.seq (.seq (.region false [⟨(some 5), .mov (.c (.int .i64 0)), none⟩])
  (.block 0 (.loop A_ref03_SameL0)))
  (.seq (.seq (.region false [⟨(some 6), .mov (.c (.int .i64 0)), none⟩])
  (.block 2 (.loop A_ref03_SameL1)))
  (.seq (.region false [⟨(some 4), .mov (.c (.bool true)), none⟩])
  (.ret))))),
  [.tmp 4]⟩

/- law03_long -/
def A_law03_longL0 : ACode :=
  .seq (.seq (.region false [⟨(some 4), .mov (.t 3), none⟩,
    ⟨(some 5), .mov (.t 0), none⟩,
    ⟨(some 6), .len (.t 5), none⟩,
    ⟨(some 7), .bin .lss (.t 4) (.t 6), none⟩,
    ⟨(some 8), .mov (.t 7), none⟩,
    ⟨(some 9), .mov (.t 3), some (8, true)⟩,
    ⟨(some 10), .bin .lss (.t 9) (.c (.int .i64 20)), some (8, true)⟩,
    ⟨(some 11), .pick (.t 8) (.t 10) (.c (.bool false)), none⟩])
  (.cond (.t 11)
   (.skip)
   (.exit 0)))
  (.seq (.block 1 (.seq (.region false [⟨(some 14), .mov (.t 0), none⟩,
    ⟨(some 15), .mov (.t 3), none⟩,
    ⟨(some 16), .idxA 1 (.t 14) (.t 15), none⟩,
    ⟨(some 17), .ld none (.t 16), none⟩,
    ⟨(some 18), .lenS (.t 17), none⟩,
    ⟨(some 19), .bin .gtr (.t 18) (.c (.int .i64 100)), none⟩])
  (.cond (.t 19)
   (.seq (.region false [⟨(some 2), .mov (.c (.bool true)), none⟩])
   (.ret))
   (.skip))))
  (.region false [⟨(some 12), .mov (.t 3), none⟩,
    ⟨(some 13), .bin .add (.t 12) (.c (.int .i64 1)), none⟩,
    ⟨(some 3), .mov (.t 13), none⟩]))
def A_law03_long : AFun := ⟨23,
  .seq (.region false [⟨(some 2), .mov (.c (.bool false)), none⟩])
  (.seq (.seq (.region false [⟨(some 3), .mov (.c (.int .i64 0)), none⟩])
  (.block 0 (.loop A_law03_longL0)))
  (.seq (.region false [⟨(some 20), .mov (.t 0), none⟩,
    ⟨(some 21), .len (.t 20), none⟩,
    ⟨(some 22), .bin .gtr (.t 21) (.c (.int .i64 12)), none⟩,
    ⟨(some 2), .mov (.t 22), none⟩])
  (.ret))),
  [.tmp 2]⟩

/- ref03_Check -/
def A_ref03_CheckL0 : ACode :=
  .seq (.seq (.region false [⟨(some 29), .mov (.t 7), none⟩,
    ⟨(some 30), .mov (.t 6), none⟩,
    ⟨(some 31), .bin .lss (.t 29) (.t 30), none⟩])
  (.cond (.t 31)
   (.skip)
   (.exit 0)))
  (.seq (.block 1 (.seq (.region false [⟨(some 34), .ld (some 2) (.t 1), none⟩,
    ⟨(some 35), .mov (.t 7), none⟩,
    ⟨(some 36), .call F_ref03_ordered [(.t 34), (.t 35)], none⟩,
    ⟨(some 37), .not (.t 36), none⟩])
  (.cond (.t 37)
   (.seq (.region false [⟨(some 38), .mov (.t 7), none⟩,
     ⟨(some 2), .mov (.t 38), none⟩,
     ⟨(some 3), .mov (.c (.int .i64 6)), none⟩])
   (.ret))
   (.skip))))
  (.region false [⟨(some 32), .mov (.t 7), none⟩,
    ⟨(some 33), .bin .add (.t 32) (.c (.int .i64 1)), none⟩,
    ⟨(some 7), .mov (.t 33), none⟩]))
def A_ref03_CheckL2 : ACode :=
  .seq (.seq (.region false [⟨(some 46), .mov (.t 10), none⟩,
    ⟨(some 47), .mov (.t 6), none⟩,
    ⟨(some 48), .bin .lss (.t 46) (.t 47), none⟩])
  (.cond (.t 48)
   (.skip)
   (.exit 4)))
  (.seq (.block 5 (.seq (.region false [⟨(some 51), .fldA 1 (.t 1), none⟩,
    ⟨(some 52), .ld none (.t 51), none⟩,
    ⟨(some 53), .mov (.t 9), none⟩,
    ⟨(some 54), .mov (.t 10), none⟩,
    ⟨(some 55), .call F_ref03_nearest [(.t 52), (.t 53), (.t 54)], none⟩,
    ⟨(some 56), .bin .lss (.t 55) (.c (.int .i64 0)), none⟩,
    ⟨(some 57), .mov (.t 56), none⟩,
    ⟨(some 58), .mov (.t 8), some (57, false)⟩,
    ⟨(some 59), .mov (.t 9), some (57, false)⟩,
    ⟨(some 60), .mov (.t 10), some (57, false)⟩,
    ⟨(some 61), .call F_ref03_nearest [(.t 58), (.t 59), (.t 60)], some (57, false)⟩,
    ⟨(some 62), .bin .lss (.t 61) (.c (.int .i64 0)), some (57, false)⟩,
    ⟨(some 63), .pick (.t 57) (.c (.bool true)) (.t 62), none⟩])
  (.cond (.t 63)
   (.seq (.region false [⟨(some 64), .mov (.t 9), none⟩,
     ⟨(some 2), .mov (.t 64), none⟩,
     ⟨(some 3), .mov (.c (.int .i64 4)), none⟩])
   (.ret))
   (.skip))))
  (.region false [⟨(some 49), .mov (.t 10), none⟩,
    ⟨(some 50), .bin .add (.t 49) (.c (.int .i64 1)), none⟩,
    ⟨(some 10), .mov (.t 50), none⟩]))
def A_ref03_CheckL1 : ACode :=
  .seq (.seq (.region false [⟨(some 41), .mov (.t 9), none⟩,
    ⟨(some 42), .mov (.t 6), none⟩,
    ⟨(some 43), .bin .lss (.t 41) (.t 42), none⟩])
  (.cond (.t 43)
   (.skip)
   (.exit 2)))
  (.seq (.block 3 (.seq (.region false [⟨(some 10), .mov (.c (.int .i64 0)), none⟩])
  (.block 4 (.loop A_ref03_CheckL2))))
  (.region false [⟨(some 44), .mov (.t 9), none⟩,
    ⟨(some 45), .bin .add (.t 44) (.c (.int .i64 1)), none⟩,
    ⟨(some 9), .mov (.t 45), none⟩]))
def A_ref03_Check : AFun := ⟨65,
  .seq (.region false [⟨(some 1), .box (.t 0), none⟩,
    ⟨(some 2), .mov (.c (.int .i64 0)), none⟩,
    ⟨(some 3), .mov (.c (.int .i64 0)), none⟩])
  (.seq (.region false [⟨(some 12), .fldA 0 (.t 1), none⟩,
    ⟨(some 13), .ld none (.t 12), none⟩,
    ⟨(some 14), .call F_ref03_names [(.t 13)], none⟩,
    ⟨(some 11), .mov (.t 14), none⟩,
    ⟨(some 15), .extr (.t 11) 0, none⟩,
    ⟨(some 16), .extr (.t 11) 1, none⟩,
    ⟨(some 4), .mov (.t 15), none⟩,
    ⟨(some 5), .mov (.t 16), none⟩])
  (.seq (.seq (.region false [⟨(some 17), .mov (.t 5), none⟩,
    ⟨(some 18), .bin .neq (.t 17) (.c (.int .i64 0)), none⟩])
  (.cond (.t 18)
   (.seq (.region false [⟨(some 19), .mov (.t 4), none⟩,
     ⟨(some 20), .mov (.t 5), none⟩,
     ⟨(some 2), .mov (.t 19), none⟩,
     ⟨(some 3), .mov (.t 20), none⟩])
   (.ret))
   (.skip)))
  (.seq (.region false [⟨(some 21), .fldA 0 (.t 1), none⟩,
    ⟨(some 22), .ld none (.t 21), none⟩,
    ⟨(some 23), .len (.t 22), none⟩,
    ⟨(some 6), .mov (.t 23), none⟩])
  (.seq (.seq (.region false [⟨(some 24), .fldA 1 (.t 1), none⟩,
    ⟨(some 25), .ld none (.t 24), none⟩,
    ⟨(some 26), .len (.t 25), none⟩,
    ⟨(some 27), .mov (.t 6), none⟩,
    ⟨(some 28), .bin .neq (.t 26) (.t 27), none⟩])
  (.cond (.t 28)
   (.seq (.region false [⟨(some 2), .mov (.c (.int .i64 (-1))), none⟩,
     ⟨(some 3), .mov (.c (.int .i64 6)), none⟩])
   (.ret))
   (.skip)))
  (.seq (.seq (.region false [⟨(some 7), .mov (.c (.int .i64 0)), none⟩])
  (.block 0 (.loop A_ref03_CheckL0)))
  (.seq (.region false [⟨(some 39), .ld (some 2) (.t 1), none⟩,
    ⟨(some 40), .call F_ref03_downs [(.t 39)], none⟩,
    ⟨(some 8), .mov (.t 40), none⟩])
  (.seq (.seq (.region false [⟨(some 9), .mov (.c (.int .i64 0)), none⟩])
  (.block 2 (.loop A_ref03_CheckL1)))
  (.seq (.region false [⟨(some 2), .mov (.c (.int .i64 0)), none⟩,
    ⟨(some 3), .mov (.c (.int .i64 0)), none⟩])
  (.ret))))))))),
  [.tmp 2, .tmp 3]⟩

/- lattice_Make -/
def A_lattice_MakeL0 : ACode :=
  .seq (.region false [⟨(some 35), .bin .lss (.t 34) (.t 33), none⟩])
  (.seq (.cond (.t 35)
   (.skip)
   (.exit 0))
  (.seq (.block 1 (.seq (.region false [⟨(some 36), .mov (.t 34), none⟩,
    ⟨(some 37), .idxA 1 (.t 32) (.t 34), none⟩,
    ⟨(some 38), .ld none (.t 37), none⟩,
    ⟨(some 7), .mov (.t 36), none⟩,
    ⟨(some 8), .mov (.t 38), none⟩])
  (.seq (.region false [⟨(some 40), .mov (.t 8), none⟩,
    ⟨(some 41), .mov (.t 0), none⟩,
    ⟨(some 42), .len (.t 41), none⟩,
    ⟨(some 43), .call F_lattice_row [(.t 40), (.t 42)], none⟩,
    ⟨(some 39), .mov (.t 43), none⟩,
    ⟨(some 44), .extr (.t 39) 0, none⟩,
    ⟨(some 45), .extr (.t 39) 1, none⟩,
    ⟨(some 9), .mov (.t 44), none⟩,
    ⟨(some 10), .mov (.t 45), none⟩])
  (.seq (.seq (.region false [⟨(some 46), .mov (.t 10), none⟩,
    ⟨(some 47), .not (.t 46), none⟩])
  (.cond (.t 47)
   (.seq (.region false [⟨(some 48), .build [.sl .ex [], .sl .ex []] [], none⟩,
     ⟨(some 49), .mov (.t 7), none⟩,
     ⟨none, .st 2 (.t 4) (.t 48), none⟩,
     ⟨(some 5), .mov (.t 49), none⟩,
     ⟨(some 6), .mov (.c (.int .i64 6)), none⟩])
   (.ret))
   (.skip)))
  (.region false [⟨(some 50), .fldA 1 (.t 4), none⟩,
    ⟨(some 51), .ld none (.t 50), none⟩,
    ⟨(some 52), .mov (.t 9), none⟩,
    ⟨(some 53), .bsl 1 (.int .u8 0) 1 [(0, (.t 52))], none⟩,
    ⟨(some 54), .app 1 1 (.t 51) (.t 53), none⟩,
    ⟨(some 55), .fldA 1 (.t 4), none⟩,
    ⟨none, .st 1 (.t 55) (.t 54), none⟩])))))
  (.region false [⟨(some 56), .bin .add (.t 34) (.c (.int .i64 1)), none⟩,
    ⟨(some 34), .mov (.t 56), none⟩])))
def A_lattice_Make : AFun := ⟨68,
  .seq (.region false [⟨(some 4), .alloc [.sl .ex [], .sl .ex []], none⟩,
    ⟨(some 5), .mov (.c (.int .i64 0)), none⟩,
    ⟨(some 6), .mov (.c (.int .i64 0)), none⟩])
  (.seq (.seq (.region false [⟨(some 13), .mov (.t 0), none⟩,
    ⟨(some 14), .len (.t 13), none⟩,
    ⟨(some 15), .bin .lss (.t 14) (.c (.int .i64 1)), none⟩,
    ⟨(some 16), .mov (.t 15), none⟩,
    ⟨(some 17), .mov (.t 0), some (16, false)⟩,
    ⟨(some 18), .len (.t 17), some (16, false)⟩,
    ⟨(some 19), .bin .gtr (.t 18) (.c (.int .i64 8)), some (16, false)⟩,
    ⟨(some 20), .pick (.t 16) (.c (.bool true)) (.t 19), none⟩,
    ⟨(some 21), .mov (.t 20), none⟩,
    ⟨(some 22), .mov (.t 1), some (21, false)⟩,
    ⟨(some 23), .len (.t 22), some (21, false)⟩,
    ⟨(some 24), .mov (.t 0), some (21, false)⟩,
    ⟨(some 25), .len (.t 24), some (21, false)⟩,
    ⟨(some 26), .bin .neq (.t 23) (.t 25), some (21, false)⟩,
    ⟨(some 27), .pick (.t 21) (.c (.bool true)) (.t 26), none⟩])
  (.cond (.t 27)
   (.seq (.region false [⟨(some 28), .build [.sl .ex [], .sl .ex []] [], none⟩,
     ⟨none, .st 2 (.t 4) (.t 28), none⟩,
     ⟨(some 5), .mov (.c (.int .i64 (-1))), none⟩,
     ⟨(some 6), .mov (.c (.int .i64 3)), none⟩])
   (.ret))
   (.skip)))
  (.seq (.region false [⟨(some 29), .mov (.t 0), none⟩,
    ⟨(some 30), .call F_slices_Clone_string_string [(.t 29)], none⟩,
    ⟨(some 31), .fldA 0 (.t 4), none⟩,
    ⟨none, .st 1 (.t 31) (.t 30), none⟩])
  (.seq (.seq (.region false [⟨(some 32), .mov (.t 1), none⟩,
    ⟨(some 33), .len (.t 32), none⟩,
    ⟨(some 34), .mov (.c (.int .i64 0)), none⟩])
  (.block 0 (.loop A_lattice_MakeL0)))
  (.seq (.seq (.region false [⟨(some 58), .ld (some 2) (.t 4), none⟩,
    ⟨(some 59), .call F_lattice_Check [(.t 58)], none⟩,
    ⟨(some 57), .mov (.t 59), none⟩,
    ⟨(some 60), .extr (.t 57) 0, none⟩,
    ⟨(some 61), .extr (.t 57) 1, none⟩,
    ⟨(some 11), .mov (.t 60), none⟩,
    ⟨(some 12), .mov (.t 61), none⟩])
  (.seq (.region false [⟨(some 62), .mov (.t 12), none⟩,
    ⟨(some 63), .bin .neq (.t 62) (.c (.int .i64 0)), none⟩])
  (.cond (.t 63)
   (.seq (.region false [⟨(some 64), .build [.sl .ex [], .sl .ex []] [], none⟩,
     ⟨(some 65), .mov (.t 11), none⟩,
     ⟨(some 66), .mov (.t 12), none⟩,
     ⟨none, .st 2 (.t 4) (.t 64), none⟩,
     ⟨(some 5), .mov (.t 65), none⟩,
     ⟨(some 6), .mov (.t 66), none⟩])
   (.ret))
   (.skip))))
  (.seq (.region false [⟨(some 67), .ld (some 2) (.t 4), none⟩,
    ⟨none, .st 2 (.t 4) (.t 67), none⟩,
    ⟨(some 5), .mov (.c (.int .i64 0)), none⟩,
    ⟨(some 6), .mov (.c (.int .i64 0)), none⟩])
  (.ret)))))),
  [.cell (some 2) 4, .tmp 5, .tmp 6]⟩

/- ref03_Make -/
def A_ref03_MakeL0 : ACode :=
  .seq (.seq (.region false [⟨(some 33), .mov (.t 8), none⟩,
    ⟨(some 34), .mov (.t 1), none⟩,
    ⟨(some 35), .len (.t 34), none⟩,
    ⟨(some 36), .bin .lss (.t 33) (.t 35), none⟩])
  (.cond (.t 36)
   (.skip)
   (.exit 0)))
  (.seq (.block 1 (.seq (.region false [⟨(some 40), .mov (.t 1), none⟩,
    ⟨(some 41), .mov (.t 8), none⟩,
    ⟨(some 42), .idxA 1 (.t 40) (.t 41), none⟩,
    ⟨(some 43), .ld none (.t 42), none⟩,
    ⟨(some 44), .mov (.t 0), none⟩,
    ⟨(some 45), .len (.t 44), none⟩,
    ⟨(some 46), .call F_ref03_row [(.t 43), (.t 45)], none⟩,
    ⟨(some 39), .mov (.t 46), none⟩,
    ⟨(some 47), .extr (.t 39) 0, none⟩,
    ⟨(some 48), .extr (.t 39) 1, none⟩,
    ⟨(some 9), .mov (.t 47), none⟩,
    ⟨(some 10), .mov (.t 48), none⟩])
  (.seq (.seq (.region false [⟨(some 49), .mov (.t 10), none⟩,
    ⟨(some 50), .not (.t 49), none⟩])
  (.cond (.t 50)
   (.seq (.region false [⟨(some 51), .build [.sl .ex [], .sl .ex []] [], none⟩,
     ⟨(some 52), .mov (.t 8), none⟩,
     ⟨none, .st 2 (.t 4) (.t 51), none⟩,
     ⟨(some 5), .mov (.t 52), none⟩,
     ⟨(some 6), .mov (.c (.int .i64 6)), none⟩])
   (.ret))
   (.skip)))
  (.region false [⟨(some 53), .fldA 1 (.t 7), none⟩,
    ⟨(some 54), .ld none (.t 53), none⟩,
    ⟨(some 55), .mov (.t 9), none⟩,
    ⟨(some 56), .bsl 1 (.int .u8 0) 1 [(0, (.t 55))], none⟩,
    ⟨(some 57), .app 1 1 (.t 54) (.t 56), none⟩,
    ⟨(some 58), .fldA 1 (.t 7), none⟩,
    ⟨none, .st 1 (.t 58) (.t 57), none⟩]))))
  (.region false [⟨(some 37), .mov (.t 8), none⟩,
    ⟨(some 38), .bin .add (.t 37) (.c (.int .i64 1)), none⟩,
    ⟨(some 8), .mov (.t 38), none⟩]))
def A_ref03_Make : AFun := ⟨70,
  .seq (.region false [⟨(some 4), .alloc [.sl .ex [], .sl .ex []], none⟩,
    ⟨(some 5), .mov (.c (.int .i64 0)), none⟩,
    ⟨(some 6), .mov (.c (.int .i64 0)), none⟩])
  (.seq (.seq (.region false [⟨(some 13), .mov (.t 0), none⟩,
    ⟨(some 14), .len (.t 13), none⟩,
    ⟨(some 15), .bin .lss (.t 14) (.c (.int .i64 1)), none⟩,
    ⟨(some 16), .mov (.t 15), none⟩,
    ⟨(some 17), .mov (.t 0), some (16, false)⟩,
    ⟨(some 18), .len (.t 17), some (16, false)⟩,
    ⟨(some 19), .bin .gtr (.t 18) (.c (.int .i64 8)), some (16, false)⟩,
    ⟨(some 20), .pick (.t 16) (.c (.bool true)) (.t 19), none⟩,
    ⟨(some 21), .mov (.t 20), none⟩,
    ⟨(some 22), .mov (.t 1), some (21, false)⟩,
    ⟨(some 23), .len (.t 22), some (21, false)⟩,
    ⟨(some 24), .mov (.t 0), some (21, false)⟩,
    ⟨(some 25), .len (.t 24), some (21, false)⟩,
    ⟨(some 26), .bin .neq (.t 23) (.t 25), some (21, false)⟩,
    ⟨(some 27), .pick (.t 21) (.c (.bool true)) (.t 26), none⟩])
  (.cond (.t 27)
   (.seq (.region false [⟨(some 28), .build [.sl .ex [], .sl .ex []] [], none⟩,
     ⟨none, .st 2 (.t 4) (.t 28), none⟩,
     ⟨(some 5), .mov (.c (.int .i64 (-1))), none⟩,
     ⟨(some 6), .mov (.c (.int .i64 3)), none⟩])
   (.ret))
   (.skip)))
  (.seq (.region false [⟨(some 29), .bsl 1 (.str []) 0 [], none⟩,
    ⟨(some 30), .mov (.t 0), none⟩,
    ⟨(some 31), .app 1 16 (.t 29) (.t 30), none⟩,
    ⟨(some 32), .build [.sl .ex [], .sl .ex []] [(0, 1, (.t 31))], none⟩,
    ⟨(some 7), .alloc [.sl .ex [], .sl .ex []], none⟩,
    ⟨none, .st 2 (.t 7) (.t 32), none⟩])
  (.seq (.seq (.region false [⟨(some 8), .mov (.c (.int .i64 0)), none⟩])
  (.block 0 (.loop A_ref03_MakeL0)))
  (.seq (.region false [⟨(some 60), .ld (some 2) (.t 7), none⟩,
    ⟨(some 61), .call F_ref03_Check [(.t 60)], none⟩,
    ⟨(some 59), .mov (.t 61), none⟩,
    ⟨(some 62), .extr (.t 59) 0, none⟩,
    ⟨(some 63), .extr (.t 59) 1, none⟩,
    ⟨(some 11), .mov (.t 62), none⟩,
    ⟨(some 12), .mov (.t 63), none⟩])
  (.seq (.seq (.region false [⟨(some 64), .mov (.t 12), none⟩,
    ⟨(some 65), .bin .neq (.t 64) (.c (.int .i64 0)), none⟩])
  (.cond (.t 65)
   (.seq (.region false [⟨(some 66), .build [.sl .ex [], .sl .ex []] [], none⟩,
     ⟨(some 67), .mov (.t 11), none⟩,
     ⟨(some 68), .mov (.t 12), none⟩,
     ⟨none, .st 2 (.t 4) (.t 66), none⟩,
     ⟨(some 5), .mov (.t 67), none⟩,
     ⟨(some 6), .mov (.t 68), none⟩])
   (.ret))
   (.skip)))
  (.seq (.region false [⟨(some 69), .ld (some 2) (.t 7), none⟩,
    ⟨none, .st 2 (.t 4) (.t 69), none⟩,
    ⟨(some 5), .mov (.c (.int .i64 0)), none⟩,
    ⟨(some 6), .mov (.c (.int .i64 0)), none⟩])
  (.ret))))))),
  [.cell (some 2) 4, .tmp 5, .tmp 6]⟩

/- law03_Diamond -/
def A_law03_Diamond : AFun := ⟨4,
  .seq (.region false [⟨(some 0), .alloc [.sl .ex [], .sl .ex []], none⟩])
  (.seq (.region false [⟨(some 1), .bsl 1 (.str []) 4 [(0, (.c (.str [108, 111, 119]))), (1, (.c (.str [97, 110, 110]))), (2, (.c (.str [98, 111, 98]))), (3, (.c (.str [116, 111, 112])))], none⟩,
    ⟨(some 2), .bsl 1 (.int .u8 0) 4 [(0, (.c (.int .u8 15))), (1, (.c (.int .u8 10))), (2, (.c (.int .u8 12))), (3, (.c (.int .u8 8)))], none⟩,
    ⟨(some 3), .build [.sl .ex [], .sl .ex []] [(0, 1, (.t 1)), (1, 1, (.t 2))], none⟩,
    ⟨none, .st 2 (.t 0) (.t 3), none⟩])
  (.ret)),
  [.cell (some 2) 0]⟩

/- lattice_Print -/
def A_lattice_PrintL1 : ACode :=
  .seq (.region false [⟨(some 28), .bin .lss (.t 27) (.t 26), none⟩])
  (.seq (.cond (.t 28)
   (.skip)
   (.exit 2))
  (.seq (.block 3 (.seq (.region false [⟨(some 29), .mov (.t 27), none⟩,
    ⟨(some 8), .mov (.t 29), none⟩])
  (.region false [⟨(some 30), .fldA 1 (.t 1), none⟩,
    ⟨(some 31), .ld none (.t 30), none⟩,
    ⟨(some 32), .mov (.t 6), none⟩,
    ⟨(some 33), .idxA 1 (.t 31) (.t 32), none⟩,
    ⟨(some 34), .ld none (.t 33), none⟩,
    ⟨(some 35), .mov (.t 8), none⟩,
    ⟨(some 36), .bin .shr (.t 34) (.t 35), none⟩,
    ⟨(some 37), .bin .and (.t 36) (.c (.int .u8 1)), none⟩,
    ⟨(some 38), .bin .add (.c (.int .u8 48)) (.t 37), none⟩,
    ⟨(some 39), .call F_strings_Builder_WriteByte [(.t 5), (.t 38)], none⟩])))
  (.region false [⟨(some 40), .bin .add (.t 27) (.c (.int .i64 1)), none⟩,
    ⟨(some 27), .mov (.t 40), none⟩])))
def A_lattice_PrintL0 : ACode :=
  .seq (.region false [⟨(some 17), .bin .lss (.t 16) (.t 15), none⟩])
  (.seq (.cond (.t 17)
   (.skip)
   (.exit 0))
  (.seq (.block 1 (.seq (.region false [⟨(some 18), .mov (.t 16), none⟩,
    ⟨(some 19), .idxA 1 (.t 14) (.t 16), none⟩,
    ⟨(some 20), .ld none (.t 19), none⟩,
    ⟨(some 6), .mov (.t 18), none⟩,
    ⟨(some 7), .mov (.t 20), none⟩])
  (.seq (.region false [⟨(some 21), .mov (.t 7), none⟩,
    ⟨(some 22), .bin .add (.t 21) (.c (.str [32])), none⟩,
    ⟨(some 23), .call F_strings_Builder_WriteString [(.t 5), (.t 22)], none⟩])
  (.seq (.seq (.region false [⟨(some 24), .fldA 0 (.t 1), none⟩,
    ⟨(some 25), .ld none (.t 24), none⟩,
    ⟨(some 26), .len (.t 25), none⟩,
    ⟨(some 27), .mov (.c (.int .i64 0)), none⟩])
  (.block 2 (.loop A_lattice_PrintL1)))
  (.region false [⟨(some 41), .call F_strings_Builder_WriteByte [(.t 5), (.c (.int .u8 10))], none⟩])))))
  (.region false [⟨(some 42), .bin .add (.t 16) (.c (.int .i64 1)), none⟩,
    ⟨(some 16), .mov (.t 42), none⟩])))
def A_lattice_Print : AFun := ⟨44,
  .seq (.region false [⟨(some 1), .box (.t 0), none⟩,
    ⟨(some 2), .mov (.c (.str [])), none⟩,
    ⟨(some 3), .mov (.c (.int .i64 0)), none⟩])
  (.seq (.seq (.region false [⟨(some 9), .call F_lattice_asked [(.t 1), (.c (.sl .ex []))], none⟩,
    ⟨(some 4), .mov (.t 9), none⟩])
  (.seq (.region false [⟨(some 10), .mov (.t 4), none⟩,
    ⟨(some 11), .bin .neq (.t 10) (.c (.int .i64 0)), none⟩])
  (.cond (.t 11)
   (.seq (.region false [⟨(some 12), .mov (.t 4), none⟩,
     ⟨(some 2), .mov (.c (.str [])), none⟩,
     ⟨(some 3), .mov (.t 12), none⟩])
   (.ret))
   (.skip))))
  (.seq (.region false [⟨(some 5), .allocB 83 5, none⟩])
  (.seq (.seq (.region false [⟨(some 13), .fldA 0 (.t 1), none⟩,
    ⟨(some 14), .ld none (.t 13), none⟩,
    ⟨(some 15), .len (.t 14), none⟩,
    ⟨(some 16), .mov (.c (.int .i64 0)), none⟩])
  (.block 0 (.loop A_lattice_PrintL0)))
  (.seq (.region false [⟨(some 43), .call F_strings_Builder_String [(.t 5)], none⟩,
    ⟨(some 2), .mov (.t 43), none⟩,
    ⟨(some 3), .mov (.c (.int .i64 0)), none⟩])
  (.ret))))),
  [.tmp 2, .tmp 3]⟩

section
variable {X : Cx} (hX : X.P = Go.Proofs.Tryd.prog)
include hX
theorem A_law03_LatticeAlgebra_ok : compileFun X.P F_law03_LatticeAlgebra (fun _ => false) = some A_law03_LatticeAlgebra := by rw [hX]; kernel_rfl
theorem A_law03_LatticeOrders_ok : compileFun X.P F_law03_LatticeOrders (fun _ => false) = some A_law03_LatticeOrders := by rw [hX]; kernel_rfl
theorem A_law03_LatticeBounds_ok : compileFun X.P F_law03_LatticeBounds (fun _ => false) = some A_law03_LatticeBounds := by rw [hX]; kernel_rfl
theorem A_law03_LatticeFinds_ok : compileFun X.P F_law03_LatticeFinds (fun _ => false) = some A_law03_LatticeFinds := by rw [hX]; kernel_rfl
theorem A_law03_LatticeChecks_ok : compileFun X.P F_law03_LatticeChecks (fun _ => false) = some A_law03_LatticeChecks := by rw [hX]; kernel_rfl
theorem A_law03_LatticeDuals_ok : compileFun X.P F_law03_LatticeDuals (fun _ => false) = some A_law03_LatticeDuals := by rw [hX]; kernel_rfl
theorem A_law03_LatticeKnown_ok : compileFun X.P F_law03_LatticeKnown (fun _ => false) = some A_law03_LatticeKnown := by rw [hX]; kernel_rfl
theorem A_law03_LatticeTexts_ok : compileFun X.P F_law03_LatticeTexts (fun _ => false) = some A_law03_LatticeTexts := by rw [hX]; kernel_rfl
theorem A_law03_Far_ok : compileFun X.P F_law03_Far (fun _ => false) = some A_law03_Far := by rw [hX]; kernel_rfl
theorem A_law03_awake_ok : compileFun X.P F_law03_awake (fun _ => false) = some A_law03_awake := by rw [hX]; kernel_rfl
theorem A_lattice_Check_ok : compileFun X.P F_lattice_Check (fun _ => false) = some A_lattice_Check := by rw [hX]; kernel_rfl
theorem A_lattice_Join_ok : compileFun X.P F_lattice_Join (fun _ => false) = some A_lattice_Join := by rw [hX]; kernel_rfl
theorem A_lattice_Meet_ok : compileFun X.P F_lattice_Meet (fun _ => false) = some A_lattice_Meet := by rw [hX]; kernel_rfl
theorem A_law03_below_ok : compileFun X.P F_law03_below (fun _ => false) = some A_law03_below := by rw [hX]; kernel_rfl
theorem A_lattice_Leq_ok : compileFun X.P F_lattice_Leq (fun _ => false) = some A_lattice_Leq := by rw [hX]; kernel_rfl
theorem A_ref03_Leq_ok : compileFun X.P F_ref03_Leq (fun _ => false) = some A_ref03_Leq := by rw [hX]; kernel_rfl
theorem A_ref03_Join_ok : compileFun X.P F_ref03_Join (fun _ => false) = some A_ref03_Join := by rw [hX]; kernel_rfl
theorem A_ref03_Meet_ok : compileFun X.P F_ref03_Meet (fun _ => false) = some A_ref03_Meet := by rw [hX]; kernel_rfl
theorem A_lattice_Bottom_ok : compileFun X.P F_lattice_Bottom (fun _ => false) = some A_lattice_Bottom := by rw [hX]; kernel_rfl
theorem A_ref03_Bottom_ok : compileFun X.P F_ref03_Bottom (fun _ => false) = some A_ref03_Bottom := by rw [hX]; kernel_rfl
theorem A_lattice_Top_ok : compileFun X.P F_lattice_Top (fun _ => false) = some A_lattice_Top := by rw [hX]; kernel_rfl
theorem A_ref03_Top_ok : compileFun X.P F_ref03_Top (fun _ => false) = some A_ref03_Top := by rw [hX]; kernel_rfl
theorem A_lattice_Find_ok : compileFun X.P F_lattice_Find (fun _ => false) = some A_lattice_Find := by rw [hX]; kernel_rfl
theorem A_ref03_Find_ok : compileFun X.P F_ref03_Find (fun _ => false) = some A_ref03_Find := by rw [hX]; kernel_rfl
theorem A_lattice_Covers_ok : compileFun X.P F_lattice_Covers (fun _ => false) = some A_lattice_Covers := by rw [hX]; kernel_rfl
theorem A_ref03_Covers_ok : compileFun X.P F_ref03_Covers (fun _ => false) = some A_ref03_Covers := by rw [hX]; kernel_rfl
theorem A_law03_pairs_ok : compileFun X.P F_law03_pairs (fun _ => false) = some A_law03_pairs := by rw [hX]; kernel_rfl
theorem A_lattice_Dual_ok : compileFun X.P F_lattice_Dual (fun _ => false) = some A_lattice_Dual := by rw [hX]; kernel_rfl
theorem A_ref03_Dual_ok : compileFun X.P F_ref03_Dual (fun _ => false) = some A_ref03_Dual := by rw [hX]; kernel_rfl
theorem A_ref03_Same_ok : compileFun X.P F_ref03_Same (fun _ => false) = some A_ref03_Same := by rw [hX]; kernel_rfl
theorem A_law03_long_ok : compileFun X.P F_law03_long (fun _ => false) = some A_law03_long := by rw [hX]; kernel_rfl
theorem A_ref03_Check_ok : compileFun X.P F_ref03_Check (fun _ => false) = some A_ref03_Check := by rw [hX]; kernel_rfl
theorem A_lattice_Make_ok : compileFun X.P F_lattice_Make (fun _ => false) = some A_lattice_Make := by rw [hX]; kernel_rfl
theorem A_ref03_Make_ok : compileFun X.P F_ref03_Make (fun _ => false) = some A_ref03_Make := by rw [hX]; kernel_rfl
theorem A_law03_Diamond_ok : compileFun X.P F_law03_Diamond (fun _ => false) = some A_law03_Diamond := by rw [hX]; kernel_rfl
theorem A_lattice_Print_ok : compileFun X.P F_lattice_Print (fun _ => false) = some A_lattice_Print := by rw [hX]; kernel_rfl
end
end Go.Avm
