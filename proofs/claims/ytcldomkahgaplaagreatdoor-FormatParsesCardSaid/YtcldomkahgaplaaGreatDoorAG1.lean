/- The functions as they have been read. -/
import Derived.Test.YtcldomkahgaplaaGreatDoorA8
import Derived.Test.YtcldomkahgaplaaGreatDoorProg
set_option linter.all false
namespace Go.Avm
open Go
def zrT:Nat:=0
def zhe:Nat:=6
def zgx:Nat:=13
def zfX:Nat:=14
def zmm:Nat:=16
def zmp:Nat:=17
def zis:Nat:=18
def ziQ:Nat:=23
def zez:Nat:=25
def zgA:Nat:=26
def ze3:Nat:=30
def zjh:Nat:=31
def zc6:Nat:=32
def zf3:Nat:=33
def zcT:Nat:=34
def zax:Nat:=35
def zbz:Nat:=36
def zgt:Nat:=37
def zoW:Nat:=38
def zlx:Nat:=39
def zjl:Nat:=40
def zdM:Nat:=41
def zdY:Nat:=42
def zdW:Nat:=43
def zg7:Nat:=44
def zdO:Nat:=45
def zix:Nat:=46
def zl1:Nat:=51
def zlL:Nat:=52
def zd4:Nat:=53
def zhq:Nat:=54
def zcn:Nat:=55
def zgr:Nat:=57
def zdP:Nat:=58
def zjf:Nat:=59
def zc8:Nat:=60
def zjw:Nat:=61
def zjn:Nat:=62
def zda:Nat:=63
def ziA:Nat:=68
def zaK:Nat:=69
def zcH:Nat:=70
def zjd:Nat:=71
def zeR:Nat:=73
def zc9:Nat:=74
def zet:Nat:=76
def zeD:Nat:=77
def zfO:Nat:=78
def znL:Nat:=79
def zkv:Nat:=80
def ziJ:Nat:=81
def zaG:Nat:=83
def ziB:Nat:=85
def zhy:Nat:=86
def zhl:Nat:=87
def zoR:Nat:=88
def zhr:Nat:=90
def zaN:Nat:=91
def zbn:Nat:=92
def ziE:Nat:=93
def ziy:Nat:=94
def zgi:Nat:=95
def zjD:Nat:=96
def zln:Nat:=97
def zgH:Nat:=98
def zkZ:Nat:=99
def ziV:Nat:=100
def zgE:Nat:=101
def zhT:Nat:=102
def zlz:Nat:=103
def ziT:Nat:=104
def zi4:Nat:=106
def zdN:Nat:=107
def zas:Nat:=108
def zbb:Nat:=109
def zfj:Nat:=111
def zej:Nat:=113
def zfn:Nat:=114
def zei:Nat:=115
def zbe:Nat:=116
def zkT:Nat:=117
def zcD:Nat:=120
def zjc:Nat:=121
def zhH:Nat:=122
def zbS:Nat:=123
def zd1:Nat:=124
def zaA:Nat:=125
def zcP:Nat:=126
def zem:Nat:=127
def zdz:Nat:=128
def zfc:Nat:=129
def ziG:Nat:=130
def zhF:Nat:=131
def zdf:Nat:=132
def zmj:Nat:=133
def zcl:Nat:=134
def zls:Nat:=135
def zhi:Nat:=136
def zla:Nat:=137
def zjo:Nat:=138
def zkw:Nat:=139
def zfM:Nat:=140
def ziu:Nat:=141
def zjC:Nat:=142
def zcv:Nat:=143
def zi5:Nat:=145
def zat:Nat:=146
def zbU:Nat:=147
def zbZ:Nat:=148
def zb2:Nat:=149
def zqy:Nat:=151
def zod:Nat:=152
def ziO:Nat:=153
def zdD:Nat:=154
def zfQ:Nat:=155
def zbC:Nat:=156
def zjZ:Nat:=157
def zu1:Nat:=158
def zm0:Nat:=159
def zi6:Nat:=160
def zdj:Nat:=161
def zbm:Nat:=162
def zcx:Nat:=164
def zbM:Nat:=165
def zfI:Nat:=166
def zcJ:Nat:=167
def ziI:Nat:=168
def zeM:Nat:=169
def zhk:Nat:=170
def zfk:Nat:=171
def zjA:Nat:=172
def zdi:Nat:=173
def zms:Nat:=174
def zc5:Nat:=175
def zhu:Nat:=176
def zlG:Nat:=177
def zlv:Nat:=178
def ze6:Nat:=179
def zhp:Nat:=180
def zbo:Nat:=181
def ziW:Nat:=185
def zdH:Nat:=186
def zjb:Nat:=187
def zie:Nat:=188
def zcm:Nat:=189
def zb5:Nat:=190
def zbP:Nat:=191
def zgP:Nat:=192
def zgl:Nat:=193
def zed:Nat:=194
def zct:Nat:=202
def zbG:Nat:=203
def zfF:Nat:=204
def zcu:Nat:=205
def zpW:Nat:=206
def zes:Nat:=207
def zcK:Nat:=208
def zi3:Nat:=209
def zgk:Nat:=210
def zhd:Nat:=211
def zgW:Nat:=213
def zjB:Nat:=215
def zaR:Nat:=217
def zb0:Nat:=219
def ziD:Nat:=220
def zfv:Nat:=224
def zbq:Nat:=225
def zel:Nat:=226
def zoL:Nat:=227
def zaY:Nat:=228
def zpk:Nat:=229
def zcz:Nat:=234
def zlt:AFun:=⟨41,
  .seq (vR [vO 2 (.mov (.c (.bool false)))])
 (.seq (.seq (vR [vM 9 0,vO 10 (.lenS (.t 9)),vO 11 (.bin .gtr (.t 10) (vI 3000))])
 (.cond (.t 11)
 (.seq (vR [vO 12 (.call zgx []),vM 2 12])
 (.ret))
 (.skip)))
 (.seq (vR [vM 14 0,vO 15 (.call zez [(.t 14)]),vM 13 15,vE 16 13 0,vE 17 13 1,vE 18 13 2,vO 3 (.alloc [.int .i64 0,.int .i64 0,.int .i64 0,.int .i64 0,.sl .ex []]),⟨none,.st 5 (.t 3) (.t 16),none⟩,vM 4 17,vM 5 18])
 (.seq (vR [vM 20 0,vO 21 (.call zgA [(.t 20)]),vM 19 21,vE 22 19 0,vE 23 19 1,vE 24 19 2,vO 6 (.alloc [.int .i64 0,.int .i64 0,.int .i64 0,.int .i64 0,.sl .ex []]),⟨none,.st 5 (.t 6) (.t 22),none⟩,vM 7 23,vM 8 24])
 (.seq (vR [vO 25 (.ld (some 5) (.t 3)),vO 26 (.ld (some 5) (.t 6)),vO 27 (.call zmp [(.t 25),(.t 26)]),vM 28 27,⟨some 29,.mov (.t 4),some (28,true)⟩,⟨some 30,.mov (.t 7),some (28,true)⟩,⟨some 31,.bin .eql (.t 29) (.t 30),some (28,true)⟩,vO 32 (.pick (.t 28) (.t 31) (.c (.bool false))),vM 33 32,⟨some 34,.mov (.t 5),some (33,true)⟩,⟨some 35,.mov (.t 8),some (33,true)⟩,⟨some 36,.bin .eql (.t 34) (.t 35),some (33,true)⟩,vO 37 (.pick (.t 33) (.t 36) (.c (.bool false))),vM 38 37,⟨some 39,.call zgx [],some (38,true)⟩,vO 40 (.pick (.t 38) (.t 39) (.c (.bool false))),vM 2 40])
 (.ret))))),
  [.tmp 2]⟩
def zn3:AFun:=⟨76,
  .seq (vR [vO 0 (.mov (.c (.bool false)))])
 (.seq (vR [vO 14 (.call ze3 []),vO 15 (.call ziQ [(.t 14)]),vM 13 15,vE 16 13 0,vE 17 13 1,vM 1 16,vM 2 17])
 (.seq (vR [vO 19 (.call ze3 []),vO 20 (.call zfX [(.t 19)]),vM 18 20,vE 21 18 0,vE 22 18 1,vM 3 21,vM 4 22])
 (.seq (vR [vO 24 (.call zjh []),vO 25 (.call zis [(.t 24)]),vM 23 25,vE 26 23 0,vE 27 23 1,vM 5 26,vM 6 27])
 (.seq (vR [vO 29 (.call zez [(.c (.str [105,110,116,32,49,32,51,10,49,32,50,10]))]),vM 28 29,vE 30 28 0,vE 31 28 1,vE 32 28 2,vO 7 (.alloc [.int .i64 0,.int .i64 0,.int .i64 0,.int .i64 0,.sl .ex []]),⟨none,.st 5 (.t 7) (.t 30),none⟩,vM 8 31,vM 9 32])
 (.seq (vR [vO 34 (.call zmm [(.c (.str [49,32,50,10,51,10]))]),vM 33 34,vE 35 33 0,vE 36 33 1,vE 37 33 2,vO 10 (.alloc [.int .i64 0,.int .i64 0,.int .i64 0,.int .i64 0,.sl .ex []]),⟨none,.st 5 (.t 10) (.t 35),none⟩,vM 11 36,vM 12 37])
 (.seq (vR [vM 38 1,vO 39 (.bin .eql (.t 38) (.c (.str [105,110,116,32,50,32,50,32,50,10,49,32,45,50,48,32,51,48,48,32,52,10]))),vM 40 39,⟨some 41,.mov (.t 2),some (40,true)⟩,⟨some 42,.bin .eql (.t 41) (vI 0),some (40,true)⟩,vO 43 (.pick (.t 40) (.t 42) (.c (.bool false))),vM 44 43,⟨some 45,.mov (.t 3),some (44,true)⟩,⟨some 46,.bin .eql (.t 45) (.c (.str [32,32,49,32,45,50,48,10,51,48,48,32,32,32,52,10])),some (44,true)⟩,vO 47 (.pick (.t 44) (.t 46) (.c (.bool false))),vM 48 47,⟨some 49,.mov (.t 4),some (48,true)⟩,⟨some 50,.bin .eql (.t 49) (vI 0),some (48,true)⟩,vO 51 (.pick (.t 48) (.t 50) (.c (.bool false))),vM 52 51,⟨some 53,.mov (.t 5),some (52,true)⟩,⟨some 54,.bin .eql (.t 53) (.c (.str [109,97,114,107,32,32,103,114,97,100,101,10,45,45,45,45,32,32,45,45,45,45,45,10,32,32,32,51,32,32,97,32,32,32,32,10,32,32,49,50,32,32,98,32,32,32,32,10])),some (52,true)⟩,vO 55 (.pick (.t 52) (.t 54) (.c (.bool false))),vM 56 55,⟨some 57,.mov (.t 6),some (56,true)⟩,⟨some 58,.bin .eql (.t 57) (vI 0),some (56,true)⟩,vO 59 (.pick (.t 56) (.t 58) (.c (.bool false))),vM 60 59,⟨some 61,.mov (.t 8),some (60,true)⟩,⟨some 62,.bin .eql (.t 61) (vI 2),some (60,true)⟩,vO 63 (.pick (.t 60) (.t 62) (.c (.bool false))),vM 64 63,⟨some 65,.mov (.t 9),some (64,true)⟩,⟨some 66,.bin .eql (.t 65) (vI 6),some (64,true)⟩,vO 67 (.pick (.t 64) (.t 66) (.c (.bool false))),vM 68 67,⟨some 69,.mov (.t 11),some (68,true)⟩,⟨some 70,.bin .eql (.t 69) (vI 2),some (68,true)⟩,vO 71 (.pick (.t 68) (.t 70) (.c (.bool false))),vM 72 71,⟨some 73,.mov (.t 12),some (72,true)⟩,⟨some 74,.bin .eql (.t 73) (vI 11),some (72,true)⟩,vO 75 (.pick (.t 72) (.t 74) (.c (.bool false))),vM 0 75])
 (.ret))))))),
  [.tmp 0]⟩
def zeq:ACode:=
  .seq (.seq (vR [vM 42 9,vO 43 (.fldA 4 (.t 1)),vO 44 (.ld none (.t 43)),vO 45 (.len (.t 44)),vB 46 .lss 42 45])
 (.cond (.t 46)
 (.skip)
 (.exit 2)))
 (.seq (.block 3 (vR [vM 52 8,vO 53 (.fldA 4 (.t 1)),vO 54 (.ld none (.t 53)),vM 55 9,vO 56 (.idxA 1 (.t 54) (.t 55)),vO 57 (.ld none (.t 56)),vO 58 (.bsl 1 (.int .i64 0) 1 [(0,(.t 57))]),vO 59 (.app 1 8 (.t 52) (.t 58)),vM 8 59]))
 (vR [vM 47 9,vO 48 (.fldA 2 (.t 1)),vO 49 (.idxP 2 1 (.t 48) (vI 1)),vO 50 (.ld none (.t 49)),vB 51 .add 47 50,vM 9 51]))
def zcB:ACode:=
  .seq (vR [vB 39 .lss 38 37])
 (.seq (.cond (.t 39)
 (.skip)
 (.exit 0))
 (.seq (.block 1 (.seq (vR [vM 40 38,vM 7 40])
 (.seq (vR [vO 8 (.mov (.c (.sl .ex [])))])
 (.seq (.seq (vR [vM 41 7,vM 9 41])
 (.block 2 (.loop zeq)))
 (vR [vM 60 6,vO 61 (.fldA 0 (.t 1)),vO 62 (.ld none (.t 61)),vM 63 8,vO 64 (.call zcT [(.t 62),(.t 63),(vI 0)]),vO 65 (.bsl 3 (.agg [.sl .ex [],.int .i64 0,.nilF]) 1 [(0,(.t 64))]),vO 66 (.app 3 40 (.t 60) (.t 65)),vM 6 66])))))
 (vR [vO 67 (.bin .add (.t 38) (vI 1)),vM 38 67])))
def zcC:ACode:=
  .seq (vR [vB 77 .lss 76 75])
 (.seq (.cond (.t 77)
 (.skip)
 (.exit 6))
 (.seq (.block 7 (.seq (vR [vO 78 (.idxA 3 (.t 74) (.t 76)),vO 79 (.ld (some 3) (.t 78)),vO 14 (.alloc [.sl .ex [],.int .i64 0,.nilF]),⟨none,.st 3 (.t 14) (.t 79),none⟩])
 (.region true [vM 80 12,vO 81 (.fldA 2 (.t 14)),vO 82 (.ld none (.t 81)),vO 83 (.fldA 0 (.t 14)),vO 84 (.ld none (.t 83)),vM 85 11,vO 86 (.idxA 1 (.t 84) (.t 85)),vO 87 (.ld none (.t 86)),vO 88 (.fldA 1 (.t 14)),vO 89 (.ld none (.t 88)),vO 90 (.callv (.t 82) [(.t 87),(.t 89)]),vO 91 (.bsl 1 (.str []) 1 [(0,(.t 90))]),vO 92 (.app 1 16 (.t 80) (.t 91)),vM 12 92])))
 (vR [vO 93 (.bin .add (.t 76) (vI 1)),vM 76 93])))
def zcA:ACode:=
  .seq (vR [vB 72 .lss 71 70])
 (.seq (.cond (.t 72)
 (.skip)
 (.exit 4))
 (.seq (.block 5 (.seq (vR [vM 73 71,vM 11 73])
 (.seq (vR [vO 12 (.mov (.c (.sl .ex [])))])
 (.seq (.seq (vR [vM 74 6,vO 75 (.len (.t 74)),vO 76 (.mov (vI 0))])
 (.block 6 (.loop zcC)))
 (vR [vM 94 12,vM 95 5,vO 96 (.call zf3 [(.t 94),(.t 95)]),vO 97 (.bin .add (.t 96) (.c (.str [10]))),vO 98 (.call zax [(.t 10),(.t 97)])])))))
 (vR [vO 99 (.bin .add (.t 71) (vI 1)),vM 71 99])))
def zd0:AFun:=⟨101,
  .seq (vR [vO 1 (.box (.t 0)),vO 2 (.mov (.c (.str []))),vO 3 (.mov (vI 0))])
 (.seq (.seq (vR [vO 15 (.ld (some 5) (.t 1)),vO 16 (.call zc6 [(.t 15)]),vM 4 16])
 (.seq (vR [vM 17 4,vO 18 (.bin .neq (.t 17) (vI 0))])
 (.cond (.t 18)
 (.seq (vR [vM 19 4,vO 2 (.mov (.c (.str []))),vM 3 19])
 (.ret))
 (.skip))))
 (.seq (vR [vO 5 (.mov (.c (.str [])))])
 (.seq (.seq (vR [vO 20 (.fldA 0 (.t 1)),vO 21 (.ld none (.t 20)),vO 22 (.bin .eql (.t 21) (vI 1))])
 (.cond (.t 22)
 (vR [vO 5 (.mov (.c (.str [32])))])
 (.skip)))
 (.seq (.seq (vR [vO 23 (.fldA 1 (.t 1)),vO 24 (.ld none (.t 23)),vO 25 (.bin .lss (.t 24) (vI 2))])
 (.cond (.t 25)
 (.seq (vR [vO 26 (.fldA 0 (.t 1)),vO 27 (.ld none (.t 26)),vO 28 (.fldA 4 (.t 1)),vO 29 (.ld none (.t 28)),vO 30 (.call zcT [(.t 27),(.t 29),(vI 0)]),vO 31 (.fld 0 none (.t 30)),vM 32 5,vO 33 (.call zf3 [(.t 31),(.t 32)]),vO 34 (.bin .add (.t 33) (.c (.str [10]))),vM 2 34,vO 3 (.mov (vI 0))])
 (.ret))
 (.skip)))
 (.seq (vR [vO 6 (.mov (.c (.sl .ex [])))])
 (.seq (.seq (vR [vO 35 (.fldA 2 (.t 1)),vO 36 (.idxP 2 1 (.t 35) (vI 1)),vO 37 (.ld none (.t 36)),vO 38 (.mov (vI 0))])
 (.block 0 (.loop zcB)))
 (.seq (vR [vO 10 (.allocB 61 5)])
 (.seq (.seq (vR [vO 68 (.fldA 2 (.t 1)),vO 69 (.idxP 2 1 (.t 68) (vI 0)),vO 70 (.ld none (.t 69)),vO 71 (.mov (vI 0))])
 (.block 4 (.loop zcA)))
 (.seq (vR [vO 100 (.call zbz [(.t 10)]),vM 2 100,vO 3 (.mov (vI 0))])
 (.ret)))))))))),
  [.tmp 2,.tmp 3]⟩
def zhj:ACode:=
  .seq (vR [vB 29 .lss 28 27])
 (.seq (.cond (.t 29)
 (.skip)
 (.exit 1))
 (.seq (.block 2 (.seq (vR [vM 30 28,vO 31 (.idxA 1 (.t 26) (.t 28)),vO 32 (.ld none (.t 31)),vM 6 30,vM 7 32])
 (.seq (vR [vM 34 7,vO 35 (.call zoW [(.t 34)]),vM 33 35,vE 36 33 0,vE 37 33 1,vM 8 36,vM 9 37])
 (.seq (.block 3 (.seq (vR [vM 39 9,vO 40 (.bin .neq (.t 39) (vI 0)),vM 38 40])
 (.cond (.t 38)
 (.seq (vR [vO 41 (.build [.int .i64 0,.int .i64 0,.int .i64 0,.int .i64 0,.sl .ex []] []),vM 42 6,vO 43 (.bin .add (.t 42) (vI 1)),vM 44 9,⟨none,.st 5 (.t 2) (.t 41),none⟩,vM 3 43,vM 4 44])
 (.ret))
 (.seq (vR [vM 46 6,vO 47 (.bin .gtr (.t 46) (vI 0)),vM 48 47,⟨some 49,.mov (.t 8),some (48,true)⟩,⟨some 50,.len (.t 49),some (48,true)⟩,⟨some 51,.fldA 2 (.t 2),some (48,true)⟩,⟨some 52,.idxP 2 1 (.t 51) (vI 1),some (48,true)⟩,⟨some 53,.ld none (.t 52),some (48,true)⟩,⟨some 54,.bin .neq (.t 50) (.t 53),some (48,true)⟩,vO 55 (.pick (.t 48) (.t 54) (.c (.bool false))),vM 45 55])
 (.cond (.t 45)
 (.seq (vR [vO 56 (.build [.int .i64 0,.int .i64 0,.int .i64 0,.int .i64 0,.sl .ex []] []),vM 57 6,vO 58 (.bin .add (.t 57) (vI 1)),⟨none,.st 5 (.t 2) (.t 56),none⟩,vM 3 58,vO 4 (.mov (vI 11))])
 (.ret))
 (.skip))))))
 (.seq (vR [vM 59 6,vO 60 (.bin .add (.t 59) (vI 1)),vM 61 8,vO 62 (.len (.t 61)),vO 63 (.build [.int .i64 0,.int .i64 0] [(0,1,(.t 60)),(1,1,(.t 62))]),vO 64 (.fldA 2 (.t 2)),⟨none,.st 2 (.t 64) (.t 63),none⟩])
 (vR [vO 65 (.fldA 4 (.t 2)),vO 66 (.ld none (.t 65)),vM 67 8,vO 68 (.app 1 8 (.t 66) (.t 67)),vO 69 (.fldA 4 (.t 2)),⟨none,.st 1 (.t 69) (.t 68),none⟩]))))))
 (vR [vO 70 (.bin .add (.t 28) (vI 1)),vM 28 70])))
def zqo:AFun:=⟨77,
  .seq (vR [vO 2 (.alloc [.int .i64 0,.int .i64 0,.int .i64 0,.int .i64 0,.sl .ex []]),vO 3 (.mov (vI 0)),vO 4 (.mov (vI 0))])
 (.seq (vR [vM 11 0,vO 12 (.call zgt [(.t 11)]),vM 10 12,vE 13 10 0,vE 14 10 1,vM 5 13,vM 4 14])
 (.seq (.block 0 (.seq (vR [vM 16 4,vO 17 (.bin .neq (.t 16) (vI 0)),vM 15 17])
 (.cond (.t 15)
 (.seq (vR [vO 18 (.build [.int .i64 0,.int .i64 0,.int .i64 0,.int .i64 0,.sl .ex []] []),vM 19 4,⟨none,.st 5 (.t 2) (.t 18),none⟩,vO 3 (.mov (vI 0)),vM 4 19])
 (.ret))
 (.seq (vR [vM 21 5,vO 22 (.len (.t 21)),vO 23 (.bin .eql (.t 22) (vI 0)),vM 20 23])
 (.cond (.t 20)
 (.seq (vR [vO 24 (.build [.int .i64 0,.int .i64 0,.int .i64 0,.int .i64 0,.sl .ex []] []),⟨none,.st 5 (.t 2) (.t 24),none⟩,vO 3 (.mov (vI 0)),vO 4 (.mov (vI 6))])
 (.ret))
 (.skip))))))
 (.seq (vR [vO 25 (.build [.int .i64 0,.int .i64 0,.int .i64 0,.int .i64 0,.sl .ex []] [(0,1,(vI 1)),(1,1,(vI 2))]),⟨none,.st 5 (.t 2) (.t 25),none⟩])
 (.seq (.seq (vR [vM 26 5,vO 27 (.len (.t 26)),vO 28 (.mov (vI 0))])
 (.block 1 (.loop zhj)))
 (.seq (.seq (vR [vO 71 (.fldA 4 (.t 2)),vO 72 (.ld none (.t 71)),vO 73 (.len (.t 72)),vO 74 (.bin .gtr (.t 73) (vI 400))])
 (.cond (.t 74)
 (.seq (vR [vO 75 (.build [.int .i64 0,.int .i64 0,.int .i64 0,.int .i64 0,.sl .ex []] []),⟨none,.st 5 (.t 2) (.t 75),none⟩,vO 3 (.mov (vI 0)),vO 4 (.mov (vI 15))])
 (.ret))
 (.skip)))
 (.seq (vR [vO 76 (.ld (some 5) (.t 2)),⟨none,.st 5 (.t 2) (.t 76),none⟩,vO 3 (.mov (vI 0)),vO 4 (.mov (vI 0))])
 (.ret))))))),
  [.cell (some 5) 2,.tmp 3,.tmp 4]⟩
def zhc:ACode:=
  .seq (.seq (vR [vM 19 5,vO 20 (.fldA 4 (.t 2)),vO 21 (.ld none (.t 20)),vO 22 (.len (.t 21)),vB 23 .lss 19 22])
 (.cond (.t 23)
 (.skip)
 (.exit 0)))
 (.seq (.block 1 (.seq (.region true [vO 26 (.fldA 4 (.t 2)),vO 27 (.ld none (.t 26)),vM 28 5,vO 29 (.idxA 1 (.t 27) (.t 28)),vO 30 (.ld none (.t 29)),vO 31 (.fldA 4 (.t 3)),vO 32 (.ld none (.t 31)),vM 33 5,vO 34 (.idxA 1 (.t 32) (.t 33)),vO 35 (.ld none (.t 34)),vB 36 .neq 30 35])
 (.cond (.t 36)
 (.seq (vR [vO 4 (.mov (.c (.bool false)))])
 (.ret))
 (.skip))))
 (vR [vM 24 5,vO 25 (.bin .add (.t 24) (vI 1)),vM 5 25]))
def zrw:AFun:=⟨37,
  .seq (vR [vO 2 (.box (.t 0)),vO 3 (.box (.t 1)),vO 4 (.mov (.c (.bool false)))])
 (.seq (.seq (vR [vO 6 (.ld (some 5) (.t 2)),vO 7 (.ld (some 5) (.t 3)),vO 8 (.call zlx [(.t 6),(.t 7)]),vO 9 (.not (.t 8)),vM 10 9,⟨some 11,.fldA 4 (.t 2),some (10,false)⟩,⟨some 12,.ld none (.t 11),some (10,false)⟩,⟨some 13,.len (.t 12),some (10,false)⟩,⟨some 14,.fldA 4 (.t 3),some (10,false)⟩,⟨some 15,.ld none (.t 14),some (10,false)⟩,⟨some 16,.len (.t 15),some (10,false)⟩,⟨some 17,.bin .neq (.t 13) (.t 16),some (10,false)⟩,vO 18 (.pick (.t 10) (.c (.bool true)) (.t 17))])
 (.cond (.t 18)
 (.seq (vR [vO 4 (.mov (.c (.bool false)))])
 (.ret))
 (.skip)))
 (.seq (.seq (vR [vO 5 (.mov (vI 0))])
 (.block 0 (.loop zhc)))
 (.seq (vR [vO 4 (.mov (.c (.bool true)))])
 (.ret)))),
  [.tmp 4]⟩
def zfK:ACode:=
  .seq (vR [vB 34 .lss 33 32])
 (.seq (.cond (.t 34)
 (.skip)
 (.exit 0))
 (.seq (.block 1 (.seq (vR [vM 35 33,vO 8 (.alloc [.int .i64 0]),⟨none,.st 1 (.t 8) (.t 35),none⟩])
 (vR [vM 36 7,vO 37 (.mkf zdO [] [(.t 8)]),vO 38 (.callv (.t 36) [(.t 37)])])))
 (vR [vO 39 (.bin .add (.t 33) (vI 1)),vM 33 39])))
def znr:AFun:=⟨41,
  .seq (vR [vO 1 (.box (.t 0)),vO 2 (.mov (.c (.str []))),vO 3 (.mov (vI 0))])
 (.seq (vR [vO 10 (.ld (some 2) (.t 1)),vO 11 (.call zjl [(.t 10)]),vM 9 11,vE 12 9 0,vE 13 9 1,vO 4 (.alloc [.sl .ex []]),⟨none,.st 1 (.t 4) (.t 12),none⟩,vM 5 13])
 (.seq (.seq (vR [vM 14 5,vO 15 (.bin .neq (.t 14) (vI 0)),vM 16 15,⟨some 17,.ld none (.t 4),some (16,false)⟩,⟨some 18,.len (.t 17),some (16,false)⟩,⟨some 19,.bin .eql (.t 18) (vI 0),some (16,false)⟩,vO 20 (.pick (.t 16) (.c (.bool true)) (.t 19))])
 (.cond (.t 20)
 (.seq (vR [vM 21 5,vO 2 (.mov (.c (.str []))),vM 3 21])
 (.ret))
 (.skip)))
 (.seq (vR [vO 6 (.allocB 61 5)])
 (.seq (vR [vO 22 (.mkf zdM [] [(.t 4),(.t 6)]),vM 7 22])
 (.seq (vR [vM 23 7,vO 24 (.mkf zdY [] [(.t 1)]),vO 25 (.callv (.t 23) [(.t 24)])])
 (.seq (vR [vM 26 7,vO 27 (.callv (.t 26) [(.c (.clo zdW [] []))])])
 (.seq (.seq (vR [vO 28 (.ld none (.t 4)),vO 29 (.idxA 3 (.t 28) (vI 0)),vO 30 (.fldA 0 (.t 29)),vO 31 (.ld none (.t 30)),vO 32 (.len (.t 31)),vO 33 (.mov (vI 0))])
 (.block 0 (.loop zfK)))
 (.seq (vR [vO 40 (.call zbz [(.t 6)]),vM 2 40,vO 3 (.mov (vI 0))])
 (.ret))))))))),
  [.tmp 2,.tmp 3]⟩
def ze5:ACode:=
  vR [vM 7 38]
def ze7:ACode:=
  .block 1 (vR [vO 39 (.fldA 0 (.t 1)),vO 40 (.ld none (.t 39)),vM 41 7,vO 42 (.call zcn [(.t 40),(.t 41)]),vO 43 (.bin .add (.t 42) (.c (.str [10]))),vO 44 (.call zax [(.t 5),(.t 43)])])
def zjj:AFun:=⟨46,
  .seq (vR [vO 1 (.box (.t 0)),vO 2 (.mov (.c (.str []))),vO 3 (.mov (vI 0))])
 (.seq (.seq (vR [vO 8 (.ld (some 5) (.t 1)),vO 9 (.call zc6 [(.t 8)]),vM 4 9])
 (.seq (vR [vM 10 4,vO 11 (.bin .neq (.t 10) (vI 0))])
 (.cond (.t 11)
 (.seq (vR [vM 12 4,vO 2 (.mov (.c (.str []))),vM 3 12])
 (.ret))
 (.skip))))
 (.seq (vR [vO 5 (.allocB 61 5)])
 (.seq (.seq (vR [vO 13 (.fldA 0 (.t 1)),vO 14 (.ld none (.t 13)),vO 15 (.bin .eql (.t 14) (vI 2))])
 (.cond (.t 15)
 (vR [vO 16 (.call zax [(.t 5),(.c (.str [99,104,97,114,32]))])])
 (vR [vO 17 (.call zax [(.t 5),(.c (.str [105,110,116,32]))])])))
 (.seq (vR [vO 18 (.fldA 1 (.t 1)),vO 19 (.ld none (.t 18)),vO 20 (.fldA 2 (.t 1)),vO 21 (.idxP 2 1 (.t 20) (vI 0)),vO 22 (.ld none (.t 21)),vO 23 (.fldA 2 (.t 1)),vO 24 (.idxP 2 1 (.t 23) (vI 1)),vO 25 (.ld none (.t 24)),vO 26 (.bsl 1 (.int .i64 0) 3 [(0,(.t 19)),(1,(.t 22)),(2,(.t 25))]),vM 6 26])
 (.seq (vR [vM 27 6,vO 28 (.fldA 1 (.t 1)),vO 29 (.ld none (.t 28)),vO 30 (.bin .add (.t 29) (vI 1)),vO 31 (.sls 1 (.t 27) none (some (.t 30)) none),vO 32 (.call zd4 [(.t 31)]),vO 33 (.bin .add (.t 32) (.c (.str [10]))),vO 34 (.call zax [(.t 5),(.t 33)])])
 (.seq (.seq (vR [vO 35 (.fldA 4 (.t 1)),vO 36 (.ld none (.t 35)),vO 37 (.call zhq [(.t 36)])])
 (.block 0 (.rangeF (.t 37) [38] ze5 ze7)))
 (.seq (vR [vO 45 (.call zbz [(.t 5)]),vM 2 45,vO 3 (.mov (vI 0))])
 (.ret)))))))),
  [.tmp 2,.tmp 3]⟩
def zgm:ACode:=
  .seq (.seq (vR [vM 51 9,vO 52 (.bin .gtr (.t 51) (vI 0))])
 (.cond (.t 52)
 (.skip)
 (.exit 1)))
 (.seq (.block 2 (.seq (.seq (vR [vM 55 3,vM 56 5,vO 57 (.len (.t 56)),vB 58 .eql 55 57])
 (.cond (.t 58)
 (.seq (vR [vM 59 6,vM 60 3,vO 61 (.bin .add (.t 60) (vI 1)),vO 62 (.callv (.t 59) [(.t 61)]),vE 63 62 0,vE 64 62 1,vE 65 62 2,⟨none,.st 5 (.t 2) (.t 63),none⟩,vM 3 64,vM 4 65])
 (.ret))
 (.skip)))
 (.seq (.region true [vO 67 (.fldA 0 (.t 2)),vO 68 (.ld none (.t 67)),vM 69 5,vM 70 3,vO 71 (.idxA 1 (.t 69) (.t 70)),vO 72 (.ld none (.t 71)),vM 73 9,vO 74 (.mm false (.t 73) (vI 20)),vO 75 (.call zc8 [(.t 68),(.t 72),(.t 74)]),vM 66 75,vE 76 66 0,vE 77 66 1,vM 10 76,vM 11 77])
 (.seq (.seq (vR [vM 78 11,vO 79 (.not (.t 78))])
 (.cond (.t 79)
 (.seq (vR [vM 80 6,vM 81 3,vO 82 (.bin .add (.t 81) (vI 1)),vO 83 (.callv (.t 80) [(.t 82)]),vE 84 83 0,vE 85 83 1,vE 86 83 2,⟨none,.st 5 (.t 2) (.t 84),none⟩,vM 3 85,vM 4 86])
 (.ret))
 (.skip)))
 (.seq (vR [vO 87 (.fldA 4 (.t 2)),vO 88 (.ld none (.t 87)),vM 89 10,vO 90 (.app 1 8 (.t 88) (.t 89)),vO 91 (.fldA 4 (.t 2)),⟨none,.st 1 (.t 91) (.t 90),none⟩])
 (vR [vM 92 9,vM 93 10,vO 94 (.len (.t 93)),vB 95 .sub 92 94,vM 9 95]))))))
 (vR [vM 53 3,vO 54 (.bin .add (.t 53) (vI 1)),vM 3 54]))
def zns:AFun:=⟨114,
  .seq (vR [vO 2 (.alloc [.int .i64 0,.int .i64 0,.int .i64 0,.int .i64 0,.sl .ex []]),vO 3 (.mov (vI 0)),vO 4 (.mov (vI 0))])
 (.seq (vR [vM 14 0,vO 15 (.call zgt [(.t 14)]),vM 13 15,vE 16 13 0,vE 17 13 1,vM 5 16,vM 4 17])
 (.seq (.seq (vR [vM 18 4,vO 19 (.bin .neq (.t 18) (vI 0))])
 (.cond (.t 19)
 (.seq (vR [vO 20 (.build [.int .i64 0,.int .i64 0,.int .i64 0,.int .i64 0,.sl .ex []] []),vM 21 4,⟨none,.st 5 (.t 2) (.t 20),none⟩,vO 3 (.mov (vI 0)),vM 4 21])
 (.ret))
 (.skip)))
 (.seq (vR [vO 6 (.mov (.c (.clo zdP [] [])))])
 (.seq (.seq (vR [vM 22 5,vO 23 (.len (.t 22)),vO 24 (.bin .eql (.t 23) (vI 0))])
 (.cond (.t 24)
 (.seq (vR [vM 25 6,vO 26 (.callv (.t 25) [(vI 1)]),vE 27 26 0,vE 28 26 1,vE 29 26 2,⟨none,.st 5 (.t 2) (.t 27),none⟩,vM 3 28,vM 4 29])
 (.ret))
 (.skip)))
 (.seq (vR [vM 31 5,vO 32 (.idxA 1 (.t 31) (vI 0)),vO 33 (.ld none (.t 32)),vO 34 (.call zjf [(.t 33)]),vM 30 34,vE 35 30 0,vE 36 30 1,vE 37 30 2,⟨none,.st 5 (.t 2) (.t 35),none⟩,vM 7 36,vM 8 37])
 (.seq (.block 0 (.seq (vR [vM 39 8,vO 40 (.not (.t 39)),vM 38 40])
 (.cond (.t 38)
 (.seq (vR [vM 41 6,vO 42 (.callv (.t 41) [(vI 1)]),vE 43 42 0,vE 44 42 1,vE 45 42 2,⟨none,.st 5 (.t 2) (.t 43),none⟩,vM 3 44,vM 4 45])
 (.ret))
 (.seq (vR [vM 47 7,vO 48 (.bin .gtr (.t 47) (vI 400)),vM 46 48])
 (.cond (.t 46)
 (.seq (vR [vO 49 (.build [.int .i64 0,.int .i64 0,.int .i64 0,.int .i64 0,.sl .ex []] []),⟨none,.st 5 (.t 2) (.t 49),none⟩,vO 3 (.mov (vI 1)),vO 4 (.mov (vI 15))])
 (.ret))
 (.skip))))))
 (.seq (vR [vO 3 (.mov (vI 1))])
 (.seq (.seq (vR [vM 50 7,vM 9 50])
 (.block 1 (.loop zgm)))
 (.seq (.seq (vR [vM 96 3,vM 97 5,vO 98 (.len (.t 97)),vB 99 .lss 96 98])
 (.cond (.t 99)
 (.seq (vR [vM 100 6,vM 101 3,vO 102 (.bin .add (.t 101) (vI 1)),vO 103 (.callv (.t 100) [(.t 102)]),vE 104 103 0,vE 105 103 1,vE 106 103 2,⟨none,.st 5 (.t 2) (.t 104),none⟩,vM 3 105,vM 4 106])
 (.ret))
 (.skip)))
 (.seq (.seq (vR [vO 107 (.ld (some 5) (.t 2)),vO 108 (.call zc6 [(.t 107)]),vM 12 108])
 (.seq (vR [vM 109 12,vO 110 (.bin .neq (.t 109) (vI 0))])
 (.cond (.t 110)
 (.seq (vR [vO 111 (.build [.int .i64 0,.int .i64 0,.int .i64 0,.int .i64 0,.sl .ex []] []),vM 112 12,⟨none,.st 5 (.t 2) (.t 111),none⟩,vO 3 (.mov (vI 0)),vM 4 112])
 (.ret))
 (.skip))))
 (.seq (vR [vO 113 (.ld (some 5) (.t 2)),⟨none,.st 5 (.t 2) (.t 113),none⟩,vO 3 (.mov (vI 0)),vO 4 (.mov (vI 0))])
 (.ret)))))))))))),
  [.cell (some 5) 2,.tmp 3,.tmp 4]⟩
def zcQ:ACode:=
  .seq (.seq (vR [vO 41 (.fldA 4 (.t 7)),vO 42 (.ld none (.t 41)),vO 43 (.len (.t 42)),vM 44 8,vB 45 .lss 43 44])
 (.cond (.t 45)
 (.skip)
 (.exit 0)))
 (.block 1 (.seq (vR [vM 46 8,vO 47 (.fldA 4 (.t 7)),vO 48 (.ld none (.t 47)),vO 49 (.len (.t 48)),vB 50 .sub 46 49,vM 11 50])
 (.seq (.seq (vR [vM 51 11,vO 52 (.bin .gtr (.t 51) (vI 20))])
 (.cond (.t 52)
 (vR [vO 11 (.mov (vI 20))])
 (.skip)))
 (.seq (.seq (vR [vM 53 10,vM 54 5,vO 55 (.len (.t 54)),vB 56 .geq 53 55])
 (.cond (.t 56)
 (.seq (vR [vO 57 (.build [.int .i64 0,.int .i64 0,.int .i64 0,.int .i64 0,.sl .ex []] []),vM 58 10,vO 59 (.bin .add (.t 58) (vI 1)),⟨none,.st 5 (.t 2) (.t 57),none⟩,vM 3 59,vO 4 (.mov (vI 6))])
 (.ret))
 (.skip)))
 (.seq (.region true [vO 61 (.fldA 0 (.t 7)),vO 62 (.ld none (.t 61)),vM 63 5,vM 64 10,vO 65 (.idxA 1 (.t 63) (.t 64)),vO 66 (.ld none (.t 65)),vM 67 11,vO 68 (.call zda [(.t 62),(.t 66),(.t 67)]),vM 60 68,vE 69 60 0,vE 70 60 1,vM 12 69,vM 13 70])
 (.seq (.seq (vR [vM 71 13,vO 72 (.not (.t 71))])
 (.cond (.t 72)
 (.seq (vR [vO 73 (.build [.int .i64 0,.int .i64 0,.int .i64 0,.int .i64 0,.sl .ex []] []),vM 74 10,vO 75 (.bin .add (.t 74) (vI 1)),⟨none,.st 5 (.t 2) (.t 73),none⟩,vM 3 75,vO 4 (.mov (vI 6))])
 (.ret))
 (.skip)))
 (.seq (vR [vO 76 (.fldA 4 (.t 7)),vO 77 (.ld none (.t 76)),vM 78 12,vO 79 (.app 1 8 (.t 77) (.t 78)),vO 80 (.fldA 4 (.t 7)),⟨none,.st 1 (.t 80) (.t 79),none⟩])
 (vR [vM 81 10,vO 82 (.bin .add (.t 81) (vI 1)),vM 10 82]))))))))
def zoa:AFun:=⟨97,
  .seq (vR [vO 2 (.alloc [.int .i64 0,.int .i64 0,.int .i64 0,.int .i64 0,.sl .ex []]),vO 3 (.mov (vI 0)),vO 4 (.mov (vI 0))])
 (.seq (vR [vM 15 0,vO 16 (.call zjw [(.t 15)]),vM 14 16,vE 17 14 0,vE 18 14 1,vM 5 17,vM 6 18])
 (.seq (.seq (vR [vM 19 6,vO 20 (.bin .neq (.t 19) (vI 0))])
 (.cond (.t 20)
 (.seq (vR [vO 21 (.build [.int .i64 0,.int .i64 0,.int .i64 0,.int .i64 0,.sl .ex []] []),vM 22 6,⟨none,.st 5 (.t 2) (.t 21),none⟩,vO 3 (.mov (vI 0)),vM 4 22])
 (.ret))
 (.skip)))
 (.seq (.seq (vR [vM 23 5,vO 24 (.len (.t 23)),vO 25 (.bin .eql (.t 24) (vI 0))])
 (.cond (.t 25)
 (.seq (vR [vO 26 (.build [.int .i64 0,.int .i64 0,.int .i64 0,.int .i64 0,.sl .ex []] []),⟨none,.st 5 (.t 2) (.t 26),none⟩,vO 3 (.mov (vI 1)),vO 4 (.mov (vI 6))])
 (.ret))
 (.skip)))
 (.seq (vR [vM 28 5,vO 29 (.idxA 1 (.t 28) (vI 0)),vO 30 (.ld none (.t 29)),vO 31 (.call zjn [(.t 30)]),vM 27 31,vE 32 27 0,vE 33 27 1,vE 34 27 2,vO 7 (.alloc [.int .i64 0,.int .i64 0,.int .i64 0,.int .i64 0,.sl .ex []]),⟨none,.st 5 (.t 7) (.t 32),none⟩,vM 8 33,vM 9 34])
 (.seq (.seq (vR [vM 35 9,vO 36 (.not (.t 35))])
 (.cond (.t 36)
 (.seq (vR [vO 37 (.build [.int .i64 0,.int .i64 0,.int .i64 0,.int .i64 0,.sl .ex []] []),⟨none,.st 5 (.t 2) (.t 37),none⟩,vO 3 (.mov (vI 1)),vO 4 (.mov (vI 6))])
 (.ret))
 (.skip)))
 (.seq (.seq (vR [vM 38 8,vO 39 (.bin .gtr (.t 38) (vI 400))])
 (.cond (.t 39)
 (.seq (vR [vO 40 (.build [.int .i64 0,.int .i64 0,.int .i64 0,.int .i64 0,.sl .ex []] []),⟨none,.st 5 (.t 2) (.t 40),none⟩,vO 3 (.mov (vI 1)),vO 4 (.mov (vI 15))])
 (.ret))
 (.skip)))
 (.seq (vR [vO 10 (.mov (vI 1))])
 (.seq (.block 0 (.loop zcQ))
 (.seq (.seq (vR [vM 83 10,vM 84 5,vO 85 (.len (.t 84)),vB 86 .lss 83 85])
 (.cond (.t 86)
 (.seq (vR [vO 87 (.build [.int .i64 0,.int .i64 0,.int .i64 0,.int .i64 0,.sl .ex []] []),vM 88 10,vO 89 (.bin .add (.t 88) (vI 1)),⟨none,.st 5 (.t 2) (.t 87),none⟩,vM 3 89,vO 4 (.mov (vI 6))])
 (.ret))
 (.skip)))
 (.seq (vR [vO 90 (.ld (some 5) (.t 7)),vO 91 (.call zix [(.t 90)]),vM 6 91])
 (.seq (.seq (vR [vM 92 6,vO 93 (.bin .neq (.t 92) (vI 0))])
 (.cond (.t 93)
 (.seq (vR [vO 94 (.build [.int .i64 0,.int .i64 0,.int .i64 0,.int .i64 0,.sl .ex []] []),vM 95 6,⟨none,.st 5 (.t 2) (.t 94),none⟩,vO 3 (.mov (vI 0)),vM 4 95])
 (.ret))
 (.skip)))
 (.seq (vR [vO 96 (.ld (some 5) (.t 7)),⟨none,.st 5 (.t 2) (.t 96),none⟩,vO 3 (.mov (vI 0)),vO 4 (.mov (vI 0))])
 (.ret))))))))))))),
  [.cell (some 5) 2,.tmp 3,.tmp 4]⟩
def zlI:AFun:=⟨4,
  .seq (vR [vO 0 (.alloc [.int .i64 0,.int .i64 0,.int .i64 0,.int .i64 0,.sl .ex []])])
 (.seq (vR [vO 1 (.build [.int .i64 0,.int .i64 0] [(0,1,(vI 2)),(1,1,(vI 2))]),vO 2 (.bsl 1 (.int .i64 0) 4 [(0,(vI 1)),(1,(vI (-20))),(2,(vI 300)),(3,(vI 4))]),vO 3 (.build [.int .i64 0,.int .i64 0,.int .i64 0,.int .i64 0,.sl .ex []] [(0,1,(vI 1)),(1,1,(vI 2)),(2,2,(.t 1)),(4,1,(.t 2))]),⟨none,.st 5 (.t 0) (.t 3),none⟩])
 (.ret)),
  [.cell (some 5) 0]⟩
def znZ:AFun:=⟨10,
  .seq (vR [vO 0 (.alloc [.sl .ex [],.sl .ex []])])
 (.seq (vR [vO 1 (.bsl 1 (.str []) 2 [(0,(.c (.str [109,97,114,107]))),(1,(.c (.str [103,114,97,100,101])))]),vO 2 (.build [.int .i64 0,.int .i64 0] [(0,1,(vI 2)),(1,1,(vI 0))]),vO 3 (.bsl 1 (.int .i64 0) 2 [(0,(vI 3)),(1,(vI 12))]),vO 4 (.build [.int .i64 0,.int .i64 0,.int .i64 0,.int .i64 0,.sl .ex []] [(0,1,(vI 1)),(1,1,(vI 1)),(2,2,(.t 2)),(4,1,(.t 3))]),vO 5 (.build [.int .i64 0,.int .i64 0] [(0,1,(vI 2)),(1,1,(vI 0))]),vO 6 (.bsl 1 (.int .i64 0) 2 [(0,(vI 97)),(1,(vI 98))]),vO 7 (.build [.int .i64 0,.int .i64 0,.int .i64 0,.int .i64 0,.sl .ex []] [(0,1,(vI 2)),(1,1,(vI 1)),(2,2,(.t 5)),(4,1,(.t 6))]),vO 8 (.bsl 5 (.agg [.int .i64 0,.int .i64 0,.int .i64 0,.int .i64 0,.sl .ex []]) 2 [(0,(.t 4)),(1,(.t 7))]),vO 9 (.build [.sl .ex [],.sl .ex []] [(0,1,(.t 1)),(1,1,(.t 8))]),⟨none,.st 2 (.t 0) (.t 9),none⟩])
 (.ret)),
  [.cell (some 2) 0]⟩
def zjr:AFun:=⟨36,
  .seq (vR [vO 1 (.box (.t 0)),vO 2 (.mov (vI 0))])
 (.seq (.seq (vR [vO 5 (.fldA 0 (.t 1)),vO 6 (.ld none (.t 5)),vO 7 (.bin .neq (.t 6) (vI 1)),vM 8 7,⟨some 9,.fldA 0 (.t 1),some (8,true)⟩,⟨some 10,.ld none (.t 9),some (8,true)⟩,⟨some 11,.bin .neq (.t 10) (vI 2),some (8,true)⟩,vO 12 (.pick (.t 8) (.t 11) (.c (.bool false)))])
 (.cond (.t 12)
 (.seq (vR [vO 2 (.mov (vI 2))])
 (.ret))
 (.skip)))
 (.seq (.seq (vR [vO 14 (.fldA 1 (.t 1)),vO 15 (.ld none (.t 14)),vO 16 (.fldA 2 (.t 1)),vO 17 (.ld (some 2) (.t 16)),vO 18 (.call ziA [(.t 15),(.t 17)]),vM 13 18,vE 19 13 0,vE 20 13 1,vM 3 19,vM 4 20])
 (.block 0 (.seq (vR [vM 22 4,vO 23 (.bin .neq (.t 22) (vI 0)),vM 21 23])
 (.cond (.t 21)
 (.seq (vR [vM 24 4,vM 2 24])
 (.ret))
 (.seq (vR [vO 26 (.fldA 4 (.t 1)),vO 27 (.ld none (.t 26)),vO 28 (.len (.t 27)),vM 29 3,vB 30 .neq 28 29,vM 25 30])
 (.cond (.t 25)
 (.seq (vR [vO 2 (.mov (vI 6))])
 (.ret))
 (.seq (vR [vO 32 (.fldA 4 (.t 1)),vO 33 (.ld none (.t 32)),vO 34 (.mkf zcH [] [(.t 1)]),vO 35 (.call zaK [(.t 33),(.t 34)]),vM 31 35])
 (.cond (.t 31)
 (.seq (vR [vO 2 (.mov (vI 7))])
 (.ret))
 (.skip)))))))))
 (.seq (vR [vO 2 (.mov (vI 0))])
 (.ret)))),
  [.tmp 2]⟩
def zcw:ACode:=
  .seq (vR [vB 19 .lss 18 17])
 (.seq (.cond (.t 19)
 (.skip)
 (.exit 0))
 (.seq (.block 1 (.seq (vR [vO 20 (.idxA 1 (.t 16) (.t 18)),vO 21 (.ld none (.t 20)),vM 9 21])
 (.seq (vR [vM 22 0,vM 23 9,vO 24 (.call zl1 [(.t 22),(.t 23)]),vM 10 24])
 (.region true [vO 25 (.fldA 0 (.t 7)),vO 26 (.ld none (.t 25)),vM 27 10,vO 28 (.bsl 1 (.str []) 1 [(0,(.t 27))]),vO 29 (.app 1 16 (.t 26) (.t 28)),vO 30 (.fldA 1 (.t 7)),vO 31 (.ld none (.t 30)),vM 32 10,vO 33 (.lenS (.t 32)),vO 34 (.mm true (.t 31) (.t 33)),vO 35 (.fldA 0 (.t 7)),⟨none,.st 1 (.t 35) (.t 29),none⟩,vO 36 (.fldA 1 (.t 7)),⟨none,.st 1 (.t 36) (.t 34),none⟩]))))
 (vR [vO 37 (.bin .add (.t 18) (vI 1)),vM 18 37])))
def zkh:AFun:=⟨39,
  .seq (vR [vO 6 (.alloc [.sl .ex [],.int .i64 0,.nilF])])
 (.seq (vR [vM 11 2,vO 12 (.build [.sl .ex [],.int .i64 0,.nilF] [(1,1,(.t 11)),(2,1,(.c (.clo zeR [] [])))]),vO 7 (.alloc [.sl .ex [],.int .i64 0,.nilF]),⟨none,.st 3 (.t 7) (.t 12),none⟩])
 (.seq (.seq (vR [vM 13 0,vO 14 (.bin .eql (.t 13) (vI 1))])
 (.cond (.t 14)
 (vR [vO 15 (.fldA 2 (.t 7)),⟨none,.st 1 (.t 15) (.c (.clo zc9 [] [])),none⟩])
 (.skip)))
 (.seq (.seq (vR [vM 16 1,vO 17 (.len (.t 16)),vO 18 (.mov (vI 0))])
 (.block 0 (.loop zcw)))
 (.seq (vR [vO 38 (.ld (some 3) (.t 7)),⟨none,.st 3 (.t 6) (.t 38),none⟩])
 (.ret))))),
  [.cell (some 3) 6]⟩
def znu:AFun:=⟨26,
  .seq (vR [vO 2 (.mov (.c (.sl .ex []))),vO 3 (.mov (vI 0))])
 (.seq (.block 0 (.seq (vR [vM 6 0,vO 7 (.lenS (.t 6)),vO 8 (.bin .gtr (.t 7) (vI 1048576)),vM 5 8])
 (.cond (.t 5)
 (.seq (vR [vO 2 (.mov (.c (.sl .ex []))),vO 3 (.mov (vI 3))])
 (.ret))
 (.seq (vR [vM 10 0,vO 11 (.bin .eql (.t 10) (.c (.str []))),vM 9 11])
 (.cond (.t 9)
 (.seq (vR [vO 2 (.mov (.c (.sl .ex []))),vO 3 (.mov (vI 0))])
 (.ret))
 (.seq (vR [vM 13 0,vO 14 (.call zet [(.t 13),(.c (.str [10]))]),vO 15 (.not (.t 14)),vM 12 15])
 (.cond (.t 12)
 (.seq (vR [vO 2 (.mov (.c (.sl .ex []))),vO 3 (.mov (vI 6))])
 (.ret))
 (.skip))))))))
 (.seq (vR [vM 16 0,vM 17 0,vO 18 (.lenS (.t 17)),vO 19 (.bin .sub (.t 18) (vI 1)),vO 20 (.ssl (.t 16) none (some (.t 19))),vO 21 (.call zeD [(.t 20),(.c (.str [10]))]),vM 4 21])
 (.seq (.seq (vR [vM 22 4,vO 23 (.len (.t 22)),vO 24 (.bin .gtr (.t 23) (vI 5000))])
 (.cond (.t 24)
 (.seq (vR [vO 2 (.mov (.c (.sl .ex []))),vO 3 (.mov (vI 3))])
 (.ret))
 (.skip)))
 (.seq (vR [vM 25 4,vM 2 25,vO 3 (.mov (vI 0))])
 (.ret))))),
  [.tmp 2,.tmp 3]⟩
def zjk:ACode:=
  .seq (vR [vB 12 .lss 11 10])
 (.seq (.cond (.t 12)
 (.skip)
 (.exit 0))
 (.seq (.block 1 (.seq (vR [vO 13 (.idxA 1 (.t 9) (.t 11)),vO 14 (.ld none (.t 13)),vM 5 14])
 (.seq (vR [vM 16 5,vO 17 (.call zkv [(.t 16),(vI (-9223372036854775808)),(vI 9223372036854775807)]),vM 15 17,vE 18 15 0,vE 19 15 1,vM 6 18,vM 7 19])
 (.seq (.seq (vR [vM 20 7,vO 21 (.bin .eql (.t 20) (vI 6))])
 (.cond (.t 21)
 (.seq (vR [vM 22 7,vO 2 (.mov (.c (.sl .ex []))),vM 3 22])
 (.ret))
 (.skip)))
 (.seq (.seq (vR [vM 23 7,vO 24 (.bin .neq (.t 23) (vI 0))])
 (.cond (.t 24)
 (vR [vM 25 7,vM 3 25])
 (.skip)))
 (vR [vM 26 2,vM 27 6,vO 28 (.bsl 1 (.int .i64 0) 1 [(0,(.t 27))]),vO 29 (.app 1 8 (.t 26) (.t 28)),vM 2 29]))))))
 (vR [vO 30 (.bin .add (.t 11) (vI 1)),vM 11 30])))
def zt3:AFun:=⟨36,
  .seq (vR [vO 2 (.mov (.c (.sl .ex []))),vO 3 (.mov (vI 0))])
 (.seq (.seq (vR [vM 8 0,vO 9 (.call zfO [(.t 8),(.c (.clo znL [] []))]),vO 10 (.len (.t 9)),vO 11 (.mov (vI 0))])
 (.block 0 (.loop zjk)))
 (.seq (.seq (vR [vM 31 2,vO 32 (.len (.t 31)),vO 33 (.bin .eql (.t 32) (vI 0))])
 (.cond (.t 33)
 (.seq (vR [vO 2 (.mov (.c (.sl .ex []))),vO 3 (.mov (vI 6))])
 (.ret))
 (.skip)))
 (.seq (vR [vM 34 2,vM 35 3,vM 2 34,vM 3 35])
 (.ret)))),
  [.tmp 2,.tmp 3]⟩
section
variable {X:Cx}(hX:X.P=Go.Proofs.Tryz.prog)
include hX
theorem zmO:zaa X.P zhe vH=some zlt:=by rw[hX];kernel_rfl
theorem zoB:zaa X.P zgx vH=some zn3:=by rw[hX];kernel_rfl
theorem zmh:zaa X.P zfX vH=some zd0:=by rw[hX];kernel_rfl
theorem zqE:zaa X.P zmm vH=some zqo:=by rw[hX];kernel_rfl
theorem zqh:zaa X.P zmp vH=some zrw:=by rw[hX];kernel_rfl
theorem zoV:zaa X.P zis vH=some znr:=by rw[hX];kernel_rfl
theorem zpe:zaa X.P ziQ vH=some zjj:=by rw[hX];kernel_rfl
theorem zoo:zaa X.P zez vH=some zns:=by rw[hX];kernel_rfl
theorem zoJ:zaa X.P zgA vH=some zoa:=by rw[hX];kernel_rfl
theorem zmG:zaa X.P ze3 vH=some zlI:=by rw[hX];kernel_rfl
theorem zog:zaa X.P zjh vH=some znZ:=by rw[hX];kernel_rfl
theorem zpB:zaa X.P zc6 vH=some zjr:=by rw[hX];kernel_rfl
theorem zmt:zaa X.P zcT vH=some zkh:=by rw[hX];kernel_rfl
theorem zpv:zaa X.P zgt vH=some znu:=by rw[hX];kernel_rfl
theorem zst:zaa X.P zoW vH=some zt3:=by rw[hX];kernel_rfl
end
end Go.Avm
