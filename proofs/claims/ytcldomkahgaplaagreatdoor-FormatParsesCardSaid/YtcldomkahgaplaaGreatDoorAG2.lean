/- The functions as they have been read. -/
import Derived.Test.YtcldomkahgaplaaGreatDoorAG1
import Derived.Test.YtcldomkahgaplaaGreatDoorProg
set_option linter.all false
namespace Go.Avm
open Go
def zql:AFun:=⟨24,
  .seq (vR [vO 2 (.box (.t 0)),vO 3 (.box (.t 1)),vO 4 (.mov (.c (.bool false)))])
 (.seq (vR [vO 5 (.fldA 0 (.t 2)),vO 6 (.ld none (.t 5)),vO 7 (.fldA 0 (.t 3)),vO 8 (.ld none (.t 7)),vB 9 .eql 6 8,vM 10 9,⟨some 11,.fldA 1 (.t 2),some (10,true)⟩,⟨some 12,.ld none (.t 11),some (10,true)⟩,⟨some 13,.fldA 1 (.t 3),some (10,true)⟩,⟨some 14,.ld none (.t 13),some (10,true)⟩,⟨some 15,.bin .eql (.t 12) (.t 14),some (10,true)⟩,vO 16 (.pick (.t 10) (.t 15) (.c (.bool false))),vM 17 16,⟨some 18,.fldA 2 (.t 2),some (17,true)⟩,⟨some 19,.ld (some 2) (.t 18),some (17,true)⟩,⟨some 20,.fldA 2 (.t 3),some (17,true)⟩,⟨some 21,.ld (some 2) (.t 20),some (17,true)⟩,⟨some 22,.aeq false [0,0] (.t 19) (.t 21),some (17,true)⟩,vO 23 (.pick (.t 17) (.t 22) (.c (.bool false))),vM 4 23])
 (.ret)),
  [.tmp 4]⟩
def zf1:ACode:=
  .seq (vR [vB 21 .lss 20 19])
 (.seq (.cond (.t 21)
 (.skip)
 (.exit 0))
 (.seq (.block 1 (.seq (vR [vM 22 20,vO 23 (.idxA 5 (.t 18) (.t 20)),vO 24 (.ld (some 5) (.t 23)),vO 8 (.alloc [.int .i64 0,.int .i64 0,.int .i64 0,.int .i64 0,.sl .ex []]),vM 7 22,⟨none,.st 5 (.t 8) (.t 24),none⟩])
 (.region true [vM 25 6,vO 26 (.fldA 0 (.t 8)),vO 27 (.ld none (.t 26)),vO 28 (.fldA 4 (.t 8)),vO 29 (.ld none (.t 28)),vO 30 (.fldA 0 (.t 1)),vO 31 (.ld none (.t 30)),vM 32 7,vO 33 (.idxA 1 (.t 31) (.t 32)),vO 34 (.ld none (.t 33)),vO 35 (.lenS (.t 34)),vO 36 (.call zcT [(.t 27),(.t 29),(.t 35)]),vO 37 (.bsl 3 (.agg [.sl .ex [],.int .i64 0,.nilF]) 1 [(0,(.t 36))]),vO 38 (.app 3 40 (.t 25) (.t 37)),vM 6 38])))
 (vR [vO 39 (.bin .add (.t 20) (vI 1)),vM 20 39])))
def zoc:AFun:=⟨41,
  .seq (vR [vO 1 (.box (.t 0)),vO 2 (.mov (.c (.sl .ex []))),vO 3 (.mov (vI 0))])
 (.seq (.seq (vR [vO 10 (.ld (some 2) (.t 1)),vO 11 (.call ziJ [(.t 10)]),vM 9 11,vE 12 9 0,vE 13 9 1,vM 4 12,vM 5 13])
 (.seq (vR [vM 14 5,vO 15 (.bin .neq (.t 14) (vI 0))])
 (.cond (.t 15)
 (.seq (vR [vM 16 5,vO 2 (.mov (.c (.sl .ex []))),vM 3 16])
 (.ret))
 (.skip))))
 (.seq (vR [vO 6 (.mov (.c (.sl .ex [])))])
 (.seq (.seq (vR [vO 17 (.fldA 1 (.t 1)),vO 18 (.ld none (.t 17)),vO 19 (.len (.t 18)),vO 20 (.mov (vI 0))])
 (.block 0 (.loop zf1)))
 (.seq (vR [vM 40 6,vM 2 40,vO 3 (.mov (vI 0))])
 (.ret))))),
  [.tmp 2,.tmp 3]⟩
def zep:ACode:=
  .seq (vR [vB 10 .lss 9 8])
 (.seq (.cond (.t 10)
 (.skip)
 (.exit 0))
 (.seq (.block 1 (.seq (vR [vM 11 9,vO 12 (.idxA 3 (.t 7) (.t 9)),vO 13 (.ld (some 3) (.t 12)),vO 6 (.alloc [.sl .ex [],.int .i64 0,.nilF]),vM 5 11,⟨none,.st 3 (.t 6) (.t 13),none⟩])
 (vR [vM 14 4,vM 15 0,vM 16 5,vO 17 (.ld (some 3) (.t 6)),vO 18 (.callv (.t 15) [(.t 16),(.t 17)]),vO 19 (.bsl 1 (.str []) 1 [(0,(.t 18))]),vO 20 (.app 1 16 (.t 14) (.t 19)),vM 4 20])))
 (vR [vO 21 (.bin .add (.t 9) (vI 1)),vM 9 21])))
def zjO:AFun:=⟨26,
  .seq (vR [vO 4 (.mov (.c (.sl .ex [])))])
 (.seq (.seq (vR [vO 7 (.ld none (.t 1)),vO 8 (.len (.t 7)),vO 9 (.mov (vI 0))])
 (.block 0 (.loop zep)))
 (vR [vM 22 4,vO 23 (.call zf3 [(.t 22),(.c (.str [32,32]))]),vO 24 (.bin .add (.t 23) (.c (.str [10]))),vO 25 (.call zax [(.t 2),(.t 24)])])),
  []⟩
def zjF:AFun:=⟨16,
  .seq (vR [vO 4 (.box (.t 1)),vO 5 (.mov (.c (.str [])))])
 (.seq (.region true [vO 6 (.fldA 2 (.t 4)),vO 7 (.ld none (.t 6)),vO 8 (.fldA 0 (.t 2)),vO 9 (.ld none (.t 8)),vM 10 0,vO 11 (.idxA 1 (.t 9) (.t 10)),vO 12 (.ld none (.t 11)),vO 13 (.fldA 1 (.t 4)),vO 14 (.ld none (.t 13)),vO 15 (.callv (.t 7) [(.t 12),(.t 14)]),vM 5 15])
 (.ret)),
  [.tmp 5]⟩
def zjP:AFun:=⟨8,
  .seq (vR [vO 3 (.box (.t 1)),vO 4 (.mov (.c (.str [])))])
 (.seq (vR [vO 5 (.fldA 1 (.t 3)),vO 6 (.ld none (.t 5)),vO 7 (.call zg7 [(.c (.str [45])),(.t 6)]),vM 4 7])
 (.ret)),
  [.tmp 4]⟩
def zjU:AFun:=⟨16,
  .seq (vR [vO 4 (.box (.t 1)),vO 5 (.mov (.c (.str [])))])
 (.seq (.region true [vO 6 (.fldA 2 (.t 4)),vO 7 (.ld none (.t 6)),vO 8 (.fldA 0 (.t 4)),vO 9 (.ld none (.t 8)),vO 10 (.ld none (.t 2)),vO 11 (.idxA 1 (.t 9) (.t 10)),vO 12 (.ld none (.t 11)),vO 13 (.fldA 1 (.t 4)),vO 14 (.ld none (.t 13)),vO 15 (.callv (.t 7) [(.t 12),(.t 14)]),vM 5 15])
 (.ret)),
  [.tmp 5]⟩
def zgb:ACode:=
  .seq (.seq (vR [vM 31 5,vO 32 (.fldA 4 (.t 1)),vO 33 (.ld none (.t 32)),vO 34 (.len (.t 33)),vB 35 .lss 31 34,vM 36 35,⟨some 37,.mov (.t 4),some (36,true)⟩,⟨some 38,.bin .eql (.t 37) (vI 0),some (36,true)⟩,vO 39 (.pick (.t 36) (.t 38) (.c (.bool false)))])
 (.cond (.t 39)
 (.skip)
 (.exit 0)))
 (.seq (.block 1 (.seq (vR [vO 42 (.fldA 0 (.t 1)),vO 43 (.ld none (.t 42)),vO 44 (.bin .eql (.t 43) (vI 2)),vM 45 44,⟨some 46,.fldA 4 (.t 1),some (45,true)⟩,⟨some 47,.ld none (.t 46),some (45,true)⟩,⟨some 48,.mov (.t 5),some (45,true)⟩,⟨some 49,.idxA 1 (.t 47) (.t 48),some (45,true)⟩,⟨some 50,.ld none (.t 49),some (45,true)⟩,⟨some 51,.call zhy [(.t 50)],some (45,true)⟩,⟨some 52,.not (.t 51),some (45,true)⟩,vO 53 (.pick (.t 45) (.t 52) (.c (.bool false)))])
 (.cond (.t 53)
 (vR [vO 4 (.mov (vI 7))])
 (.skip))))
 (vR [vM 40 5,vO 41 (.bin .add (.t 40) (vI 1)),vM 5 41]))
def ziw:AFun:=⟨55,
  .seq (vR [vO 1 (.box (.t 0)),vO 2 (.mov (vI 0))])
 (.seq (.seq (vR [vO 6 (.fldA 0 (.t 1)),vO 7 (.ld none (.t 6)),vO 8 (.bin .neq (.t 7) (vI 1)),vM 9 8,⟨some 10,.fldA 0 (.t 1),some (9,true)⟩,⟨some 11,.ld none (.t 10),some (9,true)⟩,⟨some 12,.bin .neq (.t 11) (vI 2),some (9,true)⟩,vO 13 (.pick (.t 9) (.t 12) (.c (.bool false)))])
 (.cond (.t 13)
 (.seq (vR [vO 2 (.mov (vI 2))])
 (.ret))
 (.skip)))
 (.seq (vR [vO 15 (.fldA 1 (.t 1)),vO 16 (.ld none (.t 15)),vO 17 (.fldA 2 (.t 1)),vO 18 (.ld (some 2) (.t 17)),vO 19 (.call ziB [(.t 16),(.t 18)]),vM 14 19,vE 20 14 0,vE 21 14 1,vM 3 20,vM 4 21])
 (.seq (.seq (vR [vM 22 4,vO 23 (.bin .eql (.t 22) (vI 0)),vM 24 23,⟨some 25,.fldA 4 (.t 1),some (24,true)⟩,⟨some 26,.ld none (.t 25),some (24,true)⟩,⟨some 27,.len (.t 26),some (24,true)⟩,⟨some 28,.mov (.t 3),some (24,true)⟩,⟨some 29,.bin .neq (.t 27) (.t 28),some (24,true)⟩,vO 30 (.pick (.t 24) (.t 29) (.c (.bool false)))])
 (.cond (.t 30)
 (vR [vO 4 (.mov (vI 6))])
 (.skip)))
 (.seq (.seq (vR [vO 5 (.mov (vI 0))])
 (.block 0 (.loop zgb)))
 (.seq (vR [vM 54 4,vM 2 54])
 (.ret)))))),
  [.tmp 2]⟩
def zqO:AFun:=⟨20,
  .seq (vR [vO 4 (.mov (.c (.str [])))])
 (.seq (.block 0 (.seq (vR [vM 6 0,vO 7 (.bin .eql (.t 6) (vI 1)),vM 5 7])
 (.cond (.t 5)
 (.seq (vR [vM 8 1,vO 9 (.call zaN [(.t 8),(vI 10)]),vM 4 9])
 (.ret))
 (.seq (vR [vM 11 1,vO 12 (.bin .geq (.t 11) (vI 32)),vM 13 12,⟨some 14,.mov (.t 1),some (13,true)⟩,⟨some 15,.bin .leq (.t 14) (vI 126),some (13,true)⟩,vO 16 (.pick (.t 13) (.t 15) (.c (.bool false))),vM 10 16])
 (.cond (.t 10)
 (.seq (vR [vM 17 1,vO 18 (.conv .i32 (.t 17)),vO 19 (.r2s (.t 18)),vM 4 19])
 (.ret))
 (.skip))))))
 (.seq (vR [vO 4 (.mov (.c (.str [46])))])
 (.ret))),
  [.tmp 4]⟩
def zv9:AFun:=⟨17,
  .seq (vR [vO 2 (.mov (.c (.bool false)))])
 (.seq (vR [vM 3 0,vO 4 (.bin .geq (.t 3) (vI 0)),vM 5 4,⟨some 6,.mov (.t 0),some (5,true)⟩,⟨some 7,.bin .leq (.t 6) (vI 1114111),some (5,true)⟩,vO 8 (.pick (.t 5) (.t 7) (.c (.bool false))),vM 9 8,⟨some 10,.mov (.t 0),some (9,true)⟩,⟨some 11,.bin .lss (.t 10) (vI 55296),some (9,true)⟩,⟨some 12,.mov (.t 11),some (9,true)⟩,⟨some 13,.mov (.t 0),some (12,false)⟩,⟨some 14,.bin .gtr (.t 13) (vI 57343),some (12,false)⟩,⟨some 15,.pick (.t 12) (.c (.bool true)) (.t 14),some (9,true)⟩,vO 16 (.pick (.t 9) (.t 15) (.c (.bool false))),vM 2 16])
 (.ret)),
  [.tmp 2]⟩
def zeo:ACode:=
  .seq (vR [vB 9 .lss 8 7])
 (.seq (.cond (.t 9)
 (.skip)
 (.exit 0))
 (.seq (.block 1 (.seq (vR [vO 10 (.idxA 1 (.t 6) (.t 8)),vO 11 (.ld none (.t 10)),vM 5 11])
 (vR [vM 12 3,vM 13 5,vO 14 (.call zaN [(.t 13),(vI 10)]),vO 15 (.bsl 1 (.str []) 1 [(0,(.t 14))]),vO 16 (.app 1 16 (.t 12) (.t 15)),vM 3 16])))
 (vR [vO 17 (.bin .add (.t 8) (vI 1)),vM 8 17])))
def zj2:AFun:=⟨20,
  .seq (vR [vO 2 (.mov (.c (.str [])))])
 (.seq (vR [vO 3 (.mov (.c (.sl .ex [])))])
 (.seq (.seq (vR [vM 6 0,vO 7 (.len (.t 6)),vO 8 (.mov (vI 0))])
 (.block 0 (.loop zeo)))
 (.seq (vR [vM 18 3,vO 19 (.call zf3 [(.t 18),(.c (.str [32]))]),vM 2 19])
 (.ret)))),
  [.tmp 2]⟩
def zkQ:AFun:=⟨5,
  .seq (vR [vO 2 (.mov (.c (.nilF)))])
 (.seq (vR [vM 3 0,vO 4 (.call zbn [(.t 3),(vI 20)]),vM 2 4])
 (.ret)),
  [.tmp 2]⟩
def zgI:AFun:=⟨27,
  .seq (vR [vO 4 (.mov (.c (.str [])))])
 (.seq (.seq (vR [vM 10 0,vO 11 (.bin .eql (.t 10) (vI 1))])
 (.cond (.t 11)
 (.seq (vR [vM 12 1,vO 13 (.call zd4 [(.t 12)]),vM 4 13])
 (.ret))
 (.skip)))
 (.seq (vR [vM 15 1,vO 16 (.call ziE [(.t 15)]),vM 14 16,vE 17 14 0,vE 18 14 1,vE 19 14 2,vM 5 17,vM 6 18,vM 7 19])
 (.seq (vR [vM 21 5,vO 22 (.b2s (.t 21)),vO 23 (.call ziy [(.t 22)]),vM 20 23,vE 24 20 0,vE 25 20 1,vM 8 24,vM 9 25])
 (.seq (vR [vM 26 8,vM 4 26])
 (.ret))))),
  [.tmp 4]⟩
def zjv:AFun:=⟨18,
  .seq (vR [vO 4 (.mov (.c (.str [])))])
 (.seq (.seq (vR [vM 7 0,vO 8 (.bin .eql (.t 7) (vI 1))])
 (.cond (.t 8)
 (.seq (vR [vM 9 1,vO 10 (.call zgi [(.t 9)]),vM 4 10])
 (.ret))
 (.skip)))
 (.seq (vR [vM 12 1,vO 13 (.call zln [(.t 12)]),vO 14 (.call zjD [(.t 13)]),vM 11 14,vE 15 11 0,vE 16 11 1,vM 5 15,vM 6 16])
 (.seq (vR [vM 17 5,vM 4 17])
 (.ret)))),
  [.tmp 4]⟩
def zkb:AFun:=⟨7,
  .seq (vR [vO 2 (.alloc [.int .i64 0,.int .i64 0,.int .i64 0,.int .i64 0,.sl .ex []]),vO 3 (.mov (vI 0)),vO 4 (.mov (vI 0))])
 (.seq (vR [vO 5 (.build [.int .i64 0,.int .i64 0,.int .i64 0,.int .i64 0,.sl .ex []] []),vM 6 0,⟨none,.st 5 (.t 2) (.t 5),none⟩,vM 3 6,vO 4 (.mov (vI 6))])
 (.ret)),
  [.cell (some 5) 2,.tmp 3,.tmp 4]⟩
def zd3:ACode:=
  .seq (vR [vB 58 .lss 57 56])
 (.seq (.cond (.t 58)
 (.skip)
 (.exit 1))
 (.seq (.block 2 (.seq (vR [vM 59 57,vO 60 (.idxA 1 (.t 55) (.t 57)),vO 61 (.ld none (.t 60)),vM 7 59,vM 8 61])
 (.seq (vR [vM 62 7,vM 63 8,vO 64 (.fldA 2 (.t 2)),vO 65 (.idxP 2 1 (.t 64) (.t 62)),⟨none,.st 1 (.t 65) (.t 63),none⟩])
 (vR [vM 66 3,vM 67 8,vB 68 .mul 66 67,vM 3 68]))))
 (vR [vO 69 (.bin .add (.t 57) (vI 1)),vM 57 69])))
def zno:AFun:=⟨72,
  .seq (vR [vO 2 (.alloc [.int .i64 0,.int .i64 0,.int .i64 0,.int .i64 0,.sl .ex []]),vO 3 (.mov (vI 0)),vO 4 (.mov (.c (.bool false)))])
 (.seq (vR [vM 9 0,vO 10 (.call zeD [(.t 9),(.c (.str [32]))]),vM 5 10])
 (.seq (.seq (vR [vM 11 5,vO 12 (.idxA 1 (.t 11) (vI 0)),vO 13 (.ld none (.t 12))])
 (.block 0 (.seq (vR [vO 16 (.bin .eql (.t 13) (.c (.str [105,110,116]))),vM 15 16])
 (.cond (.t 15)
 (vR [vO 17 (.fldA 0 (.t 2)),⟨none,.st 1 (.t 17) (vI 1),none⟩])
 (.seq (vR [vO 19 (.bin .eql (.t 13) (.c (.str [99,104,97,114]))),vM 18 19])
 (.cond (.t 18)
 (vR [vO 20 (.fldA 0 (.t 2)),⟨none,.st 1 (.t 20) (vI 2),none⟩])
 (.seq (vR [vO 14 (.build [.int .i64 0,.int .i64 0,.int .i64 0,.int .i64 0,.sl .ex []] []),⟨none,.st 5 (.t 2) (.t 14),none⟩,vO 3 (.mov (vI 0)),vO 4 (.mov (.c (.bool false)))])
 (.ret))))))))
 (.seq (vR [vM 22 5,vO 23 (.sls 1 (.t 22) (some (vI 1)) none none),vO 24 (.call zgH [(.t 23),(vI 1000000000)]),vM 21 24,vE 25 21 0,vE 26 21 1,vM 6 25,vM 4 26])
 (.seq (.seq (vR [vM 27 4,vO 28 (.not (.t 27)),vM 29 28,⟨some 30,.mov (.t 6),some (29,false)⟩,⟨some 31,.len (.t 30),some (29,false)⟩,⟨some 32,.bin .eql (.t 31) (vI 0),some (29,false)⟩,vO 33 (.pick (.t 29) (.c (.bool true)) (.t 32)),vM 34 33,⟨some 35,.mov (.t 6),some (34,false)⟩,⟨some 36,.idxA 1 (.t 35) (vI 0),some (34,false)⟩,⟨some 37,.ld none (.t 36),some (34,false)⟩,⟨some 38,.bin .gtr (.t 37) (vI 2),some (34,false)⟩,vO 39 (.pick (.t 34) (.c (.bool true)) (.t 38)),vM 40 39,⟨some 41,.mov (.t 6),some (40,false)⟩,⟨some 42,.len (.t 41),some (40,false)⟩,⟨some 43,.mov (.t 6),some (40,false)⟩,⟨some 44,.idxA 1 (.t 43) (vI 0),some (40,false)⟩,⟨some 45,.ld none (.t 44),some (40,false)⟩,⟨some 46,.bin .add (.t 45) (vI 1),some (40,false)⟩,⟨some 47,.bin .neq (.t 42) (.t 46),some (40,false)⟩,vO 48 (.pick (.t 40) (.c (.bool true)) (.t 47))])
 (.cond (.t 48)
 (.seq (vR [vO 49 (.build [.int .i64 0,.int .i64 0,.int .i64 0,.int .i64 0,.sl .ex []] []),⟨none,.st 5 (.t 2) (.t 49),none⟩,vO 3 (.mov (vI 0)),vO 4 (.mov (.c (.bool false)))])
 (.ret))
 (.skip)))
 (.seq (vR [vM 50 6,vO 51 (.idxA 1 (.t 50) (vI 0)),vO 52 (.ld none (.t 51)),vO 53 (.fldA 1 (.t 2)),⟨none,.st 1 (.t 53) (.t 52),none⟩])
 (.seq (vR [vO 3 (.mov (vI 1))])
 (.seq (.seq (vR [vM 54 6,vO 55 (.sls 1 (.t 54) (some (vI 1)) none none),vO 56 (.len (.t 55)),vO 57 (.mov (vI 0))])
 (.block 1 (.loop zd3)))
 (.seq (vR [vO 70 (.ld (some 5) (.t 2)),vM 71 3,⟨none,.st 5 (.t 2) (.t 70),none⟩,vM 3 71,vO 4 (.mov (.c (.bool true)))])
 (.ret))))))))),
  [.cell (some 5) 2,.tmp 3,.tmp 4]⟩
def zeL:AFun:=⟨54,
  .seq (vR [vO 6 (.mov (.c (.sl .ex []))),vO 7 (.mov (.c (.bool false)))])
 (.seq (vR [vO 8 (.mov (.c (.sl .ex [])))])
 (.seq (.seq (vR [vM 12 0,vO 13 (.bin .eql (.t 12) (vI 1))])
 (.cond (.t 13)
 (vR [vM 15 1,vO 16 (.call zeD [(.t 15),(.c (.str [32]))]),vO 17 (.call zgH [(.t 16),(vI 9223372036854775807)]),vM 14 17,vE 18 14 0,vE 19 14 1,vM 8 18])
 (.seq (vR [vM 21 1,vO 22 (.call zkZ [(.t 21)]),vM 20 22,vE 23 20 0,vE 24 20 1,vE 25 20 2,vM 9 23,vM 10 24,vM 11 25])
 (.seq (vR [vM 26 11,vO 27 (.bin .eql (.t 26) (vI 0)),vM 28 27,⟨some 29,.mov (.t 9),some (28,true)⟩,⟨some 30,.len (.t 29),some (28,true)⟩,⟨some 31,.bin .eql (.t 30) (vI 1),some (28,true)⟩,vO 32 (.pick (.t 28) (.t 31) (.c (.bool false)))])
 (.cond (.t 32)
 (vR [vM 34 9,vO 35 (.idxA 5 (.t 34) (vI 0)),vO 36 (.fldA 4 (.t 35)),vO 37 (.ld none (.t 36)),vO 38 (.s2b false (.t 37)),vO 39 (.call ziV [(.t 38)]),vM 33 39,vE 40 33 0,vE 41 33 1,vM 8 40])
 (.skip))))))
 (.seq (vR [vM 42 8,vM 43 8,vO 44 (.len (.t 43)),vM 45 2,vB 46 .eql 44 45,vM 47 46,⟨some 48,.mov (.t 0),some (47,true)⟩,⟨some 49,.mov (.t 8),some (47,true)⟩,⟨some 50,.call zcn [(.t 48),(.t 49)],some (47,true)⟩,⟨some 51,.mov (.t 1),some (47,true)⟩,⟨some 52,.bin .eql (.t 50) (.t 51),some (47,true)⟩,vO 53 (.pick (.t 47) (.t 52) (.c (.bool false))),vM 6 42,vM 7 53])
 (.ret)))),
  [.tmp 6,.tmp 7]⟩
def zfS:ACode:=
  .seq (.seq (vR [vM 18 6,vM 19 0,vO 20 (.lenS (.t 19)),vB 21 .lss 18 20])
 (.cond (.t 21)
 (.skip)
 (.exit 0)))
 (.seq (.block 1 (.seq (vR [vM 24 0,vM 25 6,vO 26 (.idxS (.t 24) (.t 25)),vO 27 (.bin .eql (.t 26) (.c (.int .u8 10)))])
 (.cond (.t 27)
 (.seq (vR [vM 28 4,vM 29 0,vM 30 5,vM 31 6,vO 32 (.ssl (.t 29) (some (.t 30)) (some (.t 31))),vO 33 (.bsl 1 (.str []) 1 [(0,(.t 32))]),vO 34 (.app 1 16 (.t 28) (.t 33)),vM 4 34])
 (vR [vM 35 6,vO 36 (.bin .add (.t 35) (vI 1)),vM 5 36]))
 (.skip))))
 (vR [vM 22 6,vO 23 (.bin .add (.t 22) (vI 1)),vM 6 23]))
def znj:AFun:=⟨41,
  .seq (vR [vO 2 (.mov (.c (.sl .ex []))),vO 3 (.mov (vI 0))])
 (.seq (.seq (vR [vM 7 0,vO 8 (.lenS (.t 7)),vO 9 (.bin .gtr (.t 8) (vI 1048576))])
 (.cond (.t 9)
 (.seq (vR [vO 2 (.mov (.c (.sl .ex []))),vO 3 (.mov (vI 3))])
 (.ret))
 (.skip)))
 (.seq (.seq (vR [vM 10 0,vO 11 (.bin .eql (.t 10) (.c (.str [])))])
 (.cond (.t 11)
 (.seq (vR [vO 2 (.mov (.c (.sl .ex []))),vO 3 (.mov (vI 0))])
 (.ret))
 (.skip)))
 (.seq (.seq (vR [vM 12 0,vM 13 0,vO 14 (.lenS (.t 13)),vO 15 (.bin .sub (.t 14) (vI 1)),vO 16 (.idxS (.t 12) (.t 15)),vO 17 (.bin .neq (.t 16) (.c (.int .u8 10)))])
 (.cond (.t 17)
 (.seq (vR [vO 2 (.mov (.c (.sl .ex []))),vO 3 (.mov (vI 6))])
 (.ret))
 (.skip)))
 (.seq (vR [vO 4 (.mov (.c (.sl .ex [])))])
 (.seq (vR [vO 5 (.mov (vI 0))])
 (.seq (.seq (vR [vO 6 (.mov (vI 0))])
 (.block 0 (.loop zfS)))
 (.seq (.seq (vR [vM 37 4,vO 38 (.len (.t 37)),vO 39 (.bin .gtr (.t 38) (vI 5000))])
 (.cond (.t 39)
 (.seq (vR [vO 2 (.mov (.c (.sl .ex []))),vO 3 (.mov (vI 3))])
 (.ret))
 (.skip)))
 (.seq (vR [vM 40 4,vM 2 40,vO 3 (.mov (vI 0))])
 (.ret))))))))),
  [.tmp 2,.tmp 3]⟩
def zdR:ACode:=
  .seq (.seq (vR [vM 61 10,vO 62 (.fldA 1 (.t 6)),vO 63 (.ld none (.t 62)),vB 64 .lss 61 63])
 (.cond (.t 64)
 (.skip)
 (.exit 0)))
 (.seq (.block 1 (.seq (vR [vM 68 5,vM 69 10,vO 70 (.bin .add (vI 2) (.t 69)),vO 71 (.idxA 1 (.t 68) (.t 70)),vO 72 (.ld none (.t 71)),vO 73 (.call zhT [(.t 72),(vI 0),(vI 1000000000)]),vM 67 73,vE 74 67 0,vE 75 67 1,vM 11 74,vM 12 75])
 (.seq (.seq (vR [vM 76 12,vO 77 (.bin .neq (.t 76) (vI 0))])
 (.cond (.t 77)
 (.seq (vR [vO 78 (.build [.int .i64 0,.int .i64 0,.int .i64 0,.int .i64 0,.sl .ex []] []),⟨none,.st 5 (.t 2) (.t 78),none⟩,vO 3 (.mov (vI 0)),vO 4 (.mov (.c (.bool false)))])
 (.ret))
 (.skip)))
 (.seq (vR [vM 79 10,vM 80 11,vO 81 (.fldA 2 (.t 6)),vO 82 (.idxP 2 1 (.t 81) (.t 79)),⟨none,.st 1 (.t 82) (.t 80),none⟩])
 (vR [vM 83 9,vM 84 11,vB 85 .mul 83 84,vM 9 85])))))
 (vR [vM 65 10,vO 66 (.bin .add (.t 65) (vI 1)),vM 10 66]))
def znF:AFun:=⟨88,
  .seq (vR [vO 2 (.alloc [.int .i64 0,.int .i64 0,.int .i64 0,.int .i64 0,.sl .ex []]),vO 3 (.mov (vI 0)),vO 4 (.mov (.c (.bool false)))])
 (.seq (vR [vM 13 0,vO 14 (.call zgE [(.t 13)]),vM 5 14])
 (.seq (vR [vO 15 (.build [.int .i64 0,.int .i64 0,.int .i64 0,.int .i64 0,.sl .ex []] [(0,1,(vI 1))]),vO 6 (.alloc [.int .i64 0,.int .i64 0,.int .i64 0,.int .i64 0,.sl .ex []]),⟨none,.st 5 (.t 6) (.t 15),none⟩])
 (.seq (.seq (vR [vM 16 5,vO 17 (.idxA 1 (.t 16) (vI 0)),vO 18 (.ld none (.t 17)),vO 19 (.bin .eql (.t 18) (.c (.str [99,104,97,114])))])
 (.cond (.t 19)
 (vR [vO 20 (.fldA 0 (.t 6)),⟨none,.st 1 (.t 20) (vI 2),none⟩])
 (.skip)))
 (.seq (.seq (vR [vM 21 5,vO 22 (.idxA 1 (.t 21) (vI 0)),vO 23 (.ld none (.t 22)),vO 24 (.bin .neq (.t 23) (.c (.str [99,104,97,114]))),vM 25 24,⟨some 26,.mov (.t 5),some (25,true)⟩,⟨some 27,.idxA 1 (.t 26) (vI 0),some (25,true)⟩,⟨some 28,.ld none (.t 27),some (25,true)⟩,⟨some 29,.bin .neq (.t 28) (.c (.str [105,110,116])),some (25,true)⟩,vO 30 (.pick (.t 25) (.t 29) (.c (.bool false))),vM 31 30,⟨some 32,.mov (.t 5),some (31,false)⟩,⟨some 33,.len (.t 32),some (31,false)⟩,⟨some 34,.bin .lss (.t 33) (vI 2),some (31,false)⟩,vO 35 (.pick (.t 31) (.c (.bool true)) (.t 34)),vM 36 35,⟨some 37,.mov (.t 5),some (36,false)⟩,⟨some 38,.len (.t 37),some (36,false)⟩,⟨some 39,.bin .gtr (.t 38) (vI 4),some (36,false)⟩,vO 40 (.pick (.t 36) (.c (.bool true)) (.t 39))])
 (.cond (.t 40)
 (.seq (vR [vO 41 (.build [.int .i64 0,.int .i64 0,.int .i64 0,.int .i64 0,.sl .ex []] []),⟨none,.st 5 (.t 2) (.t 41),none⟩,vO 3 (.mov (vI 0)),vO 4 (.mov (.c (.bool false)))])
 (.ret))
 (.skip)))
 (.seq (vR [vM 43 5,vO 44 (.idxA 1 (.t 43) (vI 1)),vO 45 (.ld none (.t 44)),vO 46 (.call zhT [(.t 45),(vI 0),(vI 2)]),vM 42 46,vE 47 42 0,vE 48 42 1,vM 7 47,vM 8 48])
 (.seq (.seq (vR [vM 49 8,vO 50 (.bin .neq (.t 49) (vI 0)),vM 51 50,⟨some 52,.mov (.t 5),some (51,false)⟩,⟨some 53,.len (.t 52),some (51,false)⟩,⟨some 54,.mov (.t 7),some (51,false)⟩,⟨some 55,.bin .add (vI 2) (.t 54),some (51,false)⟩,⟨some 56,.bin .neq (.t 53) (.t 55),some (51,false)⟩,vO 57 (.pick (.t 51) (.c (.bool true)) (.t 56))])
 (.cond (.t 57)
 (.seq (vR [vO 58 (.build [.int .i64 0,.int .i64 0,.int .i64 0,.int .i64 0,.sl .ex []] []),⟨none,.st 5 (.t 2) (.t 58),none⟩,vO 3 (.mov (vI 0)),vO 4 (.mov (.c (.bool false)))])
 (.ret))
 (.skip)))
 (.seq (vR [vM 59 7,vO 60 (.fldA 1 (.t 6)),⟨none,.st 1 (.t 60) (.t 59),none⟩])
 (.seq (vR [vO 9 (.mov (vI 1))])
 (.seq (.seq (vR [vO 10 (.mov (vI 0))])
 (.block 0 (.loop zdR)))
 (.seq (vR [vO 86 (.ld (some 5) (.t 6)),vM 87 9,⟨none,.st 5 (.t 2) (.t 86),none⟩,vM 3 87,vO 4 (.mov (.c (.bool true)))])
 (.ret))))))))))),
  [.cell (some 5) 2,.tmp 3,.tmp 4]⟩
def zf2:ACode:=
  .seq (.seq (vR [vM 66 14,vM 67 12,vO 68 (.len (.t 67)),vB 69 .lss 66 68])
 (.cond (.t 69)
 (.skip)
 (.exit 0)))
 (.seq (.block 1 (.seq (vR [vM 73 12,vM 74 14,vO 75 (.idxA 1 (.t 73) (.t 74)),vO 76 (.ld none (.t 75)),vO 77 (.call zhT [(.t 76),(vI (-9223372036854775808)),(vI 9223372036854775807)]),vM 72 77,vE 78 72 0,vE 79 72 1,vM 15 78,vM 16 79])
 (.seq (.seq (vR [vM 80 16,vO 81 (.bin .neq (.t 80) (vI 0))])
 (.cond (.t 81)
 (.seq (vR [vO 6 (.mov (.c (.sl .ex []))),vO 7 (.mov (.c (.bool false)))])
 (.ret))
 (.skip)))
 (vR [vM 82 13,vM 83 15,vO 84 (.bsl 1 (.int .i64 0) 1 [(0,(.t 83))]),vO 85 (.app 1 8 (.t 82) (.t 84)),vM 13 85]))))
 (vR [vM 70 14,vO 71 (.bin .add (.t 70) (vI 1)),vM 14 71]))
def zdc:AFun:=⟨91,
  .seq (vR [vO 6 (.mov (.c (.sl .ex []))),vO 7 (.mov (.c (.bool false)))])
 (.seq (.seq (vR [vM 17 0,vO 18 (.bin .eql (.t 17) (vI 2))])
 (.cond (.t 18)
 (.seq (vR [vM 20 1,vO 21 (.call zlz [(.t 20)]),vM 19 21,vE 22 19 0,vE 23 19 1,vE 24 19 2,vM 8 22,vM 9 23,vM 10 24])
 (.seq (.seq (vR [vM 25 10,vO 26 (.bin .neq (.t 25) (vI 0)),vM 27 26,⟨some 28,.mov (.t 8),some (27,false)⟩,⟨some 29,.len (.t 28),some (27,false)⟩,⟨some 30,.bin .neq (.t 29) (vI 1),some (27,false)⟩,vO 31 (.pick (.t 27) (.c (.bool true)) (.t 30)),vM 32 31,⟨some 33,.mov (.t 8),some (32,false)⟩,⟨some 34,.idxA 5 (.t 33) (vI 0),some (32,false)⟩,⟨some 35,.fldA 0 (.t 34),some (32,false)⟩,⟨some 36,.ld none (.t 35),some (32,false)⟩,⟨some 37,.bin .neq (.t 36) (vI 3),some (32,false)⟩,vO 38 (.pick (.t 32) (.c (.bool true)) (.t 37))])
 (.cond (.t 38)
 (.seq (vR [vO 6 (.mov (.c (.sl .ex []))),vO 7 (.mov (.c (.bool false)))])
 (.ret))
 (.skip)))
 (.seq (vR [vM 40 8,vO 41 (.idxA 5 (.t 40) (vI 0)),vO 42 (.fldA 4 (.t 41)),vO 43 (.ld none (.t 42)),vO 44 (.s2b false (.t 43)),vO 45 (.call ziT [(.t 44)]),vM 39 45,vE 46 39 0,vE 47 39 1,vM 11 46,vM 10 47])
 (.seq (vR [vM 48 11,vM 49 10,vO 50 (.bin .eql (.t 49) (vI 0)),vM 51 50,⟨some 52,.mov (.t 11),some (51,true)⟩,⟨some 53,.len (.t 52),some (51,true)⟩,⟨some 54,.mov (.t 2),some (51,true)⟩,⟨some 55,.bin .eql (.t 53) (.t 54),some (51,true)⟩,vO 56 (.pick (.t 51) (.t 55) (.c (.bool false))),vM 57 56,⟨some 58,.mov (.t 1),some (57,true)⟩,⟨some 59,.mov (.t 0),some (57,true)⟩,⟨some 60,.mov (.t 11),some (57,true)⟩,⟨some 61,.call zgr [(.t 59),(.t 60)],some (57,true)⟩,⟨some 62,.bin .eql (.t 58) (.t 61),some (57,true)⟩,vO 63 (.pick (.t 57) (.t 62) (.c (.bool false))),vM 6 48,vM 7 63])
 (.ret)))))
 (.skip)))
 (.seq (vR [vM 64 1,vO 65 (.call zgE [(.t 64)]),vM 12 65])
 (.seq (vR [vO 13 (.mov (.c (.sl .ex [])))])
 (.seq (.seq (vR [vO 14 (.mov (vI 0))])
 (.block 0 (.loop zf2)))
 (.seq (vR [vM 86 13,vM 87 13,vO 88 (.len (.t 87)),vM 89 2,vB 90 .eql 88 89,vM 6 86,vM 7 90])
 (.ret)))))),
  [.tmp 6,.tmp 7]⟩
def zm7:AFun:=⟨16,
  .seq (vR [vO 3 (.box (.t 1)),vO 4 (.mov (vI 0)),vO 5 (.mov (vI 0))])
 (.seq (.seq (vR [vM 7 0,vO 8 (.ld (some 2) (.t 3)),vO 9 (.call zi4 [(.t 7),(.t 8)]),vM 6 9])
 (.seq (vR [vM 10 6,vO 11 (.bin .neq (.t 10) (vI 0))])
 (.cond (.t 11)
 (.seq (vR [vM 12 6,vO 4 (.mov (vI 0)),vM 5 12])
 (.ret))
 (.skip))))
 (.seq (vR [vM 13 0,vO 14 (.ld (some 2) (.t 3)),vO 15 (.call zdN [(.t 13),(.t 14)]),vM 4 15,vO 5 (.mov (vI 0))])
 (.ret))),
  [.tmp 4,.tmp 5]⟩
def zbi:AFun:=⟨9,
  .seq (vR [vO 4 (.mov (.c (.bool false)))])
 (.seq (vR [vM 5 0,vM 6 1,vO 7 (.call zas [(.t 5),(.t 6)]),vO 8 (.bin .geq (.t 7) (vI 0)),vM 4 8])
 (.ret)),
  [.tmp 4]⟩
def zjV:AFun:=⟨9,
  .seq (vR [vO 3 (.mov (.c (.bool false)))])
 (.seq (vR [vO 4 (.fldA 0 (.t 1)),vO 5 (.ld none (.t 4)),vM 6 0,vO 7 (.call zjd [(.t 5),(.t 6)]),vO 8 (.not (.t 7)),vM 3 8])
 (.ret)),
  [.tmp 3]⟩
def znb:AFun:=⟨20,
  .seq (vR [vO 4 (.mov (.c (.bool false)))])
 (.seq (vR [vM 5 0,vO 6 (.bin .eql (.t 5) (vI 1)),vM 7 6,⟨some 8,.mov (.t 1),some (7,false)⟩,⟨some 9,.bin .geq (.t 8) (vI 0),some (7,false)⟩,⟨some 10,.mov (.t 9),some (7,false)⟩,⟨some 11,.mov (.t 1),some (10,true)⟩,⟨some 12,.bin .leq (.t 11) (vI 1114111),some (10,true)⟩,⟨some 13,.pick (.t 10) (.t 12) (.c (.bool false)),some (7,false)⟩,⟨some 14,.mov (.t 13),some (7,false)⟩,⟨some 15,.mov (.t 1),some (14,true)⟩,⟨some 16,.conv .i32 (.t 15),some (14,true)⟩,⟨some 17,.call zbb [(.t 16)],some (14,true)⟩,⟨some 18,.pick (.t 14) (.t 17) (.c (.bool false)),some (7,false)⟩,vO 19 (.pick (.t 7) (.c (.bool true)) (.t 18)),vM 4 19])
 (.ret)),
  [.tmp 4]⟩
def zqZ:AFun:=⟨10,
  .seq (vR [vO 4 (.mov (.c (.str [])))])
 (.seq (vR [vM 5 0,vM 6 0,vM 7 1,vO 8 (.call zfj [(.t 6),(.t 7)]),vB 9 .add 5 8,vM 4 9])
 (.ret)),
  [.tmp 4]⟩
def znA:AFun:=⟨10,
  .seq (vR [vO 4 (.mov (.c (.str [])))])
 (.seq (vR [vM 5 0,vM 6 1,vO 7 (.call zfj [(.t 5),(.t 6)]),vM 8 0,vB 9 .add 7 8,vM 4 9])
 (.ret)),
  [.tmp 4]⟩
def zg1:AFun:=⟨8,
  .seq (vR [vO 4 (.mov (.c (.bool false)))])
 (.seq (vR [vM 5 0,vM 6 1,vO 7 (.call zej [(.t 5),(.t 6)]),vM 4 7])
 (.ret)),
  [.tmp 4]⟩
def zn1:AFun:=⟨8,
  .seq (vR [vO 4 (.mov (.c (.sl .ex [])))])
 (.seq (vR [vM 5 0,vM 6 1,vO 7 (.call zfn [(.t 5),(.t 6),(vI 0),(vI (-1))]),vM 4 7])
 (.ret)),
  [.tmp 4]⟩
def zt2:AFun:=⟨31,
  .seq (vR [vO 6 (.mov (vI 0)),vO 7 (.mov (vI 0))])
 (.seq (.seq (vR [vM 10 0,vO 11 (.call zei [(.t 10)]),vO 12 (.not (.t 11))])
 (.cond (.t 12)
 (.seq (vR [vO 6 (.mov (vI 0)),vO 7 (.mov (vI 6))])
 (.ret))
 (.skip)))
 (.seq (vR [vM 14 0,vO 15 (.call zbe [(.t 14),(vI 10),(vI 64)]),vM 13 15,vE 16 13 0,vE 17 13 1,vM 8 16,vM 9 17])
 (.seq (.seq (vR [vM 18 9,vO 19 (.ifn true (.t 18)),vM 20 19,⟨some 21,.mov (.t 8),some (20,false)⟩,⟨some 22,.mov (.t 1),some (20,false)⟩,⟨some 23,.bin .lss (.t 21) (.t 22),some (20,false)⟩,vO 24 (.pick (.t 20) (.c (.bool true)) (.t 23)),vM 25 24,⟨some 26,.mov (.t 8),some (25,false)⟩,⟨some 27,.mov (.t 2),some (25,false)⟩,⟨some 28,.bin .gtr (.t 26) (.t 27),some (25,false)⟩,vO 29 (.pick (.t 25) (.c (.bool true)) (.t 28))])
 (.cond (.t 29)
 (.seq (vR [vO 6 (.mov (vI 0)),vO 7 (.mov (vI 7))])
 (.ret))
 (.skip)))
 (.seq (vR [vM 30 8,vM 6 30,vO 7 (.mov (vI 0))])
 (.ret))))),
  [.tmp 6,.tmp 7]⟩
def zfH:ACode:=
  .seq (vR [vB 27 .lss 26 25])
 (.seq (.cond (.t 27)
 (.skip)
 (.exit 1))
 (.seq (.block 2 (.seq (vR [vM 28 26,vO 29 (.idxA 1 (.t 24) (.t 26)),vO 30 (.ld none (.t 29)),vM 5 28,vM 6 30])
 (.seq (vR [vO 31 (.fldA 1 (.t 1)),vO 32 (.ld none (.t 31)),vM 33 5,vO 34 (.idxA 5 (.t 32) (.t 33)),vO 35 (.ld (some 5) (.t 34)),vO 7 (.alloc [.int .i64 0,.int .i64 0,.int .i64 0,.int .i64 0,.sl .ex []]),⟨none,.st 5 (.t 7) (.t 35),none⟩])
 (.seq (.seq (vR [vO 36 (.ld (some 5) (.t 7)),vO 37 (.call zc6 [(.t 36)]),vM 8 37])
 (.block 3 (.seq (vR [vM 39 6,vO 40 (.call zkT [(.t 39)]),vO 41 (.not (.t 40)),vM 38 41])
 (.cond (.t 38)
 (.seq (vR [vM 42 5,vM 2 42,vO 3 (.mov (vI 6))])
 (.ret))
 (.seq (vR [vM 44 4,vM 45 6,vO 46 (.mget (.t 44) (.t 45)),vM 43 46])
 (.cond (.t 43)
 (.seq (vR [vM 47 5,vM 2 47,vO 3 (.mov (vI 8))])
 (.ret))
 (.seq (vR [vM 49 8,vO 50 (.bin .neq (.t 49) (vI 0)),vM 48 50])
 (.cond (.t 48)
 (.seq (vR [vM 51 5,vM 52 8,vM 2 51,vM 3 52])
 (.ret))
 (.seq (vR [vO 54 (.fldA 1 (.t 7)),vO 55 (.ld none (.t 54)),vO 56 (.bin .neq (.t 55) (vI 1)),vM 53 56])
 (.cond (.t 53)
 (.seq (vR [vM 57 5,vM 2 57,vO 3 (.mov (vI 22))])
 (.ret))
 (.seq (.region true [vO 59 (.fldA 2 (.t 7)),vO 60 (.ld (some 2) (.t 59)),vO 61 (.fldA 1 (.t 1)),vO 62 (.ld none (.t 61)),vO 63 (.idxA 5 (.t 62) (vI 0)),vO 64 (.fldA 2 (.t 63)),vO 65 (.ld (some 2) (.t 64)),vO 66 (.aeq true [0,0] (.t 60) (.t 65)),vM 58 66])
 (.cond (.t 58)
 (.seq (vR [vM 67 5,vM 2 67,vO 3 (.mov (vI 11))])
 (.ret))
 (.skip)))))))))))))
 (vR [vM 68 4,vM 69 6,⟨none,.mset (.t 68) (.t 69),none⟩])))))
 (vR [vO 70 (.bin .add (.t 26) (vI 1)),vM 26 70])))
def znm:AFun:=⟨71,
  .seq (vR [vO 1 (.box (.t 0)),vO 2 (.mov (vI 0)),vO 3 (.mov (vI 0))])
 (.seq (.block 0 (.seq (vR [vO 10 (.fldA 0 (.t 1)),vO 11 (.ld none (.t 10)),vO 12 (.len (.t 11)),vO 13 (.bin .gtr (.t 12) (vI 16)),vM 9 13])
 (.cond (.t 9)
 (.seq (vR [vO 2 (.mov (vI (-1))),vO 3 (.mov (vI 3))])
 (.ret))
 (.seq (vR [vO 15 (.fldA 1 (.t 1)),vO 16 (.ld none (.t 15)),vO 17 (.len (.t 16)),vO 18 (.fldA 0 (.t 1)),vO 19 (.ld none (.t 18)),vO 20 (.len (.t 19)),vB 21 .neq 17 20,vM 14 21])
 (.cond (.t 14)
 (.seq (vR [vO 2 (.mov (vI (-1))),vO 3 (.mov (vI 6))])
 (.ret))
 (.skip))))))
 (.seq (vR [vO 22 (.mkM),vM 4 22])
 (.seq (.seq (vR [vO 23 (.fldA 0 (.t 1)),vO 24 (.ld none (.t 23)),vO 25 (.len (.t 24)),vO 26 (.mov (vI 0))])
 (.block 1 (.loop zfH)))
 (.seq (vR [vO 2 (.mov (vI 0)),vO 3 (.mov (vI 0))])
 (.ret))))),
  [.tmp 2,.tmp 3]⟩
def zg2:AFun:=⟨8,
  .seq (vR [vO 4 (.mov (.c (.bool false)))])
 (.seq (vR [vM 5 0,vM 6 1,vO 7 (.call zcD [(.t 5),(.t 6)]),vM 4 7])
 (.ret)),
  [.tmp 4]⟩
def znO:AFun:=⟨16,
  .seq (vR [vO 3 (.box (.t 1)),vO 4 (.mov (vI 0)),vO 5 (.mov (vI 0))])
 (.seq (vR [vM 7 0,vO 8 (.ld (some 2) (.t 3)),vO 9 (.call zjc [(.t 7),(.t 8)]),vM 6 9])
 (.seq (.seq (vR [vM 10 6,vO 11 (.bin .neq (.t 10) (vI 0))])
 (.cond (.t 11)
 (.seq (vR [vM 12 6,vO 4 (.mov (vI 0)),vM 5 12])
 (.ret))
 (.skip)))
 (.seq (vR [vM 13 0,vO 14 (.ld (some 2) (.t 3)),vO 15 (.call zhH [(.t 13),(.t 14)]),vM 4 15,vO 5 (.mov (vI 0))])
 (.ret)))),
  [.tmp 4,.tmp 5]⟩
def zk6:AFun:=⟨17,
  .seq (vR [vO 2 (.mov (.c (.bool false)))])
 (.seq (vR [vM 3 0,vO 4 (.bin .geq (.t 3) (vI 0)),vM 5 4,⟨some 6,.mov (.t 0),some (5,true)⟩,⟨some 7,.bin .leq (.t 6) (vI 1114111),some (5,true)⟩,vO 8 (.pick (.t 5) (.t 7) (.c (.bool false))),vM 9 8,⟨some 10,.mov (.t 0),some (9,true)⟩,⟨some 11,.bin .lss (.t 10) (vI 55296),some (9,true)⟩,⟨some 12,.mov (.t 11),some (9,true)⟩,⟨some 13,.mov (.t 0),some (12,false)⟩,⟨some 14,.bin .gtr (.t 13) (vI 57343),some (12,false)⟩,⟨some 15,.pick (.t 12) (.c (.bool true)) (.t 14),some (9,true)⟩,vO 16 (.pick (.t 9) (.t 15) (.c (.bool false))),vM 2 16])
 (.ret)),
  [.tmp 2]⟩
def zk9:AFun:=⟨5,
  .seq (vR [vO 2 (.mov (.c (.str [])))])
 (.seq (vR [vM 3 0,vO 4 (.call zbS [(.t 3)]),vM 2 4])
 (.ret)),
  [.tmp 2]⟩
def zxH:AFun:=⟨13,
  .seq (vR [vO 2 (.mov (.c (.bool false)))])
 (.seq (vR [vM 3 0,vM 4 0,vO 5 (.conv .i32 (.t 4)),vO 6 (.conv .i64 (.t 5)),vB 7 .eql 3 6,vM 8 7,⟨some 9,.mov (.t 0),some (8,true)⟩,⟨some 10,.conv .i32 (.t 9),some (8,true)⟩,⟨some 11,.call zbb [(.t 10)],some (8,true)⟩,vO 12 (.pick (.t 8) (.t 11) (.c (.bool false))),vM 2 12])
 (.ret)),
  [.tmp 2]⟩
def zk4:AFun:=⟨25,
  .seq (vR [vO 2 (.mov (vI 0))])
 (.seq (.block 0 (.seq (vR [vM 4 0,vO 5 (.bin .lss (.t 4) (.c (.int .i32 0))),vM 3 5])
 (.cond (.t 3)
 (.seq (vR [vO 2 (.mov (vI (-1)))])
 (.ret))
 (.seq (vR [vM 7 0,vO 8 (.bin .leq (.t 7) (.c (.int .i32 127))),vM 6 8])
 (.cond (.t 6)
 (.seq (vR [vO 2 (.mov (vI 1))])
 (.ret))
 (.seq (vR [vM 10 0,vO 11 (.bin .leq (.t 10) (.c (.int .i32 2047))),vM 9 11])
 (.cond (.t 9)
 (.seq (vR [vO 2 (.mov (vI 2))])
 (.ret))
 (.seq (vR [vM 13 0,vO 14 (.bin .leq (.c (.int .i32 55296)) (.t 13)),vM 15 14,⟨some 16,.mov (.t 0),some (15,true)⟩,⟨some 17,.bin .leq (.t 16) (.c (.int .i32 57343)),some (15,true)⟩,vO 18 (.pick (.t 15) (.t 17) (.c (.bool false))),vM 12 18])
 (.cond (.t 12)
 (.seq (vR [vO 2 (.mov (vI (-1)))])
 (.ret))
 (.seq (vR [vM 20 0,vO 21 (.bin .leq (.t 20) (.c (.int .i32 65535))),vM 19 21])
 (.cond (.t 19)
 (.seq (vR [vO 2 (.mov (vI 3))])
 (.ret))
 (.seq (vR [vM 23 0,vO 24 (.bin .leq (.t 23) (.c (.int .i32 1114111))),vM 22 24])
 (.cond (.t 22)
 (.seq (vR [vO 2 (.mov (vI 4))])
 (.ret))
 (.skip))))))))))))))
 (.seq (vR [vO 2 (.mov (vI (-1)))])
 (.ret))),
  [.tmp 2]⟩
def zgR:AFun:=⟨8,
  .seq (vR [vO 4 (.mov (.c (.str [])))])
 (.seq (vR [vM 5 0,vM 6 1,vO 7 (.call zd1 [(.t 5),(.t 6)]),vM 4 7])
 (.ret)),
  [.tmp 4]⟩
def zcj:AFun:=⟨9,
  .seq (vR [vO 2 (.box (.t 0)),vO 3 (.box (.t 1)),vO 4 (.mov (.c (.nilF)))])
 (.seq (.seq (vR [vO 5 (.ld none (.t 3)),vO 6 (.bin .lss (.t 5) (vI 1))])
 (.cond (.t 6)
 (.bad)
 (.skip)))
 (.seq (vR [vO 8 (.mkf zaA [] [(.t 2),(.t 3)]),vM 4 8])
 (.ret))),
  [.tmp 4]⟩
def zfD:ACode:=
  .seq (vR [vB 16 .lss 15 14])
 (.seq (.cond (.t 16)
 (.skip)
 (.exit 0))
 (.seq (.block 1 (.seq (vR [vO 17 (.idxA 1 (.t 13) (.t 15)),vO 18 (.ld none (.t 17)),vM 7 18])
 (.seq (vR [vM 19 2,vM 20 7,vO 21 (.conv .i32 (.t 20)),vO 22 (.call zem [(.t 19),(.t 21)]),vM 2 22])
 (.seq (vR [vM 23 2,vO 24 (.len (.t 23)),vO 25 (.bin .gtr (.t 24) (vI 8000))])
 (.cond (.t 25)
 (.seq (vR [vO 2 (.mov (.c (.sl .ex []))),vO 3 (.mov (vI 0)),vO 4 (.mov (vI 3))])
 (.ret))
 (.skip))))))
 (vR [vO 26 (.bin .add (.t 15) (vI 1)),vM 15 26])))
def zgD:AFun:=⟨28,
  .seq (vR [vO 2 (.mov (.c (.sl .ex []))),vO 3 (.mov (vI 0)),vO 4 (.mov (vI 0))])
 (.seq (.seq (vR [vM 8 0,vO 9 (.call zas [(.t 8),(.c (.clo zcP [] []))]),vM 5 9])
 (.seq (vR [vM 10 5,vO 11 (.bin .geq (.t 10) (vI 0))])
 (.cond (.t 11)
 (.seq (vR [vM 12 5,vO 2 (.mov (.c (.sl .ex []))),vM 3 12,vO 4 (.mov (vI 7))])
 (.ret))
 (.skip))))
 (.seq (.seq (vR [vM 13 0,vO 14 (.len (.t 13)),vO 15 (.mov (vI 0))])
 (.block 0 (.loop zfD)))
 (.seq (vR [vM 27 2,vM 2 27,vO 3 (.mov (vI 0)),vO 4 (.mov (vI 0))])
 (.ret)))),
  [.tmp 2,.tmp 3,.tmp 4]⟩
def znG:AFun:=⟨12,
  .seq (vR [vO 2 (.mov (.c (.str []))),vO 3 (.mov (vI 0))])
 (.seq (.seq (vR [vM 4 0,vO 5 (.lenS (.t 4)),vO 6 (.bin .gtr (.t 5) (vI 2000))])
 (.cond (.t 6)
 (.seq (vR [vO 2 (.mov (.c (.str []))),vO 3 (.mov (vI 3))])
 (.ret))
 (.skip)))
 (.seq (.seq (vR [vM 7 0,vO 8 (.call zdz [(.t 7)]),vO 9 (.not (.t 8))])
 (.cond (.t 9)
 (.seq (vR [vO 2 (.mov (.c (.str []))),vO 3 (.mov (vI 6))])
 (.ret))
 (.skip)))
 (.seq (vR [vM 10 0,vO 11 (.call zfc [(.t 10)]),vM 2 11,vO 3 (.mov (vI 0))])
 (.ret)))),
  [.tmp 2,.tmp 3]⟩
def zef:ACode:=
  .seq (.seq (vR [vM 5 4,vM 6 0,vO 7 (.len (.t 6)),vB 8 .lss 5 7])
 (.cond (.t 8)
 (.skip)
 (.exit 0)))
 (.seq (.block 1 (.seq (.seq (vR [vM 11 4,vO 12 (.bin .gtr (.t 11) (vI 0))])
 (.cond (.t 12)
 (vR [vM 13 3,vO 14 (.bin .add (.t 13) (.c (.str [32]))),vM 3 14])
 (.skip)))
 (vR [vM 15 3,vM 16 0,vM 17 4,vO 18 (.idxA 1 (.t 16) (.t 17)),vO 19 (.ld none (.t 18)),vO 20 (.call zhl [(.t 19)]),vB 21 .add 15 20,vM 3 21])))
 (vR [vM 9 4,vO 10 (.bin .add (.t 9) (vI 1)),vM 4 10]))
def zj8:AFun:=⟨23,
  .seq (vR [vO 2 (.mov (.c (.str [])))])
 (.seq (vR [vO 3 (.mov (.c (.str [])))])
 (.seq (.seq (vR [vO 4 (.mov (vI 0))])
 (.block 0 (.loop zef)))
 (.seq (vR [vM 22 3,vM 2 22])
 (.ret)))),
  [.tmp 2]⟩
def zn7:AFun:=⟨18,
  .seq (vR [vO 2 (.mov (.c (.str []))),vO 3 (.mov (vI 0))])
 (.seq (.seq (vR [vM 6 0,vO 7 (.lenS (.t 6)),vO 8 (.bin .gtr (.t 7) (vI 2000))])
 (.cond (.t 8)
 (.seq (vR [vO 2 (.mov (.c (.str []))),vO 3 (.mov (vI 3))])
 (.ret))
 (.skip)))
 (.seq (vR [vM 10 0,vO 11 (.call ziG [(.t 10)]),vM 9 11,vE 12 9 0,vE 13 9 1,vM 4 12,vM 5 13])
 (.seq (.seq (vR [vM 14 5,vO 15 (.not (.t 14))])
 (.cond (.t 15)
 (.seq (vR [vO 2 (.mov (.c (.str []))),vO 3 (.mov (vI 6))])
 (.ret))
 (.skip)))
 (.seq (vR [vM 16 4,vO 17 (.call zhF [(.t 16)]),vM 2 17,vO 3 (.mov (vI 0))])
 (.ret))))),
  [.tmp 2,.tmp 3]⟩
def zhs:ACode:=
  .seq (.seq (vR [vM 7 4,vM 8 0,vO 9 (.len (.t 8)),vB 10 .lss 7 9])
 (.cond (.t 10)
 (.skip)
 (.exit 0)))
 (.seq (.block 1 (.seq (vR [vM 14 0,vM 15 4,vO 16 (.idxA 1 (.t 14) (.t 15)),vO 17 (.ld none (.t 16)),vO 18 (.call zdf [(.t 17)]),vM 13 18,vE 19 13 0,vE 20 13 1,vM 5 19,vM 6 20])
 (vR [vM 21 3,vM 22 5,vO 23 (.app 1 1 (.t 21) (.t 22)),vM 3 23])))
 (vR [vM 11 4,vO 12 (.bin .add (.t 11) (vI 1)),vM 4 12]))
def zqX:AFun:=⟨26,
  .seq (vR [vO 2 (.mov (.c (.str [])))])
 (.seq (vR [vO 3 (.mov (.c (.sl .ex [])))])
 (.seq (.seq (vR [vO 4 (.mov (vI 0))])
 (.block 0 (.loop zhs)))
 (.seq (vR [vM 24 3,vO 25 (.b2s (.t 24)),vM 2 25])
 (.ret)))),
  [.tmp 2]⟩
def zgh:ACode:=
  .seq (vR [vB 14 .lss 13 12])
 (.seq (.cond (.t 14)
 (.skip)
 (.exit 0))
 (.seq (.block 1 (.seq (vR [vO 15 (.idxA 1 (.t 11) (.t 13)),vO 16 (.ld none (.t 15)),vM 8 16])
 (.seq (vR [vM 18 8,vM 19 1,vO 20 (.bin .sub (vI (-1)) (.t 19)),vM 21 1,vO 22 (.call zkv [(.t 18),(.t 20),(.t 21)]),vM 17 22,vE 23 17 0,vE 24 17 1,vM 9 23,vM 10 24])
 (.seq (.seq (vR [vM 25 10,vO 26 (.bin .neq (.t 25) (vI 0)),vM 27 26,⟨some 28,.mov (.t 1),some (27,false)⟩,⟨some 29,.bin .lss (.t 28) (vI 9223372036854775807),some (27,false)⟩,⟨some 30,.mov (.t 29),some (27,false)⟩,⟨some 31,.mov (.t 9),some (30,true)⟩,⟨some 32,.bin .lss (.t 31) (vI 0),some (30,true)⟩,⟨some 33,.pick (.t 30) (.t 32) (.c (.bool false)),some (27,false)⟩,vO 34 (.pick (.t 27) (.c (.bool true)) (.t 33))])
 (.cond (.t 34)
 (.seq (vR [vO 4 (.mov (.c (.sl .ex []))),vO 5 (.mov (.c (.bool false)))])
 (.ret))
 (.skip)))
 (vR [vM 35 6,vM 36 9,vO 37 (.bsl 1 (.int .i64 0) 1 [(0,(.t 36))]),vO 38 (.app 1 8 (.t 35) (.t 37)),vM 6 38])))))
 (vR [vO 39 (.bin .add (.t 13) (vI 1)),vM 13 39])))
def znw:AFun:=⟨41,
  .seq (vR [vO 4 (.mov (.c (.sl .ex []))),vO 5 (.mov (.c (.bool false)))])
 (.seq (vR [vO 6 (.mov (.c (.sl .ex [])))])
 (.seq (.seq (vR [vM 11 0,vO 12 (.len (.t 11)),vO 13 (.mov (vI 0))])
 (.block 0 (.loop zgh)))
 (.seq (vR [vM 40 6,vM 4 40,vO 5 (.mov (.c (.bool true)))])
 (.ret)))),
  [.tmp 4,.tmp 5]⟩
def zg8:ACode:=
  .seq (.seq (vR [vM 16 5,vO 17 (.nck (.t 16)),vO 18 (.fldA 1 (.t 17)),vO 19 (.ld none (.t 18)),vM 20 0,vO 21 (.lenS (.t 20)),vB 22 .lss 19 21])
 (.cond (.t 22)
 (.skip)
 (.exit 0)))
 (.block 1 (.seq (vR [vM 23 5,vO 24 (.mkf zmj [(.t 23)] []),vM 6 24])
 (.seq (.seq (vR [vM 25 5,vM 26 5,vO 27 (.nck (.t 26)),vO 28 (.fldA 1 (.t 27)),vO 29 (.ld none (.t 28)),vO 30 (.call zcl [(.t 25),(.t 29)])])
 (.block 2 (.seq (vR [vO 32 (.bin .eql (.t 30) (vI 1)),vM 31 32])
 (.cond (.t 31)
 (.seq (vR [vM 33 5,vO 34 (.nck (.t 33)),vO 35 (.fldA 1 (.t 34)),vO 36 (.ld none (.t 35)),vO 37 (.bin .add (.t 36) (vI 1)),vO 38 (.nck (.t 33)),vO 39 (.fldA 1 (.t 38)),⟨none,.st 1 (.t 39) (.t 37),none⟩])
 (.exit 1))
 (.seq (vR [vO 41 (.bin .eql (.t 30) (vI 8)),vM 40 41])
 (.cond (.t 40)
 (vR [vM 42 5,vO 43 (.mkf zls [(.t 42)] []),vM 6 43])
 (.seq (.seq (vR [vO 45 (.bin .eql (.t 30) (vI 6)),vM 44 45])
 (.cond (.t 44)
 (.skip)
 (vR [vO 46 (.bin .eql (.t 30) (vI 7)),vM 44 46])))
 (.cond (.t 44)
 (vR [vM 47 5,vO 48 (.mkf zhi [(.t 47)] []),vM 6 48])
 (.seq (vR [vO 50 (.bin .eql (.t 30) (vI 5)),vM 49 50])
 (.cond (.t 49)
 (vR [vM 51 5,vO 52 (.mkf zla [(.t 51)] []),vM 6 52])
 (.skip)))))))))))
 (.seq (vR [vM 53 5,vO 54 (.nck (.t 53)),vO 55 (.fldA 1 (.t 54)),vO 56 (.ld none (.t 55)),vM 7 56])
 (.seq (vR [vM 58 6,vO 59 (.callv (.t 58) []),vM 57 59,vE 60 57 0,vE 61 57 1,vO 8 (.alloc [.int .i64 0,.int .i64 0,.int .i64 0,.int .i64 0,.str []]),vO 9 (.alloc [.int .i64 0,.int .i64 0]),⟨none,.st 5 (.t 8) (.t 60),none⟩,⟨none,.st 2 (.t 9) (.t 61),none⟩])
 (.seq (.seq (vR [vO 62 (.fldA 1 (.t 9)),vO 63 (.ld none (.t 62)),vO 64 (.bin .neq (.t 63) (vI 0))])
 (.cond (.t 64)
 (.seq (.region true [vO 65 (.fldA 0 (.t 9)),vO 66 (.ld none (.t 65)),vO 67 (.fldA 1 (.t 9)),vO 68 (.ld none (.t 67)),vO 2 (.mov (.c (.sl .ex []))),vM 3 66,vM 4 68])
 (.ret))
 (.skip)))
 (.seq (.region true [vM 69 7,vM 70 5,vO 71 (.nck (.t 70)),vO 72 (.fldA 1 (.t 71)),vO 73 (.ld none (.m true 72)),vO 74 (.fldA 1 (.t 8)),⟨none,.st 1 (.m false 74) (.t 69),none⟩,vO 75 (.fldA 2 (.t 8)),⟨none,.st 1 (.m false 75) (.t 73),none⟩])
 (vR [vM 76 2,vO 77 (.ld (some 5) (.t 8)),vO 78 (.bsl 5 (.agg [.int .i64 0,.int .i64 0,.int .i64 0,.int .i64 0,.str []]) 1 [(0,(.t 77))]),vO 79 (.app 5 48 (.t 76) (.t 78)),vM 2 79]))))))))
def zq1:AFun:=⟨81,
  .seq (vR [vO 2 (.mov (.c (.sl .ex []))),vO 3 (.mov (vI 0)),vO 4 (.mov (vI 0))])
 (.scope (.seq (.seq (vR [vM 10 0,vO 11 (.lenS (.t 10)),vO 12 (.bin .gtr (.t 11) (vI 2000))])
 (.cond (.t 12)
 (.seq (vR [vO 2 (.mov (.c (.sl .ex []))),vO 3 (.mov (vI 0)),vO 4 (.mov (vI 3))])
 (.ret))
 (.skip)))
 (.seq (vR [vM 13 0,vO 14 (.build [.str [],.int .i64 0] [(0,1,(.t 13))]),vO 15 (.box (.t 14)),vM 5 15])
 (.seq (.label 0)
 (.seq (.block 0 (.loop zg8))
 (.seq (vR [vM 80 2,vM 2 80,vO 3 (.mov (vI 0)),vO 4 (.mov (vI 0))])
 (.ret))))))),
  [.tmp 2,.tmp 3,.tmp 4]⟩
def zh9:ACode:=
  vR [vM 8 20]
def zif:ACode:=
  .block 1 (vR [vO 21 (.ld none (.t 6)),vM 22 8,vO 23 (.bsl 1 (.int .i64 0) 1 [(0,(.t 22))]),vO 24 (.app 1 8 (.t 21) (.t 23)),⟨none,.st 1 (.t 6) (.t 24),none⟩])
def ziY:AFun:=⟨26,
  .seq (vR [vO 2 (.mov (.c (.sl .ex []))),vO 3 (.mov (vI 0))])
 (.seq (.seq (vR [vM 10 0,vO 11 (.call zjo [(.t 10)]),vM 9 11,vE 12 9 0,vE 13 9 1,vM 4 12,vM 5 13])
 (.seq (vR [vM 14 5,vO 15 (.bin .neq (.t 14) (vI 0))])
 (.cond (.t 15)
 (.seq (vR [vM 16 5,vO 2 (.mov (.c (.sl .ex []))),vM 3 16])
 (.ret))
 (.skip))))
 (.seq (vR [vO 6 (.alloc [.sl .ex []])])
 (.seq (.seq (vR [vM 17 0,vO 18 (.call zkw [(.t 17)])])
 (.block 0 (.rangeF (.t 18) [19,20] zh9 zif)))
 (.seq (vR [vO 25 (.ld none (.t 6)),vM 2 25,vO 3 (.mov (vI 0))])
 (.ret))))),
  [.tmp 2,.tmp 3]⟩
def zf0:ACode:=
  .seq (.seq (vR [vM 6 5,vM 7 0,vO 8 (.lenS (.t 7)),vB 9 .leq 6 8])
 (.cond (.t 9)
 (.skip)
 (.exit 0)))
 (.seq (.block 1 (.seq (vR [vM 12 5,vM 13 0,vO 14 (.lenS (.t 13)),vB 15 .eql 12 14,vM 16 15,⟨some 17,.mov (.t 0),some (16,false)⟩,⟨some 18,.mov (.t 5),some (16,false)⟩,⟨some 19,.idxS (.t 17) (.t 18),some (16,false)⟩,⟨some 20,.bin .eql (.t 19) (.c (.int .u8 32)),some (16,false)⟩,vO 21 (.pick (.t 16) (.c (.bool true)) (.t 20))])
 (.cond (.t 21)
 (.seq (vR [vM 22 3,vM 23 0,vM 24 4,vM 25 5,vO 26 (.ssl (.t 23) (some (.t 24)) (some (.t 25))),vO 27 (.bsl 1 (.str []) 1 [(0,(.t 26))]),vO 28 (.app 1 16 (.t 22) (.t 27)),vM 3 28])
 (vR [vM 29 5,vO 30 (.bin .add (.t 29) (vI 1)),vM 4 30]))
 (.skip))))
 (vR [vM 10 5,vO 11 (.bin .add (.t 10) (vI 1)),vM 5 11]))
def znB:AFun:=⟨32,
  .seq (vR [vO 2 (.mov (.c (.sl .ex [])))])
 (.seq (vR [vO 3 (.mov (.c (.sl .ex [])))])
 (.seq (vR [vO 4 (.mov (vI 0))])
 (.seq (.seq (vR [vO 5 (.mov (vI 0))])
 (.block 0 (.loop zf0)))
 (.seq (vR [vM 31 3,vM 2 31])
 (.ret))))),
  [.tmp 2]⟩
def ziM:ACode:=
  .seq (.seq (vR [vM 18 10,vM 19 0,vO 20 (.lenS (.t 19)),vB 21 .lss 18 20])
 (.cond (.t 21)
 (.skip)
 (.exit 0)))
 (.seq (.block 1 (.seq (.seq (vR [vM 24 0,vM 25 10,vO 26 (.idxS (.t 24) (.t 25)),vO 27 (.bin .eql (.t 26) (.c (.int .u8 45)))])
 (.cond (.t 27)
 (.exit 1)
 (.skip)))
 (.seq (vR [vM 28 0,vM 29 10,vO 30 (.idxS (.t 28) (.t 29)),vO 31 (.bin .sub (.t 30) (.c (.int .u8 48))),vO 32 (.conv .i64 (.t 31)),vM 11 32])
 (.seq (.seq (vR [vM 33 9,vM 34 11,vO 35 (.bin .add (vI (-9223372036854775808)) (.t 34)),vO 36 (.bin .quo (.t 35) (vI 10)),vB 37 .lss 33 36])
 (.cond (.t 37)
 (.seq (vR [vO 6 (.mov (vI 0)),vO 7 (.mov (vI 7))])
 (.ret))
 (.skip)))
 (vR [vM 38 9,vO 39 (.bin .mul (vI 10) (.t 38)),vM 40 11,vB 41 .sub 39 40,vM 9 41])))))
 (vR [vM 22 10,vO 23 (.bin .add (.t 22) (vI 1)),vM 10 23]))
def ztx:AFun:=⟨61,
  .seq (vR [vO 6 (.mov (vI 0)),vO 7 (.mov (vI 0))])
 (.seq (.seq (vR [vM 12 0,vO 13 (.call zfM [(.t 12)]),vO 14 (.not (.t 13))])
 (.cond (.t 14)
 (.seq (vR [vO 6 (.mov (vI 0)),vO 7 (.mov (vI 6))])
 (.ret))
 (.skip)))
 (.seq (vR [vM 15 0,vO 16 (.idxS (.t 15) (vI 0)),vO 17 (.bin .eql (.t 16) (.c (.int .u8 45))),vM 8 17])
 (.seq (vR [vO 9 (.mov (vI 0))])
 (.seq (.seq (vR [vO 10 (.mov (vI 0))])
 (.block 0 (.loop ziM)))
 (.seq (.seq (vR [vM 42 8,vO 43 (.not (.t 42)),vM 44 43,⟨some 45,.mov (.t 9),some (44,true)⟩,⟨some 46,.bin .eql (.t 45) (vI (-9223372036854775808)),some (44,true)⟩,vO 47 (.pick (.t 44) (.t 46) (.c (.bool false)))])
 (.cond (.t 47)
 (.seq (vR [vO 6 (.mov (vI 0)),vO 7 (.mov (vI 7))])
 (.ret))
 (.skip)))
 (.seq (.seq (vR [vM 48 8,vO 49 (.not (.t 48))])
 (.cond (.t 49)
 (vR [vM 50 9,vO 51 (.neg (.t 50)),vM 9 51])
 (.skip)))
 (.seq (.seq (vR [vM 52 9,vM 53 1,vB 54 .lss 52 53,vM 55 54,⟨some 56,.mov (.t 9),some (55,false)⟩,⟨some 57,.mov (.t 2),some (55,false)⟩,⟨some 58,.bin .gtr (.t 56) (.t 57),some (55,false)⟩,vO 59 (.pick (.t 55) (.c (.bool true)) (.t 58))])
 (.cond (.t 59)
 (.seq (vR [vO 6 (.mov (vI 0)),vO 7 (.mov (vI 7))])
 (.ret))
 (.skip)))
 (.seq (vR [vM 60 9,vM 6 60,vO 7 (.mov (vI 0))])
 (.ret))))))))),
  [.tmp 6,.tmp 7]⟩
def zdq:ACode:=
  .seq (.seq (vR [vM 13 6,vM 14 0,vO 15 (.lenS (.t 14)),vB 16 .lss 13 15])
 (.cond (.t 16)
 (.skip)
 (.exit 0)))
 (.block 1 (.seq (.seq (vR [vM 17 0,vM 18 6,vO 19 (.idxS (.t 17) (.t 18)),vO 20 (.bin .eql (.t 19) (.c (.int .u8 32)))])
 (.cond (.t 20)
 (.seq (vR [vM 21 6,vO 22 (.bin .add (.t 21) (vI 1)),vM 6 22])
 (.exit 1))
 (.skip)))
 (.seq (vR [vM 24 0,vM 25 6,vO 26 (.call ziu [(.t 24),(.t 25)]),vM 23 26,vE 27 23 0,vE 28 23 1,vE 29 23 2,vO 7 (.alloc [.int .i64 0,.int .i64 0,.int .i64 0,.int .i64 0,.str []]),⟨none,.st 5 (.t 7) (.t 27),none⟩,vM 8 28,vM 9 29])
 (.seq (.seq (vR [vM 30 9,vO 31 (.bin .neq (.t 30) (vI 0))])
 (.cond (.t 31)
 (.seq (vR [vM 32 8,vM 33 9,vO 2 (.mov (.c (.sl .ex []))),vM 3 32,vM 4 33])
 (.ret))
 (.skip)))
 (.seq (vR [vM 34 5,vO 35 (.ld (some 5) (.t 7)),vO 36 (.bsl 5 (.agg [.int .i64 0,.int .i64 0,.int .i64 0,.int .i64 0,.str []]) 1 [(0,(.t 35))]),vO 37 (.app 5 48 (.t 34) (.t 36)),vM 5 37])
 (vR [vO 38 (.fldA 2 (.t 7)),vO 39 (.ld none (.t 38)),vM 6 39]))))))
def zrA:AFun:=⟨41,
  .seq (vR [vO 2 (.mov (.c (.sl .ex []))),vO 3 (.mov (vI 0)),vO 4 (.mov (vI 0))])
 (.seq (.seq (vR [vM 10 0,vO 11 (.lenS (.t 10)),vO 12 (.bin .gtr (.t 11) (vI 2000))])
 (.cond (.t 12)
 (.seq (vR [vO 2 (.mov (.c (.sl .ex []))),vO 3 (.mov (vI 0)),vO 4 (.mov (vI 3))])
 (.ret))
 (.skip)))
 (.seq (vR [vO 5 (.mov (.c (.sl .ex [])))])
 (.seq (vR [vO 6 (.mov (vI 0))])
 (.seq (.block 0 (.loop zdq))
 (.seq (vR [vM 40 5,vM 2 40,vO 3 (.mov (vI 0)),vO 4 (.mov (vI 0))])
 (.ret)))))),
  [.tmp 2,.tmp 3,.tmp 4]⟩
def zkd:ACode:=
  .seq (.seq (vR [vM 19 7,vM 20 0,vO 21 (.len (.t 20)),vB 22 .lss 19 21])
 (.cond (.t 22)
 (.skip)
 (.exit 0)))
 (.block 1 (.seq (vR [vM 24 0,vM 25 7,vO 26 (.call zcv [(.t 24),(.t 25)]),vM 23 26,vE 27 23 0,vE 28 23 1,vE 29 23 2,vM 8 27,vM 9 28,vM 10 29])
 (.seq (vR [vM 30 6,vM 31 8,vO 32 (.bsl 1 (.int .i64 0) 1 [(0,(.t 31))]),vO 33 (.app 1 8 (.t 30) (.t 32)),vM 6 33])
 (vR [vM 34 7,vM 35 9,vB 36 .add 34 35,vM 7 36]))))
def zi9:AFun:=⟨38,
  .seq (vR [vO 2 (.mov (.c (.sl .ex []))),vO 3 (.mov (vI 0))])
 (.seq (vR [vM 12 0,vO 13 (.call zjC [(.t 12)]),vM 11 13,vE 14 11 0,vE 15 11 1,vM 4 14,vM 5 15])
 (.seq (.seq (vR [vM 16 5,vO 17 (.bin .neq (.t 16) (vI 0))])
 (.cond (.t 17)
 (.seq (vR [vM 18 5,vO 2 (.mov (.c (.sl .ex []))),vM 3 18])
 (.ret))
 (.skip)))
 (.seq (vR [vO 6 (.mov (.c (.sl .ex [])))])
 (.seq (.seq (vR [vO 7 (.mov (vI 0))])
 (.block 0 (.loop zkd)))
 (.seq (vR [vM 37 6,vM 2 37,vO 3 (.mov (vI 0))])
 (.ret)))))),
  [.tmp 2,.tmp 3]⟩
def zey:AFun:=⟨30,
  .seq (vR [vO 3 (.box (.t 1)),vO 4 (.mov (vI 0))])
 (.seq (.seq (vR [vM 7 0,vO 8 (.bin .lss (.t 7) (vI 0)),vM 9 8,⟨some 10,.mov (.t 0),some (9,false)⟩,⟨some 11,.bin .gtr (.t 10) (vI 2),some (9,false)⟩,vO 12 (.pick (.t 9) (.c (.bool true)) (.t 11))])
 (.cond (.t 12)
 (.seq (vR [vO 4 (.mov (vI 7))])
 (.ret))
 (.skip)))
 (.seq (.region true [vM 13 0,vO 14 (.slA 2 1 (.t 3) none (some (.t 13)) none),vM 15 0,vO 16 (.slA 2 1 (.t 3) (some (.t 15)) none none),vM 5 14,vM 6 16])
 (.seq (.block 0 (.seq (vR [vM 18 5,vO 19 (.call zat [(.t 18),(.c (.clo zbU [] []))]),vM 17 19])
 (.cond (.t 17)
 (.seq (vR [vO 4 (.mov (vI 7))])
 (.ret))
 (.seq (vR [vM 21 6,vO 22 (.call zat [(.t 21),(.c (.clo zbZ [] []))]),vM 20 22])
 (.cond (.t 20)
 (.seq (vR [vO 4 (.mov (vI 6))])
 (.ret))
 (.seq (.seq (vR [vM 24 5,vO 25 (.call zat [(.t 24),(.c (.clo zb2 [] []))]),vM 23 25])
 (.cond (.t 23)
 (.skip)
 (vR [vM 26 0,vO 27 (.ld (some 2) (.t 3)),vO 28 (.call zdN [(.t 26),(.t 27)]),vO 29 (.bin .gtr (.t 28) (vI 400)),vM 23 29])))
 (.cond (.t 23)
 (.seq (vR [vO 4 (.mov (vI 15))])
 (.ret))
 (.skip))))))))
 (.seq (vR [vO 4 (.mov (vI 0))])
 (.ret))))),
  [.tmp 4]⟩
def zd7:AFun:=⟨20,
  .seq (vR [vO 3 (.box (.t 1)),vO 4 (.mov (vI 0))])
 (.seq (vR [vO 5 (.mov (vI 1))])
 (.seq (.seq (vR [vM 6 0])
 (.block 0 (.seq (.block 2 (.seq (.block 1 (.seq (.seq (.seq (vR [vO 8 (.bin .eql (.t 6) (vI 2)),vM 7 8])
 (.cond (.t 7)
 (.exit 1)
 (.skip)))
 (.seq (vR [vO 10 (.bin .eql (.t 6) (vI 1)),vM 9 10])
 (.cond (.t 9)
 (.exit 2)
 (.skip))))
 (.exit 0)))
 (vR [vM 11 5,vO 12 (.idxP 2 1 (.t 3) (vI 1)),vO 13 (.ld none (.t 12)),vB 14 .mul 11 13,vM 5 14])))
 (.seq (vR [vM 15 5,vO 16 (.idxP 2 1 (.t 3) (vI 0)),vO 17 (.ld none (.t 16)),vB 18 .mul 15 17,vM 5 18])
 (.exit 0)))))
 (.seq (vR [vM 19 5,vM 4 19])
 (.ret)))),
  [.tmp 4]⟩
def zaM:ACode:=
  .seq (vR [vB 9 .lss 8 7])
 (.seq (.cond (.t 9)
 (.skip)
 (.exit 0))
 (.seq (.block 1 (.seq (vR [vM 10 8,vM 5 10])
 (.seq (vR [vM 11 1,vM 12 0,vM 13 5,vO 14 (.idxA 1 (.t 12) (.t 13)),vO 15 (.ld none (.t 14)),vO 16 (.callv (.t 11) [(.t 15)])])
 (.cond (.t 16)
 (.seq (vR [vM 17 5,vM 4 17])
 (.ret))
 (.skip)))))
 (vR [vO 18 (.bin .add (.t 8) (vI 1)),vM 8 18])))
def zaT:AFun:=⟨19,
  .seq (vR [vO 4 (.mov (vI 0))])
 (.seq (.seq (vR [vM 6 0,vO 7 (.len (.t 6)),vO 8 (.mov (vI 0))])
 (.block 0 (.loop zaM)))
 (.seq (vR [vO 4 (.mov (vI (-1)))])
 (.ret))),
  [.tmp 4]⟩
def zfl:AFun:=⟨17,
  .seq (vR [vO 2 (.mov (.c (.bool false)))])
 (.seq (.block 0 (.seq (vR [vM 4 0,vO 5 (.bin .leq (.c (.int .i32 0)) (.t 4)),vM 6 5,⟨some 7,.mov (.t 0),some (6,true)⟩,⟨some 8,.bin .lss (.t 7) (.c (.int .i32 55296)),some (6,true)⟩,vO 9 (.pick (.t 6) (.t 8) (.c (.bool false))),vM 3 9])
 (.cond (.t 3)
 (.seq (vR [vO 2 (.mov (.c (.bool true)))])
 (.ret))
 (.seq (vR [vM 11 0,vO 12 (.bin .lss (.c (.int .i32 57343)) (.t 11)),vM 13 12,⟨some 14,.mov (.t 0),some (13,true)⟩,⟨some 15,.bin .leq (.t 14) (.c (.int .i32 1114111)),some (13,true)⟩,vO 16 (.pick (.t 13) (.t 15) (.c (.bool false))),vM 10 16])
 (.cond (.t 10)
 (.seq (vR [vO 2 (.mov (.c (.bool true)))])
 (.ret))
 (.skip))))))
 (.seq (vR [vO 2 (.mov (.c (.bool false)))])
 (.ret))),
  [.tmp 2]⟩
def zk2:AFun:=⟨11,
  .seq (vR [vO 4 (.mov (.c (.str [])))])
 (.seq (vR [vM 5 1,vM 6 0,vO 7 (.lenS (.t 6)),vB 8 .sub 5 7,vO 9 (.mm true (.t 8) (vI 0)),vO 10 (.call zg7 [(.c (.str [32])),(.t 9)]),vM 4 10])
 (.ret)),
  [.tmp 4]⟩
def zg4:AFun:=⟨21,
  .seq (vR [vO 4 (.mov (.c (.bool false)))])
 (.seq (vR [vM 5 0,vO 6 (.lenS (.t 5)),vM 7 1,vO 8 (.lenS (.t 7)),vB 9 .geq 6 8,vM 10 9,⟨some 11,.mov (.t 0),some (10,true)⟩,⟨some 12,.mov (.t 0),some (10,true)⟩,⟨some 13,.lenS (.t 12),some (10,true)⟩,⟨some 14,.mov (.t 1),some (10,true)⟩,⟨some 15,.lenS (.t 14),some (10,true)⟩,⟨some 16,.bin .sub (.t 13) (.t 15),some (10,true)⟩,⟨some 17,.ssl (.t 11) (some (.t 16)) none,some (10,true)⟩,⟨some 18,.mov (.t 1),some (10,true)⟩,⟨some 19,.bin .eql (.t 17) (.t 18),some (10,true)⟩,vO 20 (.pick (.t 10) (.t 19) (.c (.bool false))),vM 4 20])
 (.ret)),
  [.tmp 4]⟩
def zdF:ACode:=
  .seq (.seq (vR [vM 34 10,vM 35 3,vB 36 .lss 34 35])
 (.cond (.t 36)
 (.skip)
 (.exit 0)))
 (.block 1 (.seq (vR [vM 37 0,vM 38 1,vO 39 (.call ziO [(.t 37),(.t 38)]),vM 11 39])
 (.seq (.seq (vR [vM 40 11,vO 41 (.bin .lss (.t 40) (vI 0))])
 (.cond (.t 41)
 (.exit 0)
 (.skip)))
 (.seq (vR [vM 42 9,vM 43 10,vM 44 0,vM 45 11,vM 46 2,vB 47 .add 45 46,vO 48 (.ssl (.t 44) none (some (.t 47))),vO 49 (.idxA 1 (.t 42) (.t 43)),⟨none,.st 1 (.t 49) (.t 48),none⟩])
 (.seq (vR [vM 50 0,vM 51 11,vM 52 1,vO 53 (.lenS (.t 52)),vB 54 .add 51 53,vO 55 (.ssl (.t 50) (some (.t 54)) none),vM 0 55])
 (vR [vM 56 10,vO 57 (.bin .add (.t 56) (vI 1)),vM 10 57]))))))
def zh4:AFun:=⟨66,
  .seq (vR [vO 8 (.mov (.c (.sl .ex [])))])
 (.seq (.seq (vR [vM 12 3,vO 13 (.bin .eql (.t 12) (vI 0))])
 (.cond (.t 13)
 (.seq (vR [vO 8 (.mov (.c (.sl .ex [])))])
 (.ret))
 (.skip)))
 (.seq (.seq (vR [vM 14 1,vO 15 (.bin .eql (.t 14) (.c (.str [])))])
 (.cond (.t 15)
 (.seq (vR [vM 16 0,vM 17 3,vO 18 (.call zqy [(.t 16),(.t 17)]),vM 8 18])
 (.ret))
 (.skip)))
 (.seq (.seq (vR [vM 19 3,vO 20 (.bin .lss (.t 19) (vI 0))])
 (.cond (.t 20)
 (vR [vM 21 0,vM 22 1,vO 23 (.call zod [(.t 21),(.t 22)]),vO 24 (.bin .add (.t 23) (vI 1)),vM 3 24])
 (.skip)))
 (.seq (vR [vM 25 3,vM 26 0,vO 27 (.lenS (.t 26)),vO 28 (.bin .add (.t 27) (vI 1)),vO 29 (.mm false (.t 25) (.t 28)),vM 3 29])
 (.seq (vR [vM 30 3,vO 31 (.mkR 1 16 [.str []] (.t 30) (.t 30)),vM 9 31])
 (.seq (vR [vM 32 3,vO 33 (.bin .sub (.t 32) (vI 1)),vM 3 33])
 (.seq (vR [vO 10 (.mov (vI 0))])
 (.seq (.block 0 (.loop zdF))
 (.seq (vR [vM 58 9,vM 59 10,vM 60 0,vO 61 (.idxA 1 (.t 58) (.t 59)),⟨none,.st 1 (.t 61) (.t 60),none⟩])
 (.seq (vR [vM 62 9,vM 63 10,vO 64 (.bin .add (.t 63) (vI 1)),vO 65 (.sls 1 (.t 62) none (some (.t 64)) none),vM 8 65])
 (.ret))))))))))),
  [.tmp 8]⟩
section
variable {X:Cx}(hX:X.P=Go.Proofs.Tryz.prog)
include hX
theorem zq8:zaa X.P zlx vH=some zql:=by rw[hX];kernel_rfl
theorem zo0:zaa X.P zjl vH=some zoc:=by rw[hX];kernel_rfl
theorem zle:zaa X.P zdM vH=some zjO:=by rw[hX];kernel_rfl
theorem zlE:zaa X.P zdY vH=some zjF:=by rw[hX];kernel_rfl
theorem zlo:zaa X.P zdW vH=some zjP:=by rw[hX];kernel_rfl
theorem zkU:zaa X.P zdO vH=some zjU:=by rw[hX];kernel_rfl
theorem zpr:zaa X.P zix vH=some ziw:=by rw[hX];kernel_rfl
theorem zqV:zaa X.P zl1 vH=some zqO:=by rw[hX];kernel_rfl
theorem zvb:zaa X.P zlL vH=some zv9:=by rw[hX];kernel_rfl
theorem zlm:zaa X.P zd4 vH=some zj2:=by rw[hX];kernel_rfl
theorem zmV:zaa X.P zhq vH=some zkQ:=by rw[hX];kernel_rfl
theorem zic:zaa X.P zcn vH=some zgI:=by rw[hX];kernel_rfl
theorem zo5:zaa X.P zgr vH=some zjv:=by rw[hX];kernel_rfl
theorem zlD:zaa X.P zdP vH=some zkb:=by rw[hX];kernel_rfl
theorem zpy:zaa X.P zjf vH=some zno:=by rw[hX];kernel_rfl
theorem zhN:zaa X.P zc8 vH=some zeL:=by rw[hX];kernel_rfl
theorem zov:zaa X.P zjw vH=some znj:=by rw[hX];kernel_rfl
theorem zpl:zaa X.P zjn vH=some znF:=by rw[hX];kernel_rfl
theorem zb9:zaa X.P zda vH=some zdc:=by rw[hX];kernel_rfl
theorem zpi:zaa X.P ziA vH=some zm7:=by rw[hX];kernel_rfl
theorem zcc:zaa X.P zaK vH=some zbi:=by rw[hX];kernel_rfl
theorem zlT:zaa X.P zcH vH=some zjV:=by rw[hX];kernel_rfl
theorem zpa:zaa X.P zjd vH=some znb:=by rw[hX];kernel_rfl
theorem zq4:zaa X.P zeR vH=some zqZ:=by rw[hX];kernel_rfl
theorem zpf:zaa X.P zc9 vH=some znA:=by rw[hX];kernel_rfl
theorem zin:zaa X.P zet vH=some zg1:=by rw[hX];kernel_rfl
theorem zoQ:zaa X.P zeD vH=some zn1:=by rw[hX];kernel_rfl
theorem zsG:zaa X.P zkv vH=some zt2:=by rw[hX];kernel_rfl
theorem zpX:zaa X.P ziJ vH=some znm:=by rw[hX];kernel_rfl
theorem zjt:zaa X.P zaG vH=some zg2:=by rw[hX];kernel_rfl
theorem zoy:zaa X.P ziB vH=some znO:=by rw[hX];kernel_rfl
theorem zmK:zaa X.P zhy vH=some zk6:=by rw[hX];kernel_rfl
theorem zmE:zaa X.P zhl vH=some zk9:=by rw[hX];kernel_rfl
theorem zuI:zaa X.P zoR vH=some zxH:=by rw[hX];kernel_rfl
theorem zm3:zaa X.P zhr vH=some zk4:=by rw[hX];kernel_rfl
theorem ziF:zaa X.P zaN vH=some zgR:=by rw[hX];kernel_rfl
theorem zea:zaa X.P zbn vH=some zcj:=by rw[hX];kernel_rfl
theorem zfi:zaa X.P ziE vH=some zgD:=by rw[hX];kernel_rfl
theorem zo4:zaa X.P ziy vH=some znG:=by rw[hX];kernel_rfl
theorem zmy:zaa X.P zgi vH=some zj8:=by rw[hX];kernel_rfl
theorem zoi:zaa X.P zjD vH=some zn7:=by rw[hX];kernel_rfl
theorem zq6:zaa X.P zln vH=some zqX:=by rw[hX];kernel_rfl
theorem zpT:zaa X.P zgH vH=some znw:=by rw[hX];kernel_rfl
theorem zqL:zaa X.P zkZ vH=some zq1:=by rw[hX];kernel_rfl
theorem zhU:zaa X.P ziV vH=some ziY:=by rw[hX];kernel_rfl
theorem zpV:zaa X.P zgE vH=some znB:=by rw[hX];kernel_rfl
theorem zsR:zaa X.P zhT vH=some ztx:=by rw[hX];kernel_rfl
theorem zru:zaa X.P zlz vH=some zrA:=by rw[hX];kernel_rfl
theorem zhZ:zaa X.P ziT vH=some zi9:=by rw[hX];kernel_rfl
theorem zoZ:zaa X.P zi4 vH=some zey:=by rw[hX];kernel_rfl
theorem zme:zaa X.P zdN vH=some zd7:=by rw[hX];kernel_rfl
theorem zbh:zaa X.P zas vH=some zaT:=by rw[hX];kernel_rfl
theorem zft:zaa X.P zbb vH=some zfl:=by rw[hX];kernel_rfl
theorem zmW:zaa X.P zfj vH=some zk2:=by rw[hX];kernel_rfl
theorem zjq:zaa X.P zej vH=some zg4:=by rw[hX];kernel_rfl
theorem zkt:zaa X.P zfn vH=some zh4:=by rw[hX];kernel_rfl
end
end Go.Avm
