/- The functions as they have been read. -/
import Derived.Test.YtcldomkahgaplaaGreatDoorAG3
import Derived.Test.YtcldomkahgaplaaGreatDoorProg
set_option linter.all false
namespace Go.Avm
open Go
def zfV:ACode:=
  .seq (.seq (vR [vM 7 3,vO 8 (.ld none (.t 1)),vO 9 (.len (.t 8)),vB 10 .lss 7 9])
 (.cond (.t 10)
 (.skip)
 (.exit 0)))
 (.block 1 (.seq (vR [vO 12 (.ld none (.t 1)),vM 13 3,vO 14 (.call zfk [(.t 12),(.t 13)]),vM 11 14,vE 15 11 0,vE 16 11 1,vE 17 11 2,vM 4 15,vM 5 16,vM 6 17])
 (.seq (.seq (vR [vM 18 6,vO 19 (.bin .neq (.t 18) (vI 0)),vM 20 19,⟨some 21,.mov (.t 0),some (20,false)⟩,⟨some 22,.mov (.t 3),some (20,false)⟩,⟨some 23,.mov (.t 4),some (20,false)⟩,⟨some 24,.callv (.t 21) [(.t 22),(.t 23)],some (20,false)⟩,⟨some 25,.not (.t 24),some (20,false)⟩,vO 26 (.pick (.t 20) (.c (.bool true)) (.t 25))])
 (.cond (.t 26)
 (.ret)
 (.skip)))
 (vR [vM 27 3,vM 28 5,vB 29 .add 27 28,vM 3 29]))))
def zjm:AFun:=⟨30,
  .seq (vR [vO 3 (.mov (vI 0))])
 (.block 0 (.loop zfV)),
  []⟩
def zl0:AFun:=⟨9,
  .seq (vR [vO 2 (.mov (.c (.bool false)))])
 (.seq (vR [vM 3 0,vO 4 (.bin .geq (.t 3) (.c (.int .u8 97))),vM 5 4,⟨some 6,.mov (.t 0),some (5,true)⟩,⟨some 7,.bin .leq (.t 6) (.c (.int .u8 122)),some (5,true)⟩,vO 8 (.pick (.t 5) (.t 7) (.c (.bool false))),vM 2 8])
 (.ret)),
  [.tmp 2]⟩
def ze9:ACode:=
  .seq (.seq (vR [vM 9 7,vM 10 0,vO 11 (.lenS (.t 10)),vB 12 .lss 9 11,vM 13 12,⟨some 14,.mov (.t 0),some (13,true)⟩,⟨some 15,.mov (.t 7),some (13,true)⟩,⟨some 16,.idxS (.t 14) (.t 15),some (13,true)⟩,⟨some 17,.call zdi [(.t 16)],some (13,true)⟩,⟨some 18,.mov (.t 17),some (13,true)⟩,⟨some 19,.mov (.t 0),some (18,false)⟩,⟨some 20,.mov (.t 7),some (18,false)⟩,⟨some 21,.idxS (.t 19) (.t 20),some (18,false)⟩,⟨some 22,.call zc5 [(.t 21)],some (18,false)⟩,⟨some 23,.pick (.t 18) (.c (.bool true)) (.t 22),some (13,true)⟩,vO 24 (.pick (.t 13) (.t 23) (.c (.bool false)))])
 (.cond (.t 24)
 (.skip)
 (.exit 0)))
 (.block 1 (.seq (.seq (vR [vM 25 7,vM 26 1,vB 27 .sub 25 26,vO 28 (.bin .eql (.t 27) (vI 16))])
 (.cond (.t 28)
 (.seq (vR [vO 29 (.build [.int .i64 0,.int .i64 0,.int .i64 0,.int .i64 0,.str []] []),vM 30 7,⟨none,.st 5 (.t 4) (.t 29),none⟩,vM 5 30,vO 6 (.mov (vI 3))])
 (.ret))
 (.skip)))
 (vR [vM 31 7,vO 32 (.bin .add (.t 31) (vI 1)),vM 7 32])))
def zrj:AFun:=⟨40,
  .seq (vR [vO 4 (.alloc [.int .i64 0,.int .i64 0,.int .i64 0,.int .i64 0,.str []]),vO 5 (.mov (vI 0)),vO 6 (.mov (vI 0))])
 (.seq (vR [vM 8 1,vM 7 8])
 (.seq (.block 0 (.loop ze9))
 (.seq (vR [vM 33 1,vM 34 7,vM 35 0,vM 36 1,vM 37 7,vO 38 (.ssl (.t 35) (some (.t 36)) (some (.t 37))),vO 39 (.build [.int .i64 0,.int .i64 0,.int .i64 0,.int .i64 0,.str []] [(0,1,(vI 1)),(1,1,(.t 33)),(2,1,(.t 34)),(4,1,(.t 38))]),⟨none,.st 5 (.t 4) (.t 39),none⟩,vO 5 (.mov (vI 0)),vO 6 (.mov (vI 0))])
 (.ret)))),
  [.cell (some 5) 4,.tmp 5,.tmp 6]⟩
def znN:AFun:=⟨9,
  .seq (vR [vO 2 (.mov (.c (.bool false)))])
 (.seq (vR [vM 3 0,vO 4 (.bin .geq (.t 3) (.c (.int .u8 48))),vM 5 4,⟨some 6,.mov (.t 0),some (5,true)⟩,⟨some 7,.bin .leq (.t 6) (.c (.int .u8 57)),some (5,true)⟩,vO 8 (.pick (.t 5) (.t 7) (.c (.bool false))),vM 2 8])
 (.ret)),
  [.tmp 2]⟩
def zb6:ACode:=
  .seq (.seq (vR [vM 19 8,vM 20 0,vO 21 (.lenS (.t 20)),vB 22 .lss 19 21,vM 23 22,⟨some 24,.mov (.t 0),some (23,true)⟩,⟨some 25,.mov (.t 8),some (23,true)⟩,⟨some 26,.idxS (.t 24) (.t 25),some (23,true)⟩,⟨some 27,.call zc5 [(.t 26)],some (23,true)⟩,vO 28 (.pick (.t 23) (.t 27) (.c (.bool false)))])
 (.cond (.t 28)
 (.skip)
 (.exit 0)))
 (.block 1 (vR [vM 29 8,vO 30 (.bin .add (.t 29) (vI 1)),vM 8 30]))
def zhA:AFun:=⟨67,
  .seq (vR [vO 4 (.alloc [.int .i64 0,.int .i64 0,.int .i64 0,.int .i64 0,.str []]),vO 5 (.mov (vI 0)),vO 6 (.mov (vI 0))])
 (.seq (vR [vM 11 1,vM 7 11])
 (.seq (.seq (vR [vM 12 0,vM 13 1,vO 14 (.idxS (.t 12) (.t 13)),vO 15 (.bin .eql (.t 14) (.c (.int .u8 45)))])
 (.cond (.t 15)
 (vR [vM 16 7,vO 17 (.bin .add (.t 16) (vI 1)),vM 7 17])
 (.skip)))
 (.seq (vR [vM 18 7,vM 8 18])
 (.seq (.block 0 (.loop zb6))
 (.seq (.seq (vR [vM 31 8,vM 32 7,vB 33 .eql 31 32])
 (.cond (.t 33)
 (.seq (vR [vO 34 (.build [.int .i64 0,.int .i64 0,.int .i64 0,.int .i64 0,.str []] []),vM 35 1,⟨none,.st 5 (.t 4) (.t 34),none⟩,vM 5 35,vO 6 (.mov (vI 6))])
 (.ret))
 (.skip)))
 (.seq (vR [vM 37 0,vM 38 7,vM 39 8,vO 40 (.ssl (.t 37) (some (.t 38)) (some (.t 39))),vM 41 7,vM 42 1,vB 43 .gtr 41 42,vO 44 (.call zi3 [(.t 40),(.t 43)]),vM 36 44,vE 45 36 0,vE 46 36 1,vM 9 45,vM 10 46])
 (.seq (.seq (vR [vM 47 10,vO 48 (.not (.t 47))])
 (.cond (.t 48)
 (.seq (vR [vO 49 (.build [.int .i64 0,.int .i64 0,.int .i64 0,.int .i64 0,.str []] []),vM 50 1,⟨none,.st 5 (.t 4) (.t 49),none⟩,vM 5 50,vO 6 (.mov (vI 7))])
 (.ret))
 (.skip)))
 (.seq (.seq (vR [vM 51 8,vM 52 0,vO 53 (.lenS (.t 52)),vB 54 .lss 51 53,vM 55 54,⟨some 56,.mov (.t 0),some (55,true)⟩,⟨some 57,.mov (.t 8),some (55,true)⟩,⟨some 58,.idxS (.t 56) (.t 57),some (55,true)⟩,⟨some 59,.call zdi [(.t 58)],some (55,true)⟩,vO 60 (.pick (.t 55) (.t 59) (.c (.bool false)))])
 (.cond (.t 60)
 (.seq (vR [vO 61 (.build [.int .i64 0,.int .i64 0,.int .i64 0,.int .i64 0,.str []] []),vM 62 8,⟨none,.st 5 (.t 4) (.t 61),none⟩,vM 5 62,vO 6 (.mov (vI 6))])
 (.ret))
 (.skip)))
 (.seq (vR [vM 63 1,vM 64 8,vM 65 9,vO 66 (.build [.int .i64 0,.int .i64 0,.int .i64 0,.int .i64 0,.str []] [(0,1,(vI 2)),(1,1,(.t 63)),(2,1,(.t 64)),(3,1,(.t 65))]),⟨none,.st 5 (.t 4) (.t 66),none⟩,vO 5 (.mov (vI 0)),vO 6 (.mov (vI 0))])
 (.ret)))))))))),
  [.cell (some 5) 4,.tmp 5,.tmp 6]⟩
def zdr:ACode:=
  .seq (.seq (vR [vM 14 8,vM 15 0,vO 16 (.lenS (.t 15)),vB 17 .lss 14 16,vM 18 17,⟨some 19,.mov (.t 0),some (18,true)⟩,⟨some 20,.mov (.t 8),some (18,true)⟩,⟨some 21,.idxS (.t 19) (.t 20),some (18,true)⟩,⟨some 22,.bin .neq (.t 21) (.c (.int .u8 34)),some (18,true)⟩,vO 23 (.pick (.t 18) (.t 22) (.c (.bool false)))])
 (.cond (.t 23)
 (.skip)
 (.exit 0)))
 (.block 1 (.seq (vR [vM 25 0,vM 26 8,vO 27 (.call zgk [(.t 25),(.t 26)]),vM 24 27,vE 28 24 0,vE 29 24 1,vE 30 24 2,vM 9 28,vM 10 29,vM 11 30])
 (.seq (.seq (vR [vM 31 11,vO 32 (.not (.t 31))])
 (.cond (.t 32)
 (.seq (vR [vO 33 (.build [.int .i64 0,.int .i64 0,.int .i64 0,.int .i64 0,.str []] []),vM 34 8,⟨none,.st 5 (.t 4) (.t 33),none⟩,vM 5 34,vO 6 (.mov (vI 6))])
 (.ret))
 (.skip)))
 (.seq (vR [vM 35 7,vM 36 9,vB 37 .add 35 36,vM 7 37])
 (vR [vM 38 10,vM 8 38])))))
def zqk:AFun:=⟨50,
  .seq (vR [vO 4 (.alloc [.int .i64 0,.int .i64 0,.int .i64 0,.int .i64 0,.str []]),vO 5 (.mov (vI 0)),vO 6 (.mov (vI 0))])
 (.seq (vR [vO 7 (.mov (.c (.str [])))])
 (.seq (vR [vM 12 1,vO 13 (.bin .add (.t 12) (vI 1)),vM 8 13])
 (.seq (.block 0 (.loop zdr))
 (.seq (.seq (vR [vM 39 8,vM 40 0,vO 41 (.lenS (.t 40)),vB 42 .geq 39 41])
 (.cond (.t 42)
 (.seq (vR [vO 43 (.build [.int .i64 0,.int .i64 0,.int .i64 0,.int .i64 0,.str []] []),vM 44 1,⟨none,.st 5 (.t 4) (.t 43),none⟩,vM 5 44,vO 6 (.mov (vI 6))])
 (.ret))
 (.skip)))
 (.seq (vR [vM 45 1,vM 46 8,vO 47 (.bin .add (.t 46) (vI 1)),vM 48 7,vO 49 (.build [.int .i64 0,.int .i64 0,.int .i64 0,.int .i64 0,.str []] [(0,1,(vI 3)),(1,1,(.t 45)),(2,1,(.t 47)),(4,1,(.t 48))]),⟨none,.st 5 (.t 4) (.t 49),none⟩,vO 5 (.mov (vI 0)),vO 6 (.mov (vI 0))])
 (.ret)))))),
  [.cell (some 5) 4,.tmp 5,.tmp 6]⟩
def zrG:AFun:=⟨8,
  .seq (vR [vO 2 (.mov (.c (.str [])))])
 (.seq (vR [vO 3 (.bsl 1 (.str []) 6 [(0,(.c (.str [40]))),(1,(.c (.str [41]))),(2,(.c (.str [91]))),(3,(.c (.str [93]))),(4,(.c (.str [60,45]))),(5,(.c (.str [61])))]),vM 4 0,vO 5 (.bin .sub (.t 4) (vI 4)),vO 6 (.idxA 1 (.t 3) (.t 5)),vO 7 (.ld none (.t 6)),vM 2 7])
 (.ret)),
  [.tmp 2]⟩
def zkM:AFun:=⟨23,
  .seq (vR [vO 2 (.mov (vI 0)),vO 3 (.mov (.c (.bool false)))])
 (.seq (vR [vM 7 0,vO 8 (.call zhd [(.t 7)]),vM 4 8])
 (.seq (.seq (vR [vM 9 4,vO 10 (.call zlL [(.t 9)]),vO 11 (.not (.t 10))])
 (.cond (.t 11)
 (.seq (vR [vO 2 (.mov (vI 0)),vO 3 (.mov (.c (.bool false)))])
 (.ret))
 (.skip)))
 (.seq (vR [vM 13 4,vO 14 (.call zdf [(.t 13)]),vM 12 14,vE 15 12 0,vE 16 12 1,vM 5 15,vM 6 16])
 (.seq (.region true [vM 17 4,vM 18 0,vO 19 (.b2s (.t 18)),vM 20 5,vO 21 (.b2s (.t 20)),vB 22 .eql 19 21,vM 2 17,vM 3 22])
 (.ret))))),
  [.tmp 2,.tmp 3]⟩
def zbc:ACode:=
  .seq (.seq (vR [vM 45 6,vO 46 (.len (.t 45)),vM 47 3,vB 48 .lss 46 47])
 (.cond (.t 48)
 (.skip)
 (.exit 3)))
 (.block 4 (vR [vM 49 6,vM 50 5,vO 51 (.conv .u8 (.t 50)),vO 52 (.bsl 1 (.int .u8 0) 1 [(0,(.t 51))]),vO 53 (.app 1 1 (.t 49) (.t 52)),vM 6 53]))
def zaH:ACode:=
  .seq (.seq (vR [vM 38 5,vO 39 (.bin .leq (.t 38) (vI 191))])
 (.cond (.t 39)
 (.skip)
 (.exit 1)))
 (.seq (.block 2 (.seq (vR [vO 42 (.bsl 1 (.int .u8 0) 0 []),vM 43 0,vO 44 (.app 1 1 (.t 42) (.t 43)),vM 6 44])
 (.seq (.block 3 (.loop zbc))
 (.seq (vR [vM 55 6,vO 56 (.call ze6 [(.t 55)]),vM 54 56,vE 57 54 0,vE 58 54 1,vM 7 57,vM 8 58])
 (.seq (vR [vM 59 8])
 (.cond (.t 59)
 (.seq (vR [vO 2 (.mov (.c (.bool true)))])
 (.ret))
 (.skip)))))))
 (vR [vM 40 5,vO 41 (.bin .add (.t 40) (vI 63)),vM 5 41]))
def zma:AFun:=⟨60,
  .seq (vR [vO 2 (.mov (.c (.bool false)))])
 (.seq (vR [vO 3 (.mov (vI 0))])
 (.seq (vR [vM 9 0,vO 10 (.idxA 1 (.t 9) (vI 0)),vO 11 (.ld none (.t 10)),vO 12 (.conv .i64 (.t 11)),vM 4 12])
 (.seq (.block 0 (.seq (vR [vM 14 4,vO 15 (.bin .geq (.t 14) (vI 192)),vM 16 15,⟨some 17,.mov (.t 4),some (16,true)⟩,⟨some 18,.bin .lss (.t 17) (vI 224),some (16,true)⟩,vO 19 (.pick (.t 16) (.t 18) (.c (.bool false))),vM 13 19])
 (.cond (.t 13)
 (vR [vO 3 (.mov (vI 2))])
 (.seq (vR [vM 21 4,vO 22 (.bin .geq (.t 21) (vI 224)),vM 23 22,⟨some 24,.mov (.t 4),some (23,true)⟩,⟨some 25,.bin .lss (.t 24) (vI 240),some (23,true)⟩,vO 26 (.pick (.t 23) (.t 25) (.c (.bool false))),vM 20 26])
 (.cond (.t 20)
 (vR [vO 3 (.mov (vI 3))])
 (.seq (vR [vM 28 4,vO 29 (.bin .geq (.t 28) (vI 240)),vM 30 29,⟨some 31,.mov (.t 4),some (30,true)⟩,⟨some 32,.bin .lss (.t 31) (vI 248),some (30,true)⟩,vO 33 (.pick (.t 30) (.t 32) (.c (.bool false))),vM 27 33])
 (.cond (.t 27)
 (vR [vO 3 (.mov (vI 4))])
 (.skip))))))))
 (.seq (.seq (vR [vM 34 0,vO 35 (.len (.t 34)),vM 36 3,vB 37 .geq 35 36])
 (.cond (.t 37)
 (.seq (vR [vO 2 (.mov (.c (.bool false)))])
 (.ret))
 (.skip)))
 (.seq (.seq (vR [vO 5 (.mov (vI 128))])
 (.block 1 (.loop zaH)))
 (.seq (vR [vO 2 (.mov (.c (.bool false)))])
 (.ret))))))),
  [.tmp 2]⟩
def zbV:ACode:=
  .seq (vR [vB 9 .lss 8 7])
 (.seq (.cond (.t 9)
 (.skip)
 (.exit 0))
 (.seq (.block 1 (.seq (vR [vM 10 8,vM 5 10])
 (.seq (vR [vM 11 1,vM 12 0,vM 13 5,vO 14 (.idxA 1 (.t 12) (.t 13)),vO 15 (.ld none (.t 14)),vO 16 (.callv (.t 11) [(.t 15)])])
 (.cond (.t 16)
 (.seq (vR [vM 17 5,vM 4 17])
 (.ret))
 (.skip)))))
 (vR [vO 18 (.bin .add (.t 8) (vI 1)),vM 8 18])))
def zce:AFun:=⟨19,
  .seq (vR [vO 4 (.mov (vI 0))])
 (.seq (.seq (vR [vM 6 0,vO 7 (.len (.t 6)),vO 8 (.mov (vI 0))])
 (.block 0 (.loop zbV)))
 (.seq (vR [vO 4 (.mov (vI (-1)))])
 (.ret))),
  [.tmp 4]⟩
def zfC:AFun:=⟨13,
  .seq (vR [vO 4 (.mov (.c (.str [])))])
 (.seq (.seq (vR [vM 5 0,vM 6 1,vO 7 (.call zcD [(.t 5),(.t 6)])])
 (.cond (.t 7)
 (.seq (vR [vM 8 0,vM 9 1,vO 10 (.lenS (.t 9)),vO 11 (.ssl (.t 8) (some (.t 10)) none),vM 4 11])
 (.ret))
 (.skip)))
 (.seq (vR [vM 12 0,vM 4 12])
 (.ret))),
  [.tmp 4]⟩
def zdI:ACode:=
  .seq (.seq (vR [vM 6 4,vM 7 0,vO 8 (.lenS (.t 7)),vB 9 .lss 6 8])
 (.cond (.t 9)
 (.skip)
 (.exit 0)))
 (.seq (.block 1 (.seq (vR [vM 12 0,vM 13 4,vO 14 (.idxS (.t 12) (.t 13)),vM 5 14])
 (.seq (.seq (vR [vM 15 5,vO 16 (.bin .geq (.t 15) (.c (.int .u8 128)))])
 (.cond (.t 16)
 (.seq (vR [vO 17 (.ld (some 256) (.t 2)),⟨none,.st 256 (.t 2) (.t 17),none⟩,vO 3 (.mov (.c (.bool false)))])
 (.ret))
 (.skip)))
 (vR [vM 18 5,vO 19 (.idxP 256 1 (.t 2) (.t 18)),⟨none,.st 1 (.t 19) (.c (.bool true)),none⟩]))))
 (vR [vM 10 4,vO 11 (.bin .add (.t 10) (vI 1)),vM 4 11]))
def zeA:AFun:=⟨21,
  .seq (vR [vO 2 (.alloc (List.replicate 256 (.bool false))),vO 3 (.mov (.c (.bool false)))])
 (.seq (.seq (vR [vO 4 (.mov (vI 0))])
 (.block 0 (.loop zdI)))
 (.seq (vR [vO 20 (.ld (some 256) (.t 2)),⟨none,.st 256 (.t 2) (.t 20),none⟩,vO 3 (.mov (.c (.bool true)))])
 (.ret))),
  [.cell (some 256) 2,.tmp 3]⟩
def zcY:ACode:=
  .seq (.seq (vR [vM 5 0,vO 6 (.lenS (.t 5)),vO 7 (.bin .gtr (.t 6) (vI 0))])
 (.cond (.t 7)
 (.skip)
 (.exit 0)))
 (.block 1 (.seq (.seq (vR [vM 8 1,vM 9 0,vO 10 (.idxS (.t 9) (vI 0)),vO 11 (.call zaR [(.t 8),(.t 10)]),vO 12 (.not (.t 11))])
 (.cond (.t 12)
 (.exit 0)
 (.skip)))
 (vR [vM 13 0,vO 14 (.ssl (.t 13) (some (vI 1)) none),vM 0 14])))
def zdV:AFun:=⟨16,
  .seq (vR [vO 4 (.mov (.c (.str [])))])
 (.seq (.block 0 (.loop zcY))
 (.seq (vR [vM 15 0,vM 4 15])
 (.ret))),
  [.tmp 4]⟩
def zcN:ACode:=
  .seq (.seq (vR [vM 5 0,vO 6 (.lenS (.t 5)),vO 7 (.bin .gtr (.t 6) (vI 0))])
 (.cond (.t 7)
 (.skip)
 (.exit 0)))
 (.block 1 (.seq (.seq (vR [vM 8 1,vM 9 0,vM 10 0,vO 11 (.lenS (.t 10)),vO 12 (.bin .sub (.t 11) (vI 1)),vO 13 (.idxS (.t 9) (.t 12)),vO 14 (.call zaR [(.t 8),(.t 13)]),vO 15 (.not (.t 14))])
 (.cond (.t 15)
 (.exit 0)
 (.skip)))
 (vR [vM 16 0,vM 17 0,vO 18 (.lenS (.t 17)),vO 19 (.bin .sub (.t 18) (vI 1)),vO 20 (.ssl (.t 16) none (some (.t 19))),vM 0 20])))
def zdB:AFun:=⟨22,
  .seq (vR [vO 4 (.mov (.c (.str [])))])
 (.seq (.block 0 (.loop zcN))
 (.seq (vR [vM 21 0,vM 4 21])
 (.ret))),
  [.tmp 4]⟩
def zbO:ACode:=
  .seq (vR [vB 102 .lss 101 100])
 (.seq (.cond (.t 102)
 (.skip)
 (.exit 3))
 (.seq (.block 4 (.seq (vR [vO 103 (.idxA 1 (.t 99) (.t 101)),vO 104 (.ld none (.t 103)),vM 15 104])
 (.seq (vR [vO 16 (.mov (.c (.int .u8 0)))])
 (.seq (.block 5 (.seq (vR [vM 107 15,vO 108 (.bin .eql (.t 107) (.c (.int .u8 95))),vM 109 108,⟨some 110,.mov (.t 8),some (109,true)⟩,vO 111 (.pick (.t 109) (.t 110) (.c (.bool false))),vM 106 111])
 (.cond (.t 106)
 (.seq (vR [vO 12 (.mov (.c (.bool true)))])
 (.exit 4))
 (.seq (vR [vM 113 15,vO 114 (.bin .leq (.c (.int .u8 48)) (.t 113)),vM 115 114,⟨some 116,.mov (.t 15),some (115,true)⟩,⟨some 117,.bin .leq (.t 116) (.c (.int .u8 57)),some (115,true)⟩,vO 118 (.pick (.t 115) (.t 117) (.c (.bool false))),vM 112 118])
 (.cond (.t 112)
 (vR [vM 119 15,vO 120 (.bin .sub (.t 119) (.c (.int .u8 48))),vM 16 120])
 (.seq (vR [vM 122 15,vO 123 (.call zb0 [(.t 122)]),vO 124 (.bin .leq (.c (.int .u8 97)) (.t 123)),vM 125 124,⟨some 126,.mov (.t 15),some (125,true)⟩,⟨some 127,.call zb0 [(.t 126)],some (125,true)⟩,⟨some 128,.bin .leq (.t 127) (.c (.int .u8 122)),some (125,true)⟩,vO 129 (.pick (.t 125) (.t 128) (.c (.bool false))),vM 121 129])
 (.cond (.t 121)
 (vR [vM 130 15,vO 131 (.call zb0 [(.t 130)]),vO 132 (.bin .sub (.t 131) (.c (.int .u8 97))),vO 133 (.bin .add (.t 132) (.c (.int .u8 10))),vM 16 133])
 (.seq (vR [vO 105 (.mki 210 (vI 2)),vO 6 (.mov (.c (.int .u64 0))),vM 7 105])
 (.ret)))))))))
 (.seq (.seq (vR [vM 134 16,vM 135 1,vO 136 (.conv .u8 (.t 135)),vB 137 .geq 134 136])
 (.cond (.t 137)
 (.seq (vR [vO 138 (.mki 210 (vI 2)),vO 6 (.mov (.c (.int .u64 0))),vM 7 138])
 (.ret))
 (.skip)))
 (.seq (.seq (vR [vM 139 13,vM 140 10,vB 141 .geq 139 140])
 (.cond (.t 141)
 (.seq (vR [vM 142 11,vO 143 (.mki 210 (vI 1)),vM 6 142,vM 7 143])
 (.ret))
 (.skip)))
 (.seq (vR [vM 144 13,vM 145 1,vO 146 (.conv .u64 (.t 145)),vB 147 .mul 144 146,vM 13 147])
 (.seq (vR [vM 148 13,vM 149 16,vO 150 (.conv .u64 (.t 149)),vB 151 .add 148 150,vM 17 151])
 (.seq (.seq (vR [vM 152 17,vM 153 13,vB 154 .lss 152 153,vM 155 154,⟨some 156,.mov (.t 17),some (155,false)⟩,⟨some 157,.mov (.t 11),some (155,false)⟩,⟨some 158,.bin .gtr (.t 156) (.t 157),some (155,false)⟩,vO 159 (.pick (.t 155) (.c (.bool true)) (.t 158))])
 (.cond (.t 159)
 (.seq (vR [vM 160 11,vO 161 (.mki 210 (vI 1)),vM 6 160,vM 7 161])
 (.ret))
 (.skip)))
 (vR [vM 162 17,vM 13 162]))))))))))
 (vR [vO 163 (.bin .add (.t 101) (vI 1)),vM 101 163])))
def zgZ:AFun:=⟨172,
  .seq (vR [vO 6 (.mov (.c (.int .u64 0))),vO 7 (.mov (.c (.nilI)))])
 (.seq (.seq (vR [vM 18 0,vO 19 (.bin .eql (.t 18) (.c (.str [])))])
 (.cond (.t 19)
 (.seq (vR [vO 20 (.mki 210 (vI 2)),vO 6 (.mov (.c (.int .u64 0))),vM 7 20])
 (.ret))
 (.skip)))
 (.seq (vR [vM 21 1,vO 22 (.bin .eql (.t 21) (vI 0)),vM 8 22])
 (.seq (vR [vM 23 0,vM 9 23])
 (.seq (.block 0 (.seq (vR [vM 26 1,vO 27 (.bin .leq (vI 2) (.t 26)),vM 28 27,⟨some 29,.mov (.t 1),some (28,true)⟩,⟨some 30,.bin .leq (.t 29) (vI 36),some (28,true)⟩,vO 31 (.pick (.t 28) (.t 30) (.c (.bool false))),vM 25 31])
 (.cond (.t 25)
 (.skip)
 (.seq (vR [vM 33 1,vO 34 (.bin .eql (.t 33) (vI 0)),vM 32 34])
 (.cond (.t 32)
 (.seq (vR [vO 1 (.mov (vI 10))])
 (.seq (vR [vM 35 0,vO 36 (.idxS (.t 35) (vI 0)),vO 37 (.bin .eql (.t 36) (.c (.int .u8 48)))])
 (.cond (.t 37)
 (.block 1 (.seq (vR [vM 41 0,vO 42 (.lenS (.t 41)),vO 43 (.bin .geq (.t 42) (vI 3)),vM 44 43,⟨some 45,.mov (.t 0),some (44,true)⟩,⟨some 46,.idxS (.t 45) (vI 1),some (44,true)⟩,⟨some 47,.call zb0 [(.t 46)],some (44,true)⟩,⟨some 48,.bin .eql (.t 47) (.c (.int .u8 98)),some (44,true)⟩,vO 49 (.pick (.t 44) (.t 48) (.c (.bool false))),vM 40 49])
 (.cond (.t 40)
 (.seq (vR [vO 1 (.mov (vI 2))])
 (vR [vM 50 0,vO 51 (.ssl (.t 50) (some (vI 2)) none),vM 0 51]))
 (.seq (vR [vM 53 0,vO 54 (.lenS (.t 53)),vO 55 (.bin .geq (.t 54) (vI 3)),vM 56 55,⟨some 57,.mov (.t 0),some (56,true)⟩,⟨some 58,.idxS (.t 57) (vI 1),some (56,true)⟩,⟨some 59,.call zb0 [(.t 58)],some (56,true)⟩,⟨some 60,.bin .eql (.t 59) (.c (.int .u8 111)),some (56,true)⟩,vO 61 (.pick (.t 56) (.t 60) (.c (.bool false))),vM 52 61])
 (.cond (.t 52)
 (.seq (vR [vO 1 (.mov (vI 8))])
 (vR [vM 62 0,vO 63 (.ssl (.t 62) (some (vI 2)) none),vM 0 63]))
 (.seq (vR [vM 65 0,vO 66 (.lenS (.t 65)),vO 67 (.bin .geq (.t 66) (vI 3)),vM 68 67,⟨some 69,.mov (.t 0),some (68,true)⟩,⟨some 70,.idxS (.t 69) (vI 1),some (68,true)⟩,⟨some 71,.call zb0 [(.t 70)],some (68,true)⟩,⟨some 72,.bin .eql (.t 71) (.c (.int .u8 120)),some (68,true)⟩,vO 73 (.pick (.t 68) (.t 72) (.c (.bool false))),vM 64 73])
 (.cond (.t 64)
 (.seq (vR [vO 1 (.mov (vI 16))])
 (vR [vM 74 0,vO 75 (.ssl (.t 74) (some (vI 2)) none),vM 0 75]))
 (.seq (vR [vO 1 (.mov (vI 8))])
 (vR [vM 38 0,vO 39 (.ssl (.t 38) (some (vI 1)) none),vM 0 39])))))))))
 (.skip))))
 (.seq (vR [vO 24 (.mki 210 (vI 3)),vO 6 (.mov (.c (.int .u64 0))),vM 7 24])
 (.ret)))))))
 (.seq (.seq (vR [vM 76 2,vO 77 (.bin .eql (.t 76) (vI 0))])
 (.cond (.t 77)
 (vR [vO 2 (.mov (vI 64))])
 (.seq (vR [vM 78 2,vO 79 (.bin .lss (.t 78) (vI 0)),vM 80 79,⟨some 81,.mov (.t 2),some (80,false)⟩,⟨some 82,.bin .gtr (.t 81) (vI 64),some (80,false)⟩,vO 83 (.pick (.t 80) (.c (.bool true)) (.t 82))])
 (.cond (.t 83)
 (.seq (vR [vO 84 (.mki 210 (vI 4)),vO 6 (.mov (.c (.int .u64 0))),vM 7 84])
 (.ret))
 (.skip)))))
 (.seq (vR [vO 10 (.mov (.c (.int .u64 0)))])
 (.seq (.seq (vR [vM 85 1])
 (.block 2 (.seq (vR [vO 91 (.bin .eql (.t 85) (vI 10)),vM 90 91])
 (.cond (.t 90)
 (vR [vO 10 (.mov (.c (.int .u64 1844674407370955162)))])
 (.seq (vR [vO 93 (.bin .eql (.t 85) (vI 16)),vM 92 93])
 (.cond (.t 92)
 (vR [vO 10 (.mov (.c (.int .u64 1152921504606846976)))])
 (vR [vM 86 1,vO 87 (.conv .u64 (.t 86)),vO 88 (.bin .quo (.c (.int .u64 18446744073709551615)) (.t 87)),vO 89 (.bin .add (.t 88) (.c (.int .u64 1))),vM 10 89])))))))
 (.seq (vR [vM 94 2,vO 95 (.conv .u64 (.t 94)),vO 96 (.bin .shl (.c (.int .u64 1)) (.t 95)),vO 97 (.bin .sub (.t 96) (.c (.int .u64 1))),vM 11 97])
 (.seq (vR [vO 12 (.mov (.c (.bool false)))])
 (.seq (vR [vO 13 (.mov (.c (.int .u64 0)))])
 (.seq (.seq (vR [vM 98 0,vO 99 (.s2b false (.t 98)),vO 100 (.len (.t 99)),vO 101 (.mov (vI 0))])
 (.block 3 (.loop zbO)))
 (.seq (.seq (vR [vM 164 12,vM 165 164,⟨some 166,.mov (.t 9),some (165,true)⟩,⟨some 167,.call ziD [(.t 166)],some (165,true)⟩,⟨some 168,.not (.t 167),some (165,true)⟩,vO 169 (.pick (.t 165) (.t 168) (.c (.bool false)))])
 (.cond (.t 169)
 (.seq (vR [vO 170 (.mki 210 (vI 2)),vO 6 (.mov (.c (.int .u64 0))),vM 7 170])
 (.ret))
 (.skip)))
 (.seq (vR [vM 171 13,vM 6 171,vO 7 (.mov (.c (.nilI)))])
 (.ret)))))))))))))),
  [.tmp 6,.tmp 7]⟩
def zeB:AFun:=⟨8,
  .seq (vR [vO 2 (.mov (.c (.bool false)))])
 (.seq (vR [vM 3 0,vM 4 0,vO 5 (.bin .sub (.t 4) (vI 1)),vB 6 .and 3 5,vO 7 (.bin .eql (.t 6) (vI 0)),vM 2 7])
 (.ret)),
  [.tmp 2]⟩
def zcX:AFun:=⟨8,
  .seq (vR [vO 2 (.mov (vI 0))])
 (.seq (.cond (.c (.bool false))
 (.seq (vR [vM 3 0,vO 4 (.conv .u32 (.t 3)),vO 5 (.call zfv [(.t 4)]),vM 2 5])
 (.ret))
 (.skip))
 (.seq (vR [vM 6 0,vO 7 (.call zbq [(.t 6)]),vM 2 7])
 (.ret))),
  [.tmp 2]⟩
def zjX:AFun:=⟨2,
  .seq (vR [vO 0 (.alloc [.str [],.str [],.str [],.str [],.str [],.str [],.str [],.str [],.str [],.str []])])
 (.seq (vR [vO 1 (.build [.str [],.str [],.str [],.str [],.str [],.str [],.str [],.str [],.str [],.str []] [(1,1,(.c (.str [32]))),(2,1,(.c (.str [10]))),(3,1,(.c (.str [40,91]))),(4,1,(.c (.str [41,93]))),(5,1,(.c (.str [34]))),(7,1,(.c (.str [45]))),(9,1,(.c (.str [60,61])))]),⟨none,.st 10 (.t 0) (.t 1),none⟩])
 (.ret)),
  [.cell (some 10) 0]⟩
def zeX:AFun:=⟨9,
  .seq (vR [vO 4 (.mov (.c (.bool false)))])
 (.seq (vR [vM 5 0,vM 6 1,vO 7 (.call zel [(.t 5),(.t 6)]),vO 8 (.bin .geq (.t 7) (vI 0)),vM 4 8])
 (.ret)),
  [.tmp 4]⟩
def ztH:AFun:=⟨13,
  .seq (vR [vO 4 (.mov (.c (.str []))),vO 5 (.mov (.c (.str []))),vO 6 (.mov (.c (.bool false)))])
 (.seq (vR [vM 7 0,vM 8 1,vO 9 (.call zoL [(.t 7),(.t 8)]),vE 10 9 0,vE 11 9 1,vE 12 9 2,vM 4 10,vM 5 11,vM 6 12])
 (.ret)),
  [.tmp 4,.tmp 5,.tmp 6]⟩
def zfp:ACode:=
  .seq (vR [vB 9 .lss 8 7])
 (.seq (.cond (.t 9)
 (.skip)
 (.exit 0))
 (.seq (.block 1 (.seq (vR [vO 10 (.idxA 1 (.t 6) (.t 8)),vO 11 (.ld none (.t 10)),vM 5 11])
 (.seq (.seq (vR [vM 12 5,vO 13 (.bin .lss (.t 12) (.c (.int .u8 128)))])
 (.cond (.t 13)
 (.seq (vR [vM 14 5,vO 15 (.conv .i32 (.t 14)),vM 2 15,vO 3 (.mov (vI 1))])
 (.ret))
 (.skip)))
 (.exit 0))))
 (vR [vO 16 (.bin .add (.t 8) (vI 1)),vM 8 16])))
def zgY:AFun:=⟨22,
  .seq (vR [vO 2 (.mov (.c (.int .i32 0))),vO 3 (.mov (vI 0))])
 (.seq (.seq (vR [vM 6 0,vO 7 (.len (.t 6)),vO 8 (.mov (vI 0))])
 (.block 0 (.loop zfp)))
 (.seq (vR [vM 18 0,vO 19 (.call zaY [(.t 18)]),vM 17 19,vE 20 17 0,vE 21 17 1,vM 2 20,vM 3 21])
 (.ret))),
  [.tmp 2,.tmp 3]⟩
def zjI:AFun:=⟨56,
  .seq (vR [vO 2 (.mov (.c (.bool false)))])
 (.seq (vR [vM 6 0,vO 7 (.len (.t 6)),vM 3 7])
 (.seq (.seq (vR [vM 8 3,vO 9 (.bin .eql (.t 8) (vI 0))])
 (.cond (.t 9)
 (.seq (vR [vO 2 (.mov (.c (.bool false)))])
 (.ret))
 (.skip)))
 (.seq (vR [vM 10 0,vO 11 (.idxA 1 (.t 10) (vI 0)),vO 12 (.ld none (.t 11)),vO 13 (.idxP 256 1 (.gl 0) (.t 12)),vO 14 (.ld none (.t 13)),vM 4 14])
 (.seq (.seq (vR [vM 15 3,vM 16 4,vO 17 (.bin .and (.t 16) (.c (.int .u8 7))),vO 18 (.conv .i64 (.t 17)),vB 19 .geq 15 18])
 (.cond (.t 19)
 (.seq (vR [vO 2 (.mov (.c (.bool true)))])
 (.ret))
 (.skip)))
 (.seq (vR [vM 20 4,vO 21 (.bin .shr (.t 20) (.c (.int .u64 4))),vO 22 (.idxP 16 2 (.gl 1) (.t 21)),vO 23 (.ld (some 2) (.t 22)),vO 5 (.alloc [.int .u8 0,.int .u8 0]),⟨none,.st 2 (.t 5) (.t 23),none⟩])
 (.seq (.seq (.region true [vM 24 3,vO 25 (.bin .gtr (.t 24) (vI 1)),vM 26 25,⟨some 27,.mov (.t 0),some (26,true)⟩,⟨some 28,.idxA 1 (.t 27) (vI 1),some (26,true)⟩,⟨some 29,.ld none (.t 28),some (26,true)⟩,⟨some 30,.fldA 0 (.t 5),some (26,true)⟩,⟨some 31,.ld none (.t 30),some (26,true)⟩,⟨some 32,.bin .lss (.t 29) (.t 31),some (26,true)⟩,⟨some 33,.mov (.t 32),some (26,true)⟩,⟨some 34,.fldA 1 (.t 5),some (33,false)⟩,⟨some 35,.ld none (.t 34),some (33,false)⟩,⟨some 36,.mov (.t 0),some (33,false)⟩,⟨some 37,.idxA 1 (.t 36) (vI 1),some (33,false)⟩,⟨some 38,.ld none (.t 37),some (33,false)⟩,⟨some 39,.bin .lss (.t 35) (.t 38),some (33,false)⟩,⟨some 40,.pick (.t 33) (.c (.bool true)) (.t 39),some (26,true)⟩,vO 41 (.pick (.t 26) (.t 40) (.c (.bool false)))])
 (.cond (.t 41)
 (.seq (vR [vO 2 (.mov (.c (.bool true)))])
 (.ret))
 (.seq (vR [vM 42 3,vO 43 (.bin .gtr (.t 42) (vI 2)),vM 44 43,⟨some 45,.mov (.t 0),some (44,true)⟩,⟨some 46,.idxA 1 (.t 45) (vI 2),some (44,true)⟩,⟨some 47,.ld none (.t 46),some (44,true)⟩,⟨some 48,.bin .lss (.t 47) (.c (.int .u8 128)),some (44,true)⟩,⟨some 49,.mov (.t 48),some (44,true)⟩,⟨some 50,.mov (.t 0),some (49,false)⟩,⟨some 51,.idxA 1 (.t 50) (vI 2),some (49,false)⟩,⟨some 52,.ld none (.t 51),some (49,false)⟩,⟨some 53,.bin .lss (.c (.int .u8 191)) (.t 52),some (49,false)⟩,⟨some 54,.pick (.t 49) (.c (.bool true)) (.t 53),some (44,true)⟩,vO 55 (.pick (.t 44) (.t 54) (.c (.bool false)))])
 (.cond (.t 55)
 (.seq (vR [vO 2 (.mov (.c (.bool true)))])
 (.ret))
 (.skip)))))
 (.seq (vR [vO 2 (.mov (.c (.bool false)))])
 (.ret)))))))),
  [.tmp 2]⟩
def zfB:ACode:=
  .seq (.seq (vR [vM 9 7,vM 10 0,vO 11 (.lenS (.t 10)),vB 12 .lss 9 11])
 (.cond (.t 12)
 (.skip)
 (.exit 0)))
 (.seq (.block 1 (.seq (vR [vM 15 0,vM 16 7,vO 17 (.idxS (.t 15) (.t 16)),vO 18 (.bin .sub (.t 17) (.c (.int .u8 48))),vO 19 (.conv .i64 (.t 18)),vM 8 19])
 (.seq (.seq (vR [vM 20 6,vM 21 8,vO 22 (.bin .add (vI (-9223372036854775808)) (.t 21)),vO 23 (.bin .quo (.t 22) (vI 10)),vB 24 .lss 20 23])
 (.cond (.t 24)
 (.seq (vR [vO 4 (.mov (vI 0)),vO 5 (.mov (.c (.bool false)))])
 (.ret))
 (.skip)))
 (vR [vM 25 6,vO 26 (.bin .mul (vI 10) (.t 25)),vM 27 8,vB 28 .sub 26 27,vM 6 28]))))
 (vR [vM 13 7,vO 14 (.bin .add (.t 13) (vI 1)),vM 7 14]))
def zm5:AFun:=⟨35,
  .seq (vR [vO 4 (.mov (vI 0)),vO 5 (.mov (.c (.bool false)))])
 (.seq (vR [vO 6 (.mov (vI 0))])
 (.seq (.seq (vR [vO 7 (.mov (vI 0))])
 (.block 0 (.loop zfB)))
 (.seq (.seq (vR [vM 29 1])
 (.cond (.t 29)
 (.seq (vR [vM 30 6,vM 4 30,vO 5 (.mov (.c (.bool true)))])
 (.ret))
 (.skip)))
 (.seq (vR [vM 31 6,vO 32 (.neg (.t 31)),vM 33 6,vO 34 (.bin .neq (.t 33) (vI (-9223372036854775808))),vM 4 32,vM 5 34])
 (.ret))))),
  [.tmp 4,.tmp 5]⟩
def zaI:AFun:=⟨86,
  .seq (vR [vO 4 (.mov (.c (.str []))),vO 5 (.mov (vI 0)),vO 6 (.mov (.c (.bool false)))])
 (.seq (.seq (vR [vM 15 0,vM 16 1,vO 17 (.idxS (.t 15) (.t 16)),vO 18 (.bin .neq (.t 17) (.c (.int .u8 92)))])
 (.cond (.t 18)
 (.seq (vR [vM 20 0,vO 21 (.s2b false (.t 20)),vM 22 1,vO 23 (.call zcv [(.t 21),(.t 22)]),vM 19 23,vE 24 19 0,vE 25 19 1,vE 26 19 2,vM 7 24,vM 8 25,vM 9 26])
 (.seq (vR [vM 27 0,vM 28 1,vM 29 1,vM 30 8,vB 31 .add 29 30,vO 32 (.ssl (.t 27) (some (.t 28)) (some (.t 31))),vM 33 1,vM 34 8,vB 35 .add 33 34,vM 36 9,vO 37 (.bin .eql (.t 36) (vI 0)),vM 38 37,⟨some 39,.mov (.t 7),some (38,true)⟩,⟨some 40,.bin .geq (.t 39) (vI 32),some (38,true)⟩,vO 41 (.pick (.t 38) (.t 40) (.c (.bool false))),vM 4 32,vM 5 35,vM 6 41])
 (.ret)))
 (.skip)))
 (.seq (.seq (vR [vM 42 1,vO 43 (.bin .add (.t 42) (vI 1)),vM 44 0,vO 45 (.lenS (.t 44)),vB 46 .eql 43 45])
 (.cond (.t 46)
 (.seq (vR [vO 4 (.mov (.c (.str []))),vO 5 (.mov (vI 0)),vO 6 (.mov (.c (.bool false)))])
 (.ret))
 (.skip)))
 (.seq (.seq (vR [vM 47 0,vM 48 1,vO 49 (.bin .add (.t 48) (vI 1)),vO 50 (.idxS (.t 47) (.t 49))])
 (.block 0 (.seq (.seq (vR [vO 52 (.bin .eql (.t 50) (.c (.int .u8 34))),vM 51 52])
 (.cond (.t 51)
 (.skip)
 (vR [vO 53 (.bin .eql (.t 50) (.c (.int .u8 92))),vM 51 53])))
 (.cond (.t 51)
 (.seq (vR [vM 54 0,vM 55 1,vO 56 (.bin .add (.t 55) (vI 1)),vM 57 1,vO 58 (.bin .add (.t 57) (vI 2)),vO 59 (.ssl (.t 54) (some (.t 56)) (some (.t 58))),vM 60 1,vO 61 (.bin .add (.t 60) (vI 2)),vM 4 59,vM 5 61,vO 6 (.mov (.c (.bool true)))])
 (.ret))
 (.seq (vR [vO 63 (.bin .eql (.t 50) (.c (.int .u8 110))),vM 62 63])
 (.cond (.t 62)
 (.seq (vR [vM 64 1,vO 65 (.bin .add (.t 64) (vI 2)),vO 4 (.mov (.c (.str [10]))),vM 5 65,vO 6 (.mov (.c (.bool true)))])
 (.ret))
 (.seq (vR [vO 67 (.bin .eql (.t 50) (.c (.int .u8 117))),vM 66 67])
 (.cond (.t 66)
 (.seq (vR [vM 69 0,vM 70 1,vO 71 (.bin .add (.t 70) (vI 2)),vO 72 (.call zpk [(.t 69),(.t 71)]),vM 68 72,vE 73 68 0,vE 74 68 1,vE 75 68 2,vM 10 73,vM 11 74,vM 12 75])
 (.seq (.seq (vR [vM 76 12,vO 77 (.not (.t 76))])
 (.cond (.t 77)
 (.seq (vR [vO 4 (.mov (.c (.str []))),vO 5 (.mov (vI 0)),vO 6 (.mov (.c (.bool false)))])
 (.ret))
 (.skip)))
 (.seq (vR [vM 79 10,vO 80 (.call zdf [(.t 79)]),vM 78 80,vE 81 78 0,vE 82 78 1,vM 13 81,vM 14 82])
 (.seq (vR [vM 83 13,vO 84 (.b2s (.t 83)),vM 85 11,vM 4 84,vM 5 85,vO 6 (.mov (.c (.bool true)))])
 (.ret)))))
 (.skip)))))))))
 (.seq (vR [vO 4 (.mov (.c (.str []))),vO 5 (.mov (vI 0)),vO 6 (.mov (.c (.bool false)))])
 (.ret))))),
  [.tmp 4,.tmp 5,.tmp 6]⟩
def zcZ:ACode:=
  .seq (.seq (vR [vM 47 8,vM 48 5,vB 49 .lss 47 48])
 (.cond (.t 49)
 (.skip)
 (.exit 2)))
 (.seq (.block 3 (.seq (.seq (vR [vM 52 0,vM 53 8,vO 54 (.idxA 1 (.t 52) (.t 53)),vO 55 (.ld none (.t 54)),vO 56 (.bin .lss (.t 55) (.c (.int .u8 128))),vM 57 56,⟨some 58,.mov (.t 0),some (57,false)⟩,⟨some 59,.mov (.t 8),some (57,false)⟩,⟨some 60,.idxA 1 (.t 58) (.t 59),some (57,false)⟩,⟨some 61,.ld none (.t 60),some (57,false)⟩,⟨some 62,.bin .geq (.t 61) (.c (.int .u8 192)),some (57,false)⟩,vO 63 (.pick (.t 57) (.c (.bool true)) (.t 62))])
 (.cond (.t 63)
 (.seq (vR [vO 2 (.mov (vI (-1)))])
 (.ret))
 (.skip)))
 (vR [vM 64 7,vO 65 (.bin .mul (vI 64) (.t 64)),vM 66 0,vM 67 8,vO 68 (.idxA 1 (.t 66) (.t 67)),vO 69 (.ld none (.t 68)),vO 70 (.conv .i64 (.t 69)),vB 71 .add 65 70,vO 72 (.bin .sub (.t 71) (vI 128)),vM 7 72])))
 (vR [vM 50 8,vO 51 (.bin .add (.t 50) (vI 1)),vM 8 51]))
def zca:ACode:=
  .seq (.seq (vR [vM 14 5,vO 15 (.bin .leq (.t 14) (vI 4))])
 (.cond (.t 15)
 (.skip)
 (.exit 0)))
 (.seq (.block 1 (.seq (vR [vM 18 5,vO 19 (.idxP 5 1 (.t 4) (.t 18)),vO 20 (.ld none (.t 19)),vM 21 5,vO 22 (.conv .u64 (.t 21)),vO 23 (.bin .shr (vI 64) (.t 22)),vO 24 (.bin .mul (.t 23) (vI 2)),vB 25 .add 20 24,vM 6 25])
 (.seq (.seq (vR [vM 26 0,vO 27 (.len (.t 26)),vM 28 5,vB 29 .neq 27 28,vM 30 29,⟨some 31,.mov (.t 3),some (30,false)⟩,⟨some 32,.mov (.t 5),some (30,false)⟩,⟨some 33,.idxP 5 1 (.t 4) (.t 32),some (30,false)⟩,⟨some 34,.ld none (.t 33),some (30,false)⟩,⟨some 35,.bin .lss (.t 31) (.t 34),some (30,false)⟩,vO 36 (.pick (.t 30) (.c (.bool true)) (.t 35)),vM 37 36,⟨some 38,.mov (.t 3),some (37,false)⟩,⟨some 39,.mov (.t 6),some (37,false)⟩,⟨some 40,.bin .geq (.t 38) (.t 39),some (37,false)⟩,vO 41 (.pick (.t 37) (.c (.bool true)) (.t 40))])
 (.cond (.t 41)
 (.exit 1)
 (.skip)))
 (.seq (vR [vM 42 3,vM 43 5,vO 44 (.idxP 5 1 (.t 4) (.t 43)),vO 45 (.ld none (.t 44)),vB 46 .sub 42 45,vM 7 46])
 (.seq (.seq (vR [vO 8 (.mov (vI 1))])
 (.block 2 (.loop zcZ)))
 (.seq (vR [vM 73 7,vM 2 73])
 (.ret)))))))
 (vR [vM 16 5,vO 17 (.bin .add (.t 16) (vI 1)),vM 5 17]))
def zlV:AFun:=⟨82,
  .seq (vR [vO 2 (.mov (vI 0))])
 (.seq (vR [vM 9 0,vO 10 (.idxA 1 (.t 9) (vI 0)),vO 11 (.ld none (.t 10)),vO 12 (.conv .i64 (.t 11)),vM 3 12])
 (.seq (vR [vO 13 (.build [.int .i64 0,.int .i64 0,.int .i64 0,.int .i64 0,.int .i64 0] [(0,1,(vI 0)),(1,1,(vI 0)),(2,1,(vI 192)),(3,1,(vI 224)),(4,1,(vI 240))]),vO 4 (.alloc [.int .i64 0,.int .i64 0,.int .i64 0,.int .i64 0,.int .i64 0]),⟨none,.st 5 (.t 4) (.t 13),none⟩])
 (.seq (.seq (vR [vO 5 (.mov (vI 2))])
 (.block 0 (.loop zca)))
 (.seq (.seq (vR [vM 74 0,vO 75 (.len (.t 74)),vO 76 (.bin .eql (.t 75) (vI 1)),vM 77 76,⟨some 78,.mov (.t 3),some (77,true)⟩,⟨some 79,.bin .lss (.t 78) (vI 128),some (77,true)⟩,vO 80 (.pick (.t 77) (.t 79) (.c (.bool false)))])
 (.cond (.t 80)
 (.seq (vR [vM 81 3,vM 2 81])
 (.ret))
 (.skip)))
 (.seq (vR [vO 2 (.mov (vI (-1)))])
 (.ret)))))),
  [.tmp 2]⟩
def zcg:AFun:=⟨10,
  .seq (vR [vO 4 (.mov (.c (.bool false)))])
 (.seq (vR [vM 5 0,vM 6 1,vO 7 (.nck (.t 5)),vO 8 (.idxP 256 1 (.t 7) (.t 6)),vO 9 (.ld none (.t 8)),vM 4 9])
 (.ret)),
  [.tmp 4]⟩
def zm6:AFun:=⟨5,
  .seq (vR [vO 2 (.mov (.c (.int .u8 0)))])
 (.seq (vR [vM 3 0,vO 4 (.bin .or (.t 3) (.c (.int .u8 32))),vM 2 4])
 (.ret)),
  [.tmp 2]⟩
def zch:AFun:=⟨14,
  .seq (vR [vO 2 (.mov (vI 0))])
 (.seq (.seq (vR [vM 3 0,vO 4 (.bin .eql (.t 3) (.c (.int .u64 0)))])
 (.cond (.t 4)
 (.seq (vR [vO 2 (.mov (vI 64))])
 (.ret))
 (.skip)))
 (.seq (vR [vM 5 0,vM 6 0,vO 7 (.neg (.t 6)),vB 8 .and 5 7,vO 9 (.bin .mul (.t 8) (.c (.int .u64 285870213051353865))),vO 10 (.bin .shr (.t 9) (.c (.int .u64 58))),vO 11 (.idxP 64 1 (.gl 8) (.t 10)),vO 12 (.ld none (.t 11)),vO 13 (.conv .i64 (.t 12)),vM 2 13])
 (.ret))),
  [.tmp 2]⟩
def zko:ACode:=
  .seq (vR [vO 176 (.nxt (.t 175)),vE 177 176 0])
 (.seq (.cond (.t 177)
 (.skip)
 (.exit 9))
 (.block 10 (.seq (vR [vE 178 176 1,vE 179 176 2,vM 5 178,vM 6 179])
 (.seq (vR [vM 180 6,vO 181 (.bin .eql (.t 180) (.c (.int .i32 65533)))])
 (.cond (.t 181)
 (.seq (vR [vM 182 5,vM 4 182])
 (.ret))
 (.skip))))))
def zkl:ACode:=
  .seq (.seq (vR [vM 48 12,vM 49 7,vO 50 (.lenS (.t 49)),vB 51 .lss 48 50])
 (.cond (.t 51)
 (.skip)
 (.exit 3)))
 (.seq (.block 4 (.seq (.region true [vM 54 0,vM 55 9,vM 56 12,vB 57 .sub 55 56,vO 58 (.idxS (.t 54) (.t 57)),vM 59 7,vM 60 8,vM 61 12,vB 62 .sub 60 61,vO 63 (.idxS (.t 59) (.t 62)),vB 64 .neq 58 63])
 (.cond (.t 64)
 (.goto 0)
 (.skip))))
 (vR [vM 52 12,vO 53 (.bin .add (.t 52) (vI 1)),vM 12 53]))
def zcU:ACode:=
  .seq (.seq (.region true [vM 27 0,vM 28 9,vO 29 (.idxS (.t 27) (.t 28)),vM 30 7,vM 31 8,vO 32 (.idxS (.t 30) (.t 31)),vB 33 .neq 29 32])
 (.cond (.t 33)
 (.seq (.region true [vM 34 0,vM 35 9,vO 36 (.bin .add (.t 35) (vI 1)),vO 37 (.ssl (.t 34) (some (.t 36)) none),vM 38 7,vM 39 8,vO 40 (.idxS (.t 38) (.t 39)),vO 41 (.call zcz [(.t 37),(.t 40)]),vM 11 41])
 (.seq (.seq (vR [vM 42 11,vO 43 (.bin .lss (.t 42) (vI 0))])
 (.cond (.t 43)
 (.seq (vR [vO 4 (.mov (vI (-1)))])
 (.ret))
 (.skip)))
 (vR [vM 44 9,vM 45 11,vO 46 (.bin .add (.t 45) (vI 1)),vB 47 .add 44 46,vM 9 47])))
 (.skip)))
 (.seq (.seq (vR [vO 12 (.mov (vI 1))])
 (.block 3 (.loop zkl)))
 (.seq (.seq (vR [vM 65 9,vM 66 8,vB 67 .sub 65 66,vM 4 67])
 (.ret))
 (.seq (.label 0)
 (.seq (vR [vM 68 10,vO 69 (.bin .add (.t 68) (vI 1)),vM 10 69])
 (.seq (vR [vM 70 9,vO 71 (.bin .add (.t 70) (vI 1)),vM 9 71])
 (.seq (vR [vO 72 (.mov (.c (.bool true))),⟨some 73,.mov (.t 10),some (72,true)⟩,⟨some 74,.mov (.t 9),some (72,true)⟩,⟨some 75,.call zjB [(.t 74)],some (72,true)⟩,⟨some 76,.bin .gtr (.t 73) (.t 75),some (72,true)⟩,vO 77 (.pick (.t 72) (.t 76) (.c (.bool false))),vM 78 77,⟨some 79,.mov (.t 9),some (78,true)⟩,⟨some 80,.mov (.t 0),some (78,true)⟩,⟨some 81,.lenS (.t 80),some (78,true)⟩,⟨some 82,.bin .lss (.t 79) (.t 81),some (78,true)⟩,vO 83 (.pick (.t 78) (.t 82) (.c (.bool false))),vM 84 83,⟨some 85,.mov (.c (.bool false)),some (84,false)⟩,⟨some 86,.mov (.t 10),some (85,true)⟩,⟨some 87,.mov (.t 9),some (85,true)⟩,⟨some 88,.bin .shr (.t 87) (.c (.int .u64 4)),some (85,true)⟩,⟨some 89,.bin .add (vI 4) (.t 88),some (85,true)⟩,⟨some 90,.bin .geq (.t 86) (.t 89),some (85,true)⟩,⟨some 91,.pick (.t 85) (.t 90) (.c (.bool false)),some (84,false)⟩,⟨some 92,.mov (.t 91),some (84,false)⟩,⟨some 93,.mov (.t 9),some (92,true)⟩,⟨some 94,.mov (.t 0),some (92,true)⟩,⟨some 95,.lenS (.t 94),some (92,true)⟩,⟨some 96,.bin .lss (.t 93) (.t 95),some (92,true)⟩,⟨some 97,.pick (.t 92) (.t 96) (.c (.bool false)),some (84,false)⟩,vO 98 (.pick (.t 84) (.c (.bool true)) (.t 97))])
 (.cond (.t 98)
 (.goto 1)
 (.skip))))))))
def zcW:ACode:=
  .seq (.seq (vR [vM 23 9,vM 24 0,vO 25 (.lenS (.t 24)),vB 26 .lss 23 25])
 (.cond (.t 26)
 (.skip)
 (.exit 1)))
 (.block 2 (.scopeJ zcU))
def zkq:ACode:=
  .seq (.seq (vR [vM 140 16,vM 141 7,vO 142 (.lenS (.t 141)),vB 143 .lss 140 142])
 (.cond (.t 143)
 (.skip)
 (.exit 7)))
 (.seq (.block 8 (.seq (.region true [vM 146 0,vM 147 9,vM 148 16,vB 149 .sub 147 148,vO 150 (.idxS (.t 146) (.t 149)),vM 151 7,vM 152 8,vM 153 16,vB 154 .sub 152 153,vO 155 (.idxS (.t 151) (.t 154)),vB 156 .neq 150 155])
 (.cond (.t 156)
 (.exit 6)
 (.skip))))
 (vR [vM 144 16,vO 145 (.bin .add (.t 144) (vI 1)),vM 16 145]))
def zkj:ACode:=
  .seq (.seq (vR [vM 121 9,vM 122 0,vO 123 (.lenS (.t 122)),vB 124 .lss 121 123])
 (.cond (.t 124)
 (.skip)
 (.exit 5)))
 (.seq (.block 6 (.seq (vR [vM 127 0,vM 128 9,vO 129 (.idxS (.t 127) (.t 128)),vM 130 14,vB 131 .eql 129 130,vM 132 131,⟨some 133,.mov (.t 0),some (132,true)⟩,⟨some 134,.mov (.t 9),some (132,true)⟩,⟨some 135,.bin .sub (.t 134) (vI 1),some (132,true)⟩,⟨some 136,.idxS (.t 133) (.t 135),some (132,true)⟩,⟨some 137,.mov (.t 15),some (132,true)⟩,⟨some 138,.bin .eql (.t 136) (.t 137),some (132,true)⟩,vO 139 (.pick (.t 132) (.t 138) (.c (.bool false)))])
 (.cond (.t 139)
 (.seq (.seq (vR [vO 16 (.mov (vI 2))])
 (.block 7 (.loop zkq)))
 (.seq (vR [vM 157 9,vM 158 8,vB 159 .sub 157 158,vM 4 159])
 (.ret)))
 (.skip))))
 (vR [vM 125 9,vO 126 (.bin .add (.t 125) (vI 1)),vM 9 126]))
def zfo:ACode:=
  .seq (vR [vM 17 1,vO 18 (.r2s (.t 17)),vM 7 18])
 (.seq (vR [vM 19 7,vO 20 (.lenS (.t 19)),vO 21 (.bin .sub (.t 20) (vI 1)),vM 8 21])
 (.seq (vR [vM 22 8,vM 9 22])
 (.seq (vR [vO 10 (.mov (vI 0))])
 (.seq (.block 1 (.loop zcW))
 (.seq (.seq (vR [vO 4 (.mov (vI (-1)))])
 (.ret))
 (.seq (.label 1)
 (.seq (.cond (.c (.bool true))
 (.seq (.bad)
 (.seq (vR [vM 107 13,vO 108 (.bin .geq (.t 107) (vI 0))])
 (.cond (.t 108)
 (.seq (vR [vM 109 9,vM 110 13,vB 111 .add 109 110,vM 112 8,vB 113 .sub 111 112,vM 4 113])
 (.ret))
 (.skip))))
 (.scope (.seq (vR [vM 114 7,vM 115 8,vO 116 (.idxS (.t 114) (.t 115)),vM 14 116])
 (.seq (vR [vM 117 7,vM 118 8,vO 119 (.bin .sub (.t 118) (vI 1)),vO 120 (.idxS (.t 117) (.t 119)),vM 15 120])
 (.seq (.label 2)
 (.block 5 (.loop zkj)))))))
 (.seq (vR [vO 4 (.mov (vI (-1)))])
 (.ret)))))))))
def zg3:AFun:=⟨187,
  .seq (vR [vO 4 (.mov (vI 0))])
 (.block 0 (.seq (vR [vM 161 1,vO 162 (.bin .leq (.c (.int .i32 0)) (.t 161)),vM 163 162,⟨some 164,.mov (.t 1),some (163,true)⟩,⟨some 165,.bin .lss (.t 164) (.c (.int .i32 128)),some (163,true)⟩,vO 166 (.pick (.t 163) (.t 165) (.c (.bool false))),vM 160 166])
 (.cond (.t 160)
 (.seq (vR [vM 167 0,vM 168 1,vO 169 (.conv .u8 (.t 168)),vO 170 (.call zcz [(.t 167),(.t 169)]),vM 4 170])
 (.ret))
 (.seq (vR [vM 172 1,vO 173 (.bin .eql (.t 172) (.c (.int .i32 65533))),vM 171 173])
 (.cond (.t 171)
 (.seq (.seq (vR [vM 174 0,vO 175 (.rng (.t 174))])
 (.block 9 (.loop zko)))
 (.seq (vR [vO 4 (.mov (vI (-1)))])
 (.ret)))
 (.seq (vR [vM 184 1,vO 185 (.call zbb [(.t 184)]),vO 186 (.not (.t 185)),vM 183 186])
 (.cond (.t 183)
 (.seq (vR [vO 4 (.mov (vI (-1)))])
 (.ret))
 (.scopeJ zfo)))))))),
  [.tmp 4]⟩
def ztY:AFun:=⟨23,
  .seq (vR [vO 4 (.mov (.c (.str []))),vO 5 (.mov (.c (.str []))),vO 6 (.mov (.c (.bool false)))])
 (.seq (.seq (vR [vM 8 0,vM 9 1,vO 10 (.call ziW [(.t 8),(.t 9)]),vM 7 10])
 (.seq (vR [vM 11 7,vO 12 (.bin .geq (.t 11) (vI 0))])
 (.cond (.t 12)
 (.seq (.region true [vM 13 0,vM 14 7,vO 15 (.ssl (.t 13) none (some (.t 14))),vM 16 0,vM 17 7,vM 18 1,vO 19 (.lenS (.t 18)),vB 20 .add 17 19,vO 21 (.ssl (.t 16) (some (.t 20)) none),vM 4 15,vM 5 21,vO 6 (.mov (.c (.bool true)))])
 (.ret))
 (.skip))))
 (.seq (vR [vM 22 0,vM 4 22,vO 5 (.mov (.c (.str []))),vO 6 (.mov (.c (.bool false)))])
 (.ret))),
  [.tmp 4,.tmp 5,.tmp 6]⟩
def zaZ:AFun:=⟨122,
  .seq (vR [vO 2 (.mov (.c (.int .i32 0))),vO 3 (.mov (vI 0))])
 (.seq (vR [vM 13 0,vO 14 (.len (.t 13)),vM 4 14])
 (.seq (.seq (vR [vM 15 4,vO 16 (.bin .lss (.t 15) (vI 1))])
 (.cond (.t 16)
 (.seq (vR [vO 2 (.mov (.c (.int .i32 65533))),vO 3 (.mov (vI 0))])
 (.ret))
 (.skip)))
 (.seq (vR [vM 17 0,vO 18 (.idxA 1 (.t 17) (vI 0)),vO 19 (.ld none (.t 18)),vM 5 19])
 (.seq (vR [vM 20 5,vO 21 (.idxP 256 1 (.gl 0) (.t 20)),vO 22 (.ld none (.t 21)),vM 6 22])
 (.seq (.seq (vR [vM 23 6,vO 24 (.bin .geq (.t 23) (.c (.int .u8 240)))])
 (.cond (.t 24)
 (.seq (vR [vM 25 6,vO 26 (.conv .i32 (.t 25)),vO 27 (.bin .shl (.t 26) (.c (.int .u64 31))),vO 28 (.bin .shr (.t 27) (.c (.int .u64 31))),vM 7 28])
 (.seq (vR [vM 29 0,vO 30 (.idxA 1 (.t 29) (vI 0)),vO 31 (.ld none (.t 30)),vO 32 (.conv .i32 (.t 31)),vM 33 7,vB 34 .andNot 32 33,vM 35 7,vO 36 (.bin .and (.c (.int .i32 65533)) (.t 35)),vB 37 .or 34 36,vM 2 37,vO 3 (.mov (vI 1))])
 (.ret)))
 (.skip)))
 (.seq (vR [vM 38 6,vO 39 (.bin .and (.t 38) (.c (.int .u8 7))),vO 40 (.conv .i64 (.t 39)),vM 8 40])
 (.seq (vR [vM 41 6,vO 42 (.bin .shr (.t 41) (.c (.int .u64 4))),vO 43 (.idxP 16 2 (.gl 1) (.t 42)),vO 44 (.ld (some 2) (.t 43)),vO 9 (.alloc [.int .u8 0,.int .u8 0]),⟨none,.st 2 (.t 9) (.t 44),none⟩])
 (.seq (.seq (vR [vM 45 4,vM 46 8,vB 47 .lss 45 46])
 (.cond (.t 47)
 (.seq (vR [vO 2 (.mov (.c (.int .i32 65533))),vO 3 (.mov (vI 1))])
 (.ret))
 (.skip)))
 (.seq (vR [vM 48 0,vO 49 (.idxA 1 (.t 48) (vI 1)),vO 50 (.ld none (.t 49)),vM 10 50])
 (.seq (.seq (vR [vM 51 10,vO 52 (.fldA 0 (.t 9)),vO 53 (.ld none (.t 52)),vB 54 .lss 51 53,vM 55 54,⟨some 56,.fldA 1 (.t 9),some (55,false)⟩,⟨some 57,.ld none (.t 56),some (55,false)⟩,⟨some 58,.mov (.t 10),some (55,false)⟩,⟨some 59,.bin .lss (.t 57) (.t 58),some (55,false)⟩,vO 60 (.pick (.t 55) (.c (.bool true)) (.t 59))])
 (.cond (.t 60)
 (.seq (vR [vO 2 (.mov (.c (.int .i32 65533))),vO 3 (.mov (vI 1))])
 (.ret))
 (.skip)))
 (.seq (.seq (vR [vM 61 8,vO 62 (.bin .leq (.t 61) (vI 2))])
 (.cond (.t 62)
 (.seq (vR [vM 63 5,vO 64 (.bin .and (.t 63) (.c (.int .u8 31))),vO 65 (.conv .i32 (.t 64)),vO 66 (.bin .shl (.t 65) (.c (.int .u64 6))),vM 67 10,vO 68 (.bin .and (.t 67) (.c (.int .u8 63))),vO 69 (.conv .i32 (.t 68)),vB 70 .or 66 69,vM 2 70,vO 3 (.mov (vI 2))])
 (.ret))
 (.skip)))
 (.seq (vR [vM 71 0,vO 72 (.idxA 1 (.t 71) (vI 2)),vO 73 (.ld none (.t 72)),vM 11 73])
 (.seq (.seq (vR [vM 74 11,vO 75 (.bin .lss (.t 74) (.c (.int .u8 128))),vM 76 75,⟨some 77,.mov (.t 11),some (76,false)⟩,⟨some 78,.bin .lss (.c (.int .u8 191)) (.t 77),some (76,false)⟩,vO 79 (.pick (.t 76) (.c (.bool true)) (.t 78))])
 (.cond (.t 79)
 (.seq (vR [vO 2 (.mov (.c (.int .i32 65533))),vO 3 (.mov (vI 1))])
 (.ret))
 (.skip)))
 (.seq (.seq (vR [vM 80 8,vO 81 (.bin .leq (.t 80) (vI 3))])
 (.cond (.t 81)
 (.seq (vR [vM 82 5,vO 83 (.bin .and (.t 82) (.c (.int .u8 15))),vO 84 (.conv .i32 (.t 83)),vO 85 (.bin .shl (.t 84) (.c (.int .u64 12))),vM 86 10,vO 87 (.bin .and (.t 86) (.c (.int .u8 63))),vO 88 (.conv .i32 (.t 87)),vO 89 (.bin .shl (.t 88) (.c (.int .u64 6))),vB 90 .or 85 89,vM 91 11,vO 92 (.bin .and (.t 91) (.c (.int .u8 63))),vO 93 (.conv .i32 (.t 92)),vB 94 .or 90 93,vM 2 94,vO 3 (.mov (vI 3))])
 (.ret))
 (.skip)))
 (.seq (vR [vM 95 0,vO 96 (.idxA 1 (.t 95) (vI 3)),vO 97 (.ld none (.t 96)),vM 12 97])
 (.seq (.seq (vR [vM 98 12,vO 99 (.bin .lss (.t 98) (.c (.int .u8 128))),vM 100 99,⟨some 101,.mov (.t 12),some (100,false)⟩,⟨some 102,.bin .lss (.c (.int .u8 191)) (.t 101),some (100,false)⟩,vO 103 (.pick (.t 100) (.c (.bool true)) (.t 102))])
 (.cond (.t 103)
 (.seq (vR [vO 2 (.mov (.c (.int .i32 65533))),vO 3 (.mov (vI 1))])
 (.ret))
 (.skip)))
 (.seq (vR [vM 104 5,vO 105 (.bin .and (.t 104) (.c (.int .u8 7))),vO 106 (.conv .i32 (.t 105)),vO 107 (.bin .shl (.t 106) (.c (.int .u64 18))),vM 108 10,vO 109 (.bin .and (.t 108) (.c (.int .u8 63))),vO 110 (.conv .i32 (.t 109)),vO 111 (.bin .shl (.t 110) (.c (.int .u64 12))),vB 112 .or 107 111,vM 113 11,vO 114 (.bin .and (.t 113) (.c (.int .u8 63))),vO 115 (.conv .i32 (.t 114)),vO 116 (.bin .shl (.t 115) (.c (.int .u64 6))),vB 117 .or 112 116,vM 118 12,vO 119 (.bin .and (.t 118) (.c (.int .u8 63))),vO 120 (.conv .i32 (.t 119)),vB 121 .or 117 120,vM 2 121,vO 3 (.mov (vI 4))])
 (.ret)))))))))))))))))),
  [.tmp 2,.tmp 3]⟩
def zeC:ACode:=
  .seq (.seq (vR [vM 11 8,vM 12 0,vO 13 (.lenS (.t 12)),vB 14 .lss 11 13,vM 15 14,⟨some 16,.mov (.t 8),some (15,true)⟩,⟨some 17,.mov (.t 1),some (15,true)⟩,⟨some 18,.bin .add (.t 17) (vI 6),some (15,true)⟩,⟨some 19,.bin .leq (.t 16) (.t 18),some (15,true)⟩,vO 20 (.pick (.t 15) (.t 19) (.c (.bool false)))])
 (.cond (.t 20)
 (.skip)
 (.exit 0)))
 (.seq (.block 1 (.seq (vR [vM 23 0,vM 24 8,vO 25 (.idxS (.t 23) (.t 24)),vM 9 25])
 (.block 2 (.seq (vR [vM 41 9,vO 42 (.call zc5 [(.t 41)]),vM 40 42])
 (.cond (.t 40)
 (vR [vM 43 7,vO 44 (.bin .mul (vI 16) (.t 43)),vM 45 9,vO 46 (.bin .sub (.t 45) (.c (.int .u8 48))),vO 47 (.conv .i64 (.t 46)),vB 48 .add 44 47,vM 7 48])
 (.seq (vR [vM 50 9,vO 51 (.bin .geq (.t 50) (.c (.int .u8 97))),vM 52 51,⟨some 53,.mov (.t 9),some (52,true)⟩,⟨some 54,.bin .leq (.t 53) (.c (.int .u8 102)),some (52,true)⟩,vO 55 (.pick (.t 52) (.t 54) (.c (.bool false))),vM 49 55])
 (.cond (.t 49)
 (vR [vM 56 7,vO 57 (.bin .mul (vI 16) (.t 56)),vM 58 9,vO 59 (.bin .sub (.t 58) (.c (.int .u8 97))),vO 60 (.conv .i64 (.t 59)),vB 61 .add 57 60,vO 62 (.bin .add (.t 61) (vI 10)),vM 7 62])
 (.seq (vR [vM 26 7,vM 27 8,vO 28 (.bin .add (.t 27) (vI 1)),vM 29 9,vO 30 (.bin .eql (.t 29) (.c (.int .u8 59))),vM 31 30,⟨some 32,.mov (.t 8),some (31,true)⟩,⟨some 33,.mov (.t 1),some (31,true)⟩,⟨some 34,.bin .gtr (.t 32) (.t 33),some (31,true)⟩,vO 35 (.pick (.t 31) (.t 34) (.c (.bool false))),vM 36 35,⟨some 37,.mov (.t 7),some (36,true)⟩,⟨some 38,.call zlL [(.t 37)],some (36,true)⟩,vO 39 (.pick (.t 36) (.t 38) (.c (.bool false))),vM 4 26,vM 5 28,vM 6 39])
 (.ret)))))))))
 (vR [vM 21 8,vO 22 (.bin .add (.t 21) (vI 1)),vM 8 22]))
def ztI:AFun:=⟨63,
  .seq (vR [vO 4 (.mov (vI 0)),vO 5 (.mov (vI 0)),vO 6 (.mov (.c (.bool false)))])
 (.seq (vR [vO 7 (.mov (vI 0))])
 (.seq (.seq (vR [vM 10 1,vM 8 10])
 (.block 0 (.loop zeC)))
 (.seq (vR [vO 4 (.mov (vI 0)),vO 5 (.mov (vI 0)),vO 6 (.mov (.c (.bool false)))])
 (.ret)))),
  [.tmp 4,.tmp 5,.tmp 6]⟩
def zgS:AFun:=⟨8,
  .seq (vR [vO 4 (.mov (vI 0))])
 (.seq (vR [vM 5 0,vM 6 1,vO 7 (.call zgW [(.t 5),(.t 6)]),vM 4 7])
 (.ret)),
  [.tmp 4]⟩
section
variable {X:Cx}(hX:X.P=Go.Proofs.Tryz.prog)
include hX
theorem zh7:zaa X.P zjA vH=some zjm:=by rw[hX];kernel_rfl
theorem zmR:zaa X.P zdi vH=some zl0:=by rw[hX];kernel_rfl
theorem zrl:zaa X.P zms vH=some zrj:=by rw[hX];kernel_rfl
theorem zpt:zaa X.P zc5 vH=some znN:=by rw[hX];kernel_rfl
theorem zmL:zaa X.P zhu vH=some zhA:=by rw[hX];kernel_rfl
theorem zqC:zaa X.P zlG vH=some zqk:=by rw[hX];kernel_rfl
theorem zqA:zaa X.P zlv vH=some zrG:=by rw[hX];kernel_rfl
theorem zmJ:zaa X.P ze6 vH=some zkM:=by rw[hX];kernel_rfl
theorem zm2:zaa X.P zhp vH=some zma:=by rw[hX];kernel_rfl
theorem zev:zaa X.P zbo vH=some zce:=by rw[hX];kernel_rfl
theorem zhX:zaa X.P zdH vH=some zfC:=by rw[hX];kernel_rfl
theorem zgK:zaa X.P zcm vH=some zeA:=by rw[hX];kernel_rfl
theorem zgd:zaa X.P zb5 vH=some zdV:=by rw[hX];kernel_rfl
theorem zfx:zaa X.P zbP vH=some zdB:=by rw[hX];kernel_rfl
theorem ziU:zaa X.P zed vH=some zgZ:=by rw[hX];kernel_rfl
theorem zgL:zaa X.P zct vH=some zeB:=by rw[hX];kernel_rfl
theorem zfb:zaa X.P zbG vH=some zcX:=by rw[hX];kernel_rfl
theorem zmr:zaa X.P zfF vH=some zjX:=by rw[hX];kernel_rfl
theorem zgN:zaa X.P zcu vH=some zeX:=by rw[hX];kernel_rfl
theorem zr4:zaa X.P zpW vH=some ztH:=by rw[hX];kernel_rfl
theorem ziR:zaa X.P zes vH=some zgY:=by rw[hX];kernel_rfl
theorem zlB:zaa X.P zcK vH=some zjI:=by rw[hX];kernel_rfl
theorem zpq:zaa X.P zi3 vH=some zm5:=by rw[hX];kernel_rfl
theorem zaC:zaa X.P zgk vH=some zaI:=by rw[hX];kernel_rfl
theorem zmX:zaa X.P zhd vH=some zlV:=by rw[hX];kernel_rfl
theorem zec:zaa X.P zaR vH=some zcg:=by rw[hX];kernel_rfl
theorem zoT:zaa X.P zb0 vH=some zm6:=by rw[hX];kernel_rfl
theorem zew:zaa X.P zbq vH=some zch:=by rw[hX];kernel_rfl
theorem ziK:zaa X.P zel vH=some zg3:=by rw[hX];kernel_rfl
theorem zrS:zaa X.P zoL vH=some ztY:=by rw[hX];kernel_rfl
theorem za2:zaa X.P zaY vH=some zaZ:=by rw[hX];kernel_rfl
theorem zsQ:zaa X.P zpk vH=some ztI:=by rw[hX];kernel_rfl
theorem zjg:zaa X.P zcz vH=some zgS:=by rw[hX];kernel_rfl
end
end Go.Avm
