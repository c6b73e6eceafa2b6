/- The functions as they have been read. -/
import Derived.Test.YtcldomkahgaplaaGreatDoorAG2
import Derived.Test.YtcldomkahgaplaaGreatDoorProg
set_option linter.all false
namespace Go.Avm
open Go
def zg5:AFun:=⟨20,
  .seq (vR [vO 2 (.mov (.c (.bool false)))])
 (.seq (vR [vM 4 0,vO 5 (.call zdD [(.t 4),(.c (.str [45]))]),vM 3 5])
 (.seq (.seq (vR [vM 6 3,vO 7 (.bin .eql (.t 6) (.c (.str []))),vM 8 7,⟨some 9,.mov (.t 3),some (8,false)⟩,⟨some 10,.call zfQ [(.t 9),(.c (.str [48,49,50,51,52,53,54,55,56,57]))],some (8,false)⟩,⟨some 11,.bin .neq (.t 10) (.c (.str [])),some (8,false)⟩,vO 12 (.pick (.t 8) (.c (.bool true)) (.t 11))])
 (.cond (.t 12)
 (.seq (vR [vO 2 (.mov (.c (.bool false)))])
 (.ret))
 (.skip)))
 (.seq (vR [vM 13 3,vO 14 (.idxS (.t 13) (vI 0)),vO 15 (.bin .neq (.t 14) (.c (.int .u8 48))),vM 16 15,⟨some 17,.mov (.t 0),some (16,false)⟩,⟨some 18,.bin .eql (.t 17) (.c (.str [48])),some (16,false)⟩,vO 19 (.pick (.t 16) (.c (.bool true)) (.t 18)),vM 2 19])
 (.ret)))),
  [.tmp 2]⟩
def zil:AFun:=⟨25,
  .seq (vR [vO 6 (.mov (vI 0)),vO 7 (.mov (.c (.nilI)))])
 (.seq (vR [vM 10 0,vM 11 1,vM 12 2,vO 13 (.call zbC [(.t 10),(.t 11),(.t 12)]),vM 9 13,vE 14 9 0,vE 15 9 1,vM 8 14,vM 7 15])
 (.seq (.seq (vR [vM 16 7,vO 17 (.ifn true (.t 16))])
 (.cond (.t 17)
 (.seq (vR [vM 18 8,vM 19 0,vM 20 1,vM 21 2,vM 22 7,vO 23 (.call zjZ [(.c (.str [80,97,114,115,101,73,110,116])),(.t 19),(.t 20),(.t 21),(.t 22)]),vM 6 18,vM 7 23])
 (.ret))
 (.skip)))
 (.seq (vR [vM 24 8,vM 6 24,vO 7 (.mov (.c (.nilI)))])
 (.ret)))),
  [.tmp 6,.tmp 7]⟩
def zlZ:AFun:=⟨23,
  .seq (vR [vO 2 (.mov (.c (.bool false)))])
 (.seq (.seq (vR [vM 3 0,vO 4 (.bin .eql (.t 3) (.c (.str []))),vM 5 4,⟨some 6,.mov (.t 0),some (5,false)⟩,⟨some 7,.lenS (.t 6),some (5,false)⟩,⟨some 8,.bin .gtr (.t 7) (vI 16),some (5,false)⟩,vO 9 (.pick (.t 5) (.c (.bool true)) (.t 8)),vM 10 9,⟨some 11,.mov (.t 0),some (10,false)⟩,⟨some 12,.idxS (.t 11) (vI 0),some (10,false)⟩,⟨some 13,.bin .lss (.t 12) (.c (.int .u8 97)),some (10,false)⟩,vO 14 (.pick (.t 10) (.c (.bool true)) (.t 13)),vM 15 14,⟨some 16,.mov (.t 0),some (15,false)⟩,⟨some 17,.idxS (.t 16) (vI 0),some (15,false)⟩,⟨some 18,.bin .gtr (.t 17) (.c (.int .u8 122)),some (15,false)⟩,vO 19 (.pick (.t 15) (.c (.bool true)) (.t 18))])
 (.cond (.t 19)
 (.seq (vR [vO 2 (.mov (.c (.bool false)))])
 (.ret))
 (.skip)))
 (.seq (vR [vM 20 0,vO 21 (.call zfQ [(.t 20),(.c (.str [97,98,99,100,101,102,103,104,105,106,107,108,109,110,111,112,113,114,115,116,117,118,119,120,121,122,48,49,50,51,52,53,54,55,56,57,45]))]),vO 22 (.bin .eql (.t 21) (.c (.str []))),vM 2 22])
 (.ret))),
  [.tmp 2]⟩
def zex:AFun:=⟨18,
  .seq (vR [vO 4 (.mov (.c (.bool false)))])
 (.seq (vR [vM 5 0,vO 6 (.lenS (.t 5)),vM 7 1,vO 8 (.lenS (.t 7)),vB 9 .geq 6 8,vM 10 9,⟨some 11,.mov (.t 0),some (10,true)⟩,⟨some 12,.mov (.t 1),some (10,true)⟩,⟨some 13,.lenS (.t 12),some (10,true)⟩,⟨some 14,.ssl (.t 11) none (some (.t 13)),some (10,true)⟩,⟨some 15,.mov (.t 1),some (10,true)⟩,⟨some 16,.bin .eql (.t 14) (.t 15),some (10,true)⟩,vO 17 (.pick (.t 10) (.t 16) (.c (.bool false))),vM 4 17])
 (.ret)),
  [.tmp 4]⟩
def zjL:ACode:=
  .seq (.seq (vR [vM 13 5,vM 14 0,vB 15 .lss 13 14])
 (.cond (.t 15)
 (.skip)
 (.exit 0)))
 (.seq (.block 1 (.seq (vR [vM 18 5,vO 19 (.idxP 2 1 (.t 3) (.t 18)),vO 20 (.ld none (.t 19)),vO 21 (.bin .lss (.t 20) (vI 0))])
 (.cond (.t 21)
 (.seq (vR [vO 4 (.mov (vI 7))])
 (.ret))
 (.skip))))
 (vR [vM 16 5,vO 17 (.bin .add (.t 16) (vI 1)),vM 5 17]))
def zj3:ACode:=
  .seq (.seq (vR [vM 23 6,vO 24 (.bin .lss (.t 23) (vI 2))])
 (.cond (.t 24)
 (.skip)
 (.exit 2)))
 (.seq (.block 3 (.seq (vR [vM 27 6,vO 28 (.idxP 2 1 (.t 3) (.t 27)),vO 29 (.ld none (.t 28)),vO 30 (.bin .neq (.t 29) (vI 0))])
 (.cond (.t 30)
 (.seq (vR [vO 4 (.mov (vI 6))])
 (.ret))
 (.skip))))
 (vR [vM 25 6,vO 26 (.bin .add (.t 25) (vI 1)),vM 6 26]))
def ziS:AFun:=⟨45,
  .seq (vR [vO 3 (.box (.t 1)),vO 4 (.mov (vI 0))])
 (.seq (.seq (vR [vM 7 0,vO 8 (.bin .lss (.t 7) (vI 0)),vM 9 8,⟨some 10,.mov (.t 0),some (9,false)⟩,⟨some 11,.bin .gtr (.t 10) (vI 2),some (9,false)⟩,vO 12 (.pick (.t 9) (.c (.bool true)) (.t 11))])
 (.cond (.t 12)
 (.seq (vR [vO 4 (.mov (vI 7))])
 (.ret))
 (.skip)))
 (.seq (.seq (vR [vO 5 (.mov (vI 0))])
 (.block 0 (.loop zjL)))
 (.seq (.seq (vR [vM 22 0,vM 6 22])
 (.block 2 (.loop zj3)))
 (.seq (.seq (vR [vO 31 (.idxP 2 1 (.t 3) (vI 0)),vO 32 (.ld none (.t 31)),vO 33 (.bin .gtr (.t 32) (vI 400)),vM 34 33,⟨some 35,.idxP 2 1 (.t 3) (vI 1),some (34,false)⟩,⟨some 36,.ld none (.t 35),some (34,false)⟩,⟨some 37,.bin .gtr (.t 36) (vI 400),some (34,false)⟩,vO 38 (.pick (.t 34) (.c (.bool true)) (.t 37)),vM 39 38,⟨some 40,.mov (.t 0),some (39,false)⟩,⟨some 41,.ld (some 2) (.t 3),some (39,false)⟩,⟨some 42,.call zhH [(.t 40),(.t 41)],some (39,false)⟩,⟨some 43,.bin .gtr (.t 42) (vI 400),some (39,false)⟩,vO 44 (.pick (.t 39) (.c (.bool true)) (.t 43))])
 (.cond (.t 44)
 (.seq (vR [vO 4 (.mov (vI 15))])
 (.ret))
 (.skip)))
 (.seq (vR [vO 4 (.mov (vI 0))])
 (.ret)))))),
  [.tmp 4]⟩
def zli:ACode:=
  .seq (.seq (vR [vM 7 6,vM 8 0,vB 9 .lss 7 8])
 (.cond (.t 9)
 (.skip)
 (.exit 0)))
 (.seq (.block 1 (vR [vM 12 5,vM 13 6,vO 14 (.idxP 2 1 (.t 3) (.t 13)),vO 15 (.ld none (.t 14)),vB 16 .mul 12 15,vM 5 16]))
 (vR [vM 10 6,vO 11 (.bin .add (.t 10) (vI 1)),vM 6 11]))
def zp8:AFun:=⟨18,
  .seq (vR [vO 3 (.box (.t 1)),vO 4 (.mov (vI 0))])
 (.seq (vR [vO 5 (.mov (vI 1))])
 (.seq (.seq (vR [vO 6 (.mov (vI 0))])
 (.block 0 (.loop zli)))
 (.seq (vR [vM 17 5,vM 4 17])
 (.ret)))),
  [.tmp 4]⟩
def zdp:AFun:=⟨36,
  .seq (vR [vO 2 (.mov (.c (.str [])))])
 (.seq (.seq (vR [vM 4 0,vO 5 (.bin .gtr (.t 4) (vI 9)),vM 6 5,⟨some 7,.mov (.t 0),some (6,false)⟩,⟨some 8,.bin .lss (.t 7) (vI (-9)),some (6,false)⟩,vO 9 (.pick (.t 6) (.c (.bool true)) (.t 8))])
 (.cond (.t 9)
 (.seq (vR [vM 10 0,vO 11 (.bin .rem (.t 10) (vI 10)),vM 3 11])
 (.seq (.seq (vR [vM 12 3,vO 13 (.bin .lss (.t 12) (vI 0))])
 (.cond (.t 13)
 (vR [vM 14 3,vO 15 (.neg (.t 14)),vM 3 15])
 (.skip)))
 (.seq (.region true [vM 16 0,vO 17 (.bin .quo (.t 16) (vI 10)),vO 18 (.call zbS [(.t 17)]),vM 19 3,vO 20 (.bin .add (vI 48) (.t 19)),vO 21 (.conv .u8 (.t 20)),vO 22 (.bsl 1 (.int .u8 0) 1 [(0,(.t 21))]),vO 23 (.b2s (.t 22)),vB 24 .add 18 23,vM 2 24])
 (.ret))))
 (.skip)))
 (.seq (.seq (vR [vM 25 0,vO 26 (.bin .lss (.t 25) (vI 0))])
 (.cond (.t 26)
 (.seq (vR [vM 27 0,vO 28 (.neg (.t 27)),vO 29 (.call zbS [(.t 28)]),vO 30 (.bin .add (.c (.str [45])) (.t 29)),vM 2 30])
 (.ret))
 (.skip)))
 (.seq (vR [vM 31 0,vO 32 (.bin .add (vI 48) (.t 31)),vO 33 (.conv .u8 (.t 32)),vO 34 (.bsl 1 (.int .u8 0) 1 [(0,(.t 33))]),vO 35 (.b2s (.t 34)),vM 2 35])
 (.ret)))),
  [.tmp 2]⟩
def zd8:AFun:=⟨54,
  .seq (vR [vO 4 (.mov (.c (.str [])))])
 (.seq (.seq (vR [vM 10 1,vO 11 (.bin .eql (.t 10) (vI 10))])
 (.cond (.t 11)
 (.seq (.seq (vR [vM 12 0,vO 13 (.bin .leq (vI 0) (.t 12)),vM 14 13,⟨some 15,.mov (.t 0),some (14,true)⟩,⟨some 16,.bin .lss (.t 15) (vI 100),some (14,true)⟩,vO 17 (.pick (.t 14) (.t 16) (.c (.bool false)))])
 (.cond (.t 17)
 (.seq (vR [vM 18 0,vO 19 (.call zu1 [(.t 18)]),vM 4 19])
 (.ret))
 (.skip)))
 (.seq (vR [vO 5 (.alloc (List.replicate 24 (.int .u8 0)))])
 (.seq (vR [vM 20 0,vO 21 (.conv .u64 (.t 20)),vM 6 21])
 (.seq (.seq (vR [vM 22 0,vO 23 (.bin .lss (.t 22) (vI 0))])
 (.cond (.t 23)
 (vR [vM 24 6,vO 25 (.neg (.t 24)),vM 6 25])
 (.skip)))
 (.seq (vR [vM 26 6,vO 27 (.call zm0 [(.t 26)]),vM 7 27])
 (.seq (vR [vM 28 7,vO 29 (.bin .add (vI 1) (.t 28)),vO 30 (.slA 24 1 (.t 5) (some (vI 1)) (some (.t 29)) none),vM 31 6,vO 32 (.call zi6 [(.t 30),(.t 31)])])
 (.seq (.seq (vR [vM 33 0,vO 34 (.bin .lss (.t 33) (vI 0))])
 (.cond (.t 34)
 (.seq (vR [vO 35 (.idxP 24 1 (.t 5) (vI 0)),⟨none,.st 1 (.t 35) (.c (.int .u8 45)),none⟩])
 (.seq (vR [vM 36 7,vO 37 (.bin .add (vI 1) (.t 36)),vO 38 (.slA 24 1 (.t 5) none (some (.t 37)) none),vO 39 (.b2s (.t 38)),vM 4 39])
 (.ret)))
 (.skip)))
 (.seq (vR [vM 40 7,vO 41 (.bin .add (vI 1) (.t 40)),vO 42 (.slA 24 1 (.t 5) (some (vI 1)) (some (.t 41)) none),vO 43 (.b2s (.t 42)),vM 4 43])
 (.ret)))))))))
 (.skip)))
 (.seq (vR [vM 45 0,vO 46 (.conv .u64 (.t 45)),vM 47 1,vM 48 0,vO 49 (.bin .lss (.t 48) (vI 0)),vO 50 (.call zdj [(.c (.sl .ex [])),(.t 46),(.t 47),(.t 49),(.c (.bool false))]),vM 44 50,vE 51 44 0,vE 52 44 1,vM 8 51,vM 9 52])
 (.seq (vR [vM 53 9,vM 4 53])
 (.ret)))),
  [.tmp 4]⟩
def zaS:ACode:=
  .seq (.seq (vR [vM 6 4,vO 7 (.ld none (.t 1)),vO 8 (.len (.t 7)),vB 9 .lss 6 8])
 (.cond (.t 9)
 (.skip)
 (.exit 0)))
 (.seq (.block 1 (.seq (.region true [vO 13 (.ld none (.t 2)),vO 14 (.ld none (.t 1)),vM 15 4,vO 16 (.sls 1 (.t 14) (some (.t 15)) none none),vO 17 (.len (.t 16)),vO 18 (.mm false (.t 13) (.t 17)),vM 5 18])
 (.seq (vR [vM 19 0,vO 20 (.ld none (.t 1)),vM 21 4,vM 22 4,vM 23 5,vB 24 .add 22 23,vM 25 4,vM 26 5,vB 27 .add 25 26,vO 28 (.sls 1 (.t 20) (some (.t 21)) (some (.t 24)) (some (.t 27))),vO 29 (.callv (.t 19) [(.t 28)]),vO 30 (.not (.t 29))])
 (.cond (.t 30)
 (.ret)
 (.skip)))))
 (vR [vM 10 4,vO 11 (.ld none (.t 2)),vB 12 .add 10 11,vM 4 12]))
def zb1:AFun:=⟨31,
  .seq (vR [vO 4 (.mov (vI 0))])
 (.block 0 (.loop zaS)),
  []⟩
def zjR:AFun:=⟨6,
  .seq (vR [vO 2 (.mov (.c (.bool false)))])
 (.seq (vR [vM 3 0,vO 4 (.call zoR [(.t 3)]),vO 5 (.not (.t 4)),vM 2 5])
 (.ret)),
  [.tmp 2]⟩
def zgQ:AFun:=⟨16,
  .seq (vR [vO 4 (.mov (.c (.sl .ex [])))])
 (.seq (.seq (vR [vM 5 1,vO 6 (.conv .u32 (.t 5)),vO 7 (.bin .leq (.t 6) (.c (.int .u32 127)))])
 (.cond (.t 7)
 (.seq (vR [vM 8 0,vM 9 1,vO 10 (.conv .u8 (.t 9)),vO 11 (.bsl 1 (.int .u8 0) 1 [(0,(.t 10))]),vO 12 (.app 1 1 (.t 8) (.t 11)),vM 4 12])
 (.ret))
 (.skip)))
 (.seq (vR [vM 13 0,vM 14 1,vO 15 (.call zbm [(.t 13),(.t 14)]),vM 4 15])
 (.ret))),
  [.tmp 4]⟩
def zfm:ACode:=
  .seq (vR [vO 9 (.nxt (.t 8)),vE 10 9 0])
 (.seq (.cond (.t 10)
 (.skip)
 (.exit 0))
 (.block 1 (.seq (vR [vE 11 9 2,vM 5 11])
 (.block 2 (.seq (vR [vM 19 5,vO 20 (.bin .eql (.t 19) (.c (.int .i32 34))),vM 21 20,⟨some 22,.mov (.t 5),some (21,false)⟩,⟨some 23,.bin .eql (.t 22) (.c (.int .i32 92)),some (21,false)⟩,vO 24 (.pick (.t 21) (.c (.bool true)) (.t 23)),vM 18 24])
 (.cond (.t 18)
 (.seq (vR [vO 25 (.call zcx [(.t 3),(.c (.int .u8 92))])])
 (vR [vM 26 5,vO 27 (.call zbM [(.t 3),(.t 26)])]))
 (.seq (vR [vM 29 5,vO 30 (.bin .eql (.t 29) (.c (.int .i32 10))),vM 28 30])
 (.cond (.t 28)
 (vR [vO 31 (.call zax [(.t 3),(.c (.str [92,110]))])])
 (.seq (vR [vM 33 5,vO 34 (.bin .geq (.t 33) (.c (.int .i32 32))),vM 35 34,⟨some 36,.mov (.t 5),some (35,true)⟩,⟨some 37,.bin .lss (.t 36) (.c (.int .i32 127)),some (35,true)⟩,vO 38 (.pick (.t 35) (.t 37) (.c (.bool false))),vM 32 38])
 (.cond (.t 32)
 (vR [vM 39 5,vO 40 (.call zbM [(.t 3),(.t 39)])])
 (vR [vM 12 5,vO 13 (.conv .i64 (.t 12)),vO 14 (.call zaN [(.t 13),(vI 16)]),vO 15 (.bin .add (.c (.str [92,117])) (.t 14)),vO 16 (.bin .add (.t 15) (.c (.str [59]))),vO 17 (.call zax [(.t 3),(.t 16)])])))))))))))
def zlq:AFun:=⟨43,
  .seq (vR [vO 2 (.mov (.c (.str [])))])
 (.seq (vR [vO 3 (.allocB 61 5)])
 (.seq (vR [vO 6 (.call zcx [(.t 3),(.c (.int .u8 34))])])
 (.seq (.seq (vR [vM 7 0,vO 8 (.rng (.t 7))])
 (.block 0 (.loop zfm)))
 (.seq (vR [vO 41 (.call zcx [(.t 3),(.c (.int .u8 34))])])
 (.seq (vR [vO 42 (.call zbz [(.t 3)]),vM 2 42])
 (.ret)))))),
  [.tmp 2]⟩
def zgg:ACode:=
  .seq (.seq (vR [vM 9 5,vM 10 0,vO 11 (.lenS (.t 10)),vB 12 .lss 9 11])
 (.cond (.t 12)
 (.skip)
 (.exit 0)))
 (.block 1 (.seq (vR [vM 14 0,vO 15 (.s2b false (.t 14)),vM 16 5,vO 17 (.call zcv [(.t 15),(.t 16)]),vM 13 17,vE 18 13 0,vE 19 13 1,vE 20 13 2,vM 6 18,vM 7 19,vM 8 20])
 (.seq (.seq (vR [vM 21 8,vO 22 (.bin .neq (.t 21) (vI 0))])
 (.cond (.t 22)
 (.seq (vR [vO 2 (.mov (.c (.sl .ex []))),vO 3 (.mov (.c (.bool false)))])
 (.ret))
 (.skip)))
 (.seq (vR [vM 23 4,vM 24 6,vO 25 (.bsl 1 (.int .i64 0) 1 [(0,(.t 24))]),vO 26 (.app 1 8 (.t 23) (.t 25)),vM 4 26])
 (vR [vM 27 5,vM 28 7,vB 29 .add 27 28,vM 5 29])))))
def znX:AFun:=⟨31,
  .seq (vR [vO 2 (.mov (.c (.sl .ex []))),vO 3 (.mov (.c (.bool false)))])
 (.seq (vR [vO 4 (.mov (.c (.sl .ex [])))])
 (.seq (.seq (vR [vO 5 (.mov (vI 0))])
 (.block 0 (.loop zgg)))
 (.seq (vR [vM 30 4,vM 2 30,vO 3 (.mov (.c (.bool true)))])
 (.ret)))),
  [.tmp 2,.tmp 3]⟩
def zfe:ACode:=
  .seq (.seq (vR [vM 6 4,vM 7 0,vO 8 (.len (.t 7)),vB 9 .lss 6 8])
 (.cond (.t 9)
 (.skip)
 (.exit 0)))
 (.seq (.block 1 (.seq (vR [vM 12 0,vM 13 4,vO 14 (.idxA 1 (.t 12) (.t 13)),vO 15 (.ld none (.t 14)),vM 5 15])
 (.block 2 (.seq (vR [vM 23 5,vO 24 (.bin .eql (.t 23) (vI 34)),vM 25 24,⟨some 26,.mov (.t 5),some (25,false)⟩,⟨some 27,.bin .eql (.t 26) (vI 92),some (25,false)⟩,vO 28 (.pick (.t 25) (.c (.bool true)) (.t 27)),vM 22 28])
 (.cond (.t 22)
 (vR [vM 29 3,vO 30 (.bin .add (.t 29) (.c (.str [92]))),vM 31 5,vO 32 (.conv .u8 (.t 31)),vO 33 (.bsl 1 (.int .u8 0) 1 [(0,(.t 32))]),vO 34 (.b2s (.t 33)),vB 35 .add 30 34,vM 3 35])
 (.seq (vR [vM 37 5,vO 38 (.bin .eql (.t 37) (vI 10)),vM 36 38])
 (.cond (.t 36)
 (vR [vM 39 3,vO 40 (.bin .add (.t 39) (.c (.str [92,110]))),vM 3 40])
 (.seq (vR [vM 42 5,vO 43 (.bin .geq (.t 42) (vI 32)),vM 44 43,⟨some 45,.mov (.t 5),some (44,true)⟩,⟨some 46,.bin .leq (.t 45) (vI 126),some (44,true)⟩,vO 47 (.pick (.t 44) (.t 46) (.c (.bool false))),vM 41 47])
 (.cond (.t 41)
 (vR [vM 48 3,vM 49 5,vO 50 (.conv .u8 (.t 49)),vO 51 (.bsl 1 (.int .u8 0) 1 [(0,(.t 50))]),vO 52 (.b2s (.t 51)),vB 53 .add 48 52,vM 3 53])
 (vR [vM 16 3,vO 17 (.bin .add (.t 16) (.c (.str [92,117]))),vM 18 5,vO 19 (.call zfI [(.t 18)]),vB 20 .add 17 19,vO 21 (.bin .add (.t 20) (.c (.str [59]))),vM 3 21]))))))))))
 (vR [vM 10 4,vO 11 (.bin .add (.t 10) (vI 1)),vM 4 11]))
def zll:AFun:=⟨56,
  .seq (vR [vO 2 (.mov (.c (.str [])))])
 (.seq (vR [vO 3 (.mov (.c (.str [34])))])
 (.seq (.seq (vR [vO 4 (.mov (vI 0))])
 (.block 0 (.loop zfe)))
 (.seq (vR [vM 54 3,vO 55 (.bin .add (.t 54) (.c (.str [34]))),vM 2 55])
 (.ret)))),
  [.tmp 2]⟩
def zlg:AFun:=⟨58,
  .seq (vR [vO 2 (.mov (.c (.sl .ex []))),vO 3 (.mov (vI 0))])
 (.seq (.seq (vR [vM 4 0,vO 5 (.call zlL [(.t 4)]),vO 6 (.not (.t 5))])
 (.cond (.t 6)
 (.seq (vR [vO 2 (.mov (.c (.sl .ex []))),vO 3 (.mov (vI 7))])
 (.ret))
 (.skip)))
 (.seq (.seq (vR [vM 7 0,vO 8 (.bin .lss (.t 7) (vI 128))])
 (.cond (.t 8)
 (.seq (vR [vM 9 0,vO 10 (.conv .u8 (.t 9)),vO 11 (.bsl 1 (.int .u8 0) 1 [(0,(.t 10))]),vM 2 11,vO 3 (.mov (vI 0))])
 (.ret))
 (.skip)))
 (.seq (.seq (vR [vM 12 0,vO 13 (.bin .lss (.t 12) (vI 2048))])
 (.cond (.t 13)
 (.seq (vR [vM 14 0,vO 15 (.bin .quo (.t 14) (vI 64)),vO 16 (.bin .add (vI 192) (.t 15)),vO 17 (.conv .u8 (.t 16)),vM 18 0,vO 19 (.bin .rem (.t 18) (vI 64)),vO 20 (.bin .add (vI 128) (.t 19)),vO 21 (.conv .u8 (.t 20)),vO 22 (.bsl 1 (.int .u8 0) 2 [(0,(.t 17)),(1,(.t 21))]),vM 2 22,vO 3 (.mov (vI 0))])
 (.ret))
 (.skip)))
 (.seq (.seq (vR [vM 23 0,vO 24 (.bin .lss (.t 23) (vI 65536))])
 (.cond (.t 24)
 (.seq (vR [vM 25 0,vO 26 (.bin .quo (.t 25) (vI 4096)),vO 27 (.bin .add (vI 224) (.t 26)),vO 28 (.conv .u8 (.t 27)),vM 29 0,vO 30 (.bin .quo (.t 29) (vI 64)),vO 31 (.bin .rem (.t 30) (vI 64)),vO 32 (.bin .add (vI 128) (.t 31)),vO 33 (.conv .u8 (.t 32)),vM 34 0,vO 35 (.bin .rem (.t 34) (vI 64)),vO 36 (.bin .add (vI 128) (.t 35)),vO 37 (.conv .u8 (.t 36)),vO 38 (.bsl 1 (.int .u8 0) 3 [(0,(.t 28)),(1,(.t 33)),(2,(.t 37))]),vM 2 38,vO 3 (.mov (vI 0))])
 (.ret))
 (.skip)))
 (.seq (vR [vM 39 0,vO 40 (.bin .quo (.t 39) (vI 262144)),vO 41 (.bin .add (vI 240) (.t 40)),vO 42 (.conv .u8 (.t 41)),vM 43 0,vO 44 (.bin .quo (.t 43) (vI 4096)),vO 45 (.bin .rem (.t 44) (vI 64)),vO 46 (.bin .add (vI 128) (.t 45)),vO 47 (.conv .u8 (.t 46)),vM 48 0,vO 49 (.bin .quo (.t 48) (vI 64)),vO 50 (.bin .rem (.t 49) (vI 64)),vO 51 (.bin .add (vI 128) (.t 50)),vO 52 (.conv .u8 (.t 51)),vM 53 0,vO 54 (.bin .rem (.t 53) (vI 64)),vO 55 (.bin .add (vI 128) (.t 54)),vO 56 (.conv .u8 (.t 55)),vO 57 (.bsl 1 (.int .u8 0) 4 [(0,(.t 42)),(1,(.t 47)),(2,(.t 52)),(3,(.t 56))]),vM 2 57,vO 3 (.mov (vI 0))])
 (.ret)))))),
  [.tmp 2,.tmp 3]⟩
def zhz:ACode:=
  .seq (.seq (vR [vM 5 4,vO 6 (.bin .leq (.t 5) (vI 9))])
 (.cond (.t 6)
 (.skip)
 (.exit 0)))
 (.seq (.block 1 (.seq (.region true [vM 9 0,vO 10 (.nck (.t 9)),vO 11 (.fldA 0 (.t 10)),vO 12 (.ld none (.t 11)),vM 13 0,vO 14 (.nck (.t 13)),vO 15 (.fldA 1 (.t 14)),vO 16 (.ld none (.t 15)),vO 17 (.ssl (.t 12) (some (.t 16)) none),vM 18 4,vO 19 (.build [.int .i64 0,.int .i64 0,.int .i64 0,.int .i64 0,.str []] [(0,1,(.t 18))]),vO 20 (.call zcJ [(.t 19)]),vO 21 (.call zaG [(.t 17),(.t 20)])])
 (.cond (.t 21)
 (.seq (.region true [vM 22 0,vO 23 (.nck (.t 22)),vO 24 (.fldA 1 (.t 23)),vO 25 (.ld none (.t 24)),vM 26 4,vO 27 (.build [.int .i64 0,.int .i64 0,.int .i64 0,.int .i64 0,.str []] [(0,1,(.t 26))]),vO 28 (.call zcJ [(.t 27)]),vO 29 (.lenS (.t 28)),vB 30 .add 25 29,vO 31 (.nck (.t 22)),vO 32 (.fldA 1 (.t 31)),⟨none,.st 1 (.t 32) (.t 30),none⟩])
 (.seq (.region true [vM 33 4,vO 34 (.build [.int .i64 0,.int .i64 0,.int .i64 0,.int .i64 0,.str []] [(0,1,(.t 33))]),vO 35 (.lds (some 2) (.gl 2)),⟨none,.st 5 (.t 2) (.t 34),none⟩,⟨none,.st 2 (.t 3) (.t 35),none⟩])
 (.ret)))
 (.skip))))
 (vR [vM 7 4,vO 8 (.bin .add (.t 7) (vI 1)),vM 4 8]))
def zrL:AFun:=⟨42,
  .seq (vR [vO 2 (.alloc [.int .i64 0,.int .i64 0,.int .i64 0,.int .i64 0,.str []]),vO 3 (.alloc [.int .i64 0,.int .i64 0])])
 (.seq (.seq (vR [vO 4 (.mov (vI 4))])
 (.block 0 (.loop zhz)))
 (.seq (.region true [vO 36 (.build [.int .i64 0,.int .i64 0,.int .i64 0,.int .i64 0,.str []] []),vM 37 0,vO 38 (.nck (.t 37)),vO 39 (.fldA 1 (.t 38)),vO 40 (.ld none (.m true 39)),vO 41 (.build [.int .i64 0,.int .i64 0] [(0,1,(.t 40)),(1,1,(vI 6))]),⟨none,.st 5 (.m false 2) (.t 36),none⟩,⟨none,.st 2 (.m false 3) (.t 41),none⟩])
 (.ret))),
  [.cell (some 5) 2,.cell (some 2) 3]⟩
def zm4:AFun:=⟨26,
  .seq (vR [vO 4 (.mov (vI 0))])
 (.seq (.seq (vR [vM 7 1,vM 8 0,vO 9 (.nck (.t 8)),vO 10 (.fldA 0 (.t 9)),vO 11 (.ld none (.t 10)),vO 12 (.lenS (.t 11)),vB 13 .geq 7 12])
 (.cond (.t 13)
 (.seq (vR [vO 4 (.mov (vI 10))])
 (.ret))
 (.skip)))
 (.seq (vR [vM 15 0,vO 16 (.nck (.t 15)),vO 17 (.fldA 0 (.t 16)),vO 18 (.ld none (.t 17)),vM 19 1,vO 20 (.idxS (.t 18) (.t 19)),vO 21 (.conv .i64 (.t 20)),vO 22 (.call ziI [(.t 21)]),vM 14 22,vE 23 14 0,vE 24 14 1,vM 5 23,vM 6 24])
 (.seq (vR [vM 25 5,vM 4 25])
 (.ret)))),
  [.tmp 4]⟩
def zqf:AFun:=⟨22,
  .seq (vR [vO 2 (.alloc [.int .i64 0,.int .i64 0,.int .i64 0,.int .i64 0,.str []]),vO 3 (.alloc [.int .i64 0,.int .i64 0])])
 (.seq (vR [vM 6 0,vO 7 (.nck (.t 6)),vO 8 (.fldA 1 (.t 7)),vO 9 (.ld none (.t 8)),vM 4 9])
 (.seq (vR [vM 10 0,vO 11 (.call zeM [(.t 10),(vI 8),(vI 6)]),vM 5 11])
 (.seq (.seq (vR [vM 12 5,vO 13 (.lenS (.t 12)),vO 14 (.bin .gtr (.t 13) (vI 16))])
 (.cond (.t 14)
 (.seq (vR [vO 15 (.build [.int .i64 0,.int .i64 0,.int .i64 0,.int .i64 0,.str []] []),vM 16 4,vO 17 (.bin .add (.t 16) (vI 16)),vO 18 (.build [.int .i64 0,.int .i64 0] [(0,1,(.t 17)),(1,1,(vI 3))]),⟨none,.st 5 (.t 2) (.t 15),none⟩,⟨none,.st 2 (.t 3) (.t 18),none⟩])
 (.ret))
 (.skip)))
 (.seq (.region true [vM 19 5,vO 20 (.build [.int .i64 0,.int .i64 0,.int .i64 0,.int .i64 0,.str []] [(0,1,(vI 1)),(4,1,(.t 19))]),vO 21 (.lds (some 2) (.gl 2)),⟨none,.st 5 (.t 2) (.t 20),none⟩,⟨none,.st 2 (.t 3) (.t 21),none⟩])
 (.ret))))),
  [.cell (some 5) 2,.cell (some 2) 3]⟩
def zhv:AFun:=⟨71,
  .seq (vR [vO 2 (.alloc [.int .i64 0,.int .i64 0,.int .i64 0,.int .i64 0,.str []]),vO 3 (.alloc [.int .i64 0,.int .i64 0])])
 (.seq (vR [vM 7 0,vO 8 (.nck (.t 7)),vO 9 (.fldA 1 (.t 8)),vO 10 (.ld none (.t 9)),vM 4 10])
 (.seq (.seq (.region true [vM 11 0,vO 12 (.nck (.t 11)),vO 13 (.fldA 0 (.t 12)),vO 14 (.ld none (.t 13)),vM 15 0,vO 16 (.nck (.t 15)),vO 17 (.fldA 1 (.t 16)),vO 18 (.ld none (.t 17)),vO 19 (.idxS (.t 14) (.t 18)),vO 20 (.bin .eql (.t 19) (.c (.int .u8 45)))])
 (.cond (.t 20)
 (vR [vM 21 0,vO 22 (.nck (.t 21)),vO 23 (.fldA 1 (.t 22)),vO 24 (.ld none (.t 23)),vO 25 (.bin .add (.t 24) (vI 1)),vO 26 (.nck (.t 21)),vO 27 (.fldA 1 (.t 26)),⟨none,.st 1 (.t 27) (.t 25),none⟩])
 (.skip)))
 (.seq (.seq (vR [vM 28 0,vO 29 (.call zeM [(.t 28),(vI 6),(vI 6)]),vO 30 (.bin .eql (.t 29) (.c (.str [])))])
 (.cond (.t 30)
 (.seq (vR [vO 31 (.build [.int .i64 0,.int .i64 0,.int .i64 0,.int .i64 0,.str []] []),vM 32 4,vO 33 (.build [.int .i64 0,.int .i64 0] [(0,1,(.t 32)),(1,1,(vI 6))]),⟨none,.st 5 (.t 2) (.t 31),none⟩,⟨none,.st 2 (.t 3) (.t 33),none⟩])
 (.ret))
 (.skip)))
 (.seq (.region true [vM 35 0,vO 36 (.nck (.t 35)),vO 37 (.fldA 0 (.t 36)),vO 38 (.ld none (.t 37)),vM 39 4,vM 40 0,vO 41 (.nck (.t 40)),vO 42 (.fldA 1 (.t 41)),vO 43 (.ld none (.t 42)),vO 44 (.ssl (.t 38) (some (.t 39)) (some (.t 43))),vO 45 (.call zbe [(.t 44),(vI 10),(vI 64)]),vM 34 45,vE 46 34 0,vE 47 34 1,vM 5 46,vM 6 47])
 (.seq (.block 0 (.seq (vR [vM 49 6,vO 50 (.ifn true (.t 49)),vM 48 50])
 (.cond (.t 48)
 (.seq (vR [vO 51 (.build [.int .i64 0,.int .i64 0,.int .i64 0,.int .i64 0,.str []] []),vM 52 4,vO 53 (.build [.int .i64 0,.int .i64 0] [(0,1,(.t 52)),(1,1,(vI 7))]),⟨none,.st 5 (.t 2) (.t 51),none⟩,⟨none,.st 2 (.t 3) (.t 53),none⟩])
 (.ret))
 (.seq (vR [vM 55 0,vM 56 0,vO 57 (.nck (.t 56)),vO 58 (.fldA 1 (.t 57)),vO 59 (.ld none (.t 58)),vO 60 (.call zcl [(.t 55),(.t 59)]),vO 61 (.bin .eql (.t 60) (vI 8)),vM 54 61])
 (.cond (.t 54)
 (.seq (.region true [vO 62 (.build [.int .i64 0,.int .i64 0,.int .i64 0,.int .i64 0,.str []] []),vM 63 0,vO 64 (.nck (.t 63)),vO 65 (.fldA 1 (.t 64)),vO 66 (.ld none (.m true 65)),vO 67 (.build [.int .i64 0,.int .i64 0] [(0,1,(.t 66)),(1,1,(vI 6))]),⟨none,.st 5 (.m false 2) (.t 62),none⟩,⟨none,.st 2 (.m false 3) (.t 67),none⟩])
 (.ret))
 (.skip))))))
 (.seq (.region true [vM 68 5,vO 69 (.build [.int .i64 0,.int .i64 0,.int .i64 0,.int .i64 0,.str []] [(0,1,(vI 2)),(3,1,(.t 68))]),vO 70 (.lds (some 2) (.gl 2)),⟨none,.st 5 (.t 2) (.t 69),none⟩,⟨none,.st 2 (.t 3) (.t 70),none⟩])
 (.ret))))))),
  [.cell (some 5) 2,.cell (some 2) 3]⟩
def zaP:ACode:=
  .seq (vR [vO 24 (.nxt (.t 23)),vE 25 24 0])
 (.seq (.cond (.t 25)
 (.skip)
 (.exit 0))
 (.block 1 (.seq (vR [vE 26 24 1,vE 27 24 2,vM 7 26,vM 8 27])
 (.seq (.seq (vR [vM 28 6,vO 29 (.bin .gtr (.t 28) (vI 0))])
 (.cond (.t 29)
 (.seq (vR [vM 30 6,vO 31 (.bin .sub (.t 30) (vI 1)),vM 6 31])
 (.seq (vR [vM 32 6,vO 33 (.bin .gtr (.t 32) (vI 0)),vM 34 33,⟨some 35,.mov (.t 7),some (34,false)⟩,⟨some 36,.bin .eql (.t 35) (vI 0),some (34,false)⟩,vO 37 (.pick (.t 34) (.c (.bool true)) (.t 36))])
 (.cond (.t 37)
 (.exit 1)
 (.skip))))
 (.skip)))
 (.seq (vR [vM 38 4,vM 39 7,vB 40 .add 38 39,vM 9 40])
 (.block 2 (.seq (vR [vM 44 8,vO 45 (.bin .eql (.t 44) (.c (.int .i32 34))),vM 43 45])
 (.cond (.t 43)
 (.seq (vR [vM 46 0,vM 47 9,vO 48 (.bin .add (.t 47) (vI 1)),vO 49 (.nck (.t 46)),vO 50 (.fldA 1 (.t 49)),⟨none,.st 1 (.t 50) (.t 48),none⟩])
 (.seq (.region true [vO 51 (.inv [(36,zrT)] (.m true 5) [(.t 5)]),vO 52 (.build [.int .i64 0,.int .i64 0,.int .i64 0,.int .i64 0,.str []] [(0,1,(vI 3)),(4,1,(.t 51))]),vO 53 (.lds (some 2) (.gl 2)),⟨none,.st 5 (.t 2) (.t 52),none⟩,⟨none,.st 2 (.t 3) (.t 53),none⟩])
 (.ret)))
 (.seq (vR [vM 55 8,vO 56 (.bin .eql (.t 55) (.c (.int .i32 92))),vM 54 56])
 (.cond (.t 54)
 (.seq (vR [vM 58 0,vO 59 (.nck (.t 58)),vO 60 (.fldA 0 (.t 59)),vO 61 (.ld none (.t 60)),vM 62 9,vO 63 (.bin .add (.t 62) (vI 1)),vO 64 (.ssl (.t 61) (some (.t 63)) none),vO 65 (.call zhk [(.t 64)]),vM 57 65,vE 66 57 0,vE 67 57 1,vE 68 57 2,vM 10 66,vM 11 67,vM 12 68])
 (.seq (.seq (vR [vM 69 12,vO 70 (.not (.t 69))])
 (.cond (.t 70)
 (.seq (vR [vO 71 (.build [.int .i64 0,.int .i64 0,.int .i64 0,.int .i64 0,.str []] []),vM 72 9,vO 73 (.build [.int .i64 0,.int .i64 0] [(0,1,(.t 72)),(1,1,(vI 6))]),⟨none,.st 5 (.t 2) (.t 71),none⟩,⟨none,.st 2 (.t 3) (.t 73),none⟩])
 (.ret))
 (.skip)))
 (.seq (vR [vM 74 10,vO 75 (.call zbM [(.t 5),(.t 74)])])
 (vR [vM 76 11,vO 77 (.bin .add (.t 76) (vI 1)),vM 6 77]))))
 (.seq (vR [vM 79 8,vO 80 (.bin .lss (.t 79) (.c (.int .i32 32))),vM 81 80,⟨some 82,.mov (.t 8),some (81,false)⟩,⟨some 83,.bin .eql (.t 82) (.c (.int .i32 65533)),some (81,false)⟩,⟨some 84,.mov (.t 83),some (81,false)⟩,⟨some 85,.mov (.t 0),some (84,true)⟩,⟨some 86,.nck (.t 85),some (84,true)⟩,⟨some 87,.fldA 0 (.t 86),some (84,true)⟩,⟨some 88,.ld none (.t 87),some (84,true)⟩,⟨some 89,.mov (.t 9),some (84,true)⟩,⟨some 90,.ssl (.t 88) (some (.t 89)) none,some (84,true)⟩,⟨some 91,.call zaG [(.t 90),(.c (.str [239,191,189]))],some (84,true)⟩,⟨some 92,.not (.t 91),some (84,true)⟩,⟨some 93,.pick (.t 84) (.t 92) (.c (.bool false)),some (81,false)⟩,vO 94 (.pick (.t 81) (.c (.bool true)) (.t 93)),vM 78 94])
 (.cond (.t 78)
 (.seq (vR [vO 95 (.build [.int .i64 0,.int .i64 0,.int .i64 0,.int .i64 0,.str []] []),vM 96 9,vO 97 (.build [.int .i64 0,.int .i64 0] [(0,1,(.t 96)),(1,1,(vI 6))]),⟨none,.st 5 (.t 2) (.t 95),none⟩,⟨none,.st 2 (.t 3) (.t 97),none⟩])
 (.ret))
 (vR [vM 41 8,vO 42 (.call zbM [(.t 5),(.t 41)])])))))))))))))
def zqM:AFun:=⟨101,
  .seq (vR [vO 2 (.alloc [.int .i64 0,.int .i64 0,.int .i64 0,.int .i64 0,.str []]),vO 3 (.alloc [.int .i64 0,.int .i64 0])])
 (.seq (vR [vM 13 0,vO 14 (.nck (.t 13)),vO 15 (.fldA 1 (.t 14)),vO 16 (.ld none (.t 15)),vM 4 16])
 (.seq (vR [vO 5 (.allocB 61 5)])
 (.seq (vR [vO 6 (.mov (vI 1))])
 (.seq (.seq (vR [vM 17 0,vO 18 (.nck (.t 17)),vO 19 (.fldA 0 (.t 18)),vO 20 (.ld none (.t 19)),vM 21 4,vO 22 (.ssl (.t 20) (some (.t 21)) none),vO 23 (.rng (.t 22))])
 (.block 0 (.loop zaP)))
 (.seq (vR [vO 98 (.build [.int .i64 0,.int .i64 0,.int .i64 0,.int .i64 0,.str []] []),vM 99 4,vO 100 (.build [.int .i64 0,.int .i64 0] [(0,1,(.t 99)),(1,1,(vI 6))]),⟨none,.st 5 (.t 2) (.t 98),none⟩,⟨none,.st 2 (.t 3) (.t 100),none⟩])
 (.ret)))))),
  [.cell (some 5) 2,.cell (some 2) 3]⟩
def zh3:ACode:=
  .seq (vR [vM 4 11])
 (vR [vM 5 12])
def zhO:ACode:=
  .block 1 (vR [vM 13 4,vM 14 5,vO 15 (.conv .i32 (.t 14)),vO 16 (.call zhr [(.t 15)]),vB 17 .add 13 16,⟨none,.st 1 (.t 2) (.t 17),none⟩])
def znP:AFun:=⟨31,
  .seq (vR [vO 2 (.alloc [.int .i64 0]),vO 3 (.mov (vI 0))])
 (.seq (.seq (vR [vM 6 0,vO 7 (.len (.t 6)),vO 8 (.bin .gtr (.t 7) (vI 8000))])
 (.cond (.t 8)
 (.seq (vR [⟨none,.st 1 (.t 2) (vI 0),none⟩,vO 3 (.mov (vI 3))])
 (.ret))
 (.skip)))
 (.seq (.seq (vR [vM 9 0,vO 10 (.call zkw [(.t 9)])])
 (.block 0 (.rangeF (.t 10) [11,12] zh3 zhO)))
 (.seq (.seq (vR [vO 18 (.ld none (.t 2)),vM 19 0,vO 20 (.len (.t 19)),vB 21 .lss 18 20])
 (.cond (.t 21)
 (vR [vM 23 0,vO 24 (.ld none (.t 2)),vO 25 (.call zfk [(.t 23),(.t 24)]),vM 22 25,vE 26 22 0,vE 27 22 1,vE 28 22 2,vM 3 28])
 (.skip)))
 (.seq (vR [vO 29 (.ld none (.t 2)),vM 30 3,⟨none,.st 1 (.t 2) (.t 29),none⟩,vM 3 30])
 (.ret))))),
  [.cell none 2,.tmp 3]⟩
def ztT:AFun:=⟨4,
  .seq (vR [vO 1 (.box (.t 0)),vO 2 (.mov (.c (.nilF)))])
 (.seq (vR [vO 3 (.mkf zjA [] [(.t 1)]),vM 2 3])
 (.ret)),
  [.tmp 2]⟩
def zgV:ACode:=
  .seq (.seq (vR [vM 32 3,vM 33 0,vO 34 (.lenS (.t 33)),vB 35 .lss 32 34])
 (.cond (.t 35)
 (.skip)
 (.exit 0)))
 (.seq (.block 1 (.seq (vR [vM 38 0,vM 39 3,vO 40 (.idxS (.t 38) (.t 39)),vO 41 (.call zi5 [(.t 40)]),vO 42 (.not (.t 41))])
 (.cond (.t 42)
 (.seq (vR [vO 2 (.mov (.c (.bool false)))])
 (.ret))
 (.skip))))
 (vR [vM 36 3,vO 37 (.bin .add (.t 36) (vI 1)),vM 3 37]))
def zkf:AFun:=⟨43,
  .seq (vR [vO 2 (.mov (.c (.bool false)))])
 (.seq (.seq (vR [vM 4 0,vO 5 (.lenS (.t 4)),vO 6 (.bin .gtr (.t 5) (vI 1)),vM 7 6,⟨some 8,.mov (.t 0),some (7,true)⟩,⟨some 9,.idxS (.t 8) (vI 0),some (7,true)⟩,⟨some 10,.bin .eql (.t 9) (.c (.int .u8 45)),some (7,true)⟩,vO 11 (.pick (.t 7) (.t 10) (.c (.bool false))),vM 12 11,⟨some 13,.mov (.t 0),some (12,true)⟩,⟨some 14,.idxS (.t 13) (vI 1),some (12,true)⟩,⟨some 15,.bin .neq (.t 14) (.c (.int .u8 48)),some (12,true)⟩,vO 16 (.pick (.t 12) (.t 15) (.c (.bool false)))])
 (.cond (.t 16)
 (vR [vM 17 0,vO 18 (.ssl (.t 17) (some (vI 1)) none),vM 0 18])
 (.skip)))
 (.seq (.seq (vR [vM 19 0,vO 20 (.lenS (.t 19)),vO 21 (.bin .eql (.t 20) (vI 0)),vM 22 21,⟨some 23,.mov (.t 0),some (22,false)⟩,⟨some 24,.lenS (.t 23),some (22,false)⟩,⟨some 25,.bin .gtr (.t 24) (vI 1),some (22,false)⟩,⟨some 26,.mov (.t 25),some (22,false)⟩,⟨some 27,.mov (.t 0),some (26,true)⟩,⟨some 28,.idxS (.t 27) (vI 0),some (26,true)⟩,⟨some 29,.bin .eql (.t 28) (.c (.int .u8 48)),some (26,true)⟩,⟨some 30,.pick (.t 26) (.t 29) (.c (.bool false)),some (22,false)⟩,vO 31 (.pick (.t 22) (.c (.bool true)) (.t 30))])
 (.cond (.t 31)
 (.seq (vR [vO 2 (.mov (.c (.bool false)))])
 (.ret))
 (.skip)))
 (.seq (.seq (vR [vO 3 (.mov (vI 0))])
 (.block 0 (.loop zgV)))
 (.seq (vR [vO 2 (.mov (.c (.bool true)))])
 (.ret))))),
  [.tmp 2]⟩
def zcS:ACode:=
  .seq (.seq (vR [vM 64 8,vO 65 (.bin .leq (.t 64) (vI 9))])
 (.cond (.t 65)
 (.skip)
 (.exit 1)))
 (.seq (.block 2 (.seq (.region true [vM 68 8,vO 69 (.bin .neq (.t 68) (vI 8)),vM 70 69,⟨some 71,.mov (.t 0),some (70,true)⟩,⟨some 72,.mov (.t 1),some (70,true)⟩,⟨some 73,.mov (.t 1),some (70,true)⟩,⟨some 74,.bin .add (.t 73) (vI 1),some (70,true)⟩,⟨some 75,.ssl (.t 71) (some (.t 72)) (some (.t 74)),some (70,true)⟩,⟨some 76,.mov (.t 8),some (70,true)⟩,⟨some 77,.call zlv [(.t 76)],some (70,true)⟩,⟨some 78,.bin .eql (.t 75) (.t 77),some (70,true)⟩,vO 79 (.pick (.t 70) (.t 78) (.c (.bool false)))])
 (.cond (.t 79)
 (.seq (vR [vM 80 8,vM 81 1,vM 82 1,vO 83 (.bin .add (.t 82) (vI 1)),vO 84 (.build [.int .i64 0,.int .i64 0,.int .i64 0,.int .i64 0,.str []] [(0,1,(.t 80)),(1,1,(.t 81)),(2,1,(.t 83))]),⟨none,.st 5 (.t 4) (.t 84),none⟩,vO 5 (.mov (vI 0)),vO 6 (.mov (vI 0))])
 (.ret))
 (.skip))))
 (vR [vM 66 8,vO 67 (.bin .add (.t 66) (vI 1)),vM 8 67]))
def zbD:AFun:=⟨87,
  .seq (vR [vO 4 (.alloc [.int .i64 0,.int .i64 0,.int .i64 0,.int .i64 0,.str []]),vO 5 (.mov (vI 0)),vO 6 (.mov (vI 0))])
 (.seq (vR [vM 9 0,vM 10 1,vO 11 (.idxS (.t 9) (.t 10)),vM 7 11])
 (.seq (.block 0 (.seq (vR [vM 13 7,vO 14 (.call zdi [(.t 13)]),vM 12 14])
 (.cond (.t 12)
 (.seq (vR [vM 15 0,vM 16 1,vO 17 (.call zms [(.t 15),(.t 16)]),vE 18 17 0,vE 19 17 1,vE 20 17 2,⟨none,.st 5 (.t 4) (.t 18),none⟩,vM 5 19,vM 6 20])
 (.ret))
 (.seq (vR [vM 22 7,vO 23 (.call zc5 [(.t 22)]),vM 24 23,⟨some 25,.mov (.t 7),some (24,false)⟩,⟨some 26,.bin .eql (.t 25) (.c (.int .u8 45)),some (24,false)⟩,vO 27 (.pick (.t 24) (.c (.bool true)) (.t 26)),vM 21 27])
 (.cond (.t 21)
 (.seq (vR [vM 28 0,vM 29 1,vO 30 (.call zhu [(.t 28),(.t 29)]),vE 31 30 0,vE 32 30 1,vE 33 30 2,⟨none,.st 5 (.t 4) (.t 31),none⟩,vM 5 32,vM 6 33])
 (.ret))
 (.seq (vR [vM 35 7,vO 36 (.bin .eql (.t 35) (.c (.int .u8 34))),vM 34 36])
 (.cond (.t 34)
 (.seq (vR [vM 37 0,vM 38 1,vO 39 (.call zlG [(.t 37),(.t 38)]),vE 40 39 0,vE 41 39 1,vE 42 39 2,⟨none,.st 5 (.t 4) (.t 40),none⟩,vM 5 41,vM 6 42])
 (.ret))
 (.seq (vR [vM 44 7,vO 45 (.bin .eql (.t 44) (.c (.int .u8 60))),vM 46 45,⟨some 47,.mov (.t 1),some (46,true)⟩,⟨some 48,.bin .add (.t 47) (vI 1),some (46,true)⟩,⟨some 49,.mov (.t 0),some (46,true)⟩,⟨some 50,.lenS (.t 49),some (46,true)⟩,⟨some 51,.bin .lss (.t 48) (.t 50),some (46,true)⟩,vO 52 (.pick (.t 46) (.t 51) (.c (.bool false))),vM 53 52,⟨some 54,.mov (.t 0),some (53,true)⟩,⟨some 55,.mov (.t 1),some (53,true)⟩,⟨some 56,.bin .add (.t 55) (vI 1),some (53,true)⟩,⟨some 57,.idxS (.t 54) (.t 56),some (53,true)⟩,⟨some 58,.bin .eql (.t 57) (.c (.int .u8 45)),some (53,true)⟩,vO 59 (.pick (.t 53) (.t 58) (.c (.bool false))),vM 43 59])
 (.cond (.t 43)
 (.seq (vR [vM 60 1,vM 61 1,vO 62 (.bin .add (.t 61) (vI 2)),vO 63 (.build [.int .i64 0,.int .i64 0,.int .i64 0,.int .i64 0,.str []] [(0,1,(vI 8)),(1,1,(.t 60)),(2,1,(.t 62))]),⟨none,.st 5 (.t 4) (.t 63),none⟩,vO 5 (.mov (vI 0)),vO 6 (.mov (vI 0))])
 (.ret))
 (.skip))))))))))
 (.seq (.seq (vR [vO 8 (.mov (vI 4))])
 (.block 1 (.loop zcS)))
 (.seq (vR [vO 85 (.build [.int .i64 0,.int .i64 0,.int .i64 0,.int .i64 0,.str []] []),vM 86 1,⟨none,.st 5 (.t 4) (.t 85),none⟩,vM 5 86,vO 6 (.mov (vI 6))])
 (.ret))))),
  [.cell (some 5) 4,.tmp 5,.tmp 6]⟩
def zjM:ACode:=
  .seq (.seq (vR [vM 11 4,vM 12 0,vO 13 (.len (.t 12)),vB 14 .lss 11 13])
 (.cond (.t 14)
 (.skip)
 (.exit 0)))
 (.block 1 (.seq (vR [vM 16 0,vM 17 4,vO 18 (.call zcv [(.t 16),(.t 17)]),vM 15 18,vE 19 15 0,vE 20 15 1,vE 21 15 2,vM 5 19,vM 6 20,vM 7 21])
 (.seq (.seq (vR [vM 22 7,vO 23 (.bin .neq (.t 22) (vI 0))])
 (.cond (.t 23)
 (.seq (vR [vM 24 4,vM 25 7,vM 2 24,vM 3 25])
 (.ret))
 (.skip)))
 (vR [vM 26 4,vM 27 6,vB 28 .add 26 27,vM 4 28]))))
def zn9:AFun:=⟨30,
  .seq (vR [vO 2 (.mov (vI 0)),vO 3 (.mov (vI 0))])
 (.seq (.seq (vR [vM 8 0,vO 9 (.len (.t 8)),vO 10 (.bin .gtr (.t 9) (vI 8000))])
 (.cond (.t 10)
 (.seq (vR [vO 2 (.mov (vI 0)),vO 3 (.mov (vI 3))])
 (.ret))
 (.skip)))
 (.seq (vR [vO 4 (.mov (vI 0))])
 (.seq (.block 0 (.loop zjM))
 (.seq (vR [vM 29 4,vM 2 29,vO 3 (.mov (vI 0))])
 (.ret))))),
  [.tmp 2,.tmp 3]⟩
def zia:ACode:=
  .seq (.seq (vR [vM 18 7,vO 19 (.bin .leq (.t 18) (vI 4)),vM 20 19,⟨some 21,.mov (.t 1),some (20,true)⟩,⟨some 22,.mov (.t 7),some (20,true)⟩,⟨some 23,.bin .add (.t 21) (.t 22),some (20,true)⟩,⟨some 24,.mov (.t 0),some (20,true)⟩,⟨some 25,.len (.t 24),some (20,true)⟩,⟨some 26,.bin .leq (.t 23) (.t 25),some (20,true)⟩,vO 27 (.pick (.t 20) (.t 26) (.c (.bool false)))])
 (.cond (.t 27)
 (.skip)
 (.exit 0)))
 (.seq (.block 1 (.seq (vR [vM 31 0,vM 32 1,vM 33 1,vM 34 7,vB 35 .add 33 34,vO 36 (.sls 1 (.t 31) (some (.t 32)) (some (.t 35)) none),vO 37 (.call ze6 [(.t 36)]),vM 30 37,vE 38 30 0,vE 39 30 1,vM 8 38,vM 9 39])
 (.seq (vR [vM 40 9])
 (.cond (.t 40)
 (.seq (vR [vM 41 8,vM 42 7,vM 4 41,vM 5 42,vO 6 (.mov (vI 0))])
 (.ret))
 (.skip)))))
 (vR [vM 28 7,vO 29 (.bin .add (.t 28) (vI 1)),vM 7 29]))
def zlM:AFun:=⟨54,
  .seq (vR [vO 4 (.mov (vI 0)),vO 5 (.mov (vI 0)),vO 6 (.mov (vI 0))])
 (.seq (.seq (vR [vM 10 1,vO 11 (.bin .lss (.t 10) (vI 0)),vM 12 11,⟨some 13,.mov (.t 1),some (12,false)⟩,⟨some 14,.mov (.t 0),some (12,false)⟩,⟨some 15,.len (.t 14),some (12,false)⟩,⟨some 16,.bin .geq (.t 13) (.t 15),some (12,false)⟩,vO 17 (.pick (.t 12) (.c (.bool true)) (.t 16))])
 (.cond (.t 17)
 (.seq (vR [vO 4 (.mov (vI 0)),vO 5 (.mov (vI 0)),vO 6 (.mov (vI 7))])
 (.ret))
 (.skip)))
 (.seq (.seq (vR [vO 7 (.mov (vI 1))])
 (.block 0 (.loop zia)))
 (.seq (.seq (vR [vM 43 0,vO 44 (.len (.t 43)),vM 45 1,vB 46 .sub 44 45,vO 47 (.bin .lss (.t 46) (vI 4)),vM 48 47,⟨some 49,.mov (.t 0),some (48,true)⟩,⟨some 50,.mov (.t 1),some (48,true)⟩,⟨some 51,.sls 1 (.t 49) (some (.t 50)) none none,some (48,true)⟩,⟨some 52,.call zhp [(.t 51)],some (48,true)⟩,vO 53 (.pick (.t 48) (.t 52) (.c (.bool false)))])
 (.cond (.t 53)
 (.seq (vR [vO 4 (.mov (vI 0)),vO 5 (.mov (vI 0)),vO 6 (.mov (vI 370))])
 (.ret))
 (.skip)))
 (.seq (vR [vO 4 (.mov (vI 0)),vO 5 (.mov (vI 0)),vO 6 (.mov (vI 6))])
 (.ret))))),
  [.tmp 4,.tmp 5,.tmp 6]⟩
def znq:AFun:=⟨9,
  .seq (vR [vO 2 (.mov (.c (.bool false)))])
 (.seq (vR [vM 3 0,vO 4 (.bin .geq (.t 3) (.c (.int .u8 48))),vM 5 4,⟨some 6,.mov (.t 0),some (5,true)⟩,⟨some 7,.bin .leq (.t 6) (.c (.int .u8 57)),some (5,true)⟩,vO 8 (.pick (.t 5) (.t 7) (.c (.bool false))),vM 2 8])
 (.ret)),
  [.tmp 2]⟩
def zbK:AFun:=⟨9,
  .seq (vR [vO 4 (.mov (.c (.bool false)))])
 (.seq (vR [vM 5 0,vM 6 1,vO 7 (.call zbo [(.t 5),(.t 6)]),vO 8 (.bin .geq (.t 7) (vI 0)),vM 4 8])
 (.ret)),
  [.tmp 4]⟩
def zjK:AFun:=⟨5,
  .seq (vR [vO 2 (.mov (.c (.bool false)))])
 (.seq (vR [vM 3 0,vO 4 (.bin .lss (.t 3) (vI 0)),vM 2 4])
 (.ret)),
  [.tmp 2]⟩
def zj5:AFun:=⟨5,
  .seq (vR [vO 2 (.mov (.c (.bool false)))])
 (.seq (vR [vM 3 0,vO 4 (.bin .neq (.t 3) (vI 0)),vM 2 4])
 (.ret)),
  [.tmp 2]⟩
def zke:AFun:=⟨5,
  .seq (vR [vO 2 (.mov (.c (.bool false)))])
 (.seq (vR [vM 3 0,vO 4 (.bin .gtr (.t 3) (vI 400)),vM 2 4])
 (.ret)),
  [.tmp 2]⟩
def znt:AFun:=⟨8,
  .seq (vR [vO 4 (.mov (vI 0))])
 (.seq (vR [vM 5 0,vM 6 1,vO 7 (.call ziW [(.t 5),(.t 6)]),vM 4 7])
 (.ret)),
  [.tmp 4]⟩
def zf9:AFun:=⟨8,
  .seq (vR [vO 4 (.mov (.c (.str [])))])
 (.seq (vR [vM 5 0,vM 6 1,vO 7 (.call zdH [(.t 5),(.t 6)]),vM 4 7])
 (.ret)),
  [.tmp 4]⟩
def zlN:AFun:=⟨43,
  .seq (vR [vO 4 (.mov (.c (.str [])))])
 (.seq (.seq (vR [vM 7 0,vO 8 (.bin .eql (.t 7) (.c (.str []))),vM 9 8,⟨some 10,.mov (.t 1),some (9,false)⟩,⟨some 11,.bin .eql (.t 10) (.c (.str [])),some (9,false)⟩,vO 12 (.pick (.t 9) (.c (.bool true)) (.t 11))])
 (.cond (.t 12)
 (.seq (vR [vM 13 0,vM 4 13])
 (.ret))
 (.skip)))
 (.seq (.seq (vR [vM 14 1,vO 15 (.lenS (.t 14)),vO 16 (.bin .eql (.t 15) (vI 1)),vM 17 16,⟨some 18,.mov (.t 1),some (17,true)⟩,⟨some 19,.idxS (.t 18) (vI 0),some (17,true)⟩,⟨some 20,.bin .lss (.t 19) (.c (.int .u8 128)),some (17,true)⟩,vO 21 (.pick (.t 17) (.t 20) (.c (.bool false)))])
 (.cond (.t 21)
 (.seq (.region true [vM 22 0,vM 23 1,vO 24 (.idxS (.t 23) (vI 0)),vO 25 (.call zie [(.t 22),(.t 24)]),vM 26 1,vO 27 (.idxS (.t 26) (vI 0)),vO 28 (.call zjb [(.t 25),(.t 27)]),vM 4 28])
 (.ret))
 (.skip)))
 (.seq (.seq (vR [vM 30 1,vO 31 (.call zcm [(.t 30)]),vM 29 31,vE 32 29 0,vE 33 29 1,vO 5 (.alloc (List.replicate 256 (.bool false))),⟨none,.st 256 (.t 5) (.t 32),none⟩,vM 6 33])
 (.seq (vR [vM 34 6])
 (.cond (.t 34)
 (.seq (vR [vM 35 0,vO 36 (.call zbP [(.t 35),(.t 5)]),vO 37 (.call zb5 [(.t 36),(.t 5)]),vM 4 37])
 (.ret))
 (.skip))))
 (.seq (vR [vM 38 0,vM 39 1,vO 40 (.call zgl [(.t 38),(.t 39)]),vM 41 1,vO 42 (.call zgP [(.t 40),(.t 41)]),vM 4 42])
 (.ret))))),
  [.tmp 4]⟩
def zeT:AFun:=⟨73,
  .seq (vR [vO 6 (.mov (vI 0)),vO 7 (.mov (.c (.nilI)))])
 (.seq (.seq (vR [vM 12 0,vO 13 (.bin .eql (.t 12) (.c (.str [])))])
 (.cond (.t 13)
 (.seq (vR [vO 14 (.mki 210 (vI 2)),vO 6 (.mov (vI 0)),vM 7 14])
 (.ret))
 (.skip)))
 (.seq (vR [vO 8 (.mov (.c (.bool false)))])
 (.seq (.seq (vR [vM 15 0,vO 16 (.idxS (.t 15) (vI 0))])
 (.block 0 (.seq (vR [vO 18 (.bin .eql (.t 16) (.c (.int .u8 43))),vM 17 18])
 (.cond (.t 17)
 (vR [vM 19 0,vO 20 (.ssl (.t 19) (some (vI 1)) none),vM 0 20])
 (.seq (vR [vO 22 (.bin .eql (.t 16) (.c (.int .u8 45))),vM 21 22])
 (.cond (.t 21)
 (.seq (vR [vM 23 0,vO 24 (.ssl (.t 23) (some (vI 1)) none),vM 0 24])
 (vR [vO 8 (.mov (.c (.bool true)))]))
 (.skip)))))))
 (.seq (vR [vO 9 (.mov (.c (.int .u64 0)))])
 (.seq (vR [vM 26 0,vM 27 1,vM 28 2,vO 29 (.call zed [(.t 26),(.t 27),(.t 28)]),vM 25 29,vE 30 25 0,vE 31 25 1,vM 9 30,vM 7 31])
 (.seq (.seq (vR [vM 32 7,vO 33 (.ifn true (.t 32)),vM 34 33,⟨some 35,.mov (.t 7),some (34,true)⟩,⟨some 36,.mki 210 (vI 1),some (34,true)⟩,⟨some 37,.extr (.c (.nilI)) 0,some (34,true)⟩,vO 38 (.pick (.t 34) (.t 37) (.c (.bool false)))])
 (.cond (.t 38)
 (.seq (vR [vM 39 7,vO 6 (.mov (vI 0)),vM 7 39])
 (.ret))
 (.skip)))
 (.seq (.seq (vR [vM 40 2,vO 41 (.bin .eql (.t 40) (vI 0))])
 (.cond (.t 41)
 (vR [vO 2 (.mov (vI 64))])
 (.skip)))
 (.seq (vR [vM 42 2,vO 43 (.bin .sub (.t 42) (vI 1)),vO 44 (.conv .u64 (.t 43)),vO 45 (.bin .shl (.c (.int .u64 1)) (.t 44)),vM 10 45])
 (.seq (.seq (vR [vM 46 8,vO 47 (.not (.t 46)),vM 48 47,⟨some 49,.mov (.t 9),some (48,true)⟩,⟨some 50,.mov (.t 10),some (48,true)⟩,⟨some 51,.bin .geq (.t 49) (.t 50),some (48,true)⟩,vO 52 (.pick (.t 48) (.t 51) (.c (.bool false)))])
 (.cond (.t 52)
 (.seq (vR [vM 53 10,vO 54 (.bin .sub (.t 53) (.c (.int .u64 1))),vO 55 (.conv .i64 (.t 54)),vO 56 (.mki 210 (vI 1)),vM 6 55,vM 7 56])
 (.ret))
 (.skip)))
 (.seq (.seq (vR [vM 57 8,vM 58 57,⟨some 59,.mov (.t 9),some (58,true)⟩,⟨some 60,.mov (.t 10),some (58,true)⟩,⟨some 61,.bin .gtr (.t 59) (.t 60),some (58,true)⟩,vO 62 (.pick (.t 58) (.t 61) (.c (.bool false)))])
 (.cond (.t 62)
 (.seq (vR [vM 63 10,vO 64 (.conv .i64 (.t 63)),vO 65 (.neg (.t 64)),vO 66 (.mki 210 (vI 1)),vM 6 65,vM 7 66])
 (.ret))
 (.skip)))
 (.seq (vR [vM 67 9,vO 68 (.conv .i64 (.t 67)),vM 11 68])
 (.seq (.seq (vR [vM 69 8])
 (.cond (.t 69)
 (vR [vM 70 11,vO 71 (.neg (.t 70)),vM 11 71])
 (.skip)))
 (.seq (vR [vM 72 11,vM 6 72,vO 7 (.mov (.c (.nilI)))])
 (.ret)))))))))))))),
  [.tmp 6,.tmp 7]⟩
def zeG:ACode:=
  .seq (.seq (vR [vM 44 1,vM 45 15,vB 46 .geq 44 45])
 (.cond (.t 46)
 (.skip)
 (.exit 0)))
 (.block 1 (.seq (vR [vM 47 13,vO 48 (.bin .sub (.t 47) (vI 1)),vM 13 48])
 (.seq (vR [vM 49 13,vM 50 1,vM 51 16,vB 52 .and 50 51,vO 53 (.idxS (.c (.str [48,49,50,51,52,53,54,55,56,57,97,98,99,100,101,102,103,104,105,106,107,108,109,110,111,112,113,114,115,116,117,118,119,120,121,122])) (.t 52)),vO 54 (.idxP 65 1 (.t 12) (.t 49)),⟨none,.st 1 (.t 54) (.t 53),none⟩])
 (vR [vM 55 1,vM 56 14,vB 57 .shr 55 56,vM 1 57]))))
def zjE:ACode:=
  .seq (.seq (vR [vM 66 1,vM 67 17,vB 68 .geq 66 67])
 (.cond (.t 68)
 (.skip)
 (.exit 2)))
 (.block 3 (.seq (vR [vM 69 13,vO 70 (.bin .sub (.t 69) (vI 1)),vM 13 70])
 (.seq (vR [vM 71 1,vM 72 17,vB 73 .quo 71 72,vM 18 73])
 (.seq (vR [vM 74 13,vM 75 1,vM 76 18,vM 77 17,vB 78 .mul 76 77,vB 79 .sub 75 78,vO 80 (.idxS (.c (.str [48,49,50,51,52,53,54,55,56,57,97,98,99,100,101,102,103,104,105,106,107,108,109,110,111,112,113,114,115,116,117,118,119,120,121,122])) (.t 79)),vO 81 (.idxP 65 1 (.t 12) (.t 74)),⟨none,.st 1 (.t 81) (.t 80),none⟩])
 (vR [vM 82 18,vM 1 82])))))
def zfL:AFun:=⟨102,
  .seq (vR [vO 10 (.mov (.c (.sl .ex []))),vO 11 (.mov (.c (.str [])))])
 (.seq (.seq (vR [vM 19 2,vO 20 (.bin .lss (.t 19) (vI 2)),vM 21 20,⟨some 22,.mov (.t 2),some (21,false)⟩,⟨some 23,.bin .eql (.t 22) (vI 10),some (21,false)⟩,vO 24 (.pick (.t 21) (.c (.bool true)) (.t 23)),vM 25 24,⟨some 26,.mov (.t 2),some (25,false)⟩,⟨some 27,.bin .gtr (.t 26) (vI 36),some (25,false)⟩,vO 28 (.pick (.t 25) (.c (.bool true)) (.t 27))])
 (.cond (.t 28)
 (.bad)
 (.skip)))
 (.seq (vR [vO 12 (.alloc (List.replicate 65 (.int .u8 0)))])
 (.seq (vR [vO 13 (.mov (vI 65))])
 (.seq (.seq (vR [vM 30 3])
 (.cond (.t 30)
 (vR [vM 31 1,vO 32 (.neg (.t 31)),vM 1 32])
 (.skip)))
 (.seq (.seq (vR [vM 33 2,vO 34 (.call zct [(.t 33)])])
 (.cond (.t 34)
 (.seq (vR [vM 35 2,vO 36 (.conv .u64 (.t 35)),vO 37 (.call zbG [(.t 36)]),vO 38 (.conv .u64 (.t 37)),vM 14 38])
 (.seq (vR [vM 39 2,vO 40 (.conv .u64 (.t 39)),vM 15 40])
 (.seq (vR [vM 41 2,vO 42 (.conv .u64 (.t 41)),vO 43 (.bin .sub (.t 42) (.c (.int .u64 1))),vM 16 43])
 (.seq (.block 0 (.loop zeG))
 (.seq (vR [vM 58 13,vO 59 (.bin .sub (.t 58) (vI 1)),vM 13 59])
 (vR [vM 60 13,vM 61 1,vO 62 (.idxS (.c (.str [48,49,50,51,52,53,54,55,56,57,97,98,99,100,101,102,103,104,105,106,107,108,109,110,111,112,113,114,115,116,117,118,119,120,121,122])) (.t 61)),vO 63 (.idxP 65 1 (.t 12) (.t 60)),⟨none,.st 1 (.t 63) (.t 62),none⟩]))))))
 (.seq (vR [vM 64 2,vO 65 (.conv .u64 (.t 64)),vM 17 65])
 (.seq (.block 2 (.loop zjE))
 (.seq (vR [vM 83 13,vO 84 (.bin .sub (.t 83) (vI 1)),vM 13 84])
 (vR [vM 85 13,vM 86 1,vO 87 (.idxS (.c (.str [48,49,50,51,52,53,54,55,56,57,97,98,99,100,101,102,103,104,105,106,107,108,109,110,111,112,113,114,115,116,117,118,119,120,121,122])) (.t 86)),vO 88 (.idxP 65 1 (.t 12) (.t 85)),⟨none,.st 1 (.t 88) (.t 87),none⟩]))))))
 (.seq (.seq (vR [vM 89 3])
 (.cond (.t 89)
 (.seq (vR [vM 90 13,vO 91 (.bin .sub (.t 90) (vI 1)),vM 13 91])
 (vR [vM 92 13,vO 93 (.idxP 65 1 (.t 12) (.t 92)),⟨none,.st 1 (.t 93) (.c (.int .u8 45)),none⟩]))
 (.skip)))
 (.seq (.seq (vR [vM 94 4])
 (.cond (.t 94)
 (.seq (vR [vM 95 0,vM 96 13,vO 97 (.slA 65 1 (.t 12) (some (.t 96)) none none),vO 98 (.app 1 1 (.t 95) (.t 97)),vM 10 98])
 (.ret))
 (.skip)))
 (.seq (vR [vM 99 13,vO 100 (.slA 65 1 (.t 12) (some (.t 99)) none none),vO 101 (.b2s (.t 100)),vM 11 101])
 (.ret))))))))),
  [.tmp 10,.tmp 11]⟩
def zci:AFun:=⟨78,
  .seq (vR [vO 4 (.mov (.c (.sl .ex [])))])
 (.seq (vR [vM 6 1,vO 7 (.conv .u32 (.t 6)),vM 5 7])
 (.block 0 (.seq (vR [vM 12 5,vO 13 (.bin .leq (.t 12) (.c (.int .u32 2047))),vM 11 13])
 (.cond (.t 11)
 (.seq (vR [vM 14 0,vM 15 1,vO 16 (.bin .shr (.t 15) (.c (.int .u64 6))),vO 17 (.conv .u8 (.t 16)),vO 18 (.bin .or (.c (.int .u8 192)) (.t 17)),vM 19 1,vO 20 (.conv .u8 (.t 19)),vO 21 (.bin .and (.t 20) (.c (.int .u8 63))),vO 22 (.bin .or (.c (.int .u8 128)) (.t 21)),vO 23 (.bsl 1 (.int .u8 0) 2 [(0,(.t 18)),(1,(.t 22))]),vO 24 (.app 1 1 (.t 14) (.t 23)),vM 4 24])
 (.ret))
 (.seq (.seq (vR [vM 26 5,vO 27 (.bin .lss (.t 26) (.c (.int .u32 55296))),vM 25 27])
 (.cond (.t 25)
 (.skip)
 (vR [vM 28 5,vO 29 (.bin .lss (.c (.int .u32 57343)) (.t 28)),vM 30 29,⟨some 31,.mov (.t 5),some (30,true)⟩,⟨some 32,.bin .leq (.t 31) (.c (.int .u32 65535)),some (30,true)⟩,vO 33 (.pick (.t 30) (.t 32) (.c (.bool false))),vM 25 33])))
 (.cond (.t 25)
 (.seq (vR [vM 34 0,vM 35 1,vO 36 (.bin .shr (.t 35) (.c (.int .u64 12))),vO 37 (.conv .u8 (.t 36)),vO 38 (.bin .or (.c (.int .u8 224)) (.t 37)),vM 39 1,vO 40 (.bin .shr (.t 39) (.c (.int .u64 6))),vO 41 (.conv .u8 (.t 40)),vO 42 (.bin .and (.t 41) (.c (.int .u8 63))),vO 43 (.bin .or (.c (.int .u8 128)) (.t 42)),vM 44 1,vO 45 (.conv .u8 (.t 44)),vO 46 (.bin .and (.t 45) (.c (.int .u8 63))),vO 47 (.bin .or (.c (.int .u8 128)) (.t 46)),vO 48 (.bsl 1 (.int .u8 0) 3 [(0,(.t 38)),(1,(.t 43)),(2,(.t 47))]),vO 49 (.app 1 1 (.t 34) (.t 48)),vM 4 49])
 (.ret))
 (.seq (vR [vM 51 5,vO 52 (.bin .gtr (.t 51) (.c (.int .u32 65535))),vM 53 52,⟨some 54,.mov (.t 5),some (53,true)⟩,⟨some 55,.bin .leq (.t 54) (.c (.int .u32 1114111)),some (53,true)⟩,vO 56 (.pick (.t 53) (.t 55) (.c (.bool false))),vM 50 56])
 (.cond (.t 50)
 (.seq (vR [vM 57 0,vM 58 1,vO 59 (.bin .shr (.t 58) (.c (.int .u64 18))),vO 60 (.conv .u8 (.t 59)),vO 61 (.bin .or (.c (.int .u8 240)) (.t 60)),vM 62 1,vO 63 (.bin .shr (.t 62) (.c (.int .u64 12))),vO 64 (.conv .u8 (.t 63)),vO 65 (.bin .and (.t 64) (.c (.int .u8 63))),vO 66 (.bin .or (.c (.int .u8 128)) (.t 65)),vM 67 1,vO 68 (.bin .shr (.t 67) (.c (.int .u64 6))),vO 69 (.conv .u8 (.t 68)),vO 70 (.bin .and (.t 69) (.c (.int .u8 63))),vO 71 (.bin .or (.c (.int .u8 128)) (.t 70)),vM 72 1,vO 73 (.conv .u8 (.t 72)),vO 74 (.bin .and (.t 73) (.c (.int .u8 63))),vO 75 (.bin .or (.c (.int .u8 128)) (.t 74)),vO 76 (.bsl 1 (.int .u8 0) 4 [(0,(.t 61)),(1,(.t 66)),(2,(.t 71)),(3,(.t 75))]),vO 77 (.app 1 1 (.t 57) (.t 76)),vM 4 77])
 (.ret))
 (.seq (vR [vM 8 0,vO 9 (.bsl 1 (.int .u8 0) 3 [(0,(.c (.int .u8 239))),(1,(.c (.int .u8 191))),(2,(.c (.int .u8 189)))]),vO 10 (.app 1 1 (.t 8) (.t 9)),vM 4 10])
 (.ret)))))))))),
  [.tmp 4]⟩
def zrd:AFun:=⟨18,
  .seq (vR [vO 2 (.mov (.c (.str [])))])
 (.seq (vR [vM 4 0,vO 5 (.bin .rem (.t 4) (vI 16)),vM 6 0,vO 7 (.bin .rem (.t 6) (vI 16)),vO 8 (.bin .add (.t 7) (vI 1)),vO 9 (.ssl (.c (.str [48,49,50,51,52,53,54,55,56,57,97,98,99,100,101,102])) (some (.t 5)) (some (.t 8))),vM 3 9])
 (.seq (.seq (vR [vM 10 0,vO 11 (.bin .lss (.t 10) (vI 16))])
 (.cond (.t 11)
 (.seq (vR [vM 12 3,vM 2 12])
 (.ret))
 (.skip)))
 (.seq (vR [vM 13 0,vO 14 (.bin .quo (.t 13) (vI 16)),vO 15 (.call zfI [(.t 14)]),vM 16 3,vB 17 .add 15 16,vM 2 17])
 (.ret)))),
  [.tmp 2]⟩
def zcR:AFun:=⟨23,
  .seq (vR [vO 1 (.box (.t 0)),vO 2 (.mov (.c (.str [])))])
 (.seq (.seq (vR [vO 3 (.fldA 0 (.t 1)),vO 4 (.ld none (.t 3))])
 (.block 0 (.seq (vR [vO 6 (.bin .eql (.t 4) (vI 1)),vM 5 6])
 (.cond (.t 5)
 (.seq (vR [vO 7 (.fldA 4 (.t 1)),vO 8 (.ld none (.t 7)),vM 2 8])
 (.ret))
 (.seq (vR [vO 10 (.bin .eql (.t 4) (vI 2)),vM 9 10])
 (.cond (.t 9)
 (.seq (vR [vO 11 (.fldA 3 (.t 1)),vO 12 (.ld none (.t 11)),vO 13 (.call zaN [(.t 12),(vI 10)]),vM 2 13])
 (.ret))
 (.seq (vR [vO 15 (.bin .eql (.t 4) (vI 3)),vM 14 15])
 (.cond (.t 14)
 (.seq (vR [vO 16 (.fldA 4 (.t 1)),vO 17 (.ld none (.t 16)),vO 18 (.call zfc [(.t 17)]),vM 2 18])
 (.ret))
 (.skip)))))))))
 (.seq (vR [vO 19 (.build [.str [],.str [],.str [],.str [],.str [],.str [],.str [],.str [],.str [],.str []] [(4,1,(.c (.str [40]))),(5,1,(.c (.str [41]))),(6,1,(.c (.str [91]))),(7,1,(.c (.str [93]))),(8,1,(.c (.str [60,45]))),(9,1,(.c (.str [61])))]),vO 20 (.fldA 0 (.t 1)),vO 21 (.ld none (.t 20)),vO 22 (.idxG 10 1 none (.t 19) (.t 21)),vM 2 22])
 (.ret))),
  [.tmp 2]⟩
def zdS:ACode:=
  .seq (vR [vO 26 (.bin .lss (.t 25) (vI 10))])
 (.seq (.cond (.t 26)
 (.skip)
 (.exit 1))
 (.seq (.block 2 (.seq (vR [vM 27 25,vO 28 (.idxG 10 1 none (.t 24) (.t 25)),vM 4 27,vM 5 28])
 (.seq (vR [vM 29 5,vM 30 0,vO 31 (.conv .i32 (.t 30)),vO 32 (.call zcu [(.t 29),(.t 31)])])
 (.cond (.t 32)
 (.seq (vR [vM 33 4,vM 2 33,vO 3 (.mov (vI 0))])
 (.ret))
 (.skip)))))
 (vR [vO 34 (.bin .add (.t 25) (vI 1)),vM 25 34])))
def znC:AFun:=⟨35,
  .seq (vR [vO 2 (.mov (vI 0)),vO 3 (.mov (vI 0))])
 (.seq (.block 0 (.seq (vR [vM 7 0,vO 8 (.call zoR [(.t 7)]),vO 9 (.not (.t 8)),vM 6 9])
 (.cond (.t 6)
 (.seq (vR [vO 2 (.mov (vI 0)),vO 3 (.mov (vI 7))])
 (.ret))
 (.seq (vR [vM 11 0,vO 12 (.bin .geq (.t 11) (vI 48)),vM 13 12,⟨some 14,.mov (.t 0),some (13,true)⟩,⟨some 15,.bin .leq (.t 14) (vI 57),some (13,true)⟩,vO 16 (.pick (.t 13) (.t 15) (.c (.bool false))),vM 10 16])
 (.cond (.t 10)
 (.seq (vR [vO 2 (.mov (vI 6)),vO 3 (.mov (vI 0))])
 (.ret))
 (.seq (vR [vM 18 0,vO 19 (.bin .geq (.t 18) (vI 97)),vM 20 19,⟨some 21,.mov (.t 0),some (20,true)⟩,⟨some 22,.bin .leq (.t 21) (vI 122),some (20,true)⟩,vO 23 (.pick (.t 20) (.t 22) (.c (.bool false))),vM 17 23])
 (.cond (.t 17)
 (.seq (vR [vO 2 (.mov (vI 8)),vO 3 (.mov (vI 0))])
 (.ret))
 (.skip))))))))
 (.seq (.seq (vR [vO 24 (.call zfF []),vO 25 (.mov (vI 0))])
 (.block 1 (.loop zdS)))
 (.seq (vR [vO 2 (.mov (vI 10)),vO 3 (.mov (vI 0))])
 (.ret)))),
  [.tmp 2,.tmp 3]⟩
def zfU:ACode:=
  .seq (.seq (vR [vM 19 8,vM 20 1,vB 21 .eql 19 20,vM 22 21,⟨some 23,.mov (.t 8),some (22,false)⟩,⟨some 24,.mov (.t 2),some (22,false)⟩,⟨some 25,.bin .eql (.t 23) (.t 24),some (22,false)⟩,vO 26 (.pick (.t 22) (.c (.bool true)) (.t 25))])
 (.cond (.t 26)
 (.skip)
 (.exit 0)))
 (.seq (.block 1 (vR [vM 33 0,vO 34 (.nck (.t 33)),vO 35 (.fldA 1 (.t 34)),vO 36 (.ld none (.t 35)),vO 37 (.bin .add (.t 36) (vI 1)),vO 38 (.nck (.t 33)),vO 39 (.fldA 1 (.t 38)),⟨none,.st 1 (.t 39) (.t 37),none⟩]))
 (vR [vM 27 0,vM 28 0,vO 29 (.nck (.t 28)),vO 30 (.fldA 1 (.t 29)),vO 31 (.ld none (.t 30)),vO 32 (.call zcl [(.t 27),(.t 31)]),vM 8 32]))
def zn2:AFun:=⟨50,
  .seq (vR [vO 6 (.mov (.c (.str [])))])
 (.seq (vR [vM 9 0,vO 10 (.nck (.t 9)),vO 11 (.fldA 1 (.t 10)),vO 12 (.ld none (.t 11)),vM 7 12])
 (.seq (.seq (vR [vM 13 0,vM 14 0,vO 15 (.nck (.t 14)),vO 16 (.fldA 1 (.t 15)),vO 17 (.ld none (.t 16)),vO 18 (.call zcl [(.t 13),(.t 17)]),vM 8 18])
 (.block 0 (.loop zfU)))
 (.seq (.region true [vM 40 0,vO 41 (.nck (.t 40)),vO 42 (.fldA 0 (.t 41)),vO 43 (.ld none (.t 42)),vM 44 7,vM 45 0,vO 46 (.nck (.t 45)),vO 47 (.fldA 1 (.t 46)),vO 48 (.ld none (.t 47)),vO 49 (.ssl (.t 43) (some (.t 44)) (some (.t 48))),vM 6 49])
 (.ret)))),
  [.tmp 6]⟩
def zk3:AFun:=⟨62,
  .seq (vR [vO 2 (.mov (.c (.int .i32 0))),vO 3 (.mov (vI 0)),vO 4 (.mov (.c (.bool false)))])
 (.seq (.block 0 (.seq (.seq (vR [vM 11 0,vO 12 (.call zaG [(.t 11),(.c (.str [34]))]),vM 10 12])
 (.cond (.t 10)
 (.skip)
 (vR [vM 13 0,vO 14 (.call zaG [(.t 13),(.c (.str [92]))]),vM 10 14])))
 (.cond (.t 10)
 (.seq (vR [vM 15 0,vO 16 (.idxS (.t 15) (vI 0)),vO 17 (.conv .i32 (.t 16)),vM 2 17,vO 3 (.mov (vI 1)),vO 4 (.mov (.c (.bool true)))])
 (.ret))
 (.seq (vR [vM 19 0,vO 20 (.call zaG [(.t 19),(.c (.str [110]))]),vM 18 20])
 (.cond (.t 18)
 (.seq (vR [vO 2 (.mov (.c (.int .i32 10))),vO 3 (.mov (vI 1)),vO 4 (.mov (.c (.bool true)))])
 (.ret))
 (.seq (vR [vM 22 0,vO 23 (.call zaG [(.t 22),(.c (.str [117]))]),vO 24 (.not (.t 23)),vM 21 24])
 (.cond (.t 21)
 (.seq (vR [vO 2 (.mov (.c (.int .i32 0))),vO 3 (.mov (vI 0)),vO 4 (.mov (.c (.bool false)))])
 (.ret))
 (.skip))))))))
 (.seq (vR [vM 26 0,vO 27 (.ssl (.t 26) (some (vI 1)) none),vO 28 (.call zpW [(.t 27),(.c (.str [59]))]),vM 25 28,vE 29 25 0,vE 30 25 1,vE 31 25 2,vM 5 29,vM 6 30,vM 7 31])
 (.seq (.seq (vR [vM 32 7,vO 33 (.not (.t 32)),vM 34 33,⟨some 35,.mov (.t 5),some (34,false)⟩,⟨some 36,.lenS (.t 35),some (34,false)⟩,⟨some 37,.bin .gtr (.t 36) (vI 6),some (34,false)⟩,vO 38 (.pick (.t 34) (.c (.bool true)) (.t 37)),vM 39 38,⟨some 40,.mov (.t 5),some (39,false)⟩,⟨some 41,.call zfQ [(.t 40),(.c (.str [48,49,50,51,52,53,54,55,56,57,97,98,99,100,101,102]))],some (39,false)⟩,⟨some 42,.bin .neq (.t 41) (.c (.str [])),some (39,false)⟩,vO 43 (.pick (.t 39) (.c (.bool true)) (.t 42))])
 (.cond (.t 43)
 (.seq (vR [vO 2 (.mov (.c (.int .i32 0))),vO 3 (.mov (vI 0)),vO 4 (.mov (.c (.bool false)))])
 (.ret))
 (.skip)))
 (.seq (vR [vM 45 5,vO 46 (.call zbe [(.t 45),(vI 16),(vI 32)]),vM 44 46,vE 47 44 0,vE 48 44 1,vM 8 47,vM 9 48])
 (.seq (.seq (vR [vM 49 9,vO 50 (.ifn true (.t 49)),vM 51 50,⟨some 52,.mov (.t 8),some (51,false)⟩,⟨some 53,.conv .i32 (.t 52),some (51,false)⟩,⟨some 54,.call zbb [(.t 53)],some (51,false)⟩,⟨some 55,.not (.t 54),some (51,false)⟩,vO 56 (.pick (.t 51) (.c (.bool true)) (.t 55))])
 (.cond (.t 56)
 (.seq (vR [vO 2 (.mov (.c (.int .i32 0))),vO 3 (.mov (vI 0)),vO 4 (.mov (.c (.bool false)))])
 (.ret))
 (.skip)))
 (.seq (vR [vM 57 8,vO 58 (.conv .i32 (.t 57)),vM 59 5,vO 60 (.lenS (.t 59)),vO 61 (.bin .add (.t 60) (vI 2)),vM 2 58,vM 3 61,vO 4 (.mov (.c (.bool true)))])
 (.ret))))))),
  [.tmp 2,.tmp 3,.tmp 4]⟩
def zlY:AFun:=⟨39,
  .seq (vR [vO 4 (.mov (vI 0)),vO 5 (.mov (vI 0)),vO 6 (.mov (vI 0))])
 (.seq (.seq (vR [vM 8 1,vO 9 (.bin .lss (.t 8) (vI 0)),vM 10 9,⟨some 11,.mov (.t 1),some (10,false)⟩,⟨some 12,.mov (.t 0),some (10,false)⟩,⟨some 13,.len (.t 12),some (10,false)⟩,⟨some 14,.bin .geq (.t 11) (.t 13),some (10,false)⟩,vO 15 (.pick (.t 10) (.c (.bool true)) (.t 14))])
 (.cond (.t 15)
 (.seq (vR [vO 4 (.mov (vI 0)),vO 5 (.mov (vI 0)),vO 6 (.mov (vI 7))])
 (.ret))
 (.skip)))
 (.seq (vR [vM 17 0,vM 18 1,vO 19 (.sls 1 (.t 17) (some (.t 18)) none none),vO 20 (.call zes [(.t 19)]),vM 16 20,vE 21 16 0,vE 22 16 1,vM 7 21,vM 5 22])
 (.seq (.block 0 (.seq (vR [vM 24 7,vO 25 (.bin .neq (.t 24) (.c (.int .i32 65533))),vM 26 25,⟨some 27,.mov (.t 5),some (26,false)⟩,⟨some 28,.bin .gtr (.t 27) (vI 1),some (26,false)⟩,vO 29 (.pick (.t 26) (.c (.bool true)) (.t 28)),vM 23 29])
 (.cond (.t 23)
 (.seq (vR [vM 30 7,vO 31 (.conv .i64 (.t 30)),vM 32 5,vM 4 31,vM 5 32,vO 6 (.mov (vI 0))])
 (.ret))
 (.seq (vR [vM 34 0,vM 35 1,vO 36 (.sls 1 (.t 34) (some (.t 35)) none none),vO 37 (.call zcK [(.t 36)]),vO 38 (.not (.t 37)),vM 33 38])
 (.cond (.t 33)
 (.seq (vR [vO 4 (.mov (vI 0)),vO 5 (.mov (vI 0)),vO 6 (.mov (vI 370))])
 (.ret))
 (.skip))))))
 (.seq (vR [vO 4 (.mov (vI 0)),vO 5 (.mov (vI 0)),vO 6 (.mov (vI 6))])
 (.ret))))),
  [.tmp 4,.tmp 5,.tmp 6]⟩
section
variable {X:Cx}(hX:X.P=Go.Proofs.Tryz.prog)
include hX
theorem zit:zaa X.P zei vH=some zg5:=by rw[hX];kernel_rfl
theorem zkp:zaa X.P zbe vH=some zil:=by rw[hX];kernel_rfl
theorem zjS:zaa X.P zkT vH=some zlZ:=by rw[hX];kernel_rfl
theorem zeE:zaa X.P zcD vH=some zex:=by rw[hX];kernel_rfl
theorem zpc:zaa X.P zjc vH=some ziS:=by rw[hX];kernel_rfl
theorem zq3:zaa X.P zhH vH=some zp8:=by rw[hX];kernel_rfl
theorem zmF:zaa X.P zbS vH=some zdp:=by rw[hX];kernel_rfl
theorem zgn:zaa X.P zd1 vH=some zd8:=by rw[hX];kernel_rfl
theorem zdl:zaa X.P zaA vH=some zb1:=by rw[hX];kernel_rfl
theorem zl2:zaa X.P zcP vH=some zjR:=by rw[hX];kernel_rfl
theorem zje:zaa X.P zem vH=some zgQ:=by rw[hX];kernel_rfl
theorem zmY:zaa X.P zfc vH=some zlq:=by rw[hX];kernel_rfl
theorem zpI:zaa X.P ziG vH=some znX:=by rw[hX];kernel_rfl
theorem zmT:zaa X.P zhF vH=some zll:=by rw[hX];kernel_rfl
theorem zmS:zaa X.P zdf vH=some zlg:=by rw[hX];kernel_rfl
theorem zrE:zaa X.P zmj vH=some zrL:=by rw[hX];kernel_rfl
theorem zo9:zaa X.P zcl vH=some zm4:=by rw[hX];kernel_rfl
theorem zre:zaa X.P zls vH=some zqf:=by rw[hX];kernel_rfl
theorem zmB:zaa X.P zhi vH=some zhv:=by rw[hX];kernel_rfl
theorem zqz:zaa X.P zla vH=some zqM:=by rw[hX];kernel_rfl
theorem zph:zaa X.P zjo vH=some znP:=by rw[hX];kernel_rfl
theorem zrV:zaa X.P zkw vH=some ztT:=by rw[hX];kernel_rfl
theorem zl7:zaa X.P zfM vH=some zkf:=by rw[hX];kernel_rfl
theorem zps:zaa X.P ziu vH=some zbD:=by rw[hX];kernel_rfl
theorem zoI:zaa X.P zjC vH=some zn9:=by rw[hX];kernel_rfl
theorem zmM:zaa X.P zcv vH=some zlM:=by rw[hX];kernel_rfl
theorem zow:zaa X.P zi5 vH=some znq:=by rw[hX];kernel_rfl
theorem zc3:zaa X.P zat vH=some zbK:=by rw[hX];kernel_rfl
theorem zmq:zaa X.P zbU vH=some zjK:=by rw[hX];kernel_rfl
theorem zml:zaa X.P zbZ vH=some zj5:=by rw[hX];kernel_rfl
theorem zkR:zaa X.P zb2 vH=some zke:=by rw[hX];kernel_rfl
theorem zoj:zaa X.P ziO vH=some znt:=by rw[hX];kernel_rfl
theorem zhI:zaa X.P zdD vH=some zf9:=by rw[hX];kernel_rfl
theorem zj1:zaa X.P zfQ vH=some zlN:=by rw[hX];kernel_rfl
theorem zgO:zaa X.P zbC vH=some zeT:=by rw[hX];kernel_rfl
theorem zik:zaa X.P zdj vH=some zfL:=by rw[hX];kernel_rfl
theorem zeb:zaa X.P zbm vH=some zci:=by rw[hX];kernel_rfl
theorem zri:zaa X.P zfI vH=some zrd:=by rw[hX];kernel_rfl
theorem zkE:zaa X.P zcJ vH=some zcR:=by rw[hX];kernel_rfl
theorem zpY:zaa X.P ziI vH=some znC:=by rw[hX];kernel_rfl
theorem zpO:zaa X.P zeM vH=some zn2:=by rw[hX];kernel_rfl
theorem zmD:zaa X.P zhk vH=some zk3:=by rw[hX];kernel_rfl
theorem zmC:zaa X.P zfk vH=some zlY:=by rw[hX];kernel_rfl
end
end Go.Avm
