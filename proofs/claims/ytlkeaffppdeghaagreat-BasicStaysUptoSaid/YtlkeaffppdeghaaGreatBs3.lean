/- A part of the proof of: BasicStays: nothing put ahead or behind turns nothing; sides may be turned about. -/
import Derived.Test.YtlkeaffppdeghaaGreatBs2
import Derived.Test.YtlkeaffppdeghaaGreatPe3
set_option linter.unusedSimpArgs false
set_option maxRecDepth 10000
set_option linter.unusedVariables false

namespace Go.Pe.T
def r62_C0 : RCode := .seq (.seq (.reg [⟨some 5,none,.mv false (.t 1)⟩,⟨some 6,none,.bin .neq (.t 5) (.c (.d (.int .u64 0)))⟩] [] false) (.cond (.t 6) (.skip) (.exit 0))) (.block 1 [.keep,.keep] (.reg [⟨some 7,none,.mv false (.t 1)⟩,⟨some 8,none,.mv false (.t 0)⟩,⟨some 9,none,.mv false (.t 1)⟩,⟨some 10,none,.bin .rem (.t 8) (.t 9)⟩,⟨some 0,none,.mv false (.t 7)⟩,⟨some 1,none,.mv false (.t 10)⟩] [] true))
def r62_B0 : RCode := .block 0 [.keep] (.loop [.keep,.keep] r62_C0)
theorem r62_B0_eq {cf : CF} {s : St} : V cf r62_B0 s = loopK cf r62_B0 0 [.keep] [.keep,.keep] (V cf r62_C0 (s.head [.keep,.keep])) := V_bloop
abbrev r62_S0 (x0 x1 : PV) (hp : List Ent) : St := ⟨[x0,x1,.dead,.dead,.dead,.dead,.dead,.dead,.dead,.dead,.dead,.dead],hp⟩
abbrev r62_E0 (x0 : PV) (hp : List Ent) : St := ⟨[x0,.dead,.dead,.dead,.dead,.dead,.dead,.dead,.dead,.dead,.dead,.dead],hp⟩
theorem r62_B0_n {cf : CF} {x0 x1 a2 a3 a4 a5 a6 a7 a8 a9 a10 a11 : PV} {hp : List Ent} : V cf r62_B0 ⟨[x0,x1,a2,a3,a4,a5,a6,a7,a8,a9,a10,a11],hp⟩ = V cf r62_B0 (r62_S0 x0 x1 hp) := by rw [r62_B0_eq,r62_B0_eq]; rfl
abbrev r62_R (x4 : PV) (hp : List Ent) : St := ⟨[.dead,.dead,.dead,.dead,x4,.dead,.dead,.dead,.dead,.dead,.dead,.dead],hp⟩
def r62_T : RCode := .seq (.reg [⟨some 4,none,.mv false (.c (.d (.int .u64 0)))⟩] [] false) (.seq (r62_B0) (.seq (.reg [⟨some 11,none,.mv false (.t 0)⟩,⟨some 4,none,.mv false (.t 11)⟩] [] false) (.ret [.kill,.kill,.kill,.kill,.keep])))
def r62 : RFunc := ⟨12,true,[.t 4],r62_T⟩
def r63_C0 : RCode := .seq (.seq (.reg [⟨some 7,none,.mv false (.t 0)⟩,⟨some 8,none,.mv false (.t 1)⟩,⟨some 9,none,.bin .rem (.t 7) (.t 8)⟩,⟨some 10,none,.bin .eql (.t 9) (.c (.d (.int .u64 0)))⟩] [] false) (.cond (.t 10) (.skip) (.exit 0))) (.block 1 [.keep,.keep,.kill,.kill,.kill,.kill,.keep] (.seq (.reg [⟨some 11,none,.mv false (.t 0)⟩,⟨some 12,none,.mv false (.t 1)⟩,⟨some 13,none,.bin .quo (.t 11) (.t 12)⟩,⟨some 0,none,.mv false (.t 13)⟩] [] false) (.reg [⟨some 14,none,.mv false (.t 6)⟩,⟨some 15,none,.bin .add (.t 14) (.c (.d (.int .i64 1)))⟩,⟨some 6,none,.mv false (.t 15)⟩] [] false)))
def r63_B0 : RCode := .block 0 [.keep,.kill,.kill,.kill,.kill,.kill,.keep] (.loop [.keep,.keep,.kill,.kill,.kill,.kill,.keep] r63_C0)
theorem r63_B0_eq {cf : CF} {s : St} : V cf r63_B0 s = loopK cf r63_B0 0 [.keep,.kill,.kill,.kill,.kill,.kill,.keep] [.keep,.keep,.kill,.kill,.kill,.kill,.keep] (V cf r63_C0 (s.head [.keep,.keep,.kill,.kill,.kill,.kill,.keep])) := V_bloop
abbrev r63_S0 (x0 x1 x6 : PV) (hp : List Ent) : St := ⟨[x0,x1,.dead,.dead,.dead,.dead,x6,.dead,.dead,.dead,.dead,.dead,.dead,.dead,.dead,.dead,.dead,.dead],hp⟩
abbrev r63_E0 (x0 x6 : PV) (hp : List Ent) : St := ⟨[x0,.dead,.dead,.dead,.dead,.dead,x6,.dead,.dead,.dead,.dead,.dead,.dead,.dead,.dead,.dead,.dead,.dead],hp⟩
theorem r63_B0_n {cf : CF} {x0 x1 a2 a3 a4 a5 x6 a7 a8 a9 a10 a11 a12 a13 a14 a15 a16 a17 : PV} {hp : List Ent} : V cf r63_B0 ⟨[x0,x1,a2,a3,a4,a5,x6,a7,a8,a9,a10,a11,a12,a13,a14,a15,a16,a17],hp⟩ = V cf r63_B0 (r63_S0 x0 x1 x6 hp) := by rw [r63_B0_eq,r63_B0_eq]; rfl
abbrev r63_R (x4 x5 : PV) (hp : List Ent) : St := ⟨[.dead,.dead,.dead,.dead,x4,x5,.dead,.dead,.dead,.dead,.dead,.dead,.dead,.dead,.dead,.dead,.dead,.dead],hp⟩
def r63_T : RCode := .seq (.reg [⟨some 4,none,.mv false (.c (.d (.int .i64 0)))⟩,⟨some 5,none,.mv false (.c (.d (.int .u64 0)))⟩] [] false) (.seq (.reg [⟨some 6,none,.mv false (.c (.d (.int .i64 0)))⟩] [] false) (.seq (r63_B0) (.seq (.reg [⟨some 16,none,.mv false (.t 6)⟩,⟨some 17,none,.mv false (.t 0)⟩,⟨some 4,none,.mv false (.t 16)⟩,⟨some 5,none,.mv false (.t 17)⟩] [] false) (.ret [.kill,.kill,.kill,.kill,.keep,.keep]))))
def r63 : RFunc := ⟨18,true,[.t 4,.t 5],r63_T⟩
@[go_sem] def r64_K0 (_ : Unit) : RCode := .seq (.reg [⟨some 13,none,.mv false (.t 0)⟩,⟨some 14,none,.mv false (.t 1)⟩,⟨some 15,none,.bin .mul (.t 13) (.t 14)⟩,⟨some 0,none,.mv false (.t 15)⟩] [] false) (.seq (.reg [⟨some 16,none,.mv false (.t 0)⟩,⟨some 17,none,.bin .geq (.t 16) (.c (.d (.int .u64 1000000000000000)))⟩] [] false) (.cond (.t 17) (.seq (.reg [⟨some 6,none,.mv false (.c (.d (.int .u64 0)))⟩,⟨some 7,none,.mv false (.c (.d (.bool false)))⟩] [] false) (.ret [.kill,.kill,.kill,.kill,.kill,.kill,.keep,.keep])) (.skip)))
@[go_sem] def r64_K1 (_ : Unit) : RCode := .seq (.block 1 [.keep,.keep,.kill,.kill,.kill,.kill,.kill,.kill,.keep,.keep] (.seq (.seq (.reg [⟨some 11,none,.mv false (.t 0)⟩,⟨some 12,none,.bin .eql (.t 11) (.c (.d (.int .u64 0)))⟩] [] false) (.cond (.t 12) (.seq (.reg [⟨some 6,none,.mv false (.c (.d (.int .u64 0)))⟩,⟨some 7,none,.mv false (.c (.d (.bool true)))⟩] [] false) (.ret [.kill,.kill,.kill,.kill,.kill,.kill,.keep,.keep])) (.skip))) (hold r64_K0))) (.reg [⟨some 18,none,.bin .add (.t 9) (.c (.d (.int .i64 1)))⟩,⟨some 9,none,.mv false (.t 18)⟩] [] false)
def r64_C0 : RCode := .seq (.reg [⟨some 10,none,.bin .lss (.t 9) (.t 8)⟩] [] false) (.seq (.cond (.t 10) (.skip) (.exit 0)) (hold r64_K1))
def r64_B0 : RCode := .block 0 [.keep] (.loop [.keep,.keep,.kill,.kill,.kill,.kill,.kill,.kill,.keep,.keep] r64_C0)
theorem r64_B0_eq {cf : CF} {s : St} : V cf r64_B0 s = loopK cf r64_B0 0 [.keep] [.keep,.keep,.kill,.kill,.kill,.kill,.kill,.kill,.keep,.keep] (V cf r64_C0 (s.head [.keep,.keep,.kill,.kill,.kill,.kill,.kill,.kill,.keep,.keep])) := V_bloop
abbrev r64_S0 (x0 x1 x8 x9 : PV) (hp : List Ent) : St := ⟨[x0,x1,.dead,.dead,.dead,.dead,.dead,.dead,x8,x9,.dead,.dead,.dead,.dead,.dead,.dead,.dead,.dead,.dead,.dead],hp⟩
abbrev r64_E0 (x0 : PV) (hp : List Ent) : St := ⟨[x0,.dead,.dead,.dead,.dead,.dead,.dead,.dead,.dead,.dead,.dead,.dead,.dead,.dead,.dead,.dead,.dead,.dead,.dead,.dead],hp⟩
theorem r64_B0_n {cf : CF} {x0 x1 a2 a3 a4 a5 a6 a7 x8 x9 a10 a11 a12 a13 a14 a15 a16 a17 a18 a19 : PV} {hp : List Ent} : V cf r64_B0 ⟨[x0,x1,a2,a3,a4,a5,a6,a7,x8,x9,a10,a11,a12,a13,a14,a15,a16,a17,a18,a19],hp⟩ = V cf r64_B0 (r64_S0 x0 x1 x8 x9 hp) := by rw [r64_B0_eq,r64_B0_eq]; rfl
abbrev r64_R (x6 x7 : PV) (hp : List Ent) : St := ⟨[.dead,.dead,.dead,.dead,.dead,.dead,x6,x7,.dead,.dead,.dead,.dead,.dead,.dead,.dead,.dead,.dead,.dead,.dead,.dead],hp⟩
def r64_T : RCode := .seq (.reg [⟨some 6,none,.mv false (.c (.d (.int .u64 0)))⟩,⟨some 7,none,.mv false (.c (.d (.bool false)))⟩] [] false) (.seq (.seq (.reg [⟨some 8,none,.mv false (.t 2)⟩,⟨some 9,none,.mv false (.c (.d (.int .i64 0)))⟩] [] false) (r64_B0)) (.seq (.reg [⟨some 19,none,.mv false (.t 0)⟩,⟨some 6,none,.mv false (.t 19)⟩,⟨some 7,none,.mv false (.c (.d (.bool true)))⟩] [] false) (.ret [.kill,.kill,.kill,.kill,.kill,.kill,.keep,.keep])))
def r64 : RFunc := ⟨20,true,[.t 6,.t 7],r64_T⟩
@[go_sem] def r44_K0 (_ : Unit) : RCode := .seq (.seq (.reg [⟨some 108,none,.fad 0 (.t 2)⟩,⟨some 109,none,.ld false none (.t 108)⟩,⟨some 110,none,.bin .lss (.t 109) (.c (.d (.int .i64 0)))⟩,⟨some 111,none,.fad 0 (.t 3)⟩,⟨some 112,none,.ld false none (.t 111)⟩,⟨some 113,none,.bin .lss (.t 112) (.c (.d (.int .i64 0)))⟩,⟨some 114,none,.beq true (.t 110) (.t 113)⟩] [108,111] false) (.cond (.t 114) (.reg [⟨some 115,none,.mv false (.t 16)⟩,⟨some 116,none,.un .neg (.t 115)⟩,⟨some 16,none,.mv false (.t 116)⟩] [] false) (.skip))) (.seq (.reg [⟨some 117,none,.mv false (.t 16)⟩,⟨some 118,none,.mv false (.t 14)⟩,⟨some 119,none,.minmax true (.c (.d (.int .i64 0))) [(.t 118)]⟩,⟨some 120,none,.call false (.f 59) [(.t 117),(.t 119)]⟩,⟨some 121,none,.ext false (.t 120) 0⟩,⟨some 122,none,.ext false (.t 120) 1⟩,⟨none,none,.sto (some 2) (.t 4) (.t 121)⟩,⟨some 5,none,.mv false (.t 122)⟩] [] false) (.ret [.kill,.kill,.kill,.kill,.keep,.keep]))
@[go_sem] def r44_K1 (_ : Unit) : RCode := .seq (.seq (.reg [⟨some 91,none,.mv false (.t 8)⟩,⟨some 92,none,.bin .neq (.t 91) (.c (.d (.int .u64 1)))⟩,⟨some 93,none,.mv false (.t 92)⟩,⟨some 94,some (93,false),.mv false (.t 12)⟩,⟨some 95,some (93,false),.un .not (.t 94)⟩,⟨some 96,none,.pick (.t 93) (.c (.d (.bool true))) (.t 95)⟩,⟨some 97,none,.mv false (.t 96)⟩,⟨some 98,some (97,false),.mv false (.t 13)⟩,⟨some 99,some (97,false),.un .not (.t 98)⟩,⟨some 100,none,.pick (.t 97) (.c (.d (.bool true))) (.t 99)⟩,⟨some 101,none,.mv false (.t 100)⟩,⟨some 102,some (101,false),.mv false (.t 15)⟩,⟨some 103,some (101,false),.un .not (.t 102)⟩,⟨some 104,none,.pick (.t 101) (.c (.d (.bool true))) (.t 103)⟩] [] false) (.cond (.t 104) (.seq (.reg [⟨some 105,none,.bld [.int .i64 0,.int .i64 0] []⟩,⟨none,none,.sto (some 2) (.t 4) (.t 105)⟩,⟨some 5,none,.mv false (.c (.d (.int .i64 8)))⟩] [] false) (.ret [.kill,.kill,.kill,.kill,.keep,.keep])) (.skip))) (.seq (.reg [⟨some 106,none,.mv false (.t 7)⟩,⟨some 107,none,.conv (.int .i64) (.t 106)⟩,⟨some 16,none,.mv false (.t 107)⟩] [] false) (hold r44_K0))
@[go_sem] def r44_K2 (_ : Unit) : RCode := .seq (.reg [⟨some 76,none,.mv false (.t 11)⟩,⟨some 77,none,.fad 1 (.t 2)⟩,⟨some 78,none,.ld false none (.t 77)⟩,⟨some 79,none,.bin .add (.t 76) (.t 78)⟩,⟨some 80,none,.fad 1 (.t 3)⟩,⟨some 81,none,.ld false none (.t 80)⟩,⟨some 82,none,.bin .sub (.t 79) (.t 81)⟩,⟨some 14,none,.mv false (.t 82)⟩] [77,80] false) (.seq (.reg [⟨some 84,none,.mv false (.t 7)⟩,⟨some 85,none,.mv false (.t 14)⟩,⟨some 86,none,.un .neg (.t 85)⟩,⟨some 87,none,.minmax true (.c (.d (.int .i64 0))) [(.t 86)]⟩,⟨some 88,none,.call false (.f 64) [(.t 84),(.c (.d (.int .u64 10))),(.t 87)]⟩,⟨some 83,none,.mvt (.t 88)⟩,⟨some 89,none,.ext false (.t 83) 0⟩,⟨some 90,none,.ext false (.t 83) 1⟩,⟨some 7,none,.mv false (.t 89)⟩,⟨some 15,none,.mv false (.t 90)⟩] [] false) (hold r44_K1))
@[go_sem] def r44_K3 (_ : Unit) : RCode := .seq (.reg [⟨some 61,none,.mv false (.t 7)⟩,⟨some 62,none,.mv false (.t 11)⟩,⟨some 63,none,.mv false (.t 9)⟩,⟨some 64,none,.bin .sub (.t 62) (.t 63)⟩,⟨some 65,none,.call false (.f 64) [(.t 61),(.c (.d (.int .u64 2))),(.t 64)]⟩,⟨some 60,none,.mvt (.t 65)⟩,⟨some 66,none,.ext false (.t 60) 0⟩,⟨some 67,none,.ext false (.t 60) 1⟩,⟨some 7,none,.mv false (.t 66)⟩,⟨some 12,none,.mv false (.t 67)⟩] [] false) (.seq (.reg [⟨some 69,none,.mv false (.t 7)⟩,⟨some 70,none,.mv false (.t 11)⟩,⟨some 71,none,.mv false (.t 10)⟩,⟨some 72,none,.bin .sub (.t 70) (.t 71)⟩,⟨some 73,none,.call false (.f 64) [(.t 69),(.c (.d (.int .u64 5))),(.t 72)]⟩,⟨some 68,none,.mvt (.t 73)⟩,⟨some 74,none,.ext false (.t 68) 0⟩,⟨some 75,none,.ext false (.t 68) 1⟩,⟨some 7,none,.mv false (.t 74)⟩,⟨some 13,none,.mv false (.t 75)⟩] [] false) (hold r44_K2))
@[go_sem] def r44_K4 (_ : Unit) : RCode := .seq (.reg [⟨some 53,none,.mv false (.t 8)⟩,⟨some 54,none,.call false (.f 63) [(.t 53),(.c (.d (.int .u64 5)))]⟩,⟨some 52,none,.mvt (.t 54)⟩,⟨some 55,none,.ext false (.t 52) 0⟩,⟨some 56,none,.ext false (.t 52) 1⟩,⟨some 10,none,.mv false (.t 55)⟩,⟨some 8,none,.mv false (.t 56)⟩] [] false) (.seq (.reg [⟨some 57,none,.mv false (.t 9)⟩,⟨some 58,none,.mv false (.t 10)⟩,⟨some 59,none,.minmax true (.t 57) [(.t 58)]⟩,⟨some 11,none,.mv false (.t 59)⟩] [] false) (hold r44_K3))
@[go_sem] def r44_K5 (_ : Unit) : RCode := .seq (.reg [⟨some 37,none,.fad 0 (.t 2)⟩,⟨some 38,none,.ld false none (.t 37)⟩,⟨some 39,none,.call false (.f 57) [(.t 38)]⟩,⟨some 40,none,.mv false (.t 6)⟩,⟨some 41,none,.bin .quo (.t 39) (.t 40)⟩,⟨some 42,none,.fad 0 (.t 3)⟩,⟨some 43,none,.ld false none (.t 42)⟩,⟨some 44,none,.call false (.f 57) [(.t 43)]⟩,⟨some 45,none,.mv false (.t 6)⟩,⟨some 46,none,.bin .quo (.t 44) (.t 45)⟩,⟨some 7,none,.mv false (.t 41)⟩,⟨some 8,none,.mv false (.t 46)⟩] [37,42] true) (.seq (.reg [⟨some 48,none,.mv false (.t 8)⟩,⟨some 49,none,.call false (.f 63) [(.t 48),(.c (.d (.int .u64 2)))]⟩,⟨some 47,none,.mvt (.t 49)⟩,⟨some 50,none,.ext false (.t 47) 0⟩,⟨some 51,none,.ext false (.t 47) 1⟩,⟨some 9,none,.mv false (.t 50)⟩,⟨some 8,none,.mv false (.t 51)⟩] [] false) (hold r44_K4))
@[go_sem] def r44_K6 (_ : Unit) : RCode := .seq (.seq (.reg [⟨some 26,none,.fad 0 (.t 2)⟩,⟨some 27,none,.ld false none (.t 26)⟩,⟨some 28,none,.bin .eql (.t 27) (.c (.d (.int .i64 0)))⟩] [26] false) (.cond (.t 28) (.seq (.reg [⟨some 29,none,.bld [.int .i64 0,.int .i64 0] []⟩,⟨none,none,.sto (some 2) (.t 4) (.t 29)⟩,⟨some 5,none,.mv false (.c (.d (.int .i64 0)))⟩] [] false) (.ret [.kill,.kill,.kill,.kill,.keep,.keep])) (.skip))) (.seq (.reg [⟨some 30,none,.fad 0 (.t 2)⟩,⟨some 31,none,.ld false none (.t 30)⟩,⟨some 32,none,.call false (.f 57) [(.t 31)]⟩,⟨some 33,none,.fad 0 (.t 3)⟩,⟨some 34,none,.ld false none (.t 33)⟩,⟨some 35,none,.call false (.f 57) [(.t 34)]⟩,⟨some 36,none,.call false (.f 62) [(.t 32),(.t 35)]⟩,⟨some 6,none,.mv false (.t 36)⟩] [30,33] true) (hold r44_K5))
@[go_sem] def r44_K7 (_ : Unit) : RCode := .seq (.seq (.reg [⟨some 17,none,.ld false (some 2) (.t 2)⟩,⟨some 18,none,.ld false (some 2) (.t 3)⟩,⟨some 19,none,.call false (.f 49) [(.t 17),(.t 18)]⟩,⟨some 20,none,.un .not (.t 19)⟩] [] false) (.cond (.t 20) (.seq (.reg [⟨some 21,none,.bld [.int .i64 0,.int .i64 0] []⟩,⟨none,none,.sto (some 2) (.t 4) (.t 21)⟩,⟨some 5,none,.mv false (.c (.d (.int .i64 1)))⟩] [] false) (.ret [.kill,.kill,.kill,.kill,.keep,.keep])) (.skip))) (.seq (.seq (.reg [⟨some 22,none,.fad 0 (.t 3)⟩,⟨some 23,none,.ld false none (.t 22)⟩,⟨some 24,none,.bin .eql (.t 23) (.c (.d (.int .i64 0)))⟩] [22] false) (.cond (.t 24) (.seq (.reg [⟨some 25,none,.bld [.int .i64 0,.int .i64 0] []⟩,⟨none,none,.sto (some 2) (.t 4) (.t 25)⟩,⟨some 5,none,.mv false (.c (.d (.int .i64 8)))⟩] [] false) (.ret [.kill,.kill,.kill,.kill,.keep,.keep])) (.skip))) (hold r44_K6))
abbrev r44_R (x4 x5 : PV) (hp : List Ent) : St := ⟨[.dead,.dead,.dead,.dead,x4,x5,.dead,.dead,.dead,.dead,.dead,.dead,.dead,.dead,.dead,.dead,.dead,.dead,.dead,.dead,.dead,.dead,.dead,.dead,.dead,.dead,.dead,.dead,.dead,.dead,.dead,.dead,.dead,.dead,.dead,.dead,.dead,.dead,.dead,.dead,.dead,.dead,.dead,.dead,.dead,.dead,.dead,.dead,.dead,.dead,.dead,.dead,.dead,.dead,.dead,.dead,.dead,.dead,.dead,.dead,.dead,.dead,.dead,.dead,.dead,.dead,.dead,.dead,.dead,.dead,.dead,.dead,.dead,.dead,.dead,.dead,.dead,.dead,.dead,.dead,.dead,.dead,.dead,.dead,.dead,.dead,.dead,.dead,.dead,.dead,.dead,.dead,.dead,.dead,.dead,.dead,.dead,.dead,.dead,.dead,.dead,.dead,.dead,.dead,.dead,.dead,.dead,.dead,.dead,.dead,.dead,.dead,.dead,.dead,.dead,.dead,.dead,.dead,.dead,.dead,.dead,.dead,.dead],hp⟩
def r44_T : RCode := .seq (.reg [⟨some 2,none,.bx false true (.t 0)⟩,⟨some 3,none,.bx false true (.t 1)⟩,⟨some 4,none,.zal false [.d (.int .i64 0),.d (.int .i64 0)]⟩,⟨some 5,none,.mv false (.c (.d (.int .i64 0)))⟩] [] false) (hold r44_K7)
def r44 : RFunc := ⟨123,true,[.cell 4 (some 2),.t 5],r44_T⟩
@[go_sem] def r25_K0 (_ : Unit) : RCode := .seq (.reg [⟨some 18,none,.ld false (some 6) (.t 2)⟩,⟨some 19,none,.ld false (some 6) (.t 3)⟩,⟨some 20,none,.call false (.f 33) [(.t 18),(.t 19),(.c (.d (.int .i64 4)))]⟩,⟨some 17,none,.mv false (.t 20)⟩] [] false) (.cond (.t 17) (.seq (.reg [⟨some 21,none,.fad 3 (.t 2)⟩,⟨some 22,none,.ld false none (.t 21)⟩,⟨some 23,none,.fad 3 (.t 3)⟩,⟨some 24,none,.ld false none (.t 23)⟩,⟨some 25,none,.call false (.f 45) [(.t 22),(.t 24)]⟩,⟨none,none,.sto (some 6) (.t 4) (.t 25)⟩] [21,23] false) (.ret [.kill,.kill,.kill,.kill,.keep])) (.skip))
@[go_sem] def r25_K1 (_ : Unit) : RCode := .seq (.block 0 [.kill,.kill,.kill,.kill,.keep] (.seq (.reg [⟨some 6,none,.ld false (some 6) (.t 2)⟩,⟨some 7,none,.ld false (some 6) (.t 3)⟩,⟨some 8,none,.call false (.f 33) [(.t 6),(.t 7),(.c (.d (.int .i64 3)))]⟩,⟨some 5,none,.mv false (.t 8)⟩] [] false) (.cond (.t 5) (.seq (.reg [⟨some 9,none,.fad 1 (.t 2)⟩,⟨some 10,none,.ld false (some 2) (.t 9)⟩,⟨some 11,none,.fad 1 (.t 3)⟩,⟨some 12,none,.ld false (some 2) (.t 11)⟩,⟨some 13,none,.call false (.f 44) [(.t 10),(.t 12)]⟩,⟨some 14,none,.ext false (.t 13) 0⟩,⟨some 15,none,.ext false (.t 13) 1⟩,⟨some 16,none,.call false (.f 34) [(.t 14),(.t 15)]⟩,⟨none,none,.sto (some 6) (.t 4) (.t 16)⟩] [9,11] false) (.ret [.kill,.kill,.kill,.kill,.keep])) (hold r25_K0)))) (.seq (.reg [⟨some 26,none,.call false (.f 27) [(.c (.d (.str ⟨#[107,105,110,100]⟩)))]⟩,⟨none,none,.sto (some 6) (.t 4) (.t 26)⟩] [] false) (.ret [.kill,.kill,.kill,.kill,.keep]))
abbrev r25_R (x4 : PV) (hp : List Ent) : St := ⟨[.dead,.dead,.dead,.dead,x4,.dead,.dead,.dead,.dead,.dead,.dead,.dead,.dead,.dead,.dead,.dead,.dead,.dead,.dead,.dead,.dead,.dead,.dead,.dead,.dead,.dead,.dead],hp⟩
def r25_T : RCode := .seq (.reg [⟨some 2,none,.bx false true (.t 0)⟩,⟨some 3,none,.bx false true (.t 1)⟩,⟨some 4,none,.zal false [.d (.int .i64 0),.d (.int .i64 0),.d (.int .i64 0),.d (.str ⟨#[]⟩),.nilsl,.nilsl]⟩] [] false) (hold r25_K1)
def r25 : RFunc := ⟨27,true,[.cell 4 (some 6)],r25_T⟩
@[go_sem] def r46_K0 (_ : Unit) : RCode := .seq (.reg [⟨some 13,none,.fad 1 (.t 2)⟩,⟨some 14,none,.ld false none (.t 13)⟩,⟨some 15,none,.bin .neq (.t 14) (.c (.d (.int .i64 0)))⟩,⟨some 16,none,.mv false (.t 15)⟩,⟨some 17,some (16,false),.fad 1 (.t 3)⟩,⟨some 18,some (16,false),.ld false none (.t 17)⟩,⟨some 19,some (16,false),.bin .neq (.t 18) (.c (.d (.int .i64 0)))⟩,⟨some 20,none,.pick (.t 16) (.c (.d (.bool true))) (.t 19)⟩,⟨some 21,none,.mv false (.t 20)⟩,⟨some 22,some (21,false),.fad 0 (.t 3)⟩,⟨some 23,some (21,false),.ld false none (.t 22)⟩,⟨some 24,some (21,false),.bin .eql (.t 23) (.c (.d (.int .i64 0)))⟩,⟨some 25,none,.pick (.t 21) (.c (.d (.bool true))) (.t 24)⟩,⟨some 12,none,.mv false (.t 25)⟩] [13,17,22] false) (.cond (.t 12) (.seq (.reg [⟨some 26,none,.bld [.int .i64 0,.int .i64 0] []⟩,⟨none,none,.sto (some 2) (.t 4) (.t 26)⟩,⟨some 5,none,.mv false (.c (.d (.int .i64 8)))⟩] [] false) (.ret [.kill,.kill,.kill,.kill,.keep,.keep])) (.skip))
@[go_sem] def r46_K1 (_ : Unit) : RCode := .seq (.block 0 [.kill,.kill,.keep,.keep,.keep] (.seq (.reg [⟨some 7,none,.ld false (some 2) (.t 2)⟩,⟨some 8,none,.ld false (some 2) (.t 3)⟩,⟨some 9,none,.call false (.f 49) [(.t 7),(.t 8)]⟩,⟨some 10,none,.un .not (.t 9)⟩,⟨some 6,none,.mv false (.t 10)⟩] [] false) (.cond (.t 6) (.seq (.reg [⟨some 11,none,.bld [.int .i64 0,.int .i64 0] []⟩,⟨none,none,.sto (some 2) (.t 4) (.t 11)⟩,⟨some 5,none,.mv false (.c (.d (.int .i64 1)))⟩] [] false) (.ret [.kill,.kill,.kill,.kill,.keep,.keep])) (hold r46_K0)))) (.seq (.reg [⟨some 27,none,.fad 0 (.t 2)⟩,⟨some 28,none,.ld false none (.t 27)⟩,⟨some 29,none,.fad 0 (.t 3)⟩,⟨some 30,none,.ld false none (.t 29)⟩,⟨some 31,none,.bin .rem (.t 28) (.t 30)⟩,⟨some 32,none,.call false (.f 59) [(.t 31),(.c (.d (.int .i64 0)))]⟩,⟨some 33,none,.ext false (.t 32) 0⟩,⟨some 34,none,.ext false (.t 32) 1⟩,⟨none,none,.sto (some 2) (.t 4) (.t 33)⟩,⟨some 5,none,.mv false (.t 34)⟩] [27,29] false) (.ret [.kill,.kill,.kill,.kill,.keep,.keep]))
abbrev r46_R (x4 x5 : PV) (hp : List Ent) : St := ⟨[.dead,.dead,.dead,.dead,x4,x5,.dead,.dead,.dead,.dead,.dead,.dead,.dead,.dead,.dead,.dead,.dead,.dead,.dead,.dead,.dead,.dead,.dead,.dead,.dead,.dead,.dead,.dead,.dead,.dead,.dead,.dead,.dead,.dead,.dead],hp⟩
def r46_T : RCode := .seq (.reg [⟨some 2,none,.bx false true (.t 0)⟩,⟨some 3,none,.bx false true (.t 1)⟩,⟨some 4,none,.zal false [.d (.int .i64 0),.d (.int .i64 0)]⟩,⟨some 5,none,.mv false (.c (.d (.int .i64 0)))⟩] [] false) (hold r46_K1)
def r46 : RFunc := ⟨35,true,[.cell 4 (some 2),.t 5],r46_T⟩
@[go_sem] def r26_K0 (_ : Unit) : RCode := .seq (.seq (.reg [⟨some 5,none,.ld false (some 6) (.t 2)⟩,⟨some 6,none,.ld false (some 6) (.t 3)⟩,⟨some 7,none,.call false (.f 33) [(.t 5),(.t 6),(.c (.d (.int .i64 3)))]⟩,⟨some 8,none,.un .not (.t 7)⟩] [] false) (.cond (.t 8) (.seq (.reg [⟨some 9,none,.call false (.f 27) [(.c (.d (.str ⟨#[107,105,110,100]⟩)))]⟩,⟨none,none,.sto (some 6) (.t 4) (.t 9)⟩] [] false) (.ret [.kill,.kill,.kill,.kill,.keep])) (.skip))) (.seq (.reg [⟨some 10,none,.fad 1 (.t 2)⟩,⟨some 11,none,.ld false (some 2) (.t 10)⟩,⟨some 12,none,.fad 1 (.t 3)⟩,⟨some 13,none,.ld false (some 2) (.t 12)⟩,⟨some 14,none,.call false (.f 46) [(.t 11),(.t 13)]⟩,⟨some 15,none,.ext false (.t 14) 0⟩,⟨some 16,none,.ext false (.t 14) 1⟩,⟨some 17,none,.call false (.f 34) [(.t 15),(.t 16)]⟩,⟨none,none,.sto (some 6) (.t 4) (.t 17)⟩] [10,12] false) (.ret [.kill,.kill,.kill,.kill,.keep]))
abbrev r26_R (x4 : PV) (hp : List Ent) : St := ⟨[.dead,.dead,.dead,.dead,x4,.dead,.dead,.dead,.dead,.dead,.dead,.dead,.dead,.dead,.dead,.dead,.dead,.dead],hp⟩
def r26_T : RCode := .seq (.reg [⟨some 2,none,.bx false true (.t 0)⟩,⟨some 3,none,.bx false true (.t 1)⟩,⟨some 4,none,.zal false [.d (.int .i64 0),.d (.int .i64 0),.d (.int .i64 0),.d (.str ⟨#[]⟩),.nilsl,.nilsl]⟩] [] false) (hold r26_K0)
def r26 : RFunc := ⟨18,true,[.cell 4 (some 6)],r26_T⟩
@[go_sem] def r16_K0 (_ : Unit) : RCode := .seq (.reg [⟨some 16,none,.bin .eql (.t 8) (.c (.d (.str ⟨#[60]⟩)))⟩,⟨some 13,none,.mv false (.t 16)⟩] [] false) (.cond (.t 13) (.skip) (.seq (.reg [⟨some 17,none,.bin .eql (.t 8) (.c (.d (.str ⟨#[60,61]⟩)))⟩,⟨some 13,none,.mv false (.t 17)⟩] [] false) (.cond (.t 13) (.skip) (.seq (.reg [⟨some 18,none,.bin .eql (.t 8) (.c (.d (.str ⟨#[62]⟩)))⟩,⟨some 13,none,.mv false (.t 18)⟩] [] false) (.cond (.t 13) (.skip) (.reg [⟨some 19,none,.bin .eql (.t 8) (.c (.d (.str ⟨#[62,61]⟩)))⟩,⟨some 13,none,.mv false (.t 19)⟩] [] false))))))
@[go_sem] def r16_K1 (_ : Unit) : RCode := .seq (.seq (.reg [⟨some 23,none,.bin .eql (.t 8) (.c (.d (.str ⟨#[45]⟩)))⟩,⟨some 22,none,.mv false (.t 23)⟩] [] false) (.cond (.t 22) (.exit 5) (.skip))) (.seq (.seq (.reg [⟨some 25,none,.bin .eql (.t 8) (.c (.d (.str ⟨#[42]⟩)))⟩,⟨some 24,none,.mv false (.t 25)⟩] [] false) (.cond (.t 24) (.exit 6) (.skip))) (.seq (.seq (.reg [⟨some 27,none,.bin .eql (.t 8) (.c (.d (.str ⟨#[47]⟩)))⟩,⟨some 26,none,.mv false (.t 27)⟩] [] false) (.cond (.t 26) (.exit 7) (.skip))) (.seq (.reg [⟨some 29,none,.bin .eql (.t 8) (.c (.d (.str ⟨#[37]⟩)))⟩,⟨some 28,none,.mv false (.t 29)⟩] [] false) (.cond (.t 28) (.exit 8) (.skip)))))
@[go_sem] def r16_K2 (_ : Unit) : RCode := .seq (.seq (.seq (.reg [⟨some 14,none,.bin .eql (.t 8) (.c (.d (.str ⟨#[61,61]⟩)))⟩,⟨some 13,none,.mv false (.t 14)⟩] [] false) (.cond (.t 13) (.skip) (.seq (.reg [⟨some 15,none,.bin .eql (.t 8) (.c (.d (.str ⟨#[33,61]⟩)))⟩,⟨some 13,none,.mv false (.t 15)⟩] [] false) (.cond (.t 13) (.skip) (hold r16_K0))))) (.cond (.t 13) (.exit 3) (.skip))) (.seq (.seq (.reg [⟨some 21,none,.bin .eql (.t 8) (.c (.d (.str ⟨#[43]⟩)))⟩,⟨some 20,none,.mv false (.t 21)⟩] [] false) (.cond (.t 20) (.exit 4) (.skip))) (hold r16_K1))
@[go_sem] def r16_K3 (_ : Unit) : RCode := .seq (.seq (.seq (.reg [⟨some 30,none,.mv false (.t 7)⟩] [] false) (.cond (.t 30) (.seq (.reg [⟨some 31,none,.ld false (some 6) (.t 4)⟩,⟨some 32,none,.call false (.f 15) [(.t 31)]⟩,⟨some 33,none,.mv false (.t 32)⟩,⟨some 34,some (33,true),.ld false (some 6) (.t 5)⟩,⟨some 35,some (33,true),.call false (.f 15) [(.t 34)]⟩,⟨some 36,none,.pick (.t 33) (.t 35) (.c (.d (.bool false)))⟩,⟨some 37,none,.call false (.f 20) [(.t 36)]⟩,⟨none,none,.sto (some 6) (.t 6) (.t 37)⟩] [] false) (.ret [.kill,.kill,.kill,.kill,.kill,.kill,.keep])) (.skip))) (.seq (.reg [⟨some 38,none,.ld false (some 6) (.t 4)⟩,⟨some 39,none,.call false (.f 15) [(.t 38)]⟩,⟨some 40,none,.mv false (.t 39)⟩,⟨some 41,some (40,false),.ld false (some 6) (.t 5)⟩,⟨some 42,some (40,false),.call false (.f 15) [(.t 41)]⟩,⟨some 43,none,.pick (.t 40) (.c (.d (.bool true))) (.t 42)⟩,⟨some 44,none,.call false (.f 20) [(.t 43)]⟩,⟨none,none,.sto (some 6) (.t 6) (.t 44)⟩] [] false) (.ret [.kill,.kill,.kill,.kill,.kill,.kill,.keep]))) (.exit 0)
@[go_sem] def r16_K4 (_ : Unit) : RCode := .block 0 [.kill,.kill,.kill,.kill,.kill,.kill,.keep] (.seq (.block 8 [.kill,.kill,.kill,.kill,.keep,.keep,.keep] (.seq (.block 7 [.kill,.kill,.kill,.kill,.keep,.keep,.keep] (.seq (.block 6 [.kill,.kill,.kill,.kill,.keep,.keep,.keep] (.seq (.block 5 [.kill,.kill,.kill,.kill,.keep,.keep,.keep] (.seq (.block 4 [.kill,.kill,.kill,.kill,.keep,.keep,.keep] (.seq (.block 3 [.keep,.kill,.kill,.kill,.keep,.keep,.keep] (.seq (.block 2 [.kill,.kill,.kill,.kill,.keep,.keep,.keep,.keep] (.seq (.block 1 [.kill,.kill,.kill,.kill,.keep,.keep,.keep] (.seq (.seq (.seq (.reg [⟨some 10,none,.bin .eql (.t 8) (.c (.d (.str ⟨#[111,114]⟩)))⟩,⟨some 9,none,.mv false (.t 10)⟩] [] false) (.cond (.t 9) (.exit 1) (.skip))) (.seq (.seq (.reg [⟨some 12,none,.bin .eql (.t 8) (.c (.d (.str ⟨#[97,110,100]⟩)))⟩,⟨some 11,none,.mv false (.t 12)⟩] [] false) (.cond (.t 11) (.exit 2) (.skip))) (hold r16_K2))) (.exit 0))) (.reg [⟨some 7,none,.mv false (.c (.d (.bool false)))⟩] [] false))) (hold r16_K3))) (.seq (.seq (.reg [⟨some 45,none,.mv false (.t 0)⟩,⟨some 46,none,.ld false (some 6) (.t 4)⟩,⟨some 47,none,.ld false (some 6) (.t 5)⟩,⟨some 48,none,.call false (.f 21) [(.t 45),(.t 46),(.t 47)]⟩,⟨none,none,.sto (some 6) (.t 6) (.t 48)⟩] [] false) (.ret [.kill,.kill,.kill,.kill,.kill,.kill,.keep])) (.exit 0)))) (.seq (.seq (.reg [⟨some 49,none,.ld false (some 6) (.t 4)⟩,⟨some 50,none,.ld false (some 6) (.t 5)⟩,⟨some 51,none,.call false (.f 22) [(.t 49),(.t 50)]⟩,⟨none,none,.sto (some 6) (.t 6) (.t 51)⟩] [] false) (.ret [.kill,.kill,.kill,.kill,.kill,.kill,.keep])) (.exit 0)))) (.seq (.seq (.reg [⟨some 52,none,.ld false (some 6) (.t 4)⟩,⟨some 53,none,.ld false (some 6) (.t 5)⟩,⟨some 54,none,.call false (.f 23) [(.t 52),(.t 53)]⟩,⟨none,none,.sto (some 6) (.t 6) (.t 54)⟩] [] false) (.ret [.kill,.kill,.kill,.kill,.kill,.kill,.keep])) (.exit 0)))) (.seq (.seq (.reg [⟨some 55,none,.ld false (some 6) (.t 4)⟩,⟨some 56,none,.ld false (some 6) (.t 5)⟩,⟨some 57,none,.call false (.f 24) [(.t 55),(.t 56)]⟩,⟨none,none,.sto (some 6) (.t 6) (.t 57)⟩] [] false) (.ret [.kill,.kill,.kill,.kill,.kill,.kill,.keep])) (.exit 0)))) (.seq (.seq (.reg [⟨some 58,none,.ld false (some 6) (.t 4)⟩,⟨some 59,none,.ld false (some 6) (.t 5)⟩,⟨some 60,none,.call false (.f 25) [(.t 58),(.t 59)]⟩,⟨none,none,.sto (some 6) (.t 6) (.t 60)⟩] [] false) (.ret [.kill,.kill,.kill,.kill,.kill,.kill,.keep])) (.exit 0)))) (.seq (.seq (.reg [⟨some 61,none,.ld false (some 6) (.t 4)⟩,⟨some 62,none,.ld false (some 6) (.t 5)⟩,⟨some 63,none,.call false (.f 26) [(.t 61),(.t 62)]⟩,⟨none,none,.sto (some 6) (.t 6) (.t 63)⟩] [] false) (.ret [.kill,.kill,.kill,.kill,.kill,.kill,.keep])) (.exit 0)))
abbrev r16_R (x6 : PV) (hp : List Ent) : St := ⟨[.dead,.dead,.dead,.dead,.dead,.dead,x6,.dead,.dead,.dead,.dead,.dead,.dead,.dead,.dead,.dead,.dead,.dead,.dead,.dead,.dead,.dead,.dead,.dead,.dead,.dead,.dead,.dead,.dead,.dead,.dead,.dead,.dead,.dead,.dead,.dead,.dead,.dead,.dead,.dead,.dead,.dead,.dead,.dead,.dead,.dead,.dead,.dead,.dead,.dead,.dead,.dead,.dead,.dead,.dead,.dead,.dead,.dead,.dead,.dead,.dead,.dead,.dead,.dead,.dead],hp⟩
def r16_T : RCode := .seq (.reg [⟨some 4,none,.bx false true (.t 1)⟩,⟨some 5,none,.bx false true (.t 2)⟩,⟨some 6,none,.zal false [.d (.int .i64 0),.d (.int .i64 0),.d (.int .i64 0),.d (.str ⟨#[]⟩),.nilsl,.nilsl]⟩] [] false) (.seq (.reg [⟨some 7,none,.mv false (.c (.d (.bool true)))⟩] [] false) (.seq (.seq (.reg [⟨some 8,none,.mv false (.t 0)⟩] [] false) (hold r16_K4)) (.seq (.reg [⟨some 64,none,.call false (.f 27) [(.c (.d (.str ⟨#[107,105,110,100]⟩)))]⟩,⟨none,none,.sto (some 6) (.t 6) (.t 64)⟩] [] false) (.ret [.kill,.kill,.kill,.kill,.kill,.kill,.keep]))))
def r16 : RFunc := ⟨65,true,[.cell 6 (some 6)],r16_T⟩
@[go_sem] def r7_K0 (_ : Unit) : RCode := .seq (.seq (.reg [⟨some 10,none,.ld false (some 6) (.t 4)⟩,⟨some 11,none,.call false (.f 15) [(.t 10)]⟩,⟨some 12,none,.mv false (.t 11)⟩,⟨some 13,some (12,true),.fad 0 (.t 4)⟩,⟨some 14,some (12,true),.ld false none (.t 13)⟩,⟨some 15,some (12,true),.bin .neq (.t 14) (.c (.d (.int .i64 7)))⟩,⟨some 16,none,.pick (.t 12) (.t 15) (.c (.d (.bool false)))⟩] [13] false) (.cond (.t 16) (.seq (.reg [⟨some 17,none,.ld false (some 6) (.t 4)⟩,⟨none,none,.sto (some 6) (.t 6) (.t 17)⟩] [] false) (.ret [.kill,.kill,.kill,.kill,.kill,.kill,.keep])) (.skip))) (.seq (.reg [⟨some 18,none,.ld false (some 6) (.t 5)⟩,⟨none,none,.sto (some 6) (.t 6) (.t 18)⟩] [] false) (.ret [.kill,.kill,.kill,.kill,.kill,.kill,.keep]))
@[go_sem] def r7_K1 (_ : Unit) : RCode := .cond (.t 19) (.seq (.reg [⟨some 23,none,.ld false (some 6) (.t 4)⟩,⟨none,none,.sto (some 6) (.t 6) (.t 23)⟩] [] false) (.ret [.kill,.kill,.kill,.kill,.kill,.kill,.keep])) (.seq (.reg [⟨some 25,none,.fad 0 (.t 5)⟩,⟨some 26,none,.ld false none (.t 25)⟩,⟨some 27,none,.bin .eql (.t 26) (.c (.d (.int .i64 7)))⟩,⟨some 24,none,.mv false (.t 27)⟩] [25] false) (.cond (.t 24) (.seq (.reg [⟨some 28,none,.ld false (some 6) (.t 5)⟩,⟨none,none,.sto (some 6) (.t 6) (.t 28)⟩] [] false) (.ret [.kill,.kill,.kill,.kill,.kill,.kill,.keep])) (.skip)))
@[go_sem] def r7_K2 (_ : Unit) : RCode := .seq (.block 0 [.keep,.kill,.kill,.kill,.keep,.keep,.keep] (.seq (.reg [⟨some 8,none,.mv false (.t 0)⟩,⟨some 9,none,.bin .eql (.t 8) (.c (.d (.str ⟨#[47,47]⟩)))⟩,⟨some 7,none,.mv false (.t 9)⟩] [] false) (.cond (.t 7) (hold r7_K0) (.seq (.reg [⟨some 20,none,.fad 0 (.t 4)⟩,⟨some 21,none,.ld false none (.t 20)⟩,⟨some 22,none,.bin .eql (.t 21) (.c (.d (.int .i64 7)))⟩,⟨some 19,none,.mv false (.t 22)⟩] [20] false) (hold r7_K1))))) (.seq (.reg [⟨some 29,none,.mv false (.t 0)⟩,⟨some 30,none,.ld false (some 6) (.t 4)⟩,⟨some 31,none,.ld false (some 6) (.t 5)⟩,⟨some 32,none,.call false (.f 16) [(.t 29),(.t 30),(.t 31)]⟩,⟨none,none,.sto (some 6) (.t 6) (.t 32)⟩] [] false) (.ret [.kill,.kill,.kill,.kill,.kill,.kill,.keep]))
abbrev r7_R (x6 : PV) (hp : List Ent) : St := ⟨[.dead,.dead,.dead,.dead,.dead,.dead,x6,.dead,.dead,.dead,.dead,.dead,.dead,.dead,.dead,.dead,.dead,.dead,.dead,.dead,.dead,.dead,.dead,.dead,.dead,.dead,.dead,.dead,.dead,.dead,.dead,.dead,.dead],hp⟩
def r7_T : RCode := .seq (.reg [⟨some 4,none,.bx false true (.t 1)⟩,⟨some 5,none,.bx false true (.t 2)⟩,⟨some 6,none,.zal false [.d (.int .i64 0),.d (.int .i64 0),.d (.int .i64 0),.d (.str ⟨#[]⟩),.nilsl,.nilsl]⟩] [] false) (hold r7_K2)
def r7 : RFunc := ⟨33,true,[.cell 6 (some 6)],r7_T⟩
abbrev r13_R (x2 : PV) (hp : List Ent) : St := ⟨[.dead,.dead,x2,.dead,.dead],hp⟩
def r13_T : RCode := .seq (.reg [⟨some 2,none,.zal false [.d (.int .i64 0),.d (.int .i64 0),.d (.int .i64 0),.d (.str ⟨#[]⟩),.nilsl,.nilsl]⟩] [] false) (.seq (.reg [⟨some 3,none,.mv false (.t 0)⟩,⟨some 4,none,.bld [.int .i64 0,.int .i64 0,.int .i64 0,.str ⟨#[]⟩,.sl [],.sl []] [(0,1,(.c (.d (.int .i64 4)))),(3,1,(.t 3))]⟩,⟨none,none,.sto (some 6) (.t 2) (.t 4)⟩] [] false) (.ret [.kill,.kill,.keep]))
def r13 : RFunc := ⟨5,true,[.cell 2 (some 6)],r13_T⟩
abbrev r14_R (x2 : PV) (hp : List Ent) : St := ⟨[.dead,.dead,x2,.dead,.dead,.dead],hp⟩
def r14_T : RCode := .seq (.reg [⟨some 2,none,.zal false [.d (.int .i64 0),.d (.int .i64 0),.d (.int .i64 0),.d (.str ⟨#[]⟩),.nilsl,.nilsl]⟩] [] false) (.seq (.reg [⟨some 3,none,.mv false (.t 0)⟩,⟨some 4,none,.bld [.int .i64 0,.int .i64 0] [(0,1,(.t 3))]⟩,⟨some 5,none,.bld [.int .i64 0,.int .i64 0,.int .i64 0,.str ⟨#[]⟩,.sl [],.sl []] [(0,1,(.c (.d (.int .i64 3)))),(1,2,(.t 4))]⟩,⟨none,none,.sto (some 6) (.t 2) (.t 5)⟩] [] false) (.ret [.kill,.kill,.keep]))
def r14 : RFunc := ⟨6,true,[.cell 2 (some 6)],r14_T⟩
@[go_sem] def r6_K0 (_ : Unit) : RCode := .seq (.reg [⟨some 19,none,.fad 3 (.t 1)⟩,⟨some 20,none,.ld false none (.t 19)⟩,⟨some 21,none,.bin .eql (.t 20) (.c (.d (.str ⟨#[97,97,97]⟩)))⟩,⟨some 22,none,.mv false (.t 21)⟩,⟨some 23,some (22,true),.fad 4 (.t 2)⟩,⟨some 24,some (22,true),.ld false none (.t 23)⟩,⟨some 25,some (22,true),.len false (.t 24)⟩,⟨some 26,some (22,true),.bin .eql (.t 25) (.c (.d (.int .i64 1)))⟩,⟨some 27,none,.pick (.t 22) (.t 26) (.c (.d (.bool false)))⟩,⟨some 28,none,.mv false (.t 27)⟩,⟨some 29,some (28,true),.fad 4 (.t 2)⟩,⟨some 30,some (28,true),.ld false none (.t 29)⟩,⟨some 31,some (28,true),.iad none 6 (.t 30) (.c (.d (.int .i64 0)))⟩,⟨some 32,some (28,true),.fad 1 (.t 31)⟩,⟨some 33,some (28,true),.fad 0 (.t 32)⟩,⟨some 34,some (28,true),.ld false none (.t 33)⟩,⟨some 35,some (28,true),.bin .eql (.t 34) (.c (.d (.int .i64 2)))⟩,⟨some 36,none,.pick (.t 28) (.t 35) (.c (.d (.bool false)))⟩,⟨some 37,none,.mv false (.t 36)⟩,⟨some 38,some (37,true),.fad 0 (.t 3)⟩,⟨some 39,some (37,true),.ld false none (.t 38)⟩,⟨some 40,some (37,true),.bin .eql (.t 39) (.c (.d (.int .i64 7)))⟩,⟨some 41,none,.pick (.t 37) (.t 40) (.c (.d (.bool false)))⟩,⟨some 42,none,.mv false (.t 41)⟩,⟨some 43,some (42,true),.fad 3 (.t 3)⟩,⟨some 44,some (42,true),.ld false none (.t 43)⟩,⟨some 45,some (42,true),.bin .eql (.t 44) (.c (.d (.str ⟨#[110,117,109,98,101,114]⟩)))⟩,⟨some 46,none,.pick (.t 42) (.t 45) (.c (.d (.bool false)))⟩,⟨some 0,none,.mv false (.t 46)⟩] [19,23,29,31,32,33,38,43] false) (.ret [.keep])
@[go_sem] def r6_K1 (_ : Unit) : RCode := .seq (.reg [⟨some 7,none,.call false (.f 14) [(.c (.d (.int .i64 1)))]⟩,⟨some 8,none,.call false (.f 14) [(.c (.d (.int .i64 2)))]⟩,⟨some 9,none,.call false (.f 14) [(.c (.d (.int .i64 1)))]⟩,⟨some 10,none,.bsl 27 6 [(.t 7),(.t 8),(.t 9)]⟩,⟨some 11,none,.bld [.int .i64 0,.int .i64 0,.int .i64 0,.str ⟨#[]⟩,.sl [],.sl []] [(0,1,(.c (.d (.int .i64 5)))),(4,1,(.t 10))]⟩,⟨some 12,none,.call false (.f 14) [(.c (.d (.int .i64 1)))]⟩,⟨some 13,none,.bsl 27 6 [(.t 12)]⟩,⟨some 14,none,.bld [.int .i64 0,.int .i64 0,.int .i64 0,.str ⟨#[]⟩,.sl [],.sl []] [(0,1,(.c (.d (.int .i64 5)))),(4,1,(.t 13))]⟩,⟨some 15,none,.call false (.f 7) [(.c (.d (.str ⟨#[45]⟩))),(.t 11),(.t 14)]⟩,⟨some 2,none,.zal false [.d (.int .i64 0),.d (.int .i64 0),.d (.int .i64 0),.d (.str ⟨#[]⟩),.nilsl,.nilsl]⟩,⟨none,none,.sto (some 6) (.t 2) (.t 15)⟩] [] false) (.seq (.reg [⟨some 16,none,.call false (.f 14) [(.c (.d (.int .i64 1)))]⟩,⟨some 17,none,.call false (.f 14) [(.c (.d (.int .i64 3)))]⟩,⟨some 18,none,.call false (.f 7) [(.c (.d (.str ⟨#[47]⟩))),(.t 16),(.t 17)]⟩,⟨some 3,none,.zal false [.d (.int .i64 0),.d (.int .i64 0),.d (.int .i64 0),.d (.str ⟨#[]⟩),.nilsl,.nilsl]⟩,⟨none,none,.sto (some 6) (.t 3) (.t 18)⟩] [] false) (hold r6_K0))
abbrev r6_R (x0 : PV) (hp : List Ent) : St := ⟨[x0,.dead,.dead,.dead,.dead,.dead,.dead,.dead,.dead,.dead,.dead,.dead,.dead,.dead,.dead,.dead,.dead,.dead,.dead,.dead,.dead,.dead,.dead,.dead,.dead,.dead,.dead,.dead,.dead,.dead,.dead,.dead,.dead,.dead,.dead,.dead,.dead,.dead,.dead,.dead,.dead,.dead,.dead,.dead,.dead,.dead,.dead],hp⟩
def r6_T : RCode := .seq (.reg [⟨some 0,none,.mv false (.c (.d (.bool false)))⟩] [] false) (.seq (.reg [⟨some 4,none,.call false (.f 13) [(.c (.d (.str ⟨#[97]⟩)))]⟩,⟨some 5,none,.call false (.f 14) [(.c (.d (.int .i64 3)))]⟩,⟨some 6,none,.call false (.f 7) [(.c (.d (.str ⟨#[42]⟩))),(.t 4),(.t 5)]⟩,⟨some 1,none,.zal false [.d (.int .i64 0),.d (.int .i64 0),.d (.int .i64 0),.d (.str ⟨#[]⟩),.nilsl,.nilsl]⟩,⟨none,none,.sto (some 6) (.t 1) (.t 6)⟩] [] false) (hold r6_K1))
def r6 : RFunc := ⟨47,true,[.t 0],r6_T⟩
@[go_sem] def r11_K0 (_ : Unit) : RCode := .seq (.block 1 [.kill,.kill,.keep,.keep,.kill,.keep] (.seq (.reg [⟨some 51,none,.fad 5 (.t 2)⟩,⟨some 52,none,.ld false none (.t 51)⟩,⟨some 53,none,.mv false (.t 5)⟩,⟨some 54,none,.iad none 1 (.t 52) (.t 53)⟩,⟨some 55,none,.ld false none (.t 54)⟩,⟨some 56,none,.fad 5 (.t 3)⟩,⟨some 57,none,.ld false none (.t 56)⟩,⟨some 58,none,.mv false (.t 5)⟩,⟨some 59,none,.iad none 1 (.t 57) (.t 58)⟩,⟨some 60,none,.ld false none (.t 59)⟩,⟨some 61,none,.bin .neq (.t 55) (.t 60)⟩] [51,54,56,59] true) (.cond (.t 61) (.seq (.reg [⟨some 4,none,.mv false (.c (.d (.bool false)))⟩] [] false) (.ret [.kill,.kill,.kill,.kill,.keep])) (.skip)))) (.reg [⟨some 49,none,.mv false (.t 5)⟩,⟨some 50,none,.bin .add (.t 49) (.c (.d (.int .i64 1)))⟩,⟨some 5,none,.mv false (.t 50)⟩] [] false)
def r11_C0 : RCode := .seq (.seq (.reg [⟨some 44,none,.mv false (.t 5)⟩,⟨some 45,none,.fad 5 (.t 2)⟩,⟨some 46,none,.ld false none (.t 45)⟩,⟨some 47,none,.len false (.t 46)⟩,⟨some 48,none,.bin .lss (.t 44) (.t 47)⟩] [45] false) (.cond (.t 48) (.skip) (.exit 0))) (hold r11_K0)
def r11_B0 : RCode := .block 0 [.kill,.kill,.keep,.keep] (.loop [.kill,.kill,.keep,.keep,.kill,.keep] r11_C0)
theorem r11_B0_eq {cf : CF} {s : St} : V cf r11_B0 s = loopK cf r11_B0 0 [.kill,.kill,.keep,.keep] [.kill,.kill,.keep,.keep,.kill,.keep] (V cf r11_C0 (s.head [.kill,.kill,.keep,.keep,.kill,.keep])) := V_bloop
abbrev r11_S0 (x2 x3 x5 : PV) (hp : List Ent) : St := ⟨[.dead,.dead,x2,x3,.dead,x5,.dead,.dead,.dead,.dead,.dead,.dead,.dead,.dead,.dead,.dead,.dead,.dead,.dead,.dead,.dead,.dead,.dead,.dead,.dead,.dead,.dead,.dead,.dead,.dead,.dead,.dead,.dead,.dead,.dead,.dead,.dead,.dead,.dead,.dead,.dead,.dead,.dead,.dead,.dead,.dead,.dead,.dead,.dead,.dead,.dead,.dead,.dead,.dead,.dead,.dead,.dead,.dead,.dead,.dead,.dead,.dead,.dead,.dead,.dead,.dead,.dead,.dead,.dead,.dead,.dead,.dead,.dead,.dead,.dead,.dead,.dead,.dead,.dead,.dead,.dead],hp⟩
abbrev r11_E0 (x2 x3 : PV) (hp : List Ent) : St := ⟨[.dead,.dead,x2,x3,.dead,.dead,.dead,.dead,.dead,.dead,.dead,.dead,.dead,.dead,.dead,.dead,.dead,.dead,.dead,.dead,.dead,.dead,.dead,.dead,.dead,.dead,.dead,.dead,.dead,.dead,.dead,.dead,.dead,.dead,.dead,.dead,.dead,.dead,.dead,.dead,.dead,.dead,.dead,.dead,.dead,.dead,.dead,.dead,.dead,.dead,.dead,.dead,.dead,.dead,.dead,.dead,.dead,.dead,.dead,.dead,.dead,.dead,.dead,.dead,.dead,.dead,.dead,.dead,.dead,.dead,.dead,.dead,.dead,.dead,.dead,.dead,.dead,.dead,.dead,.dead,.dead],hp⟩
theorem r11_B0_n {cf : CF} {a0 a1 x2 x3 a4 x5 a6 a7 a8 a9 a10 a11 a12 a13 a14 a15 a16 a17 a18 a19 a20 a21 a22 a23 a24 a25 a26 a27 a28 a29 a30 a31 a32 a33 a34 a35 a36 a37 a38 a39 a40 a41 a42 a43 a44 a45 a46 a47 a48 a49 a50 a51 a52 a53 a54 a55 a56 a57 a58 a59 a60 a61 a62 a63 a64 a65 a66 a67 a68 a69 a70 a71 a72 a73 a74 a75 a76 a77 a78 a79 a80 : PV} {hp : List Ent} : V cf r11_B0 ⟨[a0,a1,x2,x3,a4,x5,a6,a7,a8,a9,a10,a11,a12,a13,a14,a15,a16,a17,a18,a19,a20,a21,a22,a23,a24,a25,a26,a27,a28,a29,a30,a31,a32,a33,a34,a35,a36,a37,a38,a39,a40,a41,a42,a43,a44,a45,a46,a47,a48,a49,a50,a51,a52,a53,a54,a55,a56,a57,a58,a59,a60,a61,a62,a63,a64,a65,a66,a67,a68,a69,a70,a71,a72,a73,a74,a75,a76,a77,a78,a79,a80],hp⟩ = V cf r11_B0 (r11_S0 x2 x3 x5 hp) := by rw [r11_B0_eq,r11_B0_eq]; rfl
@[go_sem] def r11_K1 (_ : Unit) : RCode := .seq (.block 3 [.kill,.kill,.keep,.keep,.kill,.kill,.keep] (.seq (.reg [⟨some 69,none,.fad 4 (.t 2)⟩,⟨some 70,none,.ld false none (.t 69)⟩,⟨some 71,none,.mv false (.t 6)⟩,⟨some 72,none,.iad none 6 (.t 70) (.t 71)⟩,⟨some 73,none,.ld false (some 6) (.t 72)⟩,⟨some 74,none,.fad 4 (.t 3)⟩,⟨some 75,none,.ld false none (.t 74)⟩,⟨some 76,none,.mv false (.t 6)⟩,⟨some 77,none,.iad none 6 (.t 75) (.t 76)⟩,⟨some 78,none,.ld false (some 6) (.t 77)⟩,⟨some 79,none,.call false (.f 11) [(.t 73),(.t 78)]⟩,⟨some 80,none,.un .not (.t 79)⟩] [69,72,74,77] true) (.cond (.t 80) (.seq (.reg [⟨some 4,none,.mv false (.c (.d (.bool false)))⟩] [] false) (.ret [.kill,.kill,.kill,.kill,.keep])) (.skip)))) (.reg [⟨some 67,none,.mv false (.t 6)⟩,⟨some 68,none,.bin .add (.t 67) (.c (.d (.int .i64 1)))⟩,⟨some 6,none,.mv false (.t 68)⟩] [] false)
def r11_C1 : RCode := .seq (.seq (.reg [⟨some 62,none,.mv false (.t 6)⟩,⟨some 63,none,.fad 4 (.t 2)⟩,⟨some 64,none,.ld false none (.t 63)⟩,⟨some 65,none,.len false (.t 64)⟩,⟨some 66,none,.bin .lss (.t 62) (.t 65)⟩] [63] false) (.cond (.t 66) (.skip) (.exit 2))) (hold r11_K1)
def r11_B1 : RCode := .block 2 [] (.loop [.kill,.kill,.keep,.keep,.kill,.kill,.keep] r11_C1)
theorem r11_B1_eq {cf : CF} {s : St} : V cf r11_B1 s = loopK cf r11_B1 2 [] [.kill,.kill,.keep,.keep,.kill,.kill,.keep] (V cf r11_C1 (s.head [.kill,.kill,.keep,.keep,.kill,.kill,.keep])) := V_bloop
abbrev r11_S1 (x2 x3 x6 : PV) (hp : List Ent) : St := ⟨[.dead,.dead,x2,x3,.dead,.dead,x6,.dead,.dead,.dead,.dead,.dead,.dead,.dead,.dead,.dead,.dead,.dead,.dead,.dead,.dead,.dead,.dead,.dead,.dead,.dead,.dead,.dead,.dead,.dead,.dead,.dead,.dead,.dead,.dead,.dead,.dead,.dead,.dead,.dead,.dead,.dead,.dead,.dead,.dead,.dead,.dead,.dead,.dead,.dead,.dead,.dead,.dead,.dead,.dead,.dead,.dead,.dead,.dead,.dead,.dead,.dead,.dead,.dead,.dead,.dead,.dead,.dead,.dead,.dead,.dead,.dead,.dead,.dead,.dead,.dead,.dead,.dead,.dead,.dead,.dead],hp⟩
abbrev r11_E1  (hp : List Ent) : St := ⟨[.dead,.dead,.dead,.dead,.dead,.dead,.dead,.dead,.dead,.dead,.dead,.dead,.dead,.dead,.dead,.dead,.dead,.dead,.dead,.dead,.dead,.dead,.dead,.dead,.dead,.dead,.dead,.dead,.dead,.dead,.dead,.dead,.dead,.dead,.dead,.dead,.dead,.dead,.dead,.dead,.dead,.dead,.dead,.dead,.dead,.dead,.dead,.dead,.dead,.dead,.dead,.dead,.dead,.dead,.dead,.dead,.dead,.dead,.dead,.dead,.dead,.dead,.dead,.dead,.dead,.dead,.dead,.dead,.dead,.dead,.dead,.dead,.dead,.dead,.dead,.dead,.dead,.dead,.dead,.dead,.dead],hp⟩
theorem r11_B1_n {cf : CF} {a0 a1 x2 x3 a4 a5 x6 a7 a8 a9 a10 a11 a12 a13 a14 a15 a16 a17 a18 a19 a20 a21 a22 a23 a24 a25 a26 a27 a28 a29 a30 a31 a32 a33 a34 a35 a36 a37 a38 a39 a40 a41 a42 a43 a44 a45 a46 a47 a48 a49 a50 a51 a52 a53 a54 a55 a56 a57 a58 a59 a60 a61 a62 a63 a64 a65 a66 a67 a68 a69 a70 a71 a72 a73 a74 a75 a76 a77 a78 a79 a80 : PV} {hp : List Ent} : V cf r11_B1 ⟨[a0,a1,x2,x3,a4,a5,x6,a7,a8,a9,a10,a11,a12,a13,a14,a15,a16,a17,a18,a19,a20,a21,a22,a23,a24,a25,a26,a27,a28,a29,a30,a31,a32,a33,a34,a35,a36,a37,a38,a39,a40,a41,a42,a43,a44,a45,a46,a47,a48,a49,a50,a51,a52,a53,a54,a55,a56,a57,a58,a59,a60,a61,a62,a63,a64,a65,a66,a67,a68,a69,a70,a71,a72,a73,a74,a75,a76,a77,a78,a79,a80],hp⟩ = V cf r11_B1 (r11_S1 x2 x3 x6 hp) := by rw [r11_B1_eq,r11_B1_eq]; rfl
@[go_sem] def r11_K2 (_ : Unit) : RCode := .seq (.seq (.reg [⟨some 7,none,.fad 0 (.t 2)⟩,⟨some 8,none,.ld false none (.t 7)⟩,⟨some 9,none,.fad 0 (.t 3)⟩,⟨some 10,none,.ld false none (.t 9)⟩,⟨some 11,none,.bin .neq (.t 8) (.t 10)⟩,⟨some 12,none,.mv false (.t 11)⟩,⟨some 13,some (12,false),.fad 1 (.t 2)⟩,⟨some 14,some (12,false),.ld false (some 2) (.t 13)⟩,⟨some 15,some (12,false),.fad 1 (.t 3)⟩,⟨some 16,some (12,false),.ld false (some 2) (.t 15)⟩,⟨some 17,some (12,false),.eqv true (.st [(0,1,.i),(1,1,.i)]) (.t 14) (.t 16)⟩,⟨some 18,none,.pick (.t 12) (.c (.d (.bool true))) (.t 17)⟩,⟨some 19,none,.mv false (.t 18)⟩,⟨some 20,some (19,false),.fad 3 (.t 2)⟩,⟨some 21,some (19,false),.ld false none (.t 20)⟩,⟨some 22,some (19,false),.fad 3 (.t 3)⟩,⟨some 23,some (19,false),.ld false none (.t 22)⟩,⟨some 24,some (19,false),.bin .neq (.t 21) (.t 23)⟩,⟨some 25,none,.pick (.t 19) (.c (.d (.bool true))) (.t 24)⟩,⟨some 26,none,.mv false (.t 25)⟩,⟨some 27,some (26,false),.fad 4 (.t 2)⟩,⟨some 28,some (26,false),.ld false none (.t 27)⟩,⟨some 29,some (26,false),.len false (.t 28)⟩,⟨some 30,some (26,false),.fad 4 (.t 3)⟩,⟨some 31,some (26,false),.ld false none (.t 30)⟩,⟨some 32,some (26,false),.len false (.t 31)⟩,⟨some 33,some (26,false),.bin .neq (.t 29) (.t 32)⟩,⟨some 34,none,.pick (.t 26) (.c (.d (.bool true))) (.t 33)⟩,⟨some 35,none,.mv false (.t 34)⟩,⟨some 36,some (35,false),.fad 5 (.t 2)⟩,⟨some 37,some (35,false),.ld false none (.t 36)⟩,⟨some 38,some (35,false),.len false (.t 37)⟩,⟨some 39,some (35,false),.fad 5 (.t 3)⟩,⟨some 40,some (35,false),.ld false none (.t 39)⟩,⟨some 41,some (35,false),.len false (.t 40)⟩,⟨some 42,some (35,false),.bin .neq (.t 38) (.t 41)⟩,⟨some 43,none,.pick (.t 35) (.c (.d (.bool true))) (.t 42)⟩] [7,9,13,15,20,22,27,30,36,39] false) (.cond (.t 43) (.seq (.reg [⟨some 4,none,.mv false (.c (.d (.bool false)))⟩] [] false) (.ret [.kill,.kill,.kill,.kill,.keep])) (.skip))) (.seq (.seq (.reg [⟨some 5,none,.mv false (.c (.d (.int .i64 0)))⟩] [] false) (r11_B0)) (.seq (.seq (.reg [⟨some 6,none,.mv false (.c (.d (.int .i64 0)))⟩] [] false) (r11_B1)) (.seq (.reg [⟨some 4,none,.mv false (.c (.d (.bool true)))⟩] [] false) (.ret [.kill,.kill,.kill,.kill,.keep]))))
abbrev r11_R (x4 : PV) (hp : List Ent) : St := ⟨[.dead,.dead,.dead,.dead,x4,.dead,.dead,.dead,.dead,.dead,.dead,.dead,.dead,.dead,.dead,.dead,.dead,.dead,.dead,.dead,.dead,.dead,.dead,.dead,.dead,.dead,.dead,.dead,.dead,.dead,.dead,.dead,.dead,.dead,.dead,.dead,.dead,.dead,.dead,.dead,.dead,.dead,.dead,.dead,.dead,.dead,.dead,.dead,.dead,.dead,.dead,.dead,.dead,.dead,.dead,.dead,.dead,.dead,.dead,.dead,.dead,.dead,.dead,.dead,.dead,.dead,.dead,.dead,.dead,.dead,.dead,.dead,.dead,.dead,.dead,.dead,.dead,.dead,.dead,.dead,.dead],hp⟩
def r11_T : RCode := .seq (.reg [⟨some 2,none,.bx false true (.t 0)⟩,⟨some 3,none,.bx false true (.t 1)⟩,⟨some 4,none,.mv false (.c (.d (.bool false)))⟩] [] false) (hold r11_K2)
def r11 : RFunc := ⟨81,true,[.t 4],r11_T⟩
@[go_sem] def r4_K0 (_ : Unit) : RCode := .seq (.reg [⟨some 57,none,.ld false (some 6) (.t 2)⟩,⟨some 58,none,.ld false (some 6) (.t 3)⟩,⟨some 59,none,.call false (.f 7) [(.c (.d (.str ⟨#[43]⟩))),(.t 57),(.t 58)]⟩,⟨some 7,none,.zal false [.d (.int .i64 0),.d (.int .i64 0),.d (.int .i64 0),.d (.str ⟨#[]⟩),.nilsl,.nilsl]⟩,⟨none,none,.sto (some 6) (.t 7) (.t 59)⟩] [] false) (.seq (.reg [⟨some 60,none,.fad 0 (.t 7)⟩,⟨some 61,none,.ld false none (.t 60)⟩,⟨some 62,none,.bin .eql (.t 61) (.c (.d (.int .i64 7)))⟩,⟨some 63,none,.mv false (.t 62)⟩,⟨some 64,some (63,true),.call false (.f 6) []⟩,⟨some 65,none,.pick (.t 63) (.t 64) (.c (.d (.bool false)))⟩,⟨some 4,none,.mv false (.t 65)⟩] [60] false) (.ret [.kill,.kill,.kill,.kill,.keep]))
@[go_sem] def r4_K1 (_ : Unit) : RCode := .seq (.block 1 [.kill,.kill,.keep,.keep,.kill,.kill,.kill,.kill,.keep,.kill,.kill,.kill,.kill,.keep,.kill,.kill,.kill,.kill,.kill,.kill,.kill,.kill,.kill,.kill,.kill,.kill,.kill,.kill,.kill,.kill,.kill,.kill,.kill,.kill,.kill,.kill,.kill,.kill,.kill,.kill,.kill,.kill,.kill,.kill,.kill,.kill,.kill,.kill,.kill,.kill,.kill,.kill,.kill,.kill,.kill,.kill,.kill,.kill,.kill,.kill,.kill,.kill,.kill,.kill,.kill,.kill,.kill,.kill,.kill,.kill,.kill,.kill,.kill,.kill,.kill,.kill,.kill,.kill,.kill,.kill,.kill,.kill,.kill,.kill,.kill,.kill,.kill,.kill,.kill,.kill,.kill,.kill,.kill,.kill,.keep,.keep,.keep] (.seq (.reg [⟨some 98,none,.iad none 6 (.t 94) (.t 96)⟩,⟨some 99,none,.ld false (some 6) (.t 98)⟩,⟨some 15,none,.zal false [.d (.int .i64 0),.d (.int .i64 0),.d (.int .i64 0),.d (.str ⟨#[]⟩),.nilsl,.nilsl]⟩,⟨none,none,.sto (some 6) (.t 15) (.t 99)⟩] [98] false) (.seq (.reg [⟨some 100,none,.fad 0 (.t 15)⟩,⟨some 101,none,.ld false none (.t 100)⟩,⟨some 102,none,.bin .eql (.t 101) (.c (.d (.int .i64 2)))⟩] [100] false) (.cond (.t 102) (.reg [⟨some 103,none,.mv false (.t 13)⟩,⟨some 104,none,.bin .add (.t 103) (.c (.d (.int .i64 1)))⟩,⟨some 13,none,.mv false (.t 104)⟩] [] false) (.skip))))) (.reg [⟨some 105,none,.bin .add (.t 96) (.c (.d (.int .i64 1)))⟩,⟨some 96,none,.mv false (.t 105)⟩] [] false)
def r4_C0 : RCode := .seq (.reg [⟨some 97,none,.bin .lss (.t 96) (.t 95)⟩] [] false) (.seq (.cond (.t 97) (.skip) (.exit 0)) (hold r4_K1))
def r4_B0 : RCode := .block 0 [.kill,.kill,.keep,.keep,.kill,.kill,.kill,.kill,.keep,.kill,.kill,.kill,.kill,.keep] (.loop [.kill,.kill,.keep,.keep,.kill,.kill,.kill,.kill,.keep,.kill,.kill,.kill,.kill,.keep,.kill,.kill,.kill,.kill,.kill,.kill,.kill,.kill,.kill,.kill,.kill,.kill,.kill,.kill,.kill,.kill,.kill,.kill,.kill,.kill,.kill,.kill,.kill,.kill,.kill,.kill,.kill,.kill,.kill,.kill,.kill,.kill,.kill,.kill,.kill,.kill,.kill,.kill,.kill,.kill,.kill,.kill,.kill,.kill,.kill,.kill,.kill,.kill,.kill,.kill,.kill,.kill,.kill,.kill,.kill,.kill,.kill,.kill,.kill,.kill,.kill,.kill,.kill,.kill,.kill,.kill,.kill,.kill,.kill,.kill,.kill,.kill,.kill,.kill,.kill,.kill,.kill,.kill,.kill,.kill,.keep,.keep,.keep] r4_C0)
theorem r4_B0_eq {cf : CF} {s : St} : V cf r4_B0 s = loopK cf r4_B0 0 [.kill,.kill,.keep,.keep,.kill,.kill,.kill,.kill,.keep,.kill,.kill,.kill,.kill,.keep] [.kill,.kill,.keep,.keep,.kill,.kill,.kill,.kill,.keep,.kill,.kill,.kill,.kill,.keep,.kill,.kill,.kill,.kill,.kill,.kill,.kill,.kill,.kill,.kill,.kill,.kill,.kill,.kill,.kill,.kill,.kill,.kill,.kill,.kill,.kill,.kill,.kill,.kill,.kill,.kill,.kill,.kill,.kill,.kill,.kill,.kill,.kill,.kill,.kill,.kill,.kill,.kill,.kill,.kill,.kill,.kill,.kill,.kill,.kill,.kill,.kill,.kill,.kill,.kill,.kill,.kill,.kill,.kill,.kill,.kill,.kill,.kill,.kill,.kill,.kill,.kill,.kill,.kill,.kill,.kill,.kill,.kill,.kill,.kill,.kill,.kill,.kill,.kill,.kill,.kill,.kill,.kill,.kill,.kill,.keep,.keep,.keep] (V cf r4_C0 (s.head [.kill,.kill,.keep,.keep,.kill,.kill,.kill,.kill,.keep,.kill,.kill,.kill,.kill,.keep,.kill,.kill,.kill,.kill,.kill,.kill,.kill,.kill,.kill,.kill,.kill,.kill,.kill,.kill,.kill,.kill,.kill,.kill,.kill,.kill,.kill,.kill,.kill,.kill,.kill,.kill,.kill,.kill,.kill,.kill,.kill,.kill,.kill,.kill,.kill,.kill,.kill,.kill,.kill,.kill,.kill,.kill,.kill,.kill,.kill,.kill,.kill,.kill,.kill,.kill,.kill,.kill,.kill,.kill,.kill,.kill,.kill,.kill,.kill,.kill,.kill,.kill,.kill,.kill,.kill,.kill,.kill,.kill,.kill,.kill,.kill,.kill,.kill,.kill,.kill,.kill,.kill,.kill,.kill,.kill,.keep,.keep,.keep])) := V_bloop
abbrev r4_S0 (x2 x3 x8 x13 x94 x95 x96 : PV) (hp : List Ent) : St := ⟨[.dead,.dead,x2,x3,.dead,.dead,.dead,.dead,x8,.dead,.dead,.dead,.dead,x13,.dead,.dead,.dead,.dead,.dead,.dead,.dead,.dead,.dead,.dead,.dead,.dead,.dead,.dead,.dead,.dead,.dead,.dead,.dead,.dead,.dead,.dead,.dead,.dead,.dead,.dead,.dead,.dead,.dead,.dead,.dead,.dead,.dead,.dead,.dead,.dead,.dead,.dead,.dead,.dead,.dead,.dead,.dead,.dead,.dead,.dead,.dead,.dead,.dead,.dead,.dead,.dead,.dead,.dead,.dead,.dead,.dead,.dead,.dead,.dead,.dead,.dead,.dead,.dead,.dead,.dead,.dead,.dead,.dead,.dead,.dead,.dead,.dead,.dead,.dead,.dead,.dead,.dead,.dead,.dead,x94,x95,x96,.dead,.dead,.dead,.dead,.dead,.dead,.dead,.dead,.dead,.dead,.dead,.dead,.dead,.dead,.dead,.dead,.dead,.dead,.dead,.dead,.dead,.dead,.dead,.dead,.dead,.dead,.dead,.dead,.dead,.dead,.dead,.dead,.dead,.dead,.dead],hp⟩
abbrev r4_E0 (x2 x3 x8 x13 : PV) (hp : List Ent) : St := ⟨[.dead,.dead,x2,x3,.dead,.dead,.dead,.dead,x8,.dead,.dead,.dead,.dead,x13,.dead,.dead,.dead,.dead,.dead,.dead,.dead,.dead,.dead,.dead,.dead,.dead,.dead,.dead,.dead,.dead,.dead,.dead,.dead,.dead,.dead,.dead,.dead,.dead,.dead,.dead,.dead,.dead,.dead,.dead,.dead,.dead,.dead,.dead,.dead,.dead,.dead,.dead,.dead,.dead,.dead,.dead,.dead,.dead,.dead,.dead,.dead,.dead,.dead,.dead,.dead,.dead,.dead,.dead,.dead,.dead,.dead,.dead,.dead,.dead,.dead,.dead,.dead,.dead,.dead,.dead,.dead,.dead,.dead,.dead,.dead,.dead,.dead,.dead,.dead,.dead,.dead,.dead,.dead,.dead,.dead,.dead,.dead,.dead,.dead,.dead,.dead,.dead,.dead,.dead,.dead,.dead,.dead,.dead,.dead,.dead,.dead,.dead,.dead,.dead,.dead,.dead,.dead,.dead,.dead,.dead,.dead,.dead,.dead,.dead,.dead,.dead,.dead,.dead,.dead,.dead,.dead,.dead],hp⟩
theorem r4_B0_n {cf : CF} {a0 a1 x2 x3 a4 a5 a6 a7 x8 a9 a10 a11 a12 x13 a14 a15 a16 a17 a18 a19 a20 a21 a22 a23 a24 a25 a26 a27 a28 a29 a30 a31 a32 a33 a34 a35 a36 a37 a38 a39 a40 a41 a42 a43 a44 a45 a46 a47 a48 a49 a50 a51 a52 a53 a54 a55 a56 a57 a58 a59 a60 a61 a62 a63 a64 a65 a66 a67 a68 a69 a70 a71 a72 a73 a74 a75 a76 a77 a78 a79 a80 a81 a82 a83 a84 a85 a86 a87 a88 a89 a90 a91 a92 a93 x94 x95 x96 a97 a98 a99 a100 a101 a102 a103 a104 a105 a106 a107 a108 a109 a110 a111 a112 a113 a114 a115 a116 a117 a118 a119 a120 a121 a122 a123 a124 a125 a126 a127 a128 a129 a130 a131 : PV} {hp : List Ent} : V cf r4_B0 ⟨[a0,a1,x2,x3,a4,a5,a6,a7,x8,a9,a10,a11,a12,x13,a14,a15,a16,a17,a18,a19,a20,a21,a22,a23,a24,a25,a26,a27,a28,a29,a30,a31,a32,a33,a34,a35,a36,a37,a38,a39,a40,a41,a42,a43,a44,a45,a46,a47,a48,a49,a50,a51,a52,a53,a54,a55,a56,a57,a58,a59,a60,a61,a62,a63,a64,a65,a66,a67,a68,a69,a70,a71,a72,a73,a74,a75,a76,a77,a78,a79,a80,a81,a82,a83,a84,a85,a86,a87,a88,a89,a90,a91,a92,a93,x94,x95,x96,a97,a98,a99,a100,a101,a102,a103,a104,a105,a106,a107,a108,a109,a110,a111,a112,a113,a114,a115,a116,a117,a118,a119,a120,a121,a122,a123,a124,a125,a126,a127,a128,a129,a130,a131],hp⟩ = V cf r4_B0 (r4_S0 x2 x3 x8 x13 x94 x95 x96 hp) := by rw [r4_B0_eq,r4_B0_eq]; rfl
@[go_sem] def r4_K2 (_ : Unit) : RCode := .seq (.reg [⟨some 113,none,.ld false (some 6) (.t 2)⟩,⟨some 114,none,.ld false (some 6) (.t 3)⟩,⟨some 115,none,.call false (.f 7) [(.c (.d (.str ⟨#[97,110,100]⟩))),(.t 113),(.t 114)]⟩,⟨some 116,none,.ld false (some 6) (.t 3)⟩,⟨some 117,none,.ld false (some 6) (.t 2)⟩,⟨some 118,none,.call false (.f 7) [(.c (.d (.str ⟨#[97,110,100]⟩))),(.t 116),(.t 117)]⟩,⟨some 119,none,.call false (.f 11) [(.t 115),(.t 118)]⟩,⟨some 120,none,.mv false (.t 119)⟩,⟨some 121,some (120,true),.ld false (some 6) (.t 2)⟩,⟨some 122,some (120,true),.ld false (some 6) (.t 3)⟩,⟨some 123,some (120,true),.call false (.f 7) [(.c (.d (.str ⟨#[111,114]⟩))),(.t 121),(.t 122)]⟩,⟨some 124,some (120,true),.ld false (some 6) (.t 3)⟩,⟨some 125,some (120,true),.ld false (some 6) (.t 2)⟩,⟨some 126,some (120,true),.call false (.f 7) [(.c (.d (.str ⟨#[111,114]⟩))),(.t 124),(.t 125)]⟩,⟨some 127,some (120,true),.call false (.f 11) [(.t 123),(.t 126)]⟩,⟨some 128,none,.pick (.t 120) (.t 127) (.c (.d (.bool false)))⟩,⟨some 129,none,.mv false (.t 128)⟩,⟨some 130,some (129,true),.call false (.f 6) []⟩,⟨some 131,none,.pick (.t 129) (.t 130) (.c (.d (.bool false)))⟩,⟨some 4,none,.mv false (.t 131)⟩] [] true) (.ret [.kill,.kill,.kill,.kill,.keep])
@[go_sem] def r4_K3 (_ : Unit) : RCode := .seq (.seq (.reg [⟨some 106,none,.mv false (.t 13)⟩,⟨some 107,none,.bin .neq (.t 106) (.c (.d (.int .i64 1)))⟩,⟨some 108,none,.mv false (.t 107)⟩,⟨some 109,some (108,true),.fad 0 (.t 8)⟩,⟨some 110,some (108,true),.ld false none (.t 109)⟩,⟨some 111,some (108,true),.bin .neq (.t 110) (.c (.d (.int .i64 7)))⟩,⟨some 112,none,.pick (.t 108) (.t 111) (.c (.d (.bool false)))⟩] [109] false) (.cond (.t 112) (.seq (.reg [⟨some 4,none,.mv false (.c (.d (.bool false)))⟩] [] false) (.ret [.kill,.kill,.kill,.kill,.keep])) (.skip))) (hold r4_K2)
@[go_sem] def r4_K4 (_ : Unit) : RCode := .seq (.seq (.reg [⟨some 81,none,.ld false (some 6) (.t 8)⟩,⟨some 82,none,.ld false (some 6) (.t 9)⟩,⟨some 83,none,.call false (.f 11) [(.t 81),(.t 82)]⟩,⟨some 84,none,.un .not (.t 83)⟩,⟨some 85,none,.mv false (.t 84)⟩,⟨some 86,some (85,false),.ld false (some 6) (.t 10)⟩,⟨some 87,some (85,false),.ld false (some 6) (.t 11)⟩,⟨some 88,some (85,false),.call false (.f 11) [(.t 86),(.t 87)]⟩,⟨some 89,some (85,false),.un .not (.t 88)⟩,⟨some 90,none,.pick (.t 85) (.c (.d (.bool true))) (.t 89)⟩] [] false) (.cond (.t 90) (.seq (.reg [⟨some 4,none,.mv false (.c (.d (.bool false)))⟩] [] false) (.ret [.kill,.kill,.kill,.kill,.keep])) (.skip))) (.seq (.reg [⟨some 13,none,.mv false (.c (.d (.int .i64 0)))⟩] [] false) (.seq (.seq (.reg [⟨some 91,none,.ld false (some 6) (.t 8)⟩,⟨some 92,none,.ld false (some 6) (.t 10)⟩,⟨some 93,none,.ld false (some 6) (.t 12)⟩,⟨some 94,none,.bsl 27 6 [(.t 91),(.t 92),(.t 93)]⟩,⟨some 95,none,.len false (.t 94)⟩,⟨some 96,none,.mv false (.c (.d (.int .i64 0)))⟩] [] false) (r4_B0)) (hold r4_K3)))
@[go_sem] def r4_K5 (_ : Unit) : RCode := .seq (.reg [⟨some 72,none,.ld false (some 6) (.t 2)⟩,⟨some 73,none,.ld false (some 6) (.t 3)⟩,⟨some 74,none,.call false (.f 7) [(.c (.d (.str ⟨#[61,61]⟩))),(.t 72),(.t 73)]⟩,⟨some 75,none,.ld false (some 6) (.t 3)⟩,⟨some 76,none,.ld false (some 6) (.t 2)⟩,⟨some 77,none,.call false (.f 7) [(.c (.d (.str ⟨#[61,61]⟩))),(.t 75),(.t 76)]⟩,⟨some 10,none,.zal false [.d (.int .i64 0),.d (.int .i64 0),.d (.int .i64 0),.d (.str ⟨#[]⟩),.nilsl,.nilsl]⟩,⟨some 11,none,.zal false [.d (.int .i64 0),.d (.int .i64 0),.d (.int .i64 0),.d (.str ⟨#[]⟩),.nilsl,.nilsl]⟩,⟨none,none,.sto (some 6) (.t 10) (.t 74)⟩,⟨none,none,.sto (some 6) (.t 11) (.t 77)⟩] [] true) (.seq (.reg [⟨some 78,none,.ld false (some 6) (.t 2)⟩,⟨some 79,none,.ld false (some 6) (.t 3)⟩,⟨some 80,none,.call false (.f 7) [(.c (.d (.str ⟨#[62]⟩))),(.t 78),(.t 79)]⟩,⟨some 12,none,.zal false [.d (.int .i64 0),.d (.int .i64 0),.d (.int .i64 0),.d (.str ⟨#[]⟩),.nilsl,.nilsl]⟩,⟨none,none,.sto (some 6) (.t 12) (.t 80)⟩] [] false) (hold r4_K4))
@[go_sem] def r4_K6 (_ : Unit) : RCode := .seq (.reg [⟨some 66,none,.ld false (some 6) (.t 2)⟩,⟨some 67,none,.ld false (some 6) (.t 3)⟩,⟨some 68,none,.call false (.f 7) [(.c (.d (.str ⟨#[60]⟩))),(.t 66),(.t 67)]⟩,⟨some 69,none,.ld false (some 6) (.t 3)⟩,⟨some 70,none,.ld false (some 6) (.t 2)⟩,⟨some 71,none,.call false (.f 7) [(.c (.d (.str ⟨#[62]⟩))),(.t 69),(.t 70)]⟩,⟨some 8,none,.zal false [.d (.int .i64 0),.d (.int .i64 0),.d (.int .i64 0),.d (.str ⟨#[]⟩),.nilsl,.nilsl]⟩,⟨some 9,none,.zal false [.d (.int .i64 0),.d (.int .i64 0),.d (.int .i64 0),.d (.str ⟨#[]⟩),.nilsl,.nilsl]⟩,⟨none,none,.sto (some 6) (.t 8) (.t 68)⟩,⟨none,none,.sto (some 6) (.t 9) (.t 71)⟩] [] true) (hold r4_K5)
@[go_sem] def r4_K7 (_ : Unit) : RCode := .seq (.seq (.reg [⟨some 39,none,.ld false (some 6) (.t 6)⟩,⟨some 40,none,.ld false (some 6) (.t 2)⟩,⟨some 41,none,.call false (.f 11) [(.t 39),(.t 40)]⟩,⟨some 42,none,.un .not (.t 41)⟩,⟨some 43,none,.mv false (.t 42)⟩,⟨some 44,some (43,true),.ld false (some 6) (.t 6)⟩,⟨some 45,some (43,true),.ld false (some 6) (.t 3)⟩,⟨some 46,some (43,true),.call false (.f 11) [(.t 44),(.t 45)]⟩,⟨some 47,some (43,true),.un .not (.t 46)⟩,⟨some 48,none,.pick (.t 43) (.t 47) (.c (.d (.bool false)))⟩] [] false) (.cond (.t 48) (.seq (.reg [⟨some 4,none,.mv false (.c (.d (.bool false)))⟩] [] false) (.ret [.kill,.kill,.kill,.kill,.keep])) (.skip))) (.seq (.seq (.reg [⟨some 49,none,.fad 0 (.t 2)⟩,⟨some 50,none,.ld false none (.t 49)⟩,⟨some 51,none,.bin .eql (.t 50) (.c (.d (.int .i64 7)))⟩,⟨some 52,none,.mv false (.t 51)⟩,⟨some 53,some (52,false),.fad 0 (.t 3)⟩,⟨some 54,some (52,false),.ld false none (.t 53)⟩,⟨some 55,some (52,false),.bin .eql (.t 54) (.c (.d (.int .i64 7)))⟩,⟨some 56,none,.pick (.t 52) (.c (.d (.bool true))) (.t 55)⟩] [49,53] false) (.cond (.t 56) (hold r4_K0) (.skip))) (hold r4_K6))
@[go_sem] def r4_K8 (_ : Unit) : RCode := .seq (.seq (.reg [⟨some 22,none,.ld false (some 6) (.t 5)⟩,⟨some 23,none,.ld false (some 6) (.t 2)⟩,⟨some 24,none,.call false (.f 7) [(.c (.d (.str ⟨#[43]⟩))),(.t 22),(.t 23)]⟩,⟨some 25,none,.ld false (some 6) (.t 2)⟩,⟨some 26,none,.call false (.f 11) [(.t 24),(.t 25)]⟩,⟨some 27,none,.un .not (.t 26)⟩,⟨some 28,none,.mv false (.t 27)⟩,⟨some 29,some (28,false),.ld false (some 6) (.t 2)⟩,⟨some 30,some (28,false),.ld false (some 6) (.t 5)⟩,⟨some 31,some (28,false),.call false (.f 7) [(.c (.d (.str ⟨#[43]⟩))),(.t 29),(.t 30)]⟩,⟨some 32,some (28,false),.ld false (some 6) (.t 2)⟩,⟨some 33,some (28,false),.call false (.f 11) [(.t 31),(.t 32)]⟩,⟨some 34,some (28,false),.un .not (.t 33)⟩,⟨some 35,none,.pick (.t 28) (.c (.d (.bool true))) (.t 34)⟩] [] true) (.cond (.t 35) (.seq (.reg [⟨some 4,none,.mv false (.c (.d (.bool false)))⟩] [] false) (.ret [.kill,.kill,.kill,.kill,.keep])) (.skip))) (.seq (.reg [⟨some 36,none,.ld false (some 6) (.t 2)⟩,⟨some 37,none,.ld false (some 6) (.t 3)⟩,⟨some 38,none,.call false (.f 7) [(.c (.d (.str ⟨#[47,47]⟩))),(.t 36),(.t 37)]⟩,⟨some 6,none,.zal false [.d (.int .i64 0),.d (.int .i64 0),.d (.int .i64 0),.d (.str ⟨#[]⟩),.nilsl,.nilsl]⟩,⟨none,none,.sto (some 6) (.t 6) (.t 38)⟩] [] false) (hold r4_K7))
@[go_sem] def r4_K9 (_ : Unit) : RCode := .seq (.seq (.reg [⟨some 16,none,.ld false (some 6) (.t 2)⟩,⟨some 17,none,.ld false (some 6) (.t 3)⟩,⟨some 18,none,.call false (.f 5) [(.t 16),(.t 17)]⟩,⟨some 19,none,.un .not (.t 18)⟩] [] false) (.cond (.t 19) (.seq (.reg [⟨some 20,none,.call false (.f 6) []⟩,⟨some 4,none,.mv false (.t 20)⟩] [] false) (.ret [.kill,.kill,.kill,.kill,.keep])) (.skip))) (.seq (.reg [⟨some 21,none,.bld [.int .i64 0,.int .i64 0,.int .i64 0,.str ⟨#[]⟩,.sl [],.sl []] []⟩,⟨some 5,none,.zal false [.d (.int .i64 0),.d (.int .i64 0),.d (.int .i64 0),.d (.str ⟨#[]⟩),.nilsl,.nilsl]⟩,⟨none,none,.sto (some 6) (.t 5) (.t 21)⟩] [] false) (hold r4_K8))
abbrev r4_R (x4 : PV) (hp : List Ent) : St := ⟨[.dead,.dead,.dead,.dead,x4,.dead,.dead,.dead,.dead,.dead,.dead,.dead,.dead,.dead,.dead,.dead,.dead,.dead,.dead,.dead,.dead,.dead,.dead,.dead,.dead,.dead,.dead,.dead,.dead,.dead,.dead,.dead,.dead,.dead,.dead,.dead,.dead,.dead,.dead,.dead,.dead,.dead,.dead,.dead,.dead,.dead,.dead,.dead,.dead,.dead,.dead,.dead,.dead,.dead,.dead,.dead,.dead,.dead,.dead,.dead,.dead,.dead,.dead,.dead,.dead,.dead,.dead,.dead,.dead,.dead,.dead,.dead,.dead,.dead,.dead,.dead,.dead,.dead,.dead,.dead,.dead,.dead,.dead,.dead,.dead,.dead,.dead,.dead,.dead,.dead,.dead,.dead,.dead,.dead,.dead,.dead,.dead,.dead,.dead,.dead,.dead,.dead,.dead,.dead,.dead,.dead,.dead,.dead,.dead,.dead,.dead,.dead,.dead,.dead,.dead,.dead,.dead,.dead,.dead,.dead,.dead,.dead,.dead,.dead,.dead,.dead,.dead,.dead,.dead,.dead,.dead,.dead],hp⟩
def r4_T : RCode := .seq (.reg [⟨some 2,none,.bx false true (.t 0)⟩,⟨some 3,none,.bx false true (.t 1)⟩,⟨some 4,none,.mv false (.c (.d (.bool false)))⟩] [] false) (hold r4_K9)
def r4 : RFunc := ⟨132,true,[.t 4],r4_T⟩
def tl : Tabl := [(28,r28),(47,r47),(29,r29),(30,r30),(17,r17),(10,r10),(18,r18),(19,r19),(12,r12),(5,r5),(15,r15),(20,r20),(27,r27),(83,r83),(66,r66),(67,r67),(73,r73),(49,r49),(74,r74),(50,r50),(84,r84),(68,r68),(69,r69),(85,r85),(70,r70),(71,r71),(72,r72),(48,r48),(31,r31),(32,r32),(21,r21),(33,r33),(34,r34),(59,r59),(51,r51),(35,r35),(52,r52),(36,r36),(38,r38),(22,r22),(40,r40),(55,r55),(41,r41),(23,r23),(56,r56),(57,r57),(97,r97),(88,r88),(79,r79),(58,r58),(42,r42),(60,r60),(61,r61),(43,r43),(24,r24),(62,r62),(63,r63),(64,r64),(44,r44),(25,r25),(46,r46),(26,r26),(16,r16),(7,r7),(13,r13),(14,r14),(6,r6),(11,r11),(4,r4)]
def pl : List (Nat × (List PV → Option PV)) := [(80,rptP)]
def pf : Nat → Bool := pfOf tl [80]
def ml : List (Nat × (List PV → Option (List D))) := []
def tab : Nat → Option FnD := tabOf tl pl ml
theorem pf_ok0 : PfOk pf tab := tabOf_pf tl pl ml _ rfl
theorem pf_ok : PfOk pf tab := pf_ok0
theorem pl_ok : ∀ p ∈ pl,PrimSound Go.Proofs.Tryz.prog p.1 p.2 := by
  intro p hp
  simp only [pl,List.mem_cons,List.not_mem_nil,or_false] at hp
  rcases hp with rfl
  · exact rpt_prim (by kernel_rfl) fun s c w h1 h2 => Go.Proofs.Any.strings_Repeat Go.Proofs.Tryz.lays105 Go.Proofs.Tryz.Builder_Extra_105 s c w h1 h2
theorem ml_ok : ∀ p ∈ ml,MkSound Go.Proofs.Tryz.prog p.1 p.2 := by
  intro p hp
  simp only [ml,List.mem_cons,List.not_mem_nil,or_false] at hp

theorem f80 {s : ByteArray} {c : Int} {hp : List Ent} (h : 0 ≤ c ∧ c ≤ 9223372036854775807 ∧ s.size * c.toNat ≤ 140737488355328) : F tab 80 [.d (.str s),.d (.int .i64 c)] hp = some (.ret (.d (.str ⟨(Lib.repeatL s.data.toList c.toNat).toArray⟩)) hp) := F_prim (p := rptP) rfl (by simp only [rptP,h,and_self,if_true]) rfl
theorem all_ok : tabAll Go.Proofs.Tryz.prog pf tl = true := by kernel_rfl
theorem tab_ok : TabOk Go.Proofs.Tryz.prog pf tab := tabOf_ok all_ok pl_ok ml_ok
theorem t28 : tab 28 = some (.code r28) := rfl
theorem f28 {a0 : PV} {hp : List Ent} {out : Out} (hh : PV.hfrees [a0] = true) (h : fnEnd r28 hp (V (F tab) r28_T ⟨[a0,.dead,.dead,.dead,.dead,.dead,.dead,.dead,.dead,.dead,.dead,.dead,.dead,.dead,.dead,.dead,.dead,.dead,.dead,.dead,.dead,.dead,.dead,.dead,.dead,.dead,.dead,.dead,.dead,.dead,.dead,.dead,.dead,.dead,.dead,.dead,.dead,.dead,.dead,.dead,.dead,.dead,.dead,.dead,.dead,.dead,.dead,.dead,.dead,.dead,.dead,.dead,.dead,.dead,.dead,.dead,.dead,.dead],[]⟩) = some out) : F tab 28 [a0] hp = some out := F_code t28 (by rw [hh]; rfl) h
theorem t47 : tab 47 = some (.code r47) := rfl
theorem f47 {a0 : PV} {hp : List Ent} {out : Out} (hh : PV.hfrees [a0] = true) (h : fnEnd r47 hp (V (F tab) r47_T ⟨[a0,.dead,.dead,.dead,.dead,.dead,.dead,.dead,.dead,.dead,.dead,.dead,.dead,.dead,.dead,.dead,.dead,.dead,.dead,.dead,.dead,.dead,.dead,.dead,.dead,.dead,.dead,.dead,.dead,.dead,.dead,.dead,.dead,.dead,.dead,.dead,.dead,.dead,.dead,.dead,.dead,.dead,.dead,.dead,.dead,.dead,.dead,.dead,.dead,.dead,.dead,.dead,.dead,.dead],[]⟩) = some out) : F tab 47 [a0] hp = some out := F_code t47 (by rw [hh]; rfl) h
theorem t29 : tab 29 = some (.code r29) := rfl
theorem f29 {a0 : PV} {hp : List Ent} {out : Out} (hh : PV.hfrees [a0] = true) (h : fnEnd r29 hp (V (F tab) r29_T ⟨[a0,.dead,.dead,.dead,.dead,.dead,.dead,.dead,.dead,.dead,.dead,.dead,.dead,.dead,.dead,.dead,.dead,.dead,.dead,.dead,.dead,.dead,.dead,.dead,.dead,.dead,.dead,.dead,.dead,.dead,.dead,.dead,.dead,.dead,.dead,.dead,.dead,.dead,.dead,.dead,.dead,.dead,.dead,.dead,.dead,.dead,.dead,.dead,.dead,.dead,.dead,.dead,.dead,.dead,.dead,.dead,.dead,.dead,.dead,.dead,.dead,.dead,.dead,.dead,.dead,.dead,.dead,.dead,.dead,.dead,.dead,.dead,.dead,.dead,.dead,.dead,.dead,.dead,.dead,.dead,.dead,.dead,.dead,.dead,.dead,.dead,.dead,.dead,.dead,.dead,.dead,.dead,.dead,.dead,.dead,.dead,.dead,.dead,.dead,.dead,.dead,.dead,.dead,.dead,.dead,.dead],[]⟩) = some out) : F tab 29 [a0] hp = some out := F_code t29 (by rw [hh]; rfl) h
theorem t30 : tab 30 = some (.code r30) := rfl
theorem f30 {a0 : PV} {hp : List Ent} {out : Out} (hh : PV.hfrees [a0] = true) (h : fnEnd r30 hp (V (F tab) r30_T ⟨[a0,.dead,.dead,.dead,.dead,.dead,.dead,.dead,.dead,.dead,.dead,.dead,.dead,.dead,.dead,.dead,.dead,.dead,.dead,.dead,.dead,.dead,.dead,.dead,.dead,.dead,.dead,.dead,.dead,.dead],[]⟩) = some out) : F tab 30 [a0] hp = some out := F_code t30 (by rw [hh]; rfl) h
theorem t17 : tab 17 = some (.code r17) := rfl
theorem f17 {a0 a1 : PV} {hp : List Ent} {out : Out} (hh : PV.hfrees [a0,a1] = true) (h : fnEnd r17 hp (V (F tab) r17_T ⟨[a0,a1,.dead,.dead,.dead,.dead,.dead,.dead,.dead,.dead,.dead,.dead,.dead,.dead,.dead,.dead,.dead,.dead,.dead,.dead,.dead,.dead,.dead,.dead,.dead,.dead,.dead,.dead,.dead,.dead,.dead,.dead,.dead,.dead,.dead,.dead,.dead,.dead,.dead,.dead,.dead,.dead,.dead,.dead,.dead,.dead,.dead,.dead,.dead,.dead,.dead,.dead,.dead,.dead,.dead,.dead,.dead,.dead,.dead,.dead,.dead,.dead,.dead,.dead,.dead,.dead,.dead,.dead,.dead,.dead,.dead,.dead,.dead,.dead,.dead,.dead,.dead,.dead,.dead,.dead,.dead,.dead,.dead,.dead,.dead,.dead,.dead,.dead,.dead,.dead,.dead,.dead,.dead,.dead,.dead,.dead,.dead,.dead,.dead,.dead,.dead,.dead,.dead,.dead,.dead,.dead,.dead,.dead,.dead,.dead,.dead,.dead,.dead,.dead,.dead,.dead,.dead,.dead,.dead,.dead,.dead,.dead],[]⟩) = some out) : F tab 17 [a0,a1] hp = some out := F_code t17 (by rw [hh]; rfl) h
theorem t10 : tab 10 = some (.code r10) := rfl
theorem f10 {a0 : PV} {hp : List Ent} {out : Out} (hh : PV.hfrees [a0] = true) (h : fnEnd r10 hp (V (F tab) r10_T ⟨[a0,.dead,.dead,.dead,.dead,.dead,.dead,.dead,.dead,.dead,.dead,.dead,.dead,.dead,.dead,.dead,.dead,.dead,.dead,.dead,.dead,.dead,.dead,.dead,.dead,.dead,.dead,.dead,.dead,.dead,.dead,.dead,.dead,.dead,.dead,.dead,.dead,.dead,.dead,.dead,.dead,.dead,.dead,.dead,.dead,.dead,.dead,.dead,.dead,.dead,.dead,.dead,.dead,.dead,.dead,.dead,.dead,.dead,.dead,.dead,.dead,.dead,.dead,.dead,.dead,.dead],[]⟩) = some out) : F tab 10 [a0] hp = some out := F_code t10 (by rw [hh]; rfl) h
theorem t18 : tab 18 = some (.code r18) := rfl
theorem f18 {a0 a1 a2 : PV} {hp : List Ent} {out : Out} (hh : PV.hfrees [a0,a1,a2] = true) (h : fnEnd r18 hp (V (F tab) r18_T ⟨[a0,a1,a2,.dead,.dead,.dead,.dead,.dead,.dead,.dead,.dead,.dead,.dead,.dead,.dead,.dead,.dead,.dead,.dead,.dead,.dead,.dead,.dead,.dead,.dead,.dead,.dead,.dead,.dead,.dead],[]⟩) = some out) : F tab 18 [a0,a1,a2] hp = some out := F_code t18 (by rw [hh]; rfl) h
theorem t19 : tab 19 = some (.code r19) := rfl
theorem f19 {a0 a1 : PV} {hp : List Ent} {out : Out} (hh : PV.hfrees [a0,a1] = true) (h : fnEnd r19 hp (V (F tab) r19_T ⟨[a0,a1,.dead,.dead,.dead,.dead,.dead,.dead,.dead,.dead,.dead,.dead,.dead,.dead,.dead,.dead,.dead,.dead,.dead,.dead,.dead,.dead,.dead,.dead],[]⟩) = some out) : F tab 19 [a0,a1] hp = some out := F_code t19 (by rw [hh]; rfl) h
theorem t12 : tab 12 = some (.code r12) := rfl
theorem f12 {a0 a1 : PV} {hp : List Ent} {out : Out} (hh : PV.hfrees [a0,a1] = true) (h : fnEnd r12 hp (V (F tab) r12_T ⟨[a0,a1,.dead,.dead,.dead,.dead,.dead,.dead,.dead,.dead,.dead,.dead,.dead,.dead,.dead],[]⟩) = some out) : F tab 12 [a0,a1] hp = some out := F_code t12 (by rw [hh]; rfl) h
theorem t5 : tab 5 = some (.code r5) := rfl
theorem f5 {a0 a1 : PV} {hp : List Ent} {out : Out} (hh : PV.hfrees [a0,a1] = true) (h : fnEnd r5 hp (V (F tab) r5_T ⟨[a0,a1,.dead,.dead,.dead,.dead,.dead,.dead,.dead,.dead,.dead,.dead,.dead,.dead,.dead,.dead,.dead,.dead,.dead],[]⟩) = some out) : F tab 5 [a0,a1] hp = some out := F_code t5 (by rw [hh]; rfl) h
theorem t15 : tab 15 = some (.code r15) := rfl
theorem f15 {a0 : PV} {hp : List Ent} {out : Out} (hh : PV.hfrees [a0] = true) (h : fnEnd r15 hp (V (F tab) r15_T ⟨[a0,.dead,.dead,.dead,.dead,.dead,.dead,.dead,.dead,.dead,.dead],[]⟩) = some out) : F tab 15 [a0] hp = some out := F_code t15 (by rw [hh]; rfl) h
theorem t20 : tab 20 = some (.code r20) := rfl
theorem f20 {a0 : PV} {hp : List Ent} {out : Out} (hh : PV.hfrees [a0] = true) (h : fnEnd r20 hp (V (F tab) r20_T ⟨[a0,.dead,.dead,.dead,.dead,.dead],[]⟩) = some out) : F tab 20 [a0] hp = some out := F_code t20 (by rw [hh]; rfl) h
theorem t27 : tab 27 = some (.code r27) := rfl
theorem f27 {a0 : PV} {hp : List Ent} {out : Out} (hh : PV.hfrees [a0] = true) (h : fnEnd r27 hp (V (F tab) r27_T ⟨[a0,.dead,.dead,.dead,.dead],[]⟩) = some out) : F tab 27 [a0] hp = some out := F_code t27 (by rw [hh]; rfl) h
theorem t83 : tab 83 = some (.code r83) := rfl
theorem f83 {a0 : PV} {hp : List Ent} {out : Out} (hh : PV.hfrees [a0] = true) (h : fnEnd r83 hp (V (F tab) r83_T ⟨[a0,.dead,.dead,.dead,.dead,.dead],[]⟩) = some out) : F tab 83 [a0] hp = some out := F_code t83 (by rw [hh]; rfl) h
theorem t66 : tab 66 = some (.code r66) := rfl
theorem f66 {a0 a1 : PV} {hp : List Ent} {out : Out} (hh : PV.hfrees [a0,a1] = true) (h : fnEnd r66 hp (V (F tab) r66_T ⟨[a0,a1,.dead,.dead,.dead,.dead,.dead,.dead,.dead,.dead,.dead,.dead,.dead,.dead,.dead,.dead,.dead,.dead,.dead,.dead],[]⟩) = some out) : F tab 66 [a0,a1] hp = some out := F_code t66 (by rw [hh]; rfl) h
theorem t67 : tab 67 = some (.code r67) := rfl
theorem f67 {a0 : PV} {hp : List Ent} {out : Out} (hh : PV.hfrees [a0] = true) (h : fnEnd r67 hp (V (F tab) r67_T ⟨[a0,.dead,.dead,.dead,.dead,.dead,.dead,.dead,.dead,.dead],[]⟩) = some out) : F tab 67 [a0] hp = some out := F_code t67 (by rw [hh]; rfl) h
theorem t73 : tab 73 = some (.code r73) := rfl
theorem f73 {a0 : PV} {hp : List Ent} {out : Out} (hh : PV.hfrees [a0] = true) (h : fnEnd r73 hp (V (F tab) r73_T ⟨[a0,.dead,.dead,.dead,.dead,.dead,.dead,.dead,.dead,.dead,.dead,.dead,.dead,.dead,.dead,.dead,.dead,.dead,.dead,.dead,.dead,.dead,.dead,.dead,.dead,.dead,.dead,.dead,.dead,.dead],[]⟩) = some out) : F tab 73 [a0] hp = some out := F_code t73 (by rw [hh]; rfl) h
theorem t49 : tab 49 = some (.code r49) := rfl
theorem f49 {a0 a1 : PV} {hp : List Ent} {out : Out} (hh : PV.hfrees [a0,a1] = true) (h : fnEnd r49 hp (V (F tab) r49_T ⟨[a0,a1,.dead,.dead,.dead,.dead,.dead,.dead,.dead,.dead,.dead],[]⟩) = some out) : F tab 49 [a0,a1] hp = some out := F_code t49 (by rw [hh]; rfl) h
theorem t74 : tab 74 = some (.code r74) := rfl
theorem f74 {a0 : PV} {hp : List Ent} {out : Out} (hh : PV.hfrees [a0] = true) (h : fnEnd r74 hp (V (F tab) r74_T ⟨[a0,.dead,.dead,.dead,.dead,.dead,.dead,.dead,.dead,.dead,.dead],[]⟩) = some out) : F tab 74 [a0] hp = some out := F_code t74 (by rw [hh]; rfl) h
theorem t50 : tab 50 = some (.code r50) := rfl
theorem f50 {a0 : PV} {hp : List Ent} {out : Out} (hh : PV.hfrees [a0] = true) (h : fnEnd r50 hp (V (F tab) r50_T ⟨[a0,.dead,.dead,.dead,.dead,.dead,.dead,.dead,.dead,.dead,.dead,.dead,.dead,.dead,.dead,.dead,.dead,.dead,.dead,.dead,.dead],[]⟩) = some out) : F tab 50 [a0] hp = some out := F_code t50 (by rw [hh]; rfl) h
theorem t84 : tab 84 = some (.code r84) := rfl
theorem f84 {a0 a1 : PV} {hp : List Ent} {out : Out} (hh : PV.hfrees [a0,a1] = true) (h : fnEnd r84 hp (V (F tab) r84_T ⟨[a0,a1,.dead,.dead,.dead,.dead,.dead,.dead,.dead,.dead,.dead,.dead,.dead],[]⟩) = some out) : F tab 84 [a0,a1] hp = some out := F_code t84 (by rw [hh]; rfl) h
theorem t68 : tab 68 = some (.code r68) := rfl
theorem f68 {a0 a1 : PV} {hp : List Ent} {out : Out} (hh : PV.hfrees [a0,a1] = true) (h : fnEnd r68 hp (V (F tab) r68_T ⟨[a0,a1,.dead,.dead,.dead,.dead,.dead,.dead,.dead,.dead,.dead,.dead,.dead,.dead,.dead,.dead,.dead,.dead,.dead,.dead,.dead,.dead,.dead,.dead,.dead,.dead,.dead,.dead,.dead,.dead,.dead,.dead],[]⟩) = some out) : F tab 68 [a0,a1] hp = some out := F_code t68 (by rw [hh]; rfl) h
theorem t69 : tab 69 = some (.code r69) := rfl
theorem f69 {a0 : PV} {hp : List Ent} {out : Out} (hh : PV.hfrees [a0] = true) (h : fnEnd r69 hp (V (F tab) r69_T ⟨[a0,.dead,.dead,.dead,.dead,.dead,.dead,.dead],[]⟩) = some out) : F tab 69 [a0] hp = some out := F_code t69 (by rw [hh]; rfl) h
theorem t85 : tab 85 = some (.code r85) := rfl
theorem f85 {a0 : PV} {hp : List Ent} {out : Out} (hh : PV.hfrees [a0] = true) (h : fnEnd r85 hp (V (F tab) r85_T ⟨[a0,.dead,.dead,.dead,.dead,.dead],[]⟩) = some out) : F tab 85 [a0] hp = some out := F_code t85 (by rw [hh]; rfl) h
theorem t70 : tab 70 = some (.code r70) := rfl
theorem f70 {a0 a1 : PV} {hp : List Ent} {out : Out} (hh : PV.hfrees [a0,a1] = true) (h : fnEnd r70 hp (V (F tab) r70_T ⟨[a0,a1,.dead,.dead,.dead,.dead,.dead,.dead,.dead,.dead,.dead,.dead,.dead,.dead,.dead,.dead,.dead,.dead,.dead,.dead],[]⟩) = some out) : F tab 70 [a0,a1] hp = some out := F_code t70 (by rw [hh]; rfl) h
theorem t71 : tab 71 = some (.code r71) := rfl
theorem f71 {a0 a1 a2 : PV} {hp : List Ent} {out : Out} (h : fnEnd r71 hp (V (F tab) r71_T ⟨[a0,a1,a2,.dead,.dead,.dead,.dead,.dead,.dead,.dead,.dead,.dead,.dead,.dead,.dead,.dead,.dead,.dead,.dead,.dead,.dead,.dead,.dead,.dead,.dead,.dead,.dead,.dead,.dead,.dead,.dead,.dead,.dead,.dead,.dead,.dead,.dead,.dead,.dead,.dead,.dead,.dead,.dead],hp⟩) = some out) : F tab 71 [a0,a1,a2] hp = some out := F_code t71 rfl h
theorem t72 : tab 72 = some (.code r72) := rfl
theorem f72 {a0 a1 : PV} {hp : List Ent} {out : Out} (hh : PV.hfrees [a0,a1] = true) (h : fnEnd r72 hp (V (F tab) r72_T ⟨[a0,a1,.dead,.dead,.dead,.dead,.dead,.dead,.dead,.dead,.dead,.dead,.dead,.dead,.dead,.dead,.dead,.dead,.dead,.dead,.dead,.dead,.dead,.dead,.dead,.dead,.dead,.dead,.dead,.dead,.dead,.dead,.dead,.dead,.dead,.dead],[]⟩) = some out) : F tab 72 [a0,a1] hp = some out := F_code t72 (by rw [hh]; rfl) h
theorem t48 : tab 48 = some (.code r48) := rfl
theorem f48 {a0 a1 a2 : PV} {hp : List Ent} {out : Out} (h : fnEnd r48 hp (V (F tab) r48_T ⟨[a0,a1,a2,.dead,.dead,.dead,.dead,.dead,.dead,.dead,.dead,.dead,.dead,.dead,.dead,.dead,.dead,.dead,.dead,.dead,.dead,.dead,.dead,.dead,.dead,.dead,.dead,.dead,.dead,.dead,.dead,.dead,.dead,.dead,.dead,.dead,.dead,.dead,.dead,.dead,.dead,.dead,.dead,.dead,.dead,.dead,.dead,.dead,.dead,.dead,.dead,.dead,.dead,.dead,.dead,.dead,.dead,.dead,.dead,.dead,.dead,.dead,.dead,.dead,.dead,.dead,.dead,.dead,.dead,.dead,.dead,.dead,.dead,.dead],hp⟩) = some out) : F tab 48 [a0,a1,a2] hp = some out := F_code t48 rfl h
theorem t31 : tab 31 = some (.code r31) := rfl
theorem f31 {a0 a1 : PV} {hp : List Ent} {out : Out} (hh : PV.hfrees [a0,a1] = true) (h : fnEnd r31 hp (V (F tab) r31_T ⟨[a0,a1,.dead,.dead,.dead,.dead,.dead,.dead,.dead,.dead,.dead,.dead,.dead,.dead,.dead,.dead,.dead,.dead,.dead,.dead],[]⟩) = some out) : F tab 31 [a0,a1] hp = some out := F_code t31 (by rw [hh]; rfl) h
theorem t32 : tab 32 = some (.code r32) := rfl
theorem f32 {a0 a1 : PV} {hp : List Ent} {out : Out} (hh : PV.hfrees [a0,a1] = true) (h : fnEnd r32 hp (V (F tab) r32_T ⟨[a0,a1,.dead,.dead,.dead,.dead,.dead,.dead,.dead,.dead,.dead,.dead,.dead,.dead,.dead,.dead,.dead,.dead,.dead,.dead,.dead,.dead,.dead,.dead,.dead,.dead,.dead,.dead],[]⟩) = some out) : F tab 32 [a0,a1] hp = some out := F_code t32 (by rw [hh]; rfl) h
theorem t21 : tab 21 = some (.code r21) := rfl
theorem f21 {a0 a1 a2 : PV} {hp : List Ent} {out : Out} (hh : PV.hfrees [a0,a1,a2] = true) (h : fnEnd r21 hp (V (F tab) r21_T ⟨[a0,a1,a2,.dead,.dead,.dead,.dead,.dead,.dead,.dead,.dead,.dead,.dead,.dead,.dead,.dead,.dead,.dead,.dead,.dead,.dead,.dead],[]⟩) = some out) : F tab 21 [a0,a1,a2] hp = some out := F_code t21 (by rw [hh]; rfl) h
theorem t33 : tab 33 = some (.code r33) := rfl
theorem f33 {a0 a1 a2 : PV} {hp : List Ent} {out : Out} (hh : PV.hfrees [a0,a1,a2] = true) (h : fnEnd r33 hp (V (F tab) r33_T ⟨[a0,a1,a2,.dead,.dead,.dead,.dead,.dead,.dead,.dead,.dead,.dead,.dead,.dead,.dead,.dead,.dead],[]⟩) = some out) : F tab 33 [a0,a1,a2] hp = some out := F_code t33 (by rw [hh]; rfl) h
theorem t34 : tab 34 = some (.code r34) := rfl
theorem f34 {a0 a1 : PV} {hp : List Ent} {out : Out} (hh : PV.hfrees [a0,a1] = true) (h : fnEnd r34 hp (V (F tab) r34_T ⟨[a0,a1,.dead,.dead,.dead,.dead,.dead,.dead,.dead,.dead],[]⟩) = some out) : F tab 34 [a0,a1] hp = some out := F_code t34 (by rw [hh]; rfl) h
theorem t59 : tab 59 = some (.code r59) := rfl
theorem f59 {a0 a1 : PV} {hp : List Ent} {out : Out} (hh : PV.hfrees [a0,a1] = true) (h : fnEnd r59 hp (V (F tab) r59_T ⟨[a0,a1,.dead,.dead,.dead,.dead,.dead,.dead,.dead,.dead,.dead,.dead,.dead,.dead,.dead,.dead,.dead,.dead,.dead,.dead,.dead,.dead,.dead,.dead,.dead,.dead,.dead,.dead,.dead,.dead,.dead,.dead,.dead],[]⟩) = some out) : F tab 59 [a0,a1] hp = some out := F_code t59 (by rw [hh]; rfl) h
theorem t51 : tab 51 = some (.code r51) := rfl
theorem f51 {a0 a1 : PV} {hp : List Ent} {out : Out} (hh : PV.hfrees [a0,a1] = true) (h : fnEnd r51 hp (V (F tab) r51_T ⟨[a0,a1,.dead,.dead,.dead,.dead,.dead,.dead,.dead,.dead,.dead,.dead,.dead,.dead,.dead,.dead,.dead,.dead,.dead,.dead,.dead,.dead,.dead,.dead,.dead,.dead,.dead,.dead,.dead,.dead,.dead,.dead,.dead,.dead,.dead,.dead,.dead,.dead,.dead,.dead,.dead,.dead,.dead,.dead,.dead,.dead,.dead,.dead,.dead,.dead,.dead,.dead,.dead,.dead,.dead,.dead,.dead,.dead,.dead,.dead,.dead,.dead,.dead,.dead,.dead,.dead,.dead,.dead,.dead],[]⟩) = some out) : F tab 51 [a0,a1] hp = some out := F_code t51 (by rw [hh]; rfl) h
theorem t35 : tab 35 = some (.code r35) := rfl
theorem f35 {a0 a1 : PV} {hp : List Ent} {out : Out} (hh : PV.hfrees [a0,a1] = true) (h : fnEnd r35 hp (V (F tab) r35_T ⟨[a0,a1,.dead,.dead,.dead,.dead,.dead,.dead,.dead,.dead,.dead,.dead,.dead,.dead,.dead,.dead,.dead,.dead,.dead,.dead,.dead,.dead,.dead,.dead,.dead,.dead,.dead,.dead,.dead,.dead,.dead,.dead,.dead,.dead],[]⟩) = some out) : F tab 35 [a0,a1] hp = some out := F_code t35 (by rw [hh]; rfl) h
theorem t52 : tab 52 = some (.code r52) := rfl
theorem f52 {a0 : PV} {hp : List Ent} {out : Out} (hh : PV.hfrees [a0] = true) (h : fnEnd r52 hp (V (F tab) r52_T ⟨[a0,.dead,.dead,.dead,.dead],[]⟩) = some out) : F tab 52 [a0] hp = some out := F_code t52 (by rw [hh]; rfl) h
theorem t36 : tab 36 = some (.code r36) := rfl
theorem f36 {a0 a1 : PV} {hp : List Ent} {out : Out} (hh : PV.hfrees [a0,a1] = true) (h : fnEnd r36 hp (V (F tab) r36_T ⟨[a0,a1,.dead,.dead,.dead,.dead,.dead,.dead,.dead,.dead],[]⟩) = some out) : F tab 36 [a0,a1] hp = some out := F_code t36 (by rw [hh]; rfl) h
theorem t38 : tab 38 = some (.code r38) := rfl
theorem f38 {a0 : PV} {hp : List Ent} {out : Out} (hh : PV.hfrees [a0] = true) (h : fnEnd r38 hp (V (F tab) r38_T ⟨[a0,.dead,.dead,.dead,.dead,.dead,.dead],[]⟩) = some out) : F tab 38 [a0] hp = some out := F_code t38 (by rw [hh]; rfl) h
theorem t22 : tab 22 = some (.code r22) := rfl
theorem f22 {a0 a1 : PV} {hp : List Ent} {out : Out} (hh : PV.hfrees [a0,a1] = true) (h : fnEnd r22 hp (V (F tab) r22_T ⟨[a0,a1,.dead,.dead,.dead,.dead,.dead,.dead,.dead,.dead,.dead,.dead,.dead,.dead,.dead,.dead,.dead,.dead,.dead,.dead,.dead,.dead,.dead,.dead,.dead,.dead,.dead,.dead,.dead,.dead,.dead,.dead,.dead,.dead,.dead,.dead,.dead,.dead,.dead,.dead,.dead,.dead,.dead,.dead,.dead,.dead,.dead,.dead,.dead,.dead,.dead,.dead,.dead,.dead,.dead,.dead,.dead,.dead,.dead,.dead,.dead,.dead,.dead,.dead,.dead,.dead,.dead,.dead,.dead],[]⟩) = some out) : F tab 22 [a0,a1] hp = some out := F_code t22 (by rw [hh]; rfl) h
theorem t40 : tab 40 = some (.code r40) := rfl
theorem f40 {a0 a1 : PV} {hp : List Ent} {out : Out} (hh : PV.hfrees [a0,a1] = true) (h : fnEnd r40 hp (V (F tab) r40_T ⟨[a0,a1,.dead,.dead,.dead,.dead,.dead,.dead,.dead,.dead,.dead,.dead,.dead,.dead,.dead,.dead,.dead,.dead,.dead,.dead,.dead],[]⟩) = some out) : F tab 40 [a0,a1] hp = some out := F_code t40 (by rw [hh]; rfl) h
theorem t55 : tab 55 = some (.code r55) := rfl
theorem f55 {a0 a1 : PV} {hp : List Ent} {out : Out} (hh : PV.hfrees [a0,a1] = true) (h : fnEnd r55 hp (V (F tab) r55_T ⟨[a0,a1,.dead,.dead,.dead,.dead,.dead,.dead,.dead,.dead,.dead,.dead,.dead,.dead,.dead,.dead,.dead,.dead,.dead,.dead,.dead,.dead,.dead,.dead,.dead,.dead,.dead,.dead,.dead],[]⟩) = some out) : F tab 55 [a0,a1] hp = some out := F_code t55 (by rw [hh]; rfl) h
theorem t41 : tab 41 = some (.code r41) := rfl
theorem f41 {a0 a1 : PV} {hp : List Ent} {out : Out} (hh : PV.hfrees [a0,a1] = true) (h : fnEnd r41 hp (V (F tab) r41_T ⟨[a0,a1,.dead,.dead,.dead,.dead,.dead,.dead,.dead,.dead,.dead,.dead,.dead,.dead,.dead,.dead,.dead,.dead,.dead,.dead,.dead,.dead,.dead,.dead,.dead,.dead,.dead,.dead,.dead,.dead,.dead,.dead,.dead,.dead,.dead,.dead],[]⟩) = some out) : F tab 41 [a0,a1] hp = some out := F_code t41 (by rw [hh]; rfl) h
theorem t23 : tab 23 = some (.code r23) := rfl
theorem f23 {a0 a1 : PV} {hp : List Ent} {out : Out} (hh : PV.hfrees [a0,a1] = true) (h : fnEnd r23 hp (V (F tab) r23_T ⟨[a0,a1,.dead,.dead,.dead,.dead,.dead,.dead,.dead,.dead,.dead,.dead,.dead,.dead,.dead,.dead,.dead,.dead,.dead,.dead,.dead,.dead,.dead,.dead,.dead,.dead,.dead],[]⟩) = some out) : F tab 23 [a0,a1] hp = some out := F_code t23 (by rw [hh]; rfl) h
theorem t56 : tab 56 = some (.code r56) := rfl
theorem f56 {a0 a1 : PV} {hp : List Ent} {out : Out} (hh : PV.hfrees [a0,a1] = true) (h : fnEnd r56 hp (V (F tab) r56_T ⟨[a0,a1,.dead,.dead,.dead,.dead,.dead,.dead,.dead,.dead,.dead,.dead,.dead,.dead,.dead,.dead,.dead,.dead,.dead,.dead,.dead,.dead,.dead,.dead,.dead,.dead,.dead,.dead,.dead,.dead,.dead,.dead,.dead,.dead,.dead,.dead,.dead,.dead,.dead,.dead,.dead,.dead,.dead,.dead,.dead,.dead,.dead,.dead,.dead,.dead,.dead],[]⟩) = some out) : F tab 56 [a0,a1] hp = some out := F_code t56 (by rw [hh]; rfl) h
theorem t57 : tab 57 = some (.code r57) := rfl
theorem f57 {a0 : PV} {hp : List Ent} {out : Out} (hh : PV.hfrees [a0] = true) (h : fnEnd r57 hp (V (F tab) r57_T ⟨[a0,.dead,.dead,.dead,.dead,.dead,.dead,.dead,.dead,.dead],[]⟩) = some out) : F tab 57 [a0] hp = some out := F_code t57 (by rw [hh]; rfl) h
theorem t97 : tab 97 = some (.code r97) := rfl
theorem f97 {a0 : PV} {hp : List Ent} {out : Out} (hh : PV.hfrees [a0] = true) (h : fnEnd r97 hp (V (F tab) r97_T ⟨[a0,.dead,.dead,.dead,.dead,.dead,.dead,.dead,.dead,.dead,.dead,.dead,.dead,.dead,.dead,.dead,.dead,.dead,.dead,.dead,.dead,.dead,.dead,.dead,.dead],[]⟩) = some out) : F tab 97 [a0] hp = some out := F_code t97 (by rw [hh]; rfl) h
theorem t88 : tab 88 = some (.code r88) := rfl
theorem f88 {a0 : PV} {hp : List Ent} {out : Out} (hh : PV.hfrees [a0] = true) (h : fnEnd r88 hp (V (F tab) r88_T ⟨[a0,.dead,.dead,.dead,.dead,.dead],[]⟩) = some out) : F tab 88 [a0] hp = some out := F_code t88 (by rw [hh]; rfl) h
theorem t79 : tab 79 = some (.code r79) := rfl
theorem f79 {a0 a1 a2 : PV} {hp : List Ent} {out : Out} (hh : PV.hfrees [a0,a1,a2] = true) (h : fnEnd r79 hp (V (F tab) r79_T ⟨[a0,a1,a2,.dead,.dead,.dead,.dead,.dead,.dead,.dead,.dead,.dead,.dead,.dead,.dead,.dead,.dead,.dead,.dead,.dead,.dead,.dead,.dead,.dead,.dead,.dead,.dead,.dead,.dead,.dead,.dead,.dead,.dead,.dead,.dead,.dead,.dead,.dead,.dead,.dead,.dead,.dead,.dead,.dead,.dead,.dead,.dead,.dead,.dead,.dead,.dead,.dead,.dead,.dead,.dead,.dead,.dead,.dead,.dead,.dead,.dead,.dead,.dead,.dead,.dead,.dead,.dead,.dead,.dead,.dead,.dead,.dead,.dead,.dead,.dead,.dead,.dead,.dead,.dead,.dead,.dead,.dead,.dead,.dead,.dead,.dead,.dead,.dead,.dead,.dead,.dead,.dead,.dead,.dead,.dead,.dead,.dead,.dead,.dead,.dead,.dead,.dead,.dead,.dead,.dead,.dead,.dead,.dead,.dead,.dead,.dead,.dead,.dead,.dead,.dead,.dead,.dead,.dead,.dead,.dead,.dead,.dead,.dead,.dead,.dead,.dead,.dead,.dead,.dead,.dead,.dead,.dead,.dead,.dead,.dead],[]⟩) = some out) : F tab 79 [a0,a1,a2] hp = some out := F_code t79 (by rw [hh]; rfl) h
theorem t58 : tab 58 = some (.code r58) := rfl
theorem f58 {a0 : PV} {hp : List Ent} {out : Out} (hh : PV.hfrees [a0] = true) (h : fnEnd r58 hp (V (F tab) r58_T ⟨[a0,.dead,.dead,.dead,.dead,.dead,.dead,.dead,.dead,.dead,.dead,.dead,.dead,.dead,.dead,.dead,.dead,.dead,.dead,.dead,.dead,.dead,.dead],[]⟩) = some out) : F tab 58 [a0] hp = some out := F_code t58 (by rw [hh]; rfl) h
theorem t42 : tab 42 = some (.code r42) := rfl
theorem f42 {a0 a1 : PV} {hp : List Ent} {out : Out} (hh : PV.hfrees [a0,a1] = true) (h : fnEnd r42 hp (V (F tab) r42_T ⟨[a0,a1,.dead,.dead,.dead,.dead,.dead,.dead,.dead,.dead,.dead,.dead,.dead,.dead,.dead,.dead,.dead,.dead,.dead,.dead,.dead,.dead,.dead,.dead,.dead,.dead,.dead,.dead,.dead,.dead,.dead,.dead,.dead,.dead,.dead,.dead,.dead,.dead,.dead,.dead,.dead,.dead,.dead,.dead,.dead,.dead,.dead,.dead,.dead,.dead,.dead,.dead,.dead,.dead,.dead,.dead,.dead,.dead,.dead,.dead,.dead,.dead,.dead,.dead,.dead,.dead,.dead,.dead,.dead,.dead,.dead],[]⟩) = some out) : F tab 42 [a0,a1] hp = some out := F_code t42 (by rw [hh]; rfl) h
theorem t60 : tab 60 = some (.code r60) := rfl
theorem f60 {a0 : PV} {hp : List Ent} {out : Out} (hh : PV.hfrees [a0] = true) (h : fnEnd r60 hp (V (F tab) r60_T ⟨[a0,.dead,.dead,.dead,.dead,.dead,.dead,.dead,.dead,.dead,.dead,.dead,.dead,.dead],[]⟩) = some out) : F tab 60 [a0] hp = some out := F_code t60 (by rw [hh]; rfl) h
theorem t61 : tab 61 = some (.code r61) := rfl
theorem f61 {a0 a1 : PV} {hp : List Ent} {out : Out} (hh : PV.hfrees [a0,a1] = true) (h : fnEnd r61 hp (V (F tab) r61_T ⟨[a0,a1,.dead,.dead,.dead,.dead,.dead,.dead,.dead,.dead,.dead,.dead,.dead,.dead,.dead,.dead,.dead,.dead,.dead,.dead],[]⟩) = some out) : F tab 61 [a0,a1] hp = some out := F_code t61 (by rw [hh]; rfl) h
theorem t43 : tab 43 = some (.code r43) := rfl
theorem f43 {a0 a1 : PV} {hp : List Ent} {out : Out} (hh : PV.hfrees [a0,a1] = true) (h : fnEnd r43 hp (V (F tab) r43_T ⟨[a0,a1,.dead,.dead,.dead,.dead,.dead,.dead,.dead,.dead,.dead,.dead,.dead,.dead,.dead,.dead,.dead,.dead,.dead,.dead,.dead],[]⟩) = some out) : F tab 43 [a0,a1] hp = some out := F_code t43 (by rw [hh]; rfl) h
theorem t24 : tab 24 = some (.code r24) := rfl
theorem f24 {a0 a1 : PV} {hp : List Ent} {out : Out} (hh : PV.hfrees [a0,a1] = true) (h : fnEnd r24 hp (V (F tab) r24_T ⟨[a0,a1,.dead,.dead,.dead,.dead,.dead,.dead,.dead,.dead,.dead,.dead,.dead,.dead,.dead,.dead,.dead,.dead,.dead,.dead,.dead,.dead,.dead,.dead,.dead,.dead,.dead,.dead,.dead,.dead,.dead,.dead],[]⟩) = some out) : F tab 24 [a0,a1] hp = some out := F_code t24 (by rw [hh]; rfl) h
theorem t62 : tab 62 = some (.code r62) := rfl
theorem f62 {a0 a1 : PV} {hp : List Ent} {out : Out} (hh : PV.hfrees [a0,a1] = true) (h : fnEnd r62 hp (V (F tab) r62_T ⟨[a0,a1,.dead,.dead,.dead,.dead,.dead,.dead,.dead,.dead,.dead,.dead],[]⟩) = some out) : F tab 62 [a0,a1] hp = some out := F_code t62 (by rw [hh]; rfl) h
theorem t63 : tab 63 = some (.code r63) := rfl
theorem f63 {a0 a1 : PV} {hp : List Ent} {out : Out} (hh : PV.hfrees [a0,a1] = true) (h : fnEnd r63 hp (V (F tab) r63_T ⟨[a0,a1,.dead,.dead,.dead,.dead,.dead,.dead,.dead,.dead,.dead,.dead,.dead,.dead,.dead,.dead,.dead,.dead],[]⟩) = some out) : F tab 63 [a0,a1] hp = some out := F_code t63 (by rw [hh]; rfl) h
theorem t64 : tab 64 = some (.code r64) := rfl
theorem f64 {a0 a1 a2 : PV} {hp : List Ent} {out : Out} (hh : PV.hfrees [a0,a1,a2] = true) (h : fnEnd r64 hp (V (F tab) r64_T ⟨[a0,a1,a2,.dead,.dead,.dead,.dead,.dead,.dead,.dead,.dead,.dead,.dead,.dead,.dead,.dead,.dead,.dead,.dead,.dead],[]⟩) = some out) : F tab 64 [a0,a1,a2] hp = some out := F_code t64 (by rw [hh]; rfl) h
theorem t44 : tab 44 = some (.code r44) := rfl
theorem f44 {a0 a1 : PV} {hp : List Ent} {out : Out} (hh : PV.hfrees [a0,a1] = true) (h : fnEnd r44 hp (V (F tab) r44_T ⟨[a0,a1,.dead,.dead,.dead,.dead,.dead,.dead,.dead,.dead,.dead,.dead,.dead,.dead,.dead,.dead,.dead,.dead,.dead,.dead,.dead,.dead,.dead,.dead,.dead,.dead,.dead,.dead,.dead,.dead,.dead,.dead,.dead,.dead,.dead,.dead,.dead,.dead,.dead,.dead,.dead,.dead,.dead,.dead,.dead,.dead,.dead,.dead,.dead,.dead,.dead,.dead,.dead,.dead,.dead,.dead,.dead,.dead,.dead,.dead,.dead,.dead,.dead,.dead,.dead,.dead,.dead,.dead,.dead,.dead,.dead,.dead,.dead,.dead,.dead,.dead,.dead,.dead,.dead,.dead,.dead,.dead,.dead,.dead,.dead,.dead,.dead,.dead,.dead,.dead,.dead,.dead,.dead,.dead,.dead,.dead,.dead,.dead,.dead,.dead,.dead,.dead,.dead,.dead,.dead,.dead,.dead,.dead,.dead,.dead,.dead,.dead,.dead,.dead,.dead,.dead,.dead,.dead,.dead,.dead,.dead,.dead,.dead],[]⟩) = some out) : F tab 44 [a0,a1] hp = some out := F_code t44 (by rw [hh]; rfl) h
theorem t25 : tab 25 = some (.code r25) := rfl
theorem f25 {a0 a1 : PV} {hp : List Ent} {out : Out} (hh : PV.hfrees [a0,a1] = true) (h : fnEnd r25 hp (V (F tab) r25_T ⟨[a0,a1,.dead,.dead,.dead,.dead,.dead,.dead,.dead,.dead,.dead,.dead,.dead,.dead,.dead,.dead,.dead,.dead,.dead,.dead,.dead,.dead,.dead,.dead,.dead,.dead,.dead],[]⟩) = some out) : F tab 25 [a0,a1] hp = some out := F_code t25 (by rw [hh]; rfl) h
theorem t46 : tab 46 = some (.code r46) := rfl
theorem f46 {a0 a1 : PV} {hp : List Ent} {out : Out} (hh : PV.hfrees [a0,a1] = true) (h : fnEnd r46 hp (V (F tab) r46_T ⟨[a0,a1,.dead,.dead,.dead,.dead,.dead,.dead,.dead,.dead,.dead,.dead,.dead,.dead,.dead,.dead,.dead,.dead,.dead,.dead,.dead,.dead,.dead,.dead,.dead,.dead,.dead,.dead,.dead,.dead,.dead,.dead,.dead,.dead,.dead],[]⟩) = some out) : F tab 46 [a0,a1] hp = some out := F_code t46 (by rw [hh]; rfl) h
theorem t26 : tab 26 = some (.code r26) := rfl
theorem f26 {a0 a1 : PV} {hp : List Ent} {out : Out} (hh : PV.hfrees [a0,a1] = true) (h : fnEnd r26 hp (V (F tab) r26_T ⟨[a0,a1,.dead,.dead,.dead,.dead,.dead,.dead,.dead,.dead,.dead,.dead,.dead,.dead,.dead,.dead,.dead,.dead],[]⟩) = some out) : F tab 26 [a0,a1] hp = some out := F_code t26 (by rw [hh]; rfl) h
theorem t16 : tab 16 = some (.code r16) := rfl
theorem f16 {a0 a1 a2 : PV} {hp : List Ent} {out : Out} (hh : PV.hfrees [a0,a1,a2] = true) (h : fnEnd r16 hp (V (F tab) r16_T ⟨[a0,a1,a2,.dead,.dead,.dead,.dead,.dead,.dead,.dead,.dead,.dead,.dead,.dead,.dead,.dead,.dead,.dead,.dead,.dead,.dead,.dead,.dead,.dead,.dead,.dead,.dead,.dead,.dead,.dead,.dead,.dead,.dead,.dead,.dead,.dead,.dead,.dead,.dead,.dead,.dead,.dead,.dead,.dead,.dead,.dead,.dead,.dead,.dead,.dead,.dead,.dead,.dead,.dead,.dead,.dead,.dead,.dead,.dead,.dead,.dead,.dead,.dead,.dead,.dead],[]⟩) = some out) : F tab 16 [a0,a1,a2] hp = some out := F_code t16 (by rw [hh]; rfl) h
theorem t7 : tab 7 = some (.code r7) := rfl
theorem f7 {a0 a1 a2 : PV} {hp : List Ent} {out : Out} (hh : PV.hfrees [a0,a1,a2] = true) (h : fnEnd r7 hp (V (F tab) r7_T ⟨[a0,a1,a2,.dead,.dead,.dead,.dead,.dead,.dead,.dead,.dead,.dead,.dead,.dead,.dead,.dead,.dead,.dead,.dead,.dead,.dead,.dead,.dead,.dead,.dead,.dead,.dead,.dead,.dead,.dead,.dead,.dead,.dead],[]⟩) = some out) : F tab 7 [a0,a1,a2] hp = some out := F_code t7 (by rw [hh]; rfl) h
theorem t13 : tab 13 = some (.code r13) := rfl
theorem f13 {a0 : PV} {hp : List Ent} {out : Out} (hh : PV.hfrees [a0] = true) (h : fnEnd r13 hp (V (F tab) r13_T ⟨[a0,.dead,.dead,.dead,.dead],[]⟩) = some out) : F tab 13 [a0] hp = some out := F_code t13 (by rw [hh]; rfl) h
theorem t14 : tab 14 = some (.code r14) := rfl
theorem f14 {a0 : PV} {hp : List Ent} {out : Out} (hh : PV.hfrees [a0] = true) (h : fnEnd r14 hp (V (F tab) r14_T ⟨[a0,.dead,.dead,.dead,.dead,.dead],[]⟩) = some out) : F tab 14 [a0] hp = some out := F_code t14 (by rw [hh]; rfl) h
theorem t6 : tab 6 = some (.code r6) := rfl
theorem f6 {hp : List Ent} {out : Out} (hh : PV.hfrees [] = true) (h : fnEnd r6 hp (V (F tab) r6_T ⟨[.dead,.dead,.dead,.dead,.dead,.dead,.dead,.dead,.dead,.dead,.dead,.dead,.dead,.dead,.dead,.dead,.dead,.dead,.dead,.dead,.dead,.dead,.dead,.dead,.dead,.dead,.dead,.dead,.dead,.dead,.dead,.dead,.dead,.dead,.dead,.dead,.dead,.dead,.dead,.dead,.dead,.dead,.dead,.dead,.dead,.dead,.dead],[]⟩) = some out) : F tab 6 [] hp = some out := F_code t6 (by rw [hh]; rfl) h
theorem t11 : tab 11 = some (.code r11) := rfl
theorem f11 {a0 a1 : PV} {hp : List Ent} {out : Out} (hh : PV.hfrees [a0,a1] = true) (h : fnEnd r11 hp (V (F tab) r11_T ⟨[a0,a1,.dead,.dead,.dead,.dead,.dead,.dead,.dead,.dead,.dead,.dead,.dead,.dead,.dead,.dead,.dead,.dead,.dead,.dead,.dead,.dead,.dead,.dead,.dead,.dead,.dead,.dead,.dead,.dead,.dead,.dead,.dead,.dead,.dead,.dead,.dead,.dead,.dead,.dead,.dead,.dead,.dead,.dead,.dead,.dead,.dead,.dead,.dead,.dead,.dead,.dead,.dead,.dead,.dead,.dead,.dead,.dead,.dead,.dead,.dead,.dead,.dead,.dead,.dead,.dead,.dead,.dead,.dead,.dead,.dead,.dead,.dead,.dead,.dead,.dead,.dead,.dead,.dead,.dead,.dead],[]⟩) = some out) : F tab 11 [a0,a1] hp = some out := F_code t11 (by rw [hh]; rfl) h
theorem t4 : tab 4 = some (.code r4) := rfl
theorem f4 {a0 a1 : PV} {hp : List Ent} {out : Out} (hh : PV.hfrees [a0,a1] = true) (h : fnEnd r4 hp (V (F tab) r4_T ⟨[a0,a1,.dead,.dead,.dead,.dead,.dead,.dead,.dead,.dead,.dead,.dead,.dead,.dead,.dead,.dead,.dead,.dead,.dead,.dead,.dead,.dead,.dead,.dead,.dead,.dead,.dead,.dead,.dead,.dead,.dead,.dead,.dead,.dead,.dead,.dead,.dead,.dead,.dead,.dead,.dead,.dead,.dead,.dead,.dead,.dead,.dead,.dead,.dead,.dead,.dead,.dead,.dead,.dead,.dead,.dead,.dead,.dead,.dead,.dead,.dead,.dead,.dead,.dead,.dead,.dead,.dead,.dead,.dead,.dead,.dead,.dead,.dead,.dead,.dead,.dead,.dead,.dead,.dead,.dead,.dead,.dead,.dead,.dead,.dead,.dead,.dead,.dead,.dead,.dead,.dead,.dead,.dead,.dead,.dead,.dead,.dead,.dead,.dead,.dead,.dead,.dead,.dead,.dead,.dead,.dead,.dead,.dead,.dead,.dead,.dead,.dead,.dead,.dead,.dead,.dead,.dead,.dead,.dead,.dead,.dead,.dead,.dead,.dead,.dead,.dead,.dead,.dead,.dead,.dead,.dead,.dead],[]⟩) = some out) : F tab 4 [a0,a1] hp = some out := F_code t4 (by rw [hh]; rfl) h
end Go.Pe.T

namespace Go.Pe.T
def samK : List ByteArray → List ByteArray → Bool
  | k :: r, k' :: r' => (k.toList == k'.toList) && samK r r'
  | _, _ => true
mutual
def samV : Val → Val → Bool
  | .mk k c s t xs ks, .mk k' c' s' t' ys ks' => (k == k') && ((c == c' && s == s') && ((t.toList == t'.toList) && (decide (xs.length = ys.length) && (decide (ks.length = ks'.length) && (samK ks ks' && samVs xs ys)))))
def samVs : List Val → List Val → Bool
  | x :: r, y :: r' => samV x y && samVs r r'
  | _, _ => true
end
theorem samK_refl : ∀ (l : List ByteArray), samK l l = true
  | [] => rfl
  | k :: r => by simp [samK, samK_refl r]
mutual
theorem samV_refl : ∀ (x : Val), samV x x = true
  | .mk k c s t xs ks => by simp [samV, samK_refl, samVs_refl xs]
theorem samVs_refl : ∀ (l : List Val), samVs l l = true
  | [] => rfl
  | x :: r => by simp [samVs, samV_refl x, samVs_refl r]
end

def SamIs (x y : Val) : Prop := ∀ hp : List Ent, F tab 11 [.d x.enc, .d y.enc] hp = some (.ret (.d (.bool (samV x y))) hp)

abbrev bxV (k c s : Int) (t : ByteArray) (xs : List D) (ks : List ByteArray) : PV := .ibox [.d (iv k), .d (iv c), .d (iv s), .d (.str t), .d (.sl xs), .d (.sl (ks.map .str))]

section
variable (k c s : Int) (t : ByteArray) (xs : List Val) (ks : List ByteArray) (k' c' s' : Int) (t' : ByteArray) (ys : List Val) (ks' : List ByteArray)

def SkLoop (i : Nat) : Prop :=
  V (F tab) r11_B0 (r11_S0 (bxV k c s t (Val.encs xs) ks) (bxV k' c' s' t' (Val.encs ys) ks') (.d (iv i)) []) =
    if samK (ks.drop i) (ks'.drop i) then some (.norm, r11_E0 (bxV k c s t (Val.encs xs) ks) (bxV k' c' s' t' (Val.encs ys) ks') []) else some (.ret, r11_R (.d (.bool false)) [])
theorem sk_end (hlen : ks.length = ks'.length) : SkLoop k c s t xs ks k' c' s' t' ys ks' ks.length := by
  have h1 : ((ks.length : Int) < (ks.length : Int)) = False := eq_false (by omega)
  unfold SkLoop
  rw [r11_B0_eq, List.drop_of_length_le (Nat.le_refl _)]
  simp (disch := omega) only [go_sem, and_self, and_true, true_and, false_and, and_false, Nat.reduceAdd, Nat.reduceMul, Nat.reduceSub, Nat.reduceLeDiff, Nat.reduceLT, Nat.reduceGT, Nat.reduceEqDiff, Nat.reduceBEq, Int.reduceNeg, Int.reduceEq, Int.reduceLT, Int.reduceLE, Int.reduceBEq, Int.reduceToNat, Int.toNat_natCast, Int.natCast_zero, r11_C0, h1, List.length_map, samK]
theorem sk_step (hlen : ks.length = ks'.length) (hl : ks.length ≤ maxLen) (i : Nat) (hi : i < ks.length) (ih : SkLoop k c s t xs ks k' c' s' t' ys ks' (i + 1)) : SkLoop k c s t xs ks k' c' s' t' ys ks' i := by
  have hmx : maxLen = 9223372036854775807 := by decide
  have h1 : ((i : Int) < (ks.length : Int)) = True := eq_true (by omega)
  have i0 : (0 ≤ (i : Int)) = True := eq_true (by omega)
  have va : (ks.map D.str)[i]? = some (.str ks[i]) := by simp [hi]
  have vb : (ks'.map D.str)[i]? = some (.str (ks'[i]'(by omega))) := by simp [show i < ks'.length by omega]
  have e1 : (i : Int) + 1 = ((i + 1 : Nat) : Int) := rfl
  unfold SkLoop at ih ⊢
  rw [r11_B0_eq, List.drop_eq_getElem_cons hi, List.drop_eq_getElem_cons (show i < ks'.length by omega)]
  simp only [samK]
  rcases Bool.eq_false_or_eq_true (ks[i].toList == (ks'[i]'(by omega)).toList) with g | g
  · simp (disch := omega) only [go_sem, and_self, and_true, true_and, false_and, and_false, Nat.reduceAdd, Nat.reduceMul, Nat.reduceSub, Nat.reduceLeDiff, Nat.reduceLT, Nat.reduceGT, Nat.reduceEqDiff, Nat.reduceBEq, Int.reduceNeg, Int.reduceEq, Int.reduceLT, Int.reduceLE, Int.reduceBEq, Int.reduceToNat, Int.toNat_natCast, Int.natCast_zero, r11_C0, h1, i0, va, vb, g, strD_neq, List.length_map, e1, w64, Bool.true_and]
    exact ih
  · simp (disch := omega) only [go_sem, and_self, and_true, true_and, false_and, and_false, Nat.reduceAdd, Nat.reduceMul, Nat.reduceSub, Nat.reduceLeDiff, Nat.reduceLT, Nat.reduceGT, Nat.reduceEqDiff, Nat.reduceBEq, Int.reduceNeg, Int.reduceEq, Int.reduceLT, Int.reduceLE, Int.reduceBEq, Int.reduceToNat, Int.toNat_natCast, Int.natCast_zero, r11_C0, h1, i0, va, vb, g, strD_neq, List.length_map, e1, w64, Bool.false_and]
theorem sk_loop (hlen : ks.length = ks'.length) (hl : ks.length ≤ maxLen) : ∀ (d i : Nat), i + d = ks.length → SkLoop k c s t xs ks k' c' s' t' ys ks' i
  | 0, i, h => by obtain rfl : i = ks.length := by omega
                  exact sk_end k c s t xs ks k' c' s' t' ys ks' hlen
  | d + 1, i, h => sk_step k c s t xs ks k' c' s' t' ys ks' hlen hl i (by omega) (sk_loop hlen hl d (i + 1) (by omega))

def SiLoop (i : Nat) : Prop :=
  V (F tab) r11_B1 (r11_S1 (bxV k c s t (Val.encs xs) ks) (bxV k' c' s' t' (Val.encs ys) ks') (.d (iv i)) []) =
    if samVs (xs.drop i) (ys.drop i) then some (.norm, r11_E1 []) else some (.ret, r11_R (.d (.bool false)) [])
theorem si_end (hlen : xs.length = ys.length) : SiLoop k c s t xs ks k' c' s' t' ys ks' xs.length := by
  have h1 : ((xs.length : Int) < (xs.length : Int)) = False := eq_false (by omega)
  unfold SiLoop
  rw [r11_B1_eq, List.drop_of_length_le (Nat.le_refl _)]
  simp (disch := omega) only [go_sem, and_self, and_true, true_and, false_and, and_false, Nat.reduceAdd, Nat.reduceMul, Nat.reduceSub, Nat.reduceLeDiff, Nat.reduceLT, Nat.reduceGT, Nat.reduceEqDiff, Nat.reduceBEq, Int.reduceNeg, Int.reduceEq, Int.reduceLT, Int.reduceLE, Int.reduceBEq, Int.reduceToNat, Int.toNat_natCast, Int.natCast_zero, r11_C1, h1, encs_len, samVs]
theorem si_step (hlen : xs.length = ys.length) (hl : xs.length ≤ maxLen) (i : Nat) (hi : i < xs.length) (hs : SamIs xs[i] (ys[i]'(by omega))) (ih : SiLoop k c s t xs ks k' c' s' t' ys ks' (i + 1)) : SiLoop k c s t xs ks k' c' s' t' ys ks' i := by
  have hmx : maxLen = 9223372036854775807 := by decide
  have h1 : ((i : Int) < (xs.length : Int)) = True := eq_true (by omega)
  have i0 : (0 ≤ (i : Int)) = True := eq_true (by omega)
  have va : (Val.encs xs)[i]? = some xs[i].enc := by rw [encs_get]; simp [hi]
  have vb : (Val.encs ys)[i]? = some (ys[i]'(by omega)).enc := by rw [encs_get]; simp [show i < ys.length by omega]
  have e1 : (i : Int) + 1 = ((i + 1 : Nat) : Int) := rfl
  unfold SamIs at hs
  unfold SiLoop at ih ⊢
  rw [r11_B1_eq, List.drop_eq_getElem_cons hi, List.drop_eq_getElem_cons (show i < ys.length by omega)]
  simp only [samVs]
  rcases Bool.eq_false_or_eq_true (samV xs[i] (ys[i]'(by omega))) with g | g
  · rw [g] at hs
    simp (disch := omega) only [go_sem, and_self, and_true, true_and, false_and, and_false, Nat.reduceAdd, Nat.reduceMul, Nat.reduceSub, Nat.reduceLeDiff, Nat.reduceLT, Nat.reduceGT, Nat.reduceEqDiff, Nat.reduceBEq, Int.reduceNeg, Int.reduceEq, Int.reduceLT, Int.reduceLE, Int.reduceBEq, Int.reduceToNat, Int.toNat_natCast, Int.natCast_zero, r11_C1, h1, i0, va, vb, hs, g, enc_w, enc_a, encs_len, e1, w64, Bool.true_and]
    exact ih
  · rw [g] at hs
    simp (disch := omega) only [go_sem, and_self, and_true, true_and, false_and, and_false, Nat.reduceAdd, Nat.reduceMul, Nat.reduceSub, Nat.reduceLeDiff, Nat.reduceLT, Nat.reduceGT, Nat.reduceEqDiff, Nat.reduceBEq, Int.reduceNeg, Int.reduceEq, Int.reduceLT, Int.reduceLE, Int.reduceBEq, Int.reduceToNat, Int.toNat_natCast, Int.natCast_zero, r11_C1, h1, i0, va, vb, hs, g, enc_w, enc_a, encs_len, e1, w64, Bool.false_and]
theorem si_loop (hlen : xs.length = ys.length) (hl : xs.length ≤ maxLen) (hs : ∀ (i : Nat) (x y : Val), xs[i]? = some x → ys[i]? = some y → SamIs x y) : ∀ (d i : Nat), i + d = xs.length → SiLoop k c s t xs ks k' c' s' t' ys ks' i
  | 0, i, h => by obtain rfl : i = xs.length := by omega
                  exact si_end k c s t xs ks k' c' s' t' ys ks' hlen
  | d + 1, i, h => si_step k c s t xs ks k' c' s' t' ys ks' hlen hl i (by omega) (hs i _ _ (List.getElem?_eq_getElem (by omega)) (List.getElem?_eq_getElem (by omega))) (si_loop hlen hl hs d (i + 1) (by omega))

set_option maxHeartbeats 1000000 in
theorem sam_core (h1 : xs.length ≤ maxLen) (h2 : ks.length ≤ maxLen) (hs : ∀ (i : Nat) (x y : Val), xs[i]? = some x → ys[i]? = some y → SamIs x y) : SamIs (.mk k c s t xs ks) (.mk k' c' s' t' ys ks') := by
  intro hp
  refine f11 rfl ?_
  have he := eqD_num c s c' s'
  have x1 : ((xs.length : Int) != (ys.length : Int)) = !decide (xs.length = ys.length) := by by_cases h : xs.length = ys.length <;> simp [h]; omega
  have x2 : ((ks.length : Int) != (ks'.length : Int)) = !decide (ks.length = ks'.length) := by by_cases h : ks.length = ks'.length <;> simp [h]; omega
  have x0 : (k != k') = !(k == k') := rfl
  simp only [Val.enc, samV]
  rcases Bool.eq_false_or_eq_true (k == k') with g0 | g0
  · rcases Bool.eq_false_or_eq_true (c == c' && s == s') with g1 | g1
    · rcases Bool.eq_false_or_eq_true (t.toList == t'.toList) with g2 | g2
      · rcases Bool.eq_false_or_eq_true (decide (xs.length = ys.length)) with g3 | g3
        · rcases Bool.eq_false_or_eq_true (decide (ks.length = ks'.length)) with g4 | g4
          · have hlen := of_decide_eq_true g3
            have hlek := of_decide_eq_true g4
            have hk := sk_loop k c s t xs ks k' c' s' t' ys ks' hlek h2 ks.length 0 (by omega)
            have hi := si_loop k c s t xs ks k' c' s' t' ys ks' hlen h1 hs xs.length 0 (by omega)
            unfold SkLoop at hk
            unfold SiLoop at hi
            rw [List.drop_zero, List.drop_zero] at hk hi
            rw [g0, g1, g2, g3, g4]
            simp (disch := omega) only [go_sem, and_self, and_true, true_and, false_and, and_false, Nat.reduceAdd, Nat.reduceMul, Nat.reduceSub, Nat.reduceLeDiff, Nat.reduceLT, Nat.reduceGT, Nat.reduceEqDiff, Nat.reduceBEq, Int.reduceNeg, Int.reduceEq, Int.reduceLT, Int.reduceLE, Int.reduceBEq, Int.reduceToNat, Int.toNat_natCast, Int.natCast_zero, r11_T, r11, x0, x1, x2, g0, he, g1, strD_neq, g2, encs_len, g3, List.length_map, g4, Bool.true_and]
            rw [r11_B0_n]
            erw [hk]
            rcases Bool.eq_false_or_eq_true (samK ks ks') with g5 | g5
            · rw [g5]
              simp (disch := omega) only [go_sem, and_self, and_true, true_and, false_and, and_false, Nat.reduceAdd, Nat.reduceMul, Nat.reduceSub, Nat.reduceLeDiff, Nat.reduceLT, Nat.reduceGT, Nat.reduceEqDiff, Nat.reduceBEq, Int.reduceNeg, Int.reduceEq, Int.reduceLT, Int.reduceLE, Int.reduceBEq, Int.reduceToNat, Int.toNat_natCast, Int.natCast_zero]
              rw [r11_B1_n]
              erw [hi]
              rcases Bool.eq_false_or_eq_true (samVs xs ys) with g6 | g6 <;> rw [g6] <;> simp only [go_sem, and_self, and_true, true_and, false_and, and_false, Nat.reduceAdd, Nat.reduceMul, Nat.reduceSub, Nat.reduceLeDiff, Nat.reduceLT, Nat.reduceGT, Nat.reduceEqDiff, Nat.reduceBEq, Int.reduceNeg, Int.reduceEq, Int.reduceLT, Int.reduceLE, Int.reduceBEq, Int.reduceToNat, Int.toNat_natCast, Int.natCast_zero]
            · rw [g5]
              simp (disch := omega) only [go_sem, and_self, and_true, true_and, false_and, and_false, Nat.reduceAdd, Nat.reduceMul, Nat.reduceSub, Nat.reduceLeDiff, Nat.reduceLT, Nat.reduceGT, Nat.reduceEqDiff, Nat.reduceBEq, Int.reduceNeg, Int.reduceEq, Int.reduceLT, Int.reduceLE, Int.reduceBEq, Int.reduceToNat, Int.toNat_natCast, Int.natCast_zero, Bool.false_and]
          · rw [g0, g1, g2, g3, g4]
            simp (disch := omega) only [go_sem, and_self, and_true, true_and, false_and, and_false, Nat.reduceAdd, Nat.reduceMul, Nat.reduceSub, Nat.reduceLeDiff, Nat.reduceLT, Nat.reduceGT, Nat.reduceEqDiff, Nat.reduceBEq, Int.reduceNeg, Int.reduceEq, Int.reduceLT, Int.reduceLE, Int.reduceBEq, Int.reduceToNat, Int.toNat_natCast, Int.natCast_zero, r11_T, r11, x0, x1, x2, g0, he, g1, strD_neq, g2, encs_len, g3, List.length_map, g4, Bool.true_and, Bool.false_and]
        · rw [g0, g1, g2, g3]
          simp (disch := omega) only [go_sem, and_self, and_true, true_and, false_and, and_false, Nat.reduceAdd, Nat.reduceMul, Nat.reduceSub, Nat.reduceLeDiff, Nat.reduceLT, Nat.reduceGT, Nat.reduceEqDiff, Nat.reduceBEq, Int.reduceNeg, Int.reduceEq, Int.reduceLT, Int.reduceLE, Int.reduceBEq, Int.reduceToNat, Int.toNat_natCast, Int.natCast_zero, r11_T, r11, x0, x1, g0, he, g1, strD_neq, g2, encs_len, g3, Bool.true_and, Bool.false_and]
      · rw [g0, g1, g2]
        simp (disch := omega) only [go_sem, and_self, and_true, true_and, false_and, and_false, Nat.reduceAdd, Nat.reduceMul, Nat.reduceSub, Nat.reduceLeDiff, Nat.reduceLT, Nat.reduceGT, Nat.reduceEqDiff, Nat.reduceBEq, Int.reduceNeg, Int.reduceEq, Int.reduceLT, Int.reduceLE, Int.reduceBEq, Int.reduceToNat, Int.toNat_natCast, Int.natCast_zero, r11_T, r11, x0, g0, he, g1, strD_neq, g2, Bool.true_and, Bool.false_and]
    · rw [g0, g1]
      simp (disch := omega) only [go_sem, and_self, and_true, true_and, false_and, and_false, Nat.reduceAdd, Nat.reduceMul, Nat.reduceSub, Nat.reduceLeDiff, Nat.reduceLT, Nat.reduceGT, Nat.reduceEqDiff, Nat.reduceBEq, Int.reduceNeg, Int.reduceEq, Int.reduceLT, Int.reduceLE, Int.reduceBEq, Int.reduceToNat, Int.toNat_natCast, Int.natCast_zero, r11_T, r11, x0, g0, he, g1, Bool.true_and, Bool.false_and]
  · rw [g0]
    simp (disch := omega) only [go_sem, and_self, and_true, true_and, false_and, and_false, Nat.reduceAdd, Nat.reduceMul, Nat.reduceSub, Nat.reduceLeDiff, Nat.reduceLT, Nat.reduceGT, Nat.reduceEqDiff, Nat.reduceBEq, Int.reduceNeg, Int.reduceEq, Int.reduceLT, Int.reduceLE, Int.reduceBEq, Int.reduceToNat, Int.toNat_natCast, Int.natCast_zero, r11_T, r11, x0, g0, Bool.false_and]
end

theorem sam_ok : ∀ (x y : Val), x.ok → SamIs x y
  | .mk k c s t xs ks, .mk k' c' s' t' ys ks', hx => by
    simp only [Val.ok] at hx
    refine sam_core k c s t xs ks k' c' s' t' ys ks' hx.2.2.2.2.1 hx.2.2.2.2.2.1 ?_
    intro i x y hxi _
    have hm := List.mem_of_getElem? hxi
    exact sam_ok x y (oks_mem hx.2.2.2.2.2.2.2 hm)
end Go.Pe.T

namespace Go.Pe.T
theorem lit_eq (a b : List UInt8) : ((⟨a.toArray⟩ : ByteArray).toList == (⟨b.toArray⟩ : ByteArray).toList) = (a.map UInt8.toNat == b.map UInt8.toNat) := by
  rw [ByteArray.toList_eq, ByteArray.toList_eq]
  show (a.toArray.toList == b.toArray.toList) = _
  rw [List.toList_toArray, List.toList_toArray]
  by_cases h : a = b
  · subst h; simp
  · have h2 : a.map UInt8.toNat ≠ b.map UInt8.toNat := by
      intro e
      exact h ((List.map_inj_right (fun x y h => UInt8.toNat_inj.1 h)).1 e)
    rw [beq_eq_false_iff_ne.2 h, beq_eq_false_iff_ne.2 h2]
theorem lives19_ev : evF tab 200 6 [] [] = some (.ret (.d (.bool true)) []) := by kernel_rfl
theorem lives19_ok (hp : List Ent) : F tab 6 [] hp = some (.ret (.d (.bool true)) hp) :=
  F_some.2 ⟨200, ((evF_nice (pf := pf) pf_ok 200).2 6 rfl _ _ _ _ lives19_ev).2 hp⟩
def valN (c : Int) : Val := .mk 3 c 0 ⟨#[]⟩ [] []
theorem n19_ok (c : Int) (hp : List Ent) : F tab 14 [.d (iv c)] hp = some (.ret (.d (valN c).enc) hp) := by
  refine f14 rfl ?_
  simp (disch := omega) only [go_sem, and_self, and_true, true_and, false_and, and_false, Nat.reduceAdd, Nat.reduceMul, Nat.reduceSub, Nat.reduceLeDiff, Nat.reduceLT, Nat.reduceGT, Nat.reduceEqDiff, Nat.reduceBEq, Int.reduceNeg, Int.reduceEq, Int.reduceLT, Int.reduceLE, Int.reduceBEq, Int.reduceToNat, Int.toNat_natCast, Int.natCast_zero, r14_T, r14, valN, Val.enc, Val.encs, List.map_nil]
theorem true_ok (k c s : Int) (t : ByteArray) (xs ks : D) (hx : xs.isAgg = false) (hk : ks.isAgg = false) (hp : List Ent) : F tab 15 [.d (.agg [iv k, iv c, iv s, .str t, xs, ks])] hp = some (.ret (.d (.bool (k != 0 && k != 1))) hp) := by
  have z0 : ((0 : Int) != 0) = false := rfl
  refine f15 rfl ?_
  rcases Bool.eq_false_or_eq_true (k != 0) with q | q <;> simp (disch := omega) only [go_sem, and_self, and_true, true_and, false_and, and_false, Nat.reduceAdd, Nat.reduceMul, Nat.reduceSub, Nat.reduceLeDiff, Nat.reduceLT, Nat.reduceGT, Nat.reduceEqDiff, Nat.reduceBEq, Int.reduceNeg, Int.reduceEq, Int.reduceLT, Int.reduceLE, Int.reduceBEq, Int.reduceToNat, Int.toNat_natCast, Int.natCast_zero, r15_T, r15, q, Bool.true_and, Bool.false_and]
theorem both_ok19 (k c s : Int) (t : ByteArray) (xs ks : D) (k' c' s' : Int) (t' : ByteArray) (xs' ks' : D) (m : Int) (hp : List Ent) :
    F tab 33 [.d (.agg [iv k, iv c, iv s, .str t, xs, ks]), .d (.agg [iv k', iv c', iv s', .str t', xs', ks']), .d (iv m)] hp = some (.ret (.d (.bool (k == m && k' == m))) hp) := by
  refine f33 rfl ?_
  rcases Bool.eq_false_or_eq_true (k == m) with q | q <;> simp (disch := omega) only [go_sem, and_self, and_true, true_and, false_and, and_false, Nat.reduceAdd, Nat.reduceMul, Nat.reduceSub, Nat.reduceLeDiff, Nat.reduceLT, Nat.reduceGT, Nat.reduceEqDiff, Nat.reduceBEq, Int.reduceNeg, Int.reduceEq, Int.reduceLT, Int.reduceLE, Int.reduceBEq, Int.reduceToNat, Int.toNat_natCast, Int.natCast_zero, r33_T, r33, q, Bool.true_and, Bool.false_and]
theorem number_ok (z : Int) (hp : List Ent) : F tab 34 [.d (.agg [iv z, iv 0]), .d (iv 0)] hp = some (.ret (.d (valN z).enc) hp) := by
  have n0 : ((0 : Int) != 0) = false := rfl
  refine f34 rfl ?_
  simp (disch := omega) only [go_sem, and_self, and_true, true_and, false_and, and_false, Nat.reduceAdd, Nat.reduceMul, Nat.reduceSub, Nat.reduceLeDiff, Nat.reduceLT, Nat.reduceGT, Nat.reduceEqDiff, Nat.reduceBEq, Int.reduceNeg, Int.reduceEq, Int.reduceLT, Int.reduceLE, Int.reduceBEq, Int.reduceToNat, Int.toNat_natCast, Int.natCast_zero, r34_T, r34, n0, valN, Val.enc, Val.encs, List.map_nil]
end Go.Pe.T

namespace Go.Pe.T
def bs (s : ByteArray) : List UInt8 := s.data.toList
theorem bs_len (s : ByteArray) : (bs s).length = s.size := rfl
theorem bs_toList (s : ByteArray) : s.toList = bs s := ByteArray.toList_eq s
theorem bs_get {s : ByteArray} {i : Nat} (h : i < s.size) : s[i]? = some s[i] ∧ (bs s).drop i = s[i] :: (bs s).drop (i + 1) := by
  have e : s[i] = s.data.toList[i]'h := rfl
  refine ⟨getElem?_pos s i h, ?_⟩
  unfold bs
  rw [e]; exact List.drop_eq_getElem_cons h
theorem bs_end {s : ByteArray} {i : Nat} (h : s.size ≤ i) : (bs s).drop i = [] := List.drop_of_length_le h

end Go.Pe.T

namespace Go.Pe.T
def nb (l : List UInt8) (i : Nat) : Int := ((l.getD i 0).toNat : Int)
def contB (c : Int) : Bool := !decide (c < 128) && !decide (c > 191)
def conts : List UInt8 → Nat → Bool
  | _, 0 => true
  | [], _ + 1 => false
  | c :: r, k + 1 => contB c.toNat && conts r k
def tailL (l : List UInt8) (n : Nat) (lo hi : Int) : Bool := !decide (l.length ≤ n) && ((!decide (nb l 1 < lo) && !decide (nb l 1 > hi)) && conts (l.drop 2) (n - 1))
def sizeL (l : List UInt8) : Nat :=
  if nb l 0 < 128 then 1
  else if (decide (nb l 0 ≥ 194) && decide (nb l 0 ≤ 223)) && tailL l 1 128 191 then 2
  else if (nb l 0 == 224 && tailL l 2 160 191) || (((decide (nb l 0 ≥ 225) && decide (nb l 0 ≤ 239)) && nb l 0 != 237) && tailL l 2 128 191 || nb l 0 == 237 && tailL l 2 128 159) then 3
  else if (nb l 0 == 240 && tailL l 3 144 191) || ((decide (nb l 0 ≥ 241) && decide (nb l 0 ≤ 243)) && tailL l 3 128 191 || nb l 0 == 244 && tailL l 3 128 143) then 4
  else 0
def validF : Nat → List UInt8 → Bool
  | _, [] => true
  | 0, _ :: _ => false
  | k + 1, c :: r => if sizeL (c :: r) = 0 then false else validF k ((c :: r).drop (sizeL (c :: r)))
def validB (s : ByteArray) : Bool := validF s.size (bs s)

theorem tail_len {l : List UInt8} {n : Nat} {lo hi : Int} (h : tailL l n lo hi = true) : n < l.length := by
  simp only [tailL, Bool.and_eq_true, Bool.not_eq_true', decide_eq_false_iff_not] at h
  omega
theorem sizeL_le (l : List UInt8) (hl : l ≠ []) : sizeL l ≤ l.length := by
  have h0 : 0 < l.length := List.length_pos_iff.2 hl
  unfold sizeL
  split
  · omega
  · split
    · rename_i h; simp only [Bool.and_eq_true] at h; have := tail_len h.2; omega
    · split
      · rename_i h; simp only [Bool.or_eq_true, Bool.and_eq_true] at h
        rcases h with h | h | h <;> (have := tail_len h.2; omega)
      · split
        · rename_i h; simp only [Bool.or_eq_true, Bool.and_eq_true] at h
          rcases h with h | h | h <;> (have := tail_len h.2; omega)
        · omega

theorem bs_nb {s : ByteArray} {i : Nat} (h : i < s.size) : ((s[i].toNat : Nat) : Int) = nb (bs s) i := by
  have e : s[i] = s.data.toList[i]'h := rfl
  simp only [nb, bs, List.getD_eq_getElem?_getD, List.getElem?_eq_getElem (show i < s.data.toList.length from h), Option.getD_some, e]

end Go.Pe.T

namespace Go.Pe.T

def putI (c : Int) : List Int :=
  if c < 128 then [c] else if c < 2048 then [192 + c / 64, 128 + c % 64] else if c < 65536 then [224 + c / 4096, 128 + c / 64 % 64, 128 + c % 64]
  else [240 + c / 262144, 128 + c / 4096 % 64, 128 + c / 64 % 64, 128 + c % 64]
theorem put_ok (c : Int) (h0 : 0 ≤ c) (h1 : c ≤ 2097151) (hp : List Ent) : F tab 47 [.d (iv c)] hp = some (.ret (.d (.sl ((putI c).map (D.int .u8)))) hp) := by
  refine f47 rfl ?_
  unfold putI
  have e1 : c.tdiv 64 = c / 64 := Int.tdiv_eq_ediv_of_nonneg h0
  have e2 : c.tdiv 4096 = c / 4096 := Int.tdiv_eq_ediv_of_nonneg h0
  have e3 : c.tdiv 262144 = c / 262144 := Int.tdiv_eq_ediv_of_nonneg h0
  have e4 : c.tmod 64 = c % 64 := Int.tmod_eq_emod_of_nonneg h0
  have e5 : (c / 64).tmod 64 = c / 64 % 64 := Int.tmod_eq_emod_of_nonneg (by omega)
  have e6 : (c / 4096).tmod 64 = c / 4096 % 64 := Int.tmod_eq_emod_of_nonneg (by omega)
  by_cases g1 : c < 128
  · simp (disch := omega) only [go_sem, and_self, and_true, true_and, false_and, and_false, Nat.reduceAdd, Nat.reduceMul, Nat.reduceSub, Nat.reduceLeDiff, Nat.reduceLT, Nat.reduceGT, Nat.reduceEqDiff, Nat.reduceBEq, Int.reduceNeg, Int.reduceEq, Int.reduceLT, Int.reduceLE, Int.reduceBEq, Int.reduceToNat, Int.toNat_natCast, Int.natCast_zero, r47_T, r47, g1, wu8, List.map_cons, List.map_nil]
  · by_cases g2 : c < 2048
    · simp (disch := omega) only [go_sem, and_self, and_true, true_and, false_and, and_false, Nat.reduceAdd, Nat.reduceMul, Nat.reduceSub, Nat.reduceLeDiff, Nat.reduceLT, Nat.reduceGT, Nat.reduceEqDiff, Nat.reduceBEq, Int.reduceNeg, Int.reduceEq, Int.reduceLT, Int.reduceLE, Int.reduceBEq, Int.reduceToNat, Int.toNat_natCast, Int.natCast_zero, r47_T, r47, g1, g2, w64, wu8, e1, e4, List.map_cons, List.map_nil]
    · by_cases g3 : c < 65536
      · simp (disch := omega) only [go_sem, and_self, and_true, true_and, false_and, and_false, Nat.reduceAdd, Nat.reduceMul, Nat.reduceSub, Nat.reduceLeDiff, Nat.reduceLT, Nat.reduceGT, Nat.reduceEqDiff, Nat.reduceBEq, Int.reduceNeg, Int.reduceEq, Int.reduceLT, Int.reduceLE, Int.reduceBEq, Int.reduceToNat, Int.toNat_natCast, Int.natCast_zero, r47_T, r47, g1, g2, g3, w64, wu8, e1, e2, e4, e5, List.map_cons, List.map_nil]
      · simp (disch := omega) only [go_sem, and_self, and_true, true_and, false_and, and_false, Nat.reduceAdd, Nat.reduceMul, Nat.reduceSub, Nat.reduceLeDiff, Nat.reduceLT, Nat.reduceGT, Nat.reduceEqDiff, Nat.reduceBEq, Int.reduceNeg, Int.reduceEq, Int.reduceLT, Int.reduceLE, Int.reduceBEq, Int.reduceToNat, Int.toNat_natCast, Int.natCast_zero, r47_T, r47, g1, g2, g3, w64, wu8, e1, e2, e3, e4, e5, e6, List.map_cons, List.map_nil]
end Go.Pe.T

namespace Go.Pe.T

def cdec : Int → List UInt8 → Nat → Int
  | c, _, 0 => c
  | c, [], _ + 1 => c
  | c, d :: r, k + 1 => cdec (64 * c + (d.toNat : Int) - 128) r k

def CiLoop (s : ByteArray) (l : List Int) (i n k : Nat) (c : Int) : Prop :=
  V (F tab) r29_B1 (r29_S1 (.d (.str s)) (.own 3 (l.map iv)) (.d (iv i)) (.d (iv n)) (.d (iv c)) (.d (iv k)) []) =
    if conts ((bs s).drop (i + k)) (n - k) then some (.norm, r29_E1 (.d (.str s)) (.own 3 (l.map iv)) (.d (iv i)) (.d (iv n)) (.d (iv (cdec c ((bs s).drop (i + k)) (n - k)))) [])
    else some (.ret, r29_R (.d (.sl [])) (.d (.bool false)) [])
theorem ci_end (s : ByteArray) (l : List Int) (i n k : Nat) (c : Int) (hk : n ≤ k) : CiLoop s l i n k c := by
  have h1 : ((k : Int) < (n : Int)) = False := eq_false (by omega)
  unfold CiLoop
  rw [r29_B1_eq, show n - k = 0 by omega]
  simp (disch := omega) only [go_sem, and_self, and_true, true_and, false_and, and_false, Nat.reduceAdd, Nat.reduceMul, Nat.reduceSub, Nat.reduceLeDiff, Nat.reduceLT, Nat.reduceGT, Nat.reduceEqDiff, Nat.reduceBEq, Int.reduceNeg, Int.reduceEq, Int.reduceLT, Int.reduceLE, Int.reduceBEq, Int.reduceToNat, Int.toNat_natCast, Int.natCast_zero, r29_C1, h1, conts, cdec]
theorem ci_step (s : ByteArray) (hs : s.size ≤ 1000000000) (l : List Int) (i n k : Nat) (c : Int) (hn : i + n ≤ s.size) (hk : k < n) (h4 : n ≤ 4) (hc : 0 ≤ c ∧ c ≤ 100000000) (ih : ∀ c' : Int, 0 ≤ c' → c' ≤ 64 * c + 63 → c' = 64 * c + (((bs s).drop (i + k)).headD 0).toNat - 128 → CiLoop s l i n (k + 1) c') : CiLoop s l i n k c := by
  have h1 : ((k : Int) < (n : Int)) = True := eq_true (by omega)
  have hi0 : (0 ≤ (i : Int) + (k : Int)) = True := eq_true (by omega)
  have ei : ((i : Int) + (k : Int)).toNat = i + k := by omega
  have hlt : i + k < s.size := by omega
  obtain ⟨va, vd⟩ := bs_get hlt
  have hb : s[i + k].toNat < 256 := UInt8.toNat_lt _
  have en : n - k = (n - (k + 1)) + 1 := by omega
  rw [vd] at ih
  simp only [List.headD_cons] at ih
  unfold CiLoop at ih ⊢
  rw [r29_B1_eq, vd, en]
  simp only [conts, cdec, contB]
  by_cases g1 : ((s[i + k].toNat : Nat) : Int) < 128
  · simp (disch := omega) only [go_sem, and_self, and_true, true_and, false_and, and_false, Nat.reduceAdd, Nat.reduceMul, Nat.reduceSub, Nat.reduceLeDiff, Nat.reduceLT, Nat.reduceGT, Nat.reduceEqDiff, Nat.reduceBEq, Int.reduceNeg, Int.reduceEq, Int.reduceLT, Int.reduceLE, Int.reduceBEq, Int.reduceToNat, Int.toNat_natCast, Int.natCast_zero, r29_C1, h1, hi0, ei, va, w64, g1, decide_true, Bool.not_true, Bool.false_and]
  · by_cases g2 : ((s[i + k].toNat : Nat) : Int) > 191
    · simp (disch := omega) only [go_sem, and_self, and_true, true_and, false_and, and_false, Nat.reduceAdd, Nat.reduceMul, Nat.reduceSub, Nat.reduceLeDiff, Nat.reduceLT, Nat.reduceGT, Nat.reduceEqDiff, Nat.reduceBEq, Int.reduceNeg, Int.reduceEq, Int.reduceLT, Int.reduceLE, Int.reduceBEq, Int.reduceToNat, Int.toNat_natCast, Int.natCast_zero, r29_C1, h1, hi0, ei, va, w64, g1, g2, decide_true, decide_false, Bool.not_true, Bool.not_false, Bool.false_and, Bool.true_and]
    · have ih := ih _ (by omega) (by omega) rfl
      rw [Int.natCast_add, Int.natCast_one, ← Nat.add_assoc] at ih
      simp (disch := omega) only [go_sem, and_self, and_true, true_and, false_and, and_false, Nat.reduceAdd, Nat.reduceMul, Nat.reduceSub, Nat.reduceLeDiff, Nat.reduceLT, Nat.reduceGT, Nat.reduceEqDiff, Nat.reduceBEq, Int.reduceNeg, Int.reduceEq, Int.reduceLT, Int.reduceLE, Int.reduceBEq, Int.reduceToNat, Int.toNat_natCast, Int.natCast_zero, r29_C1, h1, hi0, ei, va, w64, g1, g2, decide_true, decide_false, Bool.not_true, Bool.not_false, Bool.false_and, Bool.true_and]
      exact ih
theorem ci_loop (s : ByteArray) (hs : s.size ≤ 1000000000) (l : List Int) (i n : Nat) (hn : i + n ≤ s.size) (h4 : n ≤ 4) : ∀ (j k : Nat) (c : Int), k + j = n → 0 ≤ c → (c + 1) * 64 ^ j ≤ 100000000 → CiLoop s l i n k c
  | 0, k, c, hk, h0, hc => ci_end s l i n k c (by omega)
  | j + 1, k, c, hk, h0, hc => by
    have hp : (1 : Int) ≤ 64 ^ j := by exact_mod_cast Nat.one_le_pow j 64 (by omega)
    have e : (64 : Int) ^ (j + 1) = 64 * 64 ^ j := by rw [Int.pow_succ]; exact Int.mul_comm _ _
    rw [e] at hc
    have hc2 : (c + 1) * 64 * 64 ^ j ≤ 100000000 := by rw [Int.mul_assoc]; exact hc
    have hle : (c + 1) * 64 * 1 ≤ (c + 1) * 64 * 64 ^ j := Int.mul_le_mul_of_nonneg_left hp (by omega)
    refine ci_step s hs l i n k c hn (by omega) h4 ⟨h0, by omega⟩ fun c' h1 h2 _ => ci_loop s hs l i n hn h4 j (k + 1) c' (by omega) h1 ?_
    have : (c' + 1) * 64 ^ j ≤ (c + 1) * 64 * 64 ^ j := Int.mul_le_mul_of_nonneg_right (by omega) (by omega)
    omega

def ub (x : Int) : UInt8 := UInt8.ofNat x.toNat
theorem put_bytes : ∀ (p : List Int), optAll ((p.map (D.int .u8)).map asByte) = some (p.map ub)
  | [] => rfl
  | x :: p => by simp only [List.map_cons, asByte, optAll, put_bytes p]; rfl
def okC (s : ByteArray) (i n : Nat) (c : Int) : Bool := !(decide (c > 1114111) || (decide (c ≥ 55296) && decide (c < 57344))) && ((putI c).map ub == ((bs s).drop i).take n)
theorem bs_cut (s : ByteArray) (i j : Nat) : bs (s.extract i j) = ((bs s).drop i).take (j - i) := by
  simp [bs, ByteArray.data_extract, List.drop_take]
theorem cmp_put (s : ByteArray) (i n : Nat) (p : List UInt8) : ((⟨p.toArray⟩ : ByteArray).toList == (s.extract i (i + n)).toList) = (p == ((bs s).drop i).take n) := by
  have e : bs (⟨p.toArray⟩ : ByteArray) = p := by simp [bs]
  rw [bs_toList, bs_toList, bs_cut, e, show i + n - i = n by omega]
theorem cdec_le : ∀ (r : List UInt8) (j : Nat) (c : Int), 0 ≤ c → conts r j = true → 0 ≤ cdec c r j ∧ cdec c r j + 1 ≤ (c + 1) * 64 ^ j
  | r, 0, c, h0, h => by simp [cdec]; omega
  | [], j + 1, c, h0, h => by simp [conts] at h
  | d :: r, j + 1, c, h0, h => by
    simp only [conts, contB, Bool.and_eq_true, Bool.not_eq_true', decide_eq_false_iff_not] at h
    obtain ⟨i1, i2⟩ := cdec_le r j (64 * c + (d.toNat : Int) - 128) (by omega) h.2
    have e : (64 : Int) ^ (j + 1) = 64 * 64 ^ j := by rw [Int.pow_succ]; exact Int.mul_comm _ _
    have hp : (1 : Int) ≤ 64 ^ j := by exact_mod_cast Nat.one_le_pow j 64 (by omega)
    have h3 : (64 * c + (d.toNat : Int) - 128 + 1) * 64 ^ j ≤ ((c + 1) * 64) * 64 ^ j := Int.mul_le_mul_of_nonneg_right (by omega) (by omega)
    simp only [cdec]
    rw [e, ← Int.mul_assoc]
    omega

theorem sg_1 (s : ByteArray) (hs : s.size ≤ 2097152) (l : List Int) (hl : l.length ≤ 2097152) (i : Nat) (hi : i < s.size) (h1 : ((s[i].toNat : Nat) : Int) ≥ 0) (h2 : ((s[i].toNat : Nat) : Int) ≤ 127) :
    V (F tab) r29_B0 (r29_S0 (.d (.str s)) (.own 3 (l.map iv)) (.d (iv i)) []) =
      if decide (i + 1 ≤ s.size) && (conts ((bs s).drop (i + 1)) 0 && okC s i 1 (cdec ((s[i].toNat : Nat) : Int) ((bs s).drop (i + 1)) 0)) then
        V (F tab) r29_B0 (r29_S0 (.d (.str s)) (.own 3 ((l ++ [(cdec ((s[i].toNat : Nat) : Int) ((bs s).drop (i + 1)) 0)]).map iv)) (.d (iv (i + 1 : Nat))) [])
      else some (.ret, r29_R (.d (.sl [])) (.d (.bool false)) []) := by
  have q1 : ((i : Int) < (s.size : Int)) = True := eq_true (by omega)
  have hi0 : (0 ≤ (i : Int)) = True := eq_true (by omega)
  obtain ⟨va, vd⟩ := bs_get hi
  have xa : (((s[i].toNat : Nat) : Int) ≥ 240) = False := eq_false (by omega)
  have xd : (((s[i].toNat : Nat) : Int) ≥ 224) = False := eq_false (by omega)
  have xe : (((s[i].toNat : Nat) : Int) ≥ 192) = False := eq_false (by omega)
  have xg : (((s[i].toNat : Nat) : Int) ≥ 248) = False := eq_false (by omega)
  have xh : (((s[i].toNat : Nat) : Int) ≥ 128) = False := eq_false (by omega)
  rw [r29_B0_eq]
  by_cases g : i + 1 ≤ s.size
  · have q2 : ((i : Int) + 1 > (s.size : Int)) = False := eq_false (by omega)
    have hL := ci_loop s (by omega) l i 1 g (by omega) 0 1 ((s[i].toNat : Nat) : Int) (by omega) (by omega) (by simp only [Int.reducePow]; omega)
    unfold CiLoop at hL
    rw [show 1 - 1 = 0 from rfl] at hL
    rw [decide_eq_true g, Bool.true_and]
    simp (disch := omega) only [go_sem, and_self, and_true, true_and, false_and, and_false, Nat.reduceAdd, Nat.reduceMul, Nat.reduceSub, Nat.reduceLeDiff, Nat.reduceLT, Nat.reduceGT, Nat.reduceEqDiff, Nat.reduceBEq, Int.reduceNeg, Int.reduceEq, Int.reduceLT, Int.reduceLE, Int.reduceBEq, Int.reduceToNat, Int.toNat_natCast, Int.natCast_zero, r29_C0, q1, hi0, va, xa, xd, xe, xg, xh, w64, q2]
    rw [r29_B1_n]
    erw [hL]
    rcases Bool.eq_false_or_eq_true (conts ((bs s).drop (i + 1)) 0) with g2 | g2
    · obtain ⟨d1, d2⟩ := cdec_le _ _ ((s[i].toNat : Nat) : Int) (by omega) g2
      have d3 : (cdec ((s[i].toNat : Nat) : Int) ((bs s).drop (i + 1)) 0) ≤ 2097151 := by simp only [Int.reducePow] at d2; omega
      have hput := put_ok (cdec ((s[i].toNat : Nat) : Int) ((bs s).drop (i + 1)) 0) d1 d3
      rw [g2]
      simp only [if_true, Bool.true_and, okC]
      generalize (cdec ((s[i].toNat : Nat) : Int) ((bs s).drop (i + 1)) 0) = c at *
      have r1 : ((l.length + 1) * 8 ≤ maxRow) = True := eq_true (by simp only [maxRow]; omega)
      have hcmp := cmp_put s i 1 ((putI c).map ub)
      have et : ((i : Int) + ((1 : Nat) : Int)).toNat = i + 1 := by omega
      have q3 : ((i : Int) ≤ (i : Int) + ((1 : Nat) : Int)) = True := eq_true (by omega)
      have q4 : ((i : Int) + ((1 : Nat) : Int) ≤ (s.size : Int)) = True := eq_true (by omega)
      have ea : l.map iv ++ [iv c] = (l ++ [c]).map iv := by simp
      have all8 : ([iv c].all fun y => y.width == 1) = true := rfl
      rw [Int.natCast_add]
      by_cases k1 : c > 1114111
      · simp (disch := omega) only [go_sem, and_self, and_true, true_and, false_and, and_false, Nat.reduceAdd, Nat.reduceMul, Nat.reduceSub, Nat.reduceLeDiff, Nat.reduceLT, Nat.reduceGT, Nat.reduceEqDiff, Nat.reduceBEq, Int.reduceNeg, Int.reduceEq, Int.reduceLT, Int.reduceLE, Int.reduceBEq, Int.reduceToNat, Int.toNat_natCast, Int.natCast_zero, k1, decide_true, Bool.true_or, Bool.not_true, Bool.false_and]
      · by_cases k2 : c ≥ 55296
        · exfalso
          simp only [Int.reducePow] at d2
          omega
        · rcases Bool.eq_false_or_eq_true ((putI c).map ub == ((bs s).drop i).take 1) with k4 | k4 <;> rw [k4] at hcmp <;>
            simp (disch := omega) only [go_sem, and_self, and_true, true_and, false_and, and_false, Nat.reduceAdd, Nat.reduceMul, Nat.reduceSub, Nat.reduceLeDiff, Nat.reduceLT, Nat.reduceGT, Nat.reduceEqDiff, Nat.reduceBEq, Int.reduceNeg, Int.reduceEq, Int.reduceLT, Int.reduceLE, Int.reduceBEq, Int.reduceToNat, Int.toNat_natCast, Int.natCast_zero, k1, k2, k4, hput, put_bytes, hcmp, strD_neq, et, q3, q4, hi0, w64, r1, all8, ea, List.length_map, decide_true, decide_false, Bool.or_self, Bool.false_and, Bool.and_true, Bool.and_false, Bool.not_false, Bool.not_true, Int.toNat_natCast] <;> rfl
    · rw [g2]
      simp (disch := omega) only [go_sem, and_self, and_true, true_and, false_and, and_false, Nat.reduceAdd, Nat.reduceMul, Nat.reduceSub, Nat.reduceLeDiff, Nat.reduceLT, Nat.reduceGT, Nat.reduceEqDiff, Nat.reduceBEq, Int.reduceNeg, Int.reduceEq, Int.reduceLT, Int.reduceLE, Int.reduceBEq, Int.reduceToNat, Int.toNat_natCast, Int.natCast_zero, Bool.false_and]
  · have q2 : ((i : Int) + 1 > (s.size : Int)) = True := eq_true (by omega)
    rw [decide_eq_false g, Bool.false_and]
    simp (disch := omega) only [go_sem, and_self, and_true, true_and, false_and, and_false, Nat.reduceAdd, Nat.reduceMul, Nat.reduceSub, Nat.reduceLeDiff, Nat.reduceLT, Nat.reduceGT, Nat.reduceEqDiff, Nat.reduceBEq, Int.reduceNeg, Int.reduceEq, Int.reduceLT, Int.reduceLE, Int.reduceBEq, Int.reduceToNat, Int.toNat_natCast, Int.natCast_zero, r29_C0, q1, hi0, va, xa, xd, xe, xg, xh, w64, q2]

theorem sg_2 (s : ByteArray) (hs : s.size ≤ 2097152) (l : List Int) (hl : l.length ≤ 2097152) (i : Nat) (hi : i < s.size) (h1 : ((s[i].toNat : Nat) : Int) ≥ 192) (h2 : ((s[i].toNat : Nat) : Int) ≤ 223) :
    V (F tab) r29_B0 (r29_S0 (.d (.str s)) (.own 3 (l.map iv)) (.d (iv i)) []) =
      if decide (i + 2 ≤ s.size) && (conts ((bs s).drop (i + 1)) 1 && okC s i 2 (cdec (((s[i].toNat : Nat) : Int) - 192) ((bs s).drop (i + 1)) 1)) then
        V (F tab) r29_B0 (r29_S0 (.d (.str s)) (.own 3 ((l ++ [(cdec (((s[i].toNat : Nat) : Int) - 192) ((bs s).drop (i + 1)) 1)]).map iv)) (.d (iv (i + 2 : Nat))) [])
      else some (.ret, r29_R (.d (.sl [])) (.d (.bool false)) []) := by
  have q1 : ((i : Int) < (s.size : Int)) = True := eq_true (by omega)
  have hi0 : (0 ≤ (i : Int)) = True := eq_true (by omega)
  obtain ⟨va, vd⟩ := bs_get hi
  have xa : (((s[i].toNat : Nat) : Int) ≥ 240) = False := eq_false (by omega)
  have xd : (((s[i].toNat : Nat) : Int) ≥ 224) = False := eq_false (by omega)
  have xe : (((s[i].toNat : Nat) : Int) ≥ 192) = True := eq_true (by omega)
  have xg : (((s[i].toNat : Nat) : Int) ≥ 248) = False := eq_false (by omega)
  have xh : (((s[i].toNat : Nat) : Int) ≥ 128) = True := eq_true (by omega)
  have xm : (((s[i].toNat : Nat) : Int) < 192) = False := eq_false (by omega)
  rw [r29_B0_eq]
  by_cases g : i + 2 ≤ s.size
  · have q2 : ((i : Int) + 2 > (s.size : Int)) = False := eq_false (by omega)
    have hL := ci_loop s (by omega) l i 2 g (by omega) 1 1 (((s[i].toNat : Nat) : Int) - 192) (by omega) (by omega) (by simp only [Int.reducePow]; omega)
    unfold CiLoop at hL
    rw [show 2 - 1 = 1 from rfl] at hL
    rw [decide_eq_true g, Bool.true_and]
    simp (disch := omega) only [go_sem, and_self, and_true, true_and, false_and, and_false, Nat.reduceAdd, Nat.reduceMul, Nat.reduceSub, Nat.reduceLeDiff, Nat.reduceLT, Nat.reduceGT, Nat.reduceEqDiff, Nat.reduceBEq, Int.reduceNeg, Int.reduceEq, Int.reduceLT, Int.reduceLE, Int.reduceBEq, Int.reduceToNat, Int.toNat_natCast, Int.natCast_zero, r29_C0, q1, hi0, va, xa, xd, xe, xg, xh, xm, w64, q2]
    rw [r29_B1_n]
    erw [hL]
    rcases Bool.eq_false_or_eq_true (conts ((bs s).drop (i + 1)) 1) with g2 | g2
    · obtain ⟨d1, d2⟩ := cdec_le _ _ (((s[i].toNat : Nat) : Int) - 192) (by omega) g2
      have d3 : (cdec (((s[i].toNat : Nat) : Int) - 192) ((bs s).drop (i + 1)) 1) ≤ 2097151 := by simp only [Int.reducePow] at d2; omega
      have hput := put_ok (cdec (((s[i].toNat : Nat) : Int) - 192) ((bs s).drop (i + 1)) 1) d1 d3
      rw [g2]
      simp only [if_true, Bool.true_and, okC]
      generalize (cdec (((s[i].toNat : Nat) : Int) - 192) ((bs s).drop (i + 1)) 1) = c at *
      have r1 : ((l.length + 1) * 8 ≤ maxRow) = True := eq_true (by simp only [maxRow]; omega)
      have hcmp := cmp_put s i 2 ((putI c).map ub)
      have et : ((i : Int) + ((2 : Nat) : Int)).toNat = i + 2 := by omega
      have q3 : ((i : Int) ≤ (i : Int) + ((2 : Nat) : Int)) = True := eq_true (by omega)
      have q4 : ((i : Int) + ((2 : Nat) : Int) ≤ (s.size : Int)) = True := eq_true (by omega)
      have ea : l.map iv ++ [iv c] = (l ++ [c]).map iv := by simp
      have all8 : ([iv c].all fun y => y.width == 1) = true := rfl
      rw [Int.natCast_add]
      by_cases k1 : c > 1114111
      · simp (disch := omega) only [go_sem, and_self, and_true, true_and, false_and, and_false, Nat.reduceAdd, Nat.reduceMul, Nat.reduceSub, Nat.reduceLeDiff, Nat.reduceLT, Nat.reduceGT, Nat.reduceEqDiff, Nat.reduceBEq, Int.reduceNeg, Int.reduceEq, Int.reduceLT, Int.reduceLE, Int.reduceBEq, Int.reduceToNat, Int.toNat_natCast, Int.natCast_zero, k1, decide_true, Bool.true_or, Bool.not_true, Bool.false_and]
      · by_cases k2 : c ≥ 55296
        · exfalso
          simp only [Int.reducePow] at d2
          omega
        · rcases Bool.eq_false_or_eq_true ((putI c).map ub == ((bs s).drop i).take 2) with k4 | k4 <;> rw [k4] at hcmp <;>
            simp (disch := omega) only [go_sem, and_self, and_true, true_and, false_and, and_false, Nat.reduceAdd, Nat.reduceMul, Nat.reduceSub, Nat.reduceLeDiff, Nat.reduceLT, Nat.reduceGT, Nat.reduceEqDiff, Nat.reduceBEq, Int.reduceNeg, Int.reduceEq, Int.reduceLT, Int.reduceLE, Int.reduceBEq, Int.reduceToNat, Int.toNat_natCast, Int.natCast_zero, k1, k2, k4, hput, put_bytes, hcmp, strD_neq, et, q3, q4, hi0, w64, r1, all8, ea, List.length_map, decide_true, decide_false, Bool.or_self, Bool.false_and, Bool.and_true, Bool.and_false, Bool.not_false, Bool.not_true, Int.toNat_natCast] <;> rfl
    · rw [g2]
      simp (disch := omega) only [go_sem, and_self, and_true, true_and, false_and, and_false, Nat.reduceAdd, Nat.reduceMul, Nat.reduceSub, Nat.reduceLeDiff, Nat.reduceLT, Nat.reduceGT, Nat.reduceEqDiff, Nat.reduceBEq, Int.reduceNeg, Int.reduceEq, Int.reduceLT, Int.reduceLE, Int.reduceBEq, Int.reduceToNat, Int.toNat_natCast, Int.natCast_zero, Bool.false_and]
  · have q2 : ((i : Int) + 2 > (s.size : Int)) = True := eq_true (by omega)
    rw [decide_eq_false g, Bool.false_and]
    simp (disch := omega) only [go_sem, and_self, and_true, true_and, false_and, and_false, Nat.reduceAdd, Nat.reduceMul, Nat.reduceSub, Nat.reduceLeDiff, Nat.reduceLT, Nat.reduceGT, Nat.reduceEqDiff, Nat.reduceBEq, Int.reduceNeg, Int.reduceEq, Int.reduceLT, Int.reduceLE, Int.reduceBEq, Int.reduceToNat, Int.toNat_natCast, Int.natCast_zero, r29_C0, q1, hi0, va, xa, xd, xe, xg, xh, xm, w64, q2]

theorem sg_3 (s : ByteArray) (hs : s.size ≤ 2097152) (l : List Int) (hl : l.length ≤ 2097152) (i : Nat) (hi : i < s.size) (h1 : ((s[i].toNat : Nat) : Int) ≥ 224) (h2 : ((s[i].toNat : Nat) : Int) ≤ 239) :
    V (F tab) r29_B0 (r29_S0 (.d (.str s)) (.own 3 (l.map iv)) (.d (iv i)) []) =
      if decide (i + 3 ≤ s.size) && (conts ((bs s).drop (i + 1)) 2 && okC s i 3 (cdec (((s[i].toNat : Nat) : Int) - 224) ((bs s).drop (i + 1)) 2)) then
        V (F tab) r29_B0 (r29_S0 (.d (.str s)) (.own 3 ((l ++ [(cdec (((s[i].toNat : Nat) : Int) - 224) ((bs s).drop (i + 1)) 2)]).map iv)) (.d (iv (i + 3 : Nat))) [])
      else some (.ret, r29_R (.d (.sl [])) (.d (.bool false)) []) := by
  have q1 : ((i : Int) < (s.size : Int)) = True := eq_true (by omega)
  have hi0 : (0 ≤ (i : Int)) = True := eq_true (by omega)
  obtain ⟨va, vd⟩ := bs_get hi
  have xa : (((s[i].toNat : Nat) : Int) ≥ 240) = False := eq_false (by omega)
  have xd : (((s[i].toNat : Nat) : Int) ≥ 224) = True := eq_true (by omega)
  have xg : (((s[i].toNat : Nat) : Int) ≥ 248) = False := eq_false (by omega)
  have xh : (((s[i].toNat : Nat) : Int) ≥ 128) = True := eq_true (by omega)
  have xm : (((s[i].toNat : Nat) : Int) < 192) = False := eq_false (by omega)
  rw [r29_B0_eq]
  by_cases g : i + 3 ≤ s.size
  · have q2 : ((i : Int) + 3 > (s.size : Int)) = False := eq_false (by omega)
    have hL := ci_loop s (by omega) l i 3 g (by omega) 2 1 (((s[i].toNat : Nat) : Int) - 224) (by omega) (by omega) (by simp only [Int.reducePow]; omega)
    unfold CiLoop at hL
    rw [show 3 - 1 = 2 from rfl] at hL
    rw [decide_eq_true g, Bool.true_and]
    simp (disch := omega) only [go_sem, and_self, and_true, true_and, false_and, and_false, Nat.reduceAdd, Nat.reduceMul, Nat.reduceSub, Nat.reduceLeDiff, Nat.reduceLT, Nat.reduceGT, Nat.reduceEqDiff, Nat.reduceBEq, Int.reduceNeg, Int.reduceEq, Int.reduceLT, Int.reduceLE, Int.reduceBEq, Int.reduceToNat, Int.toNat_natCast, Int.natCast_zero, r29_C0, q1, hi0, va, xa, xd, xg, xh, xm, w64, q2]
    rw [r29_B1_n]
    erw [hL]
    rcases Bool.eq_false_or_eq_true (conts ((bs s).drop (i + 1)) 2) with g2 | g2
    · obtain ⟨d1, d2⟩ := cdec_le _ _ (((s[i].toNat : Nat) : Int) - 224) (by omega) g2
      have d3 : (cdec (((s[i].toNat : Nat) : Int) - 224) ((bs s).drop (i + 1)) 2) ≤ 2097151 := by simp only [Int.reducePow] at d2; omega
      have hput := put_ok (cdec (((s[i].toNat : Nat) : Int) - 224) ((bs s).drop (i + 1)) 2) d1 d3
      rw [g2]
      simp only [if_true, Bool.true_and, okC]
      generalize (cdec (((s[i].toNat : Nat) : Int) - 224) ((bs s).drop (i + 1)) 2) = c at *
      have r1 : ((l.length + 1) * 8 ≤ maxRow) = True := eq_true (by simp only [maxRow]; omega)
      have hcmp := cmp_put s i 3 ((putI c).map ub)
      have et : ((i : Int) + ((3 : Nat) : Int)).toNat = i + 3 := by omega
      have q3 : ((i : Int) ≤ (i : Int) + ((3 : Nat) : Int)) = True := eq_true (by omega)
      have q4 : ((i : Int) + ((3 : Nat) : Int) ≤ (s.size : Int)) = True := eq_true (by omega)
      have ea : l.map iv ++ [iv c] = (l ++ [c]).map iv := by simp
      have all8 : ([iv c].all fun y => y.width == 1) = true := rfl
      rw [Int.natCast_add]
      by_cases k1 : c > 1114111
      · simp (disch := omega) only [go_sem, and_self, and_true, true_and, false_and, and_false, Nat.reduceAdd, Nat.reduceMul, Nat.reduceSub, Nat.reduceLeDiff, Nat.reduceLT, Nat.reduceGT, Nat.reduceEqDiff, Nat.reduceBEq, Int.reduceNeg, Int.reduceEq, Int.reduceLT, Int.reduceLE, Int.reduceBEq, Int.reduceToNat, Int.toNat_natCast, Int.natCast_zero, k1, decide_true, Bool.true_or, Bool.not_true, Bool.false_and]
      · by_cases k2 : c ≥ 55296
        · by_cases k3 : c < 57344
          · simp (disch := omega) only [go_sem, and_self, and_true, true_and, false_and, and_false, Nat.reduceAdd, Nat.reduceMul, Nat.reduceSub, Nat.reduceLeDiff, Nat.reduceLT, Nat.reduceGT, Nat.reduceEqDiff, Nat.reduceBEq, Int.reduceNeg, Int.reduceEq, Int.reduceLT, Int.reduceLE, Int.reduceBEq, Int.reduceToNat, Int.toNat_natCast, Int.natCast_zero, k1, k2, k3, decide_true, decide_false, Bool.true_or, Bool.false_or, Bool.true_and, Bool.not_true, Bool.false_and]
          · rcases Bool.eq_false_or_eq_true ((putI c).map ub == ((bs s).drop i).take 3) with k4 | k4 <;> rw [k4] at hcmp <;>
              simp (disch := omega) only [go_sem, and_self, and_true, true_and, false_and, and_false, Nat.reduceAdd, Nat.reduceMul, Nat.reduceSub, Nat.reduceLeDiff, Nat.reduceLT, Nat.reduceGT, Nat.reduceEqDiff, Nat.reduceBEq, Int.reduceNeg, Int.reduceEq, Int.reduceLT, Int.reduceLE, Int.reduceBEq, Int.reduceToNat, Int.toNat_natCast, Int.natCast_zero, k1, k2, k3, k4, hput, put_bytes, hcmp, strD_neq, et, q3, q4, hi0, w64, r1, all8, ea, List.length_map, decide_true, decide_false, Bool.or_self, Bool.and_self, Bool.and_true, Bool.and_false, Bool.not_false, Bool.not_true, Int.toNat_natCast] <;> rfl
        · rcases Bool.eq_false_or_eq_true ((putI c).map ub == ((bs s).drop i).take 3) with k4 | k4 <;> rw [k4] at hcmp <;>
            simp (disch := omega) only [go_sem, and_self, and_true, true_and, false_and, and_false, Nat.reduceAdd, Nat.reduceMul, Nat.reduceSub, Nat.reduceLeDiff, Nat.reduceLT, Nat.reduceGT, Nat.reduceEqDiff, Nat.reduceBEq, Int.reduceNeg, Int.reduceEq, Int.reduceLT, Int.reduceLE, Int.reduceBEq, Int.reduceToNat, Int.toNat_natCast, Int.natCast_zero, k1, k2, k4, hput, put_bytes, hcmp, strD_neq, et, q3, q4, hi0, w64, r1, all8, ea, List.length_map, decide_true, decide_false, Bool.or_self, Bool.false_and, Bool.and_true, Bool.and_false, Bool.not_false, Bool.not_true, Int.toNat_natCast] <;> rfl
    · rw [g2]
      simp (disch := omega) only [go_sem, and_self, and_true, true_and, false_and, and_false, Nat.reduceAdd, Nat.reduceMul, Nat.reduceSub, Nat.reduceLeDiff, Nat.reduceLT, Nat.reduceGT, Nat.reduceEqDiff, Nat.reduceBEq, Int.reduceNeg, Int.reduceEq, Int.reduceLT, Int.reduceLE, Int.reduceBEq, Int.reduceToNat, Int.toNat_natCast, Int.natCast_zero, Bool.false_and]
  · have q2 : ((i : Int) + 3 > (s.size : Int)) = True := eq_true (by omega)
    rw [decide_eq_false g, Bool.false_and]
    simp (disch := omega) only [go_sem, and_self, and_true, true_and, false_and, and_false, Nat.reduceAdd, Nat.reduceMul, Nat.reduceSub, Nat.reduceLeDiff, Nat.reduceLT, Nat.reduceGT, Nat.reduceEqDiff, Nat.reduceBEq, Int.reduceNeg, Int.reduceEq, Int.reduceLT, Int.reduceLE, Int.reduceBEq, Int.reduceToNat, Int.toNat_natCast, Int.natCast_zero, r29_C0, q1, hi0, va, xa, xd, xg, xh, xm, w64, q2]

theorem sg_4 (s : ByteArray) (hs : s.size ≤ 2097152) (l : List Int) (hl : l.length ≤ 2097152) (i : Nat) (hi : i < s.size) (h1 : ((s[i].toNat : Nat) : Int) ≥ 240) (h2 : ((s[i].toNat : Nat) : Int) ≤ 247) :
    V (F tab) r29_B0 (r29_S0 (.d (.str s)) (.own 3 (l.map iv)) (.d (iv i)) []) =
      if decide (i + 4 ≤ s.size) && (conts ((bs s).drop (i + 1)) 3 && okC s i 4 (cdec (((s[i].toNat : Nat) : Int) - 240) ((bs s).drop (i + 1)) 3)) then
        V (F tab) r29_B0 (r29_S0 (.d (.str s)) (.own 3 ((l ++ [(cdec (((s[i].toNat : Nat) : Int) - 240) ((bs s).drop (i + 1)) 3)]).map iv)) (.d (iv (i + 4 : Nat))) [])
      else some (.ret, r29_R (.d (.sl [])) (.d (.bool false)) []) := by
  have q1 : ((i : Int) < (s.size : Int)) = True := eq_true (by omega)
  have hi0 : (0 ≤ (i : Int)) = True := eq_true (by omega)
  obtain ⟨va, vd⟩ := bs_get hi
  have xa : (((s[i].toNat : Nat) : Int) ≥ 240) = True := eq_true (by omega)
  have xb : (((s[i].toNat : Nat) : Int) < 248) = True := eq_true (by omega)
  have xg : (((s[i].toNat : Nat) : Int) ≥ 248) = False := eq_false (by omega)
  have xh : (((s[i].toNat : Nat) : Int) ≥ 128) = True := eq_true (by omega)
  have xm : (((s[i].toNat : Nat) : Int) < 192) = False := eq_false (by omega)
  rw [r29_B0_eq]
  by_cases g : i + 4 ≤ s.size
  · have q2 : ((i : Int) + 4 > (s.size : Int)) = False := eq_false (by omega)
    have hL := ci_loop s (by omega) l i 4 g (by omega) 3 1 (((s[i].toNat : Nat) : Int) - 240) (by omega) (by omega) (by simp only [Int.reducePow]; omega)
    unfold CiLoop at hL
    rw [show 4 - 1 = 3 from rfl] at hL
    rw [decide_eq_true g, Bool.true_and]
    simp (disch := omega) only [go_sem, and_self, and_true, true_and, false_and, and_false, Nat.reduceAdd, Nat.reduceMul, Nat.reduceSub, Nat.reduceLeDiff, Nat.reduceLT, Nat.reduceGT, Nat.reduceEqDiff, Nat.reduceBEq, Int.reduceNeg, Int.reduceEq, Int.reduceLT, Int.reduceLE, Int.reduceBEq, Int.reduceToNat, Int.toNat_natCast, Int.natCast_zero, r29_C0, q1, hi0, va, xa, xb, xg, xh, xm, w64, q2]
    rw [r29_B1_n]
    erw [hL]
    rcases Bool.eq_false_or_eq_true (conts ((bs s).drop (i + 1)) 3) with g2 | g2
    · obtain ⟨d1, d2⟩ := cdec_le _ _ (((s[i].toNat : Nat) : Int) - 240) (by omega) g2
      have d3 : (cdec (((s[i].toNat : Nat) : Int) - 240) ((bs s).drop (i + 1)) 3) ≤ 2097151 := by simp only [Int.reducePow] at d2; omega
      have hput := put_ok (cdec (((s[i].toNat : Nat) : Int) - 240) ((bs s).drop (i + 1)) 3) d1 d3
      rw [g2]
      simp only [if_true, Bool.true_and, okC]
      generalize (cdec (((s[i].toNat : Nat) : Int) - 240) ((bs s).drop (i + 1)) 3) = c at *
      have r1 : ((l.length + 1) * 8 ≤ maxRow) = True := eq_true (by simp only [maxRow]; omega)
      have hcmp := cmp_put s i 4 ((putI c).map ub)
      have et : ((i : Int) + ((4 : Nat) : Int)).toNat = i + 4 := by omega
      have q3 : ((i : Int) ≤ (i : Int) + ((4 : Nat) : Int)) = True := eq_true (by omega)
      have q4 : ((i : Int) + ((4 : Nat) : Int) ≤ (s.size : Int)) = True := eq_true (by omega)
      have ea : l.map iv ++ [iv c] = (l ++ [c]).map iv := by simp
      have all8 : ([iv c].all fun y => y.width == 1) = true := rfl
      rw [Int.natCast_add]
      by_cases k1 : c > 1114111
      · simp (disch := omega) only [go_sem, and_self, and_true, true_and, false_and, and_false, Nat.reduceAdd, Nat.reduceMul, Nat.reduceSub, Nat.reduceLeDiff, Nat.reduceLT, Nat.reduceGT, Nat.reduceEqDiff, Nat.reduceBEq, Int.reduceNeg, Int.reduceEq, Int.reduceLT, Int.reduceLE, Int.reduceBEq, Int.reduceToNat, Int.toNat_natCast, Int.natCast_zero, k1, decide_true, Bool.true_or, Bool.not_true, Bool.false_and]
      · by_cases k2 : c ≥ 55296
        · by_cases k3 : c < 57344
          · simp (disch := omega) only [go_sem, and_self, and_true, true_and, false_and, and_false, Nat.reduceAdd, Nat.reduceMul, Nat.reduceSub, Nat.reduceLeDiff, Nat.reduceLT, Nat.reduceGT, Nat.reduceEqDiff, Nat.reduceBEq, Int.reduceNeg, Int.reduceEq, Int.reduceLT, Int.reduceLE, Int.reduceBEq, Int.reduceToNat, Int.toNat_natCast, Int.natCast_zero, k1, k2, k3, decide_true, decide_false, Bool.true_or, Bool.false_or, Bool.true_and, Bool.not_true, Bool.false_and]
          · rcases Bool.eq_false_or_eq_true ((putI c).map ub == ((bs s).drop i).take 4) with k4 | k4 <;> rw [k4] at hcmp <;>
              simp (disch := omega) only [go_sem, and_self, and_true, true_and, false_and, and_false, Nat.reduceAdd, Nat.reduceMul, Nat.reduceSub, Nat.reduceLeDiff, Nat.reduceLT, Nat.reduceGT, Nat.reduceEqDiff, Nat.reduceBEq, Int.reduceNeg, Int.reduceEq, Int.reduceLT, Int.reduceLE, Int.reduceBEq, Int.reduceToNat, Int.toNat_natCast, Int.natCast_zero, k1, k2, k3, k4, hput, put_bytes, hcmp, strD_neq, et, q3, q4, hi0, w64, r1, all8, ea, List.length_map, decide_true, decide_false, Bool.or_self, Bool.and_self, Bool.and_true, Bool.and_false, Bool.not_false, Bool.not_true, Int.toNat_natCast] <;> rfl
        · rcases Bool.eq_false_or_eq_true ((putI c).map ub == ((bs s).drop i).take 4) with k4 | k4 <;> rw [k4] at hcmp <;>
            simp (disch := omega) only [go_sem, and_self, and_true, true_and, false_and, and_false, Nat.reduceAdd, Nat.reduceMul, Nat.reduceSub, Nat.reduceLeDiff, Nat.reduceLT, Nat.reduceGT, Nat.reduceEqDiff, Nat.reduceBEq, Int.reduceNeg, Int.reduceEq, Int.reduceLT, Int.reduceLE, Int.reduceBEq, Int.reduceToNat, Int.toNat_natCast, Int.natCast_zero, k1, k2, k4, hput, put_bytes, hcmp, strD_neq, et, q3, q4, hi0, w64, r1, all8, ea, List.length_map, decide_true, decide_false, Bool.or_self, Bool.false_and, Bool.and_true, Bool.and_false, Bool.not_false, Bool.not_true, Int.toNat_natCast] <;> rfl
    · rw [g2]
      simp (disch := omega) only [go_sem, and_self, and_true, true_and, false_and, and_false, Nat.reduceAdd, Nat.reduceMul, Nat.reduceSub, Nat.reduceLeDiff, Nat.reduceLT, Nat.reduceGT, Nat.reduceEqDiff, Nat.reduceBEq, Int.reduceNeg, Int.reduceEq, Int.reduceLT, Int.reduceLE, Int.reduceBEq, Int.reduceToNat, Int.toNat_natCast, Int.natCast_zero, Bool.false_and]
  · have q2 : ((i : Int) + 4 > (s.size : Int)) = True := eq_true (by omega)
    rw [decide_eq_false g, Bool.false_and]
    simp (disch := omega) only [go_sem, and_self, and_true, true_and, false_and, and_false, Nat.reduceAdd, Nat.reduceMul, Nat.reduceSub, Nat.reduceLeDiff, Nat.reduceLT, Nat.reduceGT, Nat.reduceEqDiff, Nat.reduceBEq, Int.reduceNeg, Int.reduceEq, Int.reduceLT, Int.reduceLE, Int.reduceBEq, Int.reduceToNat, Int.toNat_natCast, Int.natCast_zero, r29_C0, q1, hi0, va, xa, xb, xg, xh, xm, w64, q2]

end Go.Pe.T
