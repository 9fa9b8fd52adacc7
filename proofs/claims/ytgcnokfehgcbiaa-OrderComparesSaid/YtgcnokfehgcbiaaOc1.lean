/- A part of the proof of: The law OrderCompares holds: whatever two values come in, order.Compare answers as the document's answer does, so the law returns true and leaves its arguments as they were; there is no condition. -/
import Derived.Test.YtgcnokfehgcbiaaPe2
import Derived.Test.YtgcnokfehgcbiaaProg
import Derived.KernelRfl
set_option linter.unusedSimpArgs false
set_option linter.unusedVariables false
set_option maxRecDepth 10000

namespace Go.Pe.T
def r85_C0 : RCode := .seq (.seq (.reg [⟨some 14, none, .mv false (.t 7)⟩, ⟨some 15, none, .fad 4 (.t 3)⟩, ⟨some 16, none, .ld false none (.t 15)⟩, ⟨some 17, none, .len false (.t 16)⟩, ⟨some 18, none, .bin .lss (.t 14) (.t 17)⟩] [15] false) (.cond (.t 18) (.skip) (.exit 0))) (.seq (.block 1 [.kill, .keep, .keep, .keep, .kill, .kill, .kill, .keep] (.reg [⟨some 21, none, .fad 4 (.t 3)⟩, ⟨some 22, none, .ld false none (.t 21)⟩, ⟨some 23, none, .mv false (.t 7)⟩, ⟨some 24, none, .iad none 6 (.t 22) (.t 23)⟩, ⟨some 25, none, .ld false (some 6) (.t 24)⟩, ⟨some 26, none, .mv false (.t 1)⟩, ⟨some 27, none, .mv false (.t 2)⟩, ⟨some 28, none, .call false (.f 85) [(.t 25), (.t 26), (.t 27)]⟩, ⟨some 1, none, .mv false (.t 28)⟩] [21, 24] false)) (.reg [⟨some 19, none, .mv false (.t 7)⟩, ⟨some 20, none, .bin .add (.t 19) (.c (.d (.int .i64 1)))⟩, ⟨some 7, none, .mv false (.t 20)⟩] [] false))
def r85_B0 : RCode := .block 0 [.kill, .keep] (.loop [.kill, .keep, .keep, .keep, .kill, .kill, .kill, .keep] r85_C0)
theorem r85_B0_eq {cf : CF} {s : St} : V cf r85_B0 s = loopK cf r85_B0 0 [.kill, .keep] [.kill, .keep, .keep, .keep, .kill, .kill, .kill, .keep] (V cf r85_C0 (s.head [.kill, .keep, .keep, .keep, .kill, .kill, .kill, .keep])) := V_bloop
/-- at the loop -/
abbrev r85_S0 (x1 x2 x3 x7 : PV) (hp : List Ent) : St := ⟨[.dead, x1, x2, x3, .dead, .dead, .dead, x7, .dead, .dead, .dead, .dead, .dead, .dead, .dead, .dead, .dead, .dead, .dead, .dead, .dead, .dead, .dead, .dead, .dead, .dead, .dead, .dead, .dead, .dead], hp⟩
/-- behind the loop -/
abbrev r85_E0 (x1 : PV) (hp : List Ent) : St := ⟨[.dead, x1, .dead, .dead, .dead, .dead, .dead, .dead, .dead, .dead, .dead, .dead, .dead, .dead, .dead, .dead, .dead, .dead, .dead, .dead, .dead, .dead, .dead, .dead, .dead, .dead, .dead, .dead, .dead, .dead], hp⟩
theorem r85_B0_n {cf : CF} {a0 x1 x2 x3 a4 a5 a6 x7 a8 a9 a10 a11 a12 a13 a14 a15 a16 a17 a18 a19 a20 a21 a22 a23 a24 a25 a26 a27 a28 a29 : PV} {hp : List Ent} : V cf r85_B0 ⟨[a0, x1, x2, x3, a4, a5, a6, x7, a8, a9, a10, a11, a12, a13, a14, a15, a16, a17, a18, a19, a20, a21, a22, a23, a24, a25, a26, a27, a28, a29], hp⟩ = V cf r85_B0 (r85_S0 x1 x2 x3 x7 hp) := by rw [r85_B0_eq, r85_B0_eq]; rfl
/-- at the end -/
abbrev r85_R (x6 : PV) (hp : List Ent) : St := ⟨[.dead, .dead, .dead, .dead, .dead, .dead, x6, .dead, .dead, .dead, .dead, .dead, .dead, .dead, .dead, .dead, .dead, .dead, .dead, .dead, .dead, .dead, .dead, .dead, .dead, .dead, .dead, .dead, .dead, .dead], hp⟩
/-- keyhole/keyholeref05.Size -/
def r85_T : RCode := .seq (.reg [⟨some 3, none, .bx false true (.t 0)⟩, ⟨some 6, none, .mv false (.c (.d (.int .i64 0)))⟩] [] false) (.seq (.seq (.reg [⟨some 8, none, .mv false (.t 1)⟩, ⟨some 9, none, .mv false (.t 2)⟩, ⟨some 10, none, .bin .geq (.t 8) (.t 9)⟩] [] false) (.cond (.t 10) (.seq (.reg [⟨some 11, none, .mv false (.t 1)⟩, ⟨some 6, none, .mv false (.t 11)⟩] [] false) (.ret [.kill, .kill, .kill, .kill, .kill, .kill, .keep])) (.skip))) (.seq (.reg [⟨some 12, none, .mv false (.t 1)⟩, ⟨some 13, none, .bin .add (.t 12) (.c (.d (.int .i64 1)))⟩, ⟨some 1, none, .mv false (.t 13)⟩] [] false) (.seq (.seq (.reg [⟨some 7, none, .mv false (.c (.d (.int .i64 0)))⟩] [] false) (r85_B0)) (.seq (.reg [⟨some 29, none, .mv false (.t 1)⟩, ⟨some 6, none, .mv false (.t 29)⟩] [] false) (.ret [.kill, .kill, .kill, .kill, .kill, .kill, .keep])))))
def r85 : RFunc := ⟨30, true, [.t 6], r85_T⟩
def r86_C0 : RCode := .seq (.seq (.reg [⟨some 8, none, .mv false (.t 5)⟩, ⟨some 9, none, .fad 4 (.t 2)⟩, ⟨some 10, none, .ld false none (.t 9)⟩, ⟨some 11, none, .len false (.t 10)⟩, ⟨some 12, none, .bin .lss (.t 8) (.t 11)⟩] [9] false) (.cond (.t 12) (.skip) (.exit 0))) (.seq (.block 1 [.kill, .keep, .keep, .kill, .kill, .keep] (.seq (.reg [⟨some 15, none, .fad 4 (.t 2)⟩, ⟨some 16, none, .ld false none (.t 15)⟩, ⟨some 17, none, .mv false (.t 5)⟩, ⟨some 18, none, .iad none 6 (.t 16) (.t 17)⟩, ⟨some 19, none, .ld false (some 6) (.t 18)⟩, ⟨some 20, none, .mv false (.t 1)⟩, ⟨some 21, none, .bin .sub (.t 20) (.c (.d (.int .i64 1)))⟩, ⟨some 22, none, .call false (.f 86) [(.t 19), (.t 21)]⟩, ⟨some 23, none, .un .not (.t 22)⟩] [15, 18] false) (.cond (.t 23) (.seq (.reg [⟨some 4, none, .mv false (.c (.d (.bool false)))⟩] [] false) (.ret [.kill, .kill, .kill, .kill, .keep])) (.skip)))) (.reg [⟨some 13, none, .mv false (.t 5)⟩, ⟨some 14, none, .bin .add (.t 13) (.c (.d (.int .i64 1)))⟩, ⟨some 5, none, .mv false (.t 14)⟩] [] false))
def r86_B0 : RCode := .block 0 [] (.loop [.kill, .keep, .keep, .kill, .kill, .keep] r86_C0)
theorem r86_B0_eq {cf : CF} {s : St} : V cf r86_B0 s = loopK cf r86_B0 0 [] [.kill, .keep, .keep, .kill, .kill, .keep] (V cf r86_C0 (s.head [.kill, .keep, .keep, .kill, .kill, .keep])) := V_bloop
/-- at the loop -/
abbrev r86_S0 (x1 x2 x5 : PV) (hp : List Ent) : St := ⟨[.dead, x1, x2, .dead, .dead, x5, .dead, .dead, .dead, .dead, .dead, .dead, .dead, .dead, .dead, .dead, .dead, .dead, .dead, .dead, .dead, .dead, .dead, .dead], hp⟩
/-- behind the loop -/
abbrev r86_E0  (hp : List Ent) : St := ⟨[.dead, .dead, .dead, .dead, .dead, .dead, .dead, .dead, .dead, .dead, .dead, .dead, .dead, .dead, .dead, .dead, .dead, .dead, .dead, .dead, .dead, .dead, .dead, .dead], hp⟩
theorem r86_B0_n {cf : CF} {a0 x1 x2 a3 a4 x5 a6 a7 a8 a9 a10 a11 a12 a13 a14 a15 a16 a17 a18 a19 a20 a21 a22 a23 : PV} {hp : List Ent} : V cf r86_B0 ⟨[a0, x1, x2, a3, a4, x5, a6, a7, a8, a9, a10, a11, a12, a13, a14, a15, a16, a17, a18, a19, a20, a21, a22, a23], hp⟩ = V cf r86_B0 (r86_S0 x1 x2 x5 hp) := by rw [r86_B0_eq, r86_B0_eq]; rfl
/-- at the end -/
abbrev r86_R (x4 : PV) (hp : List Ent) : St := ⟨[.dead, .dead, .dead, .dead, x4, .dead, .dead, .dead, .dead, .dead, .dead, .dead, .dead, .dead, .dead, .dead, .dead, .dead, .dead, .dead, .dead, .dead, .dead, .dead], hp⟩
/-- keyhole/keyholeref05.Flat -/
def r86_T : RCode := .seq (.reg [⟨some 2, none, .bx false true (.t 0)⟩, ⟨some 4, none, .mv false (.c (.d (.bool false)))⟩] [] false) (.seq (.seq (.reg [⟨some 6, none, .mv false (.t 1)⟩, ⟨some 7, none, .bin .lss (.t 6) (.c (.d (.int .i64 0)))⟩] [] false) (.cond (.t 7) (.seq (.reg [⟨some 4, none, .mv false (.c (.d (.bool false)))⟩] [] false) (.ret [.kill, .kill, .kill, .kill, .keep])) (.skip))) (.seq (.seq (.reg [⟨some 5, none, .mv false (.c (.d (.int .i64 0)))⟩] [] false) (r86_B0)) (.seq (.reg [⟨some 4, none, .mv false (.c (.d (.bool true)))⟩] [] false) (.ret [.kill, .kill, .kill, .kill, .keep]))))
def r86 : RFunc := ⟨24, true, [.t 4], r86_T⟩
/-- at the end -/
abbrev r55_R (x4 : PV) (hp : List Ent) : St := ⟨[.dead, .dead, .dead, .dead, x4, .dead, .dead, .dead, .dead, .dead, .dead, .dead, .dead, .dead, .dead], hp⟩
/-- keyhole/keyholeref05.Light -/
def r55_T : RCode := .seq (.reg [⟨some 2, none, .bx false true (.t 0)⟩, ⟨some 4, none, .mv false (.c (.d (.bool false)))⟩] [] false) (.seq (.reg [⟨some 5, none, .ld false (some 6) (.t 2)⟩, ⟨some 6, none, .mv false (.t 1)⟩, ⟨some 7, none, .bin .add (.t 6) (.c (.d (.int .i64 1)))⟩, ⟨some 8, none, .call false (.f 85) [(.t 5), (.c (.d (.int .i64 0))), (.t 7)]⟩, ⟨some 9, none, .mv false (.t 1)⟩, ⟨some 10, none, .bin .leq (.t 8) (.t 9)⟩, ⟨some 11, none, .mv false (.t 10)⟩, ⟨some 12, some (11, true), .ld false (some 6) (.t 2)⟩, ⟨some 13, some (11, true), .call false (.f 86) [(.t 12), (.c (.d (.int .i64 60)))]⟩, ⟨some 14, none, .pick (.t 11) (.t 13) (.c (.d (.bool false)))⟩, ⟨some 4, none, .mv false (.t 14)⟩] [] false) (.ret [.kill, .kill, .kill, .kill, .keep]))
def r55 : RFunc := ⟨15, true, [.t 4], r55_T⟩
def r15_C0 : RCode := .seq (.seq (.reg [⟨some 4, none, .mv false (.t 3)⟩, ⟨some 5, none, .mv false (.t 0)⟩, ⟨some 6, none, .len false (.t 5)⟩, ⟨some 7, none, .bin .lss (.t 4) (.t 6)⟩, ⟨some 8, none, .mv false (.t 7)⟩, ⟨some 9, some (8, true), .mv false (.t 3)⟩, ⟨some 10, some (8, true), .bin .lss (.t 9) (.c (.d (.int .i64 20)))⟩, ⟨some 11, none, .pick (.t 8) (.t 10) (.c (.d (.bool false)))⟩] [] false) (.cond (.t 11) (.skip) (.exit 0))) (.seq (.block 1 [.keep, .kill, .kill, .keep] (.seq (.reg [⟨some 14, none, .mv false (.t 0)⟩, ⟨some 15, none, .mv false (.t 3)⟩, ⟨some 16, none, .iad none 6 (.t 14) (.t 15)⟩, ⟨some 17, none, .ld false (some 6) (.t 16)⟩, ⟨some 18, none, .call false (.f 55) [(.t 17), (.c (.d (.int .i64 6000)))]⟩, ⟨some 19, none, .un .not (.t 18)⟩] [16] false) (.cond (.t 19) (.seq (.reg [⟨some 2, none, .mv false (.c (.d (.bool false)))⟩] [] false) (.ret [.kill, .kill, .keep])) (.skip)))) (.reg [⟨some 12, none, .mv false (.t 3)⟩, ⟨some 13, none, .bin .add (.t 12) (.c (.d (.int .i64 1)))⟩, ⟨some 3, none, .mv false (.t 13)⟩] [] false))
def r15_B0 : RCode := .block 0 [.keep] (.loop [.keep, .kill, .kill, .keep] r15_C0)
theorem r15_B0_eq {cf : CF} {s : St} : V cf r15_B0 s = loopK cf r15_B0 0 [.keep] [.keep, .kill, .kill, .keep] (V cf r15_C0 (s.head [.keep, .kill, .kill, .keep])) := V_bloop
/-- at the loop -/
abbrev r15_S0 (x0 x3 : PV) (hp : List Ent) : St := ⟨[x0, .dead, .dead, x3, .dead, .dead, .dead, .dead, .dead, .dead, .dead, .dead, .dead, .dead, .dead, .dead, .dead, .dead, .dead, .dead, .dead, .dead, .dead], hp⟩
/-- behind the loop -/
abbrev r15_E0 (x0 : PV) (hp : List Ent) : St := ⟨[x0, .dead, .dead, .dead, .dead, .dead, .dead, .dead, .dead, .dead, .dead, .dead, .dead, .dead, .dead, .dead, .dead, .dead, .dead, .dead, .dead, .dead, .dead], hp⟩
theorem r15_B0_n {cf : CF} {x0 a1 a2 x3 a4 a5 a6 a7 a8 a9 a10 a11 a12 a13 a14 a15 a16 a17 a18 a19 a20 a21 a22 : PV} {hp : List Ent} : V cf r15_B0 ⟨[x0, a1, a2, x3, a4, a5, a6, a7, a8, a9, a10, a11, a12, a13, a14, a15, a16, a17, a18, a19, a20, a21, a22], hp⟩ = V cf r15_B0 (r15_S0 x0 x3 hp) := by rw [r15_B0_eq, r15_B0_eq]; rfl
/-- at the end -/
abbrev r15_R (x2 : PV) (hp : List Ent) : St := ⟨[.dead, .dead, x2, .dead, .dead, .dead, .dead, .dead, .dead, .dead, .dead, .dead, .dead, .dead, .dead, .dead, .dead, .dead, .dead, .dead, .dead, .dead, .dead], hp⟩
/-- keyhole/keyholelaw07.light -/
def r15_T : RCode := .seq (.reg [⟨some 2, none, .mv false (.c (.d (.bool false)))⟩] [] false) (.seq (.seq (.reg [⟨some 3, none, .mv false (.c (.d (.int .i64 0)))⟩] [] false) (r15_B0)) (.seq (.reg [⟨some 20, none, .mv false (.t 0)⟩, ⟨some 21, none, .len false (.t 20)⟩, ⟨some 22, none, .bin .leq (.t 21) (.c (.d (.int .i64 12)))⟩, ⟨some 2, none, .mv false (.t 22)⟩] [] false) (.ret [.kill, .kill, .keep])))
def r15 : RFunc := ⟨23, true, [.t 2], r15_T⟩
/-- at the end -/
abbrev r119_R (x2 : PV) (hp : List Ent) : St := ⟨[.dead, .dead, x2, .dead, .dead, .dead], hp⟩
/-- cmp.isNaN[int] -/
def r119_T : RCode := .seq (.reg [⟨some 2, none, .mv false (.c (.d (.bool false)))⟩] [] false) (.seq (.reg [⟨some 3, none, .mv false (.t 0)⟩, ⟨some 4, none, .mv false (.t 0)⟩, ⟨some 5, none, .bin .neq (.t 3) (.t 4)⟩, ⟨some 2, none, .mv false (.t 5)⟩] [] false) (.ret [.kill, .kill, .keep]))
def r119 : RFunc := ⟨6, true, [.t 2], r119_T⟩
/-- at the end -/
abbrev r87_R (x4 : PV) (hp : List Ent) : St := ⟨[.dead, .dead, .dead, .dead, x4, .dead, .dead, .dead, .dead, .dead, .dead, .dead, .dead, .dead, .dead, .dead, .dead, .dead, .dead, .dead], hp⟩
/-- cmp.Compare[int] -/
def r87_T : RCode := .seq (.reg [⟨some 4, none, .mv false (.c (.d (.int .i64 0)))⟩] [] false) (.seq (.reg [⟨some 7, none, .mv false (.t 0)⟩, ⟨some 8, none, .call false (.f 119) [(.t 7)]⟩, ⟨some 5, none, .mv false (.t 8)⟩] [] false) (.seq (.reg [⟨some 9, none, .mv false (.t 1)⟩, ⟨some 10, none, .call false (.f 119) [(.t 9)]⟩, ⟨some 6, none, .mv false (.t 10)⟩] [] false) (.seq (.seq (.reg [⟨some 11, none, .mv false (.t 5)⟩] [] false) (.cond (.t 11) (.seq (.seq (.reg [⟨some 12, none, .mv false (.t 6)⟩] [] false) (.cond (.t 12) (.seq (.reg [⟨some 4, none, .mv false (.c (.d (.int .i64 0)))⟩] [] false) (.ret [.kill, .kill, .kill, .kill, .keep])) (.skip))) (.seq (.reg [⟨some 4, none, .mv false (.c (.d (.int .i64 (-1))))⟩] [] false) (.ret [.kill, .kill, .kill, .kill, .keep]))) (.skip))) (.seq (.seq (.reg [⟨some 13, none, .mv false (.t 6)⟩] [] false) (.cond (.t 13) (.seq (.reg [⟨some 4, none, .mv false (.c (.d (.int .i64 1)))⟩] [] false) (.ret [.kill, .kill, .kill, .kill, .keep])) (.skip))) (.seq (.seq (.reg [⟨some 14, none, .mv false (.t 0)⟩, ⟨some 15, none, .mv false (.t 1)⟩, ⟨some 16, none, .bin .lss (.t 14) (.t 15)⟩] [] false) (.cond (.t 16) (.seq (.reg [⟨some 4, none, .mv false (.c (.d (.int .i64 (-1))))⟩] [] false) (.ret [.kill, .kill, .kill, .kill, .keep])) (.skip))) (.seq (.seq (.reg [⟨some 17, none, .mv false (.t 0)⟩, ⟨some 18, none, .mv false (.t 1)⟩, ⟨some 19, none, .bin .gtr (.t 17) (.t 18)⟩] [] false) (.cond (.t 19) (.seq (.reg [⟨some 4, none, .mv false (.c (.d (.int .i64 1)))⟩] [] false) (.ret [.kill, .kill, .kill, .kill, .keep])) (.skip))) (.seq (.reg [⟨some 4, none, .mv false (.c (.d (.int .i64 0)))⟩] [] false) (.ret [.kill, .kill, .kill, .kill, .keep]))))))))
def r87 : RFunc := ⟨20, true, [.t 4], r87_T⟩
/-- at the end -/
abbrev r88_R (x2 : PV) (hp : List Ent) : St := ⟨[.dead, .dead, x2, .dead, .dead, .dead, .dead, .dead, .dead, .dead], hp⟩
/-- keyhole/order.rank -/
def r88_T : RCode := .seq (.reg [⟨some 2, none, .mv false (.c (.d (.int .i64 0)))⟩] [] false) (.seq (.seq (.reg [⟨some 3, none, .mv false (.t 0)⟩, ⟨some 4, none, .bin .lss (.t 3) (.c (.d (.int .i64 0)))⟩, ⟨some 5, none, .mv false (.t 4)⟩, ⟨some 6, some (5, false), .mv false (.t 0)⟩, ⟨some 7, some (5, false), .bin .gtr (.t 6) (.c (.d (.int .i64 7)))⟩, ⟨some 8, none, .pick (.t 5) (.c (.d (.bool true))) (.t 7)⟩] [] false) (.cond (.t 8) (.seq (.reg [⟨some 2, none, .mv false (.c (.d (.int .i64 8)))⟩] [] false) (.ret [.kill, .kill, .keep])) (.skip))) (.seq (.reg [⟨some 9, none, .mv false (.t 0)⟩, ⟨some 2, none, .mv false (.t 9)⟩] [] false) (.ret [.kill, .kill, .keep])))
def r88 : RFunc := ⟨10, true, [.t 2], r88_T⟩
/-- at the end -/
abbrev r123_R (x2 : PV) (hp : List Ent) : St := ⟨[.dead, .dead, x2, .dead, .dead, .dead, .dead, .dead, .dead, .dead, .dead, .dead, .dead, .dead, .dead, .dead, .dead, .dead, .dead, .dead, .dead, .dead, .dead, .dead, .dead, .dead, .dead, .dead, .dead, .dead], hp⟩
/-- keyhole/num.Is -/
def r123_T : RCode := .seq (.reg [⟨some 1, none, .bx false true (.t 0)⟩, ⟨some 2, none, .mv false (.c (.d (.bool false)))⟩] [] false) (.seq (.seq (.reg [⟨some 3, none, .fad 1 (.t 1)⟩, ⟨some 4, none, .ld false none (.t 3)⟩, ⟨some 5, none, .bin .lss (.t 4) (.c (.d (.int .i64 0)))⟩, ⟨some 6, none, .mv false (.t 5)⟩, ⟨some 7, some (6, false), .fad 1 (.t 1)⟩, ⟨some 8, some (6, false), .ld false none (.t 7)⟩, ⟨some 9, some (6, false), .bin .gtr (.t 8) (.c (.d (.int .i64 9)))⟩, ⟨some 10, none, .pick (.t 6) (.c (.d (.bool true))) (.t 9)⟩, ⟨some 11, none, .mv false (.t 10)⟩, ⟨some 12, some (11, false), .fad 0 (.t 1)⟩, ⟨some 13, some (11, false), .ld false none (.t 12)⟩, ⟨some 14, some (11, false), .bin .leq (.t 13) (.c (.d (.int .i64 (-1000000000000000))))⟩, ⟨some 15, none, .pick (.t 11) (.c (.d (.bool true))) (.t 14)⟩, ⟨some 16, none, .mv false (.t 15)⟩, ⟨some 17, some (16, false), .fad 0 (.t 1)⟩, ⟨some 18, some (16, false), .ld false none (.t 17)⟩, ⟨some 19, some (16, false), .bin .geq (.t 18) (.c (.d (.int .i64 1000000000000000)))⟩, ⟨some 20, none, .pick (.t 16) (.c (.d (.bool true))) (.t 19)⟩] [3, 7, 12, 17] false) (.cond (.t 20) (.seq (.reg [⟨some 2, none, .mv false (.c (.d (.bool false)))⟩] [] false) (.ret [.kill, .kill, .keep])) (.skip))) (.seq (.reg [⟨some 21, none, .fad 1 (.t 1)⟩, ⟨some 22, none, .ld false none (.t 21)⟩, ⟨some 23, none, .bin .eql (.t 22) (.c (.d (.int .i64 0)))⟩, ⟨some 24, none, .mv false (.t 23)⟩, ⟨some 25, some (24, false), .fad 0 (.t 1)⟩, ⟨some 26, some (24, false), .ld false none (.t 25)⟩, ⟨some 27, some (24, false), .bin .rem (.t 26) (.c (.d (.int .i64 10)))⟩, ⟨some 28, some (24, false), .bin .neq (.t 27) (.c (.d (.int .i64 0)))⟩, ⟨some 29, none, .pick (.t 24) (.c (.d (.bool true))) (.t 28)⟩, ⟨some 2, none, .mv false (.t 29)⟩] [21, 25] false) (.ret [.kill, .kill, .keep])))
def r123 : RFunc := ⟨30, true, [.t 2], r123_T⟩
/-- at the end -/
abbrev r120_R (x4 : PV) (hp : List Ent) : St := ⟨[.dead, .dead, .dead, .dead, x4, .dead, .dead, .dead, .dead, .dead, .dead], hp⟩
/-- keyhole/num.both -/
def r120_T : RCode := .seq (.reg [⟨some 2, none, .bx false true (.t 0)⟩, ⟨some 3, none, .bx false true (.t 1)⟩, ⟨some 4, none, .mv false (.c (.d (.bool false)))⟩] [] false) (.seq (.reg [⟨some 5, none, .ld false (some 2) (.t 2)⟩, ⟨some 6, none, .call false (.f 123) [(.t 5)]⟩, ⟨some 7, none, .mv false (.t 6)⟩, ⟨some 8, some (7, true), .ld false (some 2) (.t 3)⟩, ⟨some 9, some (7, true), .call false (.f 123) [(.t 8)]⟩, ⟨some 10, none, .pick (.t 7) (.t 9) (.c (.d (.bool false)))⟩, ⟨some 4, none, .mv false (.t 10)⟩] [] false) (.ret [.kill, .kill, .kill, .kill, .keep]))
def r120 : RFunc := ⟨11, true, [.t 4], r120_T⟩
def r141_C0 : RCode := .seq (.reg [⟨some 6, none, .bin .lss (.t 5) (.t 4)⟩] [] false) (.seq (.cond (.t 6) (.skip) (.exit 0)) (.seq (.block 1 [.kill, .kill, .kill, .keep, .keep, .keep] (.reg [⟨some 7, none, .mv false (.t 3)⟩, ⟨some 8, none, .bin .mul (.t 7) (.c (.d (.int .i64 10)))⟩, ⟨some 3, none, .mv false (.t 8)⟩] [] false)) (.reg [⟨some 9, none, .bin .add (.t 5) (.c (.d (.int .i64 1)))⟩, ⟨some 5, none, .mv false (.t 9)⟩] [] false)))
def r141_B0 : RCode := .block 0 [.kill, .kill, .kill, .keep] (.loop [.kill, .kill, .kill, .keep, .keep, .keep] r141_C0)
theorem r141_B0_eq {cf : CF} {s : St} : V cf r141_B0 s = loopK cf r141_B0 0 [.kill, .kill, .kill, .keep] [.kill, .kill, .kill, .keep, .keep, .keep] (V cf r141_C0 (s.head [.kill, .kill, .kill, .keep, .keep, .keep])) := V_bloop
/-- at the loop -/
abbrev r141_S0 (x3 x4 x5 : PV) (hp : List Ent) : St := ⟨[.dead, .dead, .dead, x3, x4, x5, .dead, .dead, .dead, .dead, .dead], hp⟩
/-- behind the loop -/
abbrev r141_E0 (x3 : PV) (hp : List Ent) : St := ⟨[.dead, .dead, .dead, x3, .dead, .dead, .dead, .dead, .dead, .dead, .dead], hp⟩
theorem r141_B0_n {cf : CF} {a0 a1 a2 x3 x4 x5 a6 a7 a8 a9 a10 : PV} {hp : List Ent} : V cf r141_B0 ⟨[a0, a1, a2, x3, x4, x5, a6, a7, a8, a9, a10], hp⟩ = V cf r141_B0 (r141_S0 x3 x4 x5 hp) := by rw [r141_B0_eq, r141_B0_eq]; rfl
/-- at the end -/
abbrev r141_R (x2 : PV) (hp : List Ent) : St := ⟨[.dead, .dead, x2, .dead, .dead, .dead, .dead, .dead, .dead, .dead, .dead], hp⟩
/-- keyhole/num.pow -/
def r141_T : RCode := .seq (.reg [⟨some 2, none, .mv false (.c (.d (.int .i64 0)))⟩] [] false) (.seq (.reg [⟨some 3, none, .mv false (.c (.d (.int .i64 1)))⟩] [] false) (.seq (.seq (.reg [⟨some 4, none, .mv false (.t 0)⟩, ⟨some 5, none, .mv false (.c (.d (.int .i64 0)))⟩] [] false) (r141_B0)) (.seq (.reg [⟨some 10, none, .mv false (.t 3)⟩, ⟨some 2, none, .mv false (.t 10)⟩] [] false) (.ret [.kill, .kill, .keep]))))
def r141 : RFunc := ⟨11, true, [.t 2], r141_T⟩
/-- at the end -/
abbrev r121_R (x2 x3 : PV) (hp : List Ent) : St := ⟨[.dead, .dead, x2, x3, .dead, .dead, .dead, .dead, .dead, .dead, .dead, .dead, .dead, .dead, .dead, .dead, .dead, .dead, .dead, .dead, .dead], hp⟩
/-- keyhole/num.cut -/
def r121_T : RCode := .seq (.reg [⟨some 1, none, .bx false true (.t 0)⟩, ⟨some 2, none, .mv false (.c (.d (.int .i64 0)))⟩, ⟨some 3, none, .mv false (.c (.d (.int .i64 0)))⟩] [] false) (.seq (.reg [⟨some 5, none, .fad 1 (.t 1)⟩, ⟨some 6, none, .ld false none (.t 5)⟩, ⟨some 7, none, .call false (.f 141) [(.t 6)]⟩, ⟨some 4, none, .mv false (.t 7)⟩] [5] false) (.seq (.reg [⟨some 8, none, .fad 0 (.t 1)⟩, ⟨some 9, none, .ld false none (.t 8)⟩, ⟨some 10, none, .mv false (.t 4)⟩, ⟨some 11, none, .bin .quo (.t 9) (.t 10)⟩, ⟨some 12, none, .fad 0 (.t 1)⟩, ⟨some 13, none, .ld false none (.t 12)⟩, ⟨some 14, none, .mv false (.t 4)⟩, ⟨some 15, none, .bin .rem (.t 13) (.t 14)⟩, ⟨some 16, none, .fad 1 (.t 1)⟩, ⟨some 17, none, .ld false none (.t 16)⟩, ⟨some 18, none, .bin .sub (.c (.d (.int .i64 9))) (.t 17)⟩, ⟨some 19, none, .call false (.f 141) [(.t 18)]⟩, ⟨some 20, none, .bin .mul (.t 15) (.t 19)⟩, ⟨some 2, none, .mv false (.t 11)⟩, ⟨some 3, none, .mv false (.t 20)⟩] [8, 12, 16] true) (.ret [.kill, .kill, .keep, .keep])))
def r121 : RFunc := ⟨21, true, [.t 2, .t 3], r121_T⟩
/-- at the end -/
abbrev r122_R (x4 : PV) (hp : List Ent) : St := ⟨[.dead, .dead, .dead, .dead, x4, .dead, .dead, .dead, .dead, .dead, .dead, .dead, .dead], hp⟩
/-- keyhole/num.order -/
def r122_T : RCode := .seq (.reg [⟨some 4, none, .mv false (.c (.d (.int .i64 0)))⟩] [] false) (.seq (.block 0 [] (.seq (.reg [⟨some 6, none, .mv false (.t 0)⟩, ⟨some 7, none, .mv false (.t 1)⟩, ⟨some 8, none, .bin .lss (.t 6) (.t 7)⟩, ⟨some 5, none, .mv false (.t 8)⟩] [] false) (.cond (.t 5) (.seq (.reg [⟨some 4, none, .mv false (.c (.d (.int .i64 (-1))))⟩] [] false) (.ret [.kill, .kill, .kill, .kill, .keep])) (.seq (.reg [⟨some 10, none, .mv false (.t 0)⟩, ⟨some 11, none, .mv false (.t 1)⟩, ⟨some 12, none, .bin .gtr (.t 10) (.t 11)⟩, ⟨some 9, none, .mv false (.t 12)⟩] [] false) (.cond (.t 9) (.seq (.reg [⟨some 4, none, .mv false (.c (.d (.int .i64 1)))⟩] [] false) (.ret [.kill, .kill, .kill, .kill, .keep])) (.skip)))))) (.seq (.reg [⟨some 4, none, .mv false (.c (.d (.int .i64 0)))⟩] [] false) (.ret [.kill, .kill, .kill, .kill, .keep])))
def r122 : RFunc := ⟨13, true, [.t 4], r122_T⟩
/-- at the end -/
abbrev r89_R (x4 : PV) (hp : List Ent) : St := ⟨[.dead, .dead, .dead, .dead, x4, .dead, .dead, .dead, .dead, .dead, .dead, .dead, .dead, .dead, .dead, .dead, .dead, .dead, .dead, .dead, .dead, .dead, .dead, .dead, .dead, .dead, .dead, .dead, .dead, .dead, .dead, .dead], hp⟩
/-- keyhole/num.Cmp -/
def r89_T : RCode := .seq (.reg [⟨some 2, none, .bx false true (.t 0)⟩, ⟨some 3, none, .bx false true (.t 1)⟩, ⟨some 4, none, .mv false (.c (.d (.int .i64 0)))⟩] [] false) (.seq (.seq (.reg [⟨some 9, none, .ld false (some 2) (.t 2)⟩, ⟨some 10, none, .ld false (some 2) (.t 3)⟩, ⟨some 11, none, .call false (.f 120) [(.t 9), (.t 10)]⟩, ⟨some 12, none, .un .not (.t 11)⟩] [] false) (.cond (.t 12) (.seq (.reg [⟨some 4, none, .mv false (.c (.d (.int .i64 0)))⟩] [] false) (.ret [.kill, .kill, .kill, .kill, .keep])) (.skip))) (.seq (.reg [⟨some 14, none, .ld false (some 2) (.t 2)⟩, ⟨some 15, none, .call false (.f 121) [(.t 14)]⟩, ⟨some 13, none, .mvt (.t 15)⟩, ⟨some 16, none, .ext false (.t 13) 0⟩, ⟨some 17, none, .ext false (.t 13) 1⟩, ⟨some 5, none, .mv false (.t 16)⟩, ⟨some 6, none, .mv false (.t 17)⟩] [] false) (.seq (.reg [⟨some 19, none, .ld false (some 2) (.t 3)⟩, ⟨some 20, none, .call false (.f 121) [(.t 19)]⟩, ⟨some 18, none, .mvt (.t 20)⟩, ⟨some 21, none, .ext false (.t 18) 0⟩, ⟨some 22, none, .ext false (.t 18) 1⟩, ⟨some 7, none, .mv false (.t 21)⟩, ⟨some 8, none, .mv false (.t 22)⟩] [] false) (.seq (.seq (.reg [⟨some 23, none, .mv false (.t 5)⟩, ⟨some 24, none, .mv false (.t 7)⟩, ⟨some 25, none, .bin .neq (.t 23) (.t 24)⟩] [] false) (.cond (.t 25) (.seq (.reg [⟨some 26, none, .mv false (.t 5)⟩, ⟨some 27, none, .mv false (.t 7)⟩, ⟨some 28, none, .call false (.f 122) [(.t 26), (.t 27)]⟩, ⟨some 4, none, .mv false (.t 28)⟩] [] false) (.ret [.kill, .kill, .kill, .kill, .keep])) (.skip))) (.seq (.reg [⟨some 29, none, .mv false (.t 6)⟩, ⟨some 30, none, .mv false (.t 8)⟩, ⟨some 31, none, .call false (.f 122) [(.t 29), (.t 30)]⟩, ⟨some 4, none, .mv false (.t 31)⟩] [] false) (.ret [.kill, .kill, .kill, .kill, .keep]))))))
def r89 : RFunc := ⟨32, true, [.t 4], r89_T⟩
/-- at the end -/
abbrev r90_R (x2 : PV) (hp : List Ent) : St := ⟨[.dead, .dead, x2, .dead, .dead, .dead, .dead, .dead], hp⟩
/-- keyhole/order.clean -/
def r90_T : RCode := .seq (.reg [⟨some 1, none, .bx false true (.t 0)⟩, ⟨some 2, none, .zal false [.d (.int .i64 0), .d (.int .i64 0)]⟩] [] false) (.seq (.seq (.reg [⟨some 3, none, .ld false (some 2) (.t 1)⟩, ⟨some 4, none, .call false (.f 123) [(.t 3)]⟩, ⟨some 5, none, .un .not (.t 4)⟩] [] false) (.cond (.t 5) (.seq (.reg [⟨some 6, none, .bld [.int .i64 0, .int .i64 0] []⟩, ⟨none, none, .sto (some 2) (.t 2) (.t 6)⟩] [] false) (.ret [.kill, .kill, .keep])) (.skip))) (.seq (.reg [⟨some 7, none, .ld false (some 2) (.t 1)⟩, ⟨none, none, .sto (some 2) (.t 2) (.t 7)⟩] [] false) (.ret [.kill, .kill, .keep])))
def r90 : RFunc := ⟨8, true, [.cell 2 (some 2)], r90_T⟩
/-- at the end -/
abbrev r124_R (x2 : PV) (hp : List Ent) : St := ⟨[.dead, .dead, x2, .dead, .dead, .dead], hp⟩
/-- cmp.isNaN[string] -/
def r124_T : RCode := .seq (.reg [⟨some 2, none, .mv false (.c (.d (.bool false)))⟩] [] false) (.seq (.reg [⟨some 3, none, .mv false (.t 0)⟩, ⟨some 4, none, .mv false (.t 0)⟩, ⟨some 5, none, .bin .neq (.t 3) (.t 4)⟩, ⟨some 2, none, .mv false (.t 5)⟩] [] false) (.ret [.kill, .kill, .keep]))
def r124 : RFunc := ⟨6, true, [.t 2], r124_T⟩
/-- at the end -/
abbrev r91_R (x4 : PV) (hp : List Ent) : St := ⟨[.dead, .dead, .dead, .dead, x4, .dead, .dead, .dead, .dead, .dead, .dead, .dead, .dead, .dead, .dead, .dead, .dead, .dead, .dead, .dead], hp⟩
/-- cmp.Compare[string] -/
def r91_T : RCode := .seq (.reg [⟨some 4, none, .mv false (.c (.d (.int .i64 0)))⟩] [] false) (.seq (.reg [⟨some 7, none, .mv false (.t 0)⟩, ⟨some 8, none, .call false (.f 124) [(.t 7)]⟩, ⟨some 5, none, .mv false (.t 8)⟩] [] false) (.seq (.reg [⟨some 9, none, .mv false (.t 1)⟩, ⟨some 10, none, .call false (.f 124) [(.t 9)]⟩, ⟨some 6, none, .mv false (.t 10)⟩] [] false) (.seq (.seq (.reg [⟨some 11, none, .mv false (.t 5)⟩] [] false) (.cond (.t 11) (.seq (.seq (.reg [⟨some 12, none, .mv false (.t 6)⟩] [] false) (.cond (.t 12) (.seq (.reg [⟨some 4, none, .mv false (.c (.d (.int .i64 0)))⟩] [] false) (.ret [.kill, .kill, .kill, .kill, .keep])) (.skip))) (.seq (.reg [⟨some 4, none, .mv false (.c (.d (.int .i64 (-1))))⟩] [] false) (.ret [.kill, .kill, .kill, .kill, .keep]))) (.skip))) (.seq (.seq (.reg [⟨some 13, none, .mv false (.t 6)⟩] [] false) (.cond (.t 13) (.seq (.reg [⟨some 4, none, .mv false (.c (.d (.int .i64 1)))⟩] [] false) (.ret [.kill, .kill, .kill, .kill, .keep])) (.skip))) (.seq (.seq (.reg [⟨some 14, none, .mv false (.t 0)⟩, ⟨some 15, none, .mv false (.t 1)⟩, ⟨some 16, none, .bin .lss (.t 14) (.t 15)⟩] [] false) (.cond (.t 16) (.seq (.reg [⟨some 4, none, .mv false (.c (.d (.int .i64 (-1))))⟩] [] false) (.ret [.kill, .kill, .kill, .kill, .keep])) (.skip))) (.seq (.seq (.reg [⟨some 17, none, .mv false (.t 0)⟩, ⟨some 18, none, .mv false (.t 1)⟩, ⟨some 19, none, .bin .gtr (.t 17) (.t 18)⟩] [] false) (.cond (.t 19) (.seq (.reg [⟨some 4, none, .mv false (.c (.d (.int .i64 1)))⟩] [] false) (.ret [.kill, .kill, .kill, .kill, .keep])) (.skip))) (.seq (.reg [⟨some 4, none, .mv false (.c (.d (.int .i64 0)))⟩] [] false) (.ret [.kill, .kill, .kill, .kill, .keep]))))))))
def r91 : RFunc := ⟨20, true, [.t 4], r91_T⟩
def r92_C0 : RCode := .seq (.reg [⟨some 15, none, .bin .lss (.t 14) (.t 13)⟩] [] false) (.seq (.cond (.t 15) (.skip) (.exit 0)) (.seq (.block 1 [.keep, .keep, .keep, .kill, .kill, .kill, .kill, .kill, .kill, .kill, .kill, .kill, .kill, .keep, .keep] (.seq (.reg [⟨some 16, none, .mv false (.t 14)⟩, ⟨some 7, none, .mv false (.t 16)⟩] [] false) (.seq (.reg [⟨some 17, none, .mv false (.t 0)⟩, ⟨some 18, none, .mv false (.t 1)⟩, ⟨some 19, none, .mv false (.t 7)⟩, ⟨some 20, none, .iad none 6 (.t 18) (.t 19)⟩, ⟨some 21, none, .ld false (some 6) (.t 20)⟩, ⟨some 22, none, .mv false (.t 2)⟩, ⟨some 23, none, .mv false (.t 7)⟩, ⟨some 24, none, .iad none 6 (.t 22) (.t 23)⟩, ⟨some 25, none, .ld false (some 6) (.t 24)⟩, ⟨some 26, none, .call false (.f 57) [(.t 17), (.t 21), (.t 25)]⟩, ⟨some 8, none, .mv false (.t 26)⟩] [20, 24] true) (.seq (.reg [⟨some 27, none, .mv false (.t 8)⟩, ⟨some 28, none, .bin .neq (.t 27) (.c (.d (.int .i64 0)))⟩, ⟨some 29, none, .mv false (.t 28)⟩, ⟨some 30, some (29, false), .mv false (.t 0)⟩, ⟨some 31, some (29, false), .nchk (.t 30)⟩, ⟨some 32, some (29, false), .fad 0 (.t 31)⟩, ⟨some 33, some (29, false), .ld false none (.t 32)⟩, ⟨some 34, some (29, false), .bin .lss (.t 33) (.c (.d (.int .i64 0)))⟩, ⟨some 35, none, .pick (.t 29) (.c (.d (.bool true))) (.t 34)⟩] [31, 32] false) (.cond (.t 35) (.seq (.reg [⟨some 36, none, .mv false (.t 8)⟩, ⟨some 6, none, .mv false (.t 36)⟩] [] false) (.ret [.kill, .kill, .kill, .kill, .kill, .kill, .keep])) (.skip)))))) (.reg [⟨some 37, none, .bin .add (.t 14) (.c (.d (.int .i64 1)))⟩, ⟨some 14, none, .mv false (.t 37)⟩] [] false)))
def r92_B0 : RCode := .block 0 [.kill, .keep, .keep] (.loop [.keep, .keep, .keep, .kill, .kill, .kill, .kill, .kill, .kill, .kill, .kill, .kill, .kill, .keep, .keep] r92_C0)
theorem r92_B0_eq {cf : CF} {s : St} : V cf r92_B0 s = loopK cf r92_B0 0 [.kill, .keep, .keep] [.keep, .keep, .keep, .kill, .kill, .kill, .kill, .kill, .kill, .kill, .kill, .kill, .kill, .keep, .keep] (V cf r92_C0 (s.head [.keep, .keep, .keep, .kill, .kill, .kill, .kill, .kill, .kill, .kill, .kill, .kill, .kill, .keep, .keep])) := V_bloop
/-- at the loop -/
abbrev r92_S0 (x0 x1 x2 x13 x14 : PV) (hp : List Ent) : St := ⟨[x0, x1, x2, .dead, .dead, .dead, .dead, .dead, .dead, .dead, .dead, .dead, .dead, x13, x14, .dead, .dead, .dead, .dead, .dead, .dead, .dead, .dead, .dead, .dead, .dead, .dead, .dead, .dead, .dead, .dead, .dead, .dead, .dead, .dead, .dead, .dead, .dead, .dead, .dead, .dead, .dead, .dead], hp⟩
/-- behind the loop -/
abbrev r92_E0 (x1 x2 : PV) (hp : List Ent) : St := ⟨[.dead, x1, x2, .dead, .dead, .dead, .dead, .dead, .dead, .dead, .dead, .dead, .dead, .dead, .dead, .dead, .dead, .dead, .dead, .dead, .dead, .dead, .dead, .dead, .dead, .dead, .dead, .dead, .dead, .dead, .dead, .dead, .dead, .dead, .dead, .dead, .dead, .dead, .dead, .dead, .dead, .dead, .dead], hp⟩
theorem r92_B0_n {cf : CF} {x0 x1 x2 a3 a4 a5 a6 a7 a8 a9 a10 a11 a12 x13 x14 a15 a16 a17 a18 a19 a20 a21 a22 a23 a24 a25 a26 a27 a28 a29 a30 a31 a32 a33 a34 a35 a36 a37 a38 a39 a40 a41 a42 : PV} {hp : List Ent} : V cf r92_B0 ⟨[x0, x1, x2, a3, a4, a5, a6, a7, a8, a9, a10, a11, a12, x13, x14, a15, a16, a17, a18, a19, a20, a21, a22, a23, a24, a25, a26, a27, a28, a29, a30, a31, a32, a33, a34, a35, a36, a37, a38, a39, a40, a41, a42], hp⟩ = V cf r92_B0 (r92_S0 x0 x1 x2 x13 x14 hp) := by rw [r92_B0_eq, r92_B0_eq]; rfl
/-- at the end -/
abbrev r92_R (x6 : PV) (hp : List Ent) : St := ⟨[.dead, .dead, .dead, .dead, .dead, .dead, x6, .dead, .dead, .dead, .dead, .dead, .dead, .dead, .dead, .dead, .dead, .dead, .dead, .dead, .dead, .dead, .dead, .dead, .dead, .dead, .dead, .dead, .dead, .dead, .dead, .dead, .dead, .dead, .dead, .dead, .dead, .dead, .dead, .dead, .dead, .dead, .dead], hp⟩
/-- (*keyhole/order.walk).items -/
def r92_T : RCode := .seq (.reg [⟨some 6, none, .mv false (.c (.d (.int .i64 0)))⟩] [] false) (.seq (.seq (.reg [⟨some 9, none, .mv false (.t 1)⟩, ⟨some 10, none, .len false (.t 9)⟩, ⟨some 11, none, .mv false (.t 2)⟩, ⟨some 12, none, .len false (.t 11)⟩, ⟨some 13, none, .minmax false (.t 10) [(.t 12)]⟩, ⟨some 14, none, .mv false (.c (.d (.int .i64 0)))⟩] [] false) (r92_B0)) (.seq (.reg [⟨some 38, none, .mv false (.t 1)⟩, ⟨some 39, none, .len false (.t 38)⟩, ⟨some 40, none, .mv false (.t 2)⟩, ⟨some 41, none, .len false (.t 40)⟩, ⟨some 42, none, .call false (.f 87) [(.t 39), (.t 41)]⟩, ⟨some 6, none, .mv false (.t 42)⟩] [] false) (.ret [.kill, .kill, .kill, .kill, .kill, .kill, .keep])))
def r92 : RFunc := ⟨43, false, [.t 6], r92_T⟩
def r93_C0 : RCode := .seq (.reg [⟨some 12, none, .bin .lss (.t 11) (.t 10)⟩] [] false) (.seq (.cond (.t 12) (.skip) (.exit 0)) (.seq (.block 1 [.keep, .keep, .kill, .kill, .kill, .kill, .kill, .kill, .kill, .keep, .keep, .keep] (.seq (.reg [⟨some 13, none, .mv false (.t 11)⟩, ⟨some 14, none, .iad none 1 (.t 9) (.t 11)⟩, ⟨some 15, none, .ld false none (.t 14)⟩, ⟨some 5, none, .mv false (.t 13)⟩, ⟨some 6, none, .mv false (.t 15)⟩] [14] false) (.seq (.seq (.reg [⟨some 16, none, .mv false (.t 5)⟩, ⟨some 17, none, .mv false (.t 1)⟩, ⟨some 18, none, .len false (.t 17)⟩, ⟨some 19, none, .bin .geq (.t 16) (.t 18)⟩] [] false) (.cond (.t 19) (.seq (.reg [⟨some 4, none, .mv false (.c (.d (.int .i64 1)))⟩] [] false) (.ret [.kill, .kill, .kill, .kill, .keep])) (.skip))) (.seq (.reg [⟨some 20, none, .mv false (.t 1)⟩, ⟨some 21, none, .mv false (.t 5)⟩, ⟨some 22, none, .iad none 1 (.t 20) (.t 21)⟩, ⟨some 23, none, .ld false none (.t 22)⟩, ⟨some 7, none, .mv false (.t 23)⟩] [22] false) (.seq (.reg [⟨some 24, none, .mv false (.t 6)⟩, ⟨some 25, none, .mv false (.t 7)⟩, ⟨some 26, none, .call false (.f 91) [(.t 24), (.t 25)]⟩, ⟨some 8, none, .mv false (.t 26)⟩] [] false) (.seq (.reg [⟨some 27, none, .mv false (.t 8)⟩, ⟨some 28, none, .bin .neq (.t 27) (.c (.d (.int .i64 0)))⟩] [] false) (.cond (.t 28) (.seq (.reg [⟨some 29, none, .mv false (.t 8)⟩, ⟨some 4, none, .mv false (.t 29)⟩] [] false) (.ret [.kill, .kill, .kill, .kill, .keep])) (.skip)))))))) (.reg [⟨some 30, none, .bin .add (.t 11) (.c (.d (.int .i64 1)))⟩, ⟨some 11, none, .mv false (.t 30)⟩] [] false)))
def r93_B0 : RCode := .block 0 [.keep, .keep] (.loop [.keep, .keep, .kill, .kill, .kill, .kill, .kill, .kill, .kill, .keep, .keep, .keep] r93_C0)
theorem r93_B0_eq {cf : CF} {s : St} : V cf r93_B0 s = loopK cf r93_B0 0 [.keep, .keep] [.keep, .keep, .kill, .kill, .kill, .kill, .kill, .kill, .kill, .keep, .keep, .keep] (V cf r93_C0 (s.head [.keep, .keep, .kill, .kill, .kill, .kill, .kill, .kill, .kill, .keep, .keep, .keep])) := V_bloop
/-- at the loop -/
abbrev r93_S0 (x0 x1 x9 x10 x11 : PV) (hp : List Ent) : St := ⟨[x0, x1, .dead, .dead, .dead, .dead, .dead, .dead, .dead, x9, x10, x11, .dead, .dead, .dead, .dead, .dead, .dead, .dead, .dead, .dead, .dead, .dead, .dead, .dead, .dead, .dead, .dead, .dead, .dead, .dead, .dead, .dead, .dead, .dead, .dead], hp⟩
/-- behind the loop -/
abbrev r93_E0 (x0 x1 : PV) (hp : List Ent) : St := ⟨[x0, x1, .dead, .dead, .dead, .dead, .dead, .dead, .dead, .dead, .dead, .dead, .dead, .dead, .dead, .dead, .dead, .dead, .dead, .dead, .dead, .dead, .dead, .dead, .dead, .dead, .dead, .dead, .dead, .dead, .dead, .dead, .dead, .dead, .dead, .dead], hp⟩
theorem r93_B0_n {cf : CF} {x0 x1 a2 a3 a4 a5 a6 a7 a8 x9 x10 x11 a12 a13 a14 a15 a16 a17 a18 a19 a20 a21 a22 a23 a24 a25 a26 a27 a28 a29 a30 a31 a32 a33 a34 a35 : PV} {hp : List Ent} : V cf r93_B0 ⟨[x0, x1, a2, a3, a4, a5, a6, a7, a8, x9, x10, x11, a12, a13, a14, a15, a16, a17, a18, a19, a20, a21, a22, a23, a24, a25, a26, a27, a28, a29, a30, a31, a32, a33, a34, a35], hp⟩ = V cf r93_B0 (r93_S0 x0 x1 x9 x10 x11 hp) := by rw [r93_B0_eq, r93_B0_eq]; rfl
/-- at the end -/
abbrev r93_R (x4 : PV) (hp : List Ent) : St := ⟨[.dead, .dead, .dead, .dead, x4, .dead, .dead, .dead, .dead, .dead, .dead, .dead, .dead, .dead, .dead, .dead, .dead, .dead, .dead, .dead, .dead, .dead, .dead, .dead, .dead, .dead, .dead, .dead, .dead, .dead, .dead, .dead, .dead, .dead, .dead, .dead], hp⟩
/-- slices.Compare[[]string,string] -/
def r93_T : RCode := .seq (.reg [⟨some 4, none, .mv false (.c (.d (.int .i64 0)))⟩] [] false) (.seq (.seq (.reg [⟨some 9, none, .mv false (.t 0)⟩, ⟨some 10, none, .len false (.t 9)⟩, ⟨some 11, none, .mv false (.c (.d (.int .i64 0)))⟩] [] false) (r93_B0)) (.seq (.seq (.reg [⟨some 31, none, .mv false (.t 0)⟩, ⟨some 32, none, .len false (.t 31)⟩, ⟨some 33, none, .mv false (.t 1)⟩, ⟨some 34, none, .len false (.t 33)⟩, ⟨some 35, none, .bin .lss (.t 32) (.t 34)⟩] [] false) (.cond (.t 35) (.seq (.reg [⟨some 4, none, .mv false (.c (.d (.int .i64 (-1))))⟩] [] false) (.ret [.kill, .kill, .kill, .kill, .keep])) (.skip))) (.seq (.reg [⟨some 4, none, .mv false (.c (.d (.int .i64 0)))⟩] [] false) (.ret [.kill, .kill, .kill, .kill, .keep]))))
def r93 : RFunc := ⟨36, true, [.t 4], r93_T⟩
/-- at the end -/
abbrev r57_R (x6 : PV) (hp : List Ent) : St := ⟨[.dead, .dead, .dead, .dead, .dead, .dead, x6, .dead, .dead, .dead, .dead, .dead, .dead, .dead, .dead, .dead, .dead, .dead, .dead, .dead, .dead, .dead, .dead, .dead, .dead, .dead, .dead, .dead, .dead, .dead, .dead, .dead, .dead, .dead, .dead, .dead, .dead, .dead, .dead, .dead, .dead, .dead, .dead, .dead, .dead, .dead, .dead, .dead, .dead, .dead, .dead, .dead, .dead, .dead, .dead, .dead, .dead, .dead, .dead, .dead, .dead, .dead, .dead, .dead, .dead, .dead, .dead, .dead, .dead, .dead, .dead, .dead, .dead, .dead], hp⟩
/-- (*keyhole/order.walk).compare -/
def r57_T : RCode := .seq (.reg [⟨some 4, none, .bx false true (.t 1)⟩, ⟨some 5, none, .bx false true (.t 2)⟩, ⟨some 6, none, .mv false (.c (.d (.int .i64 0)))⟩] [] false) (.seq (.reg [⟨some 9, none, .mv false (.t 0)⟩, ⟨some 10, none, .nchk (.t 9)⟩, ⟨some 11, none, .fad 0 (.t 10)⟩, ⟨some 12, none, .ld false none (.t 11)⟩, ⟨some 13, none, .bin .sub (.t 12) (.c (.d (.int .i64 1)))⟩, ⟨some 14, none, .nchk (.t 9)⟩, ⟨some 15, none, .fad 0 (.t 14)⟩, ⟨none, none, .sto none (.t 15) (.t 13)⟩] [10, 11, 14, 15] false) (.seq (.seq (.reg [⟨some 16, none, .mv false (.t 0)⟩, ⟨some 17, none, .nchk (.t 16)⟩, ⟨some 18, none, .fad 0 (.t 17)⟩, ⟨some 19, none, .ld false none (.t 18)⟩, ⟨some 20, none, .bin .lss (.t 19) (.c (.d (.int .i64 0)))⟩] [17, 18] false) (.cond (.t 20) (.seq (.reg [⟨some 6, none, .mv false (.c (.d (.int .i64 0)))⟩] [] false) (.ret [.kill, .kill, .kill, .kill, .kill, .kill, .keep])) (.skip))) (.seq (.seq (.reg [⟨some 21, none, .fad 0 (.t 4)⟩, ⟨some 22, none, .ld false none (.t 21)⟩, ⟨some 23, none, .call false (.f 88) [(.t 22)]⟩, ⟨some 24, none, .fad 0 (.t 5)⟩, ⟨some 25, none, .ld false none (.t 24)⟩, ⟨some 26, none, .call false (.f 88) [(.t 25)]⟩, ⟨some 27, none, .call false (.f 87) [(.t 23), (.t 26)]⟩, ⟨some 7, none, .mv false (.t 27)⟩] [21, 24] true) (.seq (.reg [⟨some 28, none, .mv false (.t 7)⟩, ⟨some 29, none, .bin .neq (.t 28) (.c (.d (.int .i64 0)))⟩] [] false) (.cond (.t 29) (.seq (.reg [⟨some 30, none, .mv false (.t 7)⟩, ⟨some 6, none, .mv false (.t 30)⟩] [] false) (.ret [.kill, .kill, .kill, .kill, .kill, .kill, .keep])) (.skip)))) (.seq (.seq (.reg [⟨some 31, none, .fad 0 (.t 4)⟩, ⟨some 32, none, .ld false none (.t 31)⟩] [31] false) (.block 0 [] (.seq (.reg [⟨some 34, none, .bin .eql (.t 32) (.c (.d (.int .i64 3)))⟩, ⟨some 33, none, .mv false (.t 34)⟩] [] false) (.cond (.t 33) (.seq (.reg [⟨some 35, none, .fad 1 (.t 4)⟩, ⟨some 36, none, .ld false (some 2) (.t 35)⟩, ⟨some 37, none, .call false (.f 90) [(.t 36)]⟩, ⟨some 38, none, .fad 1 (.t 5)⟩, ⟨some 39, none, .ld false (some 2) (.t 38)⟩, ⟨some 40, none, .call false (.f 90) [(.t 39)]⟩, ⟨some 41, none, .call false (.f 89) [(.t 37), (.t 40)]⟩, ⟨some 6, none, .mv false (.t 41)⟩] [35, 38] true) (.ret [.kill, .kill, .kill, .kill, .kill, .kill, .keep])) (.seq (.seq (.reg [⟨some 43, none, .bin .eql (.t 32) (.c (.d (.int .i64 4)))⟩, ⟨some 42, none, .mv false (.t 43)⟩] [] false) (.cond (.t 42) (.skip) (.reg [⟨some 44, none, .bin .eql (.t 32) (.c (.d (.int .i64 7)))⟩, ⟨some 42, none, .mv false (.t 44)⟩] [] false))) (.cond (.t 42) (.seq (.reg [⟨some 45, none, .fad 3 (.t 4)⟩, ⟨some 46, none, .ld false none (.t 45)⟩, ⟨some 47, none, .fad 3 (.t 5)⟩, ⟨some 48, none, .ld false none (.t 47)⟩, ⟨some 49, none, .call false (.f 91) [(.t 46), (.t 48)]⟩, ⟨some 6, none, .mv false (.t 49)⟩] [45, 47] false) (.ret [.kill, .kill, .kill, .kill, .kill, .kill, .keep])) (.seq (.reg [⟨some 51, none, .bin .eql (.t 32) (.c (.d (.int .i64 5)))⟩, ⟨some 50, none, .mv false (.t 51)⟩] [] false) (.cond (.t 50) (.seq (.reg [⟨some 52, none, .mv false (.t 0)⟩, ⟨some 53, none, .fad 4 (.t 4)⟩, ⟨some 54, none, .ld false none (.t 53)⟩, ⟨some 55, none, .fad 4 (.t 5)⟩, ⟨some 56, none, .ld false none (.t 55)⟩, ⟨some 57, none, .call false (.f 92) [(.t 52), (.t 54), (.t 56)]⟩, ⟨some 6, none, .mv false (.t 57)⟩] [53, 55] false) (.ret [.kill, .kill, .kill, .kill, .kill, .kill, .keep])) (.seq (.reg [⟨some 59, none, .bin .eql (.t 32) (.c (.d (.int .i64 6)))⟩, ⟨some 58, none, .mv false (.t 59)⟩] [] false) (.cond (.t 58) (.seq (.seq (.reg [⟨some 60, none, .fad 5 (.t 4)⟩, ⟨some 61, none, .ld false none (.t 60)⟩, ⟨some 62, none, .fad 5 (.t 5)⟩, ⟨some 63, none, .ld false none (.t 62)⟩, ⟨some 64, none, .call false (.f 93) [(.t 61), (.t 63)]⟩, ⟨some 8, none, .mv false (.t 64)⟩] [60, 62] false) (.seq (.reg [⟨some 65, none, .mv false (.t 8)⟩, ⟨some 66, none, .bin .neq (.t 65) (.c (.d (.int .i64 0)))⟩] [] false) (.cond (.t 66) (.seq (.reg [⟨some 67, none, .mv false (.t 8)⟩, ⟨some 6, none, .mv false (.t 67)⟩] [] false) (.ret [.kill, .kill, .kill, .kill, .kill, .kill, .keep])) (.skip)))) (.seq (.reg [⟨some 68, none, .mv false (.t 0)⟩, ⟨some 69, none, .fad 4 (.t 4)⟩, ⟨some 70, none, .ld false none (.t 69)⟩, ⟨some 71, none, .fad 4 (.t 5)⟩, ⟨some 72, none, .ld false none (.t 71)⟩, ⟨some 73, none, .call false (.f 92) [(.t 68), (.t 70), (.t 72)]⟩, ⟨some 6, none, .mv false (.t 73)⟩] [69, 71] false) (.ret [.kill, .kill, .kill, .kill, .kill, .kill, .keep]))) (.skip))))))))))) (.seq (.reg [⟨some 6, none, .mv false (.c (.d (.int .i64 0)))⟩] [] false) (.ret [.kill, .kill, .kill, .kill, .kill, .kill, .keep]))))))
def r57 : RFunc := ⟨74, false, [.t 6], r57_T⟩
/-- at the end -/
abbrev r17_R (x4 x5 : PV) (hp : List Ent) : St := ⟨[.dead, .dead, .dead, .dead, x4, x5, .dead, .dead, .dead, .dead, .dead, .dead, .dead, .dead, .dead, .dead, .dead, .dead, .dead, .dead], hp⟩
/-- keyhole/order.Compare -/
def r17_T : RCode := .seq (.reg [⟨some 2, none, .bx false true (.t 0)⟩, ⟨some 3, none, .bx false true (.t 1)⟩, ⟨some 4, none, .mv false (.c (.d (.int .i64 0)))⟩, ⟨some 5, none, .mv false (.c (.d (.bool false)))⟩] [] false) (.seq (.reg [⟨some 8, none, .bld [.int .i64 0] [(0, 1, (.c (.d (.int .i64 4096))))]⟩, ⟨some 9, none, .bx true true (.t 8)⟩, ⟨some 6, none, .mv false (.t 9)⟩] [] false) (.seq (.reg [⟨some 10, none, .mv false (.t 6)⟩, ⟨some 11, none, .ld false (some 6) (.t 2)⟩, ⟨some 12, none, .ld false (some 6) (.t 3)⟩, ⟨some 13, none, .call false (.f 57) [(.t 10), (.t 11), (.t 12)]⟩, ⟨some 7, none, .mv false (.t 13)⟩] [] false) (.seq (.seq (.reg [⟨some 14, none, .mv false (.t 6)⟩, ⟨some 15, none, .nchk (.t 14)⟩, ⟨some 16, none, .fad 0 (.t 15)⟩, ⟨some 17, none, .ld false none (.t 16)⟩, ⟨some 18, none, .bin .lss (.t 17) (.c (.d (.int .i64 0)))⟩] [15, 16] false) (.cond (.t 18) (.seq (.reg [⟨some 4, none, .mv false (.c (.d (.int .i64 0)))⟩, ⟨some 5, none, .mv false (.c (.d (.bool false)))⟩] [] false) (.ret [.kill, .kill, .kill, .kill, .keep, .keep])) (.skip))) (.seq (.reg [⟨some 19, none, .mv false (.t 7)⟩, ⟨some 4, none, .mv false (.t 19)⟩, ⟨some 5, none, .mv false (.c (.d (.bool true)))⟩] [] false) (.ret [.kill, .kill, .kill, .kill, .keep, .keep])))))
def r17 : RFunc := ⟨20, true, [.t 4, .t 5], r17_T⟩
/-- at the end -/
abbrev r56_R (x2 : PV) (hp : List Ent) : St := ⟨[.dead, .dead, x2, .dead, .dead, .dead], hp⟩
/-- keyhole/keyholelaw07.n -/
def r56_T : RCode := .seq (.reg [⟨some 2, none, .zal false [.d (.int .i64 0), .d (.int .i64 0), .d (.int .i64 0), .d (.str ⟨#[]⟩), .nilsl, .nilsl]⟩] [] false) (.seq (.reg [⟨some 3, none, .mv false (.t 0)⟩, ⟨some 4, none, .bld [.int .i64 0, .int .i64 0] [(0, 1, (.t 3))]⟩, ⟨some 5, none, .bld [.int .i64 0, .int .i64 0, .int .i64 0, .str ⟨#[]⟩, .sl [], .sl []] [(0, 1, (.c (.d (.int .i64 3)))), (1, 2, (.t 4))]⟩, ⟨none, none, .sto (some 6) (.t 2) (.t 5)⟩] [] false) (.ret [.kill, .kill, .keep]))
def r56 : RFunc := ⟨6, true, [.cell 2 (some 6)], r56_T⟩
/-- at the end -/
abbrev r16_R (x0 : PV) (hp : List Ent) : St := ⟨[x0, .dead, .dead, .dead, .dead, .dead, .dead, .dead, .dead, .dead, .dead, .dead, .dead, .dead, .dead, .dead, .dead, .dead, .dead, .dead], hp⟩
/-- keyhole/keyholelaw07.lives -/
def r16_T : RCode := .seq (.reg [⟨some 0, none, .mv false (.c (.d (.bool false)))⟩] [] false) (.seq (.reg [⟨some 4, none, .call false (.f 56) [(.c (.d (.int .i64 1)))]⟩, ⟨some 5, none, .call false (.f 56) [(.c (.d (.int .i64 2)))]⟩, ⟨some 6, none, .bsl 27 6 [(.t 4), (.t 5)]⟩, ⟨some 7, none, .bld [.int .i64 0, .int .i64 0, .int .i64 0, .str ⟨#[]⟩, .sl [], .sl []] [(0, 1, (.c (.d (.int .i64 5)))), (4, 1, (.t 6))]⟩, ⟨some 8, none, .call false (.f 56) [(.c (.d (.int .i64 1)))]⟩, ⟨some 9, none, .call false (.f 56) [(.c (.d (.int .i64 3)))]⟩, ⟨some 10, none, .bsl 27 6 [(.t 8), (.t 9)]⟩, ⟨some 11, none, .bld [.int .i64 0, .int .i64 0, .int .i64 0, .str ⟨#[]⟩, .sl [], .sl []] [(0, 1, (.c (.d (.int .i64 5)))), (4, 1, (.t 10))]⟩, ⟨some 12, none, .call false (.f 17) [(.t 7), (.t 11)]⟩, ⟨some 3, none, .mvt (.t 12)⟩, ⟨some 13, none, .ext false (.t 3) 0⟩, ⟨some 14, none, .ext false (.t 3) 1⟩, ⟨some 1, none, .mv false (.t 13)⟩, ⟨some 2, none, .mv false (.t 14)⟩] [] false) (.seq (.reg [⟨some 15, none, .mv false (.t 1)⟩, ⟨some 16, none, .bin .eql (.t 15) (.c (.d (.int .i64 (-1))))⟩, ⟨some 17, none, .mv false (.t 16)⟩, ⟨some 18, some (17, true), .mv false (.t 2)⟩, ⟨some 19, none, .pick (.t 17) (.t 18) (.c (.d (.bool false)))⟩, ⟨some 0, none, .mv false (.t 19)⟩] [] false) (.ret [.keep])))
def r16 : RFunc := ⟨20, true, [.t 0], r16_T⟩
/-- at the end -/
abbrev r94_R (x4 : PV) (hp : List Ent) : St := ⟨[.dead, .dead, .dead, .dead, x4, .dead, .dead, .dead, .dead, .dead, .dead], hp⟩
/-- keyhole/keyholeref07.sign -/
def r94_T : RCode := .seq (.reg [⟨some 4, none, .mv false (.c (.d (.int .i64 0)))⟩] [] false) (.seq (.seq (.reg [⟨some 5, none, .mv false (.t 0)⟩, ⟨some 6, none, .mv false (.t 1)⟩, ⟨some 7, none, .bin .lss (.t 5) (.t 6)⟩] [] false) (.cond (.t 7) (.seq (.reg [⟨some 4, none, .mv false (.c (.d (.int .i64 (-1))))⟩] [] false) (.ret [.kill, .kill, .kill, .kill, .keep])) (.skip))) (.seq (.seq (.reg [⟨some 8, none, .mv false (.t 0)⟩, ⟨some 9, none, .mv false (.t 1)⟩, ⟨some 10, none, .bin .gtr (.t 8) (.t 9)⟩] [] false) (.cond (.t 10) (.seq (.reg [⟨some 4, none, .mv false (.c (.d (.int .i64 1)))⟩] [] false) (.ret [.kill, .kill, .kill, .kill, .keep])) (.skip))) (.seq (.reg [⟨some 4, none, .mv false (.c (.d (.int .i64 0)))⟩] [] false) (.ret [.kill, .kill, .kill, .kill, .keep]))))
def r94 : RFunc := ⟨11, true, [.t 4], r94_T⟩
/-- at the end -/
abbrev r95_R (x2 : PV) (hp : List Ent) : St := ⟨[.dead, .dead, x2, .dead, .dead, .dead, .dead, .dead, .dead, .dead], hp⟩
/-- keyhole/keyholeref07.rank -/
def r95_T : RCode := .seq (.reg [⟨some 2, none, .mv false (.c (.d (.int .i64 0)))⟩] [] false) (.seq (.seq (.reg [⟨some 3, none, .mv false (.t 0)⟩, ⟨some 4, none, .bin .lss (.t 3) (.c (.d (.int .i64 0)))⟩, ⟨some 5, none, .mv false (.t 4)⟩, ⟨some 6, some (5, false), .mv false (.t 0)⟩, ⟨some 7, some (5, false), .bin .gtr (.t 6) (.c (.d (.int .i64 7)))⟩, ⟨some 8, none, .pick (.t 5) (.c (.d (.bool true))) (.t 7)⟩] [] false) (.cond (.t 8) (.seq (.reg [⟨some 2, none, .mv false (.c (.d (.int .i64 8)))⟩] [] false) (.ret [.kill, .kill, .keep])) (.skip))) (.seq (.reg [⟨some 9, none, .mv false (.t 0)⟩, ⟨some 2, none, .mv false (.t 9)⟩] [] false) (.ret [.kill, .kill, .keep])))
def r95 : RFunc := ⟨10, true, [.t 2], r95_T⟩
def r144_C0 : RCode := .seq (.seq (.reg [⟨some 7, none, .mv false (.t 3)⟩, ⟨some 8, none, .bin .gtr (.t 7) (.c (.d (.int .i64 0)))⟩, ⟨some 9, none, .mv false (.t 8)⟩, ⟨some 10, some (9, true), .fad 1 (.t 1)⟩, ⟨some 11, some (9, true), .ld false none (.t 10)⟩, ⟨some 12, some (9, true), .mv false (.t 3)⟩, ⟨some 13, some (9, true), .bin .sub (.t 12) (.c (.d (.int .i64 1)))⟩, ⟨some 14, some (9, true), .iad none 1 (.t 11) (.t 13)⟩, ⟨some 15, some (9, true), .ld false none (.t 14)⟩, ⟨some 16, some (9, true), .bin .eql (.t 15) (.c (.d (.int .i64 0)))⟩, ⟨some 17, none, .pick (.t 9) (.t 16) (.c (.d (.bool false)))⟩] [10, 14] false) (.cond (.t 17) (.skip) (.exit 0))) (.block 1 [.kill, .keep, .keep, .keep] (.reg [⟨some 18, none, .mv false (.t 3)⟩, ⟨some 19, none, .bin .sub (.t 18) (.c (.d (.int .i64 1)))⟩, ⟨some 3, none, .mv false (.t 19)⟩] [] false))
def r144_B0 : RCode := .block 0 [.kill, .keep, .keep, .keep] (.loop [.kill, .keep, .keep, .keep] r144_C0)
theorem r144_B0_eq {cf : CF} {s : St} : V cf r144_B0 s = loopK cf r144_B0 0 [.kill, .keep, .keep, .keep] [.kill, .keep, .keep, .keep] (V cf r144_C0 (s.head [.kill, .keep, .keep, .keep])) := V_bloop
/-- at the loop -/
abbrev r144_S0 (x1 x2 x3 : PV) (hp : List Ent) : St := ⟨[.dead, x1, x2, x3, .dead, .dead, .dead, .dead, .dead, .dead, .dead, .dead, .dead, .dead, .dead, .dead, .dead, .dead, .dead, .dead, .dead, .dead, .dead, .dead, .dead, .dead, .dead, .dead, .dead], hp⟩
/-- behind the loop -/
abbrev r144_E0 (x1 x2 x3 : PV) (hp : List Ent) : St := ⟨[.dead, x1, x2, x3, .dead, .dead, .dead, .dead, .dead, .dead, .dead, .dead, .dead, .dead, .dead, .dead, .dead, .dead, .dead, .dead, .dead, .dead, .dead, .dead, .dead, .dead, .dead, .dead, .dead], hp⟩
theorem r144_B0_n {cf : CF} {a0 x1 x2 x3 a4 a5 a6 a7 a8 a9 a10 a11 a12 a13 a14 a15 a16 a17 a18 a19 a20 a21 a22 a23 a24 a25 a26 a27 a28 : PV} {hp : List Ent} : V cf r144_B0 ⟨[a0, x1, x2, x3, a4, a5, a6, a7, a8, a9, a10, a11, a12, a13, a14, a15, a16, a17, a18, a19, a20, a21, a22, a23, a24, a25, a26, a27, a28], hp⟩ = V cf r144_B0 (r144_S0 x1 x2 x3 hp) := by rw [r144_B0_eq, r144_B0_eq]; rfl
/-- at the end -/
abbrev r144_R (x2 : PV) (hp : List Ent) : St := ⟨[.dead, .dead, x2, .dead, .dead, .dead, .dead, .dead, .dead, .dead, .dead, .dead, .dead, .dead, .dead, .dead, .dead, .dead, .dead, .dead, .dead, .dead, .dead, .dead, .dead, .dead, .dead, .dead, .dead], hp⟩
/-- keyhole/keyholeref04.trim -/
def r144_T : RCode := .seq (.reg [⟨some 1, none, .bx false true (.t 0)⟩, ⟨some 2, none, .zal false [.d (.bool false), .nilsl]⟩] [] false) (.seq (.reg [⟨some 4, none, .fad 1 (.t 1)⟩, ⟨some 5, none, .ld false none (.t 4)⟩, ⟨some 6, none, .len false (.t 5)⟩, ⟨some 3, none, .mv false (.t 6)⟩] [4] false) (.seq (r144_B0) (.seq (.reg [⟨some 20, none, .fad 1 (.t 1)⟩, ⟨some 21, none, .ld false none (.t 20)⟩, ⟨some 22, none, .mv false (.t 3)⟩, ⟨some 23, none, .slc (some 1) (.t 21) none (some (.t 22)) none⟩, ⟨some 24, none, .fad 1 (.t 1)⟩, ⟨none, none, .sto none (.t 24) (.t 23)⟩] [20, 24] false) (.seq (.seq (.reg [⟨some 25, none, .mv false (.t 3)⟩, ⟨some 26, none, .bin .eql (.t 25) (.c (.d (.int .i64 0)))⟩] [] false) (.cond (.t 26) (.reg [⟨some 27, none, .fad 0 (.t 1)⟩, ⟨none, none, .sto none (.t 27) (.c (.d (.bool false)))⟩] [27] false) (.skip))) (.seq (.reg [⟨some 28, none, .ld false (some 2) (.t 1)⟩, ⟨none, none, .sto (some 2) (.t 2) (.t 28)⟩] [] false) (.ret [.kill, .kill, .keep]))))))
def r144 : RFunc := ⟨29, true, [.cell 2 (some 2)], r144_T⟩
def r142_C0 : RCode := .seq (.seq (.reg [⟨some 7, none, .mv false (.t 6)⟩, ⟨some 8, none, .mv false (.t 1)⟩, ⟨some 9, none, .bin .lss (.t 7) (.t 8)⟩] [] false) (.cond (.t 9) (.skip) (.exit 0))) (.seq (.block 1 [.kill, .keep, .keep, .kill, .keep, .norm 3, .keep] (.reg [⟨some 12, none, .mv true (.t 5)⟩, ⟨some 13, none, .bsl 3 1 [(.c (.d (.int .i64 0)))]⟩, ⟨some 14, none, .app 3 1 8 (.t 12) (.t 13)⟩, ⟨some 5, none, .mv true (.t 14)⟩] [] false)) (.reg [⟨some 10, none, .mv false (.t 6)⟩, ⟨some 11, none, .bin .add (.t 10) (.c (.d (.int .i64 1)))⟩, ⟨some 6, none, .mv false (.t 11)⟩] [] false))
def r142_B0 : RCode := .block 0 [.kill, .kill, .keep, .kill, .keep, .norm 3] (.loop [.kill, .keep, .keep, .kill, .keep, .norm 3, .keep] r142_C0)
theorem r142_B0_eq {cf : CF} {s : St} : V cf r142_B0 s = loopK cf r142_B0 0 [.kill, .kill, .keep, .kill, .keep, .norm 3] [.kill, .keep, .keep, .kill, .keep, .norm 3, .keep] (V cf r142_C0 (s.head [.kill, .keep, .keep, .kill, .keep, .norm 3, .keep])) := V_bloop
/-- at the loop -/
abbrev r142_S0 (x1 x2 x4 x5 x6 : PV) (hp : List Ent) : St := ⟨[.dead, x1, x2, .dead, x4, x5, x6, .dead, .dead, .dead, .dead, .dead, .dead, .dead, .dead, .dead, .dead, .dead, .dead, .dead, .dead, .dead, .dead, .dead], hp⟩
/-- behind the loop -/
abbrev r142_E0 (x2 x4 x5 : PV) (hp : List Ent) : St := ⟨[.dead, .dead, x2, .dead, x4, x5, .dead, .dead, .dead, .dead, .dead, .dead, .dead, .dead, .dead, .dead, .dead, .dead, .dead, .dead, .dead, .dead, .dead, .dead], hp⟩
theorem r142_B0_z5 {cf : CF} {x1 x2 x4 x6 : PV} {hp : List Ent} : V cf r142_B0 (r142_S0 x1 x2 x4 .nilsl x6 hp) = V cf r142_B0 (r142_S0 x1 x2 x4 (.own 3 []) x6 hp) := by rw [r142_B0_eq, r142_B0_eq]; rfl
theorem r142_B0_n {cf : CF} {a0 x1 x2 a3 x4 x5 x6 a7 a8 a9 a10 a11 a12 a13 a14 a15 a16 a17 a18 a19 a20 a21 a22 a23 : PV} {hp : List Ent} : V cf r142_B0 ⟨[a0, x1, x2, a3, x4, x5, x6, a7, a8, a9, a10, a11, a12, a13, a14, a15, a16, a17, a18, a19, a20, a21, a22, a23], hp⟩ = V cf r142_B0 (r142_S0 x1 x2 x4 x5 x6 hp) := by rw [r142_B0_eq, r142_B0_eq]; rfl
/-- at the end -/
abbrev r142_R (x4 : PV) (hp : List Ent) : St := ⟨[.dead, .dead, .dead, .dead, x4, .dead, .dead, .dead, .dead, .dead, .dead, .dead, .dead, .dead, .dead, .dead, .dead, .dead, .dead, .dead, .dead, .dead, .dead, .dead], hp⟩
/-- keyhole/keyholeref04.Shift -/
def r142_T : RCode := .seq (.reg [⟨some 2, none, .bx false true (.t 0)⟩, ⟨some 4, none, .zal false [.d (.bool false), .nilsl]⟩] [] false) (.seq (.reg [⟨some 5, none, .mv true (.c (.nilsl))⟩] [] false) (.seq (.seq (.reg [⟨some 6, none, .mv false (.c (.d (.int .i64 0)))⟩] [] false) (r142_B0)) (.seq (.reg [⟨some 15, none, .mv true (.t 5)⟩, ⟨some 16, none, .fad 1 (.t 2)⟩, ⟨some 17, none, .ld false none (.t 16)⟩, ⟨some 18, none, .app 3 1 8 (.t 15) (.t 17)⟩, ⟨some 5, none, .mv true (.t 18)⟩] [16] false) (.seq (.reg [⟨some 19, none, .fad 0 (.t 2)⟩, ⟨some 20, none, .ld false none (.t 19)⟩, ⟨some 21, none, .mv false (.t 5)⟩, ⟨some 22, none, .bld [.bool false, .sl []] [(0, 1, (.t 20)), (1, 1, (.t 21))]⟩, ⟨some 23, none, .call false (.f 144) [(.t 22)]⟩, ⟨none, none, .sto (some 2) (.t 4) (.t 23)⟩] [19] false) (.ret [.kill, .kill, .kill, .kill, .keep])))))
def r142 : RFunc := ⟨24, true, [.cell 4 (some 2)], r142_T⟩
def r143_C0 : RCode := .seq (.seq (.reg [⟨some 8, none, .mv false (.t 0)⟩, ⟨some 9, none, .bin .neq (.t 8) (.c (.d (.int .i64 0)))⟩] [] false) (.cond (.t 9) (.skip) (.exit 0))) (.block 1 [.keep, .kill, .keep, .keep] (.seq (.reg [⟨some 10, none, .mv false (.t 0)⟩, ⟨some 11, none, .bin .rem (.t 10) (.c (.d (.int .i64 10)))⟩, ⟨some 4, none, .mv false (.t 11)⟩] [] false) (.seq (.seq (.reg [⟨some 12, none, .mv false (.t 4)⟩, ⟨some 13, none, .bin .lss (.t 12) (.c (.d (.int .i64 0)))⟩] [] false) (.cond (.t 13) (.reg [⟨some 14, none, .mv false (.t 4)⟩, ⟨some 15, none, .un .neg (.t 14)⟩, ⟨some 4, none, .mv false (.t 15)⟩] [] false) (.skip))) (.seq (.reg [⟨some 16, none, .fad 1 (.t 3)⟩, ⟨some 17, none, .ld true none (.t 16)⟩, ⟨some 18, none, .mv false (.t 4)⟩, ⟨some 19, none, .bsl 3 1 [(.t 18)]⟩, ⟨some 20, none, .app 3 1 8 (.t 17) (.t 19)⟩, ⟨some 21, none, .fad 1 (.t 3)⟩, ⟨none, none, .sto none (.t 21) (.t 20)⟩] [16, 21] false) (.reg [⟨some 22, none, .mv false (.t 0)⟩, ⟨some 23, none, .bin .quo (.t 22) (.c (.d (.int .i64 10)))⟩, ⟨some 0, none, .mv false (.t 23)⟩] [] false)))))
def r143_B0 : RCode := .block 0 [.kill, .kill, .keep, .keep] (.loop [.keep, .kill, .keep, .keep] r143_C0)
theorem r143_B0_eq {cf : CF} {s : St} : V cf r143_B0 s = loopK cf r143_B0 0 [.kill, .kill, .keep, .keep] [.keep, .kill, .keep, .keep] (V cf r143_C0 (s.head [.keep, .kill, .keep, .keep])) := V_bloop
/-- at the loop -/
abbrev r143_S0 (x0 x2 x3 : PV) (hp : List Ent) : St := ⟨[x0, .dead, x2, x3, .dead, .dead, .dead, .dead, .dead, .dead, .dead, .dead, .dead, .dead, .dead, .dead, .dead, .dead, .dead, .dead, .dead, .dead, .dead, .dead, .dead], hp⟩
/-- behind the loop -/
abbrev r143_E0 (x2 x3 : PV) (hp : List Ent) : St := ⟨[.dead, .dead, x2, x3, .dead, .dead, .dead, .dead, .dead, .dead, .dead, .dead, .dead, .dead, .dead, .dead, .dead, .dead, .dead, .dead, .dead, .dead, .dead, .dead, .dead], hp⟩
theorem r143_B0_n {cf : CF} {x0 a1 x2 x3 a4 a5 a6 a7 a8 a9 a10 a11 a12 a13 a14 a15 a16 a17 a18 a19 a20 a21 a22 a23 a24 : PV} {hp : List Ent} : V cf r143_B0 ⟨[x0, a1, x2, x3, a4, a5, a6, a7, a8, a9, a10, a11, a12, a13, a14, a15, a16, a17, a18, a19, a20, a21, a22, a23, a24], hp⟩ = V cf r143_B0 (r143_S0 x0 x2 x3 hp) := by rw [r143_B0_eq, r143_B0_eq]; rfl
/-- at the end -/
abbrev r143_R (x2 : PV) (hp : List Ent) : St := ⟨[.dead, .dead, x2, .dead, .dead, .dead, .dead, .dead, .dead, .dead, .dead, .dead, .dead, .dead, .dead, .dead, .dead, .dead, .dead, .dead, .dead, .dead, .dead, .dead, .dead], hp⟩
/-- keyhole/keyholeref04.Of -/
def r143_T : RCode := .seq (.reg [⟨some 2, none, .zal false [.d (.bool false), .nilsl]⟩] [] false) (.seq (.reg [⟨some 3, none, .zal false [.d (.bool false), .nilsl]⟩] [] false) (.seq (.reg [⟨some 5, none, .mv false (.t 0)⟩, ⟨some 6, none, .bin .lss (.t 5) (.c (.d (.int .i64 0)))⟩, ⟨some 7, none, .fad 0 (.t 3)⟩, ⟨none, none, .sto none (.t 7) (.t 6)⟩] [7] false) (.seq (r143_B0) (.seq (.reg [⟨some 24, none, .ld false (some 2) (.t 3)⟩, ⟨none, none, .sto (some 2) (.t 2) (.t 24)⟩] [] false) (.ret [.kill, .kill, .keep])))))
def r143 : RFunc := ⟨25, true, [.cell 2 (some 2)], r143_T⟩
/-- at the end -/
abbrev r125_R (x4 x5 x6 : PV) (hp : List Ent) : St := ⟨[.dead, .dead, .dead, .dead, x4, x5, x6, .dead, .dead, .dead, .dead, .dead, .dead, .dead, .dead, .dead, .dead, .dead, .dead, .dead, .dead, .dead, .dead, .dead, .dead, .dead, .dead, .dead, .dead, .dead, .dead, .dead, .dead], hp⟩
/-- keyhole/keyholeref04.Line -/
def r125_T : RCode := .seq (.reg [⟨some 2, none, .bx false true (.t 0)⟩, ⟨some 3, none, .bx false true (.t 1)⟩, ⟨some 4, none, .zal false [.d (.bool false), .nilsl]⟩, ⟨some 5, none, .zal false [.d (.bool false), .nilsl]⟩, ⟨some 6, none, .mv false (.c (.d (.int .i64 0)))⟩] [] false) (.seq (.reg [⟨some 8, none, .fad 1 (.t 2)⟩, ⟨some 9, none, .ld false none (.t 8)⟩, ⟨some 7, none, .mv false (.t 9)⟩] [8] false) (.seq (.seq (.reg [⟨some 10, none, .fad 1 (.t 3)⟩, ⟨some 11, none, .ld false none (.t 10)⟩, ⟨some 12, none, .mv false (.t 7)⟩, ⟨some 13, none, .bin .gtr (.t 11) (.t 12)⟩] [10] false) (.cond (.t 13) (.reg [⟨some 14, none, .fad 1 (.t 3)⟩, ⟨some 15, none, .ld false none (.t 14)⟩, ⟨some 7, none, .mv false (.t 15)⟩] [14] false) (.skip))) (.seq (.reg [⟨some 16, none, .fad 0 (.t 2)⟩, ⟨some 17, none, .ld false none (.t 16)⟩, ⟨some 18, none, .call false (.f 143) [(.t 17)]⟩, ⟨some 19, none, .mv false (.t 7)⟩, ⟨some 20, none, .fad 1 (.t 2)⟩, ⟨some 21, none, .ld false none (.t 20)⟩, ⟨some 22, none, .bin .sub (.t 19) (.t 21)⟩, ⟨some 23, none, .call false (.f 142) [(.t 18), (.t 22)]⟩, ⟨some 24, none, .fad 0 (.t 3)⟩, ⟨some 25, none, .ld false none (.t 24)⟩, ⟨some 26, none, .call false (.f 143) [(.t 25)]⟩, ⟨some 27, none, .mv false (.t 7)⟩, ⟨some 28, none, .fad 1 (.t 3)⟩, ⟨some 29, none, .ld false none (.t 28)⟩, ⟨some 30, none, .bin .sub (.t 27) (.t 29)⟩, ⟨some 31, none, .call false (.f 142) [(.t 26), (.t 30)]⟩, ⟨some 32, none, .mv false (.t 7)⟩, ⟨none, none, .sto (some 2) (.t 4) (.t 23)⟩, ⟨none, none, .sto (some 2) (.t 5) (.t 31)⟩, ⟨some 6, none, .mv false (.t 32)⟩] [16, 20, 24, 28] true) (.ret [.kill, .kill, .kill, .kill, .keep, .keep, .keep]))))
def r125 : RFunc := ⟨33, true, [.cell 4 (some 2), .cell 5 (some 2), .t 6], r125_T⟩
def r145_C0 : RCode := .seq (.seq (.reg [⟨some 9, none, .mv false (.t 7)⟩, ⟨some 10, none, .mv false (.t 0)⟩, ⟨some 11, none, .len false (.t 10)⟩, ⟨some 12, none, .bin .lss (.t 9) (.t 11)⟩, ⟨some 13, none, .mv false (.t 12)⟩, ⟨some 14, some (13, false), .mv false (.t 7)⟩, ⟨some 15, some (13, false), .mv false (.t 1)⟩, ⟨some 16, some (13, false), .len false (.t 15)⟩, ⟨some 17, some (13, false), .bin .lss (.t 14) (.t 16)⟩, ⟨some 18, none, .pick (.t 13) (.c (.d (.bool true))) (.t 17)⟩, ⟨some 19, none, .mv false (.t 18)⟩, ⟨some 20, some (19, false), .mv false (.t 6)⟩, ⟨some 21, some (19, false), .bin .gtr (.t 20) (.c (.d (.int .i64 0)))⟩, ⟨some 22, none, .pick (.t 19) (.c (.d (.bool true))) (.t 21)⟩] [] false) (.cond (.t 22) (.skip) (.exit 0))) (.seq (.block 1 [.keep, .keep, .kill, .kill, .kill, .norm 3, .keep, .keep] (.seq (.reg [⟨some 25, none, .mv false (.t 6)⟩, ⟨some 8, none, .mv false (.t 25)⟩] [] false) (.seq (.seq (.reg [⟨some 26, none, .mv false (.t 7)⟩, ⟨some 27, none, .mv false (.t 0)⟩, ⟨some 28, none, .len false (.t 27)⟩, ⟨some 29, none, .bin .lss (.t 26) (.t 28)⟩] [] false) (.cond (.t 29) (.reg [⟨some 30, none, .mv false (.t 8)⟩, ⟨some 31, none, .mv false (.t 0)⟩, ⟨some 32, none, .mv false (.t 7)⟩, ⟨some 33, none, .iad none 1 (.t 31) (.t 32)⟩, ⟨some 34, none, .ld false none (.t 33)⟩, ⟨some 35, none, .bin .add (.t 30) (.t 34)⟩, ⟨some 8, none, .mv false (.t 35)⟩] [33] false) (.skip))) (.seq (.seq (.reg [⟨some 36, none, .mv false (.t 7)⟩, ⟨some 37, none, .mv false (.t 1)⟩, ⟨some 38, none, .len false (.t 37)⟩, ⟨some 39, none, .bin .lss (.t 36) (.t 38)⟩] [] false) (.cond (.t 39) (.reg [⟨some 40, none, .mv false (.t 8)⟩, ⟨some 41, none, .mv false (.t 1)⟩, ⟨some 42, none, .mv false (.t 7)⟩, ⟨some 43, none, .iad none 1 (.t 41) (.t 42)⟩, ⟨some 44, none, .ld false none (.t 43)⟩, ⟨some 45, none, .bin .add (.t 40) (.t 44)⟩, ⟨some 8, none, .mv false (.t 45)⟩] [43] false) (.skip))) (.seq (.reg [⟨some 46, none, .mv true (.t 5)⟩, ⟨some 47, none, .mv false (.t 8)⟩, ⟨some 48, none, .bin .rem (.t 47) (.c (.d (.int .i64 10)))⟩, ⟨some 49, none, .bsl 3 1 [(.t 48)]⟩, ⟨some 50, none, .app 3 1 8 (.t 46) (.t 49)⟩, ⟨some 5, none, .mv true (.t 50)⟩] [] false) (.reg [⟨some 51, none, .mv false (.t 8)⟩, ⟨some 52, none, .bin .quo (.t 51) (.c (.d (.int .i64 10)))⟩, ⟨some 6, none, .mv false (.t 52)⟩] [] false)))))) (.reg [⟨some 23, none, .mv false (.t 7)⟩, ⟨some 24, none, .bin .add (.t 23) (.c (.d (.int .i64 1)))⟩, ⟨some 7, none, .mv false (.t 24)⟩] [] false))
def r145_B0 : RCode := .block 0 [.kill, .kill, .kill, .kill, .kill, .norm 3] (.loop [.keep, .keep, .kill, .kill, .kill, .norm 3, .keep, .keep] r145_C0)
theorem r145_B0_eq {cf : CF} {s : St} : V cf r145_B0 s = loopK cf r145_B0 0 [.kill, .kill, .kill, .kill, .kill, .norm 3] [.keep, .keep, .kill, .kill, .kill, .norm 3, .keep, .keep] (V cf r145_C0 (s.head [.keep, .keep, .kill, .kill, .kill, .norm 3, .keep, .keep])) := V_bloop
/-- at the loop -/
abbrev r145_S0 (x0 x1 x5 x6 x7 : PV) (hp : List Ent) : St := ⟨[x0, x1, .dead, .dead, .dead, x5, x6, x7, .dead, .dead, .dead, .dead, .dead, .dead, .dead, .dead, .dead, .dead, .dead, .dead, .dead, .dead, .dead, .dead, .dead, .dead, .dead, .dead, .dead, .dead, .dead, .dead, .dead, .dead, .dead, .dead, .dead, .dead, .dead, .dead, .dead, .dead, .dead, .dead, .dead, .dead, .dead, .dead, .dead, .dead, .dead, .dead, .dead, .dead], hp⟩
/-- behind the loop -/
abbrev r145_E0 (x5 : PV) (hp : List Ent) : St := ⟨[.dead, .dead, .dead, .dead, .dead, x5, .dead, .dead, .dead, .dead, .dead, .dead, .dead, .dead, .dead, .dead, .dead, .dead, .dead, .dead, .dead, .dead, .dead, .dead, .dead, .dead, .dead, .dead, .dead, .dead, .dead, .dead, .dead, .dead, .dead, .dead, .dead, .dead, .dead, .dead, .dead, .dead, .dead, .dead, .dead, .dead, .dead, .dead, .dead, .dead, .dead, .dead, .dead, .dead], hp⟩
theorem r145_B0_z5 {cf : CF} {x0 x1 x6 x7 : PV} {hp : List Ent} : V cf r145_B0 (r145_S0 x0 x1 .nilsl x6 x7 hp) = V cf r145_B0 (r145_S0 x0 x1 (.own 3 []) x6 x7 hp) := by rw [r145_B0_eq, r145_B0_eq]; rfl
theorem r145_B0_n {cf : CF} {x0 x1 a2 a3 a4 x5 x6 x7 a8 a9 a10 a11 a12 a13 a14 a15 a16 a17 a18 a19 a20 a21 a22 a23 a24 a25 a26 a27 a28 a29 a30 a31 a32 a33 a34 a35 a36 a37 a38 a39 a40 a41 a42 a43 a44 a45 a46 a47 a48 a49 a50 a51 a52 a53 : PV} {hp : List Ent} : V cf r145_B0 ⟨[x0, x1, a2, a3, a4, x5, x6, x7, a8, a9, a10, a11, a12, a13, a14, a15, a16, a17, a18, a19, a20, a21, a22, a23, a24, a25, a26, a27, a28, a29, a30, a31, a32, a33, a34, a35, a36, a37, a38, a39, a40, a41, a42, a43, a44, a45, a46, a47, a48, a49, a50, a51, a52, a53], hp⟩ = V cf r145_B0 (r145_S0 x0 x1 x5 x6 x7 hp) := by rw [r145_B0_eq, r145_B0_eq]; rfl
/-- at the end -/
abbrev r145_R (x4 : PV) (hp : List Ent) : St := ⟨[.dead, .dead, .dead, .dead, x4, .dead, .dead, .dead, .dead, .dead, .dead, .dead, .dead, .dead, .dead, .dead, .dead, .dead, .dead, .dead, .dead, .dead, .dead, .dead, .dead, .dead, .dead, .dead, .dead, .dead, .dead, .dead, .dead, .dead, .dead, .dead, .dead, .dead, .dead, .dead, .dead, .dead, .dead, .dead, .dead, .dead, .dead, .dead, .dead, .dead, .dead, .dead, .dead, .dead], hp⟩
/-- keyhole/keyholeref04.sum -/
def r145_T : RCode := .seq (.reg [⟨some 4, none, .mv false (.c (.nilsl))⟩] [] false) (.seq (.reg [⟨some 5, none, .mv true (.c (.nilsl))⟩] [] false) (.seq (.reg [⟨some 6, none, .mv false (.c (.d (.int .i64 0)))⟩] [] false) (.seq (.seq (.reg [⟨some 7, none, .mv false (.c (.d (.int .i64 0)))⟩] [] false) (r145_B0)) (.seq (.reg [⟨some 53, none, .mv false (.t 5)⟩, ⟨some 4, none, .mv false (.t 53)⟩] [] false) (.ret [.kill, .kill, .kill, .kill, .keep])))))
def r145 : RFunc := ⟨54, true, [.t 4], r145_T⟩
def r146_C0 : RCode := .seq (.seq (.reg [⟨some 19, none, .mv false (.t 5)⟩, ⟨some 20, none, .bin .geq (.t 19) (.c (.d (.int .i64 0)))⟩] [] false) (.cond (.t 20) (.skip) (.exit 0))) (.seq (.block 1 [.keep, .keep, .kill, .kill, .kill, .keep] (.seq (.reg [⟨some 23, none, .mv false (.t 0)⟩, ⟨some 24, none, .mv false (.t 5)⟩, ⟨some 25, none, .iad none 1 (.t 23) (.t 24)⟩, ⟨some 26, none, .ld false none (.t 25)⟩, ⟨some 27, none, .mv false (.t 1)⟩, ⟨some 28, none, .mv false (.t 5)⟩, ⟨some 29, none, .iad none 1 (.t 27) (.t 28)⟩, ⟨some 30, none, .ld false none (.t 29)⟩, ⟨some 31, none, .bin .neq (.t 26) (.t 30)⟩] [25, 29] true) (.cond (.t 31) (.seq (.reg [⟨some 32, none, .mv false (.t 0)⟩, ⟨some 33, none, .mv false (.t 5)⟩, ⟨some 34, none, .iad none 1 (.t 32) (.t 33)⟩, ⟨some 35, none, .ld false none (.t 34)⟩, ⟨some 36, none, .mv false (.t 1)⟩, ⟨some 37, none, .mv false (.t 5)⟩, ⟨some 38, none, .iad none 1 (.t 36) (.t 37)⟩, ⟨some 39, none, .ld false none (.t 38)⟩, ⟨some 40, none, .bin .gtr (.t 35) (.t 39)⟩, ⟨some 4, none, .mv false (.t 40)⟩] [34, 38] true) (.ret [.kill, .kill, .kill, .kill, .keep])) (.skip)))) (.reg [⟨some 21, none, .mv false (.t 5)⟩, ⟨some 22, none, .bin .sub (.t 21) (.c (.d (.int .i64 1)))⟩, ⟨some 5, none, .mv false (.t 22)⟩] [] false))
def r146_B0 : RCode := .block 0 [] (.loop [.keep, .keep, .kill, .kill, .kill, .keep] r146_C0)
theorem r146_B0_eq {cf : CF} {s : St} : V cf r146_B0 s = loopK cf r146_B0 0 [] [.keep, .keep, .kill, .kill, .kill, .keep] (V cf r146_C0 (s.head [.keep, .keep, .kill, .kill, .kill, .keep])) := V_bloop
/-- at the loop -/
abbrev r146_S0 (x0 x1 x5 : PV) (hp : List Ent) : St := ⟨[x0, x1, .dead, .dead, .dead, x5, .dead, .dead, .dead, .dead, .dead, .dead, .dead, .dead, .dead, .dead, .dead, .dead, .dead, .dead, .dead, .dead, .dead, .dead, .dead, .dead, .dead, .dead, .dead, .dead, .dead, .dead, .dead, .dead, .dead, .dead, .dead, .dead, .dead, .dead, .dead], hp⟩
/-- behind the loop -/
abbrev r146_E0  (hp : List Ent) : St := ⟨[.dead, .dead, .dead, .dead, .dead, .dead, .dead, .dead, .dead, .dead, .dead, .dead, .dead, .dead, .dead, .dead, .dead, .dead, .dead, .dead, .dead, .dead, .dead, .dead, .dead, .dead, .dead, .dead, .dead, .dead, .dead, .dead, .dead, .dead, .dead, .dead, .dead, .dead, .dead, .dead, .dead], hp⟩
theorem r146_B0_n {cf : CF} {x0 x1 a2 a3 a4 x5 a6 a7 a8 a9 a10 a11 a12 a13 a14 a15 a16 a17 a18 a19 a20 a21 a22 a23 a24 a25 a26 a27 a28 a29 a30 a31 a32 a33 a34 a35 a36 a37 a38 a39 a40 : PV} {hp : List Ent} : V cf r146_B0 ⟨[x0, x1, a2, a3, a4, x5, a6, a7, a8, a9, a10, a11, a12, a13, a14, a15, a16, a17, a18, a19, a20, a21, a22, a23, a24, a25, a26, a27, a28, a29, a30, a31, a32, a33, a34, a35, a36, a37, a38, a39, a40], hp⟩ = V cf r146_B0 (r146_S0 x0 x1 x5 hp) := by rw [r146_B0_eq, r146_B0_eq]; rfl
/-- at the end -/
abbrev r146_R (x4 : PV) (hp : List Ent) : St := ⟨[.dead, .dead, .dead, .dead, x4, .dead, .dead, .dead, .dead, .dead, .dead, .dead, .dead, .dead, .dead, .dead, .dead, .dead, .dead, .dead, .dead, .dead, .dead, .dead, .dead, .dead, .dead, .dead, .dead, .dead, .dead, .dead, .dead, .dead, .dead, .dead, .dead, .dead, .dead, .dead, .dead], hp⟩
/-- keyhole/keyholeref04.above -/
def r146_T : RCode := .seq (.reg [⟨some 4, none, .mv false (.c (.d (.bool false)))⟩] [] false) (.seq (.seq (.reg [⟨some 6, none, .mv false (.t 0)⟩, ⟨some 7, none, .len false (.t 6)⟩, ⟨some 8, none, .mv false (.t 1)⟩, ⟨some 9, none, .len false (.t 8)⟩, ⟨some 10, none, .bin .neq (.t 7) (.t 9)⟩] [] false) (.cond (.t 10) (.seq (.reg [⟨some 11, none, .mv false (.t 0)⟩, ⟨some 12, none, .len false (.t 11)⟩, ⟨some 13, none, .mv false (.t 1)⟩, ⟨some 14, none, .len false (.t 13)⟩, ⟨some 15, none, .bin .gtr (.t 12) (.t 14)⟩, ⟨some 4, none, .mv false (.t 15)⟩] [] false) (.ret [.kill, .kill, .kill, .kill, .keep])) (.skip))) (.seq (.seq (.reg [⟨some 16, none, .mv false (.t 0)⟩, ⟨some 17, none, .len false (.t 16)⟩, ⟨some 18, none, .bin .sub (.t 17) (.c (.d (.int .i64 1)))⟩, ⟨some 5, none, .mv false (.t 18)⟩] [] false) (r146_B0)) (.seq (.reg [⟨some 4, none, .mv false (.c (.d (.bool true)))⟩] [] false) (.ret [.kill, .kill, .kill, .kill, .keep]))))
def r146 : RFunc := ⟨41, true, [.t 4], r146_T⟩
def r147_C0 : RCode := .seq (.seq (.reg [⟨some 9, none, .mv false (.t 7)⟩, ⟨some 10, none, .mv false (.t 0)⟩, ⟨some 11, none, .len false (.t 10)⟩, ⟨some 12, none, .bin .lss (.t 9) (.t 11)⟩] [] false) (.cond (.t 12) (.skip) (.exit 0))) (.seq (.block 1 [.keep, .keep, .kill, .kill, .kill, .norm 3, .keep, .keep] (.seq (.reg [⟨some 15, none, .mv false (.t 0)⟩, ⟨some 16, none, .mv false (.t 7)⟩, ⟨some 17, none, .iad none 1 (.t 15) (.t 16)⟩, ⟨some 18, none, .ld false none (.t 17)⟩, ⟨some 19, none, .mv false (.t 6)⟩, ⟨some 20, none, .bin .sub (.t 18) (.t 19)⟩, ⟨some 8, none, .mv false (.t 20)⟩] [17] false) (.seq (.seq (.reg [⟨some 21, none, .mv false (.t 7)⟩, ⟨some 22, none, .mv false (.t 1)⟩, ⟨some 23, none, .len false (.t 22)⟩, ⟨some 24, none, .bin .lss (.t 21) (.t 23)⟩] [] false) (.cond (.t 24) (.reg [⟨some 25, none, .mv false (.t 8)⟩, ⟨some 26, none, .mv false (.t 1)⟩, ⟨some 27, none, .mv false (.t 7)⟩, ⟨some 28, none, .iad none 1 (.t 26) (.t 27)⟩, ⟨some 29, none, .ld false none (.t 28)⟩, ⟨some 30, none, .bin .sub (.t 25) (.t 29)⟩, ⟨some 8, none, .mv false (.t 30)⟩] [28] false) (.skip))) (.seq (.reg [⟨some 6, none, .mv false (.c (.d (.int .i64 0)))⟩] [] false) (.seq (.seq (.reg [⟨some 31, none, .mv false (.t 8)⟩, ⟨some 32, none, .bin .lss (.t 31) (.c (.d (.int .i64 0)))⟩] [] false) (.cond (.t 32) (.seq (.reg [⟨some 33, none, .mv false (.t 8)⟩, ⟨some 34, none, .bin .add (.t 33) (.c (.d (.int .i64 10)))⟩, ⟨some 8, none, .mv false (.t 34)⟩] [] false) (.reg [⟨some 6, none, .mv false (.c (.d (.int .i64 1)))⟩] [] false)) (.skip))) (.reg [⟨some 35, none, .mv true (.t 5)⟩, ⟨some 36, none, .mv false (.t 8)⟩, ⟨some 37, none, .bsl 3 1 [(.t 36)]⟩, ⟨some 38, none, .app 3 1 8 (.t 35) (.t 37)⟩, ⟨some 5, none, .mv true (.t 38)⟩] [] false)))))) (.reg [⟨some 13, none, .mv false (.t 7)⟩, ⟨some 14, none, .bin .add (.t 13) (.c (.d (.int .i64 1)))⟩, ⟨some 7, none, .mv false (.t 14)⟩] [] false))
def r147_B0 : RCode := .block 0 [.kill, .kill, .kill, .kill, .kill, .norm 3] (.loop [.keep, .keep, .kill, .kill, .kill, .norm 3, .keep, .keep] r147_C0)
theorem r147_B0_eq {cf : CF} {s : St} : V cf r147_B0 s = loopK cf r147_B0 0 [.kill, .kill, .kill, .kill, .kill, .norm 3] [.keep, .keep, .kill, .kill, .kill, .norm 3, .keep, .keep] (V cf r147_C0 (s.head [.keep, .keep, .kill, .kill, .kill, .norm 3, .keep, .keep])) := V_bloop
/-- at the loop -/
abbrev r147_S0 (x0 x1 x5 x6 x7 : PV) (hp : List Ent) : St := ⟨[x0, x1, .dead, .dead, .dead, x5, x6, x7, .dead, .dead, .dead, .dead, .dead, .dead, .dead, .dead, .dead, .dead, .dead, .dead, .dead, .dead, .dead, .dead, .dead, .dead, .dead, .dead, .dead, .dead, .dead, .dead, .dead, .dead, .dead, .dead, .dead, .dead, .dead, .dead], hp⟩
/-- behind the loop -/
abbrev r147_E0 (x5 : PV) (hp : List Ent) : St := ⟨[.dead, .dead, .dead, .dead, .dead, x5, .dead, .dead, .dead, .dead, .dead, .dead, .dead, .dead, .dead, .dead, .dead, .dead, .dead, .dead, .dead, .dead, .dead, .dead, .dead, .dead, .dead, .dead, .dead, .dead, .dead, .dead, .dead, .dead, .dead, .dead, .dead, .dead, .dead, .dead], hp⟩
theorem r147_B0_z5 {cf : CF} {x0 x1 x6 x7 : PV} {hp : List Ent} : V cf r147_B0 (r147_S0 x0 x1 .nilsl x6 x7 hp) = V cf r147_B0 (r147_S0 x0 x1 (.own 3 []) x6 x7 hp) := by rw [r147_B0_eq, r147_B0_eq]; rfl
theorem r147_B0_n {cf : CF} {x0 x1 a2 a3 a4 x5 x6 x7 a8 a9 a10 a11 a12 a13 a14 a15 a16 a17 a18 a19 a20 a21 a22 a23 a24 a25 a26 a27 a28 a29 a30 a31 a32 a33 a34 a35 a36 a37 a38 a39 : PV} {hp : List Ent} : V cf r147_B0 ⟨[x0, x1, a2, a3, a4, x5, x6, x7, a8, a9, a10, a11, a12, a13, a14, a15, a16, a17, a18, a19, a20, a21, a22, a23, a24, a25, a26, a27, a28, a29, a30, a31, a32, a33, a34, a35, a36, a37, a38, a39], hp⟩ = V cf r147_B0 (r147_S0 x0 x1 x5 x6 x7 hp) := by rw [r147_B0_eq, r147_B0_eq]; rfl
/-- at the end -/
abbrev r147_R (x4 : PV) (hp : List Ent) : St := ⟨[.dead, .dead, .dead, .dead, x4, .dead, .dead, .dead, .dead, .dead, .dead, .dead, .dead, .dead, .dead, .dead, .dead, .dead, .dead, .dead, .dead, .dead, .dead, .dead, .dead, .dead, .dead, .dead, .dead, .dead, .dead, .dead, .dead, .dead, .dead, .dead, .dead, .dead, .dead, .dead], hp⟩
/-- keyhole/keyholeref04.less -/
def r147_T : RCode := .seq (.reg [⟨some 4, none, .mv false (.c (.nilsl))⟩] [] false) (.seq (.reg [⟨some 5, none, .mv true (.c (.nilsl))⟩] [] false) (.seq (.reg [⟨some 6, none, .mv false (.c (.d (.int .i64 0)))⟩] [] false) (.seq (.seq (.reg [⟨some 7, none, .mv false (.c (.d (.int .i64 0)))⟩] [] false) (r147_B0)) (.seq (.reg [⟨some 39, none, .mv false (.t 5)⟩, ⟨some 4, none, .mv false (.t 39)⟩] [] false) (.ret [.kill, .kill, .kill, .kill, .keep])))))
def r147 : RFunc := ⟨40, true, [.t 4], r147_T⟩
/-- at the end -/
abbrev r126_R (x4 : PV) (hp : List Ent) : St := ⟨[.dead, .dead, .dead, .dead, x4, .dead, .dead, .dead, .dead, .dead, .dead, .dead, .dead, .dead, .dead, .dead, .dead, .dead, .dead, .dead, .dead, .dead, .dead, .dead, .dead, .dead, .dead, .dead, .dead, .dead, .dead, .dead, .dead, .dead, .dead, .dead, .dead, .dead, .dead, .dead, .dead, .dead], hp⟩
/-- keyhole/keyholeref04.Plus -/
def r126_T : RCode := .seq (.reg [⟨some 2, none, .bx false true (.t 0)⟩, ⟨some 3, none, .bx false true (.t 1)⟩, ⟨some 4, none, .zal false [.d (.bool false), .nilsl]⟩] [] false) (.seq (.seq (.reg [⟨some 5, none, .fad 0 (.t 2)⟩, ⟨some 6, none, .ld false none (.t 5)⟩, ⟨some 7, none, .fad 0 (.t 3)⟩, ⟨some 8, none, .ld false none (.t 7)⟩, ⟨some 9, none, .beq false (.t 6) (.t 8)⟩] [5, 7] false) (.cond (.t 9) (.seq (.reg [⟨some 10, none, .fad 0 (.t 2)⟩, ⟨some 11, none, .ld false none (.t 10)⟩, ⟨some 12, none, .fad 1 (.t 2)⟩, ⟨some 13, none, .ld false none (.t 12)⟩, ⟨some 14, none, .fad 1 (.t 3)⟩, ⟨some 15, none, .ld false none (.t 14)⟩, ⟨some 16, none, .call false (.f 145) [(.t 13), (.t 15)]⟩, ⟨some 17, none, .bld [.bool false, .sl []] [(0, 1, (.t 11)), (1, 1, (.t 16))]⟩, ⟨some 18, none, .call false (.f 144) [(.t 17)]⟩, ⟨none, none, .sto (some 2) (.t 4) (.t 18)⟩] [10, 12, 14] true) (.ret [.kill, .kill, .kill, .kill, .keep])) (.skip))) (.seq (.seq (.reg [⟨some 19, none, .fad 1 (.t 2)⟩, ⟨some 20, none, .ld false none (.t 19)⟩, ⟨some 21, none, .fad 1 (.t 3)⟩, ⟨some 22, none, .ld false none (.t 21)⟩, ⟨some 23, none, .call false (.f 146) [(.t 20), (.t 22)]⟩] [19, 21] false) (.cond (.t 23) (.seq (.reg [⟨some 24, none, .fad 0 (.t 2)⟩, ⟨some 25, none, .ld false none (.t 24)⟩, ⟨some 26, none, .fad 1 (.t 2)⟩, ⟨some 27, none, .ld false none (.t 26)⟩, ⟨some 28, none, .fad 1 (.t 3)⟩, ⟨some 29, none, .ld false none (.t 28)⟩, ⟨some 30, none, .call false (.f 147) [(.t 27), (.t 29)]⟩, ⟨some 31, none, .bld [.bool false, .sl []] [(0, 1, (.t 25)), (1, 1, (.t 30))]⟩, ⟨some 32, none, .call false (.f 144) [(.t 31)]⟩, ⟨none, none, .sto (some 2) (.t 4) (.t 32)⟩] [24, 26, 28] true) (.ret [.kill, .kill, .kill, .kill, .keep])) (.skip))) (.seq (.reg [⟨some 33, none, .fad 0 (.t 3)⟩, ⟨some 34, none, .ld false none (.t 33)⟩, ⟨some 35, none, .fad 1 (.t 3)⟩, ⟨some 36, none, .ld false none (.t 35)⟩, ⟨some 37, none, .fad 1 (.t 2)⟩, ⟨some 38, none, .ld false none (.t 37)⟩, ⟨some 39, none, .call false (.f 147) [(.t 36), (.t 38)]⟩, ⟨some 40, none, .bld [.bool false, .sl []] [(0, 1, (.t 34)), (1, 1, (.t 39))]⟩, ⟨some 41, none, .call false (.f 144) [(.t 40)]⟩, ⟨none, none, .sto (some 2) (.t 4) (.t 41)⟩] [33, 35, 37] true) (.ret [.kill, .kill, .kill, .kill, .keep]))))
def r126 : RFunc := ⟨42, true, [.cell 4 (some 2)], r126_T⟩
/-- at the end -/
abbrev r96_R (x4 : PV) (hp : List Ent) : St := ⟨[.dead, .dead, .dead, .dead, x4, .dead, .dead, .dead, .dead, .dead, .dead, .dead, .dead, .dead, .dead, .dead, .dead, .dead, .dead, .dead, .dead, .dead, .dead, .dead, .dead, .dead, .dead, .dead, .dead, .dead], hp⟩
/-- keyhole/keyholeref04.Cmp -/
def r96_T : RCode := .seq (.reg [⟨some 2, none, .bx false true (.t 0)⟩, ⟨some 3, none, .bx false true (.t 1)⟩, ⟨some 4, none, .mv false (.c (.d (.int .i64 0)))⟩] [] false) (.seq (.reg [⟨some 10, none, .ld false (some 2) (.t 2)⟩, ⟨some 11, none, .ld false (some 2) (.t 3)⟩, ⟨some 12, none, .call false (.f 125) [(.t 10), (.t 11)]⟩, ⟨some 9, none, .mvt (.t 12)⟩, ⟨some 13, none, .ext false (.t 9) 0⟩, ⟨some 14, none, .ext false (.t 9) 1⟩, ⟨some 15, none, .ext false (.t 9) 2⟩, ⟨some 5, none, .zal false [.d (.bool false), .nilsl]⟩, ⟨some 6, none, .zal false [.d (.bool false), .nilsl]⟩, ⟨none, none, .sto (some 2) (.t 5) (.t 13)⟩, ⟨none, none, .sto (some 2) (.t 6) (.t 14)⟩, ⟨some 7, none, .mv false (.t 15)⟩] [] false) (.seq (.reg [⟨some 16, none, .ld false (some 2) (.t 5)⟩, ⟨some 17, none, .fad 0 (.t 6)⟩, ⟨some 18, none, .ld false none (.t 17)⟩, ⟨some 19, none, .un .not (.t 18)⟩, ⟨some 20, none, .fad 1 (.t 6)⟩, ⟨some 21, none, .ld false none (.t 20)⟩, ⟨some 22, none, .bld [.bool false, .sl []] [(0, 1, (.t 19)), (1, 1, (.t 21))]⟩, ⟨some 23, none, .call false (.f 126) [(.t 16), (.t 22)]⟩, ⟨some 8, none, .zal false [.d (.bool false), .nilsl]⟩, ⟨none, none, .sto (some 2) (.t 8) (.t 23)⟩] [17, 20] false) (.seq (.seq (.reg [⟨some 24, none, .fad 1 (.t 8)⟩, ⟨some 25, none, .ld false none (.t 24)⟩, ⟨some 26, none, .len false (.t 25)⟩, ⟨some 27, none, .bin .eql (.t 26) (.c (.d (.int .i64 0)))⟩] [24] false) (.cond (.t 27) (.seq (.reg [⟨some 4, none, .mv false (.c (.d (.int .i64 0)))⟩] [] false) (.ret [.kill, .kill, .kill, .kill, .keep])) (.skip))) (.seq (.seq (.reg [⟨some 28, none, .fad 0 (.t 8)⟩, ⟨some 29, none, .ld false none (.t 28)⟩] [28] false) (.cond (.t 29) (.seq (.reg [⟨some 4, none, .mv false (.c (.d (.int .i64 (-1))))⟩] [] false) (.ret [.kill, .kill, .kill, .kill, .keep])) (.skip))) (.seq (.reg [⟨some 4, none, .mv false (.c (.d (.int .i64 1)))⟩] [] false) (.ret [.kill, .kill, .kill, .kill, .keep]))))))
def r96 : RFunc := ⟨30, true, [.t 4], r96_T⟩
/-- at the end -/
abbrev r105_R (x2 : PV) (hp : List Ent) : St := ⟨[.dead, .dead, x2, .dead, .dead, .dead, .dead, .dead, .dead, .dead, .dead, .dead, .dead, .dead, .dead, .dead, .dead, .dead, .dead, .dead, .dead, .dead, .dead, .dead, .dead, .dead, .dead, .dead, .dead, .dead], hp⟩
/-- keyhole/keyholeref04.Is -/
def r105_T : RCode := .seq (.reg [⟨some 1, none, .bx false true (.t 0)⟩, ⟨some 2, none, .mv false (.c (.d (.bool false)))⟩] [] false) (.seq (.seq (.reg [⟨some 3, none, .fad 1 (.t 1)⟩, ⟨some 4, none, .ld false none (.t 3)⟩, ⟨some 5, none, .bin .lss (.t 4) (.c (.d (.int .i64 0)))⟩, ⟨some 6, none, .mv false (.t 5)⟩, ⟨some 7, some (6, false), .fad 1 (.t 1)⟩, ⟨some 8, some (6, false), .ld false none (.t 7)⟩, ⟨some 9, some (6, false), .bin .gtr (.t 8) (.c (.d (.int .i64 9)))⟩, ⟨some 10, none, .pick (.t 6) (.c (.d (.bool true))) (.t 9)⟩, ⟨some 11, none, .mv false (.t 10)⟩, ⟨some 12, some (11, false), .fad 0 (.t 1)⟩, ⟨some 13, some (11, false), .ld false none (.t 12)⟩, ⟨some 14, some (11, false), .bin .geq (.t 13) (.c (.d (.int .i64 1000000000000000)))⟩, ⟨some 15, none, .pick (.t 11) (.c (.d (.bool true))) (.t 14)⟩, ⟨some 16, none, .mv false (.t 15)⟩, ⟨some 17, some (16, false), .fad 0 (.t 1)⟩, ⟨some 18, some (16, false), .ld false none (.t 17)⟩, ⟨some 19, some (16, false), .bin .leq (.t 18) (.c (.d (.int .i64 (-1000000000000000))))⟩, ⟨some 20, none, .pick (.t 16) (.c (.d (.bool true))) (.t 19)⟩] [3, 7, 12, 17] false) (.cond (.t 20) (.seq (.reg [⟨some 2, none, .mv false (.c (.d (.bool false)))⟩] [] false) (.ret [.kill, .kill, .keep])) (.skip))) (.seq (.reg [⟨some 21, none, .fad 1 (.t 1)⟩, ⟨some 22, none, .ld false none (.t 21)⟩, ⟨some 23, none, .bin .eql (.t 22) (.c (.d (.int .i64 0)))⟩, ⟨some 24, none, .mv false (.t 23)⟩, ⟨some 25, some (24, false), .fad 0 (.t 1)⟩, ⟨some 26, some (24, false), .ld false none (.t 25)⟩, ⟨some 27, some (24, false), .bin .rem (.t 26) (.c (.d (.int .i64 10)))⟩, ⟨some 28, some (24, false), .bin .neq (.t 27) (.c (.d (.int .i64 0)))⟩, ⟨some 29, none, .pick (.t 24) (.c (.d (.bool true))) (.t 28)⟩, ⟨some 2, none, .mv false (.t 29)⟩] [21, 25] false) (.ret [.kill, .kill, .keep])))
def r105 : RFunc := ⟨30, true, [.t 2], r105_T⟩
/-- at the end -/
abbrev r97_R (x2 : PV) (hp : List Ent) : St := ⟨[.dead, .dead, x2, .dead, .dead, .dead, .dead], hp⟩
/-- keyhole/keyholeref07.clean -/
def r97_T : RCode := .seq (.reg [⟨some 1, none, .bx false true (.t 0)⟩, ⟨some 2, none, .zal false [.d (.int .i64 0), .d (.int .i64 0)]⟩] [] false) (.seq (.seq (.reg [⟨some 3, none, .ld false (some 2) (.t 1)⟩, ⟨some 4, none, .call false (.f 105) [(.t 3)]⟩] [] false) (.cond (.t 4) (.seq (.reg [⟨some 5, none, .ld false (some 2) (.t 1)⟩, ⟨none, none, .sto (some 2) (.t 2) (.t 5)⟩] [] false) (.ret [.kill, .kill, .keep])) (.skip))) (.seq (.reg [⟨some 6, none, .bld [.int .i64 0, .int .i64 0] []⟩, ⟨none, none, .sto (some 2) (.t 2) (.t 6)⟩] [] false) (.ret [.kill, .kill, .keep])))
def r97 : RFunc := ⟨7, true, [.cell 2 (some 2)], r97_T⟩
def r98_C0 : RCode := .seq (.seq (.reg [⟨some 6, none, .mv false (.t 5)⟩, ⟨some 7, none, .mv false (.t 0)⟩, ⟨some 8, none, .len true (.t 7)⟩, ⟨some 9, none, .bin .lss (.t 6) (.t 8)⟩, ⟨some 10, none, .mv false (.t 9)⟩, ⟨some 11, some (10, true), .mv false (.t 5)⟩, ⟨some 12, some (10, true), .mv false (.t 1)⟩, ⟨some 13, some (10, true), .len true (.t 12)⟩, ⟨some 14, some (10, true), .bin .lss (.t 11) (.t 13)⟩, ⟨some 15, none, .pick (.t 10) (.t 14) (.c (.d (.bool false)))⟩] [] false) (.cond (.t 15) (.skip) (.exit 0))) (.seq (.block 1 [.keep, .keep, .kill, .kill, .kill, .keep] (.seq (.reg [⟨some 18, none, .mv false (.t 0)⟩, ⟨some 19, none, .mv false (.t 5)⟩, ⟨some 20, none, .six (.t 18) (.t 19)⟩, ⟨some 21, none, .mv false (.t 1)⟩, ⟨some 22, none, .mv false (.t 5)⟩, ⟨some 23, none, .six (.t 21) (.t 22)⟩, ⟨some 24, none, .bin .neq (.t 20) (.t 23)⟩] [] true) (.cond (.t 24) (.seq (.reg [⟨some 25, none, .mv false (.t 0)⟩, ⟨some 26, none, .mv false (.t 5)⟩, ⟨some 27, none, .six (.t 25) (.t 26)⟩, ⟨some 28, none, .conv (.int .i64) (.t 27)⟩, ⟨some 29, none, .mv false (.t 1)⟩, ⟨some 30, none, .mv false (.t 5)⟩, ⟨some 31, none, .six (.t 29) (.t 30)⟩, ⟨some 32, none, .conv (.int .i64) (.t 31)⟩, ⟨some 33, none, .call false (.f 94) [(.t 28), (.t 32)]⟩, ⟨some 4, none, .mv false (.t 33)⟩] [] true) (.ret [.kill, .kill, .kill, .kill, .keep])) (.skip)))) (.reg [⟨some 16, none, .mv false (.t 5)⟩, ⟨some 17, none, .bin .add (.t 16) (.c (.d (.int .i64 1)))⟩, ⟨some 5, none, .mv false (.t 17)⟩] [] false))
def r98_B0 : RCode := .block 0 [.keep, .keep] (.loop [.keep, .keep, .kill, .kill, .kill, .keep] r98_C0)
theorem r98_B0_eq {cf : CF} {s : St} : V cf r98_B0 s = loopK cf r98_B0 0 [.keep, .keep] [.keep, .keep, .kill, .kill, .kill, .keep] (V cf r98_C0 (s.head [.keep, .keep, .kill, .kill, .kill, .keep])) := V_bloop
/-- at the loop -/
abbrev r98_S0 (x0 x1 x5 : PV) (hp : List Ent) : St := ⟨[x0, x1, .dead, .dead, .dead, x5, .dead, .dead, .dead, .dead, .dead, .dead, .dead, .dead, .dead, .dead, .dead, .dead, .dead, .dead, .dead, .dead, .dead, .dead, .dead, .dead, .dead, .dead, .dead, .dead, .dead, .dead, .dead, .dead, .dead, .dead, .dead, .dead, .dead], hp⟩
/-- behind the loop -/
abbrev r98_E0 (x0 x1 : PV) (hp : List Ent) : St := ⟨[x0, x1, .dead, .dead, .dead, .dead, .dead, .dead, .dead, .dead, .dead, .dead, .dead, .dead, .dead, .dead, .dead, .dead, .dead, .dead, .dead, .dead, .dead, .dead, .dead, .dead, .dead, .dead, .dead, .dead, .dead, .dead, .dead, .dead, .dead, .dead, .dead, .dead, .dead], hp⟩
theorem r98_B0_n {cf : CF} {x0 x1 a2 a3 a4 x5 a6 a7 a8 a9 a10 a11 a12 a13 a14 a15 a16 a17 a18 a19 a20 a21 a22 a23 a24 a25 a26 a27 a28 a29 a30 a31 a32 a33 a34 a35 a36 a37 a38 : PV} {hp : List Ent} : V cf r98_B0 ⟨[x0, x1, a2, a3, a4, x5, a6, a7, a8, a9, a10, a11, a12, a13, a14, a15, a16, a17, a18, a19, a20, a21, a22, a23, a24, a25, a26, a27, a28, a29, a30, a31, a32, a33, a34, a35, a36, a37, a38], hp⟩ = V cf r98_B0 (r98_S0 x0 x1 x5 hp) := by rw [r98_B0_eq, r98_B0_eq]; rfl
/-- at the end -/
abbrev r98_R (x4 : PV) (hp : List Ent) : St := ⟨[.dead, .dead, .dead, .dead, x4, .dead, .dead, .dead, .dead, .dead, .dead, .dead, .dead, .dead, .dead, .dead, .dead, .dead, .dead, .dead, .dead, .dead, .dead, .dead, .dead, .dead, .dead, .dead, .dead, .dead, .dead, .dead, .dead, .dead, .dead, .dead, .dead, .dead, .dead], hp⟩
/-- keyhole/keyholeref07.text -/
def r98_T : RCode := .seq (.reg [⟨some 4, none, .mv false (.c (.d (.int .i64 0)))⟩] [] false) (.seq (.seq (.reg [⟨some 5, none, .mv false (.c (.d (.int .i64 0)))⟩] [] false) (r98_B0)) (.seq (.reg [⟨some 34, none, .mv false (.t 0)⟩, ⟨some 35, none, .len true (.t 34)⟩, ⟨some 36, none, .mv false (.t 1)⟩, ⟨some 37, none, .len true (.t 36)⟩, ⟨some 38, none, .call false (.f 94) [(.t 35), (.t 37)]⟩, ⟨some 4, none, .mv false (.t 38)⟩] [] false) (.ret [.kill, .kill, .kill, .kill, .keep])))
def r98 : RFunc := ⟨39, true, [.t 4], r98_T⟩
def r99_C0 : RCode := .seq (.seq (.reg [⟨some 7, none, .mv false (.t 5)⟩, ⟨some 8, none, .mv false (.t 0)⟩, ⟨some 9, none, .len false (.t 8)⟩, ⟨some 10, none, .bin .lss (.t 7) (.t 9)⟩, ⟨some 11, none, .mv false (.t 10)⟩, ⟨some 12, some (11, true), .mv false (.t 5)⟩, ⟨some 13, some (11, true), .mv false (.t 1)⟩, ⟨some 14, some (11, true), .len false (.t 13)⟩, ⟨some 15, some (11, true), .bin .lss (.t 12) (.t 14)⟩, ⟨some 16, none, .pick (.t 11) (.t 15) (.c (.d (.bool false)))⟩] [] false) (.cond (.t 16) (.skip) (.exit 0))) (.seq (.block 1 [.keep, .keep, .kill, .kill, .kill, .keep] (.seq (.reg [⟨some 19, none, .mv false (.t 0)⟩, ⟨some 20, none, .mv false (.t 5)⟩, ⟨some 21, none, .iad none 1 (.t 19) (.t 20)⟩, ⟨some 22, none, .ld false none (.t 21)⟩, ⟨some 23, none, .mv false (.t 1)⟩, ⟨some 24, none, .mv false (.t 5)⟩, ⟨some 25, none, .iad none 1 (.t 23) (.t 24)⟩, ⟨some 26, none, .ld false none (.t 25)⟩, ⟨some 27, none, .call false (.f 98) [(.t 22), (.t 26)]⟩, ⟨some 6, none, .mv false (.t 27)⟩] [21, 25] true) (.seq (.reg [⟨some 28, none, .mv false (.t 6)⟩, ⟨some 29, none, .bin .neq (.t 28) (.c (.d (.int .i64 0)))⟩] [] false) (.cond (.t 29) (.seq (.reg [⟨some 30, none, .mv false (.t 6)⟩, ⟨some 4, none, .mv false (.t 30)⟩] [] false) (.ret [.kill, .kill, .kill, .kill, .keep])) (.skip))))) (.reg [⟨some 17, none, .mv false (.t 5)⟩, ⟨some 18, none, .bin .add (.t 17) (.c (.d (.int .i64 1)))⟩, ⟨some 5, none, .mv false (.t 18)⟩] [] false))
def r99_B0 : RCode := .block 0 [.keep, .keep] (.loop [.keep, .keep, .kill, .kill, .kill, .keep] r99_C0)
theorem r99_B0_eq {cf : CF} {s : St} : V cf r99_B0 s = loopK cf r99_B0 0 [.keep, .keep] [.keep, .keep, .kill, .kill, .kill, .keep] (V cf r99_C0 (s.head [.keep, .keep, .kill, .kill, .kill, .keep])) := V_bloop
/-- at the loop -/
abbrev r99_S0 (x0 x1 x5 : PV) (hp : List Ent) : St := ⟨[x0, x1, .dead, .dead, .dead, x5, .dead, .dead, .dead, .dead, .dead, .dead, .dead, .dead, .dead, .dead, .dead, .dead, .dead, .dead, .dead, .dead, .dead, .dead, .dead, .dead, .dead, .dead, .dead, .dead, .dead, .dead, .dead, .dead, .dead, .dead], hp⟩
/-- behind the loop -/
abbrev r99_E0 (x0 x1 : PV) (hp : List Ent) : St := ⟨[x0, x1, .dead, .dead, .dead, .dead, .dead, .dead, .dead, .dead, .dead, .dead, .dead, .dead, .dead, .dead, .dead, .dead, .dead, .dead, .dead, .dead, .dead, .dead, .dead, .dead, .dead, .dead, .dead, .dead, .dead, .dead, .dead, .dead, .dead, .dead], hp⟩
theorem r99_B0_n {cf : CF} {x0 x1 a2 a3 a4 x5 a6 a7 a8 a9 a10 a11 a12 a13 a14 a15 a16 a17 a18 a19 a20 a21 a22 a23 a24 a25 a26 a27 a28 a29 a30 a31 a32 a33 a34 a35 : PV} {hp : List Ent} : V cf r99_B0 ⟨[x0, x1, a2, a3, a4, x5, a6, a7, a8, a9, a10, a11, a12, a13, a14, a15, a16, a17, a18, a19, a20, a21, a22, a23, a24, a25, a26, a27, a28, a29, a30, a31, a32, a33, a34, a35], hp⟩ = V cf r99_B0 (r99_S0 x0 x1 x5 hp) := by rw [r99_B0_eq, r99_B0_eq]; rfl
/-- at the end -/
abbrev r99_R (x4 : PV) (hp : List Ent) : St := ⟨[.dead, .dead, .dead, .dead, x4, .dead, .dead, .dead, .dead, .dead, .dead, .dead, .dead, .dead, .dead, .dead, .dead, .dead, .dead, .dead, .dead, .dead, .dead, .dead, .dead, .dead, .dead, .dead, .dead, .dead, .dead, .dead, .dead, .dead, .dead, .dead], hp⟩
/-- keyhole/keyholeref07.keys -/
def r99_T : RCode := .seq (.reg [⟨some 4, none, .mv false (.c (.d (.int .i64 0)))⟩] [] false) (.seq (.seq (.reg [⟨some 5, none, .mv false (.c (.d (.int .i64 0)))⟩] [] false) (r99_B0)) (.seq (.reg [⟨some 31, none, .mv false (.t 0)⟩, ⟨some 32, none, .len false (.t 31)⟩, ⟨some 33, none, .mv false (.t 1)⟩, ⟨some 34, none, .len false (.t 33)⟩, ⟨some 35, none, .call false (.f 94) [(.t 32), (.t 34)]⟩, ⟨some 4, none, .mv false (.t 35)⟩] [] false) (.ret [.kill, .kill, .kill, .kill, .keep])))
def r99 : RFunc := ⟨36, true, [.t 4], r99_T⟩
def r58_C0 : RCode := .seq (.seq (.reg [⟨some 57, none, .mv false (.t 8)⟩, ⟨some 58, none, .bin .eql (.t 57) (.c (.d (.int .i64 0)))⟩, ⟨some 59, none, .mv false (.t 58)⟩, ⟨some 60, some (59, true), .mv false (.t 9)⟩, ⟨some 61, some (59, true), .fad 4 (.t 3)⟩, ⟨some 62, some (59, true), .ld false none (.t 61)⟩, ⟨some 63, some (59, true), .len false (.t 62)⟩, ⟨some 64, some (59, true), .bin .lss (.t 60) (.t 63)⟩, ⟨some 65, none, .pick (.t 59) (.t 64) (.c (.d (.bool false)))⟩, ⟨some 66, none, .mv false (.t 65)⟩, ⟨some 67, some (66, true), .mv false (.t 9)⟩, ⟨some 68, some (66, true), .fad 4 (.t 4)⟩, ⟨some 69, some (66, true), .ld false none (.t 68)⟩, ⟨some 70, some (66, true), .len false (.t 69)⟩, ⟨some 71, some (66, true), .bin .lss (.t 67) (.t 70)⟩, ⟨some 72, none, .pick (.t 66) (.t 71) (.c (.d (.bool false)))⟩] [61, 68] false) (.cond (.t 72) (.skip) (.exit 1))) (.seq (.block 2 [.kill, .kill, .keep, .keep, .keep, .kill, .kill, .kill, .keep, .keep] (.seq (.reg [⟨some 76, none, .fad 4 (.t 3)⟩, ⟨some 77, none, .ld false none (.t 76)⟩, ⟨some 78, none, .mv false (.t 9)⟩, ⟨some 79, none, .iad none 6 (.t 77) (.t 78)⟩, ⟨some 80, none, .ld false (some 6) (.t 79)⟩, ⟨some 81, none, .fad 4 (.t 4)⟩, ⟨some 82, none, .ld false none (.t 81)⟩, ⟨some 83, none, .mv false (.t 9)⟩, ⟨some 84, none, .iad none 6 (.t 82) (.t 83)⟩, ⟨some 85, none, .ld false (some 6) (.t 84)⟩, ⟨some 86, none, .mv false (.t 2)⟩, ⟨some 87, none, .call false (.f 58) [(.t 80), (.t 85), (.t 86)]⟩, ⟨some 75, none, .mvt (.t 87)⟩, ⟨some 88, none, .ext false (.t 75) 0⟩, ⟨some 89, none, .ext false (.t 75) 1⟩, ⟨some 8, none, .mv false (.t 88)⟩, ⟨some 2, none, .mv false (.t 89)⟩] [76, 79, 81, 84] true) (.seq (.reg [⟨some 90, none, .mv false (.t 2)⟩, ⟨some 91, none, .bin .gtr (.t 90) (.c (.d (.int .i64 4096)))⟩] [] false) (.cond (.t 91) (.seq (.reg [⟨some 92, none, .mv false (.t 2)⟩, ⟨some 6, none, .mv false (.c (.d (.int .i64 0)))⟩, ⟨some 7, none, .mv false (.t 92)⟩] [] false) (.ret [.kill, .kill, .kill, .kill, .kill, .kill, .keep, .keep])) (.skip))))) (.reg [⟨some 73, none, .mv false (.t 9)⟩, ⟨some 74, none, .bin .add (.t 73) (.c (.d (.int .i64 1)))⟩, ⟨some 9, none, .mv false (.t 74)⟩] [] false))
def r58_B0 : RCode := .block 1 [.kill, .kill, .keep, .keep, .keep, .kill, .kill, .kill, .keep] (.loop [.kill, .kill, .keep, .keep, .keep, .kill, .kill, .kill, .keep, .keep] r58_C0)
theorem r58_B0_eq {cf : CF} {s : St} : V cf r58_B0 s = loopK cf r58_B0 1 [.kill, .kill, .keep, .keep, .keep, .kill, .kill, .kill, .keep] [.kill, .kill, .keep, .keep, .keep, .kill, .kill, .kill, .keep, .keep] (V cf r58_C0 (s.head [.kill, .kill, .keep, .keep, .keep, .kill, .kill, .kill, .keep, .keep])) := V_bloop
/-- at the loop -/
abbrev r58_S0 (x2 x3 x4 x8 x9 : PV) (hp : List Ent) : St := ⟨[.dead, .dead, x2, x3, x4, .dead, .dead, .dead, x8, x9, .dead, .dead, .dead, .dead, .dead, .dead, .dead, .dead, .dead, .dead, .dead, .dead, .dead, .dead, .dead, .dead, .dead, .dead, .dead, .dead, .dead, .dead, .dead, .dead, .dead, .dead, .dead, .dead, .dead, .dead, .dead, .dead, .dead, .dead, .dead, .dead, .dead, .dead, .dead, .dead, .dead, .dead, .dead, .dead, .dead, .dead, .dead, .dead, .dead, .dead, .dead, .dead, .dead, .dead, .dead, .dead, .dead, .dead, .dead, .dead, .dead, .dead, .dead, .dead, .dead, .dead, .dead, .dead, .dead, .dead, .dead, .dead, .dead, .dead, .dead, .dead, .dead, .dead, .dead, .dead, .dead, .dead, .dead, .dead, .dead, .dead, .dead, .dead, .dead, .dead, .dead, .dead, .dead, .dead, .dead], hp⟩
/-- behind the loop -/
abbrev r58_E0 (x2 x3 x4 x8 : PV) (hp : List Ent) : St := ⟨[.dead, .dead, x2, x3, x4, .dead, .dead, .dead, x8, .dead, .dead, .dead, .dead, .dead, .dead, .dead, .dead, .dead, .dead, .dead, .dead, .dead, .dead, .dead, .dead, .dead, .dead, .dead, .dead, .dead, .dead, .dead, .dead, .dead, .dead, .dead, .dead, .dead, .dead, .dead, .dead, .dead, .dead, .dead, .dead, .dead, .dead, .dead, .dead, .dead, .dead, .dead, .dead, .dead, .dead, .dead, .dead, .dead, .dead, .dead, .dead, .dead, .dead, .dead, .dead, .dead, .dead, .dead, .dead, .dead, .dead, .dead, .dead, .dead, .dead, .dead, .dead, .dead, .dead, .dead, .dead, .dead, .dead, .dead, .dead, .dead, .dead, .dead, .dead, .dead, .dead, .dead, .dead, .dead, .dead, .dead, .dead, .dead, .dead, .dead, .dead, .dead, .dead, .dead, .dead], hp⟩
theorem r58_B0_n {cf : CF} {a0 a1 x2 x3 x4 a5 a6 a7 x8 x9 a10 a11 a12 a13 a14 a15 a16 a17 a18 a19 a20 a21 a22 a23 a24 a25 a26 a27 a28 a29 a30 a31 a32 a33 a34 a35 a36 a37 a38 a39 a40 a41 a42 a43 a44 a45 a46 a47 a48 a49 a50 a51 a52 a53 a54 a55 a56 a57 a58 a59 a60 a61 a62 a63 a64 a65 a66 a67 a68 a69 a70 a71 a72 a73 a74 a75 a76 a77 a78 a79 a80 a81 a82 a83 a84 a85 a86 a87 a88 a89 a90 a91 a92 a93 a94 a95 a96 a97 a98 a99 a100 a101 a102 a103 a104 : PV} {hp : List Ent} : V cf r58_B0 ⟨[a0, a1, x2, x3, x4, a5, a6, a7, x8, x9, a10, a11, a12, a13, a14, a15, a16, a17, a18, a19, a20, a21, a22, a23, a24, a25, a26, a27, a28, a29, a30, a31, a32, a33, a34, a35, a36, a37, a38, a39, a40, a41, a42, a43, a44, a45, a46, a47, a48, a49, a50, a51, a52, a53, a54, a55, a56, a57, a58, a59, a60, a61, a62, a63, a64, a65, a66, a67, a68, a69, a70, a71, a72, a73, a74, a75, a76, a77, a78, a79, a80, a81, a82, a83, a84, a85, a86, a87, a88, a89, a90, a91, a92, a93, a94, a95, a96, a97, a98, a99, a100, a101, a102, a103, a104], hp⟩ = V cf r58_B0 (r58_S0 x2 x3 x4 x8 x9 hp) := by rw [r58_B0_eq, r58_B0_eq]; rfl
/-- at the end -/
abbrev r58_R (x6 x7 : PV) (hp : List Ent) : St := ⟨[.dead, .dead, .dead, .dead, .dead, .dead, x6, x7, .dead, .dead, .dead, .dead, .dead, .dead, .dead, .dead, .dead, .dead, .dead, .dead, .dead, .dead, .dead, .dead, .dead, .dead, .dead, .dead, .dead, .dead, .dead, .dead, .dead, .dead, .dead, .dead, .dead, .dead, .dead, .dead, .dead, .dead, .dead, .dead, .dead, .dead, .dead, .dead, .dead, .dead, .dead, .dead, .dead, .dead, .dead, .dead, .dead, .dead, .dead, .dead, .dead, .dead, .dead, .dead, .dead, .dead, .dead, .dead, .dead, .dead, .dead, .dead, .dead, .dead, .dead, .dead, .dead, .dead, .dead, .dead, .dead, .dead, .dead, .dead, .dead, .dead, .dead, .dead, .dead, .dead, .dead, .dead, .dead, .dead, .dead, .dead, .dead, .dead, .dead, .dead, .dead, .dead, .dead, .dead, .dead], hp⟩
/-- keyhole/keyholeref07.look -/
def r58_T : RCode := .seq (.reg [⟨some 3, none, .bx false true (.t 0)⟩, ⟨some 4, none, .bx false true (.t 1)⟩, ⟨some 6, none, .mv false (.c (.d (.int .i64 0)))⟩, ⟨some 7, none, .mv false (.c (.d (.int .i64 0)))⟩] [] false) (.seq (.reg [⟨some 10, none, .mv false (.t 2)⟩, ⟨some 11, none, .bin .add (.t 10) (.c (.d (.int .i64 1)))⟩, ⟨some 2, none, .mv false (.t 11)⟩] [] false) (.seq (.seq (.reg [⟨some 12, none, .mv false (.t 2)⟩, ⟨some 13, none, .bin .gtr (.t 12) (.c (.d (.int .i64 4096)))⟩] [] false) (.cond (.t 13) (.seq (.reg [⟨some 6, none, .mv false (.c (.d (.int .i64 0)))⟩, ⟨some 7, none, .mv false (.c (.d (.int .i64 5000)))⟩] [] false) (.ret [.kill, .kill, .kill, .kill, .kill, .kill, .keep, .keep])) (.skip))) (.seq (.reg [⟨some 14, none, .fad 0 (.t 3)⟩, ⟨some 15, none, .ld false none (.t 14)⟩, ⟨some 16, none, .call false (.f 95) [(.t 15)]⟩, ⟨some 17, none, .fad 0 (.t 4)⟩, ⟨some 18, none, .ld false none (.t 17)⟩, ⟨some 19, none, .call false (.f 95) [(.t 18)]⟩, ⟨some 20, none, .call false (.f 94) [(.t 16), (.t 19)]⟩, ⟨some 8, none, .mv false (.t 20)⟩] [14, 17] true) (.seq (.seq (.reg [⟨some 21, none, .mv false (.t 8)⟩, ⟨some 22, none, .bin .neq (.t 21) (.c (.d (.int .i64 0)))⟩] [] false) (.cond (.t 22) (.seq (.reg [⟨some 23, none, .mv false (.t 8)⟩, ⟨some 24, none, .mv false (.t 2)⟩, ⟨some 6, none, .mv false (.t 23)⟩, ⟨some 7, none, .mv false (.t 24)⟩] [] false) (.ret [.kill, .kill, .kill, .kill, .kill, .kill, .keep, .keep])) (.skip))) (.seq (.seq (.reg [⟨some 25, none, .fad 0 (.t 3)⟩, ⟨some 26, none, .ld false none (.t 25)⟩] [25] false) (.block 0 [.kill, .kill, .keep] (.seq (.reg [⟨some 28, none, .bin .eql (.t 26) (.c (.d (.int .i64 3)))⟩, ⟨some 27, none, .mv false (.t 28)⟩] [] false) (.cond (.t 27) (.seq (.reg [⟨some 29, none, .fad 1 (.t 3)⟩, ⟨some 30, none, .ld false (some 2) (.t 29)⟩, ⟨some 31, none, .call false (.f 97) [(.t 30)]⟩, ⟨some 32, none, .fad 1 (.t 4)⟩, ⟨some 33, none, .ld false (some 2) (.t 32)⟩, ⟨some 34, none, .call false (.f 97) [(.t 33)]⟩, ⟨some 35, none, .call false (.f 96) [(.t 31), (.t 34)]⟩, ⟨some 36, none, .mv false (.t 2)⟩, ⟨some 6, none, .mv false (.t 35)⟩, ⟨some 7, none, .mv false (.t 36)⟩] [29, 32] true) (.ret [.kill, .kill, .kill, .kill, .kill, .kill, .keep, .keep])) (.seq (.seq (.reg [⟨some 38, none, .bin .eql (.t 26) (.c (.d (.int .i64 4)))⟩, ⟨some 37, none, .mv false (.t 38)⟩] [] false) (.cond (.t 37) (.skip) (.reg [⟨some 39, none, .bin .eql (.t 26) (.c (.d (.int .i64 7)))⟩, ⟨some 37, none, .mv false (.t 39)⟩] [] false))) (.cond (.t 37) (.seq (.reg [⟨some 40, none, .fad 3 (.t 3)⟩, ⟨some 41, none, .ld false none (.t 40)⟩, ⟨some 42, none, .fad 3 (.t 4)⟩, ⟨some 43, none, .ld false none (.t 42)⟩, ⟨some 44, none, .call false (.f 98) [(.t 41), (.t 43)]⟩, ⟨some 45, none, .mv false (.t 2)⟩, ⟨some 6, none, .mv false (.t 44)⟩, ⟨some 7, none, .mv false (.t 45)⟩] [40, 42] false) (.ret [.kill, .kill, .kill, .kill, .kill, .kill, .keep, .keep])) (.seq (.seq (.reg [⟨some 47, none, .bin .eql (.t 26) (.c (.d (.int .i64 5)))⟩, ⟨some 46, none, .mv false (.t 47)⟩] [] false) (.cond (.t 46) (.skip) (.reg [⟨some 48, none, .bin .eql (.t 26) (.c (.d (.int .i64 6)))⟩, ⟨some 46, none, .mv false (.t 48)⟩] [] false))) (.cond (.t 46) (.seq (.seq (.reg [⟨some 49, none, .fad 0 (.t 3)⟩, ⟨some 50, none, .ld false none (.t 49)⟩, ⟨some 51, none, .bin .eql (.t 50) (.c (.d (.int .i64 6)))⟩] [49] false) (.cond (.t 51) (.reg [⟨some 52, none, .fad 5 (.t 3)⟩, ⟨some 53, none, .ld false none (.t 52)⟩, ⟨some 54, none, .fad 5 (.t 4)⟩, ⟨some 55, none, .ld false none (.t 54)⟩, ⟨some 56, none, .call false (.f 99) [(.t 53), (.t 55)]⟩, ⟨some 8, none, .mv false (.t 56)⟩] [52, 54] false) (.skip))) (.seq (.seq (.reg [⟨some 9, none, .mv false (.c (.d (.int .i64 0)))⟩] [] false) (r58_B0)) (.seq (.seq (.reg [⟨some 93, none, .mv false (.t 8)⟩, ⟨some 94, none, .bin .eql (.t 93) (.c (.d (.int .i64 0)))⟩] [] false) (.cond (.t 94) (.reg [⟨some 95, none, .fad 4 (.t 3)⟩, ⟨some 96, none, .ld false none (.t 95)⟩, ⟨some 97, none, .len false (.t 96)⟩, ⟨some 98, none, .fad 4 (.t 4)⟩, ⟨some 99, none, .ld false none (.t 98)⟩, ⟨some 100, none, .len false (.t 99)⟩, ⟨some 101, none, .call false (.f 94) [(.t 97), (.t 100)]⟩, ⟨some 8, none, .mv false (.t 101)⟩] [95, 98] false) (.skip))) (.seq (.reg [⟨some 102, none, .mv false (.t 8)⟩, ⟨some 103, none, .mv false (.t 2)⟩, ⟨some 6, none, .mv false (.t 102)⟩, ⟨some 7, none, .mv false (.t 103)⟩] [] false) (.ret [.kill, .kill, .kill, .kill, .kill, .kill, .keep, .keep]))))) (.skip))))))))) (.seq (.reg [⟨some 104, none, .mv false (.t 2)⟩, ⟨some 6, none, .mv false (.c (.d (.int .i64 0)))⟩, ⟨some 7, none, .mv false (.t 104)⟩] [] false) (.ret [.kill, .kill, .kill, .kill, .kill, .kill, .keep, .keep])))))))
def r58 : RFunc := ⟨105, true, [.t 6, .t 7], r58_T⟩
/-- at the end -/
abbrev r18_R (x4 x5 : PV) (hp : List Ent) : St := ⟨[.dead, .dead, .dead, .dead, x4, x5, .dead, .dead, .dead, .dead, .dead, .dead, .dead, .dead, .dead, .dead, .dead], hp⟩
/-- keyhole/keyholeref07.Compare -/
def r18_T : RCode := .seq (.reg [⟨some 2, none, .bx false true (.t 0)⟩, ⟨some 3, none, .bx false true (.t 1)⟩, ⟨some 4, none, .mv false (.c (.d (.int .i64 0)))⟩, ⟨some 5, none, .mv false (.c (.d (.bool false)))⟩] [] false) (.seq (.reg [⟨some 9, none, .ld false (some 6) (.t 2)⟩, ⟨some 10, none, .ld false (some 6) (.t 3)⟩, ⟨some 11, none, .call false (.f 58) [(.t 9), (.t 10), (.c (.d (.int .i64 0)))]⟩, ⟨some 8, none, .mvt (.t 11)⟩, ⟨some 12, none, .ext false (.t 8) 0⟩, ⟨some 13, none, .ext false (.t 8) 1⟩, ⟨some 6, none, .mv false (.t 12)⟩, ⟨some 7, none, .mv false (.t 13)⟩] [] false) (.seq (.reg [⟨some 14, none, .mv false (.t 6)⟩, ⟨some 15, none, .mv false (.t 7)⟩, ⟨some 16, none, .bin .leq (.t 15) (.c (.d (.int .i64 4096)))⟩, ⟨some 4, none, .mv false (.t 14)⟩, ⟨some 5, none, .mv false (.t 16)⟩] [] false) (.ret [.kill, .kill, .kill, .kill, .keep, .keep])))
def r18 : RFunc := ⟨17, true, [.t 4, .t 5], r18_T⟩
/-- at the end -/
abbrev r3_R (x4 : PV) (hp : List Ent) : St := ⟨[.dead, .dead, .dead, .dead, x4, .dead, .dead, .dead, .dead, .dead, .dead, .dead, .dead, .dead, .dead, .dead, .dead, .dead, .dead, .dead, .dead, .dead, .dead, .dead, .dead, .dead, .dead, .dead, .dead, .dead, .dead, .dead, .dead, .dead, .dead, .dead, .dead, .dead, .dead, .dead, .dead, .dead, .dead, .dead, .dead, .dead, .dead, .dead, .dead], hp⟩
/-- keyhole/keyholelaw07.OrderCompares -/
def r3_T : RCode := .seq (.reg [⟨some 2, none, .bx false true (.t 0)⟩, ⟨some 3, none, .bx false true (.t 1)⟩, ⟨some 4, none, .mv false (.c (.d (.bool false)))⟩] [] false) (.seq (.seq (.reg [⟨some 9, none, .ld false (some 6) (.t 2)⟩, ⟨some 10, none, .ld false (some 6) (.t 3)⟩, ⟨some 11, none, .bsl 27 6 [(.t 9), (.t 10)]⟩, ⟨some 12, none, .call false (.f 15) [(.t 11)]⟩, ⟨some 13, none, .un .not (.t 12)⟩] [] false) (.cond (.t 13) (.seq (.reg [⟨some 14, none, .call false (.f 16) []⟩, ⟨some 4, none, .mv false (.t 14)⟩] [] false) (.ret [.kill, .kill, .kill, .kill, .keep])) (.skip))) (.seq (.reg [⟨some 16, none, .ld false (some 6) (.t 2)⟩, ⟨some 17, none, .ld false (some 6) (.t 3)⟩, ⟨some 18, none, .call false (.f 17) [(.t 16), (.t 17)]⟩, ⟨some 15, none, .mvt (.t 18)⟩, ⟨some 19, none, .ext false (.t 15) 0⟩, ⟨some 20, none, .ext false (.t 15) 1⟩, ⟨some 5, none, .mv false (.t 19)⟩, ⟨some 6, none, .mv false (.t 20)⟩] [] false) (.seq (.reg [⟨some 22, none, .ld false (some 6) (.t 2)⟩, ⟨some 23, none, .ld false (some 6) (.t 3)⟩, ⟨some 24, none, .call false (.f 18) [(.t 22), (.t 23)]⟩, ⟨some 21, none, .mvt (.t 24)⟩, ⟨some 25, none, .ext false (.t 21) 0⟩, ⟨some 26, none, .ext false (.t 21) 1⟩, ⟨some 7, none, .mv false (.t 25)⟩, ⟨some 8, none, .mv false (.t 26)⟩] [] false) (.seq (.reg [⟨some 27, none, .mv false (.t 6)⟩, ⟨some 28, none, .mv false (.t 8)⟩, ⟨some 29, none, .beq false (.t 27) (.t 28)⟩, ⟨some 30, none, .mv false (.t 29)⟩, ⟨some 31, some (30, true), .mv false (.t 6)⟩, ⟨some 32, some (30, true), .un .not (.t 31)⟩, ⟨some 33, some (30, true), .mv false (.t 32)⟩, ⟨some 34, some (33, true), .mv false (.t 5)⟩, ⟨some 35, some (33, true), .bin .eql (.t 34) (.c (.d (.int .i64 0)))⟩, ⟨some 36, some (30, true), .pick (.t 33) (.t 35) (.c (.d (.bool false)))⟩, ⟨some 37, some (30, true), .mv false (.t 36)⟩, ⟨some 38, some (37, false), .mv false (.t 6)⟩, ⟨some 39, some (37, false), .mv false (.t 38)⟩, ⟨some 40, some (39, true), .mv false (.t 5)⟩, ⟨some 41, some (39, true), .mv false (.t 7)⟩, ⟨some 42, some (39, true), .bin .eql (.t 40) (.t 41)⟩, ⟨some 43, some (37, false), .pick (.t 39) (.t 42) (.c (.d (.bool false)))⟩, ⟨some 44, some (30, true), .pick (.t 37) (.c (.d (.bool true))) (.t 43)⟩, ⟨some 45, none, .pick (.t 30) (.t 44) (.c (.d (.bool false)))⟩, ⟨some 46, none, .mv false (.t 45)⟩, ⟨some 47, some (46, true), .call false (.f 16) []⟩, ⟨some 48, none, .pick (.t 46) (.t 47) (.c (.d (.bool false)))⟩, ⟨some 4, none, .mv false (.t 48)⟩] [] false) (.ret [.kill, .kill, .kill, .kill, .keep])))))
def r3 : RFunc := ⟨49, true, [.t 4], r3_T⟩
def tl : Tabl := [(85, r85), (86, r86), (55, r55), (15, r15), (119, r119), (87, r87), (88, r88), (123, r123), (120, r120), (141, r141), (121, r121), (122, r122), (89, r89), (90, r90), (124, r124), (91, r91), (92, r92), (93, r93), (57, r57), (17, r17), (56, r56), (16, r16), (94, r94), (95, r95), (144, r144), (142, r142), (143, r143), (125, r125), (145, r145), (146, r146), (147, r147), (126, r126), (96, r96), (105, r105), (97, r97), (98, r98), (99, r99), (58, r58), (18, r18), (3, r3)]
def pf : Nat → Bool := pfOf tl []
def tab : Nat → Option FnD := tabOf tl []
theorem all_ok : tabAll Go.Proofs.Try.prog pf tl = true := by kernel_rfl
theorem t85 : tab 85 = some (.code r85) := rfl
theorem f85 {a0 a1 a2 : PV} {hp : List Ent} {out : Out} (hh : PV.hfrees [a0, a1, a2] = true) (h : fnEnd r85 hp (V (F tab) r85_T ⟨[a0, a1, a2, .dead, .dead, .dead, .dead, .dead, .dead, .dead, .dead, .dead, .dead, .dead, .dead, .dead, .dead, .dead, .dead, .dead, .dead, .dead, .dead, .dead, .dead, .dead, .dead, .dead, .dead, .dead], []⟩) = some out) : F tab 85 [a0, a1, a2] hp = some out := F_code t85 (by rw [hh]; rfl) h
theorem t86 : tab 86 = some (.code r86) := rfl
theorem f86 {a0 a1 : PV} {hp : List Ent} {out : Out} (hh : PV.hfrees [a0, a1] = true) (h : fnEnd r86 hp (V (F tab) r86_T ⟨[a0, a1, .dead, .dead, .dead, .dead, .dead, .dead, .dead, .dead, .dead, .dead, .dead, .dead, .dead, .dead, .dead, .dead, .dead, .dead, .dead, .dead, .dead, .dead], []⟩) = some out) : F tab 86 [a0, a1] hp = some out := F_code t86 (by rw [hh]; rfl) h
theorem t55 : tab 55 = some (.code r55) := rfl
theorem f55 {a0 a1 : PV} {hp : List Ent} {out : Out} (hh : PV.hfrees [a0, a1] = true) (h : fnEnd r55 hp (V (F tab) r55_T ⟨[a0, a1, .dead, .dead, .dead, .dead, .dead, .dead, .dead, .dead, .dead, .dead, .dead, .dead, .dead], []⟩) = some out) : F tab 55 [a0, a1] hp = some out := F_code t55 (by rw [hh]; rfl) h
theorem t15 : tab 15 = some (.code r15) := rfl
theorem f15 {a0 : PV} {hp : List Ent} {out : Out} (hh : PV.hfrees [a0] = true) (h : fnEnd r15 hp (V (F tab) r15_T ⟨[a0, .dead, .dead, .dead, .dead, .dead, .dead, .dead, .dead, .dead, .dead, .dead, .dead, .dead, .dead, .dead, .dead, .dead, .dead, .dead, .dead, .dead, .dead], []⟩) = some out) : F tab 15 [a0] hp = some out := F_code t15 (by rw [hh]; rfl) h
theorem t119 : tab 119 = some (.code r119) := rfl
theorem f119 {a0 : PV} {hp : List Ent} {out : Out} (hh : PV.hfrees [a0] = true) (h : fnEnd r119 hp (V (F tab) r119_T ⟨[a0, .dead, .dead, .dead, .dead, .dead], []⟩) = some out) : F tab 119 [a0] hp = some out := F_code t119 (by rw [hh]; rfl) h
theorem t87 : tab 87 = some (.code r87) := rfl
theorem f87 {a0 a1 : PV} {hp : List Ent} {out : Out} (hh : PV.hfrees [a0, a1] = true) (h : fnEnd r87 hp (V (F tab) r87_T ⟨[a0, a1, .dead, .dead, .dead, .dead, .dead, .dead, .dead, .dead, .dead, .dead, .dead, .dead, .dead, .dead, .dead, .dead, .dead, .dead], []⟩) = some out) : F tab 87 [a0, a1] hp = some out := F_code t87 (by rw [hh]; rfl) h
theorem t88 : tab 88 = some (.code r88) := rfl
theorem f88 {a0 : PV} {hp : List Ent} {out : Out} (hh : PV.hfrees [a0] = true) (h : fnEnd r88 hp (V (F tab) r88_T ⟨[a0, .dead, .dead, .dead, .dead, .dead, .dead, .dead, .dead, .dead], []⟩) = some out) : F tab 88 [a0] hp = some out := F_code t88 (by rw [hh]; rfl) h
theorem t123 : tab 123 = some (.code r123) := rfl
theorem f123 {a0 : PV} {hp : List Ent} {out : Out} (hh : PV.hfrees [a0] = true) (h : fnEnd r123 hp (V (F tab) r123_T ⟨[a0, .dead, .dead, .dead, .dead, .dead, .dead, .dead, .dead, .dead, .dead, .dead, .dead, .dead, .dead, .dead, .dead, .dead, .dead, .dead, .dead, .dead, .dead, .dead, .dead, .dead, .dead, .dead, .dead, .dead], []⟩) = some out) : F tab 123 [a0] hp = some out := F_code t123 (by rw [hh]; rfl) h
theorem t120 : tab 120 = some (.code r120) := rfl
theorem f120 {a0 a1 : PV} {hp : List Ent} {out : Out} (hh : PV.hfrees [a0, a1] = true) (h : fnEnd r120 hp (V (F tab) r120_T ⟨[a0, a1, .dead, .dead, .dead, .dead, .dead, .dead, .dead, .dead, .dead], []⟩) = some out) : F tab 120 [a0, a1] hp = some out := F_code t120 (by rw [hh]; rfl) h
theorem t141 : tab 141 = some (.code r141) := rfl
theorem f141 {a0 : PV} {hp : List Ent} {out : Out} (hh : PV.hfrees [a0] = true) (h : fnEnd r141 hp (V (F tab) r141_T ⟨[a0, .dead, .dead, .dead, .dead, .dead, .dead, .dead, .dead, .dead, .dead], []⟩) = some out) : F tab 141 [a0] hp = some out := F_code t141 (by rw [hh]; rfl) h
theorem t121 : tab 121 = some (.code r121) := rfl
theorem f121 {a0 : PV} {hp : List Ent} {out : Out} (hh : PV.hfrees [a0] = true) (h : fnEnd r121 hp (V (F tab) r121_T ⟨[a0, .dead, .dead, .dead, .dead, .dead, .dead, .dead, .dead, .dead, .dead, .dead, .dead, .dead, .dead, .dead, .dead, .dead, .dead, .dead, .dead], []⟩) = some out) : F tab 121 [a0] hp = some out := F_code t121 (by rw [hh]; rfl) h
theorem t122 : tab 122 = some (.code r122) := rfl
theorem f122 {a0 a1 : PV} {hp : List Ent} {out : Out} (hh : PV.hfrees [a0, a1] = true) (h : fnEnd r122 hp (V (F tab) r122_T ⟨[a0, a1, .dead, .dead, .dead, .dead, .dead, .dead, .dead, .dead, .dead, .dead, .dead], []⟩) = some out) : F tab 122 [a0, a1] hp = some out := F_code t122 (by rw [hh]; rfl) h
theorem t89 : tab 89 = some (.code r89) := rfl
theorem f89 {a0 a1 : PV} {hp : List Ent} {out : Out} (hh : PV.hfrees [a0, a1] = true) (h : fnEnd r89 hp (V (F tab) r89_T ⟨[a0, a1, .dead, .dead, .dead, .dead, .dead, .dead, .dead, .dead, .dead, .dead, .dead, .dead, .dead, .dead, .dead, .dead, .dead, .dead, .dead, .dead, .dead, .dead, .dead, .dead, .dead, .dead, .dead, .dead, .dead, .dead], []⟩) = some out) : F tab 89 [a0, a1] hp = some out := F_code t89 (by rw [hh]; rfl) h
theorem t90 : tab 90 = some (.code r90) := rfl
theorem f90 {a0 : PV} {hp : List Ent} {out : Out} (hh : PV.hfrees [a0] = true) (h : fnEnd r90 hp (V (F tab) r90_T ⟨[a0, .dead, .dead, .dead, .dead, .dead, .dead, .dead], []⟩) = some out) : F tab 90 [a0] hp = some out := F_code t90 (by rw [hh]; rfl) h
theorem t124 : tab 124 = some (.code r124) := rfl
theorem f124 {a0 : PV} {hp : List Ent} {out : Out} (hh : PV.hfrees [a0] = true) (h : fnEnd r124 hp (V (F tab) r124_T ⟨[a0, .dead, .dead, .dead, .dead, .dead], []⟩) = some out) : F tab 124 [a0] hp = some out := F_code t124 (by rw [hh]; rfl) h
theorem t91 : tab 91 = some (.code r91) := rfl
theorem f91 {a0 a1 : PV} {hp : List Ent} {out : Out} (hh : PV.hfrees [a0, a1] = true) (h : fnEnd r91 hp (V (F tab) r91_T ⟨[a0, a1, .dead, .dead, .dead, .dead, .dead, .dead, .dead, .dead, .dead, .dead, .dead, .dead, .dead, .dead, .dead, .dead, .dead, .dead], []⟩) = some out) : F tab 91 [a0, a1] hp = some out := F_code t91 (by rw [hh]; rfl) h
theorem t92 : tab 92 = some (.code r92) := rfl
theorem f92 {a0 a1 a2 : PV} {hp : List Ent} {out : Out} (h : fnEnd r92 hp (V (F tab) r92_T ⟨[a0, a1, a2, .dead, .dead, .dead, .dead, .dead, .dead, .dead, .dead, .dead, .dead, .dead, .dead, .dead, .dead, .dead, .dead, .dead, .dead, .dead, .dead, .dead, .dead, .dead, .dead, .dead, .dead, .dead, .dead, .dead, .dead, .dead, .dead, .dead, .dead, .dead, .dead, .dead, .dead, .dead, .dead], hp⟩) = some out) : F tab 92 [a0, a1, a2] hp = some out := F_code t92 rfl h
theorem t93 : tab 93 = some (.code r93) := rfl
theorem f93 {a0 a1 : PV} {hp : List Ent} {out : Out} (hh : PV.hfrees [a0, a1] = true) (h : fnEnd r93 hp (V (F tab) r93_T ⟨[a0, a1, .dead, .dead, .dead, .dead, .dead, .dead, .dead, .dead, .dead, .dead, .dead, .dead, .dead, .dead, .dead, .dead, .dead, .dead, .dead, .dead, .dead, .dead, .dead, .dead, .dead, .dead, .dead, .dead, .dead, .dead, .dead, .dead, .dead, .dead], []⟩) = some out) : F tab 93 [a0, a1] hp = some out := F_code t93 (by rw [hh]; rfl) h
theorem t57 : tab 57 = some (.code r57) := rfl
theorem f57 {a0 a1 a2 : PV} {hp : List Ent} {out : Out} (h : fnEnd r57 hp (V (F tab) r57_T ⟨[a0, a1, a2, .dead, .dead, .dead, .dead, .dead, .dead, .dead, .dead, .dead, .dead, .dead, .dead, .dead, .dead, .dead, .dead, .dead, .dead, .dead, .dead, .dead, .dead, .dead, .dead, .dead, .dead, .dead, .dead, .dead, .dead, .dead, .dead, .dead, .dead, .dead, .dead, .dead, .dead, .dead, .dead, .dead, .dead, .dead, .dead, .dead, .dead, .dead, .dead, .dead, .dead, .dead, .dead, .dead, .dead, .dead, .dead, .dead, .dead, .dead, .dead, .dead, .dead, .dead, .dead, .dead, .dead, .dead, .dead, .dead, .dead, .dead], hp⟩) = some out) : F tab 57 [a0, a1, a2] hp = some out := F_code t57 rfl h
theorem t17 : tab 17 = some (.code r17) := rfl
theorem f17 {a0 a1 : PV} {hp : List Ent} {out : Out} (hh : PV.hfrees [a0, a1] = true) (h : fnEnd r17 hp (V (F tab) r17_T ⟨[a0, a1, .dead, .dead, .dead, .dead, .dead, .dead, .dead, .dead, .dead, .dead, .dead, .dead, .dead, .dead, .dead, .dead, .dead, .dead], []⟩) = some out) : F tab 17 [a0, a1] hp = some out := F_code t17 (by rw [hh]; rfl) h
theorem t56 : tab 56 = some (.code r56) := rfl
theorem f56 {a0 : PV} {hp : List Ent} {out : Out} (hh : PV.hfrees [a0] = true) (h : fnEnd r56 hp (V (F tab) r56_T ⟨[a0, .dead, .dead, .dead, .dead, .dead], []⟩) = some out) : F tab 56 [a0] hp = some out := F_code t56 (by rw [hh]; rfl) h
theorem t16 : tab 16 = some (.code r16) := rfl
theorem f16 {hp : List Ent} {out : Out} (hh : PV.hfrees [] = true) (h : fnEnd r16 hp (V (F tab) r16_T ⟨[.dead, .dead, .dead, .dead, .dead, .dead, .dead, .dead, .dead, .dead, .dead, .dead, .dead, .dead, .dead, .dead, .dead, .dead, .dead, .dead], []⟩) = some out) : F tab 16 [] hp = some out := F_code t16 (by rw [hh]; rfl) h
theorem t94 : tab 94 = some (.code r94) := rfl
theorem f94 {a0 a1 : PV} {hp : List Ent} {out : Out} (hh : PV.hfrees [a0, a1] = true) (h : fnEnd r94 hp (V (F tab) r94_T ⟨[a0, a1, .dead, .dead, .dead, .dead, .dead, .dead, .dead, .dead, .dead], []⟩) = some out) : F tab 94 [a0, a1] hp = some out := F_code t94 (by rw [hh]; rfl) h
theorem t95 : tab 95 = some (.code r95) := rfl
theorem f95 {a0 : PV} {hp : List Ent} {out : Out} (hh : PV.hfrees [a0] = true) (h : fnEnd r95 hp (V (F tab) r95_T ⟨[a0, .dead, .dead, .dead, .dead, .dead, .dead, .dead, .dead, .dead], []⟩) = some out) : F tab 95 [a0] hp = some out := F_code t95 (by rw [hh]; rfl) h
theorem t144 : tab 144 = some (.code r144) := rfl
theorem f144 {a0 : PV} {hp : List Ent} {out : Out} (hh : PV.hfrees [a0] = true) (h : fnEnd r144 hp (V (F tab) r144_T ⟨[a0, .dead, .dead, .dead, .dead, .dead, .dead, .dead, .dead, .dead, .dead, .dead, .dead, .dead, .dead, .dead, .dead, .dead, .dead, .dead, .dead, .dead, .dead, .dead, .dead, .dead, .dead, .dead, .dead], []⟩) = some out) : F tab 144 [a0] hp = some out := F_code t144 (by rw [hh]; rfl) h
theorem t142 : tab 142 = some (.code r142) := rfl
theorem f142 {a0 a1 : PV} {hp : List Ent} {out : Out} (hh : PV.hfrees [a0, a1] = true) (h : fnEnd r142 hp (V (F tab) r142_T ⟨[a0, a1, .dead, .dead, .dead, .dead, .dead, .dead, .dead, .dead, .dead, .dead, .dead, .dead, .dead, .dead, .dead, .dead, .dead, .dead, .dead, .dead, .dead, .dead], []⟩) = some out) : F tab 142 [a0, a1] hp = some out := F_code t142 (by rw [hh]; rfl) h
theorem t143 : tab 143 = some (.code r143) := rfl
theorem f143 {a0 : PV} {hp : List Ent} {out : Out} (hh : PV.hfrees [a0] = true) (h : fnEnd r143 hp (V (F tab) r143_T ⟨[a0, .dead, .dead, .dead, .dead, .dead, .dead, .dead, .dead, .dead, .dead, .dead, .dead, .dead, .dead, .dead, .dead, .dead, .dead, .dead, .dead, .dead, .dead, .dead, .dead], []⟩) = some out) : F tab 143 [a0] hp = some out := F_code t143 (by rw [hh]; rfl) h
theorem t125 : tab 125 = some (.code r125) := rfl
theorem f125 {a0 a1 : PV} {hp : List Ent} {out : Out} (hh : PV.hfrees [a0, a1] = true) (h : fnEnd r125 hp (V (F tab) r125_T ⟨[a0, a1, .dead, .dead, .dead, .dead, .dead, .dead, .dead, .dead, .dead, .dead, .dead, .dead, .dead, .dead, .dead, .dead, .dead, .dead, .dead, .dead, .dead, .dead, .dead, .dead, .dead, .dead, .dead, .dead, .dead, .dead, .dead], []⟩) = some out) : F tab 125 [a0, a1] hp = some out := F_code t125 (by rw [hh]; rfl) h
theorem t145 : tab 145 = some (.code r145) := rfl
theorem f145 {a0 a1 : PV} {hp : List Ent} {out : Out} (hh : PV.hfrees [a0, a1] = true) (h : fnEnd r145 hp (V (F tab) r145_T ⟨[a0, a1, .dead, .dead, .dead, .dead, .dead, .dead, .dead, .dead, .dead, .dead, .dead, .dead, .dead, .dead, .dead, .dead, .dead, .dead, .dead, .dead, .dead, .dead, .dead, .dead, .dead, .dead, .dead, .dead, .dead, .dead, .dead, .dead, .dead, .dead, .dead, .dead, .dead, .dead, .dead, .dead, .dead, .dead, .dead, .dead, .dead, .dead, .dead, .dead, .dead, .dead, .dead, .dead], []⟩) = some out) : F tab 145 [a0, a1] hp = some out := F_code t145 (by rw [hh]; rfl) h
theorem t146 : tab 146 = some (.code r146) := rfl
theorem f146 {a0 a1 : PV} {hp : List Ent} {out : Out} (hh : PV.hfrees [a0, a1] = true) (h : fnEnd r146 hp (V (F tab) r146_T ⟨[a0, a1, .dead, .dead, .dead, .dead, .dead, .dead, .dead, .dead, .dead, .dead, .dead, .dead, .dead, .dead, .dead, .dead, .dead, .dead, .dead, .dead, .dead, .dead, .dead, .dead, .dead, .dead, .dead, .dead, .dead, .dead, .dead, .dead, .dead, .dead, .dead, .dead, .dead, .dead, .dead], []⟩) = some out) : F tab 146 [a0, a1] hp = some out := F_code t146 (by rw [hh]; rfl) h
theorem t147 : tab 147 = some (.code r147) := rfl
theorem f147 {a0 a1 : PV} {hp : List Ent} {out : Out} (hh : PV.hfrees [a0, a1] = true) (h : fnEnd r147 hp (V (F tab) r147_T ⟨[a0, a1, .dead, .dead, .dead, .dead, .dead, .dead, .dead, .dead, .dead, .dead, .dead, .dead, .dead, .dead, .dead, .dead, .dead, .dead, .dead, .dead, .dead, .dead, .dead, .dead, .dead, .dead, .dead, .dead, .dead, .dead, .dead, .dead, .dead, .dead, .dead, .dead, .dead, .dead], []⟩) = some out) : F tab 147 [a0, a1] hp = some out := F_code t147 (by rw [hh]; rfl) h
theorem t126 : tab 126 = some (.code r126) := rfl
theorem f126 {a0 a1 : PV} {hp : List Ent} {out : Out} (hh : PV.hfrees [a0, a1] = true) (h : fnEnd r126 hp (V (F tab) r126_T ⟨[a0, a1, .dead, .dead, .dead, .dead, .dead, .dead, .dead, .dead, .dead, .dead, .dead, .dead, .dead, .dead, .dead, .dead, .dead, .dead, .dead, .dead, .dead, .dead, .dead, .dead, .dead, .dead, .dead, .dead, .dead, .dead, .dead, .dead, .dead, .dead, .dead, .dead, .dead, .dead, .dead, .dead], []⟩) = some out) : F tab 126 [a0, a1] hp = some out := F_code t126 (by rw [hh]; rfl) h
theorem t96 : tab 96 = some (.code r96) := rfl
theorem f96 {a0 a1 : PV} {hp : List Ent} {out : Out} (hh : PV.hfrees [a0, a1] = true) (h : fnEnd r96 hp (V (F tab) r96_T ⟨[a0, a1, .dead, .dead, .dead, .dead, .dead, .dead, .dead, .dead, .dead, .dead, .dead, .dead, .dead, .dead, .dead, .dead, .dead, .dead, .dead, .dead, .dead, .dead, .dead, .dead, .dead, .dead, .dead, .dead], []⟩) = some out) : F tab 96 [a0, a1] hp = some out := F_code t96 (by rw [hh]; rfl) h
theorem t105 : tab 105 = some (.code r105) := rfl
theorem f105 {a0 : PV} {hp : List Ent} {out : Out} (hh : PV.hfrees [a0] = true) (h : fnEnd r105 hp (V (F tab) r105_T ⟨[a0, .dead, .dead, .dead, .dead, .dead, .dead, .dead, .dead, .dead, .dead, .dead, .dead, .dead, .dead, .dead, .dead, .dead, .dead, .dead, .dead, .dead, .dead, .dead, .dead, .dead, .dead, .dead, .dead, .dead], []⟩) = some out) : F tab 105 [a0] hp = some out := F_code t105 (by rw [hh]; rfl) h
theorem t97 : tab 97 = some (.code r97) := rfl
theorem f97 {a0 : PV} {hp : List Ent} {out : Out} (hh : PV.hfrees [a0] = true) (h : fnEnd r97 hp (V (F tab) r97_T ⟨[a0, .dead, .dead, .dead, .dead, .dead, .dead], []⟩) = some out) : F tab 97 [a0] hp = some out := F_code t97 (by rw [hh]; rfl) h
theorem t98 : tab 98 = some (.code r98) := rfl
theorem f98 {a0 a1 : PV} {hp : List Ent} {out : Out} (hh : PV.hfrees [a0, a1] = true) (h : fnEnd r98 hp (V (F tab) r98_T ⟨[a0, a1, .dead, .dead, .dead, .dead, .dead, .dead, .dead, .dead, .dead, .dead, .dead, .dead, .dead, .dead, .dead, .dead, .dead, .dead, .dead, .dead, .dead, .dead, .dead, .dead, .dead, .dead, .dead, .dead, .dead, .dead, .dead, .dead, .dead, .dead, .dead, .dead, .dead], []⟩) = some out) : F tab 98 [a0, a1] hp = some out := F_code t98 (by rw [hh]; rfl) h
theorem t99 : tab 99 = some (.code r99) := rfl
theorem f99 {a0 a1 : PV} {hp : List Ent} {out : Out} (hh : PV.hfrees [a0, a1] = true) (h : fnEnd r99 hp (V (F tab) r99_T ⟨[a0, a1, .dead, .dead, .dead, .dead, .dead, .dead, .dead, .dead, .dead, .dead, .dead, .dead, .dead, .dead, .dead, .dead, .dead, .dead, .dead, .dead, .dead, .dead, .dead, .dead, .dead, .dead, .dead, .dead, .dead, .dead, .dead, .dead, .dead, .dead], []⟩) = some out) : F tab 99 [a0, a1] hp = some out := F_code t99 (by rw [hh]; rfl) h
theorem t58 : tab 58 = some (.code r58) := rfl
theorem f58 {a0 a1 a2 : PV} {hp : List Ent} {out : Out} (hh : PV.hfrees [a0, a1, a2] = true) (h : fnEnd r58 hp (V (F tab) r58_T ⟨[a0, a1, a2, .dead, .dead, .dead, .dead, .dead, .dead, .dead, .dead, .dead, .dead, .dead, .dead, .dead, .dead, .dead, .dead, .dead, .dead, .dead, .dead, .dead, .dead, .dead, .dead, .dead, .dead, .dead, .dead, .dead, .dead, .dead, .dead, .dead, .dead, .dead, .dead, .dead, .dead, .dead, .dead, .dead, .dead, .dead, .dead, .dead, .dead, .dead, .dead, .dead, .dead, .dead, .dead, .dead, .dead, .dead, .dead, .dead, .dead, .dead, .dead, .dead, .dead, .dead, .dead, .dead, .dead, .dead, .dead, .dead, .dead, .dead, .dead, .dead, .dead, .dead, .dead, .dead, .dead, .dead, .dead, .dead, .dead, .dead, .dead, .dead, .dead, .dead, .dead, .dead, .dead, .dead, .dead, .dead, .dead, .dead, .dead, .dead, .dead, .dead, .dead, .dead, .dead], []⟩) = some out) : F tab 58 [a0, a1, a2] hp = some out := F_code t58 (by rw [hh]; rfl) h
theorem t18 : tab 18 = some (.code r18) := rfl
theorem f18 {a0 a1 : PV} {hp : List Ent} {out : Out} (hh : PV.hfrees [a0, a1] = true) (h : fnEnd r18 hp (V (F tab) r18_T ⟨[a0, a1, .dead, .dead, .dead, .dead, .dead, .dead, .dead, .dead, .dead, .dead, .dead, .dead, .dead, .dead, .dead], []⟩) = some out) : F tab 18 [a0, a1] hp = some out := F_code t18 (by rw [hh]; rfl) h
theorem t3 : tab 3 = some (.code r3) := rfl
theorem f3 {a0 a1 : PV} {hp : List Ent} {out : Out} (hh : PV.hfrees [a0, a1] = true) (h : fnEnd r3 hp (V (F tab) r3_T ⟨[a0, a1, .dead, .dead, .dead, .dead, .dead, .dead, .dead, .dead, .dead, .dead, .dead, .dead, .dead, .dead, .dead, .dead, .dead, .dead, .dead, .dead, .dead, .dead, .dead, .dead, .dead, .dead, .dead, .dead, .dead, .dead, .dead, .dead, .dead, .dead, .dead, .dead, .dead, .dead, .dead, .dead, .dead, .dead, .dead, .dead, .dead, .dead, .dead], []⟩) = some out) : F tab 3 [a0, a1] hp = some out := F_code t3 (by rw [hh]; rfl) h
end Go.Pe.T

namespace Go.Pe.T
/-! ### how great a value is: ref05 Size, Flat, Light; law07 light -/

mutual
def sizeV : Val → Int → Int → Int
  | .mk _ _ _ _ xs _, n, most => if n ≥ most then n else sizes xs (n + 1) most
def sizes : List Val → Int → Int → Int
  | [], n, _ => n
  | v :: r, n, most => sizes r (sizeV v n most) most
end

theorem size_loop (most : Int) (hm : most ≤ 9223372036854775807) (k c s : Int) (t : ByteArray) (items : List Val) (hl : items.length ≤ maxLen) (keys : List D)
    (ih : ∀ v ∈ items, ∀ n, 0 ≤ n → 0 ≤ sizeV v n most ∧ ∀ hp, F tab 85 [.d v.enc, .d (iv n), .d (iv most)] hp = some (.ret (.d (iv (sizeV v n most))) hp)) : ∀ (j i : Nat) (n : Int), i + j = items.length → 0 ≤ n →
  V (F tab) r85_B0 (r85_S0 (.d (iv n)) (.d (iv most)) (.ibox [.d (iv k), .d (iv c), .d (iv s), .d (.str t), .d (.sl (Val.encs items)), .d (.sl keys)]) (.d (iv i)) []) =
    some (.norm, r85_E0 (.d (iv (sizes (items.drop i) n most))) []) ∧ 0 ≤ sizes (items.drop i) n most
  | 0, i, n, hi, h0 => by
    rw [r85_B0_eq, List.drop_of_length_le (by omega)]
    have h1 : ((i : Int) < (items.length : Int)) = False := by simp; omega
    refine ⟨?_, h0⟩
    simp only [go_sem, r85_C0, encs_len, h1, sizes]
  | j + 1, i, n, hi, h0 => by
    have hlt : i < items.length := by omega
    have hmx : maxLen ≤ 9223372036854775807 := by decide
    have h1 : ((i : Int) < (items.length : Int)) = True := by simp [hlt]
    have h2 : (0 ≤ (i : Int)) = True := by simp
    have h3 : (Val.encs items)[i]? = some (items[i].enc) := by rw [encs_get]; simp [hlt]
    obtain ⟨e2, e3⟩ := ih items[i] (List.getElem_mem hlt) n h0
    have ihj := size_loop most hm k c s t items hl keys ih j (i + 1) _ (by omega) e2
    rw [List.drop_eq_getElem_cons hlt]
    simp only [sizes]
    refine ⟨?_, ihj.2⟩
    rw [r85_B0_eq]
    simp (disch := omega) only [go_sem, r85_C0, encs_len, h1, h2, h3, Int.toNat_natCast, enc_w, enc_a, e3, w64]
    exact ihj.1

theorem size_ok {most : Int} (hm : most ≤ 9223372036854775807) : ∀ (v : Val) (n : Int), v.ok → 0 ≤ n → 0 ≤ sizeV v n most ∧ ∀ hp, F tab 85 [.d v.enc, .d (iv n), .d (iv most)] hp = some (.ret (.d (iv (sizeV v n most))) hp)
  | .mk k c s t xs ks, n, hv, h0 => by
    simp only [Val.ok] at hv
    have ih : ∀ v ∈ xs, ∀ n, 0 ≤ n → 0 ≤ sizeV v n most ∧ ∀ hp, F tab 85 [.d v.enc, .d (iv n), .d (iv most)] hp = some (.ret (.d (iv (sizeV v n most))) hp) := by
      intro v hv' n h0
      exact size_ok hm v n (oks_mem hv.2.2.2.2.2.2.2 hv') h0
    by_cases h : n ≥ most
    · refine ⟨by simp only [sizeV, h, if_true]; exact h0, fun hp => f85 rfl ?_⟩
      simp only [go_sem, r85_T, r85, Val.enc, h, sizeV]
    · have hL := size_loop most hm k c s t xs hv.2.2.2.2.1 (ks.map .str) ih xs.length 0 (n + 1) (by omega) (by omega)
      refine ⟨by simp only [sizeV, h, if_false]; exact hL.2, fun hp => f85 rfl ?_⟩
      simp (disch := omega) only [go_sem, r85_T, r85, Val.enc, h, sizeV, w64]
      rw [r85_B0_n]
      erw [hL.1]
      simp only [go_sem, List.drop_zero]

mutual
def flatV : Val → Int → Bool
  | .mk _ _ _ _ xs _, d => if d < 0 then false else flats xs (d - 1)
def flats : List Val → Int → Bool
  | [], _ => true
  | v :: r, d => if flatV v d then flats r d else false
end

theorem flat_loop (d : Int) (hd : 0 ≤ d ∧ d ≤ 9223372036854775807) (k c s : Int) (t : ByteArray) (items : List Val) (hl : items.length ≤ maxLen) (keys : List D)
    (ih : ∀ v ∈ items, ∀ hp, F tab 86 [.d v.enc, .d (iv (d - 1))] hp = some (.ret (.d (.bool (flatV v (d - 1)))) hp)) : ∀ (j i : Nat), i + j = items.length →
  V (F tab) r86_B0 (r86_S0 (.d (iv d)) (.ibox [.d (iv k), .d (iv c), .d (iv s), .d (.str t), .d (.sl (Val.encs items)), .d (.sl keys)]) (.d (iv i)) []) =
     if flats (items.drop i) (d - 1) then some (.norm, r86_E0 []) else some (.ret, r86_R (.d (.bool false)) [])
  | 0, i, hi => by
    rw [r86_B0_eq, List.drop_of_length_le (by omega)]
    have h1 : ((i : Int) < (items.length : Int)) = False := by simp; omega
    simp only [go_sem, r86_C0, encs_len, h1, flats]
  | j + 1, i, hi => by
    have hlt : i < items.length := by omega
    have hmx : maxLen ≤ 9223372036854775807 := by decide
    have h1 : ((i : Int) < (items.length : Int)) = True := by simp [hlt]
    have h2 : (0 ≤ (i : Int)) = True := by simp
    have h3 : (Val.encs items)[i]? = some (items[i].enc) := by rw [encs_get]; simp [hlt]
    have e3 := ih items[i] (List.getElem_mem hlt)
    have ihj := flat_loop d hd k c s t items hl keys ih j (i + 1) (by omega)
    rw [List.drop_eq_getElem_cons hlt]
    simp only [flats]
    rw [r86_B0_eq]
    rcases Bool.eq_false_or_eq_true (flatV items[i] (d - 1)) with hf | hf
    · simp (disch := omega) only [go_sem, and_self, and_true, true_and, false_and, and_false, Nat.reduceAdd, Nat.reduceMul, Nat.reduceSub, Nat.reduceLeDiff, Nat.reduceLT, Nat.reduceGT, Nat.reduceEqDiff, Nat.reduceBEq, Int.reduceNeg, Int.reduceEq, Int.reduceLT, Int.reduceLE, Int.reduceBEq, Int.reduceToNat, Int.toNat_natCast, Int.natCast_zero, r86_C0, encs_len, h1, h2, h3, enc_w, enc_a, e3, hf, w64]
      exact ihj
    · simp (disch := omega) only [go_sem, and_self, and_true, true_and, false_and, and_false, Nat.reduceAdd, Nat.reduceMul, Nat.reduceSub, Nat.reduceLeDiff, Nat.reduceLT, Nat.reduceGT, Nat.reduceEqDiff, Nat.reduceBEq, Int.reduceNeg, Int.reduceEq, Int.reduceLT, Int.reduceLE, Int.reduceBEq, Int.reduceToNat, Int.toNat_natCast, Int.natCast_zero, r86_C0, encs_len, h1, h2, h3, enc_w, enc_a, e3, hf, w64]

theorem flat_ok : ∀ (v : Val) (d : Int), v.ok → i64 d → ∀ hp, F tab 86 [.d v.enc, .d (iv d)] hp = some (.ret (.d (.bool (flatV v d))) hp)
  | .mk k c s t xs ks, d, hv, h0, hp => by
    simp only [Val.ok] at hv
    refine f86 rfl ?_
    by_cases h : d < 0
    · simp only [go_sem, r86_T, r86, Val.enc, h, flatV]
    · have h1 : i64 (d - 1) := by unfold i64 at *; omega
      have hL := flat_loop d (by unfold i64 at *; omega) k c s t xs hv.2.2.2.2.1 (ks.map .str) (fun v hv' hp => flat_ok v (d - 1) (oks_mem hv.2.2.2.2.2.2.2 hv') h1 hp) xs.length 0 (by omega)
      simp (disch := omega) only [go_sem, r86_T, r86, Val.enc, h, flatV, w64]
      rw [r86_B0_n]
      erw [hL]
      rw [List.drop_zero]
      cases flats xs (d - 1) <;> simp only [go_sem]

def lightV (v : Val) (most : Int) : Bool := decide (sizeV v 0 (most + 1) ≤ most) && flatV v 60

theorem light_ok {v : Val} {most : Int} (hv : v.ok) (hm : 0 ≤ most ∧ most < 9223372036854775807) (hp : List Ent) : F tab 55 [.d v.enc, .d (iv most)] hp = some (.ret (.d (.bool (lightV v most))) hp) := by
  refine f55 rfl ?_
  have h1 := (size_ok (most := most + 1) (by omega) v 0 hv (by omega)).2
  have h2 := flat_ok v 60 hv (by unfold i64; omega)
  cases v with
  | mk k c s t xs ks =>
    by_cases h : sizeV (Val.mk k c s t xs ks) 0 (most + 1) ≤ most
    · simp only [Val.enc] at h1 h2
      simp (disch := omega) only [go_sem, and_self, and_true, true_and, false_and, and_false, Nat.reduceAdd, Nat.reduceMul, Nat.reduceSub, Nat.reduceLeDiff, Nat.reduceLT, Nat.reduceGT, Nat.reduceEqDiff, Nat.reduceBEq, Int.reduceNeg, Int.reduceEq, Int.reduceLT, Int.reduceLE, Int.reduceBEq, Int.reduceToNat, Int.toNat_natCast, Int.natCast_zero, r55_T, r55, Val.enc, lightV, w64, h1, h2, h]
    · simp only [Val.enc] at h1 h2
      simp (disch := omega) only [go_sem, and_self, and_true, true_and, false_and, and_false, Nat.reduceAdd, Nat.reduceMul, Nat.reduceSub, Nat.reduceLeDiff, Nat.reduceLT, Nat.reduceGT, Nat.reduceEqDiff, Nat.reduceBEq, Int.reduceNeg, Int.reduceEq, Int.reduceLT, Int.reduceLE, Int.reduceBEq, Int.reduceToNat, Int.toNat_natCast, Int.natCast_zero, r55_T, r55, Val.enc, lightV, w64, h1, h2, h]
end Go.Pe.T

namespace Go.Pe.T
/-! ### signs and ranks -/

/-- -1, 0, 1 -/
def sgn (a b : Int) : Int := if a < b then -1 else if a > b then 1 else 0

theorem isNaNi_ok (a : Int) (hp : List Ent) : F tab 119 [.d (iv a)] hp = some (.ret (.d (.bool false)) hp) := by
  refine f119 rfl ?_
  have h : (a != a) = false := by simp
  simp only [go_sem, and_self, and_true, true_and, false_and, and_false, Nat.reduceAdd, Nat.reduceMul, Nat.reduceSub, Nat.reduceLeDiff, Nat.reduceLT, Nat.reduceGT, Nat.reduceEqDiff, Nat.reduceBEq, Int.reduceNeg, Int.reduceEq, Int.reduceLT, Int.reduceLE, Int.reduceBEq, Int.reduceToNat, Int.toNat_natCast, Int.natCast_zero, r119_T, r119, h]

theorem cmpi_ok (a b : Int) (hp : List Ent) : F tab 87 [.d (iv a), .d (iv b)] hp = some (.ret (.d (iv (sgn a b))) hp) := by
  refine f87 rfl ?_
  have h1 := isNaNi_ok a
  have h2 := isNaNi_ok b
  by_cases ha : a < b
  · simp only [go_sem, and_self, and_true, true_and, false_and, and_false, Nat.reduceAdd, Nat.reduceMul, Nat.reduceSub, Nat.reduceLeDiff, Nat.reduceLT, Nat.reduceGT, Nat.reduceEqDiff, Nat.reduceBEq, Int.reduceNeg, Int.reduceEq, Int.reduceLT, Int.reduceLE, Int.reduceBEq, Int.reduceToNat, Int.toNat_natCast, Int.natCast_zero, r87_T, r87, h1, h2, ha, sgn]
  · by_cases hb : a > b
    · simp only [go_sem, and_self, and_true, true_and, false_and, and_false, Nat.reduceAdd, Nat.reduceMul, Nat.reduceSub, Nat.reduceLeDiff, Nat.reduceLT, Nat.reduceGT, Nat.reduceEqDiff, Nat.reduceBEq, Int.reduceNeg, Int.reduceEq, Int.reduceLT, Int.reduceLE, Int.reduceBEq, Int.reduceToNat, Int.toNat_natCast, Int.natCast_zero, r87_T, r87, h1, h2, ha, hb, sgn]
    · simp only [go_sem, and_self, and_true, true_and, false_and, and_false, Nat.reduceAdd, Nat.reduceMul, Nat.reduceSub, Nat.reduceLeDiff, Nat.reduceLT, Nat.reduceGT, Nat.reduceEqDiff, Nat.reduceBEq, Int.reduceNeg, Int.reduceEq, Int.reduceLT, Int.reduceLE, Int.reduceBEq, Int.reduceToNat, Int.toNat_natCast, Int.natCast_zero, r87_T, r87, h1, h2, ha, hb, sgn]

def rankOf (k : Int) : Int := if k < 0 then 8 else if k > 7 then 8 else k

theorem rank_ok (k : Int) (hp : List Ent) : F tab 88 [.d (iv k)] hp = some (.ret (.d (iv (rankOf k))) hp) := by
  refine f88 rfl ?_
  by_cases h1 : k < 0
  · simp only [go_sem, and_self, and_true, true_and, false_and, and_false, Nat.reduceAdd, Nat.reduceMul, Nat.reduceSub, Nat.reduceLeDiff, Nat.reduceLT, Nat.reduceGT, Nat.reduceEqDiff, Nat.reduceBEq, Int.reduceNeg, Int.reduceEq, Int.reduceLT, Int.reduceLE, Int.reduceBEq, Int.reduceToNat, Int.toNat_natCast, Int.natCast_zero, r88_T, r88, h1, rankOf]
  · by_cases h2 : k > 7
    · simp only [go_sem, and_self, and_true, true_and, false_and, and_false, Nat.reduceAdd, Nat.reduceMul, Nat.reduceSub, Nat.reduceLeDiff, Nat.reduceLT, Nat.reduceGT, Nat.reduceEqDiff, Nat.reduceBEq, Int.reduceNeg, Int.reduceEq, Int.reduceLT, Int.reduceLE, Int.reduceBEq, Int.reduceToNat, Int.toNat_natCast, Int.natCast_zero, r88_T, r88, h1, h2, rankOf]
    · simp only [go_sem, and_self, and_true, true_and, false_and, and_false, Nat.reduceAdd, Nat.reduceMul, Nat.reduceSub, Nat.reduceLeDiff, Nat.reduceLT, Nat.reduceGT, Nat.reduceEqDiff, Nat.reduceBEq, Int.reduceNeg, Int.reduceEq, Int.reduceLT, Int.reduceLE, Int.reduceBEq, Int.reduceToNat, Int.toNat_natCast, Int.natCast_zero, r88_T, r88, h1, h2, rankOf]

theorem rank7_ok (k : Int) (hp : List Ent) : F tab 95 [.d (iv k)] hp = some (.ret (.d (iv (rankOf k))) hp) := by
  refine f95 rfl ?_
  by_cases h1 : k < 0
  · simp only [go_sem, and_self, and_true, true_and, false_and, and_false, Nat.reduceAdd, Nat.reduceMul, Nat.reduceSub, Nat.reduceLeDiff, Nat.reduceLT, Nat.reduceGT, Nat.reduceEqDiff, Nat.reduceBEq, Int.reduceNeg, Int.reduceEq, Int.reduceLT, Int.reduceLE, Int.reduceBEq, Int.reduceToNat, Int.toNat_natCast, Int.natCast_zero, r95_T, r95, h1, rankOf]
  · by_cases h2 : k > 7
    · simp only [go_sem, and_self, and_true, true_and, false_and, and_false, Nat.reduceAdd, Nat.reduceMul, Nat.reduceSub, Nat.reduceLeDiff, Nat.reduceLT, Nat.reduceGT, Nat.reduceEqDiff, Nat.reduceBEq, Int.reduceNeg, Int.reduceEq, Int.reduceLT, Int.reduceLE, Int.reduceBEq, Int.reduceToNat, Int.toNat_natCast, Int.natCast_zero, r95_T, r95, h1, h2, rankOf]
    · simp only [go_sem, and_self, and_true, true_and, false_and, and_false, Nat.reduceAdd, Nat.reduceMul, Nat.reduceSub, Nat.reduceLeDiff, Nat.reduceLT, Nat.reduceGT, Nat.reduceEqDiff, Nat.reduceBEq, Int.reduceNeg, Int.reduceEq, Int.reduceLT, Int.reduceLE, Int.reduceBEq, Int.reduceToNat, Int.toNat_natCast, Int.natCast_zero, r95_T, r95, h1, h2, rankOf]

theorem sign7_ok (a b : Int) (hp : List Ent) : F tab 94 [.d (iv a), .d (iv b)] hp = some (.ret (.d (iv (sgn a b))) hp) := by
  refine f94 rfl ?_
  by_cases ha : a < b
  · simp only [go_sem, and_self, and_true, true_and, false_and, and_false, Nat.reduceAdd, Nat.reduceMul, Nat.reduceSub, Nat.reduceLeDiff, Nat.reduceLT, Nat.reduceGT, Nat.reduceEqDiff, Nat.reduceBEq, Int.reduceNeg, Int.reduceEq, Int.reduceLT, Int.reduceLE, Int.reduceBEq, Int.reduceToNat, Int.toNat_natCast, Int.natCast_zero, r94_T, r94, ha, sgn]
  · by_cases hb : a > b
    · simp only [go_sem, and_self, and_true, true_and, false_and, and_false, Nat.reduceAdd, Nat.reduceMul, Nat.reduceSub, Nat.reduceLeDiff, Nat.reduceLT, Nat.reduceGT, Nat.reduceEqDiff, Nat.reduceBEq, Int.reduceNeg, Int.reduceEq, Int.reduceLT, Int.reduceLE, Int.reduceBEq, Int.reduceToNat, Int.toNat_natCast, Int.natCast_zero, r94_T, r94, ha, hb, sgn]
    · simp only [go_sem, and_self, and_true, true_and, false_and, and_false, Nat.reduceAdd, Nat.reduceMul, Nat.reduceSub, Nat.reduceLeDiff, Nat.reduceLT, Nat.reduceGT, Nat.reduceEqDiff, Nat.reduceBEq, Int.reduceNeg, Int.reduceEq, Int.reduceLT, Int.reduceLE, Int.reduceBEq, Int.reduceToNat, Int.toNat_natCast, Int.natCast_zero, r94_T, r94, ha, hb, sgn]

theorem numorder_ok (a b : Int) (hp : List Ent) : F tab 122 [.d (iv a), .d (iv b)] hp = some (.ret (.d (iv (sgn a b))) hp) := by
  refine f122 rfl ?_
  by_cases ha : a < b
  · simp only [go_sem, and_self, and_true, true_and, false_and, and_false, Nat.reduceAdd, Nat.reduceMul, Nat.reduceSub, Nat.reduceLeDiff, Nat.reduceLT, Nat.reduceGT, Nat.reduceEqDiff, Nat.reduceBEq, Int.reduceNeg, Int.reduceEq, Int.reduceLT, Int.reduceLE, Int.reduceBEq, Int.reduceToNat, Int.toNat_natCast, Int.natCast_zero, r122_T, r122, ha, sgn]
  · by_cases hb : a > b
    · simp only [go_sem, and_self, and_true, true_and, false_and, and_false, Nat.reduceAdd, Nat.reduceMul, Nat.reduceSub, Nat.reduceLeDiff, Nat.reduceLT, Nat.reduceGT, Nat.reduceEqDiff, Nat.reduceBEq, Int.reduceNeg, Int.reduceEq, Int.reduceLT, Int.reduceLE, Int.reduceBEq, Int.reduceToNat, Int.toNat_natCast, Int.natCast_zero, r122_T, r122, ha, hb, sgn]
    · simp only [go_sem, and_self, and_true, true_and, false_and, and_false, Nat.reduceAdd, Nat.reduceMul, Nat.reduceSub, Nat.reduceLeDiff, Nat.reduceLT, Nat.reduceGT, Nat.reduceEqDiff, Nat.reduceBEq, Int.reduceNeg, Int.reduceEq, Int.reduceLT, Int.reduceLE, Int.reduceBEq, Int.reduceToNat, Int.toNat_natCast, Int.natCast_zero, r122_T, r122, ha, hb, sgn]

/-! ### numbers: which may be, and which is greater -/

abbrev numD (c s : Int) : D := .agg [iv c, iv s]

def numIs (c s : Int) : Bool := decide (0 ≤ s) && decide (s ≤ 9) && decide (-1000000000000000 < c) && decide (c < 1000000000000000) && (s == 0 || c.tmod 10 != 0)

theorem numIs_ok (c s : Int) (hp : List Ent) : F tab 123 [.d (numD c s)] hp = some (.ret (.d (.bool (numIs c s))) hp) := by
  refine f123 rfl ?_
  by_cases h1 : s < 0
  · have g1 : ¬ (0 ≤ s) := by omega
    simp only [go_sem, and_self, and_true, true_and, false_and, and_false, Nat.reduceAdd, Nat.reduceMul, Nat.reduceSub, Nat.reduceLeDiff, Nat.reduceLT, Nat.reduceGT, Nat.reduceEqDiff, Nat.reduceBEq, Int.reduceNeg, Int.reduceEq, Int.reduceLT, Int.reduceLE, Int.reduceBEq, Int.reduceToNat, Int.toNat_natCast, Int.natCast_zero, r123_T, r123, numIs, h1, g1]
  · have g1 : 0 ≤ s := by omega
    by_cases h2 : s > 9
    · have g2 : ¬ (s ≤ 9) := by omega
      simp only [go_sem, and_self, and_true, true_and, false_and, and_false, Nat.reduceAdd, Nat.reduceMul, Nat.reduceSub, Nat.reduceLeDiff, Nat.reduceLT, Nat.reduceGT, Nat.reduceEqDiff, Nat.reduceBEq, Int.reduceNeg, Int.reduceEq, Int.reduceLT, Int.reduceLE, Int.reduceBEq, Int.reduceToNat, Int.toNat_natCast, Int.natCast_zero, r123_T, r123, numIs, h1, g1, h2, g2]
    · have g2 : s ≤ 9 := by omega
      by_cases h3 : c ≤ -1000000000000000
      · have g3 : ¬ (-1000000000000000 < c) := by omega
        simp only [go_sem, and_self, and_true, true_and, false_and, and_false, Nat.reduceAdd, Nat.reduceMul, Nat.reduceSub, Nat.reduceLeDiff, Nat.reduceLT, Nat.reduceGT, Nat.reduceEqDiff, Nat.reduceBEq, Int.reduceNeg, Int.reduceEq, Int.reduceLT, Int.reduceLE, Int.reduceBEq, Int.reduceToNat, Int.toNat_natCast, Int.natCast_zero, r123_T, r123, numIs, h1, g1, h2, g2, h3, g3]
      · have g3 : -1000000000000000 < c := by omega
        by_cases h4 : c ≥ 1000000000000000
        · have g4 : ¬ (c < 1000000000000000) := by omega
          simp only [go_sem, and_self, and_true, true_and, false_and, and_false, Nat.reduceAdd, Nat.reduceMul, Nat.reduceSub, Nat.reduceLeDiff, Nat.reduceLT, Nat.reduceGT, Nat.reduceEqDiff, Nat.reduceBEq, Int.reduceNeg, Int.reduceEq, Int.reduceLT, Int.reduceLE, Int.reduceBEq, Int.reduceToNat, Int.toNat_natCast, Int.natCast_zero, r123_T, r123, numIs, h1, g1, h2, g2, h3, g3, h4, g4]
        · have g4 : c < 1000000000000000 := by omega
          by_cases h5 : s = 0
          · subst h5
            simp only [go_sem, and_self, and_true, true_and, false_and, and_false, Nat.reduceAdd, Nat.reduceMul, Nat.reduceSub, Nat.reduceLeDiff, Nat.reduceLT, Nat.reduceGT, Nat.reduceEqDiff, Nat.reduceBEq, Int.reduceNeg, Int.reduceEq, Int.reduceLT, Int.reduceLE, Int.reduceBEq, Int.reduceToNat, Int.toNat_natCast, Int.natCast_zero, r123_T, r123, numIs, h1, g1, h2, g2, h3, g3, h4, g4, Bool.true_or]
          · have g5 : (s == 0) = false := by simpa using h5
            simp only [go_sem, and_self, and_true, true_and, false_and, and_false, Nat.reduceAdd, Nat.reduceMul, Nat.reduceSub, Nat.reduceLeDiff, Nat.reduceLT, Nat.reduceGT, Nat.reduceEqDiff, Nat.reduceBEq, Int.reduceNeg, Int.reduceEq, Int.reduceLT, Int.reduceLE, Int.reduceBEq, Int.reduceToNat, Int.toNat_natCast, Int.natCast_zero, r123_T, r123, numIs, h1, g1, h2, g2, h3, g3, h4, g4, g5, Bool.false_or]

theorem num4Is_ok (c s : Int) (hp : List Ent) : F tab 105 [.d (numD c s)] hp = some (.ret (.d (.bool (numIs c s))) hp) := by
  refine f105 rfl ?_
  by_cases h1 : s < 0
  · have g1 : ¬ (0 ≤ s) := by omega
    simp only [go_sem, and_self, and_true, true_and, false_and, and_false, Nat.reduceAdd, Nat.reduceMul, Nat.reduceSub, Nat.reduceLeDiff, Nat.reduceLT, Nat.reduceGT, Nat.reduceEqDiff, Nat.reduceBEq, Int.reduceNeg, Int.reduceEq, Int.reduceLT, Int.reduceLE, Int.reduceBEq, Int.reduceToNat, Int.toNat_natCast, Int.natCast_zero, r105_T, r105, numIs, h1, g1]
  · have g1 : 0 ≤ s := by omega
    by_cases h2 : s > 9
    · have g2 : ¬ (s ≤ 9) := by omega
      simp only [go_sem, and_self, and_true, true_and, false_and, and_false, Nat.reduceAdd, Nat.reduceMul, Nat.reduceSub, Nat.reduceLeDiff, Nat.reduceLT, Nat.reduceGT, Nat.reduceEqDiff, Nat.reduceBEq, Int.reduceNeg, Int.reduceEq, Int.reduceLT, Int.reduceLE, Int.reduceBEq, Int.reduceToNat, Int.toNat_natCast, Int.natCast_zero, r105_T, r105, numIs, h1, g1, h2, g2]
    · have g2 : s ≤ 9 := by omega
      by_cases h3 : c ≤ -1000000000000000
      · have g3 : ¬ (-1000000000000000 < c) := by omega
        have g4 : c < 1000000000000000 := by omega
        have h4 : ¬ c ≥ 1000000000000000 := by omega
        simp only [go_sem, and_self, and_true, true_and, false_and, and_false, Nat.reduceAdd, Nat.reduceMul, Nat.reduceSub, Nat.reduceLeDiff, Nat.reduceLT, Nat.reduceGT, Nat.reduceEqDiff, Nat.reduceBEq, Int.reduceNeg, Int.reduceEq, Int.reduceLT, Int.reduceLE, Int.reduceBEq, Int.reduceToNat, Int.toNat_natCast, Int.natCast_zero, r105_T, r105, numIs, h1, g1, h2, g2, h3, g3, h4, g4]
      · have g3 : -1000000000000000 < c := by omega
        by_cases h4 : c ≥ 1000000000000000
        · have g4 : ¬ (c < 1000000000000000) := by omega
          simp only [go_sem, and_self, and_true, true_and, false_and, and_false, Nat.reduceAdd, Nat.reduceMul, Nat.reduceSub, Nat.reduceLeDiff, Nat.reduceLT, Nat.reduceGT, Nat.reduceEqDiff, Nat.reduceBEq, Int.reduceNeg, Int.reduceEq, Int.reduceLT, Int.reduceLE, Int.reduceBEq, Int.reduceToNat, Int.toNat_natCast, Int.natCast_zero, r105_T, r105, numIs, h1, g1, h2, g2, h3, g3, h4, g4]
        · have g4 : c < 1000000000000000 := by omega
          by_cases h5 : s = 0
          · subst h5
            simp only [go_sem, and_self, and_true, true_and, false_and, and_false, Nat.reduceAdd, Nat.reduceMul, Nat.reduceSub, Nat.reduceLeDiff, Nat.reduceLT, Nat.reduceGT, Nat.reduceEqDiff, Nat.reduceBEq, Int.reduceNeg, Int.reduceEq, Int.reduceLT, Int.reduceLE, Int.reduceBEq, Int.reduceToNat, Int.toNat_natCast, Int.natCast_zero, r105_T, r105, numIs, h1, g1, h2, g2, h3, g3, h4, g4, Bool.true_or]
          · have g5 : (s == 0) = false := by simpa using h5
            simp only [go_sem, and_self, and_true, true_and, false_and, and_false, Nat.reduceAdd, Nat.reduceMul, Nat.reduceSub, Nat.reduceLeDiff, Nat.reduceLT, Nat.reduceGT, Nat.reduceEqDiff, Nat.reduceBEq, Int.reduceNeg, Int.reduceEq, Int.reduceLT, Int.reduceLE, Int.reduceBEq, Int.reduceToNat, Int.toNat_natCast, Int.natCast_zero, r105_T, r105, numIs, h1, g1, h2, g2, h3, g3, h4, g4, g5, Bool.false_or]

theorem both_ok (c s c' s' : Int) (hp : List Ent) : F tab 120 [.d (numD c s), .d (numD c' s')] hp = some (.ret (.d (.bool (numIs c s && numIs c' s'))) hp) := by
  refine f120 rfl ?_
  have h1 := numIs_ok c s
  have h2 := numIs_ok c' s'
  rcases Bool.eq_false_or_eq_true (numIs c s) with h | h
  · simp only [go_sem, and_self, and_true, true_and, false_and, and_false, Nat.reduceAdd, Nat.reduceMul, Nat.reduceSub, Nat.reduceLeDiff, Nat.reduceLT, Nat.reduceGT, Nat.reduceEqDiff, Nat.reduceBEq, Int.reduceNeg, Int.reduceEq, Int.reduceLT, Int.reduceLE, Int.reduceBEq, Int.reduceToNat, Int.toNat_natCast, Int.natCast_zero, r120_T, r120, h1, h2, h]
  · simp only [go_sem, and_self, and_true, true_and, false_and, and_false, Nat.reduceAdd, Nat.reduceMul, Nat.reduceSub, Nat.reduceLeDiff, Nat.reduceLT, Nat.reduceGT, Nat.reduceEqDiff, Nat.reduceBEq, Int.reduceNeg, Int.reduceEq, Int.reduceLT, Int.reduceLE, Int.reduceBEq, Int.reduceToNat, Int.toNat_natCast, Int.natCast_zero, r120_T, r120, h1, h2, h]

theorem clean_ok (c s : Int) (hp : List Ent) : F tab 90 [.d (numD c s)] hp = some (.ret (.d (if numIs c s then numD c s else numD 0 0)) hp) := by
  refine f90 rfl ?_
  have h1 := numIs_ok c s
  rcases Bool.eq_false_or_eq_true (numIs c s) with h | h
  · simp only [go_sem, and_self, and_true, true_and, false_and, and_false, Nat.reduceAdd, Nat.reduceMul, Nat.reduceSub, Nat.reduceLeDiff, Nat.reduceLT, Nat.reduceGT, Nat.reduceEqDiff, Nat.reduceBEq, Int.reduceNeg, Int.reduceEq, Int.reduceLT, Int.reduceLE, Int.reduceBEq, Int.reduceToNat, Int.toNat_natCast, Int.natCast_zero, r90_T, r90, h1, h]
  · simp only [go_sem, and_self, and_true, true_and, false_and, and_false, Nat.reduceAdd, Nat.reduceMul, Nat.reduceSub, Nat.reduceLeDiff, Nat.reduceLT, Nat.reduceGT, Nat.reduceEqDiff, Nat.reduceBEq, Int.reduceNeg, Int.reduceEq, Int.reduceLT, Int.reduceLE, Int.reduceBEq, Int.reduceToNat, Int.toNat_natCast, Int.natCast_zero, r90_T, r90, h1, h]

theorem clean7_ok (c s : Int) (hp : List Ent) : F tab 97 [.d (numD c s)] hp = some (.ret (.d (if numIs c s then numD c s else numD 0 0)) hp) := by
  refine f97 rfl ?_
  have h1 := num4Is_ok c s
  rcases Bool.eq_false_or_eq_true (numIs c s) with h | h
  · simp only [go_sem, and_self, and_true, true_and, false_and, and_false, Nat.reduceAdd, Nat.reduceMul, Nat.reduceSub, Nat.reduceLeDiff, Nat.reduceLT, Nat.reduceGT, Nat.reduceEqDiff, Nat.reduceBEq, Int.reduceNeg, Int.reduceEq, Int.reduceLT, Int.reduceLE, Int.reduceBEq, Int.reduceToNat, Int.toNat_natCast, Int.natCast_zero, r97_T, r97, h1, h]
  · simp only [go_sem, and_self, and_true, true_and, false_and, and_false, Nat.reduceAdd, Nat.reduceMul, Nat.reduceSub, Nat.reduceLeDiff, Nat.reduceLT, Nat.reduceGT, Nat.reduceEqDiff, Nat.reduceBEq, Int.reduceNeg, Int.reduceEq, Int.reduceLT, Int.reduceLE, Int.reduceBEq, Int.reduceToNat, Int.toNat_natCast, Int.natCast_zero, r97_T, r97, h1, h]
end Go.Pe.T

namespace Go.Pe.T
/-! ### powers of ten; numbers cut; which is greater -/

theorem p10_pos (n : Nat) : 0 < (10 : Int) ^ n := Int.pow_pos (by omega)
theorem p10_mono {a b : Nat} (h : a ≤ b) : (10 : Int) ^ a ≤ 10 ^ b := by
  have h1 : (10 : Nat) ^ a ≤ 10 ^ b := Nat.pow_le_pow_right (by omega) h
  have h2 : ((10 ^ a : Nat) : Int) ≤ ((10 ^ b : Nat) : Int) := by exact_mod_cast h1
  simpa using h2

theorem pow_loop (n : Nat) (hn : n ≤ 18) : ∀ (j i : Nat), i + j = n →
    V (F tab) r141_B0 (r141_S0 (.d (iv (10 ^ i))) (.d (iv n)) (.d (iv i)) []) = some (.norm, r141_E0 (.d (iv (10 ^ n))) [])
  | 0, i, hi => by
    obtain rfl : i = n := by omega
    rw [r141_B0_eq]
    have h1 : ((i : Int) < (i : Int)) = False := by simp
    simp only [go_sem, and_self, and_true, true_and, false_and, and_false, Nat.reduceAdd, Nat.reduceMul, Nat.reduceSub, Nat.reduceLeDiff, Nat.reduceLT, Nat.reduceGT, Nat.reduceEqDiff, Nat.reduceBEq, Int.reduceNeg, Int.reduceEq, Int.reduceLT, Int.reduceLE, Int.reduceBEq, Int.reduceToNat, Int.toNat_natCast, Int.natCast_zero, r141_C0, h1]
  | j + 1, i, hi => by
    have h1 : ((i : Int) < (n : Int)) = True := by simp; omega
    have h3 := p10_mono (show i + 1 ≤ 18 by omega)
    have h4 := p10_pos (i + 1)
    have e : (10 : Int) ^ (i + 1) = 10 ^ i * 10 := Int.pow_succ 10 i
    have e18 : (10 : Int) ^ 18 = 1000000000000000000 := by decide
    have ih := pow_loop n hn j (i + 1) (by omega)
    rw [r141_B0_eq]
    simp (disch := omega) only [go_sem, and_self, and_true, true_and, false_and, and_false, Nat.reduceAdd, Nat.reduceMul, Nat.reduceSub, Nat.reduceLeDiff, Nat.reduceLT, Nat.reduceGT, Nat.reduceEqDiff, Nat.reduceBEq, Int.reduceNeg, Int.reduceEq, Int.reduceLT, Int.reduceLE, Int.reduceBEq, Int.reduceToNat, Int.toNat_natCast, Int.natCast_zero, r141_C0, h1, w64]
    rw [e] at ih
    exact ih

theorem pow_ok (n : Nat) (hn : n ≤ 18) (hp : List Ent) : F tab 141 [.d (iv n)] hp = some (.ret (.d (iv (10 ^ n))) hp) := by
  refine f141 rfl ?_
  have hL := pow_loop n hn n 0 (by omega)
  simp (disch := omega) only [go_sem, and_self, and_true, true_and, false_and, and_false, Nat.reduceAdd, Nat.reduceMul, Nat.reduceSub, Nat.reduceLeDiff, Nat.reduceLT, Nat.reduceGT, Nat.reduceEqDiff, Nat.reduceBEq, Int.reduceNeg, Int.reduceEq, Int.reduceLT, Int.reduceLE, Int.reduceBEq, Int.reduceToNat, Int.toNat_natCast, Int.natCast_zero, r141_T, r141]
  rw [r141_B0_n]
  erw [hL]
  simp only [go_sem, and_self, and_true, true_and, false_and, and_false, Nat.reduceAdd, Nat.reduceMul, Nat.reduceSub, Nat.reduceLeDiff, Nat.reduceLT, Nat.reduceGT, Nat.reduceEqDiff, Nat.reduceBEq, Int.reduceNeg, Int.reduceEq, Int.reduceLT, Int.reduceLE, Int.reduceBEq, Int.reduceToNat, Int.toNat_natCast, Int.natCast_zero]

/-- the whole part, and billionths -/
def cutU (c : Int) (k : Nat) : Int := c.tdiv (10 ^ k)
def cutV (c : Int) (k : Nat) : Int := c.tmod (10 ^ k) * 10 ^ (9 - k)

theorem cut_bounds {c : Int} {k : Nat} (hk : k ≤ 9) (hc : -1000000000000000 < c ∧ c < 1000000000000000) :
    cutU c k * 1000000000 + cutV c k = c * 10 ^ (9 - k) ∧ -1000000000000000 < cutU c k ∧ cutU c k < 1000000000000000 ∧ -1000000000 < cutV c k ∧ cutV c k < 1000000000 ∧ (0 ≤ c → 0 ≤ cutU c k ∧ 0 ≤ cutV c k) ∧ (c ≤ 0 → cutU c k ≤ 0 ∧ cutV c k ≤ 0) ∧ -10 ^ k < c.tmod (10 ^ k) ∧ c.tmod (10 ^ k) < 10 ^ k := by
  have hp := p10_pos k
  have hq := p10_pos (9 - k)
  have hpq : (10 : Int) ^ k * 10 ^ (9 - k) = 1000000000 := by
    rw [← Int.pow_add, show k + (9 - k) = 9 by omega]; decide
  have hdm := Int.mul_tdiv_add_tmod c (10 ^ k)
  generalize hP : (10 : Int) ^ k = p at *
  generalize hQ : (10 : Int) ^ (9 - k) = q at *
  have hm1 : c.tmod p < p := Int.tmod_lt_of_pos c hp
  have hm2 : -p < c.tmod p := by
    have := Int.lt_tmod_of_pos c hp
    omega
  have hu : cutU c k = c.tdiv p := by unfold cutU; rw [hP]
  have hv : cutV c k = c.tmod p * q := by unfold cutV; rw [hP, hQ]
  rw [hu, hv]
  have hnat : (c.tdiv p).natAbs ≤ c.natAbs := Int.natAbs_tdiv_le_natAbs c p
  refine ⟨?_, by omega, by omega, ?_, ?_, ?_, ?_, hm2, hm1⟩
  · rw [← hpq]
    calc c.tdiv p * (p * q) + c.tmod p * q = (p * c.tdiv p + c.tmod p) * q := by rw [Int.add_mul]; congr 1; rw [Int.mul_comm p (c.tdiv p), Int.mul_assoc]
      _ = c * q := by rw [hdm]
  · have : -p * q < c.tmod p * q := Int.mul_lt_mul_of_pos_right hm2 hq
    rw [Int.neg_mul, hpq] at this
    exact this
  · have : c.tmod p * q < p * q := Int.mul_lt_mul_of_pos_right hm1 hq
    rw [hpq] at this
    exact this
  · intro h0
    exact ⟨Int.tdiv_nonneg h0 (by omega), Int.mul_nonneg (Int.tmod_nonneg p h0) (by omega)⟩
  · intro h0
    have h1 : c.tdiv p ≤ 0 := by
      have := Int.tdiv_nonneg (show 0 ≤ -c by omega) (show 0 ≤ p by omega)
      rw [Int.neg_tdiv] at this
      omega
    have h2 : c.tmod p ≤ 0 := by
      have := Int.tmod_nonneg p (show 0 ≤ -c by omega)
      rw [Int.neg_tmod] at this
      omega
    exact ⟨h1, Int.mul_nonpos_of_nonpos_of_nonneg h2 (by omega)⟩

theorem cut_ok (c : Int) (k : Nat) (hk : k ≤ 9) (hc : -1000000000000000 < c ∧ c < 1000000000000000) (hp : List Ent) :
    F tab 121 [.d (numD c k)] hp = some (.ret (.tup [.d (iv (cutU c k)), .d (iv (cutV c k))]) hp) := by
  refine f121 rfl ?_
  have h1 := pow_ok k (by omega)
  have h2 := pow_ok (9 - k) (by omega)
  have e : ((9 - k : Nat) : Int) = 9 - (k : Int) := by omega
  rw [e] at h2
  have hne : ((10 : Int) ^ k = 0) = False := by have := p10_pos k; simp; omega
  obtain ⟨b1, b2, b3, b4, b5, _⟩ := cut_bounds hk hc
  have w1 : IntKind.i64.wrap (c.tdiv (10 ^ k)) = cutU c k := by rw [← cutU, w64 (by omega)]
  have w2 : IntKind.i64.wrap (c.tmod (10 ^ k) * 10 ^ (9 - k)) = cutV c k := by rw [← cutV, w64 (by omega)]
  simp (disch := omega) only [go_sem, and_self, and_true, true_and, false_and, and_false, Nat.reduceAdd, Nat.reduceMul, Nat.reduceSub, Nat.reduceLeDiff, Nat.reduceLT, Nat.reduceGT, Nat.reduceEqDiff, Nat.reduceBEq, Int.reduceNeg, Int.reduceEq, Int.reduceLT, Int.reduceLE, Int.reduceBEq, Int.reduceToNat, Int.toNat_natCast, Int.natCast_zero, r121_T, r121, w64, h1, h2, hne, w1, w2]

/-- numbers at one scale -/
def flatN (c : Int) (k : Nat) : Int := c * 10 ^ (9 - k)

theorem cmp_math {c c' : Int} {k k' : Nat} (hk : k ≤ 9) (hk' : k' ≤ 9) (hc : -1000000000000000 < c ∧ c < 1000000000000000) (hc' : -1000000000000000 < c' ∧ c' < 1000000000000000) :
    (if cutU c k ≠ cutU c' k' then sgn (cutU c k) (cutU c' k') else sgn (cutV c k) (cutV c' k')) = sgn (flatN c k) (flatN c' k') := by
  obtain ⟨b1, b2, b3, b4, b5, b6, b7, _⟩ := cut_bounds hk hc
  obtain ⟨d1, d2, d3, d4, d5, d6, d7, _⟩ := cut_bounds hk' hc'
  unfold flatN
  rw [← b1, ← d1]
  unfold sgn
  split
  · rename_i hne
    by_cases h0 : 0 ≤ c
    · have := b6 h0
      by_cases h1 : 0 ≤ c'
      · have := d6 h1
        split <;> split <;> (try split) <;> omega
      · have := d7 (by omega)
        split <;> split <;> (try split) <;> omega
    · have := b7 (by omega)
      by_cases h1 : 0 ≤ c'
      · have := d6 h1
        split <;> split <;> (try split) <;> omega
      · have := d7 (by omega)
        split <;> split <;> (try split) <;> omega
  · rename_i hne
    have : cutU c k = cutU c' k' := by simpa using hne
    rw [this]
    split <;> split <;> (try split) <;> omega

theorem numIs_inv {c s : Int} (h : numIs c s = true) : ∃ k : Nat, s = k ∧ k ≤ 9 ∧ (-1000000000000000 < c ∧ c < 1000000000000000) := by
  simp only [numIs, Bool.and_eq_true, decide_eq_true_eq] at h
  exact ⟨s.toNat, by omega, by omega, by omega⟩

theorem numcmp_ok (c c' : Int) (k k' : Nat) (h : numIs c k = true) (h' : numIs c' k' = true) (hp : List Ent) :
    F tab 89 [.d (numD c k), .d (numD c' k')] hp = some (.ret (.d (iv (sgn (flatN c k) (flatN c' k')))) hp) := by
  obtain ⟨k1, e1, hk, hc⟩ := numIs_inv h
  obtain ⟨k2, e2, hk', hc'⟩ := numIs_inv h'
  obtain rfl : k = k1 := by omega
  obtain rfl : k' = k2 := by omega
  refine f89 rfl ?_
  have h1 := both_ok c k c' k'
  rw [h, h'] at h1
  have h2 := cut_ok c k hk hc
  have h3 := cut_ok c' k' hk' hc'
  have h4 := numorder_ok (cutU c k) (cutU c' k')
  have h5 := numorder_ok (cutV c k) (cutV c' k')
  rw [← cmp_math hk hk' hc hc']
  by_cases hu : cutU c k = cutU c' k'
  · have hu1 : (cutU c k != cutU c' k') = false := by simp [hu]
    have hu2 : (cutU c k ≠ cutU c' k') = False := by simp [hu]
    simp (disch := omega) only [go_sem, and_self, and_true, true_and, false_and, and_false, Nat.reduceAdd, Nat.reduceMul, Nat.reduceSub, Nat.reduceLeDiff, Nat.reduceLT, Nat.reduceGT, Nat.reduceEqDiff, Nat.reduceBEq, Int.reduceNeg, Int.reduceEq, Int.reduceLT, Int.reduceLE, Int.reduceBEq, Int.reduceToNat, Int.toNat_natCast, Int.natCast_zero, r89_T, r89, h1, h2, h3, h4, h5, hu1, hu2]
  · have hu1 : (cutU c k != cutU c' k') = true := by simp [hu]
    have hu2 : (cutU c k ≠ cutU c' k') = True := by simp [hu]
    simp (disch := omega) only [go_sem, and_self, and_true, true_and, false_and, and_false, Nat.reduceAdd, Nat.reduceMul, Nat.reduceSub, Nat.reduceLeDiff, Nat.reduceLT, Nat.reduceGT, Nat.reduceEqDiff, Nat.reduceBEq, Int.reduceNeg, Int.reduceEq, Int.reduceLT, Int.reduceLE, Int.reduceBEq, Int.reduceToNat, Int.toNat_natCast, Int.natCast_zero, r89_T, r89, h1, h2, h3, h4, h5, hu1, hu2]
end Go.Pe.T

namespace Go.Pe.T
/-! ### ref04: whole numbers without bound, digit by digit -/

abbrev dl (l : List Int) : D := .sl (l.map iv)
abbrev longD (neg : Bool) (l : List Int) : D := .agg [.bool neg, .sl (l.map iv)]

theorem dl_all (l : List Int) : (l.map iv).all (fun y => y.width == 1) = true := by
  rw [List.all_eq_true]
  intro y hy
  obtain ⟨n, _, rfl⟩ := List.mem_map.1 hy
  rfl
theorem dl_get {l : List Int} {i : Nat} {d : Int} (h : l[i]? = some d) : (l.map iv)[i]? = some (iv d) := by rw [List.getElem?_map, h]; rfl
theorem cut_dl (l : List Int) (n : Nat) : cutD (l.map iv) 0 (n : Int) = (l.take n).map iv := by
  simp [cutD]

def trimN (l : List Int) : Nat → Nat
  | 0 => 0
  | n + 1 => if l[n]? = some 0 then trimN l n else n + 1
def trimL (l : List Int) : List Int := l.take (trimN l l.length)

theorem trimN_le (l : List Int) : ∀ n, trimN l n ≤ n
  | 0 => Nat.le_refl _
  | n + 1 => by
    unfold trimN
    split
    · have := trimN_le l n; omega
    · exact Nat.le_refl _

theorem trim_loop (neg : Bool) (l : List Int) (hl : l.length ≤ maxLen) (x2 : List PV) : ∀ n, n ≤ l.length →
    V (F tab) r144_B0 (r144_S0 (.ibox [.d (.bool neg), .d (.sl (l.map iv))]) (.ibox x2) (.d (iv n)) []) = some (.norm, r144_E0 (.ibox [.d (.bool neg), .d (.sl (l.map iv))]) (.ibox x2) (.d (iv (trimN l n))) [])
  | 0, hn => by
    rw [r144_B0_eq]
    simp only [go_sem, and_self, and_true, true_and, false_and, and_false, Nat.reduceAdd, Nat.reduceMul, Nat.reduceSub, Nat.reduceLeDiff, Nat.reduceLT, Nat.reduceGT, Nat.reduceEqDiff, Nat.reduceBEq, Int.reduceNeg, Int.reduceEq, Int.reduceLT, Int.reduceLE, Int.reduceBEq, Int.reduceToNat, Int.toNat_natCast, Int.natCast_zero, r144_C0, trimN, Int.natCast_zero, gt_iff_lt, Int.lt_irrefl]
  | n + 1, hn => by
    have hmx : maxLen ≤ 9223372036854775807 := by decide
    have h1 : ((0 : Int) < ((n + 1 : Nat) : Int)) = True := eq_true (by omega)
    have hd : ∃ d, l[n]? = some d := ⟨l[n], List.getElem?_eq_getElem (by omega)⟩
    obtain ⟨d, hd⟩ := hd
    have h2 : (l.map iv)[n]? = some (iv d) := dl_get hd
    have h3 : (((n + 1 : Nat) : Int) - 1) = (n : Int) := by omega
    have h4 : (0 ≤ (n : Int)) = True := by simp
    have ih := trim_loop neg l hl x2 n (by omega)
    rw [r144_B0_eq]
    by_cases h0 : d = 0
    · subst h0
      have e : trimN l (n + 1) = trimN l n := by simp [trimN, hd]
      rw [e]
      simp (disch := omega) only [go_sem, and_self, and_true, true_and, false_and, and_false, Nat.reduceAdd, Nat.reduceMul, Nat.reduceSub, Nat.reduceLeDiff, Nat.reduceLT, Nat.reduceGT, Nat.reduceEqDiff, Nat.reduceBEq, Int.reduceNeg, Int.reduceEq, Int.reduceLT, Int.reduceLE, Int.reduceBEq, Int.reduceToNat, Int.toNat_natCast, Int.natCast_zero, r144_C0, gt_iff_lt, h1, h3, w64, h4, h2, elemD, List.getElem?_cons_zero]
      exact ih
    · have e : trimN l (n + 1) = n + 1 := by simp [trimN, hd, h0]
      have h5 : (d == 0) = false := by simpa using h0
      rw [e]
      simp (disch := omega) only [go_sem, and_self, and_true, true_and, false_and, and_false, Nat.reduceAdd, Nat.reduceMul, Nat.reduceSub, Nat.reduceLeDiff, Nat.reduceLT, Nat.reduceGT, Nat.reduceEqDiff, Nat.reduceBEq, Int.reduceNeg, Int.reduceEq, Int.reduceLT, Int.reduceLE, Int.reduceBEq, Int.reduceToNat, Int.toNat_natCast, Int.natCast_zero, r144_C0, gt_iff_lt, h1, h3, w64, h4, h2, h5]

theorem trim_ok (neg : Bool) (l : List Int) (hl : l.length ≤ maxLen) (hp : List Ent) :
    F tab 144 [.d (longD neg l)] hp = some (.ret (.d (longD (neg && trimN l l.length != 0) (trimL l))) hp) := by
  refine f144 rfl ?_
  have hL := trim_loop neg l hl [.d (.bool false), .nilsl] l.length (Nat.le_refl _)
  have hle := trimN_le l l.length
  simp (disch := omega) only [go_sem, and_self, and_true, true_and, false_and, and_false, Nat.reduceAdd, Nat.reduceMul, Nat.reduceSub, Nat.reduceLeDiff, Nat.reduceLT, Nat.reduceGT, Nat.reduceEqDiff, Nat.reduceBEq, Int.reduceNeg, Int.reduceEq, Int.reduceLT, Int.reduceLE, Int.reduceBEq, Int.reduceToNat, Int.toNat_natCast, Int.natCast_zero, r144_T, r144, List.length_map]
  rw [r144_B0_n]
  erw [hL]
  have h1 : (0 ≤ ((trimN l l.length : Nat) : Int)) = True := by simp
  have h2 : (((trimN l l.length : Nat) : Int) ≤ (l.length : Int)) = True := by simp; omega
  by_cases h0 : trimN l l.length = 0
  · have h3 : (((trimN l l.length : Nat) : Int) == 0) = true := by simp [h0]
    have h4 : (trimN l l.length != 0) = false := by simp [h0]
    simp (disch := omega) only [go_sem, and_self, and_true, true_and, false_and, and_false, Nat.reduceAdd, Nat.reduceMul, Nat.reduceSub, Nat.reduceLeDiff, Nat.reduceLT, Nat.reduceGT, Nat.reduceEqDiff, Nat.reduceBEq, Int.reduceNeg, Int.reduceEq, Int.reduceLT, Int.reduceLE, Int.reduceBEq, Int.reduceToNat, Int.toNat_natCast, Int.natCast_zero, dl_all, cut_dl, List.length_map, h1, h2, h3, h4, trimL, decide_true, Int.le_refl]
  · have h3 : (((trimN l l.length : Nat) : Int) == 0) = false := by simp; omega
    have h4 : (trimN l l.length != 0) = true := by simp [h0]
    simp (disch := omega) only [go_sem, and_self, and_true, true_and, false_and, and_false, Nat.reduceAdd, Nat.reduceMul, Nat.reduceSub, Nat.reduceLeDiff, Nat.reduceLT, Nat.reduceGT, Nat.reduceEqDiff, Nat.reduceBEq, Int.reduceNeg, Int.reduceEq, Int.reduceLT, Int.reduceLE, Int.reduceBEq, Int.reduceToNat, Int.toNat_natCast, Int.natCast_zero, dl_all, cut_dl, List.length_map, h1, h2, h3, h4, trimL, decide_true, Int.le_refl]
end Go.Pe.T

namespace Go.Pe.T

/-! ### Shift, Of -/

theorem shift_loop (n : Nat) (hn : n ≤ 1000) (x2 x4 : List PV) : ∀ (j i : Nat), i + j = n →
    V (F tab) r142_B0 (r142_S0 (.d (iv n)) (.ibox x2) (.ibox x4) (.own 3 ((List.replicate i 0).map iv)) (.d (iv i)) []) =
      some (.norm, r142_E0 (.ibox x2) (.ibox x4) (.own 3 ((List.replicate n 0).map iv)) [])
  | 0, i, hi => by
    obtain rfl : i = n := by omega
    rw [r142_B0_eq]
    simp only [go_sem, and_self, and_true, true_and, false_and, and_false, Nat.reduceAdd, Nat.reduceMul, Nat.reduceSub, Nat.reduceLeDiff, Nat.reduceLT, Nat.reduceGT, Nat.reduceEqDiff, Nat.reduceBEq, Int.reduceNeg, Int.reduceEq, Int.reduceLT, Int.reduceLE, Int.reduceBEq, Int.reduceToNat, Int.toNat_natCast, Int.natCast_zero, r142_C0, Int.lt_irrefl]
  | j + 1, i, hi => by
    have h1 : ((i : Int) < (n : Int)) = True := eq_true (by omega)
    have h2 : ((i + 1) * 8 ≤ maxRow) = True := eq_true (by unfold maxRow; omega)
    have ih := shift_loop n hn x2 x4 j (i + 1) (by omega)
    rw [List.replicate_succ', List.map_append] at ih
    rw [r142_B0_eq]
    simp (disch := omega) only [go_sem, and_self, and_true, true_and, false_and, and_false, Nat.reduceAdd, Nat.reduceMul, Nat.reduceSub, Nat.reduceLeDiff, Nat.reduceLT, Nat.reduceGT, Nat.reduceEqDiff, Nat.reduceBEq, Int.reduceNeg, Int.reduceEq, Int.reduceLT, Int.reduceLE, Int.reduceBEq, Int.reduceToNat, Int.toNat_natCast, Int.natCast_zero, r142_C0, h1, w64, List.length_map, List.length_replicate, h2]
    exact ih

/-- so many noughts below -/
def shiftL (l : List Int) (n : Nat) : List Int := trimL (List.replicate n 0 ++ l)

theorem shift_ok (neg : Bool) (l : List Int) (hl : l.length ≤ 1000) (n : Nat) (hn : n ≤ 1000) (hp : List Ent) :
    F tab 142 [.d (longD neg l), .d (iv n)] hp = some (.ret (.d (longD (neg && trimN (List.replicate n 0 ++ l) (n + l.length) != 0) (shiftL l n))) hp) := by
  refine f142 rfl ?_
  have hL := shift_loop n hn [.d (.bool neg), .d (.sl (l.map iv))] [.d (.bool false), .nilsl] n 0 (by omega)
  have hT := trim_ok neg (List.replicate n 0 ++ l) (by have : maxLen = 9223372036854775807 := by decide
                                                       simp only [List.length_append, List.length_replicate]; omega)
  have h2 : ((n + l.length) * 8 ≤ maxRow) = True := eq_true (by unfold maxRow; omega)
  simp only [List.length_append, List.length_replicate] at hT
  simp (disch := omega) only [go_sem, and_self, and_true, true_and, false_and, and_false, Nat.reduceAdd, Nat.reduceMul, Nat.reduceSub, Nat.reduceLeDiff, Nat.reduceLT, Nat.reduceGT, Nat.reduceEqDiff, Nat.reduceBEq, Int.reduceNeg, Int.reduceEq, Int.reduceLT, Int.reduceLE, Int.reduceBEq, Int.reduceToNat, Int.toNat_natCast, Int.natCast_zero, r142_T, r142, List.length_map]
  rw [r142_B0_n, r142_B0_z5]
  erw [hL]
  simp (disch := omega) only [go_sem, and_self, and_true, true_and, false_and, and_false, Nat.reduceAdd, Nat.reduceMul, Nat.reduceSub, Nat.reduceLeDiff, Nat.reduceLT, Nat.reduceGT, Nat.reduceEqDiff, Nat.reduceBEq, Int.reduceNeg, Int.reduceEq, Int.reduceLT, Int.reduceLE, Int.reduceBEq, Int.reduceToNat, Int.toNat_natCast, Int.natCast_zero, List.length_map, List.length_replicate, h2, ← List.map_append, hT, dl_all, shiftL]

/-- a number's digits, the lowest first -/
def digs (n : Nat) : List Int := if n = 0 then [] else ((n % 10 : Nat) : Int) :: digs (n / 10)
  termination_by n
  decreasing_by omega

/-- a row that may be nothing as yet -/
def rowP : List Int → PV
  | [] => .nilsl
  | x :: l => .own 3 (iv x :: l.map iv)

theorem of_loop (neg : Bool) (x2 : List PV) : ∀ (m : Nat) (c : Int) (out : List Int), c.natAbs = m → i64 c → out.length ≤ 100 - (digs m).length → (digs m).length ≤ 50 →
    V (F tab) r143_B0 (r143_S0 (.d (iv c)) (.ibox x2) (.ibox [.d (.bool neg), rowP out]) []) =
      some (.norm, r143_E0 (.ibox x2) (.ibox [.d (.bool neg), rowP (out ++ digs m)]) []) := by
  intro m
  induction m using Nat.strongRecOn with
  | _ m ih =>
    intro c out hm hc hlen hd
    by_cases h0 : c = 0
    · subst h0
      have : m = 0 := by omega
      subst this
      have h1 : ((0 : Int) != 0) = false := by decide
      rw [r143_B0_eq]
      have e : digs 0 = [] := by rw [digs]; rfl
      rw [e]
      simp only [go_sem, and_self, and_true, true_and, false_and, and_false, Nat.reduceAdd, Nat.reduceMul, Nat.reduceSub, Nat.reduceLeDiff, Nat.reduceLT, Nat.reduceGT, Nat.reduceEqDiff, Nat.reduceBEq, Int.reduceNeg, Int.reduceEq, Int.reduceLT, Int.reduceLE, Int.reduceBEq, Int.reduceToNat, Int.toNat_natCast, Int.natCast_zero, r143_C0, h1, List.append_nil]
    · have hm0 : m ≠ 0 := by omega
      have h1 : (c != 0) = true := by simpa using h0
      have e : digs m = ((m % 10 : Nat) : Int) :: digs (m / 10) := by rw [digs, if_neg hm0]
      rw [e] at hlen hd ⊢
      simp only [List.length_cons] at hlen hd
      have hq : (c.tdiv 10).natAbs = m / 10 := by rw [Int.natAbs_tdiv, hm]; rfl
      have hr : (c.tmod 10).natAbs = m % 10 := by rw [Int.natAbs_tmod, hm]; rfl
      unfold i64 at hc
      have ihc := ih (m / 10) (by omega) (c.tdiv 10) (out ++ [((m % 10 : Nat) : Int)]) hq (by unfold i64; omega) (by simp; omega) (by omega)
      rw [List.append_assoc, List.singleton_append] at ihc
      have hb : -10 < c.tmod 10 ∧ c.tmod 10 < 10 := by omega
      have hb2 : -9223372036854775808 ≤ c.tdiv 10 ∧ c.tdiv 10 ≤ 9223372036854775807 := by omega
      rw [r143_B0_eq]
      have h8 : (8 ≤ maxRow) = True := eq_true (by unfold maxRow; omega)
      cases out with
      | nil =>
        by_cases hs : c.tmod 10 < 0
        · have e3 : 0 - c.tmod 10 = ((m % 10 : Nat) : Int) := by omega
          have e4 : IntKind.i64.wrap (0 - c.tmod 10) = ((m % 10 : Nat) : Int) := by rw [w64 (by omega), e3]
          simp (disch := omega) only [go_sem, and_self, and_true, true_and, false_and, and_false, Nat.reduceAdd, Nat.reduceMul, Nat.reduceSub, Nat.reduceLeDiff, Nat.reduceLT, Nat.reduceGT, Nat.reduceEqDiff, Nat.reduceBEq, Int.reduceNeg, Int.reduceEq, Int.reduceLT, Int.reduceLE, Int.reduceBEq, Int.reduceToNat, Int.toNat_natCast, Int.natCast_zero, r143_C0, h1, hs, e4, w64, List.length_map, h8, rowP]
          exact ihc
        · have e3 : c.tmod 10 = ((m % 10 : Nat) : Int) := by omega
          simp (disch := omega) only [go_sem, and_self, and_true, true_and, false_and, and_false, Nat.reduceAdd, Nat.reduceMul, Nat.reduceSub, Nat.reduceLeDiff, Nat.reduceLT, Nat.reduceGT, Nat.reduceEqDiff, Nat.reduceBEq, Int.reduceNeg, Int.reduceEq, Int.reduceLT, Int.reduceLE, Int.reduceBEq, Int.reduceToNat, Int.toNat_natCast, Int.natCast_zero, r143_C0, h1, hs, w64, List.length_map, h8, rowP]
          rw [e3]
          exact ihc
      | cons x l =>
        simp only [List.length_cons] at hlen
        have h2 : ((l.length + 1 + 1) * 8 ≤ maxRow) = True := eq_true (by unfold maxRow; omega)
        have ihc' : V (F tab) r143_B0 (r143_S0 (.d (iv (c.tdiv 10))) (.ibox x2) (.ibox [.d (.bool neg), .own 3 (iv x :: (l.map iv ++ [iv ((m % 10 : Nat) : Int)]))]) []) =
            some (.norm, r143_E0 (.ibox x2) (.ibox [.d (.bool neg), rowP (x :: l ++ ((m % 10 : Nat) : Int) :: digs (m / 10))]) []) := by
          rw [← ihc]
          simp only [List.cons_append, rowP, List.map_append, List.map_cons, List.map_nil]
        by_cases hs : c.tmod 10 < 0
        · have e3 : 0 - c.tmod 10 = ((m % 10 : Nat) : Int) := by omega
          have e4 : IntKind.i64.wrap (0 - c.tmod 10) = ((m % 10 : Nat) : Int) := by rw [w64 (by omega), e3]
          simp (disch := omega) only [go_sem, and_self, and_true, true_and, false_and, and_false, Nat.reduceAdd, Nat.reduceMul, Nat.reduceSub, Nat.reduceLeDiff, Nat.reduceLT, Nat.reduceGT, Nat.reduceEqDiff, Nat.reduceBEq, Int.reduceNeg, Int.reduceEq, Int.reduceLT, Int.reduceLE, Int.reduceBEq, Int.reduceToNat, Int.toNat_natCast, Int.natCast_zero, r143_C0, h1, hs, e4, w64, List.length_map, h2, rowP]
          exact ihc'
        · have e3 : c.tmod 10 = ((m % 10 : Nat) : Int) := by omega
          simp (disch := omega) only [go_sem, and_self, and_true, true_and, false_and, and_false, Nat.reduceAdd, Nat.reduceMul, Nat.reduceSub, Nat.reduceLeDiff, Nat.reduceLT, Nat.reduceGT, Nat.reduceEqDiff, Nat.reduceBEq, Int.reduceNeg, Int.reduceEq, Int.reduceLT, Int.reduceLE, Int.reduceBEq, Int.reduceToNat, Int.toNat_natCast, Int.natCast_zero, r143_C0, h1, hs, w64, List.length_map, h2, rowP]
          rw [e3]
          exact ihc'

theorem digs_len : ∀ (k n : Nat), n < 10 ^ k → (digs n).length ≤ k
  | 0, n, h => by
    have : n = 0 := by simpa using h
    subst this
    rw [digs]; simp
  | k + 1, n, h => by
    rw [digs]
    split
    · simp
    · have := digs_len k (n / 10) (by rw [Nat.pow_succ] at h; omega)
      simp only [List.length_cons]
      omega

theorem of_ok (c : Int) (hc : -1000000000000000000 < c ∧ c < 1000000000000000000) (hp : List Ent) :
    F tab 143 [.d (iv c)] hp = some (.ret (.d (longD (decide (c < 0)) (digs c.natAbs))) hp) := by
  refine f143 rfl ?_
  have hd := digs_len 18 c.natAbs (by have : (10 : Nat) ^ 18 = 1000000000000000000 := by decide
                                      omega)
  have hL := of_loop (decide (c < 0)) [.d (.bool false), .nilsl] c.natAbs c [] rfl (by unfold i64; omega) (by simp) (by omega)
  simp (disch := omega) only [go_sem, and_self, and_true, true_and, false_and, and_false, Nat.reduceAdd, Nat.reduceMul, Nat.reduceSub, Nat.reduceLeDiff, Nat.reduceLT, Nat.reduceGT, Nat.reduceEqDiff, Nat.reduceBEq, Int.reduceNeg, Int.reduceEq, Int.reduceLT, Int.reduceLE, Int.reduceBEq, Int.reduceToNat, Int.toNat_natCast, Int.natCast_zero, r143_T, r143]
  rw [r143_B0_n]
  erw [hL]
  rw [List.nil_append]
  cases digs c.natAbs with
  | nil => simp (disch := omega) only [go_sem, and_self, and_true, true_and, false_and, and_false, Nat.reduceAdd, Nat.reduceMul, Nat.reduceSub, Nat.reduceLeDiff, Nat.reduceLT, Nat.reduceGT, Nat.reduceEqDiff, Nat.reduceBEq, Int.reduceNeg, Int.reduceEq, Int.reduceLT, Int.reduceLE, Int.reduceBEq, Int.reduceToNat, Int.toNat_natCast, Int.natCast_zero, rowP]; rfl
  | cons x l => simp (disch := omega) only [go_sem, and_self, and_true, true_and, false_and, and_false, Nat.reduceAdd, Nat.reduceMul, Nat.reduceSub, Nat.reduceLeDiff, Nat.reduceLT, Nat.reduceGT, Nat.reduceEqDiff, Nat.reduceBEq, Int.reduceNeg, Int.reduceEq, Int.reduceLT, Int.reduceLE, Int.reduceBEq, Int.reduceToNat, Int.toNat_natCast, Int.natCast_zero, rowP]; rfl
end Go.Pe.T
