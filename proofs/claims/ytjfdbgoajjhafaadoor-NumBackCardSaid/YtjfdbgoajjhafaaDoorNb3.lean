/- A part of the proof of: A number's text is parsed as it; sums and products are the same whichever way round; a sum less one of both is the other, a product by one of both is the other. -/
import Derived.Test.YtjfdbgoajjhafaaDoorNb2
import Derived.Test.YtjfdbgoajjhafaaDoorPe3
import Derived.KernelRfl
set_option linter.unusedSimpArgs false
set_option maxRecDepth 10000
set_option linter.unusedVariables false

namespace Go.Pe.T
@[go_sem] def r66_K0 (_ : Unit) : RCode := .seq (.block 3 [.kill, .kill, .keep, .keep, .keep, .keep, .keep, .keep] (.reg [⟨some 24, none, .mv false (.t 5)⟩, ⟨some 25, none, .fad 1 (.t 2)⟩, ⟨some 26, none, .ld false none (.t 25)⟩, ⟨some 27, none, .bld [.bool false, .sl []] [(0, 1, (.c (.d (.bool false)))), (1, 1, (.t 26))]⟩, ⟨some 28, none, .mv false (.t 6)⟩, ⟨some 29, none, .call false (.f 44) [(.t 27), (.t 28)]⟩, ⟨some 30, none, .fld 1 none (.t 29)⟩, ⟨some 31, none, .call false (.f 83) [(.t 24), (.t 30)]⟩, ⟨some 5, none, .mv false (.t 31)⟩] [25] false)) (.reg [⟨some 22, none, .mv false (.t 7)⟩, ⟨some 23, none, .bin .add (.t 22) (.c (.d (.int .i64 1)))⟩, ⟨some 7, none, .mv false (.t 23)⟩] [] false)
def r66_C1 : RCode := .seq (.seq (.reg [⟨some 15, none, .mv false (.t 7)⟩, ⟨some 16, none, .fad 1 (.t 3)⟩, ⟨some 17, none, .ld false none (.t 16)⟩, ⟨some 18, none, .mv false (.t 6)⟩, ⟨some 19, none, .iad none 1 (.t 17) (.t 18)⟩, ⟨some 20, none, .ld false none (.t 19)⟩, ⟨some 21, none, .bin .lss (.t 15) (.t 20)⟩] [16, 19] false) (.cond (.t 21) (.skip) (.exit 2))) (hold r66_K0)
def r66_B1 : RCode := .block 2 [.kill, .kill, .keep, .keep, .keep, .keep, .keep] (.loop [.kill, .kill, .keep, .keep, .keep, .keep, .keep, .keep] r66_C1)
theorem r66_B1_eq {cf : CF} {s : St} : V cf r66_B1 s = loopK cf r66_B1 2 [.kill, .kill, .keep, .keep, .keep, .keep, .keep] [.kill, .kill, .keep, .keep, .keep, .keep, .keep, .keep] (V cf r66_C1 (s.head [.kill, .kill, .keep, .keep, .keep, .keep, .keep, .keep])) := V_bloop
/-- at the loop -/
abbrev r66_S1 (x2 x3 x4 x5 x6 x7 : PV) (hp : List Ent) : St := ⟨[.dead, .dead, x2, x3, x4, x5, x6, x7, .dead, .dead, .dead, .dead, .dead, .dead, .dead, .dead, .dead, .dead, .dead, .dead, .dead, .dead, .dead, .dead, .dead, .dead, .dead, .dead, .dead, .dead, .dead, .dead, .dead, .dead, .dead, .dead, .dead, .dead, .dead, .dead], hp⟩
/-- behind the loop -/
abbrev r66_E1 (x2 x3 x4 x5 x6 : PV) (hp : List Ent) : St := ⟨[.dead, .dead, x2, x3, x4, x5, x6, .dead, .dead, .dead, .dead, .dead, .dead, .dead, .dead, .dead, .dead, .dead, .dead, .dead, .dead, .dead, .dead, .dead, .dead, .dead, .dead, .dead, .dead, .dead, .dead, .dead, .dead, .dead, .dead, .dead, .dead, .dead, .dead, .dead], hp⟩
theorem r66_B1_n {cf : CF} {a0 a1 x2 x3 x4 x5 x6 x7 a8 a9 a10 a11 a12 a13 a14 a15 a16 a17 a18 a19 a20 a21 a22 a23 a24 a25 a26 a27 a28 a29 a30 a31 a32 a33 a34 a35 a36 a37 a38 a39 : PV} {hp : List Ent} : V cf r66_B1 ⟨[a0, a1, x2, x3, x4, x5, x6, x7, a8, a9, a10, a11, a12, a13, a14, a15, a16, a17, a18, a19, a20, a21, a22, a23, a24, a25, a26, a27, a28, a29, a30, a31, a32, a33, a34, a35, a36, a37, a38, a39], hp⟩ = V cf r66_B1 (r66_S1 x2 x3 x4 x5 x6 x7 hp) := by rw [r66_B1_eq, r66_B1_eq]; rfl
def r66_C0 : RCode := .seq (.seq (.reg [⟨some 8, none, .mv false (.t 6)⟩, ⟨some 9, none, .fad 1 (.t 3)⟩, ⟨some 10, none, .ld false none (.t 9)⟩, ⟨some 11, none, .len false (.t 10)⟩, ⟨some 12, none, .bin .lss (.t 8) (.t 11)⟩] [9] false) (.cond (.t 12) (.skip) (.exit 0))) (.seq (.block 1 [.kill, .kill, .keep, .keep, .keep, .keep, .keep] (.seq (.reg [⟨some 7, none, .mv false (.c (.d (.int .i64 0)))⟩] [] false) (r66_B1))) (.reg [⟨some 13, none, .mv false (.t 6)⟩, ⟨some 14, none, .bin .add (.t 13) (.c (.d (.int .i64 1)))⟩, ⟨some 6, none, .mv false (.t 14)⟩] [] false))
def r66_B0 : RCode := .block 0 [.kill, .kill, .keep, .keep, .keep, .keep] (.loop [.kill, .kill, .keep, .keep, .keep, .keep, .keep] r66_C0)
theorem r66_B0_eq {cf : CF} {s : St} : V cf r66_B0 s = loopK cf r66_B0 0 [.kill, .kill, .keep, .keep, .keep, .keep] [.kill, .kill, .keep, .keep, .keep, .keep, .keep] (V cf r66_C0 (s.head [.kill, .kill, .keep, .keep, .keep, .keep, .keep])) := V_bloop
/-- at the loop -/
abbrev r66_S0 (x2 x3 x4 x5 x6 : PV) (hp : List Ent) : St := ⟨[.dead, .dead, x2, x3, x4, x5, x6, .dead, .dead, .dead, .dead, .dead, .dead, .dead, .dead, .dead, .dead, .dead, .dead, .dead, .dead, .dead, .dead, .dead, .dead, .dead, .dead, .dead, .dead, .dead, .dead, .dead, .dead, .dead, .dead, .dead, .dead, .dead, .dead, .dead], hp⟩
/-- behind the loop -/
abbrev r66_E0 (x2 x3 x4 x5 : PV) (hp : List Ent) : St := ⟨[.dead, .dead, x2, x3, x4, x5, .dead, .dead, .dead, .dead, .dead, .dead, .dead, .dead, .dead, .dead, .dead, .dead, .dead, .dead, .dead, .dead, .dead, .dead, .dead, .dead, .dead, .dead, .dead, .dead, .dead, .dead, .dead, .dead, .dead, .dead, .dead, .dead, .dead, .dead], hp⟩
theorem r66_B0_n {cf : CF} {a0 a1 x2 x3 x4 x5 x6 a7 a8 a9 a10 a11 a12 a13 a14 a15 a16 a17 a18 a19 a20 a21 a22 a23 a24 a25 a26 a27 a28 a29 a30 a31 a32 a33 a34 a35 a36 a37 a38 a39 : PV} {hp : List Ent} : V cf r66_B0 ⟨[a0, a1, x2, x3, x4, x5, x6, a7, a8, a9, a10, a11, a12, a13, a14, a15, a16, a17, a18, a19, a20, a21, a22, a23, a24, a25, a26, a27, a28, a29, a30, a31, a32, a33, a34, a35, a36, a37, a38, a39], hp⟩ = V cf r66_B0 (r66_S0 x2 x3 x4 x5 x6 hp) := by rw [r66_B0_eq, r66_B0_eq]; rfl
@[go_sem] def r66_K1 (_ : Unit) : RCode := .seq (.seq (.reg [⟨some 6, none, .mv false (.c (.d (.int .i64 0)))⟩] [] false) (r66_B0)) (.seq (.reg [⟨some 32, none, .fad 0 (.t 2)⟩, ⟨some 33, none, .ld false none (.t 32)⟩, ⟨some 34, none, .fad 0 (.t 3)⟩, ⟨some 35, none, .ld false none (.t 34)⟩, ⟨some 36, none, .beq true (.t 33) (.t 35)⟩, ⟨some 37, none, .mv false (.t 5)⟩, ⟨some 38, none, .bld [.bool false, .sl []] [(0, 1, (.t 36)), (1, 1, (.t 37))]⟩, ⟨some 39, none, .call false (.f 43) [(.t 38)]⟩, ⟨none, none, .sto (some 2) (.t 4) (.t 39)⟩] [32, 34] false) (.ret [.kill, .kill, .kill, .kill, .keep]))
/-- at the end -/
abbrev r66_R (x4 : PV) (hp : List Ent) : St := ⟨[.dead, .dead, .dead, .dead, x4, .dead, .dead, .dead, .dead, .dead, .dead, .dead, .dead, .dead, .dead, .dead, .dead, .dead, .dead, .dead, .dead, .dead, .dead, .dead, .dead, .dead, .dead, .dead, .dead, .dead, .dead, .dead, .dead, .dead, .dead, .dead, .dead, .dead, .dead, .dead], hp⟩
/-- keyhole/keyholeref04.Times -/
def r66_T : RCode := .seq (.reg [⟨some 2, none, .bx false true (.t 0)⟩, ⟨some 3, none, .bx false true (.t 1)⟩, ⟨some 4, none, .zal false [.d (.bool false), .nilsl]⟩] [] false) (.seq (.reg [⟨some 5, none, .mv false (.c (.d (.sl [])))⟩] [] false) (hold r66_K1))
def r66 : RFunc := ⟨40, true, [.cell 4 (some 2)], r66_T⟩
@[go_sem] def r39_K0 (_ : Unit) : RCode := .seq (.reg [⟨some 6, none, .fad 0 (.t 2)⟩, ⟨some 7, none, .ld false none (.t 6)⟩, ⟨some 8, none, .call false (.f 18) [(.t 7)]⟩, ⟨some 9, none, .fad 0 (.t 3)⟩, ⟨some 10, none, .ld false none (.t 9)⟩, ⟨some 11, none, .call false (.f 18) [(.t 10)]⟩, ⟨some 12, none, .call false (.f 66) [(.t 8), (.t 11)]⟩, ⟨some 13, none, .fad 1 (.t 2)⟩, ⟨some 14, none, .ld false none (.t 13)⟩, ⟨some 15, none, .fad 1 (.t 3)⟩, ⟨some 16, none, .ld false none (.t 15)⟩, ⟨some 17, none, .bin .add (.t 14) (.t 16)⟩, ⟨some 18, none, .call false (.f 59) [(.t 12), (.t 17)]⟩, ⟨some 19, none, .ext false (.t 18) 0⟩, ⟨some 20, none, .ext false (.t 18) 1⟩, ⟨none, none, .sto (some 2) (.t 4) (.t 19)⟩, ⟨some 5, none, .mv false (.t 20)⟩] [6, 9, 13, 15] true) (.ret [.kill, .kill, .kill, .kill, .keep, .keep])
/-- at the end -/
abbrev r39_R (x4 x5 : PV) (hp : List Ent) : St := ⟨[.dead, .dead, .dead, .dead, x4, x5, .dead, .dead, .dead, .dead, .dead, .dead, .dead, .dead, .dead, .dead, .dead, .dead, .dead, .dead, .dead], hp⟩
/-- keyhole/keyholeref04.Mul -/
def r39_T : RCode := .seq (.reg [⟨some 2, none, .bx false true (.t 0)⟩, ⟨some 3, none, .bx false true (.t 1)⟩, ⟨some 4, none, .zal false [.d (.int .i64 0), .d (.int .i64 0)]⟩, ⟨some 5, none, .mv false (.c (.d (.int .i64 0)))⟩] [] false) (hold r39_K0)
def r39 : RFunc := ⟨21, true, [.cell 4 (some 2), .t 5], r39_T⟩
@[go_sem] def r10_K0 (_ : Unit) : RCode := .seq (.reg [⟨some 59, none, .mv false (.t 6)⟩, ⟨some 60, none, .bin .eql (.t 59) (.c (.d (.int .i64 1)))⟩, ⟨some 61, none, .mv false (.t 60)⟩, ⟨some 62, some (61, true), .mv false (.t 8)⟩, ⟨some 63, some (61, true), .bin .eql (.t 62) (.c (.d (.int .i64 1)))⟩, ⟨some 64, none, .pick (.t 61) (.t 63) (.c (.d (.bool false)))⟩, ⟨some 65, none, .mv false (.t 64)⟩, ⟨some 66, some (65, true), .mv false (.t 10)⟩, ⟨some 67, some (65, true), .bin .eql (.t 66) (.c (.d (.int .i64 1)))⟩, ⟨some 68, none, .pick (.t 65) (.t 67) (.c (.d (.bool false)))⟩, ⟨some 69, none, .mv false (.t 68)⟩, ⟨some 70, some (69, true), .mv false (.t 12)⟩, ⟨some 71, some (69, true), .bin .eql (.t 70) (.c (.d (.int .i64 1)))⟩, ⟨some 72, none, .pick (.t 69) (.t 71) (.c (.d (.bool false)))⟩, ⟨some 73, none, .mv false (.t 72)⟩, ⟨some 74, some (73, true), .mv false (.t 14)⟩, ⟨some 75, some (73, true), .bin .eql (.t 74) (.c (.d (.int .i64 1)))⟩, ⟨some 76, none, .pick (.t 73) (.t 75) (.c (.d (.bool false)))⟩, ⟨some 77, none, .mv false (.t 76)⟩, ⟨some 78, some (77, true), .ld false (some 2) (.t 2)⟩, ⟨some 79, some (77, true), .ld false (some 2) (.t 3)⟩, ⟨some 80, some (77, true), .call false (.f 33) [(.t 78), (.t 79)]⟩, ⟨some 81, some (77, true), .bin .eql (.t 80) (.c (.d (.int .i64 0)))⟩, ⟨some 82, none, .pick (.t 77) (.t 81) (.c (.d (.bool false)))⟩, ⟨some 83, none, .mv false (.t 82)⟩, ⟨some 84, some (83, true), .call false (.f 23) []⟩, ⟨some 85, none, .pick (.t 83) (.t 84) (.c (.d (.bool false)))⟩, ⟨some 4, none, .mv false (.t 85)⟩] [] false) (.ret [.kill, .kill, .kill, .kill, .keep])
@[go_sem] def r10_K1 (_ : Unit) : RCode := .seq (.reg [⟨some 48, none, .ld false (some 2) (.t 2)⟩, ⟨some 49, none, .ld false (some 2) (.t 3)⟩, ⟨some 50, none, .call false (.f 26) [(.t 48), (.t 49)]⟩, ⟨some 47, none, .mvt (.t 50)⟩, ⟨some 51, none, .ext false (.t 47) 0⟩, ⟨some 52, none, .ext false (.t 47) 1⟩, ⟨some 11, none, .zal false [.d (.int .i64 0), .d (.int .i64 0)]⟩, ⟨none, none, .sto (some 2) (.t 11) (.t 51)⟩, ⟨some 12, none, .mv false (.t 52)⟩] [] false) (.seq (.reg [⟨some 54, none, .ld false (some 2) (.t 2)⟩, ⟨some 55, none, .ld false (some 2) (.t 3)⟩, ⟨some 56, none, .call false (.f 28) [(.t 54), (.t 55)]⟩, ⟨some 53, none, .mvt (.t 56)⟩, ⟨some 57, none, .ext false (.t 53) 0⟩, ⟨some 58, none, .ext false (.t 53) 1⟩, ⟨some 13, none, .zal false [.d (.int .i64 0), .d (.int .i64 0)]⟩, ⟨none, none, .sto (some 2) (.t 13) (.t 57)⟩, ⟨some 14, none, .mv false (.t 58)⟩] [] false) (hold r10_K0))
@[go_sem] def r10_K2 (_ : Unit) : RCode := .seq (.reg [⟨some 104, none, .ld false (some 2) (.t 5)⟩, ⟨some 105, none, .ld false (some 2) (.t 15)⟩, ⟨some 106, none, .eqv false (.st [(0, 1, .i), (1, 1, .i)]) (.t 104) (.t 105)⟩, ⟨some 107, none, .mv false (.t 106)⟩, ⟨some 108, some (107, true), .mv false (.t 6)⟩, ⟨some 109, some (107, true), .mv false (.t 16)⟩, ⟨some 110, some (107, true), .bin .eql (.t 108) (.t 109)⟩, ⟨some 111, none, .pick (.t 107) (.t 110) (.c (.d (.bool false)))⟩, ⟨some 112, none, .mv false (.t 111)⟩, ⟨some 113, some (112, true), .ld false (some 2) (.t 7)⟩, ⟨some 114, some (112, true), .ld false (some 2) (.t 17)⟩, ⟨some 115, some (112, true), .eqv false (.st [(0, 1, .i), (1, 1, .i)]) (.t 113) (.t 114)⟩, ⟨some 116, none, .pick (.t 112) (.t 115) (.c (.d (.bool false)))⟩, ⟨some 117, none, .mv false (.t 116)⟩, ⟨some 118, some (117, true), .mv false (.t 8)⟩, ⟨some 119, some (117, true), .mv false (.t 18)⟩, ⟨some 120, some (117, true), .bin .eql (.t 118) (.t 119)⟩, ⟨some 121, none, .pick (.t 117) (.t 120) (.c (.d (.bool false)))⟩, ⟨some 122, none, .mv false (.t 121)⟩, ⟨some 123, some (122, true), .ld false (some 2) (.t 9)⟩, ⟨some 124, some (122, true), .ld false (some 2) (.t 19)⟩, ⟨some 125, some (122, true), .eqv false (.st [(0, 1, .i), (1, 1, .i)]) (.t 123) (.t 124)⟩, ⟨some 126, none, .pick (.t 122) (.t 125) (.c (.d (.bool false)))⟩, ⟨some 127, none, .mv false (.t 126)⟩, ⟨some 128, some (127, true), .mv false (.t 10)⟩, ⟨some 129, some (127, true), .mv false (.t 20)⟩, ⟨some 130, some (127, true), .bin .eql (.t 128) (.t 129)⟩, ⟨some 131, none, .pick (.t 127) (.t 130) (.c (.d (.bool false)))⟩, ⟨some 132, none, .mv false (.t 131)⟩, ⟨some 133, some (132, true), .ld false (some 2) (.t 2)⟩, ⟨some 134, some (132, true), .ld false (some 2) (.t 3)⟩, ⟨some 135, some (132, true), .call false (.f 33) [(.t 133), (.t 134)]⟩, ⟨some 136, some (132, true), .ld false (some 2) (.t 2)⟩, ⟨some 137, some (132, true), .ld false (some 2) (.t 3)⟩, ⟨some 138, some (132, true), .call false (.f 32) [(.t 136), (.t 137)]⟩, ⟨some 139, some (132, true), .bin .eql (.t 135) (.t 138)⟩, ⟨some 140, none, .pick (.t 132) (.t 139) (.c (.d (.bool false)))⟩, ⟨some 141, none, .mv false (.t 140)⟩, ⟨some 142, some (141, true), .call false (.f 23) []⟩, ⟨some 143, none, .pick (.t 141) (.t 142) (.c (.d (.bool false)))⟩, ⟨some 4, none, .mv false (.t 143)⟩] [] true) (.ret [.kill, .kill, .kill, .kill, .keep])
@[go_sem] def r10_K3 (_ : Unit) : RCode := .seq (.reg [⟨some 93, none, .ld false (some 2) (.t 2)⟩, ⟨some 94, none, .ld false (some 2) (.t 3)⟩, ⟨some 95, none, .call false (.f 30) [(.t 93), (.t 94)]⟩, ⟨some 92, none, .mvt (.t 95)⟩, ⟨some 96, none, .ext false (.t 92) 0⟩, ⟨some 97, none, .ext false (.t 92) 1⟩, ⟨some 17, none, .zal false [.d (.int .i64 0), .d (.int .i64 0)]⟩, ⟨none, none, .sto (some 2) (.t 17) (.t 96)⟩, ⟨some 18, none, .mv false (.t 97)⟩] [] false) (.seq (.reg [⟨some 99, none, .ld false (some 2) (.t 2)⟩, ⟨some 100, none, .ld false (some 2) (.t 3)⟩, ⟨some 101, none, .call false (.f 39) [(.t 99), (.t 100)]⟩, ⟨some 98, none, .mvt (.t 101)⟩, ⟨some 102, none, .ext false (.t 98) 0⟩, ⟨some 103, none, .ext false (.t 98) 1⟩, ⟨some 19, none, .zal false [.d (.int .i64 0), .d (.int .i64 0)]⟩, ⟨none, none, .sto (some 2) (.t 19) (.t 102)⟩, ⟨some 20, none, .mv false (.t 103)⟩] [] false) (hold r10_K2))
@[go_sem] def r10_K4 (_ : Unit) : RCode := .seq (.seq (.reg [⟨some 39, none, .ld false (some 2) (.t 2)⟩, ⟨some 40, none, .call false (.f 20) [(.t 39)]⟩, ⟨some 41, none, .un .not (.t 40)⟩, ⟨some 42, none, .mv false (.t 41)⟩, ⟨some 43, some (42, false), .ld false (some 2) (.t 3)⟩, ⟨some 44, some (42, false), .call false (.f 20) [(.t 43)]⟩, ⟨some 45, some (42, false), .un .not (.t 44)⟩, ⟨some 46, none, .pick (.t 42) (.c (.d (.bool true))) (.t 45)⟩] [] false) (.cond (.t 46) (hold r10_K1) (.skip))) (.seq (.reg [⟨some 87, none, .ld false (some 2) (.t 2)⟩, ⟨some 88, none, .ld false (some 2) (.t 3)⟩, ⟨some 89, none, .call false (.f 38) [(.t 87), (.t 88)]⟩, ⟨some 86, none, .mvt (.t 89)⟩, ⟨some 90, none, .ext false (.t 86) 0⟩, ⟨some 91, none, .ext false (.t 86) 1⟩, ⟨some 15, none, .zal false [.d (.int .i64 0), .d (.int .i64 0)]⟩, ⟨none, none, .sto (some 2) (.t 15) (.t 90)⟩, ⟨some 16, none, .mv false (.t 91)⟩] [] false) (hold r10_K3))
@[go_sem] def r10_K5 (_ : Unit) : RCode := .seq (.reg [⟨some 28, none, .ld false (some 2) (.t 2)⟩, ⟨some 29, none, .ld false (some 2) (.t 3)⟩, ⟨some 30, none, .call false (.f 34) [(.t 28), (.t 29)]⟩, ⟨some 27, none, .mvt (.t 30)⟩, ⟨some 31, none, .ext false (.t 27) 0⟩, ⟨some 32, none, .ext false (.t 27) 1⟩, ⟨some 7, none, .zal false [.d (.int .i64 0), .d (.int .i64 0)]⟩, ⟨none, none, .sto (some 2) (.t 7) (.t 31)⟩, ⟨some 8, none, .mv false (.t 32)⟩] [] false) (.seq (.reg [⟨some 34, none, .ld false (some 2) (.t 2)⟩, ⟨some 35, none, .ld false (some 2) (.t 3)⟩, ⟨some 36, none, .call false (.f 36) [(.t 34), (.t 35)]⟩, ⟨some 33, none, .mvt (.t 36)⟩, ⟨some 37, none, .ext false (.t 33) 0⟩, ⟨some 38, none, .ext false (.t 33) 1⟩, ⟨some 9, none, .zal false [.d (.int .i64 0), .d (.int .i64 0)]⟩, ⟨none, none, .sto (some 2) (.t 9) (.t 37)⟩, ⟨some 10, none, .mv false (.t 38)⟩] [] false) (hold r10_K4))
/-- at the end -/
abbrev r10_R (x4 : PV) (hp : List Ent) : St := ⟨[.dead, .dead, .dead, .dead, x4, .dead, .dead, .dead, .dead, .dead, .dead, .dead, .dead, .dead, .dead, .dead, .dead, .dead, .dead, .dead, .dead, .dead, .dead, .dead, .dead, .dead, .dead, .dead, .dead, .dead, .dead, .dead, .dead, .dead, .dead, .dead, .dead, .dead, .dead, .dead, .dead, .dead, .dead, .dead, .dead, .dead, .dead, .dead, .dead, .dead, .dead, .dead, .dead, .dead, .dead, .dead, .dead, .dead, .dead, .dead, .dead, .dead, .dead, .dead, .dead, .dead, .dead, .dead, .dead, .dead, .dead, .dead, .dead, .dead, .dead, .dead, .dead, .dead, .dead, .dead, .dead, .dead, .dead, .dead, .dead, .dead, .dead, .dead, .dead, .dead, .dead, .dead, .dead, .dead, .dead, .dead, .dead, .dead, .dead, .dead, .dead, .dead, .dead, .dead, .dead, .dead, .dead, .dead, .dead, .dead, .dead, .dead, .dead, .dead, .dead, .dead, .dead, .dead, .dead, .dead, .dead, .dead, .dead, .dead, .dead, .dead, .dead, .dead, .dead, .dead, .dead, .dead, .dead, .dead, .dead, .dead, .dead, .dead, .dead, .dead, .dead, .dead, .dead, .dead], hp⟩
/-- keyhole/keyholelaw04.NumSums -/
def r10_T : RCode := .seq (.reg [⟨some 2, none, .bx false true (.t 0)⟩, ⟨some 3, none, .bx false true (.t 1)⟩, ⟨some 4, none, .mv false (.c (.d (.bool false)))⟩] [] false) (.seq (.reg [⟨some 22, none, .ld false (some 2) (.t 2)⟩, ⟨some 23, none, .ld false (some 2) (.t 3)⟩, ⟨some 24, none, .call false (.f 35) [(.t 22), (.t 23)]⟩, ⟨some 21, none, .mvt (.t 24)⟩, ⟨some 25, none, .ext false (.t 21) 0⟩, ⟨some 26, none, .ext false (.t 21) 1⟩, ⟨some 5, none, .zal false [.d (.int .i64 0), .d (.int .i64 0)]⟩, ⟨none, none, .sto (some 2) (.t 5) (.t 25)⟩, ⟨some 6, none, .mv false (.t 26)⟩] [] false) (hold r10_K5))
def r10 : RFunc := ⟨144, true, [.t 4], r10_T⟩
def tl : Tabl := [(19, r19), (16, r16), (43, r43), (44, r44), (17, r17), (18, r18), (20, r20), (45, r45), (46, r46), (64, r64), (90, r90), (73, r73), (91, r91), (74, r74), (77, r77), (47, r47), (21, r21), (22, r22), (79, r79), (48, r48), (80, r80), (81, r81), (49, r49), (94, r94), (82, r82), (50, r50), (24, r24), (51, r51), (52, r52), (53, r53), (54, r54), (55, r55), (26, r26), (23, r23), (4, r4), (25, r25), (5, r5), (56, r56), (57, r57), (58, r58), (59, r59), (27, r27), (28, r28), (60, r60), (29, r29), (83, r83), (61, r61), (30, r30), (31, r31), (32, r32), (6, r6), (62, r62), (33, r33), (63, r63), (35, r35), (34, r34), (7, r7), (108, r108), (98, r98), (84, r84), (65, r65), (36, r36), (37, r37), (8, r8), (9, r9), (38, r38), (66, r66), (39, r39), (10, r10)]
def pl : List (Nat × (List PV → Option PV)) := []
def pf : Nat → Bool := pfOf tl []
def ml : List (Nat × (List PV → Option (List D))) := []
def tab : Nat → Option FnD := tabOf tl pl ml
theorem pf_ok : PfOk pf tab := tabOf_pf tl pl ml _ rfl
theorem pl_ok : ∀ p ∈ pl, PrimSound Go.Proofs.Tryd.prog p.1 p.2 := by
  intro p hp
  simp only [pl, List.mem_cons, List.not_mem_nil, or_false] at hp

theorem ml_ok : ∀ p ∈ ml, MkSound Go.Proofs.Tryd.prog p.1 p.2 := by
  intro p hp
  simp only [ml, List.mem_cons, List.not_mem_nil, or_false] at hp

theorem all_ok : tabAll Go.Proofs.Tryd.prog pf tl = true := by kernel_rfl
theorem t19 : tab 19 = some (.code r19) := rfl
theorem f19 {a0 : PV} {hp : List Ent} {out : Out} (hh : PV.hfrees [a0] = true) (h : fnEnd r19 hp (V (F tab) r19_T ⟨[a0, .dead, .dead, .dead, .dead, .dead, .dead, .dead, .dead, .dead, .dead, .dead, .dead, .dead, .dead, .dead, .dead, .dead, .dead, .dead, .dead, .dead, .dead, .dead, .dead, .dead, .dead, .dead, .dead, .dead], []⟩) = some out) : F tab 19 [a0] hp = some out := F_code t19 (by rw [hh]; rfl) h
theorem t16 : tab 16 = some (.code r16) := rfl
theorem f16 {a0 a1 : PV} {hp : List Ent} {out : Out} (hh : PV.hfrees [a0, a1] = true) (h : fnEnd r16 hp (V (F tab) r16_T ⟨[a0, a1, .dead, .dead, .dead, .dead, .dead, .dead, .dead, .dead, .dead, .dead, .dead, .dead, .dead, .dead, .dead, .dead, .dead, .dead, .dead, .dead, .dead, .dead, .dead, .dead, .dead, .dead, .dead, .dead, .dead, .dead, .dead], []⟩) = some out) : F tab 16 [a0, a1] hp = some out := F_code t16 (by rw [hh]; rfl) h
theorem t43 : tab 43 = some (.code r43) := rfl
theorem f43 {a0 : PV} {hp : List Ent} {out : Out} (hh : PV.hfrees [a0] = true) (h : fnEnd r43 hp (V (F tab) r43_T ⟨[a0, .dead, .dead, .dead, .dead, .dead, .dead, .dead, .dead, .dead, .dead, .dead, .dead, .dead, .dead, .dead, .dead, .dead, .dead, .dead, .dead, .dead, .dead, .dead, .dead, .dead, .dead, .dead, .dead], []⟩) = some out) : F tab 43 [a0] hp = some out := F_code t43 (by rw [hh]; rfl) h
theorem t44 : tab 44 = some (.code r44) := rfl
theorem f44 {a0 a1 : PV} {hp : List Ent} {out : Out} (hh : PV.hfrees [a0, a1] = true) (h : fnEnd r44 hp (V (F tab) r44_T ⟨[a0, a1, .dead, .dead, .dead, .dead, .dead, .dead, .dead, .dead, .dead, .dead, .dead, .dead, .dead, .dead, .dead, .dead, .dead, .dead, .dead, .dead, .dead, .dead], []⟩) = some out) : F tab 44 [a0, a1] hp = some out := F_code t44 (by rw [hh]; rfl) h
theorem t17 : tab 17 = some (.code r17) := rfl
theorem f17 {a0 a1 : PV} {hp : List Ent} {out : Out} (hh : PV.hfrees [a0, a1] = true) (h : fnEnd r17 hp (V (F tab) r17_T ⟨[a0, a1, .dead, .dead, .dead, .dead, .dead, .dead, .dead, .dead, .dead, .dead, .dead, .dead, .dead, .dead, .dead, .dead, .dead, .dead, .dead, .dead, .dead, .dead, .dead, .dead, .dead, .dead, .dead, .dead, .dead, .dead, .dead, .dead, .dead, .dead, .dead, .dead, .dead, .dead, .dead, .dead, .dead, .dead, .dead, .dead, .dead, .dead, .dead, .dead, .dead, .dead, .dead, .dead, .dead, .dead, .dead, .dead, .dead, .dead, .dead, .dead, .dead, .dead, .dead, .dead, .dead, .dead, .dead, .dead, .dead, .dead, .dead, .dead], []⟩) = some out) : F tab 17 [a0, a1] hp = some out := F_code t17 (by rw [hh]; rfl) h
theorem t18 : tab 18 = some (.code r18) := rfl
theorem f18 {a0 : PV} {hp : List Ent} {out : Out} (hh : PV.hfrees [a0] = true) (h : fnEnd r18 hp (V (F tab) r18_T ⟨[a0, .dead, .dead, .dead, .dead, .dead, .dead, .dead, .dead, .dead, .dead, .dead, .dead, .dead, .dead, .dead, .dead, .dead, .dead, .dead, .dead, .dead, .dead, .dead, .dead], []⟩) = some out) : F tab 18 [a0] hp = some out := F_code t18 (by rw [hh]; rfl) h
theorem t20 : tab 20 = some (.code r20) := rfl
theorem f20 {a0 : PV} {hp : List Ent} {out : Out} (hh : PV.hfrees [a0] = true) (h : fnEnd r20 hp (V (F tab) r20_T ⟨[a0, .dead, .dead, .dead, .dead, .dead, .dead, .dead, .dead, .dead, .dead, .dead, .dead, .dead, .dead, .dead, .dead, .dead, .dead, .dead, .dead, .dead, .dead, .dead, .dead, .dead, .dead, .dead, .dead, .dead], []⟩) = some out) : F tab 20 [a0] hp = some out := F_code t20 (by rw [hh]; rfl) h
theorem t45 : tab 45 = some (.code r45) := rfl
theorem f45 {a0 : PV} {hp : List Ent} {out : Out} (hh : PV.hfrees [a0] = true) (h : fnEnd r45 hp (V (F tab) r45_T ⟨[a0, .dead, .dead, .dead, .dead, .dead, .dead, .dead, .dead, .dead, .dead], []⟩) = some out) : F tab 45 [a0] hp = some out := F_code t45 (by rw [hh]; rfl) h
theorem t46 : tab 46 = some (.code r46) := rfl
theorem f46 {a0 : PV} {hp : List Ent} {out : Out} (hh : PV.hfrees [a0] = true) (h : fnEnd r46 hp (V (F tab) r46_T ⟨[a0, .dead, .dead, .dead, .dead, .dead, .dead, .dead, .dead, .dead, .dead, .dead, .dead, .dead, .dead, .dead, .dead, .dead, .dead], []⟩) = some out) : F tab 46 [a0] hp = some out := F_code t46 (by rw [hh]; rfl) h
theorem t64 : tab 64 = some (.code r64) := rfl
theorem f64 {a0 a1 : PV} {hp : List Ent} {out : Out} (hh : PV.hfrees [a0, a1] = true) (h : fnEnd r64 hp (V (F tab) r64_T ⟨[a0, a1, .dead, .dead, .dead, .dead, .dead, .dead, .dead, .dead, .dead, .dead, .dead, .dead, .dead, .dead, .dead, .dead, .dead, .dead, .dead, .dead, .dead, .dead, .dead, .dead, .dead, .dead, .dead, .dead, .dead, .dead, .dead, .dead, .dead, .dead, .dead, .dead, .dead, .dead, .dead, .dead, .dead, .dead, .dead, .dead, .dead, .dead, .dead, .dead, .dead], []⟩) = some out) : F tab 64 [a0, a1] hp = some out := F_code t64 (by rw [hh]; rfl) h
theorem t90 : tab 90 = some (.code r90) := rfl
theorem f90 {a0 a1 : PV} {hp : List Ent} {out : Out} (hh : PV.hfrees [a0, a1] = true) (h : fnEnd r90 hp (V (F tab) r90_T ⟨[a0, a1, .dead, .dead, .dead, .dead, .dead, .dead, .dead, .dead, .dead, .dead, .dead, .dead, .dead, .dead, .dead], []⟩) = some out) : F tab 90 [a0, a1] hp = some out := F_code t90 (by rw [hh]; rfl) h
theorem t73 : tab 73 = some (.code r73) := rfl
theorem f73 {a0 a1 : PV} {hp : List Ent} {out : Out} (hh : PV.hfrees [a0, a1] = true) (h : fnEnd r73 hp (V (F tab) r73_T ⟨[a0, a1, .dead, .dead, .dead, .dead, .dead, .dead, .dead, .dead, .dead, .dead, .dead, .dead, .dead, .dead, .dead, .dead, .dead, .dead, .dead, .dead, .dead, .dead, .dead, .dead, .dead, .dead, .dead, .dead], []⟩) = some out) : F tab 73 [a0, a1] hp = some out := F_code t73 (by rw [hh]; rfl) h
theorem t91 : tab 91 = some (.code r91) := rfl
theorem f91 {a0 a1 : PV} {hp : List Ent} {out : Out} (hh : PV.hfrees [a0, a1] = true) (h : fnEnd r91 hp (V (F tab) r91_T ⟨[a0, a1, .dead, .dead, .dead, .dead, .dead, .dead, .dead, .dead, .dead, .dead, .dead, .dead, .dead, .dead, .dead, .dead], []⟩) = some out) : F tab 91 [a0, a1] hp = some out := F_code t91 (by rw [hh]; rfl) h
theorem t74 : tab 74 = some (.code r74) := rfl
theorem f74 {a0 a1 : PV} {hp : List Ent} {out : Out} (hh : PV.hfrees [a0, a1] = true) (h : fnEnd r74 hp (V (F tab) r74_T ⟨[a0, a1, .dead, .dead, .dead, .dead, .dead, .dead], []⟩) = some out) : F tab 74 [a0, a1] hp = some out := F_code t74 (by rw [hh]; rfl) h
theorem t77 : tab 77 = some (.code r77) := rfl
theorem f77 {a0 : PV} {hp : List Ent} {out : Out} (h : fnEnd r77 hp (V (F tab) r77_T ⟨[a0, .dead, .dead, .dead, .dead, .dead, .dead, .dead], hp⟩) = some out) : F tab 77 [a0] hp = some out := F_code t77 rfl h
theorem t47 : tab 47 = some (.code r47) := rfl
theorem f47 {a0 a1 : PV} {hp : List Ent} {out : Out} (hh : PV.hfrees [a0, a1] = true) (h : fnEnd r47 hp (V (F tab) r47_T ⟨[a0, a1, .dead, .dead, .dead, .dead, .dead, .dead, .dead, .dead, .dead, .dead, .dead, .dead, .dead, .dead, .dead, .dead, .dead, .dead, .dead, .dead, .dead, .dead, .dead, .dead, .dead, .dead, .dead, .dead, .dead, .dead, .dead, .dead, .dead, .dead, .dead, .dead, .dead, .dead, .dead, .dead, .dead, .dead, .dead, .dead, .dead, .dead, .dead, .dead, .dead, .dead, .dead, .dead, .dead, .dead, .dead, .dead, .dead, .dead, .dead, .dead, .dead, .dead, .dead, .dead, .dead, .dead, .dead, .dead, .dead, .dead, .dead, .dead, .dead, .dead, .dead, .dead, .dead, .dead, .dead, .dead, .dead, .dead, .dead, .dead, .dead, .dead, .dead, .dead, .dead, .dead, .dead, .dead, .dead, .dead, .dead, .dead, .dead, .dead, .dead, .dead, .dead, .dead, .dead, .dead, .dead, .dead, .dead, .dead, .dead, .dead, .dead, .dead, .dead, .dead, .dead, .dead, .dead, .dead, .dead, .dead, .dead, .dead, .dead], []⟩) = some out) : F tab 47 [a0, a1] hp = some out := F_code t47 (by rw [hh]; rfl) h
theorem t21 : tab 21 = some (.code r21) := rfl
theorem f21 {a0 : PV} {hp : List Ent} {out : Out} (hh : PV.hfrees [a0] = true) (h : fnEnd r21 hp (V (F tab) r21_T ⟨[a0, .dead, .dead, .dead, .dead, .dead, .dead, .dead, .dead, .dead, .dead, .dead, .dead, .dead, .dead, .dead, .dead, .dead, .dead, .dead, .dead, .dead, .dead, .dead, .dead, .dead, .dead, .dead, .dead, .dead, .dead, .dead, .dead, .dead, .dead, .dead, .dead, .dead, .dead, .dead, .dead, .dead, .dead, .dead], []⟩) = some out) : F tab 21 [a0] hp = some out := F_code t21 (by rw [hh]; rfl) h
theorem t22 : tab 22 = some (.code r22) := rfl
theorem f22 {a0 : PV} {hp : List Ent} {out : Out} (hh : PV.hfrees [a0] = true) (h : fnEnd r22 hp (V (F tab) r22_T ⟨[a0, .dead, .dead, .dead, .dead, .dead, .dead, .dead, .dead, .dead, .dead, .dead, .dead, .dead, .dead, .dead, .dead, .dead, .dead, .dead, .dead, .dead, .dead, .dead, .dead, .dead, .dead, .dead, .dead, .dead, .dead, .dead, .dead, .dead, .dead, .dead, .dead, .dead, .dead, .dead, .dead, .dead, .dead, .dead, .dead, .dead, .dead, .dead, .dead, .dead, .dead, .dead, .dead, .dead, .dead, .dead, .dead, .dead], []⟩) = some out) : F tab 22 [a0] hp = some out := F_code t22 (by rw [hh]; rfl) h
theorem t79 : tab 79 = some (.code r79) := rfl
theorem f79 {a0 a1 : PV} {hp : List Ent} {out : Out} (hh : PV.hfrees [a0, a1] = true) (h : fnEnd r79 hp (V (F tab) r79_T ⟨[a0, a1, .dead, .dead, .dead, .dead, .dead, .dead, .dead, .dead, .dead, .dead, .dead], []⟩) = some out) : F tab 79 [a0, a1] hp = some out := F_code t79 (by rw [hh]; rfl) h
theorem t48 : tab 48 = some (.code r48) := rfl
theorem f48 {a0 a1 : PV} {hp : List Ent} {out : Out} (hh : PV.hfrees [a0, a1] = true) (h : fnEnd r48 hp (V (F tab) r48_T ⟨[a0, a1, .dead, .dead, .dead, .dead, .dead, .dead], []⟩) = some out) : F tab 48 [a0, a1] hp = some out := F_code t48 (by rw [hh]; rfl) h
theorem t80 : tab 80 = some (.code r80) := rfl
theorem f80 {a0 : PV} {hp : List Ent} {out : Out} (hh : PV.hfrees [a0] = true) (h : fnEnd r80 hp (V (F tab) r80_T ⟨[a0, .dead, .dead, .dead, .dead, .dead, .dead, .dead, .dead, .dead, .dead, .dead, .dead, .dead, .dead, .dead, .dead, .dead, .dead, .dead, .dead, .dead, .dead, .dead, .dead, .dead, .dead, .dead, .dead], []⟩) = some out) : F tab 80 [a0] hp = some out := F_code t80 (by rw [hh]; rfl) h
theorem t81 : tab 81 = some (.code r81) := rfl
theorem f81 {a0 : PV} {hp : List Ent} {out : Out} (hh : PV.hfrees [a0] = true) (h : fnEnd r81 hp (V (F tab) r81_T ⟨[a0, .dead, .dead, .dead, .dead, .dead, .dead, .dead, .dead, .dead, .dead, .dead, .dead, .dead, .dead, .dead, .dead, .dead, .dead, .dead, .dead, .dead, .dead, .dead, .dead, .dead, .dead, .dead, .dead, .dead, .dead, .dead, .dead, .dead, .dead, .dead, .dead, .dead, .dead, .dead, .dead, .dead, .dead, .dead, .dead, .dead, .dead, .dead, .dead, .dead, .dead, .dead, .dead, .dead, .dead, .dead, .dead, .dead, .dead, .dead, .dead, .dead, .dead, .dead], []⟩) = some out) : F tab 81 [a0] hp = some out := F_code t81 (by rw [hh]; rfl) h
theorem t49 : tab 49 = some (.code r49) := rfl
theorem f49 {a0 : PV} {hp : List Ent} {out : Out} (hh : PV.hfrees [a0] = true) (h : fnEnd r49 hp (V (F tab) r49_T ⟨[a0, .dead, .dead, .dead, .dead, .dead, .dead, .dead, .dead, .dead, .dead, .dead, .dead, .dead, .dead, .dead, .dead, .dead, .dead, .dead, .dead, .dead, .dead, .dead, .dead, .dead, .dead, .dead, .dead, .dead, .dead, .dead, .dead, .dead, .dead, .dead, .dead, .dead, .dead, .dead, .dead, .dead, .dead, .dead, .dead, .dead, .dead, .dead, .dead, .dead, .dead, .dead, .dead, .dead, .dead, .dead, .dead], []⟩) = some out) : F tab 49 [a0] hp = some out := F_code t49 (by rw [hh]; rfl) h
theorem t94 : tab 94 = some (.code r94) := rfl
theorem f94 {a0 a1 : PV} {hp : List Ent} {out : Out} (hh : PV.hfrees [a0, a1] = true) (h : fnEnd r94 hp (V (F tab) r94_T ⟨[a0, a1, .dead, .dead, .dead, .dead, .dead, .dead, .dead, .dead, .dead, .dead, .dead, .dead, .dead, .dead, .dead], []⟩) = some out) : F tab 94 [a0, a1] hp = some out := F_code t94 (by rw [hh]; rfl) h
theorem t82 : tab 82 = some (.code r82) := rfl
theorem f82 {a0 a1 : PV} {hp : List Ent} {out : Out} (hh : PV.hfrees [a0, a1] = true) (h : fnEnd r82 hp (V (F tab) r82_T ⟨[a0, a1, .dead, .dead, .dead, .dead, .dead, .dead, .dead, .dead, .dead, .dead, .dead, .dead, .dead, .dead, .dead, .dead, .dead, .dead, .dead, .dead, .dead, .dead, .dead, .dead, .dead, .dead, .dead, .dead, .dead, .dead, .dead, .dead, .dead, .dead, .dead], []⟩) = some out) : F tab 82 [a0, a1] hp = some out := F_code t82 (by rw [hh]; rfl) h
theorem t50 : tab 50 = some (.code r50) := rfl
theorem f50 {a0 a1 : PV} {hp : List Ent} {out : Out} (hh : PV.hfrees [a0, a1] = true) (h : fnEnd r50 hp (V (F tab) r50_T ⟨[a0, a1, .dead, .dead, .dead, .dead, .dead, .dead, .dead, .dead, .dead, .dead, .dead, .dead, .dead, .dead, .dead, .dead, .dead, .dead, .dead, .dead, .dead, .dead, .dead, .dead, .dead, .dead, .dead, .dead, .dead, .dead, .dead, .dead, .dead, .dead, .dead, .dead, .dead, .dead, .dead, .dead, .dead, .dead, .dead, .dead, .dead, .dead, .dead, .dead, .dead, .dead, .dead, .dead, .dead, .dead, .dead, .dead, .dead, .dead, .dead, .dead, .dead, .dead, .dead, .dead, .dead, .dead, .dead, .dead, .dead, .dead], []⟩) = some out) : F tab 50 [a0, a1] hp = some out := F_code t50 (by rw [hh]; rfl) h
theorem t24 : tab 24 = some (.code r24) := rfl
theorem f24 {a0 : PV} {hp : List Ent} {out : Out} (hh : PV.hfrees [a0] = true) (h : fnEnd r24 hp (V (F tab) r24_T ⟨[a0, .dead, .dead, .dead, .dead, .dead, .dead, .dead, .dead, .dead, .dead, .dead, .dead, .dead, .dead, .dead, .dead, .dead, .dead, .dead, .dead, .dead, .dead, .dead, .dead, .dead, .dead, .dead, .dead, .dead, .dead, .dead, .dead, .dead, .dead, .dead, .dead, .dead, .dead, .dead, .dead, .dead, .dead, .dead, .dead], []⟩) = some out) : F tab 24 [a0] hp = some out := F_code t24 (by rw [hh]; rfl) h
theorem t51 : tab 51 = some (.code r51) := rfl
theorem f51 {a0 a1 : PV} {hp : List Ent} {out : Out} (hh : PV.hfrees [a0, a1] = true) (h : fnEnd r51 hp (V (F tab) r51_T ⟨[a0, a1, .dead, .dead, .dead, .dead, .dead, .dead, .dead, .dead, .dead], []⟩) = some out) : F tab 51 [a0, a1] hp = some out := F_code t51 (by rw [hh]; rfl) h
theorem t52 : tab 52 = some (.code r52) := rfl
theorem f52 {a0 a1 : PV} {hp : List Ent} {out : Out} (hh : PV.hfrees [a0, a1] = true) (h : fnEnd r52 hp (V (F tab) r52_T ⟨[a0, a1, .dead, .dead, .dead, .dead, .dead, .dead, .dead, .dead, .dead, .dead], []⟩) = some out) : F tab 52 [a0, a1] hp = some out := F_code t52 (by rw [hh]; rfl) h
theorem t53 : tab 53 = some (.code r53) := rfl
theorem f53 {a0 : PV} {hp : List Ent} {out : Out} (hh : PV.hfrees [a0] = true) (h : fnEnd r53 hp (V (F tab) r53_T ⟨[a0, .dead, .dead, .dead, .dead, .dead, .dead, .dead, .dead, .dead], []⟩) = some out) : F tab 53 [a0] hp = some out := F_code t53 (by rw [hh]; rfl) h
theorem t54 : tab 54 = some (.code r54) := rfl
theorem f54 {a0 a1 : PV} {hp : List Ent} {out : Out} (hh : PV.hfrees [a0, a1] = true) (h : fnEnd r54 hp (V (F tab) r54_T ⟨[a0, a1, .dead, .dead, .dead, .dead, .dead, .dead, .dead, .dead, .dead, .dead, .dead, .dead, .dead, .dead, .dead, .dead], []⟩) = some out) : F tab 54 [a0, a1] hp = some out := F_code t54 (by rw [hh]; rfl) h
theorem t55 : tab 55 = some (.code r55) := rfl
theorem f55 {a0 a1 a2 : PV} {hp : List Ent} {out : Out} (hh : PV.hfrees [a0, a1, a2] = true) (h : fnEnd r55 hp (V (F tab) r55_T ⟨[a0, a1, a2, .dead, .dead, .dead, .dead, .dead, .dead, .dead, .dead, .dead, .dead, .dead, .dead, .dead, .dead, .dead, .dead, .dead], []⟩) = some out) : F tab 55 [a0, a1, a2] hp = some out := F_code t55 (by rw [hh]; rfl) h
theorem t26 : tab 26 = some (.code r26) := rfl
theorem f26 {a0 a1 : PV} {hp : List Ent} {out : Out} (hh : PV.hfrees [a0, a1] = true) (h : fnEnd r26 hp (V (F tab) r26_T ⟨[a0, a1, .dead, .dead, .dead, .dead, .dead, .dead, .dead, .dead, .dead, .dead, .dead, .dead, .dead, .dead, .dead, .dead, .dead, .dead, .dead, .dead, .dead, .dead, .dead, .dead, .dead, .dead, .dead, .dead, .dead, .dead, .dead, .dead, .dead, .dead, .dead, .dead, .dead, .dead, .dead, .dead, .dead, .dead, .dead, .dead, .dead, .dead, .dead, .dead, .dead, .dead, .dead, .dead, .dead, .dead, .dead, .dead, .dead, .dead, .dead, .dead, .dead, .dead, .dead, .dead, .dead, .dead, .dead, .dead, .dead, .dead, .dead, .dead, .dead, .dead, .dead, .dead, .dead, .dead, .dead, .dead, .dead, .dead, .dead, .dead, .dead, .dead, .dead, .dead, .dead, .dead, .dead, .dead, .dead, .dead, .dead, .dead, .dead, .dead, .dead, .dead, .dead, .dead, .dead, .dead, .dead, .dead, .dead, .dead, .dead, .dead, .dead, .dead, .dead, .dead, .dead, .dead, .dead, .dead, .dead, .dead, .dead], []⟩) = some out) : F tab 26 [a0, a1] hp = some out := F_code t26 (by rw [hh]; rfl) h
theorem t23 : tab 23 = some (.code r23) := rfl
theorem f23 {hp : List Ent} {out : Out} (hh : PV.hfrees [] = true) (h : fnEnd r23 hp (V (F tab) r23_T ⟨[.dead, .dead, .dead, .dead, .dead, .dead, .dead, .dead, .dead, .dead, .dead, .dead, .dead, .dead, .dead, .dead, .dead, .dead, .dead, .dead, .dead, .dead, .dead, .dead, .dead, .dead, .dead, .dead, .dead, .dead, .dead, .dead, .dead, .dead, .dead, .dead, .dead, .dead, .dead, .dead, .dead], []⟩) = some out) : F tab 23 [] hp = some out := F_code t23 (by rw [hh]; rfl) h
theorem t4 : tab 4 = some (.code r4) := rfl
theorem f4 {a0 a1 a2 : PV} {hp : List Ent} {out : Out} (hh : PV.hfrees [a0, a1, a2] = true) (h : fnEnd r4 hp (V (F tab) r4_T ⟨[a0, a1, a2, .dead, .dead, .dead, .dead, .dead, .dead, .dead, .dead, .dead, .dead, .dead, .dead, .dead, .dead, .dead, .dead, .dead, .dead, .dead, .dead, .dead, .dead, .dead, .dead, .dead, .dead, .dead, .dead, .dead, .dead, .dead, .dead, .dead, .dead, .dead, .dead, .dead, .dead, .dead, .dead, .dead, .dead, .dead, .dead, .dead, .dead, .dead, .dead, .dead, .dead, .dead, .dead, .dead, .dead, .dead, .dead, .dead, .dead, .dead, .dead, .dead], []⟩) = some out) : F tab 4 [a0, a1, a2] hp = some out := F_code t4 (by rw [hh]; rfl) h
theorem t25 : tab 25 = some (.code r25) := rfl
theorem f25 {a0 : PV} {hp : List Ent} {out : Out} (hh : PV.hfrees [a0] = true) (h : fnEnd r25 hp (V (F tab) r25_T ⟨[a0, .dead, .dead, .dead, .dead, .dead, .dead, .dead, .dead, .dead, .dead, .dead, .dead, .dead, .dead, .dead, .dead, .dead, .dead, .dead, .dead, .dead, .dead, .dead, .dead, .dead, .dead, .dead, .dead, .dead, .dead, .dead, .dead, .dead, .dead, .dead, .dead, .dead, .dead, .dead, .dead, .dead, .dead, .dead, .dead, .dead, .dead, .dead, .dead, .dead, .dead, .dead, .dead, .dead, .dead, .dead, .dead, .dead, .dead, .dead, .dead, .dead, .dead, .dead, .dead, .dead, .dead, .dead, .dead, .dead, .dead, .dead, .dead, .dead, .dead, .dead, .dead, .dead, .dead, .dead, .dead, .dead, .dead, .dead, .dead, .dead, .dead, .dead, .dead, .dead, .dead, .dead, .dead, .dead, .dead, .dead, .dead, .dead, .dead, .dead, .dead, .dead, .dead, .dead, .dead, .dead, .dead, .dead, .dead, .dead, .dead, .dead, .dead, .dead, .dead, .dead, .dead, .dead, .dead, .dead, .dead, .dead, .dead, .dead, .dead, .dead, .dead, .dead, .dead, .dead, .dead, .dead, .dead, .dead, .dead, .dead, .dead, .dead, .dead, .dead, .dead, .dead, .dead, .dead, .dead, .dead, .dead, .dead, .dead, .dead, .dead, .dead, .dead, .dead, .dead, .dead, .dead, .dead, .dead, .dead, .dead, .dead, .dead, .dead, .dead, .dead, .dead, .dead, .dead, .dead, .dead, .dead, .dead, .dead, .dead, .dead, .dead, .dead, .dead, .dead, .dead, .dead, .dead, .dead, .dead, .dead, .dead, .dead, .dead, .dead, .dead, .dead, .dead, .dead, .dead, .dead, .dead, .dead, .dead, .dead, .dead, .dead, .dead, .dead, .dead, .dead, .dead, .dead, .dead, .dead, .dead, .dead, .dead, .dead, .dead, .dead, .dead, .dead, .dead, .dead, .dead, .dead, .dead, .dead, .dead, .dead, .dead, .dead, .dead, .dead, .dead, .dead, .dead, .dead, .dead, .dead, .dead, .dead, .dead, .dead, .dead, .dead, .dead, .dead, .dead, .dead, .dead, .dead, .dead, .dead, .dead, .dead, .dead], []⟩) = some out) : F tab 25 [a0] hp = some out := F_code t25 (by rw [hh]; rfl) h
theorem t5 : tab 5 = some (.code r5) := rfl
theorem f5 {a0 : PV} {hp : List Ent} {out : Out} (hh : PV.hfrees [a0] = true) (h : fnEnd r5 hp (V (F tab) r5_T ⟨[a0, .dead, .dead, .dead, .dead, .dead, .dead, .dead, .dead, .dead, .dead, .dead, .dead, .dead, .dead, .dead, .dead, .dead, .dead, .dead, .dead, .dead, .dead, .dead, .dead, .dead, .dead, .dead, .dead, .dead, .dead, .dead], []⟩) = some out) : F tab 5 [a0] hp = some out := F_code t5 (by rw [hh]; rfl) h
theorem t56 : tab 56 = some (.code r56) := rfl
theorem f56 {a0 a1 : PV} {hp : List Ent} {out : Out} (hh : PV.hfrees [a0, a1] = true) (h : fnEnd r56 hp (V (F tab) r56_T ⟨[a0, a1, .dead, .dead, .dead, .dead, .dead, .dead, .dead, .dead, .dead, .dead, .dead, .dead, .dead, .dead, .dead, .dead, .dead, .dead, .dead, .dead, .dead, .dead, .dead, .dead, .dead, .dead, .dead, .dead, .dead, .dead, .dead], []⟩) = some out) : F tab 56 [a0, a1] hp = some out := F_code t56 (by rw [hh]; rfl) h
theorem t57 : tab 57 = some (.code r57) := rfl
theorem f57 {a0 a1 : PV} {hp : List Ent} {out : Out} (hh : PV.hfrees [a0, a1] = true) (h : fnEnd r57 hp (V (F tab) r57_T ⟨[a0, a1, .dead, .dead, .dead, .dead, .dead, .dead, .dead, .dead, .dead, .dead, .dead, .dead, .dead, .dead, .dead, .dead, .dead, .dead, .dead, .dead, .dead, .dead, .dead, .dead, .dead, .dead, .dead, .dead, .dead, .dead, .dead, .dead, .dead, .dead, .dead, .dead, .dead, .dead, .dead], []⟩) = some out) : F tab 57 [a0, a1] hp = some out := F_code t57 (by rw [hh]; rfl) h
theorem t58 : tab 58 = some (.code r58) := rfl
theorem f58 {a0 a1 : PV} {hp : List Ent} {out : Out} (hh : PV.hfrees [a0, a1] = true) (h : fnEnd r58 hp (V (F tab) r58_T ⟨[a0, a1, .dead, .dead, .dead, .dead, .dead, .dead, .dead, .dead, .dead, .dead, .dead, .dead, .dead, .dead, .dead, .dead, .dead, .dead, .dead, .dead, .dead, .dead, .dead, .dead, .dead, .dead, .dead, .dead, .dead, .dead, .dead, .dead, .dead, .dead, .dead, .dead, .dead, .dead], []⟩) = some out) : F tab 58 [a0, a1] hp = some out := F_code t58 (by rw [hh]; rfl) h
theorem t59 : tab 59 = some (.code r59) := rfl
theorem f59 {a0 a1 : PV} {hp : List Ent} {out : Out} (hh : PV.hfrees [a0, a1] = true) (h : fnEnd r59 hp (V (F tab) r59_T ⟨[a0, a1, .dead, .dead, .dead, .dead, .dead, .dead, .dead, .dead, .dead, .dead, .dead, .dead, .dead, .dead, .dead, .dead], []⟩) = some out) : F tab 59 [a0, a1] hp = some out := F_code t59 (by rw [hh]; rfl) h
theorem t27 : tab 27 = some (.code r27) := rfl
theorem f27 {a0 a1 : PV} {hp : List Ent} {out : Out} (hh : PV.hfrees [a0, a1] = true) (h : fnEnd r27 hp (V (F tab) r27_T ⟨[a0, a1, .dead, .dead, .dead, .dead, .dead, .dead, .dead, .dead, .dead, .dead, .dead, .dead, .dead, .dead, .dead, .dead, .dead, .dead, .dead, .dead, .dead, .dead, .dead, .dead, .dead, .dead, .dead, .dead, .dead, .dead, .dead, .dead, .dead, .dead, .dead, .dead, .dead, .dead, .dead, .dead, .dead, .dead, .dead, .dead, .dead, .dead, .dead, .dead, .dead, .dead, .dead, .dead, .dead, .dead, .dead, .dead, .dead, .dead, .dead, .dead, .dead, .dead, .dead, .dead, .dead, .dead, .dead, .dead, .dead, .dead, .dead, .dead, .dead, .dead, .dead, .dead, .dead, .dead, .dead, .dead, .dead, .dead, .dead, .dead, .dead, .dead, .dead, .dead, .dead, .dead, .dead, .dead], []⟩) = some out) : F tab 27 [a0, a1] hp = some out := F_code t27 (by rw [hh]; rfl) h
theorem t28 : tab 28 = some (.code r28) := rfl
theorem f28 {a0 a1 : PV} {hp : List Ent} {out : Out} (hh : PV.hfrees [a0, a1] = true) (h : fnEnd r28 hp (V (F tab) r28_T ⟨[a0, a1, .dead, .dead, .dead, .dead, .dead, .dead, .dead, .dead, .dead, .dead, .dead, .dead, .dead, .dead, .dead, .dead, .dead, .dead, .dead, .dead, .dead, .dead, .dead, .dead, .dead, .dead, .dead, .dead, .dead, .dead, .dead, .dead, .dead], []⟩) = some out) : F tab 28 [a0, a1] hp = some out := F_code t28 (by rw [hh]; rfl) h
theorem t60 : tab 60 = some (.code r60) := rfl
theorem f60 {a0 : PV} {hp : List Ent} {out : Out} (hh : PV.hfrees [a0] = true) (h : fnEnd r60 hp (V (F tab) r60_T ⟨[a0, .dead, .dead, .dead, .dead, .dead, .dead, .dead, .dead, .dead, .dead, .dead, .dead, .dead, .dead, .dead, .dead, .dead, .dead, .dead, .dead], []⟩) = some out) : F tab 60 [a0] hp = some out := F_code t60 (by rw [hh]; rfl) h
theorem t29 : tab 29 = some (.code r29) := rfl
theorem f29 {a0 : PV} {hp : List Ent} {out : Out} (hh : PV.hfrees [a0] = true) (h : fnEnd r29 hp (V (F tab) r29_T ⟨[a0, .dead, .dead, .dead, .dead, .dead, .dead, .dead, .dead, .dead, .dead, .dead, .dead, .dead, .dead, .dead, .dead, .dead, .dead, .dead], []⟩) = some out) : F tab 29 [a0] hp = some out := F_code t29 (by rw [hh]; rfl) h
theorem t83 : tab 83 = some (.code r83) := rfl
theorem f83 {a0 a1 : PV} {hp : List Ent} {out : Out} (hh : PV.hfrees [a0, a1] = true) (h : fnEnd r83 hp (V (F tab) r83_T ⟨[a0, a1, .dead, .dead, .dead, .dead, .dead, .dead, .dead, .dead, .dead, .dead, .dead, .dead, .dead, .dead, .dead, .dead, .dead, .dead, .dead, .dead, .dead, .dead, .dead, .dead, .dead, .dead, .dead, .dead, .dead, .dead, .dead, .dead, .dead, .dead, .dead, .dead, .dead, .dead, .dead, .dead, .dead, .dead, .dead, .dead, .dead, .dead, .dead, .dead, .dead, .dead, .dead, .dead], []⟩) = some out) : F tab 83 [a0, a1] hp = some out := F_code t83 (by rw [hh]; rfl) h
theorem t61 : tab 61 = some (.code r61) := rfl
theorem f61 {a0 a1 : PV} {hp : List Ent} {out : Out} (hh : PV.hfrees [a0, a1] = true) (h : fnEnd r61 hp (V (F tab) r61_T ⟨[a0, a1, .dead, .dead, .dead, .dead, .dead, .dead, .dead, .dead, .dead, .dead, .dead, .dead, .dead, .dead, .dead, .dead, .dead, .dead, .dead, .dead, .dead, .dead, .dead, .dead, .dead, .dead, .dead, .dead, .dead, .dead, .dead, .dead, .dead, .dead, .dead, .dead, .dead, .dead, .dead, .dead], []⟩) = some out) : F tab 61 [a0, a1] hp = some out := F_code t61 (by rw [hh]; rfl) h
theorem t30 : tab 30 = some (.code r30) := rfl
theorem f30 {a0 a1 : PV} {hp : List Ent} {out : Out} (hh : PV.hfrees [a0, a1] = true) (h : fnEnd r30 hp (V (F tab) r30_T ⟨[a0, a1, .dead, .dead, .dead, .dead, .dead, .dead, .dead, .dead, .dead, .dead, .dead, .dead, .dead, .dead, .dead, .dead, .dead, .dead, .dead, .dead, .dead, .dead, .dead, .dead, .dead, .dead], []⟩) = some out) : F tab 30 [a0, a1] hp = some out := F_code t30 (by rw [hh]; rfl) h
theorem t31 : tab 31 = some (.code r31) := rfl
theorem f31 {a0 : PV} {hp : List Ent} {out : Out} (hh : PV.hfrees [a0] = true) (h : fnEnd r31 hp (V (F tab) r31_T ⟨[a0, .dead, .dead, .dead, .dead, .dead, .dead, .dead, .dead, .dead, .dead, .dead, .dead, .dead], []⟩) = some out) : F tab 31 [a0] hp = some out := F_code t31 (by rw [hh]; rfl) h
theorem t32 : tab 32 = some (.code r32) := rfl
theorem f32 {a0 a1 : PV} {hp : List Ent} {out : Out} (hh : PV.hfrees [a0, a1] = true) (h : fnEnd r32 hp (V (F tab) r32_T ⟨[a0, a1, .dead, .dead, .dead, .dead, .dead, .dead, .dead, .dead, .dead, .dead, .dead, .dead, .dead, .dead, .dead, .dead, .dead, .dead, .dead, .dead, .dead, .dead, .dead, .dead, .dead, .dead, .dead, .dead], []⟩) = some out) : F tab 32 [a0, a1] hp = some out := F_code t32 (by rw [hh]; rfl) h
theorem t6 : tab 6 = some (.code r6) := rfl
theorem f6 {a0 a1 : PV} {hp : List Ent} {out : Out} (hh : PV.hfrees [a0, a1] = true) (h : fnEnd r6 hp (V (F tab) r6_T ⟨[a0, a1, .dead, .dead, .dead, .dead, .dead, .dead, .dead, .dead, .dead, .dead, .dead, .dead, .dead, .dead, .dead, .dead, .dead, .dead, .dead, .dead, .dead, .dead, .dead, .dead, .dead, .dead, .dead, .dead, .dead, .dead, .dead, .dead, .dead, .dead, .dead, .dead, .dead, .dead, .dead, .dead, .dead, .dead, .dead, .dead, .dead, .dead, .dead, .dead, .dead, .dead, .dead, .dead, .dead, .dead, .dead, .dead, .dead, .dead, .dead, .dead, .dead, .dead, .dead, .dead, .dead, .dead, .dead, .dead, .dead, .dead, .dead, .dead, .dead, .dead, .dead, .dead, .dead, .dead, .dead, .dead, .dead, .dead, .dead, .dead, .dead, .dead, .dead, .dead, .dead, .dead, .dead, .dead, .dead, .dead, .dead, .dead, .dead, .dead, .dead, .dead, .dead, .dead, .dead, .dead, .dead, .dead, .dead, .dead, .dead, .dead, .dead, .dead, .dead, .dead, .dead, .dead, .dead, .dead, .dead, .dead, .dead, .dead, .dead, .dead, .dead, .dead, .dead, .dead, .dead, .dead], []⟩) = some out) : F tab 6 [a0, a1] hp = some out := F_code t6 (by rw [hh]; rfl) h
theorem t62 : tab 62 = some (.code r62) := rfl
theorem f62 {a0 a1 : PV} {hp : List Ent} {out : Out} (hh : PV.hfrees [a0, a1] = true) (h : fnEnd r62 hp (V (F tab) r62_T ⟨[a0, a1, .dead, .dead, .dead, .dead, .dead, .dead, .dead, .dead, .dead, .dead, .dead], []⟩) = some out) : F tab 62 [a0, a1] hp = some out := F_code t62 (by rw [hh]; rfl) h
theorem t33 : tab 33 = some (.code r33) := rfl
theorem f33 {a0 a1 : PV} {hp : List Ent} {out : Out} (hh : PV.hfrees [a0, a1] = true) (h : fnEnd r33 hp (V (F tab) r33_T ⟨[a0, a1, .dead, .dead, .dead, .dead, .dead, .dead, .dead, .dead, .dead, .dead, .dead, .dead, .dead, .dead, .dead, .dead, .dead, .dead, .dead, .dead, .dead, .dead, .dead, .dead, .dead, .dead, .dead, .dead, .dead, .dead], []⟩) = some out) : F tab 33 [a0, a1] hp = some out := F_code t33 (by rw [hh]; rfl) h
theorem t63 : tab 63 = some (.code r63) := rfl
theorem f63 {a0 a1 : PV} {hp : List Ent} {out : Out} (hh : PV.hfrees [a0, a1] = true) (h : fnEnd r63 hp (V (F tab) r63_T ⟨[a0, a1, .dead, .dead, .dead, .dead, .dead, .dead, .dead, .dead, .dead, .dead, .dead, .dead, .dead, .dead, .dead, .dead, .dead, .dead, .dead, .dead, .dead, .dead, .dead, .dead, .dead, .dead, .dead, .dead, .dead, .dead, .dead, .dead, .dead, .dead, .dead, .dead, .dead, .dead, .dead, .dead, .dead, .dead, .dead, .dead, .dead, .dead, .dead, .dead, .dead, .dead, .dead, .dead, .dead, .dead, .dead, .dead, .dead, .dead, .dead, .dead, .dead, .dead, .dead, .dead, .dead, .dead, .dead], []⟩) = some out) : F tab 63 [a0, a1] hp = some out := F_code t63 (by rw [hh]; rfl) h
theorem t35 : tab 35 = some (.code r35) := rfl
theorem f35 {a0 a1 : PV} {hp : List Ent} {out : Out} (hh : PV.hfrees [a0, a1] = true) (h : fnEnd r35 hp (V (F tab) r35_T ⟨[a0, a1, .dead, .dead, .dead, .dead, .dead, .dead, .dead, .dead, .dead, .dead, .dead, .dead, .dead, .dead, .dead, .dead, .dead, .dead, .dead, .dead, .dead, .dead, .dead, .dead, .dead, .dead, .dead, .dead, .dead, .dead, .dead, .dead], []⟩) = some out) : F tab 35 [a0, a1] hp = some out := F_code t35 (by rw [hh]; rfl) h
theorem t34 : tab 34 = some (.code r34) := rfl
theorem f34 {a0 a1 : PV} {hp : List Ent} {out : Out} (hh : PV.hfrees [a0, a1] = true) (h : fnEnd r34 hp (V (F tab) r34_T ⟨[a0, a1, .dead, .dead, .dead, .dead, .dead, .dead, .dead, .dead, .dead, .dead, .dead, .dead, .dead, .dead, .dead, .dead, .dead, .dead, .dead], []⟩) = some out) : F tab 34 [a0, a1] hp = some out := F_code t34 (by rw [hh]; rfl) h
theorem t7 : tab 7 = some (.code r7) := rfl
theorem f7 {a0 a1 a2 : PV} {hp : List Ent} {out : Out} (hh : PV.hfrees [a0, a1, a2] = true) (h : fnEnd r7 hp (V (F tab) r7_T ⟨[a0, a1, a2, .dead, .dead, .dead, .dead, .dead, .dead, .dead, .dead, .dead, .dead, .dead, .dead, .dead, .dead, .dead, .dead, .dead, .dead, .dead, .dead, .dead, .dead, .dead, .dead, .dead, .dead, .dead, .dead, .dead, .dead, .dead, .dead, .dead, .dead, .dead, .dead, .dead, .dead, .dead, .dead, .dead, .dead, .dead, .dead, .dead, .dead, .dead, .dead, .dead, .dead, .dead, .dead, .dead, .dead, .dead, .dead, .dead, .dead, .dead, .dead, .dead, .dead, .dead, .dead, .dead, .dead, .dead, .dead, .dead, .dead, .dead, .dead, .dead, .dead, .dead, .dead, .dead, .dead, .dead, .dead], []⟩) = some out) : F tab 7 [a0, a1, a2] hp = some out := F_code t7 (by rw [hh]; rfl) h
theorem t108 : tab 108 = some (.code r108) := rfl
theorem f108 {a0 : PV} {hp : List Ent} {out : Out} (hh : PV.hfrees [a0] = true) (h : fnEnd r108 hp (V (F tab) r108_T ⟨[a0, .dead, .dead, .dead, .dead, .dead, .dead, .dead, .dead, .dead, .dead, .dead, .dead, .dead, .dead, .dead, .dead, .dead, .dead, .dead, .dead, .dead, .dead, .dead, .dead], []⟩) = some out) : F tab 108 [a0] hp = some out := F_code t108 (by rw [hh]; rfl) h
theorem t98 : tab 98 = some (.code r98) := rfl
theorem f98 {a0 : PV} {hp : List Ent} {out : Out} (hh : PV.hfrees [a0] = true) (h : fnEnd r98 hp (V (F tab) r98_T ⟨[a0, .dead, .dead, .dead, .dead, .dead], []⟩) = some out) : F tab 98 [a0] hp = some out := F_code t98 (by rw [hh]; rfl) h
theorem t84 : tab 84 = some (.code r84) := rfl
theorem f84 {a0 a1 a2 : PV} {hp : List Ent} {out : Out} (hh : PV.hfrees [a0, a1, a2] = true) (h : fnEnd r84 hp (V (F tab) r84_T ⟨[a0, a1, a2, .dead, .dead, .dead, .dead, .dead, .dead, .dead, .dead, .dead, .dead, .dead, .dead, .dead, .dead, .dead, .dead, .dead, .dead, .dead, .dead, .dead, .dead, .dead, .dead, .dead, .dead, .dead, .dead, .dead, .dead, .dead, .dead, .dead, .dead, .dead, .dead, .dead, .dead, .dead, .dead, .dead, .dead, .dead, .dead, .dead, .dead, .dead, .dead, .dead, .dead, .dead, .dead, .dead, .dead, .dead, .dead, .dead, .dead, .dead, .dead, .dead, .dead, .dead, .dead, .dead, .dead, .dead, .dead, .dead, .dead, .dead, .dead, .dead, .dead, .dead, .dead, .dead, .dead, .dead, .dead, .dead, .dead, .dead, .dead, .dead, .dead, .dead, .dead, .dead, .dead, .dead, .dead, .dead, .dead, .dead, .dead, .dead, .dead, .dead, .dead, .dead, .dead, .dead, .dead, .dead, .dead, .dead, .dead, .dead, .dead, .dead, .dead, .dead, .dead, .dead, .dead, .dead, .dead, .dead, .dead, .dead, .dead, .dead, .dead, .dead, .dead, .dead, .dead, .dead, .dead, .dead, .dead], []⟩) = some out) : F tab 84 [a0, a1, a2] hp = some out := F_code t84 (by rw [hh]; rfl) h
theorem t65 : tab 65 = some (.code r65) := rfl
theorem f65 {a0 : PV} {hp : List Ent} {out : Out} (hh : PV.hfrees [a0] = true) (h : fnEnd r65 hp (V (F tab) r65_T ⟨[a0, .dead, .dead, .dead, .dead, .dead, .dead, .dead, .dead, .dead, .dead, .dead, .dead, .dead, .dead, .dead, .dead, .dead, .dead, .dead, .dead, .dead, .dead], []⟩) = some out) : F tab 65 [a0] hp = some out := F_code t65 (by rw [hh]; rfl) h
theorem t36 : tab 36 = some (.code r36) := rfl
theorem f36 {a0 a1 : PV} {hp : List Ent} {out : Out} (hh : PV.hfrees [a0, a1] = true) (h : fnEnd r36 hp (V (F tab) r36_T ⟨[a0, a1, .dead, .dead, .dead, .dead, .dead, .dead, .dead, .dead, .dead, .dead, .dead, .dead, .dead, .dead, .dead, .dead, .dead, .dead, .dead, .dead, .dead, .dead, .dead, .dead, .dead, .dead, .dead, .dead, .dead, .dead, .dead, .dead, .dead, .dead, .dead, .dead, .dead, .dead, .dead, .dead, .dead, .dead, .dead, .dead, .dead, .dead, .dead, .dead, .dead, .dead, .dead, .dead, .dead, .dead, .dead, .dead, .dead, .dead, .dead, .dead, .dead, .dead, .dead, .dead, .dead, .dead, .dead, .dead, .dead], []⟩) = some out) : F tab 36 [a0, a1] hp = some out := F_code t36 (by rw [hh]; rfl) h
theorem t37 : tab 37 = some (.code r37) := rfl
theorem f37 {a0 : PV} {hp : List Ent} {out : Out} (hh : PV.hfrees [a0] = true) (h : fnEnd r37 hp (V (F tab) r37_T ⟨[a0, .dead, .dead, .dead, .dead, .dead, .dead, .dead], []⟩) = some out) : F tab 37 [a0] hp = some out := F_code t37 (by rw [hh]; rfl) h
theorem t8 : tab 8 = some (.code r8) := rfl
theorem f8 {a0 a1 : PV} {hp : List Ent} {out : Out} (hh : PV.hfrees [a0, a1] = true) (h : fnEnd r8 hp (V (F tab) r8_T ⟨[a0, a1, .dead, .dead, .dead, .dead, .dead, .dead, .dead, .dead, .dead, .dead, .dead, .dead, .dead, .dead, .dead, .dead, .dead, .dead, .dead, .dead, .dead, .dead, .dead, .dead, .dead, .dead, .dead, .dead, .dead, .dead, .dead, .dead, .dead, .dead, .dead, .dead, .dead, .dead, .dead, .dead, .dead, .dead, .dead, .dead, .dead, .dead, .dead, .dead, .dead, .dead, .dead, .dead, .dead, .dead, .dead, .dead, .dead, .dead, .dead, .dead, .dead, .dead, .dead, .dead, .dead, .dead, .dead, .dead, .dead, .dead, .dead, .dead, .dead, .dead, .dead, .dead, .dead, .dead, .dead, .dead, .dead, .dead, .dead, .dead, .dead, .dead, .dead, .dead, .dead, .dead, .dead, .dead, .dead, .dead, .dead, .dead, .dead, .dead, .dead, .dead, .dead, .dead, .dead, .dead, .dead, .dead, .dead, .dead, .dead, .dead, .dead, .dead, .dead, .dead, .dead, .dead, .dead, .dead, .dead, .dead, .dead, .dead, .dead, .dead, .dead, .dead, .dead, .dead, .dead, .dead, .dead, .dead, .dead, .dead, .dead, .dead, .dead, .dead, .dead, .dead, .dead, .dead, .dead, .dead, .dead, .dead, .dead, .dead, .dead, .dead, .dead, .dead, .dead, .dead, .dead, .dead, .dead, .dead, .dead, .dead, .dead, .dead, .dead, .dead, .dead, .dead, .dead, .dead], []⟩) = some out) : F tab 8 [a0, a1] hp = some out := F_code t8 (by rw [hh]; rfl) h
theorem t9 : tab 9 = some (.code r9) := rfl
theorem f9 {a0 a1 : PV} {hp : List Ent} {out : Out} (hh : PV.hfrees [a0, a1] = true) (h : fnEnd r9 hp (V (F tab) r9_T ⟨[a0, a1, .dead, .dead, .dead, .dead, .dead, .dead, .dead, .dead, .dead, .dead, .dead, .dead, .dead, .dead, .dead, .dead, .dead, .dead, .dead, .dead, .dead, .dead, .dead, .dead, .dead, .dead, .dead, .dead, .dead, .dead, .dead, .dead, .dead, .dead, .dead, .dead, .dead, .dead, .dead, .dead, .dead, .dead, .dead, .dead, .dead, .dead, .dead, .dead, .dead, .dead, .dead, .dead, .dead, .dead, .dead, .dead, .dead, .dead, .dead, .dead, .dead, .dead, .dead, .dead, .dead, .dead, .dead, .dead, .dead, .dead, .dead, .dead, .dead, .dead, .dead, .dead, .dead, .dead, .dead, .dead, .dead, .dead, .dead, .dead, .dead, .dead, .dead, .dead, .dead, .dead, .dead, .dead, .dead, .dead, .dead, .dead, .dead, .dead, .dead, .dead, .dead, .dead, .dead, .dead, .dead, .dead, .dead, .dead, .dead, .dead, .dead, .dead, .dead, .dead, .dead, .dead, .dead, .dead, .dead, .dead, .dead, .dead, .dead, .dead, .dead, .dead, .dead], []⟩) = some out) : F tab 9 [a0, a1] hp = some out := F_code t9 (by rw [hh]; rfl) h
theorem t38 : tab 38 = some (.code r38) := rfl
theorem f38 {a0 a1 : PV} {hp : List Ent} {out : Out} (hh : PV.hfrees [a0, a1] = true) (h : fnEnd r38 hp (V (F tab) r38_T ⟨[a0, a1, .dead, .dead, .dead, .dead, .dead, .dead, .dead, .dead, .dead, .dead, .dead, .dead, .dead, .dead, .dead, .dead, .dead, .dead, .dead, .dead, .dead], []⟩) = some out) : F tab 38 [a0, a1] hp = some out := F_code t38 (by rw [hh]; rfl) h
theorem t66 : tab 66 = some (.code r66) := rfl
theorem f66 {a0 a1 : PV} {hp : List Ent} {out : Out} (hh : PV.hfrees [a0, a1] = true) (h : fnEnd r66 hp (V (F tab) r66_T ⟨[a0, a1, .dead, .dead, .dead, .dead, .dead, .dead, .dead, .dead, .dead, .dead, .dead, .dead, .dead, .dead, .dead, .dead, .dead, .dead, .dead, .dead, .dead, .dead, .dead, .dead, .dead, .dead, .dead, .dead, .dead, .dead, .dead, .dead, .dead, .dead, .dead, .dead, .dead, .dead], []⟩) = some out) : F tab 66 [a0, a1] hp = some out := F_code t66 (by rw [hh]; rfl) h
theorem t39 : tab 39 = some (.code r39) := rfl
theorem f39 {a0 a1 : PV} {hp : List Ent} {out : Out} (hh : PV.hfrees [a0, a1] = true) (h : fnEnd r39 hp (V (F tab) r39_T ⟨[a0, a1, .dead, .dead, .dead, .dead, .dead, .dead, .dead, .dead, .dead, .dead, .dead, .dead, .dead, .dead, .dead, .dead, .dead, .dead, .dead], []⟩) = some out) : F tab 39 [a0, a1] hp = some out := F_code t39 (by rw [hh]; rfl) h
theorem t10 : tab 10 = some (.code r10) := rfl
theorem f10 {a0 a1 : PV} {hp : List Ent} {out : Out} (hh : PV.hfrees [a0, a1] = true) (h : fnEnd r10 hp (V (F tab) r10_T ⟨[a0, a1, .dead, .dead, .dead, .dead, .dead, .dead, .dead, .dead, .dead, .dead, .dead, .dead, .dead, .dead, .dead, .dead, .dead, .dead, .dead, .dead, .dead, .dead, .dead, .dead, .dead, .dead, .dead, .dead, .dead, .dead, .dead, .dead, .dead, .dead, .dead, .dead, .dead, .dead, .dead, .dead, .dead, .dead, .dead, .dead, .dead, .dead, .dead, .dead, .dead, .dead, .dead, .dead, .dead, .dead, .dead, .dead, .dead, .dead, .dead, .dead, .dead, .dead, .dead, .dead, .dead, .dead, .dead, .dead, .dead, .dead, .dead, .dead, .dead, .dead, .dead, .dead, .dead, .dead, .dead, .dead, .dead, .dead, .dead, .dead, .dead, .dead, .dead, .dead, .dead, .dead, .dead, .dead, .dead, .dead, .dead, .dead, .dead, .dead, .dead, .dead, .dead, .dead, .dead, .dead, .dead, .dead, .dead, .dead, .dead, .dead, .dead, .dead, .dead, .dead, .dead, .dead, .dead, .dead, .dead, .dead, .dead, .dead, .dead, .dead, .dead, .dead, .dead, .dead, .dead, .dead, .dead, .dead, .dead, .dead, .dead, .dead, .dead, .dead, .dead, .dead, .dead, .dead], []⟩) = some out) : F tab 10 [a0, a1] hp = some out := F_code t10 (by rw [hh]; rfl) h
end Go.Pe.T

namespace Go.Pe.T
/-- -1, 0, 1 -/
def sgn (a b : Int) : Int := if a < b then -1 else if a > b then 1 else 0

theorem numorder_ok (a b : Int) (hp : List Ent) : F tab 62 [.d (iv a), .d (iv b)] hp = some (.ret (.d (iv (sgn a b))) hp) := by
  refine f62 rfl ?_
  by_cases ha : a < b
  · simp only [go_sem, and_self, and_true, true_and, false_and, and_false, Nat.reduceAdd, Nat.reduceMul, Nat.reduceSub, Nat.reduceLeDiff, Nat.reduceLT, Nat.reduceGT, Nat.reduceEqDiff, Nat.reduceBEq, Int.reduceNeg, Int.reduceEq, Int.reduceLT, Int.reduceLE, Int.reduceBEq, Int.reduceToNat, Int.toNat_natCast, Int.natCast_zero, r62_T, r62, ha, sgn]
  · by_cases hb : a > b
    · simp only [go_sem, and_self, and_true, true_and, false_and, and_false, Nat.reduceAdd, Nat.reduceMul, Nat.reduceSub, Nat.reduceLeDiff, Nat.reduceLT, Nat.reduceGT, Nat.reduceEqDiff, Nat.reduceBEq, Int.reduceNeg, Int.reduceEq, Int.reduceLT, Int.reduceLE, Int.reduceBEq, Int.reduceToNat, Int.toNat_natCast, Int.natCast_zero, r62_T, r62, ha, hb, sgn]
    · simp only [go_sem, and_self, and_true, true_and, false_and, and_false, Nat.reduceAdd, Nat.reduceMul, Nat.reduceSub, Nat.reduceLeDiff, Nat.reduceLT, Nat.reduceGT, Nat.reduceEqDiff, Nat.reduceBEq, Int.reduceNeg, Int.reduceEq, Int.reduceLT, Int.reduceLE, Int.reduceBEq, Int.reduceToNat, Int.toNat_natCast, Int.natCast_zero, r62_T, r62, ha, hb, sgn]

abbrev numD (c s : Int) : D := .agg [iv c, iv s]

def numIs (c s : Int) : Bool := decide (0 ≤ s) && decide (s ≤ 9) && decide (-1000000000000000 < c) && decide (c < 1000000000000000) && (s == 0 || c.tmod 10 != 0)

theorem numIs_ok (c s : Int) (hp : List Ent) : F tab 19 [.d (numD c s)] hp = some (.ret (.d (.bool (numIs c s))) hp) := by
  refine f19 rfl ?_
  by_cases h1 : s < 0
  · have g1 : ¬ (0 ≤ s) := by omega
    simp only [go_sem, and_self, and_true, true_and, false_and, and_false, Nat.reduceAdd, Nat.reduceMul, Nat.reduceSub, Nat.reduceLeDiff, Nat.reduceLT, Nat.reduceGT, Nat.reduceEqDiff, Nat.reduceBEq, Int.reduceNeg, Int.reduceEq, Int.reduceLT, Int.reduceLE, Int.reduceBEq, Int.reduceToNat, Int.toNat_natCast, Int.natCast_zero, r19_T, r19, numIs, h1, g1]
  · have g1 : 0 ≤ s := by omega
    by_cases h2 : s > 9
    · have g2 : ¬ (s ≤ 9) := by omega
      simp only [go_sem, and_self, and_true, true_and, false_and, and_false, Nat.reduceAdd, Nat.reduceMul, Nat.reduceSub, Nat.reduceLeDiff, Nat.reduceLT, Nat.reduceGT, Nat.reduceEqDiff, Nat.reduceBEq, Int.reduceNeg, Int.reduceEq, Int.reduceLT, Int.reduceLE, Int.reduceBEq, Int.reduceToNat, Int.toNat_natCast, Int.natCast_zero, r19_T, r19, numIs, h1, g1, h2, g2]
    · have g2 : s ≤ 9 := by omega
      by_cases h3 : c ≤ -1000000000000000
      · have g3 : ¬ (-1000000000000000 < c) := by omega
        simp only [go_sem, and_self, and_true, true_and, false_and, and_false, Nat.reduceAdd, Nat.reduceMul, Nat.reduceSub, Nat.reduceLeDiff, Nat.reduceLT, Nat.reduceGT, Nat.reduceEqDiff, Nat.reduceBEq, Int.reduceNeg, Int.reduceEq, Int.reduceLT, Int.reduceLE, Int.reduceBEq, Int.reduceToNat, Int.toNat_natCast, Int.natCast_zero, r19_T, r19, numIs, h1, g1, h2, g2, h3, g3]
      · have g3 : -1000000000000000 < c := by omega
        by_cases h4 : c ≥ 1000000000000000
        · have g4 : ¬ (c < 1000000000000000) := by omega
          simp only [go_sem, and_self, and_true, true_and, false_and, and_false, Nat.reduceAdd, Nat.reduceMul, Nat.reduceSub, Nat.reduceLeDiff, Nat.reduceLT, Nat.reduceGT, Nat.reduceEqDiff, Nat.reduceBEq, Int.reduceNeg, Int.reduceEq, Int.reduceLT, Int.reduceLE, Int.reduceBEq, Int.reduceToNat, Int.toNat_natCast, Int.natCast_zero, r19_T, r19, numIs, h1, g1, h2, g2, h3, g3, h4, g4]
        · have g4 : c < 1000000000000000 := by omega
          by_cases h5 : s = 0
          · subst h5
            simp only [go_sem, and_self, and_true, true_and, false_and, and_false, Nat.reduceAdd, Nat.reduceMul, Nat.reduceSub, Nat.reduceLeDiff, Nat.reduceLT, Nat.reduceGT, Nat.reduceEqDiff, Nat.reduceBEq, Int.reduceNeg, Int.reduceEq, Int.reduceLT, Int.reduceLE, Int.reduceBEq, Int.reduceToNat, Int.toNat_natCast, Int.natCast_zero, r19_T, r19, numIs, h1, g1, h2, g2, h3, g3, h4, g4, Bool.true_or]
          · have g5 : (s == 0) = false := by simpa using h5
            simp only [go_sem, and_self, and_true, true_and, false_and, and_false, Nat.reduceAdd, Nat.reduceMul, Nat.reduceSub, Nat.reduceLeDiff, Nat.reduceLT, Nat.reduceGT, Nat.reduceEqDiff, Nat.reduceBEq, Int.reduceNeg, Int.reduceEq, Int.reduceLT, Int.reduceLE, Int.reduceBEq, Int.reduceToNat, Int.toNat_natCast, Int.natCast_zero, r19_T, r19, numIs, h1, g1, h2, g2, h3, g3, h4, g4, g5, Bool.false_or]

theorem both_ok (c s c' s' : Int) (hp : List Ent) : F tab 51 [.d (numD c s), .d (numD c' s')] hp = some (.ret (.d (.bool (numIs c s && numIs c' s'))) hp) := by
  refine f51 rfl ?_
  have h1 := numIs_ok c s
  have h2 := numIs_ok c' s'
  rcases Bool.eq_false_or_eq_true (numIs c s) with h | h
  · simp only [go_sem, and_self, and_true, true_and, false_and, and_false, Nat.reduceAdd, Nat.reduceMul, Nat.reduceSub, Nat.reduceLeDiff, Nat.reduceLT, Nat.reduceGT, Nat.reduceEqDiff, Nat.reduceBEq, Int.reduceNeg, Int.reduceEq, Int.reduceLT, Int.reduceLE, Int.reduceBEq, Int.reduceToNat, Int.toNat_natCast, Int.natCast_zero, r51_T, r51, h1, h2, h]
  · simp only [go_sem, and_self, and_true, true_and, false_and, and_false, Nat.reduceAdd, Nat.reduceMul, Nat.reduceSub, Nat.reduceLeDiff, Nat.reduceLT, Nat.reduceGT, Nat.reduceEqDiff, Nat.reduceBEq, Int.reduceNeg, Int.reduceEq, Int.reduceLT, Int.reduceLE, Int.reduceBEq, Int.reduceToNat, Int.toNat_natCast, Int.natCast_zero, r51_T, r51, h1, h2, h]

/-! ### powers of ten; numbers cut; which is greater -/

theorem p10_pos (n : Nat) : 0 < (10 : Int) ^ n := Int.pow_pos (by omega)
theorem p10_mono {a b : Nat} (h : a ≤ b) : (10 : Int) ^ a ≤ 10 ^ b := by
  have h1 : (10 : Nat) ^ a ≤ 10 ^ b := Nat.pow_le_pow_right (by omega) h
  have h2 : ((10 ^ a : Nat) : Int) ≤ ((10 ^ b : Nat) : Int) := by exact_mod_cast h1
  simpa using h2

theorem pow_loop (n : Nat) (hn : n ≤ 18) : ∀ (j i : Nat), i + j = n →
    V (F tab) r45_B0 (r45_S0 (.d (iv (10 ^ i))) (.d (iv n)) (.d (iv i)) []) = some (.norm, r45_E0 (.d (iv (10 ^ n))) [])
  | 0, i, hi => by
    obtain rfl : i = n := by omega
    rw [r45_B0_eq]
    have h1 : ((i : Int) < (i : Int)) = False := by simp
    simp only [go_sem, and_self, and_true, true_and, false_and, and_false, Nat.reduceAdd, Nat.reduceMul, Nat.reduceSub, Nat.reduceLeDiff, Nat.reduceLT, Nat.reduceGT, Nat.reduceEqDiff, Nat.reduceBEq, Int.reduceNeg, Int.reduceEq, Int.reduceLT, Int.reduceLE, Int.reduceBEq, Int.reduceToNat, Int.toNat_natCast, Int.natCast_zero, r45_C0, h1]
  | j + 1, i, hi => by
    have h1 : ((i : Int) < (n : Int)) = True := by simp; omega
    have h3 := p10_mono (show i + 1 ≤ 18 by omega)
    have h4 := p10_pos (i + 1)
    have e : (10 : Int) ^ (i + 1) = 10 ^ i * 10 := Int.pow_succ 10 i
    have e18 : (10 : Int) ^ 18 = 1000000000000000000 := by decide
    have ih := pow_loop n hn j (i + 1) (by omega)
    rw [r45_B0_eq]
    simp (disch := omega) only [go_sem, and_self, and_true, true_and, false_and, and_false, Nat.reduceAdd, Nat.reduceMul, Nat.reduceSub, Nat.reduceLeDiff, Nat.reduceLT, Nat.reduceGT, Nat.reduceEqDiff, Nat.reduceBEq, Int.reduceNeg, Int.reduceEq, Int.reduceLT, Int.reduceLE, Int.reduceBEq, Int.reduceToNat, Int.toNat_natCast, Int.natCast_zero, r45_C0, h1, w64]
    rw [e] at ih
    exact ih

theorem pow_ok (n : Nat) (hn : n ≤ 18) (hp : List Ent) : F tab 45 [.d (iv n)] hp = some (.ret (.d (iv (10 ^ n))) hp) := by
  refine f45 rfl ?_
  have hL := pow_loop n hn n 0 (by omega)
  simp (disch := omega) only [go_sem, and_self, and_true, true_and, false_and, and_false, Nat.reduceAdd, Nat.reduceMul, Nat.reduceSub, Nat.reduceLeDiff, Nat.reduceLT, Nat.reduceGT, Nat.reduceEqDiff, Nat.reduceBEq, Int.reduceNeg, Int.reduceEq, Int.reduceLT, Int.reduceLE, Int.reduceBEq, Int.reduceToNat, Int.toNat_natCast, Int.natCast_zero, r45_T, r45]
  rw [r45_B0_n]
  erw [hL]
  simp only [go_sem, and_self, and_true, true_and, false_and, and_false, Nat.reduceAdd, Nat.reduceMul, Nat.reduceSub, Nat.reduceLeDiff, Nat.reduceLT, Nat.reduceGT, Nat.reduceEqDiff, Nat.reduceBEq, Int.reduceNeg, Int.reduceEq, Int.reduceLT, Int.reduceLE, Int.reduceBEq, Int.reduceToNat, Int.toNat_natCast, Int.natCast_zero]

/-- the whole part, and billionths -/
def cutU (c : Int) (k : Nat) : Int := c.tdiv (10 ^ k)
def cutV (c : Int) (k : Nat) : Int := c.tmod (10 ^ k) * 10 ^ (9 - k)

theorem cut_bounds {c : Int} {k : Nat} (hk : k ≤ 9) (hc : -1000000000000000 < c ∧ c < 1000000000000000) :
    cutU c k * 1000000000 + cutV c k = c * 10 ^ (9 - k) ∧ -1000000000000000 < cutU c k ∧ cutU c k < 1000000000000000 ∧ -1000000000 < cutV c k ∧ cutV c k < 1000000000 ∧ (0 ≤ c → 0 ≤ cutU c k ∧ 0 ≤ cutV c k) ∧ (c ≤ 0 → cutU c k ≤ 0 ∧ cutV c k ≤ 0) ∧ -10 ^ k < c.tmod (10 ^ k) ∧ c.tmod (10 ^ k) < 10 ^ k := by
  have hp := p10_pos k
  have hq := p10_pos (9 - k)
  have hpq : (10 : Int) ^ k * 10 ^ (9 - k) = 1000000000 := by
    rw [← Int.pow_add, show k + (9 - k) = 9 by omega]; decide
  have hdm := Int.mul_tdiv_add_tmod c (10 ^ k)
  generalize hP : (10 : Int) ^ k = p at *
  generalize hQ : (10 : Int) ^ (9 - k) = q at *
  have hm1 : c.tmod p < p := Int.tmod_lt_of_pos c hp
  have hm2 : -p < c.tmod p := by
    have := Int.lt_tmod_of_pos c hp
    omega
  have hu : cutU c k = c.tdiv p := by unfold cutU; rw [hP]
  have hv : cutV c k = c.tmod p * q := by unfold cutV; rw [hP, hQ]
  rw [hu, hv]
  have hnat : (c.tdiv p).natAbs ≤ c.natAbs := Int.natAbs_tdiv_le_natAbs c p
  refine ⟨?_, by omega, by omega, ?_, ?_, ?_, ?_, hm2, hm1⟩
  · rw [← hpq]
    calc c.tdiv p * (p * q) + c.tmod p * q = (p * c.tdiv p + c.tmod p) * q := by rw [Int.add_mul]; congr 1; rw [Int.mul_comm p (c.tdiv p), Int.mul_assoc]
      _ = c * q := by rw [hdm]
  · have : -p * q < c.tmod p * q := Int.mul_lt_mul_of_pos_right hm2 hq
    rw [Int.neg_mul, hpq] at this
    exact this
  · have : c.tmod p * q < p * q := Int.mul_lt_mul_of_pos_right hm1 hq
    rw [hpq] at this
    exact this
  · intro h0
    exact ⟨Int.tdiv_nonneg h0 (by omega), Int.mul_nonneg (Int.tmod_nonneg p h0) (by omega)⟩
  · intro h0
    have h1 : c.tdiv p ≤ 0 := by
      have := Int.tdiv_nonneg (show 0 ≤ -c by omega) (show 0 ≤ p by omega)
      rw [Int.neg_tdiv] at this
      omega
    have h2 : c.tmod p ≤ 0 := by
      have := Int.tmod_nonneg p (show 0 ≤ -c by omega)
      rw [Int.neg_tmod] at this
      omega
    exact ⟨h1, Int.mul_nonpos_of_nonpos_of_nonneg h2 (by omega)⟩

theorem cut_ok (c : Int) (k : Nat) (hk : k ≤ 9) (hc : -1000000000000000 < c ∧ c < 1000000000000000) (hp : List Ent) :
    F tab 60 [.d (numD c k)] hp = some (.ret (.tup [.d (iv (cutU c k)), .d (iv (cutV c k))]) hp) := by
  refine f60 rfl ?_
  have h1 := pow_ok k (by omega)
  have h2 := pow_ok (9 - k) (by omega)
  have e : ((9 - k : Nat) : Int) = 9 - (k : Int) := by omega
  rw [e] at h2
  have hne : ((10 : Int) ^ k = 0) = False := by have := p10_pos k; simp; omega
  obtain ⟨b1, b2, b3, b4, b5, _⟩ := cut_bounds hk hc
  have w1 : IntKind.i64.wrap (c.tdiv (10 ^ k)) = cutU c k := by rw [← cutU, w64 (by omega)]
  have w2 : IntKind.i64.wrap (c.tmod (10 ^ k) * 10 ^ (9 - k)) = cutV c k := by rw [← cutV, w64 (by omega)]
  simp (disch := omega) only [go_sem, and_self, and_true, true_and, false_and, and_false, Nat.reduceAdd, Nat.reduceMul, Nat.reduceSub, Nat.reduceLeDiff, Nat.reduceLT, Nat.reduceGT, Nat.reduceEqDiff, Nat.reduceBEq, Int.reduceNeg, Int.reduceEq, Int.reduceLT, Int.reduceLE, Int.reduceBEq, Int.reduceToNat, Int.toNat_natCast, Int.natCast_zero, r60_T, r60, w64, h1, h2, hne, w1, w2]

/-- numbers at one scale -/
def flatN (c : Int) (k : Nat) : Int := c * 10 ^ (9 - k)

theorem cmp_math {c c' : Int} {k k' : Nat} (hk : k ≤ 9) (hk' : k' ≤ 9) (hc : -1000000000000000 < c ∧ c < 1000000000000000) (hc' : -1000000000000000 < c' ∧ c' < 1000000000000000) :
    (if cutU c k ≠ cutU c' k' then sgn (cutU c k) (cutU c' k') else sgn (cutV c k) (cutV c' k')) = sgn (flatN c k) (flatN c' k') := by
  obtain ⟨b1, b2, b3, b4, b5, b6, b7, _⟩ := cut_bounds hk hc
  obtain ⟨d1, d2, d3, d4, d5, d6, d7, _⟩ := cut_bounds hk' hc'
  unfold flatN
  rw [← b1, ← d1]
  unfold sgn
  split
  · rename_i hne
    by_cases h0 : 0 ≤ c
    · have := b6 h0
      by_cases h1 : 0 ≤ c'
      · have := d6 h1
        split <;> split <;> (try split) <;> omega
      · have := d7 (by omega)
        split <;> split <;> (try split) <;> omega
    · have := b7 (by omega)
      by_cases h1 : 0 ≤ c'
      · have := d6 h1
        split <;> split <;> (try split) <;> omega
      · have := d7 (by omega)
        split <;> split <;> (try split) <;> omega
  · rename_i hne
    have : cutU c k = cutU c' k' := by simpa using hne
    rw [this]
    split <;> split <;> (try split) <;> omega

theorem numIs_inv {c s : Int} (h : numIs c s = true) : ∃ k : Nat, s = k ∧ k ≤ 9 ∧ (-1000000000000000 < c ∧ c < 1000000000000000) := by
  simp only [numIs, Bool.and_eq_true, decide_eq_true_eq] at h
  exact ⟨s.toNat, by omega, by omega, by omega⟩

theorem numcmp_ok (c c' : Int) (k k' : Nat) (h : numIs c k = true) (h' : numIs c' k' = true) (hp : List Ent) :
    F tab 33 [.d (numD c k), .d (numD c' k')] hp = some (.ret (.d (iv (sgn (flatN c k) (flatN c' k')))) hp) := by
  obtain ⟨k1, e1, hk, hc⟩ := numIs_inv h
  obtain ⟨k2, e2, hk', hc'⟩ := numIs_inv h'
  obtain rfl : k = k1 := by omega
  obtain rfl : k' = k2 := by omega
  refine f33 rfl ?_
  have h1 := both_ok c k c' k'
  rw [h, h'] at h1
  have h2 := cut_ok c k hk hc
  have h3 := cut_ok c' k' hk' hc'
  have h4 := numorder_ok (cutU c k) (cutU c' k')
  have h5 := numorder_ok (cutV c k) (cutV c' k')
  rw [← cmp_math hk hk' hc hc']
  by_cases hu : cutU c k = cutU c' k'
  · have hu1 : (cutU c k != cutU c' k') = false := by simp [hu]
    have hu2 : (cutU c k ≠ cutU c' k') = False := by simp [hu]
    simp (disch := omega) only [go_sem, and_self, and_true, true_and, false_and, and_false, Nat.reduceAdd, Nat.reduceMul, Nat.reduceSub, Nat.reduceLeDiff, Nat.reduceLT, Nat.reduceGT, Nat.reduceEqDiff, Nat.reduceBEq, Int.reduceNeg, Int.reduceEq, Int.reduceLT, Int.reduceLE, Int.reduceBEq, Int.reduceToNat, Int.toNat_natCast, Int.natCast_zero, r33_T, r33, h1, h2, h3, h4, h5, hu1, hu2]
  · have hu1 : (cutU c k != cutU c' k') = true := by simp [hu]
    have hu2 : (cutU c k ≠ cutU c' k') = True := by simp [hu]
    simp (disch := omega) only [go_sem, and_self, and_true, true_and, false_and, and_false, Nat.reduceAdd, Nat.reduceMul, Nat.reduceSub, Nat.reduceLeDiff, Nat.reduceLT, Nat.reduceGT, Nat.reduceEqDiff, Nat.reduceBEq, Int.reduceNeg, Int.reduceEq, Int.reduceLT, Int.reduceLE, Int.reduceBEq, Int.reduceToNat, Int.toNat_natCast, Int.natCast_zero, r33_T, r33, h1, h2, h3, h4, h5, hu1, hu2]
end Go.Pe.T

namespace Go.Pe.T
/-! ### noughts taken off; sums -/

def stripN : Int → Nat → Int × Nat
  | c, 0 => (c, 0)
  | c, s + 1 => if c.tmod 10 = 0 then stripN (c.tdiv 10) s else (c, s + 1)

theorem strip_val : ∀ (k : Nat) (c : Int), (stripN c k).2 ≤ k ∧ (stripN c k).1 * 10 ^ (k - (stripN c k).2) = c ∧ ((stripN c k).2 = 0 ∨ (stripN c k).1.tmod 10 ≠ 0)
  | 0, c => by simp [stripN]
  | k + 1, c => by
    simp only [stripN]
    split
    · rename_i h
      obtain ⟨h1, h2, h3⟩ := strip_val k (c.tdiv 10)
      refine ⟨by omega, ?_, h3⟩
      have e : k + 1 - (stripN (c.tdiv 10) k).2 = (k - (stripN (c.tdiv 10) k).2) + 1 := by omega
      rw [e, Int.pow_succ, ← Int.mul_assoc, h2]
      have := Int.mul_tdiv_add_tmod c 10
      omega
    · rename_i h
      exact ⟨Nat.le_refl _, by simp, .inr h⟩

theorem strip_self : ∀ (k : Nat) (c : Int), (k = 0 ∨ c.tmod 10 ≠ 0) → stripN c k = (c, k)
  | 0, c, _ => rfl
  | k + 1, c, h => by
    simp only [stripN]
    rw [if_neg (h.resolve_left (by omega))]

theorem strip_add : ∀ (k : Nat) (w p : Int), stripN (w * 10 ^ k + p) k = (w * 10 ^ (stripN p k).2 + (stripN p k).1, (stripN p k).2)
  | 0, w, p => by simp [stripN]
  | k + 1, w, p => by
    have hp := p10_pos k
    have e : w * 10 ^ (k + 1) = w * 10 ^ k * 10 := by rw [Int.pow_succ, Int.mul_assoc]
    have hm : (w * 10 ^ (k + 1) + p).tmod 10 = 0 ↔ p.tmod 10 = 0 := by
      rw [e]
      generalize w * 10 ^ k = x
      have := Int.mul_tdiv_add_tmod p 10
      have := Int.mul_tdiv_add_tmod (x * 10 + p) 10
      constructor
      · intro h
        have h1 : (10 : Int) ∣ x * 10 + p := Int.dvd_of_tmod_eq_zero h
        have h2 : (10 : Int) ∣ p := by omega
        exact Int.tmod_eq_zero_of_dvd h2
      · intro h
        have h1 : (10 : Int) ∣ p := Int.dvd_of_tmod_eq_zero h
        have h2 : (10 : Int) ∣ x * 10 + p := by omega
        exact Int.tmod_eq_zero_of_dvd h2
    simp only [stripN]
    by_cases h : p.tmod 10 = 0
    · rw [if_pos (hm.2 h), if_pos h]
      have hd : (w * 10 ^ (k + 1) + p).tdiv 10 = w * 10 ^ k + p.tdiv 10 := by
        have h3 := hm.2 h
        rw [e] at h3 ⊢
        generalize w * 10 ^ k = x at *
        have h1 := Int.mul_tdiv_add_tmod p 10
        have h2 := Int.mul_tdiv_add_tmod (x * 10 + p) 10
        omega
      rw [hd]
      exact strip_add k w (p.tdiv 10)
    · rw [if_neg (fun h2 => h (hm.1 h2)), if_neg h]

theorem strip_abs (k : Nat) (c B : Int) (h : -B ≤ c ∧ c ≤ B) : -B ≤ (stripN c k).1 ∧ (stripN c k).1 ≤ B := by
  obtain ⟨_, h2, _⟩ := strip_val k c
  have hp := p10_pos (k - (stripN c k).2)
  generalize (stripN c k).1 = x at *
  generalize (10 : Int) ^ (k - (stripN c k).2) = q at *
  by_cases hx : 0 ≤ x
  · have : x * 1 ≤ x * q := Int.mul_le_mul_of_nonneg_left (by omega) hx
    omega
  · have : -x * 1 ≤ -x * q := Int.mul_le_mul_of_nonneg_left (by omega) (by omega)
    rw [Int.neg_mul, Int.neg_mul] at this
    omega

/-- what a coefficient at a scale comes to -/
def makeOk (c : Int) (k : Nat) : Bool := numIs (stripN c k).1 (stripN c k).2

theorem strip_zero : ∀ (k : Nat), stripN 0 k = (0, 0)
  | 0 => rfl
  | k + 1 => by simp only [stripN, Int.zero_tmod, Int.zero_tdiv, if_true, strip_zero k]

theorem strip_whole (z : Int) (k : Nat) : stripN (z * 10 ^ k) k = (z, 0) := by
  have := strip_add k z 0
  rw [strip_zero, Int.add_zero] at this
  simpa using this

theorem p10_cut (s : Nat) (hs : s ≤ 9) : (10 : Int) ^ s * 10 ^ (9 - s) = 1000000000 := by
  rw [← Int.pow_add, show s + (9 - s) = 9 by omega]; decide
theorem p10_cut15 (s : Nat) (hs : s ≤ 15) : (10 : Int) ^ s * 10 ^ (15 - s) = 1000000000000000 := by
  rw [← Int.pow_add, show s + (15 - s) = 15 by omega]; decide

theorem strip_part {p : Int} (hp : -1000000000 < p ∧ p < 1000000000) : -10 ^ (stripN p 9).2 < (stripN p 9).1 ∧ (stripN p 9).1 < 10 ^ (stripN p 9).2 := by
  obtain ⟨h1, h2, _⟩ := strip_val 9 p
  have h3 := p10_cut _ h1
  have h4 := p10_pos (9 - (stripN p 9).2)
  generalize (stripN p 9).1 = q at *
  generalize (10 : Int) ^ (9 - (stripN p 9).2) = y at *
  generalize (10 : Int) ^ (stripN p 9).2 = x at *
  rw [← h2, ← h3] at hp
  refine ⟨?_, ?_⟩
  · have : -x * y < q * y := by rw [Int.neg_mul]; omega
    exact Int.lt_of_mul_lt_mul_right this (by omega)
  · exact Int.lt_of_mul_lt_mul_right hp.2 (by omega)

/-- joined: too great, or within what can be reckoned with -/
theorem join_math {w p : Int} (hp : -1000000000 < p ∧ p < 1000000000) :
    (stripN (w * 1000000000 + p) 9) = (w * 10 ^ (stripN p 9).2 + (stripN p 9).1, (stripN p 9).2) ∧
    (w ≥ (1000000000000000 : Int).tdiv (10 ^ (stripN p 9).2) + 1 → makeOk (w * 1000000000 + p) 9 = false) ∧
    (w ≤ (-1000000000000000 : Int).tdiv (10 ^ (stripN p 9).2) - 1 → makeOk (w * 1000000000 + p) 9 = false) ∧
    (¬ w ≥ (1000000000000000 : Int).tdiv (10 ^ (stripN p 9).2) + 1 → ¬ w ≤ (-1000000000000000 : Int).tdiv (10 ^ (stripN p 9).2) - 1 →
      -2000000000000000 < w * 10 ^ (stripN p 9).2 ∧ w * 10 ^ (stripN p 9).2 < 2000000000000000 ∧ -1000000000 < (stripN p 9).1 ∧ (stripN p 9).1 < 1000000000) := by
  have e9 : (10 : Int) ^ 9 = 1000000000 := by decide
  have hs := strip_add 9 w p
  rw [e9] at hs
  obtain ⟨h1, _, _⟩ := strip_val 9 p
  obtain ⟨h2, h3⟩ := strip_part hp
  have h4 := p10_cut15 (stripN p 9).2 (by omega)
  have h5 := p10_pos (stripN p 9).2
  have h6 := p10_pos (15 - (stripN p 9).2)
  have h7 := p10_mono h1
  rw [e9] at h7
  have d1 : (1000000000000000 : Int).tdiv (10 ^ (stripN p 9).2) = 10 ^ (15 - (stripN p 9).2) := by
    rw [← h4]; exact Int.mul_tdiv_cancel_left _ (by omega)
  have d2 : (-1000000000000000 : Int).tdiv (10 ^ (stripN p 9).2) = -10 ^ (15 - (stripN p 9).2) := by
    rw [← h4, ← Int.mul_neg]; exact Int.mul_tdiv_cancel_left _ (by omega)
  rw [d1, d2]
  unfold makeOk
  rw [hs]
  simp only
  generalize (stripN p 9).1 = q at *
  generalize (10 : Int) ^ (15 - (stripN p 9).2) = y at *
  generalize hx : (10 : Int) ^ (stripN p 9).2 = x at *
  refine ⟨trivial, fun h => ?_, fun h => ?_, fun g1 g2 => ?_⟩
  · have : (y + 1) * x ≤ w * x := Int.mul_le_mul_of_nonneg_right h (by omega)
    rw [Int.add_mul, Int.one_mul, Int.mul_comm y x, h4] at this
    have g : ¬ (w * x + q < 1000000000000000) := by omega
    simp [numIs, g]
  · have : w * x ≤ (-y - 1) * x := Int.mul_le_mul_of_nonneg_right h (by omega)
    rw [Int.sub_mul, Int.one_mul, Int.neg_mul, Int.mul_comm y x, h4] at this
    have g : ¬ (-1000000000000000 < w * x + q) := by omega
    simp [numIs, g]
  · have a1 : w * x ≤ y * x := Int.mul_le_mul_of_nonneg_right (by omega) (by omega)
    have a2 : -y * x ≤ w * x := Int.mul_le_mul_of_nonneg_right (by omega) (by omega)
    rw [Int.neg_mul, Int.mul_comm y x, h4] at a2
    rw [Int.mul_comm y x, h4] at a1
    omega

theorem make_flat {c : Int} {k : Nat} (hk : k ≤ 9) : flatN (stripN c k).1 (stripN c k).2 = flatN c k := by
  obtain ⟨h1, h2, _⟩ := strip_val k c
  unfold flatN
  rw [show 9 - (stripN c k).2 = (k - (stripN c k).2) + (9 - k) by omega, Int.pow_add, ← Int.mul_assoc, h2]

theorem flat_inj {c c' : Int} : ∀ {k k' : Nat}, k ≤ 9 → k' ≤ 9 → (k = 0 ∨ c.tmod 10 ≠ 0) → (k' = 0 ∨ c'.tmod 10 ≠ 0) → flatN c k = flatN c' k' → k ≤ k' → c = c' ∧ k = k' := by
  intro k k' hk hk' h1 h2 he hle
  unfold flatN at he
  rw [show 9 - k = (k' - k) + (9 - k') by omega, Int.pow_add, ← Int.mul_assoc] at he
  have hp := p10_pos (9 - k')
  have he := Int.eq_of_mul_eq_mul_right (by omega) he
  by_cases e : k = k'
  · subst e
    simp at he
    exact ⟨he, rfl⟩
  · exfalso
    obtain ⟨j, hj⟩ : ∃ j, k' - k = j + 1 := ⟨k' - k - 1, by omega⟩
    rw [hj, Int.pow_succ, ← Int.mul_assoc] at he
    have hd : (10 : Int) ∣ c' := ⟨c * 10 ^ j, by rw [← he, Int.mul_comm]⟩
    exact h2.resolve_left (by omega) (Int.tmod_eq_zero_of_dvd hd)

theorem num_inj {c c' : Int} {k k' : Nat} (h : numIs c k = true) (h' : numIs c' k' = true) (he : flatN c k = flatN c' k') : c = c' ∧ k = k' := by
  simp only [numIs, Bool.and_eq_true, Bool.or_eq_true, decide_eq_true_eq, beq_iff_eq, bne_iff_ne] at h h'
  have a1 : k = 0 ∨ c.tmod 10 ≠ 0 := by rcases h.2 with g | g; exact .inl (by omega); exact .inr g
  have a2 : k' = 0 ∨ c'.tmod 10 ≠ 0 := by rcases h'.2 with g | g; exact .inl (by omega); exact .inr g
  by_cases hle : k ≤ k'
  · exact flat_inj (by omega) (by omega) a1 a2 he hle
  · obtain ⟨e1, e2⟩ := flat_inj (k := k') (k' := k) (by omega) (by omega) a2 a1 he.symm (by omega)
    exact ⟨e1.symm, e2.symm⟩
end Go.Pe.T

namespace Go.Pe.T
/-! ### Make, join, Add, Sub -/

/-- a number, or that it can't be held -/
def madeT (c : Int) (k : Nat) : PV := if makeOk c k then .tup [.d (numD (stripN c k).1 (stripN c k).2), .d (iv 0)] else .tup [.d (numD 0 0), .d (iv 8)]

theorem tdiv10 {c : Int} (hc : i64 c) (h : c.tmod 10 = 0) : i64 (c.tdiv 10) := by
  have := Int.mul_tdiv_add_tmod c 10
  unfold i64 at *
  omega

def MkLoop (c : Int) (k : Nat) : Prop :=
  V (F tab) r16_B0 (r16_S0 (.d (iv c)) (.d (iv k)) (.ibox [.d (iv 0), .d (iv 0)]) []) = some (.norm, r16_E0 (.d (iv (stripN c k).1)) (.d (iv (stripN c k).2)) (.ibox [.d (iv 0), .d (iv 0)]) [])

theorem mk_end (c : Int) : MkLoop c 0 := by
  unfold MkLoop
  have h1 : ((0 : Int) > 0) = False := eq_false (by omega)
  have h2 : (((0 : Nat) : Int) > 0) = False := eq_false (by omega)
  rw [r16_B0_eq, stripN]
  simp (disch := omega) only [go_sem, and_self, and_true, true_and, false_and, and_false, Nat.reduceAdd, Nat.reduceMul, Nat.reduceSub, Nat.reduceLeDiff, Nat.reduceLT, Nat.reduceGT, Nat.reduceEqDiff, Nat.reduceBEq, Int.reduceNeg, Int.reduceEq, Int.reduceLT, Int.reduceLE, Int.reduceBEq, Int.reduceToNat, Int.toNat_natCast, Int.natCast_zero, r16_C0, h1, h2]
theorem mk_stop (c : Int) (k : Nat) (h : c.tmod 10 ≠ 0) : MkLoop c (k + 1) := by
  unfold MkLoop
  have h1 : (((k + 1 : Nat) : Int) > 0) = True := eq_true (by omega)
  have h2 : (c.tmod 10 == 0) = false := by simpa using h
  have h3 : ((10 : Int) = 0) = False := eq_false (by omega)
  rw [r16_B0_eq, stripN, if_neg h]
  simp (disch := omega) only [go_sem, and_self, and_true, true_and, false_and, and_false, Nat.reduceAdd, Nat.reduceMul, Nat.reduceSub, Nat.reduceLeDiff, Nat.reduceLT, Nat.reduceGT, Nat.reduceEqDiff, Nat.reduceBEq, Int.reduceNeg, Int.reduceEq, Int.reduceLT, Int.reduceLE, Int.reduceBEq, Int.reduceToNat, Int.toNat_natCast, Int.natCast_zero, r16_C0, h1, h2, h3]
theorem mk_step (c : Int) (k : Nat) (hc : i64 c) (hk : k ≤ 100) (h : c.tmod 10 = 0) (ih : MkLoop (c.tdiv 10) k) : MkLoop c (k + 1) := by
  unfold MkLoop
  have h1 : (((k + 1 : Nat) : Int) > 0) = True := eq_true (by omega)
  have h2 : (c.tmod 10 == 0) = true := by simpa using h
  have h3 : ((10 : Int) = 0) = False := eq_false (by omega)
  have h4 : ((k + 1 : Nat) : Int) - 1 = (k : Int) := by omega
  have hd := tdiv10 hc h
  have w1 : IntKind.i64.wrap (c.tdiv 10) = c.tdiv 10 := w64 hd
  unfold MkLoop at ih
  rw [r16_B0_eq, stripN, if_pos h]
  simp (disch := omega) only [go_sem, and_self, and_true, true_and, false_and, and_false, Nat.reduceAdd, Nat.reduceMul, Nat.reduceSub, Nat.reduceLeDiff, Nat.reduceLT, Nat.reduceGT, Nat.reduceEqDiff, Nat.reduceBEq, Int.reduceNeg, Int.reduceEq, Int.reduceLT, Int.reduceLE, Int.reduceBEq, Int.reduceToNat, Int.toNat_natCast, Int.natCast_zero, r16_C0, h1, h2, h3, h4, w1, w64]
  exact ih
theorem mk_loop : ∀ (k : Nat) (c : Int), i64 c → k ≤ 100 → MkLoop c k
  | 0, c, _, _ => mk_end c
  | k + 1, c, hc, hk => by
    by_cases h : c.tmod 10 = 0
    · exact mk_step c k hc (by omega) h (mk_loop k _ (tdiv10 hc h) (by omega))
    · exact mk_stop c k h

theorem make_ok (c : Int) (k : Nat) (hc : i64 c) (hk : k ≤ 30) (hp : List Ent) : F tab 16 [.d (iv c), .d (iv k)] hp = some (.ret (madeT c k) hp) := by
  have hL := mk_loop k c hc (by omega)
  unfold MkLoop at hL
  have hI := numIs_ok (stripN c k).1 (stripN c k).2
  have h1 : ((k : Int) < 0) = False := eq_false (by omega)
  have h2 : ((k : Int) > 30) = False := eq_false (by omega)
  refine f16 rfl ?_
  simp (disch := omega) only [go_sem, and_self, and_true, true_and, false_and, and_false, Nat.reduceAdd, Nat.reduceMul, Nat.reduceSub, Nat.reduceLeDiff, Nat.reduceLT, Nat.reduceGT, Nat.reduceEqDiff, Nat.reduceBEq, Int.reduceNeg, Int.reduceEq, Int.reduceLT, Int.reduceLE, Int.reduceBEq, Int.reduceToNat, Int.toNat_natCast, Int.natCast_zero, r16_T, r16, h1, h2]
  rw [r16_B0_n]
  erw [hL]
  unfold madeT
  have e : makeOk c k = numIs (stripN c k).1 (stripN c k).2 := rfl
  rcases Bool.eq_false_or_eq_true (numIs (stripN c k).1 (stripN c k).2) with g | g
  · rw [e, g]
    simp (disch := omega) only [go_sem, and_self, and_true, true_and, false_and, and_false, Nat.reduceAdd, Nat.reduceMul, Nat.reduceSub, Nat.reduceLeDiff, Nat.reduceLT, Nat.reduceGT, Nat.reduceEqDiff, Nat.reduceBEq, Int.reduceNeg, Int.reduceEq, Int.reduceLT, Int.reduceLE, Int.reduceBEq, Int.reduceToNat, Int.toNat_natCast, Int.natCast_zero, hI, g]
  · rw [e, g]
    simp (disch := omega) only [go_sem, and_self, and_true, true_and, false_and, and_false, Nat.reduceAdd, Nat.reduceMul, Nat.reduceSub, Nat.reduceLeDiff, Nat.reduceLT, Nat.reduceGT, Nat.reduceEqDiff, Nat.reduceBEq, Int.reduceNeg, Int.reduceEq, Int.reduceLT, Int.reduceLE, Int.reduceBEq, Int.reduceToNat, Int.toNat_natCast, Int.natCast_zero, hI, g]

def JnLoop (w c : Int) (k : Nat) : Prop :=
  V (F tab) r63_B0 (r63_S0 (.d (iv w)) (.d (iv c)) (.ibox [.d (iv 0), .d (iv 0)]) (.d (iv k)) []) = some (.norm, r63_E0 (.d (iv w)) (.d (iv (stripN c k).1)) (.ibox [.d (iv 0), .d (iv 0)]) (.d (iv (stripN c k).2)) [])
theorem jn_end (w c : Int) : JnLoop w c 0 := by
  unfold JnLoop
  have h1 : ((0 : Int) > 0) = False := eq_false (by omega)
  have h2 : (((0 : Nat) : Int) > 0) = False := eq_false (by omega)
  rw [r63_B0_eq, stripN]
  simp (disch := omega) only [go_sem, and_self, and_true, true_and, false_and, and_false, Nat.reduceAdd, Nat.reduceMul, Nat.reduceSub, Nat.reduceLeDiff, Nat.reduceLT, Nat.reduceGT, Nat.reduceEqDiff, Nat.reduceBEq, Int.reduceNeg, Int.reduceEq, Int.reduceLT, Int.reduceLE, Int.reduceBEq, Int.reduceToNat, Int.toNat_natCast, Int.natCast_zero, r63_C0, h1, h2]
theorem jn_stop (w c : Int) (k : Nat) (h : c.tmod 10 ≠ 0) : JnLoop w c (k + 1) := by
  unfold JnLoop
  have h1 : (((k + 1 : Nat) : Int) > 0) = True := eq_true (by omega)
  have h2 : (c.tmod 10 == 0) = false := by simpa using h
  have h3 : ((10 : Int) = 0) = False := eq_false (by omega)
  rw [r63_B0_eq, stripN, if_neg h]
  simp (disch := omega) only [go_sem, and_self, and_true, true_and, false_and, and_false, Nat.reduceAdd, Nat.reduceMul, Nat.reduceSub, Nat.reduceLeDiff, Nat.reduceLT, Nat.reduceGT, Nat.reduceEqDiff, Nat.reduceBEq, Int.reduceNeg, Int.reduceEq, Int.reduceLT, Int.reduceLE, Int.reduceBEq, Int.reduceToNat, Int.toNat_natCast, Int.natCast_zero, r63_C0, h1, h2, h3]
theorem jn_step (w c : Int) (k : Nat) (hc : i64 c) (hk : k ≤ 100) (h : c.tmod 10 = 0) (ih : JnLoop w (c.tdiv 10) k) : JnLoop w c (k + 1) := by
  unfold JnLoop
  have h1 : (((k + 1 : Nat) : Int) > 0) = True := eq_true (by omega)
  have h2 : (c.tmod 10 == 0) = true := by simpa using h
  have h3 : ((10 : Int) = 0) = False := eq_false (by omega)
  have h4 : ((k + 1 : Nat) : Int) - 1 = (k : Int) := by omega
  have hd := tdiv10 hc h
  have w1 : IntKind.i64.wrap (c.tdiv 10) = c.tdiv 10 := w64 hd
  unfold JnLoop at ih
  rw [r63_B0_eq, stripN, if_pos h]
  simp (disch := omega) only [go_sem, and_self, and_true, true_and, false_and, and_false, Nat.reduceAdd, Nat.reduceMul, Nat.reduceSub, Nat.reduceLeDiff, Nat.reduceLT, Nat.reduceGT, Nat.reduceEqDiff, Nat.reduceBEq, Int.reduceNeg, Int.reduceEq, Int.reduceLT, Int.reduceLE, Int.reduceBEq, Int.reduceToNat, Int.toNat_natCast, Int.natCast_zero, r63_C0, h1, h2, h3, h4, w1, w64]
  exact ih
theorem jn_loop (w : Int) : ∀ (k : Nat) (c : Int), i64 c → k ≤ 100 → JnLoop w c k
  | 0, c, _, _ => jn_end w c
  | k + 1, c, hc, hk => by
    by_cases h : c.tmod 10 = 0
    · exact jn_step w c k hc (by omega) h (jn_loop w k _ (tdiv10 hc h) (by omega))
    · exact jn_stop w c k h
end Go.Pe.T

namespace Go.Pe.T

theorem strip_idem (T : Int) (k : Nat) : stripN (stripN T k).1 (stripN T k).2 = stripN T k := by
  obtain ⟨_, _, h3⟩ := strip_val k T
  rw [strip_self _ _ h3]

theorem made_idem (T : Int) (k : Nat) : madeT (stripN T k).1 (stripN T k).2 = madeT T k := by
  unfold madeT makeOk
  rw [strip_idem]

/-- what follows on the loop of join -/
theorem join_tail (W Q : Int) (s : Nat) (T : Int) (hs : s ≤ 9) (hT : stripN T 9 = (W * 10 ^ s + Q, s))
    (h1 : W ≥ (1000000000000000 : Int).tdiv (10 ^ s) + 1 → makeOk T 9 = false) (h2 : W ≤ (-1000000000000000 : Int).tdiv (10 ^ s) - 1 → makeOk T 9 = false)
    (h3 : ¬ W ≥ (1000000000000000 : Int).tdiv (10 ^ s) + 1 → ¬ W ≤ (-1000000000000000 : Int).tdiv (10 ^ s) - 1 → -2000000000000000 < W * 10 ^ s ∧ W * 10 ^ s < 2000000000000000 ∧ -1000000000 < Q ∧ Q < 1000000000) :
    (-1000000000000002 < (1000000000000000 : Int).tdiv (10 ^ s) ∧ (1000000000000000 : Int).tdiv (10 ^ s) < 1000000000000002) ∧ (-1000000000000002 < (-1000000000000000 : Int).tdiv (10 ^ s) ∧ (-1000000000000000 : Int).tdiv (10 ^ s) < 1000000000000002) ∧
    madeT (W * 10 ^ s + Q) s = madeT T 9 := by
  refine ⟨?_, ?_, ?_⟩
  · have := Int.natAbs_tdiv_le_natAbs 1000000000000000 (10 ^ s)
    omega
  · have := Int.natAbs_tdiv_le_natAbs (-1000000000000000) (10 ^ s)
    omega
  · have := made_idem T 9
    rw [hT] at this
    exact this

/-- what stands behind the loop of join -/
def joinTail : RCode := match r63_K2 () with
  | .seq _ (.seq _ (.seq _ c)) => c
  | c => c

set_option maxHeartbeats 1000000 in
theorem join_ok (w p : Int) (hw : -3000000000000000 ≤ w ∧ w ≤ 3000000000000000) (hp0 : -3000000000 ≤ p ∧ p ≤ 3000000000) (hp : List Ent) : F tab 63 [.d (iv w), .d (iv p)] hp = some (.ret (madeT (w * 1000000000 + p) 9) hp) := by
  have hm := Int.mul_tdiv_add_tmod p 1000000000
  have hm1 := Int.tmod_lt_of_pos p (show (0 : Int) < 1000000000 by omega)
  have hm2 := Int.lt_tmod_of_pos p (show (0 : Int) < 1000000000 by omega)
  have q1 : ((1000000000 : Int) = 0) = False := eq_false (by omega)
  have core : ∀ W P : Int, W * 1000000000 + P = w * 1000000000 + p → (-1000000000 < P ∧ P < 1000000000) → (-4000000000000000 ≤ W ∧ W ≤ 4000000000000000) →
      V (F tab) r63_B0 (r63_S0 (.d (iv W)) (.d (iv P)) (.ibox [.d (iv 0), .d (iv 0)]) (.d (iv 9)) []) = some (.norm, r63_E0 (.d (iv W)) (.d (iv (stripN P 9).1)) (.ibox [.d (iv 0), .d (iv 0)]) (.d (iv (stripN P 9).2)) []) ∧ fnEnd r63 hp (V (F tab) joinTail (r63_E0 (.d (iv W)) (.d (iv (stripN P 9).1)) (.ibox [.d (iv 0), .d (iv 0)]) (.d (iv (stripN P 9).2)) [])) = some (.ret (madeT (w * 1000000000 + p) 9) hp) := by
    intro W P hT hP hW
    have hL := jn_loop W 9 P (by unfold i64; omega) (by omega)
    unfold JnLoop at hL
    refine ⟨hL, ?_⟩
    simp only [joinTail, r63_K2]
    obtain ⟨j1, j2, j3, j4⟩ := join_math (w := W) hP
    rw [hT] at j1 j2 j3
    have hs : (stripN P 9).2 ≤ 9 := (strip_val 9 P).1
    have h10 := pow_ok (stripN P 9).2 (by omega)
    obtain ⟨t1, t2, t3⟩ := join_tail W (stripN P 9).1 (stripN P 9).2 _ hs j1 j2 j3 j4
    have hmk : ∀ hp, -2000000000000000 < W * 10 ^ (stripN P 9).2 → W * 10 ^ (stripN P 9).2 < 2000000000000000 → -1000000000 < (stripN P 9).1 → (stripN P 9).1 < 1000000000 →
        F tab 16 [.d (iv (W * 10 ^ (stripN P 9).2 + (stripN P 9).1)), .d (iv (stripN P 9).2)] hp = some (.ret (madeT (W * 10 ^ (stripN P 9).2 + (stripN P 9).1) (stripN P 9).2) hp) := fun hp a b c d => make_ok _ _ (by unfold i64; omega) (by omega) hp
    have hpos : ((10 : Int) ^ (stripN P 9).2 = 0) = False := eq_false (by have := p10_pos (stripN P 9).2; omega)
    generalize (stripN P 9).1 = Q at *
    generalize (stripN P 9).2 = s at *
    generalize (10 : Int) ^ s = x at *
    generalize hA : (1000000000000000 : Int).tdiv x = A at *
    generalize hB : (-1000000000000000 : Int).tdiv x = B at *
    by_cases g1 : W ≥ A + 1
    · have e := j2 g1
      have e2 : madeT (w * 1000000000 + p) 9 = .tup [.d (numD 0 0), .d (iv 8)] := by unfold madeT; rw [e]; rfl
      rw [e2]
      simp (disch := omega) only [go_sem, and_self, and_true, true_and, false_and, and_false, Nat.reduceAdd, Nat.reduceMul, Nat.reduceSub, Nat.reduceLeDiff, Nat.reduceLT, Nat.reduceGT, Nat.reduceEqDiff, Nat.reduceBEq, Int.reduceNeg, Int.reduceEq, Int.reduceLT, Int.reduceLE, Int.reduceBEq, Int.reduceToNat, Int.toNat_natCast, Int.natCast_zero, r63, h10, hpos, hA, w64, g1]
    · by_cases g2 : W ≤ B - 1
      · have e := j3 g2
        have e2 : madeT (w * 1000000000 + p) 9 = .tup [.d (numD 0 0), .d (iv 8)] := by unfold madeT; rw [e]; rfl
        rw [e2]
        simp (disch := omega) only [go_sem, and_self, and_true, true_and, false_and, and_false, Nat.reduceAdd, Nat.reduceMul, Nat.reduceSub, Nat.reduceLeDiff, Nat.reduceLT, Nat.reduceGT, Nat.reduceEqDiff, Nat.reduceBEq, Int.reduceNeg, Int.reduceEq, Int.reduceLT, Int.reduceLE, Int.reduceBEq, Int.reduceToNat, Int.toNat_natCast, Int.natCast_zero, r63, h10, hpos, hA, hB, w64, g1, g2]
      · obtain ⟨a, b, c, d⟩ := j4 g1 g2
        have hmk := fun hp => hmk hp a b c d
        rw [t3] at hmk
        have w1 : IntKind.i64.wrap (W * x) = W * x := w64 (by generalize W * x = Y at *; omega)
        have w2 : IntKind.i64.wrap (W * x + Q) = W * x + Q := w64 (by generalize W * x = Y at *; omega)
        unfold madeT at hmk ⊢
        rcases Bool.eq_false_or_eq_true (makeOk (w * 1000000000 + p) 9) with g | g
        · rw [g] at hmk ⊢
          simp only [if_true] at hmk ⊢
          simp (disch := omega) only [go_sem, and_self, and_true, true_and, false_and, and_false, Nat.reduceAdd, Nat.reduceMul, Nat.reduceSub, Nat.reduceLeDiff, Nat.reduceLT, Nat.reduceGT, Nat.reduceEqDiff, Nat.reduceBEq, Int.reduceNeg, Int.reduceEq, Int.reduceLT, Int.reduceLE, Int.reduceBEq, Int.reduceToNat, Int.toNat_natCast, Int.natCast_zero, r63, h10, hpos, hA, hB, w1, w2, w64, g1, g2, hmk, numD]
        · rw [g] at hmk ⊢
          simp only [Bool.false_eq_true, if_false] at hmk ⊢
          simp (disch := omega) only [go_sem, and_self, and_true, true_and, false_and, and_false, Nat.reduceAdd, Nat.reduceMul, Nat.reduceSub, Nat.reduceLeDiff, Nat.reduceLT, Nat.reduceGT, Nat.reduceEqDiff, Nat.reduceBEq, Int.reduceNeg, Int.reduceEq, Int.reduceLT, Int.reduceLE, Int.reduceBEq, Int.reduceToNat, Int.toNat_natCast, Int.natCast_zero, r63, h10, hpos, hA, hB, w1, w2, w64, g1, g2, hmk, numD]
  refine f63 rfl ?_
  by_cases c1 : w + p.tdiv 1000000000 > 0
  · have c3 : ¬ (w + p.tdiv 1000000000 < 0) := by omega
    by_cases c2 : p.tmod 1000000000 < 0
    · have c4 : ¬ (w + p.tdiv 1000000000 - 1 < 0) := by omega
      have := core (w + p.tdiv 1000000000 - 1) (p.tmod 1000000000 + 1000000000) (by omega) (by omega) (by omega)
      simp (disch := omega) only [go_sem, and_self, and_true, true_and, false_and, and_false, Nat.reduceAdd, Nat.reduceMul, Nat.reduceSub, Nat.reduceLeDiff, Nat.reduceLT, Nat.reduceGT, Nat.reduceEqDiff, Nat.reduceBEq, Int.reduceNeg, Int.reduceEq, Int.reduceLT, Int.reduceLE, Int.reduceBEq, Int.reduceToNat, Int.toNat_natCast, Int.natCast_zero, r63_T, r63, q1, w64, c1, c2, c3, c4]
      rw [r63_B0_n]
      erw [this.1]
      exact this.2
    · have := core (w + p.tdiv 1000000000) (p.tmod 1000000000) (by omega) (by omega) (by omega)
      simp (disch := omega) only [go_sem, and_self, and_true, true_and, false_and, and_false, Nat.reduceAdd, Nat.reduceMul, Nat.reduceSub, Nat.reduceLeDiff, Nat.reduceLT, Nat.reduceGT, Nat.reduceEqDiff, Nat.reduceBEq, Int.reduceNeg, Int.reduceEq, Int.reduceLT, Int.reduceLE, Int.reduceBEq, Int.reduceToNat, Int.toNat_natCast, Int.natCast_zero, r63_T, r63, q1, w64, c1, c2, c3]
      rw [r63_B0_n]
      erw [this.1]
      exact this.2
  · by_cases c3 : w + p.tdiv 1000000000 < 0
    · by_cases c4 : p.tmod 1000000000 > 0
      · have := core (w + p.tdiv 1000000000 + 1) (p.tmod 1000000000 - 1000000000) (by omega) (by omega) (by omega)
        simp (disch := omega) only [go_sem, and_self, and_true, true_and, false_and, and_false, Nat.reduceAdd, Nat.reduceMul, Nat.reduceSub, Nat.reduceLeDiff, Nat.reduceLT, Nat.reduceGT, Nat.reduceEqDiff, Nat.reduceBEq, Int.reduceNeg, Int.reduceEq, Int.reduceLT, Int.reduceLE, Int.reduceBEq, Int.reduceToNat, Int.toNat_natCast, Int.natCast_zero, r63_T, r63, q1, w64, c1, c3, c4]
        rw [r63_B0_n]
        erw [this.1]
        exact this.2
      · have := core (w + p.tdiv 1000000000) (p.tmod 1000000000) (by omega) (by omega) (by omega)
        simp (disch := omega) only [go_sem, and_self, and_true, true_and, false_and, and_false, Nat.reduceAdd, Nat.reduceMul, Nat.reduceSub, Nat.reduceLeDiff, Nat.reduceLT, Nat.reduceGT, Nat.reduceEqDiff, Nat.reduceBEq, Int.reduceNeg, Int.reduceEq, Int.reduceLT, Int.reduceLE, Int.reduceBEq, Int.reduceToNat, Int.toNat_natCast, Int.natCast_zero, r63_T, r63, q1, w64, c1, c3, c4]
        rw [r63_B0_n]
        erw [this.1]
        exact this.2
    · have := core (w + p.tdiv 1000000000) (p.tmod 1000000000) (by omega) (by omega) (by omega)
      simp (disch := omega) only [go_sem, and_self, and_true, true_and, false_and, and_false, Nat.reduceAdd, Nat.reduceMul, Nat.reduceSub, Nat.reduceLeDiff, Nat.reduceLT, Nat.reduceGT, Nat.reduceEqDiff, Nat.reduceBEq, Int.reduceNeg, Int.reduceEq, Int.reduceLT, Int.reduceLE, Int.reduceBEq, Int.reduceToNat, Int.toNat_natCast, Int.natCast_zero, r63_T, r63, q1, w64, c1, c3]
      rw [r63_B0_n]
      erw [this.1]
      exact this.2
end Go.Pe.T

namespace Go.Pe.T

theorem lives4_ev : evF tab 200 23 [] [] = some (.ret (.d (.bool true)) []) := by kernel_rfl
theorem lives4_ok (hp : List Ent) : F tab 23 [] hp = some (.ret (.d (.bool true)) hp) :=
  F_some.2 ⟨200, ((evF_nice (pf := pf) pf_ok 200).2 23 rfl _ _ _ _ lives4_ev).2 hp⟩

theorem made_yes {c : Int} {k : Nat} (h : makeOk c k = true) : madeT c k = .tup [.d (.agg [iv (stripN c k).1, iv (stripN c k).2]), .d (iv 0)] := by
  unfold madeT; rw [h]; rfl
theorem made_no {c : Int} {k : Nat} (h : makeOk c k = false) : madeT c k = .tup [.d (.agg [iv 0, iv 0]), .d (iv 8)] := by
  unfold madeT; rw [h]; rfl

theorem add_ok (c c' : Int) (k k' : Nat) (h : numIs c k = true) (h' : numIs c' k' = true) (hp : List Ent) :
    F tab 35 [.d (numD c k), .d (numD c' k')] hp = some (.ret (madeT (flatN c k + flatN c' k') 9) hp) := by
  obtain ⟨k1, e1, hk, hc⟩ := numIs_inv h
  obtain ⟨k2, e2, hk', hc'⟩ := numIs_inv h'
  obtain rfl : k = k1 := by omega
  obtain rfl : k' = k2 := by omega
  have h1 := both_ok c k c' k'
  rw [h, h'] at h1
  have h2 := cut_ok c k hk hc
  have h3 := cut_ok c' k' hk' hc'
  obtain ⟨b1, b2, b3, b4, b5, _⟩ := cut_bounds hk hc
  obtain ⟨d1, d2, d3, d4, d5, _⟩ := cut_bounds hk' hc'
  have hj := join_ok (cutU c k + cutU c' k') (cutV c k + cutV c' k') (by omega) (by omega)
  have eT : (cutU c k + cutU c' k') * 1000000000 + (cutV c k + cutV c' k') = flatN c k + flatN c' k' := by unfold flatN; omega
  rw [eT] at hj
  refine f35 rfl ?_
  rcases Bool.eq_false_or_eq_true (makeOk (flatN c k + flatN c' k') 9) with g | g
  · rw [made_yes g] at hj ⊢
    simp (disch := omega) only [go_sem, and_self, and_true, true_and, false_and, and_false, Nat.reduceAdd, Nat.reduceMul, Nat.reduceSub, Nat.reduceLeDiff, Nat.reduceLT, Nat.reduceGT, Nat.reduceEqDiff, Nat.reduceBEq, Int.reduceNeg, Int.reduceEq, Int.reduceLT, Int.reduceLE, Int.reduceBEq, Int.reduceToNat, Int.toNat_natCast, Int.natCast_zero, r35_T, r35, h1, h2, h3, hj, w64]
  · rw [made_no g] at hj ⊢
    simp (disch := omega) only [go_sem, and_self, and_true, true_and, false_and, and_false, Nat.reduceAdd, Nat.reduceMul, Nat.reduceSub, Nat.reduceLeDiff, Nat.reduceLT, Nat.reduceGT, Nat.reduceEqDiff, Nat.reduceBEq, Int.reduceNeg, Int.reduceEq, Int.reduceLT, Int.reduceLE, Int.reduceBEq, Int.reduceToNat, Int.toNat_natCast, Int.natCast_zero, r35_T, r35, h1, h2, h3, hj, w64]

theorem numIs_neg (c k : Int) : numIs (0 - c) k = numIs c k := by
  have e : (0 - c).tmod 10 = -(c.tmod 10) := by rw [Int.zero_sub, Int.neg_tmod]
  have e2 : ((0 - c).tmod 10 != 0) = (c.tmod 10 != 0) := by
    rw [e, Bool.eq_iff_iff]
    simp only [bne_iff_ne]
    omega
  have e3 : decide (-1000000000000000 < 0 - c) = decide (c < 1000000000000000) := by by_cases h : c < 1000000000000000 <;> simp [h] <;> omega
  have e4 : decide (0 - c < 1000000000000000) = decide (-1000000000000000 < c) := by by_cases h : -1000000000000000 < c <;> simp [h] <;> omega
  unfold numIs
  rw [e2, e3, e4]
  cases decide (0 ≤ k) <;> cases decide (k ≤ 9) <;> cases decide (c < 1000000000000000) <;> cases decide (-1000000000000000 < c) <;> rfl

theorem flat_neg (c : Int) (k : Nat) : flatN (0 - c) k = -flatN c k := by unfold flatN; rw [Int.zero_sub, Int.neg_mul]

theorem sub_ok (c c' : Int) (k k' : Nat) (h : numIs c k = true) (h' : numIs c' k' = true) (hp : List Ent) :
    F tab 34 [.d (numD c k), .d (numD c' k')] hp = some (.ret (madeT (flatN c k - flatN c' k') 9) hp) := by
  have h1 := both_ok c k c' k'
  rw [h, h'] at h1
  obtain ⟨k2, e2, hk', hc'⟩ := numIs_inv h'
  have hj := add_ok c (0 - c') k k' h (by rw [numIs_neg]; exact h')
  rw [flat_neg, show flatN c k + -flatN c' k' = flatN c k - flatN c' k' by omega] at hj
  refine f34 rfl ?_
  rcases Bool.eq_false_or_eq_true (makeOk (flatN c k - flatN c' k') 9) with g | g
  · rw [made_yes g] at hj ⊢
    simp (disch := omega) only [go_sem, and_self, and_true, true_and, false_and, and_false, Nat.reduceAdd, Nat.reduceMul, Nat.reduceSub, Nat.reduceLeDiff, Nat.reduceLT, Nat.reduceGT, Nat.reduceEqDiff, Nat.reduceBEq, Int.reduceNeg, Int.reduceEq, Int.reduceLT, Int.reduceLE, Int.reduceBEq, Int.reduceToNat, Int.toNat_natCast, Int.natCast_zero, r34_T, r34, h1, hj, w64]
  · rw [made_no g] at hj ⊢
    simp (disch := omega) only [go_sem, and_self, and_true, true_and, false_and, and_false, Nat.reduceAdd, Nat.reduceMul, Nat.reduceSub, Nat.reduceLeDiff, Nat.reduceLT, Nat.reduceGT, Nat.reduceEqDiff, Nat.reduceBEq, Int.reduceNeg, Int.reduceEq, Int.reduceLT, Int.reduceLE, Int.reduceBEq, Int.reduceToNat, Int.toNat_natCast, Int.natCast_zero, r34_T, r34, h1, hj, w64]

theorem sgn_zero {a b : Int} : sgn a b = 0 ↔ a = b := by
  unfold sgn; split
  · omega
  · split <;> omega
theorem sgn_le {a b : Int} : sgn a b ≤ 0 ↔ a ≤ b := by
  unfold sgn; split
  · omega
  · split <;> omega
theorem sgn_lt {a b : Int} : sgn a b < 0 ↔ a < b := by
  unfold sgn; split
  · omega
  · split <;> omega
theorem sgn_sub (a b : Int) : sgn (a - b) 0 = sgn a b := by
  unfold sgn; split <;> split <;> (try split) <;> (try split) <;> omega
end Go.Pe.T

namespace Go.Pe.T
theorem num4Is_ok (c s : Int) (hp : List Ent) : F tab 20 [.d (numD c s)] hp = some (.ret (.d (.bool (numIs c s))) hp) := by
  refine f20 rfl ?_
  by_cases h1 : s < 0
  · have g1 : ¬ (0 ≤ s) := by omega
    simp only [go_sem, and_self, and_true, true_and, false_and, and_false, Nat.reduceAdd, Nat.reduceMul, Nat.reduceSub, Nat.reduceLeDiff, Nat.reduceLT, Nat.reduceGT, Nat.reduceEqDiff, Nat.reduceBEq, Int.reduceNeg, Int.reduceEq, Int.reduceLT, Int.reduceLE, Int.reduceBEq, Int.reduceToNat, Int.toNat_natCast, Int.natCast_zero, r20_T, r20, numIs, h1, g1]
  · have g1 : 0 ≤ s := by omega
    by_cases h2 : s > 9
    · have g2 : ¬ (s ≤ 9) := by omega
      simp only [go_sem, and_self, and_true, true_and, false_and, and_false, Nat.reduceAdd, Nat.reduceMul, Nat.reduceSub, Nat.reduceLeDiff, Nat.reduceLT, Nat.reduceGT, Nat.reduceEqDiff, Nat.reduceBEq, Int.reduceNeg, Int.reduceEq, Int.reduceLT, Int.reduceLE, Int.reduceBEq, Int.reduceToNat, Int.toNat_natCast, Int.natCast_zero, r20_T, r20, numIs, h1, g1, h2, g2]
    · have g2 : s ≤ 9 := by omega
      by_cases h3 : c ≤ -1000000000000000
      · have g3 : ¬ (-1000000000000000 < c) := by omega
        have g4 : c < 1000000000000000 := by omega
        have h4 : ¬ c ≥ 1000000000000000 := by omega
        simp only [go_sem, and_self, and_true, true_and, false_and, and_false, Nat.reduceAdd, Nat.reduceMul, Nat.reduceSub, Nat.reduceLeDiff, Nat.reduceLT, Nat.reduceGT, Nat.reduceEqDiff, Nat.reduceBEq, Int.reduceNeg, Int.reduceEq, Int.reduceLT, Int.reduceLE, Int.reduceBEq, Int.reduceToNat, Int.toNat_natCast, Int.natCast_zero, r20_T, r20, numIs, h1, g1, h2, g2, h3, g3, h4, g4]
      · have g3 : -1000000000000000 < c := by omega
        by_cases h4 : c ≥ 1000000000000000
        · have g4 : ¬ (c < 1000000000000000) := by omega
          simp only [go_sem, and_self, and_true, true_and, false_and, and_false, Nat.reduceAdd, Nat.reduceMul, Nat.reduceSub, Nat.reduceLeDiff, Nat.reduceLT, Nat.reduceGT, Nat.reduceEqDiff, Nat.reduceBEq, Int.reduceNeg, Int.reduceEq, Int.reduceLT, Int.reduceLE, Int.reduceBEq, Int.reduceToNat, Int.toNat_natCast, Int.natCast_zero, r20_T, r20, numIs, h1, g1, h2, g2, h3, g3, h4, g4]
        · have g4 : c < 1000000000000000 := by omega
          by_cases h5 : s = 0
          · subst h5
            simp only [go_sem, and_self, and_true, true_and, false_and, and_false, Nat.reduceAdd, Nat.reduceMul, Nat.reduceSub, Nat.reduceLeDiff, Nat.reduceLT, Nat.reduceGT, Nat.reduceEqDiff, Nat.reduceBEq, Int.reduceNeg, Int.reduceEq, Int.reduceLT, Int.reduceLE, Int.reduceBEq, Int.reduceToNat, Int.toNat_natCast, Int.natCast_zero, r20_T, r20, numIs, h1, g1, h2, g2, h3, g3, h4, g4, Bool.true_or]
          · have g5 : (s == 0) = false := by simpa using h5
            simp only [go_sem, and_self, and_true, true_and, false_and, and_false, Nat.reduceAdd, Nat.reduceMul, Nat.reduceSub, Nat.reduceLeDiff, Nat.reduceLT, Nat.reduceGT, Nat.reduceEqDiff, Nat.reduceBEq, Int.reduceNeg, Int.reduceEq, Int.reduceLT, Int.reduceLE, Int.reduceBEq, Int.reduceToNat, Int.toNat_natCast, Int.natCast_zero, r20_T, r20, numIs, h1, g1, h2, g2, h3, g3, h4, g4, g5, Bool.false_or]

end Go.Pe.T

namespace Go.Pe.T
/-! ### ref04: whole numbers without bound, digit by digit -/

abbrev dl (l : List Int) : D := .sl (l.map iv)
abbrev longD (neg : Bool) (l : List Int) : D := .agg [.bool neg, .sl (l.map iv)]

theorem dl_all (l : List Int) : (l.map iv).all (fun y => y.width == 1) = true := by
  rw [List.all_eq_true]
  intro y hy
  obtain ⟨n, _, rfl⟩ := List.mem_map.1 hy
  rfl
theorem dl_get {l : List Int} {i : Nat} {d : Int} (h : l[i]? = some d) : (l.map iv)[i]? = some (iv d) := by rw [List.getElem?_map, h]; rfl
theorem cut_dl (l : List Int) (n : Nat) : cutD (l.map iv) 0 (n : Int) = (l.take n).map iv := by
  simp [cutD]

def trimN (l : List Int) : Nat → Nat
  | 0 => 0
  | n + 1 => if l[n]? = some 0 then trimN l n else n + 1
def trimL (l : List Int) : List Int := l.take (trimN l l.length)

theorem trimN_le (l : List Int) : ∀ n, trimN l n ≤ n
  | 0 => Nat.le_refl _
  | n + 1 => by
    unfold trimN
    split
    · have := trimN_le l n; omega
    · exact Nat.le_refl _

theorem trim_loop (neg : Bool) (l : List Int) (hl : l.length ≤ maxLen) (x2 : List PV) : ∀ n, n ≤ l.length →
    V (F tab) r43_B0 (r43_S0 (.ibox [.d (.bool neg), .d (.sl (l.map iv))]) (.ibox x2) (.d (iv n)) []) = some (.norm, r43_E0 (.ibox [.d (.bool neg), .d (.sl (l.map iv))]) (.ibox x2) (.d (iv (trimN l n))) [])
  | 0, hn => by
    rw [r43_B0_eq]
    simp only [go_sem, and_self, and_true, true_and, false_and, and_false, Nat.reduceAdd, Nat.reduceMul, Nat.reduceSub, Nat.reduceLeDiff, Nat.reduceLT, Nat.reduceGT, Nat.reduceEqDiff, Nat.reduceBEq, Int.reduceNeg, Int.reduceEq, Int.reduceLT, Int.reduceLE, Int.reduceBEq, Int.reduceToNat, Int.toNat_natCast, Int.natCast_zero, r43_C0, trimN, Int.natCast_zero, gt_iff_lt, Int.lt_irrefl]
  | n + 1, hn => by
    have hmx : maxLen ≤ 9223372036854775807 := by decide
    have h1 : ((0 : Int) < ((n + 1 : Nat) : Int)) = True := eq_true (by omega)
    have hd : ∃ d, l[n]? = some d := ⟨l[n], List.getElem?_eq_getElem (by omega)⟩
    obtain ⟨d, hd⟩ := hd
    have h2 : (l.map iv)[n]? = some (iv d) := dl_get hd
    have h3 : (((n + 1 : Nat) : Int) - 1) = (n : Int) := by omega
    have h4 : (0 ≤ (n : Int)) = True := by simp
    have ih := trim_loop neg l hl x2 n (by omega)
    rw [r43_B0_eq]
    by_cases h0 : d = 0
    · subst h0
      have e : trimN l (n + 1) = trimN l n := by simp [trimN, hd]
      rw [e]
      simp (disch := omega) only [go_sem, and_self, and_true, true_and, false_and, and_false, Nat.reduceAdd, Nat.reduceMul, Nat.reduceSub, Nat.reduceLeDiff, Nat.reduceLT, Nat.reduceGT, Nat.reduceEqDiff, Nat.reduceBEq, Int.reduceNeg, Int.reduceEq, Int.reduceLT, Int.reduceLE, Int.reduceBEq, Int.reduceToNat, Int.toNat_natCast, Int.natCast_zero, r43_C0, gt_iff_lt, h1, h3, w64, h4, h2, elemD, List.getElem?_cons_zero]
      exact ih
    · have e : trimN l (n + 1) = n + 1 := by simp [trimN, hd, h0]
      have h5 : (d == 0) = false := by simpa using h0
      rw [e]
      simp (disch := omega) only [go_sem, and_self, and_true, true_and, false_and, and_false, Nat.reduceAdd, Nat.reduceMul, Nat.reduceSub, Nat.reduceLeDiff, Nat.reduceLT, Nat.reduceGT, Nat.reduceEqDiff, Nat.reduceBEq, Int.reduceNeg, Int.reduceEq, Int.reduceLT, Int.reduceLE, Int.reduceBEq, Int.reduceToNat, Int.toNat_natCast, Int.natCast_zero, r43_C0, gt_iff_lt, h1, h3, w64, h4, h2, h5]

theorem trim_ok (neg : Bool) (l : List Int) (hl : l.length ≤ maxLen) (hp : List Ent) :
    F tab 43 [.d (longD neg l)] hp = some (.ret (.d (longD (neg && trimN l l.length != 0) (trimL l))) hp) := by
  refine f43 rfl ?_
  have hL := trim_loop neg l hl [.d (.bool false), .nilsl] l.length (Nat.le_refl _)
  have hle := trimN_le l l.length
  simp (disch := omega) only [go_sem, and_self, and_true, true_and, false_and, and_false, Nat.reduceAdd, Nat.reduceMul, Nat.reduceSub, Nat.reduceLeDiff, Nat.reduceLT, Nat.reduceGT, Nat.reduceEqDiff, Nat.reduceBEq, Int.reduceNeg, Int.reduceEq, Int.reduceLT, Int.reduceLE, Int.reduceBEq, Int.reduceToNat, Int.toNat_natCast, Int.natCast_zero, r43_T, r43, List.length_map]
  rw [r43_B0_n]
  erw [hL]
  have h1 : (0 ≤ ((trimN l l.length : Nat) : Int)) = True := by simp
  have h2 : (((trimN l l.length : Nat) : Int) ≤ (l.length : Int)) = True := by simp; omega
  by_cases h0 : trimN l l.length = 0
  · have h3 : (((trimN l l.length : Nat) : Int) == 0) = true := by simp [h0]
    have h4 : (trimN l l.length != 0) = false := by simp [h0]
    simp (disch := omega) only [go_sem, and_self, and_true, true_and, false_and, and_false, Nat.reduceAdd, Nat.reduceMul, Nat.reduceSub, Nat.reduceLeDiff, Nat.reduceLT, Nat.reduceGT, Nat.reduceEqDiff, Nat.reduceBEq, Int.reduceNeg, Int.reduceEq, Int.reduceLT, Int.reduceLE, Int.reduceBEq, Int.reduceToNat, Int.toNat_natCast, Int.natCast_zero, dl_all, cut_dl, List.length_map, h1, h2, h3, h4, trimL, decide_true, Int.le_refl]
  · have h3 : (((trimN l l.length : Nat) : Int) == 0) = false := by simp; omega
    have h4 : (trimN l l.length != 0) = true := by simp [h0]
    simp (disch := omega) only [go_sem, and_self, and_true, true_and, false_and, and_false, Nat.reduceAdd, Nat.reduceMul, Nat.reduceSub, Nat.reduceLeDiff, Nat.reduceLT, Nat.reduceGT, Nat.reduceEqDiff, Nat.reduceBEq, Int.reduceNeg, Int.reduceEq, Int.reduceLT, Int.reduceLE, Int.reduceBEq, Int.reduceToNat, Int.toNat_natCast, Int.natCast_zero, dl_all, cut_dl, List.length_map, h1, h2, h3, h4, trimL, decide_true, Int.le_refl]
end Go.Pe.T

namespace Go.Pe.T

/-! ### Shift, Of -/

theorem shift_loop (n : Nat) (hn : n ≤ 1000) (x2 x4 : List PV) : ∀ (j i : Nat), i + j = n →
    V (F tab) r44_B0 (r44_S0 (.d (iv n)) (.ibox x2) (.ibox x4) (.own 3 ((List.replicate i 0).map iv)) (.d (iv i)) []) =
      some (.norm, r44_E0 (.ibox x2) (.ibox x4) (.own 3 ((List.replicate n 0).map iv)) [])
  | 0, i, hi => by
    obtain rfl : i = n := by omega
    rw [r44_B0_eq]
    simp only [go_sem, and_self, and_true, true_and, false_and, and_false, Nat.reduceAdd, Nat.reduceMul, Nat.reduceSub, Nat.reduceLeDiff, Nat.reduceLT, Nat.reduceGT, Nat.reduceEqDiff, Nat.reduceBEq, Int.reduceNeg, Int.reduceEq, Int.reduceLT, Int.reduceLE, Int.reduceBEq, Int.reduceToNat, Int.toNat_natCast, Int.natCast_zero, r44_C0, Int.lt_irrefl]
  | j + 1, i, hi => by
    have h1 : ((i : Int) < (n : Int)) = True := eq_true (by omega)
    have h2 : ((i + 1) * 8 ≤ maxRow) = True := eq_true (by unfold maxRow; omega)
    have ih := shift_loop n hn x2 x4 j (i + 1) (by omega)
    rw [List.replicate_succ', List.map_append] at ih
    rw [r44_B0_eq]
    simp (disch := omega) only [go_sem, and_self, and_true, true_and, false_and, and_false, Nat.reduceAdd, Nat.reduceMul, Nat.reduceSub, Nat.reduceLeDiff, Nat.reduceLT, Nat.reduceGT, Nat.reduceEqDiff, Nat.reduceBEq, Int.reduceNeg, Int.reduceEq, Int.reduceLT, Int.reduceLE, Int.reduceBEq, Int.reduceToNat, Int.toNat_natCast, Int.natCast_zero, r44_C0, h1, w64, List.length_map, List.length_replicate, h2]
    exact ih

/-- so many noughts below -/
def shiftL (l : List Int) (n : Nat) : List Int := trimL (List.replicate n 0 ++ l)

theorem shift_ok (neg : Bool) (l : List Int) (hl : l.length ≤ 1000) (n : Nat) (hn : n ≤ 1000) (hp : List Ent) :
    F tab 44 [.d (longD neg l), .d (iv n)] hp = some (.ret (.d (longD (neg && trimN (List.replicate n 0 ++ l) (n + l.length) != 0) (shiftL l n))) hp) := by
  refine f44 rfl ?_
  have hL := shift_loop n hn [.d (.bool neg), .d (.sl (l.map iv))] [.d (.bool false), .nilsl] n 0 (by omega)
  have hT := trim_ok neg (List.replicate n 0 ++ l) (by have : maxLen = 9223372036854775807 := by decide
                                                       simp only [List.length_append, List.length_replicate]; omega)
  have h2 : ((n + l.length) * 8 ≤ maxRow) = True := eq_true (by unfold maxRow; omega)
  simp only [List.length_append, List.length_replicate] at hT
  simp (disch := omega) only [go_sem, and_self, and_true, true_and, false_and, and_false, Nat.reduceAdd, Nat.reduceMul, Nat.reduceSub, Nat.reduceLeDiff, Nat.reduceLT, Nat.reduceGT, Nat.reduceEqDiff, Nat.reduceBEq, Int.reduceNeg, Int.reduceEq, Int.reduceLT, Int.reduceLE, Int.reduceBEq, Int.reduceToNat, Int.toNat_natCast, Int.natCast_zero, r44_T, r44, List.length_map]
  rw [r44_B0_n, r44_B0_z5]
  erw [hL]
  simp (disch := omega) only [go_sem, and_self, and_true, true_and, false_and, and_false, Nat.reduceAdd, Nat.reduceMul, Nat.reduceSub, Nat.reduceLeDiff, Nat.reduceLT, Nat.reduceGT, Nat.reduceEqDiff, Nat.reduceBEq, Int.reduceNeg, Int.reduceEq, Int.reduceLT, Int.reduceLE, Int.reduceBEq, Int.reduceToNat, Int.toNat_natCast, Int.natCast_zero, List.length_map, List.length_replicate, h2, ← List.map_append, hT, dl_all, shiftL]

/-- a number's digits, the lowest first -/
def digs (n : Nat) : List Int := if n = 0 then [] else ((n % 10 : Nat) : Int) :: digs (n / 10)
  termination_by n
  decreasing_by omega

/-- a row that may be nothing as yet -/
def rowP : List Int → PV
  | [] => .nilsl
  | x :: l => .own 3 (iv x :: l.map iv)

theorem of_loop (neg : Bool) (x2 : List PV) : ∀ (m : Nat) (c : Int) (out : List Int), c.natAbs = m → i64 c → out.length ≤ 100 - (digs m).length → (digs m).length ≤ 50 →
    V (F tab) r18_B0 (r18_S0 (.d (iv c)) (.ibox x2) (.ibox [.d (.bool neg), rowP out]) []) =
      some (.norm, r18_E0 (.ibox x2) (.ibox [.d (.bool neg), rowP (out ++ digs m)]) []) := by
  intro m
  induction m using Nat.strongRecOn with
  | _ m ih =>
    intro c out hm hc hlen hd
    by_cases h0 : c = 0
    · subst h0
      have : m = 0 := by omega
      subst this
      have h1 : ((0 : Int) != 0) = false := by decide
      rw [r18_B0_eq]
      have e : digs 0 = [] := by rw [digs]; rfl
      rw [e]
      simp only [go_sem, and_self, and_true, true_and, false_and, and_false, Nat.reduceAdd, Nat.reduceMul, Nat.reduceSub, Nat.reduceLeDiff, Nat.reduceLT, Nat.reduceGT, Nat.reduceEqDiff, Nat.reduceBEq, Int.reduceNeg, Int.reduceEq, Int.reduceLT, Int.reduceLE, Int.reduceBEq, Int.reduceToNat, Int.toNat_natCast, Int.natCast_zero, r18_C0, h1, List.append_nil]
    · have hm0 : m ≠ 0 := by omega
      have h1 : (c != 0) = true := by simpa using h0
      have e : digs m = ((m % 10 : Nat) : Int) :: digs (m / 10) := by rw [digs, if_neg hm0]
      rw [e] at hlen hd ⊢
      simp only [List.length_cons] at hlen hd
      have hq : (c.tdiv 10).natAbs = m / 10 := by rw [Int.natAbs_tdiv, hm]; rfl
      have hr : (c.tmod 10).natAbs = m % 10 := by rw [Int.natAbs_tmod, hm]; rfl
      unfold i64 at hc
      have ihc := ih (m / 10) (by omega) (c.tdiv 10) (out ++ [((m % 10 : Nat) : Int)]) hq (by unfold i64; omega) (by simp; omega) (by omega)
      rw [List.append_assoc, List.singleton_append] at ihc
      have hb : -10 < c.tmod 10 ∧ c.tmod 10 < 10 := by omega
      have hb2 : -9223372036854775808 ≤ c.tdiv 10 ∧ c.tdiv 10 ≤ 9223372036854775807 := by omega
      rw [r18_B0_eq]
      have h8 : (8 ≤ maxRow) = True := eq_true (by unfold maxRow; omega)
      cases out with
      | nil =>
        by_cases hs : c.tmod 10 < 0
        · have e3 : 0 - c.tmod 10 = ((m % 10 : Nat) : Int) := by omega
          have e4 : IntKind.i64.wrap (0 - c.tmod 10) = ((m % 10 : Nat) : Int) := by rw [w64 (by omega), e3]
          simp (disch := omega) only [go_sem, and_self, and_true, true_and, false_and, and_false, Nat.reduceAdd, Nat.reduceMul, Nat.reduceSub, Nat.reduceLeDiff, Nat.reduceLT, Nat.reduceGT, Nat.reduceEqDiff, Nat.reduceBEq, Int.reduceNeg, Int.reduceEq, Int.reduceLT, Int.reduceLE, Int.reduceBEq, Int.reduceToNat, Int.toNat_natCast, Int.natCast_zero, r18_C0, h1, hs, e4, w64, List.length_map, h8, rowP]
          exact ihc
        · have e3 : c.tmod 10 = ((m % 10 : Nat) : Int) := by omega
          simp (disch := omega) only [go_sem, and_self, and_true, true_and, false_and, and_false, Nat.reduceAdd, Nat.reduceMul, Nat.reduceSub, Nat.reduceLeDiff, Nat.reduceLT, Nat.reduceGT, Nat.reduceEqDiff, Nat.reduceBEq, Int.reduceNeg, Int.reduceEq, Int.reduceLT, Int.reduceLE, Int.reduceBEq, Int.reduceToNat, Int.toNat_natCast, Int.natCast_zero, r18_C0, h1, hs, w64, List.length_map, h8, rowP]
          rw [e3]
          exact ihc
      | cons x l =>
        simp only [List.length_cons] at hlen
        have h2 : ((l.length + 1 + 1) * 8 ≤ maxRow) = True := eq_true (by unfold maxRow; omega)
        have ihc' : V (F tab) r18_B0 (r18_S0 (.d (iv (c.tdiv 10))) (.ibox x2) (.ibox [.d (.bool neg), .own 3 (iv x :: (l.map iv ++ [iv ((m % 10 : Nat) : Int)]))]) []) =
            some (.norm, r18_E0 (.ibox x2) (.ibox [.d (.bool neg), rowP (x :: l ++ ((m % 10 : Nat) : Int) :: digs (m / 10))]) []) := by
          rw [← ihc]
          simp only [List.cons_append, rowP, List.map_append, List.map_cons, List.map_nil]
        by_cases hs : c.tmod 10 < 0
        · have e3 : 0 - c.tmod 10 = ((m % 10 : Nat) : Int) := by omega
          have e4 : IntKind.i64.wrap (0 - c.tmod 10) = ((m % 10 : Nat) : Int) := by rw [w64 (by omega), e3]
          simp (disch := omega) only [go_sem, and_self, and_true, true_and, false_and, and_false, Nat.reduceAdd, Nat.reduceMul, Nat.reduceSub, Nat.reduceLeDiff, Nat.reduceLT, Nat.reduceGT, Nat.reduceEqDiff, Nat.reduceBEq, Int.reduceNeg, Int.reduceEq, Int.reduceLT, Int.reduceLE, Int.reduceBEq, Int.reduceToNat, Int.toNat_natCast, Int.natCast_zero, r18_C0, h1, hs, e4, w64, List.length_map, h2, rowP]
          exact ihc'
        · have e3 : c.tmod 10 = ((m % 10 : Nat) : Int) := by omega
          simp (disch := omega) only [go_sem, and_self, and_true, true_and, false_and, and_false, Nat.reduceAdd, Nat.reduceMul, Nat.reduceSub, Nat.reduceLeDiff, Nat.reduceLT, Nat.reduceGT, Nat.reduceEqDiff, Nat.reduceBEq, Int.reduceNeg, Int.reduceEq, Int.reduceLT, Int.reduceLE, Int.reduceBEq, Int.reduceToNat, Int.toNat_natCast, Int.natCast_zero, r18_C0, h1, hs, w64, List.length_map, h2, rowP]
          rw [e3]
          exact ihc'

theorem digs_len : ∀ (k n : Nat), n < 10 ^ k → (digs n).length ≤ k
  | 0, n, h => by
    have : n = 0 := by simpa using h
    subst this
    rw [digs]; simp
  | k + 1, n, h => by
    rw [digs]
    split
    · simp
    · have := digs_len k (n / 10) (by rw [Nat.pow_succ] at h; omega)
      simp only [List.length_cons]
      omega

theorem of_ok (c : Int) (hc : -1000000000000000000 < c ∧ c < 1000000000000000000) (hp : List Ent) :
    F tab 18 [.d (iv c)] hp = some (.ret (.d (longD (decide (c < 0)) (digs c.natAbs))) hp) := by
  refine f18 rfl ?_
  have hd := digs_len 18 c.natAbs (by have : (10 : Nat) ^ 18 = 1000000000000000000 := by decide
                                      omega)
  have hL := of_loop (decide (c < 0)) [.d (.bool false), .nilsl] c.natAbs c [] rfl (by unfold i64; omega) (by simp) (by omega)
  simp (disch := omega) only [go_sem, and_self, and_true, true_and, false_and, and_false, Nat.reduceAdd, Nat.reduceMul, Nat.reduceSub, Nat.reduceLeDiff, Nat.reduceLT, Nat.reduceGT, Nat.reduceEqDiff, Nat.reduceBEq, Int.reduceNeg, Int.reduceEq, Int.reduceLT, Int.reduceLE, Int.reduceBEq, Int.reduceToNat, Int.toNat_natCast, Int.natCast_zero, r18_T, r18]
  rw [r18_B0_n]
  erw [hL]
  rw [List.nil_append]
  cases digs c.natAbs with
  | nil => simp (disch := omega) only [go_sem, and_self, and_true, true_and, false_and, and_false, Nat.reduceAdd, Nat.reduceMul, Nat.reduceSub, Nat.reduceLeDiff, Nat.reduceLT, Nat.reduceGT, Nat.reduceEqDiff, Nat.reduceBEq, Int.reduceNeg, Int.reduceEq, Int.reduceLT, Int.reduceLE, Int.reduceBEq, Int.reduceToNat, Int.toNat_natCast, Int.natCast_zero, rowP]; rfl
  | cons x l => simp (disch := omega) only [go_sem, and_self, and_true, true_and, false_and, and_false, Nat.reduceAdd, Nat.reduceMul, Nat.reduceSub, Nat.reduceLeDiff, Nat.reduceLT, Nat.reduceGT, Nat.reduceEqDiff, Nat.reduceBEq, Int.reduceNeg, Int.reduceEq, Int.reduceLT, Int.reduceLE, Int.reduceBEq, Int.reduceToNat, Int.toNat_natCast, Int.natCast_zero, rowP]; rfl
end Go.Pe.T

namespace Go.Pe.T

/-! ### sum, less, above -/

def digit (d : Int) : Prop := 0 ≤ d ∧ d ≤ 9
def Digs (l : List Int) : Prop := ∀ d ∈ l, digit d

/-- the sum of sizes, so much carried -/
def sumL (a b : List Int) (c : Int) : Nat → List Int
  | 0 => []
  | k + 1 => if a = [] ∧ b = [] ∧ c ≤ 0 then [] else ((c + a.headD 0 + b.headD 0) % 10) :: sumL a.tail b.tail ((c + a.headD 0 + b.headD 0) / 10) k

theorem drop_head {l : List Int} {i : Nat} : (l.drop i).headD 0 = (l[i]?).getD 0 := by
  rw [List.headD_eq_head?_getD, List.head?_drop]
theorem drop_tail' {l : List Int} {i : Nat} : (l.drop i).tail = l.drop (i + 1) := by simp

theorem sum_loop (a b : List Int) (ha : Digs a) (hb : Digs b) (hla : a.length ≤ 1000) (hlb : b.length ≤ 1000) : ∀ (k i : Nat) (c : Int) (out : List Int), 0 ≤ c → c ≤ 1 → out.length = i → max a.length b.length + 1 < i + k → i ≤ max a.length b.length + 1 → (max a.length b.length < i → c = 0) →
    V (F tab) r83_B0 (r83_S0 (.d (.sl (a.map iv))) (.d (.sl (b.map iv))) (.own 3 (out.map iv)) (.d (iv c)) (.d (iv i)) []) =
      some (.norm, r83_E0 (.own 3 ((out ++ sumL (a.drop i) (b.drop i) c k).map iv)) [])
  | 0, i, c, out, h0, h1, hl, hk, _, _ => by omega
  | k + 1, i, c, out, h0, h1, hl, hk, hi, hz => by
    rw [r83_B0_eq]
    have ea : a.drop i = [] ↔ ¬ i < a.length := by simp
    have eb : b.drop i = [] ↔ ¬ i < b.length := by simp
    by_cases hend : a.drop i = [] ∧ b.drop i = [] ∧ c ≤ 0
    · have e : sumL (a.drop i) (b.drop i) c (k + 1) = [] := by rw [sumL, if_pos hend]
      rw [e, List.append_nil]
      obtain ⟨x1, x2, x3⟩ := hend
      have g1 : ((i : Int) < (a.length : Int)) = False := eq_false (by have := ea.1 x1; omega)
      have g2 : ((i : Int) < (b.length : Int)) = False := eq_false (by have := eb.1 x2; omega)
      have g3 : (c > 0) = False := eq_false (by omega)
      simp only [go_sem, and_self, and_true, true_and, false_and, and_false, Nat.reduceAdd, Nat.reduceMul, Nat.reduceSub, Nat.reduceLeDiff, Nat.reduceLT, Nat.reduceGT, Nat.reduceEqDiff, Nat.reduceBEq, Int.reduceNeg, Int.reduceEq, Int.reduceLT, Int.reduceLE, Int.reduceBEq, Int.reduceToNat, Int.toNat_natCast, Int.natCast_zero, r83_C0, List.length_map, g1, g2, g3]
    · have e : sumL (a.drop i) (b.drop i) c (k + 1) = ((c + (a.drop i).headD 0 + (b.drop i).headD 0) % 10) :: sumL (a.drop i).tail (b.drop i).tail ((c + (a.drop i).headD 0 + (b.drop i).headD 0) / 10) k := by rw [sumL, if_neg hend]
      rw [e, drop_tail', drop_tail', drop_head, drop_head]
      have nx : ∀ n : Int, 0 ≤ n → n ≤ 19 → (i < max a.length b.length ∨ (n ≤ 1 ∧ i ≤ max a.length b.length)) → n.tmod 10 = n % 10 ∧ n.tdiv 10 = n / 10 ∧ 
          V (F tab) r83_B0 (r83_S0 (.d (.sl (a.map iv))) (.d (.sl (b.map iv))) (.own 3 (out.map iv ++ [iv (n % 10)])) (.d (iv (n / 10))) (.d (iv ((i : Int) + 1))) []) =
            some (.norm, r83_E0 (.own 3 ((out ++ (n % 10) :: sumL (a.drop (i + 1)) (b.drop (i + 1)) (n / 10) k).map iv)) []) := by
        intro n hn0 hn1 hn2
        refine ⟨Int.tmod_eq_emod_of_nonneg hn0, Int.tdiv_eq_ediv_of_nonneg hn0, ?_⟩
        have ih := sum_loop a b ha hb hla hlb k (i + 1) (n / 10) (out ++ [n % 10]) (by omega) (by omega) (by simp [hl]) (by omega) (by omega) (by omega)
        rw [List.append_assoc, List.singleton_append, List.map_append] at ih
        exact ih
      have h8 : ((out.length + 1) * 8 ≤ maxRow) = True := eq_true (by unfold maxRow; omega)
      have hi0 : (0 ≤ (i : Int)) = True := eq_true (by omega)
      by_cases g1 : i < a.length
      · have f1 : ((i : Int) < (a.length : Int)) = True := eq_true (by omega)
        have da := ha a[i] (List.getElem_mem g1)
        have va : (a.map iv)[i]? = some (iv a[i]) := dl_get (List.getElem?_eq_getElem g1)
        have wa : (a[i]?).getD 0 = a[i] := by simp [g1]
        unfold digit at da
        by_cases g2 : i < b.length
        · have f2 : ((i : Int) < (b.length : Int)) = True := eq_true (by omega)
          have db := hb b[i] (List.getElem_mem g2)
          have vb : (b.map iv)[i]? = some (iv b[i]) := dl_get (List.getElem?_eq_getElem g2)
          have wb : (b[i]?).getD 0 = b[i] := by simp [g2]
          unfold digit at db
          rw [wa, wb]
          obtain ⟨m1, m2, m3⟩ := nx (c + a[i] + b[i]) (by omega) (by omega) (by omega)
          simp (disch := omega) only [go_sem, and_self, and_true, true_and, false_and, and_false, Nat.reduceAdd, Nat.reduceMul, Nat.reduceSub, Nat.reduceLeDiff, Nat.reduceLT, Nat.reduceGT, Nat.reduceEqDiff, Nat.reduceBEq, Int.reduceNeg, Int.reduceEq, Int.reduceLT, Int.reduceLE, Int.reduceBEq, Int.reduceToNat, Int.toNat_natCast, Int.natCast_zero, r83_C0, List.length_map, f1, f2, hi0, va, vb, w64, h8, m1, m2]
          exact m3
        · have f2 : ((i : Int) < (b.length : Int)) = False := eq_false (by omega)
          have wb : (b[i]?).getD 0 = 0 := by simp [List.getElem?_eq_none (Nat.le_of_not_lt g2)]
          rw [wa, wb, Int.add_zero]
          obtain ⟨m1, m2, m3⟩ := nx (c + a[i]) (by omega) (by omega) (by omega)
          simp (disch := omega) only [go_sem, and_self, and_true, true_and, false_and, and_false, Nat.reduceAdd, Nat.reduceMul, Nat.reduceSub, Nat.reduceLeDiff, Nat.reduceLT, Nat.reduceGT, Nat.reduceEqDiff, Nat.reduceBEq, Int.reduceNeg, Int.reduceEq, Int.reduceLT, Int.reduceLE, Int.reduceBEq, Int.reduceToNat, Int.toNat_natCast, Int.natCast_zero, r83_C0, List.length_map, f1, f2, hi0, va, w64, h8, m1, m2]
          exact m3
      · have f1 : ((i : Int) < (a.length : Int)) = False := eq_false (by omega)
        have wa : (a[i]?).getD 0 = 0 := by simp [List.getElem?_eq_none (Nat.le_of_not_lt g1)]
        by_cases g2 : i < b.length
        · have f2 : ((i : Int) < (b.length : Int)) = True := eq_true (by omega)
          have db := hb b[i] (List.getElem_mem g2)
          have vb : (b.map iv)[i]? = some (iv b[i]) := dl_get (List.getElem?_eq_getElem g2)
          have wb : (b[i]?).getD 0 = b[i] := by simp [g2]
          unfold digit at db
          rw [wa, wb, Int.add_zero]
          obtain ⟨m1, m2, m3⟩ := nx (c + b[i]) (by omega) (by omega) (by omega)
          simp (disch := omega) only [go_sem, and_self, and_true, true_and, false_and, and_false, Nat.reduceAdd, Nat.reduceMul, Nat.reduceSub, Nat.reduceLeDiff, Nat.reduceLT, Nat.reduceGT, Nat.reduceEqDiff, Nat.reduceBEq, Int.reduceNeg, Int.reduceEq, Int.reduceLT, Int.reduceLE, Int.reduceBEq, Int.reduceToNat, Int.toNat_natCast, Int.natCast_zero, r83_C0, List.length_map, f1, f2, hi0, vb, w64, h8, m1, m2]
          exact m3
        · have f2 : ((i : Int) < (b.length : Int)) = False := eq_false (by omega)
          have wb : (b[i]?).getD 0 = 0 := by simp [List.getElem?_eq_none (Nat.le_of_not_lt g2)]
          have hc : c = 1 := by
            by_cases hc0 : c ≤ 0
            · exact absurd ⟨ea.2 g1, eb.2 g2, hc0⟩ hend
            · omega
          rw [wa, wb, Int.add_zero, Int.add_zero]
          obtain ⟨m1, m2, m3⟩ := nx c (by omega) (by omega) (by omega)
          have f3 : (c > 0) = True := eq_true (by omega)
          simp (disch := omega) only [go_sem, and_self, and_true, true_and, false_and, and_false, Nat.reduceAdd, Nat.reduceMul, Nat.reduceSub, Nat.reduceLeDiff, Nat.reduceLT, Nat.reduceGT, Nat.reduceEqDiff, Nat.reduceBEq, Int.reduceNeg, Int.reduceEq, Int.reduceLT, Int.reduceLE, Int.reduceBEq, Int.reduceToNat, Int.toNat_natCast, Int.natCast_zero, r83_C0, List.length_map, f1, f2, f3, hi0, w64, h8, m1, m2]
          exact m3

theorem sum_ok (a b : List Int) (ha : Digs a) (hb : Digs b) (hla : a.length ≤ 1000) (hlb : b.length ≤ 1000) (hp : List Ent) :
    F tab 83 [.d (.sl (a.map iv)), .d (.sl (b.map iv))] hp = some (.ret (.d (.sl ((sumL a b 0 (max a.length b.length + 2)).map iv))) hp) := by
  refine f83 rfl ?_
  have hL := sum_loop a b ha hb hla hlb (max a.length b.length + 2) 0 0 [] (by omega) (by omega) rfl (by omega) (by omega) (by omega)
  simp (disch := omega) only [go_sem, and_self, and_true, true_and, false_and, and_false, Nat.reduceAdd, Nat.reduceMul, Nat.reduceSub, Nat.reduceLeDiff, Nat.reduceLT, Nat.reduceGT, Nat.reduceEqDiff, Nat.reduceBEq, Int.reduceNeg, Int.reduceEq, Int.reduceLT, Int.reduceLE, Int.reduceBEq, Int.reduceToNat, Int.toNat_natCast, Int.natCast_zero, r83_T, r83]
  rw [r83_B0_n, r83_B0_z5]
  erw [hL]
  simp (disch := omega) only [go_sem, and_self, and_true, true_and, false_and, and_false, Nat.reduceAdd, Nat.reduceMul, Nat.reduceSub, Nat.reduceLeDiff, Nat.reduceLT, Nat.reduceGT, Nat.reduceEqDiff, Nat.reduceBEq, Int.reduceNeg, Int.reduceEq, Int.reduceLT, Int.reduceLE, Int.reduceBEq, Int.reduceToNat, Int.toNat_natCast, Int.natCast_zero, List.drop_zero]
end Go.Pe.T

namespace Go.Pe.T

/-- the one's size less the other's, so much owed -/
def lessL : List Int → List Int → Int → List Int
  | [], _, _ => []
  | x :: a, b, o => if x - o - b.headD 0 < 0 then (x - o - b.headD 0 + 10) :: lessL a b.tail 1 else (x - o - b.headD 0) :: lessL a b.tail 0

theorem less_loop (a b : List Int) (ha : Digs a) (hb : Digs b) (hla : a.length ≤ 1000) (hlb : b.length ≤ 1000) : ∀ (k i : Nat) (o : Int) (out : List Int), 0 ≤ o → o ≤ 1 → out.length = i → i + k = a.length →
    V (F tab) r58_B0 (r58_S0 (.d (.sl (a.map iv))) (.d (.sl (b.map iv))) (.own 3 (out.map iv)) (.d (iv o)) (.d (iv i)) []) =
      some (.norm, r58_E0 (.own 3 ((out ++ lessL (a.drop i) (b.drop i) o).map iv)) [])
  | 0, i, o, out, h0, h1, hl, hk => by
    rw [r58_B0_eq, List.drop_of_length_le (by omega : a.length ≤ i)]
    have g1 : ((i : Int) < (a.length : Int)) = False := eq_false (by omega)
    simp only [go_sem, and_self, and_true, true_and, false_and, and_false, Nat.reduceAdd, Nat.reduceMul, Nat.reduceSub, Nat.reduceLeDiff, Nat.reduceLT, Nat.reduceGT, Nat.reduceEqDiff, Nat.reduceBEq, Int.reduceNeg, Int.reduceEq, Int.reduceLT, Int.reduceLE, Int.reduceBEq, Int.reduceToNat, Int.toNat_natCast, Int.natCast_zero, r58_C0, List.length_map, g1, lessL, List.append_nil]
  | k + 1, i, o, out, h0, h1, hl, hk => by
    rw [r58_B0_eq]
    have g1 : i < a.length := by omega
    have f1 : ((i : Int) < (a.length : Int)) = True := eq_true (by omega)
    have da := ha a[i] (List.getElem_mem g1)
    have va : (a.map iv)[i]? = some (iv a[i]) := dl_get (List.getElem?_eq_getElem g1)
    have hi0 : (0 ≤ (i : Int)) = True := eq_true (by omega)
    have h8 : ((out.length + 1) * 8 ≤ maxRow) = True := eq_true (by unfold maxRow; omega)
    unfold digit at da
    have nx : ∀ (n o' : Int), 0 ≤ o' → o' ≤ 1 → 
          V (F tab) r58_B0 (r58_S0 (.d (.sl (a.map iv))) (.d (.sl (b.map iv))) (.own 3 (out.map iv ++ [iv n])) (.d (iv o')) (.d (iv ((i : Int) + 1))) []) =
            some (.norm, r58_E0 (.own 3 ((out ++ n :: lessL (a.drop (i + 1)) (b.drop (i + 1)) o').map iv)) []) := by
      intro n o' hn0 hn1
      have ih := less_loop a b ha hb hla hlb k (i + 1) o' (out ++ [n]) hn0 hn1 (by simp [hl]) (by omega)
      rw [List.append_assoc, List.singleton_append, List.map_append] at ih
      exact ih
    rw [List.drop_eq_getElem_cons g1, lessL, drop_tail', drop_head]
    by_cases g2 : i < b.length
    · have f2 : ((i : Int) < (b.length : Int)) = True := eq_true (by omega)
      have db := hb b[i] (List.getElem_mem g2)
      have vb : (b.map iv)[i]? = some (iv b[i]) := dl_get (List.getElem?_eq_getElem g2)
      have wb : (b[i]?).getD 0 = b[i] := by simp [g2]
      unfold digit at db
      rw [wb]
      by_cases hs : a[i] - o - b[i] < 0
      · rw [if_pos hs]
        simp (disch := omega) only [go_sem, and_self, and_true, true_and, false_and, and_false, Nat.reduceAdd, Nat.reduceMul, Nat.reduceSub, Nat.reduceLeDiff, Nat.reduceLT, Nat.reduceGT, Nat.reduceEqDiff, Nat.reduceBEq, Int.reduceNeg, Int.reduceEq, Int.reduceLT, Int.reduceLE, Int.reduceBEq, Int.reduceToNat, Int.toNat_natCast, Int.natCast_zero, r58_C0, List.length_map, f1, f2, hi0, va, vb, w64, h8, hs]
        exact nx _ 1 (by omega) (by omega)
      · rw [if_neg hs]
        simp (disch := omega) only [go_sem, and_self, and_true, true_and, false_and, and_false, Nat.reduceAdd, Nat.reduceMul, Nat.reduceSub, Nat.reduceLeDiff, Nat.reduceLT, Nat.reduceGT, Nat.reduceEqDiff, Nat.reduceBEq, Int.reduceNeg, Int.reduceEq, Int.reduceLT, Int.reduceLE, Int.reduceBEq, Int.reduceToNat, Int.toNat_natCast, Int.natCast_zero, r58_C0, List.length_map, f1, f2, hi0, va, vb, w64, h8, hs]
        exact nx _ 0 (by omega) (by omega)
    · have f2 : ((i : Int) < (b.length : Int)) = False := eq_false (by omega)
      have wb : (b[i]?).getD 0 = 0 := by simp [List.getElem?_eq_none (Nat.le_of_not_lt g2)]
      rw [wb, Int.sub_zero]
      by_cases hs : a[i] - o < 0
      · rw [if_pos hs]
        simp (disch := omega) only [go_sem, and_self, and_true, true_and, false_and, and_false, Nat.reduceAdd, Nat.reduceMul, Nat.reduceSub, Nat.reduceLeDiff, Nat.reduceLT, Nat.reduceGT, Nat.reduceEqDiff, Nat.reduceBEq, Int.reduceNeg, Int.reduceEq, Int.reduceLT, Int.reduceLE, Int.reduceBEq, Int.reduceToNat, Int.toNat_natCast, Int.natCast_zero, r58_C0, List.length_map, f1, f2, hi0, va, w64, h8, hs]
        exact nx _ 1 (by omega) (by omega)
      · rw [if_neg hs]
        simp (disch := omega) only [go_sem, and_self, and_true, true_and, false_and, and_false, Nat.reduceAdd, Nat.reduceMul, Nat.reduceSub, Nat.reduceLeDiff, Nat.reduceLT, Nat.reduceGT, Nat.reduceEqDiff, Nat.reduceBEq, Int.reduceNeg, Int.reduceEq, Int.reduceLT, Int.reduceLE, Int.reduceBEq, Int.reduceToNat, Int.toNat_natCast, Int.natCast_zero, r58_C0, List.length_map, f1, f2, hi0, va, w64, h8, hs]
        exact nx _ 0 (by omega) (by omega)

theorem less_ok (a b : List Int) (ha : Digs a) (hb : Digs b) (hla : a.length ≤ 1000) (hlb : b.length ≤ 1000) (hp : List Ent) :
    F tab 58 [.d (.sl (a.map iv)), .d (.sl (b.map iv))] hp = some (.ret (.d (.sl ((lessL a b 0).map iv))) hp) := by
  refine f58 rfl ?_
  have hL := less_loop a b ha hb hla hlb a.length 0 0 [] (by omega) (by omega) rfl (by omega)
  simp (disch := omega) only [go_sem, and_self, and_true, true_and, false_and, and_false, Nat.reduceAdd, Nat.reduceMul, Nat.reduceSub, Nat.reduceLeDiff, Nat.reduceLT, Nat.reduceGT, Nat.reduceEqDiff, Nat.reduceBEq, Int.reduceNeg, Int.reduceEq, Int.reduceLT, Int.reduceLE, Int.reduceBEq, Int.reduceToNat, Int.toNat_natCast, Int.natCast_zero, r58_T, r58]
  rw [r58_B0_n, r58_B0_z5]
  erw [hL]
  simp (disch := omega) only [go_sem, and_self, and_true, true_and, false_and, and_false, Nat.reduceAdd, Nat.reduceMul, Nat.reduceSub, Nat.reduceLeDiff, Nat.reduceLT, Nat.reduceGT, Nat.reduceEqDiff, Nat.reduceBEq, Int.reduceNeg, Int.reduceEq, Int.reduceLT, Int.reduceLE, Int.reduceBEq, Int.reduceToNat, Int.toNat_natCast, Int.natCast_zero, List.drop_zero, List.nil_append]

/-- is the one above the other, from digit n - 1 down, or the same -/
def aboveN (a b : List Int) : Nat → Bool
  | 0 => true
  | n + 1 => if (a[n]?).getD 0 = (b[n]?).getD 0 then aboveN a b n else decide ((a[n]?).getD 0 > (b[n]?).getD 0)

theorem above_loop (a b : List Int) (hla : a.length ≤ 1000) (he : a.length = b.length) : ∀ n, n ≤ a.length →
    V (F tab) r57_B0 (r57_S0 (.d (.sl (a.map iv))) (.d (.sl (b.map iv))) (.d (iv ((n : Int) - 1))) []) =
      if (∃ i, i < n ∧ (a[i]?).getD 0 ≠ (b[i]?).getD 0) then some (.ret, r57_R (.d (.bool (aboveN a b n))) []) else some (.norm, r57_E0 [])
  | 0, hn => by
    rw [r57_B0_eq, if_neg (by simp)]
    have h1 : ((0 : Int) - 1 ≥ 0) = False := eq_false (by omega)
    simp only [go_sem, and_self, and_true, true_and, false_and, and_false, Nat.reduceAdd, Nat.reduceMul, Nat.reduceSub, Nat.reduceLeDiff, Nat.reduceLT, Nat.reduceGT, Nat.reduceEqDiff, Nat.reduceBEq, Int.reduceNeg, Int.reduceEq, Int.reduceLT, Int.reduceLE, Int.reduceBEq, Int.reduceToNat, Int.toNat_natCast, Int.natCast_zero, r57_C0, h1]
  | n + 1, hn => by
    have h1 : (((n + 1 : Nat) : Int) - 1) = (n : Int) := by omega
    have h2 : ((n : Int) ≥ 0) = True := eq_true (by omega)
    have h3 : (0 ≤ (n : Int)) = True := eq_true (by omega)
    have va : (a.map iv)[n]? = some (iv a[n]) := dl_get (List.getElem?_eq_getElem (by omega))
    have vb : (b.map iv)[n]? = some (iv b[n]) := dl_get (List.getElem?_eq_getElem (by omega))
    have wa : (a[n]?).getD 0 = a[n] := by simp [show n < a.length by omega]
    have wb : (b[n]?).getD 0 = b[n] := by simp [show n < b.length by omega]
    rw [r57_B0_eq, h1]
    by_cases hne : a[n] = b[n]
    · have hb : (a[n] != b[n]) = false := by simp [hne]
      have ih := above_loop a b hla he n (by omega)
      have e : (∃ i, i < n + 1 ∧ (a[i]?).getD 0 ≠ (b[i]?).getD 0) ↔ (∃ i, i < n ∧ (a[i]?).getD 0 ≠ (b[i]?).getD 0) := by
        constructor
        · rintro ⟨i, h4, h5⟩
          by_cases e : i = n
          · subst e; rw [wa, wb] at h5; exact absurd hne h5
          · exact ⟨i, by omega, h5⟩
        · rintro ⟨i, h4, h5⟩
          exact ⟨i, by omega, h5⟩
      have e2 : aboveN a b (n + 1) = aboveN a b n := by rw [aboveN, wa, wb, if_pos hne]
      rw [e2]
      simp only [e]
      simp (disch := omega) only [go_sem, and_self, and_true, true_and, false_and, and_false, Nat.reduceAdd, Nat.reduceMul, Nat.reduceSub, Nat.reduceLeDiff, Nat.reduceLT, Nat.reduceGT, Nat.reduceEqDiff, Nat.reduceBEq, Int.reduceNeg, Int.reduceEq, Int.reduceLT, Int.reduceLE, Int.reduceBEq, Int.reduceToNat, Int.toNat_natCast, Int.natCast_zero, r57_C0, h2, h3, va, vb, hb, w64]
      exact ih
    · have hb : (a[n] != b[n]) = true := by simp [hne]
      have e : ∃ i, i < n + 1 ∧ (a[i]?).getD 0 ≠ (b[i]?).getD 0 := ⟨n, by omega, by rw [wa, wb]; exact hne⟩
      have e2 : aboveN a b (n + 1) = decide (a[n] > b[n]) := by rw [aboveN, wa, wb, if_neg hne]
      rw [if_pos e, e2]
      simp (disch := omega) only [go_sem, and_self, and_true, true_and, false_and, and_false, Nat.reduceAdd, Nat.reduceMul, Nat.reduceSub, Nat.reduceLeDiff, Nat.reduceLT, Nat.reduceGT, Nat.reduceEqDiff, Nat.reduceBEq, Int.reduceNeg, Int.reduceEq, Int.reduceLT, Int.reduceLE, Int.reduceBEq, Int.reduceToNat, Int.toNat_natCast, Int.natCast_zero, r57_C0, h2, h3, va, vb, hb, w64]

def aboveL (a b : List Int) : Bool := if a.length = b.length then aboveN a b a.length else decide (a.length > b.length)

theorem aboveN_same (a b : List Int) : ∀ n, (¬ ∃ i, i < n ∧ (a[i]?).getD 0 ≠ (b[i]?).getD 0) → aboveN a b n = true
  | 0, _ => rfl
  | n + 1, h => by
    have h1 : (a[n]?).getD 0 = (b[n]?).getD 0 := Classical.byContradiction fun hn => h ⟨n, by omega, hn⟩
    rw [aboveN, if_pos h1]
    exact aboveN_same a b n fun ⟨i, h2, h3⟩ => h ⟨i, by omega, h3⟩

theorem above_ok (a b : List Int) (hla : a.length ≤ 1000) (hlb : b.length ≤ 1000) (hp : List Ent) :
    F tab 57 [.d (.sl (a.map iv)), .d (.sl (b.map iv))] hp = some (.ret (.d (.bool (aboveL a b))) hp) := by
  refine f57 rfl ?_
  by_cases he : a.length = b.length
  · have hL := above_loop a b hla he a.length (Nat.le_refl _)
    have h1 : ((a.length : Int) != (b.length : Int)) = false := by simp [he]
    have e : aboveL a b = aboveN a b a.length := by rw [aboveL, if_pos he]
    rw [e]
    simp (disch := omega) only [go_sem, and_self, and_true, true_and, false_and, and_false, Nat.reduceAdd, Nat.reduceMul, Nat.reduceSub, Nat.reduceLeDiff, Nat.reduceLT, Nat.reduceGT, Nat.reduceEqDiff, Nat.reduceBEq, Int.reduceNeg, Int.reduceEq, Int.reduceLT, Int.reduceLE, Int.reduceBEq, Int.reduceToNat, Int.toNat_natCast, Int.natCast_zero, r57_T, r57, List.length_map, h1, w64]
    rw [r57_B0_n]
    erw [hL]
    by_cases hx : ∃ i, i < a.length ∧ (a[i]?).getD 0 ≠ (b[i]?).getD 0
    · rw [if_pos hx]
      simp (disch := omega) only [go_sem, and_self, and_true, true_and, false_and, and_false, Nat.reduceAdd, Nat.reduceMul, Nat.reduceSub, Nat.reduceLeDiff, Nat.reduceLT, Nat.reduceGT, Nat.reduceEqDiff, Nat.reduceBEq, Int.reduceNeg, Int.reduceEq, Int.reduceLT, Int.reduceLE, Int.reduceBEq, Int.reduceToNat, Int.toNat_natCast, Int.natCast_zero]
    · rw [if_neg hx, aboveN_same a b _ hx]
      simp (disch := omega) only [go_sem, and_self, and_true, true_and, false_and, and_false, Nat.reduceAdd, Nat.reduceMul, Nat.reduceSub, Nat.reduceLeDiff, Nat.reduceLT, Nat.reduceGT, Nat.reduceEqDiff, Nat.reduceBEq, Int.reduceNeg, Int.reduceEq, Int.reduceLT, Int.reduceLE, Int.reduceBEq, Int.reduceToNat, Int.toNat_natCast, Int.natCast_zero]
  · have h1 : ((a.length : Int) != (b.length : Int)) = true := by simp; omega
    have e : aboveL a b = decide (a.length > b.length) := by rw [aboveL, if_neg he]
    have h2 : decide ((a.length : Int) > (b.length : Int)) = decide (a.length > b.length) := by simp
    rw [e]
    simp (disch := omega) only [go_sem, and_self, and_true, true_and, false_and, and_false, Nat.reduceAdd, Nat.reduceMul, Nat.reduceSub, Nat.reduceLeDiff, Nat.reduceLT, Nat.reduceGT, Nat.reduceEqDiff, Nat.reduceBEq, Int.reduceNeg, Int.reduceEq, Int.reduceLT, Int.reduceLE, Int.reduceBEq, Int.reduceToNat, Int.toNat_natCast, Int.natCast_zero, r57_T, r57, List.length_map, h1, w64, h2]
end Go.Pe.T

namespace Go.Pe.T

/-! ### what digits are worth -/

def val : List Int → Int
  | [] => 0
  | d :: l => d + 10 * val l

theorem Digs.cons {d : Int} {l : List Int} (h : Digs (d :: l)) : digit d ∧ Digs l := ⟨h d (by simp), fun x hx => h x (by simp [hx])⟩
theorem Digs.nil : Digs [] := fun _ h => by simp at h
theorem Digs.mk {d : Int} {l : List Int} (h : digit d) (k : Digs l) : Digs (d :: l) := fun x hx => by
  rcases List.mem_cons.1 hx with rfl | hx
  · exact h
  · exact k x hx
theorem Digs.tail {l : List Int} (h : Digs l) : Digs l.tail := fun x hx => h x (List.mem_of_mem_tail hx)
theorem Digs.headD {l : List Int} (h : Digs l) : digit (l.headD 0) := by
  cases l with
  | nil => exact ⟨by simp, by simp⟩
  | cons d l => exact h.cons.1

theorem val_bound : ∀ {l : List Int}, Digs l → 0 ≤ val l ∧ val l < 10 ^ l.length
  | [], _ => by simp [val]
  | d :: l, h => by
    obtain ⟨h1, h2⟩ := h.cons
    obtain ⟨i1, i2⟩ := val_bound h2
    unfold digit at h1
    simp only [val, List.length_cons, Int.pow_succ]
    omega

theorem val_head (l : List Int) : val l = l.headD 0 + 10 * val l.tail := by
  cases l <;> simp [val]

theorem val_append : ∀ (a b : List Int), val (a ++ b) = val a + 10 ^ a.length * val b
  | [], b => by simp [val]
  | d :: a, b => by
    simp only [List.cons_append, val, val_append a b, List.length_cons, Int.pow_succ]
    rw [Int.mul_add, Int.mul_comm ((10 : Int) ^ a.length) 10, Int.mul_assoc]
    omega

theorem val_rep : ∀ (n : Nat) (l : List Int), val (List.replicate n 0 ++ l) = 10 ^ n * val l
  | 0, l => by simp
  | n + 1, l => by
    simp only [List.replicate_succ, List.cons_append, val, val_rep n l, Int.pow_succ]
    rw [Int.mul_comm ((10 : Int) ^ n) 10, Int.mul_assoc]
    omega

theorem sum_val : ∀ (k : Nat) (a b : List Int) (c : Int), Digs a → Digs b → 0 ≤ c → c ≤ 1 → max a.length b.length + 1 < k → val (sumL a b c k) = val a + val b + c ∧ Digs (sumL a b c k) ∧ (sumL a b c k).length ≤ max a.length b.length + 1
  | 0, a, b, c, _, _, _, _, hk => by omega
  | k + 1, a, b, c, ha, hb, h0, h1, hk => by
    unfold sumL
    split
    · rename_i h
      obtain ⟨rfl, rfl, h2⟩ := h
      exact ⟨by simp [val]; omega, Digs.nil, by simp⟩
    · rename_i h
      have da := ha.headD
      have db := hb.headD
      have ea := val_head a
      have eb := val_head b
      unfold digit at da db
      have hlen : max a.tail.length b.tail.length + 1 < k ∨ (a = [] ∧ b = []) := by
        cases a <;> cases b <;> simp at hk ⊢ <;> omega
      rcases hlen with hlen | ⟨rfl, rfl⟩
      · obtain ⟨i1, i2, i3⟩ := sum_val k a.tail b.tail ((c + a.headD 0 + b.headD 0) / 10) ha.tail hb.tail (by omega) (by omega) hlen
        refine ⟨?_, Digs.mk ⟨by omega, by omega⟩ i2, ?_⟩
        · simp only [val, i1]; omega
        · simp only [List.length_cons, List.length_tail] at i3 ⊢
          by_cases hz : a.length = 0 ∧ b.length = 0
          · have e1 : a = [] := List.eq_nil_of_length_eq_zero hz.1
            have e2 : b = [] := List.eq_nil_of_length_eq_zero hz.2
            subst e1 e2
            simp at h ⊢
            have : c = 1 := by omega
            subst this
            cases k with
            | zero => simp [sumL]
            | succ k => simp [sumL]
          · omega
      · simp at h
        have : c = 1 := by omega
        subst this
        cases k with
        | zero => simp at hk
        | succ k => simp [sumL, val, Digs, digit]

theorem less_val : ∀ (a b : List Int) (o : Int), Digs a → Digs b → 0 ≤ o → o ≤ 1 → b.length ≤ a.length → (∃ f : Int, 0 ≤ f ∧ f ≤ 1 ∧ val (lessL a b o) = val a - val b - o + f * 10 ^ a.length) ∧ Digs (lessL a b o) ∧ (lessL a b o).length = a.length
  | [], b, o, ha, hb, h0, h1, hl => by
    have : b = [] := List.eq_nil_of_length_eq_zero (by simpa using hl)
    subst this
    exact ⟨⟨o, h0, h1, by simp [lessL, val]; omega⟩, Digs.nil, rfl⟩
  | x :: a, b, o, ha, hb, h0, h1, hl => by
    have db := hb.headD
    have eb := val_head b
    obtain ⟨dx, da⟩ := ha.cons
    unfold digit at db dx
    have hl' : b.tail.length ≤ a.length := by simp at hl ⊢; omega
    unfold lessL
    split
    · obtain ⟨⟨f, f0, f1, i1⟩, i2, i3⟩ := less_val a b.tail 1 da hb.tail (by omega) (by omega) hl'
      refine ⟨⟨f, f0, f1, ?_⟩, Digs.mk ⟨by omega, by omega⟩ i2, by simp [i3]⟩
      simp only [val, i1, List.length_cons, Int.pow_succ]
      rw [← Int.mul_assoc]
      omega
    · obtain ⟨⟨f, f0, f1, i1⟩, i2, i3⟩ := less_val a b.tail 0 da hb.tail (by omega) (by omega) hl'
      refine ⟨⟨f, f0, f1, ?_⟩, Digs.mk ⟨by omega, by omega⟩ i2, by simp [i3]⟩
      simp only [val, i1, List.length_cons, Int.pow_succ]
      rw [← Int.mul_assoc]
      omega

theorem less_exact {a b : List Int} (ha : Digs a) (hb : Digs b) (hl : b.length ≤ a.length) (h : val b ≤ val a) : val (lessL a b 0) = val a - val b := by
  obtain ⟨⟨f, f0, f1, i1⟩, i2, i3⟩ := less_val a b 0 ha hb (by omega) (by omega) hl
  have h1 := val_bound i2
  rw [i3] at h1
  have h2 := (val_bound hb).1
  have h3 : f = 0 := by
    by_cases hf : f = 0
    · exact hf
    · have : f = 1 := by omega
      subst this
      omega
  subst h3
  omega

theorem trim_val (l : List Int) : ∀ n, n ≤ l.length → val (l.take (trimN l n)) = val (l.take n) ∧ (∀ d, (l.take (trimN l n)).getLast? = some d → d ≠ 0)
  | 0, _ => by simp [trimN]
  | n + 1, hn => by
    have hg : l[n]? = some l[n] := List.getElem?_eq_getElem (by omega)
    have ht : l.take (n + 1) = l.take n ++ [l[n]] := by rw [List.take_add_one, hg]; rfl
    unfold trimN
    split
    · rename_i h
      obtain ⟨i1, i2⟩ := trim_val l n (by omega)
      refine ⟨?_, i2⟩
      rw [i1, ht, val_append]
      rw [hg] at h
      simp only [Option.some.injEq] at h
      simp [h, val]
    · rename_i h
      refine ⟨rfl, ?_⟩
      intro d hd
      rw [ht, List.getLast?_concat] at hd
      simp only [Option.some.injEq] at hd
      subst hd
      intro e
      exact h (by rw [hg, e])

theorem trimL_val (l : List Int) : val (trimL l) = val l := by
  have := (trim_val l l.length (Nat.le_refl _)).1
  rwa [List.take_length] at this
theorem trimL_top (l : List Int) : ∀ d, (trimL l).getLast? = some d → d ≠ 0 := (trim_val l l.length (Nat.le_refl _)).2
theorem trimL_digs {l : List Int} (h : Digs l) : Digs (trimL l) := fun d hd => h d (List.mem_of_mem_take hd)
theorem trimL_len (l : List Int) : (trimL l).length = trimN l l.length := by
  have := trimN_le l l.length
  simp [trimL]; omega
end Go.Pe.T

namespace Go.Pe.T

/-! ### above, by worth -/

/-- digits without noughts above -/
def Top (l : List Int) : Prop := Digs l ∧ ∀ d, l.getLast? = some d → d ≠ 0

theorem top_bound : ∀ {l : List Int}, Top l → l ≠ [] → 10 ^ (l.length - 1) ≤ val l
  | [], _, h => absurd rfl h
  | [d], h, _ => by
    have h1 := h.2 d (by simp)
    have h2 := h.1.cons.1
    unfold digit at h2
    simp [val]; omega
  | d :: e :: l, h, _ => by
    have h2 := h.1.cons
    have ih := top_bound (l := e :: l) ⟨h2.2, fun x hx => h.2 x (by simpa [List.getLast?_cons_cons] using hx)⟩ (by simp)
    have h3 := h2.1
    unfold digit at h3
    have e1 : (d :: e :: l).length - 1 = ((e :: l).length - 1) + 1 := by simp
    rw [e1, Int.pow_succ]
    have e2 : val (d :: e :: l) = d + 10 * val (e :: l) := rfl
    rw [e2]
    omega

theorem val_take {a : List Int} {n : Nat} (h : n < a.length) : val (a.take (n + 1)) = val (a.take n) + 10 ^ n * a[n] := by
  have hg : a[n]? = some a[n] := List.getElem?_eq_getElem h
  have ht : a.take (n + 1) = a.take n ++ [a[n]] := by rw [List.take_add_one, hg]; rfl
  rw [ht, val_append]
  simp [val, List.length_take, Nat.min_eq_left (Nat.le_of_lt h)]

theorem Digs.take {l : List Int} (h : Digs l) (n : Nat) : Digs (l.take n) := fun d hd => h d (List.mem_of_mem_take hd)

theorem aboveN_val {a b : List Int} (ha : Digs a) (hb : Digs b) (he : a.length = b.length) : ∀ n, n ≤ a.length → (aboveN a b n = true ↔ val (b.take n) ≤ val (a.take n))
  | 0, _ => by simp [aboveN, val]
  | n + 1, hn => by
    have hb' : n < b.length := by omega
    have ha' : n < a.length := by omega
    have wa : (a[n]?).getD 0 = a[n] := by simp [ha']
    have wb : (b[n]?).getD 0 = b[n] := by simp [hb']
    have ia := val_bound (ha.take n)
    have ib := val_bound (hb.take n)
    rw [List.length_take, Nat.min_eq_left (by omega)] at ia ib
    rw [aboveN, wa, wb, val_take ha', val_take hb']
    split
    · rename_i h
      rw [aboveN_val ha hb he n (by omega), h]
      omega
    · rename_i h
      simp only [decide_eq_true_eq]
      constructor
      · intro h1
        have : (10 : Int) ^ n * (b[n] + 1) ≤ 10 ^ n * a[n] := Int.mul_le_mul_of_nonneg_left (by omega) (by omega)
        rw [Int.mul_add] at this
        omega
      · intro h1
        by_cases h2 : a[n] > b[n]
        · exact h2
        · exfalso
          have : (10 : Int) ^ n * (a[n] + 1) ≤ 10 ^ n * b[n] := Int.mul_le_mul_of_nonneg_left (by omega) (by omega)
          rw [Int.mul_add] at this
          omega

theorem aboveL_val {a b : List Int} (ha : Top a) (hb : Top b) : aboveL a b = decide (val b ≤ val a) ∧ (aboveL a b = true → b.length ≤ a.length) ∧ (aboveL a b = false → a.length ≤ b.length) := by
  unfold aboveL
  split
  · rename_i he
    have h := aboveN_val ha.1 hb.1 he a.length (Nat.le_refl _)
    rw [List.take_length, he, List.take_length] at h
    refine ⟨?_, fun _ => by omega, fun _ => by omega⟩
    rw [he]
    cases hx : aboveN a b b.length with
    | true => exact (decide_eq_true (h.1 hx)).symm
    | false =>
      refine (decide_eq_false fun hle => ?_).symm
      rw [h.2 hle] at hx
      simp at hx
  · rename_i he
    refine ⟨?_, fun h => by simp at h; omega, fun h => by simp at h; omega⟩
    by_cases hg : a.length > b.length
    · have h1 := top_bound ha (by intro e; subst e; simp at hg)
      have h2 := (val_bound hb.1).2
      have h3 := p10_mono (show b.length ≤ a.length - 1 by omega)
      have : val b ≤ val a := by omega
      simp [hg, this]
    · have h1 := top_bound hb (by intro e; subst e; simp at hg he; exact he hg)
      have h2 := (val_bound ha.1).2
      have h3 := p10_mono (show a.length ≤ b.length - 1 by omega)
      have : ¬ val b ≤ val a := by omega
      simp [hg, this]
end Go.Pe.T

namespace Go.Pe.T

/-! ### Plus, Line, Cmp -/

def trimmed (neg : Bool) (l : List Int) : D := longD (neg && trimN l l.length != 0) (trimL l)

theorem trim_ok' (neg : Bool) (l : List Int) (hl : l.length ≤ 10000) (hp : List Ent) : F tab 43 [.d (.agg [.bool neg, .sl (l.map iv)])] hp = some (.ret (.d (trimmed neg l)) hp) :=
  trim_ok neg l (by have : maxLen = 9223372036854775807 := by decide
                    omega) hp

def plusD (na : Bool) (a : List Int) (nb : Bool) (b : List Int) : D :=
  if na = nb then trimmed na (sumL a b 0 (max a.length b.length + 2))
  else if aboveL a b then trimmed na (lessL a b 0) else trimmed nb (lessL b a 0)

theorem trimmed_shape (neg : Bool) (l : List Int) : trimmed neg l = .agg [.bool (neg && trimN l l.length != 0), .sl ((trimL l).map iv)] := rfl

theorem plus_ok (na nb : Bool) (a b : List Int) (ha : Top a) (hb : Top b) (hla : a.length ≤ 900) (hlb : b.length ≤ 900) (hp : List Ent) :
    F tab 61 [.d (longD na a), .d (longD nb b)] hp = some (.ret (.d (plusD na a nb b)) hp) := by
  refine f61 rfl ?_
  have hs := sum_ok a b ha.1 hb.1 (by omega) (by omega)
  have hs2 := (sum_val (max a.length b.length + 2) a b 0 ha.1 hb.1 (by omega) (by omega) (by omega)).2.2
  have hab := above_ok a b (by omega) (by omega)
  have h1 := less_ok a b ha.1 hb.1 (by omega) (by omega)
  have h2 := less_ok b a hb.1 ha.1 (by omega) (by omega)
  obtain ⟨_, g1, g2⟩ := aboveL_val ha hb
  by_cases hn : na = nb
  · subst hn
    have ht := trim_ok' na (sumL a b 0 (max a.length b.length + 2)) (by omega)
    have hb1 : (na == na) = true := by simp
    simp (disch := omega) only [go_sem, and_self, and_true, true_and, false_and, and_false, Nat.reduceAdd, Nat.reduceMul, Nat.reduceSub, Nat.reduceLeDiff, Nat.reduceLT, Nat.reduceGT, Nat.reduceEqDiff, Nat.reduceBEq, Int.reduceNeg, Int.reduceEq, Int.reduceLT, Int.reduceLE, Int.reduceBEq, Int.reduceToNat, Int.toNat_natCast, Int.natCast_zero, r61_T, r61, hb1, hs, ht, plusD, trimmed_shape]
  · have hb1 : (na == nb) = false := by simp [hn]
    rcases Bool.eq_false_or_eq_true (aboveL a b) with hx | hx
    · have hl := (less_val a b 0 ha.1 hb.1 (by omega) (by omega) (g1 hx)).2.2
      have ht := trim_ok' na (lessL a b 0) (by omega)
      simp (disch := omega) only [go_sem, and_self, and_true, true_and, false_and, and_false, Nat.reduceAdd, Nat.reduceMul, Nat.reduceSub, Nat.reduceLeDiff, Nat.reduceLT, Nat.reduceGT, Nat.reduceEqDiff, Nat.reduceBEq, Int.reduceNeg, Int.reduceEq, Int.reduceLT, Int.reduceLE, Int.reduceBEq, Int.reduceToNat, Int.toNat_natCast, Int.natCast_zero, r61_T, r61, hb1, hab, hx, h1, ht, plusD, hn, trimmed_shape]
    · have hl := (less_val b a 0 hb.1 ha.1 (by omega) (by omega) (g2 hx)).2.2
      have ht := trim_ok' nb (lessL b a 0) (by omega)
      simp (disch := omega) only [go_sem, and_self, and_true, true_and, false_and, and_false, Nat.reduceAdd, Nat.reduceMul, Nat.reduceSub, Nat.reduceLeDiff, Nat.reduceLT, Nat.reduceGT, Nat.reduceEqDiff, Nat.reduceBEq, Int.reduceNeg, Int.reduceEq, Int.reduceLT, Int.reduceLE, Int.reduceBEq, Int.reduceToNat, Int.toNat_natCast, Int.natCast_zero, r61_T, r61, hb1, hab, hx, h2, ht, plusD, hn, trimmed_shape]

/-- a coefficient at a greater scale -/
def atL (c : Int) (k : Nat) : List Int := shiftL (digs c.natAbs) k
def atN (c : Int) (k : Nat) : Bool := decide (c < 0) && trimN (List.replicate k 0 ++ digs c.natAbs) (k + (digs c.natAbs).length) != 0

theorem line_ok (c c' : Int) (k k' : Nat) (hk : k ≤ 9) (hk' : k' ≤ 9) (hc : -1000000000000000 < c ∧ c < 1000000000000000) (hc' : -1000000000000000 < c' ∧ c' < 1000000000000000) (hp : List Ent) :
    F tab 56 [.d (numD c k), .d (numD c' k')] hp = some (.ret (.tup [.d (longD (atN c (max k k' - k)) (atL c (max k k' - k))), .d (longD (atN c' (max k k' - k')) (atL c' (max k k' - k'))), .d (iv (max k k' : Nat))]) hp) := by
  refine f56 rfl ?_
  have e15 : (10 : Nat) ^ 15 = 1000000000000000 := by decide
  have d1 := digs_len 15 c.natAbs (by omega)
  have d2 := digs_len 15 c'.natAbs (by omega)
  have o1 := of_ok c (by omega)
  have o2 := of_ok c' (by omega)
  have s1 := shift_ok (decide (c < 0)) (digs c.natAbs) (by omega) (max k k' - k) (by omega)
  have s2 := shift_ok (decide (c' < 0)) (digs c'.natAbs) (by omega) (max k k' - k') (by omega)
  by_cases h : (k' : Int) > (k : Int)
  · have m : max k k' = k' := by omega
    rw [m] at s1 s2 ⊢
    have e1 : ((k' - k : Nat) : Int) = (k' : Int) - (k : Int) := by omega
    have e2 : ((k' - k' : Nat) : Int) = (k' : Int) - (k' : Int) := by omega
    rw [e1] at s1
    rw [e2] at s2
    simp (disch := omega) only [go_sem, and_self, and_true, true_and, false_and, and_false, Nat.reduceAdd, Nat.reduceMul, Nat.reduceSub, Nat.reduceLeDiff, Nat.reduceLT, Nat.reduceGT, Nat.reduceEqDiff, Nat.reduceBEq, Int.reduceNeg, Int.reduceEq, Int.reduceLT, Int.reduceLE, Int.reduceBEq, Int.reduceToNat, Int.toNat_natCast, Int.natCast_zero, r56_T, r56, h, o1, o2, s1, s2, w64, longD, atN, atL]
  · have m : max k k' = k := by omega
    rw [m] at s1 s2 ⊢
    have e1 : ((k - k' : Nat) : Int) = (k : Int) - (k' : Int) := by omega
    have e2 : ((k - k : Nat) : Int) = (k : Int) - (k : Int) := by omega
    rw [e2] at s1
    rw [e1] at s2
    simp (disch := omega) only [go_sem, and_self, and_true, true_and, false_and, and_false, Nat.reduceAdd, Nat.reduceMul, Nat.reduceSub, Nat.reduceLeDiff, Nat.reduceLT, Nat.reduceGT, Nat.reduceEqDiff, Nat.reduceBEq, Int.reduceNeg, Int.reduceEq, Int.reduceLT, Int.reduceLE, Int.reduceBEq, Int.reduceToNat, Int.toNat_natCast, Int.natCast_zero, r56_T, r56, h, o1, o2, s1, s2, w64, longD, atN, atL]
end Go.Pe.T

namespace Go.Pe.T

theorem digs_val (n : Nat) : val (digs n) = n ∧ Digs (digs n) := by
  induction n using Nat.strongRecOn with
  | _ n ih =>
    rw [digs]
    split
    · rename_i h; subst h; exact ⟨by simp [val], Digs.nil⟩
    · obtain ⟨i1, i2⟩ := ih (n / 10) (by omega)
      refine ⟨?_, Digs.mk ⟨by omega, by omega⟩ i2⟩
      simp only [val, i1]
      omega

theorem rep_digs {l : List Int} (h : Digs l) (n : Nat) : Digs (List.replicate n 0 ++ l) := fun d hd => by
  rcases List.mem_append.1 hd with hd | hd
  · obtain rfl := (List.mem_replicate.1 hd).2
    exact ⟨by omega, by omega⟩
  · exact h d hd

theorem trimN_zero {l : List Int} (h : Digs l) : trimN l l.length = 0 ↔ val l = 0 := by
  have h1 := trimL_val l
  have h2 := trimL_len l
  constructor
  · intro e
    rw [e] at h2
    have : trimL l = [] := List.eq_nil_of_length_eq_zero h2
    rw [this] at h1
    exact h1.symm
  · intro e
    have ht : Top (trimL l) := ⟨trimL_digs h, trimL_top l⟩
    by_cases hn : trimL l = []
    · rw [← h2, hn]; rfl
    · have := top_bound ht hn
      have hp := p10_pos ((trimL l).length - 1)
      rw [h1] at this
      omega

theorem at_top (c : Int) (k : Nat) : Top (atL c k) ∧ val (atL c k) = 10 ^ k * (c.natAbs : Int) ∧ atN c k = decide (c < 0) := by
  obtain ⟨d1, d2⟩ := digs_val c.natAbs
  have h1 := rep_digs d2 k
  have hv : val (atL c k) = 10 ^ k * (c.natAbs : Int) := by unfold atL shiftL; rw [trimL_val, val_rep, d1]
  refine ⟨⟨trimL_digs h1, trimL_top _⟩, hv, ?_⟩
  unfold atN
  have hz := trimN_zero h1
  rw [val_rep, d1] at hz
  simp only [List.length_append, List.length_replicate] at hz
  by_cases hc : c < 0
  · have hne : (10 : Int) ^ k * (c.natAbs : Int) ≠ 0 := by
      have hp := p10_pos k
      have : 0 < (10 : Int) ^ k * (c.natAbs : Int) := Int.mul_pos hp (by omega)
      omega
    have : trimN (List.replicate k 0 ++ digs c.natAbs) (k + (digs c.natAbs).length) ≠ 0 := fun e => hne (hz.1 e)
    simp [hc, this]
  · simp [hc]

theorem at_len (c : Int) (k : Nat) (hk : k ≤ 9) (hc : -1000000000000000 < c ∧ c < 1000000000000000) : (atL c k).length ≤ 900 := by
  have e15 : (10 : Nat) ^ 15 = 1000000000000000 := by decide
  have d1 := digs_len 15 c.natAbs (by omega)
  unfold atL shiftL trimL
  simp only [List.length_take, List.length_append, List.length_replicate]
  omega

theorem sgn_scale {a b p : Int} (hp : 0 < p) : sgn (a * p) (b * p) = sgn a b := by
  unfold sgn
  have h1 : a * p < b * p ↔ a < b := ⟨fun h => Int.lt_of_mul_lt_mul_right h (by omega), fun h => Int.mul_lt_mul_of_pos_right h hp⟩
  have h2 : b * p < a * p ↔ b < a := ⟨fun h => Int.lt_of_mul_lt_mul_right h (by omega), fun h => Int.mul_lt_mul_of_pos_right h hp⟩
  simp only [gt_iff_lt, h1, h2]

/-- what a difference's digits tell -/
def tells (neg : Bool) (v : Int) : Int := if v = 0 then 0 else if neg then -1 else 1

theorem plus_tells {na nb : Bool} {a b : List Int} (ha : Top a) (hb : Top b) : ∃ neg l, plusD na a nb b = trimmed neg l ∧ Digs l ∧ 
    tells neg (val l) = (let x := if na then - val a else val a; let y := if nb then val b else - val b; sgn x y) := by
  have h1 := (val_bound ha.1).1
  have h2 := (val_bound hb.1).1
  obtain ⟨g0, g1, g2⟩ := aboveL_val ha hb
  unfold plusD
  split
  · rename_i hn
    subst hn
    obtain ⟨s1, s2, _⟩ := sum_val (max a.length b.length + 2) a b 0 ha.1 hb.1 (by omega) (by omega) (by omega)
    refine ⟨na, _, rfl, s2, ?_⟩
    rw [s1]
    cases na <;> simp only [tells, sgn, Bool.false_eq_true, if_true, if_false] <;> split <;> split <;> (try split) <;> omega
  · rename_i hn
    split
    · rename_i hx
      have hle : val b ≤ val a := by rw [g0] at hx; simpa using hx
      obtain ⟨_, l2, _⟩ := less_val a b 0 ha.1 hb.1 (by omega) (by omega) (g1 hx)
      refine ⟨na, _, rfl, l2, ?_⟩
      rw [less_exact ha.1 hb.1 (g1 hx) hle]
      cases na <;> cases nb <;> simp at hn <;> simp only [tells, sgn, Bool.false_eq_true, if_true, if_false] <;> split <;> split <;> (try split) <;> omega
    · rename_i hx
      have hx' : aboveL a b = false := by simpa using hx
      have hle : val a ≤ val b := by rw [g0] at hx'; simp at hx'; omega
      obtain ⟨_, l2, _⟩ := less_val b a 0 hb.1 ha.1 (by omega) (by omega) (g2 hx')
      refine ⟨nb, _, rfl, l2, ?_⟩
      rw [less_exact hb.1 ha.1 (g2 hx') hle]
      cases na <;> cases nb <;> simp at hn <;> simp only [tells, sgn, Bool.false_eq_true, if_true, if_false] <;> split <;> split <;> (try split) <;> omega

theorem cmp4_ok (c c' : Int) (k k' : Nat) (hk : k ≤ 9) (hk' : k' ≤ 9) (hc : -1000000000000000 < c ∧ c < 1000000000000000) (hc' : -1000000000000000 < c' ∧ c' < 1000000000000000) (hp : List Ent) :
    F tab 32 [.d (numD c k), .d (numD c' k')] hp = some (.ret (.d (iv (sgn (flatN c k) (flatN c' k')))) hp) := by
  refine f32 rfl ?_
  have hl := line_ok c c' k k' hk hk' hc hc'
  obtain ⟨t1, v1, n1⟩ := at_top c (max k k' - k)
  obtain ⟨t2, v2, n2⟩ := at_top c' (max k k' - k')
  have hp' := plus_ok (atN c (max k k' - k)) (!atN c' (max k k' - k')) (atL c (max k k' - k)) (atL c' (max k k' - k')) t1 t2 (at_len _ _ (by omega) hc) (at_len _ _ (by omega) hc')
  obtain ⟨neg, l, e1, dl1, e2⟩ := plus_tells (na := atN c (max k k' - k)) (nb := !atN c' (max k k' - k')) t1 t2
  rw [e1] at hp'
  have hz := trimN_zero dl1
  have hfin : tells neg (val l) = sgn (flatN c k) (flatN c' k') := by
    rw [e2, n1, n2, v1, v2]
    have hM : 0 < (10 : Int) ^ (9 - max k k') := p10_pos _
    have ea : flatN c k = c * 10 ^ (max k k' - k) * 10 ^ (9 - max k k') := by
      unfold flatN
      rw [Int.mul_assoc, ← Int.pow_add, show max k k' - k + (9 - max k k') = 9 - k by omega]
    have eb : flatN c' k' = c' * 10 ^ (max k k' - k') * 10 ^ (9 - max k k') := by
      unfold flatN
      rw [Int.mul_assoc, ← Int.pow_add, show max k k' - k' + (9 - max k k') = 9 - k' by omega]
    rw [ea, eb, sgn_scale hM]
    have fa : ∀ (c : Int) (q : Int), (if decide (c < 0) = true then -(q * (c.natAbs : Int)) else q * (c.natAbs : Int)) = c * q := by
      intro c q
      by_cases h : c < 0
      · have : (c.natAbs : Int) = -c := by omega
        simp only [h, decide_true, if_true, this, Int.mul_neg, Int.neg_neg, Int.mul_comm]
      · have : (c.natAbs : Int) = c := by omega
        simp only [h, decide_false, Bool.false_eq_true, if_false, this, Int.mul_comm]
    have fb : ∀ (c : Int) (q : Int), (if (!decide (c < 0)) = true then q * (c.natAbs : Int) else -(q * (c.natAbs : Int))) = c * q := by
      intro c q
      by_cases h : c < 0
      · have : (c.natAbs : Int) = -c := by omega
        simp only [h, decide_true, Bool.not_true, Bool.false_eq_true, if_false, this, Int.mul_neg, Int.neg_neg, Int.mul_comm]
      · have : (c.natAbs : Int) = c := by omega
        simp only [h, decide_false, Bool.not_false, if_true, this, Int.mul_comm]
    simp only [fa, fb]
  rw [← hfin]
  unfold tells
  by_cases h0 : val l = 0
  · have g0 := hz.2 h0
    have g1 : trimL l = [] := List.eq_nil_of_length_eq_zero (by rw [trimL_len, g0])
    have g2 : (trimN l l.length != 0) = false := by simp [g0]
    simp (disch := omega) only [go_sem, and_self, and_true, true_and, false_and, and_false, Nat.reduceAdd, Nat.reduceMul, Nat.reduceSub, Nat.reduceLeDiff, Nat.reduceLT, Nat.reduceGT, Nat.reduceEqDiff, Nat.reduceBEq, Int.reduceNeg, Int.reduceEq, Int.reduceLT, Int.reduceLE, Int.reduceBEq, Int.reduceToNat, Int.toNat_natCast, Int.natCast_zero, r32_T, r32, hl, hp', trimmed_shape, g1, g2, h0]
  · have g0 : trimN l l.length ≠ 0 := fun e => h0 (hz.1 e)
    have g1 : ((trimL l).length : Int) ≠ 0 := by rw [trimL_len]; omega
    have g2 : (trimN l l.length != 0) = true := by simp [g0]
    have g3 : (((trimL l).length : Int) == 0) = false := by simpa using g1
    cases neg <;> simp (disch := omega) only [go_sem, and_self, and_true, true_and, false_and, and_false, Nat.reduceAdd, Nat.reduceMul, Nat.reduceSub, Nat.reduceLeDiff, Nat.reduceLT, Nat.reduceGT, Nat.reduceEqDiff, Nat.reduceBEq, Int.reduceNeg, Int.reduceEq, Int.reduceLT, Int.reduceLE, Int.reduceBEq, Int.reduceToNat, Int.toNat_natCast, Int.natCast_zero, r32_T, r32, hl, hp', trimmed_shape, List.length_map, g2, g3, h0]
end Go.Pe.T
