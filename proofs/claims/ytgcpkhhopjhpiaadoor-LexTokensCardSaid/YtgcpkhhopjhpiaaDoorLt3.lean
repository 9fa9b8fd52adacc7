/- A part of the proof of: The tokens of any query, or where it is wrong, and how, are the document's, one by one (LexTokens); no condition beyond the statement's own. -/
import Derived.Test.YtgcpkhhopjhpiaaDoorLt2
import Derived.Test.YtgcpkhhopjhpiaaDoorPe3
import Derived.KernelRfl
set_option linter.unusedSimpArgs false
set_option maxRecDepth 10000
set_option linter.unusedVariables false

namespace Go.Pe.T
@[go_sem] def r32_K0 (_ : Unit) : RCode := .seq (.reg [mo 10 0,io 11 (.bin .quo (.t 10) (.c (.d (.int .i64 64)))),io 12 (.bin .add (.c (.d (.int .i64 192))) (.t 11)),io 13 (.conv (.int .u8) (.t 12)),mo 14 0,io 15 (.bin .rem (.t 14) (.c (.d (.int .i64 64)))),io 16 (.bin .add (.c (.d (.int .i64 128))) (.t 15)),io 17 (.conv (.int .u8) (.t 16)),io 18 (.bsl 5 1 [(.t 13),(.t 17)]),mo 2 18] [] false) (.ret [.kill,.kill,.keep])
@[go_sem] def r32_K1 (_ : Unit) : RCode := .seq (.reg [mo 21 0,io 22 (.bin .quo (.t 21) (.c (.d (.int .i64 4096)))),io 23 (.bin .add (.c (.d (.int .i64 224))) (.t 22)),io 24 (.conv (.int .u8) (.t 23)),mo 25 0,io 26 (.bin .quo (.t 25) (.c (.d (.int .i64 64)))),io 27 (.bin .rem (.t 26) (.c (.d (.int .i64 64)))),io 28 (.bin .add (.c (.d (.int .i64 128))) (.t 27)),io 29 (.conv (.int .u8) (.t 28)),mo 30 0,io 31 (.bin .rem (.t 30) (.c (.d (.int .i64 64)))),io 32 (.bin .add (.c (.d (.int .i64 128))) (.t 31)),io 33 (.conv (.int .u8) (.t 32)),io 34 (.bsl 5 1 [(.t 24),(.t 29),(.t 33)]),mo 2 34] [] false) (.ret [.kill,.kill,.keep])
@[go_sem] def r32_K2 (_ : Unit) : RCode := .seq (.reg [mo 35 0,io 36 (.bin .quo (.t 35) (.c (.d (.int .i64 262144)))),io 37 (.bin .add (.c (.d (.int .i64 240))) (.t 36)),io 38 (.conv (.int .u8) (.t 37)),mo 39 0,io 40 (.bin .quo (.t 39) (.c (.d (.int .i64 4096)))),io 41 (.bin .rem (.t 40) (.c (.d (.int .i64 64)))),io 42 (.bin .add (.c (.d (.int .i64 128))) (.t 41)),io 43 (.conv (.int .u8) (.t 42)),mo 44 0,io 45 (.bin .quo (.t 44) (.c (.d (.int .i64 64)))),io 46 (.bin .rem (.t 45) (.c (.d (.int .i64 64)))),io 47 (.bin .add (.c (.d (.int .i64 128))) (.t 46)),io 48 (.conv (.int .u8) (.t 47)),mo 49 0,io 50 (.bin .rem (.t 49) (.c (.d (.int .i64 64)))),io 51 (.bin .add (.c (.d (.int .i64 128))) (.t 50)),io 52 (.conv (.int .u8) (.t 51)),io 53 (.bsl 5 1 [(.t 38),(.t 43),(.t 48),(.t 52)]),mo 2 53] [] false) (.ret [.kill,.kill,.keep])
@[go_sem] def r32_K3 (_ : Unit) : RCode := .seq (.seq (.reg [mo 3 0,io 4 (.bin .lss (.t 3) (.c (.d (.int .i64 128))))] [] false) (.cond (.t 4) (.seq (.reg [mo 5 0,io 6 (.conv (.int .u8) (.t 5)),io 7 (.bsl 5 1 [(.t 6)]),mo 2 7] [] false) (.ret [.kill,.kill,.keep])) (.skip))) (.seq (.seq (.reg [mo 8 0,io 9 (.bin .lss (.t 8) (.c (.d (.int .i64 2048))))] [] false) (.cond (.t 9) (hold r32_K0) (.skip))) (.seq (.seq (.reg [mo 19 0,io 20 (.bin .lss (.t 19) (.c (.d (.int .i64 65536))))] [] false) (.cond (.t 20) (hold r32_K1) (.skip))) (hold r32_K2)))
def r32_T : RCode := .seq (.reg [io 2 (.mv false (.c (.d (.sl []))))] [] false) (hold r32_K3)
def r32 : RFunc := ⟨54,true,[.t 2],r32_T⟩
@[go_sem] def r33_K0 (_ : Unit) : RCode := .cond (.t 29) (.reg [mo 30 6,io 31 (.bin .sub (.t 30) (.c (.d (.int .i64 224)))),io 7 (.mv false (.c (.d (.int .i64 3)))),mo 8 31] [] false) (.seq (.reg [mo 32 6,io 33 (.bin .geq (.t 32) (.c (.d (.int .i64 192))))] [] false) (.cond (.t 33) (.reg [mo 34 6,io 35 (.bin .sub (.t 34) (.c (.d (.int .i64 192)))),io 7 (.mv false (.c (.d (.int .i64 2)))),mo 8 35] [] false) (.skip)))
@[go_sem] def r33_K1 (_ : Unit) : RCode := .seq (.seq (.reg [mo 65 10,io 66 (.bin .lss (.t 65) (.c (.d (.int .i64 128)))),mo 67 66,⟨some 68,some (67,false),.mv false (.t 10)⟩,⟨some 69,some (67,false),.bin .gtr (.t 68) (.c (.d (.int .i64 191)))⟩,io 70 (.pick (.t 67) (.c (.d (.bool true))) (.t 69))] [] false) (.cond (.t 70) (.seq (.reg [io 2 (.mv false (.c (.d (.sl [])))),io 3 (.mv false (.c (.d (.bool false))))] [] false) (.ret [.kill,.kill,.keep,.keep])) (.skip))) (.reg [mo 71 8,io 72 (.bin .mul (.c (.d (.int .i64 64))) (.t 71)),mo 73 10,io 74 (.bin .add (.t 72) (.t 73)),io 75 (.bin .sub (.t 74) (.c (.d (.int .i64 128)))),mo 8 75] [] false)
@[go_sem] def r33_K2 (_ : Unit) : RCode := .seq (.block 3 [.keep,.kill,.kill,.kill,.norm 3,.keep,.kill,.keep,.keep,.keep] (.seq (.reg [mo 59 0,mo 60 5,mo 61 9,io 62 (.bin .add (.t 60) (.t 61)),io 63 (.six (.t 59) (.t 62)),io 64 (.conv (.int .i64) (.t 63)),mo 10 64] [] false) (hold r33_K1))) (.reg [mo 57 9,io 58 (.bin .add (.t 57) (.c (.d (.int .i64 1)))),mo 9 58] [] false)
def r33_C1 : RCode := .seq (.seq (.reg [mo 54 9,mo 55 7,io 56 (.bin .lss (.t 54) (.t 55))] [] false) (.cond (.t 56) (.skip) (.exit 2))) (hold r33_K2)
def r33_B1 : RCode := .block 2 [.keep,.kill,.kill,.kill,.norm 3,.keep,.kill,.keep,.keep] (.loop [.keep,.kill,.kill,.kill,.norm 3,.keep,.kill,.keep,.keep,.keep] r33_C1)
theorem r33_B1_eq {cf : CF} {s : St} : V cf r33_B1 s = loopK cf r33_B1 2 [.keep,.kill,.kill,.kill,.norm 3,.keep,.kill,.keep,.keep] [.keep,.kill,.kill,.kill,.norm 3,.keep,.kill,.keep,.keep,.keep] (V cf r33_C1 (s.head [.keep,.kill,.kill,.kill,.norm 3,.keep,.kill,.keep,.keep,.keep])) := V_bloop
abbrev r33_S1 (x0 x4 x5 x7 x8 x9 : PV) (hp : List Ent) : St := ⟨x0 :: z2 (.dead :: x4 :: x5 :: .dead :: x7 :: x8 :: x9 :: z32 (z32 (z32 ([])))),hp⟩
abbrev r33_E1 (x0 x4 x5 x7 x8 : PV) (hp : List Ent) : St := ⟨x0 :: z2 (.dead :: x4 :: x5 :: .dead :: x7 :: x8 :: z32 (z32 (z32 (.dead :: [])))),hp⟩
theorem r33_B1_n {cf : CF} {x0 a1 a2 a3 x4 x5 a6 x7 x8 x9 a10 a11 a12 a13 a14 a15 a16 a17 a18 a19 a20 a21 a22 a23 a24 a25 a26 a27 a28 a29 a30 a31 a32 a33 a34 a35 a36 a37 a38 a39 a40 a41 a42 a43 a44 a45 a46 a47 a48 a49 a50 a51 a52 a53 a54 a55 a56 a57 a58 a59 a60 a61 a62 a63 a64 a65 a66 a67 a68 a69 a70 a71 a72 a73 a74 a75 a76 a77 a78 a79 a80 a81 a82 a83 a84 a85 a86 a87 a88 a89 a90 a91 a92 a93 a94 a95 a96 a97 a98 a99 a100 a101 a102 a103 a104 a105 : PV} {hp : List Ent} : V cf r33_B1 ⟨[x0,a1,a2,a3,x4,x5,a6,x7,x8,x9,a10,a11,a12,a13,a14,a15,a16,a17,a18,a19,a20,a21,a22,a23,a24,a25,a26,a27,a28,a29,a30,a31,a32,a33,a34,a35,a36,a37,a38,a39,a40,a41,a42,a43,a44,a45,a46,a47,a48,a49,a50,a51,a52,a53,a54,a55,a56,a57,a58,a59,a60,a61,a62,a63,a64,a65,a66,a67,a68,a69,a70,a71,a72,a73,a74,a75,a76,a77,a78,a79,a80,a81,a82,a83,a84,a85,a86,a87,a88,a89,a90,a91,a92,a93,a94,a95,a96,a97,a98,a99,a100,a101,a102,a103,a104,a105],hp⟩ = V cf r33_B1 (r33_S1 x0 x4 x5 x7 x8 x9 hp) := by rw [r33_B1_eq,r33_B1_eq]; rfl
@[go_sem] def r33_K3 (_ : Unit) : RCode := .seq (.seq (.reg [mo 76 8,io 77 (.bin .gtr (.t 76) (.c (.d (.int .i64 1114111)))),mo 78 77,⟨some 79,some (78,false),.mv false (.t 8)⟩,⟨some 80,some (78,false),.bin .geq (.t 79) (.c (.d (.int .i64 55296)))⟩,⟨some 81,some (78,false),.mv false (.t 80)⟩,⟨some 82,some (81,true),.mv false (.t 8)⟩,⟨some 83,some (81,true),.bin .lss (.t 82) (.c (.d (.int .i64 57344)))⟩,⟨some 84,some (78,false),.pick (.t 81) (.t 83) (.c (.d (.bool false)))⟩,io 85 (.pick (.t 78) (.c (.d (.bool true))) (.t 84)),mo 86 85,⟨some 87,some (86,false),.mv false (.t 8)⟩,⟨some 88,some (86,false),.call false (.f 32) [(.t 87)]⟩,⟨some 89,some (86,false),.conv .toStr (.t 88)⟩,⟨some 90,some (86,false),.mv false (.t 0)⟩,⟨some 91,some (86,false),.mv false (.t 5)⟩,⟨some 92,some (86,false),.mv false (.t 5)⟩,⟨some 93,some (86,false),.mv false (.t 7)⟩,⟨some 94,some (86,false),.bin .add (.t 92) (.t 93)⟩,⟨some 95,some (86,false),.slc none (.t 90) (some (.t 91)) (some (.t 94)) none⟩,⟨some 96,some (86,false),.bin .neq (.t 89) (.t 95)⟩,io 97 (.pick (.t 86) (.c (.d (.bool true))) (.t 96))] [] true) (.cond (.t 97) (.seq (.reg [io 2 (.mv false (.c (.d (.sl [])))),io 3 (.mv false (.c (.d (.bool false))))] [] false) (.ret [.kill,.kill,.keep,.keep])) (.skip))) (.seq (.reg [io 98 (.mv true (.t 4)),mo 99 8,io 100 (.bsl 3 1 [(.t 99)]),io 101 (.app 3 1 8 (.t 98) (.t 100)),io 4 (.mv true (.t 101))] [] false) (.reg [mo 102 5,mo 103 7,io 104 (.bin .add (.t 102) (.t 103)),mo 5 104] [] false))
@[go_sem] def r33_K4 (_ : Unit) : RCode := .seq (.seq (.reg [mo 36 6,io 37 (.bin .geq (.t 36) (.c (.d (.int .i64 248)))),mo 38 37,⟨some 39,some (38,false),.mv false (.t 6)⟩,⟨some 40,some (38,false),.bin .geq (.t 39) (.c (.d (.int .i64 128)))⟩,⟨some 41,some (38,false),.mv false (.t 40)⟩,⟨some 42,some (41,true),.mv false (.t 6)⟩,⟨some 43,some (41,true),.bin .lss (.t 42) (.c (.d (.int .i64 192)))⟩,⟨some 44,some (38,false),.pick (.t 41) (.t 43) (.c (.d (.bool false)))⟩,io 45 (.pick (.t 38) (.c (.d (.bool true))) (.t 44)),mo 46 45,⟨some 47,some (46,false),.mv false (.t 5)⟩,⟨some 48,some (46,false),.mv false (.t 7)⟩,⟨some 49,some (46,false),.bin .add (.t 47) (.t 48)⟩,⟨some 50,some (46,false),.mv false (.t 0)⟩,⟨some 51,some (46,false),.len true (.t 50)⟩,⟨some 52,some (46,false),.bin .gtr (.t 49) (.t 51)⟩,io 53 (.pick (.t 46) (.c (.d (.bool true))) (.t 52))] [] false) (.cond (.t 53) (.seq (.reg [io 2 (.mv false (.c (.d (.sl [])))),io 3 (.mv false (.c (.d (.bool false))))] [] false) (.ret [.kill,.kill,.keep,.keep])) (.skip))) (.seq (.seq (.reg [io 9 (.mv false (.c (.d (.int .i64 1))))] [] false) (r33_B1)) (hold r33_K3))
@[go_sem] def r33_K5 (_ : Unit) : RCode := .seq (.seq (.reg [mo 20 6,io 21 (.bin .geq (.t 20) (.c (.d (.int .i64 240)))),mo 22 21,⟨some 23,some (22,true),.mv false (.t 6)⟩,⟨some 24,some (22,true),.bin .lss (.t 23) (.c (.d (.int .i64 248)))⟩,io 25 (.pick (.t 22) (.t 24) (.c (.d (.bool false))))] [] false) (.cond (.t 25) (.reg [mo 26 6,io 27 (.bin .sub (.t 26) (.c (.d (.int .i64 240)))),io 7 (.mv false (.c (.d (.int .i64 4)))),mo 8 27] [] false) (.seq (.reg [mo 28 6,io 29 (.bin .geq (.t 28) (.c (.d (.int .i64 224))))] [] false) (hold r33_K0)))) (hold r33_K4)
def r33_C0 : RCode := .seq (.seq (.reg [mo 11 5,mo 12 0,io 13 (.len true (.t 12)),io 14 (.bin .lss (.t 11) (.t 13))] [] false) (.cond (.t 14) (.skip) (.exit 0))) (.block 1 [.keep,.kill,.kill,.kill,.norm 3,.keep] (.seq (.reg [mo 15 0,mo 16 5,io 17 (.six (.t 15) (.t 16)),io 18 (.conv (.int .i64) (.t 17)),mo 6 18] [] false) (.seq (.reg [mo 19 6,io 7 (.mv false (.c (.d (.int .i64 1)))),mo 8 19] [] false) (hold r33_K5))))
def r33_B0 : RCode := .block 0 [.kill,.kill,.kill,.kill,.norm 3] (.loop [.keep,.kill,.kill,.kill,.norm 3,.keep] r33_C0)
theorem r33_B0_eq {cf : CF} {s : St} : V cf r33_B0 s = loopK cf r33_B0 0 [.kill,.kill,.kill,.kill,.norm 3] [.keep,.kill,.kill,.kill,.norm 3,.keep] (V cf r33_C0 (s.head [.keep,.kill,.kill,.kill,.norm 3,.keep])) := V_bloop
abbrev r33_S0 (x0 x4 x5 : PV) (hp : List Ent) : St := ⟨x0 :: z2 (.dead :: x4 :: x5 :: z32 (z32 (z32 (z4 ([]))))),hp⟩
abbrev r33_E0 (x4 : PV) (hp : List Ent) : St := ⟨z4 (x4 :: z32 (z32 (z32 (z4 (.dead :: []))))),hp⟩
theorem r33_B0_z4 {cf : CF} {x0 x5 : PV} {hp : List Ent} : V cf r33_B0 (r33_S0 x0 .nilsl x5 hp) = V cf r33_B0 (r33_S0 x0 (.own 3 []) x5 hp) := by rw [r33_B0_eq,r33_B0_eq]; rfl
theorem r33_B0_n {cf : CF} {x0 a1 a2 a3 x4 x5 a6 a7 a8 a9 a10 a11 a12 a13 a14 a15 a16 a17 a18 a19 a20 a21 a22 a23 a24 a25 a26 a27 a28 a29 a30 a31 a32 a33 a34 a35 a36 a37 a38 a39 a40 a41 a42 a43 a44 a45 a46 a47 a48 a49 a50 a51 a52 a53 a54 a55 a56 a57 a58 a59 a60 a61 a62 a63 a64 a65 a66 a67 a68 a69 a70 a71 a72 a73 a74 a75 a76 a77 a78 a79 a80 a81 a82 a83 a84 a85 a86 a87 a88 a89 a90 a91 a92 a93 a94 a95 a96 a97 a98 a99 a100 a101 a102 a103 a104 a105 : PV} {hp : List Ent} : V cf r33_B0 ⟨[x0,a1,a2,a3,x4,x5,a6,a7,a8,a9,a10,a11,a12,a13,a14,a15,a16,a17,a18,a19,a20,a21,a22,a23,a24,a25,a26,a27,a28,a29,a30,a31,a32,a33,a34,a35,a36,a37,a38,a39,a40,a41,a42,a43,a44,a45,a46,a47,a48,a49,a50,a51,a52,a53,a54,a55,a56,a57,a58,a59,a60,a61,a62,a63,a64,a65,a66,a67,a68,a69,a70,a71,a72,a73,a74,a75,a76,a77,a78,a79,a80,a81,a82,a83,a84,a85,a86,a87,a88,a89,a90,a91,a92,a93,a94,a95,a96,a97,a98,a99,a100,a101,a102,a103,a104,a105],hp⟩ = V cf r33_B0 (r33_S0 x0 x4 x5 hp) := by rw [r33_B0_eq,r33_B0_eq]; rfl
abbrev r33_R (x2 x3 : PV) (hp : List Ent) : St := ⟨z2 (x2 :: x3 :: z32 (z32 (z32 (z4 (z2 ([])))))),hp⟩
def r33_T : RCode := .seq (.reg [io 2 (.mv false (.c (.d (.sl [])))),io 3 (.mv false (.c (.d (.bool false))))] [] false) (.seq (.reg [io 4 (.mv true (.c (.nilsl)))] [] false) (.seq (.seq (.reg [io 5 (.mv false (.c (.d (.int .i64 0))))] [] false) (r33_B0)) (.seq (.reg [mo 105 4,mo 2 105,io 3 (.mv false (.c (.d (.bool true))))] [] false) (.ret [.kill,.kill,.keep,.keep]))))
def r33 : RFunc := ⟨106,true,[.t 2,.t 3],r33_T⟩
def r18_K0 (_ : Unit) : RCode := .seq (.reg [io 72 (.mv true (.t 4)),mo 73 8,io 74 (.conv (.int .u8) (.t 73)),io 75 (.bsl 5 1 [(.t 74)]),io 76 (.app 5 1 1 (.t 72) (.t 75)),io 4 (.mv true (.t 76))] [] false) (.seq (.reg [mo 77 6,io 78 (.bin .add (.t 77) (.c (.d (.int .i64 2)))),mo 6 78] [] false) (.exit 1))
@[go_sem] def r18_K1 (_ : Unit) : RCode := .seq (.reg [mo 65 0,mo 66 6,io 67 (.bin .add (.t 66) (.c (.d (.int .i64 1)))),io 68 (.six (.t 65) (.t 67)),io 69 (.call false (.f 30) [(.t 68)]),mo 8 69] [] false) (.seqc (.seq (.reg [mo 70 8,io 71 (.bin .lss (.t 70) (.c (.d (.int .i64 0))))] [] false) (.cond (.t 71) (.seq (.reg [io 2 (.mv false (.c (.d (.str ⟨#[]⟩)))),io 3 (.mv false (.c (.d (.int .i64 3))))] [] false) (.ret [.kill,.kill,.keep,.keep])) (.skip))) [.keep,.kill,.kill,.kill,.norm 5,.keep,.keep,.kill,.keep] (hold r18_K0))
@[go_sem] def r18_K2 (_ : Unit) : RCode := .seq (.reg [io 125 (.mv true (.t 4)),mo 126 9,io 127 (.bin .sub (.t 126) (.c (.d (.int .i64 55296)))),io 128 (.bin .mul (.c (.d (.int .i64 1024))) (.t 127)),io 129 (.bin .add (.c (.d (.int .i64 65536))) (.t 128)),mo 130 10,io 131 (.bin .add (.t 129) (.t 130)),io 132 (.bin .sub (.t 131) (.c (.d (.int .i64 56320)))),io 133 (.call false (.f 32) [(.t 132)]),io 134 (.app 5 1 1 (.t 125) (.t 133)),io 4 (.mv true (.t 134))] [] false) (.seq (.reg [mo 135 6,io 136 (.bin .add (.t 135) (.c (.d (.int .i64 6)))),mo 6 136] [] false) (.exit 1))
def r18_K3 (_ : Unit) : RCode := .seq (.reg [mo 119 10,io 120 (.bin .geq (.t 119) (.c (.d (.int .i64 56320)))),mo 121 120,⟨some 122,some (121,true),.mv false (.t 10)⟩,⟨some 123,some (121,true),.bin .lss (.t 122) (.c (.d (.int .i64 57344)))⟩,io 124 (.pick (.t 121) (.t 123) (.c (.d (.bool false))))] [] false) (.cond (.t 124) (hold r18_K2) (.skip))
@[go_sem] def r18_K4 (_ : Unit) : RCode := .seq (.reg [mo 113 0,mo 114 6,io 115 (.bin .add (.t 114) (.c (.d (.int .i64 2)))),io 116 (.call false (.f 31) [(.t 113),(.t 115)]),mo 10 116] [] false) (.seqc (.seq (.reg [mo 117 10,io 118 (.bin .lss (.t 117) (.c (.d (.int .i64 0))))] [] false) (.cond (.t 118) (.seq (.reg [io 2 (.mv false (.c (.d (.str ⟨#[]⟩)))),io 3 (.mv false (.c (.d (.int .i64 3))))] [] false) (.ret [.kill,.kill,.keep,.keep])) (.skip))) [.keep,.kill,.kill,.kill,.norm 5,.keep,.keep,.kill,.kill,.keep,.keep] (hold r18_K3))
def r18_K5 (_ : Unit) : RCode := .seq (.seq (.reg [mo 137 9,io 138 (.bin .geq (.t 137) (.c (.d (.int .i64 55296)))),mo 139 138,⟨some 140,some (139,true),.mv false (.t 9)⟩,⟨some 141,some (139,true),.bin .lss (.t 140) (.c (.d (.int .i64 57344)))⟩,io 142 (.pick (.t 139) (.t 141) (.c (.d (.bool false))))] [] false) (.cond (.t 142) (.seq (.reg [io 5 (.mv false (.c (.d (.bool true))))] [] false) (.exit 1)) (.skip))) (.reg [io 143 (.mv true (.t 4)),mo 144 9,io 145 (.call false (.f 32) [(.t 144)]),io 146 (.app 5 1 1 (.t 143) (.t 145)),io 4 (.mv true (.t 146))] [] false)
abbrev r18_J5 (x0 x4 x5 x6 x9 : PV) (hp : List Ent) : St := ⟨x0 :: z2 (.dead :: x4 :: x5 :: x6 :: z2 (x9 :: z32 (z32 (z32 (z32 (z8 (z8 (z4 (z2 ([])))))))))),hp⟩
@[go_sem] def r18_K6 (_ : Unit) : RCode := .seqc (.seq (.reg [mo 87 9,io 88 (.bin .geq (.t 87) (.c (.d (.int .i64 55296)))),mo 89 88,⟨some 90,some (89,true),.mv false (.t 9)⟩,⟨some 91,some (89,true),.bin .lss (.t 90) (.c (.d (.int .i64 56320)))⟩,io 92 (.pick (.t 89) (.t 91) (.c (.d (.bool false)))),mo 93 92,⟨some 94,some (93,true),.mv false (.t 6)⟩,⟨some 95,some (93,true),.bin .add (.t 94) (.c (.d (.int .i64 1)))⟩,⟨some 96,some (93,true),.mv false (.t 0)⟩,⟨some 97,some (93,true),.len true (.t 96)⟩,⟨some 98,some (93,true),.bin .lss (.t 95) (.t 97)⟩,io 99 (.pick (.t 93) (.t 98) (.c (.d (.bool false)))),mo 100 99,⟨some 101,some (100,true),.mv false (.t 0)⟩,⟨some 102,some (100,true),.mv false (.t 6)⟩,⟨some 103,some (100,true),.six (.t 101) (.t 102)⟩,⟨some 104,some (100,true),.bin .eql (.t 103) (.c (.d (.int .u8 92)))⟩,io 105 (.pick (.t 100) (.t 104) (.c (.d (.bool false)))),mo 106 105,⟨some 107,some (106,true),.mv false (.t 0)⟩,⟨some 108,some (106,true),.mv false (.t 6)⟩,⟨some 109,some (106,true),.bin .add (.t 108) (.c (.d (.int .i64 1)))⟩,⟨some 110,some (106,true),.six (.t 107) (.t 109)⟩,⟨some 111,some (106,true),.bin .eql (.t 110) (.c (.d (.int .u8 117)))⟩,io 112 (.pick (.t 106) (.t 111) (.c (.d (.bool false))))] [] false) (.cond (.t 112) (hold r18_K4) (.skip))) [.keep,.kill,.kill,.kill,.norm 5,.keep,.keep,.kill,.kill,.keep] (hold r18_K5)
def r18_K7 (_ : Unit) : RCode := .seq (.reg [mo 85 6,io 86 (.bin .add (.t 85) (.c (.d (.int .i64 6)))),mo 6 86] [] false) (hold r18_K6)
abbrev r18_J7 (x0 x4 x5 x6 x9 : PV) (hp : List Ent) : St := ⟨x0 :: z2 (.dead :: x4 :: x5 :: x6 :: z2 (x9 :: z32 (z32 (z32 (z32 (z8 (z8 (z4 (z2 ([])))))))))),hp⟩
def r18_K8 (_ : Unit) : RCode := .seq (.reg [mo 79 0,mo 80 6,io 81 (.bin .add (.t 80) (.c (.d (.int .i64 2)))),io 82 (.call false (.f 31) [(.t 79),(.t 81)]),mo 9 82] [] false) (.seqc (.seq (.reg [mo 83 9,io 84 (.bin .lss (.t 83) (.c (.d (.int .i64 0))))] [] false) (.cond (.t 84) (.seq (.reg [io 2 (.mv false (.c (.d (.str ⟨#[]⟩)))),io 3 (.mv false (.c (.d (.int .i64 3))))] [] false) (.ret [.kill,.kill,.keep,.keep])) (.skip))) [.keep,.kill,.kill,.kill,.norm 5,.keep,.keep,.kill,.kill,.keep] (hold r18_K7))
abbrev r18_J8 (x0 x4 x5 x6 : PV) (hp : List Ent) : St := ⟨x0 :: z2 (.dead :: x4 :: x5 :: x6 :: z32 (z32 (z32 (z32 (z8 (z8 (z8 (.dead :: [])))))))),hp⟩
def r18_K9 (_ : Unit) : RCode := .seqc (.seq (.reg [mo 60 0,mo 61 6,io 62 (.bin .add (.t 61) (.c (.d (.int .i64 1)))),io 63 (.six (.t 60) (.t 62)),io 64 (.bin .neq (.t 63) (.c (.d (.int .u8 117))))] [] false) (.cond (.t 64) (hold r18_K1) (.skip))) [.keep,.kill,.kill,.kill,.norm 5,.keep,.keep] (hold r18_K8)
def r18_K10 (_ : Unit) : RCode := .seqc (.seq (.reg [mo 55 6,io 56 (.bin .add (.t 55) (.c (.d (.int .i64 1)))),mo 57 0,io 58 (.len true (.t 57)),io 59 (.bin .geq (.t 56) (.t 58))] [] false) (.cond (.t 59) (.seq (.reg [io 2 (.mv false (.c (.d (.str ⟨#[]⟩)))),io 3 (.mv false (.c (.d (.int .i64 3))))] [] false) (.ret [.kill,.kill,.keep,.keep])) (.skip))) [.keep,.kill,.kill,.kill,.norm 5,.keep,.keep] (hold r18_K9)
abbrev r18_J10 (x0 x4 x5 x6 : PV) (hp : List Ent) : St := ⟨x0 :: z2 (.dead :: x4 :: x5 :: x6 :: z32 (z32 (z32 (z32 (z8 (z8 (z8 (.dead :: [])))))))),hp⟩
def r18_K11 (_ : Unit) : RCode := .seqc (.seq (.reg [mo 47 7,io 48 (.bin .neq (.t 47) (.c (.d (.int .u8 92))))] [] false) (.cond (.t 48) (.seq (.reg [io 49 (.mv true (.t 4)),mo 50 7,io 51 (.bsl 5 1 [(.t 50)]),io 52 (.app 5 1 1 (.t 49) (.t 51)),io 4 (.mv true (.t 52))] [] false) (.seq (.reg [mo 53 6,io 54 (.bin .add (.t 53) (.c (.d (.int .i64 1)))),mo 6 54] [] false) (.exit 1))) (.skip))) [.keep,.kill,.kill,.kill,.norm 5,.keep,.keep] (hold r18_K10)
@[go_sem] def r18_K12 (_ : Unit) : RCode := .seqc (.seq (.reg [mo 41 7,io 42 (.bin .eql (.t 41) (.c (.d (.int .u8 34)))),mo 43 42,⟨some 44,some (43,false),.mv false (.t 7)⟩,⟨some 45,some (43,false),.bin .lss (.t 44) (.c (.d (.int .u8 32)))⟩,io 46 (.pick (.t 43) (.c (.d (.bool true))) (.t 45))] [] false) (.cond (.t 46) (.seq (.reg [io 2 (.mv false (.c (.d (.str ⟨#[]⟩)))),io 3 (.mv false (.c (.d (.int .i64 3))))] [] false) (.ret [.kill,.kill,.keep,.keep])) (.skip))) [.keep,.kill,.kill,.kill,.norm 5,.keep,.keep,.keep] (hold r18_K11)
def r18_K13 (_ : Unit) : RCode := .block 1 [.keep,.kill,.kill,.kill,.norm 5,.keep,.keep] (.seq (.reg [mo 38 0,mo 39 6,io 40 (.six (.t 38) (.t 39)),mo 7 40] [] false) (hold r18_K12))
def r18_C0 : RCode := .seqc (.seq (.reg [mo 34 6,mo 35 0,io 36 (.len true (.t 35)),io 37 (.bin .lss (.t 34) (.t 36))] [] false) (.cond (.t 37) (.skip) (.exit 0))) [.keep,.kill,.kill,.kill,.norm 5,.keep,.keep] (hold r18_K13)
def r18_B0 : RCode := .block 0 [.kill,.kill,.kill,.kill,.norm 5,.keep] (.loop [.keep,.kill,.kill,.kill,.norm 5,.keep,.keep] r18_C0)
theorem r18_B0_eq {cf : CF} {s : St} : V cf r18_B0 s = loopK cf r18_B0 0 [.kill,.kill,.kill,.kill,.norm 5,.keep] [.keep,.kill,.kill,.kill,.norm 5,.keep,.keep] (V cf r18_C0 (s.head [.keep,.kill,.kill,.kill,.norm 5,.keep,.keep])) := V_bloop
abbrev r18_S0 (x0 x4 x5 x6 : PV) (hp : List Ent) : St := ⟨x0 :: z2 (.dead :: x4 :: x5 :: x6 :: z32 (z32 (z32 (z32 (z8 (z8 (z8 (.dead :: [])))))))),hp⟩
abbrev r18_E0 (x4 x5 : PV) (hp : List Ent) : St := ⟨z4 (x4 :: x5 :: z32 (z32 (z32 (z32 (z8 (z8 (z8 (z2 ([]))))))))),hp⟩
theorem r18_B0_z4 {cf : CF} {x0 x5 x6 : PV} {hp : List Ent} : V cf r18_B0 (r18_S0 x0 .nilsl x5 x6 hp) = V cf r18_B0 (r18_S0 x0 (.own 5 []) x5 x6 hp) := by rw [r18_B0_eq,r18_B0_eq]; rfl
theorem r18_B0_n {cf : CF} {x0 a1 a2 a3 x4 x5 x6 a7 a8 a9 a10 a11 a12 a13 a14 a15 a16 a17 a18 a19 a20 a21 a22 a23 a24 a25 a26 a27 a28 a29 a30 a31 a32 a33 a34 a35 a36 a37 a38 a39 a40 a41 a42 a43 a44 a45 a46 a47 a48 a49 a50 a51 a52 a53 a54 a55 a56 a57 a58 a59 a60 a61 a62 a63 a64 a65 a66 a67 a68 a69 a70 a71 a72 a73 a74 a75 a76 a77 a78 a79 a80 a81 a82 a83 a84 a85 a86 a87 a88 a89 a90 a91 a92 a93 a94 a95 a96 a97 a98 a99 a100 a101 a102 a103 a104 a105 a106 a107 a108 a109 a110 a111 a112 a113 a114 a115 a116 a117 a118 a119 a120 a121 a122 a123 a124 a125 a126 a127 a128 a129 a130 a131 a132 a133 a134 a135 a136 a137 a138 a139 a140 a141 a142 a143 a144 a145 a146 a147 a148 a149 a150 a151 a152 a153 a154 a155 a156 a157 a158 a159 : PV} {hp : List Ent} : V cf r18_B0 ⟨[x0,a1,a2,a3,x4,x5,x6,a7,a8,a9,a10,a11,a12,a13,a14,a15,a16,a17,a18,a19,a20,a21,a22,a23,a24,a25,a26,a27,a28,a29,a30,a31,a32,a33,a34,a35,a36,a37,a38,a39,a40,a41,a42,a43,a44,a45,a46,a47,a48,a49,a50,a51,a52,a53,a54,a55,a56,a57,a58,a59,a60,a61,a62,a63,a64,a65,a66,a67,a68,a69,a70,a71,a72,a73,a74,a75,a76,a77,a78,a79,a80,a81,a82,a83,a84,a85,a86,a87,a88,a89,a90,a91,a92,a93,a94,a95,a96,a97,a98,a99,a100,a101,a102,a103,a104,a105,a106,a107,a108,a109,a110,a111,a112,a113,a114,a115,a116,a117,a118,a119,a120,a121,a122,a123,a124,a125,a126,a127,a128,a129,a130,a131,a132,a133,a134,a135,a136,a137,a138,a139,a140,a141,a142,a143,a144,a145,a146,a147,a148,a149,a150,a151,a152,a153,a154,a155,a156,a157,a158,a159],hp⟩ = V cf r18_B0 (r18_S0 x0 x4 x5 x6 hp) := by rw [r18_B0_eq,r18_B0_eq]; rfl
@[go_sem] def r18_K14 (_ : Unit) : RCode := .seq (.seq (.reg [mo 153 5,mo 154 153,⟨some 155,some (154,false),.mv false (.t 12)⟩,⟨some 156,some (154,false),.un .not (.t 155)⟩,io 157 (.pick (.t 154) (.c (.d (.bool true))) (.t 156))] [] false) (.cond (.t 157) (.seq (.reg [io 2 (.mv false (.c (.d (.str ⟨#[]⟩)))),io 3 (.mv false (.c (.d (.int .i64 7))))] [] false) (.ret [.kill,.kill,.keep,.keep])) (.skip))) (.seq (.reg [mo 158 4,io 159 (.conv .toStr (.t 158)),mo 2 159,io 3 (.mv false (.c (.d (.int .i64 0))))] [] false) (.ret [.kill,.kill,.keep,.keep]))
def r18_K15 (_ : Unit) : RCode := .seq (.reg [mo 148 4,io 149 (.conv .toStr (.t 148)),io 150 (.call false (.f 33) [(.t 149)]),io 147 (.mvt (.t 150)),io 151 (.ext false (.t 147) 0),io 152 (.ext false (.t 147) 1),mo 11 151,mo 12 152] [] false) (hold r18_K14)
abbrev r18_J15 (x4 x5 : PV) (hp : List Ent) : St := ⟨z4 (x4 :: x5 :: z32 (z32 (z32 (z32 (z8 (z8 (z8 (z2 ([]))))))))),hp⟩
def r18_K16 (_ : Unit) : RCode := .seq (.reg [mo 29 0,mo 30 0,io 31 (.len true (.t 30)),io 32 (.bin .sub (.t 31) (.c (.d (.int .i64 1)))),io 33 (.slc none (.t 29) (some (.c (.d (.int .i64 1)))) (some (.t 32)) none),mo 0 33] [] false) (.seq (.reg [io 4 (.mv true (.c (.nilsl)))] [] false) (.seq (.reg [io 5 (.mv false (.c (.d (.bool false))))] [] false) (.seqc (.seq (.reg [io 6 (.mv false (.c (.d (.int .i64 0))))] [] false) (r18_B0)) [.kill,.kill,.kill,.kill,.norm 5,.keep] (hold r18_K15))))
abbrev r18_J16 (x0 : PV) (hp : List Ent) : St := ⟨x0 :: z32 (z32 (z32 (z32 (z8 (z8 (z8 (z4 (z2 (.dead :: []))))))))),hp⟩
@[go_sem] def r18_K17 (_ : Unit) : RCode := .seqc (.seq (.reg [mo 13 0,io 14 (.len true (.t 13)),io 15 (.bin .lss (.t 14) (.c (.d (.int .i64 2)))),mo 16 15,⟨some 17,some (16,false),.mv false (.t 0)⟩,⟨some 18,some (16,false),.six (.t 17) (.c (.d (.int .i64 0)))⟩,⟨some 19,some (16,false),.bin .neq (.t 18) (.c (.d (.int .u8 34)))⟩,io 20 (.pick (.t 16) (.c (.d (.bool true))) (.t 19)),mo 21 20,⟨some 22,some (21,false),.mv false (.t 0)⟩,⟨some 23,some (21,false),.mv false (.t 0)⟩,⟨some 24,some (21,false),.len true (.t 23)⟩,⟨some 25,some (21,false),.bin .sub (.t 24) (.c (.d (.int .i64 1)))⟩,⟨some 26,some (21,false),.six (.t 22) (.t 25)⟩,⟨some 27,some (21,false),.bin .neq (.t 26) (.c (.d (.int .u8 34)))⟩,io 28 (.pick (.t 21) (.c (.d (.bool true))) (.t 27))] [] false) (.cond (.t 28) (.seq (.reg [io 2 (.mv false (.c (.d (.str ⟨#[]⟩)))),io 3 (.mv false (.c (.d (.int .i64 3))))] [] false) (.ret [.kill,.kill,.keep,.keep])) (.skip))) [.keep] (hold r18_K16)
abbrev r18_R (x2 x3 : PV) (hp : List Ent) : St := ⟨z2 (x2 :: x3 :: z32 (z32 (z32 (z32 (z8 (z8 (z8 (z4 ([]))))))))),hp⟩
def r18_T : RCode := .seq (.reg [io 2 (.mv false (.c (.d (.str ⟨#[]⟩)))),io 3 (.mv false (.c (.d (.int .i64 0))))] [] false) (hold r18_K17)
def r18 : RFunc := ⟨160,true,[.t 2,.t 3],r18_T⟩
def r9_K0 (_ : Unit) : RCode := .seq (.reg [mo 46 7,mo 47 0,mo 48 6,mo 49 8,io 50 (.slc none (.t 47) (some (.t 48)) (some (.t 49)) none),mo 51 1,mo 52 8,mo 53 1,io 54 (.bin .sub (.t 52) (.t 53)),io 55 (.bld [.int .i64 0,.str ⟨#[]⟩,.int .i64 0,.int .i64 0,.int .i64 0,.int .i64 0,.int .i64 0] [(0,1,(.t 46)),(1,1,(.t 50)),(4,1,(.t 51)),(5,1,(.t 54))]),⟨none,none,.sto (some 7) (.t 4) (.t 55)⟩] [] false) (.ret [.kill,.kill,.kill,.kill,.keep])
@[go_sem] def r9_K1 (_ : Unit) : RCode := .seqc (.seq (.reg [mo 36 8,mo 37 6,io 38 (.bin .eql (.t 36) (.t 37)),mo 39 38,⟨some 40,some (39,false),.mv false (.t 8)⟩,⟨some 41,some (39,false),.mv false (.t 6)⟩,⟨some 42,some (39,false),.bin .sub (.t 40) (.t 41)⟩,⟨some 43,some (39,false),.bin .gtr (.t 42) (.c (.d (.int .i64 16)))⟩,io 44 (.pick (.t 39) (.c (.d (.bool true))) (.t 43))] [] false) (.cond (.t 44) (.seq (.reg [io 45 (.bld [.int .i64 0,.str ⟨#[]⟩,.int .i64 0,.int .i64 0,.int .i64 0,.int .i64 0,.int .i64 0] [(6,1,(.c (.d (.int .i64 14))))]),⟨none,none,.sto (some 7) (.t 4) (.t 45)⟩] [] false) (.ret [.kill,.kill,.kill,.kill,.keep])) (.skip))) [.keep,.keep,.kill,.kill,.keep,.kill,.keep,.keep,.keep] (hold r9_K0)
def r9_K2 (_ : Unit) : RCode := .seq (.reg [mo 33 0,mo 34 6,io 35 (.call false (.f 13) [(.t 33),(.t 34)]),mo 8 35] [] false) (hold r9_K1)
abbrev r9_J2 (x0 x1 x4 x6 x7 : PV) (hp : List Ent) : St := ⟨x0 :: x1 :: z2 (x4 :: .dead :: x6 :: x7 :: z32 (z32 (z32 (z32 (z8 (z8 (z8 (.dead :: [])))))))),hp⟩
@[go_sem] def r9_K3 (_ : Unit) : RCode := .seq (.reg [io 7 (.mv false (.c (.d (.int .i64 1))))] [] false) (.seqc (.seq (.reg [mo 29 5,io 30 (.bin .eql (.t 29) (.c (.d (.int .u8 36))))] [] false) (.cond (.t 30) (.seq (.reg [mo 31 1,io 32 (.bin .add (.t 31) (.c (.d (.int .i64 1)))),mo 6 32] [] false) (.reg [io 7 (.mv false (.c (.d (.int .i64 2))))] [] false)) (.skip))) [.keep,.keep,.kill,.kill,.keep,.kill,.keep,.keep] (hold r9_K2))
def r9_K4 (_ : Unit) : RCode := .seq (.reg [mo 73 0,mo 74 1,mo 75 9,io 76 (.slc none (.t 73) (some (.t 74)) (some (.t 75)) none),io 77 (.ld false (some 2) (.t 10)),mo 78 1,mo 79 9,mo 80 1,io 81 (.bin .sub (.t 79) (.t 80)),io 82 (.bld [.int .i64 0,.str ⟨#[]⟩,.int .i64 0,.int .i64 0,.int .i64 0,.int .i64 0,.int .i64 0] [(0,1,(.c (.d (.int .i64 3)))),(1,1,(.t 76)),(2,2,(.t 77)),(4,1,(.t 78)),(5,1,(.t 81))]),⟨none,none,.sto (some 7) (.t 4) (.t 82)⟩] [] true) (.ret [.kill,.kill,.kill,.kill,.keep])
@[go_sem] def r9_K5 (_ : Unit) : RCode := .seqc (.seq (.reg [mo 69 11,io 70 (.bin .neq (.t 69) (.c (.d (.int .i64 0))))] [] false) (.cond (.t 70) (.seq (.reg [mo 71 11,io 72 (.bld [.int .i64 0,.str ⟨#[]⟩,.int .i64 0,.int .i64 0,.int .i64 0,.int .i64 0,.int .i64 0] [(6,1,(.t 71))]),⟨none,none,.sto (some 7) (.t 4) (.t 72)⟩] [] false) (.ret [.kill,.kill,.kill,.kill,.keep])) (.skip))) [.keep,.keep,.kill,.kill,.keep,.kill,.kill,.kill,.kill,.keep,.keep] (hold r9_K4)
@[go_sem] def r9_K6 (_ : Unit) : RCode := .seq (.reg [mo 62 0,mo 63 1,mo 64 9,io 65 (.slc none (.t 62) (some (.t 63)) (some (.t 64)) none),io 66 (.call false (.f 16) [(.t 65)]),io 61 (.mvt (.t 66)),io 67 (.ext false (.t 61) 0),io 68 (.ext false (.t 61) 1),io 10 (.zal false [.d (.int .i64 0),.d (.int .i64 0)]),⟨none,none,.sto (some 2) (.t 10) (.t 67)⟩,mo 11 68] [] false) (hold r9_K5)
def r9_K7 (_ : Unit) : RCode := .seq (.reg [mo 106 13,mo 107 1,mo 108 12,mo 109 1,io 110 (.bin .sub (.t 108) (.t 109)),io 111 (.bld [.int .i64 0,.str ⟨#[]⟩,.int .i64 0,.int .i64 0,.int .i64 0,.int .i64 0,.int .i64 0] [(0,1,(.c (.d (.int .i64 4)))),(1,1,(.t 106)),(4,1,(.t 107)),(5,1,(.t 110))]),⟨none,none,.sto (some 7) (.t 4) (.t 111)⟩] [] false) (.ret [.kill,.kill,.kill,.kill,.keep])
def r9_K8 (_ : Unit) : RCode := .seqc (.seq (.reg [mo 102 14,io 103 (.bin .neq (.t 102) (.c (.d (.int .i64 0))))] [] false) (.cond (.t 103) (.seq (.reg [mo 104 14,io 105 (.bld [.int .i64 0,.str ⟨#[]⟩,.int .i64 0,.int .i64 0,.int .i64 0,.int .i64 0,.int .i64 0] [(6,1,(.t 104))]),⟨none,none,.sto (some 7) (.t 4) (.t 105)⟩] [] false) (.ret [.kill,.kill,.kill,.kill,.keep])) (.skip))) [.kill,.keep,.kill,.kill,.keep,.kill,.kill,.kill,.kill,.kill,.kill,.kill,.keep,.keep] (hold r9_K7)
@[go_sem] def r9_K9 (_ : Unit) : RCode := .seqc (.seq (.reg [mo 99 14,io 100 (.bin .eql (.t 99) (.c (.d (.int .i64 3))))] [] false) (.cond (.t 100) (.seq (.reg [io 101 (.bld [.int .i64 0,.str ⟨#[]⟩,.int .i64 0,.int .i64 0,.int .i64 0,.int .i64 0,.int .i64 0] [(6,1,(.c (.d (.int .i64 14))))]),⟨none,none,.sto (some 7) (.t 4) (.t 101)⟩] [] false) (.ret [.kill,.kill,.kill,.kill,.keep])) (.skip))) [.kill,.keep,.kill,.kill,.keep,.kill,.kill,.kill,.kill,.kill,.kill,.kill,.keep,.keep,.keep] (hold r9_K8)
def r9_K10 (_ : Unit) : RCode := .seq (.reg [mo 92 0,mo 93 1,mo 94 12,io 95 (.slc none (.t 92) (some (.t 93)) (some (.t 94)) none),io 96 (.call false (.f 18) [(.t 95)]),io 91 (.mvt (.t 96)),io 97 (.ext false (.t 91) 0),io 98 (.ext false (.t 91) 1),mo 13 97,mo 14 98] [] false) (hold r9_K9)
@[go_sem] def r9_K11 (_ : Unit) : RCode := .seqc (.seq (.reg [mo 88 12,io 89 (.bin .lss (.t 88) (.c (.d (.int .i64 0))))] [] false) (.cond (.t 89) (.seq (.reg [io 90 (.bld [.int .i64 0,.str ⟨#[]⟩,.int .i64 0,.int .i64 0,.int .i64 0,.int .i64 0,.int .i64 0] [(6,1,(.c (.d (.int .i64 14))))]),⟨none,none,.sto (some 7) (.t 4) (.t 90)⟩] [] false) (.ret [.kill,.kill,.kill,.kill,.keep])) (.skip))) [.keep,.keep,.kill,.kill,.keep,.kill,.kill,.kill,.kill,.kill,.kill,.kill,.keep] (hold r9_K10)
@[go_sem] def r9_K12 (_ : Unit) : RCode := .seq (.reg [mo 136 15,mo 137 16,io 138 (.iad none 1 (.t 136) (.t 137)),io 139 (.ld false none (.t 138)),mo 140 1,io 141 (.bld [.int .i64 0,.str ⟨#[]⟩,.int .i64 0,.int .i64 0,.int .i64 0,.int .i64 0,.int .i64 0] [(0,1,(.c (.d (.int .i64 5)))),(1,1,(.t 139)),(4,1,(.t 140)),(5,1,(.c (.d (.int .i64 2))))]),⟨none,none,.sto (some 7) (.t 4) (.t 141)⟩] [138] false) (.ret [.kill,.kill,.kill,.kill,.keep])
def r9_K13 (_ : Unit) : RCode := .seq (.block 1 [.keep,.keep,.kill,.kill,.keep,.keep,.kill,.kill,.kill,.kill,.kill,.kill,.kill,.kill,.kill,.keep,.keep] (.seq (.reg [mo 119 1,io 120 (.bin .add (.t 119) (.c (.d (.int .i64 2)))),mo 121 0,io 122 (.len true (.t 121)),io 123 (.bin .leq (.t 120) (.t 122)),mo 124 123,⟨some 125,some (124,true),.mv false (.t 0)⟩,⟨some 126,some (124,true),.mv false (.t 1)⟩,⟨some 127,some (124,true),.mv false (.t 1)⟩,⟨some 128,some (124,true),.bin .add (.t 127) (.c (.d (.int .i64 2)))⟩,⟨some 129,some (124,true),.slc none (.t 125) (some (.t 126)) (some (.t 128)) none⟩,⟨some 130,some (124,true),.mv false (.t 15)⟩,⟨some 131,some (124,true),.mv false (.t 16)⟩,⟨some 132,some (124,true),.iad none 1 (.t 130) (.t 131)⟩,⟨some 133,some (124,true),.ld false none (.t 132)⟩,⟨some 134,some (124,true),.bin .eql (.t 129) (.t 133)⟩,io 135 (.pick (.t 124) (.t 134) (.c (.d (.bool false))))] [132] true) (.cond (.t 135) (hold r9_K12) (.skip)))) (.reg [mo 117 16,io 118 (.bin .add (.t 117) (.c (.d (.int .i64 1)))),mo 16 118] [] false)
def r9_C0 : RCode := .seqc (.seq (.reg [mo 113 16,mo 114 15,io 115 (.len false (.t 114)),io 116 (.bin .lss (.t 113) (.t 115))] [] false) (.cond (.t 116) (.skip) (.exit 0))) [.keep,.keep,.kill,.kill,.keep,.keep,.kill,.kill,.kill,.kill,.kill,.kill,.kill,.kill,.kill,.keep,.keep] (hold r9_K13)
def r9_B0 : RCode := .block 0 [.kill,.keep,.kill,.kill,.keep,.keep] (.loop [.keep,.keep,.kill,.kill,.keep,.keep,.kill,.kill,.kill,.kill,.kill,.kill,.kill,.kill,.kill,.keep,.keep] r9_C0)
theorem r9_B0_eq {cf : CF} {s : St} : V cf r9_B0 s = loopK cf r9_B0 0 [.kill,.keep,.kill,.kill,.keep,.keep] [.keep,.keep,.kill,.kill,.keep,.keep,.kill,.kill,.kill,.kill,.kill,.kill,.kill,.kill,.kill,.keep,.keep] (V cf r9_C0 (s.head [.keep,.keep,.kill,.kill,.keep,.keep,.kill,.kill,.kill,.kill,.kill,.kill,.kill,.kill,.kill,.keep,.keep])) := V_bloop
abbrev r9_S0 (x0 x1 x4 x5 x15 x16 : PV) (hp : List Ent) : St := ⟨x0 :: x1 :: z2 (x4 :: x5 :: z8 (.dead :: x15 :: x16 :: z32 (z32 (z32 (z32 (z8 (z8 ([])))))))),hp⟩
abbrev r9_E0 (x1 x4 x5 : PV) (hp : List Ent) : St := ⟨.dead :: x1 :: z2 (x4 :: x5 :: z32 (z32 (z32 (z32 (z8 (z8 (z8 (z2 (.dead :: []))))))))),hp⟩
theorem r9_B0_n {cf : CF} {x0 x1 a2 a3 x4 x5 a6 a7 a8 a9 a10 a11 a12 a13 a14 x15 x16 a17 a18 a19 a20 a21 a22 a23 a24 a25 a26 a27 a28 a29 a30 a31 a32 a33 a34 a35 a36 a37 a38 a39 a40 a41 a42 a43 a44 a45 a46 a47 a48 a49 a50 a51 a52 a53 a54 a55 a56 a57 a58 a59 a60 a61 a62 a63 a64 a65 a66 a67 a68 a69 a70 a71 a72 a73 a74 a75 a76 a77 a78 a79 a80 a81 a82 a83 a84 a85 a86 a87 a88 a89 a90 a91 a92 a93 a94 a95 a96 a97 a98 a99 a100 a101 a102 a103 a104 a105 a106 a107 a108 a109 a110 a111 a112 a113 a114 a115 a116 a117 a118 a119 a120 a121 a122 a123 a124 a125 a126 a127 a128 a129 a130 a131 a132 a133 a134 a135 a136 a137 a138 a139 a140 a141 a142 a143 a144 a145 a146 a147 a148 a149 a150 a151 a152 a153 a154 a155 a156 a157 a158 a159 a160 : PV} {hp : List Ent} : V cf r9_B0 ⟨[x0,x1,a2,a3,x4,x5,a6,a7,a8,a9,a10,a11,a12,a13,a14,x15,x16,a17,a18,a19,a20,a21,a22,a23,a24,a25,a26,a27,a28,a29,a30,a31,a32,a33,a34,a35,a36,a37,a38,a39,a40,a41,a42,a43,a44,a45,a46,a47,a48,a49,a50,a51,a52,a53,a54,a55,a56,a57,a58,a59,a60,a61,a62,a63,a64,a65,a66,a67,a68,a69,a70,a71,a72,a73,a74,a75,a76,a77,a78,a79,a80,a81,a82,a83,a84,a85,a86,a87,a88,a89,a90,a91,a92,a93,a94,a95,a96,a97,a98,a99,a100,a101,a102,a103,a104,a105,a106,a107,a108,a109,a110,a111,a112,a113,a114,a115,a116,a117,a118,a119,a120,a121,a122,a123,a124,a125,a126,a127,a128,a129,a130,a131,a132,a133,a134,a135,a136,a137,a138,a139,a140,a141,a142,a143,a144,a145,a146,a147,a148,a149,a150,a151,a152,a153,a154,a155,a156,a157,a158,a159,a160],hp⟩ = V cf r9_B0 (r9_S0 x0 x1 x4 x5 x15 x16 hp) := by rw [r9_B0_eq,r9_B0_eq]; rfl
@[go_sem] def r9_K14 (_ : Unit) : RCode := .seq (.reg [mo 153 17,mo 154 18,mo 155 18,io 156 (.bin .add (.t 155) (.c (.d (.int .i64 1)))),io 157 (.slc none (.t 153) (some (.t 154)) (some (.t 156)) none),mo 158 1,io 159 (.bld [.int .i64 0,.str ⟨#[]⟩,.int .i64 0,.int .i64 0,.int .i64 0,.int .i64 0,.int .i64 0] [(0,1,(.c (.d (.int .i64 5)))),(1,1,(.t 157)),(4,1,(.t 158)),(5,1,(.c (.d (.int .i64 1))))]),⟨none,none,.sto (some 7) (.t 4) (.t 159)⟩] [] false) (.ret [.kill,.kill,.kill,.kill,.keep])
def r9_K15 (_ : Unit) : RCode := .seq (.block 3 [.kill,.keep,.kill,.kill,.keep,.keep,.kill,.kill,.kill,.kill,.kill,.kill,.kill,.kill,.kill,.kill,.kill,.keep,.keep] (.seq (.reg [mo 148 17,mo 149 18,io 150 (.six (.t 148) (.t 149)),mo 151 5,io 152 (.bin .eql (.t 150) (.t 151))] [] false) (.cond (.t 152) (hold r9_K14) (.skip)))) (.reg [mo 146 18,io 147 (.bin .add (.t 146) (.c (.d (.int .i64 1)))),mo 18 147] [] false)
def r9_C1 : RCode := .seqc (.seq (.reg [mo 142 18,mo 143 17,io 144 (.len true (.t 143)),io 145 (.bin .lss (.t 142) (.t 144))] [] false) (.cond (.t 145) (.skip) (.exit 2))) [.kill,.keep,.kill,.kill,.keep,.keep,.kill,.kill,.kill,.kill,.kill,.kill,.kill,.kill,.kill,.kill,.kill,.keep,.keep] (hold r9_K15)
def r9_B1 : RCode := .block 2 [.kill,.kill,.kill,.kill,.keep] (.loop [.kill,.keep,.kill,.kill,.keep,.keep,.kill,.kill,.kill,.kill,.kill,.kill,.kill,.kill,.kill,.kill,.kill,.keep,.keep] r9_C1)
theorem r9_B1_eq {cf : CF} {s : St} : V cf r9_B1 s = loopK cf r9_B1 2 [.kill,.kill,.kill,.kill,.keep] [.kill,.keep,.kill,.kill,.keep,.keep,.kill,.kill,.kill,.kill,.kill,.kill,.kill,.kill,.kill,.kill,.kill,.keep,.keep] (V cf r9_C1 (s.head [.kill,.keep,.kill,.kill,.keep,.keep,.kill,.kill,.kill,.kill,.kill,.kill,.kill,.kill,.kill,.kill,.kill,.keep,.keep])) := V_bloop
abbrev r9_S1 (x1 x4 x5 x17 x18 : PV) (hp : List Ent) : St := ⟨.dead :: x1 :: z2 (x4 :: x5 :: z8 (z2 (.dead :: x17 :: x18 :: z32 (z32 (z32 (z32 (z8 (z4 (z2 ([])))))))))),hp⟩
abbrev r9_E1 (x4 : PV) (hp : List Ent) : St := ⟨z4 (x4 :: z32 (z32 (z32 (z32 (z8 (z8 (z8 (z4 ([]))))))))),hp⟩
theorem r9_B1_n {cf : CF} {a0 x1 a2 a3 x4 x5 a6 a7 a8 a9 a10 a11 a12 a13 a14 a15 a16 x17 x18 a19 a20 a21 a22 a23 a24 a25 a26 a27 a28 a29 a30 a31 a32 a33 a34 a35 a36 a37 a38 a39 a40 a41 a42 a43 a44 a45 a46 a47 a48 a49 a50 a51 a52 a53 a54 a55 a56 a57 a58 a59 a60 a61 a62 a63 a64 a65 a66 a67 a68 a69 a70 a71 a72 a73 a74 a75 a76 a77 a78 a79 a80 a81 a82 a83 a84 a85 a86 a87 a88 a89 a90 a91 a92 a93 a94 a95 a96 a97 a98 a99 a100 a101 a102 a103 a104 a105 a106 a107 a108 a109 a110 a111 a112 a113 a114 a115 a116 a117 a118 a119 a120 a121 a122 a123 a124 a125 a126 a127 a128 a129 a130 a131 a132 a133 a134 a135 a136 a137 a138 a139 a140 a141 a142 a143 a144 a145 a146 a147 a148 a149 a150 a151 a152 a153 a154 a155 a156 a157 a158 a159 a160 : PV} {hp : List Ent} : V cf r9_B1 ⟨[a0,x1,a2,a3,x4,x5,a6,a7,a8,a9,a10,a11,a12,a13,a14,a15,a16,x17,x18,a19,a20,a21,a22,a23,a24,a25,a26,a27,a28,a29,a30,a31,a32,a33,a34,a35,a36,a37,a38,a39,a40,a41,a42,a43,a44,a45,a46,a47,a48,a49,a50,a51,a52,a53,a54,a55,a56,a57,a58,a59,a60,a61,a62,a63,a64,a65,a66,a67,a68,a69,a70,a71,a72,a73,a74,a75,a76,a77,a78,a79,a80,a81,a82,a83,a84,a85,a86,a87,a88,a89,a90,a91,a92,a93,a94,a95,a96,a97,a98,a99,a100,a101,a102,a103,a104,a105,a106,a107,a108,a109,a110,a111,a112,a113,a114,a115,a116,a117,a118,a119,a120,a121,a122,a123,a124,a125,a126,a127,a128,a129,a130,a131,a132,a133,a134,a135,a136,a137,a138,a139,a140,a141,a142,a143,a144,a145,a146,a147,a148,a149,a150,a151,a152,a153,a154,a155,a156,a157,a158,a159,a160],hp⟩ = V cf r9_B1 (r9_S1 x1 x4 x5 x17 x18 hp) := by rw [r9_B1_eq,r9_B1_eq]; rfl
def r9_K16 (_ : Unit) : RCode := .seq (.reg [io 17 (.mv false (.c (.d (.str ⟨#[46,124,44,60,62,43,45,42,47,37,40,41,91,93,123,125,58,59]⟩))))] [] false) (.seq (.seq (.reg [io 18 (.mv false (.c (.d (.int .i64 0))))] [] false) (r9_B1)) (.seq (.reg [io 160 (.bld [.int .i64 0,.str ⟨#[]⟩,.int .i64 0,.int .i64 0,.int .i64 0,.int .i64 0,.int .i64 0] [(6,1,(.c (.d (.int .i64 14))))]),⟨none,none,.sto (some 7) (.t 4) (.t 160)⟩] [] false) (.ret [.kill,.kill,.kill,.kill,.keep])))
def r9_K17 (_ : Unit) : RCode := .seq (.reg [io 112 (.bsl 9 1 [(.c (.d (.str ⟨#[47,47]⟩))),(.c (.d (.str ⟨#[61,61]⟩))),(.c (.d (.str ⟨#[33,61]⟩))),(.c (.d (.str ⟨#[60,61]⟩))),(.c (.d (.str ⟨#[62,61]⟩)))]),mo 15 112] [] false) (.seqc (.seq (.reg [io 16 (.mv false (.c (.d (.int .i64 0))))] [] false) (r9_B0)) [.kill,.keep,.kill,.kill,.keep,.keep] (hold r9_K16))
abbrev r9_J17 (x0 x1 x4 x5 : PV) (hp : List Ent) : St := ⟨x0 :: x1 :: z2 (x4 :: x5 :: z32 (z32 (z32 (z32 (z8 (z8 (z8 (z2 (.dead :: []))))))))),hp⟩
def r9_K18 (_ : Unit) : RCode := .seqc (.seq (.reg [mo 83 5,io 84 (.bin .eql (.t 83) (.c (.d (.int .u8 34))))] [] false) (.cond (.t 84) (.seq (.reg [mo 85 0,mo 86 1,io 87 (.call false (.f 17) [(.t 85),(.t 86)]),mo 12 87] [] false) (hold r9_K11)) (.skip))) [.keep,.keep,.kill,.kill,.keep,.keep] (hold r9_K17)
abbrev r9_J18 (x0 x1 x4 x5 : PV) (hp : List Ent) : St := ⟨x0 :: x1 :: z2 (x4 :: x5 :: z32 (z32 (z32 (z32 (z8 (z8 (z8 (z2 (.dead :: []))))))))),hp⟩
def r9_K19 (_ : Unit) : RCode := .seqc (.seq (.reg [mo 56 5,io 57 (.call false (.f 14) [(.t 56)])] [] false) (.cond (.t 57) (.seq (.reg [mo 58 0,mo 59 1,io 60 (.call false (.f 15) [(.t 58),(.t 59)]),mo 9 60] [] false) (hold r9_K6)) (.skip))) [.keep,.keep,.kill,.kill,.keep,.keep] (hold r9_K18)
abbrev r9_J19 (x0 x1 x4 x5 : PV) (hp : List Ent) : St := ⟨x0 :: x1 :: z2 (x4 :: x5 :: z32 (z32 (z32 (z32 (z8 (z8 (z8 (z2 (.dead :: []))))))))),hp⟩
@[go_sem] def r9_K20 (_ : Unit) : RCode := .seqc (.seq (.reg [mo 22 5,io 23 (.call false (.f 12) [(.t 22)]),mo 24 23,⟨some 25,some (24,false),.mv false (.t 5)⟩,⟨some 26,some (24,false),.bin .eql (.t 25) (.c (.d (.int .u8 36)))⟩,io 27 (.pick (.t 24) (.c (.d (.bool true))) (.t 26))] [] false) (.cond (.t 27) (.seq (.reg [mo 28 1,mo 6 28] [] false) (hold r9_K3)) (.skip))) [.keep,.keep,.kill,.kill,.keep,.keep] (hold r9_K19)
abbrev r9_R (x4 : PV) (hp : List Ent) : St := ⟨z4 (x4 :: z32 (z32 (z32 (z32 (z8 (z8 (z8 (z4 ([]))))))))),hp⟩
def r9_T : RCode := .seq (.reg [io 4 (.zal false [.d (.int .i64 0),.d (.str ⟨#[]⟩),.d (.int .i64 0),.d (.int .i64 0),.d (.int .i64 0),.d (.int .i64 0),.d (.int .i64 0)])] [] false) (.seq (.reg [mo 19 0,mo 20 1,io 21 (.six (.t 19) (.t 20)),mo 5 21] [] false) (hold r9_K20))
def r9 : RFunc := ⟨161,true,[.cell 4 (some 7)],r9_T⟩
@[go_sem] def r3_K0 (_ : Unit) : RCode := .seq (.reg [mo 18 3,io 19 (.len false (.t 18)),io 20 (.bin .eql (.t 19) (.c (.d (.int .i64 0)))),mo 21 20,⟨some 22,some (21,true),.mv false (.t 4)⟩,⟨some 23,some (21,true),.bin .eql (.t 22) (.c (.d (.int .i64 0)))⟩,io 24 (.pick (.t 21) (.t 23) (.c (.d (.bool false)))),mo 25 24,⟨some 26,some (25,true),.mv false (.t 5)⟩,⟨some 27,some (25,true),.bin .eql (.t 26) (.c (.d (.int .i64 5)))⟩,io 28 (.pick (.t 25) (.t 27) (.c (.d (.bool false)))),mo 29 28,⟨some 30,some (29,true),.call false (.f 7) []⟩,io 31 (.pick (.t 29) (.t 30) (.c (.d (.bool false)))),mo 2 31] [] false) (.ret [.kill,.kill,.keep])
@[go_sem] def r3_K1 (_ : Unit) : RCode := .seq (.reg [mo 58 3,mo 59 7,io 60 (.iad none 5 (.t 58) (.t 59)),io 61 (.fad 0 (.t 60)),io 62 (.ld false none (.t 61)),io 63 (.bin .eql (.t 62) (.c (.d (.int .i64 6)))),mo 64 63,⟨some 65,some (64,true),.mv false (.t 3)⟩,⟨some 66,some (64,true),.mv false (.t 7)⟩,⟨some 67,some (64,true),.iad none 5 (.t 65) (.t 66)⟩,⟨some 68,some (64,true),.fad 4 (.t 67)⟩,⟨some 69,some (64,true),.ld false none (.t 68)⟩,⟨some 70,some (64,true),.mv false (.t 6)⟩,⟨some 71,some (64,true),.bin .eql (.t 69) (.t 70)⟩,io 72 (.pick (.t 64) (.t 71) (.c (.d (.bool false)))),mo 73 72,⟨some 74,some (73,true),.mv false (.t 3)⟩,⟨some 75,some (73,true),.mv false (.t 7)⟩,⟨some 76,some (73,true),.iad none 5 (.t 74) (.t 75)⟩,⟨some 77,some (73,true),.fad 1 (.t 76)⟩,⟨some 78,some (73,true),.ld false none (.t 77)⟩,⟨some 79,some (73,true),.bin .eql (.t 78) (.c (.d (.str ⟨#[]⟩)))⟩,io 80 (.pick (.t 73) (.t 79) (.c (.d (.bool false)))),mo 81 80,⟨some 82,some (81,true),.call false (.f 7) []⟩,io 83 (.pick (.t 81) (.t 82) (.c (.d (.bool false)))),mo 2 83] [60,61,67,68,76,77] false) (.ret [.kill,.kill,.keep])
@[go_sem] def r3_K2 (_ : Unit) : RCode := .seq (.seq (.reg [mo 45 5,io 46 (.bin .neq (.t 45) (.c (.d (.int .i64 0)))),mo 47 46,⟨some 48,some (47,false),.mv false (.t 4)⟩,⟨some 49,some (47,false),.bin .neq (.t 48) (.c (.d (.int .i64 0)))⟩,io 50 (.pick (.t 47) (.c (.d (.bool true))) (.t 49)),mo 51 50,⟨some 52,some (51,false),.mv false (.t 3)⟩,⟨some 53,some (51,false),.len false (.t 52)⟩,⟨some 54,some (51,false),.mv false (.t 7)⟩,⟨some 55,some (51,false),.bin .add (.t 54) (.c (.d (.int .i64 1)))⟩,⟨some 56,some (51,false),.bin .neq (.t 53) (.t 55)⟩,io 57 (.pick (.t 51) (.c (.d (.bool true))) (.t 56))] [] false) (.cond (.t 57) (.seq (.reg [io 2 (.mv false (.c (.d (.bool false))))] [] false) (.ret [.kill,.kill,.keep])) (.skip))) (hold r3_K1)
@[go_sem] def r3_K3 (_ : Unit) : RCode := .seq (.reg [mo 90 5,io 91 (.fad 6 (.t 8)),io 92 (.ld false none (.t 91)),io 93 (.bin .eql (.t 90) (.t 92)),mo 94 93,⟨some 95,some (94,true),.mv false (.t 4)⟩,⟨some 96,some (94,true),.mv false (.t 6)⟩,⟨some 97,some (94,true),.bin .eql (.t 95) (.t 96)⟩,io 98 (.pick (.t 94) (.t 97) (.c (.d (.bool false)))),mo 99 98,⟨some 100,some (99,true),.mv false (.t 3)⟩,⟨some 101,some (99,true),.len false (.t 100)⟩,⟨some 102,some (99,true),.bin .eql (.t 101) (.c (.d (.int .i64 0)))⟩,io 103 (.pick (.t 99) (.t 102) (.c (.d (.bool false)))),mo 104 103,⟨some 105,some (104,true),.call false (.f 7) []⟩,io 106 (.pick (.t 104) (.t 105) (.c (.d (.bool false)))),mo 2 106] [91] false) (.ret [.kill,.kill,.keep])
@[go_sem] def r3_K4 (_ : Unit) : RCode := .seq (.seq (.reg [mo 107 5,io 108 (.bin .eql (.t 107) (.c (.d (.int .i64 0)))),mo 109 108,⟨some 110,some (109,true),.mv false (.t 7)⟩,⟨some 111,some (109,true),.mv false (.t 3)⟩,⟨some 112,some (109,true),.len false (.t 111)⟩,⟨some 113,some (109,true),.bin .geq (.t 110) (.t 112)⟩,⟨some 114,some (109,true),.mv false (.t 113)⟩,⟨some 115,some (114,false),.mv false (.t 3)⟩,⟨some 116,some (114,false),.mv false (.t 7)⟩,⟨some 117,some (114,false),.iad none 5 (.t 115) (.t 116)⟩,⟨some 118,some (114,false),.ld false (some 5) (.t 117)⟩,⟨some 119,some (114,false),.fad 0 (.t 8)⟩,⟨some 120,some (114,false),.ld false none (.t 119)⟩,⟨some 121,some (114,false),.fad 1 (.t 8)⟩,⟨some 122,some (114,false),.ld false none (.t 121)⟩,⟨some 123,some (114,false),.fad 2 (.t 8)⟩,⟨some 124,some (114,false),.ld false (some 2) (.t 123)⟩,⟨some 125,some (114,false),.fad 4 (.t 8)⟩,⟨some 126,some (114,false),.ld false none (.t 125)⟩,⟨some 127,some (114,false),.bld [.int .i64 0,.str ⟨#[]⟩,.int .i64 0,.int .i64 0,.int .i64 0] [(0,1,(.t 120)),(1,1,(.t 122)),(2,2,(.t 124)),(4,1,(.t 126))]⟩,⟨some 128,some (114,false),.eqv true (.st [(0,1,.i),(1,1,.s),(2,2,(.st [(0,1,.i),(1,1,.i)])),(4,1,.i)]) (.t 118) (.t 127)⟩,⟨some 129,some (109,true),.pick (.t 114) (.c (.d (.bool true))) (.t 128)⟩,io 130 (.pick (.t 109) (.t 129) (.c (.d (.bool false))))] [117,119,121,123,125] true) (.cond (.t 130) (.seq (.reg [io 2 (.mv false (.c (.d (.bool false))))] [] false) (.ret [.kill,.kill,.keep])) (.skip))) (.reg [mo 131 6,io 132 (.fad 5 (.t 8)),io 133 (.ld false none (.t 132)),io 134 (.bin .add (.t 131) (.t 133)),mo 6 134] [132] false)
@[go_sem] def r3_K5 (_ : Unit) : RCode := .seq (.reg [mo 84 0,mo 85 6,io 86 (.call false (.f 9) [(.t 84),(.t 85)]),io 8 (.zal false [.d (.int .i64 0),.d (.str ⟨#[]⟩),.d (.int .i64 0),.d (.int .i64 0),.d (.int .i64 0),.d (.int .i64 0),.d (.int .i64 0)]),⟨none,none,.sto (some 7) (.t 8) (.t 86)⟩] [] false) (.seq (.seq (.reg [io 87 (.fad 6 (.t 8)),io 88 (.ld false none (.t 87)),io 89 (.bin .neq (.t 88) (.c (.d (.int .i64 0))))] [87] false) (.cond (.t 89) (hold r3_K3) (.skip))) (hold r3_K4))
@[go_sem] def r3_K6 (_ : Unit) : RCode := .seq (.block 1 [.keep,.kill,.kill,.keep,.keep,.keep,.keep,.keep] (.seq (.reg [mo 38 0,mo 39 6,io 40 (.call false (.f 8) [(.t 38),(.t 39)]),mo 6 40] [] false) (.seq (.seq (.reg [mo 41 6,mo 42 0,io 43 (.len true (.t 42)),io 44 (.bin .eql (.t 41) (.t 43))] [] false) (.cond (.t 44) (hold r3_K2) (.skip))) (hold r3_K5)))) (.reg [mo 36 7,io 37 (.bin .add (.t 36) (.c (.d (.int .i64 1)))),mo 7 37] [] false)
def r3_C0 : RCode := .seq (.seq (.reg [mo 32 7,mo 33 0,io 34 (.len true (.t 33)),io 35 (.bin .leq (.t 32) (.t 34))] [] false) (.cond (.t 35) (.skip) (.exit 0))) (hold r3_K6)
def r3_B0 : RCode := .block 0 [] (.loop [.keep,.kill,.kill,.keep,.keep,.keep,.keep,.keep] r3_C0)
theorem r3_B0_eq {cf : CF} {s : St} : V cf r3_B0 s = loopK cf r3_B0 0 [] [.keep,.kill,.kill,.keep,.keep,.keep,.keep,.keep] (V cf r3_C0 (s.head [.keep,.kill,.kill,.keep,.keep,.keep,.keep,.keep])) := V_bloop
abbrev r3_S0 (x0 x3 x4 x5 x6 x7 : PV) (hp : List Ent) : St := ⟨x0 :: z2 (x3 :: x4 :: x5 :: x6 :: x7 :: z32 (z32 (z32 (z8 (z8 (z8 (z4 (z2 (.dead :: []))))))))),hp⟩
theorem r3_B0_n {cf : CF} {x0 a1 a2 x3 x4 x5 x6 x7 a8 a9 a10 a11 a12 a13 a14 a15 a16 a17 a18 a19 a20 a21 a22 a23 a24 a25 a26 a27 a28 a29 a30 a31 a32 a33 a34 a35 a36 a37 a38 a39 a40 a41 a42 a43 a44 a45 a46 a47 a48 a49 a50 a51 a52 a53 a54 a55 a56 a57 a58 a59 a60 a61 a62 a63 a64 a65 a66 a67 a68 a69 a70 a71 a72 a73 a74 a75 a76 a77 a78 a79 a80 a81 a82 a83 a84 a85 a86 a87 a88 a89 a90 a91 a92 a93 a94 a95 a96 a97 a98 a99 a100 a101 a102 a103 a104 a105 a106 a107 a108 a109 a110 a111 a112 a113 a114 a115 a116 a117 a118 a119 a120 a121 a122 a123 a124 a125 a126 a127 a128 a129 a130 a131 a132 a133 a134 : PV} {hp : List Ent} : V cf r3_B0 ⟨[x0,a1,a2,x3,x4,x5,x6,x7,a8,a9,a10,a11,a12,a13,a14,a15,a16,a17,a18,a19,a20,a21,a22,a23,a24,a25,a26,a27,a28,a29,a30,a31,a32,a33,a34,a35,a36,a37,a38,a39,a40,a41,a42,a43,a44,a45,a46,a47,a48,a49,a50,a51,a52,a53,a54,a55,a56,a57,a58,a59,a60,a61,a62,a63,a64,a65,a66,a67,a68,a69,a70,a71,a72,a73,a74,a75,a76,a77,a78,a79,a80,a81,a82,a83,a84,a85,a86,a87,a88,a89,a90,a91,a92,a93,a94,a95,a96,a97,a98,a99,a100,a101,a102,a103,a104,a105,a106,a107,a108,a109,a110,a111,a112,a113,a114,a115,a116,a117,a118,a119,a120,a121,a122,a123,a124,a125,a126,a127,a128,a129,a130,a131,a132,a133,a134],hp⟩ = V cf r3_B0 (r3_S0 x0 x3 x4 x5 x6 x7 hp) := by rw [r3_B0_eq,r3_B0_eq]; rfl
@[go_sem] def r3_K7 (_ : Unit) : RCode := .seq (.reg [mo 10 0,io 11 (.call false (.f 6) [(.t 10)]),io 9 (.mvt (.t 11)),io 12 (.ext false (.t 9) 0),io 13 (.ext false (.t 9) 1),io 14 (.ext false (.t 9) 2),mo 3 12,mo 4 13,mo 5 14] [] false) (.seq (.seq (.reg [mo 15 0,io 16 (.len true (.t 15)),io 17 (.bin .gtr (.t 16) (.c (.d (.int .i64 4096))))] [] false) (.cond (.t 17) (hold r3_K0) (.skip))) (.seq (.reg [io 6 (.mv false (.c (.d (.int .i64 0))))] [] false) (.seq (.seq (.reg [io 7 (.mv false (.c (.d (.int .i64 0))))] [] false) (r3_B0)) (.seq (.reg [io 2 (.mv false (.c (.d (.bool false))))] [] false) (.ret [.kill,.kill,.keep])))))
abbrev r3_R (x2 : PV) (hp : List Ent) : St := ⟨z2 (x2 :: z32 (z32 (z32 (z32 (z4 ([])))))),hp⟩
def r3_T : RCode := .seq (.reg [io 2 (.mv false (.c (.d (.bool false))))] [] false) (hold r3_K7)
def r3 : RFunc := ⟨135,true,[.t 2],r3_T⟩
def tl : Tabl := [(19,r19),(10,r10),(20,r20),(21,r21),(23,r23),(22,r22),(42,r42),(35,r35),(58,r58),(49,r49),(43,r43),(50,r50),(51,r51),(44,r44),(59,r59),(52,r52),(75,r75),(76,r76),(63,r63),(64,r64),(67,r67),(53,r53),(68,r68),(54,r54),(45,r45),(36,r36),(24,r24),(37,r37),(78,r78),(69,r69),(55,r55),(46,r46),(71,r71),(57,r57),(48,r48),(38,r38),(25,r25),(26,r26),(11,r11),(6,r6),(7,r7),(8,r8),(12,r12),(14,r14),(13,r13),(27,r27),(15,r15),(28,r28),(39,r39),(29,r29),(16,r16),(17,r17),(30,r30),(40,r40),(31,r31),(32,r32),(33,r33),(18,r18),(9,r9),(3,r3)]
def pl : List (Nat × (List PV → Option PV)) := [(34,idxP)]
def pf : Nat → Bool := pfOf tl [34]
def ml : List (Nat × (List PV → Option (List D))) := []
def tabI : Nat → Option FnD := tabOf tl pl ml
theorem pf_ok0 : PfOk pf tabI := tabOf_pf tl pl ml _ rfl
theorem pf_okI : PfOk pf tabI := pf_ok0
abbrev bldT : Nat := 69
abbrev bldE : Nat := 5
def hl : Hpl := [(47,strP bldT bldE),(66,wsP bldT bldE),(56,wbP bldT bldE)]
def tab : Nat → Option FnD := tabH tabI hl
theorem pf_ok : PfOk pf tab := tabH_pf pf_okI rfl
theorem pl_ok : ∀ p ∈ pl,PrimSound Go.Proofs.Tryd.prog p.1 p.2 := by
  intro p hp
  simp only [pl,List.mem_cons,List.not_mem_nil,or_false] at hp
  rcases hp with rfl
  · exact idx_prim (k := 41) ⟨_,Go.Proofs.Tryd.func41,by kernel_rfl,by kernel_rfl,by kernel_rfl,by kernel_rfl⟩ (by kernel_rfl)
theorem ml_ok : ∀ p ∈ ml,MkSound Go.Proofs.Tryd.prog p.1 p.2 := by
  intro p hp
  simp only [ml,List.mem_cons,List.not_mem_nil,or_false] at hp

theorem f34 {s : ByteArray} {c : Int} {hp : List Ent} : F tab 34 [.d (.str s),.d (.int .u8 c)] hp = some (.ret (.d (.int .i64 (Lib.indexByte s.data.toList c.toNat.toUInt8))) hp) := F_prim (p := idxP) rfl rfl rfl
theorem all_ok : tabAll Go.Proofs.Tryd.prog pf tl = true := by kernel_rfl
theorem hl_ok : ∀ p ∈ hl,HpSound Go.Proofs.Tryd.prog p.1 p.2 := by
  intro p hp
  simp only [hl,List.mem_cons,List.not_mem_nil,or_false] at hp
  rcases hp with rfl | rfl | rfl
  · exact str_hp (by kernel_rfl) Go.Proofs.Tryd.bld169 Go.Proofs.Tryd.bldX
  · exact ws_hp (by kernel_rfl) Go.Proofs.Tryd.bldT Go.Proofs.Tryd.bld166 Go.Proofs.Tryd.bldX
  · exact wb_hp (by kernel_rfl) Go.Proofs.Tryd.bldT Go.Proofs.Tryd.bld167 Go.Proofs.Tryd.bldX
theorem f47 {id off : Nat} {hp : List Ent} {cs : List PV} {l : List UInt8} (h : bldAt bldT bldE id off hp = some (cs,bytesD l)) : F tab 47 [.ptr id off] hp = some (.ret (.d (.str ⟨l.toArray⟩)) (hp.set id (.box (cs.set (off + 1) (.d (.sl (bytesD l))))))) := F_hp (p := strP bldT bldE) rfl (by simp only [strP,h,bytesOf_bytesD]) rfl
theorem f66 {id off : Nat} {s : ByteArray} {hp : List Ent} {cs : List PV} {xs : List D} (h : bldAt bldT bldE id off hp = some (cs,xs)) (h2 : xs.length + s.size ≤ 140737488355328) : F tab 66 [.ptr id off,.d (.str s)] hp = some (.ret (.tup [.d (.int .i64 s.size),.d .nili]) (hp.set id (bldPut bldE id off cs (xs ++ bytesD s.data.toList)))) := F_hp (p := wsP bldT bldE) rfl (by simp only [wsP,h,h2,if_true]) rfl
theorem f56 {id off : Nat} {c : Int} {hp : List Ent} {cs : List PV} {xs : List D} (h : bldAt bldT bldE id off hp = some (cs,xs)) (h2 : xs.length + 1 ≤ 140737488355328) : F tab 56 [.ptr id off,.d (.int .u8 c)] hp = some (.ret (.d .nili) (hp.set id (bldPut bldE id off cs (xs ++ [.int .u8 c])))) := F_hp (p := wbP bldT bldE) rfl (by simp only [wbP,h,h2,if_true]) rfl
theorem tab_ok : TabOk Go.Proofs.Tryd.prog pf tab := tabH_ok (tabOf_ok all_ok pl_ok ml_ok) hl_ok
theorem t19 : tab 19 = some (.code r19) := rfl
theorem f19 {a0 a1 : PV} {hp : List Ent} {out : Out} (hh : PV.hfrees [a0,a1] = true) (h : fnEnd r19 hp (V (F tab) r19_T ⟨a0 :: a1 :: z4 (z2 ([])),[]⟩) = some out) : F tab 19 [a0,a1] hp = some out := F_code t19 (by rw [hh]; rfl) h
theorem t10 : tab 10 = some (.code r10) := rfl
theorem f10 {a0 : PV} {hp : List Ent} {out : Out} (hh : PV.hfrees [a0] = true) (h : fnEnd r10 hp (V (F tab) r10_T ⟨a0 :: z32 (z2 ([])),[]⟩) = some out) : F tab 10 [a0] hp = some out := F_code t10 (by rw [hh]; rfl) h
theorem t20 : tab 20 = some (.code r20) := rfl
theorem f20 {a0 : PV} {hp : List Ent} {out : Out} (hh : PV.hfrees [a0] = true) (h : fnEnd r20 hp (V (F tab) r20_T ⟨a0 :: z8 (z8 (z4 ([]))),[]⟩) = some out) : F tab 20 [a0] hp = some out := F_code t20 (by rw [hh]; rfl) h
theorem t21 : tab 21 = some (.code r21) := rfl
theorem f21 {a0 a1 a2 : PV} {hp : List Ent} {out : Out} (hh : PV.hfrees [a0,a1,a2] = true) (h : fnEnd r21 hp (V (F tab) r21_T ⟨a0 :: a1 :: a2 :: z8 (z8 (z4 (.dead :: []))),[]⟩) = some out) : F tab 21 [a0,a1,a2] hp = some out := F_code t21 (by rw [hh]; rfl) h
theorem t23 : tab 23 = some (.code r23) := rfl
theorem f23 {a0 : PV} {hp : List Ent} {out : Out} (hh : PV.hfrees [a0] = true) (h : fnEnd r23 hp (V (F tab) r23_T ⟨a0 :: z8 ([]),[]⟩) = some out) : F tab 23 [a0] hp = some out := F_code t23 (by rw [hh]; rfl) h
theorem t22 : tab 22 = some (.code r22) := rfl
theorem f22 {a0 : PV} {hp : List Ent} {out : Out} (hh : PV.hfrees [a0] = true) (h : fnEnd r22 hp (V (F tab) r22_T ⟨a0 :: z8 (z8 (z8 (z4 ([])))),[]⟩) = some out) : F tab 22 [a0] hp = some out := F_code t22 (by rw [hh]; rfl) h
theorem t42 : tab 42 = some (.code r42) := rfl
theorem f42 {a0 a1 : PV} {hp : List Ent} {out : Out} (hh : PV.hfrees [a0,a1] = true) (h : fnEnd r42 hp (V (F tab) r42_T ⟨a0 :: a1 :: z8 (z8 (z4 (.dead :: []))),[]⟩) = some out) : F tab 42 [a0,a1] hp = some out := F_code t42 (by rw [hh]; rfl) h
theorem t35 : tab 35 = some (.code r35) := rfl
theorem f35 {a0 : PV} {hp : List Ent} {out : Out} (hh : PV.hfrees [a0] = true) (h : fnEnd r35 hp (V (F tab) r35_T ⟨a0 :: z32 (z32 (z8 ([]))),[]⟩) = some out) : F tab 35 [a0] hp = some out := F_code t35 (by rw [hh]; rfl) h
theorem t58 : tab 58 = some (.code r58) := rfl
theorem f58 {a0 a1 : PV} {hp : List Ent} {out : Out} (hh : PV.hfrees [a0,a1] = true) (h : fnEnd r58 hp (V (F tab) r58_T ⟨a0 :: a1 :: z8 (z8 ([])),[]⟩) = some out) : F tab 58 [a0,a1] hp = some out := F_code t58 (by rw [hh]; rfl) h
theorem t49 : tab 49 = some (.code r49) := rfl
theorem f49 {a0 a1 : PV} {hp : List Ent} {out : Out} (hh : PV.hfrees [a0,a1] = true) (h : fnEnd r49 hp (V (F tab) r49_T ⟨a0 :: a1 :: z8 (z2 (.dead :: [])),[]⟩) = some out) : F tab 49 [a0,a1] hp = some out := F_code t49 (by rw [hh]; rfl) h
theorem t43 : tab 43 = some (.code r43) := rfl
theorem f43 {a0 a1 : PV} {hp : List Ent} {out : Out} (hh : PV.hfrees [a0,a1] = true) (h : fnEnd r43 hp (V (F tab) r43_T ⟨a0 :: a1 :: z4 (z2 ([])),[]⟩) = some out) : F tab 43 [a0,a1] hp = some out := F_code t43 (by rw [hh]; rfl) h
theorem t50 : tab 50 = some (.code r50) := rfl
theorem f50 {a0 : PV} {hp : List Ent} {out : Out} (hh : PV.hfrees [a0] = true) (h : fnEnd r50 hp (V (F tab) r50_T ⟨a0 :: z8 (z8 (z8 (z4 ([])))),[]⟩) = some out) : F tab 50 [a0] hp = some out := F_code t50 (by rw [hh]; rfl) h
theorem t51 : tab 51 = some (.code r51) := rfl
theorem f51 {a0 : PV} {hp : List Ent} {out : Out} (hh : PV.hfrees [a0] = true) (h : fnEnd r51 hp (V (F tab) r51_T ⟨a0 :: z32 (z8 (z8 (z8 (z4 (z2 (.dead :: [])))))),[]⟩) = some out) : F tab 51 [a0] hp = some out := F_code t51 (by rw [hh]; rfl) h
theorem t44 : tab 44 = some (.code r44) := rfl
theorem f44 {a0 : PV} {hp : List Ent} {out : Out} (hh : PV.hfrees [a0] = true) (h : fnEnd r44 hp (V (F tab) r44_T ⟨a0 :: z32 (z8 (z8 (z8 ([])))),[]⟩) = some out) : F tab 44 [a0] hp = some out := F_code t44 (by rw [hh]; rfl) h
theorem t59 : tab 59 = some (.code r59) := rfl
theorem f59 {a0 a1 : PV} {hp : List Ent} {out : Out} (hh : PV.hfrees [a0,a1] = true) (h : fnEnd r59 hp (V (F tab) r59_T ⟨a0 :: a1 :: z8 (z4 (z2 (.dead :: []))),[]⟩) = some out) : F tab 59 [a0,a1] hp = some out := F_code t59 (by rw [hh]; rfl) h
theorem t52 : tab 52 = some (.code r52) := rfl
theorem f52 {a0 a1 : PV} {hp : List Ent} {out : Out} (hh : PV.hfrees [a0,a1] = true) (h : fnEnd r52 hp (V (F tab) r52_T ⟨a0 :: a1 :: z32 (z2 (.dead :: [])),[]⟩) = some out) : F tab 52 [a0,a1] hp = some out := F_code t52 (by rw [hh]; rfl) h
theorem t64 : tab 64 = some (.code r64) := rfl
theorem f64 {a0 a1 : PV} {hp : List Ent} {out : Out} (hh : PV.hfrees [a0,a1] = true) (h : fnEnd r64 hp (V (F tab) r64_T ⟨a0 :: a1 :: z4 (z2 ([])),[]⟩) = some out) : F tab 64 [a0,a1] hp = some out := F_code t64 (by rw [hh]; rfl) h
theorem t68 : tab 68 = some (.code r68) := rfl
theorem f68 {a0 : PV} {hp : List Ent} {out : Out} (hh : PV.hfrees [a0] = true) (h : fnEnd r68 hp (V (F tab) r68_T ⟨a0 :: z8 (z8 (z8 (z4 (.dead :: [])))),[]⟩) = some out) : F tab 68 [a0] hp = some out := F_code t68 (by rw [hh]; rfl) h
theorem t54 : tab 54 = some (.code r54) := rfl
theorem f54 {a0 a1 : PV} {hp : List Ent} {out : Out} (hh : PV.hfrees [a0,a1] = true) (h : fnEnd r54 hp (V (F tab) r54_T ⟨a0 :: a1 :: z8 (z8 (z8 (z4 (z2 (.dead :: []))))),[]⟩) = some out) : F tab 54 [a0,a1] hp = some out := F_code t54 (by rw [hh]; rfl) h
theorem t45 : tab 45 = some (.code r45) := rfl
theorem f45 {a0 a1 : PV} {hp : List Ent} {out : Out} (hh : PV.hfrees [a0,a1] = true) (h : fnEnd r45 hp (V (F tab) r45_T ⟨a0 :: a1 :: z32 (z32 (z4 (z2 ([])))),[]⟩) = some out) : F tab 45 [a0,a1] hp = some out := F_code t45 (by rw [hh]; rfl) h
theorem t36 : tab 36 = some (.code r36) := rfl
theorem f36 {a0 : PV} {hp : List Ent} {out : Out} (hh : PV.hfrees [a0] = true) (h : fnEnd r36 hp (V (F tab) r36_T ⟨a0 :: z32 (z8 (z4 ([]))),[]⟩) = some out) : F tab 36 [a0] hp = some out := F_code t36 (by rw [hh]; rfl) h
theorem t24 : tab 24 = some (.code r24) := rfl
theorem f24 {a0 : PV} {hp : List Ent} {out : Out} (hh : PV.hfrees [a0] = true) (h : fnEnd r24 hp (V (F tab) r24_T ⟨a0 :: z8 (z8 (z8 (z2 ([])))),[]⟩) = some out) : F tab 24 [a0] hp = some out := F_code t24 (by rw [hh]; rfl) h
theorem t37 : tab 37 = some (.code r37) := rfl
theorem f37 {a0 : PV} {hp : List Ent} {out : Out} (hh : PV.hfrees [a0] = true) (h : fnEnd r37 hp (V (F tab) r37_T ⟨a0 :: z8 (z8 (z4 ([]))),[]⟩) = some out) : F tab 37 [a0] hp = some out := F_code t37 (by rw [hh]; rfl) h
theorem t78 : tab 78 = some (.code r78) := rfl
theorem f78 {a0 : PV} {hp : List Ent} {out : Out} (h : fnEnd r78 hp (V (F tab) r78_T ⟨a0 :: z32 (z8 (z8 (.dead :: []))),hp⟩) = some out) : F tab 78 [a0] hp = some out := F_code t78 rfl h
theorem t69 : tab 69 = some (.code r69) := rfl
theorem f69 {a0 : PV} {hp : List Ent} {out : Out} (h : fnEnd r69 hp (V (F tab) r69_T ⟨a0 :: z32 (z32 (z8 (z8 (z2 (.dead :: []))))),hp⟩) = some out) : F tab 69 [a0] hp = some out := F_code t69 rfl h
theorem t55 : tab 55 = some (.code r55) := rfl
theorem f55 {a0 : PV} {hp : List Ent} {out : Out} (h : fnEnd r55 hp (V (F tab) r55_T ⟨a0 :: z32 (z4 ([])),hp⟩) = some out) : F tab 55 [a0] hp = some out := F_code t55 rfl h
theorem t46 : tab 46 = some (.code r46) := rfl
theorem f46 {a0 : PV} {hp : List Ent} {out : Out} (h : fnEnd r46 hp (V (F tab) r46_T ⟨a0 :: z32 (z4 (z2 (.dead :: []))),hp⟩) = some out) : F tab 46 [a0] hp = some out := F_code t46 rfl h
theorem t71 : tab 71 = some (.code r71) := rfl
theorem f71 {a0 a1 a2 a3 : PV} {hp : List Ent} {out : Out} (hh : PV.hfrees [a0,a1,a2,a3] = true) (h : fnEnd r71 hp (V (F tab) r71_T ⟨a0 :: a1 :: a2 :: a3 :: z32 (z4 (.dead :: [])),[]⟩) = some out) : F tab 71 [a0,a1,a2,a3] hp = some out := F_code t71 (by rw [hh]; rfl) h
theorem t57 : tab 57 = some (.code r57) := rfl
theorem f57 {a0 : PV} {hp : List Ent} {out : Out} (hh : PV.hfrees [a0] = true) (h : fnEnd r57 hp (V (F tab) r57_T ⟨a0 :: z32 (z32 (z4 (.dead :: []))),[]⟩) = some out) : F tab 57 [a0] hp = some out := F_code t57 (by rw [hh]; rfl) h
theorem t48 : tab 48 = some (.code r48) := rfl
theorem f48 {a0 : PV} {hp : List Ent} {out : Out} (hh : PV.hfrees [a0] = true) (h : fnEnd r48 hp (V (F tab) r48_T ⟨a0 :: z8 (z4 ([])),[]⟩) = some out) : F tab 48 [a0] hp = some out := F_code t48 (by rw [hh]; rfl) h
theorem t38 : tab 38 = some (.code r38) := rfl
theorem f38 {a0 : PV} {hp : List Ent} {out : Out} (hh : PV.hfrees [a0] = true) (h : fnEnd r38 hp (V (F tab) r38_T ⟨a0 :: z32 (z8 (z4 (.dead :: []))),[]⟩) = some out) : F tab 38 [a0] hp = some out := F_code t38 (by rw [hh]; rfl) h
theorem t25 : tab 25 = some (.code r25) := rfl
theorem f25 {a0 : PV} {hp : List Ent} {out : Out} (hh : PV.hfrees [a0] = true) (h : fnEnd r25 hp (V (F tab) r25_T ⟨a0 :: z32 ([]),[]⟩) = some out) : F tab 25 [a0] hp = some out := F_code t25 (by rw [hh]; rfl) h
theorem t26 : tab 26 = some (.code r26) := rfl
theorem f26 {a0 : PV} {hp : List Ent} {out : Out} (hh : PV.hfrees [a0] = true) (h : fnEnd r26 hp (V (F tab) r26_T ⟨a0 :: z8 (z8 (z4 (.dead :: []))),[]⟩) = some out) : F tab 26 [a0] hp = some out := F_code t26 (by rw [hh]; rfl) h
theorem t11 : tab 11 = some (.code r11) := rfl
theorem f11 {a0 : PV} {hp : List Ent} {out : Out} (hh : PV.hfrees [a0] = true) (h : fnEnd r11 hp (V (F tab) r11_T ⟨a0 :: z32 (z8 (z8 (z4 ([])))),[]⟩) = some out) : F tab 11 [a0] hp = some out := F_code t11 (by rw [hh]; rfl) h
theorem t6 : tab 6 = some (.code r6) := rfl
theorem f6 {a0 : PV} {hp : List Ent} {out : Out} (hh : PV.hfrees [a0] = true) (h : fnEnd r6 hp (V (F tab) r6_T ⟨a0 :: z32 (z8 (z8 ([]))),[]⟩) = some out) : F tab 6 [a0] hp = some out := F_code t6 (by rw [hh]; rfl) h
theorem t8 : tab 8 = some (.code r8) := rfl
theorem f8 {a0 a1 : PV} {hp : List Ent} {out : Out} (hh : PV.hfrees [a0,a1] = true) (h : fnEnd r8 hp (V (F tab) r8_T ⟨a0 :: a1 :: z32 (z8 (z8 (.dead :: []))),[]⟩) = some out) : F tab 8 [a0,a1] hp = some out := F_code t8 (by rw [hh]; rfl) h
theorem t12 : tab 12 = some (.code r12) := rfl
theorem f12 {a0 : PV} {hp : List Ent} {out : Out} (hh : PV.hfrees [a0] = true) (h : fnEnd r12 hp (V (F tab) r12_T ⟨a0 :: z8 (z8 (z4 ([]))),[]⟩) = some out) : F tab 12 [a0] hp = some out := F_code t12 (by rw [hh]; rfl) h
theorem t14 : tab 14 = some (.code r14) := rfl
theorem f14 {a0 : PV} {hp : List Ent} {out : Out} (hh : PV.hfrees [a0] = true) (h : fnEnd r14 hp (V (F tab) r14_T ⟨a0 :: z8 ([]),[]⟩) = some out) : F tab 14 [a0] hp = some out := F_code t14 (by rw [hh]; rfl) h
theorem t13 : tab 13 = some (.code r13) := rfl
theorem f13 {a0 a1 : PV} {hp : List Ent} {out : Out} (hh : PV.hfrees [a0,a1] = true) (h : fnEnd r13 hp (V (F tab) r13_T ⟨a0 :: a1 :: z32 (z2 ([])),[]⟩) = some out) : F tab 13 [a0,a1] hp = some out := F_code t13 (by rw [hh]; rfl) h
theorem t27 : tab 27 = some (.code r27) := rfl
theorem f27 {a0 a1 : PV} {hp : List Ent} {out : Out} (hh : PV.hfrees [a0,a1] = true) (h : fnEnd r27 hp (V (F tab) r27_T ⟨a0 :: a1 :: z8 (z8 ([])),[]⟩) = some out) : F tab 27 [a0,a1] hp = some out := F_code t27 (by rw [hh]; rfl) h
theorem t15 : tab 15 = some (.code r15) := rfl
theorem f15 {a0 a1 : PV} {hp : List Ent} {out : Out} (hh : PV.hfrees [a0,a1] = true) (h : fnEnd r15 hp (V (F tab) r15_T ⟨a0 :: a1 :: z32 (z32 (z8 (z2 (.dead :: [])))),[]⟩) = some out) : F tab 15 [a0,a1] hp = some out := F_code t15 (by rw [hh]; rfl) h
theorem t28 : tab 28 = some (.code r28) := rfl
theorem f28 {a0 : PV} {hp : List Ent} {out : Out} (hh : PV.hfrees [a0] = true) (h : fnEnd r28 hp (V (F tab) r28_T ⟨a0 :: z8 (z8 (z8 (z4 ([])))),[]⟩) = some out) : F tab 28 [a0] hp = some out := F_code t28 (by rw [hh]; rfl) h
theorem t39 : tab 39 = some (.code r39) := rfl
theorem f39 {a0 a1 : PV} {hp : List Ent} {out : Out} (hh : PV.hfrees [a0,a1] = true) (h : fnEnd r39 hp (V (F tab) r39_T ⟨a0 :: a1 :: z8 (z8 (z4 (z2 ([])))),[]⟩) = some out) : F tab 39 [a0,a1] hp = some out := F_code t39 (by rw [hh]; rfl) h
theorem t29 : tab 29 = some (.code r29) := rfl
theorem f29 {a0 a1 : PV} {hp : List Ent} {out : Out} (hh : PV.hfrees [a0,a1] = true) (h : fnEnd r29 hp (V (F tab) r29_T ⟨a0 :: a1 :: z32 (z32 (z8 ([]))),[]⟩) = some out) : F tab 29 [a0,a1] hp = some out := F_code t29 (by rw [hh]; rfl) h
theorem t16 : tab 16 = some (.code r16) := rfl
theorem f16 {a0 : PV} {hp : List Ent} {out : Out} (hh : PV.hfrees [a0] = true) (h : fnEnd r16 hp (V (F tab) r16_T ⟨a0 :: z32 (z32 (z32 (z32 (z32 (z32 (z32 (z8 (z8 (z8 (z4 ([]))))))))))),[]⟩) = some out) : F tab 16 [a0] hp = some out := F_code t16 (by rw [hh]; rfl) h
theorem t17 : tab 17 = some (.code r17) := rfl
theorem f17 {a0 a1 : PV} {hp : List Ent} {out : Out} (hh : PV.hfrees [a0,a1] = true) (h : fnEnd r17 hp (V (F tab) r17_T ⟨a0 :: a1 :: z8 (z8 (z8 ([]))),[]⟩) = some out) : F tab 17 [a0,a1] hp = some out := F_code t17 (by rw [hh]; rfl) h
theorem t30 : tab 30 = some (.code r30) := rfl
theorem f30 {a0 : PV} {hp : List Ent} {out : Out} (hh : PV.hfrees [a0] = true) (h : fnEnd r30 hp (V (F tab) r30_T ⟨a0 :: z8 (z8 (z2 (.dead :: []))),[]⟩) = some out) : F tab 30 [a0] hp = some out := F_code t30 (by rw [hh]; rfl) h
theorem t40 : tab 40 = some (.code r40) := rfl
theorem f40 {a0 : PV} {hp : List Ent} {out : Out} (hh : PV.hfrees [a0] = true) (h : fnEnd r40 hp (V (F tab) r40_T ⟨a0 :: z8 (z8 (z8 (z4 (.dead :: [])))),[]⟩) = some out) : F tab 40 [a0] hp = some out := F_code t40 (by rw [hh]; rfl) h
theorem t31 : tab 31 = some (.code r31) := rfl
theorem f31 {a0 a1 : PV} {hp : List Ent} {out : Out} (hh : PV.hfrees [a0,a1] = true) (h : fnEnd r31 hp (V (F tab) r31_T ⟨a0 :: a1 :: z32 (z2 ([])),[]⟩) = some out) : F tab 31 [a0,a1] hp = some out := F_code t31 (by rw [hh]; rfl) h
theorem t32 : tab 32 = some (.code r32) := rfl
theorem f32 {a0 : PV} {hp : List Ent} {out : Out} (hh : PV.hfrees [a0] = true) (h : fnEnd r32 hp (V (F tab) r32_T ⟨a0 :: z32 (z8 (z8 (z4 (.dead :: [])))),[]⟩) = some out) : F tab 32 [a0] hp = some out := F_code t32 (by rw [hh]; rfl) h
theorem t33 : tab 33 = some (.code r33) := rfl
theorem f33 {a0 : PV} {hp : List Ent} {out : Out} (hh : PV.hfrees [a0] = true) (h : fnEnd r33 hp (V (F tab) r33_T ⟨a0 :: z32 (z32 (z32 (z8 (.dead :: [])))),[]⟩) = some out) : F tab 33 [a0] hp = some out := F_code t33 (by rw [hh]; rfl) h
theorem t18 : tab 18 = some (.code r18) := rfl
theorem f18 {a0 : PV} {hp : List Ent} {out : Out} (hh : PV.hfrees [a0] = true) (h : fnEnd r18 hp (V (F tab) r18_T ⟨a0 :: z32 (z32 (z32 (z32 (z8 (z8 (z8 (z4 (z2 (.dead :: []))))))))),[]⟩) = some out) : F tab 18 [a0] hp = some out := F_code t18 (by rw [hh]; rfl) h
theorem t9 : tab 9 = some (.code r9) := rfl
theorem f9 {a0 a1 : PV} {hp : List Ent} {out : Out} (hh : PV.hfrees [a0,a1] = true) (h : fnEnd r9 hp (V (F tab) r9_T ⟨a0 :: a1 :: z32 (z32 (z32 (z32 (z8 (z8 (z8 (z4 (z2 (.dead :: []))))))))),[]⟩) = some out) : F tab 9 [a0,a1] hp = some out := F_code t9 (by rw [hh]; rfl) h
theorem t3 : tab 3 = some (.code r3) := rfl
theorem f3 {a0 : PV} {hp : List Ent} {out : Out} (hh : PV.hfrees [a0] = true) (h : fnEnd r3 hp (V (F tab) r3_T ⟨a0 :: z32 (z32 (z32 (z32 (z4 (z2 ([])))))),[]⟩) = some out) : F tab 3 [a0] hp = some out := F_code t3 (by rw [hh]; rfl) h
end Go.Pe.T

namespace Go.Pe.T
abbrev numD (c s : Int) : D := .agg [iv c, iv s]

def numIs (c s : Int) : Bool := decide (0 ≤ s) && decide (s ≤ 9) && decide (-1000000000000000 < c) && decide (c < 1000000000000000) && (s == 0 || c.tmod 10 != 0)

theorem numIs_ok (c s : Int) (hp : List Ent) : F tab 68 [.d (numD c s)] hp = some (.ret (.d (.bool (numIs c s))) hp) := by
  refine f68 rfl ?_
  by_cases h1 : s < 0
  · have g1 : ¬ (0 ≤ s) := by omega
    simp only [go_sem, r68_T, r68, numIs, h1, g1]
  · have g1 : 0 ≤ s := by omega
    by_cases h2 : s > 9
    · have g2 : ¬ (s ≤ 9) := by omega
      simp only [go_sem, r68_T, r68, numIs, h1, g1, h2, g2]
    · have g2 : s ≤ 9 := by omega
      by_cases h3 : c ≤ -1000000000000000
      · have g3 : ¬ (-1000000000000000 < c) := by omega
        simp only [go_sem, r68_T, r68, numIs, h1, g1, h2, g2, h3, g3]
      · have g3 : -1000000000000000 < c := by omega
        by_cases h4 : c ≥ 1000000000000000
        · have g4 : ¬ (c < 1000000000000000) := by omega
          simp only [go_sem, r68_T, r68, numIs, h1, g1, h2, g2, h3, g3, h4, g4]
        · have g4 : c < 1000000000000000 := by omega
          by_cases h5 : s = 0
          · subst h5
            simp only [go_sem, r68_T, r68, numIs, h1, g1, h2, g2, h3, g3, h4, g4, Bool.true_or]
          · have g5 : (s == 0) = false := by simpa using h5
            simp only [go_sem, r68_T, r68, numIs, h1, g1, h2, g2, h3, g3, h4, g4, g5, Bool.false_or]


theorem p10_pos (n : Nat) : 0 < (10 : Int) ^ n := Int.pow_pos (by omega)
theorem p10_mono {a b : Nat} (h : a ≤ b) : (10 : Int) ^ a ≤ 10 ^ b := by
  have h1 : (10 : Nat) ^ a ≤ 10 ^ b := Nat.pow_le_pow_right (by omega) h
  have h2 : ((10 ^ a : Nat) : Int) ≤ ((10 ^ b : Nat) : Int) := by exact_mod_cast h1
  simpa using h2

theorem numIs_inv {c s : Int} (h : numIs c s = true) : ∃ k : Nat, s = k ∧ k ≤ 9 ∧ (-1000000000000000 < c ∧ c < 1000000000000000) := by
  simp only [numIs, Bool.and_eq_true, decide_eq_true_eq] at h
  exact ⟨s.toNat, by omega, by omega, by omega⟩

end Go.Pe.T

namespace Go.Pe.T

def stripN : Int → Nat → Int × Nat
  | c, 0 => (c, 0)
  | c, s + 1 => if c.tmod 10 = 0 then stripN (c.tdiv 10) s else (c, s + 1)

theorem strip_val : ∀ (k : Nat) (c : Int), (stripN c k).2 ≤ k ∧ (stripN c k).1 * 10 ^ (k - (stripN c k).2) = c ∧ ((stripN c k).2 = 0 ∨ (stripN c k).1.tmod 10 ≠ 0)
  | 0, c => by simp [stripN]
  | k + 1, c => by
    simp only [stripN]
    split
    · rename_i h
      obtain ⟨h1, h2, h3⟩ := strip_val k (c.tdiv 10)
      refine ⟨by omega, ?_, h3⟩
      have e : k + 1 - (stripN (c.tdiv 10) k).2 = (k - (stripN (c.tdiv 10) k).2) + 1 := by omega
      rw [e, Int.pow_succ, ← Int.mul_assoc, h2]
      have := Int.mul_tdiv_add_tmod c 10
      omega
    · rename_i h
      exact ⟨Nat.le_refl _, by simp, .inr h⟩

theorem strip_self : ∀ (k : Nat) (c : Int), (k = 0 ∨ c.tmod 10 ≠ 0) → stripN c k = (c, k)
  | 0, c, _ => rfl
  | k + 1, c, h => by
    simp only [stripN]
    rw [if_neg (h.resolve_left (by omega))]

def makeOk (c : Int) (k : Nat) : Bool := numIs (stripN c k).1 (stripN c k).2

theorem strip_zero : ∀ (k : Nat), stripN 0 k = (0, 0)
  | 0 => rfl
  | k + 1 => by simp only [stripN, Int.zero_tmod, Int.zero_tdiv, if_true, strip_zero k]

end Go.Pe.T

namespace Go.Pe.T

def madeT (c : Int) (k : Nat) : PV := if makeOk c k then .tup [.d (numD (stripN c k).1 (stripN c k).2), .d (iv 0)] else .tup [.d (numD 0 0), .d (iv 8)]

theorem tdiv10 {c : Int} (hc : i64 c) (h : c.tmod 10 = 0) : i64 (c.tdiv 10) := by
  have := Int.mul_tdiv_add_tmod c 10
  unfold i64 at *
  omega

def MkLoop (c : Int) (k : Nat) : Prop :=
  V (F tab) r54_B0 (r54_S0 (.d (iv c)) (.d (iv k)) (.ibox [.d (iv 0), .d (iv 0)]) []) = some (.norm, r54_E0 (.d (iv (stripN c k).1)) (.d (iv (stripN c k).2)) (.ibox [.d (iv 0), .d (iv 0)]) [])

theorem mk_end (c : Int) : MkLoop c 0 := by
  unfold MkLoop
  have h1 : ((0 : Int) > 0) = False := eq_false (by omega)
  have h2 : (((0 : Nat) : Int) > 0) = False := eq_false (by omega)
  rw [r54_B0_eq, stripN]
  simp (disch := omega) only [go_sem, r54_C0, h1, h2]
theorem mk_stop (c : Int) (k : Nat) (h : c.tmod 10 ≠ 0) : MkLoop c (k + 1) := by
  unfold MkLoop
  have h1 : (((k + 1 : Nat) : Int) > 0) = True := eq_true (by omega)
  have h2 : (c.tmod 10 == 0) = false := by simpa using h
  have h3 : ((10 : Int) = 0) = False := eq_false (by omega)
  rw [r54_B0_eq, stripN, if_neg h]
  simp (disch := omega) only [go_sem, r54_C0, h1, h2, h3]
theorem mk_step (c : Int) (k : Nat) (hc : i64 c) (hk : k ≤ 100) (h : c.tmod 10 = 0) (ih : MkLoop (c.tdiv 10) k) : MkLoop c (k + 1) := by
  unfold MkLoop
  have h1 : (((k + 1 : Nat) : Int) > 0) = True := eq_true (by omega)
  have h2 : (c.tmod 10 == 0) = true := by simpa using h
  have h3 : ((10 : Int) = 0) = False := eq_false (by omega)
  have h4 : ((k + 1 : Nat) : Int) - 1 = (k : Int) := by omega
  have hd := tdiv10 hc h
  have w1 : IntKind.i64.wrap (c.tdiv 10) = c.tdiv 10 := w64 hd
  unfold MkLoop at ih
  rw [r54_B0_eq, stripN, if_pos h]
  simp (disch := omega) only [go_sem, r54_C0, h1, h2, h3, h4, w1, w64]
  exact ih
theorem mk_loop : ∀ (k : Nat) (c : Int), i64 c → k ≤ 100 → MkLoop c k
  | 0, c, _, _ => mk_end c
  | k + 1, c, hc, hk => by
    by_cases h : c.tmod 10 = 0
    · exact mk_step c k hc (by omega) h (mk_loop k _ (tdiv10 hc h) (by omega))
    · exact mk_stop c k h

theorem make_ok (c : Int) (k : Nat) (hc : i64 c) (hk : k ≤ 30) (hp : List Ent) : F tab 54 [.d (iv c), .d (iv k)] hp = some (.ret (madeT c k) hp) := by
  have hL := mk_loop k c hc (by omega)
  unfold MkLoop at hL
  have hI := numIs_ok (stripN c k).1 (stripN c k).2
  have h1 : ((k : Int) < 0) = False := eq_false (by omega)
  have h2 : ((k : Int) > 30) = False := eq_false (by omega)
  refine f54 rfl ?_
  simp (disch := omega) only [go_sem, r54_T, r54, h1, h2]
  rw [r54_B0_n]
  erw [hL]
  unfold madeT
  have e : makeOk c k = numIs (stripN c k).1 (stripN c k).2 := rfl
  rcases Bool.eq_false_or_eq_true (numIs (stripN c k).1 (stripN c k).2) with g | g
  · rw [e, g]
    simp (disch := omega) only [go_sem, hI, g]
  · rw [e, g]
    simp (disch := omega) only [go_sem, hI, g]

end Go.Pe.T

namespace Go.Pe.T

end Go.Pe.T

namespace Go.Pe.T

end Go.Pe.T

namespace Go.Pe.T
end Go.Pe.T

namespace Go.Pe.T

abbrev dl (l : List Int) : D := .sl (l.map iv)
abbrev longD (neg : Bool) (l : List Int) : D := .agg [.bool neg, .sl (l.map iv)]

theorem dl_all (l : List Int) : (l.map iv).all (fun y => y.width == 1) = true := by
  rw [List.all_eq_true]
  intro y hy
  obtain ⟨n, _, rfl⟩ := List.mem_map.1 hy
  rfl
theorem dl_get {l : List Int} {i : Nat} {d : Int} (h : l[i]? = some d) : (l.map iv)[i]? = some (iv d) := by rw [List.getElem?_map, h]; rfl
theorem cut_dl (l : List Int) (n : Nat) : cutD (l.map iv) 0 (n : Int) = (l.take n).map iv := by
  simp [cutD]

def trimN (l : List Int) : Nat → Nat
  | 0 => 0
  | n + 1 => if l[n]? = some 0 then trimN l n else n + 1
def trimL (l : List Int) : List Int := l.take (trimN l l.length)

theorem trimN_le (l : List Int) : ∀ n, trimN l n ≤ n
  | 0 => Nat.le_refl _
  | n + 1 => by
    unfold trimN
    split
    · have := trimN_le l n; omega
    · exact Nat.le_refl _

theorem trim_loop (neg : Bool) (l : List Int) (hl : l.length ≤ maxLen) (x2 : List PV) : ∀ n, n ≤ l.length →
    V (F tab) r28_B0 (r28_S0 (.ibox [.d (.bool neg), .d (.sl (l.map iv))]) (.ibox x2) (.d (iv n)) []) = some (.norm, r28_E0 (.ibox [.d (.bool neg), .d (.sl (l.map iv))]) (.ibox x2) (.d (iv (trimN l n))) [])
  | 0, hn => by
    rw [r28_B0_eq]
    simp only [go_sem, r28_C0, trimN, Int.natCast_zero, gt_iff_lt, Int.lt_irrefl]
  | n + 1, hn => by
    have hmx : maxLen ≤ 9223372036854775807 := by decide
    have h1 : ((0 : Int) < ((n + 1 : Nat) : Int)) = True := eq_true (by omega)
    have hd : ∃ d, l[n]? = some d := ⟨l[n], List.getElem?_eq_getElem (by omega)⟩
    obtain ⟨d, hd⟩ := hd
    have h2 : (l.map iv)[n]? = some (iv d) := dl_get hd
    have h3 : (((n + 1 : Nat) : Int) - 1) = (n : Int) := by omega
    have h4 : (0 ≤ (n : Int)) = True := by simp
    have ih := trim_loop neg l hl x2 n (by omega)
    rw [r28_B0_eq]
    by_cases h0 : d = 0
    · subst h0
      have e : trimN l (n + 1) = trimN l n := by simp [trimN, hd]
      rw [e]
      simp (disch := omega) only [go_sem, r28_C0, gt_iff_lt, h1, h3, w64, h4, h2, elemD, List.getElem?_cons_zero]
      exact ih
    · have e : trimN l (n + 1) = n + 1 := by simp [trimN, hd, h0]
      have h5 : (d == 0) = false := by simpa using h0
      rw [e]
      simp (disch := omega) only [go_sem, r28_C0, gt_iff_lt, h1, h3, w64, h4, h2, h5]

theorem trim_ok (neg : Bool) (l : List Int) (hl : l.length ≤ maxLen) (hp : List Ent) :
    F tab 28 [.d (longD neg l)] hp = some (.ret (.d (longD (neg && trimN l l.length != 0) (trimL l))) hp) := by
  refine f28 rfl ?_
  have hL := trim_loop neg l hl [.d (.bool false), .nilsl] l.length (Nat.le_refl _)
  have hle := trimN_le l l.length
  simp (disch := omega) only [go_sem, r28_T, r28, List.length_map]
  rw [r28_B0_n]
  erw [hL]
  have h1 : (0 ≤ ((trimN l l.length : Nat) : Int)) = True := by simp
  have h2 : (((trimN l l.length : Nat) : Int) ≤ (l.length : Int)) = True := by simp; omega
  by_cases h0 : trimN l l.length = 0
  · have h3 : (((trimN l l.length : Nat) : Int) == 0) = true := by simp [h0]
    have h4 : (trimN l l.length != 0) = false := by simp [h0]
    simp (disch := omega) only [go_sem, dl_all, cut_dl, List.length_map, h1, h2, h3, h4, trimL, decide_true, Int.le_refl]
  · have h3 : (((trimN l l.length : Nat) : Int) == 0) = false := by simp; omega
    have h4 : (trimN l l.length != 0) = true := by simp [h0]
    simp (disch := omega) only [go_sem, dl_all, cut_dl, List.length_map, h1, h2, h3, h4, trimL, decide_true, Int.le_refl]
end Go.Pe.T

namespace Go.Pe.T


theorem shift_loop (n : Nat) (hn : n ≤ 20000) (x2 x4 : List PV) : ∀ (j i : Nat), i + j = n →
    V (F tab) r39_B0 (r39_S0 (.d (iv n)) (.ibox x2) (.ibox x4) (.own 3 ((List.replicate i 0).map iv)) (.d (iv i)) []) =
      some (.norm, r39_E0 (.ibox x2) (.ibox x4) (.own 3 ((List.replicate n 0).map iv)) [])
  | 0, i, hi => by
    obtain rfl : i = n := by omega
    rw [r39_B0_eq]
    simp only [go_sem, r39_C0, Int.lt_irrefl]
  | j + 1, i, hi => by
    have h1 : ((i : Int) < (n : Int)) = True := eq_true (by omega)
    have h2 : ((i + 1) * 8 ≤ maxRow) = True := eq_true (by unfold maxRow; omega)
    have ih := shift_loop n hn x2 x4 j (i + 1) (by omega)
    rw [List.replicate_succ', List.map_append] at ih
    rw [r39_B0_eq]
    simp (disch := omega) only [go_sem, r39_C0, h1, w64, List.length_map, List.length_replicate, h2]
    exact ih

def shiftL (l : List Int) (n : Nat) : List Int := trimL (List.replicate n 0 ++ l)

theorem shift_ok (neg : Bool) (l : List Int) (hl : l.length ≤ 20000) (n : Nat) (hn : n ≤ 20000) (hp : List Ent) :
    F tab 39 [.d (longD neg l), .d (iv n)] hp = some (.ret (.d (longD (neg && trimN (List.replicate n 0 ++ l) (n + l.length) != 0) (shiftL l n))) hp) := by
  refine f39 rfl ?_
  have hL := shift_loop n hn [.d (.bool neg), .d (.sl (l.map iv))] [.d (.bool false), .nilsl] n 0 (by omega)
  have hT := trim_ok neg (List.replicate n 0 ++ l) (by have : maxLen = 9223372036854775807 := by decide
                                                       simp only [List.length_append, List.length_replicate]; omega)
  have h2 : ((n + l.length) * 8 ≤ maxRow) = True := eq_true (by unfold maxRow; omega)
  simp only [List.length_append, List.length_replicate] at hT
  simp (disch := omega) only [go_sem, r39_T, r39, List.length_map]
  rw [r39_B0_n, r39_B0_z5]
  erw [hL]
  simp (disch := omega) only [go_sem, List.length_map, List.length_replicate, h2, ← List.map_append, hT, dl_all, shiftL]

def rowP : List Int → PV
  | [] => .nilsl
  | x :: l => .own 3 (iv x :: l.map iv)

end Go.Pe.T

namespace Go.Pe.T


def digit (d : Int) : Prop := 0 ≤ d ∧ d ≤ 9
def Digs (l : List Int) : Prop := ∀ d ∈ l, digit d

end Go.Pe.T

namespace Go.Pe.T

end Go.Pe.T

namespace Go.Pe.T


def val : List Int → Int
  | [] => 0
  | d :: l => d + 10 * val l

theorem Digs.cons {d : Int} {l : List Int} (h : Digs (d :: l)) : digit d ∧ Digs l := ⟨h d (by simp), fun x hx => h x (by simp [hx])⟩
theorem Digs.nil : Digs [] := fun _ h => by simp at h
theorem Digs.mk {d : Int} {l : List Int} (h : digit d) (k : Digs l) : Digs (d :: l) := fun x hx => by
  rcases List.mem_cons.1 hx with rfl | hx
  · exact h
  · exact k x hx
theorem Digs.tail {l : List Int} (h : Digs l) : Digs l.tail := fun x hx => h x (List.mem_of_mem_tail hx)
theorem Digs.headD {l : List Int} (h : Digs l) : digit (l.headD 0) := by
  cases l with
  | nil => exact ⟨by simp, by simp⟩
  | cons d l => exact h.cons.1

theorem val_bound : ∀ {l : List Int}, Digs l → 0 ≤ val l ∧ val l < 10 ^ l.length
  | [], _ => by simp [val]
  | d :: l, h => by
    obtain ⟨h1, h2⟩ := h.cons
    obtain ⟨i1, i2⟩ := val_bound h2
    unfold digit at h1
    simp only [val, List.length_cons, Int.pow_succ]
    omega

theorem val_append : ∀ (a b : List Int), val (a ++ b) = val a + 10 ^ a.length * val b
  | [], b => by simp [val]
  | d :: a, b => by
    simp only [List.cons_append, val, val_append a b, List.length_cons, Int.pow_succ]
    rw [Int.mul_add, Int.mul_comm ((10 : Int) ^ a.length) 10, Int.mul_assoc]
    omega

theorem trim_val (l : List Int) : ∀ n, n ≤ l.length → val (l.take (trimN l n)) = val (l.take n) ∧ (∀ d, (l.take (trimN l n)).getLast? = some d → d ≠ 0)
  | 0, _ => by simp [trimN]
  | n + 1, hn => by
    have hg : l[n]? = some l[n] := List.getElem?_eq_getElem (by omega)
    have ht : l.take (n + 1) = l.take n ++ [l[n]] := by rw [List.take_add_one, hg]; rfl
    unfold trimN
    split
    · rename_i h
      obtain ⟨i1, i2⟩ := trim_val l n (by omega)
      refine ⟨?_, i2⟩
      rw [i1, ht, val_append]
      rw [hg] at h
      simp only [Option.some.injEq] at h
      simp [h, val]
    · rename_i h
      refine ⟨rfl, ?_⟩
      intro d hd
      rw [ht, List.getLast?_concat] at hd
      simp only [Option.some.injEq] at hd
      subst hd
      intro e
      exact h (by rw [hg, e])

theorem trimL_val (l : List Int) : val (trimL l) = val l := by
  have := (trim_val l l.length (Nat.le_refl _)).1
  rwa [List.take_length] at this
theorem trimL_top (l : List Int) : ∀ d, (trimL l).getLast? = some d → d ≠ 0 := (trim_val l l.length (Nat.le_refl _)).2
theorem trimL_digs {l : List Int} (h : Digs l) : Digs (trimL l) := fun d hd => h d (List.mem_of_mem_take hd)
theorem trimL_len (l : List Int) : (trimL l).length = trimN l l.length := by
  have := trimN_le l l.length
  simp [trimL]; omega
end Go.Pe.T

namespace Go.Pe.T


def Top (l : List Int) : Prop := Digs l ∧ ∀ d, l.getLast? = some d → d ≠ 0

theorem top_bound : ∀ {l : List Int}, Top l → l ≠ [] → 10 ^ (l.length - 1) ≤ val l
  | [], _, h => absurd rfl h
  | [d], h, _ => by
    have h1 := h.2 d (by simp)
    have h2 := h.1.cons.1
    unfold digit at h2
    simp [val]; omega
  | d :: e :: l, h, _ => by
    have h2 := h.1.cons
    have ih := top_bound (l := e :: l) ⟨h2.2, fun x hx => h.2 x (by simpa [List.getLast?_cons_cons] using hx)⟩ (by simp)
    have h3 := h2.1
    unfold digit at h3
    have e1 : (d :: e :: l).length - 1 = ((e :: l).length - 1) + 1 := by simp
    rw [e1, Int.pow_succ]
    have e2 : val (d :: e :: l) = d + 10 * val (e :: l) := rfl
    rw [e2]
    omega

theorem Digs.take {l : List Int} (h : Digs l) (n : Nat) : Digs (l.take n) := fun d hd => h d (List.mem_of_mem_take hd)

end Go.Pe.T

namespace Go.Pe.T


def trimmed (neg : Bool) (l : List Int) : D := longD (neg && trimN l l.length != 0) (trimL l)

theorem trim_ok' (neg : Bool) (l : List Int) (hl : l.length ≤ 10000) (hp : List Ent) : F tab 28 [.d (.agg [.bool neg, .sl (l.map iv)])] hp = some (.ret (.d (trimmed neg l)) hp) :=
  trim_ok neg l (by have : maxLen = 9223372036854775807 := by decide
                    omega) hp

theorem trimmed_shape (neg : Bool) (l : List Int) : trimmed neg l = .agg [.bool (neg && trimN l l.length != 0), .sl ((trimL l).map iv)] := rfl

end Go.Pe.T

namespace Go.Pe.T

def tells (neg : Bool) (v : Int) : Int := if v = 0 then 0 else if neg then -1 else 1

end Go.Pe.T

namespace Go.Pe.T
def dropZ : Nat → List Int → List Int × Nat
  | 0, l => (l, 0)
  | k + 1, [] => ([], k + 1)
  | k + 1, d :: r => if d = 0 then dropZ k r else (d :: r, k + 1)
theorem dropZ_len : ∀ (k : Nat) (l : List Int), (dropZ k l).1.length ≤ l.length ∧ (dropZ k l).2 ≤ k
  | 0, l => ⟨Nat.le_refl _, Nat.le_refl _⟩
  | k + 1, [] => ⟨Nat.le_refl _, Nat.le_refl _⟩
  | k + 1, d :: r => by
    rw [dropZ]
    have := dropZ_len k r
    split
    · simp only [List.length_cons]; omega
    · exact ⟨Nat.le_refl _, Nat.le_refl _⟩
theorem dropZ_digs : ∀ (k : Nat) (l : List Int), Digs l → Digs (dropZ k l).1
  | 0, l, h => h
  | k + 1, [], h => h
  | k + 1, d :: r, h => by
    rw [dropZ]
    split
    · exact dropZ_digs k r h.cons.2
    · exact h

theorem cut_dl1 (l : List Int) (d : Int) : cutD ((d :: l).map iv) 1 ((l.length + 1 : Nat) : Int) = l.map iv := by
  simp only [cutD, Int.toNat_natCast]
  rw [List.take_of_length_le (by simp)]
  rfl

def NmLoop (neg : Bool) (l : List Int) (k : Nat) (x4 : List PV) : Prop :=
  V (F tab) r29_B0 (r29_S0 (.d (iv k)) (.ibox [.d (.bool neg), .d (.sl (l.map iv))]) (.ibox x4) []) = some (.norm, r29_E0 (.d (iv (dropZ k l).2)) (.ibox [.d (.bool neg), .d (.sl ((dropZ k l).1.map iv))]) (.ibox x4) [])
theorem nm_loop (neg : Bool) (x4 : List PV) : ∀ (k : Nat) (l : List Int), k ≤ 2000000 → l.length ≤ 10000 → NmLoop neg l k x4
  | 0, l, hk, hl => by
    have h1 : ((0 : Int) > 0) = False := eq_false (by omega)
    have h2 : (((0 : Nat) : Int) > 0) = False := eq_false (by omega)
    unfold NmLoop
    rw [r29_B0_eq]
    simp (disch := omega) only [go_sem, r29_C0, dropZ, h1, h2]
  | k + 1, [], hk, hl => by
    have h1 : (((k + 1 : Nat) : Int) > 0) = True := eq_true (by omega)
    have h2 : ((0 : Int) > 0) = False := eq_false (by omega)
    have h3 : (((0 : Nat) : Int) > 0) = False := eq_false (by omega)
    unfold NmLoop
    rw [r29_B0_eq]
    simp (disch := omega) only [go_sem, r29_C0, dropZ, h1, h2, h3, List.map_nil, List.length_nil]
  | k + 1, d :: r, hk, hl => by
    simp only [List.length_cons] at hl
    have ih := nm_loop neg x4 k r (by omega) (by omega)
    have h1 : (((k + 1 : Nat) : Int) > 0) = True := eq_true (by omega)
    have h2 : (((r.length + 1 : Nat) : Int) > 0) = True := eq_true (by omega)
    have i0 : (0 ≤ (0 : Int)) = True := eq_true (by omega)
    have t0 : (0 : Int).toNat = 0 := rfl
    have e1 : ((k + 1 : Nat) : Int) - 1 = (k : Int) := by omega
    have c1 := cut_dl1 r d
    have b1 : (1 ≤ ((r.length + 1 : Nat) : Int)) = True := eq_true (by omega)
    have b2 : (((r.length + 1 : Nat) : Int) ≤ ((r.length + 1 : Nat) : Int)) = True := eq_true (by omega)
    have b0 : (0 ≤ (1 : Int)) = True := eq_true (by omega)
    have hl1 : ((d :: r).map iv).length = r.length + 1 := by simp
    have hg : ((d :: r).map iv)[0]? = some (iv d) := rfl
    have hal := dl_all (d :: r)
    unfold NmLoop at ih ⊢
    rw [r29_B0_eq, dropZ]
    generalize hL : (d :: r).map iv = L at *
    by_cases h0 : d = 0
    · subst h0
      have z : ((0 : Int) == 0) = true := rfl
      rw [if_pos rfl]
      simp (disch := omega) only [go_sem, r29_C0, h1, h2, i0, t0, e1, c1, b0, b1, b2, hl1, hg, hal, z, decide_true, w64]
      exact ih
    · have z : (d == 0) = false := by simpa using h0
      rw [if_neg h0]
      simp (disch := omega) only [go_sem, r29_C0, h1, h2, i0, t0, hl1, hg, z]
      rw [← hL, List.map_cons]

def NcLoop (neg : Bool) (l : List Int) (k : Int) (x4 : List PV) (n : Nat) : Prop :=
  V (F tab) r29_B1 (r29_S1 (.d (iv k)) (.ibox [.d (.bool neg), .d (.sl (l.map iv))]) (.ibox x4) (.d (iv (val (l.drop n)))) (.d (iv ((n : Int) - 1))) []) = some (.norm, r29_E1 (.d (iv k)) (.ibox [.d (.bool neg), .d (.sl (l.map iv))]) (.ibox x4) (.d (iv (val l))) [])
theorem nc_loop (neg : Bool) (l : List Int) (hd : Digs l) (hl : l.length ≤ 15) (k : Int) (x4 : List PV) : ∀ n, n ≤ l.length → NcLoop neg l k x4 n
  | 0, h => by
    have h1 : (((0 : Nat) : Int) - 1 ≥ 0) = False := eq_false (by omega)
    have h2 : (((0 : Nat) : Int) - 1 < 0) = True := eq_true (by omega)
    have h3 : ((0 : Int) - 1 ≥ 0) = False := eq_false (by omega)
    unfold NcLoop
    rw [r29_B1_eq, List.drop_zero]
    simp (disch := omega) only [go_sem, r29_C1, h1, h3]
  | n + 1, h => by
    have ih := nc_loop neg l hd hl k x4 n (by omega)
    have hx : l[n]? = some l[n] := List.getElem?_eq_getElem (by omega)
    have hdr : l.drop n = l[n] :: l.drop (n + 1) := List.drop_eq_getElem_cons (by omega)
    have hdg : Digs (l.drop (n + 1)) := fun x hx => hd x (List.mem_of_mem_drop hx)
    obtain ⟨v1, v2⟩ := val_bound hdg
    have hd0 := hd l[n] (List.getElem_mem _)
    have hv : val (l.drop n) = l[n] + 10 * val (l.drop (n + 1)) := by rw [hdr]; rfl
    have hp : (10 : Int) ^ (l.drop (n + 1)).length ≤ 10 ^ 14 := p10_mono (by rw [List.length_drop]; omega)
    have e14 : (10 : Int) ^ 14 = 100000000000000 := by decide
    have va : (l.map iv)[n]? = some (iv l[n]) := dl_get hx
    have h1 : (((n + 1 : Nat) : Int) - 1 ≥ 0) = True := eq_true (by omega)
    have e1 : ((n + 1 : Nat) : Int) - 1 = (n : Int) := by omega
    have h2 : ((n : Int) ≥ 0) = True := eq_true (by omega)
    have h3 : (0 ≤ (n : Int)) = True := eq_true (by omega)
    have e2 : 10 * val (l.drop (n + 1)) + l[n] = val (l.drop n) := by omega
    unfold digit at hd0
    unfold NcLoop at ih ⊢
    rw [r29_B1_eq, e1]
    generalize val (l.drop (n + 1)) = v at *
    generalize val (l.drop n) = v' at *
    generalize l[n] = d at *
    simp (disch := omega) only [go_sem, r29_C1, h2, h3, va, e2, w64]
    exact ih

def numR (neg : Bool) (l : List Int) (k : Nat) : Int × Int × Bool :=
  let p := dropZ k (trimL l)
  if p.1 = [] then (0, 0, true) else if p.1.length > 15 ∨ p.2 > 9 then (0, 0, false) else (if neg then -val p.1 else val p.1, p.2, true)

set_option maxHeartbeats 1000000 in
theorem num4_ok (neg : Bool) (l : List Int) (hd : Digs l) (hl : l.length ≤ 10000) (k : Nat) (hk : k ≤ 2000000) (hp : List Ent) :
    F tab 29 [.d (longD neg l), .d (iv k)] hp = some (.ret (.tup [.d (numD (numR neg l k).1 (numR neg l k).2.1), .d (.bool (numR neg l k).2.2)]) hp) := by
  have ht := trim_ok' neg l hl
  simp only [trimmed_shape] at ht
  have tl := trimN_le l l.length
  have tlen := trimL_len l
  have hdt := trimL_digs hd
  have hL := nm_loop (neg && trimN l l.length != 0) [.d (iv 0), .d (iv 0)] k (trimL l) hk (by omega)
  obtain ⟨z1, z2⟩ := dropZ_len k (trimL l)
  have hdz := dropZ_digs k (trimL l) hdt
  have hneg : (dropZ k (trimL l)).1 ≠ [] → (neg && trimN l l.length != 0) = neg := by
    intro hne
    have : trimN l l.length ≠ 0 := by
      intro e
      rw [e] at tlen
      have := List.eq_nil_of_length_eq_zero tlen
      rw [this] at z1 hne
      exact hne (List.eq_nil_of_length_eq_zero (Nat.le_zero.1 z1))
    simp [this]
  refine f29 rfl ?_
  unfold NmLoop at hL
  unfold numR
  simp only
  generalize hN : (neg && trimN l l.length != 0) = ng at *
  generalize trimL l = t at *
  generalize hq : dropZ k t = q at *
  obtain ⟨m, s⟩ := q
  simp only at *
  have kn : ((k : Int) > 0) = (0 < k) := by apply propext; omega
  simp (disch := omega) only [go_sem, r29_T, r29, ht]
  rw [r29_B0_n]
  erw [hL]
  by_cases hm : m = []
  · subst hm
    have z : ((([] : List Int).map iv).length : Int) = 0 := rfl
    have z3 : ((0 : Int) == 0) = true := rfl
    rw [if_pos rfl]
    simp (disch := omega) only [go_sem, List.map_nil, List.length_nil, z3, numD]
  · have hml : 0 < m.length := List.length_pos_iff.2 hm
    have z3 : ((m.length : Int) == 0) = false := by simp; omega
    have h0 : ((s : Int) < 0) = False := eq_false (by omega)
    have hg := hneg hm
    rw [if_neg hm]
    by_cases h15 : m.length > 15
    · have h15' : ((m.length : Int) > 15) = True := eq_true (by omega)
      rw [if_pos (.inl h15)]
      simp (disch := omega) only [go_sem, List.length_map, z3, h0, h15', numD]
    · have h15' : ((m.length : Int) > 15) = False := eq_false (by omega)
      by_cases h9 : s > 9
      · have h9' : ((s : Int) > 9) = True := eq_true (by omega)
        rw [if_pos (.inr h9)]
        simp (disch := omega) only [go_sem, List.length_map, z3, h0, h15', h9', numD]
      · have h9' : ((s : Int) > 9) = False := eq_false (by omega)
        rw [if_neg (by omega)]
        have hc := nc_loop ng m hdz (by omega) s [.d (iv 0), .d (iv 0)] m.length (Nat.le_refl _)
        unfold NcLoop at hc
        rw [List.drop_of_length_le (Nat.le_refl _)] at hc
        have v0 : val [] = 0 := rfl
        rw [v0] at hc
        obtain ⟨b1, b2⟩ := val_bound hdz
        have hp : (10 : Int) ^ m.length ≤ 10 ^ 15 := p10_mono (by omega)
        have e15 : (10 : Int) ^ 15 = 1000000000000000 := by decide
        simp (disch := omega) only [go_sem, List.length_map, z3, h0, h15', h9', w64]
        rw [r29_B1_n]
        erw [hc]
        subst hg
        cases ng with
        | true => simp (disch := omega) only [go_sem, numD, w64, Int.zero_sub]
        | false => simp (disch := omega) only [go_sem, numD]
end Go.Pe.T

namespace Go.Pe.T
def sv (neg : Bool) (v : Int) : Int := if neg then -v else v

theorem Top.tail {d : Int} {r : List Int} (h : Top (d :: r)) : Top r := by
  refine ⟨h.1.cons.2, fun x hx => ?_⟩
  cases r with
  | nil => simp at hx
  | cons y r => exact h.2 x (by simpa [List.getLast?_cons_cons] using hx)
theorem Top.zero {r : List Int} (h : Top (0 :: r)) : r ≠ [] := by
  intro e
  subst e
  exact h.2 0 (by simp) rfl

theorem dropZ_strip : ∀ (k : Nat) (t : List Int), Top t → t ≠ [] → stripN (val t) k = (val (dropZ k t).1, (dropZ k t).2) ∧ Top (dropZ k t).1 ∧ (dropZ k t).1 ≠ []
  | 0, t, h, hn => ⟨rfl, h, hn⟩
  | k + 1, [], h, hn => absurd rfl hn
  | k + 1, d :: r, h, hn => by
    have hd := h.1 d (by simp)
    unfold digit at hd
    have hv : val (d :: r) = d + 10 * val r := rfl
    obtain ⟨b1, b2⟩ := val_bound h.1.cons.2
    have hm : (d + 10 * val r).tmod 10 = d := by
      rw [Int.tmod_eq_emod_of_nonneg (by omega)]; omega
    have hq : (d + 10 * val r).tdiv 10 = val r := by
      rw [Int.tdiv_eq_ediv_of_nonneg (by omega)]; omega
    rw [hv, stripN, dropZ, hm, hq]
    by_cases h0 : d = 0
    · subst h0
      rw [if_pos rfl, if_pos rfl]
      exact dropZ_strip k r h.tail h.zero
    · rw [if_neg h0, if_neg h0]
      exact ⟨by rw [hv], h, hn⟩

theorem strip_neg : ∀ (k : Nat) (c : Int), stripN (-c) k = (-(stripN c k).1, (stripN c k).2)
  | 0, c => rfl
  | k + 1, c => by
    rw [stripN, stripN, Int.neg_tmod, Int.neg_tdiv]
    by_cases h : c.tmod 10 = 0
    · rw [if_pos (by omega), if_pos h, strip_neg k]
    · rw [if_neg (by omega), if_neg h]
theorem strip_sv (neg : Bool) (k : Nat) (c : Int) : stripN (sv neg c) k = (sv neg (stripN c k).1, (stripN c k).2) := by
  cases neg with
  | true => exact strip_neg k c
  | false => rfl

def toldR (v : Int) (k : Nat) : Int × Int × Bool := if makeOk v k then ((stripN v k).1, (stripN v k).2, true) else (0, 0, false)

theorem numR_told (neg : Bool) (l : List Int) (hd : Digs l) (k : Nat) : numR neg l k = toldR (sv neg (val l)) k := by
  have hv := trimL_val l
  have ht : Top (trimL l) := ⟨trimL_digs hd, trimL_top l⟩
  rw [← hv]
  unfold numR toldR makeOk
  generalize trimL l = t at *
  rw [strip_sv]
  by_cases h0 : t = []
  · subst h0
    have e : (dropZ k ([] : List Int)).1 = [] := by cases k <;> rfl
    have v0 : val [] = 0 := rfl
    have s0 : sv neg 0 = 0 := by cases neg <;> rfl
    have n0 : numIs 0 ((0 : Nat) : Int) = true := by decide
    rw [if_pos e, v0, strip_zero, s0, n0]
    rfl
  · obtain ⟨e1, e2, e3⟩ := dropZ_strip k t ht h0
    have hz := (strip_val k (val t)).2.2
    rw [e1] at hz ⊢
    simp only at hz ⊢
    obtain ⟨b1, b2⟩ := val_bound e2.1
    have b3 := top_bound e2 e3
    generalize (dropZ k t).1 = m at *
    generalize (dropZ k t).2 = s at *
    rw [if_neg e3]
    have e15 : (10 : Int) ^ 15 = 1000000000000000 := by decide
    have hiff : m.length > 15 ↔ 1000000000000000 ≤ val m := by
      constructor
      · intro h
        have : (10 : Int) ^ 15 ≤ 10 ^ (m.length - 1) := p10_mono (by omega)
        omega
      · intro h
        apply Classical.byContradiction
        intro hc
        have : (10 : Int) ^ m.length ≤ 10 ^ 15 := p10_mono (by omega)
        omega
    by_cases hbad : m.length > 15 ∨ s > 9
    · rw [if_pos hbad]
      have hn : numIs (sv neg (val m)) s = false := by
        unfold numIs
        rcases hbad with h | h
        · have h1 := hiff.1 h
          cases neg with
          | true =>
            have : ¬ (-1000000000000000 < sv true (val m)) := by simp only [sv, if_true]; omega
            simp [this]
          | false =>
            have : ¬ (sv false (val m) < 1000000000000000) := by simp only [sv, Bool.false_eq_true, if_false]; omega
            simp [this]
        · have : ¬ ((s : Int) ≤ 9) := by omega
          simp [this]
      rw [hn]
      rfl
    · rw [if_neg hbad]
      have h1 : ¬ m.length > 15 := fun h => hbad (.inl h)
      have h2 : s ≤ 9 := by omega
      have h3 : val m < 1000000000000000 := by
        apply Classical.byContradiction
        intro hc
        exact h1 (hiff.2 (by omega))
      have hn : numIs (sv neg (val m)) s = true := by
        unfold numIs
        have g0 : (0 : Int) ≤ (s : Int) := by omega
        have g1 : (s : Int) ≤ 9 := by omega
        have g2 : -1000000000000000 < sv neg (val m) := by cases neg <;> simp only [sv, if_true, Bool.false_eq_true, if_false] <;> omega
        have g3 : sv neg (val m) < 1000000000000000 := by cases neg <;> simp only [sv, if_true, Bool.false_eq_true, if_false] <;> omega
        have g4 : ((s : Int) == 0 || (sv neg (val m)).tmod 10 != 0) = true := by
          rcases hz with hz | hz
          · simp [hz]
          · have : (sv neg (val m)).tmod 10 ≠ 0 := by
              cases neg with
              | true => simp only [sv, if_true, Int.neg_tmod]; omega
              | false => simpa only [sv, Bool.false_eq_true, if_false] using hz
            simp [this]
        simp only [g0, g1, g2, g3, decide_true, Bool.true_and, g4]
      rw [hn]
      rfl

section
variable (c c' : Int) (k k' : Nat) (hk : k ≤ 9) (hk' : k' ≤ 9) (hc : -1000000000000000 < c ∧ c < 1000000000000000) (hc' : -1000000000000000 < c' ∧ c' < 1000000000000000)
include hk hk' hc hc'

end
end Go.Pe.T

namespace Go.Pe.T
def noughts (n : Nat) : ByteArray := ⟨(List.replicate n (48 : UInt8)).toArray⟩
theorem rep_ev0 : evF tab 300 53 [.d (.str ⟨#[48]⟩), .d (iv ((0 : Nat) : Int))] [] = some (.ret (.d (.str (noughts 0))) []) := by kernel_rfl
theorem rep_ev1 : evF tab 300 53 [.d (.str ⟨#[48]⟩), .d (iv ((1 : Nat) : Int))] [] = some (.ret (.d (.str (noughts 1))) []) := by kernel_rfl
theorem rep_ev2 : evF tab 300 53 [.d (.str ⟨#[48]⟩), .d (iv ((2 : Nat) : Int))] [] = some (.ret (.d (.str (noughts 2))) []) := by kernel_rfl
theorem rep_ev3 : evF tab 300 53 [.d (.str ⟨#[48]⟩), .d (iv ((3 : Nat) : Int))] [] = some (.ret (.d (.str (noughts 3))) []) := by kernel_rfl
theorem rep_ev4 : evF tab 300 53 [.d (.str ⟨#[48]⟩), .d (iv ((4 : Nat) : Int))] [] = some (.ret (.d (.str (noughts 4))) []) := by kernel_rfl
theorem rep_ev5 : evF tab 300 53 [.d (.str ⟨#[48]⟩), .d (iv ((5 : Nat) : Int))] [] = some (.ret (.d (.str (noughts 5))) []) := by kernel_rfl
theorem rep_ev6 : evF tab 300 53 [.d (.str ⟨#[48]⟩), .d (iv ((6 : Nat) : Int))] [] = some (.ret (.d (.str (noughts 6))) []) := by kernel_rfl
theorem rep_ev7 : evF tab 300 53 [.d (.str ⟨#[48]⟩), .d (iv ((7 : Nat) : Int))] [] = some (.ret (.d (.str (noughts 7))) []) := by kernel_rfl
theorem rep_ev8 : evF tab 300 53 [.d (.str ⟨#[48]⟩), .d (iv ((8 : Nat) : Int))] [] = some (.ret (.d (.str (noughts 8))) []) := by kernel_rfl
theorem rep_ev9 : evF tab 300 53 [.d (.str ⟨#[48]⟩), .d (iv ((9 : Nat) : Int))] [] = some (.ret (.d (.str (noughts 9))) []) := by kernel_rfl
theorem rep_ev10 : evF tab 300 53 [.d (.str ⟨#[48]⟩), .d (iv ((10 : Nat) : Int))] [] = some (.ret (.d (.str (noughts 10))) []) := by kernel_rfl
theorem rep_ev11 : evF tab 300 53 [.d (.str ⟨#[48]⟩), .d (iv ((11 : Nat) : Int))] [] = some (.ret (.d (.str (noughts 11))) []) := by kernel_rfl
theorem rep_ev12 : evF tab 300 53 [.d (.str ⟨#[48]⟩), .d (iv ((12 : Nat) : Int))] [] = some (.ret (.d (.str (noughts 12))) []) := by kernel_rfl
theorem rep_ev13 : evF tab 300 53 [.d (.str ⟨#[48]⟩), .d (iv ((13 : Nat) : Int))] [] = some (.ret (.d (.str (noughts 13))) []) := by kernel_rfl
theorem rep_ev14 : evF tab 300 53 [.d (.str ⟨#[48]⟩), .d (iv ((14 : Nat) : Int))] [] = some (.ret (.d (.str (noughts 14))) []) := by kernel_rfl
theorem rep_ev15 : evF tab 300 53 [.d (.str ⟨#[48]⟩), .d (iv ((15 : Nat) : Int))] [] = some (.ret (.d (.str (noughts 15))) []) := by kernel_rfl
theorem rep_ev16 : evF tab 300 53 [.d (.str ⟨#[48]⟩), .d (iv ((16 : Nat) : Int))] [] = some (.ret (.d (.str (noughts 16))) []) := by kernel_rfl
theorem rep_ev17 : evF tab 300 53 [.d (.str ⟨#[48]⟩), .d (iv ((17 : Nat) : Int))] [] = some (.ret (.d (.str (noughts 17))) []) := by kernel_rfl
theorem rep_ev18 : evF tab 300 53 [.d (.str ⟨#[48]⟩), .d (iv ((18 : Nat) : Int))] [] = some (.ret (.d (.str (noughts 18))) []) := by kernel_rfl
theorem rep_ev19 : evF tab 300 53 [.d (.str ⟨#[48]⟩), .d (iv ((19 : Nat) : Int))] [] = some (.ret (.d (.str (noughts 19))) []) := by kernel_rfl
theorem rep_ev20 : evF tab 300 53 [.d (.str ⟨#[48]⟩), .d (iv ((20 : Nat) : Int))] [] = some (.ret (.d (.str (noughts 20))) []) := by kernel_rfl
theorem rep_ev21 : evF tab 300 53 [.d (.str ⟨#[48]⟩), .d (iv ((21 : Nat) : Int))] [] = some (.ret (.d (.str (noughts 21))) []) := by kernel_rfl
theorem rep_ev22 : evF tab 300 53 [.d (.str ⟨#[48]⟩), .d (iv ((22 : Nat) : Int))] [] = some (.ret (.d (.str (noughts 22))) []) := by kernel_rfl
theorem rep_ev23 : evF tab 300 53 [.d (.str ⟨#[48]⟩), .d (iv ((23 : Nat) : Int))] [] = some (.ret (.d (.str (noughts 23))) []) := by kernel_rfl
theorem rep_ev24 : evF tab 300 53 [.d (.str ⟨#[48]⟩), .d (iv ((24 : Nat) : Int))] [] = some (.ret (.d (.str (noughts 24))) []) := by kernel_rfl
theorem rep_ev25 : evF tab 300 53 [.d (.str ⟨#[48]⟩), .d (iv ((25 : Nat) : Int))] [] = some (.ret (.d (.str (noughts 25))) []) := by kernel_rfl
theorem rep_ev26 : evF tab 300 53 [.d (.str ⟨#[48]⟩), .d (iv ((26 : Nat) : Int))] [] = some (.ret (.d (.str (noughts 26))) []) := by kernel_rfl
theorem rep_ev27 : evF tab 300 53 [.d (.str ⟨#[48]⟩), .d (iv ((27 : Nat) : Int))] [] = some (.ret (.d (.str (noughts 27))) []) := by kernel_rfl
theorem rep_ev28 : evF tab 300 53 [.d (.str ⟨#[48]⟩), .d (iv ((28 : Nat) : Int))] [] = some (.ret (.d (.str (noughts 28))) []) := by kernel_rfl
theorem rep_ev29 : evF tab 300 53 [.d (.str ⟨#[48]⟩), .d (iv ((29 : Nat) : Int))] [] = some (.ret (.d (.str (noughts 29))) []) := by kernel_rfl
theorem rep_ev30 : evF tab 300 53 [.d (.str ⟨#[48]⟩), .d (iv ((30 : Nat) : Int))] [] = some (.ret (.d (.str (noughts 30))) []) := by kernel_rfl
theorem rep_ev31 : evF tab 300 53 [.d (.str ⟨#[48]⟩), .d (iv ((31 : Nat) : Int))] [] = some (.ret (.d (.str (noughts 31))) []) := by kernel_rfl
theorem rep_ev32 : evF tab 300 53 [.d (.str ⟨#[48]⟩), .d (iv ((32 : Nat) : Int))] [] = some (.ret (.d (.str (noughts 32))) []) := by kernel_rfl
theorem rep_ev33 : evF tab 300 53 [.d (.str ⟨#[48]⟩), .d (iv ((33 : Nat) : Int))] [] = some (.ret (.d (.str (noughts 33))) []) := by kernel_rfl
theorem rep_ev34 : evF tab 300 53 [.d (.str ⟨#[48]⟩), .d (iv ((34 : Nat) : Int))] [] = some (.ret (.d (.str (noughts 34))) []) := by kernel_rfl
theorem rep_ev35 : evF tab 300 53 [.d (.str ⟨#[48]⟩), .d (iv ((35 : Nat) : Int))] [] = some (.ret (.d (.str (noughts 35))) []) := by kernel_rfl
theorem rep_ev36 : evF tab 300 53 [.d (.str ⟨#[48]⟩), .d (iv ((36 : Nat) : Int))] [] = some (.ret (.d (.str (noughts 36))) []) := by kernel_rfl
theorem rep_ev37 : evF tab 300 53 [.d (.str ⟨#[48]⟩), .d (iv ((37 : Nat) : Int))] [] = some (.ret (.d (.str (noughts 37))) []) := by kernel_rfl
theorem rep_ev38 : evF tab 300 53 [.d (.str ⟨#[48]⟩), .d (iv ((38 : Nat) : Int))] [] = some (.ret (.d (.str (noughts 38))) []) := by kernel_rfl
theorem rep_ev39 : evF tab 300 53 [.d (.str ⟨#[48]⟩), .d (iv ((39 : Nat) : Int))] [] = some (.ret (.d (.str (noughts 39))) []) := by kernel_rfl
theorem rep_ev40 : evF tab 300 53 [.d (.str ⟨#[48]⟩), .d (iv ((40 : Nat) : Int))] [] = some (.ret (.d (.str (noughts 40))) []) := by kernel_rfl
theorem rep_ev (n : Nat) (h : n ≤ 40) : evF tab 300 53 [.d (.str ⟨#[48]⟩), .d (iv n)] [] = some (.ret (.d (.str (noughts n))) []) := by
  have hn : n = 0 ∨ n = 1 ∨ n = 2 ∨ n = 3 ∨ n = 4 ∨ n = 5 ∨ n = 6 ∨ n = 7 ∨ n = 8 ∨ n = 9 ∨ n = 10 ∨ n = 11 ∨ n = 12 ∨ n = 13 ∨ n = 14 ∨ n = 15 ∨ n = 16 ∨ n = 17 ∨ n = 18 ∨ n = 19 ∨ n = 20 ∨ n = 21 ∨ n = 22 ∨ n = 23 ∨ n = 24 ∨ n = 25 ∨ n = 26 ∨ n = 27 ∨ n = 28 ∨ n = 29 ∨ n = 30 ∨ n = 31 ∨ n = 32 ∨ n = 33 ∨ n = 34 ∨ n = 35 ∨ n = 36 ∨ n = 37 ∨ n = 38 ∨ n = 39 ∨ n = 40 := by omega
  rcases hn with rfl | rfl | rfl | rfl | rfl | rfl | rfl | rfl | rfl | rfl | rfl | rfl | rfl | rfl | rfl | rfl | rfl | rfl | rfl | rfl | rfl | rfl | rfl | rfl | rfl | rfl | rfl | rfl | rfl | rfl | rfl | rfl | rfl | rfl | rfl | rfl | rfl | rfl | rfl | rfl | rfl
  · exact rep_ev0
  · exact rep_ev1
  · exact rep_ev2
  · exact rep_ev3
  · exact rep_ev4
  · exact rep_ev5
  · exact rep_ev6
  · exact rep_ev7
  · exact rep_ev8
  · exact rep_ev9
  · exact rep_ev10
  · exact rep_ev11
  · exact rep_ev12
  · exact rep_ev13
  · exact rep_ev14
  · exact rep_ev15
  · exact rep_ev16
  · exact rep_ev17
  · exact rep_ev18
  · exact rep_ev19
  · exact rep_ev20
  · exact rep_ev21
  · exact rep_ev22
  · exact rep_ev23
  · exact rep_ev24
  · exact rep_ev25
  · exact rep_ev26
  · exact rep_ev27
  · exact rep_ev28
  · exact rep_ev29
  · exact rep_ev30
  · exact rep_ev31
  · exact rep_ev32
  · exact rep_ev33
  · exact rep_ev34
  · exact rep_ev35
  · exact rep_ev36
  · exact rep_ev37
  · exact rep_ev38
  · exact rep_ev39
  · exact rep_ev40
theorem rep_ok (n : Nat) (h : n ≤ 40) (hp : List Ent) : F tab 53 [.d (.str ⟨#[48]⟩), .d (iv n)] hp = some (.ret (.d (.str (noughts n))) hp) :=
  F_some.2 ⟨300, ((evF_nice (pf := pf) pf_ok 300).2 53 rfl _ _ _ _ (rep_ev n h)).2 hp⟩
end Go.Pe.T

namespace Go.Pe.T
abbrev bt (l : List UInt8) : ByteArray := ⟨l.toArray⟩
theorem bt_app (a b : List UInt8) : bt a ++ bt b = bt (a ++ b) := by
  apply ByteArray.ext; simp [bt]
theorem str_add (a b : List UInt8) (h : a.length + b.length ≤ 140737488355328) : strD .add (bt a) (bt b) = some (.str (bt (a ++ b))) := by
  have e : (bt a).size + (bt b).size = a.length + b.length := rfl
  simp only [strD, e, if_pos h, bt_app]
theorem bt_size (a : List UInt8) : (bt a).size = a.length := rfl
end Go.Pe.T

namespace Go.Pe.T
theorem bt_get (L : List UInt8) (i : Nat) : (bt L)[i]? = L[i]? := by
  show (if h : i < (bt L).size then some (bt L)[i] else none) = _
  by_cases h : i < L.length
  · rw [dif_pos (show i < (bt L).size from h), List.getElem?_eq_getElem h]
    rfl
  · rw [dif_neg (show ¬ i < (bt L).size from h), List.getElem?_eq_none (by omega)]
theorem bt_ext (L : List UInt8) (i j : Nat) : (bt L).extract i j = bt ((L.take j).drop i) := by
  apply ByteArray.ext
  rw [ByteArray.data_extract]
  simp [bt, List.extract_toArray, List.extract_eq_take_drop, List.drop_take]

def isDg (b : UInt8) : Bool := decide (48 ≤ b.toNat) && decide (b.toNat ≤ 57)
theorem isDg_iff {b : UInt8} : isDg b = true ↔ 48 ≤ b.toNat ∧ b.toNat ≤ 57 := by simp [isDg]

def RowIs (L : List UInt8) (i : Nat) : Prop :=
  V (F tab) r50_B0 (r50_S0 (.d (.str (bt L))) (.d (iv i)) []) = some (.norm, r50_E0 (.d (.str (bt L))) (.d (iv (i + ((L.drop i).takeWhile isDg).length : Nat))) [])
theorem row_end (L : List UInt8) : RowIs L L.length := by
  have h1 : ((L.length : Int) < (L.length : Int)) = False := eq_false (by omega)
  unfold RowIs
  rw [List.drop_of_length_le (Nat.le_refl _), r50_B0_eq]
  simp (disch := omega) only [go_sem, r50_C0, h1, ByteArray.size, List.size_toArray, List.takeWhile_nil, List.length_nil, Nat.add_zero]
theorem row_step (L : List UInt8) (hl : L.length ≤ 100000) (i : Nat) (hi : i < L.length) (ih : RowIs L (i + 1)) : RowIs L i := by
  have h1 : ((i : Int) < (L.length : Int)) = True := eq_true (by omega)
  have i0 : (0 ≤ (i : Int)) = True := eq_true (by omega)
  have hx : L[i]? = some L[i] := List.getElem?_eq_getElem hi
  have hd : L.drop i = L[i] :: L.drop (i + 1) := List.drop_eq_getElem_cons hi
  have hg := bt_get L i
  have e1 : (i : Int) + 1 = ((i + 1 : Nat) : Int) := rfl
  unfold RowIs at ih ⊢
  rw [hd, List.takeWhile_cons]
  rw [hx] at hg
  generalize L[i] = b at *
  rw [r50_B0_eq]
  by_cases g1 : 48 ≤ b.toNat
  · have k1 : ((b.toNat : Int) ≥ 48) = True := eq_true (by omega)
    by_cases g2 : b.toNat ≤ 57
    · have k2 : ((b.toNat : Int) ≤ 57) = True := eq_true (by omega)
      rw [isDg_iff.2 ⟨g1, g2⟩, if_pos rfl, List.length_cons, show i + (((L.drop (i + 1)).takeWhile isDg).length + 1) = i + 1 + ((L.drop (i + 1)).takeWhile isDg).length by omega]
      simp (disch := omega) only [go_sem, r50_C0, h1, i0, hg, k1, k2, e1, ByteArray.size, List.size_toArray, w64]
      exact ih
    · have k2 : ((b.toNat : Int) ≤ 57) = False := eq_false (by omega)
      have hn : isDg b = false := by simp [isDg, g2]
      rw [hn, if_neg (by simp)]
      simp (disch := omega) only [go_sem, r50_C0, h1, i0, hg, k1, k2, ByteArray.size, List.size_toArray, List.length_nil, Nat.add_zero]
  · have k1 : ((b.toNat : Int) ≥ 48) = False := eq_false (by omega)
    have hn : isDg b = false := by simp [isDg, g1]
    rw [hn, if_neg (by simp)]
    simp (disch := omega) only [go_sem, r50_C0, h1, i0, hg, k1, ByteArray.size, List.size_toArray, List.length_nil, Nat.add_zero]
theorem row_loop (L : List UInt8) (hl : L.length ≤ 100000) : ∀ (d i : Nat), i + d = L.length → RowIs L i
  | 0, i, h => by obtain rfl : i = L.length := by omega
                  exact row_end L
  | d + 1, i, h => row_step L hl i (by omega) (row_loop L hl d (i + 1) (by omega))
theorem take_app {L a b : List UInt8} (h : a ++ b = L) : L.take a.length = a ∧ L.drop a.length = b := by
  subst h; exact ⟨List.take_left .., List.drop_left ..⟩
theorem take_tw (L : List UInt8) : L.take (L.takeWhile isDg).length = L.takeWhile isDg ∧ L.drop (L.takeWhile isDg).length = L.dropWhile isDg :=
  take_app (List.takeWhile_append_dropWhile (p := isDg) (l := L))
theorem tw_le (L : List UInt8) : (L.takeWhile isDg).length ≤ L.length := by
  have h := congrArg List.length (List.takeWhile_append_dropWhile (p := isDg) (l := L))
  rw [List.length_append] at h
  omega
theorem row_ok (L : List UInt8) (hl : L.length ≤ 100000) (hp : List Ent) : F tab 50 [.d (.str (bt L))] hp = some (.ret (.tup [.d (.str (bt (L.takeWhile isDg))), .d (.str (bt (L.dropWhile isDg)))]) hp) := by
  have hL := row_loop L hl L.length 0 (by omega)
  unfold RowIs at hL
  rw [List.drop_zero, Nat.zero_add] at hL
  obtain ⟨t1, t2⟩ := take_tw L
  have x1 := bt_ext L 0 (L.takeWhile isDg).length
  have x2 := bt_ext L (L.takeWhile isDg).length L.length
  rw [List.drop_zero, t1] at x1
  rw [List.take_length, t2] at x2
  have hle := tw_le L
  have b0 : (0 ≤ (((L.takeWhile isDg).length : Nat) : Int)) = True := eq_true (by omega)
  have b1 : ((((L.takeWhile isDg).length : Nat) : Int) ≤ (L.length : Int)) = True := eq_true (by omega)
  have b2 : ((L.length : Int) ≤ (L.length : Int)) = True := eq_true (by omega)
  have z : ((0 : Nat) : Int) = 0 := rfl
  have t0 : (0 : Int).toNat = 0 := rfl
  rw [z] at hL
  refine f50 rfl ?_
  simp (disch := omega) only [go_sem, r50_T, r50]
  rw [r50_B0_n]
  erw [hL]
  simp (disch := omega) only [go_sem, b0, b1, b2, x1, x2, t0, ByteArray.size, List.size_toArray, decide_true]
end Go.Pe.T

namespace Go.Pe.T
theorem bt_nil (L : List UInt8) : ((bt L).toList == (⟨#[]⟩ : ByteArray).toList) = L.isEmpty := by
  rw [ByteArray.toList_eq, ByteArray.toList_eq]
  cases L <;> rfl
def isE (b : UInt8) : Bool := b.toNat == 69 || b.toNat == 101
theorem or32_all : ∀ n : Fin 256, ∃ m : Int, bitsD .or .u8 (n.val : Int) 32 = some (.int .u8 m) ∧ (m == 101) = (n.val == 69 || n.val == 101) := by
  intro n
  refine ⟨_, rfl, ?_⟩
  revert n
  decide +kernel
theorem or32 (b : UInt8) : ∃ m : Int, bitsD .or .u8 (b.toNat : Int) 32 = some (.int .u8 m) ∧ (m == 101) = isE b :=
  or32_all ⟨b.toNat, b.toNat_lt⟩
def DgL (d : List UInt8) : Prop := ∀ b ∈ d, isDg b = true
theorem tw_dgl : ∀ L : List UInt8, DgL (L.takeWhile isDg)
  | [] => fun b hb => by simp at hb
  | a :: L => fun b hb => by
    rw [List.takeWhile_cons] at hb
    by_cases h : isDg a = true
    · rw [if_pos h] at hb
      rcases List.mem_cons.1 hb with rfl | hb
      · exact h
      · exact tw_dgl L b hb
    · rw [if_neg h] at hb
      simp at hb

def capN : List UInt8 → Nat → Nat
  | [], n => n
  | b :: r, n => capN r (min (10 * n + (b.toNat - 48)) 1000000)
theorem capN_le : ∀ (d : List UInt8) (n : Nat), n ≤ 1000000 → capN d n ≤ 1000000
  | [], n, h => h
  | b :: r, n, h => capN_le r _ (Nat.min_le_right _ _)

def PwIs (sg : Int) (d : List UInt8) (rest : D) (n i : Nat) : Prop :=
  V (F tab) r51_B0 (r51_S0 (.d (iv sg)) (.d (.str (bt d))) (.d rest) (.d (iv n)) (.d (iv d.length)) (.d (iv i)) []) = some (.norm, r51_E0 (.d (iv sg)) (.d (.str (bt d))) (.d rest) (.d (iv (capN (d.drop i) n : Nat))) [])
theorem pw_end (sg : Int) (d : List UInt8) (rest : D) (n : Nat) : PwIs sg d rest n d.length := by
  have h1 : ((d.length : Int) < (d.length : Int)) = False := eq_false (by omega)
  unfold PwIs
  rw [List.drop_of_length_le (Nat.le_refl _), r51_B0_eq]
  simp (disch := omega) only [go_sem, strD, r51_C0, r51_K0, h1, capN]
theorem pw_step (sg : Int) (d : List UInt8) (hd : DgL d) (hl : d.length ≤ 100000) (rest : D) (n i : Nat) (hn : n ≤ 1000000) (hi : i < d.length) (ih : ∀ m, m ≤ 1000000 → PwIs sg d rest m (i + 1)) : PwIs sg d rest n i := by
  have h1 : ((i : Int) < (d.length : Int)) = True := eq_true (by omega)
  have i0 : (0 ≤ (i : Int)) = True := eq_true (by omega)
  have hx : d[i]? = some d[i] := List.getElem?_eq_getElem hi
  have hdr : d.drop i = d[i] :: d.drop (i + 1) := List.drop_eq_getElem_cons hi
  have hdg := hd d[i] (List.getElem_mem _)
  have hg := bt_get d i
  have e1 : (i : Int) + 1 = ((i + 1 : Nat) : Int) := rfl
  have ih' := ih (min (10 * n + (d[i].toNat - 48)) 1000000) (Nat.min_le_right _ _)
  rw [hx] at hg
  unfold PwIs at ih' ⊢
  rw [hdr, capN]
  generalize d[i] = b at *
  obtain ⟨g1, g2⟩ := isDg_iff.1 hdg
  rw [r51_B0_eq]
  by_cases hc : 1000000 < 10 * n + (b.toNat - 48)
  · have h2 : ((1000000 : Int) < 10 * (n : Int) + ((b.toNat : Int) - 48)) = True := eq_true (by omega)
    rw [Nat.min_eq_right (by omega)] at ih' ⊢
    have z : ((1000000 : Nat) : Int) = 1000000 := rfl
    rw [z] at ih'
    simp (disch := omega) only [go_sem, strD, r51_C0, r51_K0, h1, i0, hg, h2, e1, ByteArray.size, List.size_toArray, w64, wu8]
    exact ih'
  · have h2 : ((1000000 : Int) < 10 * (n : Int) + ((b.toNat : Int) - 48)) = False := eq_false (by omega)
    rw [Nat.min_eq_left (by omega)] at ih' ⊢
    have z : ((10 * n + (b.toNat - 48) : Nat) : Int) = 10 * (n : Int) + ((b.toNat : Int) - 48) := by omega
    rw [z] at ih'
    simp (disch := omega) only [go_sem, strD, r51_C0, r51_K0, h1, i0, hg, h2, e1, ByteArray.size, List.size_toArray, w64, wu8]
    exact ih'
theorem pw_loop (sg : Int) (d : List UInt8) (hd : DgL d) (hl : d.length ≤ 100000) (rest : D) : ∀ (k i n : Nat), i + k = d.length → n ≤ 1000000 → PwIs sg d rest n i
  | 0, i, n, h, hn => by obtain rfl : i = d.length := by omega
                         exact pw_end sg d rest n
  | k + 1, i, n, h, hn => pw_step sg d hd hl rest n i hn (by omega) fun m hm => pw_loop sg d hd hl rest k (i + 1) m (by omega) hm

def sgnP : List UInt8 → Int × List UInt8
  | [] => (1, [])
  | c :: t => if c.toNat = 43 then (1, t) else if c.toNat = 45 then (-1, t) else (1, c :: t)
def powP : List UInt8 → Int × List UInt8 × Bool
  | [] => (0, [], true)
  | c :: r => if isE c then ((sgnP r).1 * capN ((sgnP r).2.takeWhile isDg) 0, (sgnP r).2.dropWhile isDg, !((sgnP r).2.takeWhile isDg).isEmpty) else (0, c :: r, true)
theorem sgnP_len (L : List UInt8) : (sgnP L).2.length ≤ L.length := by
  cases L with
  | nil => exact Nat.le_refl _
  | cons c t =>
    simp only [sgnP]
    split
    · simp
    · split <;> simp
theorem sgnP_one (L : List UInt8) : (sgnP L).1 = 1 ∨ (sgnP L).1 = -1 := by
  cases L with
  | nil => exact .inl rfl
  | cons c t =>
    simp only [sgnP]
    split
    · exact .inl rfl
    · split
      · exact .inr rfl
      · exact .inl rfl

set_option maxHeartbeats 1000000 in
theorem pow_tail (L : List UInt8) (hl : L.length ≤ 100000) (sg : Int) (hsg : sg = 1 ∨ sg = -1) :
    V (F tab) (r51_K2 ()) (r51_J2 (.d (.str (bt L))) (.d (iv sg)) []) = some (.ret, r51_R (.d (iv (sg * (capN (L.takeWhile isDg) 0 : Nat)))) (.d (.str (bt (L.dropWhile isDg)))) (.d (.bool (!(L.takeWhile isDg).isEmpty))) []) := by
  have hr := row_ok L hl []
  have hll := tw_le L
  have hL := pw_loop sg (L.takeWhile isDg) (tw_dgl L) (by omega) (.str (bt (L.dropWhile isDg))) (L.takeWhile isDg).length 0 0 (by omega) (by omega)
  have hc := capN_le (L.takeWhile isDg) 0 (by omega)
  unfold PwIs at hL
  have z : ((0 : Nat) : Int) = 0 := rfl
  have hs := bt_size (L.takeWhile isDg)
  have hn := bt_nil (L.takeWhile isDg)
  rw [List.drop_zero, z] at hL
  have hb : -1000000 ≤ sg * ((capN (L.takeWhile isDg) 0 : Nat) : Int) ∧ sg * ((capN (L.takeWhile isDg) 0 : Nat) : Int) ≤ 1000000 := by
    rcases hsg with rfl | rfl <;> omega
  generalize capN (L.takeWhile isDg) 0 = n at *
  generalize L.takeWhile isDg = D at *
  generalize L.dropWhile isDg = R at *
  simp (disch := omega) only [go_sem, strD, r51_K2, hr, hs]
  rw [r51_B0_n]
  erw [hL]
  simp (disch := omega) only [go_sem, strD, r51_K1, hn, w64]

theorem bt_cut1 (c : UInt8) (L : List UInt8) : (bt (c :: L)).extract 1 (L.length + 1) = bt L := by
  rw [bt_ext, List.take_of_length_le (by simp)]
  rfl
theorem bt_zero (c : UInt8) (L : List UInt8) : (bt (c :: L))[0]? = some c := by rw [bt_get]; rfl
set_option maxHeartbeats 1000000 in
theorem pow_sign (c0 : UInt8) (L : List UInt8) (hl : L.length ≤ 100000) :
    V (F tab) (r51_K4 ()) (r51_J4 (.d (.str (bt (c0 :: L)))) []) = some (.ret, r51_R (.d (iv ((sgnP L).1 * (capN ((sgnP L).2.takeWhile isDg) 0 : Nat)))) (.d (.str (bt ((sgnP L).2.dropWhile isDg)))) (.d (.bool (!((sgnP L).2.takeWhile isDg).isEmpty))) []) := by
  have ht := pow_tail (sgnP L).2 (by have := sgnP_len L; omega) (sgnP L).1 (sgnP_one L)
  have hs0 := bt_size (c0 :: L)
  have hc0 := bt_cut1 c0 L
  have b0 : (0 ≤ (1 : Int)) = True := eq_true (by omega)
  have b1 : (1 ≤ ((L.length + 1 : Nat) : Int)) = True := eq_true (by omega)
  have b2 : (((L.length + 1 : Nat) : Int) ≤ ((L.length + 1 : Nat) : Int)) = True := eq_true (by omega)
  have i0 : (0 ≤ (0 : Int)) = True := eq_true (by omega)
  rw [List.length_cons] at hs0
  have hn := bt_nil L
  cases L with
  | nil =>
    rw [show sgnP [] = (1, []) from rfl] at *
    have k1 : (1 ≤ ((1 : Nat) : Int)) = True := eq_true (by omega)
    have k2 : (((1 : Nat) : Int) ≤ ((1 : Nat) : Int)) = True := eq_true (by omega)
    have hc1 : (bt [c0]).extract 1 1 = bt [] := hc0
    have hs1 : (bt [c0]).size = 1 := rfl
    simp (disch := omega) only [go_sem, strD, r51_K4, hs1, hc1, b0, k1, k2, hn, decide_true, List.isEmpty_nil]
    exact ht
  | cons c t =>
    have hz := bt_zero c t
    have hs := bt_size (c :: t)
    have hct := bt_cut1 c t
    have b3 : (1 ≤ ((t.length + 1 : Nat) : Int)) = True := eq_true (by omega)
    have b4 : (((t.length + 1 : Nat) : Int) ≤ ((t.length + 1 : Nat) : Int)) = True := eq_true (by omega)
    rw [List.length_cons] at hs
    simp only [List.length_cons] at hs0 hc0 b1 b2
    by_cases h1 : c.toNat = 43
    · have e : sgnP (c :: t) = (1, t) := by simp only [sgnP, if_pos h1]
      have k1 : ((c.toNat : Int) == 43) = true := by simp; omega
      have k2 : ((c.toNat : Int) == 45) = false := by simp; omega
      rw [e] at ht ⊢
      simp (disch := omega) only [go_sem, strD, r51_K4, hs0, hc0, hs, hct, hz, b0, b1, b2, b3, b4, i0, k1, k2, hn, decide_true, List.isEmpty_cons]
      exact ht
    · have k1 : ((c.toNat : Int) == 43) = false := by simp; omega
      by_cases h2 : c.toNat = 45
      · have e : sgnP (c :: t) = (-1, t) := by simp only [sgnP, if_neg h1, if_pos h2]
        have k2 : ((c.toNat : Int) == 45) = true := by simp; omega
        rw [e] at ht ⊢
        simp (disch := omega) only [go_sem, strD, r51_K4, hs0, hc0, hs, hct, hz, b0, b1, b2, b3, b4, i0, k1, k2, hn, decide_true, List.isEmpty_cons]
        exact ht
      · have e : sgnP (c :: t) = (1, c :: t) := by simp only [sgnP, if_neg h1, if_neg h2]
        have k2 : ((c.toNat : Int) == 45) = false := by simp; omega
        rw [e] at ht ⊢
        simp (disch := omega) only [go_sem, strD, r51_K4, hs0, hc0, hs, hct, hz, b0, b1, b2, b3, b4, i0, k1, k2, hn, decide_true, List.isEmpty_cons]
        exact ht

theorem power_ok (L : List UInt8) (hl : L.length ≤ 100000) (hp : List Ent) :
    F tab 51 [.d (.str (bt L))] hp = some (.ret (.tup [.d (iv (powP L).1), .d (.str (bt (powP L).2.1)), .d (.bool (powP L).2.2)]) hp) := by
  have hn := bt_nil L
  refine f51 rfl ?_
  cases L with
  | nil =>
    simp (disch := omega) only [go_sem, strD, r51_T, r51, hn, List.isEmpty_nil, powP]
  | cons c r =>
    have hz := bt_zero c r
    have i0 : (0 ≤ (0 : Int)) = True := eq_true (by omega)
    obtain ⟨m, o1, o2⟩ := or32 c
    simp only [List.length_cons] at hl
    have hs := pow_sign c r (by omega)
    rw [powP]
    rcases Bool.eq_false_or_eq_true (isE c) with g | g
    · rw [g] at o2
      have k : (m != 101) = false := by simp only [bne, o2, Bool.not_true]
      rw [g, if_pos rfl]
      simp (disch := omega) only [go_sem, strD, r51_T, r51, hn, hz, i0, o1, k, List.isEmpty_cons]
      erw [hs]
      simp (disch := omega) only [go_sem]
    · rw [g] at o2
      have k : (m != 101) = true := by simp only [bne, o2, Bool.not_false]
      rw [g, if_neg (by simp)]
      simp (disch := omega) only [go_sem, strD, r51_T, r51, hn, hz, i0, o1, k, List.isEmpty_cons]
end Go.Pe.T

namespace Go.Pe.T
def noP : List UInt8 × List UInt8 × Int × Bool := ([], [], 0, false)
def finP (A B R : List UInt8) : List UInt8 × List UInt8 × Int × Bool := (A, B, (powP R).1, (powP R).2.2 && (powP R).2.1.isEmpty)
def fracP (A : List UInt8) : List UInt8 → List UInt8 × List UInt8 × Int × Bool
  | [] => finP A [] []
  | c :: r => if c.toNat = 46 then (if (r.takeWhile isDg).isEmpty then noP else finP A (r.takeWhile isDg) (r.dropWhile isDg)) else finP A [] (c :: r)
def lead0 (A : List UInt8) : Bool := A.isEmpty || (decide (A.length > 1) && (A.headD 0).toNat == 48)
def partsP (L : List UInt8) : List UInt8 × List UInt8 × Int × Bool :=
  if lead0 (L.takeWhile isDg) then noP else fracP (L.takeWhile isDg) (L.dropWhile isDg)
theorem dw_le (L : List UInt8) : (L.dropWhile isDg).length ≤ L.length := by
  have h := congrArg List.length (List.takeWhile_append_dropWhile (p := isDg) (l := L))
  rw [List.length_append] at h
  omega
theorem parts_fin (A B R : List UInt8) (hl : R.length ≤ 100000) :
    V (F tab) (r44_K2 ()) (r44_J2 (.d (.str (bt R))) (.d (.str (bt A))) (.d (.str (bt B))) []) =
      some (.ret, r44_R (.d (.str (bt (finP A B R).1))) (.d (.str (bt (finP A B R).2.1))) (.d (iv (finP A B R).2.2.1)) (.d (.bool (finP A B R).2.2.2)) []) := by
  have hp := power_ok R hl []
  have hn := bt_nil (powP R).2.1
  unfold finP
  generalize powP R = p at *
  obtain ⟨e, q, ok⟩ := p
  simp only at hp hn ⊢
  rcases Bool.eq_false_or_eq_true ok with g | g
  · subst g
    simp (disch := omega) only [go_sem, strD, r44_K2, hp, hn]
  · subst g
    simp (disch := omega) only [go_sem, strD, r44_K2, hp, hn]

set_option maxHeartbeats 1000000 in
theorem parts_frac (A R : List UInt8) (hl : R.length ≤ 100000) :
    V (F tab) (r44_K4 ()) (r44_J4 (.d (.str (bt R))) (.d (.str (bt A))) []) =
      some (.ret, r44_R (.d (.str (bt (fracP A R).1))) (.d (.str (bt (fracP A R).2.1))) (.d (iv (fracP A R).2.2.1)) (.d (.bool (fracP A R).2.2.2)) []) := by
  have hn := bt_nil R
  cases R with
  | nil =>
    have hf := parts_fin A [] [] (by simp)
    simp (disch := omega) only [go_sem, strD, r44_K4, hn, List.isEmpty_nil, fracP]
    exact hf
  | cons c r =>
    simp only [List.length_cons] at hl
    have hz := bt_zero c r
    have hs := bt_size (c :: r)
    have hct := bt_cut1 c r
    have i0 : (0 ≤ (0 : Int)) = True := eq_true (by omega)
    have b0 : (0 ≤ (1 : Int)) = True := eq_true (by omega)
    have b3 : (1 ≤ ((r.length + 1 : Nat) : Int)) = True := eq_true (by omega)
    have b4 : (((r.length + 1 : Nat) : Int) ≤ ((r.length + 1 : Nat) : Int)) = True := eq_true (by omega)
    rw [List.length_cons] at hs
    rw [fracP]
    by_cases h1 : c.toNat = 46
    · have k1 : ((c.toNat : Int) == 46) = true := by simp; omega
      have hr := row_ok r (by omega) []
      have hn2 := bt_nil (r.takeWhile isDg)
      have hf := parts_fin A (r.takeWhile isDg) (r.dropWhile isDg) (by have := dw_le r; omega)
      rw [if_pos h1]
      generalize r.takeWhile isDg = B at *
      generalize r.dropWhile isDg = R at *
      rcases Bool.eq_false_or_eq_true B.isEmpty with g | g
      · rw [g] at hn2
        rw [g, if_pos rfl]
        simp (disch := omega) only [go_sem, strD, r44_K4, hn, hz, hs, hct, i0, b0, b3, b4, k1, hr, hn2, decide_true, List.isEmpty_cons, noP]
      · rw [g] at hn2
        rw [g, if_neg (by simp)]
        simp (disch := omega) only [go_sem, strD, r44_K4, hn, hz, hs, hct, i0, b0, b3, b4, k1, hr, hn2, decide_true, List.isEmpty_cons]
        exact hf
    · have k1 : ((c.toNat : Int) == 46) = false := by simp; omega
      have hf := parts_fin A [] (c :: r) (by simp only [List.length_cons]; omega)
      rw [if_neg h1]
      simp (disch := omega) only [go_sem, strD, r44_K4, hn, hz, hs, hct, i0, b0, b3, b4, k1, decide_true, List.isEmpty_cons]
      exact hf

set_option maxHeartbeats 1000000 in
theorem parts_ok (L : List UInt8) (hl : L.length ≤ 100000) (hp : List Ent) :
    F tab 44 [.d (.str (bt L))] hp = some (.ret (.tup [.d (.str (bt (partsP L).1)), .d (.str (bt (partsP L).2.1)), .d (iv (partsP L).2.2.1), .d (.bool (partsP L).2.2.2)]) hp) := by
  have hr := row_ok L hl []
  have hf := parts_frac (L.takeWhile isDg) (L.dropWhile isDg) (by have := dw_le L; omega)
  have hn := bt_nil (L.takeWhile isDg)
  have hs := bt_size (L.takeWhile isDg)
  unfold partsP
  generalize L.takeWhile isDg = A at *
  generalize L.dropWhile isDg = R at *
  refine f44 rfl ?_
  cases A with
  | nil =>
    rw [show lead0 [] = true from rfl, if_pos rfl]
    simp (disch := omega) only [go_sem, strD, r44_T, r44, hr, hn, List.isEmpty_nil, noP]
  | cons c t =>
    have hz := bt_zero c t
    have i0 : (0 ≤ (0 : Int)) = True := eq_true (by omega)
    rw [List.length_cons] at hs
    by_cases h1 : t = []
    · have k1 : (((t.length + 1 : Nat) : Int) > 1) = False := eq_false (by subst h1; simp)
      have e : lead0 (c :: t) = false := by subst h1; rfl
      rw [e, if_neg (by simp)]
      simp (disch := omega) only [go_sem, strD, r44_T, r44, hr, hn, hs, k1, List.isEmpty_cons]
      erw [hf]
      simp (disch := omega) only [go_sem]
    · have hlt : 0 < t.length := List.length_pos_iff.2 h1
      have k1 : (((t.length + 1 : Nat) : Int) > 1) = True := eq_true (by omega)
      by_cases h2 : c.toNat = 48
      · have k2 : ((c.toNat : Int) == 48) = true := by simp; omega
        have e : lead0 (c :: t) = true := by simp [lead0, h2]; omega
        rw [e, if_pos rfl]
        simp (disch := omega) only [go_sem, strD, r44_T, r44, hr, hn, hs, hz, i0, k1, k2, List.isEmpty_cons, noP]
      · have k2 : ((c.toNat : Int) == 48) = false := by simp; omega
        have e : lead0 (c :: t) = false := by simp [lead0, h2]
        rw [e, if_neg (by simp)]
        simp (disch := omega) only [go_sem, strD, r44_T, r44, hr, hn, hs, hz, i0, k1, k2, List.isEmpty_cons]
        erw [hf]
        simp (disch := omega) only [go_sem]

def is0 (b : UInt8) : Bool := b.toNat == 48
def TlIs (L : List UInt8) : Prop := V (F tab) r59_B0 (r59_S0 (.d (.str (bt L))) (.d (.int .u8 48)) []) = some (.norm, r59_E0 (.d (.str (bt (L.dropWhile is0)))) [])
theorem tl_nil : TlIs [] := by
  have h1 : ((0 : Int) > 0) = False := eq_false (by omega)
  have h2 : (((0 : Nat) : Int) > 0) = False := eq_false (by omega)
  have hs := bt_size []
  unfold TlIs
  rw [r59_B0_eq]
  simp (disch := omega) only [go_sem, strD, r59_C0, hs, h1, h2, List.dropWhile_nil]
theorem tl_step (c : UInt8) (r : List UInt8) (hl : r.length ≤ 100000) (ih : TlIs r) : TlIs (c :: r) := by
  have hz := bt_zero c r
  have hs := bt_size (c :: r)
  have hct := bt_cut1 c r
  have i0 : (0 ≤ (0 : Int)) = True := eq_true (by omega)
  have b0 : (0 ≤ (1 : Int)) = True := eq_true (by omega)
  have b3 : (1 ≤ ((r.length + 1 : Nat) : Int)) = True := eq_true (by omega)
  have b4 : (((r.length + 1 : Nat) : Int) ≤ ((r.length + 1 : Nat) : Int)) = True := eq_true (by omega)
  have b5 : (((r.length + 1 : Nat) : Int) > 0) = True := eq_true (by omega)
  rw [List.length_cons] at hs
  unfold TlIs at ih ⊢
  rw [r59_B0_eq, List.dropWhile_cons]
  by_cases h : c.toNat = 48
  · have k : ((c.toNat : Int) == 48) = true := by simp; omega
    have e : is0 c = true := by simp [is0, h]
    rw [e, if_pos rfl]
    simp (disch := omega) only [go_sem, strD, r59_C0, hs, hz, hct, i0, b0, b3, b4, b5, k, decide_true]
    exact ih
  · have k : ((c.toNat : Int) == 48) = false := by simp; omega
    have e : is0 c = false := by simp [is0, h]
    rw [e, if_neg (by simp)]
    simp (disch := omega) only [go_sem, strD, r59_C0, hs, hz, hct, i0, b0, b3, b4, b5, k, decide_true]
theorem tl_loop : ∀ (L : List UInt8), L.length ≤ 100000 → TlIs L
  | [], _ => tl_nil
  | c :: r, h => tl_step c r (by simp at h; omega) (tl_loop r (by simp at h; omega))
theorem tlb_ok (L : List UInt8) (hl : L.length ≤ 100000) (hp : List Ent) : F tab 59 [.d (.str (bt L)), .d (.int .u8 48)] hp = some (.ret (.d (.str (bt (L.dropWhile is0)))) hp) := by
  have h := tl_loop L hl
  unfold TlIs at h
  refine f59 rfl ?_
  simp (disch := omega) only [go_sem, strD, r59_T, r59]
  rw [r59_B0_n]
  erw [h]
  simp (disch := omega) only [go_sem]
set_option maxHeartbeats 1000000 in
theorem trimLeft_ok (L : List UInt8) (hl : L.length ≤ 100000) (hp : List Ent) : F tab 52 [.d (.str (bt L)), .d (.str ⟨#[48]⟩)] hp = some (.ret (.d (.str (bt (L.dropWhile is0)))) hp) := by
  have h := tlb_ok L hl []
  have hn := bt_nil L
  have hz : (⟨#[48]⟩ : ByteArray)[0]? = some 48 := rfl
  have e1 : ((⟨#[48]⟩ : ByteArray).toList == (⟨#[]⟩ : ByteArray).toList) = false := by decide +kernel
  have e2 : (⟨#[48]⟩ : ByteArray).size = 1 := rfl
  have e3 : (((1 : Nat) : Int) == 1) = true := rfl
  have e4 : (((48 : UInt8).toNat : Int) < 128) = True := eq_true (by decide)
  have e5 : ((48 : UInt8).toNat : Int) = 48 := rfl
  have i0 : (0 ≤ (0 : Int)) = True := eq_true (by omega)
  have e6 : ((48 : Int) < 128) = True := eq_true (by decide)
  refine f52 rfl ?_
  cases L with
  | nil =>
    simp (disch := omega) only [go_sem, strD, r52_T, r52, hn, List.isEmpty_nil, List.dropWhile_nil]
  | cons c r =>
    simp (disch := omega) only [go_sem, strD, r52_T, r52, hn, hz, e1, e2, e3, e4, e5, e6, i0, h, List.isEmpty_cons]
end Go.Pe.T

namespace Go.Pe.T
def dgI (b : UInt8) : Int := (b.toNat : Int) - 48
def lowD (l : List UInt8) : List Int := l.reverse.map dgI
theorem lowD_digs {l : List UInt8} (h : DgL l) : Digs (lowD l) := fun d hd => by
  obtain ⟨b, hb, rfl⟩ := List.mem_map.1 hd
  have := isDg_iff.1 (h b (List.mem_reverse.1 hb))
  unfold digit dgI
  omega
theorem lowD_len (l : List UInt8) : (lowD l).length = l.length := by simp [lowD]
theorem lowD_snoc (l : List UInt8) (b : UInt8) : lowD (l ++ [b]) = dgI b :: lowD l := by simp [lowD]
theorem lowD_app (a b : List UInt8) : lowD (a ++ b) = lowD b ++ lowD a := by simp [lowD]
theorem val_snoc0 : ∀ l : List Int, val (l ++ [0]) = val l
  | [] => rfl
  | d :: r => by
    have e1 : val (d :: r ++ [0]) = d + 10 * val (r ++ [0]) := rfl
    have e2 : val (d :: r) = d + 10 * val r := rfl
    rw [e1, e2, val_snoc0 r]
theorem lowD_drop : ∀ l : List UInt8, val (lowD (l.dropWhile is0)) = val (lowD l)
  | [] => rfl
  | c :: r => by
    rw [List.dropWhile_cons]
    by_cases h : is0 c = true
    · rw [if_pos h, lowD_drop r]
      have : c.toNat = 48 := by simpa [is0] using h
      have e : lowD (c :: r) = lowD r ++ [0] := by simp [lowD, dgI, this]
      rw [e, val_snoc0]
    · rw [if_neg h]
theorem val_zeros : ∀ (z : Nat) (l : List Int), val (List.replicate z 0 ++ l) = 10 ^ z * val l
  | 0, l => by simp
  | z + 1, l => by
    have e1 : val (List.replicate (z + 1) 0 ++ l) = 0 + 10 * val (List.replicate z 0 ++ l) := rfl
    rw [e1, val_zeros z l, Int.pow_succ, Int.zero_add, ← Int.mul_assoc, Int.mul_comm 10]
theorem DgL.drop0 : ∀ {l : List UInt8}, DgL l → DgL (l.dropWhile is0) := fun h b hb => h b ((List.dropWhile_sublist _).mem hb)
theorem DgL.rev {l : List UInt8} (h : DgL l) : DgL l.reverse := fun b hb => h b (List.mem_reverse.1 hb)
theorem DgL.app {a b : List UInt8} (h : DgL a) (k : DgL b) : DgL (a ++ b) := fun x hx => (List.mem_append.1 hx).elim (h x) (k x)
theorem DgL.take {l : List UInt8} (h : DgL l) (n : Nat) : DgL (l.take n) := fun b hb => h b (List.mem_of_mem_take hb)

theorem rev_zeros : ∀ (r : List UInt8), ∃ z, z + (r.dropWhile is0).length = r.length ∧ val (r.map dgI) = 10 ^ z * val ((r.dropWhile is0).map dgI)
  | [] => ⟨0, rfl, by simp⟩
  | c :: r => by
    rw [List.dropWhile_cons]
    by_cases h : is0 c = true
    · obtain ⟨z, h1, h2⟩ := rev_zeros r
      rw [if_pos h]
      refine ⟨z + 1, by simp only [List.length_cons]; omega, ?_⟩
      have : c.toNat = 48 := by simpa [is0] using h
      have e : val ((c :: r).map dgI) = dgI c + 10 * val (r.map dgI) := rfl
      rw [e, h2]
      simp only [dgI, this]
      rw [Int.pow_succ, Int.mul_comm (10 ^ z) 10, Int.mul_assoc]
      omega
    · rw [if_neg h]
      exact ⟨0, by simp, by simp⟩

def HsIs (r : List UInt8) (sc : Int) : Prop :=
  V (F tab) r45_B0 (r45_S0 (.d (.str (bt r.reverse))) (.d (iv sc)) (.ibox [.d (iv 0), .d (iv 0)]) []) = some (.norm, r45_E0 (.d (.str (bt (r.dropWhile is0).reverse))) (.d (iv (sc - ((r.length : Int) - ((r.dropWhile is0).length : Int))))) (.ibox [.d (iv 0), .d (iv 0)]) [])
theorem hs_nil (sc : Int) : HsIs [] sc := by
  have hn := bt_nil []
  unfold HsIs
  have e : sc - ((([] : List UInt8).length : Int) - ((([] : List UInt8).dropWhile is0).length : Int)) = sc := by simp
  rw [e, r45_B0_eq]
  simp (disch := omega) only [go_sem, strD, r45_C0, hn, List.reverse_nil, List.dropWhile_nil, List.isEmpty_nil]
theorem hs_step (c : UInt8) (r : List UInt8) (sc : Int) (hl : r.length ≤ 100000) (hs : -3000000 ≤ sc ∧ sc ≤ 3000000) (ih : HsIs r (sc - 1)) : HsIs (c :: r) sc := by
  have hn := bt_nil (c :: r).reverse
  have hz : (bt (c :: r).reverse).size = r.length + 1 := by rw [bt_size]; simp
  have hg := bt_get (c :: r).reverse r.length
  have hx := bt_ext (c :: r).reverse 0 r.length
  rw [List.reverse_cons] at *
  rw [List.getElem?_append_right (by simp), List.length_reverse, Nat.sub_self] at hg
  rw [List.drop_zero, List.take_append_of_le_length (by simp), List.take_of_length_le (by simp)] at hx
  have e1 : ((r.length + 1 : Nat) : Int) - 1 = (r.length : Int) := by omega
  have i0 : (0 ≤ (r.length : Int)) = True := eq_true (by omega)
  have b1 : ((r.length : Int) ≤ ((r.length + 1 : Nat) : Int)) = True := eq_true (by omega)
  have b0 : (0 ≤ (0 : Int)) = True := eq_true (by omega)
  have ne : (r.reverse ++ [c]).isEmpty = false := by simp
  have t0 : (0 : Int).toNat = 0 := rfl
  rw [ne] at hn
  unfold HsIs at ih ⊢
  rw [r45_B0_eq, List.dropWhile_cons, List.reverse_cons]
  by_cases h : c.toNat = 48
  · have k : ((c.toNat : Int) == 48) = true := by simp; omega
    have e : is0 c = true := by simp [is0, h]
    have e3 : sc - (((c :: r).length : Int) - ((r.dropWhile is0).length : Int)) = sc - 1 - ((r.length : Int) - ((r.dropWhile is0).length : Int)) := by simp only [List.length_cons]; omega
    rw [e, if_pos rfl, e3]
    generalize bt (r.reverse ++ [c]) = B at *
    simp (disch := omega) only [go_sem, strD, r45_C0, r45_K0, hn, hz, hg, hx, e1, i0, b0, b1, t0, k, decide_true, w64]
    exact ih
  · have k : ((c.toNat : Int) == 48) = false := by simp; omega
    have e : is0 c = false := by simp [is0, h]
    have e3 : sc - (((c :: r).length : Int) - ((c :: r).length : Int)) = sc := by omega
    rw [e, if_neg (by simp), e3, List.reverse_cons]
    generalize bt (r.reverse ++ [c]) = B at *
    simp (disch := omega) only [go_sem, strD, r45_C0, r45_K0, hn, hz, hg, hx, e1, i0, b0, b1, t0, k, decide_true, w64]
theorem hs_loop : ∀ (r : List UInt8) (sc : Int), r.length ≤ 100000 → -3000000 + (r.length : Int) ≤ sc ∧ sc ≤ 3000000 → HsIs r sc
  | [], sc, _, _ => hs_nil sc
  | c :: r, sc, h, hs => by
    simp only [List.length_cons] at h hs
    exact hs_step c r sc (by omega) (by omega) (hs_loop r (sc - 1) (by omega) (by omega))

def HcIs (d : List UInt8) (sc : Int) (i : Nat) : Prop :=
  V (F tab) r45_B1 (r45_S1 (.d (.str (bt d))) (.d (iv sc)) (.ibox [.d (iv 0), .d (iv 0)]) (.d (iv (val (lowD (d.take i))))) (.d (iv d.length)) (.d (iv i)) []) = some (.norm, r45_E1 (.d (iv sc)) (.ibox [.d (iv 0), .d (iv 0)]) (.d (iv (val (lowD d)))) [])
theorem hc_end (d : List UInt8) (sc : Int) : HcIs d sc d.length := by
  have h1 : ((d.length : Int) < (d.length : Int)) = False := eq_false (by omega)
  unfold HcIs
  rw [List.take_length, r45_B1_eq]
  simp (disch := omega) only [go_sem, r45_C1, h1]
theorem hc_step (d : List UInt8) (hd : DgL d) (hl : d.length ≤ 15) (sc : Int) (i : Nat) (hi : i < d.length) (ih : HcIs d sc (i + 1)) : HcIs d sc i := by
  have h1 : ((i : Int) < (d.length : Int)) = True := eq_true (by omega)
  have i0 : (0 ≤ (i : Int)) = True := eq_true (by omega)
  have hx : d[i]? = some d[i] := List.getElem?_eq_getElem hi
  have htk : d.take (i + 1) = d.take i ++ [d[i]] := (List.take_append_getElem hi).symm
  have hdg := hd d[i] (List.getElem_mem _)
  have hg := bt_get d i
  have e1 : (i : Int) + 1 = ((i + 1 : Nat) : Int) := rfl
  rw [hx] at hg
  obtain ⟨v1, v2⟩ := val_bound (lowD_digs (hd.take i))
  have hp : (10 : Int) ^ (lowD (d.take i)).length ≤ 10 ^ 14 := p10_mono (by rw [lowD_len, List.length_take]; omega)
  have e14 : (10 : Int) ^ 14 = 100000000000000 := by decide
  have hv : val (lowD (d.take (i + 1))) = dgI d[i] + 10 * val (lowD (d.take i)) := by rw [htk, lowD_snoc]; rfl
  unfold HcIs at ih ⊢
  rw [hv] at ih
  generalize val (lowD (d.take i)) = v at *
  generalize d[i] = b at *
  obtain ⟨g1, g2⟩ := isDg_iff.1 hdg
  have e2 : dgI b + 10 * v = 10 * v + ((b.toNat : Int) - 48) := by unfold dgI; omega
  rw [e2] at ih
  rw [r45_B1_eq]
  simp (disch := omega) only [go_sem, r45_C1, r45_K1, h1, i0, hg, e1, ByteArray.size, List.size_toArray, w64, wu8]
  exact ih
theorem hc_loop (d : List UInt8) (hd : DgL d) (hl : d.length ≤ 15) (sc : Int) : ∀ (k i : Nat), i + k = d.length → HcIs d sc i
  | 0, i, h => by obtain rfl : i = d.length := by omega
                  exact hc_end d sc
  | k + 1, i, h => hc_step d hd hl sc i (by omega) (hc_loop d hd hl sc k (i + 1) (by omega))

def makeC (c : Int) (k : Nat) : Int × Int × Int := if makeOk c k then ((stripN c k).1, ((stripN c k).2 : Int), 0) else (0, 0, 8)
def tupC (p : Int × Int × Int) : PV := .tup [.d (.agg [iv p.1, iv p.2.1]), .d (iv p.2.2)]
theorem makeC_T (c : Int) (k : Nat) : madeT c k = tupC (makeC c k) := by
  unfold madeT makeC tupC
  rcases Bool.eq_false_or_eq_true (makeOk c k) with g | g
  · rw [g]; rfl
  · rw [g]; rfl
def heldK (d : List UInt8) (sc : Int) : Int × Int × Int := if d.length > 15 ∨ sc < 0 ∨ sc > 9 then (0, 0, 8) else makeC (val (lowD d)) sc.toNat

set_option maxHeartbeats 1000000 in
theorem held_tail (d : List UInt8) (hd : DgL d) (hl : d.length ≤ 200000) (sc : Int) :
    V (F tab) (r45_K4 ()) (r45_J4 (.d (.str (bt d))) (.d (iv sc)) (.ibox [.d (iv 0), .d (iv 0)]) []) = some (.ret, r45_R (.ibox [.d (iv (heldK d sc).1), .d (iv (heldK d sc).2.1)]) (.d (iv (heldK d sc).2.2)) []) := by
  have hs := bt_size d
  unfold heldK
  by_cases h15 : d.length > 15
  · have k1 : ((d.length : Int) > 15) = True := eq_true (by omega)
    rw [if_pos (.inl h15)]
    simp (disch := omega) only [go_sem, r45_K4, hs, k1]
  · have k1 : ((d.length : Int) > 15) = False := eq_false (by omega)
    by_cases h0 : sc < 0
    · have k2 : (sc < 0) = True := eq_true h0
      rw [if_pos (.inr (.inl h0))]
      simp (disch := omega) only [go_sem, r45_K4, hs, k1, k2]
    · have k2 : (sc < 0) = False := eq_false h0
      by_cases h9 : sc > 9
      · have k3 : (sc > 9) = True := eq_true h9
        rw [if_pos (.inr (.inr h9))]
        simp (disch := omega) only [go_sem, r45_K4, hs, k1, k2, k3]
      · have k3 : (sc > 9) = False := eq_false h9
        rw [if_neg (by omega)]
        have hc := hc_loop d hd (by omega) sc d.length 0 (by omega)
        have v0 : val (lowD (d.take 0)) = 0 := rfl
        have z : ((0 : Nat) : Int) = 0 := rfl
        unfold HcIs at hc
        rw [v0, z] at hc
        obtain ⟨b1, b2⟩ := val_bound (lowD_digs hd)
        have hp : (10 : Int) ^ (lowD d).length ≤ 10 ^ 15 := p10_mono (by rw [lowD_len]; omega)
        have e15 : (10 : Int) ^ 15 = 1000000000000000 := by decide
        obtain ⟨k, rfl⟩ : ∃ k : Nat, sc = k := ⟨sc.toNat, by omega⟩
        have hm := make_ok (val (lowD d)) k (by unfold i64; omega) (by omega) []
        rw [makeC_T] at hm
        rw [Int.toNat_natCast]
        generalize makeC (val (lowD d)) k = p at *
        obtain ⟨x, y, e⟩ := p
        simp only [tupC] at hm
        simp (disch := omega) only [go_sem, r45_K4, r45_K3, hs, k1, k2, k3]
        rw [r45_B1_n]
        erw [hc]
        simp (disch := omega) only [go_sem, hm]
end Go.Pe.T

namespace Go.Pe.T
def heldC (V : Int) (sc : Int) : Int × Int × Int := if 0 ≤ sc then makeC V sc.toNat else makeC (V * 10 ^ (-sc).toNat) 0
theorem strip_pow : ∀ (z k : Nat) (v : Int), stripN (10 ^ z * v) (k + z) = stripN v k
  | 0, k, v => by simp
  | z + 1, k, v => by
    have e : (10 : Int) ^ (z + 1) * v = 10 * (10 ^ z * v) := by rw [Int.pow_succ, Int.mul_comm (10 ^ z) 10, Int.mul_assoc]
    rw [e, show k + (z + 1) = k + z + 1 by omega, stripN, if_pos (Int.mul_tmod_right 10 _), Int.mul_tdiv_cancel_left _ (by omega), strip_pow z k v]
theorem makeC_pow (z k : Nat) (v : Int) : makeC (10 ^ z * v) (k + z) = makeC v k := by
  unfold makeC makeOk
  rw [strip_pow]
theorem makeC_zero (k : Nat) : makeC 0 k = (0, 0, 0) := by
  unfold makeC makeOk
  rw [strip_zero]
  rfl
theorem makeC_big {v : Int} (h : 1000000000000000 ≤ v) : makeC v 0 = (0, 0, 8) := by
  have hn : numIs v ((0 : Nat) : Int) = false := by
    unfold numIs
    have : ¬ (v < 1000000000000000) := by omega
    simp [this]
  unfold makeC makeOk
  rw [show stripN v 0 = (v, 0) from rfl, hn]
  rfl
theorem makeC_far {v : Int} {k : Nat} (ht : v.tmod 10 ≠ 0) (h : 1000000000000000 ≤ v ∨ 9 < k) : makeC v k = (0, 0, 8) := by
  have hn : numIs v (k : Int) = false := by
    unfold numIs
    rcases h with h | h
    · have : ¬ (v < 1000000000000000) := by omega
      simp [this]
    · have : ¬ ((k : Int) ≤ 9) := by omega
      simp [this]
  unfold makeC makeOk
  rw [strip_self k v (.inr ht), hn]
  rfl
def heldK5 (d : List UInt8) (sc : Int) : Int × Int × Int := if sc < 0 ∧ sc > -40 then heldK (d ++ List.replicate (-sc).toNat 48) 0 else heldK d sc
theorem lowD_zeros (m : Nat) : lowD (List.replicate m 48) = List.replicate m 0 := by
  simp only [lowD, List.reverse_replicate, List.map_replicate]
  rfl
theorem held_math (d : List UInt8) (z : Nat) (sc : Int) (ht : Top (lowD d)) (hne : d ≠ []) (hm : (val (lowD d)).tmod 10 ≠ 0) : heldK5 d sc = heldC (10 ^ z * val (lowD d)) (sc + z) := by
  have hl := lowD_len d
  have hlp : 0 < d.length := List.length_pos_iff.2 hne
  have hne2 : lowD d ≠ [] := by intro e; rw [e] at hl; simp at hl; omega
  have b1 := top_bound ht hne2
  have b2 := (val_bound ht.1).2
  rw [hl] at b1 b2
  have e15 : (10 : Int) ^ 15 = 1000000000000000 := by decide
  have big : ∀ m : Nat, d.length + m > 15 → 1000000000000000 ≤ 10 ^ m * val (lowD d) := by
    intro m h
    have h1 : (10 : Int) ^ 15 ≤ 10 ^ (m + (d.length - 1)) := p10_mono (by omega)
    have h2 : (10 : Int) ^ (m + (d.length - 1)) ≤ 10 ^ m * val (lowD d) := by
      rw [Int.pow_add]
      exact Int.mul_le_mul_of_nonneg_left b1 (Int.le_of_lt (p10_pos m))
    omega
  unfold heldK5
  by_cases h0 : 0 ≤ sc
  · obtain ⟨k, rfl⟩ : ∃ k : Nat, sc = k := ⟨sc.toNat, by omega⟩
    have hk : ((k : Int) + (z : Int)) = ((k + z : Nat) : Int) := by omega
    rw [if_neg (by omega), heldC, if_pos (by omega), hk, Int.toNat_natCast, makeC_pow, heldK]
    by_cases hb : d.length > 15 ∨ (k : Int) < 0 ∨ (k : Int) > 9
    · rw [if_pos hb, makeC_far hm]
      rcases hb with h | h | h
      · left; have := big 0 (by omega); simpa using this
      · omega
      · right; omega
    · rw [if_neg hb, Int.toNat_natCast]
  · obtain ⟨m, rfl⟩ : ∃ m : Nat, sc = -(m : Int) := ⟨(-sc).toNat, by omega⟩
    have hr : heldC (10 ^ z * val (lowD d)) (-(m : Int) + (z : Int)) = makeC (10 ^ m * val (lowD d)) 0 := by
      unfold heldC
      by_cases hz : m ≤ z
      · have e1 : (-(m : Int) + (z : Int)).toNat = 0 + (z - m) := by omega
        have e2 : (10 : Int) ^ z * val (lowD d) = 10 ^ (z - m) * (10 ^ m * val (lowD d)) := by
          rw [← Int.mul_assoc, ← Int.pow_add, show z - m + m = z by omega]
        rw [if_pos (by omega), e1, e2, makeC_pow]
      · have e1 : (-(-(m : Int) + (z : Int))).toNat = m - z := by omega
        have e2 : (10 : Int) ^ z * val (lowD d) * 10 ^ (m - z) = 10 ^ m * val (lowD d) := by
          rw [Int.mul_comm (10 ^ z), Int.mul_assoc, ← Int.pow_add, show z + (m - z) = m by omega, Int.mul_comm]
        rw [if_neg (by omega), e1, e2]
    rw [hr]
    have e3 : (-(-(m : Int))).toNat = m := by omega
    by_cases h40 : m < 40
    · have hv : val (lowD (d ++ List.replicate m 48)) = 10 ^ m * val (lowD d) := by rw [lowD_app, lowD_zeros, val_zeros]
      rw [if_pos (by omega), e3, heldK, hv]
      have hll : (d ++ List.replicate m 48).length = d.length + m := by simp
      rw [hll]
      by_cases hb : d.length + m > 15
      · rw [if_pos (.inl hb), makeC_big (big m hb)]
      · rw [if_neg (by omega)]; rfl
    · rw [if_neg (by omega), heldK, if_pos (.inr (.inl (by omega))), makeC_big (big m (by omega))]

theorem noughts_bt (n : Nat) : noughts n = bt (List.replicate n 48) := rfl
set_option maxHeartbeats 1000000 in
theorem held_k5 (d : List UInt8) (hd : DgL d) (hl : d.length ≤ 100000) (sc : Int) (hs : -3000000 ≤ sc ∧ sc ≤ 3000000) :
    V (F tab) (r45_K5 ()) (r45_J5 (.d (.str (bt d))) (.d (iv sc)) (.ibox [.d (iv 0), .d (iv 0)]) []) = some (.ret, r45_R (.ibox [.d (iv (heldK5 d sc).1), .d (iv (heldK5 d sc).2.1)]) (.d (iv (heldK5 d sc).2.2)) []) := by
  unfold heldK5
  by_cases h0 : sc < 0
  · have k1 : (sc < 0) = True := eq_true h0
    by_cases h40 : sc > -40
    · have k2 : (sc > -40) = True := eq_true h40
      obtain ⟨m, rfl⟩ : ∃ m : Nat, sc = -(m : Int) := ⟨(-sc).toNat, by omega⟩
      have e3 : (-(-(m : Int))).toNat = m := by omega
      have e4 : 0 - (-(m : Int)) = (m : Int) := by omega
      have hr := rep_ok m (by omega) []
      rw [noughts_bt] at hr
      have ha := str_add d (List.replicate m 48) (by rw [List.length_replicate]; omega)
      have ht := held_tail (d ++ List.replicate m 48) (hd.app fun b hb => by obtain ⟨_, rfl⟩ := List.mem_replicate.1 hb; decide) (by rw [List.length_append, List.length_replicate]; omega) 0
      rw [if_pos ⟨h0, h40⟩, e3]
      simp (disch := omega) only [go_sem, r45_K5, k1, k2, e4, hr, ha, w64]
      exact ht
    · have k2 : (sc > -40) = False := eq_false h40
      rw [if_neg (by omega)]
      have ht := held_tail d hd (by omega) sc
      simp (disch := omega) only [go_sem, r45_K5, k1, k2]
      exact ht
  · have k1 : (sc < 0) = False := eq_false h0
    rw [if_neg (by omega)]
    have ht := held_tail d hd (by omega) sc
    simp (disch := omega) only [go_sem, r45_K5, k1]
    exact ht

theorem dw_head {p : UInt8 → Bool} : ∀ {l : List UInt8} {c : UInt8} {t : List UInt8}, l.dropWhile p = c :: t → p c = false
  | [], c, t, h => by simp at h
  | a :: l, c, t, h => by
    rw [List.dropWhile_cons] at h
    by_cases ha : p a = true
    · rw [if_pos ha] at h
      exact dw_head h
    · rw [if_neg ha] at h
      simp only [List.cons.injEq] at h
      rw [← h.1]; simpa using ha
theorem dw0_le : ∀ l : List UInt8, (l.dropWhile is0).length ≤ l.length := fun l => (List.dropWhile_sublist _).length_le

set_option maxHeartbeats 1000000 in
theorem held_ok (d : List UInt8) (hd : DgL d) (hl : d.length ≤ 100000) (sc : Int) (hs : -2000000 ≤ sc ∧ sc ≤ 2000000) (hp : List Ent) :
    F tab 45 [.d (.str (bt d)), .d (iv sc)] hp = some (.ret (tupC (heldC (val (lowD d)) sc)) hp) := by
  have htl := trimLeft_ok d hl []
  have hu := dw0_le d
  have hL := hs_loop (d.dropWhile is0).reverse sc (by rw [List.length_reverse]; omega) (by rw [List.length_reverse]; omega)
  have hdu := hd.drop0
  have hv := lowD_drop d
  have hhd : ∀ c t, d.dropWhile is0 = c :: t → is0 c = false := fun c t h => dw_head h
  obtain ⟨z, z1, z2⟩ := rev_zeros (d.dropWhile is0).reverse
  unfold HsIs at hL
  rw [List.reverse_reverse] at hL
  rw [← hv]
  generalize d.dropWhile is0 = u at *
  have hv2 : val (lowD u) = 10 ^ z * val ((u.reverse.dropWhile is0).map dgI) := z2
  rw [hv2]
  have e1 : sc - ((u.reverse.length : Int) - ((u.reverse.dropWhile is0).length : Int)) = sc - z := by omega
  rw [e1] at hL
  have hr' := dw0_le u.reverse
  have hsf : u.reverse.dropWhile is0 <:+ u.reverse := List.dropWhile_suffix _
  have hdr : DgL (u.reverse.dropWhile is0) := fun b hb => hdu b (List.mem_reverse.1 (hsf.sublist.mem hb))
  have hhr : ∀ c t, u.reverse.dropWhile is0 = c :: t → is0 c = false := fun c t h => dw_head h
  rw [List.length_reverse] at hr' z1
  generalize u.reverse.dropWhile is0 = r at *
  have hn := bt_nil r.reverse
  refine f45 rfl ?_
  simp (disch := omega) only [go_sem, r45_T, r45, htl]
  rw [r45_B0_n]
  erw [hL]
  by_cases h0 : r = []
  · subst h0
    have e2 : heldC (10 ^ z * val (([] : List UInt8).map dgI)) sc = (0, 0, 0) := by
      have v0 : val (([] : List UInt8).map dgI) = 0 := rfl
      rw [v0, Int.mul_zero]
      unfold heldC
      split
      · exact makeC_zero _
      · rw [Int.zero_mul]; exact makeC_zero _
    rw [e2]
    simp (disch := omega) only [go_sem, strD, r45_K6, hn, List.reverse_nil, List.isEmpty_nil, tupC]
  · have hf : r.reverse.isEmpty = false := by simpa using h0
    rw [hf] at hn
    have hlr : lowD r.reverse = r.map dgI := by simp [lowD]
    have hk := held_k5 r.reverse (hdr.rev) (by rw [List.length_reverse]; omega) (sc - z) (by omega)
    have hm : (val (lowD r.reverse)).tmod 10 ≠ 0 := by
      rw [hlr]
      obtain ⟨c, t, rfl⟩ := List.exists_cons_of_ne_nil h0
      have hc := hhr c t rfl
      have hc1 := isDg_iff.1 (hdr c (by simp))
      have hc2 : c.toNat ≠ 48 := by simpa [is0] using hc
      have e : val ((c :: t).map dgI) = dgI c + 10 * val (t.map dgI) := rfl
      have hvt : 0 ≤ val (t.map dgI) := (val_bound (l := t.map dgI) (fun d hd => by
        obtain ⟨b, hb, rfl⟩ := List.mem_map.1 hd
        have := isDg_iff.1 (hdr b (by simp [hb]))
        unfold digit dgI; omega)).1
      have hdc : dgI c = (c.toNat : Int) - 48 := rfl
      rw [e, Int.tmod_eq_emod_of_nonneg (by omega)]
      omega
    have htop : Top (lowD r.reverse) := by
      refine ⟨lowD_digs hdr.rev, ?_⟩
      intro x hx
      rw [hlr] at hx
      obtain ⟨q, hq⟩ := hsf
      rw [List.getLast?_map, Option.map_eq_some_iff] at hx
      obtain ⟨b, hb, rfl⟩ := hx
      have hb2 : u.reverse.getLast? = some b := by
        rw [← hq, List.getLast?_append, hb]; rfl
      rw [List.getLast?_reverse] at hb2
      obtain ⟨t, rfl⟩ : ∃ t, u = b :: t := by
        cases u with
        | nil => simp at hb2
        | cons a t => simp at hb2; exact ⟨t, by rw [hb2]⟩
      have h1 := hhd b t rfl
      have h2 : b.toNat ≠ 48 := by simpa [is0] using h1
      have h3 := isDg_iff.1 (hdu b (by simp))
      unfold dgI
      omega
    have hmath := held_math r.reverse z (sc - z) htop (by simpa using h0) hm
    rw [hlr, show sc - (z : Int) + (z : Int) = sc by omega] at hmath
    rw [← hmath]
    simp (disch := omega) only [go_sem, strD, r45_K6, hn]
    erw [hk]
    simp (disch := omega) only [go_sem, tupC]
end Go.Pe.T

namespace Go.Pe.T
def isNeg : List UInt8 → Bool
  | c :: _ => c.toNat == 45
  | [] => false
def absT : List UInt8 → List UInt8
  | c :: r => if c.toNat == 45 then r else c :: r
  | [] => []
theorem bt_one (c : UInt8) : ((bt [c]).toList == (⟨#[45]⟩ : ByteArray).toList) = (c.toNat == 45) := by
  rw [ByteArray.toList_eq, ByteArray.toList_eq]
  show ([c] == [45]) = _
  by_cases h : c = 45
  · subst h; rfl
  · have : c.toNat ≠ 45 := fun e => h (UInt8.toNat_inj.1 e)
    have e2 : (c.toNat == 45) = false := by simpa using this
    rw [e2]
    simp [h]
theorem hasPre_ok (L : List UInt8) (hp : List Ent) : F tab 58 [.d (.str (bt L)), .d (.str ⟨#[45]⟩)] hp = some (.ret (.d (.bool (isNeg L))) hp) := by
  have e2 : (⟨#[45]⟩ : ByteArray).size = 1 := rfl
  refine f58 rfl ?_
  cases L with
  | nil =>
    have hs := bt_size []
    have k : (((0 : Nat) : Int) ≥ ((1 : Nat) : Int)) = False := eq_false (by omega)
    have k2 : ((0 : Int) ≥ ((1 : Nat) : Int)) = False := eq_false (by omega)
    simp (disch := omega) only [go_sem, strD, r58_T, r58, hs, e2, k, k2, isNeg]
  | cons c r =>
    have hs := bt_size (c :: r)
    have k : (((r.length + 1 : Nat) : Int) ≥ ((1 : Nat) : Int)) = True := eq_true (by omega)
    have k1 : (((1 : Nat) : Int) ≤ ((r.length + 1 : Nat) : Int)) = True := eq_true (by omega)
    have i0 : (0 ≤ (0 : Int)) = True := eq_true (by omega)
    have k2 : (0 ≤ ((1 : Nat) : Int)) = True := eq_true (by omega)
    have t0 : (0 : Int).toNat = 0 := rfl
    have hx : (bt (c :: r)).extract 0 1 = bt [c] := bt_ext (c :: r) 0 1
    have h1 := bt_one c
    rw [List.length_cons] at hs
    simp (disch := omega) only [go_sem, strD, r58_T, r58, hs, e2, k, k1, k2, i0, t0, hx, h1, isNeg, decide_true]
theorem trimPre_ok (L : List UInt8) (hp : List Ent) : F tab 49 [.d (.str (bt L)), .d (.str ⟨#[45]⟩)] hp = some (.ret (.d (.str (bt (absT L)))) hp) := by
  have hh := hasPre_ok L []
  have e2 : (⟨#[45]⟩ : ByteArray).size = 1 := rfl
  refine f49 rfl ?_
  cases L with
  | nil =>
    rw [show isNeg [] = false from rfl] at hh
    simp (disch := omega) only [go_sem, strD, r49_T, r49, hh, absT]
  | cons c r =>
    have hs := bt_size (c :: r)
    have hct := bt_cut1 c r
    have b0 : (0 ≤ ((1 : Nat) : Int)) = True := eq_true (by omega)
    have b3 : (((1 : Nat) : Int) ≤ ((r.length + 1 : Nat) : Int)) = True := eq_true (by omega)
    have b4 : (((r.length + 1 : Nat) : Int) ≤ ((r.length + 1 : Nat) : Int)) = True := eq_true (by omega)
    rw [List.length_cons] at hs
    rcases Bool.eq_false_or_eq_true (c.toNat == 45) with g | g
    · rw [show isNeg (c :: r) = true from g] at hh
      rw [absT, g, if_pos rfl]
      simp (disch := omega) only [go_sem, strD, r49_T, r49, hh, hs, hct, e2, b0, b3, b4, decide_true]
    · rw [show isNeg (c :: r) = false from g] at hh
      rw [absT, g, if_neg (by simp)]
      simp (disch := omega) only [go_sem, strD, r49_T, r49, hh]
theorem tp_ok (L : List UInt8) (hp : List Ent) : F tab 43 [.d (.str (bt L)), .d (.str ⟨#[45]⟩)] hp = some (.ret (.d (.str (bt (absT L)))) hp) := by
  have hh := trimPre_ok L []
  refine f43 rfl ?_
  simp (disch := omega) only [go_sem, strD, r43_T, r43, hh]

theorem powP_bound (L : List UInt8) : -1000000 ≤ (powP L).1 ∧ (powP L).1 ≤ 1000000 := by
  cases L with
  | nil => simp [powP]
  | cons c r =>
    rw [powP]
    split
    · have := capN_le ((sgnP r).2.takeWhile isDg) 0 (by omega)
      rcases sgnP_one r with h | h
      · rw [h]; constructor <;> simp only <;> omega
      · rw [h]; constructor <;> simp only <;> omega
    · simp
theorem noP_props {n : Nat} : DgL noP.1 ∧ DgL noP.2.1 ∧ noP.1.length ≤ n ∧ noP.2.1.length ≤ n ∧ -1000000 ≤ noP.2.2.1 ∧ noP.2.2.1 ≤ 1000000 := by
  refine ⟨fun b hb => ?_, fun b hb => ?_, Nat.zero_le _, Nat.zero_le _, ?_, ?_⟩
  · simp [noP] at hb
  · simp [noP] at hb
  · decide
  · decide
theorem partsP_props (L : List UInt8) : DgL (partsP L).1 ∧ DgL (partsP L).2.1 ∧ (partsP L).1.length ≤ L.length ∧ (partsP L).2.1.length ≤ L.length ∧ -1000000 ≤ (partsP L).2.2.1 ∧ (partsP L).2.2.1 ≤ 1000000 := by
  unfold partsP
  have hA := tw_dgl L
  have hl := tw_le L
  have hd := dw_le L
  split
  · exact noP_props
  · generalize L.takeWhile isDg = A at *
    generalize L.dropWhile isDg = R at *
    have hn : DgL [] := fun b hb => by simp at hb
    cases R with
    | nil => exact ⟨hA, hn, hl, Nat.zero_le _, (powP_bound []).1, (powP_bound []).2⟩
    | cons c r =>
      rw [fracP]
      split
      · split
        · exact noP_props
        · have h2 := tw_le r
          simp only [List.length_cons] at hd
          exact ⟨hA, tw_dgl r, hl, by simp only [finP]; omega, (powP_bound _).1, (powP_bound _).2⟩
      · exact ⟨hA, hn, hl, Nat.zero_le _, (powP_bound _).1, (powP_bound _).2⟩
theorem makeC_bound (c : Int) (k : Nat) : -1000000000000000 < (makeC c k).1 ∧ (makeC c k).1 < 1000000000000000 := by
  unfold makeC
  rcases Bool.eq_false_or_eq_true (makeOk c k) with g | g
  · rw [g]
    unfold makeOk at g
    obtain ⟨_, _, _, h⟩ := numIs_inv g
    exact h
  · rw [g]
    simp
theorem heldC_bound (V sc : Int) : -1000000000000000 < (heldC V sc).1 ∧ (heldC V sc).1 < 1000000000000000 := by
  unfold heldC
  split
  · exact makeC_bound _ _
  · exact makeC_bound _ _

def parseC (L : List UInt8) : Int × Int × Int :=
  if (partsP (absT L)).2.2.2 then
    (if isNeg L then -(heldC (val (lowD ((partsP (absT L)).1 ++ (partsP (absT L)).2.1))) (((partsP (absT L)).2.1.length : Int) - (partsP (absT L)).2.2.1)).1 else (heldC (val (lowD ((partsP (absT L)).1 ++ (partsP (absT L)).2.1))) (((partsP (absT L)).2.1.length : Int) - (partsP (absT L)).2.2.1)).1,
      (heldC (val (lowD ((partsP (absT L)).1 ++ (partsP (absT L)).2.1))) (((partsP (absT L)).2.1.length : Int) - (partsP (absT L)).2.2.1)).2)
  else (0, 0, 3)
theorem abs_len (L : List UInt8) : (absT L).length = L.length - (if isNeg L then 1 else 0) ∧ (isNeg L = true → 0 < L.length) := by
  cases L with
  | nil => simp [absT, isNeg]
  | cons c r =>
    rcases Bool.eq_false_or_eq_true (c.toNat == 45) with g | g
    · rw [absT, isNeg, g]; simp
    · rw [absT, isNeg, g]; simp

set_option maxHeartbeats 1000000 in
theorem parse_ok (L : List UInt8) (hl : L.length ≤ 10000) (hp : List Ent) : F tab 36 [.d (.str (bt L))] hp = some (.ret (tupC (parseC L)) hp) := by
  have ht := tp_ok L []
  obtain ⟨al, al2⟩ := abs_len L
  have hpt := parts_ok (absT L) (by omega) []
  obtain ⟨p1, p2, p3, p4, p5, p6⟩ := partsP_props (absT L)
  have hs1 := bt_size (absT L)
  have hs2 := bt_size L
  unfold parseC
  generalize absT L = T at *
  generalize partsP T = p at *
  obtain ⟨A, B, e, ok⟩ := p
  simp only at *
  refine f36 rfl ?_
  rcases Bool.eq_false_or_eq_true ok with g | g
  · subst g
    rw [if_pos rfl]
    have ha := str_add A B (by omega)
    have hsB := bt_size B
    have hh := held_ok (A ++ B) (p1.app p2) (by rw [List.length_append]; omega) ((B.length : Int) - e) (by omega) []
    have hb := heldC_bound (val (lowD (A ++ B))) ((B.length : Int) - e)
    generalize heldC (val (lowD (A ++ B))) ((B.length : Int) - e) = h at *
    obtain ⟨x, y, er⟩ := h
    simp only [tupC] at hh hb ⊢
    rcases Bool.eq_false_or_eq_true (isNeg L) with n | n
    · rw [n] at al al2 ⊢
      have := al2 rfl
      have k : ((T.length : Int) < (L.length : Int)) = True := eq_true (by simp only [if_true] at al; omega)
      simp only [if_true]
      have e0 : 0 - x = -x := by omega
      simp (disch := omega) only [go_sem, r36_T, r36, r36_K1, ht, hpt, ha, hsB, hs1, hs2, hh, k, e0, w64]
    · rw [n] at al ⊢
      have k : ((T.length : Int) < (L.length : Int)) = False := eq_false (by simp only [Bool.false_eq_true, if_false] at al; omega)
      simp only [Bool.false_eq_true, if_false]
      simp (disch := omega) only [go_sem, r36_T, r36, r36_K1, ht, hpt, ha, hsB, hs1, hs2, hh, k, w64]
  · subst g
    rw [if_neg (by simp)]
    simp (disch := omega) only [go_sem, r36_T, r36, r36_K1, ht, hpt, tupC]
end Go.Pe.T

namespace Go.Pe.T
def lowB (c : Int) : Bool := decide (c ≥ 97) && decide (c ≤ 122)
def upB (c : Int) : Bool := decide (c ≥ 65) && decide (c ≤ 90)
def digB (c : Int) : Bool := decide (c ≥ 48) && decide (c ≤ 57)
def letB (c : Int) : Bool := lowB c || (upB c || c == 95)

theorem letter_ok (c : Int) (hp : List Ent) : F tab 20 [.d (.int .u8 c)] hp = some (.ret (.d (.bool (letB c))) hp) := by
  refine f20 rfl ?_
  unfold letB lowB upB
  by_cases g1 : c ≥ 97 <;> by_cases g2 : c ≤ 122 <;> by_cases g3 : c ≥ 65 <;> by_cases g4 : c ≤ 90 <;>
    simp (disch := omega) only [go_sem, r20_T, r20, g1, g2, g3, g4, decide_true, decide_false, Bool.true_and, Bool.false_and, Bool.true_or, Bool.false_or, Bool.and_true, Bool.and_false]
theorem rletter_ok (c : Int) (hp : List Ent) : F tab 12 [.d (.int .u8 c)] hp = some (.ret (.d (.bool (letB c))) hp) := by
  refine f12 rfl ?_
  unfold letB lowB upB
  by_cases g1 : c ≥ 97 <;> by_cases g2 : c ≤ 122 <;> by_cases g3 : c ≥ 65 <;> by_cases g4 : c ≤ 90 <;>
    simp (disch := omega) only [go_sem, r12_T, r12, g1, g2, g3, g4, decide_true, decide_false, Bool.true_and, Bool.false_and, Bool.true_or, Bool.false_or, Bool.and_true, Bool.and_false]
theorem digit_ok (c : Int) (hp : List Ent) : F tab 23 [.d (.int .u8 c)] hp = some (.ret (.d (.bool (digB c))) hp) := by
  refine f23 rfl ?_
  unfold digB
  by_cases g1 : c ≥ 48 <;> by_cases g2 : c ≤ 57 <;>
    simp (disch := omega) only [go_sem, r23_T, r23, g1, g2, decide_true, decide_false, Bool.true_and, Bool.false_and]
theorem rdigit_ok (c : Int) (hp : List Ent) : F tab 14 [.d (.int .u8 c)] hp = some (.ret (.d (.bool (digB c))) hp) := by
  refine f14 rfl ?_
  unfold digB
  by_cases g1 : c ≥ 48 <;> by_cases g2 : c ≤ 57 <;>
    simp (disch := omega) only [go_sem, r14_T, r14, g1, g2, decide_true, decide_false, Bool.true_and, Bool.false_and]

def bs (s : ByteArray) : List UInt8 := s.data.toList
theorem bs_len (s : ByteArray) : (bs s).length = s.size := rfl
theorem bs_toList (s : ByteArray) : s.toList = bs s := ByteArray.toList_eq s
theorem bs_get {s : ByteArray} {i : Nat} (h : i < s.size) : s[i]? = some s[i] ∧ (bs s).drop i = s[i] :: (bs s).drop (i + 1) := by
  have e : s[i] = s.data.toList[i]'h := rfl
  refine ⟨getElem?_pos s i h, ?_⟩
  unfold bs
  rw [e]; exact List.drop_eq_getElem_cons h
theorem bs_end {s : ByteArray} {i : Nat} (h : s.size ≤ i) : (bs s).drop i = [] := List.drop_of_length_le h

theorem isEb (s : ByteArray) : (s.toList == (⟨#[]⟩ : ByteArray).toList) = !decide (s.size ≠ 0) := by
  have e0 : bs (⟨#[]⟩ : ByteArray) = [] := rfl
  rw [bs_toList, bs_toList, e0]
  have h := bs_len s
  cases hb : bs s with
  | nil => rw [hb] at h; simp only [List.length_nil] at h; simp [← h]
  | cons a l => rw [hb] at h; simp only [List.length_cons] at h; simp [← h]
end Go.Pe.T

namespace Go.Pe.T

def okI (i : Nat) (c : UInt8) : Bool := letB c.toNat || (decide (i > 0) && digB c.toNat)
def runL : Nat → List UInt8 → Nat
  | _, [] => 0
  | i, c :: r => if okI i c then runL (i + 1) r + 1 else 0
theorem runL_le : ∀ (l : List UInt8) (i : Nat), runL i l ≤ l.length
  | [], i => Nat.le_refl _
  | c :: r, i => by
    have := runL_le r (i + 1)
    simp only [runL, List.length_cons]
    split <;> omega
def WdLoop (s : ByteArray) (i : Nat) : Prop :=
  V (F tab) r22_B0 (r22_S0 (.d (.str s)) (.d (iv i)) []) = some (.norm, r22_E0 (.d (.str s)) (.d (iv (i + runL i ((bs s).drop i) : Nat))) [])
theorem wd_end (s : ByteArray) (i : Nat) (hi : s.size ≤ i) : WdLoop s i := by
  have h1 : ((i : Int) < (s.size : Int)) = False := eq_false (by omega)
  unfold WdLoop
  rw [r22_B0_eq, bs_end hi]
  simp (disch := omega) only [go_sem, r22_C0, h1, runL, Nat.add_zero]
theorem wd_step (s : ByteArray) (hs : s.size ≤ maxLen) (i : Nat) (hi : i < s.size) (ih : WdLoop s (i + 1)) : WdLoop s i := by
  have hmx : maxLen = 9223372036854775807 := by decide
  have h1 : ((i : Int) < (s.size : Int)) = True := eq_true (by omega)
  have hi0 : (0 ≤ (i : Int)) = True := eq_true (by omega)
  obtain ⟨va, vd⟩ := bs_get hi
  have hl := letter_ok s[i].toNat
  have hd := digit_ok s[i].toNat
  unfold WdLoop at ih ⊢
  have e1 : ((i + 1 : Nat) : Int) = (i : Int) + 1 := rfl
  have e0 : decide ((i : Int) > 0) = decide (i > 0) := by by_cases h : i = 0 <;> simp [h] <;> omega
  rw [r22_B0_eq, vd]
  simp only [runL, okI]
  rcases Bool.eq_false_or_eq_true (letB s[i].toNat) with g1 | g1
  · rw [g1] at hl
    have e2 : i + (runL (i + 1) ((bs s).drop (i + 1)) + 1) = i + 1 + runL (i + 1) ((bs s).drop (i + 1)) := by omega
    simp (disch := omega) only [go_sem, r22_C0, h1, hi0, va, w64, hl, g1, Bool.true_or, e2]
    rw [e1] at ih
    exact ih
  · rw [g1] at hl
    rcases Bool.eq_false_or_eq_true (decide (i > 0)) with g2 | g2
    · rcases Bool.eq_false_or_eq_true (digB s[i].toNat) with g3 | g3
      · rw [g3] at hd
        have e2 : i + (runL (i + 1) ((bs s).drop (i + 1)) + 1) = i + 1 + runL (i + 1) ((bs s).drop (i + 1)) := by omega
        simp (disch := omega) only [go_sem, r22_C0, h1, hi0, va, w64, hl, hd, g1, g2, g3, e0, Bool.false_or, Bool.true_and, e2]
        rw [e1] at ih
        exact ih
      · rw [g3] at hd
        simp (disch := omega) only [go_sem, r22_C0, h1, hi0, va, w64, hl, hd, g1, g2, g3, e0, Bool.false_or, Bool.true_and, Nat.add_zero]
    · simp (disch := omega) only [go_sem, r22_C0, h1, hi0, va, w64, hl, g1, g2, e0, Bool.false_or, Bool.false_and, Nat.add_zero]
theorem wd_loop (s : ByteArray) (hs : s.size ≤ maxLen) : ∀ (j i : Nat), i + j = s.size → WdLoop s i
  | 0, i, hi => wd_end s i (by omega)
  | j + 1, i, hi => wd_step s hs i (by omega) (wd_loop s hs j (i + 1) (by omega))
theorem word_ok (s : ByteArray) (hs : s.size ≤ maxLen) (hp : List Ent) : F tab 22 [.d (.str s)] hp = some (.ret (.d (.str (s.extract 0 (runL 0 (bs s))))) hp) := by
  have hL := wd_loop s hs s.size 0 (by omega)
  unfold WdLoop at hL
  rw [List.drop_zero, Nat.zero_add] at hL
  have hle := runL_le (bs s) 0
  rw [bs_len] at hle
  have h1 : ((runL 0 (bs s) : Int) ≤ (s.size : Int)) = True := eq_true (by omega)
  refine f22 rfl ?_
  simp (disch := omega) only [go_sem, r22_T, r22]
  rw [r22_B0_n]
  erw [hL]
  have h0 : (0 ≤ (runL 0 (bs s) : Int)) = True := eq_true (by omega)
  simp (disch := omega) only [go_sem, h0, h1, decide_true]
end Go.Pe.T
