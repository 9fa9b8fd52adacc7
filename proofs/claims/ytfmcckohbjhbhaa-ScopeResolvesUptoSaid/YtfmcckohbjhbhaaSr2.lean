/- A part of the proof of: Any program, resolved, or the first name in it that leads nowhere, is what the document says, where what comes in has at most 1048576 values and letters. -/
import Derived.Test.YtfmcckohbjhbhaaSr1
import Derived.Test.YtfmcckohbjhbhaaPe3
import Derived.KernelRfl
set_option linter.unusedSimpArgs false
set_option maxRecDepth 10000
set_option linter.unusedVariables false

namespace Go.Pe.T
@[go_sem] def r40_K0 (_ : Unit) : RCode := .seq (.seq (.reg [⟨some 71,none,.fad 3 (.t 1)⟩,⟨some 72,none,.ld false none (.t 71)⟩,⟨some 73,none,.bin .lss (.t 72) (.c (.d (.int .i64 0)))⟩,⟨some 74,none,.mv false (.t 73)⟩,⟨some 75,some (74,false),.fad 3 (.t 1)⟩,⟨some 76,some (74,false),.ld false none (.t 75)⟩,⟨some 77,some (74,false),.bin .gtr (.t 76) (.c (.d (.int .i64 4)))⟩,⟨some 78,none,.pick (.t 74) (.c (.d (.bool true))) (.t 77)⟩,⟨some 79,none,.mv false (.t 78)⟩,⟨some 80,some (79,false),.fad 3 (.t 1)⟩,⟨some 81,some (79,false),.ld false none (.t 80)⟩,⟨some 82,some (79,false),.bin .neq (.t 81) (.c (.d (.int .i64 3)))⟩,⟨some 83,some (79,false),.mv false (.t 82)⟩,⟨some 84,some (83,true),.fad 4 (.t 1)⟩,⟨some 85,some (83,true),.fad 0 (.t 84)⟩,⟨some 86,some (83,true),.ld false none (.t 85)⟩,⟨some 87,some (83,true),.bin .neq (.t 86) (.c (.d (.int .i64 0)))⟩,⟨some 88,some (83,true),.mv false (.t 87)⟩,⟨some 89,some (88,false),.fad 4 (.t 1)⟩,⟨some 90,some (88,false),.fad 1 (.t 89)⟩,⟨some 91,some (88,false),.ld false none (.t 90)⟩,⟨some 92,some (88,false),.bin .neq (.t 91) (.c (.d (.int .i64 0)))⟩,⟨some 93,some (83,true),.pick (.t 88) (.c (.d (.bool true))) (.t 92)⟩,⟨some 94,some (79,false),.pick (.t 83) (.t 93) (.c (.d (.bool false)))⟩,⟨some 95,none,.pick (.t 79) (.c (.d (.bool true))) (.t 94)⟩,⟨some 96,none,.mv false (.t 95)⟩,⟨some 97,some (96,false),.fad 3 (.t 1)⟩,⟨some 98,some (96,false),.ld false none (.t 97)⟩,⟨some 99,some (96,false),.bin .neq (.t 98) (.c (.d (.int .i64 4)))⟩,⟨some 100,some (96,false),.mv false (.t 99)⟩,⟨some 101,some (100,true),.fad 1 (.t 1)⟩,⟨some 102,some (100,true),.ld false none (.t 101)⟩,⟨some 103,some (100,true),.bin .neq (.t 102) (.c (.d (.str ⟨#[]⟩)))⟩,⟨some 104,some (96,false),.pick (.t 100) (.t 103) (.c (.d (.bool false)))⟩,⟨some 105,none,.pick (.t 96) (.c (.d (.bool true))) (.t 104)⟩] [71,75,80,84,85,89,90,97,101] false) (.cond (.t 105) (.seq (.reg [⟨some 2,none,.mv false (.c (.d (.bool false)))⟩] [] false) (.ret [.kill,.kill,.keep])) (.skip))) (.seq (.reg [⟨some 106,none,.fad 4 (.t 1)⟩,⟨some 107,none,.ld false (some 2) (.t 106)⟩,⟨some 108,none,.call false (.f 67) [(.t 107)]⟩,⟨some 109,none,.mv false (.t 108)⟩,⟨some 110,some (109,true),.fad 1 (.t 1)⟩,⟨some 111,some (109,true),.ld false none (.t 110)⟩,⟨some 112,some (109,true),.call false (.f 68) [(.t 111)]⟩,⟨some 113,none,.pick (.t 109) (.t 112) (.c (.d (.bool false)))⟩,⟨some 2,none,.mv false (.t 113)⟩] [106,110] false) (.ret [.kill,.kill,.keep]))
@[go_sem] def r40_K1 (_ : Unit) : RCode := .seq (.reg [⟨some 118,none,.bin .eql (.t 68) (.c (.d (.int .i64 16)))⟩,⟨some 114,none,.mv false (.t 118)⟩] [] false) (.cond (.t 114) (.skip) (.seq (.reg [⟨some 119,none,.bin .eql (.t 68) (.c (.d (.int .i64 17)))⟩,⟨some 114,none,.mv false (.t 119)⟩] [] false) (.cond (.t 114) (.skip) (.seq (.reg [⟨some 120,none,.bin .eql (.t 68) (.c (.d (.int .i64 18)))⟩,⟨some 114,none,.mv false (.t 120)⟩] [] false) (.cond (.t 114) (.skip) (.reg [⟨some 121,none,.bin .eql (.t 68) (.c (.d (.int .i64 19)))⟩,⟨some 114,none,.mv false (.t 121)⟩] [] false))))))
@[go_sem] def r40_K2 (_ : Unit) : RCode := .seq (.block 2 [.kill,.keep,.kill,.kill,.kill,.keep] (.seq (.reg [⟨some 158,none,.fad 6 (.t 1)⟩,⟨some 159,none,.ld false none (.t 158)⟩,⟨some 160,none,.mv false (.t 5)⟩,⟨some 161,none,.iad none 1 (.t 159) (.t 160)⟩,⟨some 162,none,.ld false none (.t 161)⟩,⟨some 163,none,.call false (.f 68) [(.t 162)]⟩,⟨some 164,none,.un .not (.t 163)⟩,⟨some 165,none,.mv false (.t 164)⟩,⟨some 166,some (165,false),.fad 6 (.t 1)⟩,⟨some 167,some (165,false),.ld false none (.t 166)⟩,⟨some 168,some (165,false),.mv false (.t 5)⟩,⟨some 169,some (165,false),.slc (some 1) (.t 167) none (some (.t 168)) none⟩,⟨some 170,some (165,false),.fad 6 (.t 1)⟩,⟨some 171,some (165,false),.ld false none (.t 170)⟩,⟨some 172,some (165,false),.mv false (.t 5)⟩,⟨some 173,some (165,false),.iad none 1 (.t 171) (.t 172)⟩,⟨some 174,some (165,false),.ld false none (.t 173)⟩,⟨some 175,some (165,false),.call false (.f 69) [(.t 169),(.t 174)]⟩,⟨some 176,none,.pick (.t 165) (.c (.d (.bool true))) (.t 175)⟩] [158,161,166,170,173] true) (.cond (.t 176) (.seq (.reg [⟨some 2,none,.mv false (.c (.d (.bool false)))⟩] [] false) (.ret [.kill,.kill,.keep])) (.skip)))) (.reg [⟨some 156,none,.mv false (.t 5)⟩,⟨some 157,none,.bin .add (.t 156) (.c (.d (.int .i64 1)))⟩,⟨some 5,none,.mv false (.t 157)⟩] [] false)
def r40_C0 : RCode := .seq (.seq (.reg [⟨some 151,none,.mv false (.t 5)⟩,⟨some 152,none,.fad 6 (.t 1)⟩,⟨some 153,none,.ld false none (.t 152)⟩,⟨some 154,none,.len false (.t 153)⟩,⟨some 155,none,.bin .lss (.t 151) (.t 154)⟩] [152] false) (.cond (.t 155) (.skip) (.exit 1))) (hold r40_K2)
def r40_B0 : RCode := .block 1 [.kill,.keep] (.loop [.kill,.keep,.kill,.kill,.kill,.keep] r40_C0)
theorem r40_B0_eq {cf : CF} {s : St} : V cf r40_B0 s = loopK cf r40_B0 1 [.kill,.keep] [.kill,.keep,.kill,.kill,.kill,.keep] (V cf r40_C0 (s.head [.kill,.keep,.kill,.kill,.kill,.keep])) := V_bloop
abbrev r40_S0 (x1 x5 : PV) (hp : List Ent) : St := ⟨[.dead,x1,.dead,.dead,.dead,x5,.dead,.dead,.dead,.dead,.dead,.dead,.dead,.dead,.dead,.dead,.dead,.dead,.dead,.dead,.dead,.dead,.dead,.dead,.dead,.dead,.dead,.dead,.dead,.dead,.dead,.dead,.dead,.dead,.dead,.dead,.dead,.dead,.dead,.dead,.dead,.dead,.dead,.dead,.dead,.dead,.dead,.dead,.dead,.dead,.dead,.dead,.dead,.dead,.dead,.dead,.dead,.dead,.dead,.dead,.dead,.dead,.dead,.dead,.dead,.dead,.dead,.dead,.dead,.dead,.dead,.dead,.dead,.dead,.dead,.dead,.dead,.dead,.dead,.dead,.dead,.dead,.dead,.dead,.dead,.dead,.dead,.dead,.dead,.dead,.dead,.dead,.dead,.dead,.dead,.dead,.dead,.dead,.dead,.dead,.dead,.dead,.dead,.dead,.dead,.dead,.dead,.dead,.dead,.dead,.dead,.dead,.dead,.dead,.dead,.dead,.dead,.dead,.dead,.dead,.dead,.dead,.dead,.dead,.dead,.dead,.dead,.dead,.dead,.dead,.dead,.dead,.dead,.dead,.dead,.dead,.dead,.dead,.dead,.dead,.dead,.dead,.dead,.dead,.dead,.dead,.dead,.dead,.dead,.dead,.dead,.dead,.dead,.dead,.dead,.dead,.dead,.dead,.dead,.dead,.dead,.dead,.dead,.dead,.dead,.dead,.dead,.dead,.dead,.dead,.dead,.dead,.dead,.dead,.dead,.dead,.dead,.dead,.dead,.dead,.dead,.dead,.dead,.dead,.dead,.dead,.dead,.dead,.dead,.dead,.dead,.dead,.dead,.dead,.dead,.dead,.dead,.dead,.dead,.dead,.dead,.dead],hp⟩
abbrev r40_E0 (x1 : PV) (hp : List Ent) : St := ⟨[.dead,x1,.dead,.dead,.dead,.dead,.dead,.dead,.dead,.dead,.dead,.dead,.dead,.dead,.dead,.dead,.dead,.dead,.dead,.dead,.dead,.dead,.dead,.dead,.dead,.dead,.dead,.dead,.dead,.dead,.dead,.dead,.dead,.dead,.dead,.dead,.dead,.dead,.dead,.dead,.dead,.dead,.dead,.dead,.dead,.dead,.dead,.dead,.dead,.dead,.dead,.dead,.dead,.dead,.dead,.dead,.dead,.dead,.dead,.dead,.dead,.dead,.dead,.dead,.dead,.dead,.dead,.dead,.dead,.dead,.dead,.dead,.dead,.dead,.dead,.dead,.dead,.dead,.dead,.dead,.dead,.dead,.dead,.dead,.dead,.dead,.dead,.dead,.dead,.dead,.dead,.dead,.dead,.dead,.dead,.dead,.dead,.dead,.dead,.dead,.dead,.dead,.dead,.dead,.dead,.dead,.dead,.dead,.dead,.dead,.dead,.dead,.dead,.dead,.dead,.dead,.dead,.dead,.dead,.dead,.dead,.dead,.dead,.dead,.dead,.dead,.dead,.dead,.dead,.dead,.dead,.dead,.dead,.dead,.dead,.dead,.dead,.dead,.dead,.dead,.dead,.dead,.dead,.dead,.dead,.dead,.dead,.dead,.dead,.dead,.dead,.dead,.dead,.dead,.dead,.dead,.dead,.dead,.dead,.dead,.dead,.dead,.dead,.dead,.dead,.dead,.dead,.dead,.dead,.dead,.dead,.dead,.dead,.dead,.dead,.dead,.dead,.dead,.dead,.dead,.dead,.dead,.dead,.dead,.dead,.dead,.dead,.dead,.dead,.dead,.dead,.dead,.dead,.dead,.dead,.dead,.dead,.dead,.dead,.dead,.dead,.dead],hp⟩
theorem r40_B0_n {cf : CF} {a0 x1 a2 a3 a4 x5 a6 a7 a8 a9 a10 a11 a12 a13 a14 a15 a16 a17 a18 a19 a20 a21 a22 a23 a24 a25 a26 a27 a28 a29 a30 a31 a32 a33 a34 a35 a36 a37 a38 a39 a40 a41 a42 a43 a44 a45 a46 a47 a48 a49 a50 a51 a52 a53 a54 a55 a56 a57 a58 a59 a60 a61 a62 a63 a64 a65 a66 a67 a68 a69 a70 a71 a72 a73 a74 a75 a76 a77 a78 a79 a80 a81 a82 a83 a84 a85 a86 a87 a88 a89 a90 a91 a92 a93 a94 a95 a96 a97 a98 a99 a100 a101 a102 a103 a104 a105 a106 a107 a108 a109 a110 a111 a112 a113 a114 a115 a116 a117 a118 a119 a120 a121 a122 a123 a124 a125 a126 a127 a128 a129 a130 a131 a132 a133 a134 a135 a136 a137 a138 a139 a140 a141 a142 a143 a144 a145 a146 a147 a148 a149 a150 a151 a152 a153 a154 a155 a156 a157 a158 a159 a160 a161 a162 a163 a164 a165 a166 a167 a168 a169 a170 a171 a172 a173 a174 a175 a176 a177 a178 a179 a180 a181 a182 a183 a184 a185 a186 a187 a188 a189 a190 a191 a192 a193 a194 a195 a196 a197 a198 a199 a200 a201 : PV} {hp : List Ent} : V cf r40_B0 ⟨[a0,x1,a2,a3,a4,x5,a6,a7,a8,a9,a10,a11,a12,a13,a14,a15,a16,a17,a18,a19,a20,a21,a22,a23,a24,a25,a26,a27,a28,a29,a30,a31,a32,a33,a34,a35,a36,a37,a38,a39,a40,a41,a42,a43,a44,a45,a46,a47,a48,a49,a50,a51,a52,a53,a54,a55,a56,a57,a58,a59,a60,a61,a62,a63,a64,a65,a66,a67,a68,a69,a70,a71,a72,a73,a74,a75,a76,a77,a78,a79,a80,a81,a82,a83,a84,a85,a86,a87,a88,a89,a90,a91,a92,a93,a94,a95,a96,a97,a98,a99,a100,a101,a102,a103,a104,a105,a106,a107,a108,a109,a110,a111,a112,a113,a114,a115,a116,a117,a118,a119,a120,a121,a122,a123,a124,a125,a126,a127,a128,a129,a130,a131,a132,a133,a134,a135,a136,a137,a138,a139,a140,a141,a142,a143,a144,a145,a146,a147,a148,a149,a150,a151,a152,a153,a154,a155,a156,a157,a158,a159,a160,a161,a162,a163,a164,a165,a166,a167,a168,a169,a170,a171,a172,a173,a174,a175,a176,a177,a178,a179,a180,a181,a182,a183,a184,a185,a186,a187,a188,a189,a190,a191,a192,a193,a194,a195,a196,a197,a198,a199,a200,a201],hp⟩ = V cf r40_B0 (r40_S0 x1 x5 hp) := by rw [r40_B0_eq,r40_B0_eq]; rfl
@[go_sem] def r40_K3 (_ : Unit) : RCode := .seq (.seq (.reg [⟨some 138,none,.fad 6 (.t 1)⟩,⟨some 139,none,.ld false none (.t 138)⟩,⟨some 140,none,.len false (.t 139)⟩,⟨some 141,none,.fad 7 (.t 1)⟩,⟨some 142,none,.ld false none (.t 141)⟩,⟨some 143,none,.len false (.t 142)⟩,⟨some 144,none,.bin .neq (.t 140) (.t 143)⟩,⟨some 145,none,.mv false (.t 144)⟩,⟨some 146,some (145,false),.fad 7 (.t 1)⟩,⟨some 147,some (145,false),.ld false none (.t 146)⟩,⟨some 148,some (145,false),.len false (.t 147)⟩,⟨some 149,some (145,false),.bin .gtr (.t 148) (.c (.d (.int .i64 512)))⟩,⟨some 150,none,.pick (.t 145) (.c (.d (.bool true))) (.t 149)⟩] [138,141,146] false) (.cond (.t 150) (.seq (.reg [⟨some 2,none,.mv false (.c (.d (.bool false)))⟩] [] false) (.ret [.kill,.kill,.keep])) (.skip))) (.seq (.reg [⟨some 5,none,.mv false (.c (.d (.int .i64 0)))⟩] [] false) (r40_B0))
@[go_sem] def r40_K4 (_ : Unit) : RCode := .seq (.reg [⟨some 179,none,.fad 6 (.t 1)⟩,⟨some 180,none,.ld false none (.t 179)⟩,⟨some 181,none,.len false (.t 180)⟩,⟨some 182,none,.bin .neq (.t 181) (.c (.d (.int .i64 2)))⟩,⟨some 183,none,.mv false (.t 182)⟩,⟨some 184,some (183,false),.fad 6 (.t 1)⟩,⟨some 185,some (183,false),.ld false none (.t 184)⟩,⟨some 186,some (183,false),.iad none 1 (.t 185) (.c (.d (.int .i64 0)))⟩,⟨some 187,some (183,false),.ld false none (.t 186)⟩,⟨some 188,some (183,false),.call false (.f 71) [(.t 187)]⟩,⟨some 189,some (183,false),.un .not (.t 188)⟩,⟨some 190,none,.pick (.t 183) (.c (.d (.bool true))) (.t 189)⟩,⟨some 191,none,.mv false (.t 190)⟩,⟨some 192,some (191,false),.fad 6 (.t 1)⟩,⟨some 193,some (191,false),.ld false none (.t 192)⟩,⟨some 194,some (191,false),.iad none 1 (.t 193) (.c (.d (.int .i64 1)))⟩,⟨some 195,some (191,false),.ld false none (.t 194)⟩,⟨some 196,some (191,false),.call false (.f 71) [(.t 195)]⟩,⟨some 197,some (191,false),.un .not (.t 196)⟩,⟨some 198,none,.pick (.t 191) (.c (.d (.bool true))) (.t 197)⟩] [179,184,186,192,194] false) (.cond (.t 198) (.seq (.reg [⟨some 2,none,.mv false (.c (.d (.bool false)))⟩] [] false) (.ret [.kill,.kill,.keep])) (.skip))
@[go_sem] def r40_K5 (_ : Unit) : RCode := .cond (.t 130) (.seq (.reg [⟨some 132,none,.call false (.f 70) []⟩,⟨some 133,none,.fad 1 (.t 1)⟩,⟨some 134,none,.ld false none (.t 133)⟩,⟨some 135,none,.call false (.f 69) [(.t 132),(.t 134)]⟩,⟨some 2,none,.mv false (.t 135)⟩] [133] true) (.ret [.kill,.kill,.keep])) (.seq (.reg [⟨some 137,none,.bin .eql (.t 68) (.c (.d (.int .i64 12)))⟩,⟨some 136,none,.mv false (.t 137)⟩] [] false) (.cond (.t 136) (hold r40_K3) (.seq (.reg [⟨some 178,none,.bin .eql (.t 68) (.c (.d (.int .i64 20)))⟩,⟨some 177,none,.mv false (.t 178)⟩] [] false) (.cond (.t 177) (hold r40_K4) (.skip)))))
@[go_sem] def r40_K6 (_ : Unit) : RCode := .cond (.t 114) (.seq (.reg [⟨some 122,none,.fad 1 (.t 1)⟩,⟨some 123,none,.ld false none (.t 122)⟩,⟨some 124,none,.call false (.f 41) [(.t 123)]⟩,⟨some 2,none,.mv false (.t 124)⟩] [122] false) (.ret [.kill,.kill,.keep])) (.seq (.reg [⟨some 126,none,.bin .eql (.t 68) (.c (.d (.int .i64 3)))⟩,⟨some 125,none,.mv false (.t 126)⟩] [] false) (.cond (.t 125) (.seq (.reg [⟨some 127,none,.fad 1 (.t 1)⟩,⟨some 128,none,.ld false none (.t 127)⟩,⟨some 129,none,.call false (.f 68) [(.t 128)]⟩,⟨some 2,none,.mv false (.t 129)⟩] [127] false) (.ret [.kill,.kill,.keep])) (.seq (.reg [⟨some 131,none,.bin .eql (.t 68) (.c (.d (.int .i64 10)))⟩,⟨some 130,none,.mv false (.t 131)⟩] [] false) (hold r40_K5))))
@[go_sem] def r40_K7 (_ : Unit) : RCode := .cond (.t 69) (hold r40_K0) (.seq (.seq (.reg [⟨some 115,none,.bin .eql (.t 68) (.c (.d (.int .i64 2)))⟩,⟨some 114,none,.mv false (.t 115)⟩] [] false) (.cond (.t 114) (.skip) (.seq (.reg [⟨some 116,none,.bin .eql (.t 68) (.c (.d (.int .i64 13)))⟩,⟨some 114,none,.mv false (.t 116)⟩] [] false) (.cond (.t 114) (.skip) (.seq (.reg [⟨some 117,none,.bin .eql (.t 68) (.c (.d (.int .i64 14)))⟩,⟨some 114,none,.mv false (.t 117)⟩] [] false) (.cond (.t 114) (.skip) (hold r40_K1))))))) (hold r40_K6))
@[go_sem] def r40_K8 (_ : Unit) : RCode := .seq (.seq (.reg [⟨some 53,none,.fad 0 (.t 1)⟩,⟨some 54,none,.ld false none (.t 53)⟩,⟨some 55,none,.bin .neq (.t 54) (.c (.d (.int .i64 12)))⟩,⟨some 56,none,.mv false (.t 55)⟩,⟨some 57,some (56,true),.fad 0 (.t 1)⟩,⟨some 58,some (56,true),.ld false none (.t 57)⟩,⟨some 59,some (56,true),.bin .neq (.t 58) (.c (.d (.int .i64 20)))⟩,⟨some 60,none,.pick (.t 56) (.t 59) (.c (.d (.bool false)))⟩,⟨some 61,none,.mv false (.t 60)⟩,⟨some 62,some (61,true),.fad 6 (.t 1)⟩,⟨some 63,some (61,true),.ld false none (.t 62)⟩,⟨some 64,some (61,true),.len false (.t 63)⟩,⟨some 65,some (61,true),.bin .gtr (.t 64) (.c (.d (.int .i64 0)))⟩,⟨some 66,none,.pick (.t 61) (.t 65) (.c (.d (.bool false)))⟩] [53,57,62] false) (.cond (.t 66) (.seq (.reg [⟨some 2,none,.mv false (.c (.d (.bool false)))⟩] [] false) (.ret [.kill,.kill,.keep])) (.skip))) (.seq (.seq (.reg [⟨some 67,none,.fad 0 (.t 1)⟩,⟨some 68,none,.ld false none (.t 67)⟩] [67] false) (.block 0 [.kill,.keep] (.seq (.reg [⟨some 70,none,.bin .eql (.t 68) (.c (.d (.int .i64 1)))⟩,⟨some 69,none,.mv false (.t 70)⟩] [] false) (hold r40_K7)))) (.seq (.reg [⟨some 199,none,.fad 1 (.t 1)⟩,⟨some 200,none,.ld false none (.t 199)⟩,⟨some 201,none,.bin .eql (.t 200) (.c (.d (.str ⟨#[]⟩)))⟩,⟨some 2,none,.mv false (.t 201)⟩] [199] false) (.ret [.kill,.kill,.keep])))
@[go_sem] def r40_K9 (_ : Unit) : RCode := .seq (.seq (.reg [⟨some 33,none,.fad 0 (.t 1)⟩,⟨some 34,none,.ld false none (.t 33)⟩,⟨some 35,none,.bin .neq (.t 34) (.c (.d (.int .i64 1)))⟩,⟨some 36,none,.mv false (.t 35)⟩,⟨some 37,some (36,true),.fad 3 (.t 1)⟩,⟨some 38,some (36,true),.ld false none (.t 37)⟩,⟨some 39,some (36,true),.bin .neq (.t 38) (.c (.d (.int .i64 0)))⟩,⟨some 40,some (36,true),.mv false (.t 39)⟩,⟨some 41,some (40,false),.fad 4 (.t 1)⟩,⟨some 42,some (40,false),.fad 0 (.t 41)⟩,⟨some 43,some (40,false),.ld false none (.t 42)⟩,⟨some 44,some (40,false),.bin .neq (.t 43) (.c (.d (.int .i64 0)))⟩,⟨some 45,some (36,true),.pick (.t 40) (.c (.d (.bool true))) (.t 44)⟩,⟨some 46,some (36,true),.mv false (.t 45)⟩,⟨some 47,some (46,false),.fad 4 (.t 1)⟩,⟨some 48,some (46,false),.fad 1 (.t 47)⟩,⟨some 49,some (46,false),.ld false none (.t 48)⟩,⟨some 50,some (46,false),.bin .neq (.t 49) (.c (.d (.int .i64 0)))⟩,⟨some 51,some (36,true),.pick (.t 46) (.c (.d (.bool true))) (.t 50)⟩,⟨some 52,none,.pick (.t 36) (.t 51) (.c (.d (.bool false)))⟩] [33,37,41,42,47,48] false) (.cond (.t 52) (.seq (.reg [⟨some 2,none,.mv false (.c (.d (.bool false)))⟩] [] false) (.ret [.kill,.kill,.keep])) (.skip))) (hold r40_K8)
@[go_sem] def r40_K10 (_ : Unit) : RCode := .seq (.seq (.reg [⟨some 12,none,.mv false (.t 3)⟩,⟨some 13,none,.bin .lss (.t 12) (.c (.d (.int .i64 0)))⟩,⟨some 14,none,.mv false (.t 13)⟩,⟨some 15,some (14,false),.fad 7 (.t 1)⟩,⟨some 16,some (14,false),.ld false none (.t 15)⟩,⟨some 17,some (14,false),.len false (.t 16)⟩,⟨some 18,some (14,false),.mv false (.t 3)⟩,⟨some 19,some (14,false),.bin .lss (.t 17) (.t 18)⟩,⟨some 20,none,.pick (.t 14) (.c (.d (.bool true))) (.t 19)⟩,⟨some 21,none,.mv false (.t 20)⟩,⟨some 22,some (21,false),.fad 7 (.t 1)⟩,⟨some 23,some (21,false),.ld false none (.t 22)⟩,⟨some 24,some (21,false),.len false (.t 23)⟩,⟨some 25,some (21,false),.mv false (.t 4)⟩,⟨some 26,some (21,false),.bin .gtr (.t 24) (.t 25)⟩,⟨some 27,none,.pick (.t 21) (.c (.d (.bool true))) (.t 26)⟩,⟨some 28,none,.mv false (.t 27)⟩,⟨some 29,some (28,false),.fad 2 (.t 1)⟩,⟨some 30,some (28,false),.ld false none (.t 29)⟩,⟨some 31,some (28,false),.bin .neq (.t 30) (.c (.d (.int .i64 0)))⟩,⟨some 32,none,.pick (.t 28) (.c (.d (.bool true))) (.t 31)⟩] [15,22,29] false) (.cond (.t 32) (.seq (.reg [⟨some 2,none,.mv false (.c (.d (.bool false)))⟩] [] false) (.ret [.kill,.kill,.keep])) (.skip))) (hold r40_K9)
abbrev r40_R (x2 : PV) (hp : List Ent) : St := ⟨[.dead,.dead,x2,.dead,.dead,.dead,.dead,.dead,.dead,.dead,.dead,.dead,.dead,.dead,.dead,.dead,.dead,.dead,.dead,.dead,.dead,.dead,.dead,.dead,.dead,.dead,.dead,.dead,.dead,.dead,.dead,.dead,.dead,.dead,.dead,.dead,.dead,.dead,.dead,.dead,.dead,.dead,.dead,.dead,.dead,.dead,.dead,.dead,.dead,.dead,.dead,.dead,.dead,.dead,.dead,.dead,.dead,.dead,.dead,.dead,.dead,.dead,.dead,.dead,.dead,.dead,.dead,.dead,.dead,.dead,.dead,.dead,.dead,.dead,.dead,.dead,.dead,.dead,.dead,.dead,.dead,.dead,.dead,.dead,.dead,.dead,.dead,.dead,.dead,.dead,.dead,.dead,.dead,.dead,.dead,.dead,.dead,.dead,.dead,.dead,.dead,.dead,.dead,.dead,.dead,.dead,.dead,.dead,.dead,.dead,.dead,.dead,.dead,.dead,.dead,.dead,.dead,.dead,.dead,.dead,.dead,.dead,.dead,.dead,.dead,.dead,.dead,.dead,.dead,.dead,.dead,.dead,.dead,.dead,.dead,.dead,.dead,.dead,.dead,.dead,.dead,.dead,.dead,.dead,.dead,.dead,.dead,.dead,.dead,.dead,.dead,.dead,.dead,.dead,.dead,.dead,.dead,.dead,.dead,.dead,.dead,.dead,.dead,.dead,.dead,.dead,.dead,.dead,.dead,.dead,.dead,.dead,.dead,.dead,.dead,.dead,.dead,.dead,.dead,.dead,.dead,.dead,.dead,.dead,.dead,.dead,.dead,.dead,.dead,.dead,.dead,.dead,.dead,.dead,.dead,.dead,.dead,.dead,.dead,.dead,.dead,.dead],hp⟩
def r40_T : RCode := .seq (.reg [⟨some 1,none,.bx false true (.t 0)⟩,⟨some 2,none,.mv false (.c (.d (.bool false)))⟩] [] false) (.seq (.reg [⟨some 7,none,.fad 0 (.t 1)⟩,⟨some 8,none,.ld false none (.t 7)⟩,⟨some 9,none,.call false (.f 66) [(.t 8)]⟩,⟨some 6,none,.mvt (.t 9)⟩,⟨some 10,none,.ext false (.t 6) 0⟩,⟨some 11,none,.ext false (.t 6) 1⟩,⟨some 3,none,.mv false (.t 10)⟩,⟨some 4,none,.mv false (.t 11)⟩] [7] false) (hold r40_K10))
def r40 : RFunc := ⟨202,true,[.t 2],r40_T⟩
@[go_sem] def r23_K0 (_ : Unit) : RCode := .seq (.block 1 [.kill,.kill,.kill,.keep,.keep] (.seq (.reg [⟨some 13,none,.mv false (.t 3)⟩,⟨some 14,none,.mv false (.t 4)⟩,⟨some 15,none,.iad none 8 (.t 13) (.t 14)⟩,⟨some 16,none,.ld false (some 8) (.t 15)⟩,⟨some 17,none,.call false (.f 40) [(.t 16)]⟩,⟨some 18,none,.un .not (.t 17)⟩] [15] false) (.cond (.t 18) (.seq (.reg [⟨some 2,none,.mv false (.c (.d (.bool false)))⟩] [] false) (.ret [.kill,.kill,.keep])) (.skip)))) (.reg [⟨some 11,none,.mv false (.t 4)⟩,⟨some 12,none,.bin .add (.t 11) (.c (.d (.int .i64 1)))⟩,⟨some 4,none,.mv false (.t 12)⟩] [] false)
def r23_C0 : RCode := .seq (.seq (.reg [⟨some 7,none,.mv false (.t 4)⟩,⟨some 8,none,.mv false (.t 3)⟩,⟨some 9,none,.len false (.t 8)⟩,⟨some 10,none,.bin .lss (.t 7) (.t 9)⟩] [] false) (.cond (.t 10) (.skip) (.exit 0))) (hold r23_K0)
def r23_B0 : RCode := .block 0 [.kill,.kill,.kill,.keep] (.loop [.kill,.kill,.kill,.keep,.keep] r23_C0)
theorem r23_B0_eq {cf : CF} {s : St} : V cf r23_B0 s = loopK cf r23_B0 0 [.kill,.kill,.kill,.keep] [.kill,.kill,.kill,.keep,.keep] (V cf r23_C0 (s.head [.kill,.kill,.kill,.keep,.keep])) := V_bloop
abbrev r23_S0 (x3 x4 : PV) (hp : List Ent) : St := ⟨[.dead,.dead,.dead,x3,x4,.dead,.dead,.dead,.dead,.dead,.dead,.dead,.dead,.dead,.dead,.dead,.dead,.dead,.dead,.dead,.dead,.dead],hp⟩
abbrev r23_E0 (x3 : PV) (hp : List Ent) : St := ⟨[.dead,.dead,.dead,x3,.dead,.dead,.dead,.dead,.dead,.dead,.dead,.dead,.dead,.dead,.dead,.dead,.dead,.dead,.dead,.dead,.dead,.dead],hp⟩
theorem r23_B0_n {cf : CF} {a0 a1 a2 x3 x4 a5 a6 a7 a8 a9 a10 a11 a12 a13 a14 a15 a16 a17 a18 a19 a20 a21 : PV} {hp : List Ent} : V cf r23_B0 ⟨[a0,a1,a2,x3,x4,a5,a6,a7,a8,a9,a10,a11,a12,a13,a14,a15,a16,a17,a18,a19,a20,a21],hp⟩ = V cf r23_B0 (r23_S0 x3 x4 hp) := by rw [r23_B0_eq,r23_B0_eq]; rfl
abbrev r23_R (x2 : PV) (hp : List Ent) : St := ⟨[.dead,.dead,x2,.dead,.dead,.dead,.dead,.dead,.dead,.dead,.dead,.dead,.dead,.dead,.dead,.dead,.dead,.dead,.dead,.dead,.dead,.dead],hp⟩
def r23_T : RCode := .seq (.reg [⟨some 1,none,.bx false true (.t 0)⟩,⟨some 2,none,.mv false (.c (.d (.bool false)))⟩] [] false) (.seq (.reg [⟨some 5,none,.ld false (some 8) (.t 1)⟩,⟨some 6,none,.call false (.f 39) [(.t 5),(.c (.d (.int .i64 600)))]⟩,⟨some 3,none,.mv false (.t 6)⟩] [] false) (.seq (.seq (.reg [⟨some 4,none,.mv false (.c (.d (.int .i64 0)))⟩] [] false) (r23_B0)) (.seq (.reg [⟨some 19,none,.mv false (.t 3)⟩,⟨some 20,none,.len false (.t 19)⟩,⟨some 21,none,.bin .leq (.t 20) (.c (.d (.int .i64 512)))⟩,⟨some 2,none,.mv false (.t 21)⟩] [] false) (.ret [.kill,.kill,.keep]))))
def r23 : RFunc := ⟨22,true,[.t 2],r23_T⟩
@[go_sem] def r24_K0 (_ : Unit) : RCode := .seq (.block 3 [.kill,.keep,.kill,.keep,.keep,.keep] (.seq (.reg [⟨some 51,none,.fad 1 (.t 4)⟩,⟨some 52,none,.ld false none (.t 51)⟩,⟨some 53,none,.mv false (.t 5)⟩,⟨some 54,none,.iad none 1 (.t 52) (.t 53)⟩,⟨some 55,none,.ld false none (.t 54)⟩,⟨some 56,none,.call false (.f 41) [(.t 55)]⟩,⟨some 57,none,.un .not (.t 56)⟩] [51,54] false) (.cond (.t 57) (.seq (.reg [⟨some 2,none,.mv false (.c (.d (.bool false)))⟩] [] false) (.ret [.kill,.kill,.keep])) (.skip)))) (.reg [⟨some 49,none,.mv false (.t 5)⟩,⟨some 50,none,.bin .add (.t 49) (.c (.d (.int .i64 1)))⟩,⟨some 5,none,.mv false (.t 50)⟩] [] false)
def r24_C1 : RCode := .seq (.seq (.reg [⟨some 44,none,.mv false (.t 5)⟩,⟨some 45,none,.fad 1 (.t 4)⟩,⟨some 46,none,.ld false none (.t 45)⟩,⟨some 47,none,.len false (.t 46)⟩,⟨some 48,none,.bin .lss (.t 44) (.t 47)⟩] [45] false) (.cond (.t 48) (.skip) (.exit 2))) (hold r24_K0)
def r24_B1 : RCode := .block 2 [.kill,.keep,.kill,.keep] (.loop [.kill,.keep,.kill,.keep,.keep,.keep] r24_C1)
theorem r24_B1_eq {cf : CF} {s : St} : V cf r24_B1 s = loopK cf r24_B1 2 [.kill,.keep,.kill,.keep] [.kill,.keep,.kill,.keep,.keep,.keep] (V cf r24_C1 (s.head [.kill,.keep,.kill,.keep,.keep,.keep])) := V_bloop
abbrev r24_S1 (x1 x3 x4 x5 : PV) (hp : List Ent) : St := ⟨[.dead,x1,.dead,x3,x4,x5,.dead,.dead,.dead,.dead,.dead,.dead,.dead,.dead,.dead,.dead,.dead,.dead,.dead,.dead,.dead,.dead,.dead,.dead,.dead,.dead,.dead,.dead,.dead,.dead,.dead,.dead,.dead,.dead,.dead,.dead,.dead,.dead,.dead,.dead,.dead,.dead,.dead,.dead,.dead,.dead,.dead,.dead,.dead,.dead,.dead,.dead,.dead,.dead,.dead,.dead,.dead,.dead],hp⟩
abbrev r24_E1 (x1 x3 : PV) (hp : List Ent) : St := ⟨[.dead,x1,.dead,x3,.dead,.dead,.dead,.dead,.dead,.dead,.dead,.dead,.dead,.dead,.dead,.dead,.dead,.dead,.dead,.dead,.dead,.dead,.dead,.dead,.dead,.dead,.dead,.dead,.dead,.dead,.dead,.dead,.dead,.dead,.dead,.dead,.dead,.dead,.dead,.dead,.dead,.dead,.dead,.dead,.dead,.dead,.dead,.dead,.dead,.dead,.dead,.dead,.dead,.dead,.dead,.dead,.dead,.dead],hp⟩
theorem r24_B1_n {cf : CF} {a0 x1 a2 x3 x4 x5 a6 a7 a8 a9 a10 a11 a12 a13 a14 a15 a16 a17 a18 a19 a20 a21 a22 a23 a24 a25 a26 a27 a28 a29 a30 a31 a32 a33 a34 a35 a36 a37 a38 a39 a40 a41 a42 a43 a44 a45 a46 a47 a48 a49 a50 a51 a52 a53 a54 a55 a56 a57 : PV} {hp : List Ent} : V cf r24_B1 ⟨[a0,x1,a2,x3,x4,x5,a6,a7,a8,a9,a10,a11,a12,a13,a14,a15,a16,a17,a18,a19,a20,a21,a22,a23,a24,a25,a26,a27,a28,a29,a30,a31,a32,a33,a34,a35,a36,a37,a38,a39,a40,a41,a42,a43,a44,a45,a46,a47,a48,a49,a50,a51,a52,a53,a54,a55,a56,a57],hp⟩ = V cf r24_B1 (r24_S1 x1 x3 x4 x5 hp) := by rw [r24_B1_eq,r24_B1_eq]; rfl
@[go_sem] def r24_K1 (_ : Unit) : RCode := .seq (.seq (.reg [⟨some 28,none,.fad 0 (.t 4)⟩,⟨some 29,none,.ld false none (.t 28)⟩,⟨some 30,none,.call false (.f 41) [(.t 29)]⟩,⟨some 31,none,.un .not (.t 30)⟩,⟨some 32,none,.mv false (.t 31)⟩,⟨some 33,some (32,false),.fad 1 (.t 4)⟩,⟨some 34,some (32,false),.ld false none (.t 33)⟩,⟨some 35,some (32,false),.len false (.t 34)⟩,⟨some 36,some (32,false),.bin .gtr (.t 35) (.c (.d (.int .i64 4)))⟩,⟨some 37,none,.pick (.t 32) (.c (.d (.bool true))) (.t 36)⟩,⟨some 38,none,.mv false (.t 37)⟩,⟨some 39,some (38,false),.fad 2 (.t 4)⟩,⟨some 40,some (38,false),.ld false (some 8) (.t 39)⟩,⟨some 41,some (38,false),.call false (.f 23) [(.t 40)]⟩,⟨some 42,some (38,false),.un .not (.t 41)⟩,⟨some 43,none,.pick (.t 38) (.c (.d (.bool true))) (.t 42)⟩] [28,33,39] false) (.cond (.t 43) (.seq (.reg [⟨some 2,none,.mv false (.c (.d (.bool false)))⟩] [] false) (.ret [.kill,.kill,.keep])) (.skip))) (.seq (.reg [⟨some 5,none,.mv false (.c (.d (.int .i64 0)))⟩] [] false) (r24_B1))
@[go_sem] def r24_K2 (_ : Unit) : RCode := .seq (.block 1 [.kill,.keep,.kill,.keep] (.seq (.reg [⟨some 23,none,.fad 0 (.t 1)⟩,⟨some 24,none,.ld false none (.t 23)⟩,⟨some 25,none,.mv false (.t 3)⟩,⟨some 26,none,.iad none 10 (.t 24) (.t 25)⟩,⟨some 27,none,.ld false (some 10) (.t 26)⟩,⟨some 4,none,.zal false [.d (.str ⟨#[]⟩),.nilsl,.d (.int .i64 0),.d (.str ⟨#[]⟩),.d (.int .i64 0),.d (.int .i64 0),.d (.int .i64 0),.d (.int .i64 0),.nilsl,.nilsl]⟩,⟨none,none,.sto (some 10) (.t 4) (.t 27)⟩] [23,26] false) (hold r24_K1))) (.reg [⟨some 21,none,.mv false (.t 3)⟩,⟨some 22,none,.bin .add (.t 21) (.c (.d (.int .i64 1)))⟩,⟨some 3,none,.mv false (.t 22)⟩] [] false)
def r24_C0 : RCode := .seq (.seq (.reg [⟨some 16,none,.mv false (.t 3)⟩,⟨some 17,none,.fad 0 (.t 1)⟩,⟨some 18,none,.ld false none (.t 17)⟩,⟨some 19,none,.len false (.t 18)⟩,⟨some 20,none,.bin .lss (.t 16) (.t 19)⟩] [17] false) (.cond (.t 20) (.skip) (.exit 0))) (hold r24_K2)
def r24_B0 : RCode := .block 0 [] (.loop [.kill,.keep,.kill,.keep] r24_C0)
theorem r24_B0_eq {cf : CF} {s : St} : V cf r24_B0 s = loopK cf r24_B0 0 [] [.kill,.keep,.kill,.keep] (V cf r24_C0 (s.head [.kill,.keep,.kill,.keep])) := V_bloop
abbrev r24_S0 (x1 x3 : PV) (hp : List Ent) : St := ⟨[.dead,x1,.dead,x3,.dead,.dead,.dead,.dead,.dead,.dead,.dead,.dead,.dead,.dead,.dead,.dead,.dead,.dead,.dead,.dead,.dead,.dead,.dead,.dead,.dead,.dead,.dead,.dead,.dead,.dead,.dead,.dead,.dead,.dead,.dead,.dead,.dead,.dead,.dead,.dead,.dead,.dead,.dead,.dead,.dead,.dead,.dead,.dead,.dead,.dead,.dead,.dead,.dead,.dead,.dead,.dead,.dead,.dead],hp⟩
abbrev r24_E0  (hp : List Ent) : St := ⟨[.dead,.dead,.dead,.dead,.dead,.dead,.dead,.dead,.dead,.dead,.dead,.dead,.dead,.dead,.dead,.dead,.dead,.dead,.dead,.dead,.dead,.dead,.dead,.dead,.dead,.dead,.dead,.dead,.dead,.dead,.dead,.dead,.dead,.dead,.dead,.dead,.dead,.dead,.dead,.dead,.dead,.dead,.dead,.dead,.dead,.dead,.dead,.dead,.dead,.dead,.dead,.dead,.dead,.dead,.dead,.dead,.dead,.dead],hp⟩
theorem r24_B0_n {cf : CF} {a0 x1 a2 x3 a4 a5 a6 a7 a8 a9 a10 a11 a12 a13 a14 a15 a16 a17 a18 a19 a20 a21 a22 a23 a24 a25 a26 a27 a28 a29 a30 a31 a32 a33 a34 a35 a36 a37 a38 a39 a40 a41 a42 a43 a44 a45 a46 a47 a48 a49 a50 a51 a52 a53 a54 a55 a56 a57 : PV} {hp : List Ent} : V cf r24_B0 ⟨[a0,x1,a2,x3,a4,a5,a6,a7,a8,a9,a10,a11,a12,a13,a14,a15,a16,a17,a18,a19,a20,a21,a22,a23,a24,a25,a26,a27,a28,a29,a30,a31,a32,a33,a34,a35,a36,a37,a38,a39,a40,a41,a42,a43,a44,a45,a46,a47,a48,a49,a50,a51,a52,a53,a54,a55,a56,a57],hp⟩ = V cf r24_B0 (r24_S0 x1 x3 hp) := by rw [r24_B0_eq,r24_B0_eq]; rfl
@[go_sem] def r24_K3 (_ : Unit) : RCode := .seq (.seq (.reg [⟨some 6,none,.fad 0 (.t 1)⟩,⟨some 7,none,.ld false none (.t 6)⟩,⟨some 8,none,.len false (.t 7)⟩,⟨some 9,none,.bin .gtr (.t 8) (.c (.d (.int .i64 32)))⟩,⟨some 10,none,.mv false (.t 9)⟩,⟨some 11,some (10,false),.fad 1 (.t 1)⟩,⟨some 12,some (10,false),.ld false (some 8) (.t 11)⟩,⟨some 13,some (10,false),.call false (.f 23) [(.t 12)]⟩,⟨some 14,some (10,false),.un .not (.t 13)⟩,⟨some 15,none,.pick (.t 10) (.c (.d (.bool true))) (.t 14)⟩] [6,11] false) (.cond (.t 15) (.seq (.reg [⟨some 2,none,.mv false (.c (.d (.bool false)))⟩] [] false) (.ret [.kill,.kill,.keep])) (.skip))) (.seq (.seq (.reg [⟨some 3,none,.mv false (.c (.d (.int .i64 0)))⟩] [] false) (r24_B0)) (.seq (.reg [⟨some 2,none,.mv false (.c (.d (.bool true)))⟩] [] false) (.ret [.kill,.kill,.keep])))
abbrev r24_R (x2 : PV) (hp : List Ent) : St := ⟨[.dead,.dead,x2,.dead,.dead,.dead,.dead,.dead,.dead,.dead,.dead,.dead,.dead,.dead,.dead,.dead,.dead,.dead,.dead,.dead,.dead,.dead,.dead,.dead,.dead,.dead,.dead,.dead,.dead,.dead,.dead,.dead,.dead,.dead,.dead,.dead,.dead,.dead,.dead,.dead,.dead,.dead,.dead,.dead,.dead,.dead,.dead,.dead,.dead,.dead,.dead,.dead,.dead,.dead,.dead,.dead,.dead,.dead],hp⟩
def r24_T : RCode := .seq (.reg [⟨some 1,none,.bx false true (.t 0)⟩,⟨some 2,none,.mv false (.c (.d (.bool false)))⟩] [] false) (hold r24_K3)
def r24 : RFunc := ⟨58,true,[.t 2],r24_T⟩
@[go_sem] def r11_K0 (_ : Unit) : RCode := .seq (.reg [⟨some 1,none,.bsl 9 1 [(.c (.d (.str ⟨#[108,101,110,103,116,104]⟩))),(.c (.d (.str ⟨#[107,101,121,115]⟩))),(.c (.d (.str ⟨#[118,97,108,117,101,115]⟩))),(.c (.d (.str ⟨#[116,121,112,101]⟩))),(.c (.d (.str ⟨#[110,111,116]⟩))),(.c (.d (.str ⟨#[97,100,100]⟩))),(.c (.d (.str ⟨#[115,111,114,116]⟩))),(.c (.d (.str ⟨#[117,110,105,113,117,101]⟩))),(.c (.d (.str ⟨#[114,101,118,101,114,115,101]⟩))),(.c (.d (.str ⟨#[102,105,114,115,116]⟩))),(.c (.d (.str ⟨#[108,97,115,116]⟩))),(.c (.d (.str ⟨#[108,101,97,115,116]⟩))),(.c (.d (.str ⟨#[109,111,115,116]⟩))),(.c (.d (.str ⟨#[116,111,115,116,114,105,110,103]⟩))),(.c (.d (.str ⟨#[116,111,110,117,109,98,101,114]⟩))),(.c (.d (.str ⟨#[102,108,111,111,114]⟩))),(.c (.d (.str ⟨#[117,112,112,101,114]⟩))),(.c (.d (.str ⟨#[108,111,119,101,114]⟩))),(.c (.d (.str ⟨#[116,114,105,109]⟩))),(.c (.d (.str ⟨#[104,97,115]⟩))),(.c (.d (.str ⟨#[101,114,114,111,114]⟩))),(.c (.d (.str ⟨#[106,111,105,110]⟩))),(.c (.d (.str ⟨#[115,112,108,105,116]⟩))),(.c (.d (.str ⟨#[115,116,97,114,116,115]⟩))),(.c (.d (.str ⟨#[101,110,100,115]⟩))),(.c (.d (.str ⟨#[99,111,110,116,97,105,110,115]⟩))),(.c (.d (.str ⟨#[116,105,109,101,115]⟩))),(.c (.d (.str ⟨#[102,105,110,100]⟩))),(.c (.d (.str ⟨#[119,105,116,104,111,117,116]⟩))),(.c (.d (.str ⟨#[112,117,116]⟩))),(.c (.d (.str ⟨#[115,108,105,99,101]⟩)))]⟩,⟨some 0,none,.mv false (.t 1)⟩] [] false) (.ret [.keep])
abbrev r11_R (x0 : PV) (hp : List Ent) : St := ⟨[x0,.dead],hp⟩
def r11_T : RCode := .seq (.reg [⟨some 0,none,.mv false (.c (.d (.sl [])))⟩] [] false) (hold r11_K0)
def r11 : RFunc := ⟨2,true,[.t 0],r11_T⟩
@[go_sem] def r13_K0 (_ : Unit) : RCode := .seq (.reg [⟨some 19,none,.mv false (.t 5)⟩,⟨some 20,none,.mv false (.t 6)⟩,⟨some 21,none,.iad none 1 (.t 19) (.t 20)⟩,⟨some 22,none,.ld false none (.t 21)⟩,⟨some 23,none,.mv false (.t 0)⟩,⟨some 24,none,.bin .eql (.t 22) (.t 23)⟩,⟨some 25,none,.mv false (.t 24)⟩,⟨some 26,some (25,true),.mv false (.t 7)⟩,⟨some 27,some (25,true),.mv false (.t 1)⟩,⟨some 28,some (25,true),.bin .eql (.t 26) (.t 27)⟩,⟨some 29,none,.pick (.t 25) (.t 28) (.c (.d (.bool false)))⟩] [21] false) (.cond (.t 29) (.seq (.reg [⟨some 30,none,.mv false (.t 6)⟩,⟨some 4,none,.mv false (.t 30)⟩] [] false) (.ret [.kill,.kill,.kill,.kill,.keep])) (.skip))
@[go_sem] def r13_K1 (_ : Unit) : RCode := .seq (.block 1 [.keep,.keep,.kill,.kill,.kill,.keep,.keep] (.seq (.reg [⟨some 7,none,.mv false (.c (.d (.int .i64 0)))⟩] [] false) (.seq (.seq (.reg [⟨some 15,none,.mv false (.t 6)⟩,⟨some 16,none,.bin .geq (.t 15) (.c (.d (.int .i64 19)))⟩] [] false) (.cond (.t 16) (.reg [⟨some 7,none,.mv false (.c (.d (.int .i64 1)))⟩] [] false) (.skip))) (.seq (.seq (.reg [⟨some 17,none,.mv false (.t 6)⟩,⟨some 18,none,.bin .geq (.t 17) (.c (.d (.int .i64 29)))⟩] [] false) (.cond (.t 18) (.reg [⟨some 7,none,.mv false (.c (.d (.int .i64 2)))⟩] [] false) (.skip))) (hold r13_K0))))) (.reg [⟨some 13,none,.mv false (.t 6)⟩,⟨some 14,none,.bin .add (.t 13) (.c (.d (.int .i64 1)))⟩,⟨some 6,none,.mv false (.t 14)⟩] [] false)
def r13_C0 : RCode := .seq (.seq (.reg [⟨some 9,none,.mv false (.t 6)⟩,⟨some 10,none,.mv false (.t 5)⟩,⟨some 11,none,.len false (.t 10)⟩,⟨some 12,none,.bin .lss (.t 9) (.t 11)⟩] [] false) (.cond (.t 12) (.skip) (.exit 0))) (hold r13_K1)
def r13_B0 : RCode := .block 0 [] (.loop [.keep,.keep,.kill,.kill,.kill,.keep,.keep] r13_C0)
theorem r13_B0_eq {cf : CF} {s : St} : V cf r13_B0 s = loopK cf r13_B0 0 [] [.keep,.keep,.kill,.kill,.kill,.keep,.keep] (V cf r13_C0 (s.head [.keep,.keep,.kill,.kill,.kill,.keep,.keep])) := V_bloop
abbrev r13_S0 (x0 x1 x5 x6 : PV) (hp : List Ent) : St := ⟨[x0,x1,.dead,.dead,.dead,x5,x6,.dead,.dead,.dead,.dead,.dead,.dead,.dead,.dead,.dead,.dead,.dead,.dead,.dead,.dead,.dead,.dead,.dead,.dead,.dead,.dead,.dead,.dead,.dead,.dead],hp⟩
abbrev r13_E0  (hp : List Ent) : St := ⟨[.dead,.dead,.dead,.dead,.dead,.dead,.dead,.dead,.dead,.dead,.dead,.dead,.dead,.dead,.dead,.dead,.dead,.dead,.dead,.dead,.dead,.dead,.dead,.dead,.dead,.dead,.dead,.dead,.dead,.dead,.dead],hp⟩
theorem r13_B0_n {cf : CF} {x0 x1 a2 a3 a4 x5 x6 a7 a8 a9 a10 a11 a12 a13 a14 a15 a16 a17 a18 a19 a20 a21 a22 a23 a24 a25 a26 a27 a28 a29 a30 : PV} {hp : List Ent} : V cf r13_B0 ⟨[x0,x1,a2,a3,a4,x5,x6,a7,a8,a9,a10,a11,a12,a13,a14,a15,a16,a17,a18,a19,a20,a21,a22,a23,a24,a25,a26,a27,a28,a29,a30],hp⟩ = V cf r13_B0 (r13_S0 x0 x1 x5 x6 hp) := by rw [r13_B0_eq,r13_B0_eq]; rfl
abbrev r13_R (x4 : PV) (hp : List Ent) : St := ⟨[.dead,.dead,.dead,.dead,x4,.dead,.dead,.dead,.dead,.dead,.dead,.dead,.dead,.dead,.dead,.dead,.dead,.dead,.dead,.dead,.dead,.dead,.dead,.dead,.dead,.dead,.dead,.dead,.dead,.dead,.dead],hp⟩
def r13_T : RCode := .seq (.reg [⟨some 4,none,.mv false (.c (.d (.int .i64 0)))⟩] [] false) (.seq (.reg [⟨some 8,none,.call false (.f 11) []⟩,⟨some 5,none,.mv false (.t 8)⟩] [] false) (.seq (.seq (.reg [⟨some 6,none,.mv false (.c (.d (.int .i64 0)))⟩] [] false) (r13_B0)) (.seq (.reg [⟨some 4,none,.mv false (.c (.d (.int .i64 (-1))))⟩] [] false) (.ret [.kill,.kill,.kill,.kill,.keep]))))
def r13 : RFunc := ⟨31,true,[.t 4],r13_T⟩
@[go_sem] def r95_K0 (_ : Unit) : RCode := .seq (.block 1 [.keep,.keep,.kill,.kill,.kill,.keep,.keep] (.seq (.reg [⟨some 13,none,.mv false (.t 0)⟩,⟨some 14,none,.mv false (.t 6)⟩,⟨some 15,none,.iad none 1 (.t 13) (.t 14)⟩,⟨some 16,none,.ld false none (.t 15)⟩,⟨some 17,none,.mv false (.t 1)⟩,⟨some 18,none,.bin .eql (.t 16) (.t 17)⟩] [15] false) (.cond (.t 18) (.reg [⟨some 19,none,.mv false (.t 6)⟩,⟨some 5,none,.mv false (.t 19)⟩] [] false) (.skip)))) (.reg [⟨some 11,none,.mv false (.t 6)⟩,⟨some 12,none,.bin .add (.t 11) (.c (.d (.int .i64 1)))⟩,⟨some 6,none,.mv false (.t 12)⟩] [] false)
def r95_C0 : RCode := .seq (.seq (.reg [⟨some 7,none,.mv false (.t 6)⟩,⟨some 8,none,.mv false (.t 0)⟩,⟨some 9,none,.len false (.t 8)⟩,⟨some 10,none,.bin .lss (.t 7) (.t 9)⟩] [] false) (.cond (.t 10) (.skip) (.exit 0))) (hold r95_K0)
def r95_B0 : RCode := .block 0 [.kill,.kill,.kill,.kill,.kill,.keep] (.loop [.keep,.keep,.kill,.kill,.kill,.keep,.keep] r95_C0)
theorem r95_B0_eq {cf : CF} {s : St} : V cf r95_B0 s = loopK cf r95_B0 0 [.kill,.kill,.kill,.kill,.kill,.keep] [.keep,.keep,.kill,.kill,.kill,.keep,.keep] (V cf r95_C0 (s.head [.keep,.keep,.kill,.kill,.kill,.keep,.keep])) := V_bloop
abbrev r95_S0 (x0 x1 x5 x6 : PV) (hp : List Ent) : St := ⟨[x0,x1,.dead,.dead,.dead,x5,x6,.dead,.dead,.dead,.dead,.dead,.dead,.dead,.dead,.dead,.dead,.dead,.dead,.dead,.dead],hp⟩
abbrev r95_E0 (x5 : PV) (hp : List Ent) : St := ⟨[.dead,.dead,.dead,.dead,.dead,x5,.dead,.dead,.dead,.dead,.dead,.dead,.dead,.dead,.dead,.dead,.dead,.dead,.dead,.dead,.dead],hp⟩
theorem r95_B0_n {cf : CF} {x0 x1 a2 a3 a4 x5 x6 a7 a8 a9 a10 a11 a12 a13 a14 a15 a16 a17 a18 a19 a20 : PV} {hp : List Ent} : V cf r95_B0 ⟨[x0,x1,a2,a3,a4,x5,x6,a7,a8,a9,a10,a11,a12,a13,a14,a15,a16,a17,a18,a19,a20],hp⟩ = V cf r95_B0 (r95_S0 x0 x1 x5 x6 hp) := by rw [r95_B0_eq,r95_B0_eq]; rfl
abbrev r95_R (x4 : PV) (hp : List Ent) : St := ⟨[.dead,.dead,.dead,.dead,x4,.dead,.dead,.dead,.dead,.dead,.dead,.dead,.dead,.dead,.dead,.dead,.dead,.dead,.dead,.dead,.dead],hp⟩
def r95_T : RCode := .seq (.reg [⟨some 4,none,.mv false (.c (.d (.int .i64 0)))⟩] [] false) (.seq (.reg [⟨some 5,none,.mv false (.c (.d (.int .i64 (-1))))⟩] [] false) (.seq (.seq (.reg [⟨some 6,none,.mv false (.c (.d (.int .i64 0)))⟩] [] false) (r95_B0)) (.seq (.reg [⟨some 20,none,.mv false (.t 5)⟩,⟨some 4,none,.mv false (.t 20)⟩] [] false) (.ret [.kill,.kill,.kill,.kill,.keep]))))
def r95 : RFunc := ⟨21,true,[.t 4],r95_T⟩
@[go_sem] def r74_K0 (_ : Unit) : RCode := .seq (.block 2 [.kill,.kill,.keep,.keep,.kill,.keep,.keep] (.seq (.reg [⟨some 38,none,.fad 0 (.t 2)⟩,⟨some 39,none,.ld false none (.t 38)⟩,⟨some 40,none,.mv false (.t 6)⟩,⟨some 41,none,.iad none 10 (.t 39) (.t 40)⟩,⟨some 42,none,.fad 0 (.t 41)⟩,⟨some 43,none,.ld false none (.t 42)⟩,⟨some 44,none,.fad 1 (.t 3)⟩,⟨some 45,none,.ld false none (.t 44)⟩,⟨some 46,none,.bin .eql (.t 43) (.t 45)⟩,⟨some 47,none,.mv false (.t 46)⟩,⟨some 48,some (47,true),.fad 0 (.t 2)⟩,⟨some 49,some (47,true),.ld false none (.t 48)⟩,⟨some 50,some (47,true),.mv false (.t 6)⟩,⟨some 51,some (47,true),.iad none 10 (.t 49) (.t 50)⟩,⟨some 52,some (47,true),.fad 1 (.t 51)⟩,⟨some 53,some (47,true),.ld false none (.t 52)⟩,⟨some 54,some (47,true),.len false (.t 53)⟩,⟨some 55,some (47,true),.fad 7 (.t 3)⟩,⟨some 56,some (47,true),.ld false none (.t 55)⟩,⟨some 57,some (47,true),.len false (.t 56)⟩,⟨some 58,some (47,true),.bin .eql (.t 54) (.t 57)⟩,⟨some 59,none,.pick (.t 47) (.t 58) (.c (.d (.bool false)))⟩] [38,41,42,44,48,51,52,55] true) (.cond (.t 59) (.reg [⟨some 60,none,.mv false (.t 6)⟩,⟨some 5,none,.mv false (.t 60)⟩] [] false) (.skip)))) (.reg [⟨some 36,none,.mv false (.t 6)⟩,⟨some 37,none,.bin .add (.t 36) (.c (.d (.int .i64 1)))⟩,⟨some 6,none,.mv false (.t 37)⟩] [] false)
def r74_C0 : RCode := .seq (.seq (.reg [⟨some 31,none,.mv false (.t 6)⟩,⟨some 32,none,.fad 0 (.t 2)⟩,⟨some 33,none,.ld false none (.t 32)⟩,⟨some 34,none,.len false (.t 33)⟩,⟨some 35,none,.bin .lss (.t 31) (.t 34)⟩] [32] false) (.cond (.t 35) (.skip) (.exit 1))) (hold r74_K0)
def r74_B0 : RCode := .block 1 [.kill,.kill,.kill,.keep,.kill,.keep] (.loop [.kill,.kill,.keep,.keep,.kill,.keep,.keep] r74_C0)
theorem r74_B0_eq {cf : CF} {s : St} : V cf r74_B0 s = loopK cf r74_B0 1 [.kill,.kill,.kill,.keep,.kill,.keep] [.kill,.kill,.keep,.keep,.kill,.keep,.keep] (V cf r74_C0 (s.head [.kill,.kill,.keep,.keep,.kill,.keep,.keep])) := V_bloop
abbrev r74_S0 (x2 x3 x5 x6 : PV) (hp : List Ent) : St := ⟨[.dead,.dead,x2,x3,.dead,x5,x6,.dead,.dead,.dead,.dead,.dead,.dead,.dead,.dead,.dead,.dead,.dead,.dead,.dead,.dead,.dead,.dead,.dead,.dead,.dead,.dead,.dead,.dead,.dead,.dead,.dead,.dead,.dead,.dead,.dead,.dead,.dead,.dead,.dead,.dead,.dead,.dead,.dead,.dead,.dead,.dead,.dead,.dead,.dead,.dead,.dead,.dead,.dead,.dead,.dead,.dead,.dead,.dead,.dead,.dead,.dead,.dead,.dead,.dead,.dead,.dead,.dead,.dead,.dead,.dead,.dead,.dead,.dead,.dead,.dead],hp⟩
abbrev r74_E0 (x3 x5 : PV) (hp : List Ent) : St := ⟨[.dead,.dead,.dead,x3,.dead,x5,.dead,.dead,.dead,.dead,.dead,.dead,.dead,.dead,.dead,.dead,.dead,.dead,.dead,.dead,.dead,.dead,.dead,.dead,.dead,.dead,.dead,.dead,.dead,.dead,.dead,.dead,.dead,.dead,.dead,.dead,.dead,.dead,.dead,.dead,.dead,.dead,.dead,.dead,.dead,.dead,.dead,.dead,.dead,.dead,.dead,.dead,.dead,.dead,.dead,.dead,.dead,.dead,.dead,.dead,.dead,.dead,.dead,.dead,.dead,.dead,.dead,.dead,.dead,.dead,.dead,.dead,.dead,.dead,.dead,.dead],hp⟩
theorem r74_B0_n {cf : CF} {a0 a1 x2 x3 a4 x5 x6 a7 a8 a9 a10 a11 a12 a13 a14 a15 a16 a17 a18 a19 a20 a21 a22 a23 a24 a25 a26 a27 a28 a29 a30 a31 a32 a33 a34 a35 a36 a37 a38 a39 a40 a41 a42 a43 a44 a45 a46 a47 a48 a49 a50 a51 a52 a53 a54 a55 a56 a57 a58 a59 a60 a61 a62 a63 a64 a65 a66 a67 a68 a69 a70 a71 a72 a73 a74 a75 : PV} {hp : List Ent} : V cf r74_B0 ⟨[a0,a1,x2,x3,a4,x5,x6,a7,a8,a9,a10,a11,a12,a13,a14,a15,a16,a17,a18,a19,a20,a21,a22,a23,a24,a25,a26,a27,a28,a29,a30,a31,a32,a33,a34,a35,a36,a37,a38,a39,a40,a41,a42,a43,a44,a45,a46,a47,a48,a49,a50,a51,a52,a53,a54,a55,a56,a57,a58,a59,a60,a61,a62,a63,a64,a65,a66,a67,a68,a69,a70,a71,a72,a73,a74,a75],hp⟩ = V cf r74_B0 (r74_S0 x2 x3 x5 x6 hp) := by rw [r74_B0_eq,r74_B0_eq]; rfl
@[go_sem] def r74_K1 (_ : Unit) : RCode := .seq (.seq (.reg [⟨some 67,none,.mv false (.t 5)⟩,⟨some 68,none,.bin .lss (.t 67) (.c (.d (.int .i64 0)))⟩,⟨some 69,none,.mv false (.t 68)⟩,⟨some 70,some (69,true),.mv false (.t 7)⟩,⟨some 71,some (69,true),.bin .geq (.t 70) (.c (.d (.int .i64 0)))⟩,⟨some 72,none,.pick (.t 69) (.t 71) (.c (.d (.bool false)))⟩] [] false) (.cond (.t 72) (.reg [⟨some 73,none,.mv false (.t 7)⟩,⟨some 74,none,.bin .add (.c (.d (.int .i64 1000))) (.t 73)⟩,⟨some 5,none,.mv false (.t 74)⟩] [] false) (.skip))) (.seq (.reg [⟨some 75,none,.mv false (.t 5)⟩,⟨some 4,none,.mv false (.t 75)⟩] [] false) (.ret [.kill,.kill,.kill,.kill,.keep]))
@[go_sem] def r74_K2 (_ : Unit) : RCode := .cond (.t 29) (.seq (.reg [⟨some 5,none,.mv false (.c (.d (.int .i64 (-1))))⟩] [] false) (.seq (.seq (.reg [⟨some 6,none,.mv false (.c (.d (.int .i64 0)))⟩] [] false) (r74_B0)) (.seq (.reg [⟨some 61,none,.fad 1 (.t 3)⟩,⟨some 62,none,.ld false none (.t 61)⟩,⟨some 63,none,.fad 7 (.t 3)⟩,⟨some 64,none,.ld false none (.t 63)⟩,⟨some 65,none,.len false (.t 64)⟩,⟨some 66,none,.call false (.f 13) [(.t 62),(.t 65)]⟩,⟨some 7,none,.mv false (.t 66)⟩] [61,63] false) (hold r74_K1)))) (.skip)
@[go_sem] def r74_K3 (_ : Unit) : RCode := .cond (.t 17) (.seq (.reg [⟨some 19,none,.fad 2 (.t 2)⟩,⟨some 20,none,.ld false none (.t 19)⟩,⟨some 21,none,.fad 1 (.t 3)⟩,⟨some 22,none,.ld false none (.t 21)⟩,⟨some 23,none,.call false (.f 95) [(.t 20),(.t 22)]⟩,⟨some 4,none,.mv false (.t 23)⟩] [19,21] false) (.ret [.kill,.kill,.kill,.kill,.keep])) (.seq (.reg [⟨some 25,none,.bin .eql (.t 9) (.c (.d (.int .i64 18)))⟩,⟨some 24,none,.mv false (.t 25)⟩] [] false) (.cond (.t 24) (.seq (.reg [⟨some 26,none,.fad 2 (.t 2)⟩,⟨some 27,none,.ld false none (.t 26)⟩,⟨some 28,none,.len false (.t 27)⟩,⟨some 4,none,.mv false (.t 28)⟩] [26] false) (.ret [.kill,.kill,.kill,.kill,.keep])) (.seq (.reg [⟨some 30,none,.bin .eql (.t 9) (.c (.d (.int .i64 16)))⟩,⟨some 29,none,.mv false (.t 30)⟩] [] false) (hold r74_K2))))
@[go_sem] def r74_K4 (_ : Unit) : RCode := .block 0 [] (.seq (.reg [⟨some 11,none,.bin .eql (.t 9) (.c (.d (.int .i64 2)))⟩,⟨some 10,none,.mv false (.t 11)⟩] [] false) (.cond (.t 10) (.seq (.reg [⟨some 12,none,.fad 1 (.t 2)⟩,⟨some 13,none,.ld false none (.t 12)⟩,⟨some 14,none,.fad 1 (.t 3)⟩,⟨some 15,none,.ld false none (.t 14)⟩,⟨some 16,none,.call false (.f 95) [(.t 13),(.t 15)]⟩,⟨some 4,none,.mv false (.t 16)⟩] [12,14] false) (.ret [.kill,.kill,.kill,.kill,.keep])) (.seq (.reg [⟨some 18,none,.bin .eql (.t 9) (.c (.d (.int .i64 19)))⟩,⟨some 17,none,.mv false (.t 18)⟩] [] false) (hold r74_K3))))
abbrev r74_R (x4 : PV) (hp : List Ent) : St := ⟨[.dead,.dead,.dead,.dead,x4,.dead,.dead,.dead,.dead,.dead,.dead,.dead,.dead,.dead,.dead,.dead,.dead,.dead,.dead,.dead,.dead,.dead,.dead,.dead,.dead,.dead,.dead,.dead,.dead,.dead,.dead,.dead,.dead,.dead,.dead,.dead,.dead,.dead,.dead,.dead,.dead,.dead,.dead,.dead,.dead,.dead,.dead,.dead,.dead,.dead,.dead,.dead,.dead,.dead,.dead,.dead,.dead,.dead,.dead,.dead,.dead,.dead,.dead,.dead,.dead,.dead,.dead,.dead,.dead,.dead,.dead,.dead,.dead,.dead,.dead,.dead],hp⟩
def r74_T : RCode := .seq (.reg [⟨some 2,none,.bx false true (.t 0)⟩,⟨some 3,none,.bx false true (.t 1)⟩,⟨some 4,none,.mv false (.c (.d (.int .i64 0)))⟩] [] false) (.seq (.seq (.reg [⟨some 8,none,.fad 0 (.t 3)⟩,⟨some 9,none,.ld false none (.t 8)⟩] [8] false) (hold r74_K4)) (.seq (.reg [⟨some 4,none,.mv false (.c (.d (.int .i64 0)))⟩] [] false) (.ret [.kill,.kill,.kill,.kill,.keep])))
def r74 : RFunc := ⟨76,true,[.t 4],r74_T⟩
@[go_sem] def r42_K0 (_ : Unit) : RCode := .seq (.seq (.reg [⟨some 81,none,.fad 8 (.t 11)⟩,⟨some 82,none,.ld false none (.t 81)⟩] [81] false) (.cond (.t 82) (.seq (.reg [⟨some 83,none,.ld false (some 10) (.t 11)⟩,⟨none,none,.sto (some 10) (.t 4) (.t 83)⟩] [] false) (.ret [.kill,.kill,.kill,.kill,.keep])) (.skip))) (.reg [⟨some 84,none,.fad 7 (.t 6)⟩,⟨some 85,none,.ld true none (.t 84)⟩,⟨some 86,none,.fad 0 (.t 11)⟩,⟨some 87,none,.ld false (some 8) (.t 86)⟩,⟨some 88,none,.bsl 34 8 [(.t 87)]⟩,⟨some 89,none,.app 34 8 104 (.t 85) (.t 88)⟩,⟨some 90,none,.fad 7 (.t 6)⟩,⟨none,none,.sto none (.t 90) (.t 89)⟩] [84,86,90] false)
def r42_K1 (_ : Unit) : RCode := .seqf (.reg [⟨some 74,none,.ld false (some 3) (.t 8)⟩,⟨some 75,none,.fad 7 (.t 3)⟩,⟨some 76,none,.lde none (.t 75)⟩,⟨some 77,none,.mv false (.t 7)⟩,⟨some 78,none,.iad none 8 (.t 76) (.t 77)⟩,⟨some 79,none,.ld false (some 8) (.t 78)⟩,⟨some 80,none,.call false (.f 42) [(.t 74),(.t 79)]⟩,⟨some 11,none,.zal false [.d (.int .i64 0),.d (.str ⟨#[]⟩),.d (.int .i64 0),.d (.int .i64 0),.d (.int .i64 0),.d (.int .i64 0),.nilsl,.nilsl,.d (.bool false),.d (.str ⟨#[]⟩)]⟩,⟨none,none,.sto (some 10) (.t 11) (.t 80)⟩] [75,78] true) 11 (hold r42_K0)
abbrev r42_J1 (x2 x3 x4 x6 x7 x8 : PV) (hp : List Ent) : St := ⟨[.dead,.dead,x2,x3,x4,.dead,x6,x7,x8,.dead,.dead,.dead,.dead,.dead,.dead,.dead,.dead,.dead,.dead,.dead,.dead,.dead,.dead,.dead,.dead,.dead,.dead,.dead,.dead,.dead,.dead,.dead,.dead,.dead,.dead,.dead,.dead,.dead,.dead,.dead,.dead,.dead,.dead,.dead,.dead,.dead,.dead,.dead,.dead,.dead,.dead,.dead,.dead,.dead,.dead,.dead,.dead,.dead,.dead,.dead,.dead,.dead,.dead,.dead,.dead,.dead,.dead,.dead,.dead,.dead,.dead,.dead,.dead,.dead,.dead,.dead,.dead,.dead,.dead,.dead,.dead,.dead,.dead,.dead,.dead,.dead,.dead,.dead,.dead,.dead,.dead,.dead,.dead],hp⟩
def r42_K2 (_ : Unit) : RCode := .seqc (.seq (.reg [⟨some 62,none,.fad 0 (.t 3)⟩,⟨some 63,none,.ld false none (.t 62)⟩,⟨some 64,none,.bin .eql (.t 63) (.c (.d (.int .i64 18)))⟩] [62] false) (.cond (.t 64) (.seq (.reg [⟨some 10,none,.mv true (.c (.nilsl))⟩] [] false) (.reg [⟨some 65,none,.mv true (.t 10)⟩,⟨some 66,none,.fad 2 (.t 2)⟩,⟨some 67,none,.lde none (.t 66)⟩,⟨some 68,none,.app 9 1 16 (.t 65) (.t 67)⟩,⟨some 69,none,.fad 1 (.t 3)⟩,⟨some 70,none,.lde none (.t 69)⟩,⟨some 71,none,.bsl 9 1 [(.t 70)]⟩,⟨some 72,none,.app 9 1 16 (.t 68) (.t 71)⟩,⟨some 73,none,.fad 2 (.t 8)⟩,⟨none,none,.sto none (.t 73) (.t 72)⟩] [66,69,73] true)) (.skip))) [.kill,.kill,.keep,.keep,.keep,.kill,.keep,.keep,.keep] (hold r42_K1)
abbrev r42_J2 (x2 x3 x4 x6 x7 x8 : PV) (hp : List Ent) : St := ⟨[.dead,.dead,x2,x3,x4,.dead,x6,x7,x8,.dead,.dead,.dead,.dead,.dead,.dead,.dead,.dead,.dead,.dead,.dead,.dead,.dead,.dead,.dead,.dead,.dead,.dead,.dead,.dead,.dead,.dead,.dead,.dead,.dead,.dead,.dead,.dead,.dead,.dead,.dead,.dead,.dead,.dead,.dead,.dead,.dead,.dead,.dead,.dead,.dead,.dead,.dead,.dead,.dead,.dead,.dead,.dead,.dead,.dead,.dead,.dead,.dead,.dead,.dead,.dead,.dead,.dead,.dead,.dead,.dead,.dead,.dead,.dead,.dead,.dead,.dead,.dead,.dead,.dead,.dead,.dead,.dead,.dead,.dead,.dead,.dead,.dead,.dead,.dead,.dead,.dead,.dead,.dead],hp⟩
def r42_K3 (_ : Unit) : RCode := .seqc (.seq (.reg [⟨some 32,none,.fad 0 (.t 3)⟩,⟨some 33,none,.ld false none (.t 32)⟩,⟨some 34,none,.bin .eql (.t 33) (.c (.d (.int .i64 17)))⟩,⟨some 35,none,.mv false (.t 34)⟩,⟨some 36,some (35,true),.mv false (.t 7)⟩,⟨some 37,some (35,true),.bin .eql (.t 36) (.c (.d (.int .i64 1)))⟩,⟨some 38,none,.pick (.t 35) (.t 37) (.c (.d (.bool false)))⟩,⟨some 39,none,.mv false (.t 38)⟩,⟨some 40,some (39,false),.fad 0 (.t 3)⟩,⟨some 41,some (39,false),.ld false none (.t 40)⟩,⟨some 42,some (39,false),.bin .eql (.t 41) (.c (.d (.int .i64 13)))⟩,⟨some 43,some (39,false),.mv false (.t 42)⟩,⟨some 44,some (43,false),.fad 0 (.t 3)⟩,⟨some 45,some (43,false),.ld false none (.t 44)⟩,⟨some 46,some (43,false),.bin .eql (.t 45) (.c (.d (.int .i64 14)))⟩,⟨some 47,some (39,false),.pick (.t 43) (.c (.d (.bool true))) (.t 46)⟩,⟨some 48,some (39,false),.mv false (.t 47)⟩,⟨some 49,some (48,true),.mv false (.t 7)⟩,⟨some 50,some (48,true),.bin .eql (.t 49) (.c (.d (.int .i64 2)))⟩,⟨some 51,some (39,false),.pick (.t 48) (.t 50) (.c (.d (.bool false)))⟩,⟨some 52,none,.pick (.t 39) (.c (.d (.bool true))) (.t 51)⟩] [32,40,44] false) (.cond (.t 52) (.seq (.reg [⟨some 9,none,.mv true (.c (.nilsl))⟩] [] false) (.reg [⟨some 53,none,.mv true (.t 9)⟩,⟨some 54,none,.fad 1 (.t 2)⟩,⟨some 55,none,.lde none (.t 54)⟩,⟨some 56,none,.app 9 1 16 (.t 53) (.t 55)⟩,⟨some 57,none,.fad 1 (.t 3)⟩,⟨some 58,none,.lde none (.t 57)⟩,⟨some 59,none,.bsl 9 1 [(.t 58)]⟩,⟨some 60,none,.app 9 1 16 (.t 56) (.t 59)⟩,⟨some 61,none,.fad 1 (.t 8)⟩,⟨none,none,.sto none (.t 61) (.t 60)⟩] [54,57,61] true)) (.skip))) [.kill,.kill,.keep,.keep,.keep,.kill,.keep,.keep,.keep] (hold r42_K2)
def r42_K4 (_ : Unit) : RCode := .seq (.block 1 [.kill,.kill,.keep,.keep,.keep,.kill,.keep,.keep] (.seq (.reg [⟨some 31,none,.ld false (some 3) (.t 2)⟩,⟨some 8,none,.zal false [.nilsl,.nilsl,.nilsl]⟩,⟨none,none,.sto (some 3) (.t 8) (.t 31)⟩] [] false) (hold r42_K3))) (.reg [⟨some 29,none,.mv false (.t 7)⟩,⟨some 30,none,.bin .add (.t 29) (.c (.d (.int .i64 1)))⟩,⟨some 7,none,.mv false (.t 30)⟩] [] false)
abbrev r42_J4 (x2 x3 x4 x6 x7 : PV) (hp : List Ent) : St := ⟨[.dead,.dead,x2,x3,x4,.dead,x6,x7,.dead,.dead,.dead,.dead,.dead,.dead,.dead,.dead,.dead,.dead,.dead,.dead,.dead,.dead,.dead,.dead,.dead,.dead,.dead,.dead,.dead,.dead,.dead,.dead,.dead,.dead,.dead,.dead,.dead,.dead,.dead,.dead,.dead,.dead,.dead,.dead,.dead,.dead,.dead,.dead,.dead,.dead,.dead,.dead,.dead,.dead,.dead,.dead,.dead,.dead,.dead,.dead,.dead,.dead,.dead,.dead,.dead,.dead,.dead,.dead,.dead,.dead,.dead,.dead,.dead,.dead,.dead,.dead,.dead,.dead,.dead,.dead,.dead,.dead,.dead,.dead,.dead,.dead,.dead,.dead,.dead,.dead,.dead,.dead,.dead],hp⟩
def r42_C0 : RCode := .seqc (.seq (.reg [⟨some 24,none,.mv false (.t 7)⟩,⟨some 25,none,.fad 7 (.t 3)⟩,⟨some 26,none,.ld false none (.t 25)⟩,⟨some 27,none,.len false (.t 26)⟩,⟨some 28,none,.bin .lss (.t 24) (.t 27)⟩] [25] false) (.cond (.t 28) (.skip) (.exit 0))) [.kill,.kill,.keep,.keep,.keep,.kill,.keep,.keep] (hold r42_K4)
def r42_B0 : RCode := .block 0 [.kill,.kill,.kill,.kill,.keep,.kill,.keep] (.loop [.kill,.kill,.keep,.keep,.keep,.kill,.keep,.keep] r42_C0)
theorem r42_B0_eq {cf : CF} {s : St} : V cf r42_B0 s = loopK cf r42_B0 0 [.kill,.kill,.kill,.kill,.keep,.kill,.keep] [.kill,.kill,.keep,.keep,.keep,.kill,.keep,.keep] (V cf r42_C0 (s.head [.kill,.kill,.keep,.keep,.keep,.kill,.keep,.keep])) := V_bloop
abbrev r42_S0 (x2 x3 x4 x6 x7 : PV) (hp : List Ent) : St := ⟨[.dead,.dead,x2,x3,x4,.dead,x6,x7,.dead,.dead,.dead,.dead,.dead,.dead,.dead,.dead,.dead,.dead,.dead,.dead,.dead,.dead,.dead,.dead,.dead,.dead,.dead,.dead,.dead,.dead,.dead,.dead,.dead,.dead,.dead,.dead,.dead,.dead,.dead,.dead,.dead,.dead,.dead,.dead,.dead,.dead,.dead,.dead,.dead,.dead,.dead,.dead,.dead,.dead,.dead,.dead,.dead,.dead,.dead,.dead,.dead,.dead,.dead,.dead,.dead,.dead,.dead,.dead,.dead,.dead,.dead,.dead,.dead,.dead,.dead,.dead,.dead,.dead,.dead,.dead,.dead,.dead,.dead,.dead,.dead,.dead,.dead,.dead,.dead,.dead,.dead,.dead,.dead],hp⟩
abbrev r42_E0 (x4 x6 : PV) (hp : List Ent) : St := ⟨[.dead,.dead,.dead,.dead,x4,.dead,x6,.dead,.dead,.dead,.dead,.dead,.dead,.dead,.dead,.dead,.dead,.dead,.dead,.dead,.dead,.dead,.dead,.dead,.dead,.dead,.dead,.dead,.dead,.dead,.dead,.dead,.dead,.dead,.dead,.dead,.dead,.dead,.dead,.dead,.dead,.dead,.dead,.dead,.dead,.dead,.dead,.dead,.dead,.dead,.dead,.dead,.dead,.dead,.dead,.dead,.dead,.dead,.dead,.dead,.dead,.dead,.dead,.dead,.dead,.dead,.dead,.dead,.dead,.dead,.dead,.dead,.dead,.dead,.dead,.dead,.dead,.dead,.dead,.dead,.dead,.dead,.dead,.dead,.dead,.dead,.dead,.dead,.dead,.dead,.dead,.dead,.dead],hp⟩
theorem r42_B0_n {cf : CF} {a0 a1 x2 x3 x4 a5 x6 x7 a8 a9 a10 a11 a12 a13 a14 a15 a16 a17 a18 a19 a20 a21 a22 a23 a24 a25 a26 a27 a28 a29 a30 a31 a32 a33 a34 a35 a36 a37 a38 a39 a40 a41 a42 a43 a44 a45 a46 a47 a48 a49 a50 a51 a52 a53 a54 a55 a56 a57 a58 a59 a60 a61 a62 a63 a64 a65 a66 a67 a68 a69 a70 a71 a72 a73 a74 a75 a76 a77 a78 a79 a80 a81 a82 a83 a84 a85 a86 a87 a88 a89 a90 a91 a92 : PV} {hp : List Ent} : V cf r42_B0 ⟨[a0,a1,x2,x3,x4,a5,x6,x7,a8,a9,a10,a11,a12,a13,a14,a15,a16,a17,a18,a19,a20,a21,a22,a23,a24,a25,a26,a27,a28,a29,a30,a31,a32,a33,a34,a35,a36,a37,a38,a39,a40,a41,a42,a43,a44,a45,a46,a47,a48,a49,a50,a51,a52,a53,a54,a55,a56,a57,a58,a59,a60,a61,a62,a63,a64,a65,a66,a67,a68,a69,a70,a71,a72,a73,a74,a75,a76,a77,a78,a79,a80,a81,a82,a83,a84,a85,a86,a87,a88,a89,a90,a91,a92],hp⟩ = V cf r42_B0 (r42_S0 x2 x3 x4 x6 x7 hp) := by rw [r42_B0_eq,r42_B0_eq]; rfl
@[go_sem] def r42_K5 (_ : Unit) : RCode := .seq (.reg [⟨some 23,none,.fad 7 (.t 6)⟩,⟨none,none,.sto none (.t 23) (.c (.nilsl))⟩] [23] false) (.seq (.seq (.reg [⟨some 7,none,.mv false (.c (.d (.int .i64 0)))⟩] [] false) (r42_B0)) (.seq (.reg [⟨some 91,none,.ld false (some 8) (.t 6)⟩,⟨some 92,none,.bld [.int .i64 0,.str ⟨#[]⟩,.int .i64 0,.int .i64 0,.int .i64 0,.int .i64 0,.sl [],.sl [],.bool false,.str ⟨#[]⟩] [(0,8,(.t 91))]⟩,⟨none,none,.sto (some 10) (.t 4) (.t 92)⟩] [] false) (.ret [.kill,.kill,.kill,.kill,.keep])))
def r42_K6 (_ : Unit) : RCode := .seq (.reg [⟨some 20,none,.ld false (some 8) (.t 3)⟩,⟨some 6,none,.zal false [.d (.int .i64 0),.d (.str ⟨#[]⟩),.d (.int .i64 0),.d (.int .i64 0),.d (.int .i64 0),.d (.int .i64 0),.nilsl,.nilsl]⟩,⟨none,none,.sto (some 8) (.t 6) (.t 20)⟩] [] false) (.seq (.reg [⟨some 21,none,.mv false (.t 5)⟩,⟨some 22,none,.fad 2 (.t 6)⟩,⟨none,none,.sto none (.t 22) (.t 21)⟩] [22] false) (hold r42_K5))
abbrev r42_J6 (x2 x3 x4 x5 : PV) (hp : List Ent) : St := ⟨[.dead,.dead,x2,x3,x4,x5,.dead,.dead,.dead,.dead,.dead,.dead,.dead,.dead,.dead,.dead,.dead,.dead,.dead,.dead,.dead,.dead,.dead,.dead,.dead,.dead,.dead,.dead,.dead,.dead,.dead,.dead,.dead,.dead,.dead,.dead,.dead,.dead,.dead,.dead,.dead,.dead,.dead,.dead,.dead,.dead,.dead,.dead,.dead,.dead,.dead,.dead,.dead,.dead,.dead,.dead,.dead,.dead,.dead,.dead,.dead,.dead,.dead,.dead,.dead,.dead,.dead,.dead,.dead,.dead,.dead,.dead,.dead,.dead,.dead,.dead,.dead,.dead,.dead,.dead,.dead,.dead,.dead,.dead,.dead,.dead,.dead,.dead,.dead,.dead,.dead,.dead,.dead],hp⟩
@[go_sem] def r42_K7 (_ : Unit) : RCode := .seqc (.seq (.reg [⟨some 15,none,.mv false (.t 5)⟩,⟨some 16,none,.bin .lss (.t 15) (.c (.d (.int .i64 0)))⟩] [] false) (.cond (.t 16) (.seq (.reg [⟨some 17,none,.fad 1 (.t 3)⟩,⟨some 18,none,.ld false none (.t 17)⟩,⟨some 19,none,.bld [.int .i64 0,.str ⟨#[]⟩,.int .i64 0,.int .i64 0,.int .i64 0,.int .i64 0,.sl [],.sl [],.bool false,.str ⟨#[]⟩] [(8,1,(.c (.d (.bool true)))),(9,1,(.t 18))]⟩,⟨none,none,.sto (some 10) (.t 4) (.t 19)⟩] [17] false) (.ret [.kill,.kill,.kill,.kill,.keep])) (.skip))) [.kill,.kill,.keep,.keep,.keep,.keep] (hold r42_K6)
abbrev r42_R (x4 : PV) (hp : List Ent) : St := ⟨[.dead,.dead,.dead,.dead,x4,.dead,.dead,.dead,.dead,.dead,.dead,.dead,.dead,.dead,.dead,.dead,.dead,.dead,.dead,.dead,.dead,.dead,.dead,.dead,.dead,.dead,.dead,.dead,.dead,.dead,.dead,.dead,.dead,.dead,.dead,.dead,.dead,.dead,.dead,.dead,.dead,.dead,.dead,.dead,.dead,.dead,.dead,.dead,.dead,.dead,.dead,.dead,.dead,.dead,.dead,.dead,.dead,.dead,.dead,.dead,.dead,.dead,.dead,.dead,.dead,.dead,.dead,.dead,.dead,.dead,.dead,.dead,.dead,.dead,.dead,.dead,.dead,.dead,.dead,.dead,.dead,.dead,.dead,.dead,.dead,.dead,.dead,.dead,.dead,.dead,.dead,.dead,.dead],hp⟩
def r42_T : RCode := .seqf (.reg [⟨some 2,none,.bx false true (.t 0)⟩,⟨some 3,none,.bx false true (.t 1)⟩,⟨some 4,none,.zal false [.d (.int .i64 0),.d (.str ⟨#[]⟩),.d (.int .i64 0),.d (.int .i64 0),.d (.int .i64 0),.d (.int .i64 0),.nilsl,.nilsl,.d (.bool false),.d (.str ⟨#[]⟩)]⟩] [] false) 2 (.seqf (.reg [⟨some 12,none,.ld false (some 3) (.t 2)⟩,⟨some 13,none,.ld false (some 8) (.t 3)⟩,⟨some 14,none,.call false (.f 74) [(.t 12),(.t 13)]⟩,⟨some 5,none,.mv false (.t 14)⟩] [] false) 3 (hold r42_K7))
def r42 : RFunc := ⟨93,true,[.cell 4 (some 10)],r42_T⟩
def r25_K0 (_ : Unit) : RCode := .seq (.reg [⟨some 38,none,.fad 0 (.t 8)⟩,⟨some 39,none,.ld false (some 8) (.t 38)⟩,⟨some 40,none,.fad 2 (.t 7)⟩,⟨none,none,.sto (some 8) (.t 40) (.t 39)⟩] [38,40] false) (.reg [⟨some 41,none,.fad 0 (.t 5)⟩,⟨some 42,none,.ld true none (.t 41)⟩,⟨some 43,none,.ld false (some 10) (.t 7)⟩,⟨some 44,none,.bsl 44 10 [(.t 43)]⟩,⟨some 45,none,.app 44 10 144 (.t 42) (.t 44)⟩,⟨some 46,none,.fad 0 (.t 5)⟩,⟨none,none,.sto none (.t 46) (.t 45)⟩] [41,46] false)
abbrev r25_J0 (x1 x2 x5 x6 x7 x8 : PV) (hp : List Ent) : St := ⟨[.dead,x1,x2,.dead,.dead,x5,x6,x7,x8,.dead,.dead,.dead,.dead,.dead,.dead,.dead,.dead,.dead,.dead,.dead,.dead,.dead,.dead,.dead,.dead,.dead,.dead,.dead,.dead,.dead,.dead,.dead,.dead,.dead,.dead,.dead,.dead,.dead,.dead,.dead,.dead,.dead,.dead,.dead,.dead,.dead,.dead,.dead,.dead,.dead,.dead,.dead,.dead,.dead,.dead,.dead,.dead,.dead,.dead,.dead,.dead,.dead],hp⟩
@[go_sem] def r25_K1 (_ : Unit) : RCode := .seqc (.seq (.reg [⟨some 33,none,.fad 8 (.t 8)⟩,⟨some 34,none,.ld false none (.t 33)⟩] [33] false) (.cond (.t 34) (.seq (.reg [⟨some 35,none,.bld [.sl [],.int .i64 0,.str ⟨#[]⟩,.int .i64 0,.int .i64 0,.int .i64 0,.int .i64 0,.sl [],.sl []] []⟩,⟨some 36,none,.fad 9 (.t 8)⟩,⟨some 37,none,.lde none (.t 36)⟩,⟨none,none,.sto (some 9) (.t 2) (.t 35)⟩,⟨some 3,none,.mv false (.t 37)⟩,⟨some 4,none,.mv false (.c (.d (.bool false)))⟩] [36] true) (.ret [.kill,.kill,.keep,.keep,.keep])) (.skip))) [.kill,.keep,.keep,.kill,.kill,.keep,.keep,.keep,.keep] (hold r25_K0)
@[go_sem] def r25_K2 (_ : Unit) : RCode := .seqf (.reg [⟨some 22,none,.fad 0 (.t 1)⟩,⟨some 23,none,.lde none (.t 22)⟩,⟨some 24,none,.mv false (.t 6)⟩,⟨some 25,none,.bin .add (.t 24) (.c (.d (.int .i64 1)))⟩,⟨some 26,none,.slc (some 10) (.t 23) none (some (.t 25)) none⟩,⟨some 27,none,.fad 1 (.t 7)⟩,⟨some 28,none,.ld false none (.t 27)⟩,⟨some 29,none,.bld [.sl [],.sl [],.sl []] [(0,1,(.t 26)),(1,1,(.t 28))]⟩,⟨some 30,none,.fad 2 (.t 7)⟩,⟨some 31,none,.ld false (some 8) (.t 30)⟩,⟨some 32,none,.call false (.f 42) [(.t 29),(.t 31)]⟩,⟨some 8,none,.zal false [.d (.int .i64 0),.d (.str ⟨#[]⟩),.d (.int .i64 0),.d (.int .i64 0),.d (.int .i64 0),.d (.int .i64 0),.nilsl,.nilsl,.d (.bool false),.d (.str ⟨#[]⟩)]⟩,⟨none,none,.sto (some 10) (.t 8) (.t 32)⟩] [22,27,30] true) 8 (hold r25_K1)
def r25_K3 (_ : Unit) : RCode := .seq (.block 1 [.kill,.keep,.keep,.kill,.kill,.keep,.keep] (.seq (.reg [⟨some 17,none,.fad 0 (.t 1)⟩,⟨some 18,none,.ld false none (.t 17)⟩,⟨some 19,none,.mv false (.t 6)⟩,⟨some 20,none,.iad none 10 (.t 18) (.t 19)⟩,⟨some 21,none,.ld false (some 10) (.t 20)⟩,⟨some 7,none,.zal false [.d (.str ⟨#[]⟩),.nilsl,.d (.int .i64 0),.d (.str ⟨#[]⟩),.d (.int .i64 0),.d (.int .i64 0),.d (.int .i64 0),.d (.int .i64 0),.nilsl,.nilsl]⟩,⟨none,none,.sto (some 10) (.t 7) (.t 21)⟩] [17,20] false) (hold r25_K2))) (.reg [⟨some 15,none,.mv false (.t 6)⟩,⟨some 16,none,.bin .add (.t 15) (.c (.d (.int .i64 1)))⟩,⟨some 6,none,.mv false (.t 16)⟩] [] false)
abbrev r25_J3 (x1 x2 x5 x6 : PV) (hp : List Ent) : St := ⟨[.dead,x1,x2,.dead,.dead,x5,x6,.dead,.dead,.dead,.dead,.dead,.dead,.dead,.dead,.dead,.dead,.dead,.dead,.dead,.dead,.dead,.dead,.dead,.dead,.dead,.dead,.dead,.dead,.dead,.dead,.dead,.dead,.dead,.dead,.dead,.dead,.dead,.dead,.dead,.dead,.dead,.dead,.dead,.dead,.dead,.dead,.dead,.dead,.dead,.dead,.dead,.dead,.dead,.dead,.dead,.dead,.dead,.dead,.dead,.dead,.dead],hp⟩
def r25_C0 : RCode := .seqc (.seq (.reg [⟨some 10,none,.mv false (.t 6)⟩,⟨some 11,none,.fad 0 (.t 1)⟩,⟨some 12,none,.ld false none (.t 11)⟩,⟨some 13,none,.len false (.t 12)⟩,⟨some 14,none,.bin .lss (.t 10) (.t 13)⟩] [11] false) (.cond (.t 14) (.skip) (.exit 0))) [.kill,.keep,.keep,.kill,.kill,.keep,.keep] (hold r25_K3)
def r25_B0 : RCode := .block 0 [.kill,.keep,.keep,.kill,.kill,.keep] (.loop [.kill,.keep,.keep,.kill,.kill,.keep,.keep] r25_C0)
theorem r25_B0_eq {cf : CF} {s : St} : V cf r25_B0 s = loopK cf r25_B0 0 [.kill,.keep,.keep,.kill,.kill,.keep] [.kill,.keep,.keep,.kill,.kill,.keep,.keep] (V cf r25_C0 (s.head [.kill,.keep,.keep,.kill,.kill,.keep,.keep])) := V_bloop
abbrev r25_S0 (x1 x2 x5 x6 : PV) (hp : List Ent) : St := ⟨[.dead,x1,x2,.dead,.dead,x5,x6,.dead,.dead,.dead,.dead,.dead,.dead,.dead,.dead,.dead,.dead,.dead,.dead,.dead,.dead,.dead,.dead,.dead,.dead,.dead,.dead,.dead,.dead,.dead,.dead,.dead,.dead,.dead,.dead,.dead,.dead,.dead,.dead,.dead,.dead,.dead,.dead,.dead,.dead,.dead,.dead,.dead,.dead,.dead,.dead,.dead,.dead,.dead,.dead,.dead,.dead,.dead,.dead,.dead,.dead,.dead],hp⟩
abbrev r25_E0 (x1 x2 x5 : PV) (hp : List Ent) : St := ⟨[.dead,x1,x2,.dead,.dead,x5,.dead,.dead,.dead,.dead,.dead,.dead,.dead,.dead,.dead,.dead,.dead,.dead,.dead,.dead,.dead,.dead,.dead,.dead,.dead,.dead,.dead,.dead,.dead,.dead,.dead,.dead,.dead,.dead,.dead,.dead,.dead,.dead,.dead,.dead,.dead,.dead,.dead,.dead,.dead,.dead,.dead,.dead,.dead,.dead,.dead,.dead,.dead,.dead,.dead,.dead,.dead,.dead,.dead,.dead,.dead,.dead],hp⟩
theorem r25_B0_n {cf : CF} {a0 x1 x2 a3 a4 x5 x6 a7 a8 a9 a10 a11 a12 a13 a14 a15 a16 a17 a18 a19 a20 a21 a22 a23 a24 a25 a26 a27 a28 a29 a30 a31 a32 a33 a34 a35 a36 a37 a38 a39 a40 a41 a42 a43 a44 a45 a46 a47 a48 a49 a50 a51 a52 a53 a54 a55 a56 a57 a58 a59 a60 a61 : PV} {hp : List Ent} : V cf r25_B0 ⟨[a0,x1,x2,a3,a4,x5,x6,a7,a8,a9,a10,a11,a12,a13,a14,a15,a16,a17,a18,a19,a20,a21,a22,a23,a24,a25,a26,a27,a28,a29,a30,a31,a32,a33,a34,a35,a36,a37,a38,a39,a40,a41,a42,a43,a44,a45,a46,a47,a48,a49,a50,a51,a52,a53,a54,a55,a56,a57,a58,a59,a60,a61],hp⟩ = V cf r25_B0 (r25_S0 x1 x2 x5 x6 hp) := by rw [r25_B0_eq,r25_B0_eq]; rfl
def r25_K4 (_ : Unit) : RCode := .seq (.reg [⟨some 58,none,.fad 0 (.t 9)⟩,⟨some 59,none,.ld false (some 8) (.t 58)⟩,⟨some 60,none,.fad 1 (.t 5)⟩,⟨none,none,.sto (some 8) (.t 60) (.t 59)⟩] [58,60] false) (.seq (.reg [⟨some 61,none,.ld false (some 9) (.t 5)⟩,⟨none,none,.sto (some 9) (.t 2) (.t 61)⟩,⟨some 3,none,.mv false (.c (.d (.str ⟨#[]⟩)))⟩,⟨some 4,none,.mv false (.c (.d (.bool true)))⟩] [] false) (.ret [.kill,.kill,.keep,.keep,.keep]))
abbrev r25_J4 (x2 x5 x9 : PV) (hp : List Ent) : St := ⟨[.dead,.dead,x2,.dead,.dead,x5,.dead,.dead,.dead,x9,.dead,.dead,.dead,.dead,.dead,.dead,.dead,.dead,.dead,.dead,.dead,.dead,.dead,.dead,.dead,.dead,.dead,.dead,.dead,.dead,.dead,.dead,.dead,.dead,.dead,.dead,.dead,.dead,.dead,.dead,.dead,.dead,.dead,.dead,.dead,.dead,.dead,.dead,.dead,.dead,.dead,.dead,.dead,.dead,.dead,.dead,.dead,.dead,.dead,.dead,.dead,.dead],hp⟩
@[go_sem] def r25_K5 (_ : Unit) : RCode := .seqc (.seq (.reg [⟨some 53,none,.fad 8 (.t 9)⟩,⟨some 54,none,.ld false none (.t 53)⟩] [53] false) (.cond (.t 54) (.seq (.reg [⟨some 55,none,.bld [.sl [],.int .i64 0,.str ⟨#[]⟩,.int .i64 0,.int .i64 0,.int .i64 0,.int .i64 0,.sl [],.sl []] []⟩,⟨some 56,none,.fad 9 (.t 9)⟩,⟨some 57,none,.lde none (.t 56)⟩,⟨none,none,.sto (some 9) (.t 2) (.t 55)⟩,⟨some 3,none,.mv false (.t 57)⟩,⟨some 4,none,.mv false (.c (.d (.bool false)))⟩] [56] true) (.ret [.kill,.kill,.keep,.keep,.keep])) (.skip))) [.kill,.kill,.keep,.kill,.kill,.keep,.kill,.kill,.kill,.keep] (hold r25_K4)
def r25_K6 (_ : Unit) : RCode := .seqf (.reg [⟨some 47,none,.fad 0 (.t 1)⟩,⟨some 48,none,.ld false none (.t 47)⟩,⟨some 49,none,.bld [.sl [],.sl [],.sl []] [(0,1,(.t 48))]⟩,⟨some 50,none,.fad 1 (.t 1)⟩,⟨some 51,none,.ld false (some 8) (.t 50)⟩,⟨some 52,none,.call false (.f 42) [(.t 49),(.t 51)]⟩,⟨some 9,none,.zal false [.d (.int .i64 0),.d (.str ⟨#[]⟩),.d (.int .i64 0),.d (.int .i64 0),.d (.int .i64 0),.d (.int .i64 0),.nilsl,.nilsl,.d (.bool false),.d (.str ⟨#[]⟩)]⟩,⟨none,none,.sto (some 10) (.t 9) (.t 52)⟩] [47,50] false) 9 (hold r25_K5)
abbrev r25_J6 (x1 x2 x5 : PV) (hp : List Ent) : St := ⟨[.dead,x1,x2,.dead,.dead,x5,.dead,.dead,.dead,.dead,.dead,.dead,.dead,.dead,.dead,.dead,.dead,.dead,.dead,.dead,.dead,.dead,.dead,.dead,.dead,.dead,.dead,.dead,.dead,.dead,.dead,.dead,.dead,.dead,.dead,.dead,.dead,.dead,.dead,.dead,.dead,.dead,.dead,.dead,.dead,.dead,.dead,.dead,.dead,.dead,.dead,.dead,.dead,.dead,.dead,.dead,.dead,.dead,.dead,.dead,.dead,.dead],hp⟩
abbrev r25_R (x2 x3 x4 : PV) (hp : List Ent) : St := ⟨[.dead,.dead,x2,x3,x4,.dead,.dead,.dead,.dead,.dead,.dead,.dead,.dead,.dead,.dead,.dead,.dead,.dead,.dead,.dead,.dead,.dead,.dead,.dead,.dead,.dead,.dead,.dead,.dead,.dead,.dead,.dead,.dead,.dead,.dead,.dead,.dead,.dead,.dead,.dead,.dead,.dead,.dead,.dead,.dead,.dead,.dead,.dead,.dead,.dead,.dead,.dead,.dead,.dead,.dead,.dead,.dead,.dead,.dead,.dead,.dead,.dead],hp⟩
def r25_T : RCode := .seqf (.reg [⟨some 1,none,.bx false true (.t 0)⟩,⟨some 2,none,.zal false [.nilsl,.d (.int .i64 0),.d (.str ⟨#[]⟩),.d (.int .i64 0),.d (.int .i64 0),.d (.int .i64 0),.d (.int .i64 0),.nilsl,.nilsl]⟩,⟨some 3,none,.mv false (.c (.d (.str ⟨#[]⟩)))⟩,⟨some 4,none,.mv false (.c (.d (.bool false)))⟩] [] false) 1 (.seq (.reg [⟨some 5,none,.zal false [.nilsl,.d (.int .i64 0),.d (.str ⟨#[]⟩),.d (.int .i64 0),.d (.int .i64 0),.d (.int .i64 0),.d (.int .i64 0),.nilsl,.nilsl]⟩] [] false) (.seqc (.seq (.reg [⟨some 6,none,.mv false (.c (.d (.int .i64 0)))⟩] [] false) (r25_B0)) [.kill,.keep,.keep,.kill,.kill,.keep] (hold r25_K6)))
def r25 : RFunc := ⟨62,true,[.cell 2 (some 9),.t 3,.t 4],r25_T⟩
@[go_sem] def r46_K0 (_ : Unit) : RCode := .seq (.reg [⟨some 16,none,.mv false (.t 0)⟩,⟨some 17,none,.mv false (.t 5)⟩,⟨some 18,none,.iad none 1 (.t 16) (.t 17)⟩,⟨some 19,none,.ld false none (.t 18)⟩,⟨some 20,none,.mv false (.t 1)⟩,⟨some 21,none,.mv false (.t 5)⟩,⟨some 22,none,.iad none 1 (.t 20) (.t 21)⟩,⟨some 23,none,.ld false none (.t 22)⟩,⟨some 24,none,.bin .neq (.t 19) (.t 23)⟩] [18,22] true) (.cond (.t 24) (.seq (.reg [⟨some 4,none,.mv false (.c (.d (.bool false)))⟩] [] false) (.ret [.kill,.kill,.kill,.kill,.keep])) (.skip))
def r46_C0 : RCode := .seq (.reg [⟨some 14,none,.bin .lss (.t 13) (.t 12)⟩] [] false) (.seq (.cond (.t 14) (.skip) (.exit 0)) (.seq (.block 1 [.keep,.keep,.kill,.kill,.kill,.kill,.kill,.kill,.kill,.kill,.kill,.kill,.keep,.keep] (.seq (.reg [⟨some 15,none,.mv false (.t 13)⟩,⟨some 5,none,.mv false (.t 15)⟩] [] false) (hold r46_K0))) (.reg [⟨some 25,none,.bin .add (.t 13) (.c (.d (.int .i64 1)))⟩,⟨some 13,none,.mv false (.t 25)⟩] [] false)))
def r46_B0 : RCode := .block 0 [] (.loop [.keep,.keep,.kill,.kill,.kill,.kill,.kill,.kill,.kill,.kill,.kill,.kill,.keep,.keep] r46_C0)
theorem r46_B0_eq {cf : CF} {s : St} : V cf r46_B0 s = loopK cf r46_B0 0 [] [.keep,.keep,.kill,.kill,.kill,.kill,.kill,.kill,.kill,.kill,.kill,.kill,.keep,.keep] (V cf r46_C0 (s.head [.keep,.keep,.kill,.kill,.kill,.kill,.kill,.kill,.kill,.kill,.kill,.kill,.keep,.keep])) := V_bloop
abbrev r46_S0 (x0 x1 x12 x13 : PV) (hp : List Ent) : St := ⟨[x0,x1,.dead,.dead,.dead,.dead,.dead,.dead,.dead,.dead,.dead,.dead,x12,x13,.dead,.dead,.dead,.dead,.dead,.dead,.dead,.dead,.dead,.dead,.dead,.dead],hp⟩
abbrev r46_E0  (hp : List Ent) : St := ⟨[.dead,.dead,.dead,.dead,.dead,.dead,.dead,.dead,.dead,.dead,.dead,.dead,.dead,.dead,.dead,.dead,.dead,.dead,.dead,.dead,.dead,.dead,.dead,.dead,.dead,.dead],hp⟩
theorem r46_B0_n {cf : CF} {x0 x1 a2 a3 a4 a5 a6 a7 a8 a9 a10 a11 x12 x13 a14 a15 a16 a17 a18 a19 a20 a21 a22 a23 a24 a25 : PV} {hp : List Ent} : V cf r46_B0 ⟨[x0,x1,a2,a3,a4,a5,a6,a7,a8,a9,a10,a11,x12,x13,a14,a15,a16,a17,a18,a19,a20,a21,a22,a23,a24,a25],hp⟩ = V cf r46_B0 (r46_S0 x0 x1 x12 x13 hp) := by rw [r46_B0_eq,r46_B0_eq]; rfl
@[go_sem] def r46_K1 (_ : Unit) : RCode := .seq (.seq (.reg [⟨some 6,none,.mv false (.t 0)⟩,⟨some 7,none,.len false (.t 6)⟩,⟨some 8,none,.mv false (.t 1)⟩,⟨some 9,none,.len false (.t 8)⟩,⟨some 10,none,.bin .neq (.t 7) (.t 9)⟩] [] false) (.cond (.t 10) (.seq (.reg [⟨some 4,none,.mv false (.c (.d (.bool false)))⟩] [] false) (.ret [.kill,.kill,.kill,.kill,.keep])) (.skip))) (.seq (.seq (.reg [⟨some 11,none,.mv false (.t 0)⟩,⟨some 12,none,.len false (.t 11)⟩,⟨some 13,none,.mv false (.c (.d (.int .i64 0)))⟩] [] false) (r46_B0)) (.seq (.reg [⟨some 4,none,.mv false (.c (.d (.bool true)))⟩] [] false) (.ret [.kill,.kill,.kill,.kill,.keep])))
abbrev r46_R (x4 : PV) (hp : List Ent) : St := ⟨[.dead,.dead,.dead,.dead,x4,.dead,.dead,.dead,.dead,.dead,.dead,.dead,.dead,.dead,.dead,.dead,.dead,.dead,.dead,.dead,.dead,.dead,.dead,.dead,.dead,.dead],hp⟩
def r46_T : RCode := .seq (.reg [⟨some 4,none,.mv false (.c (.d (.bool false)))⟩] [] false) (hold r46_K1)
def r46 : RFunc := ⟨26,true,[.t 4],r46_T⟩
@[go_sem] def r75_K0 (_ : Unit) : RCode := .seq (.reg [⟨some 22,none,.mv false (.t 1)⟩,⟨some 23,none,.mv false (.t 7)⟩,⟨some 24,none,.iad none 8 (.t 22) (.t 23)⟩,⟨some 25,none,.ld false (some 8) (.t 24)⟩,⟨some 9,none,.zal false [.d (.int .i64 0),.d (.str ⟨#[]⟩),.d (.int .i64 0),.d (.int .i64 0),.d (.int .i64 0),.d (.int .i64 0),.nilsl,.nilsl]⟩,⟨none,none,.sto (some 8) (.t 9) (.t 25)⟩] [24] false) (.seq (.reg [⟨some 26,none,.mv false (.t 2)⟩,⟨some 27,none,.ld false (some 8) (.t 8)⟩,⟨some 28,none,.ld false (some 8) (.t 9)⟩,⟨some 29,none,.call false (.t 26) [(.t 27),(.t 28)]⟩,⟨some 30,none,.un .not (.t 29)⟩] [] false) (.cond (.t 30) (.seq (.reg [⟨some 6,none,.mv false (.c (.d (.bool false)))⟩] [] false) (.ret [.kill,.kill,.kill,.kill,.kill,.kill,.keep])) (.skip)))
@[go_sem] def r75_K1 (_ : Unit) : RCode := .seq (.block 1 [.kill,.keep,.keep,.kill,.kill,.kill,.kill,.kill,.kill,.kill,.kill,.kill,.kill,.kill,.kill,.keep,.keep,.keep] (.seq (.reg [⟨some 19,none,.mv false (.t 17)⟩,⟨some 20,none,.iad none 8 (.t 15) (.t 17)⟩,⟨some 21,none,.ld false (some 8) (.t 20)⟩,⟨some 8,none,.zal false [.d (.int .i64 0),.d (.str ⟨#[]⟩),.d (.int .i64 0),.d (.int .i64 0),.d (.int .i64 0),.d (.int .i64 0),.nilsl,.nilsl]⟩,⟨some 7,none,.mv false (.t 19)⟩,⟨none,none,.sto (some 8) (.t 8) (.t 21)⟩] [20] false) (hold r75_K0))) (.reg [⟨some 31,none,.bin .add (.t 17) (.c (.d (.int .i64 1)))⟩,⟨some 17,none,.mv false (.t 31)⟩] [] false)
def r75_C0 : RCode := .seq (.reg [⟨some 18,none,.bin .lss (.t 17) (.t 16)⟩] [] false) (.seq (.cond (.t 18) (.skip) (.exit 0)) (hold r75_K1))
def r75_B0 : RCode := .block 0 [] (.loop [.kill,.keep,.keep,.kill,.kill,.kill,.kill,.kill,.kill,.kill,.kill,.kill,.kill,.kill,.kill,.keep,.keep,.keep] r75_C0)
theorem r75_B0_eq {cf : CF} {s : St} : V cf r75_B0 s = loopK cf r75_B0 0 [] [.kill,.keep,.keep,.kill,.kill,.kill,.kill,.kill,.kill,.kill,.kill,.kill,.kill,.kill,.kill,.keep,.keep,.keep] (V cf r75_C0 (s.head [.kill,.keep,.keep,.kill,.kill,.kill,.kill,.kill,.kill,.kill,.kill,.kill,.kill,.kill,.kill,.keep,.keep,.keep])) := V_bloop
abbrev r75_S0 (x1 x2 x15 x16 x17 : PV) (hp : List Ent) : St := ⟨[.dead,x1,x2,.dead,.dead,.dead,.dead,.dead,.dead,.dead,.dead,.dead,.dead,.dead,.dead,x15,x16,x17,.dead,.dead,.dead,.dead,.dead,.dead,.dead,.dead,.dead,.dead,.dead,.dead,.dead,.dead],hp⟩
abbrev r75_E0  (hp : List Ent) : St := ⟨[.dead,.dead,.dead,.dead,.dead,.dead,.dead,.dead,.dead,.dead,.dead,.dead,.dead,.dead,.dead,.dead,.dead,.dead,.dead,.dead,.dead,.dead,.dead,.dead,.dead,.dead,.dead,.dead,.dead,.dead,.dead,.dead],hp⟩
theorem r75_B0_n {cf : CF} {a0 x1 x2 a3 a4 a5 a6 a7 a8 a9 a10 a11 a12 a13 a14 x15 x16 x17 a18 a19 a20 a21 a22 a23 a24 a25 a26 a27 a28 a29 a30 a31 : PV} {hp : List Ent} : V cf r75_B0 ⟨[a0,x1,x2,a3,a4,a5,a6,a7,a8,a9,a10,a11,a12,a13,a14,x15,x16,x17,a18,a19,a20,a21,a22,a23,a24,a25,a26,a27,a28,a29,a30,a31],hp⟩ = V cf r75_B0 (r75_S0 x1 x2 x15 x16 x17 hp) := by rw [r75_B0_eq,r75_B0_eq]; rfl
@[go_sem] def r75_K2 (_ : Unit) : RCode := .seq (.seq (.reg [⟨some 10,none,.mv false (.t 0)⟩,⟨some 11,none,.len false (.t 10)⟩,⟨some 12,none,.mv false (.t 1)⟩,⟨some 13,none,.len false (.t 12)⟩,⟨some 14,none,.bin .neq (.t 11) (.t 13)⟩] [] false) (.cond (.t 14) (.seq (.reg [⟨some 6,none,.mv false (.c (.d (.bool false)))⟩] [] false) (.ret [.kill,.kill,.kill,.kill,.kill,.kill,.keep])) (.skip))) (.seq (.seq (.reg [⟨some 15,none,.mv false (.t 0)⟩,⟨some 16,none,.len false (.t 15)⟩,⟨some 17,none,.mv false (.c (.d (.int .i64 0)))⟩] [] false) (r75_B0)) (.seq (.reg [⟨some 6,none,.mv false (.c (.d (.bool true)))⟩] [] false) (.ret [.kill,.kill,.kill,.kill,.kill,.kill,.keep])))
abbrev r75_R (x6 : PV) (hp : List Ent) : St := ⟨[.dead,.dead,.dead,.dead,.dead,.dead,x6,.dead,.dead,.dead,.dead,.dead,.dead,.dead,.dead,.dead,.dead,.dead,.dead,.dead,.dead,.dead,.dead,.dead,.dead,.dead,.dead,.dead,.dead,.dead,.dead,.dead],hp⟩
def r75_T : RCode := .seq (.reg [⟨some 6,none,.mv false (.c (.d (.bool false)))⟩] [] false) (hold r75_K2)
def r75 : RFunc := ⟨32,false,[.t 6],r75_T⟩
@[go_sem] def r43_K0 (_ : Unit) : RCode := .seq (.seq (.reg [⟨some 5,none,.fad 0 (.t 2)⟩,⟨some 6,none,.ld false none (.t 5)⟩,⟨some 7,none,.fad 0 (.t 3)⟩,⟨some 8,none,.ld false none (.t 7)⟩,⟨some 9,none,.bin .neq (.t 6) (.t 8)⟩,⟨some 10,none,.mv false (.t 9)⟩,⟨some 11,some (10,false),.fad 1 (.t 2)⟩,⟨some 12,some (10,false),.ld false none (.t 11)⟩,⟨some 13,some (10,false),.fad 1 (.t 3)⟩,⟨some 14,some (10,false),.ld false none (.t 13)⟩,⟨some 15,some (10,false),.bin .neq (.t 12) (.t 14)⟩,⟨some 16,none,.pick (.t 10) (.c (.d (.bool true))) (.t 15)⟩,⟨some 17,none,.mv false (.t 16)⟩,⟨some 18,some (17,false),.fad 2 (.t 2)⟩,⟨some 19,some (17,false),.ld false none (.t 18)⟩,⟨some 20,some (17,false),.fad 2 (.t 3)⟩,⟨some 21,some (17,false),.ld false none (.t 20)⟩,⟨some 22,some (17,false),.bin .neq (.t 19) (.t 21)⟩,⟨some 23,none,.pick (.t 17) (.c (.d (.bool true))) (.t 22)⟩,⟨some 24,none,.mv false (.t 23)⟩,⟨some 25,some (24,false),.fad 3 (.t 2)⟩,⟨some 26,some (24,false),.ld false none (.t 25)⟩,⟨some 27,some (24,false),.fad 3 (.t 3)⟩,⟨some 28,some (24,false),.ld false none (.t 27)⟩,⟨some 29,some (24,false),.bin .neq (.t 26) (.t 28)⟩,⟨some 30,none,.pick (.t 24) (.c (.d (.bool true))) (.t 29)⟩,⟨some 31,none,.mv false (.t 30)⟩,⟨some 32,some (31,false),.fad 4 (.t 2)⟩,⟨some 33,some (31,false),.ld false (some 2) (.t 32)⟩,⟨some 34,some (31,false),.fad 4 (.t 3)⟩,⟨some 35,some (31,false),.ld false (some 2) (.t 34)⟩,⟨some 36,some (31,false),.eqv true (.st [(0,1,.i),(1,1,.i)]) (.t 33) (.t 35)⟩,⟨some 37,none,.pick (.t 31) (.c (.d (.bool true))) (.t 36)⟩,⟨some 38,none,.mv false (.t 37)⟩,⟨some 39,some (38,false),.fad 6 (.t 2)⟩,⟨some 40,some (38,false),.ld false none (.t 39)⟩,⟨some 41,some (38,false),.fad 6 (.t 3)⟩,⟨some 42,some (38,false),.ld false none (.t 41)⟩,⟨some 43,some (38,false),.call false (.f 46) [(.t 40),(.t 42)]⟩,⟨some 44,some (38,false),.un .not (.t 43)⟩,⟨some 45,none,.pick (.t 38) (.c (.d (.bool true))) (.t 44)⟩] [5,7,11,13,18,20,25,27,32,34,39,41] false) (.cond (.t 45) (.seq (.reg [⟨some 4,none,.mv false (.c (.d (.bool false)))⟩] [] false) (.ret [.kill,.kill,.kill,.kill,.keep])) (.skip))) (.seq (.reg [⟨some 46,none,.fad 7 (.t 2)⟩,⟨some 47,none,.ld false none (.t 46)⟩,⟨some 48,none,.fad 7 (.t 3)⟩,⟨some 49,none,.ld false none (.t 48)⟩,⟨some 50,none,.call false (.f 75) [(.t 47),(.t 49),(.f 43)]⟩,⟨some 4,none,.mv false (.t 50)⟩] [46,48] false) (.ret [.kill,.kill,.kill,.kill,.keep]))
abbrev r43_R (x4 : PV) (hp : List Ent) : St := ⟨[.dead,.dead,.dead,.dead,x4,.dead,.dead,.dead,.dead,.dead,.dead,.dead,.dead,.dead,.dead,.dead,.dead,.dead,.dead,.dead,.dead,.dead,.dead,.dead,.dead,.dead,.dead,.dead,.dead,.dead,.dead,.dead,.dead,.dead,.dead,.dead,.dead,.dead,.dead,.dead,.dead,.dead,.dead,.dead,.dead,.dead,.dead,.dead,.dead,.dead,.dead],hp⟩
def r43_T : RCode := .seq (.reg [⟨some 2,none,.bx false true (.t 0)⟩,⟨some 3,none,.bx false true (.t 1)⟩,⟨some 4,none,.mv false (.c (.d (.bool false)))⟩] [] false) (hold r43_K0)
def r43 : RFunc := ⟨51,true,[.t 4],r43_T⟩
@[go_sem] def r44_K0 (_ : Unit) : RCode := .seq (.reg [⟨some 22,none,.mv false (.t 1)⟩,⟨some 23,none,.mv false (.t 7)⟩,⟨some 24,none,.iad none 10 (.t 22) (.t 23)⟩,⟨some 25,none,.ld false (some 10) (.t 24)⟩,⟨some 9,none,.zal false [.d (.str ⟨#[]⟩),.nilsl,.d (.int .i64 0),.d (.str ⟨#[]⟩),.d (.int .i64 0),.d (.int .i64 0),.d (.int .i64 0),.d (.int .i64 0),.nilsl,.nilsl]⟩,⟨none,none,.sto (some 10) (.t 9) (.t 25)⟩] [24] false) (.seq (.reg [⟨some 26,none,.mv false (.t 2)⟩,⟨some 27,none,.ld false (some 10) (.t 8)⟩,⟨some 28,none,.ld false (some 10) (.t 9)⟩,⟨some 29,none,.call false (.t 26) [(.t 27),(.t 28)]⟩,⟨some 30,none,.un .not (.t 29)⟩] [] false) (.cond (.t 30) (.seq (.reg [⟨some 6,none,.mv false (.c (.d (.bool false)))⟩] [] false) (.ret [.kill,.kill,.kill,.kill,.kill,.kill,.keep])) (.skip)))
@[go_sem] def r44_K1 (_ : Unit) : RCode := .seq (.block 1 [.kill,.keep,.keep,.kill,.kill,.kill,.kill,.kill,.kill,.kill,.kill,.kill,.kill,.kill,.kill,.keep,.keep,.keep] (.seq (.reg [⟨some 19,none,.mv false (.t 17)⟩,⟨some 20,none,.iad none 10 (.t 15) (.t 17)⟩,⟨some 21,none,.ld false (some 10) (.t 20)⟩,⟨some 8,none,.zal false [.d (.str ⟨#[]⟩),.nilsl,.d (.int .i64 0),.d (.str ⟨#[]⟩),.d (.int .i64 0),.d (.int .i64 0),.d (.int .i64 0),.d (.int .i64 0),.nilsl,.nilsl]⟩,⟨some 7,none,.mv false (.t 19)⟩,⟨none,none,.sto (some 10) (.t 8) (.t 21)⟩] [20] false) (hold r44_K0))) (.reg [⟨some 31,none,.bin .add (.t 17) (.c (.d (.int .i64 1)))⟩,⟨some 17,none,.mv false (.t 31)⟩] [] false)
def r44_C0 : RCode := .seq (.reg [⟨some 18,none,.bin .lss (.t 17) (.t 16)⟩] [] false) (.seq (.cond (.t 18) (.skip) (.exit 0)) (hold r44_K1))
def r44_B0 : RCode := .block 0 [] (.loop [.kill,.keep,.keep,.kill,.kill,.kill,.kill,.kill,.kill,.kill,.kill,.kill,.kill,.kill,.kill,.keep,.keep,.keep] r44_C0)
theorem r44_B0_eq {cf : CF} {s : St} : V cf r44_B0 s = loopK cf r44_B0 0 [] [.kill,.keep,.keep,.kill,.kill,.kill,.kill,.kill,.kill,.kill,.kill,.kill,.kill,.kill,.kill,.keep,.keep,.keep] (V cf r44_C0 (s.head [.kill,.keep,.keep,.kill,.kill,.kill,.kill,.kill,.kill,.kill,.kill,.kill,.kill,.kill,.kill,.keep,.keep,.keep])) := V_bloop
abbrev r44_S0 (x1 x2 x15 x16 x17 : PV) (hp : List Ent) : St := ⟨[.dead,x1,x2,.dead,.dead,.dead,.dead,.dead,.dead,.dead,.dead,.dead,.dead,.dead,.dead,x15,x16,x17,.dead,.dead,.dead,.dead,.dead,.dead,.dead,.dead,.dead,.dead,.dead,.dead,.dead,.dead],hp⟩
abbrev r44_E0  (hp : List Ent) : St := ⟨[.dead,.dead,.dead,.dead,.dead,.dead,.dead,.dead,.dead,.dead,.dead,.dead,.dead,.dead,.dead,.dead,.dead,.dead,.dead,.dead,.dead,.dead,.dead,.dead,.dead,.dead,.dead,.dead,.dead,.dead,.dead,.dead],hp⟩
theorem r44_B0_n {cf : CF} {a0 x1 x2 a3 a4 a5 a6 a7 a8 a9 a10 a11 a12 a13 a14 x15 x16 x17 a18 a19 a20 a21 a22 a23 a24 a25 a26 a27 a28 a29 a30 a31 : PV} {hp : List Ent} : V cf r44_B0 ⟨[a0,x1,x2,a3,a4,a5,a6,a7,a8,a9,a10,a11,a12,a13,a14,x15,x16,x17,a18,a19,a20,a21,a22,a23,a24,a25,a26,a27,a28,a29,a30,a31],hp⟩ = V cf r44_B0 (r44_S0 x1 x2 x15 x16 x17 hp) := by rw [r44_B0_eq,r44_B0_eq]; rfl
@[go_sem] def r44_K2 (_ : Unit) : RCode := .seq (.seq (.reg [⟨some 10,none,.mv false (.t 0)⟩,⟨some 11,none,.len false (.t 10)⟩,⟨some 12,none,.mv false (.t 1)⟩,⟨some 13,none,.len false (.t 12)⟩,⟨some 14,none,.bin .neq (.t 11) (.t 13)⟩] [] false) (.cond (.t 14) (.seq (.reg [⟨some 6,none,.mv false (.c (.d (.bool false)))⟩] [] false) (.ret [.kill,.kill,.kill,.kill,.kill,.kill,.keep])) (.skip))) (.seq (.seq (.reg [⟨some 15,none,.mv false (.t 0)⟩,⟨some 16,none,.len false (.t 15)⟩,⟨some 17,none,.mv false (.c (.d (.int .i64 0)))⟩] [] false) (r44_B0)) (.seq (.reg [⟨some 6,none,.mv false (.c (.d (.bool true)))⟩] [] false) (.ret [.kill,.kill,.kill,.kill,.kill,.kill,.keep])))
abbrev r44_R (x6 : PV) (hp : List Ent) : St := ⟨[.dead,.dead,.dead,.dead,.dead,.dead,x6,.dead,.dead,.dead,.dead,.dead,.dead,.dead,.dead,.dead,.dead,.dead,.dead,.dead,.dead,.dead,.dead,.dead,.dead,.dead,.dead,.dead,.dead,.dead,.dead,.dead],hp⟩
def r44_T : RCode := .seq (.reg [⟨some 6,none,.mv false (.c (.d (.bool false)))⟩] [] false) (hold r44_K2)
def r44 : RFunc := ⟨32,false,[.t 6],r44_T⟩
@[go_sem] def r45_K0 (_ : Unit) : RCode := .seq (.reg [⟨some 5,none,.fad 0 (.t 2)⟩,⟨some 6,none,.ld false none (.t 5)⟩,⟨some 7,none,.fad 0 (.t 3)⟩,⟨some 8,none,.ld false none (.t 7)⟩,⟨some 9,none,.bin .eql (.t 6) (.t 8)⟩,⟨some 10,none,.mv false (.t 9)⟩,⟨some 11,some (10,true),.fad 1 (.t 2)⟩,⟨some 12,some (10,true),.ld false none (.t 11)⟩,⟨some 13,some (10,true),.fad 1 (.t 3)⟩,⟨some 14,some (10,true),.ld false none (.t 13)⟩,⟨some 15,some (10,true),.call false (.f 46) [(.t 12),(.t 14)]⟩,⟨some 16,none,.pick (.t 10) (.t 15) (.c (.d (.bool false)))⟩,⟨some 17,none,.mv false (.t 16)⟩,⟨some 18,some (17,true),.fad 2 (.t 2)⟩,⟨some 19,some (17,true),.ld false (some 8) (.t 18)⟩,⟨some 20,some (17,true),.fad 2 (.t 3)⟩,⟨some 21,some (17,true),.ld false (some 8) (.t 20)⟩,⟨some 22,some (17,true),.call false (.f 43) [(.t 19),(.t 21)]⟩,⟨some 23,none,.pick (.t 17) (.t 22) (.c (.d (.bool false)))⟩,⟨some 4,none,.mv false (.t 23)⟩] [5,7,11,13,18,20] false) (.ret [.kill,.kill,.kill,.kill,.keep])
abbrev r45_R (x4 : PV) (hp : List Ent) : St := ⟨[.dead,.dead,.dead,.dead,x4,.dead,.dead,.dead,.dead,.dead,.dead,.dead,.dead,.dead,.dead,.dead,.dead,.dead,.dead,.dead,.dead,.dead,.dead,.dead],hp⟩
def r45_T : RCode := .seq (.reg [⟨some 2,none,.bx false true (.t 0)⟩,⟨some 3,none,.bx false true (.t 1)⟩,⟨some 4,none,.mv false (.c (.d (.bool false)))⟩] [] false) (hold r45_K0)
def r45 : RFunc := ⟨24,true,[.t 4],r45_T⟩
@[go_sem] def r26_K0 (_ : Unit) : RCode := .seq (.reg [⟨some 5,none,.fad 1 (.t 2)⟩,⟨some 6,none,.ld false (some 8) (.t 5)⟩,⟨some 7,none,.fad 1 (.t 3)⟩,⟨some 8,none,.ld false (some 8) (.t 7)⟩,⟨some 9,none,.call false (.f 43) [(.t 6),(.t 8)]⟩,⟨some 10,none,.mv false (.t 9)⟩,⟨some 11,some (10,true),.fad 0 (.t 2)⟩,⟨some 12,some (10,true),.ld false none (.t 11)⟩,⟨some 13,some (10,true),.fad 0 (.t 3)⟩,⟨some 14,some (10,true),.ld false none (.t 13)⟩,⟨some 15,some (10,true),.call false (.f 44) [(.t 12),(.t 14),(.f 45)]⟩,⟨some 16,none,.pick (.t 10) (.t 15) (.c (.d (.bool false)))⟩,⟨some 4,none,.mv false (.t 16)⟩] [5,7,11,13] false) (.ret [.kill,.kill,.kill,.kill,.keep])
abbrev r26_R (x4 : PV) (hp : List Ent) : St := ⟨[.dead,.dead,.dead,.dead,x4,.dead,.dead,.dead,.dead,.dead,.dead,.dead,.dead,.dead,.dead,.dead,.dead],hp⟩
def r26_T : RCode := .seq (.reg [⟨some 2,none,.bx false true (.t 0)⟩,⟨some 3,none,.bx false true (.t 1)⟩,⟨some 4,none,.mv false (.c (.d (.bool false)))⟩] [] false) (hold r26_K0)
def r26 : RFunc := ⟨17,true,[.t 4],r26_T⟩
@[go_sem] def r6_K0 (_ : Unit) : RCode := .seq (.reg [⟨some 22,none,.mv false (.t 4)⟩,⟨some 23,none,.bin .eql (.t 22) (.c (.d (.str ⟨#[]⟩)))⟩,⟨some 24,none,.mv false (.t 23)⟩,⟨some 25,some (24,true),.mv false (.t 5)⟩,⟨some 26,some (24,true),.bin .eql (.t 25) (.c (.d (.int .i64 1)))⟩,⟨some 27,none,.pick (.t 24) (.t 26) (.c (.d (.bool false)))⟩,⟨some 28,none,.mv false (.t 27)⟩,⟨some 29,some (28,true),.fad 0 (.t 3)⟩,⟨some 30,some (28,true),.ld false none (.t 29)⟩,⟨some 31,some (28,true),.len false (.t 30)⟩,⟨some 32,some (28,true),.bin .eql (.t 31) (.c (.d (.int .i64 0)))⟩,⟨some 33,none,.pick (.t 28) (.t 32) (.c (.d (.bool false)))⟩,⟨some 34,none,.mv false (.t 33)⟩,⟨some 35,some (34,true),.call false (.f 14) []⟩,⟨some 36,none,.pick (.t 34) (.t 35) (.c (.d (.bool false)))⟩,⟨some 2,none,.mv false (.t 36)⟩] [29] false) (.ret [.kill,.kill,.keep])
@[go_sem] def r6_K1 (_ : Unit) : RCode := .seq (.reg [⟨some 45,none,.mv false (.t 4)⟩,⟨some 46,none,.mv false (.t 7)⟩,⟨some 47,none,.bin .eql (.t 45) (.t 46)⟩,⟨some 48,none,.mv false (.t 47)⟩,⟨some 49,some (48,true),.mv false (.t 5)⟩,⟨some 50,some (48,true),.bin .eql (.t 49) (.c (.d (.int .i64 15)))⟩,⟨some 51,none,.pick (.t 48) (.t 50) (.c (.d (.bool false)))⟩,⟨some 52,none,.mv false (.t 51)⟩,⟨some 53,some (52,true),.ld false (some 9) (.t 3)⟩,⟨some 54,some (52,true),.bld [.sl [],.int .i64 0,.str ⟨#[]⟩,.int .i64 0,.int .i64 0,.int .i64 0,.int .i64 0,.sl [],.sl []] []⟩,⟨some 55,some (52,true),.call false (.f 26) [(.t 53),(.t 54)]⟩,⟨some 56,none,.pick (.t 52) (.t 55) (.c (.d (.bool false)))⟩,⟨some 57,none,.mv false (.t 56)⟩,⟨some 58,some (57,true),.call false (.f 14) []⟩,⟨some 59,none,.pick (.t 57) (.t 58) (.c (.d (.bool false)))⟩,⟨some 2,none,.mv false (.t 59)⟩] [] false) (.ret [.kill,.kill,.keep])
@[go_sem] def r6_K2 (_ : Unit) : RCode := .seq (.reg [⟨some 60,none,.mv false (.t 4)⟩,⟨some 61,none,.bin .eql (.t 60) (.c (.d (.str ⟨#[]⟩)))⟩,⟨some 62,none,.mv false (.t 61)⟩,⟨some 63,some (62,true),.mv false (.t 5)⟩,⟨some 64,some (62,true),.bin .eql (.t 63) (.c (.d (.int .i64 0)))⟩,⟨some 65,none,.pick (.t 62) (.t 64) (.c (.d (.bool false)))⟩,⟨some 66,none,.mv false (.t 65)⟩,⟨some 67,some (66,true),.ld false (some 9) (.t 3)⟩,⟨some 68,some (66,true),.ld false (some 9) (.t 6)⟩,⟨some 69,some (66,true),.call false (.f 26) [(.t 67),(.t 68)]⟩,⟨some 70,none,.pick (.t 66) (.t 69) (.c (.d (.bool false)))⟩,⟨some 71,none,.mv false (.t 70)⟩,⟨some 72,some (71,true),.call false (.f 14) []⟩,⟨some 73,none,.pick (.t 71) (.t 72) (.c (.d (.bool false)))⟩,⟨some 2,none,.mv false (.t 73)⟩] [] false) (.ret [.kill,.kill,.keep])
@[go_sem] def r6_K3 (_ : Unit) : RCode := .seq (.reg [⟨some 38,none,.ld false (some 9) (.t 1)⟩,⟨some 39,none,.call false (.f 25) [(.t 38)]⟩,⟨some 37,none,.mvt (.t 39)⟩,⟨some 40,none,.ext false (.t 37) 0⟩,⟨some 41,none,.ext false (.t 37) 1⟩,⟨some 42,none,.ext false (.t 37) 2⟩,⟨some 6,none,.zal false [.nilsl,.d (.int .i64 0),.d (.str ⟨#[]⟩),.d (.int .i64 0),.d (.int .i64 0),.d (.int .i64 0),.d (.int .i64 0),.nilsl,.nilsl]⟩,⟨none,none,.sto (some 9) (.t 6) (.t 40)⟩,⟨some 7,none,.mv false (.t 41)⟩,⟨some 8,none,.mv false (.t 42)⟩] [] false) (.seq (.seq (.reg [⟨some 43,none,.mv false (.t 8)⟩,⟨some 44,none,.un .not (.t 43)⟩] [] false) (.cond (.t 44) (hold r6_K1) (.skip))) (hold r6_K2))
@[go_sem] def r6_K4 (_ : Unit) : RCode := .seq (.reg [⟨some 14,none,.ld false (some 9) (.t 1)⟩,⟨some 15,none,.call false (.f 17) [(.t 14)]⟩,⟨some 13,none,.mvt (.t 15)⟩,⟨some 16,none,.ext false (.t 13) 0⟩,⟨some 17,none,.ext false (.t 13) 1⟩,⟨some 18,none,.ext false (.t 13) 2⟩,⟨some 3,none,.zal false [.nilsl,.d (.int .i64 0),.d (.str ⟨#[]⟩),.d (.int .i64 0),.d (.int .i64 0),.d (.int .i64 0),.d (.int .i64 0),.nilsl,.nilsl]⟩,⟨none,none,.sto (some 9) (.t 3) (.t 16)⟩,⟨some 4,none,.mv false (.t 17)⟩,⟨some 5,none,.mv false (.t 18)⟩] [] false) (.seq (.seq (.reg [⟨some 19,none,.ld false (some 9) (.t 1)⟩,⟨some 20,none,.call false (.f 24) [(.t 19)]⟩,⟨some 21,none,.un .not (.t 20)⟩] [] false) (.cond (.t 21) (hold r6_K0) (.skip))) (hold r6_K3))
abbrev r6_R (x2 : PV) (hp : List Ent) : St := ⟨[.dead,.dead,x2,.dead,.dead,.dead,.dead,.dead,.dead,.dead,.dead,.dead,.dead,.dead,.dead,.dead,.dead,.dead,.dead,.dead,.dead,.dead,.dead,.dead,.dead,.dead,.dead,.dead,.dead,.dead,.dead,.dead,.dead,.dead,.dead,.dead,.dead,.dead,.dead,.dead,.dead,.dead,.dead,.dead,.dead,.dead,.dead,.dead,.dead,.dead,.dead,.dead,.dead,.dead,.dead,.dead,.dead,.dead,.dead,.dead,.dead,.dead,.dead,.dead,.dead,.dead,.dead,.dead,.dead,.dead,.dead,.dead,.dead,.dead],hp⟩
def r6_T : RCode := .seq (.reg [⟨some 1,none,.bx false true (.t 0)⟩,⟨some 2,none,.mv false (.c (.d (.bool false)))⟩] [] false) (.seq (.seq (.reg [⟨some 9,none,.ld false (some 9) (.t 1)⟩,⟨some 10,none,.call false (.f 15) [(.t 9)]⟩,⟨some 11,none,.un .not (.t 10)⟩] [] false) (.cond (.t 11) (.seq (.reg [⟨some 12,none,.call false (.f 14) []⟩,⟨some 2,none,.mv false (.t 12)⟩] [] false) (.ret [.kill,.kill,.keep])) (.skip))) (hold r6_K4))
def r6 : RFunc := ⟨74,true,[.t 2],r6_T⟩
def tl : Tabl := [(56,r56),(86,r86),(89,r89),(90,r90),(59,r59),(60,r60),(35,r35),(125,r125),(119,r119),(107,r107),(113,r113),(106,r106),(120,r120),(108,r108),(109,r109),(87,r87),(110,r110),(111,r111),(88,r88),(58,r58),(57,r57),(34,r34),(91,r91),(61,r61),(62,r62),(36,r36),(16,r16),(63,r63),(10,r10),(33,r33),(12,r12),(64,r64),(92,r92),(65,r65),(38,r38),(14,r14),(39,r39),(27,r27),(15,r15),(72,r72),(93,r93),(94,r94),(73,r73),(41,r41),(66,r66),(67,r67),(103,r103),(82,r82),(68,r68),(69,r69),(70,r70),(71,r71),(40,r40),(23,r23),(24,r24),(11,r11),(13,r13),(95,r95),(74,r74),(42,r42),(25,r25),(46,r46),(75,r75),(43,r43),(44,r44),(45,r45),(26,r26),(6,r6)]
def pl : List (Nat × (List PV → Option PV)) := []
def pf : Nat → Bool := pfOf tl []
def ml : List (Nat × (List PV → Option (List D))) := []
def tab0 : Nat → Option FnD := tabOf tl pl ml
theorem pf_ok0 : PfOk pf tab0 := tabOf_pf tl pl ml _ rfl
def ql : Tril := [(17,r17,r17_Y,r17_Hd)]
def tab : Nat → Option FnD := tabOf4 tl pl ml ql
theorem pf_ok : PfOk pf tab := tabOf4_pf pf_ok0 rfl
theorem pl_ok : ∀ p ∈ pl,PrimSound Go.Proofs.Try.prog p.1 p.2 := by
  intro p hp
  simp only [pl,List.mem_cons,List.not_mem_nil,or_false] at hp

theorem ml_ok : ∀ p ∈ ml,MkSound Go.Proofs.Try.prog p.1 p.2 := by
  intro p hp
  simp only [ml,List.mem_cons,List.not_mem_nil,or_false] at hp

theorem all_ok : tabAll Go.Proofs.Try.prog pf tl = true := by kernel_rfl
theorem ql_ok : triAll Go.Proofs.Try.prog pf ql = true := by kernel_rfl
theorem tab_ok : TabOk Go.Proofs.Try.prog pf tab := tabOf4_ok (tabOf_ok all_ok pl_ok ml_ok) ql_ok
theorem f17 {a0 : PV} {hp : List Ent} {out : Out} (hh : PV.hfrees [a0] = true) (h : fnEnd r17 hp (VTri (F tab) r17_Hd r17_Y ⟨[a0,.dead,.dead,.dead,.dead,.dead,.dead,.dead,.dead,.dead,.dead,.dead,.dead,.dead,.dead,.dead,.dead,.dead,.dead,.dead,.dead,.dead,.dead,.dead,.dead,.dead,.dead,.dead,.dead,.dead,.dead,.dead,.dead,.dead,.dead,.dead,.dead,.dead,.dead,.dead,.dead,.dead,.dead,.dead,.dead,.dead,.dead,.dead,.dead,.dead,.dead,.dead,.dead],[]⟩) = some out) : F tab 17 [a0] hp = some out := F_tri (rf := r17) (t := r17_Y) (h := r17_Hd) rfl (by rw [hh]; rfl) h
theorem t56 : tab 56 = some (.code r56) := rfl
theorem f56 {a0 a1 : PV} {hp : List Ent} {out : Out} (h : fnEnd r56 hp (V (F tab) r56_T ⟨[a0,a1,.dead,.dead,.dead,.dead,.dead,.dead,.dead,.dead,.dead,.dead,.dead,.dead,.dead,.dead,.dead,.dead,.dead,.dead,.dead,.dead,.dead],hp⟩) = some out) : F tab 56 [a0,a1] hp = some out := F_code t56 rfl h
theorem t86 : tab 86 = some (.code r86) := rfl
theorem f86 {a0 : PV} {hp : List Ent} {out : Out} (hh : PV.hfrees [a0] = true) (h : fnEnd r86 hp (V (F tab) r86_T ⟨[a0,.dead,.dead,.dead,.dead,.dead,.dead,.dead,.dead,.dead,.dead,.dead,.dead,.dead,.dead,.dead,.dead,.dead,.dead,.dead,.dead,.dead,.dead,.dead,.dead,.dead,.dead,.dead,.dead,.dead,.dead,.dead,.dead,.dead,.dead,.dead,.dead,.dead,.dead,.dead,.dead,.dead,.dead,.dead,.dead,.dead,.dead,.dead,.dead,.dead,.dead,.dead],[]⟩) = some out) : F tab 86 [a0] hp = some out := F_code t86 (by rw [hh]; rfl) h
theorem t89 : tab 89 = some (.code r89) := rfl
theorem f89 {a0 : PV} {hp : List Ent} {out : Out} (hh : PV.hfrees [a0] = true) (h : fnEnd r89 hp (V (F tab) r89_T ⟨[a0,.dead,.dead,.dead,.dead,.dead,.dead,.dead,.dead,.dead,.dead,.dead,.dead,.dead,.dead,.dead,.dead,.dead,.dead,.dead,.dead],[]⟩) = some out) : F tab 89 [a0] hp = some out := F_code t89 (by rw [hh]; rfl) h
theorem t90 : tab 90 = some (.code r90) := rfl
theorem f90 {a0 : PV} {hp : List Ent} {out : Out} (hh : PV.hfrees [a0] = true) (h : fnEnd r90 hp (V (F tab) r90_T ⟨[a0,.dead,.dead,.dead,.dead,.dead,.dead,.dead,.dead],[]⟩) = some out) : F tab 90 [a0] hp = some out := F_code t90 (by rw [hh]; rfl) h
theorem t59 : tab 59 = some (.code r59) := rfl
theorem f59 {a0 : PV} {hp : List Ent} {out : Out} (hh : PV.hfrees [a0] = true) (h : fnEnd r59 hp (V (F tab) r59_T ⟨[a0,.dead,.dead,.dead,.dead,.dead,.dead,.dead,.dead,.dead,.dead,.dead,.dead,.dead,.dead,.dead,.dead,.dead,.dead,.dead,.dead,.dead,.dead,.dead,.dead,.dead,.dead,.dead,.dead],[]⟩) = some out) : F tab 59 [a0] hp = some out := F_code t59 (by rw [hh]; rfl) h
theorem t60 : tab 60 = some (.code r60) := rfl
theorem f60 {a0 : PV} {hp : List Ent} {out : Out} (hh : PV.hfrees [a0] = true) (h : fnEnd r60 hp (V (F tab) r60_T ⟨[a0,.dead,.dead,.dead,.dead,.dead,.dead,.dead,.dead,.dead,.dead,.dead,.dead,.dead,.dead,.dead,.dead,.dead,.dead,.dead,.dead,.dead,.dead,.dead,.dead],[]⟩) = some out) : F tab 60 [a0] hp = some out := F_code t60 (by rw [hh]; rfl) h
theorem t35 : tab 35 = some (.code r35) := rfl
theorem f35 {a0 : PV} {hp : List Ent} {out : Out} (hh : PV.hfrees [a0] = true) (h : fnEnd r35 hp (V (F tab) r35_T ⟨[a0,.dead,.dead,.dead,.dead,.dead,.dead,.dead,.dead,.dead,.dead,.dead,.dead,.dead,.dead,.dead,.dead,.dead,.dead,.dead,.dead],[]⟩) = some out) : F tab 35 [a0] hp = some out := F_code t35 (by rw [hh]; rfl) h
theorem t125 : tab 125 = some (.code r125) := rfl
theorem f125 {a0 a1 a2 a3 : PV} {hp : List Ent} {out : Out} (hh : PV.hfrees [a0,a1,a2,a3] = true) (h : fnEnd r125 hp (V (F tab) r125_T ⟨[a0,a1,a2,a3,.dead,.dead,.dead,.dead,.dead,.dead,.dead,.dead,.dead,.dead,.dead,.dead,.dead,.dead,.dead,.dead,.dead,.dead,.dead,.dead,.dead,.dead,.dead,.dead,.dead,.dead,.dead,.dead,.dead,.dead,.dead,.dead,.dead,.dead,.dead,.dead,.dead],[]⟩) = some out) : F tab 125 [a0,a1,a2,a3] hp = some out := F_code t125 (by rw [hh]; rfl) h
theorem t119 : tab 119 = some (.code r119) := rfl
theorem f119 {a0 : PV} {hp : List Ent} {out : Out} (hh : PV.hfrees [a0] = true) (h : fnEnd r119 hp (V (F tab) r119_T ⟨[a0,.dead,.dead,.dead,.dead,.dead,.dead,.dead,.dead,.dead,.dead,.dead,.dead,.dead,.dead,.dead,.dead,.dead,.dead,.dead,.dead,.dead,.dead,.dead,.dead,.dead,.dead,.dead,.dead,.dead,.dead,.dead,.dead,.dead,.dead,.dead,.dead,.dead,.dead,.dead,.dead,.dead,.dead,.dead,.dead,.dead,.dead,.dead,.dead,.dead,.dead,.dead,.dead,.dead,.dead,.dead,.dead,.dead,.dead,.dead,.dead,.dead,.dead,.dead,.dead,.dead,.dead,.dead,.dead,.dead],[]⟩) = some out) : F tab 119 [a0] hp = some out := F_code t119 (by rw [hh]; rfl) h
theorem t107 : tab 107 = some (.code r107) := rfl
theorem f107 {a0 : PV} {hp : List Ent} {out : Out} (hh : PV.hfrees [a0] = true) (h : fnEnd r107 hp (V (F tab) r107_T ⟨[a0,.dead,.dead,.dead,.dead,.dead,.dead,.dead,.dead,.dead,.dead,.dead,.dead],[]⟩) = some out) : F tab 107 [a0] hp = some out := F_code t107 (by rw [hh]; rfl) h
theorem t113 : tab 113 = some (.code r113) := rfl
theorem f113 {a0 : PV} {hp : List Ent} {out : Out} (hh : PV.hfrees [a0] = true) (h : fnEnd r113 hp (V (F tab) r113_T ⟨[a0,.dead,.dead,.dead,.dead,.dead,.dead,.dead,.dead,.dead,.dead,.dead,.dead,.dead,.dead,.dead,.dead,.dead,.dead,.dead,.dead,.dead,.dead,.dead,.dead,.dead,.dead,.dead,.dead,.dead],[]⟩) = some out) : F tab 113 [a0] hp = some out := F_code t113 (by rw [hh]; rfl) h
theorem t106 : tab 106 = some (.code r106) := rfl
theorem f106 {a0 : PV} {hp : List Ent} {out : Out} (hh : PV.hfrees [a0] = true) (h : fnEnd r106 hp (V (F tab) r106_T ⟨[a0,.dead,.dead,.dead,.dead,.dead,.dead,.dead,.dead,.dead,.dead,.dead,.dead,.dead,.dead,.dead,.dead,.dead,.dead,.dead,.dead,.dead,.dead,.dead,.dead,.dead,.dead,.dead,.dead,.dead,.dead,.dead,.dead,.dead,.dead,.dead,.dead,.dead,.dead],[]⟩) = some out) : F tab 106 [a0] hp = some out := F_code t106 (by rw [hh]; rfl) h
theorem t120 : tab 120 = some (.code r120) := rfl
theorem f120 {a0 a1 : PV} {hp : List Ent} {out : Out} (hh : PV.hfrees [a0,a1] = true) (h : fnEnd r120 hp (V (F tab) r120_T ⟨[a0,a1,.dead,.dead,.dead,.dead,.dead,.dead,.dead,.dead,.dead,.dead,.dead,.dead,.dead,.dead,.dead,.dead,.dead],[]⟩) = some out) : F tab 120 [a0,a1] hp = some out := F_code t120 (by rw [hh]; rfl) h
theorem t108 : tab 108 = some (.code r108) := rfl
theorem f108 {a0 a1 : PV} {hp : List Ent} {out : Out} (hh : PV.hfrees [a0,a1] = true) (h : fnEnd r108 hp (V (F tab) r108_T ⟨[a0,a1,.dead,.dead,.dead,.dead,.dead,.dead,.dead],[]⟩) = some out) : F tab 108 [a0,a1] hp = some out := F_code t108 (by rw [hh]; rfl) h
theorem t109 : tab 109 = some (.code r109) := rfl
theorem f109 {hp : List Ent} {out : Out} (hh : PV.hfrees [] = true) (h : fnEnd r109 hp (V (F tab) r109_T ⟨[.dead,.dead],[]⟩) = some out) : F tab 109 [] hp = some out := F_code t109 (by rw [hh]; rfl) h
theorem t87 : tab 87 = some (.code r87) := rfl
theorem f87 {a0 a1 : PV} {hp : List Ent} {out : Out} (hh : PV.hfrees [a0,a1] = true) (h : fnEnd r87 hp (V (F tab) r87_T ⟨[a0,a1,.dead,.dead,.dead,.dead,.dead,.dead,.dead,.dead,.dead,.dead,.dead,.dead,.dead,.dead,.dead,.dead,.dead,.dead,.dead,.dead,.dead,.dead,.dead,.dead,.dead,.dead,.dead,.dead,.dead,.dead,.dead,.dead,.dead,.dead,.dead,.dead,.dead,.dead,.dead,.dead,.dead,.dead,.dead],[]⟩) = some out) : F tab 87 [a0,a1] hp = some out := F_code t87 (by rw [hh]; rfl) h
theorem t110 : tab 110 = some (.code r110) := rfl
theorem f110 {a0 : PV} {hp : List Ent} {out : Out} (hh : PV.hfrees [a0] = true) (h : fnEnd r110 hp (V (F tab) r110_T ⟨[a0,.dead,.dead,.dead,.dead,.dead,.dead,.dead,.dead,.dead,.dead,.dead,.dead,.dead,.dead,.dead,.dead,.dead,.dead,.dead,.dead,.dead,.dead],[]⟩) = some out) : F tab 110 [a0] hp = some out := F_code t110 (by rw [hh]; rfl) h
theorem t111 : tab 111 = some (.code r111) := rfl
theorem f111 {a0 : PV} {hp : List Ent} {out : Out} (hh : PV.hfrees [a0] = true) (h : fnEnd r111 hp (V (F tab) r111_T ⟨[a0,.dead,.dead,.dead,.dead,.dead,.dead,.dead,.dead,.dead,.dead,.dead,.dead,.dead,.dead,.dead,.dead,.dead,.dead,.dead,.dead,.dead,.dead,.dead,.dead,.dead,.dead,.dead,.dead,.dead,.dead,.dead,.dead,.dead,.dead,.dead,.dead,.dead,.dead,.dead,.dead,.dead,.dead,.dead,.dead],[]⟩) = some out) : F tab 111 [a0] hp = some out := F_code t111 (by rw [hh]; rfl) h
theorem t88 : tab 88 = some (.code r88) := rfl
theorem f88 {a0 a1 : PV} {hp : List Ent} {out : Out} (hh : PV.hfrees [a0,a1] = true) (h : fnEnd r88 hp (V (F tab) r88_T ⟨[a0,a1,.dead,.dead,.dead,.dead,.dead,.dead,.dead,.dead,.dead,.dead,.dead,.dead,.dead,.dead,.dead,.dead,.dead,.dead,.dead,.dead,.dead,.dead,.dead,.dead,.dead,.dead,.dead,.dead,.dead,.dead,.dead,.dead,.dead,.dead,.dead,.dead,.dead,.dead,.dead,.dead,.dead,.dead,.dead,.dead,.dead],[]⟩) = some out) : F tab 88 [a0,a1] hp = some out := F_code t88 (by rw [hh]; rfl) h
theorem t58 : tab 58 = some (.code r58) := rfl
theorem f58 {a0 : PV} {hp : List Ent} {out : Out} (hh : PV.hfrees [a0] = true) (h : fnEnd r58 hp (V (F tab) r58_T ⟨[a0,.dead,.dead,.dead,.dead,.dead,.dead,.dead,.dead,.dead,.dead,.dead,.dead,.dead,.dead,.dead,.dead,.dead,.dead,.dead,.dead,.dead,.dead,.dead,.dead,.dead,.dead,.dead,.dead,.dead,.dead,.dead,.dead,.dead,.dead,.dead,.dead,.dead,.dead,.dead,.dead,.dead,.dead],[]⟩) = some out) : F tab 58 [a0] hp = some out := F_code t58 (by rw [hh]; rfl) h
theorem t57 : tab 57 = some (.code r57) := rfl
theorem f57 {a0 a1 : PV} {hp : List Ent} {out : Out} (h : fnEnd r57 hp (V (F tab) r57_T ⟨[a0,a1,.dead,.dead,.dead,.dead,.dead,.dead,.dead,.dead,.dead,.dead],hp⟩) = some out) : F tab 57 [a0,a1] hp = some out := F_code t57 rfl h
theorem t34 : tab 34 = some (.code r34) := rfl
theorem f34 {a0 : PV} {hp : List Ent} {out : Out} (hh : PV.hfrees [a0] = true) (h : fnEnd r34 hp (V (F tab) r34_T ⟨[a0,.dead,.dead,.dead,.dead,.dead,.dead],[]⟩) = some out) : F tab 34 [a0] hp = some out := F_code t34 (by rw [hh]; rfl) h
theorem t91 : tab 91 = some (.code r91) := rfl
theorem f91 {a0 a1 : PV} {hp : List Ent} {out : Out} (h : fnEnd r91 hp (V (F tab) r91_T ⟨[a0,a1,.dead,.dead,.dead,.dead,.dead,.dead,.dead,.dead,.dead,.dead,.dead,.dead,.dead,.dead,.dead,.dead,.dead],hp⟩) = some out) : F tab 91 [a0,a1] hp = some out := F_code t91 rfl h
theorem t61 : tab 61 = some (.code r61) := rfl
theorem f61 {a0 a1 : PV} {hp : List Ent} {out : Out} (h : fnEnd r61 hp (V (F tab) r61_T ⟨[a0,a1,.dead,.dead,.dead,.dead,.dead,.dead,.dead],hp⟩) = some out) : F tab 61 [a0,a1] hp = some out := F_code t61 rfl h
theorem t62 : tab 62 = some (.code r62) := rfl
theorem f62 {a0 : PV} {hp : List Ent} {out : Out} (hh : PV.hfrees [a0] = true) (h : fnEnd r62 hp (V (F tab) r62_T ⟨[a0,.dead,.dead,.dead,.dead,.dead],[]⟩) = some out) : F tab 62 [a0] hp = some out := F_code t62 (by rw [hh]; rfl) h
theorem t36 : tab 36 = some (.code r36) := rfl
theorem f36 {a0 : PV} {hp : List Ent} {out : Out} (hh : PV.hfrees [a0] = true) (h : fnEnd r36 hp (V (F tab) r36_T ⟨[a0,.dead,.dead,.dead,.dead,.dead],[]⟩) = some out) : F tab 36 [a0] hp = some out := F_code t36 (by rw [hh]; rfl) h
theorem t16 : tab 16 = some (.code r16) := rfl
theorem f16 {a0 : PV} {hp : List Ent} {out : Out} (hh : PV.hfrees [a0] = true) (h : fnEnd r16 hp (V (F tab) r16_T ⟨[a0,.dead,.dead,.dead,.dead,.dead,.dead,.dead,.dead,.dead,.dead,.dead,.dead,.dead,.dead,.dead,.dead,.dead,.dead,.dead,.dead,.dead,.dead,.dead,.dead,.dead,.dead,.dead,.dead,.dead,.dead,.dead,.dead,.dead,.dead,.dead,.dead,.dead,.dead,.dead,.dead,.dead,.dead,.dead,.dead],[]⟩) = some out) : F tab 16 [a0] hp = some out := F_code t16 (by rw [hh]; rfl) h
theorem t63 : tab 63 = some (.code r63) := rfl
theorem f63 {a0 a1 : PV} {hp : List Ent} {out : Out} (hh : PV.hfrees [a0,a1] = true) (h : fnEnd r63 hp (V (F tab) r63_T ⟨[a0,a1,.dead,.dead,.dead,.dead,.dead,.dead,.dead,.dead,.dead,.dead,.dead,.dead,.dead,.dead,.dead,.dead,.dead,.dead,.dead,.dead,.dead],[]⟩) = some out) : F tab 63 [a0,a1] hp = some out := F_code t63 (by rw [hh]; rfl) h
theorem t10 : tab 10 = some (.code r10) := rfl
theorem f10 {hp : List Ent} {out : Out} (hh : PV.hfrees [] = true) (h : fnEnd r10 hp (V (F tab) r10_T ⟨[.dead,.dead],[]⟩) = some out) : F tab 10 [] hp = some out := F_code t10 (by rw [hh]; rfl) h
theorem t33 : tab 33 = some (.code r33) := rfl
theorem f33 {a0 : PV} {hp : List Ent} {out : Out} (hh : PV.hfrees [a0] = true) (h : fnEnd r33 hp (V (F tab) r33_T ⟨[a0,.dead,.dead,.dead,.dead,.dead,.dead,.dead,.dead],[]⟩) = some out) : F tab 33 [a0] hp = some out := F_code t33 (by rw [hh]; rfl) h
theorem t12 : tab 12 = some (.code r12) := rfl
theorem f12 {a0 a1 : PV} {hp : List Ent} {out : Out} (hh : PV.hfrees [a0,a1] = true) (h : fnEnd r12 hp (V (F tab) r12_T ⟨[a0,a1,.dead,.dead,.dead,.dead,.dead,.dead,.dead,.dead,.dead,.dead,.dead,.dead,.dead,.dead,.dead,.dead,.dead,.dead,.dead,.dead,.dead,.dead,.dead,.dead],[]⟩) = some out) : F tab 12 [a0,a1] hp = some out := F_code t12 (by rw [hh]; rfl) h
theorem t64 : tab 64 = some (.code r64) := rfl
theorem f64 {a0 a1 : PV} {hp : List Ent} {out : Out} (hh : PV.hfrees [a0,a1] = true) (h : fnEnd r64 hp (V (F tab) r64_T ⟨[a0,a1,.dead,.dead,.dead,.dead,.dead,.dead,.dead,.dead,.dead,.dead,.dead,.dead,.dead,.dead,.dead,.dead,.dead,.dead,.dead,.dead,.dead,.dead,.dead,.dead,.dead,.dead,.dead,.dead,.dead,.dead,.dead,.dead,.dead,.dead,.dead,.dead,.dead,.dead,.dead,.dead,.dead,.dead,.dead,.dead,.dead,.dead,.dead,.dead,.dead,.dead,.dead,.dead,.dead,.dead],[]⟩) = some out) : F tab 64 [a0,a1] hp = some out := F_code t64 (by rw [hh]; rfl) h
theorem t92 : tab 92 = some (.code r92) := rfl
theorem f92 {a0 a1 : PV} {hp : List Ent} {out : Out} (hh : PV.hfrees [a0,a1] = true) (h : fnEnd r92 hp (V (F tab) r92_T ⟨[a0,a1,.dead,.dead,.dead,.dead,.dead,.dead,.dead,.dead,.dead,.dead,.dead,.dead],[]⟩) = some out) : F tab 92 [a0,a1] hp = some out := F_code t92 (by rw [hh]; rfl) h
theorem t65 : tab 65 = some (.code r65) := rfl
theorem f65 {a0 a1 a2 : PV} {hp : List Ent} {out : Out} (hh : PV.hfrees [a0,a1,a2] = true) (h : fnEnd r65 hp (V (F tab) r65_T ⟨[a0,a1,a2,.dead,.dead,.dead,.dead,.dead,.dead,.dead,.dead,.dead,.dead,.dead,.dead,.dead,.dead,.dead,.dead,.dead,.dead,.dead,.dead,.dead,.dead,.dead,.dead,.dead,.dead,.dead,.dead,.dead,.dead,.dead,.dead,.dead,.dead,.dead,.dead,.dead,.dead,.dead,.dead,.dead],[]⟩) = some out) : F tab 65 [a0,a1,a2] hp = some out := F_code t65 (by rw [hh]; rfl) h
theorem t38 : tab 38 = some (.code r38) := rfl
theorem f38 {a0 a1 : PV} {hp : List Ent} {out : Out} (hh : PV.hfrees [a0,a1] = true) (h : fnEnd r38 hp (V (F tab) r38_T ⟨[a0,a1,.dead,.dead,.dead,.dead,.dead,.dead,.dead,.dead,.dead,.dead,.dead,.dead,.dead,.dead,.dead,.dead,.dead,.dead,.dead,.dead,.dead,.dead,.dead,.dead,.dead,.dead,.dead,.dead,.dead,.dead,.dead,.dead,.dead,.dead,.dead,.dead,.dead,.dead,.dead,.dead,.dead,.dead,.dead,.dead,.dead,.dead,.dead,.dead,.dead,.dead,.dead,.dead,.dead,.dead,.dead,.dead,.dead,.dead,.dead,.dead,.dead,.dead,.dead,.dead,.dead,.dead],[]⟩) = some out) : F tab 38 [a0,a1] hp = some out := F_code t38 (by rw [hh]; rfl) h
theorem t14 : tab 14 = some (.code r14) := rfl
theorem f14 {hp : List Ent} {out : Out} (hh : PV.hfrees [] = true) (h : fnEnd r14 hp (V (F tab) r14_T ⟨[.dead,.dead,.dead,.dead,.dead,.dead,.dead,.dead,.dead,.dead,.dead,.dead,.dead,.dead,.dead,.dead,.dead,.dead,.dead,.dead,.dead,.dead,.dead,.dead,.dead,.dead,.dead,.dead,.dead,.dead,.dead,.dead,.dead,.dead,.dead,.dead,.dead,.dead,.dead,.dead,.dead,.dead,.dead,.dead,.dead,.dead,.dead,.dead,.dead,.dead,.dead,.dead,.dead,.dead,.dead,.dead,.dead,.dead,.dead,.dead,.dead,.dead,.dead,.dead,.dead,.dead,.dead,.dead,.dead,.dead,.dead,.dead],[]⟩) = some out) : F tab 14 [] hp = some out := F_code t14 (by rw [hh]; rfl) h
theorem t39 : tab 39 = some (.code r39) := rfl
theorem f39 {a0 a1 : PV} {hp : List Ent} {out : Out} (hh : PV.hfrees [a0,a1] = true) (h : fnEnd r39 hp (V (F tab) r39_T ⟨[a0,a1,.dead,.dead,.dead,.dead,.dead,.dead,.dead,.dead,.dead,.dead,.dead,.dead,.dead,.dead,.dead,.dead,.dead,.dead,.dead,.dead,.dead,.dead,.dead,.dead,.dead,.dead,.dead,.dead,.dead,.dead,.dead,.dead,.dead],[]⟩) = some out) : F tab 39 [a0,a1] hp = some out := F_code t39 (by rw [hh]; rfl) h
theorem t27 : tab 27 = some (.code r27) := rfl
theorem f27 {a0 a1 : PV} {hp : List Ent} {out : Out} (hh : PV.hfrees [a0,a1] = true) (h : fnEnd r27 hp (V (F tab) r27_T ⟨[a0,a1,.dead,.dead,.dead,.dead,.dead,.dead,.dead,.dead,.dead,.dead],[]⟩) = some out) : F tab 27 [a0,a1] hp = some out := F_code t27 (by rw [hh]; rfl) h
theorem t15 : tab 15 = some (.code r15) := rfl
theorem f15 {a0 : PV} {hp : List Ent} {out : Out} (hh : PV.hfrees [a0] = true) (h : fnEnd r15 hp (V (F tab) r15_T ⟨[a0,.dead,.dead,.dead,.dead,.dead,.dead,.dead,.dead,.dead,.dead,.dead,.dead,.dead,.dead,.dead,.dead,.dead,.dead,.dead,.dead,.dead,.dead,.dead,.dead,.dead,.dead,.dead,.dead,.dead,.dead,.dead,.dead,.dead,.dead,.dead,.dead,.dead,.dead,.dead,.dead,.dead],[]⟩) = some out) : F tab 15 [a0] hp = some out := F_code t15 (by rw [hh]; rfl) h
theorem t72 : tab 72 = some (.code r72) := rfl
theorem f72 {hp : List Ent} {out : Out} (hh : PV.hfrees [] = true) (h : fnEnd r72 hp (V (F tab) r72_T ⟨[.dead,.dead],[]⟩) = some out) : F tab 72 [] hp = some out := F_code t72 (by rw [hh]; rfl) h
theorem t93 : tab 93 = some (.code r93) := rfl
theorem f93 {a0 : PV} {hp : List Ent} {out : Out} (hh : PV.hfrees [a0] = true) (h : fnEnd r93 hp (V (F tab) r93_T ⟨[a0,.dead,.dead,.dead,.dead,.dead,.dead,.dead,.dead,.dead,.dead,.dead,.dead,.dead,.dead,.dead,.dead,.dead,.dead,.dead,.dead],[]⟩) = some out) : F tab 93 [a0] hp = some out := F_code t93 (by rw [hh]; rfl) h
theorem t94 : tab 94 = some (.code r94) := rfl
theorem f94 {a0 : PV} {hp : List Ent} {out : Out} (hh : PV.hfrees [a0] = true) (h : fnEnd r94 hp (V (F tab) r94_T ⟨[a0,.dead,.dead,.dead,.dead,.dead,.dead,.dead,.dead],[]⟩) = some out) : F tab 94 [a0] hp = some out := F_code t94 (by rw [hh]; rfl) h
theorem t73 : tab 73 = some (.code r73) := rfl
theorem f73 {a0 a1 : PV} {hp : List Ent} {out : Out} (hh : PV.hfrees [a0,a1] = true) (h : fnEnd r73 hp (V (F tab) r73_T ⟨[a0,a1,.dead,.dead,.dead,.dead,.dead,.dead,.dead,.dead,.dead,.dead,.dead,.dead,.dead,.dead,.dead,.dead,.dead,.dead,.dead,.dead,.dead,.dead,.dead,.dead,.dead,.dead,.dead,.dead,.dead,.dead,.dead,.dead,.dead,.dead],[]⟩) = some out) : F tab 73 [a0,a1] hp = some out := F_code t73 (by rw [hh]; rfl) h
theorem t41 : tab 41 = some (.code r41) := rfl
theorem f41 {a0 : PV} {hp : List Ent} {out : Out} (hh : PV.hfrees [a0] = true) (h : fnEnd r41 hp (V (F tab) r41_T ⟨[a0,.dead,.dead,.dead,.dead,.dead,.dead,.dead,.dead,.dead,.dead,.dead,.dead,.dead,.dead,.dead,.dead,.dead,.dead,.dead,.dead,.dead,.dead,.dead,.dead,.dead,.dead,.dead,.dead,.dead,.dead,.dead],[]⟩) = some out) : F tab 41 [a0] hp = some out := F_code t41 (by rw [hh]; rfl) h
theorem t66 : tab 66 = some (.code r66) := rfl
theorem f66 {a0 : PV} {hp : List Ent} {out : Out} (hh : PV.hfrees [a0] = true) (h : fnEnd r66 hp (V (F tab) r66_T ⟨[a0,.dead,.dead,.dead,.dead,.dead,.dead,.dead,.dead,.dead,.dead,.dead,.dead,.dead,.dead,.dead,.dead,.dead,.dead,.dead,.dead,.dead,.dead,.dead,.dead,.dead,.dead,.dead,.dead,.dead,.dead,.dead,.dead,.dead],[]⟩) = some out) : F tab 66 [a0] hp = some out := F_code t66 (by rw [hh]; rfl) h
theorem t67 : tab 67 = some (.code r67) := rfl
theorem f67 {a0 : PV} {hp : List Ent} {out : Out} (hh : PV.hfrees [a0] = true) (h : fnEnd r67 hp (V (F tab) r67_T ⟨[a0,.dead,.dead,.dead,.dead,.dead,.dead,.dead,.dead,.dead,.dead,.dead,.dead,.dead,.dead,.dead,.dead,.dead,.dead,.dead,.dead,.dead,.dead,.dead,.dead,.dead,.dead,.dead,.dead,.dead],[]⟩) = some out) : F tab 67 [a0] hp = some out := F_code t67 (by rw [hh]; rfl) h
theorem t103 : tab 103 = some (.code r103) := rfl
theorem f103 {a0 : PV} {hp : List Ent} {out : Out} (hh : PV.hfrees [a0] = true) (h : fnEnd r103 hp (V (F tab) r103_T ⟨[a0,.dead,.dead,.dead,.dead,.dead,.dead,.dead,.dead,.dead,.dead,.dead,.dead,.dead,.dead,.dead,.dead,.dead,.dead,.dead,.dead,.dead,.dead,.dead,.dead,.dead,.dead,.dead,.dead,.dead,.dead,.dead,.dead,.dead,.dead,.dead,.dead,.dead,.dead,.dead,.dead,.dead,.dead,.dead,.dead,.dead,.dead,.dead,.dead,.dead,.dead,.dead,.dead,.dead],[]⟩) = some out) : F tab 103 [a0] hp = some out := F_code t103 (by rw [hh]; rfl) h
theorem t82 : tab 82 = some (.code r82) := rfl
theorem f82 {a0 : PV} {hp : List Ent} {out : Out} (hh : PV.hfrees [a0] = true) (h : fnEnd r82 hp (V (F tab) r82_T ⟨[a0,.dead,.dead,.dead,.dead,.dead,.dead,.dead,.dead,.dead,.dead,.dead,.dead,.dead,.dead,.dead,.dead,.dead,.dead,.dead,.dead,.dead,.dead,.dead,.dead,.dead,.dead,.dead,.dead,.dead,.dead,.dead,.dead,.dead,.dead,.dead,.dead,.dead,.dead,.dead,.dead,.dead,.dead,.dead,.dead,.dead,.dead,.dead,.dead,.dead,.dead,.dead,.dead,.dead,.dead,.dead,.dead,.dead,.dead,.dead,.dead,.dead,.dead,.dead,.dead,.dead,.dead,.dead,.dead,.dead,.dead,.dead,.dead,.dead,.dead,.dead,.dead,.dead,.dead,.dead,.dead,.dead,.dead,.dead,.dead,.dead,.dead,.dead,.dead,.dead,.dead,.dead,.dead,.dead,.dead,.dead,.dead,.dead,.dead,.dead,.dead,.dead,.dead,.dead,.dead,.dead],[]⟩) = some out) : F tab 82 [a0] hp = some out := F_code t82 (by rw [hh]; rfl) h
theorem t68 : tab 68 = some (.code r68) := rfl
theorem f68 {a0 : PV} {hp : List Ent} {out : Out} (hh : PV.hfrees [a0] = true) (h : fnEnd r68 hp (V (F tab) r68_T ⟨[a0,.dead,.dead,.dead,.dead,.dead,.dead,.dead,.dead,.dead,.dead],[]⟩) = some out) : F tab 68 [a0] hp = some out := F_code t68 (by rw [hh]; rfl) h
theorem t69 : tab 69 = some (.code r69) := rfl
theorem f69 {a0 a1 : PV} {hp : List Ent} {out : Out} (hh : PV.hfrees [a0,a1] = true) (h : fnEnd r69 hp (V (F tab) r69_T ⟨[a0,a1,.dead,.dead,.dead,.dead,.dead,.dead,.dead,.dead,.dead,.dead,.dead,.dead,.dead,.dead,.dead,.dead],[]⟩) = some out) : F tab 69 [a0,a1] hp = some out := F_code t69 (by rw [hh]; rfl) h
theorem t70 : tab 70 = some (.code r70) := rfl
theorem f70 {hp : List Ent} {out : Out} (hh : PV.hfrees [] = true) (h : fnEnd r70 hp (V (F tab) r70_T ⟨[.dead,.dead],[]⟩) = some out) : F tab 70 [] hp = some out := F_code t70 (by rw [hh]; rfl) h
theorem t71 : tab 71 = some (.code r71) := rfl
theorem f71 {a0 : PV} {hp : List Ent} {out : Out} (hh : PV.hfrees [a0] = true) (h : fnEnd r71 hp (V (F tab) r71_T ⟨[a0,.dead,.dead,.dead,.dead,.dead,.dead,.dead,.dead,.dead,.dead,.dead,.dead,.dead,.dead,.dead,.dead,.dead,.dead,.dead,.dead,.dead,.dead,.dead,.dead,.dead,.dead,.dead,.dead,.dead,.dead,.dead,.dead,.dead,.dead,.dead,.dead,.dead,.dead,.dead,.dead,.dead,.dead,.dead,.dead,.dead,.dead,.dead,.dead,.dead,.dead],[]⟩) = some out) : F tab 71 [a0] hp = some out := F_code t71 (by rw [hh]; rfl) h
theorem t40 : tab 40 = some (.code r40) := rfl
theorem f40 {a0 : PV} {hp : List Ent} {out : Out} (hh : PV.hfrees [a0] = true) (h : fnEnd r40 hp (V (F tab) r40_T ⟨[a0,.dead,.dead,.dead,.dead,.dead,.dead,.dead,.dead,.dead,.dead,.dead,.dead,.dead,.dead,.dead,.dead,.dead,.dead,.dead,.dead,.dead,.dead,.dead,.dead,.dead,.dead,.dead,.dead,.dead,.dead,.dead,.dead,.dead,.dead,.dead,.dead,.dead,.dead,.dead,.dead,.dead,.dead,.dead,.dead,.dead,.dead,.dead,.dead,.dead,.dead,.dead,.dead,.dead,.dead,.dead,.dead,.dead,.dead,.dead,.dead,.dead,.dead,.dead,.dead,.dead,.dead,.dead,.dead,.dead,.dead,.dead,.dead,.dead,.dead,.dead,.dead,.dead,.dead,.dead,.dead,.dead,.dead,.dead,.dead,.dead,.dead,.dead,.dead,.dead,.dead,.dead,.dead,.dead,.dead,.dead,.dead,.dead,.dead,.dead,.dead,.dead,.dead,.dead,.dead,.dead,.dead,.dead,.dead,.dead,.dead,.dead,.dead,.dead,.dead,.dead,.dead,.dead,.dead,.dead,.dead,.dead,.dead,.dead,.dead,.dead,.dead,.dead,.dead,.dead,.dead,.dead,.dead,.dead,.dead,.dead,.dead,.dead,.dead,.dead,.dead,.dead,.dead,.dead,.dead,.dead,.dead,.dead,.dead,.dead,.dead,.dead,.dead,.dead,.dead,.dead,.dead,.dead,.dead,.dead,.dead,.dead,.dead,.dead,.dead,.dead,.dead,.dead,.dead,.dead,.dead,.dead,.dead,.dead,.dead,.dead,.dead,.dead,.dead,.dead,.dead,.dead,.dead,.dead,.dead,.dead,.dead,.dead,.dead,.dead,.dead,.dead,.dead,.dead,.dead,.dead,.dead,.dead,.dead,.dead,.dead,.dead],[]⟩) = some out) : F tab 40 [a0] hp = some out := F_code t40 (by rw [hh]; rfl) h
theorem t23 : tab 23 = some (.code r23) := rfl
theorem f23 {a0 : PV} {hp : List Ent} {out : Out} (hh : PV.hfrees [a0] = true) (h : fnEnd r23 hp (V (F tab) r23_T ⟨[a0,.dead,.dead,.dead,.dead,.dead,.dead,.dead,.dead,.dead,.dead,.dead,.dead,.dead,.dead,.dead,.dead,.dead,.dead,.dead,.dead,.dead],[]⟩) = some out) : F tab 23 [a0] hp = some out := F_code t23 (by rw [hh]; rfl) h
theorem t24 : tab 24 = some (.code r24) := rfl
theorem f24 {a0 : PV} {hp : List Ent} {out : Out} (hh : PV.hfrees [a0] = true) (h : fnEnd r24 hp (V (F tab) r24_T ⟨[a0,.dead,.dead,.dead,.dead,.dead,.dead,.dead,.dead,.dead,.dead,.dead,.dead,.dead,.dead,.dead,.dead,.dead,.dead,.dead,.dead,.dead,.dead,.dead,.dead,.dead,.dead,.dead,.dead,.dead,.dead,.dead,.dead,.dead,.dead,.dead,.dead,.dead,.dead,.dead,.dead,.dead,.dead,.dead,.dead,.dead,.dead,.dead,.dead,.dead,.dead,.dead,.dead,.dead,.dead,.dead,.dead,.dead],[]⟩) = some out) : F tab 24 [a0] hp = some out := F_code t24 (by rw [hh]; rfl) h
theorem t11 : tab 11 = some (.code r11) := rfl
theorem f11 {hp : List Ent} {out : Out} (hh : PV.hfrees [] = true) (h : fnEnd r11 hp (V (F tab) r11_T ⟨[.dead,.dead],[]⟩) = some out) : F tab 11 [] hp = some out := F_code t11 (by rw [hh]; rfl) h
theorem t13 : tab 13 = some (.code r13) := rfl
theorem f13 {a0 a1 : PV} {hp : List Ent} {out : Out} (hh : PV.hfrees [a0,a1] = true) (h : fnEnd r13 hp (V (F tab) r13_T ⟨[a0,a1,.dead,.dead,.dead,.dead,.dead,.dead,.dead,.dead,.dead,.dead,.dead,.dead,.dead,.dead,.dead,.dead,.dead,.dead,.dead,.dead,.dead,.dead,.dead,.dead,.dead,.dead,.dead,.dead,.dead],[]⟩) = some out) : F tab 13 [a0,a1] hp = some out := F_code t13 (by rw [hh]; rfl) h
theorem t95 : tab 95 = some (.code r95) := rfl
theorem f95 {a0 a1 : PV} {hp : List Ent} {out : Out} (hh : PV.hfrees [a0,a1] = true) (h : fnEnd r95 hp (V (F tab) r95_T ⟨[a0,a1,.dead,.dead,.dead,.dead,.dead,.dead,.dead,.dead,.dead,.dead,.dead,.dead,.dead,.dead,.dead,.dead,.dead,.dead,.dead],[]⟩) = some out) : F tab 95 [a0,a1] hp = some out := F_code t95 (by rw [hh]; rfl) h
theorem t74 : tab 74 = some (.code r74) := rfl
theorem f74 {a0 a1 : PV} {hp : List Ent} {out : Out} (hh : PV.hfrees [a0,a1] = true) (h : fnEnd r74 hp (V (F tab) r74_T ⟨[a0,a1,.dead,.dead,.dead,.dead,.dead,.dead,.dead,.dead,.dead,.dead,.dead,.dead,.dead,.dead,.dead,.dead,.dead,.dead,.dead,.dead,.dead,.dead,.dead,.dead,.dead,.dead,.dead,.dead,.dead,.dead,.dead,.dead,.dead,.dead,.dead,.dead,.dead,.dead,.dead,.dead,.dead,.dead,.dead,.dead,.dead,.dead,.dead,.dead,.dead,.dead,.dead,.dead,.dead,.dead,.dead,.dead,.dead,.dead,.dead,.dead,.dead,.dead,.dead,.dead,.dead,.dead,.dead,.dead,.dead,.dead,.dead,.dead,.dead,.dead],[]⟩) = some out) : F tab 74 [a0,a1] hp = some out := F_code t74 (by rw [hh]; rfl) h
theorem t42 : tab 42 = some (.code r42) := rfl
theorem f42 {a0 a1 : PV} {hp : List Ent} {out : Out} (hh : PV.hfrees [a0,a1] = true) (h : fnEnd r42 hp (V (F tab) r42_T ⟨[a0,a1,.dead,.dead,.dead,.dead,.dead,.dead,.dead,.dead,.dead,.dead,.dead,.dead,.dead,.dead,.dead,.dead,.dead,.dead,.dead,.dead,.dead,.dead,.dead,.dead,.dead,.dead,.dead,.dead,.dead,.dead,.dead,.dead,.dead,.dead,.dead,.dead,.dead,.dead,.dead,.dead,.dead,.dead,.dead,.dead,.dead,.dead,.dead,.dead,.dead,.dead,.dead,.dead,.dead,.dead,.dead,.dead,.dead,.dead,.dead,.dead,.dead,.dead,.dead,.dead,.dead,.dead,.dead,.dead,.dead,.dead,.dead,.dead,.dead,.dead,.dead,.dead,.dead,.dead,.dead,.dead,.dead,.dead,.dead,.dead,.dead,.dead,.dead,.dead,.dead,.dead,.dead],[]⟩) = some out) : F tab 42 [a0,a1] hp = some out := F_code t42 (by rw [hh]; rfl) h
theorem t25 : tab 25 = some (.code r25) := rfl
theorem f25 {a0 : PV} {hp : List Ent} {out : Out} (hh : PV.hfrees [a0] = true) (h : fnEnd r25 hp (V (F tab) r25_T ⟨[a0,.dead,.dead,.dead,.dead,.dead,.dead,.dead,.dead,.dead,.dead,.dead,.dead,.dead,.dead,.dead,.dead,.dead,.dead,.dead,.dead,.dead,.dead,.dead,.dead,.dead,.dead,.dead,.dead,.dead,.dead,.dead,.dead,.dead,.dead,.dead,.dead,.dead,.dead,.dead,.dead,.dead,.dead,.dead,.dead,.dead,.dead,.dead,.dead,.dead,.dead,.dead,.dead,.dead,.dead,.dead,.dead,.dead,.dead,.dead,.dead,.dead],[]⟩) = some out) : F tab 25 [a0] hp = some out := F_code t25 (by rw [hh]; rfl) h
theorem t46 : tab 46 = some (.code r46) := rfl
theorem f46 {a0 a1 : PV} {hp : List Ent} {out : Out} (hh : PV.hfrees [a0,a1] = true) (h : fnEnd r46 hp (V (F tab) r46_T ⟨[a0,a1,.dead,.dead,.dead,.dead,.dead,.dead,.dead,.dead,.dead,.dead,.dead,.dead,.dead,.dead,.dead,.dead,.dead,.dead,.dead,.dead,.dead,.dead,.dead,.dead],[]⟩) = some out) : F tab 46 [a0,a1] hp = some out := F_code t46 (by rw [hh]; rfl) h
theorem t75 : tab 75 = some (.code r75) := rfl
theorem f75 {a0 a1 a2 : PV} {hp : List Ent} {out : Out} (h : fnEnd r75 hp (V (F tab) r75_T ⟨[a0,a1,a2,.dead,.dead,.dead,.dead,.dead,.dead,.dead,.dead,.dead,.dead,.dead,.dead,.dead,.dead,.dead,.dead,.dead,.dead,.dead,.dead,.dead,.dead,.dead,.dead,.dead,.dead,.dead,.dead,.dead],hp⟩) = some out) : F tab 75 [a0,a1,a2] hp = some out := F_code t75 rfl h
theorem t43 : tab 43 = some (.code r43) := rfl
theorem f43 {a0 a1 : PV} {hp : List Ent} {out : Out} (hh : PV.hfrees [a0,a1] = true) (h : fnEnd r43 hp (V (F tab) r43_T ⟨[a0,a1,.dead,.dead,.dead,.dead,.dead,.dead,.dead,.dead,.dead,.dead,.dead,.dead,.dead,.dead,.dead,.dead,.dead,.dead,.dead,.dead,.dead,.dead,.dead,.dead,.dead,.dead,.dead,.dead,.dead,.dead,.dead,.dead,.dead,.dead,.dead,.dead,.dead,.dead,.dead,.dead,.dead,.dead,.dead,.dead,.dead,.dead,.dead,.dead,.dead],[]⟩) = some out) : F tab 43 [a0,a1] hp = some out := F_code t43 (by rw [hh]; rfl) h
theorem t44 : tab 44 = some (.code r44) := rfl
theorem f44 {a0 a1 a2 : PV} {hp : List Ent} {out : Out} (h : fnEnd r44 hp (V (F tab) r44_T ⟨[a0,a1,a2,.dead,.dead,.dead,.dead,.dead,.dead,.dead,.dead,.dead,.dead,.dead,.dead,.dead,.dead,.dead,.dead,.dead,.dead,.dead,.dead,.dead,.dead,.dead,.dead,.dead,.dead,.dead,.dead,.dead],hp⟩) = some out) : F tab 44 [a0,a1,a2] hp = some out := F_code t44 rfl h
theorem t45 : tab 45 = some (.code r45) := rfl
theorem f45 {a0 a1 : PV} {hp : List Ent} {out : Out} (hh : PV.hfrees [a0,a1] = true) (h : fnEnd r45 hp (V (F tab) r45_T ⟨[a0,a1,.dead,.dead,.dead,.dead,.dead,.dead,.dead,.dead,.dead,.dead,.dead,.dead,.dead,.dead,.dead,.dead,.dead,.dead,.dead,.dead,.dead,.dead],[]⟩) = some out) : F tab 45 [a0,a1] hp = some out := F_code t45 (by rw [hh]; rfl) h
theorem t26 : tab 26 = some (.code r26) := rfl
theorem f26 {a0 a1 : PV} {hp : List Ent} {out : Out} (hh : PV.hfrees [a0,a1] = true) (h : fnEnd r26 hp (V (F tab) r26_T ⟨[a0,a1,.dead,.dead,.dead,.dead,.dead,.dead,.dead,.dead,.dead,.dead,.dead,.dead,.dead,.dead,.dead],[]⟩) = some out) : F tab 26 [a0,a1] hp = some out := F_code t26 (by rw [hh]; rfl) h
theorem t6 : tab 6 = some (.code r6) := rfl
theorem f6 {a0 : PV} {hp : List Ent} {out : Out} (hh : PV.hfrees [a0] = true) (h : fnEnd r6 hp (V (F tab) r6_T ⟨[a0,.dead,.dead,.dead,.dead,.dead,.dead,.dead,.dead,.dead,.dead,.dead,.dead,.dead,.dead,.dead,.dead,.dead,.dead,.dead,.dead,.dead,.dead,.dead,.dead,.dead,.dead,.dead,.dead,.dead,.dead,.dead,.dead,.dead,.dead,.dead,.dead,.dead,.dead,.dead,.dead,.dead,.dead,.dead,.dead,.dead,.dead,.dead,.dead,.dead,.dead,.dead,.dead,.dead,.dead,.dead,.dead,.dead,.dead,.dead,.dead,.dead,.dead,.dead,.dead,.dead,.dead,.dead,.dead,.dead,.dead,.dead,.dead,.dead],[]⟩) = some out) : F tab 6 [a0] hp = some out := F_code t6 (by rw [hh]; rfl) h
end Go.Pe.T

namespace Go.Pe.T
def namesL : List ByteArray := [⟨#[108, 101, 110, 103, 116, 104]⟩, ⟨#[107, 101, 121, 115]⟩, ⟨#[118, 97, 108, 117, 101, 115]⟩, ⟨#[116, 121, 112, 101]⟩, ⟨#[110, 111, 116]⟩, ⟨#[97, 100, 100]⟩, ⟨#[115, 111, 114, 116]⟩, ⟨#[117, 110, 105, 113, 117, 101]⟩, ⟨#[114, 101, 118, 101, 114, 115, 101]⟩, ⟨#[102, 105, 114, 115, 116]⟩, ⟨#[108, 97, 115, 116]⟩, ⟨#[108, 101, 97, 115, 116]⟩, ⟨#[109, 111, 115, 116]⟩, ⟨#[116, 111, 115, 116, 114, 105, 110, 103]⟩, ⟨#[116, 111, 110, 117, 109, 98, 101, 114]⟩, ⟨#[102, 108, 111, 111, 114]⟩, ⟨#[117, 112, 112, 101, 114]⟩, ⟨#[108, 111, 119, 101, 114]⟩, ⟨#[116, 114, 105, 109]⟩, ⟨#[104, 97, 115]⟩, ⟨#[101, 114, 114, 111, 114]⟩, ⟨#[106, 111, 105, 110]⟩, ⟨#[115, 112, 108, 105, 116]⟩, ⟨#[115, 116, 97, 114, 116, 115]⟩, ⟨#[101, 110, 100, 115]⟩, ⟨#[99, 111, 110, 116, 97, 105, 110, 115]⟩, ⟨#[116, 105, 109, 101, 115]⟩, ⟨#[102, 105, 110, 100]⟩, ⟨#[119, 105, 116, 104, 111, 117, 116]⟩, ⟨#[112, 117, 116]⟩, ⟨#[115, 108, 105, 99, 101]⟩]
theorem slives_ev : evF tab 100 14 [] [] = some (.ret (.d (.bool true)) []) := by kernel_rfl
theorem slives_ok (hp : List Ent) : F tab 14 [] hp = some (.ret (.d (.bool true)) hp) :=
  F_some.2 ⟨100, ((evF_nice (pf := pf) pf_ok 100).2 14 rfl _ _ _ _ slives_ev).2 hp⟩
theorem bnames_ev : evF tab 10 10 [] [] = some (.ret (.d (.sl (namesL.map D.str))) []) := by kernel_rfl
theorem bnames_ok (hp : List Ent) : F tab 10 [] hp = some (.ret (.d (.sl (namesL.map D.str))) hp) :=
  F_some.2 ⟨10, ((evF_nice (pf := pf) pf_ok 10).2 10 rfl _ _ _ _ bnames_ev).2 hp⟩
theorem rnames_ev : evF tab 10 11 [] [] = some (.ret (.d (.sl (namesL.map D.str))) []) := by kernel_rfl
theorem rnames_ok (hp : List Ent) : F tab 11 [] hp = some (.ret (.d (.sl (namesL.map D.str))) hp) :=
  F_some.2 ⟨10, ((evF_nice (pf := pf) pf_ok 10).2 11 rfl _ _ _ _ rnames_ev).2 hp⟩
def ptsN (i : Nat) : Int := if i < 19 then 0 else if i < 29 then 1 else 2
theorem bparts_ok (i : Nat) (hp : List Ent) : F tab 33 [.d (iv i)] hp = some (.ret (.d (iv (ptsN i))) hp) := by
  refine f33 rfl ?_
  unfold ptsN
  by_cases h1 : i < 19
  · have k1 : ((i : Int) < 19) = True := eq_true (by omega)
    rw [if_pos h1]
    simp (disch := omega) only [go_sem, and_self, and_true, true_and, false_and, and_false, Nat.reduceAdd, Nat.reduceMul, Nat.reduceSub, Nat.reduceLeDiff, Nat.reduceLT, Nat.reduceGT, Nat.reduceEqDiff, Nat.reduceBEq, Int.reduceNeg, Int.reduceEq, Int.reduceLT, Int.reduceLE, Int.reduceBEq, Int.reduceToNat, Int.toNat_natCast, Int.natCast_zero, r33_T, r33, k1]
  · have k1 : ((i : Int) < 19) = False := eq_false (by omega)
    rw [if_neg h1]
    by_cases h2 : i < 29
    · have k2 : ((i : Int) < 29) = True := eq_true (by omega)
      rw [if_pos h2]
      simp (disch := omega) only [go_sem, and_self, and_true, true_and, false_and, and_false, Nat.reduceAdd, Nat.reduceMul, Nat.reduceSub, Nat.reduceLeDiff, Nat.reduceLT, Nat.reduceGT, Nat.reduceEqDiff, Nat.reduceBEq, Int.reduceNeg, Int.reduceEq, Int.reduceLT, Int.reduceLE, Int.reduceBEq, Int.reduceToNat, Int.toNat_natCast, Int.natCast_zero, r33_T, r33, k1, k2]
    · have k2 : ((i : Int) < 29) = False := eq_false (by omega)
      rw [if_neg h2]
      simp (disch := omega) only [go_sem, and_self, and_true, true_and, false_and, and_false, Nat.reduceAdd, Nat.reduceMul, Nat.reduceSub, Nat.reduceLeDiff, Nat.reduceLT, Nat.reduceGT, Nat.reduceEqDiff, Nat.reduceBEq, Int.reduceNeg, Int.reduceEq, Int.reduceLT, Int.reduceLE, Int.reduceBEq, Int.reduceToNat, Int.toNat_natCast, Int.natCast_zero, r33_T, r33, k1, k2]

def bfind (nm : ByteArray) (n : Int) : List ByteArray → Nat → Option Nat
  | [], _ => none
  | x :: xs, i => if x.toList == nm.toList && ptsN i == n then some i else bfind nm n xs (i + 1)
theorem strs_get {xs : List ByteArray} {i : Nat} {x : ByteArray} (h : xs[i]? = some x) : (xs.map D.str)[i]? = some (.str x) := by rw [List.getElem?_map, h]; rfl
theorem drop_get {α : Type} {xs : List α} {i : Nat} {x : α} {r : List α} (h : xs.drop i = x :: r) : i < xs.length ∧ xs[i]? = some x ∧ xs.drop (i + 1) = r := by
  have hi : i < xs.length := by
    apply Classical.byContradiction
    intro hc
    rw [List.drop_of_length_le (by omega)] at h
    simp at h
  rw [List.drop_eq_getElem_cons hi, List.cons.injEq] at h
  exact ⟨hi, by rw [List.getElem?_eq_getElem hi, h.1], h.2⟩
theorem drop_none {α : Type} {xs : List α} {i : Nat} (h : xs.drop i = []) (hi : i ≤ xs.length) : i = xs.length := by
  have := congrArg List.length h
  simp at this
  omega

def bAns (o : Option Nat) : Option (Ex × St) := match o with
  | some i => some (.ret, r12_R (.d (iv (i : Nat))) (.d (.bool true)) [])
  | none => some (.norm, r12_E0 [])
def BlIs (nm : ByteArray) (n : Int) (xs r : List ByteArray) (i : Nat) : Prop :=
  V (F tab) r12_B0 (r12_S0 (.d (.str nm)) (.d (iv n)) (.d (.sl (xs.map D.str))) (.d (iv xs.length)) (.d (iv i)) []) = bAns (bfind nm n r i)
theorem bl_nil (nm : ByteArray) (n : Int) (xs : List ByteArray) : BlIs nm n xs [] xs.length := by
  have h1 : ((xs.length : Int) < (xs.length : Int)) = False := eq_false (by omega)
  unfold BlIs
  rw [r12_B0_eq]
  simp (disch := omega) only [go_sem, and_self, and_true, true_and, false_and, and_false, Nat.reduceAdd, Nat.reduceMul, Nat.reduceSub, Nat.reduceLeDiff, Nat.reduceLT, Nat.reduceGT, Nat.reduceEqDiff, Nat.reduceBEq, Int.reduceNeg, Int.reduceEq, Int.reduceLT, Int.reduceLE, Int.reduceBEq, Int.reduceToNat, Int.toNat_natCast, Int.natCast_zero, r12_C0, h1, bfind, bAns]
theorem bl_step (nm : ByteArray) (n : Int) (xs : List ByteArray) (x : ByteArray) (r : List ByteArray) (i : Nat) (hl : xs.length ≤ 1000) (hi : i < xs.length) (hx : xs[i]? = some x) (ih : BlIs nm n xs r (i + 1)) : BlIs nm n xs (x :: r) i := by
  have h1 : ((i : Int) < (xs.length : Int)) = True := eq_true (by omega)
  have i0 : (0 ≤ (i : Int)) = True := eq_true (by omega)
  have va := strs_get hx
  have e1 : (i : Int) + 1 = ((i + 1 : Nat) : Int) := rfl
  have hp := bparts_ok i
  unfold BlIs at ih ⊢
  rw [bfind, r12_B0_eq]
  rcases Bool.eq_false_or_eq_true (x.toList == nm.toList) with g | g
  · rcases Bool.eq_false_or_eq_true (ptsN i == n) with g2 | g2
    · rw [g, g2]
      simp (disch := omega) only [go_sem, and_self, and_true, true_and, false_and, and_false, Nat.reduceAdd, Nat.reduceMul, Nat.reduceSub, Nat.reduceLeDiff, Nat.reduceLT, Nat.reduceGT, Nat.reduceEqDiff, Nat.reduceBEq, Int.reduceNeg, Int.reduceEq, Int.reduceLT, Int.reduceLE, Int.reduceBEq, Int.reduceToNat, Int.toNat_natCast, Int.natCast_zero, strD, r12_C0, h1, i0, va, g, hp, g2, bAns]
    · rw [g, g2, if_neg (by simp)]
      simp (disch := omega) only [go_sem, and_self, and_true, true_and, false_and, and_false, Nat.reduceAdd, Nat.reduceMul, Nat.reduceSub, Nat.reduceLeDiff, Nat.reduceLT, Nat.reduceGT, Nat.reduceEqDiff, Nat.reduceBEq, Int.reduceNeg, Int.reduceEq, Int.reduceLT, Int.reduceLE, Int.reduceBEq, Int.reduceToNat, Int.toNat_natCast, Int.natCast_zero, strD, r12_C0, h1, i0, va, g, hp, g2, e1, w64]
      exact ih
  · rw [g, if_neg (by simp)]
    simp (disch := omega) only [go_sem, and_self, and_true, true_and, false_and, and_false, Nat.reduceAdd, Nat.reduceMul, Nat.reduceSub, Nat.reduceLeDiff, Nat.reduceLT, Nat.reduceGT, Nat.reduceEqDiff, Nat.reduceBEq, Int.reduceNeg, Int.reduceEq, Int.reduceLT, Int.reduceLE, Int.reduceBEq, Int.reduceToNat, Int.toNat_natCast, Int.natCast_zero, strD, r12_C0, h1, i0, va, g, e1, w64]
    exact ih
theorem bl_loop (nm : ByteArray) (n : Int) (xs : List ByteArray) (hl : xs.length ≤ 1000) : ∀ (r : List ByteArray) (i : Nat), xs.drop i = r → i ≤ xs.length → BlIs nm n xs r i
  | [], i, h, hi => by
    obtain rfl := drop_none h hi
    exact bl_nil nm n xs
  | x :: r, i, h, hi => by
    obtain ⟨h1, h2, h3⟩ := drop_get h
    exact bl_step nm n xs x r i hl h1 h2 (bl_loop nm n xs hl r (i + 1) h3 (by omega))
theorem builtin_ok (nm : ByteArray) (n : Int) (hp : List Ent) : F tab 12 [.d (.str nm), .d (iv n)] hp = some (.ret (.tup [.d (iv ((bfind nm n namesL 0).getD 0 : Nat)), .d (.bool (bfind nm n namesL 0).isSome)]) hp) := by
  have hL := bl_loop nm n namesL (by decide) namesL 0 rfl (by omega)
  have hn := bnames_ok []
  have hll : namesL.length = 31 := by decide
  unfold BlIs at hL
  have z : ((0 : Nat) : Int) = 0 := rfl
  rw [z] at hL
  refine f12 rfl ?_
  generalize namesL = xs at *
  simp (disch := omega) only [go_sem, and_self, and_true, true_and, false_and, and_false, Nat.reduceAdd, Nat.reduceMul, Nat.reduceSub, Nat.reduceLeDiff, Nat.reduceLT, Nat.reduceGT, Nat.reduceEqDiff, Nat.reduceBEq, Int.reduceNeg, Int.reduceEq, Int.reduceLT, Int.reduceLE, Int.reduceBEq, Int.reduceToNat, Int.toNat_natCast, Int.natCast_zero, r12_T, r12, hn, List.length_map]
  rw [r12_B0_n]
  erw [hL]
  cases bfind nm n xs 0 with
  | none => simp (disch := omega) only [go_sem, and_self, and_true, true_and, false_and, and_false, Nat.reduceAdd, Nat.reduceMul, Nat.reduceSub, Nat.reduceLeDiff, Nat.reduceLT, Nat.reduceGT, Nat.reduceEqDiff, Nat.reduceBEq, Int.reduceNeg, Int.reduceEq, Int.reduceLT, Int.reduceLE, Int.reduceBEq, Int.reduceToNat, Int.toNat_natCast, Int.natCast_zero, bAns, Option.getD_none, Option.isSome_none]
  | some i => simp (disch := omega) only [go_sem, and_self, and_true, true_and, false_and, and_false, Nat.reduceAdd, Nat.reduceMul, Nat.reduceSub, Nat.reduceLeDiff, Nat.reduceLT, Nat.reduceGT, Nat.reduceEqDiff, Nat.reduceBEq, Int.reduceNeg, Int.reduceEq, Int.reduceLT, Int.reduceLE, Int.reduceBEq, Int.reduceToNat, Int.toNat_natCast, Int.natCast_zero, bAns, Option.getD_some, Option.isSome_some]

def rAns (o : Option Nat) : Option (Ex × St) := match o with
  | some i => some (.ret, r13_R (.d (iv (i : Nat))) [])
  | none => some (.norm, r13_E0 [])
def RlIs (nm : ByteArray) (n : Int) (xs r : List ByteArray) (i : Nat) : Prop :=
  V (F tab) r13_B0 (r13_S0 (.d (.str nm)) (.d (iv n)) (.d (.sl (xs.map D.str))) (.d (iv i)) []) = rAns (bfind nm n r i)
theorem rl_nil (nm : ByteArray) (n : Int) (xs : List ByteArray) : RlIs nm n xs [] xs.length := by
  have h1 : ((xs.length : Int) < (xs.length : Int)) = False := eq_false (by omega)
  unfold RlIs
  rw [r13_B0_eq]
  simp (disch := omega) only [go_sem, and_self, and_true, true_and, false_and, and_false, Nat.reduceAdd, Nat.reduceMul, Nat.reduceSub, Nat.reduceLeDiff, Nat.reduceLT, Nat.reduceGT, Nat.reduceEqDiff, Nat.reduceBEq, Int.reduceNeg, Int.reduceEq, Int.reduceLT, Int.reduceLE, Int.reduceBEq, Int.reduceToNat, Int.toNat_natCast, Int.natCast_zero, r13_C0, h1, bfind, rAns, List.length_map]
set_option maxHeartbeats 1000000 in
theorem rl_step (nm : ByteArray) (n : Int) (xs : List ByteArray) (x : ByteArray) (r : List ByteArray) (i : Nat) (hl : xs.length ≤ 1000) (hi : i < xs.length) (hx : xs[i]? = some x) (ih : RlIs nm n xs r (i + 1)) : RlIs nm n xs (x :: r) i := by
  have h1 : ((i : Int) < (xs.length : Int)) = True := eq_true (by omega)
  have i0 : (0 ≤ (i : Int)) = True := eq_true (by omega)
  have va := strs_get hx
  have e1 : (i : Int) + 1 = ((i + 1 : Nat) : Int) := rfl
  unfold RlIs at ih ⊢
  rw [bfind, r13_B0_eq]
  by_cases h19 : i < 19
  · have k1 : ((i : Int) ≥ 19) = False := eq_false (by omega)
    have k2 : ((i : Int) ≥ 29) = False := eq_false (by omega)
    have hpt : ptsN i = 0 := by simp [ptsN, h19]
    rw [hpt]
    rcases Bool.eq_false_or_eq_true (x.toList == nm.toList) with g | g
    · rcases Bool.eq_false_or_eq_true ((0 : Int) == n) with g2 | g2
      · rw [g, g2]
        simp (disch := omega) only [go_sem, and_self, and_true, true_and, false_and, and_false, Nat.reduceAdd, Nat.reduceMul, Nat.reduceSub, Nat.reduceLeDiff, Nat.reduceLT, Nat.reduceGT, Nat.reduceEqDiff, Nat.reduceBEq, Int.reduceNeg, Int.reduceEq, Int.reduceLT, Int.reduceLE, Int.reduceBEq, Int.reduceToNat, Int.toNat_natCast, Int.natCast_zero, strD, r13_C0, h1, i0, va, g, k1, k2, g2, rAns, List.length_map]
      · rw [g, g2, if_neg (by simp)]
        simp (disch := omega) only [go_sem, and_self, and_true, true_and, false_and, and_false, Nat.reduceAdd, Nat.reduceMul, Nat.reduceSub, Nat.reduceLeDiff, Nat.reduceLT, Nat.reduceGT, Nat.reduceEqDiff, Nat.reduceBEq, Int.reduceNeg, Int.reduceEq, Int.reduceLT, Int.reduceLE, Int.reduceBEq, Int.reduceToNat, Int.toNat_natCast, Int.natCast_zero, strD, r13_C0, h1, i0, va, g, k1, k2, g2, e1, w64, List.length_map]
        exact ih
    · rw [g, if_neg (by simp)]
      simp (disch := omega) only [go_sem, and_self, and_true, true_and, false_and, and_false, Nat.reduceAdd, Nat.reduceMul, Nat.reduceSub, Nat.reduceLeDiff, Nat.reduceLT, Nat.reduceGT, Nat.reduceEqDiff, Nat.reduceBEq, Int.reduceNeg, Int.reduceEq, Int.reduceLT, Int.reduceLE, Int.reduceBEq, Int.reduceToNat, Int.toNat_natCast, Int.natCast_zero, strD, r13_C0, h1, i0, va, g, k1, k2, e1, w64, List.length_map]
      exact ih
  · by_cases h29 : i < 29
    · have k1 : ((i : Int) ≥ 19) = True := eq_true (by omega)
      have k2 : ((i : Int) ≥ 29) = False := eq_false (by omega)
      have hpt : ptsN i = 1 := by simp [ptsN, h19, h29]
      rw [hpt]
      rcases Bool.eq_false_or_eq_true (x.toList == nm.toList) with g | g
      · rcases Bool.eq_false_or_eq_true ((1 : Int) == n) with g2 | g2
        · rw [g, g2]
          simp (disch := omega) only [go_sem, and_self, and_true, true_and, false_and, and_false, Nat.reduceAdd, Nat.reduceMul, Nat.reduceSub, Nat.reduceLeDiff, Nat.reduceLT, Nat.reduceGT, Nat.reduceEqDiff, Nat.reduceBEq, Int.reduceNeg, Int.reduceEq, Int.reduceLT, Int.reduceLE, Int.reduceBEq, Int.reduceToNat, Int.toNat_natCast, Int.natCast_zero, strD, r13_C0, h1, i0, va, g, k1, k2, g2, rAns, List.length_map]
        · rw [g, g2, if_neg (by simp)]
          simp (disch := omega) only [go_sem, and_self, and_true, true_and, false_and, and_false, Nat.reduceAdd, Nat.reduceMul, Nat.reduceSub, Nat.reduceLeDiff, Nat.reduceLT, Nat.reduceGT, Nat.reduceEqDiff, Nat.reduceBEq, Int.reduceNeg, Int.reduceEq, Int.reduceLT, Int.reduceLE, Int.reduceBEq, Int.reduceToNat, Int.toNat_natCast, Int.natCast_zero, strD, r13_C0, h1, i0, va, g, k1, k2, g2, e1, w64, List.length_map]
          exact ih
      · rw [g, if_neg (by simp)]
        simp (disch := omega) only [go_sem, and_self, and_true, true_and, false_and, and_false, Nat.reduceAdd, Nat.reduceMul, Nat.reduceSub, Nat.reduceLeDiff, Nat.reduceLT, Nat.reduceGT, Nat.reduceEqDiff, Nat.reduceBEq, Int.reduceNeg, Int.reduceEq, Int.reduceLT, Int.reduceLE, Int.reduceBEq, Int.reduceToNat, Int.toNat_natCast, Int.natCast_zero, strD, r13_C0, h1, i0, va, g, k1, k2, e1, w64, List.length_map]
        exact ih
    · have k1 : ((i : Int) ≥ 19) = True := eq_true (by omega)
      have k2 : ((i : Int) ≥ 29) = True := eq_true (by omega)
      have hpt : ptsN i = 2 := by simp [ptsN, h19, h29]
      rw [hpt]
      rcases Bool.eq_false_or_eq_true (x.toList == nm.toList) with g | g
      · rcases Bool.eq_false_or_eq_true ((2 : Int) == n) with g2 | g2
        · rw [g, g2]
          simp (disch := omega) only [go_sem, and_self, and_true, true_and, false_and, and_false, Nat.reduceAdd, Nat.reduceMul, Nat.reduceSub, Nat.reduceLeDiff, Nat.reduceLT, Nat.reduceGT, Nat.reduceEqDiff, Nat.reduceBEq, Int.reduceNeg, Int.reduceEq, Int.reduceLT, Int.reduceLE, Int.reduceBEq, Int.reduceToNat, Int.toNat_natCast, Int.natCast_zero, strD, r13_C0, h1, i0, va, g, k1, k2, g2, rAns, List.length_map]
        · rw [g, g2, if_neg (by simp)]
          simp (disch := omega) only [go_sem, and_self, and_true, true_and, false_and, and_false, Nat.reduceAdd, Nat.reduceMul, Nat.reduceSub, Nat.reduceLeDiff, Nat.reduceLT, Nat.reduceGT, Nat.reduceEqDiff, Nat.reduceBEq, Int.reduceNeg, Int.reduceEq, Int.reduceLT, Int.reduceLE, Int.reduceBEq, Int.reduceToNat, Int.toNat_natCast, Int.natCast_zero, strD, r13_C0, h1, i0, va, g, k1, k2, g2, e1, w64, List.length_map]
          exact ih
      · rw [g, if_neg (by simp)]
        simp (disch := omega) only [go_sem, and_self, and_true, true_and, false_and, and_false, Nat.reduceAdd, Nat.reduceMul, Nat.reduceSub, Nat.reduceLeDiff, Nat.reduceLT, Nat.reduceGT, Nat.reduceEqDiff, Nat.reduceBEq, Int.reduceNeg, Int.reduceEq, Int.reduceLT, Int.reduceLE, Int.reduceBEq, Int.reduceToNat, Int.toNat_natCast, Int.natCast_zero, strD, r13_C0, h1, i0, va, g, k1, k2, e1, w64, List.length_map]
        exact ih
theorem rl_loop (nm : ByteArray) (n : Int) (xs : List ByteArray) (hl : xs.length ≤ 1000) : ∀ (r : List ByteArray) (i : Nat), xs.drop i = r → i ≤ xs.length → RlIs nm n xs r i
  | [], i, h, hi => by
    obtain rfl := drop_none h hi
    exact rl_nil nm n xs
  | x :: r, i, h, hi => by
    obtain ⟨h1, h2, h3⟩ := drop_get h
    exact rl_step nm n xs x r i hl h1 h2 (rl_loop nm n xs hl r (i + 1) h3 (by omega))
theorem rbuiltin_ok (nm : ByteArray) (n : Int) (hp : List Ent) : F tab 13 [.d (.str nm), .d (iv n)] hp = some (.ret (.d (iv (match bfind nm n namesL 0 with | some i => (i : Int) | none => -1))) hp) := by
  have hL := rl_loop nm n namesL (by decide) namesL 0 rfl (by omega)
  have hn := rnames_ok []
  unfold RlIs at hL
  have z : ((0 : Nat) : Int) = 0 := rfl
  rw [z] at hL
  refine f13 rfl ?_
  generalize namesL = xs at *
  simp (disch := omega) only [go_sem, and_self, and_true, true_and, false_and, and_false, Nat.reduceAdd, Nat.reduceMul, Nat.reduceSub, Nat.reduceLeDiff, Nat.reduceLT, Nat.reduceGT, Nat.reduceEqDiff, Nat.reduceBEq, Int.reduceNeg, Int.reduceEq, Int.reduceLT, Int.reduceLE, Int.reduceBEq, Int.reduceToNat, Int.toNat_natCast, Int.natCast_zero, r13_T, r13, hn]
  rw [r13_B0_n]
  erw [hL]
  cases bfind nm n xs 0 with
  | none => simp (disch := omega) only [go_sem, and_self, and_true, true_and, false_and, and_false, Nat.reduceAdd, Nat.reduceMul, Nat.reduceSub, Nat.reduceLeDiff, Nat.reduceLT, Nat.reduceGT, Nat.reduceEqDiff, Nat.reduceBEq, Int.reduceNeg, Int.reduceEq, Int.reduceLT, Int.reduceLE, Int.reduceBEq, Int.reduceToNat, Int.toNat_natCast, Int.natCast_zero, rAns]
  | some i => simp (disch := omega) only [go_sem, and_self, and_true, true_and, false_and, and_false, Nat.reduceAdd, Nat.reduceMul, Nat.reduceSub, Nat.reduceLeDiff, Nat.reduceLT, Nat.reduceGT, Nat.reduceEqDiff, Nat.reduceBEq, Int.reduceNeg, Int.reduceEq, Int.reduceLT, Int.reduceLE, Int.reduceBEq, Int.reduceToNat, Int.toNat_natCast, Int.natCast_zero, rAns]

end Go.Pe.T

namespace Go.Pe.T
def lastI (l : List ByteArray) (nm : ByteArray) : Nat → Option Nat
  | 0 => none
  | i + 1 => match l[i]? with
    | some x => if x.toList == nm.toList then some i else lastI l nm i
    | none => lastI l nm i
def lostD (t : ByteArray) : D := .ifc 91 (.agg [.str t])
def lsAns (nm : ByteArray) (o : Option Nat) : Option (Ex × St) := match o with
  | some i => some (.ret, r63_R (.d (iv (i : Nat))) [])
  | none => some (.norm, r63_E0 (.d (.str nm)) (.d (iv 0)) [])
def LsIs (nm : ByteArray) (xs : List ByteArray) (i : Nat) : Prop :=
  V (F tab) r63_B0 (r63_S0 (.d (.sl (xs.map D.str))) (.d (.str nm)) (.d (iv 0)) (.d (iv ((i : Int) - 1))) []) = lsAns nm (lastI xs nm i)
theorem ls_nil (nm : ByteArray) (xs : List ByteArray) : LsIs nm xs 0 := by
  unfold LsIs
  have z : ((0 : Nat) : Int) - 1 = -1 := rfl
  have h0 : ((-1 : Int) ≥ 0) = False := eq_false (by omega)
  rw [z, r63_B0_eq]
  simp (disch := omega) only [go_sem, and_self, and_true, true_and, false_and, and_false, Nat.reduceAdd, Nat.reduceMul, Nat.reduceSub, Nat.reduceLeDiff, Nat.reduceLT, Nat.reduceGT, Nat.reduceEqDiff, Nat.reduceBEq, Int.reduceNeg, Int.reduceEq, Int.reduceLT, Int.reduceLE, Int.reduceBEq, Int.reduceToNat, Int.toNat_natCast, Int.natCast_zero, r63_C0, lastI, lsAns, h0]
theorem ls_step (nm : ByteArray) (xs : List ByteArray) (i : Nat) (hl : xs.length ≤ maxLen) (hi : i < xs.length) (ih : LsIs nm xs i) : LsIs nm xs (i + 1) := by
  have hmx : maxLen = 9223372036854775807 := by decide
  have e1 : ((i + 1 : Nat) : Int) - 1 = (i : Int) := by omega
  have h1 : ((i : Int) ≥ 0) = True := eq_true (by omega)
  have i0 : (0 ≤ (i : Int)) = True := eq_true (by omega)
  have hx : xs[i]? = some xs[i] := List.getElem?_eq_getElem hi
  have va := strs_get hx
  unfold LsIs at ih ⊢
  rw [e1, r63_B0_eq, lastI, hx]
  simp only
  rcases Bool.eq_false_or_eq_true (xs[i].toList == nm.toList) with g | g
  · rw [if_pos g]
    simp (disch := omega) only [go_sem, and_self, and_true, true_and, false_and, and_false, Nat.reduceAdd, Nat.reduceMul, Nat.reduceSub, Nat.reduceLeDiff, Nat.reduceLT, Nat.reduceGT, Nat.reduceEqDiff, Nat.reduceBEq, Int.reduceNeg, Int.reduceEq, Int.reduceLT, Int.reduceLE, Int.reduceBEq, Int.reduceToNat, Int.toNat_natCast, Int.natCast_zero, strD, r63_C0, h1, i0, va, g, lsAns]
  · rw [if_neg (by simp [g])]
    simp (disch := omega) only [go_sem, and_self, and_true, true_and, false_and, and_false, Nat.reduceAdd, Nat.reduceMul, Nat.reduceSub, Nat.reduceLeDiff, Nat.reduceLT, Nat.reduceGT, Nat.reduceEqDiff, Nat.reduceBEq, Int.reduceNeg, Int.reduceEq, Int.reduceLT, Int.reduceLE, Int.reduceBEq, Int.reduceToNat, Int.toNat_natCast, Int.natCast_zero, strD, r63_C0, h1, i0, va, g, w64]
    exact ih
theorem ls_loop (nm : ByteArray) (xs : List ByteArray) (hl : xs.length ≤ maxLen) : ∀ (i : Nat), i ≤ xs.length → LsIs nm xs i
  | 0, _ => ls_nil nm xs
  | i + 1, h => ls_step nm xs i hl (by omega) (ls_loop nm xs hl i (by omega))
def lastV (xs : List ByteArray) (nm : ByteArray) : Option Nat := lastI xs nm xs.length
def atOut (nm : ByteArray) (hp : List Ent) : Option Int → Option Out
  | some i => some (.ret (.d (iv i)) hp)
  | none => some (.pan (lostD nm) hp)
theorem last_ok (xs : List ByteArray) (nm : ByteArray) (hl : xs.length ≤ maxLen) (hp : List Ent) : F tab 63 [.d (.sl (xs.map D.str)), .d (.str nm)] hp = atOut nm hp ((lastV xs nm).map fun i => (i : Int)) := by
  have hmx : maxLen = 9223372036854775807 := by decide
  have hL := ls_loop nm xs hl xs.length (Nat.le_refl _)
  unfold LsIs at hL
  unfold lastV
  cases h : lastI xs nm xs.length with
  | none =>
    rw [h] at hL
    refine f63 rfl ?_
    simp (disch := omega) only [go_sem, and_self, and_true, true_and, false_and, and_false, Nat.reduceAdd, Nat.reduceMul, Nat.reduceSub, Nat.reduceLeDiff, Nat.reduceLT, Nat.reduceGT, Nat.reduceEqDiff, Nat.reduceBEq, Int.reduceNeg, Int.reduceEq, Int.reduceLT, Int.reduceLE, Int.reduceBEq, Int.reduceToNat, Int.toNat_natCast, Int.natCast_zero, r63_T, r63, List.length_map, w64]
    rw [r63_B0_n]
    erw [hL]
    simp (disch := omega) only [go_sem, and_self, and_true, true_and, false_and, and_false, Nat.reduceAdd, Nat.reduceMul, Nat.reduceSub, Nat.reduceLeDiff, Nat.reduceLT, Nat.reduceGT, Nat.reduceEqDiff, Nat.reduceBEq, Int.reduceNeg, Int.reduceEq, Int.reduceLT, Int.reduceLE, Int.reduceBEq, Int.reduceToNat, Int.toNat_natCast, Int.natCast_zero, lsAns, atOut, Option.map_none]
    rfl
  | some i =>
    rw [h] at hL
    refine f63 rfl ?_
    simp (disch := omega) only [go_sem, and_self, and_true, true_and, false_and, and_false, Nat.reduceAdd, Nat.reduceMul, Nat.reduceSub, Nat.reduceLeDiff, Nat.reduceLT, Nat.reduceGT, Nat.reduceEqDiff, Nat.reduceBEq, Int.reduceNeg, Int.reduceEq, Int.reduceLT, Int.reduceLE, Int.reduceBEq, Int.reduceToNat, Int.toNat_natCast, Int.natCast_zero, r63_T, r63, List.length_map, w64]
    rw [r63_B0_n]
    erw [hL]
    simp (disch := omega) only [go_sem, and_self, and_true, true_and, false_and, and_false, Nat.reduceAdd, Nat.reduceMul, Nat.reduceSub, Nat.reduceLeDiff, Nat.reduceLT, Nat.reduceGT, Nat.reduceEqDiff, Nat.reduceBEq, Int.reduceNeg, Int.reduceEq, Int.reduceLT, Int.reduceLE, Int.reduceBEq, Int.reduceToNat, Int.toNat_natCast, Int.natCast_zero, lsAns, atOut, Option.map_some]

theorem strs_one (xs : List ByteArray) : ((xs.map D.str).all fun y => y.width == 1) = true := by
  simp [List.all_eq_true, D.width, D.cells]
theorem more_ok (xs : List ByteArray) (nm : ByteArray) (hl : xs.length ≤ 1000000) (hp : List Ent) : F tab 92 [.d (.sl (xs.map D.str)), .d (.str nm)] hp = some (.ret (.d (.sl ((xs ++ [nm]).map D.str))) hp) := by
  have hmx : maxLen = 9223372036854775807 := by decide
  have k1 : (0 ≤ (xs.length : Int)) = True := eq_true (by omega)
  have k2 : ((xs.length : Int) ≤ (xs.length : Int)) = True := eq_true (by omega)
  have k3 : cutD (xs.map D.str) 0 (xs.length : Int) = xs.map D.str := by
    have e : cutD (xs.map D.str) 0 (xs.length : Int) = (xs.map D.str).take xs.length := by simp [cutD]
    rw [e, List.take_of_length_le (by simp)]
  have hmr : maxRow = 140737488355328 := by decide
  have k4 : ((xs.length + 1) * 16 ≤ maxRow) = True := eq_true (by omega)
  have k5 : [D.str nm].isEmpty = false := rfl
  refine f92 rfl ?_
  simp (disch := omega) only [go_sem, and_self, and_true, true_and, false_and, and_false, Nat.reduceAdd, Nat.reduceMul, Nat.reduceSub, Nat.reduceLeDiff, Nat.reduceLT, Nat.reduceGT, Nat.reduceEqDiff, Nat.reduceBEq, Int.reduceNeg, Int.reduceEq, Int.reduceLT, Int.reduceLE, Int.reduceBEq, Int.reduceToNat, Int.toNat_natCast, Int.natCast_zero, k1, k2, k3, k4, k5, r92_T, r92, List.length_map, strs_one, List.map_append, List.map_cons, List.map_nil]

def inVars (o : Int) (t : ByteArray) (i : Nat) (vs : List ByteArray) : List ByteArray :=
  if (o = 17 ∧ i = 1) ∨ ((o = 13 ∨ o = 14) ∧ i = 2) then vs ++ [t] else vs
def inLabs (o : Int) (t : ByteArray) (ls : List ByteArray) : List ByteArray := if o = 18 then ls ++ [t] else ls
def arD (fs : List D) (vs ls : List ByteArray) : D := .agg [.sl fs, .sl (vs.map .str), .sl (ls.map .str)]
theorem around_as (fs : List D) (vs ls : List ByteArray) : arD fs vs ls = .agg [.sl fs, .sl (vs.map .str), .sl (ls.map .str)] := rfl
set_option maxHeartbeats 4000000 in
theorem in_ok (fs : List D) (vs ls : List ByteArray) (o : Int) (t : ByteArray) (p k c s nsD xsD : D) (hk : k.isAgg = false) (i : Nat) (hv : vs.length ≤ 1000000) (hl : ls.length ≤ 1000000) (hp : List Ent)
    (hpa : p.isAgg = false) (hca : c.isAgg = false) (hsa : s.isAgg = false) (hna : nsD.isAgg = false) (hxa : xsD.isAgg = false) :
    F tab 65 [.d (arD fs vs ls), .d (.agg [iv o, .str t, p, k, c, s, nsD, xsD]), .d (iv i)] hp = some (.ret (.d (arD fs (inVars o t i vs) (inLabs o t ls))) hp) := by
  have m1 := more_ok vs t hv
  have m2 := more_ok ls t hl
  unfold arD
  refine f65 rfl ?_
  unfold inVars inLabs
  have z1 : ((1 : Nat) : Int) = 1 := rfl
  have z2 : ((2 : Nat) : Int) = 2 := rfl
  by_cases o17 : o = 17
  · subst o17
    by_cases i1 : i = 1
    · subst i1
      rw [z1]
      simp (disch := omega) only [go_sem, and_self, and_true, true_and, false_and, and_false, Nat.reduceAdd, Nat.reduceMul, Nat.reduceSub, Nat.reduceLeDiff, Nat.reduceLT, Nat.reduceGT, Nat.reduceEqDiff, Nat.reduceBEq, Int.reduceNeg, Int.reduceEq, Int.reduceLT, Int.reduceLE, Int.reduceBEq, Int.reduceToNat, Int.toNat_natCast, Int.natCast_zero, r65_T, r65, r65_K2, m1, m2, or_self, or_true, true_or, or_false, false_or, and_self, z1]
    · have q1 : ((i : Int) == 1) = false := by rw [beq_eq_false_iff_ne]; omega
      simp (disch := omega) only [go_sem, and_self, and_true, true_and, false_and, and_false, Nat.reduceAdd, Nat.reduceMul, Nat.reduceSub, Nat.reduceLeDiff, Nat.reduceLT, Nat.reduceGT, Nat.reduceEqDiff, Nat.reduceBEq, Int.reduceNeg, Int.reduceEq, Int.reduceLT, Int.reduceLE, Int.reduceBEq, Int.reduceToNat, Int.toNat_natCast, Int.natCast_zero, r65_T, r65, r65_K2, m1, m2, or_self, or_true, true_or, or_false, false_or, and_self, q1, i1]
  · have q17 : (o == 17) = false := by simpa using o17
    by_cases o13 : o = 13
    · subst o13
      by_cases i2 : i = 2
      · subst i2
        rw [z2]
        simp (disch := omega) only [go_sem, and_self, and_true, true_and, false_and, and_false, Nat.reduceAdd, Nat.reduceMul, Nat.reduceSub, Nat.reduceLeDiff, Nat.reduceLT, Nat.reduceGT, Nat.reduceEqDiff, Nat.reduceBEq, Int.reduceNeg, Int.reduceEq, Int.reduceLT, Int.reduceLE, Int.reduceBEq, Int.reduceToNat, Int.toNat_natCast, Int.natCast_zero, r65_T, r65, r65_K2, m1, m2, or_self, or_true, true_or, or_false, false_or, and_self, z2]
      · have q2 : ((i : Int) == 2) = false := by rw [beq_eq_false_iff_ne]; omega
        simp (disch := omega) only [go_sem, and_self, and_true, true_and, false_and, and_false, Nat.reduceAdd, Nat.reduceMul, Nat.reduceSub, Nat.reduceLeDiff, Nat.reduceLT, Nat.reduceGT, Nat.reduceEqDiff, Nat.reduceBEq, Int.reduceNeg, Int.reduceEq, Int.reduceLT, Int.reduceLE, Int.reduceBEq, Int.reduceToNat, Int.toNat_natCast, Int.natCast_zero, r65_T, r65, r65_K2, m1, m2, or_self, or_true, true_or, or_false, false_or, and_self, q2, i2]
    · have q13 : (o == 13) = false := by simpa using o13
      by_cases o14 : o = 14
      · subst o14
        by_cases i2 : i = 2
        · subst i2
          rw [z2]
          simp (disch := omega) only [go_sem, and_self, and_true, true_and, false_and, and_false, Nat.reduceAdd, Nat.reduceMul, Nat.reduceSub, Nat.reduceLeDiff, Nat.reduceLT, Nat.reduceGT, Nat.reduceEqDiff, Nat.reduceBEq, Int.reduceNeg, Int.reduceEq, Int.reduceLT, Int.reduceLE, Int.reduceBEq, Int.reduceToNat, Int.toNat_natCast, Int.natCast_zero, r65_T, r65, r65_K2, m1, m2, or_self, or_true, true_or, or_false, false_or, and_self, z2]
        · have q2 : ((i : Int) == 2) = false := by rw [beq_eq_false_iff_ne]; omega
          simp (disch := omega) only [go_sem, and_self, and_true, true_and, false_and, and_false, Nat.reduceAdd, Nat.reduceMul, Nat.reduceSub, Nat.reduceLeDiff, Nat.reduceLT, Nat.reduceGT, Nat.reduceEqDiff, Nat.reduceBEq, Int.reduceNeg, Int.reduceEq, Int.reduceLT, Int.reduceLE, Int.reduceBEq, Int.reduceToNat, Int.toNat_natCast, Int.natCast_zero, r65_T, r65, r65_K2, m1, m2, or_self, or_true, true_or, or_false, false_or, and_self, q2, i2]
      · have q14 : (o == 14) = false := by simpa using o14
        by_cases o18 : o = 18
        · subst o18
          simp (disch := omega) only [go_sem, and_self, and_true, true_and, false_and, and_false, Nat.reduceAdd, Nat.reduceMul, Nat.reduceSub, Nat.reduceLeDiff, Nat.reduceLT, Nat.reduceGT, Nat.reduceEqDiff, Nat.reduceBEq, Int.reduceNeg, Int.reduceEq, Int.reduceLT, Int.reduceLE, Int.reduceBEq, Int.reduceToNat, Int.toNat_natCast, Int.natCast_zero, r65_T, r65, r65_K2, m1, m2, or_self, or_true, true_or, or_false, false_or, and_self, q17]
        · have q18 : (o == 18) = false := by simpa using o18
          simp (disch := omega) only [go_sem, and_self, and_true, true_and, false_and, and_false, Nat.reduceAdd, Nat.reduceMul, Nat.reduceSub, Nat.reduceLeDiff, Nat.reduceLT, Nat.reduceGT, Nat.reduceEqDiff, Nat.reduceBEq, Int.reduceNeg, Int.reduceEq, Int.reduceLT, Int.reduceLE, Int.reduceBEq, Int.reduceToNat, Int.toNat_natCast, Int.natCast_zero, r65_T, r65, r65_K2, m1, m2, or_self, or_true, true_or, or_false, false_or, and_self, q17, q13, q14, q18, o17, o13, o14, o18]
end Go.Pe.T

namespace Go.Pe.T
structure Fn where
  name : ByteArray
  params : List ByteArray
  body : Xp
def Fn.enc (f : Fn) : D := .agg (.str f.name :: .sl (f.params.map .str) :: f.body.enc.cells)
def fnDs (fs : List Fn) : List D := fs.map Fn.enc
theorem fn_as (f : Fn) : ∃ c0 c1 c2 c3 c4 c5 c6 c7, f.enc = .agg [.str f.name, .sl (f.params.map .str), c0, c1, c2, c3, c4, c5, c6, c7] := by
  obtain ⟨o, t, p, k, c, s, ns, xs, ex⟩ := xenc_as f.body
  exact ⟨iv o, .str t, iv p, iv k, iv c, iv s, .sl (ns.map .str), .sl (Xp.encs xs), by unfold Fn.enc; rw [ex]; rfl⟩
def lastF (fs : List Fn) (nm : ByteArray) (n : Nat) : Nat → Option Nat
  | 0 => none
  | i + 1 => match fs[i]? with
    | some f => if f.name.toList == nm.toList && ((f.params.length : Int) == (n : Int)) then some i else lastF fs nm n i
    | none => lastF fs nm n i
def callV (fs : List Fn) (nm : ByteArray) (n : Nat) : Option Int :=
  match lastF fs nm n fs.length with
  | some i => some i
  | none => (bfind nm n namesL 0).map fun i => 1000 + (i : Int)
def clAns (x3 : PV) (o : Option Nat) : Option (Ex × St) := match o with
  | some i => some (.ret, r64_R (.d (iv (i : Nat))) [])
  | none => some (.norm, r64_E0 x3 [])
def ClIs (fs : List Fn) (vsD lsD : D) (o : Int) (t : ByteArray) (p k c s nsD : D) (xs : List Xp) (i : Nat) : Prop :=
  V (F tab) r64_B0 (r64_S0 (.ibox [.d (.sl (fnDs fs)), .d vsD, .d lsD]) (.ibox [.d (iv o), .d (.str t), .d p, .d k, .d c, .d s, .d nsD, .d (.sl (Xp.encs xs))]) (.d (iv ((i : Int) - 1))) []) =
    clAns (.ibox [.d (iv o), .d (.str t), .d p, .d k, .d c, .d s, .d nsD, .d (.sl (Xp.encs xs))]) (lastF fs t xs.length i)
theorem cl_nil (fs : List Fn) (vsD lsD : D) (o : Int) (t : ByteArray) (p k c s nsD : D) (xs : List Xp) : ClIs fs vsD lsD o t p k c s nsD xs 0 := by
  unfold ClIs
  have z : ((0 : Nat) : Int) - 1 = -1 := rfl
  have h0 : ((-1 : Int) ≥ 0) = False := eq_false (by omega)
  rw [z, r64_B0_eq]
  simp (disch := omega) only [go_sem, and_self, and_true, true_and, false_and, and_false, Nat.reduceAdd, Nat.reduceMul, Nat.reduceSub, Nat.reduceLeDiff, Nat.reduceLT, Nat.reduceGT, Nat.reduceEqDiff, Nat.reduceBEq, Int.reduceNeg, Int.reduceEq, Int.reduceLT, Int.reduceLE, Int.reduceBEq, Int.reduceToNat, Int.toNat_natCast, Int.natCast_zero, r64_C0, lastF, clAns, h0]
theorem cl_step (fs : List Fn) (vsD lsD : D) (o : Int) (t : ByteArray) (p k c s nsD : D) (xs : List Xp) (i : Nat) (hl : fs.length ≤ maxLen) (hi : i < fs.length) (ih : ClIs fs vsD lsD o t p k c s nsD xs i) : ClIs fs vsD lsD o t p k c s nsD xs (i + 1) := by
  have hmx : maxLen = 9223372036854775807 := by decide
  have e1 : ((i + 1 : Nat) : Int) - 1 = (i : Int) := by omega
  have h1 : ((i : Int) ≥ 0) = True := eq_true (by omega)
  have i0 : (0 ≤ (i : Int)) = True := eq_true (by omega)
  have hx : fs[i]? = some fs[i] := List.getElem?_eq_getElem hi
  have va : (fnDs fs)[i]? = some fs[i].enc := by rw [fnDs, List.getElem?_map, hx]; rfl
  obtain ⟨c0, c1, c2, c3, c4, c5, c6, c7, ef⟩ := fn_as fs[i]
  rw [ef] at va
  unfold ClIs at ih ⊢
  rw [e1, r64_B0_eq, lastF, hx]
  simp only
  generalize fs[i] = f at *
  rcases Bool.eq_false_or_eq_true (f.name.toList == t.toList) with g | g
  · rcases Bool.eq_false_or_eq_true ((f.params.length : Int) == (xs.length : Int)) with g2 | g2
    · rw [g, g2]
      simp (disch := omega) only [go_sem, and_self, and_true, true_and, false_and, and_false, Nat.reduceAdd, Nat.reduceMul, Nat.reduceSub, Nat.reduceLeDiff, Nat.reduceLT, Nat.reduceGT, Nat.reduceEqDiff, Nat.reduceBEq, Int.reduceNeg, Int.reduceEq, Int.reduceLT, Int.reduceLE, Int.reduceBEq, Int.reduceToNat, Int.toNat_natCast, Int.natCast_zero, strD, r64_C0, r64_K0, h1, i0, va, g, g2, List.length_map, xencs_len, clAns]
    · rw [g, g2]
      simp (disch := omega) only [go_sem, and_self, and_true, true_and, false_and, and_false, Nat.reduceAdd, Nat.reduceMul, Nat.reduceSub, Nat.reduceLeDiff, Nat.reduceLT, Nat.reduceGT, Nat.reduceEqDiff, Nat.reduceBEq, Int.reduceNeg, Int.reduceEq, Int.reduceLT, Int.reduceLE, Int.reduceBEq, Int.reduceToNat, Int.toNat_natCast, Int.natCast_zero, strD, r64_C0, r64_K0, h1, i0, va, g, g2, List.length_map, xencs_len, w64]
      exact ih
  · rw [g]
    simp (disch := omega) only [go_sem, and_self, and_true, true_and, false_and, and_false, Nat.reduceAdd, Nat.reduceMul, Nat.reduceSub, Nat.reduceLeDiff, Nat.reduceLT, Nat.reduceGT, Nat.reduceEqDiff, Nat.reduceBEq, Int.reduceNeg, Int.reduceEq, Int.reduceLT, Int.reduceLE, Int.reduceBEq, Int.reduceToNat, Int.toNat_natCast, Int.natCast_zero, strD, r64_C0, r64_K0, h1, i0, va, g, w64]
    exact ih
theorem cl_loop (fs : List Fn) (vsD lsD : D) (o : Int) (t : ByteArray) (p k c s nsD : D) (xs : List Xp) (hl : fs.length ≤ maxLen) : ∀ (i : Nat), i ≤ fs.length → ClIs fs vsD lsD o t p k c s nsD xs i
  | 0, _ => cl_nil fs vsD lsD o t p k c s nsD xs
  | i + 1, h => cl_step fs vsD lsD o t p k c s nsD xs i hl (by omega) (cl_loop fs vsD lsD o t p k c s nsD xs hl i (by omega))
set_option maxHeartbeats 1000000 in
theorem call_ok (fs : List Fn) (vs ls : List ByteArray) (o : Int) (t : ByteArray) (p k c s nsD : D) (xs : List Xp) (hl : fs.length ≤ maxLen) (hp : List Ent)
    (hpa : p.isAgg = false) (hka : k.isAgg = false) (hca : c.isAgg = false) (hsa : s.isAgg = false) (hna : nsD.isAgg = false) :
    F tab 64 [.d (arD (fnDs fs) vs ls), .d (.agg [iv o, .str t, p, k, c, s, nsD, .sl (Xp.encs xs)])] hp = atOut t hp (callV fs t xs.length) := by
  have hmx : maxLen = 9223372036854775807 := by decide
  have hL := cl_loop fs (.sl (vs.map .str)) (.sl (ls.map .str)) o t p k c s nsD xs hl fs.length (Nat.le_refl _)
  have hb := builtin_ok t (xs.length : Int)
  have hfl : (fnDs fs).length = fs.length := by rw [fnDs, List.length_map]
  unfold ClIs at hL
  unfold callV arD
  cases h : lastF fs t xs.length fs.length with
  | some i =>
    rw [h] at hL
    refine f64 rfl ?_
    simp (disch := omega) only [go_sem, and_self, and_true, true_and, false_and, and_false, Nat.reduceAdd, Nat.reduceMul, Nat.reduceSub, Nat.reduceLeDiff, Nat.reduceLT, Nat.reduceGT, Nat.reduceEqDiff, Nat.reduceBEq, Int.reduceNeg, Int.reduceEq, Int.reduceLT, Int.reduceLE, Int.reduceBEq, Int.reduceToNat, Int.toNat_natCast, Int.natCast_zero, r64_T, r64, List.length_map, hfl, w64]
    rw [r64_B0_n]
    erw [hL]
    simp (disch := omega) only [go_sem, and_self, and_true, true_and, false_and, and_false, Nat.reduceAdd, Nat.reduceMul, Nat.reduceSub, Nat.reduceLeDiff, Nat.reduceLT, Nat.reduceGT, Nat.reduceEqDiff, Nat.reduceBEq, Int.reduceNeg, Int.reduceEq, Int.reduceLT, Int.reduceLE, Int.reduceBEq, Int.reduceToNat, Int.toNat_natCast, Int.natCast_zero, clAns, atOut]
  | none =>
    rw [h] at hL
    simp only
    cases h2 : bfind t (xs.length : Int) namesL 0 with
    | some i =>
      rw [h2] at hb
      have hi : i < 31 := by
        have key : ∀ (xs : List ByteArray) (n : Int) (j i : Nat), bfind t n xs j = some i → i < j + xs.length := by
          intro xs
          induction xs with
          | nil => intro n j i h; simp [bfind] at h
          | cons x r ih =>
            intro n j i h
            rw [bfind] at h
            split at h
            · simp only [Option.some.injEq] at h; simp; omega
            · have := ih n (j + 1) i h; simp; omega
        have := key namesL _ 0 i h2
        have e : namesL.length = 31 := by decide
        omega
      refine f64 rfl ?_
      simp (disch := omega) only [go_sem, and_self, and_true, true_and, false_and, and_false, Nat.reduceAdd, Nat.reduceMul, Nat.reduceSub, Nat.reduceLeDiff, Nat.reduceLT, Nat.reduceGT, Nat.reduceEqDiff, Nat.reduceBEq, Int.reduceNeg, Int.reduceEq, Int.reduceLT, Int.reduceLE, Int.reduceBEq, Int.reduceToNat, Int.toNat_natCast, Int.natCast_zero, r64_T, r64, List.length_map, hfl, w64]
      rw [r64_B0_n]
      erw [hL]
      simp (disch := omega) only [go_sem, and_self, and_true, true_and, false_and, and_false, Nat.reduceAdd, Nat.reduceMul, Nat.reduceSub, Nat.reduceLeDiff, Nat.reduceLT, Nat.reduceGT, Nat.reduceEqDiff, Nat.reduceBEq, Int.reduceNeg, Int.reduceEq, Int.reduceLT, Int.reduceLE, Int.reduceBEq, Int.reduceToNat, Int.toNat_natCast, Int.natCast_zero, clAns, atOut, r64_K2, hb, xencs_len, Option.getD_some, Option.isSome_some, Option.map_some, w64]
    | none =>
      rw [h2] at hb
      refine f64 rfl ?_
      simp (disch := omega) only [go_sem, and_self, and_true, true_and, false_and, and_false, Nat.reduceAdd, Nat.reduceMul, Nat.reduceSub, Nat.reduceLeDiff, Nat.reduceLT, Nat.reduceGT, Nat.reduceEqDiff, Nat.reduceBEq, Int.reduceNeg, Int.reduceEq, Int.reduceLT, Int.reduceLE, Int.reduceBEq, Int.reduceToNat, Int.toNat_natCast, Int.natCast_zero, r64_T, r64, List.length_map, hfl, w64]
      rw [r64_B0_n]
      erw [hL]
      simp (disch := omega) only [go_sem, and_self, and_true, true_and, false_and, and_false, Nat.reduceAdd, Nat.reduceMul, Nat.reduceSub, Nat.reduceLeDiff, Nat.reduceLT, Nat.reduceGT, Nat.reduceEqDiff, Nat.reduceBEq, Int.reduceNeg, Int.reduceEq, Int.reduceLT, Int.reduceLE, Int.reduceBEq, Int.reduceToNat, Int.toNat_natCast, Int.natCast_zero, clAns, atOut, r64_K2, hb, xencs_len, Option.getD_none, Option.isSome_none, Option.map_none, w64]
      rfl
end Go.Pe.T

namespace Go.Pe.T
def optI : Option Nat → Int
  | some i => i
  | none => -1
def FiIs (nm : ByteArray) (xs : List ByteArray) (i : Nat) : Prop :=
  V (F tab) r95_B0 (r95_S0 (.d (.sl (xs.map D.str))) (.d (.str nm)) (.d (iv (optI (lastI xs nm i)))) (.d (iv i)) []) = some (.norm, r95_E0 (.d (iv (optI (lastV xs nm)))) [])
theorem fi_loop (nm : ByteArray) (xs : List ByteArray) (hl : xs.length ≤ maxLen) : ∀ (j i : Nat), i + j = xs.length → FiIs nm xs i
  | 0, i, hi => by
    obtain rfl : i = xs.length := by omega
    have h1 : ((xs.length : Int) < (xs.length : Int)) = False := eq_false (by omega)
    unfold FiIs lastV
    rw [r95_B0_eq]
    simp (disch := omega) only [go_sem, and_self, and_true, true_and, false_and, and_false, Nat.reduceAdd, Nat.reduceMul, Nat.reduceSub, Nat.reduceLeDiff, Nat.reduceLT, Nat.reduceGT, Nat.reduceEqDiff, Nat.reduceBEq, Int.reduceNeg, Int.reduceEq, Int.reduceLT, Int.reduceLE, Int.reduceBEq, Int.reduceToNat, Int.toNat_natCast, Int.natCast_zero, r95_C0, h1, List.length_map]
  | j + 1, i, hi => by
    have hmx : maxLen = 9223372036854775807 := by decide
    have ih := fi_loop nm xs hl j (i + 1) (by omega)
    have hi1 : i < xs.length := by omega
    have h1 : ((i : Int) < (xs.length : Int)) = True := eq_true (by omega)
    have i0 : (0 ≤ (i : Int)) = True := eq_true (by omega)
    have hx : xs[i]? = some xs[i] := List.getElem?_eq_getElem hi1
    have va := strs_get hx
    unfold FiIs at ih ⊢
    rw [lastI, hx, Int.natCast_add, Int.natCast_one] at ih
    rw [r95_B0_eq]
    simp only at ih
    rcases Bool.eq_false_or_eq_true (xs[i].toList == nm.toList) with g | g
    · rw [if_pos g] at ih
      simp (disch := omega) only [go_sem, and_self, and_true, true_and, false_and, and_false, Nat.reduceAdd, Nat.reduceMul, Nat.reduceSub, Nat.reduceLeDiff, Nat.reduceLT, Nat.reduceGT, Nat.reduceEqDiff, Nat.reduceBEq, Int.reduceNeg, Int.reduceEq, Int.reduceLT, Int.reduceLE, Int.reduceBEq, Int.reduceToNat, Int.toNat_natCast, Int.natCast_zero, strD, r95_C0, h1, i0, va, g, List.length_map, w64]
      exact ih
    · rw [if_neg (by simp [g])] at ih
      simp (disch := omega) only [go_sem, and_self, and_true, true_and, false_and, and_false, Nat.reduceAdd, Nat.reduceMul, Nat.reduceSub, Nat.reduceLeDiff, Nat.reduceLT, Nat.reduceGT, Nat.reduceEqDiff, Nat.reduceBEq, Int.reduceNeg, Int.reduceEq, Int.reduceLT, Int.reduceLE, Int.reduceBEq, Int.reduceToNat, Int.toNat_natCast, Int.natCast_zero, strD, r95_C0, h1, i0, va, g, List.length_map, w64]
      exact ih
theorem find_ok (xs : List ByteArray) (nm : ByteArray) (hl : xs.length ≤ maxLen) (hp : List Ent) : F tab 95 [.d (.sl (xs.map D.str)), .d (.str nm)] hp = some (.ret (.d (iv (optI (lastV xs nm)))) hp) := by
  have hL := fi_loop nm xs hl xs.length 0 (by omega)
  unfold FiIs at hL
  rw [show optI (lastI xs nm 0) = -1 from rfl] at hL
  refine f95 rfl ?_
  simp (disch := omega) only [go_sem, and_self, and_true, true_and, false_and, and_false, Nat.reduceAdd, Nat.reduceMul, Nat.reduceSub, Nat.reduceLeDiff, Nat.reduceLT, Nat.reduceGT, Nat.reduceEqDiff, Nat.reduceBEq, Int.reduceNeg, Int.reduceEq, Int.reduceLT, Int.reduceLE, Int.reduceBEq, Int.reduceToNat, Int.toNat_natCast, Int.natCast_zero, r95_T, r95]
  rw [r95_B0_n]
  erw [hL]
  simp (disch := omega) only [go_sem, and_self, and_true, true_and, false_and, and_false, Nat.reduceAdd, Nat.reduceMul, Nat.reduceSub, Nat.reduceLeDiff, Nat.reduceLT, Nat.reduceGT, Nat.reduceEqDiff, Nat.reduceBEq, Int.reduceNeg, Int.reduceEq, Int.reduceLT, Int.reduceLE, Int.reduceBEq, Int.reduceToNat, Int.toNat_natCast, Int.natCast_zero]
end Go.Pe.T
