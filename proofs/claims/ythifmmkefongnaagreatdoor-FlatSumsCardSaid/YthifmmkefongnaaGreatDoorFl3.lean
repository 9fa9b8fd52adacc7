/- A part of the proof of: FlatSums: what is put together of calm expressions is calm, and costs what its parts cost. -/
import Derived.Test.YthifmmkefongnaaGreatDoorFl2
import Derived.Test.YthifmmkefongnaaGreatDoorPe4
set_option linter.unusedSimpArgs false
set_option maxRecDepth 10000
set_option linter.unusedVariables false

namespace Go.Pe.T
@[go_sem] def r34_K0 (_ : Unit) : RCode := .reg [⟨some 15,none,.mv false (.t 0)⟩,⟨some 16,none,.mv false (.t 1)⟩,⟨some 17,none,.mv false (.t 2)⟩,⟨some 18,none,.bld [.sl [],.int .i64 0,.str ⟨#[]⟩,.int .i64 0,.int .i64 0,.int .i64 0,.int .i64 0,.sl [],.sl []] []⟩,⟨some 19,none,.fad 0 (.t 7)⟩,⟨some 20,none,.lde none (.t 19)⟩,⟨some 21,none,.fad 1 (.t 7)⟩,⟨some 22,none,.lde none (.t 21)⟩,⟨some 23,none,.nchk (.t 15)⟩,⟨none,none,.sto (some 9) (.t 23) (.t 18)⟩,⟨some 24,none,.nchk (.t 16)⟩,⟨none,none,.sto none (.t 24) (.t 20)⟩,⟨some 25,none,.nchk (.t 17)⟩,⟨none,none,.sto none (.t 25) (.t 22)⟩] [19,21,23,24,25] true
@[go_sem] def r34_K1 (_ : Unit) : RCode := .cond (.t 11) (.reg [⟨some 6,none,.mv false (.t 9)⟩] [] false) (.seq (.reg [⟨some 12,none,.tas 83 (.agg [.int .i64 0,.int .i64 0]) (.t 9)⟩,⟨some 13,none,.ext false (.t 12) 1⟩,⟨some 14,none,.ext false (.t 12) 0⟩] [] false) (.cond (.t 13) (.seqf (.reg [⟨some 7,none,.zal false [.d (.int .i64 0),.d (.int .i64 0)]⟩,⟨none,none,.sto (some 2) (.t 7) (.t 14)⟩] [] false) 7 (hold r34_K0)) (.seq (.reg [⟨some 8,none,.mv false (.t 9)⟩] [] false) (.reg [⟨some 10,none,.mv false (.t 8)⟩,⟨none,none,.pan (.t 10)⟩] [] false))))
def r34_H : RCode := .block 0 [] (.seq (.reg [⟨some 11,none,.isn false (.t 9)⟩] [] false) (hold r34_K1))
abbrev r43_R (x2 : PV) (hp : List Ent) : St := ⟨[.dead,.dead,x2,.dead,.dead,.dead,.dead,.dead,.dead,.dead,.dead,.dead,.dead],hp⟩
def r43_T : RCode := .seq (.reg [⟨some 2,none,.zal false [.d (.int .i64 0),.d (.str ⟨#[]⟩),.d (.int .i64 0),.d (.int .i64 0),.d (.int .i64 0)]⟩] [] false) (.seq (.reg [⟨some 3,none,.mv false (.t 0)⟩,⟨some 4,none,.nchk (.t 3)⟩,⟨some 5,none,.fad 0 (.t 4)⟩,⟨some 6,none,.ld false none (.t 5)⟩,⟨some 7,none,.mv false (.t 0)⟩,⟨some 8,none,.nchk (.t 7)⟩,⟨some 9,none,.fad 1 (.t 8)⟩,⟨some 10,none,.ld false none (.t 9)⟩,⟨some 11,none,.iad none 5 (.t 6) (.t 10)⟩,⟨some 12,none,.ld false (some 5) (.t 11)⟩,⟨none,none,.sto (some 5) (.t 2) (.t 12)⟩] [4,5,8,9,11] true) (.ret [.kill,.kill,.keep]))
def r43 : RFunc := ⟨13,false,[.cell 2 (some 5)],r43_T⟩
abbrev r45_R  (hp : List Ent) : St := ⟨[.dead,.dead,.dead,.dead,.dead,.dead,.dead,.dead,.dead,.dead,.dead],hp⟩
def r45_T : RCode := .seq (.reg [⟨some 4,none,.bx false true (.t 1)⟩] [] false) (.reg [⟨some 6,none,.fad 4 (.t 4)⟩,⟨some 7,none,.ld false none (.t 6)⟩,⟨some 8,none,.mv false (.t 2)⟩,⟨some 9,none,.bld [.int .i64 0,.int .i64 0] [(0,1,(.t 7)),(1,1,(.t 8))]⟩,⟨some 10,none,.mki 83 (.t 9)⟩,⟨none,none,.pan (.t 10)⟩] [6] false)
def r45 : RFunc := ⟨11,false,[],r45_T⟩
@[go_sem] def r65_K0 (_ : Unit) : RCode := .seq (.reg [⟨some 12,none,.fad 0 (.t 5)⟩,⟨some 13,none,.ld false none (.t 12)⟩,⟨some 14,none,.bin .eql (.t 13) (.c (.d (.int .i64 5)))⟩,⟨some 15,none,.mv false (.t 14)⟩,⟨some 16,some (15,false),.fad 0 (.t 5)⟩,⟨some 17,some (15,false),.ld false none (.t 16)⟩,⟨some 18,some (15,false),.bin .eql (.t 17) (.c (.d (.int .i64 1)))⟩,⟨some 19,some (15,false),.mv false (.t 18)⟩,⟨some 20,some (19,true),.mv false (.t 1)⟩,⟨some 21,some (19,true),.call false (.f 67) [(.t 20)]⟩,⟨some 22,some (15,false),.pick (.t 19) (.t 21) (.c (.d (.bool false)))⟩,⟨some 23,none,.pick (.t 15) (.c (.d (.bool true))) (.t 22)⟩,⟨some 4,none,.mv false (.t 23)⟩] [12,16] false) (.ret [.kill,.kill,.kill,.kill,.keep])
@[go_sem] def r65_K1 (_ : Unit) : RCode := .seq (.reg [⟨some 6,none,.mv false (.t 0)⟩,⟨some 7,none,.call false (.f 43) [(.t 6)]⟩,⟨some 5,none,.zal false [.d (.int .i64 0),.d (.str ⟨#[]⟩),.d (.int .i64 0),.d (.int .i64 0),.d (.int .i64 0)]⟩,⟨none,none,.sto (some 5) (.t 5) (.t 7)⟩] [] false) (.seq (.seq (.reg [⟨some 8,none,.fad 1 (.t 5)⟩,⟨some 9,none,.ld false none (.t 8)⟩,⟨some 10,none,.mv false (.t 1)⟩,⟨some 11,none,.bin .neq (.t 9) (.t 10)⟩] [8] false) (.cond (.t 11) (.seq (.reg [⟨some 4,none,.mv false (.c (.d (.bool false)))⟩] [] false) (.ret [.kill,.kill,.kill,.kill,.keep])) (.skip))) (hold r65_K0))
abbrev r65_R (x4 : PV) (hp : List Ent) : St := ⟨[.dead,.dead,.dead,.dead,x4,.dead,.dead,.dead,.dead,.dead,.dead,.dead,.dead,.dead,.dead,.dead,.dead,.dead,.dead,.dead,.dead,.dead,.dead,.dead],hp⟩
def r65_T : RCode := .seq (.reg [⟨some 4,none,.mv false (.c (.d (.bool false)))⟩] [] false) (hold r65_K1)
def r65 : RFunc := ⟨24,false,[.t 4],r65_T⟩
@[go_sem] def r66_K0 (_ : Unit) : RCode := .seq (.seq (.reg [⟨some 6,none,.fad 0 (.t 3)⟩,⟨some 7,none,.ld false none (.t 6)⟩,⟨some 8,none,.bin .neq (.t 7) (.c (.d (.int .i64 6)))⟩] [6] false) (.cond (.t 8) (.reg [⟨some 9,none,.mv false (.t 0)⟩,⟨some 10,none,.nchk (.t 9)⟩,⟨some 11,none,.fad 1 (.t 10)⟩,⟨some 12,none,.ld false none (.t 11)⟩,⟨some 13,none,.bin .add (.t 12) (.c (.d (.int .i64 1)))⟩,⟨some 14,none,.nchk (.t 9)⟩,⟨some 15,none,.fad 1 (.t 14)⟩,⟨none,none,.sto none (.t 15) (.t 13)⟩] [10,11,14,15] false) (.skip))) (.seq (.reg [⟨some 16,none,.ld false (some 5) (.t 3)⟩,⟨none,none,.sto (some 5) (.t 2) (.t 16)⟩] [] false) (.ret [.kill,.kill,.keep]))
abbrev r66_R (x2 : PV) (hp : List Ent) : St := ⟨[.dead,.dead,x2,.dead,.dead,.dead,.dead,.dead,.dead,.dead,.dead,.dead,.dead,.dead,.dead,.dead,.dead],hp⟩
def r66_T : RCode := .seq (.reg [⟨some 2,none,.zal false [.d (.int .i64 0),.d (.str ⟨#[]⟩),.d (.int .i64 0),.d (.int .i64 0),.d (.int .i64 0)]⟩] [] false) (.seq (.reg [⟨some 4,none,.mv false (.t 0)⟩,⟨some 5,none,.call false (.f 43) [(.t 4)]⟩,⟨some 3,none,.zal false [.d (.int .i64 0),.d (.str ⟨#[]⟩),.d (.int .i64 0),.d (.int .i64 0),.d (.int .i64 0)]⟩,⟨none,none,.sto (some 5) (.t 3) (.t 5)⟩] [] false) (hold r66_K0))
def r66 : RFunc := ⟨17,false,[.cell 2 (some 5)],r66_T⟩
@[go_sem] def r44_K0 (_ : Unit) : RCode := .seq (.reg [⟨some 6,none,.mv false (.t 0)⟩,⟨some 7,none,.mv false (.t 1)⟩,⟨some 8,none,.call false (.f 65) [(.t 6),(.t 7)]⟩,⟨some 5,none,.mv false (.t 8)⟩] [] false) (.seq (.seq (.reg [⟨some 9,none,.mv false (.t 5)⟩] [] false) (.cond (.t 9) (.reg [⟨some 10,none,.mv false (.t 0)⟩,⟨some 11,none,.call false (.f 66) [(.t 10)]⟩] [] false) (.skip))) (.seq (.reg [⟨some 12,none,.mv false (.t 5)⟩,⟨some 4,none,.mv false (.t 12)⟩] [] false) (.ret [.kill,.kill,.kill,.kill,.keep])))
abbrev r44_R (x4 : PV) (hp : List Ent) : St := ⟨[.dead,.dead,.dead,.dead,x4,.dead,.dead,.dead,.dead,.dead,.dead,.dead,.dead],hp⟩
def r44_T : RCode := .seq (.reg [⟨some 4,none,.mv false (.c (.d (.bool false)))⟩] [] false) (hold r44_K0)
def r44 : RFunc := ⟨13,false,[.t 4],r44_T⟩
abbrev r70_R (x6 : PV) (hp : List Ent) : St := ⟨[.dead,.dead,.dead,.dead,.dead,.dead,x6,.dead,.dead,.dead,.dead],hp⟩
def r70_T : RCode := .seq (.reg [⟨some 6,none,.zal false [.d (.int .i64 0),.d (.str ⟨#[]⟩),.d (.int .i64 0),.d (.int .i64 0),.d (.int .i64 0),.d (.int .i64 0),.nilsl,.nilsl]⟩] [] false) (.seq (.reg [⟨some 7,none,.mv false (.t 0)⟩,⟨some 8,none,.mv false (.t 1)⟩,⟨some 9,none,.mv false (.t 2)⟩,⟨some 10,none,.bld [.int .i64 0,.str ⟨#[]⟩,.int .i64 0,.int .i64 0,.int .i64 0,.int .i64 0,.sl [],.sl []] [(0,1,(.t 7)),(1,1,(.t 8)),(7,1,(.t 9))]⟩,⟨none,none,.sto (some 8) (.t 6) (.t 10)⟩] [] false) (.ret [.kill,.kill,.kill,.kill,.kill,.kill,.keep]))
def r70 : RFunc := ⟨11,true,[.cell 6 (some 8)],r70_T⟩
@[go_sem] def r111_K0 (_ : Unit) : RCode := .seq (.block 1 [.keep,.keep,.kill,.kill,.kill,.kill,.kill,.keep,.keep] (.seq (.reg [⟨some 10,none,.mv false (.t 8)⟩,⟨some 5,none,.mv false (.t 10)⟩] [] false) (.seq (.reg [⟨some 11,none,.mv false (.t 1)⟩,⟨some 12,none,.mv false (.t 0)⟩,⟨some 13,none,.mv false (.t 5)⟩,⟨some 14,none,.iad none 1 (.t 12) (.t 13)⟩,⟨some 15,none,.ld false none (.t 14)⟩,⟨some 16,none,.call false (.t 11) [(.t 15)]⟩] [14] false) (.cond (.t 16) (.seq (.reg [⟨some 17,none,.mv false (.t 5)⟩,⟨some 4,none,.mv false (.t 17)⟩] [] false) (.ret [.kill,.kill,.kill,.kill,.keep])) (.skip))))) (.reg [⟨some 18,none,.bin .add (.t 8) (.c (.d (.int .i64 1)))⟩,⟨some 8,none,.mv false (.t 18)⟩] [] false)
def r111_C0 : RCode := .seq (.reg [⟨some 9,none,.bin .lss (.t 8) (.t 7)⟩] [] false) (.seq (.cond (.t 9) (.skip) (.exit 0)) (hold r111_K0))
def r111_B0 : RCode := .block 0 [] (.loop [.keep,.keep,.kill,.kill,.kill,.kill,.kill,.keep,.keep] r111_C0)
theorem r111_B0_eq {cf : CF} {s : St} : V cf r111_B0 s = loopK cf r111_B0 0 [] [.keep,.keep,.kill,.kill,.kill,.kill,.kill,.keep,.keep] (V cf r111_C0 (s.head [.keep,.keep,.kill,.kill,.kill,.kill,.kill,.keep,.keep])) := V_bloop
abbrev r111_S0 (x0 x1 x7 x8 : PV) (hp : List Ent) : St := ⟨[x0,x1,.dead,.dead,.dead,.dead,.dead,x7,x8,.dead,.dead,.dead,.dead,.dead,.dead,.dead,.dead,.dead,.dead],hp⟩
abbrev r111_E0  (hp : List Ent) : St := ⟨[.dead,.dead,.dead,.dead,.dead,.dead,.dead,.dead,.dead,.dead,.dead,.dead,.dead,.dead,.dead,.dead,.dead,.dead,.dead],hp⟩
theorem r111_B0_n {cf : CF} {x0 x1 a2 a3 a4 a5 a6 x7 x8 a9 a10 a11 a12 a13 a14 a15 a16 a17 a18 : PV} {hp : List Ent} : V cf r111_B0 ⟨[x0,x1,a2,a3,a4,a5,a6,x7,x8,a9,a10,a11,a12,a13,a14,a15,a16,a17,a18],hp⟩ = V cf r111_B0 (r111_S0 x0 x1 x7 x8 hp) := by rw [r111_B0_eq,r111_B0_eq]; rfl
abbrev r111_R (x4 : PV) (hp : List Ent) : St := ⟨[.dead,.dead,.dead,.dead,x4,.dead,.dead,.dead,.dead,.dead,.dead,.dead,.dead,.dead,.dead,.dead,.dead,.dead,.dead],hp⟩
def r111_T : RCode := .seq (.reg [⟨some 4,none,.mv false (.c (.d (.int .i64 0)))⟩] [] false) (.seq (.seq (.reg [⟨some 6,none,.mv false (.t 0)⟩,⟨some 7,none,.len false (.t 6)⟩,⟨some 8,none,.mv false (.c (.d (.int .i64 0)))⟩] [] false) (r111_B0)) (.seq (.reg [⟨some 4,none,.mv false (.c (.d (.int .i64 (-1))))⟩] [] false) (.ret [.kill,.kill,.kill,.kill,.keep])))
def r111 : RFunc := ⟨19,false,[.t 4],r111_T⟩
@[go_sem] def r97_K0 (_ : Unit) : RCode := .seq (.reg [⟨some 20,none,.mv false (.t 0)⟩,⟨some 21,none,.nchk (.t 20)⟩,⟨some 22,none,.fad 0 (.t 21)⟩,⟨some 23,none,.call false (.f 66) [(.t 22)]⟩] [21,22] false) (.reg [⟨some 24,none,.mv false (.t 2)⟩,⟨some 25,none,.mv false (.t 8)⟩,⟨some 26,none,.iad none 1 (.t 24) (.t 25)⟩,⟨some 27,none,.lde none (.t 26)⟩,⟨some 28,none,.ldb (some 8) 7⟩,⟨some 29,none,.mv false (.t 1)⟩,⟨some 30,none,.call false (.t 29) []⟩,⟨some 31,none,.bsl 27 8 [(.t 28),(.t 30)]⟩,⟨some 32,none,.call false (.f 70) [(.c (.d (.int .i64 10))),(.t 27),(.t 31)]⟩,⟨none,none,.sto (some 8) (.t 7) (.t 32)⟩] [26] true)
def r97_C0 : RCode := .block 1 [.keep,.keep,.keep,.kill,.kill,.kill,.keep,.keep] (.seq (.reg [⟨some 11,none,.mv false (.t 2)⟩,⟨some 12,none,.mv false (.t 0)⟩,⟨some 13,none,.nchk (.t 12)⟩,⟨some 14,none,.fad 0 (.t 13)⟩,⟨some 15,none,.mkm 65 [(.t 14)]⟩,⟨some 16,none,.call false (.f 111) [(.t 11),(.t 15)]⟩,⟨some 8,none,.mv false (.t 16)⟩] [13,14] false) (.seq (.seq (.reg [⟨some 17,none,.mv false (.t 8)⟩,⟨some 18,none,.bin .lss (.t 17) (.c (.d (.int .i64 0)))⟩] [] false) (.cond (.t 18) (.seq (.reg [⟨some 19,none,.ld false (some 8) (.t 7)⟩,⟨none,none,.sto (some 8) (.t 6) (.t 19)⟩] [] false) (.ret [.kill,.kill,.kill,.kill,.kill,.kill,.keep])) (.skip))) (hold r97_K0)))
def r97_B0 : RCode := .block 0 [.kill,.kill,.kill,.kill,.kill,.kill,.keep] (.loop [.keep,.keep,.keep,.kill,.kill,.kill,.keep,.keep] r97_C0)
theorem r97_B0_eq {cf : CF} {s : St} : V cf r97_B0 s = loopK cf r97_B0 0 [.kill,.kill,.kill,.kill,.kill,.kill,.keep] [.keep,.keep,.keep,.kill,.kill,.kill,.keep,.keep] (V cf r97_C0 (s.head [.keep,.keep,.keep,.kill,.kill,.kill,.keep,.keep])) := V_bloop
abbrev r97_S0 (x0 x1 x2 x6 x7 : PV) (hp : List Ent) : St := ⟨[x0,x1,x2,.dead,.dead,.dead,x6,x7,.dead,.dead,.dead,.dead,.dead,.dead,.dead,.dead,.dead,.dead,.dead,.dead,.dead,.dead,.dead,.dead,.dead,.dead,.dead,.dead,.dead,.dead,.dead,.dead,.dead],hp⟩
abbrev r97_E0 (x6 : PV) (hp : List Ent) : St := ⟨[.dead,.dead,.dead,.dead,.dead,.dead,x6,.dead,.dead,.dead,.dead,.dead,.dead,.dead,.dead,.dead,.dead,.dead,.dead,.dead,.dead,.dead,.dead,.dead,.dead,.dead,.dead,.dead,.dead,.dead,.dead,.dead,.dead],hp⟩
theorem r97_B0_n {cf : CF} {x0 x1 x2 a3 a4 a5 x6 x7 a8 a9 a10 a11 a12 a13 a14 a15 a16 a17 a18 a19 a20 a21 a22 a23 a24 a25 a26 a27 a28 a29 a30 a31 a32 : PV} {hp : List Ent} : V cf r97_B0 ⟨[x0,x1,x2,a3,a4,a5,x6,x7,a8,a9,a10,a11,a12,a13,a14,a15,a16,a17,a18,a19,a20,a21,a22,a23,a24,a25,a26,a27,a28,a29,a30,a31,a32],hp⟩ = V cf r97_B0 (r97_S0 x0 x1 x2 x6 x7 hp) := by rw [r97_B0_eq,r97_B0_eq]; rfl
abbrev r97_R (x6 : PV) (hp : List Ent) : St := ⟨[.dead,.dead,.dead,.dead,.dead,.dead,x6,.dead,.dead,.dead,.dead,.dead,.dead,.dead,.dead,.dead,.dead,.dead,.dead,.dead,.dead,.dead,.dead,.dead,.dead,.dead,.dead,.dead,.dead,.dead,.dead,.dead,.dead],hp⟩
def r97_T : RCode := .seq (.reg [⟨some 6,none,.zal false [.d (.int .i64 0),.d (.str ⟨#[]⟩),.d (.int .i64 0),.d (.int .i64 0),.d (.int .i64 0),.d (.int .i64 0),.nilsl,.nilsl]⟩] [] false) (.seq (.reg [⟨some 9,none,.mv false (.t 1)⟩,⟨some 10,none,.call false (.t 9) []⟩,⟨some 7,none,.zal false [.d (.int .i64 0),.d (.str ⟨#[]⟩),.d (.int .i64 0),.d (.int .i64 0),.d (.int .i64 0),.d (.int .i64 0),.nilsl,.nilsl]⟩,⟨none,none,.sto (some 8) (.t 7) (.t 10)⟩] [] false) (r97_B0))
def r97 : RFunc := ⟨33,false,[.cell 6 (some 8)],r97_T⟩
abbrev r48_R  (hp : List Ent) : St := ⟨[.dead,.dead,.dead,.dead,.dead,.dead,.dead,.dead,.dead,.dead,.dead,.dead],hp⟩
def r48_T : RCode := .seq (.reg [⟨some 4,none,.mv false (.t 0)⟩,⟨some 5,none,.mv false (.t 1)⟩,⟨some 6,none,.call false (.f 44) [(.t 4),(.t 5)]⟩,⟨some 7,none,.un .not (.t 6)⟩] [] false) (.cond (.t 7) (.reg [⟨some 8,none,.mv false (.t 0)⟩,⟨some 9,none,.mv false (.t 0)⟩,⟨some 10,none,.call false (.f 43) [(.t 9)]⟩,⟨some 11,none,.call false (.f 45) [(.t 8),(.t 10),(.c (.d (.int .i64 14)))]⟩] [] false) (.skip))
def r48 : RFunc := ⟨12,false,[],r48_T⟩
@[go_sem] def r68_K0 (_ : Unit) : RCode := .seq (.seq (.reg [⟨some 6,none,.fad 0 (.t 3)⟩,⟨some 7,none,.ld false none (.t 6)⟩,⟨some 8,none,.bin .neq (.t 7) (.c (.d (.int .i64 2)))⟩,⟨some 9,none,.mv false (.t 8)⟩,⟨some 10,some (9,false),.fad 1 (.t 3)⟩,⟨some 11,some (9,false),.ld false none (.t 10)⟩,⟨some 12,some (9,false),.call false (.f 51) [(.t 11)]⟩,⟨some 13,some (9,false),.un .not (.t 12)⟩,⟨some 14,none,.pick (.t 9) (.c (.d (.bool true))) (.t 13)⟩] [6,10] false) (.cond (.t 14) (.reg [⟨some 15,none,.mv false (.t 0)⟩,⟨some 16,none,.ld false (some 5) (.t 3)⟩,⟨some 17,none,.call false (.f 45) [(.t 15),(.t 16),(.c (.d (.int .i64 14)))]⟩] [] false) (.skip))) (.seq (.reg [⟨some 18,none,.mv false (.t 0)⟩,⟨some 19,none,.call false (.f 66) [(.t 18)]⟩,⟨some 20,none,.fld 1 none (.t 19)⟩,⟨some 2,none,.mv false (.t 20)⟩] [] false) (.ret [.kill,.kill,.keep]))
abbrev r68_R (x2 : PV) (hp : List Ent) : St := ⟨[.dead,.dead,x2,.dead,.dead,.dead,.dead,.dead,.dead,.dead,.dead,.dead,.dead,.dead,.dead,.dead,.dead,.dead,.dead,.dead,.dead],hp⟩
def r68_T : RCode := .seq (.reg [⟨some 2,none,.mv false (.c (.d (.str ⟨#[]⟩)))⟩] [] false) (.seq (.reg [⟨some 4,none,.mv false (.t 0)⟩,⟨some 5,none,.call false (.f 43) [(.t 4)]⟩,⟨some 3,none,.zal false [.d (.int .i64 0),.d (.str ⟨#[]⟩),.d (.int .i64 0),.d (.int .i64 0),.d (.int .i64 0)]⟩,⟨none,none,.sto (some 5) (.t 3) (.t 5)⟩] [] false) (hold r68_K0))
def r68 : RFunc := ⟨21,false,[.t 2],r68_T⟩
@[go_sem] def r136_K0 (_ : Unit) : RCode := .seq (.reg [⟨some 3,none,.mv false (.t 0)⟩,⟨some 4,none,.call false (.f 43) [(.t 3)]⟩,⟨some 5,none,.fld 0 none (.t 4)⟩,⟨some 6,none,.bin .eql (.t 5) (.c (.d (.int .i64 1)))⟩,⟨some 7,none,.mv false (.t 6)⟩,⟨some 8,some (7,false),.mv false (.t 0)⟩,⟨some 9,some (7,false),.call false (.f 43) [(.t 8)]⟩,⟨some 10,some (7,false),.fld 0 none (.t 9)⟩,⟨some 11,some (7,false),.bin .eql (.t 10) (.c (.d (.int .i64 4)))⟩,⟨some 12,none,.pick (.t 7) (.c (.d (.bool true))) (.t 11)⟩,⟨some 2,none,.mv false (.t 12)⟩] [] false) (.ret [.kill,.kill,.keep])
abbrev r136_R (x2 : PV) (hp : List Ent) : St := ⟨[.dead,.dead,x2,.dead,.dead,.dead,.dead,.dead,.dead,.dead,.dead,.dead,.dead],hp⟩
def r136_T : RCode := .seq (.reg [⟨some 2,none,.mv false (.c (.d (.bool false)))⟩] [] false) (hold r136_K0)
def r136 : RFunc := ⟨13,false,[.t 2],r136_T⟩
@[go_sem] def r132_K0 (_ : Unit) : RCode := .seq (.seq (.reg [⟨some 3,none,.mv false (.t 0)⟩,⟨some 4,none,.call false (.f 136) [(.t 3)]⟩,⟨some 5,none,.un .not (.t 4)⟩] [] false) (.cond (.t 5) (.reg [⟨some 6,none,.mv false (.t 0)⟩,⟨some 7,none,.mv false (.t 0)⟩,⟨some 8,none,.call false (.f 43) [(.t 7)]⟩,⟨some 9,none,.call false (.f 45) [(.t 6),(.t 8),(.c (.d (.int .i64 14)))]⟩] [] false) (.skip))) (.seq (.reg [⟨some 10,none,.mv false (.t 0)⟩,⟨some 11,none,.call false (.f 66) [(.t 10)]⟩,⟨some 12,none,.fld 1 none (.t 11)⟩,⟨some 2,none,.mv false (.t 12)⟩] [] false) (.ret [.kill,.kill,.keep]))
abbrev r132_R (x2 : PV) (hp : List Ent) : St := ⟨[.dead,.dead,x2,.dead,.dead,.dead,.dead,.dead,.dead,.dead,.dead,.dead,.dead],hp⟩
def r132_T : RCode := .seq (.reg [⟨some 2,none,.mv false (.c (.d (.str ⟨#[]⟩)))⟩] [] false) (hold r132_K0)
def r132 : RFunc := ⟨13,false,[.t 2],r132_T⟩
@[go_sem] def r137_K0 (_ : Unit) : RCode := .seq (.reg [⟨some 17,none,.bin .eql (.t 12) (.c (.d (.str ⟨#[116,104,101,110]⟩)))⟩,⟨some 13,none,.mv false (.t 17)⟩] [] false) (.cond (.t 13) (.skip) (.seq (.reg [⟨some 18,none,.bin .eql (.t 12) (.c (.d (.str ⟨#[101,108,115,101]⟩)))⟩,⟨some 13,none,.mv false (.t 18)⟩] [] false) (.cond (.t 13) (.skip) (.seq (.reg [⟨some 19,none,.bin .eql (.t 12) (.c (.d (.str ⟨#[101,110,100]⟩)))⟩,⟨some 13,none,.mv false (.t 19)⟩] [] false) (.cond (.t 13) (.skip) (.reg [⟨some 20,none,.bin .eql (.t 12) (.c (.d (.str ⟨#[99,97,116,99,104]⟩)))⟩,⟨some 13,none,.mv false (.t 20)⟩] [] false))))))
@[go_sem] def r137_K1 (_ : Unit) : RCode := .block 0 [] (.seq (.seq (.reg [⟨some 14,none,.bin .eql (.t 12) (.c (.d (.str ⟨#[97,115]⟩)))⟩,⟨some 13,none,.mv false (.t 14)⟩] [] false) (.cond (.t 13) (.skip) (.seq (.reg [⟨some 15,none,.bin .eql (.t 12) (.c (.d (.str ⟨#[97,110,100]⟩)))⟩,⟨some 13,none,.mv false (.t 15)⟩] [] false) (.cond (.t 13) (.skip) (.seq (.reg [⟨some 16,none,.bin .eql (.t 12) (.c (.d (.str ⟨#[111,114]⟩)))⟩,⟨some 13,none,.mv false (.t 16)⟩] [] false) (.cond (.t 13) (.skip) (hold r137_K0))))))) (.cond (.t 13) (.seq (.reg [⟨some 2,none,.mv false (.c (.d (.bool true)))⟩] [] false) (.ret [.kill,.kill,.keep])) (.skip)))
@[go_sem] def r137_K2 (_ : Unit) : RCode := .seq (.seq (.reg [⟨some 8,none,.fad 0 (.t 3)⟩,⟨some 9,none,.ld false none (.t 8)⟩,⟨some 10,none,.bin .neq (.t 9) (.c (.d (.int .i64 1)))⟩] [8] false) (.cond (.t 10) (.seq (.reg [⟨some 2,none,.mv false (.c (.d (.bool false)))⟩] [] false) (.ret [.kill,.kill,.keep])) (.skip))) (.seq (.seq (.reg [⟨some 11,none,.fad 1 (.t 3)⟩,⟨some 12,none,.ld false none (.t 11)⟩] [11] false) (hold r137_K1)) (.seq (.reg [⟨some 2,none,.mv false (.c (.d (.bool false)))⟩] [] false) (.ret [.kill,.kill,.keep])))
abbrev r137_R (x2 : PV) (hp : List Ent) : St := ⟨[.dead,.dead,x2,.dead,.dead,.dead,.dead,.dead,.dead,.dead,.dead,.dead,.dead,.dead,.dead,.dead,.dead,.dead,.dead,.dead,.dead],hp⟩
def r137_T : RCode := .seq (.reg [⟨some 2,none,.mv false (.c (.d (.bool false)))⟩] [] false) (.seq (.reg [⟨some 4,none,.mv false (.t 0)⟩,⟨some 5,none,.nchk (.t 4)⟩,⟨some 6,none,.fad 0 (.t 5)⟩,⟨some 7,none,.call false (.f 43) [(.t 6)]⟩,⟨some 3,none,.zal false [.d (.int .i64 0),.d (.str ⟨#[]⟩),.d (.int .i64 0),.d (.int .i64 0),.d (.int .i64 0)]⟩,⟨none,none,.sto (some 5) (.t 3) (.t 7)⟩] [5,6] false) (hold r137_K2))
def r137 : RFunc := ⟨21,false,[.t 2],r137_T⟩
@[go_sem] def r138_K0 (_ : Unit) : RCode := .seq (.seq (.reg [⟨some 5,none,.mv false (.t 0)⟩,⟨some 6,none,.call false (.f 43) [(.t 5)]⟩,⟨some 7,none,.fld 0 none (.t 6)⟩,⟨some 8,none,.mv false (.t 1)⟩,⟨some 9,none,.bin .neq (.t 7) (.t 8)⟩] [] false) (.cond (.t 9) (.reg [⟨some 10,none,.mv false (.t 0)⟩,⟨some 11,none,.mv false (.t 0)⟩,⟨some 12,none,.call false (.f 43) [(.t 11)]⟩,⟨some 13,none,.call false (.f 45) [(.t 10),(.t 12),(.c (.d (.int .i64 14)))]⟩] [] false) (.skip))) (.seq (.reg [⟨some 14,none,.mv false (.t 0)⟩,⟨some 15,none,.call false (.f 66) [(.t 14)]⟩,⟨some 16,none,.fld 1 none (.t 15)⟩,⟨some 4,none,.mv false (.t 16)⟩] [] false) (.ret [.kill,.kill,.kill,.kill,.keep]))
abbrev r138_R (x4 : PV) (hp : List Ent) : St := ⟨[.dead,.dead,.dead,.dead,x4,.dead,.dead,.dead,.dead,.dead,.dead,.dead,.dead,.dead,.dead,.dead,.dead],hp⟩
def r138_T : RCode := .seq (.reg [⟨some 4,none,.mv false (.c (.d (.str ⟨#[]⟩)))⟩] [] false) (hold r138_K0)
def r138 : RFunc := ⟨17,false,[.t 4],r138_T⟩
@[go_sem] def r139_K0 (_ : Unit) : RCode := .seq (.reg [⟨some 13,none,.mv false (.t 0)⟩,⟨some 14,none,.call false (.f 49) [(.t 13)]⟩,⟨some 15,none,.bsl 27 8 [(.t 14)]⟩,⟨some 16,none,.call false (.f 70) [(.c (.d (.int .i64 11))),(.c (.d (.str ⟨#[]⟩))),(.t 15)]⟩,⟨some 3,none,.zal false [.d (.int .i64 0),.d (.str ⟨#[]⟩),.d (.int .i64 0),.d (.int .i64 0),.d (.int .i64 0),.d (.int .i64 0),.nilsl,.nilsl]⟩,⟨none,none,.sto (some 8) (.t 3) (.t 16)⟩] [] false) (.seq (.reg [⟨some 17,none,.mv false (.t 0)⟩,⟨some 18,none,.nchk (.t 17)⟩,⟨some 19,none,.fad 0 (.t 18)⟩,⟨some 20,none,.call false (.f 48) [(.t 19),(.c (.d (.str ⟨#[93]⟩)))]⟩] [18,19] false) (.seq (.reg [⟨some 21,none,.ld false (some 8) (.t 3)⟩,⟨none,none,.sto (some 8) (.t 2) (.t 21)⟩] [] false) (.ret [.kill,.kill,.keep])))
@[go_sem] def r139_K1 (_ : Unit) : RCode := .seq (.reg [⟨some 4,none,.mv false (.t 0)⟩,⟨some 5,none,.nchk (.t 4)⟩,⟨some 6,none,.fad 0 (.t 5)⟩,⟨some 7,none,.call false (.f 48) [(.t 6),(.c (.d (.str ⟨#[91]⟩)))]⟩] [5,6] false) (.seq (.seq (.reg [⟨some 8,none,.mv false (.t 0)⟩,⟨some 9,none,.nchk (.t 8)⟩,⟨some 10,none,.fad 0 (.t 9)⟩,⟨some 11,none,.call false (.f 44) [(.t 10),(.c (.d (.str ⟨#[93]⟩)))]⟩] [9,10] false) (.cond (.t 11) (.seq (.reg [⟨some 12,none,.call false (.f 70) [(.c (.d (.int .i64 11))),(.c (.d (.str ⟨#[]⟩))),(.c (.d (.sl [])))]⟩,⟨none,none,.sto (some 8) (.t 2) (.t 12)⟩] [] false) (.ret [.kill,.kill,.keep])) (.skip))) (hold r139_K0))
abbrev r139_R (x2 : PV) (hp : List Ent) : St := ⟨[.dead,.dead,x2,.dead,.dead,.dead,.dead,.dead,.dead,.dead,.dead,.dead,.dead,.dead,.dead,.dead,.dead,.dead,.dead,.dead,.dead,.dead],hp⟩
def r139_T : RCode := .seq (.reg [⟨some 2,none,.zal false [.d (.int .i64 0),.d (.str ⟨#[]⟩),.d (.int .i64 0),.d (.int .i64 0),.d (.int .i64 0),.d (.int .i64 0),.nilsl,.nilsl]⟩] [] false) (hold r139_K1)
def r139 : RFunc := ⟨22,false,[.cell 2 (some 8)],r139_T⟩
@[go_sem] def r133_K0 (_ : Unit) : RCode := .seq (.reg [⟨some 24,none,.mv false (.t 0)⟩,⟨some 25,none,.nchk (.t 24)⟩,⟨some 26,none,.fad 0 (.t 25)⟩,⟨some 27,none,.call false (.f 132) [(.t 26)]⟩,⟨some 28,none,.bld [.int .i64 0,.str ⟨#[]⟩,.int .i64 0,.int .i64 0,.int .i64 0,.int .i64 0,.sl [],.sl []] []⟩,⟨some 29,none,.bsl 27 8 [(.t 28)]⟩,⟨some 30,none,.call false (.f 70) [(.c (.d (.int .i64 3))),(.t 27),(.t 29)]⟩,⟨none,none,.sto (some 8) (.t 4) (.t 30)⟩] [25,26] false) (.ret [.kill,.kill,.kill,.kill,.keep])
@[go_sem] def r133_K1 (_ : Unit) : RCode := .seq (.seq (.reg [⟨some 15,none,.mv false (.t 0)⟩,⟨some 16,none,.nchk (.t 15)⟩,⟨some 17,none,.fad 0 (.t 16)⟩,⟨some 18,none,.call false (.f 136) [(.t 17)]⟩,⟨some 19,none,.mv false (.t 18)⟩,⟨some 20,some (19,true),.mv false (.t 0)⟩,⟨some 21,some (19,true),.call false (.f 137) [(.t 20)]⟩,⟨some 22,some (19,true),.un .not (.t 21)⟩,⟨some 23,none,.pick (.t 19) (.t 22) (.c (.d (.bool false)))⟩] [16,17] false) (.cond (.t 23) (hold r133_K0) (.skip))) (.seq (.reg [⟨some 31,none,.bld [.int .i64 0,.str ⟨#[]⟩,.int .i64 0,.int .i64 0,.int .i64 0,.int .i64 0,.sl [],.sl []] []⟩,⟨none,none,.sto (some 8) (.t 4) (.t 31)⟩] [] false) (.ret [.kill,.kill,.kill,.kill,.keep]))
@[go_sem] def r133_K2 (_ : Unit) : RCode := .seq (.reg [⟨some 47,none,.fad 0 (.t 5)⟩,⟨some 48,none,.ld false none (.t 47)⟩,⟨some 49,none,.un .neg (.t 48)⟩,⟨some 50,none,.fad 1 (.t 5)⟩,⟨some 51,none,.ld false none (.t 50)⟩,⟨some 52,none,.bld [.int .i64 0,.int .i64 0] [(0,1,(.t 49)),(1,1,(.t 51))]⟩,⟨some 53,none,.bld [.int .i64 0,.str ⟨#[]⟩,.int .i64 0,.int .i64 0,.int .i64 0,.int .i64 0,.sl [],.sl []] [(0,1,(.c (.d (.int .i64 1)))),(3,1,(.c (.d (.int .i64 3)))),(4,2,(.t 52))]⟩,⟨none,none,.sto (some 8) (.t 4) (.t 53)⟩] [47,50] false) (.ret [.kill,.kill,.kill,.kill,.keep])
@[go_sem] def r133_K3 (_ : Unit) : RCode := .seq (.reg [⟨some 38,none,.mv false (.t 0)⟩,⟨some 39,none,.nchk (.t 38)⟩,⟨some 40,none,.fad 0 (.t 39)⟩,⟨some 41,none,.call false (.f 43) [(.t 40)]⟩,⟨some 42,none,.fld 2 (some 2) (.t 41)⟩,⟨some 5,none,.zal false [.d (.int .i64 0),.d (.int .i64 0)]⟩,⟨none,none,.sto (some 2) (.t 5) (.t 42)⟩] [39,40] false) (.seq (.reg [⟨some 43,none,.mv false (.t 0)⟩,⟨some 44,none,.nchk (.t 43)⟩,⟨some 45,none,.fad 0 (.t 44)⟩,⟨some 46,none,.call false (.f 138) [(.t 45),(.c (.d (.int .i64 3)))]⟩] [44,45] false) (hold r133_K2))
@[go_sem] def r133_K4 (_ : Unit) : RCode := .seq (.reg [⟨some 60,none,.mv false (.t 0)⟩,⟨some 61,none,.call false (.f 49) [(.t 60)]⟩,⟨some 6,none,.zal false [.d (.int .i64 0),.d (.str ⟨#[]⟩),.d (.int .i64 0),.d (.int .i64 0),.d (.int .i64 0),.d (.int .i64 0),.nilsl,.nilsl]⟩,⟨none,none,.sto (some 8) (.t 6) (.t 61)⟩] [] false) (.seq (.reg [⟨some 62,none,.mv false (.t 0)⟩,⟨some 63,none,.nchk (.t 62)⟩,⟨some 64,none,.fad 0 (.t 63)⟩,⟨some 65,none,.call false (.f 48) [(.t 64),(.c (.d (.str ⟨#[41]⟩)))]⟩] [63,64] false) (.seq (.reg [⟨some 66,none,.ld false (some 8) (.t 6)⟩,⟨none,none,.sto (some 8) (.t 4) (.t 66)⟩] [] false) (.ret [.kill,.kill,.kill,.kill,.keep])))
@[go_sem] def r133_K5 (_ : Unit) : RCode := .cond (.t 67) (.seq (.reg [⟨some 69,none,.mv false (.t 0)⟩,⟨some 70,none,.call false (.f 139) [(.t 69)]⟩,⟨none,none,.sto (some 8) (.t 4) (.t 70)⟩] [] false) (.ret [.kill,.kill,.kill,.kill,.keep])) (.seq (.reg [⟨some 72,none,.bin .eql (.t 8) (.c (.d (.str ⟨#[123]⟩)))⟩,⟨some 71,none,.mv false (.t 72)⟩] [] false) (.cond (.t 71) (.seq (.reg [⟨some 73,none,.mv false (.t 0)⟩,⟨some 74,none,.call false (.f 140) [(.t 73)]⟩,⟨none,none,.sto (some 8) (.t 4) (.t 74)⟩] [] false) (.ret [.kill,.kill,.kill,.kill,.keep])) (.skip)))
@[go_sem] def r133_K6 (_ : Unit) : RCode := .cond (.t 32) (.seq (.reg [⟨some 34,none,.mv false (.t 0)⟩,⟨some 35,none,.nchk (.t 34)⟩,⟨some 36,none,.fad 0 (.t 35)⟩,⟨some 37,none,.call false (.f 66) [(.t 36)]⟩] [35,36] false) (hold r133_K3)) (.seq (.reg [⟨some 55,none,.bin .eql (.t 8) (.c (.d (.str ⟨#[40]⟩)))⟩,⟨some 54,none,.mv false (.t 55)⟩] [] false) (.cond (.t 54) (.seq (.reg [⟨some 56,none,.mv false (.t 0)⟩,⟨some 57,none,.nchk (.t 56)⟩,⟨some 58,none,.fad 0 (.t 57)⟩,⟨some 59,none,.call false (.f 66) [(.t 58)]⟩] [57,58] false) (hold r133_K4)) (.seq (.reg [⟨some 68,none,.bin .eql (.t 8) (.c (.d (.str ⟨#[91]⟩)))⟩,⟨some 67,none,.mv false (.t 68)⟩] [] false) (hold r133_K5))))
@[go_sem] def r133_K7 (_ : Unit) : RCode := .block 0 [.keep,.kill,.kill,.keep,.keep] (.seq (.reg [⟨some 10,none,.bin .eql (.t 8) (.c (.d (.str ⟨#[46]⟩)))⟩,⟨some 9,none,.mv false (.t 10)⟩] [] false) (.cond (.t 9) (.seq (.reg [⟨some 11,none,.mv false (.t 0)⟩,⟨some 12,none,.nchk (.t 11)⟩,⟨some 13,none,.fad 0 (.t 12)⟩,⟨some 14,none,.call false (.f 66) [(.t 13)]⟩] [12,13] false) (hold r133_K1)) (.seq (.reg [⟨some 33,none,.bin .eql (.t 8) (.c (.d (.str ⟨#[45]⟩)))⟩,⟨some 32,none,.mv false (.t 33)⟩] [] false) (hold r133_K6))))
@[go_sem] def r133_K8 (_ : Unit) : RCode := .seq (.seq (.reg [⟨some 7,none,.fad 1 (.t 3)⟩,⟨some 8,none,.ld false none (.t 7)⟩] [7] false) (hold r133_K7)) (.seq (.reg [⟨some 75,none,.mv false (.t 0)⟩,⟨some 76,none,.nchk (.t 75)⟩,⟨some 77,none,.fad 0 (.t 76)⟩,⟨some 78,none,.ld false (some 5) (.t 3)⟩,⟨some 79,none,.call false (.f 45) [(.t 77),(.t 78),(.c (.d (.int .i64 14)))]⟩] [76,77] true) (.seq (.reg [⟨some 80,none,.bld [.int .i64 0,.str ⟨#[]⟩,.int .i64 0,.int .i64 0,.int .i64 0,.int .i64 0,.sl [],.sl []] []⟩,⟨none,none,.sto (some 8) (.t 4) (.t 80)⟩] [] false) (.ret [.kill,.kill,.kill,.kill,.keep])))
abbrev r133_R (x4 : PV) (hp : List Ent) : St := ⟨[.dead,.dead,.dead,.dead,x4,.dead,.dead,.dead,.dead,.dead,.dead,.dead,.dead,.dead,.dead,.dead,.dead,.dead,.dead,.dead,.dead,.dead,.dead,.dead,.dead,.dead,.dead,.dead,.dead,.dead,.dead,.dead,.dead,.dead,.dead,.dead,.dead,.dead,.dead,.dead,.dead,.dead,.dead,.dead,.dead,.dead,.dead,.dead,.dead,.dead,.dead,.dead,.dead,.dead,.dead,.dead,.dead,.dead,.dead,.dead,.dead,.dead,.dead,.dead,.dead,.dead,.dead,.dead,.dead,.dead,.dead,.dead,.dead,.dead,.dead,.dead,.dead,.dead,.dead,.dead,.dead],hp⟩
def r133_T : RCode := .seq (.reg [⟨some 3,none,.bx false true (.t 1)⟩,⟨some 4,none,.zal false [.d (.int .i64 0),.d (.str ⟨#[]⟩),.d (.int .i64 0),.d (.int .i64 0),.d (.int .i64 0),.d (.int .i64 0),.nilsl,.nilsl]⟩] [] false) (hold r133_K8)
def r133 : RFunc := ⟨81,false,[.cell 4 (some 8)],r133_T⟩
@[go_sem] def r141_K0 (_ : Unit) : RCode := .seq (.reg [⟨some 20,none,.mv false (.t 0)⟩,⟨some 21,none,.nchk (.t 20)⟩,⟨some 22,none,.fad 0 (.t 21)⟩,⟨some 23,none,.call false (.f 48) [(.t 22),(.c (.d (.str ⟨#[101,110,100]⟩)))]⟩] [21,22] false) (.seq (.reg [⟨some 24,none,.ld false (some 8) (.t 3)⟩,⟨some 25,none,.ld false (some 8) (.t 4)⟩,⟨some 26,none,.ld false (some 8) (.t 5)⟩,⟨some 27,none,.bsl 27 8 [(.t 24),(.t 25),(.t 26)]⟩,⟨some 28,none,.call false (.f 70) [(.c (.d (.int .i64 9))),(.c (.d (.str ⟨#[]⟩))),(.t 27)]⟩,⟨none,none,.sto (some 8) (.t 2) (.t 28)⟩] [] false) (.ret [.kill,.kill,.keep]))
@[go_sem] def r141_K1 (_ : Unit) : RCode := .seq (.reg [⟨some 14,none,.mv false (.t 0)⟩,⟨some 15,none,.nchk (.t 14)⟩,⟨some 16,none,.fad 0 (.t 15)⟩,⟨some 17,none,.call false (.f 48) [(.t 16),(.c (.d (.str ⟨#[101,108,115,101]⟩)))]⟩] [15,16] false) (.seq (.reg [⟨some 18,none,.mv false (.t 0)⟩,⟨some 19,none,.call false (.f 49) [(.t 18)]⟩,⟨some 5,none,.zal false [.d (.int .i64 0),.d (.str ⟨#[]⟩),.d (.int .i64 0),.d (.int .i64 0),.d (.int .i64 0),.d (.int .i64 0),.nilsl,.nilsl]⟩,⟨none,none,.sto (some 8) (.t 5) (.t 19)⟩] [] false) (hold r141_K0))
@[go_sem] def r141_K2 (_ : Unit) : RCode := .seq (.reg [⟨some 8,none,.mv false (.t 0)⟩,⟨some 9,none,.nchk (.t 8)⟩,⟨some 10,none,.fad 0 (.t 9)⟩,⟨some 11,none,.call false (.f 48) [(.t 10),(.c (.d (.str ⟨#[116,104,101,110]⟩)))]⟩] [9,10] false) (.seq (.reg [⟨some 12,none,.mv false (.t 0)⟩,⟨some 13,none,.call false (.f 49) [(.t 12)]⟩,⟨some 4,none,.zal false [.d (.int .i64 0),.d (.str ⟨#[]⟩),.d (.int .i64 0),.d (.int .i64 0),.d (.int .i64 0),.d (.int .i64 0),.nilsl,.nilsl]⟩,⟨none,none,.sto (some 8) (.t 4) (.t 13)⟩] [] false) (hold r141_K1))
abbrev r141_R (x2 : PV) (hp : List Ent) : St := ⟨[.dead,.dead,x2,.dead,.dead,.dead,.dead,.dead,.dead,.dead,.dead,.dead,.dead,.dead,.dead,.dead,.dead,.dead,.dead,.dead,.dead,.dead,.dead,.dead,.dead,.dead,.dead,.dead,.dead],hp⟩
def r141_T : RCode := .seq (.reg [⟨some 2,none,.zal false [.d (.int .i64 0),.d (.str ⟨#[]⟩),.d (.int .i64 0),.d (.int .i64 0),.d (.int .i64 0),.d (.int .i64 0),.nilsl,.nilsl]⟩] [] false) (.seq (.reg [⟨some 6,none,.mv false (.t 0)⟩,⟨some 7,none,.call false (.f 49) [(.t 6)]⟩,⟨some 3,none,.zal false [.d (.int .i64 0),.d (.str ⟨#[]⟩),.d (.int .i64 0),.d (.int .i64 0),.d (.int .i64 0),.d (.int .i64 0),.nilsl,.nilsl]⟩,⟨none,none,.sto (some 8) (.t 3) (.t 7)⟩] [] false) (hold r141_K2))
def r141 : RFunc := ⟨29,false,[.cell 2 (some 8)],r141_T⟩
@[go_sem] def r134_K0 (_ : Unit) : RCode := .seq (.reg [⟨some 34,none,.mv false (.t 0)⟩,⟨some 35,none,.nchk (.t 34)⟩,⟨some 36,none,.fad 0 (.t 35)⟩,⟨some 37,none,.call false (.f 48) [(.t 36),(.c (.d (.str ⟨#[99,97,116,99,104]⟩)))]⟩] [35,36] false) (.seq (.reg [⟨some 38,none,.ldb (some 8) 5⟩,⟨some 39,none,.mv false (.t 0)⟩,⟨some 40,none,.call false (.f 130) [(.t 39)]⟩,⟨some 41,none,.bsl 27 8 [(.t 38),(.t 40)]⟩,⟨some 42,none,.call false (.f 70) [(.c (.d (.int .i64 15))),(.c (.d (.str ⟨#[]⟩))),(.t 41)]⟩,⟨none,none,.sto (some 8) (.t 4) (.t 42)⟩] [] true) (.ret [.kill,.kill,.kill,.kill,.keep]))
@[go_sem] def r134_K1 (_ : Unit) : RCode := .seq (.reg [⟨some 57,none,.mv false (.t 0)⟩,⟨some 58,none,.nchk (.t 57)⟩,⟨some 59,none,.fad 0 (.t 58)⟩,⟨some 60,none,.call false (.f 48) [(.t 59),(.c (.d (.str ⟨#[124]⟩)))]⟩] [58,59] false) (.seq (.reg [⟨some 61,none,.mv false (.t 6)⟩,⟨some 62,none,.mv false (.t 0)⟩,⟨some 63,none,.call false (.f 49) [(.t 62)]⟩,⟨some 64,none,.bsl 27 8 [(.t 63)]⟩,⟨some 65,none,.call false (.f 70) [(.c (.d (.int .i64 18))),(.t 61),(.t 64)]⟩,⟨none,none,.sto (some 8) (.t 4) (.t 65)⟩] [] false) (.ret [.kill,.kill,.kill,.kill,.keep]))
@[go_sem] def r134_K2 (_ : Unit) : RCode := .seq (.reg [⟨some 79,none,.mv false (.t 0)⟩,⟨some 80,none,.call false (.f 49) [(.t 79)]⟩,⟨some 81,none,.bsl 27 8 [(.t 80)]⟩,⟨some 82,none,.call false (.f 70) [(.c (.d (.int .i64 21))),(.c (.d (.str ⟨#[]⟩))),(.t 81)]⟩,⟨some 7,none,.zal false [.d (.int .i64 0),.d (.str ⟨#[]⟩),.d (.int .i64 0),.d (.int .i64 0),.d (.int .i64 0),.d (.int .i64 0),.nilsl,.nilsl]⟩,⟨none,none,.sto (some 8) (.t 7) (.t 82)⟩] [] false) (.seq (.reg [⟨some 83,none,.mv false (.t 0)⟩,⟨some 84,none,.nchk (.t 83)⟩,⟨some 85,none,.fad 0 (.t 84)⟩,⟨some 86,none,.call false (.f 48) [(.t 85),(.c (.d (.str ⟨#[41]⟩)))]⟩] [84,85] false) (.seq (.reg [⟨some 87,none,.ld false (some 8) (.t 7)⟩,⟨none,none,.sto (some 8) (.t 4) (.t 87)⟩] [] false) (.ret [.kill,.kill,.kill,.kill,.keep])))
@[go_sem] def r134_K3 (_ : Unit) : RCode := .cond (.t 73) (.seq (.reg [⟨some 75,none,.mv false (.t 0)⟩,⟨some 76,none,.nchk (.t 75)⟩,⟨some 77,none,.fad 0 (.t 76)⟩,⟨some 78,none,.call false (.f 48) [(.t 77),(.c (.d (.str ⟨#[40]⟩)))]⟩] [76,77] false) (hold r134_K2)) (.seq (.reg [⟨some 89,none,.bin .eql (.t 13) (.c (.d (.str ⟨#[114,101,108,101,97,115,101]⟩)))⟩,⟨some 88,none,.mv false (.t 89)⟩] [] false) (.cond (.t 88) (.seq (.reg [⟨some 90,none,.mv false (.t 0)⟩,⟨some 91,none,.call false (.f 143) [(.t 90)]⟩,⟨none,none,.sto (some 8) (.t 4) (.t 91)⟩] [] false) (.ret [.kill,.kill,.kill,.kill,.keep])) (.skip)))
@[go_sem] def r134_K4 (_ : Unit) : RCode := .cond (.t 66) (.seq (.reg [⟨some 68,none,.mv false (.t 0)⟩,⟨some 69,none,.nchk (.t 68)⟩,⟨some 70,none,.fad 0 (.t 69)⟩,⟨some 71,none,.call false (.f 68) [(.t 70)]⟩,⟨some 72,none,.call false (.f 70) [(.c (.d (.int .i64 19))),(.t 71),(.c (.d (.sl [])))]⟩,⟨none,none,.sto (some 8) (.t 4) (.t 72)⟩] [69,70] false) (.ret [.kill,.kill,.kill,.kill,.keep])) (.seq (.reg [⟨some 74,none,.bin .eql (.t 13) (.c (.d (.str ⟨#[114,97,110,103,101]⟩)))⟩,⟨some 73,none,.mv false (.t 74)⟩] [] false) (hold r134_K3))
@[go_sem] def r134_K5 (_ : Unit) : RCode := .seq (.reg [⟨some 52,none,.bin .eql (.t 13) (.c (.d (.str ⟨#[108,97,98,101,108]⟩)))⟩,⟨some 51,none,.mv false (.t 52)⟩] [] false) (.cond (.t 51) (.seq (.reg [⟨some 53,none,.mv false (.t 0)⟩,⟨some 54,none,.nchk (.t 53)⟩,⟨some 55,none,.fad 0 (.t 54)⟩,⟨some 56,none,.call false (.f 68) [(.t 55)]⟩,⟨some 6,none,.mv false (.t 56)⟩] [54,55] false) (hold r134_K1)) (.seq (.reg [⟨some 67,none,.bin .eql (.t 13) (.c (.d (.str ⟨#[98,114,101,97,107]⟩)))⟩,⟨some 66,none,.mv false (.t 67)⟩] [] false) (hold r134_K4)))
@[go_sem] def r134_K6 (_ : Unit) : RCode := .cond (.t 43) (.seq (.reg [⟨some 45,none,.mv false (.t 0)⟩,⟨some 46,none,.call false (.f 142) [(.t 45),(.c (.d (.int .i64 13)))]⟩,⟨none,none,.sto (some 8) (.t 4) (.t 46)⟩] [] false) (.ret [.kill,.kill,.kill,.kill,.keep])) (.seq (.reg [⟨some 48,none,.bin .eql (.t 13) (.c (.d (.str ⟨#[102,111,114,101,97,99,104]⟩)))⟩,⟨some 47,none,.mv false (.t 48)⟩] [] false) (.cond (.t 47) (.seq (.reg [⟨some 49,none,.mv false (.t 0)⟩,⟨some 50,none,.call false (.f 142) [(.t 49),(.c (.d (.int .i64 14)))]⟩,⟨none,none,.sto (some 8) (.t 4) (.t 50)⟩] [] false) (.ret [.kill,.kill,.kill,.kill,.keep])) (hold r134_K5)))
@[go_sem] def r134_K7 (_ : Unit) : RCode := .seq (.reg [⟨some 31,none,.bin .eql (.t 13) (.c (.d (.str ⟨#[116,114,121]⟩)))⟩,⟨some 30,none,.mv false (.t 31)⟩] [] false) (.cond (.t 30) (.seq (.reg [⟨some 32,none,.mv false (.t 0)⟩,⟨some 33,none,.call false (.f 130) [(.t 32)]⟩,⟨some 5,none,.zal false [.d (.int .i64 0),.d (.str ⟨#[]⟩),.d (.int .i64 0),.d (.int .i64 0),.d (.int .i64 0),.d (.int .i64 0),.nilsl,.nilsl]⟩,⟨none,none,.sto (some 8) (.t 5) (.t 33)⟩] [] false) (hold r134_K0)) (.seq (.reg [⟨some 44,none,.bin .eql (.t 13) (.c (.d (.str ⟨#[114,101,100,117,99,101]⟩)))⟩,⟨some 43,none,.mv false (.t 44)⟩] [] false) (hold r134_K6)))
@[go_sem] def r134_K8 (_ : Unit) : RCode := .cond (.t 23) (.seq (.reg [⟨some 25,none,.call false (.f 70) [(.c (.d (.int .i64 8))),(.c (.d (.str ⟨#[]⟩))),(.c (.d (.sl [])))]⟩,⟨none,none,.sto (some 8) (.t 4) (.t 25)⟩] [] false) (.ret [.kill,.kill,.kill,.kill,.keep])) (.seq (.reg [⟨some 27,none,.bin .eql (.t 13) (.c (.d (.str ⟨#[105,102]⟩)))⟩,⟨some 26,none,.mv false (.t 27)⟩] [] false) (.cond (.t 26) (.seq (.reg [⟨some 28,none,.mv false (.t 0)⟩,⟨some 29,none,.call false (.f 141) [(.t 28)]⟩,⟨none,none,.sto (some 8) (.t 4) (.t 29)⟩] [] false) (.ret [.kill,.kill,.kill,.kill,.keep])) (hold r134_K7)))
@[go_sem] def r134_K9 (_ : Unit) : RCode := .seq (.reg [⟨some 21,none,.bin .eql (.t 13) (.c (.d (.str ⟨#[110,117,108,108]⟩)))⟩,⟨some 20,none,.mv false (.t 21)⟩] [] false) (.cond (.t 20) (.seq (.reg [⟨some 22,none,.bld [.int .i64 0,.str ⟨#[]⟩,.int .i64 0,.int .i64 0,.int .i64 0,.int .i64 0,.sl [],.sl []] [(0,1,(.c (.d (.int .i64 1)))),(3,1,(.c (.d (.int .i64 0))))]⟩,⟨none,none,.sto (some 8) (.t 4) (.t 22)⟩] [] false) (.ret [.kill,.kill,.kill,.kill,.keep])) (.seq (.reg [⟨some 24,none,.bin .eql (.t 13) (.c (.d (.str ⟨#[101,109,112,116,121]⟩)))⟩,⟨some 23,none,.mv false (.t 24)⟩] [] false) (hold r134_K8)))
@[go_sem] def r134_K10 (_ : Unit) : RCode := .cond (.t 14) (.seq (.reg [⟨some 16,none,.bld [.int .i64 0,.str ⟨#[]⟩,.int .i64 0,.int .i64 0,.int .i64 0,.int .i64 0,.sl [],.sl []] [(0,1,(.c (.d (.int .i64 1)))),(3,1,(.c (.d (.int .i64 2))))]⟩,⟨none,none,.sto (some 8) (.t 4) (.t 16)⟩] [] false) (.ret [.kill,.kill,.kill,.kill,.keep])) (.seq (.reg [⟨some 18,none,.bin .eql (.t 13) (.c (.d (.str ⟨#[102,97,108,115,101]⟩)))⟩,⟨some 17,none,.mv false (.t 18)⟩] [] false) (.cond (.t 17) (.seq (.reg [⟨some 19,none,.bld [.int .i64 0,.str ⟨#[]⟩,.int .i64 0,.int .i64 0,.int .i64 0,.int .i64 0,.sl [],.sl []] [(0,1,(.c (.d (.int .i64 1)))),(3,1,(.c (.d (.int .i64 1))))]⟩,⟨none,none,.sto (some 8) (.t 4) (.t 19)⟩] [] false) (.ret [.kill,.kill,.kill,.kill,.keep])) (hold r134_K9)))
@[go_sem] def r134_K11 (_ : Unit) : RCode := .seq (.seq (.reg [⟨some 12,none,.fad 1 (.t 3)⟩,⟨some 13,none,.ld false none (.t 12)⟩] [12] false) (.block 0 [.keep,.kill,.kill,.keep,.keep] (.seq (.reg [⟨some 15,none,.bin .eql (.t 13) (.c (.d (.str ⟨#[116,114,117,101]⟩)))⟩,⟨some 14,none,.mv false (.t 15)⟩] [] false) (hold r134_K10)))) (.seq (.reg [⟨some 92,none,.mv false (.t 0)⟩,⟨some 93,none,.nchk (.t 92)⟩,⟨some 94,none,.fad 0 (.t 93)⟩,⟨some 95,none,.ld false (some 5) (.t 3)⟩,⟨some 96,none,.call false (.f 45) [(.t 94),(.t 95),(.c (.d (.int .i64 14)))]⟩] [93,94] true) (.seq (.reg [⟨some 97,none,.bld [.int .i64 0,.str ⟨#[]⟩,.int .i64 0,.int .i64 0,.int .i64 0,.int .i64 0,.sl [],.sl []] []⟩,⟨none,none,.sto (some 8) (.t 4) (.t 97)⟩] [] false) (.ret [.kill,.kill,.kill,.kill,.keep])))
abbrev r134_R (x4 : PV) (hp : List Ent) : St := ⟨[.dead,.dead,.dead,.dead,x4,.dead,.dead,.dead,.dead,.dead,.dead,.dead,.dead,.dead,.dead,.dead,.dead,.dead,.dead,.dead,.dead,.dead,.dead,.dead,.dead,.dead,.dead,.dead,.dead,.dead,.dead,.dead,.dead,.dead,.dead,.dead,.dead,.dead,.dead,.dead,.dead,.dead,.dead,.dead,.dead,.dead,.dead,.dead,.dead,.dead,.dead,.dead,.dead,.dead,.dead,.dead,.dead,.dead,.dead,.dead,.dead,.dead,.dead,.dead,.dead,.dead,.dead,.dead,.dead,.dead,.dead,.dead,.dead,.dead,.dead,.dead,.dead,.dead,.dead,.dead,.dead,.dead,.dead,.dead,.dead,.dead,.dead,.dead,.dead,.dead,.dead,.dead,.dead,.dead,.dead,.dead,.dead,.dead],hp⟩
def r134_T : RCode := .seq (.reg [⟨some 3,none,.bx false true (.t 1)⟩,⟨some 4,none,.zal false [.d (.int .i64 0),.d (.str ⟨#[]⟩),.d (.int .i64 0),.d (.int .i64 0),.d (.int .i64 0),.d (.int .i64 0),.nilsl,.nilsl]⟩] [] false) (.seq (.reg [⟨some 8,none,.mv false (.t 0)⟩,⟨some 9,none,.nchk (.t 8)⟩,⟨some 10,none,.fad 0 (.t 9)⟩,⟨some 11,none,.call false (.f 66) [(.t 10)]⟩] [9,10] false) (hold r134_K11))
def r134 : RFunc := ⟨98,false,[.cell 4 (some 8)],r134_T⟩
@[go_sem] def r46_K0 (_ : Unit) : RCode := .seq (.seq (.reg [⟨some 6,none,.fad 0 (.t 3)⟩,⟨some 7,none,.ld false none (.t 6)⟩,⟨some 8,none,.bin .neq (.t 7) (.c (.d (.int .i64 1)))⟩,⟨some 9,none,.mv false (.t 8)⟩,⟨some 10,some (9,false),.fad 1 (.t 3)⟩,⟨some 11,some (9,false),.ld false none (.t 10)⟩,⟨some 12,some (9,false),.call false (.f 67) [(.t 11)]⟩,⟨some 13,none,.pick (.t 9) (.c (.d (.bool true))) (.t 12)⟩] [6,10] false) (.cond (.t 13) (.reg [⟨some 14,none,.mv false (.t 0)⟩,⟨some 15,none,.ld false (some 5) (.t 3)⟩,⟨some 16,none,.call false (.f 45) [(.t 14),(.t 15),(.c (.d (.int .i64 14)))]⟩] [] false) (.skip))) (.seq (.reg [⟨some 17,none,.mv false (.t 0)⟩,⟨some 18,none,.call false (.f 66) [(.t 17)]⟩,⟨some 19,none,.fld 1 none (.t 18)⟩,⟨some 2,none,.mv false (.t 19)⟩] [] false) (.ret [.kill,.kill,.keep]))
abbrev r46_R (x2 : PV) (hp : List Ent) : St := ⟨[.dead,.dead,x2,.dead,.dead,.dead,.dead,.dead,.dead,.dead,.dead,.dead,.dead,.dead,.dead,.dead,.dead,.dead,.dead,.dead],hp⟩
def r46_T : RCode := .seq (.reg [⟨some 2,none,.mv false (.c (.d (.str ⟨#[]⟩)))⟩] [] false) (.seq (.reg [⟨some 4,none,.mv false (.t 0)⟩,⟨some 5,none,.call false (.f 43) [(.t 4)]⟩,⟨some 3,none,.zal false [.d (.int .i64 0),.d (.str ⟨#[]⟩),.d (.int .i64 0),.d (.int .i64 0),.d (.int .i64 0)]⟩,⟨none,none,.sto (some 5) (.t 3) (.t 5)⟩] [] false) (hold r46_K0))
def r46 : RFunc := ⟨20,false,[.t 2],r46_T⟩
def r135_C0 : RCode := .seq (.seq (.reg [⟨some 22,none,.fad 7 (.t 3)⟩,⟨some 23,none,.ld false none (.t 22)⟩,⟨some 24,none,.len false (.t 23)⟩,⟨some 25,none,.bin .lss (.t 24) (.c (.d (.int .i64 4)))⟩,⟨some 26,none,.mv false (.t 25)⟩,⟨some 27,some (26,true),.mv false (.t 0)⟩,⟨some 28,some (26,true),.nchk (.t 27)⟩,⟨some 29,some (26,true),.fad 0 (.t 28)⟩,⟨some 30,some (26,true),.call false (.f 44) [(.t 29),(.c (.d (.str ⟨#[59]⟩)))]⟩,⟨some 31,none,.pick (.t 26) (.t 30) (.c (.d (.bool false)))⟩] [22,28,29] false) (.cond (.t 31) (.skip) (.exit 0))) (.block 1 [.keep,.kill,.keep,.keep] (.stuck))
def r135_B0 : RCode := .block 0 [.keep,.kill,.keep,.keep] (.loop [.keep,.kill,.keep,.keep] r135_C0)
theorem r135_B0_eq {cf : CF} {s : St} : V cf r135_B0 s = loopK cf r135_B0 0 [.keep,.kill,.keep,.keep] [.keep,.kill,.keep,.keep] (V cf r135_C0 (s.head [.keep,.kill,.keep,.keep])) := V_bloop
abbrev r135_S0 (x0 x2 x3 : PV) (hp : List Ent) : St := ⟨[x0,.dead,x2,x3,.dead,.dead,.dead,.dead,.dead,.dead,.dead,.dead,.dead,.dead,.dead,.dead,.dead,.dead,.dead,.dead,.dead,.dead,.dead,.dead,.dead,.dead,.dead,.dead,.dead,.dead,.dead,.dead,.dead,.dead,.dead,.dead,.dead,.dead,.dead,.dead,.dead,.dead,.dead,.dead],hp⟩
abbrev r135_E0 (x0 x2 x3 : PV) (hp : List Ent) : St := ⟨[x0,.dead,x2,x3,.dead,.dead,.dead,.dead,.dead,.dead,.dead,.dead,.dead,.dead,.dead,.dead,.dead,.dead,.dead,.dead,.dead,.dead,.dead,.dead,.dead,.dead,.dead,.dead,.dead,.dead,.dead,.dead,.dead,.dead,.dead,.dead,.dead,.dead,.dead,.dead,.dead,.dead,.dead,.dead],hp⟩
theorem r135_B0_n {cf : CF} {x0 a1 x2 x3 a4 a5 a6 a7 a8 a9 a10 a11 a12 a13 a14 a15 a16 a17 a18 a19 a20 a21 a22 a23 a24 a25 a26 a27 a28 a29 a30 a31 a32 a33 a34 a35 a36 a37 a38 a39 a40 a41 a42 a43 : PV} {hp : List Ent} : V cf r135_B0 ⟨[x0,a1,x2,x3,a4,a5,a6,a7,a8,a9,a10,a11,a12,a13,a14,a15,a16,a17,a18,a19,a20,a21,a22,a23,a24,a25,a26,a27,a28,a29,a30,a31,a32,a33,a34,a35,a36,a37,a38,a39,a40,a41,a42,a43],hp⟩ = V cf r135_B0 (r135_S0 x0 x2 x3 hp) := by rw [r135_B0_eq,r135_B0_eq]; rfl
@[go_sem] def r135_K0 (_ : Unit) : RCode := .seq (.seq (.reg [⟨some 9,none,.mv false (.t 0)⟩,⟨some 10,none,.nchk (.t 9)⟩,⟨some 11,none,.fad 0 (.t 10)⟩,⟨some 12,none,.call false (.f 44) [(.t 11),(.c (.d (.str ⟨#[40]⟩)))]⟩,⟨some 13,none,.un .not (.t 12)⟩] [10,11] false) (.cond (.t 13) (.seq (.reg [⟨some 14,none,.ld false (some 8) (.t 3)⟩,⟨none,none,.sto (some 8) (.t 2) (.t 14)⟩] [] false) (.ret [.kill,.kill,.keep])) (.skip))) (.seq (.stuck) (.seq (r135_B0) (.seq (.reg [⟨some 39,none,.mv false (.t 0)⟩,⟨some 40,none,.nchk (.t 39)⟩,⟨some 41,none,.fad 0 (.t 40)⟩,⟨some 42,none,.call false (.f 48) [(.t 41),(.c (.d (.str ⟨#[41]⟩)))]⟩] [40,41] false) (.seq (.reg [⟨some 43,none,.ld false (some 8) (.t 3)⟩,⟨none,none,.sto (some 8) (.t 2) (.t 43)⟩] [] false) (.ret [.kill,.kill,.keep])))))
abbrev r135_R (x2 : PV) (hp : List Ent) : St := ⟨[.dead,.dead,x2,.dead,.dead,.dead,.dead,.dead,.dead,.dead,.dead,.dead,.dead,.dead,.dead,.dead,.dead,.dead,.dead,.dead,.dead,.dead,.dead,.dead,.dead,.dead,.dead,.dead,.dead,.dead,.dead,.dead,.dead,.dead,.dead,.dead,.dead,.dead,.dead,.dead,.dead,.dead,.dead,.dead],hp⟩
def r135_T : RCode := .seq (.reg [⟨some 2,none,.zal false [.d (.int .i64 0),.d (.str ⟨#[]⟩),.d (.int .i64 0),.d (.int .i64 0),.d (.int .i64 0),.d (.int .i64 0),.nilsl,.nilsl]⟩] [] false) (.seq (.reg [⟨some 4,none,.mv false (.t 0)⟩,⟨some 5,none,.nchk (.t 4)⟩,⟨some 6,none,.fad 0 (.t 5)⟩,⟨some 7,none,.call false (.f 46) [(.t 6)]⟩,⟨some 8,none,.call false (.f 70) [(.c (.d (.int .i64 16))),(.t 7),(.c (.d (.sl [])))]⟩,⟨some 3,none,.zal false [.d (.int .i64 0),.d (.str ⟨#[]⟩),.d (.int .i64 0),.d (.int .i64 0),.d (.int .i64 0),.d (.int .i64 0),.nilsl,.nilsl]⟩,⟨none,none,.sto (some 8) (.t 3) (.t 8)⟩] [5,6] false) (hold r135_K0))
def r135 : RFunc := ⟨44,false,[.cell 2 (some 8)],r135_T⟩
@[go_sem] def r131_K0 (_ : Unit) : RCode := .seq (.reg [⟨some 12,none,.mv false (.t 0)⟩,⟨some 13,none,.nchk (.t 12)⟩,⟨some 14,none,.fad 0 (.t 13)⟩,⟨some 15,none,.call false (.f 66) [(.t 14)]⟩] [13,14] false) (.seq (.reg [⟨some 16,none,.fad 2 (.t 3)⟩,⟨some 17,none,.ld false (some 2) (.t 16)⟩,⟨some 18,none,.bld [.int .i64 0,.str ⟨#[]⟩,.int .i64 0,.int .i64 0,.int .i64 0,.int .i64 0,.sl [],.sl []] [(0,1,(.c (.d (.int .i64 1)))),(3,1,(.c (.d (.int .i64 3)))),(4,2,(.t 17))]⟩,⟨none,none,.sto (some 8) (.t 2) (.t 18)⟩] [16] false) (.ret [.kill,.kill,.keep]))
@[go_sem] def r131_K1 (_ : Unit) : RCode := .seq (.reg [⟨some 21,none,.mv false (.t 0)⟩,⟨some 22,none,.nchk (.t 21)⟩,⟨some 23,none,.fad 0 (.t 22)⟩,⟨some 24,none,.call false (.f 66) [(.t 23)]⟩] [22,23] false) (.seq (.reg [⟨some 25,none,.fad 1 (.t 3)⟩,⟨some 26,none,.ld false none (.t 25)⟩,⟨some 27,none,.bld [.int .i64 0,.str ⟨#[]⟩,.int .i64 0,.int .i64 0,.int .i64 0,.int .i64 0,.sl [],.sl []] [(0,1,(.c (.d (.int .i64 1)))),(3,1,(.c (.d (.int .i64 4)))),(1,1,(.t 26))]⟩,⟨none,none,.sto (some 8) (.t 2) (.t 27)⟩] [25] false) (.ret [.kill,.kill,.keep]))
@[go_sem] def r131_K2 (_ : Unit) : RCode := .seq (.seq (.reg [⟨some 42,none,.fad 1 (.t 3)⟩,⟨some 43,none,.ld false none (.t 42)⟩,⟨some 44,none,.call false (.f 67) [(.t 43)]⟩] [42] false) (.cond (.t 44) (.seq (.reg [⟨some 45,none,.mv false (.t 0)⟩,⟨some 46,none,.ld false (some 5) (.t 3)⟩,⟨some 47,none,.call false (.f 134) [(.t 45),(.t 46)]⟩,⟨none,none,.sto (some 8) (.t 2) (.t 47)⟩] [] false) (.ret [.kill,.kill,.keep])) (.skip))) (.seq (.reg [⟨some 48,none,.mv false (.t 0)⟩,⟨some 49,none,.call false (.f 135) [(.t 48)]⟩,⟨none,none,.sto (some 8) (.t 2) (.t 49)⟩] [] false) (.ret [.kill,.kill,.keep]))
@[go_sem] def r131_K3 (_ : Unit) : RCode := .seq (.reg [⟨some 36,none,.bin .eql (.t 9) (.c (.d (.int .i64 5)))⟩,⟨some 35,none,.mv false (.t 36)⟩] [] false) (.cond (.t 35) (.seq (.reg [⟨some 37,none,.mv false (.t 0)⟩,⟨some 38,none,.ld false (some 5) (.t 3)⟩,⟨some 39,none,.call false (.f 133) [(.t 37),(.t 38)]⟩,⟨none,none,.sto (some 8) (.t 2) (.t 39)⟩] [] false) (.ret [.kill,.kill,.keep])) (.seq (.reg [⟨some 41,none,.bin .eql (.t 9) (.c (.d (.int .i64 1)))⟩,⟨some 40,none,.mv false (.t 41)⟩] [] false) (.cond (.t 40) (hold r131_K2) (.skip))))
@[go_sem] def r131_K4 (_ : Unit) : RCode := .cond (.t 19) (hold r131_K1) (.seq (.reg [⟨some 29,none,.bin .eql (.t 9) (.c (.d (.int .i64 2)))⟩,⟨some 28,none,.mv false (.t 29)⟩] [] false) (.cond (.t 28) (.seq (.reg [⟨some 30,none,.mv false (.t 0)⟩,⟨some 31,none,.nchk (.t 30)⟩,⟨some 32,none,.fad 0 (.t 31)⟩,⟨some 33,none,.call false (.f 68) [(.t 32)]⟩,⟨some 34,none,.call false (.f 70) [(.c (.d (.int .i64 2))),(.t 33),(.c (.d (.sl [])))]⟩,⟨none,none,.sto (some 8) (.t 2) (.t 34)⟩] [31,32] false) (.ret [.kill,.kill,.keep])) (hold r131_K3)))
@[go_sem] def r131_K5 (_ : Unit) : RCode := .seq (.seq (.reg [⟨some 8,none,.fad 0 (.t 3)⟩,⟨some 9,none,.ld false none (.t 8)⟩] [8] false) (.block 0 [.keep,.kill,.keep,.keep] (.seq (.reg [⟨some 11,none,.bin .eql (.t 9) (.c (.d (.int .i64 3)))⟩,⟨some 10,none,.mv false (.t 11)⟩] [] false) (.cond (.t 10) (hold r131_K0) (.seq (.reg [⟨some 20,none,.bin .eql (.t 9) (.c (.d (.int .i64 4)))⟩,⟨some 19,none,.mv false (.t 20)⟩] [] false) (hold r131_K4)))))) (.seq (.reg [⟨some 50,none,.mv false (.t 0)⟩,⟨some 51,none,.nchk (.t 50)⟩,⟨some 52,none,.fad 0 (.t 51)⟩,⟨some 53,none,.ldb (some 5) 3⟩,⟨some 54,none,.call false (.f 45) [(.t 52),(.t 53),(.c (.d (.int .i64 14)))]⟩] [51,52] true) (.seq (.reg [⟨some 55,none,.bld [.int .i64 0,.str ⟨#[]⟩,.int .i64 0,.int .i64 0,.int .i64 0,.int .i64 0,.sl [],.sl []] []⟩,⟨none,none,.sto (some 8) (.t 2) (.t 55)⟩] [] false) (.ret [.kill,.kill,.keep])))
abbrev r131_R (x2 : PV) (hp : List Ent) : St := ⟨[.dead,.dead,x2,.dead,.dead,.dead,.dead,.dead,.dead,.dead,.dead,.dead,.dead,.dead,.dead,.dead,.dead,.dead,.dead,.dead,.dead,.dead,.dead,.dead,.dead,.dead,.dead,.dead,.dead,.dead,.dead,.dead,.dead,.dead,.dead,.dead,.dead,.dead,.dead,.dead,.dead,.dead,.dead,.dead,.dead,.dead,.dead,.dead,.dead,.dead,.dead,.dead,.dead,.dead,.dead,.dead],hp⟩
def r131_T : RCode := .seq (.reg [⟨some 2,none,.zal false [.d (.int .i64 0),.d (.str ⟨#[]⟩),.d (.int .i64 0),.d (.int .i64 0),.d (.int .i64 0),.d (.int .i64 0),.nilsl,.nilsl]⟩] [] false) (.seq (.reg [⟨some 4,none,.mv false (.t 0)⟩,⟨some 5,none,.nchk (.t 4)⟩,⟨some 6,none,.fad 0 (.t 5)⟩,⟨some 7,none,.call false (.f 43) [(.t 6)]⟩,⟨some 3,none,.zal false [.d (.int .i64 0),.d (.str ⟨#[]⟩),.d (.int .i64 0),.d (.int .i64 0),.d (.int .i64 0)]⟩,⟨none,none,.sto (some 5) (.t 3) (.t 7)⟩] [5,6] false) (hold r131_K5))
def r131 : RFunc := ⟨56,false,[.cell 2 (some 8)],r131_T⟩
@[go_sem] def r130_K0 (_ : Unit) : RCode := .seq (.reg [⟨some 31,none,.ldb (some 8) 3⟩,⟨some 32,none,.mv false (.t 0)⟩,⟨some 33,none,.call false (.f 49) [(.t 32)]⟩,⟨some 34,none,.bsl 27 8 [(.t 31),(.t 33)]⟩,⟨some 35,none,.call false (.f 70) [(.c (.d (.int .i64 4))),(.c (.d (.str ⟨#[]⟩))),(.t 34)]⟩,⟨none,none,.sto (some 8) (.t 3) (.t 35)⟩] [] true) (.reg [⟨some 36,none,.mv false (.t 0)⟩,⟨some 37,none,.nchk (.t 36)⟩,⟨some 38,none,.fad 0 (.t 37)⟩,⟨some 39,none,.call false (.f 48) [(.t 38),(.c (.d (.str ⟨#[93]⟩)))]⟩] [37,38] false)
@[go_sem] def r130_K1 (_ : Unit) : RCode := .seq (.seq (.reg [⟨some 24,none,.mv false (.t 0)⟩,⟨some 25,none,.nchk (.t 24)⟩,⟨some 26,none,.fad 0 (.t 25)⟩,⟨some 27,none,.call false (.f 44) [(.t 26),(.c (.d (.str ⟨#[93]⟩)))]⟩] [25,26] false) (.cond (.t 27) (.seq (.reg [⟨some 28,none,.ld false (some 8) (.t 3)⟩,⟨some 29,none,.bsl 27 8 [(.t 28)]⟩,⟨some 30,none,.call false (.f 70) [(.c (.d (.int .i64 5))),(.c (.d (.str ⟨#[]⟩))),(.t 29)]⟩,⟨none,none,.sto (some 8) (.t 3) (.t 30)⟩] [] false) (.exit 1)) (.skip))) (hold r130_K0)
@[go_sem] def r130_K2 (_ : Unit) : RCode := .cond (.t 7) (.reg [⟨some 12,none,.mv false (.t 0)⟩,⟨some 13,none,.nchk (.t 12)⟩,⟨some 14,none,.fad 0 (.t 13)⟩,⟨some 15,none,.call false (.f 132) [(.t 14)]⟩,⟨some 16,none,.ldb (some 8) 3⟩,⟨some 17,none,.bsl 27 8 [(.t 16)]⟩,⟨some 18,none,.call false (.f 70) [(.c (.d (.int .i64 3))),(.t 15),(.t 17)]⟩,⟨none,none,.sto (some 8) (.t 3) (.t 18)⟩] [13,14] true) (.seq (.reg [⟨some 20,none,.mv false (.t 0)⟩,⟨some 21,none,.nchk (.t 20)⟩,⟨some 22,none,.fad 0 (.t 21)⟩,⟨some 23,none,.call false (.f 44) [(.t 22),(.c (.d (.str ⟨#[91]⟩)))]⟩,⟨some 19,none,.mv false (.t 23)⟩] [21,22] false) (.cond (.t 19) (hold r130_K1) (.seq (.reg [⟨some 6,none,.ld false (some 8) (.t 3)⟩,⟨none,none,.sto (some 8) (.t 2) (.t 6)⟩] [] false) (.ret [.kill,.kill,.keep]))))
def r130_C0 : RCode := .block 1 [.keep,.kill,.keep,.keep] (.block 2 [.keep,.kill,.keep,.keep] (.seq (.reg [⟨some 8,none,.mv false (.t 0)⟩,⟨some 9,none,.nchk (.t 8)⟩,⟨some 10,none,.fad 0 (.t 9)⟩,⟨some 11,none,.call false (.f 44) [(.t 10),(.c (.d (.str ⟨#[46]⟩)))]⟩,⟨some 7,none,.mv false (.t 11)⟩] [9,10] false) (hold r130_K2)))
def r130_B0 : RCode := .block 0 [.kill,.kill,.keep] (.loop [.keep,.kill,.keep,.keep] r130_C0)
theorem r130_B0_eq {cf : CF} {s : St} : V cf r130_B0 s = loopK cf r130_B0 0 [.kill,.kill,.keep] [.keep,.kill,.keep,.keep] (V cf r130_C0 (s.head [.keep,.kill,.keep,.keep])) := V_bloop
abbrev r130_S0 (x0 x2 x3 : PV) (hp : List Ent) : St := ⟨[x0,.dead,x2,x3,.dead,.dead,.dead,.dead,.dead,.dead,.dead,.dead,.dead,.dead,.dead,.dead,.dead,.dead,.dead,.dead,.dead,.dead,.dead,.dead,.dead,.dead,.dead,.dead,.dead,.dead,.dead,.dead,.dead,.dead,.dead,.dead,.dead,.dead,.dead,.dead],hp⟩
abbrev r130_E0 (x2 : PV) (hp : List Ent) : St := ⟨[.dead,.dead,x2,.dead,.dead,.dead,.dead,.dead,.dead,.dead,.dead,.dead,.dead,.dead,.dead,.dead,.dead,.dead,.dead,.dead,.dead,.dead,.dead,.dead,.dead,.dead,.dead,.dead,.dead,.dead,.dead,.dead,.dead,.dead,.dead,.dead,.dead,.dead,.dead,.dead],hp⟩
theorem r130_B0_n {cf : CF} {x0 a1 x2 x3 a4 a5 a6 a7 a8 a9 a10 a11 a12 a13 a14 a15 a16 a17 a18 a19 a20 a21 a22 a23 a24 a25 a26 a27 a28 a29 a30 a31 a32 a33 a34 a35 a36 a37 a38 a39 : PV} {hp : List Ent} : V cf r130_B0 ⟨[x0,a1,x2,x3,a4,a5,a6,a7,a8,a9,a10,a11,a12,a13,a14,a15,a16,a17,a18,a19,a20,a21,a22,a23,a24,a25,a26,a27,a28,a29,a30,a31,a32,a33,a34,a35,a36,a37,a38,a39],hp⟩ = V cf r130_B0 (r130_S0 x0 x2 x3 hp) := by rw [r130_B0_eq,r130_B0_eq]; rfl
abbrev r130_R (x2 : PV) (hp : List Ent) : St := ⟨[.dead,.dead,x2,.dead,.dead,.dead,.dead,.dead,.dead,.dead,.dead,.dead,.dead,.dead,.dead,.dead,.dead,.dead,.dead,.dead,.dead,.dead,.dead,.dead,.dead,.dead,.dead,.dead,.dead,.dead,.dead,.dead,.dead,.dead,.dead,.dead,.dead,.dead,.dead,.dead],hp⟩
def r130_T : RCode := .seq (.reg [⟨some 2,none,.zal false [.d (.int .i64 0),.d (.str ⟨#[]⟩),.d (.int .i64 0),.d (.int .i64 0),.d (.int .i64 0),.d (.int .i64 0),.nilsl,.nilsl]⟩] [] false) (.seq (.reg [⟨some 4,none,.mv false (.t 0)⟩,⟨some 5,none,.call false (.f 131) [(.t 4)]⟩,⟨some 3,none,.zal false [.d (.int .i64 0),.d (.str ⟨#[]⟩),.d (.int .i64 0),.d (.int .i64 0),.d (.int .i64 0),.d (.int .i64 0),.nilsl,.nilsl]⟩,⟨none,none,.sto (some 8) (.t 3) (.t 5)⟩] [] false) (r130_B0))
def r130 : RFunc := ⟨40,false,[.cell 2 (some 8)],r130_T⟩
@[go_sem] def r129_K0 (_ : Unit) : RCode := .seq (.reg [⟨some 17,none,.mv false (.t 0)⟩,⟨some 18,none,.nchk (.t 17)⟩,⟨some 19,none,.fad 0 (.t 18)⟩,⟨some 20,none,.call false (.f 48) [(.t 19),(.c (.d (.str ⟨#[124]⟩)))]⟩] [18,19] false) (.seq (.reg [⟨some 21,none,.mv false (.t 4)⟩,⟨some 22,none,.ldb (some 8) 3⟩,⟨some 23,none,.mv false (.t 0)⟩,⟨some 24,none,.call false (.f 49) [(.t 23)]⟩,⟨some 25,none,.bsl 27 8 [(.t 22),(.t 24)]⟩,⟨some 26,none,.call false (.f 70) [(.c (.d (.int .i64 17))),(.t 21),(.t 25)]⟩,⟨none,none,.sto (some 8) (.t 2) (.t 26)⟩] [] true) (.ret [.kill,.kill,.keep]))
@[go_sem] def r129_K1 (_ : Unit) : RCode := .seq (.seq (.reg [⟨some 7,none,.mv false (.t 0)⟩,⟨some 8,none,.nchk (.t 7)⟩,⟨some 9,none,.fad 0 (.t 8)⟩,⟨some 10,none,.call false (.f 44) [(.t 9),(.c (.d (.str ⟨#[97,115]⟩)))]⟩,⟨some 11,none,.un .not (.t 10)⟩] [8,9] false) (.cond (.t 11) (.seq (.reg [⟨some 12,none,.ld false (some 8) (.t 3)⟩,⟨none,none,.sto (some 8) (.t 2) (.t 12)⟩] [] false) (.ret [.kill,.kill,.keep])) (.skip))) (.seq (.reg [⟨some 13,none,.mv false (.t 0)⟩,⟨some 14,none,.nchk (.t 13)⟩,⟨some 15,none,.fad 0 (.t 14)⟩,⟨some 16,none,.call false (.f 68) [(.t 15)]⟩,⟨some 4,none,.mv false (.t 16)⟩] [14,15] false) (hold r129_K0))
abbrev r129_R (x2 : PV) (hp : List Ent) : St := ⟨[.dead,.dead,x2,.dead,.dead,.dead,.dead,.dead,.dead,.dead,.dead,.dead,.dead,.dead,.dead,.dead,.dead,.dead,.dead,.dead,.dead,.dead,.dead,.dead,.dead,.dead,.dead],hp⟩
def r129_T : RCode := .seq (.reg [⟨some 2,none,.zal false [.d (.int .i64 0),.d (.str ⟨#[]⟩),.d (.int .i64 0),.d (.int .i64 0),.d (.int .i64 0),.d (.int .i64 0),.nilsl,.nilsl]⟩] [] false) (.seq (.reg [⟨some 5,none,.mv false (.t 0)⟩,⟨some 6,none,.call false (.f 130) [(.t 5)]⟩,⟨some 3,none,.zal false [.d (.int .i64 0),.d (.str ⟨#[]⟩),.d (.int .i64 0),.d (.int .i64 0),.d (.int .i64 0),.d (.int .i64 0),.nilsl,.nilsl]⟩,⟨none,none,.sto (some 8) (.t 3) (.t 6)⟩] [] false) (hold r129_K1))
def r129 : RFunc := ⟨27,false,[.cell 2 (some 8)],r129_T⟩
abbrev r125_R (x2 : PV) (hp : List Ent) : St := ⟨[.dead,.dead,x2,.dead,.dead,.dead,.dead,.dead],hp⟩
def r125_T : RCode := .seq (.reg [⟨some 2,none,.zal false [.d (.int .i64 0),.d (.str ⟨#[]⟩),.d (.int .i64 0),.d (.int .i64 0),.d (.int .i64 0),.d (.int .i64 0),.nilsl,.nilsl]⟩] [] false) (.seq (.reg [⟨some 3,none,.mv false (.t 0)⟩,⟨some 4,none,.mv false (.t 0)⟩,⟨some 5,none,.mkm 129 [(.t 4)]⟩,⟨some 6,none,.bsl 9 1 [(.c (.d (.str ⟨#[42]⟩))),(.c (.d (.str ⟨#[47]⟩))),(.c (.d (.str ⟨#[37]⟩)))]⟩,⟨some 7,none,.call false (.f 97) [(.t 3),(.t 5),(.t 6)]⟩,⟨none,none,.sto (some 8) (.t 2) (.t 7)⟩] [] false) (.ret [.kill,.kill,.keep]))
def r125 : RFunc := ⟨8,false,[.cell 2 (some 8)],r125_T⟩
abbrev r121_R (x2 : PV) (hp : List Ent) : St := ⟨[.dead,.dead,x2,.dead,.dead,.dead,.dead,.dead],hp⟩
def r121_T : RCode := .seq (.reg [⟨some 2,none,.zal false [.d (.int .i64 0),.d (.str ⟨#[]⟩),.d (.int .i64 0),.d (.int .i64 0),.d (.int .i64 0),.d (.int .i64 0),.nilsl,.nilsl]⟩] [] false) (.seq (.reg [⟨some 3,none,.mv false (.t 0)⟩,⟨some 4,none,.mv false (.t 0)⟩,⟨some 5,none,.mkm 125 [(.t 4)]⟩,⟨some 6,none,.bsl 9 1 [(.c (.d (.str ⟨#[43]⟩))),(.c (.d (.str ⟨#[45]⟩)))]⟩,⟨some 7,none,.call false (.f 97) [(.t 3),(.t 5),(.t 6)]⟩,⟨none,none,.sto (some 8) (.t 2) (.t 7)⟩] [] false) (.ret [.kill,.kill,.keep]))
def r121 : RFunc := ⟨8,false,[.cell 2 (some 8)],r121_T⟩
@[go_sem] def r112_K0 (_ : Unit) : RCode := .seq (.reg [⟨some 18,none,.mv false (.t 0)⟩,⟨some 19,none,.nchk (.t 18)⟩,⟨some 20,none,.fad 0 (.t 19)⟩,⟨some 21,none,.call false (.f 66) [(.t 20)]⟩] [19,20] false) (.seq (.reg [⟨some 22,none,.mv false (.t 4)⟩,⟨some 23,none,.mv false (.t 5)⟩,⟨some 24,none,.iad none 1 (.t 22) (.t 23)⟩,⟨some 25,none,.lde none (.t 24)⟩,⟨some 26,none,.ldb (some 8) 3⟩,⟨some 27,none,.mv false (.t 0)⟩,⟨some 28,none,.call false (.f 121) [(.t 27)]⟩,⟨some 29,none,.bsl 27 8 [(.t 26),(.t 28)]⟩,⟨some 30,none,.call false (.f 70) [(.c (.d (.int .i64 10))),(.t 25),(.t 29)]⟩,⟨none,none,.sto (some 8) (.t 2) (.t 30)⟩] [24] true) (.ret [.kill,.kill,.keep]))
@[go_sem] def r112_K1 (_ : Unit) : RCode := .seq (.reg [⟨some 9,none,.mv false (.t 4)⟩,⟨some 10,none,.mv false (.t 0)⟩,⟨some 11,none,.nchk (.t 10)⟩,⟨some 12,none,.fad 0 (.t 11)⟩,⟨some 13,none,.mkm 65 [(.t 12)]⟩,⟨some 14,none,.call false (.f 111) [(.t 9),(.t 13)]⟩,⟨some 5,none,.mv false (.t 14)⟩] [11,12] false) (.seq (.seq (.reg [⟨some 15,none,.mv false (.t 5)⟩,⟨some 16,none,.bin .lss (.t 15) (.c (.d (.int .i64 0)))⟩] [] false) (.cond (.t 16) (.seq (.reg [⟨some 17,none,.ld false (some 8) (.t 3)⟩,⟨none,none,.sto (some 8) (.t 2) (.t 17)⟩] [] false) (.ret [.kill,.kill,.keep])) (.skip))) (hold r112_K0))
@[go_sem] def r112_K2 (_ : Unit) : RCode := .seq (.reg [⟨some 6,none,.mv false (.t 0)⟩,⟨some 7,none,.call false (.f 121) [(.t 6)]⟩,⟨some 3,none,.zal false [.d (.int .i64 0),.d (.str ⟨#[]⟩),.d (.int .i64 0),.d (.int .i64 0),.d (.int .i64 0),.d (.int .i64 0),.nilsl,.nilsl]⟩,⟨none,none,.sto (some 8) (.t 3) (.t 7)⟩] [] false) (.seq (.reg [⟨some 8,none,.bsl 9 1 [(.c (.d (.str ⟨#[61,61]⟩))),(.c (.d (.str ⟨#[33,61]⟩))),(.c (.d (.str ⟨#[60]⟩))),(.c (.d (.str ⟨#[60,61]⟩))),(.c (.d (.str ⟨#[62]⟩))),(.c (.d (.str ⟨#[62,61]⟩)))]⟩,⟨some 4,none,.mv false (.t 8)⟩] [] false) (hold r112_K1))
abbrev r112_R (x2 : PV) (hp : List Ent) : St := ⟨[.dead,.dead,x2,.dead,.dead,.dead,.dead,.dead,.dead,.dead,.dead,.dead,.dead,.dead,.dead,.dead,.dead,.dead,.dead,.dead,.dead,.dead,.dead,.dead,.dead,.dead,.dead,.dead,.dead,.dead,.dead],hp⟩
def r112_T : RCode := .seq (.reg [⟨some 2,none,.zal false [.d (.int .i64 0),.d (.str ⟨#[]⟩),.d (.int .i64 0),.d (.int .i64 0),.d (.int .i64 0),.d (.int .i64 0),.nilsl,.nilsl]⟩] [] false) (hold r112_K2)
def r112 : RFunc := ⟨31,false,[.cell 2 (some 8)],r112_T⟩
abbrev r98_R (x2 : PV) (hp : List Ent) : St := ⟨[.dead,.dead,x2,.dead,.dead,.dead,.dead,.dead],hp⟩
def r98_T : RCode := .seq (.reg [⟨some 2,none,.zal false [.d (.int .i64 0),.d (.str ⟨#[]⟩),.d (.int .i64 0),.d (.int .i64 0),.d (.int .i64 0),.d (.int .i64 0),.nilsl,.nilsl]⟩] [] false) (.seq (.reg [⟨some 3,none,.mv false (.t 0)⟩,⟨some 4,none,.mv false (.t 0)⟩,⟨some 5,none,.mkm 112 [(.t 4)]⟩,⟨some 6,none,.bsl 9 1 [(.c (.d (.str ⟨#[97,110,100]⟩)))]⟩,⟨some 7,none,.call false (.f 97) [(.t 3),(.t 5),(.t 6)]⟩,⟨none,none,.sto (some 8) (.t 2) (.t 7)⟩] [] false) (.ret [.kill,.kill,.keep]))
def r98 : RFunc := ⟨8,false,[.cell 2 (some 8)],r98_T⟩
abbrev r88_R (x2 : PV) (hp : List Ent) : St := ⟨[.dead,.dead,x2,.dead,.dead,.dead,.dead,.dead],hp⟩
def r88_T : RCode := .seq (.reg [⟨some 2,none,.zal false [.d (.int .i64 0),.d (.str ⟨#[]⟩),.d (.int .i64 0),.d (.int .i64 0),.d (.int .i64 0),.d (.int .i64 0),.nilsl,.nilsl]⟩] [] false) (.seq (.reg [⟨some 3,none,.mv false (.t 0)⟩,⟨some 4,none,.mv false (.t 0)⟩,⟨some 5,none,.mkm 98 [(.t 4)]⟩,⟨some 6,none,.bsl 9 1 [(.c (.d (.str ⟨#[111,114]⟩)))]⟩,⟨some 7,none,.call false (.f 97) [(.t 3),(.t 5),(.t 6)]⟩,⟨none,none,.sto (some 8) (.t 2) (.t 7)⟩] [] false) (.ret [.kill,.kill,.keep]))
def r88 : RFunc := ⟨8,false,[.cell 2 (some 8)],r88_T⟩
@[go_sem] def r79_K0 (_ : Unit) : RCode := .seq (.seq (.reg [⟨some 6,none,.mv false (.t 0)⟩,⟨some 7,none,.nchk (.t 6)⟩,⟨some 8,none,.fad 0 (.t 7)⟩,⟨some 9,none,.call false (.f 44) [(.t 8),(.c (.d (.str ⟨#[47,47]⟩)))]⟩] [7,8] false) (.cond (.t 9) (.seq (.reg [⟨some 10,none,.ldb (some 8) 3⟩,⟨some 11,none,.mv false (.t 0)⟩,⟨some 12,none,.call false (.f 79) [(.t 11)]⟩,⟨some 13,none,.bsl 27 8 [(.t 10),(.t 12)]⟩,⟨some 14,none,.call false (.f 70) [(.c (.d (.int .i64 10))),(.c (.d (.str ⟨#[47,47]⟩))),(.t 13)]⟩,⟨none,none,.sto (some 8) (.t 2) (.t 14)⟩] [] true) (.ret [.kill,.kill,.keep])) (.skip))) (.seq (.reg [⟨some 15,none,.ld false (some 8) (.t 3)⟩,⟨none,none,.sto (some 8) (.t 2) (.t 15)⟩] [] false) (.ret [.kill,.kill,.keep]))
abbrev r79_R (x2 : PV) (hp : List Ent) : St := ⟨[.dead,.dead,x2,.dead,.dead,.dead,.dead,.dead,.dead,.dead,.dead,.dead,.dead,.dead,.dead,.dead],hp⟩
def r79_T : RCode := .seq (.reg [⟨some 2,none,.zal false [.d (.int .i64 0),.d (.str ⟨#[]⟩),.d (.int .i64 0),.d (.int .i64 0),.d (.int .i64 0),.d (.int .i64 0),.nilsl,.nilsl]⟩] [] false) (.seq (.reg [⟨some 4,none,.mv false (.t 0)⟩,⟨some 5,none,.call false (.f 88) [(.t 4)]⟩,⟨some 3,none,.zal false [.d (.int .i64 0),.d (.str ⟨#[]⟩),.d (.int .i64 0),.d (.int .i64 0),.d (.int .i64 0),.d (.int .i64 0),.nilsl,.nilsl]⟩,⟨none,none,.sto (some 8) (.t 3) (.t 5)⟩] [] false) (hold r79_K0))
def r79 : RFunc := ⟨16,false,[.cell 2 (some 8)],r79_T⟩
def r69_C0 : RCode := .seq (.seq (.reg [⟨some 6,none,.mv false (.t 0)⟩,⟨some 7,none,.nchk (.t 6)⟩,⟨some 8,none,.fad 0 (.t 7)⟩,⟨some 9,none,.call false (.f 44) [(.t 8),(.c (.d (.str ⟨#[44]⟩)))]⟩] [7,8] false) (.cond (.t 9) (.skip) (.exit 0))) (.block 1 [.keep,.kill,.keep,.keep] (.reg [⟨some 10,none,.ldb (some 8) 3⟩,⟨some 11,none,.mv false (.t 0)⟩,⟨some 12,none,.call false (.f 79) [(.t 11)]⟩,⟨some 13,none,.bsl 27 8 [(.t 10),(.t 12)]⟩,⟨some 14,none,.call false (.f 70) [(.c (.d (.int .i64 7))),(.c (.d (.str ⟨#[]⟩))),(.t 13)]⟩,⟨none,none,.sto (some 8) (.t 3) (.t 14)⟩] [] true))
def r69_B0 : RCode := .block 0 [.kill,.kill,.keep,.keep] (.loop [.keep,.kill,.keep,.keep] r69_C0)
theorem r69_B0_eq {cf : CF} {s : St} : V cf r69_B0 s = loopK cf r69_B0 0 [.kill,.kill,.keep,.keep] [.keep,.kill,.keep,.keep] (V cf r69_C0 (s.head [.keep,.kill,.keep,.keep])) := V_bloop
abbrev r69_S0 (x0 x2 x3 : PV) (hp : List Ent) : St := ⟨[x0,.dead,x2,x3,.dead,.dead,.dead,.dead,.dead,.dead,.dead,.dead,.dead,.dead,.dead,.dead],hp⟩
abbrev r69_E0 (x2 x3 : PV) (hp : List Ent) : St := ⟨[.dead,.dead,x2,x3,.dead,.dead,.dead,.dead,.dead,.dead,.dead,.dead,.dead,.dead,.dead,.dead],hp⟩
theorem r69_B0_n {cf : CF} {x0 a1 x2 x3 a4 a5 a6 a7 a8 a9 a10 a11 a12 a13 a14 a15 : PV} {hp : List Ent} : V cf r69_B0 ⟨[x0,a1,x2,x3,a4,a5,a6,a7,a8,a9,a10,a11,a12,a13,a14,a15],hp⟩ = V cf r69_B0 (r69_S0 x0 x2 x3 hp) := by rw [r69_B0_eq,r69_B0_eq]; rfl
abbrev r69_R (x2 : PV) (hp : List Ent) : St := ⟨[.dead,.dead,x2,.dead,.dead,.dead,.dead,.dead,.dead,.dead,.dead,.dead,.dead,.dead,.dead,.dead],hp⟩
def r69_T : RCode := .seq (.reg [⟨some 2,none,.zal false [.d (.int .i64 0),.d (.str ⟨#[]⟩),.d (.int .i64 0),.d (.int .i64 0),.d (.int .i64 0),.d (.int .i64 0),.nilsl,.nilsl]⟩] [] false) (.seq (.reg [⟨some 4,none,.mv false (.t 0)⟩,⟨some 5,none,.call false (.f 79) [(.t 4)]⟩,⟨some 3,none,.zal false [.d (.int .i64 0),.d (.str ⟨#[]⟩),.d (.int .i64 0),.d (.int .i64 0),.d (.int .i64 0),.d (.int .i64 0),.nilsl,.nilsl]⟩,⟨none,none,.sto (some 8) (.t 3) (.t 5)⟩] [] false) (.seq (r69_B0) (.seq (.reg [⟨some 15,none,.ld false (some 8) (.t 3)⟩,⟨none,none,.sto (some 8) (.t 2) (.t 15)⟩] [] false) (.ret [.kill,.kill,.keep]))))
def r69 : RFunc := ⟨16,false,[.cell 2 (some 8)],r69_T⟩
@[go_sem] def r49_K0 (_ : Unit) : RCode := .seq (.seq (.reg [⟨some 6,none,.mv false (.t 0)⟩,⟨some 7,none,.nchk (.t 6)⟩,⟨some 8,none,.fad 0 (.t 7)⟩,⟨some 9,none,.call false (.f 44) [(.t 8),(.c (.d (.str ⟨#[124]⟩)))]⟩] [7,8] false) (.cond (.t 9) (.seq (.reg [⟨some 10,none,.ldb (some 8) 3⟩,⟨some 11,none,.mv false (.t 0)⟩,⟨some 12,none,.call false (.f 49) [(.t 11)]⟩,⟨some 13,none,.bsl 27 8 [(.t 10),(.t 12)]⟩,⟨some 14,none,.call false (.f 70) [(.c (.d (.int .i64 6))),(.c (.d (.str ⟨#[]⟩))),(.t 13)]⟩,⟨none,none,.sto (some 8) (.t 2) (.t 14)⟩] [] true) (.ret [.kill,.kill,.keep])) (.skip))) (.seq (.reg [⟨some 15,none,.ld false (some 8) (.t 3)⟩,⟨none,none,.sto (some 8) (.t 2) (.t 15)⟩] [] false) (.ret [.kill,.kill,.keep]))
abbrev r49_R (x2 : PV) (hp : List Ent) : St := ⟨[.dead,.dead,x2,.dead,.dead,.dead,.dead,.dead,.dead,.dead,.dead,.dead,.dead,.dead,.dead,.dead],hp⟩
def r49_T : RCode := .seq (.reg [⟨some 2,none,.zal false [.d (.int .i64 0),.d (.str ⟨#[]⟩),.d (.int .i64 0),.d (.int .i64 0),.d (.int .i64 0),.d (.int .i64 0),.nilsl,.nilsl]⟩] [] false) (.seq (.reg [⟨some 4,none,.mv false (.t 0)⟩,⟨some 5,none,.call false (.f 69) [(.t 4)]⟩,⟨some 3,none,.zal false [.d (.int .i64 0),.d (.str ⟨#[]⟩),.d (.int .i64 0),.d (.int .i64 0),.d (.int .i64 0),.d (.int .i64 0),.nilsl,.nilsl]⟩,⟨none,none,.sto (some 8) (.t 3) (.t 5)⟩] [] false) (hold r49_K0))
def r49 : RFunc := ⟨16,false,[.cell 2 (some 8)],r49_T⟩
@[go_sem] def r36_K0 (_ : Unit) : RCode := .seq (.seq (.reg [⟨some 11,none,.ld false (some 8) (.t 4)⟩,⟨some 12,none,.call false (.f 19) [(.t 11),(.c (.d (.int .i64 513)))]⟩,⟨some 13,none,.bin .gtr (.t 12) (.c (.d (.int .i64 512)))⟩] [] false) (.cond (.t 13) (.reg [⟨some 14,none,.mv false (.t 0)⟩,⟨some 15,none,.nchk (.t 14)⟩,⟨some 16,none,.fad 0 (.t 15)⟩,⟨some 17,none,.ldb (some 5) 3⟩,⟨some 18,none,.call false (.f 45) [(.t 16),(.t 17),(.c (.d (.int .i64 19)))]⟩] [15,16] true) (.skip))) (.seq (.reg [⟨some 19,none,.ld false (some 8) (.t 4)⟩,⟨none,none,.sto (some 8) (.t 2) (.t 19)⟩] [] false) (.ret [.kill,.kill,.keep]))
@[go_sem] def r36_K1 (_ : Unit) : RCode := .seq (.reg [⟨some 5,none,.mv false (.t 0)⟩,⟨some 6,none,.nchk (.t 5)⟩,⟨some 7,none,.fad 0 (.t 6)⟩,⟨some 8,none,.call false (.f 43) [(.t 7)]⟩,⟨some 3,none,.zal false [.d (.int .i64 0),.d (.str ⟨#[]⟩),.d (.int .i64 0),.d (.int .i64 0),.d (.int .i64 0)]⟩,⟨none,none,.sto (some 5) (.t 3) (.t 8)⟩] [6,7] false) (.seq (.reg [⟨some 9,none,.mv false (.t 0)⟩,⟨some 10,none,.call false (.f 49) [(.t 9)]⟩,⟨some 4,none,.zal false [.d (.int .i64 0),.d (.str ⟨#[]⟩),.d (.int .i64 0),.d (.int .i64 0),.d (.int .i64 0),.d (.int .i64 0),.nilsl,.nilsl]⟩,⟨none,none,.sto (some 8) (.t 4) (.t 10)⟩] [] false) (hold r36_K0))
abbrev r36_R (x2 : PV) (hp : List Ent) : St := ⟨[.dead,.dead,x2,.dead,.dead,.dead,.dead,.dead,.dead,.dead,.dead,.dead,.dead,.dead,.dead,.dead,.dead,.dead,.dead,.dead],hp⟩
def r36_T : RCode := .seq (.reg [⟨some 2,none,.zal false [.d (.int .i64 0),.d (.str ⟨#[]⟩),.d (.int .i64 0),.d (.int .i64 0),.d (.int .i64 0),.d (.int .i64 0),.nilsl,.nilsl]⟩] [] false) (hold r36_K1)
def r36 : RFunc := ⟨20,false,[.cell 2 (some 8)],r36_T⟩
abbrev r37_R  (hp : List Ent) : St := ⟨[.dead,.dead,.dead,.dead,.dead,.dead,.dead,.dead,.dead,.dead,.dead,.dead,.dead,.dead,.dead,.dead],hp⟩
def r37_T : RCode := .seq (.reg [⟨some 2,none,.mv false (.t 0)⟩,⟨some 3,none,.nchk (.t 2)⟩,⟨some 4,none,.fad 0 (.t 3)⟩,⟨some 5,none,.call false (.f 43) [(.t 4)]⟩,⟨some 6,none,.fld 0 none (.t 5)⟩,⟨some 7,none,.bin .neq (.t 6) (.c (.d (.int .i64 6)))⟩] [3,4] false) (.cond (.t 7) (.reg [⟨some 8,none,.mv false (.t 0)⟩,⟨some 9,none,.nchk (.t 8)⟩,⟨some 10,none,.fad 0 (.t 9)⟩,⟨some 11,none,.mv false (.t 0)⟩,⟨some 12,none,.nchk (.t 11)⟩,⟨some 13,none,.fad 0 (.t 12)⟩,⟨some 14,none,.call false (.f 43) [(.t 13)]⟩,⟨some 15,none,.call false (.f 45) [(.t 10),(.t 14),(.c (.d (.int .i64 14)))]⟩] [9,10,12,13] true) (.skip))
def r37 : RFunc := ⟨16,false,[],r37_T⟩
def r26_A0 (_ : Unit) : RCode := .reg [⟨some 4,none,.zal true [.nilsl,.d (.int .i64 0),.d (.str ⟨#[]⟩),.d (.int .i64 0),.d (.int .i64 0),.d (.int .i64 0),.d (.int .i64 0),.nilsl,.nilsl]⟩,⟨some 5,none,.zal true [.d (.int .i64 0)]⟩,⟨some 6,none,.zal true [.d (.int .i64 0)]⟩] [] false
abbrev r26_A0s (x0 x1 x4 x5 x6 : PV) (hp : List Ent) : St := ⟨[x0,x1,.dead,.dead,x4,x5,x6,.dead,.dead,.dead,.dead,.dead,.dead,.dead,.dead,.dead,.dead,.dead,.dead,.dead,.dead,.dead,.dead,.dead,.dead,.dead,.dead,.dead,.dead,.dead,.dead,.dead,.dead,.dead],hp⟩
def r26_A1 (_ : Unit) : RCode := .reg [⟨some 10,none,.mv false (.t 0)⟩,⟨some 11,none,.call false (.f 33) [(.t 10)]⟩,⟨some 9,none,.mvt (.t 11)⟩,⟨some 12,none,.ext false (.t 9) 0⟩,⟨some 13,none,.ext false (.t 9) 1⟩,⟨some 14,none,.ext false (.t 9) 2⟩,⟨some 7,none,.mv false (.t 12)⟩,⟨none,none,.sto none (.t 5) (.t 13)⟩,⟨none,none,.sto none (.t 6) (.t 14)⟩] [] false
abbrev r26_A1s (x1 x4 x5 x6 x7 : PV) (hp : List Ent) : St := ⟨[.dead,x1,.dead,.dead,x4,x5,x6,x7,.dead,.dead,.dead,.dead,.dead,.dead,.dead,.dead,.dead,.dead,.dead,.dead,.dead,.dead,.dead,.dead,.dead,.dead,.dead,.dead,.dead,.dead,.dead,.dead,.dead,.dead],hp⟩
def r26_A2 (_ : Unit) : RCode := .seq (.reg [⟨some 15,none,.ld false none (.t 6)⟩,⟨some 16,none,.bin .neq (.t 15) (.c (.d (.int .i64 0)))⟩] [] false) (.cond (.t 16) (.seq (.reg [⟨some 17,none,.ld false (some 9) (.t 4)⟩,⟨some 18,none,.ld false none (.t 5)⟩,⟨some 19,none,.ld false none (.t 6)⟩,⟨none,none,.sto (some 9) (.t 4) (.t 17)⟩,⟨none,none,.sto none (.t 5) (.t 18)⟩,⟨none,none,.sto none (.t 6) (.t 19)⟩] [] false) (.ret [.kill,.kill,.kill,.kill,.keep,.keep,.keep])) (.skip))
abbrev r26_A2s (x1 x4 x5 x6 x7 : PV) (hp : List Ent) : St := ⟨[.dead,x1,.dead,.dead,x4,x5,x6,x7,.dead,.dead,.dead,.dead,.dead,.dead,.dead,.dead,.dead,.dead,.dead,.dead,.dead,.dead,.dead,.dead,.dead,.dead,.dead,.dead,.dead,.dead,.dead,.dead,.dead,.dead],hp⟩
def r26_A3 (_ : Unit) : RCode := .reg [⟨some 20,none,.mv false (.t 7)⟩,⟨some 21,none,.bld [.sl [],.int .i64 0] [(0,1,(.t 20))]⟩,⟨some 22,none,.bld [.sl [],.int .i64 0] [(0,2,(.t 21))]⟩,⟨some 23,none,.bx true true (.t 22)⟩,⟨some 8,none,.mv false (.t 23)⟩] [] false
abbrev r26_A3s (x1 x4 x5 x6 x8 : PV) (hp : List Ent) : St := ⟨[.dead,x1,.dead,.dead,x4,x5,x6,.dead,x8,.dead,.dead,.dead,.dead,.dead,.dead,.dead,.dead,.dead,.dead,.dead,.dead,.dead,.dead,.dead,.dead,.dead,.dead,.dead,.dead,.dead,.dead,.dead,.dead,.dead],hp⟩
@[go_sem] def r26_K4 (_ : Unit) : RCode := .seq (.reg [⟨some 28,none,.mv false (.t 8)⟩,⟨some 29,none,.call false (.f 36) [(.t 28)]⟩,⟨some 30,none,.fad 1 (.t 4)⟩,⟨none,none,.sto (some 8) (.t 30) (.t 29)⟩] [30] false) (.seq (.reg [⟨some 31,none,.mv false (.t 8)⟩,⟨some 32,none,.call false (.f 37) [(.t 31)]⟩] [] false) (.seq (.reg [⟨some 33,none,.ld false (some 9) (.t 4)⟩,⟨none,none,.sto (some 9) (.t 4) (.t 33)⟩,⟨none,none,.sto none (.t 5) (.c (.d (.int .i64 0)))⟩,⟨none,none,.sto none (.t 6) (.c (.d (.int .i64 0)))⟩] [] false) (.ret [.kill,.kill,.kill,.kill,.keep,.keep,.keep])))
def r26_D (_ : Unit) : RCode := .seq (.seq (.reg [⟨some 24,none,.mv false (.t 1)⟩] [] false) (.cond (.t 24) (.reg [⟨some 25,none,.mv false (.t 8)⟩,⟨some 26,none,.call false (.f 35) [(.t 25)]⟩,⟨some 27,none,.fad 0 (.t 4)⟩,⟨none,none,.sto none (.t 27) (.t 26)⟩] [27] false) (.skip))) (hold r26_K4)
abbrev r26_Ds (x1 x4 x5 x6 x8 : PV) (hp : List Ent) : St := ⟨[.dead,x1,.dead,.dead,x4,x5,x6,.dead,x8,.dead,.dead,.dead,.dead,.dead,.dead,.dead,.dead,.dead,.dead,.dead,.dead,.dead,.dead,.dead,.dead,.dead,.dead,.dead,.dead,.dead,.dead,.dead,.dead,.dead],hp⟩
def r26_Y : RTri := .seq (hold r26_A0) (.seq (hold r26_A1) (.seq (hold r26_A2) (.seq (hold r26_A3) (.dfr [(.t 4),(.t 5),(.t 6)] (hold r26_D)))))
def r26 : RFunc := ⟨34,true,[.cell 4 (some 9),.cell 5 none,.cell 6 none],.skip⟩
def r26_Hd : RHand := ⟨34,26,9,r34_H⟩
@[go_sem] def r15_K0 (_ : Unit) : RCode := .seq (.reg [⟨some 9,none,.mv false (.t 0)⟩,⟨some 10,none,.call false (.f 26) [(.t 9),(.c (.d (.bool false)))]⟩,⟨some 8,none,.mvt (.t 10)⟩,⟨some 11,none,.ext false (.t 8) 0⟩,⟨some 12,none,.ext false (.t 8) 1⟩,⟨some 13,none,.ext false (.t 8) 2⟩,⟨some 5,none,.zal false [.nilsl,.d (.int .i64 0),.d (.str ⟨#[]⟩),.d (.int .i64 0),.d (.int .i64 0),.d (.int .i64 0),.d (.int .i64 0),.nilsl,.nilsl]⟩,⟨none,none,.sto (some 9) (.t 5) (.t 11)⟩,⟨some 6,none,.mv false (.t 12)⟩,⟨some 7,none,.mv false (.t 13)⟩] [] false) (.seq (.reg [⟨some 14,none,.fad 1 (.t 5)⟩,⟨some 15,none,.ld false (some 8) (.t 14)⟩,⟨some 16,none,.mv false (.t 6)⟩,⟨some 17,none,.mv false (.t 7)⟩,⟨none,none,.sto (some 8) (.t 2) (.t 15)⟩,⟨some 3,none,.mv false (.t 16)⟩,⟨some 4,none,.mv false (.t 17)⟩] [14] false) (.ret [.kill,.kill,.keep,.keep,.keep]))
abbrev r15_R (x2 x3 x4 : PV) (hp : List Ent) : St := ⟨[.dead,.dead,x2,x3,x4,.dead,.dead,.dead,.dead,.dead,.dead,.dead,.dead,.dead,.dead,.dead,.dead,.dead],hp⟩
def r15_T : RCode := .seq (.reg [⟨some 2,none,.zal false [.d (.int .i64 0),.d (.str ⟨#[]⟩),.d (.int .i64 0),.d (.int .i64 0),.d (.int .i64 0),.d (.int .i64 0),.nilsl,.nilsl]⟩,⟨some 3,none,.mv false (.c (.d (.int .i64 0)))⟩,⟨some 4,none,.mv false (.c (.d (.int .i64 0)))⟩] [] false) (hold r15_K0)
def r15 : RFunc := ⟨18,true,[.cell 2 (some 8),.t 3,.t 4],r15_T⟩
@[go_sem] def r8_K0 (_ : Unit) : RCode := .seq (.reg [⟨some 9,none,.mv false (.t 3)⟩,⟨some 10,none,.bin .eql (.t 9) (.c (.d (.int .i64 0)))⟩,⟨some 11,none,.mv false (.t 10)⟩,⟨some 12,some (11,true),.ld false (some 8) (.t 1)⟩,⟨some 13,some (11,true),.call false (.f 6) [(.c (.d (.sl []))),(.t 12)]⟩,⟨some 14,none,.pick (.t 11) (.t 13) (.c (.d (.bool false)))⟩,⟨some 15,none,.mv false (.t 14)⟩,⟨some 16,some (15,true),.ld false (some 8) (.t 1)⟩,⟨some 17,some (15,true),.call false (.f 7) [(.c (.d (.sl []))),(.t 16)]⟩,⟨some 18,some (15,true),.bin .eql (.t 17) (.c (.d (.int .i64 6)))⟩,⟨some 19,none,.pick (.t 15) (.t 18) (.c (.d (.bool false)))⟩,⟨some 0,none,.mv false (.t 19)⟩] [] false) (.ret [.keep])
@[go_sem] def r8_K1 (_ : Unit) : RCode := .seq (.reg [⟨some 5,none,.call false (.f 15) [(.c (.d (.str ⟨#[105,102,32,46,32,116,104,101,110,32,49,32,101,108,115,101,32,91,49,44,50,93,32,101,110,100]⟩)))]⟩,⟨some 4,none,.mvt (.t 5)⟩,⟨some 6,none,.ext false (.t 4) 0⟩,⟨some 7,none,.ext false (.t 4) 1⟩,⟨some 8,none,.ext false (.t 4) 2⟩,⟨some 1,none,.zal false [.d (.int .i64 0),.d (.str ⟨#[]⟩),.d (.int .i64 0),.d (.int .i64 0),.d (.int .i64 0),.d (.int .i64 0),.nilsl,.nilsl]⟩,⟨none,none,.sto (some 8) (.t 1) (.t 6)⟩,⟨some 2,none,.mv false (.t 7)⟩,⟨some 3,none,.mv false (.t 8)⟩] [] false) (hold r8_K0)
abbrev r8_R (x0 : PV) (hp : List Ent) : St := ⟨[x0,.dead,.dead,.dead,.dead,.dead,.dead,.dead,.dead,.dead,.dead,.dead,.dead,.dead,.dead,.dead,.dead,.dead,.dead,.dead],hp⟩
def r8_T : RCode := .seq (.reg [⟨some 0,none,.mv false (.c (.d (.bool false)))⟩] [] false) (hold r8_K1)
def r8 : RFunc := ⟨20,true,[.t 0],r8_T⟩
@[go_sem] def r3_K0 (_ : Unit) : RCode := .seq (.block 1 [.kill,.kill,.kill,.keep,.keep,.keep,.kill,.keep,.keep,.keep] (.seq (.seq (.reg [⟨some 24,none,.mv false (.t 7)⟩,⟨some 25,none,.mv false (.t 9)⟩,⟨some 26,none,.iad none 8 (.t 24) (.t 25)⟩,⟨some 27,none,.ld false (some 8) (.t 26)⟩,⟨some 28,none,.call false (.f 5) [(.t 27),(.c (.d (.int .i64 150)))]⟩,⟨some 29,none,.un .not (.t 28)⟩,⟨some 30,none,.mv false (.t 29)⟩,⟨some 31,some (30,false),.mv false (.t 7)⟩,⟨some 32,some (30,false),.mv false (.t 9)⟩,⟨some 33,some (30,false),.iad none 8 (.t 31) (.t 32)⟩,⟨some 34,some (30,false),.ld false (some 8) (.t 33)⟩,⟨some 35,some (30,false),.call false (.f 6) [(.c (.d (.sl []))),(.t 34)]⟩,⟨some 36,some (30,false),.un .not (.t 35)⟩,⟨some 37,none,.pick (.t 30) (.c (.d (.bool true))) (.t 36)⟩,⟨some 38,none,.mv false (.t 37)⟩,⟨some 39,some (38,false),.mv false (.t 7)⟩,⟨some 40,some (38,false),.mv false (.t 9)⟩,⟨some 41,some (38,false),.iad none 8 (.t 39) (.t 40)⟩,⟨some 42,some (38,false),.ld false (some 8) (.t 41)⟩,⟨some 43,some (38,false),.call false (.f 7) [(.c (.d (.sl []))),(.t 42)]⟩,⟨some 44,some (38,false),.bin .gtr (.t 43) (.c (.d (.int .i64 1000)))⟩,⟨some 45,none,.pick (.t 38) (.c (.d (.bool true))) (.t 44)⟩] [26,33,41] false) (.cond (.t 45) (.seq (.reg [⟨some 46,none,.call false (.f 8) []⟩,⟨some 6,none,.mv false (.t 46)⟩] [] false) (.ret [.kill,.kill,.kill,.kill,.kill,.kill,.keep])) (.skip))) (.reg [⟨some 47,none,.mv false (.t 8)⟩,⟨some 48,none,.mv false (.t 7)⟩,⟨some 49,none,.mv false (.t 9)⟩,⟨some 50,none,.iad none 8 (.t 48) (.t 49)⟩,⟨some 51,none,.ld false (some 8) (.t 50)⟩,⟨some 52,none,.call false (.f 7) [(.c (.d (.sl []))),(.t 51)]⟩,⟨some 53,none,.bin .add (.t 47) (.t 52)⟩,⟨some 8,none,.mv false (.t 53)⟩] [50] false))) (.reg [⟨some 22,none,.mv false (.t 9)⟩,⟨some 23,none,.bin .add (.t 22) (.c (.d (.int .i64 1)))⟩,⟨some 9,none,.mv false (.t 23)⟩] [] false)
def r3_C0 : RCode := .seq (.seq (.reg [⟨some 20,none,.mv false (.t 9)⟩,⟨some 21,none,.bin .lss (.t 20) (.c (.d (.int .i64 3)))⟩] [] false) (.cond (.t 21) (.skip) (.exit 0))) (hold r3_K0)
def r3_B0 : RCode := .block 0 [.kill,.kill,.kill,.keep,.keep,.keep,.kill,.kill,.keep] (.loop [.kill,.kill,.kill,.keep,.keep,.keep,.kill,.keep,.keep,.keep] r3_C0)
theorem r3_B0_eq {cf : CF} {s : St} : V cf r3_B0 s = loopK cf r3_B0 0 [.kill,.kill,.kill,.keep,.keep,.keep,.kill,.kill,.keep] [.kill,.kill,.kill,.keep,.keep,.keep,.kill,.keep,.keep,.keep] (V cf r3_C0 (s.head [.kill,.kill,.kill,.keep,.keep,.keep,.kill,.keep,.keep,.keep])) := V_bloop
abbrev r3_S0 (x3 x4 x5 x7 x8 x9 : PV) (hp : List Ent) : St := ⟨[.dead,.dead,.dead,x3,x4,x5,.dead,x7,x8,x9,.dead,.dead,.dead,.dead,.dead,.dead,.dead,.dead,.dead,.dead,.dead,.dead,.dead,.dead,.dead,.dead,.dead,.dead,.dead,.dead,.dead,.dead,.dead,.dead,.dead,.dead,.dead,.dead,.dead,.dead,.dead,.dead,.dead,.dead,.dead,.dead,.dead,.dead,.dead,.dead,.dead,.dead,.dead,.dead,.dead,.dead,.dead,.dead,.dead,.dead,.dead,.dead,.dead,.dead,.dead,.dead,.dead,.dead,.dead,.dead,.dead,.dead,.dead,.dead,.dead,.dead,.dead,.dead,.dead,.dead,.dead,.dead,.dead,.dead,.dead,.dead,.dead,.dead,.dead,.dead,.dead,.dead,.dead,.dead,.dead,.dead,.dead,.dead,.dead,.dead,.dead,.dead,.dead,.dead,.dead,.dead,.dead,.dead,.dead,.dead,.dead,.dead,.dead,.dead,.dead,.dead,.dead,.dead],hp⟩
abbrev r3_E0 (x3 x4 x5 x8 : PV) (hp : List Ent) : St := ⟨[.dead,.dead,.dead,x3,x4,x5,.dead,.dead,x8,.dead,.dead,.dead,.dead,.dead,.dead,.dead,.dead,.dead,.dead,.dead,.dead,.dead,.dead,.dead,.dead,.dead,.dead,.dead,.dead,.dead,.dead,.dead,.dead,.dead,.dead,.dead,.dead,.dead,.dead,.dead,.dead,.dead,.dead,.dead,.dead,.dead,.dead,.dead,.dead,.dead,.dead,.dead,.dead,.dead,.dead,.dead,.dead,.dead,.dead,.dead,.dead,.dead,.dead,.dead,.dead,.dead,.dead,.dead,.dead,.dead,.dead,.dead,.dead,.dead,.dead,.dead,.dead,.dead,.dead,.dead,.dead,.dead,.dead,.dead,.dead,.dead,.dead,.dead,.dead,.dead,.dead,.dead,.dead,.dead,.dead,.dead,.dead,.dead,.dead,.dead,.dead,.dead,.dead,.dead,.dead,.dead,.dead,.dead,.dead,.dead,.dead,.dead,.dead,.dead,.dead,.dead,.dead,.dead],hp⟩
theorem r3_B0_n {cf : CF} {a0 a1 a2 x3 x4 x5 a6 x7 x8 x9 a10 a11 a12 a13 a14 a15 a16 a17 a18 a19 a20 a21 a22 a23 a24 a25 a26 a27 a28 a29 a30 a31 a32 a33 a34 a35 a36 a37 a38 a39 a40 a41 a42 a43 a44 a45 a46 a47 a48 a49 a50 a51 a52 a53 a54 a55 a56 a57 a58 a59 a60 a61 a62 a63 a64 a65 a66 a67 a68 a69 a70 a71 a72 a73 a74 a75 a76 a77 a78 a79 a80 a81 a82 a83 a84 a85 a86 a87 a88 a89 a90 a91 a92 a93 a94 a95 a96 a97 a98 a99 a100 a101 a102 a103 a104 a105 a106 a107 a108 a109 a110 a111 a112 a113 a114 a115 a116 a117 : PV} {hp : List Ent} : V cf r3_B0 ⟨[a0,a1,a2,x3,x4,x5,a6,x7,x8,x9,a10,a11,a12,a13,a14,a15,a16,a17,a18,a19,a20,a21,a22,a23,a24,a25,a26,a27,a28,a29,a30,a31,a32,a33,a34,a35,a36,a37,a38,a39,a40,a41,a42,a43,a44,a45,a46,a47,a48,a49,a50,a51,a52,a53,a54,a55,a56,a57,a58,a59,a60,a61,a62,a63,a64,a65,a66,a67,a68,a69,a70,a71,a72,a73,a74,a75,a76,a77,a78,a79,a80,a81,a82,a83,a84,a85,a86,a87,a88,a89,a90,a91,a92,a93,a94,a95,a96,a97,a98,a99,a100,a101,a102,a103,a104,a105,a106,a107,a108,a109,a110,a111,a112,a113,a114,a115,a116,a117],hp⟩ = V cf r3_B0 (r3_S0 x3 x4 x5 x7 x8 x9 hp) := by rw [r3_B0_eq,r3_B0_eq]; rfl
@[go_sem] def r3_K1 (_ : Unit) : RCode := .seq (.reg [⟨some 78,none,.ld false (some 8) (.t 13)⟩,⟨some 79,none,.call false (.f 6) [(.c (.d (.sl []))),(.t 78)]⟩,⟨some 80,none,.mv false (.t 79)⟩,⟨some 81,some (80,true),.ld false (some 8) (.t 13)⟩,⟨some 82,some (80,true),.call false (.f 7) [(.c (.d (.sl []))),(.t 81)]⟩,⟨some 83,some (80,true),.mv false (.t 10)⟩,⟨some 84,some (80,true),.bin .add (.c (.d (.int .i64 1))) (.t 83)⟩,⟨some 85,some (80,true),.mv false (.t 11)⟩,⟨some 86,some (80,true),.bin .add (.t 84) (.t 85)⟩,⟨some 87,some (80,true),.bin .eql (.t 82) (.t 86)⟩,⟨some 88,none,.pick (.t 80) (.t 87) (.c (.d (.bool false)))⟩,⟨some 89,none,.mv false (.t 88)⟩,⟨some 90,some (89,true),.ld false (some 8) (.t 14)⟩,⟨some 91,some (89,true),.call false (.f 6) [(.c (.d (.sl []))),(.t 90)]⟩,⟨some 92,none,.pick (.t 89) (.t 91) (.c (.d (.bool false)))⟩,⟨some 93,none,.mv false (.t 92)⟩,⟨some 94,some (93,true),.ld false (some 8) (.t 14)⟩,⟨some 95,some (93,true),.call false (.f 7) [(.c (.d (.sl []))),(.t 94)]⟩,⟨some 96,some (93,true),.mv false (.t 10)⟩,⟨some 97,some (93,true),.bin .add (.c (.d (.int .i64 1))) (.t 96)⟩,⟨some 98,some (93,true),.mv false (.t 11)⟩,⟨some 99,some (93,true),.mv false (.t 12)⟩,⟨some 100,some (93,true),.minmax true (.t 98) [(.t 99)]⟩,⟨some 101,some (93,true),.bin .add (.t 97) (.t 100)⟩,⟨some 102,some (93,true),.bin .eql (.t 95) (.t 101)⟩,⟨some 103,none,.pick (.t 93) (.t 102) (.c (.d (.bool false)))⟩,⟨some 104,none,.mv false (.t 103)⟩,⟨some 105,some (104,true),.ld false (some 8) (.t 15)⟩,⟨some 106,some (104,true),.call false (.f 6) [(.c (.d (.sl []))),(.t 105)]⟩,⟨some 107,none,.pick (.t 104) (.t 106) (.c (.d (.bool false)))⟩,⟨some 108,none,.mv false (.t 107)⟩,⟨some 109,some (108,true),.ld false (some 8) (.t 15)⟩,⟨some 110,some (108,true),.call false (.f 7) [(.c (.d (.sl []))),(.t 109)]⟩,⟨some 111,some (108,true),.mv false (.t 8)⟩,⟨some 112,some (108,true),.bin .add (.t 111) (.c (.d (.int .i64 2)))⟩,⟨some 113,some (108,true),.bin .eql (.t 110) (.t 112)⟩,⟨some 114,none,.pick (.t 108) (.t 113) (.c (.d (.bool false)))⟩,⟨some 115,none,.mv false (.t 114)⟩,⟨some 116,some (115,true),.call false (.f 8) []⟩,⟨some 117,none,.pick (.t 115) (.t 116) (.c (.d (.bool false)))⟩,⟨some 6,none,.mv false (.t 117)⟩] [] false) (.ret [.kill,.kill,.kill,.kill,.kill,.kill,.keep])
@[go_sem] def r3_K2 (_ : Unit) : RCode := .seq (.reg [⟨some 69,none,.ld false (some 8) (.t 3)⟩,⟨some 70,none,.ld false (some 8) (.t 4)⟩,⟨some 71,none,.ld false (some 8) (.t 5)⟩,⟨some 72,none,.bsl 27 8 [(.t 70),(.t 71)]⟩,⟨some 73,none,.bld [.int .i64 0,.str ⟨#[]⟩,.int .i64 0,.int .i64 0,.int .i64 0,.int .i64 0,.sl [],.sl []] [(0,1,(.c (.d (.int .i64 7)))),(7,1,(.t 72))]⟩,⟨some 74,none,.bsl 27 8 [(.t 69),(.t 73)]⟩,⟨some 75,none,.bld [.int .i64 0,.str ⟨#[]⟩,.int .i64 0,.int .i64 0,.int .i64 0,.int .i64 0,.sl [],.sl []] [(0,1,(.c (.d (.int .i64 7)))),(7,1,(.t 74))]⟩,⟨some 76,none,.bsl 27 8 [(.t 75)]⟩,⟨some 77,none,.bld [.int .i64 0,.str ⟨#[]⟩,.int .i64 0,.int .i64 0,.int .i64 0,.int .i64 0,.sl [],.sl []] [(0,1,(.c (.d (.int .i64 11)))),(7,1,(.t 76))]⟩,⟨some 15,none,.zal false [.d (.int .i64 0),.d (.str ⟨#[]⟩),.d (.int .i64 0),.d (.int .i64 0),.d (.int .i64 0),.d (.int .i64 0),.nilsl,.nilsl]⟩,⟨none,none,.sto (some 8) (.t 15) (.t 77)⟩] [] false) (hold r3_K1)
@[go_sem] def r3_K3 (_ : Unit) : RCode := .seq (.reg [⟨some 64,none,.ld false (some 8) (.t 3)⟩,⟨some 65,none,.ld false (some 8) (.t 4)⟩,⟨some 66,none,.ld false (some 8) (.t 5)⟩,⟨some 67,none,.bsl 27 8 [(.t 64),(.t 65),(.t 66)]⟩,⟨some 68,none,.bld [.int .i64 0,.str ⟨#[]⟩,.int .i64 0,.int .i64 0,.int .i64 0,.int .i64 0,.sl [],.sl []] [(0,1,(.c (.d (.int .i64 9)))),(7,1,(.t 67))]⟩,⟨some 14,none,.zal false [.d (.int .i64 0),.d (.str ⟨#[]⟩),.d (.int .i64 0),.d (.int .i64 0),.d (.int .i64 0),.d (.int .i64 0),.nilsl,.nilsl]⟩,⟨none,none,.sto (some 8) (.t 14) (.t 68)⟩] [] false) (hold r3_K2)
@[go_sem] def r3_K4 (_ : Unit) : RCode := .seq (.reg [⟨some 60,none,.ld false (some 8) (.t 3)⟩,⟨some 61,none,.ld false (some 8) (.t 4)⟩,⟨some 62,none,.bsl 27 8 [(.t 60),(.t 61)]⟩,⟨some 63,none,.bld [.int .i64 0,.str ⟨#[]⟩,.int .i64 0,.int .i64 0,.int .i64 0,.int .i64 0,.sl [],.sl []] [(0,1,(.c (.d (.int .i64 6)))),(7,1,(.t 62))]⟩,⟨some 13,none,.zal false [.d (.int .i64 0),.d (.str ⟨#[]⟩),.d (.int .i64 0),.d (.int .i64 0),.d (.int .i64 0),.d (.int .i64 0),.nilsl,.nilsl]⟩,⟨none,none,.sto (some 8) (.t 13) (.t 63)⟩] [] false) (hold r3_K3)
@[go_sem] def r3_K5 (_ : Unit) : RCode := .seq (.seq (.reg [⟨some 9,none,.mv false (.c (.d (.int .i64 0)))⟩] [] false) (r3_B0)) (.seq (.reg [⟨some 54,none,.ld false (some 8) (.t 3)⟩,⟨some 55,none,.call false (.f 7) [(.c (.d (.sl []))),(.t 54)]⟩,⟨some 56,none,.ld false (some 8) (.t 4)⟩,⟨some 57,none,.call false (.f 7) [(.c (.d (.sl []))),(.t 56)]⟩,⟨some 58,none,.ld false (some 8) (.t 5)⟩,⟨some 59,none,.call false (.f 7) [(.c (.d (.sl []))),(.t 58)]⟩,⟨some 10,none,.mv false (.t 55)⟩,⟨some 11,none,.mv false (.t 57)⟩,⟨some 12,none,.mv false (.t 59)⟩] [] true) (hold r3_K4))
abbrev r3_R (x6 : PV) (hp : List Ent) : St := ⟨[.dead,.dead,.dead,.dead,.dead,.dead,x6,.dead,.dead,.dead,.dead,.dead,.dead,.dead,.dead,.dead,.dead,.dead,.dead,.dead,.dead,.dead,.dead,.dead,.dead,.dead,.dead,.dead,.dead,.dead,.dead,.dead,.dead,.dead,.dead,.dead,.dead,.dead,.dead,.dead,.dead,.dead,.dead,.dead,.dead,.dead,.dead,.dead,.dead,.dead,.dead,.dead,.dead,.dead,.dead,.dead,.dead,.dead,.dead,.dead,.dead,.dead,.dead,.dead,.dead,.dead,.dead,.dead,.dead,.dead,.dead,.dead,.dead,.dead,.dead,.dead,.dead,.dead,.dead,.dead,.dead,.dead,.dead,.dead,.dead,.dead,.dead,.dead,.dead,.dead,.dead,.dead,.dead,.dead,.dead,.dead,.dead,.dead,.dead,.dead,.dead,.dead,.dead,.dead,.dead,.dead,.dead,.dead,.dead,.dead,.dead,.dead,.dead,.dead,.dead,.dead,.dead,.dead],hp⟩
def r3_T : RCode := .seq (.reg [⟨some 3,none,.bx false true (.t 0)⟩,⟨some 4,none,.bx false true (.t 1)⟩,⟨some 5,none,.bx false true (.t 2)⟩,⟨some 6,none,.mv false (.c (.d (.bool false)))⟩] [] false) (.seq (.reg [⟨some 16,none,.ld false (some 8) (.t 3)⟩,⟨some 17,none,.ld false (some 8) (.t 4)⟩,⟨some 18,none,.ld false (some 8) (.t 5)⟩,⟨some 19,none,.bsl 27 8 [(.t 16),(.t 17),(.t 18)]⟩,⟨some 7,none,.mv false (.t 19)⟩] [] false) (.seq (.reg [⟨some 8,none,.mv false (.c (.d (.int .i64 1)))⟩] [] false) (hold r3_K5)))
def r3 : RFunc := ⟨118,true,[.t 6],r3_T⟩
def tl : Tabl := [(10,r10),(5,r5),(27,r27),(30,r30),(19,r19),(38,r38),(80,r80),(72,r72),(52,r52),(71,r71),(50,r50),(58,r58),(61,r61),(60,r60),(67,r67),(51,r51),(73,r73),(53,r53),(54,r54),(39,r39),(55,r55),(56,r56),(40,r40),(32,r32),(31,r31),(20,r20),(21,r21),(12,r12),(22,r22),(23,r23),(24,r24),(13,r13),(6,r6),(25,r25),(14,r14),(7,r7),(57,r57),(41,r41),(59,r59),(82,r82),(75,r75),(99,r99),(89,r89),(83,r83),(90,r90),(91,r91),(84,r84),(100,r100),(92,r92),(94,r94),(85,r85),(76,r76),(62,r62),(64,r64),(42,r42),(33,r33),(43,r43),(45,r45),(65,r65),(66,r66),(44,r44),(70,r70),(111,r111),(97,r97),(48,r48),(68,r68),(136,r136),(132,r132),(137,r137),(138,r138),(139,r139),(133,r133),(141,r141),(134,r134),(46,r46),(135,r135),(131,r131),(130,r130),(129,r129),(125,r125),(121,r121),(112,r112),(98,r98),(88,r88),(79,r79),(69,r69),(49,r49),(36,r36),(37,r37),(15,r15),(8,r8),(3,r3)]
def pl : List (Nat × (List PV → Option PV)) := [(74,idxP)]
def pf : Nat → Bool := pfOf tl [74]
def ml : List (Nat × (List PV → Option (List D))) := []
def tab0 : Nat → Option FnD := tabOf tl pl ml
theorem pf_ok0 : PfOk pf tab0 := tabOf_pf tl pl ml _ rfl
def ql : Tril := [(26,r26,r26_Y,r26_Hd)]
def tab : Nat → Option FnD := tabOf4 tl pl ml ql
theorem pf_ok : PfOk pf tab := tabOf4_pf pf_ok0 rfl
theorem pl_ok : ∀ p ∈ pl,PrimSound Go.Proofs.Tryz.prog p.1 p.2 := by
  intro p hp
  simp only [pl,List.mem_cons,List.not_mem_nil,or_false] at hp
  rcases hp with rfl
  · exact idx_prim (k := 81) ⟨_,Go.Proofs.Tryz.func81,by kernel_rfl,by kernel_rfl,by kernel_rfl,by kernel_rfl⟩ (by kernel_rfl)
theorem ml_ok : ∀ p ∈ ml,MkSound Go.Proofs.Tryz.prog p.1 p.2 := by
  intro p hp
  simp only [ml,List.mem_cons,List.not_mem_nil,or_false] at hp

theorem f74 {s : ByteArray} {c : Int} {hp : List Ent} : F tab 74 [.d (.str s),.d (.int .u8 c)] hp = some (.ret (.d (.int .i64 (Lib.indexByte s.data.toList c.toNat.toUInt8))) hp) := F_prim (p := idxP) rfl rfl rfl
theorem all_ok : tabAll Go.Proofs.Tryz.prog pf tl = true := by kernel_rfl
theorem ql_ok : triAll Go.Proofs.Tryz.prog pf ql = true := by kernel_rfl
theorem tab_ok : TabOk Go.Proofs.Tryz.prog pf tab := tabOf4_ok (tabOf_ok all_ok pl_ok ml_ok) ql_ok
theorem f26 {a0 a1 : PV} {hp : List Ent} {out : Out} (hh : PV.hfrees [a0,a1] = true) (h : fnEnd r26 hp (VTri (F tab) r26_Hd r26_Y ⟨[a0,a1,.dead,.dead,.dead,.dead,.dead,.dead,.dead,.dead,.dead,.dead,.dead,.dead,.dead,.dead,.dead,.dead,.dead,.dead,.dead,.dead,.dead,.dead,.dead,.dead,.dead,.dead,.dead,.dead,.dead,.dead,.dead,.dead],[]⟩) = some out) : F tab 26 [a0,a1] hp = some out := F_tri (rf := r26) (t := r26_Y) (h := r26_Hd) rfl (by rw [hh]; rfl) h
theorem t10 : tab 10 = some (.code r10) := rfl
theorem f10 {a0 a1 : PV} {hp : List Ent} {out : Out} (hh : PV.hfrees [a0,a1] = true) (h : fnEnd r10 hp (V (F tab) r10_T ⟨[a0,a1,.dead,.dead,.dead,.dead,.dead,.dead,.dead,.dead,.dead,.dead,.dead,.dead,.dead,.dead,.dead,.dead,.dead,.dead,.dead,.dead,.dead,.dead,.dead,.dead,.dead,.dead,.dead,.dead,.dead,.dead,.dead,.dead,.dead],[]⟩) = some out) : F tab 10 [a0,a1] hp = some out := F_code t10 (by rw [hh]; rfl) h
theorem t5 : tab 5 = some (.code r5) := rfl
theorem f5 {a0 a1 : PV} {hp : List Ent} {out : Out} (hh : PV.hfrees [a0,a1] = true) (h : fnEnd r5 hp (V (F tab) r5_T ⟨[a0,a1,.dead,.dead,.dead,.dead,.dead,.dead,.dead,.dead,.dead,.dead],[]⟩) = some out) : F tab 5 [a0,a1] hp = some out := F_code t5 (by rw [hh]; rfl) h
theorem t27 : tab 27 = some (.code r27) := rfl
theorem f27 {a0 a1 : PV} {hp : List Ent} {out : Out} (h : fnEnd r27 hp (V (F tab) r27_T ⟨[a0,a1,.dead,.dead,.dead,.dead,.dead,.dead,.dead,.dead,.dead,.dead,.dead,.dead,.dead,.dead,.dead,.dead,.dead,.dead,.dead,.dead,.dead],hp⟩) = some out) : F tab 27 [a0,a1] hp = some out := F_code t27 rfl h
theorem t30 : tab 30 = some (.code r30) := rfl
theorem f30 {a0 a1 a2 : PV} {hp : List Ent} {out : Out} (h : fnEnd r30 hp (V (F tab) r30_T ⟨[a0,a1,a2,.dead,.dead,.dead,.dead,.dead,.dead,.dead,.dead,.dead,.dead],hp⟩) = some out) : F tab 30 [a0,a1,a2] hp = some out := F_code t30 rfl h
theorem t19 : tab 19 = some (.code r19) := rfl
theorem f19 {a0 a1 : PV} {hp : List Ent} {out : Out} (hh : PV.hfrees [a0,a1] = true) (h : fnEnd r19 hp (V (F tab) r19_T ⟨[a0,a1,.dead,.dead,.dead,.dead,.dead,.dead,.dead,.dead],[]⟩) = some out) : F tab 19 [a0,a1] hp = some out := F_code t19 (by rw [hh]; rfl) h
theorem t38 : tab 38 = some (.code r38) := rfl
theorem f38 {a0 : PV} {hp : List Ent} {out : Out} (hh : PV.hfrees [a0] = true) (h : fnEnd r38 hp (V (F tab) r38_T ⟨[a0,.dead,.dead,.dead,.dead,.dead,.dead,.dead,.dead,.dead,.dead,.dead,.dead,.dead,.dead,.dead,.dead,.dead,.dead,.dead,.dead,.dead,.dead,.dead,.dead,.dead,.dead,.dead,.dead,.dead,.dead,.dead,.dead,.dead,.dead,.dead,.dead,.dead,.dead,.dead,.dead,.dead,.dead,.dead,.dead,.dead,.dead,.dead,.dead,.dead,.dead,.dead],[]⟩) = some out) : F tab 38 [a0] hp = some out := F_code t38 (by rw [hh]; rfl) h
theorem t80 : tab 80 = some (.code r80) := rfl
theorem f80 {a0 a1 a2 a3 : PV} {hp : List Ent} {out : Out} (hh : PV.hfrees [a0,a1,a2,a3] = true) (h : fnEnd r80 hp (V (F tab) r80_T ⟨[a0,a1,a2,a3,.dead,.dead,.dead,.dead,.dead,.dead,.dead,.dead,.dead,.dead,.dead,.dead,.dead,.dead,.dead,.dead,.dead,.dead,.dead,.dead,.dead,.dead,.dead,.dead,.dead,.dead,.dead,.dead,.dead,.dead,.dead,.dead,.dead,.dead,.dead,.dead,.dead],[]⟩) = some out) : F tab 80 [a0,a1,a2,a3] hp = some out := F_code t80 (by rw [hh]; rfl) h
theorem t72 : tab 72 = some (.code r72) := rfl
theorem f72 {a0 : PV} {hp : List Ent} {out : Out} (hh : PV.hfrees [a0] = true) (h : fnEnd r72 hp (V (F tab) r72_T ⟨[a0,.dead,.dead,.dead,.dead,.dead,.dead,.dead,.dead,.dead,.dead,.dead,.dead,.dead,.dead,.dead,.dead,.dead,.dead,.dead,.dead,.dead,.dead,.dead,.dead,.dead,.dead,.dead,.dead,.dead,.dead,.dead,.dead,.dead,.dead,.dead,.dead,.dead,.dead,.dead,.dead,.dead,.dead,.dead,.dead,.dead,.dead,.dead,.dead,.dead,.dead,.dead,.dead,.dead,.dead,.dead,.dead,.dead,.dead,.dead,.dead,.dead,.dead,.dead,.dead,.dead,.dead,.dead,.dead,.dead],[]⟩) = some out) : F tab 72 [a0] hp = some out := F_code t72 (by rw [hh]; rfl) h
theorem t52 : tab 52 = some (.code r52) := rfl
theorem f52 {a0 : PV} {hp : List Ent} {out : Out} (hh : PV.hfrees [a0] = true) (h : fnEnd r52 hp (V (F tab) r52_T ⟨[a0,.dead,.dead,.dead,.dead,.dead,.dead,.dead,.dead,.dead,.dead,.dead,.dead],[]⟩) = some out) : F tab 52 [a0] hp = some out := F_code t52 (by rw [hh]; rfl) h
theorem t71 : tab 71 = some (.code r71) := rfl
theorem f71 {a0 : PV} {hp : List Ent} {out : Out} (hh : PV.hfrees [a0] = true) (h : fnEnd r71 hp (V (F tab) r71_T ⟨[a0,.dead,.dead,.dead,.dead,.dead,.dead,.dead,.dead,.dead,.dead,.dead,.dead,.dead,.dead,.dead,.dead,.dead,.dead,.dead,.dead,.dead,.dead,.dead,.dead,.dead,.dead,.dead,.dead,.dead],[]⟩) = some out) : F tab 71 [a0] hp = some out := F_code t71 (by rw [hh]; rfl) h
theorem t50 : tab 50 = some (.code r50) := rfl
theorem f50 {a0 : PV} {hp : List Ent} {out : Out} (hh : PV.hfrees [a0] = true) (h : fnEnd r50 hp (V (F tab) r50_T ⟨[a0,.dead,.dead,.dead,.dead,.dead,.dead,.dead,.dead,.dead,.dead,.dead,.dead,.dead,.dead,.dead,.dead,.dead,.dead,.dead,.dead,.dead,.dead,.dead,.dead,.dead,.dead,.dead,.dead,.dead,.dead,.dead,.dead,.dead,.dead,.dead,.dead,.dead,.dead],[]⟩) = some out) : F tab 50 [a0] hp = some out := F_code t50 (by rw [hh]; rfl) h
theorem t58 : tab 58 = some (.code r58) := rfl
theorem f58 {a0 : PV} {hp : List Ent} {out : Out} (hh : PV.hfrees [a0] = true) (h : fnEnd r58 hp (V (F tab) r58_T ⟨[a0,.dead,.dead,.dead,.dead,.dead,.dead,.dead,.dead,.dead,.dead,.dead,.dead,.dead,.dead,.dead,.dead,.dead,.dead,.dead,.dead],[]⟩) = some out) : F tab 58 [a0] hp = some out := F_code t58 (by rw [hh]; rfl) h
theorem t61 : tab 61 = some (.code r61) := rfl
theorem f61 {a0 : PV} {hp : List Ent} {out : Out} (hh : PV.hfrees [a0] = true) (h : fnEnd r61 hp (V (F tab) r61_T ⟨[a0,.dead,.dead,.dead,.dead,.dead,.dead,.dead,.dead],[]⟩) = some out) : F tab 61 [a0] hp = some out := F_code t61 (by rw [hh]; rfl) h
theorem t60 : tab 60 = some (.code r60) := rfl
theorem f60 {a0 : PV} {hp : List Ent} {out : Out} (hh : PV.hfrees [a0] = true) (h : fnEnd r60 hp (V (F tab) r60_T ⟨[a0,.dead,.dead,.dead,.dead,.dead,.dead,.dead,.dead,.dead,.dead,.dead,.dead,.dead,.dead,.dead,.dead,.dead,.dead,.dead,.dead,.dead,.dead,.dead,.dead,.dead,.dead,.dead,.dead],[]⟩) = some out) : F tab 60 [a0] hp = some out := F_code t60 (by rw [hh]; rfl) h
theorem t67 : tab 67 = some (.code r67) := rfl
theorem f67 {a0 : PV} {hp : List Ent} {out : Out} (hh : PV.hfrees [a0] = true) (h : fnEnd r67 hp (V (F tab) r67_T ⟨[a0,.dead,.dead,.dead,.dead,.dead,.dead,.dead,.dead,.dead,.dead,.dead,.dead,.dead,.dead,.dead,.dead,.dead,.dead,.dead,.dead,.dead,.dead,.dead,.dead],[]⟩) = some out) : F tab 67 [a0] hp = some out := F_code t67 (by rw [hh]; rfl) h
theorem t51 : tab 51 = some (.code r51) := rfl
theorem f51 {a0 : PV} {hp : List Ent} {out : Out} (hh : PV.hfrees [a0] = true) (h : fnEnd r51 hp (V (F tab) r51_T ⟨[a0,.dead,.dead,.dead,.dead,.dead,.dead,.dead,.dead,.dead,.dead,.dead,.dead,.dead,.dead,.dead,.dead,.dead,.dead,.dead,.dead],[]⟩) = some out) : F tab 51 [a0] hp = some out := F_code t51 (by rw [hh]; rfl) h
theorem t73 : tab 73 = some (.code r73) := rfl
theorem f73 {a0 a1 : PV} {hp : List Ent} {out : Out} (hh : PV.hfrees [a0,a1] = true) (h : fnEnd r73 hp (V (F tab) r73_T ⟨[a0,a1,.dead,.dead,.dead,.dead,.dead,.dead,.dead,.dead,.dead,.dead,.dead,.dead,.dead,.dead,.dead,.dead,.dead],[]⟩) = some out) : F tab 73 [a0,a1] hp = some out := F_code t73 (by rw [hh]; rfl) h
theorem t53 : tab 53 = some (.code r53) := rfl
theorem f53 {a0 a1 : PV} {hp : List Ent} {out : Out} (hh : PV.hfrees [a0,a1] = true) (h : fnEnd r53 hp (V (F tab) r53_T ⟨[a0,a1,.dead,.dead,.dead,.dead,.dead,.dead,.dead],[]⟩) = some out) : F tab 53 [a0,a1] hp = some out := F_code t53 (by rw [hh]; rfl) h
theorem t54 : tab 54 = some (.code r54) := rfl
theorem f54 {hp : List Ent} {out : Out} (hh : PV.hfrees [] = true) (h : fnEnd r54 hp (V (F tab) r54_T ⟨[.dead,.dead],[]⟩) = some out) : F tab 54 [] hp = some out := F_code t54 (by rw [hh]; rfl) h
theorem t39 : tab 39 = some (.code r39) := rfl
theorem f39 {a0 a1 : PV} {hp : List Ent} {out : Out} (hh : PV.hfrees [a0,a1] = true) (h : fnEnd r39 hp (V (F tab) r39_T ⟨[a0,a1,.dead,.dead,.dead,.dead,.dead,.dead,.dead,.dead,.dead,.dead,.dead,.dead,.dead,.dead,.dead,.dead,.dead,.dead,.dead,.dead,.dead,.dead,.dead,.dead,.dead,.dead,.dead,.dead,.dead,.dead,.dead,.dead,.dead,.dead,.dead,.dead,.dead,.dead,.dead,.dead,.dead,.dead,.dead],[]⟩) = some out) : F tab 39 [a0,a1] hp = some out := F_code t39 (by rw [hh]; rfl) h
theorem t55 : tab 55 = some (.code r55) := rfl
theorem f55 {a0 : PV} {hp : List Ent} {out : Out} (hh : PV.hfrees [a0] = true) (h : fnEnd r55 hp (V (F tab) r55_T ⟨[a0,.dead,.dead,.dead,.dead,.dead,.dead,.dead,.dead,.dead,.dead,.dead,.dead,.dead,.dead,.dead,.dead,.dead,.dead,.dead,.dead,.dead,.dead],[]⟩) = some out) : F tab 55 [a0] hp = some out := F_code t55 (by rw [hh]; rfl) h
theorem t56 : tab 56 = some (.code r56) := rfl
theorem f56 {a0 : PV} {hp : List Ent} {out : Out} (hh : PV.hfrees [a0] = true) (h : fnEnd r56 hp (V (F tab) r56_T ⟨[a0,.dead,.dead,.dead,.dead,.dead,.dead,.dead,.dead,.dead,.dead,.dead,.dead,.dead,.dead,.dead,.dead,.dead,.dead,.dead,.dead,.dead,.dead,.dead,.dead,.dead,.dead,.dead,.dead,.dead,.dead,.dead,.dead,.dead,.dead,.dead,.dead,.dead,.dead,.dead,.dead,.dead,.dead,.dead,.dead],[]⟩) = some out) : F tab 56 [a0] hp = some out := F_code t56 (by rw [hh]; rfl) h
theorem t40 : tab 40 = some (.code r40) := rfl
theorem f40 {a0 a1 : PV} {hp : List Ent} {out : Out} (hh : PV.hfrees [a0,a1] = true) (h : fnEnd r40 hp (V (F tab) r40_T ⟨[a0,a1,.dead,.dead,.dead,.dead,.dead,.dead,.dead,.dead,.dead,.dead,.dead,.dead,.dead,.dead,.dead,.dead,.dead,.dead,.dead,.dead,.dead,.dead,.dead,.dead,.dead,.dead,.dead,.dead,.dead,.dead,.dead,.dead,.dead,.dead,.dead,.dead,.dead,.dead,.dead,.dead,.dead,.dead,.dead,.dead,.dead],[]⟩) = some out) : F tab 40 [a0,a1] hp = some out := F_code t40 (by rw [hh]; rfl) h
theorem t32 : tab 32 = some (.code r32) := rfl
theorem f32 {a0 : PV} {hp : List Ent} {out : Out} (hh : PV.hfrees [a0] = true) (h : fnEnd r32 hp (V (F tab) r32_T ⟨[a0,.dead,.dead,.dead,.dead,.dead,.dead,.dead,.dead,.dead,.dead,.dead,.dead,.dead,.dead,.dead,.dead,.dead,.dead,.dead,.dead,.dead,.dead,.dead,.dead,.dead,.dead,.dead,.dead,.dead,.dead,.dead,.dead,.dead,.dead,.dead,.dead,.dead,.dead,.dead,.dead,.dead,.dead],[]⟩) = some out) : F tab 32 [a0] hp = some out := F_code t32 (by rw [hh]; rfl) h
theorem t31 : tab 31 = some (.code r31) := rfl
theorem f31 {a0 a1 : PV} {hp : List Ent} {out : Out} (h : fnEnd r31 hp (V (F tab) r31_T ⟨[a0,a1,.dead,.dead,.dead,.dead,.dead,.dead,.dead,.dead,.dead,.dead],hp⟩) = some out) : F tab 31 [a0,a1] hp = some out := F_code t31 rfl h
theorem t20 : tab 20 = some (.code r20) := rfl
theorem f20 {a0 : PV} {hp : List Ent} {out : Out} (hh : PV.hfrees [a0] = true) (h : fnEnd r20 hp (V (F tab) r20_T ⟨[a0,.dead,.dead,.dead,.dead,.dead,.dead],[]⟩) = some out) : F tab 20 [a0] hp = some out := F_code t20 (by rw [hh]; rfl) h
theorem t21 : tab 21 = some (.code r21) := rfl
theorem f21 {a0 : PV} {hp : List Ent} {out : Out} (hh : PV.hfrees [a0] = true) (h : fnEnd r21 hp (V (F tab) r21_T ⟨[a0,.dead,.dead,.dead,.dead,.dead,.dead,.dead,.dead,.dead,.dead,.dead,.dead,.dead,.dead,.dead,.dead,.dead,.dead,.dead,.dead,.dead,.dead,.dead,.dead,.dead,.dead,.dead],[]⟩) = some out) : F tab 21 [a0] hp = some out := F_code t21 (by rw [hh]; rfl) h
theorem t12 : tab 12 = some (.code r12) := rfl
theorem f12 {a0 : PV} {hp : List Ent} {out : Out} (hh : PV.hfrees [a0] = true) (h : fnEnd r12 hp (V (F tab) r12_T ⟨[a0,.dead,.dead,.dead,.dead,.dead,.dead,.dead,.dead,.dead,.dead],[]⟩) = some out) : F tab 12 [a0] hp = some out := F_code t12 (by rw [hh]; rfl) h
theorem t22 : tab 22 = some (.code r22) := rfl
theorem f22 {a0 a1 : PV} {hp : List Ent} {out : Out} (hh : PV.hfrees [a0,a1] = true) (h : fnEnd r22 hp (V (F tab) r22_T ⟨[a0,a1,.dead,.dead,.dead,.dead,.dead,.dead,.dead,.dead,.dead,.dead,.dead,.dead,.dead,.dead,.dead,.dead],[]⟩) = some out) : F tab 22 [a0,a1] hp = some out := F_code t22 (by rw [hh]; rfl) h
theorem t23 : tab 23 = some (.code r23) := rfl
theorem f23 {a0 a1 : PV} {hp : List Ent} {out : Out} (hh : PV.hfrees [a0,a1] = true) (h : fnEnd r23 hp (V (F tab) r23_T ⟨[a0,a1,.dead,.dead,.dead,.dead,.dead,.dead,.dead,.dead,.dead,.dead,.dead,.dead,.dead,.dead,.dead,.dead,.dead,.dead,.dead,.dead,.dead,.dead,.dead],[]⟩) = some out) : F tab 23 [a0,a1] hp = some out := F_code t23 (by rw [hh]; rfl) h
theorem t24 : tab 24 = some (.code r24) := rfl
theorem f24 {a0 a1 : PV} {hp : List Ent} {out : Out} (hh : PV.hfrees [a0,a1] = true) (h : fnEnd r24 hp (V (F tab) r24_T ⟨[a0,a1,.dead,.dead,.dead,.dead,.dead,.dead,.dead,.dead,.dead,.dead,.dead,.dead,.dead,.dead,.dead,.dead,.dead,.dead],[]⟩) = some out) : F tab 24 [a0,a1] hp = some out := F_code t24 (by rw [hh]; rfl) h
theorem t13 : tab 13 = some (.code r13) := rfl
theorem f13 {a0 a1 : PV} {hp : List Ent} {out : Out} (hh : PV.hfrees [a0,a1] = true) (h : fnEnd r13 hp (V (F tab) r13_T ⟨[a0,a1,.dead,.dead,.dead,.dead,.dead,.dead,.dead,.dead,.dead,.dead,.dead,.dead,.dead,.dead,.dead,.dead,.dead,.dead,.dead,.dead,.dead,.dead,.dead,.dead,.dead,.dead,.dead,.dead,.dead,.dead,.dead,.dead,.dead,.dead,.dead,.dead,.dead,.dead,.dead,.dead,.dead,.dead,.dead,.dead,.dead,.dead,.dead],[]⟩) = some out) : F tab 13 [a0,a1] hp = some out := F_code t13 (by rw [hh]; rfl) h
theorem t6 : tab 6 = some (.code r6) := rfl
theorem f6 {a0 a1 : PV} {hp : List Ent} {out : Out} (hh : PV.hfrees [a0,a1] = true) (h : fnEnd r6 hp (V (F tab) r6_T ⟨[a0,a1,.dead,.dead,.dead,.dead,.dead,.dead,.dead,.dead,.dead,.dead],[]⟩) = some out) : F tab 6 [a0,a1] hp = some out := F_code t6 (by rw [hh]; rfl) h
theorem t25 : tab 25 = some (.code r25) := rfl
theorem f25 {a0 : PV} {hp : List Ent} {out : Out} (hh : PV.hfrees [a0] = true) (h : fnEnd r25 hp (V (F tab) r25_T ⟨[a0,.dead,.dead,.dead,.dead,.dead,.dead,.dead,.dead,.dead,.dead,.dead,.dead,.dead,.dead,.dead,.dead,.dead],[]⟩) = some out) : F tab 25 [a0] hp = some out := F_code t25 (by rw [hh]; rfl) h
theorem t14 : tab 14 = some (.code r14) := rfl
theorem f14 {a0 a1 : PV} {hp : List Ent} {out : Out} (hh : PV.hfrees [a0,a1] = true) (h : fnEnd r14 hp (V (F tab) r14_T ⟨[a0,a1,.dead,.dead,.dead,.dead,.dead,.dead,.dead,.dead,.dead,.dead,.dead,.dead,.dead,.dead,.dead,.dead,.dead,.dead,.dead,.dead,.dead,.dead,.dead,.dead,.dead,.dead,.dead,.dead,.dead,.dead,.dead,.dead,.dead,.dead,.dead,.dead,.dead,.dead,.dead,.dead,.dead,.dead,.dead,.dead,.dead,.dead,.dead,.dead,.dead,.dead,.dead,.dead,.dead,.dead,.dead,.dead,.dead,.dead,.dead,.dead,.dead,.dead,.dead,.dead,.dead,.dead,.dead,.dead,.dead,.dead,.dead,.dead,.dead,.dead],[]⟩) = some out) : F tab 14 [a0,a1] hp = some out := F_code t14 (by rw [hh]; rfl) h
theorem t7 : tab 7 = some (.code r7) := rfl
theorem f7 {a0 a1 : PV} {hp : List Ent} {out : Out} (hh : PV.hfrees [a0,a1] = true) (h : fnEnd r7 hp (V (F tab) r7_T ⟨[a0,a1,.dead,.dead,.dead,.dead,.dead,.dead,.dead,.dead,.dead,.dead],[]⟩) = some out) : F tab 7 [a0,a1] hp = some out := F_code t7 (by rw [hh]; rfl) h
theorem t57 : tab 57 = some (.code r57) := rfl
theorem f57 {a0 a1 : PV} {hp : List Ent} {out : Out} (hh : PV.hfrees [a0,a1] = true) (h : fnEnd r57 hp (V (F tab) r57_T ⟨[a0,a1,.dead,.dead,.dead,.dead,.dead,.dead],[]⟩) = some out) : F tab 57 [a0,a1] hp = some out := F_code t57 (by rw [hh]; rfl) h
theorem t41 : tab 41 = some (.code r41) := rfl
theorem f41 {a0 : PV} {hp : List Ent} {out : Out} (hh : PV.hfrees [a0] = true) (h : fnEnd r41 hp (V (F tab) r41_T ⟨[a0,.dead,.dead,.dead,.dead,.dead,.dead,.dead,.dead,.dead,.dead,.dead,.dead,.dead,.dead,.dead,.dead,.dead,.dead,.dead,.dead,.dead,.dead,.dead,.dead,.dead,.dead,.dead,.dead,.dead,.dead,.dead,.dead,.dead,.dead],[]⟩) = some out) : F tab 41 [a0] hp = some out := F_code t41 (by rw [hh]; rfl) h
theorem t59 : tab 59 = some (.code r59) := rfl
theorem f59 {a0 a1 a2 : PV} {hp : List Ent} {out : Out} (hh : PV.hfrees [a0,a1,a2] = true) (h : fnEnd r59 hp (V (F tab) r59_T ⟨[a0,a1,a2,.dead,.dead,.dead,.dead,.dead,.dead,.dead,.dead,.dead,.dead,.dead,.dead,.dead,.dead,.dead,.dead,.dead,.dead,.dead,.dead,.dead],[]⟩) = some out) : F tab 59 [a0,a1,a2] hp = some out := F_code t59 (by rw [hh]; rfl) h
theorem t82 : tab 82 = some (.code r82) := rfl
theorem f82 {a0 a1 : PV} {hp : List Ent} {out : Out} (hh : PV.hfrees [a0,a1] = true) (h : fnEnd r82 hp (V (F tab) r82_T ⟨[a0,a1,.dead,.dead,.dead,.dead,.dead,.dead,.dead,.dead,.dead,.dead,.dead,.dead,.dead,.dead,.dead,.dead,.dead,.dead,.dead,.dead,.dead],[]⟩) = some out) : F tab 82 [a0,a1] hp = some out := F_code t82 (by rw [hh]; rfl) h
theorem t75 : tab 75 = some (.code r75) := rfl
theorem f75 {a0 : PV} {hp : List Ent} {out : Out} (hh : PV.hfrees [a0] = true) (h : fnEnd r75 hp (V (F tab) r75_T ⟨[a0,.dead,.dead,.dead,.dead,.dead,.dead,.dead,.dead,.dead,.dead,.dead,.dead,.dead,.dead,.dead,.dead,.dead,.dead,.dead,.dead,.dead,.dead,.dead,.dead,.dead,.dead,.dead,.dead,.dead,.dead,.dead,.dead,.dead,.dead,.dead,.dead,.dead,.dead,.dead,.dead,.dead,.dead,.dead,.dead,.dead,.dead,.dead,.dead,.dead,.dead,.dead,.dead,.dead,.dead,.dead,.dead,.dead,.dead,.dead,.dead,.dead,.dead,.dead,.dead,.dead,.dead,.dead,.dead,.dead,.dead,.dead,.dead],[]⟩) = some out) : F tab 75 [a0] hp = some out := F_code t75 (by rw [hh]; rfl) h
theorem t99 : tab 99 = some (.code r99) := rfl
theorem f99 {a0 a1 : PV} {hp : List Ent} {out : Out} (hh : PV.hfrees [a0,a1] = true) (h : fnEnd r99 hp (V (F tab) r99_T ⟨[a0,a1,.dead,.dead,.dead,.dead,.dead,.dead,.dead,.dead,.dead,.dead,.dead,.dead,.dead,.dead,.dead,.dead],[]⟩) = some out) : F tab 99 [a0,a1] hp = some out := F_code t99 (by rw [hh]; rfl) h
theorem t89 : tab 89 = some (.code r89) := rfl
theorem f89 {a0 a1 : PV} {hp : List Ent} {out : Out} (hh : PV.hfrees [a0,a1] = true) (h : fnEnd r89 hp (V (F tab) r89_T ⟨[a0,a1,.dead,.dead,.dead,.dead,.dead,.dead,.dead,.dead,.dead,.dead,.dead],[]⟩) = some out) : F tab 89 [a0,a1] hp = some out := F_code t89 (by rw [hh]; rfl) h
theorem t83 : tab 83 = some (.code r83) := rfl
theorem f83 {a0 a1 : PV} {hp : List Ent} {out : Out} (hh : PV.hfrees [a0,a1] = true) (h : fnEnd r83 hp (V (F tab) r83_T ⟨[a0,a1,.dead,.dead,.dead,.dead,.dead,.dead],[]⟩) = some out) : F tab 83 [a0,a1] hp = some out := F_code t83 (by rw [hh]; rfl) h
theorem t90 : tab 90 = some (.code r90) := rfl
theorem f90 {a0 : PV} {hp : List Ent} {out : Out} (hh : PV.hfrees [a0] = true) (h : fnEnd r90 hp (V (F tab) r90_T ⟨[a0,.dead,.dead,.dead,.dead,.dead,.dead,.dead,.dead,.dead,.dead,.dead,.dead,.dead,.dead,.dead,.dead,.dead,.dead,.dead,.dead,.dead,.dead,.dead,.dead,.dead,.dead,.dead,.dead],[]⟩) = some out) : F tab 90 [a0] hp = some out := F_code t90 (by rw [hh]; rfl) h
theorem t91 : tab 91 = some (.code r91) := rfl
theorem f91 {a0 : PV} {hp : List Ent} {out : Out} (hh : PV.hfrees [a0] = true) (h : fnEnd r91 hp (V (F tab) r91_T ⟨[a0,.dead,.dead,.dead,.dead,.dead,.dead,.dead,.dead,.dead,.dead,.dead,.dead,.dead,.dead,.dead,.dead,.dead,.dead,.dead,.dead,.dead,.dead,.dead,.dead,.dead,.dead,.dead,.dead,.dead,.dead,.dead,.dead,.dead,.dead,.dead,.dead,.dead,.dead,.dead,.dead,.dead,.dead,.dead,.dead,.dead,.dead,.dead,.dead,.dead,.dead,.dead,.dead,.dead,.dead,.dead,.dead,.dead,.dead,.dead,.dead,.dead,.dead,.dead],[]⟩) = some out) : F tab 91 [a0] hp = some out := F_code t91 (by rw [hh]; rfl) h
theorem t84 : tab 84 = some (.code r84) := rfl
theorem f84 {a0 : PV} {hp : List Ent} {out : Out} (hh : PV.hfrees [a0] = true) (h : fnEnd r84 hp (V (F tab) r84_T ⟨[a0,.dead,.dead,.dead,.dead,.dead,.dead,.dead,.dead,.dead,.dead,.dead,.dead,.dead,.dead,.dead,.dead,.dead,.dead,.dead,.dead,.dead,.dead,.dead,.dead,.dead,.dead,.dead,.dead,.dead,.dead,.dead,.dead,.dead,.dead,.dead,.dead,.dead,.dead,.dead,.dead,.dead,.dead,.dead,.dead,.dead,.dead,.dead,.dead,.dead,.dead,.dead,.dead,.dead,.dead,.dead,.dead],[]⟩) = some out) : F tab 84 [a0] hp = some out := F_code t84 (by rw [hh]; rfl) h
theorem t100 : tab 100 = some (.code r100) := rfl
theorem f100 {a0 a1 : PV} {hp : List Ent} {out : Out} (hh : PV.hfrees [a0,a1] = true) (h : fnEnd r100 hp (V (F tab) r100_T ⟨[a0,a1,.dead,.dead,.dead,.dead,.dead,.dead,.dead,.dead,.dead,.dead,.dead,.dead,.dead,.dead,.dead],[]⟩) = some out) : F tab 100 [a0,a1] hp = some out := F_code t100 (by rw [hh]; rfl) h
theorem t92 : tab 92 = some (.code r92) := rfl
theorem f92 {a0 a1 : PV} {hp : List Ent} {out : Out} (hh : PV.hfrees [a0,a1] = true) (h : fnEnd r92 hp (V (F tab) r92_T ⟨[a0,a1,.dead,.dead,.dead,.dead,.dead,.dead,.dead,.dead,.dead,.dead,.dead,.dead,.dead,.dead,.dead,.dead,.dead,.dead,.dead,.dead,.dead,.dead,.dead,.dead,.dead,.dead,.dead,.dead,.dead,.dead,.dead,.dead,.dead,.dead,.dead],[]⟩) = some out) : F tab 92 [a0,a1] hp = some out := F_code t92 (by rw [hh]; rfl) h
theorem t94 : tab 94 = some (.code r94) := rfl
theorem f94 {a0 a1 : PV} {hp : List Ent} {out : Out} (hh : PV.hfrees [a0,a1] = true) (h : fnEnd r94 hp (V (F tab) r94_T ⟨[a0,a1,.dead,.dead,.dead,.dead,.dead,.dead,.dead,.dead,.dead,.dead,.dead,.dead,.dead,.dead,.dead,.dead,.dead,.dead,.dead,.dead,.dead,.dead,.dead,.dead,.dead,.dead,.dead,.dead,.dead,.dead,.dead],[]⟩) = some out) : F tab 94 [a0,a1] hp = some out := F_code t94 (by rw [hh]; rfl) h
theorem t85 : tab 85 = some (.code r85) := rfl
theorem f85 {a0 a1 : PV} {hp : List Ent} {out : Out} (hh : PV.hfrees [a0,a1] = true) (h : fnEnd r85 hp (V (F tab) r85_T ⟨[a0,a1,.dead,.dead,.dead,.dead,.dead,.dead,.dead,.dead,.dead,.dead,.dead,.dead,.dead,.dead,.dead,.dead,.dead,.dead,.dead,.dead,.dead,.dead,.dead,.dead,.dead,.dead,.dead,.dead,.dead,.dead,.dead,.dead,.dead,.dead,.dead,.dead,.dead,.dead,.dead,.dead,.dead,.dead,.dead,.dead,.dead,.dead,.dead,.dead,.dead,.dead,.dead,.dead,.dead,.dead,.dead,.dead,.dead,.dead,.dead,.dead,.dead,.dead,.dead,.dead,.dead,.dead,.dead,.dead,.dead,.dead],[]⟩) = some out) : F tab 85 [a0,a1] hp = some out := F_code t85 (by rw [hh]; rfl) h
theorem t76 : tab 76 = some (.code r76) := rfl
theorem f76 {a0 : PV} {hp : List Ent} {out : Out} (hh : PV.hfrees [a0] = true) (h : fnEnd r76 hp (V (F tab) r76_T ⟨[a0,.dead,.dead,.dead,.dead,.dead,.dead,.dead,.dead,.dead,.dead,.dead,.dead,.dead,.dead,.dead,.dead,.dead,.dead,.dead,.dead,.dead,.dead,.dead,.dead,.dead,.dead,.dead,.dead,.dead,.dead,.dead,.dead,.dead,.dead,.dead,.dead,.dead,.dead,.dead,.dead,.dead,.dead,.dead,.dead],[]⟩) = some out) : F tab 76 [a0] hp = some out := F_code t76 (by rw [hh]; rfl) h
theorem t62 : tab 62 = some (.code r62) := rfl
theorem f62 {a0 : PV} {hp : List Ent} {out : Out} (hh : PV.hfrees [a0] = true) (h : fnEnd r62 hp (V (F tab) r62_T ⟨[a0,.dead,.dead,.dead,.dead,.dead,.dead,.dead,.dead,.dead,.dead,.dead,.dead,.dead,.dead,.dead,.dead,.dead,.dead,.dead,.dead,.dead,.dead,.dead,.dead,.dead,.dead],[]⟩) = some out) : F tab 62 [a0] hp = some out := F_code t62 (by rw [hh]; rfl) h
theorem t64 : tab 64 = some (.code r64) := rfl
theorem f64 {a0 : PV} {hp : List Ent} {out : Out} (hh : PV.hfrees [a0] = true) (h : fnEnd r64 hp (V (F tab) r64_T ⟨[a0,.dead,.dead,.dead,.dead,.dead,.dead,.dead,.dead,.dead,.dead,.dead,.dead,.dead,.dead,.dead,.dead,.dead,.dead,.dead,.dead,.dead],[]⟩) = some out) : F tab 64 [a0] hp = some out := F_code t64 (by rw [hh]; rfl) h
theorem t42 : tab 42 = some (.code r42) := rfl
theorem f42 {a0 : PV} {hp : List Ent} {out : Out} (hh : PV.hfrees [a0] = true) (h : fnEnd r42 hp (V (F tab) r42_T ⟨[a0,.dead,.dead,.dead,.dead,.dead,.dead,.dead,.dead,.dead,.dead,.dead,.dead,.dead,.dead,.dead,.dead,.dead,.dead,.dead,.dead,.dead,.dead,.dead,.dead,.dead,.dead,.dead,.dead,.dead,.dead,.dead,.dead,.dead,.dead,.dead,.dead,.dead,.dead,.dead,.dead,.dead,.dead,.dead,.dead,.dead,.dead,.dead,.dead,.dead,.dead,.dead,.dead],[]⟩) = some out) : F tab 42 [a0] hp = some out := F_code t42 (by rw [hh]; rfl) h
theorem t33 : tab 33 = some (.code r33) := rfl
theorem f33 {a0 : PV} {hp : List Ent} {out : Out} (hh : PV.hfrees [a0] = true) (h : fnEnd r33 hp (V (F tab) r33_T ⟨[a0,.dead,.dead,.dead,.dead,.dead,.dead,.dead,.dead,.dead,.dead,.dead,.dead,.dead,.dead,.dead,.dead,.dead,.dead,.dead,.dead,.dead,.dead,.dead,.dead,.dead,.dead,.dead,.dead,.dead,.dead,.dead,.dead,.dead,.dead,.dead,.dead,.dead,.dead,.dead,.dead,.dead,.dead,.dead,.dead,.dead,.dead,.dead,.dead],[]⟩) = some out) : F tab 33 [a0] hp = some out := F_code t33 (by rw [hh]; rfl) h
theorem t43 : tab 43 = some (.code r43) := rfl
theorem f43 {a0 : PV} {hp : List Ent} {out : Out} (h : fnEnd r43 hp (V (F tab) r43_T ⟨[a0,.dead,.dead,.dead,.dead,.dead,.dead,.dead,.dead,.dead,.dead,.dead,.dead],hp⟩) = some out) : F tab 43 [a0] hp = some out := F_code t43 rfl h
theorem t45 : tab 45 = some (.code r45) := rfl
theorem f45 {a0 a1 a2 : PV} {hp : List Ent} {out : Out} (h : fnEnd r45 hp (V (F tab) r45_T ⟨[a0,a1,a2,.dead,.dead,.dead,.dead,.dead,.dead,.dead,.dead],hp⟩) = some out) : F tab 45 [a0,a1,a2] hp = some out := F_code t45 rfl h
theorem t65 : tab 65 = some (.code r65) := rfl
theorem f65 {a0 a1 : PV} {hp : List Ent} {out : Out} (h : fnEnd r65 hp (V (F tab) r65_T ⟨[a0,a1,.dead,.dead,.dead,.dead,.dead,.dead,.dead,.dead,.dead,.dead,.dead,.dead,.dead,.dead,.dead,.dead,.dead,.dead,.dead,.dead,.dead,.dead],hp⟩) = some out) : F tab 65 [a0,a1] hp = some out := F_code t65 rfl h
theorem t66 : tab 66 = some (.code r66) := rfl
theorem f66 {a0 : PV} {hp : List Ent} {out : Out} (h : fnEnd r66 hp (V (F tab) r66_T ⟨[a0,.dead,.dead,.dead,.dead,.dead,.dead,.dead,.dead,.dead,.dead,.dead,.dead,.dead,.dead,.dead,.dead],hp⟩) = some out) : F tab 66 [a0] hp = some out := F_code t66 rfl h
theorem t44 : tab 44 = some (.code r44) := rfl
theorem f44 {a0 a1 : PV} {hp : List Ent} {out : Out} (h : fnEnd r44 hp (V (F tab) r44_T ⟨[a0,a1,.dead,.dead,.dead,.dead,.dead,.dead,.dead,.dead,.dead,.dead,.dead],hp⟩) = some out) : F tab 44 [a0,a1] hp = some out := F_code t44 rfl h
theorem t70 : tab 70 = some (.code r70) := rfl
theorem f70 {a0 a1 a2 : PV} {hp : List Ent} {out : Out} (hh : PV.hfrees [a0,a1,a2] = true) (h : fnEnd r70 hp (V (F tab) r70_T ⟨[a0,a1,a2,.dead,.dead,.dead,.dead,.dead,.dead,.dead,.dead],[]⟩) = some out) : F tab 70 [a0,a1,a2] hp = some out := F_code t70 (by rw [hh]; rfl) h
theorem t111 : tab 111 = some (.code r111) := rfl
theorem f111 {a0 a1 : PV} {hp : List Ent} {out : Out} (h : fnEnd r111 hp (V (F tab) r111_T ⟨[a0,a1,.dead,.dead,.dead,.dead,.dead,.dead,.dead,.dead,.dead,.dead,.dead,.dead,.dead,.dead,.dead,.dead,.dead],hp⟩) = some out) : F tab 111 [a0,a1] hp = some out := F_code t111 rfl h
theorem t97 : tab 97 = some (.code r97) := rfl
theorem f97 {a0 a1 a2 : PV} {hp : List Ent} {out : Out} (h : fnEnd r97 hp (V (F tab) r97_T ⟨[a0,a1,a2,.dead,.dead,.dead,.dead,.dead,.dead,.dead,.dead,.dead,.dead,.dead,.dead,.dead,.dead,.dead,.dead,.dead,.dead,.dead,.dead,.dead,.dead,.dead,.dead,.dead,.dead,.dead,.dead,.dead,.dead],hp⟩) = some out) : F tab 97 [a0,a1,a2] hp = some out := F_code t97 rfl h
theorem t48 : tab 48 = some (.code r48) := rfl
theorem f48 {a0 a1 : PV} {hp : List Ent} {out : Out} (h : fnEnd r48 hp (V (F tab) r48_T ⟨[a0,a1,.dead,.dead,.dead,.dead,.dead,.dead,.dead,.dead,.dead,.dead],hp⟩) = some out) : F tab 48 [a0,a1] hp = some out := F_code t48 rfl h
theorem t68 : tab 68 = some (.code r68) := rfl
theorem f68 {a0 : PV} {hp : List Ent} {out : Out} (h : fnEnd r68 hp (V (F tab) r68_T ⟨[a0,.dead,.dead,.dead,.dead,.dead,.dead,.dead,.dead,.dead,.dead,.dead,.dead,.dead,.dead,.dead,.dead,.dead,.dead,.dead,.dead],hp⟩) = some out) : F tab 68 [a0] hp = some out := F_code t68 rfl h
theorem t136 : tab 136 = some (.code r136) := rfl
theorem f136 {a0 : PV} {hp : List Ent} {out : Out} (h : fnEnd r136 hp (V (F tab) r136_T ⟨[a0,.dead,.dead,.dead,.dead,.dead,.dead,.dead,.dead,.dead,.dead,.dead,.dead],hp⟩) = some out) : F tab 136 [a0] hp = some out := F_code t136 rfl h
theorem t132 : tab 132 = some (.code r132) := rfl
theorem f132 {a0 : PV} {hp : List Ent} {out : Out} (h : fnEnd r132 hp (V (F tab) r132_T ⟨[a0,.dead,.dead,.dead,.dead,.dead,.dead,.dead,.dead,.dead,.dead,.dead,.dead],hp⟩) = some out) : F tab 132 [a0] hp = some out := F_code t132 rfl h
theorem t137 : tab 137 = some (.code r137) := rfl
theorem f137 {a0 : PV} {hp : List Ent} {out : Out} (h : fnEnd r137 hp (V (F tab) r137_T ⟨[a0,.dead,.dead,.dead,.dead,.dead,.dead,.dead,.dead,.dead,.dead,.dead,.dead,.dead,.dead,.dead,.dead,.dead,.dead,.dead,.dead],hp⟩) = some out) : F tab 137 [a0] hp = some out := F_code t137 rfl h
theorem t138 : tab 138 = some (.code r138) := rfl
theorem f138 {a0 a1 : PV} {hp : List Ent} {out : Out} (h : fnEnd r138 hp (V (F tab) r138_T ⟨[a0,a1,.dead,.dead,.dead,.dead,.dead,.dead,.dead,.dead,.dead,.dead,.dead,.dead,.dead,.dead,.dead],hp⟩) = some out) : F tab 138 [a0,a1] hp = some out := F_code t138 rfl h
theorem t139 : tab 139 = some (.code r139) := rfl
theorem f139 {a0 : PV} {hp : List Ent} {out : Out} (h : fnEnd r139 hp (V (F tab) r139_T ⟨[a0,.dead,.dead,.dead,.dead,.dead,.dead,.dead,.dead,.dead,.dead,.dead,.dead,.dead,.dead,.dead,.dead,.dead,.dead,.dead,.dead,.dead],hp⟩) = some out) : F tab 139 [a0] hp = some out := F_code t139 rfl h
theorem t133 : tab 133 = some (.code r133) := rfl
theorem f133 {a0 a1 : PV} {hp : List Ent} {out : Out} (h : fnEnd r133 hp (V (F tab) r133_T ⟨[a0,a1,.dead,.dead,.dead,.dead,.dead,.dead,.dead,.dead,.dead,.dead,.dead,.dead,.dead,.dead,.dead,.dead,.dead,.dead,.dead,.dead,.dead,.dead,.dead,.dead,.dead,.dead,.dead,.dead,.dead,.dead,.dead,.dead,.dead,.dead,.dead,.dead,.dead,.dead,.dead,.dead,.dead,.dead,.dead,.dead,.dead,.dead,.dead,.dead,.dead,.dead,.dead,.dead,.dead,.dead,.dead,.dead,.dead,.dead,.dead,.dead,.dead,.dead,.dead,.dead,.dead,.dead,.dead,.dead,.dead,.dead,.dead,.dead,.dead,.dead,.dead,.dead,.dead,.dead,.dead],hp⟩) = some out) : F tab 133 [a0,a1] hp = some out := F_code t133 rfl h
theorem t141 : tab 141 = some (.code r141) := rfl
theorem f141 {a0 : PV} {hp : List Ent} {out : Out} (h : fnEnd r141 hp (V (F tab) r141_T ⟨[a0,.dead,.dead,.dead,.dead,.dead,.dead,.dead,.dead,.dead,.dead,.dead,.dead,.dead,.dead,.dead,.dead,.dead,.dead,.dead,.dead,.dead,.dead,.dead,.dead,.dead,.dead,.dead,.dead],hp⟩) = some out) : F tab 141 [a0] hp = some out := F_code t141 rfl h
theorem t134 : tab 134 = some (.code r134) := rfl
theorem f134 {a0 a1 : PV} {hp : List Ent} {out : Out} (h : fnEnd r134 hp (V (F tab) r134_T ⟨[a0,a1,.dead,.dead,.dead,.dead,.dead,.dead,.dead,.dead,.dead,.dead,.dead,.dead,.dead,.dead,.dead,.dead,.dead,.dead,.dead,.dead,.dead,.dead,.dead,.dead,.dead,.dead,.dead,.dead,.dead,.dead,.dead,.dead,.dead,.dead,.dead,.dead,.dead,.dead,.dead,.dead,.dead,.dead,.dead,.dead,.dead,.dead,.dead,.dead,.dead,.dead,.dead,.dead,.dead,.dead,.dead,.dead,.dead,.dead,.dead,.dead,.dead,.dead,.dead,.dead,.dead,.dead,.dead,.dead,.dead,.dead,.dead,.dead,.dead,.dead,.dead,.dead,.dead,.dead,.dead,.dead,.dead,.dead,.dead,.dead,.dead,.dead,.dead,.dead,.dead,.dead,.dead,.dead,.dead,.dead,.dead,.dead],hp⟩) = some out) : F tab 134 [a0,a1] hp = some out := F_code t134 rfl h
theorem t46 : tab 46 = some (.code r46) := rfl
theorem f46 {a0 : PV} {hp : List Ent} {out : Out} (h : fnEnd r46 hp (V (F tab) r46_T ⟨[a0,.dead,.dead,.dead,.dead,.dead,.dead,.dead,.dead,.dead,.dead,.dead,.dead,.dead,.dead,.dead,.dead,.dead,.dead,.dead],hp⟩) = some out) : F tab 46 [a0] hp = some out := F_code t46 rfl h
theorem t135 : tab 135 = some (.code r135) := rfl
theorem f135 {a0 : PV} {hp : List Ent} {out : Out} (h : fnEnd r135 hp (V (F tab) r135_T ⟨[a0,.dead,.dead,.dead,.dead,.dead,.dead,.dead,.dead,.dead,.dead,.dead,.dead,.dead,.dead,.dead,.dead,.dead,.dead,.dead,.dead,.dead,.dead,.dead,.dead,.dead,.dead,.dead,.dead,.dead,.dead,.dead,.dead,.dead,.dead,.dead,.dead,.dead,.dead,.dead,.dead,.dead,.dead,.dead],hp⟩) = some out) : F tab 135 [a0] hp = some out := F_code t135 rfl h
theorem t131 : tab 131 = some (.code r131) := rfl
theorem f131 {a0 : PV} {hp : List Ent} {out : Out} (h : fnEnd r131 hp (V (F tab) r131_T ⟨[a0,.dead,.dead,.dead,.dead,.dead,.dead,.dead,.dead,.dead,.dead,.dead,.dead,.dead,.dead,.dead,.dead,.dead,.dead,.dead,.dead,.dead,.dead,.dead,.dead,.dead,.dead,.dead,.dead,.dead,.dead,.dead,.dead,.dead,.dead,.dead,.dead,.dead,.dead,.dead,.dead,.dead,.dead,.dead,.dead,.dead,.dead,.dead,.dead,.dead,.dead,.dead,.dead,.dead,.dead,.dead],hp⟩) = some out) : F tab 131 [a0] hp = some out := F_code t131 rfl h
theorem t130 : tab 130 = some (.code r130) := rfl
theorem f130 {a0 : PV} {hp : List Ent} {out : Out} (h : fnEnd r130 hp (V (F tab) r130_T ⟨[a0,.dead,.dead,.dead,.dead,.dead,.dead,.dead,.dead,.dead,.dead,.dead,.dead,.dead,.dead,.dead,.dead,.dead,.dead,.dead,.dead,.dead,.dead,.dead,.dead,.dead,.dead,.dead,.dead,.dead,.dead,.dead,.dead,.dead,.dead,.dead,.dead,.dead,.dead,.dead],hp⟩) = some out) : F tab 130 [a0] hp = some out := F_code t130 rfl h
theorem t129 : tab 129 = some (.code r129) := rfl
theorem f129 {a0 : PV} {hp : List Ent} {out : Out} (h : fnEnd r129 hp (V (F tab) r129_T ⟨[a0,.dead,.dead,.dead,.dead,.dead,.dead,.dead,.dead,.dead,.dead,.dead,.dead,.dead,.dead,.dead,.dead,.dead,.dead,.dead,.dead,.dead,.dead,.dead,.dead,.dead,.dead],hp⟩) = some out) : F tab 129 [a0] hp = some out := F_code t129 rfl h
theorem t125 : tab 125 = some (.code r125) := rfl
theorem f125 {a0 : PV} {hp : List Ent} {out : Out} (h : fnEnd r125 hp (V (F tab) r125_T ⟨[a0,.dead,.dead,.dead,.dead,.dead,.dead,.dead],hp⟩) = some out) : F tab 125 [a0] hp = some out := F_code t125 rfl h
theorem t121 : tab 121 = some (.code r121) := rfl
theorem f121 {a0 : PV} {hp : List Ent} {out : Out} (h : fnEnd r121 hp (V (F tab) r121_T ⟨[a0,.dead,.dead,.dead,.dead,.dead,.dead,.dead],hp⟩) = some out) : F tab 121 [a0] hp = some out := F_code t121 rfl h
theorem t112 : tab 112 = some (.code r112) := rfl
theorem f112 {a0 : PV} {hp : List Ent} {out : Out} (h : fnEnd r112 hp (V (F tab) r112_T ⟨[a0,.dead,.dead,.dead,.dead,.dead,.dead,.dead,.dead,.dead,.dead,.dead,.dead,.dead,.dead,.dead,.dead,.dead,.dead,.dead,.dead,.dead,.dead,.dead,.dead,.dead,.dead,.dead,.dead,.dead,.dead],hp⟩) = some out) : F tab 112 [a0] hp = some out := F_code t112 rfl h
theorem t98 : tab 98 = some (.code r98) := rfl
theorem f98 {a0 : PV} {hp : List Ent} {out : Out} (h : fnEnd r98 hp (V (F tab) r98_T ⟨[a0,.dead,.dead,.dead,.dead,.dead,.dead,.dead],hp⟩) = some out) : F tab 98 [a0] hp = some out := F_code t98 rfl h
theorem t88 : tab 88 = some (.code r88) := rfl
theorem f88 {a0 : PV} {hp : List Ent} {out : Out} (h : fnEnd r88 hp (V (F tab) r88_T ⟨[a0,.dead,.dead,.dead,.dead,.dead,.dead,.dead],hp⟩) = some out) : F tab 88 [a0] hp = some out := F_code t88 rfl h
theorem t79 : tab 79 = some (.code r79) := rfl
theorem f79 {a0 : PV} {hp : List Ent} {out : Out} (h : fnEnd r79 hp (V (F tab) r79_T ⟨[a0,.dead,.dead,.dead,.dead,.dead,.dead,.dead,.dead,.dead,.dead,.dead,.dead,.dead,.dead,.dead],hp⟩) = some out) : F tab 79 [a0] hp = some out := F_code t79 rfl h
theorem t69 : tab 69 = some (.code r69) := rfl
theorem f69 {a0 : PV} {hp : List Ent} {out : Out} (h : fnEnd r69 hp (V (F tab) r69_T ⟨[a0,.dead,.dead,.dead,.dead,.dead,.dead,.dead,.dead,.dead,.dead,.dead,.dead,.dead,.dead,.dead],hp⟩) = some out) : F tab 69 [a0] hp = some out := F_code t69 rfl h
theorem t49 : tab 49 = some (.code r49) := rfl
theorem f49 {a0 : PV} {hp : List Ent} {out : Out} (h : fnEnd r49 hp (V (F tab) r49_T ⟨[a0,.dead,.dead,.dead,.dead,.dead,.dead,.dead,.dead,.dead,.dead,.dead,.dead,.dead,.dead,.dead],hp⟩) = some out) : F tab 49 [a0] hp = some out := F_code t49 rfl h
theorem t36 : tab 36 = some (.code r36) := rfl
theorem f36 {a0 : PV} {hp : List Ent} {out : Out} (h : fnEnd r36 hp (V (F tab) r36_T ⟨[a0,.dead,.dead,.dead,.dead,.dead,.dead,.dead,.dead,.dead,.dead,.dead,.dead,.dead,.dead,.dead,.dead,.dead,.dead,.dead],hp⟩) = some out) : F tab 36 [a0] hp = some out := F_code t36 rfl h
theorem t37 : tab 37 = some (.code r37) := rfl
theorem f37 {a0 : PV} {hp : List Ent} {out : Out} (h : fnEnd r37 hp (V (F tab) r37_T ⟨[a0,.dead,.dead,.dead,.dead,.dead,.dead,.dead,.dead,.dead,.dead,.dead,.dead,.dead,.dead,.dead],hp⟩) = some out) : F tab 37 [a0] hp = some out := F_code t37 rfl h
theorem t15 : tab 15 = some (.code r15) := rfl
theorem f15 {a0 : PV} {hp : List Ent} {out : Out} (hh : PV.hfrees [a0] = true) (h : fnEnd r15 hp (V (F tab) r15_T ⟨[a0,.dead,.dead,.dead,.dead,.dead,.dead,.dead,.dead,.dead,.dead,.dead,.dead,.dead,.dead,.dead,.dead,.dead],[]⟩) = some out) : F tab 15 [a0] hp = some out := F_code t15 (by rw [hh]; rfl) h
theorem t8 : tab 8 = some (.code r8) := rfl
theorem f8 {hp : List Ent} {out : Out} (hh : PV.hfrees [] = true) (h : fnEnd r8 hp (V (F tab) r8_T ⟨[.dead,.dead,.dead,.dead,.dead,.dead,.dead,.dead,.dead,.dead,.dead,.dead,.dead,.dead,.dead,.dead,.dead,.dead,.dead,.dead],[]⟩) = some out) : F tab 8 [] hp = some out := F_code t8 (by rw [hh]; rfl) h
theorem t3 : tab 3 = some (.code r3) := rfl
theorem f3 {a0 a1 a2 : PV} {hp : List Ent} {out : Out} (hh : PV.hfrees [a0,a1,a2] = true) (h : fnEnd r3 hp (V (F tab) r3_T ⟨[a0,a1,a2,.dead,.dead,.dead,.dead,.dead,.dead,.dead,.dead,.dead,.dead,.dead,.dead,.dead,.dead,.dead,.dead,.dead,.dead,.dead,.dead,.dead,.dead,.dead,.dead,.dead,.dead,.dead,.dead,.dead,.dead,.dead,.dead,.dead,.dead,.dead,.dead,.dead,.dead,.dead,.dead,.dead,.dead,.dead,.dead,.dead,.dead,.dead,.dead,.dead,.dead,.dead,.dead,.dead,.dead,.dead,.dead,.dead,.dead,.dead,.dead,.dead,.dead,.dead,.dead,.dead,.dead,.dead,.dead,.dead,.dead,.dead,.dead,.dead,.dead,.dead,.dead,.dead,.dead,.dead,.dead,.dead,.dead,.dead,.dead,.dead,.dead,.dead,.dead,.dead,.dead,.dead,.dead,.dead,.dead,.dead,.dead,.dead,.dead,.dead,.dead,.dead,.dead,.dead,.dead,.dead,.dead,.dead,.dead,.dead,.dead,.dead,.dead,.dead,.dead,.dead],[]⟩) = some out) : F tab 3 [a0,a1,a2] hp = some out := F_code t3 (by rw [hh]; rfl) h
end Go.Pe.T

namespace Go.Pe.T

def lowB (c : Int) : Bool := decide (c ≥ 97) && decide (c ≤ 122)
def upB (c : Int) : Bool := decide (c ≥ 65) && decide (c ≤ 90)
def digB (c : Int) : Bool := decide (c ≥ 48) && decide (c ≤ 57)
def letB (c : Int) : Bool := lowB c || (upB c || c == 95)

theorem letter_ok (c : Int) (hp : List Ent) : F tab 58 [.d (.int .u8 c)] hp = some (.ret (.d (.bool (letB c))) hp) := by
  refine f58 rfl ?_
  unfold letB lowB upB
  by_cases g1 : c ≥ 97 <;> by_cases g2 : c ≤ 122 <;> by_cases g3 : c ≥ 65 <;> by_cases g4 : c ≤ 90 <;>
    simp (disch := omega) only [go_sem, and_self, and_true, true_and, false_and, and_false, Nat.reduceAdd, Nat.reduceMul, Nat.reduceSub, Nat.reduceLeDiff, Nat.reduceLT, Nat.reduceGT, Nat.reduceEqDiff, Nat.reduceBEq, Int.reduceNeg, Int.reduceEq, Int.reduceLT, Int.reduceLE, Int.reduceBEq, Int.reduceToNat, Int.toNat_natCast, Int.natCast_zero, r58_T, r58, g1, g2, g3, g4, decide_true, decide_false, Bool.true_and, Bool.false_and, Bool.true_or, Bool.false_or, Bool.and_true, Bool.and_false]
theorem digit_ok (c : Int) (hp : List Ent) : F tab 61 [.d (.int .u8 c)] hp = some (.ret (.d (.bool (digB c))) hp) := by
  refine f61 rfl ?_
  unfold digB
  by_cases g1 : c ≥ 48 <;> by_cases g2 : c ≤ 57 <;>
    simp (disch := omega) only [go_sem, and_self, and_true, true_and, false_and, and_false, Nat.reduceAdd, Nat.reduceMul, Nat.reduceSub, Nat.reduceLeDiff, Nat.reduceLT, Nat.reduceGT, Nat.reduceEqDiff, Nat.reduceBEq, Int.reduceNeg, Int.reduceEq, Int.reduceLT, Int.reduceLE, Int.reduceBEq, Int.reduceToNat, Int.toNat_natCast, Int.natCast_zero, r61_T, r61, g1, g2, decide_true, decide_false, Bool.true_and, Bool.false_and]
def bs (s : ByteArray) : List UInt8 := s.data.toList
theorem bs_len (s : ByteArray) : (bs s).length = s.size := rfl
theorem bs_toList (s : ByteArray) : s.toList = bs s := ByteArray.toList_eq s
theorem bs_get {s : ByteArray} {i : Nat} (h : i < s.size) : s[i]? = some s[i] ∧ (bs s).drop i = s[i] :: (bs s).drop (i + 1) := by
  have e : s[i] = s.data.toList[i]'h := rfl
  refine ⟨getElem?_pos s i h, ?_⟩
  unfold bs
  rw [e]; exact List.drop_eq_getElem_cons h
theorem bs_end {s : ByteArray} {i : Nat} (h : s.size ≤ i) : (bs s).drop i = [] := List.drop_of_length_le h

def nmL : Nat → List UInt8 → Bool
  | _, [] => true
  | i, c :: r => (lowB c.toNat || (digB c.toNat && decide (i ≠ 0))) && nmL (i + 1) r
def nameB (s : ByteArray) : Bool := decide (s.size ≠ 0) && (decide (s.size ≤ 16) && nmL 0 (bs s))

def NmLoop (s : ByteArray) (i : Nat) : Prop :=
  V (F tab) r56_B0 (r56_S0 (.d (.str s)) (.d (iv s.size)) (.d (iv i)) []) = if nmL i ((bs s).drop i) then some (.norm, r56_E0 []) else some (.ret, r56_R (.d (.bool false)) [])
theorem nm_end (s : ByteArray) (i : Nat) (hi : s.size ≤ i) : NmLoop s i := by
  have h1 : ((i : Int) < (s.size : Int)) = False := eq_false (by omega)
  unfold NmLoop
  rw [r56_B0_eq, bs_end hi]
  simp (disch := omega) only [go_sem, and_self, and_true, true_and, false_and, and_false, Nat.reduceAdd, Nat.reduceMul, Nat.reduceSub, Nat.reduceLeDiff, Nat.reduceLT, Nat.reduceGT, Nat.reduceEqDiff, Nat.reduceBEq, Int.reduceNeg, Int.reduceEq, Int.reduceLT, Int.reduceLE, Int.reduceBEq, Int.reduceToNat, Int.toNat_natCast, Int.natCast_zero, r56_C0, h1, nmL]
theorem nm_step (s : ByteArray) (hs : s.size ≤ maxLen) (i : Nat) (hi : i < s.size) (ih : NmLoop s (i + 1)) : NmLoop s i := by
  have hmx : maxLen = 9223372036854775807 := by decide
  have h1 : ((i : Int) < (s.size : Int)) = True := eq_true (by omega)
  have hi0 : (0 ≤ (i : Int)) = True := eq_true (by omega)
  obtain ⟨va, vd⟩ := bs_get hi
  unfold NmLoop at ih ⊢
  rw [Int.natCast_add, Int.natCast_one] at ih
  rw [r56_B0_eq, vd]
  simp only [nmL, lowB, digB]
  have e0 : ((i : Int) == 0) = !decide (i ≠ 0) := by by_cases h : i = 0 <;> simp [h]
  by_cases g1 : ((s[i].toNat : Nat) : Int) ≥ 97 <;> by_cases g2 : ((s[i].toNat : Nat) : Int) ≤ 122 <;> by_cases g3 : ((s[i].toNat : Nat) : Int) ≥ 48 <;> by_cases g4 : ((s[i].toNat : Nat) : Int) ≤ 57 <;>
    first
    | (exfalso; omega)
    | (rcases Bool.eq_false_or_eq_true (decide (i ≠ 0)) with g5 | g5 <;>
        simp (disch := omega) only [go_sem, and_self, and_true, true_and, false_and, and_false, Nat.reduceAdd, Nat.reduceMul, Nat.reduceSub, Nat.reduceLeDiff, Nat.reduceLT, Nat.reduceGT, Nat.reduceEqDiff, Nat.reduceBEq, Int.reduceNeg, Int.reduceEq, Int.reduceLT, Int.reduceLE, Int.reduceBEq, Int.reduceToNat, Int.toNat_natCast, Int.natCast_zero, r56_C0, h1, hi0, va, e0, w64, g1, g2, g3, g4, g5, decide_true, decide_false, Bool.true_and, Bool.false_and, Bool.true_or, Bool.false_or, Bool.and_true, Bool.and_false, Bool.not_true, Bool.not_false] <;> exact ih)
theorem nm_loop (s : ByteArray) (hs : s.size ≤ maxLen) : ∀ (j i : Nat), i + j = s.size → NmLoop s i
  | 0, i, hi => nm_end s i (by omega)
  | j + 1, i, hi => nm_step s hs i (by omega) (nm_loop s hs j (i + 1) (by omega))
theorem isE (s : ByteArray) : (s.toList == (⟨#[]⟩ : ByteArray).toList) = !decide (s.size ≠ 0) := by
  have e0 : bs (⟨#[]⟩ : ByteArray) = [] := rfl
  rw [bs_toList, bs_toList, e0]
  have h := bs_len s
  cases hb : bs s with
  | nil => rw [hb] at h; simp only [List.length_nil] at h; simp [← h]
  | cons a l => rw [hb] at h; simp only [List.length_cons] at h; simp [← h]
theorem name_ok (s : ByteArray) (hs : s.size ≤ maxLen) (hp : List Ent) : F tab 56 [.d (.str s)] hp = some (.ret (.d (.bool (nameB s))) hp) := by
  have hL := nm_loop s hs s.size 0 (by omega)
  unfold NmLoop at hL
  rw [List.drop_zero] at hL
  have e := isE s
  have e2 : decide ((s.size : Int) > 16) = !decide (s.size ≤ 16) := by by_cases h : s.size ≤ 16 <;> simp [h] <;> omega
  refine f56 rfl ?_
  unfold nameB
  rcases Bool.eq_false_or_eq_true (decide (s.size ≠ 0)) with g1 | g1
  · rcases Bool.eq_false_or_eq_true (decide (s.size ≤ 16)) with g2 | g2
    · simp (disch := omega) only [go_sem, and_self, and_true, true_and, false_and, and_false, Nat.reduceAdd, Nat.reduceMul, Nat.reduceSub, Nat.reduceLeDiff, Nat.reduceLT, Nat.reduceGT, Nat.reduceEqDiff, Nat.reduceBEq, Int.reduceNeg, Int.reduceEq, Int.reduceLT, Int.reduceLE, Int.reduceBEq, Int.reduceToNat, Int.toNat_natCast, Int.natCast_zero, r56_T, r56, strD_eql, e, e2, g1, g2, Bool.not_true, Bool.not_false, Bool.true_and]
      rw [r56_B0_n]
      erw [hL]
      rcases Bool.eq_false_or_eq_true (nmL 0 (bs s)) with g | g <;> rw [g] <;> simp only [go_sem, and_self, and_true, true_and, false_and, and_false, Nat.reduceAdd, Nat.reduceMul, Nat.reduceSub, Nat.reduceLeDiff, Nat.reduceLT, Nat.reduceGT, Nat.reduceEqDiff, Nat.reduceBEq, Int.reduceNeg, Int.reduceEq, Int.reduceLT, Int.reduceLE, Int.reduceBEq, Int.reduceToNat, Int.toNat_natCast, Int.natCast_zero]
    · simp (disch := omega) only [go_sem, and_self, and_true, true_and, false_and, and_false, Nat.reduceAdd, Nat.reduceMul, Nat.reduceSub, Nat.reduceLeDiff, Nat.reduceLT, Nat.reduceGT, Nat.reduceEqDiff, Nat.reduceBEq, Int.reduceNeg, Int.reduceEq, Int.reduceLT, Int.reduceLE, Int.reduceBEq, Int.reduceToNat, Int.toNat_natCast, Int.natCast_zero, r56_T, r56, strD_eql, e, e2, g1, g2, Bool.not_true, Bool.not_false, Bool.true_and, Bool.false_and]
  · simp (disch := omega) only [go_sem, and_self, and_true, true_and, false_and, and_false, Nat.reduceAdd, Nat.reduceMul, Nat.reduceSub, Nat.reduceLeDiff, Nat.reduceLT, Nat.reduceGT, Nat.reduceEqDiff, Nat.reduceBEq, Int.reduceNeg, Int.reduceEq, Int.reduceLT, Int.reduceLE, Int.reduceBEq, Int.reduceToNat, Int.toNat_natCast, Int.natCast_zero, r56_T, r56, strD_eql, e, e2, g1, Bool.not_true, Bool.not_false, Bool.true_and, Bool.false_and]
end Go.Pe.T

namespace Go.Pe.T

def nb (l : List UInt8) (i : Nat) : Int := ((l.getD i 0).toNat : Int)
def contB (c : Int) : Bool := !decide (c < 128) && !decide (c > 191)
def conts : List UInt8 → Nat → Bool
  | _, 0 => true
  | [], _ + 1 => false
  | c :: r, k + 1 => contB c.toNat && conts r k
def tailL (l : List UInt8) (n : Nat) (lo hi : Int) : Bool := !decide (l.length ≤ n) && ((!decide (nb l 1 < lo) && !decide (nb l 1 > hi)) && conts (l.drop 2) (n - 1))
def sizeL (l : List UInt8) : Nat :=
  if nb l 0 < 128 then 1
  else if (decide (nb l 0 ≥ 194) && decide (nb l 0 ≤ 223)) && tailL l 1 128 191 then 2
  else if (nb l 0 == 224 && tailL l 2 160 191) || (((decide (nb l 0 ≥ 225) && decide (nb l 0 ≤ 239)) && nb l 0 != 237) && tailL l 2 128 191 || nb l 0 == 237 && tailL l 2 128 159) then 3
  else if (nb l 0 == 240 && tailL l 3 144 191) || ((decide (nb l 0 ≥ 241) && decide (nb l 0 ≤ 243)) && tailL l 3 128 191 || nb l 0 == 244 && tailL l 3 128 143) then 4
  else 0
def validF : Nat → List UInt8 → Bool
  | _, [] => true
  | 0, _ :: _ => false
  | k + 1, c :: r => if sizeL (c :: r) = 0 then false else validF k ((c :: r).drop (sizeL (c :: r)))
def validB (s : ByteArray) : Bool := validF s.size (bs s)

theorem tail_len {l : List UInt8} {n : Nat} {lo hi : Int} (h : tailL l n lo hi = true) : n < l.length := by
  simp only [tailL, Bool.and_eq_true, Bool.not_eq_true', decide_eq_false_iff_not] at h
  omega
theorem sizeL_le (l : List UInt8) (hl : l ≠ []) : sizeL l ≤ l.length := by
  have h0 : 0 < l.length := List.length_pos_iff.2 hl
  unfold sizeL
  split
  · omega
  · split
    · rename_i h; simp only [Bool.and_eq_true] at h; have := tail_len h.2; omega
    · split
      · rename_i h; simp only [Bool.or_eq_true, Bool.and_eq_true] at h
        rcases h with h | h | h <;> (have := tail_len h.2; omega)
      · split
        · rename_i h; simp only [Bool.or_eq_true, Bool.and_eq_true] at h
          rcases h with h | h | h <;> (have := tail_len h.2; omega)
        · omega

theorem bs_nb {s : ByteArray} {i : Nat} (h : i < s.size) : ((s[i].toNat : Nat) : Int) = nb (bs s) i := by
  have e : s[i] = s.data.toList[i]'h := rfl
  simp only [nb, bs, List.getD_eq_getElem?_getD, List.getElem?_eq_getElem (show i < s.data.toList.length from h), Option.getD_some, e]

def TlLoop (s : ByteArray) (n i : Nat) : Prop :=
  V (F tab) r80_B0 (r80_S0 (.d (.str s)) (.d (iv n)) (.d (iv i)) []) = if conts ((bs s).drop i) (n + 1 - i) then some (.norm, r80_E0 []) else some (.ret, r80_R (.d (.bool false)) [])
theorem tl_end (s : ByteArray) (n i : Nat) (hi : n < i) : TlLoop s n i := by
  have h1 : ((i : Int) ≤ (n : Int)) = False := eq_false (by omega)
  unfold TlLoop
  rw [r80_B0_eq, show n + 1 - i = 0 by omega]
  simp (disch := omega) only [go_sem, and_self, and_true, true_and, false_and, and_false, Nat.reduceAdd, Nat.reduceMul, Nat.reduceSub, Nat.reduceLeDiff, Nat.reduceLT, Nat.reduceGT, Nat.reduceEqDiff, Nat.reduceBEq, Int.reduceNeg, Int.reduceEq, Int.reduceLT, Int.reduceLE, Int.reduceBEq, Int.reduceToNat, Int.toNat_natCast, Int.natCast_zero, r80_C0, h1, conts]
theorem tl_step (s : ByteArray) (n i : Nat) (hn : n < s.size) (h4 : n ≤ 4) (hi : i ≤ n) (ih : TlLoop s n (i + 1)) : TlLoop s n i := by
  have h1 : ((i : Int) ≤ (n : Int)) = True := eq_true (by omega)
  have hi0 : (0 ≤ (i : Int)) = True := eq_true (by omega)
  obtain ⟨va, vd⟩ := bs_get (show i < s.size by omega)
  unfold TlLoop at ih ⊢
  rw [Int.natCast_add, Int.natCast_one] at ih
  rw [r80_B0_eq, vd, show n + 1 - i = (n - i) + 1 by omega]
  rw [show n + 1 - (i + 1) = n - i by omega] at ih
  simp only [conts, contB]
  by_cases g1 : ((s[i].toNat : Nat) : Int) < 128
  · simp (disch := omega) only [go_sem, and_self, and_true, true_and, false_and, and_false, Nat.reduceAdd, Nat.reduceMul, Nat.reduceSub, Nat.reduceLeDiff, Nat.reduceLT, Nat.reduceGT, Nat.reduceEqDiff, Nat.reduceBEq, Int.reduceNeg, Int.reduceEq, Int.reduceLT, Int.reduceLE, Int.reduceBEq, Int.reduceToNat, Int.toNat_natCast, Int.natCast_zero, r80_C0, h1, hi0, va, w64, g1, decide_true, Bool.not_true, Bool.false_and]
  · by_cases g2 : ((s[i].toNat : Nat) : Int) > 191
    · simp (disch := omega) only [go_sem, and_self, and_true, true_and, false_and, and_false, Nat.reduceAdd, Nat.reduceMul, Nat.reduceSub, Nat.reduceLeDiff, Nat.reduceLT, Nat.reduceGT, Nat.reduceEqDiff, Nat.reduceBEq, Int.reduceNeg, Int.reduceEq, Int.reduceLT, Int.reduceLE, Int.reduceBEq, Int.reduceToNat, Int.toNat_natCast, Int.natCast_zero, r80_C0, h1, hi0, va, w64, g1, g2, decide_true, decide_false, Bool.not_true, Bool.not_false, Bool.false_and, Bool.true_and]
    · simp (disch := omega) only [go_sem, and_self, and_true, true_and, false_and, and_false, Nat.reduceAdd, Nat.reduceMul, Nat.reduceSub, Nat.reduceLeDiff, Nat.reduceLT, Nat.reduceGT, Nat.reduceEqDiff, Nat.reduceBEq, Int.reduceNeg, Int.reduceEq, Int.reduceLT, Int.reduceLE, Int.reduceBEq, Int.reduceToNat, Int.toNat_natCast, Int.natCast_zero, r80_C0, h1, hi0, va, w64, g1, g2, decide_true, decide_false, Bool.not_true, Bool.not_false, Bool.false_and, Bool.true_and]
      exact ih
theorem tl_loop (s : ByteArray) (n : Nat) (hn : n < s.size) (h4 : n ≤ 4) : ∀ (j i : Nat), i + j = n + 1 → TlLoop s n i
  | 0, i, hi => tl_end s n i (by omega)
  | j + 1, i, hi => tl_step s n i hn h4 (by omega) (tl_loop s n hn h4 j (i + 1) (by omega))
theorem tail_ok (s : ByteArray) (n : Nat) (lo hi : Int) (h1 : 1 ≤ n) (h4 : n ≤ 4) (hp : List Ent) : F tab 80 [.d (.str s), .d (iv n), .d (.int .u8 lo), .d (.int .u8 hi)] hp = some (.ret (.d (.bool (tailL (bs s) n lo hi))) hp) := by
  refine f80 rfl ?_
  unfold tailL
  rw [bs_len]
  by_cases g : s.size ≤ n
  · have g' : ((s.size : Int) ≤ (n : Int)) = True := eq_true (by omega)
    simp (disch := omega) only [go_sem, and_self, and_true, true_and, false_and, and_false, Nat.reduceAdd, Nat.reduceMul, Nat.reduceSub, Nat.reduceLeDiff, Nat.reduceLT, Nat.reduceGT, Nat.reduceEqDiff, Nat.reduceBEq, Int.reduceNeg, Int.reduceEq, Int.reduceLT, Int.reduceLE, Int.reduceBEq, Int.reduceToNat, Int.toNat_natCast, Int.natCast_zero, r80_T, r80, g, g', decide_true, Bool.not_true, Bool.false_and]
  · have g' : ((s.size : Int) ≤ (n : Int)) = False := eq_false (by omega)
    have hL := tl_loop s n (by omega) h4 (n - 1) 2 (by omega)
    unfold TlLoop at hL
    rw [show n + 1 - 2 = n - 1 by omega] at hL
    have hlt : 1 < s.size := by omega
    obtain ⟨va, vd⟩ := bs_get hlt
    have e := bs_nb hlt
    rw [← e]
    by_cases g1 : ((s[1].toNat : Nat) : Int) < lo
    · simp (disch := omega) only [go_sem, and_self, and_true, true_and, false_and, and_false, Nat.reduceAdd, Nat.reduceMul, Nat.reduceSub, Nat.reduceLeDiff, Nat.reduceLT, Nat.reduceGT, Nat.reduceEqDiff, Nat.reduceBEq, Int.reduceNeg, Int.reduceEq, Int.reduceLT, Int.reduceLE, Int.reduceBEq, Int.reduceToNat, Int.toNat_natCast, Int.natCast_zero, r80_T, r80, g, g', va, g1, decide_true, decide_false, Bool.not_true, Bool.not_false, Bool.false_and, Bool.true_and]
    · by_cases g2 : ((s[1].toNat : Nat) : Int) > hi
      · simp (disch := omega) only [go_sem, and_self, and_true, true_and, false_and, and_false, Nat.reduceAdd, Nat.reduceMul, Nat.reduceSub, Nat.reduceLeDiff, Nat.reduceLT, Nat.reduceGT, Nat.reduceEqDiff, Nat.reduceBEq, Int.reduceNeg, Int.reduceEq, Int.reduceLT, Int.reduceLE, Int.reduceBEq, Int.reduceToNat, Int.toNat_natCast, Int.natCast_zero, r80_T, r80, g, g', va, g1, g2, decide_true, decide_false, Bool.not_true, Bool.not_false, Bool.false_and, Bool.true_and]
      · simp (disch := omega) only [go_sem, and_self, and_true, true_and, false_and, and_false, Nat.reduceAdd, Nat.reduceMul, Nat.reduceSub, Nat.reduceLeDiff, Nat.reduceLT, Nat.reduceGT, Nat.reduceEqDiff, Nat.reduceBEq, Int.reduceNeg, Int.reduceEq, Int.reduceLT, Int.reduceLE, Int.reduceBEq, Int.reduceToNat, Int.toNat_natCast, Int.natCast_zero, r80_T, r80, g, g', va, g1, g2, decide_true, decide_false, Bool.not_true, Bool.not_false, Bool.false_and, Bool.true_and]
        rw [r80_B0_n]
        erw [hL]
        rcases Bool.eq_false_or_eq_true (conts ((bs s).drop 2) (n - 1)) with g3 | g3 <;> rw [g3] <;> simp only [go_sem, and_self, and_true, true_and, false_and, and_false, Nat.reduceAdd, Nat.reduceMul, Nat.reduceSub, Nat.reduceLeDiff, Nat.reduceLT, Nat.reduceGT, Nat.reduceEqDiff, Nat.reduceBEq, Int.reduceNeg, Int.reduceEq, Int.reduceLT, Int.reduceLE, Int.reduceBEq, Int.reduceToNat, Int.toNat_natCast, Int.natCast_zero]

theorem size_0 (s : ByteArray) (c : Int) (h0 : 0 < s.size) (hc : ((s[0].toNat : Nat) : Int) = c) (g1 : c ≥ 0) (g2 : c ≤ 127) (hp : List Ent) : F tab 72 [.d (.str s)] hp = some (.ret (.d (iv (sizeL (bs s)))) hp) := by
  obtain ⟨va, vd⟩ := bs_get h0
  have e := bs_nb h0
  rw [hc] at e
  have xa : (c < 128) = True := eq_true (by omega)
  have xb : (c ≥ 194) = False := eq_false (by omega)
  have xd : (c ≤ 223) = True := eq_true (by omega)
  have xe : (c == 224) = false := by simp <;> omega
  have xf : (c ≥ 225) = False := eq_false (by omega)
  have xh : (c ≤ 239) = True := eq_true (by omega)
  have xi : (c != 237) = true := by simp <;> omega
  have xj : (c == 237) = false := by simp <;> omega
  have xk : (c == 240) = false := by simp <;> omega
  have xl : (c ≥ 241) = False := eq_false (by omega)
  have xm : (c ≤ 243) = True := eq_true (by omega)
  have xn : (c == 244) = false := by simp <;> omega
  refine f72 rfl ?_
  unfold sizeL
  rw [← e]
  simp (disch := omega) only [go_sem, and_self, and_true, true_and, false_and, and_false, Nat.reduceAdd, Nat.reduceMul, Nat.reduceSub, Nat.reduceLeDiff, Nat.reduceLT, Nat.reduceGT, Nat.reduceEqDiff, Nat.reduceBEq, Int.reduceNeg, Int.reduceEq, Int.reduceLT, Int.reduceLE, Int.reduceBEq, Int.reduceToNat, Int.toNat_natCast, Int.natCast_zero, r72_T, r72, va, hc, xa, xb, xd, xe, xf, xh, xi, xj, xk, xl, xm, xn, decide_true, decide_false, Bool.true_and, Bool.false_and, Bool.true_or, Bool.false_or, Bool.and_false, Bool.and_true, Int.natCast_one]
  try rfl

theorem size_1 (s : ByteArray) (c : Int) (h0 : 0 < s.size) (hc : ((s[0].toNat : Nat) : Int) = c) (g1 : c ≥ 128) (g2 : c ≤ 193) (hp : List Ent) : F tab 72 [.d (.str s)] hp = some (.ret (.d (iv (sizeL (bs s)))) hp) := by
  obtain ⟨va, vd⟩ := bs_get h0
  have e := bs_nb h0
  rw [hc] at e
  have xa : (c < 128) = False := eq_false (by omega)
  have xb : (c ≥ 194) = False := eq_false (by omega)
  have xd : (c ≤ 223) = True := eq_true (by omega)
  have xe : (c == 224) = false := by simp <;> omega
  have xf : (c ≥ 225) = False := eq_false (by omega)
  have xh : (c ≤ 239) = True := eq_true (by omega)
  have xi : (c != 237) = true := by simp <;> omega
  have xj : (c == 237) = false := by simp <;> omega
  have xk : (c == 240) = false := by simp <;> omega
  have xl : (c ≥ 241) = False := eq_false (by omega)
  have xm : (c ≤ 243) = True := eq_true (by omega)
  have xn : (c == 244) = false := by simp <;> omega
  refine f72 rfl ?_
  unfold sizeL
  rw [← e]
  simp (disch := omega) only [go_sem, and_self, and_true, true_and, false_and, and_false, Nat.reduceAdd, Nat.reduceMul, Nat.reduceSub, Nat.reduceLeDiff, Nat.reduceLT, Nat.reduceGT, Nat.reduceEqDiff, Nat.reduceBEq, Int.reduceNeg, Int.reduceEq, Int.reduceLT, Int.reduceLE, Int.reduceBEq, Int.reduceToNat, Int.toNat_natCast, Int.natCast_zero, r72_T, r72, va, hc, xa, xb, xd, xe, xf, xh, xi, xj, xk, xl, xm, xn, decide_true, decide_false, Bool.true_and, Bool.false_and, Bool.true_or, Bool.false_or, Bool.and_false, Bool.and_true, Int.natCast_one]
  try rfl

theorem size_2 (s : ByteArray) (c : Int) (h0 : 0 < s.size) (hc : ((s[0].toNat : Nat) : Int) = c) (g1 : c ≥ 194) (g2 : c ≤ 223) (hp : List Ent) : F tab 72 [.d (.str s)] hp = some (.ret (.d (iv (sizeL (bs s)))) hp) := by
  obtain ⟨va, vd⟩ := bs_get h0
  have e := bs_nb h0
  rw [hc] at e
  have xa : (c < 128) = False := eq_false (by omega)
  have xb : (c ≥ 194) = True := eq_true (by omega)
  have xd : (c ≤ 223) = True := eq_true (by omega)
  have xe : (c == 224) = false := by simp <;> omega
  have xf : (c ≥ 225) = False := eq_false (by omega)
  have xh : (c ≤ 239) = True := eq_true (by omega)
  have xi : (c != 237) = true := by simp <;> omega
  have xj : (c == 237) = false := by simp <;> omega
  have xk : (c == 240) = false := by simp <;> omega
  have xl : (c ≥ 241) = False := eq_false (by omega)
  have xm : (c ≤ 243) = True := eq_true (by omega)
  have xn : (c == 244) = false := by simp <;> omega
  have ht : ∀ hp, F tab 80 [.d (.str s), .d (iv 1), .d (.int .u8 128), .d (.int .u8 191)] hp = _ := tail_ok s 1 128 191 (by omega) (by omega)
  refine f72 rfl ?_
  unfold sizeL
  rw [← e]
  rcases Bool.eq_false_or_eq_true (tailL (bs s) 1 128 191) with g | g <;> rw [g] at ht <;>
    simp (disch := omega) only [go_sem, and_self, and_true, true_and, false_and, and_false, Nat.reduceAdd, Nat.reduceMul, Nat.reduceSub, Nat.reduceLeDiff, Nat.reduceLT, Nat.reduceGT, Nat.reduceEqDiff, Nat.reduceBEq, Int.reduceNeg, Int.reduceEq, Int.reduceLT, Int.reduceLE, Int.reduceBEq, Int.reduceToNat, Int.toNat_natCast, Int.natCast_zero, r72_T, r72, va, hc, xa, xb, xd, xe, xf, xh, xi, xj, xk, xl, xm, xn, ht, g, decide_true, decide_false, Bool.true_and, Bool.false_and, Bool.true_or, Bool.false_or, Bool.and_false, Bool.and_true, Int.natCast_one] <;> rfl

theorem size_3 (s : ByteArray) (c : Int) (h0 : 0 < s.size) (hc : ((s[0].toNat : Nat) : Int) = c) (g1 : c ≥ 224) (g2 : c ≤ 224) (hp : List Ent) : F tab 72 [.d (.str s)] hp = some (.ret (.d (iv (sizeL (bs s)))) hp) := by
  obtain ⟨va, vd⟩ := bs_get h0
  have e := bs_nb h0
  rw [hc] at e
  have xa : (c < 128) = False := eq_false (by omega)
  have xb : (c ≥ 194) = True := eq_true (by omega)
  have xd : (c ≤ 223) = False := eq_false (by omega)
  have xe : (c == 224) = true := by simp <;> omega
  have xf : (c ≥ 225) = False := eq_false (by omega)
  have xh : (c ≤ 239) = True := eq_true (by omega)
  have xi : (c != 237) = true := by simp <;> omega
  have xj : (c == 237) = false := by simp <;> omega
  have xk : (c == 240) = false := by simp <;> omega
  have xl : (c ≥ 241) = False := eq_false (by omega)
  have xm : (c ≤ 243) = True := eq_true (by omega)
  have xn : (c == 244) = false := by simp <;> omega
  have ht : ∀ hp, F tab 80 [.d (.str s), .d (iv 2), .d (.int .u8 160), .d (.int .u8 191)] hp = _ := tail_ok s 2 160 191 (by omega) (by omega)
  refine f72 rfl ?_
  unfold sizeL
  rw [← e]
  rcases Bool.eq_false_or_eq_true (tailL (bs s) 2 160 191) with g | g <;> rw [g] at ht <;>
    simp (disch := omega) only [go_sem, and_self, and_true, true_and, false_and, and_false, Nat.reduceAdd, Nat.reduceMul, Nat.reduceSub, Nat.reduceLeDiff, Nat.reduceLT, Nat.reduceGT, Nat.reduceEqDiff, Nat.reduceBEq, Int.reduceNeg, Int.reduceEq, Int.reduceLT, Int.reduceLE, Int.reduceBEq, Int.reduceToNat, Int.toNat_natCast, Int.natCast_zero, r72_T, r72, va, hc, xa, xb, xd, xe, xf, xh, xi, xj, xk, xl, xm, xn, ht, g, decide_true, decide_false, Bool.true_and, Bool.false_and, Bool.true_or, Bool.false_or, Bool.and_false, Bool.and_true, Int.natCast_one] <;> rfl

theorem size_4 (s : ByteArray) (c : Int) (h0 : 0 < s.size) (hc : ((s[0].toNat : Nat) : Int) = c) (g1 : c ≥ 225) (g2 : c ≤ 236) (hp : List Ent) : F tab 72 [.d (.str s)] hp = some (.ret (.d (iv (sizeL (bs s)))) hp) := by
  obtain ⟨va, vd⟩ := bs_get h0
  have e := bs_nb h0
  rw [hc] at e
  have xa : (c < 128) = False := eq_false (by omega)
  have xb : (c ≥ 194) = True := eq_true (by omega)
  have xd : (c ≤ 223) = False := eq_false (by omega)
  have xe : (c == 224) = false := by simp <;> omega
  have xf : (c ≥ 225) = True := eq_true (by omega)
  have xh : (c ≤ 239) = True := eq_true (by omega)
  have xi : (c != 237) = true := by simp <;> omega
  have xj : (c == 237) = false := by simp <;> omega
  have xk : (c == 240) = false := by simp <;> omega
  have xl : (c ≥ 241) = False := eq_false (by omega)
  have xm : (c ≤ 243) = True := eq_true (by omega)
  have xn : (c == 244) = false := by simp <;> omega
  have ht : ∀ hp, F tab 80 [.d (.str s), .d (iv 2), .d (.int .u8 128), .d (.int .u8 191)] hp = _ := tail_ok s 2 128 191 (by omega) (by omega)
  refine f72 rfl ?_
  unfold sizeL
  rw [← e]
  rcases Bool.eq_false_or_eq_true (tailL (bs s) 2 128 191) with g | g <;> rw [g] at ht <;>
    simp (disch := omega) only [go_sem, and_self, and_true, true_and, false_and, and_false, Nat.reduceAdd, Nat.reduceMul, Nat.reduceSub, Nat.reduceLeDiff, Nat.reduceLT, Nat.reduceGT, Nat.reduceEqDiff, Nat.reduceBEq, Int.reduceNeg, Int.reduceEq, Int.reduceLT, Int.reduceLE, Int.reduceBEq, Int.reduceToNat, Int.toNat_natCast, Int.natCast_zero, r72_T, r72, va, hc, xa, xb, xd, xe, xf, xh, xi, xj, xk, xl, xm, xn, ht, g, decide_true, decide_false, Bool.true_and, Bool.false_and, Bool.true_or, Bool.false_or, Bool.and_false, Bool.and_true, Int.natCast_one] <;> rfl

theorem size_5 (s : ByteArray) (c : Int) (h0 : 0 < s.size) (hc : ((s[0].toNat : Nat) : Int) = c) (g1 : c ≥ 237) (g2 : c ≤ 237) (hp : List Ent) : F tab 72 [.d (.str s)] hp = some (.ret (.d (iv (sizeL (bs s)))) hp) := by
  obtain ⟨va, vd⟩ := bs_get h0
  have e := bs_nb h0
  rw [hc] at e
  have xa : (c < 128) = False := eq_false (by omega)
  have xb : (c ≥ 194) = True := eq_true (by omega)
  have xd : (c ≤ 223) = False := eq_false (by omega)
  have xe : (c == 224) = false := by simp <;> omega
  have xf : (c ≥ 225) = True := eq_true (by omega)
  have xh : (c ≤ 239) = True := eq_true (by omega)
  have xi : (c != 237) = false := by simp <;> omega
  have xj : (c == 237) = true := by simp <;> omega
  have xk : (c == 240) = false := by simp <;> omega
  have xl : (c ≥ 241) = False := eq_false (by omega)
  have xm : (c ≤ 243) = True := eq_true (by omega)
  have xn : (c == 244) = false := by simp <;> omega
  have ht : ∀ hp, F tab 80 [.d (.str s), .d (iv 2), .d (.int .u8 128), .d (.int .u8 159)] hp = _ := tail_ok s 2 128 159 (by omega) (by omega)
  refine f72 rfl ?_
  unfold sizeL
  rw [← e]
  rcases Bool.eq_false_or_eq_true (tailL (bs s) 2 128 159) with g | g <;> rw [g] at ht <;>
    simp (disch := omega) only [go_sem, and_self, and_true, true_and, false_and, and_false, Nat.reduceAdd, Nat.reduceMul, Nat.reduceSub, Nat.reduceLeDiff, Nat.reduceLT, Nat.reduceGT, Nat.reduceEqDiff, Nat.reduceBEq, Int.reduceNeg, Int.reduceEq, Int.reduceLT, Int.reduceLE, Int.reduceBEq, Int.reduceToNat, Int.toNat_natCast, Int.natCast_zero, r72_T, r72, va, hc, xa, xb, xd, xe, xf, xh, xi, xj, xk, xl, xm, xn, ht, g, decide_true, decide_false, Bool.true_and, Bool.false_and, Bool.true_or, Bool.false_or, Bool.and_false, Bool.and_true, Int.natCast_one] <;> rfl

theorem size_6 (s : ByteArray) (c : Int) (h0 : 0 < s.size) (hc : ((s[0].toNat : Nat) : Int) = c) (g1 : c ≥ 238) (g2 : c ≤ 239) (hp : List Ent) : F tab 72 [.d (.str s)] hp = some (.ret (.d (iv (sizeL (bs s)))) hp) := by
  obtain ⟨va, vd⟩ := bs_get h0
  have e := bs_nb h0
  rw [hc] at e
  have xa : (c < 128) = False := eq_false (by omega)
  have xb : (c ≥ 194) = True := eq_true (by omega)
  have xd : (c ≤ 223) = False := eq_false (by omega)
  have xe : (c == 224) = false := by simp <;> omega
  have xf : (c ≥ 225) = True := eq_true (by omega)
  have xh : (c ≤ 239) = True := eq_true (by omega)
  have xi : (c != 237) = true := by simp <;> omega
  have xj : (c == 237) = false := by simp <;> omega
  have xk : (c == 240) = false := by simp <;> omega
  have xl : (c ≥ 241) = False := eq_false (by omega)
  have xm : (c ≤ 243) = True := eq_true (by omega)
  have xn : (c == 244) = false := by simp <;> omega
  have ht : ∀ hp, F tab 80 [.d (.str s), .d (iv 2), .d (.int .u8 128), .d (.int .u8 191)] hp = _ := tail_ok s 2 128 191 (by omega) (by omega)
  refine f72 rfl ?_
  unfold sizeL
  rw [← e]
  rcases Bool.eq_false_or_eq_true (tailL (bs s) 2 128 191) with g | g <;> rw [g] at ht <;>
    simp (disch := omega) only [go_sem, and_self, and_true, true_and, false_and, and_false, Nat.reduceAdd, Nat.reduceMul, Nat.reduceSub, Nat.reduceLeDiff, Nat.reduceLT, Nat.reduceGT, Nat.reduceEqDiff, Nat.reduceBEq, Int.reduceNeg, Int.reduceEq, Int.reduceLT, Int.reduceLE, Int.reduceBEq, Int.reduceToNat, Int.toNat_natCast, Int.natCast_zero, r72_T, r72, va, hc, xa, xb, xd, xe, xf, xh, xi, xj, xk, xl, xm, xn, ht, g, decide_true, decide_false, Bool.true_and, Bool.false_and, Bool.true_or, Bool.false_or, Bool.and_false, Bool.and_true, Int.natCast_one] <;> rfl

theorem size_7 (s : ByteArray) (c : Int) (h0 : 0 < s.size) (hc : ((s[0].toNat : Nat) : Int) = c) (g1 : c ≥ 240) (g2 : c ≤ 240) (hp : List Ent) : F tab 72 [.d (.str s)] hp = some (.ret (.d (iv (sizeL (bs s)))) hp) := by
  obtain ⟨va, vd⟩ := bs_get h0
  have e := bs_nb h0
  rw [hc] at e
  have xa : (c < 128) = False := eq_false (by omega)
  have xb : (c ≥ 194) = True := eq_true (by omega)
  have xd : (c ≤ 223) = False := eq_false (by omega)
  have xe : (c == 224) = false := by simp <;> omega
  have xf : (c ≥ 225) = True := eq_true (by omega)
  have xh : (c ≤ 239) = False := eq_false (by omega)
  have xi : (c != 237) = true := by simp <;> omega
  have xj : (c == 237) = false := by simp <;> omega
  have xk : (c == 240) = true := by simp <;> omega
  have xl : (c ≥ 241) = False := eq_false (by omega)
  have xm : (c ≤ 243) = True := eq_true (by omega)
  have xn : (c == 244) = false := by simp <;> omega
  have ht : ∀ hp, F tab 80 [.d (.str s), .d (iv 3), .d (.int .u8 144), .d (.int .u8 191)] hp = _ := tail_ok s 3 144 191 (by omega) (by omega)
  refine f72 rfl ?_
  unfold sizeL
  rw [← e]
  rcases Bool.eq_false_or_eq_true (tailL (bs s) 3 144 191) with g | g <;> rw [g] at ht <;>
    simp (disch := omega) only [go_sem, and_self, and_true, true_and, false_and, and_false, Nat.reduceAdd, Nat.reduceMul, Nat.reduceSub, Nat.reduceLeDiff, Nat.reduceLT, Nat.reduceGT, Nat.reduceEqDiff, Nat.reduceBEq, Int.reduceNeg, Int.reduceEq, Int.reduceLT, Int.reduceLE, Int.reduceBEq, Int.reduceToNat, Int.toNat_natCast, Int.natCast_zero, r72_T, r72, va, hc, xa, xb, xd, xe, xf, xh, xi, xj, xk, xl, xm, xn, ht, g, decide_true, decide_false, Bool.true_and, Bool.false_and, Bool.true_or, Bool.false_or, Bool.and_false, Bool.and_true, Int.natCast_one] <;> rfl

theorem size_8 (s : ByteArray) (c : Int) (h0 : 0 < s.size) (hc : ((s[0].toNat : Nat) : Int) = c) (g1 : c ≥ 241) (g2 : c ≤ 243) (hp : List Ent) : F tab 72 [.d (.str s)] hp = some (.ret (.d (iv (sizeL (bs s)))) hp) := by
  obtain ⟨va, vd⟩ := bs_get h0
  have e := bs_nb h0
  rw [hc] at e
  have xa : (c < 128) = False := eq_false (by omega)
  have xb : (c ≥ 194) = True := eq_true (by omega)
  have xd : (c ≤ 223) = False := eq_false (by omega)
  have xe : (c == 224) = false := by simp <;> omega
  have xf : (c ≥ 225) = True := eq_true (by omega)
  have xh : (c ≤ 239) = False := eq_false (by omega)
  have xi : (c != 237) = true := by simp <;> omega
  have xj : (c == 237) = false := by simp <;> omega
  have xk : (c == 240) = false := by simp <;> omega
  have xl : (c ≥ 241) = True := eq_true (by omega)
  have xm : (c ≤ 243) = True := eq_true (by omega)
  have xn : (c == 244) = false := by simp <;> omega
  have ht : ∀ hp, F tab 80 [.d (.str s), .d (iv 3), .d (.int .u8 128), .d (.int .u8 191)] hp = _ := tail_ok s 3 128 191 (by omega) (by omega)
  refine f72 rfl ?_
  unfold sizeL
  rw [← e]
  rcases Bool.eq_false_or_eq_true (tailL (bs s) 3 128 191) with g | g <;> rw [g] at ht <;>
    simp (disch := omega) only [go_sem, and_self, and_true, true_and, false_and, and_false, Nat.reduceAdd, Nat.reduceMul, Nat.reduceSub, Nat.reduceLeDiff, Nat.reduceLT, Nat.reduceGT, Nat.reduceEqDiff, Nat.reduceBEq, Int.reduceNeg, Int.reduceEq, Int.reduceLT, Int.reduceLE, Int.reduceBEq, Int.reduceToNat, Int.toNat_natCast, Int.natCast_zero, r72_T, r72, va, hc, xa, xb, xd, xe, xf, xh, xi, xj, xk, xl, xm, xn, ht, g, decide_true, decide_false, Bool.true_and, Bool.false_and, Bool.true_or, Bool.false_or, Bool.and_false, Bool.and_true, Int.natCast_one] <;> rfl

theorem size_9 (s : ByteArray) (c : Int) (h0 : 0 < s.size) (hc : ((s[0].toNat : Nat) : Int) = c) (g1 : c ≥ 244) (g2 : c ≤ 244) (hp : List Ent) : F tab 72 [.d (.str s)] hp = some (.ret (.d (iv (sizeL (bs s)))) hp) := by
  obtain ⟨va, vd⟩ := bs_get h0
  have e := bs_nb h0
  rw [hc] at e
  have xa : (c < 128) = False := eq_false (by omega)
  have xb : (c ≥ 194) = True := eq_true (by omega)
  have xd : (c ≤ 223) = False := eq_false (by omega)
  have xe : (c == 224) = false := by simp <;> omega
  have xf : (c ≥ 225) = True := eq_true (by omega)
  have xh : (c ≤ 239) = False := eq_false (by omega)
  have xi : (c != 237) = true := by simp <;> omega
  have xj : (c == 237) = false := by simp <;> omega
  have xk : (c == 240) = false := by simp <;> omega
  have xl : (c ≥ 241) = True := eq_true (by omega)
  have xm : (c ≤ 243) = False := eq_false (by omega)
  have xn : (c == 244) = true := by simp <;> omega
  have ht : ∀ hp, F tab 80 [.d (.str s), .d (iv 3), .d (.int .u8 128), .d (.int .u8 143)] hp = _ := tail_ok s 3 128 143 (by omega) (by omega)
  refine f72 rfl ?_
  unfold sizeL
  rw [← e]
  rcases Bool.eq_false_or_eq_true (tailL (bs s) 3 128 143) with g | g <;> rw [g] at ht <;>
    simp (disch := omega) only [go_sem, and_self, and_true, true_and, false_and, and_false, Nat.reduceAdd, Nat.reduceMul, Nat.reduceSub, Nat.reduceLeDiff, Nat.reduceLT, Nat.reduceGT, Nat.reduceEqDiff, Nat.reduceBEq, Int.reduceNeg, Int.reduceEq, Int.reduceLT, Int.reduceLE, Int.reduceBEq, Int.reduceToNat, Int.toNat_natCast, Int.natCast_zero, r72_T, r72, va, hc, xa, xb, xd, xe, xf, xh, xi, xj, xk, xl, xm, xn, ht, g, decide_true, decide_false, Bool.true_and, Bool.false_and, Bool.true_or, Bool.false_or, Bool.and_false, Bool.and_true, Int.natCast_one] <;> rfl

theorem size_10 (s : ByteArray) (c : Int) (h0 : 0 < s.size) (hc : ((s[0].toNat : Nat) : Int) = c) (g1 : c ≥ 245) (g2 : c ≤ 255) (hp : List Ent) : F tab 72 [.d (.str s)] hp = some (.ret (.d (iv (sizeL (bs s)))) hp) := by
  obtain ⟨va, vd⟩ := bs_get h0
  have e := bs_nb h0
  rw [hc] at e
  have xa : (c < 128) = False := eq_false (by omega)
  have xb : (c ≥ 194) = True := eq_true (by omega)
  have xd : (c ≤ 223) = False := eq_false (by omega)
  have xe : (c == 224) = false := by simp <;> omega
  have xf : (c ≥ 225) = True := eq_true (by omega)
  have xh : (c ≤ 239) = False := eq_false (by omega)
  have xi : (c != 237) = true := by simp <;> omega
  have xj : (c == 237) = false := by simp <;> omega
  have xk : (c == 240) = false := by simp <;> omega
  have xl : (c ≥ 241) = True := eq_true (by omega)
  have xm : (c ≤ 243) = False := eq_false (by omega)
  have xn : (c == 244) = false := by simp <;> omega
  refine f72 rfl ?_
  unfold sizeL
  rw [← e]
  simp (disch := omega) only [go_sem, and_self, and_true, true_and, false_and, and_false, Nat.reduceAdd, Nat.reduceMul, Nat.reduceSub, Nat.reduceLeDiff, Nat.reduceLT, Nat.reduceGT, Nat.reduceEqDiff, Nat.reduceBEq, Int.reduceNeg, Int.reduceEq, Int.reduceLT, Int.reduceLE, Int.reduceBEq, Int.reduceToNat, Int.toNat_natCast, Int.natCast_zero, r72_T, r72, va, hc, xa, xb, xd, xe, xf, xh, xi, xj, xk, xl, xm, xn, decide_true, decide_false, Bool.true_and, Bool.false_and, Bool.true_or, Bool.false_or, Bool.and_false, Bool.and_true, Int.natCast_one]
  try rfl

theorem usize_ok (s : ByteArray) (h0 : 0 < s.size) (hp : List Ent) : F tab 72 [.d (.str s)] hp = some (.ret (.d (iv (sizeL (bs s)))) hp) := by
  have hb : s[0].toNat < 256 := UInt8.toNat_lt _
  by_cases c0 : ((s[0].toNat : Nat) : Int) ≤ 127
  · exact size_0 s _ h0 rfl (by omega) (by omega) hp
  by_cases c1 : ((s[0].toNat : Nat) : Int) ≤ 193
  · exact size_1 s _ h0 rfl (by omega) (by omega) hp
  by_cases c2 : ((s[0].toNat : Nat) : Int) ≤ 223
  · exact size_2 s _ h0 rfl (by omega) (by omega) hp
  by_cases c3 : ((s[0].toNat : Nat) : Int) ≤ 224
  · exact size_3 s _ h0 rfl (by omega) (by omega) hp
  by_cases c4 : ((s[0].toNat : Nat) : Int) ≤ 236
  · exact size_4 s _ h0 rfl (by omega) (by omega) hp
  by_cases c5 : ((s[0].toNat : Nat) : Int) ≤ 237
  · exact size_5 s _ h0 rfl (by omega) (by omega) hp
  by_cases c6 : ((s[0].toNat : Nat) : Int) ≤ 239
  · exact size_6 s _ h0 rfl (by omega) (by omega) hp
  by_cases c7 : ((s[0].toNat : Nat) : Int) ≤ 240
  · exact size_7 s _ h0 rfl (by omega) (by omega) hp
  by_cases c8 : ((s[0].toNat : Nat) : Int) ≤ 243
  · exact size_8 s _ h0 rfl (by omega) (by omega) hp
  by_cases c9 : ((s[0].toNat : Nat) : Int) ≤ 244
  · exact size_9 s _ h0 rfl (by omega) (by omega) hp
  exact size_10 s _ h0 rfl (by omega) (by omega) hp
end Go.Pe.T
