/- A part of the proof of: Which of two nodes comes first, without labels, or that there is no answer, is the document's; and whether one is true (OpsCompares, of arguments that are not too large for any machine, the second form); no condition beyond the statement's own. -/
import Derived.Test.YtacelfbplhapiaaGreatOc1
import Derived.Test.YtacelfbplhapiaaGreatPe3
import Derived.KernelRfl
set_option linter.unusedSimpArgs false
set_option maxRecDepth 10000
set_option linter.unusedVariables false
set_option maxRecDepth 100000
set_option maxRecDepth 20000

namespace Go.Pe.T
@[go_sem] def r9_K0 (_ : Unit) : RCode := .seq (.reg [io 13 (.fad 3 (.t 3)),io 14 (.fad 0 (.t 13)),io 15 (.ld false none (.t 14)),io 16 (.bin .eql (.t 15) (.c (.d (.int .i64 3)))),mo 17 16,⟨some 18,some (17,true),.fad 0 (.t 3)⟩,⟨some 19,some (17,true),.ld false none (.t 18)⟩,⟨some 20,some (17,true),.bin .eql (.t 19) (.c (.d (.int .i64 1)))⟩,io 21 (.pick (.t 17) (.t 20) (.c (.d (.bool false)))),mo 22 21,⟨some 23,some (22,true),.fad 2 (.t 3)⟩,⟨some 24,some (22,true),.ld false none (.t 23)⟩,⟨some 25,some (22,true),.bin .eql (.t 24) (.c (.d (.int .i64 3)))⟩,io 26 (.pick (.t 22) (.t 25) (.c (.d (.bool false)))),mo 0 26] [13,14,18,23] false) (.ret [.keep])
@[go_sem] def r9_K1 (_ : Unit) : RCode := .seq (.reg [mo 9 1,io 10 (.call false (.f 27) [(.c (.d (.int .i64 1))),(.c (.d (.int .i64 0)))]),io 11 (.call false (.f 27) [(.c (.d (.int .i64 2))),(.c (.d (.int .i64 1)))]),io 12 (.call false (.f 16) [(.t 9),(.c (.d (.str ⟨#[43]⟩))),(.t 10),(.t 11)]),io 3 (.zal false [.d (.int .i64 0),.d (.int .i64 0),.d (.int .i64 0),.d (.int .i64 0),.d (.int .i64 0),.d (.str ⟨#[]⟩),.nilsl,.nilsl]),⟨none,none,.sto (some 8) (.t 3) (.t 12)⟩] [] false) (hold r9_K0)
def r9_T : RCode := .seq (.reg [io 0 (.mv false (.c (.d (.bool false))))] [] false) (.seq (.reg [io 5 (.call false (.f 23) [(.c (.d (.int .i64 0)))]),io 6 (.call false (.f 24) [(.t 5)]),io 4 (.mvt (.t 6)),io 7 (.ext false (.t 4) 0),io 8 (.ext false (.t 4) 1),mo 1 7,mo 2 8] [] false) (hold r9_K1))
def r9 : RFunc := ⟨27,true,[.t 0],r9_T⟩
@[go_sem] def r71_K0 (_ : Unit) : RCode := .seq (.seq (.reg [mo 5 0,mo 6 1,io 7 (.bin .lss (.t 5) (.t 6))] [] false) (.cond (.t 7) (.seq (.reg [io 4 (.mv false (.c (.d (.int .i64 (-1)))))] [] false) (.ret [.kill,.kill,.kill,.kill,.keep])) (.skip))) (.seq (.seq (.reg [mo 8 0,mo 9 1,io 10 (.bin .gtr (.t 8) (.t 9))] [] false) (.cond (.t 10) (.seq (.reg [io 4 (.mv false (.c (.d (.int .i64 1))))] [] false) (.ret [.kill,.kill,.kill,.kill,.keep])) (.skip))) (.seq (.reg [io 4 (.mv false (.c (.d (.int .i64 0))))] [] false) (.ret [.kill,.kill,.kill,.kill,.keep])))
def r71_T : RCode := .seq (.reg [io 4 (.mv false (.c (.d (.int .i64 0))))] [] false) (hold r71_K0)
def r71 : RFunc := ⟨11,true,[.t 4],r71_T⟩
@[go_sem] def r72_K0 (_ : Unit) : RCode := .seq (.seq (.reg [mo 3 0,io 4 (.bin .lss (.t 3) (.c (.d (.int .i64 0)))),mo 5 4,⟨some 6,some (5,false),.mv false (.t 0)⟩,⟨some 7,some (5,false),.bin .gtr (.t 6) (.c (.d (.int .i64 7)))⟩,io 8 (.pick (.t 5) (.c (.d (.bool true))) (.t 7))] [] false) (.cond (.t 8) (.seq (.reg [io 2 (.mv false (.c (.d (.int .i64 8))))] [] false) (.ret [.kill,.kill,.keep])) (.skip))) (.seq (.reg [mo 9 0,mo 2 9] [] false) (.ret [.kill,.kill,.keep]))
def r72_T : RCode := .seq (.reg [io 2 (.mv false (.c (.d (.int .i64 0))))] [] false) (hold r72_K0)
def r72 : RFunc := ⟨10,true,[.t 2],r72_T⟩
@[go_sem] def r125_K0 (_ : Unit) : RCode := .seq (.seq (.reg [mo 12 4,io 13 (.bin .lss (.t 12) (.c (.d (.int .i64 0))))] [] false) (.cond (.t 13) (.reg [mo 14 4,io 15 (.un .neg (.t 14)),mo 4 15] [] false) (.skip))) (.seq (.reg [io 16 (.fad 1 (.t 3)),io 17 (.ld true none (.t 16)),mo 18 4,io 19 (.bsl 3 1 [(.t 18)]),io 20 (.app 3 1 8 (.t 17) (.t 19)),io 21 (.fad 1 (.t 3)),⟨none,none,.sto none (.t 21) (.t 20)⟩] [16,21] false) (.reg [mo 22 0,io 23 (.bin .quo (.t 22) (.c (.d (.int .i64 10)))),mo 0 23] [] false))
def r125_C0 : RCode := .seq (.seq (.reg [mo 8 0,io 9 (.bin .neq (.t 8) (.c (.d (.int .i64 0))))] [] false) (.cond (.t 9) (.skip) (.exit 0))) (.block 1 [.keep,.kill,.keep,.keep] (.seq (.reg [mo 10 0,io 11 (.bin .rem (.t 10) (.c (.d (.int .i64 10)))),mo 4 11] [] false) (hold r125_K0)))
def r125_B0 : RCode := .block 0 [.kill,.kill,.keep,.keep] (.loop [.keep,.kill,.keep,.keep] r125_C0)
theorem r125_B0_eq {cf : CF} {s : St} : V cf r125_B0 s = loopK cf r125_B0 0 [.kill,.kill,.keep,.keep] [.keep,.kill,.keep,.keep] (V cf r125_C0 (s.head [.keep,.kill,.keep,.keep])) := V_bloop
abbrev r125_S0 (x0 x2 x3 : PV) (hp : List Ent) : St := ⟨x0 :: .dead :: x2 :: x3 :: z8 (z8 (z4 (.dead :: []))),hp⟩
abbrev r125_E0 (x2 x3 : PV) (hp : List Ent) : St := ⟨z2 (x2 :: x3 :: z8 (z8 (z4 (.dead :: [])))),hp⟩
theorem r125_B0_n {cf : CF} {x0 a1 x2 x3 a4 a5 a6 a7 a8 a9 a10 a11 a12 a13 a14 a15 a16 a17 a18 a19 a20 a21 a22 a23 a24 : PV} {hp : List Ent} : V cf r125_B0 ⟨[x0,a1,x2,x3,a4,a5,a6,a7,a8,a9,a10,a11,a12,a13,a14,a15,a16,a17,a18,a19,a20,a21,a22,a23,a24],hp⟩ = V cf r125_B0 (r125_S0 x0 x2 x3 hp) := by rw [r125_B0_eq,r125_B0_eq]; rfl
def r125_T : RCode := .seq (.reg [io 2 (.zal false [.d (.bool false),.nilsl])] [] false) (.seq (.reg [io 3 (.zal false [.d (.bool false),.nilsl])] [] false) (.seq (.reg [mo 5 0,io 6 (.bin .lss (.t 5) (.c (.d (.int .i64 0)))),io 7 (.fad 0 (.t 3)),⟨none,none,.sto none (.t 7) (.t 6)⟩] [7] false) (.seq (r125_B0) (.seq (.reg [io 24 (.ld false (some 2) (.t 3)),⟨none,none,.sto (some 2) (.t 2) (.t 24)⟩] [] false) (.ret [.kill,.kill,.keep])))))
def r125 : RFunc := ⟨25,true,[.cell 2 (some 2)],r125_T⟩
def r127_C0 : RCode := .seq (.seq (.reg [mo 7 3,io 8 (.bin .gtr (.t 7) (.c (.d (.int .i64 0)))),mo 9 8,⟨some 10,some (9,true),.fad 1 (.t 1)⟩,⟨some 11,some (9,true),.ld false none (.t 10)⟩,⟨some 12,some (9,true),.mv false (.t 3)⟩,⟨some 13,some (9,true),.bin .sub (.t 12) (.c (.d (.int .i64 1)))⟩,⟨some 14,some (9,true),.iad none 1 (.t 11) (.t 13)⟩,⟨some 15,some (9,true),.ld false none (.t 14)⟩,⟨some 16,some (9,true),.bin .eql (.t 15) (.c (.d (.int .i64 0)))⟩,io 17 (.pick (.t 9) (.t 16) (.c (.d (.bool false))))] [10,14] false) (.cond (.t 17) (.skip) (.exit 0))) (.block 1 [.kill,.keep,.keep,.keep] (.reg [mo 18 3,io 19 (.bin .sub (.t 18) (.c (.d (.int .i64 1)))),mo 3 19] [] false))
def r127_B0 : RCode := .block 0 [.kill,.keep,.keep,.keep] (.loop [.kill,.keep,.keep,.keep] r127_C0)
theorem r127_B0_eq {cf : CF} {s : St} : V cf r127_B0 s = loopK cf r127_B0 0 [.kill,.keep,.keep,.keep] [.kill,.keep,.keep,.keep] (V cf r127_C0 (s.head [.kill,.keep,.keep,.keep])) := V_bloop
abbrev r127_S0 (x1 x2 x3 : PV) (hp : List Ent) : St := ⟨.dead :: x1 :: x2 :: x3 :: z8 (z8 (z8 (.dead :: []))),hp⟩
abbrev r127_E0 (x1 x2 x3 : PV) (hp : List Ent) : St := ⟨.dead :: x1 :: x2 :: x3 :: z8 (z8 (z8 (.dead :: []))),hp⟩
theorem r127_B0_n {cf : CF} {a0 x1 x2 x3 a4 a5 a6 a7 a8 a9 a10 a11 a12 a13 a14 a15 a16 a17 a18 a19 a20 a21 a22 a23 a24 a25 a26 a27 a28 : PV} {hp : List Ent} : V cf r127_B0 ⟨[a0,x1,x2,x3,a4,a5,a6,a7,a8,a9,a10,a11,a12,a13,a14,a15,a16,a17,a18,a19,a20,a21,a22,a23,a24,a25,a26,a27,a28],hp⟩ = V cf r127_B0 (r127_S0 x1 x2 x3 hp) := by rw [r127_B0_eq,r127_B0_eq]; rfl
@[go_sem] def r127_K0 (_ : Unit) : RCode := .seq (.reg [io 20 (.fad 1 (.t 1)),io 21 (.ld false none (.t 20)),mo 22 3,io 23 (.slc (some 1) (.t 21) none (some (.t 22)) none),io 24 (.fad 1 (.t 1)),⟨none,none,.sto none (.t 24) (.t 23)⟩] [20,24] false) (.seq (.seq (.reg [mo 25 3,io 26 (.bin .eql (.t 25) (.c (.d (.int .i64 0))))] [] false) (.cond (.t 26) (.reg [io 27 (.fad 0 (.t 1)),⟨none,none,.sto none (.t 27) (.c (.d (.bool false)))⟩] [27] false) (.skip))) (.seq (.reg [io 28 (.ld false (some 2) (.t 1)),⟨none,none,.sto (some 2) (.t 2) (.t 28)⟩] [] false) (.ret [.kill,.kill,.keep])))
def r127_T : RCode := .seq (.reg [io 1 (.bx false true (.t 0)),io 2 (.zal false [.d (.bool false),.nilsl])] [] false) (.seq (.reg [io 4 (.fad 1 (.t 1)),io 5 (.ld false none (.t 4)),io 6 (.len false (.t 5)),mo 3 6] [4] false) (.seq (r127_B0) (hold r127_K0)))
def r127 : RFunc := ⟨29,true,[.cell 2 (some 2)],r127_T⟩
def r126_C0 : RCode := .seq (.seq (.reg [mo 7 6,mo 8 1,io 9 (.bin .lss (.t 7) (.t 8))] [] false) (.cond (.t 9) (.skip) (.exit 0))) (.seq (.block 1 [.kill,.keep,.keep,.kill,.keep,.norm 3,.keep] (.reg [io 12 (.mv true (.t 5)),io 13 (.bsl 3 1 [(.c (.d (.int .i64 0)))]),io 14 (.app 3 1 8 (.t 12) (.t 13)),io 5 (.mv true (.t 14))] [] false)) (.reg [mo 10 6,io 11 (.bin .add (.t 10) (.c (.d (.int .i64 1)))),mo 6 11] [] false))
def r126_B0 : RCode := .block 0 [.kill,.kill,.keep,.kill,.keep,.norm 3] (.loop [.kill,.keep,.keep,.kill,.keep,.norm 3,.keep] r126_C0)
theorem r126_B0_eq {cf : CF} {s : St} : V cf r126_B0 s = loopK cf r126_B0 0 [.kill,.kill,.keep,.kill,.keep,.norm 3] [.kill,.keep,.keep,.kill,.keep,.norm 3,.keep] (V cf r126_C0 (s.head [.kill,.keep,.keep,.kill,.keep,.norm 3,.keep])) := V_bloop
abbrev r126_S0 (x1 x2 x4 x5 x6 : PV) (hp : List Ent) : St := ⟨.dead :: x1 :: x2 :: .dead :: x4 :: x5 :: x6 :: z8 (z8 (.dead :: [])),hp⟩
abbrev r126_E0 (x2 x4 x5 : PV) (hp : List Ent) : St := ⟨z2 (x2 :: .dead :: x4 :: x5 :: z8 (z8 (z2 ([])))),hp⟩
theorem r126_B0_z5 {cf : CF} {x1 x2 x4 x6 : PV} {hp : List Ent} : V cf r126_B0 (r126_S0 x1 x2 x4 .nilsl x6 hp) = V cf r126_B0 (r126_S0 x1 x2 x4 (.own 3 []) x6 hp) := by rw [r126_B0_eq,r126_B0_eq]; rfl
theorem r126_B0_n {cf : CF} {a0 x1 x2 a3 x4 x5 x6 a7 a8 a9 a10 a11 a12 a13 a14 a15 a16 a17 a18 a19 a20 a21 a22 a23 : PV} {hp : List Ent} : V cf r126_B0 ⟨[a0,x1,x2,a3,x4,x5,x6,a7,a8,a9,a10,a11,a12,a13,a14,a15,a16,a17,a18,a19,a20,a21,a22,a23],hp⟩ = V cf r126_B0 (r126_S0 x1 x2 x4 x5 x6 hp) := by rw [r126_B0_eq,r126_B0_eq]; rfl
@[go_sem] def r126_K0 (_ : Unit) : RCode := .seq (.reg [io 15 (.mv true (.t 5)),io 16 (.fad 1 (.t 2)),io 17 (.ld false none (.t 16)),io 18 (.app 3 1 8 (.t 15) (.t 17)),io 5 (.mv true (.t 18))] [16] false) (.seq (.reg [io 19 (.fad 0 (.t 2)),io 20 (.ld false none (.t 19)),mo 21 5,io 22 (.bld [.bool false,.sl []] [(0,1,(.t 20)),(1,1,(.t 21))]),io 23 (.call false (.f 127) [(.t 22)]),⟨none,none,.sto (some 2) (.t 4) (.t 23)⟩] [19] false) (.ret [.kill,.kill,.kill,.kill,.keep]))
def r126_T : RCode := .seq (.reg [io 2 (.bx false true (.t 0)),io 4 (.zal false [.d (.bool false),.nilsl])] [] false) (.seq (.reg [io 5 (.mv true (.c (.nilsl)))] [] false) (.seq (.seq (.reg [io 6 (.mv false (.c (.d (.int .i64 0))))] [] false) (r126_B0)) (hold r126_K0)))
def r126 : RFunc := ⟨24,true,[.cell 4 (some 2)],r126_T⟩
@[go_sem] def r109_K0 (_ : Unit) : RCode := .seq (.reg [io 16 (.fad 0 (.t 2)),io 17 (.ld false none (.t 16)),io 18 (.call false (.f 125) [(.t 17)]),mo 19 7,io 20 (.fad 1 (.t 2)),io 21 (.ld false none (.t 20)),io 22 (.bin .sub (.t 19) (.t 21)),io 23 (.call false (.f 126) [(.t 18),(.t 22)]),io 24 (.fad 0 (.t 3)),io 25 (.ld false none (.t 24)),io 26 (.call false (.f 125) [(.t 25)]),mo 27 7,io 28 (.fad 1 (.t 3)),io 29 (.ld false none (.t 28)),io 30 (.bin .sub (.t 27) (.t 29)),io 31 (.call false (.f 126) [(.t 26),(.t 30)]),mo 32 7,⟨none,none,.sto (some 2) (.t 4) (.t 23)⟩,⟨none,none,.sto (some 2) (.t 5) (.t 31)⟩,mo 6 32] [16,20,24,28] true) (.ret [.kill,.kill,.kill,.kill,.keep,.keep,.keep])
def r109_T : RCode := .seq (.reg [io 2 (.bx false true (.t 0)),io 3 (.bx false true (.t 1)),io 4 (.zal false [.d (.bool false),.nilsl]),io 5 (.zal false [.d (.bool false),.nilsl]),io 6 (.mv false (.c (.d (.int .i64 0))))] [] false) (.seq (.reg [io 8 (.fad 1 (.t 2)),io 9 (.ld false none (.t 8)),mo 7 9] [8] false) (.seq (.seq (.reg [io 10 (.fad 1 (.t 3)),io 11 (.ld false none (.t 10)),mo 12 7,io 13 (.bin .gtr (.t 11) (.t 12))] [10] false) (.cond (.t 13) (.reg [io 14 (.fad 1 (.t 3)),io 15 (.ld false none (.t 14)),mo 7 15] [14] false) (.skip))) (hold r109_K0)))
def r109 : RFunc := ⟨33,true,[.cell 4 (some 2),.cell 5 (some 2),.t 6],r109_T⟩
@[go_sem] def r128_K0 (_ : Unit) : RCode := .seq (.block 1 [.keep,.keep,.kill,.kill,.kill,.keep] (.seq (.reg [mo 23 0,mo 24 5,io 25 (.iad none 1 (.t 23) (.t 24)),io 26 (.ld false none (.t 25)),mo 27 1,mo 28 5,io 29 (.iad none 1 (.t 27) (.t 28)),io 30 (.ld false none (.t 29)),io 31 (.bin .neq (.t 26) (.t 30))] [25,29] true) (.cond (.t 31) (.seq (.reg [mo 32 0,mo 33 5,io 34 (.iad none 1 (.t 32) (.t 33)),io 35 (.ld false none (.t 34)),mo 36 1,mo 37 5,io 38 (.iad none 1 (.t 36) (.t 37)),io 39 (.ld false none (.t 38)),io 40 (.bin .gtr (.t 35) (.t 39)),mo 4 40] [34,38] true) (.ret [.kill,.kill,.kill,.kill,.keep])) (.skip)))) (.reg [mo 21 5,io 22 (.bin .sub (.t 21) (.c (.d (.int .i64 1)))),mo 5 22] [] false)
def r128_C0 : RCode := .seq (.seq (.reg [mo 19 5,io 20 (.bin .geq (.t 19) (.c (.d (.int .i64 0))))] [] false) (.cond (.t 20) (.skip) (.exit 0))) (hold r128_K0)
def r128_B0 : RCode := .block 0 [] (.loop [.keep,.keep,.kill,.kill,.kill,.keep] r128_C0)
theorem r128_B0_eq {cf : CF} {s : St} : V cf r128_B0 s = loopK cf r128_B0 0 [] [.keep,.keep,.kill,.kill,.kill,.keep] (V cf r128_C0 (s.head [.keep,.keep,.kill,.kill,.kill,.keep])) := V_bloop
abbrev r128_S0 (x0 x1 x5 : PV) (hp : List Ent) : St := ⟨x0 :: x1 :: z2 (.dead :: x5 :: z32 (z2 (.dead :: []))),hp⟩
abbrev r128_E0  (hp : List Ent) : St := ⟨z32 (z8 (.dead :: [])),hp⟩
theorem r128_B0_n {cf : CF} {x0 x1 a2 a3 a4 x5 a6 a7 a8 a9 a10 a11 a12 a13 a14 a15 a16 a17 a18 a19 a20 a21 a22 a23 a24 a25 a26 a27 a28 a29 a30 a31 a32 a33 a34 a35 a36 a37 a38 a39 a40 : PV} {hp : List Ent} : V cf r128_B0 ⟨[x0,x1,a2,a3,a4,x5,a6,a7,a8,a9,a10,a11,a12,a13,a14,a15,a16,a17,a18,a19,a20,a21,a22,a23,a24,a25,a26,a27,a28,a29,a30,a31,a32,a33,a34,a35,a36,a37,a38,a39,a40],hp⟩ = V cf r128_B0 (r128_S0 x0 x1 x5 hp) := by rw [r128_B0_eq,r128_B0_eq]; rfl
@[go_sem] def r128_K1 (_ : Unit) : RCode := .seq (.seq (.reg [mo 6 0,io 7 (.len false (.t 6)),mo 8 1,io 9 (.len false (.t 8)),io 10 (.bin .neq (.t 7) (.t 9))] [] false) (.cond (.t 10) (.seq (.reg [mo 11 0,io 12 (.len false (.t 11)),mo 13 1,io 14 (.len false (.t 13)),io 15 (.bin .gtr (.t 12) (.t 14)),mo 4 15] [] false) (.ret [.kill,.kill,.kill,.kill,.keep])) (.skip))) (.seq (.seq (.reg [mo 16 0,io 17 (.len false (.t 16)),io 18 (.bin .sub (.t 17) (.c (.d (.int .i64 1)))),mo 5 18] [] false) (r128_B0)) (.seq (.reg [io 4 (.mv false (.c (.d (.bool true))))] [] false) (.ret [.kill,.kill,.kill,.kill,.keep])))
abbrev r128_R (x4 : PV) (hp : List Ent) : St := ⟨z4 (x4 :: z32 (z4 ([]))),hp⟩
def r128_T : RCode := .seq (.reg [io 4 (.mv false (.c (.d (.bool false))))] [] false) (hold r128_K1)
def r128 : RFunc := ⟨41,true,[.t 4],r128_T⟩
@[go_sem] def r129_K0 (_ : Unit) : RCode := .seq (.seq (.reg [mo 31 8,io 32 (.bin .lss (.t 31) (.c (.d (.int .i64 0))))] [] false) (.cond (.t 32) (.seq (.reg [mo 33 8,io 34 (.bin .add (.t 33) (.c (.d (.int .i64 10)))),mo 8 34] [] false) (.reg [io 6 (.mv false (.c (.d (.int .i64 1))))] [] false)) (.skip))) (.reg [io 35 (.mv true (.t 5)),mo 36 8,io 37 (.bsl 3 1 [(.t 36)]),io 38 (.app 3 1 8 (.t 35) (.t 37)),io 5 (.mv true (.t 38))] [] false)
@[go_sem] def r129_K1 (_ : Unit) : RCode := .seq (.seq (.reg [mo 21 7,mo 22 1,io 23 (.len false (.t 22)),io 24 (.bin .lss (.t 21) (.t 23))] [] false) (.cond (.t 24) (.reg [mo 25 8,mo 26 1,mo 27 7,io 28 (.iad none 1 (.t 26) (.t 27)),io 29 (.ld false none (.t 28)),io 30 (.bin .sub (.t 25) (.t 29)),mo 8 30] [28] false) (.skip))) (.seq (.reg [io 6 (.mv false (.c (.d (.int .i64 0))))] [] false) (hold r129_K0))
@[go_sem] def r129_K2 (_ : Unit) : RCode := .seq (.block 1 [.keep,.keep,.kill,.kill,.kill,.norm 3,.keep,.keep] (.seq (.reg [mo 15 0,mo 16 7,io 17 (.iad none 1 (.t 15) (.t 16)),io 18 (.ld false none (.t 17)),mo 19 6,io 20 (.bin .sub (.t 18) (.t 19)),mo 8 20] [17] false) (hold r129_K1))) (.reg [mo 13 7,io 14 (.bin .add (.t 13) (.c (.d (.int .i64 1)))),mo 7 14] [] false)
def r129_C0 : RCode := .seq (.seq (.reg [mo 9 7,mo 10 0,io 11 (.len false (.t 10)),io 12 (.bin .lss (.t 9) (.t 11))] [] false) (.cond (.t 12) (.skip) (.exit 0))) (hold r129_K2)
def r129_B0 : RCode := .block 0 [.kill,.kill,.kill,.kill,.kill,.norm 3] (.loop [.keep,.keep,.kill,.kill,.kill,.norm 3,.keep,.keep] r129_C0)
theorem r129_B0_eq {cf : CF} {s : St} : V cf r129_B0 s = loopK cf r129_B0 0 [.kill,.kill,.kill,.kill,.kill,.norm 3] [.keep,.keep,.kill,.kill,.kill,.norm 3,.keep,.keep] (V cf r129_C0 (s.head [.keep,.keep,.kill,.kill,.kill,.norm 3,.keep,.keep])) := V_bloop
abbrev r129_S0 (x0 x1 x5 x6 x7 : PV) (hp : List Ent) : St := ⟨x0 :: x1 :: z2 (.dead :: x5 :: x6 :: x7 :: z32 ([])),hp⟩
abbrev r129_E0 (x5 : PV) (hp : List Ent) : St := ⟨z4 (.dead :: x5 :: z32 (z2 ([]))),hp⟩
theorem r129_B0_z5 {cf : CF} {x0 x1 x6 x7 : PV} {hp : List Ent} : V cf r129_B0 (r129_S0 x0 x1 .nilsl x6 x7 hp) = V cf r129_B0 (r129_S0 x0 x1 (.own 3 []) x6 x7 hp) := by rw [r129_B0_eq,r129_B0_eq]; rfl
theorem r129_B0_n {cf : CF} {x0 x1 a2 a3 a4 x5 x6 x7 a8 a9 a10 a11 a12 a13 a14 a15 a16 a17 a18 a19 a20 a21 a22 a23 a24 a25 a26 a27 a28 a29 a30 a31 a32 a33 a34 a35 a36 a37 a38 a39 : PV} {hp : List Ent} : V cf r129_B0 ⟨[x0,x1,a2,a3,a4,x5,x6,x7,a8,a9,a10,a11,a12,a13,a14,a15,a16,a17,a18,a19,a20,a21,a22,a23,a24,a25,a26,a27,a28,a29,a30,a31,a32,a33,a34,a35,a36,a37,a38,a39],hp⟩ = V cf r129_B0 (r129_S0 x0 x1 x5 x6 x7 hp) := by rw [r129_B0_eq,r129_B0_eq]; rfl
def r129_T : RCode := .seq (.reg [io 4 (.mv false (.c (.d (.sl []))))] [] false) (.seq (.reg [io 5 (.mv true (.c (.nilsl)))] [] false) (.seq (.reg [io 6 (.mv false (.c (.d (.int .i64 0))))] [] false) (.seq (.seq (.reg [io 7 (.mv false (.c (.d (.int .i64 0))))] [] false) (r129_B0)) (.seq (.reg [mo 39 5,mo 4 39] [] false) (.ret [.kill,.kill,.kill,.kill,.keep])))))
def r129 : RFunc := ⟨40,true,[.t 4],r129_T⟩
@[go_sem] def r137_K0 (_ : Unit) : RCode := .seq (.seq (.reg [mo 36 7,mo 37 1,io 38 (.len false (.t 37)),io 39 (.bin .lss (.t 36) (.t 38))] [] false) (.cond (.t 39) (.reg [mo 40 8,mo 41 1,mo 42 7,io 43 (.iad none 1 (.t 41) (.t 42)),io 44 (.ld false none (.t 43)),io 45 (.bin .add (.t 40) (.t 44)),mo 8 45] [43] false) (.skip))) (.seq (.reg [io 46 (.mv true (.t 5)),mo 47 8,io 48 (.bin .rem (.t 47) (.c (.d (.int .i64 10)))),io 49 (.bsl 3 1 [(.t 48)]),io 50 (.app 3 1 8 (.t 46) (.t 49)),io 5 (.mv true (.t 50))] [] false) (.reg [mo 51 8,io 52 (.bin .quo (.t 51) (.c (.d (.int .i64 10)))),mo 6 52] [] false))
@[go_sem] def r137_K1 (_ : Unit) : RCode := .seq (.seq (.reg [mo 26 7,mo 27 0,io 28 (.len false (.t 27)),io 29 (.bin .lss (.t 26) (.t 28))] [] false) (.cond (.t 29) (.reg [mo 30 8,mo 31 0,mo 32 7,io 33 (.iad none 1 (.t 31) (.t 32)),io 34 (.ld false none (.t 33)),io 35 (.bin .add (.t 30) (.t 34)),mo 8 35] [33] false) (.skip))) (hold r137_K0)
def r137_C0 : RCode := .seq (.seq (.reg [mo 9 7,mo 10 0,io 11 (.len false (.t 10)),io 12 (.bin .lss (.t 9) (.t 11)),mo 13 12,⟨some 14,some (13,false),.mv false (.t 7)⟩,⟨some 15,some (13,false),.mv false (.t 1)⟩,⟨some 16,some (13,false),.len false (.t 15)⟩,⟨some 17,some (13,false),.bin .lss (.t 14) (.t 16)⟩,io 18 (.pick (.t 13) (.c (.d (.bool true))) (.t 17)),mo 19 18,⟨some 20,some (19,false),.mv false (.t 6)⟩,⟨some 21,some (19,false),.bin .gtr (.t 20) (.c (.d (.int .i64 0)))⟩,io 22 (.pick (.t 19) (.c (.d (.bool true))) (.t 21))] [] false) (.cond (.t 22) (.skip) (.exit 0))) (.seq (.block 1 [.keep,.keep,.kill,.kill,.kill,.norm 3,.keep,.keep] (.seq (.reg [mo 25 6,mo 8 25] [] false) (hold r137_K1))) (.reg [mo 23 7,io 24 (.bin .add (.t 23) (.c (.d (.int .i64 1)))),mo 7 24] [] false))
def r137_B0 : RCode := .block 0 [.kill,.kill,.kill,.kill,.kill,.norm 3] (.loop [.keep,.keep,.kill,.kill,.kill,.norm 3,.keep,.keep] r137_C0)
theorem r137_B0_eq {cf : CF} {s : St} : V cf r137_B0 s = loopK cf r137_B0 0 [.kill,.kill,.kill,.kill,.kill,.norm 3] [.keep,.keep,.kill,.kill,.kill,.norm 3,.keep,.keep] (V cf r137_C0 (s.head [.keep,.keep,.kill,.kill,.kill,.norm 3,.keep,.keep])) := V_bloop
abbrev r137_S0 (x0 x1 x5 x6 x7 : PV) (hp : List Ent) : St := ⟨x0 :: x1 :: z2 (.dead :: x5 :: x6 :: x7 :: z32 (z8 (z4 (z2 ([]))))),hp⟩
abbrev r137_E0 (x5 : PV) (hp : List Ent) : St := ⟨z4 (.dead :: x5 :: z32 (z8 (z8 ([])))),hp⟩
theorem r137_B0_z5 {cf : CF} {x0 x1 x6 x7 : PV} {hp : List Ent} : V cf r137_B0 (r137_S0 x0 x1 .nilsl x6 x7 hp) = V cf r137_B0 (r137_S0 x0 x1 (.own 3 []) x6 x7 hp) := by rw [r137_B0_eq,r137_B0_eq]; rfl
theorem r137_B0_n {cf : CF} {x0 x1 a2 a3 a4 x5 x6 x7 a8 a9 a10 a11 a12 a13 a14 a15 a16 a17 a18 a19 a20 a21 a22 a23 a24 a25 a26 a27 a28 a29 a30 a31 a32 a33 a34 a35 a36 a37 a38 a39 a40 a41 a42 a43 a44 a45 a46 a47 a48 a49 a50 a51 a52 a53 : PV} {hp : List Ent} : V cf r137_B0 ⟨[x0,x1,a2,a3,a4,x5,x6,x7,a8,a9,a10,a11,a12,a13,a14,a15,a16,a17,a18,a19,a20,a21,a22,a23,a24,a25,a26,a27,a28,a29,a30,a31,a32,a33,a34,a35,a36,a37,a38,a39,a40,a41,a42,a43,a44,a45,a46,a47,a48,a49,a50,a51,a52,a53],hp⟩ = V cf r137_B0 (r137_S0 x0 x1 x5 x6 x7 hp) := by rw [r137_B0_eq,r137_B0_eq]; rfl
def r137_T : RCode := .seq (.reg [io 4 (.mv false (.c (.d (.sl []))))] [] false) (.seq (.reg [io 5 (.mv true (.c (.nilsl)))] [] false) (.seq (.reg [io 6 (.mv false (.c (.d (.int .i64 0))))] [] false) (.seq (.seq (.reg [io 7 (.mv false (.c (.d (.int .i64 0))))] [] false) (r137_B0)) (.seq (.reg [mo 53 5,mo 4 53] [] false) (.ret [.kill,.kill,.kill,.kill,.keep])))))
def r137 : RFunc := ⟨54,true,[.t 4],r137_T⟩
@[go_sem] def r110_K0 (_ : Unit) : RCode := .seq (.reg [io 10 (.fad 0 (.t 2)),io 11 (.ld false none (.t 10)),io 12 (.fad 1 (.t 2)),io 13 (.ld false none (.t 12)),io 14 (.fad 1 (.t 3)),io 15 (.ld false none (.t 14)),io 16 (.call false (.f 137) [(.t 13),(.t 15)]),io 17 (.bld [.bool false,.sl []] [(0,1,(.t 11)),(1,1,(.t 16))]),io 18 (.call false (.f 127) [(.t 17)]),⟨none,none,.sto (some 2) (.t 4) (.t 18)⟩] [10,12,14] true) (.ret [.kill,.kill,.kill,.kill,.keep])
@[go_sem] def r110_K1 (_ : Unit) : RCode := .seq (.reg [io 24 (.fad 0 (.t 2)),io 25 (.ld false none (.t 24)),io 26 (.fad 1 (.t 2)),io 27 (.ld false none (.t 26)),io 28 (.fad 1 (.t 3)),io 29 (.ld false none (.t 28)),io 30 (.call false (.f 129) [(.t 27),(.t 29)]),io 31 (.bld [.bool false,.sl []] [(0,1,(.t 25)),(1,1,(.t 30))]),io 32 (.call false (.f 127) [(.t 31)]),⟨none,none,.sto (some 2) (.t 4) (.t 32)⟩] [24,26,28] true) (.ret [.kill,.kill,.kill,.kill,.keep])
@[go_sem] def r110_K2 (_ : Unit) : RCode := .seq (.reg [io 33 (.fad 0 (.t 3)),io 34 (.ld false none (.t 33)),io 35 (.fad 1 (.t 3)),io 36 (.ld false none (.t 35)),io 37 (.fad 1 (.t 2)),io 38 (.ld false none (.t 37)),io 39 (.call false (.f 129) [(.t 36),(.t 38)]),io 40 (.bld [.bool false,.sl []] [(0,1,(.t 34)),(1,1,(.t 39))]),io 41 (.call false (.f 127) [(.t 40)]),⟨none,none,.sto (some 2) (.t 4) (.t 41)⟩] [33,35,37] true) (.ret [.kill,.kill,.kill,.kill,.keep])
@[go_sem] def r110_K3 (_ : Unit) : RCode := .seq (.seq (.reg [io 5 (.fad 0 (.t 2)),io 6 (.ld false none (.t 5)),io 7 (.fad 0 (.t 3)),io 8 (.ld false none (.t 7)),io 9 (.beq false (.t 6) (.t 8))] [5,7] false) (.cond (.t 9) (hold r110_K0) (.skip))) (.seq (.seq (.reg [io 19 (.fad 1 (.t 2)),io 20 (.ld false none (.t 19)),io 21 (.fad 1 (.t 3)),io 22 (.ld false none (.t 21)),io 23 (.call false (.f 128) [(.t 20),(.t 22)])] [19,21] false) (.cond (.t 23) (hold r110_K1) (.skip))) (hold r110_K2))
def r110_T : RCode := .seq (.reg [io 2 (.bx false true (.t 0)),io 3 (.bx false true (.t 1)),io 4 (.zal false [.d (.bool false),.nilsl])] [] false) (hold r110_K3)
def r110 : RFunc := ⟨42,true,[.cell 4 (some 2)],r110_T⟩
@[go_sem] def r73_K0 (_ : Unit) : RCode := .seq (.seq (.reg [io 24 (.fad 1 (.t 8)),io 25 (.ld false none (.t 24)),io 26 (.len false (.t 25)),io 27 (.bin .eql (.t 26) (.c (.d (.int .i64 0))))] [24] false) (.cond (.t 27) (.seq (.reg [io 4 (.mv false (.c (.d (.int .i64 0))))] [] false) (.ret [.kill,.kill,.kill,.kill,.keep])) (.skip))) (.seq (.seq (.reg [io 28 (.fad 0 (.t 8)),io 29 (.ld false none (.t 28))] [28] false) (.cond (.t 29) (.seq (.reg [io 4 (.mv false (.c (.d (.int .i64 (-1)))))] [] false) (.ret [.kill,.kill,.kill,.kill,.keep])) (.skip))) (.seq (.reg [io 4 (.mv false (.c (.d (.int .i64 1))))] [] false) (.ret [.kill,.kill,.kill,.kill,.keep])))
@[go_sem] def r73_K1 (_ : Unit) : RCode := .seq (.reg [io 16 (.ld false (some 2) (.t 5)),io 17 (.fad 0 (.t 6)),io 18 (.ld false none (.t 17)),io 19 (.un .not (.t 18)),io 20 (.fad 1 (.t 6)),io 21 (.ld false none (.t 20)),io 22 (.bld [.bool false,.sl []] [(0,1,(.t 19)),(1,1,(.t 21))]),io 23 (.call false (.f 110) [(.t 16),(.t 22)]),io 8 (.zal false [.d (.bool false),.nilsl]),⟨none,none,.sto (some 2) (.t 8) (.t 23)⟩] [17,20] false) (hold r73_K0)
@[go_sem] def r73_K2 (_ : Unit) : RCode := .seq (.reg [io 10 (.ld false (some 2) (.t 2)),io 11 (.ld false (some 2) (.t 3)),io 12 (.call false (.f 109) [(.t 10),(.t 11)]),io 9 (.mvt (.t 12)),io 13 (.ext false (.t 9) 0),io 14 (.ext false (.t 9) 1),io 15 (.ext false (.t 9) 2),io 5 (.zal false [.d (.bool false),.nilsl]),io 6 (.zal false [.d (.bool false),.nilsl]),⟨none,none,.sto (some 2) (.t 5) (.t 13)⟩,⟨none,none,.sto (some 2) (.t 6) (.t 14)⟩,mo 7 15] [] false) (hold r73_K1)
def r73_T : RCode := .seq (.reg [io 2 (.bx false true (.t 0)),io 3 (.bx false true (.t 1)),io 4 (.mv false (.c (.d (.int .i64 0))))] [] false) (hold r73_K2)
def r73 : RFunc := ⟨30,true,[.t 4],r73_T⟩
def r74_T : RCode := .seq (.reg [io 1 (.bx false true (.t 0)),io 2 (.zal false [.d (.int .i64 0),.d (.int .i64 0)])] [] false) (.seq (.seq (.reg [io 3 (.ld false (some 2) (.t 1)),io 4 (.call false (.f 90) [(.t 3)])] [] false) (.cond (.t 4) (.seq (.reg [io 5 (.ld false (some 2) (.t 1)),⟨none,none,.sto (some 2) (.t 2) (.t 5)⟩] [] false) (.ret [.kill,.kill,.keep])) (.skip))) (.seq (.reg [io 6 (.bld [.int .i64 0,.int .i64 0] []),⟨none,none,.sto (some 2) (.t 2) (.t 6)⟩] [] false) (.ret [.kill,.kill,.keep])))
def r74 : RFunc := ⟨7,true,[.cell 2 (some 2)],r74_T⟩
@[go_sem] def r75_K0 (_ : Unit) : RCode := .seq (.block 1 [.keep,.keep,.kill,.kill,.kill,.keep] (.seq (.reg [mo 18 0,mo 19 5,io 20 (.six (.t 18) (.t 19)),mo 21 1,mo 22 5,io 23 (.six (.t 21) (.t 22)),io 24 (.bin .neq (.t 20) (.t 23))] [] true) (.cond (.t 24) (.seq (.reg [mo 25 0,mo 26 5,io 27 (.six (.t 25) (.t 26)),io 28 (.conv (.int .i64) (.t 27)),mo 29 1,mo 30 5,io 31 (.six (.t 29) (.t 30)),io 32 (.conv (.int .i64) (.t 31)),io 33 (.call false (.f 71) [(.t 28),(.t 32)]),mo 4 33] [] true) (.ret [.kill,.kill,.kill,.kill,.keep])) (.skip)))) (.reg [mo 16 5,io 17 (.bin .add (.t 16) (.c (.d (.int .i64 1)))),mo 5 17] [] false)
def r75_C0 : RCode := .seq (.seq (.reg [mo 6 5,mo 7 0,io 8 (.len true (.t 7)),io 9 (.bin .lss (.t 6) (.t 8)),mo 10 9,⟨some 11,some (10,true),.mv false (.t 5)⟩,⟨some 12,some (10,true),.mv false (.t 1)⟩,⟨some 13,some (10,true),.len true (.t 12)⟩,⟨some 14,some (10,true),.bin .lss (.t 11) (.t 13)⟩,io 15 (.pick (.t 10) (.t 14) (.c (.d (.bool false))))] [] false) (.cond (.t 15) (.skip) (.exit 0))) (hold r75_K0)
def r75_B0 : RCode := .block 0 [.keep,.keep] (.loop [.keep,.keep,.kill,.kill,.kill,.keep] r75_C0)
theorem r75_B0_eq {cf : CF} {s : St} : V cf r75_B0 s = loopK cf r75_B0 0 [.keep,.keep] [.keep,.keep,.kill,.kill,.kill,.keep] (V cf r75_C0 (s.head [.keep,.keep,.kill,.kill,.kill,.keep])) := V_bloop
abbrev r75_S0 (x0 x1 x5 : PV) (hp : List Ent) : St := ⟨x0 :: x1 :: z2 (.dead :: x5 :: z32 (.dead :: [])),hp⟩
abbrev r75_E0 (x0 x1 : PV) (hp : List Ent) : St := ⟨x0 :: x1 :: z32 (z4 (.dead :: [])),hp⟩
theorem r75_B0_n {cf : CF} {x0 x1 a2 a3 a4 x5 a6 a7 a8 a9 a10 a11 a12 a13 a14 a15 a16 a17 a18 a19 a20 a21 a22 a23 a24 a25 a26 a27 a28 a29 a30 a31 a32 a33 a34 a35 a36 a37 a38 : PV} {hp : List Ent} : V cf r75_B0 ⟨[x0,x1,a2,a3,a4,x5,a6,a7,a8,a9,a10,a11,a12,a13,a14,a15,a16,a17,a18,a19,a20,a21,a22,a23,a24,a25,a26,a27,a28,a29,a30,a31,a32,a33,a34,a35,a36,a37,a38],hp⟩ = V cf r75_B0 (r75_S0 x0 x1 x5 hp) := by rw [r75_B0_eq,r75_B0_eq]; rfl
abbrev r75_R (x4 : PV) (hp : List Ent) : St := ⟨z4 (x4 :: z32 (z2 ([]))),hp⟩
def r75_T : RCode := .seq (.reg [io 4 (.mv false (.c (.d (.int .i64 0))))] [] false) (.seq (.seq (.reg [io 5 (.mv false (.c (.d (.int .i64 0))))] [] false) (r75_B0)) (.seq (.reg [mo 34 0,io 35 (.len true (.t 34)),mo 36 1,io 37 (.len true (.t 36)),io 38 (.call false (.f 71) [(.t 35),(.t 37)]),mo 4 38] [] false) (.ret [.kill,.kill,.kill,.kill,.keep])))
def r75 : RFunc := ⟨39,true,[.t 4],r75_T⟩
@[go_sem] def r76_K0 (_ : Unit) : RCode := .seq (.block 1 [.keep,.keep,.kill,.kill,.kill,.keep] (.seq (.reg [mo 19 0,mo 20 5,io 21 (.iad none 1 (.t 19) (.t 20)),io 22 (.ld false none (.t 21)),mo 23 1,mo 24 5,io 25 (.iad none 1 (.t 23) (.t 24)),io 26 (.ld false none (.t 25)),io 27 (.call false (.f 75) [(.t 22),(.t 26)]),mo 6 27] [21,25] true) (.seq (.reg [mo 28 6,io 29 (.bin .neq (.t 28) (.c (.d (.int .i64 0))))] [] false) (.cond (.t 29) (.seq (.reg [mo 30 6,mo 4 30] [] false) (.ret [.kill,.kill,.kill,.kill,.keep])) (.skip))))) (.reg [mo 17 5,io 18 (.bin .add (.t 17) (.c (.d (.int .i64 1)))),mo 5 18] [] false)
def r76_C0 : RCode := .seq (.seq (.reg [mo 7 5,mo 8 0,io 9 (.len false (.t 8)),io 10 (.bin .lss (.t 7) (.t 9)),mo 11 10,⟨some 12,some (11,true),.mv false (.t 5)⟩,⟨some 13,some (11,true),.mv false (.t 1)⟩,⟨some 14,some (11,true),.len false (.t 13)⟩,⟨some 15,some (11,true),.bin .lss (.t 12) (.t 14)⟩,io 16 (.pick (.t 11) (.t 15) (.c (.d (.bool false))))] [] false) (.cond (.t 16) (.skip) (.exit 0))) (hold r76_K0)
def r76_B0 : RCode := .block 0 [.keep,.keep] (.loop [.keep,.keep,.kill,.kill,.kill,.keep] r76_C0)
theorem r76_B0_eq {cf : CF} {s : St} : V cf r76_B0 s = loopK cf r76_B0 0 [.keep,.keep] [.keep,.keep,.kill,.kill,.kill,.keep] (V cf r76_C0 (s.head [.keep,.keep,.kill,.kill,.kill,.keep])) := V_bloop
abbrev r76_S0 (x0 x1 x5 : PV) (hp : List Ent) : St := ⟨x0 :: x1 :: z2 (.dead :: x5 :: z8 (z8 (z8 (z4 (z2 ([])))))),hp⟩
abbrev r76_E0 (x0 x1 : PV) (hp : List Ent) : St := ⟨x0 :: x1 :: z32 (z2 ([])),hp⟩
theorem r76_B0_n {cf : CF} {x0 x1 a2 a3 a4 x5 a6 a7 a8 a9 a10 a11 a12 a13 a14 a15 a16 a17 a18 a19 a20 a21 a22 a23 a24 a25 a26 a27 a28 a29 a30 a31 a32 a33 a34 a35 : PV} {hp : List Ent} : V cf r76_B0 ⟨[x0,x1,a2,a3,a4,x5,a6,a7,a8,a9,a10,a11,a12,a13,a14,a15,a16,a17,a18,a19,a20,a21,a22,a23,a24,a25,a26,a27,a28,a29,a30,a31,a32,a33,a34,a35],hp⟩ = V cf r76_B0 (r76_S0 x0 x1 x5 hp) := by rw [r76_B0_eq,r76_B0_eq]; rfl
abbrev r76_R (x4 : PV) (hp : List Ent) : St := ⟨z4 (x4 :: z8 (z8 (z8 (z4 (z2 (.dead :: [])))))),hp⟩
def r76_T : RCode := .seq (.reg [io 4 (.mv false (.c (.d (.int .i64 0))))] [] false) (.seq (.seq (.reg [io 5 (.mv false (.c (.d (.int .i64 0))))] [] false) (r76_B0)) (.seq (.reg [mo 31 0,io 32 (.len false (.t 31)),mo 33 1,io 34 (.len false (.t 33)),io 35 (.call false (.f 71) [(.t 32),(.t 34)]),mo 4 35] [] false) (.ret [.kill,.kill,.kill,.kill,.keep])))
def r76 : RFunc := ⟨36,true,[.t 4],r76_T⟩
@[go_sem] def r29_K0 (_ : Unit) : RCode := .seq (.reg [io 29 (.fad 1 (.t 3)),io 30 (.ld false (some 2) (.t 29)),io 31 (.call false (.f 74) [(.t 30)]),io 32 (.fad 1 (.t 4)),io 33 (.ld false (some 2) (.t 32)),io 34 (.call false (.f 74) [(.t 33)]),io 35 (.call false (.f 73) [(.t 31),(.t 34)]),mo 36 2,mo 6 35,mo 7 36] [29,32] true) (.ret [.kill,.kill,.kill,.kill,.kill,.kill,.keep,.keep])
@[go_sem] def r29_K1 (_ : Unit) : RCode := .seq (.block 2 [.kill,.kill,.keep,.keep,.keep,.kill,.kill,.kill,.keep,.keep] (.seq (.reg [io 76 (.fad 4 (.t 3)),io 77 (.ld false none (.t 76)),mo 78 9,io 79 (.iad none 6 (.t 77) (.t 78)),io 80 (.ld false (some 6) (.t 79)),io 81 (.fad 4 (.t 4)),io 82 (.ld false none (.t 81)),mo 83 9,io 84 (.iad none 6 (.t 82) (.t 83)),io 85 (.ld false (some 6) (.t 84)),mo 86 2,io 87 (.call false (.f 29) [(.t 80),(.t 85),(.t 86)]),io 75 (.mvt (.t 87)),io 88 (.ext false (.t 75) 0),io 89 (.ext false (.t 75) 1),mo 8 88,mo 2 89] [76,79,81,84] true) (.seq (.reg [mo 90 2,io 91 (.bin .gtr (.t 90) (.c (.d (.int .i64 4096))))] [] false) (.cond (.t 91) (.seq (.reg [mo 92 2,io 6 (.mv false (.c (.d (.int .i64 0)))),mo 7 92] [] false) (.ret [.kill,.kill,.kill,.kill,.kill,.kill,.keep,.keep])) (.skip))))) (.reg [mo 73 9,io 74 (.bin .add (.t 73) (.c (.d (.int .i64 1)))),mo 9 74] [] false)
def r29_C0 : RCode := .seq (.seq (.reg [mo 57 8,io 58 (.bin .eql (.t 57) (.c (.d (.int .i64 0)))),mo 59 58,⟨some 60,some (59,true),.mv false (.t 9)⟩,⟨some 61,some (59,true),.fad 4 (.t 3)⟩,⟨some 62,some (59,true),.ld false none (.t 61)⟩,⟨some 63,some (59,true),.len false (.t 62)⟩,⟨some 64,some (59,true),.bin .lss (.t 60) (.t 63)⟩,io 65 (.pick (.t 59) (.t 64) (.c (.d (.bool false)))),mo 66 65,⟨some 67,some (66,true),.mv false (.t 9)⟩,⟨some 68,some (66,true),.fad 4 (.t 4)⟩,⟨some 69,some (66,true),.ld false none (.t 68)⟩,⟨some 70,some (66,true),.len false (.t 69)⟩,⟨some 71,some (66,true),.bin .lss (.t 67) (.t 70)⟩,io 72 (.pick (.t 66) (.t 71) (.c (.d (.bool false))))] [61,68] false) (.cond (.t 72) (.skip) (.exit 1))) (hold r29_K1)
def r29_B0 : RCode := .block 1 [.kill,.kill,.keep,.keep,.keep,.kill,.kill,.kill,.keep] (.loop [.kill,.kill,.keep,.keep,.keep,.kill,.kill,.kill,.keep,.keep] r29_C0)
theorem r29_B0_eq {cf : CF} {s : St} : V cf r29_B0 s = loopK cf r29_B0 1 [.kill,.kill,.keep,.keep,.keep,.kill,.kill,.kill,.keep] [.kill,.kill,.keep,.keep,.keep,.kill,.kill,.kill,.keep,.keep] (V cf r29_C0 (s.head [.kill,.kill,.keep,.keep,.keep,.kill,.kill,.kill,.keep,.keep])) := V_bloop
abbrev r29_S0 (x2 x3 x4 x8 x9 : PV) (hp : List Ent) : St := ⟨z2 (x2 :: x3 :: x4 :: z2 (.dead :: x8 :: x9 :: z32 (z32 (z8 (z8 (z8 (z4 (z2 (.dead :: []))))))))),hp⟩
abbrev r29_E0 (x2 x3 x4 x8 : PV) (hp : List Ent) : St := ⟨z2 (x2 :: x3 :: x4 :: z2 (.dead :: x8 :: z32 (z32 (z32 ([]))))),hp⟩
theorem r29_B0_n {cf : CF} {a0 a1 x2 x3 x4 a5 a6 a7 x8 x9 a10 a11 a12 a13 a14 a15 a16 a17 a18 a19 a20 a21 a22 a23 a24 a25 a26 a27 a28 a29 a30 a31 a32 a33 a34 a35 a36 a37 a38 a39 a40 a41 a42 a43 a44 a45 a46 a47 a48 a49 a50 a51 a52 a53 a54 a55 a56 a57 a58 a59 a60 a61 a62 a63 a64 a65 a66 a67 a68 a69 a70 a71 a72 a73 a74 a75 a76 a77 a78 a79 a80 a81 a82 a83 a84 a85 a86 a87 a88 a89 a90 a91 a92 a93 a94 a95 a96 a97 a98 a99 a100 a101 a102 a103 a104 : PV} {hp : List Ent} : V cf r29_B0 ⟨[a0,a1,x2,x3,x4,a5,a6,a7,x8,x9,a10,a11,a12,a13,a14,a15,a16,a17,a18,a19,a20,a21,a22,a23,a24,a25,a26,a27,a28,a29,a30,a31,a32,a33,a34,a35,a36,a37,a38,a39,a40,a41,a42,a43,a44,a45,a46,a47,a48,a49,a50,a51,a52,a53,a54,a55,a56,a57,a58,a59,a60,a61,a62,a63,a64,a65,a66,a67,a68,a69,a70,a71,a72,a73,a74,a75,a76,a77,a78,a79,a80,a81,a82,a83,a84,a85,a86,a87,a88,a89,a90,a91,a92,a93,a94,a95,a96,a97,a98,a99,a100,a101,a102,a103,a104],hp⟩ = V cf r29_B0 (r29_S0 x2 x3 x4 x8 x9 hp) := by rw [r29_B0_eq,r29_B0_eq]; rfl
@[go_sem] def r29_K2 (_ : Unit) : RCode := .seq (.seq (.reg [mo 93 8,io 94 (.bin .eql (.t 93) (.c (.d (.int .i64 0))))] [] false) (.cond (.t 94) (.reg [io 95 (.fad 4 (.t 3)),io 96 (.ld false none (.t 95)),io 97 (.len false (.t 96)),io 98 (.fad 4 (.t 4)),io 99 (.ld false none (.t 98)),io 100 (.len false (.t 99)),io 101 (.call false (.f 71) [(.t 97),(.t 100)]),mo 8 101] [95,98] false) (.skip))) (.seq (.reg [mo 102 8,mo 103 2,mo 6 102,mo 7 103] [] false) (.ret [.kill,.kill,.kill,.kill,.kill,.kill,.keep,.keep]))
@[go_sem] def r29_K3 (_ : Unit) : RCode := .seq (.seq (.reg [io 49 (.fad 0 (.t 3)),io 50 (.ld false none (.t 49)),io 51 (.bin .eql (.t 50) (.c (.d (.int .i64 6))))] [49] false) (.cond (.t 51) (.reg [io 52 (.fad 5 (.t 3)),io 53 (.ld false none (.t 52)),io 54 (.fad 5 (.t 4)),io 55 (.ld false none (.t 54)),io 56 (.call false (.f 76) [(.t 53),(.t 55)]),mo 8 56] [52,54] false) (.skip))) (.seq (.seq (.reg [io 9 (.mv false (.c (.d (.int .i64 0))))] [] false) (r29_B0)) (hold r29_K2))
@[go_sem] def r29_K4 (_ : Unit) : RCode := .cond (.t 37) (.seq (.reg [io 40 (.fad 3 (.t 3)),io 41 (.ld false none (.t 40)),io 42 (.fad 3 (.t 4)),io 43 (.ld false none (.t 42)),io 44 (.call false (.f 75) [(.t 41),(.t 43)]),mo 45 2,mo 6 44,mo 7 45] [40,42] false) (.ret [.kill,.kill,.kill,.kill,.kill,.kill,.keep,.keep])) (.seq (.seq (.reg [io 47 (.bin .eql (.t 26) (.c (.d (.int .i64 5)))),mo 46 47] [] false) (.cond (.t 46) (.skip) (.reg [io 48 (.bin .eql (.t 26) (.c (.d (.int .i64 6)))),mo 46 48] [] false))) (.cond (.t 46) (hold r29_K3) (.skip)))
@[go_sem] def r29_K5 (_ : Unit) : RCode := .seq (.seq (.reg [io 25 (.fad 0 (.t 3)),io 26 (.ld false none (.t 25))] [25] false) (.block 0 [.kill,.kill,.keep] (.seq (.reg [io 28 (.bin .eql (.t 26) (.c (.d (.int .i64 3)))),mo 27 28] [] false) (.cond (.t 27) (hold r29_K0) (.seq (.seq (.reg [io 38 (.bin .eql (.t 26) (.c (.d (.int .i64 4)))),mo 37 38] [] false) (.cond (.t 37) (.skip) (.reg [io 39 (.bin .eql (.t 26) (.c (.d (.int .i64 7)))),mo 37 39] [] false))) (hold r29_K4)))))) (.seq (.reg [mo 104 2,io 6 (.mv false (.c (.d (.int .i64 0)))),mo 7 104] [] false) (.ret [.kill,.kill,.kill,.kill,.kill,.kill,.keep,.keep]))
@[go_sem] def r29_K6 (_ : Unit) : RCode := .seq (.reg [io 14 (.fad 0 (.t 3)),io 15 (.ld false none (.t 14)),io 16 (.call false (.f 72) [(.t 15)]),io 17 (.fad 0 (.t 4)),io 18 (.ld false none (.t 17)),io 19 (.call false (.f 72) [(.t 18)]),io 20 (.call false (.f 71) [(.t 16),(.t 19)]),mo 8 20] [14,17] true) (.seq (.seq (.reg [mo 21 8,io 22 (.bin .neq (.t 21) (.c (.d (.int .i64 0))))] [] false) (.cond (.t 22) (.seq (.reg [mo 23 8,mo 24 2,mo 6 23,mo 7 24] [] false) (.ret [.kill,.kill,.kill,.kill,.kill,.kill,.keep,.keep])) (.skip))) (hold r29_K5))
@[go_sem] def r29_K7 (_ : Unit) : RCode := .seq (.reg [mo 10 2,io 11 (.bin .add (.t 10) (.c (.d (.int .i64 1)))),mo 2 11] [] false) (.seq (.seq (.reg [mo 12 2,io 13 (.bin .gtr (.t 12) (.c (.d (.int .i64 4096))))] [] false) (.cond (.t 13) (.seq (.reg [io 6 (.mv false (.c (.d (.int .i64 0)))),io 7 (.mv false (.c (.d (.int .i64 5000))))] [] false) (.ret [.kill,.kill,.kill,.kill,.kill,.kill,.keep,.keep])) (.skip))) (hold r29_K6))
abbrev r29_R (x6 x7 : PV) (hp : List Ent) : St := ⟨z4 (z2 (x6 :: x7 :: z32 (z32 (z32 (.dead :: []))))),hp⟩
def r29_T : RCode := .seq (.reg [io 3 (.bx false true (.t 0)),io 4 (.bx false true (.t 1)),io 6 (.mv false (.c (.d (.int .i64 0)))),io 7 (.mv false (.c (.d (.int .i64 0))))] [] false) (hold r29_K7)
def r29 : RFunc := ⟨105,true,[.t 6,.t 7],r29_T⟩
@[go_sem] def r11_K0 (_ : Unit) : RCode := .seq (.reg [io 9 (.ld false (some 6) (.t 2)),io 10 (.ld false (some 6) (.t 3)),io 11 (.call false (.f 29) [(.t 9),(.t 10),(.c (.d (.int .i64 0)))]),io 8 (.mvt (.t 11)),io 12 (.ext false (.t 8) 0),io 13 (.ext false (.t 8) 1),mo 6 12,mo 7 13] [] false) (.seq (.reg [mo 14 6,mo 15 7,io 16 (.bin .leq (.t 15) (.c (.d (.int .i64 4096)))),mo 4 14,mo 5 16] [] false) (.ret [.kill,.kill,.kill,.kill,.keep,.keep]))
def r11_T : RCode := .seq (.reg [io 2 (.bx false true (.t 0)),io 3 (.bx false true (.t 1)),io 4 (.mv false (.c (.d (.int .i64 0)))),io 5 (.mv false (.c (.d (.bool false))))] [] false) (hold r11_K0)
def r11 : RFunc := ⟨17,true,[.t 4,.t 5],r11_T⟩
def r14_T : RCode := .seq (.reg [io 1 (.bx false true (.t 0)),io 2 (.mv false (.c (.d (.bool false))))] [] false) (.seq (.reg [io 3 (.fad 0 (.t 1)),io 4 (.ld false none (.t 3)),io 5 (.bin .neq (.t 4) (.c (.d (.int .i64 0)))),mo 6 5,⟨some 7,some (6,true),.fad 0 (.t 1)⟩,⟨some 8,some (6,true),.ld false none (.t 7)⟩,⟨some 9,some (6,true),.bin .neq (.t 8) (.c (.d (.int .i64 1)))⟩,io 10 (.pick (.t 6) (.t 9) (.c (.d (.bool false)))),mo 2 10] [3,7] false) (.ret [.kill,.kill,.keep]))
def r14 : RFunc := ⟨11,true,[.t 2],r14_T⟩
@[go_sem] def r3_K0 (_ : Unit) : RCode := .seq (.reg [mo 47 8,mo 48 10,io 49 (.beq false (.t 47) (.t 48)),mo 50 49,⟨some 51,some (50,true),.mv false (.t 8)⟩,⟨some 52,some (50,true),.un .not (.t 51)⟩,⟨some 53,some (50,true),.mv false (.t 52)⟩,⟨some 54,some (53,true),.mv false (.t 7)⟩,⟨some 55,some (53,true),.bin .eql (.t 54) (.c (.d (.int .i64 0)))⟩,⟨some 56,some (50,true),.pick (.t 53) (.t 55) (.c (.d (.bool false)))⟩,⟨some 57,some (50,true),.mv false (.t 56)⟩,⟨some 58,some (57,false),.mv false (.t 8)⟩,⟨some 59,some (57,false),.mv false (.t 58)⟩,⟨some 60,some (59,true),.mv false (.t 7)⟩,⟨some 61,some (59,true),.mv false (.t 9)⟩,⟨some 62,some (59,true),.bin .eql (.t 60) (.t 61)⟩,⟨some 63,some (57,false),.pick (.t 59) (.t 62) (.c (.d (.bool false)))⟩,⟨some 64,some (50,true),.pick (.t 57) (.c (.d (.bool true))) (.t 63)⟩,io 65 (.pick (.t 50) (.t 64) (.c (.d (.bool false)))),mo 66 65,⟨some 67,some (66,true),.iad (some 2) 8 (.t 3) (.c (.d (.int .i64 0)))⟩,⟨some 68,some (66,true),.ld false (some 8) (.t 67)⟩,⟨some 69,some (66,true),.call false (.f 13) [(.t 68)]⟩,⟨some 70,some (66,true),.iad (some 2) 8 (.t 3) (.c (.d (.int .i64 0)))⟩,⟨some 71,some (66,true),.ld false (some 8) (.t 70)⟩,⟨some 72,some (66,true),.call false (.f 12) [(.t 71)]⟩,⟨some 73,some (66,true),.call false (.f 14) [(.t 72)]⟩,⟨some 74,some (66,true),.beq false (.t 69) (.t 73)⟩,io 75 (.pick (.t 66) (.t 74) (.c (.d (.bool false)))),mo 76 75,⟨some 77,some (76,true),.call false (.f 9) []⟩,io 78 (.pick (.t 76) (.t 77) (.c (.d (.bool false)))),mo 4 78] [67,70] true) (.ret [.kill,.kill,.kill,.kill,.keep])
@[go_sem] def r3_K1 (_ : Unit) : RCode := .seq (.reg [io 38 (.iad (some 2) 8 (.t 3) (.c (.d (.int .i64 0)))),io 39 (.ld false (some 8) (.t 38)),io 40 (.call false (.f 12) [(.t 39)]),io 41 (.iad (some 2) 8 (.t 3) (.c (.d (.int .i64 1)))),io 42 (.ld false (some 8) (.t 41)),io 43 (.call false (.f 12) [(.t 42)]),io 44 (.call false (.f 11) [(.t 40),(.t 43)]),io 37 (.mvt (.t 44)),io 45 (.ext false (.t 37) 0),io 46 (.ext false (.t 37) 1),mo 9 45,mo 10 46] [38,41] true) (hold r3_K0)
@[go_sem] def r3_K2 (_ : Unit) : RCode := .seq (.seq (.reg [mo 16 6,io 17 (.iad (some 2) 8 (.t 3) (.c (.d (.int .i64 0)))),io 18 (.ld false (some 8) (.t 17)),io 19 (.call false (.f 8) [(.t 16),(.t 18)]),io 20 (.un .not (.t 19)),mo 21 20,⟨some 22,some (21,false),.mv false (.t 6)⟩,⟨some 23,some (21,false),.iad (some 2) 8 (.t 3) (.c (.d (.int .i64 1)))⟩,⟨some 24,some (21,false),.ld false (some 8) (.t 23)⟩,⟨some 25,some (21,false),.call false (.f 8) [(.t 22),(.t 24)]⟩,⟨some 26,some (21,false),.un .not (.t 25)⟩,io 27 (.pick (.t 21) (.c (.d (.bool true))) (.t 26))] [17,23] false) (.cond (.t 27) (.seq (.reg [io 28 (.call false (.f 9) []),mo 4 28] [] false) (.ret [.kill,.kill,.kill,.kill,.keep])) (.skip))) (.seq (.reg [io 30 (.iad (some 2) 8 (.t 3) (.c (.d (.int .i64 0)))),io 31 (.ld false (some 8) (.t 30)),io 32 (.iad (some 2) 8 (.t 3) (.c (.d (.int .i64 1)))),io 33 (.ld false (some 8) (.t 32)),io 34 (.call false (.f 10) [(.t 31),(.t 33)]),io 29 (.mvt (.t 34)),io 35 (.ext false (.t 29) 0),io 36 (.ext false (.t 29) 1),mo 7 35,mo 8 36] [30,32] false) (hold r3_K1))
def r3_T : RCode := .seq (.reg [io 3 (.bx false true (.t 1)),io 4 (.mv false (.c (.d (.bool false))))] [] false) (.seq (.reg [mo 12 0,io 13 (.call false (.f 7) [(.t 12)]),io 11 (.mvt (.t 13)),io 14 (.ext false (.t 11) 0),io 15 (.ext false (.t 11) 1),mo 5 14,mo 6 15] [] false) (hold r3_K2))
def r3 : RFunc := ⟨79,true,[.t 4],r3_T⟩
def tl : Tabl := [(23,r23),(103,r103),(61,r61),(62,r62),(63,r63),(64,r64),(104,r104),(105,r105),(65,r65),(24,r24),(25,r25),(7,r7),(12,r12),(56,r56),(86,r86),(42,r42),(89,r89),(57,r57),(90,r90),(99,r99),(98,r98),(130,r130),(101,r101),(58,r58),(20,r20),(66,r66),(67,r67),(26,r26),(8,r8),(102,r102),(59,r59),(22,r22),(31,r31),(30,r30),(13,r13),(33,r33),(135,r135),(107,r107),(69,r69),(136,r136),(108,r108),(131,r131),(163,r163),(160,r160),(184,r184),(161,r161),(162,r162),(132,r132),(133,r133),(134,r134),(106,r106),(68,r68),(70,r70),(28,r28),(10,r10),(145,r145),(146,r146),(138,r138),(170,r170),(147,r147),(118,r118),(85,r85),(39,r39),(40,r40),(37,r37),(16,r16),(27,r27),(9,r9),(71,r71),(72,r72),(125,r125),(127,r127),(126,r126),(109,r109),(128,r128),(129,r129),(137,r137),(110,r110),(73,r73),(74,r74),(75,r75),(76,r76),(29,r29),(11,r11),(14,r14),(3,r3)]
def pl : List (Nat × (List PV → Option PV)) := []
def pf : Nat → Bool := pfOf tl []
def ml : List (Nat × (List PV → Option (List D))) := []
def tab : Nat → Option FnD := tabOf tl pl ml
theorem pf_ok0 : PfOk pf tab := tabOf_pf tl pl ml _ rfl
theorem pf_okI : PfOk pf tab := pf_ok0
theorem pf_ok : PfOk pf tab := pf_okI
theorem pl_ok : ∀ p ∈ pl,PrimSound Go.Proofs.Tryz.prog p.1 p.2 := by
  intro p hp
  simp only [pl,List.mem_cons,List.not_mem_nil,or_false] at hp

theorem ml_ok : ∀ p ∈ ml,MkSound Go.Proofs.Tryz.prog p.1 p.2 := by
  intro p hp
  simp only [ml,List.mem_cons,List.not_mem_nil,or_false] at hp

theorem all_ok : tabAll Go.Proofs.Tryz.prog pf tl = true := by kernel_rfl
theorem tab_ok : TabOk Go.Proofs.Tryz.prog pf tab := tabOf_ok all_ok pl_ok ml_ok
theorem t23 : tab 23 = some (.code r23) := rfl
theorem f23 {a0 : PV} {hp : List Ent} {out : Out} (hh : PV.hfrees [a0] = true) (h : fnEnd r23 hp (V (F tab) r23_T ⟨a0 :: z32 (z8 (z8 (z8 (z2 ([]))))),[]⟩) = some out) : F tab 23 [a0] hp = some out := F_code t23 (by rw [hh]; rfl) h
theorem t63 : tab 63 = some (.code r63) := rfl
theorem f63 {a0 a1 : PV} {hp : List Ent} {out : Out} (hh : PV.hfrees [a0,a1] = true) (h : fnEnd r63 hp (V (F tab) r63_T ⟨a0 :: a1 :: z32 (z8 (z8 (z2 ([])))),[]⟩) = some out) : F tab 63 [a0,a1] hp = some out := F_code t63 (by rw [hh]; rfl) h
theorem t64 : tab 64 = some (.code r64) := rfl
theorem f64 {a0 a1 : PV} {hp : List Ent} {out : Out} (hh : PV.hfrees [a0,a1] = true) (h : fnEnd r64 hp (V (F tab) r64_T ⟨a0 :: a1 :: z8 (z8 (z8 (z2 (.dead :: [])))),[]⟩) = some out) : F tab 64 [a0,a1] hp = some out := F_code t64 (by rw [hh]; rfl) h
theorem t104 : tab 104 = some (.code r104) := rfl
theorem f104 {a0 : PV} {hp : List Ent} {out : Out} (hh : PV.hfrees [a0] = true) (h : fnEnd r104 hp (V (F tab) r104_T ⟨a0 :: z8 (z8 (z4 (z2 (.dead :: [])))),[]⟩) = some out) : F tab 104 [a0] hp = some out := F_code t104 (by rw [hh]; rfl) h
theorem t105 : tab 105 = some (.code r105) := rfl
theorem f105 {a0 a1 a2 a3 : PV} {hp : List Ent} {out : Out} (hh : PV.hfrees [a0,a1,a2,a3] = true) (h : fnEnd r105 hp (V (F tab) r105_T ⟨a0 :: a1 :: a2 :: a3 :: z32 (z8 (z8 (z8 (z2 ([]))))),[]⟩) = some out) : F tab 105 [a0,a1,a2,a3] hp = some out := F_code t105 (by rw [hh]; rfl) h
theorem t65 : tab 65 = some (.code r65) := rfl
theorem f65 {a0 a1 : PV} {hp : List Ent} {out : Out} (h : fnEnd r65 hp (V (F tab) r65_T ⟨a0 :: a1 :: z32 (z32 (z32 (z4 (z2 ([]))))),hp⟩) = some out) : F tab 65 [a0,a1] hp = some out := F_code t65 rfl h
theorem t24 : tab 24 = some (.code r24) := rfl
theorem f24 {a0 : PV} {hp : List Ent} {out : Out} (hh : PV.hfrees [a0] = true) (h : fnEnd r24 hp (V (F tab) r24_T ⟨a0 :: z32 (z8 (z4 (.dead :: []))),[]⟩) = some out) : F tab 24 [a0] hp = some out := F_code t24 (by rw [hh]; rfl) h
theorem t25 : tab 25 = some (.code r25) := rfl
theorem f25 {a0 : PV} {hp : List Ent} {out : Out} (hh : PV.hfrees [a0] = true) (h : fnEnd r25 hp (V (F tab) r25_T ⟨a0 :: z32 (z8 (z8 (z4 (z2 (.dead :: []))))),[]⟩) = some out) : F tab 25 [a0] hp = some out := F_code t25 (by rw [hh]; rfl) h
theorem t7 : tab 7 = some (.code r7) := rfl
theorem f7 {a0 : PV} {hp : List Ent} {out : Out} (hh : PV.hfrees [a0] = true) (h : fnEnd r7 hp (V (F tab) r7_T ⟨a0 :: z8 (z8 ([])),[]⟩) = some out) : F tab 7 [a0] hp = some out := F_code t7 (by rw [hh]; rfl) h
theorem t12 : tab 12 = some (.code r12) := rfl
theorem f12 {a0 : PV} {hp : List Ent} {out : Out} (hh : PV.hfrees [a0] = true) (h : fnEnd r12 hp (V (F tab) r12_T ⟨a0 :: z32 (z4 (z2 ([]))),[]⟩) = some out) : F tab 12 [a0] hp = some out := F_code t12 (by rw [hh]; rfl) h
theorem t56 : tab 56 = some (.code r56) := rfl
theorem f56 {a0 a1 : PV} {hp : List Ent} {out : Out} (hh : PV.hfrees [a0,a1] = true) (h : fnEnd r56 hp (V (F tab) r56_T ⟨a0 :: a1 :: z8 (z8 (z8 (z4 (.dead :: [])))),[]⟩) = some out) : F tab 56 [a0,a1] hp = some out := F_code t56 (by rw [hh]; rfl) h
theorem t86 : tab 86 = some (.code r86) := rfl
theorem f86 {a0 a1 a2 : PV} {hp : List Ent} {out : Out} (hh : PV.hfrees [a0,a1,a2] = true) (h : fnEnd r86 hp (V (F tab) r86_T ⟨a0 :: a1 :: a2 :: z32 (z32 (z4 ([]))),[]⟩) = some out) : F tab 86 [a0,a1,a2] hp = some out := F_code t86 (by rw [hh]; rfl) h
theorem t42 : tab 42 = some (.code r42) := rfl
theorem f42 {a0 a1 a2 : PV} {hp : List Ent} {out : Out} (hh : PV.hfrees [a0,a1,a2] = true) (h : fnEnd r42 hp (V (F tab) r42_T ⟨a0 :: a1 :: a2 :: z8 (z2 ([])),[]⟩) = some out) : F tab 42 [a0,a1,a2] hp = some out := F_code t42 (by rw [hh]; rfl) h
theorem t89 : tab 89 = some (.code r89) := rfl
theorem f89 {a0 a1 : PV} {hp : List Ent} {out : Out} (hh : PV.hfrees [a0,a1] = true) (h : fnEnd r89 hp (V (F tab) r89_T ⟨a0 :: a1 :: z8 (z8 (z8 (.dead :: []))),[]⟩) = some out) : F tab 89 [a0,a1] hp = some out := F_code t89 (by rw [hh]; rfl) h
theorem t57 : tab 57 = some (.code r57) := rfl
theorem f57 {a0 a1 : PV} {hp : List Ent} {out : Out} (hh : PV.hfrees [a0,a1] = true) (h : fnEnd r57 hp (V (F tab) r57_T ⟨a0 :: a1 :: z8 (z8 (z8 (.dead :: []))),[]⟩) = some out) : F tab 57 [a0,a1] hp = some out := F_code t57 (by rw [hh]; rfl) h
theorem t90 : tab 90 = some (.code r90) := rfl
theorem f90 {a0 : PV} {hp : List Ent} {out : Out} (hh : PV.hfrees [a0] = true) (h : fnEnd r90 hp (V (F tab) r90_T ⟨a0 :: z8 (z8 (z8 (z4 (.dead :: [])))),[]⟩) = some out) : F tab 90 [a0] hp = some out := F_code t90 (by rw [hh]; rfl) h
theorem t99 : tab 99 = some (.code r99) := rfl
theorem f99 {a0 : PV} {hp : List Ent} {out : Out} (hh : PV.hfrees [a0] = true) (h : fnEnd r99 hp (V (F tab) r99_T ⟨a0 :: z32 (z8 (z8 (z4 (.dead :: [])))),[]⟩) = some out) : F tab 99 [a0] hp = some out := F_code t99 (by rw [hh]; rfl) h
theorem t98 : tab 98 = some (.code r98) := rfl
theorem f98 {a0 : PV} {hp : List Ent} {out : Out} (hh : PV.hfrees [a0] = true) (h : fnEnd r98 hp (V (F tab) r98_T ⟨a0 :: z32 (z32 (z32 (z8 (.dead :: [])))),[]⟩) = some out) : F tab 98 [a0] hp = some out := F_code t98 (by rw [hh]; rfl) h
theorem t130 : tab 130 = some (.code r130) := rfl
theorem f130 {a0 : PV} {hp : List Ent} {out : Out} (hh : PV.hfrees [a0] = true) (h : fnEnd r130 hp (V (F tab) r130_T ⟨a0 :: z32 (z8 (z8 (z8 (.dead :: [])))),[]⟩) = some out) : F tab 130 [a0] hp = some out := F_code t130 (by rw [hh]; rfl) h
theorem t101 : tab 101 = some (.code r101) := rfl
theorem f101 {a0 a1 : PV} {hp : List Ent} {out : Out} (hh : PV.hfrees [a0,a1] = true) (h : fnEnd r101 hp (V (F tab) r101_T ⟨a0 :: a1 :: z32 (z32 (z32 (z8 (z8 (z8 ([])))))),[]⟩) = some out) : F tab 101 [a0,a1] hp = some out := F_code t101 (by rw [hh]; rfl) h
theorem t58 : tab 58 = some (.code r58) := rfl
theorem f58 {a0 : PV} {hp : List Ent} {out : Out} (hh : PV.hfrees [a0] = true) (h : fnEnd r58 hp (V (F tab) r58_T ⟨a0 :: z32 (z32 (.dead :: [])),[]⟩) = some out) : F tab 58 [a0] hp = some out := F_code t58 (by rw [hh]; rfl) h
theorem t20 : tab 20 = some (.code r20) := rfl
theorem f20 {a0 a1 : PV} {hp : List Ent} {out : Out} (hh : PV.hfrees [a0,a1] = true) (h : fnEnd r20 hp (V (F tab) r20_T ⟨a0 :: a1 :: z8 (z8 ([])),[]⟩) = some out) : F tab 20 [a0,a1] hp = some out := F_code t20 (by rw [hh]; rfl) h
theorem t66 : tab 66 = some (.code r66) := rfl
theorem f66 {a0 a1 a2 : PV} {hp : List Ent} {out : Out} (hh : PV.hfrees [a0,a1,a2] = true) (h : fnEnd r66 hp (V (F tab) r66_T ⟨a0 :: a1 :: a2 :: z8 (z8 (z8 (z2 (.dead :: [])))),[]⟩) = some out) : F tab 66 [a0,a1,a2] hp = some out := F_code t66 (by rw [hh]; rfl) h
theorem t67 : tab 67 = some (.code r67) := rfl
theorem f67 {a0 a1 : PV} {hp : List Ent} {out : Out} (hh : PV.hfrees [a0,a1] = true) (h : fnEnd r67 hp (V (F tab) r67_T ⟨a0 :: a1 :: z8 (z8 (z4 (z2 ([])))),[]⟩) = some out) : F tab 67 [a0,a1] hp = some out := F_code t67 (by rw [hh]; rfl) h
theorem t26 : tab 26 = some (.code r26) := rfl
theorem f26 {a0 a1 : PV} {hp : List Ent} {out : Out} (hh : PV.hfrees [a0,a1] = true) (h : fnEnd r26 hp (V (F tab) r26_T ⟨a0 :: a1 :: z8 (z4 (.dead :: [])),[]⟩) = some out) : F tab 26 [a0,a1] hp = some out := F_code t26 (by rw [hh]; rfl) h
theorem t8 : tab 8 = some (.code r8) := rfl
theorem f8 {a0 a1 : PV} {hp : List Ent} {out : Out} (hh : PV.hfrees [a0,a1] = true) (h : fnEnd r8 hp (V (F tab) r8_T ⟨a0 :: a1 :: z8 (z2 ([])),[]⟩) = some out) : F tab 8 [a0,a1] hp = some out := F_code t8 (by rw [hh]; rfl) h
theorem t31 : tab 31 = some (.code r31) := rfl
theorem f31 {a0 : PV} {hp : List Ent} {out : Out} (hh : PV.hfrees [a0] = true) (h : fnEnd r31 hp (V (F tab) r31_T ⟨a0 :: z8 (.dead :: []),[]⟩) = some out) : F tab 31 [a0] hp = some out := F_code t31 (by rw [hh]; rfl) h
theorem t30 : tab 30 = some (.code r30) := rfl
theorem f30 {a0 : PV} {hp : List Ent} {out : Out} (hh : PV.hfrees [a0] = true) (h : fnEnd r30 hp (V (F tab) r30_T ⟨a0 :: z8 (z2 ([])),[]⟩) = some out) : F tab 30 [a0] hp = some out := F_code t30 (by rw [hh]; rfl) h
theorem t13 : tab 13 = some (.code r13) := rfl
theorem f13 {a0 : PV} {hp : List Ent} {out : Out} (hh : PV.hfrees [a0] = true) (h : fnEnd r13 hp (V (F tab) r13_T ⟨[a0,.dead,.dead,.dead,.dead,.dead],[]⟩) = some out) : F tab 13 [a0] hp = some out := F_code t13 (by rw [hh]; rfl) h
theorem t135 : tab 135 = some (.code r135) := rfl
theorem f135 {a0 : PV} {hp : List Ent} {out : Out} (hh : PV.hfrees [a0] = true) (h : fnEnd r135 hp (V (F tab) r135_T ⟨[a0,.dead,.dead,.dead,.dead,.dead],[]⟩) = some out) : F tab 135 [a0] hp = some out := F_code t135 (by rw [hh]; rfl) h
theorem t107 : tab 107 = some (.code r107) := rfl
theorem f107 {a0 a1 : PV} {hp : List Ent} {out : Out} (hh : PV.hfrees [a0,a1] = true) (h : fnEnd r107 hp (V (F tab) r107_T ⟨a0 :: a1 :: z8 (z8 (z2 ([]))),[]⟩) = some out) : F tab 107 [a0,a1] hp = some out := F_code t107 (by rw [hh]; rfl) h
theorem t69 : tab 69 = some (.code r69) := rfl
theorem f69 {a0 a1 : PV} {hp : List Ent} {out : Out} (hh : PV.hfrees [a0,a1] = true) (h : fnEnd r69 hp (V (F tab) r69_T ⟨a0 :: a1 :: z32 (z2 ([])),[]⟩) = some out) : F tab 69 [a0,a1] hp = some out := F_code t69 (by rw [hh]; rfl) h
theorem t136 : tab 136 = some (.code r136) := rfl
theorem f136 {a0 : PV} {hp : List Ent} {out : Out} (hh : PV.hfrees [a0] = true) (h : fnEnd r136 hp (V (F tab) r136_T ⟨[a0,.dead,.dead,.dead,.dead,.dead],[]⟩) = some out) : F tab 136 [a0] hp = some out := F_code t136 (by rw [hh]; rfl) h
theorem t108 : tab 108 = some (.code r108) := rfl
theorem f108 {a0 a1 : PV} {hp : List Ent} {out : Out} (hh : PV.hfrees [a0,a1] = true) (h : fnEnd r108 hp (V (F tab) r108_T ⟨a0 :: a1 :: z8 (z8 (z2 ([]))),[]⟩) = some out) : F tab 108 [a0,a1] hp = some out := F_code t108 (by rw [hh]; rfl) h
theorem t131 : tab 131 = some (.code r131) := rfl
theorem f131 {a0 : PV} {hp : List Ent} {out : Out} (hh : PV.hfrees [a0] = true) (h : fnEnd r131 hp (V (F tab) r131_T ⟨a0 :: z8 (.dead :: []),[]⟩) = some out) : F tab 131 [a0] hp = some out := F_code t131 (by rw [hh]; rfl) h
theorem t163 : tab 163 = some (.code r163) := rfl
theorem f163 {a0 : PV} {hp : List Ent} {out : Out} (hh : PV.hfrees [a0] = true) (h : fnEnd r163 hp (V (F tab) r163_T ⟨a0 :: z8 (z8 (z8 (z4 (.dead :: [])))),[]⟩) = some out) : F tab 163 [a0] hp = some out := F_code t163 (by rw [hh]; rfl) h
theorem t160 : tab 160 = some (.code r160) := rfl
theorem f160 {a0 a1 : PV} {hp : List Ent} {out : Out} (hh : PV.hfrees [a0,a1] = true) (h : fnEnd r160 hp (V (F tab) r160_T ⟨a0 :: a1 :: z8 (.dead :: []),[]⟩) = some out) : F tab 160 [a0,a1] hp = some out := F_code t160 (by rw [hh]; rfl) h
theorem t184 : tab 184 = some (.code r184) := rfl
theorem f184 {a0 : PV} {hp : List Ent} {out : Out} (hh : PV.hfrees [a0] = true) (h : fnEnd r184 hp (V (F tab) r184_T ⟨a0 :: z8 (z2 ([])),[]⟩) = some out) : F tab 184 [a0] hp = some out := F_code t184 (by rw [hh]; rfl) h
theorem t161 : tab 161 = some (.code r161) := rfl
theorem f161 {a0 : PV} {hp : List Ent} {out : Out} (hh : PV.hfrees [a0] = true) (h : fnEnd r161 hp (V (F tab) r161_T ⟨a0 :: z8 (z8 (z4 ([]))),[]⟩) = some out) : F tab 161 [a0] hp = some out := F_code t161 (by rw [hh]; rfl) h
theorem t162 : tab 162 = some (.code r162) := rfl
theorem f162 {a0 a1 : PV} {hp : List Ent} {out : Out} (hh : PV.hfrees [a0,a1] = true) (h : fnEnd r162 hp (V (F tab) r162_T ⟨a0 :: a1 :: z8 (z2 (.dead :: [])),[]⟩) = some out) : F tab 162 [a0,a1] hp = some out := F_code t162 (by rw [hh]; rfl) h
theorem t132 : tab 132 = some (.code r132) := rfl
theorem f132 {a0 a1 : PV} {hp : List Ent} {out : Out} (hh : PV.hfrees [a0,a1] = true) (h : fnEnd r132 hp (V (F tab) r132_T ⟨a0 :: a1 :: z8 (z8 (z8 (z4 (z2 ([]))))),[]⟩) = some out) : F tab 132 [a0,a1] hp = some out := F_code t132 (by rw [hh]; rfl) h
theorem t133 : tab 133 = some (.code r133) := rfl
theorem f133 {a0 : PV} {hp : List Ent} {out : Out} (hh : PV.hfrees [a0] = true) (h : fnEnd r133 hp (V (F tab) r133_T ⟨a0 :: z4 (z2 (.dead :: [])),[]⟩) = some out) : F tab 133 [a0] hp = some out := F_code t133 (by rw [hh]; rfl) h
theorem t134 : tab 134 = some (.code r134) := rfl
theorem f134 {a0 a1 a2 : PV} {hp : List Ent} {out : Out} (h : fnEnd r134 hp (V (F tab) r134_T ⟨a0 :: a1 :: a2 :: z32 (z8 ([])),hp⟩) = some out) : F tab 134 [a0,a1,a2] hp = some out := F_code t134 rfl h
theorem t106 : tab 106 = some (.code r106) := rfl
theorem f106 {a0 a1 a2 : PV} {hp : List Ent} {out : Out} (h : fnEnd r106 hp (V (F tab) r106_T ⟨a0 :: a1 :: a2 :: z32 (z32 (z4 (z2 (.dead :: [])))),hp⟩) = some out) : F tab 106 [a0,a1,a2] hp = some out := F_code t106 rfl h
theorem t68 : tab 68 = some (.code r68) := rfl
theorem f68 {a0 a1 : PV} {hp : List Ent} {out : Out} (hh : PV.hfrees [a0,a1] = true) (h : fnEnd r68 hp (V (F tab) r68_T ⟨a0 :: a1 :: z8 (z8 (z2 ([]))),[]⟩) = some out) : F tab 68 [a0,a1] hp = some out := F_code t68 (by rw [hh]; rfl) h
theorem t70 : tab 70 = some (.code r70) := rfl
theorem f70 {a0 a1 a2 : PV} {hp : List Ent} {out : Out} (h : fnEnd r70 hp (V (F tab) r70_T ⟨a0 :: a1 :: a2 :: z32 (z8 ([])),hp⟩) = some out) : F tab 70 [a0,a1,a2] hp = some out := F_code t70 rfl h
theorem t28 : tab 28 = some (.code r28) := rfl
theorem f28 {a0 a1 a2 : PV} {hp : List Ent} {out : Out} (h : fnEnd r28 hp (V (F tab) r28_T ⟨a0 :: a1 :: a2 :: z32 (z8 (z8 (z8 (z4 (z2 (.dead :: [])))))),hp⟩) = some out) : F tab 28 [a0,a1,a2] hp = some out := F_code t28 rfl h
theorem t10 : tab 10 = some (.code r10) := rfl
theorem f10 {a0 a1 : PV} {hp : List Ent} {out : Out} (hh : PV.hfrees [a0,a1] = true) (h : fnEnd r10 hp (V (F tab) r10_T ⟨a0 :: a1 :: z8 (z8 (z2 ([]))),[]⟩) = some out) : F tab 10 [a0,a1] hp = some out := F_code t10 (by rw [hh]; rfl) h
theorem t9 : tab 9 = some (.code r9) := rfl
theorem f9 {hp : List Ent} {out : Out} (hh : PV.hfrees [] = true) (h : fnEnd r9 hp (V (F tab) r9_T ⟨z8 (z8 (z8 (z2 (.dead :: [])))),[]⟩) = some out) : F tab 9 [] hp = some out := F_code t9 (by rw [hh]; rfl) h
theorem t71 : tab 71 = some (.code r71) := rfl
theorem f71 {a0 a1 : PV} {hp : List Ent} {out : Out} (hh : PV.hfrees [a0,a1] = true) (h : fnEnd r71 hp (V (F tab) r71_T ⟨a0 :: a1 :: z8 (.dead :: []),[]⟩) = some out) : F tab 71 [a0,a1] hp = some out := F_code t71 (by rw [hh]; rfl) h
theorem t72 : tab 72 = some (.code r72) := rfl
theorem f72 {a0 : PV} {hp : List Ent} {out : Out} (hh : PV.hfrees [a0] = true) (h : fnEnd r72 hp (V (F tab) r72_T ⟨a0 :: z8 (.dead :: []),[]⟩) = some out) : F tab 72 [a0] hp = some out := F_code t72 (by rw [hh]; rfl) h
theorem t125 : tab 125 = some (.code r125) := rfl
theorem f125 {a0 : PV} {hp : List Ent} {out : Out} (hh : PV.hfrees [a0] = true) (h : fnEnd r125 hp (V (F tab) r125_T ⟨a0 :: z8 (z8 (z8 ([]))),[]⟩) = some out) : F tab 125 [a0] hp = some out := F_code t125 (by rw [hh]; rfl) h
theorem t127 : tab 127 = some (.code r127) := rfl
theorem f127 {a0 : PV} {hp : List Ent} {out : Out} (hh : PV.hfrees [a0] = true) (h : fnEnd r127 hp (V (F tab) r127_T ⟨a0 :: z8 (z8 (z8 (z4 ([])))),[]⟩) = some out) : F tab 127 [a0] hp = some out := F_code t127 (by rw [hh]; rfl) h
theorem t126 : tab 126 = some (.code r126) := rfl
theorem f126 {a0 a1 : PV} {hp : List Ent} {out : Out} (hh : PV.hfrees [a0,a1] = true) (h : fnEnd r126 hp (V (F tab) r126_T ⟨a0 :: a1 :: z8 (z8 (z4 (z2 ([])))),[]⟩) = some out) : F tab 126 [a0,a1] hp = some out := F_code t126 (by rw [hh]; rfl) h
theorem t109 : tab 109 = some (.code r109) := rfl
theorem f109 {a0 a1 : PV} {hp : List Ent} {out : Out} (hh : PV.hfrees [a0,a1] = true) (h : fnEnd r109 hp (V (F tab) r109_T ⟨a0 :: a1 :: z8 (z8 (z8 (z4 (z2 (.dead :: []))))),[]⟩) = some out) : F tab 109 [a0,a1] hp = some out := F_code t109 (by rw [hh]; rfl) h
theorem t128 : tab 128 = some (.code r128) := rfl
theorem f128 {a0 a1 : PV} {hp : List Ent} {out : Out} (hh : PV.hfrees [a0,a1] = true) (h : fnEnd r128 hp (V (F tab) r128_T ⟨a0 :: a1 :: z32 (z4 (z2 (.dead :: []))),[]⟩) = some out) : F tab 128 [a0,a1] hp = some out := F_code t128 (by rw [hh]; rfl) h
theorem t129 : tab 129 = some (.code r129) := rfl
theorem f129 {a0 a1 : PV} {hp : List Ent} {out : Out} (hh : PV.hfrees [a0,a1] = true) (h : fnEnd r129 hp (V (F tab) r129_T ⟨a0 :: a1 :: z32 (z4 (z2 ([]))),[]⟩) = some out) : F tab 129 [a0,a1] hp = some out := F_code t129 (by rw [hh]; rfl) h
theorem t137 : tab 137 = some (.code r137) := rfl
theorem f137 {a0 a1 : PV} {hp : List Ent} {out : Out} (hh : PV.hfrees [a0,a1] = true) (h : fnEnd r137 hp (V (F tab) r137_T ⟨a0 :: a1 :: z32 (z8 (z8 (z4 ([])))),[]⟩) = some out) : F tab 137 [a0,a1] hp = some out := F_code t137 (by rw [hh]; rfl) h
theorem t110 : tab 110 = some (.code r110) := rfl
theorem f110 {a0 a1 : PV} {hp : List Ent} {out : Out} (hh : PV.hfrees [a0,a1] = true) (h : fnEnd r110 hp (V (F tab) r110_T ⟨a0 :: a1 :: z32 (z8 ([])),[]⟩) = some out) : F tab 110 [a0,a1] hp = some out := F_code t110 (by rw [hh]; rfl) h
theorem t73 : tab 73 = some (.code r73) := rfl
theorem f73 {a0 a1 : PV} {hp : List Ent} {out : Out} (hh : PV.hfrees [a0,a1] = true) (h : fnEnd r73 hp (V (F tab) r73_T ⟨a0 :: a1 :: z8 (z8 (z8 (z4 ([])))),[]⟩) = some out) : F tab 73 [a0,a1] hp = some out := F_code t73 (by rw [hh]; rfl) h
theorem t74 : tab 74 = some (.code r74) := rfl
theorem f74 {a0 : PV} {hp : List Ent} {out : Out} (hh : PV.hfrees [a0] = true) (h : fnEnd r74 hp (V (F tab) r74_T ⟨a0 :: z4 (z2 ([])),[]⟩) = some out) : F tab 74 [a0] hp = some out := F_code t74 (by rw [hh]; rfl) h
theorem t75 : tab 75 = some (.code r75) := rfl
theorem f75 {a0 a1 : PV} {hp : List Ent} {out : Out} (hh : PV.hfrees [a0,a1] = true) (h : fnEnd r75 hp (V (F tab) r75_T ⟨a0 :: a1 :: z32 (z4 (.dead :: [])),[]⟩) = some out) : F tab 75 [a0,a1] hp = some out := F_code t75 (by rw [hh]; rfl) h
theorem t76 : tab 76 = some (.code r76) := rfl
theorem f76 {a0 a1 : PV} {hp : List Ent} {out : Out} (hh : PV.hfrees [a0,a1] = true) (h : fnEnd r76 hp (V (F tab) r76_T ⟨a0 :: a1 :: z32 (z2 ([])),[]⟩) = some out) : F tab 76 [a0,a1] hp = some out := F_code t76 (by rw [hh]; rfl) h
theorem t29 : tab 29 = some (.code r29) := rfl
theorem f29 {a0 a1 a2 : PV} {hp : List Ent} {out : Out} (hh : PV.hfrees [a0,a1,a2] = true) (h : fnEnd r29 hp (V (F tab) r29_T ⟨a0 :: a1 :: a2 :: z32 (z32 (z32 (z4 (z2 ([]))))),[]⟩) = some out) : F tab 29 [a0,a1,a2] hp = some out := F_code t29 (by rw [hh]; rfl) h
theorem t11 : tab 11 = some (.code r11) := rfl
theorem f11 {a0 a1 : PV} {hp : List Ent} {out : Out} (hh : PV.hfrees [a0,a1] = true) (h : fnEnd r11 hp (V (F tab) r11_T ⟨a0 :: a1 :: z8 (z4 (z2 (.dead :: []))),[]⟩) = some out) : F tab 11 [a0,a1] hp = some out := F_code t11 (by rw [hh]; rfl) h
theorem t14 : tab 14 = some (.code r14) := rfl
theorem f14 {a0 : PV} {hp : List Ent} {out : Out} (hh : PV.hfrees [a0] = true) (h : fnEnd r14 hp (V (F tab) r14_T ⟨a0 :: z8 (z2 ([])),[]⟩) = some out) : F tab 14 [a0] hp = some out := F_code t14 (by rw [hh]; rfl) h
theorem t3 : tab 3 = some (.code r3) := rfl
theorem f3 {a0 a1 : PV} {hp : List Ent} {out : Out} (hh : PV.hfrees [a0,a1] = true) (h : fnEnd r3 hp (V (F tab) r3_T ⟨a0 :: a1 :: z32 (z32 (z8 (z4 (.dead :: [])))),[]⟩) = some out) : F tab 3 [a0,a1] hp = some out := F_code t3 (by rw [hh]; rfl) h
end Go.Pe.T

namespace Go.Pe.T
def tbx (T : List Bool) : List PV := T.map fun b => .d (.bool b)
def tbD (T : List Bool) : List D := T.map .bool
theorem tbx_len (T : List Bool) : (tbx T).length = T.length := by simp [tbx]
theorem tbD_len (T : List Bool) : (tbD T).length = T.length := by simp [tbD]
theorem tbx_get {T : List Bool} {o : Nat} (h : o < T.length) : (tbx T)[o]? = some (.d (.bool (T.getD o false))) := by
  unfold tbx
  rw [List.getElem?_map, List.getElem?_eq_getElem h, List.getD_eq_getElem?_getD, List.getElem?_eq_getElem h]
  rfl
theorem tbx_set (T : List Bool) (o : Nat) (v : Bool) : (tbx T).set o (.d (.bool v)) = tbx (T.set o v) := by
  unfold tbx
  rw [List.map_set]
theorem sc_app : ∀ (ds : List D) (cs : List PV) (pre : List PV), cs.length = ds.length → setCells (pre ++ cs) pre.length ds = pre ++ ds.map .d
  | [], cs, pre, h => by
    have : cs = [] := List.eq_nil_of_length_eq_zero (by simpa using h)
    subst this
    rfl
  | d :: ds, [], pre, h => by simp at h
  | d :: ds, c :: cs, pre, h => by
    have ih := sc_app ds cs (pre ++ [.d d]) (by simpa using h)
    rw [setCells]
    have e : (pre ++ c :: cs).set pre.length (.d d) = pre ++ [.d d] ++ cs := by
      rw [List.set_append_right _ _ (Nat.le_refl _), Nat.sub_self]
      simp
    rw [e]
    simp only [List.length_append, List.length_cons, List.length_nil, Nat.zero_add] at ih
    rw [ih]
    simp
theorem sc_all {ds : List D} {cs : List PV} (h : cs.length = ds.length) : setCells cs 0 ds = ds.map .d := sc_app ds cs [] h
theorem optD : ∀ (l : List D), optAll ((l.map PV.d).map PV.toD) = some l
  | [] => rfl
  | x :: l => by
    rw [List.map_cons, List.map_cons]
    show (optAll ((l.map PV.d).map PV.toD)).map (x :: ·) = _
    rw [optD l]
    rfl
theorem tb_map (T : List Bool) : (tbD T).map PV.d = tbx T := by simp [tbD, tbx]
theorem sc_z (T : List Bool) (h : T.length = 64) : setCells [.d (.bool false), .d (.bool false), .d (.bool false), .d (.bool false), .d (.bool false), .d (.bool false), .d (.bool false), .d (.bool false), .d (.bool false), .d (.bool false), .d (.bool false), .d (.bool false), .d (.bool false), .d (.bool false), .d (.bool false), .d (.bool false), .d (.bool false), .d (.bool false), .d (.bool false), .d (.bool false), .d (.bool false), .d (.bool false), .d (.bool false), .d (.bool false), .d (.bool false), .d (.bool false), .d (.bool false), .d (.bool false), .d (.bool false), .d (.bool false), .d (.bool false), .d (.bool false), .d (.bool false), .d (.bool false), .d (.bool false), .d (.bool false), .d (.bool false), .d (.bool false), .d (.bool false), .d (.bool false), .d (.bool false), .d (.bool false), .d (.bool false), .d (.bool false), .d (.bool false), .d (.bool false), .d (.bool false), .d (.bool false), .d (.bool false), .d (.bool false), .d (.bool false), .d (.bool false), .d (.bool false), .d (.bool false), .d (.bool false), .d (.bool false), .d (.bool false), .d (.bool false), .d (.bool false), .d (.bool false), .d (.bool false), .d (.bool false), .d (.bool false), .d (.bool false)] 0 (tbD T) = tbx T := by
  rw [sc_all (by rw [tbD_len, h]; rfl), tb_map]
theorem sc_tb (S T : List Bool) (h : S.length = 64) (h2 : T.length = 64) : setCells (tbx S) 0 (tbD T) = tbx T := by
  rw [sc_all (by rw [tbD_len, tbx_len, h, h2]), tb_map]
theorem ca_tb (T : List Bool) : optAll ((tbx T).map PV.toD) = some (tbD T) := by rw [← tb_map, optD]
theorem take_tb (T : List Bool) (h : T.length = 64) : (tbx T).take 64 = tbx T := List.take_of_length_le (by rw [tbx_len, h]; exact Nat.le_refl _)
def ix (a b : Nat) : Nat := a * 8 + b * 1
theorem ix_lt {a b : Nat} (ha : a < 8) (hb : b < 8) : ix a b < 64 := by unfold ix; omega
def zt64 : List Bool := List.replicate 64 false
end Go.Pe.T

namespace Go.Pe.T
def tnS (T : List Bool) (a b : Nat) (U : List Bool) : List Bool := U.set (ix b a) (T.getD (ix a b) false)
def tnJ (T : List Bool) (a : Nat) : Nat → Nat → List Bool → List Bool
  | 0, b, U => U
  | j + 1, b, U => tnJ T a j (b + 1) (tnS T a b U)
def tnI (T : List Bool) : Nat → Nat → List Bool → List Bool
  | 0, a, U => U
  | j + 1, a, U => tnI T j (a + 1) (tnJ T a 8 0 U)
theorem tnS_len (T : List Bool) (a b : Nat) (U : List Bool) : (tnS T a b U).length = U.length := by simp [tnS]
theorem tnJ_len (T : List Bool) (a : Nat) : ∀ (j b : Nat) (U : List Bool), (tnJ T a j b U).length = U.length
  | 0, b, U => rfl
  | j + 1, b, U => by rw [tnJ, tnJ_len T a j, tnS_len]
def TnJ (T : List Bool) (a : Nat) (x2 : PV) (b : Nat) (U V' : List Bool) : Prop :=
  V (F tab) r104_B1 (r104_S1 (.ibox (tbx T)) x2 (.ibox (tbx U)) (.d (iv a)) (.d (iv a)) (.d (iv b)) []) = some (.norm, r104_E1 (.ibox (tbx T)) x2 (.ibox (tbx V')) (.d (iv a)) [])
theorem tnj_end (T : List Bool) (a : Nat) (z : List Bool) (U : List Bool) : TnJ T a (.ibox (tbx z)) 8 U U := by
  have h1 : ((8 : Int) < 8) = False := eq_false (by omega)
  have e : ((8 : Nat) : Int) = 8 := rfl
  unfold TnJ
  rw [e, r104_B1_eq]
  simp (disch := omega) only [go_sem, r104_C1, h1]
theorem tnj_step (T : List Bool) (hT : T.length = 64) (a : Nat) (ha : a < 8) (z : List Bool) (b : Nat) (hb : b < 8) (U V' : List Bool) (hU : U.length = 64) (ih : TnJ T a (.ibox (tbx z)) (b + 1) (tnS T a b U) V') : TnJ T a (.ibox (tbx z)) b U V' := by
  have h1 : ((b : Int) < 8) = True := eq_true (by omega)
  have a0 : (0 ≤ (a : Int)) = True := eq_true (by omega)
  have a8 : ((a : Int) < ((8 : Nat) : Int)) = True := eq_true (by omega)
  have b8 : ((b : Int) < ((8 : Nat) : Int)) = True := eq_true (by omega)
  have b0 : (0 ≤ (b : Int)) = True := eq_true (by omega)
  have g := tbx_get (T := T) (o := ix a b) (by rw [hT]; exact ix_lt ha hb)
  have l : (ix b a < (tbx U).length) = True := eq_true (by rw [tbx_len, hU]; exact ix_lt hb ha)
  have e1 : (b : Int) + 1 = ((b + 1 : Nat) : Int) := rfl
  unfold TnJ at ih ⊢
  unfold tnS at ih
  unfold ix at g l ih
  have s := tbx_set U (b * 8 + a * 1) (T.getD (a * 8 + b * 1) false)
  generalize T.getD (a * 8 + b * 1) false = v at *
  generalize hW : tbx (U.set (b * 8 + a * 1) v) = W at *
  generalize tbx T = XT at *
  generalize tbx U = XU at *
  generalize tbx V' = XV at *
  generalize tbx z = XZ at *
  rw [r104_B1_eq]
  simp (disch := omega) only [go_sem, r104_C1, h1, a0, a8, b0, b8, g, l, s, e1, w64]
  exact ih
theorem tnj_all (T : List Bool) (hT : T.length = 64) (a : Nat) (ha : a < 8) (z : List Bool) : ∀ (j b : Nat) (U : List Bool), b + j = 8 → U.length = 64 → TnJ T a (.ibox (tbx z)) b U (tnJ T a j b U)
  | 0, b, U, h, hU => by
    obtain rfl : b = 8 := by omega
    exact tnj_end T a z U
  | j + 1, b, U, h, hU => tnj_step T hT a ha z b (by omega) U _ hU (tnj_all T hT a ha z j (b + 1) _ (by omega) (by rw [tnS_len, hU]))
def TnI (T : List Bool) (x2 : PV) (a : Nat) (U V' : List Bool) : Prop :=
  V (F tab) r104_B0 (r104_S0 (.ibox (tbx T)) x2 (.ibox (tbx U)) (.d (iv a)) []) = some (.norm, r104_E0 x2 (.ibox (tbx V')) [])
theorem tni_end (T : List Bool) (z : List Bool) (U : List Bool) : TnI T (.ibox (tbx z)) 8 U U := by
  have h1 : ((8 : Int) < 8) = False := eq_false (by omega)
  have e : ((8 : Nat) : Int) = 8 := rfl
  unfold TnI
  rw [e, r104_B0_eq]
  simp (disch := omega) only [go_sem, r104_C0, h1]
theorem tni_step (T : List Bool) (hT : T.length = 64) (z : List Bool) (a : Nat) (ha : a < 8) (U V' : List Bool) (hU : U.length = 64) (ih : TnI T (.ibox (tbx z)) (a + 1) (tnJ T a 8 0 U) V') : TnI T (.ibox (tbx z)) a U V' := by
  have h1 : ((a : Int) < 8) = True := eq_true (by omega)
  have hj := tnj_all T hT a ha z 8 0 U rfl hU
  have e1 : (a : Int) + 1 = ((a + 1 : Nat) : Int) := rfl
  unfold TnI at ih ⊢
  unfold TnJ at hj
  generalize tnJ T a 8 0 U = W at *
  rw [r104_B0_eq]
  simp (disch := omega) only [go_sem, r104_C0, h1]
  rw [r104_B1_n]
  erw [hj]
  simp (disch := omega) only [go_sem, e1, w64]
  exact ih
theorem tni_all (T : List Bool) (hT : T.length = 64) (z : List Bool) : ∀ (j a : Nat) (U : List Bool), a + j = 8 → U.length = 64 → TnI T (.ibox (tbx z)) a U (tnI T j a U)
  | 0, a, U, h, hU => by
    obtain rfl : a = 8 := by omega
    exact tni_end T z U
  | j + 1, a, U, h, hU => tni_step T hT z a (by omega) U _ hU (tni_all T hT z j (a + 1) _ (by omega) (by rw [tnJ_len, hU]))
theorem tnI_len (T : List Bool) : ∀ (j a : Nat) (U : List Bool), (tnI T j a U).length = U.length
  | 0, a, U => rfl
  | j + 1, a, U => by rw [tnI, tnI_len T j, tnJ_len]
def tnR (T : List Bool) : List Bool := tnI T 8 0 zt64
theorem tnR_len (T : List Bool) : (tnR T).length = 64 := tnI_len T 8 0 zt64
theorem turned_ok (T : List Bool) (hT : T.length = 64) (hp : List Ent) : F tab 104 [.d (.agg (tbD T))] hp = some (.ret (.d (.agg (tbD (tnR T)))) hp) := by
  have h := tni_all T hT zt64 8 0 zt64 rfl rfl
  unfold TnI at h
  have hl := tnR_len T
  have e : tnI T 8 0 zt64 = tnR T := rfl
  rw [e] at h
  have c1 : (tbD T).map PV.d = tbx T := tb_map T
  have c2 := ca_tb (tnR T)
  have c3 := take_tb (tnR T) hl
  have c4 : ((64 : Nat) ≤ (tbx (tnR T)).length) = True := eq_true (by rw [tbx_len, hl]; exact Nat.le_refl _)
  have c5 := sc_tb zt64 (tnR T) rfl hl
  have c7 : ((64 : Nat) ≤ (tbx zt64).length) = True := eq_true (by rw [tbx_len]; exact Nat.le_refl _)
  have c6 : ((tbD (tnR T)).length = 64) = True := eq_true (by rw [tbD_len, hl])
  generalize tnR T = R at *
  refine f104 rfl ?_
  simp (disch := omega) only [go_sem, r104_T, r104, c1]
  rw [r104_B0_n]
  erw [h]
  simp (disch := omega) only [go_sem, c2, c3, c4, c5, c6, c7, r104]
end Go.Pe.T

namespace Go.Pe.T
def clS (a b c : Nat) (T : List Bool) : List Bool := T.set (ix a c) (T.getD (ix a c) false || (T.getD (ix a b) false && T.getD (ix b c) false))
def clC (a b : Nat) : Nat → Nat → List Bool → List Bool
  | 0, c, T => T
  | j + 1, c, T => clC a b j (c + 1) (clS a b c T)
def clB (n a : Nat) : Nat → Nat → List Bool → List Bool
  | 0, b, T => T
  | j + 1, b, T => clB n a j (b + 1) (clC a b n 0 T)
def clA (n : Nat) : Nat → Nat → List Bool → List Bool
  | 0, a, T => T
  | j + 1, a, T => clA n j (a + 1) (clB n a n 0 T)
theorem clS_len (a b c : Nat) (T : List Bool) : (clS a b c T).length = T.length := by simp [clS]
theorem clC_len (a b : Nat) : ∀ (j c : Nat) (T : List Bool), (clC a b j c T).length = T.length
  | 0, c, T => rfl
  | j + 1, c, T => by rw [clC, clC_len a b j, clS_len]
theorem clB_len (n a : Nat) : ∀ (j b : Nat) (T : List Bool), (clB n a j b T).length = T.length
  | 0, b, T => rfl
  | j + 1, b, T => by rw [clB, clB_len n a j, clC_len]
theorem clA_len (n : Nat) : ∀ (j a : Nat) (T : List Bool), (clA n j a T).length = T.length
  | 0, a, T => rfl
  | j + 1, a, T => by rw [clA, clA_len n j, clB_len]
def ClC (n a b : Nat) (x4 x5 : PV) (c : Nat) (U V' : List Bool) : Prop :=
  V (F tab) r63_B3 (r63_S3 (.d (iv n)) (.ibox (tbx U)) x4 x5 (.d (iv a)) (.d (iv b)) (.d (iv n)) (.d (iv a)) (.d (iv n)) (.d (iv b)) (.d (iv n)) (.d (iv c)) []) = some (.norm, r63_E3 (.d (iv n)) (.ibox (tbx V')) x4 x5 (.d (iv a)) (.d (iv n)) (.d (iv a)) (.d (iv n)) (.d (iv b)) [])
theorem clc_end (n a b : Nat) (y z : List Bool) (U : List Bool) : ClC n a b (.ibox (tbx y)) (.ibox (tbx z)) n U U := by
  have h1 : ((n : Int) < (n : Int)) = False := eq_false (by omega)
  unfold ClC
  rw [r63_B3_eq]
  simp (disch := omega) only [go_sem, r63_C3, h1]
theorem clc_step (n a b : Nat) (hn : n ≤ 8) (ha : a < n) (hb : b < n) (y z : List Bool) (c : Nat) (hc : c < n) (U V' : List Bool) (hU : U.length = 64) (ih : ClC n a b (.ibox (tbx y)) (.ibox (tbx z)) (c + 1) (clS a b c U) V') : ClC n a b (.ibox (tbx y)) (.ibox (tbx z)) c U V' := by
  have h1 : ((c : Int) < (n : Int)) = True := eq_true (by omega)
  have a0 : (0 ≤ (a : Int)) = True := eq_true (by omega)
  have a8 : ((a : Int) < ((8 : Nat) : Int)) = True := eq_true (by omega)
  have b0 : (0 ≤ (b : Int)) = True := eq_true (by omega)
  have b8 : ((b : Int) < ((8 : Nat) : Int)) = True := eq_true (by omega)
  have c0 : (0 ≤ (c : Int)) = True := eq_true (by omega)
  have c8 : ((c : Int) < ((8 : Nat) : Int)) = True := eq_true (by omega)
  have g1 := tbx_get (T := U) (o := ix a c) (by rw [hU]; exact ix_lt (by omega) (by omega))
  have g2 := tbx_get (T := U) (o := ix a b) (by rw [hU]; exact ix_lt (by omega) (by omega))
  have g3 := tbx_get (T := U) (o := ix b c) (by rw [hU]; exact ix_lt (by omega) (by omega))
  have l : (ix a c < (tbx U).length) = True := eq_true (by rw [tbx_len, hU]; exact ix_lt (by omega) (by omega))
  have e1 : (c : Int) + 1 = ((c + 1 : Nat) : Int) := rfl
  have s := tbx_set U (a * 8 + c * 1) (U.getD (a * 8 + c * 1) false || (U.getD (a * 8 + b * 1) false && U.getD (b * 8 + c * 1) false))
  unfold ClC at ih ⊢
  unfold clS at ih
  unfold ix at g1 g2 g3 l ih
  generalize U.getD (a * 8 + c * 1) false = v1 at *
  generalize U.getD (a * 8 + b * 1) false = v2 at *
  generalize U.getD (b * 8 + c * 1) false = v3 at *
  generalize hW : tbx (U.set (a * 8 + c * 1) (v1 || (v2 && v3))) = W at *
  generalize tbx U = XU at *
  generalize tbx V' = XV at *
  generalize tbx y = XY at *
  generalize tbx z = XZ at *
  clear hW
  rw [r63_B3_eq]
  cases v1
  · cases v2
    · simp (disch := omega) only [Bool.false_or, Bool.false_and] at s
      simp (disch := omega) only [go_sem, r63_C3, h1, a0, a8, b0, b8, c0, c8, g1, g2, g3, l, s, e1, w64]
      exact ih
    · simp (disch := omega) only [Bool.false_or, Bool.true_and] at s
      simp (disch := omega) only [go_sem, r63_C3, h1, a0, a8, b0, b8, c0, c8, g1, g2, g3, l, s, e1, w64]
      exact ih
  · simp (disch := omega) only [Bool.true_or] at s
    simp (disch := omega) only [go_sem, r63_C3, h1, a0, a8, b0, b8, c0, c8, g1, g2, g3, l, s, e1, w64]
    exact ih
theorem clc_all (n a b : Nat) (hn : n ≤ 8) (ha : a < n) (hb : b < n) (y z : List Bool) : ∀ (j c : Nat) (U : List Bool), c + j = n → U.length = 64 → ClC n a b (.ibox (tbx y)) (.ibox (tbx z)) c U (clC a b j c U)
  | 0, c, U, h, hU => by
    obtain rfl : c = n := by omega
    exact clc_end c a b y z U
  | j + 1, c, U, h, hU => clc_step n a b hn ha hb y z c (by omega) U _ hU (clc_all n a b hn ha hb y z j (c + 1) _ (by omega) (by rw [clS_len, hU]))
def ClB (n a : Nat) (x4 x5 : PV) (b : Nat) (U V' : List Bool) : Prop :=
  V (F tab) r63_B2 (r63_S2 (.d (iv n)) (.ibox (tbx U)) x4 x5 (.d (iv a)) (.d (iv n)) (.d (iv a)) (.d (iv n)) (.d (iv b)) []) = some (.norm, r63_E2 (.d (iv n)) (.ibox (tbx V')) x4 x5 (.d (iv n)) (.d (iv a)) [])
theorem clb_end (n a : Nat) (y z : List Bool) (U : List Bool) : ClB n a (.ibox (tbx y)) (.ibox (tbx z)) n U U := by
  have h1 : ((n : Int) < (n : Int)) = False := eq_false (by omega)
  unfold ClB
  rw [r63_B2_eq]
  simp (disch := omega) only [go_sem, r63_C2, h1]
theorem clb_step (n a : Nat) (hn : n ≤ 8) (ha : a < n) (y z : List Bool) (b : Nat) (hb : b < n) (U V' : List Bool) (hU : U.length = 64) (ih : ClB n a (.ibox (tbx y)) (.ibox (tbx z)) (b + 1) (clC a b n 0 U) V') : ClB n a (.ibox (tbx y)) (.ibox (tbx z)) b U V' := by
  have h1 : ((b : Int) < (n : Int)) = True := eq_true (by omega)
  have hj := clc_all n a b hn ha hb y z n 0 U (by omega) hU
  have e1 : (b : Int) + 1 = ((b + 1 : Nat) : Int) := rfl
  unfold ClB at ih ⊢
  unfold ClC at hj
  generalize clC a b n 0 U = W at *
  rw [r63_B2_eq]
  simp (disch := omega) only [go_sem, r63_C2, h1]
  rw [r63_B3_n]
  erw [hj]
  simp (disch := omega) only [go_sem, e1, w64]
  exact ih
theorem clb_all (n a : Nat) (hn : n ≤ 8) (ha : a < n) (y z : List Bool) : ∀ (j b : Nat) (U : List Bool), b + j = n → U.length = 64 → ClB n a (.ibox (tbx y)) (.ibox (tbx z)) b U (clB n a j b U)
  | 0, b, U, h, hU => by
    obtain rfl : b = n := by omega
    exact clb_end b a y z U
  | j + 1, b, U, h, hU => clb_step n a hn ha y z b (by omega) U _ hU (clb_all n a hn ha y z j (b + 1) _ (by omega) (by rw [clC_len, hU]))
def ClA (n : Nat) (x4 x5 : PV) (a : Nat) (U V' : List Bool) : Prop :=
  V (F tab) r63_B1 (r63_S1 (.d (iv n)) (.ibox (tbx U)) x4 x5 (.d (iv n)) (.d (iv a)) []) = some (.norm, r63_E1 (.d (iv n)) (.ibox (tbx V')) x4 x5 [])
theorem cla_end (n : Nat) (y z : List Bool) (U : List Bool) : ClA n (.ibox (tbx y)) (.ibox (tbx z)) n U U := by
  have h1 : ((n : Int) < (n : Int)) = False := eq_false (by omega)
  unfold ClA
  rw [r63_B1_eq]
  simp (disch := omega) only [go_sem, r63_C1, h1]
theorem cla_step (n : Nat) (hn : n ≤ 8) (y z : List Bool) (a : Nat) (ha : a < n) (U V' : List Bool) (hU : U.length = 64) (ih : ClA n (.ibox (tbx y)) (.ibox (tbx z)) (a + 1) (clB n a n 0 U) V') : ClA n (.ibox (tbx y)) (.ibox (tbx z)) a U V' := by
  have h1 : ((a : Int) < (n : Int)) = True := eq_true (by omega)
  have hj := clb_all n a hn ha y z n 0 U (by omega) hU
  have e1 : (a : Int) + 1 = ((a + 1 : Nat) : Int) := rfl
  unfold ClA at ih ⊢
  unfold ClB at hj
  generalize clB n a n 0 U = W at *
  rw [r63_B1_eq]
  simp (disch := omega) only [go_sem, r63_C1, h1]
  rw [r63_B2_n]
  erw [hj]
  simp (disch := omega) only [go_sem, e1, w64]
  exact ih
theorem cla_all (n : Nat) (hn : n ≤ 8) (y z : List Bool) : ∀ (j a : Nat) (U : List Bool), a + j = n → U.length = 64 → ClA n (.ibox (tbx y)) (.ibox (tbx z)) a U (clA n j a U)
  | 0, a, U, h, hU => by
    obtain rfl : a = n := by omega
    exact cla_end a y z U
  | j + 1, a, U, h, hU => cla_step n hn y z a (by omega) U _ hU (cla_all n hn y z j (a + 1) _ (by omega) (by rw [clB_len, hU]))
end Go.Pe.T

namespace Go.Pe.T
def row8T : ETy := .st [(0, 1, .b), (1, 1, .b), (2, 1, .b), (3, 1, .b), (4, 1, .b), (5, 1, .b), (6, 1, .b), (7, 1, .b)]
def tb8T : ETy := .st [(0, 8, row8T), (8, 8, row8T), (16, 8, row8T), (24, 8, row8T), (32, 8, row8T), (40, 8, row8T), (48, 8, row8T), (56, 8, row8T)]
def ClR (n : Nat) (U : List Bool) (V' : List Bool) : Prop :=
  V (F tab) r63_B0 (r63_S0 (.d (iv n)) (.ibox (tbx U)) (.ibox (tbx zt64)) []) = some (.ret, r63_R (.ibox (tbx V')) [])
theorem clr_step (n : Nat) (hn : n ≤ 8) (U V' : List Bool) (hU : U.length = 64) (q : Bool) (hq : eqD tb8T (.agg (tbD (clA n n 0 U))) (.agg (tbD U)) = some q) (h : if q then V' = clA n n 0 U else ClR n (clA n n 0 U) V') : ClR n U V' := by
  have hj := cla_all n hn zt64 U n 0 U (by omega) hU
  have hl : (clA n n 0 U).length = 64 := by rw [clA_len, hU]
  unfold ClA at hj
  unfold tb8T row8T at hq
  have u2 := ca_tb U
  have u3 := take_tb U hU
  have u4 : ((64 : Nat) ≤ (tbx U).length) = True := eq_true (by rw [tbx_len, hU]; exact Nat.le_refl _)
  have u5 := sc_z U hU
  have u6 : ((tbD U).length = 64) = True := eq_true (by rw [tbD_len, hU])
  have c2 := ca_tb (clA n n 0 U)
  have c3 := take_tb (clA n n 0 U) hl
  have c4 : ((64 : Nat) ≤ (tbx (clA n n 0 U)).length) = True := eq_true (by rw [tbx_len, hl]; exact Nat.le_refl _)
  have c5 := sc_tb zt64 (clA n n 0 U) rfl hl
  have c6 : ((tbD (clA n n 0 U)).length = 64) = True := eq_true (by rw [tbD_len, hl])
  have c7 : ((64 : Nat) ≤ (tbx zt64).length) = True := eq_true (by rw [tbx_len]; exact Nat.le_refl _)
  unfold ClR at h ⊢
  generalize clA n n 0 U = W at *
  rw [r63_B0_eq]
  simp (disch := omega) only [go_sem, r63_C0, u2, u3, u4, u5, u6]
  rw [r63_B1_n]
  erw [hj]
  cases q with
  | true =>
    simp only [if_true] at h
    subst h
    simp (disch := omega) only [go_sem, u2, u3, u4, u5, u6, c2, c3, c4, c5, c6, c7, hq]
  | false =>
    simp only [Bool.false_eq_true, if_false] at h
    simp (disch := omega) only [go_sem, u2, u3, u4, u5, u6, c2, c3, c4, c5, c6, c7, hq]
    exact h
theorem closed_ok (n : Nat) (U V' : List Bool) (hU : U.length = 64) (hV : V'.length = 64) (h : ClR n U V') (hp : List Ent) : F tab 63 [.d (.agg (tbD U)), .d (iv n)] hp = some (.ret (.d (.agg (tbD V'))) hp) := by
  unfold ClR at h
  have c1 : (tbD U).map PV.d = tbx U := tb_map U
  have c2 := ca_tb V'
  have c3 := take_tb V' hV
  have c4 : ((64 : Nat) ≤ (tbx V').length) = True := eq_true (by rw [tbx_len, hV]; exact Nat.le_refl _)
  refine f63 rfl ?_
  simp (disch := omega) only [go_sem, r63_T, r63, c1]
  rw [r63_B0_n]
  erw [h]
  simp (disch := omega) only [go_sem, c2, c3, c4, r63]
end Go.Pe.T

namespace Go.Pe.T
def at2 (T : List Bool) (a b : Nat) : Bool := T.getD (ix a b) false
def lsS (T : List Bool) (a b c d : Nat) (v : Bool) : Bool := v && ((!at2 T a d || !at2 T b d) || at2 T c d)
def lsD (T : List Bool) (a b c : Nat) : Nat → Nat → Bool → Bool
  | 0, d, v => v
  | j + 1, d, v => lsD T a b c j (d + 1) (lsS T a b c d v)
def ovC (T : List Bool) (n a b : Nat) : Nat → Nat → Int
  | 0, c => -1
  | j + 1, c => if !at2 T a c || !at2 T b c then ovC T n a b j (c + 1) else if lsD T a b c n 0 true then (c : Int) else ovC T n a b j (c + 1)
def LsIs (T : List Bool) (n a b c d : Nat) (v w : Bool) : Prop :=
  V (F tab) r105_B1 (r105_S1 (.d (iv n)) (.d (iv a)) (.d (iv b)) (.ibox (tbx T)) (.d (iv c)) (.d (.bool v)) (.d (iv n)) (.d (iv c)) (.d (iv n)) (.d (iv d)) []) = some (.norm, r105_E1 (.d (iv n)) (.d (iv a)) (.d (iv b)) (.ibox (tbx T)) (.d (iv c)) (.d (.bool w)) (.d (iv n)) (.d (iv c)) [])
theorem ls_end (T : List Bool) (n a b c : Nat) (v : Bool) : LsIs T n a b c n v v := by
  have h1 : ((n : Int) < (n : Int)) = False := eq_false (by omega)
  unfold LsIs
  rw [r105_B1_eq]
  simp (disch := omega) only [go_sem, r105_C1, h1]
theorem ls_step (T : List Bool) (hT : T.length = 64) (n a b c : Nat) (hn : n ≤ 8) (ha : a < n) (hb : b < n) (hc : c < n) (d : Nat) (hd : d < n) (v w : Bool) (ih : LsIs T n a b c (d + 1) (lsS T a b c d v) w) : LsIs T n a b c d v w := by
  have h1 : ((d : Int) < (n : Int)) = True := eq_true (by omega)
  have a0 : (0 ≤ (a : Int)) = True := eq_true (by omega)
  have a8 : ((a : Int) < ((8 : Nat) : Int)) = True := eq_true (by omega)
  have b0 : (0 ≤ (b : Int)) = True := eq_true (by omega)
  have b8 : ((b : Int) < ((8 : Nat) : Int)) = True := eq_true (by omega)
  have c0 : (0 ≤ (c : Int)) = True := eq_true (by omega)
  have c8 : ((c : Int) < ((8 : Nat) : Int)) = True := eq_true (by omega)
  have d0 : (0 ≤ (d : Int)) = True := eq_true (by omega)
  have d8 : ((d : Int) < ((8 : Nat) : Int)) = True := eq_true (by omega)
  have g1 := tbx_get (T := T) (o := ix a d) (by rw [hT]; exact ix_lt (by omega) (by omega))
  have g2 := tbx_get (T := T) (o := ix b d) (by rw [hT]; exact ix_lt (by omega) (by omega))
  have g3 := tbx_get (T := T) (o := ix c d) (by rw [hT]; exact ix_lt (by omega) (by omega))
  have e1 : (d : Int) + 1 = ((d + 1 : Nat) : Int) := rfl
  unfold LsIs at ih ⊢
  unfold lsS at2 at ih
  generalize T.getD (ix a d) false = v1 at *
  generalize T.getD (ix b d) false = v2 at *
  generalize T.getD (ix c d) false = v3 at *
  unfold ix at g1 g2 g3
  generalize tbx T = XT at *
  rw [r105_B1_eq]
  cases v
  · simp only [Bool.false_and] at ih
    simp (disch := omega) only [go_sem, r105_C1, h1, e1, w64]
    exact ih
  · cases v1
    · simp only [Bool.not_false, Bool.true_or, Bool.true_and] at ih
      simp (disch := omega) only [go_sem, r105_C1, h1, a0, a8, b0, b8, c0, c8, d0, d8, g1, g2, g3, e1, w64]
      exact ih
    · cases v2
      · simp only [Bool.not_false, Bool.not_true, Bool.false_or, Bool.true_or, Bool.true_and] at ih
        simp (disch := omega) only [go_sem, r105_C1, h1, a0, a8, b0, b8, c0, c8, d0, d8, g1, g2, g3, e1, w64]
        exact ih
      · simp only [Bool.not_false, Bool.not_true, Bool.false_or, Bool.true_or, Bool.true_and] at ih
        simp (disch := omega) only [go_sem, r105_C1, h1, a0, a8, b0, b8, c0, c8, d0, d8, g1, g2, g3, e1, w64]
        exact ih
theorem ls_all (T : List Bool) (hT : T.length = 64) (n a b c : Nat) (hn : n ≤ 8) (ha : a < n) (hb : b < n) (hc : c < n) : ∀ (j d : Nat) (v : Bool), d + j = n → LsIs T n a b c d v (lsD T a b c j d v)
  | 0, d, v, h => by
    obtain rfl : d = n := by omega
    exact ls_end T d a b c v
  | j + 1, d, v, h => ls_step T hT n a b c hn ha hb hc d (by omega) v _ (ls_all T hT n a b c hn ha hb hc j (d + 1) _ (by omega))
def ovO (z : Int) : Option (Ex × St) := if z < 0 then some (.norm, r105_E0 []) else some (.ret, r105_R (.d (iv z)) [])
def OvIs (T : List Bool) (n a b c : Nat) (z : Int) : Prop :=
  V (F tab) r105_B0 (r105_S0 (.d (iv n)) (.d (iv a)) (.d (iv b)) (.ibox (tbx T)) (.d (iv n)) (.d (iv c)) []) = ovO z
theorem ov_end (T : List Bool) (n a b : Nat) : OvIs T n a b n (-1) := by
  have h1 : ((n : Int) < (n : Int)) = False := eq_false (by omega)
  unfold OvIs ovO
  rw [if_pos (by omega), r105_B0_eq]
  simp (disch := omega) only [go_sem, r105_C0, h1]
theorem ov_step (T : List Bool) (hT : T.length = 64) (n a b : Nat) (hn : n ≤ 8) (ha : a < n) (hb : b < n) (c : Nat) (hc : c < n) (z : Int) (ih : OvIs T n a b (c + 1) z) : OvIs T n a b c (if !at2 T a c || !at2 T b c then z else if lsD T a b c n 0 true then (c : Int) else z) := by
  have h1 : ((c : Int) < (n : Int)) = True := eq_true (by omega)
  have a0 : (0 ≤ (a : Int)) = True := eq_true (by omega)
  have a8 : ((a : Int) < ((8 : Nat) : Int)) = True := eq_true (by omega)
  have b0 : (0 ≤ (b : Int)) = True := eq_true (by omega)
  have b8 : ((b : Int) < ((8 : Nat) : Int)) = True := eq_true (by omega)
  have c0 : (0 ≤ (c : Int)) = True := eq_true (by omega)
  have c8 : ((c : Int) < ((8 : Nat) : Int)) = True := eq_true (by omega)
  have g1 := tbx_get (T := T) (o := ix a c) (by rw [hT]; exact ix_lt (by omega) (by omega))
  have g2 := tbx_get (T := T) (o := ix b c) (by rw [hT]; exact ix_lt (by omega) (by omega))
  have e1 : (c : Int) + 1 = ((c + 1 : Nat) : Int) := rfl
  have hj := ls_all T hT n a b c hn ha hb hc n 0 true (by omega)
  have ec : ovO (c : Int) = some (.ret, r105_R (.d (iv c)) []) := by unfold ovO; rw [if_neg (by omega)]
  unfold OvIs at ih ⊢
  unfold LsIs at hj
  unfold at2
  generalize T.getD (ix a c) false = v1 at *
  generalize T.getD (ix b c) false = v2 at *
  generalize lsD T a b c n 0 true = w at *
  unfold ix at g1 g2
  generalize tbx T = XT at *
  rw [r105_B0_eq]
  cases v1
  · simp (disch := omega) only [go_sem, r105_C0, h1, a0, a8, b0, b8, c0, c8, g1, g2, e1, w64, Bool.true_or]
    exact ih
  · cases v2
    · simp (disch := omega) only [go_sem, r105_C0, h1, a0, a8, b0, b8, c0, c8, g1, g2, e1, w64, Bool.or_true]
      exact ih
    · simp (disch := omega) only [go_sem, r105_C0, h1, a0, a8, b0, b8, c0, c8, g1, g2, Bool.or_false]
      rw [r105_B1_n]
      erw [hj]
      cases w
      · simp (disch := omega) only [go_sem, e1, w64]
        exact ih
      · simp (disch := omega) only [go_sem, ec]
theorem ov_all (T : List Bool) (hT : T.length = 64) (n a b : Nat) (hn : n ≤ 8) (ha : a < n) (hb : b < n) : ∀ (j c : Nat), c + j = n → OvIs T n a b c (ovC T n a b j c)
  | 0, c, h => by
    obtain rfl : c = n := by omega
    exact ov_end T c a b
  | j + 1, c, h => ov_step T hT n a b hn ha hb c (by omega) _ (ov_all T hT n a b hn ha hb j (c + 1) (by omega))
def ovR (T : List Bool) (n a b : Nat) : Int := ovC T n a b n 0
theorem ovC_ge (T : List Bool) (n a b : Nat) : ∀ (j c : Nat), -1 ≤ ovC T n a b j c ∧ ovC T n a b j c < ((c + j : Nat) : Int)
  | 0, c => by simp only [ovC]; omega
  | j + 1, c => by
    have := ovC_ge T n a b j (c + 1)
    simp only [ovC]
    split
    · omega
    · split <;> omega
theorem over_ok (T : List Bool) (hT : T.length = 64) (n a b : Nat) (hn : n ≤ 8) (ha : a < n) (hb : b < n) (hp : List Ent) : F tab 105 [.d (.agg (tbD T)), .d (iv n), .d (iv a), .d (iv b)] hp = some (.ret (.d (iv (ovR T n a b))) hp) := by
  have h := ov_all T hT n a b hn ha hb n 0 (by omega)
  have hg := ovC_ge T n a b n 0
  have c1 : (tbD T).map PV.d = tbx T := tb_map T
  unfold OvIs ovO at h
  have e : ovC T n a b n 0 = ovR T n a b := rfl
  rw [e] at h hg
  generalize ovR T n a b = z at *
  refine f105 rfl ?_
  simp (disch := omega) only [go_sem, r105_T, r105, c1]
  rw [r105_B0_n]
  erw [h]
  by_cases hz : z < 0
  · obtain rfl : z = -1 := by omega
    simp (disch := omega) only [go_sem, r105]
  · simp (disch := omega) only [go_sem, hz, r105]
def twB (T : List Bool) (a : Nat) : Nat → Nat → Bool
  | 0, b => false
  | j + 1, b => if at2 T a b && at2 T b a then true else twB T a j (b + 1)
def twA (T : List Bool) : Nat → Nat → Bool
  | 0, a => false
  | j + 1, a => if twB T a a 0 then true else twA T j (a + 1)
def TwB (T : List Bool) (n a b : Nat) (w : Bool) : Prop :=
  V (F tab) r64_B1 (r64_S1 (.ibox (tbx T)) (.d (iv a)) (.d (iv n)) (.d (iv a)) (.d (iv a)) (.d (iv b)) []) = if w then some (.ret, r64_R (.d (.bool true)) []) else some (.norm, r64_E1 (.ibox (tbx T)) (.d (iv n)) (.d (iv a)) [])
theorem twb_end (T : List Bool) (n a : Nat) : TwB T n a a false := by
  have h1 : ((a : Int) < (a : Int)) = False := eq_false (by omega)
  unfold TwB
  rw [if_neg (by simp), r64_B1_eq]
  simp (disch := omega) only [go_sem, r64_C1, h1]
theorem twb_step (T : List Bool) (hT : T.length = 64) (n a : Nat) (ha : a < 8) (b : Nat) (hb : b < a) (w : Bool) (ih : TwB T n a (b + 1) w) : TwB T n a b (if at2 T a b && at2 T b a then true else w) := by
  have h1 : ((b : Int) < (a : Int)) = True := eq_true (by omega)
  have a0 : (0 ≤ (a : Int)) = True := eq_true (by omega)
  have a8 : ((a : Int) < ((8 : Nat) : Int)) = True := eq_true (by omega)
  have b0 : (0 ≤ (b : Int)) = True := eq_true (by omega)
  have b8 : ((b : Int) < ((8 : Nat) : Int)) = True := eq_true (by omega)
  have g1 := tbx_get (T := T) (o := ix a b) (by rw [hT]; exact ix_lt (by omega) (by omega))
  have g2 := tbx_get (T := T) (o := ix b a) (by rw [hT]; exact ix_lt (by omega) (by omega))
  have e1 : (b : Int) + 1 = ((b + 1 : Nat) : Int) := rfl
  unfold TwB at ih ⊢
  unfold at2
  generalize T.getD (ix a b) false = v1 at *
  generalize T.getD (ix b a) false = v2 at *
  unfold ix at g1 g2
  generalize tbx T = XT at *
  rw [r64_B1_eq]
  cases v1
  · simp (disch := omega) only [go_sem, r64_C1, h1, a0, a8, b0, b8, g1, g2, e1, w64, Bool.false_and]
    exact ih
  · cases v2
    · simp (disch := omega) only [go_sem, r64_C1, h1, a0, a8, b0, b8, g1, g2, e1, w64, Bool.and_false]
      exact ih
    · simp (disch := omega) only [go_sem, r64_C1, h1, a0, a8, b0, b8, g1, g2, e1, w64, Bool.and_true]
theorem twb_all (T : List Bool) (hT : T.length = 64) (n a : Nat) (ha : a < 8) : ∀ (j b : Nat), b + j = a → TwB T n a b (twB T a j b)
  | 0, b, h => by
    obtain rfl : b = a := by omega
    exact twb_end T n b
  | j + 1, b, h => twb_step T hT n a ha b (by omega) _ (twb_all T hT n a ha j (b + 1) (by omega))
def TwA (T : List Bool) (n a : Nat) (w : Bool) : Prop :=
  V (F tab) r64_B0 (r64_S0 (.ibox (tbx T)) (.d (iv n)) (.d (iv a)) []) = if w then some (.ret, r64_R (.d (.bool true)) []) else some (.norm, r64_E0 [])
theorem twa_end (T : List Bool) (n : Nat) : TwA T n n false := by
  have h1 : ((n : Int) < (n : Int)) = False := eq_false (by omega)
  unfold TwA
  rw [if_neg (by simp), r64_B0_eq]
  simp (disch := omega) only [go_sem, r64_C0, h1]
theorem twa_step (T : List Bool) (hT : T.length = 64) (n : Nat) (hn : n ≤ 8) (a : Nat) (ha : a < n) (w : Bool) (ih : TwA T n (a + 1) w) : TwA T n a (if twB T a a 0 then true else w) := by
  have h1 : ((a : Int) < (n : Int)) = True := eq_true (by omega)
  have hj := twb_all T hT n a (by omega) a 0 (by omega)
  have e1 : (a : Int) + 1 = ((a + 1 : Nat) : Int) := rfl
  unfold TwA at ih ⊢
  unfold TwB at hj
  generalize twB T a a 0 = v at *
  generalize tbx T = XT at *
  rw [r64_B0_eq]
  simp (disch := omega) only [go_sem, r64_C0, h1]
  rw [r64_B1_n]
  erw [hj]
  cases v
  · simp (disch := omega) only [go_sem, e1, w64]
    exact ih
  · simp (disch := omega) only [go_sem]
theorem twa_all (T : List Bool) (hT : T.length = 64) (n : Nat) (hn : n ≤ 8) : ∀ (j a : Nat), a + j = n → TwA T n a (twA T j a)
  | 0, a, h => by
    obtain rfl : a = n := by omega
    exact twa_end T a
  | j + 1, a, h => twa_step T hT n hn a (by omega) _ (twa_all T hT n hn j (a + 1) (by omega))
theorem twisted_ok (T : List Bool) (hT : T.length = 64) (n : Nat) (hn : n ≤ 8) (hp : List Ent) : F tab 64 [.d (.agg (tbD T)), .d (iv n)] hp = some (.ret (.d (.bool (twA T n 0))) hp) := by
  have h := twa_all T hT n hn n 0 (by omega)
  have c1 : (tbD T).map PV.d = tbx T := tb_map T
  unfold TwA at h
  generalize twA T n 0 = w at *
  refine f64 rfl ?_
  simp (disch := omega) only [go_sem, r64_T, r64, c1]
  rw [r64_B0_n]
  erw [h]
  cases w <;> simp (disch := omega) only [go_sem, r64]
end Go.Pe.T

namespace Go.Pe.T
def latD (nm : D) (T : List Bool) (J M : List Int) (b t : Nat) : List D := nm :: (tbD T ++ (J.map iv ++ (M.map iv ++ [iv b, iv t])))
def latC (nm : D) (T : List Bool) (J M : List Int) (b t : Nat) : List PV := (latD nm T J M b t).map .d
structure LatOk (T : List Bool) (J M : List Int) : Prop where
  t : T.length = 64
  j : J.length = 64
  m : M.length = 64
variable {nm : D} {T : List Bool} {J M : List Int} {b t : Nat}
theorem latD_len (h : LatOk T J M) : (latD nm T J M b t).length = 195 := by simp [latD, tbD, h.t, h.j, h.m]
theorem latC_len (h : LatOk T J M) : (latC nm T J M b t).length = 195 := by rw [latC, List.length_map, latD_len h]
theorem latD_tb (h : LatOk T J M) : ((latD nm T J M b t).drop 1).take 64 = tbD T := by
  rw [latD, List.drop_succ_cons, List.drop_zero, List.take_append_of_le_length (by rw [tbD_len, h.t]; exact Nat.le_refl _)]
  exact List.take_of_length_le (by rw [tbD_len, h.t]; exact Nat.le_refl _)
theorem latC_tb (h : LatOk T J M) : ((latC nm T J M b t).drop 1).take 64 = tbx T := by
  rw [latC, ← List.map_drop, ← List.map_take, latD_tb h, tb_map]
theorem latD_j (h : LatOk T J M) {o : Nat} (ho : o < 64) : (latD nm T J M b t)[65 + o]? = some (iv (J.getD o 0)) := by
  have hj : o < J.length := by rw [h.j]; exact ho
  rw [latD, show 65 + o = (64 + o) + 1 by omega, List.getElem?_cons_succ, List.getElem?_append_right (by rw [tbD_len, h.t]; omega), tbD_len, h.t, Nat.add_sub_cancel_left, List.getElem?_append_left (by rw [List.length_map]; exact hj), List.getElem?_map, List.getD_eq_getElem?_getD, List.getElem?_eq_getElem hj]
  rfl
theorem latD_m (h : LatOk T J M) {o : Nat} (ho : o < 64) : (latD nm T J M b t)[129 + o]? = some (iv (M.getD o 0)) := by
  have hm : o < M.length := by rw [h.m]; exact ho
  rw [latD, show 129 + o = (64 + (64 + o)) + 1 by omega, List.getElem?_cons_succ, List.getElem?_append_right (by rw [tbD_len, h.t]; omega), tbD_len, h.t, Nat.add_sub_cancel_left, List.getElem?_append_right (by rw [List.length_map, h.j]; omega), List.length_map, h.j, Nat.add_sub_cancel_left, List.getElem?_append_left (by rw [List.length_map]; exact hm), List.getElem?_map, List.getD_eq_getElem?_getD, List.getElem?_eq_getElem hm]
  rfl
theorem latD_b (h : LatOk T J M) : (latD nm T J M b t)[193]? = some (iv b) ∧ (latD nm T J M b t)[194]? = some (iv t) := by
  have e : ∀ k, (latD nm T J M b t)[193 + k]? = [iv (b : Int), iv (t : Int)][k]? := by
    intro k
    rw [latD, show 193 + k = (64 + (64 + (64 + k))) + 1 by omega, List.getElem?_cons_succ, List.getElem?_append_right (by rw [tbD_len, h.t]; omega), tbD_len, h.t, Nat.add_sub_cancel_left, List.getElem?_append_right (by rw [List.length_map, h.j]; omega), List.length_map, h.j, Nat.add_sub_cancel_left, List.getElem?_append_right (by rw [List.length_map, h.m]; omega), List.length_map, h.m, Nat.add_sub_cancel_left]
  exact ⟨e 0, e 1⟩
theorem latD_sj (h : LatOk T J M) {o : Nat} (ho : o < 64) (v : Int) : (latD nm T J M b t).set (65 + o) (iv v) = latD nm T (J.set o v) M b t := by
  have hj : o < J.length := by rw [h.j]; exact ho
  rw [latD, show 65 + o = (64 + o) + 1 by omega, List.set_cons_succ, List.set_append_right _ _ (by rw [tbD_len, h.t]; omega), tbD_len, h.t, Nat.add_sub_cancel_left, List.set_append_left _ _ (by rw [List.length_map]; exact hj), latD, List.map_set]
theorem latD_sm (h : LatOk T J M) {o : Nat} (ho : o < 64) (v : Int) : (latD nm T J M b t).set (129 + o) (iv v) = latD nm T J (M.set o v) b t := by
  have hm : o < M.length := by rw [h.m]; exact ho
  rw [latD, show 129 + o = (64 + (64 + o)) + 1 by omega, List.set_cons_succ, List.set_append_right _ _ (by rw [tbD_len, h.t]; omega), tbD_len, h.t, Nat.add_sub_cancel_left, List.set_append_right _ _ (by rw [List.length_map, h.j]; omega), List.length_map, h.j, Nat.add_sub_cancel_left, List.set_append_left _ _ (by rw [List.length_map]; exact hm), latD, List.map_set]
theorem latD_sb (h : LatOk T J M) (v w : Nat) : (latD nm T J M b t).set 193 (iv v) = latD nm T J M v t ∧ (latD nm T J M b t).set 194 (iv w) = latD nm T J M b w := by
  have e : ∀ k (x : D), (latD nm T J M b t).set (193 + k) x = nm :: (tbD T ++ (J.map iv ++ (M.map iv ++ [iv (b : Int), iv (t : Int)].set k x))) := by
    intro k x
    rw [latD, show 193 + k = (64 + (64 + (64 + k))) + 1 by omega, List.set_cons_succ, List.set_append_right _ _ (by rw [tbD_len, h.t]; omega), tbD_len, h.t, Nat.add_sub_cancel_left, List.set_append_right _ _ (by rw [List.length_map, h.j]; omega), List.length_map, h.j, Nat.add_sub_cancel_left, List.set_append_right _ _ (by rw [List.length_map, h.m]; omega), List.length_map, h.m, Nat.add_sub_cancel_left]
  exact ⟨e 0 _, e 1 _⟩
theorem latC_get {o : Nat} {x : D} (h : (latD nm T J M b t)[o]? = some x) : (latC nm T J M b t)[o]? = some (.d x) := by rw [latC, List.getElem?_map, h]; rfl
theorem latC_set {o : Nat} {x : D} {l : List D} (h : (latD nm T J M b t).set o x = l) : (latC nm T J M b t).set o (.d x) = l.map .d := by rw [latC, ← List.map_set, h]
def flB (T : List Bool) (n a : Nat) : Nat → Nat → List Int → List Int
  | 0, b, J => J
  | j + 1, b, J => flB T n a j (b + 1) (J.set (ix a b) (ovR T n a b))
def flA (T : List Bool) (n : Nat) : Nat → Nat → List Int → List Int
  | 0, a, J => J
  | j + 1, a, J => flA T n j (a + 1) (flB T n a n 0 J)
theorem flB_len (T : List Bool) (n a : Nat) : ∀ (j b : Nat) (J : List Int), (flB T n a j b J).length = J.length
  | 0, b, J => rfl
  | j + 1, b, J => by rw [flB, flB_len T n a j]; simp
theorem flA_len (T : List Bool) (n : Nat) : ∀ (j a : Nat) (J : List Int), (flA T n j a J).length = J.length
  | 0, a, J => rfl
  | j + 1, a, J => by rw [flA, flA_len T n j, flB_len]
abbrev lbx (nm : D) (T : List Bool) (J M : List Int) (b t : Nat) : List Ent := [.box (latC nm T J M b t)]
def FlB (nm : D) (T U : List Bool) (n a : Nat) (b : Nat) (J M J' M' : List Int) : Prop :=
  V (F tab) r65_B1 (r65_S1 (.ptr 0 0) (.d (iv n)) (.ibox (tbx U)) (.d (iv a)) (.d (iv n)) (.d (iv a)) (.d (iv n)) (.d (iv b)) (lbx nm T J M 0 0)) = some (.norm, r65_E1 (.ptr 0 0) (.d (iv n)) (.ibox (tbx U)) (.d (iv n)) (.d (iv a)) (lbx nm T J' M' 0 0))
theorem flb_end (nm : D) (T U : List Bool) (n a : Nat) (J M : List Int) : FlB nm T U n a n J M J M := by
  have h1 : ((n : Int) < (n : Int)) = False := eq_false (by omega)
  unfold FlB
  rw [r65_B1_eq]
  simp (disch := omega) only [go_sem, r65_C1, h1]
set_option maxHeartbeats 1000000 in
theorem flb_step (nm : D) (T U : List Bool) (n a : Nat) (hn : n ≤ 8) (ha : a < n) (hU : U.length = 64) (b : Nat) (hb : b < n) (J M J' M' : List Int) (hk : LatOk T J M) (p1 : 0 ≤ ovR T n a b) (p2 : 0 ≤ ovR U n a b)
    (ih : FlB nm T U n a (b + 1) (J.set (ix a b) (ovR T n a b)) (M.set (ix a b) (ovR U n a b)) J' M') : FlB nm T U n a b J M J' M' := by
  have h1 : ((b : Int) < (n : Int)) = True := eq_true (by omega)
  have a0 : (0 ≤ (a : Int)) = True := eq_true (by omega)
  have a8 : ((a : Int) < ((8 : Nat) : Int)) = True := eq_true (by omega)
  have b0 : (0 ≤ (b : Int)) = True := eq_true (by omega)
  have b8 : ((b : Int) < ((8 : Nat) : Int)) = True := eq_true (by omega)
  have e1 : (b : Int) + 1 = ((b + 1 : Nat) : Int) := rfl
  have o1 := over_ok T hk.t n a b hn ha hb
  have o2 := over_ok U hU n a b hn ha hb
  have hi : ix a b < 64 := ix_lt (by omega) (by omega)
  have ei : a * 8 + b * 1 = ix a b := rfl
  have hk1 : LatOk T (J.set (ix a b) (ovR T n a b)) M := ⟨hk.t, by simp [hk.j], hk.m⟩
  have hk2 : LatOk T (J.set (ix a b) (ovR T n a b)) (M.set (ix a b) (ovR U n a b)) := ⟨hk.t, by simp [hk.j], by simp [hk.m]⟩
  have gJ : (J.set (ix a b) (ovR T n a b)).getD (ix a b) 0 = ovR T n a b := by rw [List.getD_eq_getElem?_getD, List.getElem?_set_self (by rw [hk.j]; exact hi)]; rfl
  have gM : (M.set (ix a b) (ovR U n a b)).getD (ix a b) 0 = ovR U n a b := by rw [List.getD_eq_getElem?_getD, List.getElem?_set_self (by rw [hk.m]; exact hi)]; rfl
  have t1 := latC_tb (nm := nm) (b := 0) (t := 0) hk
  have l0 := latC_len (nm := nm) (b := 0) (t := 0) hk
  have l1 := latC_len (nm := nm) (b := 0) (t := 0) hk1
  have c1 := ca_tb T
  have u2 := ca_tb U
  have u3 := take_tb U hU
  have u4 : ((64 : Nat) ≤ (tbx U).length) = True := eq_true (by rw [tbx_len, hU]; exact Nat.le_refl _)
  have s1 : (latC nm T J M 0 0).set (65 + a * 8 + b * 1) (.d (iv (ovR T n a b))) = latC nm T (J.set (ix a b) (ovR T n a b)) M 0 0 := by
    rw [show 65 + a * 8 + b * 1 = 65 + ix a b by rw [← ei]; omega]
    exact latC_set (latD_sj hk hi _)
  have s2 : (latC nm T (J.set (ix a b) (ovR T n a b)) M 0 0).set (129 + a * 8 + b * 1) (.d (iv (ovR U n a b))) = latC nm T (J.set (ix a b) (ovR T n a b)) (M.set (ix a b) (ovR U n a b)) 0 0 := by
    rw [show 129 + a * 8 + b * 1 = 129 + ix a b by rw [← ei]; omega]
    exact latC_set (latD_sm hk1 hi _)
  have w1 : (65 + a * 8 + b * 1 < 195) = True := eq_true (by omega)
  have w2 : (129 + a * 8 + b * 1 < 195) = True := eq_true (by omega)
  have g1 : (latC nm T (J.set (ix a b) (ovR T n a b)) (M.set (ix a b) (ovR U n a b)) 0 0)[65 + a * 8 + b * 1]? = some (.d (iv (ovR T n a b))) := by
    rw [show 65 + a * 8 + b * 1 = 65 + ix a b by rw [← ei]; omega]
    have := latC_get (latD_j (nm := nm) (b := 0) (t := 0) hk2 hi)
    rw [gJ] at this
    exact this
  have g2 : (latC nm T (J.set (ix a b) (ovR T n a b)) (M.set (ix a b) (ovR U n a b)) 0 0)[129 + a * 8 + b * 1]? = some (.d (iv (ovR U n a b))) := by
    rw [show 129 + a * 8 + b * 1 = 129 + ix a b by rw [← ei]; omega]
    have := latC_get (latD_m (nm := nm) (b := 0) (t := 0) hk2 hi)
    rw [gM] at this
    exact this
  have q1 : (ovR T n a b < 0) = False := eq_false (by omega)
  have q2 : (ovR U n a b < 0) = False := eq_false (by omega)
  unfold FlB lbx at ih ⊢
  generalize ovR T n a b = z1 at *
  generalize ovR U n a b = z2' at *
  generalize latC nm T (J.set (ix a b) z1) (M.set (ix a b) z2') 0 0 = C2 at *
  generalize latC nm T (J.set (ix a b) z1) M 0 0 = C1 at *
  generalize latC nm T J M 0 0 = C0 at *
  generalize tbx U = XU at *
  generalize tbD U = DU at *
  generalize tbx T = XT at *
  generalize tbD T = DT at *
  clear gJ gM hk1 hk2
  rw [r65_B1_eq]
  simp (disch := omega) only [go_sem, r65_C1, h1, a0, a8, b0, b8, e1, o1, o2, t1, l0, l1, c1, u2, u3, u4, s1, s2, w1, w2, g1, g2, q1, q2, w64]
  exact ih
theorem flb_all (nm : D) (T U : List Bool) (n a : Nat) (hn : n ≤ 8) (ha : a < n) (hU : U.length = 64) (p1 : ∀ b, b < n → 0 ≤ ovR T n a b) (p2 : ∀ b, b < n → 0 ≤ ovR U n a b) : ∀ (j b : Nat) (J M : List Int), b + j = n → LatOk T J M → FlB nm T U n a b J M (flB T n a j b J) (flB U n a j b M)
  | 0, b, J, M, h, hk => by
    obtain rfl : b = n := by omega
    exact flb_end nm T U b a J M
  | j + 1, b, J, M, h, hk => flb_step nm T U n a hn ha hU b (by omega) J M _ _ hk (p1 b (by omega)) (p2 b (by omega)) (flb_all nm T U n a hn ha hU p1 p2 j (b + 1) _ _ (by omega) ⟨hk.t, by simp [hk.j], by simp [hk.m]⟩)
def FlA (nm : D) (T U : List Bool) (n a : Nat) (J M J' M' : List Int) : Prop :=
  V (F tab) r65_B0 (r65_S0 (.ptr 0 0) (.d (iv n)) (.ibox (tbx U)) (.d (iv n)) (.d (iv a)) (lbx nm T J M 0 0)) = some (.norm, r65_E0 (.ptr 0 0) (.d (iv n)) (lbx nm T J' M' 0 0))
theorem fla_end (nm : D) (T U : List Bool) (n : Nat) (J M : List Int) : FlA nm T U n n J M J M := by
  have h1 : ((n : Int) < (n : Int)) = False := eq_false (by omega)
  unfold FlA
  rw [r65_B0_eq]
  simp (disch := omega) only [go_sem, r65_C0, h1]
theorem fla_step (nm : D) (T U : List Bool) (n : Nat) (hn : n ≤ 8) (hU : U.length = 64) (p1 : ∀ a b, a < n → b < n → 0 ≤ ovR T n a b) (p2 : ∀ a b, a < n → b < n → 0 ≤ ovR U n a b) (a : Nat) (ha : a < n) (J M J' M' : List Int) (hk : LatOk T J M)
    (ih : FlA nm T U n (a + 1) (flB T n a n 0 J) (flB U n a n 0 M) J' M') : FlA nm T U n a J M J' M' := by
  have h1 : ((a : Int) < (n : Int)) = True := eq_true (by omega)
  have hj := flb_all nm T U n a hn ha hU (fun b => p1 a b ha) (fun b => p2 a b ha) n 0 J M (by omega) hk
  have e1 : (a : Int) + 1 = ((a + 1 : Nat) : Int) := rfl
  unfold FlA at ih ⊢
  unfold FlB at hj
  generalize flB T n a n 0 J = J1 at *
  generalize flB U n a n 0 M = M1 at *
  rw [r65_B0_eq]
  simp (disch := omega) only [go_sem, r65_C0, h1]
  rw [r65_B1_n]
  erw [hj]
  simp (disch := omega) only [go_sem, e1, w64]
  exact ih
theorem fla_all (nm : D) (T U : List Bool) (n : Nat) (hn : n ≤ 8) (hU : U.length = 64) (p1 : ∀ a b, a < n → b < n → 0 ≤ ovR T n a b) (p2 : ∀ a b, a < n → b < n → 0 ≤ ovR U n a b) : ∀ (j a : Nat) (J M : List Int), a + j = n → LatOk T J M → FlA nm T U n a J M (flA T n j a J) (flA U n j a M)
  | 0, a, J, M, h, hk => by
    obtain rfl : a = n := by omega
    exact fla_end nm T U a J M
  | j + 1, a, J, M, h, hk => fla_step nm T U n hn hU p1 p2 a (by omega) J M _ _ hk (fla_all nm T U n hn hU p1 p2 j (a + 1) _ _ (by omega) ⟨hk.t, by rw [flB_len, hk.j], by rw [flB_len, hk.m]⟩)
def btR (M : List Int) : Nat → Nat → Nat → Nat
  | 0, a, b => b
  | j + 1, a, b => btR M j (a + 1) (M.getD (ix b a) 0).toNat
def BtIs (nm : D) (T : List Bool) (J M : List Int) (n a b t b' t' : Nat) : Prop :=
  V (F tab) r65_B2 (r65_S2 (.ptr 0 0) (.d (iv n)) (.d (iv a)) (lbx nm T J M b t)) = some (.norm, r65_E2 (lbx nm T J M b' t'))
theorem bt_end (nm : D) (T : List Bool) (J M : List Int) (n b t : Nat) : BtIs nm T J M n n b t b t := by
  have h1 : ((n : Int) < (n : Int)) = False := eq_false (by omega)
  unfold BtIs
  rw [r65_B2_eq]
  simp (disch := omega) only [go_sem, r65_C2, h1]
set_option maxHeartbeats 1000000 in
theorem bt_step (nm : D) (T : List Bool) (J M : List Int) (hk : LatOk T J M) (n a b t b' t' : Nat) (hn : n ≤ 8) (ha : a < n) (hb : b < n) (ht : t < n) (pb : 0 ≤ M.getD (ix b a) 0) (pt : 0 ≤ J.getD (ix t a) 0)
    (ih : BtIs nm T J M n (a + 1) (M.getD (ix b a) 0).toNat (J.getD (ix t a) 0).toNat b' t') : BtIs nm T J M n a b t b' t' := by
  have h1 : ((a : Int) < (n : Int)) = True := eq_true (by omega)
  have a0 : (0 ≤ (a : Int)) = True := eq_true (by omega)
  have a8 : ((a : Int) < ((8 : Nat) : Int)) = True := eq_true (by omega)
  have b0 : (0 ≤ (b : Int)) = True := eq_true (by omega)
  have b8 : ((b : Int) < ((8 : Nat) : Int)) = True := eq_true (by omega)
  have t0 : (0 ≤ (t : Int)) = True := eq_true (by omega)
  have t8 : ((t : Int) < ((8 : Nat) : Int)) = True := eq_true (by omega)
  have e1 : (a : Int) + 1 = ((a + 1 : Nat) : Int) := rfl
  obtain ⟨v, hv⟩ : ∃ v : Nat, M.getD (ix b a) 0 = (v : Int) := ⟨(M.getD (ix b a) 0).toNat, by omega⟩
  obtain ⟨w, hw⟩ : ∃ w : Nat, J.getD (ix t a) 0 = (w : Int) := ⟨(J.getD (ix t a) 0).toNat, by omega⟩
  rw [hv, hw, Int.toNat_natCast, Int.toNat_natCast] at ih
  have l0 := latC_len (nm := nm) (b := b) (t := t) hk
  have l1 := latC_len (nm := nm) (b := v) (t := t) hk
  have g0 := latC_get (latD_b (nm := nm) (b := b) (t := t) hk).1
  have g1 : (latC nm T J M b t)[129 + b * 8 + a * 1]? = some (.d (iv v)) := by
    rw [show 129 + b * 8 + a * 1 = 129 + ix b a by unfold ix; omega, ← hv]
    exact latC_get (latD_m hk (ix_lt (by omega) (by omega)))
  have s1 : (latC nm T J M b t).set 193 (.d (iv v)) = latC nm T J M v t := latC_set (latD_sb hk v t).1
  have g2 := latC_get (latD_b (nm := nm) (b := v) (t := t) hk).2
  have g3 : (latC nm T J M v t)[65 + t * 8 + a * 1]? = some (.d (iv w)) := by
    rw [show 65 + t * 8 + a * 1 = 65 + ix t a by unfold ix; omega, ← hw]
    exact latC_get (latD_j hk (ix_lt (by omega) (by omega)))
  have s2 : (latC nm T J M v t).set 194 (.d (iv w)) = latC nm T J M v w := latC_set (latD_sb hk v w).2
  unfold BtIs lbx at ih ⊢
  generalize latC nm T J M b t = C0 at *
  generalize latC nm T J M v t = C1 at *
  generalize latC nm T J M v w = C2 at *
  rw [r65_B2_eq]
  simp (disch := omega) only [go_sem, r65_C2, h1, a0, a8, b0, b8, t0, t8, e1, l0, l1, g0, g1, g2, g3, s1, s2, w64]
  exact ih
theorem bt_all (nm : D) (T : List Bool) (J M : List Int) (hk : LatOk T J M) (n : Nat) (hn : n ≤ 8) (pj : ∀ a b, a < n → b < n → 0 ≤ J.getD (ix a b) 0 ∧ J.getD (ix a b) 0 < n) (pm : ∀ a b, a < n → b < n → 0 ≤ M.getD (ix a b) 0 ∧ M.getD (ix a b) 0 < n) : ∀ (j a b t : Nat), a + j = n → b < n → t < n → BtIs nm T J M n a b t (btR M j a b) (btR J j a t)
  | 0, a, b, t, h, _, _ => by
    obtain rfl : a = n := by omega
    exact bt_end nm T J M a b t
  | j + 1, a, b, t, h, hb, ht => by
    obtain ⟨q1, q2⟩ := pm b a hb (by omega)
    obtain ⟨q3, q4⟩ := pj t a ht (by omega)
    exact bt_step nm T J M hk n a b t _ _ hn (by omega) hb ht q1 q3 (bt_all nm T J M hk n hn pj pm j (a + 1) _ _ (by omega) (by omega) (by omega))
def z64 : List Int := List.replicate 64 0
theorem fill_ok (nm : D) (T : List Bool) (n : Nat) (hn : n ≤ 8) (h0 : 0 < n) (hT : T.length = 64) (p1 : ∀ a b, a < n → b < n → 0 ≤ ovR T n a b) (p2 : ∀ a b, a < n → b < n → 0 ≤ ovR (tnR T) n a b)
    (pj : ∀ a b, a < n → b < n → 0 ≤ (flA T n n 0 z64).getD (ix a b) 0 ∧ (flA T n n 0 z64).getD (ix a b) 0 < n) (pm : ∀ a b, a < n → b < n → 0 ≤ (flA (tnR T) n n 0 z64).getD (ix a b) 0 ∧ (flA (tnR T) n n 0 z64).getD (ix a b) 0 < n) :
    F tab 65 [.ptr 0 0, .d (iv n)] (lbx nm T z64 z64 0 0) = some (.ret (.d (.bool true)) (lbx nm T (flA T n n 0 z64) (flA (tnR T) n n 0 z64) (btR (flA (tnR T) n n 0 z64) n 0 0) (btR (flA T n n 0 z64) n 0 0))) := by
  have hk : LatOk T z64 z64 := ⟨hT, rfl, rfl⟩
  have hk1 : LatOk T (flA T n n 0 z64) (flA (tnR T) n n 0 z64) := ⟨hT, by rw [flA_len]; rfl, by rw [flA_len]; rfl⟩
  have h1 := fla_all nm T (tnR T) n hn (tnR_len T) p1 p2 n 0 z64 z64 (by omega) hk
  have h2 := bt_all nm T _ _ hk1 n hn pj pm n 0 0 0 (by omega) h0 h0
  have tn := turned_ok T hT
  have t1 := latC_tb (nm := nm) (b := 0) (t := 0) hk
  have l0 := latC_len (nm := nm) (b := 0) (t := 0) hk
  have c1 := ca_tb T
  have c5 := sc_z (tnR T) (tnR_len T)
  have c6 : ((tbD (tnR T)).length = 64) = True := eq_true (by rw [tbD_len, tnR_len])
  unfold FlA lbx at h1
  unfold BtIs lbx at h2
  unfold lbx
  generalize flA T n n 0 z64 = J1 at *
  generalize flA (tnR T) n n 0 z64 = M1 at *
  generalize tnR T = R at *
  refine f65 ?_
  simp (disch := omega) only [go_sem, r65_T, r65, t1, l0, c1, tn, c5, c6]
  rw [r65_B0_n]
  erw [h1]
  simp (disch := omega) only [go_sem]
  rw [r65_B2_n]
  erw [h2]
  simp (disch := omega) only [go_sem, r65]
end Go.Pe.T

namespace Go.Pe
inductive Nd where
  | mk (l d k c s : Int) (t : ByteArray) (xs : List Nd) (ks : List ByteArray)
mutual
def Nd.enc : Nd → D
  | .mk l d k c s t xs ks => .agg [iv l, iv d, iv k, iv c, iv s, .str t, .sl (Nd.encs xs), .sl (ks.map .str)]
def Nd.encs : List Nd → List D
  | [] => []
  | v :: r => v.enc :: Nd.encs r
end
theorem nencs_eq : ∀ (xs : List Nd), Nd.encs xs = xs.map Nd.enc
  | [] => rfl
  | v :: xs => by simp [Nd.encs, nencs_eq xs]
theorem nencs_get (xs : List Nd) (i : Nat) : (Nd.encs xs)[i]? = xs[i]?.map Nd.enc := by rw [nencs_eq, List.getElem?_map]
theorem nencs_len (xs : List Nd) : (Nd.encs xs).length = xs.length := by rw [nencs_eq, List.length_map]
theorem nenc_w (v : Nd) : v.enc.width = 8 := by cases v; rfl
theorem nenc_a (v : Nd) : v.enc.isAgg = true := by cases v; rfl
def Nd.xs : Nd → List Nd
  | .mk _ _ _ _ _ _ xs _ => xs
mutual
def Nd.lim (N : Nat) : Nd → Prop
  | .mk l d k c s t xs ks => (i64 l ∧ i64 d ∧ i64 k ∧ i64 c ∧ i64 s) ∧ t.size ≤ N ∧ xs.length ≤ N ∧ ks.length ≤ N ∧ (∀ x ∈ ks, x.size ≤ N) ∧ Nd.lims N xs
def Nd.lims (N : Nat) : List Nd → Prop
  | [] => True
  | x :: r => Nd.lim N x ∧ Nd.lims N r
end
theorem nlims_mem {N : Nat} : ∀ {xs : List Nd} {v : Nd}, Nd.lims N xs → v ∈ xs → v.lim N
  | x :: xs, v, h, hv => by
    rcases List.mem_cons.1 hv with rfl | hv
    · exact h.1
    · exact nlims_mem h.2 hv
mutual
def Nd.strip : Nd → Val
  | .mk l d k c s t xs ks => .mk k c s t (Nd.strips xs) ks
def Nd.strips : List Nd → List Val
  | [] => []
  | x :: r => x.strip :: Nd.strips r
end
theorem strips_eq : ∀ (xs : List Nd), Nd.strips xs = xs.map Nd.strip
  | [] => rfl
  | v :: xs => by simp [Nd.strips, strips_eq xs]
theorem strips_len (xs : List Nd) : (Nd.strips xs).length = xs.length := by rw [strips_eq, List.length_map]
mutual
theorem strip_lim {N : Nat} : ∀ (v : Nd), v.lim N → v.strip.lim N
  | .mk l d k c s t xs ks, h => by
    simp only [Nd.lim] at h
    simp only [Nd.strip, Val.lim, strips_len]
    exact ⟨h.2.1, h.2.2.1, h.2.2.2.1, h.2.2.2.2.1, strips_lim xs h.2.2.2.2.2⟩
theorem strips_lim {N : Nat} : ∀ (xs : List Nd), Nd.lims N xs → Val.lims N (Nd.strips xs)
  | [], _ => trivial
  | x :: xs, h => ⟨strip_lim x h.1, strips_lim xs h.2⟩
end
section
variable {H : Type} {P : Program}
structure NdT (P : Program) (tV : TypeId) : Prop where
  is : ∃ (fV fN : Array Field) (tL tD tK tN tS tX tT tC tE tEs : TypeId), P.underlying tV = some (.struct fV) ∧ fV.toList.map (·.type) = [tL, tD, tK, tN, tS, tX, tT] ∧
    P.underlying tL = some (.int .i64) ∧ P.underlying tD = some (.int .i64) ∧ P.underlying tK = some (.int .i64) ∧
    P.underlying tN = some (.struct fN) ∧ fN.toList.map (·.type) = [tC, tE] ∧ P.underlying tC = some (.int .i64) ∧ P.underlying tE = some (.int .i64) ∧
    P.underlying tS = some .string ∧ P.underlying tX = some (.slice tV) ∧ P.underlying tT = some (.slice tEs) ∧ P.underlying tEs = some .string
theorem lift_nd {N : Nat} {tV : TypeId} (hT : NdT P tV) : ∀ (n : Nat) (d : DataW H) (xs : List D), SizeOf.sizeOf xs ≤ n → Lift P tV d xs → (∀ x ∈ xs, D.smallR N x) → ∃ v : Nd, v.lim N ∧ D.agg xs = v.enc
  | 0, d, xs, hn, h, _ => by cases xs <;> simp at hn
  | n + 1, d, xs, hn, h, hsm => by
    obtain ⟨fV, fN, tL, tD, tK, tN, tS, tX, tT, tC, tE, tEs, e1, e2, u1, u2, e3, e4, e5, e6, e7, e8, e9, e10, e11⟩ := hT.is
    have hagg : aggT P tV = true := by simp [aggT, e1]
    obtain ⟨ds, l0⟩ := lift_st e1 h
    rw [e2] at l0
    obtain ⟨_, _, a1, b1, rfl, m1, l1⟩ := lifts_cons l0
    obtain ⟨_, _, a2, b2, rfl, m2, l2⟩ := lifts_cons l1
    obtain ⟨_, _, a3, b3, rfl, m3, l3⟩ := lifts_cons l2
    obtain ⟨_, _, a4, b4, rfl, m4, l4⟩ := lifts_cons l3
    obtain ⟨_, _, a5, b5, rfl, m5, l5⟩ := lifts_cons l4
    obtain ⟨_, _, a6, b6, rfl, m6, l6⟩ := lifts_cons l5
    obtain ⟨_, _, a7, b7, rfl, m7, l7⟩ := lifts_cons l6
    obtain rfl := lifts_nil l7
    obtain ⟨l, rfl, j1⟩ := lift_int u1 m1
    obtain ⟨dp, rfl, j2⟩ := lift_int u2 m2
    obtain ⟨k, rfl, k1⟩ := lift_int e3 m3
    obtain ⟨_, q0⟩ := lift_st e4 m4
    rw [e5] at q0
    obtain ⟨_, _, c1, c2, rfl, n1, q1⟩ := lifts_cons q0
    obtain ⟨_, _, c3, c4, rfl, n2, q2⟩ := lifts_cons q1
    obtain rfl := lifts_nil q2
    obtain ⟨c, rfl, k2⟩ := lift_int e6 n1
    obtain ⟨s, rfl, k3⟩ := lift_int e7 n2
    obtain ⟨t, rfl, k4⟩ := lift_str e8 m5
    obtain ⟨ys, rfl, k5, k6⟩ := lift_sl e9 m6
    obtain ⟨ks, rfl, k7, k8⟩ := lift_strs e10 e11 m7
    have s1 : t.size ≤ N := hsm (.str t) (by simp)
    have s2 : ys.length ≤ N ∧ D.smallRs N ys := hsm (.sl ys) (by simp)
    have s3 : (ks.map D.str).length ≤ N ∧ D.smallRs N (ks.map .str) := hsm (.sl (ks.map .str)) (by simp)
    rw [List.length_map] at s3
    have key : ∀ zs : List D, (∀ y ∈ zs, y ∈ ys) → ∃ vs : List Nd, Nd.lims N vs ∧ zs = Nd.encs vs := by
      intro zs
      induction zs with
      | nil => exact fun _ => ⟨[], trivial, rfl⟩
      | cons y zs ih =>
        intro hz
        obtain ⟨vs, v1, v2⟩ := ih fun y hy => hz y (by simp [hy])
        obtain ⟨g1, d', g2⟩ := k6 y (hz y (by simp))
        have g3 := agg_cells (y := y) (by rw [g1, hagg])
        have hsz : SizeOf.sizeOf y.cells ≤ n := by
          have s1 : SizeOf.sizeOf y < SizeOf.sizeOf ys := List.sizeOf_lt_of_mem (hz y (by simp))
          rw [g3] at s1
          simp at hn s1
          omega
        have hy : D.smallR N y := smallRs_iff.1 s2.2 y (hz y (by simp))
        rw [g3] at hy
        obtain ⟨v, w1, w2⟩ := lift_nd hT n d' y.cells hsz g2 (smallRs_iff.1 hy)
        exact ⟨v :: vs, ⟨w1, v1⟩, by rw [Nd.encs, ← w2, ← g3, ← v2]⟩
    obtain ⟨vs, v1, v2⟩ := key ys (fun _ h => h)
    subst v2
    refine ⟨.mk l dp k c s t vs ks, ?_, by simp [Nd.enc]⟩
    simp only [Nd.lim]
    exact ⟨⟨j1, j2, k1, k2, k3⟩, s1, by rw [nencs_len] at s2; exact s2.1, s3.1, fun x hx => smallRs_iff.1 s3.2 (.str x) (List.mem_map_of_mem hx), v1⟩
def nd2 (a b : Nd) : D := .agg (a.enc.cells ++ (b.enc.cells ++ []))
theorem lift_nd2 {N : Nat} {t tV : TypeId} (hT : NdT P tV) (ht : P.underlying t = some (.array 2 tV)) {d : DataW H} {x : D} (h : Lift P t d x.cells) (ha : x.isAgg = aggT P t) (hs : D.smallR N x) : ∃ a b : Nd, (a.lim N ∧ b.lim N) ∧ x = nd2 a b := by
  obtain ⟨ds, h1⟩ := lift_arr ht h
  have e : ((List.range 2).map fun _ => tV) = [tV, tV] := rfl
  rw [e] at h1
  obtain ⟨_, _, a1, b1, q, m1, l1⟩ := lifts_cons h1
  obtain ⟨_, _, a2, b2, rfl, m2, l2⟩ := lifts_cons l1
  obtain rfl := lifts_nil l2
  have hagg : aggT P t = true := by simp [aggT, ht]
  have ex := agg_cells (y := x) (by rw [ha, hagg])
  rw [ex] at hs
  have hs := smallRs_iff.1 hs
  rw [q] at hs
  obtain ⟨a, oa, ea⟩ := lift_nd (N := N) hT _ _ a1 (Nat.le_refl _) m1 fun y hy => hs y (by simp [hy])
  obtain ⟨b, ob, eb⟩ := lift_nd (N := N) hT _ _ a2 (Nat.le_refl _) m2 fun y hy => hs y (by simp [hy])
  refine ⟨a, b, ⟨oa, ob⟩, ?_⟩
  rw [ex, q, nd2, ← ea, ← eb]
  rfl
end
end Go.Pe

namespace Go.Pe.T
-- printed by genlf.py: level.New of the policies that are right
theorem ok_of {n f : Nat} {args : List PV} {v : PV} (hf : pf f = true) (h : evF tab n f args [] = some (.ret v [])) (hp : List Ent) : F tab f args hp = some (.ret v hp) :=
  F_some.2 ⟨n, ((evF_nice (pf := pf) pf_ok n).2 f hf _ _ _ _ h).2 hp⟩
theorem sd_app : ∀ (ds zs pre post : List D), zs.length = ds.length → setDs (pre ++ (zs ++ post)) pre.length ds = pre ++ (ds ++ post)
  | [], zs, pre, post, h => by
    have : zs = [] := List.eq_nil_of_length_eq_zero (by simpa using h)
    subst this
    rfl
  | d :: ds, [], pre, post, h => by simp at h
  | d :: ds, z :: zs, pre, post, h => by
    have ih := sd_app ds zs (pre ++ [d]) post (by simpa using h)
    rw [setDs]
    have e : (pre ++ (z :: zs ++ post)).set pre.length d = pre ++ [d] ++ (zs ++ post) := by
      rw [List.set_append_right _ _ (Nat.le_refl _), Nat.sub_self]
      simp
    rw [e]
    simp only [List.length_append, List.length_cons, List.length_nil, Nat.zero_add] at ih
    rw [ih]
    simp
theorem sd_lat (nm : D) (T : List Bool) (h : T.length = 64) : setDs [nm, .bool false, .bool false, .bool false, .bool false, .bool false, .bool false, .bool false, .bool false, .bool false, .bool false, .bool false, .bool false, .bool false, .bool false, .bool false, .bool false, .bool false, .bool false, .bool false, .bool false, .bool false, .bool false, .bool false, .bool false, .bool false, .bool false, .bool false, .bool false, .bool false, .bool false, .bool false, .bool false, .bool false, .bool false, .bool false, .bool false, .bool false, .bool false, .bool false, .bool false, .bool false, .bool false, .bool false, .bool false, .bool false, .bool false, .bool false, .bool false, .bool false, .bool false, .bool false, .bool false, .bool false, .bool false, .bool false, .bool false, .bool false, .bool false, .bool false, .bool false, .bool false, .bool false, .bool false, .bool false, .int .i64 0, .int .i64 0, .int .i64 0, .int .i64 0, .int .i64 0, .int .i64 0, .int .i64 0, .int .i64 0, .int .i64 0, .int .i64 0, .int .i64 0, .int .i64 0, .int .i64 0, .int .i64 0, .int .i64 0, .int .i64 0, .int .i64 0, .int .i64 0, .int .i64 0, .int .i64 0, .int .i64 0, .int .i64 0, .int .i64 0, .int .i64 0, .int .i64 0, .int .i64 0, .int .i64 0, .int .i64 0, .int .i64 0, .int .i64 0, .int .i64 0, .int .i64 0, .int .i64 0, .int .i64 0, .int .i64 0, .int .i64 0, .int .i64 0, .int .i64 0, .int .i64 0, .int .i64 0, .int .i64 0, .int .i64 0, .int .i64 0, .int .i64 0, .int .i64 0, .int .i64 0, .int .i64 0, .int .i64 0, .int .i64 0, .int .i64 0, .int .i64 0, .int .i64 0, .int .i64 0, .int .i64 0, .int .i64 0, .int .i64 0, .int .i64 0, .int .i64 0, .int .i64 0, .int .i64 0, .int .i64 0, .int .i64 0, .int .i64 0, .int .i64 0, .int .i64 0, .int .i64 0, .int .i64 0, .int .i64 0, .int .i64 0, .int .i64 0, .int .i64 0, .int .i64 0, .int .i64 0, .int .i64 0, .int .i64 0, .int .i64 0, .int .i64 0, .int .i64 0, .int .i64 0, .int .i64 0, .int .i64 0, .int .i64 0, .int .i64 0, .int .i64 0, .int .i64 0, .int .i64 0, .int .i64 0, .int .i64 0, .int .i64 0, .int .i64 0, .int .i64 0, .int .i64 0, .int .i64 0, .int .i64 0, .int .i64 0, .int .i64 0, .int .i64 0, .int .i64 0, .int .i64 0, .int .i64 0, .int .i64 0, .int .i64 0, .int .i64 0, .int .i64 0, .int .i64 0, .int .i64 0, .int .i64 0, .int .i64 0, .int .i64 0, .int .i64 0, .int .i64 0, .int .i64 0, .int .i64 0, .int .i64 0, .int .i64 0, .int .i64 0, .int .i64 0, .int .i64 0, .int .i64 0, .int .i64 0, .int .i64 0, .int .i64 0, .int .i64 0, .int .i64 0, .int .i64 0, .int .i64 0, .int .i64 0, .int .i64 0, .int .i64 0, .int .i64 0] 1 (tbD T) = latD nm T z64 z64 0 0 := by
  have e := sd_app (tbD T) (List.replicate 64 (.bool false)) [nm] (List.replicate 130 (iv 0)) (by rw [tbD_len, h]; rfl)
  exact e
theorem latD_opt (nm : D) (T : List Bool) (J M : List Int) (b t : Nat) : optAll ((latC nm T J M b t).map PV.toD) = some (latD nm T J M b t) := by rw [latC, optD]
theorem latD_flat (ns : List D) (T : List Bool) (J M : List Int) (b t : Nat) : (latD (.sl ns) T J M b t).all (fun d => !d.isAgg) = true := by
  rw [List.all_eq_true]
  intro x hx
  simp only [latD, tbD, List.mem_cons, List.mem_append, List.mem_map] at hx
  rcases hx with rfl | ⟨a, _, rfl⟩ | ⟨a, _, rfl⟩ | ⟨a, _, rfl⟩ | rfl | rfl | hx <;> first | rfl | (simp at hx)
structure LevOk (n : Nat) (T : List Bool) (J M : List Int) : Prop where
  n8 : n ≤ 8
  n0 : 0 < n
  tw : twA T n 0 = false
  p1 : ∀ a b, a < n → b < n → 0 ≤ ovR T n a b
  p2 : ∀ a b, a < n → b < n → 0 ≤ ovR (tnR T) n a b
  ej : flA T n n 0 z64 = J
  em : flA (tnR T) n n 0 z64 = M
  pj : ∀ a b, a < n → b < n → 0 ≤ J.getD (ix a b) 0 ∧ J.getD (ix a b) 0 < n
  pm : ∀ a b, a < n → b < n → 0 ≤ M.getD (ix a b) 0 ∧ M.getD (ix a b) 0 < n
set_option maxHeartbeats 1000000 in
theorem new_gen (ns bl : List D) (T0 T : List Bool) (J M : List Int) (hns : ns.length ≤ 8) (hw : (ns.all fun y => y.width == 1) = true) (h0 : T0.length = 64) (hT : T.length = 64) (hk : LevOk ns.length T J M)
    (hnm : ∀ hp, F tab 61 [.d (.sl ns)] hp = some (.ret (.d (.bool true)) hp))
    (hla : ∀ hp, F tab 62 [.d (iv ns.length), .d (.sl bl)] hp = some (.ret (.tup [.d (.agg (tbD T0)), .d (.bool true)]) hp))
    (hcl : ClR ns.length T0 T) (hp : List Ent) :
    F tab 24 [.d (.agg [.sl ns, .sl bl, .sl []])] hp = some (.ret (.tup [.d (.ptr (.agg (latD (.sl ns) T J M (btR M ns.length 0 0) (btR J ns.length 0 0))) 0), .d (iv 0)]) hp) := by
  have c := closed_ok ns.length T0 T h0 hT hcl
  have tw := twisted_ok T hT ns.length hk.n8
  rw [hk.tw] at tw
  have fl := fill_ok (.sl ns) T ns.length hk.n8 hk.n0 hT hk.p1 hk.p2 (by rw [hk.ej]; exact hk.pj) (by rw [hk.em]; exact hk.pm)
  rw [hk.ej, hk.em] at fl
  have k0 : LatOk T z64 z64 := ⟨hT, rfl, rfl⟩
  have t1 := latC_tb (nm := .sl ns) (b := 0) (t := 0) k0
  have l0 := latC_len (nm := .sl ns) (b := 0) (t := 0) k0
  have c1 := ca_tb T
  have u2 := ca_tb T0
  have u3 := take_tb T0 h0
  have u4 : ((64 : Nat) ≤ (tbx T0).length) = True := eq_true (by rw [tbx_len, h0]; exact Nat.le_refl _)
  have u5 := sc_z T0 h0
  have u6 : ((tbD T0).length = 64) = True := eq_true (by rw [tbD_len, h0])
  have u7 : ((tbD T).length = 64) = True := eq_true (by rw [tbD_len, hT])
  have sd := sd_lat (.sl ns) T hT
  have eC : (latD (.sl ns) T z64 z64 0 0).map PV.d = latC (.sl ns) T z64 z64 0 0 := rfl
  have hmr : maxRow = 140737488355328 := by decide
  have r1 : (ns.length * 16 ≤ maxRow) = True := eq_true (by omega)
  have r2 : ((0 + ns.length) * 16 ≤ maxRow) = True := eq_true (by omega)
  have fo := latD_opt (.sl ns) T J M (btR M ns.length 0 0) (btR J ns.length 0 0)
  have ff := latD_flat ns T J M (btR M ns.length 0 0) (btR J ns.length 0 0)
  unfold lbx at fl
  generalize latD (.sl ns) T J M (btR M ns.length 0 0) (btR J ns.length 0 0) = E at *
  generalize latC (.sl ns) T J M (btR M ns.length 0 0) (btR J ns.length 0 0) = EC at *
  refine f24 rfl ?_
  simp (disch := omega) only [go_sem, r24_T, r24, hw, hnm, hla, c, tw, fl, t1, l0, c1, u2, u3, u4, u5, u6, u7, sd, eC, r1, r2, thaw, thaw1, fo, ff]
end Go.Pe.T

namespace Go.Pe.T
def rowB (T : List (List Bool)) (a : Nat) : List Bool := T.getD a []
def tt (T : List (List Bool)) (a b : Nat) : Bool := (rowB T a).getD b false
def rwD (l : List Bool) : D := .sl (l.map .bool)
def ttD (T : List (List Bool)) : List D := T.map rwD
structure TbOk (T : List (List Bool)) (m : Nat) : Prop where
  len : T.length = m
  m8 : m ≤ 8
  m1 : 1 ≤ m
  row : ∀ a, a < m → (rowB T a).length = m
theorem ttD_len {T : List (List Bool)} {m : Nat} (h : TbOk T m) : (ttD T).length = m := by rw [ttD, List.length_map, h.len]
theorem ttD_get {T : List (List Bool)} {m : Nat} (h : TbOk T m) {a : Nat} (ha : a < m) : (ttD T)[a]? = some (.sl ((rowB T a).map .bool)) := by
  have e : T[a]? = some (rowB T a) := by
    unfold rowB
    rw [List.getD_eq_getElem?_getD, List.getElem?_eq_getElem (by rw [h.len]; exact ha)]
    rfl
  rw [ttD, List.getElem?_map, e]
  rfl
theorem row_get {T : List (List Bool)} {m : Nat} (h : TbOk T m) {a b : Nat} (ha : a < m) (hb : b < m) : ((rowB T a).map D.bool)[b]? = some (.bool (tt T a b)) := by
  have hl : b < (rowB T a).length := by rw [h.row a ha]; exact hb
  rw [List.getElem?_map, tt, List.getD_eq_getElem?_getD, List.getElem?_eq_getElem hl]
  rfl
def jdS (T : List (List Bool)) (a b c d : Nat) (v : Bool) : Bool := if (tt T a d && tt T b d) && !tt T c d then false else v
def jdD (T : List (List Bool)) (a b c : Nat) : Nat → Nat → Bool → Bool
  | 0, d, v => v
  | j + 1, d, v => jdD T a b c j (d + 1) (jdS T a b c d v)
def jcC (T : List (List Bool)) (m a b : Nat) : Nat → Nat → List Int → List Int
  | 0, c, l => l
  | j + 1, c, l => jcC T m a b j (c + 1) (if jdD T a b c m 0 (tt T a c && tt T b c) then l ++ [(c : Int)] else l)
def JdIs (T : List (List Bool)) (a b c d : Nat) (l : List Int) (v w : Bool) : Prop :=
  V (F tab) r86_B1 (r86_S1 (.d (.sl (ttD T))) (.d (iv a)) (.d (iv b)) (.own 3 (l.map iv)) (.d (iv c)) (.d (.bool v)) (.d (iv d)) []) = some (.norm, r86_E1 (.d (.sl (ttD T))) (.d (iv a)) (.d (iv b)) (.own 3 (l.map iv)) (.d (iv c)) (.d (.bool w)) [])
theorem jd_end (T : List (List Bool)) (m : Nat) (hT : TbOk T m) (a b c : Nat) (l : List Int) (v : Bool) : JdIs T a b c m l v v := by
  have h1 : ((m : Int) < (m : Int)) = False := eq_false (by omega)
  have hl := ttD_len hT
  unfold JdIs
  generalize ttD T = TD at *
  rw [r86_B1_eq]
  simp (disch := omega) only [go_sem, r86_C1, hl, h1]
theorem jd_step (T : List (List Bool)) (m : Nat) (hT : TbOk T m) (a b c : Nat) (ha : a < m) (hb : b < m) (hc : c < m) (l : List Int) (d : Nat) (hd : d < m) (v w : Bool) (ih : JdIs T a b c (d + 1) l (jdS T a b c d v) w) : JdIs T a b c d l v w := by
  have h1 : ((d : Int) < (m : Int)) = True := eq_true (by omega)
  have hl := ttD_len hT
  have a0 : (0 ≤ (a : Int)) = True := eq_true (by omega)
  have b0 : (0 ≤ (b : Int)) = True := eq_true (by omega)
  have c0 : (0 ≤ (c : Int)) = True := eq_true (by omega)
  have d0 : (0 ≤ (d : Int)) = True := eq_true (by omega)
  have ga := ttD_get hT ha
  have gb := ttD_get hT hb
  have gc := ttD_get hT hc
  have g1 := row_get hT ha hd
  have g2 := row_get hT hb hd
  have g3 := row_get hT hc hd
  have e1 : (d : Int) + 1 = ((d + 1 : Nat) : Int) := rfl
  have hm8 := hT.m8
  unfold JdIs at ih ⊢
  unfold jdS at ih
  generalize tt T a d = v1 at *
  generalize tt T b d = v2 at *
  generalize tt T c d = v3 at *
  generalize ttD T = TD at *
  generalize (rowB T a).map D.bool = RA at *
  generalize (rowB T b).map D.bool = RB at *
  generalize (rowB T c).map D.bool = RC at *
  generalize l.map iv = LD at *
  rw [r86_B1_eq]
  cases v1
  · simp only [Bool.false_and, Bool.false_eq_true, if_false] at ih
    simp (disch := omega) only [go_sem, r86_C1, hl, h1, a0, b0, c0, d0, ga, gb, gc, g1, g2, g3, e1, w64]
    exact ih
  · cases v2
    · simp only [Bool.and_false, Bool.false_and, Bool.false_eq_true, if_false] at ih
      simp (disch := omega) only [go_sem, r86_C1, hl, h1, a0, b0, c0, d0, ga, gb, gc, g1, g2, g3, e1, w64]
      exact ih
    · cases v3
      · simp only [Bool.and_true, Bool.not_false, if_true] at ih
        simp (disch := omega) only [go_sem, r86_C1, hl, h1, a0, b0, c0, d0, ga, gb, gc, g1, g2, g3, e1, w64]
        exact ih
      · simp only [Bool.and_true, Bool.not_true, Bool.false_eq_true, if_false] at ih
        simp (disch := omega) only [go_sem, r86_C1, hl, h1, a0, b0, c0, d0, ga, gb, gc, g1, g2, g3, e1, w64]
        exact ih
theorem jd_all (T : List (List Bool)) (m : Nat) (hT : TbOk T m) (a b c : Nat) (ha : a < m) (hb : b < m) (hc : c < m) (l : List Int) : ∀ (j d : Nat) (v : Bool), d + j = m → JdIs T a b c d l v (jdD T a b c j d v)
  | 0, d, v, h => by
    obtain rfl : d = m := by omega
    exact jd_end T d hT a b c l v
  | j + 1, d, v, h => jd_step T m hT a b c ha hb hc l d (by omega) v _ (jd_all T m hT a b c ha hb hc l j (d + 1) _ (by omega))
def JcIs (T : List (List Bool)) (a b c : Nat) (l l' : List Int) : Prop :=
  V (F tab) r86_B0 (r86_S0 (.d (.sl (ttD T))) (.d (iv a)) (.d (iv b)) (.own 3 (l.map iv)) (.d (iv c)) []) = some (.norm, r86_E0 (.own 3 (l'.map iv)) [])
theorem jc_end (T : List (List Bool)) (m : Nat) (hT : TbOk T m) (a b : Nat) (l : List Int) : JcIs T a b m l l := by
  have h1 : ((m : Int) < (m : Int)) = False := eq_false (by omega)
  have hl := ttD_len hT
  unfold JcIs
  generalize ttD T = TD at *
  rw [r86_B0_eq]
  simp (disch := omega) only [go_sem, r86_C0, hl, h1]
theorem jc_step (T : List (List Bool)) (m : Nat) (hT : TbOk T m) (a b : Nat) (ha : a < m) (hb : b < m) (c : Nat) (hc : c < m) (l l' : List Int) (hlc : l.length ≤ c) (ih : JcIs T a b (c + 1) (if jdD T a b c m 0 (tt T a c && tt T b c) then l ++ [(c : Int)] else l) l') : JcIs T a b c l l' := by
  have h1 : ((c : Int) < (m : Int)) = True := eq_true (by omega)
  have hl := ttD_len hT
  have a0 : (0 ≤ (a : Int)) = True := eq_true (by omega)
  have b0 : (0 ≤ (b : Int)) = True := eq_true (by omega)
  have c0 : (0 ≤ (c : Int)) = True := eq_true (by omega)
  have ga := ttD_get hT ha
  have gb := ttD_get hT hb
  have g1 := row_get hT ha hc
  have g2 := row_get hT hb hc
  have e1 : (c : Int) + 1 = ((c + 1 : Nat) : Int) := rfl
  have hm8 := hT.m8
  have hd := jd_all T m hT a b c ha hb hc l m 0 (tt T a c && tt T b c) (by omega)
  have hmr : maxRow = 140737488355328 := by decide
  have k1 : ((l.length + 1) * 8 ≤ maxRow) = True := eq_true (by omega)
  have ea : (l ++ [(c : Int)]).map iv = l.map iv ++ [iv (c : Int)] := by simp
  have hll : (l.map iv).length = l.length := List.length_map _
  have eif : (if jdD T a b c m 0 (tt T a c && tt T b c) then l ++ [(c : Int)] else l).map iv = if jdD T a b c m 0 (tt T a c && tt T b c) then l.map iv ++ [iv (c : Int)] else l.map iv := by rw [← ea]; split <;> rfl
  unfold JcIs at ih ⊢
  unfold JdIs at hd
  rw [eif] at ih
  generalize tt T a c = v1 at *
  generalize tt T b c = v2 at *
  generalize jdD T a b c m 0 (v1 && v2) = w at *
  generalize ttD T = TD at *
  generalize (rowB T a).map D.bool = RA at *
  generalize (rowB T b).map D.bool = RB at *
  clear ea eif
  generalize l.map iv = LD at *
  rw [r86_B0_eq]
  have go : ∀ q, (v1 && v2) = q → V (F tab) r86_B1 (r86_S1 (.d (.sl TD)) (.d (iv a)) (.d (iv b)) (.own 3 LD) (.d (iv c)) (.d (.bool q)) (.d (iv 0)) []) = some (.norm, r86_E1 (.d (.sl TD)) (.d (iv a)) (.d (iv b)) (.own 3 LD) (.d (iv c)) (.d (.bool w)) []) := fun q e => e ▸ hd
  clear hd
  cases v1
  · have go := go false rfl
    simp (disch := omega) only [go_sem, r86_C0, hl, h1, a0, b0, c0, ga, gb, g1, g2]
    rw [r86_B1_n]
    erw [go]
    cases w
    · simp only [Bool.false_eq_true, if_false] at ih
      simp (disch := omega) only [go_sem, e1, w64]
      exact ih
    · simp only [if_true] at ih
      simp (disch := omega) only [go_sem, e1, w64, hll, k1]
      exact ih
  · have go := go v2 (by simp)
    simp (disch := omega) only [go_sem, r86_C0, hl, h1, a0, b0, c0, ga, gb, g1, g2]
    rw [r86_B1_n]
    erw [go]
    cases w
    · simp only [Bool.false_eq_true, if_false] at ih
      simp (disch := omega) only [go_sem, e1, w64]
      exact ih
    · simp only [if_true] at ih
      simp (disch := omega) only [go_sem, e1, w64, hll, k1]
      exact ih
theorem jc_all (T : List (List Bool)) (m : Nat) (hT : TbOk T m) (a b : Nat) (ha : a < m) (hb : b < m) : ∀ (j c : Nat) (l : List Int), c + j = m → l.length ≤ c → JcIs T a b c l (jcC T m a b j c l)
  | 0, c, l, h, hl => by
    obtain rfl : c = m := by omega
    exact jc_end T c hT a b l
  | j + 1, c, l, h, hl => jc_step T m hT a b ha hb c (by omega) l _ hl (jc_all T m hT a b ha hb j (c + 1) _ (by omega) (by split <;> first | (rw [List.length_append, List.length_singleton]; omega) | omega))
def jnR (T : List (List Bool)) (m a b : Nat) : List Int := jcC T m a b m 0 []
theorem join01_ok (T : List (List Bool)) (m : Nat) (hT : TbOk T m) (a b : Nat) (ha : a < m) (hb : b < m) (hp : List Ent) : F tab 86 [.d (.sl (ttD T)), .d (iv a), .d (iv b)] hp = some (.ret (.d (.sl ((jnR T m a b).map iv))) hp) := by
  have h := jc_all T m hT a b ha hb m 0 [] (by omega) (by simp)
  unfold JcIs at h
  have e : jcC T m a b m 0 [] = jnR T m a b := rfl
  rw [e] at h
  generalize (jnR T m a b).map iv = J at *
  generalize ttD T = TD at *
  have h : V (F tab) r86_B0 (r86_S0 (.d (.sl TD)) (.d (iv a)) (.d (iv b)) (.own 3 []) (.d (iv 0)) []) = _ := h
  refine f86 rfl ?_
  simp (disch := omega) only [go_sem, r86_T, r86]
  rw [r86_B0_n, r86_B0_z7]
  erw [h]
  simp (disch := omega) only [go_sem, r86]
def jn (T : List (List Bool)) (m a b : Nat) : Int := (jnR T m a b).headD 0
theorem join09_ok (T : List (List Bool)) (m : Nat) (hT : TbOk T m) (a b : Nat) (ha : a < m) (hb : b < m) (hne : jnR T m a b ≠ []) (hp : List Ent) : F tab 42 [.d (.sl (ttD T)), .d (iv a), .d (iv b)] hp = some (.ret (.d (iv (jn T m a b))) hp) := by
  have h := join01_ok T m hT a b ha hb
  unfold jn
  cases hJ : jnR T m a b with
  | nil => exact absurd hJ hne
  | cons x r =>
    rw [hJ] at h
    simp only [List.map_cons] at h
    refine f42 rfl ?_
    simp (disch := omega) only [go_sem, r42_T, r42, h, List.headD_cons]
end Go.Pe.T

namespace Go.Pe.T
abbrev Prs := List (Nat × Nat)
def prD (B : Prs) : List D := B.map fun p => .agg [iv (p.1 : Int), iv (p.2 : Int)]
def bxR (R : List Bool) : List PV := R.map fun b => .d (.bool b)
def tiS (p : Nat × Nat) (R : List Bool) : List Bool := if R.getD p.1 false then R.set p.2 true else R
def tiI : Prs → List Bool → List Bool
  | [], R => R
  | p :: B, R => tiI B (tiS p R)
theorem tiS_len (p : Nat × Nat) (R : List Bool) : (tiS p R).length = R.length := by unfold tiS; split <;> simp
theorem tiI_len : ∀ (B : Prs) (R : List Bool), (tiI B R).length = R.length
  | [], R => rfl
  | p :: B, R => by rw [tiI, tiI_len B, tiS_len]
def tiK (B : Prs) : Nat → List Bool → List Bool
  | 0, R => R
  | j + 1, R => tiK B j (tiI B R)
theorem tiK_len (B : Prs) : ∀ (j : Nat) (R : List Bool), (tiK B j R).length = R.length
  | 0, R => rfl
  | j + 1, R => by rw [tiK, tiK_len B j, tiI_len]
theorem hp_last (G : List Ent) (x : Ent) : (G ++ [x])[G.length]? = some x := by simp
theorem hp_set (G : List Ent) (x y : Ent) : (G ++ [x]).set G.length y = G ++ [y] := by simp
theorem bxR_get {R : List Bool} {o : Nat} (h : o < R.length) : (bxR R)[o]? = some (.d (.bool (R.getD o false))) := by
  unfold bxR
  rw [List.getElem?_map, List.getElem?_eq_getElem h, List.getD_eq_getElem?_getD, List.getElem?_eq_getElem h]
  rfl
abbrev plB (ns bl : List D) : PV := .ibox [.d (.sl ns), .d (.sl bl), .d (.sl [])]
def TiI (ns : List D) (B : Prs) (n a : Nat) (acc : List D) (G : List Ent) (k i : Nat) (R R' : List Bool) : Prop :=
  V (F tab) r25_B2 (r25_S2 (plB ns (prD B)) (.d (iv n)) (.own 105 acc) (.d (iv a)) (.rowh G.length 0 n) (.d (iv k)) (.d (iv i)) (G ++ [.box (bxR R)])) = some (.norm, r25_E2 (plB ns (prD B)) (.d (iv n)) (.own 105 acc) (.d (iv a)) (.rowh G.length 0 n) (.d (iv k)) (G ++ [.box (bxR R')]))
theorem prD_len (B : Prs) : (prD B).length = B.length := by simp [prD]
theorem ti_end (ns : List D) (B : Prs) (n a : Nat) (acc : List D) (G : List Ent) (k : Nat) (R : List Bool) : TiI ns B n a acc G k B.length R R := by
  have h1 : ((B.length : Int) < (B.length : Int)) = False := eq_false (by omega)
  have hl := prD_len B
  unfold TiI
  generalize prD B = PB at *
  rw [r25_B2_eq]
  simp (disch := omega) only [go_sem, r25_C2, hl, h1]
theorem ti_step (ns : List D) (B : Prs) (n a : Nat) (acc : List D) (G : List Ent) (k i : Nat) (hB : B.length ≤ 64) (hn : n ≤ 8) (p : Nat × Nat) (hp : B[i]? = some p) (hp1 : p.1 < n) (hp2 : p.2 < n) (R R' : List Bool) (hR : R.length = n) (ih : TiI ns B n a acc G k (i + 1) (tiS p R) R') : TiI ns B n a acc G k i R R' := by
  have hi : i < B.length := (List.getElem?_eq_some_iff.1 hp).1
  have h1 : ((i : Int) < (B.length : Int)) = True := eq_true (by omega)
  have hl := prD_len B
  have i0 : (0 ≤ (i : Int)) = True := eq_true (by omega)
  have hg : (prD B)[i]? = some (.agg [iv (p.1 : Int), iv (p.2 : Int)]) := by rw [prD, List.getElem?_map, hp]; rfl
  have x0 : (0 ≤ (p.1 : Int)) = True := eq_true (by omega)
  have x1 : ((p.1 : Int) < (n : Int)) = True := eq_true (by omega)
  have y0 : (0 ≤ (p.2 : Int)) = True := eq_true (by omega)
  have y1 : ((p.2 : Int) < (n : Int)) = True := eq_true (by omega)
  have e1 : (i : Int) + 1 = ((i + 1 : Nat) : Int) := rfl
  have q1 := hp_last G (.box (bxR R))
  have g := bxR_get (R := R) (o := 0 + p.1 * 1) (by omega)
  have l : (0 + p.2 * 1 < (bxR R).length) = True := eq_true (by unfold bxR; rw [List.length_map]; omega)
  have s : (bxR R).set (0 + p.2 * 1) (.d (.bool true)) = bxR (R.set (0 + p.2 * 1) true) := by unfold bxR; rw [List.map_set]
  have q2 := hp_set G (.box (bxR R)) (.box (bxR (R.set (0 + p.2 * 1) true)))
  have q3 := hp_set G (.box (bxR R)) (.box (bxR R))
  have n2 : ((0 : Int) < ((2 : Nat) : Int)) = True := eq_true (by omega)
  have n3 : ((1 : Int) < ((2 : Nat) : Int)) = True := eq_true (by omega)
  have ep : 0 + p.1 * 1 = p.1 := by omega
  have ep2 : 0 + p.2 * 1 = p.2 := by omega
  have eif : bxR (tiS p R) = if R.getD p.1 false then bxR (R.set p.2 true) else bxR R := by unfold tiS; split <;> rfl
  unfold TiI at ih ⊢
  rw [eif] at ih
  rw [ep] at g
  rw [ep2] at l s q2
  obtain ⟨x, y⟩ := p
  simp only at *
  generalize hv : R.getD x false = v at *
  generalize hW : bxR (R.set y true) = W at *
  generalize bxR R' = XR' at *
  generalize bxR R = XR at *
  generalize hid : G.length = id at *
  generalize prD B = PB at *
  clear hW hv
  rw [r25_B2_eq]
  cases v
  · simp only [Bool.false_eq_true, if_false] at ih
    simp (disch := omega) only [go_sem, r25_C2, hl, h1, i0, hg, x0, x1, y0, y1, q1, g, l, s, q2, q3, e1, n2, n3, w64, Nat.zero_add, Nat.mul_one]
    exact ih
  · simp only [if_true] at ih
    simp (disch := omega) only [go_sem, r25_C2, hl, h1, i0, hg, x0, x1, y0, y1, q1, g, l, s, q2, q3, e1, n2, n3, w64, Nat.zero_add, Nat.mul_one]
    exact ih
theorem ti_all (ns : List D) (B : Prs) (n a : Nat) (acc : List D) (G : List Ent) (k : Nat) (hB : B.length ≤ 64) (hn : n ≤ 8) (hb : ∀ p ∈ B, p.1 < n ∧ p.2 < n) : ∀ (C : Prs) (i : Nat) (R : List Bool), B.drop i = C → i ≤ B.length → R.length = n → TiI ns B n a acc G k i R (tiI C R)
  | [], i, R, h, hi, hR => by
    have : B.length ≤ i := by rw [List.drop_eq_nil_iff] at h; exact h
    obtain rfl : i = B.length := by omega
    exact ti_end ns B n a acc G k R
  | p :: C, i, R, h, hi, hR => by
    have hp : B[i]? = some p := by rw [← List.head?_drop, h]; rfl
    have hlt := (List.getElem?_eq_some_iff.1 hp).1
    have hm := List.mem_of_getElem? hp
    have hd : B.drop (i + 1) = C := by rw [← List.drop_drop (i := 1) (j := i), h]; rfl
    exact ti_step ns B n a acc G k i hB hn p hp (hb p hm).1 (hb p hm).2 R _ hR (ti_all ns B n a acc G k hB hn hb C (i + 1) _ hd (by omega) (by rw [tiS_len, hR]))
def TkI (ns : List D) (B : Prs) (n a : Nat) (acc : List D) (G : List Ent) (k : Nat) (R R' : List Bool) : Prop :=
  V (F tab) r25_B1 (r25_S1 (plB ns (prD B)) (.d (iv n)) (.own 105 acc) (.d (iv a)) (.rowh G.length 0 n) (.d (iv k)) (G ++ [.box (bxR R)])) = some (.norm, r25_E1 (plB ns (prD B)) (.d (iv n)) (.own 105 acc) (.d (iv a)) (.rowh G.length 0 n) (G ++ [.box (bxR R')]))
theorem tk_endT (ns : List D) (B : Prs) (n a : Nat) (acc : List D) (G : List Ent) (R : List Bool) : TkI ns B n a acc G n R R := by
  have h1 : ((n : Int) < (n : Int)) = False := eq_false (by omega)
  unfold TkI
  generalize prD B = PB at *
  rw [r25_B1_eq]
  simp (disch := omega) only [go_sem, r25_C1, h1]
theorem tk_stepT (ns : List D) (B : Prs) (n a : Nat) (acc : List D) (G : List Ent) (k : Nat) (hB : B.length ≤ 64) (hn : n ≤ 8) (hb : ∀ p ∈ B, p.1 < n ∧ p.2 < n) (hk : k < n) (R R' : List Bool) (hR : R.length = n) (ih : TkI ns B n a acc G (k + 1) (tiI B R) R') : TkI ns B n a acc G k R R' := by
  have h1 : ((k : Int) < (n : Int)) = True := eq_true (by omega)
  have hj := ti_all ns B n a acc G k hB hn hb B 0 R rfl (by omega) hR
  have e1 : (k : Int) + 1 = ((k + 1 : Nat) : Int) := rfl
  unfold TkI at ih ⊢
  unfold TiI at hj
  generalize bxR (tiI B R) = W at *
  generalize bxR R = XR at *
  generalize bxR R' = XR' at *
  generalize prD B = PB at *
  rw [r25_B1_eq]
  simp (disch := omega) only [go_sem, r25_C1, h1]
  rw [r25_B2_n]
  erw [hj]
  simp (disch := omega) only [go_sem, e1, w64]
  exact ih
theorem tk_allT (ns : List D) (B : Prs) (n a : Nat) (acc : List D) (G : List Ent) (hB : B.length ≤ 64) (hn : n ≤ 8) (hb : ∀ p ∈ B, p.1 < n ∧ p.2 < n) : ∀ (j k : Nat) (R : List Bool), k + j = n → R.length = n → TkI ns B n a acc G k R (tiK B j R)
  | 0, k, R, h, hR => by
    obtain rfl : k = n := by omega
    exact tk_endT ns B k a acc G R
  | j + 1, k, R, h, hR => tk_stepT ns B n a acc G k hB hn hb (by omega) R _ hR (tk_allT ns B n a acc G hB hn hb j (k + 1) _ (by omega) (by rw [tiI_len, hR]))
def taR (B : Prs) (n a : Nat) : List Bool := tiK B n ((List.replicate n false).set a true)
def taA (B : Prs) (n : Nat) : Nat → Nat → List (List Bool)
  | 0, a => []
  | j + 1, a => taR B n a :: taA B n j (a + 1)
def TaI (ns : List D) (B : Prs) (n a : Nat) (acc : List D) (G : List Ent) (acc' : List D) : Prop :=
  ∃ G', V (F tab) r25_B0 (r25_S0 (plB ns (prD B)) (.d (iv n)) (.own 105 acc) (.d (iv a)) G) = some (.norm, r25_E0 (.own 105 acc') G')
theorem ta_end (ns : List D) (B : Prs) (n : Nat) (acc : List D) (G : List Ent) : TaI ns B n n acc G acc := by
  have h1 : ((n : Int) < (n : Int)) = False := eq_false (by omega)
  unfold TaI
  generalize prD B = PB at *
  refine ⟨G, ?_⟩
  rw [r25_B0_eq]
  simp (disch := omega) only [go_sem, r25_C0, h1]
theorem zd_eq (n : Nat) : ((zeroDs [.bool false] n).map PV.d) = bxR (List.replicate n false) := by
  unfold zeroDs bxR
  rw [List.map_replicate, List.map_map]
  have e : (List.range (n * [D.bool false].length)).map (PV.d ∘ fun i => [D.bool false].getD (i % [D.bool false].length) .nilp) = (List.range (n * [D.bool false].length)).map (fun _ => PV.d (.bool false)) := by
    apply List.map_congr_left
    intro i _
    show PV.d ([D.bool false].getD (i % 1) .nilp) = _
    rw [Nat.mod_one]
    rfl
  rw [e, List.map_const']
  simp
theorem opt_bxR (R : List Bool) : optAll ((bxR R).map PV.toD) = some (R.map .bool) := by
  induction R with
  | nil => rfl
  | cons x R ih =>
    rw [bxR, List.map_cons, List.map_cons, ← bxR]
    show (optAll ((bxR R).map PV.toD)).map (_ :: ·) = _
    rw [ih]
    rfl
theorem ta_step (ns : List D) (B : Prs) (n a : Nat) (acc : List D) (G : List Ent) (hB : B.length ≤ 64) (hn : n ≤ 8) (hb : ∀ p ∈ B, p.1 < n ∧ p.2 < n) (ha : a < n) (hac : acc.length ≤ 8) (acc' : List D) (ih : ∀ G, TaI ns B n (a + 1) (acc ++ [rwD (taR B n a)]) G acc') : TaI ns B n a acc G acc' := by
  have h1 : ((a : Int) < (n : Int)) = True := eq_true (by omega)
  have hj := tk_allT ns B n a acc G hB hn hb n 0 ((List.replicate n false).set a true) (by omega) (by simp)
  have e1 : (a : Int) + 1 = ((a + 1 : Nat) : Int) := rfl
  have a0 : (0 ≤ (a : Int)) = True := eq_true (by omega)
  have n0 : (0 ≤ (n : Int)) = True := eq_true (by omega)
  have n1 : ((n : Int) * ((1 : Nat) : Int) ≤ 140737488355328) = True := eq_true (by omega)
  have n9 : ((n : Int) * 1 ≤ 140737488355328) = True := eq_true (by omega)
  have nz : (n = 0) = False := eq_false (by omega)
  have z := zd_eq n
  have q1 := hp_last G (.box (bxR (List.replicate n false)))
  have l : (a < (bxR (List.replicate n false)).length) = True := eq_true (by unfold bxR; simp; exact ha)
  have s : (bxR (List.replicate n false)).set a (.d (.bool true)) = bxR ((List.replicate n false).set a true) := by unfold bxR; rw [List.map_set]
  have q2 := hp_set G (.box (bxR (List.replicate n false))) (.box (bxR ((List.replicate n false).set a true)))
  have eR : tiK B n ((List.replicate n false).set a true) = taR B n a := rfl
  have hRl : (taR B n a).length = n := by rw [taR, tiK_len]; simp
  have q3 := hp_last G (.box (bxR (taR B n a)))
  have q4 := hp_set G (.box (bxR (taR B n a))) .gone
  have o := opt_bxR (taR B n a)
  have tk : (bxR (taR B n a)).take n = bxR (taR B n a) := List.take_of_length_le (by unfold bxR; rw [List.length_map, hRl]; exact Nat.le_refl _)
  have ol : (((taR B n a).map D.bool).length = n) = True := eq_true (by rw [List.length_map, hRl])
  have oa : (((taR B n a).map D.bool).all fun d => !d.isAgg) = true := by
    rw [List.all_eq_true]
    intro x hx
    obtain ⟨b, _, rfl⟩ := List.mem_map.1 hx
    rfl
  have hmr : maxRow = 140737488355328 := by decide
  have k1 : ((acc.length + 1) * 24 ≤ maxRow) = True := eq_true (by omega)
  obtain ⟨G', ih⟩ := ih (G ++ [.gone])
  unfold TkI at hj
  unfold rwD at ih
  rw [eR] at hj
  unfold TaI
  refine ⟨G', ?_⟩
  generalize (taR B n a).map D.bool = RD at *
  generalize bxR (taR B n a) = X2 at *
  generalize bxR ((List.replicate n false).set a true) = X1 at *
  generalize bxR (List.replicate n false) = X0 at *
  generalize hid : G.length = id at *
  generalize prD B = PB at *
  rw [r25_B0_eq]
  simp (disch := omega) only [go_sem, r25_C0, h1, a0, n0, n1, n9, mksOp, z, hid, q1, l, s, q2, Nat.zero_add, Nat.mul_one]
  rw [r25_B1_n]
  erw [hj]
  simp (disch := omega) only [go_sem, frzOp, rowsD, nz, q3, q4, o, tk, ol, oa, k1, e1, w64, Nat.zero_add, Nat.mul_one]
  exact ih
theorem ta_all (ns : List D) (B : Prs) (n : Nat) (hB : B.length ≤ 64) (hn : n ≤ 8) (hb : ∀ p ∈ B, p.1 < n ∧ p.2 < n) : ∀ (j a : Nat) (acc : List D) (G : List Ent), a + j = n → acc.length ≤ a → TaI ns B n a acc G (acc ++ (taA B n j a).map rwD)
  | 0, a, acc, G, h, hac => by
    obtain rfl : a = n := by omega
    rw [taA, List.map_nil, List.append_nil]
    exact ta_end ns B a acc G
  | j + 1, a, acc, G, h, hac => by
    refine ta_step ns B n a acc G hB hn hb (by omega) (by omega) _ fun G2 => ?_
    have := ta_all ns B n hB hn hb j (a + 1) (acc ++ [rwD (taR B n a)]) G2 (by omega) (by rw [List.length_append, List.length_singleton]; omega)
    rw [List.append_assoc, List.singleton_append] at this
    exact this
def tbOf (B : Prs) (n : Nat) : List (List Bool) := taA B n n 0
theorem table_gen (ns : List D) (B : Prs) (hn : ns.length ≤ 8) (hB : B.length ≤ 64) (hb : ∀ p ∈ B, p.1 < ns.length ∧ p.2 < ns.length) (hp : List Ent) : F tab 25 [.d (.agg [.sl ns, .sl (prD B), .sl []])] hp = some (.ret (.d (.sl (ttD (tbOf B ns.length)))) hp) := by
  obtain ⟨G', h⟩ := ta_all ns B ns.length hB hn hb ns.length 0 [] [] (by omega) (by simp)
  rw [List.nil_append] at h
  have e : (taA B ns.length ns.length 0).map rwD = ttD (tbOf B ns.length) := rfl
  rw [e] at h
  generalize ttD (tbOf B ns.length) = TD at *
  generalize prD B = PB at *
  have h : V (F tab) r25_B0 (r25_S0 (plB ns PB) (.d (iv ns.length)) (.own 105 []) (.d (iv 0)) []) = _ := h
  refine f25 rfl ?_
  simp (disch := omega) only [go_sem, r25_T, r25]
  rw [r25_B0_n, r25_B0_z4]
  erw [h]
  simp (disch := omega) only [go_sem, r25]
end Go.Pe.T

namespace Go.Pe.T
-- printed by genlp.py: the policies that are right
def polN : Nat → List D
  | 0 => [.str ⟨#[108, 111, 119]⟩, .str ⟨#[104, 105, 103, 104]⟩]
  | 1 => [.str ⟨#[108, 111, 119]⟩, .str ⟨#[108, 101, 102, 116]⟩, .str ⟨#[114, 105, 103, 104, 116]⟩, .str ⟨#[104, 105, 103, 104]⟩]
  | 2 => [.str ⟨#[97]⟩, .str ⟨#[98]⟩, .str ⟨#[99]⟩]
  | 3 => [.str ⟨#[111, 110, 101]⟩]
  | 4 => [.str ⟨#[116, 111, 112]⟩, .str ⟨#[120]⟩, .str ⟨#[121]⟩, .str ⟨#[122]⟩, .str ⟨#[98, 111, 116]⟩]
  | _ => [.str ⟨#[111]⟩, .str ⟨#[112]⟩, .str ⟨#[113]⟩, .str ⟨#[114]⟩, .str ⟨#[112, 113]⟩, .str ⟨#[112, 114]⟩, .str ⟨#[113, 114]⟩, .str ⟨#[97, 108, 108]⟩]
def polB : Nat → Prs
  | 0 => [(0, 1)]
  | 1 => [(0, 1), (0, 2), (1, 3), (2, 3)]
  | 2 => [(0, 1), (1, 2)]
  | 3 => []
  | 4 => [(4, 1), (4, 2), (4, 3), (1, 0), (2, 0), (3, 0)]
  | _ => [(0, 1), (0, 2), (0, 3), (1, 4), (2, 4), (1, 5), (3, 5), (2, 6), (3, 6), (4, 7), (5, 7), (6, 7)]
def polD (r : Nat) : D := .agg [.sl (polN r), .sl (prD (polB r)), .sl []]
def polM (r : Nat) : Nat := (polN r).length
def lvT : Nat → List Bool
  | 0 => [true, true, false, false, false, false, false, false, false, true, false, false, false, false, false, false, false, false, false, false, false, false, false, false, false, false, false, false, false, false, false, false, false, false, false, false, false, false, false, false, false, false, false, false, false, false, false, false, false, false, false, false, false, false, false, false, false, false, false, false, false, false, false, false]
  | 1 => [true, true, true, true, false, false, false, false, false, true, false, true, false, false, false, false, false, false, true, true, false, false, false, false, false, false, false, true, false, false, false, false, false, false, false, false, false, false, false, false, false, false, false, false, false, false, false, false, false, false, false, false, false, false, false, false, false, false, false, false, false, false, false, false]
  | 2 => [true, true, true, false, false, false, false, false, false, true, true, false, false, false, false, false, false, false, true, false, false, false, false, false, false, false, false, false, false, false, false, false, false, false, false, false, false, false, false, false, false, false, false, false, false, false, false, false, false, false, false, false, false, false, false, false, false, false, false, false, false, false, false, false]
  | 3 => [true, false, false, false, false, false, false, false, false, false, false, false, false, false, false, false, false, false, false, false, false, false, false, false, false, false, false, false, false, false, false, false, false, false, false, false, false, false, false, false, false, false, false, false, false, false, false, false, false, false, false, false, false, false, false, false, false, false, false, false, false, false, false, false]
  | 4 => [true, false, false, false, false, false, false, false, true, true, false, false, false, false, false, false, true, false, true, false, false, false, false, false, true, false, false, true, false, false, false, false, true, true, true, true, true, false, false, false, false, false, false, false, false, false, false, false, false, false, false, false, false, false, false, false, false, false, false, false, false, false, false, false]
  | _ => [true, true, true, true, true, true, true, true, false, true, false, false, true, true, false, true, false, false, true, false, true, false, true, true, false, false, false, true, false, true, true, true, false, false, false, false, true, false, false, true, false, false, false, false, false, true, false, true, false, false, false, false, false, false, true, true, false, false, false, false, false, false, false, true]
def lvJ : Nat → List Int
  | 0 => [0, 1, 0, 0, 0, 0, 0, 0, 1, 1, 0, 0, 0, 0, 0, 0, 0, 0, 0, 0, 0, 0, 0, 0, 0, 0, 0, 0, 0, 0, 0, 0, 0, 0, 0, 0, 0, 0, 0, 0, 0, 0, 0, 0, 0, 0, 0, 0, 0, 0, 0, 0, 0, 0, 0, 0, 0, 0, 0, 0, 0, 0, 0, 0]
  | 1 => [0, 1, 2, 3, 0, 0, 0, 0, 1, 1, 3, 3, 0, 0, 0, 0, 2, 3, 2, 3, 0, 0, 0, 0, 3, 3, 3, 3, 0, 0, 0, 0, 0, 0, 0, 0, 0, 0, 0, 0, 0, 0, 0, 0, 0, 0, 0, 0, 0, 0, 0, 0, 0, 0, 0, 0, 0, 0, 0, 0, 0, 0, 0, 0]
  | 2 => [0, 1, 2, 0, 0, 0, 0, 0, 1, 1, 2, 0, 0, 0, 0, 0, 2, 2, 2, 0, 0, 0, 0, 0, 0, 0, 0, 0, 0, 0, 0, 0, 0, 0, 0, 0, 0, 0, 0, 0, 0, 0, 0, 0, 0, 0, 0, 0, 0, 0, 0, 0, 0, 0, 0, 0, 0, 0, 0, 0, 0, 0, 0, 0]
  | 3 => [0, 0, 0, 0, 0, 0, 0, 0, 0, 0, 0, 0, 0, 0, 0, 0, 0, 0, 0, 0, 0, 0, 0, 0, 0, 0, 0, 0, 0, 0, 0, 0, 0, 0, 0, 0, 0, 0, 0, 0, 0, 0, 0, 0, 0, 0, 0, 0, 0, 0, 0, 0, 0, 0, 0, 0, 0, 0, 0, 0, 0, 0, 0, 0]
  | 4 => [0, 0, 0, 0, 0, 0, 0, 0, 0, 1, 0, 0, 1, 0, 0, 0, 0, 0, 2, 0, 2, 0, 0, 0, 0, 0, 0, 3, 3, 0, 0, 0, 0, 1, 2, 3, 4, 0, 0, 0, 0, 0, 0, 0, 0, 0, 0, 0, 0, 0, 0, 0, 0, 0, 0, 0, 0, 0, 0, 0, 0, 0, 0, 0]
  | _ => [0, 1, 2, 3, 4, 5, 6, 7, 1, 1, 4, 5, 4, 5, 7, 7, 2, 4, 2, 6, 4, 7, 6, 7, 3, 5, 6, 3, 7, 5, 6, 7, 4, 4, 4, 7, 4, 7, 7, 7, 5, 5, 7, 5, 7, 5, 7, 7, 6, 7, 6, 6, 7, 7, 6, 7, 7, 7, 7, 7, 7, 7, 7, 7]
def lvM : Nat → List Int
  | 0 => [0, 0, 0, 0, 0, 0, 0, 0, 0, 1, 0, 0, 0, 0, 0, 0, 0, 0, 0, 0, 0, 0, 0, 0, 0, 0, 0, 0, 0, 0, 0, 0, 0, 0, 0, 0, 0, 0, 0, 0, 0, 0, 0, 0, 0, 0, 0, 0, 0, 0, 0, 0, 0, 0, 0, 0, 0, 0, 0, 0, 0, 0, 0, 0]
  | 1 => [0, 0, 0, 0, 0, 0, 0, 0, 0, 1, 0, 1, 0, 0, 0, 0, 0, 0, 2, 2, 0, 0, 0, 0, 0, 1, 2, 3, 0, 0, 0, 0, 0, 0, 0, 0, 0, 0, 0, 0, 0, 0, 0, 0, 0, 0, 0, 0, 0, 0, 0, 0, 0, 0, 0, 0, 0, 0, 0, 0, 0, 0, 0, 0]
  | 2 => [0, 0, 0, 0, 0, 0, 0, 0, 0, 1, 1, 0, 0, 0, 0, 0, 0, 1, 2, 0, 0, 0, 0, 0, 0, 0, 0, 0, 0, 0, 0, 0, 0, 0, 0, 0, 0, 0, 0, 0, 0, 0, 0, 0, 0, 0, 0, 0, 0, 0, 0, 0, 0, 0, 0, 0, 0, 0, 0, 0, 0, 0, 0, 0]
  | 3 => [0, 0, 0, 0, 0, 0, 0, 0, 0, 0, 0, 0, 0, 0, 0, 0, 0, 0, 0, 0, 0, 0, 0, 0, 0, 0, 0, 0, 0, 0, 0, 0, 0, 0, 0, 0, 0, 0, 0, 0, 0, 0, 0, 0, 0, 0, 0, 0, 0, 0, 0, 0, 0, 0, 0, 0, 0, 0, 0, 0, 0, 0, 0, 0]
  | 4 => [0, 1, 2, 3, 4, 0, 0, 0, 1, 1, 4, 4, 4, 0, 0, 0, 2, 4, 2, 4, 4, 0, 0, 0, 3, 4, 4, 3, 4, 0, 0, 0, 4, 4, 4, 4, 4, 0, 0, 0, 0, 0, 0, 0, 0, 0, 0, 0, 0, 0, 0, 0, 0, 0, 0, 0, 0, 0, 0, 0, 0, 0, 0, 0]
  | _ => [0, 0, 0, 0, 0, 0, 0, 0, 0, 1, 0, 0, 1, 1, 0, 1, 0, 0, 2, 0, 2, 0, 2, 2, 0, 0, 0, 3, 0, 3, 3, 3, 0, 1, 2, 0, 4, 1, 2, 4, 0, 1, 0, 3, 1, 5, 3, 5, 0, 0, 2, 3, 2, 3, 6, 6, 0, 1, 2, 3, 4, 5, 6, 7]
def tbT (r : Nat) : List (List Bool) := tbOf (polB r) (polM r)
def latV (r : Nat) : D := .ptr (.agg (latD (.sl (polN r)) (lvT r) (lvJ r) (lvM r) (btR (lvM r) (polM r) 0 0) (btR (lvJ r) (polM r) 0 0))) 0
def all2 (n : Nat) (p : Nat → Nat → Bool) : Bool := (List.range n).all fun a => (List.range n).all fun b => p a b
theorem all2_of {n : Nat} {p : Nat → Nat → Bool} (h : all2 n p = true) (a b : Nat) (ha : a < n) (hb : b < n) : p a b = true :=
  List.all_eq_true.1 (List.all_eq_true.1 h a (List.mem_range.2 ha)) b (List.mem_range.2 hb)
theorem lev_of {n : Nat} {T : List Bool} {J M : List Int} (h1 : n ≤ 8) (h2 : 0 < n) (h3 : twA T n 0 = false) (h4 : all2 n (fun a b => decide (0 ≤ ovR T n a b)) = true) (h5 : all2 n (fun a b => decide (0 ≤ ovR (tnR T) n a b)) = true) (h6 : flA T n n 0 z64 = J) (h7 : flA (tnR T) n n 0 z64 = M)
    (h8 : all2 n (fun a b => decide (0 ≤ J.getD (ix a b) 0 ∧ J.getD (ix a b) 0 < n)) = true) (h9 : all2 n (fun a b => decide (0 ≤ M.getD (ix a b) 0 ∧ M.getD (ix a b) 0 < n)) = true) : LevOk n T J M :=
  ⟨h1, h2, h3, fun a b ha hb => of_decide_eq_true (all2_of h4 a b ha hb), fun a b ha hb => of_decide_eq_true (all2_of h5 a b ha hb), h6, h7, fun a b ha hb => of_decide_eq_true (all2_of h8 a b ha hb), fun a b ha hb => of_decide_eq_true (all2_of h9 a b ha hb)⟩
theorem lev0 : LevOk (polM 0) (lvT 0) (lvJ 0) (lvM 0) := lev_of (by decide) (by decide) (by kernel_rfl) (by kernel_rfl) (by kernel_rfl) (by kernel_rfl) (by kernel_rfl) (by kernel_rfl) (by kernel_rfl)
theorem named0 : evF tab 40 61 [.d (.sl (polN 0))] [] = some (.ret (.d (.bool true)) []) := by kernel_rfl
def laidT0 : List Bool := [true, true, false, false, false, false, false, false, false, true, false, false, false, false, false, false, false, false, false, false, false, false, false, false, false, false, false, false, false, false, false, false, false, false, false, false, false, false, false, false, false, false, false, false, false, false, false, false, false, false, false, false, false, false, false, false, false, false, false, false, false, false, false, false]
theorem laid0 : evF tab 40 62 [.d (iv 2), .d (.sl (prD (polB 0)))] [] = some (.ret (.tup [.d (.agg (tbD laidT0)), .d (.bool true)]) []) := by kernel_rfl
theorem clos0 : ClR 2 laidT0 (lvT 0) := clr_step 2 (by decide) (laidT0) _ rfl true (by kernel_rfl) (by rw [if_pos rfl]; kernel_rfl)
theorem newp0 (hp : List Ent) : F tab 24 [.d (polD 0)] hp = some (.ret (.tup [.d (latV 0), .d (iv 0)]) hp) := new_gen (polN 0) (prD (polB 0)) laidT0 (lvT 0) (lvJ 0) (lvM 0) (by decide) (by kernel_rfl) rfl rfl lev0 (ok_of rfl named0) (ok_of rfl laid0) clos0 hp
theorem lev1 : LevOk (polM 1) (lvT 1) (lvJ 1) (lvM 1) := lev_of (by decide) (by decide) (by kernel_rfl) (by kernel_rfl) (by kernel_rfl) (by kernel_rfl) (by kernel_rfl) (by kernel_rfl) (by kernel_rfl)
theorem named1 : evF tab 40 61 [.d (.sl (polN 1))] [] = some (.ret (.d (.bool true)) []) := by kernel_rfl
def laidT1 : List Bool := [true, true, true, false, false, false, false, false, false, true, false, true, false, false, false, false, false, false, true, true, false, false, false, false, false, false, false, true, false, false, false, false, false, false, false, false, false, false, false, false, false, false, false, false, false, false, false, false, false, false, false, false, false, false, false, false, false, false, false, false, false, false, false, false]
theorem laid1 : evF tab 40 62 [.d (iv 4), .d (.sl (prD (polB 1)))] [] = some (.ret (.tup [.d (.agg (tbD laidT1)), .d (.bool true)]) []) := by kernel_rfl
theorem rnd1_0 : clA 4 4 0 laidT1 = lvT 1 := by kernel_rfl
theorem clos1 : ClR 4 laidT1 (lvT 1) := clr_step 4 (by decide) laidT1 _ rfl false (by kernel_rfl) (by rw [if_neg (by decide), rnd1_0]; exact (clr_step 4 (by decide) (lvT 1) _ rfl true (by kernel_rfl) (by rw [if_pos rfl]; kernel_rfl)))
theorem newp1 (hp : List Ent) : F tab 24 [.d (polD 1)] hp = some (.ret (.tup [.d (latV 1), .d (iv 0)]) hp) := new_gen (polN 1) (prD (polB 1)) laidT1 (lvT 1) (lvJ 1) (lvM 1) (by decide) (by kernel_rfl) rfl rfl lev1 (ok_of rfl named1) (ok_of rfl laid1) clos1 hp
theorem lev2 : LevOk (polM 2) (lvT 2) (lvJ 2) (lvM 2) := lev_of (by decide) (by decide) (by kernel_rfl) (by kernel_rfl) (by kernel_rfl) (by kernel_rfl) (by kernel_rfl) (by kernel_rfl) (by kernel_rfl)
theorem named2 : evF tab 40 61 [.d (.sl (polN 2))] [] = some (.ret (.d (.bool true)) []) := by kernel_rfl
def laidT2 : List Bool := [true, true, false, false, false, false, false, false, false, true, true, false, false, false, false, false, false, false, true, false, false, false, false, false, false, false, false, false, false, false, false, false, false, false, false, false, false, false, false, false, false, false, false, false, false, false, false, false, false, false, false, false, false, false, false, false, false, false, false, false, false, false, false, false]
theorem laid2 : evF tab 40 62 [.d (iv 3), .d (.sl (prD (polB 2)))] [] = some (.ret (.tup [.d (.agg (tbD laidT2)), .d (.bool true)]) []) := by kernel_rfl
theorem rnd2_0 : clA 3 3 0 laidT2 = lvT 2 := by kernel_rfl
theorem clos2 : ClR 3 laidT2 (lvT 2) := clr_step 3 (by decide) laidT2 _ rfl false (by kernel_rfl) (by rw [if_neg (by decide), rnd2_0]; exact (clr_step 3 (by decide) (lvT 2) _ rfl true (by kernel_rfl) (by rw [if_pos rfl]; kernel_rfl)))
theorem newp2 (hp : List Ent) : F tab 24 [.d (polD 2)] hp = some (.ret (.tup [.d (latV 2), .d (iv 0)]) hp) := new_gen (polN 2) (prD (polB 2)) laidT2 (lvT 2) (lvJ 2) (lvM 2) (by decide) (by kernel_rfl) rfl rfl lev2 (ok_of rfl named2) (ok_of rfl laid2) clos2 hp
theorem lev3 : LevOk (polM 3) (lvT 3) (lvJ 3) (lvM 3) := lev_of (by decide) (by decide) (by kernel_rfl) (by kernel_rfl) (by kernel_rfl) (by kernel_rfl) (by kernel_rfl) (by kernel_rfl) (by kernel_rfl)
theorem named3 : evF tab 40 61 [.d (.sl (polN 3))] [] = some (.ret (.d (.bool true)) []) := by kernel_rfl
def laidT3 : List Bool := [true, false, false, false, false, false, false, false, false, false, false, false, false, false, false, false, false, false, false, false, false, false, false, false, false, false, false, false, false, false, false, false, false, false, false, false, false, false, false, false, false, false, false, false, false, false, false, false, false, false, false, false, false, false, false, false, false, false, false, false, false, false, false, false]
theorem laid3 : evF tab 40 62 [.d (iv 1), .d (.sl (prD (polB 3)))] [] = some (.ret (.tup [.d (.agg (tbD laidT3)), .d (.bool true)]) []) := by kernel_rfl
theorem clos3 : ClR 1 laidT3 (lvT 3) := clr_step 1 (by decide) (laidT3) _ rfl true (by kernel_rfl) (by rw [if_pos rfl]; kernel_rfl)
theorem newp3 (hp : List Ent) : F tab 24 [.d (polD 3)] hp = some (.ret (.tup [.d (latV 3), .d (iv 0)]) hp) := new_gen (polN 3) (prD (polB 3)) laidT3 (lvT 3) (lvJ 3) (lvM 3) (by decide) (by kernel_rfl) rfl rfl lev3 (ok_of rfl named3) (ok_of rfl laid3) clos3 hp
theorem lev4 : LevOk (polM 4) (lvT 4) (lvJ 4) (lvM 4) := lev_of (by decide) (by decide) (by kernel_rfl) (by kernel_rfl) (by kernel_rfl) (by kernel_rfl) (by kernel_rfl) (by kernel_rfl) (by kernel_rfl)
theorem named4 : evF tab 40 61 [.d (.sl (polN 4))] [] = some (.ret (.d (.bool true)) []) := by kernel_rfl
def laidT4 : List Bool := [true, false, false, false, false, false, false, false, true, true, false, false, false, false, false, false, true, false, true, false, false, false, false, false, true, false, false, true, false, false, false, false, false, true, true, true, true, false, false, false, false, false, false, false, false, false, false, false, false, false, false, false, false, false, false, false, false, false, false, false, false, false, false, false]
theorem laid4 : evF tab 40 62 [.d (iv 5), .d (.sl (prD (polB 4)))] [] = some (.ret (.tup [.d (.agg (tbD laidT4)), .d (.bool true)]) []) := by kernel_rfl
theorem rnd4_0 : clA 5 5 0 laidT4 = lvT 4 := by kernel_rfl
theorem clos4 : ClR 5 laidT4 (lvT 4) := clr_step 5 (by decide) laidT4 _ rfl false (by kernel_rfl) (by rw [if_neg (by decide), rnd4_0]; exact (clr_step 5 (by decide) (lvT 4) _ rfl true (by kernel_rfl) (by rw [if_pos rfl]; kernel_rfl)))
theorem newp4 (hp : List Ent) : F tab 24 [.d (polD 4)] hp = some (.ret (.tup [.d (latV 4), .d (iv 0)]) hp) := new_gen (polN 4) (prD (polB 4)) laidT4 (lvT 4) (lvJ 4) (lvM 4) (by decide) (by kernel_rfl) rfl rfl lev4 (ok_of rfl named4) (ok_of rfl laid4) clos4 hp
theorem lev5 : LevOk (polM 5) (lvT 5) (lvJ 5) (lvM 5) := lev_of (by decide) (by decide) (by kernel_rfl) (by kernel_rfl) (by kernel_rfl) (by kernel_rfl) (by kernel_rfl) (by kernel_rfl) (by kernel_rfl)
theorem named5 : evF tab 40 61 [.d (.sl (polN 5))] [] = some (.ret (.d (.bool true)) []) := by kernel_rfl
def laidT5 : List Bool := [true, true, true, true, false, false, false, false, false, true, false, false, true, true, false, false, false, false, true, false, true, false, true, false, false, false, false, true, false, true, true, false, false, false, false, false, true, false, false, true, false, false, false, false, false, true, false, true, false, false, false, false, false, false, true, true, false, false, false, false, false, false, false, true]
theorem laid5 : evF tab 40 62 [.d (iv 8), .d (.sl (prD (polB 5)))] [] = some (.ret (.tup [.d (.agg (tbD laidT5)), .d (.bool true)]) []) := by kernel_rfl
theorem rnd5_0 : clA 8 8 0 laidT5 = lvT 5 := by kernel_rfl
theorem clos5 : ClR 8 laidT5 (lvT 5) := clr_step 8 (by decide) laidT5 _ rfl false (by kernel_rfl) (by rw [if_neg (by decide), rnd5_0]; exact (clr_step 8 (by decide) (lvT 5) _ rfl true (by kernel_rfl) (by rw [if_pos rfl]; kernel_rfl)))
theorem newp5 (hp : List Ent) : F tab 24 [.d (polD 5)] hp = some (.ret (.tup [.d (latV 5), .d (iv 0)]) hp) := new_gen (polN 5) (prD (polB 5)) laidT5 (lvT 5) (lvJ 5) (lvM 5) (by decide) (by kernel_rfl) rfl rfl lev5 (ok_of rfl named5) (ok_of rfl laid5) clos5 hp
theorem new_ok (r : Nat) (hr : r < 6) (hp : List Ent) : F tab 24 [.d (polD r)] hp = some (.ret (.tup [.d (latV r), .d (iv 0)]) hp) := by
  have h6 : r = 0 ∨ r = 1 ∨ r = 2 ∨ r = 3 ∨ r = 4 ∨ r = 5 := by omega
  rcases h6 with rfl | rfl | rfl | rfl | rfl | rfl
  · exact newp0 hp
  · exact newp1 hp
  · exact newp2 hp
  · exact newp3 hp
  · exact newp4 hp
  · exact newp5 hp
theorem table_ok (r : Nat) (hr : r < 6) (hp : List Ent) : F tab 25 [.d (polD r)] hp = some (.ret (.d (.sl (ttD (tbT r)))) hp) := by
  have h6 : r = 0 ∨ r = 1 ∨ r = 2 ∨ r = 3 ∨ r = 4 ∨ r = 5 := by omega
  rcases h6 with rfl | rfl | rfl | rfl | rfl | rfl
  · exact table_gen (polN 0) (polB 0) (by decide) (by decide) (by decide) hp
  · exact table_gen (polN 1) (polB 1) (by decide) (by decide) (by decide) hp
  · exact table_gen (polN 2) (polB 2) (by decide) (by decide) (by decide) hp
  · exact table_gen (polN 3) (polB 3) (by decide) (by decide) (by decide) hp
  · exact table_gen (polN 4) (polB 4) (by decide) (by decide) (by decide) hp
  · exact table_gen (polN 5) (polB 5) (by decide) (by decide) (by decide) hp
def tbChk (r : Nat) : Bool := decide ((tbT r).length = polM r) && decide (polM r ≤ 8) && decide (1 ≤ polM r) && (List.range (polM r)).all (fun a => decide ((rowB (tbT r) a).length = polM r)) && all2 (polM r) (fun a b => decide ((jnR (tbT r) (polM r) a b).length = 1) && decide (0 ≤ jn (tbT r) (polM r) a b) && decide (jn (tbT r) (polM r) a b < polM r) && decide (jn (tbT r) (polM r) a b = (lvJ r).getD (ix a b) 0) && (tt (tbT r) a b == at2 (lvT r) a b))
theorem tbChk0 : tbChk 0 = true := by kernel_rfl
theorem tbChk1 : tbChk 1 = true := by kernel_rfl
theorem tbChk2 : tbChk 2 = true := by kernel_rfl
theorem tbChk3 : tbChk 3 = true := by kernel_rfl
theorem tbChk4 : tbChk 4 = true := by kernel_rfl
theorem tbChk5 : tbChk 5 = true := by kernel_rfl
theorem tbChk_ok (r : Nat) (hr : r < 6) : tbChk r = true := by
  have h6 : r = 0 ∨ r = 1 ∨ r = 2 ∨ r = 3 ∨ r = 4 ∨ r = 5 := by omega
  rcases h6 with rfl | rfl | rfl | rfl | rfl | rfl
  · exact tbChk0
  · exact tbChk1
  · exact tbChk2
  · exact tbChk3
  · exact tbChk4
  · exact tbChk5
theorem tb_ok (r : Nat) (hr : r < 6) : TbOk (tbT r) (polM r) := by
  have h := tbChk_ok r hr
  unfold tbChk at h
  simp only [Bool.and_eq_true, decide_eq_true_eq] at h
  obtain ⟨⟨⟨⟨h1, h2⟩, h3⟩, h4⟩, h5⟩ := h
  exact ⟨h1, h2, h3, fun a ha => of_decide_eq_true (List.all_eq_true.1 h4 a (List.mem_range.2 ha))⟩
theorem jn_ok (r : Nat) (hr : r < 6) (a b : Nat) (ha : a < polM r) (hb : b < polM r) : jnR (tbT r) (polM r) a b ≠ [] ∧ 0 ≤ jn (tbT r) (polM r) a b ∧ jn (tbT r) (polM r) a b < polM r ∧ jn (tbT r) (polM r) a b = (lvJ r).getD (ix a b) 0 ∧ tt (tbT r) a b = at2 (lvT r) a b := by
  have h := tbChk_ok r hr
  unfold tbChk at h
  simp only [Bool.and_eq_true] at h
  have h5 := all2_of h.2 a b ha hb
  simp only [Bool.and_eq_true, decide_eq_true_eq, beq_iff_eq] at h5
  obtain ⟨⟨⟨⟨h1, h2⟩, h3⟩, h4⟩, h5⟩ := h5
  exact ⟨fun e => by rw [e] at h1; simp at h1, h2, h3, h4, h5⟩
theorem sort_ok (n : Int) : ∃ r : Nat, r < 6 ∧ ∀ hp, F tab 23 [.d (iv n)] hp = some (.ret (.d (polD r)) hp) := by
  have b1 := Int.tmod_lt_of_pos n (b := 6) (by omega)
  have b2 := Int.lt_tmod_of_pos n (b := 6) (by omega)
  obtain ⟨m, hm⟩ : ∃ m, m = n.tmod 6 := ⟨_, rfl⟩
  rw [← hm] at b1 b2
  have b3 := Int.emod_nonneg (m + 6) (b := 6) (by omega)
  have e3 : (m + 6).tmod 6 = (m + 6) % 6 := Int.tmod_eq_emod_of_nonneg (by omega)
  have b4 := Int.emod_lt_of_pos (m + 6) (b := 6) (by omega)
  generalize (m + 6) % 6 = q at *
  refine ⟨q.toNat, by omega, fun hp => f23 rfl ?_⟩
  have : q = 0 ∨ q = 1 ∨ q = 2 ∨ q = 3 ∨ q = 4 ∨ q = 5 := by omega
  rcases this with rfl | rfl | rfl | rfl | rfl | rfl
  · have z0 : ((0 : Int) == 0) = true := rfl
    simp (disch := omega) only [go_sem, r23_T, r23, ← hm, e3, z0, w64]
    rfl
  · have z0 : ((1 : Int) == 0) = false := rfl
    have z1 : ((1 : Int) == 1) = true := rfl
    simp (disch := omega) only [go_sem, r23_T, r23, ← hm, e3, z0, z1, w64]
    rfl
  · have z0 : ((2 : Int) == 0) = false := rfl
    have z1 : ((2 : Int) == 1) = false := rfl
    have z2 : ((2 : Int) == 2) = true := rfl
    simp (disch := omega) only [go_sem, r23_T, r23, ← hm, e3, z0, z1, z2, w64]
    rfl
  · have z0 : ((3 : Int) == 0) = false := rfl
    have z1 : ((3 : Int) == 1) = false := rfl
    have z2 : ((3 : Int) == 2) = false := rfl
    have z3 : ((3 : Int) == 3) = true := rfl
    simp (disch := omega) only [go_sem, r23_T, r23, ← hm, e3, z0, z1, z2, z3, w64]
    rfl
  · have z0 : ((4 : Int) == 0) = false := rfl
    have z1 : ((4 : Int) == 1) = false := rfl
    have z2 : ((4 : Int) == 2) = false := rfl
    have z3 : ((4 : Int) == 3) = false := rfl
    have z4 : ((4 : Int) == 4) = true := rfl
    simp (disch := omega) only [go_sem, r23_T, r23, ← hm, e3, z0, z1, z2, z3, z4, w64]
    rfl
  · have z0 : ((5 : Int) == 0) = false := rfl
    have z1 : ((5 : Int) == 1) = false := rfl
    have z2 : ((5 : Int) == 2) = false := rfl
    have z3 : ((5 : Int) == 3) = false := rfl
    have z4 : ((5 : Int) == 4) = false := rfl
    simp (disch := omega) only [go_sem, r23_T, r23, ← hm, e3, z0, z1, z2, z3, z4, w64]
    rfl
end Go.Pe.T

namespace Go.Pe.T

mutual
def sizeV : Val → Int → Int → Int
  | .mk _ _ _ _ xs _, n, most => if n ≥ most then n else sizes xs (n + 1) most
def sizes : List Val → Int → Int → Int
  | [], n, _ => n
  | v :: r, n, most => sizes r (sizeV v n most) most
end

mutual
def flatV : Val → Int → Bool
  | .mk _ _ _ _ xs _, d => if d < 0 then false else flats xs (d - 1)
def flats : List Val → Int → Bool
  | [], _ => true
  | v :: r, d => if flatV v d then flats r d else false
end

def lightV (v : Val) (most : Int) : Bool := decide (sizeV v 0 (most + 1) ≤ most) && flatV v 60

end Go.Pe.T
