/- A part of the proof of: Any program, resolved, or the first name in it that leads nowhere, is what the document says, where what comes in has at most 1048576 values and letters. -/
import Derived.Test.YtfmcckohbjhbhaaSr4
import Derived.Test.YtfmcckohbjhbhaaPe3
import Derived.Test.YtfmcckohbjhbhaaSr3
set_option linter.unusedSimpArgs false
set_option linter.unusedVariables false
set_option maxRecDepth 10000

namespace Go.Pe.T

theorem rsigns_ok (hp : List Ent) : F tab 70 [] hp = some (.ret (.d (.sl (signsL.map .str))) hp) := by
  refine f70 rfl ?_
  simp only [go_sem, and_self, and_true, true_and, false_and, and_false, Nat.reduceAdd, Nat.reduceMul, Nat.reduceSub, Nat.reduceLeDiff, Nat.reduceLT, Nat.reduceGT, Nat.reduceEqDiff, Nat.reduceBEq, Int.reduceNeg, Int.reduceEq, Int.reduceLT, Int.reduceLE, Int.reduceBEq, Int.reduceToNat, Int.toNat_natCast, Int.natCast_zero, r70_T, r70, signsL, List.map_cons, List.map_nil]
def partsV (o : Int) : Int × Int :=
  if o = 0 ∨ o = 1 ∨ o = 2 ∨ o = 8 ∨ o = 19 then (0, 0) else
  if o = 3 ∨ o = 5 ∨ o = 18 ∨ o = 20 ∨ o = 21 then (1, 1) else
  if o = 4 ∨ o = 6 ∨ o = 7 ∨ o = 10 ∨ o = 15 ∨ o = 17 then (2, 2) else
  if o = 9 ∨ o = 13 ∨ o = 14 then (3, 3) else
  if o = 11 then (0, 1) else
  if o = 12 then (0, 1000) else
  if o = 16 then (0, 4) else
  (-1, -1)
set_option maxHeartbeats 4000000 in
theorem parts_ok (o : Int) (hp : List Ent) : F tab 66 [.d (iv o)] hp = some (.ret (.tup [.d (iv (partsV o).1), .d (iv (partsV o).2)]) hp) := by
  refine f66 rfl ?_
  by_cases x0 : o = 0
  · have e : partsV o = (0, 0) := by subst x0; rfl
    rw [e]
    simp only [go_sem, and_self, and_true, true_and, false_and, and_false, Nat.reduceAdd, Nat.reduceMul, Nat.reduceSub, Nat.reduceLeDiff, Nat.reduceLT, Nat.reduceGT, Nat.reduceEqDiff, Nat.reduceBEq, Int.reduceNeg, Int.reduceEq, Int.reduceLT, Int.reduceLE, Int.reduceBEq, Int.reduceToNat, Int.toNat_natCast, Int.natCast_zero, r66_T, r66, x0]
  have g0 : (o == 0) = false := by simpa using x0
  by_cases x1 : o = 1
  · have e : partsV o = (0, 0) := by subst x1; rfl
    rw [e]
    simp only [go_sem, and_self, and_true, true_and, false_and, and_false, Nat.reduceAdd, Nat.reduceMul, Nat.reduceSub, Nat.reduceLeDiff, Nat.reduceLT, Nat.reduceGT, Nat.reduceEqDiff, Nat.reduceBEq, Int.reduceNeg, Int.reduceEq, Int.reduceLT, Int.reduceLE, Int.reduceBEq, Int.reduceToNat, Int.toNat_natCast, Int.natCast_zero, r66_T, r66, x1]
  have g1 : (o == 1) = false := by simpa using x1
  by_cases x2 : o = 2
  · have e : partsV o = (0, 0) := by subst x2; rfl
    rw [e]
    simp only [go_sem, and_self, and_true, true_and, false_and, and_false, Nat.reduceAdd, Nat.reduceMul, Nat.reduceSub, Nat.reduceLeDiff, Nat.reduceLT, Nat.reduceGT, Nat.reduceEqDiff, Nat.reduceBEq, Int.reduceNeg, Int.reduceEq, Int.reduceLT, Int.reduceLE, Int.reduceBEq, Int.reduceToNat, Int.toNat_natCast, Int.natCast_zero, r66_T, r66, x2]
  have g2 : (o == 2) = false := by simpa using x2
  by_cases x8 : o = 8
  · have e : partsV o = (0, 0) := by subst x8; rfl
    rw [e]
    simp only [go_sem, and_self, and_true, true_and, false_and, and_false, Nat.reduceAdd, Nat.reduceMul, Nat.reduceSub, Nat.reduceLeDiff, Nat.reduceLT, Nat.reduceGT, Nat.reduceEqDiff, Nat.reduceBEq, Int.reduceNeg, Int.reduceEq, Int.reduceLT, Int.reduceLE, Int.reduceBEq, Int.reduceToNat, Int.toNat_natCast, Int.natCast_zero, r66_T, r66, x8]
  have g8 : (o == 8) = false := by simpa using x8
  by_cases x19 : o = 19
  · have e : partsV o = (0, 0) := by subst x19; rfl
    rw [e]
    simp only [go_sem, and_self, and_true, true_and, false_and, and_false, Nat.reduceAdd, Nat.reduceMul, Nat.reduceSub, Nat.reduceLeDiff, Nat.reduceLT, Nat.reduceGT, Nat.reduceEqDiff, Nat.reduceBEq, Int.reduceNeg, Int.reduceEq, Int.reduceLT, Int.reduceLE, Int.reduceBEq, Int.reduceToNat, Int.toNat_natCast, Int.natCast_zero, r66_T, r66, x19]
  have g19 : (o == 19) = false := by simpa using x19
  by_cases x3 : o = 3
  · have e : partsV o = (1, 1) := by subst x3; rfl
    rw [e]
    simp only [go_sem, and_self, and_true, true_and, false_and, and_false, Nat.reduceAdd, Nat.reduceMul, Nat.reduceSub, Nat.reduceLeDiff, Nat.reduceLT, Nat.reduceGT, Nat.reduceEqDiff, Nat.reduceBEq, Int.reduceNeg, Int.reduceEq, Int.reduceLT, Int.reduceLE, Int.reduceBEq, Int.reduceToNat, Int.toNat_natCast, Int.natCast_zero, r66_T, r66, x3]
  have g3 : (o == 3) = false := by simpa using x3
  by_cases x5 : o = 5
  · have e : partsV o = (1, 1) := by subst x5; rfl
    rw [e]
    simp only [go_sem, and_self, and_true, true_and, false_and, and_false, Nat.reduceAdd, Nat.reduceMul, Nat.reduceSub, Nat.reduceLeDiff, Nat.reduceLT, Nat.reduceGT, Nat.reduceEqDiff, Nat.reduceBEq, Int.reduceNeg, Int.reduceEq, Int.reduceLT, Int.reduceLE, Int.reduceBEq, Int.reduceToNat, Int.toNat_natCast, Int.natCast_zero, r66_T, r66, x5]
  have g5 : (o == 5) = false := by simpa using x5
  by_cases x18 : o = 18
  · have e : partsV o = (1, 1) := by subst x18; rfl
    rw [e]
    simp only [go_sem, and_self, and_true, true_and, false_and, and_false, Nat.reduceAdd, Nat.reduceMul, Nat.reduceSub, Nat.reduceLeDiff, Nat.reduceLT, Nat.reduceGT, Nat.reduceEqDiff, Nat.reduceBEq, Int.reduceNeg, Int.reduceEq, Int.reduceLT, Int.reduceLE, Int.reduceBEq, Int.reduceToNat, Int.toNat_natCast, Int.natCast_zero, r66_T, r66, x18]
  have g18 : (o == 18) = false := by simpa using x18
  by_cases x20 : o = 20
  · have e : partsV o = (1, 1) := by subst x20; rfl
    rw [e]
    simp only [go_sem, and_self, and_true, true_and, false_and, and_false, Nat.reduceAdd, Nat.reduceMul, Nat.reduceSub, Nat.reduceLeDiff, Nat.reduceLT, Nat.reduceGT, Nat.reduceEqDiff, Nat.reduceBEq, Int.reduceNeg, Int.reduceEq, Int.reduceLT, Int.reduceLE, Int.reduceBEq, Int.reduceToNat, Int.toNat_natCast, Int.natCast_zero, r66_T, r66, x20]
  have g20 : (o == 20) = false := by simpa using x20
  by_cases x21 : o = 21
  · have e : partsV o = (1, 1) := by subst x21; rfl
    rw [e]
    simp only [go_sem, and_self, and_true, true_and, false_and, and_false, Nat.reduceAdd, Nat.reduceMul, Nat.reduceSub, Nat.reduceLeDiff, Nat.reduceLT, Nat.reduceGT, Nat.reduceEqDiff, Nat.reduceBEq, Int.reduceNeg, Int.reduceEq, Int.reduceLT, Int.reduceLE, Int.reduceBEq, Int.reduceToNat, Int.toNat_natCast, Int.natCast_zero, r66_T, r66, x21]
  have g21 : (o == 21) = false := by simpa using x21
  by_cases x4 : o = 4
  · have e : partsV o = (2, 2) := by subst x4; rfl
    rw [e]
    simp only [go_sem, and_self, and_true, true_and, false_and, and_false, Nat.reduceAdd, Nat.reduceMul, Nat.reduceSub, Nat.reduceLeDiff, Nat.reduceLT, Nat.reduceGT, Nat.reduceEqDiff, Nat.reduceBEq, Int.reduceNeg, Int.reduceEq, Int.reduceLT, Int.reduceLE, Int.reduceBEq, Int.reduceToNat, Int.toNat_natCast, Int.natCast_zero, r66_T, r66, x4]
  have g4 : (o == 4) = false := by simpa using x4
  by_cases x6 : o = 6
  · have e : partsV o = (2, 2) := by subst x6; rfl
    rw [e]
    simp only [go_sem, and_self, and_true, true_and, false_and, and_false, Nat.reduceAdd, Nat.reduceMul, Nat.reduceSub, Nat.reduceLeDiff, Nat.reduceLT, Nat.reduceGT, Nat.reduceEqDiff, Nat.reduceBEq, Int.reduceNeg, Int.reduceEq, Int.reduceLT, Int.reduceLE, Int.reduceBEq, Int.reduceToNat, Int.toNat_natCast, Int.natCast_zero, r66_T, r66, x6]
  have g6 : (o == 6) = false := by simpa using x6
  by_cases x7 : o = 7
  · have e : partsV o = (2, 2) := by subst x7; rfl
    rw [e]
    simp only [go_sem, and_self, and_true, true_and, false_and, and_false, Nat.reduceAdd, Nat.reduceMul, Nat.reduceSub, Nat.reduceLeDiff, Nat.reduceLT, Nat.reduceGT, Nat.reduceEqDiff, Nat.reduceBEq, Int.reduceNeg, Int.reduceEq, Int.reduceLT, Int.reduceLE, Int.reduceBEq, Int.reduceToNat, Int.toNat_natCast, Int.natCast_zero, r66_T, r66, x7]
  have g7 : (o == 7) = false := by simpa using x7
  by_cases x10 : o = 10
  · have e : partsV o = (2, 2) := by subst x10; rfl
    rw [e]
    simp only [go_sem, and_self, and_true, true_and, false_and, and_false, Nat.reduceAdd, Nat.reduceMul, Nat.reduceSub, Nat.reduceLeDiff, Nat.reduceLT, Nat.reduceGT, Nat.reduceEqDiff, Nat.reduceBEq, Int.reduceNeg, Int.reduceEq, Int.reduceLT, Int.reduceLE, Int.reduceBEq, Int.reduceToNat, Int.toNat_natCast, Int.natCast_zero, r66_T, r66, x10]
  have g10 : (o == 10) = false := by simpa using x10
  by_cases x15 : o = 15
  · have e : partsV o = (2, 2) := by subst x15; rfl
    rw [e]
    simp only [go_sem, and_self, and_true, true_and, false_and, and_false, Nat.reduceAdd, Nat.reduceMul, Nat.reduceSub, Nat.reduceLeDiff, Nat.reduceLT, Nat.reduceGT, Nat.reduceEqDiff, Nat.reduceBEq, Int.reduceNeg, Int.reduceEq, Int.reduceLT, Int.reduceLE, Int.reduceBEq, Int.reduceToNat, Int.toNat_natCast, Int.natCast_zero, r66_T, r66, x15]
  have g15 : (o == 15) = false := by simpa using x15
  by_cases x17 : o = 17
  · have e : partsV o = (2, 2) := by subst x17; rfl
    rw [e]
    simp only [go_sem, and_self, and_true, true_and, false_and, and_false, Nat.reduceAdd, Nat.reduceMul, Nat.reduceSub, Nat.reduceLeDiff, Nat.reduceLT, Nat.reduceGT, Nat.reduceEqDiff, Nat.reduceBEq, Int.reduceNeg, Int.reduceEq, Int.reduceLT, Int.reduceLE, Int.reduceBEq, Int.reduceToNat, Int.toNat_natCast, Int.natCast_zero, r66_T, r66, x17]
  have g17 : (o == 17) = false := by simpa using x17
  by_cases x9 : o = 9
  · have e : partsV o = (3, 3) := by subst x9; rfl
    rw [e]
    simp only [go_sem, and_self, and_true, true_and, false_and, and_false, Nat.reduceAdd, Nat.reduceMul, Nat.reduceSub, Nat.reduceLeDiff, Nat.reduceLT, Nat.reduceGT, Nat.reduceEqDiff, Nat.reduceBEq, Int.reduceNeg, Int.reduceEq, Int.reduceLT, Int.reduceLE, Int.reduceBEq, Int.reduceToNat, Int.toNat_natCast, Int.natCast_zero, r66_T, r66, x9]
  have g9 : (o == 9) = false := by simpa using x9
  by_cases x13 : o = 13
  · have e : partsV o = (3, 3) := by subst x13; rfl
    rw [e]
    simp only [go_sem, and_self, and_true, true_and, false_and, and_false, Nat.reduceAdd, Nat.reduceMul, Nat.reduceSub, Nat.reduceLeDiff, Nat.reduceLT, Nat.reduceGT, Nat.reduceEqDiff, Nat.reduceBEq, Int.reduceNeg, Int.reduceEq, Int.reduceLT, Int.reduceLE, Int.reduceBEq, Int.reduceToNat, Int.toNat_natCast, Int.natCast_zero, r66_T, r66, x13]
  have g13 : (o == 13) = false := by simpa using x13
  by_cases x14 : o = 14
  · have e : partsV o = (3, 3) := by subst x14; rfl
    rw [e]
    simp only [go_sem, and_self, and_true, true_and, false_and, and_false, Nat.reduceAdd, Nat.reduceMul, Nat.reduceSub, Nat.reduceLeDiff, Nat.reduceLT, Nat.reduceGT, Nat.reduceEqDiff, Nat.reduceBEq, Int.reduceNeg, Int.reduceEq, Int.reduceLT, Int.reduceLE, Int.reduceBEq, Int.reduceToNat, Int.toNat_natCast, Int.natCast_zero, r66_T, r66, x14]
  have g14 : (o == 14) = false := by simpa using x14
  by_cases x11 : o = 11
  · have e : partsV o = (0, 1) := by subst x11; rfl
    rw [e]
    simp only [go_sem, and_self, and_true, true_and, false_and, and_false, Nat.reduceAdd, Nat.reduceMul, Nat.reduceSub, Nat.reduceLeDiff, Nat.reduceLT, Nat.reduceGT, Nat.reduceEqDiff, Nat.reduceBEq, Int.reduceNeg, Int.reduceEq, Int.reduceLT, Int.reduceLE, Int.reduceBEq, Int.reduceToNat, Int.toNat_natCast, Int.natCast_zero, r66_T, r66, x11]
  have g11 : (o == 11) = false := by simpa using x11
  by_cases x12 : o = 12
  · have e : partsV o = (0, 1000) := by subst x12; rfl
    rw [e]
    simp only [go_sem, and_self, and_true, true_and, false_and, and_false, Nat.reduceAdd, Nat.reduceMul, Nat.reduceSub, Nat.reduceLeDiff, Nat.reduceLT, Nat.reduceGT, Nat.reduceEqDiff, Nat.reduceBEq, Int.reduceNeg, Int.reduceEq, Int.reduceLT, Int.reduceLE, Int.reduceBEq, Int.reduceToNat, Int.toNat_natCast, Int.natCast_zero, r66_T, r66, x12]
  have g12 : (o == 12) = false := by simpa using x12
  by_cases x16 : o = 16
  · have e : partsV o = (0, 4) := by subst x16; rfl
    rw [e]
    simp only [go_sem, and_self, and_true, true_and, false_and, and_false, Nat.reduceAdd, Nat.reduceMul, Nat.reduceSub, Nat.reduceLeDiff, Nat.reduceLT, Nat.reduceGT, Nat.reduceEqDiff, Nat.reduceBEq, Int.reduceNeg, Int.reduceEq, Int.reduceLT, Int.reduceLE, Int.reduceBEq, Int.reduceToNat, Int.toNat_natCast, Int.natCast_zero, r66_T, r66, x16]
  have g16 : (o == 16) = false := by simpa using x16
  have e : partsV o = (-1, -1) := by unfold partsV; simp only [x0, x1, x2, x8, x19, x3, x5, x18, x20, x21, x4, x6, x7, x10, x15, x17, x9, x13, x14, x11, x12, x16, or_self, if_false]
  rw [e]
  simp only [go_sem, and_self, and_true, true_and, false_and, and_false, Nat.reduceAdd, Nat.reduceMul, Nat.reduceSub, Nat.reduceLeDiff, Nat.reduceLT, Nat.reduceGT, Nat.reduceEqDiff, Nat.reduceBEq, Int.reduceNeg, Int.reduceEq, Int.reduceLT, Int.reduceLE, Int.reduceBEq, Int.reduceToNat, Int.toNat_natCast, Int.natCast_zero, r66_T, r66, g0, g1, g2, g8, g19, g3, g5, g18, g20, g21, g4, g6, g7, g10, g15, g17, g9, g13, g14, g11, g12, g16]
end Go.Pe.T

namespace Go.Pe.T

def OnLoop (o : Int) (t : ByteArray) (p k c s : Int) (ns : List ByteArray) (xs : List Xp) (i : Nat) : Prop :=
  V (F tab) r40_B0 (r40_S0 (.ibox [.d (iv o), .d (.str t), .d (iv p), .d (iv k), .d (iv c), .d (iv s), .d (.sl (ns.map .str)), .d (.sl (Xp.encs xs))]) (.d (iv i)) []) = if unF (ns.take i) (ns.drop i) then some (.norm, r40_E0 (.ibox [.d (iv o), .d (.str t), .d (iv p), .d (iv k), .d (iv c), .d (iv s), .d (.sl (ns.map .str)), .d (.sl (Xp.encs xs))]) []) else some (.ret, r40_R (.d (.bool false)) [])
theorem on_end (o : Int) (t : ByteArray) (p k c s : Int) (ns : List ByteArray) (xs : List Xp) (i : Nat) (hi : ns.length ≤ i) : OnLoop o t p k c s ns xs i := by
  have h1 : ((i : Int) < (ns.length : Int)) = False := eq_false (by omega)
  unfold OnLoop
  rw [r40_B0_eq, List.drop_of_length_le hi]
  simp (disch := omega) only [go_sem, and_self, and_true, true_and, false_and, and_false, Nat.reduceAdd, Nat.reduceMul, Nat.reduceSub, Nat.reduceLeDiff, Nat.reduceLT, Nat.reduceGT, Nat.reduceEqDiff, Nat.reduceBEq, Int.reduceNeg, Int.reduceEq, Int.reduceLT, Int.reduceLE, Int.reduceBEq, Int.reduceToNat, Int.toNat_natCast, Int.natCast_zero, r40_C0, h1, unF, List.length_map]
theorem on_step (o : Int) (t : ByteArray) (p k c s : Int) (ns : List ByteArray) (xs : List Xp) (i : Nat) (hi : i < ns.length) (hl : ns.length ≤ maxLen) (hs : ∀ x ∈ ns, x.size ≤ 2097152) (ih : OnLoop o t p k c s ns xs (i + 1)) : OnLoop o t p k c s ns xs i := by
  have hmx : maxLen = 9223372036854775807 := by decide
  have h1 : ((i : Int) < (ns.length : Int)) = True := eq_true (by omega)
  have hi0 : (0 ≤ (i : Int)) = True := eq_true (by omega)
  have hil : ((i : Int) ≤ (ns.length : Int)) = True := eq_true (by omega)
  have va : (ns.map D.str)[i]? = some (.str ns[i]) := by simp [hi]
  have hv := rtext_ok ns[i] (hs _ (List.getElem_mem hi))
  have hc := has_ok (ns.take i) ns[i] (by rw [List.length_take]; omega)
  rw [List.map_take] at hc
  unfold OnLoop at ih ⊢
  rw [Int.natCast_add, Int.natCast_one] at ih
  rw [r40_B0_eq, List.drop_eq_getElem_cons hi]
  simp only [unF, List.take_append_getElem]
  rcases Bool.eq_false_or_eq_true (validB ns[i]) with g1 | g1
  · rcases Bool.eq_false_or_eq_true (hasB (ns.take i) ns[i]) with g2 | g2
    · simp (disch := omega) only [go_sem, and_self, and_true, true_and, false_and, and_false, Nat.reduceAdd, Nat.reduceMul, Nat.reduceSub, Nat.reduceLeDiff, Nat.reduceLT, Nat.reduceGT, Nat.reduceEqDiff, Nat.reduceBEq, Int.reduceNeg, Int.reduceEq, Int.reduceLT, Int.reduceLE, Int.reduceBEq, Int.reduceToNat, Int.toNat_natCast, Int.natCast_zero, r40_C0, h1, hi0, hil, va, List.length_map, w64, hv, hc, g1, g2, strs_w, cut0, decide_true, Bool.not_true, Bool.not_false, Bool.true_and, Bool.and_false, Bool.false_and]
    · simp (disch := omega) only [go_sem, and_self, and_true, true_and, false_and, and_false, Nat.reduceAdd, Nat.reduceMul, Nat.reduceSub, Nat.reduceLeDiff, Nat.reduceLT, Nat.reduceGT, Nat.reduceEqDiff, Nat.reduceBEq, Int.reduceNeg, Int.reduceEq, Int.reduceLT, Int.reduceLE, Int.reduceBEq, Int.reduceToNat, Int.toNat_natCast, Int.natCast_zero, r40_C0, h1, hi0, hil, va, List.length_map, w64, hv, hc, g1, g2, strs_w, cut0, decide_true, Bool.not_true, Bool.not_false, Bool.true_and, Bool.and_false, Bool.false_and]
      exact ih
  · simp (disch := omega) only [go_sem, and_self, and_true, true_and, false_and, and_false, Nat.reduceAdd, Nat.reduceMul, Nat.reduceSub, Nat.reduceLeDiff, Nat.reduceLT, Nat.reduceGT, Nat.reduceEqDiff, Nat.reduceBEq, Int.reduceNeg, Int.reduceEq, Int.reduceLT, Int.reduceLE, Int.reduceBEq, Int.reduceToNat, Int.toNat_natCast, Int.natCast_zero, r40_C0, h1, hi0, hil, va, List.length_map, w64, hv, g1, decide_true, Bool.not_true, Bool.not_false, Bool.true_and, Bool.and_false, Bool.false_and]
theorem on_loop (o : Int) (t : ByteArray) (p k c s : Int) (ns : List ByteArray) (xs : List Xp) (hl : ns.length ≤ maxLen) (hs : ∀ x ∈ ns, x.size ≤ 2097152) : ∀ (j i : Nat), i + j = ns.length → OnLoop o t p k c s ns xs i
  | 0, i, hi => on_end o t p k c s ns xs i (by omega)
  | j + 1, i, hi => on_step o t p k c s ns xs i (by omega) hl hs (on_loop o t p k c s ns xs hl hs j (i + 1) (by omega))

def litR (t : ByteArray) (k c s : Int) : Bool :=
  if k < 0 then false else if k > 4 then false
  else if k ≠ 3 ∧ (c ≠ 0 ∨ s ≠ 0) then false
  else if k ≠ 4 ∧ t.size ≠ 0 then false
  else numIs c s && validB t
def nmd (o : Int) : Bool := o == 2 || (o == 13 || (o == 14 || (o == 16 || (o == 17 || (o == 18 || o == 19)))))
def ownV (o : Int) (t : ByteArray) (p k c s : Int) (ns : List ByteArray) (n : Int) : Bool :=
  if (partsV o).1 < 0 then false else if n < (partsV o).1 then false else if n > (partsV o).2 then false else if p ≠ 0 then false
  else if o ≠ 1 ∧ (k ≠ 0 ∨ c ≠ 0 ∨ s ≠ 0) then false
  else if o ≠ 12 ∧ o ≠ 20 ∧ ns.length ≠ 0 then false
  else if o = 1 then litR t k c s
  else if nmd o = true then identB t
  else if o = 3 then validB t
  else if o = 10 then hasB signsL t
  else if o = 12 ∧ ((ns.length : Int) ≠ n ∨ n > 512 ∨ unF [] ns = false) then false
  else if o = 20 ∧ name2 ns = false then false
  else !decide (t.size ≠ 0)

def OwnIs (o : Int) (t : ByteArray) (p k c s : Int) (ns : List ByteArray) (xs : List Xp) : Prop := ∀ hp : List Ent, F tab 40 [.d (.agg [iv o, .str t, iv p, iv k, iv c, iv s, .sl (ns.map .str), .sl (Xp.encs xs)])] hp = some (.ret (.d (.bool (ownV o t p k c s ns xs.length))) hp)

theorem own_parts (o : Int) (t : ByteArray) (p k c s : Int) (ns : List ByteArray) (xs : List Xp) (h : (partsV o).1 < 0 ∨ (xs.length : Int) < (partsV o).1 ∨ (xs.length : Int) > (partsV o).2 ∨ p ≠ 0) : OwnIs o t p k c s ns xs := by
  intro hp
  have hpa := parts_ok o
  unfold ownV
  refine f40 rfl ?_
  generalize partsV o = lm at *
  obtain ⟨l, m⟩ := lm
  simp only at h hpa ⊢
  by_cases q1 : l < 0
  · simp (maxSteps := 1000000) (disch := omega) only [go_sem, and_self, and_true, true_and, false_and, and_false, Nat.reduceAdd, Nat.reduceMul, Nat.reduceSub, Nat.reduceLeDiff, Nat.reduceLT, Nat.reduceGT, Nat.reduceEqDiff, Nat.reduceBEq, Int.reduceNeg, Int.reduceEq, Int.reduceLT, Int.reduceLE, Int.reduceBEq, Int.reduceToNat, Int.toNat_natCast, Int.natCast_zero, r40_T, r40, hpa, xencs_len, List.length_map, strD_neq, strD_eql, isE, q1, if_true]
  by_cases q2 : (xs.length : Int) < l
  · simp (maxSteps := 1000000) (disch := omega) only [go_sem, and_self, and_true, true_and, false_and, and_false, Nat.reduceAdd, Nat.reduceMul, Nat.reduceSub, Nat.reduceLeDiff, Nat.reduceLT, Nat.reduceGT, Nat.reduceEqDiff, Nat.reduceBEq, Int.reduceNeg, Int.reduceEq, Int.reduceLT, Int.reduceLE, Int.reduceBEq, Int.reduceToNat, Int.toNat_natCast, Int.natCast_zero, r40_T, r40, hpa, xencs_len, List.length_map, strD_neq, strD_eql, isE, q1, q2, if_true, if_false]
  by_cases q3 : (xs.length : Int) > m
  · simp (maxSteps := 1000000) (disch := omega) only [go_sem, and_self, and_true, true_and, false_and, and_false, Nat.reduceAdd, Nat.reduceMul, Nat.reduceSub, Nat.reduceLeDiff, Nat.reduceLT, Nat.reduceGT, Nat.reduceEqDiff, Nat.reduceBEq, Int.reduceNeg, Int.reduceEq, Int.reduceLT, Int.reduceLE, Int.reduceBEq, Int.reduceToNat, Int.toNat_natCast, Int.natCast_zero, r40_T, r40, hpa, xencs_len, List.length_map, strD_neq, strD_eql, isE, q1, q2, q3, if_true, if_false]
  have q4 : p ≠ 0 := by omega
  have q5 : (p != 0) = true := by simpa using q4
  simp (maxSteps := 1000000) (disch := omega) only [go_sem, and_self, and_true, true_and, false_and, and_false, Nat.reduceAdd, Nat.reduceMul, Nat.reduceSub, Nat.reduceLeDiff, Nat.reduceLT, Nat.reduceGT, Nat.reduceEqDiff, Nat.reduceBEq, Int.reduceNeg, Int.reduceEq, Int.reduceLT, Int.reduceLE, Int.reduceBEq, Int.reduceToNat, Int.toNat_natCast, Int.natCast_zero, r40_T, r40, hpa, xencs_len, List.length_map, strD_neq, strD_eql, isE, q1, q2, q3, q4, q5, ne_eq, not_false_eq_true, if_true, if_false]

structure Own0 (o p : Int) (n : Int) : Prop where
  q1 : ¬ (partsV o).1 < 0
  q2 : ¬ n < (partsV o).1
  q3 : ¬ n > (partsV o).2
  q4 : p = 0

theorem own_v0 {o p n : Int} (h : Own0 o p n) (t : ByteArray) (k c s : Int) (ns : List ByteArray) : ownV o t p k c s ns n =
  if o ≠ 1 ∧ (k ≠ 0 ∨ c ≠ 0 ∨ s ≠ 0) then false
  else if o ≠ 12 ∧ o ≠ 20 ∧ ns.length ≠ 0 then false
  else if o = 1 then litR t k c s
  else if nmd o = true then identB t
  else if o = 3 then validB t
  else if o = 10 then hasB signsL t
  else if o = 12 ∧ ((ns.length : Int) ≠ n ∨ n > 512 ∨ unF [] ns = false) then false
  else if o = 20 ∧ name2 ns = false then false
  else !decide (t.size ≠ 0) := by
  unfold ownV
  have : ¬ p ≠ 0 := fun e => e h.q4
  rw [if_neg h.q1, if_neg h.q2, if_neg h.q3, if_neg this]

theorem own_k1 (o : Int) (t : ByteArray) (p k c s : Int) (ns : List ByteArray) (xs : List Xp) (h0 : Own0 o p xs.length) (o1 : o ≠ 1) (hk : k ≠ 0) : OwnIs o t p k c s ns xs := by
  intro hp
  have hpa := parts_ok o
  obtain ⟨q1, q2, q3, q4⟩ := h0
  have e : ownV o t p k c s ns xs.length = false := by
    rw [own_v0 ⟨q1, q2, q3, q4⟩]
    rw [if_pos ⟨o1, .inl hk⟩]
  rw [e]
  have q5 : (p != 0) = false := by simp [q4]
  generalize partsV o = lm at *
  obtain ⟨l, m⟩ := lm
  simp only at q1 q2 q3 hpa
  refine f40 rfl ?_
  have e1 : (o != 1) = true := by simpa using o1
  have e2 : (k != 0) = true := by simpa using hk
  simp (maxSteps := 1000000) (disch := omega) only [go_sem, and_self, and_true, true_and, false_and, and_false, Nat.reduceAdd, Nat.reduceMul, Nat.reduceSub, Nat.reduceLeDiff, Nat.reduceLT, Nat.reduceGT, Nat.reduceEqDiff, Nat.reduceBEq, Int.reduceNeg, Int.reduceEq, Int.reduceLT, Int.reduceLE, Int.reduceBEq, Int.reduceToNat, Int.toNat_natCast, Int.natCast_zero, r40_T, r40, hpa, xencs_len, List.length_map, strD_neq, strD_eql, isE, q1, q2, q3, q5, e1, e2]

theorem own_k2 (o : Int) (t : ByteArray) (p k c s : Int) (ns : List ByteArray) (xs : List Xp) (h0 : Own0 o p xs.length) (o1 : o ≠ 1) (hk : k = 0) (hc : c ≠ 0) : OwnIs o t p k c s ns xs := by
  intro hp
  have hpa := parts_ok o
  obtain ⟨q1, q2, q3, q4⟩ := h0
  have e : ownV o t p k c s ns xs.length = false := by
    rw [own_v0 ⟨q1, q2, q3, q4⟩]
    rw [if_pos ⟨o1, .inr (.inl hc)⟩]
  rw [e]
  have q5 : (p != 0) = false := by simp [q4]
  generalize partsV o = lm at *
  obtain ⟨l, m⟩ := lm
  simp only at q1 q2 q3 hpa
  refine f40 rfl ?_
  have e1 : (o != 1) = true := by simpa using o1
  have e2 : (k != 0) = false := by simp [hk]
  have e3 : (c != 0) = true := by simpa using hc
  simp (maxSteps := 1000000) (disch := omega) only [go_sem, and_self, and_true, true_and, false_and, and_false, Nat.reduceAdd, Nat.reduceMul, Nat.reduceSub, Nat.reduceLeDiff, Nat.reduceLT, Nat.reduceGT, Nat.reduceEqDiff, Nat.reduceBEq, Int.reduceNeg, Int.reduceEq, Int.reduceLT, Int.reduceLE, Int.reduceBEq, Int.reduceToNat, Int.toNat_natCast, Int.natCast_zero, r40_T, r40, hpa, xencs_len, List.length_map, strD_neq, strD_eql, isE, q1, q2, q3, q5, e1, e2, e3]

theorem own_k3 (o : Int) (t : ByteArray) (p k c s : Int) (ns : List ByteArray) (xs : List Xp) (h0 : Own0 o p xs.length) (o1 : o ≠ 1) (hk : k = 0) (hc : c = 0) (hs0 : s ≠ 0) : OwnIs o t p k c s ns xs := by
  intro hp
  have hpa := parts_ok o
  obtain ⟨q1, q2, q3, q4⟩ := h0
  have e : ownV o t p k c s ns xs.length = false := by
    rw [own_v0 ⟨q1, q2, q3, q4⟩]
    rw [if_pos ⟨o1, .inr (.inr hs0)⟩]
  rw [e]
  have q5 : (p != 0) = false := by simp [q4]
  generalize partsV o = lm at *
  obtain ⟨l, m⟩ := lm
  simp only at q1 q2 q3 hpa
  refine f40 rfl ?_
  have e1 : (o != 1) = true := by simpa using o1
  have e2 : (k != 0) = false := by simp [hk]
  have e3 : (c != 0) = false := by simp [hc]
  have e4 : (s != 0) = true := by simpa using hs0
  simp (maxSteps := 1000000) (disch := omega) only [go_sem, and_self, and_true, true_and, false_and, and_false, Nat.reduceAdd, Nat.reduceMul, Nat.reduceSub, Nat.reduceLeDiff, Nat.reduceLT, Nat.reduceGT, Nat.reduceEqDiff, Nat.reduceBEq, Int.reduceNeg, Int.reduceEq, Int.reduceLT, Int.reduceLE, Int.reduceBEq, Int.reduceToNat, Int.toNat_natCast, Int.natCast_zero, r40_T, r40, hpa, xencs_len, List.length_map, strD_neq, strD_eql, isE, q1, q2, q3, q5, e1, e2, e3, e4]

theorem own_n1 (o : Int) (t : ByteArray) (p k c s : Int) (ns : List ByteArray) (xs : List Xp) (h0 : Own0 o p xs.length) (o1 : o ≠ 1) (hk : k = 0) (hc : c = 0) (hs0 : s = 0) (o12 : o ≠ 12) (o20 : o ≠ 20) (hn : ns.length ≠ 0) : OwnIs o t p k c s ns xs := by
  intro hp
  have hpa := parts_ok o
  obtain ⟨q1, q2, q3, q4⟩ := h0
  have e : ownV o t p k c s ns xs.length = false := by
    rw [own_v0 ⟨q1, q2, q3, q4⟩]
    rw [if_neg (show ¬ (o ≠ 1 ∧ (k ≠ 0 ∨ c ≠ 0 ∨ s ≠ 0)) by omega)]
    rw [if_pos ⟨o12, o20, hn⟩]
  rw [e]
  have q5 : (p != 0) = false := by simp [q4]
  generalize partsV o = lm at *
  obtain ⟨l, m⟩ := lm
  simp only at q1 q2 q3 hpa
  refine f40 rfl ?_
  have e1 : (o != 1) = true := by simpa using o1
  have e0 : (o == 1) = false := by simpa using o1
  have e2 : (k != 0) = false := by simp [hk]
  have e3 : (c != 0) = false := by simp [hc]
  have e4 : (s != 0) = false := by simp [hs0]
  have e5 : (o != 12) = true := by simpa using o12
  have e6 : (o != 20) = true := by simpa using o20
  have e7 : ((ns.length : Int) > 0) = True := eq_true (by omega)
  simp (maxSteps := 1000000) (disch := omega) only [go_sem, and_self, and_true, true_and, false_and, and_false, Nat.reduceAdd, Nat.reduceMul, Nat.reduceSub, Nat.reduceLeDiff, Nat.reduceLT, Nat.reduceGT, Nat.reduceEqDiff, Nat.reduceBEq, Int.reduceNeg, Int.reduceEq, Int.reduceLT, Int.reduceLE, Int.reduceBEq, Int.reduceToNat, Int.toNat_natCast, Int.natCast_zero, r40_T, r40, hpa, xencs_len, List.length_map, strD_neq, strD_eql, isE, q1, q2, q3, q5, e1, e2, e3, e4, e5, e6, e7, decide_true]

set_option maxHeartbeats 4000000 in
theorem own_id2 (o : Int) (t : ByteArray) (p k c s : Int) (ns : List ByteArray) (xs : List Xp) (h0 : Own0 o p xs.length) (o1 : o ≠ 1) (hk : k = 0) (hc : c = 0) (hs0 : s = 0) (o12 : o ≠ 12) (o20 : o ≠ 20) (hn : ns.length = 0) (ht : t.size ≤ 2097152) (hid : nmd o = true) (hk0 : o = 2) : OwnIs o t p k c s ns xs := by
  intro hp
  have hpa := parts_ok o
  obtain ⟨q1, q2, q3, q4⟩ := h0
  have e : ownV o t p k c s ns xs.length = identB t := by
    rw [own_v0 ⟨q1, q2, q3, q4⟩]
    rw [if_neg (show ¬ (o ≠ 1 ∧ (k ≠ 0 ∨ c ≠ 0 ∨ s ≠ 0)) by omega)]
    rw [if_neg (show ¬ (o ≠ 12 ∧ o ≠ 20 ∧ ns.length ≠ 0) by omega), if_neg o1]
    rw [if_pos hid]
  rw [e]
  have q5 : (p != 0) = false := by simp [q4]
  generalize partsV o = lm at *
  obtain ⟨l, m⟩ := lm
  simp only at q1 q2 q3 hpa
  refine f40 rfl ?_
  have e1 : (o != 1) = true := by simpa using o1
  have e0 : (o == 1) = false := by simpa using o1
  have e2 : (k != 0) = false := by simp [hk]
  have e3 : (c != 0) = false := by simp [hc]
  have e4 : (s != 0) = false := by simp [hs0]
  have e5 : (o != 12) = true := by simpa using o12
  have e6 : (o != 20) = true := by simpa using o20
  have e7 : ((ns.length : Int) > 0) = False := eq_false (by omega)
  have hi := rident_ok t (by have : maxLen = 9223372036854775807 := by decide
                             omega)
  have i2 : (o == 2) = true := by simp [hk0]
  simp (maxSteps := 1000000) (disch := omega) only [go_sem, and_self, and_true, true_and, false_and, and_false, Nat.reduceAdd, Nat.reduceMul, Nat.reduceSub, Nat.reduceLeDiff, Nat.reduceLT, Nat.reduceGT, Nat.reduceEqDiff, Nat.reduceBEq, Int.reduceNeg, Int.reduceEq, Int.reduceLT, Int.reduceLE, Int.reduceBEq, Int.reduceToNat, Int.toNat_natCast, Int.natCast_zero, r40_T, r40, hpa, xencs_len, List.length_map, strD_neq, strD_eql, isE, q1, q2, q3, q5, e0, e1, e2, e3, e4, e5, e6, e7, hi, i2, decide_false]

set_option maxHeartbeats 4000000 in
theorem own_id13 (o : Int) (t : ByteArray) (p k c s : Int) (ns : List ByteArray) (xs : List Xp) (h0 : Own0 o p xs.length) (o1 : o ≠ 1) (hk : k = 0) (hc : c = 0) (hs0 : s = 0) (o12 : o ≠ 12) (o20 : o ≠ 20) (hn : ns.length = 0) (ht : t.size ≤ 2097152) (hid : nmd o = true) (hk0 : o = 13) : OwnIs o t p k c s ns xs := by
  intro hp
  have hpa := parts_ok o
  obtain ⟨q1, q2, q3, q4⟩ := h0
  have e : ownV o t p k c s ns xs.length = identB t := by
    rw [own_v0 ⟨q1, q2, q3, q4⟩]
    rw [if_neg (show ¬ (o ≠ 1 ∧ (k ≠ 0 ∨ c ≠ 0 ∨ s ≠ 0)) by omega)]
    rw [if_neg (show ¬ (o ≠ 12 ∧ o ≠ 20 ∧ ns.length ≠ 0) by omega), if_neg o1]
    rw [if_pos hid]
  rw [e]
  have q5 : (p != 0) = false := by simp [q4]
  generalize partsV o = lm at *
  obtain ⟨l, m⟩ := lm
  simp only at q1 q2 q3 hpa
  refine f40 rfl ?_
  have e1 : (o != 1) = true := by simpa using o1
  have e0 : (o == 1) = false := by simpa using o1
  have e2 : (k != 0) = false := by simp [hk]
  have e3 : (c != 0) = false := by simp [hc]
  have e4 : (s != 0) = false := by simp [hs0]
  have e5 : (o != 12) = true := by simpa using o12
  have e6 : (o != 20) = true := by simpa using o20
  have e7 : ((ns.length : Int) > 0) = False := eq_false (by omega)
  have hi := rident_ok t (by have : maxLen = 9223372036854775807 := by decide
                             omega)
  have i2 : (o == 2) = false := by simp [hk0]
  have i13 : (o == 13) = true := by simp [hk0]
  simp (maxSteps := 1000000) (disch := omega) only [go_sem, and_self, and_true, true_and, false_and, and_false, Nat.reduceAdd, Nat.reduceMul, Nat.reduceSub, Nat.reduceLeDiff, Nat.reduceLT, Nat.reduceGT, Nat.reduceEqDiff, Nat.reduceBEq, Int.reduceNeg, Int.reduceEq, Int.reduceLT, Int.reduceLE, Int.reduceBEq, Int.reduceToNat, Int.toNat_natCast, Int.natCast_zero, r40_T, r40, hpa, xencs_len, List.length_map, strD_neq, strD_eql, isE, q1, q2, q3, q5, e0, e1, e2, e3, e4, e5, e6, e7, hi, i2, i13, decide_false]

set_option maxHeartbeats 4000000 in
theorem own_id14 (o : Int) (t : ByteArray) (p k c s : Int) (ns : List ByteArray) (xs : List Xp) (h0 : Own0 o p xs.length) (o1 : o ≠ 1) (hk : k = 0) (hc : c = 0) (hs0 : s = 0) (o12 : o ≠ 12) (o20 : o ≠ 20) (hn : ns.length = 0) (ht : t.size ≤ 2097152) (hid : nmd o = true) (hk0 : o = 14) : OwnIs o t p k c s ns xs := by
  intro hp
  have hpa := parts_ok o
  obtain ⟨q1, q2, q3, q4⟩ := h0
  have e : ownV o t p k c s ns xs.length = identB t := by
    rw [own_v0 ⟨q1, q2, q3, q4⟩]
    rw [if_neg (show ¬ (o ≠ 1 ∧ (k ≠ 0 ∨ c ≠ 0 ∨ s ≠ 0)) by omega)]
    rw [if_neg (show ¬ (o ≠ 12 ∧ o ≠ 20 ∧ ns.length ≠ 0) by omega), if_neg o1]
    rw [if_pos hid]
  rw [e]
  have q5 : (p != 0) = false := by simp [q4]
  generalize partsV o = lm at *
  obtain ⟨l, m⟩ := lm
  simp only at q1 q2 q3 hpa
  refine f40 rfl ?_
  have e1 : (o != 1) = true := by simpa using o1
  have e0 : (o == 1) = false := by simpa using o1
  have e2 : (k != 0) = false := by simp [hk]
  have e3 : (c != 0) = false := by simp [hc]
  have e4 : (s != 0) = false := by simp [hs0]
  have e5 : (o != 12) = true := by simpa using o12
  have e6 : (o != 20) = true := by simpa using o20
  have e7 : ((ns.length : Int) > 0) = False := eq_false (by omega)
  have hi := rident_ok t (by have : maxLen = 9223372036854775807 := by decide
                             omega)
  have i2 : (o == 2) = false := by simp [hk0]
  have i13 : (o == 13) = false := by simp [hk0]
  have i14 : (o == 14) = true := by simp [hk0]
  simp (maxSteps := 1000000) (disch := omega) only [go_sem, and_self, and_true, true_and, false_and, and_false, Nat.reduceAdd, Nat.reduceMul, Nat.reduceSub, Nat.reduceLeDiff, Nat.reduceLT, Nat.reduceGT, Nat.reduceEqDiff, Nat.reduceBEq, Int.reduceNeg, Int.reduceEq, Int.reduceLT, Int.reduceLE, Int.reduceBEq, Int.reduceToNat, Int.toNat_natCast, Int.natCast_zero, r40_T, r40, hpa, xencs_len, List.length_map, strD_neq, strD_eql, isE, q1, q2, q3, q5, e0, e1, e2, e3, e4, e5, e6, e7, hi, i2, i13, i14, decide_false]

set_option maxHeartbeats 4000000 in
theorem own_id16 (o : Int) (t : ByteArray) (p k c s : Int) (ns : List ByteArray) (xs : List Xp) (h0 : Own0 o p xs.length) (o1 : o ≠ 1) (hk : k = 0) (hc : c = 0) (hs0 : s = 0) (o12 : o ≠ 12) (o20 : o ≠ 20) (hn : ns.length = 0) (ht : t.size ≤ 2097152) (hid : nmd o = true) (hk0 : o = 16) : OwnIs o t p k c s ns xs := by
  intro hp
  have hpa := parts_ok o
  obtain ⟨q1, q2, q3, q4⟩ := h0
  have e : ownV o t p k c s ns xs.length = identB t := by
    rw [own_v0 ⟨q1, q2, q3, q4⟩]
    rw [if_neg (show ¬ (o ≠ 1 ∧ (k ≠ 0 ∨ c ≠ 0 ∨ s ≠ 0)) by omega)]
    rw [if_neg (show ¬ (o ≠ 12 ∧ o ≠ 20 ∧ ns.length ≠ 0) by omega), if_neg o1]
    rw [if_pos hid]
  rw [e]
  have q5 : (p != 0) = false := by simp [q4]
  generalize partsV o = lm at *
  obtain ⟨l, m⟩ := lm
  simp only at q1 q2 q3 hpa
  refine f40 rfl ?_
  have e1 : (o != 1) = true := by simpa using o1
  have e0 : (o == 1) = false := by simpa using o1
  have e2 : (k != 0) = false := by simp [hk]
  have e3 : (c != 0) = false := by simp [hc]
  have e4 : (s != 0) = false := by simp [hs0]
  have e5 : (o != 12) = true := by simpa using o12
  have e6 : (o != 20) = true := by simpa using o20
  have e7 : ((ns.length : Int) > 0) = False := eq_false (by omega)
  have hi := rident_ok t (by have : maxLen = 9223372036854775807 := by decide
                             omega)
  have i2 : (o == 2) = false := by simp [hk0]
  have i13 : (o == 13) = false := by simp [hk0]
  have i14 : (o == 14) = false := by simp [hk0]
  have i16 : (o == 16) = true := by simp [hk0]
  simp (maxSteps := 1000000) (disch := omega) only [go_sem, and_self, and_true, true_and, false_and, and_false, Nat.reduceAdd, Nat.reduceMul, Nat.reduceSub, Nat.reduceLeDiff, Nat.reduceLT, Nat.reduceGT, Nat.reduceEqDiff, Nat.reduceBEq, Int.reduceNeg, Int.reduceEq, Int.reduceLT, Int.reduceLE, Int.reduceBEq, Int.reduceToNat, Int.toNat_natCast, Int.natCast_zero, r40_T, r40, hpa, xencs_len, List.length_map, strD_neq, strD_eql, isE, q1, q2, q3, q5, e0, e1, e2, e3, e4, e5, e6, e7, hi, i2, i13, i14, i16, decide_false]

set_option maxHeartbeats 4000000 in
theorem own_id17 (o : Int) (t : ByteArray) (p k c s : Int) (ns : List ByteArray) (xs : List Xp) (h0 : Own0 o p xs.length) (o1 : o ≠ 1) (hk : k = 0) (hc : c = 0) (hs0 : s = 0) (o12 : o ≠ 12) (o20 : o ≠ 20) (hn : ns.length = 0) (ht : t.size ≤ 2097152) (hid : nmd o = true) (hk0 : o = 17) : OwnIs o t p k c s ns xs := by
  intro hp
  have hpa := parts_ok o
  obtain ⟨q1, q2, q3, q4⟩ := h0
  have e : ownV o t p k c s ns xs.length = identB t := by
    rw [own_v0 ⟨q1, q2, q3, q4⟩]
    rw [if_neg (show ¬ (o ≠ 1 ∧ (k ≠ 0 ∨ c ≠ 0 ∨ s ≠ 0)) by omega)]
    rw [if_neg (show ¬ (o ≠ 12 ∧ o ≠ 20 ∧ ns.length ≠ 0) by omega), if_neg o1]
    rw [if_pos hid]
  rw [e]
  have q5 : (p != 0) = false := by simp [q4]
  generalize partsV o = lm at *
  obtain ⟨l, m⟩ := lm
  simp only at q1 q2 q3 hpa
  refine f40 rfl ?_
  have e1 : (o != 1) = true := by simpa using o1
  have e0 : (o == 1) = false := by simpa using o1
  have e2 : (k != 0) = false := by simp [hk]
  have e3 : (c != 0) = false := by simp [hc]
  have e4 : (s != 0) = false := by simp [hs0]
  have e5 : (o != 12) = true := by simpa using o12
  have e6 : (o != 20) = true := by simpa using o20
  have e7 : ((ns.length : Int) > 0) = False := eq_false (by omega)
  have hi := rident_ok t (by have : maxLen = 9223372036854775807 := by decide
                             omega)
  have i2 : (o == 2) = false := by simp [hk0]
  have i13 : (o == 13) = false := by simp [hk0]
  have i14 : (o == 14) = false := by simp [hk0]
  have i16 : (o == 16) = false := by simp [hk0]
  have i17 : (o == 17) = true := by simp [hk0]
  simp (maxSteps := 1000000) (disch := omega) only [go_sem, and_self, and_true, true_and, false_and, and_false, Nat.reduceAdd, Nat.reduceMul, Nat.reduceSub, Nat.reduceLeDiff, Nat.reduceLT, Nat.reduceGT, Nat.reduceEqDiff, Nat.reduceBEq, Int.reduceNeg, Int.reduceEq, Int.reduceLT, Int.reduceLE, Int.reduceBEq, Int.reduceToNat, Int.toNat_natCast, Int.natCast_zero, r40_T, r40, hpa, xencs_len, List.length_map, strD_neq, strD_eql, isE, q1, q2, q3, q5, e0, e1, e2, e3, e4, e5, e6, e7, hi, i2, i13, i14, i16, i17, decide_false]

set_option maxHeartbeats 4000000 in
theorem own_id18 (o : Int) (t : ByteArray) (p k c s : Int) (ns : List ByteArray) (xs : List Xp) (h0 : Own0 o p xs.length) (o1 : o ≠ 1) (hk : k = 0) (hc : c = 0) (hs0 : s = 0) (o12 : o ≠ 12) (o20 : o ≠ 20) (hn : ns.length = 0) (ht : t.size ≤ 2097152) (hid : nmd o = true) (hk0 : o = 18) : OwnIs o t p k c s ns xs := by
  intro hp
  have hpa := parts_ok o
  obtain ⟨q1, q2, q3, q4⟩ := h0
  have e : ownV o t p k c s ns xs.length = identB t := by
    rw [own_v0 ⟨q1, q2, q3, q4⟩]
    rw [if_neg (show ¬ (o ≠ 1 ∧ (k ≠ 0 ∨ c ≠ 0 ∨ s ≠ 0)) by omega)]
    rw [if_neg (show ¬ (o ≠ 12 ∧ o ≠ 20 ∧ ns.length ≠ 0) by omega), if_neg o1]
    rw [if_pos hid]
  rw [e]
  have q5 : (p != 0) = false := by simp [q4]
  generalize partsV o = lm at *
  obtain ⟨l, m⟩ := lm
  simp only at q1 q2 q3 hpa
  refine f40 rfl ?_
  have e1 : (o != 1) = true := by simpa using o1
  have e0 : (o == 1) = false := by simpa using o1
  have e2 : (k != 0) = false := by simp [hk]
  have e3 : (c != 0) = false := by simp [hc]
  have e4 : (s != 0) = false := by simp [hs0]
  have e5 : (o != 12) = true := by simpa using o12
  have e6 : (o != 20) = true := by simpa using o20
  have e7 : ((ns.length : Int) > 0) = False := eq_false (by omega)
  have hi := rident_ok t (by have : maxLen = 9223372036854775807 := by decide
                             omega)
  have i2 : (o == 2) = false := by simp [hk0]
  have i13 : (o == 13) = false := by simp [hk0]
  have i14 : (o == 14) = false := by simp [hk0]
  have i16 : (o == 16) = false := by simp [hk0]
  have i17 : (o == 17) = false := by simp [hk0]
  have i18 : (o == 18) = true := by simp [hk0]
  simp (maxSteps := 1000000) (disch := omega) only [go_sem, and_self, and_true, true_and, false_and, and_false, Nat.reduceAdd, Nat.reduceMul, Nat.reduceSub, Nat.reduceLeDiff, Nat.reduceLT, Nat.reduceGT, Nat.reduceEqDiff, Nat.reduceBEq, Int.reduceNeg, Int.reduceEq, Int.reduceLT, Int.reduceLE, Int.reduceBEq, Int.reduceToNat, Int.toNat_natCast, Int.natCast_zero, r40_T, r40, hpa, xencs_len, List.length_map, strD_neq, strD_eql, isE, q1, q2, q3, q5, e0, e1, e2, e3, e4, e5, e6, e7, hi, i2, i13, i14, i16, i17, i18, decide_false]

set_option maxHeartbeats 4000000 in
theorem own_id19 (o : Int) (t : ByteArray) (p k c s : Int) (ns : List ByteArray) (xs : List Xp) (h0 : Own0 o p xs.length) (o1 : o ≠ 1) (hk : k = 0) (hc : c = 0) (hs0 : s = 0) (o12 : o ≠ 12) (o20 : o ≠ 20) (hn : ns.length = 0) (ht : t.size ≤ 2097152) (hid : nmd o = true) (hk0 : o = 19) : OwnIs o t p k c s ns xs := by
  intro hp
  have hpa := parts_ok o
  obtain ⟨q1, q2, q3, q4⟩ := h0
  have e : ownV o t p k c s ns xs.length = identB t := by
    rw [own_v0 ⟨q1, q2, q3, q4⟩]
    rw [if_neg (show ¬ (o ≠ 1 ∧ (k ≠ 0 ∨ c ≠ 0 ∨ s ≠ 0)) by omega)]
    rw [if_neg (show ¬ (o ≠ 12 ∧ o ≠ 20 ∧ ns.length ≠ 0) by omega), if_neg o1]
    rw [if_pos hid]
  rw [e]
  have q5 : (p != 0) = false := by simp [q4]
  generalize partsV o = lm at *
  obtain ⟨l, m⟩ := lm
  simp only at q1 q2 q3 hpa
  refine f40 rfl ?_
  have e1 : (o != 1) = true := by simpa using o1
  have e0 : (o == 1) = false := by simpa using o1
  have e2 : (k != 0) = false := by simp [hk]
  have e3 : (c != 0) = false := by simp [hc]
  have e4 : (s != 0) = false := by simp [hs0]
  have e5 : (o != 12) = true := by simpa using o12
  have e6 : (o != 20) = true := by simpa using o20
  have e7 : ((ns.length : Int) > 0) = False := eq_false (by omega)
  have hi := rident_ok t (by have : maxLen = 9223372036854775807 := by decide
                             omega)
  have i2 : (o == 2) = false := by simp [hk0]
  have i13 : (o == 13) = false := by simp [hk0]
  have i14 : (o == 14) = false := by simp [hk0]
  have i16 : (o == 16) = false := by simp [hk0]
  have i17 : (o == 17) = false := by simp [hk0]
  have i18 : (o == 18) = false := by simp [hk0]
  have i19 : (o == 19) = true := by simp [hk0]
  simp (maxSteps := 1000000) (disch := omega) only [go_sem, and_self, and_true, true_and, false_and, and_false, Nat.reduceAdd, Nat.reduceMul, Nat.reduceSub, Nat.reduceLeDiff, Nat.reduceLT, Nat.reduceGT, Nat.reduceEqDiff, Nat.reduceBEq, Int.reduceNeg, Int.reduceEq, Int.reduceLT, Int.reduceLE, Int.reduceBEq, Int.reduceToNat, Int.toNat_natCast, Int.natCast_zero, r40_T, r40, hpa, xencs_len, List.length_map, strD_neq, strD_eql, isE, q1, q2, q3, q5, e0, e1, e2, e3, e4, e5, e6, e7, hi, i2, i13, i14, i16, i17, i18, i19, decide_false]

set_option maxHeartbeats 4000000 in
theorem own_3 (o : Int) (t : ByteArray) (p k c s : Int) (ns : List ByteArray) (xs : List Xp) (h0 : Own0 o p xs.length) (o1 : o ≠ 1) (hk : k = 0) (hc : c = 0) (hs0 : s = 0) (o12 : o ≠ 12) (o20 : o ≠ 20) (hn : ns.length = 0) (hid : ¬ nmd o = true) (ht : t.size ≤ 2097152) (o3 : o = 3) : OwnIs o t p k c s ns xs := by
  intro hp
  have hpa := parts_ok o
  obtain ⟨q1, q2, q3, q4⟩ := h0
  have e : ownV o t p k c s ns xs.length = validB t := by
    rw [own_v0 ⟨q1, q2, q3, q4⟩]
    rw [if_neg (show ¬ (o ≠ 1 ∧ (k ≠ 0 ∨ c ≠ 0 ∨ s ≠ 0)) by omega)]
    rw [if_neg (show ¬ (o ≠ 12 ∧ o ≠ 20 ∧ ns.length ≠ 0) by omega), if_neg o1]
    rw [if_neg hid, if_pos o3]
  rw [e]
  have q5 : (p != 0) = false := by simp [q4]
  generalize partsV o = lm at *
  obtain ⟨l, m⟩ := lm
  simp only at q1 q2 q3 hpa
  refine f40 rfl ?_
  have e1 : (o != 1) = true := by simpa using o1
  have e0 : (o == 1) = false := by simpa using o1
  have e2 : (k != 0) = false := by simp [hk]
  have e3 : (c != 0) = false := by simp [hc]
  have e4 : (s != 0) = false := by simp [hs0]
  have e5 : (o != 12) = true := by simpa using o12
  have e6 : (o != 20) = true := by simpa using o20
  have e7 : ((ns.length : Int) > 0) = False := eq_false (by omega)
  have hcs : ¬ (o = 2 ∨ o = 13 ∨ o = 14 ∨ o = 16 ∨ o = 17 ∨ o = 18 ∨ o = 19) := by simpa [nmd] using hid
  have i2 : (o == 2) = false := by simp only [beq_eq_false_iff_ne, ne_eq]; omega
  have i13 : (o == 13) = false := by simp only [beq_eq_false_iff_ne, ne_eq]; omega
  have i14 : (o == 14) = false := by simp only [beq_eq_false_iff_ne, ne_eq]; omega
  have i16 : (o == 16) = false := by simp only [beq_eq_false_iff_ne, ne_eq]; omega
  have i17 : (o == 17) = false := by simp only [beq_eq_false_iff_ne, ne_eq]; omega
  have i18 : (o == 18) = false := by simp only [beq_eq_false_iff_ne, ne_eq]; omega
  have i19 : (o == 19) = false := by simp only [beq_eq_false_iff_ne, ne_eq]; omega
  have hv := rtext_ok t ht
  have e8 : (o == 3) = true := by simp [o3]
  simp (maxSteps := 1000000) (disch := omega) only [go_sem, and_self, and_true, true_and, false_and, and_false, Nat.reduceAdd, Nat.reduceMul, Nat.reduceSub, Nat.reduceLeDiff, Nat.reduceLT, Nat.reduceGT, Nat.reduceEqDiff, Nat.reduceBEq, Int.reduceNeg, Int.reduceEq, Int.reduceLT, Int.reduceLE, Int.reduceBEq, Int.reduceToNat, Int.toNat_natCast, Int.natCast_zero, r40_T, r40, hpa, xencs_len, List.length_map, strD_neq, strD_eql, isE, q1, q2, q3, q5, e0, e1, e2, e3, e4, e5, e6, e7, e8, i2, i13, i14, i16, i17, i18, i19, hv, decide_false]

set_option maxHeartbeats 4000000 in
theorem own_10 (o : Int) (t : ByteArray) (p k c s : Int) (ns : List ByteArray) (xs : List Xp) (h0 : Own0 o p xs.length) (o1 : o ≠ 1) (hk : k = 0) (hc : c = 0) (hs0 : s = 0) (o12 : o ≠ 12) (o20 : o ≠ 20) (hn : ns.length = 0) (hid : ¬ nmd o = true) (o3 : ¬ o = 3) (o10 : o = 10) : OwnIs o t p k c s ns xs := by
  intro hp
  have hpa := parts_ok o
  obtain ⟨q1, q2, q3, q4⟩ := h0
  have e : ownV o t p k c s ns xs.length = hasB signsL t := by
    rw [own_v0 ⟨q1, q2, q3, q4⟩]
    rw [if_neg (show ¬ (o ≠ 1 ∧ (k ≠ 0 ∨ c ≠ 0 ∨ s ≠ 0)) by omega)]
    rw [if_neg (show ¬ (o ≠ 12 ∧ o ≠ 20 ∧ ns.length ≠ 0) by omega), if_neg o1]
    rw [if_neg hid, if_neg o3, if_pos o10]
  rw [e]
  have q5 : (p != 0) = false := by simp [q4]
  generalize partsV o = lm at *
  obtain ⟨l, m⟩ := lm
  simp only at q1 q2 q3 hpa
  refine f40 rfl ?_
  have e1 : (o != 1) = true := by simpa using o1
  have e0 : (o == 1) = false := by simpa using o1
  have e2 : (k != 0) = false := by simp [hk]
  have e3 : (c != 0) = false := by simp [hc]
  have e4 : (s != 0) = false := by simp [hs0]
  have e5 : (o != 12) = true := by simpa using o12
  have e6 : (o != 20) = true := by simpa using o20
  have e7 : ((ns.length : Int) > 0) = False := eq_false (by omega)
  have hcs : ¬ (o = 2 ∨ o = 13 ∨ o = 14 ∨ o = 16 ∨ o = 17 ∨ o = 18 ∨ o = 19) := by simpa [nmd] using hid
  have i2 : (o == 2) = false := by simp only [beq_eq_false_iff_ne, ne_eq]; omega
  have i13 : (o == 13) = false := by simp only [beq_eq_false_iff_ne, ne_eq]; omega
  have i14 : (o == 14) = false := by simp only [beq_eq_false_iff_ne, ne_eq]; omega
  have i16 : (o == 16) = false := by simp only [beq_eq_false_iff_ne, ne_eq]; omega
  have i17 : (o == 17) = false := by simp only [beq_eq_false_iff_ne, ne_eq]; omega
  have i18 : (o == 18) = false := by simp only [beq_eq_false_iff_ne, ne_eq]; omega
  have i19 : (o == 19) = false := by simp only [beq_eq_false_iff_ne, ne_eq]; omega
  have hv := rsigns_ok
  have hh := has_ok signsL t (by decide)
  have e8 : (o == 3) = false := by simpa using o3
  have e9 : (o == 10) = true := by simp [o10]
  simp (maxSteps := 1000000) (disch := omega) only [go_sem, and_self, and_true, true_and, false_and, and_false, Nat.reduceAdd, Nat.reduceMul, Nat.reduceSub, Nat.reduceLeDiff, Nat.reduceLT, Nat.reduceGT, Nat.reduceEqDiff, Nat.reduceBEq, Int.reduceNeg, Int.reduceEq, Int.reduceLT, Int.reduceLE, Int.reduceBEq, Int.reduceToNat, Int.toNat_natCast, Int.natCast_zero, r40_T, r40, hpa, xencs_len, List.length_map, strD_neq, strD_eql, isE, q1, q2, q3, q5, e0, e1, e2, e3, e4, e5, e6, e7, e8, e9, i2, i13, i14, i16, i17, i18, i19, hv, hh, decide_false]

set_option maxHeartbeats 4000000 in
theorem own_else (o : Int) (t : ByteArray) (p k c s : Int) (ns : List ByteArray) (xs : List Xp) (h0 : Own0 o p xs.length) (o1 : o ≠ 1) (hk : k = 0) (hc : c = 0) (hs0 : s = 0) (o12 : o ≠ 12) (o20 : o ≠ 20) (hn : ns.length = 0) (hid : ¬ nmd o = true) (o3 : ¬ o = 3) (o10 : ¬ o = 10) : OwnIs o t p k c s ns xs := by
  intro hp
  have hpa := parts_ok o
  obtain ⟨q1, q2, q3, q4⟩ := h0
  have e : ownV o t p k c s ns xs.length = !decide (t.size ≠ 0) := by
    rw [own_v0 ⟨q1, q2, q3, q4⟩]
    rw [if_neg (show ¬ (o ≠ 1 ∧ (k ≠ 0 ∨ c ≠ 0 ∨ s ≠ 0)) by omega)]
    rw [if_neg (show ¬ (o ≠ 12 ∧ o ≠ 20 ∧ ns.length ≠ 0) by omega), if_neg o1]
    rw [if_neg hid, if_neg o3, if_neg o10, if_neg (fun h => o12 h.1), if_neg (fun h => o20 h.1)]
  rw [e]
  have q5 : (p != 0) = false := by simp [q4]
  generalize partsV o = lm at *
  obtain ⟨l, m⟩ := lm
  simp only at q1 q2 q3 hpa
  refine f40 rfl ?_
  have e1 : (o != 1) = true := by simpa using o1
  have e0 : (o == 1) = false := by simpa using o1
  have e2 : (k != 0) = false := by simp [hk]
  have e3 : (c != 0) = false := by simp [hc]
  have e4 : (s != 0) = false := by simp [hs0]
  have e5 : (o != 12) = true := by simpa using o12
  have e6 : (o != 20) = true := by simpa using o20
  have e7 : ((ns.length : Int) > 0) = False := eq_false (by omega)
  have hcs : ¬ (o = 2 ∨ o = 13 ∨ o = 14 ∨ o = 16 ∨ o = 17 ∨ o = 18 ∨ o = 19) := by simpa [nmd] using hid
  have i2 : (o == 2) = false := by simp only [beq_eq_false_iff_ne, ne_eq]; omega
  have i13 : (o == 13) = false := by simp only [beq_eq_false_iff_ne, ne_eq]; omega
  have i14 : (o == 14) = false := by simp only [beq_eq_false_iff_ne, ne_eq]; omega
  have i16 : (o == 16) = false := by simp only [beq_eq_false_iff_ne, ne_eq]; omega
  have i17 : (o == 17) = false := by simp only [beq_eq_false_iff_ne, ne_eq]; omega
  have i18 : (o == 18) = false := by simp only [beq_eq_false_iff_ne, ne_eq]; omega
  have i19 : (o == 19) = false := by simp only [beq_eq_false_iff_ne, ne_eq]; omega
  have e8 : (o == 3) = false := by simpa using o3
  have e9 : (o == 10) = false := by simpa using o10
  have e10 : (o == 12) = false := by simpa using o12
  have e11 : (o == 20) = false := by simpa using o20
  simp (maxSteps := 1000000) (disch := omega) only [go_sem, and_self, and_true, true_and, false_and, and_false, Nat.reduceAdd, Nat.reduceMul, Nat.reduceSub, Nat.reduceLeDiff, Nat.reduceLT, Nat.reduceGT, Nat.reduceEqDiff, Nat.reduceBEq, Int.reduceNeg, Int.reduceEq, Int.reduceLT, Int.reduceLE, Int.reduceBEq, Int.reduceToNat, Int.toNat_natCast, Int.natCast_zero, r40_T, r40, hpa, xencs_len, List.length_map, strD_neq, strD_eql, isE, q1, q2, q3, q5, e0, e1, e2, e3, e4, e5, e6, e7, e8, e9, e10, e11, i2, i13, i14, i16, i17, i18, i19, decide_false]

end Go.Pe.T

namespace Go.Pe.T

def own_c1 : RCode := r40_K0 ()
theorem own_hK {s : St} : V (F tab) (hold r40_K0) s = V (F tab) own_c1 s := rfl
def own_c7 : RCode := r40_K7 ()
theorem own_hK7 {s : St} : V (F tab) (hold r40_K7) s = V (F tab) own_c7 s := rfl
def C1Is (o : Int) (t : ByteArray) (p k c s : Int) (ns : List ByteArray) (xs : List Xp) (v : Bool) : Prop := ∀ (a0 a3 a4 a5 a6 a7 a8 a9 a10 a11 a12 a13 a14 a15 a16 a17 a18 a19 a20 a21 a22 a23 a24 a25 a26 a27 a28 a29 a30 a31 a32 a33 a34 a35 a36 a37 a38 a39 a40 a41 a42 a43 a44 a45 a46 a47 a48 a49 a50 a51 a52 a53 a54 a55 a56 a57 a58 a59 a60 a61 a62 a63 a64 a65 a66 a67 a68 a69 a70 a114 a115 a116 a117 a118 a119 a120 a121 a122 a123 a124 a125 a126 a127 a128 a129 a130 a131 a132 a133 a134 a135 a136 a137 a138 a139 a140 a141 a142 a143 a144 a145 a146 a147 a148 a149 a150 a151 a152 a153 a154 a155 a156 a157 a158 a159 a160 a161 a162 a163 a164 a165 a166 a167 a168 a169 a170 a171 a172 a173 a174 a175 a176 a177 a178 a179 a180 a181 a182 a183 a184 a185 a186 a187 a188 a189 a190 a191 a192 a193 a194 a195 a196 a197 a198 a199 a200 a201 : PV), V (F tab) own_c1 ⟨[a0, (.ibox [.d (iv o), .d (.str t), .d (iv p), .d (iv k), .d (iv c), .d (iv s), .d (.sl (ns.map .str)), .d (.sl (Xp.encs xs))]), .d (.bool false), a3, a4, a5, a6, a7, a8, a9, a10, a11, a12, a13, a14, a15, a16, a17, a18, a19, a20, a21, a22, a23, a24, a25, a26, a27, a28, a29, a30, a31, a32, a33, a34, a35, a36, a37, a38, a39, a40, a41, a42, a43, a44, a45, a46, a47, a48, a49, a50, a51, a52, a53, a54, a55, a56, a57, a58, a59, a60, a61, a62, a63, a64, a65, a66, a67, a68, a69, a70, .dead, .dead, .dead, .dead, .dead, .dead, .dead, .dead, .dead, .dead, .dead, .dead, .dead, .dead, .dead, .dead, .dead, .dead, .dead, .dead, .dead, .dead, .dead, .dead, .dead, .dead, .dead, .dead, .dead, .dead, .dead, .dead, .dead, .dead, .dead, .dead, .dead, .dead, .dead, .dead, .dead, .dead, .dead, a114, a115, a116, a117, a118, a119, a120, a121, a122, a123, a124, a125, a126, a127, a128, a129, a130, a131, a132, a133, a134, a135, a136, a137, a138, a139, a140, a141, a142, a143, a144, a145, a146, a147, a148, a149, a150, a151, a152, a153, a154, a155, a156, a157, a158, a159, a160, a161, a162, a163, a164, a165, a166, a167, a168, a169, a170, a171, a172, a173, a174, a175, a176, a177, a178, a179, a180, a181, a182, a183, a184, a185, a186, a187, a188, a189, a190, a191, a192, a193, a194, a195, a196, a197, a198, a199, a200, a201], []⟩ = some (.ret, r40_R (.d (.bool v)) [])
set_option maxHeartbeats 4000000 in
theorem c1_a (o : Int) (t : ByteArray) (p k c s : Int) (ns : List ByteArray) (xs : List Xp) (k0 : k < 0) : C1Is o t p k c s ns xs false := by
  intro a0 a3 a4 a5 a6 a7 a8 a9 a10 a11 a12 a13 a14 a15 a16 a17 a18 a19 a20 a21 a22 a23 a24 a25 a26 a27 a28 a29 a30 a31 a32 a33 a34 a35 a36 a37 a38 a39 a40 a41 a42 a43 a44 a45 a46 a47 a48 a49 a50 a51 a52 a53 a54 a55 a56 a57 a58 a59 a60 a61 a62 a63 a64 a65 a66 a67 a68 a69 a70 a114 a115 a116 a117 a118 a119 a120 a121 a122 a123 a124 a125 a126 a127 a128 a129 a130 a131 a132 a133 a134 a135 a136 a137 a138 a139 a140 a141 a142 a143 a144 a145 a146 a147 a148 a149 a150 a151 a152 a153 a154 a155 a156 a157 a158 a159 a160 a161 a162 a163 a164 a165 a166 a167 a168 a169 a170 a171 a172 a173 a174 a175 a176 a177 a178 a179 a180 a181 a182 a183 a184 a185 a186 a187 a188 a189 a190 a191 a192 a193 a194 a195 a196 a197 a198 a199 a200 a201
  simp (maxSteps := 1000000) (disch := omega) only [go_sem, and_self, and_true, true_and, false_and, and_false, Nat.reduceAdd, Nat.reduceMul, Nat.reduceSub, Nat.reduceLeDiff, Nat.reduceLT, Nat.reduceGT, Nat.reduceEqDiff, Nat.reduceBEq, Int.reduceNeg, Int.reduceEq, Int.reduceLT, Int.reduceLE, Int.reduceBEq, Int.reduceToNat, Int.toNat_natCast, Int.natCast_zero, own_c1, r40_K0, k0, decide_true, decide_false]

set_option maxHeartbeats 4000000 in
theorem c1_b (o : Int) (t : ByteArray) (p k c s : Int) (ns : List ByteArray) (xs : List Xp) (k0 : ¬ k < 0) (k4 : k > 4) : C1Is o t p k c s ns xs false := by
  intro a0 a3 a4 a5 a6 a7 a8 a9 a10 a11 a12 a13 a14 a15 a16 a17 a18 a19 a20 a21 a22 a23 a24 a25 a26 a27 a28 a29 a30 a31 a32 a33 a34 a35 a36 a37 a38 a39 a40 a41 a42 a43 a44 a45 a46 a47 a48 a49 a50 a51 a52 a53 a54 a55 a56 a57 a58 a59 a60 a61 a62 a63 a64 a65 a66 a67 a68 a69 a70 a114 a115 a116 a117 a118 a119 a120 a121 a122 a123 a124 a125 a126 a127 a128 a129 a130 a131 a132 a133 a134 a135 a136 a137 a138 a139 a140 a141 a142 a143 a144 a145 a146 a147 a148 a149 a150 a151 a152 a153 a154 a155 a156 a157 a158 a159 a160 a161 a162 a163 a164 a165 a166 a167 a168 a169 a170 a171 a172 a173 a174 a175 a176 a177 a178 a179 a180 a181 a182 a183 a184 a185 a186 a187 a188 a189 a190 a191 a192 a193 a194 a195 a196 a197 a198 a199 a200 a201
  simp (maxSteps := 1000000) (disch := omega) only [go_sem, and_self, and_true, true_and, false_and, and_false, Nat.reduceAdd, Nat.reduceMul, Nat.reduceSub, Nat.reduceLeDiff, Nat.reduceLT, Nat.reduceGT, Nat.reduceEqDiff, Nat.reduceBEq, Int.reduceNeg, Int.reduceEq, Int.reduceLT, Int.reduceLE, Int.reduceBEq, Int.reduceToNat, Int.toNat_natCast, Int.natCast_zero, own_c1, r40_K0, k0, k4, decide_true, decide_false]

set_option maxHeartbeats 4000000 in
theorem c1_c (o : Int) (t : ByteArray) (p k c s : Int) (ns : List ByteArray) (xs : List Xp) (k0 : ¬ k < 0) (k4 : ¬ k > 4) (k3 : k ≠ 3) (hc : c ≠ 0) : C1Is o t p k c s ns xs false := by
  intro a0 a3 a4 a5 a6 a7 a8 a9 a10 a11 a12 a13 a14 a15 a16 a17 a18 a19 a20 a21 a22 a23 a24 a25 a26 a27 a28 a29 a30 a31 a32 a33 a34 a35 a36 a37 a38 a39 a40 a41 a42 a43 a44 a45 a46 a47 a48 a49 a50 a51 a52 a53 a54 a55 a56 a57 a58 a59 a60 a61 a62 a63 a64 a65 a66 a67 a68 a69 a70 a114 a115 a116 a117 a118 a119 a120 a121 a122 a123 a124 a125 a126 a127 a128 a129 a130 a131 a132 a133 a134 a135 a136 a137 a138 a139 a140 a141 a142 a143 a144 a145 a146 a147 a148 a149 a150 a151 a152 a153 a154 a155 a156 a157 a158 a159 a160 a161 a162 a163 a164 a165 a166 a167 a168 a169 a170 a171 a172 a173 a174 a175 a176 a177 a178 a179 a180 a181 a182 a183 a184 a185 a186 a187 a188 a189 a190 a191 a192 a193 a194 a195 a196 a197 a198 a199 a200 a201
  have y1 : (k != 3) = true := by simpa using k3
  have y2 : (c != 0) = true := by simpa using hc
  simp (maxSteps := 1000000) (disch := omega) only [go_sem, and_self, and_true, true_and, false_and, and_false, Nat.reduceAdd, Nat.reduceMul, Nat.reduceSub, Nat.reduceLeDiff, Nat.reduceLT, Nat.reduceGT, Nat.reduceEqDiff, Nat.reduceBEq, Int.reduceNeg, Int.reduceEq, Int.reduceLT, Int.reduceLE, Int.reduceBEq, Int.reduceToNat, Int.toNat_natCast, Int.natCast_zero, own_c1, r40_K0, k0, k4, y1, y2, decide_true, decide_false]

set_option maxHeartbeats 4000000 in
theorem c1_d (o : Int) (t : ByteArray) (p k c s : Int) (ns : List ByteArray) (xs : List Xp) (k0 : ¬ k < 0) (k4 : ¬ k > 4) (k3 : k ≠ 3) (hc : c = 0) (hs0 : s ≠ 0) : C1Is o t p k c s ns xs false := by
  intro a0 a3 a4 a5 a6 a7 a8 a9 a10 a11 a12 a13 a14 a15 a16 a17 a18 a19 a20 a21 a22 a23 a24 a25 a26 a27 a28 a29 a30 a31 a32 a33 a34 a35 a36 a37 a38 a39 a40 a41 a42 a43 a44 a45 a46 a47 a48 a49 a50 a51 a52 a53 a54 a55 a56 a57 a58 a59 a60 a61 a62 a63 a64 a65 a66 a67 a68 a69 a70 a114 a115 a116 a117 a118 a119 a120 a121 a122 a123 a124 a125 a126 a127 a128 a129 a130 a131 a132 a133 a134 a135 a136 a137 a138 a139 a140 a141 a142 a143 a144 a145 a146 a147 a148 a149 a150 a151 a152 a153 a154 a155 a156 a157 a158 a159 a160 a161 a162 a163 a164 a165 a166 a167 a168 a169 a170 a171 a172 a173 a174 a175 a176 a177 a178 a179 a180 a181 a182 a183 a184 a185 a186 a187 a188 a189 a190 a191 a192 a193 a194 a195 a196 a197 a198 a199 a200 a201
  have y1 : (k != 3) = true := by simpa using k3
  have y2 : (c != 0) = false := by simp [hc]
  have y3 : (s != 0) = true := by simpa using hs0
  simp (maxSteps := 1000000) (disch := omega) only [go_sem, and_self, and_true, true_and, false_and, and_false, Nat.reduceAdd, Nat.reduceMul, Nat.reduceSub, Nat.reduceLeDiff, Nat.reduceLT, Nat.reduceGT, Nat.reduceEqDiff, Nat.reduceBEq, Int.reduceNeg, Int.reduceEq, Int.reduceLT, Int.reduceLE, Int.reduceBEq, Int.reduceToNat, Int.toNat_natCast, Int.natCast_zero, own_c1, r40_K0, k0, k4, y1, y2, y3, decide_true, decide_false]

set_option maxHeartbeats 4000000 in
theorem c1_e1 (o : Int) (t : ByteArray) (p k c s : Int) (ns : List ByteArray) (xs : List Xp) (k0 : ¬ k < 0) (k4 : ¬ k > 4) (k3 : k = 3) (k4n : k ≠ 4) (ht : t.size ≠ 0) : C1Is o t p k c s ns xs false := by
  intro a0 a3 a4 a5 a6 a7 a8 a9 a10 a11 a12 a13 a14 a15 a16 a17 a18 a19 a20 a21 a22 a23 a24 a25 a26 a27 a28 a29 a30 a31 a32 a33 a34 a35 a36 a37 a38 a39 a40 a41 a42 a43 a44 a45 a46 a47 a48 a49 a50 a51 a52 a53 a54 a55 a56 a57 a58 a59 a60 a61 a62 a63 a64 a65 a66 a67 a68 a69 a70 a114 a115 a116 a117 a118 a119 a120 a121 a122 a123 a124 a125 a126 a127 a128 a129 a130 a131 a132 a133 a134 a135 a136 a137 a138 a139 a140 a141 a142 a143 a144 a145 a146 a147 a148 a149 a150 a151 a152 a153 a154 a155 a156 a157 a158 a159 a160 a161 a162 a163 a164 a165 a166 a167 a168 a169 a170 a171 a172 a173 a174 a175 a176 a177 a178 a179 a180 a181 a182 a183 a184 a185 a186 a187 a188 a189 a190 a191 a192 a193 a194 a195 a196 a197 a198 a199 a200 a201
  have y1 : (k != 3) = false := by simp [k3]
  have y4 : (k != 4) = true := by simpa using k4n
  have y5 : decide (t.size ≠ 0) = true := decide_eq_true ht
  simp (maxSteps := 1000000) (disch := omega) only [go_sem, and_self, and_true, true_and, false_and, and_false, Nat.reduceAdd, Nat.reduceMul, Nat.reduceSub, Nat.reduceLeDiff, Nat.reduceLT, Nat.reduceGT, Nat.reduceEqDiff, Nat.reduceBEq, Int.reduceNeg, Int.reduceEq, Int.reduceLT, Int.reduceLE, Int.reduceBEq, Int.reduceToNat, Int.toNat_natCast, Int.natCast_zero, own_c1, r40_K0, k0, k4, y1, y4, y5, strD_neq, isE, Bool.not_true, Bool.not_false, decide_true, decide_false]

set_option maxHeartbeats 4000000 in
theorem c1_e2 (o : Int) (t : ByteArray) (p k c s : Int) (ns : List ByteArray) (xs : List Xp) (k0 : ¬ k < 0) (k4 : ¬ k > 4) (k3 : k = 3) (k4n : k ≠ 4) (ht : t.size = 0) (hts : t.size ≤ 2097152) : C1Is o t p k c s ns xs (numIs c s && validB t) := by
  intro a0 a3 a4 a5 a6 a7 a8 a9 a10 a11 a12 a13 a14 a15 a16 a17 a18 a19 a20 a21 a22 a23 a24 a25 a26 a27 a28 a29 a30 a31 a32 a33 a34 a35 a36 a37 a38 a39 a40 a41 a42 a43 a44 a45 a46 a47 a48 a49 a50 a51 a52 a53 a54 a55 a56 a57 a58 a59 a60 a61 a62 a63 a64 a65 a66 a67 a68 a69 a70 a114 a115 a116 a117 a118 a119 a120 a121 a122 a123 a124 a125 a126 a127 a128 a129 a130 a131 a132 a133 a134 a135 a136 a137 a138 a139 a140 a141 a142 a143 a144 a145 a146 a147 a148 a149 a150 a151 a152 a153 a154 a155 a156 a157 a158 a159 a160 a161 a162 a163 a164 a165 a166 a167 a168 a169 a170 a171 a172 a173 a174 a175 a176 a177 a178 a179 a180 a181 a182 a183 a184 a185 a186 a187 a188 a189 a190 a191 a192 a193 a194 a195 a196 a197 a198 a199 a200 a201
  have y1 : (k != 3) = false := by simp [k3]
  have y4 : (k != 4) = true := by simpa using k4n
  have y5 : decide (t.size ≠ 0) = false := decide_eq_false (by omega)
  have hn4 := num4Is_ok c s
  have hv := rtext_ok t hts
  rcases Bool.eq_false_or_eq_true (numIs c s) with g | g <;>
  simp (maxSteps := 1000000) (disch := omega) only [go_sem, and_self, and_true, true_and, false_and, and_false, Nat.reduceAdd, Nat.reduceMul, Nat.reduceSub, Nat.reduceLeDiff, Nat.reduceLT, Nat.reduceGT, Nat.reduceEqDiff, Nat.reduceBEq, Int.reduceNeg, Int.reduceEq, Int.reduceLT, Int.reduceLE, Int.reduceBEq, Int.reduceToNat, Int.toNat_natCast, Int.natCast_zero, own_c1, r40_K0, k0, k4, y1, y4, y5, strD_neq, isE, hn4, hv, g, Bool.not_true, Bool.not_false, Bool.true_and, Bool.false_and, decide_true, decide_false]

set_option maxHeartbeats 4000000 in
theorem c1_f1 (o : Int) (t : ByteArray) (p k c s : Int) (ns : List ByteArray) (xs : List Xp) (k0 : ¬ k < 0) (k4 : ¬ k > 4) (k3 : k ≠ 3) (hc : c = 0) (hs0 : s = 0) (k4n : k ≠ 4) (ht : t.size ≠ 0) : C1Is o t p k c s ns xs false := by
  intro a0 a3 a4 a5 a6 a7 a8 a9 a10 a11 a12 a13 a14 a15 a16 a17 a18 a19 a20 a21 a22 a23 a24 a25 a26 a27 a28 a29 a30 a31 a32 a33 a34 a35 a36 a37 a38 a39 a40 a41 a42 a43 a44 a45 a46 a47 a48 a49 a50 a51 a52 a53 a54 a55 a56 a57 a58 a59 a60 a61 a62 a63 a64 a65 a66 a67 a68 a69 a70 a114 a115 a116 a117 a118 a119 a120 a121 a122 a123 a124 a125 a126 a127 a128 a129 a130 a131 a132 a133 a134 a135 a136 a137 a138 a139 a140 a141 a142 a143 a144 a145 a146 a147 a148 a149 a150 a151 a152 a153 a154 a155 a156 a157 a158 a159 a160 a161 a162 a163 a164 a165 a166 a167 a168 a169 a170 a171 a172 a173 a174 a175 a176 a177 a178 a179 a180 a181 a182 a183 a184 a185 a186 a187 a188 a189 a190 a191 a192 a193 a194 a195 a196 a197 a198 a199 a200 a201
  have y1 : (k != 3) = true := by simpa using k3
  have y2 : (c != 0) = false := by simp [hc]
  have y3 : (s != 0) = false := by simp [hs0]
  have y4 : (k != 4) = true := by simpa using k4n
  have y5 : decide (t.size ≠ 0) = true := decide_eq_true ht
  simp (maxSteps := 1000000) (disch := omega) only [go_sem, and_self, and_true, true_and, false_and, and_false, Nat.reduceAdd, Nat.reduceMul, Nat.reduceSub, Nat.reduceLeDiff, Nat.reduceLT, Nat.reduceGT, Nat.reduceEqDiff, Nat.reduceBEq, Int.reduceNeg, Int.reduceEq, Int.reduceLT, Int.reduceLE, Int.reduceBEq, Int.reduceToNat, Int.toNat_natCast, Int.natCast_zero, own_c1, r40_K0, k0, k4, y1, y2, y3, y4, y5, strD_neq, isE, Bool.not_true, Bool.not_false, decide_true, decide_false]

set_option maxHeartbeats 4000000 in
theorem c1_f2 (o : Int) (t : ByteArray) (p k c s : Int) (ns : List ByteArray) (xs : List Xp) (k0 : ¬ k < 0) (k4 : ¬ k > 4) (k3 : k ≠ 3) (hc : c = 0) (hs0 : s = 0) (k4n : k ≠ 4) (ht : t.size = 0) (hts : t.size ≤ 2097152) : C1Is o t p k c s ns xs (numIs c s && validB t) := by
  intro a0 a3 a4 a5 a6 a7 a8 a9 a10 a11 a12 a13 a14 a15 a16 a17 a18 a19 a20 a21 a22 a23 a24 a25 a26 a27 a28 a29 a30 a31 a32 a33 a34 a35 a36 a37 a38 a39 a40 a41 a42 a43 a44 a45 a46 a47 a48 a49 a50 a51 a52 a53 a54 a55 a56 a57 a58 a59 a60 a61 a62 a63 a64 a65 a66 a67 a68 a69 a70 a114 a115 a116 a117 a118 a119 a120 a121 a122 a123 a124 a125 a126 a127 a128 a129 a130 a131 a132 a133 a134 a135 a136 a137 a138 a139 a140 a141 a142 a143 a144 a145 a146 a147 a148 a149 a150 a151 a152 a153 a154 a155 a156 a157 a158 a159 a160 a161 a162 a163 a164 a165 a166 a167 a168 a169 a170 a171 a172 a173 a174 a175 a176 a177 a178 a179 a180 a181 a182 a183 a184 a185 a186 a187 a188 a189 a190 a191 a192 a193 a194 a195 a196 a197 a198 a199 a200 a201
  have y1 : (k != 3) = true := by simpa using k3
  have y2 : (c != 0) = false := by simp [hc]
  have y3 : (s != 0) = false := by simp [hs0]
  have y4 : (k != 4) = true := by simpa using k4n
  have y5 : decide (t.size ≠ 0) = false := decide_eq_false (by omega)
  have hn4 := num4Is_ok c s
  have hv := rtext_ok t hts
  rcases Bool.eq_false_or_eq_true (numIs c s) with g | g <;>
  simp (maxSteps := 1000000) (disch := omega) only [go_sem, and_self, and_true, true_and, false_and, and_false, Nat.reduceAdd, Nat.reduceMul, Nat.reduceSub, Nat.reduceLeDiff, Nat.reduceLT, Nat.reduceGT, Nat.reduceEqDiff, Nat.reduceBEq, Int.reduceNeg, Int.reduceEq, Int.reduceLT, Int.reduceLE, Int.reduceBEq, Int.reduceToNat, Int.toNat_natCast, Int.natCast_zero, own_c1, r40_K0, k0, k4, y1, y2, y3, y4, y5, strD_neq, isE, hn4, hv, g, Bool.not_true, Bool.not_false, Bool.true_and, Bool.false_and, decide_true, decide_false]

set_option maxHeartbeats 4000000 in
theorem c1_f3 (o : Int) (t : ByteArray) (p k c s : Int) (ns : List ByteArray) (xs : List Xp) (k0 : ¬ k < 0) (k4 : ¬ k > 4) (k3 : k ≠ 3) (hc : c = 0) (hs0 : s = 0) (k4n : k = 4) (hts : t.size ≤ 2097152) : C1Is o t p k c s ns xs (numIs c s && validB t) := by
  intro a0 a3 a4 a5 a6 a7 a8 a9 a10 a11 a12 a13 a14 a15 a16 a17 a18 a19 a20 a21 a22 a23 a24 a25 a26 a27 a28 a29 a30 a31 a32 a33 a34 a35 a36 a37 a38 a39 a40 a41 a42 a43 a44 a45 a46 a47 a48 a49 a50 a51 a52 a53 a54 a55 a56 a57 a58 a59 a60 a61 a62 a63 a64 a65 a66 a67 a68 a69 a70 a114 a115 a116 a117 a118 a119 a120 a121 a122 a123 a124 a125 a126 a127 a128 a129 a130 a131 a132 a133 a134 a135 a136 a137 a138 a139 a140 a141 a142 a143 a144 a145 a146 a147 a148 a149 a150 a151 a152 a153 a154 a155 a156 a157 a158 a159 a160 a161 a162 a163 a164 a165 a166 a167 a168 a169 a170 a171 a172 a173 a174 a175 a176 a177 a178 a179 a180 a181 a182 a183 a184 a185 a186 a187 a188 a189 a190 a191 a192 a193 a194 a195 a196 a197 a198 a199 a200 a201
  have y1 : (k != 3) = true := by simpa using k3
  have y2 : (c != 0) = false := by simp [hc]
  have y3 : (s != 0) = false := by simp [hs0]
  have y4 : (k != 4) = false := by simp [k4n]
  have hn4 := num4Is_ok c s
  have hv := rtext_ok t hts
  rcases Bool.eq_false_or_eq_true (numIs c s) with g | g <;>
  simp (maxSteps := 1000000) (disch := omega) only [go_sem, and_self, and_true, true_and, false_and, and_false, Nat.reduceAdd, Nat.reduceMul, Nat.reduceSub, Nat.reduceLeDiff, Nat.reduceLT, Nat.reduceGT, Nat.reduceEqDiff, Nat.reduceBEq, Int.reduceNeg, Int.reduceEq, Int.reduceLT, Int.reduceLE, Int.reduceBEq, Int.reduceToNat, Int.toNat_natCast, Int.natCast_zero, own_c1, r40_K0, k0, k4, y1, y2, y3, y4, strD_neq, isE, hn4, hv, g, Bool.not_true, Bool.not_false, Bool.true_and, Bool.false_and, decide_true, decide_false]

set_option maxHeartbeats 4000000 in
theorem own_1 (o : Int) (t : ByteArray) (p k c s : Int) (ns : List ByteArray) (xs : List Xp) (h0 : Own0 o p xs.length) (o1 : o = 1) (hn : ns.length = 0) (hC : C1Is o t p k c s ns xs (litR t k c s)) : OwnIs o t p k c s ns xs := by
  intro hp
  have hpa := parts_ok o
  obtain ⟨q1, q2, q3, q4⟩ := h0
  have e : ownV o t p k c s ns xs.length = litR t k c s := by
    rw [own_v0 ⟨q1, q2, q3, q4⟩]
    rw [if_neg (show ¬ (o ≠ 1 ∧ (k ≠ 0 ∨ c ≠ 0 ∨ s ≠ 0)) by omega)]
    rw [if_neg (show ¬ (o ≠ 12 ∧ o ≠ 20 ∧ ns.length ≠ 0) by omega), if_pos o1]
  rw [e]
  have q5 : (p != 0) = false := by simp [q4]
  generalize litR t k c s = v at *
  generalize partsV o = lm at *
  obtain ⟨l, m⟩ := lm
  simp only at q1 q2 q3 hpa
  refine f40 rfl ?_
  have e1 : (o != 1) = false := by simp [o1]
  have e0 : (o == 1) = true := by simp [o1]
  have e5 : (o != 12) = true := by simp [o1]
  have e6 : (o != 20) = true := by simp [o1]
  have e7 : ((ns.length : Int) > 0) = False := eq_false (by omega)
  simp (maxSteps := 2000000) (disch := omega) only [go_sem, and_self, and_true, true_and, false_and, and_false, Nat.reduceAdd, Nat.reduceMul, Nat.reduceSub, Nat.reduceLeDiff, Nat.reduceLT, Nat.reduceGT, Nat.reduceEqDiff, Nat.reduceBEq, Int.reduceNeg, Int.reduceEq, Int.reduceLT, Int.reduceLE, Int.reduceBEq, Int.reduceToNat, Int.toNat_natCast, Int.natCast_zero, r40_T, r40, ↓own_hK7, hpa, xencs_len, List.length_map, q1, q2, q3, q5, e0, e1, e5, e6, e7, decide_true, decide_false]
  simp only [own_c7, r40_K7, V_cond, St.x, List.getD_cons_succ, List.getD_cons_zero, getD8, condK_true, ↓own_hK]
  unfold C1Is at hC
  erw [hC]
  simp (disch := omega) only [go_sem, and_self, and_true, true_and, false_and, and_false, Nat.reduceAdd, Nat.reduceMul, Nat.reduceSub, Nat.reduceLeDiff, Nat.reduceLT, Nat.reduceGT, Nat.reduceEqDiff, Nat.reduceBEq, Int.reduceNeg, Int.reduceEq, Int.reduceLT, Int.reduceLE, Int.reduceBEq, Int.reduceToNat, Int.toNat_natCast, Int.natCast_zero]

set_option maxHeartbeats 4000000 in
theorem own_1n (o : Int) (t : ByteArray) (p k c s : Int) (ns : List ByteArray) (xs : List Xp) (h0 : Own0 o p xs.length) (o1 : o = 1) (hn : ns.length ≠ 0) : OwnIs o t p k c s ns xs := by
  intro hp
  have hpa := parts_ok o
  obtain ⟨q1, q2, q3, q4⟩ := h0
  have e : ownV o t p k c s ns xs.length = false := by
    rw [own_v0 ⟨q1, q2, q3, q4⟩]
    rw [if_neg (show ¬ (o ≠ 1 ∧ (k ≠ 0 ∨ c ≠ 0 ∨ s ≠ 0)) by omega)]
    rw [if_pos (show o ≠ 12 ∧ o ≠ 20 ∧ ns.length ≠ 0 by omega)]
  rw [e]
  have q5 : (p != 0) = false := by simp [q4]
  generalize partsV o = lm at *
  obtain ⟨l, m⟩ := lm
  simp only at q1 q2 q3 hpa
  refine f40 rfl ?_
  have e1 : (o != 1) = false := by simp [o1]
  have e0 : (o == 1) = true := by simp [o1]
  have e5 : (o != 12) = true := by simp [o1]
  have e6 : (o != 20) = true := by simp [o1]
  have e7 : ((ns.length : Int) > 0) = True := eq_true (by omega)
  simp (maxSteps := 2000000) (disch := omega) only [go_sem, and_self, and_true, true_and, false_and, and_false, Nat.reduceAdd, Nat.reduceMul, Nat.reduceSub, Nat.reduceLeDiff, Nat.reduceLT, Nat.reduceGT, Nat.reduceEqDiff, Nat.reduceBEq, Int.reduceNeg, Int.reduceEq, Int.reduceLT, Int.reduceLE, Int.reduceBEq, Int.reduceToNat, Int.toNat_natCast, Int.natCast_zero, r40_T, r40, ↓own_hK, hpa, xencs_len, List.length_map, q1, q2, q3, q5, e0, e1, e5, e6, e7, decide_true, decide_false]
end Go.Pe.T

namespace Go.Pe.T

set_option maxHeartbeats 4000000 in
theorem own_12a (o : Int) (t : ByteArray) (p k c s : Int) (ns : List ByteArray) (xs : List Xp) (h0 : Own0 o p xs.length) (hk : k = 0) (hc : c = 0) (hs0 : s = 0) (ov : o = 12) (hne : (ns.length : Int) ≠ (xs.length : Int)) : OwnIs o t p k c s ns xs := by
  intro hp
  have hpa := parts_ok o
  obtain ⟨q1, q2, q3, q4⟩ := h0
  have e : ownV o t p k c s ns xs.length = false := by
    rw [own_v0 ⟨q1, q2, q3, q4⟩]
    rw [if_neg (show ¬ (o ≠ 1 ∧ (k ≠ 0 ∨ c ≠ 0 ∨ s ≠ 0)) by omega), if_neg (show ¬ (o ≠ 12 ∧ o ≠ 20 ∧ ns.length ≠ 0) by omega), if_neg (show ¬ o = 1 by omega), if_neg (show ¬ nmd o = true by simp [nmd, ov]), if_neg (show ¬ o = 3 by omega), if_neg (show ¬ o = 10 by omega)]
    rw [if_pos ⟨ov, .inl hne⟩]
  rw [e]
  have q5 : (p != 0) = false := by simp [q4]
  generalize partsV o = lm at *
  obtain ⟨l, m⟩ := lm
  simp only at q1 q2 q3 hpa
  refine f40 rfl ?_
  have e2 : (k != 0) = false := by simp [hk]
  have e3 : (c != 0) = false := by simp [hc]
  have e4 : (s != 0) = false := by simp [hs0]
  have i1 : (o == 1) = false := by simp [ov]
  have i2 : (o == 2) = false := by simp [ov]
  have i13 : (o == 13) = false := by simp [ov]
  have i14 : (o == 14) = false := by simp [ov]
  have i16 : (o == 16) = false := by simp [ov]
  have i17 : (o == 17) = false := by simp [ov]
  have i18 : (o == 18) = false := by simp [ov]
  have i19 : (o == 19) = false := by simp [ov]
  have i3 : (o == 3) = false := by simp [ov]
  have i10 : (o == 10) = false := by simp [ov]
  have i12 : (o == 12) = true := by simp [ov]
  have j1 : (o != 1) = true := by simp [ov]
  have j2 : (o != 12) = false := by simp [ov]
  have y1 : ((ns.length : Int) != (xs.length : Int)) = true := by simpa using hne
  simp (maxSteps := 20000000) (disch := omega) only [go_sem, and_self, and_true, true_and, false_and, and_false, Nat.reduceAdd, Nat.reduceMul, Nat.reduceSub, Nat.reduceLeDiff, Nat.reduceLT, Nat.reduceGT, Nat.reduceEqDiff, Nat.reduceBEq, Int.reduceNeg, Int.reduceEq, Int.reduceLT, Int.reduceLE, Int.reduceBEq, Int.reduceToNat, Int.toNat_natCast, Int.natCast_zero, r40_T, r40, hpa, xencs_len, List.length_map, strD_neq, strD_eql, isE, q1, q2, q3, q5, i1, i2, i13, i14, i16, i17, i18, i19, i3, i10, i12, j1, e2, e3, e4, j2, y1, decide_true, decide_false]

set_option maxHeartbeats 4000000 in
theorem own_12b (o : Int) (t : ByteArray) (p k c s : Int) (ns : List ByteArray) (xs : List Xp) (h0 : Own0 o p xs.length) (hk : k = 0) (hc : c = 0) (hs0 : s = 0) (ov : o = 12) (hne : (ns.length : Int) = (xs.length : Int)) (h5 : (xs.length : Int) > 512) : OwnIs o t p k c s ns xs := by
  intro hp
  have hpa := parts_ok o
  obtain ⟨q1, q2, q3, q4⟩ := h0
  have e : ownV o t p k c s ns xs.length = false := by
    rw [own_v0 ⟨q1, q2, q3, q4⟩]
    rw [if_neg (show ¬ (o ≠ 1 ∧ (k ≠ 0 ∨ c ≠ 0 ∨ s ≠ 0)) by omega), if_neg (show ¬ (o ≠ 12 ∧ o ≠ 20 ∧ ns.length ≠ 0) by omega), if_neg (show ¬ o = 1 by omega), if_neg (show ¬ nmd o = true by simp [nmd, ov]), if_neg (show ¬ o = 3 by omega), if_neg (show ¬ o = 10 by omega)]
    rw [if_pos ⟨ov, .inr (.inl h5)⟩]
  rw [e]
  have q5 : (p != 0) = false := by simp [q4]
  generalize partsV o = lm at *
  obtain ⟨l, m⟩ := lm
  simp only at q1 q2 q3 hpa
  refine f40 rfl ?_
  have e2 : (k != 0) = false := by simp [hk]
  have e3 : (c != 0) = false := by simp [hc]
  have e4 : (s != 0) = false := by simp [hs0]
  have i1 : (o == 1) = false := by simp [ov]
  have i2 : (o == 2) = false := by simp [ov]
  have i13 : (o == 13) = false := by simp [ov]
  have i14 : (o == 14) = false := by simp [ov]
  have i16 : (o == 16) = false := by simp [ov]
  have i17 : (o == 17) = false := by simp [ov]
  have i18 : (o == 18) = false := by simp [ov]
  have i19 : (o == 19) = false := by simp [ov]
  have i3 : (o == 3) = false := by simp [ov]
  have i10 : (o == 10) = false := by simp [ov]
  have i12 : (o == 12) = true := by simp [ov]
  have j1 : (o != 1) = true := by simp [ov]
  have j2 : (o != 12) = false := by simp [ov]
  have y1 : ((ns.length : Int) != (xs.length : Int)) = false := by simp [hne]
  simp (maxSteps := 20000000) (disch := omega) only [go_sem, and_self, and_true, true_and, false_and, and_false, Nat.reduceAdd, Nat.reduceMul, Nat.reduceSub, Nat.reduceLeDiff, Nat.reduceLT, Nat.reduceGT, Nat.reduceEqDiff, Nat.reduceBEq, Int.reduceNeg, Int.reduceEq, Int.reduceLT, Int.reduceLE, Int.reduceBEq, Int.reduceToNat, Int.toNat_natCast, Int.natCast_zero, r40_T, r40, hpa, xencs_len, List.length_map, strD_neq, strD_eql, isE, q1, q2, q3, q5, i1, i2, i13, i14, i16, i17, i18, i19, i3, i10, i12, j1, e2, e3, e4, j2, y1, h5, decide_true, decide_false]

set_option maxHeartbeats 4000000 in
theorem own_12c (o : Int) (t : ByteArray) (p k c s : Int) (ns : List ByteArray) (xs : List Xp) (h0 : Own0 o p xs.length) (hk : k = 0) (hc : c = 0) (hs0 : s = 0) (ov : o = 12) (hne : (ns.length : Int) = (xs.length : Int)) (h5 : ¬ (xs.length : Int) > 512) (hl : ns.length ≤ maxLen) (hs : ∀ x ∈ ns, x.size ≤ 2097152) (hu : unF [] ns = false) : OwnIs o t p k c s ns xs := by
  intro hp
  have hpa := parts_ok o
  obtain ⟨q1, q2, q3, q4⟩ := h0
  have e : ownV o t p k c s ns xs.length = false := by
    rw [own_v0 ⟨q1, q2, q3, q4⟩]
    rw [if_neg (show ¬ (o ≠ 1 ∧ (k ≠ 0 ∨ c ≠ 0 ∨ s ≠ 0)) by omega), if_neg (show ¬ (o ≠ 12 ∧ o ≠ 20 ∧ ns.length ≠ 0) by omega), if_neg (show ¬ o = 1 by omega), if_neg (show ¬ nmd o = true by simp [nmd, ov]), if_neg (show ¬ o = 3 by omega), if_neg (show ¬ o = 10 by omega)]
    rw [if_pos ⟨ov, .inr (.inr hu)⟩]
  rw [e]
  have q5 : (p != 0) = false := by simp [q4]
  generalize partsV o = lm at *
  obtain ⟨l, m⟩ := lm
  simp only at q1 q2 q3 hpa
  refine f40 rfl ?_
  have e2 : (k != 0) = false := by simp [hk]
  have e3 : (c != 0) = false := by simp [hc]
  have e4 : (s != 0) = false := by simp [hs0]
  have i1 : (o == 1) = false := by simp [ov]
  have i2 : (o == 2) = false := by simp [ov]
  have i13 : (o == 13) = false := by simp [ov]
  have i14 : (o == 14) = false := by simp [ov]
  have i16 : (o == 16) = false := by simp [ov]
  have i17 : (o == 17) = false := by simp [ov]
  have i18 : (o == 18) = false := by simp [ov]
  have i19 : (o == 19) = false := by simp [ov]
  have i3 : (o == 3) = false := by simp [ov]
  have i10 : (o == 10) = false := by simp [ov]
  have i12 : (o == 12) = true := by simp [ov]
  have j1 : (o != 1) = true := by simp [ov]
  have j2 : (o != 12) = false := by simp [ov]
  have y1 : ((ns.length : Int) != (xs.length : Int)) = false := by simp [hne]
  have hL := on_loop o t p k c s ns xs hl hs ns.length 0 (by omega)
  unfold OnLoop at hL
  rw [List.drop_zero, List.take_zero] at hL
  rw [hu] at hL
  simp (maxSteps := 20000000) (disch := omega) only [go_sem, and_self, and_true, true_and, false_and, and_false, Nat.reduceAdd, Nat.reduceMul, Nat.reduceSub, Nat.reduceLeDiff, Nat.reduceLT, Nat.reduceGT, Nat.reduceEqDiff, Nat.reduceBEq, Int.reduceNeg, Int.reduceEq, Int.reduceLT, Int.reduceLE, Int.reduceBEq, Int.reduceToNat, Int.toNat_natCast, Int.natCast_zero, r40_T, r40, hpa, xencs_len, List.length_map, strD_neq, strD_eql, isE, q1, q2, q3, q5, i1, i2, i13, i14, i16, i17, i18, i19, i3, i10, i12, j1, e2, e3, e4, j2, y1, h5, decide_true, decide_false]
  rw [r40_B0_n]
  erw [hL]
  simp (disch := omega) only [go_sem, and_self, and_true, true_and, false_and, and_false, Nat.reduceAdd, Nat.reduceMul, Nat.reduceSub, Nat.reduceLeDiff, Nat.reduceLT, Nat.reduceGT, Nat.reduceEqDiff, Nat.reduceBEq, Int.reduceNeg, Int.reduceEq, Int.reduceLT, Int.reduceLE, Int.reduceBEq, Int.reduceToNat, Int.toNat_natCast, Int.natCast_zero, strD_eql, isE]

set_option maxHeartbeats 4000000 in
theorem own_12d (o : Int) (t : ByteArray) (p k c s : Int) (ns : List ByteArray) (xs : List Xp) (h0 : Own0 o p xs.length) (hk : k = 0) (hc : c = 0) (hs0 : s = 0) (ov : o = 12) (hne : (ns.length : Int) = (xs.length : Int)) (h5 : ¬ (xs.length : Int) > 512) (hl : ns.length ≤ maxLen) (hs : ∀ x ∈ ns, x.size ≤ 2097152) (hu : unF [] ns = true) : OwnIs o t p k c s ns xs := by
  intro hp
  have hpa := parts_ok o
  obtain ⟨q1, q2, q3, q4⟩ := h0
  have e : ownV o t p k c s ns xs.length = !decide (t.size ≠ 0) := by
    rw [own_v0 ⟨q1, q2, q3, q4⟩]
    rw [if_neg (show ¬ (o ≠ 1 ∧ (k ≠ 0 ∨ c ≠ 0 ∨ s ≠ 0)) by omega), if_neg (show ¬ (o ≠ 12 ∧ o ≠ 20 ∧ ns.length ≠ 0) by omega), if_neg (show ¬ o = 1 by omega), if_neg (show ¬ nmd o = true by simp [nmd, ov]), if_neg (show ¬ o = 3 by omega), if_neg (show ¬ o = 10 by omega)]
    rw [if_neg (show ¬ (o = 12 ∧ ((ns.length : Int) ≠ (xs.length : Int) ∨ (xs.length : Int) > 512 ∨ unF [] ns = false)) by rintro ⟨_, h | h | h⟩; exact h hne; exact h5 h; rw [hu] at h; cases h), if_neg (show ¬ (o = 20 ∧ name2 ns = false) by omega)]
  rw [e]
  have q5 : (p != 0) = false := by simp [q4]
  generalize partsV o = lm at *
  obtain ⟨l, m⟩ := lm
  simp only at q1 q2 q3 hpa
  refine f40 rfl ?_
  have e2 : (k != 0) = false := by simp [hk]
  have e3 : (c != 0) = false := by simp [hc]
  have e4 : (s != 0) = false := by simp [hs0]
  have i1 : (o == 1) = false := by simp [ov]
  have i2 : (o == 2) = false := by simp [ov]
  have i13 : (o == 13) = false := by simp [ov]
  have i14 : (o == 14) = false := by simp [ov]
  have i16 : (o == 16) = false := by simp [ov]
  have i17 : (o == 17) = false := by simp [ov]
  have i18 : (o == 18) = false := by simp [ov]
  have i19 : (o == 19) = false := by simp [ov]
  have i3 : (o == 3) = false := by simp [ov]
  have i10 : (o == 10) = false := by simp [ov]
  have i12 : (o == 12) = true := by simp [ov]
  have j1 : (o != 1) = true := by simp [ov]
  have j2 : (o != 12) = false := by simp [ov]
  have y1 : ((ns.length : Int) != (xs.length : Int)) = false := by simp [hne]
  have hL := on_loop o t p k c s ns xs hl hs ns.length 0 (by omega)
  unfold OnLoop at hL
  rw [List.drop_zero, List.take_zero] at hL
  rw [hu] at hL
  simp (maxSteps := 20000000) (disch := omega) only [go_sem, and_self, and_true, true_and, false_and, and_false, Nat.reduceAdd, Nat.reduceMul, Nat.reduceSub, Nat.reduceLeDiff, Nat.reduceLT, Nat.reduceGT, Nat.reduceEqDiff, Nat.reduceBEq, Int.reduceNeg, Int.reduceEq, Int.reduceLT, Int.reduceLE, Int.reduceBEq, Int.reduceToNat, Int.toNat_natCast, Int.natCast_zero, r40_T, r40, hpa, xencs_len, List.length_map, strD_neq, strD_eql, isE, q1, q2, q3, q5, i1, i2, i13, i14, i16, i17, i18, i19, i3, i10, i12, j1, e2, e3, e4, j2, y1, h5, decide_true, decide_false]
  rw [r40_B0_n]
  erw [hL]
  simp (disch := omega) only [go_sem, and_self, and_true, true_and, false_and, and_false, Nat.reduceAdd, Nat.reduceMul, Nat.reduceSub, Nat.reduceLeDiff, Nat.reduceLT, Nat.reduceGT, Nat.reduceEqDiff, Nat.reduceBEq, Int.reduceNeg, Int.reduceEq, Int.reduceLT, Int.reduceLE, Int.reduceBEq, Int.reduceToNat, Int.toNat_natCast, Int.natCast_zero, strD_eql, isE]

theorem name2_2 (a b : ByteArray) : name2 [a, b] = (nameB a && nameB b) := rfl
theorem name2_n {l : List ByteArray} (h : l.length ≠ 2) : name2 l = false := by
  match l, h with
  | [], _ => rfl
  | [a], _ => rfl
  | [a, b], h => exact absurd rfl h
  | a :: b :: c :: r, _ => rfl
set_option maxHeartbeats 4000000 in
theorem own_20a (o : Int) (t : ByteArray) (p k c s : Int) (ns : List ByteArray) (xs : List Xp) (h0 : Own0 o p xs.length) (hk : k = 0) (hc : c = 0) (hs0 : s = 0) (ov : o = 20) (hne : ns.length ≠ 2) : OwnIs o t p k c s ns xs := by
  intro hp
  have hpa := parts_ok o
  obtain ⟨q1, q2, q3, q4⟩ := h0
  have e : ownV o t p k c s ns xs.length = false := by
    rw [own_v0 ⟨q1, q2, q3, q4⟩]
    rw [if_neg (show ¬ (o ≠ 1 ∧ (k ≠ 0 ∨ c ≠ 0 ∨ s ≠ 0)) by omega), if_neg (show ¬ (o ≠ 12 ∧ o ≠ 20 ∧ ns.length ≠ 0) by omega), if_neg (show ¬ o = 1 by omega), if_neg (show ¬ nmd o = true by simp [nmd, ov]), if_neg (show ¬ o = 3 by omega), if_neg (show ¬ o = 10 by omega)]
    rw [if_neg (show ¬ (o = 12 ∧ ((ns.length : Int) ≠ (xs.length : Int) ∨ (xs.length : Int) > 512 ∨ unF [] ns = false)) by omega), if_pos ⟨ov, name2_n hne⟩]
  rw [e]
  have q5 : (p != 0) = false := by simp [q4]
  generalize partsV o = lm at *
  obtain ⟨l, m⟩ := lm
  simp only at q1 q2 q3 hpa
  refine f40 rfl ?_
  have e2 : (k != 0) = false := by simp [hk]
  have e3 : (c != 0) = false := by simp [hc]
  have e4 : (s != 0) = false := by simp [hs0]
  have i1 : (o == 1) = false := by simp [ov]
  have i2 : (o == 2) = false := by simp [ov]
  have i13 : (o == 13) = false := by simp [ov]
  have i14 : (o == 14) = false := by simp [ov]
  have i16 : (o == 16) = false := by simp [ov]
  have i17 : (o == 17) = false := by simp [ov]
  have i18 : (o == 18) = false := by simp [ov]
  have i19 : (o == 19) = false := by simp [ov]
  have i3 : (o == 3) = false := by simp [ov]
  have i10 : (o == 10) = false := by simp [ov]
  have i12 : (o == 12) = false := by simp [ov]
  have i20 : (o == 20) = true := by simp [ov]
  have j1 : (o != 1) = true := by simp [ov]
  have j2 : (o != 12) = true := by simp [ov]
  have j3 : (o != 20) = false := by simp [ov]
  have y1 : ((ns.length : Int) != 2) = true := by simp only [bne_iff_ne, ne_eq]; omega
  simp (maxSteps := 20000000) (disch := omega) only [go_sem, and_self, and_true, true_and, false_and, and_false, Nat.reduceAdd, Nat.reduceMul, Nat.reduceSub, Nat.reduceLeDiff, Nat.reduceLT, Nat.reduceGT, Nat.reduceEqDiff, Nat.reduceBEq, Int.reduceNeg, Int.reduceEq, Int.reduceLT, Int.reduceLE, Int.reduceBEq, Int.reduceToNat, Int.toNat_natCast, Int.natCast_zero, r40_T, r40, hpa, xencs_len, List.length_map, strD_neq, strD_eql, isE, q1, q2, q3, q5, i1, i2, i13, i14, i16, i17, i18, i19, i3, i10, i12, i20, j1, e2, e3, e4, j2, j3, y1, decide_true, decide_false]

set_option maxHeartbeats 4000000 in
theorem own_20b (o : Int) (t : ByteArray) (p k c s : Int) (ns : List ByteArray) (xs : List Xp) (h0 : Own0 o p xs.length) (hk : k = 0) (hc : c = 0) (hs0 : s = 0) (ov : o = 20) (a b : ByteArray) (hab : ns = [a, b]) (ha : a.size ≤ maxLen) (hb : b.size ≤ maxLen) : OwnIs o t p k c s ns xs := by
  intro hp
  have hpa := parts_ok o
  obtain ⟨q1, q2, q3, q4⟩ := h0
  have e : ownV o t p k c s ns xs.length = ((nameB a && nameB b) && !decide (t.size ≠ 0)) := by
    rw [own_v0 ⟨q1, q2, q3, q4⟩]
    rw [if_neg (show ¬ (o ≠ 1 ∧ (k ≠ 0 ∨ c ≠ 0 ∨ s ≠ 0)) by omega), if_neg (show ¬ (o ≠ 12 ∧ o ≠ 20 ∧ ns.length ≠ 0) by omega), if_neg (show ¬ o = 1 by omega), if_neg (show ¬ nmd o = true by simp [nmd, ov]), if_neg (show ¬ o = 3 by omega), if_neg (show ¬ o = 10 by omega)]
    rw [if_neg (show ¬ (o = 12 ∧ ((ns.length : Int) ≠ (xs.length : Int) ∨ (xs.length : Int) > 512 ∨ unF [] ns = false)) by omega), hab, name2_2]
    cases nameB a <;> cases nameB b <;> simp [ov]
  rw [e]
  have q5 : (p != 0) = false := by simp [q4]
  generalize partsV o = lm at *
  obtain ⟨l, m⟩ := lm
  simp only at q1 q2 q3 hpa
  refine f40 rfl ?_
  have e2 : (k != 0) = false := by simp [hk]
  have e3 : (c != 0) = false := by simp [hc]
  have e4 : (s != 0) = false := by simp [hs0]
  have i1 : (o == 1) = false := by simp [ov]
  have i2 : (o == 2) = false := by simp [ov]
  have i13 : (o == 13) = false := by simp [ov]
  have i14 : (o == 14) = false := by simp [ov]
  have i16 : (o == 16) = false := by simp [ov]
  have i17 : (o == 17) = false := by simp [ov]
  have i18 : (o == 18) = false := by simp [ov]
  have i19 : (o == 19) = false := by simp [ov]
  have i3 : (o == 3) = false := by simp [ov]
  have i10 : (o == 10) = false := by simp [ov]
  have i12 : (o == 12) = false := by simp [ov]
  have i20 : (o == 20) = true := by simp [ov]
  have j1 : (o != 1) = true := by simp [ov]
  have j2 : (o != 12) = true := by simp [ov]
  have j3 : (o != 20) = false := by simp [ov]
  have hna := rname_ok a ha
  have hnb := rname_ok b hb
  have n2 : ((2 : Nat) : Int) = 2 := rfl
  subst hab
  rcases Bool.eq_false_or_eq_true (nameB a) with g | g <;> rcases Bool.eq_false_or_eq_true (nameB b) with g2 | g2 <;>
  simp (maxSteps := 20000000) (disch := omega) only [go_sem, and_self, and_true, true_and, false_and, and_false, Nat.reduceAdd, Nat.reduceMul, Nat.reduceSub, Nat.reduceLeDiff, Nat.reduceLT, Nat.reduceGT, Nat.reduceEqDiff, Nat.reduceBEq, Int.reduceNeg, Int.reduceEq, Int.reduceLT, Int.reduceLE, Int.reduceBEq, Int.reduceToNat, Int.toNat_natCast, Int.natCast_zero, r40_T, r40, hpa, xencs_len, List.length_map, strD_neq, strD_eql, isE, q1, q2, q3, q5, i1, i2, i13, i14, i16, i17, i18, i19, i3, i10, i12, i20, j1, e2, e3, e4, j2, j3, hna, hnb, g, g2, n2, Int.reduceBNe, bne_self_eq_false, List.map_cons, List.map_nil, List.length_cons, List.length_nil, decide_true, decide_false, Bool.true_and, Bool.false_and, Bool.and_false, Bool.not_true, Bool.not_false]

end Go.Pe.T

namespace Go.Pe.T

theorem own_is (o : Int) (t : ByteArray) (p k c s : Int) (ns : List ByteArray) (xs : List Xp) (ht : t.size ≤ 2097152) (hl : ns.length ≤ maxLen) (hs : ∀ x ∈ ns, x.size ≤ 2097152) : OwnIs o t p k c s ns xs := by
  have hmx : maxLen = 9223372036854775807 := by decide
  by_cases h0 : (partsV o).1 < 0 ∨ (xs.length : Int) < (partsV o).1 ∨ (xs.length : Int) > (partsV o).2 ∨ p ≠ 0
  · exact own_parts o t p k c s ns xs h0
  have H : Own0 o p xs.length := ⟨by omega, by omega, by omega, by omega⟩
  by_cases o1 : o = 1
  · by_cases hn : ns.length = 0
    · refine own_1 o t p k c s ns xs H o1 hn ?_
      unfold litR
      by_cases k0 : k < 0
      · rw [if_pos k0]; exact c1_a o t p k c s ns xs k0
      rw [if_neg k0]
      by_cases k4 : k > 4
      · rw [if_pos k4]; exact c1_b o t p k c s ns xs k0 k4
      rw [if_neg k4]
      by_cases k3 : k = 3
      · rw [if_neg (show ¬ (k ≠ 3 ∧ (c ≠ 0 ∨ s ≠ 0)) by omega)]
        by_cases t0 : t.size = 0
        · rw [if_neg (show ¬ (k ≠ 4 ∧ t.size ≠ 0) by omega)]; exact c1_e2 o t p k c s ns xs k0 k4 k3 (by omega) t0 ht
        · rw [if_pos (show k ≠ 4 ∧ t.size ≠ 0 by omega)]; exact c1_e1 o t p k c s ns xs k0 k4 k3 (by omega) t0
      · by_cases hc : c = 0
        · by_cases hs0 : s = 0
          · rw [if_neg (show ¬ (k ≠ 3 ∧ (c ≠ 0 ∨ s ≠ 0)) by omega)]
            by_cases k44 : k = 4
            · rw [if_neg (show ¬ (k ≠ 4 ∧ t.size ≠ 0) by omega)]; exact c1_f3 o t p k c s ns xs k0 k4 k3 hc hs0 k44 ht
            · by_cases t0 : t.size = 0
              · rw [if_neg (show ¬ (k ≠ 4 ∧ t.size ≠ 0) by omega)]; exact c1_f2 o t p k c s ns xs k0 k4 k3 hc hs0 k44 t0 ht
              · rw [if_pos (show k ≠ 4 ∧ t.size ≠ 0 by omega)]; exact c1_f1 o t p k c s ns xs k0 k4 k3 hc hs0 k44 t0
          · rw [if_pos ⟨k3, .inr hs0⟩]; exact c1_d o t p k c s ns xs k0 k4 k3 hc hs0
        · rw [if_pos ⟨k3, .inl hc⟩]; exact c1_c o t p k c s ns xs k0 k4 k3 hc
    · exact own_1n o t p k c s ns xs H o1 hn
  by_cases hk : k = 0
  rotate_left
  · exact own_k1 o t p k c s ns xs H o1 hk
  by_cases hc : c = 0
  rotate_left
  · exact own_k2 o t p k c s ns xs H o1 hk hc
  by_cases hs0 : s = 0
  rotate_left
  · exact own_k3 o t p k c s ns xs H o1 hk hc hs0
  by_cases o12 : o = 12
  · by_cases hne : (ns.length : Int) = (xs.length : Int)
    · by_cases h5 : (xs.length : Int) > 512
      · exact own_12b o t p k c s ns xs H hk hc hs0 o12 hne h5
      · rcases Bool.eq_false_or_eq_true (unF [] ns) with hu | hu
        · exact own_12d o t p k c s ns xs H hk hc hs0 o12 hne h5 hl hs hu
        · exact own_12c o t p k c s ns xs H hk hc hs0 o12 hne h5 hl hs hu
    · exact own_12a o t p k c s ns xs H hk hc hs0 o12 hne
  by_cases o20 : o = 20
  · by_cases hne : ns.length = 2
    · match ns, hne, hs with
      | [a, b], _, hs => exact own_20b o t p k c s [a, b] xs H hk hc hs0 o20 a b rfl (by have := hs a (by simp); omega) (by have := hs b (by simp); omega)
    · exact own_20a o t p k c s ns xs H hk hc hs0 o20 hne
  by_cases hn : ns.length = 0
  rotate_left
  · exact own_n1 o t p k c s ns xs H o1 hk hc hs0 o12 o20 hn
  by_cases hid : nmd o = true
  · have hcs : o = 2 ∨ o = 13 ∨ o = 14 ∨ o = 16 ∨ o = 17 ∨ o = 18 ∨ o = 19 := by simpa [nmd] using hid
    rcases hcs with h | h | h | h | h | h | h
    · exact own_id2 o t p k c s ns xs H o1 hk hc hs0 o12 o20 hn ht hid h
    · exact own_id13 o t p k c s ns xs H o1 hk hc hs0 o12 o20 hn ht hid h
    · exact own_id14 o t p k c s ns xs H o1 hk hc hs0 o12 o20 hn ht hid h
    · exact own_id16 o t p k c s ns xs H o1 hk hc hs0 o12 o20 hn ht hid h
    · exact own_id17 o t p k c s ns xs H o1 hk hc hs0 o12 o20 hn ht hid h
    · exact own_id18 o t p k c s ns xs H o1 hk hc hs0 o12 o20 hn ht hid h
    · exact own_id19 o t p k c s ns xs H o1 hk hc hs0 o12 o20 hn ht hid h
  by_cases o3 : o = 3
  · exact own_3 o t p k c s ns xs H o1 hk hc hs0 o12 o20 hn hid ht o3
  by_cases o10 : o = 10
  · exact own_10 o t p k c s ns xs H o1 hk hc hs0 o12 o20 hn hid o3 o10
  exact own_else o t p k c s ns xs H o1 hk hc hs0 o12 o20 hn hid o3 o10
end Go.Pe.T

namespace Go.Pe.T

theorem valid0 {t : ByteArray} (h : t.size = 0) : validB t = true := by
  have : bs t = [] := List.eq_nil_of_length_eq_zero h
  unfold validB
  rw [h, this]
  rfl
theorem lit_same (t : ByteArray) (k c s : Int) : litR t k c s = litV t k c s := by
  unfold litR litV
  have n0 : numIs 0 0 = true := by decide
  by_cases t0 : t.size = 0
  · have hv := valid0 t0
    have ht : (!decide (t.size ≠ 0)) = true := by simp [t0]
    rw [hv, ht]
    by_cases k0 : k < 0
    · rw [if_pos k0, if_neg (by omega), if_neg (by omega), if_neg (by omega)]
    rw [if_neg k0]
    by_cases k4 : k > 4
    · rw [if_pos k4, if_neg (by omega), if_neg (by omega), if_neg (by omega)]
    rw [if_neg k4, if_neg (show ¬ (k ≠ 4 ∧ t.size ≠ 0) by omega)]
    by_cases k3 : k = 3
    · rw [if_neg (show ¬ (k ≠ 3 ∧ (c ≠ 0 ∨ s ≠ 0)) by omega), if_neg (by omega), if_pos k3]
    · by_cases hc : c = 0 ∧ s = 0
      · obtain ⟨rfl, rfl⟩ := hc
        rw [if_neg (by omega), n0]
        by_cases kk : k = 0 ∨ k = 1 ∨ k = 2
        · rw [if_pos kk]; rfl
        · rw [if_neg kk, if_neg k3, if_pos (by omega)]; rfl
      · have hb : (c == 0 && s == 0) = false := by
          rw [Bool.and_eq_false_iff]
          by_cases h : c = 0
          · right; have : s ≠ 0 := fun e => hc ⟨h, e⟩
            simpa using this
          · left; simpa using h
        rw [if_pos (by omega), hb]
        by_cases kk : k = 0 ∨ k = 1 ∨ k = 2
        · rw [if_pos kk]; rfl
        · rw [if_neg kk, if_neg k3, if_pos (by omega)]; rfl
  · have ht : (!decide (t.size ≠ 0)) = false := by simp [t0]
    rw [ht]
    by_cases k0 : k < 0
    · rw [if_pos k0, if_neg (by omega), if_neg (by omega), if_neg (by omega)]
    rw [if_neg k0]
    by_cases k4 : k > 4
    · rw [if_pos k4, if_neg (by omega), if_neg (by omega), if_neg (by omega)]
    rw [if_neg k4]
    by_cases k44 : k = 4
    · rw [if_neg (show ¬ (k ≠ 4 ∧ t.size ≠ 0) by omega), if_neg (show ¬ (k = 0 ∨ k = 1 ∨ k = 2) by omega), if_neg (show ¬ k = 3 by omega), if_pos k44]
      by_cases hc : c = 0 ∧ s = 0
      · obtain ⟨rfl, rfl⟩ := hc
        rw [if_neg (by omega), n0]
        rfl
      · have hb : (c == 0 && s == 0) = false := by
          rw [Bool.and_eq_false_iff]
          by_cases h : c = 0
          · right; have : s ≠ 0 := fun e => hc ⟨h, e⟩
            simpa using this
          · left; simpa using h
        rw [if_pos (by omega), hb]
        rfl
    · have e : (if k ≠ 4 ∧ t.size ≠ 0 then false else numIs c s && validB t) = false := if_pos ⟨k44, t0⟩
      rw [e, ite_self]
      by_cases kk : k = 0 ∨ k = 1 ∨ k = 2
      · rw [if_pos kk, Bool.and_false]
      · rw [if_neg kk, if_pos (by omega), Bool.and_false]

theorem own_fits_gen (o : Int) (t : ByteArray) (p k c s : Int) (ns : List ByteArray) (xs : List Xp) (l m : Int) (nm : Bool) (hsh : shapeV o = (l, m, nm, false, true)) (hpv : partsV o = (l, m)) (hl : ¬ l < 0) (hnm : nmd o = nm) (o1 : o ≠ 1) (o12 : o ≠ 12) (o20 : o ≠ 20) :
    ownV o t p k c s ns xs.length = fitsV (.mk o t p k c s ns xs) := by
  have h12 : ¬ (o = 12 ∧ ((ns.length : Int) ≠ (xs.length : Int) ∨ (xs.length : Int) > 512 ∨ unF [] ns = false)) := fun h => o12 h.1
  have h20 : ¬ (o = 20 ∧ name2 ns = false) := fun h => o20 h.1
  simp only [ownV, fitsV, hsh, hpv, textV, namesV, hnm, if_neg hl, if_neg o1, if_neg h12, if_neg h20, Bool.true_and, if_true]
  by_cases q2 : (xs.length : Int) < l
  · have : ¬ (xs.length : Int) ≥ l := by omega
    simp [q2, this]
  have q2' : (xs.length : Int) ≥ l := by omega
  by_cases q3 : (xs.length : Int) > m
  · have : ¬ (xs.length : Int) ≤ m := by omega
    simp [q2, q3, this]
  have q3' : (xs.length : Int) ≤ m := by omega
  by_cases q4 : p = 0
  rotate_left
  · simp [q2, q3, q4]
  by_cases q5 : k = 0 ∧ c = 0 ∧ s = 0
  rotate_left
  · have e : o ≠ 1 ∧ (k ≠ 0 ∨ c ≠ 0 ∨ s ≠ 0) := ⟨o1, by omega⟩
    have e2 : (!(c == 0 && s == 0) || k != 0) = true := by
      simp only [Bool.or_eq_true, Bool.not_eq_true', Bool.and_eq_false_iff, beq_eq_false_iff_ne, bne_iff_ne, ne_eq]
      omega
    rw [if_neg q2, if_neg q3, if_neg (fun h => h q4), if_pos e, if_pos e2]
    simp
  obtain ⟨rfl, rfl, rfl⟩ := q5
  by_cases q6 : ns.length = 0
  rotate_left
  · have : ((ns.length : Int) == 0) = false := by simp only [beq_eq_false_iff_ne, ne_eq]; omega
    simp [q2, q3, q4, o12, o20, q6, this]
  have q6' : ((ns.length : Int) == 0) = true := by simp [q6]
  simp [q2, q3, q4, q6, q6', q2', q3']

theorem own_fits1 (t : ByteArray) (p k c s : Int) (ns : List ByteArray) (xs : List Xp) : ownV 1 t p k c s ns xs.length = fitsV (.mk 1 t p k c s ns xs) := by
  have hsh : shapeV 1 = (0, 0, false, false, true) := rfl
  have hpv : partsV 1 = (0, 0) := rfl
  simp only [ownV, fitsV, hsh, hpv, textV, namesV, lit_same, Bool.true_and, if_true]
  by_cases q3 : (xs.length : Int) > 0
  · have : ¬ (xs.length : Int) ≤ 0 := by omega
    rw [if_neg (show ¬ (0 : Int) < 0 by omega), if_neg (show ¬ (xs.length : Int) < 0 by omega), if_pos q3, decide_eq_false this]
    simp
  have q3' : (xs.length : Int) ≤ 0 := by omega
  have q2 : ¬ (xs.length : Int) < 0 := by omega
  by_cases q4 : p = 0
  rotate_left
  · rw [if_neg (by omega), if_neg q2, if_neg q3, if_pos q4]
    simp [q4]
  by_cases q6 : ns.length = 0
  rotate_left
  · have : ((ns.length : Int) == 0) = false := by simp only [beq_eq_false_iff_ne, ne_eq]; omega
    rw [if_neg (by omega), if_neg q2, if_neg q3, if_neg (fun h => h q4), if_neg (by omega), if_pos (by omega), this]
    simp
  have q6' : ((ns.length : Int) == 0) = true := by simp [q6]
  have d2 : decide ((xs.length : Int) ≥ 0) = true := decide_eq_true (by omega)
  have d3 : decide ((xs.length : Int) ≤ 0) = true := decide_eq_true (by omega)
  have d4 : (p == 0) = true := by simp [q4]
  rw [if_neg (by omega), if_neg q2, if_neg q3, if_neg (fun h => h q4), if_neg (by omega), if_neg (by omega), q6', d2, d3, d4]
  simp

theorem own_fits12 (t : ByteArray) (p k c s : Int) (ns : List ByteArray) (xs : List Xp) : ownV 12 t p k c s ns xs.length = fitsV (.mk 12 t p k c s ns xs) := by
  have hsh : shapeV 12 = (0, 512, false, true, true) := rfl
  have hpv : partsV 12 = (0, 1000) := rfl
  have hnm : nmd 12 = false := rfl
  simp only [ownV, fitsV, hsh, hpv, hnm, textV, namesV, Bool.true_and, if_true]
  have q2 : ¬ (xs.length : Int) < 0 := by omega
  have d2 : decide ((xs.length : Int) ≥ 0) = true := decide_eq_true (by omega)
  rw [if_neg (show ¬ (0 : Int) < 0 by omega), if_neg q2, d2, Bool.true_and]
  by_cases q4 : p = 0
  rotate_left
  · have d4 : (p == 0) = false := by simpa using q4
    rw [d4, Bool.false_and]
    split <;> first | rfl | (rw [if_pos q4])
  have d4 : (p == 0) = true := by simp [q4]
  rw [d4, Bool.true_and]
  by_cases q3 : (xs.length : Int) > 512
  · have d3 : decide ((xs.length : Int) ≤ 512) = false := decide_eq_false (by omega)
    rw [d3, Bool.false_and]
    split
    · rfl
    · rw [if_neg (fun h => h q4)]
      split
      · rfl
      · rw [if_neg (by omega), if_neg (by omega), if_neg (by simp), if_neg (by omega), if_neg (by omega), if_pos ⟨trivial, .inr (.inl q3)⟩]
  have d3 : decide ((xs.length : Int) ≤ 512) = true := decide_eq_true (by omega)
  rw [d3, Bool.true_and, if_neg (show ¬ (xs.length : Int) > 1000 by omega), if_neg (fun h => h q4)]
  by_cases q5 : k = 0 ∧ c = 0 ∧ s = 0
  rotate_left
  · have e2 : (!(c == 0 && s == 0) || k != 0) = true := by
      simp only [Bool.or_eq_true, Bool.not_eq_true', Bool.and_eq_false_iff, beq_eq_false_iff_ne, bne_iff_ne, ne_eq]
      omega
    rw [if_pos (by omega), if_neg (by omega), if_pos e2, Bool.false_and]
  obtain ⟨rfl, rfl, rfl⟩ := q5
  rw [if_neg (by omega), if_neg (by omega), if_neg (by omega), if_neg (by simp), if_neg (by omega), if_neg (by omega)]
  by_cases q7 : (ns.length : Int) = (xs.length : Int)
  · rcases Bool.eq_false_or_eq_true (unF [] ns) with u | u
    · rw [if_neg (by rintro ⟨_, h | h | h⟩; exact h q7; exact q3 h; rw [u] at h; cases h), if_neg (by omega), u]
      simp [q7]
    · rw [if_pos ⟨trivial, .inr (.inr u)⟩, u]
      simp
  · have d7 : ((ns.length : Int) == (xs.length : Int)) = false := by simpa using q7
    rw [if_pos ⟨trivial, .inl q7⟩, d7]
    simp

theorem own_fits20 (t : ByteArray) (p k c s : Int) (ns : List ByteArray) (xs : List Xp) : ownV 20 t p k c s ns xs.length = fitsV (.mk 20 t p k c s ns xs) := by
  have hsh : shapeV 20 = (1, 1, false, true, true) := rfl
  have hpv : partsV 20 = (1, 1) := rfl
  have hnm : nmd 20 = false := rfl
  simp only [ownV, fitsV, hsh, hpv, hnm, textV, namesV, Bool.true_and, if_true]
  by_cases q2 : (xs.length : Int) < 1
  · have : ¬ (xs.length : Int) ≥ 1 := by omega
    rw [if_neg (by omega), if_pos q2, decide_eq_false this]
    simp
  by_cases q3 : (xs.length : Int) > 1
  · have : ¬ (xs.length : Int) ≤ 1 := by omega
    rw [if_neg (by omega), if_neg q2, if_pos q3, decide_eq_false this]
    simp
  have d2 : decide ((xs.length : Int) ≥ 1) = true := decide_eq_true (by omega)
  have d3 : decide ((xs.length : Int) ≤ 1) = true := decide_eq_true (by omega)
  rw [if_neg (show ¬ (1 : Int) < 0 by omega), if_neg q2, if_neg q3, d2, d3, Bool.true_and, Bool.true_and]
  by_cases q4 : p = 0
  rotate_left
  · have d4 : (p == 0) = false := by simpa using q4
    rw [d4, Bool.false_and, if_pos q4]
  have d4 : (p == 0) = true := by simp [q4]
  rw [d4, Bool.true_and, if_neg (fun h => h q4)]
  by_cases q5 : k = 0 ∧ c = 0 ∧ s = 0
  rotate_left
  · have e2 : (!(c == 0 && s == 0) || k != 0) = true := by
      simp only [Bool.or_eq_true, Bool.not_eq_true', Bool.and_eq_false_iff, beq_eq_false_iff_ne, bne_iff_ne, ne_eq]
      omega
    rw [if_pos (by omega), if_neg (by omega), if_pos e2, Bool.false_and]
  obtain ⟨rfl, rfl, rfl⟩ := q5
  rw [if_neg (by omega), if_neg (by omega), if_neg (by omega), if_neg (by simp), if_neg (by omega), if_neg (by omega), if_neg (by omega)]
  rcases Bool.eq_false_or_eq_true (name2 ns) with u | u
  · rw [if_neg (by rw [u]; simp), u]
    simp
  · rw [if_pos ⟨trivial, u⟩, u]
    simp

theorem own_fits (o : Int) (t : ByteArray) (p k c s : Int) (ns : List ByteArray) (xs : List Xp) : ownV o t p k c s ns xs.length = fitsV (.mk o t p k c s ns xs) := by
  by_cases h0 : 0 ≤ o ∧ o ≤ 21
  · obtain ⟨n, rfl⟩ : ∃ n : Nat, o = n := ⟨o.toNat, by omega⟩
    have hn : n ≤ 21 := by omega
    by_cases n1 : n = 1
    · subst n1
      exact own_fits1 t p k c s ns xs
    by_cases n12 : n = 12
    · subst n12
      exact own_fits12 t p k c s ns xs
    by_cases n20 : n = 20
    · subst n20
      exact own_fits20 t p k c s ns xs
    match n, hn with
    | 0, _ => exact own_fits_gen _ t p k c s ns xs 0 0 false rfl rfl (by omega) rfl (by omega) (by omega) (by omega)
    | 2, _ => exact own_fits_gen _ t p k c s ns xs 0 0 true rfl rfl (by omega) rfl (by omega) (by omega) (by omega)
    | 3, _ => exact own_fits_gen _ t p k c s ns xs 1 1 false rfl rfl (by omega) rfl (by omega) (by omega) (by omega)
    | 4, _ => exact own_fits_gen _ t p k c s ns xs 2 2 false rfl rfl (by omega) rfl (by omega) (by omega) (by omega)
    | 5, _ => exact own_fits_gen _ t p k c s ns xs 1 1 false rfl rfl (by omega) rfl (by omega) (by omega) (by omega)
    | 6, _ => exact own_fits_gen _ t p k c s ns xs 2 2 false rfl rfl (by omega) rfl (by omega) (by omega) (by omega)
    | 7, _ => exact own_fits_gen _ t p k c s ns xs 2 2 false rfl rfl (by omega) rfl (by omega) (by omega) (by omega)
    | 8, _ => exact own_fits_gen _ t p k c s ns xs 0 0 false rfl rfl (by omega) rfl (by omega) (by omega) (by omega)
    | 9, _ => exact own_fits_gen _ t p k c s ns xs 3 3 false rfl rfl (by omega) rfl (by omega) (by omega) (by omega)
    | 10, _ => exact own_fits_gen _ t p k c s ns xs 2 2 false rfl rfl (by omega) rfl (by omega) (by omega) (by omega)
    | 11, _ => exact own_fits_gen _ t p k c s ns xs 0 1 false rfl rfl (by omega) rfl (by omega) (by omega) (by omega)
    | 13, _ => exact own_fits_gen _ t p k c s ns xs 3 3 true rfl rfl (by omega) rfl (by omega) (by omega) (by omega)
    | 14, _ => exact own_fits_gen _ t p k c s ns xs 3 3 true rfl rfl (by omega) rfl (by omega) (by omega) (by omega)
    | 15, _ => exact own_fits_gen _ t p k c s ns xs 2 2 false rfl rfl (by omega) rfl (by omega) (by omega) (by omega)
    | 16, _ => exact own_fits_gen _ t p k c s ns xs 0 4 true rfl rfl (by omega) rfl (by omega) (by omega) (by omega)
    | 17, _ => exact own_fits_gen _ t p k c s ns xs 2 2 true rfl rfl (by omega) rfl (by omega) (by omega) (by omega)
    | 18, _ => exact own_fits_gen _ t p k c s ns xs 1 1 true rfl rfl (by omega) rfl (by omega) (by omega) (by omega)
    | 19, _ => exact own_fits_gen _ t p k c s ns xs 0 0 true rfl rfl (by omega) rfl (by omega) (by omega) (by omega)
    | 21, _ => exact own_fits_gen _ t p k c s ns xs 1 1 false rfl rfl (by omega) rfl (by omega) (by omega) (by omega)
    | 1, _ => exact absurd rfl n1
    | 12, _ => exact absurd rfl n12
    | 20, _ => exact absurd rfl n20
    | n + 22, h => omega
  · have e1 : partsV o = (-1, -1) := by
      unfold partsV
      repeat rw [if_neg (by omega)]
    have e2 : shapeV o = (0, 0, false, false, false) := by
      unfold shapeV
      repeat rw [if_neg (by omega)]
    simp [ownV, fitsV, e1, e2]
end Go.Pe.T

namespace Go.Pe.T

theorem own_ok (x : Xp) (hx : x.ok) (hm : x.lim 2097152) (hp : List Ent) : F tab 40 [.d x.enc] hp = some (.ret (.d (.bool (fitsV x))) hp) := by
  obtain ⟨o, t, p, k, c, s, ns, xs⟩ := x
  simp only [Xp.ok] at hx
  simp only [Xp.lim] at hm
  rw [← own_fits]
  exact own_is o t p k c s ns xs hm.1 hx.2.2.2.2.2.2.1 hm.2.1 hp

def RiLoop (l : List Xp) (i : Nat) : Prop :=
  V (F tab) r23_B0 (r23_S0 (.d (.sl (Xp.encs l))) (.d (iv i)) []) = if (l.drop i).all fitsV then some (.norm, r23_E0 (.d (.sl (Xp.encs l))) []) else some (.ret, r23_R (.d (.bool false)) [])
theorem ri_end (l : List Xp) (i : Nat) (hi : l.length ≤ i) : RiLoop l i := by
  have h1 : ((i : Int) < (l.length : Int)) = False := eq_false (by omega)
  unfold RiLoop
  rw [r23_B0_eq, List.drop_of_length_le hi]
  simp (disch := omega) only [go_sem, and_self, and_true, true_and, false_and, and_false, Nat.reduceAdd, Nat.reduceMul, Nat.reduceSub, Nat.reduceLeDiff, Nat.reduceLT, Nat.reduceGT, Nat.reduceEqDiff, Nat.reduceBEq, Int.reduceNeg, Int.reduceEq, Int.reduceLT, Int.reduceLE, Int.reduceBEq, Int.reduceToNat, Int.toNat_natCast, Int.natCast_zero, r23_C0, h1, xencs_len, List.all_nil]
theorem ri_step (l : List Xp) (i : Nat) (hi : i < l.length) (hl : l.length ≤ 1000) (hx : l[i].ok) (hm : l[i].lim 2097152) (ih : RiLoop l (i + 1)) : RiLoop l i := by
  have h1 : ((i : Int) < (l.length : Int)) = True := eq_true (by omega)
  have hi0 : (0 ≤ (i : Int)) = True := eq_true (by omega)
  have va : (Xp.encs l)[i]? = some (l[i].enc) := by rw [xencs_get]; simp [hi]
  have ho := own_ok l[i] hx hm
  unfold RiLoop at ih ⊢
  rw [Int.natCast_add, Int.natCast_one] at ih
  rw [r23_B0_eq, List.drop_eq_getElem_cons hi]
  simp only [List.all_cons]
  rcases Bool.eq_false_or_eq_true (fitsV l[i]) with g | g
  · simp (disch := omega) only [go_sem, and_self, and_true, true_and, false_and, and_false, Nat.reduceAdd, Nat.reduceMul, Nat.reduceSub, Nat.reduceLeDiff, Nat.reduceLT, Nat.reduceGT, Nat.reduceEqDiff, Nat.reduceBEq, Int.reduceNeg, Int.reduceEq, Int.reduceLT, Int.reduceLE, Int.reduceBEq, Int.reduceToNat, Int.toNat_natCast, Int.natCast_zero, r23_C0, h1, hi0, va, xenc_w, xenc_a, xencs_len, ho, g, w64, Bool.true_and]
    exact ih
  · simp (disch := omega) only [go_sem, and_self, and_true, true_and, false_and, and_false, Nat.reduceAdd, Nat.reduceMul, Nat.reduceSub, Nat.reduceLeDiff, Nat.reduceLT, Nat.reduceGT, Nat.reduceEqDiff, Nat.reduceBEq, Int.reduceNeg, Int.reduceEq, Int.reduceLT, Int.reduceLE, Int.reduceBEq, Int.reduceToNat, Int.toNat_natCast, Int.natCast_zero, r23_C0, h1, hi0, va, xenc_w, xenc_a, xencs_len, ho, g, w64, Bool.false_and]
theorem ri_loop (l : List Xp) (hl : l.length ≤ 1000) (hx : ∀ x ∈ l, x.ok) (hm : ∀ x ∈ l, x.lim 2097152) : ∀ (j i : Nat), i + j = l.length → RiLoop l i
  | 0, i, hi => ri_end l i (by omega)
  | j + 1, i, hi => ri_step l i (by omega) hl (hx _ (List.getElem_mem _)) (hm _ (List.getElem_mem _)) (ri_loop l hl hx hm j (i + 1) (by omega))
theorem ris_ok (e : Xp) (he : e.ok) (hm : e.lim 2097152) (hl : e.pre.length ≤ 590) (hp : List Ent) : F tab 23 [.d e.enc] hp = some (.ret (.d (.bool (isV e))) hp) := by
  have a2 : ∀ hp, F tab 39 [.d e.enc, .d (iv 600)] hp = _ := rall_ok e he 600 (by omega) (by omega)
  have e1 : (e.pre.take 600) = e.pre := List.take_of_length_le (by omega)
  rw [e1] at a2
  have hL := ri_loop e.pre (by omega) (pre_ok e he) (pre_lim e hm) e.pre.length 0 (by omega)
  unfold RiLoop at hL
  rw [List.drop_zero] at hL
  have e2 : decide ((e.pre.length : Int) ≤ 512) = decide (e.pre.length ≤ 512) := by apply decide_eq_decide.2; omega
  obtain ⟨o, t, p, k, c, s, ns, ys, ex⟩ := xenc_as e
  rw [ex] at a2 ⊢
  refine f23 rfl ?_
  unfold isV
  simp (disch := omega) only [go_sem, and_self, and_true, true_and, false_and, and_false, Nat.reduceAdd, Nat.reduceMul, Nat.reduceSub, Nat.reduceLeDiff, Nat.reduceLT, Nat.reduceGT, Nat.reduceEqDiff, Nat.reduceBEq, Int.reduceNeg, Int.reduceEq, Int.reduceLT, Int.reduceLE, Int.reduceBEq, Int.reduceToNat, Int.toNat_natCast, Int.natCast_zero, r23_T, r23, a2]
  rw [r23_B0_n]
  erw [hL]
  rcases Bool.eq_false_or_eq_true (e.pre.all fitsV) with g | g <;> rw [g] <;> simp (disch := omega) only [go_sem, and_self, and_true, true_and, false_and, and_false, Nat.reduceAdd, Nat.reduceMul, Nat.reduceSub, Nat.reduceLeDiff, Nat.reduceLT, Nat.reduceGT, Nat.reduceEqDiff, Nat.reduceBEq, Int.reduceNeg, Int.reduceEq, Int.reduceLT, Int.reduceLE, Int.reduceBEq, Int.reduceToNat, Int.toNat_natCast, Int.natCast_zero, xencs_len, e2, Bool.and_true, Bool.and_false]

end Go.Pe.T

namespace Go.Pe.T
def IpLoop (x1 x3 : PV) (nm : ByteArray) (ps : List ByteArray) (c0 c1 c2 c3 c4 c5 c6 c7 : D) (j : Nat) : Prop :=
  V (F tab) r24_B1 (r24_S1 x1 x3 (.ibox [.d (.str nm), .d (.sl (ps.map .str)), .d c0, .d c1, .d c2, .d c3, .d c4, .d c5, .d c6, .d c7]) (.d (iv j)) []) =
    if (ps.drop j).all identB then some (.norm, r24_E1 x1 x3 []) else some (.ret, r24_R (.d (.bool false)) [])
theorem ip_loop (fs : List Fn) (d1 d2 d3 d4 d5 d6 d7 d8 : D) (i : Nat) (nm : ByteArray) (ps : List ByteArray) (c0 c1 c2 c3 c4 c5 c6 c7 : D) (hl : ps.length ≤ maxLen) (hs : ∀ x ∈ ps, x.size ≤ maxLen) : ∀ (m j : Nat), j + m = ps.length →
    IpLoop (.ibox [.d (.sl (fnDs fs)), .d d1, .d d2, .d d3, .d d4, .d d5, .d d6, .d d7, .d d8]) (.d (iv i)) nm ps c0 c1 c2 c3 c4 c5 c6 c7 j
  | 0, j, hj => by
    have h1 : ((j : Int) < (ps.length : Int)) = False := eq_false (by omega)
    unfold IpLoop
    rw [r24_B1_eq, List.drop_of_length_le (by omega)]
    simp (disch := omega) only [go_sem, and_self, and_true, true_and, false_and, and_false, Nat.reduceAdd, Nat.reduceMul, Nat.reduceSub, Nat.reduceLeDiff, Nat.reduceLT, Nat.reduceGT, Nat.reduceEqDiff, Nat.reduceBEq, Int.reduceNeg, Int.reduceEq, Int.reduceLT, Int.reduceLE, Int.reduceBEq, Int.reduceToNat, Int.toNat_natCast, Int.natCast_zero, r24_C1, h1, List.length_map, List.all_nil]
  | m + 1, j, hj => by
    have hmx : maxLen = 9223372036854775807 := by decide
    have ih := ip_loop fs d1 d2 d3 d4 d5 d6 d7 d8 i nm ps c0 c1 c2 c3 c4 c5 c6 c7 hl hs m (j + 1) (by omega)
    have hj1 : j < ps.length := by omega
    have h1 : ((j : Int) < (ps.length : Int)) = True := eq_true (by omega)
    have j0 : (0 ≤ (j : Int)) = True := eq_true (by omega)
    have va : (ps.map D.str)[j]? = some (.str ps[j]) := by simp [hj1]
    have hn := rident_ok ps[j] (hs _ (List.getElem_mem hj1))
    unfold IpLoop at ih ⊢
    rw [Int.natCast_add, Int.natCast_one] at ih
    rw [r24_B1_eq, List.drop_eq_getElem_cons hj1, List.all_cons]
    rcases Bool.eq_false_or_eq_true (identB ps[j]) with g | g
    · rw [g] at hn ⊢
      rw [Bool.true_and]
      simp (disch := omega) only [go_sem, and_self, and_true, true_and, false_and, and_false, Nat.reduceAdd, Nat.reduceMul, Nat.reduceSub, Nat.reduceLeDiff, Nat.reduceLT, Nat.reduceGT, Nat.reduceEqDiff, Nat.reduceBEq, Int.reduceNeg, Int.reduceEq, Int.reduceLT, Int.reduceLE, Int.reduceBEq, Int.reduceToNat, Int.toNat_natCast, Int.natCast_zero, r24_C1, h1, j0, va, hn, List.length_map, w64]
      exact ih
    · rw [g] at hn ⊢
      rw [Bool.false_and]
      simp (disch := omega) only [go_sem, and_self, and_true, true_and, false_and, and_false, Nat.reduceAdd, Nat.reduceMul, Nat.reduceSub, Nat.reduceLeDiff, Nat.reduceLT, Nat.reduceGT, Nat.reduceEqDiff, Nat.reduceBEq, Int.reduceNeg, Int.reduceEq, Int.reduceLT, Int.reduceLE, Int.reduceBEq, Int.reduceToNat, Int.toNat_natCast, Int.natCast_zero, r24_C1, h1, j0, va, hn, List.length_map, w64]
def IqLoop (fs : List Fn) (d1 d2 d3 d4 d5 d6 d7 d8 : D) (i : Nat) : Prop :=
  V (F tab) r24_B0 (r24_S0 (.ibox [.d (.sl (fnDs fs)), .d d1, .d d2, .d d3, .d d4, .d d5, .d d6, .d d7, .d d8]) (.d (iv i)) []) = if (fs.drop i).all fnV then some (.norm, r24_E0 []) else some (.ret, r24_R (.d (.bool false)) [])
structure FnLim (f : Fn) : Prop where
  lim : f.body.lim 2097152
  pre : f.body.pre.length ≤ 590
set_option maxHeartbeats 4000000 in
theorem iq_loop (fs : List Fn) (hl : fs.length ≤ 1000) (hf : ∀ f ∈ fs, FnIn f) (hm : ∀ f ∈ fs, FnLim f) (d1 d2 d3 d4 d5 d6 d7 d8 : D) : ∀ (j i : Nat), i + j = fs.length → IqLoop fs d1 d2 d3 d4 d5 d6 d7 d8 i
  | 0, i, hi => by
    have h1 : ((i : Int) < (fs.length : Int)) = False := eq_false (by omega)
    have hfd : (fnDs fs).length = fs.length := by rw [fnDs, List.length_map]
    unfold IqLoop
    rw [r24_B0_eq, List.drop_of_length_le (by omega)]
    simp (disch := omega) only [go_sem, and_self, and_true, true_and, false_and, and_false, Nat.reduceAdd, Nat.reduceMul, Nat.reduceSub, Nat.reduceLeDiff, Nat.reduceLT, Nat.reduceGT, Nat.reduceEqDiff, Nat.reduceBEq, Int.reduceNeg, Int.reduceEq, Int.reduceLT, Int.reduceLE, Int.reduceBEq, Int.reduceToNat, Int.toNat_natCast, Int.natCast_zero, r24_C0, h1, hfd, List.all_nil]
  | j + 1, i, hi => by
    have ih := iq_loop fs hl hf hm d1 d2 d3 d4 d5 d6 d7 d8 j (i + 1) (by omega)
    have hi1 : i < fs.length := by omega
    have h1 : ((i : Int) < (fs.length : Int)) = True := eq_true (by omega)
    have hi0 : (0 ≤ (i : Int)) = True := eq_true (by omega)
    have hfd : (fnDs fs).length = fs.length := by rw [fnDs, List.length_map]
    have va : (fnDs fs)[i]? = some fs[i].enc := by rw [fnDs, List.getElem?_map, List.getElem?_eq_getElem hi1]; rfl
    have hF := hf fs[i] (List.getElem_mem hi1)
    have hM := hm fs[i] (List.getElem_mem hi1)
    unfold IqLoop at ih ⊢
    rw [Int.natCast_add, Int.natCast_one] at ih
    rw [r24_B0_eq, List.drop_eq_getElem_cons hi1, List.all_cons]
    generalize fs[i] = f at *
    obtain ⟨o', t', p', k', c', s', ns', xs', e1, e2⟩ := fn_as' f
    rw [e2] at va
    have n1 := rident_ok f.name hF.name
    have n4 := ris_ok f.body hF.body hM.lim hM.pre
    rw [e1] at n4
    have hL := ip_loop fs d1 d2 d3 d4 d5 d6 d7 d8 i f.name f.params (iv o') (.str t') (iv p') (iv k') (iv c') (iv s') (.sl (ns'.map .str)) (.sl (Xp.encs xs')) hF.params hF.pars f.params.length 0 (by omega)
    unfold IpLoop at hL
    rw [List.drop_zero, Int.natCast_zero] at hL
    unfold fnV
    rcases Bool.eq_false_or_eq_true (identB f.name) with g1 | g1
    · rw [g1] at n1 ⊢
      by_cases g2 : f.params.length ≤ 4
      · have g2' : ((f.params.length : Int) > 4) = False := eq_false (by omega)
        rw [decide_eq_true g2]
        rcases Bool.eq_false_or_eq_true (isV f.body) with g4 | g4
        · rw [g4] at n4 ⊢
          simp only [Bool.true_and, Bool.and_true]
          rcases Bool.eq_false_or_eq_true (f.params.all identB) with g3 | g3
          · rw [g3] at hL ⊢
            simp (disch := omega) only [go_sem, and_self, and_true, true_and, false_and, and_false, Nat.reduceAdd, Nat.reduceMul, Nat.reduceSub, Nat.reduceLeDiff, Nat.reduceLT, Nat.reduceGT, Nat.reduceEqDiff, Nat.reduceBEq, Int.reduceNeg, Int.reduceEq, Int.reduceLT, Int.reduceLE, Int.reduceBEq, Int.reduceToNat, Int.toNat_natCast, Int.natCast_zero, r24_C0, h1, hi0, hfd, va, n1, n4, g2', List.length_map, w64, Bool.true_and]
            rw [r24_B1_n]
            erw [hL]
            simp (disch := omega) only [go_sem, and_self, and_true, true_and, false_and, and_false, Nat.reduceAdd, Nat.reduceMul, Nat.reduceSub, Nat.reduceLeDiff, Nat.reduceLT, Nat.reduceGT, Nat.reduceEqDiff, Nat.reduceBEq, Int.reduceNeg, Int.reduceEq, Int.reduceLT, Int.reduceLE, Int.reduceBEq, Int.reduceToNat, Int.toNat_natCast, Int.natCast_zero, w64]
            exact ih
          · rw [g3] at hL ⊢
            simp (disch := omega) only [go_sem, and_self, and_true, true_and, false_and, and_false, Nat.reduceAdd, Nat.reduceMul, Nat.reduceSub, Nat.reduceLeDiff, Nat.reduceLT, Nat.reduceGT, Nat.reduceEqDiff, Nat.reduceBEq, Int.reduceNeg, Int.reduceEq, Int.reduceLT, Int.reduceLE, Int.reduceBEq, Int.reduceToNat, Int.toNat_natCast, Int.natCast_zero, r24_C0, h1, hi0, hfd, va, n1, n4, g2', List.length_map, w64, Bool.false_and]
            rw [r24_B1_n]
            erw [hL]
            simp (disch := omega) only [go_sem, and_self, and_true, true_and, false_and, and_false, Nat.reduceAdd, Nat.reduceMul, Nat.reduceSub, Nat.reduceLeDiff, Nat.reduceLT, Nat.reduceGT, Nat.reduceEqDiff, Nat.reduceBEq, Int.reduceNeg, Int.reduceEq, Int.reduceLT, Int.reduceLE, Int.reduceBEq, Int.reduceToNat, Int.toNat_natCast, Int.natCast_zero, w64]
        · rw [g4] at n4 ⊢
          simp only [Bool.true_and, Bool.false_and, Bool.and_false]
          simp (disch := omega) only [go_sem, and_self, and_true, true_and, false_and, and_false, Nat.reduceAdd, Nat.reduceMul, Nat.reduceSub, Nat.reduceLeDiff, Nat.reduceLT, Nat.reduceGT, Nat.reduceEqDiff, Nat.reduceBEq, Int.reduceNeg, Int.reduceEq, Int.reduceLT, Int.reduceLE, Int.reduceBEq, Int.reduceToNat, Int.toNat_natCast, Int.natCast_zero, r24_C0, h1, hi0, hfd, va, n1, n4, g2', List.length_map, w64]
      · have g2' : ((f.params.length : Int) > 4) = True := eq_true (by omega)
        rw [decide_eq_false g2]
        simp only [Bool.true_and, Bool.false_and]
        simp (disch := omega) only [go_sem, and_self, and_true, true_and, false_and, and_false, Nat.reduceAdd, Nat.reduceMul, Nat.reduceSub, Nat.reduceLeDiff, Nat.reduceLT, Nat.reduceGT, Nat.reduceEqDiff, Nat.reduceBEq, Int.reduceNeg, Int.reduceEq, Int.reduceLT, Int.reduceLE, Int.reduceBEq, Int.reduceToNat, Int.toNat_natCast, Int.natCast_zero, r24_C0, h1, hi0, hfd, va, n1, g2', List.length_map, w64]
    · rw [g1] at n1 ⊢
      simp only [Bool.false_and]
      simp (disch := omega) only [go_sem, and_self, and_true, true_and, false_and, and_false, Nat.reduceAdd, Nat.reduceMul, Nat.reduceSub, Nat.reduceLeDiff, Nat.reduceLT, Nat.reduceGT, Nat.reduceEqDiff, Nat.reduceBEq, Int.reduceNeg, Int.reduceEq, Int.reduceLT, Int.reduceLE, Int.reduceBEq, Int.reduceToNat, Int.toNat_natCast, Int.natCast_zero, r24_C0, h1, hi0, hfd, va, n1, List.length_map, w64]
set_option maxHeartbeats 1000000 in
theorem rIs_ok (fs : List Fn) (x : Xp) (hl : fs.length ≤ 1000) (hf : ∀ f ∈ fs, FnIn f) (hm : ∀ f ∈ fs, FnLim f) (hx : x.ok) (hxm : x.lim 2097152) (hxp : x.pre.length ≤ 590) (hp : List Ent) : F tab 24 [.d (progD fs x)] hp = some (.ret (.d (.bool (isP fs x))) hp) := by
  have hi := ris_ok x hx hxm hxp
  have hfd : (fnDs fs).length = fs.length := by rw [fnDs, List.length_map]
  obtain ⟨o, t, p, k, c, s, ns, xs, e1, e2⟩ := prog_as fs x
  have hL := iq_loop fs hl hf hm (iv o) (.str t) (iv p) (iv k) (iv c) (iv s) (.sl (ns.map .str)) (.sl (Xp.encs xs)) fs.length 0 (by omega)
  unfold IqLoop at hL
  rw [List.drop_zero, Int.natCast_zero] at hL
  rw [e1] at hi
  rw [e2]
  refine f24 rfl ?_
  unfold isP
  by_cases g0 : fs.length ≤ 32
  · have g0' : ((fs.length : Int) > 32) = False := eq_false (by omega)
    rw [decide_eq_true g0, Bool.true_and]
    rcases Bool.eq_false_or_eq_true (isV x) with g | g
    · rw [g] at hi ⊢
      simp (disch := omega) only [go_sem, and_self, and_true, true_and, false_and, and_false, Nat.reduceAdd, Nat.reduceMul, Nat.reduceSub, Nat.reduceLeDiff, Nat.reduceLT, Nat.reduceGT, Nat.reduceEqDiff, Nat.reduceBEq, Int.reduceNeg, Int.reduceEq, Int.reduceLT, Int.reduceLE, Int.reduceBEq, Int.reduceToNat, Int.toNat_natCast, Int.natCast_zero, r24_T, hi, hfd, g0', Bool.true_and]
      rw [r24_B0_n]
      erw [hL]
      rcases Bool.eq_false_or_eq_true (fs.all fnV) with g2 | g2 <;> rw [g2] <;> simp only [go_sem, and_self, and_true, true_and, false_and, and_false, Nat.reduceAdd, Nat.reduceMul, Nat.reduceSub, Nat.reduceLeDiff, Nat.reduceLT, Nat.reduceGT, Nat.reduceEqDiff, Nat.reduceBEq, Int.reduceNeg, Int.reduceEq, Int.reduceLT, Int.reduceLE, Int.reduceBEq, Int.reduceToNat, Int.toNat_natCast, Int.natCast_zero, r24]
    · rw [g] at hi ⊢
      simp (disch := omega) only [go_sem, and_self, and_true, true_and, false_and, and_false, Nat.reduceAdd, Nat.reduceMul, Nat.reduceSub, Nat.reduceLeDiff, Nat.reduceLT, Nat.reduceGT, Nat.reduceEqDiff, Nat.reduceBEq, Int.reduceNeg, Int.reduceEq, Int.reduceLT, Int.reduceLE, Int.reduceBEq, Int.reduceToNat, Int.toNat_natCast, Int.natCast_zero, r24_T, r24, hi, hfd, g0', Bool.false_and]
  · have g0' : ((fs.length : Int) > 32) = True := eq_true (by omega)
    rw [decide_eq_false g0, Bool.false_and]
    simp (disch := omega) only [go_sem, and_self, and_true, true_and, false_and, and_false, Nat.reduceAdd, Nat.reduceMul, Nat.reduceSub, Nat.reduceLeDiff, Nat.reduceLT, Nat.reduceGT, Nat.reduceEqDiff, Nat.reduceBEq, Int.reduceNeg, Int.reduceEq, Int.reduceLT, Int.reduceLE, Int.reduceBEq, Int.reduceToNat, Int.toNat_natCast, Int.natCast_zero, r24_T, r24, hi, hfd, g0']
end Go.Pe.T

namespace Go.Pe.T

def namesE : List ByteArray → List ByteArray → Bool
  | x :: a, y :: b => (x.toList == y.toList) && namesE a b
  | _, _ => true

mutual
def sameV : Xp → Xp → Bool
  | .mk o t p k c s ns xs, .mk o' t' p' k' c' s' ns' xs' => o == o' && (t.toList == t'.toList && (p == p' && (k == k' && ((c == c' && s == s') && (ns.length == ns'.length && (xs.length == xs'.length && (namesE ns ns' && sameVs xs xs')))))))
def sameVs : List Xp → List Xp → Bool
  | x :: a, y :: b => sameV x y && sameVs a b
  | _, _ => true
end

theorem sameV_refl : ∀ (x : Xp), sameV x x = true := by
  have names : ∀ (l : List ByteArray), namesE l l = true := by
    intro l
    induction l with
    | nil => rfl
    | cons a l ih => simp [namesE, ih]
  have : ∀ (n : Nat) (x : Xp), SizeOf.sizeOf x ≤ n → sameV x x = true := by
    intro n
    induction n with
    | zero => intro x h; cases x; simp at h
    | succ n ih =>
      intro x h
      obtain ⟨o, t, p, k, c, s, ns, xs⟩ := x
      have hs : ∀ (l : List Xp), (∀ y ∈ l, SizeOf.sizeOf y ≤ n) → sameVs l l = true := by
        intro l
        induction l with
        | nil => intro _; simp [sameVs]
        | cons y l ihl => intro hy; simp [sameVs, ih y (hy y (by simp)), ihl fun z hz => hy z (by simp [hz])]
      simp [sameV, names, hs xs fun y hy => by have := List.sizeOf_lt_of_mem hy; simp at h; omega]
  exact fun x => this _ x (Nat.le_refl _)
end Go.Pe.T

namespace Go.Pe.T

def EqnLoop (a b : List ByteArray) (i : Nat) : Prop :=
  V (F tab) r46_B0 (r46_S0 (.d (.sl (a.map .str))) (.d (.sl (b.map .str))) (.d (iv a.length)) (.d (iv i)) []) = if namesE (a.drop i) (b.drop i) then some (.norm, r46_E0 []) else some (.ret, r46_R (.d (.bool false)) [])
theorem eqn_end (a b : List ByteArray) (i : Nat) (hi : a.length ≤ i) : EqnLoop a b i := by
  have h1 : ((i : Int) < (a.length : Int)) = False := eq_false (by omega)
  have e : namesE [] (b.drop i) = true := by simp [namesE]
  unfold EqnLoop
  rw [r46_B0_eq, List.drop_of_length_le hi, e]
  simp (disch := omega) only [go_sem, and_self, and_true, true_and, false_and, and_false, Nat.reduceAdd, Nat.reduceMul, Nat.reduceSub, Nat.reduceLeDiff, Nat.reduceLT, Nat.reduceGT, Nat.reduceEqDiff, Nat.reduceBEq, Int.reduceNeg, Int.reduceEq, Int.reduceLT, Int.reduceLE, Int.reduceBEq, Int.reduceToNat, Int.toNat_natCast, Int.natCast_zero, r46_C0, h1]
theorem eqn_step (a b : List ByteArray) (hl : a.length ≤ maxLen) (hn : a.length = b.length) (i : Nat) (hi : i < a.length) (ih : EqnLoop a b (i + 1)) : EqnLoop a b i := by
  have hmx : maxLen = 9223372036854775807 := by decide
  have hi' : i < b.length := by omega
  have h1 : ((i : Int) < (a.length : Int)) = True := eq_true (by omega)
  have hi0 : (0 ≤ (i : Int)) = True := eq_true (by omega)
  have va : (a.map D.str)[i]? = some (.str a[i]) := by simp [hi]
  have vb : (b.map D.str)[i]? = some (.str b[i]) := by simp [hi']
  unfold EqnLoop at ih ⊢
  rw [Int.natCast_add, Int.natCast_one] at ih
  rw [r46_B0_eq, List.drop_eq_getElem_cons hi, List.drop_eq_getElem_cons hi']
  simp only [namesE]
  rcases Bool.eq_false_or_eq_true (a[i].toList == b[i].toList) with g | g
  · simp (disch := omega) only [go_sem, and_self, and_true, true_and, false_and, and_false, Nat.reduceAdd, Nat.reduceMul, Nat.reduceSub, Nat.reduceLeDiff, Nat.reduceLT, Nat.reduceGT, Nat.reduceEqDiff, Nat.reduceBEq, Int.reduceNeg, Int.reduceEq, Int.reduceLT, Int.reduceLE, Int.reduceBEq, Int.reduceToNat, Int.toNat_natCast, Int.natCast_zero, r46_C0, h1, hi0, va, vb, List.length_map, g, strD_neq, w64, Bool.true_and]
    exact ih
  · simp (disch := omega) only [go_sem, and_self, and_true, true_and, false_and, and_false, Nat.reduceAdd, Nat.reduceMul, Nat.reduceSub, Nat.reduceLeDiff, Nat.reduceLT, Nat.reduceGT, Nat.reduceEqDiff, Nat.reduceBEq, Int.reduceNeg, Int.reduceEq, Int.reduceLT, Int.reduceLE, Int.reduceBEq, Int.reduceToNat, Int.toNat_natCast, Int.natCast_zero, r46_C0, h1, hi0, va, vb, List.length_map, g, strD_neq, w64, Bool.false_and]
theorem eqn_loop (a b : List ByteArray) (hl : a.length ≤ maxLen) (hn : a.length = b.length) : ∀ (j i : Nat), i + j = a.length → EqnLoop a b i
  | 0, i, hi => eqn_end a b i (by omega)
  | j + 1, i, hi => eqn_step a b hl hn i (by omega) (eqn_loop a b hl hn j (i + 1) (by omega))
theorem eqn_ok (a b : List ByteArray) (hl : a.length ≤ maxLen) (hp : List Ent) : F tab 46 [.d (.sl (a.map .str)), .d (.sl (b.map .str))] hp = some (.ret (.d (.bool (a.length == b.length && namesE a b))) hp) := by
  refine f46 rfl ?_
  by_cases h : a.length = b.length
  · have e : ((a.length : Int) != (b.length : Int)) = false := by simp [h]
    have e2 : (a.length == b.length) = true := by simp [h]
    have hL := eqn_loop a b hl h a.length 0 (by omega)
    unfold EqnLoop at hL
    rw [List.drop_zero, List.drop_zero] at hL
    simp (disch := omega) only [go_sem, and_self, and_true, true_and, false_and, and_false, Nat.reduceAdd, Nat.reduceMul, Nat.reduceSub, Nat.reduceLeDiff, Nat.reduceLT, Nat.reduceGT, Nat.reduceEqDiff, Nat.reduceBEq, Int.reduceNeg, Int.reduceEq, Int.reduceLT, Int.reduceLE, Int.reduceBEq, Int.reduceToNat, Int.toNat_natCast, Int.natCast_zero, r46_T, r46, List.length_map, e, e2, Bool.true_and]
    rw [r46_B0_n]
    erw [hL]
    rcases Bool.eq_false_or_eq_true (namesE a b) with g | g <;> rw [g] <;> simp only [go_sem, and_self, and_true, true_and, false_and, and_false, Nat.reduceAdd, Nat.reduceMul, Nat.reduceSub, Nat.reduceLeDiff, Nat.reduceLT, Nat.reduceGT, Nat.reduceEqDiff, Nat.reduceBEq, Int.reduceNeg, Int.reduceEq, Int.reduceLT, Int.reduceLE, Int.reduceBEq, Int.reduceToNat, Int.toNat_natCast, Int.natCast_zero]
  · have e : ((a.length : Int) != (b.length : Int)) = true := by simp; omega
    have e2 : (a.length == b.length) = false := by simp [h]
    simp (disch := omega) only [go_sem, and_self, and_true, true_and, false_and, and_false, Nat.reduceAdd, Nat.reduceMul, Nat.reduceSub, Nat.reduceLeDiff, Nat.reduceLT, Nat.reduceGT, Nat.reduceEqDiff, Nat.reduceBEq, Int.reduceNeg, Int.reduceEq, Int.reduceLT, Int.reduceLE, Int.reduceBEq, Int.reduceToNat, Int.toNat_natCast, Int.natCast_zero, r46_T, r46, List.length_map, e, e2, Bool.false_and]

def TSameIs (x y : Xp) : Prop := ∀ hp : List Ent, F tab 43 [.d x.enc, .d y.enc] hp = some (.ret (.d (.bool (sameV x y))) hp)

def EqfLoop (a b : List Xp) (i : Nat) : Prop := ∀ hp : List Ent,
  V (F tab) r75_B0 (r75_S0 (.d (.sl (Xp.encs b))) (.fn 43 []) (.d (.sl (Xp.encs a))) (.d (iv a.length)) (.d (iv i)) hp) = if sameVs (a.drop i) (b.drop i) then some (.norm, r75_E0 hp) else some (.ret, r75_R (.d (.bool false)) hp)
theorem eqf_end (a b : List Xp) (i : Nat) (hi : a.length ≤ i) : EqfLoop a b i := by
  intro hp
  have h1 : ((i : Int) < (a.length : Int)) = False := eq_false (by omega)
  have e : sameVs [] (b.drop i) = true := by simp [sameVs]
  rw [r75_B0_eq, List.drop_of_length_le hi, e]
  simp (disch := omega) only [go_sem, and_self, and_true, true_and, false_and, and_false, Nat.reduceAdd, Nat.reduceMul, Nat.reduceSub, Nat.reduceLeDiff, Nat.reduceLT, Nat.reduceGT, Nat.reduceEqDiff, Nat.reduceBEq, Int.reduceNeg, Int.reduceEq, Int.reduceLT, Int.reduceLE, Int.reduceBEq, Int.reduceToNat, Int.toNat_natCast, Int.natCast_zero, r75_C0, h1]
theorem eqf_step (a b : List Xp) (hl : a.length ≤ maxLen) (hn : a.length = b.length) (i : Nat) (hi : i < a.length) (hS : ∀ hi' : i < b.length, TSameIs a[i] b[i]) (ih : EqfLoop a b (i + 1)) : EqfLoop a b i := by
  intro hp
  have hmx : maxLen = 9223372036854775807 := by decide
  have hi' : i < b.length := by omega
  have hS := hS hi'
  have h1 : ((i : Int) < (a.length : Int)) = True := eq_true (by omega)
  have hi0 : (0 ≤ (i : Int)) = True := eq_true (by omega)
  have va : (Xp.encs a)[i]? = some (a[i].enc) := by rw [xencs_get]; simp [hi]
  have vb : (Xp.encs b)[i]? = some (b[i].enc) := by rw [xencs_get]; simp [hi']
  have ih := ih hp
  unfold TSameIs at hS
  rw [Int.natCast_add, Int.natCast_one] at ih
  obtain ⟨_, _, _, _, _, _, _, _, ex⟩ := xenc_as a[i]
  obtain ⟨_, _, _, _, _, _, _, _, ey⟩ := xenc_as b[i]
  rw [ex, ey] at hS
  rw [ex] at va
  rw [ey] at vb
  rw [r75_B0_eq, List.drop_eq_getElem_cons hi, List.drop_eq_getElem_cons hi']
  simp only [sameVs]
  rcases Bool.eq_false_or_eq_true (sameV a[i] b[i]) with g | g
  · simp (disch := omega) only [go_sem, and_self, and_true, true_and, false_and, and_false, Nat.reduceAdd, Nat.reduceMul, Nat.reduceSub, Nat.reduceLeDiff, Nat.reduceLT, Nat.reduceGT, Nat.reduceEqDiff, Nat.reduceBEq, Int.reduceNeg, Int.reduceEq, Int.reduceLT, Int.reduceLE, Int.reduceBEq, Int.reduceToNat, Int.toNat_natCast, Int.natCast_zero, r75_C0, h1, hi0, va, vb, xencs_len, hS, g, w64, Bool.true_and]
    exact ih
  · simp (disch := omega) only [go_sem, and_self, and_true, true_and, false_and, and_false, Nat.reduceAdd, Nat.reduceMul, Nat.reduceSub, Nat.reduceLeDiff, Nat.reduceLT, Nat.reduceGT, Nat.reduceEqDiff, Nat.reduceBEq, Int.reduceNeg, Int.reduceEq, Int.reduceLT, Int.reduceLE, Int.reduceBEq, Int.reduceToNat, Int.toNat_natCast, Int.natCast_zero, r75_C0, h1, hi0, va, vb, xencs_len, hS, g, w64, Bool.false_and]
theorem eqf_loop (a b : List Xp) (hl : a.length ≤ maxLen) (hn : a.length = b.length) (hS : ∀ x ∈ a, ∀ y ∈ b, TSameIs x y) : ∀ (j i : Nat), i + j = a.length → EqfLoop a b i
  | 0, i, hi => eqf_end a b i (by omega)
  | j + 1, i, hi => eqf_step a b hl hn i (by omega) (fun _ => hS _ (List.getElem_mem _) _ (List.getElem_mem _)) (eqf_loop a b hl hn hS j (i + 1) (by omega))
theorem eqf_ok (a b : List Xp) (hl : a.length ≤ maxLen) (hS : ∀ x ∈ a, ∀ y ∈ b, TSameIs x y) (hp : List Ent) : F tab 75 [.d (.sl (Xp.encs a)), .d (.sl (Xp.encs b)), .fn 43 []] hp = some (.ret (.d (.bool (a.length == b.length && sameVs a b))) hp) := by
  refine f75 ?_
  by_cases h : a.length = b.length
  · have e : ((a.length : Int) != (b.length : Int)) = false := by simp [h]
    have e2 : (a.length == b.length) = true := by simp [h]
    have hL := eqf_loop a b hl h hS a.length 0 (by omega) hp
    rw [List.drop_zero, List.drop_zero] at hL
    simp (disch := omega) only [go_sem, and_self, and_true, true_and, false_and, and_false, Nat.reduceAdd, Nat.reduceMul, Nat.reduceSub, Nat.reduceLeDiff, Nat.reduceLT, Nat.reduceGT, Nat.reduceEqDiff, Nat.reduceBEq, Int.reduceNeg, Int.reduceEq, Int.reduceLT, Int.reduceLE, Int.reduceBEq, Int.reduceToNat, Int.toNat_natCast, Int.natCast_zero, r75_T, r75, xencs_len, e, e2, Bool.true_and]
    rw [r75_B0_n]
    erw [hL]
    rcases Bool.eq_false_or_eq_true (sameVs a b) with g | g <;> rw [g] <;> simp only [go_sem, and_self, and_true, true_and, false_and, and_false, Nat.reduceAdd, Nat.reduceMul, Nat.reduceSub, Nat.reduceLeDiff, Nat.reduceLT, Nat.reduceGT, Nat.reduceEqDiff, Nat.reduceBEq, Int.reduceNeg, Int.reduceEq, Int.reduceLT, Int.reduceLE, Int.reduceBEq, Int.reduceToNat, Int.toNat_natCast, Int.natCast_zero]
  · have e : ((a.length : Int) != (b.length : Int)) = true := by simp; omega
    have e2 : (a.length == b.length) = false := by simp [h]
    simp (disch := omega) only [go_sem, and_self, and_true, true_and, false_and, and_false, Nat.reduceAdd, Nat.reduceMul, Nat.reduceSub, Nat.reduceLeDiff, Nat.reduceLT, Nat.reduceGT, Nat.reduceEqDiff, Nat.reduceBEq, Int.reduceNeg, Int.reduceEq, Int.reduceLT, Int.reduceLE, Int.reduceBEq, Int.reduceToNat, Int.toNat_natCast, Int.natCast_zero, r75_T, r75, xencs_len, e, e2, Bool.false_and]

theorem ts_no0 (o p k c s o' p' k' c' s' : Int) (t t' : ByteArray) (ns ns' : List ByteArray) (xs xs' : List Xp)  (zo : (o == o') = false) : TSameIs (.mk o t p k c s ns xs) (.mk o' t' p' k' c' s' ns' xs') := by
  intro heap
  have no : (o != o') = true := by simp only [bne, zo, Bool.not_false]
  refine f43 rfl ?_
  simp (disch := omega) only [go_sem, and_self, and_true, true_and, false_and, and_false, Nat.reduceAdd, Nat.reduceMul, Nat.reduceSub, Nat.reduceLeDiff, Nat.reduceLT, Nat.reduceGT, Nat.reduceEqDiff, Nat.reduceBEq, Int.reduceNeg, Int.reduceEq, Int.reduceLT, Int.reduceLE, Int.reduceBEq, Int.reduceToNat, Int.toNat_natCast, Int.natCast_zero, r43_T, r43, Xp.enc, sameV, eqD_num, strD_neq, zo, no, Bool.false_and, Bool.true_and]

theorem ts_no1 (o p k c s o' p' k' c' s' : Int) (t t' : ByteArray) (ns ns' : List ByteArray) (xs xs' : List Xp)  (zo : (o == o') = true) (zt : (t.toList == t'.toList) = false) : TSameIs (.mk o t p k c s ns xs) (.mk o' t' p' k' c' s' ns' xs') := by
  intro heap
  have no : (o != o') = false := by simp only [bne, zo, Bool.not_true]
  refine f43 rfl ?_
  simp (disch := omega) only [go_sem, and_self, and_true, true_and, false_and, and_false, Nat.reduceAdd, Nat.reduceMul, Nat.reduceSub, Nat.reduceLeDiff, Nat.reduceLT, Nat.reduceGT, Nat.reduceEqDiff, Nat.reduceBEq, Int.reduceNeg, Int.reduceEq, Int.reduceLT, Int.reduceLE, Int.reduceBEq, Int.reduceToNat, Int.toNat_natCast, Int.natCast_zero, r43_T, r43, Xp.enc, sameV, eqD_num, strD_neq, zo, no, zt, Bool.false_and, Bool.true_and]

theorem ts_no2 (o p k c s o' p' k' c' s' : Int) (t t' : ByteArray) (ns ns' : List ByteArray) (xs xs' : List Xp)  (zo : (o == o') = true) (zt : (t.toList == t'.toList) = true) (zp : (p == p') = false) : TSameIs (.mk o t p k c s ns xs) (.mk o' t' p' k' c' s' ns' xs') := by
  intro heap
  have no : (o != o') = false := by simp only [bne, zo, Bool.not_true]
  have np : (p != p') = true := by simp only [bne, zp, Bool.not_false]
  refine f43 rfl ?_
  simp (disch := omega) only [go_sem, and_self, and_true, true_and, false_and, and_false, Nat.reduceAdd, Nat.reduceMul, Nat.reduceSub, Nat.reduceLeDiff, Nat.reduceLT, Nat.reduceGT, Nat.reduceEqDiff, Nat.reduceBEq, Int.reduceNeg, Int.reduceEq, Int.reduceLT, Int.reduceLE, Int.reduceBEq, Int.reduceToNat, Int.toNat_natCast, Int.natCast_zero, r43_T, r43, Xp.enc, sameV, eqD_num, strD_neq, zo, no, zt, zp, np, Bool.false_and, Bool.true_and]

theorem ts_no3 (o p k c s o' p' k' c' s' : Int) (t t' : ByteArray) (ns ns' : List ByteArray) (xs xs' : List Xp)  (zo : (o == o') = true) (zt : (t.toList == t'.toList) = true) (zp : (p == p') = true) (zk : (k == k') = false) : TSameIs (.mk o t p k c s ns xs) (.mk o' t' p' k' c' s' ns' xs') := by
  intro heap
  have no : (o != o') = false := by simp only [bne, zo, Bool.not_true]
  have np : (p != p') = false := by simp only [bne, zp, Bool.not_true]
  have nk : (k != k') = true := by simp only [bne, zk, Bool.not_false]
  refine f43 rfl ?_
  simp (disch := omega) only [go_sem, and_self, and_true, true_and, false_and, and_false, Nat.reduceAdd, Nat.reduceMul, Nat.reduceSub, Nat.reduceLeDiff, Nat.reduceLT, Nat.reduceGT, Nat.reduceEqDiff, Nat.reduceBEq, Int.reduceNeg, Int.reduceEq, Int.reduceLT, Int.reduceLE, Int.reduceBEq, Int.reduceToNat, Int.toNat_natCast, Int.natCast_zero, r43_T, r43, Xp.enc, sameV, eqD_num, strD_neq, zo, no, zt, zp, np, zk, nk, Bool.false_and, Bool.true_and]

theorem ts_no4 (o p k c s o' p' k' c' s' : Int) (t t' : ByteArray) (ns ns' : List ByteArray) (xs xs' : List Xp)  (zo : (o == o') = true) (zt : (t.toList == t'.toList) = true) (zp : (p == p') = true) (zk : (k == k') = true) (zn : ((c == c' && s == s')) = false) : TSameIs (.mk o t p k c s ns xs) (.mk o' t' p' k' c' s' ns' xs') := by
  intro heap
  have no : (o != o') = false := by simp only [bne, zo, Bool.not_true]
  have np : (p != p') = false := by simp only [bne, zp, Bool.not_true]
  have nk : (k != k') = false := by simp only [bne, zk, Bool.not_true]
  refine f43 rfl ?_
  simp (disch := omega) only [go_sem, and_self, and_true, true_and, false_and, and_false, Nat.reduceAdd, Nat.reduceMul, Nat.reduceSub, Nat.reduceLeDiff, Nat.reduceLT, Nat.reduceGT, Nat.reduceEqDiff, Nat.reduceBEq, Int.reduceNeg, Int.reduceEq, Int.reduceLT, Int.reduceLE, Int.reduceBEq, Int.reduceToNat, Int.toNat_natCast, Int.natCast_zero, r43_T, r43, Xp.enc, sameV, eqD_num, strD_neq, zo, no, zt, zp, np, zk, nk, zn, Bool.false_and, Bool.true_and]

theorem ts_yes (o p k c s o' p' k' c' s' : Int) (t t' : ByteArray) (ns ns' : List ByteArray) (xs xs' : List Xp) (zo : (o == o') = true) (zt : (t.toList == t'.toList) = true) (zp : (p == p') = true) (zk : (k == k') = true) (zn : ((c == c' && s == s')) = true) (hl : ns.length ≤ maxLen) (hm : xs.length ≤ maxLen) (hS : ∀ x ∈ xs, ∀ y ∈ xs', TSameIs x y) : TSameIs (.mk o t p k c s ns xs) (.mk o' t' p' k' c' s' ns' xs') := by
  intro heap
  have no : (o != o') = false := by simp only [bne, zo, Bool.not_true]
  have np : (p != p') = false := by simp only [bne, zp, Bool.not_true]
  have nk : (k != k') = false := by simp only [bne, zk, Bool.not_true]
  have h1 := eqn_ok ns ns' hl
  have h2 := eqf_ok xs xs' hm hS
  have e : (ns.length == ns'.length && (xs.length == xs'.length && (namesE ns ns' && sameVs xs xs'))) = ((ns.length == ns'.length && namesE ns ns') && (xs.length == xs'.length && sameVs xs xs')) := by
    cases ns.length == ns'.length <;> cases xs.length == xs'.length <;> cases namesE ns ns' <;> rfl
  refine f43 rfl ?_
  rcases Bool.eq_false_or_eq_true (ns.length == ns'.length && namesE ns ns') with g | g <;>
    simp (disch := omega) only [go_sem, and_self, and_true, true_and, false_and, and_false, Nat.reduceAdd, Nat.reduceMul, Nat.reduceSub, Nat.reduceLeDiff, Nat.reduceLT, Nat.reduceGT, Nat.reduceEqDiff, Nat.reduceBEq, Int.reduceNeg, Int.reduceEq, Int.reduceLT, Int.reduceLE, Int.reduceBEq, Int.reduceToNat, Int.toNat_natCast, Int.natCast_zero, r43_T, r43, Xp.enc, sameV, eqD_num, strD_neq, zo, no, zt, zp, np, zk, nk, zn, h1, h2, e, g, Bool.true_and, Bool.false_and]

theorem tsame_ok : ∀ (x y : Xp), x.ok → y.ok → TSameIs x y
  | .mk o t p k c s ns xs, .mk o' t' p' k' c' s' ns' xs', hx, hy => by
    simp only [Xp.ok] at hx hy
    have hS : ∀ x ∈ xs, ∀ y ∈ xs', TSameIs x y := fun x hx' y hy' => tsame_ok x y (xoks_mem hx.2.2.2.2.2.2.2.2.2 hx') (xoks_mem hy.2.2.2.2.2.2.2.2.2 hy')
    rcases Bool.eq_false_or_eq_true (o == o') with zo | zo
    rotate_left
    · exact ts_no0 o p k c s o' p' k' c' s' t t' ns ns' xs xs' zo
    rcases Bool.eq_false_or_eq_true (t.toList == t'.toList) with zt | zt
    rotate_left
    · exact ts_no1 o p k c s o' p' k' c' s' t t' ns ns' xs xs' zo zt
    rcases Bool.eq_false_or_eq_true (p == p') with zp | zp
    rotate_left
    · exact ts_no2 o p k c s o' p' k' c' s' t t' ns ns' xs xs' zo zt zp
    rcases Bool.eq_false_or_eq_true (k == k') with zk | zk
    rotate_left
    · exact ts_no3 o p k c s o' p' k' c' s' t t' ns ns' xs xs' zo zt zp zk
    rcases Bool.eq_false_or_eq_true ((c == c' && s == s')) with zn | zn
    rotate_left
    · exact ts_no4 o p k c s o' p' k' c' s' t t' ns ns' xs xs' zo zt zp zk zn
    exact ts_yes o p k c s o' p' k' c' s' t t' ns ns' xs xs' zo zt zp zk zn hx.2.2.2.2.2.2.1 hx.2.2.2.2.2.2.2.2.1 hS
end Go.Pe.T

namespace Go.Pe.T
theorem namesE_refl : ∀ (l : List ByteArray), namesE l l = true := by
  intro l
  induction l with
  | nil => rfl
  | cons a l ih => simp [namesE, ih]
theorem eqn_refl (a : List ByteArray) (hl : a.length ≤ maxLen) (hp : List Ent) : F tab 46 [.d (.sl (a.map .str)), .d (.sl (a.map .str))] hp = some (.ret (.d (.bool true)) hp) := by
  have := eqn_ok a a hl hp
  rw [namesE_refl] at this
  simpa using this
theorem tsame_refl (x : Xp) (hx : x.ok) (hp : List Ent) : F tab 43 [.d x.enc, .d x.enc] hp = some (.ret (.d (.bool true)) hp) := by
  have := tsame_ok x x hx hx hp
  rwa [sameV_refl] at this
set_option maxHeartbeats 1000000 in
theorem fsame_refl (f : Fn) (hf : FnIn f) (hp : List Ent) : F tab 45 [.d f.enc, .d f.enc] hp = some (.ret (.d (.bool true)) hp) := by
  have n1 := eqn_refl f.params hf.params
  have n2 := tsame_refl f.body hf.body
  obtain ⟨o', t', p', k', c', s', ns', xs', e1, e2⟩ := fn_as' f
  rw [e1] at n2
  rw [e2]
  have q : (f.name.toList == f.name.toList) = true := by simp
  refine f45 rfl ?_
  simp (disch := omega) only [go_sem, and_self, and_true, true_and, false_and, and_false, Nat.reduceAdd, Nat.reduceMul, Nat.reduceSub, Nat.reduceLeDiff, Nat.reduceLT, Nat.reduceGT, Nat.reduceEqDiff, Nat.reduceBEq, Int.reduceNeg, Int.reduceEq, Int.reduceLT, Int.reduceLE, Int.reduceBEq, Int.reduceToNat, Int.toNat_natCast, Int.natCast_zero, strD, r45_T, r45, n1, n2, q]
def EfLoop (fs : List Fn) (i : Nat) (hp : List Ent) : Prop :=
  V (F tab) r44_B0 (r44_S0 (.d (.sl (fnDs fs))) (.fn 45 []) (.d (.sl (fnDs fs))) (.d (iv fs.length)) (.d (iv i)) hp) = some (.norm, r44_E0 hp)
theorem ef_loop (fs : List Fn) (hl : fs.length ≤ 1000) (hf : ∀ f ∈ fs, FnIn f) (hp : List Ent) : ∀ (j i : Nat), i + j = fs.length → EfLoop fs i hp
  | 0, i, hi => by
    have h1 : ((i : Int) < (fs.length : Int)) = False := eq_false (by omega)
    unfold EfLoop
    rw [r44_B0_eq]
    simp (disch := omega) only [go_sem, and_self, and_true, true_and, false_and, and_false, Nat.reduceAdd, Nat.reduceMul, Nat.reduceSub, Nat.reduceLeDiff, Nat.reduceLT, Nat.reduceGT, Nat.reduceEqDiff, Nat.reduceBEq, Int.reduceNeg, Int.reduceEq, Int.reduceLT, Int.reduceLE, Int.reduceBEq, Int.reduceToNat, Int.toNat_natCast, Int.natCast_zero, r44_C0, h1]
  | j + 1, i, hi => by
    have ih := ef_loop fs hl hf hp j (i + 1) (by omega)
    have hi1 : i < fs.length := by omega
    have h1 : ((i : Int) < (fs.length : Int)) = True := eq_true (by omega)
    have hi0 : (0 ≤ (i : Int)) = True := eq_true (by omega)
    have va : (fnDs fs)[i]? = some fs[i].enc := by rw [fnDs, List.getElem?_map, List.getElem?_eq_getElem hi1]; rfl
    have hs := fsame_refl fs[i] (hf _ (List.getElem_mem hi1))
    unfold EfLoop at ih ⊢
    rw [Int.natCast_add, Int.natCast_one] at ih
    rw [r44_B0_eq]
    generalize fs[i] = f at *
    obtain ⟨o', t', p', k', c', s', ns', xs', e1, e2⟩ := fn_as' f
    rw [e2] at va hs
    simp (disch := omega) only [go_sem, and_self, and_true, true_and, false_and, and_false, Nat.reduceAdd, Nat.reduceMul, Nat.reduceSub, Nat.reduceLeDiff, Nat.reduceLT, Nat.reduceGT, Nat.reduceEqDiff, Nat.reduceBEq, Int.reduceNeg, Int.reduceEq, Int.reduceLT, Int.reduceLE, Int.reduceBEq, Int.reduceToNat, Int.toNat_natCast, Int.natCast_zero, r44_C0, h1, hi0, va, hs, w64]
    exact ih
theorem ef_ok (fs : List Fn) (hl : fs.length ≤ 1000) (hf : ∀ f ∈ fs, FnIn f) (hp : List Ent) : F tab 44 [.d (.sl (fnDs fs)), .d (.sl (fnDs fs)), .fn 45 []] hp = some (.ret (.d (.bool true)) hp) := by
  have hfd : (fnDs fs).length = fs.length := by rw [fnDs, List.length_map]
  have q : ((fs.length : Int) != (fs.length : Int)) = false := by simp
  have hL := ef_loop fs hl hf hp fs.length 0 (by omega)
  unfold EfLoop at hL
  rw [Int.natCast_zero] at hL
  refine f44 ?_
  simp (disch := omega) only [go_sem, and_self, and_true, true_and, false_and, and_false, Nat.reduceAdd, Nat.reduceMul, Nat.reduceSub, Nat.reduceLeDiff, Nat.reduceLT, Nat.reduceGT, Nat.reduceEqDiff, Nat.reduceBEq, Int.reduceNeg, Int.reduceEq, Int.reduceLT, Int.reduceLE, Int.reduceBEq, Int.reduceToNat, Int.toNat_natCast, Int.natCast_zero, r44_T, hfd, q]
  rw [r44_B0_n]
  erw [hL]
  simp only [go_sem, and_self, and_true, true_and, false_and, and_false, Nat.reduceAdd, Nat.reduceMul, Nat.reduceSub, Nat.reduceLeDiff, Nat.reduceLT, Nat.reduceGT, Nat.reduceEqDiff, Nat.reduceBEq, Int.reduceNeg, Int.reduceEq, Int.reduceLT, Int.reduceLE, Int.reduceBEq, Int.reduceToNat, Int.toNat_natCast, Int.natCast_zero, r44]
set_option maxHeartbeats 1000000 in
theorem psame_refl (fs : List Fn) (x : Xp) (hl : fs.length ≤ 1000) (hf : ∀ f ∈ fs, FnIn f) (hx : x.ok) (hp : List Ent) : F tab 26 [.d (progD fs x), .d (progD fs x)] hp = some (.ret (.d (.bool true)) hp) := by
  have n1 := ef_ok fs hl hf
  have n2 := tsame_refl x hx
  obtain ⟨o, t, p, k, c, s, ns, xs, e1, e2⟩ := prog_as fs x
  rw [e1] at n2
  rw [e2]
  refine f26 rfl ?_
  simp (disch := omega) only [go_sem, and_self, and_true, true_and, false_and, and_false, Nat.reduceAdd, Nat.reduceMul, Nat.reduceSub, Nat.reduceLeDiff, Nat.reduceLT, Nat.reduceGT, Nat.reduceEqDiff, Nat.reduceBEq, Int.reduceNeg, Int.reduceEq, Int.reduceLT, Int.reduceLE, Int.reduceBEq, Int.reduceToNat, Int.toNat_natCast, Int.natCast_zero, r26_T, r26, n1, n2]
end Go.Pe.T

namespace Go.Pe.T
theorem fits_zero {o : Int} {t : ByteArray} {p k c s : Int} {ns : List ByteArray} {xs : List Xp} (h : fitsV (.mk o t p k c s ns xs) = true) : p = 0 ∧ (xs.length ≤ 100000 → ns.length ≤ 1000000) := by
  unfold fitsV at h
  simp only [Bool.and_eq_true, beq_iff_eq, decide_eq_true_eq] at h
  obtain ⟨_, h1, _, _, _, h2⟩ := h
  refine ⟨h1, fun hx => ?_⟩
  unfold namesV at h2
  split at h2
  · simp only [beq_iff_eq] at h2; omega
  · split at h2
    · simp only [Bool.and_eq_true, beq_iff_eq] at h2; omega
    · unfold name2 at h2
      split at h2
      · simp
      · simp at h2
mutual
theorem zero_of : ∀ (x : Xp), (x.pre.all fitsV) = true → zeroX x
  | .mk o t p k c s ns xs, h => by
    rw [Xp.pre, List.all_cons, Bool.and_eq_true] at h
    rw [zeroX]
    exact ⟨(fits_zero h.1).1, zeros_of xs h.2⟩
theorem zeros_of : ∀ (xs : List Xp), ((Xp.pres xs).all fitsV) = true → zeroXs xs
  | [], _ => trivial
  | x :: r, h => by
    rw [Xp.pres, List.all_append, Bool.and_eq_true] at h
    rw [zeroXs]
    exact ⟨zero_of x h.1, zeros_of r h.2⟩
end
mutual
theorem few_of : ∀ (x : Xp), x.pre.length ≤ 100000 → (x.pre.all fitsV) = true → xfew x
  | .mk o t p k c s ns xs, hl, h => by
    rw [Xp.pre, List.length_cons] at hl
    rw [Xp.pre, List.all_cons, Bool.and_eq_true] at h
    rw [xfew]
    have := pres_len xs
    exact ⟨(fits_zero h.1).2 (by omega), fews_of xs (by omega) h.2⟩
theorem fews_of : ∀ (xs : List Xp), (Xp.pres xs).length ≤ 100000 → ((Xp.pres xs).all fitsV) = true → xfews xs
  | [], _, _ => trivial
  | x :: r, hl, h => by
    rw [Xp.pres, List.length_append] at hl
    rw [Xp.pres, List.all_append, Bool.and_eq_true] at h
    rw [xfews]
    exact ⟨few_of x (by omega) h.1, fews_of r (by omega) h.2⟩
end
end Go.Pe.T

namespace Go.Pe.T
theorem lastI_lt (xs : List ByteArray) (nm : ByteArray) : ∀ (n i : Nat), lastI xs nm n = some i → i < n
  | 0, i, h => by simp [lastI] at h
  | n + 1, i, h => by
    rw [lastI] at h
    split at h
    · split at h
      · simp only [Option.some.injEq] at h; omega
      · have := lastI_lt xs nm n i h; omega
    · have := lastI_lt xs nm n i h; omega
theorem lastF_lt (fs : List Fn) (nm : ByteArray) (m : Nat) : ∀ (n i : Nat), lastF fs nm m n = some i → i < n
  | 0, i, h => by simp [lastF] at h
  | n + 1, i, h => by
    rw [lastF] at h
    split at h
    · split at h
      · simp only [Option.some.injEq] at h; omega
      · have := lastF_lt fs nm m n i h; omega
    · have := lastF_lt fs nm m n i h; omega
theorem bfind_lt (xs : List ByteArray) (nm : ByteArray) (n : Int) : ∀ (j i : Nat), bfind nm n xs j = some i → i < j + xs.length := by
  induction xs with
  | nil => intro j i h; simp [bfind] at h
  | cons x r ih =>
    intro j i h
    rw [bfind] at h
    split at h
    · simp only [Option.some.injEq] at h; simp; omega
    · have := ih (j + 1) i h; simp; omega
theorem atV_small (fs : List Fn) (hfl : fs.length ≤ 1000) (vs ls : List ByteArray) (hv : vs.length ≤ 1000000) (hl : ls.length ≤ 1000000) (o : Int) (t : ByteArray) (p : Int) (n : Nat) (hp : i64 p) (i : Int) (h : atV fs vs ls o t p n = some i) : i64 i := by
  unfold atV at h
  have key : ∀ j : Nat, j ≤ 2000000 → i64 (j : Int) := fun j hj => by unfold i64; omega
  split at h
  · cases hc : lastV vs t with
    | none => rw [hc] at h; simp at h
    | some j =>
      rw [hc] at h
      have e : (j : Int) = i := by simpa using h
      have := lastI_lt vs t _ _ hc
      rw [← e]
      exact key j (by omega)
  · split at h
    · unfold callV at h
      cases hc : lastF fs t n fs.length with
      | some j =>
        rw [hc] at h
        have := lastF_lt fs t n _ _ hc
        simp only [Option.some.injEq] at h
        rw [← h]
        exact key j (by omega)
      | none =>
        rw [hc] at h
        simp only at h
        cases hb : bfind t n namesL 0 with
        | none => rw [hb] at h; simp at h
        | some j =>
          rw [hb] at h
          have e : (1000 : Int) + (j : Int) = i := by simpa using h
          have := bfind_lt namesL t n 0 j hb
          have e2 : namesL.length = 31 := by decide
          have := key (1000 + j) (by omega)
          rw [Int.natCast_add] at this
          rw [← e]
          exact this
    · split at h
      · cases hc : lastV ls t with
        | none => rw [hc] at h; simp at h
        | some j =>
          rw [hc] at h
          have e : (j : Int) = i := by simpa using h
          have := lastI_lt ls t _ _ hc
          rw [← e]
          exact key j (by omega)
      · split at h
        · simp only [Option.some.injEq] at h
          rw [← h]
          exact key _ (by omega)
        · simp only [Option.some.injEq] at h
          rw [← h]
          exact hp
mutual
theorem rx_okd (fs : List Fn) (hfl : fs.length ≤ 1000) : ∀ (x : Xp) (vs ls : List ByteArray) (y : Xp), x.ok → vs.length + x.pre.length ≤ 1000000 → ls.length + x.pre.length ≤ 1000000 → resX fs vs ls x = .ok y → y.ok
  | .mk o t p k c s ns xs, vs, ls, y, hx, hv, hl, h => by
    simp only [Xp.pre, List.length_cons] at hv hl
    rw [Xp.ok] at hx
    obtain ⟨a1, a2, a3, a4, a5, a6, a7, a8, a9, a10⟩ := hx
    rw [resX] at h
    split at h
    · simp at h
    · rename_i p' hp'
      split at h
      · simp at h
      · rename_i ys hys
        cases h
        have hle := resL_len fs vs ls o t xs 0 ys hys
        rw [Xp.ok]
        exact ⟨a1, a2, atV_small fs hfl vs ls (by omega) (by omega) o t p _ a3 _ hp', a4, a5, a6, a7, a8, by omega, rl_okd fs hfl o t xs vs ls 0 ys a10 (by omega) (by omega) hys⟩
theorem rl_okd (fs : List Fn) (hfl : fs.length ≤ 1000) (o : Int) (t : ByteArray) : ∀ (xs : List Xp) (vs ls : List ByteArray) (i : Nat) (ys : List Xp), Xp.oks xs → vs.length + 1 + (Xp.pres xs).length ≤ 1000000 → ls.length + 1 + (Xp.pres xs).length ≤ 1000000 → resL fs vs ls o t i xs = .ok ys → Xp.oks ys
  | [], vs, ls, i, ys, hx, hv, hl, h => by
    rw [resL] at h
    cases h
    trivial
  | x :: r, vs, ls, i, ys, hx, hv, hl, h => by
    simp only [Xp.pres, List.length_append] at hv hl
    rw [Xp.oks] at hx
    rw [resL] at h
    split at h
    · simp at h
    · rename_i y hy
      split at h
      · simp at h
      · rename_i zs hzs
        cases h
        rw [Xp.oks]
        refine ⟨rx_okd fs hfl x _ _ y hx.1 ?_ ?_ hy, rl_okd fs hfl o t r vs ls (i + 1) zs hx.2 (by omega) (by omega) hzs⟩
        · have : (inVars o t i vs).length ≤ vs.length + 1 := by unfold inVars; split <;> simp
          omega
        · have : (inLabs o t ls).length ≤ ls.length + 1 := by unfold inLabs; split <;> simp
          omega
end
theorem rf_okd (fs : List Fn) (hfl : fs.length ≤ 1000) : ∀ (rest : List Fn) (i : Nat) (gs : List Fn), (∀ f ∈ rest, FnIn f ∧ FnOk f) → resF fs i rest = .ok gs → (∀ g ∈ gs, FnIn g) ∧ gs.length = rest.length
  | [], i, gs, hf, h => by
    rw [resF] at h
    cases h
    exact ⟨by simp, rfl⟩
  | f :: r, i, gs, hf, h => by
    rw [resF] at h
    split at h
    · simp at h
    · rename_i y hy
      split at h
      · simp at h
      · rename_i hs hhs
        cases h
        obtain ⟨h1, h2⟩ := rf_okd fs hfl r (i + 1) hs (fun g hg => hf g (by simp [hg])) hhs
        obtain ⟨k1, k2⟩ := hf f (by simp)
        have p1 := k2.pre
        have p2 := k2.params
        have hy' := rx_okd (fs.take (i + 1)) (by rw [List.length_take]; omega) f.body f.params [] y k1.body (by omega) (by simp; omega) hy
        refine ⟨?_, by simp [h2]⟩
        intro g hg
        rcases List.mem_cons.1 hg with rfl | hg
        · exact ⟨k1.name, k1.params, k1.pars, hy'⟩
        · exact h1 g hg
set_option maxHeartbeats 4000000 in
theorem ScopeResolves_ok (fs : List Fn) (x : Xp) (hin : fs.length ≤ maxLen ∧ (∀ f ∈ fs, FnIn f) ∧ x.ok) (hlm : x.lim 1048576 ∧ ∀ f ∈ fs, f.body.lim 1048576) (hp : List Ent) : F tab 6 [.d (progD fs x)] hp = some (.ret (.d (.bool true)) hp) := by
  obtain ⟨hfl, hf, hx⟩ := hin
  have hmx : maxLen = 9223372036854775807 := by decide
  have hlv := slives_ok
  have hL := lightP_ok fs x hfl hf hx
  obtain ⟨o, t, p, k, c, s, ns, xs, e1, e2⟩ := prog_as fs x
  have q00 : ((0 : Int) == 0) = true := rfl
  have q11 : ((1 : Int) == 1) = true := rfl
  have q15 : ((15 : Int) == 15) = true := rfl
  have qn : ((⟨#[]⟩ : ByteArray).toList == (⟨#[]⟩ : ByteArray).toList) = true := by simp
  rcases Bool.eq_false_or_eq_true (lightP fs x) with gl | gl
  · have gl' := gl
    unfold lightP at gl'
    simp only [Bool.and_eq_true, decide_eq_true_eq, List.all_eq_true] at gl'
    obtain ⟨l1, l2, l3⟩ := gl'
    have hfl' : fs.length ≤ 1000 := by omega
    have hlt : ∀ f ∈ fs, f.params.length ≤ 20 ∧ f.body.pre.length ≤ 590 := by
      intro f hff
      rw [List.take_of_length_le (by omega)] at l1
      have := l1 f hff
      unfold fnL at this
      simpa using this
    have hI := sIs_ok fs x hfl' hf hx
    have hR := rIs_ok fs x hfl' hf (fun f hff => ⟨lim_mono (by omega) _ (hlm.2 f hff), (hlt f hff).2⟩) hx (lim_mono (by omega) _ hlm.1) l3
    rw [gl] at hL
    rcases Bool.eq_false_or_eq_true (isP fs x) with gi | gi
    · have gi' := gi
      unfold isP at gi'
      simp only [Bool.and_eq_true, decide_eq_true_eq, List.all_eq_true] at gi'
      obtain ⟨i1, i2, i3⟩ := gi'
      unfold isV at i2
      rw [Bool.and_eq_true, decide_eq_true_eq] at i2
      have hz := zero_of x i2.2
      have hfw := few_of x (by omega) i2.2
      have hfp : ∀ f ∈ fs, (f.body.pre.all fitsV) = true := by
        intro f hff
        have := i3 f hff
        unfold fnV at this
        simp only [Bool.and_eq_true, decide_eq_true_eq] at this
        have := this.2.2.2
        unfold isV at this
        rw [Bool.and_eq_true, decide_eq_true_eq] at this
        exact this.2
      have hok : ∀ f ∈ fs, FnOk f := fun f hff => ⟨by have := (hlt f hff).1; omega, few_of _ (by have := (hlt f hff).2; omega) (hfp f hff), by have := (hlt f hff).2; omega⟩
      have hzf : ∀ f ∈ fs, zeroX f.body := fun f hff => zero_of _ (hfp f hff)
      rw [gi] at hI hR
      have hI1 : ∀ hp, F tab 16 [.d (progD fs x)] hp = some (.ret (.d (.bool true)) hp) := hI
      have hW := rres_ok fs x hfl' hok hzf hz (by omega)
      have zs := psame_refl [] (.mk 0 nilB 0 0 0 0 [] []) (by simp) (by simp) (by simp [Xp.ok, Xp.oks, i64, nilB, hmx]; decide)
      have zz : progD [] (.mk 0 nilB 0 0 0 0 [] []) = zpD := rfl
      rw [zz] at zs
      unfold zpD at zs
      unfold resP at hW
      cases hr : resF fs 0 fs with
      | lost nm =>
        have r1 := res_lostF fs x nm hfl' hok hI1 hr
        rw [hr] at hW
        simp only [rrD] at hW
        unfold zpD at r1 hW
        have qm : (nm.toList == nm.toList) = true := by simp
        rw [e2] at hL hR r1 hW ⊢
        refine f6 rfl ?_
        simp (disch := omega) only [go_sem, and_self, and_true, true_and, false_and, and_false, Nat.reduceAdd, Nat.reduceMul, Nat.reduceSub, Nat.reduceLeDiff, Nat.reduceLT, Nat.reduceGT, Nat.reduceEqDiff, Nat.reduceBEq, Int.reduceNeg, Int.reduceEq, Int.reduceLT, Int.reduceLE, Int.reduceBEq, Int.reduceToNat, Int.toNat_natCast, Int.natCast_zero, strD, r6_T, r6, hL, hR, r1, hW, hlv, zs, qm, q15]
      | ok gs =>
        have r1 := res_ok fs x gs hfl' hok hfw (by omega) hI1 hr
        obtain ⟨g1, g2⟩ := rf_okd fs hfl' fs 0 gs (fun f hff => ⟨hf f hff, hok f hff⟩) hr
        rw [hr] at hW
        simp only at hW
        cases hq : resX fs [] [] x with
        | lost nm =>
          rw [hq] at r1 hW
          simp only [rrD] at r1 hW
          unfold zpD at r1 hW
          have qm : (nm.toList == nm.toList) = true := by simp
          rw [e2] at hL hR r1 hW ⊢
          refine f6 rfl ?_
          simp (disch := omega) only [go_sem, and_self, and_true, true_and, false_and, and_false, Nat.reduceAdd, Nat.reduceMul, Nat.reduceSub, Nat.reduceLeDiff, Nat.reduceLT, Nat.reduceGT, Nat.reduceEqDiff, Nat.reduceBEq, Int.reduceNeg, Int.reduceEq, Int.reduceLT, Int.reduceLE, Int.reduceBEq, Int.reduceToNat, Int.toNat_natCast, Int.natCast_zero, strD, r6_T, r6, hL, hR, r1, hW, hlv, zs, qm, q15]
        | ok y =>
          rw [hq] at r1 hW
          simp only [rrD] at r1 hW
          have hy := rx_okd fs hfl' x [] [] y hx (by simp; omega) (by simp; omega) hq
          have ys := psame_refl gs y (by omega) g1 hy
          obtain ⟨oy, ty, py, ky, cy, sy, nsy, xsy, ey, e4⟩ := prog_as gs y
          unfold nilB at r1 hW
          rw [e4] at r1 hW ys
          rw [e2] at hL hR r1 hW ⊢
          refine f6 rfl ?_
          simp (disch := omega) only [go_sem, and_self, and_true, true_and, false_and, and_false, Nat.reduceAdd, Nat.reduceMul, Nat.reduceSub, Nat.reduceLeDiff, Nat.reduceLT, Nat.reduceGT, Nat.reduceEqDiff, Nat.reduceBEq, Int.reduceNeg, Int.reduceEq, Int.reduceLT, Int.reduceLE, Int.reduceBEq, Int.reduceToNat, Int.toNat_natCast, Int.natCast_zero, strD, r6_T, r6, hL, hR, r1, hW, hlv, ys, qn, q00]
    · rw [gi] at hI hR
      have r1 := res_no fs x hI
      unfold zpD nilB at r1
      rw [e2] at hL hR r1 ⊢
      refine f6 rfl ?_
      simp (disch := omega) only [go_sem, and_self, and_true, true_and, false_and, and_false, Nat.reduceAdd, Nat.reduceMul, Nat.reduceSub, Nat.reduceLeDiff, Nat.reduceLT, Nat.reduceGT, Nat.reduceEqDiff, Nat.reduceBEq, Int.reduceNeg, Int.reduceEq, Int.reduceLT, Int.reduceLE, Int.reduceBEq, Int.reduceToNat, Int.toNat_natCast, Int.natCast_zero, strD, r6_T, r6, hL, hR, r1, hlv, qn, q00, q11, List.length_nil]
  · rw [gl] at hL
    rw [e2] at hL ⊢
    refine f6 rfl ?_
    simp (disch := omega) only [go_sem, and_self, and_true, true_and, false_and, and_false, Nat.reduceAdd, Nat.reduceMul, Nat.reduceSub, Nat.reduceLeDiff, Nat.reduceLT, Nat.reduceGT, Nat.reduceEqDiff, Nat.reduceBEq, Int.reduceNeg, Int.reduceEq, Int.reduceLT, Int.reduceLE, Int.reduceBEq, Int.reduceToNat, Int.toNat_natCast, Int.natCast_zero, r6_T, r6, hL, hlv]
end Go.Pe.T

namespace Go.Pe.T
section
variable {H : Type} {P : Program}
theorem lift_fn {tV tF tN tPs tS : TypeId} (hT : XpT P tV) {fF : Array Field} (h4 : P.underlying tF = some (.struct fF)) (h5 : fF.toList.map (·.type) = [tN, tPs, tV])
    (h6 : P.underlying tN = some .string) (h7 : P.underlying tPs = some (.slice tS)) (h8 : P.underlying tS = some .string) {d : DataW H} {y : D} (h : Lift P tF d y.cells) (ha : y.isAgg = aggT P tF) : ∃ f : Fn, FnIn f ∧ y = f.enc := by
  have hagg : aggT P tF = true := by simp [aggT, h4]
  have hy := agg_cells (y := y) (by rw [ha, hagg])
  obtain ⟨ds, l0⟩ := lift_st h4 h
  rw [h5] at l0
  obtain ⟨_, _, a1, b1, q1, m1, l1⟩ := lifts_cons l0
  obtain ⟨_, _, a2, b2, q2, m2, l2⟩ := lifts_cons l1
  obtain ⟨_, _, a3, b3, q3, m3, l3⟩ := lifts_cons l2
  obtain rfl := lifts_nil l3
  obtain ⟨nm, rfl, k1⟩ := lift_str h6 m1
  obtain ⟨ps, rfl, k2, k3⟩ := lift_strs h7 h8 m2
  obtain ⟨v, k4, k5⟩ := lift_xp hT _ _ a3 (Nat.le_refl _) m3
  refine ⟨⟨nm, ps, v⟩, ⟨k1, k2, k3, k4⟩, ?_⟩
  rw [hy, q1, q2, q3, Fn.enc, ← k5]
  simp [D.cells]
theorem lift_prog {tV tP tFs tF tN tPs tS : TypeId} (hT : XpT P tV) {fP fF : Array Field} (h1 : P.underlying tP = some (.struct fP)) (h2 : fP.toList.map (·.type) = [tFs, tV]) (h3 : P.underlying tFs = some (.slice tF))
    (h4 : P.underlying tF = some (.struct fF)) (h5 : fF.toList.map (·.type) = [tN, tPs, tV]) (h6 : P.underlying tN = some .string) (h7 : P.underlying tPs = some (.slice tS)) (h8 : P.underlying tS = some .string)
    {d : DataW H} {x : D} (h : Lift P tP d x.cells) (ha : x.isAgg = aggT P tP) : ∃ (fs : List Fn) (v : Xp), (fs.length ≤ maxLen ∧ (∀ f ∈ fs, FnIn f) ∧ v.ok) ∧ x = progD fs v := by
  have hagg : aggT P tP = true := by simp [aggT, h1]
  have hx := agg_cells (y := x) (by rw [ha, hagg])
  obtain ⟨ds, l0⟩ := lift_st h1 h
  rw [h2] at l0
  obtain ⟨_, _, a1, b1, q1, m1, l1⟩ := lifts_cons l0
  obtain ⟨_, _, a2, b2, q2, m2, l2⟩ := lifts_cons l1
  obtain rfl := lifts_nil l2
  obtain ⟨ys, rfl, k9, k10⟩ := lift_sl h3 m1
  obtain ⟨v, k4, k5⟩ := lift_xp hT _ _ a2 (Nat.le_refl _) m2
  have key : ∀ zs : List D, (∀ y ∈ zs, y ∈ ys) → ∃ fs : List Fn, (∀ f ∈ fs, FnIn f) ∧ zs = fnDs fs := by
    intro zs
    induction zs with
    | nil => exact fun _ => ⟨[], by simp, rfl⟩
    | cons y zs ih =>
      intro hz
      obtain ⟨fs, v1, v2⟩ := ih fun y hy => hz y (by simp [hy])
      obtain ⟨g1, d', g2⟩ := k10 y (hz y (by simp))
      obtain ⟨f, w1, w2⟩ := lift_fn hT h4 h5 h6 h7 h8 g2 g1
      exact ⟨f :: fs, by simpa using ⟨w1, v1⟩, by rw [v2, w2]; rfl⟩
  obtain ⟨fs, v1, v2⟩ := key ys (fun _ h => h)
  refine ⟨fs, v, ⟨?_, v1, k4⟩, ?_⟩
  · rw [v2, fnDs, List.length_map] at k9
    exact k9
  · rw [hx, q1, q2, progD, ← k5, v2]
    simp [D.cells]
end
theorem prog_small {N : Nat} (fs : List Fn) (v : Xp) (h : D.small N (progD fs v)) : v.lim N ∧ ∀ f ∈ fs, f.body.lim N := by
  obtain ⟨o, t, p, k, c, s, ns, xs⟩ := v
  simp only [progD, Xp.enc, D.cells, D.small, D.smalls, true_and, and_true] at h
  obtain ⟨h1, h2, h3, h4⟩ := h
  refine ⟨⟨h2, fun x hx => smalls_iff.1 h3 (.str x) (List.mem_map_of_mem hx), lims_small xs h4⟩, fun f hf => ?_⟩
  have h5 := smalls_iff.1 h1 f.enc (List.mem_map_of_mem hf)
  have h6 : D.smalls N (.str f.name :: .sl (f.params.map .str) :: f.body.enc.cells) := by simpa only [Fn.enc, D.small] using h5
  simp only [D.smalls] at h6
  refine lim_small f.body (small_cells ?_)
  exact smalls_iff.1 h6.2.2
end Go.Pe.T


