/- A part of the proof of: Any program, resolved, or the first name in it that leads nowhere, is what the document says, where what comes in has at most 1048576 values and letters. -/
import Derived.Test.YtfmcckohbjhbhaaSr3
set_option linter.unusedSimpArgs false
set_option linter.unusedVariables false
set_option maxRecDepth 10000

namespace Go.Pe.T

def keysL : List ByteArray := [⟨#[100, 101, 102]⟩, ⟨#[105, 102]⟩, ⟨#[116, 104, 101, 110]⟩, ⟨#[101, 108, 115, 101]⟩, ⟨#[101, 110, 100]⟩, ⟨#[116, 114, 121]⟩, ⟨#[99, 97, 116, 99, 104]⟩, ⟨#[114, 101, 100, 117, 99, 101]⟩, ⟨#[102, 111, 114, 101, 97, 99, 104]⟩, ⟨#[97, 115]⟩, ⟨#[108, 97, 98, 101, 108]⟩, ⟨#[98, 114, 101, 97, 107]⟩, ⟨#[97, 110, 100]⟩, ⟨#[111, 114]⟩, ⟨#[116, 114, 117, 101]⟩, ⟨#[102, 97, 108, 115, 101]⟩, ⟨#[110, 117, 108, 108]⟩, ⟨#[101, 109, 112, 116, 121]⟩, ⟨#[114, 101, 108, 101, 97, 115, 101]⟩, ⟨#[114, 97, 110, 103, 101]⟩]
def keyB (s : ByteArray) : Bool := keysL.any fun k => s.toList == k.toList
def okI (i : Nat) (c : UInt8) : Bool := letB c.toNat || (decide (i > 0) && digB c.toNat)
def runL : Nat → List UInt8 → Nat
  | _, [] => 0
  | i, c :: r => if okI i c then runL (i + 1) r + 1 else 0
theorem runL_le : ∀ (l : List UInt8) (i : Nat), runL i l ≤ l.length
  | [], i => Nat.le_refl _
  | c :: r, i => by
    have := runL_le r (i + 1)
    simp only [runL, List.length_cons]
    split <;> omega
def identB (s : ByteArray) : Bool := decide (s.size ≠ 0) && (decide (s.size ≤ 16) && (decide (runL 0 (bs s) = s.size) && !keyB s))

def WdLoop (s : ByteArray) (i : Nat) : Prop :=
  V (F tab) r59_B0 (r59_S0 (.d (.str s)) (.d (iv i)) []) = some (.norm, r59_E0 (.d (.str s)) (.d (iv (i + runL i ((bs s).drop i) : Nat))) [])
theorem wd_end (s : ByteArray) (i : Nat) (hi : s.size ≤ i) : WdLoop s i := by
  have h1 : ((i : Int) < (s.size : Int)) = False := eq_false (by omega)
  unfold WdLoop
  rw [r59_B0_eq, bs_end hi]
  simp (disch := omega) only [go_sem, and_self, and_true, true_and, false_and, and_false, Nat.reduceAdd, Nat.reduceMul, Nat.reduceSub, Nat.reduceLeDiff, Nat.reduceLT, Nat.reduceGT, Nat.reduceEqDiff, Nat.reduceBEq, Int.reduceNeg, Int.reduceEq, Int.reduceLT, Int.reduceLE, Int.reduceBEq, Int.reduceToNat, Int.toNat_natCast, Int.natCast_zero, r59_C0, h1, runL, Nat.add_zero]
theorem wd_step (s : ByteArray) (hs : s.size ≤ maxLen) (i : Nat) (hi : i < s.size) (ih : WdLoop s (i + 1)) : WdLoop s i := by
  have hmx : maxLen = 9223372036854775807 := by decide
  have h1 : ((i : Int) < (s.size : Int)) = True := eq_true (by omega)
  have hi0 : (0 ≤ (i : Int)) = True := eq_true (by omega)
  obtain ⟨va, vd⟩ := bs_get hi
  have hl := letter_ok s[i].toNat
  have hd := digit_ok s[i].toNat
  unfold WdLoop at ih ⊢
  have e1 : ((i + 1 : Nat) : Int) = (i : Int) + 1 := rfl
  have e0 : decide ((i : Int) > 0) = decide (i > 0) := by by_cases h : i = 0 <;> simp [h] <;> omega
  rw [r59_B0_eq, vd]
  simp only [runL, okI]
  rcases Bool.eq_false_or_eq_true (letB s[i].toNat) with g1 | g1
  · rw [g1] at hl
    have e2 : i + (runL (i + 1) ((bs s).drop (i + 1)) + 1) = i + 1 + runL (i + 1) ((bs s).drop (i + 1)) := by omega
    simp (disch := omega) only [go_sem, and_self, and_true, true_and, false_and, and_false, Nat.reduceAdd, Nat.reduceMul, Nat.reduceSub, Nat.reduceLeDiff, Nat.reduceLT, Nat.reduceGT, Nat.reduceEqDiff, Nat.reduceBEq, Int.reduceNeg, Int.reduceEq, Int.reduceLT, Int.reduceLE, Int.reduceBEq, Int.reduceToNat, Int.toNat_natCast, Int.natCast_zero, r59_C0, h1, hi0, va, w64, hl, g1, Bool.true_or, e2]
    rw [e1] at ih
    exact ih
  · rw [g1] at hl
    rcases Bool.eq_false_or_eq_true (decide (i > 0)) with g2 | g2
    · rcases Bool.eq_false_or_eq_true (digB s[i].toNat) with g3 | g3
      · rw [g3] at hd
        have e2 : i + (runL (i + 1) ((bs s).drop (i + 1)) + 1) = i + 1 + runL (i + 1) ((bs s).drop (i + 1)) := by omega
        simp (disch := omega) only [go_sem, and_self, and_true, true_and, false_and, and_false, Nat.reduceAdd, Nat.reduceMul, Nat.reduceSub, Nat.reduceLeDiff, Nat.reduceLT, Nat.reduceGT, Nat.reduceEqDiff, Nat.reduceBEq, Int.reduceNeg, Int.reduceEq, Int.reduceLT, Int.reduceLE, Int.reduceBEq, Int.reduceToNat, Int.toNat_natCast, Int.natCast_zero, r59_C0, h1, hi0, va, w64, hl, hd, g1, g2, g3, e0, Bool.false_or, Bool.true_and, e2]
        rw [e1] at ih
        exact ih
      · rw [g3] at hd
        simp (disch := omega) only [go_sem, and_self, and_true, true_and, false_and, and_false, Nat.reduceAdd, Nat.reduceMul, Nat.reduceSub, Nat.reduceLeDiff, Nat.reduceLT, Nat.reduceGT, Nat.reduceEqDiff, Nat.reduceBEq, Int.reduceNeg, Int.reduceEq, Int.reduceLT, Int.reduceLE, Int.reduceBEq, Int.reduceToNat, Int.toNat_natCast, Int.natCast_zero, r59_C0, h1, hi0, va, w64, hl, hd, g1, g2, g3, e0, Bool.false_or, Bool.true_and, Nat.add_zero]
    · simp (disch := omega) only [go_sem, and_self, and_true, true_and, false_and, and_false, Nat.reduceAdd, Nat.reduceMul, Nat.reduceSub, Nat.reduceLeDiff, Nat.reduceLT, Nat.reduceGT, Nat.reduceEqDiff, Nat.reduceBEq, Int.reduceNeg, Int.reduceEq, Int.reduceLT, Int.reduceLE, Int.reduceBEq, Int.reduceToNat, Int.toNat_natCast, Int.natCast_zero, r59_C0, h1, hi0, va, w64, hl, g1, g2, e0, Bool.false_or, Bool.false_and, Nat.add_zero]
theorem wd_loop (s : ByteArray) (hs : s.size ≤ maxLen) : ∀ (j i : Nat), i + j = s.size → WdLoop s i
  | 0, i, hi => wd_end s i (by omega)
  | j + 1, i, hi => wd_step s hs i (by omega) (wd_loop s hs j (i + 1) (by omega))
theorem word_ok (s : ByteArray) (hs : s.size ≤ maxLen) (hp : List Ent) : F tab 59 [.d (.str s)] hp = some (.ret (.d (.str (s.extract 0 (runL 0 (bs s))))) hp) := by
  have hL := wd_loop s hs s.size 0 (by omega)
  unfold WdLoop at hL
  rw [List.drop_zero, Nat.zero_add] at hL
  have hle := runL_le (bs s) 0
  rw [bs_len] at hle
  have h1 : ((runL 0 (bs s) : Int) ≤ (s.size : Int)) = True := eq_true (by omega)
  refine f59 rfl ?_
  simp (disch := omega) only [go_sem, and_self, and_true, true_and, false_and, and_false, Nat.reduceAdd, Nat.reduceMul, Nat.reduceSub, Nat.reduceLeDiff, Nat.reduceLT, Nat.reduceGT, Nat.reduceEqDiff, Nat.reduceBEq, Int.reduceNeg, Int.reduceEq, Int.reduceLT, Int.reduceLE, Int.reduceBEq, Int.reduceToNat, Int.toNat_natCast, Int.natCast_zero, r59_T, r59]
  rw [r59_B0_n]
  erw [hL]
  have h0 : (0 ≤ (runL 0 (bs s) : Int)) = True := eq_true (by omega)
  simp (disch := omega) only [go_sem, and_self, and_true, true_and, false_and, and_false, Nat.reduceAdd, Nat.reduceMul, Nat.reduceSub, Nat.reduceLeDiff, Nat.reduceLT, Nat.reduceGT, Nat.reduceEqDiff, Nat.reduceBEq, Int.reduceNeg, Int.reduceEq, Int.reduceLT, Int.reduceLE, Int.reduceBEq, Int.reduceToNat, Int.toNat_natCast, Int.natCast_zero, h0, h1, decide_true]
theorem bs_take (s : ByteArray) (k : Nat) : bs (s.extract 0 k) = (bs s).take k := by
  simp [bs, ByteArray.data_extract]
theorem word_eq (s : ByteArray) (k : Nat) (hk : k ≤ s.size) : ((s.extract 0 k).toList == s.toList) = decide (k = s.size) := by
  rw [bs_toList, bs_toList, bs_take]
  by_cases h : k = s.size
  · subst h
    rw [List.take_of_length_le (Nat.le_of_eq (bs_len s))]
    simp
  · have : (bs s).take k ≠ bs s := fun e => h (by have := congrArg List.length e; rw [List.length_take, bs_len] at this; omega)
    simp [h, this]

theorem key_ok (s : ByteArray) (hp : List Ent) : F tab 60 [.d (.str s)] hp = some (.ret (.d (.bool (keyB s))) hp) := by
  refine f60 rfl ?_
  simp only [keyB, keysL, List.any_cons, List.any_nil]
  rcases Bool.eq_false_or_eq_true (s.toList == (⟨#[100, 101, 102]⟩ : ByteArray).toList) with g0 | g0
  · simp only [go_sem, and_self, and_true, true_and, false_and, and_false, Nat.reduceAdd, Nat.reduceMul, Nat.reduceSub, Nat.reduceLeDiff, Nat.reduceLT, Nat.reduceGT, Nat.reduceEqDiff, Nat.reduceBEq, Int.reduceNeg, Int.reduceEq, Int.reduceLT, Int.reduceLE, Int.reduceBEq, Int.reduceToNat, Int.toNat_natCast, Int.natCast_zero, r60_T, r60, strD_eql, g0, Bool.true_or, Bool.false_or]
  rcases Bool.eq_false_or_eq_true (s.toList == (⟨#[105, 102]⟩ : ByteArray).toList) with g1 | g1
  · simp only [go_sem, and_self, and_true, true_and, false_and, and_false, Nat.reduceAdd, Nat.reduceMul, Nat.reduceSub, Nat.reduceLeDiff, Nat.reduceLT, Nat.reduceGT, Nat.reduceEqDiff, Nat.reduceBEq, Int.reduceNeg, Int.reduceEq, Int.reduceLT, Int.reduceLE, Int.reduceBEq, Int.reduceToNat, Int.toNat_natCast, Int.natCast_zero, r60_T, r60, strD_eql, g0, g1, Bool.true_or, Bool.false_or]
  rcases Bool.eq_false_or_eq_true (s.toList == (⟨#[116, 104, 101, 110]⟩ : ByteArray).toList) with g2 | g2
  · simp only [go_sem, and_self, and_true, true_and, false_and, and_false, Nat.reduceAdd, Nat.reduceMul, Nat.reduceSub, Nat.reduceLeDiff, Nat.reduceLT, Nat.reduceGT, Nat.reduceEqDiff, Nat.reduceBEq, Int.reduceNeg, Int.reduceEq, Int.reduceLT, Int.reduceLE, Int.reduceBEq, Int.reduceToNat, Int.toNat_natCast, Int.natCast_zero, r60_T, r60, strD_eql, g0, g1, g2, Bool.true_or, Bool.false_or]
  rcases Bool.eq_false_or_eq_true (s.toList == (⟨#[101, 108, 115, 101]⟩ : ByteArray).toList) with g3 | g3
  · simp only [go_sem, and_self, and_true, true_and, false_and, and_false, Nat.reduceAdd, Nat.reduceMul, Nat.reduceSub, Nat.reduceLeDiff, Nat.reduceLT, Nat.reduceGT, Nat.reduceEqDiff, Nat.reduceBEq, Int.reduceNeg, Int.reduceEq, Int.reduceLT, Int.reduceLE, Int.reduceBEq, Int.reduceToNat, Int.toNat_natCast, Int.natCast_zero, r60_T, r60, strD_eql, g0, g1, g2, g3, Bool.true_or, Bool.false_or]
  rcases Bool.eq_false_or_eq_true (s.toList == (⟨#[101, 110, 100]⟩ : ByteArray).toList) with g4 | g4
  · simp only [go_sem, and_self, and_true, true_and, false_and, and_false, Nat.reduceAdd, Nat.reduceMul, Nat.reduceSub, Nat.reduceLeDiff, Nat.reduceLT, Nat.reduceGT, Nat.reduceEqDiff, Nat.reduceBEq, Int.reduceNeg, Int.reduceEq, Int.reduceLT, Int.reduceLE, Int.reduceBEq, Int.reduceToNat, Int.toNat_natCast, Int.natCast_zero, r60_T, r60, strD_eql, g0, g1, g2, g3, g4, Bool.true_or, Bool.false_or]
  rcases Bool.eq_false_or_eq_true (s.toList == (⟨#[116, 114, 121]⟩ : ByteArray).toList) with g5 | g5
  · simp only [go_sem, and_self, and_true, true_and, false_and, and_false, Nat.reduceAdd, Nat.reduceMul, Nat.reduceSub, Nat.reduceLeDiff, Nat.reduceLT, Nat.reduceGT, Nat.reduceEqDiff, Nat.reduceBEq, Int.reduceNeg, Int.reduceEq, Int.reduceLT, Int.reduceLE, Int.reduceBEq, Int.reduceToNat, Int.toNat_natCast, Int.natCast_zero, r60_T, r60, strD_eql, g0, g1, g2, g3, g4, g5, Bool.true_or, Bool.false_or]
  rcases Bool.eq_false_or_eq_true (s.toList == (⟨#[99, 97, 116, 99, 104]⟩ : ByteArray).toList) with g6 | g6
  · simp only [go_sem, and_self, and_true, true_and, false_and, and_false, Nat.reduceAdd, Nat.reduceMul, Nat.reduceSub, Nat.reduceLeDiff, Nat.reduceLT, Nat.reduceGT, Nat.reduceEqDiff, Nat.reduceBEq, Int.reduceNeg, Int.reduceEq, Int.reduceLT, Int.reduceLE, Int.reduceBEq, Int.reduceToNat, Int.toNat_natCast, Int.natCast_zero, r60_T, r60, strD_eql, g0, g1, g2, g3, g4, g5, g6, Bool.true_or, Bool.false_or]
  rcases Bool.eq_false_or_eq_true (s.toList == (⟨#[114, 101, 100, 117, 99, 101]⟩ : ByteArray).toList) with g7 | g7
  · simp only [go_sem, and_self, and_true, true_and, false_and, and_false, Nat.reduceAdd, Nat.reduceMul, Nat.reduceSub, Nat.reduceLeDiff, Nat.reduceLT, Nat.reduceGT, Nat.reduceEqDiff, Nat.reduceBEq, Int.reduceNeg, Int.reduceEq, Int.reduceLT, Int.reduceLE, Int.reduceBEq, Int.reduceToNat, Int.toNat_natCast, Int.natCast_zero, r60_T, r60, strD_eql, g0, g1, g2, g3, g4, g5, g6, g7, Bool.true_or, Bool.false_or]
  rcases Bool.eq_false_or_eq_true (s.toList == (⟨#[102, 111, 114, 101, 97, 99, 104]⟩ : ByteArray).toList) with g8 | g8
  · simp only [go_sem, and_self, and_true, true_and, false_and, and_false, Nat.reduceAdd, Nat.reduceMul, Nat.reduceSub, Nat.reduceLeDiff, Nat.reduceLT, Nat.reduceGT, Nat.reduceEqDiff, Nat.reduceBEq, Int.reduceNeg, Int.reduceEq, Int.reduceLT, Int.reduceLE, Int.reduceBEq, Int.reduceToNat, Int.toNat_natCast, Int.natCast_zero, r60_T, r60, strD_eql, g0, g1, g2, g3, g4, g5, g6, g7, g8, Bool.true_or, Bool.false_or]
  rcases Bool.eq_false_or_eq_true (s.toList == (⟨#[97, 115]⟩ : ByteArray).toList) with g9 | g9
  · simp only [go_sem, and_self, and_true, true_and, false_and, and_false, Nat.reduceAdd, Nat.reduceMul, Nat.reduceSub, Nat.reduceLeDiff, Nat.reduceLT, Nat.reduceGT, Nat.reduceEqDiff, Nat.reduceBEq, Int.reduceNeg, Int.reduceEq, Int.reduceLT, Int.reduceLE, Int.reduceBEq, Int.reduceToNat, Int.toNat_natCast, Int.natCast_zero, r60_T, r60, strD_eql, g0, g1, g2, g3, g4, g5, g6, g7, g8, g9, Bool.true_or, Bool.false_or]
  rcases Bool.eq_false_or_eq_true (s.toList == (⟨#[108, 97, 98, 101, 108]⟩ : ByteArray).toList) with g10 | g10
  · simp only [go_sem, and_self, and_true, true_and, false_and, and_false, Nat.reduceAdd, Nat.reduceMul, Nat.reduceSub, Nat.reduceLeDiff, Nat.reduceLT, Nat.reduceGT, Nat.reduceEqDiff, Nat.reduceBEq, Int.reduceNeg, Int.reduceEq, Int.reduceLT, Int.reduceLE, Int.reduceBEq, Int.reduceToNat, Int.toNat_natCast, Int.natCast_zero, r60_T, r60, strD_eql, g0, g1, g2, g3, g4, g5, g6, g7, g8, g9, g10, Bool.true_or, Bool.false_or]
  rcases Bool.eq_false_or_eq_true (s.toList == (⟨#[98, 114, 101, 97, 107]⟩ : ByteArray).toList) with g11 | g11
  · simp only [go_sem, and_self, and_true, true_and, false_and, and_false, Nat.reduceAdd, Nat.reduceMul, Nat.reduceSub, Nat.reduceLeDiff, Nat.reduceLT, Nat.reduceGT, Nat.reduceEqDiff, Nat.reduceBEq, Int.reduceNeg, Int.reduceEq, Int.reduceLT, Int.reduceLE, Int.reduceBEq, Int.reduceToNat, Int.toNat_natCast, Int.natCast_zero, r60_T, r60, strD_eql, g0, g1, g2, g3, g4, g5, g6, g7, g8, g9, g10, g11, Bool.true_or, Bool.false_or]
  rcases Bool.eq_false_or_eq_true (s.toList == (⟨#[97, 110, 100]⟩ : ByteArray).toList) with g12 | g12
  · simp only [go_sem, and_self, and_true, true_and, false_and, and_false, Nat.reduceAdd, Nat.reduceMul, Nat.reduceSub, Nat.reduceLeDiff, Nat.reduceLT, Nat.reduceGT, Nat.reduceEqDiff, Nat.reduceBEq, Int.reduceNeg, Int.reduceEq, Int.reduceLT, Int.reduceLE, Int.reduceBEq, Int.reduceToNat, Int.toNat_natCast, Int.natCast_zero, r60_T, r60, strD_eql, g0, g1, g2, g3, g4, g5, g6, g7, g8, g9, g10, g11, g12, Bool.true_or, Bool.false_or]
  rcases Bool.eq_false_or_eq_true (s.toList == (⟨#[111, 114]⟩ : ByteArray).toList) with g13 | g13
  · simp only [go_sem, and_self, and_true, true_and, false_and, and_false, Nat.reduceAdd, Nat.reduceMul, Nat.reduceSub, Nat.reduceLeDiff, Nat.reduceLT, Nat.reduceGT, Nat.reduceEqDiff, Nat.reduceBEq, Int.reduceNeg, Int.reduceEq, Int.reduceLT, Int.reduceLE, Int.reduceBEq, Int.reduceToNat, Int.toNat_natCast, Int.natCast_zero, r60_T, r60, strD_eql, g0, g1, g2, g3, g4, g5, g6, g7, g8, g9, g10, g11, g12, g13, Bool.true_or, Bool.false_or]
  rcases Bool.eq_false_or_eq_true (s.toList == (⟨#[116, 114, 117, 101]⟩ : ByteArray).toList) with g14 | g14
  · simp only [go_sem, and_self, and_true, true_and, false_and, and_false, Nat.reduceAdd, Nat.reduceMul, Nat.reduceSub, Nat.reduceLeDiff, Nat.reduceLT, Nat.reduceGT, Nat.reduceEqDiff, Nat.reduceBEq, Int.reduceNeg, Int.reduceEq, Int.reduceLT, Int.reduceLE, Int.reduceBEq, Int.reduceToNat, Int.toNat_natCast, Int.natCast_zero, r60_T, r60, strD_eql, g0, g1, g2, g3, g4, g5, g6, g7, g8, g9, g10, g11, g12, g13, g14, Bool.true_or, Bool.false_or]
  rcases Bool.eq_false_or_eq_true (s.toList == (⟨#[102, 97, 108, 115, 101]⟩ : ByteArray).toList) with g15 | g15
  · simp only [go_sem, and_self, and_true, true_and, false_and, and_false, Nat.reduceAdd, Nat.reduceMul, Nat.reduceSub, Nat.reduceLeDiff, Nat.reduceLT, Nat.reduceGT, Nat.reduceEqDiff, Nat.reduceBEq, Int.reduceNeg, Int.reduceEq, Int.reduceLT, Int.reduceLE, Int.reduceBEq, Int.reduceToNat, Int.toNat_natCast, Int.natCast_zero, r60_T, r60, strD_eql, g0, g1, g2, g3, g4, g5, g6, g7, g8, g9, g10, g11, g12, g13, g14, g15, Bool.true_or, Bool.false_or]
  rcases Bool.eq_false_or_eq_true (s.toList == (⟨#[110, 117, 108, 108]⟩ : ByteArray).toList) with g16 | g16
  · simp only [go_sem, and_self, and_true, true_and, false_and, and_false, Nat.reduceAdd, Nat.reduceMul, Nat.reduceSub, Nat.reduceLeDiff, Nat.reduceLT, Nat.reduceGT, Nat.reduceEqDiff, Nat.reduceBEq, Int.reduceNeg, Int.reduceEq, Int.reduceLT, Int.reduceLE, Int.reduceBEq, Int.reduceToNat, Int.toNat_natCast, Int.natCast_zero, r60_T, r60, strD_eql, g0, g1, g2, g3, g4, g5, g6, g7, g8, g9, g10, g11, g12, g13, g14, g15, g16, Bool.true_or, Bool.false_or]
  rcases Bool.eq_false_or_eq_true (s.toList == (⟨#[101, 109, 112, 116, 121]⟩ : ByteArray).toList) with g17 | g17
  · simp only [go_sem, and_self, and_true, true_and, false_and, and_false, Nat.reduceAdd, Nat.reduceMul, Nat.reduceSub, Nat.reduceLeDiff, Nat.reduceLT, Nat.reduceGT, Nat.reduceEqDiff, Nat.reduceBEq, Int.reduceNeg, Int.reduceEq, Int.reduceLT, Int.reduceLE, Int.reduceBEq, Int.reduceToNat, Int.toNat_natCast, Int.natCast_zero, r60_T, r60, strD_eql, g0, g1, g2, g3, g4, g5, g6, g7, g8, g9, g10, g11, g12, g13, g14, g15, g16, g17, Bool.true_or, Bool.false_or]
  rcases Bool.eq_false_or_eq_true (s.toList == (⟨#[114, 101, 108, 101, 97, 115, 101]⟩ : ByteArray).toList) with g18 | g18
  · simp only [go_sem, and_self, and_true, true_and, false_and, and_false, Nat.reduceAdd, Nat.reduceMul, Nat.reduceSub, Nat.reduceLeDiff, Nat.reduceLT, Nat.reduceGT, Nat.reduceEqDiff, Nat.reduceBEq, Int.reduceNeg, Int.reduceEq, Int.reduceLT, Int.reduceLE, Int.reduceBEq, Int.reduceToNat, Int.toNat_natCast, Int.natCast_zero, r60_T, r60, strD_eql, g0, g1, g2, g3, g4, g5, g6, g7, g8, g9, g10, g11, g12, g13, g14, g15, g16, g17, g18, Bool.true_or, Bool.false_or]
  rcases Bool.eq_false_or_eq_true (s.toList == (⟨#[114, 97, 110, 103, 101]⟩ : ByteArray).toList) with g19 | g19
  · simp only [go_sem, and_self, and_true, true_and, false_and, and_false, Nat.reduceAdd, Nat.reduceMul, Nat.reduceSub, Nat.reduceLeDiff, Nat.reduceLT, Nat.reduceGT, Nat.reduceEqDiff, Nat.reduceBEq, Int.reduceNeg, Int.reduceEq, Int.reduceLT, Int.reduceLE, Int.reduceBEq, Int.reduceToNat, Int.toNat_natCast, Int.natCast_zero, r60_T, r60, strD_eql, g0, g1, g2, g3, g4, g5, g6, g7, g8, g9, g10, g11, g12, g13, g14, g15, g16, g17, g18, g19, Bool.true_or, Bool.false_or]
  simp only [go_sem, and_self, and_true, true_and, false_and, and_false, Nat.reduceAdd, Nat.reduceMul, Nat.reduceSub, Nat.reduceLeDiff, Nat.reduceLT, Nat.reduceGT, Nat.reduceEqDiff, Nat.reduceBEq, Int.reduceNeg, Int.reduceEq, Int.reduceLT, Int.reduceLE, Int.reduceBEq, Int.reduceToNat, Int.toNat_natCast, Int.natCast_zero, r60_T, r60, strD_eql, g0, g1, g2, g3, g4, g5, g6, g7, g8, g9, g10, g11, g12, g13, g14, g15, g16, g17, g18, g19, Bool.true_or, Bool.false_or]

theorem ident_ok (s : ByteArray) (hs : s.size ≤ maxLen) (hp : List Ent) : F tab 35 [.d (.str s)] hp = some (.ret (.d (.bool (identB s))) hp) := by
  have e := isE s
  have hw := word_ok s hs
  have hk := key_ok s
  have hle := runL_le (bs s) 0
  rw [bs_len] at hle
  have e1 := word_eq s _ hle
  have e2 : decide ((s.size : Int) ≤ 16) = decide (s.size ≤ 16) := by by_cases h : s.size ≤ 16 <;> simp [h] <;> omega
  refine f35 rfl ?_
  unfold identB
  rcases Bool.eq_false_or_eq_true (decide (s.size ≠ 0)) with g1 | g1
  · rcases Bool.eq_false_or_eq_true (decide (s.size ≤ 16)) with g2 | g2
    · rcases Bool.eq_false_or_eq_true (decide (runL 0 (bs s) = s.size)) with g3 | g3
      · simp (disch := omega) only [go_sem, and_self, and_true, true_and, false_and, and_false, Nat.reduceAdd, Nat.reduceMul, Nat.reduceSub, Nat.reduceLeDiff, Nat.reduceLT, Nat.reduceGT, Nat.reduceEqDiff, Nat.reduceBEq, Int.reduceNeg, Int.reduceEq, Int.reduceLT, Int.reduceLE, Int.reduceBEq, Int.reduceToNat, Int.toNat_natCast, Int.natCast_zero, r35_T, r35, strD_eql, strD_neq, e, e2, g1, g2, g3, hw, e1, hk, Bool.not_true, Bool.not_false, Bool.true_and]
      · simp (disch := omega) only [go_sem, and_self, and_true, true_and, false_and, and_false, Nat.reduceAdd, Nat.reduceMul, Nat.reduceSub, Nat.reduceLeDiff, Nat.reduceLT, Nat.reduceGT, Nat.reduceEqDiff, Nat.reduceBEq, Int.reduceNeg, Int.reduceEq, Int.reduceLT, Int.reduceLE, Int.reduceBEq, Int.reduceToNat, Int.toNat_natCast, Int.natCast_zero, r35_T, r35, strD_eql, strD_neq, e, e2, g1, g2, g3, hw, e1, hk, Bool.not_true, Bool.not_false, Bool.true_and, Bool.false_and]
    · simp (disch := omega) only [go_sem, and_self, and_true, true_and, false_and, and_false, Nat.reduceAdd, Nat.reduceMul, Nat.reduceSub, Nat.reduceLeDiff, Nat.reduceLT, Nat.reduceGT, Nat.reduceEqDiff, Nat.reduceBEq, Int.reduceNeg, Int.reduceEq, Int.reduceLT, Int.reduceLE, Int.reduceBEq, Int.reduceToNat, Int.toNat_natCast, Int.natCast_zero, r35_T, r35, strD_eql, strD_neq, e, e2, g1, g2, Bool.not_true, Bool.not_false, Bool.true_and, Bool.false_and]
  · simp (disch := omega) only [go_sem, and_self, and_true, true_and, false_and, and_false, Nat.reduceAdd, Nat.reduceMul, Nat.reduceSub, Nat.reduceLeDiff, Nat.reduceLT, Nat.reduceGT, Nat.reduceEqDiff, Nat.reduceBEq, Int.reduceNeg, Int.reduceEq, Int.reduceLT, Int.reduceLE, Int.reduceBEq, Int.reduceToNat, Int.toNat_natCast, Int.natCast_zero, r35_T, r35, strD_eql, strD_neq, e, e2, g1, Bool.not_true, Bool.not_false, Bool.true_and, Bool.false_and]
end Go.Pe.T

namespace Go.Pe.T

def signsL : List ByteArray := [⟨#[43]⟩, ⟨#[45]⟩, ⟨#[42]⟩, ⟨#[47]⟩, ⟨#[37]⟩, ⟨#[61, 61]⟩, ⟨#[33, 61]⟩, ⟨#[60]⟩, ⟨#[60, 61]⟩, ⟨#[62]⟩, ⟨#[62, 61]⟩, ⟨#[97, 110, 100]⟩, ⟨#[111, 114]⟩, ⟨#[47, 47]⟩]

theorem signs_ok (hp : List Ent) : F tab 109 [] hp = some (.ret (.d (.sl (signsL.map .str))) hp) := by
  refine f109 rfl ?_
  simp only [go_sem, and_self, and_true, true_and, false_and, and_false, Nat.reduceAdd, Nat.reduceMul, Nat.reduceSub, Nat.reduceLeDiff, Nat.reduceLT, Nat.reduceGT, Nat.reduceEqDiff, Nat.reduceBEq, Int.reduceNeg, Int.reduceEq, Int.reduceLT, Int.reduceLE, Int.reduceBEq, Int.reduceToNat, Int.toNat_natCast, Int.natCast_zero, r109_T, r109, signsL, List.map_cons, List.map_nil]

def shapeV (o : Int) : Int × Int × Bool × Bool × Bool :=
  if o = 0 ∨ o = 1 ∨ o = 8 then (0, 0, false, false, true) else
  if o = 2 ∨ o = 19 then (0, 0, true, false, true) else
  if o = 3 ∨ o = 5 ∨ o = 21 then (1, 1, false, false, true) else
  if o = 4 ∨ o = 6 ∨ o = 7 ∨ o = 10 ∨ o = 15 then (2, 2, false, false, true) else
  if o = 9 then (3, 3, false, false, true) else
  if o = 11 then (0, 1, false, false, true) else
  if o = 12 then (0, 512, false, true, true) else
  if o = 13 ∨ o = 14 then (3, 3, true, false, true) else
  if o = 16 then (0, 4, true, false, true) else
  if o = 17 then (2, 2, true, false, true) else
  if o = 18 then (1, 1, true, false, true) else
  if o = 20 then (1, 1, false, true, true) else
  (0, 0, false, false, false)
def shD (r : Int × Int × Bool × Bool × Bool) : D := .agg [iv r.1, iv r.2.1, .bool r.2.2.1, .bool r.2.2.2.1]
set_option maxHeartbeats 4000000 in
theorem shape_ok (o : Int) (hp : List Ent) : F tab 86 [.d (iv o)] hp = some (.ret (.tup [.d (shD (shapeV o)), .d (.bool (shapeV o).2.2.2.2)]) hp) := by
  refine f86 rfl ?_
  by_cases x0 : o = 0
  · have e : shapeV o = (0, 0, false, false, true) := by subst x0; rfl
    rw [e]
    simp only [go_sem, and_self, and_true, true_and, false_and, and_false, Nat.reduceAdd, Nat.reduceMul, Nat.reduceSub, Nat.reduceLeDiff, Nat.reduceLT, Nat.reduceGT, Nat.reduceEqDiff, Nat.reduceBEq, Int.reduceNeg, Int.reduceEq, Int.reduceLT, Int.reduceLE, Int.reduceBEq, Int.reduceToNat, Int.toNat_natCast, Int.natCast_zero, r86_T, r86, shD, x0]
  have g0 : (o == 0) = false := by simpa using x0
  by_cases x1 : o = 1
  · have e : shapeV o = (0, 0, false, false, true) := by subst x1; rfl
    rw [e]
    simp only [go_sem, and_self, and_true, true_and, false_and, and_false, Nat.reduceAdd, Nat.reduceMul, Nat.reduceSub, Nat.reduceLeDiff, Nat.reduceLT, Nat.reduceGT, Nat.reduceEqDiff, Nat.reduceBEq, Int.reduceNeg, Int.reduceEq, Int.reduceLT, Int.reduceLE, Int.reduceBEq, Int.reduceToNat, Int.toNat_natCast, Int.natCast_zero, r86_T, r86, shD, x1]
  have g1 : (o == 1) = false := by simpa using x1
  by_cases x8 : o = 8
  · have e : shapeV o = (0, 0, false, false, true) := by subst x8; rfl
    rw [e]
    simp only [go_sem, and_self, and_true, true_and, false_and, and_false, Nat.reduceAdd, Nat.reduceMul, Nat.reduceSub, Nat.reduceLeDiff, Nat.reduceLT, Nat.reduceGT, Nat.reduceEqDiff, Nat.reduceBEq, Int.reduceNeg, Int.reduceEq, Int.reduceLT, Int.reduceLE, Int.reduceBEq, Int.reduceToNat, Int.toNat_natCast, Int.natCast_zero, r86_T, r86, shD, x8]
  have g8 : (o == 8) = false := by simpa using x8
  by_cases x2 : o = 2
  · have e : shapeV o = (0, 0, true, false, true) := by subst x2; rfl
    rw [e]
    simp only [go_sem, and_self, and_true, true_and, false_and, and_false, Nat.reduceAdd, Nat.reduceMul, Nat.reduceSub, Nat.reduceLeDiff, Nat.reduceLT, Nat.reduceGT, Nat.reduceEqDiff, Nat.reduceBEq, Int.reduceNeg, Int.reduceEq, Int.reduceLT, Int.reduceLE, Int.reduceBEq, Int.reduceToNat, Int.toNat_natCast, Int.natCast_zero, r86_T, r86, shD, x2]
  have g2 : (o == 2) = false := by simpa using x2
  by_cases x19 : o = 19
  · have e : shapeV o = (0, 0, true, false, true) := by subst x19; rfl
    rw [e]
    simp only [go_sem, and_self, and_true, true_and, false_and, and_false, Nat.reduceAdd, Nat.reduceMul, Nat.reduceSub, Nat.reduceLeDiff, Nat.reduceLT, Nat.reduceGT, Nat.reduceEqDiff, Nat.reduceBEq, Int.reduceNeg, Int.reduceEq, Int.reduceLT, Int.reduceLE, Int.reduceBEq, Int.reduceToNat, Int.toNat_natCast, Int.natCast_zero, r86_T, r86, shD, x19]
  have g19 : (o == 19) = false := by simpa using x19
  by_cases x3 : o = 3
  · have e : shapeV o = (1, 1, false, false, true) := by subst x3; rfl
    rw [e]
    simp only [go_sem, and_self, and_true, true_and, false_and, and_false, Nat.reduceAdd, Nat.reduceMul, Nat.reduceSub, Nat.reduceLeDiff, Nat.reduceLT, Nat.reduceGT, Nat.reduceEqDiff, Nat.reduceBEq, Int.reduceNeg, Int.reduceEq, Int.reduceLT, Int.reduceLE, Int.reduceBEq, Int.reduceToNat, Int.toNat_natCast, Int.natCast_zero, r86_T, r86, shD, x3]
  have g3 : (o == 3) = false := by simpa using x3
  by_cases x5 : o = 5
  · have e : shapeV o = (1, 1, false, false, true) := by subst x5; rfl
    rw [e]
    simp only [go_sem, and_self, and_true, true_and, false_and, and_false, Nat.reduceAdd, Nat.reduceMul, Nat.reduceSub, Nat.reduceLeDiff, Nat.reduceLT, Nat.reduceGT, Nat.reduceEqDiff, Nat.reduceBEq, Int.reduceNeg, Int.reduceEq, Int.reduceLT, Int.reduceLE, Int.reduceBEq, Int.reduceToNat, Int.toNat_natCast, Int.natCast_zero, r86_T, r86, shD, x5]
  have g5 : (o == 5) = false := by simpa using x5
  by_cases x21 : o = 21
  · have e : shapeV o = (1, 1, false, false, true) := by subst x21; rfl
    rw [e]
    simp only [go_sem, and_self, and_true, true_and, false_and, and_false, Nat.reduceAdd, Nat.reduceMul, Nat.reduceSub, Nat.reduceLeDiff, Nat.reduceLT, Nat.reduceGT, Nat.reduceEqDiff, Nat.reduceBEq, Int.reduceNeg, Int.reduceEq, Int.reduceLT, Int.reduceLE, Int.reduceBEq, Int.reduceToNat, Int.toNat_natCast, Int.natCast_zero, r86_T, r86, shD, x21]
  have g21 : (o == 21) = false := by simpa using x21
  by_cases x4 : o = 4
  · have e : shapeV o = (2, 2, false, false, true) := by subst x4; rfl
    rw [e]
    simp only [go_sem, and_self, and_true, true_and, false_and, and_false, Nat.reduceAdd, Nat.reduceMul, Nat.reduceSub, Nat.reduceLeDiff, Nat.reduceLT, Nat.reduceGT, Nat.reduceEqDiff, Nat.reduceBEq, Int.reduceNeg, Int.reduceEq, Int.reduceLT, Int.reduceLE, Int.reduceBEq, Int.reduceToNat, Int.toNat_natCast, Int.natCast_zero, r86_T, r86, shD, x4]
  have g4 : (o == 4) = false := by simpa using x4
  by_cases x6 : o = 6
  · have e : shapeV o = (2, 2, false, false, true) := by subst x6; rfl
    rw [e]
    simp only [go_sem, and_self, and_true, true_and, false_and, and_false, Nat.reduceAdd, Nat.reduceMul, Nat.reduceSub, Nat.reduceLeDiff, Nat.reduceLT, Nat.reduceGT, Nat.reduceEqDiff, Nat.reduceBEq, Int.reduceNeg, Int.reduceEq, Int.reduceLT, Int.reduceLE, Int.reduceBEq, Int.reduceToNat, Int.toNat_natCast, Int.natCast_zero, r86_T, r86, shD, x6]
  have g6 : (o == 6) = false := by simpa using x6
  by_cases x7 : o = 7
  · have e : shapeV o = (2, 2, false, false, true) := by subst x7; rfl
    rw [e]
    simp only [go_sem, and_self, and_true, true_and, false_and, and_false, Nat.reduceAdd, Nat.reduceMul, Nat.reduceSub, Nat.reduceLeDiff, Nat.reduceLT, Nat.reduceGT, Nat.reduceEqDiff, Nat.reduceBEq, Int.reduceNeg, Int.reduceEq, Int.reduceLT, Int.reduceLE, Int.reduceBEq, Int.reduceToNat, Int.toNat_natCast, Int.natCast_zero, r86_T, r86, shD, x7]
  have g7 : (o == 7) = false := by simpa using x7
  by_cases x10 : o = 10
  · have e : shapeV o = (2, 2, false, false, true) := by subst x10; rfl
    rw [e]
    simp only [go_sem, and_self, and_true, true_and, false_and, and_false, Nat.reduceAdd, Nat.reduceMul, Nat.reduceSub, Nat.reduceLeDiff, Nat.reduceLT, Nat.reduceGT, Nat.reduceEqDiff, Nat.reduceBEq, Int.reduceNeg, Int.reduceEq, Int.reduceLT, Int.reduceLE, Int.reduceBEq, Int.reduceToNat, Int.toNat_natCast, Int.natCast_zero, r86_T, r86, shD, x10]
  have g10 : (o == 10) = false := by simpa using x10
  by_cases x15 : o = 15
  · have e : shapeV o = (2, 2, false, false, true) := by subst x15; rfl
    rw [e]
    simp only [go_sem, and_self, and_true, true_and, false_and, and_false, Nat.reduceAdd, Nat.reduceMul, Nat.reduceSub, Nat.reduceLeDiff, Nat.reduceLT, Nat.reduceGT, Nat.reduceEqDiff, Nat.reduceBEq, Int.reduceNeg, Int.reduceEq, Int.reduceLT, Int.reduceLE, Int.reduceBEq, Int.reduceToNat, Int.toNat_natCast, Int.natCast_zero, r86_T, r86, shD, x15]
  have g15 : (o == 15) = false := by simpa using x15
  by_cases x9 : o = 9
  · have e : shapeV o = (3, 3, false, false, true) := by subst x9; rfl
    rw [e]
    simp only [go_sem, and_self, and_true, true_and, false_and, and_false, Nat.reduceAdd, Nat.reduceMul, Nat.reduceSub, Nat.reduceLeDiff, Nat.reduceLT, Nat.reduceGT, Nat.reduceEqDiff, Nat.reduceBEq, Int.reduceNeg, Int.reduceEq, Int.reduceLT, Int.reduceLE, Int.reduceBEq, Int.reduceToNat, Int.toNat_natCast, Int.natCast_zero, r86_T, r86, shD, x9]
  have g9 : (o == 9) = false := by simpa using x9
  by_cases x11 : o = 11
  · have e : shapeV o = (0, 1, false, false, true) := by subst x11; rfl
    rw [e]
    simp only [go_sem, and_self, and_true, true_and, false_and, and_false, Nat.reduceAdd, Nat.reduceMul, Nat.reduceSub, Nat.reduceLeDiff, Nat.reduceLT, Nat.reduceGT, Nat.reduceEqDiff, Nat.reduceBEq, Int.reduceNeg, Int.reduceEq, Int.reduceLT, Int.reduceLE, Int.reduceBEq, Int.reduceToNat, Int.toNat_natCast, Int.natCast_zero, r86_T, r86, shD, x11]
  have g11 : (o == 11) = false := by simpa using x11
  by_cases x12 : o = 12
  · have e : shapeV o = (0, 512, false, true, true) := by subst x12; rfl
    rw [e]
    simp only [go_sem, and_self, and_true, true_and, false_and, and_false, Nat.reduceAdd, Nat.reduceMul, Nat.reduceSub, Nat.reduceLeDiff, Nat.reduceLT, Nat.reduceGT, Nat.reduceEqDiff, Nat.reduceBEq, Int.reduceNeg, Int.reduceEq, Int.reduceLT, Int.reduceLE, Int.reduceBEq, Int.reduceToNat, Int.toNat_natCast, Int.natCast_zero, r86_T, r86, shD, x12]
  have g12 : (o == 12) = false := by simpa using x12
  by_cases x13 : o = 13
  · have e : shapeV o = (3, 3, true, false, true) := by subst x13; rfl
    rw [e]
    simp only [go_sem, and_self, and_true, true_and, false_and, and_false, Nat.reduceAdd, Nat.reduceMul, Nat.reduceSub, Nat.reduceLeDiff, Nat.reduceLT, Nat.reduceGT, Nat.reduceEqDiff, Nat.reduceBEq, Int.reduceNeg, Int.reduceEq, Int.reduceLT, Int.reduceLE, Int.reduceBEq, Int.reduceToNat, Int.toNat_natCast, Int.natCast_zero, r86_T, r86, shD, x13]
  have g13 : (o == 13) = false := by simpa using x13
  by_cases x14 : o = 14
  · have e : shapeV o = (3, 3, true, false, true) := by subst x14; rfl
    rw [e]
    simp only [go_sem, and_self, and_true, true_and, false_and, and_false, Nat.reduceAdd, Nat.reduceMul, Nat.reduceSub, Nat.reduceLeDiff, Nat.reduceLT, Nat.reduceGT, Nat.reduceEqDiff, Nat.reduceBEq, Int.reduceNeg, Int.reduceEq, Int.reduceLT, Int.reduceLE, Int.reduceBEq, Int.reduceToNat, Int.toNat_natCast, Int.natCast_zero, r86_T, r86, shD, x14]
  have g14 : (o == 14) = false := by simpa using x14
  by_cases x16 : o = 16
  · have e : shapeV o = (0, 4, true, false, true) := by subst x16; rfl
    rw [e]
    simp only [go_sem, and_self, and_true, true_and, false_and, and_false, Nat.reduceAdd, Nat.reduceMul, Nat.reduceSub, Nat.reduceLeDiff, Nat.reduceLT, Nat.reduceGT, Nat.reduceEqDiff, Nat.reduceBEq, Int.reduceNeg, Int.reduceEq, Int.reduceLT, Int.reduceLE, Int.reduceBEq, Int.reduceToNat, Int.toNat_natCast, Int.natCast_zero, r86_T, r86, shD, x16]
  have g16 : (o == 16) = false := by simpa using x16
  by_cases x17 : o = 17
  · have e : shapeV o = (2, 2, true, false, true) := by subst x17; rfl
    rw [e]
    simp only [go_sem, and_self, and_true, true_and, false_and, and_false, Nat.reduceAdd, Nat.reduceMul, Nat.reduceSub, Nat.reduceLeDiff, Nat.reduceLT, Nat.reduceGT, Nat.reduceEqDiff, Nat.reduceBEq, Int.reduceNeg, Int.reduceEq, Int.reduceLT, Int.reduceLE, Int.reduceBEq, Int.reduceToNat, Int.toNat_natCast, Int.natCast_zero, r86_T, r86, shD, x17]
  have g17 : (o == 17) = false := by simpa using x17
  by_cases x18 : o = 18
  · have e : shapeV o = (1, 1, true, false, true) := by subst x18; rfl
    rw [e]
    simp only [go_sem, and_self, and_true, true_and, false_and, and_false, Nat.reduceAdd, Nat.reduceMul, Nat.reduceSub, Nat.reduceLeDiff, Nat.reduceLT, Nat.reduceGT, Nat.reduceEqDiff, Nat.reduceBEq, Int.reduceNeg, Int.reduceEq, Int.reduceLT, Int.reduceLE, Int.reduceBEq, Int.reduceToNat, Int.toNat_natCast, Int.natCast_zero, r86_T, r86, shD, x18]
  have g18 : (o == 18) = false := by simpa using x18
  by_cases x20 : o = 20
  · have e : shapeV o = (1, 1, false, true, true) := by subst x20; rfl
    rw [e]
    simp only [go_sem, and_self, and_true, true_and, false_and, and_false, Nat.reduceAdd, Nat.reduceMul, Nat.reduceSub, Nat.reduceLeDiff, Nat.reduceLT, Nat.reduceGT, Nat.reduceEqDiff, Nat.reduceBEq, Int.reduceNeg, Int.reduceEq, Int.reduceLT, Int.reduceLE, Int.reduceBEq, Int.reduceToNat, Int.toNat_natCast, Int.natCast_zero, r86_T, r86, shD, x20]
  have g20 : (o == 20) = false := by simpa using x20
  have e : shapeV o = (0, 0, false, false, false) := by unfold shapeV; simp only [x0, x1, x8, x2, x19, x3, x5, x21, x4, x6, x7, x10, x15, x9, x11, x12, x13, x14, x16, x17, x18, x20, or_self, if_false]
  rw [e]
  simp only [go_sem, and_self, and_true, true_and, false_and, and_false, Nat.reduceAdd, Nat.reduceMul, Nat.reduceSub, Nat.reduceLeDiff, Nat.reduceLT, Nat.reduceGT, Nat.reduceEqDiff, Nat.reduceBEq, Int.reduceNeg, Int.reduceEq, Int.reduceLT, Int.reduceLE, Int.reduceBEq, Int.reduceToNat, Int.toNat_natCast, Int.natCast_zero, r86_T, r86, shD, g0, g1, g8, g2, g19, g3, g5, g21, g4, g6, g7, g10, g15, g9, g11, g12, g13, g14, g16, g17, g18, g20]

def litV (t : ByteArray) (k c s : Int) : Bool :=
  if k = 0 ∨ k = 1 ∨ k = 2 then (c == 0 && s == 0) && !decide (t.size ≠ 0)
  else if k = 3 then numIs c s && !decide (t.size ≠ 0)
  else if k = 4 then (c == 0 && s == 0) && validB t else false
theorem lit_ok (o : Int) (t : ByteArray) (p k c s : Int) (ns xs : D) (ht : t.size ≤ maxLen) (hp : List Ent) : F tab 106 [.d (.agg [iv o, .str t, iv p, iv k, iv c, iv s, ns, xs])] hp = some (.ret (.d (.bool (litV t k c s))) hp) := by
  have e := isE t
  have hv := valid_ok t ht
  have hn := numIs_ok c s
  refine f106 rfl ?_
  unfold litV
  have low : ∀ k0, k = k0 → (k0 = 0 ∨ k0 = 1 ∨ k0 = 2) → (k = 0 ∨ k = 1 ∨ k = 2) := fun k0 h h2 => h ▸ h2
  by_cases k0 : k = 0
  · rw [if_pos (low 0 k0 (by omega))]
    rcases Bool.eq_false_or_eq_true (c == 0 && s == 0) with g | g <;>
      simp only [go_sem, and_self, and_true, true_and, false_and, and_false, Nat.reduceAdd, Nat.reduceMul, Nat.reduceSub, Nat.reduceLeDiff, Nat.reduceLT, Nat.reduceGT, Nat.reduceEqDiff, Nat.reduceBEq, Int.reduceNeg, Int.reduceEq, Int.reduceLT, Int.reduceLE, Int.reduceBEq, Int.reduceToNat, Int.toNat_natCast, Int.natCast_zero, r106_T, r106, k0, eqD_num, strD_eql, e, g, Bool.true_and, Bool.false_and]
  have q0 : (k == 0) = false := by simpa using k0
  by_cases k1 : k = 1
  · rw [if_pos (low 1 k1 (by omega))]
    rcases Bool.eq_false_or_eq_true (c == 0 && s == 0) with g | g <;>
      simp only [go_sem, and_self, and_true, true_and, false_and, and_false, Nat.reduceAdd, Nat.reduceMul, Nat.reduceSub, Nat.reduceLeDiff, Nat.reduceLT, Nat.reduceGT, Nat.reduceEqDiff, Nat.reduceBEq, Int.reduceNeg, Int.reduceEq, Int.reduceLT, Int.reduceLE, Int.reduceBEq, Int.reduceToNat, Int.toNat_natCast, Int.natCast_zero, r106_T, r106, k1, eqD_num, strD_eql, e, g, Bool.true_and, Bool.false_and]
  have q1 : (k == 1) = false := by simpa using k1
  by_cases k2 : k = 2
  · rw [if_pos (low 2 k2 (by omega))]
    rcases Bool.eq_false_or_eq_true (c == 0 && s == 0) with g | g <;>
      simp only [go_sem, and_self, and_true, true_and, false_and, and_false, Nat.reduceAdd, Nat.reduceMul, Nat.reduceSub, Nat.reduceLeDiff, Nat.reduceLT, Nat.reduceGT, Nat.reduceEqDiff, Nat.reduceBEq, Int.reduceNeg, Int.reduceEq, Int.reduceLT, Int.reduceLE, Int.reduceBEq, Int.reduceToNat, Int.toNat_natCast, Int.natCast_zero, r106_T, r106, k2, eqD_num, strD_eql, e, g, Bool.true_and, Bool.false_and]
  have q2 : (k == 2) = false := by simpa using k2
  have kn : ¬ (k = 0 ∨ k = 1 ∨ k = 2) := by omega
  rw [if_neg kn]
  by_cases k3 : k = 3
  · rw [if_pos k3]
    rcases Bool.eq_false_or_eq_true (numIs c s) with g | g <;>
      simp only [go_sem, and_self, and_true, true_and, false_and, and_false, Nat.reduceAdd, Nat.reduceMul, Nat.reduceSub, Nat.reduceLeDiff, Nat.reduceLT, Nat.reduceGT, Nat.reduceEqDiff, Nat.reduceBEq, Int.reduceNeg, Int.reduceEq, Int.reduceLT, Int.reduceLE, Int.reduceBEq, Int.reduceToNat, Int.toNat_natCast, Int.natCast_zero, r106_T, r106, k3, hn, strD_eql, e, g, Bool.true_and, Bool.false_and]
  have q3 : (k == 3) = false := by simpa using k3
  rw [if_neg k3]
  by_cases k4 : k = 4
  · rw [if_pos k4]
    rcases Bool.eq_false_or_eq_true (c == 0 && s == 0) with g | g <;>
      simp only [go_sem, and_self, and_true, true_and, false_and, and_false, Nat.reduceAdd, Nat.reduceMul, Nat.reduceSub, Nat.reduceLeDiff, Nat.reduceLT, Nat.reduceGT, Nat.reduceEqDiff, Nat.reduceBEq, Int.reduceNeg, Int.reduceEq, Int.reduceLT, Int.reduceLE, Int.reduceBEq, Int.reduceToNat, Int.toNat_natCast, Int.natCast_zero, r106_T, r106, k4, eqD_num, hv, g, Bool.true_and, Bool.false_and]
  have q4 : (k == 4) = false := by simpa using k4
  rw [if_neg k4]
  simp only [go_sem, and_self, and_true, true_and, false_and, and_false, Nat.reduceAdd, Nat.reduceMul, Nat.reduceSub, Nat.reduceLeDiff, Nat.reduceLT, Nat.reduceGT, Nat.reduceEqDiff, Nat.reduceBEq, Int.reduceNeg, Int.reduceEq, Int.reduceLT, Int.reduceLE, Int.reduceBEq, Int.reduceToNat, Int.toNat_natCast, Int.natCast_zero, r106_T, r106, q0, q1, q2, q3, q4]

def textV (o : Int) (t : ByteArray) (k c s : Int) (nm : Bool) : Bool :=
  if o = 1 then litV t k c s
  else if (!(c == 0 && s == 0) || k != 0) = true then false
  else if nm = true then identB t
  else if o = 3 then validB t
  else if o = 10 then hasB signsL t
  else !decide (t.size ≠ 0)
theorem text_ok (o : Int) (t : ByteArray) (p k c s : Int) (ns xs : D) (ht : t.size ≤ maxLen) (l m : Int) (nm nn : Bool) (hp : List Ent) : F tab 87 [.d (.agg [iv o, .str t, iv p, iv k, iv c, iv s, ns, xs]), .d (.agg [iv l, iv m, .bool nm, .bool nn])] hp = some (.ret (.d (.bool (textV o t k c s nm))) hp) := by
  have e := isE t
  have hv := valid_ok t ht
  have hi := ident_ok t ht
  have hl := lit_ok o t p k c s ns xs ht
  have hsg := signs_ok
  have hc := con_ok signsL t (by decide)
  refine f87 rfl ?_
  unfold textV
  by_cases o1 : o = 1
  · subst o1
    rw [if_pos rfl]
    simp only [go_sem, and_self, and_true, true_and, false_and, and_false, Nat.reduceAdd, Nat.reduceMul, Nat.reduceSub, Nat.reduceLeDiff, Nat.reduceLT, Nat.reduceGT, Nat.reduceEqDiff, Nat.reduceBEq, Int.reduceNeg, Int.reduceEq, Int.reduceLT, Int.reduceLE, Int.reduceBEq, Int.reduceToNat, Int.toNat_natCast, Int.natCast_zero, r87_T, r87, hl]
  have q1 : (o == 1) = false := by simpa using o1
  rw [if_neg o1]
  rcases Bool.eq_false_or_eq_true (c == 0 && s == 0) with g1 | g1
  rotate_left
  · simp only [go_sem, and_self, and_true, true_and, false_and, and_false, Nat.reduceAdd, Nat.reduceMul, Nat.reduceSub, Nat.reduceLeDiff, Nat.reduceLT, Nat.reduceGT, Nat.reduceEqDiff, Nat.reduceBEq, Int.reduceNeg, Int.reduceEq, Int.reduceLT, Int.reduceLE, Int.reduceBEq, Int.reduceToNat, Int.toNat_natCast, Int.natCast_zero, r87_T, r87, q1, eqD_num, g1, Bool.not_false, Bool.true_or]
  rcases Bool.eq_false_or_eq_true (k != 0) with g2 | g2
  · simp only [go_sem, and_self, and_true, true_and, false_and, and_false, Nat.reduceAdd, Nat.reduceMul, Nat.reduceSub, Nat.reduceLeDiff, Nat.reduceLT, Nat.reduceGT, Nat.reduceEqDiff, Nat.reduceBEq, Int.reduceNeg, Int.reduceEq, Int.reduceLT, Int.reduceLE, Int.reduceBEq, Int.reduceToNat, Int.toNat_natCast, Int.natCast_zero, r87_T, r87, q1, eqD_num, g1, g2, Bool.not_true, Bool.false_or]
  simp only [g1, g2, Bool.not_true, Bool.or_self, Bool.false_eq_true, if_false]
  cases nm
  rotate_left
  · simp only [go_sem, and_self, and_true, true_and, false_and, and_false, Nat.reduceAdd, Nat.reduceMul, Nat.reduceSub, Nat.reduceLeDiff, Nat.reduceLT, Nat.reduceGT, Nat.reduceEqDiff, Nat.reduceBEq, Int.reduceNeg, Int.reduceEq, Int.reduceLT, Int.reduceLE, Int.reduceBEq, Int.reduceToNat, Int.toNat_natCast, Int.natCast_zero, r87_T, r87, q1, eqD_num, g1, g2, Bool.not_true, Bool.false_or, hi]
  simp only [Bool.false_eq_true, if_false]
  by_cases o3 : o = 3
  · subst o3
    rw [if_pos rfl]
    simp only [go_sem, and_self, and_true, true_and, false_and, and_false, Nat.reduceAdd, Nat.reduceMul, Nat.reduceSub, Nat.reduceLeDiff, Nat.reduceLT, Nat.reduceGT, Nat.reduceEqDiff, Nat.reduceBEq, Int.reduceNeg, Int.reduceEq, Int.reduceLT, Int.reduceLE, Int.reduceBEq, Int.reduceToNat, Int.toNat_natCast, Int.natCast_zero, r87_T, r87, eqD_num, g1, g2, Bool.not_true, Bool.false_or, hv]
  have q3 : (o == 3) = false := by simpa using o3
  rw [if_neg o3]
  by_cases o10 : o = 10
  · subst o10
    rw [if_pos rfl]
    simp only [go_sem, and_self, and_true, true_and, false_and, and_false, Nat.reduceAdd, Nat.reduceMul, Nat.reduceSub, Nat.reduceLeDiff, Nat.reduceLT, Nat.reduceGT, Nat.reduceEqDiff, Nat.reduceBEq, Int.reduceNeg, Int.reduceEq, Int.reduceLT, Int.reduceLE, Int.reduceBEq, Int.reduceToNat, Int.toNat_natCast, Int.natCast_zero, r87_T, r87, eqD_num, g1, g2, Bool.not_true, Bool.false_or, hsg, hc]
  have q10 : (o == 10) = false := by simpa using o10
  rw [if_neg o10]
  simp only [go_sem, and_self, and_true, true_and, false_and, and_false, Nat.reduceAdd, Nat.reduceMul, Nat.reduceSub, Nat.reduceLeDiff, Nat.reduceLT, Nat.reduceGT, Nat.reduceEqDiff, Nat.reduceBEq, Int.reduceNeg, Int.reduceEq, Int.reduceLT, Int.reduceLE, Int.reduceBEq, Int.reduceToNat, Int.toNat_natCast, Int.natCast_zero, r87_T, r87, q1, q3, q10, eqD_num, g1, g2, Bool.not_true, Bool.false_or, strD_eql, e]
end Go.Pe.T

namespace Go.Pe.T

theorem strs_w (a : List ByteArray) : ((a.map D.str).all fun y => y.width == 1) = true := by
  simp [List.all_eq_true, D.width, D.cells]
theorem cut0 (xs : List D) (i : Nat) : cutD xs 0 (i : Int) = xs.take i := by
  simp [cutD]
def unF : List ByteArray → List ByteArray → Bool
  | _, [] => true
  | pre, x :: r => (validB x && !hasB pre x) && unF (pre ++ [x]) r

def UnLoop (l : List ByteArray) (i : Nat) : Prop :=
  V (F tab) r110_B0 (r110_S0 (.d (.sl (l.map .str))) (.d (.sl (l.map .str))) (.d (iv l.length)) (.d (iv i)) []) = if unF (l.take i) (l.drop i) then some (.norm, r110_E0 []) else some (.ret, r110_R (.d (.bool false)) [])
theorem un_end (l : List ByteArray) (i : Nat) (hi : l.length ≤ i) : UnLoop l i := by
  have h1 : ((i : Int) < (l.length : Int)) = False := eq_false (by omega)
  unfold UnLoop
  rw [r110_B0_eq, List.drop_of_length_le hi]
  simp (disch := omega) only [go_sem, and_self, and_true, true_and, false_and, and_false, Nat.reduceAdd, Nat.reduceMul, Nat.reduceSub, Nat.reduceLeDiff, Nat.reduceLT, Nat.reduceGT, Nat.reduceEqDiff, Nat.reduceBEq, Int.reduceNeg, Int.reduceEq, Int.reduceLT, Int.reduceLE, Int.reduceBEq, Int.reduceToNat, Int.toNat_natCast, Int.natCast_zero, r110_C0, h1, unF]
theorem un_step (l : List ByteArray) (i : Nat) (hi : i < l.length) (hl : l.length ≤ maxLen) (hs : ∀ x ∈ l, x.size ≤ maxLen) (ih : UnLoop l (i + 1)) : UnLoop l i := by
  have hmx : maxLen = 9223372036854775807 := by decide
  have h1 : ((i : Int) < (l.length : Int)) = True := eq_true (by omega)
  have hi0 : (0 ≤ (i : Int)) = True := eq_true (by omega)
  have hil : ((i : Int) ≤ (l.length : Int)) = True := eq_true (by omega)
  have va : (l.map D.str)[i]? = some (.str l[i]) := by simp [hi]
  have hv := valid_ok l[i] (hs _ (List.getElem_mem hi))
  have hc := con_ok (l.take i) l[i] (by rw [List.length_take]; omega)
  rw [List.map_take] at hc
  unfold UnLoop at ih ⊢
  rw [Int.natCast_add, Int.natCast_one] at ih
  rw [r110_B0_eq, List.drop_eq_getElem_cons hi]
  simp only [unF, List.take_append_getElem]
  rcases Bool.eq_false_or_eq_true (validB l[i]) with g1 | g1
  · rcases Bool.eq_false_or_eq_true (hasB (l.take i) l[i]) with g2 | g2
    · simp (disch := omega) only [go_sem, and_self, and_true, true_and, false_and, and_false, Nat.reduceAdd, Nat.reduceMul, Nat.reduceSub, Nat.reduceLeDiff, Nat.reduceLT, Nat.reduceGT, Nat.reduceEqDiff, Nat.reduceBEq, Int.reduceNeg, Int.reduceEq, Int.reduceLT, Int.reduceLE, Int.reduceBEq, Int.reduceToNat, Int.toNat_natCast, Int.natCast_zero, r110_C0, h1, hi0, hil, va, List.length_map, w64, hv, hc, g1, g2, strs_w, cut0, decide_true, Bool.not_true, Bool.not_false, Bool.true_and, Bool.and_false, Bool.false_and, List.drop_zero, Nat.sub_zero]
    · simp (disch := omega) only [go_sem, and_self, and_true, true_and, false_and, and_false, Nat.reduceAdd, Nat.reduceMul, Nat.reduceSub, Nat.reduceLeDiff, Nat.reduceLT, Nat.reduceGT, Nat.reduceEqDiff, Nat.reduceBEq, Int.reduceNeg, Int.reduceEq, Int.reduceLT, Int.reduceLE, Int.reduceBEq, Int.reduceToNat, Int.toNat_natCast, Int.natCast_zero, r110_C0, h1, hi0, hil, va, List.length_map, w64, hv, hc, g1, g2, strs_w, cut0, decide_true, Bool.not_true, Bool.not_false, Bool.true_and, Bool.and_false, Bool.false_and, List.drop_zero, Nat.sub_zero]
      exact ih
  · simp (disch := omega) only [go_sem, and_self, and_true, true_and, false_and, and_false, Nat.reduceAdd, Nat.reduceMul, Nat.reduceSub, Nat.reduceLeDiff, Nat.reduceLT, Nat.reduceGT, Nat.reduceEqDiff, Nat.reduceBEq, Int.reduceNeg, Int.reduceEq, Int.reduceLT, Int.reduceLE, Int.reduceBEq, Int.reduceToNat, Int.toNat_natCast, Int.natCast_zero, r110_C0, h1, hi0, hil, va, List.length_map, w64, hv, g1, decide_true, Bool.not_true, Bool.not_false, Bool.true_and, Bool.and_false, Bool.false_and]
theorem un_loop (l : List ByteArray) (hl : l.length ≤ maxLen) (hs : ∀ x ∈ l, x.size ≤ maxLen) : ∀ (j i : Nat), i + j = l.length → UnLoop l i
  | 0, i, hi => un_end l i (by omega)
  | j + 1, i, hi => un_step l i (by omega) hl hs (un_loop l hl hs j (i + 1) (by omega))
theorem unlike_ok (l : List ByteArray) (hl : l.length ≤ maxLen) (hs : ∀ x ∈ l, x.size ≤ maxLen) (hp : List Ent) : F tab 110 [.d (.sl (l.map .str))] hp = some (.ret (.d (.bool (unF [] l))) hp) := by
  have hL := un_loop l hl hs l.length 0 (by omega)
  unfold UnLoop at hL
  rw [List.drop_zero, List.take_zero] at hL
  refine f110 rfl ?_
  simp (disch := omega) only [go_sem, and_self, and_true, true_and, false_and, and_false, Nat.reduceAdd, Nat.reduceMul, Nat.reduceSub, Nat.reduceLeDiff, Nat.reduceLT, Nat.reduceGT, Nat.reduceEqDiff, Nat.reduceBEq, Int.reduceNeg, Int.reduceEq, Int.reduceLT, Int.reduceLE, Int.reduceBEq, Int.reduceToNat, Int.toNat_natCast, Int.natCast_zero, r110_T, r110, List.length_map]
  rw [r110_B0_n]
  erw [hL]
  rcases Bool.eq_false_or_eq_true (unF [] l) with g | g <;> rw [g] <;> simp only [go_sem, and_self, and_true, true_and, false_and, and_false, Nat.reduceAdd, Nat.reduceMul, Nat.reduceSub, Nat.reduceLeDiff, Nat.reduceLT, Nat.reduceGT, Nat.reduceEqDiff, Nat.reduceBEq, Int.reduceNeg, Int.reduceEq, Int.reduceLT, Int.reduceLE, Int.reduceBEq, Int.reduceToNat, Int.toNat_natCast, Int.natCast_zero]

def name2 : List ByteArray → Bool
  | [a, b] => nameB a && nameB b
  | _ => false
def namesV (o : Int) (ns : List ByteArray) (n : Nat) (nn : Bool) : Bool :=
  if nn = false then ((ns.length : Int) == 0)
  else if o = 12 then ((ns.length : Int) == (n : Int)) && unF [] ns
  else name2 ns
set_option maxHeartbeats 2000000 in
theorem names_ok (o : Int) (t p k c s : D) (ns : List ByteArray) (xs : List Xp) (hl : ns.length ≤ maxLen) (hs : ∀ x ∈ ns, x.size ≤ maxLen) (l m : Int) (nm nn : Bool) (hp : List Ent) :
    F tab 88 [.d (.agg [iv o, t, p, k, c, s, .sl (ns.map .str), .sl (Xp.encs xs)]), .d (.agg [iv l, iv m, .bool nm, .bool nn])] hp = some (.ret (.d (.bool (namesV o ns xs.length nn))) hp) := by
  have hu := unlike_ok ns hl hs
  refine f88 rfl ?_
  unfold namesV
  cases nn
  · simp only [go_sem, and_self, and_true, true_and, false_and, and_false, Nat.reduceAdd, Nat.reduceMul, Nat.reduceSub, Nat.reduceLeDiff, Nat.reduceLT, Nat.reduceGT, Nat.reduceEqDiff, Nat.reduceBEq, Int.reduceNeg, Int.reduceEq, Int.reduceLT, Int.reduceLE, Int.reduceBEq, Int.reduceToNat, Int.toNat_natCast, Int.natCast_zero, r88_T, r88, List.length_map]
  · simp only [Bool.true_eq_false, if_false]
    by_cases o12 : o = 12
    · rw [if_pos o12]
      rcases Bool.eq_false_or_eq_true ((ns.length : Int) == (xs.length : Int)) with g | g <;>
        simp only [go_sem, and_self, and_true, true_and, false_and, and_false, Nat.reduceAdd, Nat.reduceMul, Nat.reduceSub, Nat.reduceLeDiff, Nat.reduceLT, Nat.reduceGT, Nat.reduceEqDiff, Nat.reduceBEq, Int.reduceNeg, Int.reduceEq, Int.reduceLT, Int.reduceLE, Int.reduceBEq, Int.reduceToNat, Int.toNat_natCast, Int.natCast_zero, r88_T, r88, o12, List.length_map, xencs_len, hu, g, Bool.true_and, Bool.false_and]
    · have q12 : (o == 12) = false := by simpa using o12
      rw [if_neg o12]
      have n0 : ((0 : Nat) : Int) = 0 := rfl
      have n1 : ((1 : Nat) : Int) = 1 := rfl
      have n2 : ((2 : Nat) : Int) = 2 := rfl
      match ns, hs with
      | [], _ => simp only [go_sem, and_self, and_true, true_and, false_and, and_false, Nat.reduceAdd, Nat.reduceMul, Nat.reduceSub, Nat.reduceLeDiff, Nat.reduceLT, Nat.reduceGT, Nat.reduceEqDiff, Nat.reduceBEq, Int.reduceNeg, Int.reduceEq, Int.reduceLT, Int.reduceLE, Int.reduceBEq, Int.reduceToNat, Int.toNat_natCast, Int.natCast_zero, r88_T, r88, q12, List.length_nil, List.map_nil, name2, n0]
      | [a], _ => simp only [go_sem, and_self, and_true, true_and, false_and, and_false, Nat.reduceAdd, Nat.reduceMul, Nat.reduceSub, Nat.reduceLeDiff, Nat.reduceLT, Nat.reduceGT, Nat.reduceEqDiff, Nat.reduceBEq, Int.reduceNeg, Int.reduceEq, Int.reduceLT, Int.reduceLE, Int.reduceBEq, Int.reduceToNat, Int.toNat_natCast, Int.natCast_zero, r88_T, r88, q12, List.length_nil, List.length_cons, List.map_cons, List.map_nil, name2, n1]
      | [a, b], hs =>
        have h1 := name_ok a (hs a (by simp))
        have h2 := name_ok b (hs b (by simp))
        rcases Bool.eq_false_or_eq_true (nameB a) with g | g <;>
          simp only [go_sem, and_self, and_true, true_and, false_and, and_false, Nat.reduceAdd, Nat.reduceMul, Nat.reduceSub, Nat.reduceLeDiff, Nat.reduceLT, Nat.reduceGT, Nat.reduceEqDiff, Nat.reduceBEq, Int.reduceNeg, Int.reduceEq, Int.reduceLT, Int.reduceLE, Int.reduceBEq, Int.reduceToNat, Int.toNat_natCast, Int.natCast_zero, r88_T, r88, q12, List.length_nil, List.length_cons, List.map_cons, List.map_nil, name2, h1, h2, g, n2, Bool.true_and, Bool.false_and]
      | a :: b :: c :: r, _ =>
        have g : (((a :: b :: c :: r).length : Int) == 2) = false := by simp only [List.length_cons, beq_eq_false_iff_ne]; omega
        have hn : name2 (a :: b :: c :: r) = false := rfl
        generalize a :: b :: c :: r = w at g hn ⊢
        simp only [go_sem, and_self, and_true, true_and, false_and, and_false, Nat.reduceAdd, Nat.reduceMul, Nat.reduceSub, Nat.reduceLeDiff, Nat.reduceLT, Nat.reduceGT, Nat.reduceEqDiff, Nat.reduceBEq, Int.reduceNeg, Int.reduceEq, Int.reduceLT, Int.reduceLE, Int.reduceBEq, Int.reduceToNat, Int.toNat_natCast, Int.natCast_zero, r88_T, r88, q12, List.length_map, hn, g]

def fitsV : Xp → Bool
  | .mk o t p k c s ns xs => ((shapeV o).2.2.2.2 && (p == 0 && (decide ((xs.length : Int) ≥ (shapeV o).1) && (decide ((xs.length : Int) ≤ (shapeV o).2.1) && (textV o t k c s (shapeV o).2.2.1 && namesV o ns xs.length (shapeV o).2.2.2.1)))))
theorem fits_ok (x : Xp) (hx : x.ok) (hp : List Ent) : F tab 58 [.d x.enc] hp = some (.ret (.d (.bool (fitsV x))) hp) := by
  obtain ⟨o, t, p, k, c, s, ns, xs⟩ := x
  simp only [Xp.ok] at hx
  have h1 := shape_ok o
  have h2 := text_ok o t p k c s (.sl (ns.map .str)) (.sl (Xp.encs xs)) hx.2.1
  have h3 := names_ok o (.str t) (iv p) (iv k) (iv c) (iv s) ns xs hx.2.2.2.2.2.2.1 hx.2.2.2.2.2.2.2.1
  simp only [Xp.enc, fitsV]
  refine f58 rfl ?_
  generalize shapeV o = sh at *
  obtain ⟨l, m, nm, nn, ok⟩ := sh
  simp only [shD] at h1 h2 h3 ⊢
  cases ok
  · simp only [go_sem, and_self, and_true, true_and, false_and, and_false, Nat.reduceAdd, Nat.reduceMul, Nat.reduceSub, Nat.reduceLeDiff, Nat.reduceLT, Nat.reduceGT, Nat.reduceEqDiff, Nat.reduceBEq, Int.reduceNeg, Int.reduceEq, Int.reduceLT, Int.reduceLE, Int.reduceBEq, Int.reduceToNat, Int.toNat_natCast, Int.natCast_zero, r58_T, r58, h1, Bool.false_and]
  rcases Bool.eq_false_or_eq_true (p == 0) with g1 | g1
  rotate_left
  · simp only [go_sem, and_self, and_true, true_and, false_and, and_false, Nat.reduceAdd, Nat.reduceMul, Nat.reduceSub, Nat.reduceLeDiff, Nat.reduceLT, Nat.reduceGT, Nat.reduceEqDiff, Nat.reduceBEq, Int.reduceNeg, Int.reduceEq, Int.reduceLT, Int.reduceLE, Int.reduceBEq, Int.reduceToNat, Int.toNat_natCast, Int.natCast_zero, r58_T, r58, h1, g1, Bool.true_and, Bool.false_and]
  rcases Bool.eq_false_or_eq_true (decide ((xs.length : Int) ≥ l)) with g2 | g2
  rotate_left
  · simp only [go_sem, and_self, and_true, true_and, false_and, and_false, Nat.reduceAdd, Nat.reduceMul, Nat.reduceSub, Nat.reduceLeDiff, Nat.reduceLT, Nat.reduceGT, Nat.reduceEqDiff, Nat.reduceBEq, Int.reduceNeg, Int.reduceEq, Int.reduceLT, Int.reduceLE, Int.reduceBEq, Int.reduceToNat, Int.toNat_natCast, Int.natCast_zero, r58_T, r58, h1, g1, g2, xencs_len, Bool.true_and, Bool.false_and]
  rcases Bool.eq_false_or_eq_true (decide ((xs.length : Int) ≤ m)) with g3 | g3
  rotate_left
  · simp only [go_sem, and_self, and_true, true_and, false_and, and_false, Nat.reduceAdd, Nat.reduceMul, Nat.reduceSub, Nat.reduceLeDiff, Nat.reduceLT, Nat.reduceGT, Nat.reduceEqDiff, Nat.reduceBEq, Int.reduceNeg, Int.reduceEq, Int.reduceLT, Int.reduceLE, Int.reduceBEq, Int.reduceToNat, Int.toNat_natCast, Int.natCast_zero, r58_T, r58, h1, g1, g2, g3, xencs_len, Bool.true_and, Bool.false_and]
  have h2 := h2 l m nm nn
  have h3 := h3 l m nm nn
  rcases Bool.eq_false_or_eq_true (textV o t k c s nm) with g4 | g4 <;>
    simp only [go_sem, and_self, and_true, true_and, false_and, and_false, Nat.reduceAdd, Nat.reduceMul, Nat.reduceSub, Nat.reduceLeDiff, Nat.reduceLT, Nat.reduceGT, Nat.reduceEqDiff, Nat.reduceBEq, Int.reduceNeg, Int.reduceEq, Int.reduceLT, Int.reduceLE, Int.reduceBEq, Int.reduceToNat, Int.toNat_natCast, Int.natCast_zero, r58_T, r58, h1, g1, g2, g3, g4, h2, h3, xencs_len, Bool.true_and, Bool.false_and]

theorem is_step (x : Xp) (hx : x.ok) (left : Int) (h0 : 0 ≤ left) (h5 : left ≤ 1000) : F tab 57 [.d x.enc, .ptr 0 0] [.box [.d (iv left)]] = some (.ret (.d (.bool (decide (left - 1 ≥ 0) && fitsV x))) [.box [.d (iv (left - 1))]]) := by
  have hf := fits_ok x hx
  obtain ⟨o, t, p, k, c, s, ns, ys, ex⟩ := xenc_as x
  rw [ex] at hf ⊢
  refine f57 ?_
  rcases Bool.eq_false_or_eq_true (decide (left - 1 ≥ 0)) with g | g <;>
    simp (disch := omega) only [go_sem, and_self, and_true, true_and, false_and, and_false, Nat.reduceAdd, Nat.reduceMul, Nat.reduceSub, Nat.reduceLeDiff, Nat.reduceLT, Nat.reduceGT, Nat.reduceEqDiff, Nat.reduceBEq, Int.reduceNeg, Int.reduceEq, Int.reduceLT, Int.reduceLE, Int.reduceBEq, Int.reduceToNat, Int.toNat_natCast, Int.natCast_zero, r57_T, r57, hf, g, w64, Bool.true_and, Bool.false_and]

theorem is_runs : ∀ (l : List Xp) (left : Int), (∀ x ∈ l, x.ok) → 0 ≤ left → left ≤ 1000 → ∃ hp', Runs 57 [.ptr 0 0] [.box [.d (iv left)]] l hp' (decide ((l.length : Int) ≤ left) && l.all fitsV)
  | [], left, _, h0, h5 => by
    have e : (decide ((([] : List Xp).length : Int) ≤ left) && ([] : List Xp).all fitsV) = true := by simp; omega
    rw [e]
    exact ⟨_, .nil⟩
  | x :: l, left, hk, h0, h5 => by
    have hs := is_step x (hk x (by simp)) left h0 h5
    by_cases g : (decide (left - 1 ≥ 0) && fitsV x) = true
    · rw [g] at hs
      simp only [Bool.and_eq_true, decide_eq_true_eq] at g
      obtain ⟨hp', hr⟩ := is_runs l (left - 1) (fun y hy => hk y (by simp [hy])) (by omega) (by omega)
      have e : (decide (((x :: l).length : Int) ≤ left) && (x :: l).all fitsV) = (decide ((l.length : Int) ≤ left - 1) && l.all fitsV) := by
        simp only [List.all_cons, g.2, Bool.true_and, List.length_cons]
        congr 1
        apply decide_eq_decide.2
        omega
      rw [e]
      exact ⟨hp', .step hs hr⟩
    · have g' : (decide (left - 1 ≥ 0) && fitsV x) = false := by simpa using g
      rw [g'] at hs
      have e : (decide (((x :: l).length : Int) ≤ left) && (x :: l).all fitsV) = false := by
        simp only [List.all_cons, List.length_cons]
        simp only [Bool.and_eq_false_iff, decide_eq_false_iff_not] at g' ⊢
        rcases g' with h | h
        · left; omega
        · right; left; exact h
      rw [e]
      exact ⟨_, .stop hs⟩

def isV (e : Xp) : Bool := decide (e.pre.length ≤ 512) && e.pre.all fitsV
theorem is_ok (e : Xp) (he : e.ok) (hp : List Ent) : F tab 34 [.d e.enc] hp = some (.ret (.d (.bool (isV e))) hp) := by
  obtain ⟨hp', hr⟩ := is_runs e.pre 512 (pre_ok e he) (by omega) (by omega)
  have hw := go_ok _ _ e he _ _ _ hr
  have e1 : (decide ((e.pre.length : Int) ≤ 512) && e.pre.all fitsV) = isV e := by unfold isV; congr 1; apply decide_eq_decide.2; omega
  rw [e1] at hw
  obtain ⟨o, t, p, k, c, s, ns, ys, ex⟩ := xenc_as e
  rw [ex] at hw ⊢
  refine f34 rfl ?_
  simp (disch := omega) only [go_sem, and_self, and_true, true_and, false_and, and_false, Nat.reduceAdd, Nat.reduceMul, Nat.reduceSub, Nat.reduceLeDiff, Nat.reduceLT, Nat.reduceGT, Nat.reduceEqDiff, Nat.reduceBEq, Int.reduceNeg, Int.reduceEq, Int.reduceLT, Int.reduceLE, Int.reduceBEq, Int.reduceToNat, Int.toNat_natCast, Int.natCast_zero, r34_T, r34, hw]
end Go.Pe.T

namespace Go.Pe.T
theorem nid_ok (s : ByteArray) (hs : s.size ≤ maxLen) (hp : List Ent) : F tab 62 [.d (.str s)] hp = some (.ret (.d (.bool (!identB s))) hp) := by
  have h := ident_ok s hs
  refine f62 rfl ?_
  simp only [go_sem, and_self, and_true, true_and, false_and, and_false, Nat.reduceAdd, Nat.reduceMul, Nat.reduceSub, Nat.reduceLeDiff, Nat.reduceLT, Nat.reduceGT, Nat.reduceEqDiff, Nat.reduceBEq, Int.reduceNeg, Int.reduceEq, Int.reduceLT, Int.reduceLE, Int.reduceBEq, Int.reduceToNat, Int.toNat_natCast, Int.natCast_zero, r62_T, r62, h]
def NfLoop (l : List ByteArray) (i : Nat) (hp : List Ent) : Prop :=
  ∃ k : Nat, V (F tab) r91_B0 (r91_S0 (.d (.sl (l.map .str))) (.fn 62 []) (.d (iv l.length)) (.d (iv i)) hp) = if (l.drop i).all identB then some (.norm, r91_E0 hp) else some (.ret, r91_R (.d (iv k)) hp)
theorem nf_loop (l : List ByteArray) (hl : l.length ≤ maxLen) (hs : ∀ x ∈ l, x.size ≤ maxLen) (hp : List Ent) : ∀ (j i : Nat), i + j = l.length → NfLoop l i hp
  | 0, i, hi => by
    have h1 : ((i : Int) < (l.length : Int)) = False := eq_false (by omega)
    refine ⟨0, ?_⟩
    rw [r91_B0_eq, List.drop_of_length_le (by omega)]
    simp (disch := omega) only [go_sem, and_self, and_true, true_and, false_and, and_false, Nat.reduceAdd, Nat.reduceMul, Nat.reduceSub, Nat.reduceLeDiff, Nat.reduceLT, Nat.reduceGT, Nat.reduceEqDiff, Nat.reduceBEq, Int.reduceNeg, Int.reduceEq, Int.reduceLT, Int.reduceLE, Int.reduceBEq, Int.reduceToNat, Int.toNat_natCast, Int.natCast_zero, r91_C0, h1, List.length_map, List.all_nil]
  | j + 1, i, hi => by
    have hmx : maxLen = 9223372036854775807 := by decide
    obtain ⟨k, ih⟩ := nf_loop l hl hs hp j (i + 1) (by omega)
    have hi1 : i < l.length := by omega
    have h1 : ((i : Int) < (l.length : Int)) = True := eq_true (by omega)
    have hi0 : (0 ≤ (i : Int)) = True := eq_true (by omega)
    have va : (l.map D.str)[i]? = some (.str l[i]) := by simp [hi1]
    have hn := nid_ok l[i] (hs _ (List.getElem_mem hi1))
    rw [Int.natCast_add, Int.natCast_one] at ih
    rcases Bool.eq_false_or_eq_true (identB l[i]) with g | g
    · refine ⟨k, ?_⟩
      rw [g] at hn
      rw [r91_B0_eq, List.drop_eq_getElem_cons hi1, List.all_cons, g, Bool.true_and]
      simp (disch := omega) only [go_sem, and_self, and_true, true_and, false_and, and_false, Nat.reduceAdd, Nat.reduceMul, Nat.reduceSub, Nat.reduceLeDiff, Nat.reduceLT, Nat.reduceGT, Nat.reduceEqDiff, Nat.reduceBEq, Int.reduceNeg, Int.reduceEq, Int.reduceLT, Int.reduceLE, Int.reduceBEq, Int.reduceToNat, Int.toNat_natCast, Int.natCast_zero, r91_C0, h1, hi0, va, hn, List.length_map, w64]
      exact ih
    · refine ⟨i, ?_⟩
      rw [g] at hn
      rw [r91_B0_eq, List.drop_eq_getElem_cons hi1, List.all_cons, g, Bool.false_and]
      simp (disch := omega) only [go_sem, and_self, and_true, true_and, false_and, and_false, Nat.reduceAdd, Nat.reduceMul, Nat.reduceSub, Nat.reduceLeDiff, Nat.reduceLT, Nat.reduceGT, Nat.reduceEqDiff, Nat.reduceBEq, Int.reduceNeg, Int.reduceEq, Int.reduceLT, Int.reduceLE, Int.reduceBEq, Int.reduceToNat, Int.toNat_natCast, Int.natCast_zero, r91_C0, h1, hi0, va, hn, List.length_map, w64]
theorem idents_ok (l : List ByteArray) (hl : l.length ≤ maxLen) (hs : ∀ x ∈ l, x.size ≤ maxLen) (hp : List Ent) : F tab 36 [.d (.sl (l.map .str))] hp = some (.ret (.d (.bool (l.all identB))) hp) := by
  have hI : ∃ b : Int, (decide (b ≥ 0) = !(l.all identB)) ∧ F tab 91 [.d (.sl (l.map .str)), .fn 62 []] [] = some (.ret (.d (iv b)) []) := by
    obtain ⟨k, hL⟩ := nf_loop l hl hs [] l.length 0 (by omega)
    rw [List.drop_zero] at hL
    rcases Bool.eq_false_or_eq_true (l.all identB) with g | g
    · refine ⟨-1, by rw [g]; simp, f91 ?_⟩
      simp (disch := omega) only [go_sem, and_self, and_true, true_and, false_and, and_false, Nat.reduceAdd, Nat.reduceMul, Nat.reduceSub, Nat.reduceLeDiff, Nat.reduceLT, Nat.reduceGT, Nat.reduceEqDiff, Nat.reduceBEq, Int.reduceNeg, Int.reduceEq, Int.reduceLT, Int.reduceLE, Int.reduceBEq, Int.reduceToNat, Int.toNat_natCast, Int.natCast_zero, r91_T, r91, List.length_map]
      rw [r91_B0_n]
      erw [hL]
      rw [g]
      simp only [go_sem, and_self, and_true, true_and, false_and, and_false, Nat.reduceAdd, Nat.reduceMul, Nat.reduceSub, Nat.reduceLeDiff, Nat.reduceLT, Nat.reduceGT, Nat.reduceEqDiff, Nat.reduceBEq, Int.reduceNeg, Int.reduceEq, Int.reduceLT, Int.reduceLE, Int.reduceBEq, Int.reduceToNat, Int.toNat_natCast, Int.natCast_zero]
    · refine ⟨k, by rw [g]; simp, f91 ?_⟩
      simp (disch := omega) only [go_sem, and_self, and_true, true_and, false_and, and_false, Nat.reduceAdd, Nat.reduceMul, Nat.reduceSub, Nat.reduceLeDiff, Nat.reduceLT, Nat.reduceGT, Nat.reduceEqDiff, Nat.reduceBEq, Int.reduceNeg, Int.reduceEq, Int.reduceLT, Int.reduceLE, Int.reduceBEq, Int.reduceToNat, Int.toNat_natCast, Int.natCast_zero, r91_T, r91, List.length_map]
      rw [r91_B0_n]
      erw [hL]
      rw [g]
      simp only [go_sem, and_self, and_true, true_and, false_and, and_false, Nat.reduceAdd, Nat.reduceMul, Nat.reduceSub, Nat.reduceLeDiff, Nat.reduceLT, Nat.reduceGT, Nat.reduceEqDiff, Nat.reduceBEq, Int.reduceNeg, Int.reduceEq, Int.reduceLT, Int.reduceLE, Int.reduceBEq, Int.reduceToNat, Int.toNat_natCast, Int.natCast_zero]
  obtain ⟨b, h1, h2⟩ := hI
  have hC : F tab 61 [.d (.sl (l.map .str)), .fn 62 []] [] = some (.ret (.d (.bool (!(l.all identB)))) []) := by
    refine f61 ?_
    simp only [go_sem, and_self, and_true, true_and, false_and, and_false, Nat.reduceAdd, Nat.reduceMul, Nat.reduceSub, Nat.reduceLeDiff, Nat.reduceLT, Nat.reduceGT, Nat.reduceEqDiff, Nat.reduceBEq, Int.reduceNeg, Int.reduceEq, Int.reduceLT, Int.reduceLE, Int.reduceBEq, Int.reduceToNat, Int.toNat_natCast, Int.natCast_zero, r61_T, r61, h2, h1]
  refine f36 rfl ?_
  simp only [go_sem, and_self, and_true, true_and, false_and, and_false, Nat.reduceAdd, Nat.reduceMul, Nat.reduceSub, Nat.reduceLeDiff, Nat.reduceLT, Nat.reduceGT, Nat.reduceEqDiff, Nat.reduceBEq, Int.reduceNeg, Int.reduceEq, Int.reduceLT, Int.reduceLE, Int.reduceBEq, Int.reduceToNat, Int.toNat_natCast, Int.natCast_zero, r36_T, r36, hC, Bool.not_not]
end Go.Pe.T

namespace Go.Pe.T
structure FnIn (f : Fn) : Prop where
  name : f.name.size ≤ maxLen
  params : f.params.length ≤ maxLen
  pars : ∀ x ∈ f.params, x.size ≤ maxLen
  body : f.body.ok
def fnV (f : Fn) : Bool := identB f.name && (decide (f.params.length ≤ 4) && (f.params.all identB && isV f.body))
def isP (fs : List Fn) (x : Xp) : Bool := decide (fs.length ≤ 32) && (isV x && fs.all fnV)
def SiLoop (fs : List Fn) (i : Nat) : Prop :=
  V (F tab) r16_B0 (r16_S0 (.d (.sl (fnDs fs))) (.d (iv fs.length)) (.d (iv i)) []) = if (fs.drop i).all fnV then some (.norm, r16_E0 []) else some (.ret, r16_R (.d (.bool false)) [])
set_option maxHeartbeats 2000000 in
theorem si_loop (fs : List Fn) (hl : fs.length ≤ 1000) (hf : ∀ f ∈ fs, FnIn f) : ∀ (j i : Nat), i + j = fs.length → SiLoop fs i
  | 0, i, hi => by
    have h1 : ((i : Int) < (fs.length : Int)) = False := eq_false (by omega)
    unfold SiLoop
    rw [r16_B0_eq, List.drop_of_length_le (by omega)]
    simp (disch := omega) only [go_sem, and_self, and_true, true_and, false_and, and_false, Nat.reduceAdd, Nat.reduceMul, Nat.reduceSub, Nat.reduceLeDiff, Nat.reduceLT, Nat.reduceGT, Nat.reduceEqDiff, Nat.reduceBEq, Int.reduceNeg, Int.reduceEq, Int.reduceLT, Int.reduceLE, Int.reduceBEq, Int.reduceToNat, Int.toNat_natCast, Int.natCast_zero, r16_C0, h1, List.all_nil]
  | j + 1, i, hi => by
    have ih := si_loop fs hl hf j (i + 1) (by omega)
    have hi1 : i < fs.length := by omega
    have h1 : ((i : Int) < (fs.length : Int)) = True := eq_true (by omega)
    have hi0 : (0 ≤ (i : Int)) = True := eq_true (by omega)
    have hfd : (fnDs fs).length = fs.length := by rw [fnDs, List.length_map]
    have va : (fnDs fs)[i]? = some fs[i].enc := by rw [fnDs, List.getElem?_map, List.getElem?_eq_getElem hi1]; rfl
    have hF := hf fs[i] (List.getElem_mem hi1)
    unfold SiLoop at ih ⊢
    rw [Int.natCast_add, Int.natCast_one] at ih
    rw [r16_B0_eq, List.drop_eq_getElem_cons hi1, List.all_cons]
    generalize fs[i] = f at *
    obtain ⟨o', t', p', k', c', s', ns', xs', e1, e2⟩ := fn_as' f
    rw [e2] at va
    have n1 := ident_ok f.name hF.name
    have n3 := idents_ok f.params hF.params hF.pars
    have n4 := is_ok f.body hF.body
    rw [e1] at n4
    unfold fnV
    rcases Bool.eq_false_or_eq_true (identB f.name) with g1 | g1
    · rw [g1] at n1 ⊢
      by_cases g2 : f.params.length ≤ 4
      · have g2' : ((f.params.length : Int) > 4) = False := eq_false (by omega)
        rw [decide_eq_true g2]
        rcases Bool.eq_false_or_eq_true (f.params.all identB) with g3 | g3
        · rw [g3] at n3 ⊢
          rcases Bool.eq_false_or_eq_true (isV f.body) with g4 | g4
          · rw [g4] at n4 ⊢
            simp only [Bool.true_and]
            simp (disch := omega) only [go_sem, and_self, and_true, true_and, false_and, and_false, Nat.reduceAdd, Nat.reduceMul, Nat.reduceSub, Nat.reduceLeDiff, Nat.reduceLT, Nat.reduceGT, Nat.reduceEqDiff, Nat.reduceBEq, Int.reduceNeg, Int.reduceEq, Int.reduceLT, Int.reduceLE, Int.reduceBEq, Int.reduceToNat, Int.toNat_natCast, Int.natCast_zero, r16_C0, h1, hi0, hfd, va, n1, n3, n4, g2', List.length_map, w64]
            exact ih
          · rw [g4] at n4 ⊢
            simp only [Bool.true_and, Bool.false_and]
            simp (disch := omega) only [go_sem, and_self, and_true, true_and, false_and, and_false, Nat.reduceAdd, Nat.reduceMul, Nat.reduceSub, Nat.reduceLeDiff, Nat.reduceLT, Nat.reduceGT, Nat.reduceEqDiff, Nat.reduceBEq, Int.reduceNeg, Int.reduceEq, Int.reduceLT, Int.reduceLE, Int.reduceBEq, Int.reduceToNat, Int.toNat_natCast, Int.natCast_zero, r16_C0, h1, hi0, hfd, va, n1, n3, n4, g2', List.length_map, w64]
        · rw [g3] at n3 ⊢
          simp only [Bool.true_and, Bool.false_and]
          simp (disch := omega) only [go_sem, and_self, and_true, true_and, false_and, and_false, Nat.reduceAdd, Nat.reduceMul, Nat.reduceSub, Nat.reduceLeDiff, Nat.reduceLT, Nat.reduceGT, Nat.reduceEqDiff, Nat.reduceBEq, Int.reduceNeg, Int.reduceEq, Int.reduceLT, Int.reduceLE, Int.reduceBEq, Int.reduceToNat, Int.toNat_natCast, Int.natCast_zero, r16_C0, h1, hi0, hfd, va, n1, n3, g2', List.length_map, w64]
      · have g2' : ((f.params.length : Int) > 4) = True := eq_true (by omega)
        rw [decide_eq_false g2]
        simp only [Bool.true_and, Bool.false_and]
        simp (disch := omega) only [go_sem, and_self, and_true, true_and, false_and, and_false, Nat.reduceAdd, Nat.reduceMul, Nat.reduceSub, Nat.reduceLeDiff, Nat.reduceLT, Nat.reduceGT, Nat.reduceEqDiff, Nat.reduceBEq, Int.reduceNeg, Int.reduceEq, Int.reduceLT, Int.reduceLE, Int.reduceBEq, Int.reduceToNat, Int.toNat_natCast, Int.natCast_zero, r16_C0, h1, hi0, hfd, va, n1, g2', List.length_map, w64]
    · rw [g1] at n1 ⊢
      simp only [Bool.false_and]
      simp (disch := omega) only [go_sem, and_self, and_true, true_and, false_and, and_false, Nat.reduceAdd, Nat.reduceMul, Nat.reduceSub, Nat.reduceLeDiff, Nat.reduceLT, Nat.reduceGT, Nat.reduceEqDiff, Nat.reduceBEq, Int.reduceNeg, Int.reduceEq, Int.reduceLT, Int.reduceLE, Int.reduceBEq, Int.reduceToNat, Int.toNat_natCast, Int.natCast_zero, r16_C0, h1, hi0, hfd, va, n1, List.length_map, w64]
set_option maxHeartbeats 1000000 in
theorem sIs_ok (fs : List Fn) (x : Xp) (hl : fs.length ≤ 1000) (hf : ∀ f ∈ fs, FnIn f) (hx : x.ok) (hp : List Ent) : F tab 16 [.d (progD fs x)] hp = some (.ret (.d (.bool (isP fs x))) hp) := by
  have hi := is_ok x hx
  have hfd : (fnDs fs).length = fs.length := by rw [fnDs, List.length_map]
  have hL := si_loop fs hl hf fs.length 0 (by omega)
  unfold SiLoop at hL
  rw [List.drop_zero] at hL
  obtain ⟨o, t, p, k, c, s, ns, xs, e1, e2⟩ := prog_as fs x
  rw [e1] at hi
  rw [e2]
  refine f16 rfl ?_
  unfold isP
  by_cases g0 : fs.length ≤ 32
  · have g0' : ((fs.length : Int) > 32) = False := eq_false (by omega)
    rw [decide_eq_true g0, Bool.true_and]
    rcases Bool.eq_false_or_eq_true (isV x) with g | g
    · rw [g] at hi ⊢
      simp (disch := omega) only [go_sem, and_self, and_true, true_and, false_and, and_false, Nat.reduceAdd, Nat.reduceMul, Nat.reduceSub, Nat.reduceLeDiff, Nat.reduceLT, Nat.reduceGT, Nat.reduceEqDiff, Nat.reduceBEq, Int.reduceNeg, Int.reduceEq, Int.reduceLT, Int.reduceLE, Int.reduceBEq, Int.reduceToNat, Int.toNat_natCast, Int.natCast_zero, r16_T, hi, hfd, g0', Bool.true_and]
      rw [r16_B0_n]
      erw [hL]
      rcases Bool.eq_false_or_eq_true (fs.all fnV) with g2 | g2 <;> rw [g2] <;> simp only [go_sem, and_self, and_true, true_and, false_and, and_false, Nat.reduceAdd, Nat.reduceMul, Nat.reduceSub, Nat.reduceLeDiff, Nat.reduceLT, Nat.reduceGT, Nat.reduceEqDiff, Nat.reduceBEq, Int.reduceNeg, Int.reduceEq, Int.reduceLT, Int.reduceLE, Int.reduceBEq, Int.reduceToNat, Int.toNat_natCast, Int.natCast_zero, r16]
    · rw [g] at hi ⊢
      simp (disch := omega) only [go_sem, and_self, and_true, true_and, false_and, and_false, Nat.reduceAdd, Nat.reduceMul, Nat.reduceSub, Nat.reduceLeDiff, Nat.reduceLT, Nat.reduceGT, Nat.reduceEqDiff, Nat.reduceBEq, Int.reduceNeg, Int.reduceEq, Int.reduceLT, Int.reduceLE, Int.reduceBEq, Int.reduceToNat, Int.toNat_natCast, Int.natCast_zero, r16_T, r16, hi, hfd, g0', Bool.false_and]
  · have g0' : ((fs.length : Int) > 32) = True := eq_true (by omega)
    rw [decide_eq_false g0, Bool.false_and]
    simp (disch := omega) only [go_sem, and_self, and_true, true_and, false_and, and_false, Nat.reduceAdd, Nat.reduceMul, Nat.reduceSub, Nat.reduceLeDiff, Nat.reduceLT, Nat.reduceGT, Nat.reduceEqDiff, Nat.reduceBEq, Int.reduceNeg, Int.reduceEq, Int.reduceLT, Int.reduceLE, Int.reduceBEq, Int.reduceToNat, Int.toNat_natCast, Int.natCast_zero, r16_T, r16, hi, hfd, g0']

def fnL (f : Fn) : Bool := decide (f.params.length ≤ 20) && decide (f.body.pre.length ≤ 590)
def LtLoop (fs : List Fn) (x1 : PV) (i : Nat) : Prop :=
  V (F tab) r15_B0 (r15_S0 x1 (.d (iv i)) []) = if ((fs.drop i).take (50 - i)).all fnL then some (.norm, r15_E0 x1 []) else some (.ret, r15_R (.d (.bool false)) [])
set_option maxHeartbeats 1000000 in
theorem lt_loop (fs : List Fn) (hl : fs.length ≤ maxLen) (hf : ∀ f ∈ fs, FnIn f) (c1 c2 c3 c4 c5 c6 c7 c8 : D) : ∀ (j i : Nat), i + j = 50 → i ≤ fs.length → LtLoop fs (.ibox [.d (.sl (fnDs fs)), .d c1, .d c2, .d c3, .d c4, .d c5, .d c6, .d c7, .d c8]) i
  | 0, i, hi, hle => by
    obtain rfl : i = 50 := by omega
    have hfd : (fnDs fs).length = fs.length := by rw [fnDs, List.length_map]
    have e50 : ((50 : Nat) : Int) = 50 := rfl
    have n50 : ((50 : Int) < 50) = False := eq_false (by omega)
    unfold LtLoop
    rw [r15_B0_eq, e50, Nat.sub_self, List.take_zero]
    by_cases h : (50 : Int) < (fs.length : Int)
    · have h1 : ((50 : Int) < (fs.length : Int)) = True := eq_true h
      simp (disch := omega) only [go_sem, and_self, and_true, true_and, false_and, and_false, Nat.reduceAdd, Nat.reduceMul, Nat.reduceSub, Nat.reduceLeDiff, Nat.reduceLT, Nat.reduceGT, Nat.reduceEqDiff, Nat.reduceBEq, Int.reduceNeg, Int.reduceEq, Int.reduceLT, Int.reduceLE, Int.reduceBEq, Int.reduceToNat, Int.toNat_natCast, Int.natCast_zero, r15_C0, h1, n50, hfd, List.all_nil]
    · have h1 : ((50 : Int) < (fs.length : Int)) = False := eq_false h
      simp (disch := omega) only [go_sem, and_self, and_true, true_and, false_and, and_false, Nat.reduceAdd, Nat.reduceMul, Nat.reduceSub, Nat.reduceLeDiff, Nat.reduceLT, Nat.reduceGT, Nat.reduceEqDiff, Nat.reduceBEq, Int.reduceNeg, Int.reduceEq, Int.reduceLT, Int.reduceLE, Int.reduceBEq, Int.reduceToNat, Int.toNat_natCast, Int.natCast_zero, r15_C0, h1, n50, hfd, List.all_nil]
  | j + 1, i, hi, hle => by
    have hfd : (fnDs fs).length = fs.length := by rw [fnDs, List.length_map]
    by_cases hi1 : i < fs.length
    · have ih := lt_loop fs hl hf c1 c2 c3 c4 c5 c6 c7 c8 j (i + 1) (by omega) (by omega)
      have h1 : ((i : Int) < (fs.length : Int)) = True := eq_true (by omega)
      have h50 : ((i : Int) < 50) = True := eq_true (by omega)
      have hi0 : (0 ≤ (i : Int)) = True := eq_true (by omega)
      have va : (fnDs fs)[i]? = some fs[i].enc := by rw [fnDs, List.getElem?_map, List.getElem?_eq_getElem hi1]; rfl
      have hF := hf fs[i] (List.getElem_mem hi1)
      have e5 : 50 - i = (50 - (i + 1)) + 1 := by omega
      unfold LtLoop at ih ⊢
      rw [Int.natCast_add, Int.natCast_one] at ih
      rw [r15_B0_eq, List.drop_eq_getElem_cons hi1, e5, List.take_succ_cons, List.all_cons]
      generalize fs[i] = f at *
      obtain ⟨o', t', p', k', c', s', ns', xs', e1, e2⟩ := fn_as' f
      rw [e2] at va
      have n4 : ∀ hp, F tab 27 [.d f.body.enc, .d (iv 590)] hp = _ := light_ok f.body hF.body 590 (by omega)
      rw [e1] at n4
      unfold fnL
      by_cases g2 : f.params.length ≤ 20
      · have g2' : ((f.params.length : Int) > 20) = False := eq_false (by omega)
        rw [decide_eq_true g2, Bool.true_and]
        by_cases g3 : f.body.pre.length ≤ 590
        · rw [decide_eq_true g3] at n4 ⊢
          rw [Bool.true_and]
          simp (disch := omega) only [go_sem, and_self, and_true, true_and, false_and, and_false, Nat.reduceAdd, Nat.reduceMul, Nat.reduceSub, Nat.reduceLeDiff, Nat.reduceLT, Nat.reduceGT, Nat.reduceEqDiff, Nat.reduceBEq, Int.reduceNeg, Int.reduceEq, Int.reduceLT, Int.reduceLE, Int.reduceBEq, Int.reduceToNat, Int.toNat_natCast, Int.natCast_zero, r15_C0, h1, h50, hi0, hfd, va, n4, g2', List.length_map, w64]
          exact ih
        · rw [decide_eq_false g3] at n4 ⊢
          rw [Bool.false_and]
          simp (disch := omega) only [go_sem, and_self, and_true, true_and, false_and, and_false, Nat.reduceAdd, Nat.reduceMul, Nat.reduceSub, Nat.reduceLeDiff, Nat.reduceLT, Nat.reduceGT, Nat.reduceEqDiff, Nat.reduceBEq, Int.reduceNeg, Int.reduceEq, Int.reduceLT, Int.reduceLE, Int.reduceBEq, Int.reduceToNat, Int.toNat_natCast, Int.natCast_zero, r15_C0, h1, h50, hi0, hfd, va, n4, g2', List.length_map, w64]
      · have g2' : ((f.params.length : Int) > 20) = True := eq_true (by omega)
        rw [decide_eq_false g2, Bool.false_and, Bool.false_and]
        simp (disch := omega) only [go_sem, and_self, and_true, true_and, false_and, and_false, Nat.reduceAdd, Nat.reduceMul, Nat.reduceSub, Nat.reduceLeDiff, Nat.reduceLT, Nat.reduceGT, Nat.reduceEqDiff, Nat.reduceBEq, Int.reduceNeg, Int.reduceEq, Int.reduceLT, Int.reduceLE, Int.reduceBEq, Int.reduceToNat, Int.toNat_natCast, Int.natCast_zero, r15_C0, h1, h50, hi0, hfd, va, g2', List.length_map, w64]
    · have h1 : ((i : Int) < (fs.length : Int)) = False := eq_false (by omega)
      unfold LtLoop
      rw [r15_B0_eq, List.drop_of_length_le (by omega), List.take_nil]
      simp (disch := omega) only [go_sem, and_self, and_true, true_and, false_and, and_false, Nat.reduceAdd, Nat.reduceMul, Nat.reduceSub, Nat.reduceLeDiff, Nat.reduceLT, Nat.reduceGT, Nat.reduceEqDiff, Nat.reduceBEq, Int.reduceNeg, Int.reduceEq, Int.reduceLT, Int.reduceLE, Int.reduceBEq, Int.reduceToNat, Int.toNat_natCast, Int.natCast_zero, r15_C0, h1, hfd, List.all_nil]
def lightP (fs : List Fn) (x : Xp) : Bool := (fs.take 50).all fnL && (decide (fs.length ≤ 40) && decide (x.pre.length ≤ 590))
theorem lightP_ok (fs : List Fn) (x : Xp) (hl : fs.length ≤ maxLen) (hf : ∀ f ∈ fs, FnIn f) (hx : x.ok) (hp : List Ent) : F tab 15 [.d (progD fs x)] hp = some (.ret (.d (.bool (lightP fs x))) hp) := by
  have hfd : (fnDs fs).length = fs.length := by rw [fnDs, List.length_map]
  have n4 : ∀ hp, F tab 27 [.d x.enc, .d (iv 590)] hp = _ := light_ok x hx 590 (by omega)
  obtain ⟨o, t, p, k, c, s, ns, xs, e1, e2⟩ := prog_as fs x
  have hL := lt_loop fs hl hf (iv o) (.str t) (iv p) (iv k) (iv c) (iv s) (.sl (ns.map .str)) (.sl (Xp.encs xs)) 50 0 (by omega) (by omega)
  unfold LtLoop at hL
  rw [List.drop_zero, Nat.sub_zero] at hL
  rw [e1] at n4
  rw [e2]
  refine f15 rfl ?_
  unfold lightP
  simp (disch := omega) only [go_sem, and_self, and_true, true_and, false_and, and_false, Nat.reduceAdd, Nat.reduceMul, Nat.reduceSub, Nat.reduceLeDiff, Nat.reduceLT, Nat.reduceGT, Nat.reduceEqDiff, Nat.reduceBEq, Int.reduceNeg, Int.reduceEq, Int.reduceLT, Int.reduceLE, Int.reduceBEq, Int.reduceToNat, Int.toNat_natCast, Int.natCast_zero, r15_T]
  rw [r15_B0_n]
  erw [hL]
  rcases Bool.eq_false_or_eq_true ((fs.take 50).all fnL) with g | g
  · rw [g]
    by_cases g0 : fs.length ≤ 40
    · have g0' : ((fs.length : Int) ≤ 40) = True := eq_true (by omega)
      rw [decide_eq_true g0]
      simp (disch := omega) only [go_sem, and_self, and_true, true_and, false_and, and_false, Nat.reduceAdd, Nat.reduceMul, Nat.reduceSub, Nat.reduceLeDiff, Nat.reduceLT, Nat.reduceGT, Nat.reduceEqDiff, Nat.reduceBEq, Int.reduceNeg, Int.reduceEq, Int.reduceLT, Int.reduceLE, Int.reduceBEq, Int.reduceToNat, Int.toNat_natCast, Int.natCast_zero, n4, hfd, g0', Bool.true_and, r15]
    · have g0' : ((fs.length : Int) ≤ 40) = False := eq_false (by omega)
      rw [decide_eq_false g0]
      simp (disch := omega) only [go_sem, and_self, and_true, true_and, false_and, and_false, Nat.reduceAdd, Nat.reduceMul, Nat.reduceSub, Nat.reduceLeDiff, Nat.reduceLT, Nat.reduceGT, Nat.reduceEqDiff, Nat.reduceBEq, Int.reduceNeg, Int.reduceEq, Int.reduceLT, Int.reduceLE, Int.reduceBEq, Int.reduceToNat, Int.toNat_natCast, Int.natCast_zero, n4, hfd, g0', Bool.true_and, Bool.false_and, r15]
  · rw [g]
    simp (disch := omega) only [go_sem, and_self, and_true, true_and, false_and, and_false, Nat.reduceAdd, Nat.reduceMul, Nat.reduceSub, Nat.reduceLeDiff, Nat.reduceLT, Nat.reduceGT, Nat.reduceEqDiff, Nat.reduceBEq, Int.reduceNeg, Int.reduceEq, Int.reduceLT, Int.reduceLE, Int.reduceBEq, Int.reduceToNat, Int.toNat_natCast, Int.natCast_zero, Bool.false_and, r15]
end Go.Pe.T

namespace Go.Pe.T

def ldB (c : UInt8) : Bool := lowB c.toNat || digB c.toNat
theorem nmL_pos : ∀ (l : List UInt8) (i : Nat), nmL (i + 1) l = l.all ldB
  | [], i => rfl
  | c :: r, i => by
    rw [nmL, nmL_pos r (i + 1), List.all_cons]
    have : decide (i + 1 ≠ 0) = true := by simp
    rw [this, Bool.and_true]
    rfl

def RnLoop (s : ByteArray) (i : Nat) : Prop :=
  V (F tab) r71_B0 (r71_S0 (.d (.str s)) (.d (iv i)) []) = if ((bs s).drop i).all ldB then some (.norm, r71_E0 []) else some (.ret, r71_R (.d (.bool false)) [])
theorem rn_end (s : ByteArray) (i : Nat) (hi : s.size ≤ i) : RnLoop s i := by
  have h1 : ((i : Int) < (s.size : Int)) = False := eq_false (by omega)
  unfold RnLoop
  rw [r71_B0_eq, bs_end hi]
  simp (disch := omega) only [go_sem, and_self, and_true, true_and, false_and, and_false, Nat.reduceAdd, Nat.reduceMul, Nat.reduceSub, Nat.reduceLeDiff, Nat.reduceLT, Nat.reduceGT, Nat.reduceEqDiff, Nat.reduceBEq, Int.reduceNeg, Int.reduceEq, Int.reduceLT, Int.reduceLE, Int.reduceBEq, Int.reduceToNat, Int.toNat_natCast, Int.natCast_zero, r71_C0, h1, List.all_nil]
theorem rn_step (s : ByteArray) (hs : s.size ≤ maxLen) (i : Nat) (hi : i < s.size) (ih : RnLoop s (i + 1)) : RnLoop s i := by
  have hmx : maxLen = 9223372036854775807 := by decide
  have h1 : ((i : Int) < (s.size : Int)) = True := eq_true (by omega)
  have hi0 : (0 ≤ (i : Int)) = True := eq_true (by omega)
  obtain ⟨va, vd⟩ := bs_get hi
  unfold RnLoop at ih ⊢
  rw [Int.natCast_add, Int.natCast_one] at ih
  rw [r71_B0_eq, vd]
  simp only [List.all_cons, ldB, lowB, digB]
  by_cases g1 : ((s[i].toNat : Nat) : Int) ≥ 97 <;> by_cases g2 : ((s[i].toNat : Nat) : Int) ≤ 122 <;> by_cases g3 : ((s[i].toNat : Nat) : Int) ≥ 48 <;> by_cases g4 : ((s[i].toNat : Nat) : Int) ≤ 57 <;>
    first
    | (exfalso; omega)
    | (simp (disch := omega) only [go_sem, and_self, and_true, true_and, false_and, and_false, Nat.reduceAdd, Nat.reduceMul, Nat.reduceSub, Nat.reduceLeDiff, Nat.reduceLT, Nat.reduceGT, Nat.reduceEqDiff, Nat.reduceBEq, Int.reduceNeg, Int.reduceEq, Int.reduceLT, Int.reduceLE, Int.reduceBEq, Int.reduceToNat, Int.toNat_natCast, Int.natCast_zero, r71_C0, h1, hi0, va, w64, g1, g2, g3, g4, decide_true, decide_false, Bool.true_and, Bool.false_and, Bool.true_or, Bool.false_or, Bool.and_true, Bool.and_false, Bool.not_true, Bool.not_false] <;> exact ih)
theorem rn_loop (s : ByteArray) (hs : s.size ≤ maxLen) : ∀ (j i : Nat), i + j = s.size → RnLoop s i
  | 0, i, hi => rn_end s i (by omega)
  | j + 1, i, hi => rn_step s hs i (by omega) (rn_loop s hs j (i + 1) (by omega))
theorem rname_ok (s : ByteArray) (hs : s.size ≤ maxLen) (hp : List Ent) : F tab 71 [.d (.str s)] hp = some (.ret (.d (.bool (nameB s))) hp) := by
  have hL := rn_loop s hs s.size 0 (by omega)
  unfold RnLoop at hL
  rw [List.drop_zero] at hL
  refine f71 rfl ?_
  unfold nameB
  by_cases g0 : s.size = 0
  · have q0 : ((s.size : Int) < 1) = True := eq_true (by omega)
    have e0 : decide (s.size ≠ 0) = false := by simp [g0]
    simp (disch := omega) only [go_sem, and_self, and_true, true_and, false_and, and_false, Nat.reduceAdd, Nat.reduceMul, Nat.reduceSub, Nat.reduceLeDiff, Nat.reduceLT, Nat.reduceGT, Nat.reduceEqDiff, Nat.reduceBEq, Int.reduceNeg, Int.reduceEq, Int.reduceLT, Int.reduceLE, Int.reduceBEq, Int.reduceToNat, Int.toNat_natCast, Int.natCast_zero, r71_T, r71, q0, e0, decide_true, Bool.false_and]
  · have q0 : ((s.size : Int) < 1) = False := eq_false (by omega)
    have e0 : decide (s.size ≠ 0) = true := by simp [g0]
    by_cases g1 : s.size ≤ 16
    · have q1 : ((s.size : Int) > 16) = False := eq_false (by omega)
      have e1 : decide (s.size ≤ 16) = true := by simp [g1]
      have hlt : 0 < s.size := by omega
      obtain ⟨va, vd⟩ := bs_get hlt
      rw [List.drop_zero] at vd
      rw [e0, e1, Bool.true_and, Bool.true_and, vd, nmL, nmL_pos]
      rw [vd, List.all_cons] at hL
      have hd0 : decide ((0 : Nat) ≠ 0) = false := by simp
      simp only [hd0, Bool.and_false, Bool.or_false, lowB]
      by_cases g2 : ((s[0].toNat : Nat) : Int) < 97
      · have g2' : ¬ ((s[0].toNat : Nat) : Int) ≥ 97 := by omega
        simp (disch := omega) only [go_sem, and_self, and_true, true_and, false_and, and_false, Nat.reduceAdd, Nat.reduceMul, Nat.reduceSub, Nat.reduceLeDiff, Nat.reduceLT, Nat.reduceGT, Nat.reduceEqDiff, Nat.reduceBEq, Int.reduceNeg, Int.reduceEq, Int.reduceLT, Int.reduceLE, Int.reduceBEq, Int.reduceToNat, Int.toNat_natCast, Int.natCast_zero, r71_T, r71, q0, q1, va, g2, g2', decide_true, decide_false, Bool.false_and]
      · have g2' : ((s[0].toNat : Nat) : Int) ≥ 97 := by omega
        by_cases g3 : ((s[0].toNat : Nat) : Int) > 122
        · have g3' : ¬ ((s[0].toNat : Nat) : Int) ≤ 122 := by omega
          simp (disch := omega) only [go_sem, and_self, and_true, true_and, false_and, and_false, Nat.reduceAdd, Nat.reduceMul, Nat.reduceSub, Nat.reduceLeDiff, Nat.reduceLT, Nat.reduceGT, Nat.reduceEqDiff, Nat.reduceBEq, Int.reduceNeg, Int.reduceEq, Int.reduceLT, Int.reduceLE, Int.reduceBEq, Int.reduceToNat, Int.toNat_natCast, Int.natCast_zero, r71_T, r71, q0, q1, va, g2, g2', g3, g3', decide_true, decide_false, Bool.false_and, Bool.true_and]
        · have g3' : ((s[0].toNat : Nat) : Int) ≤ 122 := by omega
          have hld : ldB s[0] = true := by simp only [ldB, lowB, g2', g3', decide_true, Bool.true_and, Bool.true_or]
          rw [hld, Bool.true_and] at hL
          simp (disch := omega) only [go_sem, and_self, and_true, true_and, false_and, and_false, Nat.reduceAdd, Nat.reduceMul, Nat.reduceSub, Nat.reduceLeDiff, Nat.reduceLT, Nat.reduceGT, Nat.reduceEqDiff, Nat.reduceBEq, Int.reduceNeg, Int.reduceEq, Int.reduceLT, Int.reduceLE, Int.reduceBEq, Int.reduceToNat, Int.toNat_natCast, Int.natCast_zero, r71_T, r71, q0, q1, va, g2, g2', g3, g3', decide_true, decide_false, Bool.false_and, Bool.true_and]
          rw [r71_B0_n]
          erw [hL]
          rcases Bool.eq_false_or_eq_true (((bs s).drop (0 + 1)).all ldB) with g | g <;> rw [g] <;> simp only [go_sem, and_self, and_true, true_and, false_and, and_false, Nat.reduceAdd, Nat.reduceMul, Nat.reduceSub, Nat.reduceLeDiff, Nat.reduceLT, Nat.reduceGT, Nat.reduceEqDiff, Nat.reduceBEq, Int.reduceNeg, Int.reduceEq, Int.reduceLT, Int.reduceLE, Int.reduceBEq, Int.reduceToNat, Int.toNat_natCast, Int.natCast_zero]
    · have q1 : ((s.size : Int) > 16) = True := eq_true (by omega)
      have e1 : decide (s.size ≤ 16) = false := by simp [g1]
      simp (disch := omega) only [go_sem, and_self, and_true, true_and, false_and, and_false, Nat.reduceAdd, Nat.reduceMul, Nat.reduceSub, Nat.reduceLeDiff, Nat.reduceLT, Nat.reduceGT, Nat.reduceEqDiff, Nat.reduceBEq, Int.reduceNeg, Int.reduceEq, Int.reduceLT, Int.reduceLE, Int.reduceBEq, Int.reduceToNat, Int.toNat_natCast, Int.natCast_zero, r71_T, r71, q0, q1, e1, decide_true, decide_false, Bool.false_and, Bool.and_false]

def RmLoop (s : ByteArray) (i : Nat) : Prop :=
  V (F tab) r73_B0 (r73_S0 (.d (.str s)) (.d (iv i)) []) = some (.norm, r73_E0 (.d (iv (i + runL i ((bs s).drop i) : Nat))) [])
theorem rm_end (s : ByteArray) (i : Nat) (hi : s.size ≤ i) : RmLoop s i := by
  have h1 : ((i : Int) < (s.size : Int)) = False := eq_false (by omega)
  unfold RmLoop
  rw [r73_B0_eq, bs_end hi]
  simp (disch := omega) only [go_sem, and_self, and_true, true_and, false_and, and_false, Nat.reduceAdd, Nat.reduceMul, Nat.reduceSub, Nat.reduceLeDiff, Nat.reduceLT, Nat.reduceGT, Nat.reduceEqDiff, Nat.reduceBEq, Int.reduceNeg, Int.reduceEq, Int.reduceLT, Int.reduceLE, Int.reduceBEq, Int.reduceToNat, Int.toNat_natCast, Int.natCast_zero, r73_C0, h1, runL, Nat.add_zero]
theorem rm_step (s : ByteArray) (hs : s.size ≤ maxLen) (i : Nat) (hpos : 0 < i ∨ letB ((s.data.toList.getD i 0).toNat) = true) (hi : i < s.size) (ih : RmLoop s (i + 1)) : RmLoop s i := by
  have hmx : maxLen = 9223372036854775807 := by decide
  have h1 : ((i : Int) < (s.size : Int)) = True := eq_true (by omega)
  have hi0 : (0 ≤ (i : Int)) = True := eq_true (by omega)
  obtain ⟨va, vd⟩ := bs_get hi
  have hl := rletter_ok s[i].toNat
  have hd := rdigit_ok s[i].toNat
  have e1 : ((i + 1 : Nat) : Int) = (i : Int) + 1 := rfl
  have e2 : i + (runL (i + 1) ((bs s).drop (i + 1)) + 1) = i + 1 + runL (i + 1) ((bs s).drop (i + 1)) := by omega
  have eg : s.data.toList.getD i 0 = s[i] := by
    have e : s[i] = s.data.toList[i]'hi := rfl
    rw [e, List.getD_eq_getElem?_getD, List.getElem?_eq_getElem (show i < s.data.toList.length from hi), Option.getD_some]
  rw [eg] at hpos
  unfold RmLoop at ih ⊢
  rw [e1] at ih
  rw [r73_B0_eq, vd]
  simp only [runL, okI]
  rcases Bool.eq_false_or_eq_true (letB s[i].toNat) with g1 | g1
  · rw [g1] at hl
    simp (disch := omega) only [go_sem, and_self, and_true, true_and, false_and, and_false, Nat.reduceAdd, Nat.reduceMul, Nat.reduceSub, Nat.reduceLeDiff, Nat.reduceLT, Nat.reduceGT, Nat.reduceEqDiff, Nat.reduceBEq, Int.reduceNeg, Int.reduceEq, Int.reduceLT, Int.reduceLE, Int.reduceBEq, Int.reduceToNat, Int.toNat_natCast, Int.natCast_zero, r73_C0, h1, hi0, va, w64, hl, g1, Bool.true_or, e2]
    exact ih
  · have hp0 : decide (i > 0) = true := decide_eq_true (hpos.resolve_right (by rw [g1]; simp))
    rw [g1] at hl
    rcases Bool.eq_false_or_eq_true (digB s[i].toNat) with g3 | g3
    · rw [g3] at hd
      simp (disch := omega) only [go_sem, and_self, and_true, true_and, false_and, and_false, Nat.reduceAdd, Nat.reduceMul, Nat.reduceSub, Nat.reduceLeDiff, Nat.reduceLT, Nat.reduceGT, Nat.reduceEqDiff, Nat.reduceBEq, Int.reduceNeg, Int.reduceEq, Int.reduceLT, Int.reduceLE, Int.reduceBEq, Int.reduceToNat, Int.toNat_natCast, Int.natCast_zero, r73_C0, h1, hi0, va, w64, hl, hd, hp0, g1, g3, Bool.false_or, Bool.true_and, e2]
      exact ih
    · rw [g3] at hd
      simp (disch := omega) only [go_sem, and_self, and_true, true_and, false_and, and_false, Nat.reduceAdd, Nat.reduceMul, Nat.reduceSub, Nat.reduceLeDiff, Nat.reduceLT, Nat.reduceGT, Nat.reduceEqDiff, Nat.reduceBEq, Int.reduceNeg, Int.reduceEq, Int.reduceLT, Int.reduceLE, Int.reduceBEq, Int.reduceToNat, Int.toNat_natCast, Int.natCast_zero, r73_C0, h1, hi0, va, w64, hl, hd, hp0, g1, g3, Bool.false_or, Bool.and_false, Nat.add_zero]
theorem rm_loop (s : ByteArray) (hs : s.size ≤ maxLen) : ∀ (j i : Nat), i + j = s.size → (0 < i ∨ letB ((s.data.toList.getD i 0).toNat) = true) → RmLoop s i
  | 0, i, hi, _ => rm_end s i (by omega)
  | j + 1, i, hi, h => rm_step s hs i h (by omega) (rm_loop s hs j (i + 1) (by omega) (.inl (by omega)))
theorem rm_ok (s : ByteArray) (hs : s.size ≤ maxLen) (hp : List Ent) : F tab 73 [.d (.str s), .d (iv 0)] hp = some (.ret (.d (iv (runL 0 (bs s) : Nat))) hp) := by
  refine f73 rfl ?_
  by_cases g0 : s.size = 0
  · have q0 : ((0 : Int) ≥ (s.size : Int)) = True := eq_true (by omega)
    have hb : bs s = [] := List.eq_nil_of_length_eq_zero g0
    rw [hb, runL]
    simp (disch := omega) only [go_sem, and_self, and_true, true_and, false_and, and_false, Nat.reduceAdd, Nat.reduceMul, Nat.reduceSub, Nat.reduceLeDiff, Nat.reduceLT, Nat.reduceGT, Nat.reduceEqDiff, Nat.reduceBEq, Int.reduceNeg, Int.reduceEq, Int.reduceLT, Int.reduceLE, Int.reduceBEq, Int.reduceToNat, Int.toNat_natCast, Int.natCast_zero, r73_T, r73, q0, decide_true]
  · have q0 : ((0 : Int) ≥ (s.size : Int)) = False := eq_false (by omega)
    have hlt : 0 < s.size := by omega
    obtain ⟨va, vd⟩ := bs_get hlt
    have hl := rletter_ok s[0].toNat
    have eg : s.data.toList.getD 0 0 = s[0] := by
      have e : s[0] = s.data.toList[0]'hlt := rfl
      rw [e, List.getD_eq_getElem?_getD, List.getElem?_eq_getElem (show 0 < s.data.toList.length from hlt), Option.getD_some]
    rcases Bool.eq_false_or_eq_true (letB s[0].toNat) with g1 | g1
    · rw [g1] at hl
      have hL := rm_loop s hs s.size 0 (by omega) (.inr (by rw [eg]; exact g1))
      unfold RmLoop at hL
      rw [List.drop_zero, Nat.zero_add] at hL
      simp (disch := omega) only [go_sem, and_self, and_true, true_and, false_and, and_false, Nat.reduceAdd, Nat.reduceMul, Nat.reduceSub, Nat.reduceLeDiff, Nat.reduceLT, Nat.reduceGT, Nat.reduceEqDiff, Nat.reduceBEq, Int.reduceNeg, Int.reduceEq, Int.reduceLT, Int.reduceLE, Int.reduceBEq, Int.reduceToNat, Int.toNat_natCast, Int.natCast_zero, r73_T, r73, q0, va, hl, decide_false]
      rw [r73_B0_n]
      erw [hL]
      simp (disch := omega) only [go_sem, and_self, and_true, true_and, false_and, and_false, Nat.reduceAdd, Nat.reduceMul, Nat.reduceSub, Nat.reduceLeDiff, Nat.reduceLT, Nat.reduceGT, Nat.reduceEqDiff, Nat.reduceBEq, Int.reduceNeg, Int.reduceEq, Int.reduceLT, Int.reduceLE, Int.reduceBEq, Int.reduceToNat, Int.toNat_natCast, Int.natCast_zero]
    · rw [g1] at hl
      rw [List.drop_zero] at vd
      have e : runL 0 (bs s) = 0 := by rw [vd, runL, okI, g1]; simp
      rw [e]
      simp (disch := omega) only [go_sem, and_self, and_true, true_and, false_and, and_false, Nat.reduceAdd, Nat.reduceMul, Nat.reduceSub, Nat.reduceLeDiff, Nat.reduceLT, Nat.reduceGT, Nat.reduceEqDiff, Nat.reduceBEq, Int.reduceNeg, Int.reduceEq, Int.reduceLT, Int.reduceLE, Int.reduceBEq, Int.reduceToNat, Int.toNat_natCast, Int.natCast_zero, r73_T, r73, q0, va, hl, decide_false]

theorem rkeys_ok (hp : List Ent) : F tab 72 [] hp = some (.ret (.d (.sl (keysL.map .str))) hp) := by
  refine f72 rfl ?_
  simp only [go_sem, and_self, and_true, true_and, false_and, and_false, Nat.reduceAdd, Nat.reduceMul, Nat.reduceSub, Nat.reduceLeDiff, Nat.reduceLT, Nat.reduceGT, Nat.reduceEqDiff, Nat.reduceBEq, Int.reduceNeg, Int.reduceEq, Int.reduceLT, Int.reduceLE, Int.reduceBEq, Int.reduceToNat, Int.toNat_natCast, Int.natCast_zero, r72_T, r72, keysL, List.map_cons, List.map_nil]

def KyLoop (s : ByteArray) (l : List ByteArray) (i : Nat) : Prop :=
  V (F tab) r41_B0 (r41_S0 (.d (.str s)) (.d (.sl (l.map .str))) (.d (iv i)) []) = if hasB (l.drop i) s then some (.ret, r41_R (.d (.bool false)) []) else some (.norm, r41_E0 (.d (.str s)) [])
theorem ky_end (s : ByteArray) (l : List ByteArray) (i : Nat) (hi : l.length ≤ i) : KyLoop s l i := by
  have h1 : ((i : Int) < (l.length : Int)) = False := eq_false (by omega)
  unfold KyLoop
  rw [r41_B0_eq, List.drop_of_length_le hi]
  simp (disch := omega) only [go_sem, and_self, and_true, true_and, false_and, and_false, Nat.reduceAdd, Nat.reduceMul, Nat.reduceSub, Nat.reduceLeDiff, Nat.reduceLT, Nat.reduceGT, Nat.reduceEqDiff, Nat.reduceBEq, Int.reduceNeg, Int.reduceEq, Int.reduceLT, Int.reduceLE, Int.reduceBEq, Int.reduceToNat, Int.toNat_natCast, Int.natCast_zero, r41_C0, h1, List.length_map, hasB, List.any_nil]
theorem ky_step (s : ByteArray) (l : List ByteArray) (hl : l.length ≤ 1000) (i : Nat) (hi : i < l.length) (ih : KyLoop s l (i + 1)) : KyLoop s l i := by
  have h1 : ((i : Int) < (l.length : Int)) = True := eq_true (by omega)
  have hi0 : (0 ≤ (i : Int)) = True := eq_true (by omega)
  have va : (l.map D.str)[i]? = some (.str l[i]) := by simp [hi]
  unfold KyLoop at ih ⊢
  rw [Int.natCast_add, Int.natCast_one] at ih
  rw [r41_B0_eq, hasB_drop hi]
  rcases Bool.eq_false_or_eq_true (l[i].toList == s.toList) with g | g
  · simp (disch := omega) only [go_sem, and_self, and_true, true_and, false_and, and_false, Nat.reduceAdd, Nat.reduceMul, Nat.reduceSub, Nat.reduceLeDiff, Nat.reduceLT, Nat.reduceGT, Nat.reduceEqDiff, Nat.reduceBEq, Int.reduceNeg, Int.reduceEq, Int.reduceLT, Int.reduceLE, Int.reduceBEq, Int.reduceToNat, Int.toNat_natCast, Int.natCast_zero, r41_C0, h1, hi0, va, g, strD_eql, List.length_map, w64, Bool.true_or]
  · simp (disch := omega) only [go_sem, and_self, and_true, true_and, false_and, and_false, Nat.reduceAdd, Nat.reduceMul, Nat.reduceSub, Nat.reduceLeDiff, Nat.reduceLT, Nat.reduceGT, Nat.reduceEqDiff, Nat.reduceBEq, Int.reduceNeg, Int.reduceEq, Int.reduceLT, Int.reduceLE, Int.reduceBEq, Int.reduceToNat, Int.toNat_natCast, Int.natCast_zero, r41_C0, h1, hi0, va, g, strD_eql, List.length_map, w64, Bool.false_or]
    exact ih
theorem ky_loop (s : ByteArray) (l : List ByteArray) (hl : l.length ≤ 1000) : ∀ (j i : Nat), i + j = l.length → KyLoop s l i
  | 0, i, hi => ky_end s l i (by omega)
  | j + 1, i, hi => ky_step s l hl i (by omega) (ky_loop s l hl j (i + 1) (by omega))
theorem keyB_has (s : ByteArray) : keyB s = hasB keysL s := by
  have : ∀ l : List ByteArray, (l.any fun k => s.toList == k.toList) = hasB l s := by
    intro l
    induction l with
    | nil => rfl
    | cons a l ih => simp only [List.any_cons, hasB] at ih ⊢; rw [ih, BEq.comm]
  exact this keysL
theorem rident_ok (s : ByteArray) (hs : s.size ≤ maxLen) (hp : List Ent) : F tab 41 [.d (.str s)] hp = some (.ret (.d (.bool (identB s))) hp) := by
  have e := isE s
  have hw := rm_ok s hs
  have hk := keyB_has s
  have hL := ky_loop s keysL (by decide) keysL.length 0 (by omega)
  unfold KyLoop at hL
  rw [List.drop_zero, ← hk] at hL
  have e2 : decide ((s.size : Int) ≤ 16) = decide (s.size ≤ 16) := by by_cases h : s.size ≤ 16 <;> simp [h] <;> omega
  have e3 : ((runL 0 (bs s) : Int) == (s.size : Int)) = decide (runL 0 (bs s) = s.size) := by by_cases h : runL 0 (bs s) = s.size <;> simp [h] <;> omega
  refine f41 rfl ?_
  unfold identB
  simp (disch := omega) only [go_sem, and_self, and_true, true_and, false_and, and_false, Nat.reduceAdd, Nat.reduceMul, Nat.reduceSub, Nat.reduceLeDiff, Nat.reduceLT, Nat.reduceGT, Nat.reduceEqDiff, Nat.reduceBEq, Int.reduceNeg, Int.reduceEq, Int.reduceLT, Int.reduceLE, Int.reduceBEq, Int.reduceToNat, Int.toNat_natCast, Int.natCast_zero, r41_T, r41, rkeys_ok]
  rw [r41_B0_n]
  erw [hL]
  rcases Bool.eq_false_or_eq_true (keyB s) with g0 | g0
  · rw [g0]
    simp (disch := omega) only [go_sem, and_self, and_true, true_and, false_and, and_false, Nat.reduceAdd, Nat.reduceMul, Nat.reduceSub, Nat.reduceLeDiff, Nat.reduceLT, Nat.reduceGT, Nat.reduceEqDiff, Nat.reduceBEq, Int.reduceNeg, Int.reduceEq, Int.reduceLT, Int.reduceLE, Int.reduceBEq, Int.reduceToNat, Int.toNat_natCast, Int.natCast_zero, Bool.not_true, Bool.and_false]
  · rw [g0]
    rcases Bool.eq_false_or_eq_true (decide (s.size ≠ 0)) with g1 | g1
    · rcases Bool.eq_false_or_eq_true (decide (s.size ≤ 16)) with g2 | g2 <;>
        simp (disch := omega) only [go_sem, and_self, and_true, true_and, false_and, and_false, Nat.reduceAdd, Nat.reduceMul, Nat.reduceSub, Nat.reduceLeDiff, Nat.reduceLT, Nat.reduceGT, Nat.reduceEqDiff, Nat.reduceBEq, Int.reduceNeg, Int.reduceEq, Int.reduceLT, Int.reduceLE, Int.reduceBEq, Int.reduceToNat, Int.toNat_natCast, Int.natCast_zero, strD_neq, e, e2, e3, g1, g2, hw, Bool.not_true, Bool.not_false, Bool.true_and, Bool.false_and, Bool.and_true]
    · simp (disch := omega) only [go_sem, and_self, and_true, true_and, false_and, and_false, Nat.reduceAdd, Nat.reduceMul, Nat.reduceSub, Nat.reduceLeDiff, Nat.reduceLT, Nat.reduceGT, Nat.reduceEqDiff, Nat.reduceBEq, Int.reduceNeg, Int.reduceEq, Int.reduceLT, Int.reduceLE, Int.reduceBEq, Int.reduceToNat, Int.toNat_natCast, Int.natCast_zero, strD_neq, e, g1, Bool.not_true, Bool.not_false, Bool.true_and, Bool.false_and]
end Go.Pe.T

namespace Go.Pe.T

def putI (c : Int) : List Int :=
  if c < 128 then [c] else if c < 2048 then [192 + c / 64, 128 + c % 64] else if c < 65536 then [224 + c / 4096, 128 + c / 64 % 64, 128 + c % 64]
  else [240 + c / 262144, 128 + c / 4096 % 64, 128 + c / 64 % 64, 128 + c % 64]
theorem put_ok (c : Int) (h0 : 0 ≤ c) (h1 : c ≤ 2097151) (hp : List Ent) : F tab 103 [.d (iv c)] hp = some (.ret (.d (.sl ((putI c).map (D.int .u8)))) hp) := by
  refine f103 rfl ?_
  unfold putI
  have e1 : c.tdiv 64 = c / 64 := Int.tdiv_eq_ediv_of_nonneg h0
  have e2 : c.tdiv 4096 = c / 4096 := Int.tdiv_eq_ediv_of_nonneg h0
  have e3 : c.tdiv 262144 = c / 262144 := Int.tdiv_eq_ediv_of_nonneg h0
  have e4 : c.tmod 64 = c % 64 := Int.tmod_eq_emod_of_nonneg h0
  have e5 : (c / 64).tmod 64 = c / 64 % 64 := Int.tmod_eq_emod_of_nonneg (by omega)
  have e6 : (c / 4096).tmod 64 = c / 4096 % 64 := Int.tmod_eq_emod_of_nonneg (by omega)
  by_cases g1 : c < 128
  · simp (disch := omega) only [go_sem, and_self, and_true, true_and, false_and, and_false, Nat.reduceAdd, Nat.reduceMul, Nat.reduceSub, Nat.reduceLeDiff, Nat.reduceLT, Nat.reduceGT, Nat.reduceEqDiff, Nat.reduceBEq, Int.reduceNeg, Int.reduceEq, Int.reduceLT, Int.reduceLE, Int.reduceBEq, Int.reduceToNat, Int.toNat_natCast, Int.natCast_zero, r103_T, r103, g1, wu8, List.map_cons, List.map_nil]
  · by_cases g2 : c < 2048
    · simp (disch := omega) only [go_sem, and_self, and_true, true_and, false_and, and_false, Nat.reduceAdd, Nat.reduceMul, Nat.reduceSub, Nat.reduceLeDiff, Nat.reduceLT, Nat.reduceGT, Nat.reduceEqDiff, Nat.reduceBEq, Int.reduceNeg, Int.reduceEq, Int.reduceLT, Int.reduceLE, Int.reduceBEq, Int.reduceToNat, Int.toNat_natCast, Int.natCast_zero, r103_T, r103, g1, g2, w64, wu8, e1, e4, List.map_cons, List.map_nil]
    · by_cases g3 : c < 65536
      · simp (disch := omega) only [go_sem, and_self, and_true, true_and, false_and, and_false, Nat.reduceAdd, Nat.reduceMul, Nat.reduceSub, Nat.reduceLeDiff, Nat.reduceLT, Nat.reduceGT, Nat.reduceEqDiff, Nat.reduceBEq, Int.reduceNeg, Int.reduceEq, Int.reduceLT, Int.reduceLE, Int.reduceBEq, Int.reduceToNat, Int.toNat_natCast, Int.natCast_zero, r103_T, r103, g1, g2, g3, w64, wu8, e1, e2, e4, e5, List.map_cons, List.map_nil]
      · simp (disch := omega) only [go_sem, and_self, and_true, true_and, false_and, and_false, Nat.reduceAdd, Nat.reduceMul, Nat.reduceSub, Nat.reduceLeDiff, Nat.reduceLT, Nat.reduceGT, Nat.reduceEqDiff, Nat.reduceBEq, Int.reduceNeg, Int.reduceEq, Int.reduceLT, Int.reduceLE, Int.reduceBEq, Int.reduceToNat, Int.toNat_natCast, Int.natCast_zero, r103_T, r103, g1, g2, g3, w64, wu8, e1, e2, e3, e4, e5, e6, List.map_cons, List.map_nil]
end Go.Pe.T

namespace Go.Pe.T

def cdec : Int → List UInt8 → Nat → Int
  | c, _, 0 => c
  | c, [], _ + 1 => c
  | c, d :: r, k + 1 => cdec (64 * c + (d.toNat : Int) - 128) r k

def CiLoop (s : ByteArray) (l : List Int) (i n k : Nat) (c : Int) : Prop :=
  V (F tab) r82_B1 (r82_S1 (.d (.str s)) (.own 3 (l.map iv)) (.d (iv i)) (.d (iv n)) (.d (iv c)) (.d (iv k)) []) =
    if conts ((bs s).drop (i + k)) (n - k) then some (.norm, r82_E1 (.d (.str s)) (.own 3 (l.map iv)) (.d (iv i)) (.d (iv n)) (.d (iv (cdec c ((bs s).drop (i + k)) (n - k)))) [])
    else some (.ret, r82_R (.d (.sl [])) (.d (.bool false)) [])
theorem ci_end (s : ByteArray) (l : List Int) (i n k : Nat) (c : Int) (hk : n ≤ k) : CiLoop s l i n k c := by
  have h1 : ((k : Int) < (n : Int)) = False := eq_false (by omega)
  unfold CiLoop
  rw [r82_B1_eq, show n - k = 0 by omega]
  simp (disch := omega) only [go_sem, and_self, and_true, true_and, false_and, and_false, Nat.reduceAdd, Nat.reduceMul, Nat.reduceSub, Nat.reduceLeDiff, Nat.reduceLT, Nat.reduceGT, Nat.reduceEqDiff, Nat.reduceBEq, Int.reduceNeg, Int.reduceEq, Int.reduceLT, Int.reduceLE, Int.reduceBEq, Int.reduceToNat, Int.toNat_natCast, Int.natCast_zero, r82_C1, h1, conts, cdec]
theorem ci_step (s : ByteArray) (hs : s.size ≤ 1000000000) (l : List Int) (i n k : Nat) (c : Int) (hn : i + n ≤ s.size) (hk : k < n) (h4 : n ≤ 4) (hc : 0 ≤ c ∧ c ≤ 100000000) (ih : ∀ c' : Int, 0 ≤ c' → c' ≤ 64 * c + 63 → c' = 64 * c + (((bs s).drop (i + k)).headD 0).toNat - 128 → CiLoop s l i n (k + 1) c') : CiLoop s l i n k c := by
  have h1 : ((k : Int) < (n : Int)) = True := eq_true (by omega)
  have hi0 : (0 ≤ (i : Int) + (k : Int)) = True := eq_true (by omega)
  have ei : ((i : Int) + (k : Int)).toNat = i + k := by omega
  have hlt : i + k < s.size := by omega
  obtain ⟨va, vd⟩ := bs_get hlt
  have hb : s[i + k].toNat < 256 := UInt8.toNat_lt _
  have en : n - k = (n - (k + 1)) + 1 := by omega
  rw [vd] at ih
  simp only [List.headD_cons] at ih
  unfold CiLoop at ih ⊢
  rw [r82_B1_eq, vd, en]
  simp only [conts, cdec, contB]
  by_cases g1 : ((s[i + k].toNat : Nat) : Int) < 128
  · simp (disch := omega) only [go_sem, and_self, and_true, true_and, false_and, and_false, Nat.reduceAdd, Nat.reduceMul, Nat.reduceSub, Nat.reduceLeDiff, Nat.reduceLT, Nat.reduceGT, Nat.reduceEqDiff, Nat.reduceBEq, Int.reduceNeg, Int.reduceEq, Int.reduceLT, Int.reduceLE, Int.reduceBEq, Int.reduceToNat, Int.toNat_natCast, Int.natCast_zero, r82_C1, h1, hi0, ei, va, w64, g1, decide_true, Bool.not_true, Bool.false_and]
  · by_cases g2 : ((s[i + k].toNat : Nat) : Int) > 191
    · simp (disch := omega) only [go_sem, and_self, and_true, true_and, false_and, and_false, Nat.reduceAdd, Nat.reduceMul, Nat.reduceSub, Nat.reduceLeDiff, Nat.reduceLT, Nat.reduceGT, Nat.reduceEqDiff, Nat.reduceBEq, Int.reduceNeg, Int.reduceEq, Int.reduceLT, Int.reduceLE, Int.reduceBEq, Int.reduceToNat, Int.toNat_natCast, Int.natCast_zero, r82_C1, h1, hi0, ei, va, w64, g1, g2, decide_true, decide_false, Bool.not_true, Bool.not_false, Bool.false_and, Bool.true_and]
    · have ih := ih _ (by omega) (by omega) rfl
      rw [Int.natCast_add, Int.natCast_one, ← Nat.add_assoc] at ih
      simp (disch := omega) only [go_sem, and_self, and_true, true_and, false_and, and_false, Nat.reduceAdd, Nat.reduceMul, Nat.reduceSub, Nat.reduceLeDiff, Nat.reduceLT, Nat.reduceGT, Nat.reduceEqDiff, Nat.reduceBEq, Int.reduceNeg, Int.reduceEq, Int.reduceLT, Int.reduceLE, Int.reduceBEq, Int.reduceToNat, Int.toNat_natCast, Int.natCast_zero, r82_C1, h1, hi0, ei, va, w64, g1, g2, decide_true, decide_false, Bool.not_true, Bool.not_false, Bool.false_and, Bool.true_and]
      exact ih
theorem ci_loop (s : ByteArray) (hs : s.size ≤ 1000000000) (l : List Int) (i n : Nat) (hn : i + n ≤ s.size) (h4 : n ≤ 4) : ∀ (j k : Nat) (c : Int), k + j = n → 0 ≤ c → (c + 1) * 64 ^ j ≤ 100000000 → CiLoop s l i n k c
  | 0, k, c, hk, h0, hc => ci_end s l i n k c (by omega)
  | j + 1, k, c, hk, h0, hc => by
    have hp : (1 : Int) ≤ 64 ^ j := by exact_mod_cast Nat.one_le_pow j 64 (by omega)
    have e : (64 : Int) ^ (j + 1) = 64 * 64 ^ j := by rw [Int.pow_succ]; exact Int.mul_comm _ _
    rw [e] at hc
    have hc2 : (c + 1) * 64 * 64 ^ j ≤ 100000000 := by rw [Int.mul_assoc]; exact hc
    have hle : (c + 1) * 64 * 1 ≤ (c + 1) * 64 * 64 ^ j := Int.mul_le_mul_of_nonneg_left hp (by omega)
    refine ci_step s hs l i n k c hn (by omega) h4 ⟨h0, by omega⟩ fun c' h1 h2 _ => ci_loop s hs l i n hn h4 j (k + 1) c' (by omega) h1 ?_
    have : (c' + 1) * 64 ^ j ≤ (c + 1) * 64 * 64 ^ j := Int.mul_le_mul_of_nonneg_right (by omega) (by omega)
    omega

def ub (x : Int) : UInt8 := UInt8.ofNat x.toNat
theorem put_bytes : ∀ (p : List Int), optAll ((p.map (D.int .u8)).map asByte) = some (p.map ub)
  | [] => rfl
  | x :: p => by simp only [List.map_cons, asByte, optAll, put_bytes p]; rfl
def okC (s : ByteArray) (i n : Nat) (c : Int) : Bool := !(decide (c > 1114111) || (decide (c ≥ 55296) && decide (c < 57344))) && ((putI c).map ub == ((bs s).drop i).take n)
theorem bs_cut (s : ByteArray) (i j : Nat) : bs (s.extract i j) = ((bs s).drop i).take (j - i) := by
  simp [bs, ByteArray.data_extract, List.drop_take]
theorem cmp_put (s : ByteArray) (i n : Nat) (p : List UInt8) : ((⟨p.toArray⟩ : ByteArray).toList == (s.extract i (i + n)).toList) = (p == ((bs s).drop i).take n) := by
  have e : bs (⟨p.toArray⟩ : ByteArray) = p := by simp [bs]
  rw [bs_toList, bs_toList, bs_cut, e, show i + n - i = n by omega]
theorem cdec_le : ∀ (r : List UInt8) (j : Nat) (c : Int), 0 ≤ c → conts r j = true → 0 ≤ cdec c r j ∧ cdec c r j + 1 ≤ (c + 1) * 64 ^ j
  | r, 0, c, h0, h => by simp [cdec]; omega
  | [], j + 1, c, h0, h => by simp [conts] at h
  | d :: r, j + 1, c, h0, h => by
    simp only [conts, contB, Bool.and_eq_true, Bool.not_eq_true', decide_eq_false_iff_not] at h
    obtain ⟨i1, i2⟩ := cdec_le r j (64 * c + (d.toNat : Int) - 128) (by omega) h.2
    have e : (64 : Int) ^ (j + 1) = 64 * 64 ^ j := by rw [Int.pow_succ]; exact Int.mul_comm _ _
    have hp : (1 : Int) ≤ 64 ^ j := by exact_mod_cast Nat.one_le_pow j 64 (by omega)
    have h3 : (64 * c + (d.toNat : Int) - 128 + 1) * 64 ^ j ≤ ((c + 1) * 64) * 64 ^ j := Int.mul_le_mul_of_nonneg_right (by omega) (by omega)
    simp only [cdec]
    rw [e, ← Int.mul_assoc]
    omega

theorem sg_1 (s : ByteArray) (hs : s.size ≤ 2097152) (l : List Int) (hl : l.length ≤ 2097152) (i : Nat) (hi : i < s.size) (h1 : ((s[i].toNat : Nat) : Int) ≥ 0) (h2 : ((s[i].toNat : Nat) : Int) ≤ 127) :
    V (F tab) r82_B0 (r82_S0 (.d (.str s)) (.own 3 (l.map iv)) (.d (iv i)) []) =
      if decide (i + 1 ≤ s.size) && (conts ((bs s).drop (i + 1)) 0 && okC s i 1 (cdec ((s[i].toNat : Nat) : Int) ((bs s).drop (i + 1)) 0)) then
        V (F tab) r82_B0 (r82_S0 (.d (.str s)) (.own 3 ((l ++ [(cdec ((s[i].toNat : Nat) : Int) ((bs s).drop (i + 1)) 0)]).map iv)) (.d (iv (i + 1 : Nat))) [])
      else some (.ret, r82_R (.d (.sl [])) (.d (.bool false)) []) := by
  have q1 : ((i : Int) < (s.size : Int)) = True := eq_true (by omega)
  have hi0 : (0 ≤ (i : Int)) = True := eq_true (by omega)
  obtain ⟨va, vd⟩ := bs_get hi
  have xa : (((s[i].toNat : Nat) : Int) ≥ 240) = False := eq_false (by omega)
  have xd : (((s[i].toNat : Nat) : Int) ≥ 224) = False := eq_false (by omega)
  have xe : (((s[i].toNat : Nat) : Int) ≥ 192) = False := eq_false (by omega)
  have xg : (((s[i].toNat : Nat) : Int) ≥ 248) = False := eq_false (by omega)
  have xh : (((s[i].toNat : Nat) : Int) ≥ 128) = False := eq_false (by omega)
  rw [r82_B0_eq]
  by_cases g : i + 1 ≤ s.size
  · have q2 : ((i : Int) + 1 > (s.size : Int)) = False := eq_false (by omega)
    have hL := ci_loop s (by omega) l i 1 g (by omega) 0 1 ((s[i].toNat : Nat) : Int) (by omega) (by omega) (by simp only [Int.reducePow]; omega)
    unfold CiLoop at hL
    rw [show 1 - 1 = 0 from rfl] at hL
    rw [decide_eq_true g, Bool.true_and]
    simp (disch := omega) only [go_sem, and_self, and_true, true_and, false_and, and_false, Nat.reduceAdd, Nat.reduceMul, Nat.reduceSub, Nat.reduceLeDiff, Nat.reduceLT, Nat.reduceGT, Nat.reduceEqDiff, Nat.reduceBEq, Int.reduceNeg, Int.reduceEq, Int.reduceLT, Int.reduceLE, Int.reduceBEq, Int.reduceToNat, Int.toNat_natCast, Int.natCast_zero, r82_C0, q1, hi0, va, xa, xd, xe, xg, xh, w64, q2]
    rw [r82_B1_n]
    erw [hL]
    rcases Bool.eq_false_or_eq_true (conts ((bs s).drop (i + 1)) 0) with g2 | g2
    · obtain ⟨d1, d2⟩ := cdec_le _ _ ((s[i].toNat : Nat) : Int) (by omega) g2
      have d3 : (cdec ((s[i].toNat : Nat) : Int) ((bs s).drop (i + 1)) 0) ≤ 2097151 := by simp only [Int.reducePow] at d2; omega
      have hput := put_ok (cdec ((s[i].toNat : Nat) : Int) ((bs s).drop (i + 1)) 0) d1 d3
      rw [g2]
      simp only [if_true, Bool.true_and, okC]
      generalize (cdec ((s[i].toNat : Nat) : Int) ((bs s).drop (i + 1)) 0) = c at *
      have r1 : ((l.length + 1) * 8 ≤ maxRow) = True := eq_true (by simp only [maxRow]; omega)
      have hcmp := cmp_put s i 1 ((putI c).map ub)
      have et : ((i : Int) + ((1 : Nat) : Int)).toNat = i + 1 := by omega
      have q3 : ((i : Int) ≤ (i : Int) + ((1 : Nat) : Int)) = True := eq_true (by omega)
      have q4 : ((i : Int) + ((1 : Nat) : Int) ≤ (s.size : Int)) = True := eq_true (by omega)
      have ea : l.map iv ++ [iv c] = (l ++ [c]).map iv := by simp
      have all8 : ([iv c].all fun y => y.width == 1) = true := rfl
      rw [Int.natCast_add]
      by_cases k1 : c > 1114111
      · simp (disch := omega) only [go_sem, and_self, and_true, true_and, false_and, and_false, Nat.reduceAdd, Nat.reduceMul, Nat.reduceSub, Nat.reduceLeDiff, Nat.reduceLT, Nat.reduceGT, Nat.reduceEqDiff, Nat.reduceBEq, Int.reduceNeg, Int.reduceEq, Int.reduceLT, Int.reduceLE, Int.reduceBEq, Int.reduceToNat, Int.toNat_natCast, Int.natCast_zero, k1, decide_true, Bool.true_or, Bool.not_true, Bool.false_and]
      · by_cases k2 : c ≥ 55296
        · exfalso
          simp only [Int.reducePow] at d2
          omega
        · rcases Bool.eq_false_or_eq_true ((putI c).map ub == ((bs s).drop i).take 1) with k4 | k4 <;> rw [k4] at hcmp <;>
            simp (disch := omega) only [go_sem, and_self, and_true, true_and, false_and, and_false, Nat.reduceAdd, Nat.reduceMul, Nat.reduceSub, Nat.reduceLeDiff, Nat.reduceLT, Nat.reduceGT, Nat.reduceEqDiff, Nat.reduceBEq, Int.reduceNeg, Int.reduceEq, Int.reduceLT, Int.reduceLE, Int.reduceBEq, Int.reduceToNat, Int.toNat_natCast, Int.natCast_zero, k1, k2, k4, hput, put_bytes, hcmp, strD_neq, et, q3, q4, hi0, w64, r1, all8, ea, List.length_map, decide_true, decide_false, Bool.or_self, Bool.false_and, Bool.and_true, Bool.and_false, Bool.not_false, Bool.not_true, Int.toNat_natCast] <;> rfl
    · rw [g2]
      simp (disch := omega) only [go_sem, and_self, and_true, true_and, false_and, and_false, Nat.reduceAdd, Nat.reduceMul, Nat.reduceSub, Nat.reduceLeDiff, Nat.reduceLT, Nat.reduceGT, Nat.reduceEqDiff, Nat.reduceBEq, Int.reduceNeg, Int.reduceEq, Int.reduceLT, Int.reduceLE, Int.reduceBEq, Int.reduceToNat, Int.toNat_natCast, Int.natCast_zero, Bool.false_and]
  · have q2 : ((i : Int) + 1 > (s.size : Int)) = True := eq_true (by omega)
    rw [decide_eq_false g, Bool.false_and]
    simp (disch := omega) only [go_sem, and_self, and_true, true_and, false_and, and_false, Nat.reduceAdd, Nat.reduceMul, Nat.reduceSub, Nat.reduceLeDiff, Nat.reduceLT, Nat.reduceGT, Nat.reduceEqDiff, Nat.reduceBEq, Int.reduceNeg, Int.reduceEq, Int.reduceLT, Int.reduceLE, Int.reduceBEq, Int.reduceToNat, Int.toNat_natCast, Int.natCast_zero, r82_C0, q1, hi0, va, xa, xd, xe, xg, xh, w64, q2]

theorem sg_2 (s : ByteArray) (hs : s.size ≤ 2097152) (l : List Int) (hl : l.length ≤ 2097152) (i : Nat) (hi : i < s.size) (h1 : ((s[i].toNat : Nat) : Int) ≥ 192) (h2 : ((s[i].toNat : Nat) : Int) ≤ 223) :
    V (F tab) r82_B0 (r82_S0 (.d (.str s)) (.own 3 (l.map iv)) (.d (iv i)) []) =
      if decide (i + 2 ≤ s.size) && (conts ((bs s).drop (i + 1)) 1 && okC s i 2 (cdec (((s[i].toNat : Nat) : Int) - 192) ((bs s).drop (i + 1)) 1)) then
        V (F tab) r82_B0 (r82_S0 (.d (.str s)) (.own 3 ((l ++ [(cdec (((s[i].toNat : Nat) : Int) - 192) ((bs s).drop (i + 1)) 1)]).map iv)) (.d (iv (i + 2 : Nat))) [])
      else some (.ret, r82_R (.d (.sl [])) (.d (.bool false)) []) := by
  have q1 : ((i : Int) < (s.size : Int)) = True := eq_true (by omega)
  have hi0 : (0 ≤ (i : Int)) = True := eq_true (by omega)
  obtain ⟨va, vd⟩ := bs_get hi
  have xa : (((s[i].toNat : Nat) : Int) ≥ 240) = False := eq_false (by omega)
  have xd : (((s[i].toNat : Nat) : Int) ≥ 224) = False := eq_false (by omega)
  have xe : (((s[i].toNat : Nat) : Int) ≥ 192) = True := eq_true (by omega)
  have xg : (((s[i].toNat : Nat) : Int) ≥ 248) = False := eq_false (by omega)
  have xh : (((s[i].toNat : Nat) : Int) ≥ 128) = True := eq_true (by omega)
  have xm : (((s[i].toNat : Nat) : Int) < 192) = False := eq_false (by omega)
  rw [r82_B0_eq]
  by_cases g : i + 2 ≤ s.size
  · have q2 : ((i : Int) + 2 > (s.size : Int)) = False := eq_false (by omega)
    have hL := ci_loop s (by omega) l i 2 g (by omega) 1 1 (((s[i].toNat : Nat) : Int) - 192) (by omega) (by omega) (by simp only [Int.reducePow]; omega)
    unfold CiLoop at hL
    rw [show 2 - 1 = 1 from rfl] at hL
    rw [decide_eq_true g, Bool.true_and]
    simp (disch := omega) only [go_sem, and_self, and_true, true_and, false_and, and_false, Nat.reduceAdd, Nat.reduceMul, Nat.reduceSub, Nat.reduceLeDiff, Nat.reduceLT, Nat.reduceGT, Nat.reduceEqDiff, Nat.reduceBEq, Int.reduceNeg, Int.reduceEq, Int.reduceLT, Int.reduceLE, Int.reduceBEq, Int.reduceToNat, Int.toNat_natCast, Int.natCast_zero, r82_C0, q1, hi0, va, xa, xd, xe, xg, xh, xm, w64, q2]
    rw [r82_B1_n]
    erw [hL]
    rcases Bool.eq_false_or_eq_true (conts ((bs s).drop (i + 1)) 1) with g2 | g2
    · obtain ⟨d1, d2⟩ := cdec_le _ _ (((s[i].toNat : Nat) : Int) - 192) (by omega) g2
      have d3 : (cdec (((s[i].toNat : Nat) : Int) - 192) ((bs s).drop (i + 1)) 1) ≤ 2097151 := by simp only [Int.reducePow] at d2; omega
      have hput := put_ok (cdec (((s[i].toNat : Nat) : Int) - 192) ((bs s).drop (i + 1)) 1) d1 d3
      rw [g2]
      simp only [if_true, Bool.true_and, okC]
      generalize (cdec (((s[i].toNat : Nat) : Int) - 192) ((bs s).drop (i + 1)) 1) = c at *
      have r1 : ((l.length + 1) * 8 ≤ maxRow) = True := eq_true (by simp only [maxRow]; omega)
      have hcmp := cmp_put s i 2 ((putI c).map ub)
      have et : ((i : Int) + ((2 : Nat) : Int)).toNat = i + 2 := by omega
      have q3 : ((i : Int) ≤ (i : Int) + ((2 : Nat) : Int)) = True := eq_true (by omega)
      have q4 : ((i : Int) + ((2 : Nat) : Int) ≤ (s.size : Int)) = True := eq_true (by omega)
      have ea : l.map iv ++ [iv c] = (l ++ [c]).map iv := by simp
      have all8 : ([iv c].all fun y => y.width == 1) = true := rfl
      rw [Int.natCast_add]
      by_cases k1 : c > 1114111
      · simp (disch := omega) only [go_sem, and_self, and_true, true_and, false_and, and_false, Nat.reduceAdd, Nat.reduceMul, Nat.reduceSub, Nat.reduceLeDiff, Nat.reduceLT, Nat.reduceGT, Nat.reduceEqDiff, Nat.reduceBEq, Int.reduceNeg, Int.reduceEq, Int.reduceLT, Int.reduceLE, Int.reduceBEq, Int.reduceToNat, Int.toNat_natCast, Int.natCast_zero, k1, decide_true, Bool.true_or, Bool.not_true, Bool.false_and]
      · by_cases k2 : c ≥ 55296
        · exfalso
          simp only [Int.reducePow] at d2
          omega
        · rcases Bool.eq_false_or_eq_true ((putI c).map ub == ((bs s).drop i).take 2) with k4 | k4 <;> rw [k4] at hcmp <;>
            simp (disch := omega) only [go_sem, and_self, and_true, true_and, false_and, and_false, Nat.reduceAdd, Nat.reduceMul, Nat.reduceSub, Nat.reduceLeDiff, Nat.reduceLT, Nat.reduceGT, Nat.reduceEqDiff, Nat.reduceBEq, Int.reduceNeg, Int.reduceEq, Int.reduceLT, Int.reduceLE, Int.reduceBEq, Int.reduceToNat, Int.toNat_natCast, Int.natCast_zero, k1, k2, k4, hput, put_bytes, hcmp, strD_neq, et, q3, q4, hi0, w64, r1, all8, ea, List.length_map, decide_true, decide_false, Bool.or_self, Bool.false_and, Bool.and_true, Bool.and_false, Bool.not_false, Bool.not_true, Int.toNat_natCast] <;> rfl
    · rw [g2]
      simp (disch := omega) only [go_sem, and_self, and_true, true_and, false_and, and_false, Nat.reduceAdd, Nat.reduceMul, Nat.reduceSub, Nat.reduceLeDiff, Nat.reduceLT, Nat.reduceGT, Nat.reduceEqDiff, Nat.reduceBEq, Int.reduceNeg, Int.reduceEq, Int.reduceLT, Int.reduceLE, Int.reduceBEq, Int.reduceToNat, Int.toNat_natCast, Int.natCast_zero, Bool.false_and]
  · have q2 : ((i : Int) + 2 > (s.size : Int)) = True := eq_true (by omega)
    rw [decide_eq_false g, Bool.false_and]
    simp (disch := omega) only [go_sem, and_self, and_true, true_and, false_and, and_false, Nat.reduceAdd, Nat.reduceMul, Nat.reduceSub, Nat.reduceLeDiff, Nat.reduceLT, Nat.reduceGT, Nat.reduceEqDiff, Nat.reduceBEq, Int.reduceNeg, Int.reduceEq, Int.reduceLT, Int.reduceLE, Int.reduceBEq, Int.reduceToNat, Int.toNat_natCast, Int.natCast_zero, r82_C0, q1, hi0, va, xa, xd, xe, xg, xh, xm, w64, q2]

theorem sg_3 (s : ByteArray) (hs : s.size ≤ 2097152) (l : List Int) (hl : l.length ≤ 2097152) (i : Nat) (hi : i < s.size) (h1 : ((s[i].toNat : Nat) : Int) ≥ 224) (h2 : ((s[i].toNat : Nat) : Int) ≤ 239) :
    V (F tab) r82_B0 (r82_S0 (.d (.str s)) (.own 3 (l.map iv)) (.d (iv i)) []) =
      if decide (i + 3 ≤ s.size) && (conts ((bs s).drop (i + 1)) 2 && okC s i 3 (cdec (((s[i].toNat : Nat) : Int) - 224) ((bs s).drop (i + 1)) 2)) then
        V (F tab) r82_B0 (r82_S0 (.d (.str s)) (.own 3 ((l ++ [(cdec (((s[i].toNat : Nat) : Int) - 224) ((bs s).drop (i + 1)) 2)]).map iv)) (.d (iv (i + 3 : Nat))) [])
      else some (.ret, r82_R (.d (.sl [])) (.d (.bool false)) []) := by
  have q1 : ((i : Int) < (s.size : Int)) = True := eq_true (by omega)
  have hi0 : (0 ≤ (i : Int)) = True := eq_true (by omega)
  obtain ⟨va, vd⟩ := bs_get hi
  have xa : (((s[i].toNat : Nat) : Int) ≥ 240) = False := eq_false (by omega)
  have xd : (((s[i].toNat : Nat) : Int) ≥ 224) = True := eq_true (by omega)
  have xg : (((s[i].toNat : Nat) : Int) ≥ 248) = False := eq_false (by omega)
  have xh : (((s[i].toNat : Nat) : Int) ≥ 128) = True := eq_true (by omega)
  have xm : (((s[i].toNat : Nat) : Int) < 192) = False := eq_false (by omega)
  rw [r82_B0_eq]
  by_cases g : i + 3 ≤ s.size
  · have q2 : ((i : Int) + 3 > (s.size : Int)) = False := eq_false (by omega)
    have hL := ci_loop s (by omega) l i 3 g (by omega) 2 1 (((s[i].toNat : Nat) : Int) - 224) (by omega) (by omega) (by simp only [Int.reducePow]; omega)
    unfold CiLoop at hL
    rw [show 3 - 1 = 2 from rfl] at hL
    rw [decide_eq_true g, Bool.true_and]
    simp (disch := omega) only [go_sem, and_self, and_true, true_and, false_and, and_false, Nat.reduceAdd, Nat.reduceMul, Nat.reduceSub, Nat.reduceLeDiff, Nat.reduceLT, Nat.reduceGT, Nat.reduceEqDiff, Nat.reduceBEq, Int.reduceNeg, Int.reduceEq, Int.reduceLT, Int.reduceLE, Int.reduceBEq, Int.reduceToNat, Int.toNat_natCast, Int.natCast_zero, r82_C0, q1, hi0, va, xa, xd, xg, xh, xm, w64, q2]
    rw [r82_B1_n]
    erw [hL]
    rcases Bool.eq_false_or_eq_true (conts ((bs s).drop (i + 1)) 2) with g2 | g2
    · obtain ⟨d1, d2⟩ := cdec_le _ _ (((s[i].toNat : Nat) : Int) - 224) (by omega) g2
      have d3 : (cdec (((s[i].toNat : Nat) : Int) - 224) ((bs s).drop (i + 1)) 2) ≤ 2097151 := by simp only [Int.reducePow] at d2; omega
      have hput := put_ok (cdec (((s[i].toNat : Nat) : Int) - 224) ((bs s).drop (i + 1)) 2) d1 d3
      rw [g2]
      simp only [if_true, Bool.true_and, okC]
      generalize (cdec (((s[i].toNat : Nat) : Int) - 224) ((bs s).drop (i + 1)) 2) = c at *
      have r1 : ((l.length + 1) * 8 ≤ maxRow) = True := eq_true (by simp only [maxRow]; omega)
      have hcmp := cmp_put s i 3 ((putI c).map ub)
      have et : ((i : Int) + ((3 : Nat) : Int)).toNat = i + 3 := by omega
      have q3 : ((i : Int) ≤ (i : Int) + ((3 : Nat) : Int)) = True := eq_true (by omega)
      have q4 : ((i : Int) + ((3 : Nat) : Int) ≤ (s.size : Int)) = True := eq_true (by omega)
      have ea : l.map iv ++ [iv c] = (l ++ [c]).map iv := by simp
      have all8 : ([iv c].all fun y => y.width == 1) = true := rfl
      rw [Int.natCast_add]
      by_cases k1 : c > 1114111
      · simp (disch := omega) only [go_sem, and_self, and_true, true_and, false_and, and_false, Nat.reduceAdd, Nat.reduceMul, Nat.reduceSub, Nat.reduceLeDiff, Nat.reduceLT, Nat.reduceGT, Nat.reduceEqDiff, Nat.reduceBEq, Int.reduceNeg, Int.reduceEq, Int.reduceLT, Int.reduceLE, Int.reduceBEq, Int.reduceToNat, Int.toNat_natCast, Int.natCast_zero, k1, decide_true, Bool.true_or, Bool.not_true, Bool.false_and]
      · by_cases k2 : c ≥ 55296
        · by_cases k3 : c < 57344
          · simp (disch := omega) only [go_sem, and_self, and_true, true_and, false_and, and_false, Nat.reduceAdd, Nat.reduceMul, Nat.reduceSub, Nat.reduceLeDiff, Nat.reduceLT, Nat.reduceGT, Nat.reduceEqDiff, Nat.reduceBEq, Int.reduceNeg, Int.reduceEq, Int.reduceLT, Int.reduceLE, Int.reduceBEq, Int.reduceToNat, Int.toNat_natCast, Int.natCast_zero, k1, k2, k3, decide_true, decide_false, Bool.true_or, Bool.false_or, Bool.true_and, Bool.not_true, Bool.false_and]
          · rcases Bool.eq_false_or_eq_true ((putI c).map ub == ((bs s).drop i).take 3) with k4 | k4 <;> rw [k4] at hcmp <;>
              simp (disch := omega) only [go_sem, and_self, and_true, true_and, false_and, and_false, Nat.reduceAdd, Nat.reduceMul, Nat.reduceSub, Nat.reduceLeDiff, Nat.reduceLT, Nat.reduceGT, Nat.reduceEqDiff, Nat.reduceBEq, Int.reduceNeg, Int.reduceEq, Int.reduceLT, Int.reduceLE, Int.reduceBEq, Int.reduceToNat, Int.toNat_natCast, Int.natCast_zero, k1, k2, k3, k4, hput, put_bytes, hcmp, strD_neq, et, q3, q4, hi0, w64, r1, all8, ea, List.length_map, decide_true, decide_false, Bool.or_self, Bool.and_self, Bool.and_true, Bool.and_false, Bool.not_false, Bool.not_true, Int.toNat_natCast] <;> rfl
        · rcases Bool.eq_false_or_eq_true ((putI c).map ub == ((bs s).drop i).take 3) with k4 | k4 <;> rw [k4] at hcmp <;>
            simp (disch := omega) only [go_sem, and_self, and_true, true_and, false_and, and_false, Nat.reduceAdd, Nat.reduceMul, Nat.reduceSub, Nat.reduceLeDiff, Nat.reduceLT, Nat.reduceGT, Nat.reduceEqDiff, Nat.reduceBEq, Int.reduceNeg, Int.reduceEq, Int.reduceLT, Int.reduceLE, Int.reduceBEq, Int.reduceToNat, Int.toNat_natCast, Int.natCast_zero, k1, k2, k4, hput, put_bytes, hcmp, strD_neq, et, q3, q4, hi0, w64, r1, all8, ea, List.length_map, decide_true, decide_false, Bool.or_self, Bool.false_and, Bool.and_true, Bool.and_false, Bool.not_false, Bool.not_true, Int.toNat_natCast] <;> rfl
    · rw [g2]
      simp (disch := omega) only [go_sem, and_self, and_true, true_and, false_and, and_false, Nat.reduceAdd, Nat.reduceMul, Nat.reduceSub, Nat.reduceLeDiff, Nat.reduceLT, Nat.reduceGT, Nat.reduceEqDiff, Nat.reduceBEq, Int.reduceNeg, Int.reduceEq, Int.reduceLT, Int.reduceLE, Int.reduceBEq, Int.reduceToNat, Int.toNat_natCast, Int.natCast_zero, Bool.false_and]
  · have q2 : ((i : Int) + 3 > (s.size : Int)) = True := eq_true (by omega)
    rw [decide_eq_false g, Bool.false_and]
    simp (disch := omega) only [go_sem, and_self, and_true, true_and, false_and, and_false, Nat.reduceAdd, Nat.reduceMul, Nat.reduceSub, Nat.reduceLeDiff, Nat.reduceLT, Nat.reduceGT, Nat.reduceEqDiff, Nat.reduceBEq, Int.reduceNeg, Int.reduceEq, Int.reduceLT, Int.reduceLE, Int.reduceBEq, Int.reduceToNat, Int.toNat_natCast, Int.natCast_zero, r82_C0, q1, hi0, va, xa, xd, xg, xh, xm, w64, q2]

theorem sg_4 (s : ByteArray) (hs : s.size ≤ 2097152) (l : List Int) (hl : l.length ≤ 2097152) (i : Nat) (hi : i < s.size) (h1 : ((s[i].toNat : Nat) : Int) ≥ 240) (h2 : ((s[i].toNat : Nat) : Int) ≤ 247) :
    V (F tab) r82_B0 (r82_S0 (.d (.str s)) (.own 3 (l.map iv)) (.d (iv i)) []) =
      if decide (i + 4 ≤ s.size) && (conts ((bs s).drop (i + 1)) 3 && okC s i 4 (cdec (((s[i].toNat : Nat) : Int) - 240) ((bs s).drop (i + 1)) 3)) then
        V (F tab) r82_B0 (r82_S0 (.d (.str s)) (.own 3 ((l ++ [(cdec (((s[i].toNat : Nat) : Int) - 240) ((bs s).drop (i + 1)) 3)]).map iv)) (.d (iv (i + 4 : Nat))) [])
      else some (.ret, r82_R (.d (.sl [])) (.d (.bool false)) []) := by
  have q1 : ((i : Int) < (s.size : Int)) = True := eq_true (by omega)
  have hi0 : (0 ≤ (i : Int)) = True := eq_true (by omega)
  obtain ⟨va, vd⟩ := bs_get hi
  have xa : (((s[i].toNat : Nat) : Int) ≥ 240) = True := eq_true (by omega)
  have xb : (((s[i].toNat : Nat) : Int) < 248) = True := eq_true (by omega)
  have xg : (((s[i].toNat : Nat) : Int) ≥ 248) = False := eq_false (by omega)
  have xh : (((s[i].toNat : Nat) : Int) ≥ 128) = True := eq_true (by omega)
  have xm : (((s[i].toNat : Nat) : Int) < 192) = False := eq_false (by omega)
  rw [r82_B0_eq]
  by_cases g : i + 4 ≤ s.size
  · have q2 : ((i : Int) + 4 > (s.size : Int)) = False := eq_false (by omega)
    have hL := ci_loop s (by omega) l i 4 g (by omega) 3 1 (((s[i].toNat : Nat) : Int) - 240) (by omega) (by omega) (by simp only [Int.reducePow]; omega)
    unfold CiLoop at hL
    rw [show 4 - 1 = 3 from rfl] at hL
    rw [decide_eq_true g, Bool.true_and]
    simp (disch := omega) only [go_sem, and_self, and_true, true_and, false_and, and_false, Nat.reduceAdd, Nat.reduceMul, Nat.reduceSub, Nat.reduceLeDiff, Nat.reduceLT, Nat.reduceGT, Nat.reduceEqDiff, Nat.reduceBEq, Int.reduceNeg, Int.reduceEq, Int.reduceLT, Int.reduceLE, Int.reduceBEq, Int.reduceToNat, Int.toNat_natCast, Int.natCast_zero, r82_C0, q1, hi0, va, xa, xb, xg, xh, xm, w64, q2]
    rw [r82_B1_n]
    erw [hL]
    rcases Bool.eq_false_or_eq_true (conts ((bs s).drop (i + 1)) 3) with g2 | g2
    · obtain ⟨d1, d2⟩ := cdec_le _ _ (((s[i].toNat : Nat) : Int) - 240) (by omega) g2
      have d3 : (cdec (((s[i].toNat : Nat) : Int) - 240) ((bs s).drop (i + 1)) 3) ≤ 2097151 := by simp only [Int.reducePow] at d2; omega
      have hput := put_ok (cdec (((s[i].toNat : Nat) : Int) - 240) ((bs s).drop (i + 1)) 3) d1 d3
      rw [g2]
      simp only [if_true, Bool.true_and, okC]
      generalize (cdec (((s[i].toNat : Nat) : Int) - 240) ((bs s).drop (i + 1)) 3) = c at *
      have r1 : ((l.length + 1) * 8 ≤ maxRow) = True := eq_true (by simp only [maxRow]; omega)
      have hcmp := cmp_put s i 4 ((putI c).map ub)
      have et : ((i : Int) + ((4 : Nat) : Int)).toNat = i + 4 := by omega
      have q3 : ((i : Int) ≤ (i : Int) + ((4 : Nat) : Int)) = True := eq_true (by omega)
      have q4 : ((i : Int) + ((4 : Nat) : Int) ≤ (s.size : Int)) = True := eq_true (by omega)
      have ea : l.map iv ++ [iv c] = (l ++ [c]).map iv := by simp
      have all8 : ([iv c].all fun y => y.width == 1) = true := rfl
      rw [Int.natCast_add]
      by_cases k1 : c > 1114111
      · simp (disch := omega) only [go_sem, and_self, and_true, true_and, false_and, and_false, Nat.reduceAdd, Nat.reduceMul, Nat.reduceSub, Nat.reduceLeDiff, Nat.reduceLT, Nat.reduceGT, Nat.reduceEqDiff, Nat.reduceBEq, Int.reduceNeg, Int.reduceEq, Int.reduceLT, Int.reduceLE, Int.reduceBEq, Int.reduceToNat, Int.toNat_natCast, Int.natCast_zero, k1, decide_true, Bool.true_or, Bool.not_true, Bool.false_and]
      · by_cases k2 : c ≥ 55296
        · by_cases k3 : c < 57344
          · simp (disch := omega) only [go_sem, and_self, and_true, true_and, false_and, and_false, Nat.reduceAdd, Nat.reduceMul, Nat.reduceSub, Nat.reduceLeDiff, Nat.reduceLT, Nat.reduceGT, Nat.reduceEqDiff, Nat.reduceBEq, Int.reduceNeg, Int.reduceEq, Int.reduceLT, Int.reduceLE, Int.reduceBEq, Int.reduceToNat, Int.toNat_natCast, Int.natCast_zero, k1, k2, k3, decide_true, decide_false, Bool.true_or, Bool.false_or, Bool.true_and, Bool.not_true, Bool.false_and]
          · rcases Bool.eq_false_or_eq_true ((putI c).map ub == ((bs s).drop i).take 4) with k4 | k4 <;> rw [k4] at hcmp <;>
              simp (disch := omega) only [go_sem, and_self, and_true, true_and, false_and, and_false, Nat.reduceAdd, Nat.reduceMul, Nat.reduceSub, Nat.reduceLeDiff, Nat.reduceLT, Nat.reduceGT, Nat.reduceEqDiff, Nat.reduceBEq, Int.reduceNeg, Int.reduceEq, Int.reduceLT, Int.reduceLE, Int.reduceBEq, Int.reduceToNat, Int.toNat_natCast, Int.natCast_zero, k1, k2, k3, k4, hput, put_bytes, hcmp, strD_neq, et, q3, q4, hi0, w64, r1, all8, ea, List.length_map, decide_true, decide_false, Bool.or_self, Bool.and_self, Bool.and_true, Bool.and_false, Bool.not_false, Bool.not_true, Int.toNat_natCast] <;> rfl
        · rcases Bool.eq_false_or_eq_true ((putI c).map ub == ((bs s).drop i).take 4) with k4 | k4 <;> rw [k4] at hcmp <;>
            simp (disch := omega) only [go_sem, and_self, and_true, true_and, false_and, and_false, Nat.reduceAdd, Nat.reduceMul, Nat.reduceSub, Nat.reduceLeDiff, Nat.reduceLT, Nat.reduceGT, Nat.reduceEqDiff, Nat.reduceBEq, Int.reduceNeg, Int.reduceEq, Int.reduceLT, Int.reduceLE, Int.reduceBEq, Int.reduceToNat, Int.toNat_natCast, Int.natCast_zero, k1, k2, k4, hput, put_bytes, hcmp, strD_neq, et, q3, q4, hi0, w64, r1, all8, ea, List.length_map, decide_true, decide_false, Bool.or_self, Bool.false_and, Bool.and_true, Bool.and_false, Bool.not_false, Bool.not_true, Int.toNat_natCast] <;> rfl
    · rw [g2]
      simp (disch := omega) only [go_sem, and_self, and_true, true_and, false_and, and_false, Nat.reduceAdd, Nat.reduceMul, Nat.reduceSub, Nat.reduceLeDiff, Nat.reduceLT, Nat.reduceGT, Nat.reduceEqDiff, Nat.reduceBEq, Int.reduceNeg, Int.reduceEq, Int.reduceLT, Int.reduceLE, Int.reduceBEq, Int.reduceToNat, Int.toNat_natCast, Int.natCast_zero, Bool.false_and]
  · have q2 : ((i : Int) + 4 > (s.size : Int)) = True := eq_true (by omega)
    rw [decide_eq_false g, Bool.false_and]
    simp (disch := omega) only [go_sem, and_self, and_true, true_and, false_and, and_false, Nat.reduceAdd, Nat.reduceMul, Nat.reduceSub, Nat.reduceLeDiff, Nat.reduceLT, Nat.reduceGT, Nat.reduceEqDiff, Nat.reduceBEq, Int.reduceNeg, Int.reduceEq, Int.reduceLT, Int.reduceLE, Int.reduceBEq, Int.reduceToNat, Int.toNat_natCast, Int.natCast_zero, r82_C0, q1, hi0, va, xa, xb, xg, xh, xm, w64, q2]

end Go.Pe.T

namespace Go.Pe.T

def okL (l : List UInt8) (n : Nat) (c : Int) : Bool := !(decide (c > 1114111) || (decide (c ≥ 55296) && decide (c < 57344))) && ((putI c).map ub == l.take n)
theorem ub_nat (x : UInt8) : ub ((x.toNat : Nat) : Int) = x := by simp [ub]

theorem szc_0 (l : List UInt8) (g1 : nb l 0 ≥ 0) (g2 : nb l 0 ≤ 127) : sizeL l = 1 := by
  unfold sizeL
  generalize nb l 0 = c at *
  have xa : (c < 128) = True := eq_true (by omega)
  have xb : (c ≥ 194) = False := eq_false (by omega)
  have xd : (c ≤ 223) = True := eq_true (by omega)
  have xe : (c == 224) = false := by simp <;> omega
  have xf : (c ≥ 225) = False := eq_false (by omega)
  have xh : (c ≤ 239) = True := eq_true (by omega)
  have xi : (c != 237) = true := by simp <;> omega
  have xj : (c == 237) = false := by simp <;> omega
  have xk : (c == 240) = false := by simp <;> omega
  have xl : (c ≥ 241) = False := eq_false (by omega)
  have xm : (c ≤ 243) = True := eq_true (by omega)
  have xn : (c == 244) = false := by simp <;> omega
  simp only [xa, xb, xd, xe, xf, xh, xi, xj, xk, xl, xm, xn, decide_true, decide_false, Bool.true_and, Bool.false_and, Bool.or_false, Bool.false_or, Bool.and_true, Bool.and_false, Bool.false_eq_true, if_true, if_false]

theorem szc_1 (l : List UInt8) (g1 : nb l 0 ≥ 128) (g2 : nb l 0 ≤ 193) : sizeL l = 0 := by
  unfold sizeL
  generalize nb l 0 = c at *
  have xa : (c < 128) = False := eq_false (by omega)
  have xb : (c ≥ 194) = False := eq_false (by omega)
  have xd : (c ≤ 223) = True := eq_true (by omega)
  have xe : (c == 224) = false := by simp <;> omega
  have xf : (c ≥ 225) = False := eq_false (by omega)
  have xh : (c ≤ 239) = True := eq_true (by omega)
  have xi : (c != 237) = true := by simp <;> omega
  have xj : (c == 237) = false := by simp <;> omega
  have xk : (c == 240) = false := by simp <;> omega
  have xl : (c ≥ 241) = False := eq_false (by omega)
  have xm : (c ≤ 243) = True := eq_true (by omega)
  have xn : (c == 244) = false := by simp <;> omega
  simp only [xa, xb, xd, xe, xf, xh, xi, xj, xk, xl, xm, xn, decide_true, decide_false, Bool.true_and, Bool.false_and, Bool.or_false, Bool.false_or, Bool.and_true, Bool.and_false, Bool.false_eq_true, if_true, if_false]

theorem szc_2 (l : List UInt8) (g1 : nb l 0 ≥ 194) (g2 : nb l 0 ≤ 223) : sizeL l = if tailL l 1 128 191 then 2 else 0 := by
  unfold sizeL
  generalize nb l 0 = c at *
  have xa : (c < 128) = False := eq_false (by omega)
  have xb : (c ≥ 194) = True := eq_true (by omega)
  have xd : (c ≤ 223) = True := eq_true (by omega)
  have xe : (c == 224) = false := by simp <;> omega
  have xf : (c ≥ 225) = False := eq_false (by omega)
  have xh : (c ≤ 239) = True := eq_true (by omega)
  have xi : (c != 237) = true := by simp <;> omega
  have xj : (c == 237) = false := by simp <;> omega
  have xk : (c == 240) = false := by simp <;> omega
  have xl : (c ≥ 241) = False := eq_false (by omega)
  have xm : (c ≤ 243) = True := eq_true (by omega)
  have xn : (c == 244) = false := by simp <;> omega
  simp only [xa, xb, xd, xe, xf, xh, xi, xj, xk, xl, xm, xn, decide_true, decide_false, Bool.true_and, Bool.false_and, Bool.or_false, Bool.false_or, Bool.and_true, Bool.and_false, Bool.false_eq_true, if_true, if_false]

theorem szc_3 (l : List UInt8) (g1 : nb l 0 ≥ 224) (g2 : nb l 0 ≤ 224) : sizeL l = if tailL l 2 160 191 then 3 else 0 := by
  unfold sizeL
  generalize nb l 0 = c at *
  have xa : (c < 128) = False := eq_false (by omega)
  have xb : (c ≥ 194) = True := eq_true (by omega)
  have xd : (c ≤ 223) = False := eq_false (by omega)
  have xe : (c == 224) = true := by simp <;> omega
  have xf : (c ≥ 225) = False := eq_false (by omega)
  have xh : (c ≤ 239) = True := eq_true (by omega)
  have xi : (c != 237) = true := by simp <;> omega
  have xj : (c == 237) = false := by simp <;> omega
  have xk : (c == 240) = false := by simp <;> omega
  have xl : (c ≥ 241) = False := eq_false (by omega)
  have xm : (c ≤ 243) = True := eq_true (by omega)
  have xn : (c == 244) = false := by simp <;> omega
  simp only [xa, xb, xd, xe, xf, xh, xi, xj, xk, xl, xm, xn, decide_true, decide_false, Bool.true_and, Bool.false_and, Bool.or_false, Bool.false_or, Bool.and_true, Bool.and_false, Bool.false_eq_true, if_true, if_false]

theorem szc_4 (l : List UInt8) (g1 : nb l 0 ≥ 225) (g2 : nb l 0 ≤ 236) : sizeL l = if tailL l 2 128 191 then 3 else 0 := by
  unfold sizeL
  generalize nb l 0 = c at *
  have xa : (c < 128) = False := eq_false (by omega)
  have xb : (c ≥ 194) = True := eq_true (by omega)
  have xd : (c ≤ 223) = False := eq_false (by omega)
  have xe : (c == 224) = false := by simp <;> omega
  have xf : (c ≥ 225) = True := eq_true (by omega)
  have xh : (c ≤ 239) = True := eq_true (by omega)
  have xi : (c != 237) = true := by simp <;> omega
  have xj : (c == 237) = false := by simp <;> omega
  have xk : (c == 240) = false := by simp <;> omega
  have xl : (c ≥ 241) = False := eq_false (by omega)
  have xm : (c ≤ 243) = True := eq_true (by omega)
  have xn : (c == 244) = false := by simp <;> omega
  simp only [xa, xb, xd, xe, xf, xh, xi, xj, xk, xl, xm, xn, decide_true, decide_false, Bool.true_and, Bool.false_and, Bool.or_false, Bool.false_or, Bool.and_true, Bool.and_false, Bool.false_eq_true, if_true, if_false]

theorem szc_5 (l : List UInt8) (g1 : nb l 0 ≥ 237) (g2 : nb l 0 ≤ 237) : sizeL l = if tailL l 2 128 159 then 3 else 0 := by
  unfold sizeL
  generalize nb l 0 = c at *
  have xa : (c < 128) = False := eq_false (by omega)
  have xb : (c ≥ 194) = True := eq_true (by omega)
  have xd : (c ≤ 223) = False := eq_false (by omega)
  have xe : (c == 224) = false := by simp <;> omega
  have xf : (c ≥ 225) = True := eq_true (by omega)
  have xh : (c ≤ 239) = True := eq_true (by omega)
  have xi : (c != 237) = false := by simp <;> omega
  have xj : (c == 237) = true := by simp <;> omega
  have xk : (c == 240) = false := by simp <;> omega
  have xl : (c ≥ 241) = False := eq_false (by omega)
  have xm : (c ≤ 243) = True := eq_true (by omega)
  have xn : (c == 244) = false := by simp <;> omega
  simp only [xa, xb, xd, xe, xf, xh, xi, xj, xk, xl, xm, xn, decide_true, decide_false, Bool.true_and, Bool.false_and, Bool.or_false, Bool.false_or, Bool.and_true, Bool.and_false, Bool.false_eq_true, if_true, if_false]

theorem szc_6 (l : List UInt8) (g1 : nb l 0 ≥ 238) (g2 : nb l 0 ≤ 239) : sizeL l = if tailL l 2 128 191 then 3 else 0 := by
  unfold sizeL
  generalize nb l 0 = c at *
  have xa : (c < 128) = False := eq_false (by omega)
  have xb : (c ≥ 194) = True := eq_true (by omega)
  have xd : (c ≤ 223) = False := eq_false (by omega)
  have xe : (c == 224) = false := by simp <;> omega
  have xf : (c ≥ 225) = True := eq_true (by omega)
  have xh : (c ≤ 239) = True := eq_true (by omega)
  have xi : (c != 237) = true := by simp <;> omega
  have xj : (c == 237) = false := by simp <;> omega
  have xk : (c == 240) = false := by simp <;> omega
  have xl : (c ≥ 241) = False := eq_false (by omega)
  have xm : (c ≤ 243) = True := eq_true (by omega)
  have xn : (c == 244) = false := by simp <;> omega
  simp only [xa, xb, xd, xe, xf, xh, xi, xj, xk, xl, xm, xn, decide_true, decide_false, Bool.true_and, Bool.false_and, Bool.or_false, Bool.false_or, Bool.and_true, Bool.and_false, Bool.false_eq_true, if_true, if_false]

theorem szc_7 (l : List UInt8) (g1 : nb l 0 ≥ 240) (g2 : nb l 0 ≤ 240) : sizeL l = if tailL l 3 144 191 then 4 else 0 := by
  unfold sizeL
  generalize nb l 0 = c at *
  have xa : (c < 128) = False := eq_false (by omega)
  have xb : (c ≥ 194) = True := eq_true (by omega)
  have xd : (c ≤ 223) = False := eq_false (by omega)
  have xe : (c == 224) = false := by simp <;> omega
  have xf : (c ≥ 225) = True := eq_true (by omega)
  have xh : (c ≤ 239) = False := eq_false (by omega)
  have xi : (c != 237) = true := by simp <;> omega
  have xj : (c == 237) = false := by simp <;> omega
  have xk : (c == 240) = true := by simp <;> omega
  have xl : (c ≥ 241) = False := eq_false (by omega)
  have xm : (c ≤ 243) = True := eq_true (by omega)
  have xn : (c == 244) = false := by simp <;> omega
  simp only [xa, xb, xd, xe, xf, xh, xi, xj, xk, xl, xm, xn, decide_true, decide_false, Bool.true_and, Bool.false_and, Bool.or_false, Bool.false_or, Bool.and_true, Bool.and_false, Bool.false_eq_true, if_true, if_false]

theorem szc_8 (l : List UInt8) (g1 : nb l 0 ≥ 241) (g2 : nb l 0 ≤ 243) : sizeL l = if tailL l 3 128 191 then 4 else 0 := by
  unfold sizeL
  generalize nb l 0 = c at *
  have xa : (c < 128) = False := eq_false (by omega)
  have xb : (c ≥ 194) = True := eq_true (by omega)
  have xd : (c ≤ 223) = False := eq_false (by omega)
  have xe : (c == 224) = false := by simp <;> omega
  have xf : (c ≥ 225) = True := eq_true (by omega)
  have xh : (c ≤ 239) = False := eq_false (by omega)
  have xi : (c != 237) = true := by simp <;> omega
  have xj : (c == 237) = false := by simp <;> omega
  have xk : (c == 240) = false := by simp <;> omega
  have xl : (c ≥ 241) = True := eq_true (by omega)
  have xm : (c ≤ 243) = True := eq_true (by omega)
  have xn : (c == 244) = false := by simp <;> omega
  simp only [xa, xb, xd, xe, xf, xh, xi, xj, xk, xl, xm, xn, decide_true, decide_false, Bool.true_and, Bool.false_and, Bool.or_false, Bool.false_or, Bool.and_true, Bool.and_false, Bool.false_eq_true, if_true, if_false]

theorem szc_9 (l : List UInt8) (g1 : nb l 0 ≥ 244) (g2 : nb l 0 ≤ 244) : sizeL l = if tailL l 3 128 143 then 4 else 0 := by
  unfold sizeL
  generalize nb l 0 = c at *
  have xa : (c < 128) = False := eq_false (by omega)
  have xb : (c ≥ 194) = True := eq_true (by omega)
  have xd : (c ≤ 223) = False := eq_false (by omega)
  have xe : (c == 224) = false := by simp <;> omega
  have xf : (c ≥ 225) = True := eq_true (by omega)
  have xh : (c ≤ 239) = False := eq_false (by omega)
  have xi : (c != 237) = true := by simp <;> omega
  have xj : (c == 237) = false := by simp <;> omega
  have xk : (c == 240) = false := by simp <;> omega
  have xl : (c ≥ 241) = True := eq_true (by omega)
  have xm : (c ≤ 243) = False := eq_false (by omega)
  have xn : (c == 244) = true := by simp <;> omega
  simp only [xa, xb, xd, xe, xf, xh, xi, xj, xk, xl, xm, xn, decide_true, decide_false, Bool.true_and, Bool.false_and, Bool.or_false, Bool.false_or, Bool.and_true, Bool.and_false, Bool.false_eq_true, if_true, if_false]

theorem szc_10 (l : List UInt8) (g1 : nb l 0 ≥ 245) (g2 : nb l 0 ≤ 255) : sizeL l = 0 := by
  unfold sizeL
  generalize nb l 0 = c at *
  have xa : (c < 128) = False := eq_false (by omega)
  have xb : (c ≥ 194) = True := eq_true (by omega)
  have xd : (c ≤ 223) = False := eq_false (by omega)
  have xe : (c == 224) = false := by simp <;> omega
  have xf : (c ≥ 225) = True := eq_true (by omega)
  have xh : (c ≤ 239) = False := eq_false (by omega)
  have xi : (c != 237) = true := by simp <;> omega
  have xj : (c == 237) = false := by simp <;> omega
  have xk : (c == 240) = false := by simp <;> omega
  have xl : (c ≥ 241) = True := eq_true (by omega)
  have xm : (c ≤ 243) = False := eq_false (by omega)
  have xn : (c == 244) = false := by simp <;> omega
  simp only [xa, xb, xd, xe, xf, xh, xi, xj, xk, xl, xm, xn, decide_true, decide_false, Bool.true_and, Bool.false_and, Bool.or_false, Bool.false_or, Bool.and_true, Bool.and_false, Bool.false_eq_true, if_true, if_false]

theorem nb0 (x : UInt8) (r : List UInt8) : nb (x :: r) 0 = ((x.toNat : Nat) : Int) := rfl
theorem nb1 (x y : UInt8) (r : List UInt8) : nb (x :: y :: r) 1 = ((y.toNat : Nat) : Int) := rfl

theorem m1 (x : UInt8) (r : List UInt8) (h : ((x.toNat : Nat) : Int) ≤ 127) : okL (x :: r) 1 ((x.toNat : Nat) : Int) = true ∧ sizeL (x :: r) = 1 := by
  refine ⟨?_, szc_0 _ (by rw [nb0]; omega) (by rw [nb0]; omega)⟩
  have h1 : ¬ ((x.toNat : Nat) : Int) > 1114111 := by omega
  have h2 : ¬ ((x.toNat : Nat) : Int) ≥ 55296 := by omega
  have h3 : ((x.toNat : Nat) : Int) < 128 := by omega
  simp [okL, putI, h1, h2, h3, ub_nat]

theorem m2 (x : UInt8) (r : List UInt8) (h1 : 192 ≤ ((x.toNat : Nat) : Int)) (h2 : ((x.toNat : Nat) : Int) ≤ 223) :
    (decide (2 ≤ (x :: r).length) && (conts r 1 && okL (x :: r) 2 (cdec (((x.toNat : Nat) : Int) - 192) r 1))) = (sizeL (x :: r) == 2) ∧ (sizeL (x :: r) = 2 ∨ sizeL (x :: r) = 0) := by
  match r with
  | [] =>
    have : sizeL [x] = 0 := by
      by_cases g : nb [x] 0 ≤ 193
      · exact szc_1 _ (by rw [nb0]; omega) g
      · rw [szc_2 _ (by omega) (by rw [nb0]; omega)]; simp [tailL]
    simp [this]
  | y :: r =>
    have hy : y.toNat < 256 := UInt8.toNat_lt _
    simp only [conts, contB, Bool.and_true, cdec]
    by_cases g1 : ((y.toNat : Nat) : Int) < 128
    · have : sizeL (x :: y :: r) = 0 := by
        by_cases g : nb (x :: y :: r) 0 ≤ 193
        · exact szc_1 _ (by rw [nb0]; omega) g
        · rw [szc_2 _ (by omega) (by rw [nb0]; omega)]; simp [tailL, nb1, g1]
      simp [this, g1]
    · by_cases g2 : ((y.toNat : Nat) : Int) > 191
      · have : sizeL (x :: y :: r) = 0 := by
          by_cases g : nb (x :: y :: r) 0 ≤ 193
          · exact szc_1 _ (by rw [nb0]; omega) g
          · rw [szc_2 _ (by omega) (by rw [nb0]; omega)]; simp [tailL, nb1, g2]
        simp [this, g2]
      · generalize hc : 64 * (((x.toNat : Nat) : Int) - 192) + ((y.toNat : Nat) : Int) - 128 = c
        have k1 : ¬ c > 1114111 := by omega
        have k2 : ¬ c ≥ 55296 := by omega
        by_cases g : ((x.toNat : Nat) : Int) ≤ 193
        · have e : sizeL (x :: y :: r) = 0 := szc_1 _ (by rw [nb0]; omega) (by rw [nb0]; omega)
          have k3 : c < 128 := by omega
          simp [e, okL, putI, k3]
        · have e : sizeL (x :: y :: r) = 2 := by
            rw [szc_2 _ (by rw [nb0]; omega) (by rw [nb0]; omega)]; simp [tailL, nb1, g1, g2, conts]
          have k3 : ¬ c < 128 := by omega
          have k4 : c < 2048 := by omega
          have e1 : 192 + c / 64 = ((x.toNat : Nat) : Int) := by omega
          have e2 : 128 + c % 64 = ((y.toNat : Nat) : Int) := by omega
          simp [e, okL, putI, k1, k2, k3, k4, e1, e2, ub_nat, g1, g2]

theorem sz3 (x : UInt8) (r : List UInt8) (h1 : 224 ≤ ((x.toNat : Nat) : Int)) (h2 : ((x.toNat : Nat) : Int) ≤ 239) :
    sizeL (x :: r) = if tailL (x :: r) 2 (if ((x.toNat : Nat) : Int) = 224 then 160 else 128) (if ((x.toNat : Nat) : Int) = 237 then 159 else 191) then 3 else 0 := by
  by_cases a : ((x.toNat : Nat) : Int) = 224
  · have b : ¬ ((x.toNat : Nat) : Int) = 237 := by omega
    rw [szc_3 _ (by rw [nb0]; omega) (by rw [nb0]; omega), if_pos a, if_neg b]
  · by_cases b : ((x.toNat : Nat) : Int) = 237
    · rw [szc_5 _ (by rw [nb0]; omega) (by rw [nb0]; omega), if_neg a, if_pos b]
    · rw [if_neg a, if_neg b]
      by_cases c : ((x.toNat : Nat) : Int) ≤ 236
      · exact szc_4 _ (by rw [nb0]; omega) (by rw [nb0]; omega)
      · exact szc_6 _ (by rw [nb0]; omega) (by rw [nb0]; omega)
theorem sz4 (x : UInt8) (r : List UInt8) (h1 : 240 ≤ ((x.toNat : Nat) : Int)) (h2 : ((x.toNat : Nat) : Int) ≤ 247) :
    sizeL (x :: r) = if (decide (((x.toNat : Nat) : Int) ≤ 244) && tailL (x :: r) 3 (if ((x.toNat : Nat) : Int) = 240 then 144 else 128) (if ((x.toNat : Nat) : Int) = 244 then 143 else 191)) then 4 else 0 := by
  by_cases a : ((x.toNat : Nat) : Int) = 240
  · have q : ((x.toNat : Nat) : Int) ≤ 244 := by omega
    have b : ¬ ((x.toNat : Nat) : Int) = 244 := by omega
    rw [szc_7 _ (by rw [nb0]; omega) (by rw [nb0]; omega), if_pos a, if_neg b, decide_eq_true q, Bool.true_and]
  · by_cases b : ((x.toNat : Nat) : Int) = 244
    · have q : ((x.toNat : Nat) : Int) ≤ 244 := by omega
      rw [szc_9 _ (by rw [nb0]; omega) (by rw [nb0]; omega), if_neg a, if_pos b, decide_eq_true q, Bool.true_and]
    · rw [if_neg a, if_neg b]
      by_cases c : ((x.toNat : Nat) : Int) ≤ 243
      · have q : ((x.toNat : Nat) : Int) ≤ 244 := by omega
        rw [szc_8 _ (by rw [nb0]; omega) (by rw [nb0]; omega), decide_eq_true q, Bool.true_and]
      · have q : ¬ ((x.toNat : Nat) : Int) ≤ 244 := by omega
        rw [szc_10 _ (by rw [nb0]; omega) (by rw [nb0]; omega), decide_eq_false q, Bool.false_and, if_neg (by simp)]

theorem m3 (x : UInt8) (r : List UInt8) (h1 : 224 ≤ ((x.toNat : Nat) : Int)) (h2 : ((x.toNat : Nat) : Int) ≤ 239) :
    (decide (3 ≤ (x :: r).length) && (conts r 2 && okL (x :: r) 3 (cdec (((x.toNat : Nat) : Int) - 224) r 2))) = (sizeL (x :: r) == 3) ∧ (sizeL (x :: r) = 3 ∨ sizeL (x :: r) = 0) := by
  refine ⟨?_, by rw [sz3 x r h1 h2]; split <;> simp⟩
  rw [sz3 x r h1 h2]
  match r with
  | [] => simp [tailL]
  | [y] => simp [tailL, conts]
  | y :: z :: r =>
    have hy : y.toNat < 256 := UInt8.toNat_lt _
    have hz : z.toNat < 256 := UInt8.toNat_lt _
    have el : decide (3 ≤ (x :: y :: z :: r).length) = true := by simp
    have et : ∀ lo hi, tailL (x :: y :: z :: r) 2 lo hi = ((!decide (((y.toNat : Nat) : Int) < lo) && !decide (((y.toNat : Nat) : Int) > hi)) && contB z.toNat) := by
      intro lo hi; simp [tailL, nb1, conts] <;> rfl
    rw [el, et]
    simp only [conts, Bool.and_true, Bool.true_and, cdec, contB]
    generalize hX : ((x.toNat : Nat) : Int) = X at *
    generalize hY : ((y.toNat : Nat) : Int) = Y at *
    generalize hZ : ((z.toNat : Nat) : Int) = Z at *
    generalize hc : 64 * (64 * (X - 224) + Y - 128) + Z - 128 = c
    have ux : ub X = x := by rw [← hX]; exact ub_nat x
    have uy : ub Y = y := by rw [← hY]; exact ub_nat y
    have uz : ub Z = z := by rw [← hZ]; exact ub_nat z
    by_cases z1 : Z < 128
    · simp [z1]
    by_cases z2 : Z > 191
    · simp [z2]
    by_cases y1 : Y < 128
    · have : Y < (if X = 224 then 160 else 128) := by split <;> omega
      simp [y1, this]
    by_cases y2 : Y > 191
    · have : Y > (if X = 237 then 159 else 191) := by split <;> omega
      simp [y2, this]
    have k1 : ¬ c > 1114111 := by omega
    simp only [z1, z2, y1, y2, k1, okL, decide_false, decide_true, Bool.not_false, Bool.not_true, Bool.true_and, Bool.and_true, Bool.false_or]
    by_cases a : X = 224
    · have b : ¬ X = 237 := by omega
      have s1 : ¬ c ≥ 55296 := by omega
      simp only [if_pos a, if_neg b, y2, s1, decide_false, Bool.not_false, Bool.and_true, Bool.false_and, Bool.true_and]
      by_cases q : Y < 160
      · have p1 : c < 2048 := by omega
        by_cases p0 : c < 128
        · simp [putI, p0, q]
        · simp [putI, p0, p1, q]
      · have p1 : ¬ c < 2048 := by omega
        have p0 : ¬ c < 128 := by omega
        have p2 : c < 65536 := by omega
        have e1 : 224 + c / 4096 = X := by omega
        have e2 : 128 + c / 64 % 64 = Y := by omega
        have e3 : 128 + c % 64 = Z := by omega
        simp [putI, p0, p1, p2, e1, e2, e3, q, ux, uy, uz]
    · have p1 : ¬ c < 2048 := by omega
      have p0 : ¬ c < 128 := by omega
      have p2 : c < 65536 := by omega
      have e1 : 224 + c / 4096 = X := by omega
      have e2 : 128 + c / 64 % 64 = Y := by omega
      have e3 : 128 + c % 64 = Z := by omega
      have ep : ((putI c).map ub == (x :: y :: z :: r).take 3) = true := by simp [putI, p0, p1, p2, e1, e2, e3, ux, uy, uz]
      rw [ep]
      by_cases b : X = 237
      · simp only [if_neg a, if_pos b, y1, decide_false, Bool.not_false, Bool.and_true, Bool.true_and]
        by_cases q : Y > 159
        · have s1 : c ≥ 55296 := by omega
          have s2 : c < 57344 := by omega
          simp [s1, s2, q]
        · have s1 : ¬ c ≥ 55296 := by omega
          simp [s1, q]
      · simp only [if_neg a, if_neg b, y1, y2, decide_false, Bool.not_false, Bool.and_true, Bool.true_and]
        by_cases s1 : c ≥ 55296
        · have s2 : ¬ c < 57344 := by omega
          simp [s1, s2]
        · simp [s1]

theorem m4 (x : UInt8) (r : List UInt8) (h1 : 240 ≤ ((x.toNat : Nat) : Int)) (h2 : ((x.toNat : Nat) : Int) ≤ 247) :
    (decide (4 ≤ (x :: r).length) && (conts r 3 && okL (x :: r) 4 (cdec (((x.toNat : Nat) : Int) - 240) r 3))) = (sizeL (x :: r) == 4) ∧ (sizeL (x :: r) = 4 ∨ sizeL (x :: r) = 0) := by
  refine ⟨?_, by rw [sz4 x r h1 h2]; split <;> simp⟩
  rw [sz4 x r h1 h2]
  match r with
  | [] => simp [tailL]
  | [y] => simp [tailL, conts]
  | [y, z] => simp [tailL, conts]
  | y :: z :: w :: r =>
    have hy : y.toNat < 256 := UInt8.toNat_lt _
    have hz : z.toNat < 256 := UInt8.toNat_lt _
    have hw : w.toNat < 256 := UInt8.toNat_lt _
    have el : decide (4 ≤ (x :: y :: z :: w :: r).length) = true := by simp
    have et : ∀ lo hi, tailL (x :: y :: z :: w :: r) 3 lo hi = ((!decide (((y.toNat : Nat) : Int) < lo) && !decide (((y.toNat : Nat) : Int) > hi)) && (contB z.toNat && contB w.toNat)) := by
      intro lo hi; simp [tailL, nb1, conts] <;> rfl
    rw [el, et]
    simp only [conts, Bool.and_true, Bool.true_and, cdec, contB]
    generalize hX : ((x.toNat : Nat) : Int) = X at *
    generalize hY : ((y.toNat : Nat) : Int) = Y at *
    generalize hZ : ((z.toNat : Nat) : Int) = Z at *
    generalize hW : ((w.toNat : Nat) : Int) = W at *
    generalize hc : 64 * (64 * (64 * (X - 240) + Y - 128) + Z - 128) + W - 128 = c
    have ux : ub X = x := by rw [← hX]; exact ub_nat x
    have uy : ub Y = y := by rw [← hY]; exact ub_nat y
    have uz : ub Z = z := by rw [← hZ]; exact ub_nat z
    have uw : ub W = w := by rw [← hW]; exact ub_nat w
    by_cases w1 : W < 128
    · simp [w1]
    by_cases w2 : W > 191
    · simp [w2]
    by_cases z1 : Z < 128
    · simp [z1]
    by_cases z2 : Z > 191
    · simp [z2]
    by_cases y1 : Y < 128
    · have : Y < (if X = 240 then 144 else 128) := by split <;> omega
      simp [y1, this]
    by_cases y2 : Y > 191
    · have : Y > (if X = 244 then 143 else 191) := by split <;> omega
      simp [y2, this]
    simp only [w1, w2, z1, z2, y1, y2, okL, decide_false, decide_true, Bool.not_false, Bool.not_true, Bool.true_and, Bool.and_true, Bool.false_or]
    by_cases a : X = 240
    · have b : ¬ X = 244 := by omega
      have k1 : ¬ c > 1114111 := by omega
      have xl : X ≤ 244 := by omega
      simp only [if_pos a, if_neg b, y2, k1, xl, decide_true, decide_false, Bool.not_false, Bool.and_true, Bool.true_and, Bool.false_or]
      by_cases q : Y < 144
      · have p2 : c < 65536 := by omega
        by_cases p0 : c < 128
        · simp [putI, p0, q]
        · by_cases p1 : c < 2048
          · simp [putI, p0, p1, q]
          · simp [putI, p0, p1, p2, q]
      · have p2 : ¬ c < 65536 := by omega
        have p1 : ¬ c < 2048 := by omega
        have p0 : ¬ c < 128 := by omega
        have s2 : ¬ c < 57344 := by omega
        have e1 : 240 + c / 262144 = X := by omega
        have e2 : 128 + c / 4096 % 64 = Y := by omega
        have e3 : 128 + c / 64 % 64 = Z := by omega
        have e4 : 128 + c % 64 = W := by omega
        simp [putI, p0, p1, p2, e1, e2, e3, e4, q, ux, uy, uz, uw, s2]
    · have p2 : ¬ c < 65536 := by omega
      have p1 : ¬ c < 2048 := by omega
      have p0 : ¬ c < 128 := by omega
      have s2 : ¬ c < 57344 := by omega
      have e1 : 240 + c / 262144 = X := by omega
      have e2 : 128 + c / 4096 % 64 = Y := by omega
      have e3 : 128 + c / 64 % 64 = Z := by omega
      have e4 : 128 + c % 64 = W := by omega
      have ep : ((putI c).map ub == (x :: y :: z :: w :: r).take 4) = true := by simp [putI, p0, p1, p2, e1, e2, e3, e4, ux, uy, uz, uw]
      rw [ep]
      by_cases b : X = 244
      · have xl : X ≤ 244 := by omega
        simp only [if_neg a, if_pos b, y1, xl, decide_true, decide_false, Bool.not_false, Bool.and_true, Bool.true_and]
        by_cases q : Y > 143
        · have k1 : c > 1114111 := by omega
          simp [k1, q]
        · have k1 : ¬ c > 1114111 := by omega
          simp [k1, q, s2]
      · simp only [if_neg a, if_neg b, y1, y2, decide_false, Bool.not_false, Bool.and_true, Bool.true_and]
        by_cases xl : X ≤ 244
        · have k1 : ¬ c > 1114111 := by omega
          simp [k1, xl, s2]
        · have k1 : c > 1114111 := by omega
          simp [k1, xl]
end Go.Pe.T

namespace Go.Pe.T

theorem sg_bad1 (s : ByteArray) (hs : s.size ≤ 2097152) (l : List Int) (i : Nat) (hi : i < s.size) (h1 : ((s[i].toNat : Nat) : Int) ≥ 128) (h2 : ((s[i].toNat : Nat) : Int) ≤ 191) : V (F tab) r82_B0 (r82_S0 (.d (.str s)) (.own 3 (l.map iv)) (.d (iv i)) []) = some (.ret, r82_R (.d (.sl [])) (.d (.bool false)) []) := by
  have q1 : ((i : Int) < (s.size : Int)) = True := eq_true (by omega)
  have hi0 : (0 ≤ (i : Int)) = True := eq_true (by omega)
  obtain ⟨va, vd⟩ := bs_get hi
  have xa : (((s[i].toNat : Nat) : Int) ≥ 240) = False := eq_false (by omega)
  have xd : (((s[i].toNat : Nat) : Int) ≥ 224) = False := eq_false (by omega)
  have xe : (((s[i].toNat : Nat) : Int) ≥ 192) = False := eq_false (by omega)
  have xg : (((s[i].toNat : Nat) : Int) ≥ 248) = False := eq_false (by omega)
  have xh : (((s[i].toNat : Nat) : Int) ≥ 128) = True := eq_true (by omega)
  have xm : (((s[i].toNat : Nat) : Int) < 192) = True := eq_true (by omega)
  rw [r82_B0_eq]
  simp (disch := omega) only [go_sem, and_self, and_true, true_and, false_and, and_false, Nat.reduceAdd, Nat.reduceMul, Nat.reduceSub, Nat.reduceLeDiff, Nat.reduceLT, Nat.reduceGT, Nat.reduceEqDiff, Nat.reduceBEq, Int.reduceNeg, Int.reduceEq, Int.reduceLT, Int.reduceLE, Int.reduceBEq, Int.reduceToNat, Int.toNat_natCast, Int.natCast_zero, r82_C0, q1, hi0, va, xa, xd, xe, xg, xh, xm, w64]

theorem sg_bad2 (s : ByteArray) (hs : s.size ≤ 2097152) (l : List Int) (i : Nat) (hi : i < s.size) (h1 : ((s[i].toNat : Nat) : Int) ≥ 248) (h2 : ((s[i].toNat : Nat) : Int) ≤ 255) : V (F tab) r82_B0 (r82_S0 (.d (.str s)) (.own 3 (l.map iv)) (.d (iv i)) []) = some (.ret, r82_R (.d (.sl [])) (.d (.bool false)) []) := by
  have q1 : ((i : Int) < (s.size : Int)) = True := eq_true (by omega)
  have hi0 : (0 ≤ (i : Int)) = True := eq_true (by omega)
  obtain ⟨va, vd⟩ := bs_get hi
  have xa : (((s[i].toNat : Nat) : Int) ≥ 240) = True := eq_true (by omega)
  have xb : (((s[i].toNat : Nat) : Int) < 248) = False := eq_false (by omega)
  have xd : (((s[i].toNat : Nat) : Int) ≥ 224) = True := eq_true (by omega)
  have xe : (((s[i].toNat : Nat) : Int) ≥ 192) = True := eq_true (by omega)
  have xg : (((s[i].toNat : Nat) : Int) ≥ 248) = True := eq_true (by omega)
  have xh : (((s[i].toNat : Nat) : Int) ≥ 128) = True := eq_true (by omega)
  have xm : (((s[i].toNat : Nat) : Int) < 192) = False := eq_false (by omega)
  rw [r82_B0_eq]
  simp (disch := omega) only [go_sem, and_self, and_true, true_and, false_and, and_false, Nat.reduceAdd, Nat.reduceMul, Nat.reduceSub, Nat.reduceLeDiff, Nat.reduceLT, Nat.reduceGT, Nat.reduceEqDiff, Nat.reduceBEq, Int.reduceNeg, Int.reduceEq, Int.reduceLT, Int.reduceLE, Int.reduceBEq, Int.reduceToNat, Int.toNat_natCast, Int.natCast_zero, r82_C0, q1, hi0, va, xa, xb, xd, xe, xg, xh, xm, w64]

def SgIs (s : ByteArray) (l : List Int) (i k : Nat) : Prop :=
  if validF k ((bs s).drop i) = true then ∃ l' : List Int, V (F tab) r82_B0 (r82_S0 (.d (.str s)) (.own 3 (l.map iv)) (.d (iv i)) []) = some (.norm, r82_E0 (.own 3 (l'.map iv)) [])
  else V (F tab) r82_B0 (r82_S0 (.d (.str s)) (.own 3 (l.map iv)) (.d (iv i)) []) = some (.ret, r82_R (.d (.sl [])) (.d (.bool false)) [])
theorem sgis_end (s : ByteArray) (l : List Int) (i k : Nat) (hi : s.size ≤ i) : SgIs s l i k := by
  have h1 : ((i : Int) < (s.size : Int)) = False := eq_false (by omega)
  have e : validF k ((bs s).drop i) = true := by rw [bs_end hi]; cases k <;> rfl
  unfold SgIs
  rw [if_pos e]
  refine ⟨l, ?_⟩
  rw [r82_B0_eq]
  simp (disch := omega) only [go_sem, and_self, and_true, true_and, false_and, and_false, Nat.reduceAdd, Nat.reduceMul, Nat.reduceSub, Nat.reduceLeDiff, Nat.reduceLT, Nat.reduceGT, Nat.reduceEqDiff, Nat.reduceBEq, Int.reduceNeg, Int.reduceEq, Int.reduceLT, Int.reduceLE, Int.reduceBEq, Int.reduceToNat, Int.toNat_natCast, Int.natCast_zero, r82_C0, h1]
theorem sgis_of (s : ByteArray) (l : List Int) (i k n : Nat) (c : Int) (C : Bool) (hi : i < s.size) (hn : 0 < n)
    (hV : V (F tab) r82_B0 (r82_S0 (.d (.str s)) (.own 3 (l.map iv)) (.d (iv i)) []) = if C then V (F tab) r82_B0 (r82_S0 (.d (.str s)) (.own 3 ((l ++ [c]).map iv)) (.d (iv (i + n : Nat))) []) else some (.ret, r82_R (.d (.sl [])) (.d (.bool false)) []))
    (hC : C = (sizeL ((bs s).drop i) == n)) (h0 : sizeL ((bs s).drop i) = n ∨ sizeL ((bs s).drop i) = 0) (ih : SgIs s (l ++ [c]) (i + n) k) : SgIs s l i (k + 1) := by
  obtain ⟨va, vd⟩ := bs_get hi
  have ev : validF (k + 1) ((bs s).drop i) = if sizeL ((bs s).drop i) = 0 then false else validF k (((bs s).drop i).drop (sizeL ((bs s).drop i))) := by rw [vd]; rfl
  unfold SgIs at ih ⊢
  rcases h0 with h0 | h0
  · have e : C = true := by rw [hC, h0]; simp
    have e2 : validF (k + 1) ((bs s).drop i) = validF k ((bs s).drop (i + n)) := by
      rw [ev, h0, if_neg (show ¬ n = 0 by omega), List.drop_drop]
    rw [e2, hV, e]
    simp only [if_true]
    exact ih
  · have e : C = false := by rw [hC, h0]; simp; omega
    have e2 : validF (k + 1) ((bs s).drop i) = false := by rw [ev, h0, if_pos rfl]
    rw [e2, hV, e]
    simp
theorem sgis_bad (s : ByteArray) (l : List Int) (i k : Nat) (hi : i < s.size) (hV : V (F tab) r82_B0 (r82_S0 (.d (.str s)) (.own 3 (l.map iv)) (.d (iv i)) []) = some (.ret, r82_R (.d (.sl [])) (.d (.bool false)) [])) (h0 : sizeL ((bs s).drop i) = 0) : SgIs s l i (k + 1) := by
  obtain ⟨va, vd⟩ := bs_get hi
  have ev : validF (k + 1) ((bs s).drop i) = if sizeL ((bs s).drop i) = 0 then false else validF k (((bs s).drop i).drop (sizeL ((bs s).drop i))) := by rw [vd]; rfl
  unfold SgIs
  rw [ev, h0]
  simpa using hV
theorem sgis_step (s : ByteArray) (hs : s.size ≤ 2097152) (l : List Int) (i k : Nat) (hi : i < s.size) (hl : l.length ≤ i) (ih : ∀ (c : Int) (n : Nat), 0 < n → n ≤ 4 → SgIs s (l ++ [c]) (i + n) k) : SgIs s l i (k + 1) := by
  obtain ⟨va, vd⟩ := bs_get hi
  have hlen : (s[i] :: (bs s).drop (i + 1)).length = s.size - i := by rw [← vd, List.length_drop, bs_len]
  have hx : s[i].toNat < 256 := UInt8.toNat_lt _
  have dn : ∀ n, decide (i + n ≤ s.size) = decide (n ≤ (s[i] :: (bs s).drop (i + 1)).length) := by
    intro n; rw [hlen]; apply decide_eq_decide.2; omega
  have okE : ∀ n c, okC s i n c = okL (s[i] :: (bs s).drop (i + 1)) n c := by
    intro n c; unfold okC okL; rw [vd]
  by_cases h1 : ((s[i].toNat : Nat) : Int) ≤ 127
  · obtain ⟨a1, a2⟩ := m1 s[i] ((bs s).drop (i + 1)) h1
    refine sgis_of s l i k 1 _ _ hi (by omega) (sg_1 s hs l (by omega) i hi (by omega) h1) ?_ (by rw [vd, a2]; simp) (ih _ 1 (by omega) (by omega))
    rw [vd, a2, okE, conts, cdec, a1]
    simp; omega
  by_cases h2 : ((s[i].toNat : Nat) : Int) ≤ 191
  · exact sgis_bad s l i k hi (sg_bad1 s hs l i hi (by omega) h2) (by rw [vd]; exact szc_1 _ (by rw [nb0]; omega) (by rw [nb0]; omega))
  by_cases h3 : ((s[i].toNat : Nat) : Int) ≤ 223
  · obtain ⟨a1, a2⟩ := m2 s[i] ((bs s).drop (i + 1)) (by omega) h3
    refine sgis_of s l i k 2 _ _ hi (by omega) (sg_2 s hs l (by omega) i hi (by omega) h3) ?_ (by rw [vd]; exact a2) (ih _ 2 (by omega) (by omega))
    rw [vd, okE, dn]; exact a1
  by_cases h4 : ((s[i].toNat : Nat) : Int) ≤ 239
  · obtain ⟨a1, a2⟩ := m3 s[i] ((bs s).drop (i + 1)) (by omega) h4
    refine sgis_of s l i k 3 _ _ hi (by omega) (sg_3 s hs l (by omega) i hi (by omega) h4) ?_ (by rw [vd]; exact a2) (ih _ 3 (by omega) (by omega))
    rw [vd, okE, dn]; exact a1
  by_cases h5 : ((s[i].toNat : Nat) : Int) ≤ 247
  · obtain ⟨a1, a2⟩ := m4 s[i] ((bs s).drop (i + 1)) (by omega) h5
    refine sgis_of s l i k 4 _ _ hi (by omega) (sg_4 s hs l (by omega) i hi (by omega) h5) ?_ (by rw [vd]; exact a2) (ih _ 4 (by omega) (by omega))
    rw [vd, okE, dn]; exact a1
  · exact sgis_bad s l i k hi (sg_bad2 s hs l i hi (by omega) (by omega)) (by rw [vd]; exact szc_10 _ (by rw [nb0]; omega) (by rw [nb0]; omega))
theorem sgis_all (s : ByteArray) (hs : s.size ≤ 2097152) : ∀ (k i : Nat) (l : List Int), s.size ≤ i + k → l.length ≤ i → SgIs s l i k
  | 0, i, l, h, hl => sgis_end s l i 0 (by omega)
  | k + 1, i, l, h, hl => by
    by_cases hi : s.size ≤ i
    · exact sgis_end s l i _ hi
    · exact sgis_step s hs l i k (by omega) hl fun c n h1 h2 => sgis_all s hs k (i + n) (l ++ [c]) (by omega) (by simp; omega)

theorem rsigns_bool (s : ByteArray) (hs : s.size ≤ 2097152) : ∃ x : D, ∀ hp, F tab 82 [.d (.str s)] hp = some (.ret (.tup [.d x, .d (.bool (validB s))]) hp) := by
  have hL := sgis_all s hs s.size 0 [] (by omega) (by simp)
  unfold SgIs at hL
  rw [List.drop_zero] at hL
  unfold validB
  rcases Bool.eq_false_or_eq_true (validF s.size (bs s)) with g | g
  · rw [if_pos g] at hL
    obtain ⟨l', hL⟩ := hL
    refine ⟨.sl (l'.map iv), fun hp => f82 rfl ?_⟩
    rw [g]
    simp (disch := omega) only [go_sem, and_self, and_true, true_and, false_and, and_false, Nat.reduceAdd, Nat.reduceMul, Nat.reduceSub, Nat.reduceLeDiff, Nat.reduceLT, Nat.reduceGT, Nat.reduceEqDiff, Nat.reduceBEq, Int.reduceNeg, Int.reduceEq, Int.reduceLT, Int.reduceLE, Int.reduceBEq, Int.reduceToNat, Int.toNat_natCast, Int.natCast_zero, r82_T, r82]
    rw [r82_B0_n, r82_B0_z4]
    erw [hL]
    simp (disch := omega) only [go_sem, and_self, and_true, true_and, false_and, and_false, Nat.reduceAdd, Nat.reduceMul, Nat.reduceSub, Nat.reduceLeDiff, Nat.reduceLT, Nat.reduceGT, Nat.reduceEqDiff, Nat.reduceBEq, Int.reduceNeg, Int.reduceEq, Int.reduceLT, Int.reduceLE, Int.reduceBEq, Int.reduceToNat, Int.toNat_natCast, Int.natCast_zero]
  · rw [if_neg (by simp [g])] at hL
    refine ⟨.sl [], fun hp => f82 rfl ?_⟩
    rw [g]
    simp (disch := omega) only [go_sem, and_self, and_true, true_and, false_and, and_false, Nat.reduceAdd, Nat.reduceMul, Nat.reduceSub, Nat.reduceLeDiff, Nat.reduceLT, Nat.reduceGT, Nat.reduceEqDiff, Nat.reduceBEq, Int.reduceNeg, Int.reduceEq, Int.reduceLT, Int.reduceLE, Int.reduceBEq, Int.reduceToNat, Int.toNat_natCast, Int.natCast_zero, r82_T, r82]
    rw [r82_B0_n, r82_B0_z4]
    erw [hL]
    simp (disch := omega) only [go_sem, and_self, and_true, true_and, false_and, and_false, Nat.reduceAdd, Nat.reduceMul, Nat.reduceSub, Nat.reduceLeDiff, Nat.reduceLT, Nat.reduceGT, Nat.reduceEqDiff, Nat.reduceBEq, Int.reduceNeg, Int.reduceEq, Int.reduceLT, Int.reduceLE, Int.reduceBEq, Int.reduceToNat, Int.toNat_natCast, Int.natCast_zero]
theorem rtext_ok (s : ByteArray) (hs : s.size ≤ 2097152) (hp : List Ent) : F tab 68 [.d (.str s)] hp = some (.ret (.d (.bool (validB s))) hp) := by
  obtain ⟨x, h⟩ := rsigns_bool s hs
  refine f68 rfl ?_
  simp (disch := omega) only [go_sem, and_self, and_true, true_and, false_and, and_false, Nat.reduceAdd, Nat.reduceMul, Nat.reduceSub, Nat.reduceLeDiff, Nat.reduceLT, Nat.reduceGT, Nat.reduceEqDiff, Nat.reduceBEq, Int.reduceNeg, Int.reduceEq, Int.reduceLT, Int.reduceLE, Int.reduceBEq, Int.reduceToNat, Int.toNat_natCast, Int.natCast_zero, r68_T, r68, h]
end Go.Pe.T
