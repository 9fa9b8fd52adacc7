/- A part of the proof of: Resolving a program sets nothing but places, and a main part whose variables have other names, all alike, is resolved to the same places, or leads nowhere just so. -/
import Derived.Test.YtfmcckohbjhbhaaSn3
import Derived.Test.YtfmcckohbjhbhaaPe3
set_option linter.unusedSimpArgs false
set_option linter.unusedVariables false
set_option maxRecDepth 10000

namespace Go.Pe.T

/-! ### names that are no key words -/
def keysL : List ByteArray := [⟨#[100, 101, 102]⟩, ⟨#[105, 102]⟩, ⟨#[116, 104, 101, 110]⟩, ⟨#[101, 108, 115, 101]⟩, ⟨#[101, 110, 100]⟩, ⟨#[116, 114, 121]⟩, ⟨#[99, 97, 116, 99, 104]⟩, ⟨#[114, 101, 100, 117, 99, 101]⟩, ⟨#[102, 111, 114, 101, 97, 99, 104]⟩, ⟨#[97, 115]⟩, ⟨#[108, 97, 98, 101, 108]⟩, ⟨#[98, 114, 101, 97, 107]⟩, ⟨#[97, 110, 100]⟩, ⟨#[111, 114]⟩, ⟨#[116, 114, 117, 101]⟩, ⟨#[102, 97, 108, 115, 101]⟩, ⟨#[110, 117, 108, 108]⟩, ⟨#[101, 109, 112, 116, 121]⟩, ⟨#[114, 101, 108, 101, 97, 115, 101]⟩, ⟨#[114, 97, 110, 103, 101]⟩]
def keyB (s : ByteArray) : Bool := keysL.any fun k => s.toList == k.toList
def okI (i : Nat) (c : UInt8) : Bool := letB c.toNat || (decide (i > 0) && digB c.toNat)
def runL : Nat → List UInt8 → Nat
  | _, [] => 0
  | i, c :: r => if okI i c then runL (i + 1) r + 1 else 0
theorem runL_le : ∀ (l : List UInt8) (i : Nat), runL i l ≤ l.length
  | [], i => Nat.le_refl _
  | c :: r, i => by
    have := runL_le r (i + 1)
    simp only [runL, List.length_cons]
    split <;> omega
def identB (s : ByteArray) : Bool := decide (s.size ≠ 0) && (decide (s.size ≤ 16) && (decide (runL 0 (bs s) = s.size) && !keyB s))

def WdLoop (s : ByteArray) (i : Nat) : Prop :=
  V (F tab) r59_B0 (r59_S0 (.d (.str s)) (.d (iv i)) []) = some (.norm, r59_E0 (.d (.str s)) (.d (iv (i + runL i ((bs s).drop i) : Nat))) [])
theorem wd_end (s : ByteArray) (i : Nat) (hi : s.size ≤ i) : WdLoop s i := by
  have h1 : ((i : Int) < (s.size : Int)) = False := eq_false (by omega)
  unfold WdLoop
  rw [r59_B0_eq, bs_end hi]
  simp (disch := omega) only [go_sem, and_self, and_true, true_and, false_and, and_false, Nat.reduceAdd, Nat.reduceMul, Nat.reduceSub, Nat.reduceLeDiff, Nat.reduceLT, Nat.reduceGT, Nat.reduceEqDiff, Nat.reduceBEq, Int.reduceNeg, Int.reduceEq, Int.reduceLT, Int.reduceLE, Int.reduceBEq, Int.reduceToNat, Int.toNat_natCast, Int.natCast_zero, r59_C0, h1, runL, Nat.add_zero]
theorem wd_step (s : ByteArray) (hs : s.size ≤ maxLen) (i : Nat) (hi : i < s.size) (ih : WdLoop s (i + 1)) : WdLoop s i := by
  have hmx : maxLen = 9223372036854775807 := by decide
  have h1 : ((i : Int) < (s.size : Int)) = True := eq_true (by omega)
  have hi0 : (0 ≤ (i : Int)) = True := eq_true (by omega)
  obtain ⟨va, vd⟩ := bs_get hi
  have hl := letter_ok s[i].toNat
  have hd := digit_ok s[i].toNat
  unfold WdLoop at ih ⊢
  have e1 : ((i + 1 : Nat) : Int) = (i : Int) + 1 := rfl
  have e0 : decide ((i : Int) > 0) = decide (i > 0) := by by_cases h : i = 0 <;> simp [h] <;> omega
  rw [r59_B0_eq, vd]
  simp only [runL, okI]
  rcases Bool.eq_false_or_eq_true (letB s[i].toNat) with g1 | g1
  · rw [g1] at hl
    have e2 : i + (runL (i + 1) ((bs s).drop (i + 1)) + 1) = i + 1 + runL (i + 1) ((bs s).drop (i + 1)) := by omega
    simp (disch := omega) only [go_sem, and_self, and_true, true_and, false_and, and_false, Nat.reduceAdd, Nat.reduceMul, Nat.reduceSub, Nat.reduceLeDiff, Nat.reduceLT, Nat.reduceGT, Nat.reduceEqDiff, Nat.reduceBEq, Int.reduceNeg, Int.reduceEq, Int.reduceLT, Int.reduceLE, Int.reduceBEq, Int.reduceToNat, Int.toNat_natCast, Int.natCast_zero, r59_C0, h1, hi0, va, w64, hl, g1, Bool.true_or, e2]
    rw [e1] at ih
    exact ih
  · rw [g1] at hl
    rcases Bool.eq_false_or_eq_true (decide (i > 0)) with g2 | g2
    · rcases Bool.eq_false_or_eq_true (digB s[i].toNat) with g3 | g3
      · rw [g3] at hd
        have e2 : i + (runL (i + 1) ((bs s).drop (i + 1)) + 1) = i + 1 + runL (i + 1) ((bs s).drop (i + 1)) := by omega
        simp (disch := omega) only [go_sem, and_self, and_true, true_and, false_and, and_false, Nat.reduceAdd, Nat.reduceMul, Nat.reduceSub, Nat.reduceLeDiff, Nat.reduceLT, Nat.reduceGT, Nat.reduceEqDiff, Nat.reduceBEq, Int.reduceNeg, Int.reduceEq, Int.reduceLT, Int.reduceLE, Int.reduceBEq, Int.reduceToNat, Int.toNat_natCast, Int.natCast_zero, r59_C0, h1, hi0, va, w64, hl, hd, g1, g2, g3, e0, Bool.false_or, Bool.true_and, e2]
        rw [e1] at ih
        exact ih
      · rw [g3] at hd
        simp (disch := omega) only [go_sem, and_self, and_true, true_and, false_and, and_false, Nat.reduceAdd, Nat.reduceMul, Nat.reduceSub, Nat.reduceLeDiff, Nat.reduceLT, Nat.reduceGT, Nat.reduceEqDiff, Nat.reduceBEq, Int.reduceNeg, Int.reduceEq, Int.reduceLT, Int.reduceLE, Int.reduceBEq, Int.reduceToNat, Int.toNat_natCast, Int.natCast_zero, r59_C0, h1, hi0, va, w64, hl, hd, g1, g2, g3, e0, Bool.false_or, Bool.true_and, Nat.add_zero]
    · simp (disch := omega) only [go_sem, and_self, and_true, true_and, false_and, and_false, Nat.reduceAdd, Nat.reduceMul, Nat.reduceSub, Nat.reduceLeDiff, Nat.reduceLT, Nat.reduceGT, Nat.reduceEqDiff, Nat.reduceBEq, Int.reduceNeg, Int.reduceEq, Int.reduceLT, Int.reduceLE, Int.reduceBEq, Int.reduceToNat, Int.toNat_natCast, Int.natCast_zero, r59_C0, h1, hi0, va, w64, hl, g1, g2, e0, Bool.false_or, Bool.false_and, Nat.add_zero]
theorem wd_loop (s : ByteArray) (hs : s.size ≤ maxLen) : ∀ (j i : Nat), i + j = s.size → WdLoop s i
  | 0, i, hi => wd_end s i (by omega)
  | j + 1, i, hi => wd_step s hs i (by omega) (wd_loop s hs j (i + 1) (by omega))
theorem word_ok (s : ByteArray) (hs : s.size ≤ maxLen) (hp : List Ent) : F tab 59 [.d (.str s)] hp = some (.ret (.d (.str (s.extract 0 (runL 0 (bs s))))) hp) := by
  have hL := wd_loop s hs s.size 0 (by omega)
  unfold WdLoop at hL
  rw [List.drop_zero, Nat.zero_add] at hL
  have hle := runL_le (bs s) 0
  rw [bs_len] at hle
  have h1 : ((runL 0 (bs s) : Int) ≤ (s.size : Int)) = True := eq_true (by omega)
  refine f59 rfl ?_
  simp (disch := omega) only [go_sem, and_self, and_true, true_and, false_and, and_false, Nat.reduceAdd, Nat.reduceMul, Nat.reduceSub, Nat.reduceLeDiff, Nat.reduceLT, Nat.reduceGT, Nat.reduceEqDiff, Nat.reduceBEq, Int.reduceNeg, Int.reduceEq, Int.reduceLT, Int.reduceLE, Int.reduceBEq, Int.reduceToNat, Int.toNat_natCast, Int.natCast_zero, r59_T, r59]
  rw [r59_B0_n]
  erw [hL]
  have h0 : (0 ≤ (runL 0 (bs s) : Int)) = True := eq_true (by omega)
  simp (disch := omega) only [go_sem, and_self, and_true, true_and, false_and, and_false, Nat.reduceAdd, Nat.reduceMul, Nat.reduceSub, Nat.reduceLeDiff, Nat.reduceLT, Nat.reduceGT, Nat.reduceEqDiff, Nat.reduceBEq, Int.reduceNeg, Int.reduceEq, Int.reduceLT, Int.reduceLE, Int.reduceBEq, Int.reduceToNat, Int.toNat_natCast, Int.natCast_zero, h0, h1, decide_true]
theorem bs_take (s : ByteArray) (k : Nat) : bs (s.extract 0 k) = (bs s).take k := by
  simp [bs, ByteArray.data_extract]
theorem word_eq (s : ByteArray) (k : Nat) (hk : k ≤ s.size) : ((s.extract 0 k).toList == s.toList) = decide (k = s.size) := by
  rw [bs_toList, bs_toList, bs_take]
  by_cases h : k = s.size
  · subst h
    rw [List.take_of_length_le (Nat.le_of_eq (bs_len s))]
    simp
  · have : (bs s).take k ≠ bs s := fun e => h (by have := congrArg List.length e; rw [List.length_take, bs_len] at this; omega)
    simp [h, this]

theorem key_ok (s : ByteArray) (hp : List Ent) : F tab 60 [.d (.str s)] hp = some (.ret (.d (.bool (keyB s))) hp) := by
  refine f60 rfl ?_
  simp only [keyB, keysL, List.any_cons, List.any_nil]
  rcases Bool.eq_false_or_eq_true (s.toList == (⟨#[100, 101, 102]⟩ : ByteArray).toList) with g0 | g0
  · simp only [go_sem, and_self, and_true, true_and, false_and, and_false, Nat.reduceAdd, Nat.reduceMul, Nat.reduceSub, Nat.reduceLeDiff, Nat.reduceLT, Nat.reduceGT, Nat.reduceEqDiff, Nat.reduceBEq, Int.reduceNeg, Int.reduceEq, Int.reduceLT, Int.reduceLE, Int.reduceBEq, Int.reduceToNat, Int.toNat_natCast, Int.natCast_zero, r60_T, r60, strD_eql, g0, Bool.true_or, Bool.false_or]
  rcases Bool.eq_false_or_eq_true (s.toList == (⟨#[105, 102]⟩ : ByteArray).toList) with g1 | g1
  · simp only [go_sem, and_self, and_true, true_and, false_and, and_false, Nat.reduceAdd, Nat.reduceMul, Nat.reduceSub, Nat.reduceLeDiff, Nat.reduceLT, Nat.reduceGT, Nat.reduceEqDiff, Nat.reduceBEq, Int.reduceNeg, Int.reduceEq, Int.reduceLT, Int.reduceLE, Int.reduceBEq, Int.reduceToNat, Int.toNat_natCast, Int.natCast_zero, r60_T, r60, strD_eql, g0, g1, Bool.true_or, Bool.false_or]
  rcases Bool.eq_false_or_eq_true (s.toList == (⟨#[116, 104, 101, 110]⟩ : ByteArray).toList) with g2 | g2
  · simp only [go_sem, and_self, and_true, true_and, false_and, and_false, Nat.reduceAdd, Nat.reduceMul, Nat.reduceSub, Nat.reduceLeDiff, Nat.reduceLT, Nat.reduceGT, Nat.reduceEqDiff, Nat.reduceBEq, Int.reduceNeg, Int.reduceEq, Int.reduceLT, Int.reduceLE, Int.reduceBEq, Int.reduceToNat, Int.toNat_natCast, Int.natCast_zero, r60_T, r60, strD_eql, g0, g1, g2, Bool.true_or, Bool.false_or]
  rcases Bool.eq_false_or_eq_true (s.toList == (⟨#[101, 108, 115, 101]⟩ : ByteArray).toList) with g3 | g3
  · simp only [go_sem, and_self, and_true, true_and, false_and, and_false, Nat.reduceAdd, Nat.reduceMul, Nat.reduceSub, Nat.reduceLeDiff, Nat.reduceLT, Nat.reduceGT, Nat.reduceEqDiff, Nat.reduceBEq, Int.reduceNeg, Int.reduceEq, Int.reduceLT, Int.reduceLE, Int.reduceBEq, Int.reduceToNat, Int.toNat_natCast, Int.natCast_zero, r60_T, r60, strD_eql, g0, g1, g2, g3, Bool.true_or, Bool.false_or]
  rcases Bool.eq_false_or_eq_true (s.toList == (⟨#[101, 110, 100]⟩ : ByteArray).toList) with g4 | g4
  · simp only [go_sem, and_self, and_true, true_and, false_and, and_false, Nat.reduceAdd, Nat.reduceMul, Nat.reduceSub, Nat.reduceLeDiff, Nat.reduceLT, Nat.reduceGT, Nat.reduceEqDiff, Nat.reduceBEq, Int.reduceNeg, Int.reduceEq, Int.reduceLT, Int.reduceLE, Int.reduceBEq, Int.reduceToNat, Int.toNat_natCast, Int.natCast_zero, r60_T, r60, strD_eql, g0, g1, g2, g3, g4, Bool.true_or, Bool.false_or]
  rcases Bool.eq_false_or_eq_true (s.toList == (⟨#[116, 114, 121]⟩ : ByteArray).toList) with g5 | g5
  · simp only [go_sem, and_self, and_true, true_and, false_and, and_false, Nat.reduceAdd, Nat.reduceMul, Nat.reduceSub, Nat.reduceLeDiff, Nat.reduceLT, Nat.reduceGT, Nat.reduceEqDiff, Nat.reduceBEq, Int.reduceNeg, Int.reduceEq, Int.reduceLT, Int.reduceLE, Int.reduceBEq, Int.reduceToNat, Int.toNat_natCast, Int.natCast_zero, r60_T, r60, strD_eql, g0, g1, g2, g3, g4, g5, Bool.true_or, Bool.false_or]
  rcases Bool.eq_false_or_eq_true (s.toList == (⟨#[99, 97, 116, 99, 104]⟩ : ByteArray).toList) with g6 | g6
  · simp only [go_sem, and_self, and_true, true_and, false_and, and_false, Nat.reduceAdd, Nat.reduceMul, Nat.reduceSub, Nat.reduceLeDiff, Nat.reduceLT, Nat.reduceGT, Nat.reduceEqDiff, Nat.reduceBEq, Int.reduceNeg, Int.reduceEq, Int.reduceLT, Int.reduceLE, Int.reduceBEq, Int.reduceToNat, Int.toNat_natCast, Int.natCast_zero, r60_T, r60, strD_eql, g0, g1, g2, g3, g4, g5, g6, Bool.true_or, Bool.false_or]
  rcases Bool.eq_false_or_eq_true (s.toList == (⟨#[114, 101, 100, 117, 99, 101]⟩ : ByteArray).toList) with g7 | g7
  · simp only [go_sem, and_self, and_true, true_and, false_and, and_false, Nat.reduceAdd, Nat.reduceMul, Nat.reduceSub, Nat.reduceLeDiff, Nat.reduceLT, Nat.reduceGT, Nat.reduceEqDiff, Nat.reduceBEq, Int.reduceNeg, Int.reduceEq, Int.reduceLT, Int.reduceLE, Int.reduceBEq, Int.reduceToNat, Int.toNat_natCast, Int.natCast_zero, r60_T, r60, strD_eql, g0, g1, g2, g3, g4, g5, g6, g7, Bool.true_or, Bool.false_or]
  rcases Bool.eq_false_or_eq_true (s.toList == (⟨#[102, 111, 114, 101, 97, 99, 104]⟩ : ByteArray).toList) with g8 | g8
  · simp only [go_sem, and_self, and_true, true_and, false_and, and_false, Nat.reduceAdd, Nat.reduceMul, Nat.reduceSub, Nat.reduceLeDiff, Nat.reduceLT, Nat.reduceGT, Nat.reduceEqDiff, Nat.reduceBEq, Int.reduceNeg, Int.reduceEq, Int.reduceLT, Int.reduceLE, Int.reduceBEq, Int.reduceToNat, Int.toNat_natCast, Int.natCast_zero, r60_T, r60, strD_eql, g0, g1, g2, g3, g4, g5, g6, g7, g8, Bool.true_or, Bool.false_or]
  rcases Bool.eq_false_or_eq_true (s.toList == (⟨#[97, 115]⟩ : ByteArray).toList) with g9 | g9
  · simp only [go_sem, and_self, and_true, true_and, false_and, and_false, Nat.reduceAdd, Nat.reduceMul, Nat.reduceSub, Nat.reduceLeDiff, Nat.reduceLT, Nat.reduceGT, Nat.reduceEqDiff, Nat.reduceBEq, Int.reduceNeg, Int.reduceEq, Int.reduceLT, Int.reduceLE, Int.reduceBEq, Int.reduceToNat, Int.toNat_natCast, Int.natCast_zero, r60_T, r60, strD_eql, g0, g1, g2, g3, g4, g5, g6, g7, g8, g9, Bool.true_or, Bool.false_or]
  rcases Bool.eq_false_or_eq_true (s.toList == (⟨#[108, 97, 98, 101, 108]⟩ : ByteArray).toList) with g10 | g10
  · simp only [go_sem, and_self, and_true, true_and, false_and, and_false, Nat.reduceAdd, Nat.reduceMul, Nat.reduceSub, Nat.reduceLeDiff, Nat.reduceLT, Nat.reduceGT, Nat.reduceEqDiff, Nat.reduceBEq, Int.reduceNeg, Int.reduceEq, Int.reduceLT, Int.reduceLE, Int.reduceBEq, Int.reduceToNat, Int.toNat_natCast, Int.natCast_zero, r60_T, r60, strD_eql, g0, g1, g2, g3, g4, g5, g6, g7, g8, g9, g10, Bool.true_or, Bool.false_or]
  rcases Bool.eq_false_or_eq_true (s.toList == (⟨#[98, 114, 101, 97, 107]⟩ : ByteArray).toList) with g11 | g11
  · simp only [go_sem, and_self, and_true, true_and, false_and, and_false, Nat.reduceAdd, Nat.reduceMul, Nat.reduceSub, Nat.reduceLeDiff, Nat.reduceLT, Nat.reduceGT, Nat.reduceEqDiff, Nat.reduceBEq, Int.reduceNeg, Int.reduceEq, Int.reduceLT, Int.reduceLE, Int.reduceBEq, Int.reduceToNat, Int.toNat_natCast, Int.natCast_zero, r60_T, r60, strD_eql, g0, g1, g2, g3, g4, g5, g6, g7, g8, g9, g10, g11, Bool.true_or, Bool.false_or]
  rcases Bool.eq_false_or_eq_true (s.toList == (⟨#[97, 110, 100]⟩ : ByteArray).toList) with g12 | g12
  · simp only [go_sem, and_self, and_true, true_and, false_and, and_false, Nat.reduceAdd, Nat.reduceMul, Nat.reduceSub, Nat.reduceLeDiff, Nat.reduceLT, Nat.reduceGT, Nat.reduceEqDiff, Nat.reduceBEq, Int.reduceNeg, Int.reduceEq, Int.reduceLT, Int.reduceLE, Int.reduceBEq, Int.reduceToNat, Int.toNat_natCast, Int.natCast_zero, r60_T, r60, strD_eql, g0, g1, g2, g3, g4, g5, g6, g7, g8, g9, g10, g11, g12, Bool.true_or, Bool.false_or]
  rcases Bool.eq_false_or_eq_true (s.toList == (⟨#[111, 114]⟩ : ByteArray).toList) with g13 | g13
  · simp only [go_sem, and_self, and_true, true_and, false_and, and_false, Nat.reduceAdd, Nat.reduceMul, Nat.reduceSub, Nat.reduceLeDiff, Nat.reduceLT, Nat.reduceGT, Nat.reduceEqDiff, Nat.reduceBEq, Int.reduceNeg, Int.reduceEq, Int.reduceLT, Int.reduceLE, Int.reduceBEq, Int.reduceToNat, Int.toNat_natCast, Int.natCast_zero, r60_T, r60, strD_eql, g0, g1, g2, g3, g4, g5, g6, g7, g8, g9, g10, g11, g12, g13, Bool.true_or, Bool.false_or]
  rcases Bool.eq_false_or_eq_true (s.toList == (⟨#[116, 114, 117, 101]⟩ : ByteArray).toList) with g14 | g14
  · simp only [go_sem, and_self, and_true, true_and, false_and, and_false, Nat.reduceAdd, Nat.reduceMul, Nat.reduceSub, Nat.reduceLeDiff, Nat.reduceLT, Nat.reduceGT, Nat.reduceEqDiff, Nat.reduceBEq, Int.reduceNeg, Int.reduceEq, Int.reduceLT, Int.reduceLE, Int.reduceBEq, Int.reduceToNat, Int.toNat_natCast, Int.natCast_zero, r60_T, r60, strD_eql, g0, g1, g2, g3, g4, g5, g6, g7, g8, g9, g10, g11, g12, g13, g14, Bool.true_or, Bool.false_or]
  rcases Bool.eq_false_or_eq_true (s.toList == (⟨#[102, 97, 108, 115, 101]⟩ : ByteArray).toList) with g15 | g15
  · simp only [go_sem, and_self, and_true, true_and, false_and, and_false, Nat.reduceAdd, Nat.reduceMul, Nat.reduceSub, Nat.reduceLeDiff, Nat.reduceLT, Nat.reduceGT, Nat.reduceEqDiff, Nat.reduceBEq, Int.reduceNeg, Int.reduceEq, Int.reduceLT, Int.reduceLE, Int.reduceBEq, Int.reduceToNat, Int.toNat_natCast, Int.natCast_zero, r60_T, r60, strD_eql, g0, g1, g2, g3, g4, g5, g6, g7, g8, g9, g10, g11, g12, g13, g14, g15, Bool.true_or, Bool.false_or]
  rcases Bool.eq_false_or_eq_true (s.toList == (⟨#[110, 117, 108, 108]⟩ : ByteArray).toList) with g16 | g16
  · simp only [go_sem, and_self, and_true, true_and, false_and, and_false, Nat.reduceAdd, Nat.reduceMul, Nat.reduceSub, Nat.reduceLeDiff, Nat.reduceLT, Nat.reduceGT, Nat.reduceEqDiff, Nat.reduceBEq, Int.reduceNeg, Int.reduceEq, Int.reduceLT, Int.reduceLE, Int.reduceBEq, Int.reduceToNat, Int.toNat_natCast, Int.natCast_zero, r60_T, r60, strD_eql, g0, g1, g2, g3, g4, g5, g6, g7, g8, g9, g10, g11, g12, g13, g14, g15, g16, Bool.true_or, Bool.false_or]
  rcases Bool.eq_false_or_eq_true (s.toList == (⟨#[101, 109, 112, 116, 121]⟩ : ByteArray).toList) with g17 | g17
  · simp only [go_sem, and_self, and_true, true_and, false_and, and_false, Nat.reduceAdd, Nat.reduceMul, Nat.reduceSub, Nat.reduceLeDiff, Nat.reduceLT, Nat.reduceGT, Nat.reduceEqDiff, Nat.reduceBEq, Int.reduceNeg, Int.reduceEq, Int.reduceLT, Int.reduceLE, Int.reduceBEq, Int.reduceToNat, Int.toNat_natCast, Int.natCast_zero, r60_T, r60, strD_eql, g0, g1, g2, g3, g4, g5, g6, g7, g8, g9, g10, g11, g12, g13, g14, g15, g16, g17, Bool.true_or, Bool.false_or]
  rcases Bool.eq_false_or_eq_true (s.toList == (⟨#[114, 101, 108, 101, 97, 115, 101]⟩ : ByteArray).toList) with g18 | g18
  · simp only [go_sem, and_self, and_true, true_and, false_and, and_false, Nat.reduceAdd, Nat.reduceMul, Nat.reduceSub, Nat.reduceLeDiff, Nat.reduceLT, Nat.reduceGT, Nat.reduceEqDiff, Nat.reduceBEq, Int.reduceNeg, Int.reduceEq, Int.reduceLT, Int.reduceLE, Int.reduceBEq, Int.reduceToNat, Int.toNat_natCast, Int.natCast_zero, r60_T, r60, strD_eql, g0, g1, g2, g3, g4, g5, g6, g7, g8, g9, g10, g11, g12, g13, g14, g15, g16, g17, g18, Bool.true_or, Bool.false_or]
  rcases Bool.eq_false_or_eq_true (s.toList == (⟨#[114, 97, 110, 103, 101]⟩ : ByteArray).toList) with g19 | g19
  · simp only [go_sem, and_self, and_true, true_and, false_and, and_false, Nat.reduceAdd, Nat.reduceMul, Nat.reduceSub, Nat.reduceLeDiff, Nat.reduceLT, Nat.reduceGT, Nat.reduceEqDiff, Nat.reduceBEq, Int.reduceNeg, Int.reduceEq, Int.reduceLT, Int.reduceLE, Int.reduceBEq, Int.reduceToNat, Int.toNat_natCast, Int.natCast_zero, r60_T, r60, strD_eql, g0, g1, g2, g3, g4, g5, g6, g7, g8, g9, g10, g11, g12, g13, g14, g15, g16, g17, g18, g19, Bool.true_or, Bool.false_or]
  simp only [go_sem, and_self, and_true, true_and, false_and, and_false, Nat.reduceAdd, Nat.reduceMul, Nat.reduceSub, Nat.reduceLeDiff, Nat.reduceLT, Nat.reduceGT, Nat.reduceEqDiff, Nat.reduceBEq, Int.reduceNeg, Int.reduceEq, Int.reduceLT, Int.reduceLE, Int.reduceBEq, Int.reduceToNat, Int.toNat_natCast, Int.natCast_zero, r60_T, r60, strD_eql, g0, g1, g2, g3, g4, g5, g6, g7, g8, g9, g10, g11, g12, g13, g14, g15, g16, g17, g18, g19, Bool.true_or, Bool.false_or]

theorem ident_ok (s : ByteArray) (hs : s.size ≤ maxLen) (hp : List Ent) : F tab 35 [.d (.str s)] hp = some (.ret (.d (.bool (identB s))) hp) := by
  have e := isE s
  have hw := word_ok s hs
  have hk := key_ok s
  have hle := runL_le (bs s) 0
  rw [bs_len] at hle
  have e1 := word_eq s _ hle
  have e2 : decide ((s.size : Int) ≤ 16) = decide (s.size ≤ 16) := by by_cases h : s.size ≤ 16 <;> simp [h] <;> omega
  refine f35 rfl ?_
  unfold identB
  rcases Bool.eq_false_or_eq_true (decide (s.size ≠ 0)) with g1 | g1
  · rcases Bool.eq_false_or_eq_true (decide (s.size ≤ 16)) with g2 | g2
    · rcases Bool.eq_false_or_eq_true (decide (runL 0 (bs s) = s.size)) with g3 | g3
      · simp (disch := omega) only [go_sem, and_self, and_true, true_and, false_and, and_false, Nat.reduceAdd, Nat.reduceMul, Nat.reduceSub, Nat.reduceLeDiff, Nat.reduceLT, Nat.reduceGT, Nat.reduceEqDiff, Nat.reduceBEq, Int.reduceNeg, Int.reduceEq, Int.reduceLT, Int.reduceLE, Int.reduceBEq, Int.reduceToNat, Int.toNat_natCast, Int.natCast_zero, r35_T, r35, strD_eql, strD_neq, e, e2, g1, g2, g3, hw, e1, hk, Bool.not_true, Bool.not_false, Bool.true_and]
      · simp (disch := omega) only [go_sem, and_self, and_true, true_and, false_and, and_false, Nat.reduceAdd, Nat.reduceMul, Nat.reduceSub, Nat.reduceLeDiff, Nat.reduceLT, Nat.reduceGT, Nat.reduceEqDiff, Nat.reduceBEq, Int.reduceNeg, Int.reduceEq, Int.reduceLT, Int.reduceLE, Int.reduceBEq, Int.reduceToNat, Int.toNat_natCast, Int.natCast_zero, r35_T, r35, strD_eql, strD_neq, e, e2, g1, g2, g3, hw, e1, hk, Bool.not_true, Bool.not_false, Bool.true_and, Bool.false_and]
    · simp (disch := omega) only [go_sem, and_self, and_true, true_and, false_and, and_false, Nat.reduceAdd, Nat.reduceMul, Nat.reduceSub, Nat.reduceLeDiff, Nat.reduceLT, Nat.reduceGT, Nat.reduceEqDiff, Nat.reduceBEq, Int.reduceNeg, Int.reduceEq, Int.reduceLT, Int.reduceLE, Int.reduceBEq, Int.reduceToNat, Int.toNat_natCast, Int.natCast_zero, r35_T, r35, strD_eql, strD_neq, e, e2, g1, g2, Bool.not_true, Bool.not_false, Bool.true_and, Bool.false_and]
  · simp (disch := omega) only [go_sem, and_self, and_true, true_and, false_and, and_false, Nat.reduceAdd, Nat.reduceMul, Nat.reduceSub, Nat.reduceLeDiff, Nat.reduceLT, Nat.reduceGT, Nat.reduceEqDiff, Nat.reduceBEq, Int.reduceNeg, Int.reduceEq, Int.reduceLT, Int.reduceLE, Int.reduceBEq, Int.reduceToNat, Int.toNat_natCast, Int.natCast_zero, r35_T, r35, strD_eql, strD_neq, e, e2, g1, Bool.not_true, Bool.not_false, Bool.true_and, Bool.false_and]
end Go.Pe.T

namespace Go.Pe.T

def signsL : List ByteArray := [⟨#[43]⟩, ⟨#[45]⟩, ⟨#[42]⟩, ⟨#[47]⟩, ⟨#[37]⟩, ⟨#[61, 61]⟩, ⟨#[33, 61]⟩, ⟨#[60]⟩, ⟨#[60, 61]⟩, ⟨#[62]⟩, ⟨#[62, 61]⟩, ⟨#[97, 110, 100]⟩, ⟨#[111, 114]⟩, ⟨#[47, 47]⟩]

theorem signs_ok (hp : List Ent) : F tab 109 [] hp = some (.ret (.d (.sl (signsL.map .str))) hp) := by
  refine f109 rfl ?_
  simp only [go_sem, and_self, and_true, true_and, false_and, and_false, Nat.reduceAdd, Nat.reduceMul, Nat.reduceSub, Nat.reduceLeDiff, Nat.reduceLT, Nat.reduceGT, Nat.reduceEqDiff, Nat.reduceBEq, Int.reduceNeg, Int.reduceEq, Int.reduceLT, Int.reduceLE, Int.reduceBEq, Int.reduceToNat, Int.toNat_natCast, Int.natCast_zero, r109_T, r109, signsL, List.map_cons, List.map_nil]

/-! ### may an expression be -/
/-- least, most, named, names, is there -/
def shapeV (o : Int) : Int × Int × Bool × Bool × Bool :=
  if o = 0 ∨ o = 1 ∨ o = 8 then (0, 0, false, false, true) else
  if o = 2 ∨ o = 19 then (0, 0, true, false, true) else
  if o = 3 ∨ o = 5 ∨ o = 21 then (1, 1, false, false, true) else
  if o = 4 ∨ o = 6 ∨ o = 7 ∨ o = 10 ∨ o = 15 then (2, 2, false, false, true) else
  if o = 9 then (3, 3, false, false, true) else
  if o = 11 then (0, 1, false, false, true) else
  if o = 12 then (0, 512, false, true, true) else
  if o = 13 ∨ o = 14 then (3, 3, true, false, true) else
  if o = 16 then (0, 4, true, false, true) else
  if o = 17 then (2, 2, true, false, true) else
  if o = 18 then (1, 1, true, false, true) else
  if o = 20 then (1, 1, false, true, true) else
  (0, 0, false, false, false)
def shD (r : Int × Int × Bool × Bool × Bool) : D := .agg [iv r.1, iv r.2.1, .bool r.2.2.1, .bool r.2.2.2.1]
set_option maxHeartbeats 4000000 in
theorem shape_ok (o : Int) (hp : List Ent) : F tab 86 [.d (iv o)] hp = some (.ret (.tup [.d (shD (shapeV o)), .d (.bool (shapeV o).2.2.2.2)]) hp) := by
  refine f86 rfl ?_
  by_cases x0 : o = 0
  · have e : shapeV o = (0, 0, false, false, true) := by subst x0; rfl
    rw [e]
    simp only [go_sem, and_self, and_true, true_and, false_and, and_false, Nat.reduceAdd, Nat.reduceMul, Nat.reduceSub, Nat.reduceLeDiff, Nat.reduceLT, Nat.reduceGT, Nat.reduceEqDiff, Nat.reduceBEq, Int.reduceNeg, Int.reduceEq, Int.reduceLT, Int.reduceLE, Int.reduceBEq, Int.reduceToNat, Int.toNat_natCast, Int.natCast_zero, r86_T, r86, shD, x0]
  have g0 : (o == 0) = false := by simpa using x0
  by_cases x1 : o = 1
  · have e : shapeV o = (0, 0, false, false, true) := by subst x1; rfl
    rw [e]
    simp only [go_sem, and_self, and_true, true_and, false_and, and_false, Nat.reduceAdd, Nat.reduceMul, Nat.reduceSub, Nat.reduceLeDiff, Nat.reduceLT, Nat.reduceGT, Nat.reduceEqDiff, Nat.reduceBEq, Int.reduceNeg, Int.reduceEq, Int.reduceLT, Int.reduceLE, Int.reduceBEq, Int.reduceToNat, Int.toNat_natCast, Int.natCast_zero, r86_T, r86, shD, x1]
  have g1 : (o == 1) = false := by simpa using x1
  by_cases x8 : o = 8
  · have e : shapeV o = (0, 0, false, false, true) := by subst x8; rfl
    rw [e]
    simp only [go_sem, and_self, and_true, true_and, false_and, and_false, Nat.reduceAdd, Nat.reduceMul, Nat.reduceSub, Nat.reduceLeDiff, Nat.reduceLT, Nat.reduceGT, Nat.reduceEqDiff, Nat.reduceBEq, Int.reduceNeg, Int.reduceEq, Int.reduceLT, Int.reduceLE, Int.reduceBEq, Int.reduceToNat, Int.toNat_natCast, Int.natCast_zero, r86_T, r86, shD, x8]
  have g8 : (o == 8) = false := by simpa using x8
  by_cases x2 : o = 2
  · have e : shapeV o = (0, 0, true, false, true) := by subst x2; rfl
    rw [e]
    simp only [go_sem, and_self, and_true, true_and, false_and, and_false, Nat.reduceAdd, Nat.reduceMul, Nat.reduceSub, Nat.reduceLeDiff, Nat.reduceLT, Nat.reduceGT, Nat.reduceEqDiff, Nat.reduceBEq, Int.reduceNeg, Int.reduceEq, Int.reduceLT, Int.reduceLE, Int.reduceBEq, Int.reduceToNat, Int.toNat_natCast, Int.natCast_zero, r86_T, r86, shD, x2]
  have g2 : (o == 2) = false := by simpa using x2
  by_cases x19 : o = 19
  · have e : shapeV o = (0, 0, true, false, true) := by subst x19; rfl
    rw [e]
    simp only [go_sem, and_self, and_true, true_and, false_and, and_false, Nat.reduceAdd, Nat.reduceMul, Nat.reduceSub, Nat.reduceLeDiff, Nat.reduceLT, Nat.reduceGT, Nat.reduceEqDiff, Nat.reduceBEq, Int.reduceNeg, Int.reduceEq, Int.reduceLT, Int.reduceLE, Int.reduceBEq, Int.reduceToNat, Int.toNat_natCast, Int.natCast_zero, r86_T, r86, shD, x19]
  have g19 : (o == 19) = false := by simpa using x19
  by_cases x3 : o = 3
  · have e : shapeV o = (1, 1, false, false, true) := by subst x3; rfl
    rw [e]
    simp only [go_sem, and_self, and_true, true_and, false_and, and_false, Nat.reduceAdd, Nat.reduceMul, Nat.reduceSub, Nat.reduceLeDiff, Nat.reduceLT, Nat.reduceGT, Nat.reduceEqDiff, Nat.reduceBEq, Int.reduceNeg, Int.reduceEq, Int.reduceLT, Int.reduceLE, Int.reduceBEq, Int.reduceToNat, Int.toNat_natCast, Int.natCast_zero, r86_T, r86, shD, x3]
  have g3 : (o == 3) = false := by simpa using x3
  by_cases x5 : o = 5
  · have e : shapeV o = (1, 1, false, false, true) := by subst x5; rfl
    rw [e]
    simp only [go_sem, and_self, and_true, true_and, false_and, and_false, Nat.reduceAdd, Nat.reduceMul, Nat.reduceSub, Nat.reduceLeDiff, Nat.reduceLT, Nat.reduceGT, Nat.reduceEqDiff, Nat.reduceBEq, Int.reduceNeg, Int.reduceEq, Int.reduceLT, Int.reduceLE, Int.reduceBEq, Int.reduceToNat, Int.toNat_natCast, Int.natCast_zero, r86_T, r86, shD, x5]
  have g5 : (o == 5) = false := by simpa using x5
  by_cases x21 : o = 21
  · have e : shapeV o = (1, 1, false, false, true) := by subst x21; rfl
    rw [e]
    simp only [go_sem, and_self, and_true, true_and, false_and, and_false, Nat.reduceAdd, Nat.reduceMul, Nat.reduceSub, Nat.reduceLeDiff, Nat.reduceLT, Nat.reduceGT, Nat.reduceEqDiff, Nat.reduceBEq, Int.reduceNeg, Int.reduceEq, Int.reduceLT, Int.reduceLE, Int.reduceBEq, Int.reduceToNat, Int.toNat_natCast, Int.natCast_zero, r86_T, r86, shD, x21]
  have g21 : (o == 21) = false := by simpa using x21
  by_cases x4 : o = 4
  · have e : shapeV o = (2, 2, false, false, true) := by subst x4; rfl
    rw [e]
    simp only [go_sem, and_self, and_true, true_and, false_and, and_false, Nat.reduceAdd, Nat.reduceMul, Nat.reduceSub, Nat.reduceLeDiff, Nat.reduceLT, Nat.reduceGT, Nat.reduceEqDiff, Nat.reduceBEq, Int.reduceNeg, Int.reduceEq, Int.reduceLT, Int.reduceLE, Int.reduceBEq, Int.reduceToNat, Int.toNat_natCast, Int.natCast_zero, r86_T, r86, shD, x4]
  have g4 : (o == 4) = false := by simpa using x4
  by_cases x6 : o = 6
  · have e : shapeV o = (2, 2, false, false, true) := by subst x6; rfl
    rw [e]
    simp only [go_sem, and_self, and_true, true_and, false_and, and_false, Nat.reduceAdd, Nat.reduceMul, Nat.reduceSub, Nat.reduceLeDiff, Nat.reduceLT, Nat.reduceGT, Nat.reduceEqDiff, Nat.reduceBEq, Int.reduceNeg, Int.reduceEq, Int.reduceLT, Int.reduceLE, Int.reduceBEq, Int.reduceToNat, Int.toNat_natCast, Int.natCast_zero, r86_T, r86, shD, x6]
  have g6 : (o == 6) = false := by simpa using x6
  by_cases x7 : o = 7
  · have e : shapeV o = (2, 2, false, false, true) := by subst x7; rfl
    rw [e]
    simp only [go_sem, and_self, and_true, true_and, false_and, and_false, Nat.reduceAdd, Nat.reduceMul, Nat.reduceSub, Nat.reduceLeDiff, Nat.reduceLT, Nat.reduceGT, Nat.reduceEqDiff, Nat.reduceBEq, Int.reduceNeg, Int.reduceEq, Int.reduceLT, Int.reduceLE, Int.reduceBEq, Int.reduceToNat, Int.toNat_natCast, Int.natCast_zero, r86_T, r86, shD, x7]
  have g7 : (o == 7) = false := by simpa using x7
  by_cases x10 : o = 10
  · have e : shapeV o = (2, 2, false, false, true) := by subst x10; rfl
    rw [e]
    simp only [go_sem, and_self, and_true, true_and, false_and, and_false, Nat.reduceAdd, Nat.reduceMul, Nat.reduceSub, Nat.reduceLeDiff, Nat.reduceLT, Nat.reduceGT, Nat.reduceEqDiff, Nat.reduceBEq, Int.reduceNeg, Int.reduceEq, Int.reduceLT, Int.reduceLE, Int.reduceBEq, Int.reduceToNat, Int.toNat_natCast, Int.natCast_zero, r86_T, r86, shD, x10]
  have g10 : (o == 10) = false := by simpa using x10
  by_cases x15 : o = 15
  · have e : shapeV o = (2, 2, false, false, true) := by subst x15; rfl
    rw [e]
    simp only [go_sem, and_self, and_true, true_and, false_and, and_false, Nat.reduceAdd, Nat.reduceMul, Nat.reduceSub, Nat.reduceLeDiff, Nat.reduceLT, Nat.reduceGT, Nat.reduceEqDiff, Nat.reduceBEq, Int.reduceNeg, Int.reduceEq, Int.reduceLT, Int.reduceLE, Int.reduceBEq, Int.reduceToNat, Int.toNat_natCast, Int.natCast_zero, r86_T, r86, shD, x15]
  have g15 : (o == 15) = false := by simpa using x15
  by_cases x9 : o = 9
  · have e : shapeV o = (3, 3, false, false, true) := by subst x9; rfl
    rw [e]
    simp only [go_sem, and_self, and_true, true_and, false_and, and_false, Nat.reduceAdd, Nat.reduceMul, Nat.reduceSub, Nat.reduceLeDiff, Nat.reduceLT, Nat.reduceGT, Nat.reduceEqDiff, Nat.reduceBEq, Int.reduceNeg, Int.reduceEq, Int.reduceLT, Int.reduceLE, Int.reduceBEq, Int.reduceToNat, Int.toNat_natCast, Int.natCast_zero, r86_T, r86, shD, x9]
  have g9 : (o == 9) = false := by simpa using x9
  by_cases x11 : o = 11
  · have e : shapeV o = (0, 1, false, false, true) := by subst x11; rfl
    rw [e]
    simp only [go_sem, and_self, and_true, true_and, false_and, and_false, Nat.reduceAdd, Nat.reduceMul, Nat.reduceSub, Nat.reduceLeDiff, Nat.reduceLT, Nat.reduceGT, Nat.reduceEqDiff, Nat.reduceBEq, Int.reduceNeg, Int.reduceEq, Int.reduceLT, Int.reduceLE, Int.reduceBEq, Int.reduceToNat, Int.toNat_natCast, Int.natCast_zero, r86_T, r86, shD, x11]
  have g11 : (o == 11) = false := by simpa using x11
  by_cases x12 : o = 12
  · have e : shapeV o = (0, 512, false, true, true) := by subst x12; rfl
    rw [e]
    simp only [go_sem, and_self, and_true, true_and, false_and, and_false, Nat.reduceAdd, Nat.reduceMul, Nat.reduceSub, Nat.reduceLeDiff, Nat.reduceLT, Nat.reduceGT, Nat.reduceEqDiff, Nat.reduceBEq, Int.reduceNeg, Int.reduceEq, Int.reduceLT, Int.reduceLE, Int.reduceBEq, Int.reduceToNat, Int.toNat_natCast, Int.natCast_zero, r86_T, r86, shD, x12]
  have g12 : (o == 12) = false := by simpa using x12
  by_cases x13 : o = 13
  · have e : shapeV o = (3, 3, true, false, true) := by subst x13; rfl
    rw [e]
    simp only [go_sem, and_self, and_true, true_and, false_and, and_false, Nat.reduceAdd, Nat.reduceMul, Nat.reduceSub, Nat.reduceLeDiff, Nat.reduceLT, Nat.reduceGT, Nat.reduceEqDiff, Nat.reduceBEq, Int.reduceNeg, Int.reduceEq, Int.reduceLT, Int.reduceLE, Int.reduceBEq, Int.reduceToNat, Int.toNat_natCast, Int.natCast_zero, r86_T, r86, shD, x13]
  have g13 : (o == 13) = false := by simpa using x13
  by_cases x14 : o = 14
  · have e : shapeV o = (3, 3, true, false, true) := by subst x14; rfl
    rw [e]
    simp only [go_sem, and_self, and_true, true_and, false_and, and_false, Nat.reduceAdd, Nat.reduceMul, Nat.reduceSub, Nat.reduceLeDiff, Nat.reduceLT, Nat.reduceGT, Nat.reduceEqDiff, Nat.reduceBEq, Int.reduceNeg, Int.reduceEq, Int.reduceLT, Int.reduceLE, Int.reduceBEq, Int.reduceToNat, Int.toNat_natCast, Int.natCast_zero, r86_T, r86, shD, x14]
  have g14 : (o == 14) = false := by simpa using x14
  by_cases x16 : o = 16
  · have e : shapeV o = (0, 4, true, false, true) := by subst x16; rfl
    rw [e]
    simp only [go_sem, and_self, and_true, true_and, false_and, and_false, Nat.reduceAdd, Nat.reduceMul, Nat.reduceSub, Nat.reduceLeDiff, Nat.reduceLT, Nat.reduceGT, Nat.reduceEqDiff, Nat.reduceBEq, Int.reduceNeg, Int.reduceEq, Int.reduceLT, Int.reduceLE, Int.reduceBEq, Int.reduceToNat, Int.toNat_natCast, Int.natCast_zero, r86_T, r86, shD, x16]
  have g16 : (o == 16) = false := by simpa using x16
  by_cases x17 : o = 17
  · have e : shapeV o = (2, 2, true, false, true) := by subst x17; rfl
    rw [e]
    simp only [go_sem, and_self, and_true, true_and, false_and, and_false, Nat.reduceAdd, Nat.reduceMul, Nat.reduceSub, Nat.reduceLeDiff, Nat.reduceLT, Nat.reduceGT, Nat.reduceEqDiff, Nat.reduceBEq, Int.reduceNeg, Int.reduceEq, Int.reduceLT, Int.reduceLE, Int.reduceBEq, Int.reduceToNat, Int.toNat_natCast, Int.natCast_zero, r86_T, r86, shD, x17]
  have g17 : (o == 17) = false := by simpa using x17
  by_cases x18 : o = 18
  · have e : shapeV o = (1, 1, true, false, true) := by subst x18; rfl
    rw [e]
    simp only [go_sem, and_self, and_true, true_and, false_and, and_false, Nat.reduceAdd, Nat.reduceMul, Nat.reduceSub, Nat.reduceLeDiff, Nat.reduceLT, Nat.reduceGT, Nat.reduceEqDiff, Nat.reduceBEq, Int.reduceNeg, Int.reduceEq, Int.reduceLT, Int.reduceLE, Int.reduceBEq, Int.reduceToNat, Int.toNat_natCast, Int.natCast_zero, r86_T, r86, shD, x18]
  have g18 : (o == 18) = false := by simpa using x18
  by_cases x20 : o = 20
  · have e : shapeV o = (1, 1, false, true, true) := by subst x20; rfl
    rw [e]
    simp only [go_sem, and_self, and_true, true_and, false_and, and_false, Nat.reduceAdd, Nat.reduceMul, Nat.reduceSub, Nat.reduceLeDiff, Nat.reduceLT, Nat.reduceGT, Nat.reduceEqDiff, Nat.reduceBEq, Int.reduceNeg, Int.reduceEq, Int.reduceLT, Int.reduceLE, Int.reduceBEq, Int.reduceToNat, Int.toNat_natCast, Int.natCast_zero, r86_T, r86, shD, x20]
  have g20 : (o == 20) = false := by simpa using x20
  have e : shapeV o = (0, 0, false, false, false) := by unfold shapeV; simp only [x0, x1, x8, x2, x19, x3, x5, x21, x4, x6, x7, x10, x15, x9, x11, x12, x13, x14, x16, x17, x18, x20, or_self, if_false]
  rw [e]
  simp only [go_sem, and_self, and_true, true_and, false_and, and_false, Nat.reduceAdd, Nat.reduceMul, Nat.reduceSub, Nat.reduceLeDiff, Nat.reduceLT, Nat.reduceGT, Nat.reduceEqDiff, Nat.reduceBEq, Int.reduceNeg, Int.reduceEq, Int.reduceLT, Int.reduceLE, Int.reduceBEq, Int.reduceToNat, Int.toNat_natCast, Int.natCast_zero, r86_T, r86, shD, g0, g1, g8, g2, g19, g3, g5, g21, g4, g6, g7, g10, g15, g9, g11, g12, g13, g14, g16, g17, g18, g20]

def litV (t : ByteArray) (k c s : Int) : Bool :=
  if k = 0 ∨ k = 1 ∨ k = 2 then (c == 0 && s == 0) && !decide (t.size ≠ 0)
  else if k = 3 then numIs c s && !decide (t.size ≠ 0)
  else if k = 4 then (c == 0 && s == 0) && validB t else false
theorem lit_ok (o : Int) (t : ByteArray) (p k c s : Int) (ns xs : D) (ht : t.size ≤ maxLen) (hp : List Ent) : F tab 106 [.d (.agg [iv o, .str t, iv p, iv k, iv c, iv s, ns, xs])] hp = some (.ret (.d (.bool (litV t k c s))) hp) := by
  have e := isE t
  have hv := valid_ok t ht
  have hn := numIs_ok c s
  refine f106 rfl ?_
  unfold litV
  have low : ∀ k0, k = k0 → (k0 = 0 ∨ k0 = 1 ∨ k0 = 2) → (k = 0 ∨ k = 1 ∨ k = 2) := fun k0 h h2 => h ▸ h2
  by_cases k0 : k = 0
  · rw [if_pos (low 0 k0 (by omega))]
    rcases Bool.eq_false_or_eq_true (c == 0 && s == 0) with g | g <;>
      simp only [go_sem, and_self, and_true, true_and, false_and, and_false, Nat.reduceAdd, Nat.reduceMul, Nat.reduceSub, Nat.reduceLeDiff, Nat.reduceLT, Nat.reduceGT, Nat.reduceEqDiff, Nat.reduceBEq, Int.reduceNeg, Int.reduceEq, Int.reduceLT, Int.reduceLE, Int.reduceBEq, Int.reduceToNat, Int.toNat_natCast, Int.natCast_zero, r106_T, r106, k0, eqD_num, strD_eql, e, g, Bool.true_and, Bool.false_and]
  have q0 : (k == 0) = false := by simpa using k0
  by_cases k1 : k = 1
  · rw [if_pos (low 1 k1 (by omega))]
    rcases Bool.eq_false_or_eq_true (c == 0 && s == 0) with g | g <;>
      simp only [go_sem, and_self, and_true, true_and, false_and, and_false, Nat.reduceAdd, Nat.reduceMul, Nat.reduceSub, Nat.reduceLeDiff, Nat.reduceLT, Nat.reduceGT, Nat.reduceEqDiff, Nat.reduceBEq, Int.reduceNeg, Int.reduceEq, Int.reduceLT, Int.reduceLE, Int.reduceBEq, Int.reduceToNat, Int.toNat_natCast, Int.natCast_zero, r106_T, r106, k1, eqD_num, strD_eql, e, g, Bool.true_and, Bool.false_and]
  have q1 : (k == 1) = false := by simpa using k1
  by_cases k2 : k = 2
  · rw [if_pos (low 2 k2 (by omega))]
    rcases Bool.eq_false_or_eq_true (c == 0 && s == 0) with g | g <;>
      simp only [go_sem, and_self, and_true, true_and, false_and, and_false, Nat.reduceAdd, Nat.reduceMul, Nat.reduceSub, Nat.reduceLeDiff, Nat.reduceLT, Nat.reduceGT, Nat.reduceEqDiff, Nat.reduceBEq, Int.reduceNeg, Int.reduceEq, Int.reduceLT, Int.reduceLE, Int.reduceBEq, Int.reduceToNat, Int.toNat_natCast, Int.natCast_zero, r106_T, r106, k2, eqD_num, strD_eql, e, g, Bool.true_and, Bool.false_and]
  have q2 : (k == 2) = false := by simpa using k2
  have kn : ¬ (k = 0 ∨ k = 1 ∨ k = 2) := by omega
  rw [if_neg kn]
  by_cases k3 : k = 3
  · rw [if_pos k3]
    rcases Bool.eq_false_or_eq_true (numIs c s) with g | g <;>
      simp only [go_sem, and_self, and_true, true_and, false_and, and_false, Nat.reduceAdd, Nat.reduceMul, Nat.reduceSub, Nat.reduceLeDiff, Nat.reduceLT, Nat.reduceGT, Nat.reduceEqDiff, Nat.reduceBEq, Int.reduceNeg, Int.reduceEq, Int.reduceLT, Int.reduceLE, Int.reduceBEq, Int.reduceToNat, Int.toNat_natCast, Int.natCast_zero, r106_T, r106, k3, hn, strD_eql, e, g, Bool.true_and, Bool.false_and]
  have q3 : (k == 3) = false := by simpa using k3
  rw [if_neg k3]
  by_cases k4 : k = 4
  · rw [if_pos k4]
    rcases Bool.eq_false_or_eq_true (c == 0 && s == 0) with g | g <;>
      simp only [go_sem, and_self, and_true, true_and, false_and, and_false, Nat.reduceAdd, Nat.reduceMul, Nat.reduceSub, Nat.reduceLeDiff, Nat.reduceLT, Nat.reduceGT, Nat.reduceEqDiff, Nat.reduceBEq, Int.reduceNeg, Int.reduceEq, Int.reduceLT, Int.reduceLE, Int.reduceBEq, Int.reduceToNat, Int.toNat_natCast, Int.natCast_zero, r106_T, r106, k4, eqD_num, hv, g, Bool.true_and, Bool.false_and]
  have q4 : (k == 4) = false := by simpa using k4
  rw [if_neg k4]
  simp only [go_sem, and_self, and_true, true_and, false_and, and_false, Nat.reduceAdd, Nat.reduceMul, Nat.reduceSub, Nat.reduceLeDiff, Nat.reduceLT, Nat.reduceGT, Nat.reduceEqDiff, Nat.reduceBEq, Int.reduceNeg, Int.reduceEq, Int.reduceLT, Int.reduceLE, Int.reduceBEq, Int.reduceToNat, Int.toNat_natCast, Int.natCast_zero, r106_T, r106, q0, q1, q2, q3, q4]

def textV (o : Int) (t : ByteArray) (k c s : Int) (nm : Bool) : Bool :=
  if o = 1 then litV t k c s
  else if (!(c == 0 && s == 0) || k != 0) = true then false
  else if nm = true then identB t
  else if o = 3 then validB t
  else if o = 10 then hasB signsL t
  else !decide (t.size ≠ 0)
theorem text_ok (o : Int) (t : ByteArray) (p k c s : Int) (ns xs : D) (ht : t.size ≤ maxLen) (l m : Int) (nm nn : Bool) (hp : List Ent) : F tab 87 [.d (.agg [iv o, .str t, iv p, iv k, iv c, iv s, ns, xs]), .d (.agg [iv l, iv m, .bool nm, .bool nn])] hp = some (.ret (.d (.bool (textV o t k c s nm))) hp) := by
  have e := isE t
  have hv := valid_ok t ht
  have hi := ident_ok t ht
  have hl := lit_ok o t p k c s ns xs ht
  have hsg := signs_ok
  have hc := con_ok signsL t (by decide)
  refine f87 rfl ?_
  unfold textV
  by_cases o1 : o = 1
  · subst o1
    rw [if_pos rfl]
    simp only [go_sem, and_self, and_true, true_and, false_and, and_false, Nat.reduceAdd, Nat.reduceMul, Nat.reduceSub, Nat.reduceLeDiff, Nat.reduceLT, Nat.reduceGT, Nat.reduceEqDiff, Nat.reduceBEq, Int.reduceNeg, Int.reduceEq, Int.reduceLT, Int.reduceLE, Int.reduceBEq, Int.reduceToNat, Int.toNat_natCast, Int.natCast_zero, r87_T, r87, hl]
  have q1 : (o == 1) = false := by simpa using o1
  rw [if_neg o1]
  rcases Bool.eq_false_or_eq_true (c == 0 && s == 0) with g1 | g1
  rotate_left
  · simp only [go_sem, and_self, and_true, true_and, false_and, and_false, Nat.reduceAdd, Nat.reduceMul, Nat.reduceSub, Nat.reduceLeDiff, Nat.reduceLT, Nat.reduceGT, Nat.reduceEqDiff, Nat.reduceBEq, Int.reduceNeg, Int.reduceEq, Int.reduceLT, Int.reduceLE, Int.reduceBEq, Int.reduceToNat, Int.toNat_natCast, Int.natCast_zero, r87_T, r87, q1, eqD_num, g1, Bool.not_false, Bool.true_or]
  rcases Bool.eq_false_or_eq_true (k != 0) with g2 | g2
  · simp only [go_sem, and_self, and_true, true_and, false_and, and_false, Nat.reduceAdd, Nat.reduceMul, Nat.reduceSub, Nat.reduceLeDiff, Nat.reduceLT, Nat.reduceGT, Nat.reduceEqDiff, Nat.reduceBEq, Int.reduceNeg, Int.reduceEq, Int.reduceLT, Int.reduceLE, Int.reduceBEq, Int.reduceToNat, Int.toNat_natCast, Int.natCast_zero, r87_T, r87, q1, eqD_num, g1, g2, Bool.not_true, Bool.false_or]
  simp only [g1, g2, Bool.not_true, Bool.or_self, Bool.false_eq_true, if_false]
  cases nm
  rotate_left
  · simp only [go_sem, and_self, and_true, true_and, false_and, and_false, Nat.reduceAdd, Nat.reduceMul, Nat.reduceSub, Nat.reduceLeDiff, Nat.reduceLT, Nat.reduceGT, Nat.reduceEqDiff, Nat.reduceBEq, Int.reduceNeg, Int.reduceEq, Int.reduceLT, Int.reduceLE, Int.reduceBEq, Int.reduceToNat, Int.toNat_natCast, Int.natCast_zero, r87_T, r87, q1, eqD_num, g1, g2, Bool.not_true, Bool.false_or, hi]
  simp only [Bool.false_eq_true, if_false]
  by_cases o3 : o = 3
  · subst o3
    rw [if_pos rfl]
    simp only [go_sem, and_self, and_true, true_and, false_and, and_false, Nat.reduceAdd, Nat.reduceMul, Nat.reduceSub, Nat.reduceLeDiff, Nat.reduceLT, Nat.reduceGT, Nat.reduceEqDiff, Nat.reduceBEq, Int.reduceNeg, Int.reduceEq, Int.reduceLT, Int.reduceLE, Int.reduceBEq, Int.reduceToNat, Int.toNat_natCast, Int.natCast_zero, r87_T, r87, eqD_num, g1, g2, Bool.not_true, Bool.false_or, hv]
  have q3 : (o == 3) = false := by simpa using o3
  rw [if_neg o3]
  by_cases o10 : o = 10
  · subst o10
    rw [if_pos rfl]
    simp only [go_sem, and_self, and_true, true_and, false_and, and_false, Nat.reduceAdd, Nat.reduceMul, Nat.reduceSub, Nat.reduceLeDiff, Nat.reduceLT, Nat.reduceGT, Nat.reduceEqDiff, Nat.reduceBEq, Int.reduceNeg, Int.reduceEq, Int.reduceLT, Int.reduceLE, Int.reduceBEq, Int.reduceToNat, Int.toNat_natCast, Int.natCast_zero, r87_T, r87, eqD_num, g1, g2, Bool.not_true, Bool.false_or, hsg, hc]
  have q10 : (o == 10) = false := by simpa using o10
  rw [if_neg o10]
  simp only [go_sem, and_self, and_true, true_and, false_and, and_false, Nat.reduceAdd, Nat.reduceMul, Nat.reduceSub, Nat.reduceLeDiff, Nat.reduceLT, Nat.reduceGT, Nat.reduceEqDiff, Nat.reduceBEq, Int.reduceNeg, Int.reduceEq, Int.reduceLT, Int.reduceLE, Int.reduceBEq, Int.reduceToNat, Int.toNat_natCast, Int.natCast_zero, r87_T, r87, q1, q3, q10, eqD_num, g1, g2, Bool.not_true, Bool.false_or, strD_eql, e]
end Go.Pe.T

namespace Go.Pe.T

/-! ### names; Is -/
theorem strs_w (a : List ByteArray) : ((a.map D.str).all fun y => y.width == 1) = true := by
  simp [List.all_eq_true, D.width, D.cells]
theorem cut0 (xs : List D) (i : Nat) : cutD xs 0 (i : Int) = xs.take i := by
  simp [cutD]
def unF : List ByteArray → List ByteArray → Bool
  | _, [] => true
  | pre, x :: r => (validB x && !hasB pre x) && unF (pre ++ [x]) r

def UnLoop (l : List ByteArray) (i : Nat) : Prop :=
  V (F tab) r110_B0 (r110_S0 (.d (.sl (l.map .str))) (.d (.sl (l.map .str))) (.d (iv l.length)) (.d (iv i)) []) = if unF (l.take i) (l.drop i) then some (.norm, r110_E0 []) else some (.ret, r110_R (.d (.bool false)) [])
theorem un_end (l : List ByteArray) (i : Nat) (hi : l.length ≤ i) : UnLoop l i := by
  have h1 : ((i : Int) < (l.length : Int)) = False := eq_false (by omega)
  unfold UnLoop
  rw [r110_B0_eq, List.drop_of_length_le hi]
  simp (disch := omega) only [go_sem, and_self, and_true, true_and, false_and, and_false, Nat.reduceAdd, Nat.reduceMul, Nat.reduceSub, Nat.reduceLeDiff, Nat.reduceLT, Nat.reduceGT, Nat.reduceEqDiff, Nat.reduceBEq, Int.reduceNeg, Int.reduceEq, Int.reduceLT, Int.reduceLE, Int.reduceBEq, Int.reduceToNat, Int.toNat_natCast, Int.natCast_zero, r110_C0, h1, unF]
theorem un_step (l : List ByteArray) (i : Nat) (hi : i < l.length) (hl : l.length ≤ maxLen) (hs : ∀ x ∈ l, x.size ≤ maxLen) (ih : UnLoop l (i + 1)) : UnLoop l i := by
  have hmx : maxLen = 9223372036854775807 := by decide
  have h1 : ((i : Int) < (l.length : Int)) = True := eq_true (by omega)
  have hi0 : (0 ≤ (i : Int)) = True := eq_true (by omega)
  have hil : ((i : Int) ≤ (l.length : Int)) = True := eq_true (by omega)
  have va : (l.map D.str)[i]? = some (.str l[i]) := by simp [hi]
  have hv := valid_ok l[i] (hs _ (List.getElem_mem hi))
  have hc := con_ok (l.take i) l[i] (by rw [List.length_take]; omega)
  rw [List.map_take] at hc
  unfold UnLoop at ih ⊢
  rw [Int.natCast_add, Int.natCast_one] at ih
  rw [r110_B0_eq, List.drop_eq_getElem_cons hi]
  simp only [unF, List.take_append_getElem]
  rcases Bool.eq_false_or_eq_true (validB l[i]) with g1 | g1
  · rcases Bool.eq_false_or_eq_true (hasB (l.take i) l[i]) with g2 | g2
    · simp (disch := omega) only [go_sem, and_self, and_true, true_and, false_and, and_false, Nat.reduceAdd, Nat.reduceMul, Nat.reduceSub, Nat.reduceLeDiff, Nat.reduceLT, Nat.reduceGT, Nat.reduceEqDiff, Nat.reduceBEq, Int.reduceNeg, Int.reduceEq, Int.reduceLT, Int.reduceLE, Int.reduceBEq, Int.reduceToNat, Int.toNat_natCast, Int.natCast_zero, r110_C0, h1, hi0, hil, va, List.length_map, w64, hv, hc, g1, g2, strs_w, cut0, decide_true, Bool.not_true, Bool.not_false, Bool.true_and, Bool.and_false, Bool.false_and, List.drop_zero, Nat.sub_zero]
    · simp (disch := omega) only [go_sem, and_self, and_true, true_and, false_and, and_false, Nat.reduceAdd, Nat.reduceMul, Nat.reduceSub, Nat.reduceLeDiff, Nat.reduceLT, Nat.reduceGT, Nat.reduceEqDiff, Nat.reduceBEq, Int.reduceNeg, Int.reduceEq, Int.reduceLT, Int.reduceLE, Int.reduceBEq, Int.reduceToNat, Int.toNat_natCast, Int.natCast_zero, r110_C0, h1, hi0, hil, va, List.length_map, w64, hv, hc, g1, g2, strs_w, cut0, decide_true, Bool.not_true, Bool.not_false, Bool.true_and, Bool.and_false, Bool.false_and, List.drop_zero, Nat.sub_zero]
      exact ih
  · simp (disch := omega) only [go_sem, and_self, and_true, true_and, false_and, and_false, Nat.reduceAdd, Nat.reduceMul, Nat.reduceSub, Nat.reduceLeDiff, Nat.reduceLT, Nat.reduceGT, Nat.reduceEqDiff, Nat.reduceBEq, Int.reduceNeg, Int.reduceEq, Int.reduceLT, Int.reduceLE, Int.reduceBEq, Int.reduceToNat, Int.toNat_natCast, Int.natCast_zero, r110_C0, h1, hi0, hil, va, List.length_map, w64, hv, g1, decide_true, Bool.not_true, Bool.not_false, Bool.true_and, Bool.and_false, Bool.false_and]
theorem un_loop (l : List ByteArray) (hl : l.length ≤ maxLen) (hs : ∀ x ∈ l, x.size ≤ maxLen) : ∀ (j i : Nat), i + j = l.length → UnLoop l i
  | 0, i, hi => un_end l i (by omega)
  | j + 1, i, hi => un_step l i (by omega) hl hs (un_loop l hl hs j (i + 1) (by omega))
theorem unlike_ok (l : List ByteArray) (hl : l.length ≤ maxLen) (hs : ∀ x ∈ l, x.size ≤ maxLen) (hp : List Ent) : F tab 110 [.d (.sl (l.map .str))] hp = some (.ret (.d (.bool (unF [] l))) hp) := by
  have hL := un_loop l hl hs l.length 0 (by omega)
  unfold UnLoop at hL
  rw [List.drop_zero, List.take_zero] at hL
  refine f110 rfl ?_
  simp (disch := omega) only [go_sem, and_self, and_true, true_and, false_and, and_false, Nat.reduceAdd, Nat.reduceMul, Nat.reduceSub, Nat.reduceLeDiff, Nat.reduceLT, Nat.reduceGT, Nat.reduceEqDiff, Nat.reduceBEq, Int.reduceNeg, Int.reduceEq, Int.reduceLT, Int.reduceLE, Int.reduceBEq, Int.reduceToNat, Int.toNat_natCast, Int.natCast_zero, r110_T, r110, List.length_map]
  rw [r110_B0_n]
  erw [hL]
  rcases Bool.eq_false_or_eq_true (unF [] l) with g | g <;> rw [g] <;> simp only [go_sem, and_self, and_true, true_and, false_and, and_false, Nat.reduceAdd, Nat.reduceMul, Nat.reduceSub, Nat.reduceLeDiff, Nat.reduceLT, Nat.reduceGT, Nat.reduceEqDiff, Nat.reduceBEq, Int.reduceNeg, Int.reduceEq, Int.reduceLT, Int.reduceLE, Int.reduceBEq, Int.reduceToNat, Int.toNat_natCast, Int.natCast_zero]

def name2 : List ByteArray → Bool
  | [a, b] => nameB a && nameB b
  | _ => false
def namesV (o : Int) (ns : List ByteArray) (n : Nat) (nn : Bool) : Bool :=
  if nn = false then ((ns.length : Int) == 0)
  else if o = 12 then ((ns.length : Int) == (n : Int)) && unF [] ns
  else name2 ns
set_option maxHeartbeats 2000000 in
theorem names_ok (o : Int) (t p k c s : D) (ns : List ByteArray) (xs : List Xp) (hl : ns.length ≤ maxLen) (hs : ∀ x ∈ ns, x.size ≤ maxLen) (l m : Int) (nm nn : Bool) (hp : List Ent) :
    F tab 88 [.d (.agg [iv o, t, p, k, c, s, .sl (ns.map .str), .sl (Xp.encs xs)]), .d (.agg [iv l, iv m, .bool nm, .bool nn])] hp = some (.ret (.d (.bool (namesV o ns xs.length nn))) hp) := by
  have hu := unlike_ok ns hl hs
  refine f88 rfl ?_
  unfold namesV
  cases nn
  · simp only [go_sem, and_self, and_true, true_and, false_and, and_false, Nat.reduceAdd, Nat.reduceMul, Nat.reduceSub, Nat.reduceLeDiff, Nat.reduceLT, Nat.reduceGT, Nat.reduceEqDiff, Nat.reduceBEq, Int.reduceNeg, Int.reduceEq, Int.reduceLT, Int.reduceLE, Int.reduceBEq, Int.reduceToNat, Int.toNat_natCast, Int.natCast_zero, r88_T, r88, List.length_map]
  · simp only [Bool.true_eq_false, if_false]
    by_cases o12 : o = 12
    · rw [if_pos o12]
      rcases Bool.eq_false_or_eq_true ((ns.length : Int) == (xs.length : Int)) with g | g <;>
        simp only [go_sem, and_self, and_true, true_and, false_and, and_false, Nat.reduceAdd, Nat.reduceMul, Nat.reduceSub, Nat.reduceLeDiff, Nat.reduceLT, Nat.reduceGT, Nat.reduceEqDiff, Nat.reduceBEq, Int.reduceNeg, Int.reduceEq, Int.reduceLT, Int.reduceLE, Int.reduceBEq, Int.reduceToNat, Int.toNat_natCast, Int.natCast_zero, r88_T, r88, o12, List.length_map, xencs_len, hu, g, Bool.true_and, Bool.false_and]
    · have q12 : (o == 12) = false := by simpa using o12
      rw [if_neg o12]
      have n0 : ((0 : Nat) : Int) = 0 := rfl
      have n1 : ((1 : Nat) : Int) = 1 := rfl
      have n2 : ((2 : Nat) : Int) = 2 := rfl
      match ns, hs with
      | [], _ => simp only [go_sem, and_self, and_true, true_and, false_and, and_false, Nat.reduceAdd, Nat.reduceMul, Nat.reduceSub, Nat.reduceLeDiff, Nat.reduceLT, Nat.reduceGT, Nat.reduceEqDiff, Nat.reduceBEq, Int.reduceNeg, Int.reduceEq, Int.reduceLT, Int.reduceLE, Int.reduceBEq, Int.reduceToNat, Int.toNat_natCast, Int.natCast_zero, r88_T, r88, q12, List.length_nil, List.map_nil, name2, n0]
      | [a], _ => simp only [go_sem, and_self, and_true, true_and, false_and, and_false, Nat.reduceAdd, Nat.reduceMul, Nat.reduceSub, Nat.reduceLeDiff, Nat.reduceLT, Nat.reduceGT, Nat.reduceEqDiff, Nat.reduceBEq, Int.reduceNeg, Int.reduceEq, Int.reduceLT, Int.reduceLE, Int.reduceBEq, Int.reduceToNat, Int.toNat_natCast, Int.natCast_zero, r88_T, r88, q12, List.length_nil, List.length_cons, List.map_cons, List.map_nil, name2, n1]
      | [a, b], hs =>
        have h1 := name_ok a (hs a (by simp))
        have h2 := name_ok b (hs b (by simp))
        rcases Bool.eq_false_or_eq_true (nameB a) with g | g <;>
          simp only [go_sem, and_self, and_true, true_and, false_and, and_false, Nat.reduceAdd, Nat.reduceMul, Nat.reduceSub, Nat.reduceLeDiff, Nat.reduceLT, Nat.reduceGT, Nat.reduceEqDiff, Nat.reduceBEq, Int.reduceNeg, Int.reduceEq, Int.reduceLT, Int.reduceLE, Int.reduceBEq, Int.reduceToNat, Int.toNat_natCast, Int.natCast_zero, r88_T, r88, q12, List.length_nil, List.length_cons, List.map_cons, List.map_nil, name2, h1, h2, g, n2, Bool.true_and, Bool.false_and]
      | a :: b :: c :: r, _ =>
        have g : (((a :: b :: c :: r).length : Int) == 2) = false := by simp only [List.length_cons, beq_eq_false_iff_ne]; omega
        have hn : name2 (a :: b :: c :: r) = false := rfl
        generalize a :: b :: c :: r = w at g hn ⊢
        simp only [go_sem, and_self, and_true, true_and, false_and, and_false, Nat.reduceAdd, Nat.reduceMul, Nat.reduceSub, Nat.reduceLeDiff, Nat.reduceLT, Nat.reduceGT, Nat.reduceEqDiff, Nat.reduceBEq, Int.reduceNeg, Int.reduceEq, Int.reduceLT, Int.reduceLE, Int.reduceBEq, Int.reduceToNat, Int.toNat_natCast, Int.natCast_zero, r88_T, r88, q12, List.length_map, hn, g]

def fitsV : Xp → Bool
  | .mk o t p k c s ns xs => ((shapeV o).2.2.2.2 && (p == 0 && (decide ((xs.length : Int) ≥ (shapeV o).1) && (decide ((xs.length : Int) ≤ (shapeV o).2.1) && (textV o t k c s (shapeV o).2.2.1 && namesV o ns xs.length (shapeV o).2.2.2.1)))))
theorem fits_ok (x : Xp) (hx : x.ok) (hp : List Ent) : F tab 58 [.d x.enc] hp = some (.ret (.d (.bool (fitsV x))) hp) := by
  obtain ⟨o, t, p, k, c, s, ns, xs⟩ := x
  simp only [Xp.ok] at hx
  have h1 := shape_ok o
  have h2 := text_ok o t p k c s (.sl (ns.map .str)) (.sl (Xp.encs xs)) hx.2.1
  have h3 := names_ok o (.str t) (iv p) (iv k) (iv c) (iv s) ns xs hx.2.2.2.2.2.2.1 hx.2.2.2.2.2.2.2.1
  simp only [Xp.enc, fitsV]
  refine f58 rfl ?_
  generalize shapeV o = sh at *
  obtain ⟨l, m, nm, nn, ok⟩ := sh
  simp only [shD] at h1 h2 h3 ⊢
  cases ok
  · simp only [go_sem, and_self, and_true, true_and, false_and, and_false, Nat.reduceAdd, Nat.reduceMul, Nat.reduceSub, Nat.reduceLeDiff, Nat.reduceLT, Nat.reduceGT, Nat.reduceEqDiff, Nat.reduceBEq, Int.reduceNeg, Int.reduceEq, Int.reduceLT, Int.reduceLE, Int.reduceBEq, Int.reduceToNat, Int.toNat_natCast, Int.natCast_zero, r58_T, r58, h1, Bool.false_and]
  rcases Bool.eq_false_or_eq_true (p == 0) with g1 | g1
  rotate_left
  · simp only [go_sem, and_self, and_true, true_and, false_and, and_false, Nat.reduceAdd, Nat.reduceMul, Nat.reduceSub, Nat.reduceLeDiff, Nat.reduceLT, Nat.reduceGT, Nat.reduceEqDiff, Nat.reduceBEq, Int.reduceNeg, Int.reduceEq, Int.reduceLT, Int.reduceLE, Int.reduceBEq, Int.reduceToNat, Int.toNat_natCast, Int.natCast_zero, r58_T, r58, h1, g1, Bool.true_and, Bool.false_and]
  rcases Bool.eq_false_or_eq_true (decide ((xs.length : Int) ≥ l)) with g2 | g2
  rotate_left
  · simp only [go_sem, and_self, and_true, true_and, false_and, and_false, Nat.reduceAdd, Nat.reduceMul, Nat.reduceSub, Nat.reduceLeDiff, Nat.reduceLT, Nat.reduceGT, Nat.reduceEqDiff, Nat.reduceBEq, Int.reduceNeg, Int.reduceEq, Int.reduceLT, Int.reduceLE, Int.reduceBEq, Int.reduceToNat, Int.toNat_natCast, Int.natCast_zero, r58_T, r58, h1, g1, g2, xencs_len, Bool.true_and, Bool.false_and]
  rcases Bool.eq_false_or_eq_true (decide ((xs.length : Int) ≤ m)) with g3 | g3
  rotate_left
  · simp only [go_sem, and_self, and_true, true_and, false_and, and_false, Nat.reduceAdd, Nat.reduceMul, Nat.reduceSub, Nat.reduceLeDiff, Nat.reduceLT, Nat.reduceGT, Nat.reduceEqDiff, Nat.reduceBEq, Int.reduceNeg, Int.reduceEq, Int.reduceLT, Int.reduceLE, Int.reduceBEq, Int.reduceToNat, Int.toNat_natCast, Int.natCast_zero, r58_T, r58, h1, g1, g2, g3, xencs_len, Bool.true_and, Bool.false_and]
  have h2 := h2 l m nm nn
  have h3 := h3 l m nm nn
  rcases Bool.eq_false_or_eq_true (textV o t k c s nm) with g4 | g4 <;>
    simp only [go_sem, and_self, and_true, true_and, false_and, and_false, Nat.reduceAdd, Nat.reduceMul, Nat.reduceSub, Nat.reduceLeDiff, Nat.reduceLT, Nat.reduceGT, Nat.reduceEqDiff, Nat.reduceBEq, Int.reduceNeg, Int.reduceEq, Int.reduceLT, Int.reduceLE, Int.reduceBEq, Int.reduceToNat, Int.toNat_natCast, Int.natCast_zero, r58_T, r58, h1, g1, g2, g3, g4, h2, h3, xencs_len, Bool.true_and, Bool.false_and]

theorem is_step (x : Xp) (hx : x.ok) (left : Int) (h0 : 0 ≤ left) (h5 : left ≤ 1000) : F tab 57 [.d x.enc, .ptr 0 0] [.box [.d (iv left)]] = some (.ret (.d (.bool (decide (left - 1 ≥ 0) && fitsV x))) [.box [.d (iv (left - 1))]]) := by
  have hf := fits_ok x hx
  obtain ⟨o, t, p, k, c, s, ns, ys, ex⟩ := xenc_as x
  rw [ex] at hf ⊢
  refine f57 ?_
  rcases Bool.eq_false_or_eq_true (decide (left - 1 ≥ 0)) with g | g <;>
    simp (disch := omega) only [go_sem, and_self, and_true, true_and, false_and, and_false, Nat.reduceAdd, Nat.reduceMul, Nat.reduceSub, Nat.reduceLeDiff, Nat.reduceLT, Nat.reduceGT, Nat.reduceEqDiff, Nat.reduceBEq, Int.reduceNeg, Int.reduceEq, Int.reduceLT, Int.reduceLE, Int.reduceBEq, Int.reduceToNat, Int.toNat_natCast, Int.natCast_zero, r57_T, r57, hf, g, w64, Bool.true_and, Bool.false_and]

theorem is_runs : ∀ (l : List Xp) (left : Int), (∀ x ∈ l, x.ok) → 0 ≤ left → left ≤ 1000 → ∃ hp', Runs 57 [.ptr 0 0] [.box [.d (iv left)]] l hp' (decide ((l.length : Int) ≤ left) && l.all fitsV)
  | [], left, _, h0, h5 => by
    have e : (decide ((([] : List Xp).length : Int) ≤ left) && ([] : List Xp).all fitsV) = true := by simp; omega
    rw [e]
    exact ⟨_, .nil⟩
  | x :: l, left, hk, h0, h5 => by
    have hs := is_step x (hk x (by simp)) left h0 h5
    by_cases g : (decide (left - 1 ≥ 0) && fitsV x) = true
    · rw [g] at hs
      simp only [Bool.and_eq_true, decide_eq_true_eq] at g
      obtain ⟨hp', hr⟩ := is_runs l (left - 1) (fun y hy => hk y (by simp [hy])) (by omega) (by omega)
      have e : (decide (((x :: l).length : Int) ≤ left) && (x :: l).all fitsV) = (decide ((l.length : Int) ≤ left - 1) && l.all fitsV) := by
        simp only [List.all_cons, g.2, Bool.true_and, List.length_cons]
        congr 1
        apply decide_eq_decide.2
        omega
      rw [e]
      exact ⟨hp', .step hs hr⟩
    · have g' : (decide (left - 1 ≥ 0) && fitsV x) = false := by simpa using g
      rw [g'] at hs
      have e : (decide (((x :: l).length : Int) ≤ left) && (x :: l).all fitsV) = false := by
        simp only [List.all_cons, List.length_cons]
        simp only [Bool.and_eq_false_iff, decide_eq_false_iff_not] at g' ⊢
        rcases g' with h | h
        · left; omega
        · right; left; exact h
      rw [e]
      exact ⟨_, .stop hs⟩

def isV (e : Xp) : Bool := decide (e.pre.length ≤ 512) && e.pre.all fitsV
theorem is_ok (e : Xp) (he : e.ok) (hp : List Ent) : F tab 34 [.d e.enc] hp = some (.ret (.d (.bool (isV e))) hp) := by
  obtain ⟨hp', hr⟩ := is_runs e.pre 512 (pre_ok e he) (by omega) (by omega)
  have hw := go_ok _ _ e he _ _ _ hr
  have e1 : (decide ((e.pre.length : Int) ≤ 512) && e.pre.all fitsV) = isV e := by unfold isV; congr 1; apply decide_eq_decide.2; omega
  rw [e1] at hw
  obtain ⟨o, t, p, k, c, s, ns, ys, ex⟩ := xenc_as e
  rw [ex] at hw ⊢
  refine f34 rfl ?_
  simp (disch := omega) only [go_sem, and_self, and_true, true_and, false_and, and_false, Nat.reduceAdd, Nat.reduceMul, Nat.reduceSub, Nat.reduceLeDiff, Nat.reduceLT, Nat.reduceGT, Nat.reduceEqDiff, Nat.reduceBEq, Int.reduceNeg, Int.reduceEq, Int.reduceLT, Int.reduceLE, Int.reduceBEq, Int.reduceToNat, Int.toNat_natCast, Int.natCast_zero, r34_T, r34, hw]
end Go.Pe.T

namespace Go.Pe.T
/-! ### long, ref16.Light, spell.Is -/
def xtext : Xp → ByteArray
  | .mk _ t _ _ _ _ _ _ => t
theorem xenc_t (x : Xp) : ∃ c0 c2 c3 c4 c5 c6 c7, x.enc = .agg [c0, .str (xtext x), c2, c3, c4, c5, c6, c7] := by
  cases x; exact ⟨_, _, _, _, _, _, _, rfl⟩
def longB (l : List Xp) : Bool := l.any fun y => decide (12 < (xtext y).size)
def LoLoop (l : List Xp) (i : Nat) : Prop :=
  V (F tab) r20_B0 (r20_S0 (.d (.sl (Xp.encs l))) (.d (iv i)) []) = if longB (l.drop i) then some (.ret, r20_R (.d (.bool true)) []) else some (.norm, r20_E0 [])
theorem lo_loop (l : List Xp) (hl : l.length ≤ 1000) : ∀ (j i : Nat), i + j = l.length → LoLoop l i
  | 0, i, hi => by
    have h1 : ((i : Int) < (l.length : Int)) = False := eq_false (by omega)
    unfold LoLoop
    rw [r20_B0_eq, List.drop_of_length_le (by omega)]
    simp (disch := omega) only [go_sem, and_self, and_true, true_and, false_and, and_false, Nat.reduceAdd, Nat.reduceMul, Nat.reduceSub, Nat.reduceLeDiff, Nat.reduceLT, Nat.reduceGT, Nat.reduceEqDiff, Nat.reduceBEq, Int.reduceNeg, Int.reduceEq, Int.reduceLT, Int.reduceLE, Int.reduceBEq, Int.reduceToNat, Int.toNat_natCast, Int.natCast_zero, r20_C0, h1, xencs_len, longB, List.any_nil]
  | j + 1, i, hi => by
    have ih := lo_loop l hl j (i + 1) (by omega)
    have hi1 : i < l.length := by omega
    have h1 : ((i : Int) < (l.length : Int)) = True := eq_true (by omega)
    have i0 : (0 ≤ (i : Int)) = True := eq_true (by omega)
    have va : (Xp.encs l)[i]? = some l[i].enc := by rw [xencs_get, List.getElem?_eq_getElem hi1]; rfl
    obtain ⟨c0, c2, c3, c4, c5, c6, c7, ex⟩ := xenc_t l[i]
    rw [ex] at va
    unfold LoLoop at ih ⊢
    rw [Int.natCast_add, Int.natCast_one] at ih
    rw [r20_B0_eq, List.drop_eq_getElem_cons hi1, longB, List.any_cons]
    by_cases g : 12 < (xtext l[i]).size
    · have g1 : (((xtext l[i]).size : Int) > 12) = True := eq_true (by omega)
      rw [decide_eq_true g]
      simp (disch := omega) only [go_sem, and_self, and_true, true_and, false_and, and_false, Nat.reduceAdd, Nat.reduceMul, Nat.reduceSub, Nat.reduceLeDiff, Nat.reduceLT, Nat.reduceGT, Nat.reduceEqDiff, Nat.reduceBEq, Int.reduceNeg, Int.reduceEq, Int.reduceLT, Int.reduceLE, Int.reduceBEq, Int.reduceToNat, Int.toNat_natCast, Int.natCast_zero, r20_C0, h1, i0, va, g1, xencs_len, Bool.true_or]
    · have g1 : (((xtext l[i]).size : Int) > 12) = False := eq_false (by omega)
      rw [decide_eq_false g, Bool.false_or]
      simp (disch := omega) only [go_sem, and_self, and_true, true_and, false_and, and_false, Nat.reduceAdd, Nat.reduceMul, Nat.reduceSub, Nat.reduceLeDiff, Nat.reduceLT, Nat.reduceGT, Nat.reduceEqDiff, Nat.reduceBEq, Int.reduceNeg, Int.reduceEq, Int.reduceLT, Int.reduceLE, Int.reduceBEq, Int.reduceToNat, Int.toNat_natCast, Int.natCast_zero, r20_C0, h1, i0, va, g1, xencs_len, w64]
      exact ih
theorem long_ok (e : Xp) (he : e.ok) (hl : e.pre.length ≤ 590) (hp : List Ent) : F tab 20 [.d e.enc] hp = some (.ret (.d (.bool (longB e.pre))) hp) := by
  have ha : ∀ hp, F tab 39 [.d e.enc, .d (iv 600)] hp = _ := rall_ok e he 600 (by omega) (by omega)
  have hL := lo_loop e.pre (by omega) e.pre.length 0 (by omega)
  unfold LoLoop at hL
  rw [List.drop_zero] at hL
  have e1 : e.pre.take 600 = e.pre := List.take_of_length_le (by omega)
  rw [e1] at ha
  obtain ⟨o, t, p, k, c, s, ns, xs, ex⟩ := xenc_as e
  rw [ex] at ha ⊢
  refine f20 rfl ?_
  simp (disch := omega) only [go_sem, and_self, and_true, true_and, false_and, and_false, Nat.reduceAdd, Nat.reduceMul, Nat.reduceSub, Nat.reduceLeDiff, Nat.reduceLT, Nat.reduceGT, Nat.reduceEqDiff, Nat.reduceBEq, Int.reduceNeg, Int.reduceEq, Int.reduceLT, Int.reduceLE, Int.reduceBEq, Int.reduceToNat, Int.toNat_natCast, Int.natCast_zero, r20_T, r20, ha]
  rw [r20_B0_n]
  erw [hL]
  rcases Bool.eq_false_or_eq_true (longB e.pre) with g | g <;> rw [g] <;> simp only [go_sem, and_self, and_true, true_and, false_and, and_false, Nat.reduceAdd, Nat.reduceMul, Nat.reduceSub, Nat.reduceLeDiff, Nat.reduceLT, Nat.reduceGT, Nat.reduceEqDiff, Nat.reduceBEq, Int.reduceNeg, Int.reduceEq, Int.reduceLT, Int.reduceLE, Int.reduceBEq, Int.reduceToNat, Int.toNat_natCast, Int.natCast_zero]

/-! ContainsFunc of names -/
theorem nid_ok (s : ByteArray) (hs : s.size ≤ maxLen) (hp : List Ent) : F tab 62 [.d (.str s)] hp = some (.ret (.d (.bool (!identB s))) hp) := by
  have h := ident_ok s hs
  refine f62 rfl ?_
  simp only [go_sem, and_self, and_true, true_and, false_and, and_false, Nat.reduceAdd, Nat.reduceMul, Nat.reduceSub, Nat.reduceLeDiff, Nat.reduceLT, Nat.reduceGT, Nat.reduceEqDiff, Nat.reduceBEq, Int.reduceNeg, Int.reduceEq, Int.reduceLT, Int.reduceLE, Int.reduceBEq, Int.reduceToNat, Int.toNat_natCast, Int.natCast_zero, r62_T, r62, h]
def NfLoop (l : List ByteArray) (i : Nat) (hp : List Ent) : Prop :=
  ∃ k : Nat, V (F tab) r91_B0 (r91_S0 (.d (.sl (l.map .str))) (.fn 62 []) (.d (iv l.length)) (.d (iv i)) hp) = if (l.drop i).all identB then some (.norm, r91_E0 hp) else some (.ret, r91_R (.d (iv k)) hp)
theorem nf_loop (l : List ByteArray) (hl : l.length ≤ maxLen) (hs : ∀ x ∈ l, x.size ≤ maxLen) (hp : List Ent) : ∀ (j i : Nat), i + j = l.length → NfLoop l i hp
  | 0, i, hi => by
    have h1 : ((i : Int) < (l.length : Int)) = False := eq_false (by omega)
    refine ⟨0, ?_⟩
    rw [r91_B0_eq, List.drop_of_length_le (by omega)]
    simp (disch := omega) only [go_sem, and_self, and_true, true_and, false_and, and_false, Nat.reduceAdd, Nat.reduceMul, Nat.reduceSub, Nat.reduceLeDiff, Nat.reduceLT, Nat.reduceGT, Nat.reduceEqDiff, Nat.reduceBEq, Int.reduceNeg, Int.reduceEq, Int.reduceLT, Int.reduceLE, Int.reduceBEq, Int.reduceToNat, Int.toNat_natCast, Int.natCast_zero, r91_C0, h1, List.length_map, List.all_nil]
  | j + 1, i, hi => by
    have hmx : maxLen = 9223372036854775807 := by decide
    obtain ⟨k, ih⟩ := nf_loop l hl hs hp j (i + 1) (by omega)
    have hi1 : i < l.length := by omega
    have h1 : ((i : Int) < (l.length : Int)) = True := eq_true (by omega)
    have hi0 : (0 ≤ (i : Int)) = True := eq_true (by omega)
    have va : (l.map D.str)[i]? = some (.str l[i]) := by simp [hi1]
    have hn := nid_ok l[i] (hs _ (List.getElem_mem hi1))
    rw [Int.natCast_add, Int.natCast_one] at ih
    rcases Bool.eq_false_or_eq_true (identB l[i]) with g | g
    · refine ⟨k, ?_⟩
      rw [g] at hn
      rw [r91_B0_eq, List.drop_eq_getElem_cons hi1, List.all_cons, g, Bool.true_and]
      simp (disch := omega) only [go_sem, and_self, and_true, true_and, false_and, and_false, Nat.reduceAdd, Nat.reduceMul, Nat.reduceSub, Nat.reduceLeDiff, Nat.reduceLT, Nat.reduceGT, Nat.reduceEqDiff, Nat.reduceBEq, Int.reduceNeg, Int.reduceEq, Int.reduceLT, Int.reduceLE, Int.reduceBEq, Int.reduceToNat, Int.toNat_natCast, Int.natCast_zero, r91_C0, h1, hi0, va, hn, List.length_map, w64]
      exact ih
    · refine ⟨i, ?_⟩
      rw [g] at hn
      rw [r91_B0_eq, List.drop_eq_getElem_cons hi1, List.all_cons, g, Bool.false_and]
      simp (disch := omega) only [go_sem, and_self, and_true, true_and, false_and, and_false, Nat.reduceAdd, Nat.reduceMul, Nat.reduceSub, Nat.reduceLeDiff, Nat.reduceLT, Nat.reduceGT, Nat.reduceEqDiff, Nat.reduceBEq, Int.reduceNeg, Int.reduceEq, Int.reduceLT, Int.reduceLE, Int.reduceBEq, Int.reduceToNat, Int.toNat_natCast, Int.natCast_zero, r91_C0, h1, hi0, va, hn, List.length_map, w64]
theorem idents_ok (l : List ByteArray) (hl : l.length ≤ maxLen) (hs : ∀ x ∈ l, x.size ≤ maxLen) (hp : List Ent) : F tab 36 [.d (.sl (l.map .str))] hp = some (.ret (.d (.bool (l.all identB))) hp) := by
  have hI : ∃ b : Int, (decide (b ≥ 0) = !(l.all identB)) ∧ F tab 91 [.d (.sl (l.map .str)), .fn 62 []] [] = some (.ret (.d (iv b)) []) := by
    obtain ⟨k, hL⟩ := nf_loop l hl hs [] l.length 0 (by omega)
    rw [List.drop_zero] at hL
    rcases Bool.eq_false_or_eq_true (l.all identB) with g | g
    · refine ⟨-1, by rw [g]; simp, f91 ?_⟩
      simp (disch := omega) only [go_sem, and_self, and_true, true_and, false_and, and_false, Nat.reduceAdd, Nat.reduceMul, Nat.reduceSub, Nat.reduceLeDiff, Nat.reduceLT, Nat.reduceGT, Nat.reduceEqDiff, Nat.reduceBEq, Int.reduceNeg, Int.reduceEq, Int.reduceLT, Int.reduceLE, Int.reduceBEq, Int.reduceToNat, Int.toNat_natCast, Int.natCast_zero, r91_T, r91, List.length_map]
      rw [r91_B0_n]
      erw [hL]
      rw [g]
      simp only [go_sem, and_self, and_true, true_and, false_and, and_false, Nat.reduceAdd, Nat.reduceMul, Nat.reduceSub, Nat.reduceLeDiff, Nat.reduceLT, Nat.reduceGT, Nat.reduceEqDiff, Nat.reduceBEq, Int.reduceNeg, Int.reduceEq, Int.reduceLT, Int.reduceLE, Int.reduceBEq, Int.reduceToNat, Int.toNat_natCast, Int.natCast_zero]
    · refine ⟨k, by rw [g]; simp, f91 ?_⟩
      simp (disch := omega) only [go_sem, and_self, and_true, true_and, false_and, and_false, Nat.reduceAdd, Nat.reduceMul, Nat.reduceSub, Nat.reduceLeDiff, Nat.reduceLT, Nat.reduceGT, Nat.reduceEqDiff, Nat.reduceBEq, Int.reduceNeg, Int.reduceEq, Int.reduceLT, Int.reduceLE, Int.reduceBEq, Int.reduceToNat, Int.toNat_natCast, Int.natCast_zero, r91_T, r91, List.length_map]
      rw [r91_B0_n]
      erw [hL]
      rw [g]
      simp only [go_sem, and_self, and_true, true_and, false_and, and_false, Nat.reduceAdd, Nat.reduceMul, Nat.reduceSub, Nat.reduceLeDiff, Nat.reduceLT, Nat.reduceGT, Nat.reduceEqDiff, Nat.reduceBEq, Int.reduceNeg, Int.reduceEq, Int.reduceLT, Int.reduceLE, Int.reduceBEq, Int.reduceToNat, Int.toNat_natCast, Int.natCast_zero]
  obtain ⟨b, h1, h2⟩ := hI
  have hC : F tab 61 [.d (.sl (l.map .str)), .fn 62 []] [] = some (.ret (.d (.bool (!(l.all identB)))) []) := by
    refine f61 ?_
    simp only [go_sem, and_self, and_true, true_and, false_and, and_false, Nat.reduceAdd, Nat.reduceMul, Nat.reduceSub, Nat.reduceLeDiff, Nat.reduceLT, Nat.reduceGT, Nat.reduceEqDiff, Nat.reduceBEq, Int.reduceNeg, Int.reduceEq, Int.reduceLT, Int.reduceLE, Int.reduceBEq, Int.reduceToNat, Int.toNat_natCast, Int.natCast_zero, r61_T, r61, h2, h1]
  refine f36 rfl ?_
  simp only [go_sem, and_self, and_true, true_and, false_and, and_false, Nat.reduceAdd, Nat.reduceMul, Nat.reduceSub, Nat.reduceLeDiff, Nat.reduceLT, Nat.reduceGT, Nat.reduceEqDiff, Nat.reduceBEq, Int.reduceNeg, Int.reduceEq, Int.reduceLT, Int.reduceLE, Int.reduceBEq, Int.reduceToNat, Int.toNat_natCast, Int.natCast_zero, r36_T, r36, hC, Bool.not_not]
end Go.Pe.T

namespace Go.Pe.T
/-- a function as it may come in -/
structure FnIn (f : Fn) : Prop where
  name : f.name.size ≤ maxLen
  params : f.params.length ≤ maxLen
  pars : ∀ x ∈ f.params, x.size ≤ maxLen
  body : f.body.ok
def fnV (f : Fn) : Bool := identB f.name && (decide (f.params.length ≤ 4) && (f.params.all identB && isV f.body))
def isP (fs : List Fn) (x : Xp) : Bool := decide (fs.length ≤ 32) && (isV x && fs.all fnV)
def SiLoop (fs : List Fn) (i : Nat) : Prop :=
  V (F tab) r16_B0 (r16_S0 (.d (.sl (fnDs fs))) (.d (iv fs.length)) (.d (iv i)) []) = if (fs.drop i).all fnV then some (.norm, r16_E0 []) else some (.ret, r16_R (.d (.bool false)) [])
set_option maxHeartbeats 2000000 in
theorem si_loop (fs : List Fn) (hl : fs.length ≤ 1000) (hf : ∀ f ∈ fs, FnIn f) : ∀ (j i : Nat), i + j = fs.length → SiLoop fs i
  | 0, i, hi => by
    have h1 : ((i : Int) < (fs.length : Int)) = False := eq_false (by omega)
    unfold SiLoop
    rw [r16_B0_eq, List.drop_of_length_le (by omega)]
    simp (disch := omega) only [go_sem, and_self, and_true, true_and, false_and, and_false, Nat.reduceAdd, Nat.reduceMul, Nat.reduceSub, Nat.reduceLeDiff, Nat.reduceLT, Nat.reduceGT, Nat.reduceEqDiff, Nat.reduceBEq, Int.reduceNeg, Int.reduceEq, Int.reduceLT, Int.reduceLE, Int.reduceBEq, Int.reduceToNat, Int.toNat_natCast, Int.natCast_zero, r16_C0, h1, List.all_nil]
  | j + 1, i, hi => by
    have ih := si_loop fs hl hf j (i + 1) (by omega)
    have hi1 : i < fs.length := by omega
    have h1 : ((i : Int) < (fs.length : Int)) = True := eq_true (by omega)
    have hi0 : (0 ≤ (i : Int)) = True := eq_true (by omega)
    have hfd : (fnDs fs).length = fs.length := by rw [fnDs, List.length_map]
    have va : (fnDs fs)[i]? = some fs[i].enc := by rw [fnDs, List.getElem?_map, List.getElem?_eq_getElem hi1]; rfl
    have hF := hf fs[i] (List.getElem_mem hi1)
    unfold SiLoop at ih ⊢
    rw [Int.natCast_add, Int.natCast_one] at ih
    rw [r16_B0_eq, List.drop_eq_getElem_cons hi1, List.all_cons]
    generalize fs[i] = f at *
    obtain ⟨o', t', p', k', c', s', ns', xs', e1, e2⟩ := fn_as' f
    rw [e2] at va
    have n1 := ident_ok f.name hF.name
    have n3 := idents_ok f.params hF.params hF.pars
    have n4 := is_ok f.body hF.body
    rw [e1] at n4
    unfold fnV
    rcases Bool.eq_false_or_eq_true (identB f.name) with g1 | g1
    · rw [g1] at n1 ⊢
      by_cases g2 : f.params.length ≤ 4
      · have g2' : ((f.params.length : Int) > 4) = False := eq_false (by omega)
        rw [decide_eq_true g2]
        rcases Bool.eq_false_or_eq_true (f.params.all identB) with g3 | g3
        · rw [g3] at n3 ⊢
          rcases Bool.eq_false_or_eq_true (isV f.body) with g4 | g4
          · rw [g4] at n4 ⊢
            simp only [Bool.true_and]
            simp (disch := omega) only [go_sem, and_self, and_true, true_and, false_and, and_false, Nat.reduceAdd, Nat.reduceMul, Nat.reduceSub, Nat.reduceLeDiff, Nat.reduceLT, Nat.reduceGT, Nat.reduceEqDiff, Nat.reduceBEq, Int.reduceNeg, Int.reduceEq, Int.reduceLT, Int.reduceLE, Int.reduceBEq, Int.reduceToNat, Int.toNat_natCast, Int.natCast_zero, r16_C0, h1, hi0, hfd, va, n1, n3, n4, g2', List.length_map, w64]
            exact ih
          · rw [g4] at n4 ⊢
            simp only [Bool.true_and, Bool.false_and]
            simp (disch := omega) only [go_sem, and_self, and_true, true_and, false_and, and_false, Nat.reduceAdd, Nat.reduceMul, Nat.reduceSub, Nat.reduceLeDiff, Nat.reduceLT, Nat.reduceGT, Nat.reduceEqDiff, Nat.reduceBEq, Int.reduceNeg, Int.reduceEq, Int.reduceLT, Int.reduceLE, Int.reduceBEq, Int.reduceToNat, Int.toNat_natCast, Int.natCast_zero, r16_C0, h1, hi0, hfd, va, n1, n3, n4, g2', List.length_map, w64]
        · rw [g3] at n3 ⊢
          simp only [Bool.true_and, Bool.false_and]
          simp (disch := omega) only [go_sem, and_self, and_true, true_and, false_and, and_false, Nat.reduceAdd, Nat.reduceMul, Nat.reduceSub, Nat.reduceLeDiff, Nat.reduceLT, Nat.reduceGT, Nat.reduceEqDiff, Nat.reduceBEq, Int.reduceNeg, Int.reduceEq, Int.reduceLT, Int.reduceLE, Int.reduceBEq, Int.reduceToNat, Int.toNat_natCast, Int.natCast_zero, r16_C0, h1, hi0, hfd, va, n1, n3, g2', List.length_map, w64]
      · have g2' : ((f.params.length : Int) > 4) = True := eq_true (by omega)
        rw [decide_eq_false g2]
        simp only [Bool.true_and, Bool.false_and]
        simp (disch := omega) only [go_sem, and_self, and_true, true_and, false_and, and_false, Nat.reduceAdd, Nat.reduceMul, Nat.reduceSub, Nat.reduceLeDiff, Nat.reduceLT, Nat.reduceGT, Nat.reduceEqDiff, Nat.reduceBEq, Int.reduceNeg, Int.reduceEq, Int.reduceLT, Int.reduceLE, Int.reduceBEq, Int.reduceToNat, Int.toNat_natCast, Int.natCast_zero, r16_C0, h1, hi0, hfd, va, n1, g2', List.length_map, w64]
    · rw [g1] at n1 ⊢
      simp only [Bool.false_and]
      simp (disch := omega) only [go_sem, and_self, and_true, true_and, false_and, and_false, Nat.reduceAdd, Nat.reduceMul, Nat.reduceSub, Nat.reduceLeDiff, Nat.reduceLT, Nat.reduceGT, Nat.reduceEqDiff, Nat.reduceBEq, Int.reduceNeg, Int.reduceEq, Int.reduceLT, Int.reduceLE, Int.reduceBEq, Int.reduceToNat, Int.toNat_natCast, Int.natCast_zero, r16_C0, h1, hi0, hfd, va, n1, List.length_map, w64]
set_option maxHeartbeats 1000000 in
theorem sIs_ok (fs : List Fn) (x : Xp) (hl : fs.length ≤ 1000) (hf : ∀ f ∈ fs, FnIn f) (hx : x.ok) (hp : List Ent) : F tab 16 [.d (progD fs x)] hp = some (.ret (.d (.bool (isP fs x))) hp) := by
  have hi := is_ok x hx
  have hfd : (fnDs fs).length = fs.length := by rw [fnDs, List.length_map]
  have hL := si_loop fs hl hf fs.length 0 (by omega)
  unfold SiLoop at hL
  rw [List.drop_zero] at hL
  obtain ⟨o, t, p, k, c, s, ns, xs, e1, e2⟩ := prog_as fs x
  rw [e1] at hi
  rw [e2]
  refine f16 rfl ?_
  unfold isP
  by_cases g0 : fs.length ≤ 32
  · have g0' : ((fs.length : Int) > 32) = False := eq_false (by omega)
    rw [decide_eq_true g0, Bool.true_and]
    rcases Bool.eq_false_or_eq_true (isV x) with g | g
    · rw [g] at hi ⊢
      simp (disch := omega) only [go_sem, and_self, and_true, true_and, false_and, and_false, Nat.reduceAdd, Nat.reduceMul, Nat.reduceSub, Nat.reduceLeDiff, Nat.reduceLT, Nat.reduceGT, Nat.reduceEqDiff, Nat.reduceBEq, Int.reduceNeg, Int.reduceEq, Int.reduceLT, Int.reduceLE, Int.reduceBEq, Int.reduceToNat, Int.toNat_natCast, Int.natCast_zero, r16_T, hi, hfd, g0', Bool.true_and]
      rw [r16_B0_n]
      erw [hL]
      rcases Bool.eq_false_or_eq_true (fs.all fnV) with g2 | g2 <;> rw [g2] <;> simp only [go_sem, and_self, and_true, true_and, false_and, and_false, Nat.reduceAdd, Nat.reduceMul, Nat.reduceSub, Nat.reduceLeDiff, Nat.reduceLT, Nat.reduceGT, Nat.reduceEqDiff, Nat.reduceBEq, Int.reduceNeg, Int.reduceEq, Int.reduceLT, Int.reduceLE, Int.reduceBEq, Int.reduceToNat, Int.toNat_natCast, Int.natCast_zero, r16]
    · rw [g] at hi ⊢
      simp (disch := omega) only [go_sem, and_self, and_true, true_and, false_and, and_false, Nat.reduceAdd, Nat.reduceMul, Nat.reduceSub, Nat.reduceLeDiff, Nat.reduceLT, Nat.reduceGT, Nat.reduceEqDiff, Nat.reduceBEq, Int.reduceNeg, Int.reduceEq, Int.reduceLT, Int.reduceLE, Int.reduceBEq, Int.reduceToNat, Int.toNat_natCast, Int.natCast_zero, r16_T, r16, hi, hfd, g0', Bool.false_and]
  · have g0' : ((fs.length : Int) > 32) = True := eq_true (by omega)
    rw [decide_eq_false g0, Bool.false_and]
    simp (disch := omega) only [go_sem, and_self, and_true, true_and, false_and, and_false, Nat.reduceAdd, Nat.reduceMul, Nat.reduceSub, Nat.reduceLeDiff, Nat.reduceLT, Nat.reduceGT, Nat.reduceEqDiff, Nat.reduceBEq, Int.reduceNeg, Int.reduceEq, Int.reduceLT, Int.reduceLE, Int.reduceBEq, Int.reduceToNat, Int.toNat_natCast, Int.natCast_zero, r16_T, r16, hi, hfd, g0']

/-! ref16.Light -/
def fnL (f : Fn) : Bool := decide (f.params.length ≤ 20) && decide (f.body.pre.length ≤ 590)
def LtLoop (fs : List Fn) (x1 : PV) (i : Nat) : Prop :=
  V (F tab) r15_B0 (r15_S0 x1 (.d (iv i)) []) = if ((fs.drop i).take (50 - i)).all fnL then some (.norm, r15_E0 x1 []) else some (.ret, r15_R (.d (.bool false)) [])
set_option maxHeartbeats 1000000 in
theorem lt_loop (fs : List Fn) (hl : fs.length ≤ maxLen) (hf : ∀ f ∈ fs, FnIn f) (c1 c2 c3 c4 c5 c6 c7 c8 : D) : ∀ (j i : Nat), i + j = 50 → i ≤ fs.length → LtLoop fs (.ibox [.d (.sl (fnDs fs)), .d c1, .d c2, .d c3, .d c4, .d c5, .d c6, .d c7, .d c8]) i
  | 0, i, hi, hle => by
    obtain rfl : i = 50 := by omega
    have hfd : (fnDs fs).length = fs.length := by rw [fnDs, List.length_map]
    have e50 : ((50 : Nat) : Int) = 50 := rfl
    have n50 : ((50 : Int) < 50) = False := eq_false (by omega)
    unfold LtLoop
    rw [r15_B0_eq, e50, Nat.sub_self, List.take_zero]
    by_cases h : (50 : Int) < (fs.length : Int)
    · have h1 : ((50 : Int) < (fs.length : Int)) = True := eq_true h
      simp (disch := omega) only [go_sem, and_self, and_true, true_and, false_and, and_false, Nat.reduceAdd, Nat.reduceMul, Nat.reduceSub, Nat.reduceLeDiff, Nat.reduceLT, Nat.reduceGT, Nat.reduceEqDiff, Nat.reduceBEq, Int.reduceNeg, Int.reduceEq, Int.reduceLT, Int.reduceLE, Int.reduceBEq, Int.reduceToNat, Int.toNat_natCast, Int.natCast_zero, r15_C0, h1, n50, hfd, List.all_nil]
    · have h1 : ((50 : Int) < (fs.length : Int)) = False := eq_false h
      simp (disch := omega) only [go_sem, and_self, and_true, true_and, false_and, and_false, Nat.reduceAdd, Nat.reduceMul, Nat.reduceSub, Nat.reduceLeDiff, Nat.reduceLT, Nat.reduceGT, Nat.reduceEqDiff, Nat.reduceBEq, Int.reduceNeg, Int.reduceEq, Int.reduceLT, Int.reduceLE, Int.reduceBEq, Int.reduceToNat, Int.toNat_natCast, Int.natCast_zero, r15_C0, h1, n50, hfd, List.all_nil]
  | j + 1, i, hi, hle => by
    have hfd : (fnDs fs).length = fs.length := by rw [fnDs, List.length_map]
    by_cases hi1 : i < fs.length
    · have ih := lt_loop fs hl hf c1 c2 c3 c4 c5 c6 c7 c8 j (i + 1) (by omega) (by omega)
      have h1 : ((i : Int) < (fs.length : Int)) = True := eq_true (by omega)
      have h50 : ((i : Int) < 50) = True := eq_true (by omega)
      have hi0 : (0 ≤ (i : Int)) = True := eq_true (by omega)
      have va : (fnDs fs)[i]? = some fs[i].enc := by rw [fnDs, List.getElem?_map, List.getElem?_eq_getElem hi1]; rfl
      have hF := hf fs[i] (List.getElem_mem hi1)
      have e5 : 50 - i = (50 - (i + 1)) + 1 := by omega
      unfold LtLoop at ih ⊢
      rw [Int.natCast_add, Int.natCast_one] at ih
      rw [r15_B0_eq, List.drop_eq_getElem_cons hi1, e5, List.take_succ_cons, List.all_cons]
      generalize fs[i] = f at *
      obtain ⟨o', t', p', k', c', s', ns', xs', e1, e2⟩ := fn_as' f
      rw [e2] at va
      have n4 : ∀ hp, F tab 27 [.d f.body.enc, .d (iv 590)] hp = _ := light_ok f.body hF.body 590 (by omega)
      rw [e1] at n4
      unfold fnL
      by_cases g2 : f.params.length ≤ 20
      · have g2' : ((f.params.length : Int) > 20) = False := eq_false (by omega)
        rw [decide_eq_true g2, Bool.true_and]
        by_cases g3 : f.body.pre.length ≤ 590
        · rw [decide_eq_true g3] at n4 ⊢
          rw [Bool.true_and]
          simp (disch := omega) only [go_sem, and_self, and_true, true_and, false_and, and_false, Nat.reduceAdd, Nat.reduceMul, Nat.reduceSub, Nat.reduceLeDiff, Nat.reduceLT, Nat.reduceGT, Nat.reduceEqDiff, Nat.reduceBEq, Int.reduceNeg, Int.reduceEq, Int.reduceLT, Int.reduceLE, Int.reduceBEq, Int.reduceToNat, Int.toNat_natCast, Int.natCast_zero, r15_C0, h1, h50, hi0, hfd, va, n4, g2', List.length_map, w64]
          exact ih
        · rw [decide_eq_false g3] at n4 ⊢
          rw [Bool.false_and]
          simp (disch := omega) only [go_sem, and_self, and_true, true_and, false_and, and_false, Nat.reduceAdd, Nat.reduceMul, Nat.reduceSub, Nat.reduceLeDiff, Nat.reduceLT, Nat.reduceGT, Nat.reduceEqDiff, Nat.reduceBEq, Int.reduceNeg, Int.reduceEq, Int.reduceLT, Int.reduceLE, Int.reduceBEq, Int.reduceToNat, Int.toNat_natCast, Int.natCast_zero, r15_C0, h1, h50, hi0, hfd, va, n4, g2', List.length_map, w64]
      · have g2' : ((f.params.length : Int) > 20) = True := eq_true (by omega)
        rw [decide_eq_false g2, Bool.false_and, Bool.false_and]
        simp (disch := omega) only [go_sem, and_self, and_true, true_and, false_and, and_false, Nat.reduceAdd, Nat.reduceMul, Nat.reduceSub, Nat.reduceLeDiff, Nat.reduceLT, Nat.reduceGT, Nat.reduceEqDiff, Nat.reduceBEq, Int.reduceNeg, Int.reduceEq, Int.reduceLT, Int.reduceLE, Int.reduceBEq, Int.reduceToNat, Int.toNat_natCast, Int.natCast_zero, r15_C0, h1, h50, hi0, hfd, va, g2', List.length_map, w64]
    · have h1 : ((i : Int) < (fs.length : Int)) = False := eq_false (by omega)
      unfold LtLoop
      rw [r15_B0_eq, List.drop_of_length_le (by omega), List.take_nil]
      simp (disch := omega) only [go_sem, and_self, and_true, true_and, false_and, and_false, Nat.reduceAdd, Nat.reduceMul, Nat.reduceSub, Nat.reduceLeDiff, Nat.reduceLT, Nat.reduceGT, Nat.reduceEqDiff, Nat.reduceBEq, Int.reduceNeg, Int.reduceEq, Int.reduceLT, Int.reduceLE, Int.reduceBEq, Int.reduceToNat, Int.toNat_natCast, Int.natCast_zero, r15_C0, h1, hfd, List.all_nil]
def lightP (fs : List Fn) (x : Xp) : Bool := (fs.take 50).all fnL && (decide (fs.length ≤ 40) && decide (x.pre.length ≤ 590))
theorem lightP_ok (fs : List Fn) (x : Xp) (hl : fs.length ≤ maxLen) (hf : ∀ f ∈ fs, FnIn f) (hx : x.ok) (hp : List Ent) : F tab 15 [.d (progD fs x)] hp = some (.ret (.d (.bool (lightP fs x))) hp) := by
  have hfd : (fnDs fs).length = fs.length := by rw [fnDs, List.length_map]
  have n4 : ∀ hp, F tab 27 [.d x.enc, .d (iv 590)] hp = _ := light_ok x hx 590 (by omega)
  obtain ⟨o, t, p, k, c, s, ns, xs, e1, e2⟩ := prog_as fs x
  have hL := lt_loop fs hl hf (iv o) (.str t) (iv p) (iv k) (iv c) (iv s) (.sl (ns.map .str)) (.sl (Xp.encs xs)) 50 0 (by omega) (by omega)
  unfold LtLoop at hL
  rw [List.drop_zero, Nat.sub_zero] at hL
  rw [e1] at n4
  rw [e2]
  refine f15 rfl ?_
  unfold lightP
  simp (disch := omega) only [go_sem, and_self, and_true, true_and, false_and, and_false, Nat.reduceAdd, Nat.reduceMul, Nat.reduceSub, Nat.reduceLeDiff, Nat.reduceLT, Nat.reduceGT, Nat.reduceEqDiff, Nat.reduceBEq, Int.reduceNeg, Int.reduceEq, Int.reduceLT, Int.reduceLE, Int.reduceBEq, Int.reduceToNat, Int.toNat_natCast, Int.natCast_zero, r15_T]
  rw [r15_B0_n]
  erw [hL]
  rcases Bool.eq_false_or_eq_true ((fs.take 50).all fnL) with g | g
  · rw [g]
    by_cases g0 : fs.length ≤ 40
    · have g0' : ((fs.length : Int) ≤ 40) = True := eq_true (by omega)
      rw [decide_eq_true g0]
      simp (disch := omega) only [go_sem, and_self, and_true, true_and, false_and, and_false, Nat.reduceAdd, Nat.reduceMul, Nat.reduceSub, Nat.reduceLeDiff, Nat.reduceLT, Nat.reduceGT, Nat.reduceEqDiff, Nat.reduceBEq, Int.reduceNeg, Int.reduceEq, Int.reduceLT, Int.reduceLE, Int.reduceBEq, Int.reduceToNat, Int.toNat_natCast, Int.natCast_zero, n4, hfd, g0', Bool.true_and, r15]
    · have g0' : ((fs.length : Int) ≤ 40) = False := eq_false (by omega)
      rw [decide_eq_false g0]
      simp (disch := omega) only [go_sem, and_self, and_true, true_and, false_and, and_false, Nat.reduceAdd, Nat.reduceMul, Nat.reduceSub, Nat.reduceLeDiff, Nat.reduceLT, Nat.reduceGT, Nat.reduceEqDiff, Nat.reduceBEq, Int.reduceNeg, Int.reduceEq, Int.reduceLT, Int.reduceLE, Int.reduceBEq, Int.reduceToNat, Int.toNat_natCast, Int.natCast_zero, n4, hfd, g0', Bool.true_and, Bool.false_and, r15]
  · rw [g]
    simp (disch := omega) only [go_sem, and_self, and_true, true_and, false_and, and_false, Nat.reduceAdd, Nat.reduceMul, Nat.reduceSub, Nat.reduceLeDiff, Nat.reduceLT, Nat.reduceGT, Nat.reduceEqDiff, Nat.reduceBEq, Int.reduceNeg, Int.reduceEq, Int.reduceLT, Int.reduceLE, Int.reduceBEq, Int.reduceToNat, Int.toNat_natCast, Int.natCast_zero, Bool.false_and, r15]
end Go.Pe.T

namespace Go.Pe.T
/-! ### plain: renamed expressions -/
theorem vB_bs (t : ByteArray) : bs (vB t) = 118 :: 95 :: bs t := by
  unfold vB bs
  rw [ByteArray.data_append, Array.toList_append]
  rfl
theorem vB_size (t : ByteArray) : (vB t).size = t.size + 2 := by
  have h := congrArg List.length (vB_bs t)
  rw [bs_len, List.length_cons, List.length_cons, bs_len] at h
  exact h
theorem vB_eq (a b : ByteArray) : ((vB a).toList == (vB b).toList) = (a.toList == b.toList) := by
  rw [bs_toList, bs_toList, bs_toList, bs_toList, vB_bs, vB_bs]
  simp
theorem runL_full : ∀ (l : List UInt8) (i : Nat), runL i l = l.length → ∀ j, 0 < j → runL j l = l.length
  | [], _, _, _, _ => rfl
  | c :: r, i, h, j, hj => by
    rw [runL] at h ⊢
    split at h
    · rename_i hc
      have h2 : okI j c = true := by
        unfold okI at hc ⊢
        simp only [Bool.or_eq_true, Bool.and_eq_true, decide_eq_true_eq] at hc ⊢
        rcases hc with hc | hc
        · exact .inl hc
        · exact .inr ⟨hj, hc.2⟩
      rw [if_pos h2]
      have := runL_full r (i + 1) (by simpa using h) (j + 1) (by omega)
      simp [this]
    · simp at h
theorem keysV : (keysL.all fun k => !((bs k).take 2 == [118, 95])) = true := by decide
theorem ident_v (t : ByteArray) (h : identB t = true) (h12 : t.size ≤ 12) : identB (vB t) = true := by
  unfold identB at h ⊢
  simp only [Bool.and_eq_true, decide_eq_true_eq, Bool.not_eq_true'] at h ⊢
  obtain ⟨h1, h2, h3, h4⟩ := h
  refine ⟨by rw [vB_size]; omega, by rw [vB_size]; omega, ?_, ?_⟩
  · rw [vB_bs, vB_size, runL, if_pos (by decide), runL, if_pos (by decide)]
    have := runL_full (bs t) 0 (by rw [bs_len]; exact h3) 2 (by omega)
    rw [Nat.zero_add, this, bs_len]
  · unfold keyB
    rw [Bool.eq_false_iff]
    intro hc
    rw [List.any_eq_true] at hc
    obtain ⟨k, hk, he⟩ := hc
    have := List.all_eq_true.1 keysV k hk
    rw [bs_toList, bs_toList, beq_iff_eq, vB_bs] at he
    rw [← he] at this
    simp at this
theorem lastI_v (vs : List ByteArray) (t : ByteArray) : ∀ n, lastI (vs.map vB) (vB t) n = lastI vs t n
  | 0 => rfl
  | n + 1 => by
    rw [lastI, lastI, List.getElem?_map]
    cases h : vs[n]? with
    | none => simp only [Option.map_none]; exact lastI_v vs t n
    | some x => simp only [Option.map_some, vB_eq, lastI_v vs t n]
theorem lastV_v (vs : List ByteArray) (t : ByteArray) : lastV (vs.map vB) (vB t) = lastV vs t := by
  unfold lastV
  rw [List.length_map]
  exact lastI_v vs t _
theorem atV_v (fs : List Fn) (vs ls : List ByteArray) (o : Int) (t : ByteArray) (p : Int) (n : Nat) : atV fs (vs.map vB) ls o (if isVar o then vB t else t) p n = atV fs vs ls o t p n := by
  unfold atV
  by_cases o2 : o = 2
  · subst o2
    rw [if_pos rfl, if_pos rfl, show isVar 2 = true from rfl, if_pos rfl, lastV_v]
  · rw [if_neg o2, if_neg o2]
    by_cases o16 : o = 16
    · subst o16; rfl
    · rw [if_neg o16, if_neg o16]
      by_cases o19 : o = 19
      · subst o19; rfl
      · rw [if_neg o19, if_neg o19]
theorem inVars_v (o : Int) (t : ByteArray) (i : Nat) (vs : List ByteArray) : inVars o (if isVar o then vB t else t) i (vs.map vB) = (inVars o t i vs).map vB := by
  unfold inVars
  by_cases h : (o = 17 ∧ i = 1) ∨ ((o = 13 ∨ o = 14) ∧ i = 2)
  · rw [if_pos h, if_pos h]
    have : isVar o = true := by
      rcases h with ⟨h, _⟩ | ⟨h | h, _⟩ <;> subst h <;> rfl
    rw [this, if_pos rfl]
    simp
  · rw [if_neg h, if_neg h]
theorem inLabs_v (o : Int) (t : ByteArray) (ls : List ByteArray) : inLabs o (if isVar o then vB t else t) ls = inLabs o t ls := by
  unfold inLabs
  by_cases h : o = 18
  · subst h; rfl
  · rw [if_neg h, if_neg h]
def RelX : Res Xp → Res Xp → Prop
  | .ok y, .ok z => plX y z
  | .lost _, .lost _ => True
  | _, _ => False
def RelL : Res (List Xp) → Res (List Xp) → Prop
  | .ok y, .ok z => plXs y z
  | .lost _, .lost _ => True
  | _, _ => False
mutual
theorem rel_x (fs : List Fn) : ∀ (x : Xp) (vs ls : List ByteArray), RelX (resX fs vs ls x) (resX fs (vs.map vB) ls (othX x))
  | .mk o t p k c s ns xs, vs, ls => by
    have h := rel_l fs o t xs vs ls 0
    rw [othX, resX, resX, othXs_len, atV_v]
    cases atV fs vs ls o t p xs.length with
    | none => trivial
    | some p' =>
      simp only
      cases h1 : resL fs vs ls o t 0 xs with
      | lost e =>
        cases h2 : resL fs (vs.map vB) ls o (if isVar o then vB t else t) 0 (othXs xs) with
        | lost e' => trivial
        | ok ys => rw [h1, h2] at h; exact h.elim
      | ok ys =>
        cases h2 : resL fs (vs.map vB) ls o (if isVar o then vB t else t) 0 (othXs xs) with
        | lost e' => rw [h1, h2] at h; exact h.elim
        | ok zs =>
          rw [h1, h2] at h
          show plX _ _
          rw [plX]
          exact ⟨rfl, rfl, h⟩
theorem rel_l (fs : List Fn) (o : Int) (t : ByteArray) : ∀ (xs : List Xp) (vs ls : List ByteArray) (i : Nat), RelL (resL fs vs ls o t i xs) (resL fs (vs.map vB) ls o (if isVar o then vB t else t) i (othXs xs))
  | [], vs, ls, i => by
    rw [othXs, resL, resL]
    show plXs _ _
    rw [plXs]
    trivial
  | x :: r, vs, ls, i => by
    have h := rel_x fs x (inVars o t i vs) (inLabs o t ls)
    have h' := rel_l fs o t r vs ls (i + 1)
    rw [othXs, resL, resL, inVars_v, inLabs_v]
    cases h1 : resX fs (inVars o t i vs) (inLabs o t ls) x with
    | lost e =>
      cases h2 : resX fs ((inVars o t i vs).map vB) (inLabs o t ls) (othX x) with
      | lost e' => trivial
      | ok y => rw [h1, h2] at h; exact h.elim
    | ok y =>
      cases h2 : resX fs ((inVars o t i vs).map vB) (inLabs o t ls) (othX x) with
      | lost e' => rw [h1, h2] at h; exact h.elim
      | ok z =>
        rw [h1, h2] at h
        simp only
        cases h3 : resL fs vs ls o t (i + 1) r with
        | lost e =>
          cases h4 : resL fs (vs.map vB) ls o (if isVar o then vB t else t) (i + 1) (othXs r) with
          | lost e' => trivial
          | ok zs => rw [h3, h4] at h'; exact h'.elim
        | ok ys =>
          cases h4 : resL fs (vs.map vB) ls o (if isVar o then vB t else t) (i + 1) (othXs r) with
          | lost e' => rw [h3, h4] at h'; exact h'.elim
          | ok zs =>
            rw [h3, h4] at h'
            show plXs _ _
            rw [plXs]
            exact ⟨h, h'⟩
end
/-! bare of what is resolved -/
mutual
def zeroX : Xp → Prop
  | .mk o t p k c s ns xs => p = 0 ∧ zeroXs xs
def zeroXs : List Xp → Prop
  | [] => True
  | x :: r => zeroX x ∧ zeroXs r
end
mutual
theorem bare_res (fs : List Fn) : ∀ (x : Xp) (vs ls : List ByteArray) (y : Xp), zeroX x → resX fs vs ls x = .ok y → bareX y = x
  | .mk o t p k c s ns xs, vs, ls, y, hz, h => by
    rw [zeroX] at hz
    rw [resX] at h
    split at h
    · simp at h
    · split at h
      · simp at h
      · rename_i ys hys
        cases h
        rw [bareX, bare_resL fs o t xs vs ls 0 ys hz.2 hys, hz.1]
theorem bare_resL (fs : List Fn) (o : Int) (t : ByteArray) : ∀ (xs : List Xp) (vs ls : List ByteArray) (i : Nat) (ys : List Xp), zeroXs xs → resL fs vs ls o t i xs = .ok ys → bareXs ys = xs
  | [], vs, ls, i, ys, hz, h => by
    rw [resL] at h
    cases h
    rfl
  | x :: r, vs, ls, i, ys, hz, h => by
    rw [zeroXs] at hz
    rw [resL] at h
    split at h
    · simp at h
    · rename_i y hy
      split at h
      · simp at h
      · rename_i zs hzs
        cases h
        rw [bareXs, bare_res fs x _ _ y hz.1 hy, bare_resL fs o t r vs ls (i + 1) zs hz.2 hzs]
end
mutual
theorem bare_pre : ∀ (y : Xp), (bareX y).pre.length = y.pre.length
  | .mk o t p k c s ns xs => by
    rw [bareX, Xp.pre, Xp.pre, List.length_cons, List.length_cons, bare_pres xs]
theorem bare_pres : ∀ (ys : List Xp), (Xp.pres (bareXs ys)).length = (Xp.pres ys).length
  | [] => rfl
  | y :: r => by rw [bareXs, Xp.pres, Xp.pres, List.length_append, List.length_append, bare_pre y, bare_pres r]
end
theorem resF_len (fs : List Fn) : ∀ (rest : List Fn) (i : Nat) (gs : List Fn), resF fs i rest = .ok gs → gs.length = rest.length
  | [], i, gs, h => by rw [resF] at h; cases h; rfl
  | f :: r, i, gs, h => by
    rw [resF] at h
    split at h
    · simp at h
    · split at h
      · simp at h
      · rename_i hs hhs
        cases h
        simp [resF_len fs r (i + 1) hs hhs]
theorem resF_get (fs : List Fn) : ∀ (rest : List Fn) (i : Nat) (gs : List Fn), resF fs i rest = .ok gs → (∀ f ∈ rest, zeroX f.body) → ∀ (j : Nat) (h1 : j < gs.length) (h2 : j < rest.length), bareX gs[j].body = rest[j].body
  | [], i, gs, h, _, j, _, h2 => by simp at h2
  | f :: r, i, gs, h, hz, j, h1, h2 => by
    rw [resF] at h
    split at h
    · simp at h
    · rename_i y hy
      split at h
      · simp at h
      · rename_i hs hhs
        cases h
        cases j with
        | zero => exact bare_res _ _ _ _ _ (hz f (by simp)) hy
        | succ j => exact resF_get fs r (i + 1) hs hhs (fun g hg => hz g (by simp [hg])) j (by simpa using h1) (by simpa using h2)
end Go.Pe.T

namespace Go.Pe.T
theorem fits_zero {o : Int} {t : ByteArray} {p k c s : Int} {ns : List ByteArray} {xs : List Xp} (h : fitsV (.mk o t p k c s ns xs) = true) : p = 0 ∧ (xs.length ≤ 100000 → ns.length ≤ 1000000) := by
  unfold fitsV at h
  simp only [Bool.and_eq_true, beq_iff_eq, decide_eq_true_eq] at h
  obtain ⟨_, h1, _, _, _, h2⟩ := h
  refine ⟨h1, fun hx => ?_⟩
  unfold namesV at h2
  split at h2
  · simp only [beq_iff_eq] at h2; omega
  · split at h2
    · simp only [Bool.and_eq_true, beq_iff_eq] at h2; omega
    · unfold name2 at h2
      split at h2
      · simp
      · simp at h2
mutual
theorem zero_of : ∀ (x : Xp), (x.pre.all fitsV) = true → zeroX x
  | .mk o t p k c s ns xs, h => by
    rw [Xp.pre, List.all_cons, Bool.and_eq_true] at h
    rw [zeroX]
    exact ⟨(fits_zero h.1).1, zeros_of xs h.2⟩
theorem zeros_of : ∀ (xs : List Xp), ((Xp.pres xs).all fitsV) = true → zeroXs xs
  | [], _ => trivial
  | x :: r, h => by
    rw [Xp.pres, List.all_append, Bool.and_eq_true] at h
    rw [zeroXs]
    exact ⟨zero_of x h.1, zeros_of r h.2⟩
end
mutual
theorem few_of : ∀ (x : Xp), x.pre.length ≤ 100000 → (x.pre.all fitsV) = true → xfew x
  | .mk o t p k c s ns xs, hl, h => by
    rw [Xp.pre, List.length_cons] at hl
    rw [Xp.pre, List.all_cons, Bool.and_eq_true] at h
    rw [xfew]
    have := pres_len xs
    exact ⟨(fits_zero h.1).2 (by omega), fews_of xs (by omega) h.2⟩
theorem fews_of : ∀ (xs : List Xp), (Xp.pres xs).length ≤ 100000 → ((Xp.pres xs).all fitsV) = true → xfews xs
  | [], _, _ => trivial
  | x :: r, hl, h => by
    rw [Xp.pres, List.length_append] at hl
    rw [Xp.pres, List.all_append, Bool.and_eq_true] at h
    rw [xfews]
    exact ⟨few_of x (by omega) h.1, fews_of r (by omega) h.2⟩
end
mutual
theorem short_of : ∀ (x : Xp), longB x.pre = false → shortX x
  | .mk o t p k c s ns xs, h => by
    rw [Xp.pre, longB, List.any_cons, Bool.or_eq_false_iff] at h
    rw [shortX]
    have h1 := h.1
    rw [decide_eq_false_iff_not] at h1
    exact ⟨by show t.size ≤ 12; simp only [xtext] at h1; omega, shorts_of xs h.2⟩
theorem shorts_of : ∀ (xs : List Xp), longB (Xp.pres xs) = false → shortXs xs
  | [], _ => trivial
  | x :: r, h => by
    rw [Xp.pres, longB, List.any_append, Bool.or_eq_false_iff] at h
    rw [shortXs]
    exact ⟨short_of x h.1, shorts_of r h.2⟩
end
theorem fits_v {o : Int} {t : ByteArray} {p k c s : Int} {ns : List ByteArray} {xs : List Xp} (h : fitsV (.mk o t p k c s ns xs) = true) (h12 : t.size ≤ 12) : fitsV (.mk o (if isVar o then vB t else t) p k c s ns (othXs xs)) = true := by
  unfold fitsV at h ⊢
  simp only at h ⊢
  rw [othXs_len]
  by_cases hv : isVar o = true
  · rw [hv, if_pos rfl]
    simp only [Bool.and_eq_true] at h ⊢
    obtain ⟨h0, h1, h2, h3, h4, h5⟩ := h
    refine ⟨h0, h1, h2, h3, ?_, h5⟩
    have ho : o ≠ 1 ∧ (shapeV o).2.2.1 = true := by
      unfold isVar at hv
      simp only [Bool.or_eq_true, beq_iff_eq] at hv
      rcases hv with ((hv | hv) | hv) | hv <;> subst hv <;> exact ⟨by omega, rfl⟩
    unfold textV at h4 ⊢
    rw [if_neg ho.1, ho.2] at h4 ⊢
    split at h4
    · simp at h4
    · rename_i hc
      rw [if_neg hc, if_pos rfl]
      rw [if_pos rfl] at h4
      exact ident_v t h4 h12
  · rw [if_neg hv]
    exact h
mutual
theorem isV_v : ∀ (x : Xp), (x.pre.all fitsV) = true → shortX x → ((othX x).pre.all fitsV) = true ∧ (othX x).pre.length = x.pre.length
  | .mk o t p k c s ns xs, h, hs => by
    rw [Xp.pre, List.all_cons, Bool.and_eq_true] at h
    rw [shortX] at hs
    obtain ⟨h1, h2⟩ := isVs_v xs h.2 hs.2
    rw [othX, Xp.pre, Xp.pre, List.all_cons, Bool.and_eq_true, List.length_cons, List.length_cons, h2]
    exact ⟨⟨fits_v h.1 hs.1, h1⟩, rfl⟩
theorem isVs_v : ∀ (xs : List Xp), ((Xp.pres xs).all fitsV) = true → shortXs xs → ((Xp.pres (othXs xs)).all fitsV) = true ∧ (Xp.pres (othXs xs)).length = (Xp.pres xs).length
  | [], _, _ => ⟨rfl, rfl⟩
  | x :: r, h, hs => by
    rw [Xp.pres, List.all_append, Bool.and_eq_true] at h
    rw [shortXs] at hs
    obtain ⟨h1, h2⟩ := isV_v x h.1 hs.1
    obtain ⟨h3, h4⟩ := isVs_v r h.2 hs.2
    rw [othXs, Xp.pres, Xp.pres, List.all_append, Bool.and_eq_true, List.length_append, List.length_append, h2, h4]
    exact ⟨⟨h1, h3⟩, rfl⟩
end
mutual
theorem oth_ok : ∀ (x : Xp), x.ok → shortX x → (othX x).ok
  | .mk o t p k c s ns xs, h, hs => by
    have hmx : maxLen = 9223372036854775807 := by decide
    rw [Xp.ok] at h
    rw [shortX] at hs
    rw [othX, Xp.ok]
    obtain ⟨a1, a2, a3, a4, a5, a6, a7, a8, a9, a10⟩ := h
    refine ⟨a1, ?_, a3, a4, a5, a6, a7, a8, by rw [othXs_len]; exact a9, oths_ok xs a10 hs.2⟩
    split
    · rw [vB_size]; omega
    · exact a2
theorem oths_ok : ∀ (xs : List Xp), Xp.oks xs → shortXs xs → Xp.oks (othXs xs)
  | [], _, _ => trivial
  | x :: r, h, hs => by
    rw [shortXs] at hs
    exact ⟨oth_ok x h.1 hs.1, oths_ok r h.2 hs.2⟩
end
theorem sameV_refl : ∀ (x : Xp), sameV x x = true := by
  have names : ∀ (l : List ByteArray), namesE l l = true := by
    intro l
    induction l with
    | nil => rfl
    | cons a l ih => simp [namesE, ih]
  have : ∀ (n : Nat) (x : Xp), SizeOf.sizeOf x ≤ n → sameV x x = true := by
    intro n
    induction n with
    | zero => intro x h; cases x; simp at h
    | succ n ih =>
      intro x h
      obtain ⟨o, t, p, k, c, s, ns, xs⟩ := x
      have hs : ∀ (l : List Xp), (∀ y ∈ l, SizeOf.sizeOf y ≤ n) → sameVs l l = true := by
        intro l
        induction l with
        | nil => intro _; simp [sameVs]
        | cons y l ihl => intro hy; simp [sameVs, ih y (hy y (by simp)), ihl fun z hz => hy z (by simp [hz])]
      simp [sameV, names, hs xs fun y hy => by have := List.sizeOf_lt_of_mem hy; simp at h; omega]
  exact fun x => this _ x (Nat.le_refl _)
/-- bare of what a resolved expression is, held against the expression -/
theorem bare_same (fs : List Fn) (vs ls : List ByteArray) (x y : Xp) (hx : x.ok) (hl : x.pre.length ≤ 100000) (hb : bareX y = x) :
    (∀ hp, F tab 19 [.d y.enc] hp = some (.ret (.d x.enc) hp)) ∧ (∀ hp, F tab 18 [.d x.enc, .d x.enc] hp = some (.ret (.d (.bool true)) hp)) := by
  have hpl : y.pre.length ≤ 100000 := by rw [← bare_pre, hb]; exact hl
  have h1 := bare_ok 100000 (by omega) _ y (Nat.le_refl _) hpl
  unfold BaIs at h1
  rw [hb] at h1
  refine ⟨h1, fun hp => ?_⟩
  have h2 := same_ok x x hx hx hp
  rw [sameV_refl] at h2
  exact h2
end Go.Pe.T

namespace Go.Pe.T
def boxP (fs : List Fn) (o : Int) (t : ByteArray) (p k c s : Int) (ns : List ByteArray) (xs : List Xp) : PV := .ibox [.d (.sl (fnDs fs)), .d (iv o), .d (.str t), .d (iv p), .d (iv k), .d (iv c), .d (iv s), .d (.sl (ns.map .str)), .d (.sl (Xp.encs xs))]
def NoLoop (fs gs : List Fn) (o : Int) (t : ByteArray) (p k c s : Int) (ns : List ByteArray) (xs : List Xp) (o' : Int) (t' : ByteArray) (p' k' c' s' : Int) (ns' : List ByteArray) (xs' : List Xp) (i : Nat) : Prop :=
  V (F tab) r4_B0 (r4_S0 (boxP fs o t p k c s ns xs) (boxP gs o' t' p' k' c' s' ns' xs') (.d (iv 0)) (.d (iv i)) []) =
    some (.norm, r4_E0 (boxP fs o t p k c s ns xs) (boxP gs o' t' p' k' c' s' ns' xs') (.d (iv 0)) [])
set_option maxHeartbeats 2000000 in
theorem no_loop (fs gs : List Fn) (hfl : fs.length ≤ 1000) (hg : gs.length = fs.length) (hf : ∀ f ∈ fs, FnIn f ∧ f.body.pre.length ≤ 100000) (hb : ∀ (j : Nat) (h1 : j < gs.length) (h2 : j < fs.length), bareX gs[j].body = fs[j].body)
    (o : Int) (t : ByteArray) (p k c s : Int) (ns : List ByteArray) (xs : List Xp) (o' : Int) (t' : ByteArray) (p' k' c' s' : Int) (ns' : List ByteArray) (xs' : List Xp) : ∀ (j i : Nat), i + j = fs.length → NoLoop fs gs o t p k c s ns xs o' t' p' k' c' s' ns' xs' i
  | 0, i, hi => by
    have h1 : ((i : Int) < (fs.length : Int)) = False := eq_false (by omega)
    have hfd : (fnDs fs).length = fs.length := by rw [fnDs, List.length_map]
    unfold NoLoop boxP
    rw [r4_B0_eq]
    simp (disch := omega) only [go_sem, and_self, and_true, true_and, false_and, and_false, Nat.reduceAdd, Nat.reduceMul, Nat.reduceSub, Nat.reduceLeDiff, Nat.reduceLT, Nat.reduceGT, Nat.reduceEqDiff, Nat.reduceBEq, Int.reduceNeg, Int.reduceEq, Int.reduceLT, Int.reduceLE, Int.reduceBEq, Int.reduceToNat, Int.toNat_natCast, Int.natCast_zero, r4_C0, h1, hfd]
  | j + 1, i, hi => by
    have ih := no_loop fs gs hfl hg hf hb o t p k c s ns xs o' t' p' k' c' s' ns' xs' j (i + 1) (by omega)
    have hi1 : i < fs.length := by omega
    have hi2 : i < gs.length := by omega
    have h1 : ((i : Int) < (fs.length : Int)) = True := eq_true (by omega)
    have hi0 : (0 ≤ (i : Int)) = True := eq_true (by omega)
    have hfd : (fnDs fs).length = fs.length := by rw [fnDs, List.length_map]
    have hgd : (fnDs gs).length = fs.length := by rw [fnDs, List.length_map, hg]
    have va : (fnDs fs)[i]? = some fs[i].enc := by rw [fnDs, List.getElem?_map, List.getElem?_eq_getElem hi1]; rfl
    have vb : (fnDs gs)[i]? = some gs[i].enc := by rw [fnDs, List.getElem?_map, List.getElem?_eq_getElem hi2]; rfl
    obtain ⟨hF, hpl⟩ := hf fs[i] (List.getElem_mem hi1)
    obtain ⟨b1, b2⟩ := bare_same fs [] [] fs[i].body gs[i].body hF.body hpl (hb i hi2 hi1)
    unfold NoLoop boxP at ih ⊢
    rw [Int.natCast_add, Int.natCast_one] at ih
    rw [r4_B0_eq]
    generalize fs[i] = f at *
    generalize gs[i] = g at *
    obtain ⟨of, tf, pf', kf, cf', sf, nsf, xsf, e1, e2⟩ := fn_as' f
    obtain ⟨og, tg, pg, kg, cg, sg, nsg, xsg, e3, e4⟩ := fn_as' g
    rw [e2] at va
    rw [e4] at vb
    rw [e1] at b1 b2
    rw [e3] at b1
    simp (disch := omega) only [go_sem, and_self, and_true, true_and, false_and, and_false, Nat.reduceAdd, Nat.reduceMul, Nat.reduceSub, Nat.reduceLeDiff, Nat.reduceLT, Nat.reduceGT, Nat.reduceEqDiff, Nat.reduceBEq, Int.reduceNeg, Int.reduceEq, Int.reduceLT, Int.reduceLE, Int.reduceBEq, Int.reduceToNat, Int.toNat_natCast, Int.natCast_zero, r4_C0, h1, hi0, hfd, hgd, va, vb, b1, b2, w64]
    exact ih
end Go.Pe.T

namespace Go.Pe.T
set_option maxHeartbeats 8000000 in
theorem ScopeNothing_ok (fs : List Fn) (x : Xp) (hin : fs.length ≤ maxLen ∧ (∀ f ∈ fs, FnIn f) ∧ x.ok) (hp : List Ent) : F tab 4 [.d (progD fs x)] hp = some (.ret (.d (.bool true)) hp) := by
  obtain ⟨hfl, hf, hx⟩ := hin
  have hmx : maxLen = 9223372036854775807 := by decide
  have hlv := slives_ok
  have hfd : (fnDs fs).length = fs.length := by rw [fnDs, List.length_map]
  have hL := lightP_ok fs x hfl hf hx
  have n15 : ((15 : Int) != 0) = true := rfl
  have n00 : ((0 : Int) != 0) = false := rfl
  obtain ⟨o, t, p, k, c, s, ns, xs, e1, e2⟩ := prog_as fs x
  rcases Bool.eq_false_or_eq_true (lightP fs x) with gl | gl
  · have gl' := gl
    unfold lightP at gl'
    simp only [Bool.and_eq_true, decide_eq_true_eq, List.all_eq_true] at gl'
    obtain ⟨l1, l2, l3⟩ := gl'
    have hfl' : fs.length ≤ 1000 := by omega
    have hI := sIs_ok fs x hfl' hf hx
    rcases Bool.eq_false_or_eq_true (isP fs x) with gi | gi
    · have gi' := gi
      unfold isP at gi'
      simp only [Bool.and_eq_true, decide_eq_true_eq, List.all_eq_true] at gi'
      obtain ⟨i1, i2, i3⟩ := gi'
      have i2' := i2
      unfold isV at i2'
      rw [Bool.and_eq_true, decide_eq_true_eq] at i2'
      have hz := zero_of x i2'.2
      have hfw := few_of x (by omega) i2'.2
      have hfn : ∀ f ∈ fs, isV f.body = true ∧ f.params.length ≤ 4 := by
        intro f hff
        have := i3 f hff
        unfold fnV at this
        simp only [Bool.and_eq_true, decide_eq_true_eq] at this
        exact ⟨this.2.2.2, this.2.1⟩
      have hfp : ∀ f ∈ fs, f.body.pre.length ≤ 512 ∧ (f.body.pre.all fitsV) = true := by
        intro f hff
        have := (hfn f hff).1
        unfold isV at this
        rw [Bool.and_eq_true, decide_eq_true_eq] at this
        exact this
      have hok : ∀ f ∈ fs, FnOk f := fun f hff => ⟨by have := (hfn f hff).2; omega, few_of _ (by have := (hfp f hff).1; omega) (hfp f hff).2, by have := (hfp f hff).1; omega⟩
      have hzf : ∀ f ∈ fs, zeroX f.body := fun f hff => zero_of _ (hfp f hff).2
      have hlg := long_ok x hx l3
      rw [gi] at hI
      have hI1 : ∀ hp, F tab 16 [.d (progD fs x)] hp = some (.ret (.d (.bool true)) hp) := hI
      rw [gl] at hL
      rw [e1] at hlg
      -- the renamed one
      have hoth : longB x.pre = false → (∀ hp, F tab 21 [.d x.enc] hp = some (.ret (.d (othX x).enc) hp)) ∧ (∀ hp, F tab 16 [.d (progD fs (othX x))] hp = some (.ret (.d (.bool true)) hp)) ∧ xfew (othX x) ∧ (othX x).pre.length ≤ 512 := by
        intro hlo
        have hs := short_of x hlo
        have h1 := other_ok 1000 (by omega) _ x (Nat.le_refl _) (by omega) hs
        obtain ⟨v1, v2⟩ := isV_v x i2'.2 hs
        have h2 := sIs_ok fs (othX x) hfl' hf (oth_ok x hx hs)
        have h3 : isP fs (othX x) = true := by
          unfold isP isV
          simp only [Bool.and_eq_true, decide_eq_true_eq, List.all_eq_true]
          exact ⟨i1, ⟨by omega, fun y hy => List.all_eq_true.1 v1 y hy⟩, i3⟩
        rw [h3] at h2
        exact ⟨h1, h2, few_of _ (by omega) v1, by omega⟩
      cases hr : resF fs 0 fs with
      | lost nm =>
        have r1 := res_lostF fs x nm hfl' hok hI1 hr
        unfold zpD at r1
        rw [e2] at hL hI1 r1 ⊢
        refine f4 rfl ?_
        rcases Bool.eq_false_or_eq_true (longB x.pre) with gg | gg
        · rw [gg] at hlg
          simp (disch := omega) only [go_sem, and_self, and_true, true_and, false_and, and_false, Nat.reduceAdd, Nat.reduceMul, Nat.reduceSub, Nat.reduceLeDiff, Nat.reduceLT, Nat.reduceGT, Nat.reduceEqDiff, Nat.reduceBEq, Int.reduceNeg, Int.reduceEq, Int.reduceLT, Int.reduceLE, Int.reduceBEq, Int.reduceToNat, Int.toNat_natCast, Int.natCast_zero, r4_T, r4, hL, hI1, r1, hlg, hlv]
        · rw [gg] at hlg
          obtain ⟨q1, q2, q3, q4⟩ := hoth gg
          have r2 := res_lostF fs (othX x) nm hfl' hok q2 hr
          obtain ⟨oo, to, po, ko, co', so, nso, xso, e3, e4⟩ := prog_as fs (othX x)
          unfold zpD at r2
          rw [e4] at r2
          rw [e1, e3] at q1
          simp (disch := omega) only [go_sem, and_self, and_true, true_and, false_and, and_false, Nat.reduceAdd, Nat.reduceMul, Nat.reduceSub, Nat.reduceLeDiff, Nat.reduceLT, Nat.reduceGT, Nat.reduceEqDiff, Nat.reduceBEq, Int.reduceNeg, Int.reduceEq, Int.reduceLT, Int.reduceLE, Int.reduceBEq, Int.reduceToNat, Int.toNat_natCast, Int.natCast_zero, r4_T, r4, hL, hI1, r1, hlg, hlv, q1, r2, n15]
      | ok gs =>
        have r1 := res_ok fs x gs hfl' hok hfw (by omega) hI1 hr
        have hrel := rel_x fs x [] []
        rw [List.map_nil] at hrel
        have hgl := resF_len fs fs 0 gs hr
        have hgd : (fnDs gs).length = fs.length := by rw [fnDs, List.length_map, hgl]
        cases hq : resX fs [] [] x with
        | lost nm =>
          rw [hq] at r1 hrel
          simp only at r1
          unfold zpD at r1
          rw [e2] at hL hI1 r1 ⊢
          refine f4 rfl ?_
          rcases Bool.eq_false_or_eq_true (longB x.pre) with gg | gg
          · rw [gg] at hlg
            simp (disch := omega) only [go_sem, and_self, and_true, true_and, false_and, and_false, Nat.reduceAdd, Nat.reduceMul, Nat.reduceSub, Nat.reduceLeDiff, Nat.reduceLT, Nat.reduceGT, Nat.reduceEqDiff, Nat.reduceBEq, Int.reduceNeg, Int.reduceEq, Int.reduceLT, Int.reduceLE, Int.reduceBEq, Int.reduceToNat, Int.toNat_natCast, Int.natCast_zero, r4_T, r4, hL, hI1, r1, hlg, hlv]
          · rw [gg] at hlg
            obtain ⟨q1, q2, q3, q4⟩ := hoth gg
            have r2 := res_ok fs (othX x) gs hfl' hok q3 (by omega) q2 hr
            obtain ⟨oo, to, po, ko, co', so, nso, xso, e3, e4⟩ := prog_as fs (othX x)
            cases hq2 : resX fs [] [] (othX x) with
            | ok z => rw [hq2] at hrel; exact hrel.elim
            | lost nm2 =>
              rw [hq2] at r2
              simp only at r2
              unfold zpD at r2
              rw [e4] at r2
              rw [e1, e3] at q1
              simp (disch := omega) only [go_sem, and_self, and_true, true_and, false_and, and_false, Nat.reduceAdd, Nat.reduceMul, Nat.reduceSub, Nat.reduceLeDiff, Nat.reduceLT, Nat.reduceGT, Nat.reduceEqDiff, Nat.reduceBEq, Int.reduceNeg, Int.reduceEq, Int.reduceLT, Int.reduceLE, Int.reduceBEq, Int.reduceToNat, Int.toNat_natCast, Int.natCast_zero, r4_T, r4, hL, hI1, r1, hlg, hlv, q1, r2, n15]
        | ok y =>
          rw [hq] at r1 hrel
          simp only at r1
          have hby := bare_res fs x [] [] y hz hq
          obtain ⟨b1, b2⟩ := bare_same fs [] [] x y hx (by omega) hby
          have hbf := resF_get fs fs 0 gs hr hzf
          obtain ⟨oy, ty, py, ky, cy, sy, nsy, xsy, e5, e6⟩ := prog_as gs y
          have hN := no_loop fs gs hfl' hgl (fun f hff => ⟨hf f hff, by have := (hfp f hff).1; omega⟩) hbf o t p k c s ns xs oy ty py ky cy sy nsy xsy fs.length 0 (by omega)
          unfold NoLoop boxP at hN
          have ypre : y.pre.length ≤ 100000 := by rw [← bare_pre, hby]; omega
          rw [e6] at r1
          rw [e1] at b1 b2
          rw [e5] at b1
          have nl : ((fs.length : Int) != (fs.length : Int)) = false := by simp
          rw [e2] at hL hI1 r1 ⊢
          refine f4 rfl ?_
          rcases Bool.eq_false_or_eq_true (longB x.pre) with gg | gg
          · rw [gg] at hlg
            simp (disch := omega) only [go_sem, and_self, and_true, true_and, false_and, and_false, Nat.reduceAdd, Nat.reduceMul, Nat.reduceSub, Nat.reduceLeDiff, Nat.reduceLT, Nat.reduceGT, Nat.reduceEqDiff, Nat.reduceBEq, Int.reduceNeg, Int.reduceEq, Int.reduceLT, Int.reduceLE, Int.reduceBEq, Int.reduceToNat, Int.toNat_natCast, Int.natCast_zero, r4_T, hL, hI1, r1, hlv, hfd, hgd, nl, b1, b2]
            rw [r4_B0_n]
            erw [hN]
            simp (disch := omega) only [go_sem, and_self, and_true, true_and, false_and, and_false, Nat.reduceAdd, Nat.reduceMul, Nat.reduceSub, Nat.reduceLeDiff, Nat.reduceLT, Nat.reduceGT, Nat.reduceEqDiff, Nat.reduceBEq, Int.reduceNeg, Int.reduceEq, Int.reduceLT, Int.reduceLE, Int.reduceBEq, Int.reduceToNat, Int.toNat_natCast, Int.natCast_zero, r4, hlg, hlv]
          · rw [gg] at hlg
            obtain ⟨q1, q2, q3, q4⟩ := hoth gg
            have r2 := res_ok fs (othX x) gs hfl' hok q3 (by omega) q2 hr
            obtain ⟨oo, to, po, ko, co', so, nso, xso, e3, e4⟩ := prog_as fs (othX x)
            cases hq2 : resX fs [] [] (othX x) with
            | lost nm2 => rw [hq2] at hrel; exact hrel.elim
            | ok z =>
              rw [hq2] at r2 hrel
              simp only at r2
              have hpl := places_ok 100000 (by omega) _ y z (Nat.le_refl _) ypre hrel
              unfold PlIs at hpl
              obtain ⟨oz, tz, pz, kz, cz, sz, nsz, xsz, e7, e8⟩ := prog_as gs z
              rw [e4, e8] at r2
              rw [e1, e3] at q1
              rw [e5, e7] at hpl
              simp (disch := omega) only [go_sem, and_self, and_true, true_and, false_and, and_false, Nat.reduceAdd, Nat.reduceMul, Nat.reduceSub, Nat.reduceLeDiff, Nat.reduceLT, Nat.reduceGT, Nat.reduceEqDiff, Nat.reduceBEq, Int.reduceNeg, Int.reduceEq, Int.reduceLT, Int.reduceLE, Int.reduceBEq, Int.reduceToNat, Int.toNat_natCast, Int.natCast_zero, r4_T, hL, hI1, r1, hlv, hfd, hgd, nl, b1, b2]
              rw [r4_B0_n]
              erw [hN]
              simp (disch := omega) only [go_sem, and_self, and_true, true_and, false_and, and_false, Nat.reduceAdd, Nat.reduceMul, Nat.reduceSub, Nat.reduceLeDiff, Nat.reduceLT, Nat.reduceGT, Nat.reduceEqDiff, Nat.reduceBEq, Int.reduceNeg, Int.reduceEq, Int.reduceLT, Int.reduceLE, Int.reduceBEq, Int.reduceToNat, Int.toNat_natCast, Int.natCast_zero, r4, hlg, hlv, q1, r2, n00, hpl]
    · rw [gi] at hI
      rw [gl] at hL
      rw [e2] at hL hI ⊢
      refine f4 rfl ?_
      simp (disch := omega) only [go_sem, and_self, and_true, true_and, false_and, and_false, Nat.reduceAdd, Nat.reduceMul, Nat.reduceSub, Nat.reduceLeDiff, Nat.reduceLT, Nat.reduceGT, Nat.reduceEqDiff, Nat.reduceBEq, Int.reduceNeg, Int.reduceEq, Int.reduceLT, Int.reduceLE, Int.reduceBEq, Int.reduceToNat, Int.toNat_natCast, Int.natCast_zero, r4_T, r4, hL, hI, hlv]
  · rw [gl] at hL
    rw [e2] at hL ⊢
    refine f4 rfl ?_
    simp (disch := omega) only [go_sem, and_self, and_true, true_and, false_and, and_false, Nat.reduceAdd, Nat.reduceMul, Nat.reduceSub, Nat.reduceLeDiff, Nat.reduceLT, Nat.reduceGT, Nat.reduceEqDiff, Nat.reduceBEq, Int.reduceNeg, Int.reduceEq, Int.reduceLT, Int.reduceLE, Int.reduceBEq, Int.reduceToNat, Int.toNat_natCast, Int.natCast_zero, r4_T, r4, hL, hlv]
end Go.Pe.T

namespace Go.Pe.T
section
variable {H : Type} {P : Program}
theorem lift_fn {tV tF tN tPs tS : TypeId} (hT : XpT P tV) {fF : Array Field} (h4 : P.underlying tF = some (.struct fF)) (h5 : fF.toList.map (·.type) = [tN, tPs, tV])
    (h6 : P.underlying tN = some .string) (h7 : P.underlying tPs = some (.slice tS)) (h8 : P.underlying tS = some .string) {d : DataW H} {y : D} (h : Lift P tF d y.cells) (ha : y.isAgg = aggT P tF) : ∃ f : Fn, FnIn f ∧ y = f.enc := by
  have hagg : aggT P tF = true := by simp [aggT, h4]
  have hy := agg_cells (y := y) (by rw [ha, hagg])
  obtain ⟨ds, l0⟩ := lift_st h4 h
  rw [h5] at l0
  obtain ⟨_, _, a1, b1, q1, m1, l1⟩ := lifts_cons l0
  obtain ⟨_, _, a2, b2, q2, m2, l2⟩ := lifts_cons l1
  obtain ⟨_, _, a3, b3, q3, m3, l3⟩ := lifts_cons l2
  obtain rfl := lifts_nil l3
  obtain ⟨nm, rfl, k1⟩ := lift_str h6 m1
  obtain ⟨ps, rfl, k2, k3⟩ := lift_strs h7 h8 m2
  obtain ⟨v, k4, k5⟩ := lift_xp hT _ _ a3 (Nat.le_refl _) m3
  refine ⟨⟨nm, ps, v⟩, ⟨k1, k2, k3, k4⟩, ?_⟩
  rw [hy, q1, q2, q3, Fn.enc, ← k5]
  simp [D.cells]
theorem lift_prog {tV tP tFs tF tN tPs tS : TypeId} (hT : XpT P tV) {fP fF : Array Field} (h1 : P.underlying tP = some (.struct fP)) (h2 : fP.toList.map (·.type) = [tFs, tV]) (h3 : P.underlying tFs = some (.slice tF))
    (h4 : P.underlying tF = some (.struct fF)) (h5 : fF.toList.map (·.type) = [tN, tPs, tV]) (h6 : P.underlying tN = some .string) (h7 : P.underlying tPs = some (.slice tS)) (h8 : P.underlying tS = some .string)
    {d : DataW H} {x : D} (h : Lift P tP d x.cells) (ha : x.isAgg = aggT P tP) : ∃ (fs : List Fn) (v : Xp), (fs.length ≤ maxLen ∧ (∀ f ∈ fs, FnIn f) ∧ v.ok) ∧ x = progD fs v := by
  have hagg : aggT P tP = true := by simp [aggT, h1]
  have hx := agg_cells (y := x) (by rw [ha, hagg])
  obtain ⟨ds, l0⟩ := lift_st h1 h
  rw [h2] at l0
  obtain ⟨_, _, a1, b1, q1, m1, l1⟩ := lifts_cons l0
  obtain ⟨_, _, a2, b2, q2, m2, l2⟩ := lifts_cons l1
  obtain rfl := lifts_nil l2
  obtain ⟨ys, rfl, k9, k10⟩ := lift_sl h3 m1
  obtain ⟨v, k4, k5⟩ := lift_xp hT _ _ a2 (Nat.le_refl _) m2
  have key : ∀ zs : List D, (∀ y ∈ zs, y ∈ ys) → ∃ fs : List Fn, (∀ f ∈ fs, FnIn f) ∧ zs = fnDs fs := by
    intro zs
    induction zs with
    | nil => exact fun _ => ⟨[], by simp, rfl⟩
    | cons y zs ih =>
      intro hz
      obtain ⟨fs, v1, v2⟩ := ih fun y hy => hz y (by simp [hy])
      obtain ⟨g1, d', g2⟩ := k10 y (hz y (by simp))
      obtain ⟨f, w1, w2⟩ := lift_fn hT h4 h5 h6 h7 h8 g2 g1
      exact ⟨f :: fs, by simpa using ⟨w1, v1⟩, by rw [v2, w2]; rfl⟩
  obtain ⟨fs, v1, v2⟩ := key ys (fun _ h => h)
  refine ⟨fs, v, ⟨?_, v1, k4⟩, ?_⟩
  · rw [v2, fnDs, List.length_map] at k9
    exact k9
  · rw [hx, q1, q2, progD, ← k5, v2]
    simp [D.cells]
end
end Go.Pe.T
