/- A part of the proof of: The text of any number, and the number of any coefficient and scale, are the document's, for all numbers. -/
import Derived.Test.YtjfdbgoajjhafaaDoorNt3
set_option linter.unusedSimpArgs false
set_option linter.unusedVariables false
set_option maxRecDepth 10000

namespace Go.Pe.T
/-! ### NumTexts -/
theorem of_ok64 (c : Int) (hc : i64 c) (hp : List Ent) :
    F tab 18 [.d (iv c)] hp = some (.ret (.d (longD (decide (c < 0)) (digs c.natAbs))) hp) := by
  refine f18 rfl ?_
  have hd := digs_len 19 c.natAbs (by have : (10 : Nat) ^ 19 = 10000000000000000000 := by decide
                                      unfold i64 at hc
                                      omega)
  have hL := of_loop (decide (c < 0)) [.d (.bool false), .nilsl] c.natAbs c [] rfl hc (by simp) (by omega)
  simp (disch := omega) only [go_sem, and_self, and_true, true_and, false_and, and_false, Nat.reduceAdd, Nat.reduceMul, Nat.reduceSub, Nat.reduceLeDiff, Nat.reduceLT, Nat.reduceGT, Nat.reduceEqDiff, Nat.reduceBEq, Int.reduceNeg, Int.reduceEq, Int.reduceLT, Int.reduceLE, Int.reduceBEq, Int.reduceToNat, Int.toNat_natCast, Int.natCast_zero, r18_T, r18]
  rw [r18_B0_n]
  erw [hL]
  rw [List.nil_append]
  cases digs c.natAbs with
  | nil => simp (disch := omega) only [go_sem, and_self, and_true, true_and, false_and, and_false, Nat.reduceAdd, Nat.reduceMul, Nat.reduceSub, Nat.reduceLeDiff, Nat.reduceLT, Nat.reduceGT, Nat.reduceEqDiff, Nat.reduceBEq, Int.reduceNeg, Int.reduceEq, Int.reduceLT, Int.reduceLE, Int.reduceBEq, Int.reduceToNat, Int.toNat_natCast, Int.natCast_zero, rowP]; rfl
  | cons x l => simp (disch := omega) only [go_sem, and_self, and_true, true_and, false_and, and_false, Nat.reduceAdd, Nat.reduceMul, Nat.reduceSub, Nat.reduceLeDiff, Nat.reduceLT, Nat.reduceGT, Nat.reduceEqDiff, Nat.reduceBEq, Int.reduceNeg, Int.reduceEq, Int.reduceLT, Int.reduceLE, Int.reduceBEq, Int.reduceToNat, Int.toNat_natCast, Int.natCast_zero, rowP]; rfl

theorem text_no (c s : Int) (h : numIs c s = false) (hp : List Ent) : F tab 21 [.d (numD c s)] hp = some (.ret (.d (.str ⟨#[63]⟩)) hp) := by
  have h1 := numIs_ok c s
  rw [h] at h1
  refine f21 rfl ?_
  simp (disch := omega) only [go_sem, and_self, and_true, true_and, false_and, and_false, Nat.reduceAdd, Nat.reduceMul, Nat.reduceSub, Nat.reduceLeDiff, Nat.reduceLT, Nat.reduceGT, Nat.reduceEqDiff, Nat.reduceBEq, Int.reduceNeg, Int.reduceEq, Int.reduceLT, Int.reduceLE, Int.reduceBEq, Int.reduceToNat, Int.toNat_natCast, Int.natCast_zero, r21_T, r21, numD, h1]
theorem text4_no (c s : Int) (h : numIs c s = false) (hp : List Ent) : F tab 22 [.d (numD c s)] hp = some (.ret (.d (.str ⟨#[63]⟩)) hp) := by
  have h1 := num4Is_ok c s
  rw [h] at h1
  refine f22 rfl ?_
  simp (disch := omega) only [go_sem, and_self, and_true, true_and, false_and, and_false, Nat.reduceAdd, Nat.reduceMul, Nat.reduceSub, Nat.reduceLeDiff, Nat.reduceLT, Nat.reduceGT, Nat.reduceEqDiff, Nat.reduceBEq, Int.reduceNeg, Int.reduceEq, Int.reduceLT, Int.reduceLE, Int.reduceBEq, Int.reduceToNat, Int.toNat_natCast, Int.natCast_zero, r22_T, r22, numD, h1]
theorem text_both (c s : Int) : ∃ T : ByteArray, (∀ hp, F tab 21 [.d (numD c s)] hp = some (.ret (.d (.str T)) hp)) ∧ ∀ hp, F tab 22 [.d (numD c s)] hp = some (.ret (.d (.str T)) hp) := by
  rcases Bool.eq_false_or_eq_true (numIs c s) with h | h
  · obtain ⟨k, rfl, _, _⟩ := numIs_inv h
    exact ⟨_, text_ok c k h, text4_ok c k h⟩
  · exact ⟨_, text_no c s h, text4_no c s h⟩
theorem make_far (c s : Int) (h : s < 0 ∨ 30 < s) (hp : List Ent) : F tab 16 [.d (iv c), .d (iv s)] hp = some (.ret (.tup [.d (.agg [iv 0, iv 0]), .d (iv 8)]) hp) := by
  refine f16 rfl ?_
  by_cases h1 : s < 0
  · simp (disch := omega) only [go_sem, and_self, and_true, true_and, false_and, and_false, Nat.reduceAdd, Nat.reduceMul, Nat.reduceSub, Nat.reduceLeDiff, Nat.reduceLT, Nat.reduceGT, Nat.reduceEqDiff, Nat.reduceBEq, Int.reduceNeg, Int.reduceEq, Int.reduceLT, Int.reduceLE, Int.reduceBEq, Int.reduceToNat, Int.toNat_natCast, Int.natCast_zero, r16_T, r16, h1]
  · have h2 : (s > 30) = True := eq_true (by omega)
    simp (disch := omega) only [go_sem, and_self, and_true, true_and, false_and, and_false, Nat.reduceAdd, Nat.reduceMul, Nat.reduceSub, Nat.reduceLeDiff, Nat.reduceLT, Nat.reduceGT, Nat.reduceEqDiff, Nat.reduceBEq, Int.reduceNeg, Int.reduceEq, Int.reduceLT, Int.reduceLE, Int.reduceBEq, Int.reduceToNat, Int.toNat_natCast, Int.natCast_zero, r16_T, r16, h1, h2]

set_option maxHeartbeats 2000000 in
theorem NumTexts_ok (c s : Int) (a sc : Int) (o : i64 c ∧ i64 s) (oa : i64 a) (os : i64 sc) (hp : List Ent) : F tab 4 [.d (numD c s), .d (iv a), .d (iv sc)] hp = some (.ret (.d (.bool true)) hp) := by
  have i1 := numIs_ok c s
  have i2 := num4Is_ok c s
  obtain ⟨T, t1, t2⟩ := text_both c s
  have hL := lives4_ok
  have q0 : ∀ u : Bool, (u == u) = true := fun u => by simp
  have q1 : ∀ u : Int, (u == u) = true := fun u => by simp
  have q2 : ∀ u : List UInt8, (u == u) = true := fun u => by simp
  have z80 : ((8 : Int) == 0) = false := rfl
  have z88 : ((8 : Int) == 8) = true := rfl
  have z00 : ((0 : Int) == 0) = true := rfl
  simp only [numD] at i1 i2 t1 t2
  refine f4 rfl ?_
  by_cases h0 : sc < 0
  · have hm := make_far a sc (.inl h0)
    have g1 : (sc ≥ 0) = False := eq_false (by omega)
    simp (maxSteps := 2000000) (disch := omega) only [go_sem, and_self, and_true, true_and, false_and, and_false, Nat.reduceAdd, Nat.reduceMul, Nat.reduceSub, Nat.reduceLeDiff, Nat.reduceLT, Nat.reduceGT, Nat.reduceEqDiff, Nat.reduceBEq, Int.reduceNeg, Int.reduceEq, Int.reduceLT, Int.reduceLE, Int.reduceBEq, Int.reduceToNat, Int.toNat_natCast, Int.natCast_zero, r4_T, r4, numD, i1, i2, t1, t2, hm, g1, q0, q1, q2, z80, z88, z00, eqD_num, hL, strD]
  · have g1 : (sc ≥ 0) = True := eq_true (by omega)
    by_cases h30 : sc > 30
    · have hm := make_far a sc (.inr (by omega))
      have g2 : (sc ≤ 30) = False := eq_false (by omega)
      simp (maxSteps := 2000000) (disch := omega) only [go_sem, and_self, and_true, true_and, false_and, and_false, Nat.reduceAdd, Nat.reduceMul, Nat.reduceSub, Nat.reduceLeDiff, Nat.reduceLT, Nat.reduceGT, Nat.reduceEqDiff, Nat.reduceBEq, Int.reduceNeg, Int.reduceEq, Int.reduceLT, Int.reduceLE, Int.reduceBEq, Int.reduceToNat, Int.toNat_natCast, Int.natCast_zero, r4_T, r4, numD, i1, i2, t1, t2, hm, g1, g2, q0, q1, q2, z80, z88, z00, eqD_num, hL, strD]
    · have g2 : (sc ≤ 30) = True := eq_true (by omega)
      obtain ⟨k, rfl⟩ := Int.eq_ofNat_of_zero_le (show 0 ≤ sc by omega)
      have hm := make_ok a k oa (by omega)
      have ho := of_ok64 a oa
      obtain ⟨v1, v2⟩ := digs_val a.natAbs
      have hd := digs_len 19 a.natAbs (by have : (10 : Nat) ^ 19 = 10000000000000000000 := by decide
                                          unfold i64 at oa
                                          omega)
      have hn := num4_ok (decide (a < 0)) (digs a.natAbs) v2 (by omega) k (by omega)
      rw [numR_told _ _ v2 k, v1, sv_abs] at hn
      unfold toldR at hn
      simp only [longD] at ho hn
      rcases Bool.eq_false_or_eq_true (makeOk a k) with g | g
      · rw [made_yes g] at hm
        rw [g] at hn
        simp only [if_true, numD] at hn
        simp (maxSteps := 2000000) (disch := omega) only [go_sem, and_self, and_true, true_and, false_and, and_false, Nat.reduceAdd, Nat.reduceMul, Nat.reduceSub, Nat.reduceLeDiff, Nat.reduceLT, Nat.reduceGT, Nat.reduceEqDiff, Nat.reduceBEq, Int.reduceNeg, Int.reduceEq, Int.reduceLT, Int.reduceLE, Int.reduceBEq, Int.reduceToNat, Int.toNat_natCast, Int.natCast_zero, r4_T, r4, numD, i1, i2, t1, t2, hm, ho, hn, g1, g2, q0, q1, q2, z80, z88, z00, eqD_num, hL, strD]
      · rw [made_no g] at hm
        rw [g] at hn
        simp only [Bool.false_eq_true, if_false, numD] at hn
        simp (maxSteps := 2000000) (disch := omega) only [go_sem, and_self, and_true, true_and, false_and, and_false, Nat.reduceAdd, Nat.reduceMul, Nat.reduceSub, Nat.reduceLeDiff, Nat.reduceLT, Nat.reduceGT, Nat.reduceEqDiff, Nat.reduceBEq, Int.reduceNeg, Int.reduceEq, Int.reduceLT, Int.reduceLE, Int.reduceBEq, Int.reduceToNat, Int.toNat_natCast, Int.natCast_zero, r4_T, r4, numD, i1, i2, t1, t2, hm, ho, hn, g1, g2, q0, q1, q2, z80, z88, z00, eqD_num, hL, strD]
end Go.Pe.T
