/- A part of the proof of: Sums, differences and products of two numbers, and which is greater: what the code answers with a whole part and billionths, and with 128 bits, is what the document's rows of digits answer; what may not be is refused. -/
import Derived.Test.YtjfdbgoajjhafaaDoorNs2
set_option linter.unusedSimpArgs false
set_option linter.unusedVariables false
set_option maxRecDepth 10000

namespace Go.Pe.T
/-! ### num.Mul -/
abbrev bigD (x : Int) : D := .agg [.int .u64 (x / 18446744073709551616), .int .u64 (x % 18446744073709551616)]

theorem tenth_ok (x : Int) (hx : 0 ≤ x ∧ x < 340282366920938463463374607431768211456) (hp : List Ent) : F tab 65 [.d (bigD x)] hp = some (.ret (.tup [.d (bigD (x / 10)), .d (uv (x % 10))]) hp) := by
  have h1 := div64z_ok (x / 18446744073709551616) (by omega)
  have q1 : x / 18446744073709551616 / 10 = x / 10 / 18446744073709551616 := by omega
  have hi : ((0 : Int) < ((2 : Nat) : Int)) = True := eq_true (by omega)
  have hi1 : ((1 : Int) < ((2 : Nat) : Int)) = True := eq_true (by omega)
  have t0 : (0 : Int).toNat = 0 := rfl
  have t1 : (1 : Int).toNat = 1 := rfl
  refine f65 rfl ?_
  by_cases hr : x / 18446744073709551616 % 10 = 0
  · have h2 := div64z_ok (x % 18446744073709551616) (by omega)
    have q2 : x % 18446744073709551616 / 10 = x / 10 % 18446744073709551616 := by omega
    have q3 : x % 18446744073709551616 % 10 = x % 10 := by omega
    rw [q1, hr] at h1
    rw [q2, q3] at h2
    simp (maxSteps := 1000000) (disch := omega) only [go_sem, and_self, and_true, true_and, false_and, and_false, Nat.reduceAdd, Nat.reduceMul, Nat.reduceSub, Nat.reduceLeDiff, Nat.reduceLT, Nat.reduceGT, Nat.reduceEqDiff, Nat.reduceBEq, Int.reduceNeg, Int.reduceEq, Int.reduceLT, Int.reduceLE, Int.reduceBEq, Int.reduceToNat, Int.toNat_natCast, Int.natCast_zero, r65_T, r65, h1, h2, hi, hi1, t0, t1]
  · have h2 := div64_ok (x / 18446744073709551616 % 10) (x % 18446744073709551616) (by omega) (by omega)
    have q2 : (x / 18446744073709551616 % 10 * 18446744073709551616 + x % 18446744073709551616) / 10 = x / 10 % 18446744073709551616 := by omega
    have q3 : (x / 18446744073709551616 % 10 * 18446744073709551616 + x % 18446744073709551616) % 10 = x % 10 := by omega
    rw [q1] at h1
    rw [q2, q3] at h2
    simp (maxSteps := 1000000) (disch := omega) only [go_sem, and_self, and_true, true_and, false_and, and_false, Nat.reduceAdd, Nat.reduceMul, Nat.reduceSub, Nat.reduceLeDiff, Nat.reduceLT, Nat.reduceGT, Nat.reduceEqDiff, Nat.reduceBEq, Int.reduceNeg, Int.reduceEq, Int.reduceLT, Int.reduceLE, Int.reduceBEq, Int.reduceToNat, Int.toNat_natCast, Int.natCast_zero, r65_T, r65, h1, h2, hi, hi1, t0, t1]

theorem strip_pos (x : Int) (k : Nat) (hx : 0 ≤ x) : stripN x (k + 1) = if x % 10 = 0 then stripN (x / 10) k else (x, k + 1) := by
  rw [stripN, Int.tmod_eq_emod_of_nonneg hx, Int.tdiv_eq_ediv_of_nonneg hx]
theorem strip_nonneg : ∀ (k : Nat) (x : Int), 0 ≤ x → 0 ≤ (stripN x k).1
  | 0, x, h => h
  | k + 1, x, h => by
    rw [strip_pos x k h]
    split
    · exact strip_nonneg k (x / 10) (by omega)
    · exact h

abbrev bigB (x : Int) : PV := .ibox [.d (uv (x / 18446744073709551616)), .d (uv (x % 18446744073709551616))]
def MuIs (X2 X3 X4 : List PV) (x : Int) (k : Nat) : Prop :=
  V (F tab) r36_B0 (r36_S0 (.ibox X2) (.ibox X3) (.ibox X4) (bigB x) (.d (iv k)) []) = some (.norm, r36_E0 (.ibox X2) (.ibox X3) (.ibox X4) (bigB (stripN x k).1) (.d (iv (stripN x k).2)) [])
theorem mu_loop (X2 X3 X4 : List PV) : ∀ (k : Nat) (x : Int), k ≤ 100 → 0 ≤ x ∧ x < 340282366920938463463374607431768211456 → MuIs X2 X3 X4 x k
  | 0, x, hk, hx => by
    have h1 : ((0 : Int) > 0) = False := eq_false (by omega)
    have h2 : (((0 : Nat) : Int) > 0) = False := eq_false (by omega)
    unfold MuIs
    rw [r36_B0_eq]
    simp (disch := omega) only [go_sem, and_self, and_true, true_and, false_and, and_false, Nat.reduceAdd, Nat.reduceMul, Nat.reduceSub, Nat.reduceLeDiff, Nat.reduceLT, Nat.reduceGT, Nat.reduceEqDiff, Nat.reduceBEq, Int.reduceNeg, Int.reduceEq, Int.reduceLT, Int.reduceLE, Int.reduceBEq, Int.reduceToNat, Int.toNat_natCast, Int.natCast_zero, r36_C0, stripN, h1, h2]
  | k + 1, x, hk, hx => by
    have ih := mu_loop X2 X3 X4 k (x / 10) (by omega) (by omega)
    have h1 : (((k + 1 : Nat) : Int) > 0) = True := eq_true (by omega)
    have e1 : ((k + 1 : Nat) : Int) - 1 = (k : Int) := by omega
    have ht := tenth_ok x hx
    unfold MuIs at ih ⊢
    rw [r36_B0_eq, strip_pos x k hx.1]
    by_cases h0 : x % 10 = 0
    · rw [if_pos h0]
      rw [h0] at ht
      have z : ((0 : Int) != 0) = false := rfl
      simp (maxSteps := 1000000) (disch := omega) only [go_sem, and_self, and_true, true_and, false_and, and_false, Nat.reduceAdd, Nat.reduceMul, Nat.reduceSub, Nat.reduceLeDiff, Nat.reduceLT, Nat.reduceGT, Nat.reduceEqDiff, Nat.reduceBEq, Int.reduceNeg, Int.reduceEq, Int.reduceLT, Int.reduceLE, Int.reduceBEq, Int.reduceToNat, Int.toNat_natCast, Int.natCast_zero, r36_C0, h1, ht, z, e1, w64]
      exact ih
    · rw [if_neg h0]
      have z : (x % 10 != 0) = true := by simp [h0]
      simp (maxSteps := 1000000) (disch := omega) only [go_sem, and_self, and_true, true_and, false_and, and_false, Nat.reduceAdd, Nat.reduceMul, Nat.reduceSub, Nat.reduceLeDiff, Nat.reduceLT, Nat.reduceGT, Nat.reduceEqDiff, Nat.reduceBEq, Int.reduceNeg, Int.reduceEq, Int.reduceLT, Int.reduceLE, Int.reduceBEq, Int.reduceToNat, Int.toNat_natCast, Int.natCast_zero, r36_C0, h1, ht, z]

set_option maxHeartbeats 2000000 in
theorem mul_ok (c c' : Int) (k k' : Nat) (h : numIs c k = true) (h' : numIs c' k' = true) (hp : List Ent) :
    F tab 36 [.d (numD c k), .d (numD c' k')] hp = some (.ret (madeT (c * c') (k + k')) hp) := by
  obtain ⟨_, e0, hk, hc⟩ := numIs_inv h
  obtain ⟨_, e1, hk', hc'⟩ := numIs_inv h'
  have e0 := Int.ofNat.inj e0
  have e1 := Int.ofNat.inj e1
  subst e0; subst e1
  have hb := both_ok c k c' k'
  rw [h, h'] at hb
  have s1 := size_ok c (by omega)
  have s2 := size_ok c' (by omega)
  have m1 := mul64_ok c.natAbs c'.natAbs (by omega) (by omega)
  have hP : c * c' = sv (decide (c < 0) != decide (c' < 0)) ((c.natAbs : Int) * (c'.natAbs : Int)) := by
    have a1 := sv_abs c
    have a2 := sv_abs c'
    have : c * c' = sv (decide (c < 0)) (c.natAbs : Int) * sv (decide (c' < 0)) (c'.natAbs : Int) := by rw [a1, a2]
    rw [this]
    cases decide (c < 0) <;> cases decide (c' < 0) <;> simp [sv, Int.neg_mul, Int.mul_neg]
  have hbd : 0 ≤ (c.natAbs : Int) * (c'.natAbs : Int) ∧ (c.natAbs : Int) * (c'.natAbs : Int) < 340282366920938463463374607431768211456 := by
    refine ⟨Int.mul_nonneg (by omega) (by omega), ?_⟩
    have g : (c.natAbs : Int) * (c'.natAbs : Int) ≤ 1000000000000000 * (c'.natAbs : Int) := Int.mul_le_mul_of_nonneg_right (by omega) (by omega)
    omega
  have hL := mu_loop [.d (iv c), .d (iv k)] [.d (iv c'), .d (iv k')] [.d (iv 0), .d (iv 0)] (k + k') _ (by omega) hbd
  have hnn := strip_nonneg (k + k') _ hbd.1
  have hst := strip_sv (decide (c < 0) != decide (c' < 0)) (k + k') ((c.natAbs : Int) * (c'.natAbs : Int))
  have hab := strip_abs (k + k') ((c.natAbs : Int) * (c'.natAbs : Int)) 340282366920938463463374607431768211456 (by omega)
  have hsk := (strip_val (k + k') ((c.natAbs : Int) * (c'.natAbs : Int))).1
  rw [← hP] at hst
  have hid := made_idem (c * c') (k + k')
  rw [hst] at hid
  have hmk : makeOk (c * c') (k + k') = numIs (stripN (c * c') (k + k')).1 (stripN (c * c') (k + k')).2 := rfl
  rw [hst] at hmk
  simp only at hid hmk
  generalize (c.natAbs : Int) * (c'.natAbs : Int) = P at *
  unfold MuIs at hL
  generalize hq : stripN P (k + k') = q at *
  obtain ⟨Q, s⟩ := q
  simp only at *
  generalize hT : madeT (c * c') (k + k') = T at *
  have ek : (k : Int) + (k' : Int) = ((k + k' : Nat) : Int) := rfl
  have hi : ((0 : Int) < ((2 : Nat) : Int)) = True := eq_true (by omega)
  have hi1 : ((1 : Int) < ((2 : Nat) : Int)) = True := eq_true (by omega)
  have t0 : (0 : Int).toNat = 0 := rfl
  have t1 : (1 : Int).toNat = 1 := rfl
  refine f36 rfl ?_
  simp (maxSteps := 2000000) (disch := omega) only [go_sem, and_self, and_true, true_and, false_and, and_false, Nat.reduceAdd, Nat.reduceMul, Nat.reduceSub, Nat.reduceLeDiff, Nat.reduceLT, Nat.reduceGT, Nat.reduceEqDiff, Nat.reduceBEq, Int.reduceNeg, Int.reduceEq, Int.reduceLT, Int.reduceLE, Int.reduceBEq, Int.reduceToNat, Int.toNat_natCast, Int.natCast_zero, r36_T, r36, numD, hb, s1, s2, m1, hi, hi1, t0, t1, ek, w64]
  rw [r36_B0_n]
  erw [hL]
  by_cases hbig : Q ≥ 1000000000000000
  · have hno : makeOk (c * c') (k + k') = false := by
      rw [hmk]
      unfold numIs
      cases (decide (c < 0) != decide (c' < 0)) with
      | true =>
        have : ¬ (-1000000000000000 < sv true Q) := by simp only [sv, if_true]; omega
        simp [this]
      | false =>
        have : ¬ (sv false Q < 1000000000000000) := by simp only [sv, Bool.false_eq_true, if_false]; omega
        simp [this]
    have hTn := made_no hno
    rw [hT] at hTn
    subst hTn
    by_cases hq0 : Q / 18446744073709551616 = 0
    · have z : ((0 : Int) != 0) = false := rfl
      have g1 : (Q % 18446744073709551616 ≥ 1000000000000000) = True := eq_true (by omega)
      simp (maxSteps := 2000000) (disch := omega) only [go_sem, and_self, and_true, true_and, false_and, and_false, Nat.reduceAdd, Nat.reduceMul, Nat.reduceSub, Nat.reduceLeDiff, Nat.reduceLT, Nat.reduceGT, Nat.reduceEqDiff, Nat.reduceBEq, Int.reduceNeg, Int.reduceEq, Int.reduceLT, Int.reduceLE, Int.reduceBEq, Int.reduceToNat, Int.toNat_natCast, Int.natCast_zero, hq0, z, g1, hi, hi1, t0, t1]
    · have z : (Q / 18446744073709551616 != 0) = true := by simp [hq0]
      simp (maxSteps := 2000000) (disch := omega) only [go_sem, and_self, and_true, true_and, false_and, and_false, Nat.reduceAdd, Nat.reduceMul, Nat.reduceSub, Nat.reduceLeDiff, Nat.reduceLT, Nat.reduceGT, Nat.reduceEqDiff, Nat.reduceBEq, Int.reduceNeg, Int.reduceEq, Int.reduceLT, Int.reduceLE, Int.reduceBEq, Int.reduceToNat, Int.toNat_natCast, Int.natCast_zero, z, hi, hi1, t0, t1]
  · have hq0 : Q / 18446744073709551616 = 0 := by omega
    have hq1 : Q % 18446744073709551616 = Q := by omega
    have z : ((0 : Int) != 0) = false := rfl
    have g1 : (Q ≥ 1000000000000000) = False := eq_false hbig
    have hmake : ∀ hp, F tab 16 [.d (iv (sv (decide (c < 0) != decide (c' < 0)) Q)), .d (iv s)] hp = some (.ret T hp) := by
      intro hp
      rw [make_ok _ s (by cases (decide (c < 0) != decide (c' < 0)) <;> simp only [sv, if_true, Bool.false_eq_true, if_false, i64] <;> omega) (by omega) hp, hid]
    have hm : ∃ x y b, T = .tup [.d (.agg [iv x, iv y]), .d (iv b)] := by
      rw [← hT]
      rcases Bool.eq_false_or_eq_true (makeOk (c * c') (k + k')) with g | g
      · exact ⟨_, _, _, made_yes g⟩
      · exact ⟨_, _, _, made_no g⟩
    obtain ⟨x, y, b, rfl⟩ := hm
    have hne : (decide (c < 0) != decide (c' < 0)) = !(decide (c < 0) == decide (c' < 0)) := rfl
    rw [hne] at hmake
    rcases Bool.eq_false_or_eq_true (decide (c < 0) == decide (c' < 0)) with g | g
    · rw [g] at hmake
      simp only [sv, Bool.not_true, Bool.false_eq_true, if_false] at hmake
      simp (maxSteps := 2000000) (disch := omega) only [go_sem, and_self, and_true, true_and, false_and, and_false, Nat.reduceAdd, Nat.reduceMul, Nat.reduceSub, Nat.reduceLeDiff, Nat.reduceLT, Nat.reduceGT, Nat.reduceEqDiff, Nat.reduceBEq, Int.reduceNeg, Int.reduceEq, Int.reduceLT, Int.reduceLE, Int.reduceBEq, Int.reduceToNat, Int.toNat_natCast, Int.natCast_zero, hq0, hq1, z, g1, hi, hi1, t0, t1, g, hmake, w64]
    · rw [g] at hmake
      simp only [sv, Bool.not_false, if_true] at hmake
      simp (maxSteps := 2000000) (disch := omega) only [go_sem, and_self, and_true, true_and, false_and, and_false, Nat.reduceAdd, Nat.reduceMul, Nat.reduceSub, Nat.reduceLeDiff, Nat.reduceLT, Nat.reduceGT, Nat.reduceEqDiff, Nat.reduceBEq, Int.reduceNeg, Int.reduceEq, Int.reduceLT, Int.reduceLE, Int.reduceBEq, Int.reduceToNat, Int.toNat_natCast, Int.natCast_zero, hq0, hq1, z, g1, hi, hi1, t0, t1, g, hmake, w64, Int.zero_sub]
end Go.Pe.T

namespace Go.Pe.T
/-! ### NumSums -/
/-- what there is of a sum: a number and an error -/
theorem made_ex (T : Int) (k : Nat) : ∃ x y b, madeT T k = .tup [.d (.agg [iv x, iv y]), .d (iv b)] := by
  rcases Bool.eq_false_or_eq_true (makeOk T k) with g | g
  · exact ⟨_, _, _, made_yes g⟩
  · exact ⟨_, _, _, made_no g⟩

section
variable (c s c' s' : Int) (h : (numIs c s && numIs c' s') = false)
include h
theorem add_no (hp : List Ent) : F tab 35 [.d (numD c s), .d (numD c' s')] hp = some (.ret (.tup [.d (.agg [iv 0, iv 0]), .d (iv 1)]) hp) := by
  have hb := both_ok c s c' s'
  rw [h] at hb
  refine f35 rfl ?_
  simp (disch := omega) only [go_sem, and_self, and_true, true_and, false_and, and_false, Nat.reduceAdd, Nat.reduceMul, Nat.reduceSub, Nat.reduceLeDiff, Nat.reduceLT, Nat.reduceGT, Nat.reduceEqDiff, Nat.reduceBEq, Int.reduceNeg, Int.reduceEq, Int.reduceLT, Int.reduceLE, Int.reduceBEq, Int.reduceToNat, Int.toNat_natCast, Int.natCast_zero, r35_T, r35, hb]
theorem sub_no (hp : List Ent) : F tab 34 [.d (numD c s), .d (numD c' s')] hp = some (.ret (.tup [.d (.agg [iv 0, iv 0]), .d (iv 1)]) hp) := by
  have hb := both_ok c s c' s'
  rw [h] at hb
  refine f34 rfl ?_
  simp (disch := omega) only [go_sem, and_self, and_true, true_and, false_and, and_false, Nat.reduceAdd, Nat.reduceMul, Nat.reduceSub, Nat.reduceLeDiff, Nat.reduceLT, Nat.reduceGT, Nat.reduceEqDiff, Nat.reduceBEq, Int.reduceNeg, Int.reduceEq, Int.reduceLT, Int.reduceLE, Int.reduceBEq, Int.reduceToNat, Int.toNat_natCast, Int.natCast_zero, r34_T, r34, hb]
theorem mul_no (hp : List Ent) : F tab 36 [.d (numD c s), .d (numD c' s')] hp = some (.ret (.tup [.d (.agg [iv 0, iv 0]), .d (iv 1)]) hp) := by
  have hb := both_ok c s c' s'
  rw [h] at hb
  refine f36 rfl ?_
  simp (disch := omega) only [go_sem, and_self, and_true, true_and, false_and, and_false, Nat.reduceAdd, Nat.reduceMul, Nat.reduceSub, Nat.reduceLeDiff, Nat.reduceLT, Nat.reduceGT, Nat.reduceEqDiff, Nat.reduceBEq, Int.reduceNeg, Int.reduceEq, Int.reduceLT, Int.reduceLE, Int.reduceBEq, Int.reduceToNat, Int.toNat_natCast, Int.natCast_zero, r36_T, r36, hb]
theorem div_no (hp : List Ent) : F tab 26 [.d (numD c s), .d (numD c' s')] hp = some (.ret (.tup [.d (.agg [iv 0, iv 0]), .d (iv 1)]) hp) := by
  have hb := both_ok c s c' s'
  rw [h] at hb
  refine f26 rfl ?_
  simp (disch := omega) only [go_sem, and_self, and_true, true_and, false_and, and_false, Nat.reduceAdd, Nat.reduceMul, Nat.reduceSub, Nat.reduceLeDiff, Nat.reduceLT, Nat.reduceGT, Nat.reduceEqDiff, Nat.reduceBEq, Int.reduceNeg, Int.reduceEq, Int.reduceLT, Int.reduceLE, Int.reduceBEq, Int.reduceToNat, Int.toNat_natCast, Int.natCast_zero, r26_T, r26, hb]
theorem mod_no (hp : List Ent) : F tab 28 [.d (numD c s), .d (numD c' s')] hp = some (.ret (.tup [.d (.agg [iv 0, iv 0]), .d (iv 1)]) hp) := by
  have hb := both_ok c s c' s'
  rw [h] at hb
  refine f28 rfl ?_
  simp (disch := omega) only [go_sem, and_self, and_true, true_and, false_and, and_false, Nat.reduceAdd, Nat.reduceMul, Nat.reduceSub, Nat.reduceLeDiff, Nat.reduceLT, Nat.reduceGT, Nat.reduceEqDiff, Nat.reduceBEq, Int.reduceNeg, Int.reduceEq, Int.reduceLT, Int.reduceLE, Int.reduceBEq, Int.reduceToNat, Int.toNat_natCast, Int.natCast_zero, r28_T, r28, hb]
theorem cmp_no (hp : List Ent) : F tab 33 [.d (numD c s), .d (numD c' s')] hp = some (.ret (.d (iv 0)) hp) := by
  have hb := both_ok c s c' s'
  rw [h] at hb
  refine f33 rfl ?_
  simp (disch := omega) only [go_sem, and_self, and_true, true_and, false_and, and_false, Nat.reduceAdd, Nat.reduceMul, Nat.reduceSub, Nat.reduceLeDiff, Nat.reduceLT, Nat.reduceGT, Nat.reduceEqDiff, Nat.reduceBEq, Int.reduceNeg, Int.reduceEq, Int.reduceLT, Int.reduceLE, Int.reduceBEq, Int.reduceToNat, Int.toNat_natCast, Int.natCast_zero, r33_T, r33, hb]
end

set_option maxHeartbeats 2000000 in
theorem NumSums_ok (a k b l : Int) (oa : i64 a ∧ i64 k) (ob : i64 b ∧ i64 l) (hp : List Ent) : F tab 10 [.d (numD a k), .d (numD b l)] hp = some (.ret (.d (.bool true)) hp) := by
  have i1 := num4Is_ok a k
  have i2 := num4Is_ok b l
  have hL := lives4_ok
  have q1 : ∀ u : Int, (u == u) = true := fun u => by simp
  have q0 : ∀ u : Bool, (u == u) = true := fun u => by simp
  have z1 : ((1 : Int) == 1) = true := rfl
  have z0 : ((0 : Int) == 0) = true := rfl
  refine f10 rfl ?_
  rcases Bool.eq_false_or_eq_true (numIs a k) with ha | ha
  · rcases Bool.eq_false_or_eq_true (numIs b l) with hb | hb
    · rw [ha] at i1; rw [hb] at i2
      obtain ⟨k', rfl, hk, hc⟩ := numIs_inv ha
      obtain ⟨l', rfl, hk', hc'⟩ := numIs_inv hb
      have h1 := add_ok a b k' l' ha hb
      have h2 := sub_ok a b k' l' ha hb
      have h3 := mul_ok a b k' l' ha hb
      have h4 := numcmp_ok a b k' l' ha hb
      have g1 := add4_ok a b k' l' hk hk' hc hc'
      have g2 := sub4_ok a b k' l' hk hk' hc hc'
      have g3 := mul4_ok a b k' l' hk hk' hc hc'
      have g4 := cmp4_ok a b k' l' hk hk' hc hc'
      obtain ⟨x1, y1, b1, e1⟩ := made_ex (flatN a k' + flatN b l') 9
      obtain ⟨x2, y2, b2, e2⟩ := made_ex (flatN a k' - flatN b l') 9
      obtain ⟨x3, y3, b3, e3⟩ := made_ex (a * b) (k' + l')
      rw [e1] at h1 g1
      rw [e2] at h2 g2
      rw [e3] at h3 g3
      simp (maxSteps := 2000000) (disch := omega) only [go_sem, and_self, and_true, true_and, false_and, and_false, Nat.reduceAdd, Nat.reduceMul, Nat.reduceSub, Nat.reduceLeDiff, Nat.reduceLT, Nat.reduceGT, Nat.reduceEqDiff, Nat.reduceBEq, Int.reduceNeg, Int.reduceEq, Int.reduceLT, Int.reduceLE, Int.reduceBEq, Int.reduceToNat, Int.toNat_natCast, Int.natCast_zero, r10_T, r10, numD, i1, i2, h1, h2, h3, h4, g1, g2, g3, g4, q0, q1, z0, z1, hL, eqD_num]
    · rw [ha] at i1; rw [hb] at i2
      have hn : (numIs a k && numIs b l) = false := by rw [hb]; simp
      have h1 := add_no a k b l hn
      have h2 := sub_no a k b l hn
      have h3 := mul_no a k b l hn
      have h4 := div_no a k b l hn
      have h5 := mod_no a k b l hn
      have h6 := cmp_no a k b l hn
      simp (maxSteps := 2000000) (disch := omega) only [go_sem, and_self, and_true, true_and, false_and, and_false, Nat.reduceAdd, Nat.reduceMul, Nat.reduceSub, Nat.reduceLeDiff, Nat.reduceLT, Nat.reduceGT, Nat.reduceEqDiff, Nat.reduceBEq, Int.reduceNeg, Int.reduceEq, Int.reduceLT, Int.reduceLE, Int.reduceBEq, Int.reduceToNat, Int.toNat_natCast, Int.natCast_zero, r10_T, r10, numD, i1, i2, h1, h2, h3, h4, h5, h6, q0, q1, z0, z1, hL]
  · rw [ha] at i1
    have hn : (numIs a k && numIs b l) = false := by rw [ha]; simp
    have h1 := add_no a k b l hn
    have h2 := sub_no a k b l hn
    have h3 := mul_no a k b l hn
    have h4 := div_no a k b l hn
    have h5 := mod_no a k b l hn
    have h6 := cmp_no a k b l hn
    simp (maxSteps := 2000000) (disch := omega) only [go_sem, and_self, and_true, true_and, false_and, and_false, Nat.reduceAdd, Nat.reduceMul, Nat.reduceSub, Nat.reduceLeDiff, Nat.reduceLT, Nat.reduceGT, Nat.reduceEqDiff, Nat.reduceBEq, Int.reduceNeg, Int.reduceEq, Int.reduceLT, Int.reduceLE, Int.reduceBEq, Int.reduceToNat, Int.toNat_natCast, Int.natCast_zero, r10_T, r10, numD, i1, h1, h2, h3, h4, h5, h6, q0, q1, z0, z1, hL]
end Go.Pe.T
