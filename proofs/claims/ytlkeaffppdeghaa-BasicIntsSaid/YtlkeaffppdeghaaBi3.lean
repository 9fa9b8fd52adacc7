/- A part of the proof of: Of whole numbers below a million, the signs plus, minus, times and what is left of a division come to what they come to of ints, and so do comparisons; for all ints. -/
import Derived.Test.YtlkeaffppdeghaaBi2
import Derived.Test.YtlkeaffppdeghaaPe3
import Derived.KernelRfl
set_option linter.unusedSimpArgs false
set_option linter.unusedVariables false
set_option maxRecDepth 10000

namespace Go.Pe.T
/-- -1, 0, 1 -/
def sgn (a b : Int) : Int := if a < b then -1 else if a > b then 1 else 0

theorem numorder_ok (a b : Int) (hp : List Ent) : F tab 72 [.d (iv a), .d (iv b)] hp = some (.ret (.d (iv (sgn a b))) hp) := by
  refine f72 rfl ?_
  by_cases ha : a < b
  · simp only [go_sem, and_self, and_true, true_and, false_and, and_false, Nat.reduceAdd, Nat.reduceMul, Nat.reduceSub, Nat.reduceLeDiff, Nat.reduceLT, Nat.reduceGT, Nat.reduceEqDiff, Nat.reduceBEq, Int.reduceNeg, Int.reduceEq, Int.reduceLT, Int.reduceLE, Int.reduceBEq, Int.reduceToNat, Int.toNat_natCast, Int.natCast_zero, r72_T, r72, ha, sgn]
  · by_cases hb : a > b
    · simp only [go_sem, and_self, and_true, true_and, false_and, and_false, Nat.reduceAdd, Nat.reduceMul, Nat.reduceSub, Nat.reduceLeDiff, Nat.reduceLT, Nat.reduceGT, Nat.reduceEqDiff, Nat.reduceBEq, Int.reduceNeg, Int.reduceEq, Int.reduceLT, Int.reduceLE, Int.reduceBEq, Int.reduceToNat, Int.toNat_natCast, Int.natCast_zero, r72_T, r72, ha, hb, sgn]
    · simp only [go_sem, and_self, and_true, true_and, false_and, and_false, Nat.reduceAdd, Nat.reduceMul, Nat.reduceSub, Nat.reduceLeDiff, Nat.reduceLT, Nat.reduceGT, Nat.reduceEqDiff, Nat.reduceBEq, Int.reduceNeg, Int.reduceEq, Int.reduceLT, Int.reduceLE, Int.reduceBEq, Int.reduceToNat, Int.toNat_natCast, Int.natCast_zero, r72_T, r72, ha, hb, sgn]

abbrev numD (c s : Int) : D := .agg [iv c, iv s]

def numIs (c s : Int) : Bool := decide (0 ≤ s) && decide (s ≤ 9) && decide (-1000000000000000 < c) && decide (c < 1000000000000000) && (s == 0 || c.tmod 10 != 0)

theorem numIs_ok (c s : Int) (hp : List Ent) : F tab 61 [.d (numD c s)] hp = some (.ret (.d (.bool (numIs c s))) hp) := by
  refine f61 rfl ?_
  by_cases h1 : s < 0
  · have g1 : ¬ (0 ≤ s) := by omega
    simp only [go_sem, and_self, and_true, true_and, false_and, and_false, Nat.reduceAdd, Nat.reduceMul, Nat.reduceSub, Nat.reduceLeDiff, Nat.reduceLT, Nat.reduceGT, Nat.reduceEqDiff, Nat.reduceBEq, Int.reduceNeg, Int.reduceEq, Int.reduceLT, Int.reduceLE, Int.reduceBEq, Int.reduceToNat, Int.toNat_natCast, Int.natCast_zero, r61_T, r61, numIs, h1, g1]
  · have g1 : 0 ≤ s := by omega
    by_cases h2 : s > 9
    · have g2 : ¬ (s ≤ 9) := by omega
      simp only [go_sem, and_self, and_true, true_and, false_and, and_false, Nat.reduceAdd, Nat.reduceMul, Nat.reduceSub, Nat.reduceLeDiff, Nat.reduceLT, Nat.reduceGT, Nat.reduceEqDiff, Nat.reduceBEq, Int.reduceNeg, Int.reduceEq, Int.reduceLT, Int.reduceLE, Int.reduceBEq, Int.reduceToNat, Int.toNat_natCast, Int.natCast_zero, r61_T, r61, numIs, h1, g1, h2, g2]
    · have g2 : s ≤ 9 := by omega
      by_cases h3 : c ≤ -1000000000000000
      · have g3 : ¬ (-1000000000000000 < c) := by omega
        simp only [go_sem, and_self, and_true, true_and, false_and, and_false, Nat.reduceAdd, Nat.reduceMul, Nat.reduceSub, Nat.reduceLeDiff, Nat.reduceLT, Nat.reduceGT, Nat.reduceEqDiff, Nat.reduceBEq, Int.reduceNeg, Int.reduceEq, Int.reduceLT, Int.reduceLE, Int.reduceBEq, Int.reduceToNat, Int.toNat_natCast, Int.natCast_zero, r61_T, r61, numIs, h1, g1, h2, g2, h3, g3]
      · have g3 : -1000000000000000 < c := by omega
        by_cases h4 : c ≥ 1000000000000000
        · have g4 : ¬ (c < 1000000000000000) := by omega
          simp only [go_sem, and_self, and_true, true_and, false_and, and_false, Nat.reduceAdd, Nat.reduceMul, Nat.reduceSub, Nat.reduceLeDiff, Nat.reduceLT, Nat.reduceGT, Nat.reduceEqDiff, Nat.reduceBEq, Int.reduceNeg, Int.reduceEq, Int.reduceLT, Int.reduceLE, Int.reduceBEq, Int.reduceToNat, Int.toNat_natCast, Int.natCast_zero, r61_T, r61, numIs, h1, g1, h2, g2, h3, g3, h4, g4]
        · have g4 : c < 1000000000000000 := by omega
          by_cases h5 : s = 0
          · subst h5
            simp only [go_sem, and_self, and_true, true_and, false_and, and_false, Nat.reduceAdd, Nat.reduceMul, Nat.reduceSub, Nat.reduceLeDiff, Nat.reduceLT, Nat.reduceGT, Nat.reduceEqDiff, Nat.reduceBEq, Int.reduceNeg, Int.reduceEq, Int.reduceLT, Int.reduceLE, Int.reduceBEq, Int.reduceToNat, Int.toNat_natCast, Int.natCast_zero, r61_T, r61, numIs, h1, g1, h2, g2, h3, g3, h4, g4, Bool.true_or]
          · have g5 : (s == 0) = false := by simpa using h5
            simp only [go_sem, and_self, and_true, true_and, false_and, and_false, Nat.reduceAdd, Nat.reduceMul, Nat.reduceSub, Nat.reduceLeDiff, Nat.reduceLT, Nat.reduceGT, Nat.reduceEqDiff, Nat.reduceBEq, Int.reduceNeg, Int.reduceEq, Int.reduceLT, Int.reduceLE, Int.reduceBEq, Int.reduceToNat, Int.toNat_natCast, Int.natCast_zero, r61_T, r61, numIs, h1, g1, h2, g2, h3, g3, h4, g4, g5, Bool.false_or]

theorem both_ok (c s c' s' : Int) (hp : List Ent) : F tab 37 [.d (numD c s), .d (numD c' s')] hp = some (.ret (.d (.bool (numIs c s && numIs c' s'))) hp) := by
  refine f37 rfl ?_
  have h1 := numIs_ok c s
  have h2 := numIs_ok c' s'
  rcases Bool.eq_false_or_eq_true (numIs c s) with h | h
  · simp only [go_sem, and_self, and_true, true_and, false_and, and_false, Nat.reduceAdd, Nat.reduceMul, Nat.reduceSub, Nat.reduceLeDiff, Nat.reduceLT, Nat.reduceGT, Nat.reduceEqDiff, Nat.reduceBEq, Int.reduceNeg, Int.reduceEq, Int.reduceLT, Int.reduceLE, Int.reduceBEq, Int.reduceToNat, Int.toNat_natCast, Int.natCast_zero, r37_T, r37, h1, h2, h]
  · simp only [go_sem, and_self, and_true, true_and, false_and, and_false, Nat.reduceAdd, Nat.reduceMul, Nat.reduceSub, Nat.reduceLeDiff, Nat.reduceLT, Nat.reduceGT, Nat.reduceEqDiff, Nat.reduceBEq, Int.reduceNeg, Int.reduceEq, Int.reduceLT, Int.reduceLE, Int.reduceBEq, Int.reduceToNat, Int.toNat_natCast, Int.natCast_zero, r37_T, r37, h1, h2, h]

/-! ### powers of ten; numbers cut; which is greater -/

theorem p10_pos (n : Nat) : 0 < (10 : Int) ^ n := Int.pow_pos (by omega)
theorem p10_mono {a b : Nat} (h : a ≤ b) : (10 : Int) ^ a ≤ 10 ^ b := by
  have h1 : (10 : Nat) ^ a ≤ 10 ^ b := Nat.pow_le_pow_right (by omega) h
  have h2 : ((10 ^ a : Nat) : Int) ≤ ((10 ^ b : Nat) : Int) := by exact_mod_cast h1
  simpa using h2

theorem pow_loop (n : Nat) (hn : n ≤ 18) : ∀ (j i : Nat), i + j = n →
    V (F tab) r62_B0 (r62_S0 (.d (iv (10 ^ i))) (.d (iv n)) (.d (iv i)) []) = some (.norm, r62_E0 (.d (iv (10 ^ n))) [])
  | 0, i, hi => by
    obtain rfl : i = n := by omega
    rw [r62_B0_eq]
    have h1 : ((i : Int) < (i : Int)) = False := by simp
    simp only [go_sem, and_self, and_true, true_and, false_and, and_false, Nat.reduceAdd, Nat.reduceMul, Nat.reduceSub, Nat.reduceLeDiff, Nat.reduceLT, Nat.reduceGT, Nat.reduceEqDiff, Nat.reduceBEq, Int.reduceNeg, Int.reduceEq, Int.reduceLT, Int.reduceLE, Int.reduceBEq, Int.reduceToNat, Int.toNat_natCast, Int.natCast_zero, r62_C0, h1]
  | j + 1, i, hi => by
    have h1 : ((i : Int) < (n : Int)) = True := by simp; omega
    have h3 := p10_mono (show i + 1 ≤ 18 by omega)
    have h4 := p10_pos (i + 1)
    have e : (10 : Int) ^ (i + 1) = 10 ^ i * 10 := Int.pow_succ 10 i
    have e18 : (10 : Int) ^ 18 = 1000000000000000000 := by decide
    have ih := pow_loop n hn j (i + 1) (by omega)
    rw [r62_B0_eq]
    simp (disch := omega) only [go_sem, and_self, and_true, true_and, false_and, and_false, Nat.reduceAdd, Nat.reduceMul, Nat.reduceSub, Nat.reduceLeDiff, Nat.reduceLT, Nat.reduceGT, Nat.reduceEqDiff, Nat.reduceBEq, Int.reduceNeg, Int.reduceEq, Int.reduceLT, Int.reduceLE, Int.reduceBEq, Int.reduceToNat, Int.toNat_natCast, Int.natCast_zero, r62_C0, h1, w64]
    rw [e] at ih
    exact ih

theorem pow_ok (n : Nat) (hn : n ≤ 18) (hp : List Ent) : F tab 62 [.d (iv n)] hp = some (.ret (.d (iv (10 ^ n))) hp) := by
  refine f62 rfl ?_
  have hL := pow_loop n hn n 0 (by omega)
  simp (disch := omega) only [go_sem, and_self, and_true, true_and, false_and, and_false, Nat.reduceAdd, Nat.reduceMul, Nat.reduceSub, Nat.reduceLeDiff, Nat.reduceLT, Nat.reduceGT, Nat.reduceEqDiff, Nat.reduceBEq, Int.reduceNeg, Int.reduceEq, Int.reduceLT, Int.reduceLE, Int.reduceBEq, Int.reduceToNat, Int.toNat_natCast, Int.natCast_zero, r62_T, r62]
  rw [r62_B0_n]
  erw [hL]
  simp only [go_sem, and_self, and_true, true_and, false_and, and_false, Nat.reduceAdd, Nat.reduceMul, Nat.reduceSub, Nat.reduceLeDiff, Nat.reduceLT, Nat.reduceGT, Nat.reduceEqDiff, Nat.reduceBEq, Int.reduceNeg, Int.reduceEq, Int.reduceLT, Int.reduceLE, Int.reduceBEq, Int.reduceToNat, Int.toNat_natCast, Int.natCast_zero]

/-- the whole part, and billionths -/
def cutU (c : Int) (k : Nat) : Int := c.tdiv (10 ^ k)
def cutV (c : Int) (k : Nat) : Int := c.tmod (10 ^ k) * 10 ^ (9 - k)

theorem cut_bounds {c : Int} {k : Nat} (hk : k ≤ 9) (hc : -1000000000000000 < c ∧ c < 1000000000000000) :
    cutU c k * 1000000000 + cutV c k = c * 10 ^ (9 - k) ∧ -1000000000000000 < cutU c k ∧ cutU c k < 1000000000000000 ∧ -1000000000 < cutV c k ∧ cutV c k < 1000000000 ∧ (0 ≤ c → 0 ≤ cutU c k ∧ 0 ≤ cutV c k) ∧ (c ≤ 0 → cutU c k ≤ 0 ∧ cutV c k ≤ 0) ∧ -10 ^ k < c.tmod (10 ^ k) ∧ c.tmod (10 ^ k) < 10 ^ k := by
  have hp := p10_pos k
  have hq := p10_pos (9 - k)
  have hpq : (10 : Int) ^ k * 10 ^ (9 - k) = 1000000000 := by
    rw [← Int.pow_add, show k + (9 - k) = 9 by omega]; decide
  have hdm := Int.mul_tdiv_add_tmod c (10 ^ k)
  generalize hP : (10 : Int) ^ k = p at *
  generalize hQ : (10 : Int) ^ (9 - k) = q at *
  have hm1 : c.tmod p < p := Int.tmod_lt_of_pos c hp
  have hm2 : -p < c.tmod p := by
    have := Int.lt_tmod_of_pos c hp
    omega
  have hu : cutU c k = c.tdiv p := by unfold cutU; rw [hP]
  have hv : cutV c k = c.tmod p * q := by unfold cutV; rw [hP, hQ]
  rw [hu, hv]
  have hnat : (c.tdiv p).natAbs ≤ c.natAbs := Int.natAbs_tdiv_le_natAbs c p
  refine ⟨?_, by omega, by omega, ?_, ?_, ?_, ?_, hm2, hm1⟩
  · rw [← hpq]
    calc c.tdiv p * (p * q) + c.tmod p * q = (p * c.tdiv p + c.tmod p) * q := by rw [Int.add_mul]; congr 1; rw [Int.mul_comm p (c.tdiv p), Int.mul_assoc]
      _ = c * q := by rw [hdm]
  · have : -p * q < c.tmod p * q := Int.mul_lt_mul_of_pos_right hm2 hq
    rw [Int.neg_mul, hpq] at this
    exact this
  · have : c.tmod p * q < p * q := Int.mul_lt_mul_of_pos_right hm1 hq
    rw [hpq] at this
    exact this
  · intro h0
    exact ⟨Int.tdiv_nonneg h0 (by omega), Int.mul_nonneg (Int.tmod_nonneg p h0) (by omega)⟩
  · intro h0
    have h1 : c.tdiv p ≤ 0 := by
      have := Int.tdiv_nonneg (show 0 ≤ -c by omega) (show 0 ≤ p by omega)
      rw [Int.neg_tdiv] at this
      omega
    have h2 : c.tmod p ≤ 0 := by
      have := Int.tmod_nonneg p (show 0 ≤ -c by omega)
      rw [Int.neg_tmod] at this
      omega
    exact ⟨h1, Int.mul_nonpos_of_nonpos_of_nonneg h2 (by omega)⟩

theorem cut_ok (c : Int) (k : Nat) (hk : k ≤ 9) (hc : -1000000000000000 < c ∧ c < 1000000000000000) (hp : List Ent) :
    F tab 38 [.d (numD c k)] hp = some (.ret (.tup [.d (iv (cutU c k)), .d (iv (cutV c k))]) hp) := by
  refine f38 rfl ?_
  have h1 := pow_ok k (by omega)
  have h2 := pow_ok (9 - k) (by omega)
  have e : ((9 - k : Nat) : Int) = 9 - (k : Int) := by omega
  rw [e] at h2
  have hne : ((10 : Int) ^ k = 0) = False := by have := p10_pos k; simp; omega
  obtain ⟨b1, b2, b3, b4, b5, _⟩ := cut_bounds hk hc
  have w1 : IntKind.i64.wrap (c.tdiv (10 ^ k)) = cutU c k := by rw [← cutU, w64 (by omega)]
  have w2 : IntKind.i64.wrap (c.tmod (10 ^ k) * 10 ^ (9 - k)) = cutV c k := by rw [← cutV, w64 (by omega)]
  simp (disch := omega) only [go_sem, and_self, and_true, true_and, false_and, and_false, Nat.reduceAdd, Nat.reduceMul, Nat.reduceSub, Nat.reduceLeDiff, Nat.reduceLT, Nat.reduceGT, Nat.reduceEqDiff, Nat.reduceBEq, Int.reduceNeg, Int.reduceEq, Int.reduceLT, Int.reduceLE, Int.reduceBEq, Int.reduceToNat, Int.toNat_natCast, Int.natCast_zero, r38_T, r38, w64, h1, h2, hne, w1, w2]

/-- numbers at one scale -/
def flatN (c : Int) (k : Nat) : Int := c * 10 ^ (9 - k)

theorem cmp_math {c c' : Int} {k k' : Nat} (hk : k ≤ 9) (hk' : k' ≤ 9) (hc : -1000000000000000 < c ∧ c < 1000000000000000) (hc' : -1000000000000000 < c' ∧ c' < 1000000000000000) :
    (if cutU c k ≠ cutU c' k' then sgn (cutU c k) (cutU c' k') else sgn (cutV c k) (cutV c' k')) = sgn (flatN c k) (flatN c' k') := by
  obtain ⟨b1, b2, b3, b4, b5, b6, b7, _⟩ := cut_bounds hk hc
  obtain ⟨d1, d2, d3, d4, d5, d6, d7, _⟩ := cut_bounds hk' hc'
  unfold flatN
  rw [← b1, ← d1]
  unfold sgn
  split
  · rename_i hne
    by_cases h0 : 0 ≤ c
    · have := b6 h0
      by_cases h1 : 0 ≤ c'
      · have := d6 h1
        split <;> split <;> (try split) <;> omega
      · have := d7 (by omega)
        split <;> split <;> (try split) <;> omega
    · have := b7 (by omega)
      by_cases h1 : 0 ≤ c'
      · have := d6 h1
        split <;> split <;> (try split) <;> omega
      · have := d7 (by omega)
        split <;> split <;> (try split) <;> omega
  · rename_i hne
    have : cutU c k = cutU c' k' := by simpa using hne
    rw [this]
    split <;> split <;> (try split) <;> omega

theorem numIs_inv {c s : Int} (h : numIs c s = true) : ∃ k : Nat, s = k ∧ k ≤ 9 ∧ (-1000000000000000 < c ∧ c < 1000000000000000) := by
  simp only [numIs, Bool.and_eq_true, decide_eq_true_eq] at h
  exact ⟨s.toNat, by omega, by omega, by omega⟩

theorem numcmp_ok (c c' : Int) (k k' : Nat) (h : numIs c k = true) (h' : numIs c' k' = true) (hp : List Ent) :
    F tab 56 [.d (numD c k), .d (numD c' k')] hp = some (.ret (.d (iv (sgn (flatN c k) (flatN c' k')))) hp) := by
  obtain ⟨k1, e1, hk, hc⟩ := numIs_inv h
  obtain ⟨k2, e2, hk', hc'⟩ := numIs_inv h'
  obtain rfl : k = k1 := by omega
  obtain rfl : k' = k2 := by omega
  refine f56 rfl ?_
  have h1 := both_ok c k c' k'
  rw [h, h'] at h1
  have h2 := cut_ok c k hk hc
  have h3 := cut_ok c' k' hk' hc'
  have h4 := numorder_ok (cutU c k) (cutU c' k')
  have h5 := numorder_ok (cutV c k) (cutV c' k')
  rw [← cmp_math hk hk' hc hc']
  by_cases hu : cutU c k = cutU c' k'
  · have hu1 : (cutU c k != cutU c' k') = false := by simp [hu]
    have hu2 : (cutU c k ≠ cutU c' k') = False := by simp [hu]
    simp (disch := omega) only [go_sem, and_self, and_true, true_and, false_and, and_false, Nat.reduceAdd, Nat.reduceMul, Nat.reduceSub, Nat.reduceLeDiff, Nat.reduceLT, Nat.reduceGT, Nat.reduceEqDiff, Nat.reduceBEq, Int.reduceNeg, Int.reduceEq, Int.reduceLT, Int.reduceLE, Int.reduceBEq, Int.reduceToNat, Int.toNat_natCast, Int.natCast_zero, r56_T, r56, h1, h2, h3, h4, h5, hu1, hu2]
  · have hu1 : (cutU c k != cutU c' k') = true := by simp [hu]
    have hu2 : (cutU c k ≠ cutU c' k') = True := by simp [hu]
    simp (disch := omega) only [go_sem, and_self, and_true, true_and, false_and, and_false, Nat.reduceAdd, Nat.reduceMul, Nat.reduceSub, Nat.reduceLeDiff, Nat.reduceLT, Nat.reduceGT, Nat.reduceEqDiff, Nat.reduceBEq, Int.reduceNeg, Int.reduceEq, Int.reduceLT, Int.reduceLE, Int.reduceBEq, Int.reduceToNat, Int.toNat_natCast, Int.natCast_zero, r56_T, r56, h1, h2, h3, h4, h5, hu1, hu2]
end Go.Pe.T

namespace Go.Pe.T
/-! ### noughts taken off; sums -/

def stripN : Int → Nat → Int × Nat
  | c, 0 => (c, 0)
  | c, s + 1 => if c.tmod 10 = 0 then stripN (c.tdiv 10) s else (c, s + 1)

theorem strip_val : ∀ (k : Nat) (c : Int), (stripN c k).2 ≤ k ∧ (stripN c k).1 * 10 ^ (k - (stripN c k).2) = c ∧ ((stripN c k).2 = 0 ∨ (stripN c k).1.tmod 10 ≠ 0)
  | 0, c => by simp [stripN]
  | k + 1, c => by
    simp only [stripN]
    split
    · rename_i h
      obtain ⟨h1, h2, h3⟩ := strip_val k (c.tdiv 10)
      refine ⟨by omega, ?_, h3⟩
      have e : k + 1 - (stripN (c.tdiv 10) k).2 = (k - (stripN (c.tdiv 10) k).2) + 1 := by omega
      rw [e, Int.pow_succ, ← Int.mul_assoc, h2]
      have := Int.mul_tdiv_add_tmod c 10
      omega
    · rename_i h
      exact ⟨Nat.le_refl _, by simp, .inr h⟩

theorem strip_self : ∀ (k : Nat) (c : Int), (k = 0 ∨ c.tmod 10 ≠ 0) → stripN c k = (c, k)
  | 0, c, _ => rfl
  | k + 1, c, h => by
    simp only [stripN]
    rw [if_neg (h.resolve_left (by omega))]

theorem strip_add : ∀ (k : Nat) (w p : Int), stripN (w * 10 ^ k + p) k = (w * 10 ^ (stripN p k).2 + (stripN p k).1, (stripN p k).2)
  | 0, w, p => by simp [stripN]
  | k + 1, w, p => by
    have hp := p10_pos k
    have e : w * 10 ^ (k + 1) = w * 10 ^ k * 10 := by rw [Int.pow_succ, Int.mul_assoc]
    have hm : (w * 10 ^ (k + 1) + p).tmod 10 = 0 ↔ p.tmod 10 = 0 := by
      rw [e]
      generalize w * 10 ^ k = x
      have := Int.mul_tdiv_add_tmod p 10
      have := Int.mul_tdiv_add_tmod (x * 10 + p) 10
      constructor
      · intro h
        have h1 : (10 : Int) ∣ x * 10 + p := Int.dvd_of_tmod_eq_zero h
        have h2 : (10 : Int) ∣ p := by omega
        exact Int.tmod_eq_zero_of_dvd h2
      · intro h
        have h1 : (10 : Int) ∣ p := Int.dvd_of_tmod_eq_zero h
        have h2 : (10 : Int) ∣ x * 10 + p := by omega
        exact Int.tmod_eq_zero_of_dvd h2
    simp only [stripN]
    by_cases h : p.tmod 10 = 0
    · rw [if_pos (hm.2 h), if_pos h]
      have hd : (w * 10 ^ (k + 1) + p).tdiv 10 = w * 10 ^ k + p.tdiv 10 := by
        have h3 := hm.2 h
        rw [e] at h3 ⊢
        generalize w * 10 ^ k = x at *
        have h1 := Int.mul_tdiv_add_tmod p 10
        have h2 := Int.mul_tdiv_add_tmod (x * 10 + p) 10
        omega
      rw [hd]
      exact strip_add k w (p.tdiv 10)
    · rw [if_neg (fun h2 => h (hm.1 h2)), if_neg h]

theorem strip_abs (k : Nat) (c B : Int) (h : -B ≤ c ∧ c ≤ B) : -B ≤ (stripN c k).1 ∧ (stripN c k).1 ≤ B := by
  obtain ⟨_, h2, _⟩ := strip_val k c
  have hp := p10_pos (k - (stripN c k).2)
  generalize (stripN c k).1 = x at *
  generalize (10 : Int) ^ (k - (stripN c k).2) = q at *
  by_cases hx : 0 ≤ x
  · have : x * 1 ≤ x * q := Int.mul_le_mul_of_nonneg_left (by omega) hx
    omega
  · have : -x * 1 ≤ -x * q := Int.mul_le_mul_of_nonneg_left (by omega) (by omega)
    rw [Int.neg_mul, Int.neg_mul] at this
    omega

/-- what a coefficient at a scale comes to -/
def makeOk (c : Int) (k : Nat) : Bool := numIs (stripN c k).1 (stripN c k).2

theorem strip_zero : ∀ (k : Nat), stripN 0 k = (0, 0)
  | 0 => rfl
  | k + 1 => by simp only [stripN, Int.zero_tmod, Int.zero_tdiv, if_true, strip_zero k]

theorem strip_whole (z : Int) (k : Nat) : stripN (z * 10 ^ k) k = (z, 0) := by
  have := strip_add k z 0
  rw [strip_zero, Int.add_zero] at this
  simpa using this

theorem p10_cut (s : Nat) (hs : s ≤ 9) : (10 : Int) ^ s * 10 ^ (9 - s) = 1000000000 := by
  rw [← Int.pow_add, show s + (9 - s) = 9 by omega]; decide
theorem p10_cut15 (s : Nat) (hs : s ≤ 15) : (10 : Int) ^ s * 10 ^ (15 - s) = 1000000000000000 := by
  rw [← Int.pow_add, show s + (15 - s) = 15 by omega]; decide

theorem strip_part {p : Int} (hp : -1000000000 < p ∧ p < 1000000000) : -10 ^ (stripN p 9).2 < (stripN p 9).1 ∧ (stripN p 9).1 < 10 ^ (stripN p 9).2 := by
  obtain ⟨h1, h2, _⟩ := strip_val 9 p
  have h3 := p10_cut _ h1
  have h4 := p10_pos (9 - (stripN p 9).2)
  generalize (stripN p 9).1 = q at *
  generalize (10 : Int) ^ (9 - (stripN p 9).2) = y at *
  generalize (10 : Int) ^ (stripN p 9).2 = x at *
  rw [← h2, ← h3] at hp
  refine ⟨?_, ?_⟩
  · have : -x * y < q * y := by rw [Int.neg_mul]; omega
    exact Int.lt_of_mul_lt_mul_right this (by omega)
  · exact Int.lt_of_mul_lt_mul_right hp.2 (by omega)

/-- joined: too great, or within what can be reckoned with -/
theorem join_math {w p : Int} (hp : -1000000000 < p ∧ p < 1000000000) :
    (stripN (w * 1000000000 + p) 9) = (w * 10 ^ (stripN p 9).2 + (stripN p 9).1, (stripN p 9).2) ∧
    (w ≥ (1000000000000000 : Int).tdiv (10 ^ (stripN p 9).2) + 1 → makeOk (w * 1000000000 + p) 9 = false) ∧
    (w ≤ (-1000000000000000 : Int).tdiv (10 ^ (stripN p 9).2) - 1 → makeOk (w * 1000000000 + p) 9 = false) ∧
    (¬ w ≥ (1000000000000000 : Int).tdiv (10 ^ (stripN p 9).2) + 1 → ¬ w ≤ (-1000000000000000 : Int).tdiv (10 ^ (stripN p 9).2) - 1 →
      -2000000000000000 < w * 10 ^ (stripN p 9).2 ∧ w * 10 ^ (stripN p 9).2 < 2000000000000000 ∧ -1000000000 < (stripN p 9).1 ∧ (stripN p 9).1 < 1000000000) := by
  have e9 : (10 : Int) ^ 9 = 1000000000 := by decide
  have hs := strip_add 9 w p
  rw [e9] at hs
  obtain ⟨h1, _, _⟩ := strip_val 9 p
  obtain ⟨h2, h3⟩ := strip_part hp
  have h4 := p10_cut15 (stripN p 9).2 (by omega)
  have h5 := p10_pos (stripN p 9).2
  have h6 := p10_pos (15 - (stripN p 9).2)
  have h7 := p10_mono h1
  rw [e9] at h7
  have d1 : (1000000000000000 : Int).tdiv (10 ^ (stripN p 9).2) = 10 ^ (15 - (stripN p 9).2) := by
    rw [← h4]; exact Int.mul_tdiv_cancel_left _ (by omega)
  have d2 : (-1000000000000000 : Int).tdiv (10 ^ (stripN p 9).2) = -10 ^ (15 - (stripN p 9).2) := by
    rw [← h4, ← Int.mul_neg]; exact Int.mul_tdiv_cancel_left _ (by omega)
  rw [d1, d2]
  unfold makeOk
  rw [hs]
  simp only
  generalize (stripN p 9).1 = q at *
  generalize (10 : Int) ^ (15 - (stripN p 9).2) = y at *
  generalize hx : (10 : Int) ^ (stripN p 9).2 = x at *
  refine ⟨trivial, fun h => ?_, fun h => ?_, fun g1 g2 => ?_⟩
  · have : (y + 1) * x ≤ w * x := Int.mul_le_mul_of_nonneg_right h (by omega)
    rw [Int.add_mul, Int.one_mul, Int.mul_comm y x, h4] at this
    have g : ¬ (w * x + q < 1000000000000000) := by omega
    simp [numIs, g]
  · have : w * x ≤ (-y - 1) * x := Int.mul_le_mul_of_nonneg_right h (by omega)
    rw [Int.sub_mul, Int.one_mul, Int.neg_mul, Int.mul_comm y x, h4] at this
    have g : ¬ (-1000000000000000 < w * x + q) := by omega
    simp [numIs, g]
  · have a1 : w * x ≤ y * x := Int.mul_le_mul_of_nonneg_right (by omega) (by omega)
    have a2 : -y * x ≤ w * x := Int.mul_le_mul_of_nonneg_right (by omega) (by omega)
    rw [Int.neg_mul, Int.mul_comm y x, h4] at a2
    rw [Int.mul_comm y x, h4] at a1
    omega

theorem make_flat {c : Int} {k : Nat} (hk : k ≤ 9) : flatN (stripN c k).1 (stripN c k).2 = flatN c k := by
  obtain ⟨h1, h2, _⟩ := strip_val k c
  unfold flatN
  rw [show 9 - (stripN c k).2 = (k - (stripN c k).2) + (9 - k) by omega, Int.pow_add, ← Int.mul_assoc, h2]

theorem flat_inj {c c' : Int} : ∀ {k k' : Nat}, k ≤ 9 → k' ≤ 9 → (k = 0 ∨ c.tmod 10 ≠ 0) → (k' = 0 ∨ c'.tmod 10 ≠ 0) → flatN c k = flatN c' k' → k ≤ k' → c = c' ∧ k = k' := by
  intro k k' hk hk' h1 h2 he hle
  unfold flatN at he
  rw [show 9 - k = (k' - k) + (9 - k') by omega, Int.pow_add, ← Int.mul_assoc] at he
  have hp := p10_pos (9 - k')
  have he := Int.eq_of_mul_eq_mul_right (by omega) he
  by_cases e : k = k'
  · subst e
    simp at he
    exact ⟨he, rfl⟩
  · exfalso
    obtain ⟨j, hj⟩ : ∃ j, k' - k = j + 1 := ⟨k' - k - 1, by omega⟩
    rw [hj, Int.pow_succ, ← Int.mul_assoc] at he
    have hd : (10 : Int) ∣ c' := ⟨c * 10 ^ j, by rw [← he, Int.mul_comm]⟩
    exact h2.resolve_left (by omega) (Int.tmod_eq_zero_of_dvd hd)

theorem num_inj {c c' : Int} {k k' : Nat} (h : numIs c k = true) (h' : numIs c' k' = true) (he : flatN c k = flatN c' k') : c = c' ∧ k = k' := by
  simp only [numIs, Bool.and_eq_true, Bool.or_eq_true, decide_eq_true_eq, beq_iff_eq, bne_iff_ne] at h h'
  have a1 : k = 0 ∨ c.tmod 10 ≠ 0 := by rcases h.2 with g | g; exact .inl (by omega); exact .inr g
  have a2 : k' = 0 ∨ c'.tmod 10 ≠ 0 := by rcases h'.2 with g | g; exact .inl (by omega); exact .inr g
  by_cases hle : k ≤ k'
  · exact flat_inj (by omega) (by omega) a1 a2 he hle
  · obtain ⟨e1, e2⟩ := flat_inj (k := k') (k' := k) (by omega) (by omega) a2 a1 he.symm (by omega)
    exact ⟨e1.symm, e2.symm⟩
end Go.Pe.T

namespace Go.Pe.T
/-! ### Make, join, Add, Sub -/

/-- a number, or that it can't be held -/
def madeT (c : Int) (k : Nat) : PV := if makeOk c k then .tup [.d (numD (stripN c k).1 (stripN c k).2), .d (iv 0)] else .tup [.d (numD 0 0), .d (iv 8)]

theorem tdiv10 {c : Int} (hc : i64 c) (h : c.tmod 10 = 0) : i64 (c.tdiv 10) := by
  have := Int.mul_tdiv_add_tmod c 10
  unfold i64 at *
  omega

def MkLoop (c : Int) (k : Nat) : Prop :=
  V (F tab) r47_B0 (r47_S0 (.d (iv c)) (.d (iv k)) (.ibox [.d (iv 0), .d (iv 0)]) []) = some (.norm, r47_E0 (.d (iv (stripN c k).1)) (.d (iv (stripN c k).2)) (.ibox [.d (iv 0), .d (iv 0)]) [])

theorem mk_end (c : Int) : MkLoop c 0 := by
  unfold MkLoop
  have h1 : ((0 : Int) > 0) = False := eq_false (by omega)
  have h2 : (((0 : Nat) : Int) > 0) = False := eq_false (by omega)
  rw [r47_B0_eq, stripN]
  simp (disch := omega) only [go_sem, and_self, and_true, true_and, false_and, and_false, Nat.reduceAdd, Nat.reduceMul, Nat.reduceSub, Nat.reduceLeDiff, Nat.reduceLT, Nat.reduceGT, Nat.reduceEqDiff, Nat.reduceBEq, Int.reduceNeg, Int.reduceEq, Int.reduceLT, Int.reduceLE, Int.reduceBEq, Int.reduceToNat, Int.toNat_natCast, Int.natCast_zero, r47_C0, h1, h2]
theorem mk_stop (c : Int) (k : Nat) (h : c.tmod 10 ≠ 0) : MkLoop c (k + 1) := by
  unfold MkLoop
  have h1 : (((k + 1 : Nat) : Int) > 0) = True := eq_true (by omega)
  have h2 : (c.tmod 10 == 0) = false := by simpa using h
  have h3 : ((10 : Int) = 0) = False := eq_false (by omega)
  rw [r47_B0_eq, stripN, if_neg h]
  simp (disch := omega) only [go_sem, and_self, and_true, true_and, false_and, and_false, Nat.reduceAdd, Nat.reduceMul, Nat.reduceSub, Nat.reduceLeDiff, Nat.reduceLT, Nat.reduceGT, Nat.reduceEqDiff, Nat.reduceBEq, Int.reduceNeg, Int.reduceEq, Int.reduceLT, Int.reduceLE, Int.reduceBEq, Int.reduceToNat, Int.toNat_natCast, Int.natCast_zero, r47_C0, h1, h2, h3]
theorem mk_step (c : Int) (k : Nat) (hc : i64 c) (hk : k ≤ 100) (h : c.tmod 10 = 0) (ih : MkLoop (c.tdiv 10) k) : MkLoop c (k + 1) := by
  unfold MkLoop
  have h1 : (((k + 1 : Nat) : Int) > 0) = True := eq_true (by omega)
  have h2 : (c.tmod 10 == 0) = true := by simpa using h
  have h3 : ((10 : Int) = 0) = False := eq_false (by omega)
  have h4 : ((k + 1 : Nat) : Int) - 1 = (k : Int) := by omega
  have hd := tdiv10 hc h
  have w1 : IntKind.i64.wrap (c.tdiv 10) = c.tdiv 10 := w64 hd
  unfold MkLoop at ih
  rw [r47_B0_eq, stripN, if_pos h]
  simp (disch := omega) only [go_sem, and_self, and_true, true_and, false_and, and_false, Nat.reduceAdd, Nat.reduceMul, Nat.reduceSub, Nat.reduceLeDiff, Nat.reduceLT, Nat.reduceGT, Nat.reduceEqDiff, Nat.reduceBEq, Int.reduceNeg, Int.reduceEq, Int.reduceLT, Int.reduceLE, Int.reduceBEq, Int.reduceToNat, Int.toNat_natCast, Int.natCast_zero, r47_C0, h1, h2, h3, h4, w1, w64]
  exact ih
theorem mk_loop : ∀ (k : Nat) (c : Int), i64 c → k ≤ 100 → MkLoop c k
  | 0, c, _, _ => mk_end c
  | k + 1, c, hc, hk => by
    by_cases h : c.tmod 10 = 0
    · exact mk_step c k hc (by omega) h (mk_loop k _ (tdiv10 hc h) (by omega))
    · exact mk_stop c k h

theorem make_ok (c : Int) (k : Nat) (hc : i64 c) (hk : k ≤ 30) (hp : List Ent) : F tab 47 [.d (iv c), .d (iv k)] hp = some (.ret (madeT c k) hp) := by
  have hL := mk_loop k c hc (by omega)
  unfold MkLoop at hL
  have hI := numIs_ok (stripN c k).1 (stripN c k).2
  have h1 : ((k : Int) < 0) = False := eq_false (by omega)
  have h2 : ((k : Int) > 30) = False := eq_false (by omega)
  refine f47 rfl ?_
  simp (disch := omega) only [go_sem, and_self, and_true, true_and, false_and, and_false, Nat.reduceAdd, Nat.reduceMul, Nat.reduceSub, Nat.reduceLeDiff, Nat.reduceLT, Nat.reduceGT, Nat.reduceEqDiff, Nat.reduceBEq, Int.reduceNeg, Int.reduceEq, Int.reduceLT, Int.reduceLE, Int.reduceBEq, Int.reduceToNat, Int.toNat_natCast, Int.natCast_zero, r47_T, r47, h1, h2]
  rw [r47_B0_n]
  erw [hL]
  unfold madeT
  have e : makeOk c k = numIs (stripN c k).1 (stripN c k).2 := rfl
  rcases Bool.eq_false_or_eq_true (numIs (stripN c k).1 (stripN c k).2) with g | g
  · rw [e, g]
    simp (disch := omega) only [go_sem, and_self, and_true, true_and, false_and, and_false, Nat.reduceAdd, Nat.reduceMul, Nat.reduceSub, Nat.reduceLeDiff, Nat.reduceLT, Nat.reduceGT, Nat.reduceEqDiff, Nat.reduceBEq, Int.reduceNeg, Int.reduceEq, Int.reduceLT, Int.reduceLE, Int.reduceBEq, Int.reduceToNat, Int.toNat_natCast, Int.natCast_zero, hI, g]
  · rw [e, g]
    simp (disch := omega) only [go_sem, and_self, and_true, true_and, false_and, and_false, Nat.reduceAdd, Nat.reduceMul, Nat.reduceSub, Nat.reduceLeDiff, Nat.reduceLT, Nat.reduceGT, Nat.reduceEqDiff, Nat.reduceBEq, Int.reduceNeg, Int.reduceEq, Int.reduceLT, Int.reduceLE, Int.reduceBEq, Int.reduceToNat, Int.toNat_natCast, Int.natCast_zero, hI, g]

def JnLoop (w c : Int) (k : Nat) : Prop :=
  V (F tab) r39_B0 (r39_S0 (.d (iv w)) (.d (iv c)) (.ibox [.d (iv 0), .d (iv 0)]) (.d (iv k)) []) = some (.norm, r39_E0 (.d (iv w)) (.d (iv (stripN c k).1)) (.ibox [.d (iv 0), .d (iv 0)]) (.d (iv (stripN c k).2)) [])
theorem jn_end (w c : Int) : JnLoop w c 0 := by
  unfold JnLoop
  have h1 : ((0 : Int) > 0) = False := eq_false (by omega)
  have h2 : (((0 : Nat) : Int) > 0) = False := eq_false (by omega)
  rw [r39_B0_eq, stripN]
  simp (disch := omega) only [go_sem, and_self, and_true, true_and, false_and, and_false, Nat.reduceAdd, Nat.reduceMul, Nat.reduceSub, Nat.reduceLeDiff, Nat.reduceLT, Nat.reduceGT, Nat.reduceEqDiff, Nat.reduceBEq, Int.reduceNeg, Int.reduceEq, Int.reduceLT, Int.reduceLE, Int.reduceBEq, Int.reduceToNat, Int.toNat_natCast, Int.natCast_zero, r39_C0, h1, h2]
theorem jn_stop (w c : Int) (k : Nat) (h : c.tmod 10 ≠ 0) : JnLoop w c (k + 1) := by
  unfold JnLoop
  have h1 : (((k + 1 : Nat) : Int) > 0) = True := eq_true (by omega)
  have h2 : (c.tmod 10 == 0) = false := by simpa using h
  have h3 : ((10 : Int) = 0) = False := eq_false (by omega)
  rw [r39_B0_eq, stripN, if_neg h]
  simp (disch := omega) only [go_sem, and_self, and_true, true_and, false_and, and_false, Nat.reduceAdd, Nat.reduceMul, Nat.reduceSub, Nat.reduceLeDiff, Nat.reduceLT, Nat.reduceGT, Nat.reduceEqDiff, Nat.reduceBEq, Int.reduceNeg, Int.reduceEq, Int.reduceLT, Int.reduceLE, Int.reduceBEq, Int.reduceToNat, Int.toNat_natCast, Int.natCast_zero, r39_C0, h1, h2, h3]
theorem jn_step (w c : Int) (k : Nat) (hc : i64 c) (hk : k ≤ 100) (h : c.tmod 10 = 0) (ih : JnLoop w (c.tdiv 10) k) : JnLoop w c (k + 1) := by
  unfold JnLoop
  have h1 : (((k + 1 : Nat) : Int) > 0) = True := eq_true (by omega)
  have h2 : (c.tmod 10 == 0) = true := by simpa using h
  have h3 : ((10 : Int) = 0) = False := eq_false (by omega)
  have h4 : ((k + 1 : Nat) : Int) - 1 = (k : Int) := by omega
  have hd := tdiv10 hc h
  have w1 : IntKind.i64.wrap (c.tdiv 10) = c.tdiv 10 := w64 hd
  unfold JnLoop at ih
  rw [r39_B0_eq, stripN, if_pos h]
  simp (disch := omega) only [go_sem, and_self, and_true, true_and, false_and, and_false, Nat.reduceAdd, Nat.reduceMul, Nat.reduceSub, Nat.reduceLeDiff, Nat.reduceLT, Nat.reduceGT, Nat.reduceEqDiff, Nat.reduceBEq, Int.reduceNeg, Int.reduceEq, Int.reduceLT, Int.reduceLE, Int.reduceBEq, Int.reduceToNat, Int.toNat_natCast, Int.natCast_zero, r39_C0, h1, h2, h3, h4, w1, w64]
  exact ih
theorem jn_loop (w : Int) : ∀ (k : Nat) (c : Int), i64 c → k ≤ 100 → JnLoop w c k
  | 0, c, _, _ => jn_end w c
  | k + 1, c, hc, hk => by
    by_cases h : c.tmod 10 = 0
    · exact jn_step w c k hc (by omega) h (jn_loop w k _ (tdiv10 hc h) (by omega))
    · exact jn_stop w c k h
end Go.Pe.T

namespace Go.Pe.T

theorem strip_idem (T : Int) (k : Nat) : stripN (stripN T k).1 (stripN T k).2 = stripN T k := by
  obtain ⟨_, _, h3⟩ := strip_val k T
  rw [strip_self _ _ h3]

theorem made_idem (T : Int) (k : Nat) : madeT (stripN T k).1 (stripN T k).2 = madeT T k := by
  unfold madeT makeOk
  rw [strip_idem]

/-- what follows on the loop of join -/
theorem join_tail (W Q : Int) (s : Nat) (T : Int) (hs : s ≤ 9) (hT : stripN T 9 = (W * 10 ^ s + Q, s))
    (h1 : W ≥ (1000000000000000 : Int).tdiv (10 ^ s) + 1 → makeOk T 9 = false) (h2 : W ≤ (-1000000000000000 : Int).tdiv (10 ^ s) - 1 → makeOk T 9 = false)
    (h3 : ¬ W ≥ (1000000000000000 : Int).tdiv (10 ^ s) + 1 → ¬ W ≤ (-1000000000000000 : Int).tdiv (10 ^ s) - 1 → -2000000000000000 < W * 10 ^ s ∧ W * 10 ^ s < 2000000000000000 ∧ -1000000000 < Q ∧ Q < 1000000000) :
    (-1000000000000002 < (1000000000000000 : Int).tdiv (10 ^ s) ∧ (1000000000000000 : Int).tdiv (10 ^ s) < 1000000000000002) ∧ (-1000000000000002 < (-1000000000000000 : Int).tdiv (10 ^ s) ∧ (-1000000000000000 : Int).tdiv (10 ^ s) < 1000000000000002) ∧
    madeT (W * 10 ^ s + Q) s = madeT T 9 := by
  refine ⟨?_, ?_, ?_⟩
  · have := Int.natAbs_tdiv_le_natAbs 1000000000000000 (10 ^ s)
    omega
  · have := Int.natAbs_tdiv_le_natAbs (-1000000000000000) (10 ^ s)
    omega
  · have := made_idem T 9
    rw [hT] at this
    exact this

/-- what stands behind the loop of join -/
def joinTail : RCode := match r39_K2 () with
  | .seq _ (.seq _ (.seq _ c)) => c
  | c => c

set_option maxHeartbeats 1000000 in
theorem join_ok (w p : Int) (hw : -3000000000000000 ≤ w ∧ w ≤ 3000000000000000) (hp0 : -3000000000 ≤ p ∧ p ≤ 3000000000) (hp : List Ent) : F tab 39 [.d (iv w), .d (iv p)] hp = some (.ret (madeT (w * 1000000000 + p) 9) hp) := by
  have hm := Int.mul_tdiv_add_tmod p 1000000000
  have hm1 := Int.tmod_lt_of_pos p (show (0 : Int) < 1000000000 by omega)
  have hm2 := Int.lt_tmod_of_pos p (show (0 : Int) < 1000000000 by omega)
  have q1 : ((1000000000 : Int) = 0) = False := eq_false (by omega)
  have core : ∀ W P : Int, W * 1000000000 + P = w * 1000000000 + p → (-1000000000 < P ∧ P < 1000000000) → (-4000000000000000 ≤ W ∧ W ≤ 4000000000000000) →
      V (F tab) r39_B0 (r39_S0 (.d (iv W)) (.d (iv P)) (.ibox [.d (iv 0), .d (iv 0)]) (.d (iv 9)) []) = some (.norm, r39_E0 (.d (iv W)) (.d (iv (stripN P 9).1)) (.ibox [.d (iv 0), .d (iv 0)]) (.d (iv (stripN P 9).2)) []) ∧ fnEnd r39 hp (V (F tab) joinTail (r39_E0 (.d (iv W)) (.d (iv (stripN P 9).1)) (.ibox [.d (iv 0), .d (iv 0)]) (.d (iv (stripN P 9).2)) [])) = some (.ret (madeT (w * 1000000000 + p) 9) hp) := by
    intro W P hT hP hW
    have hL := jn_loop W 9 P (by unfold i64; omega) (by omega)
    unfold JnLoop at hL
    refine ⟨hL, ?_⟩
    simp only [joinTail, r39_K2]
    obtain ⟨j1, j2, j3, j4⟩ := join_math (w := W) hP
    rw [hT] at j1 j2 j3
    have hs : (stripN P 9).2 ≤ 9 := (strip_val 9 P).1
    have h10 := pow_ok (stripN P 9).2 (by omega)
    obtain ⟨t1, t2, t3⟩ := join_tail W (stripN P 9).1 (stripN P 9).2 _ hs j1 j2 j3 j4
    have hmk : ∀ hp, -2000000000000000 < W * 10 ^ (stripN P 9).2 → W * 10 ^ (stripN P 9).2 < 2000000000000000 → -1000000000 < (stripN P 9).1 → (stripN P 9).1 < 1000000000 →
        F tab 47 [.d (iv (W * 10 ^ (stripN P 9).2 + (stripN P 9).1)), .d (iv (stripN P 9).2)] hp = some (.ret (madeT (W * 10 ^ (stripN P 9).2 + (stripN P 9).1) (stripN P 9).2) hp) := fun hp a b c d => make_ok _ _ (by unfold i64; omega) (by omega) hp
    have hpos : ((10 : Int) ^ (stripN P 9).2 = 0) = False := eq_false (by have := p10_pos (stripN P 9).2; omega)
    generalize (stripN P 9).1 = Q at *
    generalize (stripN P 9).2 = s at *
    generalize (10 : Int) ^ s = x at *
    generalize hA : (1000000000000000 : Int).tdiv x = A at *
    generalize hB : (-1000000000000000 : Int).tdiv x = B at *
    by_cases g1 : W ≥ A + 1
    · have e := j2 g1
      have e2 : madeT (w * 1000000000 + p) 9 = .tup [.d (numD 0 0), .d (iv 8)] := by unfold madeT; rw [e]; rfl
      rw [e2]
      simp (disch := omega) only [go_sem, and_self, and_true, true_and, false_and, and_false, Nat.reduceAdd, Nat.reduceMul, Nat.reduceSub, Nat.reduceLeDiff, Nat.reduceLT, Nat.reduceGT, Nat.reduceEqDiff, Nat.reduceBEq, Int.reduceNeg, Int.reduceEq, Int.reduceLT, Int.reduceLE, Int.reduceBEq, Int.reduceToNat, Int.toNat_natCast, Int.natCast_zero, r39, h10, hpos, hA, w64, g1]
    · by_cases g2 : W ≤ B - 1
      · have e := j3 g2
        have e2 : madeT (w * 1000000000 + p) 9 = .tup [.d (numD 0 0), .d (iv 8)] := by unfold madeT; rw [e]; rfl
        rw [e2]
        simp (disch := omega) only [go_sem, and_self, and_true, true_and, false_and, and_false, Nat.reduceAdd, Nat.reduceMul, Nat.reduceSub, Nat.reduceLeDiff, Nat.reduceLT, Nat.reduceGT, Nat.reduceEqDiff, Nat.reduceBEq, Int.reduceNeg, Int.reduceEq, Int.reduceLT, Int.reduceLE, Int.reduceBEq, Int.reduceToNat, Int.toNat_natCast, Int.natCast_zero, r39, h10, hpos, hA, hB, w64, g1, g2]
      · obtain ⟨a, b, c, d⟩ := j4 g1 g2
        have hmk := fun hp => hmk hp a b c d
        rw [t3] at hmk
        have w1 : IntKind.i64.wrap (W * x) = W * x := w64 (by generalize W * x = Y at *; omega)
        have w2 : IntKind.i64.wrap (W * x + Q) = W * x + Q := w64 (by generalize W * x = Y at *; omega)
        unfold madeT at hmk ⊢
        rcases Bool.eq_false_or_eq_true (makeOk (w * 1000000000 + p) 9) with g | g
        · rw [g] at hmk ⊢
          simp only [if_true] at hmk ⊢
          simp (disch := omega) only [go_sem, and_self, and_true, true_and, false_and, and_false, Nat.reduceAdd, Nat.reduceMul, Nat.reduceSub, Nat.reduceLeDiff, Nat.reduceLT, Nat.reduceGT, Nat.reduceEqDiff, Nat.reduceBEq, Int.reduceNeg, Int.reduceEq, Int.reduceLT, Int.reduceLE, Int.reduceBEq, Int.reduceToNat, Int.toNat_natCast, Int.natCast_zero, r39, h10, hpos, hA, hB, w1, w2, w64, g1, g2, hmk, numD]
        · rw [g] at hmk ⊢
          simp only [Bool.false_eq_true, if_false] at hmk ⊢
          simp (disch := omega) only [go_sem, and_self, and_true, true_and, false_and, and_false, Nat.reduceAdd, Nat.reduceMul, Nat.reduceSub, Nat.reduceLeDiff, Nat.reduceLT, Nat.reduceGT, Nat.reduceEqDiff, Nat.reduceBEq, Int.reduceNeg, Int.reduceEq, Int.reduceLT, Int.reduceLE, Int.reduceBEq, Int.reduceToNat, Int.toNat_natCast, Int.natCast_zero, r39, h10, hpos, hA, hB, w1, w2, w64, g1, g2, hmk, numD]
  refine f39 rfl ?_
  by_cases c1 : w + p.tdiv 1000000000 > 0
  · have c3 : ¬ (w + p.tdiv 1000000000 < 0) := by omega
    by_cases c2 : p.tmod 1000000000 < 0
    · have c4 : ¬ (w + p.tdiv 1000000000 - 1 < 0) := by omega
      have := core (w + p.tdiv 1000000000 - 1) (p.tmod 1000000000 + 1000000000) (by omega) (by omega) (by omega)
      simp (disch := omega) only [go_sem, and_self, and_true, true_and, false_and, and_false, Nat.reduceAdd, Nat.reduceMul, Nat.reduceSub, Nat.reduceLeDiff, Nat.reduceLT, Nat.reduceGT, Nat.reduceEqDiff, Nat.reduceBEq, Int.reduceNeg, Int.reduceEq, Int.reduceLT, Int.reduceLE, Int.reduceBEq, Int.reduceToNat, Int.toNat_natCast, Int.natCast_zero, r39_T, r39, q1, w64, c1, c2, c3, c4]
      rw [r39_B0_n]
      erw [this.1]
      exact this.2
    · have := core (w + p.tdiv 1000000000) (p.tmod 1000000000) (by omega) (by omega) (by omega)
      simp (disch := omega) only [go_sem, and_self, and_true, true_and, false_and, and_false, Nat.reduceAdd, Nat.reduceMul, Nat.reduceSub, Nat.reduceLeDiff, Nat.reduceLT, Nat.reduceGT, Nat.reduceEqDiff, Nat.reduceBEq, Int.reduceNeg, Int.reduceEq, Int.reduceLT, Int.reduceLE, Int.reduceBEq, Int.reduceToNat, Int.toNat_natCast, Int.natCast_zero, r39_T, r39, q1, w64, c1, c2, c3]
      rw [r39_B0_n]
      erw [this.1]
      exact this.2
  · by_cases c3 : w + p.tdiv 1000000000 < 0
    · by_cases c4 : p.tmod 1000000000 > 0
      · have := core (w + p.tdiv 1000000000 + 1) (p.tmod 1000000000 - 1000000000) (by omega) (by omega) (by omega)
        simp (disch := omega) only [go_sem, and_self, and_true, true_and, false_and, and_false, Nat.reduceAdd, Nat.reduceMul, Nat.reduceSub, Nat.reduceLeDiff, Nat.reduceLT, Nat.reduceGT, Nat.reduceEqDiff, Nat.reduceBEq, Int.reduceNeg, Int.reduceEq, Int.reduceLT, Int.reduceLE, Int.reduceBEq, Int.reduceToNat, Int.toNat_natCast, Int.natCast_zero, r39_T, r39, q1, w64, c1, c3, c4]
        rw [r39_B0_n]
        erw [this.1]
        exact this.2
      · have := core (w + p.tdiv 1000000000) (p.tmod 1000000000) (by omega) (by omega) (by omega)
        simp (disch := omega) only [go_sem, and_self, and_true, true_and, false_and, and_false, Nat.reduceAdd, Nat.reduceMul, Nat.reduceSub, Nat.reduceLeDiff, Nat.reduceLT, Nat.reduceGT, Nat.reduceEqDiff, Nat.reduceBEq, Int.reduceNeg, Int.reduceEq, Int.reduceLT, Int.reduceLE, Int.reduceBEq, Int.reduceToNat, Int.toNat_natCast, Int.natCast_zero, r39_T, r39, q1, w64, c1, c3, c4]
        rw [r39_B0_n]
        erw [this.1]
        exact this.2
    · have := core (w + p.tdiv 1000000000) (p.tmod 1000000000) (by omega) (by omega) (by omega)
      simp (disch := omega) only [go_sem, and_self, and_true, true_and, false_and, and_false, Nat.reduceAdd, Nat.reduceMul, Nat.reduceSub, Nat.reduceLeDiff, Nat.reduceLT, Nat.reduceGT, Nat.reduceEqDiff, Nat.reduceBEq, Int.reduceNeg, Int.reduceEq, Int.reduceLT, Int.reduceLE, Int.reduceBEq, Int.reduceToNat, Int.toNat_natCast, Int.natCast_zero, r39_T, r39, q1, w64, c1, c3]
      rw [r39_B0_n]
      erw [this.1]
      exact this.2
end Go.Pe.T

namespace Go.Pe.T

theorem made_yes {c : Int} {k : Nat} (h : makeOk c k = true) : madeT c k = .tup [.d (.agg [iv (stripN c k).1, iv (stripN c k).2]), .d (iv 0)] := by
  unfold madeT; rw [h]; rfl
theorem made_no {c : Int} {k : Nat} (h : makeOk c k = false) : madeT c k = .tup [.d (.agg [iv 0, iv 0]), .d (iv 8)] := by
  unfold madeT; rw [h]; rfl

theorem add_ok (c c' : Int) (k k' : Nat) (h : numIs c k = true) (h' : numIs c' k' = true) (hp : List Ent) :
    F tab 24 [.d (numD c k), .d (numD c' k')] hp = some (.ret (madeT (flatN c k + flatN c' k') 9) hp) := by
  obtain ⟨k1, e1, hk, hc⟩ := numIs_inv h
  obtain ⟨k2, e2, hk', hc'⟩ := numIs_inv h'
  obtain rfl : k = k1 := by omega
  obtain rfl : k' = k2 := by omega
  have h1 := both_ok c k c' k'
  rw [h, h'] at h1
  have h2 := cut_ok c k hk hc
  have h3 := cut_ok c' k' hk' hc'
  obtain ⟨b1, b2, b3, b4, b5, _⟩ := cut_bounds hk hc
  obtain ⟨d1, d2, d3, d4, d5, _⟩ := cut_bounds hk' hc'
  have hj := join_ok (cutU c k + cutU c' k') (cutV c k + cutV c' k') (by omega) (by omega)
  have eT : (cutU c k + cutU c' k') * 1000000000 + (cutV c k + cutV c' k') = flatN c k + flatN c' k' := by unfold flatN; omega
  rw [eT] at hj
  refine f24 rfl ?_
  rcases Bool.eq_false_or_eq_true (makeOk (flatN c k + flatN c' k') 9) with g | g
  · rw [made_yes g] at hj ⊢
    simp (disch := omega) only [go_sem, and_self, and_true, true_and, false_and, and_false, Nat.reduceAdd, Nat.reduceMul, Nat.reduceSub, Nat.reduceLeDiff, Nat.reduceLT, Nat.reduceGT, Nat.reduceEqDiff, Nat.reduceBEq, Int.reduceNeg, Int.reduceEq, Int.reduceLT, Int.reduceLE, Int.reduceBEq, Int.reduceToNat, Int.toNat_natCast, Int.natCast_zero, r24_T, r24, h1, h2, h3, hj, w64]
  · rw [made_no g] at hj ⊢
    simp (disch := omega) only [go_sem, and_self, and_true, true_and, false_and, and_false, Nat.reduceAdd, Nat.reduceMul, Nat.reduceSub, Nat.reduceLeDiff, Nat.reduceLT, Nat.reduceGT, Nat.reduceEqDiff, Nat.reduceBEq, Int.reduceNeg, Int.reduceEq, Int.reduceLT, Int.reduceLE, Int.reduceBEq, Int.reduceToNat, Int.toNat_natCast, Int.natCast_zero, r24_T, r24, h1, h2, h3, hj, w64]

theorem numIs_neg (c k : Int) : numIs (0 - c) k = numIs c k := by
  have e : (0 - c).tmod 10 = -(c.tmod 10) := by rw [Int.zero_sub, Int.neg_tmod]
  have e2 : ((0 - c).tmod 10 != 0) = (c.tmod 10 != 0) := by
    rw [e, Bool.eq_iff_iff]
    simp only [bne_iff_ne]
    omega
  have e3 : decide (-1000000000000000 < 0 - c) = decide (c < 1000000000000000) := by by_cases h : c < 1000000000000000 <;> simp [h] <;> omega
  have e4 : decide (0 - c < 1000000000000000) = decide (-1000000000000000 < c) := by by_cases h : -1000000000000000 < c <;> simp [h] <;> omega
  unfold numIs
  rw [e2, e3, e4]
  cases decide (0 ≤ k) <;> cases decide (k ≤ 9) <;> cases decide (c < 1000000000000000) <;> cases decide (-1000000000000000 < c) <;> rfl

theorem flat_neg (c : Int) (k : Nat) : flatN (0 - c) k = -flatN c k := by unfold flatN; rw [Int.zero_sub, Int.neg_mul]

theorem sub_ok (c c' : Int) (k k' : Nat) (h : numIs c k = true) (h' : numIs c' k' = true) (hp : List Ent) :
    F tab 29 [.d (numD c k), .d (numD c' k')] hp = some (.ret (madeT (flatN c k - flatN c' k') 9) hp) := by
  have h1 := both_ok c k c' k'
  rw [h, h'] at h1
  obtain ⟨k2, e2, hk', hc'⟩ := numIs_inv h'
  have hj := add_ok c (0 - c') k k' h (by rw [numIs_neg]; exact h')
  rw [flat_neg, show flatN c k + -flatN c' k' = flatN c k - flatN c' k' by omega] at hj
  refine f29 rfl ?_
  rcases Bool.eq_false_or_eq_true (makeOk (flatN c k - flatN c' k') 9) with g | g
  · rw [made_yes g] at hj ⊢
    simp (disch := omega) only [go_sem, and_self, and_true, true_and, false_and, and_false, Nat.reduceAdd, Nat.reduceMul, Nat.reduceSub, Nat.reduceLeDiff, Nat.reduceLT, Nat.reduceGT, Nat.reduceEqDiff, Nat.reduceBEq, Int.reduceNeg, Int.reduceEq, Int.reduceLT, Int.reduceLE, Int.reduceBEq, Int.reduceToNat, Int.toNat_natCast, Int.natCast_zero, r29_T, r29, h1, hj, w64]
  · rw [made_no g] at hj ⊢
    simp (disch := omega) only [go_sem, and_self, and_true, true_and, false_and, and_false, Nat.reduceAdd, Nat.reduceMul, Nat.reduceSub, Nat.reduceLeDiff, Nat.reduceLT, Nat.reduceGT, Nat.reduceEqDiff, Nat.reduceBEq, Int.reduceNeg, Int.reduceEq, Int.reduceLT, Int.reduceLE, Int.reduceBEq, Int.reduceToNat, Int.toNat_natCast, Int.natCast_zero, r29_T, r29, h1, hj, w64]

end Go.Pe.T

namespace Go.Pe.T
/-! ### products of whole numbers -/
abbrev uv (n : Int) : D := .int .u64 n
theorem wu64 {n : Int} (h : 0 ≤ n ∧ n ≤ 18446744073709551615) : IntKind.u64.wrap n = n := by
  simp only [IntKind.wrap, IntKind.bits, IntKind.signed, Bool.false_and, Bool.false_eq_true, if_false]
  have e1 : (2 : Int) ^ 64 = 18446744073709551616 := by decide
  rw [e1]
  omega

theorem and32 {x : Int} (h : 0 ≤ x ∧ x ≤ 18446744073709551615) : bitsD .and .u64 x 4294967295 = some (.int .u64 (x % 4294967296)) := by
  obtain ⟨n, rfl⟩ := Int.eq_ofNat_of_zero_le h.1
  have e1 : BitVec.ofInt 64 (4294967295 : Int) = BitVec.ofNat 64 4294967295 := by decide
  have e2 : BitVec.ofInt 64 (n : Int) = BitVec.ofNat 64 n := by
    apply BitVec.eq_of_toNat_eq; simp
  have e3 : ((BitVec.ofNat 64 n &&& BitVec.ofNat 64 4294967295).toNat : Nat) = n % 4294967296 := by
    rw [BitVec.toNat_and, BitVec.toNat_ofNat, BitVec.toNat_ofNat]
    have hn : n % 2 ^ 64 = n := Nat.mod_eq_of_lt (by omega)
    have h2 : (4294967295 : Nat) % 2 ^ 64 = 2 ^ 32 - 1 := by decide
    rw [hn, h2, Nat.and_two_pow_sub_one_eq_mod]
  have e5 : bitsD .and .u64 (n : Int) 4294967295 = some (.int .u64 (IntKind.u64.wrap ((BitVec.ofInt 64 (n : Int) &&& BitVec.ofInt 64 4294967295).toNat : Int))) := rfl
  rw [e5, e1, e2, e3, wu64 (by omega)]
  rfl

theorem shr32 (x : Int) : shiftD .shr .u64 x 32 = some (.int .u64 (x / 4294967296)) := by
  have e : ¬ ((32 : Int) < 0) := by omega
  simp only [shiftD, if_neg e]
  have e2 : (2 : Int) ^ (min (32 : Int).toNat IntKind.u64.bits) = 4294967296 := by decide
  rw [e2, Int.fdiv_eq_ediv_of_nonneg _ (by omega)]

set_option maxHeartbeats 1000000 in
theorem mul64_ok (x y : Int) (hx : 0 ≤ x ∧ x ≤ 18446744073709551615) (hy : 0 ≤ y ∧ y ≤ 18446744073709551615) (hp : List Ent) :
    F tab 44 [.d (uv x), .d (uv y)] hp = some (.ret (.tup [.d (uv (x * y / 18446744073709551616)), .d (uv (x * y % 18446744073709551616))]) hp) := by
  have ax := and32 hx
  have ay := and32 hy
  have e64 : (2 : Int) ^ 64 = 18446744073709551616 := by decide
  have bnd : ∀ a b : Int, 0 ≤ a → a ≤ 4294967295 → 0 ≤ b → b ≤ 4294967295 → 0 ≤ a * b ∧ a * b ≤ 18446744065119617025 := by
    intro a b h1 h2 h3 h4
    refine ⟨Int.mul_nonneg h1 h3, ?_⟩
    have h5 : a * b ≤ 4294967295 * b := Int.mul_le_mul_of_nonneg_right h2 h3
    omega
  have p00 := bnd (x % 4294967296) (y % 4294967296) (by omega) (by omega) (by omega) (by omega)
  have p10 := bnd (x / 4294967296) (y % 4294967296) (by omega) (by omega) (by omega) (by omega)
  have p01 := bnd (x % 4294967296) (y / 4294967296) (by omega) (by omega) (by omega) (by omega)
  have p11 := bnd (x / 4294967296) (y / 4294967296) (by omega) (by omega) (by omega) (by omega)
  have hxy : x * y = (x / 4294967296) * (y / 4294967296) * 18446744073709551616 + ((x / 4294967296) * (y % 4294967296) + (x % 4294967296) * (y / 4294967296)) * 4294967296 + (x % 4294967296) * (y % 4294967296) := by
    have h1 := Int.mul_ediv_add_emod x 4294967296
    have h2 := Int.mul_ediv_add_emod y 4294967296
    generalize x / 4294967296 = a at *
    generalize x % 4294967296 = b at *
    generalize y / 4294967296 = c at *
    generalize y % 4294967296 = d at *
    rw [← h1, ← h2, Int.add_mul, Int.mul_add, Int.mul_add, Int.add_mul]
    have e1 : 4294967296 * a * (4294967296 * c) = a * c * 18446744073709551616 := by
      rw [Int.mul_comm 4294967296 a, Int.mul_assoc, ← Int.mul_assoc 4294967296 4294967296 c, Int.mul_comm _ c, ← Int.mul_assoc]; rfl
    have e2 : 4294967296 * a * d = a * d * 4294967296 := by rw [Int.mul_assoc, Int.mul_comm]
    have e3 : b * (4294967296 * c) = b * c * 4294967296 := by rw [Int.mul_comm 4294967296 c, Int.mul_assoc]
    rw [e1, e2, e3]
    omega
  have wlo : IntKind.u64.wrap (x * y) = x * y % 18446744073709551616 := by
    simp only [IntKind.wrap, IntKind.bits, IntKind.signed, Bool.false_and, Bool.false_eq_true, if_false, e64]
  have hhi : (x / 4294967296) * (y / 4294967296) + ((x / 4294967296) * (y % 4294967296) + (x % 4294967296) * (y % 4294967296) / 4294967296) / 4294967296 + (((x / 4294967296) * (y % 4294967296) + (x % 4294967296) * (y % 4294967296) / 4294967296) % 4294967296 + (x % 4294967296) * (y / 4294967296)) / 4294967296 = x * y / 18446744073709551616 := by
    rw [hxy]
    generalize (x / 4294967296) * (y / 4294967296) = p at *
    generalize (x / 4294967296) * (y % 4294967296) = q at *
    generalize (x % 4294967296) * (y / 4294967296) = r at *
    generalize (x % 4294967296) * (y % 4294967296) = s at *
    omega
  have s32 := shr32
  refine f44 rfl ?_
  have at0 : ∀ t : Int, 0 ≤ t → t ≤ 18446744073709551615 → bitsD .and .u64 t 4294967295 = some (.int .u64 (t % 4294967296)) := fun t a b => and32 ⟨a, b⟩
  rw [← hhi]
  generalize hA : x / 4294967296 = A at *
  generalize hB : x % 4294967296 = B at *
  generalize hC : y / 4294967296 = C at *
  generalize hD : y % 4294967296 = E at *
  have w1 : IntKind.u64.wrap (B * E) = B * E := wu64 (by omega)
  have w2 : IntKind.u64.wrap (A * E) = A * E := wu64 (by omega)
  have w3 : IntKind.u64.wrap (A * E + B * E / 4294967296) = A * E + B * E / 4294967296 := wu64 (by generalize A * E = u at *; generalize B * E = v at *; omega)
  have w4 : IntKind.u64.wrap (B * C) = B * C := wu64 (by omega)
  have w5 : IntKind.u64.wrap ((A * E + B * E / 4294967296) % 4294967296 + B * C) = (A * E + B * E / 4294967296) % 4294967296 + B * C := wu64 (by generalize A * E = u at *; generalize B * E = v at *; generalize B * C = r at *; omega)
  have w6 : IntKind.u64.wrap (A * C) = A * C := wu64 (by omega)
  have w7 : IntKind.u64.wrap (A * C + (A * E + B * E / 4294967296) / 4294967296) = A * C + (A * E + B * E / 4294967296) / 4294967296 := wu64 (by generalize A * E = u at *; generalize B * E = v at *; generalize A * C = r at *; omega)
  have w8 : IntKind.u64.wrap (A * C + (A * E + B * E / 4294967296) / 4294967296 + ((A * E + B * E / 4294967296) % 4294967296 + B * C) / 4294967296) = A * C + (A * E + B * E / 4294967296) / 4294967296 + ((A * E + B * E / 4294967296) % 4294967296 + B * C) / 4294967296 := wu64 (by generalize A * E = u at *; generalize B * E = v at *; generalize A * C = r at *; generalize B * C = t at *; omega)
  have a3 : bitsD .and .u64 (A * E + B * E / 4294967296) 4294967295 = some (.int .u64 ((A * E + B * E / 4294967296) % 4294967296)) := at0 _ (by generalize A * E = u at *; generalize B * E = v at *; omega) (by generalize A * E = u at *; generalize B * E = v at *; omega)
  simp only [go_sem, and_self, and_true, true_and, false_and, and_false, Nat.reduceAdd, Nat.reduceMul, Nat.reduceSub, Nat.reduceLeDiff, Nat.reduceLT, Nat.reduceGT, Nat.reduceEqDiff, Nat.reduceBEq, Int.reduceNeg, Int.reduceEq, Int.reduceLT, Int.reduceLE, Int.reduceBEq, Int.reduceToNat, Int.toNat_natCast, Int.natCast_zero, r44_T, r44, ax, ay, a3, s32, hA, hB, hC, hD, wlo, w1, w2, w3, w4, w5, w6, w7, w8]

theorem size_ok (c : Int) (hc : -1000000000000000 ≤ c ∧ c ≤ 1000000000000000) (hp : List Ent) : F tab 45 [.d (iv c)] hp = some (.ret (.d (uv c.natAbs)) hp) := by
  refine f45 rfl ?_
  by_cases h : c < 0
  · have e : ((c.natAbs : Nat) : Int) = 0 - c := by omega
    rw [e]
    simp (disch := omega) only [go_sem, and_self, and_true, true_and, false_and, and_false, Nat.reduceAdd, Nat.reduceMul, Nat.reduceSub, Nat.reduceLeDiff, Nat.reduceLT, Nat.reduceGT, Nat.reduceEqDiff, Nat.reduceBEq, Int.reduceNeg, Int.reduceEq, Int.reduceLT, Int.reduceLE, Int.reduceBEq, Int.reduceToNat, Int.toNat_natCast, Int.natCast_zero, r45_T, r45, h, w64, wu64]
  · have e : ((c.natAbs : Nat) : Int) = c := by omega
    rw [e]
    simp (disch := omega) only [go_sem, and_self, and_true, true_and, false_and, and_false, Nat.reduceAdd, Nat.reduceMul, Nat.reduceSub, Nat.reduceLeDiff, Nat.reduceLT, Nat.reduceGT, Nat.reduceEqDiff, Nat.reduceBEq, Int.reduceNeg, Int.reduceEq, Int.reduceLT, Int.reduceLE, Int.reduceBEq, Int.reduceToNat, Int.toNat_natCast, Int.natCast_zero, r45_T, r45, h, w64, wu64]
end Go.Pe.T

namespace Go.Pe.T
/-! ### the greatest common divisor; factors -/

def CmLoop (a b : Nat) : Prop := V (F tab) r50_B0 (r50_S0 (.d (uv a)) (.d (uv b)) []) = some (.norm, r50_E0 (.d (uv (Nat.gcd a b : Nat))) [])
theorem cm_end (a : Nat) : CmLoop a 0 := by
  have h1 : (((0 : Nat) : Int) != 0) = false := rfl
  have h2 : ((0 : Int) != 0) = false := rfl
  unfold CmLoop
  rw [r50_B0_eq, Nat.gcd_zero_right]
  simp (disch := omega) only [go_sem, and_self, and_true, true_and, false_and, and_false, Nat.reduceAdd, Nat.reduceMul, Nat.reduceSub, Nat.reduceLeDiff, Nat.reduceLT, Nat.reduceGT, Nat.reduceEqDiff, Nat.reduceBEq, Int.reduceNeg, Int.reduceEq, Int.reduceLT, Int.reduceLE, Int.reduceBEq, Int.reduceToNat, Int.toNat_natCast, Int.natCast_zero, r50_C0, h1, h2]
theorem cm_step (a b : Nat) (hb : 0 < b) (ih : CmLoop b (a % b)) : CmLoop a b := by
  have h1 : ((b : Int) != 0) = true := by simp; omega
  have h2 : ((b : Int) = 0) = False := eq_false (by omega)
  have h3 : (a : Int).tmod (b : Int) = ((a % b : Nat) : Int) := (Int.ofNat_tmod a b).symm
  have hg : Nat.gcd a b = Nat.gcd b (a % b) := by rw [Nat.gcd_comm a b, Nat.gcd_rec b a, Nat.gcd_comm]
  unfold CmLoop at ih ⊢
  rw [r50_B0_eq, hg]
  simp (disch := omega) only [go_sem, and_self, and_true, true_and, false_and, and_false, Nat.reduceAdd, Nat.reduceMul, Nat.reduceSub, Nat.reduceLeDiff, Nat.reduceLT, Nat.reduceGT, Nat.reduceEqDiff, Nat.reduceBEq, Int.reduceNeg, Int.reduceEq, Int.reduceLT, Int.reduceLE, Int.reduceBEq, Int.reduceToNat, Int.toNat_natCast, Int.natCast_zero, r50_C0, h1, h2, h3]
  exact ih
theorem cm_loop : ∀ (n b a : Nat), b ≤ n → CmLoop a b
  | 0, b, a, h => by obtain rfl : b = 0 := by omega
                     exact cm_end a
  | n + 1, b, a, h => by
    by_cases hb : b = 0
    · subst hb; exact cm_end a
    · have := Nat.mod_lt a (show 0 < b by omega)
      exact cm_step a b (by omega) (cm_loop n (a % b) b (by omega))
theorem common_ok (a b : Nat) (hp : List Ent) : F tab 50 [.d (uv a), .d (uv b)] hp = some (.ret (.d (uv (Nat.gcd a b : Nat))) hp) := by
  have hL := cm_loop b b a (Nat.le_refl _)
  unfold CmLoop at hL
  refine f50 rfl ?_
  simp (disch := omega) only [go_sem, and_self, and_true, true_and, false_and, and_false, Nat.reduceAdd, Nat.reduceMul, Nat.reduceSub, Nat.reduceLeDiff, Nat.reduceLT, Nat.reduceGT, Nat.reduceEqDiff, Nat.reduceBEq, Int.reduceNeg, Int.reduceEq, Int.reduceLT, Int.reduceLE, Int.reduceBEq, Int.reduceToNat, Int.toNat_natCast, Int.natCast_zero, r50_T, r50]
  rw [r50_B0_n]
  erw [hL]
  simp (disch := omega) only [go_sem, and_self, and_true, true_and, false_and, and_false, Nat.reduceAdd, Nat.reduceMul, Nat.reduceSub, Nat.reduceLeDiff, Nat.reduceLT, Nat.reduceGT, Nat.reduceEqDiff, Nat.reduceBEq, Int.reduceNeg, Int.reduceEq, Int.reduceLT, Int.reduceLE, Int.reduceBEq, Int.reduceToNat, Int.toNat_natCast, Int.natCast_zero]

def SpIs (y n k : Nat) : Prop := ∃ j m : Nat, V (F tab) r51_B0 (r51_S0 (.d (uv n)) (.d (uv y)) (.d (iv k)) []) = some (.norm, r51_E0 (.d (uv m)) (.d (iv (k + j : Nat))) []) ∧ n = y ^ j * m ∧ m % y ≠ 0 ∧ 0 < m
theorem sp_end (y n k : Nat) (hy : 1 < y) (hn : 0 < n) (h : n % y ≠ 0) : SpIs y n k := by
  refine ⟨0, n, ?_, by simp, h, hn⟩
  have h2 : ((y : Int) = 0) = False := eq_false (by omega)
  have h3 : (n : Int).tmod (y : Int) = ((n % y : Nat) : Int) := (Int.ofNat_tmod n y).symm
  have h4 : (((n % y : Nat) : Int) == 0) = false := by simp only [beq_eq_false_iff_ne, ne_eq]; omega
  rw [r51_B0_eq, Nat.add_zero]
  simp (disch := omega) only [go_sem, and_self, and_true, true_and, false_and, and_false, Nat.reduceAdd, Nat.reduceMul, Nat.reduceSub, Nat.reduceLeDiff, Nat.reduceLT, Nat.reduceGT, Nat.reduceEqDiff, Nat.reduceBEq, Int.reduceNeg, Int.reduceEq, Int.reduceLT, Int.reduceLE, Int.reduceBEq, Int.reduceToNat, Int.toNat_natCast, Int.natCast_zero, r51_C0, h2, h3, h4]
theorem sp_step (y n k : Nat) (hy : 1 < y) (hn : 0 < n) (hk : k ≤ 1000000000000000000) (hn2 : n ≤ 1000000000000000000) (h : n % y = 0) (ih : SpIs y (n / y) (k + 1)) : SpIs y n k := by
  obtain ⟨j, m, e1, e2, e3, e4⟩ := ih
  have hle : n / y ≤ n := Nat.div_le_self n y
  refine ⟨j + 1, m, ?_, ?_, e3, e4⟩
  · have h2 : ((y : Int) = 0) = False := eq_false (by omega)
    have h3 : (n : Int).tmod (y : Int) = ((n % y : Nat) : Int) := (Int.ofNat_tmod n y).symm
    have h4 : (((n % y : Nat) : Int) == 0) = true := by rw [h]; rfl
    have h5 : (n : Int).tdiv (y : Int) = ((n / y : Nat) : Int) := (Int.ofNat_tdiv n y).symm
    have h6 : IntKind.u64.wrap ((n / y : Nat) : Int) = ((n / y : Nat) : Int) := wu64 (by omega)
    have h7 : (k : Int) + 1 = ((k + 1 : Nat) : Int) := rfl
    have h8 : IntKind.i64.wrap ((k + 1 : Nat) : Int) = ((k + 1 : Nat) : Int) := w64 (by omega)
    rw [show k + 1 + j = k + (j + 1) by omega] at e1
    rw [r51_B0_eq]
    simp (disch := omega) only [go_sem, and_self, and_true, true_and, false_and, and_false, Nat.reduceAdd, Nat.reduceMul, Nat.reduceSub, Nat.reduceLeDiff, Nat.reduceLT, Nat.reduceGT, Nat.reduceEqDiff, Nat.reduceBEq, Int.reduceNeg, Int.reduceEq, Int.reduceLT, Int.reduceLE, Int.reduceBEq, Int.reduceToNat, Int.toNat_natCast, Int.natCast_zero, r51_C0, h2, h3, h4, h5, h6, h7, h8]
    exact e1
  · have := Nat.div_add_mod n y
    rw [h, Nat.add_zero] at this
    rw [← this, Nat.pow_succ, Nat.mul_comm (y ^ j) y, Nat.mul_assoc, ← e2]
theorem sp_loop (y : Nat) (hy : 1 < y) : ∀ (b n k : Nat), n ≤ b → 0 < n → b ≤ 1000000000000000 → k + b ≤ 1000000000000000000 → SpIs y n k
  | 0, n, k, h, hn, _, _ => by omega
  | b + 1, n, k, h, hn, hb, hk => by
    by_cases g : n % y = 0
    · have h1 : n / y < n := Nat.div_lt_self hn hy
      have h2 : 0 < n / y := Nat.div_pos (Nat.le_of_dvd hn (Nat.dvd_of_mod_eq_zero g)) (by omega)
      exact sp_step y n k hy hn (by omega) (by omega) g (sp_loop y hy b (n / y) (k + 1) (by omega) h2 (by omega) (by omega))
    · exact sp_end y n k hy hn g
theorem split_ok (y n : Nat) (hy : 1 < y) (hn : 0 < n) (hn2 : n ≤ 1000000000000000) : ∃ j m : Nat, (∀ hp, F tab 51 [.d (uv n), .d (uv y)] hp = some (.ret (.tup [.d (iv j), .d (uv m)]) hp)) ∧ n = y ^ j * m ∧ m % y ≠ 0 ∧ 0 < m := by
  obtain ⟨j, m, e1, e2, e3, e4⟩ := sp_loop y hy n n 0 (Nat.le_refl _) hn hn2 (by omega)
  rw [Nat.zero_add] at e1
  refine ⟨j, m, fun hp => ?_, e2, e3, e4⟩
  refine f51 rfl ?_
  simp (disch := omega) only [go_sem, and_self, and_true, true_and, false_and, and_false, Nat.reduceAdd, Nat.reduceMul, Nat.reduceSub, Nat.reduceLeDiff, Nat.reduceLT, Nat.reduceGT, Nat.reduceEqDiff, Nat.reduceBEq, Int.reduceNeg, Int.reduceEq, Int.reduceLT, Int.reduceLE, Int.reduceBEq, Int.reduceToNat, Int.toNat_natCast, Int.natCast_zero, r51_T, r51]
  rw [r51_B0_n]
  erw [e1]
  simp (disch := omega) only [go_sem, and_self, and_true, true_and, false_and, and_false, Nat.reduceAdd, Nat.reduceMul, Nat.reduceSub, Nat.reduceLeDiff, Nat.reduceLT, Nat.reduceGT, Nat.reduceEqDiff, Nat.reduceBEq, Int.reduceNeg, Int.reduceEq, Int.reduceLT, Int.reduceLE, Int.reduceBEq, Int.reduceToNat, Int.toNat_natCast, Int.natCast_zero]

def TmIs (y n j i : Nat) : Prop := V (F tab) r52_B0 (r52_S0 (.d (uv n)) (.d (uv y)) (.d (iv j)) (.d (iv i)) []) =
  if n * y ^ (j - i) < 1000000000000000 then some (.norm, r52_E0 (.d (uv (n * y ^ (j - i) : Nat))) []) else some (.ret, r52_R (.d (uv 0)) (.d (.bool false)) [])
theorem tm_end (y n j : Nat) (hn2 : n < 1000000000000000) : TmIs y n j j := by
  have h1 : ((j : Int) < (j : Int)) = False := eq_false (by omega)
  unfold TmIs
  rw [Nat.sub_self, Nat.pow_zero, Nat.mul_one, if_pos hn2, r52_B0_eq]
  simp (disch := omega) only [go_sem, and_self, and_true, true_and, false_and, and_false, Nat.reduceAdd, Nat.reduceMul, Nat.reduceSub, Nat.reduceLeDiff, Nat.reduceLT, Nat.reduceGT, Nat.reduceEqDiff, Nat.reduceBEq, Int.reduceNeg, Int.reduceEq, Int.reduceLT, Int.reduceLE, Int.reduceBEq, Int.reduceToNat, Int.toNat_natCast, Int.natCast_zero, r52_C0, h1]
theorem tm_step (y n j i : Nat) (hy : 1 ≤ y) (hy2 : y ≤ 10) (hn : 0 < n) (hn2 : n < 1000000000000000) (hi : i < j) (hj : j ≤ 1000000) (ih : n * y < 1000000000000000 → TmIs y (n * y) j (i + 1)) : TmIs y n j i := by
  have h1 : ((i : Int) < (j : Int)) = True := eq_true (by omega)
  have h2 : ((n : Int) == 0) = false := by simp only [beq_eq_false_iff_ne, ne_eq]; omega
  have h3 : (n : Int) * (y : Int) = ((n * y : Nat) : Int) := (Int.natCast_mul n y).symm
  have hle : n * y ≤ 10000000000000000 := by
    have : n * y ≤ n * 10 := Nat.mul_le_mul_left n hy2
    omega
  have h4 : IntKind.u64.wrap ((n * y : Nat) : Int) = ((n * y : Nat) : Int) := wu64 (by omega)
  have h5 : (i : Int) + 1 = ((i + 1 : Nat) : Int) := rfl
  have h6 : IntKind.i64.wrap ((i + 1 : Nat) : Int) = ((i + 1 : Nat) : Int) := w64 (by omega)
  have hp : n * y ^ (j - i) = n * y * y ^ (j - (i + 1)) := by
    rw [show j - i = (j - (i + 1)) + 1 by omega, Nat.pow_succ, Nat.mul_comm (y ^ _) y, Nat.mul_assoc]
  unfold TmIs at ih ⊢
  rw [hp, r52_B0_eq]
  by_cases g : n * y < 1000000000000000
  · have h7 : (((n * y : Nat) : Int) ≥ 1000000000000000) = False := eq_false (by omega)
    simp (disch := omega) only [go_sem, and_self, and_true, true_and, false_and, and_false, Nat.reduceAdd, Nat.reduceMul, Nat.reduceSub, Nat.reduceLeDiff, Nat.reduceLT, Nat.reduceGT, Nat.reduceEqDiff, Nat.reduceBEq, Int.reduceNeg, Int.reduceEq, Int.reduceLT, Int.reduceLE, Int.reduceBEq, Int.reduceToNat, Int.toNat_natCast, Int.natCast_zero, r52_C0, h1, h2, h3, h4, h5, h6, h7]
    exact ih g
  · have h7 : (((n * y : Nat) : Int) ≥ 1000000000000000) = True := eq_true (by omega)
    have h8 : ¬ n * y * y ^ (j - (i + 1)) < 1000000000000000 := by
      have hpos : 1 ≤ y ^ (j - (i + 1)) := by first | exact Nat.pow_pos (by omega) | exact Nat.pos_pow_of_pos _ (by omega) | exact Nat.one_le_pow _ _ (by omega)
      have := Nat.mul_le_mul_left (n * y) hpos
      omega
    rw [if_neg h8]
    simp (disch := omega) only [go_sem, and_self, and_true, true_and, false_and, and_false, Nat.reduceAdd, Nat.reduceMul, Nat.reduceSub, Nat.reduceLeDiff, Nat.reduceLT, Nat.reduceGT, Nat.reduceEqDiff, Nat.reduceBEq, Int.reduceNeg, Int.reduceEq, Int.reduceLT, Int.reduceLE, Int.reduceBEq, Int.reduceToNat, Int.toNat_natCast, Int.natCast_zero, r52_C0, h1, h2, h3, h4, h5, h6, h7]
theorem tm_loop (y j : Nat) (hy : 1 ≤ y) (hy2 : y ≤ 10) (hj : j ≤ 1000000) : ∀ (d i n : Nat), i + d = j → 0 < n → n < 1000000000000000 → TmIs y n j i
  | 0, i, n, h, _, hn2 => by obtain rfl : i = j := by omega
                             exact tm_end y n i hn2
  | d + 1, i, n, h, hn, hn2 => tm_step y n j i hy hy2 hn hn2 (by omega) hj fun g => tm_loop y j hy hy2 hj d (i + 1) (n * y) (by omega) (Nat.mul_pos hn (by omega)) g

def timesN (n y j : Nat) : Nat := if n * y ^ j < 1000000000000000 then n * y ^ j else 0
theorem times_ok (n y j : Nat) (hy : 1 ≤ y) (hy2 : y ≤ 10) (hj : j ≤ 1000000) (hn2 : n < 1000000000000000) (hp : List Ent) :
    F tab 52 [.d (uv n), .d (uv y), .d (iv j)] hp = some (.ret (.tup [.d (uv (timesN n y j)), .d (.bool (decide (n * y ^ j < 1000000000000000)))]) hp) := by
  refine f52 rfl ?_
  simp (disch := omega) only [go_sem, and_self, and_true, true_and, false_and, and_false, Nat.reduceAdd, Nat.reduceMul, Nat.reduceSub, Nat.reduceLeDiff, Nat.reduceLT, Nat.reduceGT, Nat.reduceEqDiff, Nat.reduceBEq, Int.reduceNeg, Int.reduceEq, Int.reduceLT, Int.reduceLE, Int.reduceBEq, Int.reduceToNat, Int.toNat_natCast, Int.natCast_zero, r52_T, r52]
  rw [r52_B0_n]
  by_cases hn : n = 0
  · subst hn
    have e : timesN 0 y j = 0 := by simp [timesN]
    have e2 : decide (0 * y ^ j < 1000000000000000) = true := by simp
    rw [e, e2]
    by_cases h : j = 0
    · subst h
      have := tm_end y 0 0 (by omega)
      unfold TmIs at this
      rw [Nat.zero_mul, if_pos (by omega)] at this
      erw [this]
      simp (disch := omega) only [go_sem, and_self, and_true, true_and, false_and, and_false, Nat.reduceAdd, Nat.reduceMul, Nat.reduceSub, Nat.reduceLeDiff, Nat.reduceLT, Nat.reduceGT, Nat.reduceEqDiff, Nat.reduceBEq, Int.reduceNeg, Int.reduceEq, Int.reduceLT, Int.reduceLE, Int.reduceBEq, Int.reduceToNat, Int.toNat_natCast, Int.natCast_zero]
    · have h1 : ((0 : Int) < (j : Int)) = True := eq_true (by omega)
      have h2 : (((0 : Nat) : Int) == 0) = true := rfl
      have h3 : ((0 : Int) == 0) = true := rfl
      rw [r52_B0_eq]
      simp (disch := omega) only [go_sem, and_self, and_true, true_and, false_and, and_false, Nat.reduceAdd, Nat.reduceMul, Nat.reduceSub, Nat.reduceLeDiff, Nat.reduceLT, Nat.reduceGT, Nat.reduceEqDiff, Nat.reduceBEq, Int.reduceNeg, Int.reduceEq, Int.reduceLT, Int.reduceLE, Int.reduceBEq, Int.reduceToNat, Int.toNat_natCast, Int.natCast_zero, r52_C0, h1, h2, h3]
  · have hL := tm_loop y j hy hy2 hj j 0 n (by omega) (by omega) hn2
    unfold TmIs at hL
    rw [Nat.sub_zero] at hL
    erw [hL]
    unfold timesN
    by_cases g : n * y ^ j < 1000000000000000
    · have e2 : decide (n * y ^ j < 1000000000000000) = true := decide_eq_true g
      rw [if_pos g, if_pos g, e2]
      simp (disch := omega) only [go_sem, and_self, and_true, true_and, false_and, and_false, Nat.reduceAdd, Nat.reduceMul, Nat.reduceSub, Nat.reduceLeDiff, Nat.reduceLT, Nat.reduceGT, Nat.reduceEqDiff, Nat.reduceBEq, Int.reduceNeg, Int.reduceEq, Int.reduceLT, Int.reduceLE, Int.reduceBEq, Int.reduceToNat, Int.toNat_natCast, Int.natCast_zero]
    · have e2 : decide (n * y ^ j < 1000000000000000) = false := decide_eq_false g
      rw [if_neg g, if_neg g, e2]
      simp (disch := omega) only [go_sem, and_self, and_true, true_and, false_and, and_false, Nat.reduceAdd, Nat.reduceMul, Nat.reduceSub, Nat.reduceLeDiff, Nat.reduceLT, Nat.reduceGT, Nat.reduceEqDiff, Nat.reduceBEq, Int.reduceNeg, Int.reduceEq, Int.reduceLT, Int.reduceLE, Int.reduceBEq, Int.reduceToNat, Int.toNat_natCast, Int.natCast_zero]
theorem timesN_lt (n y j : Nat) : timesN n y j < 1000000000000000 := by
  unfold timesN; split <;> omega
end Go.Pe.T

namespace Go.Pe.T
/-! ### whole numbers -/
abbrev okT (z : Int) : PV := .tup [.d (.agg [iv z, iv 0]), .d (iv 0)]

theorem numIs_whole {z : Int} (h : -1000000000000000 < z ∧ z < 1000000000000000) : numIs z 0 = true := by
  simp [numIs, h]

theorem made0 {z : Int} (h : -1000000000000000 < z ∧ z < 1000000000000000) : madeT z 0 = okT z := by
  have e : makeOk z 0 = true := numIs_whole h
  rw [made_yes e]; rfl
theorem made9 {z : Int} (h : -1000000000000000 < z ∧ z < 1000000000000000) : madeT (z * 1000000000) 9 = okT z := by
  have hs : stripN (z * 1000000000) 9 = (z, 0) := strip_whole z 9
  have e : makeOk (z * 1000000000) 9 = true := by unfold makeOk; rw [hs]; exact numIs_whole h
  rw [made_yes e, hs]; rfl

theorem flat_whole (z : Int) : flatN z 0 = z * 1000000000 := by
  have e : (10 : Int) ^ (9 - 0) = 1000000000 := by decide
  unfold flatN; rw [e]

section
variable {x y : Int} (hx : -10000000 < x ∧ x < 10000000) (hy : -10000000 < y ∧ y < 10000000)
include hx hy

theorem add_whole (hp : List Ent) : F tab 24 [.d (numD x 0), .d (numD y 0)] hp = some (.ret (okT (x + y)) hp) := by
  have h := add_ok x y 0 0 (numIs_whole (by omega)) (numIs_whole (by omega)) hp
  rw [flat_whole, flat_whole, ← Int.add_mul, made9 (by omega)] at h
  exact h
theorem sub_whole (hp : List Ent) : F tab 29 [.d (numD x 0), .d (numD y 0)] hp = some (.ret (okT (x - y)) hp) := by
  have h := sub_ok x y 0 0 (numIs_whole (by omega)) (numIs_whole (by omega)) hp
  rw [flat_whole, flat_whole, ← Int.sub_mul, made9 (by omega)] at h
  exact h

theorem prod_lt : (x.natAbs : Int) * (y.natAbs : Int) ≤ 100000000000000 ∧ 0 ≤ (x.natAbs : Int) * (y.natAbs : Int) := by
  have h1 : (x.natAbs : Int) ≤ 10000000 := by omega
  have h2 : (y.natAbs : Int) ≤ 10000000 := by omega
  have h3 : (x.natAbs : Int) * (y.natAbs : Int) ≤ 10000000 * (y.natAbs : Int) := Int.mul_le_mul_of_nonneg_right h1 (by omega)
  exact ⟨by omega, Int.mul_nonneg (by omega) (by omega)⟩

theorem mul_whole (hp : List Ent) : F tab 31 [.d (numD x 0), .d (numD y 0)] hp = some (.ret (okT (x * y)) hp) := by
  have h1 := both_ok x 0 y 0
  rw [numIs_whole (z := x) (by omega), numIs_whole (z := y) (by omega)] at h1
  have h2 := size_ok x (by omega)
  have h3 := size_ok y (by omega)
  have h4 := mul64_ok x.natAbs y.natAbs (by omega) (by omega)
  obtain ⟨b1, b2⟩ := prod_lt hx hy
  have hP : (x < 0 → y < 0 → x * y = (x.natAbs : Int) * (y.natAbs : Int)) ∧ (x < 0 → ¬ y < 0 → x * y = 0 - (x.natAbs : Int) * (y.natAbs : Int)) ∧ (¬ x < 0 → y < 0 → x * y = 0 - (x.natAbs : Int) * (y.natAbs : Int)) ∧ (¬ x < 0 → ¬ y < 0 → x * y = (x.natAbs : Int) * (y.natAbs : Int)) := by
    refine ⟨fun a b => ?_, fun a b => ?_, fun a b => ?_, fun a b => ?_⟩
    · rw [show (x.natAbs : Int) = -x by omega, show (y.natAbs : Int) = -y by omega, Int.neg_mul_neg]
    · rw [show (x.natAbs : Int) = -x by omega, show (y.natAbs : Int) = y by omega, Int.neg_mul]; omega
    · rw [show (x.natAbs : Int) = x by omega, show (y.natAbs : Int) = -y by omega, Int.mul_neg]; omega
    · rw [show (x.natAbs : Int) = x by omega, show (y.natAbs : Int) = y by omega]
  generalize hPP : (x.natAbs : Int) * (y.natAbs : Int) = P at *
  have e1 : P / 18446744073709551616 = 0 := by omega
  have e2 : P % 18446744073709551616 = P := by omega
  rw [e1, e2] at h4
  have n0 : ((0 : Int) != 0) = false := rfl
  have n1 : ((0 : Int) + 0 > 0) = False := eq_false (by omega)
  have n2 : ((0 : Int) > 0) = False := eq_false (by omega)
  have n3 : (P ≥ 1000000000000000) = False := eq_false (by omega)
  have z0 : IntKind.i64.wrap (0 + 0) = 0 := by decide
  have a2 : ((2 : Nat) : Int) = 2 := rfl
  have a0 : (0 ≤ (0 : Int)) = True := by simp
  have a1 : (0 ≤ (1 : Int)) = True := by simp
  have t1 : (1 : Int).toNat = 1 := rfl
  have t0 : (0 : Int).toNat = 0 := rfl
  have hm : ∀ c : Int, (-1000000000000000 < c ∧ c < 1000000000000000) → ∀ hp, F tab 47 [.d (iv c), .d (iv 0)] hp = some (.ret (okT c) hp) := by
    intro c hc hp
    have := make_ok c 0 (by unfold i64; omega) (by omega) hp
    rw [made0 hc] at this
    exact this
  have hm1 := hm P (by omega)
  have hm2 := hm (0 - P) (by omega)
  refine f31 rfl ?_
  simp (disch := omega) only [go_sem, and_self, and_true, true_and, false_and, and_false, Nat.reduceAdd, Nat.reduceMul, Nat.reduceSub, Nat.reduceLeDiff, Nat.reduceLT, Nat.reduceGT, Nat.reduceEqDiff, Nat.reduceBEq, Int.reduceNeg, Int.reduceEq, Int.reduceLT, Int.reduceLE, Int.reduceBEq, Int.reduceToNat, Int.toNat_natCast, Int.natCast_zero, r31_T, r31, h1, h2, h3, h4, z0, a2, a0, a1, t0, t1]
  rw [r31_B0_n, r31_B0_eq]
  by_cases g1 : x < 0 <;> by_cases g2 : y < 0
  · have e := hP.1 g1 g2
    rw [e]
    simp (disch := omega) only [go_sem, and_self, and_true, true_and, false_and, and_false, Nat.reduceAdd, Nat.reduceMul, Nat.reduceSub, Nat.reduceLeDiff, Nat.reduceLT, Nat.reduceGT, Nat.reduceEqDiff, Nat.reduceBEq, Int.reduceNeg, Int.reduceEq, Int.reduceLT, Int.reduceLE, Int.reduceBEq, Int.reduceToNat, Int.toNat_natCast, Int.natCast_zero, r31_C0, n0, n1, n2, n3, a2, a0, a1, t0, t1, g1, g2, w64, hm1]
  · have e := hP.2.1 g1 g2
    rw [e]
    simp (disch := omega) only [go_sem, and_self, and_true, true_and, false_and, and_false, Nat.reduceAdd, Nat.reduceMul, Nat.reduceSub, Nat.reduceLeDiff, Nat.reduceLT, Nat.reduceGT, Nat.reduceEqDiff, Nat.reduceBEq, Int.reduceNeg, Int.reduceEq, Int.reduceLT, Int.reduceLE, Int.reduceBEq, Int.reduceToNat, Int.toNat_natCast, Int.natCast_zero, r31_C0, n0, n1, n2, n3, a2, a0, a1, t0, t1, g1, g2, w64, hm2]
  · have e := hP.2.2.1 g1 g2
    rw [e]
    simp (disch := omega) only [go_sem, and_self, and_true, true_and, false_and, and_false, Nat.reduceAdd, Nat.reduceMul, Nat.reduceSub, Nat.reduceLeDiff, Nat.reduceLT, Nat.reduceGT, Nat.reduceEqDiff, Nat.reduceBEq, Int.reduceNeg, Int.reduceEq, Int.reduceLT, Int.reduceLE, Int.reduceBEq, Int.reduceToNat, Int.toNat_natCast, Int.natCast_zero, r31_C0, n0, n1, n2, n3, a2, a0, a1, t0, t1, g1, g2, w64, hm2]
  · have e := hP.2.2.2 g1 g2
    rw [e]
    simp (disch := omega) only [go_sem, and_self, and_true, true_and, false_and, and_false, Nat.reduceAdd, Nat.reduceMul, Nat.reduceSub, Nat.reduceLeDiff, Nat.reduceLT, Nat.reduceGT, Nat.reduceEqDiff, Nat.reduceBEq, Int.reduceNeg, Int.reduceEq, Int.reduceLT, Int.reduceLE, Int.reduceBEq, Int.reduceToNat, Int.toNat_natCast, Int.natCast_zero, r31_C0, n0, n1, n2, n3, a2, a0, a1, t0, t1, g1, g2, w64, hm1]

theorem mod_whole (hy0 : y ≠ 0) (hp : List Ent) : F tab 35 [.d (numD x 0), .d (numD y 0)] hp = some (.ret (okT (x.tmod y)) hp) := by
  have h1 := both_ok x 0 y 0
  rw [numIs_whole (z := x) (by omega), numIs_whole (z := y) (by omega)] at h1
  have hb : -1000000000000000 < x.tmod y ∧ x.tmod y < 1000000000000000 := by
    have := Int.natAbs_tmod x y
    have h2 : x.natAbs % y.natAbs < y.natAbs := Nat.mod_lt _ (by omega)
    omega
  have hm : ∀ hp, F tab 47 [.d (iv (x.tmod y)), .d (iv 0)] hp = some (.ret (okT (x.tmod y)) hp) := by
    intro hp
    have := make_ok (x.tmod y) 0 (by unfold i64; omega) (by omega) hp
    rw [made0 hb] at this
    exact this
  have n0 : ((0 : Int) != 0) = false := rfl
  have n1 : (y == 0) = false := by simpa using hy0
  have n2 : (y = 0) = False := eq_false hy0
  refine f35 rfl ?_
  simp (disch := omega) only [go_sem, and_self, and_true, true_and, false_and, and_false, Nat.reduceAdd, Nat.reduceMul, Nat.reduceSub, Nat.reduceLeDiff, Nat.reduceLT, Nat.reduceGT, Nat.reduceEqDiff, Nat.reduceBEq, Int.reduceNeg, Int.reduceEq, Int.reduceLT, Int.reduceLE, Int.reduceBEq, Int.reduceToNat, Int.toNat_natCast, Int.natCast_zero, r35_T, r35, h1, n0, n1, n2, hm]
end
end Go.Pe.T

namespace Go.Pe.T
/-! ### are two values the same -/
def samK : List ByteArray → List ByteArray → Bool
  | k :: r, k' :: r' => (k.toList == k'.toList) && samK r r'
  | _, _ => true
mutual
def samV : Val → Val → Bool
  | .mk k c s t xs ks, .mk k' c' s' t' ys ks' => (k == k') && ((c == c' && s == s') && ((t.toList == t'.toList) && (decide (xs.length = ys.length) && (decide (ks.length = ks'.length) && (samK ks ks' && samVs xs ys)))))
def samVs : List Val → List Val → Bool
  | x :: r, y :: r' => samV x y && samVs r r'
  | _, _ => true
end
theorem samK_refl : ∀ (l : List ByteArray), samK l l = true
  | [] => rfl
  | k :: r => by simp [samK, samK_refl r]
mutual
theorem samV_refl : ∀ (x : Val), samV x x = true
  | .mk k c s t xs ks => by simp [samV, samK_refl, samVs_refl xs]
theorem samVs_refl : ∀ (l : List Val), samVs l l = true
  | [] => rfl
  | x :: r => by simp [samVs, samV_refl x, samVs_refl r]
end

def SamIs (x y : Val) : Prop := ∀ hp : List Ent, F tab 6 [.d x.enc, .d y.enc] hp = some (.ret (.d (.bool (samV x y))) hp)

abbrev bxV (k c s : Int) (t : ByteArray) (xs : List D) (ks : List ByteArray) : PV := .ibox [.d (iv k), .d (iv c), .d (iv s), .d (.str t), .d (.sl xs), .d (.sl (ks.map .str))]

section
variable (k c s : Int) (t : ByteArray) (xs : List Val) (ks : List ByteArray) (k' c' s' : Int) (t' : ByteArray) (ys : List Val) (ks' : List ByteArray)

def SkLoop (i : Nat) : Prop :=
  V (F tab) r6_B0 (r6_S0 (bxV k c s t (Val.encs xs) ks) (bxV k' c' s' t' (Val.encs ys) ks') (.d (iv i)) []) =
    if samK (ks.drop i) (ks'.drop i) then some (.norm, r6_E0 (bxV k c s t (Val.encs xs) ks) (bxV k' c' s' t' (Val.encs ys) ks') []) else some (.ret, r6_R (.d (.bool false)) [])
theorem sk_end (hlen : ks.length = ks'.length) : SkLoop k c s t xs ks k' c' s' t' ys ks' ks.length := by
  have h1 : ((ks.length : Int) < (ks.length : Int)) = False := eq_false (by omega)
  unfold SkLoop
  rw [r6_B0_eq, List.drop_of_length_le (Nat.le_refl _)]
  simp (disch := omega) only [go_sem, and_self, and_true, true_and, false_and, and_false, Nat.reduceAdd, Nat.reduceMul, Nat.reduceSub, Nat.reduceLeDiff, Nat.reduceLT, Nat.reduceGT, Nat.reduceEqDiff, Nat.reduceBEq, Int.reduceNeg, Int.reduceEq, Int.reduceLT, Int.reduceLE, Int.reduceBEq, Int.reduceToNat, Int.toNat_natCast, Int.natCast_zero, r6_C0, h1, List.length_map, samK]
theorem sk_step (hlen : ks.length = ks'.length) (hl : ks.length ≤ maxLen) (i : Nat) (hi : i < ks.length) (ih : SkLoop k c s t xs ks k' c' s' t' ys ks' (i + 1)) : SkLoop k c s t xs ks k' c' s' t' ys ks' i := by
  have hmx : maxLen = 9223372036854775807 := by decide
  have h1 : ((i : Int) < (ks.length : Int)) = True := eq_true (by omega)
  have i0 : (0 ≤ (i : Int)) = True := eq_true (by omega)
  have va : (ks.map D.str)[i]? = some (.str ks[i]) := by simp [hi]
  have vb : (ks'.map D.str)[i]? = some (.str (ks'[i]'(by omega))) := by simp [show i < ks'.length by omega]
  have e1 : (i : Int) + 1 = ((i + 1 : Nat) : Int) := rfl
  unfold SkLoop at ih ⊢
  rw [r6_B0_eq, List.drop_eq_getElem_cons hi, List.drop_eq_getElem_cons (show i < ks'.length by omega)]
  simp only [samK]
  rcases Bool.eq_false_or_eq_true (ks[i].toList == (ks'[i]'(by omega)).toList) with g | g
  · simp (disch := omega) only [go_sem, and_self, and_true, true_and, false_and, and_false, Nat.reduceAdd, Nat.reduceMul, Nat.reduceSub, Nat.reduceLeDiff, Nat.reduceLT, Nat.reduceGT, Nat.reduceEqDiff, Nat.reduceBEq, Int.reduceNeg, Int.reduceEq, Int.reduceLT, Int.reduceLE, Int.reduceBEq, Int.reduceToNat, Int.toNat_natCast, Int.natCast_zero, r6_C0, h1, i0, va, vb, g, strD_neq, List.length_map, e1, w64, Bool.true_and]
    exact ih
  · simp (disch := omega) only [go_sem, and_self, and_true, true_and, false_and, and_false, Nat.reduceAdd, Nat.reduceMul, Nat.reduceSub, Nat.reduceLeDiff, Nat.reduceLT, Nat.reduceGT, Nat.reduceEqDiff, Nat.reduceBEq, Int.reduceNeg, Int.reduceEq, Int.reduceLT, Int.reduceLE, Int.reduceBEq, Int.reduceToNat, Int.toNat_natCast, Int.natCast_zero, r6_C0, h1, i0, va, vb, g, strD_neq, List.length_map, e1, w64, Bool.false_and]
theorem sk_loop (hlen : ks.length = ks'.length) (hl : ks.length ≤ maxLen) : ∀ (d i : Nat), i + d = ks.length → SkLoop k c s t xs ks k' c' s' t' ys ks' i
  | 0, i, h => by obtain rfl : i = ks.length := by omega
                  exact sk_end k c s t xs ks k' c' s' t' ys ks' hlen
  | d + 1, i, h => sk_step k c s t xs ks k' c' s' t' ys ks' hlen hl i (by omega) (sk_loop hlen hl d (i + 1) (by omega))

def SiLoop (i : Nat) : Prop :=
  V (F tab) r6_B1 (r6_S1 (bxV k c s t (Val.encs xs) ks) (bxV k' c' s' t' (Val.encs ys) ks') (.d (iv i)) []) =
    if samVs (xs.drop i) (ys.drop i) then some (.norm, r6_E1 []) else some (.ret, r6_R (.d (.bool false)) [])
theorem si_end (hlen : xs.length = ys.length) : SiLoop k c s t xs ks k' c' s' t' ys ks' xs.length := by
  have h1 : ((xs.length : Int) < (xs.length : Int)) = False := eq_false (by omega)
  unfold SiLoop
  rw [r6_B1_eq, List.drop_of_length_le (Nat.le_refl _)]
  simp (disch := omega) only [go_sem, and_self, and_true, true_and, false_and, and_false, Nat.reduceAdd, Nat.reduceMul, Nat.reduceSub, Nat.reduceLeDiff, Nat.reduceLT, Nat.reduceGT, Nat.reduceEqDiff, Nat.reduceBEq, Int.reduceNeg, Int.reduceEq, Int.reduceLT, Int.reduceLE, Int.reduceBEq, Int.reduceToNat, Int.toNat_natCast, Int.natCast_zero, r6_C1, h1, encs_len, samVs]
theorem si_step (hlen : xs.length = ys.length) (hl : xs.length ≤ maxLen) (i : Nat) (hi : i < xs.length) (hs : SamIs xs[i] (ys[i]'(by omega))) (ih : SiLoop k c s t xs ks k' c' s' t' ys ks' (i + 1)) : SiLoop k c s t xs ks k' c' s' t' ys ks' i := by
  have hmx : maxLen = 9223372036854775807 := by decide
  have h1 : ((i : Int) < (xs.length : Int)) = True := eq_true (by omega)
  have i0 : (0 ≤ (i : Int)) = True := eq_true (by omega)
  have va : (Val.encs xs)[i]? = some xs[i].enc := by rw [encs_get]; simp [hi]
  have vb : (Val.encs ys)[i]? = some (ys[i]'(by omega)).enc := by rw [encs_get]; simp [show i < ys.length by omega]
  have e1 : (i : Int) + 1 = ((i + 1 : Nat) : Int) := rfl
  unfold SamIs at hs
  unfold SiLoop at ih ⊢
  rw [r6_B1_eq, List.drop_eq_getElem_cons hi, List.drop_eq_getElem_cons (show i < ys.length by omega)]
  simp only [samVs]
  rcases Bool.eq_false_or_eq_true (samV xs[i] (ys[i]'(by omega))) with g | g
  · rw [g] at hs
    simp (disch := omega) only [go_sem, and_self, and_true, true_and, false_and, and_false, Nat.reduceAdd, Nat.reduceMul, Nat.reduceSub, Nat.reduceLeDiff, Nat.reduceLT, Nat.reduceGT, Nat.reduceEqDiff, Nat.reduceBEq, Int.reduceNeg, Int.reduceEq, Int.reduceLT, Int.reduceLE, Int.reduceBEq, Int.reduceToNat, Int.toNat_natCast, Int.natCast_zero, r6_C1, h1, i0, va, vb, hs, g, enc_w, enc_a, encs_len, e1, w64, Bool.true_and]
    exact ih
  · rw [g] at hs
    simp (disch := omega) only [go_sem, and_self, and_true, true_and, false_and, and_false, Nat.reduceAdd, Nat.reduceMul, Nat.reduceSub, Nat.reduceLeDiff, Nat.reduceLT, Nat.reduceGT, Nat.reduceEqDiff, Nat.reduceBEq, Int.reduceNeg, Int.reduceEq, Int.reduceLT, Int.reduceLE, Int.reduceBEq, Int.reduceToNat, Int.toNat_natCast, Int.natCast_zero, r6_C1, h1, i0, va, vb, hs, g, enc_w, enc_a, encs_len, e1, w64, Bool.false_and]
theorem si_loop (hlen : xs.length = ys.length) (hl : xs.length ≤ maxLen) (hs : ∀ (i : Nat) (x y : Val), xs[i]? = some x → ys[i]? = some y → SamIs x y) : ∀ (d i : Nat), i + d = xs.length → SiLoop k c s t xs ks k' c' s' t' ys ks' i
  | 0, i, h => by obtain rfl : i = xs.length := by omega
                  exact si_end k c s t xs ks k' c' s' t' ys ks' hlen
  | d + 1, i, h => si_step k c s t xs ks k' c' s' t' ys ks' hlen hl i (by omega) (hs i _ _ (List.getElem?_eq_getElem (by omega)) (List.getElem?_eq_getElem (by omega))) (si_loop hlen hl hs d (i + 1) (by omega))

set_option maxHeartbeats 1000000 in
theorem sam_core (h1 : xs.length ≤ maxLen) (h2 : ks.length ≤ maxLen) (hs : ∀ (i : Nat) (x y : Val), xs[i]? = some x → ys[i]? = some y → SamIs x y) : SamIs (.mk k c s t xs ks) (.mk k' c' s' t' ys ks') := by
  intro hp
  refine f6 rfl ?_
  have he := eqD_num c s c' s'
  have x1 : ((xs.length : Int) != (ys.length : Int)) = !decide (xs.length = ys.length) := by by_cases h : xs.length = ys.length <;> simp [h]; omega
  have x2 : ((ks.length : Int) != (ks'.length : Int)) = !decide (ks.length = ks'.length) := by by_cases h : ks.length = ks'.length <;> simp [h]; omega
  have x0 : (k != k') = !(k == k') := rfl
  simp only [Val.enc, samV]
  rcases Bool.eq_false_or_eq_true (k == k') with g0 | g0
  · rcases Bool.eq_false_or_eq_true (c == c' && s == s') with g1 | g1
    · rcases Bool.eq_false_or_eq_true (t.toList == t'.toList) with g2 | g2
      · rcases Bool.eq_false_or_eq_true (decide (xs.length = ys.length)) with g3 | g3
        · rcases Bool.eq_false_or_eq_true (decide (ks.length = ks'.length)) with g4 | g4
          · have hlen := of_decide_eq_true g3
            have hlek := of_decide_eq_true g4
            have hk := sk_loop k c s t xs ks k' c' s' t' ys ks' hlek h2 ks.length 0 (by omega)
            have hi := si_loop k c s t xs ks k' c' s' t' ys ks' hlen h1 hs xs.length 0 (by omega)
            unfold SkLoop at hk
            unfold SiLoop at hi
            rw [List.drop_zero, List.drop_zero] at hk hi
            rw [g0, g1, g2, g3, g4]
            simp (disch := omega) only [go_sem, and_self, and_true, true_and, false_and, and_false, Nat.reduceAdd, Nat.reduceMul, Nat.reduceSub, Nat.reduceLeDiff, Nat.reduceLT, Nat.reduceGT, Nat.reduceEqDiff, Nat.reduceBEq, Int.reduceNeg, Int.reduceEq, Int.reduceLT, Int.reduceLE, Int.reduceBEq, Int.reduceToNat, Int.toNat_natCast, Int.natCast_zero, r6_T, r6, x0, x1, x2, g0, he, g1, strD_neq, g2, encs_len, g3, List.length_map, g4, Bool.true_and]
            rw [r6_B0_n]
            erw [hk]
            rcases Bool.eq_false_or_eq_true (samK ks ks') with g5 | g5
            · rw [g5]
              simp (disch := omega) only [go_sem, and_self, and_true, true_and, false_and, and_false, Nat.reduceAdd, Nat.reduceMul, Nat.reduceSub, Nat.reduceLeDiff, Nat.reduceLT, Nat.reduceGT, Nat.reduceEqDiff, Nat.reduceBEq, Int.reduceNeg, Int.reduceEq, Int.reduceLT, Int.reduceLE, Int.reduceBEq, Int.reduceToNat, Int.toNat_natCast, Int.natCast_zero]
              rw [r6_B1_n]
              erw [hi]
              rcases Bool.eq_false_or_eq_true (samVs xs ys) with g6 | g6 <;> rw [g6] <;> simp only [go_sem, and_self, and_true, true_and, false_and, and_false, Nat.reduceAdd, Nat.reduceMul, Nat.reduceSub, Nat.reduceLeDiff, Nat.reduceLT, Nat.reduceGT, Nat.reduceEqDiff, Nat.reduceBEq, Int.reduceNeg, Int.reduceEq, Int.reduceLT, Int.reduceLE, Int.reduceBEq, Int.reduceToNat, Int.toNat_natCast, Int.natCast_zero]
            · rw [g5]
              simp (disch := omega) only [go_sem, and_self, and_true, true_and, false_and, and_false, Nat.reduceAdd, Nat.reduceMul, Nat.reduceSub, Nat.reduceLeDiff, Nat.reduceLT, Nat.reduceGT, Nat.reduceEqDiff, Nat.reduceBEq, Int.reduceNeg, Int.reduceEq, Int.reduceLT, Int.reduceLE, Int.reduceBEq, Int.reduceToNat, Int.toNat_natCast, Int.natCast_zero, Bool.false_and]
          · rw [g0, g1, g2, g3, g4]
            simp (disch := omega) only [go_sem, and_self, and_true, true_and, false_and, and_false, Nat.reduceAdd, Nat.reduceMul, Nat.reduceSub, Nat.reduceLeDiff, Nat.reduceLT, Nat.reduceGT, Nat.reduceEqDiff, Nat.reduceBEq, Int.reduceNeg, Int.reduceEq, Int.reduceLT, Int.reduceLE, Int.reduceBEq, Int.reduceToNat, Int.toNat_natCast, Int.natCast_zero, r6_T, r6, x0, x1, x2, g0, he, g1, strD_neq, g2, encs_len, g3, List.length_map, g4, Bool.true_and, Bool.false_and]
        · rw [g0, g1, g2, g3]
          simp (disch := omega) only [go_sem, and_self, and_true, true_and, false_and, and_false, Nat.reduceAdd, Nat.reduceMul, Nat.reduceSub, Nat.reduceLeDiff, Nat.reduceLT, Nat.reduceGT, Nat.reduceEqDiff, Nat.reduceBEq, Int.reduceNeg, Int.reduceEq, Int.reduceLT, Int.reduceLE, Int.reduceBEq, Int.reduceToNat, Int.toNat_natCast, Int.natCast_zero, r6_T, r6, x0, x1, g0, he, g1, strD_neq, g2, encs_len, g3, Bool.true_and, Bool.false_and]
      · rw [g0, g1, g2]
        simp (disch := omega) only [go_sem, and_self, and_true, true_and, false_and, and_false, Nat.reduceAdd, Nat.reduceMul, Nat.reduceSub, Nat.reduceLeDiff, Nat.reduceLT, Nat.reduceGT, Nat.reduceEqDiff, Nat.reduceBEq, Int.reduceNeg, Int.reduceEq, Int.reduceLT, Int.reduceLE, Int.reduceBEq, Int.reduceToNat, Int.toNat_natCast, Int.natCast_zero, r6_T, r6, x0, g0, he, g1, strD_neq, g2, Bool.true_and, Bool.false_and]
    · rw [g0, g1]
      simp (disch := omega) only [go_sem, and_self, and_true, true_and, false_and, and_false, Nat.reduceAdd, Nat.reduceMul, Nat.reduceSub, Nat.reduceLeDiff, Nat.reduceLT, Nat.reduceGT, Nat.reduceEqDiff, Nat.reduceBEq, Int.reduceNeg, Int.reduceEq, Int.reduceLT, Int.reduceLE, Int.reduceBEq, Int.reduceToNat, Int.toNat_natCast, Int.natCast_zero, r6_T, r6, x0, g0, he, g1, Bool.true_and, Bool.false_and]
  · rw [g0]
    simp (disch := omega) only [go_sem, and_self, and_true, true_and, false_and, and_false, Nat.reduceAdd, Nat.reduceMul, Nat.reduceSub, Nat.reduceLeDiff, Nat.reduceLT, Nat.reduceGT, Nat.reduceEqDiff, Nat.reduceBEq, Int.reduceNeg, Int.reduceEq, Int.reduceLT, Int.reduceLE, Int.reduceBEq, Int.reduceToNat, Int.toNat_natCast, Int.natCast_zero, r6_T, r6, x0, g0, Bool.false_and]
end

theorem sam_ok : ∀ (x y : Val), x.ok → SamIs x y
  | .mk k c s t xs ks, .mk k' c' s' t' ys ks', hx => by
    simp only [Val.ok] at hx
    refine sam_core k c s t xs ks k' c' s' t' ys ks' hx.2.2.2.2.1 hx.2.2.2.2.2.1 ?_
    intro i x y hxi _
    have hm := List.mem_of_getElem? hxi
    exact sam_ok x y (oks_mem hx.2.2.2.2.2.2.2 hm)
end Go.Pe.T

namespace Go.Pe.T
/-! ### whole numbers and signs -/
theorem lit_eq (a b : List UInt8) : ((⟨a.toArray⟩ : ByteArray).toList == (⟨b.toArray⟩ : ByteArray).toList) = (a.map UInt8.toNat == b.map UInt8.toNat) := by
  rw [ByteArray.toList_eq, ByteArray.toList_eq]
  show (a.toArray.toList == b.toArray.toList) = _
  rw [List.toList_toArray, List.toList_toArray]
  by_cases h : a = b
  · subst h; simp
  · have h2 : a.map UInt8.toNat ≠ b.map UInt8.toNat := by
      intro e
      exact h ((List.map_inj_right (fun x y h => UInt8.toNat_inj.1 h)).1 e)
    rw [beq_eq_false_iff_ne.2 h, beq_eq_false_iff_ne.2 h2]
theorem lives19_ev : evF tab 200 4 [] [] = some (.ret (.d (.bool true)) []) := by kernel_rfl
theorem lives19_ok (hp : List Ent) : F tab 4 [] hp = some (.ret (.d (.bool true)) hp) :=
  F_some.2 ⟨200, ((evF_nice (pf := pf) pf_ok 200).2 4 rfl _ _ _ _ lives19_ev).2 hp⟩
def valN (c : Int) : Val := .mk 3 c 0 ⟨#[]⟩ [] []
theorem n19_ok (c : Int) (hp : List Ent) : F tab 5 [.d (iv c)] hp = some (.ret (.d (valN c).enc) hp) := by
  refine f5 rfl ?_
  simp (disch := omega) only [go_sem, and_self, and_true, true_and, false_and, and_false, Nat.reduceAdd, Nat.reduceMul, Nat.reduceSub, Nat.reduceLeDiff, Nat.reduceLT, Nat.reduceGT, Nat.reduceEqDiff, Nat.reduceBEq, Int.reduceNeg, Int.reduceEq, Int.reduceLT, Int.reduceLE, Int.reduceBEq, Int.reduceToNat, Int.toNat_natCast, Int.natCast_zero, r5_T, r5, valN, Val.enc, Val.encs, List.map_nil]
theorem true_ok (k c s : Int) (t : ByteArray) (xs ks : D) (hx : xs.isAgg = false) (hk : ks.isAgg = false) (hp : List Ent) : F tab 10 [.d (.agg [iv k, iv c, iv s, .str t, xs, ks])] hp = some (.ret (.d (.bool (k != 0 && k != 1))) hp) := by
  have z0 : ((0 : Int) != 0) = false := rfl
  refine f10 rfl ?_
  rcases Bool.eq_false_or_eq_true (k != 0) with q | q <;> simp (disch := omega) only [go_sem, and_self, and_true, true_and, false_and, and_false, Nat.reduceAdd, Nat.reduceMul, Nat.reduceSub, Nat.reduceLeDiff, Nat.reduceLT, Nat.reduceGT, Nat.reduceEqDiff, Nat.reduceBEq, Int.reduceNeg, Int.reduceEq, Int.reduceLT, Int.reduceLE, Int.reduceBEq, Int.reduceToNat, Int.toNat_natCast, Int.natCast_zero, r10_T, r10, q, Bool.true_and, Bool.false_and]
theorem both_ok19 (k c s : Int) (t : ByteArray) (xs ks : D) (k' c' s' : Int) (t' : ByteArray) (xs' ks' : D) (m : Int) (hp : List Ent) :
    F tab 22 [.d (.agg [iv k, iv c, iv s, .str t, xs, ks]), .d (.agg [iv k', iv c', iv s', .str t', xs', ks']), .d (iv m)] hp = some (.ret (.d (.bool (k == m && k' == m))) hp) := by
  refine f22 rfl ?_
  rcases Bool.eq_false_or_eq_true (k == m) with q | q <;> simp (disch := omega) only [go_sem, and_self, and_true, true_and, false_and, and_false, Nat.reduceAdd, Nat.reduceMul, Nat.reduceSub, Nat.reduceLeDiff, Nat.reduceLT, Nat.reduceGT, Nat.reduceEqDiff, Nat.reduceBEq, Int.reduceNeg, Int.reduceEq, Int.reduceLT, Int.reduceLE, Int.reduceBEq, Int.reduceToNat, Int.toNat_natCast, Int.natCast_zero, r22_T, r22, q, Bool.true_and, Bool.false_and]
theorem number_ok (z : Int) (hp : List Ent) : F tab 23 [.d (.agg [iv z, iv 0]), .d (iv 0)] hp = some (.ret (.d (valN z).enc) hp) := by
  have n0 : ((0 : Int) != 0) = false := rfl
  refine f23 rfl ?_
  simp (disch := omega) only [go_sem, and_self, and_true, true_and, false_and, and_false, Nat.reduceAdd, Nat.reduceMul, Nat.reduceSub, Nat.reduceLeDiff, Nat.reduceLT, Nat.reduceGT, Nat.reduceEqDiff, Nat.reduceBEq, Int.reduceNeg, Int.reduceEq, Int.reduceLT, Int.reduceLE, Int.reduceBEq, Int.reduceToNat, Int.toNat_natCast, Int.natCast_zero, r23_T, r23, n0, valN, Val.enc, Val.encs, List.map_nil]
end Go.Pe.T

namespace Go.Pe.T
theorem isNaNi_ok (a : Int) (hp : List Ent) : F tab 71 [.d (iv a)] hp = some (.ret (.d (.bool false)) hp) := by
  refine f71 rfl ?_
  have h : (a != a) = false := by simp
  simp only [go_sem, and_self, and_true, true_and, false_and, and_false, Nat.reduceAdd, Nat.reduceMul, Nat.reduceSub, Nat.reduceLeDiff, Nat.reduceLT, Nat.reduceGT, Nat.reduceEqDiff, Nat.reduceBEq, Int.reduceNeg, Int.reduceEq, Int.reduceLT, Int.reduceLE, Int.reduceBEq, Int.reduceToNat, Int.toNat_natCast, Int.natCast_zero, r71_T, r71, h]

theorem cmpi_ok (a b : Int) (hp : List Ent) : F tab 54 [.d (iv a), .d (iv b)] hp = some (.ret (.d (iv (sgn a b))) hp) := by
  refine f54 rfl ?_
  have h1 := isNaNi_ok a
  have h2 := isNaNi_ok b
  by_cases ha : a < b
  · simp only [go_sem, and_self, and_true, true_and, false_and, and_false, Nat.reduceAdd, Nat.reduceMul, Nat.reduceSub, Nat.reduceLeDiff, Nat.reduceLT, Nat.reduceGT, Nat.reduceEqDiff, Nat.reduceBEq, Int.reduceNeg, Int.reduceEq, Int.reduceLT, Int.reduceLE, Int.reduceBEq, Int.reduceToNat, Int.toNat_natCast, Int.natCast_zero, r54_T, r54, h1, h2, ha, sgn]
  · by_cases hb : a > b
    · simp only [go_sem, and_self, and_true, true_and, false_and, and_false, Nat.reduceAdd, Nat.reduceMul, Nat.reduceSub, Nat.reduceLeDiff, Nat.reduceLT, Nat.reduceGT, Nat.reduceEqDiff, Nat.reduceBEq, Int.reduceNeg, Int.reduceEq, Int.reduceLT, Int.reduceLE, Int.reduceBEq, Int.reduceToNat, Int.toNat_natCast, Int.natCast_zero, r54_T, r54, h1, h2, ha, hb, sgn]
    · simp only [go_sem, and_self, and_true, true_and, false_and, and_false, Nat.reduceAdd, Nat.reduceMul, Nat.reduceSub, Nat.reduceLeDiff, Nat.reduceLT, Nat.reduceGT, Nat.reduceEqDiff, Nat.reduceBEq, Int.reduceNeg, Int.reduceEq, Int.reduceLT, Int.reduceLE, Int.reduceBEq, Int.reduceToNat, Int.toNat_natCast, Int.natCast_zero, r54_T, r54, h1, h2, ha, hb, sgn]

def rankOf (k : Int) : Int := if k < 0 then 8 else if k > 7 then 8 else k

theorem rank_ok (k : Int) (hp : List Ent) : F tab 55 [.d (iv k)] hp = some (.ret (.d (iv (rankOf k))) hp) := by
  refine f55 rfl ?_
  by_cases h1 : k < 0
  · simp only [go_sem, and_self, and_true, true_and, false_and, and_false, Nat.reduceAdd, Nat.reduceMul, Nat.reduceSub, Nat.reduceLeDiff, Nat.reduceLT, Nat.reduceGT, Nat.reduceEqDiff, Nat.reduceBEq, Int.reduceNeg, Int.reduceEq, Int.reduceLT, Int.reduceLE, Int.reduceBEq, Int.reduceToNat, Int.toNat_natCast, Int.natCast_zero, r55_T, r55, h1, rankOf]
  · by_cases h2 : k > 7
    · simp only [go_sem, and_self, and_true, true_and, false_and, and_false, Nat.reduceAdd, Nat.reduceMul, Nat.reduceSub, Nat.reduceLeDiff, Nat.reduceLT, Nat.reduceGT, Nat.reduceEqDiff, Nat.reduceBEq, Int.reduceNeg, Int.reduceEq, Int.reduceLT, Int.reduceLE, Int.reduceBEq, Int.reduceToNat, Int.toNat_natCast, Int.natCast_zero, r55_T, r55, h1, h2, rankOf]
    · simp only [go_sem, and_self, and_true, true_and, false_and, and_false, Nat.reduceAdd, Nat.reduceMul, Nat.reduceSub, Nat.reduceLeDiff, Nat.reduceLT, Nat.reduceGT, Nat.reduceEqDiff, Nat.reduceBEq, Int.reduceNeg, Int.reduceEq, Int.reduceLT, Int.reduceLE, Int.reduceBEq, Int.reduceToNat, Int.toNat_natCast, Int.natCast_zero, r55_T, r55, h1, h2, rankOf]

theorem clean_ok (c s : Int) (hp : List Ent) : F tab 57 [.d (numD c s)] hp = some (.ret (.d (if numIs c s then numD c s else numD 0 0)) hp) := by
  refine f57 rfl ?_
  have h1 := numIs_ok c s
  rcases Bool.eq_false_or_eq_true (numIs c s) with h | h
  · simp only [go_sem, and_self, and_true, true_and, false_and, and_false, Nat.reduceAdd, Nat.reduceMul, Nat.reduceSub, Nat.reduceLeDiff, Nat.reduceLT, Nat.reduceGT, Nat.reduceEqDiff, Nat.reduceBEq, Int.reduceNeg, Int.reduceEq, Int.reduceLT, Int.reduceLE, Int.reduceBEq, Int.reduceToNat, Int.toNat_natCast, Int.natCast_zero, r57_T, r57, h1, h]
  · simp only [go_sem, and_self, and_true, true_and, false_and, and_false, Nat.reduceAdd, Nat.reduceMul, Nat.reduceSub, Nat.reduceLeDiff, Nat.reduceLT, Nat.reduceGT, Nat.reduceEqDiff, Nat.reduceBEq, Int.reduceNeg, Int.reduceEq, Int.reduceLT, Int.reduceLE, Int.reduceBEq, Int.reduceToNat, Int.toNat_natCast, Int.natCast_zero, r57_T, r57, h1, h]

end Go.Pe.T

namespace Go.Pe.T
/-! ### numbers by their sign -/
abbrev sgB (l : List UInt8) : ByteArray := ⟨l.toArray⟩
abbrev nD (c : Int) : D := .agg [iv 3, iv c, iv 0, .str ⟨#[]⟩, .sl [], .sl []]
theorem valN_enc (c : Int) : (valN c).enc = nD c := rfl
abbrev kD (k : Int) : D := .agg [iv k, iv 0, iv 0, .str ⟨#[]⟩, .sl [], .sl []]
theorem wrong_ok (t : ByteArray) (hp : List Ent) : F tab 19 [.d (.str t)] hp = some (.ret (.d (.agg [iv 7, iv 0, iv 0, .str t, .sl [], .sl []])) hp) := by
  refine f19 rfl ?_
  simp (disch := omega) only [go_sem, and_self, and_true, true_and, false_and, and_false, Nat.reduceAdd, Nat.reduceMul, Nat.reduceSub, Nat.reduceLeDiff, Nat.reduceLT, Nat.reduceGT, Nat.reduceEqDiff, Nat.reduceBEq, Int.reduceNeg, Int.reduceEq, Int.reduceLT, Int.reduceLE, Int.reduceBEq, Int.reduceToNat, Int.toNat_natCast, Int.natCast_zero, r19_T, r19]
theorem truth_ok (b : Bool) (hp : List Ent) : F tab 12 [.d (.bool b)] hp = some (.ret (.d (kD (if b then 2 else 1))) hp) := by
  refine f12 rfl ?_
  cases b <;> simp (disch := omega) only [go_sem, and_self, and_true, true_and, false_and, and_false, Nat.reduceAdd, Nat.reduceMul, Nat.reduceSub, Nat.reduceLeDiff, Nat.reduceLT, Nat.reduceGT, Nat.reduceEqDiff, Nat.reduceBEq, Int.reduceNeg, Int.reduceEq, Int.reduceLT, Int.reduceLE, Int.reduceBEq, Int.reduceToNat, Int.toNat_natCast, Int.natCast_zero, r12_T, r12] <;> rfl
theorem rtruth_ok (b : Bool) (hp : List Ent) : F tab 8 [.d (.bool b)] hp = some (.ret (.d (kD (if b then 2 else 1))) hp) := by
  refine f8 rfl ?_
  cases b <;> simp (disch := omega) only [go_sem, and_self, and_true, true_and, false_and, and_false, Nat.reduceAdd, Nat.reduceMul, Nat.reduceSub, Nat.reduceLeDiff, Nat.reduceLT, Nat.reduceGT, Nat.reduceEqDiff, Nat.reduceBEq, Int.reduceNeg, Int.reduceEq, Int.reduceLT, Int.reduceLE, Int.reduceBEq, Int.reduceToNat, Int.toNat_natCast, Int.natCast_zero, r8_T, r8] <;> rfl
theorem bad_ok (e : Int) (he : (e != 0) = true) (z : D) (hz : z.isAgg = true) (hw : z.width = 2) (hp : List Ent) : F tab 23 [.d (.agg [iv 0, iv 0]), .d (iv e)] hp = some (.ret (.d (.agg [iv 7, iv 0, iv 0, .str ⟨#[110, 117, 109, 98, 101, 114]⟩, .sl [], .sl []])) hp) := by
  have hW := wrong_ok ⟨#[110, 117, 109, 98, 101, 114]⟩
  refine f23 rfl ?_
  simp (disch := omega) only [go_sem, and_self, and_true, true_and, false_and, and_false, Nat.reduceAdd, Nat.reduceMul, Nat.reduceSub, Nat.reduceLeDiff, Nat.reduceLT, Nat.reduceGT, Nat.reduceEqDiff, Nat.reduceBEq, Int.reduceNeg, Int.reduceEq, Int.reduceLT, Int.reduceLE, Int.reduceBEq, Int.reduceToNat, Int.toNat_natCast, Int.natCast_zero, r23_T, r23, he, hW]
theorem plusN (x y : Int) (hx : -10000000 < x ∧ x < 10000000) (hy : -10000000 < y ∧ y < 10000000) (hp : List Ent) : F tab 7 [.d (.str ⟨#[43]⟩), .d (nD x), .d (nD y)] hp = some (.ret (.d (nD (x + y))) hp) := by
  have ha := add_whole hx hy
  have hn := number_ok (x + y)
  rw [valN_enc] at hn
  have hb := both_ok19 3 x 0 ⟨#[]⟩ (.sl []) (.sl []) 3 y 0 ⟨#[]⟩ (.sl []) (.sl []) 3
  have q3 : ((3 : Int) == 3 && (3 : Int) == 3) = true := rfl
  rw [q3] at hb
  have hpl : ∀ hp, F tab 14 [.d (nD x), .d (nD y)] hp = some (.ret (.d (nD (x + y))) hp) := by
    intro hp
    refine f14 rfl ?_
    simp (disch := omega) only [go_sem, and_self, and_true, true_and, false_and, and_false, Nat.reduceAdd, Nat.reduceMul, Nat.reduceSub, Nat.reduceLeDiff, Nat.reduceLT, Nat.reduceGT, Nat.reduceEqDiff, Nat.reduceBEq, Int.reduceNeg, Int.reduceEq, Int.reduceLT, Int.reduceLE, Int.reduceBEq, Int.reduceToNat, Int.toNat_natCast, Int.natCast_zero, r14_T, r14, hb, ha, hn]
  have hst : ∀ hp, F tab 11 [.d (.str ⟨#[43]⟩), .d (nD x), .d (nD y)] hp = some (.ret (.d (nD (x + y))) hp) := by
    intro hp
    refine f11 rfl ?_
    simp (disch := omega) only [go_sem, and_self, and_true, true_and, false_and, and_false, Nat.reduceAdd, Nat.reduceMul, Nat.reduceSub, Nat.reduceLeDiff, Nat.reduceLT, Nat.reduceGT, Nat.reduceEqDiff, Nat.reduceBEq, Int.reduceNeg, Int.reduceEq, Int.reduceLT, Int.reduceLE, Int.reduceBEq, Int.reduceToNat, Int.toNat_natCast, Int.natCast_zero, strD, lit_eq, List.map_cons, List.map_nil, List.cons_beq_cons, List.nil_beq_eq, List.beq_nil_eq, List.isEmpty_cons, List.isEmpty_nil, UInt8.reduceToNat, Nat.reduceBEq, Bool.true_and, Bool.false_and, r11_T, r11, hpl]
  refine f7 rfl ?_
  simp (disch := omega) only [go_sem, and_self, and_true, true_and, false_and, and_false, Nat.reduceAdd, Nat.reduceMul, Nat.reduceSub, Nat.reduceLeDiff, Nat.reduceLT, Nat.reduceGT, Nat.reduceEqDiff, Nat.reduceBEq, Int.reduceNeg, Int.reduceEq, Int.reduceLT, Int.reduceLE, Int.reduceBEq, Int.reduceToNat, Int.toNat_natCast, Int.natCast_zero, strD, lit_eq, List.map_cons, List.map_nil, List.cons_beq_cons, List.nil_beq_eq, List.beq_nil_eq, List.isEmpty_cons, List.isEmpty_nil, UInt8.reduceToNat, Nat.reduceBEq, Bool.true_and, Bool.false_and, r7_T, r7, hst]
end Go.Pe.T

namespace Go.Pe.T
theorem numPair (x y : Int) (hp : List Ent) : F tab 22 [.d (nD x), .d (nD y), .d (iv 3)] hp = some (.ret (.d (.bool true)) hp) := by
  have hb := both_ok19 3 x 0 ⟨#[]⟩ (.sl []) (.sl []) 3 y 0 ⟨#[]⟩ (.sl []) (.sl []) 3 hp
  exact hb
theorem numberN (z : Int) (hp : List Ent) : F tab 23 [.d (.agg [iv z, iv 0]), .d (iv 0)] hp = some (.ret (.d (nD z)) hp) := number_ok z hp
section
variable (x y : Int) (hx : -10000000 < x ∧ x < 10000000) (hy : -10000000 < y ∧ y < 10000000)
include hx hy
theorem minusN (hp : List Ent) : F tab 7 [.d (.str ⟨#[45]⟩), .d (nD x), .d (nD y)] hp = some (.ret (.d (nD (x - y))) hp) := by
  have ha := sub_whole hx hy
  have hn := numberN (x - y)
  have hb := numPair x y
  have hpl : ∀ hp, F tab 15 [.d (nD x), .d (nD y)] hp = some (.ret (.d (nD (x - y))) hp) := by
    intro hp
    refine f15 rfl ?_
    simp (disch := omega) only [go_sem, and_self, and_true, true_and, false_and, and_false, Nat.reduceAdd, Nat.reduceMul, Nat.reduceSub, Nat.reduceLeDiff, Nat.reduceLT, Nat.reduceGT, Nat.reduceEqDiff, Nat.reduceBEq, Int.reduceNeg, Int.reduceEq, Int.reduceLT, Int.reduceLE, Int.reduceBEq, Int.reduceToNat, Int.toNat_natCast, Int.natCast_zero, r15_T, r15, hb, ha, hn]
  have hst : ∀ hp, F tab 11 [.d (.str ⟨#[45]⟩), .d (nD x), .d (nD y)] hp = some (.ret (.d (nD (x - y))) hp) := by
    intro hp
    refine f11 rfl ?_
    simp (disch := omega) only [go_sem, and_self, and_true, true_and, false_and, and_false, Nat.reduceAdd, Nat.reduceMul, Nat.reduceSub, Nat.reduceLeDiff, Nat.reduceLT, Nat.reduceGT, Nat.reduceEqDiff, Nat.reduceBEq, Int.reduceNeg, Int.reduceEq, Int.reduceLT, Int.reduceLE, Int.reduceBEq, Int.reduceToNat, Int.toNat_natCast, Int.natCast_zero, strD, lit_eq, List.map_cons, List.map_nil, List.cons_beq_cons, List.nil_beq_eq, List.beq_nil_eq, List.isEmpty_cons, List.isEmpty_nil, UInt8.reduceToNat, Nat.reduceBEq, Bool.true_and, Bool.false_and, r11_T, r11, hpl]
  refine f7 rfl ?_
  simp (disch := omega) only [go_sem, and_self, and_true, true_and, false_and, and_false, Nat.reduceAdd, Nat.reduceMul, Nat.reduceSub, Nat.reduceLeDiff, Nat.reduceLT, Nat.reduceGT, Nat.reduceEqDiff, Nat.reduceBEq, Int.reduceNeg, Int.reduceEq, Int.reduceLT, Int.reduceLE, Int.reduceBEq, Int.reduceToNat, Int.toNat_natCast, Int.natCast_zero, strD, lit_eq, List.map_cons, List.map_nil, List.cons_beq_cons, List.nil_beq_eq, List.beq_nil_eq, List.isEmpty_cons, List.isEmpty_nil, UInt8.reduceToNat, Nat.reduceBEq, Bool.true_and, Bool.false_and, r7_T, r7, hst]
theorem mulSN (hp : List Ent) : F tab 7 [.d (.str ⟨#[42]⟩), .d (nD x), .d (nD y)] hp = some (.ret (.d (nD (x * y))) hp) := by
  have ha := mul_whole hx hy
  have hn := numberN (x * y)
  have hb := numPair x y
  have hpl : ∀ hp, F tab 16 [.d (nD x), .d (nD y)] hp = some (.ret (.d (nD (x * y))) hp) := by
    intro hp
    refine f16 rfl ?_
    simp (disch := omega) only [go_sem, and_self, and_true, true_and, false_and, and_false, Nat.reduceAdd, Nat.reduceMul, Nat.reduceSub, Nat.reduceLeDiff, Nat.reduceLT, Nat.reduceGT, Nat.reduceEqDiff, Nat.reduceBEq, Int.reduceNeg, Int.reduceEq, Int.reduceLT, Int.reduceLE, Int.reduceBEq, Int.reduceToNat, Int.toNat_natCast, Int.natCast_zero, r16_T, r16, hb, ha, hn]
  have hst : ∀ hp, F tab 11 [.d (.str ⟨#[42]⟩), .d (nD x), .d (nD y)] hp = some (.ret (.d (nD (x * y))) hp) := by
    intro hp
    refine f11 rfl ?_
    simp (disch := omega) only [go_sem, and_self, and_true, true_and, false_and, and_false, Nat.reduceAdd, Nat.reduceMul, Nat.reduceSub, Nat.reduceLeDiff, Nat.reduceLT, Nat.reduceGT, Nat.reduceEqDiff, Nat.reduceBEq, Int.reduceNeg, Int.reduceEq, Int.reduceLT, Int.reduceLE, Int.reduceBEq, Int.reduceToNat, Int.toNat_natCast, Int.natCast_zero, strD, lit_eq, List.map_cons, List.map_nil, List.cons_beq_cons, List.nil_beq_eq, List.beq_nil_eq, List.isEmpty_cons, List.isEmpty_nil, UInt8.reduceToNat, Nat.reduceBEq, Bool.true_and, Bool.false_and, r11_T, r11, hpl]
  refine f7 rfl ?_
  simp (disch := omega) only [go_sem, and_self, and_true, true_and, false_and, and_false, Nat.reduceAdd, Nat.reduceMul, Nat.reduceSub, Nat.reduceLeDiff, Nat.reduceLT, Nat.reduceGT, Nat.reduceEqDiff, Nat.reduceBEq, Int.reduceNeg, Int.reduceEq, Int.reduceLT, Int.reduceLE, Int.reduceBEq, Int.reduceToNat, Int.toNat_natCast, Int.natCast_zero, strD, lit_eq, List.map_cons, List.map_nil, List.cons_beq_cons, List.nil_beq_eq, List.beq_nil_eq, List.isEmpty_cons, List.isEmpty_nil, UInt8.reduceToNat, Nat.reduceBEq, Bool.true_and, Bool.false_and, r7_T, r7, hst]
theorem modN (hy0 : y ≠ 0) (hp : List Ent) : F tab 7 [.d (.str ⟨#[37]⟩), .d (nD x), .d (nD y)] hp = some (.ret (.d (nD (x.tmod y))) hp) := by
  have ha := mod_whole hx hy hy0
  have hn := numberN (x.tmod y)
  have hb := numPair x y
  have hpl : ∀ hp, F tab 18 [.d (nD x), .d (nD y)] hp = some (.ret (.d (nD (x.tmod y))) hp) := by
    intro hp
    refine f18 rfl ?_
    simp (disch := omega) only [go_sem, and_self, and_true, true_and, false_and, and_false, Nat.reduceAdd, Nat.reduceMul, Nat.reduceSub, Nat.reduceLeDiff, Nat.reduceLT, Nat.reduceGT, Nat.reduceEqDiff, Nat.reduceBEq, Int.reduceNeg, Int.reduceEq, Int.reduceLT, Int.reduceLE, Int.reduceBEq, Int.reduceToNat, Int.toNat_natCast, Int.natCast_zero, r18_T, r18, hb, ha, hn]
  have hst : ∀ hp, F tab 11 [.d (.str ⟨#[37]⟩), .d (nD x), .d (nD y)] hp = some (.ret (.d (nD (x.tmod y))) hp) := by
    intro hp
    refine f11 rfl ?_
    simp (disch := omega) only [go_sem, and_self, and_true, true_and, false_and, and_false, Nat.reduceAdd, Nat.reduceMul, Nat.reduceSub, Nat.reduceLeDiff, Nat.reduceLT, Nat.reduceGT, Nat.reduceEqDiff, Nat.reduceBEq, Int.reduceNeg, Int.reduceEq, Int.reduceLT, Int.reduceLE, Int.reduceBEq, Int.reduceToNat, Int.toNat_natCast, Int.natCast_zero, strD, lit_eq, List.map_cons, List.map_nil, List.cons_beq_cons, List.nil_beq_eq, List.beq_nil_eq, List.isEmpty_cons, List.isEmpty_nil, UInt8.reduceToNat, Nat.reduceBEq, Bool.true_and, Bool.false_and, r11_T, r11, hpl]
  refine f7 rfl ?_
  simp (disch := omega) only [go_sem, and_self, and_true, true_and, false_and, and_false, Nat.reduceAdd, Nat.reduceMul, Nat.reduceSub, Nat.reduceLeDiff, Nat.reduceLT, Nat.reduceGT, Nat.reduceEqDiff, Nat.reduceBEq, Int.reduceNeg, Int.reduceEq, Int.reduceLT, Int.reduceLE, Int.reduceBEq, Int.reduceToNat, Int.toNat_natCast, Int.natCast_zero, strD, lit_eq, List.map_cons, List.map_nil, List.cons_beq_cons, List.nil_beq_eq, List.beq_nil_eq, List.isEmpty_cons, List.isEmpty_nil, UInt8.reduceToNat, Nat.reduceBEq, Bool.true_and, Bool.false_and, r7_T, r7, hst]
omit hy in
theorem mod0N (hp : List Ent) : F tab 7 [.d (.str ⟨#[37]⟩), .d (nD x), .d (nD 0)] hp = some (.ret (.d (.agg [iv 7, iv 0, iv 0, .str ⟨#[110, 117, 109, 98, 101, 114]⟩, .sl [], .sl []])) hp) := by
  have h1 := both_ok x 0 0 0
  rw [numIs_whole (z := x) (by omega), numIs_whole (z := 0) (by omega)] at h1
  have n0 : ((0 : Int) != 0) = false := rfl
  have z0 : ((0 : Int) == 0) = true := rfl
  obtain ⟨e, he, hm⟩ : ∃ e : Int, (e != 0) = true ∧ ∀ hp, F tab 35 [.d (numD x 0), .d (numD 0 0)] hp = some (.ret (.tup [.d (.agg [iv 0, iv 0]), .d (iv e)]) hp) := by
    refine ⟨8, rfl, fun hp => ?_⟩
    refine f35 rfl ?_
    simp (disch := omega) only [go_sem, and_self, and_true, true_and, false_and, and_false, Nat.reduceAdd, Nat.reduceMul, Nat.reduceSub, Nat.reduceLeDiff, Nat.reduceLT, Nat.reduceGT, Nat.reduceEqDiff, Nat.reduceBEq, Int.reduceNeg, Int.reduceEq, Int.reduceLT, Int.reduceLE, Int.reduceBEq, Int.reduceToNat, Int.toNat_natCast, Int.natCast_zero, r35_T, r35, h1, n0, z0]
  have hn := bad_ok e he (.agg [iv 0, iv 0]) rfl rfl
  have hb := numPair x 0
  have hpl : ∀ hp, F tab 18 [.d (nD x), .d (nD 0)] hp = some (.ret (.d (.agg [iv 7, iv 0, iv 0, .str ⟨#[110, 117, 109, 98, 101, 114]⟩, .sl [], .sl []])) hp) := by
    intro hp
    refine f18 rfl ?_
    simp (disch := omega) only [go_sem, and_self, and_true, true_and, false_and, and_false, Nat.reduceAdd, Nat.reduceMul, Nat.reduceSub, Nat.reduceLeDiff, Nat.reduceLT, Nat.reduceGT, Nat.reduceEqDiff, Nat.reduceBEq, Int.reduceNeg, Int.reduceEq, Int.reduceLT, Int.reduceLE, Int.reduceBEq, Int.reduceToNat, Int.toNat_natCast, Int.natCast_zero, r18_T, r18, hb, hm, hn]
  have hst : ∀ hp, F tab 11 [.d (.str ⟨#[37]⟩), .d (nD x), .d (nD 0)] hp = some (.ret (.d (.agg [iv 7, iv 0, iv 0, .str ⟨#[110, 117, 109, 98, 101, 114]⟩, .sl [], .sl []])) hp) := by
    intro hp
    refine f11 rfl ?_
    simp (disch := omega) only [go_sem, and_self, and_true, true_and, false_and, and_false, Nat.reduceAdd, Nat.reduceMul, Nat.reduceSub, Nat.reduceLeDiff, Nat.reduceLT, Nat.reduceGT, Nat.reduceEqDiff, Nat.reduceBEq, Int.reduceNeg, Int.reduceEq, Int.reduceLT, Int.reduceLE, Int.reduceBEq, Int.reduceToNat, Int.toNat_natCast, Int.natCast_zero, strD, lit_eq, List.map_cons, List.map_nil, List.cons_beq_cons, List.nil_beq_eq, List.beq_nil_eq, List.isEmpty_cons, List.isEmpty_nil, UInt8.reduceToNat, Nat.reduceBEq, Bool.true_and, Bool.false_and, r11_T, r11, hpl]
  refine f7 rfl ?_
  simp (disch := omega) only [go_sem, and_self, and_true, true_and, false_and, and_false, Nat.reduceAdd, Nat.reduceMul, Nat.reduceSub, Nat.reduceLeDiff, Nat.reduceLT, Nat.reduceGT, Nat.reduceEqDiff, Nat.reduceBEq, Int.reduceNeg, Int.reduceEq, Int.reduceLT, Int.reduceLE, Int.reduceBEq, Int.reduceToNat, Int.toNat_natCast, Int.natCast_zero, strD, lit_eq, List.map_cons, List.map_nil, List.cons_beq_cons, List.nil_beq_eq, List.beq_nil_eq, List.isEmpty_cons, List.isEmpty_nil, UInt8.reduceToNat, Nat.reduceBEq, Bool.true_and, Bool.false_and, r7_T, r7, hst]
theorem cmpN (hp : List Ent) : F tab 20 [.d (nD x), .d (nD y)] hp = some (.ret (.tup [.d (iv (sgn x y)), .d (.bool true)]) hp) := by
  have r1 := rank_ok 3
  have r3 := cmpi_ok (rankOf 3) (rankOf 3)
  rw [show rankOf 3 = 3 from rfl] at r1 r3
  rw [show sgn 3 3 = 0 from rfl] at r3
  have q1 := clean_ok x 0
  have q2 := clean_ok y 0
  rw [numIs_whole (z := x) (by omega), if_pos rfl] at q1
  rw [numIs_whole (z := y) (by omega), if_pos rfl] at q2
  have q3 := numcmp_ok x y 0 0 (numIs_whole (z := x) (by omega)) (numIs_whole (z := y) (by omega))
  rw [flat_whole, flat_whole] at q3
  have q4 : sgn (x * 1000000000) (y * 1000000000) = sgn x y := by unfold sgn; split <;> split <;> (try split) <;> (try split) <;> omega
  rw [q4, Int.natCast_zero] at q3
  have n0 : ((0 : Int) != 0) = false := rfl
  have l1 : ((4096 : Int) - 1 < 0) = False := eq_false (by omega)
  have l2 : ((4095 : Int) < 0) = False := eq_false (by omega)
  have hw : F tab 36 [.ptr 0 0, .d (nD x), .d (nD y)] [.box [.d (iv 4096)]] = some (.ret (.d (iv (sgn x y))) [.box [.d (iv 4095)]]) := by
    refine f36 ?_
    simp (disch := omega) only [go_sem, and_self, and_true, true_and, false_and, and_false, Nat.reduceAdd, Nat.reduceMul, Nat.reduceSub, Nat.reduceLeDiff, Nat.reduceLT, Nat.reduceGT, Nat.reduceEqDiff, Nat.reduceBEq, Int.reduceNeg, Int.reduceEq, Int.reduceLT, Int.reduceLE, Int.reduceBEq, Int.reduceToNat, Int.toNat_natCast, Int.natCast_zero, r36_T, r36, w64, l1, l2, r1, r3, q1, q2, q3, n0, Int.reduceSub]
  refine f20 rfl ?_
  simp (disch := omega) only [go_sem, and_self, and_true, true_and, false_and, and_false, Nat.reduceAdd, Nat.reduceMul, Nat.reduceSub, Nat.reduceLeDiff, Nat.reduceLT, Nat.reduceGT, Nat.reduceEqDiff, Nat.reduceBEq, Int.reduceNeg, Int.reduceEq, Int.reduceLT, Int.reduceLE, Int.reduceBEq, Int.reduceToNat, Int.toNat_natCast, Int.natCast_zero, r20_T, r20, hw, l2]
end
end Go.Pe.T

namespace Go.Pe.T
section
variable (x y : Int) (hx : -10000000 < x ∧ x < 10000000) (hy : -10000000 < y ∧ y < 10000000)
include hx hy
theorem ltN (hp : List Ent) : F tab 7 [.d (.str ⟨#[60]⟩), .d (nD x), .d (nD y)] hp = some (.ret (.d (kD (if decide (x < y) then 2 else 1))) hp) := by
  have hc := cmpN x y hx hy
  have hh : ∀ hp, F tab 21 [.d (.str ⟨#[60]⟩), .d (iv (sgn x y))] hp = some (.ret (.d (.bool (decide (x < y)))) hp) := by
    intro hp
    refine f21 rfl ?_
    have e : decide (sgn x y < 0) = decide (x < y) := by unfold sgn; apply decide_eq_decide.2; split <;> (try split) <;> omega
    simp (disch := omega) only [go_sem, and_self, and_true, true_and, false_and, and_false, Nat.reduceAdd, Nat.reduceMul, Nat.reduceSub, Nat.reduceLeDiff, Nat.reduceLT, Nat.reduceGT, Nat.reduceEqDiff, Nat.reduceBEq, Int.reduceNeg, Int.reduceEq, Int.reduceLT, Int.reduceLE, Int.reduceBEq, Int.reduceToNat, Int.toNat_natCast, Int.natCast_zero, strD, lit_eq, List.map_cons, List.map_nil, List.cons_beq_cons, List.nil_beq_eq, List.beq_nil_eq, List.isEmpty_cons, List.isEmpty_nil, UInt8.reduceToNat, Nat.reduceBEq, Bool.true_and, Bool.false_and, r21_T, r21, e]
  have ht := truth_ok (decide (x < y))
  have hpl : ∀ hp, F tab 13 [.d (.str ⟨#[60]⟩), .d (nD x), .d (nD y)] hp = some (.ret (.d (kD (if decide (x < y) then 2 else 1))) hp) := by
    intro hp
    refine f13 rfl ?_
    simp (disch := omega) only [go_sem, and_self, and_true, true_and, false_and, and_false, Nat.reduceAdd, Nat.reduceMul, Nat.reduceSub, Nat.reduceLeDiff, Nat.reduceLT, Nat.reduceGT, Nat.reduceEqDiff, Nat.reduceBEq, Int.reduceNeg, Int.reduceEq, Int.reduceLT, Int.reduceLE, Int.reduceBEq, Int.reduceToNat, Int.toNat_natCast, Int.natCast_zero, r13_T, r13, hc, hh, ht]
  have hst : ∀ hp, F tab 11 [.d (.str ⟨#[60]⟩), .d (nD x), .d (nD y)] hp = some (.ret (.d (kD (if decide (x < y) then 2 else 1))) hp) := by
    intro hp
    refine f11 rfl ?_
    simp (disch := omega) only [go_sem, and_self, and_true, true_and, false_and, and_false, Nat.reduceAdd, Nat.reduceMul, Nat.reduceSub, Nat.reduceLeDiff, Nat.reduceLT, Nat.reduceGT, Nat.reduceEqDiff, Nat.reduceBEq, Int.reduceNeg, Int.reduceEq, Int.reduceLT, Int.reduceLE, Int.reduceBEq, Int.reduceToNat, Int.toNat_natCast, Int.natCast_zero, strD, lit_eq, List.map_cons, List.map_nil, List.cons_beq_cons, List.nil_beq_eq, List.beq_nil_eq, List.isEmpty_cons, List.isEmpty_nil, UInt8.reduceToNat, Nat.reduceBEq, Bool.true_and, Bool.false_and, r11_T, r11, hpl]
  refine f7 rfl ?_
  simp (disch := omega) only [go_sem, and_self, and_true, true_and, false_and, and_false, Nat.reduceAdd, Nat.reduceMul, Nat.reduceSub, Nat.reduceLeDiff, Nat.reduceLT, Nat.reduceGT, Nat.reduceEqDiff, Nat.reduceBEq, Int.reduceNeg, Int.reduceEq, Int.reduceLT, Int.reduceLE, Int.reduceBEq, Int.reduceToNat, Int.toNat_natCast, Int.natCast_zero, strD, lit_eq, List.map_cons, List.map_nil, List.cons_beq_cons, List.nil_beq_eq, List.beq_nil_eq, List.isEmpty_cons, List.isEmpty_nil, UInt8.reduceToNat, Nat.reduceBEq, Bool.true_and, Bool.false_and, r7_T, r7, hst]
theorem leN (hp : List Ent) : F tab 7 [.d (.str ⟨#[60, 61]⟩), .d (nD x), .d (nD y)] hp = some (.ret (.d (kD (if decide (x ≤ y) then 2 else 1))) hp) := by
  have hc := cmpN x y hx hy
  have hh : ∀ hp, F tab 21 [.d (.str ⟨#[60, 61]⟩), .d (iv (sgn x y))] hp = some (.ret (.d (.bool (decide (x ≤ y)))) hp) := by
    intro hp
    refine f21 rfl ?_
    have e : decide (sgn x y ≤ 0) = decide (x ≤ y) := by unfold sgn; apply decide_eq_decide.2; split <;> (try split) <;> omega
    simp (disch := omega) only [go_sem, and_self, and_true, true_and, false_and, and_false, Nat.reduceAdd, Nat.reduceMul, Nat.reduceSub, Nat.reduceLeDiff, Nat.reduceLT, Nat.reduceGT, Nat.reduceEqDiff, Nat.reduceBEq, Int.reduceNeg, Int.reduceEq, Int.reduceLT, Int.reduceLE, Int.reduceBEq, Int.reduceToNat, Int.toNat_natCast, Int.natCast_zero, strD, lit_eq, List.map_cons, List.map_nil, List.cons_beq_cons, List.nil_beq_eq, List.beq_nil_eq, List.isEmpty_cons, List.isEmpty_nil, UInt8.reduceToNat, Nat.reduceBEq, Bool.true_and, Bool.false_and, r21_T, r21, e]
  have ht := truth_ok (decide (x ≤ y))
  have hpl : ∀ hp, F tab 13 [.d (.str ⟨#[60, 61]⟩), .d (nD x), .d (nD y)] hp = some (.ret (.d (kD (if decide (x ≤ y) then 2 else 1))) hp) := by
    intro hp
    refine f13 rfl ?_
    simp (disch := omega) only [go_sem, and_self, and_true, true_and, false_and, and_false, Nat.reduceAdd, Nat.reduceMul, Nat.reduceSub, Nat.reduceLeDiff, Nat.reduceLT, Nat.reduceGT, Nat.reduceEqDiff, Nat.reduceBEq, Int.reduceNeg, Int.reduceEq, Int.reduceLT, Int.reduceLE, Int.reduceBEq, Int.reduceToNat, Int.toNat_natCast, Int.natCast_zero, r13_T, r13, hc, hh, ht]
  have hst : ∀ hp, F tab 11 [.d (.str ⟨#[60, 61]⟩), .d (nD x), .d (nD y)] hp = some (.ret (.d (kD (if decide (x ≤ y) then 2 else 1))) hp) := by
    intro hp
    refine f11 rfl ?_
    simp (disch := omega) only [go_sem, and_self, and_true, true_and, false_and, and_false, Nat.reduceAdd, Nat.reduceMul, Nat.reduceSub, Nat.reduceLeDiff, Nat.reduceLT, Nat.reduceGT, Nat.reduceEqDiff, Nat.reduceBEq, Int.reduceNeg, Int.reduceEq, Int.reduceLT, Int.reduceLE, Int.reduceBEq, Int.reduceToNat, Int.toNat_natCast, Int.natCast_zero, strD, lit_eq, List.map_cons, List.map_nil, List.cons_beq_cons, List.nil_beq_eq, List.beq_nil_eq, List.isEmpty_cons, List.isEmpty_nil, UInt8.reduceToNat, Nat.reduceBEq, Bool.true_and, Bool.false_and, r11_T, r11, hpl]
  refine f7 rfl ?_
  simp (disch := omega) only [go_sem, and_self, and_true, true_and, false_and, and_false, Nat.reduceAdd, Nat.reduceMul, Nat.reduceSub, Nat.reduceLeDiff, Nat.reduceLT, Nat.reduceGT, Nat.reduceEqDiff, Nat.reduceBEq, Int.reduceNeg, Int.reduceEq, Int.reduceLT, Int.reduceLE, Int.reduceBEq, Int.reduceToNat, Int.toNat_natCast, Int.natCast_zero, strD, lit_eq, List.map_cons, List.map_nil, List.cons_beq_cons, List.nil_beq_eq, List.beq_nil_eq, List.isEmpty_cons, List.isEmpty_nil, UInt8.reduceToNat, Nat.reduceBEq, Bool.true_and, Bool.false_and, r7_T, r7, hst]
theorem neN (hp : List Ent) : F tab 7 [.d (.str ⟨#[33, 61]⟩), .d (nD x), .d (nD y)] hp = some (.ret (.d (kD (if x != y then 2 else 1))) hp) := by
  have hc := cmpN x y hx hy
  have hh : ∀ hp, F tab 21 [.d (.str ⟨#[33, 61]⟩), .d (iv (sgn x y))] hp = some (.ret (.d (.bool (x != y))) hp) := by
    intro hp
    refine f21 rfl ?_
    have e : (sgn x y != 0) = (x != y) := by
      rw [Bool.eq_iff_iff, bne_iff_ne, bne_iff_ne]
      unfold sgn
      split <;> (try split) <;> omega
    simp (disch := omega) only [go_sem, and_self, and_true, true_and, false_and, and_false, Nat.reduceAdd, Nat.reduceMul, Nat.reduceSub, Nat.reduceLeDiff, Nat.reduceLT, Nat.reduceGT, Nat.reduceEqDiff, Nat.reduceBEq, Int.reduceNeg, Int.reduceEq, Int.reduceLT, Int.reduceLE, Int.reduceBEq, Int.reduceToNat, Int.toNat_natCast, Int.natCast_zero, strD, lit_eq, List.map_cons, List.map_nil, List.cons_beq_cons, List.nil_beq_eq, List.beq_nil_eq, List.isEmpty_cons, List.isEmpty_nil, UInt8.reduceToNat, Nat.reduceBEq, Bool.true_and, Bool.false_and, r21_T, r21, e]
  have ht := truth_ok (x != y)
  have hpl : ∀ hp, F tab 13 [.d (.str ⟨#[33, 61]⟩), .d (nD x), .d (nD y)] hp = some (.ret (.d (kD (if x != y then 2 else 1))) hp) := by
    intro hp
    refine f13 rfl ?_
    simp (disch := omega) only [go_sem, and_self, and_true, true_and, false_and, and_false, Nat.reduceAdd, Nat.reduceMul, Nat.reduceSub, Nat.reduceLeDiff, Nat.reduceLT, Nat.reduceGT, Nat.reduceEqDiff, Nat.reduceBEq, Int.reduceNeg, Int.reduceEq, Int.reduceLT, Int.reduceLE, Int.reduceBEq, Int.reduceToNat, Int.toNat_natCast, Int.natCast_zero, r13_T, r13, hc, hh, ht]
  have hst : ∀ hp, F tab 11 [.d (.str ⟨#[33, 61]⟩), .d (nD x), .d (nD y)] hp = some (.ret (.d (kD (if x != y then 2 else 1))) hp) := by
    intro hp
    refine f11 rfl ?_
    simp (disch := omega) only [go_sem, and_self, and_true, true_and, false_and, and_false, Nat.reduceAdd, Nat.reduceMul, Nat.reduceSub, Nat.reduceLeDiff, Nat.reduceLT, Nat.reduceGT, Nat.reduceEqDiff, Nat.reduceBEq, Int.reduceNeg, Int.reduceEq, Int.reduceLT, Int.reduceLE, Int.reduceBEq, Int.reduceToNat, Int.toNat_natCast, Int.natCast_zero, strD, lit_eq, List.map_cons, List.map_nil, List.cons_beq_cons, List.nil_beq_eq, List.beq_nil_eq, List.isEmpty_cons, List.isEmpty_nil, UInt8.reduceToNat, Nat.reduceBEq, Bool.true_and, Bool.false_and, r11_T, r11, hpl]
  refine f7 rfl ?_
  simp (disch := omega) only [go_sem, and_self, and_true, true_and, false_and, and_false, Nat.reduceAdd, Nat.reduceMul, Nat.reduceSub, Nat.reduceLeDiff, Nat.reduceLT, Nat.reduceGT, Nat.reduceEqDiff, Nat.reduceBEq, Int.reduceNeg, Int.reduceEq, Int.reduceLT, Int.reduceLE, Int.reduceBEq, Int.reduceToNat, Int.toNat_natCast, Int.natCast_zero, strD, lit_eq, List.map_cons, List.map_nil, List.cons_beq_cons, List.nil_beq_eq, List.beq_nil_eq, List.isEmpty_cons, List.isEmpty_nil, UInt8.reduceToNat, Nat.reduceBEq, Bool.true_and, Bool.false_and, r7_T, r7, hst]
end
theorem sameN (z : Int) (hz : i64 z) (hp : List Ent) : F tab 6 [.d (nD z), .d (nD z)] hp = some (.ret (.d (.bool true)) hp) := by
  have h := sam_ok (valN z) (valN z) (by
    have e : (⟨#[]⟩ : ByteArray).size = 0 := rfl
    simp only [valN, Val.ok, Val.oks, i64, e, List.length_nil, maxLen] at *
    refine ⟨by omega, by omega, by omega, by omega, by omega, by omega, by simp, trivial⟩) hp
  rw [samV_refl] at h
  exact h
theorem sameK (k : Int) (hz : i64 k) (hp : List Ent) : F tab 6 [.d (kD k), .d (kD k)] hp = some (.ret (.d (.bool true)) hp) := by
  have h := sam_ok (.mk k 0 0 ⟨#[]⟩ [] []) (.mk k 0 0 ⟨#[]⟩ [] []) (by
    have e : (⟨#[]⟩ : ByteArray).size = 0 := rfl
    simp only [Val.ok, Val.oks, i64, e, List.length_nil, maxLen] at *
    refine ⟨by omega, by omega, by omega, by omega, by omega, by omega, by simp, trivial⟩) hp
  rw [samV_refl] at h
  exact h
/-! ### the law -/
def BiLoop (x y : Int) (i : Nat) : Prop :=
  V (F tab) r3_B0 (r3_S0 (.d (iv x)) (.d (iv y)) (.ibox [.d (iv 3), .d (iv x), .d (iv 0), .d (.str ⟨#[]⟩), .d (.sl []), .d (.sl [])]) (.ibox [.d (iv 3), .d (iv y), .d (iv 0), .d (.str ⟨#[]⟩), .d (.sl []), .d (.sl [])]) (.own 9 [.str ⟨#[43]⟩, .str ⟨#[45]⟩, .str ⟨#[42]⟩]) (.d (iv ((3 : Nat) : Int))) (.d (iv i)) []) =
    some (.norm, r3_E0 (.d (iv x)) (.d (iv y)) (.ibox [.d (iv 3), .d (iv x), .d (iv 0), .d (.str ⟨#[]⟩), .d (.sl []), .d (.sl [])]) (.ibox [.d (iv 3), .d (iv y), .d (iv 0), .d (.str ⟨#[]⟩), .d (.sl []), .d (.sl [])]) [])
theorem n19' (c : Int) (hp : List Ent) : F tab 5 [.d (iv c)] hp = some (.ret (.d (nD c)) hp) := n19_ok c hp
section
variable (x y : Int) (hx : -1000000 < x ∧ x < 1000000) (hy : -1000000 < y ∧ y < 1000000)
include hx hy
omit hx hy in
theorem bi_3 : BiLoop x y 3 := by
  have h1 : ((3 : Int) < ((3 : Nat) : Int)) = False := eq_false (by omega)
  have h1 : (((3 : Nat) : Int) < ((3 : Nat) : Int)) = False := eq_false (by omega)
  unfold BiLoop
  rw [r3_B0_eq]
  simp (disch := omega) only [go_sem, and_self, and_true, true_and, false_and, and_false, Nat.reduceAdd, Nat.reduceMul, Nat.reduceSub, Nat.reduceLeDiff, Nat.reduceLT, Nat.reduceGT, Nat.reduceEqDiff, Nat.reduceBEq, Int.reduceNeg, Int.reduceEq, Int.reduceLT, Int.reduceLE, Int.reduceBEq, Int.reduceToNat, Int.toNat_natCast, Int.natCast_zero, r3_C0, h1]
theorem prodB : -1000000000000 ≤ x * y ∧ x * y ≤ 1000000000000 := by
  have h := Int.natAbs_mul x y
  have h1 : (x.natAbs : Int) ≤ 1000000 := by omega
  have h2 : (y.natAbs : Int) ≤ 1000000 := by omega
  have h3 : (x.natAbs : Int) * (y.natAbs : Int) ≤ 1000000 * (y.natAbs : Int) := Int.mul_le_mul_of_nonneg_right h1 (by omega)
  have h4 : ((x * y).natAbs : Int) = (x.natAbs : Int) * (y.natAbs : Int) := by rw [h]; exact Int.natCast_mul _ _
  omega
theorem bi_2 : BiLoop x y 2 := by
  have ih := bi_3 x y
  have hb := prodB x y hx hy
  have h1 := mulSN x y (by omega) (by omega)
  have h2 := n19' (x * y)
  have h3 := sameN (x * y) (by unfold i64; omega)
  have e2 : ((2 : Nat) : Int) = 2 := rfl
  have e3 : (2 : Int) + 1 = ((3 : Nat) : Int) := rfl
  have wm : IntKind.i64.wrap (x * y) = x * y := w64 (by omega)
  have g : ([D.str ⟨#[43]⟩, .str ⟨#[45]⟩, .str ⟨#[42]⟩])[2]? = some (.str ⟨#[42]⟩) := rfl
  have l1 : ((2 : Int) < ((3 : Nat) : Int)) = True := eq_true (by omega)
  have l2 : (0 ≤ (2 : Int)) = True := eq_true (by omega)
  unfold BiLoop at ih ⊢
  rw [r3_B0_eq, e2]
  simp (disch := omega) only [go_sem, and_self, and_true, true_and, false_and, and_false, Nat.reduceAdd, Nat.reduceMul, Nat.reduceSub, Nat.reduceLeDiff, Nat.reduceLT, Nat.reduceGT, Nat.reduceEqDiff, Nat.reduceBEq, Int.reduceNeg, Int.reduceEq, Int.reduceLT, Int.reduceLE, Int.reduceBEq, Int.reduceToNat, Int.toNat_natCast, Int.natCast_zero, strD, lit_eq, List.map_cons, List.map_nil, List.cons_beq_cons, List.nil_beq_eq, List.beq_nil_eq, List.isEmpty_cons, List.isEmpty_nil, UInt8.reduceToNat, Nat.reduceBEq, Bool.true_and, Bool.false_and, r3_C0, g, l1, l2, w64, wm, h1, h2, h3]
  exact ih
theorem bi_1 : BiLoop x y 1 := by
  have ih := bi_2 x y hx hy
  have h1 := minusN x y (by omega) (by omega)
  have h2 := n19' (x - y)
  have h3 := sameN (x - y) (by unfold i64; omega)
  have e2 : ((2 : Nat) : Int) = 2 := rfl
  have e3 : ((1 : Nat) : Int) = 1 := rfl
  have g : ([D.str ⟨#[43]⟩, .str ⟨#[45]⟩, .str ⟨#[42]⟩])[1]? = some (.str ⟨#[45]⟩) := rfl
  have l1 : ((1 : Int) < ((3 : Nat) : Int)) = True := eq_true (by omega)
  have l2 : (0 ≤ (1 : Int)) = True := eq_true (by omega)
  unfold BiLoop at ih ⊢
  rw [e2] at ih
  rw [r3_B0_eq, e3]
  simp (disch := omega) only [go_sem, and_self, and_true, true_and, false_and, and_false, Nat.reduceAdd, Nat.reduceMul, Nat.reduceSub, Nat.reduceLeDiff, Nat.reduceLT, Nat.reduceGT, Nat.reduceEqDiff, Nat.reduceBEq, Int.reduceNeg, Int.reduceEq, Int.reduceLT, Int.reduceLE, Int.reduceBEq, Int.reduceToNat, Int.toNat_natCast, Int.natCast_zero, strD, lit_eq, List.map_cons, List.map_nil, List.cons_beq_cons, List.nil_beq_eq, List.beq_nil_eq, List.isEmpty_cons, List.isEmpty_nil, UInt8.reduceToNat, Nat.reduceBEq, Bool.true_and, Bool.false_and, r3_C0, g, l1, l2, w64, h1, h2, h3]
  exact ih
theorem bi_0 : BiLoop x y 0 := by
  have ih := bi_1 x y hx hy
  have h1 := plusN x y (by omega) (by omega)
  have h2 := n19' (x + y)
  have h3 := sameN (x + y) (by unfold i64; omega)
  have e2 : ((1 : Nat) : Int) = 1 := rfl
  have e3 : ((0 : Nat) : Int) = 0 := rfl
  have g : ([D.str ⟨#[43]⟩, .str ⟨#[45]⟩, .str ⟨#[42]⟩])[0]? = some (.str ⟨#[43]⟩) := rfl
  have l1 : ((0 : Int) < ((3 : Nat) : Int)) = True := eq_true (by omega)
  have l2 : (0 ≤ (0 : Int)) = True := eq_true (by omega)
  unfold BiLoop at ih ⊢
  rw [e2] at ih
  rw [r3_B0_eq, e3]
  simp (disch := omega) only [go_sem, and_self, and_true, true_and, false_and, and_false, Nat.reduceAdd, Nat.reduceMul, Nat.reduceSub, Nat.reduceLeDiff, Nat.reduceLT, Nat.reduceGT, Nat.reduceEqDiff, Nat.reduceBEq, Int.reduceNeg, Int.reduceEq, Int.reduceLT, Int.reduceLE, Int.reduceBEq, Int.reduceToNat, Int.toNat_natCast, Int.natCast_zero, strD, lit_eq, List.map_cons, List.map_nil, List.cons_beq_cons, List.nil_beq_eq, List.beq_nil_eq, List.isEmpty_cons, List.isEmpty_nil, UInt8.reduceToNat, Nat.reduceBEq, Bool.true_and, Bool.false_and, r3_C0, g, l1, l2, w64, h1, h2, h3]
  exact ih
set_option maxHeartbeats 4000000 in
theorem bi_core (hp : List Ent) : F tab 3 [.d (iv x), .d (iv y)] hp = some (.ret (.d (.bool true)) hp) := by
  have g1 : ¬ x ≤ -1000000 := by omega
  have g2 : ¬ x ≥ 1000000 := by omega
  have g3 : ¬ y ≤ -1000000 := by omega
  have g4 : ¬ y ≥ 1000000 := by omega
  have hL := bi_0 x y hx hy
  have h1 := n19' x
  have h2 := n19' y
  have hv := lives19_ok
  unfold BiLoop at hL
  rw [Int.natCast_zero] at hL
  have c1 := ltN x y (by omega) (by omega)
  have c2 := leN x y (by omega) (by omega)
  have c3 := neN x y (by omega) (by omega)
  have t1 := rtruth_ok (decide (x < y))
  have t2 := rtruth_ok (decide (x ≤ y))
  have t3 := rtruth_ok (x != y)
  have s1 := fun b : Bool => sameK (if b then 2 else 1) (by unfold i64; cases b <;> simp)
  have s2 := s1 (decide (x ≤ y))
  have s3 := s1 (x != y)
  have s1 := s1 (decide (x < y))
  generalize (if decide (x < y) then (2 : Int) else 1) = b1 at *
  generalize (if decide (x ≤ y) then (2 : Int) else 1) = b2 at *
  generalize (if (x != y) then (2 : Int) else 1) = b3 at *
  refine f3 rfl ?_
  simp (disch := omega) only [go_sem, and_self, and_true, true_and, false_and, and_false, Nat.reduceAdd, Nat.reduceMul, Nat.reduceSub, Nat.reduceLeDiff, Nat.reduceLT, Nat.reduceGT, Nat.reduceEqDiff, Nat.reduceBEq, Int.reduceNeg, Int.reduceEq, Int.reduceLT, Int.reduceLE, Int.reduceBEq, Int.reduceToNat, Int.toNat_natCast, Int.natCast_zero, r3_T, g1, g2, g3, g4, h1, h2]
  rw [r3_B0_n]
  erw [hL]
  by_cases hy0 : y = 0
  · subst hy0
    have m := mod0N x (by omega)
    have z0 : ((0 : Int) == 0) = true := rfl
    have z1 : ((0 : Int) != 0) = false := rfl
    have z7 : ((7 : Int) != 7) = false := rfl
    simp (disch := omega) only [go_sem, and_self, and_true, true_and, false_and, and_false, Nat.reduceAdd, Nat.reduceMul, Nat.reduceSub, Nat.reduceLeDiff, Nat.reduceLT, Nat.reduceGT, Nat.reduceEqDiff, Nat.reduceBEq, Int.reduceNeg, Int.reduceEq, Int.reduceLT, Int.reduceLE, Int.reduceBEq, Int.reduceToNat, Int.toNat_natCast, Int.natCast_zero, strD, lit_eq, List.map_cons, List.map_nil, List.cons_beq_cons, List.nil_beq_eq, List.beq_nil_eq, List.isEmpty_cons, List.isEmpty_nil, UInt8.reduceToNat, Nat.reduceBEq, Bool.true_and, Bool.false_and, r3, m, z0, z1, z7, Bool.not_true, Bool.not_false, c1, c2, c3, t1, t2, t3, s1, s2, s3, hv]
  · have m := modN x y (by omega) (by omega) hy0
    have q0 : (y == 0) = false := by simpa using hy0
    have q1 : (y != 0) = true := by simpa using hy0
    have q2 : (y = 0) = False := eq_false hy0
    have m2 := n19' (x.tmod y)
    have m3 := sameN (x.tmod y) (by
      unfold i64
      have := Int.natAbs_tmod x y
      have h2 : x.natAbs % y.natAbs < y.natAbs := Nat.mod_lt _ (by omega)
      omega)
    simp (disch := omega) only [go_sem, and_self, and_true, true_and, false_and, and_false, Nat.reduceAdd, Nat.reduceMul, Nat.reduceSub, Nat.reduceLeDiff, Nat.reduceLT, Nat.reduceGT, Nat.reduceEqDiff, Nat.reduceBEq, Int.reduceNeg, Int.reduceEq, Int.reduceLT, Int.reduceLE, Int.reduceBEq, Int.reduceToNat, Int.toNat_natCast, Int.natCast_zero, strD, lit_eq, List.map_cons, List.map_nil, List.cons_beq_cons, List.nil_beq_eq, List.beq_nil_eq, List.isEmpty_cons, List.isEmpty_nil, UInt8.reduceToNat, Nat.reduceBEq, Bool.true_and, Bool.false_and, r3, m, q0, q1, q2, m2, m3, c1, c2, c3, t1, t2, t3, s1, s2, s3, hv]
end
theorem BasicInts_ok (x y : Int) (ox : i64 x) (oy : i64 y) (hp : List Ent) : F tab 3 [.d (iv x), .d (iv y)] hp = some (.ret (.d (.bool true)) hp) := by
  have hL := lives19_ok
  by_cases g1 : x ≤ -1000000
  · refine f3 rfl ?_
    simp (disch := omega) only [go_sem, and_self, and_true, true_and, false_and, and_false, Nat.reduceAdd, Nat.reduceMul, Nat.reduceSub, Nat.reduceLeDiff, Nat.reduceLT, Nat.reduceGT, Nat.reduceEqDiff, Nat.reduceBEq, Int.reduceNeg, Int.reduceEq, Int.reduceLT, Int.reduceLE, Int.reduceBEq, Int.reduceToNat, Int.toNat_natCast, Int.natCast_zero, r3_T, r3, g1, hL]
  by_cases g2 : x ≥ 1000000
  · refine f3 rfl ?_
    simp (disch := omega) only [go_sem, and_self, and_true, true_and, false_and, and_false, Nat.reduceAdd, Nat.reduceMul, Nat.reduceSub, Nat.reduceLeDiff, Nat.reduceLT, Nat.reduceGT, Nat.reduceEqDiff, Nat.reduceBEq, Int.reduceNeg, Int.reduceEq, Int.reduceLT, Int.reduceLE, Int.reduceBEq, Int.reduceToNat, Int.toNat_natCast, Int.natCast_zero, r3_T, r3, g1, g2, hL]
  by_cases g3 : y ≤ -1000000
  · refine f3 rfl ?_
    simp (disch := omega) only [go_sem, and_self, and_true, true_and, false_and, and_false, Nat.reduceAdd, Nat.reduceMul, Nat.reduceSub, Nat.reduceLeDiff, Nat.reduceLT, Nat.reduceGT, Nat.reduceEqDiff, Nat.reduceBEq, Int.reduceNeg, Int.reduceEq, Int.reduceLT, Int.reduceLE, Int.reduceBEq, Int.reduceToNat, Int.toNat_natCast, Int.natCast_zero, r3_T, r3, g1, g2, g3, hL]
  by_cases g4 : y ≥ 1000000
  · refine f3 rfl ?_
    simp (disch := omega) only [go_sem, and_self, and_true, true_and, false_and, and_false, Nat.reduceAdd, Nat.reduceMul, Nat.reduceSub, Nat.reduceLeDiff, Nat.reduceLT, Nat.reduceGT, Nat.reduceEqDiff, Nat.reduceBEq, Int.reduceNeg, Int.reduceEq, Int.reduceLT, Int.reduceLE, Int.reduceBEq, Int.reduceToNat, Int.toNat_natCast, Int.natCast_zero, r3_T, r3, g1, g2, g3, g4, hL]
  exact bi_core x y (by omega) (by omega) hp
end Go.Pe.T
