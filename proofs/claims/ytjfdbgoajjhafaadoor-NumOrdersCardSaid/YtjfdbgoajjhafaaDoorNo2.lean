/- A part of the proof of: The law NumOrders holds: of any three numbers that may be, Cmp is one order, goes through thirds, is 0 just where the numbers are the same, and tells the sign of their difference where that can be held, so the law returns true and leaves its arguments as they were; the condition is that the two listed tables of the library lie as the program's text lays them, which the card ties. -/
import Derived.Test.YtjfdbgoajjhafaaDoorNo1
import Derived.Test.YtjfdbgoajjhafaaDoorPe2
import Derived.KernelRfl
set_option linter.unusedSimpArgs false
set_option linter.unusedVariables false
set_option maxRecDepth 10000

namespace Go.Pe.T
/-- -1, 0, 1 -/
def sgn (a b : Int) : Int := if a < b then -1 else if a > b then 1 else 0

theorem numorder_ok (a b : Int) (hp : List Ent) : F tab 62 [.d (iv a), .d (iv b)] hp = some (.ret (.d (iv (sgn a b))) hp) := by
  refine f62 rfl ?_
  by_cases ha : a < b
  · simp only [go_sem, and_self, and_true, true_and, false_and, and_false, Nat.reduceAdd, Nat.reduceMul, Nat.reduceSub, Nat.reduceLeDiff, Nat.reduceLT, Nat.reduceGT, Nat.reduceEqDiff, Nat.reduceBEq, Int.reduceNeg, Int.reduceEq, Int.reduceLT, Int.reduceLE, Int.reduceBEq, Int.reduceToNat, Int.toNat_natCast, Int.natCast_zero, r62_T, r62, ha, sgn]
  · by_cases hb : a > b
    · simp only [go_sem, and_self, and_true, true_and, false_and, and_false, Nat.reduceAdd, Nat.reduceMul, Nat.reduceSub, Nat.reduceLeDiff, Nat.reduceLT, Nat.reduceGT, Nat.reduceEqDiff, Nat.reduceBEq, Int.reduceNeg, Int.reduceEq, Int.reduceLT, Int.reduceLE, Int.reduceBEq, Int.reduceToNat, Int.toNat_natCast, Int.natCast_zero, r62_T, r62, ha, hb, sgn]
    · simp only [go_sem, and_self, and_true, true_and, false_and, and_false, Nat.reduceAdd, Nat.reduceMul, Nat.reduceSub, Nat.reduceLeDiff, Nat.reduceLT, Nat.reduceGT, Nat.reduceEqDiff, Nat.reduceBEq, Int.reduceNeg, Int.reduceEq, Int.reduceLT, Int.reduceLE, Int.reduceBEq, Int.reduceToNat, Int.toNat_natCast, Int.natCast_zero, r62_T, r62, ha, hb, sgn]

abbrev numD (c s : Int) : D := .agg [iv c, iv s]

def numIs (c s : Int) : Bool := decide (0 ≤ s) && decide (s ≤ 9) && decide (-1000000000000000 < c) && decide (c < 1000000000000000) && (s == 0 || c.tmod 10 != 0)

theorem numIs_ok (c s : Int) (hp : List Ent) : F tab 19 [.d (numD c s)] hp = some (.ret (.d (.bool (numIs c s))) hp) := by
  refine f19 rfl ?_
  by_cases h1 : s < 0
  · have g1 : ¬ (0 ≤ s) := by omega
    simp only [go_sem, and_self, and_true, true_and, false_and, and_false, Nat.reduceAdd, Nat.reduceMul, Nat.reduceSub, Nat.reduceLeDiff, Nat.reduceLT, Nat.reduceGT, Nat.reduceEqDiff, Nat.reduceBEq, Int.reduceNeg, Int.reduceEq, Int.reduceLT, Int.reduceLE, Int.reduceBEq, Int.reduceToNat, Int.toNat_natCast, Int.natCast_zero, r19_T, r19, numIs, h1, g1]
  · have g1 : 0 ≤ s := by omega
    by_cases h2 : s > 9
    · have g2 : ¬ (s ≤ 9) := by omega
      simp only [go_sem, and_self, and_true, true_and, false_and, and_false, Nat.reduceAdd, Nat.reduceMul, Nat.reduceSub, Nat.reduceLeDiff, Nat.reduceLT, Nat.reduceGT, Nat.reduceEqDiff, Nat.reduceBEq, Int.reduceNeg, Int.reduceEq, Int.reduceLT, Int.reduceLE, Int.reduceBEq, Int.reduceToNat, Int.toNat_natCast, Int.natCast_zero, r19_T, r19, numIs, h1, g1, h2, g2]
    · have g2 : s ≤ 9 := by omega
      by_cases h3 : c ≤ -1000000000000000
      · have g3 : ¬ (-1000000000000000 < c) := by omega
        simp only [go_sem, and_self, and_true, true_and, false_and, and_false, Nat.reduceAdd, Nat.reduceMul, Nat.reduceSub, Nat.reduceLeDiff, Nat.reduceLT, Nat.reduceGT, Nat.reduceEqDiff, Nat.reduceBEq, Int.reduceNeg, Int.reduceEq, Int.reduceLT, Int.reduceLE, Int.reduceBEq, Int.reduceToNat, Int.toNat_natCast, Int.natCast_zero, r19_T, r19, numIs, h1, g1, h2, g2, h3, g3]
      · have g3 : -1000000000000000 < c := by omega
        by_cases h4 : c ≥ 1000000000000000
        · have g4 : ¬ (c < 1000000000000000) := by omega
          simp only [go_sem, and_self, and_true, true_and, false_and, and_false, Nat.reduceAdd, Nat.reduceMul, Nat.reduceSub, Nat.reduceLeDiff, Nat.reduceLT, Nat.reduceGT, Nat.reduceEqDiff, Nat.reduceBEq, Int.reduceNeg, Int.reduceEq, Int.reduceLT, Int.reduceLE, Int.reduceBEq, Int.reduceToNat, Int.toNat_natCast, Int.natCast_zero, r19_T, r19, numIs, h1, g1, h2, g2, h3, g3, h4, g4]
        · have g4 : c < 1000000000000000 := by omega
          by_cases h5 : s = 0
          · subst h5
            simp only [go_sem, and_self, and_true, true_and, false_and, and_false, Nat.reduceAdd, Nat.reduceMul, Nat.reduceSub, Nat.reduceLeDiff, Nat.reduceLT, Nat.reduceGT, Nat.reduceEqDiff, Nat.reduceBEq, Int.reduceNeg, Int.reduceEq, Int.reduceLT, Int.reduceLE, Int.reduceBEq, Int.reduceToNat, Int.toNat_natCast, Int.natCast_zero, r19_T, r19, numIs, h1, g1, h2, g2, h3, g3, h4, g4, Bool.true_or]
          · have g5 : (s == 0) = false := by simpa using h5
            simp only [go_sem, and_self, and_true, true_and, false_and, and_false, Nat.reduceAdd, Nat.reduceMul, Nat.reduceSub, Nat.reduceLeDiff, Nat.reduceLT, Nat.reduceGT, Nat.reduceEqDiff, Nat.reduceBEq, Int.reduceNeg, Int.reduceEq, Int.reduceLT, Int.reduceLE, Int.reduceBEq, Int.reduceToNat, Int.toNat_natCast, Int.natCast_zero, r19_T, r19, numIs, h1, g1, h2, g2, h3, g3, h4, g4, g5, Bool.false_or]

theorem both_ok (c s c' s' : Int) (hp : List Ent) : F tab 51 [.d (numD c s), .d (numD c' s')] hp = some (.ret (.d (.bool (numIs c s && numIs c' s'))) hp) := by
  refine f51 rfl ?_
  have h1 := numIs_ok c s
  have h2 := numIs_ok c' s'
  rcases Bool.eq_false_or_eq_true (numIs c s) with h | h
  · simp only [go_sem, and_self, and_true, true_and, false_and, and_false, Nat.reduceAdd, Nat.reduceMul, Nat.reduceSub, Nat.reduceLeDiff, Nat.reduceLT, Nat.reduceGT, Nat.reduceEqDiff, Nat.reduceBEq, Int.reduceNeg, Int.reduceEq, Int.reduceLT, Int.reduceLE, Int.reduceBEq, Int.reduceToNat, Int.toNat_natCast, Int.natCast_zero, r51_T, r51, h1, h2, h]
  · simp only [go_sem, and_self, and_true, true_and, false_and, and_false, Nat.reduceAdd, Nat.reduceMul, Nat.reduceSub, Nat.reduceLeDiff, Nat.reduceLT, Nat.reduceGT, Nat.reduceEqDiff, Nat.reduceBEq, Int.reduceNeg, Int.reduceEq, Int.reduceLT, Int.reduceLE, Int.reduceBEq, Int.reduceToNat, Int.toNat_natCast, Int.natCast_zero, r51_T, r51, h1, h2, h]

/-! ### powers of ten; numbers cut; which is greater -/

theorem p10_pos (n : Nat) : 0 < (10 : Int) ^ n := Int.pow_pos (by omega)
theorem p10_mono {a b : Nat} (h : a ≤ b) : (10 : Int) ^ a ≤ 10 ^ b := by
  have h1 : (10 : Nat) ^ a ≤ 10 ^ b := Nat.pow_le_pow_right (by omega) h
  have h2 : ((10 ^ a : Nat) : Int) ≤ ((10 ^ b : Nat) : Int) := by exact_mod_cast h1
  simpa using h2

theorem pow_loop (n : Nat) (hn : n ≤ 18) : ∀ (j i : Nat), i + j = n →
    V (F tab) r45_B0 (r45_S0 (.d (iv (10 ^ i))) (.d (iv n)) (.d (iv i)) []) = some (.norm, r45_E0 (.d (iv (10 ^ n))) [])
  | 0, i, hi => by
    obtain rfl : i = n := by omega
    rw [r45_B0_eq]
    have h1 : ((i : Int) < (i : Int)) = False := by simp
    simp only [go_sem, and_self, and_true, true_and, false_and, and_false, Nat.reduceAdd, Nat.reduceMul, Nat.reduceSub, Nat.reduceLeDiff, Nat.reduceLT, Nat.reduceGT, Nat.reduceEqDiff, Nat.reduceBEq, Int.reduceNeg, Int.reduceEq, Int.reduceLT, Int.reduceLE, Int.reduceBEq, Int.reduceToNat, Int.toNat_natCast, Int.natCast_zero, r45_C0, h1]
  | j + 1, i, hi => by
    have h1 : ((i : Int) < (n : Int)) = True := by simp; omega
    have h3 := p10_mono (show i + 1 ≤ 18 by omega)
    have h4 := p10_pos (i + 1)
    have e : (10 : Int) ^ (i + 1) = 10 ^ i * 10 := Int.pow_succ 10 i
    have e18 : (10 : Int) ^ 18 = 1000000000000000000 := by decide
    have ih := pow_loop n hn j (i + 1) (by omega)
    rw [r45_B0_eq]
    simp (disch := omega) only [go_sem, and_self, and_true, true_and, false_and, and_false, Nat.reduceAdd, Nat.reduceMul, Nat.reduceSub, Nat.reduceLeDiff, Nat.reduceLT, Nat.reduceGT, Nat.reduceEqDiff, Nat.reduceBEq, Int.reduceNeg, Int.reduceEq, Int.reduceLT, Int.reduceLE, Int.reduceBEq, Int.reduceToNat, Int.toNat_natCast, Int.natCast_zero, r45_C0, h1, w64]
    rw [e] at ih
    exact ih

theorem pow_ok (n : Nat) (hn : n ≤ 18) (hp : List Ent) : F tab 45 [.d (iv n)] hp = some (.ret (.d (iv (10 ^ n))) hp) := by
  refine f45 rfl ?_
  have hL := pow_loop n hn n 0 (by omega)
  simp (disch := omega) only [go_sem, and_self, and_true, true_and, false_and, and_false, Nat.reduceAdd, Nat.reduceMul, Nat.reduceSub, Nat.reduceLeDiff, Nat.reduceLT, Nat.reduceGT, Nat.reduceEqDiff, Nat.reduceBEq, Int.reduceNeg, Int.reduceEq, Int.reduceLT, Int.reduceLE, Int.reduceBEq, Int.reduceToNat, Int.toNat_natCast, Int.natCast_zero, r45_T, r45]
  rw [r45_B0_n]
  erw [hL]
  simp only [go_sem, and_self, and_true, true_and, false_and, and_false, Nat.reduceAdd, Nat.reduceMul, Nat.reduceSub, Nat.reduceLeDiff, Nat.reduceLT, Nat.reduceGT, Nat.reduceEqDiff, Nat.reduceBEq, Int.reduceNeg, Int.reduceEq, Int.reduceLT, Int.reduceLE, Int.reduceBEq, Int.reduceToNat, Int.toNat_natCast, Int.natCast_zero]

/-- the whole part, and billionths -/
def cutU (c : Int) (k : Nat) : Int := c.tdiv (10 ^ k)
def cutV (c : Int) (k : Nat) : Int := c.tmod (10 ^ k) * 10 ^ (9 - k)

theorem cut_bounds {c : Int} {k : Nat} (hk : k ≤ 9) (hc : -1000000000000000 < c ∧ c < 1000000000000000) :
    cutU c k * 1000000000 + cutV c k = c * 10 ^ (9 - k) ∧ -1000000000000000 < cutU c k ∧ cutU c k < 1000000000000000 ∧ -1000000000 < cutV c k ∧ cutV c k < 1000000000 ∧ (0 ≤ c → 0 ≤ cutU c k ∧ 0 ≤ cutV c k) ∧ (c ≤ 0 → cutU c k ≤ 0 ∧ cutV c k ≤ 0) ∧ -10 ^ k < c.tmod (10 ^ k) ∧ c.tmod (10 ^ k) < 10 ^ k := by
  have hp := p10_pos k
  have hq := p10_pos (9 - k)
  have hpq : (10 : Int) ^ k * 10 ^ (9 - k) = 1000000000 := by
    rw [← Int.pow_add, show k + (9 - k) = 9 by omega]; decide
  have hdm := Int.mul_tdiv_add_tmod c (10 ^ k)
  generalize hP : (10 : Int) ^ k = p at *
  generalize hQ : (10 : Int) ^ (9 - k) = q at *
  have hm1 : c.tmod p < p := Int.tmod_lt_of_pos c hp
  have hm2 : -p < c.tmod p := by
    have := Int.lt_tmod_of_pos c hp
    omega
  have hu : cutU c k = c.tdiv p := by unfold cutU; rw [hP]
  have hv : cutV c k = c.tmod p * q := by unfold cutV; rw [hP, hQ]
  rw [hu, hv]
  have hnat : (c.tdiv p).natAbs ≤ c.natAbs := Int.natAbs_tdiv_le_natAbs c p
  refine ⟨?_, by omega, by omega, ?_, ?_, ?_, ?_, hm2, hm1⟩
  · rw [← hpq]
    calc c.tdiv p * (p * q) + c.tmod p * q = (p * c.tdiv p + c.tmod p) * q := by rw [Int.add_mul]; congr 1; rw [Int.mul_comm p (c.tdiv p), Int.mul_assoc]
      _ = c * q := by rw [hdm]
  · have : -p * q < c.tmod p * q := Int.mul_lt_mul_of_pos_right hm2 hq
    rw [Int.neg_mul, hpq] at this
    exact this
  · have : c.tmod p * q < p * q := Int.mul_lt_mul_of_pos_right hm1 hq
    rw [hpq] at this
    exact this
  · intro h0
    exact ⟨Int.tdiv_nonneg h0 (by omega), Int.mul_nonneg (Int.tmod_nonneg p h0) (by omega)⟩
  · intro h0
    have h1 : c.tdiv p ≤ 0 := by
      have := Int.tdiv_nonneg (show 0 ≤ -c by omega) (show 0 ≤ p by omega)
      rw [Int.neg_tdiv] at this
      omega
    have h2 : c.tmod p ≤ 0 := by
      have := Int.tmod_nonneg p (show 0 ≤ -c by omega)
      rw [Int.neg_tmod] at this
      omega
    exact ⟨h1, Int.mul_nonpos_of_nonpos_of_nonneg h2 (by omega)⟩

theorem cut_ok (c : Int) (k : Nat) (hk : k ≤ 9) (hc : -1000000000000000 < c ∧ c < 1000000000000000) (hp : List Ent) :
    F tab 60 [.d (numD c k)] hp = some (.ret (.tup [.d (iv (cutU c k)), .d (iv (cutV c k))]) hp) := by
  refine f60 rfl ?_
  have h1 := pow_ok k (by omega)
  have h2 := pow_ok (9 - k) (by omega)
  have e : ((9 - k : Nat) : Int) = 9 - (k : Int) := by omega
  rw [e] at h2
  have hne : ((10 : Int) ^ k = 0) = False := by have := p10_pos k; simp; omega
  obtain ⟨b1, b2, b3, b4, b5, _⟩ := cut_bounds hk hc
  have w1 : IntKind.i64.wrap (c.tdiv (10 ^ k)) = cutU c k := by rw [← cutU, w64 (by omega)]
  have w2 : IntKind.i64.wrap (c.tmod (10 ^ k) * 10 ^ (9 - k)) = cutV c k := by rw [← cutV, w64 (by omega)]
  simp (disch := omega) only [go_sem, and_self, and_true, true_and, false_and, and_false, Nat.reduceAdd, Nat.reduceMul, Nat.reduceSub, Nat.reduceLeDiff, Nat.reduceLT, Nat.reduceGT, Nat.reduceEqDiff, Nat.reduceBEq, Int.reduceNeg, Int.reduceEq, Int.reduceLT, Int.reduceLE, Int.reduceBEq, Int.reduceToNat, Int.toNat_natCast, Int.natCast_zero, r60_T, r60, w64, h1, h2, hne, w1, w2]

/-- numbers at one scale -/
def flatN (c : Int) (k : Nat) : Int := c * 10 ^ (9 - k)

theorem cmp_math {c c' : Int} {k k' : Nat} (hk : k ≤ 9) (hk' : k' ≤ 9) (hc : -1000000000000000 < c ∧ c < 1000000000000000) (hc' : -1000000000000000 < c' ∧ c' < 1000000000000000) :
    (if cutU c k ≠ cutU c' k' then sgn (cutU c k) (cutU c' k') else sgn (cutV c k) (cutV c' k')) = sgn (flatN c k) (flatN c' k') := by
  obtain ⟨b1, b2, b3, b4, b5, b6, b7, _⟩ := cut_bounds hk hc
  obtain ⟨d1, d2, d3, d4, d5, d6, d7, _⟩ := cut_bounds hk' hc'
  unfold flatN
  rw [← b1, ← d1]
  unfold sgn
  split
  · rename_i hne
    by_cases h0 : 0 ≤ c
    · have := b6 h0
      by_cases h1 : 0 ≤ c'
      · have := d6 h1
        split <;> split <;> (try split) <;> omega
      · have := d7 (by omega)
        split <;> split <;> (try split) <;> omega
    · have := b7 (by omega)
      by_cases h1 : 0 ≤ c'
      · have := d6 h1
        split <;> split <;> (try split) <;> omega
      · have := d7 (by omega)
        split <;> split <;> (try split) <;> omega
  · rename_i hne
    have : cutU c k = cutU c' k' := by simpa using hne
    rw [this]
    split <;> split <;> (try split) <;> omega

theorem numIs_inv {c s : Int} (h : numIs c s = true) : ∃ k : Nat, s = k ∧ k ≤ 9 ∧ (-1000000000000000 < c ∧ c < 1000000000000000) := by
  simp only [numIs, Bool.and_eq_true, decide_eq_true_eq] at h
  exact ⟨s.toNat, by omega, by omega, by omega⟩

theorem numcmp_ok (c c' : Int) (k k' : Nat) (h : numIs c k = true) (h' : numIs c' k' = true) (hp : List Ent) :
    F tab 33 [.d (numD c k), .d (numD c' k')] hp = some (.ret (.d (iv (sgn (flatN c k) (flatN c' k')))) hp) := by
  obtain ⟨k1, e1, hk, hc⟩ := numIs_inv h
  obtain ⟨k2, e2, hk', hc'⟩ := numIs_inv h'
  obtain rfl : k = k1 := by omega
  obtain rfl : k' = k2 := by omega
  refine f33 rfl ?_
  have h1 := both_ok c k c' k'
  rw [h, h'] at h1
  have h2 := cut_ok c k hk hc
  have h3 := cut_ok c' k' hk' hc'
  have h4 := numorder_ok (cutU c k) (cutU c' k')
  have h5 := numorder_ok (cutV c k) (cutV c' k')
  rw [← cmp_math hk hk' hc hc']
  by_cases hu : cutU c k = cutU c' k'
  · have hu1 : (cutU c k != cutU c' k') = false := by simp [hu]
    have hu2 : (cutU c k ≠ cutU c' k') = False := by simp [hu]
    simp (disch := omega) only [go_sem, and_self, and_true, true_and, false_and, and_false, Nat.reduceAdd, Nat.reduceMul, Nat.reduceSub, Nat.reduceLeDiff, Nat.reduceLT, Nat.reduceGT, Nat.reduceEqDiff, Nat.reduceBEq, Int.reduceNeg, Int.reduceEq, Int.reduceLT, Int.reduceLE, Int.reduceBEq, Int.reduceToNat, Int.toNat_natCast, Int.natCast_zero, r33_T, r33, h1, h2, h3, h4, h5, hu1, hu2]
  · have hu1 : (cutU c k != cutU c' k') = true := by simp [hu]
    have hu2 : (cutU c k ≠ cutU c' k') = True := by simp [hu]
    simp (disch := omega) only [go_sem, and_self, and_true, true_and, false_and, and_false, Nat.reduceAdd, Nat.reduceMul, Nat.reduceSub, Nat.reduceLeDiff, Nat.reduceLT, Nat.reduceGT, Nat.reduceEqDiff, Nat.reduceBEq, Int.reduceNeg, Int.reduceEq, Int.reduceLT, Int.reduceLE, Int.reduceBEq, Int.reduceToNat, Int.toNat_natCast, Int.natCast_zero, r33_T, r33, h1, h2, h3, h4, h5, hu1, hu2]
end Go.Pe.T

namespace Go.Pe.T
/-! ### noughts taken off; sums -/

def stripN : Int → Nat → Int × Nat
  | c, 0 => (c, 0)
  | c, s + 1 => if c.tmod 10 = 0 then stripN (c.tdiv 10) s else (c, s + 1)

theorem strip_val : ∀ (k : Nat) (c : Int), (stripN c k).2 ≤ k ∧ (stripN c k).1 * 10 ^ (k - (stripN c k).2) = c ∧ ((stripN c k).2 = 0 ∨ (stripN c k).1.tmod 10 ≠ 0)
  | 0, c => by simp [stripN]
  | k + 1, c => by
    simp only [stripN]
    split
    · rename_i h
      obtain ⟨h1, h2, h3⟩ := strip_val k (c.tdiv 10)
      refine ⟨by omega, ?_, h3⟩
      have e : k + 1 - (stripN (c.tdiv 10) k).2 = (k - (stripN (c.tdiv 10) k).2) + 1 := by omega
      rw [e, Int.pow_succ, ← Int.mul_assoc, h2]
      have := Int.mul_tdiv_add_tmod c 10
      omega
    · rename_i h
      exact ⟨Nat.le_refl _, by simp, .inr h⟩

theorem strip_self : ∀ (k : Nat) (c : Int), (k = 0 ∨ c.tmod 10 ≠ 0) → stripN c k = (c, k)
  | 0, c, _ => rfl
  | k + 1, c, h => by
    simp only [stripN]
    rw [if_neg (h.resolve_left (by omega))]

theorem strip_add : ∀ (k : Nat) (w p : Int), stripN (w * 10 ^ k + p) k = (w * 10 ^ (stripN p k).2 + (stripN p k).1, (stripN p k).2)
  | 0, w, p => by simp [stripN]
  | k + 1, w, p => by
    have hp := p10_pos k
    have e : w * 10 ^ (k + 1) = w * 10 ^ k * 10 := by rw [Int.pow_succ, Int.mul_assoc]
    have hm : (w * 10 ^ (k + 1) + p).tmod 10 = 0 ↔ p.tmod 10 = 0 := by
      rw [e]
      generalize w * 10 ^ k = x
      have := Int.mul_tdiv_add_tmod p 10
      have := Int.mul_tdiv_add_tmod (x * 10 + p) 10
      constructor
      · intro h
        have h1 : (10 : Int) ∣ x * 10 + p := Int.dvd_of_tmod_eq_zero h
        have h2 : (10 : Int) ∣ p := by omega
        exact Int.tmod_eq_zero_of_dvd h2
      · intro h
        have h1 : (10 : Int) ∣ p := Int.dvd_of_tmod_eq_zero h
        have h2 : (10 : Int) ∣ x * 10 + p := by omega
        exact Int.tmod_eq_zero_of_dvd h2
    simp only [stripN]
    by_cases h : p.tmod 10 = 0
    · rw [if_pos (hm.2 h), if_pos h]
      have hd : (w * 10 ^ (k + 1) + p).tdiv 10 = w * 10 ^ k + p.tdiv 10 := by
        have h3 := hm.2 h
        rw [e] at h3 ⊢
        generalize w * 10 ^ k = x at *
        have h1 := Int.mul_tdiv_add_tmod p 10
        have h2 := Int.mul_tdiv_add_tmod (x * 10 + p) 10
        omega
      rw [hd]
      exact strip_add k w (p.tdiv 10)
    · rw [if_neg (fun h2 => h (hm.1 h2)), if_neg h]

theorem strip_abs (k : Nat) (c B : Int) (h : -B ≤ c ∧ c ≤ B) : -B ≤ (stripN c k).1 ∧ (stripN c k).1 ≤ B := by
  obtain ⟨_, h2, _⟩ := strip_val k c
  have hp := p10_pos (k - (stripN c k).2)
  generalize (stripN c k).1 = x at *
  generalize (10 : Int) ^ (k - (stripN c k).2) = q at *
  by_cases hx : 0 ≤ x
  · have : x * 1 ≤ x * q := Int.mul_le_mul_of_nonneg_left (by omega) hx
    omega
  · have : -x * 1 ≤ -x * q := Int.mul_le_mul_of_nonneg_left (by omega) (by omega)
    rw [Int.neg_mul, Int.neg_mul] at this
    omega

/-- what a coefficient at a scale comes to -/
def makeOk (c : Int) (k : Nat) : Bool := numIs (stripN c k).1 (stripN c k).2

theorem strip_zero : ∀ (k : Nat), stripN 0 k = (0, 0)
  | 0 => rfl
  | k + 1 => by simp only [stripN, Int.zero_tmod, Int.zero_tdiv, if_true, strip_zero k]

theorem strip_whole (z : Int) (k : Nat) : stripN (z * 10 ^ k) k = (z, 0) := by
  have := strip_add k z 0
  rw [strip_zero, Int.add_zero] at this
  simpa using this

theorem p10_cut (s : Nat) (hs : s ≤ 9) : (10 : Int) ^ s * 10 ^ (9 - s) = 1000000000 := by
  rw [← Int.pow_add, show s + (9 - s) = 9 by omega]; decide
theorem p10_cut15 (s : Nat) (hs : s ≤ 15) : (10 : Int) ^ s * 10 ^ (15 - s) = 1000000000000000 := by
  rw [← Int.pow_add, show s + (15 - s) = 15 by omega]; decide

theorem strip_part {p : Int} (hp : -1000000000 < p ∧ p < 1000000000) : -10 ^ (stripN p 9).2 < (stripN p 9).1 ∧ (stripN p 9).1 < 10 ^ (stripN p 9).2 := by
  obtain ⟨h1, h2, _⟩ := strip_val 9 p
  have h3 := p10_cut _ h1
  have h4 := p10_pos (9 - (stripN p 9).2)
  generalize (stripN p 9).1 = q at *
  generalize (10 : Int) ^ (9 - (stripN p 9).2) = y at *
  generalize (10 : Int) ^ (stripN p 9).2 = x at *
  rw [← h2, ← h3] at hp
  refine ⟨?_, ?_⟩
  · have : -x * y < q * y := by rw [Int.neg_mul]; omega
    exact Int.lt_of_mul_lt_mul_right this (by omega)
  · exact Int.lt_of_mul_lt_mul_right hp.2 (by omega)

/-- joined: too great, or within what can be reckoned with -/
theorem join_math {w p : Int} (hp : -1000000000 < p ∧ p < 1000000000) :
    (stripN (w * 1000000000 + p) 9) = (w * 10 ^ (stripN p 9).2 + (stripN p 9).1, (stripN p 9).2) ∧
    (w ≥ (1000000000000000 : Int).tdiv (10 ^ (stripN p 9).2) + 1 → makeOk (w * 1000000000 + p) 9 = false) ∧
    (w ≤ (-1000000000000000 : Int).tdiv (10 ^ (stripN p 9).2) - 1 → makeOk (w * 1000000000 + p) 9 = false) ∧
    (¬ w ≥ (1000000000000000 : Int).tdiv (10 ^ (stripN p 9).2) + 1 → ¬ w ≤ (-1000000000000000 : Int).tdiv (10 ^ (stripN p 9).2) - 1 →
      -2000000000000000 < w * 10 ^ (stripN p 9).2 ∧ w * 10 ^ (stripN p 9).2 < 2000000000000000 ∧ -1000000000 < (stripN p 9).1 ∧ (stripN p 9).1 < 1000000000) := by
  have e9 : (10 : Int) ^ 9 = 1000000000 := by decide
  have hs := strip_add 9 w p
  rw [e9] at hs
  obtain ⟨h1, _, _⟩ := strip_val 9 p
  obtain ⟨h2, h3⟩ := strip_part hp
  have h4 := p10_cut15 (stripN p 9).2 (by omega)
  have h5 := p10_pos (stripN p 9).2
  have h6 := p10_pos (15 - (stripN p 9).2)
  have h7 := p10_mono h1
  rw [e9] at h7
  have d1 : (1000000000000000 : Int).tdiv (10 ^ (stripN p 9).2) = 10 ^ (15 - (stripN p 9).2) := by
    rw [← h4]; exact Int.mul_tdiv_cancel_left _ (by omega)
  have d2 : (-1000000000000000 : Int).tdiv (10 ^ (stripN p 9).2) = -10 ^ (15 - (stripN p 9).2) := by
    rw [← h4, ← Int.mul_neg]; exact Int.mul_tdiv_cancel_left _ (by omega)
  rw [d1, d2]
  unfold makeOk
  rw [hs]
  simp only
  generalize (stripN p 9).1 = q at *
  generalize (10 : Int) ^ (15 - (stripN p 9).2) = y at *
  generalize hx : (10 : Int) ^ (stripN p 9).2 = x at *
  refine ⟨trivial, fun h => ?_, fun h => ?_, fun g1 g2 => ?_⟩
  · have : (y + 1) * x ≤ w * x := Int.mul_le_mul_of_nonneg_right h (by omega)
    rw [Int.add_mul, Int.one_mul, Int.mul_comm y x, h4] at this
    have g : ¬ (w * x + q < 1000000000000000) := by omega
    simp [numIs, g]
  · have : w * x ≤ (-y - 1) * x := Int.mul_le_mul_of_nonneg_right h (by omega)
    rw [Int.sub_mul, Int.one_mul, Int.neg_mul, Int.mul_comm y x, h4] at this
    have g : ¬ (-1000000000000000 < w * x + q) := by omega
    simp [numIs, g]
  · have a1 : w * x ≤ y * x := Int.mul_le_mul_of_nonneg_right (by omega) (by omega)
    have a2 : -y * x ≤ w * x := Int.mul_le_mul_of_nonneg_right (by omega) (by omega)
    rw [Int.neg_mul, Int.mul_comm y x, h4] at a2
    rw [Int.mul_comm y x, h4] at a1
    omega

theorem make_flat {c : Int} {k : Nat} (hk : k ≤ 9) : flatN (stripN c k).1 (stripN c k).2 = flatN c k := by
  obtain ⟨h1, h2, _⟩ := strip_val k c
  unfold flatN
  rw [show 9 - (stripN c k).2 = (k - (stripN c k).2) + (9 - k) by omega, Int.pow_add, ← Int.mul_assoc, h2]

theorem flat_inj {c c' : Int} : ∀ {k k' : Nat}, k ≤ 9 → k' ≤ 9 → (k = 0 ∨ c.tmod 10 ≠ 0) → (k' = 0 ∨ c'.tmod 10 ≠ 0) → flatN c k = flatN c' k' → k ≤ k' → c = c' ∧ k = k' := by
  intro k k' hk hk' h1 h2 he hle
  unfold flatN at he
  rw [show 9 - k = (k' - k) + (9 - k') by omega, Int.pow_add, ← Int.mul_assoc] at he
  have hp := p10_pos (9 - k')
  have he := Int.eq_of_mul_eq_mul_right (by omega) he
  by_cases e : k = k'
  · subst e
    simp at he
    exact ⟨he, rfl⟩
  · exfalso
    obtain ⟨j, hj⟩ : ∃ j, k' - k = j + 1 := ⟨k' - k - 1, by omega⟩
    rw [hj, Int.pow_succ, ← Int.mul_assoc] at he
    have hd : (10 : Int) ∣ c' := ⟨c * 10 ^ j, by rw [← he, Int.mul_comm]⟩
    exact h2.resolve_left (by omega) (Int.tmod_eq_zero_of_dvd hd)

theorem num_inj {c c' : Int} {k k' : Nat} (h : numIs c k = true) (h' : numIs c' k' = true) (he : flatN c k = flatN c' k') : c = c' ∧ k = k' := by
  simp only [numIs, Bool.and_eq_true, Bool.or_eq_true, decide_eq_true_eq, beq_iff_eq, bne_iff_ne] at h h'
  have a1 : k = 0 ∨ c.tmod 10 ≠ 0 := by rcases h.2 with g | g; exact .inl (by omega); exact .inr g
  have a2 : k' = 0 ∨ c'.tmod 10 ≠ 0 := by rcases h'.2 with g | g; exact .inl (by omega); exact .inr g
  by_cases hle : k ≤ k'
  · exact flat_inj (by omega) (by omega) a1 a2 he hle
  · obtain ⟨e1, e2⟩ := flat_inj (k := k') (k' := k) (by omega) (by omega) a2 a1 he.symm (by omega)
    exact ⟨e1.symm, e2.symm⟩
end Go.Pe.T

namespace Go.Pe.T
/-! ### Make, join, Add, Sub -/

/-- a number, or that it can't be held -/
def madeT (c : Int) (k : Nat) : PV := if makeOk c k then .tup [.d (numD (stripN c k).1 (stripN c k).2), .d (iv 0)] else .tup [.d (numD 0 0), .d (iv 8)]

theorem tdiv10 {c : Int} (hc : i64 c) (h : c.tmod 10 = 0) : i64 (c.tdiv 10) := by
  have := Int.mul_tdiv_add_tmod c 10
  unfold i64 at *
  omega

def MkLoop (c : Int) (k : Nat) : Prop :=
  V (F tab) r16_B0 (r16_S0 (.d (iv c)) (.d (iv k)) (.ibox [.d (iv 0), .d (iv 0)]) []) = some (.norm, r16_E0 (.d (iv (stripN c k).1)) (.d (iv (stripN c k).2)) (.ibox [.d (iv 0), .d (iv 0)]) [])

theorem mk_end (c : Int) : MkLoop c 0 := by
  unfold MkLoop
  have h1 : ((0 : Int) > 0) = False := eq_false (by omega)
  have h2 : (((0 : Nat) : Int) > 0) = False := eq_false (by omega)
  rw [r16_B0_eq, stripN]
  simp (disch := omega) only [go_sem, and_self, and_true, true_and, false_and, and_false, Nat.reduceAdd, Nat.reduceMul, Nat.reduceSub, Nat.reduceLeDiff, Nat.reduceLT, Nat.reduceGT, Nat.reduceEqDiff, Nat.reduceBEq, Int.reduceNeg, Int.reduceEq, Int.reduceLT, Int.reduceLE, Int.reduceBEq, Int.reduceToNat, Int.toNat_natCast, Int.natCast_zero, r16_C0, h1, h2]
theorem mk_stop (c : Int) (k : Nat) (h : c.tmod 10 ≠ 0) : MkLoop c (k + 1) := by
  unfold MkLoop
  have h1 : (((k + 1 : Nat) : Int) > 0) = True := eq_true (by omega)
  have h2 : (c.tmod 10 == 0) = false := by simpa using h
  have h3 : ((10 : Int) = 0) = False := eq_false (by omega)
  rw [r16_B0_eq, stripN, if_neg h]
  simp (disch := omega) only [go_sem, and_self, and_true, true_and, false_and, and_false, Nat.reduceAdd, Nat.reduceMul, Nat.reduceSub, Nat.reduceLeDiff, Nat.reduceLT, Nat.reduceGT, Nat.reduceEqDiff, Nat.reduceBEq, Int.reduceNeg, Int.reduceEq, Int.reduceLT, Int.reduceLE, Int.reduceBEq, Int.reduceToNat, Int.toNat_natCast, Int.natCast_zero, r16_C0, h1, h2, h3]
theorem mk_step (c : Int) (k : Nat) (hc : i64 c) (hk : k ≤ 100) (h : c.tmod 10 = 0) (ih : MkLoop (c.tdiv 10) k) : MkLoop c (k + 1) := by
  unfold MkLoop
  have h1 : (((k + 1 : Nat) : Int) > 0) = True := eq_true (by omega)
  have h2 : (c.tmod 10 == 0) = true := by simpa using h
  have h3 : ((10 : Int) = 0) = False := eq_false (by omega)
  have h4 : ((k + 1 : Nat) : Int) - 1 = (k : Int) := by omega
  have hd := tdiv10 hc h
  have w1 : IntKind.i64.wrap (c.tdiv 10) = c.tdiv 10 := w64 hd
  unfold MkLoop at ih
  rw [r16_B0_eq, stripN, if_pos h]
  simp (disch := omega) only [go_sem, and_self, and_true, true_and, false_and, and_false, Nat.reduceAdd, Nat.reduceMul, Nat.reduceSub, Nat.reduceLeDiff, Nat.reduceLT, Nat.reduceGT, Nat.reduceEqDiff, Nat.reduceBEq, Int.reduceNeg, Int.reduceEq, Int.reduceLT, Int.reduceLE, Int.reduceBEq, Int.reduceToNat, Int.toNat_natCast, Int.natCast_zero, r16_C0, h1, h2, h3, h4, w1, w64]
  exact ih
theorem mk_loop : ∀ (k : Nat) (c : Int), i64 c → k ≤ 100 → MkLoop c k
  | 0, c, _, _ => mk_end c
  | k + 1, c, hc, hk => by
    by_cases h : c.tmod 10 = 0
    · exact mk_step c k hc (by omega) h (mk_loop k _ (tdiv10 hc h) (by omega))
    · exact mk_stop c k h

theorem make_ok (c : Int) (k : Nat) (hc : i64 c) (hk : k ≤ 30) (hp : List Ent) : F tab 16 [.d (iv c), .d (iv k)] hp = some (.ret (madeT c k) hp) := by
  have hL := mk_loop k c hc (by omega)
  unfold MkLoop at hL
  have hI := numIs_ok (stripN c k).1 (stripN c k).2
  have h1 : ((k : Int) < 0) = False := eq_false (by omega)
  have h2 : ((k : Int) > 30) = False := eq_false (by omega)
  refine f16 rfl ?_
  simp (disch := omega) only [go_sem, and_self, and_true, true_and, false_and, and_false, Nat.reduceAdd, Nat.reduceMul, Nat.reduceSub, Nat.reduceLeDiff, Nat.reduceLT, Nat.reduceGT, Nat.reduceEqDiff, Nat.reduceBEq, Int.reduceNeg, Int.reduceEq, Int.reduceLT, Int.reduceLE, Int.reduceBEq, Int.reduceToNat, Int.toNat_natCast, Int.natCast_zero, r16_T, r16, h1, h2]
  rw [r16_B0_n]
  erw [hL]
  unfold madeT
  have e : makeOk c k = numIs (stripN c k).1 (stripN c k).2 := rfl
  rcases Bool.eq_false_or_eq_true (numIs (stripN c k).1 (stripN c k).2) with g | g
  · rw [e, g]
    simp (disch := omega) only [go_sem, and_self, and_true, true_and, false_and, and_false, Nat.reduceAdd, Nat.reduceMul, Nat.reduceSub, Nat.reduceLeDiff, Nat.reduceLT, Nat.reduceGT, Nat.reduceEqDiff, Nat.reduceBEq, Int.reduceNeg, Int.reduceEq, Int.reduceLT, Int.reduceLE, Int.reduceBEq, Int.reduceToNat, Int.toNat_natCast, Int.natCast_zero, hI, g]
  · rw [e, g]
    simp (disch := omega) only [go_sem, and_self, and_true, true_and, false_and, and_false, Nat.reduceAdd, Nat.reduceMul, Nat.reduceSub, Nat.reduceLeDiff, Nat.reduceLT, Nat.reduceGT, Nat.reduceEqDiff, Nat.reduceBEq, Int.reduceNeg, Int.reduceEq, Int.reduceLT, Int.reduceLE, Int.reduceBEq, Int.reduceToNat, Int.toNat_natCast, Int.natCast_zero, hI, g]

def JnLoop (w c : Int) (k : Nat) : Prop :=
  V (F tab) r63_B0 (r63_S0 (.d (iv w)) (.d (iv c)) (.ibox [.d (iv 0), .d (iv 0)]) (.d (iv k)) []) = some (.norm, r63_E0 (.d (iv w)) (.d (iv (stripN c k).1)) (.ibox [.d (iv 0), .d (iv 0)]) (.d (iv (stripN c k).2)) [])
theorem jn_end (w c : Int) : JnLoop w c 0 := by
  unfold JnLoop
  have h1 : ((0 : Int) > 0) = False := eq_false (by omega)
  have h2 : (((0 : Nat) : Int) > 0) = False := eq_false (by omega)
  rw [r63_B0_eq, stripN]
  simp (disch := omega) only [go_sem, and_self, and_true, true_and, false_and, and_false, Nat.reduceAdd, Nat.reduceMul, Nat.reduceSub, Nat.reduceLeDiff, Nat.reduceLT, Nat.reduceGT, Nat.reduceEqDiff, Nat.reduceBEq, Int.reduceNeg, Int.reduceEq, Int.reduceLT, Int.reduceLE, Int.reduceBEq, Int.reduceToNat, Int.toNat_natCast, Int.natCast_zero, r63_C0, h1, h2]
theorem jn_stop (w c : Int) (k : Nat) (h : c.tmod 10 ≠ 0) : JnLoop w c (k + 1) := by
  unfold JnLoop
  have h1 : (((k + 1 : Nat) : Int) > 0) = True := eq_true (by omega)
  have h2 : (c.tmod 10 == 0) = false := by simpa using h
  have h3 : ((10 : Int) = 0) = False := eq_false (by omega)
  rw [r63_B0_eq, stripN, if_neg h]
  simp (disch := omega) only [go_sem, and_self, and_true, true_and, false_and, and_false, Nat.reduceAdd, Nat.reduceMul, Nat.reduceSub, Nat.reduceLeDiff, Nat.reduceLT, Nat.reduceGT, Nat.reduceEqDiff, Nat.reduceBEq, Int.reduceNeg, Int.reduceEq, Int.reduceLT, Int.reduceLE, Int.reduceBEq, Int.reduceToNat, Int.toNat_natCast, Int.natCast_zero, r63_C0, h1, h2, h3]
theorem jn_step (w c : Int) (k : Nat) (hc : i64 c) (hk : k ≤ 100) (h : c.tmod 10 = 0) (ih : JnLoop w (c.tdiv 10) k) : JnLoop w c (k + 1) := by
  unfold JnLoop
  have h1 : (((k + 1 : Nat) : Int) > 0) = True := eq_true (by omega)
  have h2 : (c.tmod 10 == 0) = true := by simpa using h
  have h3 : ((10 : Int) = 0) = False := eq_false (by omega)
  have h4 : ((k + 1 : Nat) : Int) - 1 = (k : Int) := by omega
  have hd := tdiv10 hc h
  have w1 : IntKind.i64.wrap (c.tdiv 10) = c.tdiv 10 := w64 hd
  unfold JnLoop at ih
  rw [r63_B0_eq, stripN, if_pos h]
  simp (disch := omega) only [go_sem, and_self, and_true, true_and, false_and, and_false, Nat.reduceAdd, Nat.reduceMul, Nat.reduceSub, Nat.reduceLeDiff, Nat.reduceLT, Nat.reduceGT, Nat.reduceEqDiff, Nat.reduceBEq, Int.reduceNeg, Int.reduceEq, Int.reduceLT, Int.reduceLE, Int.reduceBEq, Int.reduceToNat, Int.toNat_natCast, Int.natCast_zero, r63_C0, h1, h2, h3, h4, w1, w64]
  exact ih
theorem jn_loop (w : Int) : ∀ (k : Nat) (c : Int), i64 c → k ≤ 100 → JnLoop w c k
  | 0, c, _, _ => jn_end w c
  | k + 1, c, hc, hk => by
    by_cases h : c.tmod 10 = 0
    · exact jn_step w c k hc (by omega) h (jn_loop w k _ (tdiv10 hc h) (by omega))
    · exact jn_stop w c k h
end Go.Pe.T

namespace Go.Pe.T

theorem strip_idem (T : Int) (k : Nat) : stripN (stripN T k).1 (stripN T k).2 = stripN T k := by
  obtain ⟨_, _, h3⟩ := strip_val k T
  rw [strip_self _ _ h3]

theorem made_idem (T : Int) (k : Nat) : madeT (stripN T k).1 (stripN T k).2 = madeT T k := by
  unfold madeT makeOk
  rw [strip_idem]

/-- what follows on the loop of join -/
theorem join_tail (W Q : Int) (s : Nat) (T : Int) (hs : s ≤ 9) (hT : stripN T 9 = (W * 10 ^ s + Q, s))
    (h1 : W ≥ (1000000000000000 : Int).tdiv (10 ^ s) + 1 → makeOk T 9 = false) (h2 : W ≤ (-1000000000000000 : Int).tdiv (10 ^ s) - 1 → makeOk T 9 = false)
    (h3 : ¬ W ≥ (1000000000000000 : Int).tdiv (10 ^ s) + 1 → ¬ W ≤ (-1000000000000000 : Int).tdiv (10 ^ s) - 1 → -2000000000000000 < W * 10 ^ s ∧ W * 10 ^ s < 2000000000000000 ∧ -1000000000 < Q ∧ Q < 1000000000) :
    (-1000000000000002 < (1000000000000000 : Int).tdiv (10 ^ s) ∧ (1000000000000000 : Int).tdiv (10 ^ s) < 1000000000000002) ∧ (-1000000000000002 < (-1000000000000000 : Int).tdiv (10 ^ s) ∧ (-1000000000000000 : Int).tdiv (10 ^ s) < 1000000000000002) ∧
    madeT (W * 10 ^ s + Q) s = madeT T 9 := by
  refine ⟨?_, ?_, ?_⟩
  · have := Int.natAbs_tdiv_le_natAbs 1000000000000000 (10 ^ s)
    omega
  · have := Int.natAbs_tdiv_le_natAbs (-1000000000000000) (10 ^ s)
    omega
  · have := made_idem T 9
    rw [hT] at this
    exact this

/-- what stands behind the loop of join -/
def joinTail : RCode := match r63_K2 () with
  | .seq _ (.seq _ (.seq _ c)) => c
  | c => c

set_option maxHeartbeats 1000000 in
theorem join_ok (w p : Int) (hw : -3000000000000000 ≤ w ∧ w ≤ 3000000000000000) (hp0 : -3000000000 ≤ p ∧ p ≤ 3000000000) (hp : List Ent) : F tab 63 [.d (iv w), .d (iv p)] hp = some (.ret (madeT (w * 1000000000 + p) 9) hp) := by
  have hm := Int.mul_tdiv_add_tmod p 1000000000
  have hm1 := Int.tmod_lt_of_pos p (show (0 : Int) < 1000000000 by omega)
  have hm2 := Int.lt_tmod_of_pos p (show (0 : Int) < 1000000000 by omega)
  have q1 : ((1000000000 : Int) = 0) = False := eq_false (by omega)
  have core : ∀ W P : Int, W * 1000000000 + P = w * 1000000000 + p → (-1000000000 < P ∧ P < 1000000000) → (-4000000000000000 ≤ W ∧ W ≤ 4000000000000000) →
      V (F tab) r63_B0 (r63_S0 (.d (iv W)) (.d (iv P)) (.ibox [.d (iv 0), .d (iv 0)]) (.d (iv 9)) []) = some (.norm, r63_E0 (.d (iv W)) (.d (iv (stripN P 9).1)) (.ibox [.d (iv 0), .d (iv 0)]) (.d (iv (stripN P 9).2)) []) ∧ fnEnd r63 hp (V (F tab) joinTail (r63_E0 (.d (iv W)) (.d (iv (stripN P 9).1)) (.ibox [.d (iv 0), .d (iv 0)]) (.d (iv (stripN P 9).2)) [])) = some (.ret (madeT (w * 1000000000 + p) 9) hp) := by
    intro W P hT hP hW
    have hL := jn_loop W 9 P (by unfold i64; omega) (by omega)
    unfold JnLoop at hL
    refine ⟨hL, ?_⟩
    simp only [joinTail, r63_K2]
    obtain ⟨j1, j2, j3, j4⟩ := join_math (w := W) hP
    rw [hT] at j1 j2 j3
    have hs : (stripN P 9).2 ≤ 9 := (strip_val 9 P).1
    have h10 := pow_ok (stripN P 9).2 (by omega)
    obtain ⟨t1, t2, t3⟩ := join_tail W (stripN P 9).1 (stripN P 9).2 _ hs j1 j2 j3 j4
    have hmk : ∀ hp, -2000000000000000 < W * 10 ^ (stripN P 9).2 → W * 10 ^ (stripN P 9).2 < 2000000000000000 → -1000000000 < (stripN P 9).1 → (stripN P 9).1 < 1000000000 →
        F tab 16 [.d (iv (W * 10 ^ (stripN P 9).2 + (stripN P 9).1)), .d (iv (stripN P 9).2)] hp = some (.ret (madeT (W * 10 ^ (stripN P 9).2 + (stripN P 9).1) (stripN P 9).2) hp) := fun hp a b c d => make_ok _ _ (by unfold i64; omega) (by omega) hp
    have hpos : ((10 : Int) ^ (stripN P 9).2 = 0) = False := eq_false (by have := p10_pos (stripN P 9).2; omega)
    generalize (stripN P 9).1 = Q at *
    generalize (stripN P 9).2 = s at *
    generalize (10 : Int) ^ s = x at *
    generalize hA : (1000000000000000 : Int).tdiv x = A at *
    generalize hB : (-1000000000000000 : Int).tdiv x = B at *
    by_cases g1 : W ≥ A + 1
    · have e := j2 g1
      have e2 : madeT (w * 1000000000 + p) 9 = .tup [.d (numD 0 0), .d (iv 8)] := by unfold madeT; rw [e]; rfl
      rw [e2]
      simp (disch := omega) only [go_sem, and_self, and_true, true_and, false_and, and_false, Nat.reduceAdd, Nat.reduceMul, Nat.reduceSub, Nat.reduceLeDiff, Nat.reduceLT, Nat.reduceGT, Nat.reduceEqDiff, Nat.reduceBEq, Int.reduceNeg, Int.reduceEq, Int.reduceLT, Int.reduceLE, Int.reduceBEq, Int.reduceToNat, Int.toNat_natCast, Int.natCast_zero, r63, h10, hpos, hA, w64, g1]
    · by_cases g2 : W ≤ B - 1
      · have e := j3 g2
        have e2 : madeT (w * 1000000000 + p) 9 = .tup [.d (numD 0 0), .d (iv 8)] := by unfold madeT; rw [e]; rfl
        rw [e2]
        simp (disch := omega) only [go_sem, and_self, and_true, true_and, false_and, and_false, Nat.reduceAdd, Nat.reduceMul, Nat.reduceSub, Nat.reduceLeDiff, Nat.reduceLT, Nat.reduceGT, Nat.reduceEqDiff, Nat.reduceBEq, Int.reduceNeg, Int.reduceEq, Int.reduceLT, Int.reduceLE, Int.reduceBEq, Int.reduceToNat, Int.toNat_natCast, Int.natCast_zero, r63, h10, hpos, hA, hB, w64, g1, g2]
      · obtain ⟨a, b, c, d⟩ := j4 g1 g2
        have hmk := fun hp => hmk hp a b c d
        rw [t3] at hmk
        have w1 : IntKind.i64.wrap (W * x) = W * x := w64 (by generalize W * x = Y at *; omega)
        have w2 : IntKind.i64.wrap (W * x + Q) = W * x + Q := w64 (by generalize W * x = Y at *; omega)
        unfold madeT at hmk ⊢
        rcases Bool.eq_false_or_eq_true (makeOk (w * 1000000000 + p) 9) with g | g
        · rw [g] at hmk ⊢
          simp only [if_true] at hmk ⊢
          simp (disch := omega) only [go_sem, and_self, and_true, true_and, false_and, and_false, Nat.reduceAdd, Nat.reduceMul, Nat.reduceSub, Nat.reduceLeDiff, Nat.reduceLT, Nat.reduceGT, Nat.reduceEqDiff, Nat.reduceBEq, Int.reduceNeg, Int.reduceEq, Int.reduceLT, Int.reduceLE, Int.reduceBEq, Int.reduceToNat, Int.toNat_natCast, Int.natCast_zero, r63, h10, hpos, hA, hB, w1, w2, w64, g1, g2, hmk, numD]
        · rw [g] at hmk ⊢
          simp only [Bool.false_eq_true, if_false] at hmk ⊢
          simp (disch := omega) only [go_sem, and_self, and_true, true_and, false_and, and_false, Nat.reduceAdd, Nat.reduceMul, Nat.reduceSub, Nat.reduceLeDiff, Nat.reduceLT, Nat.reduceGT, Nat.reduceEqDiff, Nat.reduceBEq, Int.reduceNeg, Int.reduceEq, Int.reduceLT, Int.reduceLE, Int.reduceBEq, Int.reduceToNat, Int.toNat_natCast, Int.natCast_zero, r63, h10, hpos, hA, hB, w1, w2, w64, g1, g2, hmk, numD]
  refine f63 rfl ?_
  by_cases c1 : w + p.tdiv 1000000000 > 0
  · have c3 : ¬ (w + p.tdiv 1000000000 < 0) := by omega
    by_cases c2 : p.tmod 1000000000 < 0
    · have c4 : ¬ (w + p.tdiv 1000000000 - 1 < 0) := by omega
      have := core (w + p.tdiv 1000000000 - 1) (p.tmod 1000000000 + 1000000000) (by omega) (by omega) (by omega)
      simp (disch := omega) only [go_sem, and_self, and_true, true_and, false_and, and_false, Nat.reduceAdd, Nat.reduceMul, Nat.reduceSub, Nat.reduceLeDiff, Nat.reduceLT, Nat.reduceGT, Nat.reduceEqDiff, Nat.reduceBEq, Int.reduceNeg, Int.reduceEq, Int.reduceLT, Int.reduceLE, Int.reduceBEq, Int.reduceToNat, Int.toNat_natCast, Int.natCast_zero, r63_T, r63, q1, w64, c1, c2, c3, c4]
      rw [r63_B0_n]
      erw [this.1]
      exact this.2
    · have := core (w + p.tdiv 1000000000) (p.tmod 1000000000) (by omega) (by omega) (by omega)
      simp (disch := omega) only [go_sem, and_self, and_true, true_and, false_and, and_false, Nat.reduceAdd, Nat.reduceMul, Nat.reduceSub, Nat.reduceLeDiff, Nat.reduceLT, Nat.reduceGT, Nat.reduceEqDiff, Nat.reduceBEq, Int.reduceNeg, Int.reduceEq, Int.reduceLT, Int.reduceLE, Int.reduceBEq, Int.reduceToNat, Int.toNat_natCast, Int.natCast_zero, r63_T, r63, q1, w64, c1, c2, c3]
      rw [r63_B0_n]
      erw [this.1]
      exact this.2
  · by_cases c3 : w + p.tdiv 1000000000 < 0
    · by_cases c4 : p.tmod 1000000000 > 0
      · have := core (w + p.tdiv 1000000000 + 1) (p.tmod 1000000000 - 1000000000) (by omega) (by omega) (by omega)
        simp (disch := omega) only [go_sem, and_self, and_true, true_and, false_and, and_false, Nat.reduceAdd, Nat.reduceMul, Nat.reduceSub, Nat.reduceLeDiff, Nat.reduceLT, Nat.reduceGT, Nat.reduceEqDiff, Nat.reduceBEq, Int.reduceNeg, Int.reduceEq, Int.reduceLT, Int.reduceLE, Int.reduceBEq, Int.reduceToNat, Int.toNat_natCast, Int.natCast_zero, r63_T, r63, q1, w64, c1, c3, c4]
        rw [r63_B0_n]
        erw [this.1]
        exact this.2
      · have := core (w + p.tdiv 1000000000) (p.tmod 1000000000) (by omega) (by omega) (by omega)
        simp (disch := omega) only [go_sem, and_self, and_true, true_and, false_and, and_false, Nat.reduceAdd, Nat.reduceMul, Nat.reduceSub, Nat.reduceLeDiff, Nat.reduceLT, Nat.reduceGT, Nat.reduceEqDiff, Nat.reduceBEq, Int.reduceNeg, Int.reduceEq, Int.reduceLT, Int.reduceLE, Int.reduceBEq, Int.reduceToNat, Int.toNat_natCast, Int.natCast_zero, r63_T, r63, q1, w64, c1, c3, c4]
        rw [r63_B0_n]
        erw [this.1]
        exact this.2
    · have := core (w + p.tdiv 1000000000) (p.tmod 1000000000) (by omega) (by omega) (by omega)
      simp (disch := omega) only [go_sem, and_self, and_true, true_and, false_and, and_false, Nat.reduceAdd, Nat.reduceMul, Nat.reduceSub, Nat.reduceLeDiff, Nat.reduceLT, Nat.reduceGT, Nat.reduceEqDiff, Nat.reduceBEq, Int.reduceNeg, Int.reduceEq, Int.reduceLT, Int.reduceLE, Int.reduceBEq, Int.reduceToNat, Int.toNat_natCast, Int.natCast_zero, r63_T, r63, q1, w64, c1, c3]
      rw [r63_B0_n]
      erw [this.1]
      exact this.2
end Go.Pe.T

namespace Go.Pe.T

theorem lives4_ev : evF tab 200 23 [] [] = some (.ret (.d (.bool true)) []) := by kernel_rfl
theorem lives4_ok (hp : List Ent) : F tab 23 [] hp = some (.ret (.d (.bool true)) hp) :=
  F_some.2 ⟨200, ((evF_nice (pf := pf) (tabOf_pf tl pl _) 200).2 23 rfl _ _ _ _ lives4_ev).2 hp⟩

theorem made_yes {c : Int} {k : Nat} (h : makeOk c k = true) : madeT c k = .tup [.d (.agg [iv (stripN c k).1, iv (stripN c k).2]), .d (iv 0)] := by
  unfold madeT; rw [h]; rfl
theorem made_no {c : Int} {k : Nat} (h : makeOk c k = false) : madeT c k = .tup [.d (.agg [iv 0, iv 0]), .d (iv 8)] := by
  unfold madeT; rw [h]; rfl

theorem add_ok (c c' : Int) (k k' : Nat) (h : numIs c k = true) (h' : numIs c' k' = true) (hp : List Ent) :
    F tab 35 [.d (numD c k), .d (numD c' k')] hp = some (.ret (madeT (flatN c k + flatN c' k') 9) hp) := by
  obtain ⟨k1, e1, hk, hc⟩ := numIs_inv h
  obtain ⟨k2, e2, hk', hc'⟩ := numIs_inv h'
  obtain rfl : k = k1 := by omega
  obtain rfl : k' = k2 := by omega
  have h1 := both_ok c k c' k'
  rw [h, h'] at h1
  have h2 := cut_ok c k hk hc
  have h3 := cut_ok c' k' hk' hc'
  obtain ⟨b1, b2, b3, b4, b5, _⟩ := cut_bounds hk hc
  obtain ⟨d1, d2, d3, d4, d5, _⟩ := cut_bounds hk' hc'
  have hj := join_ok (cutU c k + cutU c' k') (cutV c k + cutV c' k') (by omega) (by omega)
  have eT : (cutU c k + cutU c' k') * 1000000000 + (cutV c k + cutV c' k') = flatN c k + flatN c' k' := by unfold flatN; omega
  rw [eT] at hj
  refine f35 rfl ?_
  rcases Bool.eq_false_or_eq_true (makeOk (flatN c k + flatN c' k') 9) with g | g
  · rw [made_yes g] at hj ⊢
    simp (disch := omega) only [go_sem, and_self, and_true, true_and, false_and, and_false, Nat.reduceAdd, Nat.reduceMul, Nat.reduceSub, Nat.reduceLeDiff, Nat.reduceLT, Nat.reduceGT, Nat.reduceEqDiff, Nat.reduceBEq, Int.reduceNeg, Int.reduceEq, Int.reduceLT, Int.reduceLE, Int.reduceBEq, Int.reduceToNat, Int.toNat_natCast, Int.natCast_zero, r35_T, r35, h1, h2, h3, hj, w64]
  · rw [made_no g] at hj ⊢
    simp (disch := omega) only [go_sem, and_self, and_true, true_and, false_and, and_false, Nat.reduceAdd, Nat.reduceMul, Nat.reduceSub, Nat.reduceLeDiff, Nat.reduceLT, Nat.reduceGT, Nat.reduceEqDiff, Nat.reduceBEq, Int.reduceNeg, Int.reduceEq, Int.reduceLT, Int.reduceLE, Int.reduceBEq, Int.reduceToNat, Int.toNat_natCast, Int.natCast_zero, r35_T, r35, h1, h2, h3, hj, w64]

theorem numIs_neg (c k : Int) : numIs (0 - c) k = numIs c k := by
  have e : (0 - c).tmod 10 = -(c.tmod 10) := by rw [Int.zero_sub, Int.neg_tmod]
  have e2 : ((0 - c).tmod 10 != 0) = (c.tmod 10 != 0) := by
    rw [e, Bool.eq_iff_iff]
    simp only [bne_iff_ne]
    omega
  have e3 : decide (-1000000000000000 < 0 - c) = decide (c < 1000000000000000) := by by_cases h : c < 1000000000000000 <;> simp [h] <;> omega
  have e4 : decide (0 - c < 1000000000000000) = decide (-1000000000000000 < c) := by by_cases h : -1000000000000000 < c <;> simp [h] <;> omega
  unfold numIs
  rw [e2, e3, e4]
  cases decide (0 ≤ k) <;> cases decide (k ≤ 9) <;> cases decide (c < 1000000000000000) <;> cases decide (-1000000000000000 < c) <;> rfl

theorem flat_neg (c : Int) (k : Nat) : flatN (0 - c) k = -flatN c k := by unfold flatN; rw [Int.zero_sub, Int.neg_mul]

theorem sub_ok (c c' : Int) (k k' : Nat) (h : numIs c k = true) (h' : numIs c' k' = true) (hp : List Ent) :
    F tab 34 [.d (numD c k), .d (numD c' k')] hp = some (.ret (madeT (flatN c k - flatN c' k') 9) hp) := by
  have h1 := both_ok c k c' k'
  rw [h, h'] at h1
  obtain ⟨k2, e2, hk', hc'⟩ := numIs_inv h'
  have hj := add_ok c (0 - c') k k' h (by rw [numIs_neg]; exact h')
  rw [flat_neg, show flatN c k + -flatN c' k' = flatN c k - flatN c' k' by omega] at hj
  refine f34 rfl ?_
  rcases Bool.eq_false_or_eq_true (makeOk (flatN c k - flatN c' k') 9) with g | g
  · rw [made_yes g] at hj ⊢
    simp (disch := omega) only [go_sem, and_self, and_true, true_and, false_and, and_false, Nat.reduceAdd, Nat.reduceMul, Nat.reduceSub, Nat.reduceLeDiff, Nat.reduceLT, Nat.reduceGT, Nat.reduceEqDiff, Nat.reduceBEq, Int.reduceNeg, Int.reduceEq, Int.reduceLT, Int.reduceLE, Int.reduceBEq, Int.reduceToNat, Int.toNat_natCast, Int.natCast_zero, r34_T, r34, h1, hj, w64]
  · rw [made_no g] at hj ⊢
    simp (disch := omega) only [go_sem, and_self, and_true, true_and, false_and, and_false, Nat.reduceAdd, Nat.reduceMul, Nat.reduceSub, Nat.reduceLeDiff, Nat.reduceLT, Nat.reduceGT, Nat.reduceEqDiff, Nat.reduceBEq, Int.reduceNeg, Int.reduceEq, Int.reduceLT, Int.reduceLE, Int.reduceBEq, Int.reduceToNat, Int.toNat_natCast, Int.natCast_zero, r34_T, r34, h1, hj, w64]

theorem sgn_zero {a b : Int} : sgn a b = 0 ↔ a = b := by
  unfold sgn; split
  · omega
  · split <;> omega
theorem sgn_le {a b : Int} : sgn a b ≤ 0 ↔ a ≤ b := by
  unfold sgn; split
  · omega
  · split <;> omega
theorem sgn_lt {a b : Int} : sgn a b < 0 ↔ a < b := by
  unfold sgn; split
  · omega
  · split <;> omega
theorem sgn_sub (a b : Int) : sgn (a - b) 0 = sgn a b := by
  unfold sgn; split <;> split <;> (try split) <;> (try split) <;> omega
end Go.Pe.T

namespace Go.Pe.T

theorem num_eqB {c c' : Int} {k k' : Nat} (h : numIs c k = true) (h' : numIs c' k' = true) : (sgn (flatN c k) (flatN c' k') == 0) = (c == c' && (k : Int) == (k' : Int)) := by
  by_cases e : flatN c k = flatN c' k'
  · obtain ⟨rfl, rfl⟩ := num_inj h h' e
    have : sgn (flatN c k) (flatN c k) = 0 := sgn_zero.2 rfl
    simp [this]
  · have h1 : ¬ sgn (flatN c k) (flatN c' k') = 0 := fun g => e (sgn_zero.1 g)
    have h2 : (c == c' && (k : Int) == (k' : Int)) = false := by
      by_cases e1 : c = c'
      · by_cases e2 : k = k'
        · subst e1; subst e2; exact absurd rfl e
        · have : ((k : Int) == (k' : Int)) = false := by simp; omega
          simp [this]
      · simp [e1]
    rw [h2]
    simpa using h1

set_option maxHeartbeats 2000000 in
theorem orders_core (a b c : Int) (k l m : Nat) (ha : numIs a k = true) (hb : numIs b l = true) (hc : numIs c m = true) (hp : List Ent) :
    F tab 7 [.d (numD a k), .d (numD b l), .d (numD c m)] hp = some (.ret (.d (.bool true)) hp) := by
  have i1 := numIs_ok a k
  have i2 := numIs_ok b l
  have i3 := numIs_ok c m
  rw [ha] at i1; rw [hb] at i2; rw [hc] at i3
  have c1 := numcmp_ok a b k l ha hb
  have c2 := numcmp_ok b c l m hb hc
  have c3 := numcmp_ok a c k m ha hc
  have hs := sub_ok a b k l ha hb
  have hL := lives4_ok
  have he := eqD_num a k b l
  have heq := num_eqB ha hb
  have x1 := @sgn_le (flatN a k) (flatN b l)
  have x2 := @sgn_lt (flatN a k) (flatN b l)
  have y1 := @sgn_le (flatN b l) (flatN c m)
  have z1 := @sgn_le (flatN a k) (flatN c m)
  have z2 := @sgn_lt (flatN a k) (flatN c m)
  have hm : makeOk (flatN a k - flatN b l) 9 = true → ∀ hp, F tab 33 [.d (.agg [iv (stripN (flatN a k - flatN b l) 9).1, iv (stripN (flatN a k - flatN b l) 9).2]), .d (.agg [iv 0, iv 0])] hp = some (.ret (.d (iv (sgn (flatN a k) (flatN b l)))) hp) := by
    intro g hp
    have h0 : numIs 0 ((0 : Nat) : Int) = true := by decide
    have := numcmp_ok _ 0 _ 0 g h0 hp
    rw [make_flat (Nat.le_refl 9)] at this
    have e0 : flatN (flatN a k - flatN b l) 9 = flatN a k - flatN b l := by simp [flatN]
    have e1 : flatN 0 0 = 0 := by simp [flatN]
    rw [e0, e1, sgn_sub] at this
    exact this
  generalize sgn (flatN a k) (flatN b l) = x at *
  generalize sgn (flatN b l) (flatN c m) = y at *
  generalize sgn (flatN a k) (flatN c m) = z at *
  have n0 : ((0 : Int) != 0) = false := rfl
  have n8 : ((8 : Int) != 0) = true := rfl
  have q0 : ∀ u : Bool, (u == u) = true := fun u => by simp
  have q1 : ∀ u : Int, (u == u) = true := fun u => by simp
  have fin : makeOk (flatN a k - flatN b l) 9 = true ∨ makeOk (flatN a k - flatN b l) 9 = false := by cases makeOk (flatN a k - flatN b l) 9 <;> simp
  refine f7 rfl ?_
  by_cases g1 : x ≤ 0
  · by_cases g2 : y ≤ 0
    · have g3 : ¬ z > 0 := by omega
      by_cases g4 : x < 0
      · have g5 : ¬ z ≥ 0 := by omega
        rcases fin with g | g
        · rw [made_yes g] at hs
          have hm := hm g
          simp (disch := omega) only [go_sem, and_self, and_true, true_and, false_and, and_false, Nat.reduceAdd, Nat.reduceMul, Nat.reduceSub, Nat.reduceLeDiff, Nat.reduceLT, Nat.reduceGT, Nat.reduceEqDiff, Nat.reduceBEq, Int.reduceNeg, Int.reduceEq, Int.reduceLT, Int.reduceLE, Int.reduceBEq, Int.reduceToNat, Int.toNat_natCast, Int.natCast_zero, r7_T, r7, i1, i2, i3, c1, c2, c3, hs, hm, hL, he, heq, n0, n8, q0, q1, g1, g2, g3, g4, g5]
        · rw [made_no g] at hs
          simp (disch := omega) only [go_sem, and_self, and_true, true_and, false_and, and_false, Nat.reduceAdd, Nat.reduceMul, Nat.reduceSub, Nat.reduceLeDiff, Nat.reduceLT, Nat.reduceGT, Nat.reduceEqDiff, Nat.reduceBEq, Int.reduceNeg, Int.reduceEq, Int.reduceLT, Int.reduceLE, Int.reduceBEq, Int.reduceToNat, Int.toNat_natCast, Int.natCast_zero, r7_T, r7, i1, i2, i3, c1, c2, c3, hs, hL, he, heq, n0, n8, q0, q1, g1, g2, g3, g4, g5]
      · rcases fin with g | g
        · rw [made_yes g] at hs
          have hm := hm g
          simp (disch := omega) only [go_sem, and_self, and_true, true_and, false_and, and_false, Nat.reduceAdd, Nat.reduceMul, Nat.reduceSub, Nat.reduceLeDiff, Nat.reduceLT, Nat.reduceGT, Nat.reduceEqDiff, Nat.reduceBEq, Int.reduceNeg, Int.reduceEq, Int.reduceLT, Int.reduceLE, Int.reduceBEq, Int.reduceToNat, Int.toNat_natCast, Int.natCast_zero, r7_T, r7, i1, i2, i3, c1, c2, c3, hs, hm, hL, he, heq, n0, n8, q0, q1, g1, g2, g3, g4]
        · rw [made_no g] at hs
          simp (disch := omega) only [go_sem, and_self, and_true, true_and, false_and, and_false, Nat.reduceAdd, Nat.reduceMul, Nat.reduceSub, Nat.reduceLeDiff, Nat.reduceLT, Nat.reduceGT, Nat.reduceEqDiff, Nat.reduceBEq, Int.reduceNeg, Int.reduceEq, Int.reduceLT, Int.reduceLE, Int.reduceBEq, Int.reduceToNat, Int.toNat_natCast, Int.natCast_zero, r7_T, r7, i1, i2, i3, c1, c2, c3, hs, hL, he, heq, n0, n8, q0, q1, g1, g2, g3, g4]
    · rcases fin with g | g
      · rw [made_yes g] at hs
        have hm := hm g
        by_cases g4 : x < 0 <;> simp (disch := omega) only [go_sem, and_self, and_true, true_and, false_and, and_false, Nat.reduceAdd, Nat.reduceMul, Nat.reduceSub, Nat.reduceLeDiff, Nat.reduceLT, Nat.reduceGT, Nat.reduceEqDiff, Nat.reduceBEq, Int.reduceNeg, Int.reduceEq, Int.reduceLT, Int.reduceLE, Int.reduceBEq, Int.reduceToNat, Int.toNat_natCast, Int.natCast_zero, r7_T, r7, i1, i2, i3, c1, c2, c3, hs, hm, hL, he, heq, n0, n8, q0, q1, g1, g2, g4]
      · rw [made_no g] at hs
        by_cases g4 : x < 0 <;> simp (disch := omega) only [go_sem, and_self, and_true, true_and, false_and, and_false, Nat.reduceAdd, Nat.reduceMul, Nat.reduceSub, Nat.reduceLeDiff, Nat.reduceLT, Nat.reduceGT, Nat.reduceEqDiff, Nat.reduceBEq, Int.reduceNeg, Int.reduceEq, Int.reduceLT, Int.reduceLE, Int.reduceBEq, Int.reduceToNat, Int.toNat_natCast, Int.natCast_zero, r7_T, r7, i1, i2, i3, c1, c2, c3, hs, hL, he, heq, n0, n8, q0, q1, g1, g2, g4]
  · have g4 : ¬ x < 0 := by omega
    rcases fin with g | g
    · rw [made_yes g] at hs
      have hm := hm g
      simp (disch := omega) only [go_sem, and_self, and_true, true_and, false_and, and_false, Nat.reduceAdd, Nat.reduceMul, Nat.reduceSub, Nat.reduceLeDiff, Nat.reduceLT, Nat.reduceGT, Nat.reduceEqDiff, Nat.reduceBEq, Int.reduceNeg, Int.reduceEq, Int.reduceLT, Int.reduceLE, Int.reduceBEq, Int.reduceToNat, Int.toNat_natCast, Int.natCast_zero, r7_T, r7, i1, i2, i3, c1, c2, c3, hs, hm, hL, he, heq, n0, n8, q0, q1, g1, g4]
    · rw [made_no g] at hs
      simp (disch := omega) only [go_sem, and_self, and_true, true_and, false_and, and_false, Nat.reduceAdd, Nat.reduceMul, Nat.reduceSub, Nat.reduceLeDiff, Nat.reduceLT, Nat.reduceGT, Nat.reduceEqDiff, Nat.reduceBEq, Int.reduceNeg, Int.reduceEq, Int.reduceLT, Int.reduceLE, Int.reduceBEq, Int.reduceToNat, Int.toNat_natCast, Int.natCast_zero, r7_T, r7, i1, i2, i3, c1, c2, c3, hs, hL, he, heq, n0, n8, q0, q1, g1, g4]

theorem NumOrders_ok (a k b l c m : Int) (oa : i64 a ∧ i64 k) (ob : i64 b ∧ i64 l) (oc : i64 c ∧ i64 m) (hp : List Ent) : F tab 7 [.d (numD a k), .d (numD b l), .d (numD c m)] hp = some (.ret (.d (.bool true)) hp) := by
  have i1 := numIs_ok a k
  have i2 := numIs_ok b l
  have i3 := numIs_ok c m
  have hL := lives4_ok
  rcases Bool.eq_false_or_eq_true (numIs a k) with ha | ha
  · rcases Bool.eq_false_or_eq_true (numIs b l) with hb | hb
    · rcases Bool.eq_false_or_eq_true (numIs c m) with hc | hc
      · obtain ⟨k', rfl, _, _⟩ := numIs_inv ha
        obtain ⟨l', rfl, _, _⟩ := numIs_inv hb
        obtain ⟨m', rfl, _, _⟩ := numIs_inv hc
        exact orders_core a b c k' l' m' ha hb hc hp
      · rw [ha] at i1; rw [hb] at i2; rw [hc] at i3
        refine f7 rfl ?_
        simp (disch := omega) only [go_sem, and_self, and_true, true_and, false_and, and_false, Nat.reduceAdd, Nat.reduceMul, Nat.reduceSub, Nat.reduceLeDiff, Nat.reduceLT, Nat.reduceGT, Nat.reduceEqDiff, Nat.reduceBEq, Int.reduceNeg, Int.reduceEq, Int.reduceLT, Int.reduceLE, Int.reduceBEq, Int.reduceToNat, Int.toNat_natCast, Int.natCast_zero, r7_T, r7, i1, i2, i3, hL]
    · rw [ha] at i1; rw [hb] at i2
      refine f7 rfl ?_
      simp (disch := omega) only [go_sem, and_self, and_true, true_and, false_and, and_false, Nat.reduceAdd, Nat.reduceMul, Nat.reduceSub, Nat.reduceLeDiff, Nat.reduceLT, Nat.reduceGT, Nat.reduceEqDiff, Nat.reduceBEq, Int.reduceNeg, Int.reduceEq, Int.reduceLT, Int.reduceLE, Int.reduceBEq, Int.reduceToNat, Int.toNat_natCast, Int.natCast_zero, r7_T, r7, i1, i2, hL]
  · rw [ha] at i1
    refine f7 rfl ?_
    simp (disch := omega) only [go_sem, and_self, and_true, true_and, false_and, and_false, Nat.reduceAdd, Nat.reduceMul, Nat.reduceSub, Nat.reduceLeDiff, Nat.reduceLT, Nat.reduceGT, Nat.reduceEqDiff, Nat.reduceBEq, Int.reduceNeg, Int.reduceEq, Int.reduceLT, Int.reduceLE, Int.reduceBEq, Int.reduceToNat, Int.toNat_natCast, Int.natCast_zero, r7_T, r7, i1, hL]
end Go.Pe.T
