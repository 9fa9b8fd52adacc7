/- A part of the proof of: The law NumWhole holds: of any two whole numbers below ten million Add, Sub, Mul, Mod and Int tell what ints do, and Div does where nothing is left, so the law returns true and leaves its arguments as they were; the condition is that the two listed tables of the library lie as the program's text lays them, which the card ties. -/
import Derived.Test.YtjfdbgoajjhafaaDoorNw1
import Derived.Test.YtjfdbgoajjhafaaDoorPe2
import Derived.KernelRfl
set_option linter.unusedSimpArgs false
set_option linter.unusedVariables false
set_option maxRecDepth 10000

namespace Go.Pe.T
/-- -1, 0, 1 -/
def sgn (a b : Int) : Int := if a < b then -1 else if a > b then 1 else 0

theorem numorder_ok (a b : Int) (hp : List Ent) : F tab 62 [.d (iv a), .d (iv b)] hp = some (.ret (.d (iv (sgn a b))) hp) := by
  refine f62 rfl ?_
  by_cases ha : a < b
  · simp only [go_sem, and_self, and_true, true_and, false_and, and_false, Nat.reduceAdd, Nat.reduceMul, Nat.reduceSub, Nat.reduceLeDiff, Nat.reduceLT, Nat.reduceGT, Nat.reduceEqDiff, Nat.reduceBEq, Int.reduceNeg, Int.reduceEq, Int.reduceLT, Int.reduceLE, Int.reduceBEq, Int.reduceToNat, Int.toNat_natCast, Int.natCast_zero, r62_T, r62, ha, sgn]
  · by_cases hb : a > b
    · simp only [go_sem, and_self, and_true, true_and, false_and, and_false, Nat.reduceAdd, Nat.reduceMul, Nat.reduceSub, Nat.reduceLeDiff, Nat.reduceLT, Nat.reduceGT, Nat.reduceEqDiff, Nat.reduceBEq, Int.reduceNeg, Int.reduceEq, Int.reduceLT, Int.reduceLE, Int.reduceBEq, Int.reduceToNat, Int.toNat_natCast, Int.natCast_zero, r62_T, r62, ha, hb, sgn]
    · simp only [go_sem, and_self, and_true, true_and, false_and, and_false, Nat.reduceAdd, Nat.reduceMul, Nat.reduceSub, Nat.reduceLeDiff, Nat.reduceLT, Nat.reduceGT, Nat.reduceEqDiff, Nat.reduceBEq, Int.reduceNeg, Int.reduceEq, Int.reduceLT, Int.reduceLE, Int.reduceBEq, Int.reduceToNat, Int.toNat_natCast, Int.natCast_zero, r62_T, r62, ha, hb, sgn]

abbrev numD (c s : Int) : D := .agg [iv c, iv s]

def numIs (c s : Int) : Bool := decide (0 ≤ s) && decide (s ≤ 9) && decide (-1000000000000000 < c) && decide (c < 1000000000000000) && (s == 0 || c.tmod 10 != 0)

theorem numIs_ok (c s : Int) (hp : List Ent) : F tab 19 [.d (numD c s)] hp = some (.ret (.d (.bool (numIs c s))) hp) := by
  refine f19 rfl ?_
  by_cases h1 : s < 0
  · have g1 : ¬ (0 ≤ s) := by omega
    simp only [go_sem, and_self, and_true, true_and, false_and, and_false, Nat.reduceAdd, Nat.reduceMul, Nat.reduceSub, Nat.reduceLeDiff, Nat.reduceLT, Nat.reduceGT, Nat.reduceEqDiff, Nat.reduceBEq, Int.reduceNeg, Int.reduceEq, Int.reduceLT, Int.reduceLE, Int.reduceBEq, Int.reduceToNat, Int.toNat_natCast, Int.natCast_zero, r19_T, r19, numIs, h1, g1]
  · have g1 : 0 ≤ s := by omega
    by_cases h2 : s > 9
    · have g2 : ¬ (s ≤ 9) := by omega
      simp only [go_sem, and_self, and_true, true_and, false_and, and_false, Nat.reduceAdd, Nat.reduceMul, Nat.reduceSub, Nat.reduceLeDiff, Nat.reduceLT, Nat.reduceGT, Nat.reduceEqDiff, Nat.reduceBEq, Int.reduceNeg, Int.reduceEq, Int.reduceLT, Int.reduceLE, Int.reduceBEq, Int.reduceToNat, Int.toNat_natCast, Int.natCast_zero, r19_T, r19, numIs, h1, g1, h2, g2]
    · have g2 : s ≤ 9 := by omega
      by_cases h3 : c ≤ -1000000000000000
      · have g3 : ¬ (-1000000000000000 < c) := by omega
        simp only [go_sem, and_self, and_true, true_and, false_and, and_false, Nat.reduceAdd, Nat.reduceMul, Nat.reduceSub, Nat.reduceLeDiff, Nat.reduceLT, Nat.reduceGT, Nat.reduceEqDiff, Nat.reduceBEq, Int.reduceNeg, Int.reduceEq, Int.reduceLT, Int.reduceLE, Int.reduceBEq, Int.reduceToNat, Int.toNat_natCast, Int.natCast_zero, r19_T, r19, numIs, h1, g1, h2, g2, h3, g3]
      · have g3 : -1000000000000000 < c := by omega
        by_cases h4 : c ≥ 1000000000000000
        · have g4 : ¬ (c < 1000000000000000) := by omega
          simp only [go_sem, and_self, and_true, true_and, false_and, and_false, Nat.reduceAdd, Nat.reduceMul, Nat.reduceSub, Nat.reduceLeDiff, Nat.reduceLT, Nat.reduceGT, Nat.reduceEqDiff, Nat.reduceBEq, Int.reduceNeg, Int.reduceEq, Int.reduceLT, Int.reduceLE, Int.reduceBEq, Int.reduceToNat, Int.toNat_natCast, Int.natCast_zero, r19_T, r19, numIs, h1, g1, h2, g2, h3, g3, h4, g4]
        · have g4 : c < 1000000000000000 := by omega
          by_cases h5 : s = 0
          · subst h5
            simp only [go_sem, and_self, and_true, true_and, false_and, and_false, Nat.reduceAdd, Nat.reduceMul, Nat.reduceSub, Nat.reduceLeDiff, Nat.reduceLT, Nat.reduceGT, Nat.reduceEqDiff, Nat.reduceBEq, Int.reduceNeg, Int.reduceEq, Int.reduceLT, Int.reduceLE, Int.reduceBEq, Int.reduceToNat, Int.toNat_natCast, Int.natCast_zero, r19_T, r19, numIs, h1, g1, h2, g2, h3, g3, h4, g4, Bool.true_or]
          · have g5 : (s == 0) = false := by simpa using h5
            simp only [go_sem, and_self, and_true, true_and, false_and, and_false, Nat.reduceAdd, Nat.reduceMul, Nat.reduceSub, Nat.reduceLeDiff, Nat.reduceLT, Nat.reduceGT, Nat.reduceEqDiff, Nat.reduceBEq, Int.reduceNeg, Int.reduceEq, Int.reduceLT, Int.reduceLE, Int.reduceBEq, Int.reduceToNat, Int.toNat_natCast, Int.natCast_zero, r19_T, r19, numIs, h1, g1, h2, g2, h3, g3, h4, g4, g5, Bool.false_or]

theorem both_ok (c s c' s' : Int) (hp : List Ent) : F tab 51 [.d (numD c s), .d (numD c' s')] hp = some (.ret (.d (.bool (numIs c s && numIs c' s'))) hp) := by
  refine f51 rfl ?_
  have h1 := numIs_ok c s
  have h2 := numIs_ok c' s'
  rcases Bool.eq_false_or_eq_true (numIs c s) with h | h
  · simp only [go_sem, and_self, and_true, true_and, false_and, and_false, Nat.reduceAdd, Nat.reduceMul, Nat.reduceSub, Nat.reduceLeDiff, Nat.reduceLT, Nat.reduceGT, Nat.reduceEqDiff, Nat.reduceBEq, Int.reduceNeg, Int.reduceEq, Int.reduceLT, Int.reduceLE, Int.reduceBEq, Int.reduceToNat, Int.toNat_natCast, Int.natCast_zero, r51_T, r51, h1, h2, h]
  · simp only [go_sem, and_self, and_true, true_and, false_and, and_false, Nat.reduceAdd, Nat.reduceMul, Nat.reduceSub, Nat.reduceLeDiff, Nat.reduceLT, Nat.reduceGT, Nat.reduceEqDiff, Nat.reduceBEq, Int.reduceNeg, Int.reduceEq, Int.reduceLT, Int.reduceLE, Int.reduceBEq, Int.reduceToNat, Int.toNat_natCast, Int.natCast_zero, r51_T, r51, h1, h2, h]

/-! ### powers of ten; numbers cut; which is greater -/

theorem p10_pos (n : Nat) : 0 < (10 : Int) ^ n := Int.pow_pos (by omega)
theorem p10_mono {a b : Nat} (h : a ≤ b) : (10 : Int) ^ a ≤ 10 ^ b := by
  have h1 : (10 : Nat) ^ a ≤ 10 ^ b := Nat.pow_le_pow_right (by omega) h
  have h2 : ((10 ^ a : Nat) : Int) ≤ ((10 ^ b : Nat) : Int) := by exact_mod_cast h1
  simpa using h2

theorem pow_loop (n : Nat) (hn : n ≤ 18) : ∀ (j i : Nat), i + j = n →
    V (F tab) r45_B0 (r45_S0 (.d (iv (10 ^ i))) (.d (iv n)) (.d (iv i)) []) = some (.norm, r45_E0 (.d (iv (10 ^ n))) [])
  | 0, i, hi => by
    obtain rfl : i = n := by omega
    rw [r45_B0_eq]
    have h1 : ((i : Int) < (i : Int)) = False := by simp
    simp only [go_sem, and_self, and_true, true_and, false_and, and_false, Nat.reduceAdd, Nat.reduceMul, Nat.reduceSub, Nat.reduceLeDiff, Nat.reduceLT, Nat.reduceGT, Nat.reduceEqDiff, Nat.reduceBEq, Int.reduceNeg, Int.reduceEq, Int.reduceLT, Int.reduceLE, Int.reduceBEq, Int.reduceToNat, Int.toNat_natCast, Int.natCast_zero, r45_C0, h1]
  | j + 1, i, hi => by
    have h1 : ((i : Int) < (n : Int)) = True := by simp; omega
    have h3 := p10_mono (show i + 1 ≤ 18 by omega)
    have h4 := p10_pos (i + 1)
    have e : (10 : Int) ^ (i + 1) = 10 ^ i * 10 := Int.pow_succ 10 i
    have e18 : (10 : Int) ^ 18 = 1000000000000000000 := by decide
    have ih := pow_loop n hn j (i + 1) (by omega)
    rw [r45_B0_eq]
    simp (disch := omega) only [go_sem, and_self, and_true, true_and, false_and, and_false, Nat.reduceAdd, Nat.reduceMul, Nat.reduceSub, Nat.reduceLeDiff, Nat.reduceLT, Nat.reduceGT, Nat.reduceEqDiff, Nat.reduceBEq, Int.reduceNeg, Int.reduceEq, Int.reduceLT, Int.reduceLE, Int.reduceBEq, Int.reduceToNat, Int.toNat_natCast, Int.natCast_zero, r45_C0, h1, w64]
    rw [e] at ih
    exact ih

theorem pow_ok (n : Nat) (hn : n ≤ 18) (hp : List Ent) : F tab 45 [.d (iv n)] hp = some (.ret (.d (iv (10 ^ n))) hp) := by
  refine f45 rfl ?_
  have hL := pow_loop n hn n 0 (by omega)
  simp (disch := omega) only [go_sem, and_self, and_true, true_and, false_and, and_false, Nat.reduceAdd, Nat.reduceMul, Nat.reduceSub, Nat.reduceLeDiff, Nat.reduceLT, Nat.reduceGT, Nat.reduceEqDiff, Nat.reduceBEq, Int.reduceNeg, Int.reduceEq, Int.reduceLT, Int.reduceLE, Int.reduceBEq, Int.reduceToNat, Int.toNat_natCast, Int.natCast_zero, r45_T, r45]
  rw [r45_B0_n]
  erw [hL]
  simp only [go_sem, and_self, and_true, true_and, false_and, and_false, Nat.reduceAdd, Nat.reduceMul, Nat.reduceSub, Nat.reduceLeDiff, Nat.reduceLT, Nat.reduceGT, Nat.reduceEqDiff, Nat.reduceBEq, Int.reduceNeg, Int.reduceEq, Int.reduceLT, Int.reduceLE, Int.reduceBEq, Int.reduceToNat, Int.toNat_natCast, Int.natCast_zero]

/-- the whole part, and billionths -/
def cutU (c : Int) (k : Nat) : Int := c.tdiv (10 ^ k)
def cutV (c : Int) (k : Nat) : Int := c.tmod (10 ^ k) * 10 ^ (9 - k)

theorem cut_bounds {c : Int} {k : Nat} (hk : k ≤ 9) (hc : -1000000000000000 < c ∧ c < 1000000000000000) :
    cutU c k * 1000000000 + cutV c k = c * 10 ^ (9 - k) ∧ -1000000000000000 < cutU c k ∧ cutU c k < 1000000000000000 ∧ -1000000000 < cutV c k ∧ cutV c k < 1000000000 ∧ (0 ≤ c → 0 ≤ cutU c k ∧ 0 ≤ cutV c k) ∧ (c ≤ 0 → cutU c k ≤ 0 ∧ cutV c k ≤ 0) ∧ -10 ^ k < c.tmod (10 ^ k) ∧ c.tmod (10 ^ k) < 10 ^ k := by
  have hp := p10_pos k
  have hq := p10_pos (9 - k)
  have hpq : (10 : Int) ^ k * 10 ^ (9 - k) = 1000000000 := by
    rw [← Int.pow_add, show k + (9 - k) = 9 by omega]; decide
  have hdm := Int.mul_tdiv_add_tmod c (10 ^ k)
  generalize hP : (10 : Int) ^ k = p at *
  generalize hQ : (10 : Int) ^ (9 - k) = q at *
  have hm1 : c.tmod p < p := Int.tmod_lt_of_pos c hp
  have hm2 : -p < c.tmod p := by
    have := Int.lt_tmod_of_pos c hp
    omega
  have hu : cutU c k = c.tdiv p := by unfold cutU; rw [hP]
  have hv : cutV c k = c.tmod p * q := by unfold cutV; rw [hP, hQ]
  rw [hu, hv]
  have hnat : (c.tdiv p).natAbs ≤ c.natAbs := Int.natAbs_tdiv_le_natAbs c p
  refine ⟨?_, by omega, by omega, ?_, ?_, ?_, ?_, hm2, hm1⟩
  · rw [← hpq]
    calc c.tdiv p * (p * q) + c.tmod p * q = (p * c.tdiv p + c.tmod p) * q := by rw [Int.add_mul]; congr 1; rw [Int.mul_comm p (c.tdiv p), Int.mul_assoc]
      _ = c * q := by rw [hdm]
  · have : -p * q < c.tmod p * q := Int.mul_lt_mul_of_pos_right hm2 hq
    rw [Int.neg_mul, hpq] at this
    exact this
  · have : c.tmod p * q < p * q := Int.mul_lt_mul_of_pos_right hm1 hq
    rw [hpq] at this
    exact this
  · intro h0
    exact ⟨Int.tdiv_nonneg h0 (by omega), Int.mul_nonneg (Int.tmod_nonneg p h0) (by omega)⟩
  · intro h0
    have h1 : c.tdiv p ≤ 0 := by
      have := Int.tdiv_nonneg (show 0 ≤ -c by omega) (show 0 ≤ p by omega)
      rw [Int.neg_tdiv] at this
      omega
    have h2 : c.tmod p ≤ 0 := by
      have := Int.tmod_nonneg p (show 0 ≤ -c by omega)
      rw [Int.neg_tmod] at this
      omega
    exact ⟨h1, Int.mul_nonpos_of_nonpos_of_nonneg h2 (by omega)⟩

theorem cut_ok (c : Int) (k : Nat) (hk : k ≤ 9) (hc : -1000000000000000 < c ∧ c < 1000000000000000) (hp : List Ent) :
    F tab 60 [.d (numD c k)] hp = some (.ret (.tup [.d (iv (cutU c k)), .d (iv (cutV c k))]) hp) := by
  refine f60 rfl ?_
  have h1 := pow_ok k (by omega)
  have h2 := pow_ok (9 - k) (by omega)
  have e : ((9 - k : Nat) : Int) = 9 - (k : Int) := by omega
  rw [e] at h2
  have hne : ((10 : Int) ^ k = 0) = False := by have := p10_pos k; simp; omega
  obtain ⟨b1, b2, b3, b4, b5, _⟩ := cut_bounds hk hc
  have w1 : IntKind.i64.wrap (c.tdiv (10 ^ k)) = cutU c k := by rw [← cutU, w64 (by omega)]
  have w2 : IntKind.i64.wrap (c.tmod (10 ^ k) * 10 ^ (9 - k)) = cutV c k := by rw [← cutV, w64 (by omega)]
  simp (disch := omega) only [go_sem, and_self, and_true, true_and, false_and, and_false, Nat.reduceAdd, Nat.reduceMul, Nat.reduceSub, Nat.reduceLeDiff, Nat.reduceLT, Nat.reduceGT, Nat.reduceEqDiff, Nat.reduceBEq, Int.reduceNeg, Int.reduceEq, Int.reduceLT, Int.reduceLE, Int.reduceBEq, Int.reduceToNat, Int.toNat_natCast, Int.natCast_zero, r60_T, r60, w64, h1, h2, hne, w1, w2]

/-- numbers at one scale -/
def flatN (c : Int) (k : Nat) : Int := c * 10 ^ (9 - k)

theorem cmp_math {c c' : Int} {k k' : Nat} (hk : k ≤ 9) (hk' : k' ≤ 9) (hc : -1000000000000000 < c ∧ c < 1000000000000000) (hc' : -1000000000000000 < c' ∧ c' < 1000000000000000) :
    (if cutU c k ≠ cutU c' k' then sgn (cutU c k) (cutU c' k') else sgn (cutV c k) (cutV c' k')) = sgn (flatN c k) (flatN c' k') := by
  obtain ⟨b1, b2, b3, b4, b5, b6, b7, _⟩ := cut_bounds hk hc
  obtain ⟨d1, d2, d3, d4, d5, d6, d7, _⟩ := cut_bounds hk' hc'
  unfold flatN
  rw [← b1, ← d1]
  unfold sgn
  split
  · rename_i hne
    by_cases h0 : 0 ≤ c
    · have := b6 h0
      by_cases h1 : 0 ≤ c'
      · have := d6 h1
        split <;> split <;> (try split) <;> omega
      · have := d7 (by omega)
        split <;> split <;> (try split) <;> omega
    · have := b7 (by omega)
      by_cases h1 : 0 ≤ c'
      · have := d6 h1
        split <;> split <;> (try split) <;> omega
      · have := d7 (by omega)
        split <;> split <;> (try split) <;> omega
  · rename_i hne
    have : cutU c k = cutU c' k' := by simpa using hne
    rw [this]
    split <;> split <;> (try split) <;> omega

theorem numIs_inv {c s : Int} (h : numIs c s = true) : ∃ k : Nat, s = k ∧ k ≤ 9 ∧ (-1000000000000000 < c ∧ c < 1000000000000000) := by
  simp only [numIs, Bool.and_eq_true, decide_eq_true_eq] at h
  exact ⟨s.toNat, by omega, by omega, by omega⟩

theorem numcmp_ok (c c' : Int) (k k' : Nat) (h : numIs c k = true) (h' : numIs c' k' = true) (hp : List Ent) :
    F tab 33 [.d (numD c k), .d (numD c' k')] hp = some (.ret (.d (iv (sgn (flatN c k) (flatN c' k')))) hp) := by
  obtain ⟨k1, e1, hk, hc⟩ := numIs_inv h
  obtain ⟨k2, e2, hk', hc'⟩ := numIs_inv h'
  obtain rfl : k = k1 := by omega
  obtain rfl : k' = k2 := by omega
  refine f33 rfl ?_
  have h1 := both_ok c k c' k'
  rw [h, h'] at h1
  have h2 := cut_ok c k hk hc
  have h3 := cut_ok c' k' hk' hc'
  have h4 := numorder_ok (cutU c k) (cutU c' k')
  have h5 := numorder_ok (cutV c k) (cutV c' k')
  rw [← cmp_math hk hk' hc hc']
  by_cases hu : cutU c k = cutU c' k'
  · have hu1 : (cutU c k != cutU c' k') = false := by simp [hu]
    have hu2 : (cutU c k ≠ cutU c' k') = False := by simp [hu]
    simp (disch := omega) only [go_sem, and_self, and_true, true_and, false_and, and_false, Nat.reduceAdd, Nat.reduceMul, Nat.reduceSub, Nat.reduceLeDiff, Nat.reduceLT, Nat.reduceGT, Nat.reduceEqDiff, Nat.reduceBEq, Int.reduceNeg, Int.reduceEq, Int.reduceLT, Int.reduceLE, Int.reduceBEq, Int.reduceToNat, Int.toNat_natCast, Int.natCast_zero, r33_T, r33, h1, h2, h3, h4, h5, hu1, hu2]
  · have hu1 : (cutU c k != cutU c' k') = true := by simp [hu]
    have hu2 : (cutU c k ≠ cutU c' k') = True := by simp [hu]
    simp (disch := omega) only [go_sem, and_self, and_true, true_and, false_and, and_false, Nat.reduceAdd, Nat.reduceMul, Nat.reduceSub, Nat.reduceLeDiff, Nat.reduceLT, Nat.reduceGT, Nat.reduceEqDiff, Nat.reduceBEq, Int.reduceNeg, Int.reduceEq, Int.reduceLT, Int.reduceLE, Int.reduceBEq, Int.reduceToNat, Int.toNat_natCast, Int.natCast_zero, r33_T, r33, h1, h2, h3, h4, h5, hu1, hu2]
end Go.Pe.T

namespace Go.Pe.T
/-! ### noughts taken off; sums -/

def stripN : Int → Nat → Int × Nat
  | c, 0 => (c, 0)
  | c, s + 1 => if c.tmod 10 = 0 then stripN (c.tdiv 10) s else (c, s + 1)

theorem strip_val : ∀ (k : Nat) (c : Int), (stripN c k).2 ≤ k ∧ (stripN c k).1 * 10 ^ (k - (stripN c k).2) = c ∧ ((stripN c k).2 = 0 ∨ (stripN c k).1.tmod 10 ≠ 0)
  | 0, c => by simp [stripN]
  | k + 1, c => by
    simp only [stripN]
    split
    · rename_i h
      obtain ⟨h1, h2, h3⟩ := strip_val k (c.tdiv 10)
      refine ⟨by omega, ?_, h3⟩
      have e : k + 1 - (stripN (c.tdiv 10) k).2 = (k - (stripN (c.tdiv 10) k).2) + 1 := by omega
      rw [e, Int.pow_succ, ← Int.mul_assoc, h2]
      have := Int.mul_tdiv_add_tmod c 10
      omega
    · rename_i h
      exact ⟨Nat.le_refl _, by simp, .inr h⟩

theorem strip_self : ∀ (k : Nat) (c : Int), (k = 0 ∨ c.tmod 10 ≠ 0) → stripN c k = (c, k)
  | 0, c, _ => rfl
  | k + 1, c, h => by
    simp only [stripN]
    rw [if_neg (h.resolve_left (by omega))]

theorem strip_add : ∀ (k : Nat) (w p : Int), stripN (w * 10 ^ k + p) k = (w * 10 ^ (stripN p k).2 + (stripN p k).1, (stripN p k).2)
  | 0, w, p => by simp [stripN]
  | k + 1, w, p => by
    have hp := p10_pos k
    have e : w * 10 ^ (k + 1) = w * 10 ^ k * 10 := by rw [Int.pow_succ, Int.mul_assoc]
    have hm : (w * 10 ^ (k + 1) + p).tmod 10 = 0 ↔ p.tmod 10 = 0 := by
      rw [e]
      generalize w * 10 ^ k = x
      have := Int.mul_tdiv_add_tmod p 10
      have := Int.mul_tdiv_add_tmod (x * 10 + p) 10
      constructor
      · intro h
        have h1 : (10 : Int) ∣ x * 10 + p := Int.dvd_of_tmod_eq_zero h
        have h2 : (10 : Int) ∣ p := by omega
        exact Int.tmod_eq_zero_of_dvd h2
      · intro h
        have h1 : (10 : Int) ∣ p := Int.dvd_of_tmod_eq_zero h
        have h2 : (10 : Int) ∣ x * 10 + p := by omega
        exact Int.tmod_eq_zero_of_dvd h2
    simp only [stripN]
    by_cases h : p.tmod 10 = 0
    · rw [if_pos (hm.2 h), if_pos h]
      have hd : (w * 10 ^ (k + 1) + p).tdiv 10 = w * 10 ^ k + p.tdiv 10 := by
        have h3 := hm.2 h
        rw [e] at h3 ⊢
        generalize w * 10 ^ k = x at *
        have h1 := Int.mul_tdiv_add_tmod p 10
        have h2 := Int.mul_tdiv_add_tmod (x * 10 + p) 10
        omega
      rw [hd]
      exact strip_add k w (p.tdiv 10)
    · rw [if_neg (fun h2 => h (hm.1 h2)), if_neg h]

theorem strip_abs (k : Nat) (c B : Int) (h : -B ≤ c ∧ c ≤ B) : -B ≤ (stripN c k).1 ∧ (stripN c k).1 ≤ B := by
  obtain ⟨_, h2, _⟩ := strip_val k c
  have hp := p10_pos (k - (stripN c k).2)
  generalize (stripN c k).1 = x at *
  generalize (10 : Int) ^ (k - (stripN c k).2) = q at *
  by_cases hx : 0 ≤ x
  · have : x * 1 ≤ x * q := Int.mul_le_mul_of_nonneg_left (by omega) hx
    omega
  · have : -x * 1 ≤ -x * q := Int.mul_le_mul_of_nonneg_left (by omega) (by omega)
    rw [Int.neg_mul, Int.neg_mul] at this
    omega

/-- what a coefficient at a scale comes to -/
def makeOk (c : Int) (k : Nat) : Bool := numIs (stripN c k).1 (stripN c k).2

theorem strip_zero : ∀ (k : Nat), stripN 0 k = (0, 0)
  | 0 => rfl
  | k + 1 => by simp only [stripN, Int.zero_tmod, Int.zero_tdiv, if_true, strip_zero k]

theorem strip_whole (z : Int) (k : Nat) : stripN (z * 10 ^ k) k = (z, 0) := by
  have := strip_add k z 0
  rw [strip_zero, Int.add_zero] at this
  simpa using this

theorem p10_cut (s : Nat) (hs : s ≤ 9) : (10 : Int) ^ s * 10 ^ (9 - s) = 1000000000 := by
  rw [← Int.pow_add, show s + (9 - s) = 9 by omega]; decide
theorem p10_cut15 (s : Nat) (hs : s ≤ 15) : (10 : Int) ^ s * 10 ^ (15 - s) = 1000000000000000 := by
  rw [← Int.pow_add, show s + (15 - s) = 15 by omega]; decide

theorem strip_part {p : Int} (hp : -1000000000 < p ∧ p < 1000000000) : -10 ^ (stripN p 9).2 < (stripN p 9).1 ∧ (stripN p 9).1 < 10 ^ (stripN p 9).2 := by
  obtain ⟨h1, h2, _⟩ := strip_val 9 p
  have h3 := p10_cut _ h1
  have h4 := p10_pos (9 - (stripN p 9).2)
  generalize (stripN p 9).1 = q at *
  generalize (10 : Int) ^ (9 - (stripN p 9).2) = y at *
  generalize (10 : Int) ^ (stripN p 9).2 = x at *
  rw [← h2, ← h3] at hp
  refine ⟨?_, ?_⟩
  · have : -x * y < q * y := by rw [Int.neg_mul]; omega
    exact Int.lt_of_mul_lt_mul_right this (by omega)
  · exact Int.lt_of_mul_lt_mul_right hp.2 (by omega)

/-- joined: too great, or within what can be reckoned with -/
theorem join_math {w p : Int} (hp : -1000000000 < p ∧ p < 1000000000) :
    (stripN (w * 1000000000 + p) 9) = (w * 10 ^ (stripN p 9).2 + (stripN p 9).1, (stripN p 9).2) ∧
    (w ≥ (1000000000000000 : Int).tdiv (10 ^ (stripN p 9).2) + 1 → makeOk (w * 1000000000 + p) 9 = false) ∧
    (w ≤ (-1000000000000000 : Int).tdiv (10 ^ (stripN p 9).2) - 1 → makeOk (w * 1000000000 + p) 9 = false) ∧
    (¬ w ≥ (1000000000000000 : Int).tdiv (10 ^ (stripN p 9).2) + 1 → ¬ w ≤ (-1000000000000000 : Int).tdiv (10 ^ (stripN p 9).2) - 1 →
      -2000000000000000 < w * 10 ^ (stripN p 9).2 ∧ w * 10 ^ (stripN p 9).2 < 2000000000000000 ∧ -1000000000 < (stripN p 9).1 ∧ (stripN p 9).1 < 1000000000) := by
  have e9 : (10 : Int) ^ 9 = 1000000000 := by decide
  have hs := strip_add 9 w p
  rw [e9] at hs
  obtain ⟨h1, _, _⟩ := strip_val 9 p
  obtain ⟨h2, h3⟩ := strip_part hp
  have h4 := p10_cut15 (stripN p 9).2 (by omega)
  have h5 := p10_pos (stripN p 9).2
  have h6 := p10_pos (15 - (stripN p 9).2)
  have h7 := p10_mono h1
  rw [e9] at h7
  have d1 : (1000000000000000 : Int).tdiv (10 ^ (stripN p 9).2) = 10 ^ (15 - (stripN p 9).2) := by
    rw [← h4]; exact Int.mul_tdiv_cancel_left _ (by omega)
  have d2 : (-1000000000000000 : Int).tdiv (10 ^ (stripN p 9).2) = -10 ^ (15 - (stripN p 9).2) := by
    rw [← h4, ← Int.mul_neg]; exact Int.mul_tdiv_cancel_left _ (by omega)
  rw [d1, d2]
  unfold makeOk
  rw [hs]
  simp only
  generalize (stripN p 9).1 = q at *
  generalize (10 : Int) ^ (15 - (stripN p 9).2) = y at *
  generalize hx : (10 : Int) ^ (stripN p 9).2 = x at *
  refine ⟨trivial, fun h => ?_, fun h => ?_, fun g1 g2 => ?_⟩
  · have : (y + 1) * x ≤ w * x := Int.mul_le_mul_of_nonneg_right h (by omega)
    rw [Int.add_mul, Int.one_mul, Int.mul_comm y x, h4] at this
    have g : ¬ (w * x + q < 1000000000000000) := by omega
    simp [numIs, g]
  · have : w * x ≤ (-y - 1) * x := Int.mul_le_mul_of_nonneg_right h (by omega)
    rw [Int.sub_mul, Int.one_mul, Int.neg_mul, Int.mul_comm y x, h4] at this
    have g : ¬ (-1000000000000000 < w * x + q) := by omega
    simp [numIs, g]
  · have a1 : w * x ≤ y * x := Int.mul_le_mul_of_nonneg_right (by omega) (by omega)
    have a2 : -y * x ≤ w * x := Int.mul_le_mul_of_nonneg_right (by omega) (by omega)
    rw [Int.neg_mul, Int.mul_comm y x, h4] at a2
    rw [Int.mul_comm y x, h4] at a1
    omega

theorem make_flat {c : Int} {k : Nat} (hk : k ≤ 9) : flatN (stripN c k).1 (stripN c k).2 = flatN c k := by
  obtain ⟨h1, h2, _⟩ := strip_val k c
  unfold flatN
  rw [show 9 - (stripN c k).2 = (k - (stripN c k).2) + (9 - k) by omega, Int.pow_add, ← Int.mul_assoc, h2]

theorem flat_inj {c c' : Int} : ∀ {k k' : Nat}, k ≤ 9 → k' ≤ 9 → (k = 0 ∨ c.tmod 10 ≠ 0) → (k' = 0 ∨ c'.tmod 10 ≠ 0) → flatN c k = flatN c' k' → k ≤ k' → c = c' ∧ k = k' := by
  intro k k' hk hk' h1 h2 he hle
  unfold flatN at he
  rw [show 9 - k = (k' - k) + (9 - k') by omega, Int.pow_add, ← Int.mul_assoc] at he
  have hp := p10_pos (9 - k')
  have he := Int.eq_of_mul_eq_mul_right (by omega) he
  by_cases e : k = k'
  · subst e
    simp at he
    exact ⟨he, rfl⟩
  · exfalso
    obtain ⟨j, hj⟩ : ∃ j, k' - k = j + 1 := ⟨k' - k - 1, by omega⟩
    rw [hj, Int.pow_succ, ← Int.mul_assoc] at he
    have hd : (10 : Int) ∣ c' := ⟨c * 10 ^ j, by rw [← he, Int.mul_comm]⟩
    exact h2.resolve_left (by omega) (Int.tmod_eq_zero_of_dvd hd)

theorem num_inj {c c' : Int} {k k' : Nat} (h : numIs c k = true) (h' : numIs c' k' = true) (he : flatN c k = flatN c' k') : c = c' ∧ k = k' := by
  simp only [numIs, Bool.and_eq_true, Bool.or_eq_true, decide_eq_true_eq, beq_iff_eq, bne_iff_ne] at h h'
  have a1 : k = 0 ∨ c.tmod 10 ≠ 0 := by rcases h.2 with g | g; exact .inl (by omega); exact .inr g
  have a2 : k' = 0 ∨ c'.tmod 10 ≠ 0 := by rcases h'.2 with g | g; exact .inl (by omega); exact .inr g
  by_cases hle : k ≤ k'
  · exact flat_inj (by omega) (by omega) a1 a2 he hle
  · obtain ⟨e1, e2⟩ := flat_inj (k := k') (k' := k) (by omega) (by omega) a2 a1 he.symm (by omega)
    exact ⟨e1.symm, e2.symm⟩
end Go.Pe.T

namespace Go.Pe.T
/-! ### Make, join, Add, Sub -/

/-- a number, or that it can't be held -/
def madeT (c : Int) (k : Nat) : PV := if makeOk c k then .tup [.d (numD (stripN c k).1 (stripN c k).2), .d (iv 0)] else .tup [.d (numD 0 0), .d (iv 8)]

theorem tdiv10 {c : Int} (hc : i64 c) (h : c.tmod 10 = 0) : i64 (c.tdiv 10) := by
  have := Int.mul_tdiv_add_tmod c 10
  unfold i64 at *
  omega

def MkLoop (c : Int) (k : Nat) : Prop :=
  V (F tab) r16_B0 (r16_S0 (.d (iv c)) (.d (iv k)) (.ibox [.d (iv 0), .d (iv 0)]) []) = some (.norm, r16_E0 (.d (iv (stripN c k).1)) (.d (iv (stripN c k).2)) (.ibox [.d (iv 0), .d (iv 0)]) [])

theorem mk_end (c : Int) : MkLoop c 0 := by
  unfold MkLoop
  have h1 : ((0 : Int) > 0) = False := eq_false (by omega)
  have h2 : (((0 : Nat) : Int) > 0) = False := eq_false (by omega)
  rw [r16_B0_eq, stripN]
  simp (disch := omega) only [go_sem, and_self, and_true, true_and, false_and, and_false, Nat.reduceAdd, Nat.reduceMul, Nat.reduceSub, Nat.reduceLeDiff, Nat.reduceLT, Nat.reduceGT, Nat.reduceEqDiff, Nat.reduceBEq, Int.reduceNeg, Int.reduceEq, Int.reduceLT, Int.reduceLE, Int.reduceBEq, Int.reduceToNat, Int.toNat_natCast, Int.natCast_zero, r16_C0, h1, h2]
theorem mk_stop (c : Int) (k : Nat) (h : c.tmod 10 ≠ 0) : MkLoop c (k + 1) := by
  unfold MkLoop
  have h1 : (((k + 1 : Nat) : Int) > 0) = True := eq_true (by omega)
  have h2 : (c.tmod 10 == 0) = false := by simpa using h
  have h3 : ((10 : Int) = 0) = False := eq_false (by omega)
  rw [r16_B0_eq, stripN, if_neg h]
  simp (disch := omega) only [go_sem, and_self, and_true, true_and, false_and, and_false, Nat.reduceAdd, Nat.reduceMul, Nat.reduceSub, Nat.reduceLeDiff, Nat.reduceLT, Nat.reduceGT, Nat.reduceEqDiff, Nat.reduceBEq, Int.reduceNeg, Int.reduceEq, Int.reduceLT, Int.reduceLE, Int.reduceBEq, Int.reduceToNat, Int.toNat_natCast, Int.natCast_zero, r16_C0, h1, h2, h3]
theorem mk_step (c : Int) (k : Nat) (hc : i64 c) (hk : k ≤ 100) (h : c.tmod 10 = 0) (ih : MkLoop (c.tdiv 10) k) : MkLoop c (k + 1) := by
  unfold MkLoop
  have h1 : (((k + 1 : Nat) : Int) > 0) = True := eq_true (by omega)
  have h2 : (c.tmod 10 == 0) = true := by simpa using h
  have h3 : ((10 : Int) = 0) = False := eq_false (by omega)
  have h4 : ((k + 1 : Nat) : Int) - 1 = (k : Int) := by omega
  have hd := tdiv10 hc h
  have w1 : IntKind.i64.wrap (c.tdiv 10) = c.tdiv 10 := w64 hd
  unfold MkLoop at ih
  rw [r16_B0_eq, stripN, if_pos h]
  simp (disch := omega) only [go_sem, and_self, and_true, true_and, false_and, and_false, Nat.reduceAdd, Nat.reduceMul, Nat.reduceSub, Nat.reduceLeDiff, Nat.reduceLT, Nat.reduceGT, Nat.reduceEqDiff, Nat.reduceBEq, Int.reduceNeg, Int.reduceEq, Int.reduceLT, Int.reduceLE, Int.reduceBEq, Int.reduceToNat, Int.toNat_natCast, Int.natCast_zero, r16_C0, h1, h2, h3, h4, w1, w64]
  exact ih
theorem mk_loop : ∀ (k : Nat) (c : Int), i64 c → k ≤ 100 → MkLoop c k
  | 0, c, _, _ => mk_end c
  | k + 1, c, hc, hk => by
    by_cases h : c.tmod 10 = 0
    · exact mk_step c k hc (by omega) h (mk_loop k _ (tdiv10 hc h) (by omega))
    · exact mk_stop c k h

theorem make_ok (c : Int) (k : Nat) (hc : i64 c) (hk : k ≤ 30) (hp : List Ent) : F tab 16 [.d (iv c), .d (iv k)] hp = some (.ret (madeT c k) hp) := by
  have hL := mk_loop k c hc (by omega)
  unfold MkLoop at hL
  have hI := numIs_ok (stripN c k).1 (stripN c k).2
  have h1 : ((k : Int) < 0) = False := eq_false (by omega)
  have h2 : ((k : Int) > 30) = False := eq_false (by omega)
  refine f16 rfl ?_
  simp (disch := omega) only [go_sem, and_self, and_true, true_and, false_and, and_false, Nat.reduceAdd, Nat.reduceMul, Nat.reduceSub, Nat.reduceLeDiff, Nat.reduceLT, Nat.reduceGT, Nat.reduceEqDiff, Nat.reduceBEq, Int.reduceNeg, Int.reduceEq, Int.reduceLT, Int.reduceLE, Int.reduceBEq, Int.reduceToNat, Int.toNat_natCast, Int.natCast_zero, r16_T, r16, h1, h2]
  rw [r16_B0_n]
  erw [hL]
  unfold madeT
  have e : makeOk c k = numIs (stripN c k).1 (stripN c k).2 := rfl
  rcases Bool.eq_false_or_eq_true (numIs (stripN c k).1 (stripN c k).2) with g | g
  · rw [e, g]
    simp (disch := omega) only [go_sem, and_self, and_true, true_and, false_and, and_false, Nat.reduceAdd, Nat.reduceMul, Nat.reduceSub, Nat.reduceLeDiff, Nat.reduceLT, Nat.reduceGT, Nat.reduceEqDiff, Nat.reduceBEq, Int.reduceNeg, Int.reduceEq, Int.reduceLT, Int.reduceLE, Int.reduceBEq, Int.reduceToNat, Int.toNat_natCast, Int.natCast_zero, hI, g]
  · rw [e, g]
    simp (disch := omega) only [go_sem, and_self, and_true, true_and, false_and, and_false, Nat.reduceAdd, Nat.reduceMul, Nat.reduceSub, Nat.reduceLeDiff, Nat.reduceLT, Nat.reduceGT, Nat.reduceEqDiff, Nat.reduceBEq, Int.reduceNeg, Int.reduceEq, Int.reduceLT, Int.reduceLE, Int.reduceBEq, Int.reduceToNat, Int.toNat_natCast, Int.natCast_zero, hI, g]

def JnLoop (w c : Int) (k : Nat) : Prop :=
  V (F tab) r63_B0 (r63_S0 (.d (iv w)) (.d (iv c)) (.ibox [.d (iv 0), .d (iv 0)]) (.d (iv k)) []) = some (.norm, r63_E0 (.d (iv w)) (.d (iv (stripN c k).1)) (.ibox [.d (iv 0), .d (iv 0)]) (.d (iv (stripN c k).2)) [])
theorem jn_end (w c : Int) : JnLoop w c 0 := by
  unfold JnLoop
  have h1 : ((0 : Int) > 0) = False := eq_false (by omega)
  have h2 : (((0 : Nat) : Int) > 0) = False := eq_false (by omega)
  rw [r63_B0_eq, stripN]
  simp (disch := omega) only [go_sem, and_self, and_true, true_and, false_and, and_false, Nat.reduceAdd, Nat.reduceMul, Nat.reduceSub, Nat.reduceLeDiff, Nat.reduceLT, Nat.reduceGT, Nat.reduceEqDiff, Nat.reduceBEq, Int.reduceNeg, Int.reduceEq, Int.reduceLT, Int.reduceLE, Int.reduceBEq, Int.reduceToNat, Int.toNat_natCast, Int.natCast_zero, r63_C0, h1, h2]
theorem jn_stop (w c : Int) (k : Nat) (h : c.tmod 10 ≠ 0) : JnLoop w c (k + 1) := by
  unfold JnLoop
  have h1 : (((k + 1 : Nat) : Int) > 0) = True := eq_true (by omega)
  have h2 : (c.tmod 10 == 0) = false := by simpa using h
  have h3 : ((10 : Int) = 0) = False := eq_false (by omega)
  rw [r63_B0_eq, stripN, if_neg h]
  simp (disch := omega) only [go_sem, and_self, and_true, true_and, false_and, and_false, Nat.reduceAdd, Nat.reduceMul, Nat.reduceSub, Nat.reduceLeDiff, Nat.reduceLT, Nat.reduceGT, Nat.reduceEqDiff, Nat.reduceBEq, Int.reduceNeg, Int.reduceEq, Int.reduceLT, Int.reduceLE, Int.reduceBEq, Int.reduceToNat, Int.toNat_natCast, Int.natCast_zero, r63_C0, h1, h2, h3]
theorem jn_step (w c : Int) (k : Nat) (hc : i64 c) (hk : k ≤ 100) (h : c.tmod 10 = 0) (ih : JnLoop w (c.tdiv 10) k) : JnLoop w c (k + 1) := by
  unfold JnLoop
  have h1 : (((k + 1 : Nat) : Int) > 0) = True := eq_true (by omega)
  have h2 : (c.tmod 10 == 0) = true := by simpa using h
  have h3 : ((10 : Int) = 0) = False := eq_false (by omega)
  have h4 : ((k + 1 : Nat) : Int) - 1 = (k : Int) := by omega
  have hd := tdiv10 hc h
  have w1 : IntKind.i64.wrap (c.tdiv 10) = c.tdiv 10 := w64 hd
  unfold JnLoop at ih
  rw [r63_B0_eq, stripN, if_pos h]
  simp (disch := omega) only [go_sem, and_self, and_true, true_and, false_and, and_false, Nat.reduceAdd, Nat.reduceMul, Nat.reduceSub, Nat.reduceLeDiff, Nat.reduceLT, Nat.reduceGT, Nat.reduceEqDiff, Nat.reduceBEq, Int.reduceNeg, Int.reduceEq, Int.reduceLT, Int.reduceLE, Int.reduceBEq, Int.reduceToNat, Int.toNat_natCast, Int.natCast_zero, r63_C0, h1, h2, h3, h4, w1, w64]
  exact ih
theorem jn_loop (w : Int) : ∀ (k : Nat) (c : Int), i64 c → k ≤ 100 → JnLoop w c k
  | 0, c, _, _ => jn_end w c
  | k + 1, c, hc, hk => by
    by_cases h : c.tmod 10 = 0
    · exact jn_step w c k hc (by omega) h (jn_loop w k _ (tdiv10 hc h) (by omega))
    · exact jn_stop w c k h
end Go.Pe.T

namespace Go.Pe.T

theorem strip_idem (T : Int) (k : Nat) : stripN (stripN T k).1 (stripN T k).2 = stripN T k := by
  obtain ⟨_, _, h3⟩ := strip_val k T
  rw [strip_self _ _ h3]

theorem made_idem (T : Int) (k : Nat) : madeT (stripN T k).1 (stripN T k).2 = madeT T k := by
  unfold madeT makeOk
  rw [strip_idem]

/-- what follows on the loop of join -/
theorem join_tail (W Q : Int) (s : Nat) (T : Int) (hs : s ≤ 9) (hT : stripN T 9 = (W * 10 ^ s + Q, s))
    (h1 : W ≥ (1000000000000000 : Int).tdiv (10 ^ s) + 1 → makeOk T 9 = false) (h2 : W ≤ (-1000000000000000 : Int).tdiv (10 ^ s) - 1 → makeOk T 9 = false)
    (h3 : ¬ W ≥ (1000000000000000 : Int).tdiv (10 ^ s) + 1 → ¬ W ≤ (-1000000000000000 : Int).tdiv (10 ^ s) - 1 → -2000000000000000 < W * 10 ^ s ∧ W * 10 ^ s < 2000000000000000 ∧ -1000000000 < Q ∧ Q < 1000000000) :
    (-1000000000000002 < (1000000000000000 : Int).tdiv (10 ^ s) ∧ (1000000000000000 : Int).tdiv (10 ^ s) < 1000000000000002) ∧ (-1000000000000002 < (-1000000000000000 : Int).tdiv (10 ^ s) ∧ (-1000000000000000 : Int).tdiv (10 ^ s) < 1000000000000002) ∧
    madeT (W * 10 ^ s + Q) s = madeT T 9 := by
  refine ⟨?_, ?_, ?_⟩
  · have := Int.natAbs_tdiv_le_natAbs 1000000000000000 (10 ^ s)
    omega
  · have := Int.natAbs_tdiv_le_natAbs (-1000000000000000) (10 ^ s)
    omega
  · have := made_idem T 9
    rw [hT] at this
    exact this

/-- what stands behind the loop of join -/
def joinTail : RCode := match r63_K2 () with
  | .seq _ (.seq _ (.seq _ c)) => c
  | c => c

set_option maxHeartbeats 1000000 in
theorem join_ok (w p : Int) (hw : -3000000000000000 ≤ w ∧ w ≤ 3000000000000000) (hp0 : -3000000000 ≤ p ∧ p ≤ 3000000000) (hp : List Ent) : F tab 63 [.d (iv w), .d (iv p)] hp = some (.ret (madeT (w * 1000000000 + p) 9) hp) := by
  have hm := Int.mul_tdiv_add_tmod p 1000000000
  have hm1 := Int.tmod_lt_of_pos p (show (0 : Int) < 1000000000 by omega)
  have hm2 := Int.lt_tmod_of_pos p (show (0 : Int) < 1000000000 by omega)
  have q1 : ((1000000000 : Int) = 0) = False := eq_false (by omega)
  have core : ∀ W P : Int, W * 1000000000 + P = w * 1000000000 + p → (-1000000000 < P ∧ P < 1000000000) → (-4000000000000000 ≤ W ∧ W ≤ 4000000000000000) →
      V (F tab) r63_B0 (r63_S0 (.d (iv W)) (.d (iv P)) (.ibox [.d (iv 0), .d (iv 0)]) (.d (iv 9)) []) = some (.norm, r63_E0 (.d (iv W)) (.d (iv (stripN P 9).1)) (.ibox [.d (iv 0), .d (iv 0)]) (.d (iv (stripN P 9).2)) []) ∧ fnEnd r63 hp (V (F tab) joinTail (r63_E0 (.d (iv W)) (.d (iv (stripN P 9).1)) (.ibox [.d (iv 0), .d (iv 0)]) (.d (iv (stripN P 9).2)) [])) = some (.ret (madeT (w * 1000000000 + p) 9) hp) := by
    intro W P hT hP hW
    have hL := jn_loop W 9 P (by unfold i64; omega) (by omega)
    unfold JnLoop at hL
    refine ⟨hL, ?_⟩
    simp only [joinTail, r63_K2]
    obtain ⟨j1, j2, j3, j4⟩ := join_math (w := W) hP
    rw [hT] at j1 j2 j3
    have hs : (stripN P 9).2 ≤ 9 := (strip_val 9 P).1
    have h10 := pow_ok (stripN P 9).2 (by omega)
    obtain ⟨t1, t2, t3⟩ := join_tail W (stripN P 9).1 (stripN P 9).2 _ hs j1 j2 j3 j4
    have hmk : ∀ hp, -2000000000000000 < W * 10 ^ (stripN P 9).2 → W * 10 ^ (stripN P 9).2 < 2000000000000000 → -1000000000 < (stripN P 9).1 → (stripN P 9).1 < 1000000000 →
        F tab 16 [.d (iv (W * 10 ^ (stripN P 9).2 + (stripN P 9).1)), .d (iv (stripN P 9).2)] hp = some (.ret (madeT (W * 10 ^ (stripN P 9).2 + (stripN P 9).1) (stripN P 9).2) hp) := fun hp a b c d => make_ok _ _ (by unfold i64; omega) (by omega) hp
    have hpos : ((10 : Int) ^ (stripN P 9).2 = 0) = False := eq_false (by have := p10_pos (stripN P 9).2; omega)
    generalize (stripN P 9).1 = Q at *
    generalize (stripN P 9).2 = s at *
    generalize (10 : Int) ^ s = x at *
    generalize hA : (1000000000000000 : Int).tdiv x = A at *
    generalize hB : (-1000000000000000 : Int).tdiv x = B at *
    by_cases g1 : W ≥ A + 1
    · have e := j2 g1
      have e2 : madeT (w * 1000000000 + p) 9 = .tup [.d (numD 0 0), .d (iv 8)] := by unfold madeT; rw [e]; rfl
      rw [e2]
      simp (disch := omega) only [go_sem, and_self, and_true, true_and, false_and, and_false, Nat.reduceAdd, Nat.reduceMul, Nat.reduceSub, Nat.reduceLeDiff, Nat.reduceLT, Nat.reduceGT, Nat.reduceEqDiff, Nat.reduceBEq, Int.reduceNeg, Int.reduceEq, Int.reduceLT, Int.reduceLE, Int.reduceBEq, Int.reduceToNat, Int.toNat_natCast, Int.natCast_zero, r63, h10, hpos, hA, w64, g1]
    · by_cases g2 : W ≤ B - 1
      · have e := j3 g2
        have e2 : madeT (w * 1000000000 + p) 9 = .tup [.d (numD 0 0), .d (iv 8)] := by unfold madeT; rw [e]; rfl
        rw [e2]
        simp (disch := omega) only [go_sem, and_self, and_true, true_and, false_and, and_false, Nat.reduceAdd, Nat.reduceMul, Nat.reduceSub, Nat.reduceLeDiff, Nat.reduceLT, Nat.reduceGT, Nat.reduceEqDiff, Nat.reduceBEq, Int.reduceNeg, Int.reduceEq, Int.reduceLT, Int.reduceLE, Int.reduceBEq, Int.reduceToNat, Int.toNat_natCast, Int.natCast_zero, r63, h10, hpos, hA, hB, w64, g1, g2]
      · obtain ⟨a, b, c, d⟩ := j4 g1 g2
        have hmk := fun hp => hmk hp a b c d
        rw [t3] at hmk
        have w1 : IntKind.i64.wrap (W * x) = W * x := w64 (by generalize W * x = Y at *; omega)
        have w2 : IntKind.i64.wrap (W * x + Q) = W * x + Q := w64 (by generalize W * x = Y at *; omega)
        unfold madeT at hmk ⊢
        rcases Bool.eq_false_or_eq_true (makeOk (w * 1000000000 + p) 9) with g | g
        · rw [g] at hmk ⊢
          simp only [if_true] at hmk ⊢
          simp (disch := omega) only [go_sem, and_self, and_true, true_and, false_and, and_false, Nat.reduceAdd, Nat.reduceMul, Nat.reduceSub, Nat.reduceLeDiff, Nat.reduceLT, Nat.reduceGT, Nat.reduceEqDiff, Nat.reduceBEq, Int.reduceNeg, Int.reduceEq, Int.reduceLT, Int.reduceLE, Int.reduceBEq, Int.reduceToNat, Int.toNat_natCast, Int.natCast_zero, r63, h10, hpos, hA, hB, w1, w2, w64, g1, g2, hmk, numD]
        · rw [g] at hmk ⊢
          simp only [Bool.false_eq_true, if_false] at hmk ⊢
          simp (disch := omega) only [go_sem, and_self, and_true, true_and, false_and, and_false, Nat.reduceAdd, Nat.reduceMul, Nat.reduceSub, Nat.reduceLeDiff, Nat.reduceLT, Nat.reduceGT, Nat.reduceEqDiff, Nat.reduceBEq, Int.reduceNeg, Int.reduceEq, Int.reduceLT, Int.reduceLE, Int.reduceBEq, Int.reduceToNat, Int.toNat_natCast, Int.natCast_zero, r63, h10, hpos, hA, hB, w1, w2, w64, g1, g2, hmk, numD]
  refine f63 rfl ?_
  by_cases c1 : w + p.tdiv 1000000000 > 0
  · have c3 : ¬ (w + p.tdiv 1000000000 < 0) := by omega
    by_cases c2 : p.tmod 1000000000 < 0
    · have c4 : ¬ (w + p.tdiv 1000000000 - 1 < 0) := by omega
      have := core (w + p.tdiv 1000000000 - 1) (p.tmod 1000000000 + 1000000000) (by omega) (by omega) (by omega)
      simp (disch := omega) only [go_sem, and_self, and_true, true_and, false_and, and_false, Nat.reduceAdd, Nat.reduceMul, Nat.reduceSub, Nat.reduceLeDiff, Nat.reduceLT, Nat.reduceGT, Nat.reduceEqDiff, Nat.reduceBEq, Int.reduceNeg, Int.reduceEq, Int.reduceLT, Int.reduceLE, Int.reduceBEq, Int.reduceToNat, Int.toNat_natCast, Int.natCast_zero, r63_T, r63, q1, w64, c1, c2, c3, c4]
      rw [r63_B0_n]
      erw [this.1]
      exact this.2
    · have := core (w + p.tdiv 1000000000) (p.tmod 1000000000) (by omega) (by omega) (by omega)
      simp (disch := omega) only [go_sem, and_self, and_true, true_and, false_and, and_false, Nat.reduceAdd, Nat.reduceMul, Nat.reduceSub, Nat.reduceLeDiff, Nat.reduceLT, Nat.reduceGT, Nat.reduceEqDiff, Nat.reduceBEq, Int.reduceNeg, Int.reduceEq, Int.reduceLT, Int.reduceLE, Int.reduceBEq, Int.reduceToNat, Int.toNat_natCast, Int.natCast_zero, r63_T, r63, q1, w64, c1, c2, c3]
      rw [r63_B0_n]
      erw [this.1]
      exact this.2
  · by_cases c3 : w + p.tdiv 1000000000 < 0
    · by_cases c4 : p.tmod 1000000000 > 0
      · have := core (w + p.tdiv 1000000000 + 1) (p.tmod 1000000000 - 1000000000) (by omega) (by omega) (by omega)
        simp (disch := omega) only [go_sem, and_self, and_true, true_and, false_and, and_false, Nat.reduceAdd, Nat.reduceMul, Nat.reduceSub, Nat.reduceLeDiff, Nat.reduceLT, Nat.reduceGT, Nat.reduceEqDiff, Nat.reduceBEq, Int.reduceNeg, Int.reduceEq, Int.reduceLT, Int.reduceLE, Int.reduceBEq, Int.reduceToNat, Int.toNat_natCast, Int.natCast_zero, r63_T, r63, q1, w64, c1, c3, c4]
        rw [r63_B0_n]
        erw [this.1]
        exact this.2
      · have := core (w + p.tdiv 1000000000) (p.tmod 1000000000) (by omega) (by omega) (by omega)
        simp (disch := omega) only [go_sem, and_self, and_true, true_and, false_and, and_false, Nat.reduceAdd, Nat.reduceMul, Nat.reduceSub, Nat.reduceLeDiff, Nat.reduceLT, Nat.reduceGT, Nat.reduceEqDiff, Nat.reduceBEq, Int.reduceNeg, Int.reduceEq, Int.reduceLT, Int.reduceLE, Int.reduceBEq, Int.reduceToNat, Int.toNat_natCast, Int.natCast_zero, r63_T, r63, q1, w64, c1, c3, c4]
        rw [r63_B0_n]
        erw [this.1]
        exact this.2
    · have := core (w + p.tdiv 1000000000) (p.tmod 1000000000) (by omega) (by omega) (by omega)
      simp (disch := omega) only [go_sem, and_self, and_true, true_and, false_and, and_false, Nat.reduceAdd, Nat.reduceMul, Nat.reduceSub, Nat.reduceLeDiff, Nat.reduceLT, Nat.reduceGT, Nat.reduceEqDiff, Nat.reduceBEq, Int.reduceNeg, Int.reduceEq, Int.reduceLT, Int.reduceLE, Int.reduceBEq, Int.reduceToNat, Int.toNat_natCast, Int.natCast_zero, r63_T, r63, q1, w64, c1, c3]
      rw [r63_B0_n]
      erw [this.1]
      exact this.2
end Go.Pe.T

namespace Go.Pe.T

theorem lives4_ev : evF tab 200 23 [] [] = some (.ret (.d (.bool true)) []) := by kernel_rfl
theorem lives4_ok (hp : List Ent) : F tab 23 [] hp = some (.ret (.d (.bool true)) hp) :=
  F_some.2 ⟨200, ((evF_nice (pf := pf) (tabOf_pf tl pl _) 200).2 23 rfl _ _ _ _ lives4_ev).2 hp⟩

theorem made_yes {c : Int} {k : Nat} (h : makeOk c k = true) : madeT c k = .tup [.d (.agg [iv (stripN c k).1, iv (stripN c k).2]), .d (iv 0)] := by
  unfold madeT; rw [h]; rfl
theorem made_no {c : Int} {k : Nat} (h : makeOk c k = false) : madeT c k = .tup [.d (.agg [iv 0, iv 0]), .d (iv 8)] := by
  unfold madeT; rw [h]; rfl

theorem add_ok (c c' : Int) (k k' : Nat) (h : numIs c k = true) (h' : numIs c' k' = true) (hp : List Ent) :
    F tab 35 [.d (numD c k), .d (numD c' k')] hp = some (.ret (madeT (flatN c k + flatN c' k') 9) hp) := by
  obtain ⟨k1, e1, hk, hc⟩ := numIs_inv h
  obtain ⟨k2, e2, hk', hc'⟩ := numIs_inv h'
  obtain rfl : k = k1 := by omega
  obtain rfl : k' = k2 := by omega
  have h1 := both_ok c k c' k'
  rw [h, h'] at h1
  have h2 := cut_ok c k hk hc
  have h3 := cut_ok c' k' hk' hc'
  obtain ⟨b1, b2, b3, b4, b5, _⟩ := cut_bounds hk hc
  obtain ⟨d1, d2, d3, d4, d5, _⟩ := cut_bounds hk' hc'
  have hj := join_ok (cutU c k + cutU c' k') (cutV c k + cutV c' k') (by omega) (by omega)
  have eT : (cutU c k + cutU c' k') * 1000000000 + (cutV c k + cutV c' k') = flatN c k + flatN c' k' := by unfold flatN; omega
  rw [eT] at hj
  refine f35 rfl ?_
  rcases Bool.eq_false_or_eq_true (makeOk (flatN c k + flatN c' k') 9) with g | g
  · rw [made_yes g] at hj ⊢
    simp (disch := omega) only [go_sem, and_self, and_true, true_and, false_and, and_false, Nat.reduceAdd, Nat.reduceMul, Nat.reduceSub, Nat.reduceLeDiff, Nat.reduceLT, Nat.reduceGT, Nat.reduceEqDiff, Nat.reduceBEq, Int.reduceNeg, Int.reduceEq, Int.reduceLT, Int.reduceLE, Int.reduceBEq, Int.reduceToNat, Int.toNat_natCast, Int.natCast_zero, r35_T, r35, h1, h2, h3, hj, w64]
  · rw [made_no g] at hj ⊢
    simp (disch := omega) only [go_sem, and_self, and_true, true_and, false_and, and_false, Nat.reduceAdd, Nat.reduceMul, Nat.reduceSub, Nat.reduceLeDiff, Nat.reduceLT, Nat.reduceGT, Nat.reduceEqDiff, Nat.reduceBEq, Int.reduceNeg, Int.reduceEq, Int.reduceLT, Int.reduceLE, Int.reduceBEq, Int.reduceToNat, Int.toNat_natCast, Int.natCast_zero, r35_T, r35, h1, h2, h3, hj, w64]

theorem numIs_neg (c k : Int) : numIs (0 - c) k = numIs c k := by
  have e : (0 - c).tmod 10 = -(c.tmod 10) := by rw [Int.zero_sub, Int.neg_tmod]
  have e2 : ((0 - c).tmod 10 != 0) = (c.tmod 10 != 0) := by
    rw [e, Bool.eq_iff_iff]
    simp only [bne_iff_ne]
    omega
  have e3 : decide (-1000000000000000 < 0 - c) = decide (c < 1000000000000000) := by by_cases h : c < 1000000000000000 <;> simp [h] <;> omega
  have e4 : decide (0 - c < 1000000000000000) = decide (-1000000000000000 < c) := by by_cases h : -1000000000000000 < c <;> simp [h] <;> omega
  unfold numIs
  rw [e2, e3, e4]
  cases decide (0 ≤ k) <;> cases decide (k ≤ 9) <;> cases decide (c < 1000000000000000) <;> cases decide (-1000000000000000 < c) <;> rfl

theorem flat_neg (c : Int) (k : Nat) : flatN (0 - c) k = -flatN c k := by unfold flatN; rw [Int.zero_sub, Int.neg_mul]

theorem sub_ok (c c' : Int) (k k' : Nat) (h : numIs c k = true) (h' : numIs c' k' = true) (hp : List Ent) :
    F tab 34 [.d (numD c k), .d (numD c' k')] hp = some (.ret (madeT (flatN c k - flatN c' k') 9) hp) := by
  have h1 := both_ok c k c' k'
  rw [h, h'] at h1
  obtain ⟨k2, e2, hk', hc'⟩ := numIs_inv h'
  have hj := add_ok c (0 - c') k k' h (by rw [numIs_neg]; exact h')
  rw [flat_neg, show flatN c k + -flatN c' k' = flatN c k - flatN c' k' by omega] at hj
  refine f34 rfl ?_
  rcases Bool.eq_false_or_eq_true (makeOk (flatN c k - flatN c' k') 9) with g | g
  · rw [made_yes g] at hj ⊢
    simp (disch := omega) only [go_sem, and_self, and_true, true_and, false_and, and_false, Nat.reduceAdd, Nat.reduceMul, Nat.reduceSub, Nat.reduceLeDiff, Nat.reduceLT, Nat.reduceGT, Nat.reduceEqDiff, Nat.reduceBEq, Int.reduceNeg, Int.reduceEq, Int.reduceLT, Int.reduceLE, Int.reduceBEq, Int.reduceToNat, Int.toNat_natCast, Int.natCast_zero, r34_T, r34, h1, hj, w64]
  · rw [made_no g] at hj ⊢
    simp (disch := omega) only [go_sem, and_self, and_true, true_and, false_and, and_false, Nat.reduceAdd, Nat.reduceMul, Nat.reduceSub, Nat.reduceLeDiff, Nat.reduceLT, Nat.reduceGT, Nat.reduceEqDiff, Nat.reduceBEq, Int.reduceNeg, Int.reduceEq, Int.reduceLT, Int.reduceLE, Int.reduceBEq, Int.reduceToNat, Int.toNat_natCast, Int.natCast_zero, r34_T, r34, h1, hj, w64]

theorem sgn_zero {a b : Int} : sgn a b = 0 ↔ a = b := by
  unfold sgn; split
  · omega
  · split <;> omega
theorem sgn_le {a b : Int} : sgn a b ≤ 0 ↔ a ≤ b := by
  unfold sgn; split
  · omega
  · split <;> omega
theorem sgn_lt {a b : Int} : sgn a b < 0 ↔ a < b := by
  unfold sgn; split
  · omega
  · split <;> omega
theorem sgn_sub (a b : Int) : sgn (a - b) 0 = sgn a b := by
  unfold sgn; split <;> split <;> (try split) <;> (try split) <;> omega
end Go.Pe.T

namespace Go.Pe.T
/-! ### products of whole numbers -/
abbrev uv (n : Int) : D := .int .u64 n
theorem wu64 {n : Int} (h : 0 ≤ n ∧ n ≤ 18446744073709551615) : IntKind.u64.wrap n = n := by
  simp only [IntKind.wrap, IntKind.bits, IntKind.signed, Bool.false_and, Bool.false_eq_true, if_false]
  have e1 : (2 : Int) ^ 64 = 18446744073709551616 := by decide
  rw [e1]
  omega

theorem and32 {x : Int} (h : 0 ≤ x ∧ x ≤ 18446744073709551615) : bitsD .and .u64 x 4294967295 = some (.int .u64 (x % 4294967296)) := by
  obtain ⟨n, rfl⟩ := Int.eq_ofNat_of_zero_le h.1
  have e1 : BitVec.ofInt 64 (4294967295 : Int) = BitVec.ofNat 64 4294967295 := by decide
  have e2 : BitVec.ofInt 64 (n : Int) = BitVec.ofNat 64 n := by
    apply BitVec.eq_of_toNat_eq; simp
  have e3 : ((BitVec.ofNat 64 n &&& BitVec.ofNat 64 4294967295).toNat : Nat) = n % 4294967296 := by
    rw [BitVec.toNat_and, BitVec.toNat_ofNat, BitVec.toNat_ofNat]
    have hn : n % 2 ^ 64 = n := Nat.mod_eq_of_lt (by omega)
    have h2 : (4294967295 : Nat) % 2 ^ 64 = 2 ^ 32 - 1 := by decide
    rw [hn, h2, Nat.and_two_pow_sub_one_eq_mod]
  have e5 : bitsD .and .u64 (n : Int) 4294967295 = some (.int .u64 (IntKind.u64.wrap ((BitVec.ofInt 64 (n : Int) &&& BitVec.ofInt 64 4294967295).toNat : Int))) := rfl
  rw [e5, e1, e2, e3, wu64 (by omega)]
  rfl

theorem shr32 (x : Int) : shiftD .shr .u64 x 32 = some (.int .u64 (x / 4294967296)) := by
  have e : ¬ ((32 : Int) < 0) := by omega
  simp only [shiftD, if_neg e]
  have e2 : (2 : Int) ^ (min (32 : Int).toNat IntKind.u64.bits) = 4294967296 := by decide
  rw [e2, Int.fdiv_eq_ediv_of_nonneg _ (by omega)]

set_option maxHeartbeats 1000000 in
theorem mul64_ok (x y : Int) (hx : 0 ≤ x ∧ x ≤ 18446744073709551615) (hy : 0 ≤ y ∧ y ≤ 18446744073709551615) (hp : List Ent) :
    F tab 64 [.d (uv x), .d (uv y)] hp = some (.ret (.tup [.d (uv (x * y / 18446744073709551616)), .d (uv (x * y % 18446744073709551616))]) hp) := by
  have ax := and32 hx
  have ay := and32 hy
  have e64 : (2 : Int) ^ 64 = 18446744073709551616 := by decide
  have bnd : ∀ a b : Int, 0 ≤ a → a ≤ 4294967295 → 0 ≤ b → b ≤ 4294967295 → 0 ≤ a * b ∧ a * b ≤ 18446744065119617025 := by
    intro a b h1 h2 h3 h4
    refine ⟨Int.mul_nonneg h1 h3, ?_⟩
    have h5 : a * b ≤ 4294967295 * b := Int.mul_le_mul_of_nonneg_right h2 h3
    omega
  have p00 := bnd (x % 4294967296) (y % 4294967296) (by omega) (by omega) (by omega) (by omega)
  have p10 := bnd (x / 4294967296) (y % 4294967296) (by omega) (by omega) (by omega) (by omega)
  have p01 := bnd (x % 4294967296) (y / 4294967296) (by omega) (by omega) (by omega) (by omega)
  have p11 := bnd (x / 4294967296) (y / 4294967296) (by omega) (by omega) (by omega) (by omega)
  have hxy : x * y = (x / 4294967296) * (y / 4294967296) * 18446744073709551616 + ((x / 4294967296) * (y % 4294967296) + (x % 4294967296) * (y / 4294967296)) * 4294967296 + (x % 4294967296) * (y % 4294967296) := by
    have h1 := Int.mul_ediv_add_emod x 4294967296
    have h2 := Int.mul_ediv_add_emod y 4294967296
    generalize x / 4294967296 = a at *
    generalize x % 4294967296 = b at *
    generalize y / 4294967296 = c at *
    generalize y % 4294967296 = d at *
    rw [← h1, ← h2, Int.add_mul, Int.mul_add, Int.mul_add, Int.add_mul]
    have e1 : 4294967296 * a * (4294967296 * c) = a * c * 18446744073709551616 := by
      rw [Int.mul_comm 4294967296 a, Int.mul_assoc, ← Int.mul_assoc 4294967296 4294967296 c, Int.mul_comm _ c, ← Int.mul_assoc]; rfl
    have e2 : 4294967296 * a * d = a * d * 4294967296 := by rw [Int.mul_assoc, Int.mul_comm]
    have e3 : b * (4294967296 * c) = b * c * 4294967296 := by rw [Int.mul_comm 4294967296 c, Int.mul_assoc]
    rw [e1, e2, e3]
    omega
  have wlo : IntKind.u64.wrap (x * y) = x * y % 18446744073709551616 := by
    simp only [IntKind.wrap, IntKind.bits, IntKind.signed, Bool.false_and, Bool.false_eq_true, if_false, e64]
  have hhi : (x / 4294967296) * (y / 4294967296) + ((x / 4294967296) * (y % 4294967296) + (x % 4294967296) * (y % 4294967296) / 4294967296) / 4294967296 + (((x / 4294967296) * (y % 4294967296) + (x % 4294967296) * (y % 4294967296) / 4294967296) % 4294967296 + (x % 4294967296) * (y / 4294967296)) / 4294967296 = x * y / 18446744073709551616 := by
    rw [hxy]
    generalize (x / 4294967296) * (y / 4294967296) = p at *
    generalize (x / 4294967296) * (y % 4294967296) = q at *
    generalize (x % 4294967296) * (y / 4294967296) = r at *
    generalize (x % 4294967296) * (y % 4294967296) = s at *
    omega
  have s32 := shr32
  refine f64 rfl ?_
  have at0 : ∀ t : Int, 0 ≤ t → t ≤ 18446744073709551615 → bitsD .and .u64 t 4294967295 = some (.int .u64 (t % 4294967296)) := fun t a b => and32 ⟨a, b⟩
  rw [← hhi]
  generalize hA : x / 4294967296 = A at *
  generalize hB : x % 4294967296 = B at *
  generalize hC : y / 4294967296 = C at *
  generalize hD : y % 4294967296 = E at *
  have w1 : IntKind.u64.wrap (B * E) = B * E := wu64 (by omega)
  have w2 : IntKind.u64.wrap (A * E) = A * E := wu64 (by omega)
  have w3 : IntKind.u64.wrap (A * E + B * E / 4294967296) = A * E + B * E / 4294967296 := wu64 (by generalize A * E = u at *; generalize B * E = v at *; omega)
  have w4 : IntKind.u64.wrap (B * C) = B * C := wu64 (by omega)
  have w5 : IntKind.u64.wrap ((A * E + B * E / 4294967296) % 4294967296 + B * C) = (A * E + B * E / 4294967296) % 4294967296 + B * C := wu64 (by generalize A * E = u at *; generalize B * E = v at *; generalize B * C = r at *; omega)
  have w6 : IntKind.u64.wrap (A * C) = A * C := wu64 (by omega)
  have w7 : IntKind.u64.wrap (A * C + (A * E + B * E / 4294967296) / 4294967296) = A * C + (A * E + B * E / 4294967296) / 4294967296 := wu64 (by generalize A * E = u at *; generalize B * E = v at *; generalize A * C = r at *; omega)
  have w8 : IntKind.u64.wrap (A * C + (A * E + B * E / 4294967296) / 4294967296 + ((A * E + B * E / 4294967296) % 4294967296 + B * C) / 4294967296) = A * C + (A * E + B * E / 4294967296) / 4294967296 + ((A * E + B * E / 4294967296) % 4294967296 + B * C) / 4294967296 := wu64 (by generalize A * E = u at *; generalize B * E = v at *; generalize A * C = r at *; generalize B * C = t at *; omega)
  have a3 : bitsD .and .u64 (A * E + B * E / 4294967296) 4294967295 = some (.int .u64 ((A * E + B * E / 4294967296) % 4294967296)) := at0 _ (by generalize A * E = u at *; generalize B * E = v at *; omega) (by generalize A * E = u at *; generalize B * E = v at *; omega)
  simp only [go_sem, and_self, and_true, true_and, false_and, and_false, Nat.reduceAdd, Nat.reduceMul, Nat.reduceSub, Nat.reduceLeDiff, Nat.reduceLT, Nat.reduceGT, Nat.reduceEqDiff, Nat.reduceBEq, Int.reduceNeg, Int.reduceEq, Int.reduceLT, Int.reduceLE, Int.reduceBEq, Int.reduceToNat, Int.toNat_natCast, Int.natCast_zero, r64_T, r64, ax, ay, a3, s32, hA, hB, hC, hD, wlo, w1, w2, w3, w4, w5, w6, w7, w8]

theorem size_ok (c : Int) (hc : -1000000000000000 ≤ c ∧ c ≤ 1000000000000000) (hp : List Ent) : F tab 53 [.d (iv c)] hp = some (.ret (.d (uv c.natAbs)) hp) := by
  refine f53 rfl ?_
  by_cases h : c < 0
  · have e : ((c.natAbs : Nat) : Int) = 0 - c := by omega
    rw [e]
    simp (disch := omega) only [go_sem, and_self, and_true, true_and, false_and, and_false, Nat.reduceAdd, Nat.reduceMul, Nat.reduceSub, Nat.reduceLeDiff, Nat.reduceLT, Nat.reduceGT, Nat.reduceEqDiff, Nat.reduceBEq, Int.reduceNeg, Int.reduceEq, Int.reduceLT, Int.reduceLE, Int.reduceBEq, Int.reduceToNat, Int.toNat_natCast, Int.natCast_zero, r53_T, r53, h, w64, wu64]
  · have e : ((c.natAbs : Nat) : Int) = c := by omega
    rw [e]
    simp (disch := omega) only [go_sem, and_self, and_true, true_and, false_and, and_false, Nat.reduceAdd, Nat.reduceMul, Nat.reduceSub, Nat.reduceLeDiff, Nat.reduceLT, Nat.reduceGT, Nat.reduceEqDiff, Nat.reduceBEq, Int.reduceNeg, Int.reduceEq, Int.reduceLT, Int.reduceLE, Int.reduceBEq, Int.reduceToNat, Int.toNat_natCast, Int.natCast_zero, r53_T, r53, h, w64, wu64]
end Go.Pe.T

namespace Go.Pe.T
/-! ### the greatest common divisor; factors -/

def CmLoop (a b : Nat) : Prop := V (F tab) r52_B0 (r52_S0 (.d (uv a)) (.d (uv b)) []) = some (.norm, r52_E0 (.d (uv (Nat.gcd a b : Nat))) [])
theorem cm_end (a : Nat) : CmLoop a 0 := by
  have h1 : (((0 : Nat) : Int) != 0) = false := rfl
  have h2 : ((0 : Int) != 0) = false := rfl
  unfold CmLoop
  rw [r52_B0_eq, Nat.gcd_zero_right]
  simp (disch := omega) only [go_sem, and_self, and_true, true_and, false_and, and_false, Nat.reduceAdd, Nat.reduceMul, Nat.reduceSub, Nat.reduceLeDiff, Nat.reduceLT, Nat.reduceGT, Nat.reduceEqDiff, Nat.reduceBEq, Int.reduceNeg, Int.reduceEq, Int.reduceLT, Int.reduceLE, Int.reduceBEq, Int.reduceToNat, Int.toNat_natCast, Int.natCast_zero, r52_C0, h1, h2]
theorem cm_step (a b : Nat) (hb : 0 < b) (ih : CmLoop b (a % b)) : CmLoop a b := by
  have h1 : ((b : Int) != 0) = true := by simp; omega
  have h2 : ((b : Int) = 0) = False := eq_false (by omega)
  have h3 : (a : Int).tmod (b : Int) = ((a % b : Nat) : Int) := (Int.ofNat_tmod a b).symm
  have hg : Nat.gcd a b = Nat.gcd b (a % b) := by rw [Nat.gcd_comm a b, Nat.gcd_rec b a, Nat.gcd_comm]
  unfold CmLoop at ih ⊢
  rw [r52_B0_eq, hg]
  simp (disch := omega) only [go_sem, and_self, and_true, true_and, false_and, and_false, Nat.reduceAdd, Nat.reduceMul, Nat.reduceSub, Nat.reduceLeDiff, Nat.reduceLT, Nat.reduceGT, Nat.reduceEqDiff, Nat.reduceBEq, Int.reduceNeg, Int.reduceEq, Int.reduceLT, Int.reduceLE, Int.reduceBEq, Int.reduceToNat, Int.toNat_natCast, Int.natCast_zero, r52_C0, h1, h2, h3]
  exact ih
theorem cm_loop : ∀ (n b a : Nat), b ≤ n → CmLoop a b
  | 0, b, a, h => by obtain rfl : b = 0 := by omega
                     exact cm_end a
  | n + 1, b, a, h => by
    by_cases hb : b = 0
    · subst hb; exact cm_end a
    · have := Nat.mod_lt a (show 0 < b by omega)
      exact cm_step a b (by omega) (cm_loop n (a % b) b (by omega))
theorem common_ok (a b : Nat) (hp : List Ent) : F tab 52 [.d (uv a), .d (uv b)] hp = some (.ret (.d (uv (Nat.gcd a b : Nat))) hp) := by
  have hL := cm_loop b b a (Nat.le_refl _)
  unfold CmLoop at hL
  refine f52 rfl ?_
  simp (disch := omega) only [go_sem, and_self, and_true, true_and, false_and, and_false, Nat.reduceAdd, Nat.reduceMul, Nat.reduceSub, Nat.reduceLeDiff, Nat.reduceLT, Nat.reduceGT, Nat.reduceEqDiff, Nat.reduceBEq, Int.reduceNeg, Int.reduceEq, Int.reduceLT, Int.reduceLE, Int.reduceBEq, Int.reduceToNat, Int.toNat_natCast, Int.natCast_zero, r52_T, r52]
  rw [r52_B0_n]
  erw [hL]
  simp (disch := omega) only [go_sem, and_self, and_true, true_and, false_and, and_false, Nat.reduceAdd, Nat.reduceMul, Nat.reduceSub, Nat.reduceLeDiff, Nat.reduceLT, Nat.reduceGT, Nat.reduceEqDiff, Nat.reduceBEq, Int.reduceNeg, Int.reduceEq, Int.reduceLT, Int.reduceLE, Int.reduceBEq, Int.reduceToNat, Int.toNat_natCast, Int.natCast_zero]

def SpIs (y n k : Nat) : Prop := ∃ j m : Nat, V (F tab) r54_B0 (r54_S0 (.d (uv n)) (.d (uv y)) (.d (iv k)) []) = some (.norm, r54_E0 (.d (uv m)) (.d (iv (k + j : Nat))) []) ∧ n = y ^ j * m ∧ m % y ≠ 0 ∧ 0 < m
theorem sp_end (y n k : Nat) (hy : 1 < y) (hn : 0 < n) (h : n % y ≠ 0) : SpIs y n k := by
  refine ⟨0, n, ?_, by simp, h, hn⟩
  have h2 : ((y : Int) = 0) = False := eq_false (by omega)
  have h3 : (n : Int).tmod (y : Int) = ((n % y : Nat) : Int) := (Int.ofNat_tmod n y).symm
  have h4 : (((n % y : Nat) : Int) == 0) = false := by simp only [beq_eq_false_iff_ne, ne_eq]; omega
  rw [r54_B0_eq, Nat.add_zero]
  simp (disch := omega) only [go_sem, and_self, and_true, true_and, false_and, and_false, Nat.reduceAdd, Nat.reduceMul, Nat.reduceSub, Nat.reduceLeDiff, Nat.reduceLT, Nat.reduceGT, Nat.reduceEqDiff, Nat.reduceBEq, Int.reduceNeg, Int.reduceEq, Int.reduceLT, Int.reduceLE, Int.reduceBEq, Int.reduceToNat, Int.toNat_natCast, Int.natCast_zero, r54_C0, h2, h3, h4]
theorem sp_step (y n k : Nat) (hy : 1 < y) (hn : 0 < n) (hk : k ≤ 1000000000000000000) (hn2 : n ≤ 1000000000000000000) (h : n % y = 0) (ih : SpIs y (n / y) (k + 1)) : SpIs y n k := by
  obtain ⟨j, m, e1, e2, e3, e4⟩ := ih
  have hle : n / y ≤ n := Nat.div_le_self n y
  refine ⟨j + 1, m, ?_, ?_, e3, e4⟩
  · have h2 : ((y : Int) = 0) = False := eq_false (by omega)
    have h3 : (n : Int).tmod (y : Int) = ((n % y : Nat) : Int) := (Int.ofNat_tmod n y).symm
    have h4 : (((n % y : Nat) : Int) == 0) = true := by rw [h]; rfl
    have h5 : (n : Int).tdiv (y : Int) = ((n / y : Nat) : Int) := (Int.ofNat_tdiv n y).symm
    have h6 : IntKind.u64.wrap ((n / y : Nat) : Int) = ((n / y : Nat) : Int) := wu64 (by omega)
    have h7 : (k : Int) + 1 = ((k + 1 : Nat) : Int) := rfl
    have h8 : IntKind.i64.wrap ((k + 1 : Nat) : Int) = ((k + 1 : Nat) : Int) := w64 (by omega)
    rw [show k + 1 + j = k + (j + 1) by omega] at e1
    rw [r54_B0_eq]
    simp (disch := omega) only [go_sem, and_self, and_true, true_and, false_and, and_false, Nat.reduceAdd, Nat.reduceMul, Nat.reduceSub, Nat.reduceLeDiff, Nat.reduceLT, Nat.reduceGT, Nat.reduceEqDiff, Nat.reduceBEq, Int.reduceNeg, Int.reduceEq, Int.reduceLT, Int.reduceLE, Int.reduceBEq, Int.reduceToNat, Int.toNat_natCast, Int.natCast_zero, r54_C0, h2, h3, h4, h5, h6, h7, h8]
    exact e1
  · have := Nat.div_add_mod n y
    rw [h, Nat.add_zero] at this
    rw [← this, Nat.pow_succ, Nat.mul_comm (y ^ j) y, Nat.mul_assoc, ← e2]
theorem sp_loop (y : Nat) (hy : 1 < y) : ∀ (b n k : Nat), n ≤ b → 0 < n → b ≤ 1000000000000000 → k + b ≤ 1000000000000000000 → SpIs y n k
  | 0, n, k, h, hn, _, _ => by omega
  | b + 1, n, k, h, hn, hb, hk => by
    by_cases g : n % y = 0
    · have h1 : n / y < n := Nat.div_lt_self hn hy
      have h2 : 0 < n / y := Nat.div_pos (Nat.le_of_dvd hn (Nat.dvd_of_mod_eq_zero g)) (by omega)
      exact sp_step y n k hy hn (by omega) (by omega) g (sp_loop y hy b (n / y) (k + 1) (by omega) h2 (by omega) (by omega))
    · exact sp_end y n k hy hn g
theorem split_ok (y n : Nat) (hy : 1 < y) (hn : 0 < n) (hn2 : n ≤ 1000000000000000) : ∃ j m : Nat, (∀ hp, F tab 54 [.d (uv n), .d (uv y)] hp = some (.ret (.tup [.d (iv j), .d (uv m)]) hp)) ∧ n = y ^ j * m ∧ m % y ≠ 0 ∧ 0 < m := by
  obtain ⟨j, m, e1, e2, e3, e4⟩ := sp_loop y hy n n 0 (Nat.le_refl _) hn hn2 (by omega)
  rw [Nat.zero_add] at e1
  refine ⟨j, m, fun hp => ?_, e2, e3, e4⟩
  refine f54 rfl ?_
  simp (disch := omega) only [go_sem, and_self, and_true, true_and, false_and, and_false, Nat.reduceAdd, Nat.reduceMul, Nat.reduceSub, Nat.reduceLeDiff, Nat.reduceLT, Nat.reduceGT, Nat.reduceEqDiff, Nat.reduceBEq, Int.reduceNeg, Int.reduceEq, Int.reduceLT, Int.reduceLE, Int.reduceBEq, Int.reduceToNat, Int.toNat_natCast, Int.natCast_zero, r54_T, r54]
  rw [r54_B0_n]
  erw [e1]
  simp (disch := omega) only [go_sem, and_self, and_true, true_and, false_and, and_false, Nat.reduceAdd, Nat.reduceMul, Nat.reduceSub, Nat.reduceLeDiff, Nat.reduceLT, Nat.reduceGT, Nat.reduceEqDiff, Nat.reduceBEq, Int.reduceNeg, Int.reduceEq, Int.reduceLT, Int.reduceLE, Int.reduceBEq, Int.reduceToNat, Int.toNat_natCast, Int.natCast_zero]

def TmIs (y n j i : Nat) : Prop := V (F tab) r55_B0 (r55_S0 (.d (uv n)) (.d (uv y)) (.d (iv j)) (.d (iv i)) []) =
  if n * y ^ (j - i) < 1000000000000000 then some (.norm, r55_E0 (.d (uv (n * y ^ (j - i) : Nat))) []) else some (.ret, r55_R (.d (uv 0)) (.d (.bool false)) [])
theorem tm_end (y n j : Nat) (hn2 : n < 1000000000000000) : TmIs y n j j := by
  have h1 : ((j : Int) < (j : Int)) = False := eq_false (by omega)
  unfold TmIs
  rw [Nat.sub_self, Nat.pow_zero, Nat.mul_one, if_pos hn2, r55_B0_eq]
  simp (disch := omega) only [go_sem, and_self, and_true, true_and, false_and, and_false, Nat.reduceAdd, Nat.reduceMul, Nat.reduceSub, Nat.reduceLeDiff, Nat.reduceLT, Nat.reduceGT, Nat.reduceEqDiff, Nat.reduceBEq, Int.reduceNeg, Int.reduceEq, Int.reduceLT, Int.reduceLE, Int.reduceBEq, Int.reduceToNat, Int.toNat_natCast, Int.natCast_zero, r55_C0, h1]
theorem tm_step (y n j i : Nat) (hy : 1 ≤ y) (hy2 : y ≤ 10) (hn : 0 < n) (hn2 : n < 1000000000000000) (hi : i < j) (hj : j ≤ 1000000) (ih : n * y < 1000000000000000 → TmIs y (n * y) j (i + 1)) : TmIs y n j i := by
  have h1 : ((i : Int) < (j : Int)) = True := eq_true (by omega)
  have h2 : ((n : Int) == 0) = false := by simp only [beq_eq_false_iff_ne, ne_eq]; omega
  have h3 : (n : Int) * (y : Int) = ((n * y : Nat) : Int) := (Int.natCast_mul n y).symm
  have hle : n * y ≤ 10000000000000000 := by
    have : n * y ≤ n * 10 := Nat.mul_le_mul_left n hy2
    omega
  have h4 : IntKind.u64.wrap ((n * y : Nat) : Int) = ((n * y : Nat) : Int) := wu64 (by omega)
  have h5 : (i : Int) + 1 = ((i + 1 : Nat) : Int) := rfl
  have h6 : IntKind.i64.wrap ((i + 1 : Nat) : Int) = ((i + 1 : Nat) : Int) := w64 (by omega)
  have hp : n * y ^ (j - i) = n * y * y ^ (j - (i + 1)) := by
    rw [show j - i = (j - (i + 1)) + 1 by omega, Nat.pow_succ, Nat.mul_comm (y ^ _) y, Nat.mul_assoc]
  unfold TmIs at ih ⊢
  rw [hp, r55_B0_eq]
  by_cases g : n * y < 1000000000000000
  · have h7 : (((n * y : Nat) : Int) ≥ 1000000000000000) = False := eq_false (by omega)
    simp (disch := omega) only [go_sem, and_self, and_true, true_and, false_and, and_false, Nat.reduceAdd, Nat.reduceMul, Nat.reduceSub, Nat.reduceLeDiff, Nat.reduceLT, Nat.reduceGT, Nat.reduceEqDiff, Nat.reduceBEq, Int.reduceNeg, Int.reduceEq, Int.reduceLT, Int.reduceLE, Int.reduceBEq, Int.reduceToNat, Int.toNat_natCast, Int.natCast_zero, r55_C0, h1, h2, h3, h4, h5, h6, h7]
    exact ih g
  · have h7 : (((n * y : Nat) : Int) ≥ 1000000000000000) = True := eq_true (by omega)
    have h8 : ¬ n * y * y ^ (j - (i + 1)) < 1000000000000000 := by
      have hpos : 1 ≤ y ^ (j - (i + 1)) := by first | exact Nat.pow_pos (by omega) | exact Nat.pos_pow_of_pos _ (by omega) | exact Nat.one_le_pow _ _ (by omega)
      have := Nat.mul_le_mul_left (n * y) hpos
      omega
    rw [if_neg h8]
    simp (disch := omega) only [go_sem, and_self, and_true, true_and, false_and, and_false, Nat.reduceAdd, Nat.reduceMul, Nat.reduceSub, Nat.reduceLeDiff, Nat.reduceLT, Nat.reduceGT, Nat.reduceEqDiff, Nat.reduceBEq, Int.reduceNeg, Int.reduceEq, Int.reduceLT, Int.reduceLE, Int.reduceBEq, Int.reduceToNat, Int.toNat_natCast, Int.natCast_zero, r55_C0, h1, h2, h3, h4, h5, h6, h7]
theorem tm_loop (y j : Nat) (hy : 1 ≤ y) (hy2 : y ≤ 10) (hj : j ≤ 1000000) : ∀ (d i n : Nat), i + d = j → 0 < n → n < 1000000000000000 → TmIs y n j i
  | 0, i, n, h, _, hn2 => by obtain rfl : i = j := by omega
                             exact tm_end y n i hn2
  | d + 1, i, n, h, hn, hn2 => tm_step y n j i hy hy2 hn hn2 (by omega) hj fun g => tm_loop y j hy hy2 hj d (i + 1) (n * y) (by omega) (Nat.mul_pos hn (by omega)) g

def timesN (n y j : Nat) : Nat := if n * y ^ j < 1000000000000000 then n * y ^ j else 0
theorem times_ok (n y j : Nat) (hy : 1 ≤ y) (hy2 : y ≤ 10) (hj : j ≤ 1000000) (hn2 : n < 1000000000000000) (hp : List Ent) :
    F tab 55 [.d (uv n), .d (uv y), .d (iv j)] hp = some (.ret (.tup [.d (uv (timesN n y j)), .d (.bool (decide (n * y ^ j < 1000000000000000)))]) hp) := by
  refine f55 rfl ?_
  simp (disch := omega) only [go_sem, and_self, and_true, true_and, false_and, and_false, Nat.reduceAdd, Nat.reduceMul, Nat.reduceSub, Nat.reduceLeDiff, Nat.reduceLT, Nat.reduceGT, Nat.reduceEqDiff, Nat.reduceBEq, Int.reduceNeg, Int.reduceEq, Int.reduceLT, Int.reduceLE, Int.reduceBEq, Int.reduceToNat, Int.toNat_natCast, Int.natCast_zero, r55_T, r55]
  rw [r55_B0_n]
  by_cases hn : n = 0
  · subst hn
    have e : timesN 0 y j = 0 := by simp [timesN]
    have e2 : decide (0 * y ^ j < 1000000000000000) = true := by simp
    rw [e, e2]
    by_cases h : j = 0
    · subst h
      have := tm_end y 0 0 (by omega)
      unfold TmIs at this
      rw [Nat.zero_mul, if_pos (by omega)] at this
      erw [this]
      simp (disch := omega) only [go_sem, and_self, and_true, true_and, false_and, and_false, Nat.reduceAdd, Nat.reduceMul, Nat.reduceSub, Nat.reduceLeDiff, Nat.reduceLT, Nat.reduceGT, Nat.reduceEqDiff, Nat.reduceBEq, Int.reduceNeg, Int.reduceEq, Int.reduceLT, Int.reduceLE, Int.reduceBEq, Int.reduceToNat, Int.toNat_natCast, Int.natCast_zero]
    · have h1 : ((0 : Int) < (j : Int)) = True := eq_true (by omega)
      have h2 : (((0 : Nat) : Int) == 0) = true := rfl
      have h3 : ((0 : Int) == 0) = true := rfl
      rw [r55_B0_eq]
      simp (disch := omega) only [go_sem, and_self, and_true, true_and, false_and, and_false, Nat.reduceAdd, Nat.reduceMul, Nat.reduceSub, Nat.reduceLeDiff, Nat.reduceLT, Nat.reduceGT, Nat.reduceEqDiff, Nat.reduceBEq, Int.reduceNeg, Int.reduceEq, Int.reduceLT, Int.reduceLE, Int.reduceBEq, Int.reduceToNat, Int.toNat_natCast, Int.natCast_zero, r55_C0, h1, h2, h3]
  · have hL := tm_loop y j hy hy2 hj j 0 n (by omega) (by omega) hn2
    unfold TmIs at hL
    rw [Nat.sub_zero] at hL
    erw [hL]
    unfold timesN
    by_cases g : n * y ^ j < 1000000000000000
    · have e2 : decide (n * y ^ j < 1000000000000000) = true := decide_eq_true g
      rw [if_pos g, if_pos g, e2]
      simp (disch := omega) only [go_sem, and_self, and_true, true_and, false_and, and_false, Nat.reduceAdd, Nat.reduceMul, Nat.reduceSub, Nat.reduceLeDiff, Nat.reduceLT, Nat.reduceGT, Nat.reduceEqDiff, Nat.reduceBEq, Int.reduceNeg, Int.reduceEq, Int.reduceLT, Int.reduceLE, Int.reduceBEq, Int.reduceToNat, Int.toNat_natCast, Int.natCast_zero]
    · have e2 : decide (n * y ^ j < 1000000000000000) = false := decide_eq_false g
      rw [if_neg g, if_neg g, e2]
      simp (disch := omega) only [go_sem, and_self, and_true, true_and, false_and, and_false, Nat.reduceAdd, Nat.reduceMul, Nat.reduceSub, Nat.reduceLeDiff, Nat.reduceLT, Nat.reduceGT, Nat.reduceEqDiff, Nat.reduceBEq, Int.reduceNeg, Int.reduceEq, Int.reduceLT, Int.reduceLE, Int.reduceBEq, Int.reduceToNat, Int.toNat_natCast, Int.natCast_zero]
theorem timesN_lt (n y j : Nat) : timesN n y j < 1000000000000000 := by
  unfold timesN; split <;> omega
end Go.Pe.T

namespace Go.Pe.T
/-! ### whole numbers -/
abbrev okT (z : Int) : PV := .tup [.d (.agg [iv z, iv 0]), .d (iv 0)]

theorem numIs_whole {z : Int} (h : -1000000000000000 < z ∧ z < 1000000000000000) : numIs z 0 = true := by
  simp [numIs, h]

theorem made0 {z : Int} (h : -1000000000000000 < z ∧ z < 1000000000000000) : madeT z 0 = okT z := by
  have e : makeOk z 0 = true := numIs_whole h
  rw [made_yes e]; rfl
theorem made9 {z : Int} (h : -1000000000000000 < z ∧ z < 1000000000000000) : madeT (z * 1000000000) 9 = okT z := by
  have hs : stripN (z * 1000000000) 9 = (z, 0) := strip_whole z 9
  have e : makeOk (z * 1000000000) 9 = true := by unfold makeOk; rw [hs]; exact numIs_whole h
  rw [made_yes e, hs]; rfl

theorem flat_whole (z : Int) : flatN z 0 = z * 1000000000 := by
  have e : (10 : Int) ^ (9 - 0) = 1000000000 := by decide
  unfold flatN; rw [e]

section
variable {x y : Int} (hx : -10000000 < x ∧ x < 10000000) (hy : -10000000 < y ∧ y < 10000000)
include hx hy

theorem add_whole (hp : List Ent) : F tab 35 [.d (numD x 0), .d (numD y 0)] hp = some (.ret (okT (x + y)) hp) := by
  have h := add_ok x y 0 0 (numIs_whole (by omega)) (numIs_whole (by omega)) hp
  rw [flat_whole, flat_whole, ← Int.add_mul, made9 (by omega)] at h
  exact h
theorem sub_whole (hp : List Ent) : F tab 34 [.d (numD x 0), .d (numD y 0)] hp = some (.ret (okT (x - y)) hp) := by
  have h := sub_ok x y 0 0 (numIs_whole (by omega)) (numIs_whole (by omega)) hp
  rw [flat_whole, flat_whole, ← Int.sub_mul, made9 (by omega)] at h
  exact h

theorem prod_lt : (x.natAbs : Int) * (y.natAbs : Int) ≤ 100000000000000 ∧ 0 ≤ (x.natAbs : Int) * (y.natAbs : Int) := by
  have h1 : (x.natAbs : Int) ≤ 10000000 := by omega
  have h2 : (y.natAbs : Int) ≤ 10000000 := by omega
  have h3 : (x.natAbs : Int) * (y.natAbs : Int) ≤ 10000000 * (y.natAbs : Int) := Int.mul_le_mul_of_nonneg_right h1 (by omega)
  exact ⟨by omega, Int.mul_nonneg (by omega) (by omega)⟩

theorem mul_whole (hp : List Ent) : F tab 36 [.d (numD x 0), .d (numD y 0)] hp = some (.ret (okT (x * y)) hp) := by
  have h1 := both_ok x 0 y 0
  rw [numIs_whole (z := x) (by omega), numIs_whole (z := y) (by omega)] at h1
  have h2 := size_ok x (by omega)
  have h3 := size_ok y (by omega)
  have h4 := mul64_ok x.natAbs y.natAbs (by omega) (by omega)
  obtain ⟨b1, b2⟩ := prod_lt hx hy
  have hP : (x < 0 → y < 0 → x * y = (x.natAbs : Int) * (y.natAbs : Int)) ∧ (x < 0 → ¬ y < 0 → x * y = 0 - (x.natAbs : Int) * (y.natAbs : Int)) ∧ (¬ x < 0 → y < 0 → x * y = 0 - (x.natAbs : Int) * (y.natAbs : Int)) ∧ (¬ x < 0 → ¬ y < 0 → x * y = (x.natAbs : Int) * (y.natAbs : Int)) := by
    refine ⟨fun a b => ?_, fun a b => ?_, fun a b => ?_, fun a b => ?_⟩
    · rw [show (x.natAbs : Int) = -x by omega, show (y.natAbs : Int) = -y by omega, Int.neg_mul_neg]
    · rw [show (x.natAbs : Int) = -x by omega, show (y.natAbs : Int) = y by omega, Int.neg_mul]; omega
    · rw [show (x.natAbs : Int) = x by omega, show (y.natAbs : Int) = -y by omega, Int.mul_neg]; omega
    · rw [show (x.natAbs : Int) = x by omega, show (y.natAbs : Int) = y by omega]
  generalize hPP : (x.natAbs : Int) * (y.natAbs : Int) = P at *
  have e1 : P / 18446744073709551616 = 0 := by omega
  have e2 : P % 18446744073709551616 = P := by omega
  rw [e1, e2] at h4
  have n0 : ((0 : Int) != 0) = false := rfl
  have n1 : ((0 : Int) + 0 > 0) = False := eq_false (by omega)
  have n2 : ((0 : Int) > 0) = False := eq_false (by omega)
  have n3 : (P ≥ 1000000000000000) = False := eq_false (by omega)
  have z0 : IntKind.i64.wrap (0 + 0) = 0 := by decide
  have a2 : ((2 : Nat) : Int) = 2 := rfl
  have a0 : (0 ≤ (0 : Int)) = True := by simp
  have a1 : (0 ≤ (1 : Int)) = True := by simp
  have t1 : (1 : Int).toNat = 1 := rfl
  have t0 : (0 : Int).toNat = 0 := rfl
  have hm : ∀ c : Int, (-1000000000000000 < c ∧ c < 1000000000000000) → ∀ hp, F tab 16 [.d (iv c), .d (iv 0)] hp = some (.ret (okT c) hp) := by
    intro c hc hp
    have := make_ok c 0 (by unfold i64; omega) (by omega) hp
    rw [made0 hc] at this
    exact this
  have hm1 := hm P (by omega)
  have hm2 := hm (0 - P) (by omega)
  refine f36 rfl ?_
  simp (disch := omega) only [go_sem, and_self, and_true, true_and, false_and, and_false, Nat.reduceAdd, Nat.reduceMul, Nat.reduceSub, Nat.reduceLeDiff, Nat.reduceLT, Nat.reduceGT, Nat.reduceEqDiff, Nat.reduceBEq, Int.reduceNeg, Int.reduceEq, Int.reduceLT, Int.reduceLE, Int.reduceBEq, Int.reduceToNat, Int.toNat_natCast, Int.natCast_zero, r36_T, r36, h1, h2, h3, h4, z0, a2, a0, a1, t0, t1]
  rw [r36_B0_n, r36_B0_eq]
  by_cases g1 : x < 0 <;> by_cases g2 : y < 0
  · have e := hP.1 g1 g2
    rw [e]
    simp (disch := omega) only [go_sem, and_self, and_true, true_and, false_and, and_false, Nat.reduceAdd, Nat.reduceMul, Nat.reduceSub, Nat.reduceLeDiff, Nat.reduceLT, Nat.reduceGT, Nat.reduceEqDiff, Nat.reduceBEq, Int.reduceNeg, Int.reduceEq, Int.reduceLT, Int.reduceLE, Int.reduceBEq, Int.reduceToNat, Int.toNat_natCast, Int.natCast_zero, r36_C0, n0, n1, n2, n3, a2, a0, a1, t0, t1, g1, g2, w64, hm1]
  · have e := hP.2.1 g1 g2
    rw [e]
    simp (disch := omega) only [go_sem, and_self, and_true, true_and, false_and, and_false, Nat.reduceAdd, Nat.reduceMul, Nat.reduceSub, Nat.reduceLeDiff, Nat.reduceLT, Nat.reduceGT, Nat.reduceEqDiff, Nat.reduceBEq, Int.reduceNeg, Int.reduceEq, Int.reduceLT, Int.reduceLE, Int.reduceBEq, Int.reduceToNat, Int.toNat_natCast, Int.natCast_zero, r36_C0, n0, n1, n2, n3, a2, a0, a1, t0, t1, g1, g2, w64, hm2]
  · have e := hP.2.2.1 g1 g2
    rw [e]
    simp (disch := omega) only [go_sem, and_self, and_true, true_and, false_and, and_false, Nat.reduceAdd, Nat.reduceMul, Nat.reduceSub, Nat.reduceLeDiff, Nat.reduceLT, Nat.reduceGT, Nat.reduceEqDiff, Nat.reduceBEq, Int.reduceNeg, Int.reduceEq, Int.reduceLT, Int.reduceLE, Int.reduceBEq, Int.reduceToNat, Int.toNat_natCast, Int.natCast_zero, r36_C0, n0, n1, n2, n3, a2, a0, a1, t0, t1, g1, g2, w64, hm2]
  · have e := hP.2.2.2 g1 g2
    rw [e]
    simp (disch := omega) only [go_sem, and_self, and_true, true_and, false_and, and_false, Nat.reduceAdd, Nat.reduceMul, Nat.reduceSub, Nat.reduceLeDiff, Nat.reduceLT, Nat.reduceGT, Nat.reduceEqDiff, Nat.reduceBEq, Int.reduceNeg, Int.reduceEq, Int.reduceLT, Int.reduceLE, Int.reduceBEq, Int.reduceToNat, Int.toNat_natCast, Int.natCast_zero, r36_C0, n0, n1, n2, n3, a2, a0, a1, t0, t1, g1, g2, w64, hm1]

theorem mod_whole (hy0 : y ≠ 0) (hp : List Ent) : F tab 28 [.d (numD x 0), .d (numD y 0)] hp = some (.ret (okT (x.tmod y)) hp) := by
  have h1 := both_ok x 0 y 0
  rw [numIs_whole (z := x) (by omega), numIs_whole (z := y) (by omega)] at h1
  have hb : -1000000000000000 < x.tmod y ∧ x.tmod y < 1000000000000000 := by
    have := Int.natAbs_tmod x y
    have h2 : x.natAbs % y.natAbs < y.natAbs := Nat.mod_lt _ (by omega)
    omega
  have hm : ∀ hp, F tab 16 [.d (iv (x.tmod y)), .d (iv 0)] hp = some (.ret (okT (x.tmod y)) hp) := by
    intro hp
    have := make_ok (x.tmod y) 0 (by unfold i64; omega) (by omega) hp
    rw [made0 hb] at this
    exact this
  have n0 : ((0 : Int) != 0) = false := rfl
  have n1 : (y == 0) = false := by simpa using hy0
  have n2 : (y = 0) = False := eq_false hy0
  refine f28 rfl ?_
  simp (disch := omega) only [go_sem, and_self, and_true, true_and, false_and, and_false, Nat.reduceAdd, Nat.reduceMul, Nat.reduceSub, Nat.reduceLeDiff, Nat.reduceLT, Nat.reduceGT, Nat.reduceEqDiff, Nat.reduceBEq, Int.reduceNeg, Int.reduceEq, Int.reduceLT, Int.reduceLE, Int.reduceBEq, Int.reduceToNat, Int.toNat_natCast, Int.natCast_zero, r28_T, r28, h1, n0, n1, n2, hm]
end

theorem int_ok {x : Int} (hx : -10000000 < x ∧ x < 10000000) (hp : List Ent) : F tab 37 [.d (iv x)] hp = some (.ret (okT x) hp) := by
  have hm : ∀ hp, F tab 16 [.d (iv x), .d (iv 0)] hp = some (.ret (okT x) hp) := by
    intro hp
    have := make_ok x 0 (by unfold i64; omega) (by omega) hp
    rw [made0 (by omega)] at this
    exact this
  refine f37 rfl ?_
  simp (disch := omega) only [go_sem, and_self, and_true, true_and, false_and, and_false, Nat.reduceAdd, Nat.reduceMul, Nat.reduceSub, Nat.reduceLeDiff, Nat.reduceLT, Nat.reduceGT, Nat.reduceEqDiff, Nat.reduceBEq, Int.reduceNeg, Int.reduceEq, Int.reduceLT, Int.reduceLE, Int.reduceBEq, Int.reduceToNat, Int.toNat_natCast, Int.natCast_zero, r37_T, r37, hm, w64]
end Go.Pe.T

namespace Go.Pe.T
/-! ### quotients of whole numbers -/

theorem pow_one_eq {b j m : Nat} (hb : 1 < b) (h : 1 = b ^ j * m) : j = 0 ∧ m = 1 := by
  have hj : j = 0 := by
    cases j with
    | zero => rfl
    | succ j =>
      exfalso
      have h2 : b ∣ 1 := ⟨b ^ j * m, by rw [h, Nat.pow_succ, Nat.mul_comm (b ^ j) b, Nat.mul_assoc]⟩
      have := Nat.le_of_dvd (by omega) h2
      omega
  subst hj
  simp at h
  exact ⟨rfl, h.symm⟩

theorem pow_small {b j m n : Nat} (hb : 2 ≤ b) (hm : 0 < m) (h : n = b ^ j * m) (hn : n < 10000000) : j < 24 := by
  by_cases hj : j < 24
  · exact hj
  · exfalso
    have h1 : (2 : Nat) ^ 24 ≤ 2 ^ j := Nat.pow_le_pow_right (by omega) (by omega)
    have h2 : (2 : Nat) ^ j ≤ b ^ j := Nat.pow_le_pow_left hb j
    have h3 : b ^ j * 1 ≤ b ^ j * m := Nat.mul_le_mul_left _ hm
    have h4 : (2 : Nat) ^ 24 = 16777216 := by decide
    omega

theorem quot_sign {x y : Int} (hx0 : x ≠ 0) (hy0 : y ≠ 0) (h : x.tmod y = 0) :
    Nat.gcd x.natAbs y.natAbs = y.natAbs ∧ x.natAbs / y.natAbs = (x.tdiv y).natAbs ∧ ((decide (x < 0) == decide (y < 0)) = true → x.tdiv y = ((x.tdiv y).natAbs : Int)) ∧ ((decide (x < 0) == decide (y < 0)) = false → x.tdiv y = 0 - ((x.tdiv y).natAbs : Int)) := by
  obtain ⟨z, rfl⟩ := Int.dvd_of_tmod_eq_zero h
  have hz : (y * z).tdiv y = z := Int.mul_tdiv_cancel_left z hy0
  have hz0 : z ≠ 0 := by intro e; subst e; simp at hx0
  rw [hz, Int.natAbs_mul]
  refine ⟨Nat.gcd_eq_right ⟨z.natAbs, rfl⟩, Nat.mul_div_cancel_left _ (by omega), ?_, ?_⟩
  · intro e
    rcases Int.lt_or_gt_of_ne hy0 with h1 | h1 <;> rcases Int.lt_or_gt_of_ne hz0 with h2 | h2
    · have := Int.mul_pos_of_neg_of_neg h1 h2
      have g1 : decide (y * z < 0) = false := decide_eq_false (by omega)
      have g2 : decide (y < 0) = true := decide_eq_true h1
      rw [g1, g2] at e; simp at e
    · omega
    · have := Int.mul_neg_of_pos_of_neg h1 h2
      have g1 : decide (y * z < 0) = true := decide_eq_true (by omega)
      have g2 : decide (y < 0) = false := decide_eq_false (by omega)
      rw [g1, g2] at e; simp at e
    · omega
  · intro e
    rcases Int.lt_or_gt_of_ne hy0 with h1 | h1 <;> rcases Int.lt_or_gt_of_ne hz0 with h2 | h2
    · omega
    · have := Int.mul_neg_of_neg_of_pos h1 h2
      have g1 : decide (y * z < 0) = true := decide_eq_true (by omega)
      have g2 : decide (y < 0) = true := decide_eq_true h1
      rw [g1, g2] at e; simp at e
    · omega
    · have := Int.mul_pos h1 h2
      have g1 : decide (y * z < 0) = false := decide_eq_false (by omega)
      have g2 : decide (y < 0) = false := decide_eq_false (by omega)
      rw [g1, g2] at e; simp at e

abbrev numT (u v e : Int) : PV := .tup [.d (.agg [iv u, iv v]), .d (iv e)]

set_option maxHeartbeats 4000000 in
theorem div_whole {x y : Int} (hx : -10000000 < x ∧ x < 10000000) (hy : -10000000 < y ∧ y < 10000000) (hy0 : y ≠ 0) :
    ∃ u v e : Int, (∀ hp, F tab 26 [.d (numD x 0), .d (numD y 0)] hp = some (.ret (numT u v e) hp)) ∧ (x.tmod y = 0 → u = x.tdiv y ∧ v = 0 ∧ e = 0) := by
  have h1 := both_ok x 0 y 0
  rw [numIs_whole (z := x) (by omega), numIs_whole (z := y) (by omega)] at h1
  have n1 : (y == 0) = false := by simpa using hy0
  by_cases hx0 : x = 0
  · subst hx0
    have n0 : ((0 : Int) == 0) = true := rfl
    refine ⟨0, 0, 0, fun hp => ?_, fun _ => ⟨by simp, rfl, rfl⟩⟩
    refine f26 rfl ?_
    simp (maxSteps := 2000000) (disch := omega) only [go_sem, and_self, and_true, true_and, false_and, and_false, Nat.reduceAdd, Nat.reduceMul, Nat.reduceSub, Nat.reduceLeDiff, Nat.reduceLT, Nat.reduceGT, Nat.reduceEqDiff, Nat.reduceBEq, Int.reduceNeg, Int.reduceEq, Int.reduceLT, Int.reduceLE, Int.reduceBEq, Int.reduceToNat, Int.toNat_natCast, Int.natCast_zero, r26_T, r26, h1, n1, n0]
  have n2 : (x == 0) = false := by simpa using hx0
  have h2 := size_ok x (by omega)
  have h3 := size_ok y (by omega)
  have h4 := common_ok x.natAbs y.natAbs
  have hE := quot_sign hx0 hy0
  have hg0 : 0 < Nat.gcd x.natAbs y.natAbs := Nat.gcd_pos_of_pos_left _ (by omega)
  have hgx : Nat.gcd x.natAbs y.natAbs ≤ x.natAbs := Nat.le_of_dvd (by omega) (Nat.gcd_dvd_left _ _)
  have hgy : Nat.gcd x.natAbs y.natAbs ≤ y.natAbs := Nat.le_of_dvd (by omega) (Nat.gcd_dvd_right _ _)
  have hq0 : 0 < y.natAbs / Nat.gcd x.natAbs y.natAbs := Nat.div_pos hgy hg0
  have hqle : y.natAbs / Nat.gcd x.natAbs y.natAbs ≤ y.natAbs := Nat.div_le_self _ _
  have hple : x.natAbs / Nat.gcd x.natAbs y.natAbs ≤ x.natAbs := Nat.div_le_self _ _
  have hq1 : x.tmod y = 0 → y.natAbs / Nat.gcd x.natAbs y.natAbs = 1 := fun h => by rw [(hE h).1]; exact Nat.div_self (by omega)
  have hp1 : x.tmod y = 0 → x.natAbs / Nat.gcd x.natAbs y.natAbs = (x.tdiv y).natAbs := fun h => by rw [(hE h).1]; exact (hE h).2.1
  have hdx : ((x.natAbs : Nat) : Int).tdiv (Nat.gcd x.natAbs y.natAbs : Nat) = ((x.natAbs / Nat.gcd x.natAbs y.natAbs : Nat) : Int) := (Int.ofNat_tdiv _ _).symm
  have hdy : ((y.natAbs : Nat) : Int).tdiv (Nat.gcd x.natAbs y.natAbs : Nat) = ((y.natAbs / Nat.gcd x.natAbs y.natAbs : Nat) : Int) := (Int.ofNat_tdiv _ _).symm
  have hgi : (((Nat.gcd x.natAbs y.natAbs : Nat) : Int) = 0) = False := eq_false (by omega)
  generalize Nat.gcd x.natAbs y.natAbs = g at *
  generalize hP : x.natAbs / g = p at *
  generalize hQ : y.natAbs / g = q at *
  have wp : IntKind.u64.wrap (p : Int) = p := wu64 (by omega)
  have wq : IntKind.u64.wrap (q : Int) = q := wu64 (by omega)
  obtain ⟨j2, m2, s2, e2, d2, p2⟩ := split_ok 2 q (by omega) hq0 (by omega)
  have hj2 : j2 < 24 := pow_small (by omega) p2 e2 (by omega)
  have hm2 : m2 ≤ q := by
    rw [e2]
    have : 1 ≤ 2 ^ j2 := by first | exact Nat.pow_pos (by omega) | exact Nat.pos_pow_of_pos _ (by omega)
    have := Nat.mul_le_mul_right m2 this
    omega
  obtain ⟨j5, m5, s5, e5, d5, p5⟩ := split_ok 5 m2 (by omega) p2 (by omega)
  have hj5 : j5 < 24 := pow_small (by omega) p5 e5 (by omega)
  obtain ⟨k, hk1, hk2, hk3⟩ : ∃ k : Nat, (if (j5 : Int) > (j2 : Int) then (j5 : Int) else (j2 : Int)) = (k : Int) ∧ j2 ≤ k ∧ j5 ≤ k ∧ k < 24 ∧ (j2 = 0 → j5 = 0 → k = 0) := by
    by_cases h : j5 > j2
    · exact ⟨j5, by rw [if_pos (by omega)], by omega, by omega, by omega, by omega⟩
    · exact ⟨j2, by rw [if_neg (by omega)], by omega, by omega, by omega, by omega⟩
  obtain ⟨hk4, hk5, hk6⟩ := hk3
  have dk2 : (k : Int) - (j2 : Int) = ((k - j2 : Nat) : Int) := by omega
  have dk5 : (k : Int) - (j5 : Int) = ((k - j5 : Nat) : Int) := by omega
  have t2 := times_ok p 2 (k - j2) (by omega) (by omega) (by omega) (by omega)
  have l2 := timesN_lt p 2 (k - j2)
  have t5 := times_ok (timesN p 2 (k - j2)) 5 (k - j5) (by omega) (by omega) (by omega) l2
  have l5 := timesN_lt (timesN p 2 (k - j2)) 5 (k - j5)
  have t10 : ∀ hp, F tab 55 [.d (uv (timesN (timesN p 2 (k - j2)) 5 (k - j5))), .d (uv 10), .d (iv 0)] hp = some (.ret (.tup [.d (uv (timesN (timesN p 2 (k - j2)) 5 (k - j5))), .d (.bool true)]) hp) := by
    intro hp
    have h := times_ok (timesN (timesN p 2 (k - j2)) 5 (k - j5)) 10 0 (by omega) (by omega) (by omega) l5 hp
    have ee : timesN (timesN (timesN p 2 (k - j2)) 5 (k - j5)) 10 0 = timesN (timesN p 2 (k - j2)) 5 (k - j5) := by
      rw [timesN, Nat.pow_zero, Nat.mul_one, if_pos l5]
    rw [ee, Nat.pow_zero, Nat.mul_one, decide_eq_true l5] at h
    exact h
  have hex : x.tmod y = 0 → m5 = 1 ∧ k = 0 ∧ timesN p 2 (k - j2) = p ∧ timesN (timesN p 2 (k - j2)) 5 (k - j5) = p ∧ p = (x.tdiv y).natAbs ∧ decide (p * 2 ^ (k - j2) < 1000000000000000) = true ∧ decide (timesN p 2 (k - j2) * 5 ^ (k - j5) < 1000000000000000) = true := by
    intro h
    have a1 := hq1 h
    rw [a1] at e2
    obtain ⟨a2, a3⟩ := pow_one_eq (by omega) e2
    rw [a3] at e5
    obtain ⟨a4, a5⟩ := pow_one_eq (by omega) e5
    have a6 := hk6 a2 a4
    have a7 : timesN p 2 (k - j2) = p := by rw [a6, Nat.zero_sub, timesN, Nat.pow_zero, Nat.mul_one, if_pos (by omega)]
    refine ⟨a5, a6, a7, ?_, hp1 h, ?_, ?_⟩
    · rw [a7, a6, Nat.zero_sub, timesN, Nat.pow_zero, Nat.mul_one, if_pos (by omega)]
    · rw [a6, Nat.zero_sub, Nat.pow_zero, Nat.mul_one]; exact decide_eq_true (by omega)
    · rw [a7, a6, Nat.zero_sub, Nat.pow_zero, Nat.mul_one]; exact decide_eq_true (by omega)
  generalize timesN p 2 (k - j2) = n1' at *
  generalize timesN n1' 5 (k - j5) = n2' at *
  generalize decide (p * 2 ^ (k - j2) < 1000000000000000) = b2 at *
  generalize decide (n1' * 5 ^ (k - j5) < 1000000000000000) = b5 at *
  have z1 : ((0 : Int) - (k : Int) > 0) = False := eq_false (by omega)
  have z2 : (if (k : Int) > 0 then (k : Int) else 0) = (k : Int) := by split <;> omega
  have az : ∀ a : Int, a + 0 = a := fun a => Int.add_zero a
  have sz : ∀ a : Int, a - 0 = a := fun a => Int.sub_zero a
  have n8 : ((2 : Nat) : Int) = 2 := rfl
  have n9 : ((5 : Nat) : Int) = 5 := rfl
  simp only [n8, n9] at s2 s5 t2 t5
  by_cases c1 : m5 = 1
  · have q1 : ((m5 : Int) != 1) = false := by subst c1; rfl
    cases b2 with
    | false =>
      refine ⟨0, 0, 8, fun hp => ?_, fun h => absurd (hex h).2.2.2.2.2.1 (by simp)⟩
      refine f26 rfl ?_
      simp (maxSteps := 2000000) (disch := omega) only [go_sem, and_self, and_true, true_and, false_and, and_false, Nat.reduceAdd, Nat.reduceMul, Nat.reduceSub, Nat.reduceLeDiff, Nat.reduceLT, Nat.reduceGT, Nat.reduceEqDiff, Nat.reduceBEq, Int.reduceNeg, Int.reduceEq, Int.reduceLT, Int.reduceLE, Int.reduceBEq, Int.reduceToNat, Int.toNat_natCast, Int.natCast_zero, r26_T, r26, h1, h2, h3, h4, n1, n2, hdx, hdy, hgi, wp, wq, s2, s5, hk1, dk2, dk5, t2, t5, t10, z1, z2, az, sz, q1, w64]
    | true =>
      cases b5 with
      | false =>
        refine ⟨0, 0, 8, fun hp => ?_, fun h => absurd (hex h).2.2.2.2.2.2 (by simp)⟩
        refine f26 rfl ?_
        simp (maxSteps := 2000000) (disch := omega) only [go_sem, and_self, and_true, true_and, false_and, and_false, Nat.reduceAdd, Nat.reduceMul, Nat.reduceSub, Nat.reduceLeDiff, Nat.reduceLT, Nat.reduceGT, Nat.reduceEqDiff, Nat.reduceBEq, Int.reduceNeg, Int.reduceEq, Int.reduceLT, Int.reduceLE, Int.reduceBEq, Int.reduceToNat, Int.toNat_natCast, Int.natCast_zero, r26_T, r26, h1, h2, h3, h4, n1, n2, hdx, hdy, hgi, wp, wq, s2, s5, hk1, dk2, dk5, t2, t5, t10, z1, z2, az, sz, q1, w64]
      | true =>
        obtain ⟨sb, hsb⟩ : ∃ b, (decide (x < 0) == decide (y < 0)) = b := ⟨_, rfl⟩
        have fin : ∀ c : Int, (-1000000000000000 < c ∧ c < 1000000000000000) → (x.tmod y = 0 → c = x.tdiv y) → (∀ T : PV, (∀ hp, F tab 16 [.d (iv c), .d (iv k)] hp = some (.ret T hp)) → (∃ u v e, T = numT u v e) → ∀ hp, F tab 26 [.d (numD x 0), .d (numD y 0)] hp = some (.ret T hp)) →
            ∃ u v e : Int, (∀ hp, F tab 26 [.d (numD x 0), .d (numD y 0)] hp = some (.ret (numT u v e) hp)) ∧ (x.tmod y = 0 → u = x.tdiv y ∧ v = 0 ∧ e = 0) := by
          intro c hc hcx hF
          have hmk := make_ok c k (by unfold i64; omega) (by omega)
          rcases Bool.eq_false_or_eq_true (makeOk c k) with gm | gm
          · rw [made_yes gm] at hmk
            refine ⟨_, _, _, hF _ hmk ⟨_, _, _, rfl⟩, fun h => ?_⟩
            have hk0 := (hex h).2.1
            subst hk0
            exact ⟨hcx h, rfl, rfl⟩
          · rw [made_no gm] at hmk
            refine ⟨_, _, _, hF _ hmk ⟨_, _, _, rfl⟩, fun h => ?_⟩
            exfalso
            have hk0 := (hex h).2.1
            subst hk0
            have : makeOk c 0 = true := numIs_whole hc
            rw [this] at gm
            simp at gm
        cases sb with
        | true =>
          refine fin n2' (by omega) (fun h => by obtain ⟨_, _, _, a1, a2, _, _⟩ := hex h; have := (hE h).2.2.1 hsb; omega) ?_
          rintro T hmk ⟨u, v, e, rfl⟩ hp
          refine f26 rfl ?_
          simp (maxSteps := 2000000) (disch := omega) only [go_sem, and_self, and_true, true_and, false_and, and_false, Nat.reduceAdd, Nat.reduceMul, Nat.reduceSub, Nat.reduceLeDiff, Nat.reduceLT, Nat.reduceGT, Nat.reduceEqDiff, Nat.reduceBEq, Int.reduceNeg, Int.reduceEq, Int.reduceLT, Int.reduceLE, Int.reduceBEq, Int.reduceToNat, Int.toNat_natCast, Int.natCast_zero, r26_T, r26, h1, h2, h3, h4, n1, n2, hdx, hdy, hgi, wp, wq, s2, s5, hk1, dk2, dk5, t2, t5, t10, z1, z2, az, sz, q1, w64, hsb, hmk]
        | false =>
          refine fin (0 - n2') (by omega) (fun h => by obtain ⟨_, _, _, a1, a2, _, _⟩ := hex h; have := (hE h).2.2.2 hsb; omega) ?_
          rintro T hmk ⟨u, v, e, rfl⟩ hp
          refine f26 rfl ?_
          simp (maxSteps := 2000000) (disch := omega) only [go_sem, and_self, and_true, true_and, false_and, and_false, Nat.reduceAdd, Nat.reduceMul, Nat.reduceSub, Nat.reduceLeDiff, Nat.reduceLT, Nat.reduceGT, Nat.reduceEqDiff, Nat.reduceBEq, Int.reduceNeg, Int.reduceEq, Int.reduceLT, Int.reduceLE, Int.reduceBEq, Int.reduceToNat, Int.toNat_natCast, Int.natCast_zero, r26_T, r26, h1, h2, h3, h4, n1, n2, hdx, hdy, hgi, wp, wq, s2, s5, hk1, dk2, dk5, t2, t5, t10, z1, z2, az, sz, q1, w64, hsb, hmk]
  · have q1 : ((m5 : Int) != 1) = true := by simp; omega
    refine ⟨0, 0, 8, fun hp => ?_, fun h => absurd (hex h).1 c1⟩
    refine f26 rfl ?_
    simp (maxSteps := 2000000) (disch := omega) only [go_sem, and_self, and_true, true_and, false_and, and_false, Nat.reduceAdd, Nat.reduceMul, Nat.reduceSub, Nat.reduceLeDiff, Nat.reduceLT, Nat.reduceGT, Nat.reduceEqDiff, Nat.reduceBEq, Int.reduceNeg, Int.reduceEq, Int.reduceLT, Int.reduceLE, Int.reduceBEq, Int.reduceToNat, Int.toNat_natCast, Int.natCast_zero, r26_T, r26, h1, h2, h3, h4, n1, n2, hdx, hdy, hgi, wp, wq, s2, s5, hk1, dk2, dk5, t2, t5, t10, z1, z2, az, sz, q1, w64]
end Go.Pe.T

namespace Go.Pe.T

set_option maxHeartbeats 4000000 in
theorem whole_core {x y : Int} (hx : -10000000 < x ∧ x < 10000000) (hy : -10000000 < y ∧ y < 10000000) (hp : List Ent) :
    F tab 8 [.d (iv x), .d (iv y)] hp = some (.ret (.d (.bool true)) hp) := by
  have g1 : ¬ x ≤ -10000000 := by omega
  have g2 : ¬ x ≥ 10000000 := by omega
  have g3 : ¬ y ≤ -10000000 := by omega
  have g4 : ¬ y ≥ 10000000 := by omega
  have ha := add_whole hx hy
  have hs := sub_whole hx hy
  have hm := mul_whole hx hy
  have hi := int_ok hx
  have hL := lives4_ok
  have n0 : ((0 : Int) != 0) = false := rfl
  have e0 : ((0 : Int) == 0) = true := rfl
  have z0 : IntKind.i64.wrap (0 + 0) = 0 := by decide
  have self : ∀ u : Int, (u != u) = false := fun u => by simp
  have he := eqD_num x 0 x 0
  have b1 := prod_lt hx hy
  have hxy : -100000000000000 ≤ x * y ∧ x * y ≤ 100000000000000 := by
    have := Int.natAbs_mul x y
    have h2 : ((x * y).natAbs : Int) = (x.natAbs : Int) * (y.natAbs : Int) := by rw [this]; exact Int.natCast_mul _ _
    omega
  have wm : IntKind.i64.wrap (x * y) = x * y := w64 (by omega)
  by_cases hy0 : y = 0
  · have h0 : (y == 0) = true := by simpa using hy0
    refine f8 rfl ?_
    simp (maxSteps := 2000000) (disch := omega) only [go_sem, and_self, and_true, true_and, false_and, and_false, Nat.reduceAdd, Nat.reduceMul, Nat.reduceSub, Nat.reduceLeDiff, Nat.reduceLT, Nat.reduceGT, Nat.reduceEqDiff, Nat.reduceBEq, Int.reduceNeg, Int.reduceEq, Int.reduceLT, Int.reduceLE, Int.reduceBEq, Int.reduceToNat, Int.toNat_natCast, Int.natCast_zero, r8_T, r8, g1, g2, g3, g4, ha, hs, hm, hi, hL, n0, e0, z0, self, he, wm, w64, h0]
  · have h0 : (y == 0) = false := by simpa using hy0
    have h0' : (y = 0) = False := eq_false hy0
    have hmd := mod_whole hx hy hy0
    obtain ⟨u, v, e, hd, hex⟩ := div_whole hx hy hy0
    by_cases h : x.tmod y = 0
    · obtain ⟨rfl, rfl, rfl⟩ := hex h
      have hn : (x.tmod y != 0) = false := by simpa using h
      have wq : IntKind.i64.wrap (x.tdiv y) = x.tdiv y := w64 (by have := Int.natAbs_tdiv_le_natAbs x y; omega)
      have he2 := eqD_num (x.tdiv y) 0 (x.tdiv y) 0
      refine f8 rfl ?_
      simp (maxSteps := 2000000) (disch := omega) only [go_sem, and_self, and_true, true_and, false_and, and_false, Nat.reduceAdd, Nat.reduceMul, Nat.reduceSub, Nat.reduceLeDiff, Nat.reduceLT, Nat.reduceGT, Nat.reduceEqDiff, Nat.reduceBEq, Int.reduceNeg, Int.reduceEq, Int.reduceLT, Int.reduceLE, Int.reduceBEq, Int.reduceToNat, Int.toNat_natCast, Int.natCast_zero, r8_T, r8, g1, g2, g3, g4, ha, hs, hm, hi, hL, n0, e0, z0, self, he, he2, wm, wq, w64, h0, h0', hmd, hd, hn]
    · have hn : (x.tmod y != 0) = true := by simpa using h
      refine f8 rfl ?_
      simp (maxSteps := 2000000) (disch := omega) only [go_sem, and_self, and_true, true_and, false_and, and_false, Nat.reduceAdd, Nat.reduceMul, Nat.reduceSub, Nat.reduceLeDiff, Nat.reduceLT, Nat.reduceGT, Nat.reduceEqDiff, Nat.reduceBEq, Int.reduceNeg, Int.reduceEq, Int.reduceLT, Int.reduceLE, Int.reduceBEq, Int.reduceToNat, Int.toNat_natCast, Int.natCast_zero, r8_T, r8, g1, g2, g3, g4, ha, hs, hm, hi, hL, n0, e0, z0, self, he, wm, w64, h0, h0', hmd, hd, hn]

theorem NumWhole_ok (x y : Int) (ox : i64 x) (oy : i64 y) (hp : List Ent) : F tab 8 [.d (iv x), .d (iv y)] hp = some (.ret (.d (.bool true)) hp) := by
  have hL := lives4_ok
  by_cases g1 : x ≤ -10000000
  · refine f8 rfl ?_
    simp (disch := omega) only [go_sem, and_self, and_true, true_and, false_and, and_false, Nat.reduceAdd, Nat.reduceMul, Nat.reduceSub, Nat.reduceLeDiff, Nat.reduceLT, Nat.reduceGT, Nat.reduceEqDiff, Nat.reduceBEq, Int.reduceNeg, Int.reduceEq, Int.reduceLT, Int.reduceLE, Int.reduceBEq, Int.reduceToNat, Int.toNat_natCast, Int.natCast_zero, r8_T, r8, g1, hL]
  by_cases g2 : x ≥ 10000000
  · refine f8 rfl ?_
    simp (disch := omega) only [go_sem, and_self, and_true, true_and, false_and, and_false, Nat.reduceAdd, Nat.reduceMul, Nat.reduceSub, Nat.reduceLeDiff, Nat.reduceLT, Nat.reduceGT, Nat.reduceEqDiff, Nat.reduceBEq, Int.reduceNeg, Int.reduceEq, Int.reduceLT, Int.reduceLE, Int.reduceBEq, Int.reduceToNat, Int.toNat_natCast, Int.natCast_zero, r8_T, r8, g1, g2, hL]
  by_cases g3 : y ≤ -10000000
  · refine f8 rfl ?_
    simp (disch := omega) only [go_sem, and_self, and_true, true_and, false_and, and_false, Nat.reduceAdd, Nat.reduceMul, Nat.reduceSub, Nat.reduceLeDiff, Nat.reduceLT, Nat.reduceGT, Nat.reduceEqDiff, Nat.reduceBEq, Int.reduceNeg, Int.reduceEq, Int.reduceLT, Int.reduceLE, Int.reduceBEq, Int.reduceToNat, Int.toNat_natCast, Int.natCast_zero, r8_T, r8, g1, g2, g3, hL]
  by_cases g4 : y ≥ 10000000
  · refine f8 rfl ?_
    simp (disch := omega) only [go_sem, and_self, and_true, true_and, false_and, and_false, Nat.reduceAdd, Nat.reduceMul, Nat.reduceSub, Nat.reduceLeDiff, Nat.reduceLT, Nat.reduceGT, Nat.reduceEqDiff, Nat.reduceBEq, Int.reduceNeg, Int.reduceEq, Int.reduceLT, Int.reduceLE, Int.reduceBEq, Int.reduceToNat, Int.toNat_natCast, Int.natCast_zero, r8_T, r8, g1, g2, g3, g4, hL]
  exact whole_core (by omega) (by omega) hp
end Go.Pe.T
