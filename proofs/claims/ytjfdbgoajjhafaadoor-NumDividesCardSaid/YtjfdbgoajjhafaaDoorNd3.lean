/- A part of the proof of: Quotients, what is left of divisions, floors and whole parts of all numbers that may be are the document's. -/
import Derived.Test.YtjfdbgoajjhafaaDoorNd2
import Derived.Test.YtjfdbgoajjhafaaDoorPe3
import Derived.KernelRfl
set_option linter.unusedSimpArgs false
set_option linter.unusedVariables false
set_option maxRecDepth 10000
set_option linter.unusedSectionVars false

namespace Go.Pe.T
/-- -1, 0, 1 -/
def sgn (a b : Int) : Int := if a < b then -1 else if a > b then 1 else 0

theorem numorder_ok (a b : Int) (hp : List Ent) : F tab 62 [.d (iv a), .d (iv b)] hp = some (.ret (.d (iv (sgn a b))) hp) := by
  refine f62 rfl ?_
  by_cases ha : a < b
  · simp only [go_sem, and_self, and_true, true_and, false_and, and_false, Nat.reduceAdd, Nat.reduceMul, Nat.reduceSub, Nat.reduceLeDiff, Nat.reduceLT, Nat.reduceGT, Nat.reduceEqDiff, Nat.reduceBEq, Int.reduceNeg, Int.reduceEq, Int.reduceLT, Int.reduceLE, Int.reduceBEq, Int.reduceToNat, Int.toNat_natCast, Int.natCast_zero, r62_T, r62, ha, sgn]
  · by_cases hb : a > b
    · simp only [go_sem, and_self, and_true, true_and, false_and, and_false, Nat.reduceAdd, Nat.reduceMul, Nat.reduceSub, Nat.reduceLeDiff, Nat.reduceLT, Nat.reduceGT, Nat.reduceEqDiff, Nat.reduceBEq, Int.reduceNeg, Int.reduceEq, Int.reduceLT, Int.reduceLE, Int.reduceBEq, Int.reduceToNat, Int.toNat_natCast, Int.natCast_zero, r62_T, r62, ha, hb, sgn]
    · simp only [go_sem, and_self, and_true, true_and, false_and, and_false, Nat.reduceAdd, Nat.reduceMul, Nat.reduceSub, Nat.reduceLeDiff, Nat.reduceLT, Nat.reduceGT, Nat.reduceEqDiff, Nat.reduceBEq, Int.reduceNeg, Int.reduceEq, Int.reduceLT, Int.reduceLE, Int.reduceBEq, Int.reduceToNat, Int.toNat_natCast, Int.natCast_zero, r62_T, r62, ha, hb, sgn]

abbrev numD (c s : Int) : D := .agg [iv c, iv s]

def numIs (c s : Int) : Bool := decide (0 ≤ s) && decide (s ≤ 9) && decide (-1000000000000000 < c) && decide (c < 1000000000000000) && (s == 0 || c.tmod 10 != 0)

theorem numIs_ok (c s : Int) (hp : List Ent) : F tab 19 [.d (numD c s)] hp = some (.ret (.d (.bool (numIs c s))) hp) := by
  refine f19 rfl ?_
  by_cases h1 : s < 0
  · have g1 : ¬ (0 ≤ s) := by omega
    simp only [go_sem, and_self, and_true, true_and, false_and, and_false, Nat.reduceAdd, Nat.reduceMul, Nat.reduceSub, Nat.reduceLeDiff, Nat.reduceLT, Nat.reduceGT, Nat.reduceEqDiff, Nat.reduceBEq, Int.reduceNeg, Int.reduceEq, Int.reduceLT, Int.reduceLE, Int.reduceBEq, Int.reduceToNat, Int.toNat_natCast, Int.natCast_zero, r19_T, r19, numIs, h1, g1]
  · have g1 : 0 ≤ s := by omega
    by_cases h2 : s > 9
    · have g2 : ¬ (s ≤ 9) := by omega
      simp only [go_sem, and_self, and_true, true_and, false_and, and_false, Nat.reduceAdd, Nat.reduceMul, Nat.reduceSub, Nat.reduceLeDiff, Nat.reduceLT, Nat.reduceGT, Nat.reduceEqDiff, Nat.reduceBEq, Int.reduceNeg, Int.reduceEq, Int.reduceLT, Int.reduceLE, Int.reduceBEq, Int.reduceToNat, Int.toNat_natCast, Int.natCast_zero, r19_T, r19, numIs, h1, g1, h2, g2]
    · have g2 : s ≤ 9 := by omega
      by_cases h3 : c ≤ -1000000000000000
      · have g3 : ¬ (-1000000000000000 < c) := by omega
        simp only [go_sem, and_self, and_true, true_and, false_and, and_false, Nat.reduceAdd, Nat.reduceMul, Nat.reduceSub, Nat.reduceLeDiff, Nat.reduceLT, Nat.reduceGT, Nat.reduceEqDiff, Nat.reduceBEq, Int.reduceNeg, Int.reduceEq, Int.reduceLT, Int.reduceLE, Int.reduceBEq, Int.reduceToNat, Int.toNat_natCast, Int.natCast_zero, r19_T, r19, numIs, h1, g1, h2, g2, h3, g3]
      · have g3 : -1000000000000000 < c := by omega
        by_cases h4 : c ≥ 1000000000000000
        · have g4 : ¬ (c < 1000000000000000) := by omega
          simp only [go_sem, and_self, and_true, true_and, false_and, and_false, Nat.reduceAdd, Nat.reduceMul, Nat.reduceSub, Nat.reduceLeDiff, Nat.reduceLT, Nat.reduceGT, Nat.reduceEqDiff, Nat.reduceBEq, Int.reduceNeg, Int.reduceEq, Int.reduceLT, Int.reduceLE, Int.reduceBEq, Int.reduceToNat, Int.toNat_natCast, Int.natCast_zero, r19_T, r19, numIs, h1, g1, h2, g2, h3, g3, h4, g4]
        · have g4 : c < 1000000000000000 := by omega
          by_cases h5 : s = 0
          · subst h5
            simp only [go_sem, and_self, and_true, true_and, false_and, and_false, Nat.reduceAdd, Nat.reduceMul, Nat.reduceSub, Nat.reduceLeDiff, Nat.reduceLT, Nat.reduceGT, Nat.reduceEqDiff, Nat.reduceBEq, Int.reduceNeg, Int.reduceEq, Int.reduceLT, Int.reduceLE, Int.reduceBEq, Int.reduceToNat, Int.toNat_natCast, Int.natCast_zero, r19_T, r19, numIs, h1, g1, h2, g2, h3, g3, h4, g4, Bool.true_or]
          · have g5 : (s == 0) = false := by simpa using h5
            simp only [go_sem, and_self, and_true, true_and, false_and, and_false, Nat.reduceAdd, Nat.reduceMul, Nat.reduceSub, Nat.reduceLeDiff, Nat.reduceLT, Nat.reduceGT, Nat.reduceEqDiff, Nat.reduceBEq, Int.reduceNeg, Int.reduceEq, Int.reduceLT, Int.reduceLE, Int.reduceBEq, Int.reduceToNat, Int.toNat_natCast, Int.natCast_zero, r19_T, r19, numIs, h1, g1, h2, g2, h3, g3, h4, g4, g5, Bool.false_or]

theorem both_ok (c s c' s' : Int) (hp : List Ent) : F tab 51 [.d (numD c s), .d (numD c' s')] hp = some (.ret (.d (.bool (numIs c s && numIs c' s'))) hp) := by
  refine f51 rfl ?_
  have h1 := numIs_ok c s
  have h2 := numIs_ok c' s'
  rcases Bool.eq_false_or_eq_true (numIs c s) with h | h
  · simp only [go_sem, and_self, and_true, true_and, false_and, and_false, Nat.reduceAdd, Nat.reduceMul, Nat.reduceSub, Nat.reduceLeDiff, Nat.reduceLT, Nat.reduceGT, Nat.reduceEqDiff, Nat.reduceBEq, Int.reduceNeg, Int.reduceEq, Int.reduceLT, Int.reduceLE, Int.reduceBEq, Int.reduceToNat, Int.toNat_natCast, Int.natCast_zero, r51_T, r51, h1, h2, h]
  · simp only [go_sem, and_self, and_true, true_and, false_and, and_false, Nat.reduceAdd, Nat.reduceMul, Nat.reduceSub, Nat.reduceLeDiff, Nat.reduceLT, Nat.reduceGT, Nat.reduceEqDiff, Nat.reduceBEq, Int.reduceNeg, Int.reduceEq, Int.reduceLT, Int.reduceLE, Int.reduceBEq, Int.reduceToNat, Int.toNat_natCast, Int.natCast_zero, r51_T, r51, h1, h2, h]

/-! ### powers of ten; numbers cut; which is greater -/

theorem p10_pos (n : Nat) : 0 < (10 : Int) ^ n := Int.pow_pos (by omega)
theorem p10_mono {a b : Nat} (h : a ≤ b) : (10 : Int) ^ a ≤ 10 ^ b := by
  have h1 : (10 : Nat) ^ a ≤ 10 ^ b := Nat.pow_le_pow_right (by omega) h
  have h2 : ((10 ^ a : Nat) : Int) ≤ ((10 ^ b : Nat) : Int) := by exact_mod_cast h1
  simpa using h2

theorem pow_loop (n : Nat) (hn : n ≤ 18) : ∀ (j i : Nat), i + j = n →
    V (F tab) r45_B0 (r45_S0 (.d (iv (10 ^ i))) (.d (iv n)) (.d (iv i)) []) = some (.norm, r45_E0 (.d (iv (10 ^ n))) [])
  | 0, i, hi => by
    obtain rfl : i = n := by omega
    rw [r45_B0_eq]
    have h1 : ((i : Int) < (i : Int)) = False := by simp
    simp only [go_sem, and_self, and_true, true_and, false_and, and_false, Nat.reduceAdd, Nat.reduceMul, Nat.reduceSub, Nat.reduceLeDiff, Nat.reduceLT, Nat.reduceGT, Nat.reduceEqDiff, Nat.reduceBEq, Int.reduceNeg, Int.reduceEq, Int.reduceLT, Int.reduceLE, Int.reduceBEq, Int.reduceToNat, Int.toNat_natCast, Int.natCast_zero, r45_C0, h1]
  | j + 1, i, hi => by
    have h1 : ((i : Int) < (n : Int)) = True := by simp; omega
    have h3 := p10_mono (show i + 1 ≤ 18 by omega)
    have h4 := p10_pos (i + 1)
    have e : (10 : Int) ^ (i + 1) = 10 ^ i * 10 := Int.pow_succ 10 i
    have e18 : (10 : Int) ^ 18 = 1000000000000000000 := by decide
    have ih := pow_loop n hn j (i + 1) (by omega)
    rw [r45_B0_eq]
    simp (disch := omega) only [go_sem, and_self, and_true, true_and, false_and, and_false, Nat.reduceAdd, Nat.reduceMul, Nat.reduceSub, Nat.reduceLeDiff, Nat.reduceLT, Nat.reduceGT, Nat.reduceEqDiff, Nat.reduceBEq, Int.reduceNeg, Int.reduceEq, Int.reduceLT, Int.reduceLE, Int.reduceBEq, Int.reduceToNat, Int.toNat_natCast, Int.natCast_zero, r45_C0, h1, w64]
    rw [e] at ih
    exact ih

theorem pow_ok (n : Nat) (hn : n ≤ 18) (hp : List Ent) : F tab 45 [.d (iv n)] hp = some (.ret (.d (iv (10 ^ n))) hp) := by
  refine f45 rfl ?_
  have hL := pow_loop n hn n 0 (by omega)
  simp (disch := omega) only [go_sem, and_self, and_true, true_and, false_and, and_false, Nat.reduceAdd, Nat.reduceMul, Nat.reduceSub, Nat.reduceLeDiff, Nat.reduceLT, Nat.reduceGT, Nat.reduceEqDiff, Nat.reduceBEq, Int.reduceNeg, Int.reduceEq, Int.reduceLT, Int.reduceLE, Int.reduceBEq, Int.reduceToNat, Int.toNat_natCast, Int.natCast_zero, r45_T, r45]
  rw [r45_B0_n]
  erw [hL]
  simp only [go_sem, and_self, and_true, true_and, false_and, and_false, Nat.reduceAdd, Nat.reduceMul, Nat.reduceSub, Nat.reduceLeDiff, Nat.reduceLT, Nat.reduceGT, Nat.reduceEqDiff, Nat.reduceBEq, Int.reduceNeg, Int.reduceEq, Int.reduceLT, Int.reduceLE, Int.reduceBEq, Int.reduceToNat, Int.toNat_natCast, Int.natCast_zero]

/-- the whole part, and billionths -/
def cutU (c : Int) (k : Nat) : Int := c.tdiv (10 ^ k)
def cutV (c : Int) (k : Nat) : Int := c.tmod (10 ^ k) * 10 ^ (9 - k)

theorem cut_bounds {c : Int} {k : Nat} (hk : k ≤ 9) (hc : -1000000000000000 < c ∧ c < 1000000000000000) :
    cutU c k * 1000000000 + cutV c k = c * 10 ^ (9 - k) ∧ -1000000000000000 < cutU c k ∧ cutU c k < 1000000000000000 ∧ -1000000000 < cutV c k ∧ cutV c k < 1000000000 ∧ (0 ≤ c → 0 ≤ cutU c k ∧ 0 ≤ cutV c k) ∧ (c ≤ 0 → cutU c k ≤ 0 ∧ cutV c k ≤ 0) ∧ -10 ^ k < c.tmod (10 ^ k) ∧ c.tmod (10 ^ k) < 10 ^ k := by
  have hp := p10_pos k
  have hq := p10_pos (9 - k)
  have hpq : (10 : Int) ^ k * 10 ^ (9 - k) = 1000000000 := by
    rw [← Int.pow_add, show k + (9 - k) = 9 by omega]; decide
  have hdm := Int.mul_tdiv_add_tmod c (10 ^ k)
  generalize hP : (10 : Int) ^ k = p at *
  generalize hQ : (10 : Int) ^ (9 - k) = q at *
  have hm1 : c.tmod p < p := Int.tmod_lt_of_pos c hp
  have hm2 : -p < c.tmod p := by
    have := Int.lt_tmod_of_pos c hp
    omega
  have hu : cutU c k = c.tdiv p := by unfold cutU; rw [hP]
  have hv : cutV c k = c.tmod p * q := by unfold cutV; rw [hP, hQ]
  rw [hu, hv]
  have hnat : (c.tdiv p).natAbs ≤ c.natAbs := Int.natAbs_tdiv_le_natAbs c p
  refine ⟨?_, by omega, by omega, ?_, ?_, ?_, ?_, hm2, hm1⟩
  · rw [← hpq]
    calc c.tdiv p * (p * q) + c.tmod p * q = (p * c.tdiv p + c.tmod p) * q := by rw [Int.add_mul]; congr 1; rw [Int.mul_comm p (c.tdiv p), Int.mul_assoc]
      _ = c * q := by rw [hdm]
  · have : -p * q < c.tmod p * q := Int.mul_lt_mul_of_pos_right hm2 hq
    rw [Int.neg_mul, hpq] at this
    exact this
  · have : c.tmod p * q < p * q := Int.mul_lt_mul_of_pos_right hm1 hq
    rw [hpq] at this
    exact this
  · intro h0
    exact ⟨Int.tdiv_nonneg h0 (by omega), Int.mul_nonneg (Int.tmod_nonneg p h0) (by omega)⟩
  · intro h0
    have h1 : c.tdiv p ≤ 0 := by
      have := Int.tdiv_nonneg (show 0 ≤ -c by omega) (show 0 ≤ p by omega)
      rw [Int.neg_tdiv] at this
      omega
    have h2 : c.tmod p ≤ 0 := by
      have := Int.tmod_nonneg p (show 0 ≤ -c by omega)
      rw [Int.neg_tmod] at this
      omega
    exact ⟨h1, Int.mul_nonpos_of_nonpos_of_nonneg h2 (by omega)⟩

theorem cut_ok (c : Int) (k : Nat) (hk : k ≤ 9) (hc : -1000000000000000 < c ∧ c < 1000000000000000) (hp : List Ent) :
    F tab 60 [.d (numD c k)] hp = some (.ret (.tup [.d (iv (cutU c k)), .d (iv (cutV c k))]) hp) := by
  refine f60 rfl ?_
  have h1 := pow_ok k (by omega)
  have h2 := pow_ok (9 - k) (by omega)
  have e : ((9 - k : Nat) : Int) = 9 - (k : Int) := by omega
  rw [e] at h2
  have hne : ((10 : Int) ^ k = 0) = False := by have := p10_pos k; simp; omega
  obtain ⟨b1, b2, b3, b4, b5, _⟩ := cut_bounds hk hc
  have w1 : IntKind.i64.wrap (c.tdiv (10 ^ k)) = cutU c k := by rw [← cutU, w64 (by omega)]
  have w2 : IntKind.i64.wrap (c.tmod (10 ^ k) * 10 ^ (9 - k)) = cutV c k := by rw [← cutV, w64 (by omega)]
  simp (disch := omega) only [go_sem, and_self, and_true, true_and, false_and, and_false, Nat.reduceAdd, Nat.reduceMul, Nat.reduceSub, Nat.reduceLeDiff, Nat.reduceLT, Nat.reduceGT, Nat.reduceEqDiff, Nat.reduceBEq, Int.reduceNeg, Int.reduceEq, Int.reduceLT, Int.reduceLE, Int.reduceBEq, Int.reduceToNat, Int.toNat_natCast, Int.natCast_zero, r60_T, r60, w64, h1, h2, hne, w1, w2]

/-- numbers at one scale -/
def flatN (c : Int) (k : Nat) : Int := c * 10 ^ (9 - k)

theorem cmp_math {c c' : Int} {k k' : Nat} (hk : k ≤ 9) (hk' : k' ≤ 9) (hc : -1000000000000000 < c ∧ c < 1000000000000000) (hc' : -1000000000000000 < c' ∧ c' < 1000000000000000) :
    (if cutU c k ≠ cutU c' k' then sgn (cutU c k) (cutU c' k') else sgn (cutV c k) (cutV c' k')) = sgn (flatN c k) (flatN c' k') := by
  obtain ⟨b1, b2, b3, b4, b5, b6, b7, _⟩ := cut_bounds hk hc
  obtain ⟨d1, d2, d3, d4, d5, d6, d7, _⟩ := cut_bounds hk' hc'
  unfold flatN
  rw [← b1, ← d1]
  unfold sgn
  split
  · rename_i hne
    by_cases h0 : 0 ≤ c
    · have := b6 h0
      by_cases h1 : 0 ≤ c'
      · have := d6 h1
        split <;> split <;> (try split) <;> omega
      · have := d7 (by omega)
        split <;> split <;> (try split) <;> omega
    · have := b7 (by omega)
      by_cases h1 : 0 ≤ c'
      · have := d6 h1
        split <;> split <;> (try split) <;> omega
      · have := d7 (by omega)
        split <;> split <;> (try split) <;> omega
  · rename_i hne
    have : cutU c k = cutU c' k' := by simpa using hne
    rw [this]
    split <;> split <;> (try split) <;> omega

theorem numIs_inv {c s : Int} (h : numIs c s = true) : ∃ k : Nat, s = k ∧ k ≤ 9 ∧ (-1000000000000000 < c ∧ c < 1000000000000000) := by
  simp only [numIs, Bool.and_eq_true, decide_eq_true_eq] at h
  exact ⟨s.toNat, by omega, by omega, by omega⟩

theorem numcmp_ok (c c' : Int) (k k' : Nat) (h : numIs c k = true) (h' : numIs c' k' = true) (hp : List Ent) :
    F tab 33 [.d (numD c k), .d (numD c' k')] hp = some (.ret (.d (iv (sgn (flatN c k) (flatN c' k')))) hp) := by
  obtain ⟨k1, e1, hk, hc⟩ := numIs_inv h
  obtain ⟨k2, e2, hk', hc'⟩ := numIs_inv h'
  obtain rfl : k = k1 := by omega
  obtain rfl : k' = k2 := by omega
  refine f33 rfl ?_
  have h1 := both_ok c k c' k'
  rw [h, h'] at h1
  have h2 := cut_ok c k hk hc
  have h3 := cut_ok c' k' hk' hc'
  have h4 := numorder_ok (cutU c k) (cutU c' k')
  have h5 := numorder_ok (cutV c k) (cutV c' k')
  rw [← cmp_math hk hk' hc hc']
  by_cases hu : cutU c k = cutU c' k'
  · have hu1 : (cutU c k != cutU c' k') = false := by simp [hu]
    have hu2 : (cutU c k ≠ cutU c' k') = False := by simp [hu]
    simp (disch := omega) only [go_sem, and_self, and_true, true_and, false_and, and_false, Nat.reduceAdd, Nat.reduceMul, Nat.reduceSub, Nat.reduceLeDiff, Nat.reduceLT, Nat.reduceGT, Nat.reduceEqDiff, Nat.reduceBEq, Int.reduceNeg, Int.reduceEq, Int.reduceLT, Int.reduceLE, Int.reduceBEq, Int.reduceToNat, Int.toNat_natCast, Int.natCast_zero, r33_T, r33, h1, h2, h3, h4, h5, hu1, hu2]
  · have hu1 : (cutU c k != cutU c' k') = true := by simp [hu]
    have hu2 : (cutU c k ≠ cutU c' k') = True := by simp [hu]
    simp (disch := omega) only [go_sem, and_self, and_true, true_and, false_and, and_false, Nat.reduceAdd, Nat.reduceMul, Nat.reduceSub, Nat.reduceLeDiff, Nat.reduceLT, Nat.reduceGT, Nat.reduceEqDiff, Nat.reduceBEq, Int.reduceNeg, Int.reduceEq, Int.reduceLT, Int.reduceLE, Int.reduceBEq, Int.reduceToNat, Int.toNat_natCast, Int.natCast_zero, r33_T, r33, h1, h2, h3, h4, h5, hu1, hu2]
end Go.Pe.T

namespace Go.Pe.T
/-! ### noughts taken off; sums -/

def stripN : Int → Nat → Int × Nat
  | c, 0 => (c, 0)
  | c, s + 1 => if c.tmod 10 = 0 then stripN (c.tdiv 10) s else (c, s + 1)

theorem strip_val : ∀ (k : Nat) (c : Int), (stripN c k).2 ≤ k ∧ (stripN c k).1 * 10 ^ (k - (stripN c k).2) = c ∧ ((stripN c k).2 = 0 ∨ (stripN c k).1.tmod 10 ≠ 0)
  | 0, c => by simp [stripN]
  | k + 1, c => by
    simp only [stripN]
    split
    · rename_i h
      obtain ⟨h1, h2, h3⟩ := strip_val k (c.tdiv 10)
      refine ⟨by omega, ?_, h3⟩
      have e : k + 1 - (stripN (c.tdiv 10) k).2 = (k - (stripN (c.tdiv 10) k).2) + 1 := by omega
      rw [e, Int.pow_succ, ← Int.mul_assoc, h2]
      have := Int.mul_tdiv_add_tmod c 10
      omega
    · rename_i h
      exact ⟨Nat.le_refl _, by simp, .inr h⟩

theorem strip_self : ∀ (k : Nat) (c : Int), (k = 0 ∨ c.tmod 10 ≠ 0) → stripN c k = (c, k)
  | 0, c, _ => rfl
  | k + 1, c, h => by
    simp only [stripN]
    rw [if_neg (h.resolve_left (by omega))]

theorem strip_add : ∀ (k : Nat) (w p : Int), stripN (w * 10 ^ k + p) k = (w * 10 ^ (stripN p k).2 + (stripN p k).1, (stripN p k).2)
  | 0, w, p => by simp [stripN]
  | k + 1, w, p => by
    have hp := p10_pos k
    have e : w * 10 ^ (k + 1) = w * 10 ^ k * 10 := by rw [Int.pow_succ, Int.mul_assoc]
    have hm : (w * 10 ^ (k + 1) + p).tmod 10 = 0 ↔ p.tmod 10 = 0 := by
      rw [e]
      generalize w * 10 ^ k = x
      have := Int.mul_tdiv_add_tmod p 10
      have := Int.mul_tdiv_add_tmod (x * 10 + p) 10
      constructor
      · intro h
        have h1 : (10 : Int) ∣ x * 10 + p := Int.dvd_of_tmod_eq_zero h
        have h2 : (10 : Int) ∣ p := by omega
        exact Int.tmod_eq_zero_of_dvd h2
      · intro h
        have h1 : (10 : Int) ∣ p := Int.dvd_of_tmod_eq_zero h
        have h2 : (10 : Int) ∣ x * 10 + p := by omega
        exact Int.tmod_eq_zero_of_dvd h2
    simp only [stripN]
    by_cases h : p.tmod 10 = 0
    · rw [if_pos (hm.2 h), if_pos h]
      have hd : (w * 10 ^ (k + 1) + p).tdiv 10 = w * 10 ^ k + p.tdiv 10 := by
        have h3 := hm.2 h
        rw [e] at h3 ⊢
        generalize w * 10 ^ k = x at *
        have h1 := Int.mul_tdiv_add_tmod p 10
        have h2 := Int.mul_tdiv_add_tmod (x * 10 + p) 10
        omega
      rw [hd]
      exact strip_add k w (p.tdiv 10)
    · rw [if_neg (fun h2 => h (hm.1 h2)), if_neg h]

theorem strip_abs (k : Nat) (c B : Int) (h : -B ≤ c ∧ c ≤ B) : -B ≤ (stripN c k).1 ∧ (stripN c k).1 ≤ B := by
  obtain ⟨_, h2, _⟩ := strip_val k c
  have hp := p10_pos (k - (stripN c k).2)
  generalize (stripN c k).1 = x at *
  generalize (10 : Int) ^ (k - (stripN c k).2) = q at *
  by_cases hx : 0 ≤ x
  · have : x * 1 ≤ x * q := Int.mul_le_mul_of_nonneg_left (by omega) hx
    omega
  · have : -x * 1 ≤ -x * q := Int.mul_le_mul_of_nonneg_left (by omega) (by omega)
    rw [Int.neg_mul, Int.neg_mul] at this
    omega

/-- what a coefficient at a scale comes to -/
def makeOk (c : Int) (k : Nat) : Bool := numIs (stripN c k).1 (stripN c k).2

theorem strip_zero : ∀ (k : Nat), stripN 0 k = (0, 0)
  | 0 => rfl
  | k + 1 => by simp only [stripN, Int.zero_tmod, Int.zero_tdiv, if_true, strip_zero k]

theorem strip_whole (z : Int) (k : Nat) : stripN (z * 10 ^ k) k = (z, 0) := by
  have := strip_add k z 0
  rw [strip_zero, Int.add_zero] at this
  simpa using this

theorem p10_cut (s : Nat) (hs : s ≤ 9) : (10 : Int) ^ s * 10 ^ (9 - s) = 1000000000 := by
  rw [← Int.pow_add, show s + (9 - s) = 9 by omega]; decide
theorem p10_cut15 (s : Nat) (hs : s ≤ 15) : (10 : Int) ^ s * 10 ^ (15 - s) = 1000000000000000 := by
  rw [← Int.pow_add, show s + (15 - s) = 15 by omega]; decide

theorem strip_part {p : Int} (hp : -1000000000 < p ∧ p < 1000000000) : -10 ^ (stripN p 9).2 < (stripN p 9).1 ∧ (stripN p 9).1 < 10 ^ (stripN p 9).2 := by
  obtain ⟨h1, h2, _⟩ := strip_val 9 p
  have h3 := p10_cut _ h1
  have h4 := p10_pos (9 - (stripN p 9).2)
  generalize (stripN p 9).1 = q at *
  generalize (10 : Int) ^ (9 - (stripN p 9).2) = y at *
  generalize (10 : Int) ^ (stripN p 9).2 = x at *
  rw [← h2, ← h3] at hp
  refine ⟨?_, ?_⟩
  · have : -x * y < q * y := by rw [Int.neg_mul]; omega
    exact Int.lt_of_mul_lt_mul_right this (by omega)
  · exact Int.lt_of_mul_lt_mul_right hp.2 (by omega)

/-- joined: too great, or within what can be reckoned with -/
theorem join_math {w p : Int} (hp : -1000000000 < p ∧ p < 1000000000) :
    (stripN (w * 1000000000 + p) 9) = (w * 10 ^ (stripN p 9).2 + (stripN p 9).1, (stripN p 9).2) ∧
    (w ≥ (1000000000000000 : Int).tdiv (10 ^ (stripN p 9).2) + 1 → makeOk (w * 1000000000 + p) 9 = false) ∧
    (w ≤ (-1000000000000000 : Int).tdiv (10 ^ (stripN p 9).2) - 1 → makeOk (w * 1000000000 + p) 9 = false) ∧
    (¬ w ≥ (1000000000000000 : Int).tdiv (10 ^ (stripN p 9).2) + 1 → ¬ w ≤ (-1000000000000000 : Int).tdiv (10 ^ (stripN p 9).2) - 1 →
      -2000000000000000 < w * 10 ^ (stripN p 9).2 ∧ w * 10 ^ (stripN p 9).2 < 2000000000000000 ∧ -1000000000 < (stripN p 9).1 ∧ (stripN p 9).1 < 1000000000) := by
  have e9 : (10 : Int) ^ 9 = 1000000000 := by decide
  have hs := strip_add 9 w p
  rw [e9] at hs
  obtain ⟨h1, _, _⟩ := strip_val 9 p
  obtain ⟨h2, h3⟩ := strip_part hp
  have h4 := p10_cut15 (stripN p 9).2 (by omega)
  have h5 := p10_pos (stripN p 9).2
  have h6 := p10_pos (15 - (stripN p 9).2)
  have h7 := p10_mono h1
  rw [e9] at h7
  have d1 : (1000000000000000 : Int).tdiv (10 ^ (stripN p 9).2) = 10 ^ (15 - (stripN p 9).2) := by
    rw [← h4]; exact Int.mul_tdiv_cancel_left _ (by omega)
  have d2 : (-1000000000000000 : Int).tdiv (10 ^ (stripN p 9).2) = -10 ^ (15 - (stripN p 9).2) := by
    rw [← h4, ← Int.mul_neg]; exact Int.mul_tdiv_cancel_left _ (by omega)
  rw [d1, d2]
  unfold makeOk
  rw [hs]
  simp only
  generalize (stripN p 9).1 = q at *
  generalize (10 : Int) ^ (15 - (stripN p 9).2) = y at *
  generalize hx : (10 : Int) ^ (stripN p 9).2 = x at *
  refine ⟨trivial, fun h => ?_, fun h => ?_, fun g1 g2 => ?_⟩
  · have : (y + 1) * x ≤ w * x := Int.mul_le_mul_of_nonneg_right h (by omega)
    rw [Int.add_mul, Int.one_mul, Int.mul_comm y x, h4] at this
    have g : ¬ (w * x + q < 1000000000000000) := by omega
    simp [numIs, g]
  · have : w * x ≤ (-y - 1) * x := Int.mul_le_mul_of_nonneg_right h (by omega)
    rw [Int.sub_mul, Int.one_mul, Int.neg_mul, Int.mul_comm y x, h4] at this
    have g : ¬ (-1000000000000000 < w * x + q) := by omega
    simp [numIs, g]
  · have a1 : w * x ≤ y * x := Int.mul_le_mul_of_nonneg_right (by omega) (by omega)
    have a2 : -y * x ≤ w * x := Int.mul_le_mul_of_nonneg_right (by omega) (by omega)
    rw [Int.neg_mul, Int.mul_comm y x, h4] at a2
    rw [Int.mul_comm y x, h4] at a1
    omega

theorem make_flat {c : Int} {k : Nat} (hk : k ≤ 9) : flatN (stripN c k).1 (stripN c k).2 = flatN c k := by
  obtain ⟨h1, h2, _⟩ := strip_val k c
  unfold flatN
  rw [show 9 - (stripN c k).2 = (k - (stripN c k).2) + (9 - k) by omega, Int.pow_add, ← Int.mul_assoc, h2]

theorem flat_inj {c c' : Int} : ∀ {k k' : Nat}, k ≤ 9 → k' ≤ 9 → (k = 0 ∨ c.tmod 10 ≠ 0) → (k' = 0 ∨ c'.tmod 10 ≠ 0) → flatN c k = flatN c' k' → k ≤ k' → c = c' ∧ k = k' := by
  intro k k' hk hk' h1 h2 he hle
  unfold flatN at he
  rw [show 9 - k = (k' - k) + (9 - k') by omega, Int.pow_add, ← Int.mul_assoc] at he
  have hp := p10_pos (9 - k')
  have he := Int.eq_of_mul_eq_mul_right (by omega) he
  by_cases e : k = k'
  · subst e
    simp at he
    exact ⟨he, rfl⟩
  · exfalso
    obtain ⟨j, hj⟩ : ∃ j, k' - k = j + 1 := ⟨k' - k - 1, by omega⟩
    rw [hj, Int.pow_succ, ← Int.mul_assoc] at he
    have hd : (10 : Int) ∣ c' := ⟨c * 10 ^ j, by rw [← he, Int.mul_comm]⟩
    exact h2.resolve_left (by omega) (Int.tmod_eq_zero_of_dvd hd)

theorem num_inj {c c' : Int} {k k' : Nat} (h : numIs c k = true) (h' : numIs c' k' = true) (he : flatN c k = flatN c' k') : c = c' ∧ k = k' := by
  simp only [numIs, Bool.and_eq_true, Bool.or_eq_true, decide_eq_true_eq, beq_iff_eq, bne_iff_ne] at h h'
  have a1 : k = 0 ∨ c.tmod 10 ≠ 0 := by rcases h.2 with g | g; exact .inl (by omega); exact .inr g
  have a2 : k' = 0 ∨ c'.tmod 10 ≠ 0 := by rcases h'.2 with g | g; exact .inl (by omega); exact .inr g
  by_cases hle : k ≤ k'
  · exact flat_inj (by omega) (by omega) a1 a2 he hle
  · obtain ⟨e1, e2⟩ := flat_inj (k := k') (k' := k) (by omega) (by omega) a2 a1 he.symm (by omega)
    exact ⟨e1.symm, e2.symm⟩
end Go.Pe.T

namespace Go.Pe.T
/-! ### Make, join, Add, Sub -/

/-- a number, or that it can't be held -/
def madeT (c : Int) (k : Nat) : PV := if makeOk c k then .tup [.d (numD (stripN c k).1 (stripN c k).2), .d (iv 0)] else .tup [.d (numD 0 0), .d (iv 8)]

theorem tdiv10 {c : Int} (hc : i64 c) (h : c.tmod 10 = 0) : i64 (c.tdiv 10) := by
  have := Int.mul_tdiv_add_tmod c 10
  unfold i64 at *
  omega

def MkLoop (c : Int) (k : Nat) : Prop :=
  V (F tab) r16_B0 (r16_S0 (.d (iv c)) (.d (iv k)) (.ibox [.d (iv 0), .d (iv 0)]) []) = some (.norm, r16_E0 (.d (iv (stripN c k).1)) (.d (iv (stripN c k).2)) (.ibox [.d (iv 0), .d (iv 0)]) [])

theorem mk_end (c : Int) : MkLoop c 0 := by
  unfold MkLoop
  have h1 : ((0 : Int) > 0) = False := eq_false (by omega)
  have h2 : (((0 : Nat) : Int) > 0) = False := eq_false (by omega)
  rw [r16_B0_eq, stripN]
  simp (disch := omega) only [go_sem, and_self, and_true, true_and, false_and, and_false, Nat.reduceAdd, Nat.reduceMul, Nat.reduceSub, Nat.reduceLeDiff, Nat.reduceLT, Nat.reduceGT, Nat.reduceEqDiff, Nat.reduceBEq, Int.reduceNeg, Int.reduceEq, Int.reduceLT, Int.reduceLE, Int.reduceBEq, Int.reduceToNat, Int.toNat_natCast, Int.natCast_zero, r16_C0, h1, h2]
theorem mk_stop (c : Int) (k : Nat) (h : c.tmod 10 ≠ 0) : MkLoop c (k + 1) := by
  unfold MkLoop
  have h1 : (((k + 1 : Nat) : Int) > 0) = True := eq_true (by omega)
  have h2 : (c.tmod 10 == 0) = false := by simpa using h
  have h3 : ((10 : Int) = 0) = False := eq_false (by omega)
  rw [r16_B0_eq, stripN, if_neg h]
  simp (disch := omega) only [go_sem, and_self, and_true, true_and, false_and, and_false, Nat.reduceAdd, Nat.reduceMul, Nat.reduceSub, Nat.reduceLeDiff, Nat.reduceLT, Nat.reduceGT, Nat.reduceEqDiff, Nat.reduceBEq, Int.reduceNeg, Int.reduceEq, Int.reduceLT, Int.reduceLE, Int.reduceBEq, Int.reduceToNat, Int.toNat_natCast, Int.natCast_zero, r16_C0, h1, h2, h3]
theorem mk_step (c : Int) (k : Nat) (hc : i64 c) (hk : k ≤ 100) (h : c.tmod 10 = 0) (ih : MkLoop (c.tdiv 10) k) : MkLoop c (k + 1) := by
  unfold MkLoop
  have h1 : (((k + 1 : Nat) : Int) > 0) = True := eq_true (by omega)
  have h2 : (c.tmod 10 == 0) = true := by simpa using h
  have h3 : ((10 : Int) = 0) = False := eq_false (by omega)
  have h4 : ((k + 1 : Nat) : Int) - 1 = (k : Int) := by omega
  have hd := tdiv10 hc h
  have w1 : IntKind.i64.wrap (c.tdiv 10) = c.tdiv 10 := w64 hd
  unfold MkLoop at ih
  rw [r16_B0_eq, stripN, if_pos h]
  simp (disch := omega) only [go_sem, and_self, and_true, true_and, false_and, and_false, Nat.reduceAdd, Nat.reduceMul, Nat.reduceSub, Nat.reduceLeDiff, Nat.reduceLT, Nat.reduceGT, Nat.reduceEqDiff, Nat.reduceBEq, Int.reduceNeg, Int.reduceEq, Int.reduceLT, Int.reduceLE, Int.reduceBEq, Int.reduceToNat, Int.toNat_natCast, Int.natCast_zero, r16_C0, h1, h2, h3, h4, w1, w64]
  exact ih
theorem mk_loop : ∀ (k : Nat) (c : Int), i64 c → k ≤ 100 → MkLoop c k
  | 0, c, _, _ => mk_end c
  | k + 1, c, hc, hk => by
    by_cases h : c.tmod 10 = 0
    · exact mk_step c k hc (by omega) h (mk_loop k _ (tdiv10 hc h) (by omega))
    · exact mk_stop c k h

theorem make_ok (c : Int) (k : Nat) (hc : i64 c) (hk : k ≤ 30) (hp : List Ent) : F tab 16 [.d (iv c), .d (iv k)] hp = some (.ret (madeT c k) hp) := by
  have hL := mk_loop k c hc (by omega)
  unfold MkLoop at hL
  have hI := numIs_ok (stripN c k).1 (stripN c k).2
  have h1 : ((k : Int) < 0) = False := eq_false (by omega)
  have h2 : ((k : Int) > 30) = False := eq_false (by omega)
  refine f16 rfl ?_
  simp (disch := omega) only [go_sem, and_self, and_true, true_and, false_and, and_false, Nat.reduceAdd, Nat.reduceMul, Nat.reduceSub, Nat.reduceLeDiff, Nat.reduceLT, Nat.reduceGT, Nat.reduceEqDiff, Nat.reduceBEq, Int.reduceNeg, Int.reduceEq, Int.reduceLT, Int.reduceLE, Int.reduceBEq, Int.reduceToNat, Int.toNat_natCast, Int.natCast_zero, r16_T, r16, h1, h2]
  rw [r16_B0_n]
  erw [hL]
  unfold madeT
  have e : makeOk c k = numIs (stripN c k).1 (stripN c k).2 := rfl
  rcases Bool.eq_false_or_eq_true (numIs (stripN c k).1 (stripN c k).2) with g | g
  · rw [e, g]
    simp (disch := omega) only [go_sem, and_self, and_true, true_and, false_and, and_false, Nat.reduceAdd, Nat.reduceMul, Nat.reduceSub, Nat.reduceLeDiff, Nat.reduceLT, Nat.reduceGT, Nat.reduceEqDiff, Nat.reduceBEq, Int.reduceNeg, Int.reduceEq, Int.reduceLT, Int.reduceLE, Int.reduceBEq, Int.reduceToNat, Int.toNat_natCast, Int.natCast_zero, hI, g]
  · rw [e, g]
    simp (disch := omega) only [go_sem, and_self, and_true, true_and, false_and, and_false, Nat.reduceAdd, Nat.reduceMul, Nat.reduceSub, Nat.reduceLeDiff, Nat.reduceLT, Nat.reduceGT, Nat.reduceEqDiff, Nat.reduceBEq, Int.reduceNeg, Int.reduceEq, Int.reduceLT, Int.reduceLE, Int.reduceBEq, Int.reduceToNat, Int.toNat_natCast, Int.natCast_zero, hI, g]

def JnLoop (w c : Int) (k : Nat) : Prop :=
  V (F tab) r63_B0 (r63_S0 (.d (iv w)) (.d (iv c)) (.ibox [.d (iv 0), .d (iv 0)]) (.d (iv k)) []) = some (.norm, r63_E0 (.d (iv w)) (.d (iv (stripN c k).1)) (.ibox [.d (iv 0), .d (iv 0)]) (.d (iv (stripN c k).2)) [])
theorem jn_end (w c : Int) : JnLoop w c 0 := by
  unfold JnLoop
  have h1 : ((0 : Int) > 0) = False := eq_false (by omega)
  have h2 : (((0 : Nat) : Int) > 0) = False := eq_false (by omega)
  rw [r63_B0_eq, stripN]
  simp (disch := omega) only [go_sem, and_self, and_true, true_and, false_and, and_false, Nat.reduceAdd, Nat.reduceMul, Nat.reduceSub, Nat.reduceLeDiff, Nat.reduceLT, Nat.reduceGT, Nat.reduceEqDiff, Nat.reduceBEq, Int.reduceNeg, Int.reduceEq, Int.reduceLT, Int.reduceLE, Int.reduceBEq, Int.reduceToNat, Int.toNat_natCast, Int.natCast_zero, r63_C0, h1, h2]
theorem jn_stop (w c : Int) (k : Nat) (h : c.tmod 10 ≠ 0) : JnLoop w c (k + 1) := by
  unfold JnLoop
  have h1 : (((k + 1 : Nat) : Int) > 0) = True := eq_true (by omega)
  have h2 : (c.tmod 10 == 0) = false := by simpa using h
  have h3 : ((10 : Int) = 0) = False := eq_false (by omega)
  rw [r63_B0_eq, stripN, if_neg h]
  simp (disch := omega) only [go_sem, and_self, and_true, true_and, false_and, and_false, Nat.reduceAdd, Nat.reduceMul, Nat.reduceSub, Nat.reduceLeDiff, Nat.reduceLT, Nat.reduceGT, Nat.reduceEqDiff, Nat.reduceBEq, Int.reduceNeg, Int.reduceEq, Int.reduceLT, Int.reduceLE, Int.reduceBEq, Int.reduceToNat, Int.toNat_natCast, Int.natCast_zero, r63_C0, h1, h2, h3]
theorem jn_step (w c : Int) (k : Nat) (hc : i64 c) (hk : k ≤ 100) (h : c.tmod 10 = 0) (ih : JnLoop w (c.tdiv 10) k) : JnLoop w c (k + 1) := by
  unfold JnLoop
  have h1 : (((k + 1 : Nat) : Int) > 0) = True := eq_true (by omega)
  have h2 : (c.tmod 10 == 0) = true := by simpa using h
  have h3 : ((10 : Int) = 0) = False := eq_false (by omega)
  have h4 : ((k + 1 : Nat) : Int) - 1 = (k : Int) := by omega
  have hd := tdiv10 hc h
  have w1 : IntKind.i64.wrap (c.tdiv 10) = c.tdiv 10 := w64 hd
  unfold JnLoop at ih
  rw [r63_B0_eq, stripN, if_pos h]
  simp (disch := omega) only [go_sem, and_self, and_true, true_and, false_and, and_false, Nat.reduceAdd, Nat.reduceMul, Nat.reduceSub, Nat.reduceLeDiff, Nat.reduceLT, Nat.reduceGT, Nat.reduceEqDiff, Nat.reduceBEq, Int.reduceNeg, Int.reduceEq, Int.reduceLT, Int.reduceLE, Int.reduceBEq, Int.reduceToNat, Int.toNat_natCast, Int.natCast_zero, r63_C0, h1, h2, h3, h4, w1, w64]
  exact ih
theorem jn_loop (w : Int) : ∀ (k : Nat) (c : Int), i64 c → k ≤ 100 → JnLoop w c k
  | 0, c, _, _ => jn_end w c
  | k + 1, c, hc, hk => by
    by_cases h : c.tmod 10 = 0
    · exact jn_step w c k hc (by omega) h (jn_loop w k _ (tdiv10 hc h) (by omega))
    · exact jn_stop w c k h
end Go.Pe.T

namespace Go.Pe.T

theorem strip_idem (T : Int) (k : Nat) : stripN (stripN T k).1 (stripN T k).2 = stripN T k := by
  obtain ⟨_, _, h3⟩ := strip_val k T
  rw [strip_self _ _ h3]

theorem made_idem (T : Int) (k : Nat) : madeT (stripN T k).1 (stripN T k).2 = madeT T k := by
  unfold madeT makeOk
  rw [strip_idem]

/-- what follows on the loop of join -/
theorem join_tail (W Q : Int) (s : Nat) (T : Int) (hs : s ≤ 9) (hT : stripN T 9 = (W * 10 ^ s + Q, s))
    (h1 : W ≥ (1000000000000000 : Int).tdiv (10 ^ s) + 1 → makeOk T 9 = false) (h2 : W ≤ (-1000000000000000 : Int).tdiv (10 ^ s) - 1 → makeOk T 9 = false)
    (h3 : ¬ W ≥ (1000000000000000 : Int).tdiv (10 ^ s) + 1 → ¬ W ≤ (-1000000000000000 : Int).tdiv (10 ^ s) - 1 → -2000000000000000 < W * 10 ^ s ∧ W * 10 ^ s < 2000000000000000 ∧ -1000000000 < Q ∧ Q < 1000000000) :
    (-1000000000000002 < (1000000000000000 : Int).tdiv (10 ^ s) ∧ (1000000000000000 : Int).tdiv (10 ^ s) < 1000000000000002) ∧ (-1000000000000002 < (-1000000000000000 : Int).tdiv (10 ^ s) ∧ (-1000000000000000 : Int).tdiv (10 ^ s) < 1000000000000002) ∧
    madeT (W * 10 ^ s + Q) s = madeT T 9 := by
  refine ⟨?_, ?_, ?_⟩
  · have := Int.natAbs_tdiv_le_natAbs 1000000000000000 (10 ^ s)
    omega
  · have := Int.natAbs_tdiv_le_natAbs (-1000000000000000) (10 ^ s)
    omega
  · have := made_idem T 9
    rw [hT] at this
    exact this

/-- what stands behind the loop of join -/
def joinTail : RCode := match r63_K2 () with
  | .seq _ (.seq _ (.seq _ c)) => c
  | c => c

set_option maxHeartbeats 1000000 in
theorem join_ok (w p : Int) (hw : -3000000000000000 ≤ w ∧ w ≤ 3000000000000000) (hp0 : -3000000000 ≤ p ∧ p ≤ 3000000000) (hp : List Ent) : F tab 63 [.d (iv w), .d (iv p)] hp = some (.ret (madeT (w * 1000000000 + p) 9) hp) := by
  have hm := Int.mul_tdiv_add_tmod p 1000000000
  have hm1 := Int.tmod_lt_of_pos p (show (0 : Int) < 1000000000 by omega)
  have hm2 := Int.lt_tmod_of_pos p (show (0 : Int) < 1000000000 by omega)
  have q1 : ((1000000000 : Int) = 0) = False := eq_false (by omega)
  have core : ∀ W P : Int, W * 1000000000 + P = w * 1000000000 + p → (-1000000000 < P ∧ P < 1000000000) → (-4000000000000000 ≤ W ∧ W ≤ 4000000000000000) →
      V (F tab) r63_B0 (r63_S0 (.d (iv W)) (.d (iv P)) (.ibox [.d (iv 0), .d (iv 0)]) (.d (iv 9)) []) = some (.norm, r63_E0 (.d (iv W)) (.d (iv (stripN P 9).1)) (.ibox [.d (iv 0), .d (iv 0)]) (.d (iv (stripN P 9).2)) []) ∧ fnEnd r63 hp (V (F tab) joinTail (r63_E0 (.d (iv W)) (.d (iv (stripN P 9).1)) (.ibox [.d (iv 0), .d (iv 0)]) (.d (iv (stripN P 9).2)) [])) = some (.ret (madeT (w * 1000000000 + p) 9) hp) := by
    intro W P hT hP hW
    have hL := jn_loop W 9 P (by unfold i64; omega) (by omega)
    unfold JnLoop at hL
    refine ⟨hL, ?_⟩
    simp only [joinTail, r63_K2]
    obtain ⟨j1, j2, j3, j4⟩ := join_math (w := W) hP
    rw [hT] at j1 j2 j3
    have hs : (stripN P 9).2 ≤ 9 := (strip_val 9 P).1
    have h10 := pow_ok (stripN P 9).2 (by omega)
    obtain ⟨t1, t2, t3⟩ := join_tail W (stripN P 9).1 (stripN P 9).2 _ hs j1 j2 j3 j4
    have hmk : ∀ hp, -2000000000000000 < W * 10 ^ (stripN P 9).2 → W * 10 ^ (stripN P 9).2 < 2000000000000000 → -1000000000 < (stripN P 9).1 → (stripN P 9).1 < 1000000000 →
        F tab 16 [.d (iv (W * 10 ^ (stripN P 9).2 + (stripN P 9).1)), .d (iv (stripN P 9).2)] hp = some (.ret (madeT (W * 10 ^ (stripN P 9).2 + (stripN P 9).1) (stripN P 9).2) hp) := fun hp a b c d => make_ok _ _ (by unfold i64; omega) (by omega) hp
    have hpos : ((10 : Int) ^ (stripN P 9).2 = 0) = False := eq_false (by have := p10_pos (stripN P 9).2; omega)
    generalize (stripN P 9).1 = Q at *
    generalize (stripN P 9).2 = s at *
    generalize (10 : Int) ^ s = x at *
    generalize hA : (1000000000000000 : Int).tdiv x = A at *
    generalize hB : (-1000000000000000 : Int).tdiv x = B at *
    by_cases g1 : W ≥ A + 1
    · have e := j2 g1
      have e2 : madeT (w * 1000000000 + p) 9 = .tup [.d (numD 0 0), .d (iv 8)] := by unfold madeT; rw [e]; rfl
      rw [e2]
      simp (disch := omega) only [go_sem, and_self, and_true, true_and, false_and, and_false, Nat.reduceAdd, Nat.reduceMul, Nat.reduceSub, Nat.reduceLeDiff, Nat.reduceLT, Nat.reduceGT, Nat.reduceEqDiff, Nat.reduceBEq, Int.reduceNeg, Int.reduceEq, Int.reduceLT, Int.reduceLE, Int.reduceBEq, Int.reduceToNat, Int.toNat_natCast, Int.natCast_zero, r63, h10, hpos, hA, w64, g1]
    · by_cases g2 : W ≤ B - 1
      · have e := j3 g2
        have e2 : madeT (w * 1000000000 + p) 9 = .tup [.d (numD 0 0), .d (iv 8)] := by unfold madeT; rw [e]; rfl
        rw [e2]
        simp (disch := omega) only [go_sem, and_self, and_true, true_and, false_and, and_false, Nat.reduceAdd, Nat.reduceMul, Nat.reduceSub, Nat.reduceLeDiff, Nat.reduceLT, Nat.reduceGT, Nat.reduceEqDiff, Nat.reduceBEq, Int.reduceNeg, Int.reduceEq, Int.reduceLT, Int.reduceLE, Int.reduceBEq, Int.reduceToNat, Int.toNat_natCast, Int.natCast_zero, r63, h10, hpos, hA, hB, w64, g1, g2]
      · obtain ⟨a, b, c, d⟩ := j4 g1 g2
        have hmk := fun hp => hmk hp a b c d
        rw [t3] at hmk
        have w1 : IntKind.i64.wrap (W * x) = W * x := w64 (by generalize W * x = Y at *; omega)
        have w2 : IntKind.i64.wrap (W * x + Q) = W * x + Q := w64 (by generalize W * x = Y at *; omega)
        unfold madeT at hmk ⊢
        rcases Bool.eq_false_or_eq_true (makeOk (w * 1000000000 + p) 9) with g | g
        · rw [g] at hmk ⊢
          simp only [if_true] at hmk ⊢
          simp (disch := omega) only [go_sem, and_self, and_true, true_and, false_and, and_false, Nat.reduceAdd, Nat.reduceMul, Nat.reduceSub, Nat.reduceLeDiff, Nat.reduceLT, Nat.reduceGT, Nat.reduceEqDiff, Nat.reduceBEq, Int.reduceNeg, Int.reduceEq, Int.reduceLT, Int.reduceLE, Int.reduceBEq, Int.reduceToNat, Int.toNat_natCast, Int.natCast_zero, r63, h10, hpos, hA, hB, w1, w2, w64, g1, g2, hmk, numD]
        · rw [g] at hmk ⊢
          simp only [Bool.false_eq_true, if_false] at hmk ⊢
          simp (disch := omega) only [go_sem, and_self, and_true, true_and, false_and, and_false, Nat.reduceAdd, Nat.reduceMul, Nat.reduceSub, Nat.reduceLeDiff, Nat.reduceLT, Nat.reduceGT, Nat.reduceEqDiff, Nat.reduceBEq, Int.reduceNeg, Int.reduceEq, Int.reduceLT, Int.reduceLE, Int.reduceBEq, Int.reduceToNat, Int.toNat_natCast, Int.natCast_zero, r63, h10, hpos, hA, hB, w1, w2, w64, g1, g2, hmk, numD]
  refine f63 rfl ?_
  by_cases c1 : w + p.tdiv 1000000000 > 0
  · have c3 : ¬ (w + p.tdiv 1000000000 < 0) := by omega
    by_cases c2 : p.tmod 1000000000 < 0
    · have c4 : ¬ (w + p.tdiv 1000000000 - 1 < 0) := by omega
      have := core (w + p.tdiv 1000000000 - 1) (p.tmod 1000000000 + 1000000000) (by omega) (by omega) (by omega)
      simp (disch := omega) only [go_sem, and_self, and_true, true_and, false_and, and_false, Nat.reduceAdd, Nat.reduceMul, Nat.reduceSub, Nat.reduceLeDiff, Nat.reduceLT, Nat.reduceGT, Nat.reduceEqDiff, Nat.reduceBEq, Int.reduceNeg, Int.reduceEq, Int.reduceLT, Int.reduceLE, Int.reduceBEq, Int.reduceToNat, Int.toNat_natCast, Int.natCast_zero, r63_T, r63, q1, w64, c1, c2, c3, c4]
      rw [r63_B0_n]
      erw [this.1]
      exact this.2
    · have := core (w + p.tdiv 1000000000) (p.tmod 1000000000) (by omega) (by omega) (by omega)
      simp (disch := omega) only [go_sem, and_self, and_true, true_and, false_and, and_false, Nat.reduceAdd, Nat.reduceMul, Nat.reduceSub, Nat.reduceLeDiff, Nat.reduceLT, Nat.reduceGT, Nat.reduceEqDiff, Nat.reduceBEq, Int.reduceNeg, Int.reduceEq, Int.reduceLT, Int.reduceLE, Int.reduceBEq, Int.reduceToNat, Int.toNat_natCast, Int.natCast_zero, r63_T, r63, q1, w64, c1, c2, c3]
      rw [r63_B0_n]
      erw [this.1]
      exact this.2
  · by_cases c3 : w + p.tdiv 1000000000 < 0
    · by_cases c4 : p.tmod 1000000000 > 0
      · have := core (w + p.tdiv 1000000000 + 1) (p.tmod 1000000000 - 1000000000) (by omega) (by omega) (by omega)
        simp (disch := omega) only [go_sem, and_self, and_true, true_and, false_and, and_false, Nat.reduceAdd, Nat.reduceMul, Nat.reduceSub, Nat.reduceLeDiff, Nat.reduceLT, Nat.reduceGT, Nat.reduceEqDiff, Nat.reduceBEq, Int.reduceNeg, Int.reduceEq, Int.reduceLT, Int.reduceLE, Int.reduceBEq, Int.reduceToNat, Int.toNat_natCast, Int.natCast_zero, r63_T, r63, q1, w64, c1, c3, c4]
        rw [r63_B0_n]
        erw [this.1]
        exact this.2
      · have := core (w + p.tdiv 1000000000) (p.tmod 1000000000) (by omega) (by omega) (by omega)
        simp (disch := omega) only [go_sem, and_self, and_true, true_and, false_and, and_false, Nat.reduceAdd, Nat.reduceMul, Nat.reduceSub, Nat.reduceLeDiff, Nat.reduceLT, Nat.reduceGT, Nat.reduceEqDiff, Nat.reduceBEq, Int.reduceNeg, Int.reduceEq, Int.reduceLT, Int.reduceLE, Int.reduceBEq, Int.reduceToNat, Int.toNat_natCast, Int.natCast_zero, r63_T, r63, q1, w64, c1, c3, c4]
        rw [r63_B0_n]
        erw [this.1]
        exact this.2
    · have := core (w + p.tdiv 1000000000) (p.tmod 1000000000) (by omega) (by omega) (by omega)
      simp (disch := omega) only [go_sem, and_self, and_true, true_and, false_and, and_false, Nat.reduceAdd, Nat.reduceMul, Nat.reduceSub, Nat.reduceLeDiff, Nat.reduceLT, Nat.reduceGT, Nat.reduceEqDiff, Nat.reduceBEq, Int.reduceNeg, Int.reduceEq, Int.reduceLT, Int.reduceLE, Int.reduceBEq, Int.reduceToNat, Int.toNat_natCast, Int.natCast_zero, r63_T, r63, q1, w64, c1, c3]
      rw [r63_B0_n]
      erw [this.1]
      exact this.2
end Go.Pe.T

namespace Go.Pe.T

theorem lives4_ev : evF tab 200 23 [] [] = some (.ret (.d (.bool true)) []) := by kernel_rfl
theorem lives4_ok (hp : List Ent) : F tab 23 [] hp = some (.ret (.d (.bool true)) hp) :=
  F_some.2 ⟨200, ((evF_nice (pf := pf) pf_ok 200).2 23 rfl _ _ _ _ lives4_ev).2 hp⟩

theorem made_yes {c : Int} {k : Nat} (h : makeOk c k = true) : madeT c k = .tup [.d (.agg [iv (stripN c k).1, iv (stripN c k).2]), .d (iv 0)] := by
  unfold madeT; rw [h]; rfl
theorem made_no {c : Int} {k : Nat} (h : makeOk c k = false) : madeT c k = .tup [.d (.agg [iv 0, iv 0]), .d (iv 8)] := by
  unfold madeT; rw [h]; rfl

theorem add_ok (c c' : Int) (k k' : Nat) (h : numIs c k = true) (h' : numIs c' k' = true) (hp : List Ent) :
    F tab 35 [.d (numD c k), .d (numD c' k')] hp = some (.ret (madeT (flatN c k + flatN c' k') 9) hp) := by
  obtain ⟨k1, e1, hk, hc⟩ := numIs_inv h
  obtain ⟨k2, e2, hk', hc'⟩ := numIs_inv h'
  obtain rfl : k = k1 := by omega
  obtain rfl : k' = k2 := by omega
  have h1 := both_ok c k c' k'
  rw [h, h'] at h1
  have h2 := cut_ok c k hk hc
  have h3 := cut_ok c' k' hk' hc'
  obtain ⟨b1, b2, b3, b4, b5, _⟩ := cut_bounds hk hc
  obtain ⟨d1, d2, d3, d4, d5, _⟩ := cut_bounds hk' hc'
  have hj := join_ok (cutU c k + cutU c' k') (cutV c k + cutV c' k') (by omega) (by omega)
  have eT : (cutU c k + cutU c' k') * 1000000000 + (cutV c k + cutV c' k') = flatN c k + flatN c' k' := by unfold flatN; omega
  rw [eT] at hj
  refine f35 rfl ?_
  rcases Bool.eq_false_or_eq_true (makeOk (flatN c k + flatN c' k') 9) with g | g
  · rw [made_yes g] at hj ⊢
    simp (disch := omega) only [go_sem, and_self, and_true, true_and, false_and, and_false, Nat.reduceAdd, Nat.reduceMul, Nat.reduceSub, Nat.reduceLeDiff, Nat.reduceLT, Nat.reduceGT, Nat.reduceEqDiff, Nat.reduceBEq, Int.reduceNeg, Int.reduceEq, Int.reduceLT, Int.reduceLE, Int.reduceBEq, Int.reduceToNat, Int.toNat_natCast, Int.natCast_zero, r35_T, r35, h1, h2, h3, hj, w64]
  · rw [made_no g] at hj ⊢
    simp (disch := omega) only [go_sem, and_self, and_true, true_and, false_and, and_false, Nat.reduceAdd, Nat.reduceMul, Nat.reduceSub, Nat.reduceLeDiff, Nat.reduceLT, Nat.reduceGT, Nat.reduceEqDiff, Nat.reduceBEq, Int.reduceNeg, Int.reduceEq, Int.reduceLT, Int.reduceLE, Int.reduceBEq, Int.reduceToNat, Int.toNat_natCast, Int.natCast_zero, r35_T, r35, h1, h2, h3, hj, w64]

theorem numIs_neg (c k : Int) : numIs (0 - c) k = numIs c k := by
  have e : (0 - c).tmod 10 = -(c.tmod 10) := by rw [Int.zero_sub, Int.neg_tmod]
  have e2 : ((0 - c).tmod 10 != 0) = (c.tmod 10 != 0) := by
    rw [e, Bool.eq_iff_iff]
    simp only [bne_iff_ne]
    omega
  have e3 : decide (-1000000000000000 < 0 - c) = decide (c < 1000000000000000) := by by_cases h : c < 1000000000000000 <;> simp [h] <;> omega
  have e4 : decide (0 - c < 1000000000000000) = decide (-1000000000000000 < c) := by by_cases h : -1000000000000000 < c <;> simp [h] <;> omega
  unfold numIs
  rw [e2, e3, e4]
  cases decide (0 ≤ k) <;> cases decide (k ≤ 9) <;> cases decide (c < 1000000000000000) <;> cases decide (-1000000000000000 < c) <;> rfl

theorem flat_neg (c : Int) (k : Nat) : flatN (0 - c) k = -flatN c k := by unfold flatN; rw [Int.zero_sub, Int.neg_mul]

theorem sub_ok (c c' : Int) (k k' : Nat) (h : numIs c k = true) (h' : numIs c' k' = true) (hp : List Ent) :
    F tab 34 [.d (numD c k), .d (numD c' k')] hp = some (.ret (madeT (flatN c k - flatN c' k') 9) hp) := by
  have h1 := both_ok c k c' k'
  rw [h, h'] at h1
  obtain ⟨k2, e2, hk', hc'⟩ := numIs_inv h'
  have hj := add_ok c (0 - c') k k' h (by rw [numIs_neg]; exact h')
  rw [flat_neg, show flatN c k + -flatN c' k' = flatN c k - flatN c' k' by omega] at hj
  refine f34 rfl ?_
  rcases Bool.eq_false_or_eq_true (makeOk (flatN c k - flatN c' k') 9) with g | g
  · rw [made_yes g] at hj ⊢
    simp (disch := omega) only [go_sem, and_self, and_true, true_and, false_and, and_false, Nat.reduceAdd, Nat.reduceMul, Nat.reduceSub, Nat.reduceLeDiff, Nat.reduceLT, Nat.reduceGT, Nat.reduceEqDiff, Nat.reduceBEq, Int.reduceNeg, Int.reduceEq, Int.reduceLT, Int.reduceLE, Int.reduceBEq, Int.reduceToNat, Int.toNat_natCast, Int.natCast_zero, r34_T, r34, h1, hj, w64]
  · rw [made_no g] at hj ⊢
    simp (disch := omega) only [go_sem, and_self, and_true, true_and, false_and, and_false, Nat.reduceAdd, Nat.reduceMul, Nat.reduceSub, Nat.reduceLeDiff, Nat.reduceLT, Nat.reduceGT, Nat.reduceEqDiff, Nat.reduceBEq, Int.reduceNeg, Int.reduceEq, Int.reduceLT, Int.reduceLE, Int.reduceBEq, Int.reduceToNat, Int.toNat_natCast, Int.natCast_zero, r34_T, r34, h1, hj, w64]

theorem sgn_zero {a b : Int} : sgn a b = 0 ↔ a = b := by
  unfold sgn; split
  · omega
  · split <;> omega
theorem sgn_le {a b : Int} : sgn a b ≤ 0 ↔ a ≤ b := by
  unfold sgn; split
  · omega
  · split <;> omega
theorem sgn_lt {a b : Int} : sgn a b < 0 ↔ a < b := by
  unfold sgn; split
  · omega
  · split <;> omega
theorem sgn_sub (a b : Int) : sgn (a - b) 0 = sgn a b := by
  unfold sgn; split <;> split <;> (try split) <;> (try split) <;> omega
end Go.Pe.T

namespace Go.Pe.T
theorem num4Is_ok (c s : Int) (hp : List Ent) : F tab 20 [.d (numD c s)] hp = some (.ret (.d (.bool (numIs c s))) hp) := by
  refine f20 rfl ?_
  by_cases h1 : s < 0
  · have g1 : ¬ (0 ≤ s) := by omega
    simp only [go_sem, and_self, and_true, true_and, false_and, and_false, Nat.reduceAdd, Nat.reduceMul, Nat.reduceSub, Nat.reduceLeDiff, Nat.reduceLT, Nat.reduceGT, Nat.reduceEqDiff, Nat.reduceBEq, Int.reduceNeg, Int.reduceEq, Int.reduceLT, Int.reduceLE, Int.reduceBEq, Int.reduceToNat, Int.toNat_natCast, Int.natCast_zero, r20_T, r20, numIs, h1, g1]
  · have g1 : 0 ≤ s := by omega
    by_cases h2 : s > 9
    · have g2 : ¬ (s ≤ 9) := by omega
      simp only [go_sem, and_self, and_true, true_and, false_and, and_false, Nat.reduceAdd, Nat.reduceMul, Nat.reduceSub, Nat.reduceLeDiff, Nat.reduceLT, Nat.reduceGT, Nat.reduceEqDiff, Nat.reduceBEq, Int.reduceNeg, Int.reduceEq, Int.reduceLT, Int.reduceLE, Int.reduceBEq, Int.reduceToNat, Int.toNat_natCast, Int.natCast_zero, r20_T, r20, numIs, h1, g1, h2, g2]
    · have g2 : s ≤ 9 := by omega
      by_cases h3 : c ≤ -1000000000000000
      · have g3 : ¬ (-1000000000000000 < c) := by omega
        have g4 : c < 1000000000000000 := by omega
        have h4 : ¬ c ≥ 1000000000000000 := by omega
        simp only [go_sem, and_self, and_true, true_and, false_and, and_false, Nat.reduceAdd, Nat.reduceMul, Nat.reduceSub, Nat.reduceLeDiff, Nat.reduceLT, Nat.reduceGT, Nat.reduceEqDiff, Nat.reduceBEq, Int.reduceNeg, Int.reduceEq, Int.reduceLT, Int.reduceLE, Int.reduceBEq, Int.reduceToNat, Int.toNat_natCast, Int.natCast_zero, r20_T, r20, numIs, h1, g1, h2, g2, h3, g3, h4, g4]
      · have g3 : -1000000000000000 < c := by omega
        by_cases h4 : c ≥ 1000000000000000
        · have g4 : ¬ (c < 1000000000000000) := by omega
          simp only [go_sem, and_self, and_true, true_and, false_and, and_false, Nat.reduceAdd, Nat.reduceMul, Nat.reduceSub, Nat.reduceLeDiff, Nat.reduceLT, Nat.reduceGT, Nat.reduceEqDiff, Nat.reduceBEq, Int.reduceNeg, Int.reduceEq, Int.reduceLT, Int.reduceLE, Int.reduceBEq, Int.reduceToNat, Int.toNat_natCast, Int.natCast_zero, r20_T, r20, numIs, h1, g1, h2, g2, h3, g3, h4, g4]
        · have g4 : c < 1000000000000000 := by omega
          by_cases h5 : s = 0
          · subst h5
            simp only [go_sem, and_self, and_true, true_and, false_and, and_false, Nat.reduceAdd, Nat.reduceMul, Nat.reduceSub, Nat.reduceLeDiff, Nat.reduceLT, Nat.reduceGT, Nat.reduceEqDiff, Nat.reduceBEq, Int.reduceNeg, Int.reduceEq, Int.reduceLT, Int.reduceLE, Int.reduceBEq, Int.reduceToNat, Int.toNat_natCast, Int.natCast_zero, r20_T, r20, numIs, h1, g1, h2, g2, h3, g3, h4, g4, Bool.true_or]
          · have g5 : (s == 0) = false := by simpa using h5
            simp only [go_sem, and_self, and_true, true_and, false_and, and_false, Nat.reduceAdd, Nat.reduceMul, Nat.reduceSub, Nat.reduceLeDiff, Nat.reduceLT, Nat.reduceGT, Nat.reduceEqDiff, Nat.reduceBEq, Int.reduceNeg, Int.reduceEq, Int.reduceLT, Int.reduceLE, Int.reduceBEq, Int.reduceToNat, Int.toNat_natCast, Int.natCast_zero, r20_T, r20, numIs, h1, g1, h2, g2, h3, g3, h4, g4, g5, Bool.false_or]

end Go.Pe.T

namespace Go.Pe.T
/-! ### ref04: whole numbers without bound, digit by digit -/

abbrev dl (l : List Int) : D := .sl (l.map iv)
abbrev longD (neg : Bool) (l : List Int) : D := .agg [.bool neg, .sl (l.map iv)]

theorem dl_all (l : List Int) : (l.map iv).all (fun y => y.width == 1) = true := by
  rw [List.all_eq_true]
  intro y hy
  obtain ⟨n, _, rfl⟩ := List.mem_map.1 hy
  rfl
theorem dl_get {l : List Int} {i : Nat} {d : Int} (h : l[i]? = some d) : (l.map iv)[i]? = some (iv d) := by rw [List.getElem?_map, h]; rfl
theorem cut_dl (l : List Int) (n : Nat) : cutD (l.map iv) 0 (n : Int) = (l.take n).map iv := by
  simp [cutD]

def trimN (l : List Int) : Nat → Nat
  | 0 => 0
  | n + 1 => if l[n]? = some 0 then trimN l n else n + 1
def trimL (l : List Int) : List Int := l.take (trimN l l.length)

theorem trimN_le (l : List Int) : ∀ n, trimN l n ≤ n
  | 0 => Nat.le_refl _
  | n + 1 => by
    unfold trimN
    split
    · have := trimN_le l n; omega
    · exact Nat.le_refl _

theorem trim_loop (neg : Bool) (l : List Int) (hl : l.length ≤ maxLen) (x2 : List PV) : ∀ n, n ≤ l.length →
    V (F tab) r43_B0 (r43_S0 (.ibox [.d (.bool neg), .d (.sl (l.map iv))]) (.ibox x2) (.d (iv n)) []) = some (.norm, r43_E0 (.ibox [.d (.bool neg), .d (.sl (l.map iv))]) (.ibox x2) (.d (iv (trimN l n))) [])
  | 0, hn => by
    rw [r43_B0_eq]
    simp only [go_sem, and_self, and_true, true_and, false_and, and_false, Nat.reduceAdd, Nat.reduceMul, Nat.reduceSub, Nat.reduceLeDiff, Nat.reduceLT, Nat.reduceGT, Nat.reduceEqDiff, Nat.reduceBEq, Int.reduceNeg, Int.reduceEq, Int.reduceLT, Int.reduceLE, Int.reduceBEq, Int.reduceToNat, Int.toNat_natCast, Int.natCast_zero, r43_C0, trimN, Int.natCast_zero, gt_iff_lt, Int.lt_irrefl]
  | n + 1, hn => by
    have hmx : maxLen ≤ 9223372036854775807 := by decide
    have h1 : ((0 : Int) < ((n + 1 : Nat) : Int)) = True := eq_true (by omega)
    have hd : ∃ d, l[n]? = some d := ⟨l[n], List.getElem?_eq_getElem (by omega)⟩
    obtain ⟨d, hd⟩ := hd
    have h2 : (l.map iv)[n]? = some (iv d) := dl_get hd
    have h3 : (((n + 1 : Nat) : Int) - 1) = (n : Int) := by omega
    have h4 : (0 ≤ (n : Int)) = True := by simp
    have ih := trim_loop neg l hl x2 n (by omega)
    rw [r43_B0_eq]
    by_cases h0 : d = 0
    · subst h0
      have e : trimN l (n + 1) = trimN l n := by simp [trimN, hd]
      rw [e]
      simp (disch := omega) only [go_sem, and_self, and_true, true_and, false_and, and_false, Nat.reduceAdd, Nat.reduceMul, Nat.reduceSub, Nat.reduceLeDiff, Nat.reduceLT, Nat.reduceGT, Nat.reduceEqDiff, Nat.reduceBEq, Int.reduceNeg, Int.reduceEq, Int.reduceLT, Int.reduceLE, Int.reduceBEq, Int.reduceToNat, Int.toNat_natCast, Int.natCast_zero, r43_C0, gt_iff_lt, h1, h3, w64, h4, h2, elemD, List.getElem?_cons_zero]
      exact ih
    · have e : trimN l (n + 1) = n + 1 := by simp [trimN, hd, h0]
      have h5 : (d == 0) = false := by simpa using h0
      rw [e]
      simp (disch := omega) only [go_sem, and_self, and_true, true_and, false_and, and_false, Nat.reduceAdd, Nat.reduceMul, Nat.reduceSub, Nat.reduceLeDiff, Nat.reduceLT, Nat.reduceGT, Nat.reduceEqDiff, Nat.reduceBEq, Int.reduceNeg, Int.reduceEq, Int.reduceLT, Int.reduceLE, Int.reduceBEq, Int.reduceToNat, Int.toNat_natCast, Int.natCast_zero, r43_C0, gt_iff_lt, h1, h3, w64, h4, h2, h5]

theorem trim_ok (neg : Bool) (l : List Int) (hl : l.length ≤ maxLen) (hp : List Ent) :
    F tab 43 [.d (longD neg l)] hp = some (.ret (.d (longD (neg && trimN l l.length != 0) (trimL l))) hp) := by
  refine f43 rfl ?_
  have hL := trim_loop neg l hl [.d (.bool false), .nilsl] l.length (Nat.le_refl _)
  have hle := trimN_le l l.length
  simp (disch := omega) only [go_sem, and_self, and_true, true_and, false_and, and_false, Nat.reduceAdd, Nat.reduceMul, Nat.reduceSub, Nat.reduceLeDiff, Nat.reduceLT, Nat.reduceGT, Nat.reduceEqDiff, Nat.reduceBEq, Int.reduceNeg, Int.reduceEq, Int.reduceLT, Int.reduceLE, Int.reduceBEq, Int.reduceToNat, Int.toNat_natCast, Int.natCast_zero, r43_T, r43, List.length_map]
  rw [r43_B0_n]
  erw [hL]
  have h1 : (0 ≤ ((trimN l l.length : Nat) : Int)) = True := by simp
  have h2 : (((trimN l l.length : Nat) : Int) ≤ (l.length : Int)) = True := by simp; omega
  by_cases h0 : trimN l l.length = 0
  · have h3 : (((trimN l l.length : Nat) : Int) == 0) = true := by simp [h0]
    have h4 : (trimN l l.length != 0) = false := by simp [h0]
    simp (disch := omega) only [go_sem, and_self, and_true, true_and, false_and, and_false, Nat.reduceAdd, Nat.reduceMul, Nat.reduceSub, Nat.reduceLeDiff, Nat.reduceLT, Nat.reduceGT, Nat.reduceEqDiff, Nat.reduceBEq, Int.reduceNeg, Int.reduceEq, Int.reduceLT, Int.reduceLE, Int.reduceBEq, Int.reduceToNat, Int.toNat_natCast, Int.natCast_zero, dl_all, cut_dl, List.length_map, h1, h2, h3, h4, trimL, decide_true, Int.le_refl]
  · have h3 : (((trimN l l.length : Nat) : Int) == 0) = false := by simp; omega
    have h4 : (trimN l l.length != 0) = true := by simp [h0]
    simp (disch := omega) only [go_sem, and_self, and_true, true_and, false_and, and_false, Nat.reduceAdd, Nat.reduceMul, Nat.reduceSub, Nat.reduceLeDiff, Nat.reduceLT, Nat.reduceGT, Nat.reduceEqDiff, Nat.reduceBEq, Int.reduceNeg, Int.reduceEq, Int.reduceLT, Int.reduceLE, Int.reduceBEq, Int.reduceToNat, Int.toNat_natCast, Int.natCast_zero, dl_all, cut_dl, List.length_map, h1, h2, h3, h4, trimL, decide_true, Int.le_refl]
end Go.Pe.T

namespace Go.Pe.T

/-! ### Shift, Of -/

theorem shift_loop (n : Nat) (hn : n ≤ 1000) (x2 x4 : List PV) : ∀ (j i : Nat), i + j = n →
    V (F tab) r44_B0 (r44_S0 (.d (iv n)) (.ibox x2) (.ibox x4) (.own 3 ((List.replicate i 0).map iv)) (.d (iv i)) []) =
      some (.norm, r44_E0 (.ibox x2) (.ibox x4) (.own 3 ((List.replicate n 0).map iv)) [])
  | 0, i, hi => by
    obtain rfl : i = n := by omega
    rw [r44_B0_eq]
    simp only [go_sem, and_self, and_true, true_and, false_and, and_false, Nat.reduceAdd, Nat.reduceMul, Nat.reduceSub, Nat.reduceLeDiff, Nat.reduceLT, Nat.reduceGT, Nat.reduceEqDiff, Nat.reduceBEq, Int.reduceNeg, Int.reduceEq, Int.reduceLT, Int.reduceLE, Int.reduceBEq, Int.reduceToNat, Int.toNat_natCast, Int.natCast_zero, r44_C0, Int.lt_irrefl]
  | j + 1, i, hi => by
    have h1 : ((i : Int) < (n : Int)) = True := eq_true (by omega)
    have h2 : ((i + 1) * 8 ≤ maxRow) = True := eq_true (by unfold maxRow; omega)
    have ih := shift_loop n hn x2 x4 j (i + 1) (by omega)
    rw [List.replicate_succ', List.map_append] at ih
    rw [r44_B0_eq]
    simp (disch := omega) only [go_sem, and_self, and_true, true_and, false_and, and_false, Nat.reduceAdd, Nat.reduceMul, Nat.reduceSub, Nat.reduceLeDiff, Nat.reduceLT, Nat.reduceGT, Nat.reduceEqDiff, Nat.reduceBEq, Int.reduceNeg, Int.reduceEq, Int.reduceLT, Int.reduceLE, Int.reduceBEq, Int.reduceToNat, Int.toNat_natCast, Int.natCast_zero, r44_C0, h1, w64, List.length_map, List.length_replicate, h2]
    exact ih

/-- so many noughts below -/
def shiftL (l : List Int) (n : Nat) : List Int := trimL (List.replicate n 0 ++ l)

theorem shift_ok (neg : Bool) (l : List Int) (hl : l.length ≤ 1000) (n : Nat) (hn : n ≤ 1000) (hp : List Ent) :
    F tab 44 [.d (longD neg l), .d (iv n)] hp = some (.ret (.d (longD (neg && trimN (List.replicate n 0 ++ l) (n + l.length) != 0) (shiftL l n))) hp) := by
  refine f44 rfl ?_
  have hL := shift_loop n hn [.d (.bool neg), .d (.sl (l.map iv))] [.d (.bool false), .nilsl] n 0 (by omega)
  have hT := trim_ok neg (List.replicate n 0 ++ l) (by have : maxLen = 9223372036854775807 := by decide
                                                       simp only [List.length_append, List.length_replicate]; omega)
  have h2 : ((n + l.length) * 8 ≤ maxRow) = True := eq_true (by unfold maxRow; omega)
  simp only [List.length_append, List.length_replicate] at hT
  simp (disch := omega) only [go_sem, and_self, and_true, true_and, false_and, and_false, Nat.reduceAdd, Nat.reduceMul, Nat.reduceSub, Nat.reduceLeDiff, Nat.reduceLT, Nat.reduceGT, Nat.reduceEqDiff, Nat.reduceBEq, Int.reduceNeg, Int.reduceEq, Int.reduceLT, Int.reduceLE, Int.reduceBEq, Int.reduceToNat, Int.toNat_natCast, Int.natCast_zero, r44_T, r44, List.length_map]
  rw [r44_B0_n, r44_B0_z5]
  erw [hL]
  simp (disch := omega) only [go_sem, and_self, and_true, true_and, false_and, and_false, Nat.reduceAdd, Nat.reduceMul, Nat.reduceSub, Nat.reduceLeDiff, Nat.reduceLT, Nat.reduceGT, Nat.reduceEqDiff, Nat.reduceBEq, Int.reduceNeg, Int.reduceEq, Int.reduceLT, Int.reduceLE, Int.reduceBEq, Int.reduceToNat, Int.toNat_natCast, Int.natCast_zero, List.length_map, List.length_replicate, h2, ← List.map_append, hT, dl_all, shiftL]

/-- a number's digits, the lowest first -/
def digs (n : Nat) : List Int := if n = 0 then [] else ((n % 10 : Nat) : Int) :: digs (n / 10)
  termination_by n
  decreasing_by omega

/-- a row that may be nothing as yet -/
def rowP : List Int → PV
  | [] => .nilsl
  | x :: l => .own 3 (iv x :: l.map iv)

theorem of_loop (neg : Bool) (x2 : List PV) : ∀ (m : Nat) (c : Int) (out : List Int), c.natAbs = m → i64 c → out.length ≤ 100 - (digs m).length → (digs m).length ≤ 50 →
    V (F tab) r18_B0 (r18_S0 (.d (iv c)) (.ibox x2) (.ibox [.d (.bool neg), rowP out]) []) =
      some (.norm, r18_E0 (.ibox x2) (.ibox [.d (.bool neg), rowP (out ++ digs m)]) []) := by
  intro m
  induction m using Nat.strongRecOn with
  | _ m ih =>
    intro c out hm hc hlen hd
    by_cases h0 : c = 0
    · subst h0
      have : m = 0 := by omega
      subst this
      have h1 : ((0 : Int) != 0) = false := by decide
      rw [r18_B0_eq]
      have e : digs 0 = [] := by rw [digs]; rfl
      rw [e]
      simp only [go_sem, and_self, and_true, true_and, false_and, and_false, Nat.reduceAdd, Nat.reduceMul, Nat.reduceSub, Nat.reduceLeDiff, Nat.reduceLT, Nat.reduceGT, Nat.reduceEqDiff, Nat.reduceBEq, Int.reduceNeg, Int.reduceEq, Int.reduceLT, Int.reduceLE, Int.reduceBEq, Int.reduceToNat, Int.toNat_natCast, Int.natCast_zero, r18_C0, h1, List.append_nil]
    · have hm0 : m ≠ 0 := by omega
      have h1 : (c != 0) = true := by simpa using h0
      have e : digs m = ((m % 10 : Nat) : Int) :: digs (m / 10) := by rw [digs, if_neg hm0]
      rw [e] at hlen hd ⊢
      simp only [List.length_cons] at hlen hd
      have hq : (c.tdiv 10).natAbs = m / 10 := by rw [Int.natAbs_tdiv, hm]; rfl
      have hr : (c.tmod 10).natAbs = m % 10 := by rw [Int.natAbs_tmod, hm]; rfl
      unfold i64 at hc
      have ihc := ih (m / 10) (by omega) (c.tdiv 10) (out ++ [((m % 10 : Nat) : Int)]) hq (by unfold i64; omega) (by simp; omega) (by omega)
      rw [List.append_assoc, List.singleton_append] at ihc
      have hb : -10 < c.tmod 10 ∧ c.tmod 10 < 10 := by omega
      have hb2 : -9223372036854775808 ≤ c.tdiv 10 ∧ c.tdiv 10 ≤ 9223372036854775807 := by omega
      rw [r18_B0_eq]
      have h8 : (8 ≤ maxRow) = True := eq_true (by unfold maxRow; omega)
      cases out with
      | nil =>
        by_cases hs : c.tmod 10 < 0
        · have e3 : 0 - c.tmod 10 = ((m % 10 : Nat) : Int) := by omega
          have e4 : IntKind.i64.wrap (0 - c.tmod 10) = ((m % 10 : Nat) : Int) := by rw [w64 (by omega), e3]
          simp (disch := omega) only [go_sem, and_self, and_true, true_and, false_and, and_false, Nat.reduceAdd, Nat.reduceMul, Nat.reduceSub, Nat.reduceLeDiff, Nat.reduceLT, Nat.reduceGT, Nat.reduceEqDiff, Nat.reduceBEq, Int.reduceNeg, Int.reduceEq, Int.reduceLT, Int.reduceLE, Int.reduceBEq, Int.reduceToNat, Int.toNat_natCast, Int.natCast_zero, r18_C0, h1, hs, e4, w64, List.length_map, h8, rowP]
          exact ihc
        · have e3 : c.tmod 10 = ((m % 10 : Nat) : Int) := by omega
          simp (disch := omega) only [go_sem, and_self, and_true, true_and, false_and, and_false, Nat.reduceAdd, Nat.reduceMul, Nat.reduceSub, Nat.reduceLeDiff, Nat.reduceLT, Nat.reduceGT, Nat.reduceEqDiff, Nat.reduceBEq, Int.reduceNeg, Int.reduceEq, Int.reduceLT, Int.reduceLE, Int.reduceBEq, Int.reduceToNat, Int.toNat_natCast, Int.natCast_zero, r18_C0, h1, hs, w64, List.length_map, h8, rowP]
          rw [e3]
          exact ihc
      | cons x l =>
        simp only [List.length_cons] at hlen
        have h2 : ((l.length + 1 + 1) * 8 ≤ maxRow) = True := eq_true (by unfold maxRow; omega)
        have ihc' : V (F tab) r18_B0 (r18_S0 (.d (iv (c.tdiv 10))) (.ibox x2) (.ibox [.d (.bool neg), .own 3 (iv x :: (l.map iv ++ [iv ((m % 10 : Nat) : Int)]))]) []) =
            some (.norm, r18_E0 (.ibox x2) (.ibox [.d (.bool neg), rowP (x :: l ++ ((m % 10 : Nat) : Int) :: digs (m / 10))]) []) := by
          rw [← ihc]
          simp only [List.cons_append, rowP, List.map_append, List.map_cons, List.map_nil]
        by_cases hs : c.tmod 10 < 0
        · have e3 : 0 - c.tmod 10 = ((m % 10 : Nat) : Int) := by omega
          have e4 : IntKind.i64.wrap (0 - c.tmod 10) = ((m % 10 : Nat) : Int) := by rw [w64 (by omega), e3]
          simp (disch := omega) only [go_sem, and_self, and_true, true_and, false_and, and_false, Nat.reduceAdd, Nat.reduceMul, Nat.reduceSub, Nat.reduceLeDiff, Nat.reduceLT, Nat.reduceGT, Nat.reduceEqDiff, Nat.reduceBEq, Int.reduceNeg, Int.reduceEq, Int.reduceLT, Int.reduceLE, Int.reduceBEq, Int.reduceToNat, Int.toNat_natCast, Int.natCast_zero, r18_C0, h1, hs, e4, w64, List.length_map, h2, rowP]
          exact ihc'
        · have e3 : c.tmod 10 = ((m % 10 : Nat) : Int) := by omega
          simp (disch := omega) only [go_sem, and_self, and_true, true_and, false_and, and_false, Nat.reduceAdd, Nat.reduceMul, Nat.reduceSub, Nat.reduceLeDiff, Nat.reduceLT, Nat.reduceGT, Nat.reduceEqDiff, Nat.reduceBEq, Int.reduceNeg, Int.reduceEq, Int.reduceLT, Int.reduceLE, Int.reduceBEq, Int.reduceToNat, Int.toNat_natCast, Int.natCast_zero, r18_C0, h1, hs, w64, List.length_map, h2, rowP]
          rw [e3]
          exact ihc'

theorem digs_len : ∀ (k n : Nat), n < 10 ^ k → (digs n).length ≤ k
  | 0, n, h => by
    have : n = 0 := by simpa using h
    subst this
    rw [digs]; simp
  | k + 1, n, h => by
    rw [digs]
    split
    · simp
    · have := digs_len k (n / 10) (by rw [Nat.pow_succ] at h; omega)
      simp only [List.length_cons]
      omega

theorem of_ok (c : Int) (hc : -1000000000000000000 < c ∧ c < 1000000000000000000) (hp : List Ent) :
    F tab 18 [.d (iv c)] hp = some (.ret (.d (longD (decide (c < 0)) (digs c.natAbs))) hp) := by
  refine f18 rfl ?_
  have hd := digs_len 18 c.natAbs (by have : (10 : Nat) ^ 18 = 1000000000000000000 := by decide
                                      omega)
  have hL := of_loop (decide (c < 0)) [.d (.bool false), .nilsl] c.natAbs c [] rfl (by unfold i64; omega) (by simp) (by omega)
  simp (disch := omega) only [go_sem, and_self, and_true, true_and, false_and, and_false, Nat.reduceAdd, Nat.reduceMul, Nat.reduceSub, Nat.reduceLeDiff, Nat.reduceLT, Nat.reduceGT, Nat.reduceEqDiff, Nat.reduceBEq, Int.reduceNeg, Int.reduceEq, Int.reduceLT, Int.reduceLE, Int.reduceBEq, Int.reduceToNat, Int.toNat_natCast, Int.natCast_zero, r18_T, r18]
  rw [r18_B0_n]
  erw [hL]
  rw [List.nil_append]
  cases digs c.natAbs with
  | nil => simp (disch := omega) only [go_sem, and_self, and_true, true_and, false_and, and_false, Nat.reduceAdd, Nat.reduceMul, Nat.reduceSub, Nat.reduceLeDiff, Nat.reduceLT, Nat.reduceGT, Nat.reduceEqDiff, Nat.reduceBEq, Int.reduceNeg, Int.reduceEq, Int.reduceLT, Int.reduceLE, Int.reduceBEq, Int.reduceToNat, Int.toNat_natCast, Int.natCast_zero, rowP]; rfl
  | cons x l => simp (disch := omega) only [go_sem, and_self, and_true, true_and, false_and, and_false, Nat.reduceAdd, Nat.reduceMul, Nat.reduceSub, Nat.reduceLeDiff, Nat.reduceLT, Nat.reduceGT, Nat.reduceEqDiff, Nat.reduceBEq, Int.reduceNeg, Int.reduceEq, Int.reduceLT, Int.reduceLE, Int.reduceBEq, Int.reduceToNat, Int.toNat_natCast, Int.natCast_zero, rowP]; rfl
end Go.Pe.T

namespace Go.Pe.T

/-! ### sum, less, above -/

def digit (d : Int) : Prop := 0 ≤ d ∧ d ≤ 9
def Digs (l : List Int) : Prop := ∀ d ∈ l, digit d

/-- the sum of sizes, so much carried -/
def sumL (a b : List Int) (c : Int) : Nat → List Int
  | 0 => []
  | k + 1 => if a = [] ∧ b = [] ∧ c ≤ 0 then [] else ((c + a.headD 0 + b.headD 0) % 10) :: sumL a.tail b.tail ((c + a.headD 0 + b.headD 0) / 10) k

theorem drop_head {l : List Int} {i : Nat} : (l.drop i).headD 0 = (l[i]?).getD 0 := by
  rw [List.headD_eq_head?_getD, List.head?_drop]
theorem drop_tail' {l : List Int} {i : Nat} : (l.drop i).tail = l.drop (i + 1) := by simp

theorem sum_loop (a b : List Int) (ha : Digs a) (hb : Digs b) (hla : a.length ≤ 1000) (hlb : b.length ≤ 1000) : ∀ (k i : Nat) (c : Int) (out : List Int), 0 ≤ c → c ≤ 1 → out.length = i → max a.length b.length + 1 < i + k → i ≤ max a.length b.length + 1 → (max a.length b.length < i → c = 0) →
    V (F tab) r83_B0 (r83_S0 (.d (.sl (a.map iv))) (.d (.sl (b.map iv))) (.own 3 (out.map iv)) (.d (iv c)) (.d (iv i)) []) =
      some (.norm, r83_E0 (.own 3 ((out ++ sumL (a.drop i) (b.drop i) c k).map iv)) [])
  | 0, i, c, out, h0, h1, hl, hk, _, _ => by omega
  | k + 1, i, c, out, h0, h1, hl, hk, hi, hz => by
    rw [r83_B0_eq]
    have ea : a.drop i = [] ↔ ¬ i < a.length := by simp
    have eb : b.drop i = [] ↔ ¬ i < b.length := by simp
    by_cases hend : a.drop i = [] ∧ b.drop i = [] ∧ c ≤ 0
    · have e : sumL (a.drop i) (b.drop i) c (k + 1) = [] := by rw [sumL, if_pos hend]
      rw [e, List.append_nil]
      obtain ⟨x1, x2, x3⟩ := hend
      have g1 : ((i : Int) < (a.length : Int)) = False := eq_false (by have := ea.1 x1; omega)
      have g2 : ((i : Int) < (b.length : Int)) = False := eq_false (by have := eb.1 x2; omega)
      have g3 : (c > 0) = False := eq_false (by omega)
      simp only [go_sem, and_self, and_true, true_and, false_and, and_false, Nat.reduceAdd, Nat.reduceMul, Nat.reduceSub, Nat.reduceLeDiff, Nat.reduceLT, Nat.reduceGT, Nat.reduceEqDiff, Nat.reduceBEq, Int.reduceNeg, Int.reduceEq, Int.reduceLT, Int.reduceLE, Int.reduceBEq, Int.reduceToNat, Int.toNat_natCast, Int.natCast_zero, r83_C0, List.length_map, g1, g2, g3]
    · have e : sumL (a.drop i) (b.drop i) c (k + 1) = ((c + (a.drop i).headD 0 + (b.drop i).headD 0) % 10) :: sumL (a.drop i).tail (b.drop i).tail ((c + (a.drop i).headD 0 + (b.drop i).headD 0) / 10) k := by rw [sumL, if_neg hend]
      rw [e, drop_tail', drop_tail', drop_head, drop_head]
      have nx : ∀ n : Int, 0 ≤ n → n ≤ 19 → (i < max a.length b.length ∨ (n ≤ 1 ∧ i ≤ max a.length b.length)) → n.tmod 10 = n % 10 ∧ n.tdiv 10 = n / 10 ∧ 
          V (F tab) r83_B0 (r83_S0 (.d (.sl (a.map iv))) (.d (.sl (b.map iv))) (.own 3 (out.map iv ++ [iv (n % 10)])) (.d (iv (n / 10))) (.d (iv ((i : Int) + 1))) []) =
            some (.norm, r83_E0 (.own 3 ((out ++ (n % 10) :: sumL (a.drop (i + 1)) (b.drop (i + 1)) (n / 10) k).map iv)) []) := by
        intro n hn0 hn1 hn2
        refine ⟨Int.tmod_eq_emod_of_nonneg hn0, Int.tdiv_eq_ediv_of_nonneg hn0, ?_⟩
        have ih := sum_loop a b ha hb hla hlb k (i + 1) (n / 10) (out ++ [n % 10]) (by omega) (by omega) (by simp [hl]) (by omega) (by omega) (by omega)
        rw [List.append_assoc, List.singleton_append, List.map_append] at ih
        exact ih
      have h8 : ((out.length + 1) * 8 ≤ maxRow) = True := eq_true (by unfold maxRow; omega)
      have hi0 : (0 ≤ (i : Int)) = True := eq_true (by omega)
      by_cases g1 : i < a.length
      · have f1 : ((i : Int) < (a.length : Int)) = True := eq_true (by omega)
        have da := ha a[i] (List.getElem_mem g1)
        have va : (a.map iv)[i]? = some (iv a[i]) := dl_get (List.getElem?_eq_getElem g1)
        have wa : (a[i]?).getD 0 = a[i] := by simp [g1]
        unfold digit at da
        by_cases g2 : i < b.length
        · have f2 : ((i : Int) < (b.length : Int)) = True := eq_true (by omega)
          have db := hb b[i] (List.getElem_mem g2)
          have vb : (b.map iv)[i]? = some (iv b[i]) := dl_get (List.getElem?_eq_getElem g2)
          have wb : (b[i]?).getD 0 = b[i] := by simp [g2]
          unfold digit at db
          rw [wa, wb]
          obtain ⟨m1, m2, m3⟩ := nx (c + a[i] + b[i]) (by omega) (by omega) (by omega)
          simp (disch := omega) only [go_sem, and_self, and_true, true_and, false_and, and_false, Nat.reduceAdd, Nat.reduceMul, Nat.reduceSub, Nat.reduceLeDiff, Nat.reduceLT, Nat.reduceGT, Nat.reduceEqDiff, Nat.reduceBEq, Int.reduceNeg, Int.reduceEq, Int.reduceLT, Int.reduceLE, Int.reduceBEq, Int.reduceToNat, Int.toNat_natCast, Int.natCast_zero, r83_C0, List.length_map, f1, f2, hi0, va, vb, w64, h8, m1, m2]
          exact m3
        · have f2 : ((i : Int) < (b.length : Int)) = False := eq_false (by omega)
          have wb : (b[i]?).getD 0 = 0 := by simp [List.getElem?_eq_none (Nat.le_of_not_lt g2)]
          rw [wa, wb, Int.add_zero]
          obtain ⟨m1, m2, m3⟩ := nx (c + a[i]) (by omega) (by omega) (by omega)
          simp (disch := omega) only [go_sem, and_self, and_true, true_and, false_and, and_false, Nat.reduceAdd, Nat.reduceMul, Nat.reduceSub, Nat.reduceLeDiff, Nat.reduceLT, Nat.reduceGT, Nat.reduceEqDiff, Nat.reduceBEq, Int.reduceNeg, Int.reduceEq, Int.reduceLT, Int.reduceLE, Int.reduceBEq, Int.reduceToNat, Int.toNat_natCast, Int.natCast_zero, r83_C0, List.length_map, f1, f2, hi0, va, w64, h8, m1, m2]
          exact m3
      · have f1 : ((i : Int) < (a.length : Int)) = False := eq_false (by omega)
        have wa : (a[i]?).getD 0 = 0 := by simp [List.getElem?_eq_none (Nat.le_of_not_lt g1)]
        by_cases g2 : i < b.length
        · have f2 : ((i : Int) < (b.length : Int)) = True := eq_true (by omega)
          have db := hb b[i] (List.getElem_mem g2)
          have vb : (b.map iv)[i]? = some (iv b[i]) := dl_get (List.getElem?_eq_getElem g2)
          have wb : (b[i]?).getD 0 = b[i] := by simp [g2]
          unfold digit at db
          rw [wa, wb, Int.add_zero]
          obtain ⟨m1, m2, m3⟩ := nx (c + b[i]) (by omega) (by omega) (by omega)
          simp (disch := omega) only [go_sem, and_self, and_true, true_and, false_and, and_false, Nat.reduceAdd, Nat.reduceMul, Nat.reduceSub, Nat.reduceLeDiff, Nat.reduceLT, Nat.reduceGT, Nat.reduceEqDiff, Nat.reduceBEq, Int.reduceNeg, Int.reduceEq, Int.reduceLT, Int.reduceLE, Int.reduceBEq, Int.reduceToNat, Int.toNat_natCast, Int.natCast_zero, r83_C0, List.length_map, f1, f2, hi0, vb, w64, h8, m1, m2]
          exact m3
        · have f2 : ((i : Int) < (b.length : Int)) = False := eq_false (by omega)
          have wb : (b[i]?).getD 0 = 0 := by simp [List.getElem?_eq_none (Nat.le_of_not_lt g2)]
          have hc : c = 1 := by
            by_cases hc0 : c ≤ 0
            · exact absurd ⟨ea.2 g1, eb.2 g2, hc0⟩ hend
            · omega
          rw [wa, wb, Int.add_zero, Int.add_zero]
          obtain ⟨m1, m2, m3⟩ := nx c (by omega) (by omega) (by omega)
          have f3 : (c > 0) = True := eq_true (by omega)
          simp (disch := omega) only [go_sem, and_self, and_true, true_and, false_and, and_false, Nat.reduceAdd, Nat.reduceMul, Nat.reduceSub, Nat.reduceLeDiff, Nat.reduceLT, Nat.reduceGT, Nat.reduceEqDiff, Nat.reduceBEq, Int.reduceNeg, Int.reduceEq, Int.reduceLT, Int.reduceLE, Int.reduceBEq, Int.reduceToNat, Int.toNat_natCast, Int.natCast_zero, r83_C0, List.length_map, f1, f2, f3, hi0, w64, h8, m1, m2]
          exact m3

theorem sum_ok (a b : List Int) (ha : Digs a) (hb : Digs b) (hla : a.length ≤ 1000) (hlb : b.length ≤ 1000) (hp : List Ent) :
    F tab 83 [.d (.sl (a.map iv)), .d (.sl (b.map iv))] hp = some (.ret (.d (.sl ((sumL a b 0 (max a.length b.length + 2)).map iv))) hp) := by
  refine f83 rfl ?_
  have hL := sum_loop a b ha hb hla hlb (max a.length b.length + 2) 0 0 [] (by omega) (by omega) rfl (by omega) (by omega) (by omega)
  simp (disch := omega) only [go_sem, and_self, and_true, true_and, false_and, and_false, Nat.reduceAdd, Nat.reduceMul, Nat.reduceSub, Nat.reduceLeDiff, Nat.reduceLT, Nat.reduceGT, Nat.reduceEqDiff, Nat.reduceBEq, Int.reduceNeg, Int.reduceEq, Int.reduceLT, Int.reduceLE, Int.reduceBEq, Int.reduceToNat, Int.toNat_natCast, Int.natCast_zero, r83_T, r83]
  rw [r83_B0_n, r83_B0_z5]
  erw [hL]
  simp (disch := omega) only [go_sem, and_self, and_true, true_and, false_and, and_false, Nat.reduceAdd, Nat.reduceMul, Nat.reduceSub, Nat.reduceLeDiff, Nat.reduceLT, Nat.reduceGT, Nat.reduceEqDiff, Nat.reduceBEq, Int.reduceNeg, Int.reduceEq, Int.reduceLT, Int.reduceLE, Int.reduceBEq, Int.reduceToNat, Int.toNat_natCast, Int.natCast_zero, List.drop_zero]
end Go.Pe.T

namespace Go.Pe.T

/-- the one's size less the other's, so much owed -/
def lessL : List Int → List Int → Int → List Int
  | [], _, _ => []
  | x :: a, b, o => if x - o - b.headD 0 < 0 then (x - o - b.headD 0 + 10) :: lessL a b.tail 1 else (x - o - b.headD 0) :: lessL a b.tail 0

theorem less_loop (a b : List Int) (ha : Digs a) (hb : Digs b) (hla : a.length ≤ 1000) (hlb : b.length ≤ 1000) : ∀ (k i : Nat) (o : Int) (out : List Int), 0 ≤ o → o ≤ 1 → out.length = i → i + k = a.length →
    V (F tab) r58_B0 (r58_S0 (.d (.sl (a.map iv))) (.d (.sl (b.map iv))) (.own 3 (out.map iv)) (.d (iv o)) (.d (iv i)) []) =
      some (.norm, r58_E0 (.own 3 ((out ++ lessL (a.drop i) (b.drop i) o).map iv)) [])
  | 0, i, o, out, h0, h1, hl, hk => by
    rw [r58_B0_eq, List.drop_of_length_le (by omega : a.length ≤ i)]
    have g1 : ((i : Int) < (a.length : Int)) = False := eq_false (by omega)
    simp only [go_sem, and_self, and_true, true_and, false_and, and_false, Nat.reduceAdd, Nat.reduceMul, Nat.reduceSub, Nat.reduceLeDiff, Nat.reduceLT, Nat.reduceGT, Nat.reduceEqDiff, Nat.reduceBEq, Int.reduceNeg, Int.reduceEq, Int.reduceLT, Int.reduceLE, Int.reduceBEq, Int.reduceToNat, Int.toNat_natCast, Int.natCast_zero, r58_C0, List.length_map, g1, lessL, List.append_nil]
  | k + 1, i, o, out, h0, h1, hl, hk => by
    rw [r58_B0_eq]
    have g1 : i < a.length := by omega
    have f1 : ((i : Int) < (a.length : Int)) = True := eq_true (by omega)
    have da := ha a[i] (List.getElem_mem g1)
    have va : (a.map iv)[i]? = some (iv a[i]) := dl_get (List.getElem?_eq_getElem g1)
    have hi0 : (0 ≤ (i : Int)) = True := eq_true (by omega)
    have h8 : ((out.length + 1) * 8 ≤ maxRow) = True := eq_true (by unfold maxRow; omega)
    unfold digit at da
    have nx : ∀ (n o' : Int), 0 ≤ o' → o' ≤ 1 → 
          V (F tab) r58_B0 (r58_S0 (.d (.sl (a.map iv))) (.d (.sl (b.map iv))) (.own 3 (out.map iv ++ [iv n])) (.d (iv o')) (.d (iv ((i : Int) + 1))) []) =
            some (.norm, r58_E0 (.own 3 ((out ++ n :: lessL (a.drop (i + 1)) (b.drop (i + 1)) o').map iv)) []) := by
      intro n o' hn0 hn1
      have ih := less_loop a b ha hb hla hlb k (i + 1) o' (out ++ [n]) hn0 hn1 (by simp [hl]) (by omega)
      rw [List.append_assoc, List.singleton_append, List.map_append] at ih
      exact ih
    rw [List.drop_eq_getElem_cons g1, lessL, drop_tail', drop_head]
    by_cases g2 : i < b.length
    · have f2 : ((i : Int) < (b.length : Int)) = True := eq_true (by omega)
      have db := hb b[i] (List.getElem_mem g2)
      have vb : (b.map iv)[i]? = some (iv b[i]) := dl_get (List.getElem?_eq_getElem g2)
      have wb : (b[i]?).getD 0 = b[i] := by simp [g2]
      unfold digit at db
      rw [wb]
      by_cases hs : a[i] - o - b[i] < 0
      · rw [if_pos hs]
        simp (disch := omega) only [go_sem, and_self, and_true, true_and, false_and, and_false, Nat.reduceAdd, Nat.reduceMul, Nat.reduceSub, Nat.reduceLeDiff, Nat.reduceLT, Nat.reduceGT, Nat.reduceEqDiff, Nat.reduceBEq, Int.reduceNeg, Int.reduceEq, Int.reduceLT, Int.reduceLE, Int.reduceBEq, Int.reduceToNat, Int.toNat_natCast, Int.natCast_zero, r58_C0, List.length_map, f1, f2, hi0, va, vb, w64, h8, hs]
        exact nx _ 1 (by omega) (by omega)
      · rw [if_neg hs]
        simp (disch := omega) only [go_sem, and_self, and_true, true_and, false_and, and_false, Nat.reduceAdd, Nat.reduceMul, Nat.reduceSub, Nat.reduceLeDiff, Nat.reduceLT, Nat.reduceGT, Nat.reduceEqDiff, Nat.reduceBEq, Int.reduceNeg, Int.reduceEq, Int.reduceLT, Int.reduceLE, Int.reduceBEq, Int.reduceToNat, Int.toNat_natCast, Int.natCast_zero, r58_C0, List.length_map, f1, f2, hi0, va, vb, w64, h8, hs]
        exact nx _ 0 (by omega) (by omega)
    · have f2 : ((i : Int) < (b.length : Int)) = False := eq_false (by omega)
      have wb : (b[i]?).getD 0 = 0 := by simp [List.getElem?_eq_none (Nat.le_of_not_lt g2)]
      rw [wb, Int.sub_zero]
      by_cases hs : a[i] - o < 0
      · rw [if_pos hs]
        simp (disch := omega) only [go_sem, and_self, and_true, true_and, false_and, and_false, Nat.reduceAdd, Nat.reduceMul, Nat.reduceSub, Nat.reduceLeDiff, Nat.reduceLT, Nat.reduceGT, Nat.reduceEqDiff, Nat.reduceBEq, Int.reduceNeg, Int.reduceEq, Int.reduceLT, Int.reduceLE, Int.reduceBEq, Int.reduceToNat, Int.toNat_natCast, Int.natCast_zero, r58_C0, List.length_map, f1, f2, hi0, va, w64, h8, hs]
        exact nx _ 1 (by omega) (by omega)
      · rw [if_neg hs]
        simp (disch := omega) only [go_sem, and_self, and_true, true_and, false_and, and_false, Nat.reduceAdd, Nat.reduceMul, Nat.reduceSub, Nat.reduceLeDiff, Nat.reduceLT, Nat.reduceGT, Nat.reduceEqDiff, Nat.reduceBEq, Int.reduceNeg, Int.reduceEq, Int.reduceLT, Int.reduceLE, Int.reduceBEq, Int.reduceToNat, Int.toNat_natCast, Int.natCast_zero, r58_C0, List.length_map, f1, f2, hi0, va, w64, h8, hs]
        exact nx _ 0 (by omega) (by omega)

theorem less_ok (a b : List Int) (ha : Digs a) (hb : Digs b) (hla : a.length ≤ 1000) (hlb : b.length ≤ 1000) (hp : List Ent) :
    F tab 58 [.d (.sl (a.map iv)), .d (.sl (b.map iv))] hp = some (.ret (.d (.sl ((lessL a b 0).map iv))) hp) := by
  refine f58 rfl ?_
  have hL := less_loop a b ha hb hla hlb a.length 0 0 [] (by omega) (by omega) rfl (by omega)
  simp (disch := omega) only [go_sem, and_self, and_true, true_and, false_and, and_false, Nat.reduceAdd, Nat.reduceMul, Nat.reduceSub, Nat.reduceLeDiff, Nat.reduceLT, Nat.reduceGT, Nat.reduceEqDiff, Nat.reduceBEq, Int.reduceNeg, Int.reduceEq, Int.reduceLT, Int.reduceLE, Int.reduceBEq, Int.reduceToNat, Int.toNat_natCast, Int.natCast_zero, r58_T, r58]
  rw [r58_B0_n, r58_B0_z5]
  erw [hL]
  simp (disch := omega) only [go_sem, and_self, and_true, true_and, false_and, and_false, Nat.reduceAdd, Nat.reduceMul, Nat.reduceSub, Nat.reduceLeDiff, Nat.reduceLT, Nat.reduceGT, Nat.reduceEqDiff, Nat.reduceBEq, Int.reduceNeg, Int.reduceEq, Int.reduceLT, Int.reduceLE, Int.reduceBEq, Int.reduceToNat, Int.toNat_natCast, Int.natCast_zero, List.drop_zero, List.nil_append]

/-- is the one above the other, from digit n - 1 down, or the same -/
def aboveN (a b : List Int) : Nat → Bool
  | 0 => true
  | n + 1 => if (a[n]?).getD 0 = (b[n]?).getD 0 then aboveN a b n else decide ((a[n]?).getD 0 > (b[n]?).getD 0)

theorem above_loop (a b : List Int) (hla : a.length ≤ 1000) (he : a.length = b.length) : ∀ n, n ≤ a.length →
    V (F tab) r57_B0 (r57_S0 (.d (.sl (a.map iv))) (.d (.sl (b.map iv))) (.d (iv ((n : Int) - 1))) []) =
      if (∃ i, i < n ∧ (a[i]?).getD 0 ≠ (b[i]?).getD 0) then some (.ret, r57_R (.d (.bool (aboveN a b n))) []) else some (.norm, r57_E0 [])
  | 0, hn => by
    rw [r57_B0_eq, if_neg (by simp)]
    have h1 : ((0 : Int) - 1 ≥ 0) = False := eq_false (by omega)
    simp only [go_sem, and_self, and_true, true_and, false_and, and_false, Nat.reduceAdd, Nat.reduceMul, Nat.reduceSub, Nat.reduceLeDiff, Nat.reduceLT, Nat.reduceGT, Nat.reduceEqDiff, Nat.reduceBEq, Int.reduceNeg, Int.reduceEq, Int.reduceLT, Int.reduceLE, Int.reduceBEq, Int.reduceToNat, Int.toNat_natCast, Int.natCast_zero, r57_C0, h1]
  | n + 1, hn => by
    have h1 : (((n + 1 : Nat) : Int) - 1) = (n : Int) := by omega
    have h2 : ((n : Int) ≥ 0) = True := eq_true (by omega)
    have h3 : (0 ≤ (n : Int)) = True := eq_true (by omega)
    have va : (a.map iv)[n]? = some (iv a[n]) := dl_get (List.getElem?_eq_getElem (by omega))
    have vb : (b.map iv)[n]? = some (iv b[n]) := dl_get (List.getElem?_eq_getElem (by omega))
    have wa : (a[n]?).getD 0 = a[n] := by simp [show n < a.length by omega]
    have wb : (b[n]?).getD 0 = b[n] := by simp [show n < b.length by omega]
    rw [r57_B0_eq, h1]
    by_cases hne : a[n] = b[n]
    · have hb : (a[n] != b[n]) = false := by simp [hne]
      have ih := above_loop a b hla he n (by omega)
      have e : (∃ i, i < n + 1 ∧ (a[i]?).getD 0 ≠ (b[i]?).getD 0) ↔ (∃ i, i < n ∧ (a[i]?).getD 0 ≠ (b[i]?).getD 0) := by
        constructor
        · rintro ⟨i, h4, h5⟩
          by_cases e : i = n
          · subst e; rw [wa, wb] at h5; exact absurd hne h5
          · exact ⟨i, by omega, h5⟩
        · rintro ⟨i, h4, h5⟩
          exact ⟨i, by omega, h5⟩
      have e2 : aboveN a b (n + 1) = aboveN a b n := by rw [aboveN, wa, wb, if_pos hne]
      rw [e2]
      simp only [e]
      simp (disch := omega) only [go_sem, and_self, and_true, true_and, false_and, and_false, Nat.reduceAdd, Nat.reduceMul, Nat.reduceSub, Nat.reduceLeDiff, Nat.reduceLT, Nat.reduceGT, Nat.reduceEqDiff, Nat.reduceBEq, Int.reduceNeg, Int.reduceEq, Int.reduceLT, Int.reduceLE, Int.reduceBEq, Int.reduceToNat, Int.toNat_natCast, Int.natCast_zero, r57_C0, h2, h3, va, vb, hb, w64]
      exact ih
    · have hb : (a[n] != b[n]) = true := by simp [hne]
      have e : ∃ i, i < n + 1 ∧ (a[i]?).getD 0 ≠ (b[i]?).getD 0 := ⟨n, by omega, by rw [wa, wb]; exact hne⟩
      have e2 : aboveN a b (n + 1) = decide (a[n] > b[n]) := by rw [aboveN, wa, wb, if_neg hne]
      rw [if_pos e, e2]
      simp (disch := omega) only [go_sem, and_self, and_true, true_and, false_and, and_false, Nat.reduceAdd, Nat.reduceMul, Nat.reduceSub, Nat.reduceLeDiff, Nat.reduceLT, Nat.reduceGT, Nat.reduceEqDiff, Nat.reduceBEq, Int.reduceNeg, Int.reduceEq, Int.reduceLT, Int.reduceLE, Int.reduceBEq, Int.reduceToNat, Int.toNat_natCast, Int.natCast_zero, r57_C0, h2, h3, va, vb, hb, w64]

def aboveL (a b : List Int) : Bool := if a.length = b.length then aboveN a b a.length else decide (a.length > b.length)

theorem aboveN_same (a b : List Int) : ∀ n, (¬ ∃ i, i < n ∧ (a[i]?).getD 0 ≠ (b[i]?).getD 0) → aboveN a b n = true
  | 0, _ => rfl
  | n + 1, h => by
    have h1 : (a[n]?).getD 0 = (b[n]?).getD 0 := Classical.byContradiction fun hn => h ⟨n, by omega, hn⟩
    rw [aboveN, if_pos h1]
    exact aboveN_same a b n fun ⟨i, h2, h3⟩ => h ⟨i, by omega, h3⟩

theorem above_ok (a b : List Int) (hla : a.length ≤ 1000) (hlb : b.length ≤ 1000) (hp : List Ent) :
    F tab 57 [.d (.sl (a.map iv)), .d (.sl (b.map iv))] hp = some (.ret (.d (.bool (aboveL a b))) hp) := by
  refine f57 rfl ?_
  by_cases he : a.length = b.length
  · have hL := above_loop a b hla he a.length (Nat.le_refl _)
    have h1 : ((a.length : Int) != (b.length : Int)) = false := by simp [he]
    have e : aboveL a b = aboveN a b a.length := by rw [aboveL, if_pos he]
    rw [e]
    simp (disch := omega) only [go_sem, and_self, and_true, true_and, false_and, and_false, Nat.reduceAdd, Nat.reduceMul, Nat.reduceSub, Nat.reduceLeDiff, Nat.reduceLT, Nat.reduceGT, Nat.reduceEqDiff, Nat.reduceBEq, Int.reduceNeg, Int.reduceEq, Int.reduceLT, Int.reduceLE, Int.reduceBEq, Int.reduceToNat, Int.toNat_natCast, Int.natCast_zero, r57_T, r57, List.length_map, h1, w64]
    rw [r57_B0_n]
    erw [hL]
    by_cases hx : ∃ i, i < a.length ∧ (a[i]?).getD 0 ≠ (b[i]?).getD 0
    · rw [if_pos hx]
      simp (disch := omega) only [go_sem, and_self, and_true, true_and, false_and, and_false, Nat.reduceAdd, Nat.reduceMul, Nat.reduceSub, Nat.reduceLeDiff, Nat.reduceLT, Nat.reduceGT, Nat.reduceEqDiff, Nat.reduceBEq, Int.reduceNeg, Int.reduceEq, Int.reduceLT, Int.reduceLE, Int.reduceBEq, Int.reduceToNat, Int.toNat_natCast, Int.natCast_zero]
    · rw [if_neg hx, aboveN_same a b _ hx]
      simp (disch := omega) only [go_sem, and_self, and_true, true_and, false_and, and_false, Nat.reduceAdd, Nat.reduceMul, Nat.reduceSub, Nat.reduceLeDiff, Nat.reduceLT, Nat.reduceGT, Nat.reduceEqDiff, Nat.reduceBEq, Int.reduceNeg, Int.reduceEq, Int.reduceLT, Int.reduceLE, Int.reduceBEq, Int.reduceToNat, Int.toNat_natCast, Int.natCast_zero]
  · have h1 : ((a.length : Int) != (b.length : Int)) = true := by simp; omega
    have e : aboveL a b = decide (a.length > b.length) := by rw [aboveL, if_neg he]
    have h2 : decide ((a.length : Int) > (b.length : Int)) = decide (a.length > b.length) := by simp
    rw [e]
    simp (disch := omega) only [go_sem, and_self, and_true, true_and, false_and, and_false, Nat.reduceAdd, Nat.reduceMul, Nat.reduceSub, Nat.reduceLeDiff, Nat.reduceLT, Nat.reduceGT, Nat.reduceEqDiff, Nat.reduceBEq, Int.reduceNeg, Int.reduceEq, Int.reduceLT, Int.reduceLE, Int.reduceBEq, Int.reduceToNat, Int.toNat_natCast, Int.natCast_zero, r57_T, r57, List.length_map, h1, w64, h2]
end Go.Pe.T

namespace Go.Pe.T

/-! ### what digits are worth -/

def val : List Int → Int
  | [] => 0
  | d :: l => d + 10 * val l

theorem Digs.cons {d : Int} {l : List Int} (h : Digs (d :: l)) : digit d ∧ Digs l := ⟨h d (by simp), fun x hx => h x (by simp [hx])⟩
theorem Digs.nil : Digs [] := fun _ h => by simp at h
theorem Digs.mk {d : Int} {l : List Int} (h : digit d) (k : Digs l) : Digs (d :: l) := fun x hx => by
  rcases List.mem_cons.1 hx with rfl | hx
  · exact h
  · exact k x hx
theorem Digs.tail {l : List Int} (h : Digs l) : Digs l.tail := fun x hx => h x (List.mem_of_mem_tail hx)
theorem Digs.headD {l : List Int} (h : Digs l) : digit (l.headD 0) := by
  cases l with
  | nil => exact ⟨by simp, by simp⟩
  | cons d l => exact h.cons.1

theorem val_bound : ∀ {l : List Int}, Digs l → 0 ≤ val l ∧ val l < 10 ^ l.length
  | [], _ => by simp [val]
  | d :: l, h => by
    obtain ⟨h1, h2⟩ := h.cons
    obtain ⟨i1, i2⟩ := val_bound h2
    unfold digit at h1
    simp only [val, List.length_cons, Int.pow_succ]
    omega

theorem val_head (l : List Int) : val l = l.headD 0 + 10 * val l.tail := by
  cases l <;> simp [val]

theorem val_append : ∀ (a b : List Int), val (a ++ b) = val a + 10 ^ a.length * val b
  | [], b => by simp [val]
  | d :: a, b => by
    simp only [List.cons_append, val, val_append a b, List.length_cons, Int.pow_succ]
    rw [Int.mul_add, Int.mul_comm ((10 : Int) ^ a.length) 10, Int.mul_assoc]
    omega

theorem val_rep : ∀ (n : Nat) (l : List Int), val (List.replicate n 0 ++ l) = 10 ^ n * val l
  | 0, l => by simp
  | n + 1, l => by
    simp only [List.replicate_succ, List.cons_append, val, val_rep n l, Int.pow_succ]
    rw [Int.mul_comm ((10 : Int) ^ n) 10, Int.mul_assoc]
    omega

theorem sum_val : ∀ (k : Nat) (a b : List Int) (c : Int), Digs a → Digs b → 0 ≤ c → c ≤ 1 → max a.length b.length + 1 < k → val (sumL a b c k) = val a + val b + c ∧ Digs (sumL a b c k) ∧ (sumL a b c k).length ≤ max a.length b.length + 1
  | 0, a, b, c, _, _, _, _, hk => by omega
  | k + 1, a, b, c, ha, hb, h0, h1, hk => by
    unfold sumL
    split
    · rename_i h
      obtain ⟨rfl, rfl, h2⟩ := h
      exact ⟨by simp [val]; omega, Digs.nil, by simp⟩
    · rename_i h
      have da := ha.headD
      have db := hb.headD
      have ea := val_head a
      have eb := val_head b
      unfold digit at da db
      have hlen : max a.tail.length b.tail.length + 1 < k ∨ (a = [] ∧ b = []) := by
        cases a <;> cases b <;> simp at hk ⊢ <;> omega
      rcases hlen with hlen | ⟨rfl, rfl⟩
      · obtain ⟨i1, i2, i3⟩ := sum_val k a.tail b.tail ((c + a.headD 0 + b.headD 0) / 10) ha.tail hb.tail (by omega) (by omega) hlen
        refine ⟨?_, Digs.mk ⟨by omega, by omega⟩ i2, ?_⟩
        · simp only [val, i1]; omega
        · simp only [List.length_cons, List.length_tail] at i3 ⊢
          by_cases hz : a.length = 0 ∧ b.length = 0
          · have e1 : a = [] := List.eq_nil_of_length_eq_zero hz.1
            have e2 : b = [] := List.eq_nil_of_length_eq_zero hz.2
            subst e1 e2
            simp at h ⊢
            have : c = 1 := by omega
            subst this
            cases k with
            | zero => simp [sumL]
            | succ k => simp [sumL]
          · omega
      · simp at h
        have : c = 1 := by omega
        subst this
        cases k with
        | zero => simp at hk
        | succ k => simp [sumL, val, Digs, digit]

theorem less_val : ∀ (a b : List Int) (o : Int), Digs a → Digs b → 0 ≤ o → o ≤ 1 → b.length ≤ a.length → (∃ f : Int, 0 ≤ f ∧ f ≤ 1 ∧ val (lessL a b o) = val a - val b - o + f * 10 ^ a.length) ∧ Digs (lessL a b o) ∧ (lessL a b o).length = a.length
  | [], b, o, ha, hb, h0, h1, hl => by
    have : b = [] := List.eq_nil_of_length_eq_zero (by simpa using hl)
    subst this
    exact ⟨⟨o, h0, h1, by simp [lessL, val]; omega⟩, Digs.nil, rfl⟩
  | x :: a, b, o, ha, hb, h0, h1, hl => by
    have db := hb.headD
    have eb := val_head b
    obtain ⟨dx, da⟩ := ha.cons
    unfold digit at db dx
    have hl' : b.tail.length ≤ a.length := by simp at hl ⊢; omega
    unfold lessL
    split
    · obtain ⟨⟨f, f0, f1, i1⟩, i2, i3⟩ := less_val a b.tail 1 da hb.tail (by omega) (by omega) hl'
      refine ⟨⟨f, f0, f1, ?_⟩, Digs.mk ⟨by omega, by omega⟩ i2, by simp [i3]⟩
      simp only [val, i1, List.length_cons, Int.pow_succ]
      rw [← Int.mul_assoc]
      omega
    · obtain ⟨⟨f, f0, f1, i1⟩, i2, i3⟩ := less_val a b.tail 0 da hb.tail (by omega) (by omega) hl'
      refine ⟨⟨f, f0, f1, ?_⟩, Digs.mk ⟨by omega, by omega⟩ i2, by simp [i3]⟩
      simp only [val, i1, List.length_cons, Int.pow_succ]
      rw [← Int.mul_assoc]
      omega

theorem less_exact {a b : List Int} (ha : Digs a) (hb : Digs b) (hl : b.length ≤ a.length) (h : val b ≤ val a) : val (lessL a b 0) = val a - val b := by
  obtain ⟨⟨f, f0, f1, i1⟩, i2, i3⟩ := less_val a b 0 ha hb (by omega) (by omega) hl
  have h1 := val_bound i2
  rw [i3] at h1
  have h2 := (val_bound hb).1
  have h3 : f = 0 := by
    by_cases hf : f = 0
    · exact hf
    · have : f = 1 := by omega
      subst this
      omega
  subst h3
  omega

theorem trim_val (l : List Int) : ∀ n, n ≤ l.length → val (l.take (trimN l n)) = val (l.take n) ∧ (∀ d, (l.take (trimN l n)).getLast? = some d → d ≠ 0)
  | 0, _ => by simp [trimN]
  | n + 1, hn => by
    have hg : l[n]? = some l[n] := List.getElem?_eq_getElem (by omega)
    have ht : l.take (n + 1) = l.take n ++ [l[n]] := by rw [List.take_add_one, hg]; rfl
    unfold trimN
    split
    · rename_i h
      obtain ⟨i1, i2⟩ := trim_val l n (by omega)
      refine ⟨?_, i2⟩
      rw [i1, ht, val_append]
      rw [hg] at h
      simp only [Option.some.injEq] at h
      simp [h, val]
    · rename_i h
      refine ⟨rfl, ?_⟩
      intro d hd
      rw [ht, List.getLast?_concat] at hd
      simp only [Option.some.injEq] at hd
      subst hd
      intro e
      exact h (by rw [hg, e])

theorem trimL_val (l : List Int) : val (trimL l) = val l := by
  have := (trim_val l l.length (Nat.le_refl _)).1
  rwa [List.take_length] at this
theorem trimL_top (l : List Int) : ∀ d, (trimL l).getLast? = some d → d ≠ 0 := (trim_val l l.length (Nat.le_refl _)).2
theorem trimL_digs {l : List Int} (h : Digs l) : Digs (trimL l) := fun d hd => h d (List.mem_of_mem_take hd)
theorem trimL_len (l : List Int) : (trimL l).length = trimN l l.length := by
  have := trimN_le l l.length
  simp [trimL]; omega
end Go.Pe.T

namespace Go.Pe.T

/-! ### above, by worth -/

/-- digits without noughts above -/
def Top (l : List Int) : Prop := Digs l ∧ ∀ d, l.getLast? = some d → d ≠ 0

theorem top_bound : ∀ {l : List Int}, Top l → l ≠ [] → 10 ^ (l.length - 1) ≤ val l
  | [], _, h => absurd rfl h
  | [d], h, _ => by
    have h1 := h.2 d (by simp)
    have h2 := h.1.cons.1
    unfold digit at h2
    simp [val]; omega
  | d :: e :: l, h, _ => by
    have h2 := h.1.cons
    have ih := top_bound (l := e :: l) ⟨h2.2, fun x hx => h.2 x (by simpa [List.getLast?_cons_cons] using hx)⟩ (by simp)
    have h3 := h2.1
    unfold digit at h3
    have e1 : (d :: e :: l).length - 1 = ((e :: l).length - 1) + 1 := by simp
    rw [e1, Int.pow_succ]
    have e2 : val (d :: e :: l) = d + 10 * val (e :: l) := rfl
    rw [e2]
    omega

theorem val_take {a : List Int} {n : Nat} (h : n < a.length) : val (a.take (n + 1)) = val (a.take n) + 10 ^ n * a[n] := by
  have hg : a[n]? = some a[n] := List.getElem?_eq_getElem h
  have ht : a.take (n + 1) = a.take n ++ [a[n]] := by rw [List.take_add_one, hg]; rfl
  rw [ht, val_append]
  simp [val, List.length_take, Nat.min_eq_left (Nat.le_of_lt h)]

theorem Digs.take {l : List Int} (h : Digs l) (n : Nat) : Digs (l.take n) := fun d hd => h d (List.mem_of_mem_take hd)

theorem aboveN_val {a b : List Int} (ha : Digs a) (hb : Digs b) (he : a.length = b.length) : ∀ n, n ≤ a.length → (aboveN a b n = true ↔ val (b.take n) ≤ val (a.take n))
  | 0, _ => by simp [aboveN, val]
  | n + 1, hn => by
    have hb' : n < b.length := by omega
    have ha' : n < a.length := by omega
    have wa : (a[n]?).getD 0 = a[n] := by simp [ha']
    have wb : (b[n]?).getD 0 = b[n] := by simp [hb']
    have ia := val_bound (ha.take n)
    have ib := val_bound (hb.take n)
    rw [List.length_take, Nat.min_eq_left (by omega)] at ia ib
    rw [aboveN, wa, wb, val_take ha', val_take hb']
    split
    · rename_i h
      rw [aboveN_val ha hb he n (by omega), h]
      omega
    · rename_i h
      simp only [decide_eq_true_eq]
      constructor
      · intro h1
        have : (10 : Int) ^ n * (b[n] + 1) ≤ 10 ^ n * a[n] := Int.mul_le_mul_of_nonneg_left (by omega) (by omega)
        rw [Int.mul_add] at this
        omega
      · intro h1
        by_cases h2 : a[n] > b[n]
        · exact h2
        · exfalso
          have : (10 : Int) ^ n * (a[n] + 1) ≤ 10 ^ n * b[n] := Int.mul_le_mul_of_nonneg_left (by omega) (by omega)
          rw [Int.mul_add] at this
          omega

theorem aboveL_val {a b : List Int} (ha : Top a) (hb : Top b) : aboveL a b = decide (val b ≤ val a) ∧ (aboveL a b = true → b.length ≤ a.length) ∧ (aboveL a b = false → a.length ≤ b.length) := by
  unfold aboveL
  split
  · rename_i he
    have h := aboveN_val ha.1 hb.1 he a.length (Nat.le_refl _)
    rw [List.take_length, he, List.take_length] at h
    refine ⟨?_, fun _ => by omega, fun _ => by omega⟩
    rw [he]
    cases hx : aboveN a b b.length with
    | true => exact (decide_eq_true (h.1 hx)).symm
    | false =>
      refine (decide_eq_false fun hle => ?_).symm
      rw [h.2 hle] at hx
      simp at hx
  · rename_i he
    refine ⟨?_, fun h => by simp at h; omega, fun h => by simp at h; omega⟩
    by_cases hg : a.length > b.length
    · have h1 := top_bound ha (by intro e; subst e; simp at hg)
      have h2 := (val_bound hb.1).2
      have h3 := p10_mono (show b.length ≤ a.length - 1 by omega)
      have : val b ≤ val a := by omega
      simp [hg, this]
    · have h1 := top_bound hb (by intro e; subst e; simp at hg he; exact he hg)
      have h2 := (val_bound ha.1).2
      have h3 := p10_mono (show a.length ≤ b.length - 1 by omega)
      have : ¬ val b ≤ val a := by omega
      simp [hg, this]
end Go.Pe.T

namespace Go.Pe.T

/-! ### Plus, Line, Cmp -/

def trimmed (neg : Bool) (l : List Int) : D := longD (neg && trimN l l.length != 0) (trimL l)

theorem trim_ok' (neg : Bool) (l : List Int) (hl : l.length ≤ 10000) (hp : List Ent) : F tab 43 [.d (.agg [.bool neg, .sl (l.map iv)])] hp = some (.ret (.d (trimmed neg l)) hp) :=
  trim_ok neg l (by have : maxLen = 9223372036854775807 := by decide
                    omega) hp

def plusD (na : Bool) (a : List Int) (nb : Bool) (b : List Int) : D :=
  if na = nb then trimmed na (sumL a b 0 (max a.length b.length + 2))
  else if aboveL a b then trimmed na (lessL a b 0) else trimmed nb (lessL b a 0)

theorem trimmed_shape (neg : Bool) (l : List Int) : trimmed neg l = .agg [.bool (neg && trimN l l.length != 0), .sl ((trimL l).map iv)] := rfl

theorem plus_ok (na nb : Bool) (a b : List Int) (ha : Top a) (hb : Top b) (hla : a.length ≤ 900) (hlb : b.length ≤ 900) (hp : List Ent) :
    F tab 61 [.d (longD na a), .d (longD nb b)] hp = some (.ret (.d (plusD na a nb b)) hp) := by
  refine f61 rfl ?_
  have hs := sum_ok a b ha.1 hb.1 (by omega) (by omega)
  have hs2 := (sum_val (max a.length b.length + 2) a b 0 ha.1 hb.1 (by omega) (by omega) (by omega)).2.2
  have hab := above_ok a b (by omega) (by omega)
  have h1 := less_ok a b ha.1 hb.1 (by omega) (by omega)
  have h2 := less_ok b a hb.1 ha.1 (by omega) (by omega)
  obtain ⟨_, g1, g2⟩ := aboveL_val ha hb
  by_cases hn : na = nb
  · subst hn
    have ht := trim_ok' na (sumL a b 0 (max a.length b.length + 2)) (by omega)
    have hb1 : (na == na) = true := by simp
    simp (disch := omega) only [go_sem, and_self, and_true, true_and, false_and, and_false, Nat.reduceAdd, Nat.reduceMul, Nat.reduceSub, Nat.reduceLeDiff, Nat.reduceLT, Nat.reduceGT, Nat.reduceEqDiff, Nat.reduceBEq, Int.reduceNeg, Int.reduceEq, Int.reduceLT, Int.reduceLE, Int.reduceBEq, Int.reduceToNat, Int.toNat_natCast, Int.natCast_zero, r61_T, r61, hb1, hs, ht, plusD, trimmed_shape]
  · have hb1 : (na == nb) = false := by simp [hn]
    rcases Bool.eq_false_or_eq_true (aboveL a b) with hx | hx
    · have hl := (less_val a b 0 ha.1 hb.1 (by omega) (by omega) (g1 hx)).2.2
      have ht := trim_ok' na (lessL a b 0) (by omega)
      simp (disch := omega) only [go_sem, and_self, and_true, true_and, false_and, and_false, Nat.reduceAdd, Nat.reduceMul, Nat.reduceSub, Nat.reduceLeDiff, Nat.reduceLT, Nat.reduceGT, Nat.reduceEqDiff, Nat.reduceBEq, Int.reduceNeg, Int.reduceEq, Int.reduceLT, Int.reduceLE, Int.reduceBEq, Int.reduceToNat, Int.toNat_natCast, Int.natCast_zero, r61_T, r61, hb1, hab, hx, h1, ht, plusD, hn, trimmed_shape]
    · have hl := (less_val b a 0 hb.1 ha.1 (by omega) (by omega) (g2 hx)).2.2
      have ht := trim_ok' nb (lessL b a 0) (by omega)
      simp (disch := omega) only [go_sem, and_self, and_true, true_and, false_and, and_false, Nat.reduceAdd, Nat.reduceMul, Nat.reduceSub, Nat.reduceLeDiff, Nat.reduceLT, Nat.reduceGT, Nat.reduceEqDiff, Nat.reduceBEq, Int.reduceNeg, Int.reduceEq, Int.reduceLT, Int.reduceLE, Int.reduceBEq, Int.reduceToNat, Int.toNat_natCast, Int.natCast_zero, r61_T, r61, hb1, hab, hx, h2, ht, plusD, hn, trimmed_shape]

/-- a coefficient at a greater scale -/
def atL (c : Int) (k : Nat) : List Int := shiftL (digs c.natAbs) k
def atN (c : Int) (k : Nat) : Bool := decide (c < 0) && trimN (List.replicate k 0 ++ digs c.natAbs) (k + (digs c.natAbs).length) != 0

theorem line_ok (c c' : Int) (k k' : Nat) (hk : k ≤ 9) (hk' : k' ≤ 9) (hc : -1000000000000000 < c ∧ c < 1000000000000000) (hc' : -1000000000000000 < c' ∧ c' < 1000000000000000) (hp : List Ent) :
    F tab 56 [.d (numD c k), .d (numD c' k')] hp = some (.ret (.tup [.d (longD (atN c (max k k' - k)) (atL c (max k k' - k))), .d (longD (atN c' (max k k' - k')) (atL c' (max k k' - k'))), .d (iv (max k k' : Nat))]) hp) := by
  refine f56 rfl ?_
  have e15 : (10 : Nat) ^ 15 = 1000000000000000 := by decide
  have d1 := digs_len 15 c.natAbs (by omega)
  have d2 := digs_len 15 c'.natAbs (by omega)
  have o1 := of_ok c (by omega)
  have o2 := of_ok c' (by omega)
  have s1 := shift_ok (decide (c < 0)) (digs c.natAbs) (by omega) (max k k' - k) (by omega)
  have s2 := shift_ok (decide (c' < 0)) (digs c'.natAbs) (by omega) (max k k' - k') (by omega)
  by_cases h : (k' : Int) > (k : Int)
  · have m : max k k' = k' := by omega
    rw [m] at s1 s2 ⊢
    have e1 : ((k' - k : Nat) : Int) = (k' : Int) - (k : Int) := by omega
    have e2 : ((k' - k' : Nat) : Int) = (k' : Int) - (k' : Int) := by omega
    rw [e1] at s1
    rw [e2] at s2
    simp (disch := omega) only [go_sem, and_self, and_true, true_and, false_and, and_false, Nat.reduceAdd, Nat.reduceMul, Nat.reduceSub, Nat.reduceLeDiff, Nat.reduceLT, Nat.reduceGT, Nat.reduceEqDiff, Nat.reduceBEq, Int.reduceNeg, Int.reduceEq, Int.reduceLT, Int.reduceLE, Int.reduceBEq, Int.reduceToNat, Int.toNat_natCast, Int.natCast_zero, r56_T, r56, h, o1, o2, s1, s2, w64, longD, atN, atL]
  · have m : max k k' = k := by omega
    rw [m] at s1 s2 ⊢
    have e1 : ((k - k' : Nat) : Int) = (k : Int) - (k' : Int) := by omega
    have e2 : ((k - k : Nat) : Int) = (k : Int) - (k : Int) := by omega
    rw [e2] at s1
    rw [e1] at s2
    simp (disch := omega) only [go_sem, and_self, and_true, true_and, false_and, and_false, Nat.reduceAdd, Nat.reduceMul, Nat.reduceSub, Nat.reduceLeDiff, Nat.reduceLT, Nat.reduceGT, Nat.reduceEqDiff, Nat.reduceBEq, Int.reduceNeg, Int.reduceEq, Int.reduceLT, Int.reduceLE, Int.reduceBEq, Int.reduceToNat, Int.toNat_natCast, Int.natCast_zero, r56_T, r56, h, o1, o2, s1, s2, w64, longD, atN, atL]
end Go.Pe.T

namespace Go.Pe.T

theorem digs_val (n : Nat) : val (digs n) = n ∧ Digs (digs n) := by
  induction n using Nat.strongRecOn with
  | _ n ih =>
    rw [digs]
    split
    · rename_i h; subst h; exact ⟨by simp [val], Digs.nil⟩
    · obtain ⟨i1, i2⟩ := ih (n / 10) (by omega)
      refine ⟨?_, Digs.mk ⟨by omega, by omega⟩ i2⟩
      simp only [val, i1]
      omega

theorem rep_digs {l : List Int} (h : Digs l) (n : Nat) : Digs (List.replicate n 0 ++ l) := fun d hd => by
  rcases List.mem_append.1 hd with hd | hd
  · obtain rfl := (List.mem_replicate.1 hd).2
    exact ⟨by omega, by omega⟩
  · exact h d hd

theorem trimN_zero {l : List Int} (h : Digs l) : trimN l l.length = 0 ↔ val l = 0 := by
  have h1 := trimL_val l
  have h2 := trimL_len l
  constructor
  · intro e
    rw [e] at h2
    have : trimL l = [] := List.eq_nil_of_length_eq_zero h2
    rw [this] at h1
    exact h1.symm
  · intro e
    have ht : Top (trimL l) := ⟨trimL_digs h, trimL_top l⟩
    by_cases hn : trimL l = []
    · rw [← h2, hn]; rfl
    · have := top_bound ht hn
      have hp := p10_pos ((trimL l).length - 1)
      rw [h1] at this
      omega

theorem at_top (c : Int) (k : Nat) : Top (atL c k) ∧ val (atL c k) = 10 ^ k * (c.natAbs : Int) ∧ atN c k = decide (c < 0) := by
  obtain ⟨d1, d2⟩ := digs_val c.natAbs
  have h1 := rep_digs d2 k
  have hv : val (atL c k) = 10 ^ k * (c.natAbs : Int) := by unfold atL shiftL; rw [trimL_val, val_rep, d1]
  refine ⟨⟨trimL_digs h1, trimL_top _⟩, hv, ?_⟩
  unfold atN
  have hz := trimN_zero h1
  rw [val_rep, d1] at hz
  simp only [List.length_append, List.length_replicate] at hz
  by_cases hc : c < 0
  · have hne : (10 : Int) ^ k * (c.natAbs : Int) ≠ 0 := by
      have hp := p10_pos k
      have : 0 < (10 : Int) ^ k * (c.natAbs : Int) := Int.mul_pos hp (by omega)
      omega
    have : trimN (List.replicate k 0 ++ digs c.natAbs) (k + (digs c.natAbs).length) ≠ 0 := fun e => hne (hz.1 e)
    simp [hc, this]
  · simp [hc]

theorem at_len (c : Int) (k : Nat) (hk : k ≤ 9) (hc : -1000000000000000 < c ∧ c < 1000000000000000) : (atL c k).length ≤ 900 := by
  have e15 : (10 : Nat) ^ 15 = 1000000000000000 := by decide
  have d1 := digs_len 15 c.natAbs (by omega)
  unfold atL shiftL trimL
  simp only [List.length_take, List.length_append, List.length_replicate]
  omega

theorem sgn_scale {a b p : Int} (hp : 0 < p) : sgn (a * p) (b * p) = sgn a b := by
  unfold sgn
  have h1 : a * p < b * p ↔ a < b := ⟨fun h => Int.lt_of_mul_lt_mul_right h (by omega), fun h => Int.mul_lt_mul_of_pos_right h hp⟩
  have h2 : b * p < a * p ↔ b < a := ⟨fun h => Int.lt_of_mul_lt_mul_right h (by omega), fun h => Int.mul_lt_mul_of_pos_right h hp⟩
  simp only [gt_iff_lt, h1, h2]

/-- what a difference's digits tell -/
def tells (neg : Bool) (v : Int) : Int := if v = 0 then 0 else if neg then -1 else 1

theorem plus_tells {na nb : Bool} {a b : List Int} (ha : Top a) (hb : Top b) : ∃ neg l, plusD na a nb b = trimmed neg l ∧ Digs l ∧ 
    tells neg (val l) = (let x := if na then - val a else val a; let y := if nb then val b else - val b; sgn x y) := by
  have h1 := (val_bound ha.1).1
  have h2 := (val_bound hb.1).1
  obtain ⟨g0, g1, g2⟩ := aboveL_val ha hb
  unfold plusD
  split
  · rename_i hn
    subst hn
    obtain ⟨s1, s2, _⟩ := sum_val (max a.length b.length + 2) a b 0 ha.1 hb.1 (by omega) (by omega) (by omega)
    refine ⟨na, _, rfl, s2, ?_⟩
    rw [s1]
    cases na <;> simp only [tells, sgn, Bool.false_eq_true, if_true, if_false] <;> split <;> split <;> (try split) <;> omega
  · rename_i hn
    split
    · rename_i hx
      have hle : val b ≤ val a := by rw [g0] at hx; simpa using hx
      obtain ⟨_, l2, _⟩ := less_val a b 0 ha.1 hb.1 (by omega) (by omega) (g1 hx)
      refine ⟨na, _, rfl, l2, ?_⟩
      rw [less_exact ha.1 hb.1 (g1 hx) hle]
      cases na <;> cases nb <;> simp at hn <;> simp only [tells, sgn, Bool.false_eq_true, if_true, if_false] <;> split <;> split <;> (try split) <;> omega
    · rename_i hx
      have hx' : aboveL a b = false := by simpa using hx
      have hle : val a ≤ val b := by rw [g0] at hx'; simp at hx'; omega
      obtain ⟨_, l2, _⟩ := less_val b a 0 hb.1 ha.1 (by omega) (by omega) (g2 hx')
      refine ⟨nb, _, rfl, l2, ?_⟩
      rw [less_exact hb.1 ha.1 (g2 hx') hle]
      cases na <;> cases nb <;> simp at hn <;> simp only [tells, sgn, Bool.false_eq_true, if_true, if_false] <;> split <;> split <;> (try split) <;> omega

theorem cmp4_ok (c c' : Int) (k k' : Nat) (hk : k ≤ 9) (hk' : k' ≤ 9) (hc : -1000000000000000 < c ∧ c < 1000000000000000) (hc' : -1000000000000000 < c' ∧ c' < 1000000000000000) (hp : List Ent) :
    F tab 32 [.d (numD c k), .d (numD c' k')] hp = some (.ret (.d (iv (sgn (flatN c k) (flatN c' k')))) hp) := by
  refine f32 rfl ?_
  have hl := line_ok c c' k k' hk hk' hc hc'
  obtain ⟨t1, v1, n1⟩ := at_top c (max k k' - k)
  obtain ⟨t2, v2, n2⟩ := at_top c' (max k k' - k')
  have hp' := plus_ok (atN c (max k k' - k)) (!atN c' (max k k' - k')) (atL c (max k k' - k)) (atL c' (max k k' - k')) t1 t2 (at_len _ _ (by omega) hc) (at_len _ _ (by omega) hc')
  obtain ⟨neg, l, e1, dl1, e2⟩ := plus_tells (na := atN c (max k k' - k)) (nb := !atN c' (max k k' - k')) t1 t2
  rw [e1] at hp'
  have hz := trimN_zero dl1
  have hfin : tells neg (val l) = sgn (flatN c k) (flatN c' k') := by
    rw [e2, n1, n2, v1, v2]
    have hM : 0 < (10 : Int) ^ (9 - max k k') := p10_pos _
    have ea : flatN c k = c * 10 ^ (max k k' - k) * 10 ^ (9 - max k k') := by
      unfold flatN
      rw [Int.mul_assoc, ← Int.pow_add, show max k k' - k + (9 - max k k') = 9 - k by omega]
    have eb : flatN c' k' = c' * 10 ^ (max k k' - k') * 10 ^ (9 - max k k') := by
      unfold flatN
      rw [Int.mul_assoc, ← Int.pow_add, show max k k' - k' + (9 - max k k') = 9 - k' by omega]
    rw [ea, eb, sgn_scale hM]
    have fa : ∀ (c : Int) (q : Int), (if decide (c < 0) = true then -(q * (c.natAbs : Int)) else q * (c.natAbs : Int)) = c * q := by
      intro c q
      by_cases h : c < 0
      · have : (c.natAbs : Int) = -c := by omega
        simp only [h, decide_true, if_true, this, Int.mul_neg, Int.neg_neg, Int.mul_comm]
      · have : (c.natAbs : Int) = c := by omega
        simp only [h, decide_false, Bool.false_eq_true, if_false, this, Int.mul_comm]
    have fb : ∀ (c : Int) (q : Int), (if (!decide (c < 0)) = true then q * (c.natAbs : Int) else -(q * (c.natAbs : Int))) = c * q := by
      intro c q
      by_cases h : c < 0
      · have : (c.natAbs : Int) = -c := by omega
        simp only [h, decide_true, Bool.not_true, Bool.false_eq_true, if_false, this, Int.mul_neg, Int.neg_neg, Int.mul_comm]
      · have : (c.natAbs : Int) = c := by omega
        simp only [h, decide_false, Bool.not_false, if_true, this, Int.mul_comm]
    simp only [fa, fb]
  rw [← hfin]
  unfold tells
  by_cases h0 : val l = 0
  · have g0 := hz.2 h0
    have g1 : trimL l = [] := List.eq_nil_of_length_eq_zero (by rw [trimL_len, g0])
    have g2 : (trimN l l.length != 0) = false := by simp [g0]
    simp (disch := omega) only [go_sem, and_self, and_true, true_and, false_and, and_false, Nat.reduceAdd, Nat.reduceMul, Nat.reduceSub, Nat.reduceLeDiff, Nat.reduceLT, Nat.reduceGT, Nat.reduceEqDiff, Nat.reduceBEq, Int.reduceNeg, Int.reduceEq, Int.reduceLT, Int.reduceLE, Int.reduceBEq, Int.reduceToNat, Int.toNat_natCast, Int.natCast_zero, r32_T, r32, hl, hp', trimmed_shape, g1, g2, h0]
  · have g0 : trimN l l.length ≠ 0 := fun e => h0 (hz.1 e)
    have g1 : ((trimL l).length : Int) ≠ 0 := by rw [trimL_len]; omega
    have g2 : (trimN l l.length != 0) = true := by simp [g0]
    have g3 : (((trimL l).length : Int) == 0) = false := by simpa using g1
    cases neg <;> simp (disch := omega) only [go_sem, and_self, and_true, true_and, false_and, and_false, Nat.reduceAdd, Nat.reduceMul, Nat.reduceSub, Nat.reduceLeDiff, Nat.reduceLT, Nat.reduceGT, Nat.reduceEqDiff, Nat.reduceBEq, Int.reduceNeg, Int.reduceEq, Int.reduceLT, Int.reduceLE, Int.reduceBEq, Int.reduceToNat, Int.toNat_natCast, Int.natCast_zero, r32_T, r32, hl, hp', trimmed_shape, List.length_map, g2, g3, h0]
end Go.Pe.T

namespace Go.Pe.T
/-! ### ref04.Num: a number of digits, if it can be held -/
def dropZ : Nat → List Int → List Int × Nat
  | 0, l => (l, 0)
  | k + 1, [] => ([], k + 1)
  | k + 1, d :: r => if d = 0 then dropZ k r else (d :: r, k + 1)
theorem dropZ_len : ∀ (k : Nat) (l : List Int), (dropZ k l).1.length ≤ l.length ∧ (dropZ k l).2 ≤ k
  | 0, l => ⟨Nat.le_refl _, Nat.le_refl _⟩
  | k + 1, [] => ⟨Nat.le_refl _, Nat.le_refl _⟩
  | k + 1, d :: r => by
    rw [dropZ]
    have := dropZ_len k r
    split
    · simp only [List.length_cons]; omega
    · exact ⟨Nat.le_refl _, Nat.le_refl _⟩
theorem dropZ_digs : ∀ (k : Nat) (l : List Int), Digs l → Digs (dropZ k l).1
  | 0, l, h => h
  | k + 1, [], h => h
  | k + 1, d :: r, h => by
    rw [dropZ]
    split
    · exact dropZ_digs k r h.cons.2
    · exact h

theorem cut_dl1 (l : List Int) (d : Int) : cutD ((d :: l).map iv) 1 ((l.length + 1 : Nat) : Int) = l.map iv := by
  simp only [cutD, Int.toNat_natCast]
  rw [List.take_of_length_le (by simp)]
  rfl

def NmLoop (neg : Bool) (l : List Int) (k : Nat) (x4 : List PV) : Prop :=
  V (F tab) r17_B0 (r17_S0 (.d (iv k)) (.ibox [.d (.bool neg), .d (.sl (l.map iv))]) (.ibox x4) []) = some (.norm, r17_E0 (.d (iv (dropZ k l).2)) (.ibox [.d (.bool neg), .d (.sl ((dropZ k l).1.map iv))]) (.ibox x4) [])
theorem nm_loop (neg : Bool) (x4 : List PV) : ∀ (k : Nat) (l : List Int), k ≤ 100000 → l.length ≤ 10000 → NmLoop neg l k x4
  | 0, l, hk, hl => by
    have h1 : ((0 : Int) > 0) = False := eq_false (by omega)
    have h2 : (((0 : Nat) : Int) > 0) = False := eq_false (by omega)
    unfold NmLoop
    rw [r17_B0_eq]
    simp (disch := omega) only [go_sem, and_self, and_true, true_and, false_and, and_false, Nat.reduceAdd, Nat.reduceMul, Nat.reduceSub, Nat.reduceLeDiff, Nat.reduceLT, Nat.reduceGT, Nat.reduceEqDiff, Nat.reduceBEq, Int.reduceNeg, Int.reduceEq, Int.reduceLT, Int.reduceLE, Int.reduceBEq, Int.reduceToNat, Int.toNat_natCast, Int.natCast_zero, r17_C0, dropZ, h1, h2]
  | k + 1, [], hk, hl => by
    have h1 : (((k + 1 : Nat) : Int) > 0) = True := eq_true (by omega)
    have h2 : ((0 : Int) > 0) = False := eq_false (by omega)
    have h3 : (((0 : Nat) : Int) > 0) = False := eq_false (by omega)
    unfold NmLoop
    rw [r17_B0_eq]
    simp (disch := omega) only [go_sem, and_self, and_true, true_and, false_and, and_false, Nat.reduceAdd, Nat.reduceMul, Nat.reduceSub, Nat.reduceLeDiff, Nat.reduceLT, Nat.reduceGT, Nat.reduceEqDiff, Nat.reduceBEq, Int.reduceNeg, Int.reduceEq, Int.reduceLT, Int.reduceLE, Int.reduceBEq, Int.reduceToNat, Int.toNat_natCast, Int.natCast_zero, r17_C0, dropZ, h1, h2, h3, List.map_nil, List.length_nil]
  | k + 1, d :: r, hk, hl => by
    simp only [List.length_cons] at hl
    have ih := nm_loop neg x4 k r (by omega) (by omega)
    have h1 : (((k + 1 : Nat) : Int) > 0) = True := eq_true (by omega)
    have h2 : (((r.length + 1 : Nat) : Int) > 0) = True := eq_true (by omega)
    have i0 : (0 ≤ (0 : Int)) = True := eq_true (by omega)
    have t0 : (0 : Int).toNat = 0 := rfl
    have e1 : ((k + 1 : Nat) : Int) - 1 = (k : Int) := by omega
    have c1 := cut_dl1 r d
    have b1 : (1 ≤ ((r.length + 1 : Nat) : Int)) = True := eq_true (by omega)
    have b2 : (((r.length + 1 : Nat) : Int) ≤ ((r.length + 1 : Nat) : Int)) = True := eq_true (by omega)
    have b0 : (0 ≤ (1 : Int)) = True := eq_true (by omega)
    have hl1 : ((d :: r).map iv).length = r.length + 1 := by simp
    have hg : ((d :: r).map iv)[0]? = some (iv d) := rfl
    have hal := dl_all (d :: r)
    unfold NmLoop at ih ⊢
    rw [r17_B0_eq, dropZ]
    generalize hL : (d :: r).map iv = L at *
    by_cases h0 : d = 0
    · subst h0
      have z : ((0 : Int) == 0) = true := rfl
      rw [if_pos rfl]
      simp (disch := omega) only [go_sem, and_self, and_true, true_and, false_and, and_false, Nat.reduceAdd, Nat.reduceMul, Nat.reduceSub, Nat.reduceLeDiff, Nat.reduceLT, Nat.reduceGT, Nat.reduceEqDiff, Nat.reduceBEq, Int.reduceNeg, Int.reduceEq, Int.reduceLT, Int.reduceLE, Int.reduceBEq, Int.reduceToNat, Int.toNat_natCast, Int.natCast_zero, r17_C0, h1, h2, i0, t0, e1, c1, b0, b1, b2, hl1, hg, hal, z, decide_true, w64]
      exact ih
    · have z : (d == 0) = false := by simpa using h0
      rw [if_neg h0]
      simp (disch := omega) only [go_sem, and_self, and_true, true_and, false_and, and_false, Nat.reduceAdd, Nat.reduceMul, Nat.reduceSub, Nat.reduceLeDiff, Nat.reduceLT, Nat.reduceGT, Nat.reduceEqDiff, Nat.reduceBEq, Int.reduceNeg, Int.reduceEq, Int.reduceLT, Int.reduceLE, Int.reduceBEq, Int.reduceToNat, Int.toNat_natCast, Int.natCast_zero, r17_C0, h1, h2, i0, t0, hl1, hg, z]
      rw [← hL, List.map_cons]

def NcLoop (neg : Bool) (l : List Int) (k : Int) (x4 : List PV) (n : Nat) : Prop :=
  V (F tab) r17_B1 (r17_S1 (.d (iv k)) (.ibox [.d (.bool neg), .d (.sl (l.map iv))]) (.ibox x4) (.d (iv (val (l.drop n)))) (.d (iv ((n : Int) - 1))) []) = some (.norm, r17_E1 (.d (iv k)) (.ibox [.d (.bool neg), .d (.sl (l.map iv))]) (.ibox x4) (.d (iv (val l))) [])
theorem nc_loop (neg : Bool) (l : List Int) (hd : Digs l) (hl : l.length ≤ 15) (k : Int) (x4 : List PV) : ∀ n, n ≤ l.length → NcLoop neg l k x4 n
  | 0, h => by
    have h1 : (((0 : Nat) : Int) - 1 ≥ 0) = False := eq_false (by omega)
    have h2 : (((0 : Nat) : Int) - 1 < 0) = True := eq_true (by omega)
    have h3 : ((0 : Int) - 1 ≥ 0) = False := eq_false (by omega)
    unfold NcLoop
    rw [r17_B1_eq, List.drop_zero]
    simp (disch := omega) only [go_sem, and_self, and_true, true_and, false_and, and_false, Nat.reduceAdd, Nat.reduceMul, Nat.reduceSub, Nat.reduceLeDiff, Nat.reduceLT, Nat.reduceGT, Nat.reduceEqDiff, Nat.reduceBEq, Int.reduceNeg, Int.reduceEq, Int.reduceLT, Int.reduceLE, Int.reduceBEq, Int.reduceToNat, Int.toNat_natCast, Int.natCast_zero, r17_C1, h1, h3]
  | n + 1, h => by
    have ih := nc_loop neg l hd hl k x4 n (by omega)
    have hx : l[n]? = some l[n] := List.getElem?_eq_getElem (by omega)
    have hdr : l.drop n = l[n] :: l.drop (n + 1) := List.drop_eq_getElem_cons (by omega)
    have hdg : Digs (l.drop (n + 1)) := fun x hx => hd x (List.mem_of_mem_drop hx)
    obtain ⟨v1, v2⟩ := val_bound hdg
    have hd0 := hd l[n] (List.getElem_mem _)
    have hv : val (l.drop n) = l[n] + 10 * val (l.drop (n + 1)) := by rw [hdr]; rfl
    have hp : (10 : Int) ^ (l.drop (n + 1)).length ≤ 10 ^ 14 := p10_mono (by rw [List.length_drop]; omega)
    have e14 : (10 : Int) ^ 14 = 100000000000000 := by decide
    have va : (l.map iv)[n]? = some (iv l[n]) := dl_get hx
    have h1 : (((n + 1 : Nat) : Int) - 1 ≥ 0) = True := eq_true (by omega)
    have e1 : ((n + 1 : Nat) : Int) - 1 = (n : Int) := by omega
    have h2 : ((n : Int) ≥ 0) = True := eq_true (by omega)
    have h3 : (0 ≤ (n : Int)) = True := eq_true (by omega)
    have e2 : 10 * val (l.drop (n + 1)) + l[n] = val (l.drop n) := by omega
    unfold digit at hd0
    unfold NcLoop at ih ⊢
    rw [r17_B1_eq, e1]
    generalize val (l.drop (n + 1)) = v at *
    generalize val (l.drop n) = v' at *
    generalize l[n] = d at *
    simp (disch := omega) only [go_sem, and_self, and_true, true_and, false_and, and_false, Nat.reduceAdd, Nat.reduceMul, Nat.reduceSub, Nat.reduceLeDiff, Nat.reduceLT, Nat.reduceGT, Nat.reduceEqDiff, Nat.reduceBEq, Int.reduceNeg, Int.reduceEq, Int.reduceLT, Int.reduceLE, Int.reduceBEq, Int.reduceToNat, Int.toNat_natCast, Int.natCast_zero, r17_C1, h2, h3, va, e2, w64]
    exact ih

def numR (neg : Bool) (l : List Int) (k : Nat) : Int × Int × Bool :=
  let p := dropZ k (trimL l)
  if p.1 = [] then (0, 0, true) else if p.1.length > 15 ∨ p.2 > 9 then (0, 0, false) else (if neg then -val p.1 else val p.1, p.2, true)

theorem dropZ_top : ∀ (k : Nat) (l : List Int), dropZ k l = ([], (dropZ k l).2) ∨ (dropZ k l).1 ≠ [] := fun k l => by
  by_cases h : (dropZ k l).1 = []
  · exact .inl (by rw [← h])
  · exact .inr h

set_option maxHeartbeats 1000000 in
theorem num4_ok (neg : Bool) (l : List Int) (hd : Digs l) (hl : l.length ≤ 10000) (k : Nat) (hk : k ≤ 100000) (hp : List Ent) :
    F tab 17 [.d (longD neg l), .d (iv k)] hp = some (.ret (.tup [.d (numD (numR neg l k).1 (numR neg l k).2.1), .d (.bool (numR neg l k).2.2)]) hp) := by
  have ht := trim_ok' neg l hl
  simp only [trimmed_shape] at ht
  have tl := trimN_le l l.length
  have tlen := trimL_len l
  have hdt := trimL_digs hd
  have hL := nm_loop (neg && trimN l l.length != 0) [.d (iv 0), .d (iv 0)] k (trimL l) hk (by omega)
  obtain ⟨z1, z2⟩ := dropZ_len k (trimL l)
  have hdz := dropZ_digs k (trimL l) hdt
  have hneg : (dropZ k (trimL l)).1 ≠ [] → (neg && trimN l l.length != 0) = neg := by
    intro hne
    have : trimN l l.length ≠ 0 := by
      intro e
      rw [e] at tlen
      have := List.eq_nil_of_length_eq_zero tlen
      rw [this] at z1 hne
      exact hne (List.eq_nil_of_length_eq_zero (Nat.le_zero.1 z1))
    simp [this]
  refine f17 rfl ?_
  unfold NmLoop at hL
  unfold numR
  simp only
  generalize hN : (neg && trimN l l.length != 0) = ng at *
  generalize trimL l = t at *
  generalize hq : dropZ k t = q at *
  obtain ⟨m, s⟩ := q
  simp only at *
  have kn : ((k : Int) > 0) = (0 < k) := by apply propext; omega
  simp (disch := omega) only [go_sem, and_self, and_true, true_and, false_and, and_false, Nat.reduceAdd, Nat.reduceMul, Nat.reduceSub, Nat.reduceLeDiff, Nat.reduceLT, Nat.reduceGT, Nat.reduceEqDiff, Nat.reduceBEq, Int.reduceNeg, Int.reduceEq, Int.reduceLT, Int.reduceLE, Int.reduceBEq, Int.reduceToNat, Int.toNat_natCast, Int.natCast_zero, r17_T, r17, ht]
  rw [r17_B0_n]
  erw [hL]
  by_cases hm : m = []
  · subst hm
    have z : ((([] : List Int).map iv).length : Int) = 0 := rfl
    have z3 : ((0 : Int) == 0) = true := rfl
    rw [if_pos rfl]
    simp (disch := omega) only [go_sem, and_self, and_true, true_and, false_and, and_false, Nat.reduceAdd, Nat.reduceMul, Nat.reduceSub, Nat.reduceLeDiff, Nat.reduceLT, Nat.reduceGT, Nat.reduceEqDiff, Nat.reduceBEq, Int.reduceNeg, Int.reduceEq, Int.reduceLT, Int.reduceLE, Int.reduceBEq, Int.reduceToNat, Int.toNat_natCast, Int.natCast_zero, List.map_nil, List.length_nil, z3, numD]
  · have hml : 0 < m.length := List.length_pos_iff.2 hm
    have z3 : ((m.length : Int) == 0) = false := by simp; omega
    have h0 : ((s : Int) < 0) = False := eq_false (by omega)
    have hg := hneg hm
    rw [if_neg hm]
    by_cases h15 : m.length > 15
    · have h15' : ((m.length : Int) > 15) = True := eq_true (by omega)
      rw [if_pos (.inl h15)]
      simp (disch := omega) only [go_sem, and_self, and_true, true_and, false_and, and_false, Nat.reduceAdd, Nat.reduceMul, Nat.reduceSub, Nat.reduceLeDiff, Nat.reduceLT, Nat.reduceGT, Nat.reduceEqDiff, Nat.reduceBEq, Int.reduceNeg, Int.reduceEq, Int.reduceLT, Int.reduceLE, Int.reduceBEq, Int.reduceToNat, Int.toNat_natCast, Int.natCast_zero, List.length_map, z3, h0, h15', numD]
    · have h15' : ((m.length : Int) > 15) = False := eq_false (by omega)
      by_cases h9 : s > 9
      · have h9' : ((s : Int) > 9) = True := eq_true (by omega)
        rw [if_pos (.inr h9)]
        simp (disch := omega) only [go_sem, and_self, and_true, true_and, false_and, and_false, Nat.reduceAdd, Nat.reduceMul, Nat.reduceSub, Nat.reduceLeDiff, Nat.reduceLT, Nat.reduceGT, Nat.reduceEqDiff, Nat.reduceBEq, Int.reduceNeg, Int.reduceEq, Int.reduceLT, Int.reduceLE, Int.reduceBEq, Int.reduceToNat, Int.toNat_natCast, Int.natCast_zero, List.length_map, z3, h0, h15', h9', numD]
      · have h9' : ((s : Int) > 9) = False := eq_false (by omega)
        rw [if_neg (by omega)]
        have hc := nc_loop ng m hdz (by omega) s [.d (iv 0), .d (iv 0)] m.length (Nat.le_refl _)
        unfold NcLoop at hc
        rw [List.drop_of_length_le (Nat.le_refl _)] at hc
        have v0 : val [] = 0 := rfl
        rw [v0] at hc
        obtain ⟨b1, b2⟩ := val_bound hdz
        have hp : (10 : Int) ^ m.length ≤ 10 ^ 15 := p10_mono (by omega)
        have e15 : (10 : Int) ^ 15 = 1000000000000000 := by decide
        simp (disch := omega) only [go_sem, and_self, and_true, true_and, false_and, and_false, Nat.reduceAdd, Nat.reduceMul, Nat.reduceSub, Nat.reduceLeDiff, Nat.reduceLT, Nat.reduceGT, Nat.reduceEqDiff, Nat.reduceBEq, Int.reduceNeg, Int.reduceEq, Int.reduceLT, Int.reduceLE, Int.reduceBEq, Int.reduceToNat, Int.toNat_natCast, Int.natCast_zero, List.length_map, z3, h0, h15', h9', w64]
        rw [r17_B1_n]
        erw [hc]
        subst hg
        cases ng with
        | true => simp (disch := omega) only [go_sem, and_self, and_true, true_and, false_and, and_false, Nat.reduceAdd, Nat.reduceMul, Nat.reduceSub, Nat.reduceLeDiff, Nat.reduceLT, Nat.reduceGT, Nat.reduceEqDiff, Nat.reduceBEq, Int.reduceNeg, Int.reduceEq, Int.reduceLT, Int.reduceLE, Int.reduceBEq, Int.reduceToNat, Int.toNat_natCast, Int.natCast_zero, numD, w64, Int.zero_sub]
        | false => simp (disch := omega) only [go_sem, and_self, and_true, true_and, false_and, and_false, Nat.reduceAdd, Nat.reduceMul, Nat.reduceSub, Nat.reduceLeDiff, Nat.reduceLT, Nat.reduceGT, Nat.reduceEqDiff, Nat.reduceBEq, Int.reduceNeg, Int.reduceEq, Int.reduceLT, Int.reduceLE, Int.reduceBEq, Int.reduceToNat, Int.toNat_natCast, Int.natCast_zero, numD]
end Go.Pe.T

namespace Go.Pe.T
/-! ### what ref04.Num tells, as a number -/
def sv (neg : Bool) (v : Int) : Int := if neg then -v else v

theorem Top.tail {d : Int} {r : List Int} (h : Top (d :: r)) : Top r := by
  refine ⟨h.1.cons.2, fun x hx => ?_⟩
  cases r with
  | nil => simp at hx
  | cons y r => exact h.2 x (by simpa [List.getLast?_cons_cons] using hx)
theorem Top.zero {r : List Int} (h : Top (0 :: r)) : r ≠ [] := by
  intro e
  subst e
  exact h.2 0 (by simp) rfl

theorem dropZ_strip : ∀ (k : Nat) (t : List Int), Top t → t ≠ [] → stripN (val t) k = (val (dropZ k t).1, (dropZ k t).2) ∧ Top (dropZ k t).1 ∧ (dropZ k t).1 ≠ []
  | 0, t, h, hn => ⟨rfl, h, hn⟩
  | k + 1, [], h, hn => absurd rfl hn
  | k + 1, d :: r, h, hn => by
    have hd := h.1 d (by simp)
    unfold digit at hd
    have hv : val (d :: r) = d + 10 * val r := rfl
    obtain ⟨b1, b2⟩ := val_bound h.1.cons.2
    have hm : (d + 10 * val r).tmod 10 = d := by
      rw [Int.tmod_eq_emod_of_nonneg (by omega)]; omega
    have hq : (d + 10 * val r).tdiv 10 = val r := by
      rw [Int.tdiv_eq_ediv_of_nonneg (by omega)]; omega
    rw [hv, stripN, dropZ, hm, hq]
    by_cases h0 : d = 0
    · subst h0
      rw [if_pos rfl, if_pos rfl]
      exact dropZ_strip k r h.tail h.zero
    · rw [if_neg h0, if_neg h0]
      exact ⟨by rw [hv], h, hn⟩

theorem strip_neg : ∀ (k : Nat) (c : Int), stripN (-c) k = (-(stripN c k).1, (stripN c k).2)
  | 0, c => rfl
  | k + 1, c => by
    rw [stripN, stripN, Int.neg_tmod, Int.neg_tdiv]
    by_cases h : c.tmod 10 = 0
    · rw [if_pos (by omega), if_pos h, strip_neg k]
    · rw [if_neg (by omega), if_neg h]
theorem strip_sv (neg : Bool) (k : Nat) (c : Int) : stripN (sv neg c) k = (sv neg (stripN c k).1, (stripN c k).2) := by
  cases neg with
  | true => exact strip_neg k c
  | false => rfl

def toldR (v : Int) (k : Nat) : Int × Int × Bool := if makeOk v k then ((stripN v k).1, (stripN v k).2, true) else (0, 0, false)

theorem numR_told (neg : Bool) (l : List Int) (hd : Digs l) (k : Nat) : numR neg l k = toldR (sv neg (val l)) k := by
  have hv := trimL_val l
  have ht : Top (trimL l) := ⟨trimL_digs hd, trimL_top l⟩
  rw [← hv]
  unfold numR toldR makeOk
  generalize trimL l = t at *
  rw [strip_sv]
  by_cases h0 : t = []
  · subst h0
    have e : (dropZ k ([] : List Int)).1 = [] := by cases k <;> rfl
    have v0 : val [] = 0 := rfl
    have s0 : sv neg 0 = 0 := by cases neg <;> rfl
    have n0 : numIs 0 ((0 : Nat) : Int) = true := by decide
    rw [if_pos e, v0, strip_zero, s0, n0]
    rfl
  · obtain ⟨e1, e2, e3⟩ := dropZ_strip k t ht h0
    have hz := (strip_val k (val t)).2.2
    rw [e1] at hz ⊢
    simp only at hz ⊢
    obtain ⟨b1, b2⟩ := val_bound e2.1
    have b3 := top_bound e2 e3
    generalize (dropZ k t).1 = m at *
    generalize (dropZ k t).2 = s at *
    rw [if_neg e3]
    have e15 : (10 : Int) ^ 15 = 1000000000000000 := by decide
    have hiff : m.length > 15 ↔ 1000000000000000 ≤ val m := by
      constructor
      · intro h
        have : (10 : Int) ^ 15 ≤ 10 ^ (m.length - 1) := p10_mono (by omega)
        omega
      · intro h
        apply Classical.byContradiction
        intro hc
        have : (10 : Int) ^ m.length ≤ 10 ^ 15 := p10_mono (by omega)
        omega
    by_cases hbad : m.length > 15 ∨ s > 9
    · rw [if_pos hbad]
      have hn : numIs (sv neg (val m)) s = false := by
        unfold numIs
        rcases hbad with h | h
        · have h1 := hiff.1 h
          cases neg with
          | true =>
            have : ¬ (-1000000000000000 < sv true (val m)) := by simp only [sv, if_true]; omega
            simp [this]
          | false =>
            have : ¬ (sv false (val m) < 1000000000000000) := by simp only [sv, Bool.false_eq_true, if_false]; omega
            simp [this]
        · have : ¬ ((s : Int) ≤ 9) := by omega
          simp [this]
      rw [hn]
      rfl
    · rw [if_neg hbad]
      have h1 : ¬ m.length > 15 := fun h => hbad (.inl h)
      have h2 : s ≤ 9 := by omega
      have h3 : val m < 1000000000000000 := by
        apply Classical.byContradiction
        intro hc
        exact h1 (hiff.2 (by omega))
      have hn : numIs (sv neg (val m)) s = true := by
        unfold numIs
        have g0 : (0 : Int) ≤ (s : Int) := by omega
        have g1 : (s : Int) ≤ 9 := by omega
        have g2 : -1000000000000000 < sv neg (val m) := by cases neg <;> simp only [sv, if_true, Bool.false_eq_true, if_false] <;> omega
        have g3 : sv neg (val m) < 1000000000000000 := by cases neg <;> simp only [sv, if_true, Bool.false_eq_true, if_false] <;> omega
        have g4 : ((s : Int) == 0 || (sv neg (val m)).tmod 10 != 0) = true := by
          rcases hz with hz | hz
          · simp [hz]
          · have : (sv neg (val m)).tmod 10 ≠ 0 := by
              cases neg with
              | true => simp only [sv, if_true, Int.neg_tmod]; omega
              | false => simpa only [sv, Bool.false_eq_true, if_false] using hz
            simp [this]
        simp only [g0, g1, g2, g3, decide_true, Bool.true_and, g4]
      rw [hn]
      rfl

theorem told4_ok (neg : Bool) (l : List Int) (hd : Digs l) (hl : l.length ≤ 10000) (k : Nat) (hk : k ≤ 100000) (hp : List Ent) :
    F tab 59 [.d (longD neg l), .d (iv k)] hp = some (.ret (madeT (sv neg (val l)) k) hp) := by
  have hn := num4_ok neg l hd hl k hk
  rw [numR_told neg l hd k] at hn
  refine f59 rfl ?_
  unfold toldR at hn
  rcases Bool.eq_false_or_eq_true (makeOk (sv neg (val l)) k) with g | g
  · rw [g] at hn
    simp only [if_true] at hn
    rw [made_yes g]
    simp (disch := omega) only [go_sem, and_self, and_true, true_and, false_and, and_false, Nat.reduceAdd, Nat.reduceMul, Nat.reduceSub, Nat.reduceLeDiff, Nat.reduceLT, Nat.reduceGT, Nat.reduceEqDiff, Nat.reduceBEq, Int.reduceNeg, Int.reduceEq, Int.reduceLT, Int.reduceLE, Int.reduceBEq, Int.reduceToNat, Int.toNat_natCast, Int.natCast_zero, r59_T, r59, hn, numD]
  · rw [g] at hn
    simp only [Bool.false_eq_true, if_false] at hn
    rw [made_no g]
    simp (disch := omega) only [go_sem, and_self, and_true, true_and, false_and, and_false, Nat.reduceAdd, Nat.reduceMul, Nat.reduceSub, Nat.reduceLeDiff, Nat.reduceLT, Nat.reduceGT, Nat.reduceEqDiff, Nat.reduceBEq, Int.reduceNeg, Int.reduceEq, Int.reduceLT, Int.reduceLE, Int.reduceBEq, Int.reduceToNat, Int.toNat_natCast, Int.natCast_zero, r59_T, r59, hn, numD]

theorem sv_trim (neg : Bool) (l : List Int) (hd : Digs l) : sv (neg && trimN l l.length != 0) (val (trimL l)) = sv neg (val l) := by
  rw [trimL_val]
  by_cases h : trimN l l.length = 0
  · rw [(trimN_zero hd).1 h]
    have z : ∀ b, sv b 0 = 0 := fun b => by cases b <;> rfl
    rw [z, z]
  · have : (trimN l l.length != 0) = true := by simp [h]
    rw [this, Bool.and_true]

theorem plus_val {na nb : Bool} {a b : List Int} (ha : Top a) (hb : Top b) (hla : a.length ≤ 900) (hlb : b.length ≤ 900) : ∃ neg l, plusD na a nb b = longD neg l ∧ Digs l ∧ l.length ≤ 1000 ∧ sv neg (val l) = sv na (val a) + sv nb (val b) := by
  have h1 := (val_bound ha.1).1
  have h2 := (val_bound hb.1).1
  obtain ⟨g0, g1, g2⟩ := aboveL_val ha hb
  unfold plusD trimmed
  have tl : ∀ l : List Int, (trimL l).length ≤ l.length := fun l => by unfold trimL; rw [List.length_take]; omega
  split
  · rename_i hn
    subst hn
    obtain ⟨s1, s2, s3⟩ := sum_val (max a.length b.length + 2) a b 0 ha.1 hb.1 (by omega) (by omega) (by omega)
    refine ⟨_, _, rfl, trimL_digs s2, by have := tl (sumL a b 0 (max a.length b.length + 2)); omega, ?_⟩
    rw [sv_trim _ _ s2, s1]
    cases na <;> simp only [sv, if_true, Bool.false_eq_true, if_false] <;> omega
  · rename_i hn
    split
    · rename_i hx
      have hle : val b ≤ val a := by rw [g0] at hx; simpa using hx
      obtain ⟨_, l2, l3⟩ := less_val a b 0 ha.1 hb.1 (by omega) (by omega) (g1 hx)
      refine ⟨_, _, rfl, trimL_digs l2, by have := tl (lessL a b 0); omega, ?_⟩
      rw [sv_trim _ _ l2, less_exact ha.1 hb.1 (g1 hx) hle]
      cases na <;> cases nb <;> simp at hn <;> simp only [sv, if_true, Bool.false_eq_true, if_false] <;> omega
    · rename_i hx
      have hx' : aboveL a b = false := by simpa using hx
      have hle : val a ≤ val b := by rw [g0] at hx'; simp at hx'; omega
      obtain ⟨_, l2, l3⟩ := less_val b a 0 hb.1 ha.1 (by omega) (by omega) (g2 hx')
      refine ⟨_, _, rfl, trimL_digs l2, by have := tl (lessL b a 0); omega, ?_⟩
      rw [sv_trim _ _ l2, less_exact hb.1 ha.1 (g2 hx') hle]
      cases na <;> cases nb <;> simp at hn <;> simp only [sv, if_true, Bool.false_eq_true, if_false] <;> omega

theorem strip_scale (v : Int) (m : Nat) : ∀ j : Nat, stripN (v * 10 ^ j) (m + j) = stripN v m
  | 0 => by simp
  | j + 1 => by
    have e : v * 10 ^ (j + 1) = v * 10 ^ j * 10 := by rw [Int.pow_succ, Int.mul_assoc]
    rw [← Nat.add_assoc, stripN, e, Int.mul_tmod_left, if_pos rfl, Int.mul_tdiv_cancel _ (by omega), strip_scale v m j]
theorem made_scale (v : Int) (m j : Nat) : madeT (v * 10 ^ j) (m + j) = madeT v m := by
  unfold madeT makeOk
  rw [strip_scale]

theorem sv_abs (c : Int) : sv (decide (c < 0)) (c.natAbs : Int) = c := by
  by_cases h : c < 0
  · simp only [h, decide_true, sv, if_true]; omega
  · simp only [h, decide_false, sv, Bool.false_eq_true, if_false]; omega
theorem sv_mul (neg : Bool) (p v : Int) : sv neg (p * v) = p * sv neg v := by
  cases neg <;> simp only [sv, if_true, Bool.false_eq_true, if_false, Int.mul_neg]
theorem sv_not (neg : Bool) (v : Int) : sv (!neg) v = -sv neg v := by
  cases neg <;> simp only [sv, Bool.not_true, Bool.not_false, if_true, Bool.false_eq_true, if_false, Int.neg_neg]

theorem flat_line (c c' : Int) (k k' : Nat) (hk : k ≤ 9) (hk' : k' ≤ 9) (s : Int) : madeT (c * 10 ^ (max k k' - k) + s * (c' * 10 ^ (max k k' - k'))) (max k k') = madeT (flatN c k + s * flatN c' k') 9 := by
  have e := made_scale (c * 10 ^ (max k k' - k) + s * (c' * 10 ^ (max k k' - k'))) (max k k') (9 - max k k')
  rw [← e, show max k k' + (9 - max k k') = 9 by omega]
  congr 1
  unfold flatN
  rw [Int.add_mul, Int.mul_assoc c, ← Int.pow_add, Int.mul_assoc s, Int.mul_assoc c', ← Int.pow_add, show max k k' - k + (9 - max k k') = 9 - k by omega, show max k k' - k' + (9 - max k k') = 9 - k' by omega]

section
variable (c c' : Int) (k k' : Nat) (hk : k ≤ 9) (hk' : k' ≤ 9) (hc : -1000000000000000 < c ∧ c < 1000000000000000) (hc' : -1000000000000000 < c' ∧ c' < 1000000000000000)
include hk hk' hc hc'

theorem add4_ok (hp : List Ent) : F tab 38 [.d (numD c k), .d (numD c' k')] hp = some (.ret (madeT (flatN c k + flatN c' k') 9) hp) := by
  have hl := line_ok c c' k k' hk hk' hc hc'
  obtain ⟨t1, v1, n1⟩ := at_top c (max k k' - k)
  obtain ⟨t2, v2, n2⟩ := at_top c' (max k k' - k')
  have l1 := at_len c (max k k' - k) (by omega) hc
  have l2 := at_len c' (max k k' - k') (by omega) hc'
  have hpl := plus_ok (atN c (max k k' - k)) (atN c' (max k k' - k')) _ _ t1 t2 l1 l2
  obtain ⟨neg, l, e1, e2, e3, e4⟩ := plus_val (na := atN c (max k k' - k)) (nb := atN c' (max k k' - k')) t1 t2 l1 l2
  rw [e1] at hpl
  have ht := told4_ok neg l e2 (by omega) (max k k') (by omega)
  rw [e4, n1, n2, v1, v2, sv_mul, sv_mul, sv_abs, sv_abs, Int.mul_comm _ c, Int.mul_comm _ c'] at ht
  have hf := flat_line c c' k k' hk hk' 1
  rw [Int.one_mul, Int.one_mul] at hf
  rw [hf] at ht
  have hm : ∃ a b, madeT (flatN c k + flatN c' k') 9 = .tup [.d (.agg a), .d (iv b)] ∧ a.length = 2 ∧ ∃ x y, a = [iv x, iv y] := by
    rcases Bool.eq_false_or_eq_true (makeOk (flatN c k + flatN c' k') 9) with g | g
    · exact ⟨_, _, made_yes g, rfl, _, _, rfl⟩
    · exact ⟨_, _, made_no g, rfl, _, _, rfl⟩
  obtain ⟨a, b, e, _, x, y, rfl⟩ := hm
  rw [e] at ht ⊢
  refine f38 rfl ?_
  simp (disch := omega) only [go_sem, and_self, and_true, true_and, false_and, and_false, Nat.reduceAdd, Nat.reduceMul, Nat.reduceSub, Nat.reduceLeDiff, Nat.reduceLT, Nat.reduceGT, Nat.reduceEqDiff, Nat.reduceBEq, Int.reduceNeg, Int.reduceEq, Int.reduceLT, Int.reduceLE, Int.reduceBEq, Int.reduceToNat, Int.toNat_natCast, Int.natCast_zero, r38_T, r38, hl, hpl, ht, longD, numD]

theorem sub4_ok (hp : List Ent) : F tab 30 [.d (numD c k), .d (numD c' k')] hp = some (.ret (madeT (flatN c k - flatN c' k') 9) hp) := by
  have hl := line_ok c c' k k' hk hk' hc hc'
  obtain ⟨t1, v1, n1⟩ := at_top c (max k k' - k)
  obtain ⟨t2, v2, n2⟩ := at_top c' (max k k' - k')
  have l1 := at_len c (max k k' - k) (by omega) hc
  have l2 := at_len c' (max k k' - k') (by omega) hc'
  have hpl := plus_ok (atN c (max k k' - k)) (!atN c' (max k k' - k')) _ _ t1 t2 l1 l2
  obtain ⟨neg, l, e1, e2, e3, e4⟩ := plus_val (na := atN c (max k k' - k)) (nb := !atN c' (max k k' - k')) t1 t2 l1 l2
  rw [e1] at hpl
  have ht := told4_ok neg l e2 (by omega) (max k k') (by omega)
  rw [e4, sv_not, n1, n2, v1, v2, sv_mul, sv_mul, sv_abs, sv_abs, Int.mul_comm _ c, Int.mul_comm _ c'] at ht
  have hf := flat_line c c' k k' hk hk' (-1)
  rw [Int.neg_mul, Int.one_mul, Int.neg_mul, Int.one_mul] at hf
  rw [hf, ← Int.sub_eq_add_neg] at ht
  have hm : ∃ a b, madeT (flatN c k - flatN c' k') 9 = .tup [.d (.agg a), .d (iv b)] ∧ a.length = 2 ∧ ∃ x y, a = [iv x, iv y] := by
    rcases Bool.eq_false_or_eq_true (makeOk (flatN c k - flatN c' k') 9) with g | g
    · exact ⟨_, _, made_yes g, rfl, _, _, rfl⟩
    · exact ⟨_, _, made_no g, rfl, _, _, rfl⟩
  obtain ⟨a, b, e, _, x, y, rfl⟩ := hm
  rw [e] at ht ⊢
  refine f30 rfl ?_
  simp (disch := omega) only [go_sem, and_self, and_true, true_and, false_and, and_false, Nat.reduceAdd, Nat.reduceMul, Nat.reduceSub, Nat.reduceLeDiff, Nat.reduceLT, Nat.reduceGT, Nat.reduceEqDiff, Nat.reduceBEq, Int.reduceNeg, Int.reduceEq, Int.reduceLT, Int.reduceLE, Int.reduceBEq, Int.reduceToNat, Int.toNat_natCast, Int.natCast_zero, r30_T, r30, hl, hpl, ht, longD, numD]
end
/-- what there is of a sum: a number and an error -/
theorem made_ex (T : Int) (k : Nat) : ∃ x y b, madeT T k = .tup [.d (.agg [iv x, iv y]), .d (iv b)] := by
  rcases Bool.eq_false_or_eq_true (makeOk T k) with g | g
  · exact ⟨_, _, _, made_yes g⟩
  · exact ⟨_, _, _, made_no g⟩

end Go.Pe.T

namespace Go.Pe.T
theorem shift_val (l : List Int) (hd : Digs l) (i : Nat) : Digs (shiftL l i) ∧ val (shiftL l i) = 10 ^ i * val l ∧ (shiftL l i).length ≤ i + l.length := by
  have h1 := rep_digs hd i
  unfold shiftL
  refine ⟨trimL_digs h1, by rw [trimL_val, val_rep], ?_⟩
  unfold trimL
  rw [List.length_take]
  simp only [List.length_append, List.length_replicate]
  omega

end Go.Pe.T

namespace Go.Pe.T
/-! ### the document's division, digit by digit -/
theorem top_len {l : List Int} (h : Top l) (m : Nat) (hv : val l < 10 ^ m) : l.length ≤ m := by
  by_cases h0 : l = []
  · subst h0; simp
  · have h1 := top_bound h h0
    apply Classical.byContradiction
    intro hc
    have : (10 : Int) ^ m ≤ 10 ^ (l.length - 1) := p10_mono (by omega)
    omega
theorem top_trim (l : List Int) (hd : Digs l) : Top (trimL l) := ⟨trimL_digs hd, trimL_top l⟩
theorem trimL_le (l : List Int) : (trimL l).length ≤ l.length := by unfold trimL; rw [List.length_take]; omega

def DvIn (na nb : Bool) (X4 : List PV) (x y num q : List Int) (i : Int) (r : List Int) (k : Nat) : Prop :=
  ∃ r' : List Int, Top r' ∧ val r' = val r % val y ∧
    V (F tab) r27_B1 (r27_S1 (.ibox X4) (.ibox [.d (.bool na), .d (dl x)]) (.ibox [.d (.bool nb), .d (dl y)]) (.ibox [.d (.bool false), .d (dl num)]) (.d (dl q)) (.d (dl r)) (.d (iv i)) (.d (iv k)) []) =
      some (.norm, r27_E1 (.ibox X4) (.ibox [.d (.bool na), .d (dl x)]) (.ibox [.d (.bool nb), .d (dl y)]) (.ibox [.d (.bool false), .d (dl num)]) (.d (dl q)) (.d (dl r')) (.d (iv i)) (.d (iv (k + val r / val y))) [])

theorem dv_end (na nb : Bool) (X4 : List PV) (x y num q : List Int) (i : Int) (r : List Int) (k : Nat) (hy : Top y) (hy0 : 0 < val y) (hyl : y.length ≤ 900) (hr : Top r) (hrl : r.length ≤ 900) (h : val r < val y) : DvIn na nb X4 x y num q i r k := by
  have hb := (val_bound hr.1).1
  have hym : y ≠ [] := by intro e; subst e; simp [val] at hy0
  have hyl0 : 0 < y.length := List.length_pos_iff.2 hym
  have h1 : ((y.length : Int) > 0) = True := eq_true (by omega)
  have ha := above_ok r y (by omega) (by omega)
  rw [(aboveL_val hr hy).1] at ha
  have e1 : val r / val y = 0 := Int.ediv_eq_zero_of_lt hb h
  have e2 : val r % val y = val r := Int.emod_eq_of_lt hb h
  have hd : decide (val y ≤ val r) = false := by simp; omega
  rw [hd] at ha
  refine ⟨r, hr, e2.symm, ?_⟩
  rw [r27_B1_eq, e1, Int.add_zero]
  simp (disch := omega) only [go_sem, and_self, and_true, true_and, false_and, and_false, Nat.reduceAdd, Nat.reduceMul, Nat.reduceSub, Nat.reduceLeDiff, Nat.reduceLT, Nat.reduceGT, Nat.reduceEqDiff, Nat.reduceBEq, Int.reduceNeg, Int.reduceEq, Int.reduceLT, Int.reduceLE, Int.reduceBEq, Int.reduceToNat, Int.toNat_natCast, Int.natCast_zero, r27_C1, h1, ha, List.length_map]
theorem dv_step (na nb : Bool) (X4 : List PV) (x y num q : List Int) (i : Int) (r : List Int) (k : Nat) (hk : k ≤ 100) (hy : Top y) (hy0 : 0 < val y) (hyl : y.length ≤ 900) (hr : Top r) (hrl : r.length ≤ 900) (h : val y ≤ val r)
    (ih : ∀ r1, Top r1 → r1.length ≤ r.length → val r1 = val r - val y → DvIn na nb X4 x y num q i r1 (k + 1)) : DvIn na nb X4 x y num q i r k := by
  have hb := (val_bound hr.1).1
  have hym : y ≠ [] := by intro e; subst e; simp [val] at hy0
  have hyl0 : 0 < y.length := List.length_pos_iff.2 hym
  have h1 : ((y.length : Int) > 0) = True := eq_true (by omega)
  have ha := above_ok r y (by omega) (by omega)
  obtain ⟨a1, a2, _⟩ := aboveL_val hr hy
  rw [a1] at ha a2
  have hd : decide (val y ≤ val r) = true := by simp; omega
  rw [hd] at ha a2
  have hle := a2 rfl
  have hls := less_ok r y hr.1 hy.1 (by omega) (by omega)
  obtain ⟨_, l2, l3⟩ := less_val r y 0 hr.1 hy.1 (by omega) (by omega) hle
  have lv := less_exact hr.1 hy.1 hle h
  have ht := trim_ok' false (lessL r y 0) (by omega)
  simp only [trimmed_shape] at ht
  obtain ⟨r', g1, g2, g3⟩ := ih (trimL (lessL r y 0)) (top_trim _ l2) (by have := trimL_le (lessL r y 0); omega) (by rw [trimL_val, lv])
  rw [trimL_val, lv] at g2 g3
  have e1 : (k : Int) + 1 = ((k + 1 : Nat) : Int) := rfl
  have e2 : ((k + 1 : Nat) : Int) + (val r - val y) / val y = (k : Int) + val r / val y := by
    have := Int.sub_ediv_of_dvd (val r) (Int.dvd_refl (val y))
    rw [this, Int.ediv_self (by omega)]
    omega
  have e3 : (val r - val y) % val y = val r % val y := by rw [Int.sub_emod_right]
  rw [e2] at g3
  refine ⟨r', g1, by rw [g2, e3], ?_⟩
  rw [r27_B1_eq]
  simp (disch := omega) only [go_sem, and_self, and_true, true_and, false_and, and_false, Nat.reduceAdd, Nat.reduceMul, Nat.reduceSub, Nat.reduceLeDiff, Nat.reduceLT, Nat.reduceGT, Nat.reduceEqDiff, Nat.reduceBEq, Int.reduceNeg, Int.reduceEq, Int.reduceLT, Int.reduceLE, Int.reduceBEq, Int.reduceToNat, Int.toNat_natCast, Int.natCast_zero, r27_C1, h1, ha, hls, ht, e1, List.length_map, List.getElem?_cons_succ, List.getElem?_cons_zero, w64]
  exact g3
theorem dv_loop (na nb : Bool) (X4 : List PV) (x y num q : List Int) (i : Int) (hy : Top y) (hy0 : 0 < val y) (hyl : y.length ≤ 900) : ∀ (m k : Nat) (r : List Int), k + m ≤ 100 → Top r → r.length ≤ 900 → val r < ((m : Int) + 1) * val y → DvIn na nb X4 x y num q i r k
  | 0, k, r, hk, hr, hrl, h => dv_end na nb X4 x y num q i r k hy hy0 hyl hr hrl (by simpa using h)
  | m + 1, k, r, hk, hr, hrl, h => by
    by_cases hlt : val r < val y
    · exact dv_end na nb X4 x y num q i r k hy hy0 hyl hr hrl hlt
    · refine dv_step na nb X4 x y num q i r k (by omega) hy hy0 hyl hr hrl (by omega) fun r1 h1 h2 h3 => ?_
      refine dv_loop na nb X4 x y num q i hy hy0 hyl m (k + 1) r1 (by omega) h1 (by omega) ?_
      rw [h3]
      have : ((m + 1 : Nat) : Int) + 1 = ((m : Int) + 1) + 1 := rfl
      rw [this, Int.add_mul ((m : Int) + 1), Int.one_mul] at h
      omega

def DvOut (na nb : Bool) (X4 : List PV) (x y num q r : List Int) (n : Nat) : Prop :=
  ∃ q' r' : List Int, Digs q' ∧ q'.length ≤ num.length ∧ Top r' ∧ val q' = val num / val y ∧ val r' = val num % val y ∧
    V (F tab) r27_B0 (r27_S0 (.ibox X4) (.ibox [.d (.bool na), .d (dl x)]) (.ibox [.d (.bool nb), .d (dl y)]) (.ibox [.d (.bool false), .d (dl num)]) (.d (dl q)) (.d (dl r)) (.d (iv ((n : Int) - 1))) []) =
      some (.norm, r27_E0 (.ibox X4) (.ibox [.d (.bool na), .d (dl x)]) (.ibox [.d (.bool nb), .d (dl y)]) (.d (dl q')) (.d (dl r')) [])
theorem dz_end (na nb : Bool) (X4 : List PV) (x y num q r : List Int) (hy0 : 0 < val y) (hq : Digs q) (hql : q.length ≤ num.length) (hr : Top r) (hlt : val r < val y) (hv : val num = val q * val y + val r) : DvOut na nb X4 x y num q r 0 := by
  have hb := (val_bound hr.1).1
  have h1 : (((0 : Nat) : Int) - 1 ≥ 0) = False := eq_false (by omega)
  have h3 : ((0 : Int) - 1 ≥ 0) = False := eq_false (by omega)
  refine ⟨q, r, hq, hql, hr, ?_, ?_, ?_⟩
  · rw [hv, Int.add_comm, Int.add_mul_ediv_right _ _ (by omega), Int.ediv_eq_zero_of_lt hb hlt]; omega
  · rw [hv, Int.add_comm, Int.add_mul_emod_self_right, Int.emod_eq_of_lt hb hlt]
  · rw [r27_B0_eq]
    simp (disch := omega) only [go_sem, and_self, and_true, true_and, false_and, and_false, Nat.reduceAdd, Nat.reduceMul, Nat.reduceSub, Nat.reduceLeDiff, Nat.reduceLT, Nat.reduceGT, Nat.reduceEqDiff, Nat.reduceBEq, Int.reduceNeg, Int.reduceEq, Int.reduceLT, Int.reduceLE, Int.reduceBEq, Int.reduceToNat, Int.toNat_natCast, Int.natCast_zero, r27_C0, h1, h3]

set_option maxHeartbeats 1000000 in
theorem dz_step (na nb : Bool) (X4 : List PV) (x y num q r : List Int) (n : Nat) (hn : n < num.length) (hnl : num.length ≤ 400) (d : Int) (hd : num[n]? = some d) (hdd : digit d) (hql : q.length ≤ 400) (hr : Top r) (hrl : r.length ≤ 400) (hin : DvIn na nb X4 x y num q n (trimL (d :: r)) 0)
    (ih : ∀ r' : List Int, Top r' → val r' = (d + 10 * val r) % val y → DvOut na nb X4 x y num ((d + 10 * val r) / val y :: q) r' n) : DvOut na nb X4 x y num q r (n + 1) := by
  have h1 : (((n + 1 : Nat) : Int) - 1 ≥ 0) = True := eq_true (by omega)
  have e1 : ((n + 1 : Nat) : Int) - 1 = (n : Int) := by omega
  have h2 : ((n : Int) ≥ 0) = True := eq_true (by omega)
  have i0 : (0 ≤ (n : Int)) = True := eq_true (by omega)
  have va : (num.map iv)[n]? = some (iv d) := dl_get hd
  obtain ⟨r', g1, g2, g3⟩ := hin
  have hv : val (d :: r) = d + 10 * val r := rfl
  rw [trimL_val, hv] at g2 g3
  have z : ((0 : Nat) : Int) = 0 := rfl
  rw [z, Int.zero_add] at g3
  obtain ⟨q', r2, o1, o2, o3, o4, o5, o6⟩ := ih r' g1 g2
  refine ⟨q', r2, o1, o2, o3, o4, o5, ?_⟩
  have ht := trim_ok' false (d :: r) (by simp; omega)
  simp only [trimmed_shape] at ht
  have q1 : (r.map iv).all (fun y => y.width == 1) = true := dl_all r
  have q2 : (q.map iv).all (fun y => y.width == 1) = true := dl_all q
  have q3 : ((0 + 1) * 8 ≤ maxRow) = True := eq_true (by simp [maxRow])
  have q4 : ((1 + r.length) * 8 ≤ maxRow) = True := eq_true (by simp only [maxRow]; omega)
  have q5 : ((1 + q.length) * 8 ≤ maxRow) = True := eq_true (by simp only [maxRow]; omega)
  have q6 : [iv d] ++ r.map iv = (d :: r).map iv := rfl
  have q7 : [iv ((d + 10 * val r) / val y)] ++ q.map iv = ((d + 10 * val r) / val y :: q).map iv := rfl
  rw [r27_B0_eq, e1]
  simp only [dl, List.map_cons] at g3 o6 ht ⊢
  generalize (d + 10 * val r) / val y = kk at *
  simp (maxSteps := 1000000) (disch := omega) only [go_sem, and_self, and_true, true_and, false_and, and_false, Nat.reduceAdd, Nat.reduceMul, Nat.reduceSub, Nat.reduceLeDiff, Nat.reduceLT, Nat.reduceGT, Nat.reduceEqDiff, Nat.reduceBEq, Int.reduceNeg, Int.reduceEq, Int.reduceLT, Int.reduceLE, Int.reduceBEq, Int.reduceToNat, Int.toNat_natCast, Int.natCast_zero, r27_C0, h2, i0, va, q1, q3, q4, q6, ht, List.length_map, List.length_nil, List.length_cons, List.all_cons, List.all_nil, decide_true, Bool.and_true, Bool.true_and, List.getElem?_cons_succ, List.getElem?_cons_zero]
  rw [r27_B1_n]
  erw [g3]
  simp (maxSteps := 1000000) (disch := omega) only [go_sem, and_self, and_true, true_and, false_and, and_false, Nat.reduceAdd, Nat.reduceMul, Nat.reduceSub, Nat.reduceLeDiff, Nat.reduceLT, Nat.reduceGT, Nat.reduceEqDiff, Nat.reduceBEq, Int.reduceNeg, Int.reduceEq, Int.reduceLT, Int.reduceLE, Int.reduceBEq, Int.reduceToNat, Int.toNat_natCast, Int.natCast_zero, q2, q3, q5, q7, List.length_map, List.length_nil, List.length_cons, List.all_cons, List.all_nil, decide_true, Bool.and_true, Bool.true_and, w64]
  exact o6

theorem dz_loop (na nb : Bool) (X4 : List PV) (x y num : List Int) (hnum : Digs num) (hnl : num.length ≤ 400) (hy : Top y) (hy0 : 0 < val y) (hyl : y.length ≤ 399) : ∀ (n : Nat) (q r : List Int), n ≤ num.length → Digs q → q.length + n = num.length → Top r → val r < val y → val (num.drop n) = val q * val y + val r → DvOut na nb X4 x y num q r n
  | 0, q, r, hn, hq, hql, hr, hlt, hv => dz_end na nb X4 x y num q r hy0 hq (by omega) hr hlt (by simpa using hv)
  | n + 1, q, r, hn, hq, hql, hr, hlt, hv => by
    have hx : num[n]? = some num[n] := List.getElem?_eq_getElem (by omega)
    have hdd := hnum num[n] (List.getElem_mem _)
    have hdr : num.drop n = num[n] :: num.drop (n + 1) := List.drop_eq_getElem_cons (by omega)
    generalize num[n] = d at *
    have hb := (val_bound hr.1).1
    have hyb := (val_bound hy.1).2
    have hrl := top_len hr y.length (by omega)
    have hd1 : Digs (d :: r) := Digs.mk hdd hr.1
    have hv1 : val (d :: r) = d + 10 * val r := rfl
    unfold digit at hdd
    have hkk0 : 0 ≤ (d + 10 * val r) / val y := Int.ediv_nonneg (by omega) (by omega)
    have hkk9 : (d + 10 * val r) / val y < 10 := Int.ediv_lt_of_lt_mul (by omega) (by omega)
    have hmm := Int.mul_ediv_add_emod (d + 10 * val r) (val y)
    have hm0 := Int.emod_lt_of_pos (d + 10 * val r) hy0
    refine dz_step na nb X4 x y num q r n (by omega) hnl d hx (by unfold digit; omega) (by omega) hr (by omega) ?_ fun r' g1 g2 => ?_
    · refine dv_loop na nb X4 x y num q n hy hy0 (by omega) 10 0 (trimL (d :: r)) (by omega) (top_trim _ hd1) (by have := trimL_le (d :: r); simp only [List.length_cons] at this; omega) ?_
      rw [trimL_val, hv1]; omega
    · refine dz_loop na nb X4 x y num hnum hnl hy hy0 hyl n _ r' (by omega) (Digs.mk (by unfold digit; omega) hq) (by simp only [List.length_cons]; omega) g1 (by omega) ?_
      rw [hdr, g2]
      have e1 : val (d :: num.drop (n + 1)) = d + 10 * val (num.drop (n + 1)) := rfl
      have e2 : val ((d + 10 * val r) / val y :: q) = (d + 10 * val r) / val y + 10 * val q := rfl
      have e3 : (d + 10 * val r) / val y * val y = val y * ((d + 10 * val r) / val y) := Int.mul_comm _ _
      rw [e1, e2, hv, Int.add_mul, Int.mul_assoc 10, e3]
      generalize val q * val y = A at *
      generalize val y * ((d + 10 * val r) / val y) = B at *
      generalize (d + 10 * val r) % val y = C at *
      omega

/-- the quotient, by ten more places; none: something is left -/
def divT (c c' : Int) (k k' : Nat) : PV :=
  if (10 ^ 10 * (10 ^ (max k k' - k) * (c.natAbs : Int))) % (10 ^ (max k k' - k') * (c'.natAbs : Int)) = 0
  then madeT (sv (!(decide (c < 0) == decide (c' < 0))) ((10 ^ 10 * (10 ^ (max k k' - k) * (c.natAbs : Int))) / (10 ^ (max k k' - k') * (c'.natAbs : Int)))) 10
  else .tup [.d (.agg [iv 0, iv 0]), .d (iv 8)]

set_option maxHeartbeats 1000000 in
theorem div4_ok (c c' : Int) (k k' : Nat) (hk : k ≤ 9) (hk' : k' ≤ 9) (hc : -1000000000000000 < c ∧ c < 1000000000000000) (hc' : -1000000000000000 < c' ∧ c' < 1000000000000000) (h0 : c' ≠ 0) (hp : List Ent) :
    F tab 27 [.d (numD c k), .d (numD c' k')] hp = some (.ret (divT c c' k k') hp) := by
  have hl := line_ok c c' k k' hk hk' hc hc'
  obtain ⟨t1, v1, n1⟩ := at_top c (max k k' - k)
  obtain ⟨t2, v2, n2⟩ := at_top c' (max k k' - k')
  rw [n1, n2] at hl
  have e24 : (10 : Int) ^ 24 = 1000000000000000000000000 := by decide
  have hp1 : (10 : Int) ^ (max k k' - k) ≤ 10 ^ 9 := p10_mono (by omega)
  have hp2 : (10 : Int) ^ (max k k' - k') ≤ 10 ^ 9 := p10_mono (by omega)
  have hq1 := p10_pos (max k k' - k)
  have hq2 := p10_pos (max k k' - k')
  have e9 : (10 : Int) ^ 9 = 1000000000 := by decide
  have l1 : (atL c (max k k' - k)).length ≤ 24 := top_len t1 24 (by
    rw [v1, e24]
    have g : (10 : Int) ^ (max k k' - k) * (c.natAbs : Int) ≤ 1000000000 * (c.natAbs : Int) := Int.mul_le_mul_of_nonneg_right (by omega) (by omega)
    omega)
  have l2 : (atL c' (max k k' - k')).length ≤ 24 := top_len t2 24 (by
    rw [v2, e24]
    have g : (10 : Int) ^ (max k k' - k') * (c'.natAbs : Int) ≤ 1000000000 * (c'.natAbs : Int) := Int.mul_le_mul_of_nonneg_right (by omega) (by omega)
    omega)
  have hy0 : 0 < val (atL c' (max k k' - k')) := by rw [v2]; exact Int.mul_pos hq2 (by omega)
  have hsh := shift_ok false (atL c (max k k' - k)) (by omega) 10 (by omega)
  obtain ⟨s1, s2, s3⟩ := shift_val (atL c (max k k' - k)) t1.1 10
  have ff : (false && trimN (List.replicate 10 0 ++ atL c (max k k' - k)) (10 + (atL c (max k k' - k)).length) != 0) = false := rfl
  rw [ff] at hsh
  have c0 : (c' == 0) = false := by simpa using h0
  unfold divT
  rw [← v1, ← v2, ← s2]
  generalize hx : atL c (max k k' - k) = x at *
  generalize hy : atL c' (max k k' - k') = y at *
  generalize hN : shiftL x 10 = num at *
  have ten : ((10 : Nat) : Int) = 10 := rfl
  obtain ⟨q, r, o1, o2, o3, o4, o5, o6⟩ := dz_loop (decide (c < 0)) (decide (c' < 0)) [.d (iv 0), .d (iv 0)] x y num s1 (by omega) t2 hy0 (by omega) num.length [] [] (Nat.le_refl _) Digs.nil (by simp) ⟨Digs.nil, by simp⟩ hy0 (by rw [List.drop_of_length_le (Nat.le_refl _)]; show (0 : Int) = 0 * _ + 0; omega)
  have ht := told4_ok (!(decide (c < 0) == decide (c' < 0))) q o1 (by omega) 10 (by omega)
  rw [ten] at hsh ht
  rw [o4] at ht
  simp only [dl, longD, List.map_nil] at hl hsh o6 ht
  have i0 : ([] : List Int).map iv = [] := rfl
  refine f27 rfl ?_
  simp (maxSteps := 1000000) (disch := omega) only [go_sem, and_self, and_true, true_and, false_and, and_false, Nat.reduceAdd, Nat.reduceMul, Nat.reduceSub, Nat.reduceLeDiff, Nat.reduceLT, Nat.reduceGT, Nat.reduceEqDiff, Nat.reduceBEq, Int.reduceNeg, Int.reduceEq, Int.reduceLT, Int.reduceLE, Int.reduceBEq, Int.reduceToNat, Int.toNat_natCast, Int.natCast_zero, r27_T, r27, numD, c0, hl, hsh, List.length_map, w64]
  rw [r27_B0_n]
  erw [o6]
  by_cases hr : val num % val y = 0
  · rw [hr] at o5
    have hrn : r = [] := by
      apply Classical.byContradiction
      intro hne
      have := top_bound o3 hne
      have := p10_pos (r.length - 1)
      omega
    subst hrn
    rw [if_pos hr]
    obtain ⟨a, b, e, hm⟩ := made_ex (sv (!(decide (c < 0) == decide (c' < 0))) (val num / val y)) 10
    rw [hm] at ht ⊢
    have z : ((0 : Int) > 0) = False := eq_false (by omega)
    simp (maxSteps := 1000000) (disch := omega) only [go_sem, and_self, and_true, true_and, false_and, and_false, Nat.reduceAdd, Nat.reduceMul, Nat.reduceSub, Nat.reduceLeDiff, Nat.reduceLT, Nat.reduceGT, Nat.reduceEqDiff, Nat.reduceBEq, Int.reduceNeg, Int.reduceEq, Int.reduceLT, Int.reduceLE, Int.reduceBEq, Int.reduceToNat, Int.toNat_natCast, Int.natCast_zero, i0, List.length_nil, z, ht]
  · rw [if_neg hr]
    have hrl : 0 < r.length := by
      apply Nat.pos_of_ne_zero
      intro e
      have := List.eq_nil_of_length_eq_zero e
      subst this
      exact hr o5.symm
    have z : ((r.length : Int) > 0) = True := eq_true (by omega)
    simp (maxSteps := 1000000) (disch := omega) only [go_sem, and_self, and_true, true_and, false_and, and_false, Nat.reduceAdd, Nat.reduceMul, Nat.reduceSub, Nat.reduceLeDiff, Nat.reduceLT, Nat.reduceGT, Nat.reduceEqDiff, Nat.reduceBEq, Int.reduceNeg, Int.reduceEq, Int.reduceLT, Int.reduceLE, Int.reduceBEq, Int.reduceToNat, Int.toNat_natCast, Int.natCast_zero, List.length_map, z]
end Go.Pe.T

namespace Go.Pe.T
/-! ### what a quotient is -/
def QSol (c c' : Int) (k k' : Nat) (z : Int) (s : Nat) : Prop := z * c' * 10 ^ k = c * 10 ^ (s + k')
/-- the one number whose product is the dividend, or none -/
def QSpec (c c' : Int) (k k' : Nat) (T : PV) : Prop :=
  (∃ (z : Int) (s : Nat), T = .tup [.d (.agg [iv z, iv s]), .d (iv 0)] ∧ numIs z s = true ∧ QSol c c' k k' z s) ∨
  (T = .tup [.d (.agg [iv 0, iv 0]), .d (iv 8)] ∧ ∀ (z : Int) (s : Nat), numIs z s = true → ¬ QSol c c' k k' z s)

theorem mul_p10 {a b : Int} (n : Nat) (h : a * 10 ^ n = b * 10 ^ n) : a = b := Int.eq_of_mul_eq_mul_right (by have := p10_pos n; omega) h

theorem qspec_one {c c' : Int} {k k' : Nat} (h0 : c' ≠ 0) {T U : PV} (h1 : QSpec c c' k k' T) (h2 : QSpec c c' k k' U) : T = U := by
  rcases h1 with ⟨z, s, rfl, n1, e1⟩ | ⟨rfl, g1⟩
  · rcases h2 with ⟨w, t, rfl, n2, e2⟩ | ⟨_, g2⟩
    · unfold QSol at e1 e2
      have key : z * 10 ^ t * (c' * 10 ^ k) = w * 10 ^ s * (c' * 10 ^ k) := by
        have a1 : z * 10 ^ t * (c' * 10 ^ k) = z * c' * 10 ^ k * 10 ^ t := by
          rw [Int.mul_assoc, Int.mul_comm (10 ^ t), ← Int.mul_assoc, ← Int.mul_assoc]
        have a2 : w * 10 ^ s * (c' * 10 ^ k) = w * c' * 10 ^ k * 10 ^ s := by
          rw [Int.mul_assoc, Int.mul_comm (10 ^ s), ← Int.mul_assoc, ← Int.mul_assoc]
        rw [a1, a2, e1, e2, Int.mul_assoc, Int.mul_assoc, ← Int.pow_add, ← Int.pow_add, show s + k' + t = t + k' + s by omega]
      have hne : c' * 10 ^ k ≠ 0 := Int.mul_ne_zero h0 (by have := p10_pos k; omega)
      have e : z * 10 ^ t = w * 10 ^ s := Int.eq_of_mul_eq_mul_right hne key
      obtain ⟨s', es, hs, _⟩ := numIs_inv n1
      obtain ⟨t', et, ht, _⟩ := numIs_inv n2
      have es := Int.ofNat.inj es
      have et := Int.ofNat.inj et
      have hf : flatN z s = flatN w t := by
        unfold flatN
        refine mul_p10 (s + t) ?_
        rw [Int.mul_assoc, Int.mul_assoc, ← Int.pow_add, ← Int.pow_add, show 9 - s + (s + t) = t + 9 by omega, show 9 - t + (s + t) = s + 9 by omega, Int.pow_add, Int.pow_add, ← Int.mul_assoc, ← Int.mul_assoc, e]
      obtain ⟨r1, r2⟩ := num_inj n1 n2 hf
      rw [r1, r2]
    · exact absurd e1 (g2 z s n1)
  · rcases h2 with ⟨w, t, rfl, n2, e2⟩ | ⟨rfl, _⟩
    · exact absurd e2 (g1 w t n2)
    · rfl

theorem numIs_tail {z : Int} {s : Nat} (h : numIs z s = true) : s = 0 ∨ z.tmod 10 ≠ 0 := by
  unfold numIs at h
  simp only [Bool.and_eq_true, Bool.or_eq_true, beq_iff_eq, bne_iff_ne] at h
  rcases h.2 with g | g
  · exact .inl (by omega)
  · exact .inr g
/-- a solution is the digits, noughts taken off -/
theorem sol_strip {z P : Int} {s sc : Nat} (h : numIs z s = true) (e : z * 10 ^ sc = P * 10 ^ s) : stripN P sc = (z, s) := by
  have h1 := strip_scale P sc s
  have h2 := strip_scale z s sc
  rw [← e, show sc + s = s + sc by omega, h2, strip_self s z (numIs_tail h)] at h1
  exact h1.symm

/-- what is made of a coefficient and a scale is the quotient, if the solutions are those -/
theorem qspec_made {c c' : Int} {k k' : Nat} {P : Int} {sc : Nat} (h : ∀ (z : Int) (s : Nat), QSol c c' k k' z s ↔ z * 10 ^ sc = P * 10 ^ s) : QSpec c c' k k' (madeT P sc) := by
  rcases Bool.eq_false_or_eq_true (makeOk P sc) with g | g
  · refine .inl ⟨(stripN P sc).1, (stripN P sc).2, made_yes g, g, (h _ _).2 ?_⟩
    obtain ⟨h1, h2, _⟩ := strip_val sc P
    generalize stripN P sc = q at *
    have : (10 : Int) ^ sc = 10 ^ (sc - q.2) * 10 ^ q.2 := by rw [← Int.pow_add, show sc - q.2 + q.2 = sc by omega]
    rw [this, ← Int.mul_assoc, h2]
  · refine .inr ⟨made_no g, fun z s hn hq => ?_⟩
    have hs := sol_strip hn ((h z s).1 hq)
    unfold makeOk at g
    rw [hs] at g
    simp only at g
    rw [hn] at g
    simp at g
/-- none, where it would be too great -/
theorem qspec_none {c c' : Int} {k k' : Nat} {P : Int} {sc : Nat} (h : ∀ (z : Int) (s : Nat), QSol c c' k k' z s ↔ z * 10 ^ sc = P * 10 ^ s) (hb : makeOk P sc = false) : QSpec c c' k k' (.tup [.d (.agg [iv 0, iv 0]), .d (iv 8)]) := by
  have := qspec_made h
  rwa [made_no hb] at this

theorem abs_of (c : Int) : ∃ σ : Bool, c = sv σ (c.natAbs : Int) ∧ σ = decide (c < 0) := ⟨_, (sv_abs c).symm, rfl⟩
theorem sv_sv (a b : Bool) (v : Int) : sv a (sv b v) = sv (!(a == b)) v := by cases a <;> cases b <;> simp [sv]
theorem sv_inj {a : Bool} {u v : Int} (h : sv a u = sv a v) : u = v := by cases a <;> simp [sv] at h <;> omega
theorem sv_mulL (a : Bool) (u v : Int) : sv a u * v = sv a (u * v) := by cases a <;> simp [sv, Int.neg_mul]

/-- the solutions, at ten more places -/
theorem qsol_ten {c c' : Int} {k k' : Nat} (hk : k ≤ 9) (hk' : k' ≤ 9) (z : Int) (s : Nat) :
    QSol c c' k k' z s ↔ z * 10 ^ 10 * (10 ^ (max k k' - k') * c') = 10 ^ 10 * (10 ^ (max k k' - k) * c) * 10 ^ s * 10 ^ 0 := by
  unfold QSol
  have e1 : z * 10 ^ 10 * (10 ^ (max k k' - k') * c') * 10 ^ (k + k') = z * c' * 10 ^ k * 10 ^ (10 + max k k') := by
    have : (10 : Int) ^ (10 + max k k') = 10 ^ 10 * (10 ^ (max k k' - k') * 10 ^ k') := by
      rw [← Int.pow_add, ← Int.pow_add, show 10 + (max k k' - k' + k') = 10 + max k k' by omega]
    rw [this, Int.pow_add]
    simp only [Int.mul_assoc, Int.mul_comm, Int.mul_left_comm]
  have e2 : 10 ^ 10 * (10 ^ (max k k' - k) * c) * 10 ^ s * 10 ^ 0 * 10 ^ (k + k') = c * 10 ^ (s + k') * 10 ^ (10 + max k k') := by
    have : (10 : Int) ^ (10 + max k k') = 10 ^ 10 * (10 ^ (max k k' - k) * 10 ^ k) := by
      rw [← Int.pow_add, ← Int.pow_add, show 10 + (max k k' - k + k) = 10 + max k k' by omega]
    rw [this, Int.pow_add, Int.pow_add, Int.pow_zero, Int.mul_one]
    simp only [Int.mul_assoc, Int.mul_comm, Int.mul_left_comm]
  constructor
  · intro h
    refine mul_p10 (k + k') ?_
    rw [e1, e2, h]
  · intro h
    refine mul_p10 (10 + max k k') ?_
    rw [← e1, ← e2, h]

theorem divT_spec (c c' : Int) (k k' : Nat) (hk : k ≤ 9) (hk' : k' ≤ 9) (h0 : c' ≠ 0) : QSpec c c' k k' (divT c c' k k') := by
  have hsol := fun z s => qsol_ten (c := c) (c' := c') hk hk' z s
  have sc := sv_abs c
  have sc' := sv_abs c'
  have hY : 0 < 10 ^ (max k k' - k') * (c'.natAbs : Int) := Int.mul_pos (p10_pos _) (by omega)
  unfold divT
  generalize hN : (10 : Int) ^ 10 * (10 ^ (max k k' - k) * (c.natAbs : Int)) = N at *
  generalize hYY : (10 : Int) ^ (max k k' - k') * (c'.natAbs : Int) = Y at *
  generalize hm : decide (c < 0) = σ at *
  generalize hm' : decide (c' < 0) = τ at *
  have eN : (10 : Int) ^ 10 * (10 ^ (max k k' - k) * c) = sv σ N := by rw [← sc, ← hN, sv_mul, sv_mul]
  have eY : (10 : Int) ^ (max k k' - k') * c' = sv τ Y := by rw [← sc', ← hYY, sv_mul]
  have hsol2 : ∀ (z : Int) (s : Nat), QSol c c' k k' z s ↔ z * 10 ^ 10 * Y = sv (!(σ == τ)) N * 10 ^ s := by
    intro z s
    rw [hsol z s, eN, eY, Int.pow_zero, Int.mul_one]
    cases σ <;> cases τ <;> simp [sv, Int.mul_neg, Int.neg_mul] <;> omega
  by_cases hr : N % Y = 0
  · rw [if_pos hr]
    refine qspec_made fun z s => ?_
    rw [hsol2 z s]
    have hd : N = N / Y * Y := by have := Int.mul_ediv_add_emod N Y; rw [Int.mul_comm] at this; omega
    generalize N / Y = Q at *
    rw [hd, ← sv_mulL, Int.mul_assoc (sv _ Q), Int.mul_comm Y, ← Int.mul_assoc]
    constructor
    · exact fun h => Int.eq_of_mul_eq_mul_right (by omega) h
    · intro h; rw [h]
  · rw [if_neg hr]
    refine .inr ⟨rfl, fun z s hn hq => ?_⟩
    obtain ⟨s', es, hs, _⟩ := numIs_inv hn
    have es := Int.ofNat.inj es
    rw [hsol2 z s] at hq
    have e10 : (10 : Int) ^ 10 = 10 ^ (10 - s) * 10 ^ s := by rw [← Int.pow_add, show 10 - s + s = 10 by omega]
    have h2 : z * 10 ^ (10 - s) * Y = sv (!(σ == τ)) N := by
      refine mul_p10 s ?_
      rw [← hq, e10, ← Int.mul_assoc, Int.mul_assoc _ (10 ^ s) Y, Int.mul_comm (10 ^ s) Y, ← Int.mul_assoc]
    have h3 : (sv (!(σ == τ)) N) % Y = 0 := by rw [← h2]; exact Int.mul_emod_left _ _
    cases hb : !(σ == τ) with
    | true =>
      rw [hb] at h3
      simp only [sv, if_true] at h3
      have := Int.emod_emod_of_dvd
      exact hr (Int.emod_eq_zero_of_dvd (Int.dvd_neg.1 (Int.dvd_of_emod_eq_zero h3)))
    | false =>
      rw [hb] at h3
      simp only [sv, Bool.false_eq_true, if_false] at h3
      exact hr h3
end Go.Pe.T

namespace Go.Pe.T
/-! ### quotients in lowest terms -/
/-- two sizes, in lowest terms; the lower one's twos and fives -/
structure Low (a b g p q t m2 f m5 : Nat) : Prop where
  ea : a = g * p
  eb : b = g * q
  g0 : 0 < g
  p0 : 0 < p
  q0 : 0 < q
  co : Nat.Coprime p q
  e2 : q = 2 ^ t * m2
  d2 : m2 % 2 ≠ 0
  e5 : m2 = 5 ^ f * m5
  d5 : m5 % 5 ≠ 0

theorem sv_nat (σ : Bool) (n : Nat) (z : Int) : z = sv σ n → z.natAbs = n := by cases σ <;> simp [sv] <;> omega
theorem nat_abs_sv (σ : Bool) (v : Int) : (sv σ v).natAbs = v.natAbs := by cases σ <;> simp [sv]

theorem low_sol {c c' : Int} {k k' g p q t m2 f m5 : Nat} (h : Low c.natAbs c'.natAbs g p q t m2 f m5) (z : Int) (s : Nat) :
    QSol c c' k k' z s ↔ z * q * 10 ^ k = sv (!(decide (c < 0) == decide (c' < 0))) p * 10 ^ (s + k') := by
  have sc := sv_abs c
  have sc' := sv_abs c'
  have hg : (g : Int) ≠ 0 := by have := h.g0; omega
  unfold QSol
  generalize decide (c < 0) = σ at *
  generalize decide (c' < 0) = τ at *
  rw [h.ea, Int.natCast_mul] at sc
  rw [h.eb, Int.natCast_mul] at sc'
  rw [← sc, ← sc']
  have e1 : z * sv τ ((g : Int) * q) * 10 ^ k = g * sv τ (z * q * 10 ^ k) := by
    cases τ <;> simp only [sv, if_true, Bool.false_eq_true, if_false, Int.mul_neg, Int.neg_mul, Int.mul_assoc, Int.mul_left_comm]
  have e2 : sv σ ((g : Int) * p) * 10 ^ (s + k') = g * sv σ (p * 10 ^ (s + k')) := by
    cases σ <;> simp only [sv, if_true, Bool.false_eq_true, if_false, Int.mul_neg, Int.neg_mul, Int.mul_assoc]
  have e3 : sv (!(σ == τ)) (p : Int) * 10 ^ (s + k') = sv (!(σ == τ)) (p * 10 ^ (s + k')) := by
    cases (!(σ == τ)) <;> simp only [sv, if_true, Bool.false_eq_true, if_false, Int.neg_mul]
  rw [e1, e2, e3]
  generalize z * q * 10 ^ k = u
  generalize (p : Int) * 10 ^ (s + k') = v
  constructor
  · intro h
    have := Int.eq_of_mul_eq_mul_left hg h
    revert this
    cases σ <;> cases τ <;> simp [sv] <;> omega
  · intro h
    congr 1
    revert h
    cases σ <;> cases τ <;> simp [sv] <;> omega

theorem gcd10 {m : Nat} (h2 : m % 2 ≠ 0) (h5 : m % 5 ≠ 0) : Nat.Coprime m 10 := by
  show Nat.gcd m 10 = 1
  rw [Nat.gcd_comm, Nat.gcd_rec]
  have hm : m % 10 = 1 ∨ m % 10 = 3 ∨ m % 10 = 7 ∨ m % 10 = 9 := by omega
  rcases hm with e | e | e | e <;> rw [e] <;> rfl

theorem low_no {c c' : Int} {k k' g p q t m2 f m5 : Nat} (h : Low c.natAbs c'.natAbs g p q t m2 f m5) (h5 : m5 ≠ 1) (z : Int) (s : Nat) : ¬ QSol c c' k k' z s := by
  intro hq
  rw [low_sol h] at hq
  have hN : z.natAbs * q * 10 ^ k = p * 10 ^ (s + k') := by
    have e := congrArg Int.natAbs hq
    rw [Int.natAbs_mul, Int.natAbs_mul, Int.natAbs_mul, nat_abs_sv] at e
    simpa [Int.natAbs_pow] using e
  have hd : q ∣ p * 10 ^ (s + k') := ⟨z.natAbs * 10 ^ k, by rw [← hN, Nat.mul_comm z.natAbs q, Nat.mul_assoc]⟩
  have hd2 : q ∣ 10 ^ (s + k') := Nat.Coprime.dvd_of_dvd_mul_left h.co.symm hd
  have hm : m5 ∣ q := by rw [h.e2, h.e5]; exact ⟨2 ^ t * 5 ^ f, by simp [Nat.mul_comm, Nat.mul_left_comm]⟩
  have h2 : m5 % 2 ≠ 0 := by
    intro e
    have := h.d2
    rw [h.e5, Nat.mul_mod, e] at this
    simp at this
  have hc : Nat.Coprime m5 (10 ^ (s + k')) := (gcd10 h2 h.d5).pow_right _
  have := Nat.dvd_gcd (Nat.dvd_refl m5) (Nat.dvd_trans hm hd2)
  rw [hc] at this
  exact h5 (Nat.dvd_one.1 this)

section
variable {c c' : Int} {k k' g p q t m2 f : Nat} (h : Low c.natAbs c'.natAbs g p q t m2 f 1) (K : Nat) (h1 : t ≤ K) (h2 : f ≤ K)
include h h1 h2

theorem low_ten : p * 2 ^ (K - t) * 5 ^ (K - f) * q = p * 10 ^ K := by
  have e1 : (2 : Nat) ^ K = 2 ^ (K - t) * 2 ^ t := by rw [← Nat.pow_add, show K - t + t = K by omega]
  have e2 : (5 : Nat) ^ K = 5 ^ (K - f) * 5 ^ f := by rw [← Nat.pow_add, show K - f + f = K by omega]
  rw [show (10 : Nat) = 2 * 5 by rfl, Nat.mul_pow, e1, e2]
  have e3 : q = 2 ^ t * 5 ^ f := by rw [h.e2, h.e5, Nat.mul_one]
  rw [e3]
  simp only [Nat.mul_assoc, Nat.mul_comm, Nat.mul_left_comm]

/-- the solutions, of the coefficient and scale that the code has -/
theorem low_made (sc e : Nat) (he : K + k + e = k' + sc) (z : Int) (s : Nat) : QSol c c' k k' z s ↔ z * 10 ^ sc = sv (!(decide (c < 0) == decide (c' < 0))) ((p * 2 ^ (K - t) * 5 ^ (K - f) * 10 ^ e : Nat) : Int) * 10 ^ s := by
  rw [low_sol h]
  have ht := low_ten h K h1 h2
  have hw : 0 < 2 ^ (K - t) * 5 ^ (K - f) * 10 ^ e := by
    refine Nat.mul_pos (Nat.mul_pos ?_ ?_) ?_ <;> exact Nat.pow_pos (by omega)
  generalize hW : 2 ^ (K - t) * 5 ^ (K - f) = w at *
  have hP : p * 2 ^ (K - t) * 5 ^ (K - f) = p * w := by rw [Nat.mul_assoc, hW]
  rw [hP] at ht ⊢
  have hwq : w * q = 10 ^ K := by
    have : p * (w * q) = p * 10 ^ K := by rw [← Nat.mul_assoc]; exact ht
    exact Nat.eq_of_mul_eq_mul_left h.p0 this
  have hwi : (w : Int) * q = 10 ^ K := by rw [← Int.natCast_mul, hwq]; simp
  generalize (!(decide (c < 0) == decide (c' < 0))) = ρ at *
  have eP : sv ρ ((p * w * 10 ^ e : Nat) : Int) = sv ρ (p : Int) * (w * 10 ^ e) := by
    cases ρ <;> simp [sv, Int.natCast_mul, Int.mul_assoc, Int.neg_mul]
  rw [eP]
  have l1 : z * q * 10 ^ k * (w * 10 ^ e) = z * 10 ^ sc * 10 ^ k' := by
    have : (10 : Int) ^ sc * 10 ^ k' = w * q * (10 ^ k * 10 ^ e) := by
      rw [hwi, ← Int.pow_add, ← Int.pow_add, ← Int.pow_add, show sc + k' = K + (k + e) by omega]
    rw [Int.mul_assoc z (10 ^ sc), this]
    simp only [Int.mul_assoc, Int.mul_comm, Int.mul_left_comm]
  have l2 : sv ρ (p : Int) * 10 ^ (s + k') * (w * 10 ^ e) = sv ρ (p : Int) * (w * 10 ^ e) * 10 ^ s * 10 ^ k' := by
    rw [Int.pow_add]
    simp only [Int.mul_assoc, Int.mul_comm, Int.mul_left_comm]
  have hwe : (w : Int) * 10 ^ e ≠ 0 := by
    have : ((w * 10 ^ e : Nat) : Int) = (w : Int) * 10 ^ e := by simp
    omega
  constructor
  · intro hh
    refine mul_p10 k' ?_
    rw [← l1, ← l2, hh]
  · intro hh
    refine Int.eq_of_mul_eq_mul_right hwe ?_
    rw [l1, l2, hh]

theorem low_tail (hK : (K = t ∨ K = f) ∧ 0 < K) : (p * 2 ^ (K - t) * 5 ^ (K - f)) % 10 ≠ 0 := by
  intro h10
  have d2 : 2 ∣ p * 2 ^ (K - t) * 5 ^ (K - f) := Nat.dvd_of_mod_eq_zero (by omega)
  have d5 : 5 ∣ p * 2 ^ (K - t) * 5 ^ (K - f) := Nat.dvd_of_mod_eq_zero (by omega)
  have c25 : Nat.Coprime 2 5 := rfl
  have one : ∀ d, d ∣ p → d ∣ q → d = 1 := fun d a b => by
    have := Nat.dvd_gcd a b
    have hc : Nat.gcd p q = 1 := h.co
    rw [hc] at this
    exact Nat.dvd_one.1 this
  have e3 : q = 2 ^ t * 5 ^ f := by rw [h.e2, h.e5, Nat.mul_one]
  rcases hK.1 with e | e
  · have hp2 : 2 ∣ p := by
      rw [e, Nat.sub_self, Nat.pow_zero, Nat.mul_one] at d2
      exact Nat.Coprime.dvd_of_dvd_mul_right (c25.pow_right _) d2
    have hq2 : 2 ∣ q := by
      rw [e3]
      have ht : 2 ^ t = 2 * 2 ^ (t - 1) := by rw [← Nat.pow_succ', Nat.succ_eq_add_one, show t - 1 + 1 = t by omega]
      exact Nat.dvd_trans ⟨2 ^ (t - 1), ht⟩ (Nat.dvd_mul_right _ _)
    have := one 2 hp2 hq2
    omega
  · have hp5 : 5 ∣ p := by
      rw [e, Nat.sub_self, Nat.pow_zero, Nat.mul_one] at d5
      exact Nat.Coprime.dvd_of_dvd_mul_right (c25.symm.pow_right _) d5
    have hq5 : 5 ∣ q := by
      rw [e3]
      have ht : 5 ^ f = 5 * 5 ^ (f - 1) := by rw [← Nat.pow_succ', Nat.succ_eq_add_one, show f - 1 + 1 = f by omega]
      exact Nat.dvd_trans ⟨5 ^ (f - 1), ht⟩ (Nat.dvd_mul_left _ _)
    have := one 5 hp5 hq5
    omega
end

/-- what is too great, or too far behind the point, can't be held -/
theorem made_big (ρ : Bool) (P sc : Nat) (ht : sc = 0 ∨ P % 10 ≠ 0) (hb : 1000000000000000 ≤ P ∨ 9 < sc) : makeOk (sv ρ P) sc = false := by
  have hs : stripN (sv ρ P) sc = (sv ρ P, sc) := by
    refine strip_self sc _ (ht.imp_right fun h => ?_)
    have hm : ((P : Nat) : Int).tmod 10 = ((P % 10 : Nat) : Int) := (Int.ofNat_tmod P 10).symm
    cases ρ with
    | true => simp only [sv, if_true, Int.neg_tmod, hm]; omega
    | false => simp only [sv, Bool.false_eq_true, if_false, hm]; omega
  unfold makeOk
  rw [hs]
  unfold numIs
  simp only
  rcases hb with hb | hb
  · cases ρ with
    | true =>
      have : ¬ (-1000000000000000 < sv true (P : Int)) := by simp only [sv, if_true]; omega
      simp [this]
    | false =>
      have : ¬ (sv false (P : Int) < 1000000000000000) := by simp only [sv, Bool.false_eq_true, if_false]; omega
      simp [this]
  · have : ¬ ((sc : Int) ≤ 9) := by omega
    simp [this]

theorem pow_lt50 {b j m n : Nat} (hb : 2 ≤ b) (hm : 0 < m) (h : n = b ^ j * m) (hn : n < 1000000000000000) : j < 50 := by
  apply Classical.byContradiction
  intro hj
  have h1 : 2 ^ 50 ≤ 2 ^ j := Nat.pow_le_pow_right (by omega) (by omega)
  have h2 : 2 ^ j ≤ b ^ j := Nat.pow_le_pow_left hb j
  have h3 : b ^ j * 1 ≤ b ^ j * m := Nat.mul_le_mul_left _ hm
  have e : (2 : Nat) ^ 50 = 1125899906842624 := by decide
  omega
end Go.Pe.T
