/- A part of the proof of: For every text q and every row of bytes b: LexBlanks(q, b) is true, and it ends without a panic. -/
import Derived.Test.YtgcpkhhopjhpiaaDoorLb2
import Derived.Test.YtgcpkhhopjhpiaaDoorPe3
import Derived.KernelRfl
set_option linter.unusedSimpArgs false
set_option linter.unusedVariables false
set_option maxRecDepth 10000

namespace Go.Pe.T
def sgn (a b : Int) : Int := if a < b then -1 else if a > b then 1 else 0

abbrev numD (c s : Int) : D := .agg [iv c, iv s]

def numIs (c s : Int) : Bool := decide (0 ≤ s) && decide (s ≤ 9) && decide (-1000000000000000 < c) && decide (c < 1000000000000000) && (s == 0 || c.tmod 10 != 0)

theorem numIs_ok (c s : Int) (hp : List Ent) : F tab 68 [.d (numD c s)] hp = some (.ret (.d (.bool (numIs c s))) hp) := by
  refine f68 rfl ?_
  by_cases h1 : s < 0
  · have g1 : ¬ (0 ≤ s) := by omega
    simp only [go_sem, and_self, and_true, true_and, false_and, and_false, Nat.reduceAdd, Nat.reduceMul, Nat.reduceSub, Nat.reduceLeDiff, Nat.reduceLT, Nat.reduceGT, Nat.reduceEqDiff, Nat.reduceBEq, Int.reduceNeg, Int.reduceEq, Int.reduceLT, Int.reduceLE, Int.reduceBEq, Int.reduceToNat, Int.toNat_natCast, Int.natCast_zero, r68_T, r68, numIs, h1, g1]
  · have g1 : 0 ≤ s := by omega
    by_cases h2 : s > 9
    · have g2 : ¬ (s ≤ 9) := by omega
      simp only [go_sem, and_self, and_true, true_and, false_and, and_false, Nat.reduceAdd, Nat.reduceMul, Nat.reduceSub, Nat.reduceLeDiff, Nat.reduceLT, Nat.reduceGT, Nat.reduceEqDiff, Nat.reduceBEq, Int.reduceNeg, Int.reduceEq, Int.reduceLT, Int.reduceLE, Int.reduceBEq, Int.reduceToNat, Int.toNat_natCast, Int.natCast_zero, r68_T, r68, numIs, h1, g1, h2, g2]
    · have g2 : s ≤ 9 := by omega
      by_cases h3 : c ≤ -1000000000000000
      · have g3 : ¬ (-1000000000000000 < c) := by omega
        simp only [go_sem, and_self, and_true, true_and, false_and, and_false, Nat.reduceAdd, Nat.reduceMul, Nat.reduceSub, Nat.reduceLeDiff, Nat.reduceLT, Nat.reduceGT, Nat.reduceEqDiff, Nat.reduceBEq, Int.reduceNeg, Int.reduceEq, Int.reduceLT, Int.reduceLE, Int.reduceBEq, Int.reduceToNat, Int.toNat_natCast, Int.natCast_zero, r68_T, r68, numIs, h1, g1, h2, g2, h3, g3]
      · have g3 : -1000000000000000 < c := by omega
        by_cases h4 : c ≥ 1000000000000000
        · have g4 : ¬ (c < 1000000000000000) := by omega
          simp only [go_sem, and_self, and_true, true_and, false_and, and_false, Nat.reduceAdd, Nat.reduceMul, Nat.reduceSub, Nat.reduceLeDiff, Nat.reduceLT, Nat.reduceGT, Nat.reduceEqDiff, Nat.reduceBEq, Int.reduceNeg, Int.reduceEq, Int.reduceLT, Int.reduceLE, Int.reduceBEq, Int.reduceToNat, Int.toNat_natCast, Int.natCast_zero, r68_T, r68, numIs, h1, g1, h2, g2, h3, g3, h4, g4]
        · have g4 : c < 1000000000000000 := by omega
          by_cases h5 : s = 0
          · subst h5
            simp only [go_sem, and_self, and_true, true_and, false_and, and_false, Nat.reduceAdd, Nat.reduceMul, Nat.reduceSub, Nat.reduceLeDiff, Nat.reduceLT, Nat.reduceGT, Nat.reduceEqDiff, Nat.reduceBEq, Int.reduceNeg, Int.reduceEq, Int.reduceLT, Int.reduceLE, Int.reduceBEq, Int.reduceToNat, Int.toNat_natCast, Int.natCast_zero, r68_T, r68, numIs, h1, g1, h2, g2, h3, g3, h4, g4, Bool.true_or]
          · have g5 : (s == 0) = false := by simpa using h5
            simp only [go_sem, and_self, and_true, true_and, false_and, and_false, Nat.reduceAdd, Nat.reduceMul, Nat.reduceSub, Nat.reduceLeDiff, Nat.reduceLT, Nat.reduceGT, Nat.reduceEqDiff, Nat.reduceBEq, Int.reduceNeg, Int.reduceEq, Int.reduceLT, Int.reduceLE, Int.reduceBEq, Int.reduceToNat, Int.toNat_natCast, Int.natCast_zero, r68_T, r68, numIs, h1, g1, h2, g2, h3, g3, h4, g4, g5, Bool.false_or]


theorem p10_pos (n : Nat) : 0 < (10 : Int) ^ n := Int.pow_pos (by omega)
theorem p10_mono {a b : Nat} (h : a ≤ b) : (10 : Int) ^ a ≤ 10 ^ b := by
  have h1 : (10 : Nat) ^ a ≤ 10 ^ b := Nat.pow_le_pow_right (by omega) h
  have h2 : ((10 ^ a : Nat) : Int) ≤ ((10 ^ b : Nat) : Int) := by exact_mod_cast h1
  simpa using h2

def cutU (c : Int) (k : Nat) : Int := c.tdiv (10 ^ k)
def cutV (c : Int) (k : Nat) : Int := c.tmod (10 ^ k) * 10 ^ (9 - k)

theorem cut_bounds {c : Int} {k : Nat} (hk : k ≤ 9) (hc : -1000000000000000 < c ∧ c < 1000000000000000) :
    cutU c k * 1000000000 + cutV c k = c * 10 ^ (9 - k) ∧ -1000000000000000 < cutU c k ∧ cutU c k < 1000000000000000 ∧ -1000000000 < cutV c k ∧ cutV c k < 1000000000 ∧ (0 ≤ c → 0 ≤ cutU c k ∧ 0 ≤ cutV c k) ∧ (c ≤ 0 → cutU c k ≤ 0 ∧ cutV c k ≤ 0) ∧ -10 ^ k < c.tmod (10 ^ k) ∧ c.tmod (10 ^ k) < 10 ^ k := by
  have hp := p10_pos k
  have hq := p10_pos (9 - k)
  have hpq : (10 : Int) ^ k * 10 ^ (9 - k) = 1000000000 := by
    rw [← Int.pow_add, show k + (9 - k) = 9 by omega]; decide
  have hdm := Int.mul_tdiv_add_tmod c (10 ^ k)
  generalize hP : (10 : Int) ^ k = p at *
  generalize hQ : (10 : Int) ^ (9 - k) = q at *
  have hm1 : c.tmod p < p := Int.tmod_lt_of_pos c hp
  have hm2 : -p < c.tmod p := by
    have := Int.lt_tmod_of_pos c hp
    omega
  have hu : cutU c k = c.tdiv p := by unfold cutU; rw [hP]
  have hv : cutV c k = c.tmod p * q := by unfold cutV; rw [hP, hQ]
  rw [hu, hv]
  have hnat : (c.tdiv p).natAbs ≤ c.natAbs := Int.natAbs_tdiv_le_natAbs c p
  refine ⟨?_, by omega, by omega, ?_, ?_, ?_, ?_, hm2, hm1⟩
  · rw [← hpq]
    calc c.tdiv p * (p * q) + c.tmod p * q = (p * c.tdiv p + c.tmod p) * q := by rw [Int.add_mul]; congr 1; rw [Int.mul_comm p (c.tdiv p), Int.mul_assoc]
      _ = c * q := by rw [hdm]
  · have : -p * q < c.tmod p * q := Int.mul_lt_mul_of_pos_right hm2 hq
    rw [Int.neg_mul, hpq] at this
    exact this
  · have : c.tmod p * q < p * q := Int.mul_lt_mul_of_pos_right hm1 hq
    rw [hpq] at this
    exact this
  · intro h0
    exact ⟨Int.tdiv_nonneg h0 (by omega), Int.mul_nonneg (Int.tmod_nonneg p h0) (by omega)⟩
  · intro h0
    have h1 : c.tdiv p ≤ 0 := by
      have := Int.tdiv_nonneg (show 0 ≤ -c by omega) (show 0 ≤ p by omega)
      rw [Int.neg_tdiv] at this
      omega
    have h2 : c.tmod p ≤ 0 := by
      have := Int.tmod_nonneg p (show 0 ≤ -c by omega)
      rw [Int.neg_tmod] at this
      omega
    exact ⟨h1, Int.mul_nonpos_of_nonpos_of_nonneg h2 (by omega)⟩

def flatN (c : Int) (k : Nat) : Int := c * 10 ^ (9 - k)

theorem cmp_math {c c' : Int} {k k' : Nat} (hk : k ≤ 9) (hk' : k' ≤ 9) (hc : -1000000000000000 < c ∧ c < 1000000000000000) (hc' : -1000000000000000 < c' ∧ c' < 1000000000000000) :
    (if cutU c k ≠ cutU c' k' then sgn (cutU c k) (cutU c' k') else sgn (cutV c k) (cutV c' k')) = sgn (flatN c k) (flatN c' k') := by
  obtain ⟨b1, b2, b3, b4, b5, b6, b7, _⟩ := cut_bounds hk hc
  obtain ⟨d1, d2, d3, d4, d5, d6, d7, _⟩ := cut_bounds hk' hc'
  unfold flatN
  rw [← b1, ← d1]
  unfold sgn
  split
  · rename_i hne
    by_cases h0 : 0 ≤ c
    · have := b6 h0
      by_cases h1 : 0 ≤ c'
      · have := d6 h1
        split <;> split <;> (try split) <;> omega
      · have := d7 (by omega)
        split <;> split <;> (try split) <;> omega
    · have := b7 (by omega)
      by_cases h1 : 0 ≤ c'
      · have := d6 h1
        split <;> split <;> (try split) <;> omega
      · have := d7 (by omega)
        split <;> split <;> (try split) <;> omega
  · rename_i hne
    have : cutU c k = cutU c' k' := by simpa using hne
    rw [this]
    split <;> split <;> (try split) <;> omega

theorem numIs_inv {c s : Int} (h : numIs c s = true) : ∃ k : Nat, s = k ∧ k ≤ 9 ∧ (-1000000000000000 < c ∧ c < 1000000000000000) := by
  simp only [numIs, Bool.and_eq_true, decide_eq_true_eq] at h
  exact ⟨s.toNat, by omega, by omega, by omega⟩

end Go.Pe.T

namespace Go.Pe.T

def stripN : Int → Nat → Int × Nat
  | c, 0 => (c, 0)
  | c, s + 1 => if c.tmod 10 = 0 then stripN (c.tdiv 10) s else (c, s + 1)

theorem strip_val : ∀ (k : Nat) (c : Int), (stripN c k).2 ≤ k ∧ (stripN c k).1 * 10 ^ (k - (stripN c k).2) = c ∧ ((stripN c k).2 = 0 ∨ (stripN c k).1.tmod 10 ≠ 0)
  | 0, c => by simp [stripN]
  | k + 1, c => by
    simp only [stripN]
    split
    · rename_i h
      obtain ⟨h1, h2, h3⟩ := strip_val k (c.tdiv 10)
      refine ⟨by omega, ?_, h3⟩
      have e : k + 1 - (stripN (c.tdiv 10) k).2 = (k - (stripN (c.tdiv 10) k).2) + 1 := by omega
      rw [e, Int.pow_succ, ← Int.mul_assoc, h2]
      have := Int.mul_tdiv_add_tmod c 10
      omega
    · rename_i h
      exact ⟨Nat.le_refl _, by simp, .inr h⟩

theorem strip_self : ∀ (k : Nat) (c : Int), (k = 0 ∨ c.tmod 10 ≠ 0) → stripN c k = (c, k)
  | 0, c, _ => rfl
  | k + 1, c, h => by
    simp only [stripN]
    rw [if_neg (h.resolve_left (by omega))]

theorem strip_add : ∀ (k : Nat) (w p : Int), stripN (w * 10 ^ k + p) k = (w * 10 ^ (stripN p k).2 + (stripN p k).1, (stripN p k).2)
  | 0, w, p => by simp [stripN]
  | k + 1, w, p => by
    have hp := p10_pos k
    have e : w * 10 ^ (k + 1) = w * 10 ^ k * 10 := by rw [Int.pow_succ, Int.mul_assoc]
    have hm : (w * 10 ^ (k + 1) + p).tmod 10 = 0 ↔ p.tmod 10 = 0 := by
      rw [e]
      generalize w * 10 ^ k = x
      have := Int.mul_tdiv_add_tmod p 10
      have := Int.mul_tdiv_add_tmod (x * 10 + p) 10
      constructor
      · intro h
        have h1 : (10 : Int) ∣ x * 10 + p := Int.dvd_of_tmod_eq_zero h
        have h2 : (10 : Int) ∣ p := by omega
        exact Int.tmod_eq_zero_of_dvd h2
      · intro h
        have h1 : (10 : Int) ∣ p := Int.dvd_of_tmod_eq_zero h
        have h2 : (10 : Int) ∣ x * 10 + p := by omega
        exact Int.tmod_eq_zero_of_dvd h2
    simp only [stripN]
    by_cases h : p.tmod 10 = 0
    · rw [if_pos (hm.2 h), if_pos h]
      have hd : (w * 10 ^ (k + 1) + p).tdiv 10 = w * 10 ^ k + p.tdiv 10 := by
        have h3 := hm.2 h
        rw [e] at h3 ⊢
        generalize w * 10 ^ k = x at *
        have h1 := Int.mul_tdiv_add_tmod p 10
        have h2 := Int.mul_tdiv_add_tmod (x * 10 + p) 10
        omega
      rw [hd]
      exact strip_add k w (p.tdiv 10)
    · rw [if_neg (fun h2 => h (hm.1 h2)), if_neg h]

theorem strip_abs (k : Nat) (c B : Int) (h : -B ≤ c ∧ c ≤ B) : -B ≤ (stripN c k).1 ∧ (stripN c k).1 ≤ B := by
  obtain ⟨_, h2, _⟩ := strip_val k c
  have hp := p10_pos (k - (stripN c k).2)
  generalize (stripN c k).1 = x at *
  generalize (10 : Int) ^ (k - (stripN c k).2) = q at *
  by_cases hx : 0 ≤ x
  · have : x * 1 ≤ x * q := Int.mul_le_mul_of_nonneg_left (by omega) hx
    omega
  · have : -x * 1 ≤ -x * q := Int.mul_le_mul_of_nonneg_left (by omega) (by omega)
    rw [Int.neg_mul, Int.neg_mul] at this
    omega

def makeOk (c : Int) (k : Nat) : Bool := numIs (stripN c k).1 (stripN c k).2

theorem strip_zero : ∀ (k : Nat), stripN 0 k = (0, 0)
  | 0 => rfl
  | k + 1 => by simp only [stripN, Int.zero_tmod, Int.zero_tdiv, if_true, strip_zero k]

theorem strip_whole (z : Int) (k : Nat) : stripN (z * 10 ^ k) k = (z, 0) := by
  have := strip_add k z 0
  rw [strip_zero, Int.add_zero] at this
  simpa using this

theorem p10_cut (s : Nat) (hs : s ≤ 9) : (10 : Int) ^ s * 10 ^ (9 - s) = 1000000000 := by
  rw [← Int.pow_add, show s + (9 - s) = 9 by omega]; decide
theorem p10_cut15 (s : Nat) (hs : s ≤ 15) : (10 : Int) ^ s * 10 ^ (15 - s) = 1000000000000000 := by
  rw [← Int.pow_add, show s + (15 - s) = 15 by omega]; decide

theorem strip_part {p : Int} (hp : -1000000000 < p ∧ p < 1000000000) : -10 ^ (stripN p 9).2 < (stripN p 9).1 ∧ (stripN p 9).1 < 10 ^ (stripN p 9).2 := by
  obtain ⟨h1, h2, _⟩ := strip_val 9 p
  have h3 := p10_cut _ h1
  have h4 := p10_pos (9 - (stripN p 9).2)
  generalize (stripN p 9).1 = q at *
  generalize (10 : Int) ^ (9 - (stripN p 9).2) = y at *
  generalize (10 : Int) ^ (stripN p 9).2 = x at *
  rw [← h2, ← h3] at hp
  refine ⟨?_, ?_⟩
  · have : -x * y < q * y := by rw [Int.neg_mul]; omega
    exact Int.lt_of_mul_lt_mul_right this (by omega)
  · exact Int.lt_of_mul_lt_mul_right hp.2 (by omega)

theorem join_math {w p : Int} (hp : -1000000000 < p ∧ p < 1000000000) :
    (stripN (w * 1000000000 + p) 9) = (w * 10 ^ (stripN p 9).2 + (stripN p 9).1, (stripN p 9).2) ∧
    (w ≥ (1000000000000000 : Int).tdiv (10 ^ (stripN p 9).2) + 1 → makeOk (w * 1000000000 + p) 9 = false) ∧
    (w ≤ (-1000000000000000 : Int).tdiv (10 ^ (stripN p 9).2) - 1 → makeOk (w * 1000000000 + p) 9 = false) ∧
    (¬ w ≥ (1000000000000000 : Int).tdiv (10 ^ (stripN p 9).2) + 1 → ¬ w ≤ (-1000000000000000 : Int).tdiv (10 ^ (stripN p 9).2) - 1 →
      -2000000000000000 < w * 10 ^ (stripN p 9).2 ∧ w * 10 ^ (stripN p 9).2 < 2000000000000000 ∧ -1000000000 < (stripN p 9).1 ∧ (stripN p 9).1 < 1000000000) := by
  have e9 : (10 : Int) ^ 9 = 1000000000 := by decide
  have hs := strip_add 9 w p
  rw [e9] at hs
  obtain ⟨h1, _, _⟩ := strip_val 9 p
  obtain ⟨h2, h3⟩ := strip_part hp
  have h4 := p10_cut15 (stripN p 9).2 (by omega)
  have h5 := p10_pos (stripN p 9).2
  have h6 := p10_pos (15 - (stripN p 9).2)
  have h7 := p10_mono h1
  rw [e9] at h7
  have d1 : (1000000000000000 : Int).tdiv (10 ^ (stripN p 9).2) = 10 ^ (15 - (stripN p 9).2) := by
    rw [← h4]; exact Int.mul_tdiv_cancel_left _ (by omega)
  have d2 : (-1000000000000000 : Int).tdiv (10 ^ (stripN p 9).2) = -10 ^ (15 - (stripN p 9).2) := by
    rw [← h4, ← Int.mul_neg]; exact Int.mul_tdiv_cancel_left _ (by omega)
  rw [d1, d2]
  unfold makeOk
  rw [hs]
  simp only
  generalize (stripN p 9).1 = q at *
  generalize (10 : Int) ^ (15 - (stripN p 9).2) = y at *
  generalize hx : (10 : Int) ^ (stripN p 9).2 = x at *
  refine ⟨trivial, fun h => ?_, fun h => ?_, fun g1 g2 => ?_⟩
  · have : (y + 1) * x ≤ w * x := Int.mul_le_mul_of_nonneg_right h (by omega)
    rw [Int.add_mul, Int.one_mul, Int.mul_comm y x, h4] at this
    have g : ¬ (w * x + q < 1000000000000000) := by omega
    simp [numIs, g]
  · have : w * x ≤ (-y - 1) * x := Int.mul_le_mul_of_nonneg_right h (by omega)
    rw [Int.sub_mul, Int.one_mul, Int.neg_mul, Int.mul_comm y x, h4] at this
    have g : ¬ (-1000000000000000 < w * x + q) := by omega
    simp [numIs, g]
  · have a1 : w * x ≤ y * x := Int.mul_le_mul_of_nonneg_right (by omega) (by omega)
    have a2 : -y * x ≤ w * x := Int.mul_le_mul_of_nonneg_right (by omega) (by omega)
    rw [Int.neg_mul, Int.mul_comm y x, h4] at a2
    rw [Int.mul_comm y x, h4] at a1
    omega

theorem make_flat {c : Int} {k : Nat} (hk : k ≤ 9) : flatN (stripN c k).1 (stripN c k).2 = flatN c k := by
  obtain ⟨h1, h2, _⟩ := strip_val k c
  unfold flatN
  rw [show 9 - (stripN c k).2 = (k - (stripN c k).2) + (9 - k) by omega, Int.pow_add, ← Int.mul_assoc, h2]

theorem flat_inj {c c' : Int} : ∀ {k k' : Nat}, k ≤ 9 → k' ≤ 9 → (k = 0 ∨ c.tmod 10 ≠ 0) → (k' = 0 ∨ c'.tmod 10 ≠ 0) → flatN c k = flatN c' k' → k ≤ k' → c = c' ∧ k = k' := by
  intro k k' hk hk' h1 h2 he hle
  unfold flatN at he
  rw [show 9 - k = (k' - k) + (9 - k') by omega, Int.pow_add, ← Int.mul_assoc] at he
  have hp := p10_pos (9 - k')
  have he := Int.eq_of_mul_eq_mul_right (by omega) he
  by_cases e : k = k'
  · subst e
    simp at he
    exact ⟨he, rfl⟩
  · exfalso
    obtain ⟨j, hj⟩ : ∃ j, k' - k = j + 1 := ⟨k' - k - 1, by omega⟩
    rw [hj, Int.pow_succ, ← Int.mul_assoc] at he
    have hd : (10 : Int) ∣ c' := ⟨c * 10 ^ j, by rw [← he, Int.mul_comm]⟩
    exact h2.resolve_left (by omega) (Int.tmod_eq_zero_of_dvd hd)

theorem num_inj {c c' : Int} {k k' : Nat} (h : numIs c k = true) (h' : numIs c' k' = true) (he : flatN c k = flatN c' k') : c = c' ∧ k = k' := by
  simp only [numIs, Bool.and_eq_true, Bool.or_eq_true, decide_eq_true_eq, beq_iff_eq, bne_iff_ne] at h h'
  have a1 : k = 0 ∨ c.tmod 10 ≠ 0 := by rcases h.2 with g | g; exact .inl (by omega); exact .inr g
  have a2 : k' = 0 ∨ c'.tmod 10 ≠ 0 := by rcases h'.2 with g | g; exact .inl (by omega); exact .inr g
  by_cases hle : k ≤ k'
  · exact flat_inj (by omega) (by omega) a1 a2 he hle
  · obtain ⟨e1, e2⟩ := flat_inj (k := k') (k' := k) (by omega) (by omega) a2 a1 he.symm (by omega)
    exact ⟨e1.symm, e2.symm⟩
end Go.Pe.T

namespace Go.Pe.T

def madeT (c : Int) (k : Nat) : PV := if makeOk c k then .tup [.d (numD (stripN c k).1 (stripN c k).2), .d (iv 0)] else .tup [.d (numD 0 0), .d (iv 8)]

theorem tdiv10 {c : Int} (hc : i64 c) (h : c.tmod 10 = 0) : i64 (c.tdiv 10) := by
  have := Int.mul_tdiv_add_tmod c 10
  unfold i64 at *
  omega

def MkLoop (c : Int) (k : Nat) : Prop :=
  V (F tab) r54_B0 (r54_S0 (.d (iv c)) (.d (iv k)) (.ibox [.d (iv 0), .d (iv 0)]) []) = some (.norm, r54_E0 (.d (iv (stripN c k).1)) (.d (iv (stripN c k).2)) (.ibox [.d (iv 0), .d (iv 0)]) [])

theorem mk_end (c : Int) : MkLoop c 0 := by
  unfold MkLoop
  have h1 : ((0 : Int) > 0) = False := eq_false (by omega)
  have h2 : (((0 : Nat) : Int) > 0) = False := eq_false (by omega)
  rw [r54_B0_eq, stripN]
  simp (disch := omega) only [go_sem, and_self, and_true, true_and, false_and, and_false, Nat.reduceAdd, Nat.reduceMul, Nat.reduceSub, Nat.reduceLeDiff, Nat.reduceLT, Nat.reduceGT, Nat.reduceEqDiff, Nat.reduceBEq, Int.reduceNeg, Int.reduceEq, Int.reduceLT, Int.reduceLE, Int.reduceBEq, Int.reduceToNat, Int.toNat_natCast, Int.natCast_zero, r54_C0, h1, h2]
theorem mk_stop (c : Int) (k : Nat) (h : c.tmod 10 ≠ 0) : MkLoop c (k + 1) := by
  unfold MkLoop
  have h1 : (((k + 1 : Nat) : Int) > 0) = True := eq_true (by omega)
  have h2 : (c.tmod 10 == 0) = false := by simpa using h
  have h3 : ((10 : Int) = 0) = False := eq_false (by omega)
  rw [r54_B0_eq, stripN, if_neg h]
  simp (disch := omega) only [go_sem, and_self, and_true, true_and, false_and, and_false, Nat.reduceAdd, Nat.reduceMul, Nat.reduceSub, Nat.reduceLeDiff, Nat.reduceLT, Nat.reduceGT, Nat.reduceEqDiff, Nat.reduceBEq, Int.reduceNeg, Int.reduceEq, Int.reduceLT, Int.reduceLE, Int.reduceBEq, Int.reduceToNat, Int.toNat_natCast, Int.natCast_zero, r54_C0, h1, h2, h3]
theorem mk_step (c : Int) (k : Nat) (hc : i64 c) (hk : k ≤ 100) (h : c.tmod 10 = 0) (ih : MkLoop (c.tdiv 10) k) : MkLoop c (k + 1) := by
  unfold MkLoop
  have h1 : (((k + 1 : Nat) : Int) > 0) = True := eq_true (by omega)
  have h2 : (c.tmod 10 == 0) = true := by simpa using h
  have h3 : ((10 : Int) = 0) = False := eq_false (by omega)
  have h4 : ((k + 1 : Nat) : Int) - 1 = (k : Int) := by omega
  have hd := tdiv10 hc h
  have w1 : IntKind.i64.wrap (c.tdiv 10) = c.tdiv 10 := w64 hd
  unfold MkLoop at ih
  rw [r54_B0_eq, stripN, if_pos h]
  simp (disch := omega) only [go_sem, and_self, and_true, true_and, false_and, and_false, Nat.reduceAdd, Nat.reduceMul, Nat.reduceSub, Nat.reduceLeDiff, Nat.reduceLT, Nat.reduceGT, Nat.reduceEqDiff, Nat.reduceBEq, Int.reduceNeg, Int.reduceEq, Int.reduceLT, Int.reduceLE, Int.reduceBEq, Int.reduceToNat, Int.toNat_natCast, Int.natCast_zero, r54_C0, h1, h2, h3, h4, w1, w64]
  exact ih
theorem mk_loop : ∀ (k : Nat) (c : Int), i64 c → k ≤ 100 → MkLoop c k
  | 0, c, _, _ => mk_end c
  | k + 1, c, hc, hk => by
    by_cases h : c.tmod 10 = 0
    · exact mk_step c k hc (by omega) h (mk_loop k _ (tdiv10 hc h) (by omega))
    · exact mk_stop c k h

theorem make_ok (c : Int) (k : Nat) (hc : i64 c) (hk : k ≤ 30) (hp : List Ent) : F tab 54 [.d (iv c), .d (iv k)] hp = some (.ret (madeT c k) hp) := by
  have hL := mk_loop k c hc (by omega)
  unfold MkLoop at hL
  have hI := numIs_ok (stripN c k).1 (stripN c k).2
  have h1 : ((k : Int) < 0) = False := eq_false (by omega)
  have h2 : ((k : Int) > 30) = False := eq_false (by omega)
  refine f54 rfl ?_
  simp (disch := omega) only [go_sem, and_self, and_true, true_and, false_and, and_false, Nat.reduceAdd, Nat.reduceMul, Nat.reduceSub, Nat.reduceLeDiff, Nat.reduceLT, Nat.reduceGT, Nat.reduceEqDiff, Nat.reduceBEq, Int.reduceNeg, Int.reduceEq, Int.reduceLT, Int.reduceLE, Int.reduceBEq, Int.reduceToNat, Int.toNat_natCast, Int.natCast_zero, r54_T, r54, h1, h2]
  rw [r54_B0_n]
  erw [hL]
  unfold madeT
  have e : makeOk c k = numIs (stripN c k).1 (stripN c k).2 := rfl
  rcases Bool.eq_false_or_eq_true (numIs (stripN c k).1 (stripN c k).2) with g | g
  · rw [e, g]
    simp (disch := omega) only [go_sem, and_self, and_true, true_and, false_and, and_false, Nat.reduceAdd, Nat.reduceMul, Nat.reduceSub, Nat.reduceLeDiff, Nat.reduceLT, Nat.reduceGT, Nat.reduceEqDiff, Nat.reduceBEq, Int.reduceNeg, Int.reduceEq, Int.reduceLT, Int.reduceLE, Int.reduceBEq, Int.reduceToNat, Int.toNat_natCast, Int.natCast_zero, hI, g]
  · rw [e, g]
    simp (disch := omega) only [go_sem, and_self, and_true, true_and, false_and, and_false, Nat.reduceAdd, Nat.reduceMul, Nat.reduceSub, Nat.reduceLeDiff, Nat.reduceLT, Nat.reduceGT, Nat.reduceEqDiff, Nat.reduceBEq, Int.reduceNeg, Int.reduceEq, Int.reduceLT, Int.reduceLE, Int.reduceBEq, Int.reduceToNat, Int.toNat_natCast, Int.natCast_zero, hI, g]

end Go.Pe.T

namespace Go.Pe.T

theorem strip_idem (T : Int) (k : Nat) : stripN (stripN T k).1 (stripN T k).2 = stripN T k := by
  obtain ⟨_, _, h3⟩ := strip_val k T
  rw [strip_self _ _ h3]

theorem made_idem (T : Int) (k : Nat) : madeT (stripN T k).1 (stripN T k).2 = madeT T k := by
  unfold madeT makeOk
  rw [strip_idem]

theorem join_tail (W Q : Int) (s : Nat) (T : Int) (hs : s ≤ 9) (hT : stripN T 9 = (W * 10 ^ s + Q, s))
    (h1 : W ≥ (1000000000000000 : Int).tdiv (10 ^ s) + 1 → makeOk T 9 = false) (h2 : W ≤ (-1000000000000000 : Int).tdiv (10 ^ s) - 1 → makeOk T 9 = false)
    (h3 : ¬ W ≥ (1000000000000000 : Int).tdiv (10 ^ s) + 1 → ¬ W ≤ (-1000000000000000 : Int).tdiv (10 ^ s) - 1 → -2000000000000000 < W * 10 ^ s ∧ W * 10 ^ s < 2000000000000000 ∧ -1000000000 < Q ∧ Q < 1000000000) :
    (-1000000000000002 < (1000000000000000 : Int).tdiv (10 ^ s) ∧ (1000000000000000 : Int).tdiv (10 ^ s) < 1000000000000002) ∧ (-1000000000000002 < (-1000000000000000 : Int).tdiv (10 ^ s) ∧ (-1000000000000000 : Int).tdiv (10 ^ s) < 1000000000000002) ∧
    madeT (W * 10 ^ s + Q) s = madeT T 9 := by
  refine ⟨?_, ?_, ?_⟩
  · have := Int.natAbs_tdiv_le_natAbs 1000000000000000 (10 ^ s)
    omega
  · have := Int.natAbs_tdiv_le_natAbs (-1000000000000000) (10 ^ s)
    omega
  · have := made_idem T 9
    rw [hT] at this
    exact this

end Go.Pe.T

namespace Go.Pe.T

theorem made_yes {c : Int} {k : Nat} (h : makeOk c k = true) : madeT c k = .tup [.d (.agg [iv (stripN c k).1, iv (stripN c k).2]), .d (iv 0)] := by
  unfold madeT; rw [h]; rfl
theorem made_no {c : Int} {k : Nat} (h : makeOk c k = false) : madeT c k = .tup [.d (.agg [iv 0, iv 0]), .d (iv 8)] := by
  unfold madeT; rw [h]; rfl

theorem numIs_neg (c k : Int) : numIs (0 - c) k = numIs c k := by
  have e : (0 - c).tmod 10 = -(c.tmod 10) := by rw [Int.zero_sub, Int.neg_tmod]
  have e2 : ((0 - c).tmod 10 != 0) = (c.tmod 10 != 0) := by
    rw [e, Bool.eq_iff_iff]
    simp only [bne_iff_ne]
    omega
  have e3 : decide (-1000000000000000 < 0 - c) = decide (c < 1000000000000000) := by by_cases h : c < 1000000000000000 <;> simp [h] <;> omega
  have e4 : decide (0 - c < 1000000000000000) = decide (-1000000000000000 < c) := by by_cases h : -1000000000000000 < c <;> simp [h] <;> omega
  unfold numIs
  rw [e2, e3, e4]
  cases decide (0 ≤ k) <;> cases decide (k ≤ 9) <;> cases decide (c < 1000000000000000) <;> cases decide (-1000000000000000 < c) <;> rfl

theorem flat_neg (c : Int) (k : Nat) : flatN (0 - c) k = -flatN c k := by unfold flatN; rw [Int.zero_sub, Int.neg_mul]

theorem sgn_zero {a b : Int} : sgn a b = 0 ↔ a = b := by
  unfold sgn; split
  · omega
  · split <;> omega
theorem sgn_le {a b : Int} : sgn a b ≤ 0 ↔ a ≤ b := by
  unfold sgn; split
  · omega
  · split <;> omega
theorem sgn_lt {a b : Int} : sgn a b < 0 ↔ a < b := by
  unfold sgn; split
  · omega
  · split <;> omega
theorem sgn_sub (a b : Int) : sgn (a - b) 0 = sgn a b := by
  unfold sgn; split <;> split <;> (try split) <;> (try split) <;> omega
end Go.Pe.T

namespace Go.Pe.T
end Go.Pe.T

namespace Go.Pe.T

abbrev dl (l : List Int) : D := .sl (l.map iv)
abbrev longD (neg : Bool) (l : List Int) : D := .agg [.bool neg, .sl (l.map iv)]

theorem dl_all (l : List Int) : (l.map iv).all (fun y => y.width == 1) = true := by
  rw [List.all_eq_true]
  intro y hy
  obtain ⟨n, _, rfl⟩ := List.mem_map.1 hy
  rfl
theorem dl_get {l : List Int} {i : Nat} {d : Int} (h : l[i]? = some d) : (l.map iv)[i]? = some (iv d) := by rw [List.getElem?_map, h]; rfl
theorem cut_dl (l : List Int) (n : Nat) : cutD (l.map iv) 0 (n : Int) = (l.take n).map iv := by
  simp [cutD]

def trimN (l : List Int) : Nat → Nat
  | 0 => 0
  | n + 1 => if l[n]? = some 0 then trimN l n else n + 1
def trimL (l : List Int) : List Int := l.take (trimN l l.length)

theorem trimN_le (l : List Int) : ∀ n, trimN l n ≤ n
  | 0 => Nat.le_refl _
  | n + 1 => by
    unfold trimN
    split
    · have := trimN_le l n; omega
    · exact Nat.le_refl _

end Go.Pe.T

namespace Go.Pe.T


def shiftL (l : List Int) (n : Nat) : List Int := trimL (List.replicate n 0 ++ l)

def digs (n : Nat) : List Int := if n = 0 then [] else ((n % 10 : Nat) : Int) :: digs (n / 10)
  termination_by n
  decreasing_by omega

def rowP : List Int → PV
  | [] => .nilsl
  | x :: l => .own 3 (iv x :: l.map iv)

theorem digs_len : ∀ (k n : Nat), n < 10 ^ k → (digs n).length ≤ k
  | 0, n, h => by
    have : n = 0 := by simpa using h
    subst this
    rw [digs]; simp
  | k + 1, n, h => by
    rw [digs]
    split
    · simp
    · have := digs_len k (n / 10) (by rw [Nat.pow_succ] at h; omega)
      simp only [List.length_cons]
      omega

end Go.Pe.T

namespace Go.Pe.T


def digit (d : Int) : Prop := 0 ≤ d ∧ d ≤ 9
def Digs (l : List Int) : Prop := ∀ d ∈ l, digit d

def sumL (a b : List Int) (c : Int) : Nat → List Int
  | 0 => []
  | k + 1 => if a = [] ∧ b = [] ∧ c ≤ 0 then [] else ((c + a.headD 0 + b.headD 0) % 10) :: sumL a.tail b.tail ((c + a.headD 0 + b.headD 0) / 10) k

theorem drop_head {l : List Int} {i : Nat} : (l.drop i).headD 0 = (l[i]?).getD 0 := by
  rw [List.headD_eq_head?_getD, List.head?_drop]
theorem drop_tail' {l : List Int} {i : Nat} : (l.drop i).tail = l.drop (i + 1) := by simp

end Go.Pe.T

namespace Go.Pe.T

def lessL : List Int → List Int → Int → List Int
  | [], _, _ => []
  | x :: a, b, o => if x - o - b.headD 0 < 0 then (x - o - b.headD 0 + 10) :: lessL a b.tail 1 else (x - o - b.headD 0) :: lessL a b.tail 0

def aboveN (a b : List Int) : Nat → Bool
  | 0 => true
  | n + 1 => if (a[n]?).getD 0 = (b[n]?).getD 0 then aboveN a b n else decide ((a[n]?).getD 0 > (b[n]?).getD 0)

def aboveL (a b : List Int) : Bool := if a.length = b.length then aboveN a b a.length else decide (a.length > b.length)

theorem aboveN_same (a b : List Int) : ∀ n, (¬ ∃ i, i < n ∧ (a[i]?).getD 0 ≠ (b[i]?).getD 0) → aboveN a b n = true
  | 0, _ => rfl
  | n + 1, h => by
    have h1 : (a[n]?).getD 0 = (b[n]?).getD 0 := Classical.byContradiction fun hn => h ⟨n, by omega, hn⟩
    rw [aboveN, if_pos h1]
    exact aboveN_same a b n fun ⟨i, h2, h3⟩ => h ⟨i, by omega, h3⟩

end Go.Pe.T

namespace Go.Pe.T


def val : List Int → Int
  | [] => 0
  | d :: l => d + 10 * val l

theorem Digs.cons {d : Int} {l : List Int} (h : Digs (d :: l)) : digit d ∧ Digs l := ⟨h d (by simp), fun x hx => h x (by simp [hx])⟩
theorem Digs.nil : Digs [] := fun _ h => by simp at h
theorem Digs.mk {d : Int} {l : List Int} (h : digit d) (k : Digs l) : Digs (d :: l) := fun x hx => by
  rcases List.mem_cons.1 hx with rfl | hx
  · exact h
  · exact k x hx
theorem Digs.tail {l : List Int} (h : Digs l) : Digs l.tail := fun x hx => h x (List.mem_of_mem_tail hx)
theorem Digs.headD {l : List Int} (h : Digs l) : digit (l.headD 0) := by
  cases l with
  | nil => exact ⟨by simp, by simp⟩
  | cons d l => exact h.cons.1

theorem val_bound : ∀ {l : List Int}, Digs l → 0 ≤ val l ∧ val l < 10 ^ l.length
  | [], _ => by simp [val]
  | d :: l, h => by
    obtain ⟨h1, h2⟩ := h.cons
    obtain ⟨i1, i2⟩ := val_bound h2
    unfold digit at h1
    simp only [val, List.length_cons, Int.pow_succ]
    omega

theorem val_head (l : List Int) : val l = l.headD 0 + 10 * val l.tail := by
  cases l <;> simp [val]

theorem val_append : ∀ (a b : List Int), val (a ++ b) = val a + 10 ^ a.length * val b
  | [], b => by simp [val]
  | d :: a, b => by
    simp only [List.cons_append, val, val_append a b, List.length_cons, Int.pow_succ]
    rw [Int.mul_add, Int.mul_comm ((10 : Int) ^ a.length) 10, Int.mul_assoc]
    omega

theorem val_rep : ∀ (n : Nat) (l : List Int), val (List.replicate n 0 ++ l) = 10 ^ n * val l
  | 0, l => by simp
  | n + 1, l => by
    simp only [List.replicate_succ, List.cons_append, val, val_rep n l, Int.pow_succ]
    rw [Int.mul_comm ((10 : Int) ^ n) 10, Int.mul_assoc]
    omega

theorem sum_val : ∀ (k : Nat) (a b : List Int) (c : Int), Digs a → Digs b → 0 ≤ c → c ≤ 1 → max a.length b.length + 1 < k → val (sumL a b c k) = val a + val b + c ∧ Digs (sumL a b c k) ∧ (sumL a b c k).length ≤ max a.length b.length + 1
  | 0, a, b, c, _, _, _, _, hk => by omega
  | k + 1, a, b, c, ha, hb, h0, h1, hk => by
    unfold sumL
    split
    · rename_i h
      obtain ⟨rfl, rfl, h2⟩ := h
      exact ⟨by simp [val]; omega, Digs.nil, by simp⟩
    · rename_i h
      have da := ha.headD
      have db := hb.headD
      have ea := val_head a
      have eb := val_head b
      unfold digit at da db
      have hlen : max a.tail.length b.tail.length + 1 < k ∨ (a = [] ∧ b = []) := by
        cases a <;> cases b <;> simp at hk ⊢ <;> omega
      rcases hlen with hlen | ⟨rfl, rfl⟩
      · obtain ⟨i1, i2, i3⟩ := sum_val k a.tail b.tail ((c + a.headD 0 + b.headD 0) / 10) ha.tail hb.tail (by omega) (by omega) hlen
        refine ⟨?_, Digs.mk ⟨by omega, by omega⟩ i2, ?_⟩
        · simp only [val, i1]; omega
        · simp only [List.length_cons, List.length_tail] at i3 ⊢
          by_cases hz : a.length = 0 ∧ b.length = 0
          · have e1 : a = [] := List.eq_nil_of_length_eq_zero hz.1
            have e2 : b = [] := List.eq_nil_of_length_eq_zero hz.2
            subst e1 e2
            simp at h ⊢
            have : c = 1 := by omega
            subst this
            cases k with
            | zero => simp [sumL]
            | succ k => simp [sumL]
          · omega
      · simp at h
        have : c = 1 := by omega
        subst this
        cases k with
        | zero => simp at hk
        | succ k => simp [sumL, val, Digs, digit]

theorem less_val : ∀ (a b : List Int) (o : Int), Digs a → Digs b → 0 ≤ o → o ≤ 1 → b.length ≤ a.length → (∃ f : Int, 0 ≤ f ∧ f ≤ 1 ∧ val (lessL a b o) = val a - val b - o + f * 10 ^ a.length) ∧ Digs (lessL a b o) ∧ (lessL a b o).length = a.length
  | [], b, o, ha, hb, h0, h1, hl => by
    have : b = [] := List.eq_nil_of_length_eq_zero (by simpa using hl)
    subst this
    exact ⟨⟨o, h0, h1, by simp [lessL, val]; omega⟩, Digs.nil, rfl⟩
  | x :: a, b, o, ha, hb, h0, h1, hl => by
    have db := hb.headD
    have eb := val_head b
    obtain ⟨dx, da⟩ := ha.cons
    unfold digit at db dx
    have hl' : b.tail.length ≤ a.length := by simp at hl ⊢; omega
    unfold lessL
    split
    · obtain ⟨⟨f, f0, f1, i1⟩, i2, i3⟩ := less_val a b.tail 1 da hb.tail (by omega) (by omega) hl'
      refine ⟨⟨f, f0, f1, ?_⟩, Digs.mk ⟨by omega, by omega⟩ i2, by simp [i3]⟩
      simp only [val, i1, List.length_cons, Int.pow_succ]
      rw [← Int.mul_assoc]
      omega
    · obtain ⟨⟨f, f0, f1, i1⟩, i2, i3⟩ := less_val a b.tail 0 da hb.tail (by omega) (by omega) hl'
      refine ⟨⟨f, f0, f1, ?_⟩, Digs.mk ⟨by omega, by omega⟩ i2, by simp [i3]⟩
      simp only [val, i1, List.length_cons, Int.pow_succ]
      rw [← Int.mul_assoc]
      omega

theorem less_exact {a b : List Int} (ha : Digs a) (hb : Digs b) (hl : b.length ≤ a.length) (h : val b ≤ val a) : val (lessL a b 0) = val a - val b := by
  obtain ⟨⟨f, f0, f1, i1⟩, i2, i3⟩ := less_val a b 0 ha hb (by omega) (by omega) hl
  have h1 := val_bound i2
  rw [i3] at h1
  have h2 := (val_bound hb).1
  have h3 : f = 0 := by
    by_cases hf : f = 0
    · exact hf
    · have : f = 1 := by omega
      subst this
      omega
  subst h3
  omega

theorem trim_val (l : List Int) : ∀ n, n ≤ l.length → val (l.take (trimN l n)) = val (l.take n) ∧ (∀ d, (l.take (trimN l n)).getLast? = some d → d ≠ 0)
  | 0, _ => by simp [trimN]
  | n + 1, hn => by
    have hg : l[n]? = some l[n] := List.getElem?_eq_getElem (by omega)
    have ht : l.take (n + 1) = l.take n ++ [l[n]] := by rw [List.take_add_one, hg]; rfl
    unfold trimN
    split
    · rename_i h
      obtain ⟨i1, i2⟩ := trim_val l n (by omega)
      refine ⟨?_, i2⟩
      rw [i1, ht, val_append]
      rw [hg] at h
      simp only [Option.some.injEq] at h
      simp [h, val]
    · rename_i h
      refine ⟨rfl, ?_⟩
      intro d hd
      rw [ht, List.getLast?_concat] at hd
      simp only [Option.some.injEq] at hd
      subst hd
      intro e
      exact h (by rw [hg, e])

theorem trimL_val (l : List Int) : val (trimL l) = val l := by
  have := (trim_val l l.length (Nat.le_refl _)).1
  rwa [List.take_length] at this
theorem trimL_top (l : List Int) : ∀ d, (trimL l).getLast? = some d → d ≠ 0 := (trim_val l l.length (Nat.le_refl _)).2
theorem trimL_digs {l : List Int} (h : Digs l) : Digs (trimL l) := fun d hd => h d (List.mem_of_mem_take hd)
theorem trimL_len (l : List Int) : (trimL l).length = trimN l l.length := by
  have := trimN_le l l.length
  simp [trimL]; omega
end Go.Pe.T

namespace Go.Pe.T


def Top (l : List Int) : Prop := Digs l ∧ ∀ d, l.getLast? = some d → d ≠ 0

theorem top_bound : ∀ {l : List Int}, Top l → l ≠ [] → 10 ^ (l.length - 1) ≤ val l
  | [], _, h => absurd rfl h
  | [d], h, _ => by
    have h1 := h.2 d (by simp)
    have h2 := h.1.cons.1
    unfold digit at h2
    simp [val]; omega
  | d :: e :: l, h, _ => by
    have h2 := h.1.cons
    have ih := top_bound (l := e :: l) ⟨h2.2, fun x hx => h.2 x (by simpa [List.getLast?_cons_cons] using hx)⟩ (by simp)
    have h3 := h2.1
    unfold digit at h3
    have e1 : (d :: e :: l).length - 1 = ((e :: l).length - 1) + 1 := by simp
    rw [e1, Int.pow_succ]
    have e2 : val (d :: e :: l) = d + 10 * val (e :: l) := rfl
    rw [e2]
    omega

theorem val_take {a : List Int} {n : Nat} (h : n < a.length) : val (a.take (n + 1)) = val (a.take n) + 10 ^ n * a[n] := by
  have hg : a[n]? = some a[n] := List.getElem?_eq_getElem h
  have ht : a.take (n + 1) = a.take n ++ [a[n]] := by rw [List.take_add_one, hg]; rfl
  rw [ht, val_append]
  simp [val, List.length_take, Nat.min_eq_left (Nat.le_of_lt h)]

theorem Digs.take {l : List Int} (h : Digs l) (n : Nat) : Digs (l.take n) := fun d hd => h d (List.mem_of_mem_take hd)

theorem aboveN_val {a b : List Int} (ha : Digs a) (hb : Digs b) (he : a.length = b.length) : ∀ n, n ≤ a.length → (aboveN a b n = true ↔ val (b.take n) ≤ val (a.take n))
  | 0, _ => by simp [aboveN, val]
  | n + 1, hn => by
    have hb' : n < b.length := by omega
    have ha' : n < a.length := by omega
    have wa : (a[n]?).getD 0 = a[n] := by simp [ha']
    have wb : (b[n]?).getD 0 = b[n] := by simp [hb']
    have ia := val_bound (ha.take n)
    have ib := val_bound (hb.take n)
    rw [List.length_take, Nat.min_eq_left (by omega)] at ia ib
    rw [aboveN, wa, wb, val_take ha', val_take hb']
    split
    · rename_i h
      rw [aboveN_val ha hb he n (by omega), h]
      omega
    · rename_i h
      simp only [decide_eq_true_eq]
      constructor
      · intro h1
        have : (10 : Int) ^ n * (b[n] + 1) ≤ 10 ^ n * a[n] := Int.mul_le_mul_of_nonneg_left (by omega) (by omega)
        rw [Int.mul_add] at this
        omega
      · intro h1
        by_cases h2 : a[n] > b[n]
        · exact h2
        · exfalso
          have : (10 : Int) ^ n * (a[n] + 1) ≤ 10 ^ n * b[n] := Int.mul_le_mul_of_nonneg_left (by omega) (by omega)
          rw [Int.mul_add] at this
          omega

theorem aboveL_val {a b : List Int} (ha : Top a) (hb : Top b) : aboveL a b = decide (val b ≤ val a) ∧ (aboveL a b = true → b.length ≤ a.length) ∧ (aboveL a b = false → a.length ≤ b.length) := by
  unfold aboveL
  split
  · rename_i he
    have h := aboveN_val ha.1 hb.1 he a.length (Nat.le_refl _)
    rw [List.take_length, he, List.take_length] at h
    refine ⟨?_, fun _ => by omega, fun _ => by omega⟩
    rw [he]
    cases hx : aboveN a b b.length with
    | true => exact (decide_eq_true (h.1 hx)).symm
    | false =>
      refine (decide_eq_false fun hle => ?_).symm
      rw [h.2 hle] at hx
      simp at hx
  · rename_i he
    refine ⟨?_, fun h => by simp at h; omega, fun h => by simp at h; omega⟩
    by_cases hg : a.length > b.length
    · have h1 := top_bound ha (by intro e; subst e; simp at hg)
      have h2 := (val_bound hb.1).2
      have h3 := p10_mono (show b.length ≤ a.length - 1 by omega)
      have : val b ≤ val a := by omega
      simp [hg, this]
    · have h1 := top_bound hb (by intro e; subst e; simp at hg he; exact he hg)
      have h2 := (val_bound ha.1).2
      have h3 := p10_mono (show a.length ≤ b.length - 1 by omega)
      have : ¬ val b ≤ val a := by omega
      simp [hg, this]
end Go.Pe.T

namespace Go.Pe.T


def trimmed (neg : Bool) (l : List Int) : D := longD (neg && trimN l l.length != 0) (trimL l)

def plusD (na : Bool) (a : List Int) (nb : Bool) (b : List Int) : D :=
  if na = nb then trimmed na (sumL a b 0 (max a.length b.length + 2))
  else if aboveL a b then trimmed na (lessL a b 0) else trimmed nb (lessL b a 0)

theorem trimmed_shape (neg : Bool) (l : List Int) : trimmed neg l = .agg [.bool (neg && trimN l l.length != 0), .sl ((trimL l).map iv)] := rfl

def atL (c : Int) (k : Nat) : List Int := shiftL (digs c.natAbs) k
def atN (c : Int) (k : Nat) : Bool := decide (c < 0) && trimN (List.replicate k 0 ++ digs c.natAbs) (k + (digs c.natAbs).length) != 0

end Go.Pe.T

namespace Go.Pe.T

theorem digs_val (n : Nat) : val (digs n) = n ∧ Digs (digs n) := by
  induction n using Nat.strongRecOn with
  | _ n ih =>
    rw [digs]
    split
    · rename_i h; subst h; exact ⟨by simp [val], Digs.nil⟩
    · obtain ⟨i1, i2⟩ := ih (n / 10) (by omega)
      refine ⟨?_, Digs.mk ⟨by omega, by omega⟩ i2⟩
      simp only [val, i1]
      omega

theorem rep_digs {l : List Int} (h : Digs l) (n : Nat) : Digs (List.replicate n 0 ++ l) := fun d hd => by
  rcases List.mem_append.1 hd with hd | hd
  · obtain rfl := (List.mem_replicate.1 hd).2
    exact ⟨by omega, by omega⟩
  · exact h d hd

theorem trimN_zero {l : List Int} (h : Digs l) : trimN l l.length = 0 ↔ val l = 0 := by
  have h1 := trimL_val l
  have h2 := trimL_len l
  constructor
  · intro e
    rw [e] at h2
    have : trimL l = [] := List.eq_nil_of_length_eq_zero h2
    rw [this] at h1
    exact h1.symm
  · intro e
    have ht : Top (trimL l) := ⟨trimL_digs h, trimL_top l⟩
    by_cases hn : trimL l = []
    · rw [← h2, hn]; rfl
    · have := top_bound ht hn
      have hp := p10_pos ((trimL l).length - 1)
      rw [h1] at this
      omega

theorem at_top (c : Int) (k : Nat) : Top (atL c k) ∧ val (atL c k) = 10 ^ k * (c.natAbs : Int) ∧ atN c k = decide (c < 0) := by
  obtain ⟨d1, d2⟩ := digs_val c.natAbs
  have h1 := rep_digs d2 k
  have hv : val (atL c k) = 10 ^ k * (c.natAbs : Int) := by unfold atL shiftL; rw [trimL_val, val_rep, d1]
  refine ⟨⟨trimL_digs h1, trimL_top _⟩, hv, ?_⟩
  unfold atN
  have hz := trimN_zero h1
  rw [val_rep, d1] at hz
  simp only [List.length_append, List.length_replicate] at hz
  by_cases hc : c < 0
  · have hne : (10 : Int) ^ k * (c.natAbs : Int) ≠ 0 := by
      have hp := p10_pos k
      have : 0 < (10 : Int) ^ k * (c.natAbs : Int) := Int.mul_pos hp (by omega)
      omega
    have : trimN (List.replicate k 0 ++ digs c.natAbs) (k + (digs c.natAbs).length) ≠ 0 := fun e => hne (hz.1 e)
    simp [hc, this]
  · simp [hc]

theorem at_len (c : Int) (k : Nat) (hk : k ≤ 9) (hc : -1000000000000000 < c ∧ c < 1000000000000000) : (atL c k).length ≤ 900 := by
  have e15 : (10 : Nat) ^ 15 = 1000000000000000 := by decide
  have d1 := digs_len 15 c.natAbs (by omega)
  unfold atL shiftL trimL
  simp only [List.length_take, List.length_append, List.length_replicate]
  omega

theorem sgn_scale {a b p : Int} (hp : 0 < p) : sgn (a * p) (b * p) = sgn a b := by
  unfold sgn
  have h1 : a * p < b * p ↔ a < b := ⟨fun h => Int.lt_of_mul_lt_mul_right h (by omega), fun h => Int.mul_lt_mul_of_pos_right h hp⟩
  have h2 : b * p < a * p ↔ b < a := ⟨fun h => Int.lt_of_mul_lt_mul_right h (by omega), fun h => Int.mul_lt_mul_of_pos_right h hp⟩
  simp only [gt_iff_lt, h1, h2]

def tells (neg : Bool) (v : Int) : Int := if v = 0 then 0 else if neg then -1 else 1

theorem plus_tells {na nb : Bool} {a b : List Int} (ha : Top a) (hb : Top b) : ∃ neg l, plusD na a nb b = trimmed neg l ∧ Digs l ∧ 
    tells neg (val l) = (let x := if na then - val a else val a; let y := if nb then val b else - val b; sgn x y) := by
  have h1 := (val_bound ha.1).1
  have h2 := (val_bound hb.1).1
  obtain ⟨g0, g1, g2⟩ := aboveL_val ha hb
  unfold plusD
  split
  · rename_i hn
    subst hn
    obtain ⟨s1, s2, _⟩ := sum_val (max a.length b.length + 2) a b 0 ha.1 hb.1 (by omega) (by omega) (by omega)
    refine ⟨na, _, rfl, s2, ?_⟩
    rw [s1]
    cases na <;> simp only [tells, sgn, Bool.false_eq_true, if_true, if_false] <;> split <;> split <;> (try split) <;> omega
  · rename_i hn
    split
    · rename_i hx
      have hle : val b ≤ val a := by rw [g0] at hx; simpa using hx
      obtain ⟨_, l2, _⟩ := less_val a b 0 ha.1 hb.1 (by omega) (by omega) (g1 hx)
      refine ⟨na, _, rfl, l2, ?_⟩
      rw [less_exact ha.1 hb.1 (g1 hx) hle]
      cases na <;> cases nb <;> simp at hn <;> simp only [tells, sgn, Bool.false_eq_true, if_true, if_false] <;> split <;> split <;> (try split) <;> omega
    · rename_i hx
      have hx' : aboveL a b = false := by simpa using hx
      have hle : val a ≤ val b := by rw [g0] at hx'; simp at hx'; omega
      obtain ⟨_, l2, _⟩ := less_val b a 0 hb.1 ha.1 (by omega) (by omega) (g2 hx')
      refine ⟨nb, _, rfl, l2, ?_⟩
      rw [less_exact hb.1 ha.1 (g2 hx') hle]
      cases na <;> cases nb <;> simp at hn <;> simp only [tells, sgn, Bool.false_eq_true, if_true, if_false] <;> split <;> split <;> (try split) <;> omega

end Go.Pe.T

namespace Go.Pe.T
def dropZ : Nat → List Int → List Int × Nat
  | 0, l => (l, 0)
  | k + 1, [] => ([], k + 1)
  | k + 1, d :: r => if d = 0 then dropZ k r else (d :: r, k + 1)
theorem dropZ_len : ∀ (k : Nat) (l : List Int), (dropZ k l).1.length ≤ l.length ∧ (dropZ k l).2 ≤ k
  | 0, l => ⟨Nat.le_refl _, Nat.le_refl _⟩
  | k + 1, [] => ⟨Nat.le_refl _, Nat.le_refl _⟩
  | k + 1, d :: r => by
    rw [dropZ]
    have := dropZ_len k r
    split
    · simp only [List.length_cons]; omega
    · exact ⟨Nat.le_refl _, Nat.le_refl _⟩
theorem dropZ_digs : ∀ (k : Nat) (l : List Int), Digs l → Digs (dropZ k l).1
  | 0, l, h => h
  | k + 1, [], h => h
  | k + 1, d :: r, h => by
    rw [dropZ]
    split
    · exact dropZ_digs k r h.cons.2
    · exact h

theorem cut_dl1 (l : List Int) (d : Int) : cutD ((d :: l).map iv) 1 ((l.length + 1 : Nat) : Int) = l.map iv := by
  simp only [cutD, Int.toNat_natCast]
  rw [List.take_of_length_le (by simp)]
  rfl

def numR (neg : Bool) (l : List Int) (k : Nat) : Int × Int × Bool :=
  let p := dropZ k (trimL l)
  if p.1 = [] then (0, 0, true) else if p.1.length > 15 ∨ p.2 > 9 then (0, 0, false) else (if neg then -val p.1 else val p.1, p.2, true)

theorem dropZ_top : ∀ (k : Nat) (l : List Int), dropZ k l = ([], (dropZ k l).2) ∨ (dropZ k l).1 ≠ [] := fun k l => by
  by_cases h : (dropZ k l).1 = []
  · exact .inl (by rw [← h])
  · exact .inr h

end Go.Pe.T

namespace Go.Pe.T
def sv (neg : Bool) (v : Int) : Int := if neg then -v else v

theorem Top.tail {d : Int} {r : List Int} (h : Top (d :: r)) : Top r := by
  refine ⟨h.1.cons.2, fun x hx => ?_⟩
  cases r with
  | nil => simp at hx
  | cons y r => exact h.2 x (by simpa [List.getLast?_cons_cons] using hx)
theorem Top.zero {r : List Int} (h : Top (0 :: r)) : r ≠ [] := by
  intro e
  subst e
  exact h.2 0 (by simp) rfl

theorem dropZ_strip : ∀ (k : Nat) (t : List Int), Top t → t ≠ [] → stripN (val t) k = (val (dropZ k t).1, (dropZ k t).2) ∧ Top (dropZ k t).1 ∧ (dropZ k t).1 ≠ []
  | 0, t, h, hn => ⟨rfl, h, hn⟩
  | k + 1, [], h, hn => absurd rfl hn
  | k + 1, d :: r, h, hn => by
    have hd := h.1 d (by simp)
    unfold digit at hd
    have hv : val (d :: r) = d + 10 * val r := rfl
    obtain ⟨b1, b2⟩ := val_bound h.1.cons.2
    have hm : (d + 10 * val r).tmod 10 = d := by
      rw [Int.tmod_eq_emod_of_nonneg (by omega)]; omega
    have hq : (d + 10 * val r).tdiv 10 = val r := by
      rw [Int.tdiv_eq_ediv_of_nonneg (by omega)]; omega
    rw [hv, stripN, dropZ, hm, hq]
    by_cases h0 : d = 0
    · subst h0
      rw [if_pos rfl, if_pos rfl]
      exact dropZ_strip k r h.tail h.zero
    · rw [if_neg h0, if_neg h0]
      exact ⟨by rw [hv], h, hn⟩

theorem strip_neg : ∀ (k : Nat) (c : Int), stripN (-c) k = (-(stripN c k).1, (stripN c k).2)
  | 0, c => rfl
  | k + 1, c => by
    rw [stripN, stripN, Int.neg_tmod, Int.neg_tdiv]
    by_cases h : c.tmod 10 = 0
    · rw [if_pos (by omega), if_pos h, strip_neg k]
    · rw [if_neg (by omega), if_neg h]
theorem strip_sv (neg : Bool) (k : Nat) (c : Int) : stripN (sv neg c) k = (sv neg (stripN c k).1, (stripN c k).2) := by
  cases neg with
  | true => exact strip_neg k c
  | false => rfl

def toldR (v : Int) (k : Nat) : Int × Int × Bool := if makeOk v k then ((stripN v k).1, (stripN v k).2, true) else (0, 0, false)

theorem numR_told (neg : Bool) (l : List Int) (hd : Digs l) (k : Nat) : numR neg l k = toldR (sv neg (val l)) k := by
  have hv := trimL_val l
  have ht : Top (trimL l) := ⟨trimL_digs hd, trimL_top l⟩
  rw [← hv]
  unfold numR toldR makeOk
  generalize trimL l = t at *
  rw [strip_sv]
  by_cases h0 : t = []
  · subst h0
    have e : (dropZ k ([] : List Int)).1 = [] := by cases k <;> rfl
    have v0 : val [] = 0 := rfl
    have s0 : sv neg 0 = 0 := by cases neg <;> rfl
    have n0 : numIs 0 ((0 : Nat) : Int) = true := by decide
    rw [if_pos e, v0, strip_zero, s0, n0]
    rfl
  · obtain ⟨e1, e2, e3⟩ := dropZ_strip k t ht h0
    have hz := (strip_val k (val t)).2.2
    rw [e1] at hz ⊢
    simp only at hz ⊢
    obtain ⟨b1, b2⟩ := val_bound e2.1
    have b3 := top_bound e2 e3
    generalize (dropZ k t).1 = m at *
    generalize (dropZ k t).2 = s at *
    rw [if_neg e3]
    have e15 : (10 : Int) ^ 15 = 1000000000000000 := by decide
    have hiff : m.length > 15 ↔ 1000000000000000 ≤ val m := by
      constructor
      · intro h
        have : (10 : Int) ^ 15 ≤ 10 ^ (m.length - 1) := p10_mono (by omega)
        omega
      · intro h
        apply Classical.byContradiction
        intro hc
        have : (10 : Int) ^ m.length ≤ 10 ^ 15 := p10_mono (by omega)
        omega
    by_cases hbad : m.length > 15 ∨ s > 9
    · rw [if_pos hbad]
      have hn : numIs (sv neg (val m)) s = false := by
        unfold numIs
        rcases hbad with h | h
        · have h1 := hiff.1 h
          cases neg with
          | true =>
            have : ¬ (-1000000000000000 < sv true (val m)) := by simp only [sv, if_true]; omega
            simp [this]
          | false =>
            have : ¬ (sv false (val m) < 1000000000000000) := by simp only [sv, Bool.false_eq_true, if_false]; omega
            simp [this]
        · have : ¬ ((s : Int) ≤ 9) := by omega
          simp [this]
      rw [hn]
      rfl
    · rw [if_neg hbad]
      have h1 : ¬ m.length > 15 := fun h => hbad (.inl h)
      have h2 : s ≤ 9 := by omega
      have h3 : val m < 1000000000000000 := by
        apply Classical.byContradiction
        intro hc
        exact h1 (hiff.2 (by omega))
      have hn : numIs (sv neg (val m)) s = true := by
        unfold numIs
        have g0 : (0 : Int) ≤ (s : Int) := by omega
        have g1 : (s : Int) ≤ 9 := by omega
        have g2 : -1000000000000000 < sv neg (val m) := by cases neg <;> simp only [sv, if_true, Bool.false_eq_true, if_false] <;> omega
        have g3 : sv neg (val m) < 1000000000000000 := by cases neg <;> simp only [sv, if_true, Bool.false_eq_true, if_false] <;> omega
        have g4 : ((s : Int) == 0 || (sv neg (val m)).tmod 10 != 0) = true := by
          rcases hz with hz | hz
          · simp [hz]
          · have : (sv neg (val m)).tmod 10 ≠ 0 := by
              cases neg with
              | true => simp only [sv, if_true, Int.neg_tmod]; omega
              | false => simpa only [sv, Bool.false_eq_true, if_false] using hz
            simp [this]
        simp only [g0, g1, g2, g3, decide_true, Bool.true_and, g4]
      rw [hn]
      rfl

theorem sv_trim (neg : Bool) (l : List Int) (hd : Digs l) : sv (neg && trimN l l.length != 0) (val (trimL l)) = sv neg (val l) := by
  rw [trimL_val]
  by_cases h : trimN l l.length = 0
  · rw [(trimN_zero hd).1 h]
    have z : ∀ b, sv b 0 = 0 := fun b => by cases b <;> rfl
    rw [z, z]
  · have : (trimN l l.length != 0) = true := by simp [h]
    rw [this, Bool.and_true]

theorem plus_val {na nb : Bool} {a b : List Int} (ha : Top a) (hb : Top b) (hla : a.length ≤ 900) (hlb : b.length ≤ 900) : ∃ neg l, plusD na a nb b = longD neg l ∧ Digs l ∧ l.length ≤ 1000 ∧ sv neg (val l) = sv na (val a) + sv nb (val b) := by
  have h1 := (val_bound ha.1).1
  have h2 := (val_bound hb.1).1
  obtain ⟨g0, g1, g2⟩ := aboveL_val ha hb
  unfold plusD trimmed
  have tl : ∀ l : List Int, (trimL l).length ≤ l.length := fun l => by unfold trimL; rw [List.length_take]; omega
  split
  · rename_i hn
    subst hn
    obtain ⟨s1, s2, s3⟩ := sum_val (max a.length b.length + 2) a b 0 ha.1 hb.1 (by omega) (by omega) (by omega)
    refine ⟨_, _, rfl, trimL_digs s2, by have := tl (sumL a b 0 (max a.length b.length + 2)); omega, ?_⟩
    rw [sv_trim _ _ s2, s1]
    cases na <;> simp only [sv, if_true, Bool.false_eq_true, if_false] <;> omega
  · rename_i hn
    split
    · rename_i hx
      have hle : val b ≤ val a := by rw [g0] at hx; simpa using hx
      obtain ⟨_, l2, l3⟩ := less_val a b 0 ha.1 hb.1 (by omega) (by omega) (g1 hx)
      refine ⟨_, _, rfl, trimL_digs l2, by have := tl (lessL a b 0); omega, ?_⟩
      rw [sv_trim _ _ l2, less_exact ha.1 hb.1 (g1 hx) hle]
      cases na <;> cases nb <;> simp at hn <;> simp only [sv, if_true, Bool.false_eq_true, if_false] <;> omega
    · rename_i hx
      have hx' : aboveL a b = false := by simpa using hx
      have hle : val a ≤ val b := by rw [g0] at hx'; simp at hx'; omega
      obtain ⟨_, l2, l3⟩ := less_val b a 0 hb.1 ha.1 (by omega) (by omega) (g2 hx')
      refine ⟨_, _, rfl, trimL_digs l2, by have := tl (lessL b a 0); omega, ?_⟩
      rw [sv_trim _ _ l2, less_exact hb.1 ha.1 (g2 hx') hle]
      cases na <;> cases nb <;> simp at hn <;> simp only [sv, if_true, Bool.false_eq_true, if_false] <;> omega

theorem strip_scale (v : Int) (m : Nat) : ∀ j : Nat, stripN (v * 10 ^ j) (m + j) = stripN v m
  | 0 => by simp
  | j + 1 => by
    have e : v * 10 ^ (j + 1) = v * 10 ^ j * 10 := by rw [Int.pow_succ, Int.mul_assoc]
    rw [← Nat.add_assoc, stripN, e, Int.mul_tmod_left, if_pos rfl, Int.mul_tdiv_cancel _ (by omega), strip_scale v m j]
theorem made_scale (v : Int) (m j : Nat) : madeT (v * 10 ^ j) (m + j) = madeT v m := by
  unfold madeT makeOk
  rw [strip_scale]

theorem sv_abs (c : Int) : sv (decide (c < 0)) (c.natAbs : Int) = c := by
  by_cases h : c < 0
  · simp only [h, decide_true, sv, if_true]; omega
  · simp only [h, decide_false, sv, Bool.false_eq_true, if_false]; omega
theorem sv_mul (neg : Bool) (p v : Int) : sv neg (p * v) = p * sv neg v := by
  cases neg <;> simp only [sv, if_true, Bool.false_eq_true, if_false, Int.mul_neg]
theorem sv_not (neg : Bool) (v : Int) : sv (!neg) v = -sv neg v := by
  cases neg <;> simp only [sv, Bool.not_true, Bool.not_false, if_true, Bool.false_eq_true, if_false, Int.neg_neg]

theorem flat_line (c c' : Int) (k k' : Nat) (hk : k ≤ 9) (hk' : k' ≤ 9) (s : Int) : madeT (c * 10 ^ (max k k' - k) + s * (c' * 10 ^ (max k k' - k'))) (max k k') = madeT (flatN c k + s * flatN c' k') 9 := by
  have e := made_scale (c * 10 ^ (max k k' - k) + s * (c' * 10 ^ (max k k' - k'))) (max k k') (9 - max k k')
  rw [← e, show max k k' + (9 - max k k') = 9 by omega]
  congr 1
  unfold flatN
  rw [Int.add_mul, Int.mul_assoc c, ← Int.pow_add, Int.mul_assoc s, Int.mul_assoc c', ← Int.pow_add, show max k k' - k + (9 - max k k') = 9 - k by omega, show max k k' - k' + (9 - max k k') = 9 - k' by omega]

section
variable (c c' : Int) (k k' : Nat) (hk : k ≤ 9) (hk' : k' ≤ 9) (hc : -1000000000000000 < c ∧ c < 1000000000000000) (hc' : -1000000000000000 < c' ∧ c' < 1000000000000000)
include hk hk' hc hc'

end
theorem made_ex (T : Int) (k : Nat) : ∃ x y b, madeT T k = .tup [.d (.agg [iv x, iv y]), .d (iv b)] := by
  rcases Bool.eq_false_or_eq_true (makeOk T k) with g | g
  · exact ⟨_, _, _, made_yes g⟩
  · exact ⟨_, _, _, made_no g⟩

end Go.Pe.T

namespace Go.Pe.T
abbrev u8D (b : UInt8) : D := .int .u8 (b.toNat : Int)
def chU (n : Nat) : UInt8 := UInt8.ofNat (48 + n % 10)
def decT (n : Nat) : List UInt8 := if n < 10 then [chU n] else decT (n / 10) ++ [chU n]
theorem decT_step (n : Nat) (h : ¬ n < 10) : decT n = decT (n / 10) ++ [chU n] := by rw [decT, if_neg h]
theorem decT_one (n : Nat) (h : n < 10) : decT n = [chU n] := by rw [decT, if_pos h]
theorem decT_len : ∀ (k n : Nat), n < 10 ^ (k + 1) → (decT n).length ≤ k + 1
  | 0, n, h => by rw [decT_one n (by simpa using h)]; simp
  | k + 1, n, h => by
    by_cases g : n < 10
    · rw [decT_one n g]; simp
    · rw [decT_step n g]
      have := decT_len k (n / 10) (by rw [Nat.pow_succ] at h; omega)
      simp only [List.length_append, List.length_singleton]; omega

theorem chU_get (n : Nat) : (⟨#[48, 49, 50, 51, 52, 53, 54, 55, 56, 57]⟩ : ByteArray)[n % 10]? = some (chU n) := by
  have h : n % 10 < 10 := by omega
  unfold chU
  generalize n % 10 = m at *
  have : ∀ m, m < 10 → (⟨#[48, 49, 50, 51, 52, 53, 54, 55, 56, 57]⟩ : ByteArray)[m]? = some (UInt8.ofNat (48 + m)) := by decide
  exact this m h

theorem bytes_opt (l : List UInt8) : optAll ((l.map u8D).map asByte) = some l := by
  induction l with
  | nil => rfl
  | cons b l ih =>
    simp only [List.map_cons, asByte, optAll, ih, Option.map_some]
    simp

def dgB (l : List UInt8) : List PV := List.replicate (20 - l.length) (.d (.int .u8 0)) ++ l.map fun b => .d (u8D b)
def dgD (l : List UInt8) : List D := List.replicate (20 - l.length) (.int .u8 0) ++ l.map u8D
theorem dgB_set (l : List UInt8) (b : UInt8) (h : l.length < 20) : (dgB l).set (19 - l.length) (.d (u8D b)) = dgB (b :: l) := by
  unfold dgB
  have e : 20 - l.length = (19 - l.length) + 1 := by omega
  rw [e, List.replicate_succ', List.append_assoc, List.set_append_right _ _ (by simp)]
  simp
theorem dgB_len (l : List UInt8) (h : l.length ≤ 20) : (dgB l).length = 20 := by unfold dgB; simp; omega
theorem dgB_opt (l : List UInt8) : optAll ((dgB l).map PV.toD) = some (dgD l) := by
  have e : dgB l = (dgD l).map PV.d := by unfold dgB dgD; simp
  rw [e]; exact optAll_d _
theorem dgD_len (l : List UInt8) (h : l.length ≤ 20) : (dgD l).length = 20 := by unfold dgD; simp; omega
theorem dgD_all (l : List UInt8) : (dgD l).all (fun d => !d.isAgg) = true := by
  unfold dgD
  simp only [List.all_eq_true]
  intro x hx
  rcases List.mem_append.1 hx with h | h
  · rw [List.eq_of_mem_replicate h]; rfl
  · obtain ⟨b, _, rfl⟩ := List.mem_map.1 h; rfl
theorem dgD_cut (l : List UInt8) (h : l.length ≤ 20) : cutD (dgD l) ((20 - l.length : Nat) : Int) 20 = l.map u8D := by
  simp only [cutD, Int.toNat_natCast]
  rw [List.take_of_length_le (by rw [dgD_len l h]; decide)]
  unfold dgD
  rw [List.drop_left' (by simp)]

def noughts (n : Nat) : ByteArray := ⟨(List.replicate n (48 : UInt8)).toArray⟩
theorem rep_ev0 : evF tab 300 53 [.d (.str ⟨#[48]⟩), .d (iv ((0 : Nat) : Int))] [] = some (.ret (.d (.str (noughts 0))) []) := by kernel_rfl
theorem rep_ev1 : evF tab 300 53 [.d (.str ⟨#[48]⟩), .d (iv ((1 : Nat) : Int))] [] = some (.ret (.d (.str (noughts 1))) []) := by kernel_rfl
theorem rep_ev2 : evF tab 300 53 [.d (.str ⟨#[48]⟩), .d (iv ((2 : Nat) : Int))] [] = some (.ret (.d (.str (noughts 2))) []) := by kernel_rfl
theorem rep_ev3 : evF tab 300 53 [.d (.str ⟨#[48]⟩), .d (iv ((3 : Nat) : Int))] [] = some (.ret (.d (.str (noughts 3))) []) := by kernel_rfl
theorem rep_ev4 : evF tab 300 53 [.d (.str ⟨#[48]⟩), .d (iv ((4 : Nat) : Int))] [] = some (.ret (.d (.str (noughts 4))) []) := by kernel_rfl
theorem rep_ev5 : evF tab 300 53 [.d (.str ⟨#[48]⟩), .d (iv ((5 : Nat) : Int))] [] = some (.ret (.d (.str (noughts 5))) []) := by kernel_rfl
theorem rep_ev6 : evF tab 300 53 [.d (.str ⟨#[48]⟩), .d (iv ((6 : Nat) : Int))] [] = some (.ret (.d (.str (noughts 6))) []) := by kernel_rfl
theorem rep_ev7 : evF tab 300 53 [.d (.str ⟨#[48]⟩), .d (iv ((7 : Nat) : Int))] [] = some (.ret (.d (.str (noughts 7))) []) := by kernel_rfl
theorem rep_ev8 : evF tab 300 53 [.d (.str ⟨#[48]⟩), .d (iv ((8 : Nat) : Int))] [] = some (.ret (.d (.str (noughts 8))) []) := by kernel_rfl
theorem rep_ev9 : evF tab 300 53 [.d (.str ⟨#[48]⟩), .d (iv ((9 : Nat) : Int))] [] = some (.ret (.d (.str (noughts 9))) []) := by kernel_rfl
theorem rep_ev10 : evF tab 300 53 [.d (.str ⟨#[48]⟩), .d (iv ((10 : Nat) : Int))] [] = some (.ret (.d (.str (noughts 10))) []) := by kernel_rfl
theorem rep_ev11 : evF tab 300 53 [.d (.str ⟨#[48]⟩), .d (iv ((11 : Nat) : Int))] [] = some (.ret (.d (.str (noughts 11))) []) := by kernel_rfl
theorem rep_ev12 : evF tab 300 53 [.d (.str ⟨#[48]⟩), .d (iv ((12 : Nat) : Int))] [] = some (.ret (.d (.str (noughts 12))) []) := by kernel_rfl
theorem rep_ev13 : evF tab 300 53 [.d (.str ⟨#[48]⟩), .d (iv ((13 : Nat) : Int))] [] = some (.ret (.d (.str (noughts 13))) []) := by kernel_rfl
theorem rep_ev14 : evF tab 300 53 [.d (.str ⟨#[48]⟩), .d (iv ((14 : Nat) : Int))] [] = some (.ret (.d (.str (noughts 14))) []) := by kernel_rfl
theorem rep_ev15 : evF tab 300 53 [.d (.str ⟨#[48]⟩), .d (iv ((15 : Nat) : Int))] [] = some (.ret (.d (.str (noughts 15))) []) := by kernel_rfl
theorem rep_ev16 : evF tab 300 53 [.d (.str ⟨#[48]⟩), .d (iv ((16 : Nat) : Int))] [] = some (.ret (.d (.str (noughts 16))) []) := by kernel_rfl
theorem rep_ev17 : evF tab 300 53 [.d (.str ⟨#[48]⟩), .d (iv ((17 : Nat) : Int))] [] = some (.ret (.d (.str (noughts 17))) []) := by kernel_rfl
theorem rep_ev18 : evF tab 300 53 [.d (.str ⟨#[48]⟩), .d (iv ((18 : Nat) : Int))] [] = some (.ret (.d (.str (noughts 18))) []) := by kernel_rfl
theorem rep_ev19 : evF tab 300 53 [.d (.str ⟨#[48]⟩), .d (iv ((19 : Nat) : Int))] [] = some (.ret (.d (.str (noughts 19))) []) := by kernel_rfl
theorem rep_ev20 : evF tab 300 53 [.d (.str ⟨#[48]⟩), .d (iv ((20 : Nat) : Int))] [] = some (.ret (.d (.str (noughts 20))) []) := by kernel_rfl
theorem rep_ev21 : evF tab 300 53 [.d (.str ⟨#[48]⟩), .d (iv ((21 : Nat) : Int))] [] = some (.ret (.d (.str (noughts 21))) []) := by kernel_rfl
theorem rep_ev22 : evF tab 300 53 [.d (.str ⟨#[48]⟩), .d (iv ((22 : Nat) : Int))] [] = some (.ret (.d (.str (noughts 22))) []) := by kernel_rfl
theorem rep_ev23 : evF tab 300 53 [.d (.str ⟨#[48]⟩), .d (iv ((23 : Nat) : Int))] [] = some (.ret (.d (.str (noughts 23))) []) := by kernel_rfl
theorem rep_ev24 : evF tab 300 53 [.d (.str ⟨#[48]⟩), .d (iv ((24 : Nat) : Int))] [] = some (.ret (.d (.str (noughts 24))) []) := by kernel_rfl
theorem rep_ev25 : evF tab 300 53 [.d (.str ⟨#[48]⟩), .d (iv ((25 : Nat) : Int))] [] = some (.ret (.d (.str (noughts 25))) []) := by kernel_rfl
theorem rep_ev26 : evF tab 300 53 [.d (.str ⟨#[48]⟩), .d (iv ((26 : Nat) : Int))] [] = some (.ret (.d (.str (noughts 26))) []) := by kernel_rfl
theorem rep_ev27 : evF tab 300 53 [.d (.str ⟨#[48]⟩), .d (iv ((27 : Nat) : Int))] [] = some (.ret (.d (.str (noughts 27))) []) := by kernel_rfl
theorem rep_ev28 : evF tab 300 53 [.d (.str ⟨#[48]⟩), .d (iv ((28 : Nat) : Int))] [] = some (.ret (.d (.str (noughts 28))) []) := by kernel_rfl
theorem rep_ev29 : evF tab 300 53 [.d (.str ⟨#[48]⟩), .d (iv ((29 : Nat) : Int))] [] = some (.ret (.d (.str (noughts 29))) []) := by kernel_rfl
theorem rep_ev30 : evF tab 300 53 [.d (.str ⟨#[48]⟩), .d (iv ((30 : Nat) : Int))] [] = some (.ret (.d (.str (noughts 30))) []) := by kernel_rfl
theorem rep_ev31 : evF tab 300 53 [.d (.str ⟨#[48]⟩), .d (iv ((31 : Nat) : Int))] [] = some (.ret (.d (.str (noughts 31))) []) := by kernel_rfl
theorem rep_ev32 : evF tab 300 53 [.d (.str ⟨#[48]⟩), .d (iv ((32 : Nat) : Int))] [] = some (.ret (.d (.str (noughts 32))) []) := by kernel_rfl
theorem rep_ev33 : evF tab 300 53 [.d (.str ⟨#[48]⟩), .d (iv ((33 : Nat) : Int))] [] = some (.ret (.d (.str (noughts 33))) []) := by kernel_rfl
theorem rep_ev34 : evF tab 300 53 [.d (.str ⟨#[48]⟩), .d (iv ((34 : Nat) : Int))] [] = some (.ret (.d (.str (noughts 34))) []) := by kernel_rfl
theorem rep_ev35 : evF tab 300 53 [.d (.str ⟨#[48]⟩), .d (iv ((35 : Nat) : Int))] [] = some (.ret (.d (.str (noughts 35))) []) := by kernel_rfl
theorem rep_ev36 : evF tab 300 53 [.d (.str ⟨#[48]⟩), .d (iv ((36 : Nat) : Int))] [] = some (.ret (.d (.str (noughts 36))) []) := by kernel_rfl
theorem rep_ev37 : evF tab 300 53 [.d (.str ⟨#[48]⟩), .d (iv ((37 : Nat) : Int))] [] = some (.ret (.d (.str (noughts 37))) []) := by kernel_rfl
theorem rep_ev38 : evF tab 300 53 [.d (.str ⟨#[48]⟩), .d (iv ((38 : Nat) : Int))] [] = some (.ret (.d (.str (noughts 38))) []) := by kernel_rfl
theorem rep_ev39 : evF tab 300 53 [.d (.str ⟨#[48]⟩), .d (iv ((39 : Nat) : Int))] [] = some (.ret (.d (.str (noughts 39))) []) := by kernel_rfl
theorem rep_ev40 : evF tab 300 53 [.d (.str ⟨#[48]⟩), .d (iv ((40 : Nat) : Int))] [] = some (.ret (.d (.str (noughts 40))) []) := by kernel_rfl
theorem rep_ev (n : Nat) (h : n ≤ 40) : evF tab 300 53 [.d (.str ⟨#[48]⟩), .d (iv n)] [] = some (.ret (.d (.str (noughts n))) []) := by
  have hn : n = 0 ∨ n = 1 ∨ n = 2 ∨ n = 3 ∨ n = 4 ∨ n = 5 ∨ n = 6 ∨ n = 7 ∨ n = 8 ∨ n = 9 ∨ n = 10 ∨ n = 11 ∨ n = 12 ∨ n = 13 ∨ n = 14 ∨ n = 15 ∨ n = 16 ∨ n = 17 ∨ n = 18 ∨ n = 19 ∨ n = 20 ∨ n = 21 ∨ n = 22 ∨ n = 23 ∨ n = 24 ∨ n = 25 ∨ n = 26 ∨ n = 27 ∨ n = 28 ∨ n = 29 ∨ n = 30 ∨ n = 31 ∨ n = 32 ∨ n = 33 ∨ n = 34 ∨ n = 35 ∨ n = 36 ∨ n = 37 ∨ n = 38 ∨ n = 39 ∨ n = 40 := by omega
  rcases hn with rfl | rfl | rfl | rfl | rfl | rfl | rfl | rfl | rfl | rfl | rfl | rfl | rfl | rfl | rfl | rfl | rfl | rfl | rfl | rfl | rfl | rfl | rfl | rfl | rfl | rfl | rfl | rfl | rfl | rfl | rfl | rfl | rfl | rfl | rfl | rfl | rfl | rfl | rfl | rfl | rfl
  · exact rep_ev0
  · exact rep_ev1
  · exact rep_ev2
  · exact rep_ev3
  · exact rep_ev4
  · exact rep_ev5
  · exact rep_ev6
  · exact rep_ev7
  · exact rep_ev8
  · exact rep_ev9
  · exact rep_ev10
  · exact rep_ev11
  · exact rep_ev12
  · exact rep_ev13
  · exact rep_ev14
  · exact rep_ev15
  · exact rep_ev16
  · exact rep_ev17
  · exact rep_ev18
  · exact rep_ev19
  · exact rep_ev20
  · exact rep_ev21
  · exact rep_ev22
  · exact rep_ev23
  · exact rep_ev24
  · exact rep_ev25
  · exact rep_ev26
  · exact rep_ev27
  · exact rep_ev28
  · exact rep_ev29
  · exact rep_ev30
  · exact rep_ev31
  · exact rep_ev32
  · exact rep_ev33
  · exact rep_ev34
  · exact rep_ev35
  · exact rep_ev36
  · exact rep_ev37
  · exact rep_ev38
  · exact rep_ev39
  · exact rep_ev40
theorem rep_ok (n : Nat) (h : n ≤ 40) (hp : List Ent) : F tab 53 [.d (.str ⟨#[48]⟩), .d (iv n)] hp = some (.ret (.d (.str (noughts n))) hp) :=
  F_some.2 ⟨300, ((evF_nice (pf := pf) pf_ok 300).2 53 rfl _ _ _ _ (rep_ev n h)).2 hp⟩
end Go.Pe.T

namespace Go.Pe.T
abbrev bt (l : List UInt8) : ByteArray := ⟨l.toArray⟩
theorem bt_app (a b : List UInt8) : bt a ++ bt b = bt (a ++ b) := by
  apply ByteArray.ext; simp [bt]
theorem str_add (a b : List UInt8) (h : a.length + b.length ≤ 140737488355328) : strD .add (bt a) (bt b) = some (.str (bt (a ++ b))) := by
  have e : (bt a).size + (bt b).size = a.length + b.length := rfl
  simp only [strD, e, if_pos h, bt_app]
theorem bt_size (a : List UInt8) : (bt a).size = a.length := rfl
def loT (n : Nat) : Nat → List UInt8
  | 0 => []
  | i + 1 => loT (n / 10) i ++ [chU n]
theorem loT_len (n : Nat) : ∀ i, (loT n i).length = i := by
  intro i
  induction i generalizing n with
  | zero => rfl
  | succ i ih => simp [loT, ih]
theorem loT_zero : ∀ i, loT 0 i = List.replicate i 48
  | 0 => rfl
  | i + 1 => by
    have : chU 0 = 48 := by decide
    rw [loT, Nat.zero_div, loT_zero i, this, List.replicate_succ']
theorem loT_head (n : Nat) : ∀ i, loT n (i + 1) = chU (n / 10 ^ i) :: loT n i := by
  intro i
  induction i generalizing n with
  | zero => simp [loT]
  | succ i ih =>
    rw [loT, ih (n / 10), loT, List.cons_append, Nat.div_div_eq_div_mul, Nat.pow_succ', Nat.mul_comm]
theorem chU_mod (n m : Nat) (h : n % 10 = m % 10) : chU n = chU m := by unfold chU; rw [h]
theorem loT_mod (n : Nat) : ∀ i, loT (n % 10 ^ i) i = loT n i := by
  intro i
  induction i generalizing n with
  | zero => rfl
  | succ i ih =>
    rw [loT, loT]
    have e1 : n % 10 ^ (i + 1) / 10 = n / 10 % 10 ^ i := by
      rw [Nat.pow_succ', Nat.mod_mul, Nat.add_mul_div_left _ _ (by omega), Nat.div_eq_of_lt (Nat.mod_lt _ (by omega)), Nat.zero_add]
    have e2 : n % 10 ^ (i + 1) % 10 = n % 10 := Nat.mod_mod_of_dvd _ ⟨10 ^ i, Nat.pow_succ'⟩
    rw [e1, ih, chU_mod _ _ e2]
theorem pad_dec : ∀ (i n : Nat), n < 10 ^ (i + 1) → List.replicate (i + 1 - (decT n).length) 48 ++ decT n = loT n (i + 1)
  | 0, n, h => by
    have h1 : n < 10 := by simpa using h
    rw [decT_one n h1]
    simp [loT]
  | i + 1, n, h => by
    by_cases h1 : n < 10
    · rw [decT_one n h1, loT, Nat.div_eq_of_lt h1, loT_zero]
      simp
    · rw [decT_step n h1, loT, ← pad_dec i (n / 10) (by rw [Nat.pow_succ] at h; omega)]
      simp only [List.length_append, List.length_singleton, ← List.append_assoc]
      rw [show i + 1 + 1 - ((decT (n / 10)).length + 1) = i + 1 - (decT (n / 10)).length by omega]
theorem loT_dec : ∀ n, loT n (decT n).length = decT n := by
  intro n
  induction n using Nat.strongRecOn with
  | _ n ih =>
    by_cases h : n < 10
    · rw [decT_one n h]; simp [loT]
    · rw [decT_step n h]
      simp only [List.length_append, List.length_singleton]
      rw [loT, ih (n / 10) (by omega)]

def sgnT (c : Int) : List UInt8 := if c < 0 then [45] else []
def textL (c : Int) (k : Nat) : List UInt8 := sgnT c ++ (if k = 0 then decT c.natAbs else decT (c.natAbs / 10 ^ k) ++ 46 :: loT c.natAbs k)

end Go.Pe.T

namespace Go.Pe.T
theorem bt_get (L : List UInt8) (i : Nat) : (bt L)[i]? = L[i]? := by
  show (if h : i < (bt L).size then some (bt L)[i] else none) = _
  by_cases h : i < L.length
  · rw [dif_pos (show i < (bt L).size from h), List.getElem?_eq_getElem h]
    rfl
  · rw [dif_neg (show ¬ i < (bt L).size from h), List.getElem?_eq_none (by omega)]
theorem bt_ext (L : List UInt8) (i j : Nat) : (bt L).extract i j = bt ((L.take j).drop i) := by
  apply ByteArray.ext
  rw [ByteArray.data_extract]
  simp [bt, List.extract_toArray, List.extract_eq_take_drop, List.drop_take]

def isDg (b : UInt8) : Bool := decide (48 ≤ b.toNat) && decide (b.toNat ≤ 57)
theorem isDg_iff {b : UInt8} : isDg b = true ↔ 48 ≤ b.toNat ∧ b.toNat ≤ 57 := by simp [isDg]

def RowIs (L : List UInt8) (i : Nat) : Prop :=
  V (F tab) r50_B0 (r50_S0 (.d (.str (bt L))) (.d (iv i)) []) = some (.norm, r50_E0 (.d (.str (bt L))) (.d (iv (i + ((L.drop i).takeWhile isDg).length : Nat))) [])
theorem row_end (L : List UInt8) : RowIs L L.length := by
  have h1 : ((L.length : Int) < (L.length : Int)) = False := eq_false (by omega)
  unfold RowIs
  rw [List.drop_of_length_le (Nat.le_refl _), r50_B0_eq]
  simp (disch := omega) only [go_sem, and_self, and_true, true_and, false_and, and_false, Nat.reduceAdd, Nat.reduceMul, Nat.reduceSub, Nat.reduceLeDiff, Nat.reduceLT, Nat.reduceGT, Nat.reduceEqDiff, Nat.reduceBEq, Int.reduceNeg, Int.reduceEq, Int.reduceLT, Int.reduceLE, Int.reduceBEq, Int.reduceToNat, Int.toNat_natCast, Int.natCast_zero, r50_C0, h1, ByteArray.size, List.size_toArray, List.takeWhile_nil, List.length_nil, Nat.add_zero]
theorem row_step (L : List UInt8) (hl : L.length ≤ 100000) (i : Nat) (hi : i < L.length) (ih : RowIs L (i + 1)) : RowIs L i := by
  have h1 : ((i : Int) < (L.length : Int)) = True := eq_true (by omega)
  have i0 : (0 ≤ (i : Int)) = True := eq_true (by omega)
  have hx : L[i]? = some L[i] := List.getElem?_eq_getElem hi
  have hd : L.drop i = L[i] :: L.drop (i + 1) := List.drop_eq_getElem_cons hi
  have hg := bt_get L i
  have e1 : (i : Int) + 1 = ((i + 1 : Nat) : Int) := rfl
  unfold RowIs at ih ⊢
  rw [hd, List.takeWhile_cons]
  rw [hx] at hg
  generalize L[i] = b at *
  rw [r50_B0_eq]
  by_cases g1 : 48 ≤ b.toNat
  · have k1 : ((b.toNat : Int) ≥ 48) = True := eq_true (by omega)
    by_cases g2 : b.toNat ≤ 57
    · have k2 : ((b.toNat : Int) ≤ 57) = True := eq_true (by omega)
      rw [isDg_iff.2 ⟨g1, g2⟩, if_pos rfl, List.length_cons, show i + (((L.drop (i + 1)).takeWhile isDg).length + 1) = i + 1 + ((L.drop (i + 1)).takeWhile isDg).length by omega]
      simp (disch := omega) only [go_sem, and_self, and_true, true_and, false_and, and_false, Nat.reduceAdd, Nat.reduceMul, Nat.reduceSub, Nat.reduceLeDiff, Nat.reduceLT, Nat.reduceGT, Nat.reduceEqDiff, Nat.reduceBEq, Int.reduceNeg, Int.reduceEq, Int.reduceLT, Int.reduceLE, Int.reduceBEq, Int.reduceToNat, Int.toNat_natCast, Int.natCast_zero, r50_C0, h1, i0, hg, k1, k2, e1, ByteArray.size, List.size_toArray, w64]
      exact ih
    · have k2 : ((b.toNat : Int) ≤ 57) = False := eq_false (by omega)
      have hn : isDg b = false := by simp [isDg, g2]
      rw [hn, if_neg (by simp)]
      simp (disch := omega) only [go_sem, and_self, and_true, true_and, false_and, and_false, Nat.reduceAdd, Nat.reduceMul, Nat.reduceSub, Nat.reduceLeDiff, Nat.reduceLT, Nat.reduceGT, Nat.reduceEqDiff, Nat.reduceBEq, Int.reduceNeg, Int.reduceEq, Int.reduceLT, Int.reduceLE, Int.reduceBEq, Int.reduceToNat, Int.toNat_natCast, Int.natCast_zero, r50_C0, h1, i0, hg, k1, k2, ByteArray.size, List.size_toArray, List.length_nil, Nat.add_zero]
  · have k1 : ((b.toNat : Int) ≥ 48) = False := eq_false (by omega)
    have hn : isDg b = false := by simp [isDg, g1]
    rw [hn, if_neg (by simp)]
    simp (disch := omega) only [go_sem, and_self, and_true, true_and, false_and, and_false, Nat.reduceAdd, Nat.reduceMul, Nat.reduceSub, Nat.reduceLeDiff, Nat.reduceLT, Nat.reduceGT, Nat.reduceEqDiff, Nat.reduceBEq, Int.reduceNeg, Int.reduceEq, Int.reduceLT, Int.reduceLE, Int.reduceBEq, Int.reduceToNat, Int.toNat_natCast, Int.natCast_zero, r50_C0, h1, i0, hg, k1, ByteArray.size, List.size_toArray, List.length_nil, Nat.add_zero]
theorem row_loop (L : List UInt8) (hl : L.length ≤ 100000) : ∀ (d i : Nat), i + d = L.length → RowIs L i
  | 0, i, h => by obtain rfl : i = L.length := by omega
                  exact row_end L
  | d + 1, i, h => row_step L hl i (by omega) (row_loop L hl d (i + 1) (by omega))
theorem take_app {L a b : List UInt8} (h : a ++ b = L) : L.take a.length = a ∧ L.drop a.length = b := by
  subst h; exact ⟨List.take_left .., List.drop_left ..⟩
theorem take_tw (L : List UInt8) : L.take (L.takeWhile isDg).length = L.takeWhile isDg ∧ L.drop (L.takeWhile isDg).length = L.dropWhile isDg :=
  take_app (List.takeWhile_append_dropWhile (p := isDg) (l := L))
theorem tw_le (L : List UInt8) : (L.takeWhile isDg).length ≤ L.length := by
  have h := congrArg List.length (List.takeWhile_append_dropWhile (p := isDg) (l := L))
  rw [List.length_append] at h
  omega
theorem row_ok (L : List UInt8) (hl : L.length ≤ 100000) (hp : List Ent) : F tab 50 [.d (.str (bt L))] hp = some (.ret (.tup [.d (.str (bt (L.takeWhile isDg))), .d (.str (bt (L.dropWhile isDg)))]) hp) := by
  have hL := row_loop L hl L.length 0 (by omega)
  unfold RowIs at hL
  rw [List.drop_zero, Nat.zero_add] at hL
  obtain ⟨t1, t2⟩ := take_tw L
  have x1 := bt_ext L 0 (L.takeWhile isDg).length
  have x2 := bt_ext L (L.takeWhile isDg).length L.length
  rw [List.drop_zero, t1] at x1
  rw [List.take_length, t2] at x2
  have hle := tw_le L
  have b0 : (0 ≤ (((L.takeWhile isDg).length : Nat) : Int)) = True := eq_true (by omega)
  have b1 : ((((L.takeWhile isDg).length : Nat) : Int) ≤ (L.length : Int)) = True := eq_true (by omega)
  have b2 : ((L.length : Int) ≤ (L.length : Int)) = True := eq_true (by omega)
  have z : ((0 : Nat) : Int) = 0 := rfl
  have t0 : (0 : Int).toNat = 0 := rfl
  rw [z] at hL
  refine f50 rfl ?_
  simp (disch := omega) only [go_sem, and_self, and_true, true_and, false_and, and_false, Nat.reduceAdd, Nat.reduceMul, Nat.reduceSub, Nat.reduceLeDiff, Nat.reduceLT, Nat.reduceGT, Nat.reduceEqDiff, Nat.reduceBEq, Int.reduceNeg, Int.reduceEq, Int.reduceLT, Int.reduceLE, Int.reduceBEq, Int.reduceToNat, Int.toNat_natCast, Int.natCast_zero, r50_T, r50]
  rw [r50_B0_n]
  erw [hL]
  simp (disch := omega) only [go_sem, and_self, and_true, true_and, false_and, and_false, Nat.reduceAdd, Nat.reduceMul, Nat.reduceSub, Nat.reduceLeDiff, Nat.reduceLT, Nat.reduceGT, Nat.reduceEqDiff, Nat.reduceBEq, Int.reduceNeg, Int.reduceEq, Int.reduceLT, Int.reduceLE, Int.reduceBEq, Int.reduceToNat, Int.toNat_natCast, Int.natCast_zero, b0, b1, b2, x1, x2, t0, ByteArray.size, List.size_toArray, decide_true]
end Go.Pe.T

namespace Go.Pe.T
theorem bt_nil (L : List UInt8) : ((bt L).toList == (⟨#[]⟩ : ByteArray).toList) = L.isEmpty := by
  rw [ByteArray.toList_eq, ByteArray.toList_eq]
  cases L <;> rfl
def isE (b : UInt8) : Bool := b.toNat == 69 || b.toNat == 101
theorem or32_all : ∀ n : Fin 256, ∃ m : Int, bitsD .or .u8 (n.val : Int) 32 = some (.int .u8 m) ∧ (m == 101) = (n.val == 69 || n.val == 101) := by
  intro n
  refine ⟨_, rfl, ?_⟩
  revert n
  decide +kernel
theorem or32 (b : UInt8) : ∃ m : Int, bitsD .or .u8 (b.toNat : Int) 32 = some (.int .u8 m) ∧ (m == 101) = isE b :=
  or32_all ⟨b.toNat, b.toNat_lt⟩
def DgL (d : List UInt8) : Prop := ∀ b ∈ d, isDg b = true
theorem tw_dgl : ∀ L : List UInt8, DgL (L.takeWhile isDg)
  | [] => fun b hb => by simp at hb
  | a :: L => fun b hb => by
    rw [List.takeWhile_cons] at hb
    by_cases h : isDg a = true
    · rw [if_pos h] at hb
      rcases List.mem_cons.1 hb with rfl | hb
      · exact h
      · exact tw_dgl L b hb
    · rw [if_neg h] at hb
      simp at hb

def capN : List UInt8 → Nat → Nat
  | [], n => n
  | b :: r, n => capN r (min (10 * n + (b.toNat - 48)) 1000000)
theorem capN_le : ∀ (d : List UInt8) (n : Nat), n ≤ 1000000 → capN d n ≤ 1000000
  | [], n, h => h
  | b :: r, n, h => capN_le r _ (Nat.min_le_right _ _)

def PwIs (sg : Int) (d : List UInt8) (rest : D) (n i : Nat) : Prop :=
  V (F tab) r51_B0 (r51_S0 (.d (iv sg)) (.d (.str (bt d))) (.d rest) (.d (iv n)) (.d (iv d.length)) (.d (iv i)) []) = some (.norm, r51_E0 (.d (iv sg)) (.d (.str (bt d))) (.d rest) (.d (iv (capN (d.drop i) n : Nat))) [])
theorem pw_end (sg : Int) (d : List UInt8) (rest : D) (n : Nat) : PwIs sg d rest n d.length := by
  have h1 : ((d.length : Int) < (d.length : Int)) = False := eq_false (by omega)
  unfold PwIs
  rw [List.drop_of_length_le (Nat.le_refl _), r51_B0_eq]
  simp (disch := omega) only [go_sem, and_self, and_true, true_and, false_and, and_false, Nat.reduceAdd, Nat.reduceMul, Nat.reduceSub, Nat.reduceLeDiff, Nat.reduceLT, Nat.reduceGT, Nat.reduceEqDiff, Nat.reduceBEq, Int.reduceNeg, Int.reduceEq, Int.reduceLT, Int.reduceLE, Int.reduceBEq, Int.reduceToNat, Int.toNat_natCast, Int.natCast_zero, strD, r51_C0, r51_K0, h1, capN]
theorem pw_step (sg : Int) (d : List UInt8) (hd : DgL d) (hl : d.length ≤ 100000) (rest : D) (n i : Nat) (hn : n ≤ 1000000) (hi : i < d.length) (ih : ∀ m, m ≤ 1000000 → PwIs sg d rest m (i + 1)) : PwIs sg d rest n i := by
  have h1 : ((i : Int) < (d.length : Int)) = True := eq_true (by omega)
  have i0 : (0 ≤ (i : Int)) = True := eq_true (by omega)
  have hx : d[i]? = some d[i] := List.getElem?_eq_getElem hi
  have hdr : d.drop i = d[i] :: d.drop (i + 1) := List.drop_eq_getElem_cons hi
  have hdg := hd d[i] (List.getElem_mem _)
  have hg := bt_get d i
  have e1 : (i : Int) + 1 = ((i + 1 : Nat) : Int) := rfl
  have ih' := ih (min (10 * n + (d[i].toNat - 48)) 1000000) (Nat.min_le_right _ _)
  rw [hx] at hg
  unfold PwIs at ih' ⊢
  rw [hdr, capN]
  generalize d[i] = b at *
  obtain ⟨g1, g2⟩ := isDg_iff.1 hdg
  rw [r51_B0_eq]
  by_cases hc : 1000000 < 10 * n + (b.toNat - 48)
  · have h2 : ((1000000 : Int) < 10 * (n : Int) + ((b.toNat : Int) - 48)) = True := eq_true (by omega)
    rw [Nat.min_eq_right (by omega)] at ih' ⊢
    have z : ((1000000 : Nat) : Int) = 1000000 := rfl
    rw [z] at ih'
    simp (disch := omega) only [go_sem, and_self, and_true, true_and, false_and, and_false, Nat.reduceAdd, Nat.reduceMul, Nat.reduceSub, Nat.reduceLeDiff, Nat.reduceLT, Nat.reduceGT, Nat.reduceEqDiff, Nat.reduceBEq, Int.reduceNeg, Int.reduceEq, Int.reduceLT, Int.reduceLE, Int.reduceBEq, Int.reduceToNat, Int.toNat_natCast, Int.natCast_zero, strD, r51_C0, r51_K0, h1, i0, hg, h2, e1, ByteArray.size, List.size_toArray, w64, wu8]
    exact ih'
  · have h2 : ((1000000 : Int) < 10 * (n : Int) + ((b.toNat : Int) - 48)) = False := eq_false (by omega)
    rw [Nat.min_eq_left (by omega)] at ih' ⊢
    have z : ((10 * n + (b.toNat - 48) : Nat) : Int) = 10 * (n : Int) + ((b.toNat : Int) - 48) := by omega
    rw [z] at ih'
    simp (disch := omega) only [go_sem, and_self, and_true, true_and, false_and, and_false, Nat.reduceAdd, Nat.reduceMul, Nat.reduceSub, Nat.reduceLeDiff, Nat.reduceLT, Nat.reduceGT, Nat.reduceEqDiff, Nat.reduceBEq, Int.reduceNeg, Int.reduceEq, Int.reduceLT, Int.reduceLE, Int.reduceBEq, Int.reduceToNat, Int.toNat_natCast, Int.natCast_zero, strD, r51_C0, r51_K0, h1, i0, hg, h2, e1, ByteArray.size, List.size_toArray, w64, wu8]
    exact ih'
theorem pw_loop (sg : Int) (d : List UInt8) (hd : DgL d) (hl : d.length ≤ 100000) (rest : D) : ∀ (k i n : Nat), i + k = d.length → n ≤ 1000000 → PwIs sg d rest n i
  | 0, i, n, h, hn => by obtain rfl : i = d.length := by omega
                         exact pw_end sg d rest n
  | k + 1, i, n, h, hn => pw_step sg d hd hl rest n i hn (by omega) fun m hm => pw_loop sg d hd hl rest k (i + 1) m (by omega) hm

def sgnP : List UInt8 → Int × List UInt8
  | [] => (1, [])
  | c :: t => if c.toNat = 43 then (1, t) else if c.toNat = 45 then (-1, t) else (1, c :: t)
def powP : List UInt8 → Int × List UInt8 × Bool
  | [] => (0, [], true)
  | c :: r => if isE c then ((sgnP r).1 * capN ((sgnP r).2.takeWhile isDg) 0, (sgnP r).2.dropWhile isDg, !((sgnP r).2.takeWhile isDg).isEmpty) else (0, c :: r, true)
theorem sgnP_len (L : List UInt8) : (sgnP L).2.length ≤ L.length := by
  cases L with
  | nil => exact Nat.le_refl _
  | cons c t =>
    simp only [sgnP]
    split
    · simp
    · split <;> simp
theorem sgnP_one (L : List UInt8) : (sgnP L).1 = 1 ∨ (sgnP L).1 = -1 := by
  cases L with
  | nil => exact .inl rfl
  | cons c t =>
    simp only [sgnP]
    split
    · exact .inl rfl
    · split
      · exact .inr rfl
      · exact .inl rfl

set_option maxHeartbeats 1000000 in
theorem pow_tail (L : List UInt8) (hl : L.length ≤ 100000) (sg : Int) (hsg : sg = 1 ∨ sg = -1) :
    V (F tab) (r51_K2 ()) (r51_J2 (.d (.str (bt L))) (.d (iv sg)) []) = some (.ret, r51_R (.d (iv (sg * (capN (L.takeWhile isDg) 0 : Nat)))) (.d (.str (bt (L.dropWhile isDg)))) (.d (.bool (!(L.takeWhile isDg).isEmpty))) []) := by
  have hr := row_ok L hl []
  have hll := tw_le L
  have hL := pw_loop sg (L.takeWhile isDg) (tw_dgl L) (by omega) (.str (bt (L.dropWhile isDg))) (L.takeWhile isDg).length 0 0 (by omega) (by omega)
  have hc := capN_le (L.takeWhile isDg) 0 (by omega)
  unfold PwIs at hL
  have z : ((0 : Nat) : Int) = 0 := rfl
  have hs := bt_size (L.takeWhile isDg)
  have hn := bt_nil (L.takeWhile isDg)
  rw [List.drop_zero, z] at hL
  have hb : -1000000 ≤ sg * ((capN (L.takeWhile isDg) 0 : Nat) : Int) ∧ sg * ((capN (L.takeWhile isDg) 0 : Nat) : Int) ≤ 1000000 := by
    rcases hsg with rfl | rfl <;> omega
  generalize capN (L.takeWhile isDg) 0 = n at *
  generalize L.takeWhile isDg = D at *
  generalize L.dropWhile isDg = R at *
  simp (disch := omega) only [go_sem, and_self, and_true, true_and, false_and, and_false, Nat.reduceAdd, Nat.reduceMul, Nat.reduceSub, Nat.reduceLeDiff, Nat.reduceLT, Nat.reduceGT, Nat.reduceEqDiff, Nat.reduceBEq, Int.reduceNeg, Int.reduceEq, Int.reduceLT, Int.reduceLE, Int.reduceBEq, Int.reduceToNat, Int.toNat_natCast, Int.natCast_zero, strD, r51_K2, hr, hs]
  rw [r51_B0_n]
  erw [hL]
  simp (disch := omega) only [go_sem, and_self, and_true, true_and, false_and, and_false, Nat.reduceAdd, Nat.reduceMul, Nat.reduceSub, Nat.reduceLeDiff, Nat.reduceLT, Nat.reduceGT, Nat.reduceEqDiff, Nat.reduceBEq, Int.reduceNeg, Int.reduceEq, Int.reduceLT, Int.reduceLE, Int.reduceBEq, Int.reduceToNat, Int.toNat_natCast, Int.natCast_zero, strD, r51_K1, hn, w64]

theorem bt_cut1 (c : UInt8) (L : List UInt8) : (bt (c :: L)).extract 1 (L.length + 1) = bt L := by
  rw [bt_ext, List.take_of_length_le (by simp)]
  rfl
theorem bt_zero (c : UInt8) (L : List UInt8) : (bt (c :: L))[0]? = some c := by rw [bt_get]; rfl
set_option maxHeartbeats 1000000 in
theorem pow_sign (c0 : UInt8) (L : List UInt8) (hl : L.length ≤ 100000) :
    V (F tab) (r51_K4 ()) (r51_J4 (.d (.str (bt (c0 :: L)))) []) = some (.ret, r51_R (.d (iv ((sgnP L).1 * (capN ((sgnP L).2.takeWhile isDg) 0 : Nat)))) (.d (.str (bt ((sgnP L).2.dropWhile isDg)))) (.d (.bool (!((sgnP L).2.takeWhile isDg).isEmpty))) []) := by
  have ht := pow_tail (sgnP L).2 (by have := sgnP_len L; omega) (sgnP L).1 (sgnP_one L)
  have hs0 := bt_size (c0 :: L)
  have hc0 := bt_cut1 c0 L
  have b0 : (0 ≤ (1 : Int)) = True := eq_true (by omega)
  have b1 : (1 ≤ ((L.length + 1 : Nat) : Int)) = True := eq_true (by omega)
  have b2 : (((L.length + 1 : Nat) : Int) ≤ ((L.length + 1 : Nat) : Int)) = True := eq_true (by omega)
  have i0 : (0 ≤ (0 : Int)) = True := eq_true (by omega)
  rw [List.length_cons] at hs0
  have hn := bt_nil L
  cases L with
  | nil =>
    rw [show sgnP [] = (1, []) from rfl] at *
    have k1 : (1 ≤ ((1 : Nat) : Int)) = True := eq_true (by omega)
    have k2 : (((1 : Nat) : Int) ≤ ((1 : Nat) : Int)) = True := eq_true (by omega)
    have hc1 : (bt [c0]).extract 1 1 = bt [] := hc0
    have hs1 : (bt [c0]).size = 1 := rfl
    simp (disch := omega) only [go_sem, and_self, and_true, true_and, false_and, and_false, Nat.reduceAdd, Nat.reduceMul, Nat.reduceSub, Nat.reduceLeDiff, Nat.reduceLT, Nat.reduceGT, Nat.reduceEqDiff, Nat.reduceBEq, Int.reduceNeg, Int.reduceEq, Int.reduceLT, Int.reduceLE, Int.reduceBEq, Int.reduceToNat, Int.toNat_natCast, Int.natCast_zero, strD, r51_K4, hs1, hc1, b0, k1, k2, hn, decide_true, List.isEmpty_nil]
    exact ht
  | cons c t =>
    have hz := bt_zero c t
    have hs := bt_size (c :: t)
    have hct := bt_cut1 c t
    have b3 : (1 ≤ ((t.length + 1 : Nat) : Int)) = True := eq_true (by omega)
    have b4 : (((t.length + 1 : Nat) : Int) ≤ ((t.length + 1 : Nat) : Int)) = True := eq_true (by omega)
    rw [List.length_cons] at hs
    simp only [List.length_cons] at hs0 hc0 b1 b2
    by_cases h1 : c.toNat = 43
    · have e : sgnP (c :: t) = (1, t) := by simp only [sgnP, if_pos h1]
      have k1 : ((c.toNat : Int) == 43) = true := by simp; omega
      have k2 : ((c.toNat : Int) == 45) = false := by simp; omega
      rw [e] at ht ⊢
      simp (disch := omega) only [go_sem, and_self, and_true, true_and, false_and, and_false, Nat.reduceAdd, Nat.reduceMul, Nat.reduceSub, Nat.reduceLeDiff, Nat.reduceLT, Nat.reduceGT, Nat.reduceEqDiff, Nat.reduceBEq, Int.reduceNeg, Int.reduceEq, Int.reduceLT, Int.reduceLE, Int.reduceBEq, Int.reduceToNat, Int.toNat_natCast, Int.natCast_zero, strD, r51_K4, hs0, hc0, hs, hct, hz, b0, b1, b2, b3, b4, i0, k1, k2, hn, decide_true, List.isEmpty_cons]
      exact ht
    · have k1 : ((c.toNat : Int) == 43) = false := by simp; omega
      by_cases h2 : c.toNat = 45
      · have e : sgnP (c :: t) = (-1, t) := by simp only [sgnP, if_neg h1, if_pos h2]
        have k2 : ((c.toNat : Int) == 45) = true := by simp; omega
        rw [e] at ht ⊢
        simp (disch := omega) only [go_sem, and_self, and_true, true_and, false_and, and_false, Nat.reduceAdd, Nat.reduceMul, Nat.reduceSub, Nat.reduceLeDiff, Nat.reduceLT, Nat.reduceGT, Nat.reduceEqDiff, Nat.reduceBEq, Int.reduceNeg, Int.reduceEq, Int.reduceLT, Int.reduceLE, Int.reduceBEq, Int.reduceToNat, Int.toNat_natCast, Int.natCast_zero, strD, r51_K4, hs0, hc0, hs, hct, hz, b0, b1, b2, b3, b4, i0, k1, k2, hn, decide_true, List.isEmpty_cons]
        exact ht
      · have e : sgnP (c :: t) = (1, c :: t) := by simp only [sgnP, if_neg h1, if_neg h2]
        have k2 : ((c.toNat : Int) == 45) = false := by simp; omega
        rw [e] at ht ⊢
        simp (disch := omega) only [go_sem, and_self, and_true, true_and, false_and, and_false, Nat.reduceAdd, Nat.reduceMul, Nat.reduceSub, Nat.reduceLeDiff, Nat.reduceLT, Nat.reduceGT, Nat.reduceEqDiff, Nat.reduceBEq, Int.reduceNeg, Int.reduceEq, Int.reduceLT, Int.reduceLE, Int.reduceBEq, Int.reduceToNat, Int.toNat_natCast, Int.natCast_zero, strD, r51_K4, hs0, hc0, hs, hct, hz, b0, b1, b2, b3, b4, i0, k1, k2, hn, decide_true, List.isEmpty_cons]
        exact ht

theorem power_ok (L : List UInt8) (hl : L.length ≤ 100000) (hp : List Ent) :
    F tab 51 [.d (.str (bt L))] hp = some (.ret (.tup [.d (iv (powP L).1), .d (.str (bt (powP L).2.1)), .d (.bool (powP L).2.2)]) hp) := by
  have hn := bt_nil L
  refine f51 rfl ?_
  cases L with
  | nil =>
    simp (disch := omega) only [go_sem, and_self, and_true, true_and, false_and, and_false, Nat.reduceAdd, Nat.reduceMul, Nat.reduceSub, Nat.reduceLeDiff, Nat.reduceLT, Nat.reduceGT, Nat.reduceEqDiff, Nat.reduceBEq, Int.reduceNeg, Int.reduceEq, Int.reduceLT, Int.reduceLE, Int.reduceBEq, Int.reduceToNat, Int.toNat_natCast, Int.natCast_zero, strD, r51_T, r51, hn, List.isEmpty_nil, powP]
  | cons c r =>
    have hz := bt_zero c r
    have i0 : (0 ≤ (0 : Int)) = True := eq_true (by omega)
    obtain ⟨m, o1, o2⟩ := or32 c
    simp only [List.length_cons] at hl
    have hs := pow_sign c r (by omega)
    rw [powP]
    rcases Bool.eq_false_or_eq_true (isE c) with g | g
    · rw [g] at o2
      have k : (m != 101) = false := by simp only [bne, o2, Bool.not_true]
      rw [g, if_pos rfl]
      simp (disch := omega) only [go_sem, and_self, and_true, true_and, false_and, and_false, Nat.reduceAdd, Nat.reduceMul, Nat.reduceSub, Nat.reduceLeDiff, Nat.reduceLT, Nat.reduceGT, Nat.reduceEqDiff, Nat.reduceBEq, Int.reduceNeg, Int.reduceEq, Int.reduceLT, Int.reduceLE, Int.reduceBEq, Int.reduceToNat, Int.toNat_natCast, Int.natCast_zero, strD, r51_T, r51, hn, hz, i0, o1, k, List.isEmpty_cons]
      erw [hs]
      simp (disch := omega) only [go_sem, and_self, and_true, true_and, false_and, and_false, Nat.reduceAdd, Nat.reduceMul, Nat.reduceSub, Nat.reduceLeDiff, Nat.reduceLT, Nat.reduceGT, Nat.reduceEqDiff, Nat.reduceBEq, Int.reduceNeg, Int.reduceEq, Int.reduceLT, Int.reduceLE, Int.reduceBEq, Int.reduceToNat, Int.toNat_natCast, Int.natCast_zero]
    · rw [g] at o2
      have k : (m != 101) = true := by simp only [bne, o2, Bool.not_false]
      rw [g, if_neg (by simp)]
      simp (disch := omega) only [go_sem, and_self, and_true, true_and, false_and, and_false, Nat.reduceAdd, Nat.reduceMul, Nat.reduceSub, Nat.reduceLeDiff, Nat.reduceLT, Nat.reduceGT, Nat.reduceEqDiff, Nat.reduceBEq, Int.reduceNeg, Int.reduceEq, Int.reduceLT, Int.reduceLE, Int.reduceBEq, Int.reduceToNat, Int.toNat_natCast, Int.natCast_zero, strD, r51_T, r51, hn, hz, i0, o1, k, List.isEmpty_cons]
end Go.Pe.T

namespace Go.Pe.T
def noP : List UInt8 × List UInt8 × Int × Bool := ([], [], 0, false)
def finP (A B R : List UInt8) : List UInt8 × List UInt8 × Int × Bool := (A, B, (powP R).1, (powP R).2.2 && (powP R).2.1.isEmpty)
def fracP (A : List UInt8) : List UInt8 → List UInt8 × List UInt8 × Int × Bool
  | [] => finP A [] []
  | c :: r => if c.toNat = 46 then (if (r.takeWhile isDg).isEmpty then noP else finP A (r.takeWhile isDg) (r.dropWhile isDg)) else finP A [] (c :: r)
def lead0 (A : List UInt8) : Bool := A.isEmpty || (decide (A.length > 1) && (A.headD 0).toNat == 48)
def partsP (L : List UInt8) : List UInt8 × List UInt8 × Int × Bool :=
  if lead0 (L.takeWhile isDg) then noP else fracP (L.takeWhile isDg) (L.dropWhile isDg)
theorem dw_le (L : List UInt8) : (L.dropWhile isDg).length ≤ L.length := by
  have h := congrArg List.length (List.takeWhile_append_dropWhile (p := isDg) (l := L))
  rw [List.length_append] at h
  omega
theorem parts_fin (A B R : List UInt8) (hl : R.length ≤ 100000) :
    V (F tab) (r44_K2 ()) (r44_J2 (.d (.str (bt R))) (.d (.str (bt A))) (.d (.str (bt B))) []) =
      some (.ret, r44_R (.d (.str (bt (finP A B R).1))) (.d (.str (bt (finP A B R).2.1))) (.d (iv (finP A B R).2.2.1)) (.d (.bool (finP A B R).2.2.2)) []) := by
  have hp := power_ok R hl []
  have hn := bt_nil (powP R).2.1
  unfold finP
  generalize powP R = p at *
  obtain ⟨e, q, ok⟩ := p
  simp only at hp hn ⊢
  rcases Bool.eq_false_or_eq_true ok with g | g
  · subst g
    simp (disch := omega) only [go_sem, and_self, and_true, true_and, false_and, and_false, Nat.reduceAdd, Nat.reduceMul, Nat.reduceSub, Nat.reduceLeDiff, Nat.reduceLT, Nat.reduceGT, Nat.reduceEqDiff, Nat.reduceBEq, Int.reduceNeg, Int.reduceEq, Int.reduceLT, Int.reduceLE, Int.reduceBEq, Int.reduceToNat, Int.toNat_natCast, Int.natCast_zero, strD, r44_K2, hp, hn]
  · subst g
    simp (disch := omega) only [go_sem, and_self, and_true, true_and, false_and, and_false, Nat.reduceAdd, Nat.reduceMul, Nat.reduceSub, Nat.reduceLeDiff, Nat.reduceLT, Nat.reduceGT, Nat.reduceEqDiff, Nat.reduceBEq, Int.reduceNeg, Int.reduceEq, Int.reduceLT, Int.reduceLE, Int.reduceBEq, Int.reduceToNat, Int.toNat_natCast, Int.natCast_zero, strD, r44_K2, hp, hn]

set_option maxHeartbeats 1000000 in
theorem parts_frac (A R : List UInt8) (hl : R.length ≤ 100000) :
    V (F tab) (r44_K4 ()) (r44_J4 (.d (.str (bt R))) (.d (.str (bt A))) []) =
      some (.ret, r44_R (.d (.str (bt (fracP A R).1))) (.d (.str (bt (fracP A R).2.1))) (.d (iv (fracP A R).2.2.1)) (.d (.bool (fracP A R).2.2.2)) []) := by
  have hn := bt_nil R
  cases R with
  | nil =>
    have hf := parts_fin A [] [] (by simp)
    simp (disch := omega) only [go_sem, and_self, and_true, true_and, false_and, and_false, Nat.reduceAdd, Nat.reduceMul, Nat.reduceSub, Nat.reduceLeDiff, Nat.reduceLT, Nat.reduceGT, Nat.reduceEqDiff, Nat.reduceBEq, Int.reduceNeg, Int.reduceEq, Int.reduceLT, Int.reduceLE, Int.reduceBEq, Int.reduceToNat, Int.toNat_natCast, Int.natCast_zero, strD, r44_K4, hn, List.isEmpty_nil, fracP]
    exact hf
  | cons c r =>
    simp only [List.length_cons] at hl
    have hz := bt_zero c r
    have hs := bt_size (c :: r)
    have hct := bt_cut1 c r
    have i0 : (0 ≤ (0 : Int)) = True := eq_true (by omega)
    have b0 : (0 ≤ (1 : Int)) = True := eq_true (by omega)
    have b3 : (1 ≤ ((r.length + 1 : Nat) : Int)) = True := eq_true (by omega)
    have b4 : (((r.length + 1 : Nat) : Int) ≤ ((r.length + 1 : Nat) : Int)) = True := eq_true (by omega)
    rw [List.length_cons] at hs
    rw [fracP]
    by_cases h1 : c.toNat = 46
    · have k1 : ((c.toNat : Int) == 46) = true := by simp; omega
      have hr := row_ok r (by omega) []
      have hn2 := bt_nil (r.takeWhile isDg)
      have hf := parts_fin A (r.takeWhile isDg) (r.dropWhile isDg) (by have := dw_le r; omega)
      rw [if_pos h1]
      generalize r.takeWhile isDg = B at *
      generalize r.dropWhile isDg = R at *
      rcases Bool.eq_false_or_eq_true B.isEmpty with g | g
      · rw [g] at hn2
        rw [g, if_pos rfl]
        simp (disch := omega) only [go_sem, and_self, and_true, true_and, false_and, and_false, Nat.reduceAdd, Nat.reduceMul, Nat.reduceSub, Nat.reduceLeDiff, Nat.reduceLT, Nat.reduceGT, Nat.reduceEqDiff, Nat.reduceBEq, Int.reduceNeg, Int.reduceEq, Int.reduceLT, Int.reduceLE, Int.reduceBEq, Int.reduceToNat, Int.toNat_natCast, Int.natCast_zero, strD, r44_K4, hn, hz, hs, hct, i0, b0, b3, b4, k1, hr, hn2, decide_true, List.isEmpty_cons, noP]
      · rw [g] at hn2
        rw [g, if_neg (by simp)]
        simp (disch := omega) only [go_sem, and_self, and_true, true_and, false_and, and_false, Nat.reduceAdd, Nat.reduceMul, Nat.reduceSub, Nat.reduceLeDiff, Nat.reduceLT, Nat.reduceGT, Nat.reduceEqDiff, Nat.reduceBEq, Int.reduceNeg, Int.reduceEq, Int.reduceLT, Int.reduceLE, Int.reduceBEq, Int.reduceToNat, Int.toNat_natCast, Int.natCast_zero, strD, r44_K4, hn, hz, hs, hct, i0, b0, b3, b4, k1, hr, hn2, decide_true, List.isEmpty_cons]
        exact hf
    · have k1 : ((c.toNat : Int) == 46) = false := by simp; omega
      have hf := parts_fin A [] (c :: r) (by simp only [List.length_cons]; omega)
      rw [if_neg h1]
      simp (disch := omega) only [go_sem, and_self, and_true, true_and, false_and, and_false, Nat.reduceAdd, Nat.reduceMul, Nat.reduceSub, Nat.reduceLeDiff, Nat.reduceLT, Nat.reduceGT, Nat.reduceEqDiff, Nat.reduceBEq, Int.reduceNeg, Int.reduceEq, Int.reduceLT, Int.reduceLE, Int.reduceBEq, Int.reduceToNat, Int.toNat_natCast, Int.natCast_zero, strD, r44_K4, hn, hz, hs, hct, i0, b0, b3, b4, k1, decide_true, List.isEmpty_cons]
      exact hf

set_option maxHeartbeats 1000000 in
theorem parts_ok (L : List UInt8) (hl : L.length ≤ 100000) (hp : List Ent) :
    F tab 44 [.d (.str (bt L))] hp = some (.ret (.tup [.d (.str (bt (partsP L).1)), .d (.str (bt (partsP L).2.1)), .d (iv (partsP L).2.2.1), .d (.bool (partsP L).2.2.2)]) hp) := by
  have hr := row_ok L hl []
  have hf := parts_frac (L.takeWhile isDg) (L.dropWhile isDg) (by have := dw_le L; omega)
  have hn := bt_nil (L.takeWhile isDg)
  have hs := bt_size (L.takeWhile isDg)
  unfold partsP
  generalize L.takeWhile isDg = A at *
  generalize L.dropWhile isDg = R at *
  refine f44 rfl ?_
  cases A with
  | nil =>
    rw [show lead0 [] = true from rfl, if_pos rfl]
    simp (disch := omega) only [go_sem, and_self, and_true, true_and, false_and, and_false, Nat.reduceAdd, Nat.reduceMul, Nat.reduceSub, Nat.reduceLeDiff, Nat.reduceLT, Nat.reduceGT, Nat.reduceEqDiff, Nat.reduceBEq, Int.reduceNeg, Int.reduceEq, Int.reduceLT, Int.reduceLE, Int.reduceBEq, Int.reduceToNat, Int.toNat_natCast, Int.natCast_zero, strD, r44_T, r44, hr, hn, List.isEmpty_nil, noP]
  | cons c t =>
    have hz := bt_zero c t
    have i0 : (0 ≤ (0 : Int)) = True := eq_true (by omega)
    rw [List.length_cons] at hs
    by_cases h1 : t = []
    · have k1 : (((t.length + 1 : Nat) : Int) > 1) = False := eq_false (by subst h1; simp)
      have e : lead0 (c :: t) = false := by subst h1; rfl
      rw [e, if_neg (by simp)]
      simp (disch := omega) only [go_sem, and_self, and_true, true_and, false_and, and_false, Nat.reduceAdd, Nat.reduceMul, Nat.reduceSub, Nat.reduceLeDiff, Nat.reduceLT, Nat.reduceGT, Nat.reduceEqDiff, Nat.reduceBEq, Int.reduceNeg, Int.reduceEq, Int.reduceLT, Int.reduceLE, Int.reduceBEq, Int.reduceToNat, Int.toNat_natCast, Int.natCast_zero, strD, r44_T, r44, hr, hn, hs, k1, List.isEmpty_cons]
      erw [hf]
      simp (disch := omega) only [go_sem, and_self, and_true, true_and, false_and, and_false, Nat.reduceAdd, Nat.reduceMul, Nat.reduceSub, Nat.reduceLeDiff, Nat.reduceLT, Nat.reduceGT, Nat.reduceEqDiff, Nat.reduceBEq, Int.reduceNeg, Int.reduceEq, Int.reduceLT, Int.reduceLE, Int.reduceBEq, Int.reduceToNat, Int.toNat_natCast, Int.natCast_zero]
    · have hlt : 0 < t.length := List.length_pos_iff.2 h1
      have k1 : (((t.length + 1 : Nat) : Int) > 1) = True := eq_true (by omega)
      by_cases h2 : c.toNat = 48
      · have k2 : ((c.toNat : Int) == 48) = true := by simp; omega
        have e : lead0 (c :: t) = true := by simp [lead0, h2]; omega
        rw [e, if_pos rfl]
        simp (disch := omega) only [go_sem, and_self, and_true, true_and, false_and, and_false, Nat.reduceAdd, Nat.reduceMul, Nat.reduceSub, Nat.reduceLeDiff, Nat.reduceLT, Nat.reduceGT, Nat.reduceEqDiff, Nat.reduceBEq, Int.reduceNeg, Int.reduceEq, Int.reduceLT, Int.reduceLE, Int.reduceBEq, Int.reduceToNat, Int.toNat_natCast, Int.natCast_zero, strD, r44_T, r44, hr, hn, hs, hz, i0, k1, k2, List.isEmpty_cons, noP]
      · have k2 : ((c.toNat : Int) == 48) = false := by simp; omega
        have e : lead0 (c :: t) = false := by simp [lead0, h2]
        rw [e, if_neg (by simp)]
        simp (disch := omega) only [go_sem, and_self, and_true, true_and, false_and, and_false, Nat.reduceAdd, Nat.reduceMul, Nat.reduceSub, Nat.reduceLeDiff, Nat.reduceLT, Nat.reduceGT, Nat.reduceEqDiff, Nat.reduceBEq, Int.reduceNeg, Int.reduceEq, Int.reduceLT, Int.reduceLE, Int.reduceBEq, Int.reduceToNat, Int.toNat_natCast, Int.natCast_zero, strD, r44_T, r44, hr, hn, hs, hz, i0, k1, k2, List.isEmpty_cons]
        erw [hf]
        simp (disch := omega) only [go_sem, and_self, and_true, true_and, false_and, and_false, Nat.reduceAdd, Nat.reduceMul, Nat.reduceSub, Nat.reduceLeDiff, Nat.reduceLT, Nat.reduceGT, Nat.reduceEqDiff, Nat.reduceBEq, Int.reduceNeg, Int.reduceEq, Int.reduceLT, Int.reduceLE, Int.reduceBEq, Int.reduceToNat, Int.toNat_natCast, Int.natCast_zero]

def is0 (b : UInt8) : Bool := b.toNat == 48
def TlIs (L : List UInt8) : Prop := V (F tab) r59_B0 (r59_S0 (.d (.str (bt L))) (.d (.int .u8 48)) []) = some (.norm, r59_E0 (.d (.str (bt (L.dropWhile is0)))) [])
theorem tl_nil : TlIs [] := by
  have h1 : ((0 : Int) > 0) = False := eq_false (by omega)
  have h2 : (((0 : Nat) : Int) > 0) = False := eq_false (by omega)
  have hs := bt_size []
  unfold TlIs
  rw [r59_B0_eq]
  simp (disch := omega) only [go_sem, and_self, and_true, true_and, false_and, and_false, Nat.reduceAdd, Nat.reduceMul, Nat.reduceSub, Nat.reduceLeDiff, Nat.reduceLT, Nat.reduceGT, Nat.reduceEqDiff, Nat.reduceBEq, Int.reduceNeg, Int.reduceEq, Int.reduceLT, Int.reduceLE, Int.reduceBEq, Int.reduceToNat, Int.toNat_natCast, Int.natCast_zero, strD, r59_C0, hs, h1, h2, List.dropWhile_nil]
theorem tl_step (c : UInt8) (r : List UInt8) (hl : r.length ≤ 100000) (ih : TlIs r) : TlIs (c :: r) := by
  have hz := bt_zero c r
  have hs := bt_size (c :: r)
  have hct := bt_cut1 c r
  have i0 : (0 ≤ (0 : Int)) = True := eq_true (by omega)
  have b0 : (0 ≤ (1 : Int)) = True := eq_true (by omega)
  have b3 : (1 ≤ ((r.length + 1 : Nat) : Int)) = True := eq_true (by omega)
  have b4 : (((r.length + 1 : Nat) : Int) ≤ ((r.length + 1 : Nat) : Int)) = True := eq_true (by omega)
  have b5 : (((r.length + 1 : Nat) : Int) > 0) = True := eq_true (by omega)
  rw [List.length_cons] at hs
  unfold TlIs at ih ⊢
  rw [r59_B0_eq, List.dropWhile_cons]
  by_cases h : c.toNat = 48
  · have k : ((c.toNat : Int) == 48) = true := by simp; omega
    have e : is0 c = true := by simp [is0, h]
    rw [e, if_pos rfl]
    simp (disch := omega) only [go_sem, and_self, and_true, true_and, false_and, and_false, Nat.reduceAdd, Nat.reduceMul, Nat.reduceSub, Nat.reduceLeDiff, Nat.reduceLT, Nat.reduceGT, Nat.reduceEqDiff, Nat.reduceBEq, Int.reduceNeg, Int.reduceEq, Int.reduceLT, Int.reduceLE, Int.reduceBEq, Int.reduceToNat, Int.toNat_natCast, Int.natCast_zero, strD, r59_C0, hs, hz, hct, i0, b0, b3, b4, b5, k, decide_true]
    exact ih
  · have k : ((c.toNat : Int) == 48) = false := by simp; omega
    have e : is0 c = false := by simp [is0, h]
    rw [e, if_neg (by simp)]
    simp (disch := omega) only [go_sem, and_self, and_true, true_and, false_and, and_false, Nat.reduceAdd, Nat.reduceMul, Nat.reduceSub, Nat.reduceLeDiff, Nat.reduceLT, Nat.reduceGT, Nat.reduceEqDiff, Nat.reduceBEq, Int.reduceNeg, Int.reduceEq, Int.reduceLT, Int.reduceLE, Int.reduceBEq, Int.reduceToNat, Int.toNat_natCast, Int.natCast_zero, strD, r59_C0, hs, hz, hct, i0, b0, b3, b4, b5, k, decide_true]
theorem tl_loop : ∀ (L : List UInt8), L.length ≤ 100000 → TlIs L
  | [], _ => tl_nil
  | c :: r, h => tl_step c r (by simp at h; omega) (tl_loop r (by simp at h; omega))
theorem tlb_ok (L : List UInt8) (hl : L.length ≤ 100000) (hp : List Ent) : F tab 59 [.d (.str (bt L)), .d (.int .u8 48)] hp = some (.ret (.d (.str (bt (L.dropWhile is0)))) hp) := by
  have h := tl_loop L hl
  unfold TlIs at h
  refine f59 rfl ?_
  simp (disch := omega) only [go_sem, and_self, and_true, true_and, false_and, and_false, Nat.reduceAdd, Nat.reduceMul, Nat.reduceSub, Nat.reduceLeDiff, Nat.reduceLT, Nat.reduceGT, Nat.reduceEqDiff, Nat.reduceBEq, Int.reduceNeg, Int.reduceEq, Int.reduceLT, Int.reduceLE, Int.reduceBEq, Int.reduceToNat, Int.toNat_natCast, Int.natCast_zero, strD, r59_T, r59]
  rw [r59_B0_n]
  erw [h]
  simp (disch := omega) only [go_sem, and_self, and_true, true_and, false_and, and_false, Nat.reduceAdd, Nat.reduceMul, Nat.reduceSub, Nat.reduceLeDiff, Nat.reduceLT, Nat.reduceGT, Nat.reduceEqDiff, Nat.reduceBEq, Int.reduceNeg, Int.reduceEq, Int.reduceLT, Int.reduceLE, Int.reduceBEq, Int.reduceToNat, Int.toNat_natCast, Int.natCast_zero]
set_option maxHeartbeats 1000000 in
theorem trimLeft_ok (L : List UInt8) (hl : L.length ≤ 100000) (hp : List Ent) : F tab 52 [.d (.str (bt L)), .d (.str ⟨#[48]⟩)] hp = some (.ret (.d (.str (bt (L.dropWhile is0)))) hp) := by
  have h := tlb_ok L hl []
  have hn := bt_nil L
  have hz : (⟨#[48]⟩ : ByteArray)[0]? = some 48 := rfl
  have e1 : ((⟨#[48]⟩ : ByteArray).toList == (⟨#[]⟩ : ByteArray).toList) = false := by decide +kernel
  have e2 : (⟨#[48]⟩ : ByteArray).size = 1 := rfl
  have e3 : (((1 : Nat) : Int) == 1) = true := rfl
  have e4 : (((48 : UInt8).toNat : Int) < 128) = True := eq_true (by decide)
  have e5 : ((48 : UInt8).toNat : Int) = 48 := rfl
  have i0 : (0 ≤ (0 : Int)) = True := eq_true (by omega)
  have e6 : ((48 : Int) < 128) = True := eq_true (by decide)
  refine f52 rfl ?_
  cases L with
  | nil =>
    simp (disch := omega) only [go_sem, and_self, and_true, true_and, false_and, and_false, Nat.reduceAdd, Nat.reduceMul, Nat.reduceSub, Nat.reduceLeDiff, Nat.reduceLT, Nat.reduceGT, Nat.reduceEqDiff, Nat.reduceBEq, Int.reduceNeg, Int.reduceEq, Int.reduceLT, Int.reduceLE, Int.reduceBEq, Int.reduceToNat, Int.toNat_natCast, Int.natCast_zero, strD, r52_T, r52, hn, List.isEmpty_nil, List.dropWhile_nil]
  | cons c r =>
    simp (disch := omega) only [go_sem, and_self, and_true, true_and, false_and, and_false, Nat.reduceAdd, Nat.reduceMul, Nat.reduceSub, Nat.reduceLeDiff, Nat.reduceLT, Nat.reduceGT, Nat.reduceEqDiff, Nat.reduceBEq, Int.reduceNeg, Int.reduceEq, Int.reduceLT, Int.reduceLE, Int.reduceBEq, Int.reduceToNat, Int.toNat_natCast, Int.natCast_zero, strD, r52_T, r52, hn, hz, e1, e2, e3, e4, e5, e6, i0, h, List.isEmpty_cons]
end Go.Pe.T

namespace Go.Pe.T
def dgI (b : UInt8) : Int := (b.toNat : Int) - 48
def lowD (l : List UInt8) : List Int := l.reverse.map dgI
theorem lowD_digs {l : List UInt8} (h : DgL l) : Digs (lowD l) := fun d hd => by
  obtain ⟨b, hb, rfl⟩ := List.mem_map.1 hd
  have := isDg_iff.1 (h b (List.mem_reverse.1 hb))
  unfold digit dgI
  omega
theorem lowD_len (l : List UInt8) : (lowD l).length = l.length := by simp [lowD]
theorem lowD_snoc (l : List UInt8) (b : UInt8) : lowD (l ++ [b]) = dgI b :: lowD l := by simp [lowD]
theorem lowD_app (a b : List UInt8) : lowD (a ++ b) = lowD b ++ lowD a := by simp [lowD]
theorem val_snoc0 : ∀ l : List Int, val (l ++ [0]) = val l
  | [] => rfl
  | d :: r => by
    have e1 : val (d :: r ++ [0]) = d + 10 * val (r ++ [0]) := rfl
    have e2 : val (d :: r) = d + 10 * val r := rfl
    rw [e1, e2, val_snoc0 r]
theorem lowD_drop : ∀ l : List UInt8, val (lowD (l.dropWhile is0)) = val (lowD l)
  | [] => rfl
  | c :: r => by
    rw [List.dropWhile_cons]
    by_cases h : is0 c = true
    · rw [if_pos h, lowD_drop r]
      have : c.toNat = 48 := by simpa [is0] using h
      have e : lowD (c :: r) = lowD r ++ [0] := by simp [lowD, dgI, this]
      rw [e, val_snoc0]
    · rw [if_neg h]
theorem val_zeros : ∀ (z : Nat) (l : List Int), val (List.replicate z 0 ++ l) = 10 ^ z * val l
  | 0, l => by simp
  | z + 1, l => by
    have e1 : val (List.replicate (z + 1) 0 ++ l) = 0 + 10 * val (List.replicate z 0 ++ l) := rfl
    rw [e1, val_zeros z l, Int.pow_succ, Int.zero_add, ← Int.mul_assoc, Int.mul_comm 10]
theorem DgL.drop0 : ∀ {l : List UInt8}, DgL l → DgL (l.dropWhile is0) := fun h b hb => h b ((List.dropWhile_sublist _).mem hb)
theorem DgL.rev {l : List UInt8} (h : DgL l) : DgL l.reverse := fun b hb => h b (List.mem_reverse.1 hb)
theorem DgL.app {a b : List UInt8} (h : DgL a) (k : DgL b) : DgL (a ++ b) := fun x hx => (List.mem_append.1 hx).elim (h x) (k x)
theorem DgL.take {l : List UInt8} (h : DgL l) (n : Nat) : DgL (l.take n) := fun b hb => h b (List.mem_of_mem_take hb)

theorem rev_zeros : ∀ (r : List UInt8), ∃ z, z + (r.dropWhile is0).length = r.length ∧ val (r.map dgI) = 10 ^ z * val ((r.dropWhile is0).map dgI)
  | [] => ⟨0, rfl, by simp⟩
  | c :: r => by
    rw [List.dropWhile_cons]
    by_cases h : is0 c = true
    · obtain ⟨z, h1, h2⟩ := rev_zeros r
      rw [if_pos h]
      refine ⟨z + 1, by simp only [List.length_cons]; omega, ?_⟩
      have : c.toNat = 48 := by simpa [is0] using h
      have e : val ((c :: r).map dgI) = dgI c + 10 * val (r.map dgI) := rfl
      rw [e, h2]
      simp only [dgI, this]
      rw [Int.pow_succ, Int.mul_comm (10 ^ z) 10, Int.mul_assoc]
      omega
    · rw [if_neg h]
      exact ⟨0, by simp, by simp⟩

def X40 : PV := .ibox [.d (iv 0), .d (iv 0)]
def HsIs (r : List UInt8) (sc : Int) : Prop :=
  V (F tab) r45_B0 (r45_S0 (.d (.str (bt r.reverse))) (.d (iv sc)) (.ibox [.d (iv 0), .d (iv 0)]) []) = some (.norm, r45_E0 (.d (.str (bt (r.dropWhile is0).reverse))) (.d (iv (sc - ((r.length : Int) - ((r.dropWhile is0).length : Int))))) (.ibox [.d (iv 0), .d (iv 0)]) [])
theorem hs_nil (sc : Int) : HsIs [] sc := by
  have hn := bt_nil []
  unfold HsIs
  have e : sc - ((([] : List UInt8).length : Int) - ((([] : List UInt8).dropWhile is0).length : Int)) = sc := by simp
  rw [e, r45_B0_eq]
  simp (disch := omega) only [go_sem, and_self, and_true, true_and, false_and, and_false, Nat.reduceAdd, Nat.reduceMul, Nat.reduceSub, Nat.reduceLeDiff, Nat.reduceLT, Nat.reduceGT, Nat.reduceEqDiff, Nat.reduceBEq, Int.reduceNeg, Int.reduceEq, Int.reduceLT, Int.reduceLE, Int.reduceBEq, Int.reduceToNat, Int.toNat_natCast, Int.natCast_zero, strD, r45_C0, hn, List.reverse_nil, List.dropWhile_nil, List.isEmpty_nil]
theorem hs_step (c : UInt8) (r : List UInt8) (sc : Int) (hl : r.length ≤ 100000) (hs : -3000000 ≤ sc ∧ sc ≤ 3000000) (ih : HsIs r (sc - 1)) : HsIs (c :: r) sc := by
  have hn := bt_nil (c :: r).reverse
  have hz : (bt (c :: r).reverse).size = r.length + 1 := by rw [bt_size]; simp
  have hg := bt_get (c :: r).reverse r.length
  have hx := bt_ext (c :: r).reverse 0 r.length
  rw [List.reverse_cons] at *
  rw [List.getElem?_append_right (by simp), List.length_reverse, Nat.sub_self] at hg
  rw [List.drop_zero, List.take_append_of_le_length (by simp), List.take_of_length_le (by simp)] at hx
  have e1 : ((r.length + 1 : Nat) : Int) - 1 = (r.length : Int) := by omega
  have i0 : (0 ≤ (r.length : Int)) = True := eq_true (by omega)
  have b1 : ((r.length : Int) ≤ ((r.length + 1 : Nat) : Int)) = True := eq_true (by omega)
  have b0 : (0 ≤ (0 : Int)) = True := eq_true (by omega)
  have ne : (r.reverse ++ [c]).isEmpty = false := by simp
  have t0 : (0 : Int).toNat = 0 := rfl
  rw [ne] at hn
  unfold HsIs at ih ⊢
  rw [r45_B0_eq, List.dropWhile_cons, List.reverse_cons]
  by_cases h : c.toNat = 48
  · have k : ((c.toNat : Int) == 48) = true := by simp; omega
    have e : is0 c = true := by simp [is0, h]
    have e3 : sc - (((c :: r).length : Int) - ((r.dropWhile is0).length : Int)) = sc - 1 - ((r.length : Int) - ((r.dropWhile is0).length : Int)) := by simp only [List.length_cons]; omega
    rw [e, if_pos rfl, e3]
    generalize bt (r.reverse ++ [c]) = B at *
    simp (disch := omega) only [go_sem, and_self, and_true, true_and, false_and, and_false, Nat.reduceAdd, Nat.reduceMul, Nat.reduceSub, Nat.reduceLeDiff, Nat.reduceLT, Nat.reduceGT, Nat.reduceEqDiff, Nat.reduceBEq, Int.reduceNeg, Int.reduceEq, Int.reduceLT, Int.reduceLE, Int.reduceBEq, Int.reduceToNat, Int.toNat_natCast, Int.natCast_zero, strD, r45_C0, r45_K0, hn, hz, hg, hx, e1, i0, b0, b1, t0, k, decide_true, w64]
    exact ih
  · have k : ((c.toNat : Int) == 48) = false := by simp; omega
    have e : is0 c = false := by simp [is0, h]
    have e3 : sc - (((c :: r).length : Int) - ((c :: r).length : Int)) = sc := by omega
    rw [e, if_neg (by simp), e3, List.reverse_cons]
    generalize bt (r.reverse ++ [c]) = B at *
    simp (disch := omega) only [go_sem, and_self, and_true, true_and, false_and, and_false, Nat.reduceAdd, Nat.reduceMul, Nat.reduceSub, Nat.reduceLeDiff, Nat.reduceLT, Nat.reduceGT, Nat.reduceEqDiff, Nat.reduceBEq, Int.reduceNeg, Int.reduceEq, Int.reduceLT, Int.reduceLE, Int.reduceBEq, Int.reduceToNat, Int.toNat_natCast, Int.natCast_zero, strD, r45_C0, r45_K0, hn, hz, hg, hx, e1, i0, b0, b1, t0, k, decide_true, w64]
theorem hs_loop : ∀ (r : List UInt8) (sc : Int), r.length ≤ 100000 → -3000000 + (r.length : Int) ≤ sc ∧ sc ≤ 3000000 → HsIs r sc
  | [], sc, _, _ => hs_nil sc
  | c :: r, sc, h, hs => by
    simp only [List.length_cons] at h hs
    exact hs_step c r sc (by omega) (by omega) (hs_loop r (sc - 1) (by omega) (by omega))

def HcIs (d : List UInt8) (sc : Int) (i : Nat) : Prop :=
  V (F tab) r45_B1 (r45_S1 (.d (.str (bt d))) (.d (iv sc)) (.ibox [.d (iv 0), .d (iv 0)]) (.d (iv (val (lowD (d.take i))))) (.d (iv d.length)) (.d (iv i)) []) = some (.norm, r45_E1 (.d (iv sc)) (.ibox [.d (iv 0), .d (iv 0)]) (.d (iv (val (lowD d)))) [])
theorem hc_end (d : List UInt8) (sc : Int) : HcIs d sc d.length := by
  have h1 : ((d.length : Int) < (d.length : Int)) = False := eq_false (by omega)
  unfold HcIs
  rw [List.take_length, r45_B1_eq]
  simp (disch := omega) only [go_sem, and_self, and_true, true_and, false_and, and_false, Nat.reduceAdd, Nat.reduceMul, Nat.reduceSub, Nat.reduceLeDiff, Nat.reduceLT, Nat.reduceGT, Nat.reduceEqDiff, Nat.reduceBEq, Int.reduceNeg, Int.reduceEq, Int.reduceLT, Int.reduceLE, Int.reduceBEq, Int.reduceToNat, Int.toNat_natCast, Int.natCast_zero, r45_C1, h1]
theorem hc_step (d : List UInt8) (hd : DgL d) (hl : d.length ≤ 15) (sc : Int) (i : Nat) (hi : i < d.length) (ih : HcIs d sc (i + 1)) : HcIs d sc i := by
  have h1 : ((i : Int) < (d.length : Int)) = True := eq_true (by omega)
  have i0 : (0 ≤ (i : Int)) = True := eq_true (by omega)
  have hx : d[i]? = some d[i] := List.getElem?_eq_getElem hi
  have htk : d.take (i + 1) = d.take i ++ [d[i]] := (List.take_append_getElem hi).symm
  have hdg := hd d[i] (List.getElem_mem _)
  have hg := bt_get d i
  have e1 : (i : Int) + 1 = ((i + 1 : Nat) : Int) := rfl
  rw [hx] at hg
  obtain ⟨v1, v2⟩ := val_bound (lowD_digs (hd.take i))
  have hp : (10 : Int) ^ (lowD (d.take i)).length ≤ 10 ^ 14 := p10_mono (by rw [lowD_len, List.length_take]; omega)
  have e14 : (10 : Int) ^ 14 = 100000000000000 := by decide
  have hv : val (lowD (d.take (i + 1))) = dgI d[i] + 10 * val (lowD (d.take i)) := by rw [htk, lowD_snoc]; rfl
  unfold HcIs at ih ⊢
  rw [hv] at ih
  generalize val (lowD (d.take i)) = v at *
  generalize d[i] = b at *
  obtain ⟨g1, g2⟩ := isDg_iff.1 hdg
  have e2 : dgI b + 10 * v = 10 * v + ((b.toNat : Int) - 48) := by unfold dgI; omega
  rw [e2] at ih
  rw [r45_B1_eq]
  simp (disch := omega) only [go_sem, and_self, and_true, true_and, false_and, and_false, Nat.reduceAdd, Nat.reduceMul, Nat.reduceSub, Nat.reduceLeDiff, Nat.reduceLT, Nat.reduceGT, Nat.reduceEqDiff, Nat.reduceBEq, Int.reduceNeg, Int.reduceEq, Int.reduceLT, Int.reduceLE, Int.reduceBEq, Int.reduceToNat, Int.toNat_natCast, Int.natCast_zero, r45_C1, r45_K1, h1, i0, hg, e1, ByteArray.size, List.size_toArray, w64, wu8]
  exact ih
theorem hc_loop (d : List UInt8) (hd : DgL d) (hl : d.length ≤ 15) (sc : Int) : ∀ (k i : Nat), i + k = d.length → HcIs d sc i
  | 0, i, h => by obtain rfl : i = d.length := by omega
                  exact hc_end d sc
  | k + 1, i, h => hc_step d hd hl sc i (by omega) (hc_loop d hd hl sc k (i + 1) (by omega))

def makeC (c : Int) (k : Nat) : Int × Int × Int := if makeOk c k then ((stripN c k).1, ((stripN c k).2 : Int), 0) else (0, 0, 8)
def tupC (p : Int × Int × Int) : PV := .tup [.d (.agg [iv p.1, iv p.2.1]), .d (iv p.2.2)]
theorem makeC_T (c : Int) (k : Nat) : madeT c k = tupC (makeC c k) := by
  unfold madeT makeC tupC
  rcases Bool.eq_false_or_eq_true (makeOk c k) with g | g
  · rw [g]; rfl
  · rw [g]; rfl
def heldK (d : List UInt8) (sc : Int) : Int × Int × Int := if d.length > 15 ∨ sc < 0 ∨ sc > 9 then (0, 0, 8) else makeC (val (lowD d)) sc.toNat

set_option maxHeartbeats 1000000 in
theorem held_tail (d : List UInt8) (hd : DgL d) (hl : d.length ≤ 200000) (sc : Int) :
    V (F tab) (r45_K4 ()) (r45_J4 (.d (.str (bt d))) (.d (iv sc)) (.ibox [.d (iv 0), .d (iv 0)]) []) = some (.ret, r45_R (.ibox [.d (iv (heldK d sc).1), .d (iv (heldK d sc).2.1)]) (.d (iv (heldK d sc).2.2)) []) := by
  have hs := bt_size d
  unfold heldK
  by_cases h15 : d.length > 15
  · have k1 : ((d.length : Int) > 15) = True := eq_true (by omega)
    rw [if_pos (.inl h15)]
    simp (disch := omega) only [go_sem, and_self, and_true, true_and, false_and, and_false, Nat.reduceAdd, Nat.reduceMul, Nat.reduceSub, Nat.reduceLeDiff, Nat.reduceLT, Nat.reduceGT, Nat.reduceEqDiff, Nat.reduceBEq, Int.reduceNeg, Int.reduceEq, Int.reduceLT, Int.reduceLE, Int.reduceBEq, Int.reduceToNat, Int.toNat_natCast, Int.natCast_zero, r45_K4, hs, k1]
  · have k1 : ((d.length : Int) > 15) = False := eq_false (by omega)
    by_cases h0 : sc < 0
    · have k2 : (sc < 0) = True := eq_true h0
      rw [if_pos (.inr (.inl h0))]
      simp (disch := omega) only [go_sem, and_self, and_true, true_and, false_and, and_false, Nat.reduceAdd, Nat.reduceMul, Nat.reduceSub, Nat.reduceLeDiff, Nat.reduceLT, Nat.reduceGT, Nat.reduceEqDiff, Nat.reduceBEq, Int.reduceNeg, Int.reduceEq, Int.reduceLT, Int.reduceLE, Int.reduceBEq, Int.reduceToNat, Int.toNat_natCast, Int.natCast_zero, r45_K4, hs, k1, k2]
    · have k2 : (sc < 0) = False := eq_false h0
      by_cases h9 : sc > 9
      · have k3 : (sc > 9) = True := eq_true h9
        rw [if_pos (.inr (.inr h9))]
        simp (disch := omega) only [go_sem, and_self, and_true, true_and, false_and, and_false, Nat.reduceAdd, Nat.reduceMul, Nat.reduceSub, Nat.reduceLeDiff, Nat.reduceLT, Nat.reduceGT, Nat.reduceEqDiff, Nat.reduceBEq, Int.reduceNeg, Int.reduceEq, Int.reduceLT, Int.reduceLE, Int.reduceBEq, Int.reduceToNat, Int.toNat_natCast, Int.natCast_zero, r45_K4, hs, k1, k2, k3]
      · have k3 : (sc > 9) = False := eq_false h9
        rw [if_neg (by omega)]
        have hc := hc_loop d hd (by omega) sc d.length 0 (by omega)
        have v0 : val (lowD (d.take 0)) = 0 := rfl
        have z : ((0 : Nat) : Int) = 0 := rfl
        unfold HcIs at hc
        rw [v0, z] at hc
        obtain ⟨b1, b2⟩ := val_bound (lowD_digs hd)
        have hp : (10 : Int) ^ (lowD d).length ≤ 10 ^ 15 := p10_mono (by rw [lowD_len]; omega)
        have e15 : (10 : Int) ^ 15 = 1000000000000000 := by decide
        obtain ⟨k, rfl⟩ : ∃ k : Nat, sc = k := ⟨sc.toNat, by omega⟩
        have hm := make_ok (val (lowD d)) k (by unfold i64; omega) (by omega) []
        rw [makeC_T] at hm
        rw [Int.toNat_natCast]
        generalize makeC (val (lowD d)) k = p at *
        obtain ⟨x, y, e⟩ := p
        simp only [tupC] at hm
        simp (disch := omega) only [go_sem, and_self, and_true, true_and, false_and, and_false, Nat.reduceAdd, Nat.reduceMul, Nat.reduceSub, Nat.reduceLeDiff, Nat.reduceLT, Nat.reduceGT, Nat.reduceEqDiff, Nat.reduceBEq, Int.reduceNeg, Int.reduceEq, Int.reduceLT, Int.reduceLE, Int.reduceBEq, Int.reduceToNat, Int.toNat_natCast, Int.natCast_zero, r45_K4, r45_K3, hs, k1, k2, k3]
        rw [r45_B1_n]
        erw [hc]
        simp (disch := omega) only [go_sem, and_self, and_true, true_and, false_and, and_false, Nat.reduceAdd, Nat.reduceMul, Nat.reduceSub, Nat.reduceLeDiff, Nat.reduceLT, Nat.reduceGT, Nat.reduceEqDiff, Nat.reduceBEq, Int.reduceNeg, Int.reduceEq, Int.reduceLT, Int.reduceLE, Int.reduceBEq, Int.reduceToNat, Int.toNat_natCast, Int.natCast_zero, hm]
end Go.Pe.T

namespace Go.Pe.T
def heldC (V : Int) (sc : Int) : Int × Int × Int := if 0 ≤ sc then makeC V sc.toNat else makeC (V * 10 ^ (-sc).toNat) 0
theorem strip_pow : ∀ (z k : Nat) (v : Int), stripN (10 ^ z * v) (k + z) = stripN v k
  | 0, k, v => by simp
  | z + 1, k, v => by
    have e : (10 : Int) ^ (z + 1) * v = 10 * (10 ^ z * v) := by rw [Int.pow_succ, Int.mul_comm (10 ^ z) 10, Int.mul_assoc]
    rw [e, show k + (z + 1) = k + z + 1 by omega, stripN, if_pos (Int.mul_tmod_right 10 _), Int.mul_tdiv_cancel_left _ (by omega), strip_pow z k v]
theorem makeC_pow (z k : Nat) (v : Int) : makeC (10 ^ z * v) (k + z) = makeC v k := by
  unfold makeC makeOk
  rw [strip_pow]
theorem makeC_zero (k : Nat) : makeC 0 k = (0, 0, 0) := by
  unfold makeC makeOk
  rw [strip_zero]
  rfl
theorem makeC_big {v : Int} (h : 1000000000000000 ≤ v) : makeC v 0 = (0, 0, 8) := by
  have hn : numIs v ((0 : Nat) : Int) = false := by
    unfold numIs
    have : ¬ (v < 1000000000000000) := by omega
    simp [this]
  unfold makeC makeOk
  rw [show stripN v 0 = (v, 0) from rfl, hn]
  rfl
theorem makeC_far {v : Int} {k : Nat} (ht : v.tmod 10 ≠ 0) (h : 1000000000000000 ≤ v ∨ 9 < k) : makeC v k = (0, 0, 8) := by
  have hn : numIs v (k : Int) = false := by
    unfold numIs
    rcases h with h | h
    · have : ¬ (v < 1000000000000000) := by omega
      simp [this]
    · have : ¬ ((k : Int) ≤ 9) := by omega
      simp [this]
  unfold makeC makeOk
  rw [strip_self k v (.inr ht), hn]
  rfl
def heldK5 (d : List UInt8) (sc : Int) : Int × Int × Int := if sc < 0 ∧ sc > -40 then heldK (d ++ List.replicate (-sc).toNat 48) 0 else heldK d sc
theorem lowD_zeros (m : Nat) : lowD (List.replicate m 48) = List.replicate m 0 := by
  simp only [lowD, List.reverse_replicate, List.map_replicate]
  rfl
theorem held_math (d : List UInt8) (z : Nat) (sc : Int) (ht : Top (lowD d)) (hne : d ≠ []) (hm : (val (lowD d)).tmod 10 ≠ 0) : heldK5 d sc = heldC (10 ^ z * val (lowD d)) (sc + z) := by
  have hl := lowD_len d
  have hlp : 0 < d.length := List.length_pos_iff.2 hne
  have hne2 : lowD d ≠ [] := by intro e; rw [e] at hl; simp at hl; omega
  have b1 := top_bound ht hne2
  have b2 := (val_bound ht.1).2
  rw [hl] at b1 b2
  have e15 : (10 : Int) ^ 15 = 1000000000000000 := by decide
  have big : ∀ m : Nat, d.length + m > 15 → 1000000000000000 ≤ 10 ^ m * val (lowD d) := by
    intro m h
    have h1 : (10 : Int) ^ 15 ≤ 10 ^ (m + (d.length - 1)) := p10_mono (by omega)
    have h2 : (10 : Int) ^ (m + (d.length - 1)) ≤ 10 ^ m * val (lowD d) := by
      rw [Int.pow_add]
      exact Int.mul_le_mul_of_nonneg_left b1 (Int.le_of_lt (p10_pos m))
    omega
  unfold heldK5
  by_cases h0 : 0 ≤ sc
  · obtain ⟨k, rfl⟩ : ∃ k : Nat, sc = k := ⟨sc.toNat, by omega⟩
    have hk : ((k : Int) + (z : Int)) = ((k + z : Nat) : Int) := by omega
    rw [if_neg (by omega), heldC, if_pos (by omega), hk, Int.toNat_natCast, makeC_pow, heldK]
    by_cases hb : d.length > 15 ∨ (k : Int) < 0 ∨ (k : Int) > 9
    · rw [if_pos hb, makeC_far hm]
      rcases hb with h | h | h
      · left; have := big 0 (by omega); simpa using this
      · omega
      · right; omega
    · rw [if_neg hb, Int.toNat_natCast]
  · obtain ⟨m, rfl⟩ : ∃ m : Nat, sc = -(m : Int) := ⟨(-sc).toNat, by omega⟩
    have hr : heldC (10 ^ z * val (lowD d)) (-(m : Int) + (z : Int)) = makeC (10 ^ m * val (lowD d)) 0 := by
      unfold heldC
      by_cases hz : m ≤ z
      · have e1 : (-(m : Int) + (z : Int)).toNat = 0 + (z - m) := by omega
        have e2 : (10 : Int) ^ z * val (lowD d) = 10 ^ (z - m) * (10 ^ m * val (lowD d)) := by
          rw [← Int.mul_assoc, ← Int.pow_add, show z - m + m = z by omega]
        rw [if_pos (by omega), e1, e2, makeC_pow]
      · have e1 : (-(-(m : Int) + (z : Int))).toNat = m - z := by omega
        have e2 : (10 : Int) ^ z * val (lowD d) * 10 ^ (m - z) = 10 ^ m * val (lowD d) := by
          rw [Int.mul_comm (10 ^ z), Int.mul_assoc, ← Int.pow_add, show z + (m - z) = m by omega, Int.mul_comm]
        rw [if_neg (by omega), e1, e2]
    rw [hr]
    have e3 : (-(-(m : Int))).toNat = m := by omega
    by_cases h40 : m < 40
    · have hv : val (lowD (d ++ List.replicate m 48)) = 10 ^ m * val (lowD d) := by rw [lowD_app, lowD_zeros, val_zeros]
      rw [if_pos (by omega), e3, heldK, hv]
      have hll : (d ++ List.replicate m 48).length = d.length + m := by simp
      rw [hll]
      by_cases hb : d.length + m > 15
      · rw [if_pos (.inl hb), makeC_big (big m hb)]
      · rw [if_neg (by omega)]; rfl
    · rw [if_neg (by omega), heldK, if_pos (.inr (.inl (by omega))), makeC_big (big m (by omega))]

theorem noughts_bt (n : Nat) : noughts n = bt (List.replicate n 48) := rfl
set_option maxHeartbeats 1000000 in
theorem held_k5 (d : List UInt8) (hd : DgL d) (hl : d.length ≤ 100000) (sc : Int) (hs : -3000000 ≤ sc ∧ sc ≤ 3000000) :
    V (F tab) (r45_K5 ()) (r45_J5 (.d (.str (bt d))) (.d (iv sc)) (.ibox [.d (iv 0), .d (iv 0)]) []) = some (.ret, r45_R (.ibox [.d (iv (heldK5 d sc).1), .d (iv (heldK5 d sc).2.1)]) (.d (iv (heldK5 d sc).2.2)) []) := by
  unfold heldK5
  by_cases h0 : sc < 0
  · have k1 : (sc < 0) = True := eq_true h0
    by_cases h40 : sc > -40
    · have k2 : (sc > -40) = True := eq_true h40
      obtain ⟨m, rfl⟩ : ∃ m : Nat, sc = -(m : Int) := ⟨(-sc).toNat, by omega⟩
      have e3 : (-(-(m : Int))).toNat = m := by omega
      have e4 : 0 - (-(m : Int)) = (m : Int) := by omega
      have hr := rep_ok m (by omega) []
      rw [noughts_bt] at hr
      have ha := str_add d (List.replicate m 48) (by rw [List.length_replicate]; omega)
      have ht := held_tail (d ++ List.replicate m 48) (hd.app fun b hb => by obtain ⟨_, rfl⟩ := List.mem_replicate.1 hb; decide) (by rw [List.length_append, List.length_replicate]; omega) 0
      rw [if_pos ⟨h0, h40⟩, e3]
      simp (disch := omega) only [go_sem, and_self, and_true, true_and, false_and, and_false, Nat.reduceAdd, Nat.reduceMul, Nat.reduceSub, Nat.reduceLeDiff, Nat.reduceLT, Nat.reduceGT, Nat.reduceEqDiff, Nat.reduceBEq, Int.reduceNeg, Int.reduceEq, Int.reduceLT, Int.reduceLE, Int.reduceBEq, Int.reduceToNat, Int.toNat_natCast, Int.natCast_zero, r45_K5, k1, k2, e4, hr, ha, w64]
      exact ht
    · have k2 : (sc > -40) = False := eq_false h40
      rw [if_neg (by omega)]
      have ht := held_tail d hd (by omega) sc
      simp (disch := omega) only [go_sem, and_self, and_true, true_and, false_and, and_false, Nat.reduceAdd, Nat.reduceMul, Nat.reduceSub, Nat.reduceLeDiff, Nat.reduceLT, Nat.reduceGT, Nat.reduceEqDiff, Nat.reduceBEq, Int.reduceNeg, Int.reduceEq, Int.reduceLT, Int.reduceLE, Int.reduceBEq, Int.reduceToNat, Int.toNat_natCast, Int.natCast_zero, r45_K5, k1, k2]
      exact ht
  · have k1 : (sc < 0) = False := eq_false h0
    rw [if_neg (by omega)]
    have ht := held_tail d hd (by omega) sc
    simp (disch := omega) only [go_sem, and_self, and_true, true_and, false_and, and_false, Nat.reduceAdd, Nat.reduceMul, Nat.reduceSub, Nat.reduceLeDiff, Nat.reduceLT, Nat.reduceGT, Nat.reduceEqDiff, Nat.reduceBEq, Int.reduceNeg, Int.reduceEq, Int.reduceLT, Int.reduceLE, Int.reduceBEq, Int.reduceToNat, Int.toNat_natCast, Int.natCast_zero, r45_K5, k1]
    exact ht

theorem dw_head {p : UInt8 → Bool} : ∀ {l : List UInt8} {c : UInt8} {t : List UInt8}, l.dropWhile p = c :: t → p c = false
  | [], c, t, h => by simp at h
  | a :: l, c, t, h => by
    rw [List.dropWhile_cons] at h
    by_cases ha : p a = true
    · rw [if_pos ha] at h
      exact dw_head h
    · rw [if_neg ha] at h
      simp only [List.cons.injEq] at h
      rw [← h.1]; simpa using ha
theorem dw0_le : ∀ l : List UInt8, (l.dropWhile is0).length ≤ l.length := fun l => (List.dropWhile_sublist _).length_le

set_option maxHeartbeats 1000000 in
theorem held_ok (d : List UInt8) (hd : DgL d) (hl : d.length ≤ 100000) (sc : Int) (hs : -2000000 ≤ sc ∧ sc ≤ 2000000) (hp : List Ent) :
    F tab 45 [.d (.str (bt d)), .d (iv sc)] hp = some (.ret (tupC (heldC (val (lowD d)) sc)) hp) := by
  have htl := trimLeft_ok d hl []
  have hu := dw0_le d
  have hL := hs_loop (d.dropWhile is0).reverse sc (by rw [List.length_reverse]; omega) (by rw [List.length_reverse]; omega)
  have hdu := hd.drop0
  have hv := lowD_drop d
  have hhd : ∀ c t, d.dropWhile is0 = c :: t → is0 c = false := fun c t h => dw_head h
  obtain ⟨z, z1, z2⟩ := rev_zeros (d.dropWhile is0).reverse
  unfold HsIs at hL
  rw [List.reverse_reverse] at hL
  rw [← hv]
  generalize d.dropWhile is0 = u at *
  have hv2 : val (lowD u) = 10 ^ z * val ((u.reverse.dropWhile is0).map dgI) := z2
  rw [hv2]
  have e1 : sc - ((u.reverse.length : Int) - ((u.reverse.dropWhile is0).length : Int)) = sc - z := by omega
  rw [e1] at hL
  have hr' := dw0_le u.reverse
  have hsf : u.reverse.dropWhile is0 <:+ u.reverse := List.dropWhile_suffix _
  have hdr : DgL (u.reverse.dropWhile is0) := fun b hb => hdu b (List.mem_reverse.1 (hsf.sublist.mem hb))
  have hhr : ∀ c t, u.reverse.dropWhile is0 = c :: t → is0 c = false := fun c t h => dw_head h
  rw [List.length_reverse] at hr' z1
  generalize u.reverse.dropWhile is0 = r at *
  have hn := bt_nil r.reverse
  refine f45 rfl ?_
  simp (disch := omega) only [go_sem, and_self, and_true, true_and, false_and, and_false, Nat.reduceAdd, Nat.reduceMul, Nat.reduceSub, Nat.reduceLeDiff, Nat.reduceLT, Nat.reduceGT, Nat.reduceEqDiff, Nat.reduceBEq, Int.reduceNeg, Int.reduceEq, Int.reduceLT, Int.reduceLE, Int.reduceBEq, Int.reduceToNat, Int.toNat_natCast, Int.natCast_zero, r45_T, r45, htl]
  rw [r45_B0_n]
  erw [hL]
  by_cases h0 : r = []
  · subst h0
    have e2 : heldC (10 ^ z * val (([] : List UInt8).map dgI)) sc = (0, 0, 0) := by
      have v0 : val (([] : List UInt8).map dgI) = 0 := rfl
      rw [v0, Int.mul_zero]
      unfold heldC
      split
      · exact makeC_zero _
      · rw [Int.zero_mul]; exact makeC_zero _
    rw [e2]
    simp (disch := omega) only [go_sem, and_self, and_true, true_and, false_and, and_false, Nat.reduceAdd, Nat.reduceMul, Nat.reduceSub, Nat.reduceLeDiff, Nat.reduceLT, Nat.reduceGT, Nat.reduceEqDiff, Nat.reduceBEq, Int.reduceNeg, Int.reduceEq, Int.reduceLT, Int.reduceLE, Int.reduceBEq, Int.reduceToNat, Int.toNat_natCast, Int.natCast_zero, strD, r45_K6, hn, List.reverse_nil, List.isEmpty_nil, tupC]
  · have hf : r.reverse.isEmpty = false := by simpa using h0
    rw [hf] at hn
    have hlr : lowD r.reverse = r.map dgI := by simp [lowD]
    have hk := held_k5 r.reverse (hdr.rev) (by rw [List.length_reverse]; omega) (sc - z) (by omega)
    have hm : (val (lowD r.reverse)).tmod 10 ≠ 0 := by
      rw [hlr]
      obtain ⟨c, t, rfl⟩ := List.exists_cons_of_ne_nil h0
      have hc := hhr c t rfl
      have hc1 := isDg_iff.1 (hdr c (by simp))
      have hc2 : c.toNat ≠ 48 := by simpa [is0] using hc
      have e : val ((c :: t).map dgI) = dgI c + 10 * val (t.map dgI) := rfl
      have hvt : 0 ≤ val (t.map dgI) := (val_bound (l := t.map dgI) (fun d hd => by
        obtain ⟨b, hb, rfl⟩ := List.mem_map.1 hd
        have := isDg_iff.1 (hdr b (by simp [hb]))
        unfold digit dgI; omega)).1
      have hdc : dgI c = (c.toNat : Int) - 48 := rfl
      rw [e, Int.tmod_eq_emod_of_nonneg (by omega)]
      omega
    have htop : Top (lowD r.reverse) := by
      refine ⟨lowD_digs hdr.rev, ?_⟩
      intro x hx
      rw [hlr] at hx
      obtain ⟨q, hq⟩ := hsf
      rw [List.getLast?_map, Option.map_eq_some_iff] at hx
      obtain ⟨b, hb, rfl⟩ := hx
      have hb2 : u.reverse.getLast? = some b := by
        rw [← hq, List.getLast?_append, hb]; rfl
      rw [List.getLast?_reverse] at hb2
      obtain ⟨t, rfl⟩ : ∃ t, u = b :: t := by
        cases u with
        | nil => simp at hb2
        | cons a t => simp at hb2; exact ⟨t, by rw [hb2]⟩
      have h1 := hhd b t rfl
      have h2 : b.toNat ≠ 48 := by simpa [is0] using h1
      have h3 := isDg_iff.1 (hdu b (by simp))
      unfold dgI
      omega
    have hmath := held_math r.reverse z (sc - z) htop (by simpa using h0) hm
    rw [hlr, show sc - (z : Int) + (z : Int) = sc by omega] at hmath
    rw [← hmath]
    simp (disch := omega) only [go_sem, and_self, and_true, true_and, false_and, and_false, Nat.reduceAdd, Nat.reduceMul, Nat.reduceSub, Nat.reduceLeDiff, Nat.reduceLT, Nat.reduceGT, Nat.reduceEqDiff, Nat.reduceBEq, Int.reduceNeg, Int.reduceEq, Int.reduceLT, Int.reduceLE, Int.reduceBEq, Int.reduceToNat, Int.toNat_natCast, Int.natCast_zero, strD, r45_K6, hn]
    erw [hk]
    simp (disch := omega) only [go_sem, and_self, and_true, true_and, false_and, and_false, Nat.reduceAdd, Nat.reduceMul, Nat.reduceSub, Nat.reduceLeDiff, Nat.reduceLT, Nat.reduceGT, Nat.reduceEqDiff, Nat.reduceBEq, Int.reduceNeg, Int.reduceEq, Int.reduceLT, Int.reduceLE, Int.reduceBEq, Int.reduceToNat, Int.toNat_natCast, Int.natCast_zero, tupC]
end Go.Pe.T

namespace Go.Pe.T
def isNeg : List UInt8 → Bool
  | c :: _ => c.toNat == 45
  | [] => false
def absT : List UInt8 → List UInt8
  | c :: r => if c.toNat == 45 then r else c :: r
  | [] => []
theorem bt_one (c : UInt8) : ((bt [c]).toList == (⟨#[45]⟩ : ByteArray).toList) = (c.toNat == 45) := by
  rw [ByteArray.toList_eq, ByteArray.toList_eq]
  show ([c] == [45]) = _
  by_cases h : c = 45
  · subst h; rfl
  · have : c.toNat ≠ 45 := fun e => h (UInt8.toNat_inj.1 e)
    have e2 : (c.toNat == 45) = false := by simpa using this
    rw [e2]
    simp [h]
theorem hasPre_ok (L : List UInt8) (hp : List Ent) : F tab 58 [.d (.str (bt L)), .d (.str ⟨#[45]⟩)] hp = some (.ret (.d (.bool (isNeg L))) hp) := by
  have e2 : (⟨#[45]⟩ : ByteArray).size = 1 := rfl
  refine f58 rfl ?_
  cases L with
  | nil =>
    have hs := bt_size []
    have k : (((0 : Nat) : Int) ≥ ((1 : Nat) : Int)) = False := eq_false (by omega)
    have k2 : ((0 : Int) ≥ ((1 : Nat) : Int)) = False := eq_false (by omega)
    simp (disch := omega) only [go_sem, and_self, and_true, true_and, false_and, and_false, Nat.reduceAdd, Nat.reduceMul, Nat.reduceSub, Nat.reduceLeDiff, Nat.reduceLT, Nat.reduceGT, Nat.reduceEqDiff, Nat.reduceBEq, Int.reduceNeg, Int.reduceEq, Int.reduceLT, Int.reduceLE, Int.reduceBEq, Int.reduceToNat, Int.toNat_natCast, Int.natCast_zero, strD, r58_T, r58, hs, e2, k, k2, isNeg]
  | cons c r =>
    have hs := bt_size (c :: r)
    have k : (((r.length + 1 : Nat) : Int) ≥ ((1 : Nat) : Int)) = True := eq_true (by omega)
    have k1 : (((1 : Nat) : Int) ≤ ((r.length + 1 : Nat) : Int)) = True := eq_true (by omega)
    have i0 : (0 ≤ (0 : Int)) = True := eq_true (by omega)
    have k2 : (0 ≤ ((1 : Nat) : Int)) = True := eq_true (by omega)
    have t0 : (0 : Int).toNat = 0 := rfl
    have hx : (bt (c :: r)).extract 0 1 = bt [c] := bt_ext (c :: r) 0 1
    have h1 := bt_one c
    rw [List.length_cons] at hs
    simp (disch := omega) only [go_sem, and_self, and_true, true_and, false_and, and_false, Nat.reduceAdd, Nat.reduceMul, Nat.reduceSub, Nat.reduceLeDiff, Nat.reduceLT, Nat.reduceGT, Nat.reduceEqDiff, Nat.reduceBEq, Int.reduceNeg, Int.reduceEq, Int.reduceLT, Int.reduceLE, Int.reduceBEq, Int.reduceToNat, Int.toNat_natCast, Int.natCast_zero, strD, r58_T, r58, hs, e2, k, k1, k2, i0, t0, hx, h1, isNeg, decide_true]
theorem trimPre_ok (L : List UInt8) (hp : List Ent) : F tab 49 [.d (.str (bt L)), .d (.str ⟨#[45]⟩)] hp = some (.ret (.d (.str (bt (absT L)))) hp) := by
  have hh := hasPre_ok L []
  have e2 : (⟨#[45]⟩ : ByteArray).size = 1 := rfl
  refine f49 rfl ?_
  cases L with
  | nil =>
    rw [show isNeg [] = false from rfl] at hh
    simp (disch := omega) only [go_sem, and_self, and_true, true_and, false_and, and_false, Nat.reduceAdd, Nat.reduceMul, Nat.reduceSub, Nat.reduceLeDiff, Nat.reduceLT, Nat.reduceGT, Nat.reduceEqDiff, Nat.reduceBEq, Int.reduceNeg, Int.reduceEq, Int.reduceLT, Int.reduceLE, Int.reduceBEq, Int.reduceToNat, Int.toNat_natCast, Int.natCast_zero, strD, r49_T, r49, hh, absT]
  | cons c r =>
    have hs := bt_size (c :: r)
    have hct := bt_cut1 c r
    have b0 : (0 ≤ ((1 : Nat) : Int)) = True := eq_true (by omega)
    have b3 : (((1 : Nat) : Int) ≤ ((r.length + 1 : Nat) : Int)) = True := eq_true (by omega)
    have b4 : (((r.length + 1 : Nat) : Int) ≤ ((r.length + 1 : Nat) : Int)) = True := eq_true (by omega)
    rw [List.length_cons] at hs
    rcases Bool.eq_false_or_eq_true (c.toNat == 45) with g | g
    · rw [show isNeg (c :: r) = true from g] at hh
      rw [absT, g, if_pos rfl]
      simp (disch := omega) only [go_sem, and_self, and_true, true_and, false_and, and_false, Nat.reduceAdd, Nat.reduceMul, Nat.reduceSub, Nat.reduceLeDiff, Nat.reduceLT, Nat.reduceGT, Nat.reduceEqDiff, Nat.reduceBEq, Int.reduceNeg, Int.reduceEq, Int.reduceLT, Int.reduceLE, Int.reduceBEq, Int.reduceToNat, Int.toNat_natCast, Int.natCast_zero, strD, r49_T, r49, hh, hs, hct, e2, b0, b3, b4, decide_true]
    · rw [show isNeg (c :: r) = false from g] at hh
      rw [absT, g, if_neg (by simp)]
      simp (disch := omega) only [go_sem, and_self, and_true, true_and, false_and, and_false, Nat.reduceAdd, Nat.reduceMul, Nat.reduceSub, Nat.reduceLeDiff, Nat.reduceLT, Nat.reduceGT, Nat.reduceEqDiff, Nat.reduceBEq, Int.reduceNeg, Int.reduceEq, Int.reduceLT, Int.reduceLE, Int.reduceBEq, Int.reduceToNat, Int.toNat_natCast, Int.natCast_zero, strD, r49_T, r49, hh]
theorem tp_ok (L : List UInt8) (hp : List Ent) : F tab 43 [.d (.str (bt L)), .d (.str ⟨#[45]⟩)] hp = some (.ret (.d (.str (bt (absT L)))) hp) := by
  have hh := trimPre_ok L []
  refine f43 rfl ?_
  simp (disch := omega) only [go_sem, and_self, and_true, true_and, false_and, and_false, Nat.reduceAdd, Nat.reduceMul, Nat.reduceSub, Nat.reduceLeDiff, Nat.reduceLT, Nat.reduceGT, Nat.reduceEqDiff, Nat.reduceBEq, Int.reduceNeg, Int.reduceEq, Int.reduceLT, Int.reduceLE, Int.reduceBEq, Int.reduceToNat, Int.toNat_natCast, Int.natCast_zero, strD, r43_T, r43, hh]

theorem powP_bound (L : List UInt8) : -1000000 ≤ (powP L).1 ∧ (powP L).1 ≤ 1000000 := by
  cases L with
  | nil => simp [powP]
  | cons c r =>
    rw [powP]
    split
    · have := capN_le ((sgnP r).2.takeWhile isDg) 0 (by omega)
      rcases sgnP_one r with h | h
      · rw [h]; constructor <;> simp only <;> omega
      · rw [h]; constructor <;> simp only <;> omega
    · simp
theorem noP_props {n : Nat} : DgL noP.1 ∧ DgL noP.2.1 ∧ noP.1.length ≤ n ∧ noP.2.1.length ≤ n ∧ -1000000 ≤ noP.2.2.1 ∧ noP.2.2.1 ≤ 1000000 := by
  refine ⟨fun b hb => ?_, fun b hb => ?_, Nat.zero_le _, Nat.zero_le _, ?_, ?_⟩
  · simp [noP] at hb
  · simp [noP] at hb
  · decide
  · decide
theorem partsP_props (L : List UInt8) : DgL (partsP L).1 ∧ DgL (partsP L).2.1 ∧ (partsP L).1.length ≤ L.length ∧ (partsP L).2.1.length ≤ L.length ∧ -1000000 ≤ (partsP L).2.2.1 ∧ (partsP L).2.2.1 ≤ 1000000 := by
  unfold partsP
  have hA := tw_dgl L
  have hl := tw_le L
  have hd := dw_le L
  split
  · exact noP_props
  · generalize L.takeWhile isDg = A at *
    generalize L.dropWhile isDg = R at *
    have hn : DgL [] := fun b hb => by simp at hb
    cases R with
    | nil => exact ⟨hA, hn, hl, Nat.zero_le _, (powP_bound []).1, (powP_bound []).2⟩
    | cons c r =>
      rw [fracP]
      split
      · split
        · exact noP_props
        · have h2 := tw_le r
          simp only [List.length_cons] at hd
          exact ⟨hA, tw_dgl r, hl, by simp only [finP]; omega, (powP_bound _).1, (powP_bound _).2⟩
      · exact ⟨hA, hn, hl, Nat.zero_le _, (powP_bound _).1, (powP_bound _).2⟩
theorem makeC_bound (c : Int) (k : Nat) : -1000000000000000 < (makeC c k).1 ∧ (makeC c k).1 < 1000000000000000 := by
  unfold makeC
  rcases Bool.eq_false_or_eq_true (makeOk c k) with g | g
  · rw [g]
    unfold makeOk at g
    obtain ⟨_, _, _, h⟩ := numIs_inv g
    exact h
  · rw [g]
    simp
theorem heldC_bound (V sc : Int) : -1000000000000000 < (heldC V sc).1 ∧ (heldC V sc).1 < 1000000000000000 := by
  unfold heldC
  split
  · exact makeC_bound _ _
  · exact makeC_bound _ _

def parseC (L : List UInt8) : Int × Int × Int :=
  if (partsP (absT L)).2.2.2 then
    (if isNeg L then -(heldC (val (lowD ((partsP (absT L)).1 ++ (partsP (absT L)).2.1))) (((partsP (absT L)).2.1.length : Int) - (partsP (absT L)).2.2.1)).1 else (heldC (val (lowD ((partsP (absT L)).1 ++ (partsP (absT L)).2.1))) (((partsP (absT L)).2.1.length : Int) - (partsP (absT L)).2.2.1)).1,
      (heldC (val (lowD ((partsP (absT L)).1 ++ (partsP (absT L)).2.1))) (((partsP (absT L)).2.1.length : Int) - (partsP (absT L)).2.2.1)).2)
  else (0, 0, 3)
theorem abs_len (L : List UInt8) : (absT L).length = L.length - (if isNeg L then 1 else 0) ∧ (isNeg L = true → 0 < L.length) := by
  cases L with
  | nil => simp [absT, isNeg]
  | cons c r =>
    rcases Bool.eq_false_or_eq_true (c.toNat == 45) with g | g
    · rw [absT, isNeg, g]; simp
    · rw [absT, isNeg, g]; simp

set_option maxHeartbeats 1000000 in
theorem parse_ok (L : List UInt8) (hl : L.length ≤ 10000) (hp : List Ent) : F tab 36 [.d (.str (bt L))] hp = some (.ret (tupC (parseC L)) hp) := by
  have ht := tp_ok L []
  obtain ⟨al, al2⟩ := abs_len L
  have hpt := parts_ok (absT L) (by omega) []
  obtain ⟨p1, p2, p3, p4, p5, p6⟩ := partsP_props (absT L)
  have hs1 := bt_size (absT L)
  have hs2 := bt_size L
  unfold parseC
  generalize absT L = T at *
  generalize partsP T = p at *
  obtain ⟨A, B, e, ok⟩ := p
  simp only at *
  refine f36 rfl ?_
  rcases Bool.eq_false_or_eq_true ok with g | g
  · subst g
    rw [if_pos rfl]
    have ha := str_add A B (by omega)
    have hsB := bt_size B
    have hh := held_ok (A ++ B) (p1.app p2) (by rw [List.length_append]; omega) ((B.length : Int) - e) (by omega) []
    have hb := heldC_bound (val (lowD (A ++ B))) ((B.length : Int) - e)
    generalize heldC (val (lowD (A ++ B))) ((B.length : Int) - e) = h at *
    obtain ⟨x, y, er⟩ := h
    simp only [tupC] at hh hb ⊢
    rcases Bool.eq_false_or_eq_true (isNeg L) with n | n
    · rw [n] at al al2 ⊢
      have := al2 rfl
      have k : ((T.length : Int) < (L.length : Int)) = True := eq_true (by simp only [if_true] at al; omega)
      simp only [if_true]
      have e0 : 0 - x = -x := by omega
      simp (disch := omega) only [go_sem, and_self, and_true, true_and, false_and, and_false, Nat.reduceAdd, Nat.reduceMul, Nat.reduceSub, Nat.reduceLeDiff, Nat.reduceLT, Nat.reduceGT, Nat.reduceEqDiff, Nat.reduceBEq, Int.reduceNeg, Int.reduceEq, Int.reduceLT, Int.reduceLE, Int.reduceBEq, Int.reduceToNat, Int.toNat_natCast, Int.natCast_zero, r36_T, r36, r36_K1, ht, hpt, ha, hsB, hs1, hs2, hh, k, e0, w64]
    · rw [n] at al ⊢
      have k : ((T.length : Int) < (L.length : Int)) = False := eq_false (by simp only [Bool.false_eq_true, if_false] at al; omega)
      simp only [Bool.false_eq_true, if_false]
      simp (disch := omega) only [go_sem, and_self, and_true, true_and, false_and, and_false, Nat.reduceAdd, Nat.reduceMul, Nat.reduceSub, Nat.reduceLeDiff, Nat.reduceLT, Nat.reduceGT, Nat.reduceEqDiff, Nat.reduceBEq, Int.reduceNeg, Int.reduceEq, Int.reduceLT, Int.reduceLE, Int.reduceBEq, Int.reduceToNat, Int.toNat_natCast, Int.natCast_zero, r36_T, r36, r36_K1, ht, hpt, ha, hsB, hs1, hs2, hh, k, w64]
  · subst g
    rw [if_neg (by simp)]
    simp (disch := omega) only [go_sem, and_self, and_true, true_and, false_and, and_false, Nat.reduceAdd, Nat.reduceMul, Nat.reduceSub, Nat.reduceLeDiff, Nat.reduceLT, Nat.reduceGT, Nat.reduceEqDiff, Nat.reduceBEq, Int.reduceNeg, Int.reduceEq, Int.reduceLT, Int.reduceLE, Int.reduceBEq, Int.reduceToNat, Int.toNat_natCast, Int.natCast_zero, r36_T, r36, r36_K1, ht, hpt, tupC]
end Go.Pe.T

namespace Go.Pe.T
def lowB (c : Int) : Bool := decide (c ≥ 97) && decide (c ≤ 122)
def upB (c : Int) : Bool := decide (c ≥ 65) && decide (c ≤ 90)
def digB (c : Int) : Bool := decide (c ≥ 48) && decide (c ≤ 57)
def letB (c : Int) : Bool := lowB c || (upB c || c == 95)

theorem letter_ok (c : Int) (hp : List Ent) : F tab 20 [.d (.int .u8 c)] hp = some (.ret (.d (.bool (letB c))) hp) := by
  refine f20 rfl ?_
  unfold letB lowB upB
  by_cases g1 : c ≥ 97 <;> by_cases g2 : c ≤ 122 <;> by_cases g3 : c ≥ 65 <;> by_cases g4 : c ≤ 90 <;>
    simp (disch := omega) only [go_sem, and_self, and_true, true_and, false_and, and_false, Nat.reduceAdd, Nat.reduceMul, Nat.reduceSub, Nat.reduceLeDiff, Nat.reduceLT, Nat.reduceGT, Nat.reduceEqDiff, Nat.reduceBEq, Int.reduceNeg, Int.reduceEq, Int.reduceLT, Int.reduceLE, Int.reduceBEq, Int.reduceToNat, Int.toNat_natCast, Int.natCast_zero, r20_T, r20, g1, g2, g3, g4, decide_true, decide_false, Bool.true_and, Bool.false_and, Bool.true_or, Bool.false_or, Bool.and_true, Bool.and_false]
theorem digit_ok (c : Int) (hp : List Ent) : F tab 23 [.d (.int .u8 c)] hp = some (.ret (.d (.bool (digB c))) hp) := by
  refine f23 rfl ?_
  unfold digB
  by_cases g1 : c ≥ 48 <;> by_cases g2 : c ≤ 57 <;>
    simp (disch := omega) only [go_sem, and_self, and_true, true_and, false_and, and_false, Nat.reduceAdd, Nat.reduceMul, Nat.reduceSub, Nat.reduceLeDiff, Nat.reduceLT, Nat.reduceGT, Nat.reduceEqDiff, Nat.reduceBEq, Int.reduceNeg, Int.reduceEq, Int.reduceLT, Int.reduceLE, Int.reduceBEq, Int.reduceToNat, Int.toNat_natCast, Int.natCast_zero, r23_T, r23, g1, g2, decide_true, decide_false, Bool.true_and, Bool.false_and]
def bs (s : ByteArray) : List UInt8 := s.data.toList
theorem bs_len (s : ByteArray) : (bs s).length = s.size := rfl
theorem bs_toList (s : ByteArray) : s.toList = bs s := ByteArray.toList_eq s
theorem bs_get {s : ByteArray} {i : Nat} (h : i < s.size) : s[i]? = some s[i] ∧ (bs s).drop i = s[i] :: (bs s).drop (i + 1) := by
  have e : s[i] = s.data.toList[i]'h := rfl
  refine ⟨getElem?_pos s i h, ?_⟩
  unfold bs
  rw [e]; exact List.drop_eq_getElem_cons h
theorem bs_end {s : ByteArray} {i : Nat} (h : s.size ≤ i) : (bs s).drop i = [] := List.drop_of_length_le h

theorem isEb (s : ByteArray) : (s.toList == (⟨#[]⟩ : ByteArray).toList) = !decide (s.size ≠ 0) := by
  have e0 : bs (⟨#[]⟩ : ByteArray) = [] := rfl
  rw [bs_toList, bs_toList, e0]
  have h := bs_len s
  cases hb : bs s with
  | nil => rw [hb] at h; simp only [List.length_nil] at h; simp [← h]
  | cons a l => rw [hb] at h; simp only [List.length_cons] at h; simp [← h]
def hasB (l : List ByteArray) (s : ByteArray) : Bool := l.any fun x => x.toList == s.toList

theorem hasB_drop {l : List ByteArray} {s : ByteArray} {i : Nat} (hi : i < l.length) : hasB (l.drop i) s = ((l[i].toList == s.toList) || hasB (l.drop (i + 1)) s) := by
  rw [List.drop_eq_getElem_cons hi]; rfl

end Go.Pe.T

namespace Go.Pe.T

def keysL : List ByteArray := [⟨#[100, 101, 102]⟩, ⟨#[105, 102]⟩, ⟨#[116, 104, 101, 110]⟩, ⟨#[101, 108, 115, 101]⟩, ⟨#[101, 110, 100]⟩, ⟨#[116, 114, 121]⟩, ⟨#[99, 97, 116, 99, 104]⟩, ⟨#[114, 101, 100, 117, 99, 101]⟩, ⟨#[102, 111, 114, 101, 97, 99, 104]⟩, ⟨#[97, 115]⟩, ⟨#[108, 97, 98, 101, 108]⟩, ⟨#[98, 114, 101, 97, 107]⟩, ⟨#[97, 110, 100]⟩, ⟨#[111, 114]⟩, ⟨#[116, 114, 117, 101]⟩, ⟨#[102, 97, 108, 115, 101]⟩, ⟨#[110, 117, 108, 108]⟩, ⟨#[101, 109, 112, 116, 121]⟩, ⟨#[114, 101, 108, 101, 97, 115, 101]⟩, ⟨#[114, 97, 110, 103, 101]⟩]
def keyB (s : ByteArray) : Bool := keysL.any fun k => s.toList == k.toList
def okI (i : Nat) (c : UInt8) : Bool := letB c.toNat || (decide (i > 0) && digB c.toNat)
def runL : Nat → List UInt8 → Nat
  | _, [] => 0
  | i, c :: r => if okI i c then runL (i + 1) r + 1 else 0
theorem runL_le : ∀ (l : List UInt8) (i : Nat), runL i l ≤ l.length
  | [], i => Nat.le_refl _
  | c :: r, i => by
    have := runL_le r (i + 1)
    simp only [runL, List.length_cons]
    split <;> omega
def identB (s : ByteArray) : Bool := decide (s.size ≠ 0) && (decide (s.size ≤ 16) && (decide (runL 0 (bs s) = s.size) && !keyB s))

def WdLoop (s : ByteArray) (i : Nat) : Prop :=
  V (F tab) r22_B0 (r22_S0 (.d (.str s)) (.d (iv i)) []) = some (.norm, r22_E0 (.d (.str s)) (.d (iv (i + runL i ((bs s).drop i) : Nat))) [])
theorem wd_end (s : ByteArray) (i : Nat) (hi : s.size ≤ i) : WdLoop s i := by
  have h1 : ((i : Int) < (s.size : Int)) = False := eq_false (by omega)
  unfold WdLoop
  rw [r22_B0_eq, bs_end hi]
  simp (disch := omega) only [go_sem, and_self, and_true, true_and, false_and, and_false, Nat.reduceAdd, Nat.reduceMul, Nat.reduceSub, Nat.reduceLeDiff, Nat.reduceLT, Nat.reduceGT, Nat.reduceEqDiff, Nat.reduceBEq, Int.reduceNeg, Int.reduceEq, Int.reduceLT, Int.reduceLE, Int.reduceBEq, Int.reduceToNat, Int.toNat_natCast, Int.natCast_zero, r22_C0, h1, runL, Nat.add_zero]
theorem wd_step (s : ByteArray) (hs : s.size ≤ maxLen) (i : Nat) (hi : i < s.size) (ih : WdLoop s (i + 1)) : WdLoop s i := by
  have hmx : maxLen = 9223372036854775807 := by decide
  have h1 : ((i : Int) < (s.size : Int)) = True := eq_true (by omega)
  have hi0 : (0 ≤ (i : Int)) = True := eq_true (by omega)
  obtain ⟨va, vd⟩ := bs_get hi
  have hl := letter_ok s[i].toNat
  have hd := digit_ok s[i].toNat
  unfold WdLoop at ih ⊢
  have e1 : ((i + 1 : Nat) : Int) = (i : Int) + 1 := rfl
  have e0 : decide ((i : Int) > 0) = decide (i > 0) := by by_cases h : i = 0 <;> simp [h] <;> omega
  rw [r22_B0_eq, vd]
  simp only [runL, okI]
  rcases Bool.eq_false_or_eq_true (letB s[i].toNat) with g1 | g1
  · rw [g1] at hl
    have e2 : i + (runL (i + 1) ((bs s).drop (i + 1)) + 1) = i + 1 + runL (i + 1) ((bs s).drop (i + 1)) := by omega
    simp (disch := omega) only [go_sem, and_self, and_true, true_and, false_and, and_false, Nat.reduceAdd, Nat.reduceMul, Nat.reduceSub, Nat.reduceLeDiff, Nat.reduceLT, Nat.reduceGT, Nat.reduceEqDiff, Nat.reduceBEq, Int.reduceNeg, Int.reduceEq, Int.reduceLT, Int.reduceLE, Int.reduceBEq, Int.reduceToNat, Int.toNat_natCast, Int.natCast_zero, r22_C0, h1, hi0, va, w64, hl, g1, Bool.true_or, e2]
    rw [e1] at ih
    exact ih
  · rw [g1] at hl
    rcases Bool.eq_false_or_eq_true (decide (i > 0)) with g2 | g2
    · rcases Bool.eq_false_or_eq_true (digB s[i].toNat) with g3 | g3
      · rw [g3] at hd
        have e2 : i + (runL (i + 1) ((bs s).drop (i + 1)) + 1) = i + 1 + runL (i + 1) ((bs s).drop (i + 1)) := by omega
        simp (disch := omega) only [go_sem, and_self, and_true, true_and, false_and, and_false, Nat.reduceAdd, Nat.reduceMul, Nat.reduceSub, Nat.reduceLeDiff, Nat.reduceLT, Nat.reduceGT, Nat.reduceEqDiff, Nat.reduceBEq, Int.reduceNeg, Int.reduceEq, Int.reduceLT, Int.reduceLE, Int.reduceBEq, Int.reduceToNat, Int.toNat_natCast, Int.natCast_zero, r22_C0, h1, hi0, va, w64, hl, hd, g1, g2, g3, e0, Bool.false_or, Bool.true_and, e2]
        rw [e1] at ih
        exact ih
      · rw [g3] at hd
        simp (disch := omega) only [go_sem, and_self, and_true, true_and, false_and, and_false, Nat.reduceAdd, Nat.reduceMul, Nat.reduceSub, Nat.reduceLeDiff, Nat.reduceLT, Nat.reduceGT, Nat.reduceEqDiff, Nat.reduceBEq, Int.reduceNeg, Int.reduceEq, Int.reduceLT, Int.reduceLE, Int.reduceBEq, Int.reduceToNat, Int.toNat_natCast, Int.natCast_zero, r22_C0, h1, hi0, va, w64, hl, hd, g1, g2, g3, e0, Bool.false_or, Bool.true_and, Nat.add_zero]
    · simp (disch := omega) only [go_sem, and_self, and_true, true_and, false_and, and_false, Nat.reduceAdd, Nat.reduceMul, Nat.reduceSub, Nat.reduceLeDiff, Nat.reduceLT, Nat.reduceGT, Nat.reduceEqDiff, Nat.reduceBEq, Int.reduceNeg, Int.reduceEq, Int.reduceLT, Int.reduceLE, Int.reduceBEq, Int.reduceToNat, Int.toNat_natCast, Int.natCast_zero, r22_C0, h1, hi0, va, w64, hl, g1, g2, e0, Bool.false_or, Bool.false_and, Nat.add_zero]
theorem wd_loop (s : ByteArray) (hs : s.size ≤ maxLen) : ∀ (j i : Nat), i + j = s.size → WdLoop s i
  | 0, i, hi => wd_end s i (by omega)
  | j + 1, i, hi => wd_step s hs i (by omega) (wd_loop s hs j (i + 1) (by omega))
theorem word_ok (s : ByteArray) (hs : s.size ≤ maxLen) (hp : List Ent) : F tab 22 [.d (.str s)] hp = some (.ret (.d (.str (s.extract 0 (runL 0 (bs s))))) hp) := by
  have hL := wd_loop s hs s.size 0 (by omega)
  unfold WdLoop at hL
  rw [List.drop_zero, Nat.zero_add] at hL
  have hle := runL_le (bs s) 0
  rw [bs_len] at hle
  have h1 : ((runL 0 (bs s) : Int) ≤ (s.size : Int)) = True := eq_true (by omega)
  refine f22 rfl ?_
  simp (disch := omega) only [go_sem, and_self, and_true, true_and, false_and, and_false, Nat.reduceAdd, Nat.reduceMul, Nat.reduceSub, Nat.reduceLeDiff, Nat.reduceLT, Nat.reduceGT, Nat.reduceEqDiff, Nat.reduceBEq, Int.reduceNeg, Int.reduceEq, Int.reduceLT, Int.reduceLE, Int.reduceBEq, Int.reduceToNat, Int.toNat_natCast, Int.natCast_zero, r22_T, r22]
  rw [r22_B0_n]
  erw [hL]
  have h0 : (0 ≤ (runL 0 (bs s) : Int)) = True := eq_true (by omega)
  simp (disch := omega) only [go_sem, and_self, and_true, true_and, false_and, and_false, Nat.reduceAdd, Nat.reduceMul, Nat.reduceSub, Nat.reduceLeDiff, Nat.reduceLT, Nat.reduceGT, Nat.reduceEqDiff, Nat.reduceBEq, Int.reduceNeg, Int.reduceEq, Int.reduceLT, Int.reduceLE, Int.reduceBEq, Int.reduceToNat, Int.toNat_natCast, Int.natCast_zero, h0, h1, decide_true]
theorem bs_take (s : ByteArray) (k : Nat) : bs (s.extract 0 k) = (bs s).take k := by
  simp [bs, ByteArray.data_extract]
theorem word_eq (s : ByteArray) (k : Nat) (hk : k ≤ s.size) : ((s.extract 0 k).toList == s.toList) = decide (k = s.size) := by
  rw [bs_toList, bs_toList, bs_take]
  by_cases h : k = s.size
  · subst h
    rw [List.take_of_length_le (Nat.le_of_eq (bs_len s))]
    simp
  · have : (bs s).take k ≠ bs s := fun e => h (by have := congrArg List.length e; rw [List.length_take, bs_len] at this; omega)
    simp [h, this]

end Go.Pe.T

namespace Go.Pe.T
theorem u8_of (b : UInt8) : ((b.toNat : Int)).toNat.toUInt8 = b := by simp
theorem bs_bt (L : List UInt8) : bs (bt L) = L := by simp [bs, bt]
theorem bt_from (L : List UInt8) (i n : Nat) (h : n = L.length) : (bt L).extract i n = bt (L.drop i) := by
  subst h
  rw [bt_ext, List.take_of_length_le (Nat.le_refl _)]
theorem bt_to (L : List UInt8) (j : Nat) : (bt L).extract 0 j = bt (L.take j) := by rw [bt_ext]; rfl
theorem sib_ok (L : List UInt8) (b : UInt8) (hp : List Ent) : F tab 34 [.d (.str (bt L)), .d (.int .u8 (b.toNat : Int))] hp = some (.ret (.d (iv (Lib.indexByte L b))) hp) := by
  have h := f34 (s := bt L) (c := (b.toNat : Int)) (hp := hp)
  rw [u8_of] at h
  have e : (bt L).data.toList = L := by simp [bt]
  rw [e] at h
  exact h
theorem ib_ok (L : List UInt8) (b : UInt8) (hp : List Ent) : F tab 19 [.d (.str (bt L)), .d (.int .u8 (b.toNat : Int))] hp = some (.ret (.d (iv (Lib.indexByte L b))) hp) := by
  have h := sib_ok L b
  refine f19 rfl ?_
  simp only [go_sem, and_self, and_true, true_and, false_and, and_false, Nat.reduceAdd, Nat.reduceMul, Nat.reduceSub, Nat.reduceLeDiff, Nat.reduceLT, Nat.reduceGT, Nat.reduceEqDiff, Nat.reduceBEq, Int.reduceNeg, Int.reduceEq, Int.reduceLT, Int.reduceLE, Int.reduceBEq, Int.reduceToNat, Int.toNat_natCast, Int.natCast_zero, r19_T, r19, h]
theorem ib_iff : ∀ (l : List UInt8) (c : UInt8), 0 ≤ Lib.indexByte l c ↔ c ∈ l
  | [], c => by simp [Lib.indexByte]
  | b :: l, c => by
    have ih := ib_iff l c
    have hg := Lib.indexByte_ge l c
    unfold Lib.indexByte
    by_cases h : b = c
    · subst h; simp
    · have h' : (b == c) = false := by simpa using h
      rw [h']
      simp only [Bool.false_eq_true, if_false]
      by_cases h1 : Lib.indexByte l c = -1
      · rw [if_pos (by simp [h1])]
        constructor
        · intro h2; omega
        · intro h2
          rcases List.mem_cons.1 h2 with h3 | h3
          · exact absurd h3.symm h
          · have := ih.2 h3; omega
      · rw [if_neg (by simp [h1])]
        constructor
        · intro _; exact List.mem_cons_of_mem _ (ih.1 (by omega))
        · intro _; omega
def isWs (c : UInt8) : Bool := [32, 9, 10, 13].contains c
def blkA : Bool → List UInt8 → Nat
  | _, [] => 0
  | false, c :: r => if isWs c then blkA false r + 1 else if c == 35 then blkA true r + 1 else 0
  | true, c :: r => if c == 10 then blkA false r + 1 else blkA true r + 1
theorem blkA_le : ∀ (m : Bool) (l : List UInt8), blkA m l ≤ l.length
  | _, [] => by simp [blkA]
  | false, c :: r => by
    have h1 := blkA_le false r
    have h2 := blkA_le true r
    simp only [blkA, List.length_cons]
    split
    · omega
    · split <;> omega
  | true, c :: r => by
    have h1 := blkA_le false r
    have h2 := blkA_le true r
    simp only [blkA, List.length_cons]
    split <;> omega
theorem blk_nl (r : List UInt8) : blkA false (10 :: r) = blkA false r + 1 := by
  have : isWs 10 = true := by decide
  simp [blkA, this]
theorem blk_cm : ∀ (r : List UInt8), (Lib.indexByte r 10 < 0 → blkA true r = r.length) ∧ (0 ≤ Lib.indexByte r 10 → ∃ k : Nat, Lib.indexByte r 10 = k ∧ k < r.length ∧ blkA true r = k + blkA false (r.drop k))
  | [] => by simp [Lib.indexByte, blkA]
  | c :: r => by
    obtain ⟨h1, h2⟩ := blk_cm r
    have hg := Lib.indexByte_ge r 10
    unfold Lib.indexByte
    by_cases h : c = 10
    · subst h
      simp only [beq_self_eq_true, if_true]
      refine ⟨fun h => absurd h (by decide), fun _ => ⟨0, rfl, by simp, ?_⟩⟩
      rw [List.drop_zero, blk_nl]
      simp [blkA]
    · have h' : (c == 10) = false := by simpa using h
      rw [h']
      simp only [Bool.false_eq_true, if_false]
      by_cases h3 : Lib.indexByte r 10 = -1
      · rw [if_pos (by simp [h3])]
        refine ⟨fun _ => ?_, fun h => absurd h (by decide)⟩
        simp only [blkA, h', Bool.false_eq_true, if_false, List.length_cons]
        rw [h1 (by omega)]
      · rw [if_neg (by simp [h3])]
        refine ⟨fun h => absurd h (by omega), fun _ => ?_⟩
        obtain ⟨k, k1, k2, k3⟩ := h2 (by omega)
        refine ⟨k + 1, by rw [k1]; rfl, by simp; omega, ?_⟩
        simp only [blkA, h', Bool.false_eq_true, if_false, List.drop_succ_cons]
        omega
def BlIs (L : List UInt8) (i : Nat) : Prop :=
  V (F tab) r10_B0 (r10_S0 (.d (.str (bt L))) (.d (iv i)) []) = some (.norm, r10_E0 (.d (iv ((i + blkA false (L.drop i) : Nat) : Int))) []) ∨
  V (F tab) r10_B0 (r10_S0 (.d (.str (bt L))) (.d (iv i)) []) = some (.ret, r10_R (.d (iv ((i + blkA false (L.drop i) : Nat) : Int))) [])
theorem bl_end (L : List UInt8) : BlIs L L.length := by
  have h1 : ((L.length : Int) < (L.length : Int)) = False := eq_false (by omega)
  have hz := bt_size L
  refine .inl ?_
  rw [List.drop_of_length_le (Nat.le_refl _), r10_B0_eq]
  simp (disch := omega) only [go_sem, and_self, and_true, true_and, false_and, and_false, Nat.reduceAdd, Nat.reduceMul, Nat.reduceSub, Nat.reduceLeDiff, Nat.reduceLT, Nat.reduceGT, Nat.reduceEqDiff, Nat.reduceBEq, Int.reduceNeg, Int.reduceEq, Int.reduceLT, Int.reduceLE, Int.reduceBEq, Int.reduceToNat, Int.toNat_natCast, Int.natCast_zero, r10_C0, hz, h1, blkA, Nat.add_zero]
theorem bl_step (L : List UInt8) (hl : L.length ≤ 100000) (i : Nat) (hi : i < L.length) (ih : ∀ k : Nat, 0 < k → i + k ≤ L.length → BlIs L (i + k)) : BlIs L i := by
  have h1 : ((i : Int) < (L.length : Int)) = True := eq_true (by omega)
  have i0 : (0 ≤ (i : Int)) = True := eq_true (by omega)
  have hz := bt_size L
  have hx : L[i]? = some L[i] := List.getElem?_eq_getElem hi
  have hd : L.drop i = L[i] :: L.drop (i + 1) := List.drop_eq_getElem_cons hi
  have hg := bt_get L i
  rw [hx] at hg
  have hws := ib_ok [32, 9, 10, 13] L[i]
  have hcm : ∀ hp : List Ent, F tab 19 [.d (.str (bt (L.drop i))), .d (.int .u8 10)] hp = some (.ret (.d (iv (Lib.indexByte (L.drop i) 10))) hp) := ib_ok (L.drop i) 10
  have h6 : ((L.length : Int) ≤ (L.length : Int)) = True := eq_true (by omega)
  have hm := ib_iff [32, 9, 10, 13] L[i]
  have e1 : (i : Int) + 1 = ((i + 1 : Nat) : Int) := rfl
  have hbd := blkA_le false (L.drop (i + 1))
  rcases Bool.eq_false_or_eq_true (isWs L[i]) with g | g
  · have k1 : (Lib.indexByte [32, 9, 10, 13] L[i] ≥ 0) = True := eq_true (hm.2 (by simpa [isWs] using g))
    have hb : blkA false (L.drop i) = blkA false (L.drop (i + 1)) + 1 := by rw [hd]; simp only [blkA, g, if_true]
    have ih1 := ih 1 (by omega) (by omega)
    unfold BlIs at ih1 ⊢
    rw [hb, show i + (blkA false (L.drop (i + 1)) + 1) = i + 1 + blkA false (L.drop (i + 1)) by omega]
    rcases ih1 with ih1 | ih1
    · refine .inl ?_
      rw [r10_B0_eq]
      simp (disch := omega) only [go_sem, and_self, and_true, true_and, false_and, and_false, Nat.reduceAdd, Nat.reduceMul, Nat.reduceSub, Nat.reduceLeDiff, Nat.reduceLT, Nat.reduceGT, Nat.reduceEqDiff, Nat.reduceBEq, Int.reduceNeg, Int.reduceEq, Int.reduceLT, Int.reduceLE, Int.reduceBEq, Int.reduceToNat, Int.toNat_natCast, Int.natCast_zero, r10_C0, hz, h1, i0, hg, hws, k1, e1, w64]
      exact ih1
    · refine .inr ?_
      rw [r10_B0_eq]
      simp (disch := omega) only [go_sem, and_self, and_true, true_and, false_and, and_false, Nat.reduceAdd, Nat.reduceMul, Nat.reduceSub, Nat.reduceLeDiff, Nat.reduceLT, Nat.reduceGT, Nat.reduceEqDiff, Nat.reduceBEq, Int.reduceNeg, Int.reduceEq, Int.reduceLT, Int.reduceLE, Int.reduceBEq, Int.reduceToNat, Int.toNat_natCast, Int.natCast_zero, r10_C0, hz, h1, i0, hg, hws, k1, e1, w64]
      exact ih1
  · have k1 : (Lib.indexByte [32, 9, 10, 13] L[i] ≥ 0) = False := eq_false (fun h => by have h' := hm.1 h; rw [isWs, List.contains_eq_mem, decide_eq_false_iff_not] at g; exact g h')
    rcases Bool.eq_false_or_eq_true (L[i] == 35) with g2 | g2
    · have k2 : (((L[i].toNat : Nat) : Int) == 35) = true := by have := (beq_iff_eq.1 g2); rw [this]; rfl
      have hb : blkA false (L.drop i) = blkA true (L.drop (i + 1)) + 1 := by rw [hd]; simp only [blkA, g, g2, Bool.false_eq_true, if_false, if_true]
      have hne : (L[i] == 10) = false := by have := (beq_iff_eq.1 g2); rw [this]; decide
      obtain ⟨c1, c2⟩ := blk_cm (L.drop (i + 1))
      have hi' : Lib.indexByte (L.drop i) 10 = if Lib.indexByte (L.drop (i + 1)) 10 == -1 then -1 else Lib.indexByte (L.drop (i + 1)) 10 + 1 := by
        rw [hd, Lib.indexByte, hne]
        simp only [Bool.false_eq_true, if_false]
      have hge := Lib.indexByte_ge (L.drop (i + 1)) 10
      by_cases g3 : Lib.indexByte (L.drop (i + 1)) 10 = -1
      · rw [if_pos (by simp [g3])] at hi'
        have k3 : (Lib.indexByte (L.drop i) 10 < 0) = True := eq_true (by omega)
        have hlen : i + blkA false (L.drop i) = L.length := by rw [hb, c1 (by omega)]; simp; omega
        unfold BlIs
        rw [hlen]
        refine .inr ?_
        have hcut : (bt L).extract i L.length = bt (L.drop i) := bt_from L i _ rfl
        have h5 : ((i : Int) ≤ (L.length : Int)) = True := eq_true (by omega)
        rw [r10_B0_eq]
        simp (disch := omega) only [go_sem, and_self, and_true, true_and, false_and, and_false, Nat.reduceAdd, Nat.reduceMul, Nat.reduceSub, Nat.reduceLeDiff, Nat.reduceLT, Nat.reduceGT, Nat.reduceEqDiff, Nat.reduceBEq, Int.reduceNeg, Int.reduceEq, Int.reduceLT, Int.reduceLE, Int.reduceBEq, Int.reduceToNat, Int.toNat_natCast, Int.natCast_zero, r10_C0, hz, h1, h5, h6, i0, hg, hws, k1, k2, hcut, hcm, k3]
      · rw [if_neg (by simp [g3])] at hi'
        obtain ⟨k, q1, q2, q3⟩ := c2 (by omega)
        have k3 : (Lib.indexByte (L.drop i) 10 < 0) = False := eq_false (by omega)
        have hq2 : k < L.length - (i + 1) := by simpa using q2
        have ih1 := ih (k + 1) (by omega) (by omega)
        have hdd : (L.drop (i + 1)).drop k = L.drop (i + (k + 1)) := by rw [List.drop_drop]; congr 1; omega
        have hcut : (bt L).extract i L.length = bt (L.drop i) := bt_from L i _ rfl
        have h5 : ((i : Int) ≤ (L.length : Int)) = True := eq_true (by omega)
        have e2 : (i : Int) + Lib.indexByte (L.drop i) 10 = ((i + (k + 1) : Nat) : Int) := by rw [hi', q1]; omega
        unfold BlIs at ih1 ⊢
        rw [hb, q3, hdd, show i + (k + blkA false (L.drop (i + (k + 1))) + 1) = i + (k + 1) + blkA false (L.drop (i + (k + 1))) by omega]
        rcases ih1 with ih1 | ih1
        · refine .inl ?_
          rw [r10_B0_eq]
          simp (disch := omega) only [go_sem, and_self, and_true, true_and, false_and, and_false, Nat.reduceAdd, Nat.reduceMul, Nat.reduceSub, Nat.reduceLeDiff, Nat.reduceLT, Nat.reduceGT, Nat.reduceEqDiff, Nat.reduceBEq, Int.reduceNeg, Int.reduceEq, Int.reduceLT, Int.reduceLE, Int.reduceBEq, Int.reduceToNat, Int.toNat_natCast, Int.natCast_zero, r10_C0, hz, h1, h5, h6, i0, hg, hws, k1, k2, hcut, hcm, k3, e2, w64]
          exact ih1
        · refine .inr ?_
          rw [r10_B0_eq]
          simp (disch := omega) only [go_sem, and_self, and_true, true_and, false_and, and_false, Nat.reduceAdd, Nat.reduceMul, Nat.reduceSub, Nat.reduceLeDiff, Nat.reduceLT, Nat.reduceGT, Nat.reduceEqDiff, Nat.reduceBEq, Int.reduceNeg, Int.reduceEq, Int.reduceLT, Int.reduceLE, Int.reduceBEq, Int.reduceToNat, Int.toNat_natCast, Int.natCast_zero, r10_C0, hz, h1, h5, h6, i0, hg, hws, k1, k2, hcut, hcm, k3, e2, w64]
          exact ih1
    · have k2 : (((L[i].toNat : Nat) : Int) == 35) = false := by
        have h3 : L[i] ≠ 35 := by simpa using g2
        have h4 : L[i].toNat ≠ 35 := fun h => h3 (UInt8.toNat_inj.1 h)
        simp; omega
      have hb : blkA false (L.drop i) = 0 := by rw [hd]; simp only [blkA, g, g2, Bool.false_eq_true, if_false]
      unfold BlIs
      rw [hb, Nat.add_zero]
      refine .inr ?_
      rw [r10_B0_eq]
      simp (disch := omega) only [go_sem, and_self, and_true, true_and, false_and, and_false, Nat.reduceAdd, Nat.reduceMul, Nat.reduceSub, Nat.reduceLeDiff, Nat.reduceLT, Nat.reduceGT, Nat.reduceEqDiff, Nat.reduceBEq, Int.reduceNeg, Int.reduceEq, Int.reduceLT, Int.reduceLE, Int.reduceBEq, Int.reduceToNat, Int.toNat_natCast, Int.natCast_zero, r10_C0, hz, h1, i0, hg, hws, k1, k2]
theorem bl_loop (L : List UInt8) (hl : L.length ≤ 100000) : ∀ (n i : Nat), L.length - i ≤ n → i ≤ L.length → BlIs L i
  | 0, i, h, hi => by rw [show i = L.length by omega]; exact bl_end L
  | n + 1, i, h, hi => by
    by_cases e : i = L.length
    · subst e; exact bl_end L
    · exact bl_step L hl i (by omega) fun k hk hle => bl_loop L hl n (i + k) (by omega) hle
theorem blanks_ok (L : List UInt8) (hl : L.length ≤ 100000) (hp : List Ent) : F tab 10 [.d (.str (bt L))] hp = some (.ret (.d (iv ((blkA false L : Nat) : Int))) hp) := by
  have h := bl_loop L hl L.length 0 (by omega) (by omega)
  unfold BlIs at h
  rw [List.drop_zero, Nat.zero_add] at h
  refine f10 rfl ?_
  rcases h with h | h
  · simp (disch := omega) only [go_sem, and_self, and_true, true_and, false_and, and_false, Nat.reduceAdd, Nat.reduceMul, Nat.reduceSub, Nat.reduceLeDiff, Nat.reduceLT, Nat.reduceGT, Nat.reduceEqDiff, Nat.reduceBEq, Int.reduceNeg, Int.reduceEq, Int.reduceLT, Int.reduceLE, Int.reduceBEq, Int.reduceToNat, Int.toNat_natCast, Int.natCast_zero, r10_T, r10]
    rw [r10_B0_n]
    erw [h]
    simp only [go_sem, and_self, and_true, true_and, false_and, and_false, Nat.reduceAdd, Nat.reduceMul, Nat.reduceSub, Nat.reduceLeDiff, Nat.reduceLT, Nat.reduceGT, Nat.reduceEqDiff, Nat.reduceBEq, Int.reduceNeg, Int.reduceEq, Int.reduceLT, Int.reduceLE, Int.reduceBEq, Int.reduceToNat, Int.toNat_natCast, Int.natCast_zero]
  · simp (disch := omega) only [go_sem, and_self, and_true, true_and, false_and, and_false, Nat.reduceAdd, Nat.reduceMul, Nat.reduceSub, Nat.reduceLeDiff, Nat.reduceLT, Nat.reduceGT, Nat.reduceEqDiff, Nat.reduceBEq, Int.reduceNeg, Int.reduceEq, Int.reduceLT, Int.reduceLE, Int.reduceBEq, Int.reduceToNat, Int.toNat_natCast, Int.natCast_zero, r10_T, r10]
    rw [r10_B0_n]
    erw [h]
    simp only [go_sem, and_self, and_true, true_and, false_and, and_false, Nat.reduceAdd, Nat.reduceMul, Nat.reduceSub, Nat.reduceLeDiff, Nat.reduceLT, Nat.reduceGT, Nat.reduceEqDiff, Nat.reduceBEq, Int.reduceNeg, Int.reduceEq, Int.reduceLT, Int.reduceLE, Int.reduceBEq, Int.reduceToNat, Int.toNat_natCast, Int.natCast_zero]
def dgN (L : List UInt8) (i : Nat) : Nat := ((L.drop i).takeWhile isDg).length
theorem digB_dg (b : UInt8) : digB ((b.toNat : Nat) : Int) = isDg b := by
  unfold digB isDg
  have h1 : decide (((b.toNat : Nat) : Int) ≥ 48) = decide (48 ≤ b.toNat) := by by_cases h : 48 ≤ b.toNat <;> simp [h] <;> omega
  have h2 : decide (((b.toNat : Nat) : Int) ≤ 57) = decide (b.toNat ≤ 57) := by by_cases h : b.toNat ≤ 57 <;> simp [h] <;> omega
  rw [h1, h2]
theorem dgN_le (L : List UInt8) (i : Nat) : dgN L i ≤ L.length - i := by
  have := tw_le (L.drop i)
  unfold dgN
  simpa using this
def RwIs (L : List UInt8) (i n : Nat) : Prop :=
  V (F tab) r42_B0 (r42_S0 (.d (.str (bt L))) (.d (iv i)) (.d (iv n)) []) = some (.norm, r42_E0 (.d (iv ((n + ((L.drop (i + n)).takeWhile isDg).length : Nat) : Int))) [])
theorem rw_end (L : List UInt8) (i n : Nat) (h : L.length ≤ i + n) (hb : i + n ≤ 1000000) : RwIs L i n := by
  have h1 : (((i + n : Nat) : Int) < (L.length : Int)) = False := eq_false (by omega)
  have e1 : (i : Int) + (n : Int) = ((i + n : Nat) : Int) := rfl
  have hz := bt_size L
  unfold RwIs
  rw [List.drop_of_length_le h, r42_B0_eq]
  simp (disch := omega) only [go_sem, and_self, and_true, true_and, false_and, and_false, Nat.reduceAdd, Nat.reduceMul, Nat.reduceSub, Nat.reduceLeDiff, Nat.reduceLT, Nat.reduceGT, Nat.reduceEqDiff, Nat.reduceBEq, Int.reduceNeg, Int.reduceEq, Int.reduceLT, Int.reduceLE, Int.reduceBEq, Int.reduceToNat, Int.toNat_natCast, Int.natCast_zero, r42_C0, hz, w64, e1, h1, List.takeWhile_nil, List.length_nil, Nat.add_zero]
theorem rw_step (L : List UInt8) (hl : L.length ≤ 100000) (i n : Nat) (h : i + n < L.length) (ih : RwIs L i (n + 1)) : RwIs L i n := by
  have h1 : (((i + n : Nat) : Int) < (L.length : Int)) = True := eq_true (by omega)
  have e1 : (i : Int) + (n : Int) = ((i + n : Nat) : Int) := rfl
  have e2 : (n : Int) + 1 = ((n + 1 : Nat) : Int) := rfl
  have i0 : (0 ≤ ((i + n : Nat) : Int)) = True := eq_true (by omega)
  have hz := bt_size L
  have hx : L[i + n]? = some L[i + n] := List.getElem?_eq_getElem h
  have hd : L.drop (i + n) = L[i + n] :: L.drop (i + n + 1) := List.drop_eq_getElem_cons h
  have hg := bt_get L (i + n)
  rw [hx] at hg
  have hdig := digit_ok ((L[i + n].toNat : Nat) : Int)
  rw [digB_dg] at hdig
  unfold RwIs at ih ⊢
  rw [hd, List.takeWhile_cons]
  rcases Bool.eq_false_or_eq_true (isDg L[i + n]) with g | g
  · rw [g] at hdig ⊢
    rw [if_pos rfl, List.length_cons, show n + (((L.drop (i + n + 1)).takeWhile isDg).length + 1) = n + 1 + ((L.drop (i + n + 1)).takeWhile isDg).length by omega]
    rw [show i + (n + 1) = i + n + 1 by omega] at ih
    rw [r42_B0_eq]
    simp (disch := omega) only [go_sem, and_self, and_true, true_and, false_and, and_false, Nat.reduceAdd, Nat.reduceMul, Nat.reduceSub, Nat.reduceLeDiff, Nat.reduceLT, Nat.reduceGT, Nat.reduceEqDiff, Nat.reduceBEq, Int.reduceNeg, Int.reduceEq, Int.reduceLT, Int.reduceLE, Int.reduceBEq, Int.reduceToNat, Int.toNat_natCast, Int.natCast_zero, r42_C0, hz, w64, e1, e2, h1, i0, hg, hdig]
    exact ih
  · rw [g] at hdig ⊢
    rw [if_neg (by simp), List.length_nil, Nat.add_zero, r42_B0_eq]
    simp (disch := omega) only [go_sem, and_self, and_true, true_and, false_and, and_false, Nat.reduceAdd, Nat.reduceMul, Nat.reduceSub, Nat.reduceLeDiff, Nat.reduceLT, Nat.reduceGT, Nat.reduceEqDiff, Nat.reduceBEq, Int.reduceNeg, Int.reduceEq, Int.reduceLT, Int.reduceLE, Int.reduceBEq, Int.reduceToNat, Int.toNat_natCast, Int.natCast_zero, r42_C0, hz, w64, e1, h1, i0, hg, hdig]
theorem rw_loop (L : List UInt8) (hl : L.length ≤ 100000) (i : Nat) (hi : i ≤ 100001) : ∀ (d n : Nat), L.length - (i + n) ≤ d → i + n ≤ 200002 → RwIs L i n
  | 0, n, h, hb => rw_end L i n (by omega) (by omega)
  | d + 1, n, h, hb => by
    by_cases e : L.length ≤ i + n
    · exact rw_end L i n e (by omega)
    · exact rw_step L hl i n (by omega) (rw_loop L hl i hi d (n + 1) (by omega) (by omega))
theorem lrow_ok (L : List UInt8) (hl : L.length ≤ 100000) (i : Nat) (hi : i ≤ 100001) (hp : List Ent) : F tab 42 [.d (.str (bt L)), .d (iv i)] hp = some (.ret (.d (iv ((dgN L i : Nat) : Int))) hp) := by
  have h := rw_loop L hl i hi (L.length - i) 0 (by omega) (by omega)
  unfold RwIs at h
  rw [Nat.add_zero, Nat.zero_add] at h
  have h : V (F tab) r42_B0 (r42_S0 (.d (.str (bt L))) (.d (iv i)) (.d (iv 0)) []) = _ := h
  refine f42 rfl ?_
  simp (disch := omega) only [go_sem, and_self, and_true, true_and, false_and, and_false, Nat.reduceAdd, Nat.reduceMul, Nat.reduceSub, Nat.reduceLeDiff, Nat.reduceLT, Nat.reduceGT, Nat.reduceEqDiff, Nat.reduceBEq, Int.reduceNeg, Int.reduceEq, Int.reduceLT, Int.reduceLE, Int.reduceBEq, Int.reduceToNat, Int.toNat_natCast, Int.natCast_zero, r42_T, r42]
  rw [r42_B0_n]
  erw [h]
  simp only [go_sem, and_self, and_true, true_and, false_and, and_false, Nat.reduceAdd, Nat.reduceMul, Nat.reduceSub, Nat.reduceLeDiff, Nat.reduceLT, Nat.reduceGT, Nat.reduceEqDiff, Nat.reduceBEq, Int.reduceNeg, Int.reduceEq, Int.reduceLT, Int.reduceLE, Int.reduceBEq, Int.reduceToNat, Int.toNat_natCast, Int.natCast_zero, dgN]
end Go.Pe.T
