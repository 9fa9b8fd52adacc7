/- A part of the proof of: A number's text is parsed as it; sums and products are the same whichever way round; a sum less one of both is the other, a product by one of both is the other. -/
import Derived.Test.YtjfdbgoajjhafaaDoorNb4
import Derived.Test.YtjfdbgoajjhafaaDoorNb3
set_option linter.unusedSimpArgs false
set_option linter.unusedVariables false
set_option linter.unusedSectionVars false
set_option maxRecDepth 10000

namespace Go.Pe.T
/-! ### quotients in lowest terms -/
/-- two sizes, in lowest terms; the lower one's twos and fives -/
structure Low (a b g p q t m2 f m5 : Nat) : Prop where
  ea : a = g * p
  eb : b = g * q
  g0 : 0 < g
  p0 : 0 < p
  q0 : 0 < q
  co : Nat.Coprime p q
  e2 : q = 2 ^ t * m2
  d2 : m2 % 2 ≠ 0
  e5 : m2 = 5 ^ f * m5
  d5 : m5 % 5 ≠ 0

theorem sv_nat (σ : Bool) (n : Nat) (z : Int) : z = sv σ n → z.natAbs = n := by cases σ <;> simp [sv] <;> omega
theorem nat_abs_sv (σ : Bool) (v : Int) : (sv σ v).natAbs = v.natAbs := by cases σ <;> simp [sv]

theorem low_sol {c c' : Int} {k k' g p q t m2 f m5 : Nat} (h : Low c.natAbs c'.natAbs g p q t m2 f m5) (z : Int) (s : Nat) :
    QSol c c' k k' z s ↔ z * q * 10 ^ k = sv (!(decide (c < 0) == decide (c' < 0))) p * 10 ^ (s + k') := by
  have sc := sv_abs c
  have sc' := sv_abs c'
  have hg : (g : Int) ≠ 0 := by have := h.g0; omega
  unfold QSol
  generalize decide (c < 0) = σ at *
  generalize decide (c' < 0) = τ at *
  rw [h.ea, Int.natCast_mul] at sc
  rw [h.eb, Int.natCast_mul] at sc'
  rw [← sc, ← sc']
  have e1 : z * sv τ ((g : Int) * q) * 10 ^ k = g * sv τ (z * q * 10 ^ k) := by
    cases τ <;> simp only [sv, if_true, Bool.false_eq_true, if_false, Int.mul_neg, Int.neg_mul, Int.mul_assoc, Int.mul_left_comm]
  have e2 : sv σ ((g : Int) * p) * 10 ^ (s + k') = g * sv σ (p * 10 ^ (s + k')) := by
    cases σ <;> simp only [sv, if_true, Bool.false_eq_true, if_false, Int.mul_neg, Int.neg_mul, Int.mul_assoc]
  have e3 : sv (!(σ == τ)) (p : Int) * 10 ^ (s + k') = sv (!(σ == τ)) (p * 10 ^ (s + k')) := by
    cases (!(σ == τ)) <;> simp only [sv, if_true, Bool.false_eq_true, if_false, Int.neg_mul]
  rw [e1, e2, e3]
  generalize z * q * 10 ^ k = u
  generalize (p : Int) * 10 ^ (s + k') = v
  constructor
  · intro h
    have := Int.eq_of_mul_eq_mul_left hg h
    revert this
    cases σ <;> cases τ <;> simp [sv] <;> omega
  · intro h
    congr 1
    revert h
    cases σ <;> cases τ <;> simp [sv] <;> omega

theorem gcd10 {m : Nat} (h2 : m % 2 ≠ 0) (h5 : m % 5 ≠ 0) : Nat.Coprime m 10 := by
  show Nat.gcd m 10 = 1
  rw [Nat.gcd_comm, Nat.gcd_rec]
  have hm : m % 10 = 1 ∨ m % 10 = 3 ∨ m % 10 = 7 ∨ m % 10 = 9 := by omega
  rcases hm with e | e | e | e <;> rw [e] <;> rfl

theorem low_no {c c' : Int} {k k' g p q t m2 f m5 : Nat} (h : Low c.natAbs c'.natAbs g p q t m2 f m5) (h5 : m5 ≠ 1) (z : Int) (s : Nat) : ¬ QSol c c' k k' z s := by
  intro hq
  rw [low_sol h] at hq
  have hN : z.natAbs * q * 10 ^ k = p * 10 ^ (s + k') := by
    have e := congrArg Int.natAbs hq
    rw [Int.natAbs_mul, Int.natAbs_mul, Int.natAbs_mul, nat_abs_sv] at e
    simpa [Int.natAbs_pow] using e
  have hd : q ∣ p * 10 ^ (s + k') := ⟨z.natAbs * 10 ^ k, by rw [← hN, Nat.mul_comm z.natAbs q, Nat.mul_assoc]⟩
  have hd2 : q ∣ 10 ^ (s + k') := Nat.Coprime.dvd_of_dvd_mul_left h.co.symm hd
  have hm : m5 ∣ q := by rw [h.e2, h.e5]; exact ⟨2 ^ t * 5 ^ f, by simp [Nat.mul_comm, Nat.mul_left_comm]⟩
  have h2 : m5 % 2 ≠ 0 := by
    intro e
    have := h.d2
    rw [h.e5, Nat.mul_mod, e] at this
    simp at this
  have hc : Nat.Coprime m5 (10 ^ (s + k')) := (gcd10 h2 h.d5).pow_right _
  have := Nat.dvd_gcd (Nat.dvd_refl m5) (Nat.dvd_trans hm hd2)
  rw [hc] at this
  exact h5 (Nat.dvd_one.1 this)

section
variable {c c' : Int} {k k' g p q t m2 f : Nat} (h : Low c.natAbs c'.natAbs g p q t m2 f 1) (K : Nat) (h1 : t ≤ K) (h2 : f ≤ K)
include h h1 h2

theorem low_ten : p * 2 ^ (K - t) * 5 ^ (K - f) * q = p * 10 ^ K := by
  have e1 : (2 : Nat) ^ K = 2 ^ (K - t) * 2 ^ t := by rw [← Nat.pow_add, show K - t + t = K by omega]
  have e2 : (5 : Nat) ^ K = 5 ^ (K - f) * 5 ^ f := by rw [← Nat.pow_add, show K - f + f = K by omega]
  rw [show (10 : Nat) = 2 * 5 by rfl, Nat.mul_pow, e1, e2]
  have e3 : q = 2 ^ t * 5 ^ f := by rw [h.e2, h.e5, Nat.mul_one]
  rw [e3]
  simp only [Nat.mul_assoc, Nat.mul_comm, Nat.mul_left_comm]

/-- the solutions, of the coefficient and scale that the code has -/
theorem low_made (sc e : Nat) (he : K + k + e = k' + sc) (z : Int) (s : Nat) : QSol c c' k k' z s ↔ z * 10 ^ sc = sv (!(decide (c < 0) == decide (c' < 0))) ((p * 2 ^ (K - t) * 5 ^ (K - f) * 10 ^ e : Nat) : Int) * 10 ^ s := by
  rw [low_sol h]
  have ht := low_ten h K h1 h2
  have hw : 0 < 2 ^ (K - t) * 5 ^ (K - f) * 10 ^ e := by
    refine Nat.mul_pos (Nat.mul_pos ?_ ?_) ?_ <;> exact Nat.pow_pos (by omega)
  generalize hW : 2 ^ (K - t) * 5 ^ (K - f) = w at *
  have hP : p * 2 ^ (K - t) * 5 ^ (K - f) = p * w := by rw [Nat.mul_assoc, hW]
  rw [hP] at ht ⊢
  have hwq : w * q = 10 ^ K := by
    have : p * (w * q) = p * 10 ^ K := by rw [← Nat.mul_assoc]; exact ht
    exact Nat.eq_of_mul_eq_mul_left h.p0 this
  have hwi : (w : Int) * q = 10 ^ K := by rw [← Int.natCast_mul, hwq]; simp
  generalize (!(decide (c < 0) == decide (c' < 0))) = ρ at *
  have eP : sv ρ ((p * w * 10 ^ e : Nat) : Int) = sv ρ (p : Int) * (w * 10 ^ e) := by
    cases ρ <;> simp [sv, Int.natCast_mul, Int.mul_assoc, Int.neg_mul]
  rw [eP]
  have l1 : z * q * 10 ^ k * (w * 10 ^ e) = z * 10 ^ sc * 10 ^ k' := by
    have : (10 : Int) ^ sc * 10 ^ k' = w * q * (10 ^ k * 10 ^ e) := by
      rw [hwi, ← Int.pow_add, ← Int.pow_add, ← Int.pow_add, show sc + k' = K + (k + e) by omega]
    rw [Int.mul_assoc z (10 ^ sc), this]
    simp only [Int.mul_assoc, Int.mul_comm, Int.mul_left_comm]
  have l2 : sv ρ (p : Int) * 10 ^ (s + k') * (w * 10 ^ e) = sv ρ (p : Int) * (w * 10 ^ e) * 10 ^ s * 10 ^ k' := by
    rw [Int.pow_add]
    simp only [Int.mul_assoc, Int.mul_comm, Int.mul_left_comm]
  have hwe : (w : Int) * 10 ^ e ≠ 0 := by
    have : ((w * 10 ^ e : Nat) : Int) = (w : Int) * 10 ^ e := by simp
    omega
  constructor
  · intro hh
    refine mul_p10 k' ?_
    rw [← l1, ← l2, hh]
  · intro hh
    refine Int.eq_of_mul_eq_mul_right hwe ?_
    rw [l1, l2, hh]

theorem low_tail (hK : (K = t ∨ K = f) ∧ 0 < K) : (p * 2 ^ (K - t) * 5 ^ (K - f)) % 10 ≠ 0 := by
  intro h10
  have d2 : 2 ∣ p * 2 ^ (K - t) * 5 ^ (K - f) := Nat.dvd_of_mod_eq_zero (by omega)
  have d5 : 5 ∣ p * 2 ^ (K - t) * 5 ^ (K - f) := Nat.dvd_of_mod_eq_zero (by omega)
  have c25 : Nat.Coprime 2 5 := rfl
  have one : ∀ d, d ∣ p → d ∣ q → d = 1 := fun d a b => by
    have := Nat.dvd_gcd a b
    have hc : Nat.gcd p q = 1 := h.co
    rw [hc] at this
    exact Nat.dvd_one.1 this
  have e3 : q = 2 ^ t * 5 ^ f := by rw [h.e2, h.e5, Nat.mul_one]
  rcases hK.1 with e | e
  · have hp2 : 2 ∣ p := by
      rw [e, Nat.sub_self, Nat.pow_zero, Nat.mul_one] at d2
      exact Nat.Coprime.dvd_of_dvd_mul_right (c25.pow_right _) d2
    have hq2 : 2 ∣ q := by
      rw [e3]
      have ht : 2 ^ t = 2 * 2 ^ (t - 1) := by rw [← Nat.pow_succ', Nat.succ_eq_add_one, show t - 1 + 1 = t by omega]
      exact Nat.dvd_trans ⟨2 ^ (t - 1), ht⟩ (Nat.dvd_mul_right _ _)
    have := one 2 hp2 hq2
    omega
  · have hp5 : 5 ∣ p := by
      rw [e, Nat.sub_self, Nat.pow_zero, Nat.mul_one] at d5
      exact Nat.Coprime.dvd_of_dvd_mul_right (c25.symm.pow_right _) d5
    have hq5 : 5 ∣ q := by
      rw [e3]
      have ht : 5 ^ f = 5 * 5 ^ (f - 1) := by rw [← Nat.pow_succ', Nat.succ_eq_add_one, show f - 1 + 1 = f by omega]
      exact Nat.dvd_trans ⟨5 ^ (f - 1), ht⟩ (Nat.dvd_mul_left _ _)
    have := one 5 hp5 hq5
    omega
end

/-- what is too great, or too far behind the point, can't be held -/
theorem made_big (ρ : Bool) (P sc : Nat) (ht : sc = 0 ∨ P % 10 ≠ 0) (hb : 1000000000000000 ≤ P ∨ 9 < sc) : makeOk (sv ρ P) sc = false := by
  have hs : stripN (sv ρ P) sc = (sv ρ P, sc) := by
    refine strip_self sc _ (ht.imp_right fun h => ?_)
    have hm : ((P : Nat) : Int).tmod 10 = ((P % 10 : Nat) : Int) := (Int.ofNat_tmod P 10).symm
    cases ρ with
    | true => simp only [sv, if_true, Int.neg_tmod, hm]; omega
    | false => simp only [sv, Bool.false_eq_true, if_false, hm]; omega
  unfold makeOk
  rw [hs]
  unfold numIs
  simp only
  rcases hb with hb | hb
  · cases ρ with
    | true =>
      have : ¬ (-1000000000000000 < sv true (P : Int)) := by simp only [sv, if_true]; omega
      simp [this]
    | false =>
      have : ¬ (sv false (P : Int) < 1000000000000000) := by simp only [sv, Bool.false_eq_true, if_false]; omega
      simp [this]
  · have : ¬ ((sc : Int) ≤ 9) := by omega
    simp [this]

theorem pow_lt50 {b j m n : Nat} (hb : 2 ≤ b) (hm : 0 < m) (h : n = b ^ j * m) (hn : n < 1000000000000000) : j < 50 := by
  apply Classical.byContradiction
  intro hj
  have h1 : 2 ^ 50 ≤ 2 ^ j := Nat.pow_le_pow_right (by omega) (by omega)
  have h2 : 2 ^ j ≤ b ^ j := Nat.pow_le_pow_left hb j
  have h3 : b ^ j * 1 ≤ b ^ j * m := Nat.mul_le_mul_left _ hm
  have e : (2 : Nat) ^ 50 = 1125899906842624 := by decide
  omega
end Go.Pe.T

namespace Go.Pe.T
/-! ### products of whole numbers -/
abbrev uv (n : Int) : D := .int .u64 n
theorem wu64 {n : Int} (h : 0 ≤ n ∧ n ≤ 18446744073709551615) : IntKind.u64.wrap n = n := by
  simp only [IntKind.wrap, IntKind.bits, IntKind.signed, Bool.false_and, Bool.false_eq_true, if_false]
  have e1 : (2 : Int) ^ 64 = 18446744073709551616 := by decide
  rw [e1]
  omega

theorem and32 {x : Int} (h : 0 ≤ x ∧ x ≤ 18446744073709551615) : bitsD .and .u64 x 4294967295 = some (.int .u64 (x % 4294967296)) := by
  obtain ⟨n, rfl⟩ := Int.eq_ofNat_of_zero_le h.1
  have e1 : BitVec.ofInt 64 (4294967295 : Int) = BitVec.ofNat 64 4294967295 := by decide
  have e2 : BitVec.ofInt 64 (n : Int) = BitVec.ofNat 64 n := by
    apply BitVec.eq_of_toNat_eq; simp
  have e3 : ((BitVec.ofNat 64 n &&& BitVec.ofNat 64 4294967295).toNat : Nat) = n % 4294967296 := by
    rw [BitVec.toNat_and, BitVec.toNat_ofNat, BitVec.toNat_ofNat]
    have hn : n % 2 ^ 64 = n := Nat.mod_eq_of_lt (by omega)
    have h2 : (4294967295 : Nat) % 2 ^ 64 = 2 ^ 32 - 1 := by decide
    rw [hn, h2, Nat.and_two_pow_sub_one_eq_mod]
  have e5 : bitsD .and .u64 (n : Int) 4294967295 = some (.int .u64 (IntKind.u64.wrap ((BitVec.ofInt 64 (n : Int) &&& BitVec.ofInt 64 4294967295).toNat : Int))) := rfl
  rw [e5, e1, e2, e3, wu64 (by omega)]
  rfl

theorem shr32 (x : Int) : shiftD .shr .u64 x 32 = some (.int .u64 (x / 4294967296)) := by
  have e : ¬ ((32 : Int) < 0) := by omega
  simp only [shiftD, if_neg e]
  have e2 : (2 : Int) ^ (min (32 : Int).toNat IntKind.u64.bits) = 4294967296 := by decide
  rw [e2, Int.fdiv_eq_ediv_of_nonneg _ (by omega)]

set_option maxHeartbeats 1000000 in
theorem mul64_ok (x y : Int) (hx : 0 ≤ x ∧ x ≤ 18446744073709551615) (hy : 0 ≤ y ∧ y ≤ 18446744073709551615) (hp : List Ent) :
    F tab 64 [.d (uv x), .d (uv y)] hp = some (.ret (.tup [.d (uv (x * y / 18446744073709551616)), .d (uv (x * y % 18446744073709551616))]) hp) := by
  have ax := and32 hx
  have ay := and32 hy
  have e64 : (2 : Int) ^ 64 = 18446744073709551616 := by decide
  have bnd : ∀ a b : Int, 0 ≤ a → a ≤ 4294967295 → 0 ≤ b → b ≤ 4294967295 → 0 ≤ a * b ∧ a * b ≤ 18446744065119617025 := by
    intro a b h1 h2 h3 h4
    refine ⟨Int.mul_nonneg h1 h3, ?_⟩
    have h5 : a * b ≤ 4294967295 * b := Int.mul_le_mul_of_nonneg_right h2 h3
    omega
  have p00 := bnd (x % 4294967296) (y % 4294967296) (by omega) (by omega) (by omega) (by omega)
  have p10 := bnd (x / 4294967296) (y % 4294967296) (by omega) (by omega) (by omega) (by omega)
  have p01 := bnd (x % 4294967296) (y / 4294967296) (by omega) (by omega) (by omega) (by omega)
  have p11 := bnd (x / 4294967296) (y / 4294967296) (by omega) (by omega) (by omega) (by omega)
  have hxy : x * y = (x / 4294967296) * (y / 4294967296) * 18446744073709551616 + ((x / 4294967296) * (y % 4294967296) + (x % 4294967296) * (y / 4294967296)) * 4294967296 + (x % 4294967296) * (y % 4294967296) := by
    have h1 := Int.mul_ediv_add_emod x 4294967296
    have h2 := Int.mul_ediv_add_emod y 4294967296
    generalize x / 4294967296 = a at *
    generalize x % 4294967296 = b at *
    generalize y / 4294967296 = c at *
    generalize y % 4294967296 = d at *
    rw [← h1, ← h2, Int.add_mul, Int.mul_add, Int.mul_add, Int.add_mul]
    have e1 : 4294967296 * a * (4294967296 * c) = a * c * 18446744073709551616 := by
      rw [Int.mul_comm 4294967296 a, Int.mul_assoc, ← Int.mul_assoc 4294967296 4294967296 c, Int.mul_comm _ c, ← Int.mul_assoc]; rfl
    have e2 : 4294967296 * a * d = a * d * 4294967296 := by rw [Int.mul_assoc, Int.mul_comm]
    have e3 : b * (4294967296 * c) = b * c * 4294967296 := by rw [Int.mul_comm 4294967296 c, Int.mul_assoc]
    rw [e1, e2, e3]
    omega
  have wlo : IntKind.u64.wrap (x * y) = x * y % 18446744073709551616 := by
    simp only [IntKind.wrap, IntKind.bits, IntKind.signed, Bool.false_and, Bool.false_eq_true, if_false, e64]
  have hhi : (x / 4294967296) * (y / 4294967296) + ((x / 4294967296) * (y % 4294967296) + (x % 4294967296) * (y % 4294967296) / 4294967296) / 4294967296 + (((x / 4294967296) * (y % 4294967296) + (x % 4294967296) * (y % 4294967296) / 4294967296) % 4294967296 + (x % 4294967296) * (y / 4294967296)) / 4294967296 = x * y / 18446744073709551616 := by
    rw [hxy]
    generalize (x / 4294967296) * (y / 4294967296) = p at *
    generalize (x / 4294967296) * (y % 4294967296) = q at *
    generalize (x % 4294967296) * (y / 4294967296) = r at *
    generalize (x % 4294967296) * (y % 4294967296) = s at *
    omega
  have s32 := shr32
  refine f64 rfl ?_
  have at0 : ∀ t : Int, 0 ≤ t → t ≤ 18446744073709551615 → bitsD .and .u64 t 4294967295 = some (.int .u64 (t % 4294967296)) := fun t a b => and32 ⟨a, b⟩
  rw [← hhi]
  generalize hA : x / 4294967296 = A at *
  generalize hB : x % 4294967296 = B at *
  generalize hC : y / 4294967296 = C at *
  generalize hD : y % 4294967296 = E at *
  have w1 : IntKind.u64.wrap (B * E) = B * E := wu64 (by omega)
  have w2 : IntKind.u64.wrap (A * E) = A * E := wu64 (by omega)
  have w3 : IntKind.u64.wrap (A * E + B * E / 4294967296) = A * E + B * E / 4294967296 := wu64 (by generalize A * E = u at *; generalize B * E = v at *; omega)
  have w4 : IntKind.u64.wrap (B * C) = B * C := wu64 (by omega)
  have w5 : IntKind.u64.wrap ((A * E + B * E / 4294967296) % 4294967296 + B * C) = (A * E + B * E / 4294967296) % 4294967296 + B * C := wu64 (by generalize A * E = u at *; generalize B * E = v at *; generalize B * C = r at *; omega)
  have w6 : IntKind.u64.wrap (A * C) = A * C := wu64 (by omega)
  have w7 : IntKind.u64.wrap (A * C + (A * E + B * E / 4294967296) / 4294967296) = A * C + (A * E + B * E / 4294967296) / 4294967296 := wu64 (by generalize A * E = u at *; generalize B * E = v at *; generalize A * C = r at *; omega)
  have w8 : IntKind.u64.wrap (A * C + (A * E + B * E / 4294967296) / 4294967296 + ((A * E + B * E / 4294967296) % 4294967296 + B * C) / 4294967296) = A * C + (A * E + B * E / 4294967296) / 4294967296 + ((A * E + B * E / 4294967296) % 4294967296 + B * C) / 4294967296 := wu64 (by generalize A * E = u at *; generalize B * E = v at *; generalize A * C = r at *; generalize B * C = t at *; omega)
  have a3 : bitsD .and .u64 (A * E + B * E / 4294967296) 4294967295 = some (.int .u64 ((A * E + B * E / 4294967296) % 4294967296)) := at0 _ (by generalize A * E = u at *; generalize B * E = v at *; omega) (by generalize A * E = u at *; generalize B * E = v at *; omega)
  simp only [go_sem, and_self, and_true, true_and, false_and, and_false, Nat.reduceAdd, Nat.reduceMul, Nat.reduceSub, Nat.reduceLeDiff, Nat.reduceLT, Nat.reduceGT, Nat.reduceEqDiff, Nat.reduceBEq, Int.reduceNeg, Int.reduceEq, Int.reduceLT, Int.reduceLE, Int.reduceBEq, Int.reduceToNat, Int.toNat_natCast, Int.natCast_zero, r64_T, r64, ax, ay, a3, s32, hA, hB, hC, hD, wlo, w1, w2, w3, w4, w5, w6, w7, w8]

theorem size_ok (c : Int) (hc : -1000000000000000 ≤ c ∧ c ≤ 1000000000000000) (hp : List Ent) : F tab 53 [.d (iv c)] hp = some (.ret (.d (uv c.natAbs)) hp) := by
  refine f53 rfl ?_
  by_cases h : c < 0
  · have e : ((c.natAbs : Nat) : Int) = 0 - c := by omega
    rw [e]
    simp (disch := omega) only [go_sem, and_self, and_true, true_and, false_and, and_false, Nat.reduceAdd, Nat.reduceMul, Nat.reduceSub, Nat.reduceLeDiff, Nat.reduceLT, Nat.reduceGT, Nat.reduceEqDiff, Nat.reduceBEq, Int.reduceNeg, Int.reduceEq, Int.reduceLT, Int.reduceLE, Int.reduceBEq, Int.reduceToNat, Int.toNat_natCast, Int.natCast_zero, r53_T, r53, h, w64, wu64]
  · have e : ((c.natAbs : Nat) : Int) = c := by omega
    rw [e]
    simp (disch := omega) only [go_sem, and_self, and_true, true_and, false_and, and_false, Nat.reduceAdd, Nat.reduceMul, Nat.reduceSub, Nat.reduceLeDiff, Nat.reduceLT, Nat.reduceGT, Nat.reduceEqDiff, Nat.reduceBEq, Int.reduceNeg, Int.reduceEq, Int.reduceLT, Int.reduceLE, Int.reduceBEq, Int.reduceToNat, Int.toNat_natCast, Int.natCast_zero, r53_T, r53, h, w64, wu64]
end Go.Pe.T

namespace Go.Pe.T
/-! ### the greatest common divisor; factors -/

def CmLoop (a b : Nat) : Prop := V (F tab) r52_B0 (r52_S0 (.d (uv a)) (.d (uv b)) []) = some (.norm, r52_E0 (.d (uv (Nat.gcd a b : Nat))) [])
theorem cm_end (a : Nat) : CmLoop a 0 := by
  have h1 : (((0 : Nat) : Int) != 0) = false := rfl
  have h2 : ((0 : Int) != 0) = false := rfl
  unfold CmLoop
  rw [r52_B0_eq, Nat.gcd_zero_right]
  simp (disch := omega) only [go_sem, and_self, and_true, true_and, false_and, and_false, Nat.reduceAdd, Nat.reduceMul, Nat.reduceSub, Nat.reduceLeDiff, Nat.reduceLT, Nat.reduceGT, Nat.reduceEqDiff, Nat.reduceBEq, Int.reduceNeg, Int.reduceEq, Int.reduceLT, Int.reduceLE, Int.reduceBEq, Int.reduceToNat, Int.toNat_natCast, Int.natCast_zero, r52_C0, h1, h2]
theorem cm_step (a b : Nat) (hb : 0 < b) (ih : CmLoop b (a % b)) : CmLoop a b := by
  have h1 : ((b : Int) != 0) = true := by simp; omega
  have h2 : ((b : Int) = 0) = False := eq_false (by omega)
  have h3 : (a : Int).tmod (b : Int) = ((a % b : Nat) : Int) := (Int.ofNat_tmod a b).symm
  have hg : Nat.gcd a b = Nat.gcd b (a % b) := by rw [Nat.gcd_comm a b, Nat.gcd_rec b a, Nat.gcd_comm]
  unfold CmLoop at ih ⊢
  rw [r52_B0_eq, hg]
  simp (disch := omega) only [go_sem, and_self, and_true, true_and, false_and, and_false, Nat.reduceAdd, Nat.reduceMul, Nat.reduceSub, Nat.reduceLeDiff, Nat.reduceLT, Nat.reduceGT, Nat.reduceEqDiff, Nat.reduceBEq, Int.reduceNeg, Int.reduceEq, Int.reduceLT, Int.reduceLE, Int.reduceBEq, Int.reduceToNat, Int.toNat_natCast, Int.natCast_zero, r52_C0, h1, h2, h3]
  exact ih
theorem cm_loop : ∀ (n b a : Nat), b ≤ n → CmLoop a b
  | 0, b, a, h => by obtain rfl : b = 0 := by omega
                     exact cm_end a
  | n + 1, b, a, h => by
    by_cases hb : b = 0
    · subst hb; exact cm_end a
    · have := Nat.mod_lt a (show 0 < b by omega)
      exact cm_step a b (by omega) (cm_loop n (a % b) b (by omega))
theorem common_ok (a b : Nat) (hp : List Ent) : F tab 52 [.d (uv a), .d (uv b)] hp = some (.ret (.d (uv (Nat.gcd a b : Nat))) hp) := by
  have hL := cm_loop b b a (Nat.le_refl _)
  unfold CmLoop at hL
  refine f52 rfl ?_
  simp (disch := omega) only [go_sem, and_self, and_true, true_and, false_and, and_false, Nat.reduceAdd, Nat.reduceMul, Nat.reduceSub, Nat.reduceLeDiff, Nat.reduceLT, Nat.reduceGT, Nat.reduceEqDiff, Nat.reduceBEq, Int.reduceNeg, Int.reduceEq, Int.reduceLT, Int.reduceLE, Int.reduceBEq, Int.reduceToNat, Int.toNat_natCast, Int.natCast_zero, r52_T, r52]
  rw [r52_B0_n]
  erw [hL]
  simp (disch := omega) only [go_sem, and_self, and_true, true_and, false_and, and_false, Nat.reduceAdd, Nat.reduceMul, Nat.reduceSub, Nat.reduceLeDiff, Nat.reduceLT, Nat.reduceGT, Nat.reduceEqDiff, Nat.reduceBEq, Int.reduceNeg, Int.reduceEq, Int.reduceLT, Int.reduceLE, Int.reduceBEq, Int.reduceToNat, Int.toNat_natCast, Int.natCast_zero]

def SpIs (y n k : Nat) : Prop := ∃ j m : Nat, V (F tab) r54_B0 (r54_S0 (.d (uv n)) (.d (uv y)) (.d (iv k)) []) = some (.norm, r54_E0 (.d (uv m)) (.d (iv (k + j : Nat))) []) ∧ n = y ^ j * m ∧ m % y ≠ 0 ∧ 0 < m
theorem sp_end (y n k : Nat) (hy : 1 < y) (hn : 0 < n) (h : n % y ≠ 0) : SpIs y n k := by
  refine ⟨0, n, ?_, by simp, h, hn⟩
  have h2 : ((y : Int) = 0) = False := eq_false (by omega)
  have h3 : (n : Int).tmod (y : Int) = ((n % y : Nat) : Int) := (Int.ofNat_tmod n y).symm
  have h4 : (((n % y : Nat) : Int) == 0) = false := by simp only [beq_eq_false_iff_ne, ne_eq]; omega
  rw [r54_B0_eq, Nat.add_zero]
  simp (disch := omega) only [go_sem, and_self, and_true, true_and, false_and, and_false, Nat.reduceAdd, Nat.reduceMul, Nat.reduceSub, Nat.reduceLeDiff, Nat.reduceLT, Nat.reduceGT, Nat.reduceEqDiff, Nat.reduceBEq, Int.reduceNeg, Int.reduceEq, Int.reduceLT, Int.reduceLE, Int.reduceBEq, Int.reduceToNat, Int.toNat_natCast, Int.natCast_zero, r54_C0, h2, h3, h4]
theorem sp_step (y n k : Nat) (hy : 1 < y) (hn : 0 < n) (hk : k ≤ 1000000000000000000) (hn2 : n ≤ 1000000000000000000) (h : n % y = 0) (ih : SpIs y (n / y) (k + 1)) : SpIs y n k := by
  obtain ⟨j, m, e1, e2, e3, e4⟩ := ih
  have hle : n / y ≤ n := Nat.div_le_self n y
  refine ⟨j + 1, m, ?_, ?_, e3, e4⟩
  · have h2 : ((y : Int) = 0) = False := eq_false (by omega)
    have h3 : (n : Int).tmod (y : Int) = ((n % y : Nat) : Int) := (Int.ofNat_tmod n y).symm
    have h4 : (((n % y : Nat) : Int) == 0) = true := by rw [h]; rfl
    have h5 : (n : Int).tdiv (y : Int) = ((n / y : Nat) : Int) := (Int.ofNat_tdiv n y).symm
    have h6 : IntKind.u64.wrap ((n / y : Nat) : Int) = ((n / y : Nat) : Int) := wu64 (by omega)
    have h7 : (k : Int) + 1 = ((k + 1 : Nat) : Int) := rfl
    have h8 : IntKind.i64.wrap ((k + 1 : Nat) : Int) = ((k + 1 : Nat) : Int) := w64 (by omega)
    rw [show k + 1 + j = k + (j + 1) by omega] at e1
    rw [r54_B0_eq]
    simp (disch := omega) only [go_sem, and_self, and_true, true_and, false_and, and_false, Nat.reduceAdd, Nat.reduceMul, Nat.reduceSub, Nat.reduceLeDiff, Nat.reduceLT, Nat.reduceGT, Nat.reduceEqDiff, Nat.reduceBEq, Int.reduceNeg, Int.reduceEq, Int.reduceLT, Int.reduceLE, Int.reduceBEq, Int.reduceToNat, Int.toNat_natCast, Int.natCast_zero, r54_C0, h2, h3, h4, h5, h6, h7, h8]
    exact e1
  · have := Nat.div_add_mod n y
    rw [h, Nat.add_zero] at this
    rw [← this, Nat.pow_succ, Nat.mul_comm (y ^ j) y, Nat.mul_assoc, ← e2]
theorem sp_loop (y : Nat) (hy : 1 < y) : ∀ (b n k : Nat), n ≤ b → 0 < n → b ≤ 1000000000000000 → k + b ≤ 1000000000000000000 → SpIs y n k
  | 0, n, k, h, hn, _, _ => by omega
  | b + 1, n, k, h, hn, hb, hk => by
    by_cases g : n % y = 0
    · have h1 : n / y < n := Nat.div_lt_self hn hy
      have h2 : 0 < n / y := Nat.div_pos (Nat.le_of_dvd hn (Nat.dvd_of_mod_eq_zero g)) (by omega)
      exact sp_step y n k hy hn (by omega) (by omega) g (sp_loop y hy b (n / y) (k + 1) (by omega) h2 (by omega) (by omega))
    · exact sp_end y n k hy hn g
theorem split_ok (y n : Nat) (hy : 1 < y) (hn : 0 < n) (hn2 : n ≤ 1000000000000000) : ∃ j m : Nat, (∀ hp, F tab 54 [.d (uv n), .d (uv y)] hp = some (.ret (.tup [.d (iv j), .d (uv m)]) hp)) ∧ n = y ^ j * m ∧ m % y ≠ 0 ∧ 0 < m := by
  obtain ⟨j, m, e1, e2, e3, e4⟩ := sp_loop y hy n n 0 (Nat.le_refl _) hn hn2 (by omega)
  rw [Nat.zero_add] at e1
  refine ⟨j, m, fun hp => ?_, e2, e3, e4⟩
  refine f54 rfl ?_
  simp (disch := omega) only [go_sem, and_self, and_true, true_and, false_and, and_false, Nat.reduceAdd, Nat.reduceMul, Nat.reduceSub, Nat.reduceLeDiff, Nat.reduceLT, Nat.reduceGT, Nat.reduceEqDiff, Nat.reduceBEq, Int.reduceNeg, Int.reduceEq, Int.reduceLT, Int.reduceLE, Int.reduceBEq, Int.reduceToNat, Int.toNat_natCast, Int.natCast_zero, r54_T, r54]
  rw [r54_B0_n]
  erw [e1]
  simp (disch := omega) only [go_sem, and_self, and_true, true_and, false_and, and_false, Nat.reduceAdd, Nat.reduceMul, Nat.reduceSub, Nat.reduceLeDiff, Nat.reduceLT, Nat.reduceGT, Nat.reduceEqDiff, Nat.reduceBEq, Int.reduceNeg, Int.reduceEq, Int.reduceLT, Int.reduceLE, Int.reduceBEq, Int.reduceToNat, Int.toNat_natCast, Int.natCast_zero]

def TmIs (y n j i : Nat) : Prop := V (F tab) r55_B0 (r55_S0 (.d (uv n)) (.d (uv y)) (.d (iv j)) (.d (iv i)) []) =
  if n * y ^ (j - i) < 1000000000000000 then some (.norm, r55_E0 (.d (uv (n * y ^ (j - i) : Nat))) []) else some (.ret, r55_R (.d (uv 0)) (.d (.bool false)) [])
theorem tm_end (y n j : Nat) (hn2 : n < 1000000000000000) : TmIs y n j j := by
  have h1 : ((j : Int) < (j : Int)) = False := eq_false (by omega)
  unfold TmIs
  rw [Nat.sub_self, Nat.pow_zero, Nat.mul_one, if_pos hn2, r55_B0_eq]
  simp (disch := omega) only [go_sem, and_self, and_true, true_and, false_and, and_false, Nat.reduceAdd, Nat.reduceMul, Nat.reduceSub, Nat.reduceLeDiff, Nat.reduceLT, Nat.reduceGT, Nat.reduceEqDiff, Nat.reduceBEq, Int.reduceNeg, Int.reduceEq, Int.reduceLT, Int.reduceLE, Int.reduceBEq, Int.reduceToNat, Int.toNat_natCast, Int.natCast_zero, r55_C0, h1]
theorem tm_step (y n j i : Nat) (hy : 1 ≤ y) (hy2 : y ≤ 10) (hn : 0 < n) (hn2 : n < 1000000000000000) (hi : i < j) (hj : j ≤ 1000000) (ih : n * y < 1000000000000000 → TmIs y (n * y) j (i + 1)) : TmIs y n j i := by
  have h1 : ((i : Int) < (j : Int)) = True := eq_true (by omega)
  have h2 : ((n : Int) == 0) = false := by simp only [beq_eq_false_iff_ne, ne_eq]; omega
  have h3 : (n : Int) * (y : Int) = ((n * y : Nat) : Int) := (Int.natCast_mul n y).symm
  have hle : n * y ≤ 10000000000000000 := by
    have : n * y ≤ n * 10 := Nat.mul_le_mul_left n hy2
    omega
  have h4 : IntKind.u64.wrap ((n * y : Nat) : Int) = ((n * y : Nat) : Int) := wu64 (by omega)
  have h5 : (i : Int) + 1 = ((i + 1 : Nat) : Int) := rfl
  have h6 : IntKind.i64.wrap ((i + 1 : Nat) : Int) = ((i + 1 : Nat) : Int) := w64 (by omega)
  have hp : n * y ^ (j - i) = n * y * y ^ (j - (i + 1)) := by
    rw [show j - i = (j - (i + 1)) + 1 by omega, Nat.pow_succ, Nat.mul_comm (y ^ _) y, Nat.mul_assoc]
  unfold TmIs at ih ⊢
  rw [hp, r55_B0_eq]
  by_cases g : n * y < 1000000000000000
  · have h7 : (((n * y : Nat) : Int) ≥ 1000000000000000) = False := eq_false (by omega)
    simp (disch := omega) only [go_sem, and_self, and_true, true_and, false_and, and_false, Nat.reduceAdd, Nat.reduceMul, Nat.reduceSub, Nat.reduceLeDiff, Nat.reduceLT, Nat.reduceGT, Nat.reduceEqDiff, Nat.reduceBEq, Int.reduceNeg, Int.reduceEq, Int.reduceLT, Int.reduceLE, Int.reduceBEq, Int.reduceToNat, Int.toNat_natCast, Int.natCast_zero, r55_C0, h1, h2, h3, h4, h5, h6, h7]
    exact ih g
  · have h7 : (((n * y : Nat) : Int) ≥ 1000000000000000) = True := eq_true (by omega)
    have h8 : ¬ n * y * y ^ (j - (i + 1)) < 1000000000000000 := by
      have hpos : 1 ≤ y ^ (j - (i + 1)) := by first | exact Nat.pow_pos (by omega) | exact Nat.pos_pow_of_pos _ (by omega) | exact Nat.one_le_pow _ _ (by omega)
      have := Nat.mul_le_mul_left (n * y) hpos
      omega
    rw [if_neg h8]
    simp (disch := omega) only [go_sem, and_self, and_true, true_and, false_and, and_false, Nat.reduceAdd, Nat.reduceMul, Nat.reduceSub, Nat.reduceLeDiff, Nat.reduceLT, Nat.reduceGT, Nat.reduceEqDiff, Nat.reduceBEq, Int.reduceNeg, Int.reduceEq, Int.reduceLT, Int.reduceLE, Int.reduceBEq, Int.reduceToNat, Int.toNat_natCast, Int.natCast_zero, r55_C0, h1, h2, h3, h4, h5, h6, h7]
theorem tm_loop (y j : Nat) (hy : 1 ≤ y) (hy2 : y ≤ 10) (hj : j ≤ 1000000) : ∀ (d i n : Nat), i + d = j → 0 < n → n < 1000000000000000 → TmIs y n j i
  | 0, i, n, h, _, hn2 => by obtain rfl : i = j := by omega
                             exact tm_end y n i hn2
  | d + 1, i, n, h, hn, hn2 => tm_step y n j i hy hy2 hn hn2 (by omega) hj fun g => tm_loop y j hy hy2 hj d (i + 1) (n * y) (by omega) (Nat.mul_pos hn (by omega)) g

def timesN (n y j : Nat) : Nat := if n * y ^ j < 1000000000000000 then n * y ^ j else 0
theorem times_ok (n y j : Nat) (hy : 1 ≤ y) (hy2 : y ≤ 10) (hj : j ≤ 1000000) (hn2 : n < 1000000000000000) (hp : List Ent) :
    F tab 55 [.d (uv n), .d (uv y), .d (iv j)] hp = some (.ret (.tup [.d (uv (timesN n y j)), .d (.bool (decide (n * y ^ j < 1000000000000000)))]) hp) := by
  refine f55 rfl ?_
  simp (disch := omega) only [go_sem, and_self, and_true, true_and, false_and, and_false, Nat.reduceAdd, Nat.reduceMul, Nat.reduceSub, Nat.reduceLeDiff, Nat.reduceLT, Nat.reduceGT, Nat.reduceEqDiff, Nat.reduceBEq, Int.reduceNeg, Int.reduceEq, Int.reduceLT, Int.reduceLE, Int.reduceBEq, Int.reduceToNat, Int.toNat_natCast, Int.natCast_zero, r55_T, r55]
  rw [r55_B0_n]
  by_cases hn : n = 0
  · subst hn
    have e : timesN 0 y j = 0 := by simp [timesN]
    have e2 : decide (0 * y ^ j < 1000000000000000) = true := by simp
    rw [e, e2]
    by_cases h : j = 0
    · subst h
      have := tm_end y 0 0 (by omega)
      unfold TmIs at this
      rw [Nat.zero_mul, if_pos (by omega)] at this
      erw [this]
      simp (disch := omega) only [go_sem, and_self, and_true, true_and, false_and, and_false, Nat.reduceAdd, Nat.reduceMul, Nat.reduceSub, Nat.reduceLeDiff, Nat.reduceLT, Nat.reduceGT, Nat.reduceEqDiff, Nat.reduceBEq, Int.reduceNeg, Int.reduceEq, Int.reduceLT, Int.reduceLE, Int.reduceBEq, Int.reduceToNat, Int.toNat_natCast, Int.natCast_zero]
    · have h1 : ((0 : Int) < (j : Int)) = True := eq_true (by omega)
      have h2 : (((0 : Nat) : Int) == 0) = true := rfl
      have h3 : ((0 : Int) == 0) = true := rfl
      rw [r55_B0_eq]
      simp (disch := omega) only [go_sem, and_self, and_true, true_and, false_and, and_false, Nat.reduceAdd, Nat.reduceMul, Nat.reduceSub, Nat.reduceLeDiff, Nat.reduceLT, Nat.reduceGT, Nat.reduceEqDiff, Nat.reduceBEq, Int.reduceNeg, Int.reduceEq, Int.reduceLT, Int.reduceLE, Int.reduceBEq, Int.reduceToNat, Int.toNat_natCast, Int.natCast_zero, r55_C0, h1, h2, h3]
  · have hL := tm_loop y j hy hy2 hj j 0 n (by omega) (by omega) hn2
    unfold TmIs at hL
    rw [Nat.sub_zero] at hL
    erw [hL]
    unfold timesN
    by_cases g : n * y ^ j < 1000000000000000
    · have e2 : decide (n * y ^ j < 1000000000000000) = true := decide_eq_true g
      rw [if_pos g, if_pos g, e2]
      simp (disch := omega) only [go_sem, and_self, and_true, true_and, false_and, and_false, Nat.reduceAdd, Nat.reduceMul, Nat.reduceSub, Nat.reduceLeDiff, Nat.reduceLT, Nat.reduceGT, Nat.reduceEqDiff, Nat.reduceBEq, Int.reduceNeg, Int.reduceEq, Int.reduceLT, Int.reduceLE, Int.reduceBEq, Int.reduceToNat, Int.toNat_natCast, Int.natCast_zero]
    · have e2 : decide (n * y ^ j < 1000000000000000) = false := decide_eq_false g
      rw [if_neg g, if_neg g, e2]
      simp (disch := omega) only [go_sem, and_self, and_true, true_and, false_and, and_false, Nat.reduceAdd, Nat.reduceMul, Nat.reduceSub, Nat.reduceLeDiff, Nat.reduceLT, Nat.reduceGT, Nat.reduceEqDiff, Nat.reduceBEq, Int.reduceNeg, Int.reduceEq, Int.reduceLT, Int.reduceLE, Int.reduceBEq, Int.reduceToNat, Int.toNat_natCast, Int.natCast_zero]
theorem timesN_lt (n y j : Nat) : timesN n y j < 1000000000000000 := by
  unfold timesN; split <;> omega
end Go.Pe.T

namespace Go.Pe.T
/-! ### num.Div -/
theorem make_wide (c : Int) (k : Nat) (hk : 30 < k) (hk2 : k ≤ 1000) (hp : List Ent) : F tab 16 [.d (iv c), .d (iv k)] hp = some (.ret (.tup [.d (.agg [iv 0, iv 0]), .d (iv 8)]) hp) := by
  have h1 : ((k : Int) < 0) = False := eq_false (by omega)
  have h2 : ((k : Int) > 30) = True := eq_true (by omega)
  refine f16 rfl ?_
  simp (disch := omega) only [go_sem, and_self, and_true, true_and, false_and, and_false, Nat.reduceAdd, Nat.reduceMul, Nat.reduceSub, Nat.reduceLeDiff, Nat.reduceLT, Nat.reduceGT, Nat.reduceEqDiff, Nat.reduceBEq, Int.reduceNeg, Int.reduceEq, Int.reduceLT, Int.reduceLE, Int.reduceBEq, Int.reduceToNat, Int.toNat_natCast, Int.natCast_zero, r16_T, r16, h1, h2]

set_option maxHeartbeats 8000000 in
theorem div_ok (c c' : Int) (k k' : Nat) (h : numIs c k = true) (h' : numIs c' k' = true) (h0 : c' ≠ 0) :
    ∃ T, (∀ hp, F tab 26 [.d (numD c k), .d (numD c' k')] hp = some (.ret T hp)) ∧ QSpec c c' k k' T := by
  obtain ⟨_, e0, hk, hc⟩ := numIs_inv h
  obtain ⟨_, e1, hk', hc'⟩ := numIs_inv h'
  have e0 := Int.ofNat.inj e0
  have e1 := Int.ofNat.inj e1
  subst e0; subst e1
  have h1 := both_ok c k c' k'
  rw [h, h'] at h1
  have n1 : (c' == 0) = false := by simpa using h0
  by_cases hx0 : c = 0
  · subst hx0
    have n0 : ((0 : Int) == 0) = true := rfl
    refine ⟨.tup [.d (.agg [iv 0, iv 0]), .d (iv 0)], fun hp => ?_, .inl ⟨0, 0, rfl, by decide, ?_⟩⟩
    · refine f26 rfl ?_
      simp (maxSteps := 2000000) (disch := omega) only [go_sem, and_self, and_true, true_and, false_and, and_false, Nat.reduceAdd, Nat.reduceMul, Nat.reduceSub, Nat.reduceLeDiff, Nat.reduceLT, Nat.reduceGT, Nat.reduceEqDiff, Nat.reduceBEq, Int.reduceNeg, Int.reduceEq, Int.reduceLT, Int.reduceLE, Int.reduceBEq, Int.reduceToNat, Int.toNat_natCast, Int.natCast_zero, r26_T, r26, numD, h1, n1, n0]
    · unfold QSol; simp
  have n2 : (c == 0) = false := by simpa using hx0
  have h2 := size_ok c (by omega)
  have h3 := size_ok c' (by omega)
  have h4 := common_ok c.natAbs c'.natAbs
  have hg0 : 0 < Nat.gcd c.natAbs c'.natAbs := Nat.gcd_pos_of_pos_left _ (by omega)
  have hco := Nat.coprime_div_gcd_div_gcd hg0
  have hgx := Nat.gcd_dvd_left c.natAbs c'.natAbs
  have hgy := Nat.gcd_dvd_right c.natAbs c'.natAbs
  have ea := (Nat.mul_div_cancel' hgx).symm
  have eb := (Nat.mul_div_cancel' hgy).symm
  have hq0 : 0 < c'.natAbs / Nat.gcd c.natAbs c'.natAbs := Nat.div_pos (Nat.le_of_dvd (by omega) hgy) hg0
  have hp0 : 0 < c.natAbs / Nat.gcd c.natAbs c'.natAbs := Nat.div_pos (Nat.le_of_dvd (by omega) hgx) hg0
  have hqle : c'.natAbs / Nat.gcd c.natAbs c'.natAbs ≤ c'.natAbs := Nat.div_le_self _ _
  have hple : c.natAbs / Nat.gcd c.natAbs c'.natAbs ≤ c.natAbs := Nat.div_le_self _ _
  have hdx : ((c.natAbs : Nat) : Int).tdiv (Nat.gcd c.natAbs c'.natAbs : Nat) = ((c.natAbs / Nat.gcd c.natAbs c'.natAbs : Nat) : Int) := (Int.ofNat_tdiv _ _).symm
  have hdy : ((c'.natAbs : Nat) : Int).tdiv (Nat.gcd c.natAbs c'.natAbs : Nat) = ((c'.natAbs / Nat.gcd c.natAbs c'.natAbs : Nat) : Int) := (Int.ofNat_tdiv _ _).symm
  have hgi : (((Nat.gcd c.natAbs c'.natAbs : Nat) : Int) = 0) = False := eq_false (by omega)
  generalize Nat.gcd c.natAbs c'.natAbs = g at *
  generalize hP : c.natAbs / g = p at *
  generalize hQ : c'.natAbs / g = q at *
  have wp : IntKind.u64.wrap (p : Int) = p := wu64 (by omega)
  have wq : IntKind.u64.wrap (q : Int) = q := wu64 (by omega)
  obtain ⟨t, m2, s2, e2, d2, p2⟩ := split_ok 2 q (by omega) hq0 (by omega)
  have hj2 : t < 50 := pow_lt50 (by omega) p2 e2 (by omega)
  have hm2 : m2 ≤ q := Nat.le_of_dvd hq0 ⟨2 ^ t, by rw [Nat.mul_comm]; exact e2⟩
  obtain ⟨f, m5, s5, e5, d5, p5⟩ := split_ok 5 m2 (by omega) p2 (by omega)
  have hj5 : f < 50 := pow_lt50 (by omega) p5 e5 (by omega)
  obtain ⟨K, hk1, hk2, hk3, hk4, hk5⟩ : ∃ K : Nat, (if (f : Int) > (t : Int) then (f : Int) else (t : Int)) = (K : Int) ∧ t ≤ K ∧ f ≤ K ∧ (K = t ∨ K = f) ∧ K < 50 := by
    by_cases g : f > t
    · exact ⟨f, by rw [if_pos (by omega)], by omega, by omega, .inr rfl, by omega⟩
    · exact ⟨t, by rw [if_neg (by omega)], by omega, by omega, .inl rfl, by omega⟩
  obtain ⟨sc, e, hsc1, hsc2, he, hsc3⟩ : ∃ sc e : Nat, (if (K : Int) + (k : Int) - (k' : Int) > 0 then (K : Int) + (k : Int) - (k' : Int) else 0) = (sc : Int) ∧ (if (0 - ((K : Int) + (k : Int) - (k' : Int))) > 0 then (0 - ((K : Int) + (k : Int) - (k' : Int))) else 0) = (e : Int) ∧ K + k + e = k' + sc ∧ (sc = 0 ∨ e = 0) := by
    by_cases g : (K : Int) + (k : Int) - (k' : Int) > 0
    · exact ⟨K + k - k', 0, by rw [if_pos g]; omega, by rw [if_neg (by omega)]; omega, by omega, .inr rfl⟩
    · exact ⟨0, k' - K - k, by rw [if_neg g]; omega, by (split <;> omega), by omega, .inl rfl⟩
  have dk2 : (K : Int) - (t : Int) = ((K - t : Nat) : Int) := by omega
  have dk5 : (K : Int) - (f : Int) = ((K - f : Nat) : Int) := by omega
  have t2 := times_ok p 2 (K - t) (by omega) (by omega) (by omega) (by omega)
  have l2 := timesN_lt p 2 (K - t)
  have t5 := times_ok (timesN p 2 (K - t)) 5 (K - f) (by omega) (by omega) (by omega) l2
  have l5 := timesN_lt (timesN p 2 (K - t)) 5 (K - f)
  have t10 := times_ok (timesN (timesN p 2 (K - t)) 5 (K - f)) 10 e (by omega) (by omega) (by omega) l5
  have n8 : ((2 : Nat) : Int) = 2 := rfl
  have n9 : ((5 : Nat) : Int) = 5 := rfl
  have n10 : ((10 : Nat) : Int) = 10 := rfl
  simp only [n8, n9, n10] at s2 s5 t2 t5 t10
  have hlow : Low c.natAbs c'.natAbs g p q t m2 f m5 := ⟨ea, eb, hg0, hp0, hq0, hco, e2, d2, e5, d5⟩
  by_cases c1 : m5 = 1
  · have q1 : ((m5 : Int) != 1) = false := by subst c1; rfl
    subst c1
    have hmade := fun z s => low_made hlow K hk2 hk3 sc e he z s
    have htail := low_tail hlow K hk2 hk3
    have pw2 : 1 ≤ 2 ^ (K - t) := Nat.pow_pos (by omega)
    have pw5 : 1 ≤ 5 ^ (K - f) := Nat.pow_pos (by omega)
    have pw10 : 1 ≤ 10 ^ e := Nat.pow_pos (by omega)
    -- what is too great
    have hno : 1000000000000000 ≤ p * 2 ^ (K - t) * 5 ^ (K - f) * 10 ^ e ∨ 9 < sc → makeOk (sv (!(decide (c < 0) == decide (c' < 0))) ((p * 2 ^ (K - t) * 5 ^ (K - f) * 10 ^ e : Nat) : Int)) sc = false ∨ (K = 0 ∧ sc ≤ 9) := by
      intro hb
      by_cases hz : sc = 0
      · exact .inl (made_big _ _ sc (.inl hz) hb)
      · have he0 : e = 0 := by omega
        by_cases hK : 0 < K
        · refine .inl (made_big _ _ sc (.inr ?_) hb)
          rw [he0, Nat.pow_zero, Nat.mul_one]
          exact htail ⟨hk4, hK⟩
        · exact .inr ⟨by omega, by omega⟩
    have hK0 : K = 0 → sc ≤ 9 → (sc = 0 ∨ e = 0) → 1000000000000000 ≤ p * 2 ^ (K - t) * 5 ^ (K - f) * 10 ^ e → sc = 0 := by
      intro hK hs h3 hb
      rcases h3 with h3 | h3
      · exact h3
      · exfalso
        have a1 : K - t = 0 := by omega
        have a2 : K - f = 0 := by omega
        rw [a1, a2, h3] at hb
        simp only [Nat.pow_zero, Nat.mul_one] at hb
        omega
    have hbig : 1000000000000000 ≤ p * 2 ^ (K - t) * 5 ^ (K - f) * 10 ^ e → makeOk (sv (!(decide (c < 0) == decide (c' < 0))) ((p * 2 ^ (K - t) * 5 ^ (K - f) * 10 ^ e : Nat) : Int)) sc = false := by
      intro hb
      rcases hno (.inl hb) with g | ⟨g1, g2⟩
      · exact g
      · exact made_big _ _ sc (.inl (hK0 g1 g2 hsc3 hb)) (.inl hb)
    by_cases b2 : p * 2 ^ (K - t) < 1000000000000000
    · have f2 : decide (p * 2 ^ (K - t) < 1000000000000000) = true := decide_eq_true b2
      have v2 : timesN p 2 (K - t) = p * 2 ^ (K - t) := by unfold timesN; rw [if_pos b2]
      rw [v2] at t2 t5 l5 t10
      rw [f2] at t2
      generalize hp2 : p * 2 ^ (K - t) = P2 at *
      by_cases b5 : P2 * 5 ^ (K - f) < 1000000000000000
      · have f5 : decide (P2 * 5 ^ (K - f) < 1000000000000000) = true := decide_eq_true b5
        have v5 : timesN P2 5 (K - f) = P2 * 5 ^ (K - f) := by unfold timesN; rw [if_pos b5]
        rw [v5] at t5 t10
        rw [f5] at t5
        generalize hp5 : P2 * 5 ^ (K - f) = P5 at *
        by_cases b10 : P5 * 10 ^ e < 1000000000000000
        · have f10 : decide (P5 * 10 ^ e < 1000000000000000) = true := decide_eq_true b10
          have v10 : timesN P5 10 e = P5 * 10 ^ e := by unfold timesN; rw [if_pos b10]
          rw [v10, f10] at t10
          generalize hp10 : P5 * 10 ^ e = P at *
          have hmk : ∀ ρ : Bool, ∃ T, (∀ hp, F tab 16 [.d (iv (sv ρ (P : Int))), .d (iv sc)] hp = some (.ret T hp)) ∧ (∃ u v w, T = .tup [.d (.agg [iv u, iv v]), .d (iv w)]) ∧ T = madeT (sv ρ (P : Int)) sc ∨ 9 < sc := by
            intro ρ
            by_cases hs : 9 < sc
            · exact ⟨.dead, .inr hs⟩
            · refine ⟨madeT (sv ρ P) sc, .inl ⟨make_ok _ sc (by cases ρ <;> simp only [sv, if_true, Bool.false_eq_true, if_false, i64] <;> omega) (by omega), made_ex _ _, rfl⟩⟩
          have key : ∃ T, (∀ hp, F tab 16 [.d (iv (sv (!(decide (c < 0) == decide (c' < 0))) (P : Int))), .d (iv sc)] hp = some (.ret T hp)) ∧ (∃ u v w, T = .tup [.d (.agg [iv u, iv v]), .d (iv w)]) ∧ QSpec c c' k k' T := by
            by_cases hs : 30 < sc
            · refine ⟨_, make_wide _ sc hs (by omega), ⟨_, _, _, rfl⟩, qspec_none hmade ?_⟩
              rcases hno (.inr (by omega)) with g | ⟨g1, g2⟩
              · exact g
              · omega
            · exact ⟨_, make_ok _ sc (by cases (!(decide (c < 0) == decide (c' < 0))) <;> simp only [sv, if_true, Bool.false_eq_true, if_false, i64] <;> omega) (by omega), made_ex _ _, qspec_made hmade⟩
          obtain ⟨T, k1, ⟨u, v, w, rfl⟩, k3⟩ := key
          refine ⟨_, fun hp => ?_, k3⟩
          refine f26 rfl ?_
          rcases Bool.eq_false_or_eq_true (decide (c < 0) == decide (c' < 0)) with sg | sg
          · rw [sg] at k1
            simp only [sv, Bool.not_true, Bool.false_eq_true, if_false] at k1
            simp (maxSteps := 4000000) (disch := omega) only [go_sem, and_self, and_true, true_and, false_and, and_false, Nat.reduceAdd, Nat.reduceMul, Nat.reduceSub, Nat.reduceLeDiff, Nat.reduceLT, Nat.reduceGT, Nat.reduceEqDiff, Nat.reduceBEq, Int.reduceNeg, Int.reduceEq, Int.reduceLT, Int.reduceLE, Int.reduceBEq, Int.reduceToNat, Int.toNat_natCast, Int.natCast_zero, r26_T, r26, numD, h1, h2, h3, h4, n1, n2, hdx, hdy, hgi, wp, wq, s2, s5, hk1, dk2, dk5, t2, t5, hsc1, hsc2, t10, q1, w64, sg, k1]
          · rw [sg] at k1
            simp only [sv, Bool.not_false, if_true] at k1
            rw [show (-(P : Int)) = 0 - (P : Int) by omega] at k1
            simp (maxSteps := 4000000) (disch := omega) only [go_sem, and_self, and_true, true_and, false_and, and_false, Nat.reduceAdd, Nat.reduceMul, Nat.reduceSub, Nat.reduceLeDiff, Nat.reduceLT, Nat.reduceGT, Nat.reduceEqDiff, Nat.reduceBEq, Int.reduceNeg, Int.reduceEq, Int.reduceLT, Int.reduceLE, Int.reduceBEq, Int.reduceToNat, Int.toNat_natCast, Int.natCast_zero, r26_T, r26, numD, h1, h2, h3, h4, n1, n2, hdx, hdy, hgi, wp, wq, s2, s5, hk1, dk2, dk5, t2, t5, hsc1, hsc2, t10, q1, w64, sg, k1]
        · have f10 : decide (P5 * 10 ^ e < 1000000000000000) = false := decide_eq_false b10
          rw [f10] at t10
          refine ⟨_, fun hp => ?_, qspec_none hmade (hbig (by omega))⟩
          refine f26 rfl ?_
          simp (maxSteps := 4000000) (disch := omega) only [go_sem, and_self, and_true, true_and, false_and, and_false, Nat.reduceAdd, Nat.reduceMul, Nat.reduceSub, Nat.reduceLeDiff, Nat.reduceLT, Nat.reduceGT, Nat.reduceEqDiff, Nat.reduceBEq, Int.reduceNeg, Int.reduceEq, Int.reduceLT, Int.reduceLE, Int.reduceBEq, Int.reduceToNat, Int.toNat_natCast, Int.natCast_zero, r26_T, r26, numD, h1, h2, h3, h4, n1, n2, hdx, hdy, hgi, wp, wq, s2, s5, hk1, dk2, dk5, t2, t5, hsc1, hsc2, t10, q1, w64]
      · have f5 : decide (P2 * 5 ^ (K - f) < 1000000000000000) = false := decide_eq_false b5
        rw [f5] at t5
        have hge : P2 * 5 ^ (K - f) * 1 ≤ P2 * 5 ^ (K - f) * 10 ^ e := Nat.mul_le_mul_left _ pw10
        refine ⟨_, fun hp => ?_, qspec_none hmade (hbig (by omega))⟩
        refine f26 rfl ?_
        generalize timesN P2 5 (K - f) = n5 at *
        generalize timesN n5 10 e = n10 at *
        generalize decide (n5 * 10 ^ e < 1000000000000000) = bb at *
        simp (maxSteps := 4000000) (disch := omega) only [go_sem, and_self, and_true, true_and, false_and, and_false, Nat.reduceAdd, Nat.reduceMul, Nat.reduceSub, Nat.reduceLeDiff, Nat.reduceLT, Nat.reduceGT, Nat.reduceEqDiff, Nat.reduceBEq, Int.reduceNeg, Int.reduceEq, Int.reduceLT, Int.reduceLE, Int.reduceBEq, Int.reduceToNat, Int.toNat_natCast, Int.natCast_zero, r26_T, r26, numD, h1, h2, h3, h4, n1, n2, hdx, hdy, hgi, wp, wq, s2, s5, hk1, dk2, dk5, t2, t5, hsc1, hsc2, t10, q1, w64]
    · have f2 : decide (p * 2 ^ (K - t) < 1000000000000000) = false := decide_eq_false b2
      rw [f2] at t2
      have hge : p * 2 ^ (K - t) * 1 ≤ p * 2 ^ (K - t) * (5 ^ (K - f) * 10 ^ e) := Nat.mul_le_mul_left _ (Nat.mul_pos pw5 pw10)
      rw [← Nat.mul_assoc] at hge
      refine ⟨_, fun hp => ?_, qspec_none hmade (hbig (by omega))⟩
      refine f26 rfl ?_
      generalize timesN p 2 (K - t) = n2' at *
      generalize timesN n2' 5 (K - f) = n5 at *
      generalize timesN n5 10 e = n10 at *
      generalize decide (n2' * 5 ^ (K - f) < 1000000000000000) = b5 at *
      generalize decide (n5 * 10 ^ e < 1000000000000000) = b10 at *
      simp (maxSteps := 4000000) (disch := omega) only [go_sem, and_self, and_true, true_and, false_and, and_false, Nat.reduceAdd, Nat.reduceMul, Nat.reduceSub, Nat.reduceLeDiff, Nat.reduceLT, Nat.reduceGT, Nat.reduceEqDiff, Nat.reduceBEq, Int.reduceNeg, Int.reduceEq, Int.reduceLT, Int.reduceLE, Int.reduceBEq, Int.reduceToNat, Int.toNat_natCast, Int.natCast_zero, r26_T, r26, numD, h1, h2, h3, h4, n1, n2, hdx, hdy, hgi, wp, wq, s2, s5, hk1, dk2, dk5, t2, t5, hsc1, hsc2, t10, q1, w64]
  · have q1 : ((m5 : Int) != 1) = true := by simp; omega
    refine ⟨_, fun hp => ?_, .inr ⟨rfl, fun z s _ => low_no hlow c1 z s⟩⟩
    refine f26 rfl ?_
    generalize timesN p 2 (K - t) = n2' at *
    generalize timesN n2' 5 (K - f) = n5 at *
    generalize timesN n5 10 e = n10 at *
    generalize decide (p * 2 ^ (K - t) < 1000000000000000) = b2 at *
    generalize decide (n2' * 5 ^ (K - f) < 1000000000000000) = b5 at *
    generalize decide (n5 * 10 ^ e < 1000000000000000) = b10 at *
    simp (maxSteps := 4000000) (disch := omega) only [go_sem, and_self, and_true, true_and, false_and, and_false, Nat.reduceAdd, Nat.reduceMul, Nat.reduceSub, Nat.reduceLeDiff, Nat.reduceLT, Nat.reduceGT, Nat.reduceEqDiff, Nat.reduceBEq, Int.reduceNeg, Int.reduceEq, Int.reduceLT, Int.reduceLE, Int.reduceBEq, Int.reduceToNat, Int.toNat_natCast, Int.natCast_zero, r26_T, r26, numD, h1, h2, h3, h4, n1, n2, hdx, hdy, hgi, wp, wq, s2, s5, hk1, dk2, dk5, t2, t5, hsc1, hsc2, t10, q1, w64]
end Go.Pe.T

namespace Go.Pe.T
/-! ### tenths of 128 bits -/
theorem lz10_ev : evF tab 50 98 [.d (uv 10)] [] = some (.ret (.d (iv 60)) []) := by kernel_rfl
theorem lz10_ok (hp : List Ent) : F tab 98 [.d (uv 10)] hp = some (.ret (.d (iv 60)) hp) :=
  F_some.2 ⟨50, ((evF_nice (pf := pf) pf_ok 50).2 98 rfl _ _ _ _ lz10_ev).2 hp⟩

theorem div64z_ok (x : Int) (hx : 0 ≤ x ∧ x ≤ 18446744073709551615) (hp : List Ent) : F tab 84 [.d (uv 0), .d (uv x), .d (uv 10)] hp = some (.ret (.tup [.d (uv (x / 10)), .d (uv (x % 10))]) hp) := by
  have d1 : x.tdiv 10 = x / 10 := Int.tdiv_eq_ediv_of_nonneg hx.1
  have d2 : x.tmod 10 = x % 10 := Int.tmod_eq_emod_of_nonneg hx.1
  have w1 : IntKind.u64.wrap (x / 10) = x / 10 := wu64 (by omega)
  have z1 : ((0 : Int) == 0) = true := rfl
  have z2 : ((10 : Int) ≤ 0) = False := eq_false (by omega)
  have z3 : ((10 : Int) = 0) = False := eq_false (by omega)
  have z4 : ((10 : Int) == 0) = false := rfl
  refine f84 rfl ?_
  simp (disch := omega) only [go_sem, and_self, and_true, true_and, false_and, and_false, Nat.reduceAdd, Nat.reduceMul, Nat.reduceSub, Nat.reduceLeDiff, Nat.reduceLT, Nat.reduceGT, Nat.reduceEqDiff, Nat.reduceBEq, Int.reduceNeg, Int.reduceEq, Int.reduceLT, Int.reduceLE, Int.reduceBEq, Int.reduceToNat, Int.toNat_natCast, Int.natCast_zero, r84_T, r84, d1, d2, w1, z1, z2, z3, z4]

theorem or60 {a b : Int} (ha : 0 ≤ a ∧ a < 16) (hb : 0 ≤ b ∧ b < 1152921504606846976) : bitsD .or .u64 (a * 1152921504606846976) b = some (.int .u64 (a * 1152921504606846976 + b)) := by
  obtain ⟨m, rfl⟩ := Int.eq_ofNat_of_zero_le ha.1
  obtain ⟨n, rfl⟩ := Int.eq_ofNat_of_zero_le hb.1
  have e1 : BitVec.ofInt 64 ((m : Int) * 1152921504606846976) = BitVec.ofNat 64 (m * 1152921504606846976) := by
    apply BitVec.eq_of_toNat_eq
    rw [BitVec.toNat_ofInt, BitVec.toNat_ofNat]
    omega
  have e2 : BitVec.ofInt 64 (n : Int) = BitVec.ofNat 64 n := by
    apply BitVec.eq_of_toNat_eq; simp
  have e3 : ((BitVec.ofNat 64 (m * 1152921504606846976) ||| BitVec.ofNat 64 n).toNat : Nat) = m * 1152921504606846976 + n := by
    rw [BitVec.toNat_or, BitVec.toNat_ofNat, BitVec.toNat_ofNat]
    rw [Nat.mod_eq_of_lt (by omega), Nat.mod_eq_of_lt (by omega)]
    have h := Nat.two_pow_add_eq_or_of_lt (i := 60) (b := n) (by omega) m
    rw [show (2 : Nat) ^ 60 = 1152921504606846976 by decide, Nat.mul_comm] at h
    exact h.symm
  have e5 : bitsD .or .u64 ((m : Int) * 1152921504606846976) (n : Int) = some (.int .u64 (IntKind.u64.wrap ((BitVec.ofInt 64 ((m : Int) * 1152921504606846976) ||| BitVec.ofInt 64 (n : Int)).toNat : Int))) := rfl
  rw [e5, e1, e2, e3, wu64 (by omega)]
  congr 2

theorem wmod (n : Int) : IntKind.u64.wrap n = n % 18446744073709551616 := by
  simp only [IntKind.wrap, IntKind.bits, IntKind.signed, Bool.false_and, Bool.false_eq_true, if_false]
  have e1 : (2 : Int) ^ 64 = 18446744073709551616 := by decide
  rw [e1]
theorem shl60 (x : Int) : shiftD .shl .u64 x 60 = some (.int .u64 (x * 1152921504606846976 % 18446744073709551616)) := by
  have e : ¬ ((60 : Int) < 0) := by omega
  simp only [shiftD, if_neg e, wmod]
  have e2 : (2 : Int) ^ (min (60 : Int).toNat IntKind.u64.bits) = 1152921504606846976 := by decide
  rw [e2]
theorem shr60 (x : Int) : shiftD .shr .u64 x 60 = some (.int .u64 (x / 1152921504606846976)) := by
  have e : ¬ ((60 : Int) < 0) := by omega
  simp only [shiftD, if_neg e]
  have e2 : (2 : Int) ^ (min (60 : Int).toNat IntKind.u64.bits) = 1152921504606846976 := by decide
  rw [e2, Int.fdiv_eq_ediv_of_nonneg _ (by omega)]
theorem shr4 (x : Int) : shiftD .shr .u64 x 4 = some (.int .u64 (x / 16)) := by
  have e : ¬ ((4 : Int) < 0) := by omega
  simp only [shiftD, if_neg e]
  have e2 : (2 : Int) ^ (min (4 : Int).toNat IntKind.u64.bits) = 16 := by decide
  rw [e2, Int.fdiv_eq_ediv_of_nonneg _ (by omega)]

set_option maxHeartbeats 4000000 in
theorem div64_ok (h x : Int) (hh : 0 < h ∧ h < 10) (hx : 0 ≤ x ∧ x ≤ 18446744073709551615) (hp : List Ent) : F tab 84 [.d (uv h), .d (uv x), .d (uv 10)] hp = some (.ret (.tup [.d (uv ((h * 18446744073709551616 + x) / 10)), .d (uv ((h * 18446744073709551616 + x) % 10))]) hp) := by
  have z1 : (h == 0) = false := by simp; omega
  have z2 : ((10 : Int) ≤ h) = False := eq_false (by omega)
  have z4 : ((10 : Int) == 0) = false := rfl
  have a1 : shiftD .shl .u64 10 60 = some (.int .u64 11529215046068469760) := by rw [shl60]; rfl
  have a2 : shiftD .shr .u64 11529215046068469760 32 = some (.int .u64 2684354560) := by rw [shr32]; rfl
  have a3 : bitsD .and .u64 11529215046068469760 4294967295 = some (.int .u64 0) := by rw [and32 (by omega)]; rfl
  have a4 : shiftD .shl .u64 h 60 = some (.int .u64 (h * 1152921504606846976)) := by rw [shl60]; congr 2; omega
  have a5 := shr4 x
  have a6 := or60 (a := h) (b := x / 16) (by omega) (by omega)
  have a7 : shiftD .shl .u64 x 60 = some (.int .u64 (x % 16 * 1152921504606846976)) := by rw [shl60]; congr 2; omega
  have a8 : shiftD .shr .u64 (x % 16 * 1152921504606846976) 32 = some (.int .u64 (x % 16 * 268435456)) := by rw [shr32]; congr 2; omega
  have a9 : bitsD .and .u64 (x % 16 * 1152921504606846976) 4294967295 = some (.int .u64 0) := by rw [and32 (by omega)]; congr 2; omega
  have q1 : (h * 18446744073709551616 + x) / 10 = (h * 1152921504606846976 + x / 16) / 2684354560 * 4294967296 + (((h * 1152921504606846976 + x / 16) % 2684354560) * 4294967296 + x % 16 * 268435456) / 2684354560 := by omega
  have q2 : (h * 18446744073709551616 + x) % 10 = ((((h * 1152921504606846976 + x / 16) % 2684354560) * 4294967296 + x % 16 * 268435456) % 2684354560) / 268435456 := by omega
  rw [q1, q2]
  have hU : 0 ≤ h * 1152921504606846976 + x / 16 ∧ h * 1152921504606846976 + x / 16 < 11529215046068469760 := by omega
  have hW : 0 ≤ x % 16 * 268435456 ∧ x % 16 * 268435456 < 4294967296 := by omega
  generalize h * 1152921504606846976 + x / 16 = U at *
  generalize x % 16 * 268435456 = W at *
  have d1 : U.tdiv 2684354560 = U / 2684354560 := Int.tdiv_eq_ediv_of_nonneg hU.1
  have z5 : ((2684354560 : Int) = 0) = False := eq_false (by omega)
  have eR : U - U / 2684354560 * 2684354560 = U % 2684354560 := by omega
  have hQ : 0 ≤ U / 2684354560 ∧ U / 2684354560 < 4294967296 := by omega
  have hR : 0 ≤ U % 2684354560 ∧ U % 2684354560 < 2684354560 := by omega
  have eU : U = U / 2684354560 * 2684354560 + U % 2684354560 := by omega
  generalize U / 2684354560 = Q at *
  generalize U % 2684354560 = R at *
  have w1 : IntKind.u64.wrap Q = Q := wu64 (by omega)
  have w2 : IntKind.u64.wrap (Q * 2684354560) = Q * 2684354560 := wu64 (by omega)
  have w3 : IntKind.u64.wrap R = R := wu64 (by omega)
  have c1 : (Q ≥ 4294967296) = False := eq_false (by omega)
  have w4 : IntKind.u64.wrap (Q * 0) = 0 := by rw [Int.mul_zero]; rfl
  have w5 : IntKind.u64.wrap (4294967296 * R) = 4294967296 * R := wu64 (by omega)
  have w6 : IntKind.u64.wrap (4294967296 * R + W) = 4294967296 * R + W := wu64 (by omega)
  have c2 : (0 > 4294967296 * R + W) = False := eq_false (by omega)
  have w7 : IntKind.u64.wrap (IntKind.u64.wrap (IntKind.u64.wrap (U * 4294967296) + W) - IntKind.u64.wrap (Q * 11529215046068469760)) = R * 4294967296 + W := by
    simp only [wmod]; omega
  have hN : 0 ≤ R * 4294967296 + W ∧ R * 4294967296 + W < 11529215046068469760 := by omega
  generalize R * 4294967296 + W = N at *
  have d2 : N.tdiv 2684354560 = N / 2684354560 := Int.tdiv_eq_ediv_of_nonneg hN.1
  have hT : 0 ≤ N / 2684354560 ∧ N / 2684354560 < 4294967296 := by omega
  have eS : N - N / 2684354560 * 2684354560 = N % 2684354560 := by omega
  have hS : 0 ≤ N % 2684354560 ∧ N % 2684354560 < 2684354560 := by omega
  have eN : N = N / 2684354560 * 2684354560 + N % 2684354560 := by omega
  generalize N / 2684354560 = T at *
  generalize N % 2684354560 = S at *
  have w8 : IntKind.u64.wrap T = T := wu64 (by omega)
  have w9 : IntKind.u64.wrap (T * 2684354560) = T * 2684354560 := wu64 (by omega)
  have w10 : IntKind.u64.wrap S = S := wu64 (by omega)
  have c3 : (T ≥ 4294967296) = False := eq_false (by omega)
  have w11 : IntKind.u64.wrap (T * 0) = 0 := by rw [Int.mul_zero]; rfl
  have w12 : IntKind.u64.wrap (4294967296 * S) = 4294967296 * S := wu64 (by omega)
  have w13 : IntKind.u64.wrap (4294967296 * S + 0) = 4294967296 * S := by rw [Int.add_zero]; exact w12
  have c4 : (0 > 4294967296 * S) = False := eq_false (by omega)
  have w14 : IntKind.u64.wrap (Q * 4294967296) = Q * 4294967296 := wu64 (by omega)
  have w15 : IntKind.u64.wrap (Q * 4294967296 + T) = Q * 4294967296 + T := wu64 (by omega)
  have w16 : IntKind.u64.wrap (IntKind.u64.wrap (IntKind.u64.wrap (N * 4294967296) + 0) - IntKind.u64.wrap (T * 11529215046068469760)) = S * 4294967296 := by
    simp only [wmod]; omega
  have a10 : shiftD .shr .u64 (S * 4294967296) 60 = some (.int .u64 (S / 268435456)) := by rw [shr60]; congr 2; omega
  have hlz := lz10_ok
  have wc : IntKind.u64.wrap 60 = 60 := by decide
  have w4' : IntKind.u64.wrap (64 - 60) = 4 := by decide
  refine f84 rfl ?_
  simp (maxSteps := 4000000) (disch := omega) only [go_sem, and_self, and_true, true_and, false_and, and_false, Nat.reduceAdd, Nat.reduceMul, Nat.reduceSub, Nat.reduceLeDiff, Nat.reduceLT, Nat.reduceGT, Nat.reduceEqDiff, Nat.reduceBEq, Int.reduceNeg, Int.reduceEq, Int.reduceLT, Int.reduceLE, Int.reduceBEq, Int.reduceToNat, Int.toNat_natCast, Int.natCast_zero, r84_T, r84, z1, z2, z4, z5, hlz, wc, w4', a1, a2, a3, a4, a5, a6, a7, a8, a9, d1, w1, w2, eR, w3]
  rw [r84_B0_n, r84_B0_eq]
  simp (maxSteps := 4000000) (disch := omega) only [go_sem, and_self, and_true, true_and, false_and, and_false, Nat.reduceAdd, Nat.reduceMul, Nat.reduceSub, Nat.reduceLeDiff, Nat.reduceLT, Nat.reduceGT, Nat.reduceEqDiff, Nat.reduceBEq, Int.reduceNeg, Int.reduceEq, Int.reduceLT, Int.reduceLE, Int.reduceBEq, Int.reduceToNat, Int.toNat_natCast, Int.natCast_zero, r84_C0, c1, w4, w5, w6, c2, w7, d2, z5, w8, w9, eS, w10]
  rw [r84_B1_n, r84_B1_eq]
  simp (maxSteps := 4000000) (disch := omega) only [go_sem, and_self, and_true, true_and, false_and, and_false, Nat.reduceAdd, Nat.reduceMul, Nat.reduceSub, Nat.reduceLeDiff, Nat.reduceLT, Nat.reduceGT, Nat.reduceEqDiff, Nat.reduceBEq, Int.reduceNeg, Int.reduceEq, Int.reduceLT, Int.reduceLE, Int.reduceBEq, Int.reduceToNat, Int.toNat_natCast, Int.natCast_zero, r84_C1, c3, w11, w12, w13, c4, w14, w15, w16, a10]
end Go.Pe.T

namespace Go.Pe.T
/-! ### products, digit by digit -/
/-- the inner loop: so often added -/
def TiIs (na nb : Bool) (a b : List Int) (x4 : List PV) (i : Nat) (d : Int) (k : Nat) (out : List Int) : Prop :=
  ∃ o : List Int, Digs o ∧ o.length ≤ max out.length (i + a.length) + (d.toNat - k) ∧ val o = val out + ((d.toNat - k : Nat) : Int) * (10 ^ i * val a) ∧
    V (F tab) r66_B1 (r66_S1 (.ibox [.d (.bool na), .d (.sl (a.map iv))]) (.ibox [.d (.bool nb), .d (.sl (b.map iv))]) (.ibox x4) (.d (.sl (out.map iv))) (.d (iv i)) (.d (iv k)) []) =
      some (.norm, r66_E1 (.ibox [.d (.bool na), .d (.sl (a.map iv))]) (.ibox [.d (.bool nb), .d (.sl (b.map iv))]) (.ibox x4) (.d (.sl (o.map iv))) (.d (iv i)) [])
theorem ti_end (na nb : Bool) (a b : List Int) (x4 : List PV) (i : Nat) (d : Int) (hd : digit d) (hb : b[i]? = some d) (out : List Int) (ho : Digs out) : TiIs na nb a b x4 i d d.toNat out := by
  unfold digit at hd
  have h1 : (((d.toNat : Nat) : Int) < d) = False := eq_false (by omega)
  have h1' : (d < d) = False := eq_false (by omega)
  have e : ((d.toNat : Nat) : Int) = d := by omega
  have i0 : (0 ≤ (i : Int)) = True := eq_true (by omega)
  have va : (b.map iv)[i]? = some (iv d) := dl_get hb
  refine ⟨out, ho, by omega, by simp, ?_⟩
  rw [r66_B1_eq]
  simp (disch := omega) only [go_sem, and_self, and_true, true_and, false_and, and_false, Nat.reduceAdd, Nat.reduceMul, Nat.reduceSub, Nat.reduceLeDiff, Nat.reduceLT, Nat.reduceGT, Nat.reduceEqDiff, Nat.reduceBEq, Int.reduceNeg, Int.reduceEq, Int.reduceLT, Int.reduceLE, Int.reduceBEq, Int.reduceToNat, Int.toNat_natCast, Int.natCast_zero, r66_C1, e, h1', i0, va]
theorem ti_step (na nb : Bool) (a b : List Int) (ha : Digs a) (hla : a.length ≤ 400) (x4 : List PV) (i : Nat) (hi : i ≤ 400) (d : Int) (hd : digit d) (hb : b[i]? = some d) (k : Nat) (hk : (k : Int) < d) (out : List Int) (ho : Digs out) (hlo : out.length ≤ 900)
    (ih : ∀ o : List Int, Digs o → o.length ≤ max out.length (i + a.length) + 1 → val o = val out + 10 ^ i * val a → TiIs na nb a b x4 i d (k + 1) o) : TiIs na nb a b x4 i d k out := by
  unfold digit at hd
  have h1 : ((k : Int) < d) = True := eq_true hk
  have i0 : (0 ≤ (i : Int)) = True := eq_true (by omega)
  have va : (b.map iv)[i]? = some (iv d) := dl_get hb
  have hs := shift_ok false a (by omega) i (by omega)
  obtain ⟨s1, s2, s3⟩ := shift_val a ha i
  have hsum := sum_ok out (shiftL a i) ho s1 (by omega) (by omega)
  obtain ⟨q1, q2, q3⟩ := sum_val (max out.length (shiftL a i).length + 2) out (shiftL a i) 0 ho s1 (by omega) (by omega) (by omega)
  rw [s2, Int.add_zero] at q1
  obtain ⟨o, o1, o2, o3, o4⟩ := ih _ q2 (by omega) q1
  have e1 : (k : Int) + 1 = ((k + 1 : Nat) : Int) := rfl
  have ff : (false && trimN (List.replicate i 0 ++ a) (i + a.length) != 0) = false := rfl
  rw [ff] at hs
  have hdk : d.toNat - k = (d.toNat - (k + 1)) + 1 := by omega
  refine ⟨o, o1, by omega, ?_, ?_⟩
  · rw [o3, q1, hdk]
    generalize 10 ^ i * val a = u
    have : ((d.toNat - (k + 1) + 1 : Nat) : Int) * u = ((d.toNat - (k + 1) : Nat) : Int) * u + u := by
      rw [Int.natCast_add, Int.add_mul]; simp
    omega
  · rw [r66_B1_eq]
    simp (disch := omega) only [go_sem, and_self, and_true, true_and, false_and, and_false, Nat.reduceAdd, Nat.reduceMul, Nat.reduceSub, Nat.reduceLeDiff, Nat.reduceLT, Nat.reduceGT, Nat.reduceEqDiff, Nat.reduceBEq, Int.reduceNeg, Int.reduceEq, Int.reduceLT, Int.reduceLE, Int.reduceBEq, Int.reduceToNat, Int.toNat_natCast, Int.natCast_zero, r66_C1, h1, i0, va, hs, hsum, longD, e1, w64, List.getElem?_cons_succ, List.getElem?_cons_zero]
    exact o4

theorem ti_loop (na nb : Bool) (a b : List Int) (ha : Digs a) (hla : a.length ≤ 400) (x4 : List PV) (i : Nat) (hi : i ≤ 400) (d : Int) (hd : digit d) (hb : b[i]? = some d) : ∀ (m k : Nat) (out : List Int), k + m = d.toNat → Digs out → out.length ≤ 880 + k → TiIs na nb a b x4 i d k out
  | 0, k, out, h, ho, hlo => by
    obtain rfl : k = d.toNat := by omega
    exact ti_end na nb a b x4 i d hd hb out ho
  | m + 1, k, out, h, ho, hlo => by
    have hd' := hd
    unfold digit at hd'
    refine ti_step na nb a b ha hla x4 i hi d hd hb k (by omega) out ho (by omega) fun o h1 h2 h3 => ?_
    exact ti_loop na nb a b ha hla x4 i hi d hd hb m (k + 1) o (by omega) h1 (by omega)

/-- the outer loop: one digit after the other -/
def ToIs (na nb : Bool) (a b : List Int) (x4 : List PV) (i : Nat) (out : List Int) : Prop :=
  ∃ o : List Int, Digs o ∧ o.length ≤ 400 ∧ val o = val b * val a ∧
    V (F tab) r66_B0 (r66_S0 (.ibox [.d (.bool na), .d (.sl (a.map iv))]) (.ibox [.d (.bool nb), .d (.sl (b.map iv))]) (.ibox x4) (.d (.sl (out.map iv))) (.d (iv i)) []) =
      some (.norm, r66_E0 (.ibox [.d (.bool na), .d (.sl (a.map iv))]) (.ibox [.d (.bool nb), .d (.sl (b.map iv))]) (.ibox x4) (.d (.sl (o.map iv))) [])
theorem to4_end (na nb : Bool) (a b : List Int) (x4 : List PV) (out : List Int) (ho : Digs out) (hl : out.length ≤ 400) (hv : val out = val b * val a) : ToIs na nb a b x4 b.length out := by
  have h1 : ((b.length : Int) < (b.length : Int)) = False := eq_false (by omega)
  refine ⟨out, ho, hl, hv, ?_⟩
  rw [r66_B0_eq]
  simp (disch := omega) only [go_sem, and_self, and_true, true_and, false_and, and_false, Nat.reduceAdd, Nat.reduceMul, Nat.reduceSub, Nat.reduceLeDiff, Nat.reduceLT, Nat.reduceGT, Nat.reduceEqDiff, Nat.reduceBEq, Int.reduceNeg, Int.reduceEq, Int.reduceLT, Int.reduceLE, Int.reduceBEq, Int.reduceToNat, Int.toNat_natCast, Int.natCast_zero, r66_C0, h1, List.length_map]
theorem to4_step (na nb : Bool) (a b : List Int) (x4 : List PV) (i : Nat) (hi : i < b.length) (hi2 : i ≤ 400) (out o : List Int) (d : Int) (hi1 : TiIs na nb a b x4 i d 0 out) (ih : ∀ o : List Int, Digs o → o.length ≤ max out.length (i + a.length) + d.toNat → val o = val out + (d.toNat : Int) * (10 ^ i * val a) → ToIs na nb a b x4 (i + 1) o) : ToIs na nb a b x4 i out := by
  have h1 : ((i : Int) < (b.length : Int)) = True := eq_true (by omega)
  have e1 : (i : Int) + 1 = ((i + 1 : Nat) : Int) := rfl
  have z : ((0 : Nat) : Int) = 0 := rfl
  obtain ⟨o1, p1, p2, p3, p4⟩ := hi1
  rw [Nat.sub_zero] at p2 p3
  obtain ⟨o2, q1, q2, q3, q4⟩ := ih o1 p1 p2 p3
  refine ⟨o2, q1, q2, q3, ?_⟩
  rw [r66_B0_eq]
  simp (disch := omega) only [go_sem, and_self, and_true, true_and, false_and, and_false, Nat.reduceAdd, Nat.reduceMul, Nat.reduceSub, Nat.reduceLeDiff, Nat.reduceLT, Nat.reduceGT, Nat.reduceEqDiff, Nat.reduceBEq, Int.reduceNeg, Int.reduceEq, Int.reduceLT, Int.reduceLE, Int.reduceBEq, Int.reduceToNat, Int.toNat_natCast, Int.natCast_zero, r66_C0, h1, List.length_map]
  rw [r66_B1_n]
  rw [z] at p4
  erw [p4]
  simp (disch := omega) only [go_sem, and_self, and_true, true_and, false_and, and_false, Nat.reduceAdd, Nat.reduceMul, Nat.reduceSub, Nat.reduceLeDiff, Nat.reduceLT, Nat.reduceGT, Nat.reduceEqDiff, Nat.reduceBEq, Int.reduceNeg, Int.reduceEq, Int.reduceLT, Int.reduceLE, Int.reduceBEq, Int.reduceToNat, Int.toNat_natCast, Int.natCast_zero, e1, w64]
  exact q4
theorem to4_loop (na nb : Bool) (a b : List Int) (ha : Digs a) (hb : Digs b) (hla : a.length ≤ 20) (hlb : b.length ≤ 20) (x4 : List PV) : ∀ (m i : Nat) (out : List Int), i + m = b.length → Digs out → out.length ≤ 20 + 10 * i → val out = val (b.take i) * val a → ToIs na nb a b x4 i out
  | 0, i, out, h, ho, hl, hv => by
    obtain rfl : i = b.length := by omega
    rw [List.take_length] at hv
    exact to4_end na nb a b x4 out ho (by omega) hv
  | m + 1, i, out, h, ho, hl, hv => by
    have hx : b[i]? = some b[i] := List.getElem?_eq_getElem (by omega)
    have hd := hb b[i] (List.getElem_mem _)
    have hvt := val_take (a := b) (n := i) (by omega)
    generalize b[i] = d at *
    have hd' := hd
    unfold digit at hd'
    refine to4_step na nb a b x4 i (by omega) (by omega) out out d (ti_loop na nb a b ha (by omega) x4 i (by omega) d hd hx d.toNat 0 out (by omega) ho (by omega)) fun o h1 h2 h3 => ?_
    refine to4_loop na nb a b ha hb hla hlb x4 m (i + 1) o (by omega) h1 (by omega) ?_
    rw [h3, hvt, hv, Int.add_mul, Int.toNat_of_nonneg hd'.1, Int.mul_comm (10 ^ i) d, Int.mul_assoc]

theorem times_val (na nb : Bool) (a b : List Int) (ha : Digs a) (hb : Digs b) (hla : a.length ≤ 20) (hlb : b.length ≤ 20) (hp : List Ent) : ∃ neg l, Digs l ∧ l.length ≤ 400 ∧ sv neg (val l) = sv na (val a) * sv nb (val b) ∧
    F tab 66 [.d (longD na a), .d (longD nb b)] hp = some (.ret (.d (longD neg l)) hp) := by
  have z : ((0 : Nat) : Int) = 0 := rfl
  obtain ⟨o, o1, o2, o3, o4⟩ := to4_loop na nb a b ha hb hla hlb [.d (.bool false), .nilsl] b.length 0 [] (by omega) Digs.nil (by simp) (by rw [List.take_zero]; show (0 : Int) = 0 * _; omega)
  have ht := trim_ok' (!(na == nb)) o (by omega)
  simp only [trimmed_shape] at ht
  refine ⟨!(na == nb) && trimN o o.length != 0, trimL o, trimL_digs o1, by unfold trimL; rw [List.length_take]; omega, ?_, ?_⟩
  · rw [sv_trim _ _ o1, o3, Int.mul_comm]
    cases na <;> cases nb <;> simp [sv, Int.neg_mul, Int.mul_neg]
  · rw [z] at o4
    have e0 : (List.map iv []) = [] := rfl
    rw [e0] at o4
    refine f66 rfl ?_
    simp (disch := omega) only [go_sem, and_self, and_true, true_and, false_and, and_false, Nat.reduceAdd, Nat.reduceMul, Nat.reduceSub, Nat.reduceLeDiff, Nat.reduceLT, Nat.reduceGT, Nat.reduceEqDiff, Nat.reduceBEq, Int.reduceNeg, Int.reduceEq, Int.reduceLT, Int.reduceLE, Int.reduceBEq, Int.reduceToNat, Int.toNat_natCast, Int.natCast_zero, r66_T, r66]
    rw [r66_B0_n]
    erw [o4]
    simp (disch := omega) only [go_sem, and_self, and_true, true_and, false_and, and_false, Nat.reduceAdd, Nat.reduceMul, Nat.reduceSub, Nat.reduceLeDiff, Nat.reduceLT, Nat.reduceGT, Nat.reduceEqDiff, Nat.reduceBEq, Int.reduceNeg, Int.reduceEq, Int.reduceLT, Int.reduceLE, Int.reduceBEq, Int.reduceToNat, Int.toNat_natCast, Int.natCast_zero, ht]

theorem mul4_ok (c c' : Int) (k k' : Nat) (hk : k ≤ 9) (hk' : k' ≤ 9) (hc : -1000000000000000 < c ∧ c < 1000000000000000) (hc' : -1000000000000000 < c' ∧ c' < 1000000000000000) (hp : List Ent) :
    F tab 39 [.d (numD c k), .d (numD c' k')] hp = some (.ret (madeT (c * c') (k + k')) hp) := by
  have e15 : (10 : Nat) ^ 15 = 1000000000000000 := by decide
  have d1 := digs_len 15 c.natAbs (by omega)
  have d2 := digs_len 15 c'.natAbs (by omega)
  have o1 := of_ok c (by omega)
  have o2 := of_ok c' (by omega)
  obtain ⟨v1, g1⟩ := digs_val c.natAbs
  obtain ⟨v2, g2⟩ := digs_val c'.natAbs
  obtain ⟨neg, l, h1, h2, h3, h4⟩ := times_val (decide (c < 0)) (decide (c' < 0)) (digs c.natAbs) (digs c'.natAbs) g1 g2 (by omega) (by omega) []
  rw [v1, v2, sv_abs, sv_abs] at h3
  have ht := told4_ok neg l h1 (by omega) (k + k') (by omega)
  rw [h3] at ht
  have hm : ∃ a b, madeT (c * c') (k + k') = .tup [.d (.agg a), .d (iv b)] ∧ a.length = 2 ∧ ∃ x y, a = [iv x, iv y] := by
    rcases Bool.eq_false_or_eq_true (makeOk (c * c') (k + k')) with g | g
    · exact ⟨_, _, made_yes g, rfl, _, _, rfl⟩
    · exact ⟨_, _, made_no g, rfl, _, _, rfl⟩
  obtain ⟨a, b, e, _, x, y, rfl⟩ := hm
  rw [e] at ht ⊢
  have ek : (k : Int) + (k' : Int) = ((k + k' : Nat) : Int) := rfl
  refine f39 rfl ?_
  simp (disch := omega) only [go_sem, and_self, and_true, true_and, false_and, and_false, Nat.reduceAdd, Nat.reduceMul, Nat.reduceSub, Nat.reduceLeDiff, Nat.reduceLT, Nat.reduceGT, Nat.reduceEqDiff, Nat.reduceBEq, Int.reduceNeg, Int.reduceEq, Int.reduceLT, Int.reduceLE, Int.reduceBEq, Int.reduceToNat, Int.toNat_natCast, Int.natCast_zero, r39_T, r39, o1, o2, h4, ht, ek, w64, numD]
end Go.Pe.T

namespace Go.Pe.T
/-! ### num.Mul -/
abbrev bigD (x : Int) : D := .agg [.int .u64 (x / 18446744073709551616), .int .u64 (x % 18446744073709551616)]

theorem tenth_ok (x : Int) (hx : 0 ≤ x ∧ x < 340282366920938463463374607431768211456) (hp : List Ent) : F tab 65 [.d (bigD x)] hp = some (.ret (.tup [.d (bigD (x / 10)), .d (uv (x % 10))]) hp) := by
  have h1 := div64z_ok (x / 18446744073709551616) (by omega)
  have q1 : x / 18446744073709551616 / 10 = x / 10 / 18446744073709551616 := by omega
  have hi : ((0 : Int) < ((2 : Nat) : Int)) = True := eq_true (by omega)
  have hi1 : ((1 : Int) < ((2 : Nat) : Int)) = True := eq_true (by omega)
  have t0 : (0 : Int).toNat = 0 := rfl
  have t1 : (1 : Int).toNat = 1 := rfl
  refine f65 rfl ?_
  by_cases hr : x / 18446744073709551616 % 10 = 0
  · have h2 := div64z_ok (x % 18446744073709551616) (by omega)
    have q2 : x % 18446744073709551616 / 10 = x / 10 % 18446744073709551616 := by omega
    have q3 : x % 18446744073709551616 % 10 = x % 10 := by omega
    rw [q1, hr] at h1
    rw [q2, q3] at h2
    simp (maxSteps := 1000000) (disch := omega) only [go_sem, and_self, and_true, true_and, false_and, and_false, Nat.reduceAdd, Nat.reduceMul, Nat.reduceSub, Nat.reduceLeDiff, Nat.reduceLT, Nat.reduceGT, Nat.reduceEqDiff, Nat.reduceBEq, Int.reduceNeg, Int.reduceEq, Int.reduceLT, Int.reduceLE, Int.reduceBEq, Int.reduceToNat, Int.toNat_natCast, Int.natCast_zero, r65_T, r65, h1, h2, hi, hi1, t0, t1]
  · have h2 := div64_ok (x / 18446744073709551616 % 10) (x % 18446744073709551616) (by omega) (by omega)
    have q2 : (x / 18446744073709551616 % 10 * 18446744073709551616 + x % 18446744073709551616) / 10 = x / 10 % 18446744073709551616 := by omega
    have q3 : (x / 18446744073709551616 % 10 * 18446744073709551616 + x % 18446744073709551616) % 10 = x % 10 := by omega
    rw [q1] at h1
    rw [q2, q3] at h2
    simp (maxSteps := 1000000) (disch := omega) only [go_sem, and_self, and_true, true_and, false_and, and_false, Nat.reduceAdd, Nat.reduceMul, Nat.reduceSub, Nat.reduceLeDiff, Nat.reduceLT, Nat.reduceGT, Nat.reduceEqDiff, Nat.reduceBEq, Int.reduceNeg, Int.reduceEq, Int.reduceLT, Int.reduceLE, Int.reduceBEq, Int.reduceToNat, Int.toNat_natCast, Int.natCast_zero, r65_T, r65, h1, h2, hi, hi1, t0, t1]

theorem strip_pos (x : Int) (k : Nat) (hx : 0 ≤ x) : stripN x (k + 1) = if x % 10 = 0 then stripN (x / 10) k else (x, k + 1) := by
  rw [stripN, Int.tmod_eq_emod_of_nonneg hx, Int.tdiv_eq_ediv_of_nonneg hx]
theorem strip_nonneg : ∀ (k : Nat) (x : Int), 0 ≤ x → 0 ≤ (stripN x k).1
  | 0, x, h => h
  | k + 1, x, h => by
    rw [strip_pos x k h]
    split
    · exact strip_nonneg k (x / 10) (by omega)
    · exact h

abbrev bigB (x : Int) : PV := .ibox [.d (uv (x / 18446744073709551616)), .d (uv (x % 18446744073709551616))]
def MuIs (X2 X3 X4 : List PV) (x : Int) (k : Nat) : Prop :=
  V (F tab) r36_B0 (r36_S0 (.ibox X2) (.ibox X3) (.ibox X4) (bigB x) (.d (iv k)) []) = some (.norm, r36_E0 (.ibox X2) (.ibox X3) (.ibox X4) (bigB (stripN x k).1) (.d (iv (stripN x k).2)) [])
theorem mu_loop (X2 X3 X4 : List PV) : ∀ (k : Nat) (x : Int), k ≤ 100 → 0 ≤ x ∧ x < 340282366920938463463374607431768211456 → MuIs X2 X3 X4 x k
  | 0, x, hk, hx => by
    have h1 : ((0 : Int) > 0) = False := eq_false (by omega)
    have h2 : (((0 : Nat) : Int) > 0) = False := eq_false (by omega)
    unfold MuIs
    rw [r36_B0_eq]
    simp (disch := omega) only [go_sem, and_self, and_true, true_and, false_and, and_false, Nat.reduceAdd, Nat.reduceMul, Nat.reduceSub, Nat.reduceLeDiff, Nat.reduceLT, Nat.reduceGT, Nat.reduceEqDiff, Nat.reduceBEq, Int.reduceNeg, Int.reduceEq, Int.reduceLT, Int.reduceLE, Int.reduceBEq, Int.reduceToNat, Int.toNat_natCast, Int.natCast_zero, r36_C0, stripN, h1, h2]
  | k + 1, x, hk, hx => by
    have ih := mu_loop X2 X3 X4 k (x / 10) (by omega) (by omega)
    have h1 : (((k + 1 : Nat) : Int) > 0) = True := eq_true (by omega)
    have e1 : ((k + 1 : Nat) : Int) - 1 = (k : Int) := by omega
    have ht := tenth_ok x hx
    unfold MuIs at ih ⊢
    rw [r36_B0_eq, strip_pos x k hx.1]
    by_cases h0 : x % 10 = 0
    · rw [if_pos h0]
      rw [h0] at ht
      have z : ((0 : Int) != 0) = false := rfl
      simp (maxSteps := 1000000) (disch := omega) only [go_sem, and_self, and_true, true_and, false_and, and_false, Nat.reduceAdd, Nat.reduceMul, Nat.reduceSub, Nat.reduceLeDiff, Nat.reduceLT, Nat.reduceGT, Nat.reduceEqDiff, Nat.reduceBEq, Int.reduceNeg, Int.reduceEq, Int.reduceLT, Int.reduceLE, Int.reduceBEq, Int.reduceToNat, Int.toNat_natCast, Int.natCast_zero, r36_C0, h1, ht, z, e1, w64]
      exact ih
    · rw [if_neg h0]
      have z : (x % 10 != 0) = true := by simp [h0]
      simp (maxSteps := 1000000) (disch := omega) only [go_sem, and_self, and_true, true_and, false_and, and_false, Nat.reduceAdd, Nat.reduceMul, Nat.reduceSub, Nat.reduceLeDiff, Nat.reduceLT, Nat.reduceGT, Nat.reduceEqDiff, Nat.reduceBEq, Int.reduceNeg, Int.reduceEq, Int.reduceLT, Int.reduceLE, Int.reduceBEq, Int.reduceToNat, Int.toNat_natCast, Int.natCast_zero, r36_C0, h1, ht, z]

set_option maxHeartbeats 2000000 in
theorem mul_ok (c c' : Int) (k k' : Nat) (h : numIs c k = true) (h' : numIs c' k' = true) (hp : List Ent) :
    F tab 36 [.d (numD c k), .d (numD c' k')] hp = some (.ret (madeT (c * c') (k + k')) hp) := by
  obtain ⟨_, e0, hk, hc⟩ := numIs_inv h
  obtain ⟨_, e1, hk', hc'⟩ := numIs_inv h'
  have e0 := Int.ofNat.inj e0
  have e1 := Int.ofNat.inj e1
  subst e0; subst e1
  have hb := both_ok c k c' k'
  rw [h, h'] at hb
  have s1 := size_ok c (by omega)
  have s2 := size_ok c' (by omega)
  have m1 := mul64_ok c.natAbs c'.natAbs (by omega) (by omega)
  have hP : c * c' = sv (decide (c < 0) != decide (c' < 0)) ((c.natAbs : Int) * (c'.natAbs : Int)) := by
    have a1 := sv_abs c
    have a2 := sv_abs c'
    have : c * c' = sv (decide (c < 0)) (c.natAbs : Int) * sv (decide (c' < 0)) (c'.natAbs : Int) := by rw [a1, a2]
    rw [this]
    cases decide (c < 0) <;> cases decide (c' < 0) <;> simp [sv, Int.neg_mul, Int.mul_neg]
  have hbd : 0 ≤ (c.natAbs : Int) * (c'.natAbs : Int) ∧ (c.natAbs : Int) * (c'.natAbs : Int) < 340282366920938463463374607431768211456 := by
    refine ⟨Int.mul_nonneg (by omega) (by omega), ?_⟩
    have g : (c.natAbs : Int) * (c'.natAbs : Int) ≤ 1000000000000000 * (c'.natAbs : Int) := Int.mul_le_mul_of_nonneg_right (by omega) (by omega)
    omega
  have hL := mu_loop [.d (iv c), .d (iv k)] [.d (iv c'), .d (iv k')] [.d (iv 0), .d (iv 0)] (k + k') _ (by omega) hbd
  have hnn := strip_nonneg (k + k') _ hbd.1
  have hst := strip_sv (decide (c < 0) != decide (c' < 0)) (k + k') ((c.natAbs : Int) * (c'.natAbs : Int))
  have hab := strip_abs (k + k') ((c.natAbs : Int) * (c'.natAbs : Int)) 340282366920938463463374607431768211456 (by omega)
  have hsk := (strip_val (k + k') ((c.natAbs : Int) * (c'.natAbs : Int))).1
  rw [← hP] at hst
  have hid := made_idem (c * c') (k + k')
  rw [hst] at hid
  have hmk : makeOk (c * c') (k + k') = numIs (stripN (c * c') (k + k')).1 (stripN (c * c') (k + k')).2 := rfl
  rw [hst] at hmk
  simp only at hid hmk
  generalize (c.natAbs : Int) * (c'.natAbs : Int) = P at *
  unfold MuIs at hL
  generalize hq : stripN P (k + k') = q at *
  obtain ⟨Q, s⟩ := q
  simp only at *
  generalize hT : madeT (c * c') (k + k') = T at *
  have ek : (k : Int) + (k' : Int) = ((k + k' : Nat) : Int) := rfl
  have hi : ((0 : Int) < ((2 : Nat) : Int)) = True := eq_true (by omega)
  have hi1 : ((1 : Int) < ((2 : Nat) : Int)) = True := eq_true (by omega)
  have t0 : (0 : Int).toNat = 0 := rfl
  have t1 : (1 : Int).toNat = 1 := rfl
  refine f36 rfl ?_
  simp (maxSteps := 2000000) (disch := omega) only [go_sem, and_self, and_true, true_and, false_and, and_false, Nat.reduceAdd, Nat.reduceMul, Nat.reduceSub, Nat.reduceLeDiff, Nat.reduceLT, Nat.reduceGT, Nat.reduceEqDiff, Nat.reduceBEq, Int.reduceNeg, Int.reduceEq, Int.reduceLT, Int.reduceLE, Int.reduceBEq, Int.reduceToNat, Int.toNat_natCast, Int.natCast_zero, r36_T, r36, numD, hb, s1, s2, m1, hi, hi1, t0, t1, ek, w64]
  rw [r36_B0_n]
  erw [hL]
  by_cases hbig : Q ≥ 1000000000000000
  · have hno : makeOk (c * c') (k + k') = false := by
      rw [hmk]
      unfold numIs
      cases (decide (c < 0) != decide (c' < 0)) with
      | true =>
        have : ¬ (-1000000000000000 < sv true Q) := by simp only [sv, if_true]; omega
        simp [this]
      | false =>
        have : ¬ (sv false Q < 1000000000000000) := by simp only [sv, Bool.false_eq_true, if_false]; omega
        simp [this]
    have hTn := made_no hno
    rw [hT] at hTn
    subst hTn
    by_cases hq0 : Q / 18446744073709551616 = 0
    · have z : ((0 : Int) != 0) = false := rfl
      have g1 : (Q % 18446744073709551616 ≥ 1000000000000000) = True := eq_true (by omega)
      simp (maxSteps := 2000000) (disch := omega) only [go_sem, and_self, and_true, true_and, false_and, and_false, Nat.reduceAdd, Nat.reduceMul, Nat.reduceSub, Nat.reduceLeDiff, Nat.reduceLT, Nat.reduceGT, Nat.reduceEqDiff, Nat.reduceBEq, Int.reduceNeg, Int.reduceEq, Int.reduceLT, Int.reduceLE, Int.reduceBEq, Int.reduceToNat, Int.toNat_natCast, Int.natCast_zero, hq0, z, g1, hi, hi1, t0, t1]
    · have z : (Q / 18446744073709551616 != 0) = true := by simp [hq0]
      simp (maxSteps := 2000000) (disch := omega) only [go_sem, and_self, and_true, true_and, false_and, and_false, Nat.reduceAdd, Nat.reduceMul, Nat.reduceSub, Nat.reduceLeDiff, Nat.reduceLT, Nat.reduceGT, Nat.reduceEqDiff, Nat.reduceBEq, Int.reduceNeg, Int.reduceEq, Int.reduceLT, Int.reduceLE, Int.reduceBEq, Int.reduceToNat, Int.toNat_natCast, Int.natCast_zero, z, hi, hi1, t0, t1]
  · have hq0 : Q / 18446744073709551616 = 0 := by omega
    have hq1 : Q % 18446744073709551616 = Q := by omega
    have z : ((0 : Int) != 0) = false := rfl
    have g1 : (Q ≥ 1000000000000000) = False := eq_false hbig
    have hmake : ∀ hp, F tab 16 [.d (iv (sv (decide (c < 0) != decide (c' < 0)) Q)), .d (iv s)] hp = some (.ret T hp) := by
      intro hp
      rw [make_ok _ s (by cases (decide (c < 0) != decide (c' < 0)) <;> simp only [sv, if_true, Bool.false_eq_true, if_false, i64] <;> omega) (by omega) hp, hid]
    have hm : ∃ x y b, T = .tup [.d (.agg [iv x, iv y]), .d (iv b)] := by
      rw [← hT]
      rcases Bool.eq_false_or_eq_true (makeOk (c * c') (k + k')) with g | g
      · exact ⟨_, _, _, made_yes g⟩
      · exact ⟨_, _, _, made_no g⟩
    obtain ⟨x, y, b, rfl⟩ := hm
    have hne : (decide (c < 0) != decide (c' < 0)) = !(decide (c < 0) == decide (c' < 0)) := rfl
    rw [hne] at hmake
    rcases Bool.eq_false_or_eq_true (decide (c < 0) == decide (c' < 0)) with g | g
    · rw [g] at hmake
      simp only [sv, Bool.not_true, Bool.false_eq_true, if_false] at hmake
      simp (maxSteps := 2000000) (disch := omega) only [go_sem, and_self, and_true, true_and, false_and, and_false, Nat.reduceAdd, Nat.reduceMul, Nat.reduceSub, Nat.reduceLeDiff, Nat.reduceLT, Nat.reduceGT, Nat.reduceEqDiff, Nat.reduceBEq, Int.reduceNeg, Int.reduceEq, Int.reduceLT, Int.reduceLE, Int.reduceBEq, Int.reduceToNat, Int.toNat_natCast, Int.natCast_zero, hq0, hq1, z, g1, hi, hi1, t0, t1, g, hmake, w64]
    · rw [g] at hmake
      simp only [sv, Bool.not_false, if_true] at hmake
      simp (maxSteps := 2000000) (disch := omega) only [go_sem, and_self, and_true, true_and, false_and, and_false, Nat.reduceAdd, Nat.reduceMul, Nat.reduceSub, Nat.reduceLeDiff, Nat.reduceLT, Nat.reduceGT, Nat.reduceEqDiff, Nat.reduceBEq, Int.reduceNeg, Int.reduceEq, Int.reduceLT, Int.reduceLE, Int.reduceBEq, Int.reduceToNat, Int.toNat_natCast, Int.natCast_zero, hq0, hq1, z, g1, hi, hi1, t0, t1, g, hmake, w64, Int.zero_sub]
end Go.Pe.T

namespace Go.Pe.T
theorem made_tup (c : Int) (k : Nat) : (∃ x y, madeT c k = .tup [.d (.agg [iv x, iv y]), .d (iv 0)] ∧ x = (stripN c k).1 ∧ y = ((stripN c k).2 : Int) ∧ makeOk c k = true) ∨ madeT c k = .tup [.d (.agg [iv 0, iv 0]), .d (iv 8)] := by
  rcases Bool.eq_false_or_eq_true (makeOk c k) with g | g
  · exact .inl ⟨_, _, made_yes g, rfl, rfl, g⟩
  · exact .inr (made_no g)
theorem flat_made (a : Int) (k : Nat) (h : numIs a k = true) : madeT (flatN a k) 9 = .tup [.d (.agg [iv a, iv k]), .d (iv 0)] := by
  obtain ⟨k1, e1, hk, _⟩ := numIs_inv h
  have e1 := Int.ofNat.inj e1
  subst e1
  rw [makeC_T]
  have e : makeC (flatN a k) 9 = makeC a k := by
    have := makeC_pow (9 - k) k a
    rw [show k + (9 - k) = 9 by omega, Int.mul_comm] at this
    exact this
  rw [e, made_self a k h]
  rfl
theorem sub_back (a b : Int) (k l : Nat) (ha : numIs a k = true) (hb : numIs b l = true) (hg : makeOk (flatN a k + flatN b l) 9 = true) (hp : List Ent) :
    F tab 34 [.d (.agg [iv (stripN (flatN a k + flatN b l) 9).1, iv ((stripN (flatN a k + flatN b l) 9).2 : Int)]), .d (numD b l)] hp = some (.ret (.tup [.d (.agg [iv a, iv k]), .d (iv 0)]) hp) := by
  have := sub_ok (stripN (flatN a k + flatN b l) 9).1 b (stripN (flatN a k + flatN b l) 9).2 l hg hb hp
  rw [make_flat (Nat.le_refl 9)] at this
  have e0 : flatN (flatN a k + flatN b l) 9 = flatN a k + flatN b l := by simp [flatN]
  rw [e0, show flatN a k + flatN b l - flatN b l = flatN a k by omega, flat_made a k ha] at this
  exact this
theorem div_back (a b : Int) (k l : Nat) (ha : numIs a k = true) (hb : numIs b l = true) (h0 : b ≠ 0) (hg : makeOk (a * b) (k + l) = true) (hp : List Ent) :
    F tab 26 [.d (.agg [iv (stripN (a * b) (k + l)).1, iv ((stripN (a * b) (k + l)).2 : Int)]), .d (numD b l)] hp = some (.ret (.tup [.d (.agg [iv a, iv k]), .d (iv 0)]) hp) := by
  obtain ⟨T, h1, h2⟩ := div_ok (stripN (a * b) (k + l)).1 b (stripN (a * b) (k + l)).2 l hg hb h0
  obtain ⟨s1, s2, _⟩ := strip_val (k + l) (a * b)
  have hU : QSpec (stripN (a * b) (k + l)).1 b (stripN (a * b) (k + l)).2 l (.tup [.d (.agg [iv a, iv k]), .d (iv 0)]) := by
    refine .inl ⟨a, k, rfl, ha, ?_⟩
    unfold QSol
    generalize (stripN (a * b) (k + l)).1 = x at *
    generalize (stripN (a * b) (k + l)).2 = y at *
    rw [← s2, Int.mul_assoc, ← Int.pow_add, show k + l - y + y = k + l by omega]
  rw [qspec_one h0 h2 hU] at h1
  exact h1 hp
theorem sgn_swap (x y : Int) : sgn y x = -sgn x y := by
  unfold sgn
  repeat' split
  all_goals omega
set_option maxRecDepth 100000 in
set_option maxHeartbeats 4000000 in
theorem back_core (a b : Int) (k l : Nat) (ha : numIs a k = true) (hb : numIs b l = true) (hp : List Ent) :
    F tab 9 [.d (numD a k), .d (numD b l)] hp = some (.ret (.d (.bool true)) hp) := by
  have i1 := numIs_ok a k
  have i2 := numIs_ok b l
  rw [ha] at i1; rw [hb] at i2
  have ht := text_ok a k ha
  have hpz := parse_ok (textL a k) (by
    obtain ⟨k1, e1, hk, _, _⟩ := numIs_inv ha
    have e1 := Int.ofNat.inj e1
    have h1 := decT_len 20 a.natAbs (by have : (10 : Nat) ^ 21 = 1000000000000000000000 := by decide
                                        omega)
    have h2 := decT_len 20 (a.natAbs / 10 ^ k) (by have : (10 : Nat) ^ 21 = 1000000000000000000000 := by decide
                                                   have := Nat.div_le_self a.natAbs (10 ^ k)
                                                   omega)
    have h3 := loT_len a.natAbs k
    unfold textL sgnT
    split <;> split <;> simp only [List.length_append, List.length_cons, List.length_nil, h3] <;> omega)
  rw [text_back a k ha] at hpz
  simp only [tupC] at hpz
  have a1 := add_ok a b k l ha hb
  have a2 := add_ok b a l k hb ha
  have m1 := mul_ok a b k l ha hb
  have m2 := mul_ok b a l k hb ha
  rw [Int.add_comm] at a2
  rw [Int.mul_comm, Nat.add_comm] at m2
  have c1 := numcmp_ok a b k l ha hb
  have c2 := numcmp_ok b a l k hb ha
  rw [sgn_swap] at c2
  have hcb : -1 ≤ sgn (flatN a k) (flatN b l) ∧ sgn (flatN a k) (flatN b l) ≤ 1 := by
    unfold sgn
    repeat' split
    all_goals omega
  have hL := lives4_ok
  have sb := sub_back a b k l ha hb
  have db := fun h0 => div_back a b k l ha hb h0
  have n0 : ((0 : Int) != 0) = false := rfl
  have n8 : ((8 : Int) != 0) = true := rfl
  have z0 : ((0 : Int) == 0) = true := rfl
  have z8 : ((8 : Int) == 0) = false := rfl
  have q1 : ∀ u : Int, (u == u) = true := fun u => by simp
  have q2 : ∀ u : Int, (u != u) = false := fun u => by simp
  have q3 : 0 - -sgn (flatN a k) (flatN b l) = sgn (flatN a k) (flatN b l) := by omega
  generalize sgn (flatN a k) (flatN b l) = s at *
  refine f9 rfl ?_
  rcases made_tup (flatN a k + flatN b l) 9 with ⟨x, y, e1, rfl, rfl, g1⟩ | e1
  · rw [e1] at a1 a2
    have sb := sb g1
    generalize (stripN (flatN a k + flatN b l) 9).1 = x at *
    generalize (stripN (flatN a k + flatN b l) 9).2 = y at *
    rcases made_tup (a * b) (k + l) with ⟨u, v, e2, rfl, rfl, g2⟩ | e2
    · rw [e2] at m1 m2
      by_cases h0 : b = 0
      · have k0 : (b != 0) = false := by simp [h0]
        simp (maxSteps := 4000000) (disch := omega) only [go_sem, and_self, and_true, true_and, false_and, and_false, Nat.reduceAdd, Nat.reduceMul, Nat.reduceSub, Nat.reduceLeDiff, Nat.reduceLT, Nat.reduceGT, Nat.reduceEqDiff, Nat.reduceBEq, Int.reduceNeg, Int.reduceEq, Int.reduceLT, Int.reduceLE, Int.reduceBEq, Int.reduceToNat, Int.toNat_natCast, Int.natCast_zero, r9_T, r9, numD, i1, i2, ht, hpz, a1, a2, m1, m2, c1, c2, sb, eqD_num, n0, n8, z0, z8, q1, q2, q3, k0, hL, Bool.and_self, w64]
      · have k0 : (b != 0) = true := by simp [h0]
        have db := db h0 g2
        generalize (stripN (a * b) (k + l)).1 = u at *
        generalize (stripN (a * b) (k + l)).2 = v at *
        simp (maxSteps := 4000000) (disch := omega) only [go_sem, and_self, and_true, true_and, false_and, and_false, Nat.reduceAdd, Nat.reduceMul, Nat.reduceSub, Nat.reduceLeDiff, Nat.reduceLT, Nat.reduceGT, Nat.reduceEqDiff, Nat.reduceBEq, Int.reduceNeg, Int.reduceEq, Int.reduceLT, Int.reduceLE, Int.reduceBEq, Int.reduceToNat, Int.toNat_natCast, Int.natCast_zero, r9_T, r9, numD, i1, i2, ht, hpz, a1, a2, m1, m2, c1, c2, sb, db, eqD_num, n0, n8, z0, z8, q1, q2, q3, k0, hL, Bool.and_self, w64]
    · rw [e2] at m1 m2
      simp (maxSteps := 4000000) (disch := omega) only [go_sem, and_self, and_true, true_and, false_and, and_false, Nat.reduceAdd, Nat.reduceMul, Nat.reduceSub, Nat.reduceLeDiff, Nat.reduceLT, Nat.reduceGT, Nat.reduceEqDiff, Nat.reduceBEq, Int.reduceNeg, Int.reduceEq, Int.reduceLT, Int.reduceLE, Int.reduceBEq, Int.reduceToNat, Int.toNat_natCast, Int.natCast_zero, r9_T, r9, numD, i1, i2, ht, hpz, a1, a2, m1, m2, c1, c2, sb, eqD_num, n0, n8, z0, z8, q1, q2, q3, hL, Bool.and_self, w64]
  · rw [e1] at a1 a2
    rcases made_tup (a * b) (k + l) with ⟨u, v, e2, rfl, rfl, g2⟩ | e2
    · rw [e2] at m1 m2
      by_cases h0 : b = 0
      · have k0 : (b != 0) = false := by simp [h0]
        simp (maxSteps := 4000000) (disch := omega) only [go_sem, and_self, and_true, true_and, false_and, and_false, Nat.reduceAdd, Nat.reduceMul, Nat.reduceSub, Nat.reduceLeDiff, Nat.reduceLT, Nat.reduceGT, Nat.reduceEqDiff, Nat.reduceBEq, Int.reduceNeg, Int.reduceEq, Int.reduceLT, Int.reduceLE, Int.reduceBEq, Int.reduceToNat, Int.toNat_natCast, Int.natCast_zero, r9_T, r9, numD, i1, i2, ht, hpz, a1, a2, m1, m2, c1, c2, eqD_num, n0, n8, z0, z8, q1, q2, q3, k0, hL, Bool.and_self, w64]
      · have k0 : (b != 0) = true := by simp [h0]
        have db := db h0 g2
        generalize (stripN (a * b) (k + l)).1 = u at *
        generalize (stripN (a * b) (k + l)).2 = v at *
        simp (maxSteps := 4000000) (disch := omega) only [go_sem, and_self, and_true, true_and, false_and, and_false, Nat.reduceAdd, Nat.reduceMul, Nat.reduceSub, Nat.reduceLeDiff, Nat.reduceLT, Nat.reduceGT, Nat.reduceEqDiff, Nat.reduceBEq, Int.reduceNeg, Int.reduceEq, Int.reduceLT, Int.reduceLE, Int.reduceBEq, Int.reduceToNat, Int.toNat_natCast, Int.natCast_zero, r9_T, r9, numD, i1, i2, ht, hpz, a1, a2, m1, m2, c1, c2, db, eqD_num, n0, n8, z0, z8, q1, q2, q3, k0, hL, Bool.and_self, w64]
    · rw [e2] at m1 m2
      simp (maxSteps := 4000000) (disch := omega) only [go_sem, and_self, and_true, true_and, false_and, and_false, Nat.reduceAdd, Nat.reduceMul, Nat.reduceSub, Nat.reduceLeDiff, Nat.reduceLT, Nat.reduceGT, Nat.reduceEqDiff, Nat.reduceBEq, Int.reduceNeg, Int.reduceEq, Int.reduceLT, Int.reduceLE, Int.reduceBEq, Int.reduceToNat, Int.toNat_natCast, Int.natCast_zero, r9_T, r9, numD, i1, i2, ht, hpz, a1, a2, m1, m2, c1, c2, eqD_num, n0, n8, z0, z8, q1, q2, q3, hL, Bool.and_self, w64]

theorem NumBack_ok (a k b l : Int) (oa : i64 a ∧ i64 k) (ob : i64 b ∧ i64 l) (hp : List Ent) : F tab 9 [.d (numD a k), .d (numD b l)] hp = some (.ret (.d (.bool true)) hp) := by
  have i1 := numIs_ok a k
  have i2 := numIs_ok b l
  have hL := lives4_ok
  rcases Bool.eq_false_or_eq_true (numIs a k) with g1 | g1
  · rcases Bool.eq_false_or_eq_true (numIs b l) with g2 | g2
    · obtain ⟨k', rfl, _⟩ := numIs_inv g1
      obtain ⟨l', rfl, _⟩ := numIs_inv g2
      exact back_core a b k' l' g1 g2 hp
    · rw [g1] at i1; rw [g2] at i2
      refine f9 rfl ?_
      simp (disch := omega) only [go_sem, and_self, and_true, true_and, false_and, and_false, Nat.reduceAdd, Nat.reduceMul, Nat.reduceSub, Nat.reduceLeDiff, Nat.reduceLT, Nat.reduceGT, Nat.reduceEqDiff, Nat.reduceBEq, Int.reduceNeg, Int.reduceEq, Int.reduceLT, Int.reduceLE, Int.reduceBEq, Int.reduceToNat, Int.toNat_natCast, Int.natCast_zero, r9_T, r9, numD, i1, i2, hL]
  · rw [g1] at i1
    refine f9 rfl ?_
    simp (disch := omega) only [go_sem, and_self, and_true, true_and, false_and, and_false, Nat.reduceAdd, Nat.reduceMul, Nat.reduceSub, Nat.reduceLeDiff, Nat.reduceLT, Nat.reduceGT, Nat.reduceEqDiff, Nat.reduceBEq, Int.reduceNeg, Int.reduceEq, Int.reduceLT, Int.reduceLE, Int.reduceBEq, Int.reduceToNat, Int.toNat_natCast, Int.natCast_zero, r9_T, r9, numD, i1, hL]
end Go.Pe.T
