/- A part of the proof of: Quotients, what is left of divisions, floors and whole parts of all numbers that may be are the document's. -/
import Derived.Test.YtjfdbgoajjhafaaDoorNd3
set_option linter.unusedSimpArgs false
set_option linter.unusedVariables false
set_option maxRecDepth 10000

namespace Go.Pe.T
/-! ### products of whole numbers -/
abbrev uv (n : Int) : D := .int .u64 n
theorem wu64 {n : Int} (h : 0 ≤ n ∧ n ≤ 18446744073709551615) : IntKind.u64.wrap n = n := by
  simp only [IntKind.wrap, IntKind.bits, IntKind.signed, Bool.false_and, Bool.false_eq_true, if_false]
  have e1 : (2 : Int) ^ 64 = 18446744073709551616 := by decide
  rw [e1]
  omega

theorem and32 {x : Int} (h : 0 ≤ x ∧ x ≤ 18446744073709551615) : bitsD .and .u64 x 4294967295 = some (.int .u64 (x % 4294967296)) := by
  obtain ⟨n, rfl⟩ := Int.eq_ofNat_of_zero_le h.1
  have e1 : BitVec.ofInt 64 (4294967295 : Int) = BitVec.ofNat 64 4294967295 := by decide
  have e2 : BitVec.ofInt 64 (n : Int) = BitVec.ofNat 64 n := by
    apply BitVec.eq_of_toNat_eq; simp
  have e3 : ((BitVec.ofNat 64 n &&& BitVec.ofNat 64 4294967295).toNat : Nat) = n % 4294967296 := by
    rw [BitVec.toNat_and, BitVec.toNat_ofNat, BitVec.toNat_ofNat]
    have hn : n % 2 ^ 64 = n := Nat.mod_eq_of_lt (by omega)
    have h2 : (4294967295 : Nat) % 2 ^ 64 = 2 ^ 32 - 1 := by decide
    rw [hn, h2, Nat.and_two_pow_sub_one_eq_mod]
  have e5 : bitsD .and .u64 (n : Int) 4294967295 = some (.int .u64 (IntKind.u64.wrap ((BitVec.ofInt 64 (n : Int) &&& BitVec.ofInt 64 4294967295).toNat : Int))) := rfl
  rw [e5, e1, e2, e3, wu64 (by omega)]
  rfl

theorem shr32 (x : Int) : shiftD .shr .u64 x 32 = some (.int .u64 (x / 4294967296)) := by
  have e : ¬ ((32 : Int) < 0) := by omega
  simp only [shiftD, if_neg e]
  have e2 : (2 : Int) ^ (min (32 : Int).toNat IntKind.u64.bits) = 4294967296 := by decide
  rw [e2, Int.fdiv_eq_ediv_of_nonneg _ (by omega)]

set_option maxHeartbeats 1000000 in
theorem mul64_ok (x y : Int) (hx : 0 ≤ x ∧ x ≤ 18446744073709551615) (hy : 0 ≤ y ∧ y ≤ 18446744073709551615) (hp : List Ent) :
    F tab 64 [.d (uv x), .d (uv y)] hp = some (.ret (.tup [.d (uv (x * y / 18446744073709551616)), .d (uv (x * y % 18446744073709551616))]) hp) := by
  have ax := and32 hx
  have ay := and32 hy
  have e64 : (2 : Int) ^ 64 = 18446744073709551616 := by decide
  have bnd : ∀ a b : Int, 0 ≤ a → a ≤ 4294967295 → 0 ≤ b → b ≤ 4294967295 → 0 ≤ a * b ∧ a * b ≤ 18446744065119617025 := by
    intro a b h1 h2 h3 h4
    refine ⟨Int.mul_nonneg h1 h3, ?_⟩
    have h5 : a * b ≤ 4294967295 * b := Int.mul_le_mul_of_nonneg_right h2 h3
    omega
  have p00 := bnd (x % 4294967296) (y % 4294967296) (by omega) (by omega) (by omega) (by omega)
  have p10 := bnd (x / 4294967296) (y % 4294967296) (by omega) (by omega) (by omega) (by omega)
  have p01 := bnd (x % 4294967296) (y / 4294967296) (by omega) (by omega) (by omega) (by omega)
  have p11 := bnd (x / 4294967296) (y / 4294967296) (by omega) (by omega) (by omega) (by omega)
  have hxy : x * y = (x / 4294967296) * (y / 4294967296) * 18446744073709551616 + ((x / 4294967296) * (y % 4294967296) + (x % 4294967296) * (y / 4294967296)) * 4294967296 + (x % 4294967296) * (y % 4294967296) := by
    have h1 := Int.mul_ediv_add_emod x 4294967296
    have h2 := Int.mul_ediv_add_emod y 4294967296
    generalize x / 4294967296 = a at *
    generalize x % 4294967296 = b at *
    generalize y / 4294967296 = c at *
    generalize y % 4294967296 = d at *
    rw [← h1, ← h2, Int.add_mul, Int.mul_add, Int.mul_add, Int.add_mul]
    have e1 : 4294967296 * a * (4294967296 * c) = a * c * 18446744073709551616 := by
      rw [Int.mul_comm 4294967296 a, Int.mul_assoc, ← Int.mul_assoc 4294967296 4294967296 c, Int.mul_comm _ c, ← Int.mul_assoc]; rfl
    have e2 : 4294967296 * a * d = a * d * 4294967296 := by rw [Int.mul_assoc, Int.mul_comm]
    have e3 : b * (4294967296 * c) = b * c * 4294967296 := by rw [Int.mul_comm 4294967296 c, Int.mul_assoc]
    rw [e1, e2, e3]
    omega
  have wlo : IntKind.u64.wrap (x * y) = x * y % 18446744073709551616 := by
    simp only [IntKind.wrap, IntKind.bits, IntKind.signed, Bool.false_and, Bool.false_eq_true, if_false, e64]
  have hhi : (x / 4294967296) * (y / 4294967296) + ((x / 4294967296) * (y % 4294967296) + (x % 4294967296) * (y % 4294967296) / 4294967296) / 4294967296 + (((x / 4294967296) * (y % 4294967296) + (x % 4294967296) * (y % 4294967296) / 4294967296) % 4294967296 + (x % 4294967296) * (y / 4294967296)) / 4294967296 = x * y / 18446744073709551616 := by
    rw [hxy]
    generalize (x / 4294967296) * (y / 4294967296) = p at *
    generalize (x / 4294967296) * (y % 4294967296) = q at *
    generalize (x % 4294967296) * (y / 4294967296) = r at *
    generalize (x % 4294967296) * (y % 4294967296) = s at *
    omega
  have s32 := shr32
  refine f64 rfl ?_
  have at0 : ∀ t : Int, 0 ≤ t → t ≤ 18446744073709551615 → bitsD .and .u64 t 4294967295 = some (.int .u64 (t % 4294967296)) := fun t a b => and32 ⟨a, b⟩
  rw [← hhi]
  generalize hA : x / 4294967296 = A at *
  generalize hB : x % 4294967296 = B at *
  generalize hC : y / 4294967296 = C at *
  generalize hD : y % 4294967296 = E at *
  have w1 : IntKind.u64.wrap (B * E) = B * E := wu64 (by omega)
  have w2 : IntKind.u64.wrap (A * E) = A * E := wu64 (by omega)
  have w3 : IntKind.u64.wrap (A * E + B * E / 4294967296) = A * E + B * E / 4294967296 := wu64 (by generalize A * E = u at *; generalize B * E = v at *; omega)
  have w4 : IntKind.u64.wrap (B * C) = B * C := wu64 (by omega)
  have w5 : IntKind.u64.wrap ((A * E + B * E / 4294967296) % 4294967296 + B * C) = (A * E + B * E / 4294967296) % 4294967296 + B * C := wu64 (by generalize A * E = u at *; generalize B * E = v at *; generalize B * C = r at *; omega)
  have w6 : IntKind.u64.wrap (A * C) = A * C := wu64 (by omega)
  have w7 : IntKind.u64.wrap (A * C + (A * E + B * E / 4294967296) / 4294967296) = A * C + (A * E + B * E / 4294967296) / 4294967296 := wu64 (by generalize A * E = u at *; generalize B * E = v at *; generalize A * C = r at *; omega)
  have w8 : IntKind.u64.wrap (A * C + (A * E + B * E / 4294967296) / 4294967296 + ((A * E + B * E / 4294967296) % 4294967296 + B * C) / 4294967296) = A * C + (A * E + B * E / 4294967296) / 4294967296 + ((A * E + B * E / 4294967296) % 4294967296 + B * C) / 4294967296 := wu64 (by generalize A * E = u at *; generalize B * E = v at *; generalize A * C = r at *; generalize B * C = t at *; omega)
  have a3 : bitsD .and .u64 (A * E + B * E / 4294967296) 4294967295 = some (.int .u64 ((A * E + B * E / 4294967296) % 4294967296)) := at0 _ (by generalize A * E = u at *; generalize B * E = v at *; omega) (by generalize A * E = u at *; generalize B * E = v at *; omega)
  simp only [go_sem, and_self, and_true, true_and, false_and, and_false, Nat.reduceAdd, Nat.reduceMul, Nat.reduceSub, Nat.reduceLeDiff, Nat.reduceLT, Nat.reduceGT, Nat.reduceEqDiff, Nat.reduceBEq, Int.reduceNeg, Int.reduceEq, Int.reduceLT, Int.reduceLE, Int.reduceBEq, Int.reduceToNat, Int.toNat_natCast, Int.natCast_zero, r64_T, r64, ax, ay, a3, s32, hA, hB, hC, hD, wlo, w1, w2, w3, w4, w5, w6, w7, w8]

theorem size_ok (c : Int) (hc : -1000000000000000 ≤ c ∧ c ≤ 1000000000000000) (hp : List Ent) : F tab 53 [.d (iv c)] hp = some (.ret (.d (uv c.natAbs)) hp) := by
  refine f53 rfl ?_
  by_cases h : c < 0
  · have e : ((c.natAbs : Nat) : Int) = 0 - c := by omega
    rw [e]
    simp (disch := omega) only [go_sem, and_self, and_true, true_and, false_and, and_false, Nat.reduceAdd, Nat.reduceMul, Nat.reduceSub, Nat.reduceLeDiff, Nat.reduceLT, Nat.reduceGT, Nat.reduceEqDiff, Nat.reduceBEq, Int.reduceNeg, Int.reduceEq, Int.reduceLT, Int.reduceLE, Int.reduceBEq, Int.reduceToNat, Int.toNat_natCast, Int.natCast_zero, r53_T, r53, h, w64, wu64]
  · have e : ((c.natAbs : Nat) : Int) = c := by omega
    rw [e]
    simp (disch := omega) only [go_sem, and_self, and_true, true_and, false_and, and_false, Nat.reduceAdd, Nat.reduceMul, Nat.reduceSub, Nat.reduceLeDiff, Nat.reduceLT, Nat.reduceGT, Nat.reduceEqDiff, Nat.reduceBEq, Int.reduceNeg, Int.reduceEq, Int.reduceLT, Int.reduceLE, Int.reduceBEq, Int.reduceToNat, Int.toNat_natCast, Int.natCast_zero, r53_T, r53, h, w64, wu64]
end Go.Pe.T

namespace Go.Pe.T
/-! ### the greatest common divisor; factors -/

def CmLoop (a b : Nat) : Prop := V (F tab) r52_B0 (r52_S0 (.d (uv a)) (.d (uv b)) []) = some (.norm, r52_E0 (.d (uv (Nat.gcd a b : Nat))) [])
theorem cm_end (a : Nat) : CmLoop a 0 := by
  have h1 : (((0 : Nat) : Int) != 0) = false := rfl
  have h2 : ((0 : Int) != 0) = false := rfl
  unfold CmLoop
  rw [r52_B0_eq, Nat.gcd_zero_right]
  simp (disch := omega) only [go_sem, and_self, and_true, true_and, false_and, and_false, Nat.reduceAdd, Nat.reduceMul, Nat.reduceSub, Nat.reduceLeDiff, Nat.reduceLT, Nat.reduceGT, Nat.reduceEqDiff, Nat.reduceBEq, Int.reduceNeg, Int.reduceEq, Int.reduceLT, Int.reduceLE, Int.reduceBEq, Int.reduceToNat, Int.toNat_natCast, Int.natCast_zero, r52_C0, h1, h2]
theorem cm_step (a b : Nat) (hb : 0 < b) (ih : CmLoop b (a % b)) : CmLoop a b := by
  have h1 : ((b : Int) != 0) = true := by simp; omega
  have h2 : ((b : Int) = 0) = False := eq_false (by omega)
  have h3 : (a : Int).tmod (b : Int) = ((a % b : Nat) : Int) := (Int.ofNat_tmod a b).symm
  have hg : Nat.gcd a b = Nat.gcd b (a % b) := by rw [Nat.gcd_comm a b, Nat.gcd_rec b a, Nat.gcd_comm]
  unfold CmLoop at ih ⊢
  rw [r52_B0_eq, hg]
  simp (disch := omega) only [go_sem, and_self, and_true, true_and, false_and, and_false, Nat.reduceAdd, Nat.reduceMul, Nat.reduceSub, Nat.reduceLeDiff, Nat.reduceLT, Nat.reduceGT, Nat.reduceEqDiff, Nat.reduceBEq, Int.reduceNeg, Int.reduceEq, Int.reduceLT, Int.reduceLE, Int.reduceBEq, Int.reduceToNat, Int.toNat_natCast, Int.natCast_zero, r52_C0, h1, h2, h3]
  exact ih
theorem cm_loop : ∀ (n b a : Nat), b ≤ n → CmLoop a b
  | 0, b, a, h => by obtain rfl : b = 0 := by omega
                     exact cm_end a
  | n + 1, b, a, h => by
    by_cases hb : b = 0
    · subst hb; exact cm_end a
    · have := Nat.mod_lt a (show 0 < b by omega)
      exact cm_step a b (by omega) (cm_loop n (a % b) b (by omega))
theorem common_ok (a b : Nat) (hp : List Ent) : F tab 52 [.d (uv a), .d (uv b)] hp = some (.ret (.d (uv (Nat.gcd a b : Nat))) hp) := by
  have hL := cm_loop b b a (Nat.le_refl _)
  unfold CmLoop at hL
  refine f52 rfl ?_
  simp (disch := omega) only [go_sem, and_self, and_true, true_and, false_and, and_false, Nat.reduceAdd, Nat.reduceMul, Nat.reduceSub, Nat.reduceLeDiff, Nat.reduceLT, Nat.reduceGT, Nat.reduceEqDiff, Nat.reduceBEq, Int.reduceNeg, Int.reduceEq, Int.reduceLT, Int.reduceLE, Int.reduceBEq, Int.reduceToNat, Int.toNat_natCast, Int.natCast_zero, r52_T, r52]
  rw [r52_B0_n]
  erw [hL]
  simp (disch := omega) only [go_sem, and_self, and_true, true_and, false_and, and_false, Nat.reduceAdd, Nat.reduceMul, Nat.reduceSub, Nat.reduceLeDiff, Nat.reduceLT, Nat.reduceGT, Nat.reduceEqDiff, Nat.reduceBEq, Int.reduceNeg, Int.reduceEq, Int.reduceLT, Int.reduceLE, Int.reduceBEq, Int.reduceToNat, Int.toNat_natCast, Int.natCast_zero]

def SpIs (y n k : Nat) : Prop := ∃ j m : Nat, V (F tab) r54_B0 (r54_S0 (.d (uv n)) (.d (uv y)) (.d (iv k)) []) = some (.norm, r54_E0 (.d (uv m)) (.d (iv (k + j : Nat))) []) ∧ n = y ^ j * m ∧ m % y ≠ 0 ∧ 0 < m
theorem sp_end (y n k : Nat) (hy : 1 < y) (hn : 0 < n) (h : n % y ≠ 0) : SpIs y n k := by
  refine ⟨0, n, ?_, by simp, h, hn⟩
  have h2 : ((y : Int) = 0) = False := eq_false (by omega)
  have h3 : (n : Int).tmod (y : Int) = ((n % y : Nat) : Int) := (Int.ofNat_tmod n y).symm
  have h4 : (((n % y : Nat) : Int) == 0) = false := by simp only [beq_eq_false_iff_ne, ne_eq]; omega
  rw [r54_B0_eq, Nat.add_zero]
  simp (disch := omega) only [go_sem, and_self, and_true, true_and, false_and, and_false, Nat.reduceAdd, Nat.reduceMul, Nat.reduceSub, Nat.reduceLeDiff, Nat.reduceLT, Nat.reduceGT, Nat.reduceEqDiff, Nat.reduceBEq, Int.reduceNeg, Int.reduceEq, Int.reduceLT, Int.reduceLE, Int.reduceBEq, Int.reduceToNat, Int.toNat_natCast, Int.natCast_zero, r54_C0, h2, h3, h4]
theorem sp_step (y n k : Nat) (hy : 1 < y) (hn : 0 < n) (hk : k ≤ 1000000000000000000) (hn2 : n ≤ 1000000000000000000) (h : n % y = 0) (ih : SpIs y (n / y) (k + 1)) : SpIs y n k := by
  obtain ⟨j, m, e1, e2, e3, e4⟩ := ih
  have hle : n / y ≤ n := Nat.div_le_self n y
  refine ⟨j + 1, m, ?_, ?_, e3, e4⟩
  · have h2 : ((y : Int) = 0) = False := eq_false (by omega)
    have h3 : (n : Int).tmod (y : Int) = ((n % y : Nat) : Int) := (Int.ofNat_tmod n y).symm
    have h4 : (((n % y : Nat) : Int) == 0) = true := by rw [h]; rfl
    have h5 : (n : Int).tdiv (y : Int) = ((n / y : Nat) : Int) := (Int.ofNat_tdiv n y).symm
    have h6 : IntKind.u64.wrap ((n / y : Nat) : Int) = ((n / y : Nat) : Int) := wu64 (by omega)
    have h7 : (k : Int) + 1 = ((k + 1 : Nat) : Int) := rfl
    have h8 : IntKind.i64.wrap ((k + 1 : Nat) : Int) = ((k + 1 : Nat) : Int) := w64 (by omega)
    rw [show k + 1 + j = k + (j + 1) by omega] at e1
    rw [r54_B0_eq]
    simp (disch := omega) only [go_sem, and_self, and_true, true_and, false_and, and_false, Nat.reduceAdd, Nat.reduceMul, Nat.reduceSub, Nat.reduceLeDiff, Nat.reduceLT, Nat.reduceGT, Nat.reduceEqDiff, Nat.reduceBEq, Int.reduceNeg, Int.reduceEq, Int.reduceLT, Int.reduceLE, Int.reduceBEq, Int.reduceToNat, Int.toNat_natCast, Int.natCast_zero, r54_C0, h2, h3, h4, h5, h6, h7, h8]
    exact e1
  · have := Nat.div_add_mod n y
    rw [h, Nat.add_zero] at this
    rw [← this, Nat.pow_succ, Nat.mul_comm (y ^ j) y, Nat.mul_assoc, ← e2]
theorem sp_loop (y : Nat) (hy : 1 < y) : ∀ (b n k : Nat), n ≤ b → 0 < n → b ≤ 1000000000000000 → k + b ≤ 1000000000000000000 → SpIs y n k
  | 0, n, k, h, hn, _, _ => by omega
  | b + 1, n, k, h, hn, hb, hk => by
    by_cases g : n % y = 0
    · have h1 : n / y < n := Nat.div_lt_self hn hy
      have h2 : 0 < n / y := Nat.div_pos (Nat.le_of_dvd hn (Nat.dvd_of_mod_eq_zero g)) (by omega)
      exact sp_step y n k hy hn (by omega) (by omega) g (sp_loop y hy b (n / y) (k + 1) (by omega) h2 (by omega) (by omega))
    · exact sp_end y n k hy hn g
theorem split_ok (y n : Nat) (hy : 1 < y) (hn : 0 < n) (hn2 : n ≤ 1000000000000000) : ∃ j m : Nat, (∀ hp, F tab 54 [.d (uv n), .d (uv y)] hp = some (.ret (.tup [.d (iv j), .d (uv m)]) hp)) ∧ n = y ^ j * m ∧ m % y ≠ 0 ∧ 0 < m := by
  obtain ⟨j, m, e1, e2, e3, e4⟩ := sp_loop y hy n n 0 (Nat.le_refl _) hn hn2 (by omega)
  rw [Nat.zero_add] at e1
  refine ⟨j, m, fun hp => ?_, e2, e3, e4⟩
  refine f54 rfl ?_
  simp (disch := omega) only [go_sem, and_self, and_true, true_and, false_and, and_false, Nat.reduceAdd, Nat.reduceMul, Nat.reduceSub, Nat.reduceLeDiff, Nat.reduceLT, Nat.reduceGT, Nat.reduceEqDiff, Nat.reduceBEq, Int.reduceNeg, Int.reduceEq, Int.reduceLT, Int.reduceLE, Int.reduceBEq, Int.reduceToNat, Int.toNat_natCast, Int.natCast_zero, r54_T, r54]
  rw [r54_B0_n]
  erw [e1]
  simp (disch := omega) only [go_sem, and_self, and_true, true_and, false_and, and_false, Nat.reduceAdd, Nat.reduceMul, Nat.reduceSub, Nat.reduceLeDiff, Nat.reduceLT, Nat.reduceGT, Nat.reduceEqDiff, Nat.reduceBEq, Int.reduceNeg, Int.reduceEq, Int.reduceLT, Int.reduceLE, Int.reduceBEq, Int.reduceToNat, Int.toNat_natCast, Int.natCast_zero]

def TmIs (y n j i : Nat) : Prop := V (F tab) r55_B0 (r55_S0 (.d (uv n)) (.d (uv y)) (.d (iv j)) (.d (iv i)) []) =
  if n * y ^ (j - i) < 1000000000000000 then some (.norm, r55_E0 (.d (uv (n * y ^ (j - i) : Nat))) []) else some (.ret, r55_R (.d (uv 0)) (.d (.bool false)) [])
theorem tm_end (y n j : Nat) (hn2 : n < 1000000000000000) : TmIs y n j j := by
  have h1 : ((j : Int) < (j : Int)) = False := eq_false (by omega)
  unfold TmIs
  rw [Nat.sub_self, Nat.pow_zero, Nat.mul_one, if_pos hn2, r55_B0_eq]
  simp (disch := omega) only [go_sem, and_self, and_true, true_and, false_and, and_false, Nat.reduceAdd, Nat.reduceMul, Nat.reduceSub, Nat.reduceLeDiff, Nat.reduceLT, Nat.reduceGT, Nat.reduceEqDiff, Nat.reduceBEq, Int.reduceNeg, Int.reduceEq, Int.reduceLT, Int.reduceLE, Int.reduceBEq, Int.reduceToNat, Int.toNat_natCast, Int.natCast_zero, r55_C0, h1]
theorem tm_step (y n j i : Nat) (hy : 1 ≤ y) (hy2 : y ≤ 10) (hn : 0 < n) (hn2 : n < 1000000000000000) (hi : i < j) (hj : j ≤ 1000000) (ih : n * y < 1000000000000000 → TmIs y (n * y) j (i + 1)) : TmIs y n j i := by
  have h1 : ((i : Int) < (j : Int)) = True := eq_true (by omega)
  have h2 : ((n : Int) == 0) = false := by simp only [beq_eq_false_iff_ne, ne_eq]; omega
  have h3 : (n : Int) * (y : Int) = ((n * y : Nat) : Int) := (Int.natCast_mul n y).symm
  have hle : n * y ≤ 10000000000000000 := by
    have : n * y ≤ n * 10 := Nat.mul_le_mul_left n hy2
    omega
  have h4 : IntKind.u64.wrap ((n * y : Nat) : Int) = ((n * y : Nat) : Int) := wu64 (by omega)
  have h5 : (i : Int) + 1 = ((i + 1 : Nat) : Int) := rfl
  have h6 : IntKind.i64.wrap ((i + 1 : Nat) : Int) = ((i + 1 : Nat) : Int) := w64 (by omega)
  have hp : n * y ^ (j - i) = n * y * y ^ (j - (i + 1)) := by
    rw [show j - i = (j - (i + 1)) + 1 by omega, Nat.pow_succ, Nat.mul_comm (y ^ _) y, Nat.mul_assoc]
  unfold TmIs at ih ⊢
  rw [hp, r55_B0_eq]
  by_cases g : n * y < 1000000000000000
  · have h7 : (((n * y : Nat) : Int) ≥ 1000000000000000) = False := eq_false (by omega)
    simp (disch := omega) only [go_sem, and_self, and_true, true_and, false_and, and_false, Nat.reduceAdd, Nat.reduceMul, Nat.reduceSub, Nat.reduceLeDiff, Nat.reduceLT, Nat.reduceGT, Nat.reduceEqDiff, Nat.reduceBEq, Int.reduceNeg, Int.reduceEq, Int.reduceLT, Int.reduceLE, Int.reduceBEq, Int.reduceToNat, Int.toNat_natCast, Int.natCast_zero, r55_C0, h1, h2, h3, h4, h5, h6, h7]
    exact ih g
  · have h7 : (((n * y : Nat) : Int) ≥ 1000000000000000) = True := eq_true (by omega)
    have h8 : ¬ n * y * y ^ (j - (i + 1)) < 1000000000000000 := by
      have hpos : 1 ≤ y ^ (j - (i + 1)) := by first | exact Nat.pow_pos (by omega) | exact Nat.pos_pow_of_pos _ (by omega) | exact Nat.one_le_pow _ _ (by omega)
      have := Nat.mul_le_mul_left (n * y) hpos
      omega
    rw [if_neg h8]
    simp (disch := omega) only [go_sem, and_self, and_true, true_and, false_and, and_false, Nat.reduceAdd, Nat.reduceMul, Nat.reduceSub, Nat.reduceLeDiff, Nat.reduceLT, Nat.reduceGT, Nat.reduceEqDiff, Nat.reduceBEq, Int.reduceNeg, Int.reduceEq, Int.reduceLT, Int.reduceLE, Int.reduceBEq, Int.reduceToNat, Int.toNat_natCast, Int.natCast_zero, r55_C0, h1, h2, h3, h4, h5, h6, h7]
theorem tm_loop (y j : Nat) (hy : 1 ≤ y) (hy2 : y ≤ 10) (hj : j ≤ 1000000) : ∀ (d i n : Nat), i + d = j → 0 < n → n < 1000000000000000 → TmIs y n j i
  | 0, i, n, h, _, hn2 => by obtain rfl : i = j := by omega
                             exact tm_end y n i hn2
  | d + 1, i, n, h, hn, hn2 => tm_step y n j i hy hy2 hn hn2 (by omega) hj fun g => tm_loop y j hy hy2 hj d (i + 1) (n * y) (by omega) (Nat.mul_pos hn (by omega)) g

def timesN (n y j : Nat) : Nat := if n * y ^ j < 1000000000000000 then n * y ^ j else 0
theorem times_ok (n y j : Nat) (hy : 1 ≤ y) (hy2 : y ≤ 10) (hj : j ≤ 1000000) (hn2 : n < 1000000000000000) (hp : List Ent) :
    F tab 55 [.d (uv n), .d (uv y), .d (iv j)] hp = some (.ret (.tup [.d (uv (timesN n y j)), .d (.bool (decide (n * y ^ j < 1000000000000000)))]) hp) := by
  refine f55 rfl ?_
  simp (disch := omega) only [go_sem, and_self, and_true, true_and, false_and, and_false, Nat.reduceAdd, Nat.reduceMul, Nat.reduceSub, Nat.reduceLeDiff, Nat.reduceLT, Nat.reduceGT, Nat.reduceEqDiff, Nat.reduceBEq, Int.reduceNeg, Int.reduceEq, Int.reduceLT, Int.reduceLE, Int.reduceBEq, Int.reduceToNat, Int.toNat_natCast, Int.natCast_zero, r55_T, r55]
  rw [r55_B0_n]
  by_cases hn : n = 0
  · subst hn
    have e : timesN 0 y j = 0 := by simp [timesN]
    have e2 : decide (0 * y ^ j < 1000000000000000) = true := by simp
    rw [e, e2]
    by_cases h : j = 0
    · subst h
      have := tm_end y 0 0 (by omega)
      unfold TmIs at this
      rw [Nat.zero_mul, if_pos (by omega)] at this
      erw [this]
      simp (disch := omega) only [go_sem, and_self, and_true, true_and, false_and, and_false, Nat.reduceAdd, Nat.reduceMul, Nat.reduceSub, Nat.reduceLeDiff, Nat.reduceLT, Nat.reduceGT, Nat.reduceEqDiff, Nat.reduceBEq, Int.reduceNeg, Int.reduceEq, Int.reduceLT, Int.reduceLE, Int.reduceBEq, Int.reduceToNat, Int.toNat_natCast, Int.natCast_zero]
    · have h1 : ((0 : Int) < (j : Int)) = True := eq_true (by omega)
      have h2 : (((0 : Nat) : Int) == 0) = true := rfl
      have h3 : ((0 : Int) == 0) = true := rfl
      rw [r55_B0_eq]
      simp (disch := omega) only [go_sem, and_self, and_true, true_and, false_and, and_false, Nat.reduceAdd, Nat.reduceMul, Nat.reduceSub, Nat.reduceLeDiff, Nat.reduceLT, Nat.reduceGT, Nat.reduceEqDiff, Nat.reduceBEq, Int.reduceNeg, Int.reduceEq, Int.reduceLT, Int.reduceLE, Int.reduceBEq, Int.reduceToNat, Int.toNat_natCast, Int.natCast_zero, r55_C0, h1, h2, h3]
  · have hL := tm_loop y j hy hy2 hj j 0 n (by omega) (by omega) hn2
    unfold TmIs at hL
    rw [Nat.sub_zero] at hL
    erw [hL]
    unfold timesN
    by_cases g : n * y ^ j < 1000000000000000
    · have e2 : decide (n * y ^ j < 1000000000000000) = true := decide_eq_true g
      rw [if_pos g, if_pos g, e2]
      simp (disch := omega) only [go_sem, and_self, and_true, true_and, false_and, and_false, Nat.reduceAdd, Nat.reduceMul, Nat.reduceSub, Nat.reduceLeDiff, Nat.reduceLT, Nat.reduceGT, Nat.reduceEqDiff, Nat.reduceBEq, Int.reduceNeg, Int.reduceEq, Int.reduceLT, Int.reduceLE, Int.reduceBEq, Int.reduceToNat, Int.toNat_natCast, Int.natCast_zero]
    · have e2 : decide (n * y ^ j < 1000000000000000) = false := decide_eq_false g
      rw [if_neg g, if_neg g, e2]
      simp (disch := omega) only [go_sem, and_self, and_true, true_and, false_and, and_false, Nat.reduceAdd, Nat.reduceMul, Nat.reduceSub, Nat.reduceLeDiff, Nat.reduceLT, Nat.reduceGT, Nat.reduceEqDiff, Nat.reduceBEq, Int.reduceNeg, Int.reduceEq, Int.reduceLT, Int.reduceLE, Int.reduceBEq, Int.reduceToNat, Int.toNat_natCast, Int.natCast_zero]
theorem timesN_lt (n y j : Nat) : timesN n y j < 1000000000000000 := by
  unfold timesN; split <;> omega
end Go.Pe.T

namespace Go.Pe.T
/-! ### num.Div -/
theorem make_wide (c : Int) (k : Nat) (hk : 30 < k) (hk2 : k ≤ 1000) (hp : List Ent) : F tab 16 [.d (iv c), .d (iv k)] hp = some (.ret (.tup [.d (.agg [iv 0, iv 0]), .d (iv 8)]) hp) := by
  have h1 : ((k : Int) < 0) = False := eq_false (by omega)
  have h2 : ((k : Int) > 30) = True := eq_true (by omega)
  refine f16 rfl ?_
  simp (disch := omega) only [go_sem, and_self, and_true, true_and, false_and, and_false, Nat.reduceAdd, Nat.reduceMul, Nat.reduceSub, Nat.reduceLeDiff, Nat.reduceLT, Nat.reduceGT, Nat.reduceEqDiff, Nat.reduceBEq, Int.reduceNeg, Int.reduceEq, Int.reduceLT, Int.reduceLE, Int.reduceBEq, Int.reduceToNat, Int.toNat_natCast, Int.natCast_zero, r16_T, r16, h1, h2]

set_option maxHeartbeats 8000000 in
theorem div_ok (c c' : Int) (k k' : Nat) (h : numIs c k = true) (h' : numIs c' k' = true) (h0 : c' ≠ 0) :
    ∃ T, (∀ hp, F tab 26 [.d (numD c k), .d (numD c' k')] hp = some (.ret T hp)) ∧ QSpec c c' k k' T := by
  obtain ⟨_, e0, hk, hc⟩ := numIs_inv h
  obtain ⟨_, e1, hk', hc'⟩ := numIs_inv h'
  have e0 := Int.ofNat.inj e0
  have e1 := Int.ofNat.inj e1
  subst e0; subst e1
  have h1 := both_ok c k c' k'
  rw [h, h'] at h1
  have n1 : (c' == 0) = false := by simpa using h0
  by_cases hx0 : c = 0
  · subst hx0
    have n0 : ((0 : Int) == 0) = true := rfl
    refine ⟨.tup [.d (.agg [iv 0, iv 0]), .d (iv 0)], fun hp => ?_, .inl ⟨0, 0, rfl, by decide, ?_⟩⟩
    · refine f26 rfl ?_
      simp (maxSteps := 2000000) (disch := omega) only [go_sem, and_self, and_true, true_and, false_and, and_false, Nat.reduceAdd, Nat.reduceMul, Nat.reduceSub, Nat.reduceLeDiff, Nat.reduceLT, Nat.reduceGT, Nat.reduceEqDiff, Nat.reduceBEq, Int.reduceNeg, Int.reduceEq, Int.reduceLT, Int.reduceLE, Int.reduceBEq, Int.reduceToNat, Int.toNat_natCast, Int.natCast_zero, r26_T, r26, numD, h1, n1, n0]
    · unfold QSol; simp
  have n2 : (c == 0) = false := by simpa using hx0
  have h2 := size_ok c (by omega)
  have h3 := size_ok c' (by omega)
  have h4 := common_ok c.natAbs c'.natAbs
  have hg0 : 0 < Nat.gcd c.natAbs c'.natAbs := Nat.gcd_pos_of_pos_left _ (by omega)
  have hco := Nat.coprime_div_gcd_div_gcd hg0
  have hgx := Nat.gcd_dvd_left c.natAbs c'.natAbs
  have hgy := Nat.gcd_dvd_right c.natAbs c'.natAbs
  have ea := (Nat.mul_div_cancel' hgx).symm
  have eb := (Nat.mul_div_cancel' hgy).symm
  have hq0 : 0 < c'.natAbs / Nat.gcd c.natAbs c'.natAbs := Nat.div_pos (Nat.le_of_dvd (by omega) hgy) hg0
  have hp0 : 0 < c.natAbs / Nat.gcd c.natAbs c'.natAbs := Nat.div_pos (Nat.le_of_dvd (by omega) hgx) hg0
  have hqle : c'.natAbs / Nat.gcd c.natAbs c'.natAbs ≤ c'.natAbs := Nat.div_le_self _ _
  have hple : c.natAbs / Nat.gcd c.natAbs c'.natAbs ≤ c.natAbs := Nat.div_le_self _ _
  have hdx : ((c.natAbs : Nat) : Int).tdiv (Nat.gcd c.natAbs c'.natAbs : Nat) = ((c.natAbs / Nat.gcd c.natAbs c'.natAbs : Nat) : Int) := (Int.ofNat_tdiv _ _).symm
  have hdy : ((c'.natAbs : Nat) : Int).tdiv (Nat.gcd c.natAbs c'.natAbs : Nat) = ((c'.natAbs / Nat.gcd c.natAbs c'.natAbs : Nat) : Int) := (Int.ofNat_tdiv _ _).symm
  have hgi : (((Nat.gcd c.natAbs c'.natAbs : Nat) : Int) = 0) = False := eq_false (by omega)
  generalize Nat.gcd c.natAbs c'.natAbs = g at *
  generalize hP : c.natAbs / g = p at *
  generalize hQ : c'.natAbs / g = q at *
  have wp : IntKind.u64.wrap (p : Int) = p := wu64 (by omega)
  have wq : IntKind.u64.wrap (q : Int) = q := wu64 (by omega)
  obtain ⟨t, m2, s2, e2, d2, p2⟩ := split_ok 2 q (by omega) hq0 (by omega)
  have hj2 : t < 50 := pow_lt50 (by omega) p2 e2 (by omega)
  have hm2 : m2 ≤ q := Nat.le_of_dvd hq0 ⟨2 ^ t, by rw [Nat.mul_comm]; exact e2⟩
  obtain ⟨f, m5, s5, e5, d5, p5⟩ := split_ok 5 m2 (by omega) p2 (by omega)
  have hj5 : f < 50 := pow_lt50 (by omega) p5 e5 (by omega)
  obtain ⟨K, hk1, hk2, hk3, hk4, hk5⟩ : ∃ K : Nat, (if (f : Int) > (t : Int) then (f : Int) else (t : Int)) = (K : Int) ∧ t ≤ K ∧ f ≤ K ∧ (K = t ∨ K = f) ∧ K < 50 := by
    by_cases g : f > t
    · exact ⟨f, by rw [if_pos (by omega)], by omega, by omega, .inr rfl, by omega⟩
    · exact ⟨t, by rw [if_neg (by omega)], by omega, by omega, .inl rfl, by omega⟩
  obtain ⟨sc, e, hsc1, hsc2, he, hsc3⟩ : ∃ sc e : Nat, (if (K : Int) + (k : Int) - (k' : Int) > 0 then (K : Int) + (k : Int) - (k' : Int) else 0) = (sc : Int) ∧ (if (0 - ((K : Int) + (k : Int) - (k' : Int))) > 0 then (0 - ((K : Int) + (k : Int) - (k' : Int))) else 0) = (e : Int) ∧ K + k + e = k' + sc ∧ (sc = 0 ∨ e = 0) := by
    by_cases g : (K : Int) + (k : Int) - (k' : Int) > 0
    · exact ⟨K + k - k', 0, by rw [if_pos g]; omega, by rw [if_neg (by omega)]; omega, by omega, .inr rfl⟩
    · exact ⟨0, k' - K - k, by rw [if_neg g]; omega, by (split <;> omega), by omega, .inl rfl⟩
  have dk2 : (K : Int) - (t : Int) = ((K - t : Nat) : Int) := by omega
  have dk5 : (K : Int) - (f : Int) = ((K - f : Nat) : Int) := by omega
  have t2 := times_ok p 2 (K - t) (by omega) (by omega) (by omega) (by omega)
  have l2 := timesN_lt p 2 (K - t)
  have t5 := times_ok (timesN p 2 (K - t)) 5 (K - f) (by omega) (by omega) (by omega) l2
  have l5 := timesN_lt (timesN p 2 (K - t)) 5 (K - f)
  have t10 := times_ok (timesN (timesN p 2 (K - t)) 5 (K - f)) 10 e (by omega) (by omega) (by omega) l5
  have n8 : ((2 : Nat) : Int) = 2 := rfl
  have n9 : ((5 : Nat) : Int) = 5 := rfl
  have n10 : ((10 : Nat) : Int) = 10 := rfl
  simp only [n8, n9, n10] at s2 s5 t2 t5 t10
  have hlow : Low c.natAbs c'.natAbs g p q t m2 f m5 := ⟨ea, eb, hg0, hp0, hq0, hco, e2, d2, e5, d5⟩
  by_cases c1 : m5 = 1
  · have q1 : ((m5 : Int) != 1) = false := by subst c1; rfl
    subst c1
    have hmade := fun z s => low_made hlow K hk2 hk3 sc e he z s
    have htail := low_tail hlow K hk2 hk3
    have pw2 : 1 ≤ 2 ^ (K - t) := Nat.pow_pos (by omega)
    have pw5 : 1 ≤ 5 ^ (K - f) := Nat.pow_pos (by omega)
    have pw10 : 1 ≤ 10 ^ e := Nat.pow_pos (by omega)
    -- what is too great
    have hno : 1000000000000000 ≤ p * 2 ^ (K - t) * 5 ^ (K - f) * 10 ^ e ∨ 9 < sc → makeOk (sv (!(decide (c < 0) == decide (c' < 0))) ((p * 2 ^ (K - t) * 5 ^ (K - f) * 10 ^ e : Nat) : Int)) sc = false ∨ (K = 0 ∧ sc ≤ 9) := by
      intro hb
      by_cases hz : sc = 0
      · exact .inl (made_big _ _ sc (.inl hz) hb)
      · have he0 : e = 0 := by omega
        by_cases hK : 0 < K
        · refine .inl (made_big _ _ sc (.inr ?_) hb)
          rw [he0, Nat.pow_zero, Nat.mul_one]
          exact htail ⟨hk4, hK⟩
        · exact .inr ⟨by omega, by omega⟩
    have hK0 : K = 0 → sc ≤ 9 → (sc = 0 ∨ e = 0) → 1000000000000000 ≤ p * 2 ^ (K - t) * 5 ^ (K - f) * 10 ^ e → sc = 0 := by
      intro hK hs h3 hb
      rcases h3 with h3 | h3
      · exact h3
      · exfalso
        have a1 : K - t = 0 := by omega
        have a2 : K - f = 0 := by omega
        rw [a1, a2, h3] at hb
        simp only [Nat.pow_zero, Nat.mul_one] at hb
        omega
    have hbig : 1000000000000000 ≤ p * 2 ^ (K - t) * 5 ^ (K - f) * 10 ^ e → makeOk (sv (!(decide (c < 0) == decide (c' < 0))) ((p * 2 ^ (K - t) * 5 ^ (K - f) * 10 ^ e : Nat) : Int)) sc = false := by
      intro hb
      rcases hno (.inl hb) with g | ⟨g1, g2⟩
      · exact g
      · exact made_big _ _ sc (.inl (hK0 g1 g2 hsc3 hb)) (.inl hb)
    by_cases b2 : p * 2 ^ (K - t) < 1000000000000000
    · have f2 : decide (p * 2 ^ (K - t) < 1000000000000000) = true := decide_eq_true b2
      have v2 : timesN p 2 (K - t) = p * 2 ^ (K - t) := by unfold timesN; rw [if_pos b2]
      rw [v2] at t2 t5 l5 t10
      rw [f2] at t2
      generalize hp2 : p * 2 ^ (K - t) = P2 at *
      by_cases b5 : P2 * 5 ^ (K - f) < 1000000000000000
      · have f5 : decide (P2 * 5 ^ (K - f) < 1000000000000000) = true := decide_eq_true b5
        have v5 : timesN P2 5 (K - f) = P2 * 5 ^ (K - f) := by unfold timesN; rw [if_pos b5]
        rw [v5] at t5 t10
        rw [f5] at t5
        generalize hp5 : P2 * 5 ^ (K - f) = P5 at *
        by_cases b10 : P5 * 10 ^ e < 1000000000000000
        · have f10 : decide (P5 * 10 ^ e < 1000000000000000) = true := decide_eq_true b10
          have v10 : timesN P5 10 e = P5 * 10 ^ e := by unfold timesN; rw [if_pos b10]
          rw [v10, f10] at t10
          generalize hp10 : P5 * 10 ^ e = P at *
          have hmk : ∀ ρ : Bool, ∃ T, (∀ hp, F tab 16 [.d (iv (sv ρ (P : Int))), .d (iv sc)] hp = some (.ret T hp)) ∧ (∃ u v w, T = .tup [.d (.agg [iv u, iv v]), .d (iv w)]) ∧ T = madeT (sv ρ (P : Int)) sc ∨ 9 < sc := by
            intro ρ
            by_cases hs : 9 < sc
            · exact ⟨.dead, .inr hs⟩
            · refine ⟨madeT (sv ρ P) sc, .inl ⟨make_ok _ sc (by cases ρ <;> simp only [sv, if_true, Bool.false_eq_true, if_false, i64] <;> omega) (by omega), made_ex _ _, rfl⟩⟩
          have key : ∃ T, (∀ hp, F tab 16 [.d (iv (sv (!(decide (c < 0) == decide (c' < 0))) (P : Int))), .d (iv sc)] hp = some (.ret T hp)) ∧ (∃ u v w, T = .tup [.d (.agg [iv u, iv v]), .d (iv w)]) ∧ QSpec c c' k k' T := by
            by_cases hs : 30 < sc
            · refine ⟨_, make_wide _ sc hs (by omega), ⟨_, _, _, rfl⟩, qspec_none hmade ?_⟩
              rcases hno (.inr (by omega)) with g | ⟨g1, g2⟩
              · exact g
              · omega
            · exact ⟨_, make_ok _ sc (by cases (!(decide (c < 0) == decide (c' < 0))) <;> simp only [sv, if_true, Bool.false_eq_true, if_false, i64] <;> omega) (by omega), made_ex _ _, qspec_made hmade⟩
          obtain ⟨T, k1, ⟨u, v, w, rfl⟩, k3⟩ := key
          refine ⟨_, fun hp => ?_, k3⟩
          refine f26 rfl ?_
          rcases Bool.eq_false_or_eq_true (decide (c < 0) == decide (c' < 0)) with sg | sg
          · rw [sg] at k1
            simp only [sv, Bool.not_true, Bool.false_eq_true, if_false] at k1
            simp (maxSteps := 4000000) (disch := omega) only [go_sem, and_self, and_true, true_and, false_and, and_false, Nat.reduceAdd, Nat.reduceMul, Nat.reduceSub, Nat.reduceLeDiff, Nat.reduceLT, Nat.reduceGT, Nat.reduceEqDiff, Nat.reduceBEq, Int.reduceNeg, Int.reduceEq, Int.reduceLT, Int.reduceLE, Int.reduceBEq, Int.reduceToNat, Int.toNat_natCast, Int.natCast_zero, r26_T, r26, numD, h1, h2, h3, h4, n1, n2, hdx, hdy, hgi, wp, wq, s2, s5, hk1, dk2, dk5, t2, t5, hsc1, hsc2, t10, q1, w64, sg, k1]
          · rw [sg] at k1
            simp only [sv, Bool.not_false, if_true] at k1
            rw [show (-(P : Int)) = 0 - (P : Int) by omega] at k1
            simp (maxSteps := 4000000) (disch := omega) only [go_sem, and_self, and_true, true_and, false_and, and_false, Nat.reduceAdd, Nat.reduceMul, Nat.reduceSub, Nat.reduceLeDiff, Nat.reduceLT, Nat.reduceGT, Nat.reduceEqDiff, Nat.reduceBEq, Int.reduceNeg, Int.reduceEq, Int.reduceLT, Int.reduceLE, Int.reduceBEq, Int.reduceToNat, Int.toNat_natCast, Int.natCast_zero, r26_T, r26, numD, h1, h2, h3, h4, n1, n2, hdx, hdy, hgi, wp, wq, s2, s5, hk1, dk2, dk5, t2, t5, hsc1, hsc2, t10, q1, w64, sg, k1]
        · have f10 : decide (P5 * 10 ^ e < 1000000000000000) = false := decide_eq_false b10
          rw [f10] at t10
          refine ⟨_, fun hp => ?_, qspec_none hmade (hbig (by omega))⟩
          refine f26 rfl ?_
          simp (maxSteps := 4000000) (disch := omega) only [go_sem, and_self, and_true, true_and, false_and, and_false, Nat.reduceAdd, Nat.reduceMul, Nat.reduceSub, Nat.reduceLeDiff, Nat.reduceLT, Nat.reduceGT, Nat.reduceEqDiff, Nat.reduceBEq, Int.reduceNeg, Int.reduceEq, Int.reduceLT, Int.reduceLE, Int.reduceBEq, Int.reduceToNat, Int.toNat_natCast, Int.natCast_zero, r26_T, r26, numD, h1, h2, h3, h4, n1, n2, hdx, hdy, hgi, wp, wq, s2, s5, hk1, dk2, dk5, t2, t5, hsc1, hsc2, t10, q1, w64]
      · have f5 : decide (P2 * 5 ^ (K - f) < 1000000000000000) = false := decide_eq_false b5
        rw [f5] at t5
        have hge : P2 * 5 ^ (K - f) * 1 ≤ P2 * 5 ^ (K - f) * 10 ^ e := Nat.mul_le_mul_left _ pw10
        refine ⟨_, fun hp => ?_, qspec_none hmade (hbig (by omega))⟩
        refine f26 rfl ?_
        generalize timesN P2 5 (K - f) = n5 at *
        generalize timesN n5 10 e = n10 at *
        generalize decide (n5 * 10 ^ e < 1000000000000000) = bb at *
        simp (maxSteps := 4000000) (disch := omega) only [go_sem, and_self, and_true, true_and, false_and, and_false, Nat.reduceAdd, Nat.reduceMul, Nat.reduceSub, Nat.reduceLeDiff, Nat.reduceLT, Nat.reduceGT, Nat.reduceEqDiff, Nat.reduceBEq, Int.reduceNeg, Int.reduceEq, Int.reduceLT, Int.reduceLE, Int.reduceBEq, Int.reduceToNat, Int.toNat_natCast, Int.natCast_zero, r26_T, r26, numD, h1, h2, h3, h4, n1, n2, hdx, hdy, hgi, wp, wq, s2, s5, hk1, dk2, dk5, t2, t5, hsc1, hsc2, t10, q1, w64]
    · have f2 : decide (p * 2 ^ (K - t) < 1000000000000000) = false := decide_eq_false b2
      rw [f2] at t2
      have hge : p * 2 ^ (K - t) * 1 ≤ p * 2 ^ (K - t) * (5 ^ (K - f) * 10 ^ e) := Nat.mul_le_mul_left _ (Nat.mul_pos pw5 pw10)
      rw [← Nat.mul_assoc] at hge
      refine ⟨_, fun hp => ?_, qspec_none hmade (hbig (by omega))⟩
      refine f26 rfl ?_
      generalize timesN p 2 (K - t) = n2' at *
      generalize timesN n2' 5 (K - f) = n5 at *
      generalize timesN n5 10 e = n10 at *
      generalize decide (n2' * 5 ^ (K - f) < 1000000000000000) = b5 at *
      generalize decide (n5 * 10 ^ e < 1000000000000000) = b10 at *
      simp (maxSteps := 4000000) (disch := omega) only [go_sem, and_self, and_true, true_and, false_and, and_false, Nat.reduceAdd, Nat.reduceMul, Nat.reduceSub, Nat.reduceLeDiff, Nat.reduceLT, Nat.reduceGT, Nat.reduceEqDiff, Nat.reduceBEq, Int.reduceNeg, Int.reduceEq, Int.reduceLT, Int.reduceLE, Int.reduceBEq, Int.reduceToNat, Int.toNat_natCast, Int.natCast_zero, r26_T, r26, numD, h1, h2, h3, h4, n1, n2, hdx, hdy, hgi, wp, wq, s2, s5, hk1, dk2, dk5, t2, t5, hsc1, hsc2, t10, q1, w64]
  · have q1 : ((m5 : Int) != 1) = true := by simp; omega
    refine ⟨_, fun hp => ?_, .inr ⟨rfl, fun z s _ => low_no hlow c1 z s⟩⟩
    refine f26 rfl ?_
    generalize timesN p 2 (K - t) = n2' at *
    generalize timesN n2' 5 (K - f) = n5 at *
    generalize timesN n5 10 e = n10 at *
    generalize decide (p * 2 ^ (K - t) < 1000000000000000) = b2 at *
    generalize decide (n2' * 5 ^ (K - f) < 1000000000000000) = b5 at *
    generalize decide (n5 * 10 ^ e < 1000000000000000) = b10 at *
    simp (maxSteps := 4000000) (disch := omega) only [go_sem, and_self, and_true, true_and, false_and, and_false, Nat.reduceAdd, Nat.reduceMul, Nat.reduceSub, Nat.reduceLeDiff, Nat.reduceLT, Nat.reduceGT, Nat.reduceEqDiff, Nat.reduceBEq, Int.reduceNeg, Int.reduceEq, Int.reduceLT, Int.reduceLE, Int.reduceBEq, Int.reduceToNat, Int.toNat_natCast, Int.natCast_zero, r26_T, r26, numD, h1, h2, h3, h4, n1, n2, hdx, hdy, hgi, wp, wq, s2, s5, hk1, dk2, dk5, t2, t5, hsc1, hsc2, t10, q1, w64]
end Go.Pe.T

namespace Go.Pe.T
/-! ### what is left, the whole part -/
theorem numIs_wh {z : Int} (h : -1000000000000000 < z ∧ z < 1000000000000000) : numIs z ((0 : Nat) : Int) = true := by
  unfold numIs
  simp [h.1, h.2]
theorem mod_err (c s c' s' : Int) (h : numIs c s = true) (h' : numIs c' s' = true) (hb : s ≠ 0 ∨ s' ≠ 0 ∨ c' = 0) (hp : List Ent) : F tab 28 [.d (numD c s), .d (numD c' s')] hp = some (.ret (.tup [.d (.agg [iv 0, iv 0]), .d (iv 8)]) hp) := by
  have h1 := both_ok c s c' s'
  rw [h, h'] at h1
  have n0 : ((0 : Int) != 0) = false := rfl
  have z0 : ((0 : Int) == 0) = true := rfl
  refine f28 rfl ?_
  by_cases g1 : s = 0
  · subst g1
    by_cases g2 : s' = 0
    · subst g2
      obtain rfl : c' = 0 := by
        rcases hb with h | h | h
        · exact absurd rfl h
        · exact absurd rfl h
        · exact h
      simp (disch := omega) only [go_sem, and_self, and_true, true_and, false_and, and_false, Nat.reduceAdd, Nat.reduceMul, Nat.reduceSub, Nat.reduceLeDiff, Nat.reduceLT, Nat.reduceGT, Nat.reduceEqDiff, Nat.reduceBEq, Int.reduceNeg, Int.reduceEq, Int.reduceLT, Int.reduceLE, Int.reduceBEq, Int.reduceToNat, Int.toNat_natCast, Int.natCast_zero, r28_T, r28, h1, n0, z0]
    · have e2 : (s' != 0) = true := by simp [g2]
      simp (disch := omega) only [go_sem, and_self, and_true, true_and, false_and, and_false, Nat.reduceAdd, Nat.reduceMul, Nat.reduceSub, Nat.reduceLeDiff, Nat.reduceLT, Nat.reduceGT, Nat.reduceEqDiff, Nat.reduceBEq, Int.reduceNeg, Int.reduceEq, Int.reduceLT, Int.reduceLE, Int.reduceBEq, Int.reduceToNat, Int.toNat_natCast, Int.natCast_zero, r28_T, r28, h1, n0, e2]
  · have e1 : (s != 0) = true := by simp [g1]
    simp (disch := omega) only [go_sem, and_self, and_true, true_and, false_and, and_false, Nat.reduceAdd, Nat.reduceMul, Nat.reduceSub, Nat.reduceLeDiff, Nat.reduceLT, Nat.reduceGT, Nat.reduceEqDiff, Nat.reduceBEq, Int.reduceNeg, Int.reduceEq, Int.reduceLT, Int.reduceLE, Int.reduceBEq, Int.reduceToNat, Int.toNat_natCast, Int.natCast_zero, r28_T, r28, h1, e1]
theorem mod_yes (c c' : Int) (h : numIs c 0 = true) (h' : numIs c' 0 = true) (hc' : -1000000000000000 < c' ∧ c' < 1000000000000000) (h0 : c' ≠ 0) (hp : List Ent) : F tab 28 [.d (numD c 0), .d (numD c' 0)] hp = some (.ret (.tup [.d (.agg [iv (c.tmod c'), iv 0]), .d (iv 0)]) hp) := by
  have h1 := both_ok c 0 c' 0
  rw [h, h'] at h1
  have hb : -1000000000000000 < c.tmod c' ∧ c.tmod c' < 1000000000000000 := by
    have := Int.natAbs_tmod c c'
    have h2 : c.natAbs % c'.natAbs < c'.natAbs := Nat.mod_lt _ (by omega)
    omega
  have hm := make_ok (c.tmod c') 0 (by unfold i64; omega) (by omega)
  have hy : makeOk (c.tmod c') 0 = true := numIs_wh hb
  rw [made_yes hy] at hm
  have e : stripN (c.tmod c') 0 = (c.tmod c', 0) := rfl
  simp only [e, Int.natCast_zero] at hm
  have n0 : ((0 : Int) != 0) = false := rfl
  have n1 : (c' == 0) = false := by simpa using h0
  have n2 : (c' = 0) = False := eq_false h0
  refine f28 rfl ?_
  simp (disch := omega) only [go_sem, and_self, and_true, true_and, false_and, and_false, Nat.reduceAdd, Nat.reduceMul, Nat.reduceSub, Nat.reduceLeDiff, Nat.reduceLT, Nat.reduceGT, Nat.reduceEqDiff, Nat.reduceBEq, Int.reduceNeg, Int.reduceEq, Int.reduceLT, Int.reduceLE, Int.reduceBEq, Int.reduceToNat, Int.toNat_natCast, Int.natCast_zero, r28_T, r28, h1, n0, n1, n2, hm]

def flW (c : Int) (k : Nat) : Int := if cutV c k < 0 then cutU c k - 1 else cutU c k
theorem flW_spec {c : Int} {k : Nat} (hk : k ≤ 9) (hc : -1000000000000000 < c ∧ c < 1000000000000000) : -1000000000000000 < flW c k ∧ flW c k < 1000000000000000 ∧ 0 ≤ flatN c k - flatN (flW c k) 0 ∧ flatN c k - flatN (flW c k) 0 < 1000000000 := by
  obtain ⟨b1, b2, b3, b4, b5, _⟩ := cut_bounds hk hc
  have e0 : flatN (flW c k) 0 = flW c k * 1000000000 := by unfold flatN; rfl
  have e1 : flatN c k = cutU c k * 1000000000 + cutV c k := by unfold flatN; exact b1.symm
  rw [e0, e1]
  have hU : cutV c k < 0 → -1000000000000000 < cutU c k - 1 := by
    intro hv
    by_cases h0 : k = 0
    · subst h0
      simp [cutV] at hv
    · have hp : (10 : Int) ^ 1 ≤ 10 ^ k := p10_mono (by omega)
      have hdm := Int.mul_tdiv_add_tmod c (10 ^ k)
      have hcu : cutU c k = c.tdiv (10 ^ k) := rfl
      have hn : (c.tdiv (10 ^ k)).natAbs = c.natAbs / ((10 : Int) ^ k).natAbs := Int.natAbs_tdiv c (10 ^ k)
      have hq : c.natAbs / ((10 : Int) ^ k).natAbs ≤ c.natAbs / 10 := Nat.div_le_div_left (by have : (10 : Int) ^ 1 = 10 := rfl; omega) (by omega)
      rw [hcu]
      rw [← hn] at hq
      generalize c.tdiv (10 ^ k) = u at *
      omega
  unfold flW
  split
  · rename_i h; have := hU h; omega
  · omega
theorem floor_ok (c : Int) (k : Nat) (h : numIs c k = true) (hp : List Ent) : F tab 29 [.d (numD c k)] hp = some (.ret (.d (.agg [iv (flW c k), iv 0])) hp) := by
  obtain ⟨_, e0, hk, hc⟩ := numIs_inv h
  have e0 := Int.ofNat.inj e0
  subst e0
  have h1 := numIs_ok c k
  rw [h] at h1
  have h2 := cut_ok c k hk hc
  obtain ⟨b1, b2, b3, b4, b5, _⟩ := cut_bounds hk hc
  refine f29 rfl ?_
  unfold flW
  by_cases g : cutV c k < 0
  · simp (disch := omega) only [go_sem, and_self, and_true, true_and, false_and, and_false, Nat.reduceAdd, Nat.reduceMul, Nat.reduceSub, Nat.reduceLeDiff, Nat.reduceLT, Nat.reduceGT, Nat.reduceEqDiff, Nat.reduceBEq, Int.reduceNeg, Int.reduceEq, Int.reduceLT, Int.reduceLE, Int.reduceBEq, Int.reduceToNat, Int.toNat_natCast, Int.natCast_zero, r29_T, r29, h1, h2, g, w64]
  · simp (disch := omega) only [go_sem, and_self, and_true, true_and, false_and, and_false, Nat.reduceAdd, Nat.reduceMul, Nat.reduceSub, Nat.reduceLeDiff, Nat.reduceLT, Nat.reduceGT, Nat.reduceEqDiff, Nat.reduceBEq, Int.reduceNeg, Int.reduceEq, Int.reduceLT, Int.reduceLE, Int.reduceBEq, Int.reduceToNat, Int.toNat_natCast, Int.natCast_zero, r29_T, r29, h1, h2, g, w64]
theorem whole_ok (c k : Int) (h : numIs c k = true) (hp : List Ent) : F tab 31 [.d (numD c k)] hp = some (.ret (.tup [.d (iv (if k = 0 then c else 0)), .d (.bool (k == 0))]) hp) := by
  have h1 := numIs_ok c k
  rw [h] at h1
  refine f31 rfl ?_
  by_cases g : k = 0
  · subst g
    have n0 : ((0 : Int) != 0) = false := rfl
    have z0 : ((0 : Int) == 0) = true := rfl
    simp (disch := omega) only [go_sem, and_self, and_true, true_and, false_and, and_false, Nat.reduceAdd, Nat.reduceMul, Nat.reduceSub, Nat.reduceLeDiff, Nat.reduceLT, Nat.reduceGT, Nat.reduceEqDiff, Nat.reduceBEq, Int.reduceNeg, Int.reduceEq, Int.reduceLT, Int.reduceLE, Int.reduceBEq, Int.reduceToNat, Int.toNat_natCast, Int.natCast_zero, r31_T, r31, h1, n0, z0]
  · have n0 : (k != 0) = true := by simp [g]
    have z0 : (k == 0) = false := by simp [g]
    simp (disch := omega) only [go_sem, and_self, and_true, true_and, false_and, and_false, Nat.reduceAdd, Nat.reduceMul, Nat.reduceSub, Nat.reduceLeDiff, Nat.reduceLT, Nat.reduceGT, Nat.reduceEqDiff, Nat.reduceBEq, Int.reduceNeg, Int.reduceEq, Int.reduceLT, Int.reduceLE, Int.reduceBEq, Int.reduceToNat, Int.toNat_natCast, Int.natCast_zero, r31_T, r31, h1, n0, z0, g]

/-! ### NumDivides -/
def ndC4 : RCode := r6_K4 ()
theorem nd_hK4 {s : St} : V (F tab) (hold r6_K4) s = V (F tab) ndC4 s := rfl

set_option maxHeartbeats 4000000 in
theorem nd_tail (c : Int) (k : Nat) (h : numIs c k = true) (hp : List Ent) (a0 a1 a3 a5 a6 a7 a8 a9 a10 a16 a17 a18 a19 a20 a21 a22 a23 a24 a25 a26 a27 a28 a29 a30 a31 a32 a33 a34 a35 a36 a37 a38 a39 a40 a41 a42 a43 a44 a45 a46 a47 a48 a49 a50 a51 a52 a53 a54 a55 a56 a57 a58 a59 a60 a61 a62 a63 a64 a65 a66 a67 a68 a69 a70 a71 a72 a73 a74 a75 a76 a77 a78 a79 a80 a81 a82 a83 a84 : PV) :
    fnEnd r6 hp (V (F tab) ndC4 ⟨[a0, a1, .ibox [.d (iv c), .d (iv k)], a3, .d (.bool false), a5, a6, a7, a8, a9, a10, .ibox [.d (iv (flW c k)), .d (iv 0)], .dead, .dead, .dead, .dead, a16, a17, a18, a19, a20, a21, a22, a23, a24, a25, a26, a27, a28, a29, a30, a31, a32, a33, a34, a35, a36, a37, a38, a39, a40, a41, a42, a43, a44, a45, a46, a47, a48, a49, a50, a51, a52, a53, a54, a55, a56, a57, a58, a59, a60, a61, a62, a63, a64, a65, a66, a67, a68, a69, a70, a71, a72, a73, a74, a75, a76, a77, a78, a79, a80, a81, a82, a83, a84, .dead, .dead, .dead, .dead, .dead, .dead, .dead, .dead, .dead, .dead, .dead, .dead, .dead, .dead, .dead, .dead, .dead, .dead, .dead, .dead, .dead, .dead, .dead, .dead, .dead, .dead, .dead, .dead, .dead, .dead, .dead, .dead, .dead, .dead, .dead, .dead, .dead, .dead, .dead, .dead, .dead, .dead, .dead, .dead, .dead, .dead, .dead], []⟩) = some (.ret (.d (.bool true)) hp) := by
  obtain ⟨_, e0, hk, hc⟩ := numIs_inv h
  have e0 := Int.ofNat.inj e0
  subst e0
  have hL := lives4_ok
  obtain ⟨f1, f2, f3, f4⟩ := flW_spec hk hc
  have hw := whole_ok c k h
  have hs := sub4_ok c (flW c k) k 0 hk (by omega) hc ⟨f1, f2⟩
  have n0 : ((0 : Int) != 0) = false := rfl
  have n8 : ((8 : Int) != 0) = true := rfl
  have z00 : ((0 : Nat) : Int) = 0 := rfl
  have bb : ∀ u : Bool, (u == u) = true := fun u => by simp
  have cc : (c != c) = false := by simp
  have e9 : flatN (flatN c k - flatN (flW c k) 0) 9 = flatN c k - flatN (flW c k) 0 := by simp [flatN]
  rcases Bool.eq_false_or_eq_true (makeOk (flatN c k - flatN (flW c k) 0) 9) with g | g
  · rw [made_yes g] at hs
    obtain ⟨_, e1, hk1, hc1⟩ := numIs_inv (show numIs (stripN (flatN c k - flatN (flW c k) 0) 9).1 (stripN (flatN c k - flatN (flW c k) 0) 9).2 = true from g)
    have e1 := Int.ofNat.inj e1
    subst e1
    have c1 := cmp4_ok _ 0 _ 0 hk1 (by omega) hc1 (by omega)
    have c2 := cmp4_ok _ 1 _ 0 hk1 (by omega) hc1 (by omega)
    rw [make_flat (Nat.le_refl 9), e9] at c1 c2
    have t0 : flatN 0 0 = 0 := by simp [flatN]
    have t1 : flatN 1 0 = 1000000000 := by simp [flatN]
    rw [t0] at c1
    rw [t1] at c2
    have g1 : (sgn (flatN c k - flatN (flW c k) 0) 0 ≥ 0) = True := eq_true (by unfold sgn; split <;> (try split) <;> omega)
    have g2 : (sgn (flatN c k - flatN (flW c k) 0) 1000000000 < 0) = True := eq_true (by unfold sgn; rw [if_pos f4]; omega)
    simp only [z00, numD] at c1 c2
    by_cases hk0 : k = 0
    · subst hk0
      simp only [numD, z00, if_true] at hw hs
      have z0 : ((0 : Int) == 0) = true := rfl
      simp (maxSteps := 4000000) (disch := omega) only [go_sem, and_self, and_true, true_and, false_and, and_false, Nat.reduceAdd, Nat.reduceMul, Nat.reduceSub, Nat.reduceLeDiff, Nat.reduceLT, Nat.reduceGT, Nat.reduceEqDiff, Nat.reduceBEq, Int.reduceNeg, Int.reduceEq, Int.reduceLT, Int.reduceLE, Int.reduceBEq, Int.reduceToNat, Int.toNat_natCast, Int.natCast_zero, ndC4, r6_K4, r6, hs, hw, c1, c2, g1, g2, n0, z0, bb, cc, hL, z00]
    · have k1 : ((k : Int) = 0) = False := eq_false (by omega)
      have k2 : ((k : Int) == 0) = false := by simp; omega
      simp only [k1, k2, if_false] at hw
      simp only [numD, z00] at hs hw
      simp (maxSteps := 4000000) (disch := omega) only [go_sem, and_self, and_true, true_and, false_and, and_false, Nat.reduceAdd, Nat.reduceMul, Nat.reduceSub, Nat.reduceLeDiff, Nat.reduceLT, Nat.reduceGT, Nat.reduceEqDiff, Nat.reduceBEq, Int.reduceNeg, Int.reduceEq, Int.reduceLT, Int.reduceLE, Int.reduceBEq, Int.reduceToNat, Int.toNat_natCast, Int.natCast_zero, ndC4, r6_K4, r6, hs, hw, c1, c2, g1, g2, n0, k2, bb, cc, hL]
  · rw [made_no g] at hs
    by_cases hk0 : k = 0
    · subst hk0
      simp only [numD, z00, if_true] at hw hs
      have z0 : ((0 : Int) == 0) = true := rfl
      simp (maxSteps := 4000000) (disch := omega) only [go_sem, and_self, and_true, true_and, false_and, and_false, Nat.reduceAdd, Nat.reduceMul, Nat.reduceSub, Nat.reduceLeDiff, Nat.reduceLT, Nat.reduceGT, Nat.reduceEqDiff, Nat.reduceBEq, Int.reduceNeg, Int.reduceEq, Int.reduceLT, Int.reduceLE, Int.reduceBEq, Int.reduceToNat, Int.toNat_natCast, Int.natCast_zero, ndC4, r6_K4, r6, hs, hw, n0, n8, z0, bb, cc, hL, z00]
    · have k1 : ((k : Int) = 0) = False := eq_false (by omega)
      have k2 : ((k : Int) == 0) = false := by simp; omega
      simp only [k1, k2, if_false] at hw
      simp only [numD, z00] at hs hw
      simp (maxSteps := 4000000) (disch := omega) only [go_sem, and_self, and_true, true_and, false_and, and_false, Nat.reduceAdd, Nat.reduceMul, Nat.reduceSub, Nat.reduceLeDiff, Nat.reduceLT, Nat.reduceGT, Nat.reduceEqDiff, Nat.reduceBEq, Int.reduceNeg, Int.reduceEq, Int.reduceLT, Int.reduceLE, Int.reduceBEq, Int.reduceToNat, Int.toNat_natCast, Int.natCast_zero, ndC4, r6_K4, r6, hs, hw, n0, n8, k2, bb, cc, hL]
end Go.Pe.T

namespace Go.Pe.T
theorem div_zero (c s s' : Int) (h : numIs c s = true) (h' : numIs 0 s' = true) (hp : List Ent) : F tab 26 [.d (numD c s), .d (numD 0 s')] hp = some (.ret (.tup [.d (.agg [iv 0, iv 0]), .d (iv 8)]) hp) := by
  have hb := both_ok c s 0 s'
  rw [h, h'] at hb
  have z : ((0 : Int) == 0) = true := rfl
  refine f26 rfl ?_
  simp (disch := omega) only [go_sem, and_self, and_true, true_and, false_and, and_false, Nat.reduceAdd, Nat.reduceMul, Nat.reduceSub, Nat.reduceLeDiff, Nat.reduceLT, Nat.reduceGT, Nat.reduceEqDiff, Nat.reduceBEq, Int.reduceNeg, Int.reduceEq, Int.reduceLT, Int.reduceLE, Int.reduceBEq, Int.reduceToNat, Int.toNat_natCast, Int.natCast_zero, r26_T, r26, hb, z]
theorem div4_zero (c s s' : Int) (hp : List Ent) : F tab 27 [.d (numD c s), .d (numD 0 s')] hp = some (.ret (.tup [.d (.agg [iv 0, iv 0]), .d (iv 8)]) hp) := by
  have z : ((0 : Int) == 0) = true := rfl
  refine f27 rfl ?_
  simp (disch := omega) only [go_sem, and_self, and_true, true_and, false_and, and_false, Nat.reduceAdd, Nat.reduceMul, Nat.reduceSub, Nat.reduceLeDiff, Nat.reduceLT, Nat.reduceGT, Nat.reduceEqDiff, Nat.reduceBEq, Int.reduceNeg, Int.reduceEq, Int.reduceLT, Int.reduceLE, Int.reduceBEq, Int.reduceToNat, Int.toNat_natCast, Int.natCast_zero, r27_T, r27, z]

/-- both quotients are the one number -/
theorem div_both (c c' : Int) (k k' : Nat) (h : numIs c k = true) (h' : numIs c' k' = true) : ∃ x y b, (∀ hp, F tab 26 [.d (numD c k), .d (numD c' k')] hp = some (.ret (.tup [.d (.agg [iv x, iv y]), .d (iv b)]) hp)) ∧
    ∀ hp, F tab 27 [.d (numD c k), .d (numD c' k')] hp = some (.ret (.tup [.d (.agg [iv x, iv y]), .d (iv b)]) hp) := by
  obtain ⟨_, e0, hk, hc⟩ := numIs_inv h
  obtain ⟨_, e1, hk', hc'⟩ := numIs_inv h'
  have e0 := Int.ofNat.inj e0
  have e1 := Int.ofNat.inj e1
  subst e0; subst e1
  by_cases h0 : c' = 0
  · subst h0
    exact ⟨0, 0, 8, div_zero c k k' h h', div4_zero c k k'⟩
  · obtain ⟨T, t1, t2⟩ := div_ok c c' k k' h h' h0
    have t3 := div4_ok c c' k k' hk hk' hc hc' h0
    have e := qspec_one h0 (divT_spec c c' k k' hk hk' h0) t2
    rw [e] at t3
    have hs : ∃ x y b, T = .tup [.d (.agg [iv x, iv y]), .d (iv b)] := by
      rcases t2 with ⟨z, s, rfl, _, _⟩ | ⟨rfl, _⟩
      · exact ⟨_, _, _, rfl⟩
      · exact ⟨_, _, _, rfl⟩
    obtain ⟨x, y, b, rfl⟩ := hs
    exact ⟨x, y, b, t1, t3⟩

set_option maxHeartbeats 4000000 in
theorem NumDivides_ok (a k b l : Int) (oa : i64 a ∧ i64 k) (ob : i64 b ∧ i64 l) (hp : List Ent) : F tab 6 [.d (numD a k), .d (numD b l)] hp = some (.ret (.d (.bool true)) hp) := by
  have i1 := num4Is_ok a k
  have i2 := num4Is_ok b l
  have hL := lives4_ok
  have q1 : ∀ u : Int, (u == u) = true := fun u => by simp
  have q2 : ∀ u : Int, (u != u) = false := fun u => by simp
  have z1 : ((1 : Int) == 1) = true := rfl
  have z0 : ((0 : Int) == 0) = true := rfl
  have n0 : ((0 : Int) != 0) = false := rfl
  refine f6 rfl ?_
  rcases Bool.eq_false_or_eq_true (numIs a k) with ha | ha
  · rcases Bool.eq_false_or_eq_true (numIs b l) with hb | hb
    · rw [ha] at i1; rw [hb] at i2
      obtain ⟨k', rfl, hk, hc⟩ := numIs_inv ha
      obtain ⟨l', rfl, hk', hc'⟩ := numIs_inv hb
      obtain ⟨x, y, e, d1, d2⟩ := div_both a b k' l' ha hb
      have hf := floor_ok a k' ha
      by_cases hk0 : k' = 0
      · by_cases hl0 : l' = 0
        · subst hk0; subst hl0
          have z00 : ((0 : Nat) : Int) = 0 := rfl
          by_cases hb0 : b = 0
          · subst hb0
            have hm := mod_err a 0 0 0 ha hb (.inr (.inr rfl))
            simp only [numD, z00] at i1 i2 d1 d2 hf hm
            simp (maxSteps := 4000000) (disch := omega) only [go_sem, and_self, and_true, true_and, false_and, and_false, Nat.reduceAdd, Nat.reduceMul, Nat.reduceSub, Nat.reduceLeDiff, Nat.reduceLT, Nat.reduceGT, Nat.reduceEqDiff, Nat.reduceBEq, Int.reduceNeg, Int.reduceEq, Int.reduceLT, Int.reduceLE, Int.reduceBEq, Int.reduceToNat, Int.toNat_natCast, Int.natCast_zero, ↓nd_hK4, r6_T, r6, numD, i1, i2, d1, d2, hf, hm, q1, q2, z0, n0, eqD_num, z00]
            exact nd_tail a 0 ha hp _ _ _ _ _ _ _ _ _ _ _ _ _ _ _ _ _ _ _ _ _ _ _ _ _ _ _ _ _ _ _ _ _ _ _ _ _ _ _ _ _ _ _ _ _ _ _ _ _ _ _ _ _ _ _ _ _ _ _ _ _ _ _ _ _ _ _ _ _ _ _ _ _ _ _ _ _ _
          · have hm := mod_yes a b ha hb hc' hb0
            have b0 : (b == 0) = false := by simpa using hb0
            have b1 : (b = 0) = False := eq_false hb0
            simp only [numD, z00] at i1 i2 d1 d2 hf hm
            simp (maxSteps := 4000000) (disch := omega) only [go_sem, and_self, and_true, true_and, false_and, and_false, Nat.reduceAdd, Nat.reduceMul, Nat.reduceSub, Nat.reduceLeDiff, Nat.reduceLT, Nat.reduceGT, Nat.reduceEqDiff, Nat.reduceBEq, Int.reduceNeg, Int.reduceEq, Int.reduceLT, Int.reduceLE, Int.reduceBEq, Int.reduceToNat, Int.toNat_natCast, Int.natCast_zero, ↓nd_hK4, r6_T, r6, numD, i1, i2, d1, d2, hf, hm, q1, q2, z0, n0, b0, b1, eqD_num, z00]
            exact nd_tail a 0 ha hp _ _ _ _ _ _ _ _ _ _ _ _ _ _ _ _ _ _ _ _ _ _ _ _ _ _ _ _ _ _ _ _ _ _ _ _ _ _ _ _ _ _ _ _ _ _ _ _ _ _ _ _ _ _ _ _ _ _ _ _ _ _ _ _ _ _ _ _ _ _ _ _ _ _ _ _ _ _
        · have l0 : ((l' : Int) != 0) = true := by simp; omega
          subst hk0
          have z00 : ((0 : Nat) : Int) = 0 := rfl
          have hm := mod_err a 0 b l' ha hb (.inr (.inl (by omega)))
          simp only [numD, z00] at i1 i2 d1 d2 hf hm
          simp (maxSteps := 4000000) (disch := omega) only [go_sem, and_self, and_true, true_and, false_and, and_false, Nat.reduceAdd, Nat.reduceMul, Nat.reduceSub, Nat.reduceLeDiff, Nat.reduceLT, Nat.reduceGT, Nat.reduceEqDiff, Nat.reduceBEq, Int.reduceNeg, Int.reduceEq, Int.reduceLT, Int.reduceLE, Int.reduceBEq, Int.reduceToNat, Int.toNat_natCast, Int.natCast_zero, ↓nd_hK4, r6_T, r6, numD, i1, i2, d1, d2, hf, hm, q1, q2, z0, n0, l0, eqD_num, z00]
          exact nd_tail a 0 ha hp _ _ _ _ _ _ _ _ _ _ _ _ _ _ _ _ _ _ _ _ _ _ _ _ _ _ _ _ _ _ _ _ _ _ _ _ _ _ _ _ _ _ _ _ _ _ _ _ _ _ _ _ _ _ _ _ _ _ _ _ _ _ _ _ _ _ _ _ _ _ _ _ _ _ _ _ _ _
      · have k0 : ((k' : Int) != 0) = true := by simp; omega
        have hm := mod_err a k' b l' ha hb (.inl (by omega))
        simp only [numD] at i1 i2 d1 d2 hf hm
        simp (maxSteps := 4000000) (disch := omega) only [go_sem, and_self, and_true, true_and, false_and, and_false, Nat.reduceAdd, Nat.reduceMul, Nat.reduceSub, Nat.reduceLeDiff, Nat.reduceLT, Nat.reduceGT, Nat.reduceEqDiff, Nat.reduceBEq, Int.reduceNeg, Int.reduceEq, Int.reduceLT, Int.reduceLE, Int.reduceBEq, Int.reduceToNat, Int.toNat_natCast, Int.natCast_zero, ↓nd_hK4, r6_T, r6, numD, i1, i2, d1, d2, hf, hm, q1, q2, z0, n0, k0, eqD_num]
        exact nd_tail a k' ha hp _ _ _ _ _ _ _ _ _ _ _ _ _ _ _ _ _ _ _ _ _ _ _ _ _ _ _ _ _ _ _ _ _ _ _ _ _ _ _ _ _ _ _ _ _ _ _ _ _ _ _ _ _ _ _ _ _ _ _ _ _ _ _ _ _ _ _ _ _ _ _ _ _ _ _ _ _ _
    · rw [ha] at i1; rw [hb] at i2
      simp (maxSteps := 4000000) (disch := omega) only [go_sem, and_self, and_true, true_and, false_and, and_false, Nat.reduceAdd, Nat.reduceMul, Nat.reduceSub, Nat.reduceLeDiff, Nat.reduceLT, Nat.reduceGT, Nat.reduceEqDiff, Nat.reduceBEq, Int.reduceNeg, Int.reduceEq, Int.reduceLT, Int.reduceLE, Int.reduceBEq, Int.reduceToNat, Int.toNat_natCast, Int.natCast_zero, r6_T, r6, numD, i1, i2, hL]
  · rw [ha] at i1
    simp (maxSteps := 4000000) (disch := omega) only [go_sem, and_self, and_true, true_and, false_and, and_false, Nat.reduceAdd, Nat.reduceMul, Nat.reduceSub, Nat.reduceLeDiff, Nat.reduceLT, Nat.reduceGT, Nat.reduceEqDiff, Nat.reduceBEq, Int.reduceNeg, Int.reduceEq, Int.reduceLT, Int.reduceLE, Int.reduceBEq, Int.reduceToNat, Int.toNat_natCast, Int.natCast_zero, r6_T, r6, numD, i1, hL]
end Go.Pe.T
