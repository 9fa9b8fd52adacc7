/- A part of the proof of: Which of two nodes comes first, without labels, or that there is no answer, is the document's; and whether one is true (OpsCompares, of arguments that are not too large for any machine, the second form); no condition beyond the statement's own. -/
import Derived.Test.YtacelfbplhapiaaGreatOc3
import Derived.Test.YtacelfbplhapiaaGreatOc2
import Derived.Test.YtacelfbplhapiaaGreatPe3
set_option linter.unusedSimpArgs false
set_option linter.unusedVariables false
set_option maxRecDepth 10000
set_option maxRecDepth 100000

namespace Go.Pe.T
theorem isE (s : ByteArray) : (s.toList == (⟨#[]⟩ : ByteArray).toList) = !decide (s.size ≠ 0) := by
  rw [bs_toList, bs_toList]
  by_cases h : s.size = 0
  · have : bs s = [] := List.eq_nil_of_length_eq_zero (by rw [bs_len]; exact h)
    rw [this]
    simp [h, bs]
  · have : bs s ≠ [] := fun e => h (by rw [← bs_len, e]; rfl)
    rw [beq_eq_false_iff_ne.2 (by simpa [bs] using this)]
    simp [h]
def ZeroEx (k c s : Int) (t : ByteArray) (xs ks : List D) : Prop :=
  ∃ b, (∀ hp, F tab 130 [.d (.agg [iv k, iv c, iv s, .str t, .sl xs, .sl ks])] hp = some (.ret (.d (.bool b)) hp)) ∧ (b = true → k = 0 → c = 0 ∧ s = 0 ∧ t.size = 0 ∧ xs.length = 0 ∧ ks.length = 0)

theorem z_k3_t (k c s : Int) (t : ByteArray) (xs ks : List D) (h0 : k = 3) (h1 : t.size ≠ 0) : ZeroEx k c s t xs ks := by
  have f0 : (k != 3) = false := by rw [bne_eq_false_iff_eq]; omega
  have f1 : (k != 4) = true := by rw [bne_iff_ne]; omega
  have f2 : (k != 7) = true := by rw [bne_iff_ne]; omega
  have f3 : (k == 5) = false := by rw [beq_eq_false_iff_ne]; omega
  have f4 : (k == 6) = false := by rw [beq_eq_false_iff_ne]; omega
  have f5 : decide (t.size ≠ 0) = true := by exact decide_eq_true (by omega)
  refine ⟨false, fun hp => f130 rfl ?_, fun h => absurd h (by simp)⟩
  simp (disch := omega) only [go_sem, strD, isE, Bool.not_not, r130_T, r130, f0, f1, f2, f3, f4, f5]
theorem z_k3_a (k c s : Int) (t : ByteArray) (xs ks : List D) (h0 : k = 3) (h1 : t.size = 0) (h2 : xs.length = 0) (h3 : ks.length = 0) : ZeroEx k c s t xs ks := by
  have f0 : (k != 3) = false := by rw [bne_eq_false_iff_eq]; omega
  have f1 : (k != 4) = true := by rw [bne_iff_ne]; omega
  have f2 : (k != 7) = true := by rw [bne_iff_ne]; omega
  have f3 : (k == 5) = false := by rw [beq_eq_false_iff_ne]; omega
  have f4 : (k == 6) = false := by rw [beq_eq_false_iff_ne]; omega
  have f5 : decide (t.size ≠ 0) = false := by exact decide_eq_false (by omega)
  have f6 : ((xs.length : Int) == 0) = true := by rw [beq_iff_eq]; omega
  have f7 : ((ks.length : Int) == 0) = true := by rw [beq_iff_eq]; omega
  refine ⟨true, fun hp => f130 rfl ?_, fun _ hk => by omega⟩
  simp (disch := omega) only [go_sem, strD, isE, Bool.not_not, r130_T, r130, f0, f1, f2, f3, f4, f5, f6, f7]
theorem z_k3_b (k c s : Int) (t : ByteArray) (xs ks : List D) (h0 : k = 3) (h1 : t.size = 0) (h2 : xs.length = 0) (h3 : ks.length ≠ 0) : ZeroEx k c s t xs ks := by
  have f0 : (k != 3) = false := by rw [bne_eq_false_iff_eq]; omega
  have f1 : (k != 4) = true := by rw [bne_iff_ne]; omega
  have f2 : (k != 7) = true := by rw [bne_iff_ne]; omega
  have f3 : (k == 5) = false := by rw [beq_eq_false_iff_ne]; omega
  have f4 : (k == 6) = false := by rw [beq_eq_false_iff_ne]; omega
  have f5 : decide (t.size ≠ 0) = false := by exact decide_eq_false (by omega)
  have f6 : ((xs.length : Int) == 0) = true := by rw [beq_iff_eq]; omega
  have f7 : ((ks.length : Int) == 0) = false := by rw [beq_eq_false_iff_ne]; omega
  refine ⟨false, fun hp => f130 rfl ?_, fun h => absurd h (by simp)⟩
  simp (disch := omega) only [go_sem, strD, isE, Bool.not_not, r130_T, r130, f0, f1, f2, f3, f4, f5, f6, f7]
theorem z_k3_c (k c s : Int) (t : ByteArray) (xs ks : List D) (h0 : k = 3) (h1 : t.size = 0) (h2 : xs.length ≠ 0) : ZeroEx k c s t xs ks := by
  have f0 : (k != 3) = false := by rw [bne_eq_false_iff_eq]; omega
  have f1 : (k != 4) = true := by rw [bne_iff_ne]; omega
  have f2 : (k != 7) = true := by rw [bne_iff_ne]; omega
  have f3 : (k == 5) = false := by rw [beq_eq_false_iff_ne]; omega
  have f4 : (k == 6) = false := by rw [beq_eq_false_iff_ne]; omega
  have f5 : decide (t.size ≠ 0) = false := by exact decide_eq_false (by omega)
  have f6 : ((xs.length : Int) == 0) = false := by rw [beq_eq_false_iff_ne]; omega
  refine ⟨false, fun hp => f130 rfl ?_, fun h => absurd h (by simp)⟩
  simp (disch := omega) only [go_sem, strD, isE, Bool.not_not, r130_T, r130, f0, f1, f2, f3, f4, f5, f6]
theorem z_k4_cc (k c s : Int) (t : ByteArray) (xs ks : List D) (h0 : k = 4) (h1 : c ≠ 0) : ZeroEx k c s t xs ks := by
  have f0 : (k != 3) = true := by rw [bne_iff_ne]; omega
  have f1 : (k != 4) = false := by rw [bne_eq_false_iff_eq]; omega
  have f2 : (k != 7) = true := by rw [bne_iff_ne]; omega
  have f3 : (k == 5) = false := by rw [beq_eq_false_iff_ne]; omega
  have f4 : (k == 6) = false := by rw [beq_eq_false_iff_ne]; omega
  have f5 : (c != 0) = true := by rw [bne_iff_ne]; omega
  refine ⟨false, fun hp => f130 rfl ?_, fun h => absurd h (by simp)⟩
  simp (disch := omega) only [go_sem, strD, isE, Bool.not_not, r130_T, r130, f0, f1, f2, f3, f4, f5]
theorem z_k4_s (k c s : Int) (t : ByteArray) (xs ks : List D) (h0 : k = 4) (h1 : c = 0) (h2 : s ≠ 0) : ZeroEx k c s t xs ks := by
  have f0 : (k != 3) = true := by rw [bne_iff_ne]; omega
  have f1 : (k != 4) = false := by rw [bne_eq_false_iff_eq]; omega
  have f2 : (k != 7) = true := by rw [bne_iff_ne]; omega
  have f3 : (k == 5) = false := by rw [beq_eq_false_iff_ne]; omega
  have f4 : (k == 6) = false := by rw [beq_eq_false_iff_ne]; omega
  have f5 : (c != 0) = false := by rw [bne_eq_false_iff_eq]; omega
  have f6 : (s != 0) = true := by rw [bne_iff_ne]; omega
  refine ⟨false, fun hp => f130 rfl ?_, fun h => absurd h (by simp)⟩
  simp (disch := omega) only [go_sem, strD, isE, Bool.not_not, r130_T, r130, f0, f1, f2, f3, f4, f5, f6]
theorem z_k4_a (k c s : Int) (t : ByteArray) (xs ks : List D) (h0 : k = 4) (h1 : c = 0) (h2 : s = 0) (h3 : xs.length = 0) (h4 : ks.length = 0) : ZeroEx k c s t xs ks := by
  have f0 : (k != 3) = true := by rw [bne_iff_ne]; omega
  have f1 : (k != 4) = false := by rw [bne_eq_false_iff_eq]; omega
  have f2 : (k != 7) = true := by rw [bne_iff_ne]; omega
  have f3 : (k == 5) = false := by rw [beq_eq_false_iff_ne]; omega
  have f4 : (k == 6) = false := by rw [beq_eq_false_iff_ne]; omega
  have f5 : (c != 0) = false := by rw [bne_eq_false_iff_eq]; omega
  have f6 : (s != 0) = false := by rw [bne_eq_false_iff_eq]; omega
  have f7 : ((xs.length : Int) == 0) = true := by rw [beq_iff_eq]; omega
  have f8 : ((ks.length : Int) == 0) = true := by rw [beq_iff_eq]; omega
  refine ⟨true, fun hp => f130 rfl ?_, fun _ hk => by omega⟩
  simp (disch := omega) only [go_sem, strD, isE, Bool.not_not, r130_T, r130, f0, f1, f2, f3, f4, f5, f6, f7, f8]
theorem z_k4_b (k c s : Int) (t : ByteArray) (xs ks : List D) (h0 : k = 4) (h1 : c = 0) (h2 : s = 0) (h3 : xs.length = 0) (h4 : ks.length ≠ 0) : ZeroEx k c s t xs ks := by
  have f0 : (k != 3) = true := by rw [bne_iff_ne]; omega
  have f1 : (k != 4) = false := by rw [bne_eq_false_iff_eq]; omega
  have f2 : (k != 7) = true := by rw [bne_iff_ne]; omega
  have f3 : (k == 5) = false := by rw [beq_eq_false_iff_ne]; omega
  have f4 : (k == 6) = false := by rw [beq_eq_false_iff_ne]; omega
  have f5 : (c != 0) = false := by rw [bne_eq_false_iff_eq]; omega
  have f6 : (s != 0) = false := by rw [bne_eq_false_iff_eq]; omega
  have f7 : ((xs.length : Int) == 0) = true := by rw [beq_iff_eq]; omega
  have f8 : ((ks.length : Int) == 0) = false := by rw [beq_eq_false_iff_ne]; omega
  refine ⟨false, fun hp => f130 rfl ?_, fun h => absurd h (by simp)⟩
  simp (disch := omega) only [go_sem, strD, isE, Bool.not_not, r130_T, r130, f0, f1, f2, f3, f4, f5, f6, f7, f8]
theorem z_k4_c (k c s : Int) (t : ByteArray) (xs ks : List D) (h0 : k = 4) (h1 : c = 0) (h2 : s = 0) (h3 : xs.length ≠ 0) : ZeroEx k c s t xs ks := by
  have f0 : (k != 3) = true := by rw [bne_iff_ne]; omega
  have f1 : (k != 4) = false := by rw [bne_eq_false_iff_eq]; omega
  have f2 : (k != 7) = true := by rw [bne_iff_ne]; omega
  have f3 : (k == 5) = false := by rw [beq_eq_false_iff_ne]; omega
  have f4 : (k == 6) = false := by rw [beq_eq_false_iff_ne]; omega
  have f5 : (c != 0) = false := by rw [bne_eq_false_iff_eq]; omega
  have f6 : (s != 0) = false := by rw [bne_eq_false_iff_eq]; omega
  have f7 : ((xs.length : Int) == 0) = false := by rw [beq_eq_false_iff_ne]; omega
  refine ⟨false, fun hp => f130 rfl ?_, fun h => absurd h (by simp)⟩
  simp (disch := omega) only [go_sem, strD, isE, Bool.not_not, r130_T, r130, f0, f1, f2, f3, f4, f5, f6, f7]
theorem z_k7_cc (k c s : Int) (t : ByteArray) (xs ks : List D) (h0 : k = 7) (h1 : c ≠ 0) : ZeroEx k c s t xs ks := by
  have f0 : (k != 3) = true := by rw [bne_iff_ne]; omega
  have f1 : (k != 4) = true := by rw [bne_iff_ne]; omega
  have f2 : (k != 7) = false := by rw [bne_eq_false_iff_eq]; omega
  have f3 : (k == 5) = false := by rw [beq_eq_false_iff_ne]; omega
  have f4 : (k == 6) = false := by rw [beq_eq_false_iff_ne]; omega
  have f5 : (c != 0) = true := by rw [bne_iff_ne]; omega
  refine ⟨false, fun hp => f130 rfl ?_, fun h => absurd h (by simp)⟩
  simp (disch := omega) only [go_sem, strD, isE, Bool.not_not, r130_T, r130, f0, f1, f2, f3, f4, f5]
theorem z_k7_s (k c s : Int) (t : ByteArray) (xs ks : List D) (h0 : k = 7) (h1 : c = 0) (h2 : s ≠ 0) : ZeroEx k c s t xs ks := by
  have f0 : (k != 3) = true := by rw [bne_iff_ne]; omega
  have f1 : (k != 4) = true := by rw [bne_iff_ne]; omega
  have f2 : (k != 7) = false := by rw [bne_eq_false_iff_eq]; omega
  have f3 : (k == 5) = false := by rw [beq_eq_false_iff_ne]; omega
  have f4 : (k == 6) = false := by rw [beq_eq_false_iff_ne]; omega
  have f5 : (c != 0) = false := by rw [bne_eq_false_iff_eq]; omega
  have f6 : (s != 0) = true := by rw [bne_iff_ne]; omega
  refine ⟨false, fun hp => f130 rfl ?_, fun h => absurd h (by simp)⟩
  simp (disch := omega) only [go_sem, strD, isE, Bool.not_not, r130_T, r130, f0, f1, f2, f3, f4, f5, f6]
theorem z_k7_a (k c s : Int) (t : ByteArray) (xs ks : List D) (h0 : k = 7) (h1 : c = 0) (h2 : s = 0) (h3 : xs.length = 0) (h4 : ks.length = 0) : ZeroEx k c s t xs ks := by
  have f0 : (k != 3) = true := by rw [bne_iff_ne]; omega
  have f1 : (k != 4) = true := by rw [bne_iff_ne]; omega
  have f2 : (k != 7) = false := by rw [bne_eq_false_iff_eq]; omega
  have f3 : (k == 5) = false := by rw [beq_eq_false_iff_ne]; omega
  have f4 : (k == 6) = false := by rw [beq_eq_false_iff_ne]; omega
  have f5 : (c != 0) = false := by rw [bne_eq_false_iff_eq]; omega
  have f6 : (s != 0) = false := by rw [bne_eq_false_iff_eq]; omega
  have f7 : ((xs.length : Int) == 0) = true := by rw [beq_iff_eq]; omega
  have f8 : ((ks.length : Int) == 0) = true := by rw [beq_iff_eq]; omega
  refine ⟨true, fun hp => f130 rfl ?_, fun _ hk => by omega⟩
  simp (disch := omega) only [go_sem, strD, isE, Bool.not_not, r130_T, r130, f0, f1, f2, f3, f4, f5, f6, f7, f8]
theorem z_k7_b (k c s : Int) (t : ByteArray) (xs ks : List D) (h0 : k = 7) (h1 : c = 0) (h2 : s = 0) (h3 : xs.length = 0) (h4 : ks.length ≠ 0) : ZeroEx k c s t xs ks := by
  have f0 : (k != 3) = true := by rw [bne_iff_ne]; omega
  have f1 : (k != 4) = true := by rw [bne_iff_ne]; omega
  have f2 : (k != 7) = false := by rw [bne_eq_false_iff_eq]; omega
  have f3 : (k == 5) = false := by rw [beq_eq_false_iff_ne]; omega
  have f4 : (k == 6) = false := by rw [beq_eq_false_iff_ne]; omega
  have f5 : (c != 0) = false := by rw [bne_eq_false_iff_eq]; omega
  have f6 : (s != 0) = false := by rw [bne_eq_false_iff_eq]; omega
  have f7 : ((xs.length : Int) == 0) = true := by rw [beq_iff_eq]; omega
  have f8 : ((ks.length : Int) == 0) = false := by rw [beq_eq_false_iff_ne]; omega
  refine ⟨false, fun hp => f130 rfl ?_, fun h => absurd h (by simp)⟩
  simp (disch := omega) only [go_sem, strD, isE, Bool.not_not, r130_T, r130, f0, f1, f2, f3, f4, f5, f6, f7, f8]
theorem z_k7_c (k c s : Int) (t : ByteArray) (xs ks : List D) (h0 : k = 7) (h1 : c = 0) (h2 : s = 0) (h3 : xs.length ≠ 0) : ZeroEx k c s t xs ks := by
  have f0 : (k != 3) = true := by rw [bne_iff_ne]; omega
  have f1 : (k != 4) = true := by rw [bne_iff_ne]; omega
  have f2 : (k != 7) = false := by rw [bne_eq_false_iff_eq]; omega
  have f3 : (k == 5) = false := by rw [beq_eq_false_iff_ne]; omega
  have f4 : (k == 6) = false := by rw [beq_eq_false_iff_ne]; omega
  have f5 : (c != 0) = false := by rw [bne_eq_false_iff_eq]; omega
  have f6 : (s != 0) = false := by rw [bne_eq_false_iff_eq]; omega
  have f7 : ((xs.length : Int) == 0) = false := by rw [beq_eq_false_iff_ne]; omega
  refine ⟨false, fun hp => f130 rfl ?_, fun h => absurd h (by simp)⟩
  simp (disch := omega) only [go_sem, strD, isE, Bool.not_not, r130_T, r130, f0, f1, f2, f3, f4, f5, f6, f7]
theorem z_k5_cc (k c s : Int) (t : ByteArray) (xs ks : List D) (h0 : k = 5) (h1 : c ≠ 0) : ZeroEx k c s t xs ks := by
  have f0 : (k != 3) = true := by rw [bne_iff_ne]; omega
  have f1 : (k != 4) = true := by rw [bne_iff_ne]; omega
  have f2 : (k != 7) = true := by rw [bne_iff_ne]; omega
  have f3 : (k == 5) = true := by rw [beq_iff_eq]; omega
  have f4 : (k == 6) = false := by rw [beq_eq_false_iff_ne]; omega
  have f5 : (c != 0) = true := by rw [bne_iff_ne]; omega
  refine ⟨false, fun hp => f130 rfl ?_, fun h => absurd h (by simp)⟩
  simp (disch := omega) only [go_sem, strD, isE, Bool.not_not, r130_T, r130, f0, f1, f2, f3, f4, f5]
theorem z_k5_s (k c s : Int) (t : ByteArray) (xs ks : List D) (h0 : k = 5) (h1 : c = 0) (h2 : s ≠ 0) : ZeroEx k c s t xs ks := by
  have f0 : (k != 3) = true := by rw [bne_iff_ne]; omega
  have f1 : (k != 4) = true := by rw [bne_iff_ne]; omega
  have f2 : (k != 7) = true := by rw [bne_iff_ne]; omega
  have f3 : (k == 5) = true := by rw [beq_iff_eq]; omega
  have f4 : (k == 6) = false := by rw [beq_eq_false_iff_ne]; omega
  have f5 : (c != 0) = false := by rw [bne_eq_false_iff_eq]; omega
  have f6 : (s != 0) = true := by rw [bne_iff_ne]; omega
  refine ⟨false, fun hp => f130 rfl ?_, fun h => absurd h (by simp)⟩
  simp (disch := omega) only [go_sem, strD, isE, Bool.not_not, r130_T, r130, f0, f1, f2, f3, f4, f5, f6]
theorem z_k5_t (k c s : Int) (t : ByteArray) (xs ks : List D) (h0 : k = 5) (h1 : c = 0) (h2 : s = 0) (h3 : t.size ≠ 0) : ZeroEx k c s t xs ks := by
  have f0 : (k != 3) = true := by rw [bne_iff_ne]; omega
  have f1 : (k != 4) = true := by rw [bne_iff_ne]; omega
  have f2 : (k != 7) = true := by rw [bne_iff_ne]; omega
  have f3 : (k == 5) = true := by rw [beq_iff_eq]; omega
  have f4 : (k == 6) = false := by rw [beq_eq_false_iff_ne]; omega
  have f5 : (c != 0) = false := by rw [bne_eq_false_iff_eq]; omega
  have f6 : (s != 0) = false := by rw [bne_eq_false_iff_eq]; omega
  have f7 : decide (t.size ≠ 0) = true := by exact decide_eq_true (by omega)
  refine ⟨false, fun hp => f130 rfl ?_, fun h => absurd h (by simp)⟩
  simp (disch := omega) only [go_sem, strD, isE, Bool.not_not, r130_T, r130, f0, f1, f2, f3, f4, f5, f6, f7]
theorem z_k5_a (k c s : Int) (t : ByteArray) (xs ks : List D) (h0 : k = 5) (h1 : c = 0) (h2 : s = 0) (h3 : t.size = 0) (h4 : ks.length = 0) : ZeroEx k c s t xs ks := by
  have f0 : (k != 3) = true := by rw [bne_iff_ne]; omega
  have f1 : (k != 4) = true := by rw [bne_iff_ne]; omega
  have f2 : (k != 7) = true := by rw [bne_iff_ne]; omega
  have f3 : (k == 5) = true := by rw [beq_iff_eq]; omega
  have f4 : (k == 6) = false := by rw [beq_eq_false_iff_ne]; omega
  have f5 : (c != 0) = false := by rw [bne_eq_false_iff_eq]; omega
  have f6 : (s != 0) = false := by rw [bne_eq_false_iff_eq]; omega
  have f7 : decide (t.size ≠ 0) = false := by exact decide_eq_false (by omega)
  have f8 : ((ks.length : Int) == 0) = true := by rw [beq_iff_eq]; omega
  refine ⟨true, fun hp => f130 rfl ?_, fun _ hk => by omega⟩
  simp (disch := omega) only [go_sem, strD, isE, Bool.not_not, r130_T, r130, f0, f1, f2, f3, f4, f5, f6, f7, f8]
theorem z_k5_b (k c s : Int) (t : ByteArray) (xs ks : List D) (h0 : k = 5) (h1 : c = 0) (h2 : s = 0) (h3 : t.size = 0) (h4 : ks.length ≠ 0) : ZeroEx k c s t xs ks := by
  have f0 : (k != 3) = true := by rw [bne_iff_ne]; omega
  have f1 : (k != 4) = true := by rw [bne_iff_ne]; omega
  have f2 : (k != 7) = true := by rw [bne_iff_ne]; omega
  have f3 : (k == 5) = true := by rw [beq_iff_eq]; omega
  have f4 : (k == 6) = false := by rw [beq_eq_false_iff_ne]; omega
  have f5 : (c != 0) = false := by rw [bne_eq_false_iff_eq]; omega
  have f6 : (s != 0) = false := by rw [bne_eq_false_iff_eq]; omega
  have f7 : decide (t.size ≠ 0) = false := by exact decide_eq_false (by omega)
  have f8 : ((ks.length : Int) == 0) = false := by rw [beq_eq_false_iff_ne]; omega
  refine ⟨false, fun hp => f130 rfl ?_, fun h => absurd h (by simp)⟩
  simp (disch := omega) only [go_sem, strD, isE, Bool.not_not, r130_T, r130, f0, f1, f2, f3, f4, f5, f6, f7, f8]
theorem z_k6_cc (k c s : Int) (t : ByteArray) (xs ks : List D) (h0 : k = 6) (h1 : c ≠ 0) : ZeroEx k c s t xs ks := by
  have f0 : (k != 3) = true := by rw [bne_iff_ne]; omega
  have f1 : (k != 4) = true := by rw [bne_iff_ne]; omega
  have f2 : (k != 7) = true := by rw [bne_iff_ne]; omega
  have f3 : (k == 5) = false := by rw [beq_eq_false_iff_ne]; omega
  have f4 : (k == 6) = true := by rw [beq_iff_eq]; omega
  have f5 : (c != 0) = true := by rw [bne_iff_ne]; omega
  refine ⟨false, fun hp => f130 rfl ?_, fun h => absurd h (by simp)⟩
  simp (disch := omega) only [go_sem, strD, isE, Bool.not_not, r130_T, r130, f0, f1, f2, f3, f4, f5]
theorem z_k6_s (k c s : Int) (t : ByteArray) (xs ks : List D) (h0 : k = 6) (h1 : c = 0) (h2 : s ≠ 0) : ZeroEx k c s t xs ks := by
  have f0 : (k != 3) = true := by rw [bne_iff_ne]; omega
  have f1 : (k != 4) = true := by rw [bne_iff_ne]; omega
  have f2 : (k != 7) = true := by rw [bne_iff_ne]; omega
  have f3 : (k == 5) = false := by rw [beq_eq_false_iff_ne]; omega
  have f4 : (k == 6) = true := by rw [beq_iff_eq]; omega
  have f5 : (c != 0) = false := by rw [bne_eq_false_iff_eq]; omega
  have f6 : (s != 0) = true := by rw [bne_iff_ne]; omega
  refine ⟨false, fun hp => f130 rfl ?_, fun h => absurd h (by simp)⟩
  simp (disch := omega) only [go_sem, strD, isE, Bool.not_not, r130_T, r130, f0, f1, f2, f3, f4, f5, f6]
theorem z_k6_t (k c s : Int) (t : ByteArray) (xs ks : List D) (h0 : k = 6) (h1 : c = 0) (h2 : s = 0) (h3 : t.size ≠ 0) : ZeroEx k c s t xs ks := by
  have f0 : (k != 3) = true := by rw [bne_iff_ne]; omega
  have f1 : (k != 4) = true := by rw [bne_iff_ne]; omega
  have f2 : (k != 7) = true := by rw [bne_iff_ne]; omega
  have f3 : (k == 5) = false := by rw [beq_eq_false_iff_ne]; omega
  have f4 : (k == 6) = true := by rw [beq_iff_eq]; omega
  have f5 : (c != 0) = false := by rw [bne_eq_false_iff_eq]; omega
  have f6 : (s != 0) = false := by rw [bne_eq_false_iff_eq]; omega
  have f7 : decide (t.size ≠ 0) = true := by exact decide_eq_true (by omega)
  refine ⟨false, fun hp => f130 rfl ?_, fun h => absurd h (by simp)⟩
  simp (disch := omega) only [go_sem, strD, isE, Bool.not_not, r130_T, r130, f0, f1, f2, f3, f4, f5, f6, f7]
theorem z_k6 (k c s : Int) (t : ByteArray) (xs ks : List D) (h0 : k = 6) (h1 : c = 0) (h2 : s = 0) (h3 : t.size = 0) : ZeroEx k c s t xs ks := by
  have f0 : (k != 3) = true := by rw [bne_iff_ne]; omega
  have f1 : (k != 4) = true := by rw [bne_iff_ne]; omega
  have f2 : (k != 7) = true := by rw [bne_iff_ne]; omega
  have f3 : (k == 5) = false := by rw [beq_eq_false_iff_ne]; omega
  have f4 : (k == 6) = true := by rw [beq_iff_eq]; omega
  have f5 : (c != 0) = false := by rw [bne_eq_false_iff_eq]; omega
  have f6 : (s != 0) = false := by rw [bne_eq_false_iff_eq]; omega
  have f7 : decide (t.size ≠ 0) = false := by exact decide_eq_false (by omega)
  refine ⟨true, fun hp => f130 rfl ?_, fun _ hk => by omega⟩
  simp (disch := omega) only [go_sem, strD, isE, Bool.not_not, r130_T, r130, f0, f1, f2, f3, f4, f5, f6, f7]
theorem z_kx_cc (k c s : Int) (t : ByteArray) (xs ks : List D) (h0 : k ≠ 3 ∧ k ≠ 4 ∧ k ≠ 7 ∧ k ≠ 5 ∧ k ≠ 6) (h1 : c ≠ 0) : ZeroEx k c s t xs ks := by
  have f0 : (k != 3) = true := by rw [bne_iff_ne]; omega
  have f1 : (k != 4) = true := by rw [bne_iff_ne]; omega
  have f2 : (k != 7) = true := by rw [bne_iff_ne]; omega
  have f3 : (k == 5) = false := by rw [beq_eq_false_iff_ne]; omega
  have f4 : (k == 6) = false := by rw [beq_eq_false_iff_ne]; omega
  have f5 : (c != 0) = true := by rw [bne_iff_ne]; omega
  refine ⟨false, fun hp => f130 rfl ?_, fun h => absurd h (by simp)⟩
  simp (disch := omega) only [go_sem, strD, isE, Bool.not_not, r130_T, r130, f0, f1, f2, f3, f4, f5]
theorem z_kx_s (k c s : Int) (t : ByteArray) (xs ks : List D) (h0 : k ≠ 3 ∧ k ≠ 4 ∧ k ≠ 7 ∧ k ≠ 5 ∧ k ≠ 6) (h1 : c = 0) (h2 : s ≠ 0) : ZeroEx k c s t xs ks := by
  have f0 : (k != 3) = true := by rw [bne_iff_ne]; omega
  have f1 : (k != 4) = true := by rw [bne_iff_ne]; omega
  have f2 : (k != 7) = true := by rw [bne_iff_ne]; omega
  have f3 : (k == 5) = false := by rw [beq_eq_false_iff_ne]; omega
  have f4 : (k == 6) = false := by rw [beq_eq_false_iff_ne]; omega
  have f5 : (c != 0) = false := by rw [bne_eq_false_iff_eq]; omega
  have f6 : (s != 0) = true := by rw [bne_iff_ne]; omega
  refine ⟨false, fun hp => f130 rfl ?_, fun h => absurd h (by simp)⟩
  simp (disch := omega) only [go_sem, strD, isE, Bool.not_not, r130_T, r130, f0, f1, f2, f3, f4, f5, f6]
theorem z_kx_t (k c s : Int) (t : ByteArray) (xs ks : List D) (h0 : k ≠ 3 ∧ k ≠ 4 ∧ k ≠ 7 ∧ k ≠ 5 ∧ k ≠ 6) (h1 : c = 0) (h2 : s = 0) (h3 : t.size ≠ 0) : ZeroEx k c s t xs ks := by
  have f0 : (k != 3) = true := by rw [bne_iff_ne]; omega
  have f1 : (k != 4) = true := by rw [bne_iff_ne]; omega
  have f2 : (k != 7) = true := by rw [bne_iff_ne]; omega
  have f3 : (k == 5) = false := by rw [beq_eq_false_iff_ne]; omega
  have f4 : (k == 6) = false := by rw [beq_eq_false_iff_ne]; omega
  have f5 : (c != 0) = false := by rw [bne_eq_false_iff_eq]; omega
  have f6 : (s != 0) = false := by rw [bne_eq_false_iff_eq]; omega
  have f7 : decide (t.size ≠ 0) = true := by exact decide_eq_true (by omega)
  refine ⟨false, fun hp => f130 rfl ?_, fun h => absurd h (by simp)⟩
  simp (disch := omega) only [go_sem, strD, isE, Bool.not_not, r130_T, r130, f0, f1, f2, f3, f4, f5, f6, f7]
theorem z_kx_a (k c s : Int) (t : ByteArray) (xs ks : List D) (h0 : k ≠ 3 ∧ k ≠ 4 ∧ k ≠ 7 ∧ k ≠ 5 ∧ k ≠ 6) (h1 : c = 0) (h2 : s = 0) (h3 : t.size = 0) (h4 : xs.length = 0) (h5 : ks.length = 0) : ZeroEx k c s t xs ks := by
  have f0 : (k != 3) = true := by rw [bne_iff_ne]; omega
  have f1 : (k != 4) = true := by rw [bne_iff_ne]; omega
  have f2 : (k != 7) = true := by rw [bne_iff_ne]; omega
  have f3 : (k == 5) = false := by rw [beq_eq_false_iff_ne]; omega
  have f4 : (k == 6) = false := by rw [beq_eq_false_iff_ne]; omega
  have f5 : (c != 0) = false := by rw [bne_eq_false_iff_eq]; omega
  have f6 : (s != 0) = false := by rw [bne_eq_false_iff_eq]; omega
  have f7 : decide (t.size ≠ 0) = false := by exact decide_eq_false (by omega)
  have f8 : ((xs.length : Int) == 0) = true := by rw [beq_iff_eq]; omega
  have f9 : ((ks.length : Int) == 0) = true := by rw [beq_iff_eq]; omega
  refine ⟨true, fun hp => f130 rfl ?_, fun _ hk => by omega⟩
  simp (disch := omega) only [go_sem, strD, isE, Bool.not_not, r130_T, r130, f0, f1, f2, f3, f4, f5, f6, f7, f8, f9]
theorem z_kx_b (k c s : Int) (t : ByteArray) (xs ks : List D) (h0 : k ≠ 3 ∧ k ≠ 4 ∧ k ≠ 7 ∧ k ≠ 5 ∧ k ≠ 6) (h1 : c = 0) (h2 : s = 0) (h3 : t.size = 0) (h4 : xs.length = 0) (h5 : ks.length ≠ 0) : ZeroEx k c s t xs ks := by
  have f0 : (k != 3) = true := by rw [bne_iff_ne]; omega
  have f1 : (k != 4) = true := by rw [bne_iff_ne]; omega
  have f2 : (k != 7) = true := by rw [bne_iff_ne]; omega
  have f3 : (k == 5) = false := by rw [beq_eq_false_iff_ne]; omega
  have f4 : (k == 6) = false := by rw [beq_eq_false_iff_ne]; omega
  have f5 : (c != 0) = false := by rw [bne_eq_false_iff_eq]; omega
  have f6 : (s != 0) = false := by rw [bne_eq_false_iff_eq]; omega
  have f7 : decide (t.size ≠ 0) = false := by exact decide_eq_false (by omega)
  have f8 : ((xs.length : Int) == 0) = true := by rw [beq_iff_eq]; omega
  have f9 : ((ks.length : Int) == 0) = false := by rw [beq_eq_false_iff_ne]; omega
  refine ⟨false, fun hp => f130 rfl ?_, fun h => absurd h (by simp)⟩
  simp (disch := omega) only [go_sem, strD, isE, Bool.not_not, r130_T, r130, f0, f1, f2, f3, f4, f5, f6, f7, f8, f9]
theorem z_kx_c (k c s : Int) (t : ByteArray) (xs ks : List D) (h0 : k ≠ 3 ∧ k ≠ 4 ∧ k ≠ 7 ∧ k ≠ 5 ∧ k ≠ 6) (h1 : c = 0) (h2 : s = 0) (h3 : t.size = 0) (h4 : xs.length ≠ 0) : ZeroEx k c s t xs ks := by
  have f0 : (k != 3) = true := by rw [bne_iff_ne]; omega
  have f1 : (k != 4) = true := by rw [bne_iff_ne]; omega
  have f2 : (k != 7) = true := by rw [bne_iff_ne]; omega
  have f3 : (k == 5) = false := by rw [beq_eq_false_iff_ne]; omega
  have f4 : (k == 6) = false := by rw [beq_eq_false_iff_ne]; omega
  have f5 : (c != 0) = false := by rw [bne_eq_false_iff_eq]; omega
  have f6 : (s != 0) = false := by rw [bne_eq_false_iff_eq]; omega
  have f7 : decide (t.size ≠ 0) = false := by exact decide_eq_false (by omega)
  have f8 : ((xs.length : Int) == 0) = false := by rw [beq_eq_false_iff_ne]; omega
  refine ⟨false, fun hp => f130 rfl ?_, fun h => absurd h (by simp)⟩
  simp (disch := omega) only [go_sem, strD, isE, Bool.not_not, r130_T, r130, f0, f1, f2, f3, f4, f5, f6, f7, f8]
theorem zero_ex (k c s : Int) (t : ByteArray) (xs ks : List D) : ZeroEx k c s t xs ks := by
  have hk : (k = 3 ∨ k = 4 ∨ k = 7 ∨ k = 5 ∨ k = 6) ∨ (k ≠ 3 ∧ k ≠ 4 ∧ k ≠ 7 ∧ k ≠ 5 ∧ k ≠ 6) := by omega
  by_cases hc : c = 0 <;> by_cases hs : s = 0 <;> by_cases ht : t.size = 0 <;> by_cases hx : xs.length = 0 <;> by_cases hy : ks.length = 0 <;> rcases hk with (hk | hk | hk | hk | hk) | hk <;>
    first
    | (apply z_k3_t <;> assumption)
    | (apply z_k3_a <;> assumption)
    | (apply z_k3_b <;> assumption)
    | (apply z_k3_c <;> assumption)
    | (apply z_k4_cc <;> assumption)
    | (apply z_k4_s <;> assumption)
    | (apply z_k4_a <;> assumption)
    | (apply z_k4_b <;> assumption)
    | (apply z_k4_c <;> assumption)
    | (apply z_k7_cc <;> assumption)
    | (apply z_k7_s <;> assumption)
    | (apply z_k7_a <;> assumption)
    | (apply z_k7_b <;> assumption)
    | (apply z_k7_c <;> assumption)
    | (apply z_k5_cc <;> assumption)
    | (apply z_k5_s <;> assumption)
    | (apply z_k5_t <;> assumption)
    | (apply z_k5_a <;> assumption)
    | (apply z_k5_b <;> assumption)
    | (apply z_k6_cc <;> assumption)
    | (apply z_k6_s <;> assumption)
    | (apply z_k6_t <;> assumption)
    | (apply z_k6 <;> assumption)
    | (apply z_kx_cc <;> assumption)
    | (apply z_kx_s <;> assumption)
    | (apply z_kx_t <;> assumption)
    | (apply z_kx_a <;> assumption)
    | (apply z_kx_b <;> assumption)
    | (apply z_kx_c <;> assumption)
end Go.Pe.T

namespace Go.Pe.T
abbrev vB (k c s : Int) (t : ByteArray) (xs : List Val) (ks : List ByteArray) : PV := .ibox [.d (iv k), .d (iv c), .d (iv s), .d (.str t), .d (.sl (Val.encs xs)), .d (.sl (ks.map .str))]
def IkEx (d : Int) (k c s : Int) (t : ByteArray) (xs : List Val) (ks : List ByteArray) (i : Nat) : Prop :=
  ∃ b : Bool, V (F tab) r101_B0 (r101_S0 (.d (iv d)) (vB k c s t xs ks) (.d (iv i)) []) = if b then some (.norm, r101_E0 (.d (iv d)) (vB k c s t xs ks) []) else some (.ret, r101_R (.d (.bool false)) [])
set_option maxHeartbeats 1000000 in
theorem ik_loop (d : Int) (k c s : Int) (t : ByteArray) (xs : List Val) (ks : List ByteArray) (hl : ks.length ≤ 1048576) (hs : ∀ x ∈ ks, x.size ≤ 1048576) : ∀ (m i : Nat), i + m = ks.length → IkEx d k c s t xs ks i
  | 0, i, hi => by
    have h1 : ((i : Int) < (ks.length : Int)) = False := eq_false (by omega)
    refine ⟨true, ?_⟩
    rw [if_pos rfl, r101_B0_eq]
    simp (disch := omega) only [go_sem, r101_C0, h1, List.length_map]
  | m + 1, i, hi => by
    obtain ⟨b, ih⟩ := ik_loop d k c s t xs ks hl hs m (i + 1) (by omega)
    have hi1 : i < ks.length := by omega
    have h1 : ((i : Int) < (ks.length : Int)) = True := eq_true (by omega)
    have i0 : (0 ≤ (i : Int)) = True := eq_true (by omega)
    have va : (ks.map D.str)[i]? = some (.str ks[i]) := by simp [hi1]
    obtain ⟨x, hx⟩ := rsigns_bool ks[i] (by have := hs _ (List.getElem_mem hi1); omega)
    rw [Int.natCast_add, Int.natCast_one] at ih
    rcases Bool.eq_false_or_eq_true (validB ks[i]) with g | g
    · rw [g] at hx
      by_cases h0 : i = 0
      · have g0 : ((i : Int) > 0) = False := eq_false (by omega)
        refine ⟨b, ?_⟩
        rw [r101_B0_eq]
        simp (disch := omega) only [go_sem, r101_C0, h1, i0, va, hx, g0, List.length_map, w64]
        exact ih
      · have g0 : ((i : Int) > 0) = True := eq_true (by omega)
        have i1 : (0 ≤ (i : Int) - 1) = True := eq_true (by omega)
        have e1 : ((i : Int) - 1).toNat = i - 1 := by omega
        have vb : (ks.map D.str)[i - 1]? = some (.str ks[i - 1]) := by
          rw [List.getElem?_map, List.getElem?_eq_getElem (by omega)]; rfl
        rcases Bool.eq_false_or_eq_true (Op.bytesLess ks[i].toList ks[i - 1].toList || ks[i].toList == ks[i - 1].toList) with q | q
        · refine ⟨false, ?_⟩
          rw [if_neg (by simp), r101_B0_eq]
          simp (disch := omega) only [go_sem, strD, r101_C0, h1, i0, va, hx, g0, i1, e1, vb, q, List.length_map, w64]
        · refine ⟨b, ?_⟩
          rw [r101_B0_eq]
          simp (disch := omega) only [go_sem, strD, r101_C0, h1, i0, va, hx, g0, i1, e1, vb, q, List.length_map, w64]
          exact ih
    · rw [g] at hx
      refine ⟨false, ?_⟩
      rw [if_neg (by simp), r101_B0_eq]
      simp (disch := omega) only [go_sem, r101_C0, h1, i0, va, hx, List.length_map, w64]
def IsEx (v : Val) (d : Int) : Prop := ∃ b : Bool, (∀ hp, F tab 101 [.d v.enc, .d (iv d)] hp = some (.ret (.d (.bool b)) hp)) ∧ (b = true → ∀ k c s t xs ks, v = .mk k c s t xs ks → k = 0 → c = 0 ∧ s = 0 ∧ t.size = 0 ∧ xs.length = 0 ∧ ks.length = 0)
def IiEx (d : Int) (k c s : Int) (t : ByteArray) (xs : List Val) (ks : List ByteArray) (i : Nat) : Prop :=
  ∃ b : Bool, V (F tab) r101_B1 (r101_S1 (.d (iv d)) (vB k c s t xs ks) (.d (iv i)) []) = if b then some (.norm, r101_E1 []) else some (.ret, r101_R (.d (.bool false)) [])
set_option maxHeartbeats 1000000 in
theorem ii_loop (d : Int) (hd : 0 ≤ d ∧ d ≤ 100) (k c s : Int) (t : ByteArray) (xs : List Val) (ks : List ByteArray) (hl : xs.length ≤ 1048576) (hx : ∀ x ∈ xs, IsEx x (d + 1)) : ∀ (m i : Nat), i + m = xs.length → IiEx d k c s t xs ks i
  | 0, i, hi => by
    have h1 : ((i : Int) < (xs.length : Int)) = False := eq_false (by omega)
    refine ⟨true, ?_⟩
    rw [if_pos rfl, r101_B1_eq]
    simp (disch := omega) only [go_sem, r101_C1, h1, encs_len]
  | m + 1, i, hi => by
    obtain ⟨b, ih⟩ := ii_loop d hd k c s t xs ks hl hx m (i + 1) (by omega)
    have hi1 : i < xs.length := by omega
    have h1 : ((i : Int) < (xs.length : Int)) = True := eq_true (by omega)
    have i0 : (0 ≤ (i : Int)) = True := eq_true (by omega)
    have va : (Val.encs xs)[i]? = some xs[i].enc := by rw [encs_get, List.getElem?_eq_getElem hi1]; rfl
    obtain ⟨b2, hb2, _⟩ := hx xs[i] (List.getElem_mem hi1)
    obtain ⟨k', c', s', t', ys, ks', ev⟩ := enc_as xs[i]
    rw [ev] at va hb2
    rw [Int.natCast_add, Int.natCast_one] at ih
    rcases Bool.eq_false_or_eq_true (k' == 7) with g | g
    · refine ⟨false, ?_⟩
      rw [if_neg (by simp), r101_B1_eq]
      simp (disch := omega) only [go_sem, r101_C1, h1, i0, va, g, encs_len, w64]
    · cases b2 with
      | true =>
        refine ⟨b, ?_⟩
        rw [r101_B1_eq]
        simp (disch := omega) only [go_sem, r101_C1, h1, i0, va, g, hb2, encs_len, w64]
        exact ih
      | false =>
        refine ⟨false, ?_⟩
        rw [if_neg (by simp), r101_B1_eq]
        simp (disch := omega) only [go_sem, r101_C1, h1, i0, va, g, hb2, encs_len, w64]
end Go.Pe.T

namespace Go.Pe.T
set_option maxHeartbeats 4000000 in
theorem is_top (d : Int) (hd : 0 ≤ d ∧ d ≤ 33) (k c s : Int) (t : ByteArray) (xs : List Val) (ks : List ByteArray) (ht : t.size ≤ 1048576)
    (hK : IkEx d k c s t xs ks 0) (hI : d ≤ 32 → IiEx d k c s t xs ks 0) : IsEx (.mk k c s t xs ks) d := by
  obtain ⟨bz, hz1, hz2⟩ := zero_ex k c s t (Val.encs xs) (ks.map .str)
  rw [encs_len, List.length_map] at hz2
  have no : (∀ hp, F tab 101 [.d (.agg [iv k, iv c, iv s, .str t, .sl (Val.encs xs), .sl (ks.map .str)]), .d (iv d)] hp = some (.ret (.d (.bool false)) hp)) → IsEx (.mk k c s t xs ks) d := fun h => ⟨false, h, fun h => absurd h (by simp)⟩
  by_cases k0 : k < 0
  · refine no fun hp => f101 rfl ?_
    simp (disch := omega) only [go_sem, r101_T, r101, k0]
  by_cases k7 : k > 7
  · refine no fun hp => f101 rfl ?_
    simp (disch := omega) only [go_sem, r101_T, r101, k0, k7]
  cases bz with
  | false =>
    refine no fun hp => f101 rfl ?_
    simp (disch := omega) only [go_sem, r101_T, r101, k0, k7, hz1]
  | true =>
    by_cases d32 : d > 32
    · refine no fun hp => f101 rfl ?_
      simp (disch := omega) only [go_sem, r101_T, r101, k0, k7, hz1, d32]
    obtain ⟨x, hx⟩ := rsigns_bool t (by omega)
    have hn := num4Is_ok c s
    have hz3 := hz2 rfl
    have fin : ∀ b : Bool, (∀ hp, F tab 101 [.d (.agg [iv k, iv c, iv s, .str t, .sl (Val.encs xs), .sl (ks.map .str)]), .d (iv d)] hp = some (.ret (.d (.bool b)) hp)) → IsEx (.mk k c s t xs ks) d := by
      intro b h
      refine ⟨b, h, fun _ k' c' s' t' xs' ks' e hk' => ?_⟩
      cases e
      exact hz3 hk'
    obtain ⟨b1, hK⟩ := hK
    obtain ⟨b2, hI⟩ := hI (by omega)
    rw [Int.natCast_zero] at hK hI
    -- what comes behind the tests
    have go : ∀ (q3 q6 : Bool), (k == 3) = q3 → (q3 = true → numIs c s = true) → (k == 6) = q6 → (q6 = true → ((ks.length : Int) != (xs.length : Int)) = false) → validB t = true → IsEx (.mk k c s t xs ks) d := by
      intro q3 q6 h3 h3' h6 h6' hv
      rw [hv] at hx
      refine fin (b1 && b2) fun hp => f101 rfl ?_
      cases q3 with
      | true =>
        rw [h3' rfl] at hn
        have h6 : (k == 6) = false := by rw [beq_iff_eq] at h3; rw [beq_eq_false_iff_ne]; omega
        simp (disch := omega) only [go_sem, r101_T, k0, k7, hz1, d32, hx, h3, h6, hn, encs_len, List.length_map]
        rw [r101_B0_n]
        erw [hK]
        cases b1 with
        | false => simp (disch := omega) only [go_sem, r101, Bool.false_and]
        | true =>
          simp (disch := omega) only [go_sem]
          rw [r101_B1_n]
          erw [hI]
          cases b2 <;> simp (disch := omega) only [go_sem, r101, Bool.true_and]
      | false =>
        cases q6 with
        | true =>
          have h6'' := h6' rfl
          simp (disch := omega) only [go_sem, r101_T, k0, k7, hz1, d32, hx, h3, h6, h6'', encs_len, List.length_map]
          rw [r101_B0_n]
          erw [hK]
          cases b1 with
          | false => simp (disch := omega) only [go_sem, r101, Bool.false_and]
          | true =>
            simp (disch := omega) only [go_sem]
            rw [r101_B1_n]
            erw [hI]
            cases b2 <;> simp (disch := omega) only [go_sem, r101, Bool.true_and]
        | false =>
          simp (disch := omega) only [go_sem, r101_T, k0, k7, hz1, d32, hx, h3, h6, encs_len, List.length_map]
          rw [r101_B0_n]
          erw [hK]
          cases b1 with
          | false => simp (disch := omega) only [go_sem, r101, Bool.false_and]
          | true =>
            simp (disch := omega) only [go_sem]
            rw [r101_B1_n]
            erw [hI]
            cases b2 <;> simp (disch := omega) only [go_sem, r101, Bool.true_and]
    rcases Bool.eq_false_or_eq_true (validB t) with hv | hv
    · rcases Bool.eq_false_or_eq_true (k == 3) with h3 | h3
      · rcases Bool.eq_false_or_eq_true (numIs c s) with h4 | h4
        · exact go true false h3 (fun _ => h4) (by rw [beq_iff_eq] at h3; rw [beq_eq_false_iff_ne]; omega) (fun h => absurd h (by simp)) hv
        · rw [hv] at hx
          rw [h4] at hn
          refine no fun hp => f101 rfl ?_
          simp (disch := omega) only [go_sem, r101_T, r101, k0, k7, hz1, d32, hx, h3, hn]
      · rcases Bool.eq_false_or_eq_true (k == 6) with h6 | h6
        · rcases Bool.eq_false_or_eq_true ((ks.length : Int) != (xs.length : Int)) with h5 | h5
          · rw [hv] at hx
            refine no fun hp => f101 rfl ?_
            simp (disch := omega) only [go_sem, r101_T, r101, k0, k7, hz1, d32, hx, h3, h6, h5, encs_len, List.length_map]
          · exact go false true h3 (fun h => absurd h (by simp)) h6 (fun _ => h5) hv
        · exact go false false h3 (fun h => absurd h (by simp)) h6 (fun h => absurd h (by simp)) hv
    · rw [hv] at hx
      refine no fun hp => f101 rfl ?_
      simp (disch := omega) only [go_sem, r101_T, r101, k0, k7, hz1, d32, hx]
theorem is_ex : ∀ (n : Nat) (v : Val) (d : Int), SizeOf.sizeOf v ≤ n → v.lim 1048576 → 0 ≤ d ∧ d ≤ 33 → IsEx v d
  | 0, v, d, h, _, _ => by cases v; simp at h
  | n + 1, .mk k c s t xs ks, d, h, hm, hd => by
    rw [Val.lim] at hm
    obtain ⟨m1, m2, m3, m4, m5⟩ := hm
    refine is_top d hd k c s t xs ks m1 (ik_loop d k c s t xs ks m3 m4 ks.length 0 (by omega)) fun hd2 => ii_loop d (by omega) k c s t xs ks m2 (fun x hx => is_ex n x (d + 1) ?_ (vlims_mem m5 hx) (by omega)) xs.length 0 (by omega)
    have := List.sizeOf_lt_of_mem hx
    simp at h
    omega
end Go.Pe.T

namespace Go.Pe.T
def zV : Val := .mk 0 0 0 ⟨#[]⟩ [] []
abbrev zD : D := .agg [iv 0, iv 0, iv 0, .str ⟨#[]⟩, .sl [], .sl []]
theorem encs_zero : ∀ n : Nat, Val.encs (List.replicate n zV) = List.replicate n zD
  | 0 => rfl
  | n + 1 => by rw [List.replicate_succ, List.replicate_succ, Val.encs, encs_zero n]; rfl
def rowZ (i : Nat) : PV := if i = 0 then .nilsl else .own 40 (List.replicate i zD)
theorem zD_w (i : Nat) : ((List.replicate i zD).all fun y => y.width == 6) = true := by
  rw [List.all_eq_true]
  intro y hy
  rw [List.eq_of_mem_replicate hy]
  rfl
abbrev wB (k c s : Int) (t : ByteArray) (r : PV) (ks : List ByteArray) : PV := .ibox [.d (iv k), .d (iv c), .d (iv s), .d (.str t), r, .d (.sl (ks.map .str))]
def SnIs (k c s : Int) (t : ByteArray) (xs : List Val) (ks : List ByteArray) (i : Nat) : Prop :=
  V (F tab) r58_B0 (r58_S0 (vB k c s t xs ks) (wB k c s t (rowZ i) ks) (.d (iv i)) []) = some (.norm, r58_E0 (vB k c s t xs ks) (wB k c s t (rowZ ks.length) ks) [])
set_option maxHeartbeats 1000000 in
theorem sn_loop (k c s : Int) (t : ByteArray) (xs : List Val) (ks : List ByteArray) (hl : ks.length ≤ 1048576) : ∀ (m i : Nat), i + m = ks.length → SnIs k c s t xs ks i
  | 0, i, hi => by
    obtain rfl : i = ks.length := by omega
    have h1 : ((ks.length : Int) < (ks.length : Int)) = False := eq_false (by omega)
    unfold SnIs
    rw [r58_B0_eq]
    simp (disch := omega) only [go_sem, r58_C0, h1, List.length_map]
  | m + 1, i, hi => by
    have ih := sn_loop k c s t xs ks hl m (i + 1) (by omega)
    have h1 : ((i : Int) < (ks.length : Int)) = True := eq_true (by omega)
    have hmr : maxRow = 140737488355328 := by decide
    have hw := zD_w i
    have k1 : ((i + 1) * 88 ≤ maxRow) = True := eq_true (by omega)
    have k2 : ((0 + 1) * 88 ≤ maxRow) = True := eq_true (by omega)
    have k3 : (88 ≤ maxRow) = True := eq_true (by omega)
    have k4 : (1 * 88 ≤ maxRow) = True := eq_true (by omega)
    have e1 : List.replicate (i + 1) zD = List.replicate i zD ++ [zD] := List.replicate_succ'
    unfold SnIs at ih ⊢
    rw [Int.natCast_add, Int.natCast_one] at ih
    generalize hE : r58_E0 _ _ _ = E at ih ⊢
    rw [r58_B0_eq]
    unfold rowZ at ih ⊢
    rw [if_neg (by omega), e1] at ih
    by_cases h0 : i = 0
    · rw [if_pos h0]
      rw [show List.replicate i zD = [] by rw [h0]; rfl, List.nil_append] at ih
      simp (disch := omega) only [go_sem, r58_C0, h1, List.length_map, k2, k3, k4, w64]
      exact ih
    · rw [if_neg h0]
      simp (disch := omega) only [go_sem, r58_C0, h1, List.length_map, List.length_replicate, hw, k1, w64]
      exact ih
def SoundEx (v : Val) : Prop := ∃ b : Bool, (∀ hp, F tab 58 [.d v.enc] hp = some (.ret (.d (.bool b)) hp)) ∧ (b = true → ∀ k c s t xs ks, v = .mk k c s t xs ks → k = 0 → c = 0 ∧ s = 0 ∧ t.size = 0 ∧ xs.length = 0 ∧ ks.length = 0)
def SiEx (k c s : Int) (t : ByteArray) (xs : List Val) (ks : List ByteArray) (i : Nat) : Prop :=
  ∃ b : Bool, V (F tab) r58_B1 (r58_S1 (vB k c s t xs ks) (.d (iv i)) []) = if b then some (.norm, r58_E1 []) else some (.ret, r58_R (.d (.bool false)) [])
theorem so_items (k c s : Int) (t : ByteArray) (xs : List Val) (ks : List ByteArray) (hl : xs.length ≤ 1048576) (hx : ∀ x ∈ xs, SoundEx x) : ∀ (m i : Nat), i + m = xs.length → SiEx k c s t xs ks i
  | 0, i, hi => by
    have h1 : ((i : Int) < (xs.length : Int)) = False := eq_false (by omega)
    refine ⟨true, ?_⟩
    rw [if_pos rfl, r58_B1_eq]
    simp (disch := omega) only [go_sem, r58_C1, h1, encs_len]
  | m + 1, i, hi => by
    obtain ⟨b, ih⟩ := so_items k c s t xs ks hl hx m (i + 1) (by omega)
    have hi1 : i < xs.length := by omega
    have h1 : ((i : Int) < (xs.length : Int)) = True := eq_true (by omega)
    have i0 : (0 ≤ (i : Int)) = True := eq_true (by omega)
    have va : (Val.encs xs)[i]? = some xs[i].enc := by rw [encs_get, List.getElem?_eq_getElem hi1]; rfl
    obtain ⟨b2, hb2, _⟩ := hx xs[i] (List.getElem_mem hi1)
    obtain ⟨k', c', s', t', ys, ks', ev⟩ := enc_as xs[i]
    rw [ev] at va hb2
    rw [Int.natCast_add, Int.natCast_one] at ih
    cases b2 with
    | true =>
      refine ⟨b, ?_⟩
      rw [r58_B1_eq]
      simp (disch := omega) only [go_sem, r58_C1, h1, i0, va, hb2, encs_len, w64]
      exact ih
    | false =>
      refine ⟨false, ?_⟩
      rw [if_neg (by simp), r58_B1_eq]
      simp (disch := omega) only [go_sem, r58_C1, h1, i0, va, hb2, encs_len, w64]
theorem rowZ_d (n : Nat) : rowZ n = .nilsl ∧ Val.encs (List.replicate n zV) = [] ∨ rowZ n = .own 40 (Val.encs (List.replicate n zV)) := by
  unfold rowZ
  by_cases h : n = 0
  · rw [if_pos h]
    exact .inl ⟨rfl, by rw [h]; rfl⟩
  · rw [if_neg h, encs_zero]
    exact .inr rfl
set_option maxHeartbeats 4000000 in
theorem so_top (k c s : Int) (t : ByteArray) (xs : List Val) (ks : List ByteArray) (hK : SnIs k c s t xs ks 0) (hW : IsEx (.mk k c s t (List.replicate ks.length zV) ks) 0) (hI : SiEx k c s t xs ks 0) : SoundEx (.mk k c s t xs ks) := by
  have no : (∀ hp, F tab 58 [.d (.agg [iv k, iv c, iv s, .str t, .sl (Val.encs xs), .sl (ks.map .str)])] hp = some (.ret (.d (.bool false)) hp)) → SoundEx (.mk k c s t xs ks) := fun h => ⟨false, h, fun h => absurd h (by simp)⟩
  obtain ⟨b2, hI⟩ := hI
  obtain ⟨bw, hw1, hw2⟩ := hW
  unfold SnIs at hK
  rw [Int.natCast_zero] at hK hI
  rw [show rowZ 0 = .nilsl from rfl] at hK
  rw [Val.enc] at hw1
  have go : ∀ (q6 q5 : Bool), (k == 6) = q6 → (k != 6) = !q6 → (q6 = true → ((ks.length : Int) != (xs.length : Int)) = false) → (k != 5) = q5 → (q6 = false → q5 = true → ((xs.length : Int) > 0) = False) → SoundEx (.mk k c s t xs ks) := by
    intro q6 q5 h6 h6n h6' h5 h5'
    refine ⟨bw && b2, fun hp => ?_, fun hb k' c' s' t' xs' ks' e hk' => ?_⟩
    · rw [Val.enc]
      refine f58 rfl ?_
      cases q6 with
      | true =>
        have h6'' := h6' rfl
        have h55 : (k != 5) = true := by rw [beq_iff_eq] at h6; rw [bne_iff_ne]; omega
        have h66 : (k != 6) = false := by rw [h6n]; rfl
        simp (disch := omega) only [go_sem, r58_T, h6, h6'', h55, h66, encs_len, List.length_map]
        rw [r58_B0_n]
        erw [hK]
        rcases rowZ_d ks.length with ⟨g1, g2⟩ | g1
        · rw [g2] at hw1
          rw [g1]
          cases bw with
          | false => simp (disch := omega) only [go_sem, r58, hw1, Bool.false_and]
          | true =>
            simp (disch := omega) only [go_sem, hw1]
            rw [r58_B1_n]
            erw [hI]
            cases b2 <;> simp (disch := omega) only [go_sem, r58, Bool.true_and]
        · rw [g1]
          cases bw with
          | false => simp (disch := omega) only [go_sem, r58, hw1, Bool.false_and]
          | true =>
            simp (disch := omega) only [go_sem, hw1]
            rw [r58_B1_n]
            erw [hI]
            cases b2 <;> simp (disch := omega) only [go_sem, r58, Bool.true_and]
      | false =>
        have h66 : (k != 6) = true := by rw [h6n]; rfl
        cases q5 with
        | true =>
          have h5'' := h5' rfl rfl
          simp (disch := omega) only [go_sem, r58_T, h6, h5, h66, h5'', encs_len, List.length_map]
          rw [r58_B0_n]
          erw [hK]
          rcases rowZ_d ks.length with ⟨g1, g2⟩ | g1
          · rw [g2] at hw1
            rw [g1]
            cases bw with
            | false => simp (disch := omega) only [go_sem, r58, hw1, Bool.false_and]
            | true =>
              simp (disch := omega) only [go_sem, hw1]
              rw [r58_B1_n]
              erw [hI]
              cases b2 <;> simp (disch := omega) only [go_sem, r58, Bool.true_and]
          · rw [g1]
            cases bw with
            | false => simp (disch := omega) only [go_sem, r58, hw1, Bool.false_and]
            | true =>
              simp (disch := omega) only [go_sem, hw1]
              rw [r58_B1_n]
              erw [hI]
              cases b2 <;> simp (disch := omega) only [go_sem, r58, Bool.true_and]
        | false =>
          simp (disch := omega) only [go_sem, r58_T, h6, h5, h66, encs_len, List.length_map]
          rw [r58_B0_n]
          erw [hK]
          rcases rowZ_d ks.length with ⟨g1, g2⟩ | g1
          · rw [g2] at hw1
            rw [g1]
            cases bw with
            | false => simp (disch := omega) only [go_sem, r58, hw1, Bool.false_and]
            | true =>
              simp (disch := omega) only [go_sem, hw1]
              rw [r58_B1_n]
              erw [hI]
              cases b2 <;> simp (disch := omega) only [go_sem, r58, Bool.true_and]
          · rw [g1]
            cases bw with
            | false => simp (disch := omega) only [go_sem, r58, hw1, Bool.false_and]
            | true =>
              simp (disch := omega) only [go_sem, hw1]
              rw [r58_B1_n]
              erw [hI]
              cases b2 <;> simp (disch := omega) only [go_sem, r58, Bool.true_and]
    · cases e
      rw [Bool.and_eq_true] at hb
      obtain ⟨a1, a2, a3, a4, a5⟩ := hw2 hb.1 _ _ _ _ _ _ rfl hk'
      refine ⟨a1, a2, a3, ?_, a5⟩
      have q6 : q6 = false := by rw [← h6, beq_eq_false_iff_ne]; omega
      have q5 : q5 = true := by rw [← h5, bne_iff_ne]; omega
      have := of_eq_false (h5' q6 q5)
      omega
  rcases Bool.eq_false_or_eq_true (k == 6) with h6 | h6
  · have h6n : (k != 6) = false := by rw [bne, h6]; rfl
    rcases Bool.eq_false_or_eq_true ((ks.length : Int) != (xs.length : Int)) with h5 | h5
    · refine no fun hp => f58 rfl ?_
      simp (disch := omega) only [go_sem, r58_T, r58, h6, h5, encs_len, List.length_map]
    · exact go true (k != 5) h6 h6n (fun _ => h5) rfl (fun h => absurd h (by simp))
  · have h6n : (k != 6) = true := by rw [bne, h6]; rfl
    rcases Bool.eq_false_or_eq_true (k != 5) with h5 | h5
    · by_cases hx : (xs.length : Int) > 0
      · have hx' : ((xs.length : Int) > 0) = True := eq_true hx
        refine no fun hp => f58 rfl ?_
        simp (disch := omega) only [go_sem, r58_T, r58, h6, h6n, h5, hx', encs_len, List.length_map]
      · exact go false true h6 h6n (fun h => absurd h (by simp)) h5 (fun _ _ => eq_false hx)
    · exact go false false h6 h6n (fun h => absurd h (by simp)) h5 (fun _ h => absurd h (by simp))
theorem so_ex : ∀ (n : Nat) (v : Val), SizeOf.sizeOf v ≤ n → v.lim 1048576 → SoundEx v
  | 0, v, h, _ => by cases v; simp at h
  | n + 1, .mk k c s t xs ks, h, hm => by
    rw [Val.lim] at hm
    obtain ⟨m1, m2, m3, m4, m5⟩ := hm
    refine so_top k c s t xs ks (sn_loop k c s t xs ks m3 ks.length 0 (by omega)) (is_ex _ _ 0 (Nat.le_refl _) ?_ (by omega)) (so_items k c s t xs ks m2 (fun x hx => so_ex n x ?_ (vlims_mem m5 hx)) xs.length 0 (by omega))
    · rw [Val.lim]
      refine ⟨m1, by simpa using m3, m3, m4, ?_⟩
      have : ∀ j : Nat, Val.lims 1048576 (List.replicate j zV) := by
        intro j
        induction j with
        | zero => trivial
        | succ j ih =>
          rw [List.replicate_succ, Val.lims]
          refine ⟨?_, ih⟩
          have e : (⟨#[]⟩ : ByteArray).size = 0 := rfl
          simp [zV, Val.lim, Val.lims, e]
      exact this _
    · have := List.sizeOf_lt_of_mem hx
      simp at h
      omega
end Go.Pe.T

namespace Go.Pe.T
abbrev nE (l d k c s : Int) (t : ByteArray) (xs ks : List D) : PV := .eptr (.agg [iv l, iv d, iv k, iv c, iv s, .str t, .sl xs, .sl ks]) 0
abbrev sB (k c s : Int) (t : ByteArray) (a : PV) (ks : List D) : PV := .ibox [.d (iv k), .d (iv c), .d (iv s), .d (.str t), a, .own 9 ks]
abbrev zB : PV := .ibox [.d (iv 0), .d (iv 0), .d (iv 0), .d (.str ⟨#[]⟩), .nilsl, .nilsl]
def rwI (xs : List Nd) (i : Nat) : PV := if i = 0 then .nilsl else .own 40 (Val.encs (Nd.strips (xs.take i)))
def StIs (x : Nd) : Prop := ∀ hp, F tab 12 [.d x.enc] hp = some (.ret (.d x.strip.enc) hp)
def SpIs (l d k c s : Int) (t : ByteArray) (xs : List Nd) (ks : List D) (i : Nat) : Prop :=
  V (F tab) r12_B0 (r12_S0 (nE l d k c s t (Nd.encs xs) ks) zB (sB k c s t (rwI xs i) ks) (.d (iv i)) []) = some (.norm, r12_E0 zB (sB k c s t (rwI xs xs.length) ks) [])
theorem encs_app (a b : List Val) : Val.encs (a ++ b) = Val.encs a ++ Val.encs b := by
  induction a with
  | nil => rfl
  | cons x a ih => simp [Val.encs, ih]
theorem sp_all (l d k c s : Int) (t : ByteArray) (xs : List Nd) (ks : List D) (hl : xs.length ≤ 1048576) (hx : ∀ x ∈ xs, StIs x) : ∀ (j i : Nat), i + j = xs.length → SpIs l d k c s t xs ks i
  | 0, i, hi => by
    obtain rfl : i = xs.length := by omega
    have h1 : ((xs.length : Int) < (xs.length : Int)) = False := eq_false (by omega)
    unfold SpIs
    generalize rwI xs xs.length = R
    rw [r12_B0_eq]
    simp (disch := omega) only [go_sem, r12_C0, h1, nencs_len]
  | j + 1, i, hi => by
    have ih := sp_all l d k c s t xs ks hl hx j (i + 1) (by omega)
    have hi1 : i < xs.length := by omega
    have h1 : ((i : Int) < (xs.length : Int)) = True := eq_true (by omega)
    have i0 : (0 ≤ (i : Int)) = True := eq_true (by omega)
    have va : (Nd.encs xs)[i]? = some xs[i].enc := by rw [nencs_get, List.getElem?_eq_getElem hi1]; rfl
    have hc := hx xs[i] (List.getElem_mem hi1)
    have e1 : (i : Int) + 1 = ((i + 1 : Nat) : Int) := rfl
    have w := nenc_w xs[i]
    have a := nenc_a xs[i]
    have w2 := enc_w xs[i].strip
    have hmr : maxRow = 140737488355328 := by decide
    have etk : Nd.strips (xs.take (i + 1)) = Nd.strips (xs.take i) ++ [xs[i].strip] := by rw [strips_eq, strips_eq, List.take_add_one, List.getElem?_eq_getElem hi1, List.map_append]; rfl
    have hlen : (Val.encs (Nd.strips (xs.take i))).length = i := by rw [encs_len, strips_len, List.length_take]; omega
    unfold SpIs at ih ⊢
    unfold StIs at hc
    have er : rwI xs (i + 1) = .own 40 (Val.encs (Nd.strips (xs.take i)) ++ [xs[i].strip.enc]) := by
      unfold rwI
      rw [if_neg (by omega), etk, encs_app]
      rfl
    rw [er] at ih
    unfold rwI
    generalize hR : rwI xs xs.length = R at *
    unfold rwI at hR
    rw [hR]
    clear hR er etk
    generalize xs[i].strip.enc = Y at *
    generalize xs[i].enc = X at *
    generalize hZ : Val.encs (Nd.strips (xs.take i)) = Z at *
    by_cases h0 : i = 0
    · rw [if_pos h0]
      have hz : Z = [] := List.eq_nil_of_length_eq_zero (by omega)
      have k1 : ((0 + 1) * 88 ≤ maxRow) = True := eq_true (by omega)
      have k2 : (88 ≤ maxRow) = True := eq_true (by omega)
      have k3 : (1 * 88 ≤ maxRow) = True := eq_true (by omega)
      rw [hz, List.nil_append] at ih
      clear hZ hlen hz
      rw [r12_B0_eq]
      simp (disch := omega) only [go_sem, r12_C0, h1, i0, va, hc, w, a, w2, nencs_len, e1, k1, k2, k3, beq_self_eq_true, w64]
      exact ih
    · rw [if_neg h0]
      have k1 : ((i + 1) * 88 ≤ maxRow) = True := eq_true (by omega)
      clear hZ
      rw [r12_B0_eq]
      simp (disch := omega) only [go_sem, r12_C0, h1, i0, va, hc, w, a, w2, hlen, nencs_len, e1, k1, beq_self_eq_true, w64]
      exact ih
theorem strip_ok : ∀ (x : Nd), x.lim 1048576 → StIs x
  | .mk l d k c s t xs ks, hx => by
    simp only [Nd.lim] at hx
    have hL := sp_all l d k c s t xs (ks.map .str) hx.2.2.1 (fun x hm => strip_ok x (nlims_mem hx.2.2.2.2.2 hm)) xs.length 0 (by omega)
    unfold SpIs at hL
    have e0 : rwI xs 0 = .nilsl := rfl
    rw [e0] at hL
    intro hp
    rw [Nd.enc, Nd.strip, Val.enc]
    have hkw : ((ks.map D.str).all fun y => y.width == 1) = true := by
      rw [List.all_eq_true]
      intro y hy
      obtain ⟨b, _, rfl⟩ := List.mem_map.1 hy
      rfl
    have hmr : maxRow = 140737488355328 := by decide
    have hkl : (ks.map D.str).length = ks.length := List.length_map _
    have k1 : (ks.length * 16 ≤ maxRow) = True := eq_true (by omega)
    have k2 : ((0 + ks.length) * 16 ≤ maxRow) = True := eq_true (by omega)
    have er : rwI xs xs.length = .nilsl ∧ Val.encs (Nd.strips xs) = [] ∨ rwI xs xs.length = .own 40 (Val.encs (Nd.strips xs)) := by
      unfold rwI
      by_cases h : xs.length = 0
      · rw [if_pos h]
        have : xs = [] := List.eq_nil_of_length_eq_zero h
        subst this
        exact .inl ⟨rfl, rfl⟩
      · rw [if_neg h, List.take_of_length_le (Nat.le_refl _)]
        exact .inr rfl
    generalize Val.encs (Nd.strips xs) = Z at *
    generalize Nd.encs xs = X at *
    generalize ks.map D.str = K at *
    generalize rwI xs xs.length = R at *
    refine f12 rfl ?_
    simp (disch := omega) only [go_sem, r12_T, r12, hkw, hkl, k1, k2]
    rw [r12_B0_n]
    erw [hL]
    rcases er with ⟨rfl, rfl⟩ | rfl
    · simp (disch := omega) only [go_sem, r12]
    · simp (disch := omega) only [go_sem, r12]
theorem nis_ex {T : List (List Bool)} {m : Nat} (hT : LatT T m) (x : Nd) (hx : x.lim 1048576) : ∃ b : Bool, (∀ hp, F tab 20 [.d (.sl (ttD T)), .d x.enc] hp = some (.ret (.d (.bool b)) hp)) ∧ (b = true → nlabB m x = true ∧ nright T m x = true) := by
  have h1 := lab_ok hT x hx
  have h2 := rt_ok hT x hx
  have h3 := strip_ok x hx
  obtain ⟨b3, h4, _⟩ := so_ex (SizeOf.sizeOf x.strip) x.strip (Nat.le_refl _) (strip_lim x hx)
  refine ⟨nlabB m x && (nright T m x && b3), fun hp => ?_, fun h => ?_⟩
  · cases x with
    | mk l d k c s t xs ks =>
      unfold LabIs at h1
      unfold RtIs at h2
      unfold StIs at h3
      rw [Nd.enc] at h1 h2 h3 ⊢
      rw [Nd.strip, Val.enc] at h3 h4
      generalize nright T m (Nd.mk l d k c s t xs ks) = v at *
      generalize nlabB m (Nd.mk l d k c s t xs ks) = q at *
      generalize Val.encs (Nd.strips xs) = Z at *
      generalize Nd.encs xs = X at *
      generalize ks.map D.str = K at *
      generalize ttD T = TD at *
      refine f20 rfl ?_
      cases q
      · rw [Bool.false_and]
        simp (disch := omega) only [go_sem, r20_T, r20, h1]
      · have h2 := h2 rfl
        cases v
        · rw [Bool.true_and, Bool.false_and]
          simp (disch := omega) only [go_sem, r20_T, r20, h1, h2]
        · rw [Bool.true_and, Bool.true_and]
          simp (disch := omega) only [go_sem, r20_T, r20, h1, h2, h3, h4]
  · simp only [Bool.and_eq_true] at h
    exact ⟨h.1, h.2.1⟩
end Go.Pe.T

namespace Go.Pe.T


mutual
theorem cmpV_neg : ∀ (x y : Val) (left : Int), (cmpV x y left).2 < 0 → (cmpV x y left).1 = 0
  | .mk k c s t xs ks, .mk k' c' s' t' ys ks', left => by
    simp only [cmpV]
    intro h
    split at h
    · rename_i h1; rw [if_pos h1]
    rename_i h1; rw [if_neg h1]
    split at h
    · exact absurd h h1
    rename_i h2; rw [if_neg h2]
    split at h
    · exact absurd h h1
    rename_i h3; rw [if_neg h3]
    split at h
    · exact absurd h h1
    rename_i h4; rw [if_neg h4]
    split at h
    · rename_i h5; rw [if_pos h5]; exact cmpVs_neg xs ys _ (by omega) h
    rename_i h5; rw [if_neg h5]
    split at h
    · rename_i h6; rw [if_pos h6]
      split at h
      · exact absurd h h1
      rename_i h7; rw [if_neg h7]; exact cmpVs_neg xs ys _ (by omega) h
    rename_i h6; rw [if_neg h6]
theorem cmpVs_neg : ∀ (a b : List Val) (left : Int), 0 ≤ left → (cmpVs a b left).2 < 0 → (cmpVs a b left).1 = 0
  | x :: a, y :: b, left, h0 => by
    simp only [cmpVs]
    intro h
    by_cases h1 : (cmpV x y left).1 ≠ 0 ∨ (cmpV x y left).2 < 0
    · rw [if_pos h1] at h ⊢
      exact cmpV_neg x y left h
    · rw [if_neg h1] at h ⊢
      exact cmpVs_neg a b _ (by omega) h
  | [], b, left, h0 => by simp only [cmpVs]; omega
  | x :: a, [], left, h0 => by simp only [cmpVs]; omega
end

def nOf (l : Int) : Int := if l < 0 then 5000 else 4096 - l
theorem nOf_pos {l : Int} (h : 0 ≤ l) : nOf l = 4096 - l := by unfold nOf; rw [if_neg (by omega)]
theorem nOf_neg {l : Int} (h : l < 0) : nOf l = 5000 := by unfold nOf; rw [if_pos h]

def LookIs (x y : Val) (left : Int) : Prop := ∀ hp : List Ent,
    F tab 29 [.d x.enc, .d y.enc, .d (iv (4096 - left))] hp = some (.ret (.tup [.d (iv (cmpV x y left).1), .d (iv (nOf (cmpV x y left).2))]) hp)

theorem look_stop (k c s k' c' s' : Int) (t t' : ByteArray) (ks ks' : List D) (a b : List Val) (q i n : Int) (hq : ¬ q = 0) :
    V (F tab) r29_B0 (r29_S0 (.d (iv n)) (.ibox [.d (iv k), .d (iv c), .d (iv s), .d (.str t), .d (.sl (Val.encs a)), .d (.sl ks)]) (.ibox [.d (iv k'), .d (iv c'), .d (iv s'), .d (.str t'), .d (.sl (Val.encs b)), .d (.sl ks')]) (.d (iv q)) (.d (iv i)) []) =
      some (.norm, r29_E0 (.d (iv n)) (.ibox [.d (iv k), .d (iv c), .d (iv s), .d (.str t), .d (.sl (Val.encs a)), .d (.sl ks)]) (.ibox [.d (iv k'), .d (iv c'), .d (iv s'), .d (.str t'), .d (.sl (Val.encs b)), .d (.sl ks')]) (.d (iv q)) []) := by
  have e : (q == 0) = false := by simpa using hq
  rw [r29_B0_eq]
  simp (disch := omega) only [go_sem, r29_C0, hq, e]

def LookLoop (k c s k' c' s' : Int) (t t' : ByteArray) (ks ks' : List D) (a b : List Val) (i : Nat) (left : Int) : Prop :=
    ((cmpVs (a.drop i) (b.drop i) left).2 < 0 ∧ V (F tab) r29_B0 (r29_S0 (.d (iv (4096 - left))) (.ibox [.d (iv k), .d (iv c), .d (iv s), .d (.str t), .d (.sl (Val.encs a)), .d (.sl ks)]) (.ibox [.d (iv k'), .d (iv c'), .d (iv s'), .d (.str t'), .d (.sl (Val.encs b)), .d (.sl ks')]) (.d (iv 0)) (.d (iv i)) []) = some (.ret, r29_R (.d (iv 0)) (.d (iv 5000)) [])) ∨
    (0 ≤ (cmpVs (a.drop i) (b.drop i) left).2 ∧ ∃ q, V (F tab) r29_B0 (r29_S0 (.d (iv (4096 - left))) (.ibox [.d (iv k), .d (iv c), .d (iv s), .d (.str t), .d (.sl (Val.encs a)), .d (.sl ks)]) (.ibox [.d (iv k'), .d (iv c'), .d (iv s'), .d (.str t'), .d (.sl (Val.encs b)), .d (.sl ks')]) (.d (iv 0)) (.d (iv i)) []) =
       some (.norm, r29_E0 (.d (iv (4096 - (cmpVs (a.drop i) (b.drop i) left).2))) (.ibox [.d (iv k), .d (iv c), .d (iv s), .d (.str t), .d (.sl (Val.encs a)), .d (.sl ks)]) (.ibox [.d (iv k'), .d (iv c'), .d (iv s'), .d (.str t'), .d (.sl (Val.encs b)), .d (.sl ks')]) (.d (iv q)) []) ∧
       ((q = 0 ∧ (cmpVs (a.drop i) (b.drop i) left).1 = sgn a.length b.length) ∨ (¬ q = 0 ∧ (cmpVs (a.drop i) (b.drop i) left).1 = q)))

theorem look_zero (k c s k' c' s' : Int) (t t' : ByteArray) (ks ks' : List D) (a b : List Val) (i : Nat) (left : Int) (hi : i = min a.length b.length) (h0 : 0 ≤ left) : LookLoop k c s k' c' s' t t' ks ks' a b i left := by
  unfold LookLoop
  have e : cmpVs (a.drop i) (b.drop i) left = (sgn (a.drop i).length (b.drop i).length, left) := by
    rcases Nat.le_total a.length b.length with h | h
    · rw [List.drop_of_length_le (by omega : a.length ≤ i)]; simp [cmpVs]
    · rw [List.drop_of_length_le (by omega : b.length ≤ i)]; cases a.drop i <;> simp [cmpVs]
  rw [e]
  refine .inr ⟨h0, 0, ?_, .inl ⟨rfl, ?_⟩⟩
  · rw [r29_B0_eq]
    by_cases h1 : (i : Int) < (a.length : Int)
    · have h2 : ((i : Int) < (b.length : Int)) = False := eq_false (by omega)
      simp (disch := omega) only [go_sem, r29_C0, h1, h2, encs_len]
    · simp (disch := omega) only [go_sem, r29_C0, h1, encs_len]
  · simp only [List.length_drop]
    unfold sgn
    split <;> split <;> (try split) <;> omega

theorem look_step (k c s k' c' s' : Int) (t t' : ByteArray) (ks ks' : List D) (a b : List Val) (hla : a.length ≤ maxLen)
    (ih : ∀ x ∈ a, ∀ y ∈ b, ∀ left, 0 ≤ left → left ≤ 5000 → -1 ≤ (cmpV x y left).2 ∧ (cmpV x y left).2 ≤ 5000 ∧ LookIs x y left)
    (i : Nat) (left : Int) (hi : i < min a.length b.length) (h0 : 0 ≤ left) (h5 : left ≤ 5000)
    (hn : ∀ l, 0 ≤ l → l ≤ 5000 → LookLoop k c s k' c' s' t t' ks ks' a b (i + 1) l) : LookLoop k c s k' c' s' t t' ks ks' a b i left := by
  unfold LookLoop at hn ⊢
  have hmx : maxLen = 9223372036854775807 := by decide
  have ga : i < a.length := by omega
  have gb : i < b.length := by omega
  have h1 : ((i : Int) < (a.length : Int)) = True := eq_true (by omega)
  have h2 : ((i : Int) < (b.length : Int)) = True := eq_true (by omega)
  have hi0 : (0 ≤ (i : Int)) = True := eq_true (by omega)
  have va : (Val.encs a)[i]? = some (a[i].enc) := by rw [encs_get]; simp [ga]
  have vb : (Val.encs b)[i]? = some (b[i].enc) := by rw [encs_get]; simp [gb]
  have hng := cmpV_neg a[i] b[i] left
  obtain ⟨c1, c2, c3⟩ := ih a[i] (List.getElem_mem ga) b[i] (List.getElem_mem gb) left h0 h5
  unfold LookIs at c3
  rw [List.drop_eq_getElem_cons ga, List.drop_eq_getElem_cons gb]
  simp only [cmpVs]
  generalize cmpV a[i] b[i] left = r at *
  obtain ⟨g, l⟩ := r
  simp only at c1 c2 c3 hng ⊢
  rw [r29_B0_eq]
  by_cases hl : l < 0
  · rw [if_pos (Or.inr hl)]
    refine .inl ⟨hl, ?_⟩
    simp (disch := omega) only [go_sem, r29_C0, h1, h2, hi0, va, vb, enc_w, enc_a, encs_len, c3, w64, nOf_neg hl, Int.reduceGT, decide_true, if_true]
  · have hl' : 0 ≤ l := by omega
    have hgt : (4096 < 4096 - l) = False := eq_false (by omega)
    by_cases hc : g = 0
    · subst hc
      rw [if_neg (by omega)]
      rcases hn l hl' c2 with ⟨x1, x2⟩ | ⟨x1, q, x2, x3⟩
      · refine .inl ⟨x1, ?_⟩
        simp (disch := omega) only [go_sem, r29_C0, h1, h2, hi0, va, vb, enc_w, enc_a, encs_len, c3, w64, nOf_pos hl', hgt]
        rw [Int.natCast_add, Int.natCast_one] at x2
        exact x2
      · refine .inr ⟨x1, q, ?_, x3⟩
        simp (disch := omega) only [go_sem, r29_C0, h1, h2, hi0, va, vb, enc_w, enc_a, encs_len, c3, w64, nOf_pos hl', hgt]
        rw [Int.natCast_add, Int.natCast_one] at x2
        exact x2
    · rw [if_pos (Or.inl hc)]
      refine .inr ⟨hl', g, ?_, .inr ⟨hc, rfl⟩⟩
      simp (disch := omega) only [go_sem, r29_C0, h1, h2, hi0, va, vb, enc_w, enc_a, encs_len, c3, w64, nOf_pos hl', hgt]
      exact look_stop k c s k' c' s' t t' ks ks' a b g ((i : Int) + 1) (4096 - l) hc

theorem look_loop (k c s k' c' s' : Int) (t t' : ByteArray) (ks ks' : List D) (a b : List Val) (hla : a.length ≤ maxLen)
    (ih : ∀ x ∈ a, ∀ y ∈ b, ∀ left, 0 ≤ left → left ≤ 5000 → -1 ≤ (cmpV x y left).2 ∧ (cmpV x y left).2 ≤ 5000 ∧ LookIs x y left) :
    ∀ (j i : Nat) (left : Int), i + j = min a.length b.length → 0 ≤ left → left ≤ 5000 → LookLoop k c s k' c' s' t t' ks ks' a b i left
  | 0, i, left, hi, h0, h5 => look_zero k c s k' c' s' t t' ks ks' a b i left (by omega) h0
  | j + 1, i, left, hi, h0, h5 => look_step k c s k' c' s' t t' ks ks' a b hla ih i left (by omega) h0 h5 fun l h0 h5 => look_loop k c s k' c' s' t t' ks ks' a b hla ih j (i + 1) l (by omega) h0 h5
end Go.Pe.T

namespace Go.Pe.T

theorem clean7_ok2 (c s : Int) (hp : List Ent) : F tab 74 [.d (.agg [iv c, iv s])] hp = some (.ret (.d (.agg [iv (cleanN c s).1, iv (cleanN c s).2])) hp) := by
  have h := clean7_ok c s hp
  unfold cleanN
  split at h <;> (rename_i hx; simp only [hx, if_true, if_false, Bool.false_eq_true]; exact h)

theorem cmp4_ok2 (c s c' s' : Int) (hp : List Ent) : F tab 73 [.d (.agg [iv (cleanN c s).1, iv (cleanN c s).2]), .d (.agg [iv (cleanN c' s').1, iv (cleanN c' s').2])] hp = some (.ret (.d (iv (sgn (flatS c s) (flatS c' s')))) hp) := by
  obtain ⟨h1, e1⟩ := cleanN_is c s
  obtain ⟨h2, e2⟩ := cleanN_is c' s'
  obtain ⟨k1, x1, y1, z1⟩ := numIs_inv h1
  obtain ⟨k2, x2, y2, z2⟩ := numIs_inv h2
  have h := cmp4_ok (cleanN c s).1 (cleanN c' s').1 k1 k2 y1 y2 z1 z2 hp
  unfold flatS
  rw [x1, x2] at *
  exact h

theorem look_low (k c s t xs ks k' c' s' t' ys ks') (left : Int) (h0 : 0 ≤ left) (h5 : left ≤ 5000) (hl : left - 1 < 0)
    : LookIs (.mk k c s t xs ks) (.mk k' c' s' t' ys ks') left := by
  intro hp
  have hgt : (4096 < 4096 - left + 1) = True := eq_true (by omega)
  have en : nOf (left - 1) = 5000 := nOf_neg hl

  refine f29 rfl ?_
  simp (disch := omega) only [go_sem, r29_T, r29, Val.enc, w64, cmpV, if_pos hl, hl, if_true, hgt, en]

theorem look_rank (k c s t xs ks k' c' s' t' ys ks') (left : Int) (h0 : 0 ≤ left) (h5 : left ≤ 5000) (hl : ¬ (left - 1 < 0)) (hr : sgn (rankOf k) (rankOf k') ≠ 0)
    : LookIs (.mk k c s t xs ks) (.mk k' c' s' t' ys ks') left := by
  intro hp
  have hgt : (4096 < 4096 - left + 1) = False := eq_false (by omega)
  have en : nOf (left - 1) = 4096 - left + 1 := by rw [nOf_pos (by omega)]; omega
  have r1 := rank7_ok k
  have r2 := rank7_ok k'
  have r3 := sign7_ok (rankOf k) (rankOf k')
  have g1 : (sgn (rankOf k) (rankOf k') != 0) = true := by simp [hr]
  have g1' : (sgn (rankOf k) (rankOf k') ≠ 0) = True := by simp [hr]

  refine f29 rfl ?_
  simp (disch := omega) only [go_sem, r29_T, r29, Val.enc, w64, cmpV, hl, g1', if_false, if_true, hgt, en, r1, r2, r3, g1]

theorem look_3 (c s t xs ks k' c' s' t' ys ks') (left : Int) (h0 : 0 ≤ left) (h5 : left ≤ 5000) (hl : ¬ (left - 1 < 0)) (hr : sgn (rankOf 3) (rankOf k') = 0)
    : LookIs (.mk 3 c s t xs ks) (.mk k' c' s' t' ys ks') left := by
  intro hp
  have hgt : (4096 < 4096 - left + 1) = False := eq_false (by omega)
  have en : nOf (left - 1) = 4096 - left + 1 := by rw [nOf_pos (by omega)]; omega
  have r1 := rank7_ok 3
  have r2 := rank7_ok k'
  have r3 := sign7_ok (rankOf 3) (rankOf k')
  have g1 : (sgn (rankOf 3) (rankOf k') != 0) = false := by simp [hr]
  have g1' : (sgn (rankOf 3) (rankOf k') ≠ 0) = False := by simp [hr]
  have q1 := clean7_ok2 c s
  have q2 := clean7_ok2 c' s'
  have q3 := cmp4_ok2 c s c' s'

  refine f29 rfl ?_
  simp (disch := omega) only [go_sem, r29_T, r29, Val.enc, w64, cmpV, hl, g1', if_false, if_true, hgt, en, r1, r2, r3, g1, q1, q2, q3]

theorem look_4 (c s t xs ks k' c' s' t' ys ks') (left : Int) (h0 : 0 ≤ left) (h5 : left ≤ 5000) (hl : ¬ (left - 1 < 0)) (hr : sgn (rankOf 4) (rankOf k') = 0) (ht : t.size ≤ maxLen)
    : LookIs (.mk 4 c s t xs ks) (.mk k' c' s' t' ys ks') left := by
  intro hp
  have hgt : (4096 < 4096 - left + 1) = False := eq_false (by omega)
  have en : nOf (left - 1) = 4096 - left + 1 := by rw [nOf_pos (by omega)]; omega
  have r1 := rank7_ok 4
  have r2 := rank7_ok k'
  have r3 := sign7_ok (rankOf 4) (rankOf k')
  have g1 : (sgn (rankOf 4) (rankOf k') != 0) = false := by simp [hr]
  have g1' : (sgn (rankOf 4) (rankOf k') ≠ 0) = False := by simp [hr]
  have p1 := text_ok t t' ht
  have k3 : ((4 : Int) = 3) = False := by simp
  have k4 : ((4 : Int) = 4) = True := by simp

  refine f29 rfl ?_
  simp (disch := omega) only [go_sem, r29_T, r29, Val.enc, w64, cmpV, hl, g1', if_false, if_true, k3, true_or, or_true, hgt, en, r1, r2, r3, g1, p1, k4]

theorem look_7 (c s t xs ks k' c' s' t' ys ks') (left : Int) (h0 : 0 ≤ left) (h5 : left ≤ 5000) (hl : ¬ (left - 1 < 0)) (hr : sgn (rankOf 7) (rankOf k') = 0) (ht : t.size ≤ maxLen)
    : LookIs (.mk 7 c s t xs ks) (.mk k' c' s' t' ys ks') left := by
  intro hp
  have hgt : (4096 < 4096 - left + 1) = False := eq_false (by omega)
  have en : nOf (left - 1) = 4096 - left + 1 := by rw [nOf_pos (by omega)]; omega
  have r1 := rank7_ok 7
  have r2 := rank7_ok k'
  have r3 := sign7_ok (rankOf 7) (rankOf k')
  have g1 : (sgn (rankOf 7) (rankOf k') != 0) = false := by simp [hr]
  have g1' : (sgn (rankOf 7) (rankOf k') ≠ 0) = False := by simp [hr]
  have p1 := text_ok t t' ht
  have k3 : ((7 : Int) = 3) = False := by simp
  have k4 : ((7 : Int) = 7) = True := by simp

  refine f29 rfl ?_
  simp (disch := omega) only [go_sem, r29_T, r29, Val.enc, w64, cmpV, hl, g1', if_false, if_true, k3, true_or, or_true, hgt, en, r1, r2, r3, g1, p1, k4]

theorem look_5 (c s t xs ks k' c' s' t' ys ks') (left : Int) (h0 : 0 ≤ left) (h5 : left ≤ 5000) (hl : ¬ (left - 1 < 0)) (hr : sgn (rankOf 5) (rankOf k') = 0) (ih : ∀ x ∈ xs, ∀ y ∈ ys, ∀ left, 0 ≤ left → left ≤ 5000 → -1 ≤ (cmpV x y left).2 ∧ (cmpV x y left).2 ≤ 5000 ∧ LookIs x y left) (hla : xs.length ≤ maxLen)
    : LookIs (.mk 5 c s t xs ks) (.mk k' c' s' t' ys ks') left := by
  intro hp
  have hgt : (4096 < 4096 - left + 1) = False := eq_false (by omega)
  have en : nOf (left - 1) = 4096 - left + 1 := by rw [nOf_pos (by omega)]; omega
  have r1 := rank7_ok 5
  have r2 := rank7_ok k'
  have r3 := sign7_ok (rankOf 5) (rankOf k')
  have g1 : (sgn (rankOf 5) (rankOf k') != 0) = false := by simp [hr]
  have g1' : (sgn (rankOf 5) (rankOf k') ≠ 0) = False := by simp [hr]
  have k3 : ((5 : Int) = 3) = False := by simp
  have k4 : ((5 : Int) = 4) = False := by simp
  have k5 : ((5 : Int) = 5) = True := by simp
  have k6 : ((5 : Int) = 6) = False := by simp
  have k7 : ((5 : Int) = 7) = False := by simp
  have e1 : 4096 - left + 1 = 4096 - (left - 1) := by omega
  have hs := sign7_ok xs.length ys.length
  have hL := look_loop 5 c s k' c' s' t t' (ks.map .str) (ks'.map .str) xs ys hla ih (min xs.length ys.length) 0 (left - 1) (by omega) (by omega) (by omega)
  unfold LookLoop at hL
  rw [List.drop_zero, List.drop_zero, ← e1] at hL
  refine f29 rfl ?_
  simp (disch := omega) only [go_sem, r29_T, r29, Val.enc, w64, cmpV, hl, g1', if_false, if_true, k3, k4, k5, k6, k7, or_self, hgt, r1, r2, r3, g1]
  rw [r29_B0_n]
  try rw [hr]
  rcases hL with ⟨b1, hL⟩ | ⟨b1, q, hL, ⟨b2, b3⟩ | ⟨b2, b3⟩⟩
  · erw [hL]
    rw [nOf_neg b1, cmpVs_neg _ _ _ (by omega) b1]
    simp (disch := omega) only [go_sem]
  · erw [hL]
    rw [nOf_pos b1, b3]
    subst b2
    simp (disch := omega) only [go_sem, encs_len, hs]
  · erw [hL]
    rw [nOf_pos b1, b3]
    have b4 : (q == 0) = false := by simpa using b2
    simp (disch := omega) only [go_sem, b2, b4]

theorem look_6a (c s t xs ks k' c' s' t' ys ks') (left : Int) (h0 : 0 ≤ left) (h5 : left ≤ 5000) (hl : ¬ (left - 1 < 0)) (hr : sgn (rankOf 6) (rankOf k') = 0) (ih : ∀ x ∈ xs, ∀ y ∈ ys, ∀ left, 0 ≤ left → left ≤ 5000 → -1 ≤ (cmpV x y left).2 ∧ (cmpV x y left).2 ≤ 5000 ∧ LookIs x y left) (hla : xs.length ≤ maxLen) (hks : ks.length ≤ maxLen) (hkx : ∀ x ∈ ks, x.size ≤ maxLen) (hk : keysC ks ks' = 0)
    : LookIs (.mk 6 c s t xs ks) (.mk k' c' s' t' ys ks') left := by
  intro hp
  have hgt : (4096 < 4096 - left + 1) = False := eq_false (by omega)
  have en : nOf (left - 1) = 4096 - left + 1 := by rw [nOf_pos (by omega)]; omega
  have r1 := rank7_ok 6
  have r2 := rank7_ok k'
  have r3 := sign7_ok (rankOf 6) (rankOf k')
  have g1 : (sgn (rankOf 6) (rankOf k') != 0) = false := by simp [hr]
  have g1' : (sgn (rankOf 6) (rankOf k') ≠ 0) = False := by simp [hr]
  have k3 : ((6 : Int) = 3) = False := by simp
  have k4 : ((6 : Int) = 4) = False := by simp
  have k5 : ((6 : Int) = 5) = False := by simp
  have k6 : ((6 : Int) = 6) = True := by simp
  have k7 : ((6 : Int) = 7) = False := by simp
  have p2 := keys_ok ks ks' hks hkx
  have f1' : (keysC ks ks' ≠ 0) = False := by simp [hk]
  rw [hk] at p2
  have e1 : 4096 - left + 1 = 4096 - (left - 1) := by omega
  have hs := sign7_ok xs.length ys.length
  have hL := look_loop 6 c s k' c' s' t t' (ks.map .str) (ks'.map .str) xs ys hla ih (min xs.length ys.length) 0 (left - 1) (by omega) (by omega) (by omega)
  unfold LookLoop at hL
  rw [List.drop_zero, List.drop_zero, ← e1] at hL
  refine f29 rfl ?_
  simp (disch := omega) only [go_sem, r29_T, r29, Val.enc, w64, cmpV, hl, g1', if_false, if_true, k3, k4, k5, k6, k7, f1', or_self, hgt, r1, r2, r3, g1, p2]
  rw [r29_B0_n]
  try rw [hr]
  rcases hL with ⟨b1, hL⟩ | ⟨b1, q, hL, ⟨b2, b3⟩ | ⟨b2, b3⟩⟩
  · erw [hL]
    rw [nOf_neg b1, cmpVs_neg _ _ _ (by omega) b1]
    simp (disch := omega) only [go_sem]
  · erw [hL]
    rw [nOf_pos b1, b3]
    subst b2
    simp (disch := omega) only [go_sem, encs_len, hs]
  · erw [hL]
    rw [nOf_pos b1, b3]
    have b4 : (q == 0) = false := by simpa using b2
    simp (disch := omega) only [go_sem, b2, b4]

theorem look_6b (c s t xs ks k' c' s' t' ys ks') (left : Int) (h0 : 0 ≤ left) (h5 : left ≤ 5000) (hl : ¬ (left - 1 < 0)) (hr : sgn (rankOf 6) (rankOf k') = 0) (hks : ks.length ≤ maxLen) (hkx : ∀ x ∈ ks, x.size ≤ maxLen) (hk : keysC ks ks' ≠ 0)
    : LookIs (.mk 6 c s t xs ks) (.mk k' c' s' t' ys ks') left := by
  intro hp
  have hgt : (4096 < 4096 - left + 1) = False := eq_false (by omega)
  have en : nOf (left - 1) = 4096 - left + 1 := by rw [nOf_pos (by omega)]; omega
  have r1 := rank7_ok 6
  have r2 := rank7_ok k'
  have r3 := sign7_ok (rankOf 6) (rankOf k')
  have g1 : (sgn (rankOf 6) (rankOf k') != 0) = false := by simp [hr]
  have g1' : (sgn (rankOf 6) (rankOf k') ≠ 0) = False := by simp [hr]
  have k3 : ((6 : Int) = 3) = False := by simp
  have k4 : ((6 : Int) = 4) = False := by simp
  have k5 : ((6 : Int) = 5) = False := by simp
  have k6 : ((6 : Int) = 6) = True := by simp
  have k7 : ((6 : Int) = 7) = False := by simp
  have p2 := keys_ok ks ks' hks hkx
  have f1' : (keysC ks ks' ≠ 0) = True := by simp [hk]
  have f2 : (keysC ks ks' == 0) = false := by simpa using hk
  have hL := look_stop 6 c s k' c' s' t t' (ks.map .str) (ks'.map .str) xs ys (keysC ks ks') 0 (4096 - left + 1) hk
  refine f29 rfl ?_
  simp (disch := omega) only [go_sem, r29_T, r29, Val.enc, w64, cmpV, hl, g1', if_false, if_true, k3, k4, k5, k6, k7, f1', or_self, hgt, en, r1, r2, r3, g1, p2]
  rw [r29_B0_n]
  erw [hL]
  simp (disch := omega) only [go_sem, hk, f2]

theorem look_no (k c s t xs ks k' c' s' t' ys ks') (left : Int) (h0 : 0 ≤ left) (h5 : left ≤ 5000) (hl : ¬ (left - 1 < 0)) (hr : sgn (rankOf k) (rankOf k') = 0) (k3 : ¬ k = 3) (k4 : ¬ k = 4) (k5 : ¬ k = 5) (k6 : ¬ k = 6) (k7 : ¬ k = 7)
    : LookIs (.mk k c s t xs ks) (.mk k' c' s' t' ys ks') left := by
  intro hp
  have hgt : (4096 < 4096 - left + 1) = False := eq_false (by omega)
  have en : nOf (left - 1) = 4096 - left + 1 := by rw [nOf_pos (by omega)]; omega
  have r1 := rank7_ok k
  have r2 := rank7_ok k'
  have r3 := sign7_ok (rankOf k) (rankOf k')
  have g1 : (sgn (rankOf k) (rankOf k') != 0) = false := by simp [hr]
  have g1' : (sgn (rankOf k) (rankOf k') ≠ 0) = False := by simp [hr]
  have e3 : (k == 3) = false := by simpa using k3
  have e4 : (k == 4) = false := by simpa using k4
  have e5 : (k == 5) = false := by simpa using k5
  have e6 : (k == 6) = false := by simpa using k6
  have e7 : (k == 7) = false := by simpa using k7

  refine f29 rfl ?_
  simp (disch := omega) only [go_sem, r29_T, r29, Val.enc, w64, cmpV, hl, g1', if_false, if_true, k3, k4, k5, k6, k7, or_self, hgt, en, r1, r2, r3, g1, e3, e4, e5, e6, e7]

theorem look_ok : ∀ (x y : Val) (left : Int), x.ok → y.ok → 0 ≤ left → left ≤ 5000 → LookIs x y left
  | .mk k c s t xs ks, .mk k' c' s' t' ys ks', left, hx, hy, h0, h5 => by
    simp only [Val.ok] at hx hy
    have ih : ∀ x ∈ xs, ∀ y ∈ ys, ∀ left, 0 ≤ left → left ≤ 5000 → -1 ≤ (cmpV x y left).2 ∧ (cmpV x y left).2 ≤ 5000 ∧ LookIs x y left :=
      fun x hx' y hy' left h0 h5 => by
        have hw := walk_ok x y left (oks_mem hx.2.2.2.2.2.2.2 hx') (oks_mem hy.2.2.2.2.2.2.2 hy') h0 h5
        exact ⟨hw.1, hw.2.1, look_ok x y left (oks_mem hx.2.2.2.2.2.2.2 hx') (oks_mem hy.2.2.2.2.2.2.2 hy') h0 h5⟩
    by_cases hl : left - 1 < 0
    · exact look_low _ _ _ _ _ _ _ _ _ _ _ _ left h0 h5 hl
    · by_cases hr : sgn (rankOf k) (rankOf k') = 0
      · by_cases k3 : k = 3
        · subst k3; exact look_3 _ _ _ _ _ _ _ _ _ _ _ left h0 h5 hl hr
        by_cases k4 : k = 4
        · subst k4; exact look_4 _ _ _ _ _ _ _ _ _ _ _ left h0 h5 hl hr hx.2.2.2.1
        by_cases k7 : k = 7
        · subst k7; exact look_7 _ _ _ _ _ _ _ _ _ _ _ left h0 h5 hl hr hx.2.2.2.1
        by_cases k5 : k = 5
        · subst k5; exact look_5 _ _ _ _ _ _ _ _ _ _ _ left h0 h5 hl hr ih hx.2.2.2.2.1
        by_cases k6 : k = 6
        · subst k6
          by_cases hk : keysC ks ks' = 0
          · exact look_6a _ _ _ _ _ _ _ _ _ _ _ left h0 h5 hl hr ih hx.2.2.2.2.1 hx.2.2.2.2.2.1 hx.2.2.2.2.2.2.1 hk
          · exact look_6b _ _ _ _ _ _ _ _ _ _ _ left h0 h5 hl hr hx.2.2.2.2.2.1 hx.2.2.2.2.2.2.1 hk
        exact look_no _ _ _ _ _ _ _ _ _ _ _ _ left h0 h5 hl hr k3 k4 k5 k6 k7
      · exact look_rank _ _ _ _ _ _ _ _ _ _ _ _ left h0 h5 hl hr
end Go.Pe.T

namespace Go.Pe.T
theorem rcmp_ok (x y : Val) (hx : x.ok) (hy : y.ok) (hp : List Ent) : F tab 11 [.d x.enc, .d y.enc] hp = some (.ret (.tup [.d (iv (cmpV x y 4096).1), .d (.bool (cmpR x y).2)]) hp) := by
  obtain ⟨b1, b2, _⟩ := walk_ok x y 4096 hx hy (by omega) (by omega)
  have h := look_ok x y 4096 hx hy (by omega) (by omega)
  unfold LookIs at h
  have e0 : (4096 : Int) - 4096 = 0 := rfl
  rw [e0] at h
  refine f11 rfl ?_
  unfold cmpR
  obtain ⟨k, c, s, t, xs, ks, ex⟩ := enc_as x
  obtain ⟨k', c', s', t', ys, ks', ey⟩ := enc_as y
  rw [ex, ey] at h ⊢
  by_cases hl : (cmpV x y 4096).2 < 0
  · simp (disch := omega) only [go_sem, r11_T, r11, enc_w, enc_a, h, hl, nOf_neg hl]
  · have hle : (4096 - (cmpV x y 4096).2 ≤ 4096) = True := eq_true (by omega)
    simp (disch := omega) only [go_sem, r11_T, r11, enc_w, enc_a, h, hl, nOf_pos (Int.not_lt.1 hl), hle]
mutual
theorem strip_ok' : ∀ (x : Nd), x.lim 1048576 → x.strip.ok
  | .mk l d k c s t xs ks, h => by
    have hm : maxLen = 9223372036854775807 := by decide
    simp only [Nd.lim] at h
    simp only [Nd.strip, Val.ok, strips_len]
    exact ⟨h.1.2.2.1, h.1.2.2.2.1, h.1.2.2.2.2, by omega, by omega, by omega, fun x hx => by have := h.2.2.2.2.1 x hx; omega, strips_ok xs h.2.2.2.2.2⟩
theorem strips_ok : ∀ (xs : List Nd), Nd.lims 1048576 xs → Val.oks (Nd.strips xs)
  | [], _ => trivial
  | x :: xs, h => ⟨strip_ok' x h.1, strips_ok xs h.2⟩
end
theorem leaf_ok (l d k c s : Int) (t : ByteArray) (xs ks : List D) (hp : List Ent) : F tab 31 [.d (.agg [iv l, iv d, iv k, iv c, iv s, .str t, .sl xs, .sl ks])] hp = some (.ret (.d (.agg [iv k, iv c, iv s, .str t, .sl [], .sl []])) hp) := by
  refine f31 rfl ?_
  simp (disch := omega) only [go_sem, r31_T, r31]
def leafV (k c s : Int) (t : ByteArray) : Val := .mk k c s t [] []
theorem rank_eq {k k' : Int} (h : sgn (rankOf k) (rankOf k') = 0) : rankOf k = rankOf k' := by
  unfold sgn at h
  split at h
  · simp at h
  · split at h
    · simp at h
    · omega
theorem rank_inv {k k' : Int} (h : rankOf k = rankOf k') (h0 : 0 ≤ k ∧ k ≤ 7) : k' = k := by
  unfold rankOf at h
  split at h
  · omega
  · split at h
    · omega
    · split at h
      · omega
      · split at h <;> omega
theorem leaf_cmp (k c s : Int) (t : ByteArray) (xs : List Val) (ks : List ByteArray) (k' c' s' : Int) (t' : ByteArray) (ys : List Val) (ks' : List ByteArray) (left : Int) (hl : ¬ left - 1 < 0) (h : k ≠ k' ∨ (k ≠ 5 ∧ k ≠ 6)) :
    (cmpR (leafV k c s t) (leafV k' c' s' t')).1 = (cmpV (.mk k c s t xs ks) (.mk k' c' s' t' ys ks') left).1 ∧ (cmpV (.mk k c s t xs ks) (.mk k' c' s' t' ys ks') left).2 = left - 1 := by
  have key : ∀ (xs ys : List Val) (ks ks' : List ByteArray) (left : Int), ¬ left - 1 < 0 → cmpV (.mk k c s t xs ks) (.mk k' c' s' t' ys ks') left = ((if sgn (rankOf k) (rankOf k') ≠ 0 then sgn (rankOf k) (rankOf k') else if k = 3 then sgn (flatS c s) (flatS c' s') else if k = 4 ∨ k = 7 then txt t t' else 0), left - 1) := by
    intro xs ys ks ks' left hl
    simp only [cmpV]
    rw [if_neg hl]
    by_cases h1 : sgn (rankOf k) (rankOf k') ≠ 0
    · rw [if_pos h1, if_pos h1]
    · rw [if_neg h1, if_neg h1]
      have hr := rank_eq (by simpa using h1)
      have h56 : k ≠ 5 ∧ k ≠ 6 := by
        rcases h with h | h
        · constructor
          · intro e
            have := rank_inv hr (by omega)
            omega
          · intro e
            have := rank_inv hr (by omega)
            omega
        · exact h
      by_cases h3 : k = 3
      · rw [if_pos h3, if_pos h3]
      · rw [if_neg h3, if_neg h3]
        by_cases h4 : k = 4 ∨ k = 7
        · rw [if_pos h4, if_pos h4]
        · rw [if_neg h4, if_neg h4, if_neg h56.1, if_neg h56.2]
  have e1 := key [] [] [] [] 4096 (by omega)
  have e2 := key xs ys ks ks' left hl
  unfold cmpR leafV
  rw [e1, e2]
  rw [if_neg (by simp)]
  exact ⟨rfl, rfl⟩
def NwIs (x y : Nd) (left : Int) : Prop :=
  -1 ≤ (cmpV x.strip y.strip left).2 ∧ (cmpV x.strip y.strip left).2 ≤ 5000 ∧ F tab 28 [.ptr 0 0, .d x.enc, .d y.enc] [.box [.d (iv left)]] = some (.ret (.d (iv (cmpV x.strip y.strip left).1)) [.box [.d (iv (cmpV x.strip y.strip left).2)]])
theorem oit_loop (a b : List Nd) (hla : a.length ≤ 1048576) (hlb : b.length ≤ 1048576) (ih : ∀ x ∈ a, ∀ y ∈ b, ∀ left, 0 ≤ left → left ≤ 5000 → NwIs x y left) : ∀ (j i : Nat) (left : Int), i + j = min a.length b.length → 0 ≤ left → left ≤ 5000 →
    -1 ≤ (cmpVs (Nd.strips (a.drop i)) (Nd.strips (b.drop i)) left).2 ∧ (cmpVs (Nd.strips (a.drop i)) (Nd.strips (b.drop i)) left).2 ≤ 5000 ∧
    (V (F tab) r70_B0 (r70_S0 (.ptr 0 0) (.d (.sl (Nd.encs a))) (.d (.sl (Nd.encs b))) (.d (iv (min a.length b.length : Nat))) (.d (iv i)) [.box [.d (iv left)]]) =
      some (.norm, r70_E0 (.d (.sl (Nd.encs a))) (.d (.sl (Nd.encs b))) [.box [.d (iv (cmpVs (Nd.strips (a.drop i)) (Nd.strips (b.drop i)) left).2)]]) ∧ (cmpVs (Nd.strips (a.drop i)) (Nd.strips (b.drop i)) left).1 = sgn a.length b.length ∨
     V (F tab) r70_B0 (r70_S0 (.ptr 0 0) (.d (.sl (Nd.encs a))) (.d (.sl (Nd.encs b))) (.d (iv (min a.length b.length : Nat))) (.d (iv i)) [.box [.d (iv left)]]) =
      some (.ret, r70_R (.d (iv (cmpVs (Nd.strips (a.drop i)) (Nd.strips (b.drop i)) left).1)) [.box [.d (iv (cmpVs (Nd.strips (a.drop i)) (Nd.strips (b.drop i)) left).2)]]))
  | 0, i, left, hi, h0, h5 => by
    have h1 : ((i : Int) < ((min a.length b.length : Nat) : Int)) = False := eq_false (by omega)
    have e : cmpVs (Nd.strips (a.drop i)) (Nd.strips (b.drop i)) left = (sgn (a.drop i).length (b.drop i).length, left) := by
      rcases Nat.le_total a.length b.length with h | h
      · rw [List.drop_of_length_le (by omega : a.length ≤ i)]; simp [cmpVs, Nd.strips, strips_len]
      · rw [List.drop_of_length_le (by omega : b.length ≤ i)]; cases a.drop i <;> simp [cmpVs, Nd.strips, strips_len]
    rw [e]
    refine ⟨by simp only; omega, h5, .inl ⟨?_, ?_⟩⟩
    · rw [r70_B0_eq]
      simp only [go_sem, r70_C0, h1]
    · simp only [List.length_drop]
      unfold sgn
      split <;> split <;> (try split) <;> omega
  | j + 1, i, left, hi, h0, h5 => by
    have ga : i < a.length := by omega
    have gb : i < b.length := by omega
    have h1 : ((i : Int) < ((min a.length b.length : Nat) : Int)) = True := eq_true (by omega)
    have hi0 : (0 ≤ (i : Int)) = True := eq_true (by omega)
    have va : (Nd.encs a)[i]? = some (a[i].enc) := by rw [nencs_get]; simp [ga]
    have vb : (Nd.encs b)[i]? = some (b[i].enc) := by rw [nencs_get]; simp [gb]
    have e1 : (i : Int) + 1 = ((i + 1 : Nat) : Int) := rfl
    obtain ⟨c1, c2, c3⟩ := ih a[i] (List.getElem_mem ga) b[i] (List.getElem_mem gb) left h0 h5
    rw [List.drop_eq_getElem_cons ga, List.drop_eq_getElem_cons gb, Nd.strips, Nd.strips]
    simp only [cmpVs]
    have wa := nenc_w a[i]
    have wb := nenc_w b[i]
    have aa := nenc_a a[i]
    have ab := nenc_a b[i]
    generalize cmpV a[i].strip b[i].strip left = r at *
    obtain ⟨c, l⟩ := r
    simp only at c1 c2 c3 ⊢
    generalize a[i].enc = XA at *
    generalize b[i].enc = XB at *
    rw [r70_B0_eq]
    by_cases hc : c = 0
    · have g1 : (c != 0) = false := by simp [hc]
      by_cases hl : l < 0
      · rw [if_pos (Or.inr hl)]
        refine ⟨c1, c2, .inr ?_⟩
        simp (disch := omega) only [go_sem, r70_C0, h1, hi0, va, vb, wa, wb, aa, ab, c3, g1, hl, w64]
      · rw [if_neg (by omega)]
        have hx := oit_loop a b hla hlb ih j (i + 1) l (by omega) (by omega) c2
        refine ⟨hx.1, hx.2.1, ?_⟩
        simp (disch := omega) only [go_sem, r70_C0, h1, hi0, va, vb, wa, wb, aa, ab, c3, g1, hl, e1, w64]
        exact hx.2.2
    · have g1 : (c != 0) = true := by simp [hc]
      rw [if_pos (Or.inl hc)]
      refine ⟨c1, c2, .inr ?_⟩
      simp (disch := omega) only [go_sem, r70_C0, h1, hi0, va, vb, wa, wb, aa, ab, c3, g1, w64]
theorem oit_ok (a b : List Nd) (hla : a.length ≤ 1048576) (hlb : b.length ≤ 1048576) (ih : ∀ x ∈ a, ∀ y ∈ b, ∀ left, 0 ≤ left → left ≤ 5000 → NwIs x y left) (left : Int) (h0 : 0 ≤ left) (h5 : left ≤ 5000) :
    -1 ≤ (cmpVs (Nd.strips a) (Nd.strips b) left).2 ∧ (cmpVs (Nd.strips a) (Nd.strips b) left).2 ≤ 5000 ∧ F tab 70 [.ptr 0 0, .d (.sl (Nd.encs a)), .d (.sl (Nd.encs b))] [.box [.d (iv left)]] = some (.ret (.d (iv (cmpVs (Nd.strips a) (Nd.strips b) left).1)) [.box [.d (iv (cmpVs (Nd.strips a) (Nd.strips b) left).2)]]) := by
  obtain ⟨b1, b2, hL⟩ := oit_loop a b hla hlb ih (min a.length b.length) 0 left (by omega) h0 h5
  rw [List.drop_zero, List.drop_zero] at b1 b2 hL
  refine ⟨b1, b2, f70 ?_⟩
  have hs := cmpi_ok a.length b.length
  have hm : (if (b.length : Int) < (a.length : Int) then (b.length : Int) else (a.length : Int)) = ((min a.length b.length : Nat) : Int) := by
    split <;> omega
  simp (disch := omega) only [go_sem, r70_T, r70, nencs_len, hm]
  rw [r70_B0_n]
  rcases hL with ⟨hL, e⟩ | hL
  · erw [hL]
    rw [e]
    simp (disch := omega) only [go_sem, nencs_len, hs, r70]
  · erw [hL]
    simp (disch := omega) only [go_sem, r70]
theorem nw_low (x y : Nd) (left : Int) (h0 : 0 ≤ left) (h5 : left ≤ 5000) (hl : left - 1 < 0) : NwIs x y left := by
  obtain ⟨l, d, k, c, s, t, xs, ks⟩ := x
  obtain ⟨l', d', k', c', s', t', ys, ks'⟩ := y
  unfold NwIs
  simp only [Nd.strip, cmpV, hl, if_true]
  refine ⟨by omega, by omega, f28 ?_⟩
  rw [Nd.enc, Nd.enc]
  simp (disch := omega) only [go_sem, r28_T, r28, w64, hl]
theorem nw_leaf (l d k c s : Int) (t : ByteArray) (xs : List Nd) (ks : List ByteArray) (l' d' k' c' s' : Int) (t' : ByteArray) (ys : List Nd) (ks' : List ByteArray) (left : Int) (h0 : 0 ≤ left) (h5 : left ≤ 5000) (hl : ¬ left - 1 < 0) (hx : (leafV k c s t).ok) (hy : (leafV k' c' s' t').ok) (h : k ≠ k' ∨ (k ≠ 5 ∧ k ≠ 6)) :
    NwIs (.mk l d k c s t xs ks) (.mk l' d' k' c' s' t' ys ks') left := by
  obtain ⟨e1, e2⟩ := leaf_cmp k c s t (Nd.strips xs) ks k' c' s' t' (Nd.strips ys) ks' left hl h
  have hc := ocmp_ok (leafV k c s t) (leafV k' c' s' t') hx hy
  have f1 := leaf_ok l d k c s t (Nd.encs xs) (ks.map .str)
  have f2 := leaf_ok l' d' k' c' s' t' (Nd.encs ys) (ks'.map .str)
  unfold NwIs
  simp only [Nd.strip]
  rw [e2, ← e1]
  refine ⟨by omega, by omega, f28 ?_⟩
  rw [Nd.enc, Nd.enc]
  generalize cmpR (leafV k c s t) (leafV k' c' s' t') = r at *
  obtain ⟨z, ok⟩ := r
  unfold leafV at hc
  simp only [Val.enc, Val.encs, List.map_nil] at hc
  generalize Nd.encs xs = X at *
  generalize Nd.encs ys = Y at *
  generalize ks.map D.str = K at *
  generalize ks'.map D.str = K' at *
  rcases Bool.eq_false_or_eq_true (k != k') with g | g
  · simp (disch := omega) only [go_sem, r28_T, r28, w64, hl, g, f1, f2, hc]
  · have hk : k = k' := by simpa using g
    have h56 : k ≠ 5 ∧ k ≠ 6 := h.resolve_left (fun hn => hn hk)
    have g5 : (k != 5) = true := by simpa using h56.1
    have g6 : (k != 6) = true := by simpa using h56.2
    simp (disch := omega) only [go_sem, r28_T, r28, w64, hl, g, g5, g6, f1, f2, hc]
theorem sgn_self (z : Int) : sgn z z = 0 := by
  unfold sgn
  rw [if_neg (by omega), if_neg (by omega)]
theorem nw_5 (l d c s : Int) (t : ByteArray) (xs : List Nd) (ks : List ByteArray) (l' d' c' s' : Int) (t' : ByteArray) (ys : List Nd) (ks' : List ByteArray) (left : Int) (h0 : 0 ≤ left) (h5 : left ≤ 5000) (hl : ¬ left - 1 < 0)
    (hi : -1 ≤ (cmpVs (Nd.strips xs) (Nd.strips ys) (left - 1)).2 ∧ (cmpVs (Nd.strips xs) (Nd.strips ys) (left - 1)).2 ≤ 5000 ∧ F tab 70 [.ptr 0 0, .d (.sl (Nd.encs xs)), .d (.sl (Nd.encs ys))] [.box [.d (iv (left - 1))]] = some (.ret (.d (iv (cmpVs (Nd.strips xs) (Nd.strips ys) (left - 1)).1)) [.box [.d (iv (cmpVs (Nd.strips xs) (Nd.strips ys) (left - 1)).2)]])) :
    NwIs (.mk l d 5 c s t xs ks) (.mk l' d' 5 c' s' t' ys ks') left := by
  have e : cmpV (.mk 5 c s t (Nd.strips xs) ks) (.mk 5 c' s' t' (Nd.strips ys) ks') left = cmpVs (Nd.strips xs) (Nd.strips ys) (left - 1) := by
    simp only [cmpV]
    rw [if_neg hl, sgn_self, if_neg (by simp), if_neg (by simp), if_neg (by simp), if_pos trivial]
  unfold NwIs
  simp only [Nd.strip]
  rw [e]
  refine ⟨hi.1, hi.2.1, f28 ?_⟩
  have hi := hi.2.2
  rw [Nd.enc, Nd.enc]
  have g : ((5 : Int) != 5) = false := rfl
  have g6 : ((5 : Int) == 6) = false := rfl
  generalize cmpVs (Nd.strips xs) (Nd.strips ys) (left - 1) = r at *
  generalize Nd.encs xs = X at *
  generalize Nd.encs ys = Y at *
  generalize ks.map D.str = K at *
  generalize ks'.map D.str = K' at *
  simp (disch := omega) only [go_sem, r28_T, r28, w64, hl, g, g6, hi]
theorem nw_6 (l d c s : Int) (t : ByteArray) (xs : List Nd) (ks : List ByteArray) (l' d' c' s' : Int) (t' : ByteArray) (ys : List Nd) (ks' : List ByteArray) (left : Int) (h0 : 0 ≤ left) (h5 : left ≤ 5000) (hl : ¬ left - 1 < 0) (hk : ks.length ≤ maxLen)
    (hi : -1 ≤ (cmpVs (Nd.strips xs) (Nd.strips ys) (left - 1)).2 ∧ (cmpVs (Nd.strips xs) (Nd.strips ys) (left - 1)).2 ≤ 5000 ∧ F tab 70 [.ptr 0 0, .d (.sl (Nd.encs xs)), .d (.sl (Nd.encs ys))] [.box [.d (iv (left - 1))]] = some (.ret (.d (iv (cmpVs (Nd.strips xs) (Nd.strips ys) (left - 1)).1)) [.box [.d (iv (cmpVs (Nd.strips xs) (Nd.strips ys) (left - 1)).2)]])) :
    NwIs (.mk l d 6 c s t xs ks) (.mk l' d' 6 c' s' t' ys ks') left := by
  have p2 := scmp_ok ks ks' hk
  have e : cmpV (.mk 6 c s t (Nd.strips xs) ks) (.mk 6 c' s' t' (Nd.strips ys) ks') left = if keysC ks ks' ≠ 0 then (keysC ks ks', left - 1) else cmpVs (Nd.strips xs) (Nd.strips ys) (left - 1) := by
    simp only [cmpV]
    rw [if_neg hl, sgn_self, if_neg (by simp), if_neg (by simp), if_neg (by simp), if_neg (by simp), if_pos trivial]
  have g : ((6 : Int) != 6) = false := rfl
  have g5 : ((6 : Int) != 5) = true := rfl
  have g6 : ((6 : Int) == 6) = true := rfl
  unfold NwIs
  simp only [Nd.strip]
  rw [e, Nd.enc, Nd.enc]
  generalize cmpVs (Nd.strips xs) (Nd.strips ys) (left - 1) = r at *
  generalize Nd.encs xs = X at *
  generalize Nd.encs ys = Y at *
  by_cases hz : keysC ks ks' = 0
  · rw [if_neg (by simpa using hz)]
    refine ⟨hi.1, hi.2.1, f28 ?_⟩
    have hi := hi.2.2
    have gz : (keysC ks ks' != 0) = false := by simpa using hz
    simp (disch := omega) only [go_sem, r28_T, r28, w64, hl, g, g5, g6, p2, gz, hi]
  · rw [if_pos hz]
    refine ⟨by simp only; omega, by simp only; omega, f28 ?_⟩
    have gz : (keysC ks ks' != 0) = true := by simpa using hz
    simp (disch := omega) only [go_sem, r28_T, r28, w64, hl, g, g5, g6, p2, gz]
theorem leafV_ok {x : Val} {k c s : Int} {t : ByteArray} {xs : List Val} {ks : List ByteArray} (h : (Val.mk k c s t xs ks).ok) : (leafV k c s t).ok := by
  simp only [Val.ok] at h
  unfold leafV
  simp only [Val.ok, Val.oks, List.length_nil]
  exact ⟨h.1, h.2.1, h.2.2.1, h.2.2.2.1, by omega, by omega, by simp, trivial⟩
theorem nw_ok : ∀ (x y : Nd) (left : Int), x.lim 1048576 → y.lim 1048576 → 0 ≤ left → left ≤ 5000 → NwIs x y left
  | .mk l d k c s t xs ks, .mk l' d' k' c' s' t' ys ks', left, hx, hy, h0, h5 => by
    have ox := strip_ok' _ hx
    have oy := strip_ok' _ hy
    rw [Nd.strip] at ox oy
    have hm : maxLen = 9223372036854775807 := by decide
    simp only [Nd.lim] at hx hy
    have ih : ∀ x ∈ xs, ∀ y ∈ ys, ∀ left, 0 ≤ left → left ≤ 5000 → NwIs x y left := fun x hx' y hy' left h0 h5 => nw_ok x y left (nlims_mem hx.2.2.2.2.2 hx') (nlims_mem hy.2.2.2.2.2 hy') h0 h5
    by_cases hl : left - 1 < 0
    · exact nw_low _ _ left h0 h5 hl
    · by_cases hc : k ≠ k' ∨ (k ≠ 5 ∧ k ≠ 6)
      · exact nw_leaf _ _ _ _ _ _ _ _ _ _ _ _ _ _ _ _ left h0 h5 hl (leafV_ok (x := leafV k c s t) ox) (leafV_ok (x := leafV k c s t) oy) hc
      · have e : k = k' ∧ (k = 5 ∨ k = 6) := by omega
        obtain ⟨rfl, e⟩ := e
        have hi := oit_ok xs ys hx.2.2.1 hy.2.2.1 ih (left - 1) (by omega) (by omega)
        rcases e with rfl | rfl
        · exact nw_5 _ _ _ _ _ _ _ _ _ _ _ _ _ _ left h0 h5 hl hi
        · exact nw_6 _ _ _ _ _ _ _ _ _ _ _ _ _ _ left h0 h5 hl (by omega) hi
theorem nenc_as (v : Nd) : ∃ l d k c s t xs ks, v.enc = .agg [iv l, iv d, iv k, iv c, iv s, .str t, .sl xs, .sl ks] := by
  cases v; exact ⟨_, _, _, _, _, _, _, _, rfl⟩
theorem opcmp_ok (x y : Nd) (hx : x.lim 1048576) (hy : y.lim 1048576) (hp : List Ent) : F tab 10 [.d x.enc, .d y.enc] hp = some (.ret (.tup [.d (iv (cmpR x.strip y.strip).1), .d (.bool (cmpR x.strip y.strip).2)]) hp) := by
  obtain ⟨b1, b2, h⟩ := nw_ok x y 4096 hx hy (by omega) (by omega)
  refine f10 rfl ?_
  unfold cmpR
  generalize cmpV x.strip y.strip 4096 = r at *
  obtain ⟨z, w⟩ := r
  obtain ⟨l, d, k, c, s, t, xs, ks, ex⟩ := nenc_as x
  obtain ⟨l', d', k', c', s', t', ys, ks', ey⟩ := nenc_as y
  rw [ex, ey] at h ⊢
  simp only at h b1 b2 ⊢
  by_cases hl : w < 0
  · simp (disch := omega) only [go_sem, r10_T, r10, h, hl]
  · simp (disch := omega) only [go_sem, r10_T, r10, h, hl]
theorem btrue_ok (k c s : Int) (t : ByteArray) (xs ks : List D) (hp : List Ent) : F tab 30 [.d (.agg [iv k, iv c, iv s, .str t, .sl xs, .sl ks])] hp = some (.ret (.d (.bool ((k != 0) && (k != 1)))) hp) := by
  refine f30 rfl ?_
  rcases Bool.eq_false_or_eq_true (k != 0) with g | g
  · rw [g, Bool.true_and]
    simp (disch := omega) only [go_sem, r30_T, r30, g]
  · rw [g, Bool.false_and]
    simp (disch := omega) only [go_sem, r30_T, r30, g]
theorem rtrue_ok (k c s : Int) (t : ByteArray) (xs ks : List D) (hp : List Ent) : F tab 14 [.d (.agg [iv k, iv c, iv s, .str t, .sl xs, .sl ks])] hp = some (.ret (.d (.bool ((k != 0) && (k != 1)))) hp) := by
  refine f14 rfl ?_
  rcases Bool.eq_false_or_eq_true (k != 0) with g | g
  · rw [g, Bool.true_and]
    simp (disch := omega) only [go_sem, r14_T, r14, g]
  · rw [g, Bool.false_and]
    simp (disch := omega) only [go_sem, r14_T, r14, g]
theorem otrue_ok (l d k c s : Int) (t : ByteArray) (xs ks : List D) (hp : List Ent) : F tab 13 [.d (.agg [iv l, iv d, iv k, iv c, iv s, .str t, .sl xs, .sl ks])] hp = some (.ret (.d (.bool ((k != 0) && (k != 1)))) hp) := by
  have h1 := leaf_ok l d k c s t xs ks
  have h2 := btrue_ok k c s t [] []
  refine f13 rfl ?_
  simp (disch := omega) only [go_sem, r13_T, r13, h1, h2]
end Go.Pe.T

namespace Go.Pe.T
theorem lives20_ok (hp : List Ent) : F tab 9 [] hp = some (.ret (.d (.bool true)) hp) := by
  have h : evF tab 70 9 [] [] = some (.ret (.d (.bool true)) []) := by kernel_rfl
  exact ok_of rfl h hp
theorem of20_ok (k : Int) : ∃ r : Nat, r < 6 ∧ ∀ hp, F tab 7 [.d (iv k)] hp = some (.ret (.tup [.d (latV r), .d (.sl (ttD (tbT r)))]) hp) := by
  obtain ⟨r, hr, hs⟩ := sort_ok k
  have hn := new_ok r hr
  have ht := table_ok r hr
  refine ⟨r, hr, fun hp => ?_⟩
  unfold polD at hs hn ht
  generalize latV r = L at *
  generalize ttD (tbT r) = TD at *
  generalize polN r = PN at *
  generalize prD (polB r) = PB at *
  refine f7 rfl ?_
  simp (disch := omega) only [go_sem, r7_T, r7, hs, hn, ht]
theorem light20_ex {T : List (List Bool)} {m : Nat} (hT : LatT T m) (x : Nd) (hx : x.lim 1048576) : ∃ b : Bool, (∀ hp, F tab 8 [.d (.sl (ttD T)), .d x.enc] hp = some (.ret (.d (.bool b)) hp)) ∧ (b = true → nlabB m x = true ∧ nright T m x = true) := by
  obtain ⟨b, h1, h2⟩ := nis_ex hT x hx
  have h3 := lgn_ok x hx 4500 (by omega)
  generalize lightV x.strip 4500 = q at *
  refine ⟨q && b, fun hp => ?_, fun h => h2 (by simp only [Bool.and_eq_true] at h; exact h.2)⟩
  obtain ⟨l, d, k, c, s, t, xs, ks, ex⟩ := nenc_as x
  rw [ex] at h1 h3 ⊢
  generalize ttD T = TD at *
  refine f8 rfl ?_
  cases q
  · rw [Bool.false_and]
    simp (disch := omega) only [go_sem, r8_T, r8, h3]
  · rw [Bool.true_and]
    simp (disch := omega) only [go_sem, r8_T, r8, h1, h3]
set_option maxHeartbeats 1000000 in
theorem OpsCompares_ok (k : Int) (a b : Nd) (_ : i64 k) (o : a.lim 1048576 ∧ b.lim 1048576) (hp : List Ent) : F tab 3 [.d (iv k), .d (nd2 a b)] hp = some (.ret (.d (.bool true)) hp) := by
  obtain ⟨r, hr, hof⟩ := of20_ok k
  have hT := latT_ok r hr
  obtain ⟨b1, l1, _⟩ := light20_ex hT a o.1
  obtain ⟨b2, l2, _⟩ := light20_ex hT b o.2
  have hv := lives20_ok
  have hc := opcmp_ok a b o.1 o.2
  have hd := rcmp_ok a.strip b.strip (strip_ok' a o.1) (strip_ok' b o.2)
  have s1 := strip_ok a o.1
  have s2 := strip_ok b o.2
  unfold StIs at s1 s2
  have hcc : (cmpR a.strip b.strip).1 = (if (cmpR a.strip b.strip).2 then (cmpV a.strip b.strip 4096).1 else 0) := by
    unfold cmpR
    split
    · rw [if_neg (by simp)]
    · rw [if_pos rfl]
  obtain ⟨z, ok⟩ : ∃ z ok, cmpR a.strip b.strip = (z, ok) := ⟨_, _, rfl⟩
  obtain ⟨ok, hok⟩ := ok
  rw [hok] at hc hd hcc
  simp only at hc hd hcc
  generalize (cmpV a.strip b.strip 4096).1 = y at *
  clear hok
  rw [hcc] at hc
  clear hcc
  obtain ⟨l, d, k1, c, s, t, xs, ks⟩ := a
  obtain ⟨l', d', k', c', s', t', ys, ks'⟩ := b
  have t1 := otrue_ok l d k1 c s t (Nd.encs xs) (ks.map .str)
  have t2 := rtrue_ok k1 c s t (Val.encs (Nd.strips xs)) (ks.map .str)
  simp only [Nd.strip] at *
  simp only [Nd.enc, Val.enc] at *
  have hz : (y == y) = true := by simp
  have z0 : ((0 : Int) == 0) = true := rfl
  have e0 : nd2 (.mk l d k1 c s t xs ks) (.mk l' d' k' c' s' t' ys ks') = .agg [iv l, iv d, iv k1, iv c, iv s, .str t, .sl (Nd.encs xs), .sl (ks.map .str), iv l', iv d', iv k', iv c', iv s', .str t', .sl (Nd.encs ys), .sl (ks'.map .str)] := rfl
  have n2 : ((0 : Int) < ((2 : Nat) : Int)) = True := eq_true (by omega)
  have n3 : ((1 : Int) < ((2 : Nat) : Int)) = True := eq_true (by omega)
  rw [e0]
  generalize ((k1 != 0) && (k1 != 1)) = w at *
  generalize Nd.encs xs = X at *
  generalize Nd.encs ys = Y at *
  generalize Val.encs (Nd.strips xs) = X2 at *
  generalize Val.encs (Nd.strips ys) = Y2 at *
  generalize ks.map D.str = K at *
  generalize ks'.map D.str = K' at *
  generalize latV r = L at *
  generalize ttD (tbT r) = TD at *
  have hw : (w == w) = true := by simp
  refine f3 rfl ?_
  cases b1
  · simp (disch := omega) only [go_sem, r3_T, r3, hof, l1, l2, hv, n2, n3]
  · cases b2
    · simp (disch := omega) only [go_sem, r3_T, r3, hof, l1, l2, hv, n2, n3]
    · cases ok
      · simp only [Bool.false_eq_true, if_false] at hc
        simp (disch := omega) only [go_sem, r3_T, r3, hof, l1, l2, hv, hc, hd, s1, s2, t1, t2, hz, z0, hw, n2, n3]
      · simp only [if_true] at hc
        simp (disch := omega) only [go_sem, r3_T, r3, hof, l1, l2, hv, hc, hd, s1, s2, t1, t2, hz, z0, hw, n2, n3]
end Go.Pe.T
