/- A part of the proof of: BasicStays: nothing put ahead or behind turns nothing; sides may be turned about. -/
import Derived.Test.YtlkeaffppdeghaaGreatBs4
import Derived.Test.YtlkeaffppdeghaaGreatBs3
set_option linter.unusedSimpArgs false
set_option linter.unusedVariables false
set_option maxRecDepth 10000

namespace Go.Pe.T
def zV : Val := .mk 0 0 0 ⟨#[]⟩ [] []
abbrev zD : D := .agg [iv 0, iv 0, iv 0, .str ⟨#[]⟩, .sl [], .sl []]
theorem encs_zero : ∀ n : Nat, Val.encs (List.replicate n zV) = List.replicate n zD
  | 0 => rfl
  | n + 1 => by rw [List.replicate_succ, List.replicate_succ, Val.encs, encs_zero n]; rfl
def rowZ (i : Nat) : PV := if i = 0 then .nilsl else .own 27 (List.replicate i zD)
theorem zD_w (i : Nat) : ((List.replicate i zD).all fun y => y.width == 6) = true := by
  rw [List.all_eq_true]
  intro y hy
  rw [List.eq_of_mem_replicate hy]
  rfl
abbrev wB (k c s : Int) (t : ByteArray) (r : PV) (ks : List ByteArray) : PV := .ibox [.d (iv k), .d (iv c), .d (iv s), .d (.str t), r, .d (.sl (ks.map .str))]
def SnIs (k c s : Int) (t : ByteArray) (xs : List Val) (ks : List ByteArray) (i : Nat) : Prop :=
  V (F tab) r10_B0 (r10_S0 (vB k c s t xs ks) (wB k c s t (rowZ i) ks) (.d (iv i)) []) = some (.norm, r10_E0 (vB k c s t xs ks) (wB k c s t (rowZ ks.length) ks) [])
set_option maxHeartbeats 1000000 in
theorem sn_loop (k c s : Int) (t : ByteArray) (xs : List Val) (ks : List ByteArray) (hl : ks.length ≤ 1048576) : ∀ (m i : Nat), i + m = ks.length → SnIs k c s t xs ks i
  | 0, i, hi => by
    obtain rfl : i = ks.length := by omega
    have h1 : ((ks.length : Int) < (ks.length : Int)) = False := eq_false (by omega)
    unfold SnIs
    rw [r10_B0_eq]
    simp (disch := omega) only [go_sem, and_self, and_true, true_and, false_and, and_false, Nat.reduceAdd, Nat.reduceMul, Nat.reduceSub, Nat.reduceLeDiff, Nat.reduceLT, Nat.reduceGT, Nat.reduceEqDiff, Nat.reduceBEq, Int.reduceNeg, Int.reduceEq, Int.reduceLT, Int.reduceLE, Int.reduceBEq, Int.reduceToNat, Int.toNat_natCast, Int.natCast_zero, r10_C0, h1, List.length_map]
  | m + 1, i, hi => by
    have ih := sn_loop k c s t xs ks hl m (i + 1) (by omega)
    have h1 : ((i : Int) < (ks.length : Int)) = True := eq_true (by omega)
    have hmr : maxRow = 140737488355328 := by decide
    have hw := zD_w i
    have k1 : ((i + 1) * 88 ≤ maxRow) = True := eq_true (by omega)
    have k2 : ((0 + 1) * 88 ≤ maxRow) = True := eq_true (by omega)
    have k3 : (88 ≤ maxRow) = True := eq_true (by omega)
    have k4 : (1 * 88 ≤ maxRow) = True := eq_true (by omega)
    have e1 : List.replicate (i + 1) zD = List.replicate i zD ++ [zD] := List.replicate_succ'
    unfold SnIs at ih ⊢
    rw [Int.natCast_add, Int.natCast_one] at ih
    generalize hE : r10_E0 _ _ _ = E at ih ⊢
    rw [r10_B0_eq]
    unfold rowZ at ih ⊢
    rw [if_neg (by omega), e1] at ih
    by_cases h0 : i = 0
    · rw [if_pos h0]
      rw [show List.replicate i zD = [] by rw [h0]; rfl, List.nil_append] at ih
      simp (disch := omega) only [go_sem, and_self, and_true, true_and, false_and, and_false, Nat.reduceAdd, Nat.reduceMul, Nat.reduceSub, Nat.reduceLeDiff, Nat.reduceLT, Nat.reduceGT, Nat.reduceEqDiff, Nat.reduceBEq, Int.reduceNeg, Int.reduceEq, Int.reduceLT, Int.reduceLE, Int.reduceBEq, Int.reduceToNat, Int.toNat_natCast, Int.natCast_zero, r10_C0, h1, List.length_map, k2, k3, k4, w64]
      exact ih
    · rw [if_neg h0]
      simp (disch := omega) only [go_sem, and_self, and_true, true_and, false_and, and_false, Nat.reduceAdd, Nat.reduceMul, Nat.reduceSub, Nat.reduceLeDiff, Nat.reduceLT, Nat.reduceGT, Nat.reduceEqDiff, Nat.reduceBEq, Int.reduceNeg, Int.reduceEq, Int.reduceLT, Int.reduceLE, Int.reduceBEq, Int.reduceToNat, Int.toNat_natCast, Int.natCast_zero, r10_C0, h1, List.length_map, List.length_replicate, hw, k1, w64]
      exact ih
def SoundEx (v : Val) : Prop := ∃ b : Bool, (∀ hp, F tab 10 [.d v.enc] hp = some (.ret (.d (.bool b)) hp)) ∧ (b = true → ∀ k c s t xs ks, v = .mk k c s t xs ks → k = 0 → c = 0 ∧ s = 0 ∧ t.size = 0 ∧ xs.length = 0 ∧ ks.length = 0)
def SiEx (k c s : Int) (t : ByteArray) (xs : List Val) (ks : List ByteArray) (i : Nat) : Prop :=
  ∃ b : Bool, V (F tab) r10_B1 (r10_S1 (vB k c s t xs ks) (.d (iv i)) []) = if b then some (.norm, r10_E1 []) else some (.ret, r10_R (.d (.bool false)) [])
theorem so_items (k c s : Int) (t : ByteArray) (xs : List Val) (ks : List ByteArray) (hl : xs.length ≤ 1048576) (hx : ∀ x ∈ xs, SoundEx x) : ∀ (m i : Nat), i + m = xs.length → SiEx k c s t xs ks i
  | 0, i, hi => by
    have h1 : ((i : Int) < (xs.length : Int)) = False := eq_false (by omega)
    refine ⟨true, ?_⟩
    rw [if_pos rfl, r10_B1_eq]
    simp (disch := omega) only [go_sem, and_self, and_true, true_and, false_and, and_false, Nat.reduceAdd, Nat.reduceMul, Nat.reduceSub, Nat.reduceLeDiff, Nat.reduceLT, Nat.reduceGT, Nat.reduceEqDiff, Nat.reduceBEq, Int.reduceNeg, Int.reduceEq, Int.reduceLT, Int.reduceLE, Int.reduceBEq, Int.reduceToNat, Int.toNat_natCast, Int.natCast_zero, r10_C1, h1, encs_len]
  | m + 1, i, hi => by
    obtain ⟨b, ih⟩ := so_items k c s t xs ks hl hx m (i + 1) (by omega)
    have hi1 : i < xs.length := by omega
    have h1 : ((i : Int) < (xs.length : Int)) = True := eq_true (by omega)
    have i0 : (0 ≤ (i : Int)) = True := eq_true (by omega)
    have va : (Val.encs xs)[i]? = some xs[i].enc := by rw [encs_get, List.getElem?_eq_getElem hi1]; rfl
    obtain ⟨b2, hb2, _⟩ := hx xs[i] (List.getElem_mem hi1)
    obtain ⟨k', c', s', t', ys, ks', ev⟩ := enc_as xs[i]
    rw [ev] at va hb2
    rw [Int.natCast_add, Int.natCast_one] at ih
    cases b2 with
    | true =>
      refine ⟨b, ?_⟩
      rw [r10_B1_eq]
      simp (disch := omega) only [go_sem, and_self, and_true, true_and, false_and, and_false, Nat.reduceAdd, Nat.reduceMul, Nat.reduceSub, Nat.reduceLeDiff, Nat.reduceLT, Nat.reduceGT, Nat.reduceEqDiff, Nat.reduceBEq, Int.reduceNeg, Int.reduceEq, Int.reduceLT, Int.reduceLE, Int.reduceBEq, Int.reduceToNat, Int.toNat_natCast, Int.natCast_zero, r10_C1, h1, i0, va, hb2, encs_len, w64]
      exact ih
    | false =>
      refine ⟨false, ?_⟩
      rw [if_neg (by simp), r10_B1_eq]
      simp (disch := omega) only [go_sem, and_self, and_true, true_and, false_and, and_false, Nat.reduceAdd, Nat.reduceMul, Nat.reduceSub, Nat.reduceLeDiff, Nat.reduceLT, Nat.reduceGT, Nat.reduceEqDiff, Nat.reduceBEq, Int.reduceNeg, Int.reduceEq, Int.reduceLT, Int.reduceLE, Int.reduceBEq, Int.reduceToNat, Int.toNat_natCast, Int.natCast_zero, r10_C1, h1, i0, va, hb2, encs_len, w64]
theorem rowZ_d (n : Nat) : rowZ n = .nilsl ∧ Val.encs (List.replicate n zV) = [] ∨ rowZ n = .own 27 (Val.encs (List.replicate n zV)) := by
  unfold rowZ
  by_cases h : n = 0
  · rw [if_pos h]
    exact .inl ⟨rfl, by rw [h]; rfl⟩
  · rw [if_neg h, encs_zero]
    exact .inr rfl
set_option maxHeartbeats 4000000 in
theorem so_top (k c s : Int) (t : ByteArray) (xs : List Val) (ks : List ByteArray) (hK : SnIs k c s t xs ks 0) (hW : IsEx (.mk k c s t (List.replicate ks.length zV) ks) 0) (hI : SiEx k c s t xs ks 0) : SoundEx (.mk k c s t xs ks) := by
  have no : (∀ hp, F tab 10 [.d (.agg [iv k, iv c, iv s, .str t, .sl (Val.encs xs), .sl (ks.map .str)])] hp = some (.ret (.d (.bool false)) hp)) → SoundEx (.mk k c s t xs ks) := fun h => ⟨false, h, fun h => absurd h (by simp)⟩
  obtain ⟨b2, hI⟩ := hI
  obtain ⟨bw, hw1, hw2⟩ := hW
  unfold SnIs at hK
  rw [Int.natCast_zero] at hK hI
  rw [show rowZ 0 = .nilsl from rfl] at hK
  rw [Val.enc] at hw1
  have go : ∀ (q6 q5 : Bool), (k == 6) = q6 → (k != 6) = !q6 → (q6 = true → ((ks.length : Int) != (xs.length : Int)) = false) → (k != 5) = q5 → (q6 = false → q5 = true → ((xs.length : Int) > 0) = False) → SoundEx (.mk k c s t xs ks) := by
    intro q6 q5 h6 h6n h6' h5 h5'
    refine ⟨bw && b2, fun hp => ?_, fun hb k' c' s' t' xs' ks' e hk' => ?_⟩
    · rw [Val.enc]
      refine f10 rfl ?_
      cases q6 with
      | true =>
        have h6'' := h6' rfl
        have h55 : (k != 5) = true := by rw [beq_iff_eq] at h6; rw [bne_iff_ne]; omega
        have h66 : (k != 6) = false := by rw [h6n]; rfl
        simp (disch := omega) only [go_sem, and_self, and_true, true_and, false_and, and_false, Nat.reduceAdd, Nat.reduceMul, Nat.reduceSub, Nat.reduceLeDiff, Nat.reduceLT, Nat.reduceGT, Nat.reduceEqDiff, Nat.reduceBEq, Int.reduceNeg, Int.reduceEq, Int.reduceLT, Int.reduceLE, Int.reduceBEq, Int.reduceToNat, Int.toNat_natCast, Int.natCast_zero, r10_T, h6, h6'', h55, h66, encs_len, List.length_map]
        rw [r10_B0_n]
        erw [hK]
        rcases rowZ_d ks.length with ⟨g1, g2⟩ | g1
        · rw [g2] at hw1
          rw [g1]
          cases bw with
          | false => simp (disch := omega) only [go_sem, and_self, and_true, true_and, false_and, and_false, Nat.reduceAdd, Nat.reduceMul, Nat.reduceSub, Nat.reduceLeDiff, Nat.reduceLT, Nat.reduceGT, Nat.reduceEqDiff, Nat.reduceBEq, Int.reduceNeg, Int.reduceEq, Int.reduceLT, Int.reduceLE, Int.reduceBEq, Int.reduceToNat, Int.toNat_natCast, Int.natCast_zero, r10, hw1, Bool.false_and]
          | true =>
            simp (disch := omega) only [go_sem, and_self, and_true, true_and, false_and, and_false, Nat.reduceAdd, Nat.reduceMul, Nat.reduceSub, Nat.reduceLeDiff, Nat.reduceLT, Nat.reduceGT, Nat.reduceEqDiff, Nat.reduceBEq, Int.reduceNeg, Int.reduceEq, Int.reduceLT, Int.reduceLE, Int.reduceBEq, Int.reduceToNat, Int.toNat_natCast, Int.natCast_zero, hw1]
            rw [r10_B1_n]
            erw [hI]
            cases b2 <;> simp (disch := omega) only [go_sem, and_self, and_true, true_and, false_and, and_false, Nat.reduceAdd, Nat.reduceMul, Nat.reduceSub, Nat.reduceLeDiff, Nat.reduceLT, Nat.reduceGT, Nat.reduceEqDiff, Nat.reduceBEq, Int.reduceNeg, Int.reduceEq, Int.reduceLT, Int.reduceLE, Int.reduceBEq, Int.reduceToNat, Int.toNat_natCast, Int.natCast_zero, r10, Bool.true_and]
        · rw [g1]
          cases bw with
          | false => simp (disch := omega) only [go_sem, and_self, and_true, true_and, false_and, and_false, Nat.reduceAdd, Nat.reduceMul, Nat.reduceSub, Nat.reduceLeDiff, Nat.reduceLT, Nat.reduceGT, Nat.reduceEqDiff, Nat.reduceBEq, Int.reduceNeg, Int.reduceEq, Int.reduceLT, Int.reduceLE, Int.reduceBEq, Int.reduceToNat, Int.toNat_natCast, Int.natCast_zero, r10, hw1, Bool.false_and]
          | true =>
            simp (disch := omega) only [go_sem, and_self, and_true, true_and, false_and, and_false, Nat.reduceAdd, Nat.reduceMul, Nat.reduceSub, Nat.reduceLeDiff, Nat.reduceLT, Nat.reduceGT, Nat.reduceEqDiff, Nat.reduceBEq, Int.reduceNeg, Int.reduceEq, Int.reduceLT, Int.reduceLE, Int.reduceBEq, Int.reduceToNat, Int.toNat_natCast, Int.natCast_zero, hw1]
            rw [r10_B1_n]
            erw [hI]
            cases b2 <;> simp (disch := omega) only [go_sem, and_self, and_true, true_and, false_and, and_false, Nat.reduceAdd, Nat.reduceMul, Nat.reduceSub, Nat.reduceLeDiff, Nat.reduceLT, Nat.reduceGT, Nat.reduceEqDiff, Nat.reduceBEq, Int.reduceNeg, Int.reduceEq, Int.reduceLT, Int.reduceLE, Int.reduceBEq, Int.reduceToNat, Int.toNat_natCast, Int.natCast_zero, r10, Bool.true_and]
      | false =>
        have h66 : (k != 6) = true := by rw [h6n]; rfl
        cases q5 with
        | true =>
          have h5'' := h5' rfl rfl
          simp (disch := omega) only [go_sem, and_self, and_true, true_and, false_and, and_false, Nat.reduceAdd, Nat.reduceMul, Nat.reduceSub, Nat.reduceLeDiff, Nat.reduceLT, Nat.reduceGT, Nat.reduceEqDiff, Nat.reduceBEq, Int.reduceNeg, Int.reduceEq, Int.reduceLT, Int.reduceLE, Int.reduceBEq, Int.reduceToNat, Int.toNat_natCast, Int.natCast_zero, r10_T, h6, h5, h66, h5'', encs_len, List.length_map]
          rw [r10_B0_n]
          erw [hK]
          rcases rowZ_d ks.length with ⟨g1, g2⟩ | g1
          · rw [g2] at hw1
            rw [g1]
            cases bw with
            | false => simp (disch := omega) only [go_sem, and_self, and_true, true_and, false_and, and_false, Nat.reduceAdd, Nat.reduceMul, Nat.reduceSub, Nat.reduceLeDiff, Nat.reduceLT, Nat.reduceGT, Nat.reduceEqDiff, Nat.reduceBEq, Int.reduceNeg, Int.reduceEq, Int.reduceLT, Int.reduceLE, Int.reduceBEq, Int.reduceToNat, Int.toNat_natCast, Int.natCast_zero, r10, hw1, Bool.false_and]
            | true =>
              simp (disch := omega) only [go_sem, and_self, and_true, true_and, false_and, and_false, Nat.reduceAdd, Nat.reduceMul, Nat.reduceSub, Nat.reduceLeDiff, Nat.reduceLT, Nat.reduceGT, Nat.reduceEqDiff, Nat.reduceBEq, Int.reduceNeg, Int.reduceEq, Int.reduceLT, Int.reduceLE, Int.reduceBEq, Int.reduceToNat, Int.toNat_natCast, Int.natCast_zero, hw1]
              rw [r10_B1_n]
              erw [hI]
              cases b2 <;> simp (disch := omega) only [go_sem, and_self, and_true, true_and, false_and, and_false, Nat.reduceAdd, Nat.reduceMul, Nat.reduceSub, Nat.reduceLeDiff, Nat.reduceLT, Nat.reduceGT, Nat.reduceEqDiff, Nat.reduceBEq, Int.reduceNeg, Int.reduceEq, Int.reduceLT, Int.reduceLE, Int.reduceBEq, Int.reduceToNat, Int.toNat_natCast, Int.natCast_zero, r10, Bool.true_and]
          · rw [g1]
            cases bw with
            | false => simp (disch := omega) only [go_sem, and_self, and_true, true_and, false_and, and_false, Nat.reduceAdd, Nat.reduceMul, Nat.reduceSub, Nat.reduceLeDiff, Nat.reduceLT, Nat.reduceGT, Nat.reduceEqDiff, Nat.reduceBEq, Int.reduceNeg, Int.reduceEq, Int.reduceLT, Int.reduceLE, Int.reduceBEq, Int.reduceToNat, Int.toNat_natCast, Int.natCast_zero, r10, hw1, Bool.false_and]
            | true =>
              simp (disch := omega) only [go_sem, and_self, and_true, true_and, false_and, and_false, Nat.reduceAdd, Nat.reduceMul, Nat.reduceSub, Nat.reduceLeDiff, Nat.reduceLT, Nat.reduceGT, Nat.reduceEqDiff, Nat.reduceBEq, Int.reduceNeg, Int.reduceEq, Int.reduceLT, Int.reduceLE, Int.reduceBEq, Int.reduceToNat, Int.toNat_natCast, Int.natCast_zero, hw1]
              rw [r10_B1_n]
              erw [hI]
              cases b2 <;> simp (disch := omega) only [go_sem, and_self, and_true, true_and, false_and, and_false, Nat.reduceAdd, Nat.reduceMul, Nat.reduceSub, Nat.reduceLeDiff, Nat.reduceLT, Nat.reduceGT, Nat.reduceEqDiff, Nat.reduceBEq, Int.reduceNeg, Int.reduceEq, Int.reduceLT, Int.reduceLE, Int.reduceBEq, Int.reduceToNat, Int.toNat_natCast, Int.natCast_zero, r10, Bool.true_and]
        | false =>
          simp (disch := omega) only [go_sem, and_self, and_true, true_and, false_and, and_false, Nat.reduceAdd, Nat.reduceMul, Nat.reduceSub, Nat.reduceLeDiff, Nat.reduceLT, Nat.reduceGT, Nat.reduceEqDiff, Nat.reduceBEq, Int.reduceNeg, Int.reduceEq, Int.reduceLT, Int.reduceLE, Int.reduceBEq, Int.reduceToNat, Int.toNat_natCast, Int.natCast_zero, r10_T, h6, h5, h66, encs_len, List.length_map]
          rw [r10_B0_n]
          erw [hK]
          rcases rowZ_d ks.length with ⟨g1, g2⟩ | g1
          · rw [g2] at hw1
            rw [g1]
            cases bw with
            | false => simp (disch := omega) only [go_sem, and_self, and_true, true_and, false_and, and_false, Nat.reduceAdd, Nat.reduceMul, Nat.reduceSub, Nat.reduceLeDiff, Nat.reduceLT, Nat.reduceGT, Nat.reduceEqDiff, Nat.reduceBEq, Int.reduceNeg, Int.reduceEq, Int.reduceLT, Int.reduceLE, Int.reduceBEq, Int.reduceToNat, Int.toNat_natCast, Int.natCast_zero, r10, hw1, Bool.false_and]
            | true =>
              simp (disch := omega) only [go_sem, and_self, and_true, true_and, false_and, and_false, Nat.reduceAdd, Nat.reduceMul, Nat.reduceSub, Nat.reduceLeDiff, Nat.reduceLT, Nat.reduceGT, Nat.reduceEqDiff, Nat.reduceBEq, Int.reduceNeg, Int.reduceEq, Int.reduceLT, Int.reduceLE, Int.reduceBEq, Int.reduceToNat, Int.toNat_natCast, Int.natCast_zero, hw1]
              rw [r10_B1_n]
              erw [hI]
              cases b2 <;> simp (disch := omega) only [go_sem, and_self, and_true, true_and, false_and, and_false, Nat.reduceAdd, Nat.reduceMul, Nat.reduceSub, Nat.reduceLeDiff, Nat.reduceLT, Nat.reduceGT, Nat.reduceEqDiff, Nat.reduceBEq, Int.reduceNeg, Int.reduceEq, Int.reduceLT, Int.reduceLE, Int.reduceBEq, Int.reduceToNat, Int.toNat_natCast, Int.natCast_zero, r10, Bool.true_and]
          · rw [g1]
            cases bw with
            | false => simp (disch := omega) only [go_sem, and_self, and_true, true_and, false_and, and_false, Nat.reduceAdd, Nat.reduceMul, Nat.reduceSub, Nat.reduceLeDiff, Nat.reduceLT, Nat.reduceGT, Nat.reduceEqDiff, Nat.reduceBEq, Int.reduceNeg, Int.reduceEq, Int.reduceLT, Int.reduceLE, Int.reduceBEq, Int.reduceToNat, Int.toNat_natCast, Int.natCast_zero, r10, hw1, Bool.false_and]
            | true =>
              simp (disch := omega) only [go_sem, and_self, and_true, true_and, false_and, and_false, Nat.reduceAdd, Nat.reduceMul, Nat.reduceSub, Nat.reduceLeDiff, Nat.reduceLT, Nat.reduceGT, Nat.reduceEqDiff, Nat.reduceBEq, Int.reduceNeg, Int.reduceEq, Int.reduceLT, Int.reduceLE, Int.reduceBEq, Int.reduceToNat, Int.toNat_natCast, Int.natCast_zero, hw1]
              rw [r10_B1_n]
              erw [hI]
              cases b2 <;> simp (disch := omega) only [go_sem, and_self, and_true, true_and, false_and, and_false, Nat.reduceAdd, Nat.reduceMul, Nat.reduceSub, Nat.reduceLeDiff, Nat.reduceLT, Nat.reduceGT, Nat.reduceEqDiff, Nat.reduceBEq, Int.reduceNeg, Int.reduceEq, Int.reduceLT, Int.reduceLE, Int.reduceBEq, Int.reduceToNat, Int.toNat_natCast, Int.natCast_zero, r10, Bool.true_and]
    · cases e
      rw [Bool.and_eq_true] at hb
      obtain ⟨a1, a2, a3, a4, a5⟩ := hw2 hb.1 _ _ _ _ _ _ rfl hk'
      refine ⟨a1, a2, a3, ?_, a5⟩
      have q6 : q6 = false := by rw [← h6, beq_eq_false_iff_ne]; omega
      have q5 : q5 = true := by rw [← h5, bne_iff_ne]; omega
      have := of_eq_false (h5' q6 q5)
      omega
  rcases Bool.eq_false_or_eq_true (k == 6) with h6 | h6
  · have h6n : (k != 6) = false := by rw [bne, h6]; rfl
    rcases Bool.eq_false_or_eq_true ((ks.length : Int) != (xs.length : Int)) with h5 | h5
    · refine no fun hp => f10 rfl ?_
      simp (disch := omega) only [go_sem, and_self, and_true, true_and, false_and, and_false, Nat.reduceAdd, Nat.reduceMul, Nat.reduceSub, Nat.reduceLeDiff, Nat.reduceLT, Nat.reduceGT, Nat.reduceEqDiff, Nat.reduceBEq, Int.reduceNeg, Int.reduceEq, Int.reduceLT, Int.reduceLE, Int.reduceBEq, Int.reduceToNat, Int.toNat_natCast, Int.natCast_zero, r10_T, r10, h6, h5, encs_len, List.length_map]
    · exact go true (k != 5) h6 h6n (fun _ => h5) rfl (fun h => absurd h (by simp))
  · have h6n : (k != 6) = true := by rw [bne, h6]; rfl
    rcases Bool.eq_false_or_eq_true (k != 5) with h5 | h5
    · by_cases hx : (xs.length : Int) > 0
      · have hx' : ((xs.length : Int) > 0) = True := eq_true hx
        refine no fun hp => f10 rfl ?_
        simp (disch := omega) only [go_sem, and_self, and_true, true_and, false_and, and_false, Nat.reduceAdd, Nat.reduceMul, Nat.reduceSub, Nat.reduceLeDiff, Nat.reduceLT, Nat.reduceGT, Nat.reduceEqDiff, Nat.reduceBEq, Int.reduceNeg, Int.reduceEq, Int.reduceLT, Int.reduceLE, Int.reduceBEq, Int.reduceToNat, Int.toNat_natCast, Int.natCast_zero, r10_T, r10, h6, h6n, h5, hx', encs_len, List.length_map]
      · exact go false true h6 h6n (fun h => absurd h (by simp)) h5 (fun _ _ => eq_false hx)
    · exact go false false h6 h6n (fun h => absurd h (by simp)) h5 (fun _ h => absurd h (by simp))
theorem so_ex : ∀ (n : Nat) (v : Val), SizeOf.sizeOf v ≤ n → v.lim 1048576 → SoundEx v
  | 0, v, h, _ => by cases v; simp at h
  | n + 1, .mk k c s t xs ks, h, hm => by
    rw [Val.lim] at hm
    obtain ⟨m1, m2, m3, m4, m5⟩ := hm
    refine so_top k c s t xs ks (sn_loop k c s t xs ks m3 ks.length 0 (by omega)) (is_ex _ _ 0 (Nat.le_refl _) ?_ (by omega)) (so_items k c s t xs ks m2 (fun x hx => so_ex n x ?_ (vlims_mem m5 hx)) xs.length 0 (by omega))
    · rw [Val.lim]
      refine ⟨m1, by simpa using m3, m3, m4, ?_⟩
      have : ∀ j : Nat, Val.lims 1048576 (List.replicate j zV) := by
        intro j
        induction j with
        | zero => trivial
        | succ j ih =>
          rw [List.replicate_succ, Val.lims]
          refine ⟨?_, ih⟩
          have e : (⟨#[]⟩ : ByteArray).size = 0 := rfl
          simp [zV, Val.lim, Val.lims, e]
      exact this _
    · have := List.sizeOf_lt_of_mem hx
      simp at h
      omega
end Go.Pe.T

namespace Go.Pe.T
abbrev kD (k : Int) : D := .agg [iv k, iv 0, iv 0, .str ⟨#[]⟩, .sl [], .sl []]
abbrev dpD : D := .agg [iv 7, iv 0, iv 0, .str ⟨#[100, 101, 101, 112]⟩, .sl [], .sl []]
theorem wrong_ok (t : ByteArray) (hp : List Ent) : F tab 27 [.d (.str t)] hp = some (.ret (.d (.agg [iv 7, iv 0, iv 0, .str t, .sl [], .sl []])) hp) := by
  refine f27 rfl ?_
  simp (disch := omega) only [go_sem, and_self, and_true, true_and, false_and, and_false, Nat.reduceAdd, Nat.reduceMul, Nat.reduceSub, Nat.reduceLeDiff, Nat.reduceLT, Nat.reduceGT, Nat.reduceEqDiff, Nat.reduceBEq, Int.reduceNeg, Int.reduceEq, Int.reduceLT, Int.reduceLE, Int.reduceBEq, Int.reduceToNat, Int.toNat_natCast, Int.natCast_zero, r27_T, r27]
theorem truth_ok (b : Bool) (hp : List Ent) : F tab 20 [.d (.bool b)] hp = some (.ret (.d (kD (if b then 2 else 1))) hp) := by
  refine f20 rfl ?_
  cases b <;> simp (disch := omega) only [go_sem, and_self, and_true, true_and, false_and, and_false, Nat.reduceAdd, Nat.reduceMul, Nat.reduceSub, Nat.reduceLeDiff, Nat.reduceLT, Nat.reduceGT, Nat.reduceEqDiff, Nat.reduceBEq, Int.reduceNeg, Int.reduceEq, Int.reduceLT, Int.reduceLE, Int.reduceBEq, Int.reduceToNat, Int.toNat_natCast, Int.natCast_zero, r20_T, r20] <;> rfl
section
variable (k c s : Int) (t : ByteArray) (xs ks : List D) (k' c' s' : Int) (t' : ByteArray) (xs' ks' : List D)
abbrev gD (k c s : Int) (t : ByteArray) (xs ks : List D) : D := .agg [iv k, iv c, iv s, .str t, .sl xs, .sl ks]
theorem trueG (hp : List Ent) : F tab 15 [.d (gD k c s t xs ks)] hp = some (.ret (.d (.bool (k != 0 && k != 1))) hp) := true_ok k c s t (.sl xs) (.sl ks) rfl rfl hp
theorem plusNull (hp : List Ent) : F tab 7 [.d (.str ⟨#[43]⟩), .d (kD 0), .d (gD k c s t xs ks)] hp = some (.ret (.d (gD k c s t xs ks)) hp) := by
  have q0 : ((0 : Int) == 0) = true := rfl
  have q07 : ((0 : Int) == 7) = false := rfl
  have hpl : ∀ hp, F tab 22 [.d (kD 0), .d (gD k c s t xs ks)] hp = some (.ret (.d (gD k c s t xs ks)) hp) := by
    intro hp
    refine f22 rfl ?_
    simp (disch := omega) only [go_sem, and_self, and_true, true_and, false_and, and_false, Nat.reduceAdd, Nat.reduceMul, Nat.reduceSub, Nat.reduceLeDiff, Nat.reduceLT, Nat.reduceGT, Nat.reduceEqDiff, Nat.reduceBEq, Int.reduceNeg, Int.reduceEq, Int.reduceLT, Int.reduceLE, Int.reduceBEq, Int.reduceToNat, Int.toNat_natCast, Int.natCast_zero, r22_T, r22, q0]
  have hst : ∀ hp, F tab 16 [.d (.str ⟨#[43]⟩), .d (kD 0), .d (gD k c s t xs ks)] hp = some (.ret (.d (gD k c s t xs ks)) hp) := by
    intro hp
    refine f16 rfl ?_
    simp (disch := omega) only [go_sem, and_self, and_true, true_and, false_and, and_false, Nat.reduceAdd, Nat.reduceMul, Nat.reduceSub, Nat.reduceLeDiff, Nat.reduceLT, Nat.reduceGT, Nat.reduceEqDiff, Nat.reduceBEq, Int.reduceNeg, Int.reduceEq, Int.reduceLT, Int.reduceLE, Int.reduceBEq, Int.reduceToNat, Int.toNat_natCast, Int.natCast_zero, strD, lit_eq, List.map_cons, List.map_nil, List.cons_beq_cons, List.nil_beq_eq, List.beq_nil_eq, List.isEmpty_cons, List.isEmpty_nil, UInt8.reduceToNat, Nat.reduceBEq, Bool.true_and, Bool.false_and, r16_T, r16, hpl]
  refine f7 rfl ?_
  rcases Bool.eq_false_or_eq_true (k == 7) with q | q <;> simp (disch := omega) only [go_sem, and_self, and_true, true_and, false_and, and_false, Nat.reduceAdd, Nat.reduceMul, Nat.reduceSub, Nat.reduceLeDiff, Nat.reduceLT, Nat.reduceGT, Nat.reduceEqDiff, Nat.reduceBEq, Int.reduceNeg, Int.reduceEq, Int.reduceLT, Int.reduceLE, Int.reduceBEq, Int.reduceToNat, Int.toNat_natCast, Int.natCast_zero, strD, lit_eq, List.map_cons, List.map_nil, List.cons_beq_cons, List.nil_beq_eq, List.beq_nil_eq, List.isEmpty_cons, List.isEmpty_nil, UInt8.reduceToNat, Nat.reduceBEq, Bool.true_and, Bool.false_and, r7_T, r7, hst, q, q07]
theorem nullPlus (hp : List Ent) : F tab 7 [.d (.str ⟨#[43]⟩), .d (gD k c s t xs ks), .d (kD 0)] hp = some (.ret (.d (if k == 0 then kD 0 else gD k c s t xs ks)) hp) := by
  have q0 : ((0 : Int) == 0) = true := rfl
  have q07 : ((0 : Int) == 7) = false := rfl
  have hpl : ∀ hp, F tab 22 [.d (gD k c s t xs ks), .d (kD 0)] hp = some (.ret (.d (if k == 0 then kD 0 else gD k c s t xs ks)) hp) := by
    intro hp
    refine f22 rfl ?_
    rcases Bool.eq_false_or_eq_true (k == 0) with q | q <;> simp (disch := omega) only [go_sem, and_self, and_true, true_and, false_and, and_false, Nat.reduceAdd, Nat.reduceMul, Nat.reduceSub, Nat.reduceLeDiff, Nat.reduceLT, Nat.reduceGT, Nat.reduceEqDiff, Nat.reduceBEq, Int.reduceNeg, Int.reduceEq, Int.reduceLT, Int.reduceLE, Int.reduceBEq, Int.reduceToNat, Int.toNat_natCast, Int.natCast_zero, r22_T, r22, q0, q, if_true, if_false, Bool.false_eq_true]
  have hst : ∀ hp, F tab 16 [.d (.str ⟨#[43]⟩), .d (gD k c s t xs ks), .d (kD 0)] hp = some (.ret (.d (if k == 0 then kD 0 else gD k c s t xs ks)) hp) := by
    intro hp
    refine f16 rfl ?_
    rcases Bool.eq_false_or_eq_true (k == 0) with q1 | q1 <;> simp (disch := omega) only [q1, if_true, if_false, Bool.false_eq_true] at hpl ⊢ <;> simp (disch := omega) only [go_sem, and_self, and_true, true_and, false_and, and_false, Nat.reduceAdd, Nat.reduceMul, Nat.reduceSub, Nat.reduceLeDiff, Nat.reduceLT, Nat.reduceGT, Nat.reduceEqDiff, Nat.reduceBEq, Int.reduceNeg, Int.reduceEq, Int.reduceLT, Int.reduceLE, Int.reduceBEq, Int.reduceToNat, Int.toNat_natCast, Int.natCast_zero, strD, lit_eq, List.map_cons, List.map_nil, List.cons_beq_cons, List.nil_beq_eq, List.beq_nil_eq, List.isEmpty_cons, List.isEmpty_nil, UInt8.reduceToNat, Nat.reduceBEq, Bool.true_and, Bool.false_and, r16_T, r16, hpl]
  refine f7 rfl ?_
  rcases Bool.eq_false_or_eq_true (k == 7) with q | q
  · have q1 : (k == 0) = false := by rw [beq_iff_eq] at q; rw [beq_eq_false_iff_ne]; omega
    simp (disch := omega) only [go_sem, and_self, and_true, true_and, false_and, and_false, Nat.reduceAdd, Nat.reduceMul, Nat.reduceSub, Nat.reduceLeDiff, Nat.reduceLT, Nat.reduceGT, Nat.reduceEqDiff, Nat.reduceBEq, Int.reduceNeg, Int.reduceEq, Int.reduceLT, Int.reduceLE, Int.reduceBEq, Int.reduceToNat, Int.toNat_natCast, Int.natCast_zero, strD, lit_eq, List.map_cons, List.map_nil, List.cons_beq_cons, List.nil_beq_eq, List.beq_nil_eq, List.isEmpty_cons, List.isEmpty_nil, UInt8.reduceToNat, Nat.reduceBEq, Bool.true_and, Bool.false_and, r7_T, r7, q, q1, if_false, Bool.false_eq_true]
  · rcases Bool.eq_false_or_eq_true (k == 0) with q1 | q1 <;> simp (disch := omega) only [q1, if_true, if_false, Bool.false_eq_true] at hst ⊢ <;> simp (disch := omega) only [go_sem, and_self, and_true, true_and, false_and, and_false, Nat.reduceAdd, Nat.reduceMul, Nat.reduceSub, Nat.reduceLeDiff, Nat.reduceLT, Nat.reduceGT, Nat.reduceEqDiff, Nat.reduceBEq, Int.reduceNeg, Int.reduceEq, Int.reduceLT, Int.reduceLE, Int.reduceBEq, Int.reduceToNat, Int.toNat_natCast, Int.natCast_zero, strD, lit_eq, List.map_cons, List.map_nil, List.cons_beq_cons, List.nil_beq_eq, List.beq_nil_eq, List.isEmpty_cons, List.isEmpty_nil, UInt8.reduceToNat, Nat.reduceBEq, Bool.true_and, Bool.false_and, r7_T, r7, hst, q, q07]
theorem altG (hp : List Ent) : F tab 7 [.d (.str ⟨#[47, 47]⟩), .d (gD k c s t xs ks), .d (gD k' c' s' t' xs' ks')] hp = some (.ret (.d (if (k != 0 && k != 1) && k != 7 then gD k c s t xs ks else gD k' c' s' t' xs' ks')) hp) := by
  have ht := trueG k c s t xs ks
  refine f7 rfl ?_
  rcases Bool.eq_false_or_eq_true (k != 0 && k != 1) with q | q
  · rw [q] at ht
    rcases Bool.eq_false_or_eq_true (k != 7) with q7 | q7 <;> simp (disch := omega) only [go_sem, and_self, and_true, true_and, false_and, and_false, Nat.reduceAdd, Nat.reduceMul, Nat.reduceSub, Nat.reduceLeDiff, Nat.reduceLT, Nat.reduceGT, Nat.reduceEqDiff, Nat.reduceBEq, Int.reduceNeg, Int.reduceEq, Int.reduceLT, Int.reduceLE, Int.reduceBEq, Int.reduceToNat, Int.toNat_natCast, Int.natCast_zero, strD, lit_eq, List.map_cons, List.map_nil, List.cons_beq_cons, List.nil_beq_eq, List.beq_nil_eq, List.isEmpty_cons, List.isEmpty_nil, UInt8.reduceToNat, Nat.reduceBEq, Bool.true_and, Bool.false_and, r7_T, r7, ht, q7, q, if_true, if_false, Bool.false_eq_true, Bool.true_and]
  · rw [q] at ht
    simp (disch := omega) only [go_sem, and_self, and_true, true_and, false_and, and_false, Nat.reduceAdd, Nat.reduceMul, Nat.reduceSub, Nat.reduceLeDiff, Nat.reduceLT, Nat.reduceGT, Nat.reduceEqDiff, Nat.reduceBEq, Int.reduceNeg, Int.reduceEq, Int.reduceLT, Int.reduceLE, Int.reduceBEq, Int.reduceToNat, Int.toNat_natCast, Int.natCast_zero, strD, lit_eq, List.map_cons, List.map_nil, List.cons_beq_cons, List.nil_beq_eq, List.beq_nil_eq, List.isEmpty_cons, List.isEmpty_nil, UInt8.reduceToNat, Nat.reduceBEq, Bool.true_and, Bool.false_and, r7_T, r7, ht, q, if_true, if_false, Bool.false_eq_true, Bool.false_and]
theorem badPlus (hb : ((k == 7) || (k' == 7)) = true) (hp : List Ent) : F tab 7 [.d (.str ⟨#[43]⟩), .d (gD k c s t xs ks), .d (gD k' c' s' t' xs' ks')] hp = some (.ret (.d (if k == 7 then gD k c s t xs ks else gD k' c' s' t' xs' ks')) hp) := by
  refine f7 rfl ?_
  rcases Bool.eq_false_or_eq_true (k == 7) with q | q
  · simp (disch := omega) only [go_sem, and_self, and_true, true_and, false_and, and_false, Nat.reduceAdd, Nat.reduceMul, Nat.reduceSub, Nat.reduceLeDiff, Nat.reduceLT, Nat.reduceGT, Nat.reduceEqDiff, Nat.reduceBEq, Int.reduceNeg, Int.reduceEq, Int.reduceLT, Int.reduceLE, Int.reduceBEq, Int.reduceToNat, Int.toNat_natCast, Int.natCast_zero, strD, lit_eq, List.map_cons, List.map_nil, List.cons_beq_cons, List.nil_beq_eq, List.beq_nil_eq, List.isEmpty_cons, List.isEmpty_nil, UInt8.reduceToNat, Nat.reduceBEq, Bool.true_and, Bool.false_and, r7_T, r7, q, if_true]
  · have q2 : (k' == 7) = true := by rw [q, Bool.false_or] at hb; exact hb
    simp (disch := omega) only [go_sem, and_self, and_true, true_and, false_and, and_false, Nat.reduceAdd, Nat.reduceMul, Nat.reduceSub, Nat.reduceLeDiff, Nat.reduceLT, Nat.reduceGT, Nat.reduceEqDiff, Nat.reduceBEq, Int.reduceNeg, Int.reduceEq, Int.reduceLT, Int.reduceLE, Int.reduceBEq, Int.reduceToNat, Int.toNat_natCast, Int.natCast_zero, strD, lit_eq, List.map_cons, List.map_nil, List.cons_beq_cons, List.nil_beq_eq, List.beq_nil_eq, List.isEmpty_cons, List.isEmpty_nil, UInt8.reduceToNat, Nat.reduceBEq, Bool.true_and, Bool.false_and, r7_T, r7, q, q2, if_false, Bool.false_eq_true]
theorem heldLt (z : Int) (hp : List Ent) : F tab 32 [.d (.str ⟨#[60]⟩), .d (iv z)] hp = some (.ret (.d (.bool (decide (z < 0)))) hp) := by
  refine f32 rfl ?_
  simp (disch := omega) only [go_sem, and_self, and_true, true_and, false_and, and_false, Nat.reduceAdd, Nat.reduceMul, Nat.reduceSub, Nat.reduceLeDiff, Nat.reduceLT, Nat.reduceGT, Nat.reduceEqDiff, Nat.reduceBEq, Int.reduceNeg, Int.reduceEq, Int.reduceLT, Int.reduceLE, Int.reduceBEq, Int.reduceToNat, Int.toNat_natCast, Int.natCast_zero, strD, lit_eq, List.map_cons, List.map_nil, List.cons_beq_cons, List.nil_beq_eq, List.beq_nil_eq, List.isEmpty_cons, List.isEmpty_nil, UInt8.reduceToNat, Nat.reduceBEq, Bool.true_and, Bool.false_and, r32_T, r32]
theorem heldGt (z : Int) (hp : List Ent) : F tab 32 [.d (.str ⟨#[62]⟩), .d (iv z)] hp = some (.ret (.d (.bool (decide (z > 0)))) hp) := by
  refine f32 rfl ?_
  simp (disch := omega) only [go_sem, and_self, and_true, true_and, false_and, and_false, Nat.reduceAdd, Nat.reduceMul, Nat.reduceSub, Nat.reduceLeDiff, Nat.reduceLT, Nat.reduceGT, Nat.reduceEqDiff, Nat.reduceBEq, Int.reduceNeg, Int.reduceEq, Int.reduceLT, Int.reduceLE, Int.reduceBEq, Int.reduceToNat, Int.toNat_natCast, Int.natCast_zero, strD, lit_eq, List.map_cons, List.map_nil, List.cons_beq_cons, List.nil_beq_eq, List.beq_nil_eq, List.isEmpty_cons, List.isEmpty_nil, UInt8.reduceToNat, Nat.reduceBEq, Bool.true_and, Bool.false_and, r32_T, r32]
theorem heldEq (z : Int) (hp : List Ent) : F tab 32 [.d (.str ⟨#[61, 61]⟩), .d (iv z)] hp = some (.ret (.d (.bool (z == 0))) hp) := by
  refine f32 rfl ?_
  simp (disch := omega) only [go_sem, and_self, and_true, true_and, false_and, and_false, Nat.reduceAdd, Nat.reduceMul, Nat.reduceSub, Nat.reduceLeDiff, Nat.reduceLT, Nat.reduceGT, Nat.reduceEqDiff, Nat.reduceBEq, Int.reduceNeg, Int.reduceEq, Int.reduceLT, Int.reduceLE, Int.reduceBEq, Int.reduceToNat, Int.toNat_natCast, Int.natCast_zero, strD, lit_eq, List.map_cons, List.map_nil, List.cons_beq_cons, List.nil_beq_eq, List.beq_nil_eq, List.isEmpty_cons, List.isEmpty_nil, UInt8.reduceToNat, Nat.reduceBEq, Bool.true_and, Bool.false_and, r32_T, r32]
theorem comparedG (sign : ByteArray) (z : Int) (ok q : Bool) (hh : ∀ hp, F tab 32 [.d (.str sign), .d (iv z)] hp = some (.ret (.d (.bool q)) hp))
    (hc : ∀ hp, F tab 31 [.d (gD k c s t xs ks), .d (gD k' c' s' t' xs' ks')] hp = some (.ret (.tup [.d (iv z), .d (.bool ok)]) hp)) (hp : List Ent) :
    F tab 21 [.d (.str sign), .d (gD k c s t xs ks), .d (gD k' c' s' t' xs' ks')] hp = some (.ret (.d (if ok then kD (if q then 2 else 1) else dpD)) hp) := by
  have ht := truth_ok q
  have hw := wrong_ok ⟨#[100, 101, 101, 112]⟩
  refine f21 rfl ?_
  cases ok <;> simp (disch := omega) only [go_sem, and_self, and_true, true_and, false_and, and_false, Nat.reduceAdd, Nat.reduceMul, Nat.reduceSub, Nat.reduceLeDiff, Nat.reduceLT, Nat.reduceGT, Nat.reduceEqDiff, Nat.reduceBEq, Int.reduceNeg, Int.reduceEq, Int.reduceLT, Int.reduceLE, Int.reduceBEq, Int.reduceToNat, Int.toNat_natCast, Int.natCast_zero, r21_T, r21, hc, hh, ht, hw, if_true, if_false, Bool.false_eq_true]
section
variable (hk : (k == 7) = false) (hk' : (k' == 7) = false) (z : Int) (ok : Bool)
  (hc : ∀ hp, F tab 31 [.d (gD k c s t xs ks), .d (gD k' c' s' t' xs' ks')] hp = some (.ret (.tup [.d (iv z), .d (.bool ok)]) hp))
include hk hk' hc
theorem ltG (hp : List Ent) : F tab 7 [.d (.str ⟨#[60]⟩), .d (gD k c s t xs ks), .d (gD k' c' s' t' xs' ks')] hp = some (.ret (.d (if ok then kD (if decide (z < 0) then 2 else 1) else dpD)) hp) := by
  have hpl := comparedG k c s t xs ks k' c' s' t' xs' ks' ⟨#[60]⟩ z ok _ (heldLt z) hc
  have hst : ∀ hp, F tab 16 [.d (.str ⟨#[60]⟩), .d (gD k c s t xs ks), .d (gD k' c' s' t' xs' ks')] hp = some (.ret (.d (if ok then kD (if decide (z < 0) then 2 else 1) else dpD)) hp) := by
    intro hp
    refine f16 rfl ?_
    cases ok <;> simp only [if_true, if_false, Bool.false_eq_true] at hpl ⊢ <;> simp (disch := omega) only [go_sem, and_self, and_true, true_and, false_and, and_false, Nat.reduceAdd, Nat.reduceMul, Nat.reduceSub, Nat.reduceLeDiff, Nat.reduceLT, Nat.reduceGT, Nat.reduceEqDiff, Nat.reduceBEq, Int.reduceNeg, Int.reduceEq, Int.reduceLT, Int.reduceLE, Int.reduceBEq, Int.reduceToNat, Int.toNat_natCast, Int.natCast_zero, strD, lit_eq, List.map_cons, List.map_nil, List.cons_beq_cons, List.nil_beq_eq, List.beq_nil_eq, List.isEmpty_cons, List.isEmpty_nil, UInt8.reduceToNat, Nat.reduceBEq, Bool.true_and, Bool.false_and, r16_T, r16, hpl]
  refine f7 rfl ?_
  cases ok <;> simp only [if_true, if_false, Bool.false_eq_true] at hst ⊢ <;> simp (disch := omega) only [go_sem, and_self, and_true, true_and, false_and, and_false, Nat.reduceAdd, Nat.reduceMul, Nat.reduceSub, Nat.reduceLeDiff, Nat.reduceLT, Nat.reduceGT, Nat.reduceEqDiff, Nat.reduceBEq, Int.reduceNeg, Int.reduceEq, Int.reduceLT, Int.reduceLE, Int.reduceBEq, Int.reduceToNat, Int.toNat_natCast, Int.natCast_zero, strD, lit_eq, List.map_cons, List.map_nil, List.cons_beq_cons, List.nil_beq_eq, List.beq_nil_eq, List.isEmpty_cons, List.isEmpty_nil, UInt8.reduceToNat, Nat.reduceBEq, Bool.true_and, Bool.false_and, r7_T, r7, hst, hk, hk']
theorem gtG (hp : List Ent) : F tab 7 [.d (.str ⟨#[62]⟩), .d (gD k c s t xs ks), .d (gD k' c' s' t' xs' ks')] hp = some (.ret (.d (if ok then kD (if decide (z > 0) then 2 else 1) else dpD)) hp) := by
  have hpl := comparedG k c s t xs ks k' c' s' t' xs' ks' ⟨#[62]⟩ z ok _ (heldGt z) hc
  have hst : ∀ hp, F tab 16 [.d (.str ⟨#[62]⟩), .d (gD k c s t xs ks), .d (gD k' c' s' t' xs' ks')] hp = some (.ret (.d (if ok then kD (if decide (z > 0) then 2 else 1) else dpD)) hp) := by
    intro hp
    refine f16 rfl ?_
    cases ok <;> simp only [if_true, if_false, Bool.false_eq_true] at hpl ⊢ <;> simp (disch := omega) only [go_sem, and_self, and_true, true_and, false_and, and_false, Nat.reduceAdd, Nat.reduceMul, Nat.reduceSub, Nat.reduceLeDiff, Nat.reduceLT, Nat.reduceGT, Nat.reduceEqDiff, Nat.reduceBEq, Int.reduceNeg, Int.reduceEq, Int.reduceLT, Int.reduceLE, Int.reduceBEq, Int.reduceToNat, Int.toNat_natCast, Int.natCast_zero, strD, lit_eq, List.map_cons, List.map_nil, List.cons_beq_cons, List.nil_beq_eq, List.beq_nil_eq, List.isEmpty_cons, List.isEmpty_nil, UInt8.reduceToNat, Nat.reduceBEq, Bool.true_and, Bool.false_and, r16_T, r16, hpl]
  refine f7 rfl ?_
  cases ok <;> simp only [if_true, if_false, Bool.false_eq_true] at hst ⊢ <;> simp (disch := omega) only [go_sem, and_self, and_true, true_and, false_and, and_false, Nat.reduceAdd, Nat.reduceMul, Nat.reduceSub, Nat.reduceLeDiff, Nat.reduceLT, Nat.reduceGT, Nat.reduceEqDiff, Nat.reduceBEq, Int.reduceNeg, Int.reduceEq, Int.reduceLT, Int.reduceLE, Int.reduceBEq, Int.reduceToNat, Int.toNat_natCast, Int.natCast_zero, strD, lit_eq, List.map_cons, List.map_nil, List.cons_beq_cons, List.nil_beq_eq, List.beq_nil_eq, List.isEmpty_cons, List.isEmpty_nil, UInt8.reduceToNat, Nat.reduceBEq, Bool.true_and, Bool.false_and, r7_T, r7, hst, hk, hk']
theorem eqG (hp : List Ent) : F tab 7 [.d (.str ⟨#[61, 61]⟩), .d (gD k c s t xs ks), .d (gD k' c' s' t' xs' ks')] hp = some (.ret (.d (if ok then kD (if z == 0 then 2 else 1) else dpD)) hp) := by
  have hpl := comparedG k c s t xs ks k' c' s' t' xs' ks' ⟨#[61, 61]⟩ z ok _ (heldEq z) hc
  have hst : ∀ hp, F tab 16 [.d (.str ⟨#[61, 61]⟩), .d (gD k c s t xs ks), .d (gD k' c' s' t' xs' ks')] hp = some (.ret (.d (if ok then kD (if z == 0 then 2 else 1) else dpD)) hp) := by
    intro hp
    refine f16 rfl ?_
    cases ok <;> simp only [if_true, if_false, Bool.false_eq_true] at hpl ⊢ <;> simp (disch := omega) only [go_sem, and_self, and_true, true_and, false_and, and_false, Nat.reduceAdd, Nat.reduceMul, Nat.reduceSub, Nat.reduceLeDiff, Nat.reduceLT, Nat.reduceGT, Nat.reduceEqDiff, Nat.reduceBEq, Int.reduceNeg, Int.reduceEq, Int.reduceLT, Int.reduceLE, Int.reduceBEq, Int.reduceToNat, Int.toNat_natCast, Int.natCast_zero, strD, lit_eq, List.map_cons, List.map_nil, List.cons_beq_cons, List.nil_beq_eq, List.beq_nil_eq, List.isEmpty_cons, List.isEmpty_nil, UInt8.reduceToNat, Nat.reduceBEq, Bool.true_and, Bool.false_and, r16_T, r16, hpl]
  refine f7 rfl ?_
  cases ok <;> simp only [if_true, if_false, Bool.false_eq_true] at hst ⊢ <;> simp (disch := omega) only [go_sem, and_self, and_true, true_and, false_and, and_false, Nat.reduceAdd, Nat.reduceMul, Nat.reduceSub, Nat.reduceLeDiff, Nat.reduceLT, Nat.reduceGT, Nat.reduceEqDiff, Nat.reduceBEq, Int.reduceNeg, Int.reduceEq, Int.reduceLT, Int.reduceLE, Int.reduceBEq, Int.reduceToNat, Int.toNat_natCast, Int.natCast_zero, strD, lit_eq, List.map_cons, List.map_nil, List.cons_beq_cons, List.nil_beq_eq, List.beq_nil_eq, List.isEmpty_cons, List.isEmpty_nil, UInt8.reduceToNat, Nat.reduceBEq, Bool.true_and, Bool.false_and, r7_T, r7, hst, hk, hk']
end
theorem andG (hk : (k == 7) = false) (hk' : (k' == 7) = false) (hp : List Ent) : F tab 7 [.d (.str ⟨#[97, 110, 100]⟩), .d (gD k c s t xs ks), .d (gD k' c' s' t' xs' ks')] hp = some (.ret (.d (kD (if (k != 0 && k != 1) && (k' != 0 && k' != 1) then 2 else 1))) hp) := by
  have h1 := trueG k c s t xs ks
  have h2 := trueG k' c' s' t' xs' ks'
  have ht := truth_ok
  have hst : ∀ hp, F tab 16 [.d (.str ⟨#[97, 110, 100]⟩), .d (gD k c s t xs ks), .d (gD k' c' s' t' xs' ks')] hp = some (.ret (.d (kD (if (k != 0 && k != 1) && (k' != 0 && k' != 1) then 2 else 1))) hp) := by
    intro hp
    generalize (k != 0 && k != 1) = a at h1 ⊢
    generalize (k' != 0 && k' != 1) = b at h2 ⊢
    refine f16 rfl ?_
    cases a <;> simp (disch := omega) only [go_sem, and_self, and_true, true_and, false_and, and_false, Nat.reduceAdd, Nat.reduceMul, Nat.reduceSub, Nat.reduceLeDiff, Nat.reduceLT, Nat.reduceGT, Nat.reduceEqDiff, Nat.reduceBEq, Int.reduceNeg, Int.reduceEq, Int.reduceLT, Int.reduceLE, Int.reduceBEq, Int.reduceToNat, Int.toNat_natCast, Int.natCast_zero, strD, lit_eq, List.map_cons, List.map_nil, List.cons_beq_cons, List.nil_beq_eq, List.beq_nil_eq, List.isEmpty_cons, List.isEmpty_nil, UInt8.reduceToNat, Nat.reduceBEq, Bool.true_and, Bool.false_and, r16_T, r16, h1, h2, ht, Bool.true_and, Bool.false_and]
  refine f7 rfl ?_
  simp (disch := omega) only [go_sem, and_self, and_true, true_and, false_and, and_false, Nat.reduceAdd, Nat.reduceMul, Nat.reduceSub, Nat.reduceLeDiff, Nat.reduceLT, Nat.reduceGT, Nat.reduceEqDiff, Nat.reduceBEq, Int.reduceNeg, Int.reduceEq, Int.reduceLT, Int.reduceLE, Int.reduceBEq, Int.reduceToNat, Int.toNat_natCast, Int.natCast_zero, strD, lit_eq, List.map_cons, List.map_nil, List.cons_beq_cons, List.nil_beq_eq, List.beq_nil_eq, List.isEmpty_cons, List.isEmpty_nil, UInt8.reduceToNat, Nat.reduceBEq, Bool.true_and, Bool.false_and, r7_T, r7, hst, hk, hk']
theorem orG (hk : (k == 7) = false) (hk' : (k' == 7) = false) (hp : List Ent) : F tab 7 [.d (.str ⟨#[111, 114]⟩), .d (gD k c s t xs ks), .d (gD k' c' s' t' xs' ks')] hp = some (.ret (.d (kD (if (k != 0 && k != 1) || (k' != 0 && k' != 1) then 2 else 1))) hp) := by
  have h1 := trueG k c s t xs ks
  have h2 := trueG k' c' s' t' xs' ks'
  have ht := truth_ok
  have hst : ∀ hp, F tab 16 [.d (.str ⟨#[111, 114]⟩), .d (gD k c s t xs ks), .d (gD k' c' s' t' xs' ks')] hp = some (.ret (.d (kD (if (k != 0 && k != 1) || (k' != 0 && k' != 1) then 2 else 1))) hp) := by
    intro hp
    generalize (k != 0 && k != 1) = a at h1 ⊢
    generalize (k' != 0 && k' != 1) = b at h2 ⊢
    refine f16 rfl ?_
    cases a <;> simp (disch := omega) only [go_sem, and_self, and_true, true_and, false_and, and_false, Nat.reduceAdd, Nat.reduceMul, Nat.reduceSub, Nat.reduceLeDiff, Nat.reduceLT, Nat.reduceGT, Nat.reduceEqDiff, Nat.reduceBEq, Int.reduceNeg, Int.reduceEq, Int.reduceLT, Int.reduceLE, Int.reduceBEq, Int.reduceToNat, Int.toNat_natCast, Int.natCast_zero, strD, lit_eq, List.map_cons, List.map_nil, List.cons_beq_cons, List.nil_beq_eq, List.beq_nil_eq, List.isEmpty_cons, List.isEmpty_nil, UInt8.reduceToNat, Nat.reduceBEq, Bool.true_and, Bool.false_and, r16_T, r16, h1, h2, ht, Bool.true_or, Bool.false_or]
  refine f7 rfl ?_
  simp (disch := omega) only [go_sem, and_self, and_true, true_and, false_and, and_false, Nat.reduceAdd, Nat.reduceMul, Nat.reduceSub, Nat.reduceLeDiff, Nat.reduceLT, Nat.reduceGT, Nat.reduceEqDiff, Nat.reduceBEq, Int.reduceNeg, Int.reduceEq, Int.reduceLT, Int.reduceLE, Int.reduceBEq, Int.reduceToNat, Int.toNat_natCast, Int.natCast_zero, strD, lit_eq, List.map_cons, List.map_nil, List.cons_beq_cons, List.nil_beq_eq, List.beq_nil_eq, List.isEmpty_cons, List.isEmpty_nil, UInt8.reduceToNat, Nat.reduceBEq, Bool.true_and, Bool.false_and, r7_T, r7, hst, hk, hk']
end
end Go.Pe.T

namespace Go.Pe.T
abbrev rD (k : Int) (t : ByteArray) : D := .agg [iv k, iv 0, iv 0, .str t, .sl [], .sl []]
abbrev rB (k : Int) (t : ByteArray) : PV := .ibox [.d (iv k), .d (iv 0), .d (iv 0), .d (.str t), .d (.sl []), .d (.sl [])]
theorem sameR (k : Int) (t : ByteArray) (hk : i64 k) (ht : t.size ≤ maxLen) (hp : List Ent) : F tab 11 [.d (rD k t), .d (rD k t)] hp = some (.ret (.d (.bool true)) hp) := by
  have h := sam_ok (.mk k 0 0 t [] []) (.mk k 0 0 t [] []) (by
    simp only [Val.ok, Val.oks, i64, List.length_nil, maxLen] at *
    refine ⟨by omega, by omega, by omega, by omega, by omega, by omega, by simp, trivial⟩) hp
  rw [samV_refl] at h
  exact h
theorem light19_ex (a b : Val) (oa : a.ok) (ob : b.ok) (la : a.lim 1048576) (lb : b.lim 1048576) : ∃ q : Bool, (∀ hp, F tab 5 [.d a.enc, .d b.enc] hp = some (.ret (.d (.bool q)) hp)) ∧ (q = true → ∀ k c s t xs ks, a = .mk k c s t xs ks → k = 0 → c = 0 ∧ s = 0 ∧ t.size = 0 ∧ xs.length = 0 ∧ ks.length = 0) := by
  obtain ⟨sa, hsa, hsz⟩ := so_ex _ a (Nat.le_refl _) la
  obtain ⟨sb, hsb, _⟩ := so_ex _ b (Nat.le_refl _) lb
  have h1 := light_ok (most := 5000) oa (by omega)
  have h2 := light_ok (most := 5000) ob (by omega)
  obtain ⟨ka, ca, s_a, ta, xa, ya, ea⟩ := enc_as a
  obtain ⟨kb, cb, s_b, tb, xb, yb, eb⟩ := enc_as b
  refine ⟨((lightV a 5000 && lightV b 5000) && sa) && sb, fun hp => ?_, fun hq => hsz ?_⟩
  · rw [ea] at h1 hsa ⊢
    rw [eb] at h2 hsb ⊢
    generalize lightV a 5000 = p1 at *
    generalize lightV b 5000 = p2 at *
    refine f5 rfl ?_
    cases p1 with
    | false => simp (disch := omega) only [go_sem, and_self, and_true, true_and, false_and, and_false, Nat.reduceAdd, Nat.reduceMul, Nat.reduceSub, Nat.reduceLeDiff, Nat.reduceLT, Nat.reduceGT, Nat.reduceEqDiff, Nat.reduceBEq, Int.reduceNeg, Int.reduceEq, Int.reduceLT, Int.reduceLE, Int.reduceBEq, Int.reduceToNat, Int.toNat_natCast, Int.natCast_zero, r5_T, r5, h1, Bool.false_and]
    | true =>
      cases p2 with
      | false => simp (disch := omega) only [go_sem, and_self, and_true, true_and, false_and, and_false, Nat.reduceAdd, Nat.reduceMul, Nat.reduceSub, Nat.reduceLeDiff, Nat.reduceLT, Nat.reduceGT, Nat.reduceEqDiff, Nat.reduceBEq, Int.reduceNeg, Int.reduceEq, Int.reduceLT, Int.reduceLE, Int.reduceBEq, Int.reduceToNat, Int.toNat_natCast, Int.natCast_zero, r5_T, r5, h1, h2, Bool.false_and, Bool.true_and]
      | true =>
        cases sa <;> simp (disch := omega) only [go_sem, and_self, and_true, true_and, false_and, and_false, Nat.reduceAdd, Nat.reduceMul, Nat.reduceSub, Nat.reduceLeDiff, Nat.reduceLT, Nat.reduceGT, Nat.reduceEqDiff, Nat.reduceBEq, Int.reduceNeg, Int.reduceEq, Int.reduceLT, Int.reduceLE, Int.reduceBEq, Int.reduceToNat, Int.toNat_natCast, Int.natCast_zero, r5_T, r5, h1, h2, hsa, hsb, Bool.false_and, Bool.true_and]
  · rw [Bool.and_eq_true, Bool.and_eq_true] at hq
    exact hq.1.2
section
variable (A B : List PV) (kx ke kz : Int) (tx te tz : ByteArray)
def HsIs (h : Int) (i : Nat) (r : Int) : Prop :=
  V (F tab) r4_B0 (r4_S0 (.ibox A) (.ibox B) (rB kx tx) (.d (iv h)) (.own 27 [rD kx tx, rD ke te, rD kz tz]) (.d (iv ((3 : Nat) : Int))) (.d (iv i)) []) =
    some (.norm, r4_E0 (.ibox A) (.ibox B) (rB kx tx) (.d (iv r)) [])
theorem hs_3 (h : Int) : HsIs A B kx ke kz tx te tz h 3 h := by
  have h1 : (((3 : Nat) : Int) < ((3 : Nat) : Int)) = False := eq_false (by omega)
  unfold HsIs
  rw [r4_B0_eq]
  simp (disch := omega) only [go_sem, and_self, and_true, true_and, false_and, and_false, Nat.reduceAdd, Nat.reduceMul, Nat.reduceSub, Nat.reduceLeDiff, Nat.reduceLT, Nat.reduceGT, Nat.reduceEqDiff, Nat.reduceBEq, Int.reduceNeg, Int.reduceEq, Int.reduceLT, Int.reduceLE, Int.reduceBEq, Int.reduceToNat, Int.toNat_natCast, Int.natCast_zero, r4_C0, h1]
theorem hs_step (i : Nat) (hi : i < 3) (k : Int) (t : ByteArray) (he : [rD kx tx, rD ke te, rD kz tz][i]? = some (rD k t)) (h : Int) (hh : 0 ≤ h ∧ h ≤ 3) (r : Int)
    (ih : HsIs A B kx ke kz tx te tz (h + if k == 2 then 1 else 0) (i + 1) r) : HsIs A B kx ke kz tx te tz h i r := by
  have h1 : ((i : Int) < ((3 : Nat) : Int)) = True := eq_true (by omega)
  have i0 : (0 ≤ (i : Int)) = True := eq_true (by omega)
  unfold HsIs at ih ⊢
  rw [Int.natCast_add, Int.natCast_one] at ih
  rw [r4_B0_eq]
  rcases Bool.eq_false_or_eq_true (k == 2) with q | q
  · rw [q] at ih
    simp only [if_true] at ih
    simp (disch := omega) only [go_sem, and_self, and_true, true_and, false_and, and_false, Nat.reduceAdd, Nat.reduceMul, Nat.reduceSub, Nat.reduceLeDiff, Nat.reduceLT, Nat.reduceGT, Nat.reduceEqDiff, Nat.reduceBEq, Int.reduceNeg, Int.reduceEq, Int.reduceLT, Int.reduceLE, Int.reduceBEq, Int.reduceToNat, Int.toNat_natCast, Int.natCast_zero, r4_C0, h1, i0, he, q, w64]
    exact ih
  · rw [q] at ih
    simp only [if_false, Bool.false_eq_true, Int.add_zero] at ih
    simp (disch := omega) only [go_sem, and_self, and_true, true_and, false_and, and_false, Nat.reduceAdd, Nat.reduceMul, Nat.reduceSub, Nat.reduceLeDiff, Nat.reduceLT, Nat.reduceGT, Nat.reduceEqDiff, Nat.reduceBEq, Int.reduceNeg, Int.reduceEq, Int.reduceLT, Int.reduceLE, Int.reduceBEq, Int.reduceToNat, Int.toNat_natCast, Int.natCast_zero, r4_C0, h1, i0, he, q, w64]
    exact ih
theorem hs_0 : HsIs A B kx ke kz tx te tz 0 0 ((((0 : Int) + if kx == 2 then 1 else 0) + if ke == 2 then 1 else 0) + if kz == 2 then 1 else 0) := by
  refine hs_step A B kx ke kz tx te tz 0 (by omega) kx tx rfl 0 (by omega) _ ?_
  refine hs_step A B kx ke kz tx te tz 1 (by omega) ke te rfl _ (by split <;> omega) _ ?_
  refine hs_step A B kx ke kz tx te tz 2 (by omega) kz tz rfl _ (by repeat' split <;> omega) _ ?_
  exact hs_3 A B kx ke kz tx te tz _
end
end Go.Pe.T

namespace Go.Pe.T
-- printed by genk6.py: the law behind its first tests
section
variable {k c s : Int} {t : ByteArray} {xs ks : List D} {k' c' s' : Int} {t' : ByteArray} {xs' ks' : List D}
set_option maxHeartbeats 4000000 in
theorem bs_k6 {a0 a1 a4 a5 a6 a7 a16 a17 a18 a19 a20 a21 a22 a23 a24 a25 a26 a27 a28 a29 a30 a31 a32 a33 a34 a35 a36 a37 a38 a39 a40 a41 a42 a43 a44 a45 a46 a47 a48 a49 a50 a51 a52 a53 a54 a55 a56 : PV} (kx ke kz w4 w5 n : Int) (tx te tz : ByteArray)
    (c3 : ∀ hp, F tab 7 [.d (.str ⟨#[60]⟩), .d (gD k c s t xs ks), .d (gD k' c' s' t' xs' ks')] hp = some (.ret (.d (rD kx tx)) hp))
    (c4 : ∀ hp, F tab 7 [.d (.str ⟨#[62]⟩), .d (gD k' c' s' t' xs' ks'), .d (gD k c s t xs ks)] hp = some (.ret (.d (rD kx tx)) hp))
    (c5 : ∀ hp, F tab 7 [.d (.str ⟨#[61, 61]⟩), .d (gD k c s t xs ks), .d (gD k' c' s' t' xs' ks')] hp = some (.ret (.d (rD ke te)) hp))
    (c6 : ∀ hp, F tab 7 [.d (.str ⟨#[61, 61]⟩), .d (gD k' c' s' t' xs' ks'), .d (gD k c s t xs ks)] hp = some (.ret (.d (rD ke te)) hp))
    (c7 : ∀ hp, F tab 7 [.d (.str ⟨#[62]⟩), .d (gD k c s t xs ks), .d (gD k' c' s' t' xs' ks')] hp = some (.ret (.d (rD kz tz)) hp))
    (d1 : ∀ hp, F tab 7 [.d (.str ⟨#[97, 110, 100]⟩), .d (gD k c s t xs ks), .d (gD k' c' s' t' xs' ks')] hp = some (.ret (.d (kD w4)) hp))
    (d2 : ∀ hp, F tab 7 [.d (.str ⟨#[97, 110, 100]⟩), .d (gD k' c' s' t' xs' ks'), .d (gD k c s t xs ks)] hp = some (.ret (.d (kD w4)) hp))
    (d3 : ∀ hp, F tab 7 [.d (.str ⟨#[111, 114]⟩), .d (gD k c s t xs ks), .d (gD k' c' s' t' xs' ks')] hp = some (.ret (.d (kD w5)) hp))
    (d4 : ∀ hp, F tab 7 [.d (.str ⟨#[111, 114]⟩), .d (gD k' c' s' t' xs' ks'), .d (gD k c s t xs ks)] hp = some (.ret (.d (kD w5)) hp))
    (s1 : ∀ hp, F tab 11 [.d (rD kx tx), .d (rD kx tx)] hp = some (.ret (.d (.bool true)) hp))
    (s2 : ∀ hp, F tab 11 [.d (rD ke te), .d (rD ke te)] hp = some (.ret (.d (.bool true)) hp))
    (s4 : ∀ hp, F tab 11 [.d (kD w4), .d (kD w4)] hp = some (.ret (.d (.bool true)) hp))
    (s5 : ∀ hp, F tab 11 [.d (kD w5), .d (kD w5)] hp = some (.ret (.d (.bool true)) hp))
    (hn : ((((0 : Int) + if kx == 2 then 1 else 0) + if ke == 2 then 1 else 0) + if kz == 2 then 1 else 0) = n)
    (hq : (n != 1) = true → (kx != 7) = false) :
    V (F tab) (hold r4_K6) ⟨[a0, a1, .ibox [.d (iv k), .d (iv c), .d (iv s), .d (.str t), .d (.sl xs), .d (.sl ks)], (.ibox [.d (iv k'), .d (iv c'), .d (iv s'), .d (.str t'), .d (.sl xs'), .d (.sl ks')]), a4, a5, a6, a7, .dead, .dead, .dead, .dead, .dead, .dead, .dead, .dead, a16, a17, a18, a19, a20, a21, a22, a23, a24, a25, a26, a27, a28, a29, a30, a31, a32, a33, a34, a35, a36, a37, a38, a39, a40, a41, a42, a43, a44, a45, a46, a47, a48, a49, a50, a51, a52, a53, a54, a55, a56, .dead, .dead, .dead, .dead, .dead, .dead, .dead, .dead, .dead, .dead, .dead, .dead, .dead, .dead, .dead, .dead, .dead, .dead, .dead, .dead, .dead, .dead, .dead, .dead, .dead, .dead, .dead, .dead, .dead, .dead, .dead, .dead, .dead, .dead, .dead, .dead, .dead, .dead, .dead, .dead, .dead, .dead, .dead, .dead, .dead, .dead, .dead, .dead, .dead, .dead, .dead, .dead, .dead, .dead, .dead, .dead, .dead, .dead, .dead, .dead, .dead, .dead, .dead, .dead, .dead, .dead, .dead, .dead, .dead, .dead, .dead, .dead, .dead, .dead, .dead], []⟩ = some (.ret, r4_R (.d (.bool true)) []) := by
  have hL := hs_0 [.d (iv k), .d (iv c), .d (iv s), .d (.str t), .d (.sl xs), .d (.sl ks)] [.d (iv k'), .d (iv c'), .d (iv s'), .d (.str t'), .d (.sl xs'), .d (.sl ks')] kx ke kz tx te tz
  unfold HsIs at hL
  rw [hn, Int.natCast_zero] at hL
  have hv := lives19_ok
  clear hn
  simp (maxSteps := 1000000) (disch := omega) only [go_sem, and_self, and_true, true_and, false_and, and_false, Nat.reduceAdd, Nat.reduceMul, Nat.reduceSub, Nat.reduceLeDiff, Nat.reduceLT, Nat.reduceGT, Nat.reduceEqDiff, Nat.reduceBEq, Int.reduceNeg, Int.reduceEq, Int.reduceLT, Int.reduceLE, Int.reduceBEq, Int.reduceToNat, Int.toNat_natCast, Int.natCast_zero, strD, lit_eq, List.map_cons, List.map_nil, List.cons_beq_cons, List.nil_beq_eq, List.beq_nil_eq, List.isEmpty_cons, List.isEmpty_nil, UInt8.reduceToNat, Nat.reduceBEq, Bool.true_and, Bool.false_and, c3, c4, c5, c6, c7, s1, s2, Bool.not_true, Bool.not_false, List.map_nil]
  rw [r4_B0_n]
  erw [hL]
  rcases Bool.eq_false_or_eq_true (n != 1) with q | q
  · have q7 := hq q
    simp (maxSteps := 1000000) (disch := omega) only [go_sem, and_self, and_true, true_and, false_and, and_false, Nat.reduceAdd, Nat.reduceMul, Nat.reduceSub, Nat.reduceLeDiff, Nat.reduceLT, Nat.reduceGT, Nat.reduceEqDiff, Nat.reduceBEq, Int.reduceNeg, Int.reduceEq, Int.reduceLT, Int.reduceLE, Int.reduceBEq, Int.reduceToNat, Int.toNat_natCast, Int.natCast_zero, strD, lit_eq, List.map_cons, List.map_nil, List.cons_beq_cons, List.nil_beq_eq, List.beq_nil_eq, List.isEmpty_cons, List.isEmpty_nil, UInt8.reduceToNat, Nat.reduceBEq, Bool.true_and, Bool.false_and, r4, q, q7, d1, d2, d3, d4, s4, s5, hv]
  · simp (maxSteps := 1000000) (disch := omega) only [go_sem, and_self, and_true, true_and, false_and, and_false, Nat.reduceAdd, Nat.reduceMul, Nat.reduceSub, Nat.reduceLeDiff, Nat.reduceLT, Nat.reduceGT, Nat.reduceEqDiff, Nat.reduceBEq, Int.reduceNeg, Int.reduceEq, Int.reduceLT, Int.reduceLE, Int.reduceBEq, Int.reduceToNat, Int.toNat_natCast, Int.natCast_zero, strD, lit_eq, List.map_cons, List.map_nil, List.cons_beq_cons, List.nil_beq_eq, List.beq_nil_eq, List.isEmpty_cons, List.isEmpty_nil, UInt8.reduceToNat, Nat.reduceBEq, Bool.true_and, Bool.false_and, r4, q, d1, d2, d3, d4, s4, s5, hv]
end
end Go.Pe.T

namespace Go.Pe.T
attribute [-go_sem] r4_K6
section
variable {k c s : Int} {t : ByteArray} {xs ks : List D} {k' c' s' : Int} {t' : ByteArray} {xs' ks' : List D}
set_option maxHeartbeats 4000000 in
theorem bs_head (q p : Bool)
    (hl : ∀ hp, F tab 5 [.d (gD k c s t xs ks), .d (gD k' c' s' t' xs' ks')] hp = some (.ret (.d (.bool true)) hp))
    (b1 : ∀ hp, F tab 7 [.d (.str ⟨#[43]⟩), .d (kD 0), .d (gD k c s t xs ks)] hp = some (.ret (.d (gD k c s t xs ks)) hp))
    (b2 : ∀ hp, F tab 7 [.d (.str ⟨#[43]⟩), .d (gD k c s t xs ks), .d (kD 0)] hp = some (.ret (.d (gD k c s t xs ks)) hp))
    (b3 : ∀ hp, F tab 7 [.d (.str ⟨#[47, 47]⟩), .d (gD k c s t xs ks), .d (gD k' c' s' t' xs' ks')] hp = some (.ret (.d (if q then gD k c s t xs ks else gD k' c' s' t' xs' ks')) hp))
    (sa : ∀ hp, F tab 11 [.d (gD k c s t xs ks), .d (gD k c s t xs ks)] hp = some (.ret (.d (.bool true)) hp))
    (sb : ∀ hp, F tab 11 [.d (gD k' c' s' t' xs' ks'), .d (gD k' c' s' t' xs' ks')] hp = some (.ret (.d (.bool true)) hp))
    (sba : ∀ hp, F tab 11 [.d (gD k' c' s' t' xs' ks'), .d (gD k c s t xs ks)] hp = some (.ret (.d (.bool p)) hp))
    (m5 : (k == 7 || k' == 7) = true → ∀ hp, F tab 7 [.d (.str ⟨#[43]⟩), .d (gD k c s t xs ks), .d (gD k' c' s' t' xs' ks')] hp = some (.ret (.d (if k == 7 then gD k c s t xs ks else gD k' c' s' t' xs' ks')) hp))
    (hK : (k == 7) = false → (k' == 7) = false → ∀ {a0 a1 a4 a5 a6 a7 a16 a17 a18 a19 a20 a21 a22 a23 a24 a25 a26 a27 a28 a29 a30 a31 a32 a33 a34 a35 a36 a37 a38 a39 a40 a41 a42 a43 a44 a45 a46 a47 a48 a49 a50 a51 a52 a53 a54 a55 a56 : PV}, V (F tab) (hold r4_K6) ⟨[a0, a1, .ibox [.d (iv k), .d (iv c), .d (iv s), .d (.str t), .d (.sl xs), .d (.sl ks)], (.ibox [.d (iv k'), .d (iv c'), .d (iv s'), .d (.str t'), .d (.sl xs'), .d (.sl ks')]), a4, a5, a6, a7, .dead, .dead, .dead, .dead, .dead, .dead, .dead, .dead, a16, a17, a18, a19, a20, a21, a22, a23, a24, a25, a26, a27, a28, a29, a30, a31, a32, a33, a34, a35, a36, a37, a38, a39, a40, a41, a42, a43, a44, a45, a46, a47, a48, a49, a50, a51, a52, a53, a54, a55, a56, .dead, .dead, .dead, .dead, .dead, .dead, .dead, .dead, .dead, .dead, .dead, .dead, .dead, .dead, .dead, .dead, .dead, .dead, .dead, .dead, .dead, .dead, .dead, .dead, .dead, .dead, .dead, .dead, .dead, .dead, .dead, .dead, .dead, .dead, .dead, .dead, .dead, .dead, .dead, .dead, .dead, .dead, .dead, .dead, .dead, .dead, .dead, .dead, .dead, .dead, .dead, .dead, .dead, .dead, .dead, .dead, .dead, .dead, .dead, .dead, .dead, .dead, .dead, .dead, .dead, .dead, .dead, .dead, .dead, .dead, .dead, .dead, .dead, .dead, .dead], []⟩ = some (.ret, r4_R (.d (.bool true)) []))
    (hp : List Ent) :
    F tab 4 [.d (gD k c s t xs ks), .d (gD k' c' s' t' xs' ks')] hp = some (.ret (.d (.bool true)) hp) := by
  have hv := lives19_ok
  refine f4 rfl ?_
  rcases Bool.eq_false_or_eq_true (k == 7 || k' == 7) with hb | hb
  · have m5 := m5 hb
    rcases Bool.eq_false_or_eq_true (k == 7) with q1 | q1
    · rw [q1] at m5
      simp only [if_true] at m5
      cases q with
      | true =>
        simp only [if_true] at b3
        simp (disch := omega) only [go_sem, and_self, and_true, true_and, false_and, and_false, Nat.reduceAdd, Nat.reduceMul, Nat.reduceSub, Nat.reduceLeDiff, Nat.reduceLT, Nat.reduceGT, Nat.reduceEqDiff, Nat.reduceBEq, Int.reduceNeg, Int.reduceEq, Int.reduceLT, Int.reduceLE, Int.reduceBEq, Int.reduceToNat, Int.toNat_natCast, Int.natCast_zero, strD, lit_eq, List.map_cons, List.map_nil, List.cons_beq_cons, List.nil_beq_eq, List.beq_nil_eq, List.isEmpty_cons, List.isEmpty_nil, UInt8.reduceToNat, Nat.reduceBEq, Bool.true_and, Bool.false_and, r4_T, r4, hl, hv, b1, b2, b3, sa, sb, sba, q1, m5, Bool.not_true, Bool.not_false]
      | false =>
        simp only [if_false, Bool.false_eq_true] at b3
        cases p <;> simp (disch := omega) only [go_sem, and_self, and_true, true_and, false_and, and_false, Nat.reduceAdd, Nat.reduceMul, Nat.reduceSub, Nat.reduceLeDiff, Nat.reduceLT, Nat.reduceGT, Nat.reduceEqDiff, Nat.reduceBEq, Int.reduceNeg, Int.reduceEq, Int.reduceLT, Int.reduceLE, Int.reduceBEq, Int.reduceToNat, Int.toNat_natCast, Int.natCast_zero, strD, lit_eq, List.map_cons, List.map_nil, List.cons_beq_cons, List.nil_beq_eq, List.beq_nil_eq, List.isEmpty_cons, List.isEmpty_nil, UInt8.reduceToNat, Nat.reduceBEq, Bool.true_and, Bool.false_and, r4_T, r4, hl, hv, b1, b2, b3, sa, sb, sba, q1, m5, Bool.not_true, Bool.not_false]
    · have q2 : (k' == 7) = true := by rw [q1, Bool.false_or] at hb; exact hb
      rw [q1] at m5
      simp only [if_false, Bool.false_eq_true] at m5
      cases q with
      | true =>
        simp only [if_true] at b3
        simp (disch := omega) only [go_sem, and_self, and_true, true_and, false_and, and_false, Nat.reduceAdd, Nat.reduceMul, Nat.reduceSub, Nat.reduceLeDiff, Nat.reduceLT, Nat.reduceGT, Nat.reduceEqDiff, Nat.reduceBEq, Int.reduceNeg, Int.reduceEq, Int.reduceLT, Int.reduceLE, Int.reduceBEq, Int.reduceToNat, Int.toNat_natCast, Int.natCast_zero, strD, lit_eq, List.map_cons, List.map_nil, List.cons_beq_cons, List.nil_beq_eq, List.beq_nil_eq, List.isEmpty_cons, List.isEmpty_nil, UInt8.reduceToNat, Nat.reduceBEq, Bool.true_and, Bool.false_and, r4_T, r4, hl, hv, b1, b2, b3, sa, sb, sba, q1, q2, m5, Bool.not_true, Bool.not_false]
      | false =>
        simp only [if_false, Bool.false_eq_true] at b3
        cases p <;> simp (disch := omega) only [go_sem, and_self, and_true, true_and, false_and, and_false, Nat.reduceAdd, Nat.reduceMul, Nat.reduceSub, Nat.reduceLeDiff, Nat.reduceLT, Nat.reduceGT, Nat.reduceEqDiff, Nat.reduceBEq, Int.reduceNeg, Int.reduceEq, Int.reduceLT, Int.reduceLE, Int.reduceBEq, Int.reduceToNat, Int.toNat_natCast, Int.natCast_zero, strD, lit_eq, List.map_cons, List.map_nil, List.cons_beq_cons, List.nil_beq_eq, List.beq_nil_eq, List.isEmpty_cons, List.isEmpty_nil, UInt8.reduceToNat, Nat.reduceBEq, Bool.true_and, Bool.false_and, r4_T, r4, hl, hv, b1, b2, b3, sa, sb, sba, q1, q2, m5, Bool.not_true, Bool.not_false]
  · rw [Bool.or_eq_false_iff] at hb
    obtain ⟨q1, q2⟩ := hb
    have hK := @hK q1 q2
    cases q with
    | true =>
      simp only [if_true] at b3
      simp (disch := omega) only [go_sem, and_self, and_true, true_and, false_and, and_false, Nat.reduceAdd, Nat.reduceMul, Nat.reduceSub, Nat.reduceLeDiff, Nat.reduceLT, Nat.reduceGT, Nat.reduceEqDiff, Nat.reduceBEq, Int.reduceNeg, Int.reduceEq, Int.reduceLT, Int.reduceLE, Int.reduceBEq, Int.reduceToNat, Int.toNat_natCast, Int.natCast_zero, strD, lit_eq, List.map_cons, List.map_nil, List.cons_beq_cons, List.nil_beq_eq, List.beq_nil_eq, List.isEmpty_cons, List.isEmpty_nil, UInt8.reduceToNat, Nat.reduceBEq, Bool.true_and, Bool.false_and, r4_T, hl, hv, b1, b2, b3, sa, sb, sba, q1, q2, Bool.not_true, Bool.not_false]
      erw [hK]
      simp (disch := omega) only [go_sem, and_self, and_true, true_and, false_and, and_false, Nat.reduceAdd, Nat.reduceMul, Nat.reduceSub, Nat.reduceLeDiff, Nat.reduceLT, Nat.reduceGT, Nat.reduceEqDiff, Nat.reduceBEq, Int.reduceNeg, Int.reduceEq, Int.reduceLT, Int.reduceLE, Int.reduceBEq, Int.reduceToNat, Int.toNat_natCast, Int.natCast_zero, r4]
    | false =>
      simp only [if_false, Bool.false_eq_true] at b3
      cases p with
      | true =>
        simp (disch := omega) only [go_sem, and_self, and_true, true_and, false_and, and_false, Nat.reduceAdd, Nat.reduceMul, Nat.reduceSub, Nat.reduceLeDiff, Nat.reduceLT, Nat.reduceGT, Nat.reduceEqDiff, Nat.reduceBEq, Int.reduceNeg, Int.reduceEq, Int.reduceLT, Int.reduceLE, Int.reduceBEq, Int.reduceToNat, Int.toNat_natCast, Int.natCast_zero, strD, lit_eq, List.map_cons, List.map_nil, List.cons_beq_cons, List.nil_beq_eq, List.beq_nil_eq, List.isEmpty_cons, List.isEmpty_nil, UInt8.reduceToNat, Nat.reduceBEq, Bool.true_and, Bool.false_and, r4_T, hl, hv, b1, b2, b3, sa, sb, sba, q1, q2, Bool.not_true, Bool.not_false]
        erw [hK]
        simp (disch := omega) only [go_sem, and_self, and_true, true_and, false_and, and_false, Nat.reduceAdd, Nat.reduceMul, Nat.reduceSub, Nat.reduceLeDiff, Nat.reduceLT, Nat.reduceGT, Nat.reduceEqDiff, Nat.reduceBEq, Int.reduceNeg, Int.reduceEq, Int.reduceLT, Int.reduceLE, Int.reduceBEq, Int.reduceToNat, Int.toNat_natCast, Int.natCast_zero, r4]
      | false =>
        simp (disch := omega) only [go_sem, and_self, and_true, true_and, false_and, and_false, Nat.reduceAdd, Nat.reduceMul, Nat.reduceSub, Nat.reduceLeDiff, Nat.reduceLT, Nat.reduceGT, Nat.reduceEqDiff, Nat.reduceBEq, Int.reduceNeg, Int.reduceEq, Int.reduceLT, Int.reduceLE, Int.reduceBEq, Int.reduceToNat, Int.toNat_natCast, Int.natCast_zero, strD, lit_eq, List.map_cons, List.map_nil, List.cons_beq_cons, List.nil_beq_eq, List.beq_nil_eq, List.isEmpty_cons, List.isEmpty_nil, UInt8.reduceToNat, Nat.reduceBEq, Bool.true_and, Bool.false_and, r4_T, hl, hv, b1, b2, b3, sa, sb, sba, q1, q2, Bool.not_true, Bool.not_false]
        erw [hK]
        simp (disch := omega) only [go_sem, and_self, and_true, true_and, false_and, and_false, Nat.reduceAdd, Nat.reduceMul, Nat.reduceSub, Nat.reduceLeDiff, Nat.reduceLT, Nat.reduceGT, Nat.reduceEqDiff, Nat.reduceBEq, Int.reduceNeg, Int.reduceEq, Int.reduceLT, Int.reduceLE, Int.reduceBEq, Int.reduceToNat, Int.toNat_natCast, Int.natCast_zero, r4]
end
end Go.Pe.T

namespace Go.Pe.T
theorem bs_core (k c s : Int) (t : ByteArray) (xs : List Val) (ks : List ByteArray) (k' c' s' : Int) (t' : ByteArray) (xs' : List Val) (ks' : List ByteArray)
    (oa : (Val.mk k c s t xs ks).ok) (ob : (Val.mk k' c' s' t' xs' ks').ok) (la : (Val.mk k c s t xs ks).lim 1048576) (lb : (Val.mk k' c' s' t' xs' ks').lim 1048576) (hp : List Ent) :
    F tab 4 [.d (gD k c s t (Val.encs xs) (ks.map .str)), .d (gD k' c' s' t' (Val.encs xs') (ks'.map .str))] hp = some (.ret (.d (.bool true)) hp) := by
  obtain ⟨q, hl, hz⟩ := light19_ex _ _ oa ob la lb
  have hv := lives19_ok
  rw [Val.enc, Val.enc] at hl
  cases q with
  | false =>
    refine f4 rfl ?_
    simp (disch := omega) only [go_sem, and_self, and_true, true_and, false_and, and_false, Nat.reduceAdd, Nat.reduceMul, Nat.reduceSub, Nat.reduceLeDiff, Nat.reduceLT, Nat.reduceGT, Nat.reduceEqDiff, Nat.reduceBEq, Int.reduceNeg, Int.reduceEq, Int.reduceLT, Int.reduceLE, Int.reduceBEq, Int.reduceToNat, Int.toNat_natCast, Int.natCast_zero, r4_T, r4, hl, hv]
  | true =>
    have hz := fun h => hz rfl k c s t xs ks rfl h
    have b2 : ∀ hp, F tab 7 [.d (.str ⟨#[43]⟩), .d (gD k c s t (Val.encs xs) (ks.map .str)), .d (kD 0)] hp = some (.ret (.d (gD k c s t (Val.encs xs) (ks.map .str))) hp) := by
      intro hp
      rw [nullPlus]
      rcases Bool.eq_false_or_eq_true (k == 0) with q | q
      · have k0 : k = 0 := by simpa using q
        obtain ⟨h1, h2, h3, h4, h5⟩ := hz k0
        have h4 : xs = [] := List.eq_nil_of_length_eq_zero h4
        have h5 : ks = [] := List.eq_nil_of_length_eq_zero h5
        have h3 : t = ⟨#[]⟩ := by
          obtain ⟨a⟩ := t
          have : a.size = 0 := h3
          rw [Array.eq_empty_of_size_eq_zero this]
        subst k0 h1 h2 h3 h4 h5
        rfl
      · rw [q]; rfl
    have sa := sam_ok (.mk k c s t xs ks) (.mk k c s t xs ks) oa
    have sb := sam_ok (.mk k' c' s' t' xs' ks') (.mk k' c' s' t' xs' ks') ob
    have sba := sam_ok (.mk k' c' s' t' xs' ks') (.mk k c s t xs ks) ob
    unfold SamIs at sa sb sba
    rw [samV_refl] at sa sb
    have c1 := ocmp_ok _ _ oa ob
    have c2 := ocmp_ok _ _ ob oa
    rw [cmpR_swap] at c2
    generalize samV (.mk k' c' s' t' xs' ks') (.mk k c s t xs ks) = p at sba
    generalize cmpR (.mk k c s t xs ks) (.mk k' c' s' t' xs' ks') = r at c1 c2
    obtain ⟨z, ok⟩ := r
    rw [Val.enc, Val.enc] at c1 c2 sba
    rw [Val.enc] at sa sb
    refine bs_head _ p hl (plusNull k c s t (Val.encs xs) (ks.map .str)) b2 (altG k c s t (Val.encs xs) (ks.map .str) k' c' s' t' (Val.encs xs') (ks'.map .str)) sa sb sba (badPlus k c s t (Val.encs xs) (ks.map .str) k' c' s' t' (Val.encs xs') (ks'.map .str)) ?_ hp
    intro q1 q2
    intros
    have c3 := ltG k c s t (Val.encs xs) (ks.map .str) k' c' s' t' (Val.encs xs') (ks'.map .str) q1 q2 z ok c1
    have c4 := gtG k' c' s' t' (Val.encs xs') (ks'.map .str) k c s t (Val.encs xs) (ks.map .str) q2 q1 (-z) ok c2
    have c5 := eqG k c s t (Val.encs xs) (ks.map .str) k' c' s' t' (Val.encs xs') (ks'.map .str) q1 q2 z ok c1
    have c6 := eqG k' c' s' t' (Val.encs xs') (ks'.map .str) k c s t (Val.encs xs) (ks.map .str) q2 q1 (-z) ok c2
    have c7 := gtG k c s t (Val.encs xs) (ks.map .str) k' c' s' t' (Val.encs xs') (ks'.map .str) q1 q2 z ok c1
    have d1 := andG k c s t (Val.encs xs) (ks.map .str) k' c' s' t' (Val.encs xs') (ks'.map .str) q1 q2
    have d2 := andG k' c' s' t' (Val.encs xs') (ks'.map .str) k c s t (Val.encs xs) (ks.map .str) q2 q1
    have d3 := orG k c s t (Val.encs xs) (ks.map .str) k' c' s' t' (Val.encs xs') (ks'.map .str) q1 q2
    have d4 := orG k' c' s' t' (Val.encs xs') (ks'.map .str) k c s t (Val.encs xs) (ks.map .str) q2 q1
    rw [Bool.and_comm] at d2
    rw [Bool.or_comm] at d4
    have n1 : decide (-z > 0) = decide (z < 0) := decide_eq_decide.2 (by omega)
    have n2 : (-z == 0) = (z == 0) := by rw [Bool.eq_iff_iff, beq_iff_eq, beq_iff_eq]; omega
    rw [n1] at c4
    rw [n2] at c6
    have g4 : i64 (if ((k != 0 && k != 1) && (k' != 0 && k' != 1)) then (2 : Int) else 1) := by unfold i64; split <;> omega
    have g5 : i64 (if ((k != 0 && k != 1) || (k' != 0 && k' != 1)) then (2 : Int) else 1) := by unfold i64; split <;> omega
    generalize (if ((k != 0 && k != 1) && (k' != 0 && k' != 1)) then (2 : Int) else 1) = w4 at *
    generalize (if ((k != 0 && k != 1) || (k' != 0 && k' != 1)) then (2 : Int) else 1) = w5 at *
    have te : (⟨#[]⟩ : ByteArray).size ≤ maxLen := by decide
    have td : (⟨#[100, 101, 101, 112]⟩ : ByteArray).size ≤ maxLen := by decide
    have s4 := sameR w4 _ g4 te
    have s5 := sameR w5 _ g5 te
    cases ok with
    | false =>
      simp only [if_false, Bool.false_eq_true] at c3 c4 c5 c6 c7
      have s7 := sameR 7 _ (by unfold i64; omega) td
      exact bs_k6 7 7 7 w4 w5 0 _ _ _ c3 c4 c5 c6 c7 d1 d2 d3 d4 s7 s7 s4 s5 rfl (fun _ => rfl)
    | true =>
      simp only [if_true] at c3 c4 c5 c6 c7
      have g1 : i64 (if decide (z < 0) then (2 : Int) else 1) := by unfold i64; split <;> omega
      have g2 : i64 (if (z == 0) then (2 : Int) else 1) := by unfold i64; split <;> omega
      refine bs_k6 _ _ _ w4 w5 1 _ _ _ c3 c4 c5 c6 c7 d1 d2 d3 d4 (sameR _ _ g1 te) (sameR _ _ g2 te) s4 s5 ?_ (fun h => absurd h (by decide))
      rcases Int.lt_trichotomy z 0 with h | h | h
      · have e1 : decide (z < 0) = true := by simpa using h
        have e2 : (z == 0) = false := by rw [beq_eq_false_iff_ne]; omega
        have e3 : decide (z > 0) = false := by rw [decide_eq_false_iff_not]; omega
        rw [e1, e2, e3]; rfl
      · subst h; rfl
      · have e1 : decide (z < 0) = false := by rw [decide_eq_false_iff_not]; omega
        have e2 : (z == 0) = false := by rw [beq_eq_false_iff_ne]; omega
        have e3 : decide (z > 0) = true := by rw [decide_eq_true_iff]; omega
        rw [e1, e2, e3]; rfl
theorem BasicStays_ok (a b : Val) (oa : a.ok) (ob : b.ok) (la : a.lim 1048576) (lb : b.lim 1048576) (hp : List Ent) : F tab 4 [.d a.enc, .d b.enc] hp = some (.ret (.d (.bool true)) hp) := by
  obtain ⟨k, c, s, t, xs, ks⟩ := a
  obtain ⟨k', c', s', t', xs', ks'⟩ := b
  rw [Val.enc, Val.enc]
  exact bs_core k c s t xs ks k' c' s' t' xs' ks' oa ob la lb hp
end Go.Pe.T
