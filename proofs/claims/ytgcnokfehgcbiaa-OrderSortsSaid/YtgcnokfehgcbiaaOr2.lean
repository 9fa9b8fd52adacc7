/- A part of the proof of: Values in order, each once, and the place of one among them: what the code sorts is what the document's insertion sorts, where each two have an answer, and both tell the same where two have none; each one once, and the first place, too. -/
import Derived.Test.YtgcnokfehgcbiaaOr1
import Derived.Test.YtgcnokfehgcbiaaPe3
import Derived.Laws.Strings
set_option linter.unusedSimpArgs false
set_option linter.unusedVariables false
set_option maxRecDepth 10000

namespace Go.Pe.T
/-! ### how great a value is: ref05 Size, Flat, Light; law07 light -/

mutual
def sizeV : Val → Int → Int → Int
  | .mk _ _ _ _ xs _, n, most => if n ≥ most then n else sizes xs (n + 1) most
def sizes : List Val → Int → Int → Int
  | [], n, _ => n
  | v :: r, n, most => sizes r (sizeV v n most) most
end

theorem size_loop (most : Int) (hm : most ≤ 9223372036854775807) (k c s : Int) (t : ByteArray) (items : List Val) (hl : items.length ≤ maxLen) (keys : List D)
    (ih : ∀ v ∈ items, ∀ n, 0 ≤ n → 0 ≤ sizeV v n most ∧ ∀ hp, F tab 85 [.d v.enc, .d (iv n), .d (iv most)] hp = some (.ret (.d (iv (sizeV v n most))) hp)) : ∀ (j i : Nat) (n : Int), i + j = items.length → 0 ≤ n →
  V (F tab) r85_B0 (r85_S0 (.d (iv n)) (.d (iv most)) (.ibox [.d (iv k), .d (iv c), .d (iv s), .d (.str t), .d (.sl (Val.encs items)), .d (.sl keys)]) (.d (iv i)) []) =
    some (.norm, r85_E0 (.d (iv (sizes (items.drop i) n most))) []) ∧ 0 ≤ sizes (items.drop i) n most
  | 0, i, n, hi, h0 => by
    rw [r85_B0_eq, List.drop_of_length_le (by omega)]
    have h1 : ((i : Int) < (items.length : Int)) = False := by simp; omega
    refine ⟨?_, h0⟩
    simp only [go_sem, r85_C0, encs_len, h1, sizes]
  | j + 1, i, n, hi, h0 => by
    have hlt : i < items.length := by omega
    have hmx : maxLen ≤ 9223372036854775807 := by decide
    have h1 : ((i : Int) < (items.length : Int)) = True := by simp [hlt]
    have h2 : (0 ≤ (i : Int)) = True := by simp
    have h3 : (Val.encs items)[i]? = some (items[i].enc) := by rw [encs_get]; simp [hlt]
    obtain ⟨e2, e3⟩ := ih items[i] (List.getElem_mem hlt) n h0
    have ihj := size_loop most hm k c s t items hl keys ih j (i + 1) _ (by omega) e2
    rw [List.drop_eq_getElem_cons hlt]
    simp only [sizes]
    refine ⟨?_, ihj.2⟩
    rw [r85_B0_eq]
    simp (disch := omega) only [go_sem, r85_C0, encs_len, h1, h2, h3, Int.toNat_natCast, enc_w, enc_a, e3, w64]
    exact ihj.1

theorem size_ok {most : Int} (hm : most ≤ 9223372036854775807) : ∀ (v : Val) (n : Int), v.ok → 0 ≤ n → 0 ≤ sizeV v n most ∧ ∀ hp, F tab 85 [.d v.enc, .d (iv n), .d (iv most)] hp = some (.ret (.d (iv (sizeV v n most))) hp)
  | .mk k c s t xs ks, n, hv, h0 => by
    simp only [Val.ok] at hv
    have ih : ∀ v ∈ xs, ∀ n, 0 ≤ n → 0 ≤ sizeV v n most ∧ ∀ hp, F tab 85 [.d v.enc, .d (iv n), .d (iv most)] hp = some (.ret (.d (iv (sizeV v n most))) hp) := by
      intro v hv' n h0
      exact size_ok hm v n (oks_mem hv.2.2.2.2.2.2.2 hv') h0
    by_cases h : n ≥ most
    · refine ⟨by simp only [sizeV, h, if_true]; exact h0, fun hp => f85 rfl ?_⟩
      simp only [go_sem, r85_T, r85, Val.enc, h, sizeV]
    · have hL := size_loop most hm k c s t xs hv.2.2.2.2.1 (ks.map .str) ih xs.length 0 (n + 1) (by omega) (by omega)
      refine ⟨by simp only [sizeV, h, if_false]; exact hL.2, fun hp => f85 rfl ?_⟩
      simp (disch := omega) only [go_sem, r85_T, r85, Val.enc, h, sizeV, w64]
      rw [r85_B0_n]
      erw [hL.1]
      simp only [go_sem, List.drop_zero]

mutual
def flatV : Val → Int → Bool
  | .mk _ _ _ _ xs _, d => if d < 0 then false else flats xs (d - 1)
def flats : List Val → Int → Bool
  | [], _ => true
  | v :: r, d => if flatV v d then flats r d else false
end

theorem flat_loop (d : Int) (hd : 0 ≤ d ∧ d ≤ 9223372036854775807) (k c s : Int) (t : ByteArray) (items : List Val) (hl : items.length ≤ maxLen) (keys : List D)
    (ih : ∀ v ∈ items, ∀ hp, F tab 86 [.d v.enc, .d (iv (d - 1))] hp = some (.ret (.d (.bool (flatV v (d - 1)))) hp)) : ∀ (j i : Nat), i + j = items.length →
  V (F tab) r86_B0 (r86_S0 (.d (iv d)) (.ibox [.d (iv k), .d (iv c), .d (iv s), .d (.str t), .d (.sl (Val.encs items)), .d (.sl keys)]) (.d (iv i)) []) =
     if flats (items.drop i) (d - 1) then some (.norm, r86_E0 []) else some (.ret, r86_R (.d (.bool false)) [])
  | 0, i, hi => by
    rw [r86_B0_eq, List.drop_of_length_le (by omega)]
    have h1 : ((i : Int) < (items.length : Int)) = False := by simp; omega
    simp only [go_sem, r86_C0, encs_len, h1, flats]
  | j + 1, i, hi => by
    have hlt : i < items.length := by omega
    have hmx : maxLen ≤ 9223372036854775807 := by decide
    have h1 : ((i : Int) < (items.length : Int)) = True := by simp [hlt]
    have h2 : (0 ≤ (i : Int)) = True := by simp
    have h3 : (Val.encs items)[i]? = some (items[i].enc) := by rw [encs_get]; simp [hlt]
    have e3 := ih items[i] (List.getElem_mem hlt)
    have ihj := flat_loop d hd k c s t items hl keys ih j (i + 1) (by omega)
    rw [List.drop_eq_getElem_cons hlt]
    simp only [flats]
    rw [r86_B0_eq]
    rcases Bool.eq_false_or_eq_true (flatV items[i] (d - 1)) with hf | hf
    · simp (disch := omega) only [go_sem, and_self, and_true, true_and, false_and, and_false, Nat.reduceAdd, Nat.reduceMul, Nat.reduceSub, Nat.reduceLeDiff, Nat.reduceLT, Nat.reduceGT, Nat.reduceEqDiff, Nat.reduceBEq, Int.reduceNeg, Int.reduceEq, Int.reduceLT, Int.reduceLE, Int.reduceBEq, Int.reduceToNat, Int.toNat_natCast, Int.natCast_zero, r86_C0, encs_len, h1, h2, h3, enc_w, enc_a, e3, hf, w64]
      exact ihj
    · simp (disch := omega) only [go_sem, and_self, and_true, true_and, false_and, and_false, Nat.reduceAdd, Nat.reduceMul, Nat.reduceSub, Nat.reduceLeDiff, Nat.reduceLT, Nat.reduceGT, Nat.reduceEqDiff, Nat.reduceBEq, Int.reduceNeg, Int.reduceEq, Int.reduceLT, Int.reduceLE, Int.reduceBEq, Int.reduceToNat, Int.toNat_natCast, Int.natCast_zero, r86_C0, encs_len, h1, h2, h3, enc_w, enc_a, e3, hf, w64]

theorem flat_ok : ∀ (v : Val) (d : Int), v.ok → i64 d → ∀ hp, F tab 86 [.d v.enc, .d (iv d)] hp = some (.ret (.d (.bool (flatV v d))) hp)
  | .mk k c s t xs ks, d, hv, h0, hp => by
    simp only [Val.ok] at hv
    refine f86 rfl ?_
    by_cases h : d < 0
    · simp only [go_sem, r86_T, r86, Val.enc, h, flatV]
    · have h1 : i64 (d - 1) := by unfold i64 at *; omega
      have hL := flat_loop d (by unfold i64 at *; omega) k c s t xs hv.2.2.2.2.1 (ks.map .str) (fun v hv' hp => flat_ok v (d - 1) (oks_mem hv.2.2.2.2.2.2.2 hv') h1 hp) xs.length 0 (by omega)
      simp (disch := omega) only [go_sem, r86_T, r86, Val.enc, h, flatV, w64]
      rw [r86_B0_n]
      erw [hL]
      rw [List.drop_zero]
      cases flats xs (d - 1) <;> simp only [go_sem]

def lightV (v : Val) (most : Int) : Bool := decide (sizeV v 0 (most + 1) ≤ most) && flatV v 60

theorem light_ok {v : Val} {most : Int} (hv : v.ok) (hm : 0 ≤ most ∧ most < 9223372036854775807) (hp : List Ent) : F tab 55 [.d v.enc, .d (iv most)] hp = some (.ret (.d (.bool (lightV v most))) hp) := by
  refine f55 rfl ?_
  have h1 := (size_ok (most := most + 1) (by omega) v 0 hv (by omega)).2
  have h2 := flat_ok v 60 hv (by unfold i64; omega)
  cases v with
  | mk k c s t xs ks =>
    by_cases h : sizeV (Val.mk k c s t xs ks) 0 (most + 1) ≤ most
    · simp only [Val.enc] at h1 h2
      simp (disch := omega) only [go_sem, and_self, and_true, true_and, false_and, and_false, Nat.reduceAdd, Nat.reduceMul, Nat.reduceSub, Nat.reduceLeDiff, Nat.reduceLT, Nat.reduceGT, Nat.reduceEqDiff, Nat.reduceBEq, Int.reduceNeg, Int.reduceEq, Int.reduceLT, Int.reduceLE, Int.reduceBEq, Int.reduceToNat, Int.toNat_natCast, Int.natCast_zero, r55_T, r55, Val.enc, lightV, w64, h1, h2, h]
    · simp only [Val.enc] at h1 h2
      simp (disch := omega) only [go_sem, and_self, and_true, true_and, false_and, and_false, Nat.reduceAdd, Nat.reduceMul, Nat.reduceSub, Nat.reduceLeDiff, Nat.reduceLT, Nat.reduceGT, Nat.reduceEqDiff, Nat.reduceBEq, Int.reduceNeg, Int.reduceEq, Int.reduceLT, Int.reduceLE, Int.reduceBEq, Int.reduceToNat, Int.toNat_natCast, Int.natCast_zero, r55_T, r55, Val.enc, lightV, w64, h1, h2, h]
end Go.Pe.T

namespace Go.Pe.T
/-! ### signs and ranks -/

/-- -1, 0, 1 -/
def sgn (a b : Int) : Int := if a < b then -1 else if a > b then 1 else 0

theorem isNaNi_ok (a : Int) (hp : List Ent) : F tab 119 [.d (iv a)] hp = some (.ret (.d (.bool false)) hp) := by
  refine f119 rfl ?_
  have h : (a != a) = false := by simp
  simp only [go_sem, and_self, and_true, true_and, false_and, and_false, Nat.reduceAdd, Nat.reduceMul, Nat.reduceSub, Nat.reduceLeDiff, Nat.reduceLT, Nat.reduceGT, Nat.reduceEqDiff, Nat.reduceBEq, Int.reduceNeg, Int.reduceEq, Int.reduceLT, Int.reduceLE, Int.reduceBEq, Int.reduceToNat, Int.toNat_natCast, Int.natCast_zero, r119_T, r119, h]

theorem cmpi_ok (a b : Int) (hp : List Ent) : F tab 87 [.d (iv a), .d (iv b)] hp = some (.ret (.d (iv (sgn a b))) hp) := by
  refine f87 rfl ?_
  have h1 := isNaNi_ok a
  have h2 := isNaNi_ok b
  by_cases ha : a < b
  · simp only [go_sem, and_self, and_true, true_and, false_and, and_false, Nat.reduceAdd, Nat.reduceMul, Nat.reduceSub, Nat.reduceLeDiff, Nat.reduceLT, Nat.reduceGT, Nat.reduceEqDiff, Nat.reduceBEq, Int.reduceNeg, Int.reduceEq, Int.reduceLT, Int.reduceLE, Int.reduceBEq, Int.reduceToNat, Int.toNat_natCast, Int.natCast_zero, r87_T, r87, h1, h2, ha, sgn]
  · by_cases hb : a > b
    · simp only [go_sem, and_self, and_true, true_and, false_and, and_false, Nat.reduceAdd, Nat.reduceMul, Nat.reduceSub, Nat.reduceLeDiff, Nat.reduceLT, Nat.reduceGT, Nat.reduceEqDiff, Nat.reduceBEq, Int.reduceNeg, Int.reduceEq, Int.reduceLT, Int.reduceLE, Int.reduceBEq, Int.reduceToNat, Int.toNat_natCast, Int.natCast_zero, r87_T, r87, h1, h2, ha, hb, sgn]
    · simp only [go_sem, and_self, and_true, true_and, false_and, and_false, Nat.reduceAdd, Nat.reduceMul, Nat.reduceSub, Nat.reduceLeDiff, Nat.reduceLT, Nat.reduceGT, Nat.reduceEqDiff, Nat.reduceBEq, Int.reduceNeg, Int.reduceEq, Int.reduceLT, Int.reduceLE, Int.reduceBEq, Int.reduceToNat, Int.toNat_natCast, Int.natCast_zero, r87_T, r87, h1, h2, ha, hb, sgn]

def rankOf (k : Int) : Int := if k < 0 then 8 else if k > 7 then 8 else k

theorem rank_ok (k : Int) (hp : List Ent) : F tab 88 [.d (iv k)] hp = some (.ret (.d (iv (rankOf k))) hp) := by
  refine f88 rfl ?_
  by_cases h1 : k < 0
  · simp only [go_sem, and_self, and_true, true_and, false_and, and_false, Nat.reduceAdd, Nat.reduceMul, Nat.reduceSub, Nat.reduceLeDiff, Nat.reduceLT, Nat.reduceGT, Nat.reduceEqDiff, Nat.reduceBEq, Int.reduceNeg, Int.reduceEq, Int.reduceLT, Int.reduceLE, Int.reduceBEq, Int.reduceToNat, Int.toNat_natCast, Int.natCast_zero, r88_T, r88, h1, rankOf]
  · by_cases h2 : k > 7
    · simp only [go_sem, and_self, and_true, true_and, false_and, and_false, Nat.reduceAdd, Nat.reduceMul, Nat.reduceSub, Nat.reduceLeDiff, Nat.reduceLT, Nat.reduceGT, Nat.reduceEqDiff, Nat.reduceBEq, Int.reduceNeg, Int.reduceEq, Int.reduceLT, Int.reduceLE, Int.reduceBEq, Int.reduceToNat, Int.toNat_natCast, Int.natCast_zero, r88_T, r88, h1, h2, rankOf]
    · simp only [go_sem, and_self, and_true, true_and, false_and, and_false, Nat.reduceAdd, Nat.reduceMul, Nat.reduceSub, Nat.reduceLeDiff, Nat.reduceLT, Nat.reduceGT, Nat.reduceEqDiff, Nat.reduceBEq, Int.reduceNeg, Int.reduceEq, Int.reduceLT, Int.reduceLE, Int.reduceBEq, Int.reduceToNat, Int.toNat_natCast, Int.natCast_zero, r88_T, r88, h1, h2, rankOf]

theorem rank7_ok (k : Int) (hp : List Ent) : F tab 95 [.d (iv k)] hp = some (.ret (.d (iv (rankOf k))) hp) := by
  refine f95 rfl ?_
  by_cases h1 : k < 0
  · simp only [go_sem, and_self, and_true, true_and, false_and, and_false, Nat.reduceAdd, Nat.reduceMul, Nat.reduceSub, Nat.reduceLeDiff, Nat.reduceLT, Nat.reduceGT, Nat.reduceEqDiff, Nat.reduceBEq, Int.reduceNeg, Int.reduceEq, Int.reduceLT, Int.reduceLE, Int.reduceBEq, Int.reduceToNat, Int.toNat_natCast, Int.natCast_zero, r95_T, r95, h1, rankOf]
  · by_cases h2 : k > 7
    · simp only [go_sem, and_self, and_true, true_and, false_and, and_false, Nat.reduceAdd, Nat.reduceMul, Nat.reduceSub, Nat.reduceLeDiff, Nat.reduceLT, Nat.reduceGT, Nat.reduceEqDiff, Nat.reduceBEq, Int.reduceNeg, Int.reduceEq, Int.reduceLT, Int.reduceLE, Int.reduceBEq, Int.reduceToNat, Int.toNat_natCast, Int.natCast_zero, r95_T, r95, h1, h2, rankOf]
    · simp only [go_sem, and_self, and_true, true_and, false_and, and_false, Nat.reduceAdd, Nat.reduceMul, Nat.reduceSub, Nat.reduceLeDiff, Nat.reduceLT, Nat.reduceGT, Nat.reduceEqDiff, Nat.reduceBEq, Int.reduceNeg, Int.reduceEq, Int.reduceLT, Int.reduceLE, Int.reduceBEq, Int.reduceToNat, Int.toNat_natCast, Int.natCast_zero, r95_T, r95, h1, h2, rankOf]

theorem sign7_ok (a b : Int) (hp : List Ent) : F tab 94 [.d (iv a), .d (iv b)] hp = some (.ret (.d (iv (sgn a b))) hp) := by
  refine f94 rfl ?_
  by_cases ha : a < b
  · simp only [go_sem, and_self, and_true, true_and, false_and, and_false, Nat.reduceAdd, Nat.reduceMul, Nat.reduceSub, Nat.reduceLeDiff, Nat.reduceLT, Nat.reduceGT, Nat.reduceEqDiff, Nat.reduceBEq, Int.reduceNeg, Int.reduceEq, Int.reduceLT, Int.reduceLE, Int.reduceBEq, Int.reduceToNat, Int.toNat_natCast, Int.natCast_zero, r94_T, r94, ha, sgn]
  · by_cases hb : a > b
    · simp only [go_sem, and_self, and_true, true_and, false_and, and_false, Nat.reduceAdd, Nat.reduceMul, Nat.reduceSub, Nat.reduceLeDiff, Nat.reduceLT, Nat.reduceGT, Nat.reduceEqDiff, Nat.reduceBEq, Int.reduceNeg, Int.reduceEq, Int.reduceLT, Int.reduceLE, Int.reduceBEq, Int.reduceToNat, Int.toNat_natCast, Int.natCast_zero, r94_T, r94, ha, hb, sgn]
    · simp only [go_sem, and_self, and_true, true_and, false_and, and_false, Nat.reduceAdd, Nat.reduceMul, Nat.reduceSub, Nat.reduceLeDiff, Nat.reduceLT, Nat.reduceGT, Nat.reduceEqDiff, Nat.reduceBEq, Int.reduceNeg, Int.reduceEq, Int.reduceLT, Int.reduceLE, Int.reduceBEq, Int.reduceToNat, Int.toNat_natCast, Int.natCast_zero, r94_T, r94, ha, hb, sgn]

theorem numorder_ok (a b : Int) (hp : List Ent) : F tab 122 [.d (iv a), .d (iv b)] hp = some (.ret (.d (iv (sgn a b))) hp) := by
  refine f122 rfl ?_
  by_cases ha : a < b
  · simp only [go_sem, and_self, and_true, true_and, false_and, and_false, Nat.reduceAdd, Nat.reduceMul, Nat.reduceSub, Nat.reduceLeDiff, Nat.reduceLT, Nat.reduceGT, Nat.reduceEqDiff, Nat.reduceBEq, Int.reduceNeg, Int.reduceEq, Int.reduceLT, Int.reduceLE, Int.reduceBEq, Int.reduceToNat, Int.toNat_natCast, Int.natCast_zero, r122_T, r122, ha, sgn]
  · by_cases hb : a > b
    · simp only [go_sem, and_self, and_true, true_and, false_and, and_false, Nat.reduceAdd, Nat.reduceMul, Nat.reduceSub, Nat.reduceLeDiff, Nat.reduceLT, Nat.reduceGT, Nat.reduceEqDiff, Nat.reduceBEq, Int.reduceNeg, Int.reduceEq, Int.reduceLT, Int.reduceLE, Int.reduceBEq, Int.reduceToNat, Int.toNat_natCast, Int.natCast_zero, r122_T, r122, ha, hb, sgn]
    · simp only [go_sem, and_self, and_true, true_and, false_and, and_false, Nat.reduceAdd, Nat.reduceMul, Nat.reduceSub, Nat.reduceLeDiff, Nat.reduceLT, Nat.reduceGT, Nat.reduceEqDiff, Nat.reduceBEq, Int.reduceNeg, Int.reduceEq, Int.reduceLT, Int.reduceLE, Int.reduceBEq, Int.reduceToNat, Int.toNat_natCast, Int.natCast_zero, r122_T, r122, ha, hb, sgn]

/-! ### numbers: which may be, and which is greater -/

abbrev numD (c s : Int) : D := .agg [iv c, iv s]

def numIs (c s : Int) : Bool := decide (0 ≤ s) && decide (s ≤ 9) && decide (-1000000000000000 < c) && decide (c < 1000000000000000) && (s == 0 || c.tmod 10 != 0)

theorem numIs_ok (c s : Int) (hp : List Ent) : F tab 123 [.d (numD c s)] hp = some (.ret (.d (.bool (numIs c s))) hp) := by
  refine f123 rfl ?_
  by_cases h1 : s < 0
  · have g1 : ¬ (0 ≤ s) := by omega
    simp only [go_sem, and_self, and_true, true_and, false_and, and_false, Nat.reduceAdd, Nat.reduceMul, Nat.reduceSub, Nat.reduceLeDiff, Nat.reduceLT, Nat.reduceGT, Nat.reduceEqDiff, Nat.reduceBEq, Int.reduceNeg, Int.reduceEq, Int.reduceLT, Int.reduceLE, Int.reduceBEq, Int.reduceToNat, Int.toNat_natCast, Int.natCast_zero, r123_T, r123, numIs, h1, g1]
  · have g1 : 0 ≤ s := by omega
    by_cases h2 : s > 9
    · have g2 : ¬ (s ≤ 9) := by omega
      simp only [go_sem, and_self, and_true, true_and, false_and, and_false, Nat.reduceAdd, Nat.reduceMul, Nat.reduceSub, Nat.reduceLeDiff, Nat.reduceLT, Nat.reduceGT, Nat.reduceEqDiff, Nat.reduceBEq, Int.reduceNeg, Int.reduceEq, Int.reduceLT, Int.reduceLE, Int.reduceBEq, Int.reduceToNat, Int.toNat_natCast, Int.natCast_zero, r123_T, r123, numIs, h1, g1, h2, g2]
    · have g2 : s ≤ 9 := by omega
      by_cases h3 : c ≤ -1000000000000000
      · have g3 : ¬ (-1000000000000000 < c) := by omega
        simp only [go_sem, and_self, and_true, true_and, false_and, and_false, Nat.reduceAdd, Nat.reduceMul, Nat.reduceSub, Nat.reduceLeDiff, Nat.reduceLT, Nat.reduceGT, Nat.reduceEqDiff, Nat.reduceBEq, Int.reduceNeg, Int.reduceEq, Int.reduceLT, Int.reduceLE, Int.reduceBEq, Int.reduceToNat, Int.toNat_natCast, Int.natCast_zero, r123_T, r123, numIs, h1, g1, h2, g2, h3, g3]
      · have g3 : -1000000000000000 < c := by omega
        by_cases h4 : c ≥ 1000000000000000
        · have g4 : ¬ (c < 1000000000000000) := by omega
          simp only [go_sem, and_self, and_true, true_and, false_and, and_false, Nat.reduceAdd, Nat.reduceMul, Nat.reduceSub, Nat.reduceLeDiff, Nat.reduceLT, Nat.reduceGT, Nat.reduceEqDiff, Nat.reduceBEq, Int.reduceNeg, Int.reduceEq, Int.reduceLT, Int.reduceLE, Int.reduceBEq, Int.reduceToNat, Int.toNat_natCast, Int.natCast_zero, r123_T, r123, numIs, h1, g1, h2, g2, h3, g3, h4, g4]
        · have g4 : c < 1000000000000000 := by omega
          by_cases h5 : s = 0
          · subst h5
            simp only [go_sem, and_self, and_true, true_and, false_and, and_false, Nat.reduceAdd, Nat.reduceMul, Nat.reduceSub, Nat.reduceLeDiff, Nat.reduceLT, Nat.reduceGT, Nat.reduceEqDiff, Nat.reduceBEq, Int.reduceNeg, Int.reduceEq, Int.reduceLT, Int.reduceLE, Int.reduceBEq, Int.reduceToNat, Int.toNat_natCast, Int.natCast_zero, r123_T, r123, numIs, h1, g1, h2, g2, h3, g3, h4, g4, Bool.true_or]
          · have g5 : (s == 0) = false := by simpa using h5
            simp only [go_sem, and_self, and_true, true_and, false_and, and_false, Nat.reduceAdd, Nat.reduceMul, Nat.reduceSub, Nat.reduceLeDiff, Nat.reduceLT, Nat.reduceGT, Nat.reduceEqDiff, Nat.reduceBEq, Int.reduceNeg, Int.reduceEq, Int.reduceLT, Int.reduceLE, Int.reduceBEq, Int.reduceToNat, Int.toNat_natCast, Int.natCast_zero, r123_T, r123, numIs, h1, g1, h2, g2, h3, g3, h4, g4, g5, Bool.false_or]

theorem num4Is_ok (c s : Int) (hp : List Ent) : F tab 105 [.d (numD c s)] hp = some (.ret (.d (.bool (numIs c s))) hp) := by
  refine f105 rfl ?_
  by_cases h1 : s < 0
  · have g1 : ¬ (0 ≤ s) := by omega
    simp only [go_sem, and_self, and_true, true_and, false_and, and_false, Nat.reduceAdd, Nat.reduceMul, Nat.reduceSub, Nat.reduceLeDiff, Nat.reduceLT, Nat.reduceGT, Nat.reduceEqDiff, Nat.reduceBEq, Int.reduceNeg, Int.reduceEq, Int.reduceLT, Int.reduceLE, Int.reduceBEq, Int.reduceToNat, Int.toNat_natCast, Int.natCast_zero, r105_T, r105, numIs, h1, g1]
  · have g1 : 0 ≤ s := by omega
    by_cases h2 : s > 9
    · have g2 : ¬ (s ≤ 9) := by omega
      simp only [go_sem, and_self, and_true, true_and, false_and, and_false, Nat.reduceAdd, Nat.reduceMul, Nat.reduceSub, Nat.reduceLeDiff, Nat.reduceLT, Nat.reduceGT, Nat.reduceEqDiff, Nat.reduceBEq, Int.reduceNeg, Int.reduceEq, Int.reduceLT, Int.reduceLE, Int.reduceBEq, Int.reduceToNat, Int.toNat_natCast, Int.natCast_zero, r105_T, r105, numIs, h1, g1, h2, g2]
    · have g2 : s ≤ 9 := by omega
      by_cases h3 : c ≤ -1000000000000000
      · have g3 : ¬ (-1000000000000000 < c) := by omega
        have g4 : c < 1000000000000000 := by omega
        have h4 : ¬ c ≥ 1000000000000000 := by omega
        simp only [go_sem, and_self, and_true, true_and, false_and, and_false, Nat.reduceAdd, Nat.reduceMul, Nat.reduceSub, Nat.reduceLeDiff, Nat.reduceLT, Nat.reduceGT, Nat.reduceEqDiff, Nat.reduceBEq, Int.reduceNeg, Int.reduceEq, Int.reduceLT, Int.reduceLE, Int.reduceBEq, Int.reduceToNat, Int.toNat_natCast, Int.natCast_zero, r105_T, r105, numIs, h1, g1, h2, g2, h3, g3, h4, g4]
      · have g3 : -1000000000000000 < c := by omega
        by_cases h4 : c ≥ 1000000000000000
        · have g4 : ¬ (c < 1000000000000000) := by omega
          simp only [go_sem, and_self, and_true, true_and, false_and, and_false, Nat.reduceAdd, Nat.reduceMul, Nat.reduceSub, Nat.reduceLeDiff, Nat.reduceLT, Nat.reduceGT, Nat.reduceEqDiff, Nat.reduceBEq, Int.reduceNeg, Int.reduceEq, Int.reduceLT, Int.reduceLE, Int.reduceBEq, Int.reduceToNat, Int.toNat_natCast, Int.natCast_zero, r105_T, r105, numIs, h1, g1, h2, g2, h3, g3, h4, g4]
        · have g4 : c < 1000000000000000 := by omega
          by_cases h5 : s = 0
          · subst h5
            simp only [go_sem, and_self, and_true, true_and, false_and, and_false, Nat.reduceAdd, Nat.reduceMul, Nat.reduceSub, Nat.reduceLeDiff, Nat.reduceLT, Nat.reduceGT, Nat.reduceEqDiff, Nat.reduceBEq, Int.reduceNeg, Int.reduceEq, Int.reduceLT, Int.reduceLE, Int.reduceBEq, Int.reduceToNat, Int.toNat_natCast, Int.natCast_zero, r105_T, r105, numIs, h1, g1, h2, g2, h3, g3, h4, g4, Bool.true_or]
          · have g5 : (s == 0) = false := by simpa using h5
            simp only [go_sem, and_self, and_true, true_and, false_and, and_false, Nat.reduceAdd, Nat.reduceMul, Nat.reduceSub, Nat.reduceLeDiff, Nat.reduceLT, Nat.reduceGT, Nat.reduceEqDiff, Nat.reduceBEq, Int.reduceNeg, Int.reduceEq, Int.reduceLT, Int.reduceLE, Int.reduceBEq, Int.reduceToNat, Int.toNat_natCast, Int.natCast_zero, r105_T, r105, numIs, h1, g1, h2, g2, h3, g3, h4, g4, g5, Bool.false_or]

theorem both_ok (c s c' s' : Int) (hp : List Ent) : F tab 120 [.d (numD c s), .d (numD c' s')] hp = some (.ret (.d (.bool (numIs c s && numIs c' s'))) hp) := by
  refine f120 rfl ?_
  have h1 := numIs_ok c s
  have h2 := numIs_ok c' s'
  rcases Bool.eq_false_or_eq_true (numIs c s) with h | h
  · simp only [go_sem, and_self, and_true, true_and, false_and, and_false, Nat.reduceAdd, Nat.reduceMul, Nat.reduceSub, Nat.reduceLeDiff, Nat.reduceLT, Nat.reduceGT, Nat.reduceEqDiff, Nat.reduceBEq, Int.reduceNeg, Int.reduceEq, Int.reduceLT, Int.reduceLE, Int.reduceBEq, Int.reduceToNat, Int.toNat_natCast, Int.natCast_zero, r120_T, r120, h1, h2, h]
  · simp only [go_sem, and_self, and_true, true_and, false_and, and_false, Nat.reduceAdd, Nat.reduceMul, Nat.reduceSub, Nat.reduceLeDiff, Nat.reduceLT, Nat.reduceGT, Nat.reduceEqDiff, Nat.reduceBEq, Int.reduceNeg, Int.reduceEq, Int.reduceLT, Int.reduceLE, Int.reduceBEq, Int.reduceToNat, Int.toNat_natCast, Int.natCast_zero, r120_T, r120, h1, h2, h]

theorem clean_ok (c s : Int) (hp : List Ent) : F tab 90 [.d (numD c s)] hp = some (.ret (.d (if numIs c s then numD c s else numD 0 0)) hp) := by
  refine f90 rfl ?_
  have h1 := numIs_ok c s
  rcases Bool.eq_false_or_eq_true (numIs c s) with h | h
  · simp only [go_sem, and_self, and_true, true_and, false_and, and_false, Nat.reduceAdd, Nat.reduceMul, Nat.reduceSub, Nat.reduceLeDiff, Nat.reduceLT, Nat.reduceGT, Nat.reduceEqDiff, Nat.reduceBEq, Int.reduceNeg, Int.reduceEq, Int.reduceLT, Int.reduceLE, Int.reduceBEq, Int.reduceToNat, Int.toNat_natCast, Int.natCast_zero, r90_T, r90, h1, h]
  · simp only [go_sem, and_self, and_true, true_and, false_and, and_false, Nat.reduceAdd, Nat.reduceMul, Nat.reduceSub, Nat.reduceLeDiff, Nat.reduceLT, Nat.reduceGT, Nat.reduceEqDiff, Nat.reduceBEq, Int.reduceNeg, Int.reduceEq, Int.reduceLT, Int.reduceLE, Int.reduceBEq, Int.reduceToNat, Int.toNat_natCast, Int.natCast_zero, r90_T, r90, h1, h]

theorem clean7_ok (c s : Int) (hp : List Ent) : F tab 97 [.d (numD c s)] hp = some (.ret (.d (if numIs c s then numD c s else numD 0 0)) hp) := by
  refine f97 rfl ?_
  have h1 := num4Is_ok c s
  rcases Bool.eq_false_or_eq_true (numIs c s) with h | h
  · simp only [go_sem, and_self, and_true, true_and, false_and, and_false, Nat.reduceAdd, Nat.reduceMul, Nat.reduceSub, Nat.reduceLeDiff, Nat.reduceLT, Nat.reduceGT, Nat.reduceEqDiff, Nat.reduceBEq, Int.reduceNeg, Int.reduceEq, Int.reduceLT, Int.reduceLE, Int.reduceBEq, Int.reduceToNat, Int.toNat_natCast, Int.natCast_zero, r97_T, r97, h1, h]
  · simp only [go_sem, and_self, and_true, true_and, false_and, and_false, Nat.reduceAdd, Nat.reduceMul, Nat.reduceSub, Nat.reduceLeDiff, Nat.reduceLT, Nat.reduceGT, Nat.reduceEqDiff, Nat.reduceBEq, Int.reduceNeg, Int.reduceEq, Int.reduceLT, Int.reduceLE, Int.reduceBEq, Int.reduceToNat, Int.toNat_natCast, Int.natCast_zero, r97_T, r97, h1, h]
end Go.Pe.T

namespace Go.Pe.T
/-! ### powers of ten; numbers cut; which is greater -/

theorem p10_pos (n : Nat) : 0 < (10 : Int) ^ n := Int.pow_pos (by omega)
theorem p10_mono {a b : Nat} (h : a ≤ b) : (10 : Int) ^ a ≤ 10 ^ b := by
  have h1 : (10 : Nat) ^ a ≤ 10 ^ b := Nat.pow_le_pow_right (by omega) h
  have h2 : ((10 ^ a : Nat) : Int) ≤ ((10 ^ b : Nat) : Int) := by exact_mod_cast h1
  simpa using h2

theorem pow_loop (n : Nat) (hn : n ≤ 18) : ∀ (j i : Nat), i + j = n →
    V (F tab) r141_B0 (r141_S0 (.d (iv (10 ^ i))) (.d (iv n)) (.d (iv i)) []) = some (.norm, r141_E0 (.d (iv (10 ^ n))) [])
  | 0, i, hi => by
    obtain rfl : i = n := by omega
    rw [r141_B0_eq]
    have h1 : ((i : Int) < (i : Int)) = False := by simp
    simp only [go_sem, and_self, and_true, true_and, false_and, and_false, Nat.reduceAdd, Nat.reduceMul, Nat.reduceSub, Nat.reduceLeDiff, Nat.reduceLT, Nat.reduceGT, Nat.reduceEqDiff, Nat.reduceBEq, Int.reduceNeg, Int.reduceEq, Int.reduceLT, Int.reduceLE, Int.reduceBEq, Int.reduceToNat, Int.toNat_natCast, Int.natCast_zero, r141_C0, h1]
  | j + 1, i, hi => by
    have h1 : ((i : Int) < (n : Int)) = True := by simp; omega
    have h3 := p10_mono (show i + 1 ≤ 18 by omega)
    have h4 := p10_pos (i + 1)
    have e : (10 : Int) ^ (i + 1) = 10 ^ i * 10 := Int.pow_succ 10 i
    have e18 : (10 : Int) ^ 18 = 1000000000000000000 := by decide
    have ih := pow_loop n hn j (i + 1) (by omega)
    rw [r141_B0_eq]
    simp (disch := omega) only [go_sem, and_self, and_true, true_and, false_and, and_false, Nat.reduceAdd, Nat.reduceMul, Nat.reduceSub, Nat.reduceLeDiff, Nat.reduceLT, Nat.reduceGT, Nat.reduceEqDiff, Nat.reduceBEq, Int.reduceNeg, Int.reduceEq, Int.reduceLT, Int.reduceLE, Int.reduceBEq, Int.reduceToNat, Int.toNat_natCast, Int.natCast_zero, r141_C0, h1, w64]
    rw [e] at ih
    exact ih

theorem pow_ok (n : Nat) (hn : n ≤ 18) (hp : List Ent) : F tab 141 [.d (iv n)] hp = some (.ret (.d (iv (10 ^ n))) hp) := by
  refine f141 rfl ?_
  have hL := pow_loop n hn n 0 (by omega)
  simp (disch := omega) only [go_sem, and_self, and_true, true_and, false_and, and_false, Nat.reduceAdd, Nat.reduceMul, Nat.reduceSub, Nat.reduceLeDiff, Nat.reduceLT, Nat.reduceGT, Nat.reduceEqDiff, Nat.reduceBEq, Int.reduceNeg, Int.reduceEq, Int.reduceLT, Int.reduceLE, Int.reduceBEq, Int.reduceToNat, Int.toNat_natCast, Int.natCast_zero, r141_T, r141]
  rw [r141_B0_n]
  erw [hL]
  simp only [go_sem, and_self, and_true, true_and, false_and, and_false, Nat.reduceAdd, Nat.reduceMul, Nat.reduceSub, Nat.reduceLeDiff, Nat.reduceLT, Nat.reduceGT, Nat.reduceEqDiff, Nat.reduceBEq, Int.reduceNeg, Int.reduceEq, Int.reduceLT, Int.reduceLE, Int.reduceBEq, Int.reduceToNat, Int.toNat_natCast, Int.natCast_zero]

/-- the whole part, and billionths -/
def cutU (c : Int) (k : Nat) : Int := c.tdiv (10 ^ k)
def cutV (c : Int) (k : Nat) : Int := c.tmod (10 ^ k) * 10 ^ (9 - k)

theorem cut_bounds {c : Int} {k : Nat} (hk : k ≤ 9) (hc : -1000000000000000 < c ∧ c < 1000000000000000) :
    cutU c k * 1000000000 + cutV c k = c * 10 ^ (9 - k) ∧ -1000000000000000 < cutU c k ∧ cutU c k < 1000000000000000 ∧ -1000000000 < cutV c k ∧ cutV c k < 1000000000 ∧ (0 ≤ c → 0 ≤ cutU c k ∧ 0 ≤ cutV c k) ∧ (c ≤ 0 → cutU c k ≤ 0 ∧ cutV c k ≤ 0) ∧ -10 ^ k < c.tmod (10 ^ k) ∧ c.tmod (10 ^ k) < 10 ^ k := by
  have hp := p10_pos k
  have hq := p10_pos (9 - k)
  have hpq : (10 : Int) ^ k * 10 ^ (9 - k) = 1000000000 := by
    rw [← Int.pow_add, show k + (9 - k) = 9 by omega]; decide
  have hdm := Int.mul_tdiv_add_tmod c (10 ^ k)
  generalize hP : (10 : Int) ^ k = p at *
  generalize hQ : (10 : Int) ^ (9 - k) = q at *
  have hm1 : c.tmod p < p := Int.tmod_lt_of_pos c hp
  have hm2 : -p < c.tmod p := by
    have := Int.lt_tmod_of_pos c hp
    omega
  have hu : cutU c k = c.tdiv p := by unfold cutU; rw [hP]
  have hv : cutV c k = c.tmod p * q := by unfold cutV; rw [hP, hQ]
  rw [hu, hv]
  have hnat : (c.tdiv p).natAbs ≤ c.natAbs := Int.natAbs_tdiv_le_natAbs c p
  refine ⟨?_, by omega, by omega, ?_, ?_, ?_, ?_, hm2, hm1⟩
  · rw [← hpq]
    calc c.tdiv p * (p * q) + c.tmod p * q = (p * c.tdiv p + c.tmod p) * q := by rw [Int.add_mul]; congr 1; rw [Int.mul_comm p (c.tdiv p), Int.mul_assoc]
      _ = c * q := by rw [hdm]
  · have : -p * q < c.tmod p * q := Int.mul_lt_mul_of_pos_right hm2 hq
    rw [Int.neg_mul, hpq] at this
    exact this
  · have : c.tmod p * q < p * q := Int.mul_lt_mul_of_pos_right hm1 hq
    rw [hpq] at this
    exact this
  · intro h0
    exact ⟨Int.tdiv_nonneg h0 (by omega), Int.mul_nonneg (Int.tmod_nonneg p h0) (by omega)⟩
  · intro h0
    have h1 : c.tdiv p ≤ 0 := by
      have := Int.tdiv_nonneg (show 0 ≤ -c by omega) (show 0 ≤ p by omega)
      rw [Int.neg_tdiv] at this
      omega
    have h2 : c.tmod p ≤ 0 := by
      have := Int.tmod_nonneg p (show 0 ≤ -c by omega)
      rw [Int.neg_tmod] at this
      omega
    exact ⟨h1, Int.mul_nonpos_of_nonpos_of_nonneg h2 (by omega)⟩

theorem cut_ok (c : Int) (k : Nat) (hk : k ≤ 9) (hc : -1000000000000000 < c ∧ c < 1000000000000000) (hp : List Ent) :
    F tab 121 [.d (numD c k)] hp = some (.ret (.tup [.d (iv (cutU c k)), .d (iv (cutV c k))]) hp) := by
  refine f121 rfl ?_
  have h1 := pow_ok k (by omega)
  have h2 := pow_ok (9 - k) (by omega)
  have e : ((9 - k : Nat) : Int) = 9 - (k : Int) := by omega
  rw [e] at h2
  have hne : ((10 : Int) ^ k = 0) = False := by have := p10_pos k; simp; omega
  obtain ⟨b1, b2, b3, b4, b5, _⟩ := cut_bounds hk hc
  have w1 : IntKind.i64.wrap (c.tdiv (10 ^ k)) = cutU c k := by rw [← cutU, w64 (by omega)]
  have w2 : IntKind.i64.wrap (c.tmod (10 ^ k) * 10 ^ (9 - k)) = cutV c k := by rw [← cutV, w64 (by omega)]
  simp (disch := omega) only [go_sem, and_self, and_true, true_and, false_and, and_false, Nat.reduceAdd, Nat.reduceMul, Nat.reduceSub, Nat.reduceLeDiff, Nat.reduceLT, Nat.reduceGT, Nat.reduceEqDiff, Nat.reduceBEq, Int.reduceNeg, Int.reduceEq, Int.reduceLT, Int.reduceLE, Int.reduceBEq, Int.reduceToNat, Int.toNat_natCast, Int.natCast_zero, r121_T, r121, w64, h1, h2, hne, w1, w2]

/-- numbers at one scale -/
def flatN (c : Int) (k : Nat) : Int := c * 10 ^ (9 - k)

theorem cmp_math {c c' : Int} {k k' : Nat} (hk : k ≤ 9) (hk' : k' ≤ 9) (hc : -1000000000000000 < c ∧ c < 1000000000000000) (hc' : -1000000000000000 < c' ∧ c' < 1000000000000000) :
    (if cutU c k ≠ cutU c' k' then sgn (cutU c k) (cutU c' k') else sgn (cutV c k) (cutV c' k')) = sgn (flatN c k) (flatN c' k') := by
  obtain ⟨b1, b2, b3, b4, b5, b6, b7, _⟩ := cut_bounds hk hc
  obtain ⟨d1, d2, d3, d4, d5, d6, d7, _⟩ := cut_bounds hk' hc'
  unfold flatN
  rw [← b1, ← d1]
  unfold sgn
  split
  · rename_i hne
    by_cases h0 : 0 ≤ c
    · have := b6 h0
      by_cases h1 : 0 ≤ c'
      · have := d6 h1
        split <;> split <;> (try split) <;> omega
      · have := d7 (by omega)
        split <;> split <;> (try split) <;> omega
    · have := b7 (by omega)
      by_cases h1 : 0 ≤ c'
      · have := d6 h1
        split <;> split <;> (try split) <;> omega
      · have := d7 (by omega)
        split <;> split <;> (try split) <;> omega
  · rename_i hne
    have : cutU c k = cutU c' k' := by simpa using hne
    rw [this]
    split <;> split <;> (try split) <;> omega

theorem numIs_inv {c s : Int} (h : numIs c s = true) : ∃ k : Nat, s = k ∧ k ≤ 9 ∧ (-1000000000000000 < c ∧ c < 1000000000000000) := by
  simp only [numIs, Bool.and_eq_true, decide_eq_true_eq] at h
  exact ⟨s.toNat, by omega, by omega, by omega⟩

theorem numcmp_ok (c c' : Int) (k k' : Nat) (h : numIs c k = true) (h' : numIs c' k' = true) (hp : List Ent) :
    F tab 89 [.d (numD c k), .d (numD c' k')] hp = some (.ret (.d (iv (sgn (flatN c k) (flatN c' k')))) hp) := by
  obtain ⟨k1, e1, hk, hc⟩ := numIs_inv h
  obtain ⟨k2, e2, hk', hc'⟩ := numIs_inv h'
  obtain rfl : k = k1 := by omega
  obtain rfl : k' = k2 := by omega
  refine f89 rfl ?_
  have h1 := both_ok c k c' k'
  rw [h, h'] at h1
  have h2 := cut_ok c k hk hc
  have h3 := cut_ok c' k' hk' hc'
  have h4 := numorder_ok (cutU c k) (cutU c' k')
  have h5 := numorder_ok (cutV c k) (cutV c' k')
  rw [← cmp_math hk hk' hc hc']
  by_cases hu : cutU c k = cutU c' k'
  · have hu1 : (cutU c k != cutU c' k') = false := by simp [hu]
    have hu2 : (cutU c k ≠ cutU c' k') = False := by simp [hu]
    simp (disch := omega) only [go_sem, and_self, and_true, true_and, false_and, and_false, Nat.reduceAdd, Nat.reduceMul, Nat.reduceSub, Nat.reduceLeDiff, Nat.reduceLT, Nat.reduceGT, Nat.reduceEqDiff, Nat.reduceBEq, Int.reduceNeg, Int.reduceEq, Int.reduceLT, Int.reduceLE, Int.reduceBEq, Int.reduceToNat, Int.toNat_natCast, Int.natCast_zero, r89_T, r89, h1, h2, h3, h4, h5, hu1, hu2]
  · have hu1 : (cutU c k != cutU c' k') = true := by simp [hu]
    have hu2 : (cutU c k ≠ cutU c' k') = True := by simp [hu]
    simp (disch := omega) only [go_sem, and_self, and_true, true_and, false_and, and_false, Nat.reduceAdd, Nat.reduceMul, Nat.reduceSub, Nat.reduceLeDiff, Nat.reduceLT, Nat.reduceGT, Nat.reduceEqDiff, Nat.reduceBEq, Int.reduceNeg, Int.reduceEq, Int.reduceLT, Int.reduceLE, Int.reduceBEq, Int.reduceToNat, Int.toNat_natCast, Int.natCast_zero, r89_T, r89, h1, h2, h3, h4, h5, hu1, hu2]
end Go.Pe.T

namespace Go.Pe.T
/-! ### ref04: whole numbers without bound, digit by digit -/

abbrev dl (l : List Int) : D := .sl (l.map iv)
abbrev longD (neg : Bool) (l : List Int) : D := .agg [.bool neg, .sl (l.map iv)]

theorem dl_all (l : List Int) : (l.map iv).all (fun y => y.width == 1) = true := by
  rw [List.all_eq_true]
  intro y hy
  obtain ⟨n, _, rfl⟩ := List.mem_map.1 hy
  rfl
theorem dl_get {l : List Int} {i : Nat} {d : Int} (h : l[i]? = some d) : (l.map iv)[i]? = some (iv d) := by rw [List.getElem?_map, h]; rfl
theorem cut_dl (l : List Int) (n : Nat) : cutD (l.map iv) 0 (n : Int) = (l.take n).map iv := by
  simp [cutD]

def trimN (l : List Int) : Nat → Nat
  | 0 => 0
  | n + 1 => if l[n]? = some 0 then trimN l n else n + 1
def trimL (l : List Int) : List Int := l.take (trimN l l.length)

theorem trimN_le (l : List Int) : ∀ n, trimN l n ≤ n
  | 0 => Nat.le_refl _
  | n + 1 => by
    unfold trimN
    split
    · have := trimN_le l n; omega
    · exact Nat.le_refl _

theorem trim_loop (neg : Bool) (l : List Int) (hl : l.length ≤ maxLen) (x2 : List PV) : ∀ n, n ≤ l.length →
    V (F tab) r144_B0 (r144_S0 (.ibox [.d (.bool neg), .d (.sl (l.map iv))]) (.ibox x2) (.d (iv n)) []) = some (.norm, r144_E0 (.ibox [.d (.bool neg), .d (.sl (l.map iv))]) (.ibox x2) (.d (iv (trimN l n))) [])
  | 0, hn => by
    rw [r144_B0_eq]
    simp only [go_sem, and_self, and_true, true_and, false_and, and_false, Nat.reduceAdd, Nat.reduceMul, Nat.reduceSub, Nat.reduceLeDiff, Nat.reduceLT, Nat.reduceGT, Nat.reduceEqDiff, Nat.reduceBEq, Int.reduceNeg, Int.reduceEq, Int.reduceLT, Int.reduceLE, Int.reduceBEq, Int.reduceToNat, Int.toNat_natCast, Int.natCast_zero, r144_C0, trimN, Int.natCast_zero, gt_iff_lt, Int.lt_irrefl]
  | n + 1, hn => by
    have hmx : maxLen ≤ 9223372036854775807 := by decide
    have h1 : ((0 : Int) < ((n + 1 : Nat) : Int)) = True := eq_true (by omega)
    have hd : ∃ d, l[n]? = some d := ⟨l[n], List.getElem?_eq_getElem (by omega)⟩
    obtain ⟨d, hd⟩ := hd
    have h2 : (l.map iv)[n]? = some (iv d) := dl_get hd
    have h3 : (((n + 1 : Nat) : Int) - 1) = (n : Int) := by omega
    have h4 : (0 ≤ (n : Int)) = True := by simp
    have ih := trim_loop neg l hl x2 n (by omega)
    rw [r144_B0_eq]
    by_cases h0 : d = 0
    · subst h0
      have e : trimN l (n + 1) = trimN l n := by simp [trimN, hd]
      rw [e]
      simp (disch := omega) only [go_sem, and_self, and_true, true_and, false_and, and_false, Nat.reduceAdd, Nat.reduceMul, Nat.reduceSub, Nat.reduceLeDiff, Nat.reduceLT, Nat.reduceGT, Nat.reduceEqDiff, Nat.reduceBEq, Int.reduceNeg, Int.reduceEq, Int.reduceLT, Int.reduceLE, Int.reduceBEq, Int.reduceToNat, Int.toNat_natCast, Int.natCast_zero, r144_C0, gt_iff_lt, h1, h3, w64, h4, h2, elemD, List.getElem?_cons_zero]
      exact ih
    · have e : trimN l (n + 1) = n + 1 := by simp [trimN, hd, h0]
      have h5 : (d == 0) = false := by simpa using h0
      rw [e]
      simp (disch := omega) only [go_sem, and_self, and_true, true_and, false_and, and_false, Nat.reduceAdd, Nat.reduceMul, Nat.reduceSub, Nat.reduceLeDiff, Nat.reduceLT, Nat.reduceGT, Nat.reduceEqDiff, Nat.reduceBEq, Int.reduceNeg, Int.reduceEq, Int.reduceLT, Int.reduceLE, Int.reduceBEq, Int.reduceToNat, Int.toNat_natCast, Int.natCast_zero, r144_C0, gt_iff_lt, h1, h3, w64, h4, h2, h5]

theorem trim_ok (neg : Bool) (l : List Int) (hl : l.length ≤ maxLen) (hp : List Ent) :
    F tab 144 [.d (longD neg l)] hp = some (.ret (.d (longD (neg && trimN l l.length != 0) (trimL l))) hp) := by
  refine f144 rfl ?_
  have hL := trim_loop neg l hl [.d (.bool false), .nilsl] l.length (Nat.le_refl _)
  have hle := trimN_le l l.length
  simp (disch := omega) only [go_sem, and_self, and_true, true_and, false_and, and_false, Nat.reduceAdd, Nat.reduceMul, Nat.reduceSub, Nat.reduceLeDiff, Nat.reduceLT, Nat.reduceGT, Nat.reduceEqDiff, Nat.reduceBEq, Int.reduceNeg, Int.reduceEq, Int.reduceLT, Int.reduceLE, Int.reduceBEq, Int.reduceToNat, Int.toNat_natCast, Int.natCast_zero, r144_T, r144, List.length_map]
  rw [r144_B0_n]
  erw [hL]
  have h1 : (0 ≤ ((trimN l l.length : Nat) : Int)) = True := by simp
  have h2 : (((trimN l l.length : Nat) : Int) ≤ (l.length : Int)) = True := by simp; omega
  by_cases h0 : trimN l l.length = 0
  · have h3 : (((trimN l l.length : Nat) : Int) == 0) = true := by simp [h0]
    have h4 : (trimN l l.length != 0) = false := by simp [h0]
    simp (disch := omega) only [go_sem, and_self, and_true, true_and, false_and, and_false, Nat.reduceAdd, Nat.reduceMul, Nat.reduceSub, Nat.reduceLeDiff, Nat.reduceLT, Nat.reduceGT, Nat.reduceEqDiff, Nat.reduceBEq, Int.reduceNeg, Int.reduceEq, Int.reduceLT, Int.reduceLE, Int.reduceBEq, Int.reduceToNat, Int.toNat_natCast, Int.natCast_zero, dl_all, cut_dl, List.length_map, h1, h2, h3, h4, trimL, decide_true, Int.le_refl]
  · have h3 : (((trimN l l.length : Nat) : Int) == 0) = false := by simp; omega
    have h4 : (trimN l l.length != 0) = true := by simp [h0]
    simp (disch := omega) only [go_sem, and_self, and_true, true_and, false_and, and_false, Nat.reduceAdd, Nat.reduceMul, Nat.reduceSub, Nat.reduceLeDiff, Nat.reduceLT, Nat.reduceGT, Nat.reduceEqDiff, Nat.reduceBEq, Int.reduceNeg, Int.reduceEq, Int.reduceLT, Int.reduceLE, Int.reduceBEq, Int.reduceToNat, Int.toNat_natCast, Int.natCast_zero, dl_all, cut_dl, List.length_map, h1, h2, h3, h4, trimL, decide_true, Int.le_refl]
end Go.Pe.T

namespace Go.Pe.T

/-! ### Shift, Of -/

theorem shift_loop (n : Nat) (hn : n ≤ 1000) (x2 x4 : List PV) : ∀ (j i : Nat), i + j = n →
    V (F tab) r142_B0 (r142_S0 (.d (iv n)) (.ibox x2) (.ibox x4) (.own 3 ((List.replicate i 0).map iv)) (.d (iv i)) []) =
      some (.norm, r142_E0 (.ibox x2) (.ibox x4) (.own 3 ((List.replicate n 0).map iv)) [])
  | 0, i, hi => by
    obtain rfl : i = n := by omega
    rw [r142_B0_eq]
    simp only [go_sem, and_self, and_true, true_and, false_and, and_false, Nat.reduceAdd, Nat.reduceMul, Nat.reduceSub, Nat.reduceLeDiff, Nat.reduceLT, Nat.reduceGT, Nat.reduceEqDiff, Nat.reduceBEq, Int.reduceNeg, Int.reduceEq, Int.reduceLT, Int.reduceLE, Int.reduceBEq, Int.reduceToNat, Int.toNat_natCast, Int.natCast_zero, r142_C0, Int.lt_irrefl]
  | j + 1, i, hi => by
    have h1 : ((i : Int) < (n : Int)) = True := eq_true (by omega)
    have h2 : ((i + 1) * 8 ≤ maxRow) = True := eq_true (by unfold maxRow; omega)
    have ih := shift_loop n hn x2 x4 j (i + 1) (by omega)
    rw [List.replicate_succ', List.map_append] at ih
    rw [r142_B0_eq]
    simp (disch := omega) only [go_sem, and_self, and_true, true_and, false_and, and_false, Nat.reduceAdd, Nat.reduceMul, Nat.reduceSub, Nat.reduceLeDiff, Nat.reduceLT, Nat.reduceGT, Nat.reduceEqDiff, Nat.reduceBEq, Int.reduceNeg, Int.reduceEq, Int.reduceLT, Int.reduceLE, Int.reduceBEq, Int.reduceToNat, Int.toNat_natCast, Int.natCast_zero, r142_C0, h1, w64, List.length_map, List.length_replicate, h2]
    exact ih

/-- so many noughts below -/
def shiftL (l : List Int) (n : Nat) : List Int := trimL (List.replicate n 0 ++ l)

theorem shift_ok (neg : Bool) (l : List Int) (hl : l.length ≤ 1000) (n : Nat) (hn : n ≤ 1000) (hp : List Ent) :
    F tab 142 [.d (longD neg l), .d (iv n)] hp = some (.ret (.d (longD (neg && trimN (List.replicate n 0 ++ l) (n + l.length) != 0) (shiftL l n))) hp) := by
  refine f142 rfl ?_
  have hL := shift_loop n hn [.d (.bool neg), .d (.sl (l.map iv))] [.d (.bool false), .nilsl] n 0 (by omega)
  have hT := trim_ok neg (List.replicate n 0 ++ l) (by have : maxLen = 9223372036854775807 := by decide
                                                       simp only [List.length_append, List.length_replicate]; omega)
  have h2 : ((n + l.length) * 8 ≤ maxRow) = True := eq_true (by unfold maxRow; omega)
  simp only [List.length_append, List.length_replicate] at hT
  simp (disch := omega) only [go_sem, and_self, and_true, true_and, false_and, and_false, Nat.reduceAdd, Nat.reduceMul, Nat.reduceSub, Nat.reduceLeDiff, Nat.reduceLT, Nat.reduceGT, Nat.reduceEqDiff, Nat.reduceBEq, Int.reduceNeg, Int.reduceEq, Int.reduceLT, Int.reduceLE, Int.reduceBEq, Int.reduceToNat, Int.toNat_natCast, Int.natCast_zero, r142_T, r142, List.length_map]
  rw [r142_B0_n, r142_B0_z5]
  erw [hL]
  simp (disch := omega) only [go_sem, and_self, and_true, true_and, false_and, and_false, Nat.reduceAdd, Nat.reduceMul, Nat.reduceSub, Nat.reduceLeDiff, Nat.reduceLT, Nat.reduceGT, Nat.reduceEqDiff, Nat.reduceBEq, Int.reduceNeg, Int.reduceEq, Int.reduceLT, Int.reduceLE, Int.reduceBEq, Int.reduceToNat, Int.toNat_natCast, Int.natCast_zero, List.length_map, List.length_replicate, h2, ← List.map_append, hT, dl_all, shiftL]

/-- a number's digits, the lowest first -/
def digs (n : Nat) : List Int := if n = 0 then [] else ((n % 10 : Nat) : Int) :: digs (n / 10)
  termination_by n
  decreasing_by omega

/-- a row that may be nothing as yet -/
def rowP : List Int → PV
  | [] => .nilsl
  | x :: l => .own 3 (iv x :: l.map iv)

theorem of_loop (neg : Bool) (x2 : List PV) : ∀ (m : Nat) (c : Int) (out : List Int), c.natAbs = m → i64 c → out.length ≤ 100 - (digs m).length → (digs m).length ≤ 50 →
    V (F tab) r143_B0 (r143_S0 (.d (iv c)) (.ibox x2) (.ibox [.d (.bool neg), rowP out]) []) =
      some (.norm, r143_E0 (.ibox x2) (.ibox [.d (.bool neg), rowP (out ++ digs m)]) []) := by
  intro m
  induction m using Nat.strongRecOn with
  | _ m ih =>
    intro c out hm hc hlen hd
    by_cases h0 : c = 0
    · subst h0
      have : m = 0 := by omega
      subst this
      have h1 : ((0 : Int) != 0) = false := by decide
      rw [r143_B0_eq]
      have e : digs 0 = [] := by rw [digs]; rfl
      rw [e]
      simp only [go_sem, and_self, and_true, true_and, false_and, and_false, Nat.reduceAdd, Nat.reduceMul, Nat.reduceSub, Nat.reduceLeDiff, Nat.reduceLT, Nat.reduceGT, Nat.reduceEqDiff, Nat.reduceBEq, Int.reduceNeg, Int.reduceEq, Int.reduceLT, Int.reduceLE, Int.reduceBEq, Int.reduceToNat, Int.toNat_natCast, Int.natCast_zero, r143_C0, h1, List.append_nil]
    · have hm0 : m ≠ 0 := by omega
      have h1 : (c != 0) = true := by simpa using h0
      have e : digs m = ((m % 10 : Nat) : Int) :: digs (m / 10) := by rw [digs, if_neg hm0]
      rw [e] at hlen hd ⊢
      simp only [List.length_cons] at hlen hd
      have hq : (c.tdiv 10).natAbs = m / 10 := by rw [Int.natAbs_tdiv, hm]; rfl
      have hr : (c.tmod 10).natAbs = m % 10 := by rw [Int.natAbs_tmod, hm]; rfl
      unfold i64 at hc
      have ihc := ih (m / 10) (by omega) (c.tdiv 10) (out ++ [((m % 10 : Nat) : Int)]) hq (by unfold i64; omega) (by simp; omega) (by omega)
      rw [List.append_assoc, List.singleton_append] at ihc
      have hb : -10 < c.tmod 10 ∧ c.tmod 10 < 10 := by omega
      have hb2 : -9223372036854775808 ≤ c.tdiv 10 ∧ c.tdiv 10 ≤ 9223372036854775807 := by omega
      rw [r143_B0_eq]
      have h8 : (8 ≤ maxRow) = True := eq_true (by unfold maxRow; omega)
      cases out with
      | nil =>
        by_cases hs : c.tmod 10 < 0
        · have e3 : 0 - c.tmod 10 = ((m % 10 : Nat) : Int) := by omega
          have e4 : IntKind.i64.wrap (0 - c.tmod 10) = ((m % 10 : Nat) : Int) := by rw [w64 (by omega), e3]
          simp (disch := omega) only [go_sem, and_self, and_true, true_and, false_and, and_false, Nat.reduceAdd, Nat.reduceMul, Nat.reduceSub, Nat.reduceLeDiff, Nat.reduceLT, Nat.reduceGT, Nat.reduceEqDiff, Nat.reduceBEq, Int.reduceNeg, Int.reduceEq, Int.reduceLT, Int.reduceLE, Int.reduceBEq, Int.reduceToNat, Int.toNat_natCast, Int.natCast_zero, r143_C0, h1, hs, e4, w64, List.length_map, h8, rowP]
          exact ihc
        · have e3 : c.tmod 10 = ((m % 10 : Nat) : Int) := by omega
          simp (disch := omega) only [go_sem, and_self, and_true, true_and, false_and, and_false, Nat.reduceAdd, Nat.reduceMul, Nat.reduceSub, Nat.reduceLeDiff, Nat.reduceLT, Nat.reduceGT, Nat.reduceEqDiff, Nat.reduceBEq, Int.reduceNeg, Int.reduceEq, Int.reduceLT, Int.reduceLE, Int.reduceBEq, Int.reduceToNat, Int.toNat_natCast, Int.natCast_zero, r143_C0, h1, hs, w64, List.length_map, h8, rowP]
          rw [e3]
          exact ihc
      | cons x l =>
        simp only [List.length_cons] at hlen
        have h2 : ((l.length + 1 + 1) * 8 ≤ maxRow) = True := eq_true (by unfold maxRow; omega)
        have ihc' : V (F tab) r143_B0 (r143_S0 (.d (iv (c.tdiv 10))) (.ibox x2) (.ibox [.d (.bool neg), .own 3 (iv x :: (l.map iv ++ [iv ((m % 10 : Nat) : Int)]))]) []) =
            some (.norm, r143_E0 (.ibox x2) (.ibox [.d (.bool neg), rowP (x :: l ++ ((m % 10 : Nat) : Int) :: digs (m / 10))]) []) := by
          rw [← ihc]
          simp only [List.cons_append, rowP, List.map_append, List.map_cons, List.map_nil]
        by_cases hs : c.tmod 10 < 0
        · have e3 : 0 - c.tmod 10 = ((m % 10 : Nat) : Int) := by omega
          have e4 : IntKind.i64.wrap (0 - c.tmod 10) = ((m % 10 : Nat) : Int) := by rw [w64 (by omega), e3]
          simp (disch := omega) only [go_sem, and_self, and_true, true_and, false_and, and_false, Nat.reduceAdd, Nat.reduceMul, Nat.reduceSub, Nat.reduceLeDiff, Nat.reduceLT, Nat.reduceGT, Nat.reduceEqDiff, Nat.reduceBEq, Int.reduceNeg, Int.reduceEq, Int.reduceLT, Int.reduceLE, Int.reduceBEq, Int.reduceToNat, Int.toNat_natCast, Int.natCast_zero, r143_C0, h1, hs, e4, w64, List.length_map, h2, rowP]
          exact ihc'
        · have e3 : c.tmod 10 = ((m % 10 : Nat) : Int) := by omega
          simp (disch := omega) only [go_sem, and_self, and_true, true_and, false_and, and_false, Nat.reduceAdd, Nat.reduceMul, Nat.reduceSub, Nat.reduceLeDiff, Nat.reduceLT, Nat.reduceGT, Nat.reduceEqDiff, Nat.reduceBEq, Int.reduceNeg, Int.reduceEq, Int.reduceLT, Int.reduceLE, Int.reduceBEq, Int.reduceToNat, Int.toNat_natCast, Int.natCast_zero, r143_C0, h1, hs, w64, List.length_map, h2, rowP]
          rw [e3]
          exact ihc'

theorem digs_len : ∀ (k n : Nat), n < 10 ^ k → (digs n).length ≤ k
  | 0, n, h => by
    have : n = 0 := by simpa using h
    subst this
    rw [digs]; simp
  | k + 1, n, h => by
    rw [digs]
    split
    · simp
    · have := digs_len k (n / 10) (by rw [Nat.pow_succ] at h; omega)
      simp only [List.length_cons]
      omega

theorem of_ok (c : Int) (hc : -1000000000000000000 < c ∧ c < 1000000000000000000) (hp : List Ent) :
    F tab 143 [.d (iv c)] hp = some (.ret (.d (longD (decide (c < 0)) (digs c.natAbs))) hp) := by
  refine f143 rfl ?_
  have hd := digs_len 18 c.natAbs (by have : (10 : Nat) ^ 18 = 1000000000000000000 := by decide
                                      omega)
  have hL := of_loop (decide (c < 0)) [.d (.bool false), .nilsl] c.natAbs c [] rfl (by unfold i64; omega) (by simp) (by omega)
  simp (disch := omega) only [go_sem, and_self, and_true, true_and, false_and, and_false, Nat.reduceAdd, Nat.reduceMul, Nat.reduceSub, Nat.reduceLeDiff, Nat.reduceLT, Nat.reduceGT, Nat.reduceEqDiff, Nat.reduceBEq, Int.reduceNeg, Int.reduceEq, Int.reduceLT, Int.reduceLE, Int.reduceBEq, Int.reduceToNat, Int.toNat_natCast, Int.natCast_zero, r143_T, r143]
  rw [r143_B0_n]
  erw [hL]
  rw [List.nil_append]
  cases digs c.natAbs with
  | nil => simp (disch := omega) only [go_sem, and_self, and_true, true_and, false_and, and_false, Nat.reduceAdd, Nat.reduceMul, Nat.reduceSub, Nat.reduceLeDiff, Nat.reduceLT, Nat.reduceGT, Nat.reduceEqDiff, Nat.reduceBEq, Int.reduceNeg, Int.reduceEq, Int.reduceLT, Int.reduceLE, Int.reduceBEq, Int.reduceToNat, Int.toNat_natCast, Int.natCast_zero, rowP]; rfl
  | cons x l => simp (disch := omega) only [go_sem, and_self, and_true, true_and, false_and, and_false, Nat.reduceAdd, Nat.reduceMul, Nat.reduceSub, Nat.reduceLeDiff, Nat.reduceLT, Nat.reduceGT, Nat.reduceEqDiff, Nat.reduceBEq, Int.reduceNeg, Int.reduceEq, Int.reduceLT, Int.reduceLE, Int.reduceBEq, Int.reduceToNat, Int.toNat_natCast, Int.natCast_zero, rowP]; rfl
end Go.Pe.T

namespace Go.Pe.T

/-! ### sum, less, above -/

def digit (d : Int) : Prop := 0 ≤ d ∧ d ≤ 9
def Digs (l : List Int) : Prop := ∀ d ∈ l, digit d

/-- the sum of sizes, so much carried -/
def sumL (a b : List Int) (c : Int) : Nat → List Int
  | 0 => []
  | k + 1 => if a = [] ∧ b = [] ∧ c ≤ 0 then [] else ((c + a.headD 0 + b.headD 0) % 10) :: sumL a.tail b.tail ((c + a.headD 0 + b.headD 0) / 10) k

theorem drop_head {l : List Int} {i : Nat} : (l.drop i).headD 0 = (l[i]?).getD 0 := by
  rw [List.headD_eq_head?_getD, List.head?_drop]
theorem drop_tail' {l : List Int} {i : Nat} : (l.drop i).tail = l.drop (i + 1) := by simp

theorem sum_loop (a b : List Int) (ha : Digs a) (hb : Digs b) (hla : a.length ≤ 1000) (hlb : b.length ≤ 1000) : ∀ (k i : Nat) (c : Int) (out : List Int), 0 ≤ c → c ≤ 1 → out.length = i → max a.length b.length + 1 < i + k → i ≤ max a.length b.length + 1 → (max a.length b.length < i → c = 0) →
    V (F tab) r145_B0 (r145_S0 (.d (.sl (a.map iv))) (.d (.sl (b.map iv))) (.own 3 (out.map iv)) (.d (iv c)) (.d (iv i)) []) =
      some (.norm, r145_E0 (.own 3 ((out ++ sumL (a.drop i) (b.drop i) c k).map iv)) [])
  | 0, i, c, out, h0, h1, hl, hk, _, _ => by omega
  | k + 1, i, c, out, h0, h1, hl, hk, hi, hz => by
    rw [r145_B0_eq]
    have ea : a.drop i = [] ↔ ¬ i < a.length := by simp
    have eb : b.drop i = [] ↔ ¬ i < b.length := by simp
    by_cases hend : a.drop i = [] ∧ b.drop i = [] ∧ c ≤ 0
    · have e : sumL (a.drop i) (b.drop i) c (k + 1) = [] := by rw [sumL, if_pos hend]
      rw [e, List.append_nil]
      obtain ⟨x1, x2, x3⟩ := hend
      have g1 : ((i : Int) < (a.length : Int)) = False := eq_false (by have := ea.1 x1; omega)
      have g2 : ((i : Int) < (b.length : Int)) = False := eq_false (by have := eb.1 x2; omega)
      have g3 : (c > 0) = False := eq_false (by omega)
      simp only [go_sem, and_self, and_true, true_and, false_and, and_false, Nat.reduceAdd, Nat.reduceMul, Nat.reduceSub, Nat.reduceLeDiff, Nat.reduceLT, Nat.reduceGT, Nat.reduceEqDiff, Nat.reduceBEq, Int.reduceNeg, Int.reduceEq, Int.reduceLT, Int.reduceLE, Int.reduceBEq, Int.reduceToNat, Int.toNat_natCast, Int.natCast_zero, r145_C0, List.length_map, g1, g2, g3]
    · have e : sumL (a.drop i) (b.drop i) c (k + 1) = ((c + (a.drop i).headD 0 + (b.drop i).headD 0) % 10) :: sumL (a.drop i).tail (b.drop i).tail ((c + (a.drop i).headD 0 + (b.drop i).headD 0) / 10) k := by rw [sumL, if_neg hend]
      rw [e, drop_tail', drop_tail', drop_head, drop_head]
      have nx : ∀ n : Int, 0 ≤ n → n ≤ 19 → (i < max a.length b.length ∨ (n ≤ 1 ∧ i ≤ max a.length b.length)) → n.tmod 10 = n % 10 ∧ n.tdiv 10 = n / 10 ∧ 
          V (F tab) r145_B0 (r145_S0 (.d (.sl (a.map iv))) (.d (.sl (b.map iv))) (.own 3 (out.map iv ++ [iv (n % 10)])) (.d (iv (n / 10))) (.d (iv ((i : Int) + 1))) []) =
            some (.norm, r145_E0 (.own 3 ((out ++ (n % 10) :: sumL (a.drop (i + 1)) (b.drop (i + 1)) (n / 10) k).map iv)) []) := by
        intro n hn0 hn1 hn2
        refine ⟨Int.tmod_eq_emod_of_nonneg hn0, Int.tdiv_eq_ediv_of_nonneg hn0, ?_⟩
        have ih := sum_loop a b ha hb hla hlb k (i + 1) (n / 10) (out ++ [n % 10]) (by omega) (by omega) (by simp [hl]) (by omega) (by omega) (by omega)
        rw [List.append_assoc, List.singleton_append, List.map_append] at ih
        exact ih
      have h8 : ((out.length + 1) * 8 ≤ maxRow) = True := eq_true (by unfold maxRow; omega)
      have hi0 : (0 ≤ (i : Int)) = True := eq_true (by omega)
      by_cases g1 : i < a.length
      · have f1 : ((i : Int) < (a.length : Int)) = True := eq_true (by omega)
        have da := ha a[i] (List.getElem_mem g1)
        have va : (a.map iv)[i]? = some (iv a[i]) := dl_get (List.getElem?_eq_getElem g1)
        have wa : (a[i]?).getD 0 = a[i] := by simp [g1]
        unfold digit at da
        by_cases g2 : i < b.length
        · have f2 : ((i : Int) < (b.length : Int)) = True := eq_true (by omega)
          have db := hb b[i] (List.getElem_mem g2)
          have vb : (b.map iv)[i]? = some (iv b[i]) := dl_get (List.getElem?_eq_getElem g2)
          have wb : (b[i]?).getD 0 = b[i] := by simp [g2]
          unfold digit at db
          rw [wa, wb]
          obtain ⟨m1, m2, m3⟩ := nx (c + a[i] + b[i]) (by omega) (by omega) (by omega)
          simp (disch := omega) only [go_sem, and_self, and_true, true_and, false_and, and_false, Nat.reduceAdd, Nat.reduceMul, Nat.reduceSub, Nat.reduceLeDiff, Nat.reduceLT, Nat.reduceGT, Nat.reduceEqDiff, Nat.reduceBEq, Int.reduceNeg, Int.reduceEq, Int.reduceLT, Int.reduceLE, Int.reduceBEq, Int.reduceToNat, Int.toNat_natCast, Int.natCast_zero, r145_C0, List.length_map, f1, f2, hi0, va, vb, w64, h8, m1, m2]
          exact m3
        · have f2 : ((i : Int) < (b.length : Int)) = False := eq_false (by omega)
          have wb : (b[i]?).getD 0 = 0 := by simp [List.getElem?_eq_none (Nat.le_of_not_lt g2)]
          rw [wa, wb, Int.add_zero]
          obtain ⟨m1, m2, m3⟩ := nx (c + a[i]) (by omega) (by omega) (by omega)
          simp (disch := omega) only [go_sem, and_self, and_true, true_and, false_and, and_false, Nat.reduceAdd, Nat.reduceMul, Nat.reduceSub, Nat.reduceLeDiff, Nat.reduceLT, Nat.reduceGT, Nat.reduceEqDiff, Nat.reduceBEq, Int.reduceNeg, Int.reduceEq, Int.reduceLT, Int.reduceLE, Int.reduceBEq, Int.reduceToNat, Int.toNat_natCast, Int.natCast_zero, r145_C0, List.length_map, f1, f2, hi0, va, w64, h8, m1, m2]
          exact m3
      · have f1 : ((i : Int) < (a.length : Int)) = False := eq_false (by omega)
        have wa : (a[i]?).getD 0 = 0 := by simp [List.getElem?_eq_none (Nat.le_of_not_lt g1)]
        by_cases g2 : i < b.length
        · have f2 : ((i : Int) < (b.length : Int)) = True := eq_true (by omega)
          have db := hb b[i] (List.getElem_mem g2)
          have vb : (b.map iv)[i]? = some (iv b[i]) := dl_get (List.getElem?_eq_getElem g2)
          have wb : (b[i]?).getD 0 = b[i] := by simp [g2]
          unfold digit at db
          rw [wa, wb, Int.add_zero]
          obtain ⟨m1, m2, m3⟩ := nx (c + b[i]) (by omega) (by omega) (by omega)
          simp (disch := omega) only [go_sem, and_self, and_true, true_and, false_and, and_false, Nat.reduceAdd, Nat.reduceMul, Nat.reduceSub, Nat.reduceLeDiff, Nat.reduceLT, Nat.reduceGT, Nat.reduceEqDiff, Nat.reduceBEq, Int.reduceNeg, Int.reduceEq, Int.reduceLT, Int.reduceLE, Int.reduceBEq, Int.reduceToNat, Int.toNat_natCast, Int.natCast_zero, r145_C0, List.length_map, f1, f2, hi0, vb, w64, h8, m1, m2]
          exact m3
        · have f2 : ((i : Int) < (b.length : Int)) = False := eq_false (by omega)
          have wb : (b[i]?).getD 0 = 0 := by simp [List.getElem?_eq_none (Nat.le_of_not_lt g2)]
          have hc : c = 1 := by
            by_cases hc0 : c ≤ 0
            · exact absurd ⟨ea.2 g1, eb.2 g2, hc0⟩ hend
            · omega
          rw [wa, wb, Int.add_zero, Int.add_zero]
          obtain ⟨m1, m2, m3⟩ := nx c (by omega) (by omega) (by omega)
          have f3 : (c > 0) = True := eq_true (by omega)
          simp (disch := omega) only [go_sem, and_self, and_true, true_and, false_and, and_false, Nat.reduceAdd, Nat.reduceMul, Nat.reduceSub, Nat.reduceLeDiff, Nat.reduceLT, Nat.reduceGT, Nat.reduceEqDiff, Nat.reduceBEq, Int.reduceNeg, Int.reduceEq, Int.reduceLT, Int.reduceLE, Int.reduceBEq, Int.reduceToNat, Int.toNat_natCast, Int.natCast_zero, r145_C0, List.length_map, f1, f2, f3, hi0, w64, h8, m1, m2]
          exact m3

theorem sum_ok (a b : List Int) (ha : Digs a) (hb : Digs b) (hla : a.length ≤ 1000) (hlb : b.length ≤ 1000) (hp : List Ent) :
    F tab 145 [.d (.sl (a.map iv)), .d (.sl (b.map iv))] hp = some (.ret (.d (.sl ((sumL a b 0 (max a.length b.length + 2)).map iv))) hp) := by
  refine f145 rfl ?_
  have hL := sum_loop a b ha hb hla hlb (max a.length b.length + 2) 0 0 [] (by omega) (by omega) rfl (by omega) (by omega) (by omega)
  simp (disch := omega) only [go_sem, and_self, and_true, true_and, false_and, and_false, Nat.reduceAdd, Nat.reduceMul, Nat.reduceSub, Nat.reduceLeDiff, Nat.reduceLT, Nat.reduceGT, Nat.reduceEqDiff, Nat.reduceBEq, Int.reduceNeg, Int.reduceEq, Int.reduceLT, Int.reduceLE, Int.reduceBEq, Int.reduceToNat, Int.toNat_natCast, Int.natCast_zero, r145_T, r145]
  rw [r145_B0_n, r145_B0_z5]
  erw [hL]
  simp (disch := omega) only [go_sem, and_self, and_true, true_and, false_and, and_false, Nat.reduceAdd, Nat.reduceMul, Nat.reduceSub, Nat.reduceLeDiff, Nat.reduceLT, Nat.reduceGT, Nat.reduceEqDiff, Nat.reduceBEq, Int.reduceNeg, Int.reduceEq, Int.reduceLT, Int.reduceLE, Int.reduceBEq, Int.reduceToNat, Int.toNat_natCast, Int.natCast_zero, List.drop_zero]
end Go.Pe.T

namespace Go.Pe.T

/-- the one's size less the other's, so much owed -/
def lessL : List Int → List Int → Int → List Int
  | [], _, _ => []
  | x :: a, b, o => if x - o - b.headD 0 < 0 then (x - o - b.headD 0 + 10) :: lessL a b.tail 1 else (x - o - b.headD 0) :: lessL a b.tail 0

theorem less_loop (a b : List Int) (ha : Digs a) (hb : Digs b) (hla : a.length ≤ 1000) (hlb : b.length ≤ 1000) : ∀ (k i : Nat) (o : Int) (out : List Int), 0 ≤ o → o ≤ 1 → out.length = i → i + k = a.length →
    V (F tab) r147_B0 (r147_S0 (.d (.sl (a.map iv))) (.d (.sl (b.map iv))) (.own 3 (out.map iv)) (.d (iv o)) (.d (iv i)) []) =
      some (.norm, r147_E0 (.own 3 ((out ++ lessL (a.drop i) (b.drop i) o).map iv)) [])
  | 0, i, o, out, h0, h1, hl, hk => by
    rw [r147_B0_eq, List.drop_of_length_le (by omega : a.length ≤ i)]
    have g1 : ((i : Int) < (a.length : Int)) = False := eq_false (by omega)
    simp only [go_sem, and_self, and_true, true_and, false_and, and_false, Nat.reduceAdd, Nat.reduceMul, Nat.reduceSub, Nat.reduceLeDiff, Nat.reduceLT, Nat.reduceGT, Nat.reduceEqDiff, Nat.reduceBEq, Int.reduceNeg, Int.reduceEq, Int.reduceLT, Int.reduceLE, Int.reduceBEq, Int.reduceToNat, Int.toNat_natCast, Int.natCast_zero, r147_C0, List.length_map, g1, lessL, List.append_nil]
  | k + 1, i, o, out, h0, h1, hl, hk => by
    rw [r147_B0_eq]
    have g1 : i < a.length := by omega
    have f1 : ((i : Int) < (a.length : Int)) = True := eq_true (by omega)
    have da := ha a[i] (List.getElem_mem g1)
    have va : (a.map iv)[i]? = some (iv a[i]) := dl_get (List.getElem?_eq_getElem g1)
    have hi0 : (0 ≤ (i : Int)) = True := eq_true (by omega)
    have h8 : ((out.length + 1) * 8 ≤ maxRow) = True := eq_true (by unfold maxRow; omega)
    unfold digit at da
    have nx : ∀ (n o' : Int), 0 ≤ o' → o' ≤ 1 → 
          V (F tab) r147_B0 (r147_S0 (.d (.sl (a.map iv))) (.d (.sl (b.map iv))) (.own 3 (out.map iv ++ [iv n])) (.d (iv o')) (.d (iv ((i : Int) + 1))) []) =
            some (.norm, r147_E0 (.own 3 ((out ++ n :: lessL (a.drop (i + 1)) (b.drop (i + 1)) o').map iv)) []) := by
      intro n o' hn0 hn1
      have ih := less_loop a b ha hb hla hlb k (i + 1) o' (out ++ [n]) hn0 hn1 (by simp [hl]) (by omega)
      rw [List.append_assoc, List.singleton_append, List.map_append] at ih
      exact ih
    rw [List.drop_eq_getElem_cons g1, lessL, drop_tail', drop_head]
    by_cases g2 : i < b.length
    · have f2 : ((i : Int) < (b.length : Int)) = True := eq_true (by omega)
      have db := hb b[i] (List.getElem_mem g2)
      have vb : (b.map iv)[i]? = some (iv b[i]) := dl_get (List.getElem?_eq_getElem g2)
      have wb : (b[i]?).getD 0 = b[i] := by simp [g2]
      unfold digit at db
      rw [wb]
      by_cases hs : a[i] - o - b[i] < 0
      · rw [if_pos hs]
        simp (disch := omega) only [go_sem, and_self, and_true, true_and, false_and, and_false, Nat.reduceAdd, Nat.reduceMul, Nat.reduceSub, Nat.reduceLeDiff, Nat.reduceLT, Nat.reduceGT, Nat.reduceEqDiff, Nat.reduceBEq, Int.reduceNeg, Int.reduceEq, Int.reduceLT, Int.reduceLE, Int.reduceBEq, Int.reduceToNat, Int.toNat_natCast, Int.natCast_zero, r147_C0, List.length_map, f1, f2, hi0, va, vb, w64, h8, hs]
        exact nx _ 1 (by omega) (by omega)
      · rw [if_neg hs]
        simp (disch := omega) only [go_sem, and_self, and_true, true_and, false_and, and_false, Nat.reduceAdd, Nat.reduceMul, Nat.reduceSub, Nat.reduceLeDiff, Nat.reduceLT, Nat.reduceGT, Nat.reduceEqDiff, Nat.reduceBEq, Int.reduceNeg, Int.reduceEq, Int.reduceLT, Int.reduceLE, Int.reduceBEq, Int.reduceToNat, Int.toNat_natCast, Int.natCast_zero, r147_C0, List.length_map, f1, f2, hi0, va, vb, w64, h8, hs]
        exact nx _ 0 (by omega) (by omega)
    · have f2 : ((i : Int) < (b.length : Int)) = False := eq_false (by omega)
      have wb : (b[i]?).getD 0 = 0 := by simp [List.getElem?_eq_none (Nat.le_of_not_lt g2)]
      rw [wb, Int.sub_zero]
      by_cases hs : a[i] - o < 0
      · rw [if_pos hs]
        simp (disch := omega) only [go_sem, and_self, and_true, true_and, false_and, and_false, Nat.reduceAdd, Nat.reduceMul, Nat.reduceSub, Nat.reduceLeDiff, Nat.reduceLT, Nat.reduceGT, Nat.reduceEqDiff, Nat.reduceBEq, Int.reduceNeg, Int.reduceEq, Int.reduceLT, Int.reduceLE, Int.reduceBEq, Int.reduceToNat, Int.toNat_natCast, Int.natCast_zero, r147_C0, List.length_map, f1, f2, hi0, va, w64, h8, hs]
        exact nx _ 1 (by omega) (by omega)
      · rw [if_neg hs]
        simp (disch := omega) only [go_sem, and_self, and_true, true_and, false_and, and_false, Nat.reduceAdd, Nat.reduceMul, Nat.reduceSub, Nat.reduceLeDiff, Nat.reduceLT, Nat.reduceGT, Nat.reduceEqDiff, Nat.reduceBEq, Int.reduceNeg, Int.reduceEq, Int.reduceLT, Int.reduceLE, Int.reduceBEq, Int.reduceToNat, Int.toNat_natCast, Int.natCast_zero, r147_C0, List.length_map, f1, f2, hi0, va, w64, h8, hs]
        exact nx _ 0 (by omega) (by omega)

theorem less_ok (a b : List Int) (ha : Digs a) (hb : Digs b) (hla : a.length ≤ 1000) (hlb : b.length ≤ 1000) (hp : List Ent) :
    F tab 147 [.d (.sl (a.map iv)), .d (.sl (b.map iv))] hp = some (.ret (.d (.sl ((lessL a b 0).map iv))) hp) := by
  refine f147 rfl ?_
  have hL := less_loop a b ha hb hla hlb a.length 0 0 [] (by omega) (by omega) rfl (by omega)
  simp (disch := omega) only [go_sem, and_self, and_true, true_and, false_and, and_false, Nat.reduceAdd, Nat.reduceMul, Nat.reduceSub, Nat.reduceLeDiff, Nat.reduceLT, Nat.reduceGT, Nat.reduceEqDiff, Nat.reduceBEq, Int.reduceNeg, Int.reduceEq, Int.reduceLT, Int.reduceLE, Int.reduceBEq, Int.reduceToNat, Int.toNat_natCast, Int.natCast_zero, r147_T, r147]
  rw [r147_B0_n, r147_B0_z5]
  erw [hL]
  simp (disch := omega) only [go_sem, and_self, and_true, true_and, false_and, and_false, Nat.reduceAdd, Nat.reduceMul, Nat.reduceSub, Nat.reduceLeDiff, Nat.reduceLT, Nat.reduceGT, Nat.reduceEqDiff, Nat.reduceBEq, Int.reduceNeg, Int.reduceEq, Int.reduceLT, Int.reduceLE, Int.reduceBEq, Int.reduceToNat, Int.toNat_natCast, Int.natCast_zero, List.drop_zero, List.nil_append]

/-- is the one above the other, from digit n - 1 down, or the same -/
def aboveN (a b : List Int) : Nat → Bool
  | 0 => true
  | n + 1 => if (a[n]?).getD 0 = (b[n]?).getD 0 then aboveN a b n else decide ((a[n]?).getD 0 > (b[n]?).getD 0)

theorem above_loop (a b : List Int) (hla : a.length ≤ 1000) (he : a.length = b.length) : ∀ n, n ≤ a.length →
    V (F tab) r146_B0 (r146_S0 (.d (.sl (a.map iv))) (.d (.sl (b.map iv))) (.d (iv ((n : Int) - 1))) []) =
      if (∃ i, i < n ∧ (a[i]?).getD 0 ≠ (b[i]?).getD 0) then some (.ret, r146_R (.d (.bool (aboveN a b n))) []) else some (.norm, r146_E0 [])
  | 0, hn => by
    rw [r146_B0_eq, if_neg (by simp)]
    have h1 : ((0 : Int) - 1 ≥ 0) = False := eq_false (by omega)
    simp only [go_sem, and_self, and_true, true_and, false_and, and_false, Nat.reduceAdd, Nat.reduceMul, Nat.reduceSub, Nat.reduceLeDiff, Nat.reduceLT, Nat.reduceGT, Nat.reduceEqDiff, Nat.reduceBEq, Int.reduceNeg, Int.reduceEq, Int.reduceLT, Int.reduceLE, Int.reduceBEq, Int.reduceToNat, Int.toNat_natCast, Int.natCast_zero, r146_C0, h1]
  | n + 1, hn => by
    have h1 : (((n + 1 : Nat) : Int) - 1) = (n : Int) := by omega
    have h2 : ((n : Int) ≥ 0) = True := eq_true (by omega)
    have h3 : (0 ≤ (n : Int)) = True := eq_true (by omega)
    have va : (a.map iv)[n]? = some (iv a[n]) := dl_get (List.getElem?_eq_getElem (by omega))
    have vb : (b.map iv)[n]? = some (iv b[n]) := dl_get (List.getElem?_eq_getElem (by omega))
    have wa : (a[n]?).getD 0 = a[n] := by simp [show n < a.length by omega]
    have wb : (b[n]?).getD 0 = b[n] := by simp [show n < b.length by omega]
    rw [r146_B0_eq, h1]
    by_cases hne : a[n] = b[n]
    · have hb : (a[n] != b[n]) = false := by simp [hne]
      have ih := above_loop a b hla he n (by omega)
      have e : (∃ i, i < n + 1 ∧ (a[i]?).getD 0 ≠ (b[i]?).getD 0) ↔ (∃ i, i < n ∧ (a[i]?).getD 0 ≠ (b[i]?).getD 0) := by
        constructor
        · rintro ⟨i, h4, h5⟩
          by_cases e : i = n
          · subst e; rw [wa, wb] at h5; exact absurd hne h5
          · exact ⟨i, by omega, h5⟩
        · rintro ⟨i, h4, h5⟩
          exact ⟨i, by omega, h5⟩
      have e2 : aboveN a b (n + 1) = aboveN a b n := by rw [aboveN, wa, wb, if_pos hne]
      rw [e2]
      simp only [e]
      simp (disch := omega) only [go_sem, and_self, and_true, true_and, false_and, and_false, Nat.reduceAdd, Nat.reduceMul, Nat.reduceSub, Nat.reduceLeDiff, Nat.reduceLT, Nat.reduceGT, Nat.reduceEqDiff, Nat.reduceBEq, Int.reduceNeg, Int.reduceEq, Int.reduceLT, Int.reduceLE, Int.reduceBEq, Int.reduceToNat, Int.toNat_natCast, Int.natCast_zero, r146_C0, h2, h3, va, vb, hb, w64]
      exact ih
    · have hb : (a[n] != b[n]) = true := by simp [hne]
      have e : ∃ i, i < n + 1 ∧ (a[i]?).getD 0 ≠ (b[i]?).getD 0 := ⟨n, by omega, by rw [wa, wb]; exact hne⟩
      have e2 : aboveN a b (n + 1) = decide (a[n] > b[n]) := by rw [aboveN, wa, wb, if_neg hne]
      rw [if_pos e, e2]
      simp (disch := omega) only [go_sem, and_self, and_true, true_and, false_and, and_false, Nat.reduceAdd, Nat.reduceMul, Nat.reduceSub, Nat.reduceLeDiff, Nat.reduceLT, Nat.reduceGT, Nat.reduceEqDiff, Nat.reduceBEq, Int.reduceNeg, Int.reduceEq, Int.reduceLT, Int.reduceLE, Int.reduceBEq, Int.reduceToNat, Int.toNat_natCast, Int.natCast_zero, r146_C0, h2, h3, va, vb, hb, w64]

def aboveL (a b : List Int) : Bool := if a.length = b.length then aboveN a b a.length else decide (a.length > b.length)

theorem aboveN_same (a b : List Int) : ∀ n, (¬ ∃ i, i < n ∧ (a[i]?).getD 0 ≠ (b[i]?).getD 0) → aboveN a b n = true
  | 0, _ => rfl
  | n + 1, h => by
    have h1 : (a[n]?).getD 0 = (b[n]?).getD 0 := Classical.byContradiction fun hn => h ⟨n, by omega, hn⟩
    rw [aboveN, if_pos h1]
    exact aboveN_same a b n fun ⟨i, h2, h3⟩ => h ⟨i, by omega, h3⟩

theorem above_ok (a b : List Int) (hla : a.length ≤ 1000) (hlb : b.length ≤ 1000) (hp : List Ent) :
    F tab 146 [.d (.sl (a.map iv)), .d (.sl (b.map iv))] hp = some (.ret (.d (.bool (aboveL a b))) hp) := by
  refine f146 rfl ?_
  by_cases he : a.length = b.length
  · have hL := above_loop a b hla he a.length (Nat.le_refl _)
    have h1 : ((a.length : Int) != (b.length : Int)) = false := by simp [he]
    have e : aboveL a b = aboveN a b a.length := by rw [aboveL, if_pos he]
    rw [e]
    simp (disch := omega) only [go_sem, and_self, and_true, true_and, false_and, and_false, Nat.reduceAdd, Nat.reduceMul, Nat.reduceSub, Nat.reduceLeDiff, Nat.reduceLT, Nat.reduceGT, Nat.reduceEqDiff, Nat.reduceBEq, Int.reduceNeg, Int.reduceEq, Int.reduceLT, Int.reduceLE, Int.reduceBEq, Int.reduceToNat, Int.toNat_natCast, Int.natCast_zero, r146_T, r146, List.length_map, h1, w64]
    rw [r146_B0_n]
    erw [hL]
    by_cases hx : ∃ i, i < a.length ∧ (a[i]?).getD 0 ≠ (b[i]?).getD 0
    · rw [if_pos hx]
      simp (disch := omega) only [go_sem, and_self, and_true, true_and, false_and, and_false, Nat.reduceAdd, Nat.reduceMul, Nat.reduceSub, Nat.reduceLeDiff, Nat.reduceLT, Nat.reduceGT, Nat.reduceEqDiff, Nat.reduceBEq, Int.reduceNeg, Int.reduceEq, Int.reduceLT, Int.reduceLE, Int.reduceBEq, Int.reduceToNat, Int.toNat_natCast, Int.natCast_zero]
    · rw [if_neg hx, aboveN_same a b _ hx]
      simp (disch := omega) only [go_sem, and_self, and_true, true_and, false_and, and_false, Nat.reduceAdd, Nat.reduceMul, Nat.reduceSub, Nat.reduceLeDiff, Nat.reduceLT, Nat.reduceGT, Nat.reduceEqDiff, Nat.reduceBEq, Int.reduceNeg, Int.reduceEq, Int.reduceLT, Int.reduceLE, Int.reduceBEq, Int.reduceToNat, Int.toNat_natCast, Int.natCast_zero]
  · have h1 : ((a.length : Int) != (b.length : Int)) = true := by simp; omega
    have e : aboveL a b = decide (a.length > b.length) := by rw [aboveL, if_neg he]
    have h2 : decide ((a.length : Int) > (b.length : Int)) = decide (a.length > b.length) := by simp
    rw [e]
    simp (disch := omega) only [go_sem, and_self, and_true, true_and, false_and, and_false, Nat.reduceAdd, Nat.reduceMul, Nat.reduceSub, Nat.reduceLeDiff, Nat.reduceLT, Nat.reduceGT, Nat.reduceEqDiff, Nat.reduceBEq, Int.reduceNeg, Int.reduceEq, Int.reduceLT, Int.reduceLE, Int.reduceBEq, Int.reduceToNat, Int.toNat_natCast, Int.natCast_zero, r146_T, r146, List.length_map, h1, w64, h2]
end Go.Pe.T

namespace Go.Pe.T

/-! ### what digits are worth -/

def val : List Int → Int
  | [] => 0
  | d :: l => d + 10 * val l

theorem Digs.cons {d : Int} {l : List Int} (h : Digs (d :: l)) : digit d ∧ Digs l := ⟨h d (by simp), fun x hx => h x (by simp [hx])⟩
theorem Digs.nil : Digs [] := fun _ h => by simp at h
theorem Digs.mk {d : Int} {l : List Int} (h : digit d) (k : Digs l) : Digs (d :: l) := fun x hx => by
  rcases List.mem_cons.1 hx with rfl | hx
  · exact h
  · exact k x hx
theorem Digs.tail {l : List Int} (h : Digs l) : Digs l.tail := fun x hx => h x (List.mem_of_mem_tail hx)
theorem Digs.headD {l : List Int} (h : Digs l) : digit (l.headD 0) := by
  cases l with
  | nil => exact ⟨by simp, by simp⟩
  | cons d l => exact h.cons.1

theorem val_bound : ∀ {l : List Int}, Digs l → 0 ≤ val l ∧ val l < 10 ^ l.length
  | [], _ => by simp [val]
  | d :: l, h => by
    obtain ⟨h1, h2⟩ := h.cons
    obtain ⟨i1, i2⟩ := val_bound h2
    unfold digit at h1
    simp only [val, List.length_cons, Int.pow_succ]
    omega

theorem val_head (l : List Int) : val l = l.headD 0 + 10 * val l.tail := by
  cases l <;> simp [val]

theorem val_append : ∀ (a b : List Int), val (a ++ b) = val a + 10 ^ a.length * val b
  | [], b => by simp [val]
  | d :: a, b => by
    simp only [List.cons_append, val, val_append a b, List.length_cons, Int.pow_succ]
    rw [Int.mul_add, Int.mul_comm ((10 : Int) ^ a.length) 10, Int.mul_assoc]
    omega

theorem val_rep : ∀ (n : Nat) (l : List Int), val (List.replicate n 0 ++ l) = 10 ^ n * val l
  | 0, l => by simp
  | n + 1, l => by
    simp only [List.replicate_succ, List.cons_append, val, val_rep n l, Int.pow_succ]
    rw [Int.mul_comm ((10 : Int) ^ n) 10, Int.mul_assoc]
    omega

theorem sum_val : ∀ (k : Nat) (a b : List Int) (c : Int), Digs a → Digs b → 0 ≤ c → c ≤ 1 → max a.length b.length + 1 < k → val (sumL a b c k) = val a + val b + c ∧ Digs (sumL a b c k) ∧ (sumL a b c k).length ≤ max a.length b.length + 1
  | 0, a, b, c, _, _, _, _, hk => by omega
  | k + 1, a, b, c, ha, hb, h0, h1, hk => by
    unfold sumL
    split
    · rename_i h
      obtain ⟨rfl, rfl, h2⟩ := h
      exact ⟨by simp [val]; omega, Digs.nil, by simp⟩
    · rename_i h
      have da := ha.headD
      have db := hb.headD
      have ea := val_head a
      have eb := val_head b
      unfold digit at da db
      have hlen : max a.tail.length b.tail.length + 1 < k ∨ (a = [] ∧ b = []) := by
        cases a <;> cases b <;> simp at hk ⊢ <;> omega
      rcases hlen with hlen | ⟨rfl, rfl⟩
      · obtain ⟨i1, i2, i3⟩ := sum_val k a.tail b.tail ((c + a.headD 0 + b.headD 0) / 10) ha.tail hb.tail (by omega) (by omega) hlen
        refine ⟨?_, Digs.mk ⟨by omega, by omega⟩ i2, ?_⟩
        · simp only [val, i1]; omega
        · simp only [List.length_cons, List.length_tail] at i3 ⊢
          by_cases hz : a.length = 0 ∧ b.length = 0
          · have e1 : a = [] := List.eq_nil_of_length_eq_zero hz.1
            have e2 : b = [] := List.eq_nil_of_length_eq_zero hz.2
            subst e1 e2
            simp at h ⊢
            have : c = 1 := by omega
            subst this
            cases k with
            | zero => simp [sumL]
            | succ k => simp [sumL]
          · omega
      · simp at h
        have : c = 1 := by omega
        subst this
        cases k with
        | zero => simp at hk
        | succ k => simp [sumL, val, Digs, digit]

theorem less_val : ∀ (a b : List Int) (o : Int), Digs a → Digs b → 0 ≤ o → o ≤ 1 → b.length ≤ a.length → (∃ f : Int, 0 ≤ f ∧ f ≤ 1 ∧ val (lessL a b o) = val a - val b - o + f * 10 ^ a.length) ∧ Digs (lessL a b o) ∧ (lessL a b o).length = a.length
  | [], b, o, ha, hb, h0, h1, hl => by
    have : b = [] := List.eq_nil_of_length_eq_zero (by simpa using hl)
    subst this
    exact ⟨⟨o, h0, h1, by simp [lessL, val]; omega⟩, Digs.nil, rfl⟩
  | x :: a, b, o, ha, hb, h0, h1, hl => by
    have db := hb.headD
    have eb := val_head b
    obtain ⟨dx, da⟩ := ha.cons
    unfold digit at db dx
    have hl' : b.tail.length ≤ a.length := by simp at hl ⊢; omega
    unfold lessL
    split
    · obtain ⟨⟨f, f0, f1, i1⟩, i2, i3⟩ := less_val a b.tail 1 da hb.tail (by omega) (by omega) hl'
      refine ⟨⟨f, f0, f1, ?_⟩, Digs.mk ⟨by omega, by omega⟩ i2, by simp [i3]⟩
      simp only [val, i1, List.length_cons, Int.pow_succ]
      rw [← Int.mul_assoc]
      omega
    · obtain ⟨⟨f, f0, f1, i1⟩, i2, i3⟩ := less_val a b.tail 0 da hb.tail (by omega) (by omega) hl'
      refine ⟨⟨f, f0, f1, ?_⟩, Digs.mk ⟨by omega, by omega⟩ i2, by simp [i3]⟩
      simp only [val, i1, List.length_cons, Int.pow_succ]
      rw [← Int.mul_assoc]
      omega

theorem less_exact {a b : List Int} (ha : Digs a) (hb : Digs b) (hl : b.length ≤ a.length) (h : val b ≤ val a) : val (lessL a b 0) = val a - val b := by
  obtain ⟨⟨f, f0, f1, i1⟩, i2, i3⟩ := less_val a b 0 ha hb (by omega) (by omega) hl
  have h1 := val_bound i2
  rw [i3] at h1
  have h2 := (val_bound hb).1
  have h3 : f = 0 := by
    by_cases hf : f = 0
    · exact hf
    · have : f = 1 := by omega
      subst this
      omega
  subst h3
  omega

theorem trim_val (l : List Int) : ∀ n, n ≤ l.length → val (l.take (trimN l n)) = val (l.take n) ∧ (∀ d, (l.take (trimN l n)).getLast? = some d → d ≠ 0)
  | 0, _ => by simp [trimN]
  | n + 1, hn => by
    have hg : l[n]? = some l[n] := List.getElem?_eq_getElem (by omega)
    have ht : l.take (n + 1) = l.take n ++ [l[n]] := by rw [List.take_add_one, hg]; rfl
    unfold trimN
    split
    · rename_i h
      obtain ⟨i1, i2⟩ := trim_val l n (by omega)
      refine ⟨?_, i2⟩
      rw [i1, ht, val_append]
      rw [hg] at h
      simp only [Option.some.injEq] at h
      simp [h, val]
    · rename_i h
      refine ⟨rfl, ?_⟩
      intro d hd
      rw [ht, List.getLast?_concat] at hd
      simp only [Option.some.injEq] at hd
      subst hd
      intro e
      exact h (by rw [hg, e])

theorem trimL_val (l : List Int) : val (trimL l) = val l := by
  have := (trim_val l l.length (Nat.le_refl _)).1
  rwa [List.take_length] at this
theorem trimL_top (l : List Int) : ∀ d, (trimL l).getLast? = some d → d ≠ 0 := (trim_val l l.length (Nat.le_refl _)).2
theorem trimL_digs {l : List Int} (h : Digs l) : Digs (trimL l) := fun d hd => h d (List.mem_of_mem_take hd)
theorem trimL_len (l : List Int) : (trimL l).length = trimN l l.length := by
  have := trimN_le l l.length
  simp [trimL]; omega
end Go.Pe.T

namespace Go.Pe.T

/-! ### above, by worth -/

/-- digits without noughts above -/
def Top (l : List Int) : Prop := Digs l ∧ ∀ d, l.getLast? = some d → d ≠ 0

theorem top_bound : ∀ {l : List Int}, Top l → l ≠ [] → 10 ^ (l.length - 1) ≤ val l
  | [], _, h => absurd rfl h
  | [d], h, _ => by
    have h1 := h.2 d (by simp)
    have h2 := h.1.cons.1
    unfold digit at h2
    simp [val]; omega
  | d :: e :: l, h, _ => by
    have h2 := h.1.cons
    have ih := top_bound (l := e :: l) ⟨h2.2, fun x hx => h.2 x (by simpa [List.getLast?_cons_cons] using hx)⟩ (by simp)
    have h3 := h2.1
    unfold digit at h3
    have e1 : (d :: e :: l).length - 1 = ((e :: l).length - 1) + 1 := by simp
    rw [e1, Int.pow_succ]
    have e2 : val (d :: e :: l) = d + 10 * val (e :: l) := rfl
    rw [e2]
    omega

theorem val_take {a : List Int} {n : Nat} (h : n < a.length) : val (a.take (n + 1)) = val (a.take n) + 10 ^ n * a[n] := by
  have hg : a[n]? = some a[n] := List.getElem?_eq_getElem h
  have ht : a.take (n + 1) = a.take n ++ [a[n]] := by rw [List.take_add_one, hg]; rfl
  rw [ht, val_append]
  simp [val, List.length_take, Nat.min_eq_left (Nat.le_of_lt h)]

theorem Digs.take {l : List Int} (h : Digs l) (n : Nat) : Digs (l.take n) := fun d hd => h d (List.mem_of_mem_take hd)

theorem aboveN_val {a b : List Int} (ha : Digs a) (hb : Digs b) (he : a.length = b.length) : ∀ n, n ≤ a.length → (aboveN a b n = true ↔ val (b.take n) ≤ val (a.take n))
  | 0, _ => by simp [aboveN, val]
  | n + 1, hn => by
    have hb' : n < b.length := by omega
    have ha' : n < a.length := by omega
    have wa : (a[n]?).getD 0 = a[n] := by simp [ha']
    have wb : (b[n]?).getD 0 = b[n] := by simp [hb']
    have ia := val_bound (ha.take n)
    have ib := val_bound (hb.take n)
    rw [List.length_take, Nat.min_eq_left (by omega)] at ia ib
    rw [aboveN, wa, wb, val_take ha', val_take hb']
    split
    · rename_i h
      rw [aboveN_val ha hb he n (by omega), h]
      omega
    · rename_i h
      simp only [decide_eq_true_eq]
      constructor
      · intro h1
        have : (10 : Int) ^ n * (b[n] + 1) ≤ 10 ^ n * a[n] := Int.mul_le_mul_of_nonneg_left (by omega) (by omega)
        rw [Int.mul_add] at this
        omega
      · intro h1
        by_cases h2 : a[n] > b[n]
        · exact h2
        · exfalso
          have : (10 : Int) ^ n * (a[n] + 1) ≤ 10 ^ n * b[n] := Int.mul_le_mul_of_nonneg_left (by omega) (by omega)
          rw [Int.mul_add] at this
          omega

theorem aboveL_val {a b : List Int} (ha : Top a) (hb : Top b) : aboveL a b = decide (val b ≤ val a) ∧ (aboveL a b = true → b.length ≤ a.length) ∧ (aboveL a b = false → a.length ≤ b.length) := by
  unfold aboveL
  split
  · rename_i he
    have h := aboveN_val ha.1 hb.1 he a.length (Nat.le_refl _)
    rw [List.take_length, he, List.take_length] at h
    refine ⟨?_, fun _ => by omega, fun _ => by omega⟩
    rw [he]
    cases hx : aboveN a b b.length with
    | true => exact (decide_eq_true (h.1 hx)).symm
    | false =>
      refine (decide_eq_false fun hle => ?_).symm
      rw [h.2 hle] at hx
      simp at hx
  · rename_i he
    refine ⟨?_, fun h => by simp at h; omega, fun h => by simp at h; omega⟩
    by_cases hg : a.length > b.length
    · have h1 := top_bound ha (by intro e; subst e; simp at hg)
      have h2 := (val_bound hb.1).2
      have h3 := p10_mono (show b.length ≤ a.length - 1 by omega)
      have : val b ≤ val a := by omega
      simp [hg, this]
    · have h1 := top_bound hb (by intro e; subst e; simp at hg he; exact he hg)
      have h2 := (val_bound ha.1).2
      have h3 := p10_mono (show a.length ≤ b.length - 1 by omega)
      have : ¬ val b ≤ val a := by omega
      simp [hg, this]
end Go.Pe.T

namespace Go.Pe.T

/-! ### Plus, Line, Cmp -/

def trimmed (neg : Bool) (l : List Int) : D := longD (neg && trimN l l.length != 0) (trimL l)

theorem trim_ok' (neg : Bool) (l : List Int) (hl : l.length ≤ 10000) (hp : List Ent) : F tab 144 [.d (.agg [.bool neg, .sl (l.map iv)])] hp = some (.ret (.d (trimmed neg l)) hp) :=
  trim_ok neg l (by have : maxLen = 9223372036854775807 := by decide
                    omega) hp

def plusD (na : Bool) (a : List Int) (nb : Bool) (b : List Int) : D :=
  if na = nb then trimmed na (sumL a b 0 (max a.length b.length + 2))
  else if aboveL a b then trimmed na (lessL a b 0) else trimmed nb (lessL b a 0)

theorem trimmed_shape (neg : Bool) (l : List Int) : trimmed neg l = .agg [.bool (neg && trimN l l.length != 0), .sl ((trimL l).map iv)] := rfl

theorem plus_ok (na nb : Bool) (a b : List Int) (ha : Top a) (hb : Top b) (hla : a.length ≤ 900) (hlb : b.length ≤ 900) (hp : List Ent) :
    F tab 126 [.d (longD na a), .d (longD nb b)] hp = some (.ret (.d (plusD na a nb b)) hp) := by
  refine f126 rfl ?_
  have hs := sum_ok a b ha.1 hb.1 (by omega) (by omega)
  have hs2 := (sum_val (max a.length b.length + 2) a b 0 ha.1 hb.1 (by omega) (by omega) (by omega)).2.2
  have hab := above_ok a b (by omega) (by omega)
  have h1 := less_ok a b ha.1 hb.1 (by omega) (by omega)
  have h2 := less_ok b a hb.1 ha.1 (by omega) (by omega)
  obtain ⟨_, g1, g2⟩ := aboveL_val ha hb
  by_cases hn : na = nb
  · subst hn
    have ht := trim_ok' na (sumL a b 0 (max a.length b.length + 2)) (by omega)
    have hb1 : (na == na) = true := by simp
    simp (disch := omega) only [go_sem, and_self, and_true, true_and, false_and, and_false, Nat.reduceAdd, Nat.reduceMul, Nat.reduceSub, Nat.reduceLeDiff, Nat.reduceLT, Nat.reduceGT, Nat.reduceEqDiff, Nat.reduceBEq, Int.reduceNeg, Int.reduceEq, Int.reduceLT, Int.reduceLE, Int.reduceBEq, Int.reduceToNat, Int.toNat_natCast, Int.natCast_zero, r126_T, r126, hb1, hs, ht, plusD, trimmed_shape]
  · have hb1 : (na == nb) = false := by simp [hn]
    rcases Bool.eq_false_or_eq_true (aboveL a b) with hx | hx
    · have hl := (less_val a b 0 ha.1 hb.1 (by omega) (by omega) (g1 hx)).2.2
      have ht := trim_ok' na (lessL a b 0) (by omega)
      simp (disch := omega) only [go_sem, and_self, and_true, true_and, false_and, and_false, Nat.reduceAdd, Nat.reduceMul, Nat.reduceSub, Nat.reduceLeDiff, Nat.reduceLT, Nat.reduceGT, Nat.reduceEqDiff, Nat.reduceBEq, Int.reduceNeg, Int.reduceEq, Int.reduceLT, Int.reduceLE, Int.reduceBEq, Int.reduceToNat, Int.toNat_natCast, Int.natCast_zero, r126_T, r126, hb1, hab, hx, h1, ht, plusD, hn, trimmed_shape]
    · have hl := (less_val b a 0 hb.1 ha.1 (by omega) (by omega) (g2 hx)).2.2
      have ht := trim_ok' nb (lessL b a 0) (by omega)
      simp (disch := omega) only [go_sem, and_self, and_true, true_and, false_and, and_false, Nat.reduceAdd, Nat.reduceMul, Nat.reduceSub, Nat.reduceLeDiff, Nat.reduceLT, Nat.reduceGT, Nat.reduceEqDiff, Nat.reduceBEq, Int.reduceNeg, Int.reduceEq, Int.reduceLT, Int.reduceLE, Int.reduceBEq, Int.reduceToNat, Int.toNat_natCast, Int.natCast_zero, r126_T, r126, hb1, hab, hx, h2, ht, plusD, hn, trimmed_shape]

/-- a coefficient at a greater scale -/
def atL (c : Int) (k : Nat) : List Int := shiftL (digs c.natAbs) k
def atN (c : Int) (k : Nat) : Bool := decide (c < 0) && trimN (List.replicate k 0 ++ digs c.natAbs) (k + (digs c.natAbs).length) != 0

theorem line_ok (c c' : Int) (k k' : Nat) (hk : k ≤ 9) (hk' : k' ≤ 9) (hc : -1000000000000000 < c ∧ c < 1000000000000000) (hc' : -1000000000000000 < c' ∧ c' < 1000000000000000) (hp : List Ent) :
    F tab 125 [.d (numD c k), .d (numD c' k')] hp = some (.ret (.tup [.d (longD (atN c (max k k' - k)) (atL c (max k k' - k))), .d (longD (atN c' (max k k' - k')) (atL c' (max k k' - k'))), .d (iv (max k k' : Nat))]) hp) := by
  refine f125 rfl ?_
  have e15 : (10 : Nat) ^ 15 = 1000000000000000 := by decide
  have d1 := digs_len 15 c.natAbs (by omega)
  have d2 := digs_len 15 c'.natAbs (by omega)
  have o1 := of_ok c (by omega)
  have o2 := of_ok c' (by omega)
  have s1 := shift_ok (decide (c < 0)) (digs c.natAbs) (by omega) (max k k' - k) (by omega)
  have s2 := shift_ok (decide (c' < 0)) (digs c'.natAbs) (by omega) (max k k' - k') (by omega)
  by_cases h : (k' : Int) > (k : Int)
  · have m : max k k' = k' := by omega
    rw [m] at s1 s2 ⊢
    have e1 : ((k' - k : Nat) : Int) = (k' : Int) - (k : Int) := by omega
    have e2 : ((k' - k' : Nat) : Int) = (k' : Int) - (k' : Int) := by omega
    rw [e1] at s1
    rw [e2] at s2
    simp (disch := omega) only [go_sem, and_self, and_true, true_and, false_and, and_false, Nat.reduceAdd, Nat.reduceMul, Nat.reduceSub, Nat.reduceLeDiff, Nat.reduceLT, Nat.reduceGT, Nat.reduceEqDiff, Nat.reduceBEq, Int.reduceNeg, Int.reduceEq, Int.reduceLT, Int.reduceLE, Int.reduceBEq, Int.reduceToNat, Int.toNat_natCast, Int.natCast_zero, r125_T, r125, h, o1, o2, s1, s2, w64, longD, atN, atL]
  · have m : max k k' = k := by omega
    rw [m] at s1 s2 ⊢
    have e1 : ((k - k' : Nat) : Int) = (k : Int) - (k' : Int) := by omega
    have e2 : ((k - k : Nat) : Int) = (k : Int) - (k : Int) := by omega
    rw [e2] at s1
    rw [e1] at s2
    simp (disch := omega) only [go_sem, and_self, and_true, true_and, false_and, and_false, Nat.reduceAdd, Nat.reduceMul, Nat.reduceSub, Nat.reduceLeDiff, Nat.reduceLT, Nat.reduceGT, Nat.reduceEqDiff, Nat.reduceBEq, Int.reduceNeg, Int.reduceEq, Int.reduceLT, Int.reduceLE, Int.reduceBEq, Int.reduceToNat, Int.toNat_natCast, Int.natCast_zero, r125_T, r125, h, o1, o2, s1, s2, w64, longD, atN, atL]
end Go.Pe.T

namespace Go.Pe.T

theorem digs_val (n : Nat) : val (digs n) = n ∧ Digs (digs n) := by
  induction n using Nat.strongRecOn with
  | _ n ih =>
    rw [digs]
    split
    · rename_i h; subst h; exact ⟨by simp [val], Digs.nil⟩
    · obtain ⟨i1, i2⟩ := ih (n / 10) (by omega)
      refine ⟨?_, Digs.mk ⟨by omega, by omega⟩ i2⟩
      simp only [val, i1]
      omega

theorem rep_digs {l : List Int} (h : Digs l) (n : Nat) : Digs (List.replicate n 0 ++ l) := fun d hd => by
  rcases List.mem_append.1 hd with hd | hd
  · obtain rfl := (List.mem_replicate.1 hd).2
    exact ⟨by omega, by omega⟩
  · exact h d hd

theorem trimN_zero {l : List Int} (h : Digs l) : trimN l l.length = 0 ↔ val l = 0 := by
  have h1 := trimL_val l
  have h2 := trimL_len l
  constructor
  · intro e
    rw [e] at h2
    have : trimL l = [] := List.eq_nil_of_length_eq_zero h2
    rw [this] at h1
    exact h1.symm
  · intro e
    have ht : Top (trimL l) := ⟨trimL_digs h, trimL_top l⟩
    by_cases hn : trimL l = []
    · rw [← h2, hn]; rfl
    · have := top_bound ht hn
      have hp := p10_pos ((trimL l).length - 1)
      rw [h1] at this
      omega

theorem at_top (c : Int) (k : Nat) : Top (atL c k) ∧ val (atL c k) = 10 ^ k * (c.natAbs : Int) ∧ atN c k = decide (c < 0) := by
  obtain ⟨d1, d2⟩ := digs_val c.natAbs
  have h1 := rep_digs d2 k
  have hv : val (atL c k) = 10 ^ k * (c.natAbs : Int) := by unfold atL shiftL; rw [trimL_val, val_rep, d1]
  refine ⟨⟨trimL_digs h1, trimL_top _⟩, hv, ?_⟩
  unfold atN
  have hz := trimN_zero h1
  rw [val_rep, d1] at hz
  simp only [List.length_append, List.length_replicate] at hz
  by_cases hc : c < 0
  · have hne : (10 : Int) ^ k * (c.natAbs : Int) ≠ 0 := by
      have hp := p10_pos k
      have : 0 < (10 : Int) ^ k * (c.natAbs : Int) := Int.mul_pos hp (by omega)
      omega
    have : trimN (List.replicate k 0 ++ digs c.natAbs) (k + (digs c.natAbs).length) ≠ 0 := fun e => hne (hz.1 e)
    simp [hc, this]
  · simp [hc]

theorem at_len (c : Int) (k : Nat) (hk : k ≤ 9) (hc : -1000000000000000 < c ∧ c < 1000000000000000) : (atL c k).length ≤ 900 := by
  have e15 : (10 : Nat) ^ 15 = 1000000000000000 := by decide
  have d1 := digs_len 15 c.natAbs (by omega)
  unfold atL shiftL trimL
  simp only [List.length_take, List.length_append, List.length_replicate]
  omega

theorem sgn_scale {a b p : Int} (hp : 0 < p) : sgn (a * p) (b * p) = sgn a b := by
  unfold sgn
  have h1 : a * p < b * p ↔ a < b := ⟨fun h => Int.lt_of_mul_lt_mul_right h (by omega), fun h => Int.mul_lt_mul_of_pos_right h hp⟩
  have h2 : b * p < a * p ↔ b < a := ⟨fun h => Int.lt_of_mul_lt_mul_right h (by omega), fun h => Int.mul_lt_mul_of_pos_right h hp⟩
  simp only [gt_iff_lt, h1, h2]

/-- what a difference's digits tell -/
def tells (neg : Bool) (v : Int) : Int := if v = 0 then 0 else if neg then -1 else 1

theorem plus_tells {na nb : Bool} {a b : List Int} (ha : Top a) (hb : Top b) : ∃ neg l, plusD na a nb b = trimmed neg l ∧ Digs l ∧ 
    tells neg (val l) = (let x := if na then - val a else val a; let y := if nb then val b else - val b; sgn x y) := by
  have h1 := (val_bound ha.1).1
  have h2 := (val_bound hb.1).1
  obtain ⟨g0, g1, g2⟩ := aboveL_val ha hb
  unfold plusD
  split
  · rename_i hn
    subst hn
    obtain ⟨s1, s2, _⟩ := sum_val (max a.length b.length + 2) a b 0 ha.1 hb.1 (by omega) (by omega) (by omega)
    refine ⟨na, _, rfl, s2, ?_⟩
    rw [s1]
    cases na <;> simp only [tells, sgn, Bool.false_eq_true, if_true, if_false] <;> split <;> split <;> (try split) <;> omega
  · rename_i hn
    split
    · rename_i hx
      have hle : val b ≤ val a := by rw [g0] at hx; simpa using hx
      obtain ⟨_, l2, _⟩ := less_val a b 0 ha.1 hb.1 (by omega) (by omega) (g1 hx)
      refine ⟨na, _, rfl, l2, ?_⟩
      rw [less_exact ha.1 hb.1 (g1 hx) hle]
      cases na <;> cases nb <;> simp at hn <;> simp only [tells, sgn, Bool.false_eq_true, if_true, if_false] <;> split <;> split <;> (try split) <;> omega
    · rename_i hx
      have hx' : aboveL a b = false := by simpa using hx
      have hle : val a ≤ val b := by rw [g0] at hx'; simp at hx'; omega
      obtain ⟨_, l2, _⟩ := less_val b a 0 hb.1 ha.1 (by omega) (by omega) (g2 hx')
      refine ⟨nb, _, rfl, l2, ?_⟩
      rw [less_exact hb.1 ha.1 (g2 hx') hle]
      cases na <;> cases nb <;> simp at hn <;> simp only [tells, sgn, Bool.false_eq_true, if_true, if_false] <;> split <;> split <;> (try split) <;> omega

theorem cmp4_ok (c c' : Int) (k k' : Nat) (hk : k ≤ 9) (hk' : k' ≤ 9) (hc : -1000000000000000 < c ∧ c < 1000000000000000) (hc' : -1000000000000000 < c' ∧ c' < 1000000000000000) (hp : List Ent) :
    F tab 96 [.d (numD c k), .d (numD c' k')] hp = some (.ret (.d (iv (sgn (flatN c k) (flatN c' k')))) hp) := by
  refine f96 rfl ?_
  have hl := line_ok c c' k k' hk hk' hc hc'
  obtain ⟨t1, v1, n1⟩ := at_top c (max k k' - k)
  obtain ⟨t2, v2, n2⟩ := at_top c' (max k k' - k')
  have hp' := plus_ok (atN c (max k k' - k)) (!atN c' (max k k' - k')) (atL c (max k k' - k)) (atL c' (max k k' - k')) t1 t2 (at_len _ _ (by omega) hc) (at_len _ _ (by omega) hc')
  obtain ⟨neg, l, e1, dl1, e2⟩ := plus_tells (na := atN c (max k k' - k)) (nb := !atN c' (max k k' - k')) t1 t2
  rw [e1] at hp'
  have hz := trimN_zero dl1
  have hfin : tells neg (val l) = sgn (flatN c k) (flatN c' k') := by
    rw [e2, n1, n2, v1, v2]
    have hM : 0 < (10 : Int) ^ (9 - max k k') := p10_pos _
    have ea : flatN c k = c * 10 ^ (max k k' - k) * 10 ^ (9 - max k k') := by
      unfold flatN
      rw [Int.mul_assoc, ← Int.pow_add, show max k k' - k + (9 - max k k') = 9 - k by omega]
    have eb : flatN c' k' = c' * 10 ^ (max k k' - k') * 10 ^ (9 - max k k') := by
      unfold flatN
      rw [Int.mul_assoc, ← Int.pow_add, show max k k' - k' + (9 - max k k') = 9 - k' by omega]
    rw [ea, eb, sgn_scale hM]
    have fa : ∀ (c : Int) (q : Int), (if decide (c < 0) = true then -(q * (c.natAbs : Int)) else q * (c.natAbs : Int)) = c * q := by
      intro c q
      by_cases h : c < 0
      · have : (c.natAbs : Int) = -c := by omega
        simp only [h, decide_true, if_true, this, Int.mul_neg, Int.neg_neg, Int.mul_comm]
      · have : (c.natAbs : Int) = c := by omega
        simp only [h, decide_false, Bool.false_eq_true, if_false, this, Int.mul_comm]
    have fb : ∀ (c : Int) (q : Int), (if (!decide (c < 0)) = true then q * (c.natAbs : Int) else -(q * (c.natAbs : Int))) = c * q := by
      intro c q
      by_cases h : c < 0
      · have : (c.natAbs : Int) = -c := by omega
        simp only [h, decide_true, Bool.not_true, Bool.false_eq_true, if_false, this, Int.mul_neg, Int.neg_neg, Int.mul_comm]
      · have : (c.natAbs : Int) = c := by omega
        simp only [h, decide_false, Bool.not_false, if_true, this, Int.mul_comm]
    simp only [fa, fb]
  rw [← hfin]
  unfold tells
  by_cases h0 : val l = 0
  · have g0 := hz.2 h0
    have g1 : trimL l = [] := List.eq_nil_of_length_eq_zero (by rw [trimL_len, g0])
    have g2 : (trimN l l.length != 0) = false := by simp [g0]
    simp (disch := omega) only [go_sem, and_self, and_true, true_and, false_and, and_false, Nat.reduceAdd, Nat.reduceMul, Nat.reduceSub, Nat.reduceLeDiff, Nat.reduceLT, Nat.reduceGT, Nat.reduceEqDiff, Nat.reduceBEq, Int.reduceNeg, Int.reduceEq, Int.reduceLT, Int.reduceLE, Int.reduceBEq, Int.reduceToNat, Int.toNat_natCast, Int.natCast_zero, r96_T, r96, hl, hp', trimmed_shape, g1, g2, h0]
  · have g0 : trimN l l.length ≠ 0 := fun e => h0 (hz.1 e)
    have g1 : ((trimL l).length : Int) ≠ 0 := by rw [trimL_len]; omega
    have g2 : (trimN l l.length != 0) = true := by simp [g0]
    have g3 : (((trimL l).length : Int) == 0) = false := by simpa using g1
    cases neg <;> simp (disch := omega) only [go_sem, and_self, and_true, true_and, false_and, and_false, Nat.reduceAdd, Nat.reduceMul, Nat.reduceSub, Nat.reduceLeDiff, Nat.reduceLT, Nat.reduceGT, Nat.reduceEqDiff, Nat.reduceBEq, Int.reduceNeg, Int.reduceEq, Int.reduceLT, Int.reduceLE, Int.reduceBEq, Int.reduceToNat, Int.toNat_natCast, Int.natCast_zero, r96_T, r96, hl, hp', trimmed_shape, List.length_map, g2, g3, h0]
end Go.Pe.T

namespace Go.Pe.T

/-! ### texts -/

/-- the first place where two rows part -/
def mism : List UInt8 → List UInt8 → Option Int
  | x :: a, y :: b => if x = y then mism a b else some (sgn x.toNat y.toNat)
  | _, _ => none
def txtL (a b : List UInt8) : Int := (mism a b).getD (sgn a.length b.length)
def txt (a b : ByteArray) : Int := txtL a.data.toList b.data.toList

theorem txtL_less : ∀ (a b : List UInt8), Op.bytesLess a b = decide (txtL a b = -1) ∧ (a == b) = decide (txtL a b = 0) ∧ (txtL a b = -1 ∨ txtL a b = 0 ∨ txtL a b = 1)
  | [], [] => by simp [Op.bytesLess, txtL, mism, sgn]
  | [], y :: b => by
    have : sgn 0 ((b.length : Int) + 1) = -1 := by unfold sgn; split <;> omega
    simp [Op.bytesLess, txtL, mism, this]
  | x :: a, [] => by
    have : sgn ((a.length : Int) + 1) 0 = 1 := by unfold sgn; split <;> (try split) <;> omega
    simp [Op.bytesLess, txtL, mism, this]
  | x :: a, y :: b => by
    obtain ⟨i1, i2, i3⟩ := txtL_less a b
    have hl : sgn ((x :: a).length : Int) ((y :: b).length : Int) = sgn a.length b.length := by
      unfold sgn; simp
    by_cases h : x = y
    · subst h
      have e : txtL (x :: a) (x :: b) = txtL a b := by simp only [txtL, mism, if_true, hl]
      rw [e]
      have hx : ¬ x < x := by simp
      refine ⟨?_, ?_, i3⟩
      · simp only [Op.bytesLess, hx, decide_false, Bool.false_or, beq_self_eq_true, Bool.true_and, i1]
      · simpa using i2
    · have e : txtL (x :: a) (y :: b) = sgn x.toNat y.toNat := by simp only [txtL, mism, if_neg h, Option.getD_some]
      rw [e]
      have hne : x.toNat ≠ y.toNat := fun hh => h (UInt8.toNat_inj.1 hh)
      have hb : (x == y) = false := by simpa using h
      have hlt : x < y ↔ x.toNat < y.toNat := UInt8.lt_iff_toNat_lt
      unfold sgn
      by_cases h2 : x.toNat < y.toNat
      · have h3 : (x.toNat : Int) < y.toNat := by omega
        simp [Op.bytesLess, hb, hlt.2 h2, h3, h]
      · have h3 : ¬ (x.toNat : Int) < y.toNat := by omega
        have h4 : (x.toNat : Int) > y.toNat := by omega
        have h5 : ¬ x < y := fun hh => h2 (hlt.1 hh)
        simp [Op.bytesLess, hb, h5, h3, h4, h]

theorem isNaNs_ok (a : ByteArray) (hp : List Ent) : F tab 124 [.d (.str a)] hp = some (.ret (.d (.bool false)) hp) := by
  refine f124 rfl ?_
  have h : (!(a.toList == a.toList)) = false := by simp
  simp only [go_sem, and_self, and_true, true_and, false_and, and_false, Nat.reduceAdd, Nat.reduceMul, Nat.reduceSub, Nat.reduceLeDiff, Nat.reduceLT, Nat.reduceGT, Nat.reduceEqDiff, Nat.reduceBEq, Int.reduceNeg, Int.reduceEq, Int.reduceLT, Int.reduceLE, Int.reduceBEq, Int.reduceToNat, Int.toNat_natCast, Int.natCast_zero, r124_T, r124, strD, h]

theorem cmps_ok (a b : ByteArray) (hp : List Ent) : F tab 91 [.d (.str a), .d (.str b)] hp = some (.ret (.d (iv (txt a b))) hp) := by
  refine f91 rfl ?_
  have h1 := isNaNs_ok a
  have h2 := isNaNs_ok b
  obtain ⟨i1, i2, i3⟩ := txtL_less a.data.toList b.data.toList
  have e1 := ByteArray.toList_eq a
  have e2 := ByteArray.toList_eq b
  have e3 : txt a b = txtL a.data.toList b.data.toList := rfl
  rw [← e3] at i1 i2 i3
  rcases i3 with h | h | h
  · have g1 : decide (txt a b = -1) = true := by simp [h]
    simp only [go_sem, and_self, and_true, true_and, false_and, and_false, Nat.reduceAdd, Nat.reduceMul, Nat.reduceSub, Nat.reduceLeDiff, Nat.reduceLT, Nat.reduceGT, Nat.reduceEqDiff, Nat.reduceBEq, Int.reduceNeg, Int.reduceEq, Int.reduceLT, Int.reduceLE, Int.reduceBEq, Int.reduceToNat, Int.toNat_natCast, Int.natCast_zero, r91_T, r91, strD, h1, h2, e1, e2, i1, i2, g1, h]
  · have g1 : decide (txt a b = -1) = false := by simp [h]
    have g2 : decide (txt a b = 0) = true := by simp [h]
    simp only [go_sem, and_self, and_true, true_and, false_and, and_false, Nat.reduceAdd, Nat.reduceMul, Nat.reduceSub, Nat.reduceLeDiff, Nat.reduceLT, Nat.reduceGT, Nat.reduceEqDiff, Nat.reduceBEq, Int.reduceNeg, Int.reduceEq, Int.reduceLT, Int.reduceLE, Int.reduceBEq, Int.reduceToNat, Int.toNat_natCast, Int.natCast_zero, r91_T, r91, strD, h1, h2, e1, e2, i1, i2, g1, g2, h, Bool.false_or, Bool.true_or]
  · have g1 : decide (txt a b = -1) = false := by simp [h]
    have g2 : decide (txt a b = 0) = false := by simp [h]
    simp only [go_sem, and_self, and_true, true_and, false_and, and_false, Nat.reduceAdd, Nat.reduceMul, Nat.reduceSub, Nat.reduceLeDiff, Nat.reduceLT, Nat.reduceGT, Nat.reduceEqDiff, Nat.reduceBEq, Int.reduceNeg, Int.reduceEq, Int.reduceLT, Int.reduceLE, Int.reduceBEq, Int.reduceToNat, Int.toNat_natCast, Int.natCast_zero, r91_T, r91, strD, h1, h2, e1, e2, i1, i2, g1, g2, h, Bool.false_or, Bool.true_or]
end Go.Pe.T

namespace Go.Pe.T

theorem size_data (a : ByteArray) : a.data.toList.length = a.size := rfl
theorem get_data {a : ByteArray} {i : Nat} (h : i < a.size) : a[i]? = some a[i] ∧ a.data.toList[i]? = some a[i] ∧ a.data.toList.drop i = a[i] :: a.data.toList.drop (i + 1) := by
  have e : a[i] = a.data.toList[i]'h := rfl
  refine ⟨getElem?_pos a i h, ?_, ?_⟩
  · rw [e]; exact List.getElem?_eq_getElem h
  · rw [e]; exact List.drop_eq_getElem_cons h

theorem text_loop (a b : ByteArray) (hla : a.size ≤ maxLen) : ∀ (j i : Nat), i + j = a.size →
    V (F tab) r98_B0 (r98_S0 (.d (.str a)) (.d (.str b)) (.d (iv i)) []) =
      match mism (a.data.toList.drop i) (b.data.toList.drop i) with
      | some r => some (.ret, r98_R (.d (iv r)) [])
      | none => some (.norm, r98_E0 (.d (.str a)) (.d (.str b)) [])
  | 0, i, hi => by
    have h1 : ((i : Int) < (a.size : Int)) = False := eq_false (by omega)
    rw [r98_B0_eq, List.drop_of_length_le (by rw [size_data]; omega : a.data.toList.length ≤ i)]
    have e : mism [] (b.data.toList.drop i) = none := by simp [mism]
    rw [e]
    simp only [go_sem, and_self, and_true, true_and, false_and, and_false, Nat.reduceAdd, Nat.reduceMul, Nat.reduceSub, Nat.reduceLeDiff, Nat.reduceLT, Nat.reduceGT, Nat.reduceEqDiff, Nat.reduceBEq, Int.reduceNeg, Int.reduceEq, Int.reduceLT, Int.reduceLE, Int.reduceBEq, Int.reduceToNat, Int.toNat_natCast, Int.natCast_zero, r98_C0, h1]
  | j + 1, i, hi => by
    have hmx : maxLen = 9223372036854775807 := by decide
    have h1 : ((i : Int) < (a.size : Int)) = True := eq_true (by omega)
    have h0 : (0 ≤ (i : Int)) = True := eq_true (by omega)
    obtain ⟨a1, a2, a3⟩ := get_data (a := a) (i := i) (by omega)
    rw [r98_B0_eq, a3]
    by_cases hb : i < b.size
    · have h2 : ((i : Int) < (b.size : Int)) = True := eq_true (by omega)
      obtain ⟨b1, b2, b3⟩ := get_data (a := b) (i := i) hb
      rw [b3]
      by_cases he : a[i] = b[i]
      · have g1 : ((a[i].toNat : Int) != (b[i].toNat : Int)) = false := by simp [he]
        have ih := text_loop a b hla j (i + 1) (by omega)
        simp only [mism, if_pos he]
        simp (disch := omega) only [go_sem, and_self, and_true, true_and, false_and, and_false, Nat.reduceAdd, Nat.reduceMul, Nat.reduceSub, Nat.reduceLeDiff, Nat.reduceLT, Nat.reduceGT, Nat.reduceEqDiff, Nat.reduceBEq, Int.reduceNeg, Int.reduceEq, Int.reduceLT, Int.reduceLE, Int.reduceBEq, Int.reduceToNat, Int.toNat_natCast, Int.natCast_zero, r98_C0, h0, h1, h2, a1, b1, g1, w64]
        exact ih
      · have hne : a[i].toNat ≠ b[i].toNat := fun hh => he (UInt8.toNat_inj.1 hh)
        have g1 : ((a[i].toNat : Int) != (b[i].toNat : Int)) = true := by simp; omega
        have u1 : a[i].toNat < 256 := UInt8.toNat_lt _
        have u2 : b[i].toNat < 256 := UInt8.toNat_lt _
        have hs := sign7_ok a[i].toNat b[i].toNat
        simp only [mism, if_neg he]
        simp (disch := omega) only [go_sem, and_self, and_true, true_and, false_and, and_false, Nat.reduceAdd, Nat.reduceMul, Nat.reduceSub, Nat.reduceLeDiff, Nat.reduceLT, Nat.reduceGT, Nat.reduceEqDiff, Nat.reduceBEq, Int.reduceNeg, Int.reduceEq, Int.reduceLT, Int.reduceLE, Int.reduceBEq, Int.reduceToNat, Int.toNat_natCast, Int.natCast_zero, r98_C0, h0, h1, h2, a1, b1, g1, w64, hs]
    · have h2 : ((i : Int) < (b.size : Int)) = False := eq_false (by omega)
      rw [List.drop_of_length_le (by rw [size_data]; omega : b.data.toList.length ≤ i)]
      simp only [mism]
      simp (disch := omega) only [go_sem, and_self, and_true, true_and, false_and, and_false, Nat.reduceAdd, Nat.reduceMul, Nat.reduceSub, Nat.reduceLeDiff, Nat.reduceLT, Nat.reduceGT, Nat.reduceEqDiff, Nat.reduceBEq, Int.reduceNeg, Int.reduceEq, Int.reduceLT, Int.reduceLE, Int.reduceBEq, Int.reduceToNat, Int.toNat_natCast, Int.natCast_zero, r98_C0, h0, h1, h2]

theorem text_ok (a b : ByteArray) (hla : a.size ≤ maxLen) (hp : List Ent) : F tab 98 [.d (.str a), .d (.str b)] hp = some (.ret (.d (iv (txt a b))) hp) := by
  refine f98 rfl ?_
  have hL := text_loop a b hla a.size 0 (by omega)
  have hs := sign7_ok a.size b.size
  simp (disch := omega) only [go_sem, and_self, and_true, true_and, false_and, and_false, Nat.reduceAdd, Nat.reduceMul, Nat.reduceSub, Nat.reduceLeDiff, Nat.reduceLT, Nat.reduceGT, Nat.reduceEqDiff, Nat.reduceBEq, Int.reduceNeg, Int.reduceEq, Int.reduceLT, Int.reduceLE, Int.reduceBEq, Int.reduceToNat, Int.toNat_natCast, Int.natCast_zero, r98_T, r98]
  rw [r98_B0_n]
  erw [hL]
  simp only [List.drop_zero]
  unfold txt txtL
  cases mism a.data.toList b.data.toList with
  | some r => simp (disch := omega) only [go_sem, and_self, and_true, true_and, false_and, and_false, Nat.reduceAdd, Nat.reduceMul, Nat.reduceSub, Nat.reduceLeDiff, Nat.reduceLT, Nat.reduceGT, Nat.reduceEqDiff, Nat.reduceBEq, Int.reduceNeg, Int.reduceEq, Int.reduceLT, Int.reduceLE, Int.reduceBEq, Int.reduceToNat, Int.toNat_natCast, Int.natCast_zero, Option.getD_some]
  | none => simp (disch := omega) only [go_sem, and_self, and_true, true_and, false_and, and_false, Nat.reduceAdd, Nat.reduceMul, Nat.reduceSub, Nat.reduceLeDiff, Nat.reduceLT, Nat.reduceGT, Nat.reduceEqDiff, Nat.reduceBEq, Int.reduceNeg, Int.reduceEq, Int.reduceLT, Int.reduceLE, Int.reduceBEq, Int.reduceToNat, Int.toNat_natCast, Int.natCast_zero, Option.getD_none, size_data, hs]
end Go.Pe.T

namespace Go.Pe.T

/-! ### rows of texts -/

def keysO : List ByteArray → List ByteArray → Option Int
  | x :: a, y :: b => if txt x y = 0 then keysO a b else some (txt x y)
  | _, _ => none
def keysC (a b : List ByteArray) : Int := (keysO a b).getD (sgn a.length b.length)

theorem str_get {l : List ByteArray} {i : Nat} (h : i < l.length) : (l.map D.str)[i]? = some (.str l[i]) := by simp [h]

theorem keys_loop (a b : List ByteArray) (hla : a.length ≤ maxLen) (hs : ∀ x ∈ a, x.size ≤ maxLen) : ∀ (j i : Nat), i + j = a.length →
    V (F tab) r99_B0 (r99_S0 (.d (.sl (a.map D.str))) (.d (.sl (b.map D.str))) (.d (iv i)) []) =
      match keysO (a.drop i) (b.drop i) with
      | some r => some (.ret, r99_R (.d (iv r)) [])
      | none => some (.norm, r99_E0 (.d (.sl (a.map D.str))) (.d (.sl (b.map D.str))) [])
  | 0, i, hi => by
    have h1 : ((i : Int) < (a.length : Int)) = False := eq_false (by omega)
    rw [r99_B0_eq, List.drop_of_length_le (by omega : a.length ≤ i)]
    have e : keysO [] (b.drop i) = none := by simp [keysO]
    rw [e]
    simp only [go_sem, and_self, and_true, true_and, false_and, and_false, Nat.reduceAdd, Nat.reduceMul, Nat.reduceSub, Nat.reduceLeDiff, Nat.reduceLT, Nat.reduceGT, Nat.reduceEqDiff, Nat.reduceBEq, Int.reduceNeg, Int.reduceEq, Int.reduceLT, Int.reduceLE, Int.reduceBEq, Int.reduceToNat, Int.toNat_natCast, Int.natCast_zero, r99_C0, List.length_map, h1]
  | j + 1, i, hi => by
    have hmx : maxLen = 9223372036854775807 := by decide
    have hlt : i < a.length := by omega
    have h1 : ((i : Int) < (a.length : Int)) = True := eq_true (by omega)
    have h0 : (0 ≤ (i : Int)) = True := eq_true (by omega)
    rw [r99_B0_eq, List.drop_eq_getElem_cons hlt]
    by_cases hb : i < b.length
    · have h2 : ((i : Int) < (b.length : Int)) = True := eq_true (by omega)
      have ht := text_ok a[i] b[i] (hs _ (List.getElem_mem hlt))
      rw [List.drop_eq_getElem_cons hb]
      by_cases he : txt a[i] b[i] = 0
      · have g1 : (txt a[i] b[i] != 0) = false := by simp [he]
        have ih := keys_loop a b hla hs j (i + 1) (by omega)
        simp only [keysO, if_pos he]
        simp (disch := omega) only [go_sem, and_self, and_true, true_and, false_and, and_false, Nat.reduceAdd, Nat.reduceMul, Nat.reduceSub, Nat.reduceLeDiff, Nat.reduceLT, Nat.reduceGT, Nat.reduceEqDiff, Nat.reduceBEq, Int.reduceNeg, Int.reduceEq, Int.reduceLT, Int.reduceLE, Int.reduceBEq, Int.reduceToNat, Int.toNat_natCast, Int.natCast_zero, r99_C0, List.length_map, h0, h1, h2, str_get hlt, str_get hb, ht, g1, w64]
        exact ih
      · have g1 : (txt a[i] b[i] != 0) = true := by simp [he]
        simp only [keysO, if_neg he]
        simp (disch := omega) only [go_sem, and_self, and_true, true_and, false_and, and_false, Nat.reduceAdd, Nat.reduceMul, Nat.reduceSub, Nat.reduceLeDiff, Nat.reduceLT, Nat.reduceGT, Nat.reduceEqDiff, Nat.reduceBEq, Int.reduceNeg, Int.reduceEq, Int.reduceLT, Int.reduceLE, Int.reduceBEq, Int.reduceToNat, Int.toNat_natCast, Int.natCast_zero, r99_C0, List.length_map, h0, h1, h2, str_get hlt, str_get hb, ht, g1, w64]
    · have h2 : ((i : Int) < (b.length : Int)) = False := eq_false (by omega)
      rw [List.drop_of_length_le (by omega : b.length ≤ i)]
      simp only [keysO]
      simp (disch := omega) only [go_sem, and_self, and_true, true_and, false_and, and_false, Nat.reduceAdd, Nat.reduceMul, Nat.reduceSub, Nat.reduceLeDiff, Nat.reduceLT, Nat.reduceGT, Nat.reduceEqDiff, Nat.reduceBEq, Int.reduceNeg, Int.reduceEq, Int.reduceLT, Int.reduceLE, Int.reduceBEq, Int.reduceToNat, Int.toNat_natCast, Int.natCast_zero, r99_C0, List.length_map, h0, h1, h2]

theorem keys_ok (a b : List ByteArray) (hla : a.length ≤ maxLen) (hs : ∀ x ∈ a, x.size ≤ maxLen) (hp : List Ent) : F tab 99 [.d (.sl (a.map D.str)), .d (.sl (b.map D.str))] hp = some (.ret (.d (iv (keysC a b))) hp) := by
  refine f99 rfl ?_
  have hL := keys_loop a b hla hs a.length 0 (by omega)
  have hs := sign7_ok a.length b.length
  simp (disch := omega) only [go_sem, and_self, and_true, true_and, false_and, and_false, Nat.reduceAdd, Nat.reduceMul, Nat.reduceSub, Nat.reduceLeDiff, Nat.reduceLT, Nat.reduceGT, Nat.reduceEqDiff, Nat.reduceBEq, Int.reduceNeg, Int.reduceEq, Int.reduceLT, Int.reduceLE, Int.reduceBEq, Int.reduceToNat, Int.toNat_natCast, Int.natCast_zero, r99_T, r99]
  rw [r99_B0_n]
  erw [hL]
  simp only [List.drop_zero]
  unfold keysC
  cases keysO a b with
  | some r => simp (disch := omega) only [go_sem, and_self, and_true, true_and, false_and, and_false, Nat.reduceAdd, Nat.reduceMul, Nat.reduceSub, Nat.reduceLeDiff, Nat.reduceLT, Nat.reduceGT, Nat.reduceEqDiff, Nat.reduceBEq, Int.reduceNeg, Int.reduceEq, Int.reduceLT, Int.reduceLE, Int.reduceBEq, Int.reduceToNat, Int.toNat_natCast, Int.natCast_zero, Option.getD_some]
  | none => simp (disch := omega) only [go_sem, and_self, and_true, true_and, false_and, and_false, Nat.reduceAdd, Nat.reduceMul, Nat.reduceSub, Nat.reduceLeDiff, Nat.reduceLT, Nat.reduceGT, Nat.reduceEqDiff, Nat.reduceBEq, Int.reduceNeg, Int.reduceEq, Int.reduceLT, Int.reduceLE, Int.reduceBEq, Int.reduceToNat, Int.toNat_natCast, Int.natCast_zero, Option.getD_none, List.length_map, hs]
end Go.Pe.T

namespace Go.Pe.T

/-! ### slices.Compare of texts -/

theorem scmp_loop (a b : List ByteArray) (hla : a.length ≤ maxLen) : ∀ (j i : Nat), i + j = a.length → i ≤ b.length →
    V (F tab) r93_B0 (r93_S0 (.d (.sl (a.map D.str))) (.d (.sl (b.map D.str))) (.d (.sl (a.map D.str))) (.d (iv a.length)) (.d (iv i)) []) =
      match keysO (a.drop i) (b.drop i) with
      | some r => some (.ret, r93_R (.d (iv r)) [])
      | none => if a.length ≤ b.length then some (.norm, r93_E0 (.d (.sl (a.map D.str))) (.d (.sl (b.map D.str))) []) else some (.ret, r93_R (.d (iv 1)) [])
  | 0, i, hi, hib => by
    have h1 : ((i : Int) < (a.length : Int)) = False := eq_false (by omega)
    rw [r93_B0_eq, List.drop_of_length_le (by omega : a.length ≤ i)]
    have e : keysO [] (b.drop i) = none := by simp [keysO]
    rw [e]
    simp only [if_pos (show a.length ≤ b.length by omega)]
    simp only [go_sem, and_self, and_true, true_and, false_and, and_false, Nat.reduceAdd, Nat.reduceMul, Nat.reduceSub, Nat.reduceLeDiff, Nat.reduceLT, Nat.reduceGT, Nat.reduceEqDiff, Nat.reduceBEq, Int.reduceNeg, Int.reduceEq, Int.reduceLT, Int.reduceLE, Int.reduceBEq, Int.reduceToNat, Int.toNat_natCast, Int.natCast_zero, r93_C0, List.length_map, h1]
  | j + 1, i, hi, hib => by
    have hmx : maxLen = 9223372036854775807 := by decide
    have hlt : i < a.length := by omega
    have h1 : ((i : Int) < (a.length : Int)) = True := eq_true (by omega)
    have h0 : (0 ≤ (i : Int)) = True := eq_true (by omega)
    rw [r93_B0_eq, List.drop_eq_getElem_cons hlt]
    by_cases hb : i < b.length
    · have h2 : ((i : Int) ≥ (b.length : Int)) = False := eq_false (by omega)
      have ht := cmps_ok a[i] b[i]
      rw [List.drop_eq_getElem_cons hb]
      by_cases he : txt a[i] b[i] = 0
      · have g1 : (txt a[i] b[i] != 0) = false := by simp [he]
        have ih := scmp_loop a b hla j (i + 1) (by omega) (by omega)
        simp only [keysO, if_pos he]
        simp (disch := omega) only [go_sem, and_self, and_true, true_and, false_and, and_false, Nat.reduceAdd, Nat.reduceMul, Nat.reduceSub, Nat.reduceLeDiff, Nat.reduceLT, Nat.reduceGT, Nat.reduceEqDiff, Nat.reduceBEq, Int.reduceNeg, Int.reduceEq, Int.reduceLT, Int.reduceLE, Int.reduceBEq, Int.reduceToNat, Int.toNat_natCast, Int.natCast_zero, r93_C0, List.length_map, h0, h1, h2, str_get hlt, str_get hb, ht, g1, w64]
        exact ih
      · have g1 : (txt a[i] b[i] != 0) = true := by simp [he]
        simp only [keysO, if_neg he]
        simp (disch := omega) only [go_sem, and_self, and_true, true_and, false_and, and_false, Nat.reduceAdd, Nat.reduceMul, Nat.reduceSub, Nat.reduceLeDiff, Nat.reduceLT, Nat.reduceGT, Nat.reduceEqDiff, Nat.reduceBEq, Int.reduceNeg, Int.reduceEq, Int.reduceLT, Int.reduceLE, Int.reduceBEq, Int.reduceToNat, Int.toNat_natCast, Int.natCast_zero, r93_C0, List.length_map, h0, h1, h2, str_get hlt, str_get hb, ht, g1, w64]
    · have h2 : ((i : Int) ≥ (b.length : Int)) = True := eq_true (by omega)
      rw [List.drop_of_length_le (by omega : b.length ≤ i)]
      simp only [keysO, if_neg (show ¬ a.length ≤ b.length by omega)]
      simp (disch := omega) only [go_sem, and_self, and_true, true_and, false_and, and_false, Nat.reduceAdd, Nat.reduceMul, Nat.reduceSub, Nat.reduceLeDiff, Nat.reduceLT, Nat.reduceGT, Nat.reduceEqDiff, Nat.reduceBEq, Int.reduceNeg, Int.reduceEq, Int.reduceLT, Int.reduceLE, Int.reduceBEq, Int.reduceToNat, Int.toNat_natCast, Int.natCast_zero, r93_C0, List.length_map, h0, h1, h2, str_get hlt]

theorem scmp_ok (a b : List ByteArray) (hla : a.length ≤ maxLen) (hp : List Ent) : F tab 93 [.d (.sl (a.map D.str)), .d (.sl (b.map D.str))] hp = some (.ret (.d (iv (keysC a b))) hp) := by
  refine f93 rfl ?_
  have hL := scmp_loop a b hla a.length 0 (by omega) (by omega)
  simp (disch := omega) only [go_sem, and_self, and_true, true_and, false_and, and_false, Nat.reduceAdd, Nat.reduceMul, Nat.reduceSub, Nat.reduceLeDiff, Nat.reduceLT, Nat.reduceGT, Nat.reduceEqDiff, Nat.reduceBEq, Int.reduceNeg, Int.reduceEq, Int.reduceLT, Int.reduceLE, Int.reduceBEq, Int.reduceToNat, Int.toNat_natCast, Int.natCast_zero, r93_T, r93, List.length_map]
  rw [r93_B0_n]
  erw [hL]
  simp only [List.drop_zero]
  unfold keysC
  cases keysO a b with
  | some r => simp (disch := omega) only [go_sem, and_self, and_true, true_and, false_and, and_false, Nat.reduceAdd, Nat.reduceMul, Nat.reduceSub, Nat.reduceLeDiff, Nat.reduceLT, Nat.reduceGT, Nat.reduceEqDiff, Nat.reduceBEq, Int.reduceNeg, Int.reduceEq, Int.reduceLT, Int.reduceLE, Int.reduceBEq, Int.reduceToNat, Int.toNat_natCast, Int.natCast_zero, Option.getD_some]
  | none =>
    simp only [Option.getD_none]
    by_cases h : a.length ≤ b.length
    · rw [if_pos h]
      by_cases h2 : a.length < b.length
      · have g : ((a.length : Int) < (b.length : Int)) = True := eq_true (by omega)
        have e : sgn (a.length : Int) b.length = -1 := by unfold sgn; rw [if_pos (by omega)]
        simp (disch := omega) only [go_sem, and_self, and_true, true_and, false_and, and_false, Nat.reduceAdd, Nat.reduceMul, Nat.reduceSub, Nat.reduceLeDiff, Nat.reduceLT, Nat.reduceGT, Nat.reduceEqDiff, Nat.reduceBEq, Int.reduceNeg, Int.reduceEq, Int.reduceLT, Int.reduceLE, Int.reduceBEq, Int.reduceToNat, Int.toNat_natCast, Int.natCast_zero, List.length_map, g, e]
      · have g : ((a.length : Int) < (b.length : Int)) = False := eq_false (by omega)
        have e : sgn (a.length : Int) b.length = 0 := by unfold sgn; rw [if_neg (by omega), if_neg (by omega)]
        simp (disch := omega) only [go_sem, and_self, and_true, true_and, false_and, and_false, Nat.reduceAdd, Nat.reduceMul, Nat.reduceSub, Nat.reduceLeDiff, Nat.reduceLT, Nat.reduceGT, Nat.reduceEqDiff, Nat.reduceBEq, Int.reduceNeg, Int.reduceEq, Int.reduceLT, Int.reduceLE, Int.reduceBEq, Int.reduceToNat, Int.toNat_natCast, Int.natCast_zero, List.length_map, g, e]
    · rw [if_neg h]
      have e : sgn (a.length : Int) b.length = 1 := by unfold sgn; rw [if_neg (by omega), if_pos (by omega)]
      simp (disch := omega) only [go_sem, and_self, and_true, true_and, false_and, and_false, Nat.reduceAdd, Nat.reduceMul, Nat.reduceSub, Nat.reduceLeDiff, Nat.reduceLT, Nat.reduceGT, Nat.reduceEqDiff, Nat.reduceBEq, Int.reduceNeg, Int.reduceEq, Int.reduceLT, Int.reduceLE, Int.reduceBEq, Int.reduceToNat, Int.toNat_natCast, Int.natCast_zero, e]
end Go.Pe.T

namespace Go.Pe.T

/-! ### law07 light -/

def lightA (l : List Val) : Bool := l.all fun v => lightV v 6000
def lightL (l : List Val) : Bool := lightA (l.take 20) && decide (l.length ≤ 12)

theorem light7_loop (l : List Val) (hl : l.length ≤ maxLen) (hk : Val.oks l) : ∀ (j i : Nat), i + j = min l.length 20 →
    V (F tab) r15_B0 (r15_S0 (.d (.sl (Val.encs l))) (.d (iv i)) []) =
      if lightA ((l.take 20).drop i) then some (.norm, r15_E0 (.d (.sl (Val.encs l))) []) else some (.ret, r15_R (.d (.bool false)) [])
  | 0, i, hi => by
    rw [r15_B0_eq, List.drop_of_length_le (by simp; omega)]
    by_cases h : i < l.length
    · have h1 : ((i : Int) < (l.length : Int)) = True := eq_true (by omega)
      have h2 : ((i : Int) < 20) = False := eq_false (by omega)
      simp only [go_sem, and_self, and_true, true_and, false_and, and_false, Nat.reduceAdd, Nat.reduceMul, Nat.reduceSub, Nat.reduceLeDiff, Nat.reduceLT, Nat.reduceGT, Nat.reduceEqDiff, Nat.reduceBEq, Int.reduceNeg, Int.reduceEq, Int.reduceLT, Int.reduceLE, Int.reduceBEq, Int.reduceToNat, Int.toNat_natCast, Int.natCast_zero, r15_C0, encs_len, h1, h2, lightA]
    · have h1 : ((i : Int) < (l.length : Int)) = False := eq_false (by omega)
      simp only [go_sem, and_self, and_true, true_and, false_and, and_false, Nat.reduceAdd, Nat.reduceMul, Nat.reduceSub, Nat.reduceLeDiff, Nat.reduceLT, Nat.reduceGT, Nat.reduceEqDiff, Nat.reduceBEq, Int.reduceNeg, Int.reduceEq, Int.reduceLT, Int.reduceLE, Int.reduceBEq, Int.reduceToNat, Int.toNat_natCast, Int.natCast_zero, r15_C0, encs_len, h1, lightA]
  | j + 1, i, hi => by
    have hmx : maxLen = 9223372036854775807 := by decide
    have hlt : i < l.length := by omega
    have h1 : ((i : Int) < (l.length : Int)) = True := eq_true (by omega)
    have h2 : ((i : Int) < 20) = True := eq_true (by omega)
    have h0 : (0 ≤ (i : Int)) = True := eq_true (by omega)
    have h3 : (Val.encs l)[i]? = some (l[i].enc) := by rw [encs_get]; simp [hlt]
    have hv := light_ok (v := l[i]) (most := 6000) (oks_mem hk (List.getElem_mem hlt)) (by omega)
    have ih := light7_loop l hl hk j (i + 1) (by omega)
    have e : (l.take 20).drop i = l[i] :: (l.take 20).drop (i + 1) := by
      rw [List.drop_eq_getElem_cons (by simp; omega)]
      simp
    have e2 : lightA (l[i] :: (l.take 20).drop (i + 1)) = (lightV l[i] 6000 && lightA ((l.take 20).drop (i + 1))) := rfl
    rw [r15_B0_eq, e, e2]
    rcases Bool.eq_false_or_eq_true (lightV l[i] 6000) with hx | hx
    · rw [hx, Bool.true_and]
      simp (disch := omega) only [go_sem, and_self, and_true, true_and, false_and, and_false, Nat.reduceAdd, Nat.reduceMul, Nat.reduceSub, Nat.reduceLeDiff, Nat.reduceLT, Nat.reduceGT, Nat.reduceEqDiff, Nat.reduceBEq, Int.reduceNeg, Int.reduceEq, Int.reduceLT, Int.reduceLE, Int.reduceBEq, Int.reduceToNat, Int.toNat_natCast, Int.natCast_zero, r15_C0, encs_len, h0, h1, h2, h3, enc_w, enc_a, hv, hx, w64]
      exact ih
    · rw [hx, Bool.false_and]
      simp (disch := omega) only [go_sem, and_self, and_true, true_and, false_and, and_false, Nat.reduceAdd, Nat.reduceMul, Nat.reduceSub, Nat.reduceLeDiff, Nat.reduceLT, Nat.reduceGT, Nat.reduceEqDiff, Nat.reduceBEq, Int.reduceNeg, Int.reduceEq, Int.reduceLT, Int.reduceLE, Int.reduceBEq, Int.reduceToNat, Int.toNat_natCast, Int.natCast_zero, r15_C0, encs_len, h0, h1, h2, h3, enc_w, enc_a, hv, hx, w64]

theorem light7_ok (l : List Val) (hl : l.length ≤ maxLen) (hk : Val.oks l) (hp : List Ent) : F tab 15 [.d (.sl (Val.encs l))] hp = some (.ret (.d (.bool (lightL l))) hp) := by
  refine f15 rfl ?_
  have hL := light7_loop l hl hk (min l.length 20) 0 (by omega)
  simp (disch := omega) only [go_sem, and_self, and_true, true_and, false_and, and_false, Nat.reduceAdd, Nat.reduceMul, Nat.reduceSub, Nat.reduceLeDiff, Nat.reduceLT, Nat.reduceGT, Nat.reduceEqDiff, Nat.reduceBEq, Int.reduceNeg, Int.reduceEq, Int.reduceLT, Int.reduceLE, Int.reduceBEq, Int.reduceToNat, Int.toNat_natCast, Int.natCast_zero, r15_T, r15]
  rw [r15_B0_n]
  erw [hL]
  rw [List.drop_zero]
  unfold lightL
  rcases Bool.eq_false_or_eq_true (lightA (l.take 20)) with hx | hx
  · have h : decide ((l.length : Int) ≤ 12) = decide (l.length ≤ 12) := by
      by_cases h : l.length ≤ 12
      · have : (l.length : Int) ≤ 12 := by omega
        simp [h, this]
      · have : ¬ (l.length : Int) ≤ 12 := by omega
        simp [h, this]
    simp (disch := omega) only [go_sem, and_self, and_true, true_and, false_and, and_false, Nat.reduceAdd, Nat.reduceMul, Nat.reduceSub, Nat.reduceLeDiff, Nat.reduceLT, Nat.reduceGT, Nat.reduceEqDiff, Nat.reduceBEq, Int.reduceNeg, Int.reduceEq, Int.reduceLT, Int.reduceLE, Int.reduceBEq, Int.reduceToNat, Int.toNat_natCast, Int.natCast_zero, hx, encs_len, h]
  · simp (disch := omega) only [go_sem, and_self, and_true, true_and, false_and, and_false, Nat.reduceAdd, Nat.reduceMul, Nat.reduceSub, Nat.reduceLeDiff, Nat.reduceLT, Nat.reduceGT, Nat.reduceEqDiff, Nat.reduceBEq, Int.reduceNeg, Int.reduceEq, Int.reduceLT, Int.reduceLE, Int.reduceBEq, Int.reduceToNat, Int.toNat_natCast, Int.natCast_zero, hx]
end Go.Pe.T

namespace Go.Pe.T

/-! ### order: the walk -/

def cleanN (c s : Int) : Int × Int := if numIs c s then (c, s) else (0, 0)
def flatS (c s : Int) : Int := flatN (cleanN c s).1 (cleanN c s).2.toNat

mutual
/-- what is told of two values, and how many pairs may be looked at still -/
def cmpV : Val → Val → Int → Int × Int
  | .mk k c s t xs ks, .mk k' c' s' t' ys ks', left =>
    if left - 1 < 0 then (0, left - 1)
    else if sgn (rankOf k) (rankOf k') ≠ 0 then (sgn (rankOf k) (rankOf k'), left - 1)
    else if k = 3 then (sgn (flatS c s) (flatS c' s'), left - 1)
    else if k = 4 ∨ k = 7 then (txt t t', left - 1)
    else if k = 5 then cmpVs xs ys (left - 1)
    else if k = 6 then (if keysC ks ks' ≠ 0 then (keysC ks ks', left - 1) else cmpVs xs ys (left - 1))
    else (0, left - 1)
def cmpVs : List Val → List Val → Int → Int × Int
  | x :: a, y :: b, left => if (cmpV x y left).1 ≠ 0 ∨ (cmpV x y left).2 < 0 then cmpV x y left else cmpVs a b (cmpV x y left).2
  | a, b, left => (sgn a.length b.length, left)
end

theorem items_loop (a b : List Val) (hla : a.length ≤ maxLen) (left0 : Int)
    (ih : ∀ x ∈ a, ∀ y ∈ b, ∀ left, 0 ≤ left → left ≤ 5000 → -1 ≤ (cmpV x y left).2 ∧ (cmpV x y left).2 ≤ 5000 ∧ F tab 57 [.ptr 0 0, .d x.enc, .d y.enc] [.box [.d (iv left)]] = some (.ret (.d (iv (cmpV x y left).1)) [.box [.d (iv (cmpV x y left).2)]])) :
    ∀ (j i : Nat) (left : Int), i + j = min a.length b.length → 0 ≤ left → left ≤ 5000 →
    -1 ≤ (cmpVs (a.drop i) (b.drop i) left).2 ∧ (cmpVs (a.drop i) (b.drop i) left).2 ≤ 5000 ∧
    (V (F tab) r92_B0 (r92_S0 (.ptr 0 0) (.d (.sl (Val.encs a))) (.d (.sl (Val.encs b))) (.d (iv (min a.length b.length : Nat))) (.d (iv i)) [.box [.d (iv left)]]) =
      some (.norm, r92_E0 (.d (.sl (Val.encs a))) (.d (.sl (Val.encs b))) [.box [.d (iv (cmpVs (a.drop i) (b.drop i) left).2)]]) ∧ (cmpVs (a.drop i) (b.drop i) left).1 = sgn a.length b.length ∨
     V (F tab) r92_B0 (r92_S0 (.ptr 0 0) (.d (.sl (Val.encs a))) (.d (.sl (Val.encs b))) (.d (iv (min a.length b.length : Nat))) (.d (iv i)) [.box [.d (iv left)]]) =
      some (.ret, r92_R (.d (iv (cmpVs (a.drop i) (b.drop i) left).1)) [.box [.d (iv (cmpVs (a.drop i) (b.drop i) left).2)]]))
  | 0, i, left, hi, h0, h5 => by
    have h1 : ((i : Int) < ((min a.length b.length : Nat) : Int)) = False := eq_false (by omega)
    have e : cmpVs (a.drop i) (b.drop i) left = (sgn (a.drop i).length (b.drop i).length, left) := by
      rcases Nat.le_total a.length b.length with h | h
      · rw [List.drop_of_length_le (by omega : a.length ≤ i)]; simp [cmpVs]
      · rw [List.drop_of_length_le (by omega : b.length ≤ i)]; cases a.drop i <;> simp [cmpVs]
    rw [e]
    refine ⟨by simp; omega, h5, .inl ⟨?_, ?_⟩⟩
    · rw [r92_B0_eq]
      simp only [go_sem, and_self, and_true, true_and, false_and, and_false, Nat.reduceAdd, Nat.reduceMul, Nat.reduceSub, Nat.reduceLeDiff, Nat.reduceLT, Nat.reduceGT, Nat.reduceEqDiff, Nat.reduceBEq, Int.reduceNeg, Int.reduceEq, Int.reduceLT, Int.reduceLE, Int.reduceBEq, Int.reduceToNat, Int.toNat_natCast, Int.natCast_zero, r92_C0, h1]
    · simp only [List.length_drop]
      unfold sgn
      split <;> split <;> (try split) <;> omega
  | j + 1, i, left, hi, h0, h5 => by
    have hmx : maxLen = 9223372036854775807 := by decide
    have ga : i < a.length := by omega
    have gb : i < b.length := by omega
    have h1 : ((i : Int) < ((min a.length b.length : Nat) : Int)) = True := eq_true (by omega)
    have hi0 : (0 ≤ (i : Int)) = True := eq_true (by omega)
    have va : (Val.encs a)[i]? = some (a[i].enc) := by rw [encs_get]; simp [ga]
    have vb : (Val.encs b)[i]? = some (b[i].enc) := by rw [encs_get]; simp [gb]
    obtain ⟨c1, c2, c3⟩ := ih a[i] (List.getElem_mem ga) b[i] (List.getElem_mem gb) left h0 h5
    rw [List.drop_eq_getElem_cons ga, List.drop_eq_getElem_cons gb]
    simp only [cmpVs]
    generalize cmpV a[i] b[i] left = r at *
    obtain ⟨c, l⟩ := r
    simp only at c1 c2 c3 ⊢
    rw [r92_B0_eq]
    by_cases hc : c = 0
    · have g1 : (c != 0) = false := by simp [hc]
      by_cases hl : l < 0
      · rw [if_pos (Or.inr hl)]
        refine ⟨c1, c2, .inr ?_⟩
        simp (disch := omega) only [go_sem, and_self, and_true, true_and, false_and, and_false, Nat.reduceAdd, Nat.reduceMul, Nat.reduceSub, Nat.reduceLeDiff, Nat.reduceLT, Nat.reduceGT, Nat.reduceEqDiff, Nat.reduceBEq, Int.reduceNeg, Int.reduceEq, Int.reduceLT, Int.reduceLE, Int.reduceBEq, Int.reduceToNat, Int.toNat_natCast, Int.natCast_zero, r92_C0, h1, hi0, va, vb, enc_w, enc_a, c3, g1, hl, w64]
      · rw [if_neg (by omega)]
        have hx := items_loop a b hla left0 ih j (i + 1) l (by omega) (by omega) c2
        refine ⟨hx.1, hx.2.1, ?_⟩
        simp (disch := omega) only [go_sem, and_self, and_true, true_and, false_and, and_false, Nat.reduceAdd, Nat.reduceMul, Nat.reduceSub, Nat.reduceLeDiff, Nat.reduceLT, Nat.reduceGT, Nat.reduceEqDiff, Nat.reduceBEq, Int.reduceNeg, Int.reduceEq, Int.reduceLT, Int.reduceLE, Int.reduceBEq, Int.reduceToNat, Int.toNat_natCast, Int.natCast_zero, r92_C0, h1, hi0, va, vb, enc_w, enc_a, c3, g1, hl, w64]
        exact hx.2.2
    · have g1 : (c != 0) = true := by simp [hc]
      rw [if_pos (Or.inl hc)]
      refine ⟨c1, c2, .inr ?_⟩
      simp (disch := omega) only [go_sem, and_self, and_true, true_and, false_and, and_false, Nat.reduceAdd, Nat.reduceMul, Nat.reduceSub, Nat.reduceLeDiff, Nat.reduceLT, Nat.reduceGT, Nat.reduceEqDiff, Nat.reduceBEq, Int.reduceNeg, Int.reduceEq, Int.reduceLT, Int.reduceLE, Int.reduceBEq, Int.reduceToNat, Int.toNat_natCast, Int.natCast_zero, r92_C0, h1, hi0, va, vb, enc_w, enc_a, c3, g1, w64]
end Go.Pe.T

namespace Go.Pe.T

theorem items_ok (a b : List Val) (hla : a.length ≤ maxLen)
    (ih : ∀ x ∈ a, ∀ y ∈ b, ∀ left, 0 ≤ left → left ≤ 5000 → -1 ≤ (cmpV x y left).2 ∧ (cmpV x y left).2 ≤ 5000 ∧ F tab 57 [.ptr 0 0, .d x.enc, .d y.enc] [.box [.d (iv left)]] = some (.ret (.d (iv (cmpV x y left).1)) [.box [.d (iv (cmpV x y left).2)]]))
    (left : Int) (h0 : 0 ≤ left) (h5 : left ≤ 5000) :
    -1 ≤ (cmpVs a b left).2 ∧ (cmpVs a b left).2 ≤ 5000 ∧ F tab 92 [.ptr 0 0, .d (.sl (Val.encs a)), .d (.sl (Val.encs b))] [.box [.d (iv left)]] = some (.ret (.d (iv (cmpVs a b left).1)) [.box [.d (iv (cmpVs a b left).2)]]) := by
  obtain ⟨b1, b2, hL⟩ := items_loop a b hla left ih (min a.length b.length) 0 left (by omega) h0 h5
  rw [List.drop_zero, List.drop_zero] at b1 b2 hL
  refine ⟨b1, b2, f92 ?_⟩
  have hs := cmpi_ok a.length b.length
  have hm : (if (b.length : Int) < (a.length : Int) then (b.length : Int) else (a.length : Int)) = ((min a.length b.length : Nat) : Int) := by
    split <;> omega
  simp (disch := omega) only [go_sem, and_self, and_true, true_and, false_and, and_false, Nat.reduceAdd, Nat.reduceMul, Nat.reduceSub, Nat.reduceLeDiff, Nat.reduceLT, Nat.reduceGT, Nat.reduceEqDiff, Nat.reduceBEq, Int.reduceNeg, Int.reduceEq, Int.reduceLT, Int.reduceLE, Int.reduceBEq, Int.reduceToNat, Int.toNat_natCast, Int.natCast_zero, r92_T, r92, encs_len, hm]
  rw [r92_B0_n]
  rcases hL with ⟨hL, e⟩ | hL
  · erw [hL]
    rw [e]
    simp (disch := omega) only [go_sem, and_self, and_true, true_and, false_and, and_false, Nat.reduceAdd, Nat.reduceMul, Nat.reduceSub, Nat.reduceLeDiff, Nat.reduceLT, Nat.reduceGT, Nat.reduceEqDiff, Nat.reduceBEq, Int.reduceNeg, Int.reduceEq, Int.reduceLT, Int.reduceLE, Int.reduceBEq, Int.reduceToNat, Int.toNat_natCast, Int.natCast_zero, encs_len, hs]
  · erw [hL]
    simp (disch := omega) only [go_sem, and_self, and_true, true_and, false_and, and_false, Nat.reduceAdd, Nat.reduceMul, Nat.reduceSub, Nat.reduceLeDiff, Nat.reduceLT, Nat.reduceGT, Nat.reduceEqDiff, Nat.reduceBEq, Int.reduceNeg, Int.reduceEq, Int.reduceLT, Int.reduceLE, Int.reduceBEq, Int.reduceToNat, Int.toNat_natCast, Int.natCast_zero]
theorem cleanN_is (c s : Int) : numIs (cleanN c s).1 (cleanN c s).2 = true ∧ (cleanN c s).2 = ((cleanN c s).2.toNat : Int) := by
  unfold cleanN
  split
  · rename_i h
    obtain ⟨k, e, _⟩ := numIs_inv h
    exact ⟨h, by simp only; omega⟩
  · exact ⟨by decide, rfl⟩

theorem clean_ok2 (c s : Int) (hp : List Ent) : F tab 90 [.d (.agg [iv c, iv s])] hp = some (.ret (.d (.agg [iv (cleanN c s).1, iv (cleanN c s).2])) hp) := by
  have h := clean_ok c s hp
  unfold cleanN
  split at h <;> (rename_i hx; simp only [hx, if_true, if_false, Bool.false_eq_true]; exact h)

theorem numcmp_ok2 (c s c' s' : Int) (hp : List Ent) : F tab 89 [.d (.agg [iv (cleanN c s).1, iv (cleanN c s).2]), .d (.agg [iv (cleanN c' s').1, iv (cleanN c' s').2])] hp = some (.ret (.d (iv (sgn (flatS c s) (flatS c' s')))) hp) := by
  obtain ⟨h1, e1⟩ := cleanN_is c s
  obtain ⟨h2, e2⟩ := cleanN_is c' s'
  rw [e1] at h1
  rw [e2] at h2
  have h := numcmp_ok _ _ _ _ h1 h2 hp
  rw [← e1, ← e2] at h
  exact h

/-- what the walk says of two values, up to `left` more pairs -/
def WalkIs (x y : Val) (left : Int) : Prop :=
    -1 ≤ (cmpV x y left).2 ∧ (cmpV x y left).2 ≤ 5000 ∧ F tab 57 [.ptr 0 0, .d x.enc, .d y.enc] [.box [.d (iv left)]] = some (.ret (.d (iv (cmpV x y left).1)) [.box [.d (iv (cmpV x y left).2)]])

theorem walk_low (k c s t xs ks k' c' s' t' ys ks') (left : Int) (h0 : 0 ≤ left) (h5 : left ≤ 5000) (hl : left - 1 < 0)
    : WalkIs (.mk k c s t xs ks) (.mk k' c' s' t' ys ks') left := by

  refine ⟨by simp only [cmpV, if_pos hl, hl, if_true]; omega, by simp only [cmpV, if_pos hl, hl, if_true]; omega, f57 ?_⟩
  simp (disch := omega) only [go_sem, and_self, and_true, true_and, false_and, and_false, Nat.reduceAdd, Nat.reduceMul, Nat.reduceSub, Nat.reduceLeDiff, Nat.reduceLT, Nat.reduceGT, Nat.reduceEqDiff, Nat.reduceBEq, Int.reduceNeg, Int.reduceEq, Int.reduceLT, Int.reduceLE, Int.reduceBEq, Int.reduceToNat, Int.toNat_natCast, Int.natCast_zero, r57_T, r57, Val.enc, w64, cmpV, if_pos hl, hl, if_true]

theorem walk_rank (k c s t xs ks k' c' s' t' ys ks') (left : Int) (h0 : 0 ≤ left) (h5 : left ≤ 5000) (hl : ¬ (left - 1 < 0)) (hr : sgn (rankOf k) (rankOf k') ≠ 0)
    : WalkIs (.mk k c s t xs ks) (.mk k' c' s' t' ys ks') left := by
  have r1 := rank_ok k
  have r2 := rank_ok k'
  have r3 := cmpi_ok (rankOf k) (rankOf k')
  have g1 : (sgn (rankOf k) (rankOf k') != 0) = true := by simp [hr]
  have g1' : (sgn (rankOf k) (rankOf k') ≠ 0) = True := by simp [hr]

  refine ⟨by simp only [cmpV, hl, g1', if_false, if_true]; omega, by simp only [cmpV, hl, g1', if_false, if_true]; omega, f57 ?_⟩
  simp (disch := omega) only [go_sem, and_self, and_true, true_and, false_and, and_false, Nat.reduceAdd, Nat.reduceMul, Nat.reduceSub, Nat.reduceLeDiff, Nat.reduceLT, Nat.reduceGT, Nat.reduceEqDiff, Nat.reduceBEq, Int.reduceNeg, Int.reduceEq, Int.reduceLT, Int.reduceLE, Int.reduceBEq, Int.reduceToNat, Int.toNat_natCast, Int.natCast_zero, r57_T, r57, Val.enc, w64, cmpV, hl, g1', if_false, if_true, r1, r2, r3, g1]

theorem walk_3 (c s t xs ks k' c' s' t' ys ks') (left : Int) (h0 : 0 ≤ left) (h5 : left ≤ 5000) (hl : ¬ (left - 1 < 0)) (hr : sgn (rankOf 3) (rankOf k') = 0)
    : WalkIs (.mk 3 c s t xs ks) (.mk k' c' s' t' ys ks') left := by
  have r1 := rank_ok 3
  have r2 := rank_ok k'
  have r3 := cmpi_ok (rankOf 3) (rankOf k')
  have g1 : (sgn (rankOf 3) (rankOf k') != 0) = false := by simp [hr]
  have g1' : (sgn (rankOf 3) (rankOf k') ≠ 0) = False := by simp [hr]
  have q1 := clean_ok2 c s
  have q2 := clean_ok2 c' s'
  have q3 := numcmp_ok2 c s c' s'

  refine ⟨by simp only [cmpV, hl, g1', if_false, if_true]; omega, by simp only [cmpV, hl, g1', if_false, if_true]; omega, f57 ?_⟩
  simp (disch := omega) only [go_sem, and_self, and_true, true_and, false_and, and_false, Nat.reduceAdd, Nat.reduceMul, Nat.reduceSub, Nat.reduceLeDiff, Nat.reduceLT, Nat.reduceGT, Nat.reduceEqDiff, Nat.reduceBEq, Int.reduceNeg, Int.reduceEq, Int.reduceLT, Int.reduceLE, Int.reduceBEq, Int.reduceToNat, Int.toNat_natCast, Int.natCast_zero, r57_T, r57, Val.enc, w64, cmpV, hl, g1', if_false, if_true, r1, r2, r3, g1, q1, q2, q3]

theorem walk_4 (c s t xs ks k' c' s' t' ys ks') (left : Int) (h0 : 0 ≤ left) (h5 : left ≤ 5000) (hl : ¬ (left - 1 < 0)) (hr : sgn (rankOf 4) (rankOf k') = 0)
    : WalkIs (.mk 4 c s t xs ks) (.mk k' c' s' t' ys ks') left := by
  have r1 := rank_ok 4
  have r2 := rank_ok k'
  have r3 := cmpi_ok (rankOf 4) (rankOf k')
  have g1 : (sgn (rankOf 4) (rankOf k') != 0) = false := by simp [hr]
  have g1' : (sgn (rankOf 4) (rankOf k') ≠ 0) = False := by simp [hr]
  have p1 := cmps_ok t t'
  have k3 : ((4 : Int) = 3) = False := by simp
  have k4 : ((4 : Int) = 4) = True := by simp

  refine ⟨by simp only [cmpV, hl, g1', if_false, if_true, k3, true_or, or_true]; omega, by simp only [cmpV, hl, g1', if_false, if_true, k3, true_or, or_true]; omega, f57 ?_⟩
  simp (disch := omega) only [go_sem, and_self, and_true, true_and, false_and, and_false, Nat.reduceAdd, Nat.reduceMul, Nat.reduceSub, Nat.reduceLeDiff, Nat.reduceLT, Nat.reduceGT, Nat.reduceEqDiff, Nat.reduceBEq, Int.reduceNeg, Int.reduceEq, Int.reduceLT, Int.reduceLE, Int.reduceBEq, Int.reduceToNat, Int.toNat_natCast, Int.natCast_zero, r57_T, r57, Val.enc, w64, cmpV, hl, g1', if_false, if_true, k3, true_or, or_true, r1, r2, r3, g1, p1, k4]

theorem walk_7 (c s t xs ks k' c' s' t' ys ks') (left : Int) (h0 : 0 ≤ left) (h5 : left ≤ 5000) (hl : ¬ (left - 1 < 0)) (hr : sgn (rankOf 7) (rankOf k') = 0)
    : WalkIs (.mk 7 c s t xs ks) (.mk k' c' s' t' ys ks') left := by
  have r1 := rank_ok 7
  have r2 := rank_ok k'
  have r3 := cmpi_ok (rankOf 7) (rankOf k')
  have g1 : (sgn (rankOf 7) (rankOf k') != 0) = false := by simp [hr]
  have g1' : (sgn (rankOf 7) (rankOf k') ≠ 0) = False := by simp [hr]
  have p1 := cmps_ok t t'
  have k3 : ((7 : Int) = 3) = False := by simp
  have k4 : ((7 : Int) = 7) = True := by simp

  refine ⟨by simp only [cmpV, hl, g1', if_false, if_true, k3, true_or, or_true]; omega, by simp only [cmpV, hl, g1', if_false, if_true, k3, true_or, or_true]; omega, f57 ?_⟩
  simp (disch := omega) only [go_sem, and_self, and_true, true_and, false_and, and_false, Nat.reduceAdd, Nat.reduceMul, Nat.reduceSub, Nat.reduceLeDiff, Nat.reduceLT, Nat.reduceGT, Nat.reduceEqDiff, Nat.reduceBEq, Int.reduceNeg, Int.reduceEq, Int.reduceLT, Int.reduceLE, Int.reduceBEq, Int.reduceToNat, Int.toNat_natCast, Int.natCast_zero, r57_T, r57, Val.enc, w64, cmpV, hl, g1', if_false, if_true, k3, true_or, or_true, r1, r2, r3, g1, p1, k4]

theorem walk_5 (c s t xs ks k' c' s' t' ys ks') (left : Int) (h0 : 0 ≤ left) (h5 : left ≤ 5000) (hl : ¬ (left - 1 < 0)) (hr : sgn (rankOf 5) (rankOf k') = 0) (i1 : -1 ≤ (cmpVs xs ys (left - 1)).2 ∧ (cmpVs xs ys (left - 1)).2 ≤ 5000) (i3 : F tab 92 [.ptr 0 0, .d (.sl (Val.encs xs)), .d (.sl (Val.encs ys))] [.box [.d (iv (left - 1))]] = some (.ret (.d (iv (cmpVs xs ys (left - 1)).1)) [.box [.d (iv (cmpVs xs ys (left - 1)).2)]]))
    : WalkIs (.mk 5 c s t xs ks) (.mk k' c' s' t' ys ks') left := by
  have r1 := rank_ok 5
  have r2 := rank_ok k'
  have r3 := cmpi_ok (rankOf 5) (rankOf k')
  have g1 : (sgn (rankOf 5) (rankOf k') != 0) = false := by simp [hr]
  have g1' : (sgn (rankOf 5) (rankOf k') ≠ 0) = False := by simp [hr]
  have k3 : ((5 : Int) = 3) = False := by simp
  have k4 : ((5 : Int) = 4) = False := by simp
  have k5 : ((5 : Int) = 5) = True := by simp
  have k7 : ((5 : Int) = 7) = False := by simp

  refine ⟨by simp only [cmpV, hl, g1', if_false, if_true, k3, k4, k5, k7, or_self]; omega, by simp only [cmpV, hl, g1', if_false, if_true, k3, k4, k5, k7, or_self]; omega, f57 ?_⟩
  simp (disch := omega) only [go_sem, and_self, and_true, true_and, false_and, and_false, Nat.reduceAdd, Nat.reduceMul, Nat.reduceSub, Nat.reduceLeDiff, Nat.reduceLT, Nat.reduceGT, Nat.reduceEqDiff, Nat.reduceBEq, Int.reduceNeg, Int.reduceEq, Int.reduceLT, Int.reduceLE, Int.reduceBEq, Int.reduceToNat, Int.toNat_natCast, Int.natCast_zero, r57_T, r57, Val.enc, w64, cmpV, hl, g1', if_false, if_true, k3, k4, k5, k7, or_self, r1, r2, r3, g1, i3]

theorem walk_6a (c s t xs ks k' c' s' t' ys ks') (left : Int) (h0 : 0 ≤ left) (h5 : left ≤ 5000) (hl : ¬ (left - 1 < 0)) (hr : sgn (rankOf 6) (rankOf k') = 0) (i1 : -1 ≤ (cmpVs xs ys (left - 1)).2 ∧ (cmpVs xs ys (left - 1)).2 ≤ 5000) (i3 : F tab 92 [.ptr 0 0, .d (.sl (Val.encs xs)), .d (.sl (Val.encs ys))] [.box [.d (iv (left - 1))]] = some (.ret (.d (iv (cmpVs xs ys (left - 1)).1)) [.box [.d (iv (cmpVs xs ys (left - 1)).2)]])) (hks : ks.length ≤ maxLen) (hk : keysC ks ks' = 0)
    : WalkIs (.mk 6 c s t xs ks) (.mk k' c' s' t' ys ks') left := by
  have r1 := rank_ok 6
  have r2 := rank_ok k'
  have r3 := cmpi_ok (rankOf 6) (rankOf k')
  have g1 : (sgn (rankOf 6) (rankOf k') != 0) = false := by simp [hr]
  have g1' : (sgn (rankOf 6) (rankOf k') ≠ 0) = False := by simp [hr]
  have k3 : ((6 : Int) = 3) = False := by simp
  have k4 : ((6 : Int) = 4) = False := by simp
  have k5 : ((6 : Int) = 5) = False := by simp
  have k6 : ((6 : Int) = 6) = True := by simp
  have k7 : ((6 : Int) = 7) = False := by simp
  have p2 := scmp_ok ks ks' hks
  have f1 : (keysC ks ks' != 0) = false := by simp [hk]
  have f1' : (keysC ks ks' ≠ 0) = False := by simp [hk]

  refine ⟨by simp only [cmpV, hl, g1', if_false, if_true, k3, k4, k5, k6, k7, f1', or_self]; omega, by simp only [cmpV, hl, g1', if_false, if_true, k3, k4, k5, k6, k7, f1', or_self]; omega, f57 ?_⟩
  simp (disch := omega) only [go_sem, and_self, and_true, true_and, false_and, and_false, Nat.reduceAdd, Nat.reduceMul, Nat.reduceSub, Nat.reduceLeDiff, Nat.reduceLT, Nat.reduceGT, Nat.reduceEqDiff, Nat.reduceBEq, Int.reduceNeg, Int.reduceEq, Int.reduceLT, Int.reduceLE, Int.reduceBEq, Int.reduceToNat, Int.toNat_natCast, Int.natCast_zero, r57_T, r57, Val.enc, w64, cmpV, hl, g1', if_false, if_true, k3, k4, k5, k6, k7, f1', or_self, r1, r2, r3, g1, i3, p2, f1]

theorem walk_6b (c s t xs ks k' c' s' t' ys ks') (left : Int) (h0 : 0 ≤ left) (h5 : left ≤ 5000) (hl : ¬ (left - 1 < 0)) (hr : sgn (rankOf 6) (rankOf k') = 0) (hks : ks.length ≤ maxLen) (hk : keysC ks ks' ≠ 0)
    : WalkIs (.mk 6 c s t xs ks) (.mk k' c' s' t' ys ks') left := by
  have r1 := rank_ok 6
  have r2 := rank_ok k'
  have r3 := cmpi_ok (rankOf 6) (rankOf k')
  have g1 : (sgn (rankOf 6) (rankOf k') != 0) = false := by simp [hr]
  have g1' : (sgn (rankOf 6) (rankOf k') ≠ 0) = False := by simp [hr]
  have k3 : ((6 : Int) = 3) = False := by simp
  have k4 : ((6 : Int) = 4) = False := by simp
  have k5 : ((6 : Int) = 5) = False := by simp
  have k6 : ((6 : Int) = 6) = True := by simp
  have k7 : ((6 : Int) = 7) = False := by simp
  have p2 := scmp_ok ks ks' hks
  have f1 : (keysC ks ks' != 0) = true := by simp [hk]
  have f1' : (keysC ks ks' ≠ 0) = True := by simp [hk]

  refine ⟨by simp only [cmpV, hl, g1', if_false, if_true, k3, k4, k5, k6, k7, f1', or_self]; omega, by simp only [cmpV, hl, g1', if_false, if_true, k3, k4, k5, k6, k7, f1', or_self]; omega, f57 ?_⟩
  simp (disch := omega) only [go_sem, and_self, and_true, true_and, false_and, and_false, Nat.reduceAdd, Nat.reduceMul, Nat.reduceSub, Nat.reduceLeDiff, Nat.reduceLT, Nat.reduceGT, Nat.reduceEqDiff, Nat.reduceBEq, Int.reduceNeg, Int.reduceEq, Int.reduceLT, Int.reduceLE, Int.reduceBEq, Int.reduceToNat, Int.toNat_natCast, Int.natCast_zero, r57_T, r57, Val.enc, w64, cmpV, hl, g1', if_false, if_true, k3, k4, k5, k6, k7, f1', or_self, r1, r2, r3, g1, p2, f1]

theorem walk_no (k c s t xs ks k' c' s' t' ys ks') (left : Int) (h0 : 0 ≤ left) (h5 : left ≤ 5000) (hl : ¬ (left - 1 < 0)) (hr : sgn (rankOf k) (rankOf k') = 0) (k3 : ¬ k = 3) (k4 : ¬ k = 4) (k5 : ¬ k = 5) (k6 : ¬ k = 6) (k7 : ¬ k = 7)
    : WalkIs (.mk k c s t xs ks) (.mk k' c' s' t' ys ks') left := by
  have r1 := rank_ok k
  have r2 := rank_ok k'
  have r3 := cmpi_ok (rankOf k) (rankOf k')
  have g1 : (sgn (rankOf k) (rankOf k') != 0) = false := by simp [hr]
  have g1' : (sgn (rankOf k) (rankOf k') ≠ 0) = False := by simp [hr]
  have e3 : (k == 3) = false := by simpa using k3
  have e4 : (k == 4) = false := by simpa using k4
  have e5 : (k == 5) = false := by simpa using k5
  have e6 : (k == 6) = false := by simpa using k6
  have e7 : (k == 7) = false := by simpa using k7

  refine ⟨by simp only [cmpV, hl, g1', if_false, if_true, k3, k4, k5, k6, k7, or_self]; omega, by simp only [cmpV, hl, g1', if_false, if_true, k3, k4, k5, k6, k7, or_self]; omega, f57 ?_⟩
  simp (disch := omega) only [go_sem, and_self, and_true, true_and, false_and, and_false, Nat.reduceAdd, Nat.reduceMul, Nat.reduceSub, Nat.reduceLeDiff, Nat.reduceLT, Nat.reduceGT, Nat.reduceEqDiff, Nat.reduceBEq, Int.reduceNeg, Int.reduceEq, Int.reduceLT, Int.reduceLE, Int.reduceBEq, Int.reduceToNat, Int.toNat_natCast, Int.natCast_zero, r57_T, r57, Val.enc, w64, cmpV, hl, g1', if_false, if_true, k3, k4, k5, k6, k7, or_self, r1, r2, r3, g1, e3, e4, e5, e6, e7]

theorem walk_ok : ∀ (x y : Val) (left : Int), x.ok → y.ok → 0 ≤ left → left ≤ 5000 → WalkIs x y left
  | .mk k c s t xs ks, .mk k' c' s' t' ys ks', left, hx, hy, h0, h5 => by
    simp only [Val.ok] at hx hy
    have ih : ∀ x ∈ xs, ∀ y ∈ ys, ∀ left, 0 ≤ left → left ≤ 5000 → WalkIs x y left :=
      fun x hx' y hy' left h0 h5 => walk_ok x y left (oks_mem hx.2.2.2.2.2.2.2 hx') (oks_mem hy.2.2.2.2.2.2.2 hy') h0 h5
    by_cases hl : left - 1 < 0
    · exact walk_low _ _ _ _ _ _ _ _ _ _ _ _ left h0 h5 hl
    · obtain ⟨i1, i2, i3⟩ := items_ok xs ys hx.2.2.2.2.1 ih (left - 1) (by omega) (by omega)
      by_cases hr : sgn (rankOf k) (rankOf k') = 0
      · by_cases k3 : k = 3
        · subst k3; exact walk_3 _ _ _ _ _ _ _ _ _ _ _ left h0 h5 hl hr
        by_cases k4 : k = 4
        · subst k4; exact walk_4 _ _ _ _ _ _ _ _ _ _ _ left h0 h5 hl hr
        by_cases k7 : k = 7
        · subst k7; exact walk_7 _ _ _ _ _ _ _ _ _ _ _ left h0 h5 hl hr
        by_cases k5 : k = 5
        · subst k5; exact walk_5 _ _ _ _ _ _ _ _ _ _ _ left h0 h5 hl hr ⟨i1, i2⟩ i3
        by_cases k6 : k = 6
        · subst k6
          by_cases hk : keysC ks ks' = 0
          · exact walk_6a _ _ _ _ _ _ _ _ _ _ _ left h0 h5 hl hr ⟨i1, i2⟩ i3 hx.2.2.2.2.2.1 hk
          · exact walk_6b _ _ _ _ _ _ _ _ _ _ _ left h0 h5 hl hr hx.2.2.2.2.2.1 hk
        exact walk_no _ _ _ _ _ _ _ _ _ _ _ _ left h0 h5 hl hr k3 k4 k5 k6 k7
      · exact walk_rank _ _ _ _ _ _ _ _ _ _ _ _ left h0 h5 hl hr
end Go.Pe.T

namespace Go.Pe.T

/-! ### the document's walk -/

mutual
theorem cmpV_neg : ∀ (x y : Val) (left : Int), (cmpV x y left).2 < 0 → (cmpV x y left).1 = 0
  | .mk k c s t xs ks, .mk k' c' s' t' ys ks', left => by
    simp only [cmpV]
    intro h
    split at h
    · rename_i h1; rw [if_pos h1]
    rename_i h1; rw [if_neg h1]
    split at h
    · exact absurd h h1
    rename_i h2; rw [if_neg h2]
    split at h
    · exact absurd h h1
    rename_i h3; rw [if_neg h3]
    split at h
    · exact absurd h h1
    rename_i h4; rw [if_neg h4]
    split at h
    · rename_i h5; rw [if_pos h5]; exact cmpVs_neg xs ys _ (by omega) h
    rename_i h5; rw [if_neg h5]
    split at h
    · rename_i h6; rw [if_pos h6]
      split at h
      · exact absurd h h1
      rename_i h7; rw [if_neg h7]; exact cmpVs_neg xs ys _ (by omega) h
    rename_i h6; rw [if_neg h6]
theorem cmpVs_neg : ∀ (a b : List Val) (left : Int), 0 ≤ left → (cmpVs a b left).2 < 0 → (cmpVs a b left).1 = 0
  | x :: a, y :: b, left, h0 => by
    simp only [cmpVs]
    intro h
    by_cases h1 : (cmpV x y left).1 ≠ 0 ∨ (cmpV x y left).2 < 0
    · rw [if_pos h1] at h ⊢
      exact cmpV_neg x y left h
    · rw [if_neg h1] at h ⊢
      exact cmpVs_neg a b _ (by omega) h
  | [], b, left, h0 => by simp only [cmpVs]; omega
  | x :: a, [], left, h0 => by simp only [cmpVs]; omega
end

/-- how many pairs were looked at -/
def nOf (l : Int) : Int := if l < 0 then 5000 else 4096 - l
theorem nOf_pos {l : Int} (h : 0 ≤ l) : nOf l = 4096 - l := by unfold nOf; rw [if_neg (by omega)]
theorem nOf_neg {l : Int} (h : l < 0) : nOf l = 5000 := by unfold nOf; rw [if_pos h]

def LookIs (x y : Val) (left : Int) : Prop := ∀ hp : List Ent,
    F tab 58 [.d x.enc, .d y.enc, .d (iv (4096 - left))] hp = some (.ret (.tup [.d (iv (cmpV x y left).1), .d (iv (nOf (cmpV x y left).2))]) hp)

theorem look_stop (k c s k' c' s' : Int) (t t' : ByteArray) (ks ks' : List D) (a b : List Val) (q i n : Int) (hq : ¬ q = 0) :
    V (F tab) r58_B0 (r58_S0 (.d (iv n)) (.ibox [.d (iv k), .d (iv c), .d (iv s), .d (.str t), .d (.sl (Val.encs a)), .d (.sl ks)]) (.ibox [.d (iv k'), .d (iv c'), .d (iv s'), .d (.str t'), .d (.sl (Val.encs b)), .d (.sl ks')]) (.d (iv q)) (.d (iv i)) []) =
      some (.norm, r58_E0 (.d (iv n)) (.ibox [.d (iv k), .d (iv c), .d (iv s), .d (.str t), .d (.sl (Val.encs a)), .d (.sl ks)]) (.ibox [.d (iv k'), .d (iv c'), .d (iv s'), .d (.str t'), .d (.sl (Val.encs b)), .d (.sl ks')]) (.d (iv q)) []) := by
  have e : (q == 0) = false := by simpa using hq
  rw [r58_B0_eq]
  simp (disch := omega) only [go_sem, and_self, and_true, true_and, false_and, and_false, Nat.reduceAdd, Nat.reduceMul, Nat.reduceSub, Nat.reduceLeDiff, Nat.reduceLT, Nat.reduceGT, Nat.reduceEqDiff, Nat.reduceBEq, Int.reduceNeg, Int.reduceEq, Int.reduceLT, Int.reduceLE, Int.reduceBEq, Int.reduceToNat, Int.toNat_natCast, Int.natCast_zero, r58_C0, hq, e]

def LookLoop (k c s k' c' s' : Int) (t t' : ByteArray) (ks ks' : List D) (a b : List Val) (i : Nat) (left : Int) : Prop :=
    ((cmpVs (a.drop i) (b.drop i) left).2 < 0 ∧ V (F tab) r58_B0 (r58_S0 (.d (iv (4096 - left))) (.ibox [.d (iv k), .d (iv c), .d (iv s), .d (.str t), .d (.sl (Val.encs a)), .d (.sl ks)]) (.ibox [.d (iv k'), .d (iv c'), .d (iv s'), .d (.str t'), .d (.sl (Val.encs b)), .d (.sl ks')]) (.d (iv 0)) (.d (iv i)) []) = some (.ret, r58_R (.d (iv 0)) (.d (iv 5000)) [])) ∨
    (0 ≤ (cmpVs (a.drop i) (b.drop i) left).2 ∧ ∃ q, V (F tab) r58_B0 (r58_S0 (.d (iv (4096 - left))) (.ibox [.d (iv k), .d (iv c), .d (iv s), .d (.str t), .d (.sl (Val.encs a)), .d (.sl ks)]) (.ibox [.d (iv k'), .d (iv c'), .d (iv s'), .d (.str t'), .d (.sl (Val.encs b)), .d (.sl ks')]) (.d (iv 0)) (.d (iv i)) []) =
       some (.norm, r58_E0 (.d (iv (4096 - (cmpVs (a.drop i) (b.drop i) left).2))) (.ibox [.d (iv k), .d (iv c), .d (iv s), .d (.str t), .d (.sl (Val.encs a)), .d (.sl ks)]) (.ibox [.d (iv k'), .d (iv c'), .d (iv s'), .d (.str t'), .d (.sl (Val.encs b)), .d (.sl ks')]) (.d (iv q)) []) ∧
       ((q = 0 ∧ (cmpVs (a.drop i) (b.drop i) left).1 = sgn a.length b.length) ∨ (¬ q = 0 ∧ (cmpVs (a.drop i) (b.drop i) left).1 = q)))

theorem look_zero (k c s k' c' s' : Int) (t t' : ByteArray) (ks ks' : List D) (a b : List Val) (i : Nat) (left : Int) (hi : i = min a.length b.length) (h0 : 0 ≤ left) : LookLoop k c s k' c' s' t t' ks ks' a b i left := by
  unfold LookLoop
  have e : cmpVs (a.drop i) (b.drop i) left = (sgn (a.drop i).length (b.drop i).length, left) := by
    rcases Nat.le_total a.length b.length with h | h
    · rw [List.drop_of_length_le (by omega : a.length ≤ i)]; simp [cmpVs]
    · rw [List.drop_of_length_le (by omega : b.length ≤ i)]; cases a.drop i <;> simp [cmpVs]
  rw [e]
  refine .inr ⟨h0, 0, ?_, .inl ⟨rfl, ?_⟩⟩
  · rw [r58_B0_eq]
    by_cases h1 : (i : Int) < (a.length : Int)
    · have h2 : ((i : Int) < (b.length : Int)) = False := eq_false (by omega)
      simp (disch := omega) only [go_sem, and_self, and_true, true_and, false_and, and_false, Nat.reduceAdd, Nat.reduceMul, Nat.reduceSub, Nat.reduceLeDiff, Nat.reduceLT, Nat.reduceGT, Nat.reduceEqDiff, Nat.reduceBEq, Int.reduceNeg, Int.reduceEq, Int.reduceLT, Int.reduceLE, Int.reduceBEq, Int.reduceToNat, Int.toNat_natCast, Int.natCast_zero, r58_C0, h1, h2, encs_len]
    · simp (disch := omega) only [go_sem, and_self, and_true, true_and, false_and, and_false, Nat.reduceAdd, Nat.reduceMul, Nat.reduceSub, Nat.reduceLeDiff, Nat.reduceLT, Nat.reduceGT, Nat.reduceEqDiff, Nat.reduceBEq, Int.reduceNeg, Int.reduceEq, Int.reduceLT, Int.reduceLE, Int.reduceBEq, Int.reduceToNat, Int.toNat_natCast, Int.natCast_zero, r58_C0, h1, encs_len]
  · simp only [List.length_drop]
    unfold sgn
    split <;> split <;> (try split) <;> omega

theorem look_step (k c s k' c' s' : Int) (t t' : ByteArray) (ks ks' : List D) (a b : List Val) (hla : a.length ≤ maxLen)
    (ih : ∀ x ∈ a, ∀ y ∈ b, ∀ left, 0 ≤ left → left ≤ 5000 → -1 ≤ (cmpV x y left).2 ∧ (cmpV x y left).2 ≤ 5000 ∧ LookIs x y left)
    (i : Nat) (left : Int) (hi : i < min a.length b.length) (h0 : 0 ≤ left) (h5 : left ≤ 5000)
    (hn : ∀ l, 0 ≤ l → l ≤ 5000 → LookLoop k c s k' c' s' t t' ks ks' a b (i + 1) l) : LookLoop k c s k' c' s' t t' ks ks' a b i left := by
  unfold LookLoop at hn ⊢
  have hmx : maxLen = 9223372036854775807 := by decide
  have ga : i < a.length := by omega
  have gb : i < b.length := by omega
  have h1 : ((i : Int) < (a.length : Int)) = True := eq_true (by omega)
  have h2 : ((i : Int) < (b.length : Int)) = True := eq_true (by omega)
  have hi0 : (0 ≤ (i : Int)) = True := eq_true (by omega)
  have va : (Val.encs a)[i]? = some (a[i].enc) := by rw [encs_get]; simp [ga]
  have vb : (Val.encs b)[i]? = some (b[i].enc) := by rw [encs_get]; simp [gb]
  have hng := cmpV_neg a[i] b[i] left
  obtain ⟨c1, c2, c3⟩ := ih a[i] (List.getElem_mem ga) b[i] (List.getElem_mem gb) left h0 h5
  unfold LookIs at c3
  rw [List.drop_eq_getElem_cons ga, List.drop_eq_getElem_cons gb]
  simp only [cmpVs]
  generalize cmpV a[i] b[i] left = r at *
  obtain ⟨g, l⟩ := r
  simp only at c1 c2 c3 hng ⊢
  rw [r58_B0_eq]
  by_cases hl : l < 0
  · rw [if_pos (Or.inr hl)]
    refine .inl ⟨hl, ?_⟩
    simp (disch := omega) only [go_sem, and_self, and_true, true_and, false_and, and_false, Nat.reduceAdd, Nat.reduceMul, Nat.reduceSub, Nat.reduceLeDiff, Nat.reduceLT, Nat.reduceGT, Nat.reduceEqDiff, Nat.reduceBEq, Int.reduceNeg, Int.reduceEq, Int.reduceLT, Int.reduceLE, Int.reduceBEq, Int.reduceToNat, Int.toNat_natCast, Int.natCast_zero, r58_C0, h1, h2, hi0, va, vb, enc_w, enc_a, encs_len, c3, w64, nOf_neg hl, Int.reduceGT, decide_true, if_true]
  · have hl' : 0 ≤ l := by omega
    have hgt : (4096 < 4096 - l) = False := eq_false (by omega)
    by_cases hc : g = 0
    · subst hc
      rw [if_neg (by omega)]
      rcases hn l hl' c2 with ⟨x1, x2⟩ | ⟨x1, q, x2, x3⟩
      · refine .inl ⟨x1, ?_⟩
        simp (disch := omega) only [go_sem, and_self, and_true, true_and, false_and, and_false, Nat.reduceAdd, Nat.reduceMul, Nat.reduceSub, Nat.reduceLeDiff, Nat.reduceLT, Nat.reduceGT, Nat.reduceEqDiff, Nat.reduceBEq, Int.reduceNeg, Int.reduceEq, Int.reduceLT, Int.reduceLE, Int.reduceBEq, Int.reduceToNat, Int.toNat_natCast, Int.natCast_zero, r58_C0, h1, h2, hi0, va, vb, enc_w, enc_a, encs_len, c3, w64, nOf_pos hl', hgt]
        rw [Int.natCast_add, Int.natCast_one] at x2
        exact x2
      · refine .inr ⟨x1, q, ?_, x3⟩
        simp (disch := omega) only [go_sem, and_self, and_true, true_and, false_and, and_false, Nat.reduceAdd, Nat.reduceMul, Nat.reduceSub, Nat.reduceLeDiff, Nat.reduceLT, Nat.reduceGT, Nat.reduceEqDiff, Nat.reduceBEq, Int.reduceNeg, Int.reduceEq, Int.reduceLT, Int.reduceLE, Int.reduceBEq, Int.reduceToNat, Int.toNat_natCast, Int.natCast_zero, r58_C0, h1, h2, hi0, va, vb, enc_w, enc_a, encs_len, c3, w64, nOf_pos hl', hgt]
        rw [Int.natCast_add, Int.natCast_one] at x2
        exact x2
    · rw [if_pos (Or.inl hc)]
      refine .inr ⟨hl', g, ?_, .inr ⟨hc, rfl⟩⟩
      simp (disch := omega) only [go_sem, and_self, and_true, true_and, false_and, and_false, Nat.reduceAdd, Nat.reduceMul, Nat.reduceSub, Nat.reduceLeDiff, Nat.reduceLT, Nat.reduceGT, Nat.reduceEqDiff, Nat.reduceBEq, Int.reduceNeg, Int.reduceEq, Int.reduceLT, Int.reduceLE, Int.reduceBEq, Int.reduceToNat, Int.toNat_natCast, Int.natCast_zero, r58_C0, h1, h2, hi0, va, vb, enc_w, enc_a, encs_len, c3, w64, nOf_pos hl', hgt]
      exact look_stop k c s k' c' s' t t' ks ks' a b g ((i : Int) + 1) (4096 - l) hc

theorem look_loop (k c s k' c' s' : Int) (t t' : ByteArray) (ks ks' : List D) (a b : List Val) (hla : a.length ≤ maxLen)
    (ih : ∀ x ∈ a, ∀ y ∈ b, ∀ left, 0 ≤ left → left ≤ 5000 → -1 ≤ (cmpV x y left).2 ∧ (cmpV x y left).2 ≤ 5000 ∧ LookIs x y left) :
    ∀ (j i : Nat) (left : Int), i + j = min a.length b.length → 0 ≤ left → left ≤ 5000 → LookLoop k c s k' c' s' t t' ks ks' a b i left
  | 0, i, left, hi, h0, h5 => look_zero k c s k' c' s' t t' ks ks' a b i left (by omega) h0
  | j + 1, i, left, hi, h0, h5 => look_step k c s k' c' s' t t' ks ks' a b hla ih i left (by omega) h0 h5 fun l h0 h5 => look_loop k c s k' c' s' t t' ks ks' a b hla ih j (i + 1) l (by omega) h0 h5
end Go.Pe.T

namespace Go.Pe.T

theorem clean7_ok2 (c s : Int) (hp : List Ent) : F tab 97 [.d (.agg [iv c, iv s])] hp = some (.ret (.d (.agg [iv (cleanN c s).1, iv (cleanN c s).2])) hp) := by
  have h := clean7_ok c s hp
  unfold cleanN
  split at h <;> (rename_i hx; simp only [hx, if_true, if_false, Bool.false_eq_true]; exact h)

theorem cmp4_ok2 (c s c' s' : Int) (hp : List Ent) : F tab 96 [.d (.agg [iv (cleanN c s).1, iv (cleanN c s).2]), .d (.agg [iv (cleanN c' s').1, iv (cleanN c' s').2])] hp = some (.ret (.d (iv (sgn (flatS c s) (flatS c' s')))) hp) := by
  obtain ⟨h1, e1⟩ := cleanN_is c s
  obtain ⟨h2, e2⟩ := cleanN_is c' s'
  obtain ⟨k1, x1, y1, z1⟩ := numIs_inv h1
  obtain ⟨k2, x2, y2, z2⟩ := numIs_inv h2
  have h := cmp4_ok (cleanN c s).1 (cleanN c' s').1 k1 k2 y1 y2 z1 z2 hp
  unfold flatS
  rw [x1, x2] at *
  exact h

theorem look_low (k c s t xs ks k' c' s' t' ys ks') (left : Int) (h0 : 0 ≤ left) (h5 : left ≤ 5000) (hl : left - 1 < 0)
    : LookIs (.mk k c s t xs ks) (.mk k' c' s' t' ys ks') left := by
  intro hp
  have hgt : (4096 < 4096 - left + 1) = True := eq_true (by omega)
  have en : nOf (left - 1) = 5000 := nOf_neg hl

  refine f58 rfl ?_
  simp (disch := omega) only [go_sem, and_self, and_true, true_and, false_and, and_false, Nat.reduceAdd, Nat.reduceMul, Nat.reduceSub, Nat.reduceLeDiff, Nat.reduceLT, Nat.reduceGT, Nat.reduceEqDiff, Nat.reduceBEq, Int.reduceNeg, Int.reduceEq, Int.reduceLT, Int.reduceLE, Int.reduceBEq, Int.reduceToNat, Int.toNat_natCast, Int.natCast_zero, r58_T, r58, Val.enc, w64, cmpV, if_pos hl, hl, if_true, hgt, en]

theorem look_rank (k c s t xs ks k' c' s' t' ys ks') (left : Int) (h0 : 0 ≤ left) (h5 : left ≤ 5000) (hl : ¬ (left - 1 < 0)) (hr : sgn (rankOf k) (rankOf k') ≠ 0)
    : LookIs (.mk k c s t xs ks) (.mk k' c' s' t' ys ks') left := by
  intro hp
  have hgt : (4096 < 4096 - left + 1) = False := eq_false (by omega)
  have en : nOf (left - 1) = 4096 - left + 1 := by rw [nOf_pos (by omega)]; omega
  have r1 := rank7_ok k
  have r2 := rank7_ok k'
  have r3 := sign7_ok (rankOf k) (rankOf k')
  have g1 : (sgn (rankOf k) (rankOf k') != 0) = true := by simp [hr]
  have g1' : (sgn (rankOf k) (rankOf k') ≠ 0) = True := by simp [hr]

  refine f58 rfl ?_
  simp (disch := omega) only [go_sem, and_self, and_true, true_and, false_and, and_false, Nat.reduceAdd, Nat.reduceMul, Nat.reduceSub, Nat.reduceLeDiff, Nat.reduceLT, Nat.reduceGT, Nat.reduceEqDiff, Nat.reduceBEq, Int.reduceNeg, Int.reduceEq, Int.reduceLT, Int.reduceLE, Int.reduceBEq, Int.reduceToNat, Int.toNat_natCast, Int.natCast_zero, r58_T, r58, Val.enc, w64, cmpV, hl, g1', if_false, if_true, hgt, en, r1, r2, r3, g1]

theorem look_3 (c s t xs ks k' c' s' t' ys ks') (left : Int) (h0 : 0 ≤ left) (h5 : left ≤ 5000) (hl : ¬ (left - 1 < 0)) (hr : sgn (rankOf 3) (rankOf k') = 0)
    : LookIs (.mk 3 c s t xs ks) (.mk k' c' s' t' ys ks') left := by
  intro hp
  have hgt : (4096 < 4096 - left + 1) = False := eq_false (by omega)
  have en : nOf (left - 1) = 4096 - left + 1 := by rw [nOf_pos (by omega)]; omega
  have r1 := rank7_ok 3
  have r2 := rank7_ok k'
  have r3 := sign7_ok (rankOf 3) (rankOf k')
  have g1 : (sgn (rankOf 3) (rankOf k') != 0) = false := by simp [hr]
  have g1' : (sgn (rankOf 3) (rankOf k') ≠ 0) = False := by simp [hr]
  have q1 := clean7_ok2 c s
  have q2 := clean7_ok2 c' s'
  have q3 := cmp4_ok2 c s c' s'

  refine f58 rfl ?_
  simp (disch := omega) only [go_sem, and_self, and_true, true_and, false_and, and_false, Nat.reduceAdd, Nat.reduceMul, Nat.reduceSub, Nat.reduceLeDiff, Nat.reduceLT, Nat.reduceGT, Nat.reduceEqDiff, Nat.reduceBEq, Int.reduceNeg, Int.reduceEq, Int.reduceLT, Int.reduceLE, Int.reduceBEq, Int.reduceToNat, Int.toNat_natCast, Int.natCast_zero, r58_T, r58, Val.enc, w64, cmpV, hl, g1', if_false, if_true, hgt, en, r1, r2, r3, g1, q1, q2, q3]

theorem look_4 (c s t xs ks k' c' s' t' ys ks') (left : Int) (h0 : 0 ≤ left) (h5 : left ≤ 5000) (hl : ¬ (left - 1 < 0)) (hr : sgn (rankOf 4) (rankOf k') = 0) (ht : t.size ≤ maxLen)
    : LookIs (.mk 4 c s t xs ks) (.mk k' c' s' t' ys ks') left := by
  intro hp
  have hgt : (4096 < 4096 - left + 1) = False := eq_false (by omega)
  have en : nOf (left - 1) = 4096 - left + 1 := by rw [nOf_pos (by omega)]; omega
  have r1 := rank7_ok 4
  have r2 := rank7_ok k'
  have r3 := sign7_ok (rankOf 4) (rankOf k')
  have g1 : (sgn (rankOf 4) (rankOf k') != 0) = false := by simp [hr]
  have g1' : (sgn (rankOf 4) (rankOf k') ≠ 0) = False := by simp [hr]
  have p1 := text_ok t t' ht
  have k3 : ((4 : Int) = 3) = False := by simp
  have k4 : ((4 : Int) = 4) = True := by simp

  refine f58 rfl ?_
  simp (disch := omega) only [go_sem, and_self, and_true, true_and, false_and, and_false, Nat.reduceAdd, Nat.reduceMul, Nat.reduceSub, Nat.reduceLeDiff, Nat.reduceLT, Nat.reduceGT, Nat.reduceEqDiff, Nat.reduceBEq, Int.reduceNeg, Int.reduceEq, Int.reduceLT, Int.reduceLE, Int.reduceBEq, Int.reduceToNat, Int.toNat_natCast, Int.natCast_zero, r58_T, r58, Val.enc, w64, cmpV, hl, g1', if_false, if_true, k3, true_or, or_true, hgt, en, r1, r2, r3, g1, p1, k4]

theorem look_7 (c s t xs ks k' c' s' t' ys ks') (left : Int) (h0 : 0 ≤ left) (h5 : left ≤ 5000) (hl : ¬ (left - 1 < 0)) (hr : sgn (rankOf 7) (rankOf k') = 0) (ht : t.size ≤ maxLen)
    : LookIs (.mk 7 c s t xs ks) (.mk k' c' s' t' ys ks') left := by
  intro hp
  have hgt : (4096 < 4096 - left + 1) = False := eq_false (by omega)
  have en : nOf (left - 1) = 4096 - left + 1 := by rw [nOf_pos (by omega)]; omega
  have r1 := rank7_ok 7
  have r2 := rank7_ok k'
  have r3 := sign7_ok (rankOf 7) (rankOf k')
  have g1 : (sgn (rankOf 7) (rankOf k') != 0) = false := by simp [hr]
  have g1' : (sgn (rankOf 7) (rankOf k') ≠ 0) = False := by simp [hr]
  have p1 := text_ok t t' ht
  have k3 : ((7 : Int) = 3) = False := by simp
  have k4 : ((7 : Int) = 7) = True := by simp

  refine f58 rfl ?_
  simp (disch := omega) only [go_sem, and_self, and_true, true_and, false_and, and_false, Nat.reduceAdd, Nat.reduceMul, Nat.reduceSub, Nat.reduceLeDiff, Nat.reduceLT, Nat.reduceGT, Nat.reduceEqDiff, Nat.reduceBEq, Int.reduceNeg, Int.reduceEq, Int.reduceLT, Int.reduceLE, Int.reduceBEq, Int.reduceToNat, Int.toNat_natCast, Int.natCast_zero, r58_T, r58, Val.enc, w64, cmpV, hl, g1', if_false, if_true, k3, true_or, or_true, hgt, en, r1, r2, r3, g1, p1, k4]

theorem look_5 (c s t xs ks k' c' s' t' ys ks') (left : Int) (h0 : 0 ≤ left) (h5 : left ≤ 5000) (hl : ¬ (left - 1 < 0)) (hr : sgn (rankOf 5) (rankOf k') = 0) (ih : ∀ x ∈ xs, ∀ y ∈ ys, ∀ left, 0 ≤ left → left ≤ 5000 → -1 ≤ (cmpV x y left).2 ∧ (cmpV x y left).2 ≤ 5000 ∧ LookIs x y left) (hla : xs.length ≤ maxLen)
    : LookIs (.mk 5 c s t xs ks) (.mk k' c' s' t' ys ks') left := by
  intro hp
  have hgt : (4096 < 4096 - left + 1) = False := eq_false (by omega)
  have en : nOf (left - 1) = 4096 - left + 1 := by rw [nOf_pos (by omega)]; omega
  have r1 := rank7_ok 5
  have r2 := rank7_ok k'
  have r3 := sign7_ok (rankOf 5) (rankOf k')
  have g1 : (sgn (rankOf 5) (rankOf k') != 0) = false := by simp [hr]
  have g1' : (sgn (rankOf 5) (rankOf k') ≠ 0) = False := by simp [hr]
  have k3 : ((5 : Int) = 3) = False := by simp
  have k4 : ((5 : Int) = 4) = False := by simp
  have k5 : ((5 : Int) = 5) = True := by simp
  have k6 : ((5 : Int) = 6) = False := by simp
  have k7 : ((5 : Int) = 7) = False := by simp
  have e1 : 4096 - left + 1 = 4096 - (left - 1) := by omega
  have hs := sign7_ok xs.length ys.length
  have hL := look_loop 5 c s k' c' s' t t' (ks.map .str) (ks'.map .str) xs ys hla ih (min xs.length ys.length) 0 (left - 1) (by omega) (by omega) (by omega)
  unfold LookLoop at hL
  rw [List.drop_zero, List.drop_zero, ← e1] at hL
  refine f58 rfl ?_
  simp (disch := omega) only [go_sem, and_self, and_true, true_and, false_and, and_false, Nat.reduceAdd, Nat.reduceMul, Nat.reduceSub, Nat.reduceLeDiff, Nat.reduceLT, Nat.reduceGT, Nat.reduceEqDiff, Nat.reduceBEq, Int.reduceNeg, Int.reduceEq, Int.reduceLT, Int.reduceLE, Int.reduceBEq, Int.reduceToNat, Int.toNat_natCast, Int.natCast_zero, r58_T, r58, Val.enc, w64, cmpV, hl, g1', if_false, if_true, k3, k4, k5, k6, k7, or_self, hgt, r1, r2, r3, g1]
  rw [r58_B0_n]
  try rw [hr]
  rcases hL with ⟨b1, hL⟩ | ⟨b1, q, hL, ⟨b2, b3⟩ | ⟨b2, b3⟩⟩
  · erw [hL]
    rw [nOf_neg b1, cmpVs_neg _ _ _ (by omega) b1]
    simp (disch := omega) only [go_sem, and_self, and_true, true_and, false_and, and_false, Nat.reduceAdd, Nat.reduceMul, Nat.reduceSub, Nat.reduceLeDiff, Nat.reduceLT, Nat.reduceGT, Nat.reduceEqDiff, Nat.reduceBEq, Int.reduceNeg, Int.reduceEq, Int.reduceLT, Int.reduceLE, Int.reduceBEq, Int.reduceToNat, Int.toNat_natCast, Int.natCast_zero]
  · erw [hL]
    rw [nOf_pos b1, b3]
    subst b2
    simp (disch := omega) only [go_sem, and_self, and_true, true_and, false_and, and_false, Nat.reduceAdd, Nat.reduceMul, Nat.reduceSub, Nat.reduceLeDiff, Nat.reduceLT, Nat.reduceGT, Nat.reduceEqDiff, Nat.reduceBEq, Int.reduceNeg, Int.reduceEq, Int.reduceLT, Int.reduceLE, Int.reduceBEq, Int.reduceToNat, Int.toNat_natCast, Int.natCast_zero, encs_len, hs]
  · erw [hL]
    rw [nOf_pos b1, b3]
    have b4 : (q == 0) = false := by simpa using b2
    simp (disch := omega) only [go_sem, and_self, and_true, true_and, false_and, and_false, Nat.reduceAdd, Nat.reduceMul, Nat.reduceSub, Nat.reduceLeDiff, Nat.reduceLT, Nat.reduceGT, Nat.reduceEqDiff, Nat.reduceBEq, Int.reduceNeg, Int.reduceEq, Int.reduceLT, Int.reduceLE, Int.reduceBEq, Int.reduceToNat, Int.toNat_natCast, Int.natCast_zero, b2, b4]

theorem look_6a (c s t xs ks k' c' s' t' ys ks') (left : Int) (h0 : 0 ≤ left) (h5 : left ≤ 5000) (hl : ¬ (left - 1 < 0)) (hr : sgn (rankOf 6) (rankOf k') = 0) (ih : ∀ x ∈ xs, ∀ y ∈ ys, ∀ left, 0 ≤ left → left ≤ 5000 → -1 ≤ (cmpV x y left).2 ∧ (cmpV x y left).2 ≤ 5000 ∧ LookIs x y left) (hla : xs.length ≤ maxLen) (hks : ks.length ≤ maxLen) (hkx : ∀ x ∈ ks, x.size ≤ maxLen) (hk : keysC ks ks' = 0)
    : LookIs (.mk 6 c s t xs ks) (.mk k' c' s' t' ys ks') left := by
  intro hp
  have hgt : (4096 < 4096 - left + 1) = False := eq_false (by omega)
  have en : nOf (left - 1) = 4096 - left + 1 := by rw [nOf_pos (by omega)]; omega
  have r1 := rank7_ok 6
  have r2 := rank7_ok k'
  have r3 := sign7_ok (rankOf 6) (rankOf k')
  have g1 : (sgn (rankOf 6) (rankOf k') != 0) = false := by simp [hr]
  have g1' : (sgn (rankOf 6) (rankOf k') ≠ 0) = False := by simp [hr]
  have k3 : ((6 : Int) = 3) = False := by simp
  have k4 : ((6 : Int) = 4) = False := by simp
  have k5 : ((6 : Int) = 5) = False := by simp
  have k6 : ((6 : Int) = 6) = True := by simp
  have k7 : ((6 : Int) = 7) = False := by simp
  have p2 := keys_ok ks ks' hks hkx
  have f1' : (keysC ks ks' ≠ 0) = False := by simp [hk]
  rw [hk] at p2
  have e1 : 4096 - left + 1 = 4096 - (left - 1) := by omega
  have hs := sign7_ok xs.length ys.length
  have hL := look_loop 6 c s k' c' s' t t' (ks.map .str) (ks'.map .str) xs ys hla ih (min xs.length ys.length) 0 (left - 1) (by omega) (by omega) (by omega)
  unfold LookLoop at hL
  rw [List.drop_zero, List.drop_zero, ← e1] at hL
  refine f58 rfl ?_
  simp (disch := omega) only [go_sem, and_self, and_true, true_and, false_and, and_false, Nat.reduceAdd, Nat.reduceMul, Nat.reduceSub, Nat.reduceLeDiff, Nat.reduceLT, Nat.reduceGT, Nat.reduceEqDiff, Nat.reduceBEq, Int.reduceNeg, Int.reduceEq, Int.reduceLT, Int.reduceLE, Int.reduceBEq, Int.reduceToNat, Int.toNat_natCast, Int.natCast_zero, r58_T, r58, Val.enc, w64, cmpV, hl, g1', if_false, if_true, k3, k4, k5, k6, k7, f1', or_self, hgt, r1, r2, r3, g1, p2]
  rw [r58_B0_n]
  try rw [hr]
  rcases hL with ⟨b1, hL⟩ | ⟨b1, q, hL, ⟨b2, b3⟩ | ⟨b2, b3⟩⟩
  · erw [hL]
    rw [nOf_neg b1, cmpVs_neg _ _ _ (by omega) b1]
    simp (disch := omega) only [go_sem, and_self, and_true, true_and, false_and, and_false, Nat.reduceAdd, Nat.reduceMul, Nat.reduceSub, Nat.reduceLeDiff, Nat.reduceLT, Nat.reduceGT, Nat.reduceEqDiff, Nat.reduceBEq, Int.reduceNeg, Int.reduceEq, Int.reduceLT, Int.reduceLE, Int.reduceBEq, Int.reduceToNat, Int.toNat_natCast, Int.natCast_zero]
  · erw [hL]
    rw [nOf_pos b1, b3]
    subst b2
    simp (disch := omega) only [go_sem, and_self, and_true, true_and, false_and, and_false, Nat.reduceAdd, Nat.reduceMul, Nat.reduceSub, Nat.reduceLeDiff, Nat.reduceLT, Nat.reduceGT, Nat.reduceEqDiff, Nat.reduceBEq, Int.reduceNeg, Int.reduceEq, Int.reduceLT, Int.reduceLE, Int.reduceBEq, Int.reduceToNat, Int.toNat_natCast, Int.natCast_zero, encs_len, hs]
  · erw [hL]
    rw [nOf_pos b1, b3]
    have b4 : (q == 0) = false := by simpa using b2
    simp (disch := omega) only [go_sem, and_self, and_true, true_and, false_and, and_false, Nat.reduceAdd, Nat.reduceMul, Nat.reduceSub, Nat.reduceLeDiff, Nat.reduceLT, Nat.reduceGT, Nat.reduceEqDiff, Nat.reduceBEq, Int.reduceNeg, Int.reduceEq, Int.reduceLT, Int.reduceLE, Int.reduceBEq, Int.reduceToNat, Int.toNat_natCast, Int.natCast_zero, b2, b4]

theorem look_6b (c s t xs ks k' c' s' t' ys ks') (left : Int) (h0 : 0 ≤ left) (h5 : left ≤ 5000) (hl : ¬ (left - 1 < 0)) (hr : sgn (rankOf 6) (rankOf k') = 0) (hks : ks.length ≤ maxLen) (hkx : ∀ x ∈ ks, x.size ≤ maxLen) (hk : keysC ks ks' ≠ 0)
    : LookIs (.mk 6 c s t xs ks) (.mk k' c' s' t' ys ks') left := by
  intro hp
  have hgt : (4096 < 4096 - left + 1) = False := eq_false (by omega)
  have en : nOf (left - 1) = 4096 - left + 1 := by rw [nOf_pos (by omega)]; omega
  have r1 := rank7_ok 6
  have r2 := rank7_ok k'
  have r3 := sign7_ok (rankOf 6) (rankOf k')
  have g1 : (sgn (rankOf 6) (rankOf k') != 0) = false := by simp [hr]
  have g1' : (sgn (rankOf 6) (rankOf k') ≠ 0) = False := by simp [hr]
  have k3 : ((6 : Int) = 3) = False := by simp
  have k4 : ((6 : Int) = 4) = False := by simp
  have k5 : ((6 : Int) = 5) = False := by simp
  have k6 : ((6 : Int) = 6) = True := by simp
  have k7 : ((6 : Int) = 7) = False := by simp
  have p2 := keys_ok ks ks' hks hkx
  have f1' : (keysC ks ks' ≠ 0) = True := by simp [hk]
  have f2 : (keysC ks ks' == 0) = false := by simpa using hk
  have hL := look_stop 6 c s k' c' s' t t' (ks.map .str) (ks'.map .str) xs ys (keysC ks ks') 0 (4096 - left + 1) hk
  refine f58 rfl ?_
  simp (disch := omega) only [go_sem, and_self, and_true, true_and, false_and, and_false, Nat.reduceAdd, Nat.reduceMul, Nat.reduceSub, Nat.reduceLeDiff, Nat.reduceLT, Nat.reduceGT, Nat.reduceEqDiff, Nat.reduceBEq, Int.reduceNeg, Int.reduceEq, Int.reduceLT, Int.reduceLE, Int.reduceBEq, Int.reduceToNat, Int.toNat_natCast, Int.natCast_zero, r58_T, r58, Val.enc, w64, cmpV, hl, g1', if_false, if_true, k3, k4, k5, k6, k7, f1', or_self, hgt, en, r1, r2, r3, g1, p2]
  rw [r58_B0_n]
  erw [hL]
  simp (disch := omega) only [go_sem, and_self, and_true, true_and, false_and, and_false, Nat.reduceAdd, Nat.reduceMul, Nat.reduceSub, Nat.reduceLeDiff, Nat.reduceLT, Nat.reduceGT, Nat.reduceEqDiff, Nat.reduceBEq, Int.reduceNeg, Int.reduceEq, Int.reduceLT, Int.reduceLE, Int.reduceBEq, Int.reduceToNat, Int.toNat_natCast, Int.natCast_zero, hk, f2]

theorem look_no (k c s t xs ks k' c' s' t' ys ks') (left : Int) (h0 : 0 ≤ left) (h5 : left ≤ 5000) (hl : ¬ (left - 1 < 0)) (hr : sgn (rankOf k) (rankOf k') = 0) (k3 : ¬ k = 3) (k4 : ¬ k = 4) (k5 : ¬ k = 5) (k6 : ¬ k = 6) (k7 : ¬ k = 7)
    : LookIs (.mk k c s t xs ks) (.mk k' c' s' t' ys ks') left := by
  intro hp
  have hgt : (4096 < 4096 - left + 1) = False := eq_false (by omega)
  have en : nOf (left - 1) = 4096 - left + 1 := by rw [nOf_pos (by omega)]; omega
  have r1 := rank7_ok k
  have r2 := rank7_ok k'
  have r3 := sign7_ok (rankOf k) (rankOf k')
  have g1 : (sgn (rankOf k) (rankOf k') != 0) = false := by simp [hr]
  have g1' : (sgn (rankOf k) (rankOf k') ≠ 0) = False := by simp [hr]
  have e3 : (k == 3) = false := by simpa using k3
  have e4 : (k == 4) = false := by simpa using k4
  have e5 : (k == 5) = false := by simpa using k5
  have e6 : (k == 6) = false := by simpa using k6
  have e7 : (k == 7) = false := by simpa using k7

  refine f58 rfl ?_
  simp (disch := omega) only [go_sem, and_self, and_true, true_and, false_and, and_false, Nat.reduceAdd, Nat.reduceMul, Nat.reduceSub, Nat.reduceLeDiff, Nat.reduceLT, Nat.reduceGT, Nat.reduceEqDiff, Nat.reduceBEq, Int.reduceNeg, Int.reduceEq, Int.reduceLT, Int.reduceLE, Int.reduceBEq, Int.reduceToNat, Int.toNat_natCast, Int.natCast_zero, r58_T, r58, Val.enc, w64, cmpV, hl, g1', if_false, if_true, k3, k4, k5, k6, k7, or_self, hgt, en, r1, r2, r3, g1, e3, e4, e5, e6, e7]

theorem look_ok : ∀ (x y : Val) (left : Int), x.ok → y.ok → 0 ≤ left → left ≤ 5000 → LookIs x y left
  | .mk k c s t xs ks, .mk k' c' s' t' ys ks', left, hx, hy, h0, h5 => by
    simp only [Val.ok] at hx hy
    have ih : ∀ x ∈ xs, ∀ y ∈ ys, ∀ left, 0 ≤ left → left ≤ 5000 → -1 ≤ (cmpV x y left).2 ∧ (cmpV x y left).2 ≤ 5000 ∧ LookIs x y left :=
      fun x hx' y hy' left h0 h5 => by
        have hw := walk_ok x y left (oks_mem hx.2.2.2.2.2.2.2 hx') (oks_mem hy.2.2.2.2.2.2.2 hy') h0 h5
        exact ⟨hw.1, hw.2.1, look_ok x y left (oks_mem hx.2.2.2.2.2.2.2 hx') (oks_mem hy.2.2.2.2.2.2.2 hy') h0 h5⟩
    by_cases hl : left - 1 < 0
    · exact look_low _ _ _ _ _ _ _ _ _ _ _ _ left h0 h5 hl
    · by_cases hr : sgn (rankOf k) (rankOf k') = 0
      · by_cases k3 : k = 3
        · subst k3; exact look_3 _ _ _ _ _ _ _ _ _ _ _ left h0 h5 hl hr
        by_cases k4 : k = 4
        · subst k4; exact look_4 _ _ _ _ _ _ _ _ _ _ _ left h0 h5 hl hr hx.2.2.2.1
        by_cases k7 : k = 7
        · subst k7; exact look_7 _ _ _ _ _ _ _ _ _ _ _ left h0 h5 hl hr hx.2.2.2.1
        by_cases k5 : k = 5
        · subst k5; exact look_5 _ _ _ _ _ _ _ _ _ _ _ left h0 h5 hl hr ih hx.2.2.2.2.1
        by_cases k6 : k = 6
        · subst k6
          by_cases hk : keysC ks ks' = 0
          · exact look_6a _ _ _ _ _ _ _ _ _ _ _ left h0 h5 hl hr ih hx.2.2.2.2.1 hx.2.2.2.2.2.1 hx.2.2.2.2.2.2.1 hk
          · exact look_6b _ _ _ _ _ _ _ _ _ _ _ left h0 h5 hl hr hx.2.2.2.2.2.1 hx.2.2.2.2.2.2.1 hk
        exact look_no _ _ _ _ _ _ _ _ _ _ _ _ left h0 h5 hl hr k3 k4 k5 k6 k7
      · exact look_rank _ _ _ _ _ _ _ _ _ _ _ _ left h0 h5 hl hr
end Go.Pe.T

namespace Go.Pe.T

def cmpR (x y : Val) : Int × Bool := if (cmpV x y 4096).2 < 0 then (0, false) else ((cmpV x y 4096).1, true)

theorem enc_as (v : Val) : ∃ k c s t xs ks, v.enc = .agg [iv k, iv c, iv s, .str t, .sl xs, .sl ks] := by
  cases v; exact ⟨_, _, _, _, _, _, rfl⟩

theorem ocmp_ok (x y : Val) (hx : x.ok) (hy : y.ok) (hp : List Ent) : F tab 17 [.d x.enc, .d y.enc] hp = some (.ret (.tup [.d (iv (cmpR x y).1), .d (.bool (cmpR x y).2)]) hp) := by
  obtain ⟨b1, b2, h⟩ := walk_ok x y 4096 hx hy (by omega) (by omega)
  refine f17 rfl ?_
  unfold cmpR
  obtain ⟨k, c, s, t, xs, ks, ex⟩ := enc_as x
  obtain ⟨k', c', s', t', ys, ks', ey⟩ := enc_as y
  rw [ex, ey] at h ⊢
  by_cases hl : (cmpV x y 4096).2 < 0
  · simp (disch := omega) only [go_sem, and_self, and_true, true_and, false_and, and_false, Nat.reduceAdd, Nat.reduceMul, Nat.reduceSub, Nat.reduceLeDiff, Nat.reduceLT, Nat.reduceGT, Nat.reduceEqDiff, Nat.reduceBEq, Int.reduceNeg, Int.reduceEq, Int.reduceLT, Int.reduceLE, Int.reduceBEq, Int.reduceToNat, Int.toNat_natCast, Int.natCast_zero, r17_T, r17, enc_w, enc_a, h, hl]
  · simp (disch := omega) only [go_sem, and_self, and_true, true_and, false_and, and_false, Nat.reduceAdd, Nat.reduceMul, Nat.reduceSub, Nat.reduceLeDiff, Nat.reduceLT, Nat.reduceGT, Nat.reduceEqDiff, Nat.reduceBEq, Int.reduceNeg, Int.reduceEq, Int.reduceLT, Int.reduceLE, Int.reduceBEq, Int.reduceToNat, Int.toNat_natCast, Int.natCast_zero, r17_T, r17, enc_w, enc_a, h, hl]

theorem rcmp_ok (x y : Val) (hx : x.ok) (hy : y.ok) (hp : List Ent) : F tab 18 [.d x.enc, .d y.enc] hp = some (.ret (.tup [.d (iv (cmpV x y 4096).1), .d (.bool (cmpR x y).2)]) hp) := by
  obtain ⟨b1, b2, _⟩ := walk_ok x y 4096 hx hy (by omega) (by omega)
  have h := look_ok x y 4096 hx hy (by omega) (by omega)
  unfold LookIs at h
  have e0 : (4096 : Int) - 4096 = 0 := rfl
  rw [e0] at h
  refine f18 rfl ?_
  unfold cmpR
  obtain ⟨k, c, s, t, xs, ks, ex⟩ := enc_as x
  obtain ⟨k', c', s', t', ys, ks', ey⟩ := enc_as y
  rw [ex, ey] at h ⊢
  by_cases hl : (cmpV x y 4096).2 < 0
  · simp (disch := omega) only [go_sem, and_self, and_true, true_and, false_and, and_false, Nat.reduceAdd, Nat.reduceMul, Nat.reduceSub, Nat.reduceLeDiff, Nat.reduceLT, Nat.reduceGT, Nat.reduceEqDiff, Nat.reduceBEq, Int.reduceNeg, Int.reduceEq, Int.reduceLT, Int.reduceLE, Int.reduceBEq, Int.reduceToNat, Int.toNat_natCast, Int.natCast_zero, r18_T, r18, enc_w, enc_a, h, hl, nOf_neg hl]
  · have hle : (4096 - (cmpV x y 4096).2 ≤ 4096) = True := eq_true (by omega)
    simp (disch := omega) only [go_sem, and_self, and_true, true_and, false_and, and_false, Nat.reduceAdd, Nat.reduceMul, Nat.reduceSub, Nat.reduceLeDiff, Nat.reduceLT, Nat.reduceGT, Nat.reduceEqDiff, Nat.reduceBEq, Int.reduceNeg, Int.reduceEq, Int.reduceLT, Int.reduceLE, Int.reduceBEq, Int.reduceToNat, Int.toNat_natCast, Int.natCast_zero, r18_T, r18, enc_w, enc_a, h, hl, nOf_pos (Int.not_lt.1 hl), hle]

def valN (c : Int) : Val := .mk 3 c 0 ⟨#[]⟩ [] []
theorem n7_ok (c : Int) (hp : List Ent) : F tab 56 [.d (iv c)] hp = some (.ret (.d (valN c).enc) hp) := by
  refine f56 rfl ?_
  simp (disch := omega) only [go_sem, and_self, and_true, true_and, false_and, and_false, Nat.reduceAdd, Nat.reduceMul, Nat.reduceSub, Nat.reduceLeDiff, Nat.reduceLT, Nat.reduceGT, Nat.reduceEqDiff, Nat.reduceBEq, Int.reduceNeg, Int.reduceEq, Int.reduceLT, Int.reduceLE, Int.reduceBEq, Int.reduceToNat, Int.toNat_natCast, Int.natCast_zero, r56_T, r56, valN, Val.enc, Val.encs, List.map_nil]

theorem live_ok (a b : Int) (ha : i64 a) (hb : i64 b) : (Val.mk 5 0 0 ⟨#[]⟩ [valN a, valN b] []).ok := by
  have e : (⟨#[]⟩ : ByteArray).size = 0 := rfl
  simp only [Val.ok, Val.oks, valN, i64, e, List.length_cons, List.length_nil, maxLen] at *
  refine ⟨by omega, by omega, by omega, by omega, by omega, by omega, by simp, ⟨by omega, ha, by omega, by omega, by omega, by omega, by simp, trivial⟩, ⟨by omega, hb, by omega, by omega, by omega, by omega, by simp, trivial⟩, trivial⟩

theorem lives7_ok (hp : List Ent) : F tab 16 [] hp = some (.ret (.d (.bool true)) hp) := by
  have a1 := ocmp_ok (.mk 5 0 0 ⟨#[]⟩ [valN 1, valN 2] []) (.mk 5 0 0 ⟨#[]⟩ [valN 1, valN 3] [])
    (live_ok 1 2 (by unfold i64; omega) (by unfold i64; omega)) (live_ok 1 3 (by unfold i64; omega) (by unfold i64; omega))
  have a2 : cmpR (.mk 5 0 0 ⟨#[]⟩ [valN 1, valN 2] []) (.mk 5 0 0 ⟨#[]⟩ [valN 1, valN 3] []) = (-1, true) := by decide
  rw [a2] at a1
  simp only [valN, Val.enc, Val.encs, List.map_nil] at a1
  refine f16 rfl ?_
  simp (disch := omega) only [go_sem, and_self, and_true, true_and, false_and, and_false, Nat.reduceAdd, Nat.reduceMul, Nat.reduceSub, Nat.reduceLeDiff, Nat.reduceLT, Nat.reduceGT, Nat.reduceEqDiff, Nat.reduceBEq, Int.reduceNeg, Int.reduceEq, Int.reduceLT, Int.reduceLE, Int.reduceBEq, Int.reduceToNat, Int.toNat_natCast, Int.natCast_zero, r16_T, r16, n7_ok, valN, Val.enc, Val.encs, List.map_nil, a1]
end Go.Pe.T
