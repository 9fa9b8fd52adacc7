/- A part of the proof of: Of values bound one within the other, a name leads to the innermost one that has it, or nowhere. -/
import Derived.Test.YtfmcckohbjhbhaaSi3
import Derived.Test.YtfmcckohbjhbhaaPe3
set_option linter.unusedSimpArgs false
set_option linter.unusedVariables false
set_option maxRecDepth 10000

namespace Go.Pe.T

/-! ### the document's names -/
def ldB (c : UInt8) : Bool := lowB c.toNat || digB c.toNat
theorem nmL_pos : ∀ (l : List UInt8) (i : Nat), nmL (i + 1) l = l.all ldB
  | [], i => rfl
  | c :: r, i => by
    rw [nmL, nmL_pos r (i + 1), List.all_cons]
    have : decide (i + 1 ≠ 0) = true := by simp
    rw [this, Bool.and_true]
    rfl

def RnLoop (s : ByteArray) (i : Nat) : Prop :=
  V (F tab) r71_B0 (r71_S0 (.d (.str s)) (.d (iv i)) []) = if ((bs s).drop i).all ldB then some (.norm, r71_E0 []) else some (.ret, r71_R (.d (.bool false)) [])
theorem rn_end (s : ByteArray) (i : Nat) (hi : s.size ≤ i) : RnLoop s i := by
  have h1 : ((i : Int) < (s.size : Int)) = False := eq_false (by omega)
  unfold RnLoop
  rw [r71_B0_eq, bs_end hi]
  simp (disch := omega) only [go_sem, and_self, and_true, true_and, false_and, and_false, Nat.reduceAdd, Nat.reduceMul, Nat.reduceSub, Nat.reduceLeDiff, Nat.reduceLT, Nat.reduceGT, Nat.reduceEqDiff, Nat.reduceBEq, Int.reduceNeg, Int.reduceEq, Int.reduceLT, Int.reduceLE, Int.reduceBEq, Int.reduceToNat, Int.toNat_natCast, Int.natCast_zero, r71_C0, h1, List.all_nil]
theorem rn_step (s : ByteArray) (hs : s.size ≤ maxLen) (i : Nat) (hi : i < s.size) (ih : RnLoop s (i + 1)) : RnLoop s i := by
  have hmx : maxLen = 9223372036854775807 := by decide
  have h1 : ((i : Int) < (s.size : Int)) = True := eq_true (by omega)
  have hi0 : (0 ≤ (i : Int)) = True := eq_true (by omega)
  obtain ⟨va, vd⟩ := bs_get hi
  unfold RnLoop at ih ⊢
  rw [Int.natCast_add, Int.natCast_one] at ih
  rw [r71_B0_eq, vd]
  simp only [List.all_cons, ldB, lowB, digB]
  by_cases g1 : ((s[i].toNat : Nat) : Int) ≥ 97 <;> by_cases g2 : ((s[i].toNat : Nat) : Int) ≤ 122 <;> by_cases g3 : ((s[i].toNat : Nat) : Int) ≥ 48 <;> by_cases g4 : ((s[i].toNat : Nat) : Int) ≤ 57 <;>
    first
    | (exfalso; omega)
    | (simp (disch := omega) only [go_sem, and_self, and_true, true_and, false_and, and_false, Nat.reduceAdd, Nat.reduceMul, Nat.reduceSub, Nat.reduceLeDiff, Nat.reduceLT, Nat.reduceGT, Nat.reduceEqDiff, Nat.reduceBEq, Int.reduceNeg, Int.reduceEq, Int.reduceLT, Int.reduceLE, Int.reduceBEq, Int.reduceToNat, Int.toNat_natCast, Int.natCast_zero, r71_C0, h1, hi0, va, w64, g1, g2, g3, g4, decide_true, decide_false, Bool.true_and, Bool.false_and, Bool.true_or, Bool.false_or, Bool.and_true, Bool.and_false, Bool.not_true, Bool.not_false] <;> exact ih)
theorem rn_loop (s : ByteArray) (hs : s.size ≤ maxLen) : ∀ (j i : Nat), i + j = s.size → RnLoop s i
  | 0, i, hi => rn_end s i (by omega)
  | j + 1, i, hi => rn_step s hs i (by omega) (rn_loop s hs j (i + 1) (by omega))
theorem rname_ok (s : ByteArray) (hs : s.size ≤ maxLen) (hp : List Ent) : F tab 71 [.d (.str s)] hp = some (.ret (.d (.bool (nameB s))) hp) := by
  have hL := rn_loop s hs s.size 0 (by omega)
  unfold RnLoop at hL
  rw [List.drop_zero] at hL
  refine f71 rfl ?_
  unfold nameB
  by_cases g0 : s.size = 0
  · have q0 : ((s.size : Int) < 1) = True := eq_true (by omega)
    have e0 : decide (s.size ≠ 0) = false := by simp [g0]
    simp (disch := omega) only [go_sem, and_self, and_true, true_and, false_and, and_false, Nat.reduceAdd, Nat.reduceMul, Nat.reduceSub, Nat.reduceLeDiff, Nat.reduceLT, Nat.reduceGT, Nat.reduceEqDiff, Nat.reduceBEq, Int.reduceNeg, Int.reduceEq, Int.reduceLT, Int.reduceLE, Int.reduceBEq, Int.reduceToNat, Int.toNat_natCast, Int.natCast_zero, r71_T, r71, q0, e0, decide_true, Bool.false_and]
  · have q0 : ((s.size : Int) < 1) = False := eq_false (by omega)
    have e0 : decide (s.size ≠ 0) = true := by simp [g0]
    by_cases g1 : s.size ≤ 16
    · have q1 : ((s.size : Int) > 16) = False := eq_false (by omega)
      have e1 : decide (s.size ≤ 16) = true := by simp [g1]
      have hlt : 0 < s.size := by omega
      obtain ⟨va, vd⟩ := bs_get hlt
      rw [List.drop_zero] at vd
      rw [e0, e1, Bool.true_and, Bool.true_and, vd, nmL, nmL_pos]
      rw [vd, List.all_cons] at hL
      have hd0 : decide ((0 : Nat) ≠ 0) = false := by simp
      simp only [hd0, Bool.and_false, Bool.or_false, lowB]
      by_cases g2 : ((s[0].toNat : Nat) : Int) < 97
      · have g2' : ¬ ((s[0].toNat : Nat) : Int) ≥ 97 := by omega
        simp (disch := omega) only [go_sem, and_self, and_true, true_and, false_and, and_false, Nat.reduceAdd, Nat.reduceMul, Nat.reduceSub, Nat.reduceLeDiff, Nat.reduceLT, Nat.reduceGT, Nat.reduceEqDiff, Nat.reduceBEq, Int.reduceNeg, Int.reduceEq, Int.reduceLT, Int.reduceLE, Int.reduceBEq, Int.reduceToNat, Int.toNat_natCast, Int.natCast_zero, r71_T, r71, q0, q1, va, g2, g2', decide_true, decide_false, Bool.false_and]
      · have g2' : ((s[0].toNat : Nat) : Int) ≥ 97 := by omega
        by_cases g3 : ((s[0].toNat : Nat) : Int) > 122
        · have g3' : ¬ ((s[0].toNat : Nat) : Int) ≤ 122 := by omega
          simp (disch := omega) only [go_sem, and_self, and_true, true_and, false_and, and_false, Nat.reduceAdd, Nat.reduceMul, Nat.reduceSub, Nat.reduceLeDiff, Nat.reduceLT, Nat.reduceGT, Nat.reduceEqDiff, Nat.reduceBEq, Int.reduceNeg, Int.reduceEq, Int.reduceLT, Int.reduceLE, Int.reduceBEq, Int.reduceToNat, Int.toNat_natCast, Int.natCast_zero, r71_T, r71, q0, q1, va, g2, g2', g3, g3', decide_true, decide_false, Bool.false_and, Bool.true_and]
        · have g3' : ((s[0].toNat : Nat) : Int) ≤ 122 := by omega
          have hld : ldB s[0] = true := by simp only [ldB, lowB, g2', g3', decide_true, Bool.true_and, Bool.true_or]
          rw [hld, Bool.true_and] at hL
          simp (disch := omega) only [go_sem, and_self, and_true, true_and, false_and, and_false, Nat.reduceAdd, Nat.reduceMul, Nat.reduceSub, Nat.reduceLeDiff, Nat.reduceLT, Nat.reduceGT, Nat.reduceEqDiff, Nat.reduceBEq, Int.reduceNeg, Int.reduceEq, Int.reduceLT, Int.reduceLE, Int.reduceBEq, Int.reduceToNat, Int.toNat_natCast, Int.natCast_zero, r71_T, r71, q0, q1, va, g2, g2', g3, g3', decide_true, decide_false, Bool.false_and, Bool.true_and]
          rw [r71_B0_n]
          erw [hL]
          rcases Bool.eq_false_or_eq_true (((bs s).drop (0 + 1)).all ldB) with g | g <;> rw [g] <;> simp only [go_sem, and_self, and_true, true_and, false_and, and_false, Nat.reduceAdd, Nat.reduceMul, Nat.reduceSub, Nat.reduceLeDiff, Nat.reduceLT, Nat.reduceGT, Nat.reduceEqDiff, Nat.reduceBEq, Int.reduceNeg, Int.reduceEq, Int.reduceLT, Int.reduceLE, Int.reduceBEq, Int.reduceToNat, Int.toNat_natCast, Int.natCast_zero]
    · have q1 : ((s.size : Int) > 16) = True := eq_true (by omega)
      have e1 : decide (s.size ≤ 16) = false := by simp [g1]
      simp (disch := omega) only [go_sem, and_self, and_true, true_and, false_and, and_false, Nat.reduceAdd, Nat.reduceMul, Nat.reduceSub, Nat.reduceLeDiff, Nat.reduceLT, Nat.reduceGT, Nat.reduceEqDiff, Nat.reduceBEq, Int.reduceNeg, Int.reduceEq, Int.reduceLT, Int.reduceLE, Int.reduceBEq, Int.reduceToNat, Int.toNat_natCast, Int.natCast_zero, r71_T, r71, q0, q1, e1, decide_true, decide_false, Bool.false_and, Bool.and_false]

def RmLoop (s : ByteArray) (i : Nat) : Prop :=
  V (F tab) r73_B0 (r73_S0 (.d (.str s)) (.d (iv i)) []) = some (.norm, r73_E0 (.d (iv (i + runL i ((bs s).drop i) : Nat))) [])
theorem rm_end (s : ByteArray) (i : Nat) (hi : s.size ≤ i) : RmLoop s i := by
  have h1 : ((i : Int) < (s.size : Int)) = False := eq_false (by omega)
  unfold RmLoop
  rw [r73_B0_eq, bs_end hi]
  simp (disch := omega) only [go_sem, and_self, and_true, true_and, false_and, and_false, Nat.reduceAdd, Nat.reduceMul, Nat.reduceSub, Nat.reduceLeDiff, Nat.reduceLT, Nat.reduceGT, Nat.reduceEqDiff, Nat.reduceBEq, Int.reduceNeg, Int.reduceEq, Int.reduceLT, Int.reduceLE, Int.reduceBEq, Int.reduceToNat, Int.toNat_natCast, Int.natCast_zero, r73_C0, h1, runL, Nat.add_zero]
theorem rm_step (s : ByteArray) (hs : s.size ≤ maxLen) (i : Nat) (hpos : 0 < i ∨ letB ((s.data.toList.getD i 0).toNat) = true) (hi : i < s.size) (ih : RmLoop s (i + 1)) : RmLoop s i := by
  have hmx : maxLen = 9223372036854775807 := by decide
  have h1 : ((i : Int) < (s.size : Int)) = True := eq_true (by omega)
  have hi0 : (0 ≤ (i : Int)) = True := eq_true (by omega)
  obtain ⟨va, vd⟩ := bs_get hi
  have hl := rletter_ok s[i].toNat
  have hd := rdigit_ok s[i].toNat
  have e1 : ((i + 1 : Nat) : Int) = (i : Int) + 1 := rfl
  have e2 : i + (runL (i + 1) ((bs s).drop (i + 1)) + 1) = i + 1 + runL (i + 1) ((bs s).drop (i + 1)) := by omega
  have eg : s.data.toList.getD i 0 = s[i] := by
    have e : s[i] = s.data.toList[i]'hi := rfl
    rw [e, List.getD_eq_getElem?_getD, List.getElem?_eq_getElem (show i < s.data.toList.length from hi), Option.getD_some]
  rw [eg] at hpos
  unfold RmLoop at ih ⊢
  rw [e1] at ih
  rw [r73_B0_eq, vd]
  simp only [runL, okI]
  rcases Bool.eq_false_or_eq_true (letB s[i].toNat) with g1 | g1
  · rw [g1] at hl
    simp (disch := omega) only [go_sem, and_self, and_true, true_and, false_and, and_false, Nat.reduceAdd, Nat.reduceMul, Nat.reduceSub, Nat.reduceLeDiff, Nat.reduceLT, Nat.reduceGT, Nat.reduceEqDiff, Nat.reduceBEq, Int.reduceNeg, Int.reduceEq, Int.reduceLT, Int.reduceLE, Int.reduceBEq, Int.reduceToNat, Int.toNat_natCast, Int.natCast_zero, r73_C0, h1, hi0, va, w64, hl, g1, Bool.true_or, e2]
    exact ih
  · have hp0 : decide (i > 0) = true := decide_eq_true (hpos.resolve_right (by rw [g1]; simp))
    rw [g1] at hl
    rcases Bool.eq_false_or_eq_true (digB s[i].toNat) with g3 | g3
    · rw [g3] at hd
      simp (disch := omega) only [go_sem, and_self, and_true, true_and, false_and, and_false, Nat.reduceAdd, Nat.reduceMul, Nat.reduceSub, Nat.reduceLeDiff, Nat.reduceLT, Nat.reduceGT, Nat.reduceEqDiff, Nat.reduceBEq, Int.reduceNeg, Int.reduceEq, Int.reduceLT, Int.reduceLE, Int.reduceBEq, Int.reduceToNat, Int.toNat_natCast, Int.natCast_zero, r73_C0, h1, hi0, va, w64, hl, hd, hp0, g1, g3, Bool.false_or, Bool.true_and, e2]
      exact ih
    · rw [g3] at hd
      simp (disch := omega) only [go_sem, and_self, and_true, true_and, false_and, and_false, Nat.reduceAdd, Nat.reduceMul, Nat.reduceSub, Nat.reduceLeDiff, Nat.reduceLT, Nat.reduceGT, Nat.reduceEqDiff, Nat.reduceBEq, Int.reduceNeg, Int.reduceEq, Int.reduceLT, Int.reduceLE, Int.reduceBEq, Int.reduceToNat, Int.toNat_natCast, Int.natCast_zero, r73_C0, h1, hi0, va, w64, hl, hd, hp0, g1, g3, Bool.false_or, Bool.and_false, Nat.add_zero]
theorem rm_loop (s : ByteArray) (hs : s.size ≤ maxLen) : ∀ (j i : Nat), i + j = s.size → (0 < i ∨ letB ((s.data.toList.getD i 0).toNat) = true) → RmLoop s i
  | 0, i, hi, _ => rm_end s i (by omega)
  | j + 1, i, hi, h => rm_step s hs i h (by omega) (rm_loop s hs j (i + 1) (by omega) (.inl (by omega)))
theorem rm_ok (s : ByteArray) (hs : s.size ≤ maxLen) (hp : List Ent) : F tab 73 [.d (.str s), .d (iv 0)] hp = some (.ret (.d (iv (runL 0 (bs s) : Nat))) hp) := by
  refine f73 rfl ?_
  by_cases g0 : s.size = 0
  · have q0 : ((0 : Int) ≥ (s.size : Int)) = True := eq_true (by omega)
    have hb : bs s = [] := List.eq_nil_of_length_eq_zero g0
    rw [hb, runL]
    simp (disch := omega) only [go_sem, and_self, and_true, true_and, false_and, and_false, Nat.reduceAdd, Nat.reduceMul, Nat.reduceSub, Nat.reduceLeDiff, Nat.reduceLT, Nat.reduceGT, Nat.reduceEqDiff, Nat.reduceBEq, Int.reduceNeg, Int.reduceEq, Int.reduceLT, Int.reduceLE, Int.reduceBEq, Int.reduceToNat, Int.toNat_natCast, Int.natCast_zero, r73_T, r73, q0, decide_true]
  · have q0 : ((0 : Int) ≥ (s.size : Int)) = False := eq_false (by omega)
    have hlt : 0 < s.size := by omega
    obtain ⟨va, vd⟩ := bs_get hlt
    have hl := rletter_ok s[0].toNat
    have eg : s.data.toList.getD 0 0 = s[0] := by
      have e : s[0] = s.data.toList[0]'hlt := rfl
      rw [e, List.getD_eq_getElem?_getD, List.getElem?_eq_getElem (show 0 < s.data.toList.length from hlt), Option.getD_some]
    rcases Bool.eq_false_or_eq_true (letB s[0].toNat) with g1 | g1
    · rw [g1] at hl
      have hL := rm_loop s hs s.size 0 (by omega) (.inr (by rw [eg]; exact g1))
      unfold RmLoop at hL
      rw [List.drop_zero, Nat.zero_add] at hL
      simp (disch := omega) only [go_sem, and_self, and_true, true_and, false_and, and_false, Nat.reduceAdd, Nat.reduceMul, Nat.reduceSub, Nat.reduceLeDiff, Nat.reduceLT, Nat.reduceGT, Nat.reduceEqDiff, Nat.reduceBEq, Int.reduceNeg, Int.reduceEq, Int.reduceLT, Int.reduceLE, Int.reduceBEq, Int.reduceToNat, Int.toNat_natCast, Int.natCast_zero, r73_T, r73, q0, va, hl, decide_false]
      rw [r73_B0_n]
      erw [hL]
      simp (disch := omega) only [go_sem, and_self, and_true, true_and, false_and, and_false, Nat.reduceAdd, Nat.reduceMul, Nat.reduceSub, Nat.reduceLeDiff, Nat.reduceLT, Nat.reduceGT, Nat.reduceEqDiff, Nat.reduceBEq, Int.reduceNeg, Int.reduceEq, Int.reduceLT, Int.reduceLE, Int.reduceBEq, Int.reduceToNat, Int.toNat_natCast, Int.natCast_zero]
    · rw [g1] at hl
      rw [List.drop_zero] at vd
      have e : runL 0 (bs s) = 0 := by rw [vd, runL, okI, g1]; simp
      rw [e]
      simp (disch := omega) only [go_sem, and_self, and_true, true_and, false_and, and_false, Nat.reduceAdd, Nat.reduceMul, Nat.reduceSub, Nat.reduceLeDiff, Nat.reduceLT, Nat.reduceGT, Nat.reduceEqDiff, Nat.reduceBEq, Int.reduceNeg, Int.reduceEq, Int.reduceLT, Int.reduceLE, Int.reduceBEq, Int.reduceToNat, Int.toNat_natCast, Int.natCast_zero, r73_T, r73, q0, va, hl, decide_false]

theorem rkeys_ok (hp : List Ent) : F tab 72 [] hp = some (.ret (.d (.sl (keysL.map .str))) hp) := by
  refine f72 rfl ?_
  simp only [go_sem, and_self, and_true, true_and, false_and, and_false, Nat.reduceAdd, Nat.reduceMul, Nat.reduceSub, Nat.reduceLeDiff, Nat.reduceLT, Nat.reduceGT, Nat.reduceEqDiff, Nat.reduceBEq, Int.reduceNeg, Int.reduceEq, Int.reduceLT, Int.reduceLE, Int.reduceBEq, Int.reduceToNat, Int.toNat_natCast, Int.natCast_zero, r72_T, r72, keysL, List.map_cons, List.map_nil]

def KyLoop (s : ByteArray) (l : List ByteArray) (i : Nat) : Prop :=
  V (F tab) r41_B0 (r41_S0 (.d (.str s)) (.d (.sl (l.map .str))) (.d (iv i)) []) = if hasB (l.drop i) s then some (.ret, r41_R (.d (.bool false)) []) else some (.norm, r41_E0 (.d (.str s)) [])
theorem ky_end (s : ByteArray) (l : List ByteArray) (i : Nat) (hi : l.length ≤ i) : KyLoop s l i := by
  have h1 : ((i : Int) < (l.length : Int)) = False := eq_false (by omega)
  unfold KyLoop
  rw [r41_B0_eq, List.drop_of_length_le hi]
  simp (disch := omega) only [go_sem, and_self, and_true, true_and, false_and, and_false, Nat.reduceAdd, Nat.reduceMul, Nat.reduceSub, Nat.reduceLeDiff, Nat.reduceLT, Nat.reduceGT, Nat.reduceEqDiff, Nat.reduceBEq, Int.reduceNeg, Int.reduceEq, Int.reduceLT, Int.reduceLE, Int.reduceBEq, Int.reduceToNat, Int.toNat_natCast, Int.natCast_zero, r41_C0, h1, List.length_map, hasB, List.any_nil]
theorem ky_step (s : ByteArray) (l : List ByteArray) (hl : l.length ≤ 1000) (i : Nat) (hi : i < l.length) (ih : KyLoop s l (i + 1)) : KyLoop s l i := by
  have h1 : ((i : Int) < (l.length : Int)) = True := eq_true (by omega)
  have hi0 : (0 ≤ (i : Int)) = True := eq_true (by omega)
  have va : (l.map D.str)[i]? = some (.str l[i]) := by simp [hi]
  unfold KyLoop at ih ⊢
  rw [Int.natCast_add, Int.natCast_one] at ih
  rw [r41_B0_eq, hasB_drop hi]
  rcases Bool.eq_false_or_eq_true (l[i].toList == s.toList) with g | g
  · simp (disch := omega) only [go_sem, and_self, and_true, true_and, false_and, and_false, Nat.reduceAdd, Nat.reduceMul, Nat.reduceSub, Nat.reduceLeDiff, Nat.reduceLT, Nat.reduceGT, Nat.reduceEqDiff, Nat.reduceBEq, Int.reduceNeg, Int.reduceEq, Int.reduceLT, Int.reduceLE, Int.reduceBEq, Int.reduceToNat, Int.toNat_natCast, Int.natCast_zero, r41_C0, h1, hi0, va, g, strD_eql, List.length_map, w64, Bool.true_or]
  · simp (disch := omega) only [go_sem, and_self, and_true, true_and, false_and, and_false, Nat.reduceAdd, Nat.reduceMul, Nat.reduceSub, Nat.reduceLeDiff, Nat.reduceLT, Nat.reduceGT, Nat.reduceEqDiff, Nat.reduceBEq, Int.reduceNeg, Int.reduceEq, Int.reduceLT, Int.reduceLE, Int.reduceBEq, Int.reduceToNat, Int.toNat_natCast, Int.natCast_zero, r41_C0, h1, hi0, va, g, strD_eql, List.length_map, w64, Bool.false_or]
    exact ih
theorem ky_loop (s : ByteArray) (l : List ByteArray) (hl : l.length ≤ 1000) : ∀ (j i : Nat), i + j = l.length → KyLoop s l i
  | 0, i, hi => ky_end s l i (by omega)
  | j + 1, i, hi => ky_step s l hl i (by omega) (ky_loop s l hl j (i + 1) (by omega))
theorem keyB_has (s : ByteArray) : keyB s = hasB keysL s := by
  have : ∀ l : List ByteArray, (l.any fun k => s.toList == k.toList) = hasB l s := by
    intro l
    induction l with
    | nil => rfl
    | cons a l ih => simp only [List.any_cons, hasB] at ih ⊢; rw [ih, BEq.comm]
  exact this keysL
theorem rident_ok (s : ByteArray) (hs : s.size ≤ maxLen) (hp : List Ent) : F tab 41 [.d (.str s)] hp = some (.ret (.d (.bool (identB s))) hp) := by
  have e := isE s
  have hw := rm_ok s hs
  have hk := keyB_has s
  have hL := ky_loop s keysL (by decide) keysL.length 0 (by omega)
  unfold KyLoop at hL
  rw [List.drop_zero, ← hk] at hL
  have e2 : decide ((s.size : Int) ≤ 16) = decide (s.size ≤ 16) := by by_cases h : s.size ≤ 16 <;> simp [h] <;> omega
  have e3 : ((runL 0 (bs s) : Int) == (s.size : Int)) = decide (runL 0 (bs s) = s.size) := by by_cases h : runL 0 (bs s) = s.size <;> simp [h] <;> omega
  refine f41 rfl ?_
  unfold identB
  simp (disch := omega) only [go_sem, and_self, and_true, true_and, false_and, and_false, Nat.reduceAdd, Nat.reduceMul, Nat.reduceSub, Nat.reduceLeDiff, Nat.reduceLT, Nat.reduceGT, Nat.reduceEqDiff, Nat.reduceBEq, Int.reduceNeg, Int.reduceEq, Int.reduceLT, Int.reduceLE, Int.reduceBEq, Int.reduceToNat, Int.toNat_natCast, Int.natCast_zero, r41_T, r41, rkeys_ok]
  rw [r41_B0_n]
  erw [hL]
  rcases Bool.eq_false_or_eq_true (keyB s) with g0 | g0
  · rw [g0]
    simp (disch := omega) only [go_sem, and_self, and_true, true_and, false_and, and_false, Nat.reduceAdd, Nat.reduceMul, Nat.reduceSub, Nat.reduceLeDiff, Nat.reduceLT, Nat.reduceGT, Nat.reduceEqDiff, Nat.reduceBEq, Int.reduceNeg, Int.reduceEq, Int.reduceLT, Int.reduceLE, Int.reduceBEq, Int.reduceToNat, Int.toNat_natCast, Int.natCast_zero, Bool.not_true, Bool.and_false]
  · rw [g0]
    rcases Bool.eq_false_or_eq_true (decide (s.size ≠ 0)) with g1 | g1
    · rcases Bool.eq_false_or_eq_true (decide (s.size ≤ 16)) with g2 | g2 <;>
        simp (disch := omega) only [go_sem, and_self, and_true, true_and, false_and, and_false, Nat.reduceAdd, Nat.reduceMul, Nat.reduceSub, Nat.reduceLeDiff, Nat.reduceLT, Nat.reduceGT, Nat.reduceEqDiff, Nat.reduceBEq, Int.reduceNeg, Int.reduceEq, Int.reduceLT, Int.reduceLE, Int.reduceBEq, Int.reduceToNat, Int.toNat_natCast, Int.natCast_zero, strD_neq, e, e2, e3, g1, g2, hw, Bool.not_true, Bool.not_false, Bool.true_and, Bool.false_and, Bool.and_true]
    · simp (disch := omega) only [go_sem, and_self, and_true, true_and, false_and, and_false, Nat.reduceAdd, Nat.reduceMul, Nat.reduceSub, Nat.reduceLeDiff, Nat.reduceLT, Nat.reduceGT, Nat.reduceEqDiff, Nat.reduceBEq, Int.reduceNeg, Int.reduceEq, Int.reduceLT, Int.reduceLE, Int.reduceBEq, Int.reduceToNat, Int.toNat_natCast, Int.natCast_zero, strD_neq, e, g1, Bool.not_true, Bool.not_false, Bool.true_and, Bool.false_and]
end Go.Pe.T

namespace Go.Pe.T

/-! ### a sign's bytes -/
def putI (c : Int) : List Int :=
  if c < 128 then [c] else if c < 2048 then [192 + c / 64, 128 + c % 64] else if c < 65536 then [224 + c / 4096, 128 + c / 64 % 64, 128 + c % 64]
  else [240 + c / 262144, 128 + c / 4096 % 64, 128 + c / 64 % 64, 128 + c % 64]
theorem put_ok (c : Int) (h0 : 0 ≤ c) (h1 : c ≤ 2097151) (hp : List Ent) : F tab 103 [.d (iv c)] hp = some (.ret (.d (.sl ((putI c).map (D.int .u8)))) hp) := by
  refine f103 rfl ?_
  unfold putI
  have e1 : c.tdiv 64 = c / 64 := Int.tdiv_eq_ediv_of_nonneg h0
  have e2 : c.tdiv 4096 = c / 4096 := Int.tdiv_eq_ediv_of_nonneg h0
  have e3 : c.tdiv 262144 = c / 262144 := Int.tdiv_eq_ediv_of_nonneg h0
  have e4 : c.tmod 64 = c % 64 := Int.tmod_eq_emod_of_nonneg h0
  have e5 : (c / 64).tmod 64 = c / 64 % 64 := Int.tmod_eq_emod_of_nonneg (by omega)
  have e6 : (c / 4096).tmod 64 = c / 4096 % 64 := Int.tmod_eq_emod_of_nonneg (by omega)
  by_cases g1 : c < 128
  · simp (disch := omega) only [go_sem, and_self, and_true, true_and, false_and, and_false, Nat.reduceAdd, Nat.reduceMul, Nat.reduceSub, Nat.reduceLeDiff, Nat.reduceLT, Nat.reduceGT, Nat.reduceEqDiff, Nat.reduceBEq, Int.reduceNeg, Int.reduceEq, Int.reduceLT, Int.reduceLE, Int.reduceBEq, Int.reduceToNat, Int.toNat_natCast, Int.natCast_zero, r103_T, r103, g1, wu8, List.map_cons, List.map_nil]
  · by_cases g2 : c < 2048
    · simp (disch := omega) only [go_sem, and_self, and_true, true_and, false_and, and_false, Nat.reduceAdd, Nat.reduceMul, Nat.reduceSub, Nat.reduceLeDiff, Nat.reduceLT, Nat.reduceGT, Nat.reduceEqDiff, Nat.reduceBEq, Int.reduceNeg, Int.reduceEq, Int.reduceLT, Int.reduceLE, Int.reduceBEq, Int.reduceToNat, Int.toNat_natCast, Int.natCast_zero, r103_T, r103, g1, g2, w64, wu8, e1, e4, List.map_cons, List.map_nil]
    · by_cases g3 : c < 65536
      · simp (disch := omega) only [go_sem, and_self, and_true, true_and, false_and, and_false, Nat.reduceAdd, Nat.reduceMul, Nat.reduceSub, Nat.reduceLeDiff, Nat.reduceLT, Nat.reduceGT, Nat.reduceEqDiff, Nat.reduceBEq, Int.reduceNeg, Int.reduceEq, Int.reduceLT, Int.reduceLE, Int.reduceBEq, Int.reduceToNat, Int.toNat_natCast, Int.natCast_zero, r103_T, r103, g1, g2, g3, w64, wu8, e1, e2, e4, e5, List.map_cons, List.map_nil]
      · simp (disch := omega) only [go_sem, and_self, and_true, true_and, false_and, and_false, Nat.reduceAdd, Nat.reduceMul, Nat.reduceSub, Nat.reduceLeDiff, Nat.reduceLT, Nat.reduceGT, Nat.reduceEqDiff, Nat.reduceBEq, Int.reduceNeg, Int.reduceEq, Int.reduceLT, Int.reduceLE, Int.reduceBEq, Int.reduceToNat, Int.toNat_natCast, Int.natCast_zero, r103_T, r103, g1, g2, g3, w64, wu8, e1, e2, e3, e4, e5, e6, List.map_cons, List.map_nil]
end Go.Pe.T

namespace Go.Pe.T

/-! ### a text's signs -/
def cdec : Int → List UInt8 → Nat → Int
  | c, _, 0 => c
  | c, [], _ + 1 => c
  | c, d :: r, k + 1 => cdec (64 * c + (d.toNat : Int) - 128) r k

def CiLoop (s : ByteArray) (l : List Int) (i n k : Nat) (c : Int) : Prop :=
  V (F tab) r82_B1 (r82_S1 (.d (.str s)) (.own 3 (l.map iv)) (.d (iv i)) (.d (iv n)) (.d (iv c)) (.d (iv k)) []) =
    if conts ((bs s).drop (i + k)) (n - k) then some (.norm, r82_E1 (.d (.str s)) (.own 3 (l.map iv)) (.d (iv i)) (.d (iv n)) (.d (iv (cdec c ((bs s).drop (i + k)) (n - k)))) [])
    else some (.ret, r82_R (.d (.sl [])) (.d (.bool false)) [])
theorem ci_end (s : ByteArray) (l : List Int) (i n k : Nat) (c : Int) (hk : n ≤ k) : CiLoop s l i n k c := by
  have h1 : ((k : Int) < (n : Int)) = False := eq_false (by omega)
  unfold CiLoop
  rw [r82_B1_eq, show n - k = 0 by omega]
  simp (disch := omega) only [go_sem, and_self, and_true, true_and, false_and, and_false, Nat.reduceAdd, Nat.reduceMul, Nat.reduceSub, Nat.reduceLeDiff, Nat.reduceLT, Nat.reduceGT, Nat.reduceEqDiff, Nat.reduceBEq, Int.reduceNeg, Int.reduceEq, Int.reduceLT, Int.reduceLE, Int.reduceBEq, Int.reduceToNat, Int.toNat_natCast, Int.natCast_zero, r82_C1, h1, conts, cdec]
theorem ci_step (s : ByteArray) (hs : s.size ≤ 1000000000) (l : List Int) (i n k : Nat) (c : Int) (hn : i + n ≤ s.size) (hk : k < n) (h4 : n ≤ 4) (hc : 0 ≤ c ∧ c ≤ 100000000) (ih : ∀ c' : Int, 0 ≤ c' → c' ≤ 64 * c + 63 → c' = 64 * c + (((bs s).drop (i + k)).headD 0).toNat - 128 → CiLoop s l i n (k + 1) c') : CiLoop s l i n k c := by
  have h1 : ((k : Int) < (n : Int)) = True := eq_true (by omega)
  have hi0 : (0 ≤ (i : Int) + (k : Int)) = True := eq_true (by omega)
  have ei : ((i : Int) + (k : Int)).toNat = i + k := by omega
  have hlt : i + k < s.size := by omega
  obtain ⟨va, vd⟩ := bs_get hlt
  have hb : s[i + k].toNat < 256 := UInt8.toNat_lt _
  have en : n - k = (n - (k + 1)) + 1 := by omega
  rw [vd] at ih
  simp only [List.headD_cons] at ih
  unfold CiLoop at ih ⊢
  rw [r82_B1_eq, vd, en]
  simp only [conts, cdec, contB]
  by_cases g1 : ((s[i + k].toNat : Nat) : Int) < 128
  · simp (disch := omega) only [go_sem, and_self, and_true, true_and, false_and, and_false, Nat.reduceAdd, Nat.reduceMul, Nat.reduceSub, Nat.reduceLeDiff, Nat.reduceLT, Nat.reduceGT, Nat.reduceEqDiff, Nat.reduceBEq, Int.reduceNeg, Int.reduceEq, Int.reduceLT, Int.reduceLE, Int.reduceBEq, Int.reduceToNat, Int.toNat_natCast, Int.natCast_zero, r82_C1, h1, hi0, ei, va, w64, g1, decide_true, Bool.not_true, Bool.false_and]
  · by_cases g2 : ((s[i + k].toNat : Nat) : Int) > 191
    · simp (disch := omega) only [go_sem, and_self, and_true, true_and, false_and, and_false, Nat.reduceAdd, Nat.reduceMul, Nat.reduceSub, Nat.reduceLeDiff, Nat.reduceLT, Nat.reduceGT, Nat.reduceEqDiff, Nat.reduceBEq, Int.reduceNeg, Int.reduceEq, Int.reduceLT, Int.reduceLE, Int.reduceBEq, Int.reduceToNat, Int.toNat_natCast, Int.natCast_zero, r82_C1, h1, hi0, ei, va, w64, g1, g2, decide_true, decide_false, Bool.not_true, Bool.not_false, Bool.false_and, Bool.true_and]
    · have ih := ih _ (by omega) (by omega) rfl
      rw [Int.natCast_add, Int.natCast_one, ← Nat.add_assoc] at ih
      simp (disch := omega) only [go_sem, and_self, and_true, true_and, false_and, and_false, Nat.reduceAdd, Nat.reduceMul, Nat.reduceSub, Nat.reduceLeDiff, Nat.reduceLT, Nat.reduceGT, Nat.reduceEqDiff, Nat.reduceBEq, Int.reduceNeg, Int.reduceEq, Int.reduceLT, Int.reduceLE, Int.reduceBEq, Int.reduceToNat, Int.toNat_natCast, Int.natCast_zero, r82_C1, h1, hi0, ei, va, w64, g1, g2, decide_true, decide_false, Bool.not_true, Bool.not_false, Bool.false_and, Bool.true_and]
      exact ih
theorem ci_loop (s : ByteArray) (hs : s.size ≤ 1000000000) (l : List Int) (i n : Nat) (hn : i + n ≤ s.size) (h4 : n ≤ 4) : ∀ (j k : Nat) (c : Int), k + j = n → 0 ≤ c → (c + 1) * 64 ^ j ≤ 100000000 → CiLoop s l i n k c
  | 0, k, c, hk, h0, hc => ci_end s l i n k c (by omega)
  | j + 1, k, c, hk, h0, hc => by
    have hp : (1 : Int) ≤ 64 ^ j := by exact_mod_cast Nat.one_le_pow j 64 (by omega)
    have e : (64 : Int) ^ (j + 1) = 64 * 64 ^ j := by rw [Int.pow_succ]; exact Int.mul_comm _ _
    rw [e] at hc
    have hc2 : (c + 1) * 64 * 64 ^ j ≤ 100000000 := by rw [Int.mul_assoc]; exact hc
    have hle : (c + 1) * 64 * 1 ≤ (c + 1) * 64 * 64 ^ j := Int.mul_le_mul_of_nonneg_left hp (by omega)
    refine ci_step s hs l i n k c hn (by omega) h4 ⟨h0, by omega⟩ fun c' h1 h2 _ => ci_loop s hs l i n hn h4 j (k + 1) c' (by omega) h1 ?_
    have : (c' + 1) * 64 ^ j ≤ (c + 1) * 64 * 64 ^ j := Int.mul_le_mul_of_nonneg_right (by omega) (by omega)
    omega

def ub (x : Int) : UInt8 := UInt8.ofNat x.toNat
theorem put_bytes : ∀ (p : List Int), optAll ((p.map (D.int .u8)).map asByte) = some (p.map ub)
  | [] => rfl
  | x :: p => by simp only [List.map_cons, asByte, optAll, put_bytes p]; rfl
/-- are a sign's bytes those that stand there -/
def okC (s : ByteArray) (i n : Nat) (c : Int) : Bool := !(decide (c > 1114111) || (decide (c ≥ 55296) && decide (c < 57344))) && ((putI c).map ub == ((bs s).drop i).take n)
theorem bs_cut (s : ByteArray) (i j : Nat) : bs (s.extract i j) = ((bs s).drop i).take (j - i) := by
  simp [bs, ByteArray.data_extract, List.drop_take]
theorem cmp_put (s : ByteArray) (i n : Nat) (p : List UInt8) : ((⟨p.toArray⟩ : ByteArray).toList == (s.extract i (i + n)).toList) = (p == ((bs s).drop i).take n) := by
  have e : bs (⟨p.toArray⟩ : ByteArray) = p := by simp [bs]
  rw [bs_toList, bs_toList, bs_cut, e, show i + n - i = n by omega]
theorem cdec_le : ∀ (r : List UInt8) (j : Nat) (c : Int), 0 ≤ c → conts r j = true → 0 ≤ cdec c r j ∧ cdec c r j + 1 ≤ (c + 1) * 64 ^ j
  | r, 0, c, h0, h => by simp [cdec]; omega
  | [], j + 1, c, h0, h => by simp [conts] at h
  | d :: r, j + 1, c, h0, h => by
    simp only [conts, contB, Bool.and_eq_true, Bool.not_eq_true', decide_eq_false_iff_not] at h
    obtain ⟨i1, i2⟩ := cdec_le r j (64 * c + (d.toNat : Int) - 128) (by omega) h.2
    have e : (64 : Int) ^ (j + 1) = 64 * 64 ^ j := by rw [Int.pow_succ]; exact Int.mul_comm _ _
    have hp : (1 : Int) ≤ 64 ^ j := by exact_mod_cast Nat.one_le_pow j 64 (by omega)
    have h3 : (64 * c + (d.toNat : Int) - 128 + 1) * 64 ^ j ≤ ((c + 1) * 64) * 64 ^ j := Int.mul_le_mul_of_nonneg_right (by omega) (by omega)
    simp only [cdec]
    rw [e, ← Int.mul_assoc]
    omega

theorem sg_1 (s : ByteArray) (hs : s.size ≤ 2097152) (l : List Int) (hl : l.length ≤ 2097152) (i : Nat) (hi : i < s.size) (h1 : ((s[i].toNat : Nat) : Int) ≥ 0) (h2 : ((s[i].toNat : Nat) : Int) ≤ 127) :
    V (F tab) r82_B0 (r82_S0 (.d (.str s)) (.own 3 (l.map iv)) (.d (iv i)) []) =
      if decide (i + 1 ≤ s.size) && (conts ((bs s).drop (i + 1)) 0 && okC s i 1 (cdec ((s[i].toNat : Nat) : Int) ((bs s).drop (i + 1)) 0)) then
        V (F tab) r82_B0 (r82_S0 (.d (.str s)) (.own 3 ((l ++ [(cdec ((s[i].toNat : Nat) : Int) ((bs s).drop (i + 1)) 0)]).map iv)) (.d (iv (i + 1 : Nat))) [])
      else some (.ret, r82_R (.d (.sl [])) (.d (.bool false)) []) := by
  have q1 : ((i : Int) < (s.size : Int)) = True := eq_true (by omega)
  have hi0 : (0 ≤ (i : Int)) = True := eq_true (by omega)
  obtain ⟨va, vd⟩ := bs_get hi
  have xa : (((s[i].toNat : Nat) : Int) ≥ 240) = False := eq_false (by omega)
  have xd : (((s[i].toNat : Nat) : Int) ≥ 224) = False := eq_false (by omega)
  have xe : (((s[i].toNat : Nat) : Int) ≥ 192) = False := eq_false (by omega)
  have xg : (((s[i].toNat : Nat) : Int) ≥ 248) = False := eq_false (by omega)
  have xh : (((s[i].toNat : Nat) : Int) ≥ 128) = False := eq_false (by omega)
  rw [r82_B0_eq]
  by_cases g : i + 1 ≤ s.size
  · have q2 : ((i : Int) + 1 > (s.size : Int)) = False := eq_false (by omega)
    have hL := ci_loop s (by omega) l i 1 g (by omega) 0 1 ((s[i].toNat : Nat) : Int) (by omega) (by omega) (by simp only [Int.reducePow]; omega)
    unfold CiLoop at hL
    rw [show 1 - 1 = 0 from rfl] at hL
    rw [decide_eq_true g, Bool.true_and]
    simp (disch := omega) only [go_sem, and_self, and_true, true_and, false_and, and_false, Nat.reduceAdd, Nat.reduceMul, Nat.reduceSub, Nat.reduceLeDiff, Nat.reduceLT, Nat.reduceGT, Nat.reduceEqDiff, Nat.reduceBEq, Int.reduceNeg, Int.reduceEq, Int.reduceLT, Int.reduceLE, Int.reduceBEq, Int.reduceToNat, Int.toNat_natCast, Int.natCast_zero, r82_C0, q1, hi0, va, xa, xd, xe, xg, xh, w64, q2]
    rw [r82_B1_n]
    erw [hL]
    rcases Bool.eq_false_or_eq_true (conts ((bs s).drop (i + 1)) 0) with g2 | g2
    · obtain ⟨d1, d2⟩ := cdec_le _ _ ((s[i].toNat : Nat) : Int) (by omega) g2
      have d3 : (cdec ((s[i].toNat : Nat) : Int) ((bs s).drop (i + 1)) 0) ≤ 2097151 := by simp only [Int.reducePow] at d2; omega
      have hput := put_ok (cdec ((s[i].toNat : Nat) : Int) ((bs s).drop (i + 1)) 0) d1 d3
      rw [g2]
      simp only [if_true, Bool.true_and, okC]
      generalize (cdec ((s[i].toNat : Nat) : Int) ((bs s).drop (i + 1)) 0) = c at *
      have r1 : ((l.length + 1) * 8 ≤ maxRow) = True := eq_true (by simp only [maxRow]; omega)
      have hcmp := cmp_put s i 1 ((putI c).map ub)
      have et : ((i : Int) + ((1 : Nat) : Int)).toNat = i + 1 := by omega
      have q3 : ((i : Int) ≤ (i : Int) + ((1 : Nat) : Int)) = True := eq_true (by omega)
      have q4 : ((i : Int) + ((1 : Nat) : Int) ≤ (s.size : Int)) = True := eq_true (by omega)
      have ea : l.map iv ++ [iv c] = (l ++ [c]).map iv := by simp
      have all8 : ([iv c].all fun y => y.width == 1) = true := rfl
      rw [Int.natCast_add]
      by_cases k1 : c > 1114111
      · simp (disch := omega) only [go_sem, and_self, and_true, true_and, false_and, and_false, Nat.reduceAdd, Nat.reduceMul, Nat.reduceSub, Nat.reduceLeDiff, Nat.reduceLT, Nat.reduceGT, Nat.reduceEqDiff, Nat.reduceBEq, Int.reduceNeg, Int.reduceEq, Int.reduceLT, Int.reduceLE, Int.reduceBEq, Int.reduceToNat, Int.toNat_natCast, Int.natCast_zero, k1, decide_true, Bool.true_or, Bool.not_true, Bool.false_and]
      · by_cases k2 : c ≥ 55296
        · exfalso
          simp only [Int.reducePow] at d2
          omega
        · rcases Bool.eq_false_or_eq_true ((putI c).map ub == ((bs s).drop i).take 1) with k4 | k4 <;> rw [k4] at hcmp <;>
            simp (disch := omega) only [go_sem, and_self, and_true, true_and, false_and, and_false, Nat.reduceAdd, Nat.reduceMul, Nat.reduceSub, Nat.reduceLeDiff, Nat.reduceLT, Nat.reduceGT, Nat.reduceEqDiff, Nat.reduceBEq, Int.reduceNeg, Int.reduceEq, Int.reduceLT, Int.reduceLE, Int.reduceBEq, Int.reduceToNat, Int.toNat_natCast, Int.natCast_zero, k1, k2, k4, hput, put_bytes, hcmp, strD_neq, et, q3, q4, hi0, w64, r1, all8, ea, List.length_map, decide_true, decide_false, Bool.or_self, Bool.false_and, Bool.and_true, Bool.and_false, Bool.not_false, Bool.not_true, Int.toNat_natCast] <;> rfl
    · rw [g2]
      simp (disch := omega) only [go_sem, and_self, and_true, true_and, false_and, and_false, Nat.reduceAdd, Nat.reduceMul, Nat.reduceSub, Nat.reduceLeDiff, Nat.reduceLT, Nat.reduceGT, Nat.reduceEqDiff, Nat.reduceBEq, Int.reduceNeg, Int.reduceEq, Int.reduceLT, Int.reduceLE, Int.reduceBEq, Int.reduceToNat, Int.toNat_natCast, Int.natCast_zero, Bool.false_and]
  · have q2 : ((i : Int) + 1 > (s.size : Int)) = True := eq_true (by omega)
    rw [decide_eq_false g, Bool.false_and]
    simp (disch := omega) only [go_sem, and_self, and_true, true_and, false_and, and_false, Nat.reduceAdd, Nat.reduceMul, Nat.reduceSub, Nat.reduceLeDiff, Nat.reduceLT, Nat.reduceGT, Nat.reduceEqDiff, Nat.reduceBEq, Int.reduceNeg, Int.reduceEq, Int.reduceLT, Int.reduceLE, Int.reduceBEq, Int.reduceToNat, Int.toNat_natCast, Int.natCast_zero, r82_C0, q1, hi0, va, xa, xd, xe, xg, xh, w64, q2]

theorem sg_2 (s : ByteArray) (hs : s.size ≤ 2097152) (l : List Int) (hl : l.length ≤ 2097152) (i : Nat) (hi : i < s.size) (h1 : ((s[i].toNat : Nat) : Int) ≥ 192) (h2 : ((s[i].toNat : Nat) : Int) ≤ 223) :
    V (F tab) r82_B0 (r82_S0 (.d (.str s)) (.own 3 (l.map iv)) (.d (iv i)) []) =
      if decide (i + 2 ≤ s.size) && (conts ((bs s).drop (i + 1)) 1 && okC s i 2 (cdec (((s[i].toNat : Nat) : Int) - 192) ((bs s).drop (i + 1)) 1)) then
        V (F tab) r82_B0 (r82_S0 (.d (.str s)) (.own 3 ((l ++ [(cdec (((s[i].toNat : Nat) : Int) - 192) ((bs s).drop (i + 1)) 1)]).map iv)) (.d (iv (i + 2 : Nat))) [])
      else some (.ret, r82_R (.d (.sl [])) (.d (.bool false)) []) := by
  have q1 : ((i : Int) < (s.size : Int)) = True := eq_true (by omega)
  have hi0 : (0 ≤ (i : Int)) = True := eq_true (by omega)
  obtain ⟨va, vd⟩ := bs_get hi
  have xa : (((s[i].toNat : Nat) : Int) ≥ 240) = False := eq_false (by omega)
  have xd : (((s[i].toNat : Nat) : Int) ≥ 224) = False := eq_false (by omega)
  have xe : (((s[i].toNat : Nat) : Int) ≥ 192) = True := eq_true (by omega)
  have xg : (((s[i].toNat : Nat) : Int) ≥ 248) = False := eq_false (by omega)
  have xh : (((s[i].toNat : Nat) : Int) ≥ 128) = True := eq_true (by omega)
  have xm : (((s[i].toNat : Nat) : Int) < 192) = False := eq_false (by omega)
  rw [r82_B0_eq]
  by_cases g : i + 2 ≤ s.size
  · have q2 : ((i : Int) + 2 > (s.size : Int)) = False := eq_false (by omega)
    have hL := ci_loop s (by omega) l i 2 g (by omega) 1 1 (((s[i].toNat : Nat) : Int) - 192) (by omega) (by omega) (by simp only [Int.reducePow]; omega)
    unfold CiLoop at hL
    rw [show 2 - 1 = 1 from rfl] at hL
    rw [decide_eq_true g, Bool.true_and]
    simp (disch := omega) only [go_sem, and_self, and_true, true_and, false_and, and_false, Nat.reduceAdd, Nat.reduceMul, Nat.reduceSub, Nat.reduceLeDiff, Nat.reduceLT, Nat.reduceGT, Nat.reduceEqDiff, Nat.reduceBEq, Int.reduceNeg, Int.reduceEq, Int.reduceLT, Int.reduceLE, Int.reduceBEq, Int.reduceToNat, Int.toNat_natCast, Int.natCast_zero, r82_C0, q1, hi0, va, xa, xd, xe, xg, xh, xm, w64, q2]
    rw [r82_B1_n]
    erw [hL]
    rcases Bool.eq_false_or_eq_true (conts ((bs s).drop (i + 1)) 1) with g2 | g2
    · obtain ⟨d1, d2⟩ := cdec_le _ _ (((s[i].toNat : Nat) : Int) - 192) (by omega) g2
      have d3 : (cdec (((s[i].toNat : Nat) : Int) - 192) ((bs s).drop (i + 1)) 1) ≤ 2097151 := by simp only [Int.reducePow] at d2; omega
      have hput := put_ok (cdec (((s[i].toNat : Nat) : Int) - 192) ((bs s).drop (i + 1)) 1) d1 d3
      rw [g2]
      simp only [if_true, Bool.true_and, okC]
      generalize (cdec (((s[i].toNat : Nat) : Int) - 192) ((bs s).drop (i + 1)) 1) = c at *
      have r1 : ((l.length + 1) * 8 ≤ maxRow) = True := eq_true (by simp only [maxRow]; omega)
      have hcmp := cmp_put s i 2 ((putI c).map ub)
      have et : ((i : Int) + ((2 : Nat) : Int)).toNat = i + 2 := by omega
      have q3 : ((i : Int) ≤ (i : Int) + ((2 : Nat) : Int)) = True := eq_true (by omega)
      have q4 : ((i : Int) + ((2 : Nat) : Int) ≤ (s.size : Int)) = True := eq_true (by omega)
      have ea : l.map iv ++ [iv c] = (l ++ [c]).map iv := by simp
      have all8 : ([iv c].all fun y => y.width == 1) = true := rfl
      rw [Int.natCast_add]
      by_cases k1 : c > 1114111
      · simp (disch := omega) only [go_sem, and_self, and_true, true_and, false_and, and_false, Nat.reduceAdd, Nat.reduceMul, Nat.reduceSub, Nat.reduceLeDiff, Nat.reduceLT, Nat.reduceGT, Nat.reduceEqDiff, Nat.reduceBEq, Int.reduceNeg, Int.reduceEq, Int.reduceLT, Int.reduceLE, Int.reduceBEq, Int.reduceToNat, Int.toNat_natCast, Int.natCast_zero, k1, decide_true, Bool.true_or, Bool.not_true, Bool.false_and]
      · by_cases k2 : c ≥ 55296
        · exfalso
          simp only [Int.reducePow] at d2
          omega
        · rcases Bool.eq_false_or_eq_true ((putI c).map ub == ((bs s).drop i).take 2) with k4 | k4 <;> rw [k4] at hcmp <;>
            simp (disch := omega) only [go_sem, and_self, and_true, true_and, false_and, and_false, Nat.reduceAdd, Nat.reduceMul, Nat.reduceSub, Nat.reduceLeDiff, Nat.reduceLT, Nat.reduceGT, Nat.reduceEqDiff, Nat.reduceBEq, Int.reduceNeg, Int.reduceEq, Int.reduceLT, Int.reduceLE, Int.reduceBEq, Int.reduceToNat, Int.toNat_natCast, Int.natCast_zero, k1, k2, k4, hput, put_bytes, hcmp, strD_neq, et, q3, q4, hi0, w64, r1, all8, ea, List.length_map, decide_true, decide_false, Bool.or_self, Bool.false_and, Bool.and_true, Bool.and_false, Bool.not_false, Bool.not_true, Int.toNat_natCast] <;> rfl
    · rw [g2]
      simp (disch := omega) only [go_sem, and_self, and_true, true_and, false_and, and_false, Nat.reduceAdd, Nat.reduceMul, Nat.reduceSub, Nat.reduceLeDiff, Nat.reduceLT, Nat.reduceGT, Nat.reduceEqDiff, Nat.reduceBEq, Int.reduceNeg, Int.reduceEq, Int.reduceLT, Int.reduceLE, Int.reduceBEq, Int.reduceToNat, Int.toNat_natCast, Int.natCast_zero, Bool.false_and]
  · have q2 : ((i : Int) + 2 > (s.size : Int)) = True := eq_true (by omega)
    rw [decide_eq_false g, Bool.false_and]
    simp (disch := omega) only [go_sem, and_self, and_true, true_and, false_and, and_false, Nat.reduceAdd, Nat.reduceMul, Nat.reduceSub, Nat.reduceLeDiff, Nat.reduceLT, Nat.reduceGT, Nat.reduceEqDiff, Nat.reduceBEq, Int.reduceNeg, Int.reduceEq, Int.reduceLT, Int.reduceLE, Int.reduceBEq, Int.reduceToNat, Int.toNat_natCast, Int.natCast_zero, r82_C0, q1, hi0, va, xa, xd, xe, xg, xh, xm, w64, q2]

theorem sg_3 (s : ByteArray) (hs : s.size ≤ 2097152) (l : List Int) (hl : l.length ≤ 2097152) (i : Nat) (hi : i < s.size) (h1 : ((s[i].toNat : Nat) : Int) ≥ 224) (h2 : ((s[i].toNat : Nat) : Int) ≤ 239) :
    V (F tab) r82_B0 (r82_S0 (.d (.str s)) (.own 3 (l.map iv)) (.d (iv i)) []) =
      if decide (i + 3 ≤ s.size) && (conts ((bs s).drop (i + 1)) 2 && okC s i 3 (cdec (((s[i].toNat : Nat) : Int) - 224) ((bs s).drop (i + 1)) 2)) then
        V (F tab) r82_B0 (r82_S0 (.d (.str s)) (.own 3 ((l ++ [(cdec (((s[i].toNat : Nat) : Int) - 224) ((bs s).drop (i + 1)) 2)]).map iv)) (.d (iv (i + 3 : Nat))) [])
      else some (.ret, r82_R (.d (.sl [])) (.d (.bool false)) []) := by
  have q1 : ((i : Int) < (s.size : Int)) = True := eq_true (by omega)
  have hi0 : (0 ≤ (i : Int)) = True := eq_true (by omega)
  obtain ⟨va, vd⟩ := bs_get hi
  have xa : (((s[i].toNat : Nat) : Int) ≥ 240) = False := eq_false (by omega)
  have xd : (((s[i].toNat : Nat) : Int) ≥ 224) = True := eq_true (by omega)
  have xg : (((s[i].toNat : Nat) : Int) ≥ 248) = False := eq_false (by omega)
  have xh : (((s[i].toNat : Nat) : Int) ≥ 128) = True := eq_true (by omega)
  have xm : (((s[i].toNat : Nat) : Int) < 192) = False := eq_false (by omega)
  rw [r82_B0_eq]
  by_cases g : i + 3 ≤ s.size
  · have q2 : ((i : Int) + 3 > (s.size : Int)) = False := eq_false (by omega)
    have hL := ci_loop s (by omega) l i 3 g (by omega) 2 1 (((s[i].toNat : Nat) : Int) - 224) (by omega) (by omega) (by simp only [Int.reducePow]; omega)
    unfold CiLoop at hL
    rw [show 3 - 1 = 2 from rfl] at hL
    rw [decide_eq_true g, Bool.true_and]
    simp (disch := omega) only [go_sem, and_self, and_true, true_and, false_and, and_false, Nat.reduceAdd, Nat.reduceMul, Nat.reduceSub, Nat.reduceLeDiff, Nat.reduceLT, Nat.reduceGT, Nat.reduceEqDiff, Nat.reduceBEq, Int.reduceNeg, Int.reduceEq, Int.reduceLT, Int.reduceLE, Int.reduceBEq, Int.reduceToNat, Int.toNat_natCast, Int.natCast_zero, r82_C0, q1, hi0, va, xa, xd, xg, xh, xm, w64, q2]
    rw [r82_B1_n]
    erw [hL]
    rcases Bool.eq_false_or_eq_true (conts ((bs s).drop (i + 1)) 2) with g2 | g2
    · obtain ⟨d1, d2⟩ := cdec_le _ _ (((s[i].toNat : Nat) : Int) - 224) (by omega) g2
      have d3 : (cdec (((s[i].toNat : Nat) : Int) - 224) ((bs s).drop (i + 1)) 2) ≤ 2097151 := by simp only [Int.reducePow] at d2; omega
      have hput := put_ok (cdec (((s[i].toNat : Nat) : Int) - 224) ((bs s).drop (i + 1)) 2) d1 d3
      rw [g2]
      simp only [if_true, Bool.true_and, okC]
      generalize (cdec (((s[i].toNat : Nat) : Int) - 224) ((bs s).drop (i + 1)) 2) = c at *
      have r1 : ((l.length + 1) * 8 ≤ maxRow) = True := eq_true (by simp only [maxRow]; omega)
      have hcmp := cmp_put s i 3 ((putI c).map ub)
      have et : ((i : Int) + ((3 : Nat) : Int)).toNat = i + 3 := by omega
      have q3 : ((i : Int) ≤ (i : Int) + ((3 : Nat) : Int)) = True := eq_true (by omega)
      have q4 : ((i : Int) + ((3 : Nat) : Int) ≤ (s.size : Int)) = True := eq_true (by omega)
      have ea : l.map iv ++ [iv c] = (l ++ [c]).map iv := by simp
      have all8 : ([iv c].all fun y => y.width == 1) = true := rfl
      rw [Int.natCast_add]
      by_cases k1 : c > 1114111
      · simp (disch := omega) only [go_sem, and_self, and_true, true_and, false_and, and_false, Nat.reduceAdd, Nat.reduceMul, Nat.reduceSub, Nat.reduceLeDiff, Nat.reduceLT, Nat.reduceGT, Nat.reduceEqDiff, Nat.reduceBEq, Int.reduceNeg, Int.reduceEq, Int.reduceLT, Int.reduceLE, Int.reduceBEq, Int.reduceToNat, Int.toNat_natCast, Int.natCast_zero, k1, decide_true, Bool.true_or, Bool.not_true, Bool.false_and]
      · by_cases k2 : c ≥ 55296
        · by_cases k3 : c < 57344
          · simp (disch := omega) only [go_sem, and_self, and_true, true_and, false_and, and_false, Nat.reduceAdd, Nat.reduceMul, Nat.reduceSub, Nat.reduceLeDiff, Nat.reduceLT, Nat.reduceGT, Nat.reduceEqDiff, Nat.reduceBEq, Int.reduceNeg, Int.reduceEq, Int.reduceLT, Int.reduceLE, Int.reduceBEq, Int.reduceToNat, Int.toNat_natCast, Int.natCast_zero, k1, k2, k3, decide_true, decide_false, Bool.true_or, Bool.false_or, Bool.true_and, Bool.not_true, Bool.false_and]
          · rcases Bool.eq_false_or_eq_true ((putI c).map ub == ((bs s).drop i).take 3) with k4 | k4 <;> rw [k4] at hcmp <;>
              simp (disch := omega) only [go_sem, and_self, and_true, true_and, false_and, and_false, Nat.reduceAdd, Nat.reduceMul, Nat.reduceSub, Nat.reduceLeDiff, Nat.reduceLT, Nat.reduceGT, Nat.reduceEqDiff, Nat.reduceBEq, Int.reduceNeg, Int.reduceEq, Int.reduceLT, Int.reduceLE, Int.reduceBEq, Int.reduceToNat, Int.toNat_natCast, Int.natCast_zero, k1, k2, k3, k4, hput, put_bytes, hcmp, strD_neq, et, q3, q4, hi0, w64, r1, all8, ea, List.length_map, decide_true, decide_false, Bool.or_self, Bool.and_self, Bool.and_true, Bool.and_false, Bool.not_false, Bool.not_true, Int.toNat_natCast] <;> rfl
        · rcases Bool.eq_false_or_eq_true ((putI c).map ub == ((bs s).drop i).take 3) with k4 | k4 <;> rw [k4] at hcmp <;>
            simp (disch := omega) only [go_sem, and_self, and_true, true_and, false_and, and_false, Nat.reduceAdd, Nat.reduceMul, Nat.reduceSub, Nat.reduceLeDiff, Nat.reduceLT, Nat.reduceGT, Nat.reduceEqDiff, Nat.reduceBEq, Int.reduceNeg, Int.reduceEq, Int.reduceLT, Int.reduceLE, Int.reduceBEq, Int.reduceToNat, Int.toNat_natCast, Int.natCast_zero, k1, k2, k4, hput, put_bytes, hcmp, strD_neq, et, q3, q4, hi0, w64, r1, all8, ea, List.length_map, decide_true, decide_false, Bool.or_self, Bool.false_and, Bool.and_true, Bool.and_false, Bool.not_false, Bool.not_true, Int.toNat_natCast] <;> rfl
    · rw [g2]
      simp (disch := omega) only [go_sem, and_self, and_true, true_and, false_and, and_false, Nat.reduceAdd, Nat.reduceMul, Nat.reduceSub, Nat.reduceLeDiff, Nat.reduceLT, Nat.reduceGT, Nat.reduceEqDiff, Nat.reduceBEq, Int.reduceNeg, Int.reduceEq, Int.reduceLT, Int.reduceLE, Int.reduceBEq, Int.reduceToNat, Int.toNat_natCast, Int.natCast_zero, Bool.false_and]
  · have q2 : ((i : Int) + 3 > (s.size : Int)) = True := eq_true (by omega)
    rw [decide_eq_false g, Bool.false_and]
    simp (disch := omega) only [go_sem, and_self, and_true, true_and, false_and, and_false, Nat.reduceAdd, Nat.reduceMul, Nat.reduceSub, Nat.reduceLeDiff, Nat.reduceLT, Nat.reduceGT, Nat.reduceEqDiff, Nat.reduceBEq, Int.reduceNeg, Int.reduceEq, Int.reduceLT, Int.reduceLE, Int.reduceBEq, Int.reduceToNat, Int.toNat_natCast, Int.natCast_zero, r82_C0, q1, hi0, va, xa, xd, xg, xh, xm, w64, q2]

theorem sg_4 (s : ByteArray) (hs : s.size ≤ 2097152) (l : List Int) (hl : l.length ≤ 2097152) (i : Nat) (hi : i < s.size) (h1 : ((s[i].toNat : Nat) : Int) ≥ 240) (h2 : ((s[i].toNat : Nat) : Int) ≤ 247) :
    V (F tab) r82_B0 (r82_S0 (.d (.str s)) (.own 3 (l.map iv)) (.d (iv i)) []) =
      if decide (i + 4 ≤ s.size) && (conts ((bs s).drop (i + 1)) 3 && okC s i 4 (cdec (((s[i].toNat : Nat) : Int) - 240) ((bs s).drop (i + 1)) 3)) then
        V (F tab) r82_B0 (r82_S0 (.d (.str s)) (.own 3 ((l ++ [(cdec (((s[i].toNat : Nat) : Int) - 240) ((bs s).drop (i + 1)) 3)]).map iv)) (.d (iv (i + 4 : Nat))) [])
      else some (.ret, r82_R (.d (.sl [])) (.d (.bool false)) []) := by
  have q1 : ((i : Int) < (s.size : Int)) = True := eq_true (by omega)
  have hi0 : (0 ≤ (i : Int)) = True := eq_true (by omega)
  obtain ⟨va, vd⟩ := bs_get hi
  have xa : (((s[i].toNat : Nat) : Int) ≥ 240) = True := eq_true (by omega)
  have xb : (((s[i].toNat : Nat) : Int) < 248) = True := eq_true (by omega)
  have xg : (((s[i].toNat : Nat) : Int) ≥ 248) = False := eq_false (by omega)
  have xh : (((s[i].toNat : Nat) : Int) ≥ 128) = True := eq_true (by omega)
  have xm : (((s[i].toNat : Nat) : Int) < 192) = False := eq_false (by omega)
  rw [r82_B0_eq]
  by_cases g : i + 4 ≤ s.size
  · have q2 : ((i : Int) + 4 > (s.size : Int)) = False := eq_false (by omega)
    have hL := ci_loop s (by omega) l i 4 g (by omega) 3 1 (((s[i].toNat : Nat) : Int) - 240) (by omega) (by omega) (by simp only [Int.reducePow]; omega)
    unfold CiLoop at hL
    rw [show 4 - 1 = 3 from rfl] at hL
    rw [decide_eq_true g, Bool.true_and]
    simp (disch := omega) only [go_sem, and_self, and_true, true_and, false_and, and_false, Nat.reduceAdd, Nat.reduceMul, Nat.reduceSub, Nat.reduceLeDiff, Nat.reduceLT, Nat.reduceGT, Nat.reduceEqDiff, Nat.reduceBEq, Int.reduceNeg, Int.reduceEq, Int.reduceLT, Int.reduceLE, Int.reduceBEq, Int.reduceToNat, Int.toNat_natCast, Int.natCast_zero, r82_C0, q1, hi0, va, xa, xb, xg, xh, xm, w64, q2]
    rw [r82_B1_n]
    erw [hL]
    rcases Bool.eq_false_or_eq_true (conts ((bs s).drop (i + 1)) 3) with g2 | g2
    · obtain ⟨d1, d2⟩ := cdec_le _ _ (((s[i].toNat : Nat) : Int) - 240) (by omega) g2
      have d3 : (cdec (((s[i].toNat : Nat) : Int) - 240) ((bs s).drop (i + 1)) 3) ≤ 2097151 := by simp only [Int.reducePow] at d2; omega
      have hput := put_ok (cdec (((s[i].toNat : Nat) : Int) - 240) ((bs s).drop (i + 1)) 3) d1 d3
      rw [g2]
      simp only [if_true, Bool.true_and, okC]
      generalize (cdec (((s[i].toNat : Nat) : Int) - 240) ((bs s).drop (i + 1)) 3) = c at *
      have r1 : ((l.length + 1) * 8 ≤ maxRow) = True := eq_true (by simp only [maxRow]; omega)
      have hcmp := cmp_put s i 4 ((putI c).map ub)
      have et : ((i : Int) + ((4 : Nat) : Int)).toNat = i + 4 := by omega
      have q3 : ((i : Int) ≤ (i : Int) + ((4 : Nat) : Int)) = True := eq_true (by omega)
      have q4 : ((i : Int) + ((4 : Nat) : Int) ≤ (s.size : Int)) = True := eq_true (by omega)
      have ea : l.map iv ++ [iv c] = (l ++ [c]).map iv := by simp
      have all8 : ([iv c].all fun y => y.width == 1) = true := rfl
      rw [Int.natCast_add]
      by_cases k1 : c > 1114111
      · simp (disch := omega) only [go_sem, and_self, and_true, true_and, false_and, and_false, Nat.reduceAdd, Nat.reduceMul, Nat.reduceSub, Nat.reduceLeDiff, Nat.reduceLT, Nat.reduceGT, Nat.reduceEqDiff, Nat.reduceBEq, Int.reduceNeg, Int.reduceEq, Int.reduceLT, Int.reduceLE, Int.reduceBEq, Int.reduceToNat, Int.toNat_natCast, Int.natCast_zero, k1, decide_true, Bool.true_or, Bool.not_true, Bool.false_and]
      · by_cases k2 : c ≥ 55296
        · by_cases k3 : c < 57344
          · simp (disch := omega) only [go_sem, and_self, and_true, true_and, false_and, and_false, Nat.reduceAdd, Nat.reduceMul, Nat.reduceSub, Nat.reduceLeDiff, Nat.reduceLT, Nat.reduceGT, Nat.reduceEqDiff, Nat.reduceBEq, Int.reduceNeg, Int.reduceEq, Int.reduceLT, Int.reduceLE, Int.reduceBEq, Int.reduceToNat, Int.toNat_natCast, Int.natCast_zero, k1, k2, k3, decide_true, decide_false, Bool.true_or, Bool.false_or, Bool.true_and, Bool.not_true, Bool.false_and]
          · rcases Bool.eq_false_or_eq_true ((putI c).map ub == ((bs s).drop i).take 4) with k4 | k4 <;> rw [k4] at hcmp <;>
              simp (disch := omega) only [go_sem, and_self, and_true, true_and, false_and, and_false, Nat.reduceAdd, Nat.reduceMul, Nat.reduceSub, Nat.reduceLeDiff, Nat.reduceLT, Nat.reduceGT, Nat.reduceEqDiff, Nat.reduceBEq, Int.reduceNeg, Int.reduceEq, Int.reduceLT, Int.reduceLE, Int.reduceBEq, Int.reduceToNat, Int.toNat_natCast, Int.natCast_zero, k1, k2, k3, k4, hput, put_bytes, hcmp, strD_neq, et, q3, q4, hi0, w64, r1, all8, ea, List.length_map, decide_true, decide_false, Bool.or_self, Bool.and_self, Bool.and_true, Bool.and_false, Bool.not_false, Bool.not_true, Int.toNat_natCast] <;> rfl
        · rcases Bool.eq_false_or_eq_true ((putI c).map ub == ((bs s).drop i).take 4) with k4 | k4 <;> rw [k4] at hcmp <;>
            simp (disch := omega) only [go_sem, and_self, and_true, true_and, false_and, and_false, Nat.reduceAdd, Nat.reduceMul, Nat.reduceSub, Nat.reduceLeDiff, Nat.reduceLT, Nat.reduceGT, Nat.reduceEqDiff, Nat.reduceBEq, Int.reduceNeg, Int.reduceEq, Int.reduceLT, Int.reduceLE, Int.reduceBEq, Int.reduceToNat, Int.toNat_natCast, Int.natCast_zero, k1, k2, k4, hput, put_bytes, hcmp, strD_neq, et, q3, q4, hi0, w64, r1, all8, ea, List.length_map, decide_true, decide_false, Bool.or_self, Bool.false_and, Bool.and_true, Bool.and_false, Bool.not_false, Bool.not_true, Int.toNat_natCast] <;> rfl
    · rw [g2]
      simp (disch := omega) only [go_sem, and_self, and_true, true_and, false_and, and_false, Nat.reduceAdd, Nat.reduceMul, Nat.reduceSub, Nat.reduceLeDiff, Nat.reduceLT, Nat.reduceGT, Nat.reduceEqDiff, Nat.reduceBEq, Int.reduceNeg, Int.reduceEq, Int.reduceLT, Int.reduceLE, Int.reduceBEq, Int.reduceToNat, Int.toNat_natCast, Int.natCast_zero, Bool.false_and]
  · have q2 : ((i : Int) + 4 > (s.size : Int)) = True := eq_true (by omega)
    rw [decide_eq_false g, Bool.false_and]
    simp (disch := omega) only [go_sem, and_self, and_true, true_and, false_and, and_false, Nat.reduceAdd, Nat.reduceMul, Nat.reduceSub, Nat.reduceLeDiff, Nat.reduceLT, Nat.reduceGT, Nat.reduceEqDiff, Nat.reduceBEq, Int.reduceNeg, Int.reduceEq, Int.reduceLT, Int.reduceLE, Int.reduceBEq, Int.reduceToNat, Int.toNat_natCast, Int.natCast_zero, r82_C0, q1, hi0, va, xa, xb, xg, xh, xm, w64, q2]

end Go.Pe.T

namespace Go.Pe.T

/-! ### signs decoded, and sizes -/
def okL (l : List UInt8) (n : Nat) (c : Int) : Bool := !(decide (c > 1114111) || (decide (c ≥ 55296) && decide (c < 57344))) && ((putI c).map ub == l.take n)
theorem ub_nat (x : UInt8) : ub ((x.toNat : Nat) : Int) = x := by simp [ub]

theorem szc_0 (l : List UInt8) (g1 : nb l 0 ≥ 0) (g2 : nb l 0 ≤ 127) : sizeL l = 1 := by
  unfold sizeL
  generalize nb l 0 = c at *
  have xa : (c < 128) = True := eq_true (by omega)
  have xb : (c ≥ 194) = False := eq_false (by omega)
  have xd : (c ≤ 223) = True := eq_true (by omega)
  have xe : (c == 224) = false := by simp <;> omega
  have xf : (c ≥ 225) = False := eq_false (by omega)
  have xh : (c ≤ 239) = True := eq_true (by omega)
  have xi : (c != 237) = true := by simp <;> omega
  have xj : (c == 237) = false := by simp <;> omega
  have xk : (c == 240) = false := by simp <;> omega
  have xl : (c ≥ 241) = False := eq_false (by omega)
  have xm : (c ≤ 243) = True := eq_true (by omega)
  have xn : (c == 244) = false := by simp <;> omega
  simp only [xa, xb, xd, xe, xf, xh, xi, xj, xk, xl, xm, xn, decide_true, decide_false, Bool.true_and, Bool.false_and, Bool.or_false, Bool.false_or, Bool.and_true, Bool.and_false, Bool.false_eq_true, if_true, if_false]

theorem szc_1 (l : List UInt8) (g1 : nb l 0 ≥ 128) (g2 : nb l 0 ≤ 193) : sizeL l = 0 := by
  unfold sizeL
  generalize nb l 0 = c at *
  have xa : (c < 128) = False := eq_false (by omega)
  have xb : (c ≥ 194) = False := eq_false (by omega)
  have xd : (c ≤ 223) = True := eq_true (by omega)
  have xe : (c == 224) = false := by simp <;> omega
  have xf : (c ≥ 225) = False := eq_false (by omega)
  have xh : (c ≤ 239) = True := eq_true (by omega)
  have xi : (c != 237) = true := by simp <;> omega
  have xj : (c == 237) = false := by simp <;> omega
  have xk : (c == 240) = false := by simp <;> omega
  have xl : (c ≥ 241) = False := eq_false (by omega)
  have xm : (c ≤ 243) = True := eq_true (by omega)
  have xn : (c == 244) = false := by simp <;> omega
  simp only [xa, xb, xd, xe, xf, xh, xi, xj, xk, xl, xm, xn, decide_true, decide_false, Bool.true_and, Bool.false_and, Bool.or_false, Bool.false_or, Bool.and_true, Bool.and_false, Bool.false_eq_true, if_true, if_false]

theorem szc_2 (l : List UInt8) (g1 : nb l 0 ≥ 194) (g2 : nb l 0 ≤ 223) : sizeL l = if tailL l 1 128 191 then 2 else 0 := by
  unfold sizeL
  generalize nb l 0 = c at *
  have xa : (c < 128) = False := eq_false (by omega)
  have xb : (c ≥ 194) = True := eq_true (by omega)
  have xd : (c ≤ 223) = True := eq_true (by omega)
  have xe : (c == 224) = false := by simp <;> omega
  have xf : (c ≥ 225) = False := eq_false (by omega)
  have xh : (c ≤ 239) = True := eq_true (by omega)
  have xi : (c != 237) = true := by simp <;> omega
  have xj : (c == 237) = false := by simp <;> omega
  have xk : (c == 240) = false := by simp <;> omega
  have xl : (c ≥ 241) = False := eq_false (by omega)
  have xm : (c ≤ 243) = True := eq_true (by omega)
  have xn : (c == 244) = false := by simp <;> omega
  simp only [xa, xb, xd, xe, xf, xh, xi, xj, xk, xl, xm, xn, decide_true, decide_false, Bool.true_and, Bool.false_and, Bool.or_false, Bool.false_or, Bool.and_true, Bool.and_false, Bool.false_eq_true, if_true, if_false]

theorem szc_3 (l : List UInt8) (g1 : nb l 0 ≥ 224) (g2 : nb l 0 ≤ 224) : sizeL l = if tailL l 2 160 191 then 3 else 0 := by
  unfold sizeL
  generalize nb l 0 = c at *
  have xa : (c < 128) = False := eq_false (by omega)
  have xb : (c ≥ 194) = True := eq_true (by omega)
  have xd : (c ≤ 223) = False := eq_false (by omega)
  have xe : (c == 224) = true := by simp <;> omega
  have xf : (c ≥ 225) = False := eq_false (by omega)
  have xh : (c ≤ 239) = True := eq_true (by omega)
  have xi : (c != 237) = true := by simp <;> omega
  have xj : (c == 237) = false := by simp <;> omega
  have xk : (c == 240) = false := by simp <;> omega
  have xl : (c ≥ 241) = False := eq_false (by omega)
  have xm : (c ≤ 243) = True := eq_true (by omega)
  have xn : (c == 244) = false := by simp <;> omega
  simp only [xa, xb, xd, xe, xf, xh, xi, xj, xk, xl, xm, xn, decide_true, decide_false, Bool.true_and, Bool.false_and, Bool.or_false, Bool.false_or, Bool.and_true, Bool.and_false, Bool.false_eq_true, if_true, if_false]

theorem szc_4 (l : List UInt8) (g1 : nb l 0 ≥ 225) (g2 : nb l 0 ≤ 236) : sizeL l = if tailL l 2 128 191 then 3 else 0 := by
  unfold sizeL
  generalize nb l 0 = c at *
  have xa : (c < 128) = False := eq_false (by omega)
  have xb : (c ≥ 194) = True := eq_true (by omega)
  have xd : (c ≤ 223) = False := eq_false (by omega)
  have xe : (c == 224) = false := by simp <;> omega
  have xf : (c ≥ 225) = True := eq_true (by omega)
  have xh : (c ≤ 239) = True := eq_true (by omega)
  have xi : (c != 237) = true := by simp <;> omega
  have xj : (c == 237) = false := by simp <;> omega
  have xk : (c == 240) = false := by simp <;> omega
  have xl : (c ≥ 241) = False := eq_false (by omega)
  have xm : (c ≤ 243) = True := eq_true (by omega)
  have xn : (c == 244) = false := by simp <;> omega
  simp only [xa, xb, xd, xe, xf, xh, xi, xj, xk, xl, xm, xn, decide_true, decide_false, Bool.true_and, Bool.false_and, Bool.or_false, Bool.false_or, Bool.and_true, Bool.and_false, Bool.false_eq_true, if_true, if_false]

theorem szc_5 (l : List UInt8) (g1 : nb l 0 ≥ 237) (g2 : nb l 0 ≤ 237) : sizeL l = if tailL l 2 128 159 then 3 else 0 := by
  unfold sizeL
  generalize nb l 0 = c at *
  have xa : (c < 128) = False := eq_false (by omega)
  have xb : (c ≥ 194) = True := eq_true (by omega)
  have xd : (c ≤ 223) = False := eq_false (by omega)
  have xe : (c == 224) = false := by simp <;> omega
  have xf : (c ≥ 225) = True := eq_true (by omega)
  have xh : (c ≤ 239) = True := eq_true (by omega)
  have xi : (c != 237) = false := by simp <;> omega
  have xj : (c == 237) = true := by simp <;> omega
  have xk : (c == 240) = false := by simp <;> omega
  have xl : (c ≥ 241) = False := eq_false (by omega)
  have xm : (c ≤ 243) = True := eq_true (by omega)
  have xn : (c == 244) = false := by simp <;> omega
  simp only [xa, xb, xd, xe, xf, xh, xi, xj, xk, xl, xm, xn, decide_true, decide_false, Bool.true_and, Bool.false_and, Bool.or_false, Bool.false_or, Bool.and_true, Bool.and_false, Bool.false_eq_true, if_true, if_false]

theorem szc_6 (l : List UInt8) (g1 : nb l 0 ≥ 238) (g2 : nb l 0 ≤ 239) : sizeL l = if tailL l 2 128 191 then 3 else 0 := by
  unfold sizeL
  generalize nb l 0 = c at *
  have xa : (c < 128) = False := eq_false (by omega)
  have xb : (c ≥ 194) = True := eq_true (by omega)
  have xd : (c ≤ 223) = False := eq_false (by omega)
  have xe : (c == 224) = false := by simp <;> omega
  have xf : (c ≥ 225) = True := eq_true (by omega)
  have xh : (c ≤ 239) = True := eq_true (by omega)
  have xi : (c != 237) = true := by simp <;> omega
  have xj : (c == 237) = false := by simp <;> omega
  have xk : (c == 240) = false := by simp <;> omega
  have xl : (c ≥ 241) = False := eq_false (by omega)
  have xm : (c ≤ 243) = True := eq_true (by omega)
  have xn : (c == 244) = false := by simp <;> omega
  simp only [xa, xb, xd, xe, xf, xh, xi, xj, xk, xl, xm, xn, decide_true, decide_false, Bool.true_and, Bool.false_and, Bool.or_false, Bool.false_or, Bool.and_true, Bool.and_false, Bool.false_eq_true, if_true, if_false]

theorem szc_7 (l : List UInt8) (g1 : nb l 0 ≥ 240) (g2 : nb l 0 ≤ 240) : sizeL l = if tailL l 3 144 191 then 4 else 0 := by
  unfold sizeL
  generalize nb l 0 = c at *
  have xa : (c < 128) = False := eq_false (by omega)
  have xb : (c ≥ 194) = True := eq_true (by omega)
  have xd : (c ≤ 223) = False := eq_false (by omega)
  have xe : (c == 224) = false := by simp <;> omega
  have xf : (c ≥ 225) = True := eq_true (by omega)
  have xh : (c ≤ 239) = False := eq_false (by omega)
  have xi : (c != 237) = true := by simp <;> omega
  have xj : (c == 237) = false := by simp <;> omega
  have xk : (c == 240) = true := by simp <;> omega
  have xl : (c ≥ 241) = False := eq_false (by omega)
  have xm : (c ≤ 243) = True := eq_true (by omega)
  have xn : (c == 244) = false := by simp <;> omega
  simp only [xa, xb, xd, xe, xf, xh, xi, xj, xk, xl, xm, xn, decide_true, decide_false, Bool.true_and, Bool.false_and, Bool.or_false, Bool.false_or, Bool.and_true, Bool.and_false, Bool.false_eq_true, if_true, if_false]

theorem szc_8 (l : List UInt8) (g1 : nb l 0 ≥ 241) (g2 : nb l 0 ≤ 243) : sizeL l = if tailL l 3 128 191 then 4 else 0 := by
  unfold sizeL
  generalize nb l 0 = c at *
  have xa : (c < 128) = False := eq_false (by omega)
  have xb : (c ≥ 194) = True := eq_true (by omega)
  have xd : (c ≤ 223) = False := eq_false (by omega)
  have xe : (c == 224) = false := by simp <;> omega
  have xf : (c ≥ 225) = True := eq_true (by omega)
  have xh : (c ≤ 239) = False := eq_false (by omega)
  have xi : (c != 237) = true := by simp <;> omega
  have xj : (c == 237) = false := by simp <;> omega
  have xk : (c == 240) = false := by simp <;> omega
  have xl : (c ≥ 241) = True := eq_true (by omega)
  have xm : (c ≤ 243) = True := eq_true (by omega)
  have xn : (c == 244) = false := by simp <;> omega
  simp only [xa, xb, xd, xe, xf, xh, xi, xj, xk, xl, xm, xn, decide_true, decide_false, Bool.true_and, Bool.false_and, Bool.or_false, Bool.false_or, Bool.and_true, Bool.and_false, Bool.false_eq_true, if_true, if_false]

theorem szc_9 (l : List UInt8) (g1 : nb l 0 ≥ 244) (g2 : nb l 0 ≤ 244) : sizeL l = if tailL l 3 128 143 then 4 else 0 := by
  unfold sizeL
  generalize nb l 0 = c at *
  have xa : (c < 128) = False := eq_false (by omega)
  have xb : (c ≥ 194) = True := eq_true (by omega)
  have xd : (c ≤ 223) = False := eq_false (by omega)
  have xe : (c == 224) = false := by simp <;> omega
  have xf : (c ≥ 225) = True := eq_true (by omega)
  have xh : (c ≤ 239) = False := eq_false (by omega)
  have xi : (c != 237) = true := by simp <;> omega
  have xj : (c == 237) = false := by simp <;> omega
  have xk : (c == 240) = false := by simp <;> omega
  have xl : (c ≥ 241) = True := eq_true (by omega)
  have xm : (c ≤ 243) = False := eq_false (by omega)
  have xn : (c == 244) = true := by simp <;> omega
  simp only [xa, xb, xd, xe, xf, xh, xi, xj, xk, xl, xm, xn, decide_true, decide_false, Bool.true_and, Bool.false_and, Bool.or_false, Bool.false_or, Bool.and_true, Bool.and_false, Bool.false_eq_true, if_true, if_false]

theorem szc_10 (l : List UInt8) (g1 : nb l 0 ≥ 245) (g2 : nb l 0 ≤ 255) : sizeL l = 0 := by
  unfold sizeL
  generalize nb l 0 = c at *
  have xa : (c < 128) = False := eq_false (by omega)
  have xb : (c ≥ 194) = True := eq_true (by omega)
  have xd : (c ≤ 223) = False := eq_false (by omega)
  have xe : (c == 224) = false := by simp <;> omega
  have xf : (c ≥ 225) = True := eq_true (by omega)
  have xh : (c ≤ 239) = False := eq_false (by omega)
  have xi : (c != 237) = true := by simp <;> omega
  have xj : (c == 237) = false := by simp <;> omega
  have xk : (c == 240) = false := by simp <;> omega
  have xl : (c ≥ 241) = True := eq_true (by omega)
  have xm : (c ≤ 243) = False := eq_false (by omega)
  have xn : (c == 244) = false := by simp <;> omega
  simp only [xa, xb, xd, xe, xf, xh, xi, xj, xk, xl, xm, xn, decide_true, decide_false, Bool.true_and, Bool.false_and, Bool.or_false, Bool.false_or, Bool.and_true, Bool.and_false, Bool.false_eq_true, if_true, if_false]

theorem nb0 (x : UInt8) (r : List UInt8) : nb (x :: r) 0 = ((x.toNat : Nat) : Int) := rfl
theorem nb1 (x y : UInt8) (r : List UInt8) : nb (x :: y :: r) 1 = ((y.toNat : Nat) : Int) := rfl

theorem m1 (x : UInt8) (r : List UInt8) (h : ((x.toNat : Nat) : Int) ≤ 127) : okL (x :: r) 1 ((x.toNat : Nat) : Int) = true ∧ sizeL (x :: r) = 1 := by
  refine ⟨?_, szc_0 _ (by rw [nb0]; omega) (by rw [nb0]; omega)⟩
  have h1 : ¬ ((x.toNat : Nat) : Int) > 1114111 := by omega
  have h2 : ¬ ((x.toNat : Nat) : Int) ≥ 55296 := by omega
  have h3 : ((x.toNat : Nat) : Int) < 128 := by omega
  simp [okL, putI, h1, h2, h3, ub_nat]

theorem m2 (x : UInt8) (r : List UInt8) (h1 : 192 ≤ ((x.toNat : Nat) : Int)) (h2 : ((x.toNat : Nat) : Int) ≤ 223) :
    (decide (2 ≤ (x :: r).length) && (conts r 1 && okL (x :: r) 2 (cdec (((x.toNat : Nat) : Int) - 192) r 1))) = (sizeL (x :: r) == 2) ∧ (sizeL (x :: r) = 2 ∨ sizeL (x :: r) = 0) := by
  match r with
  | [] =>
    have : sizeL [x] = 0 := by
      by_cases g : nb [x] 0 ≤ 193
      · exact szc_1 _ (by rw [nb0]; omega) g
      · rw [szc_2 _ (by omega) (by rw [nb0]; omega)]; simp [tailL]
    simp [this]
  | y :: r =>
    have hy : y.toNat < 256 := UInt8.toNat_lt _
    simp only [conts, contB, Bool.and_true, cdec]
    by_cases g1 : ((y.toNat : Nat) : Int) < 128
    · have : sizeL (x :: y :: r) = 0 := by
        by_cases g : nb (x :: y :: r) 0 ≤ 193
        · exact szc_1 _ (by rw [nb0]; omega) g
        · rw [szc_2 _ (by omega) (by rw [nb0]; omega)]; simp [tailL, nb1, g1]
      simp [this, g1]
    · by_cases g2 : ((y.toNat : Nat) : Int) > 191
      · have : sizeL (x :: y :: r) = 0 := by
          by_cases g : nb (x :: y :: r) 0 ≤ 193
          · exact szc_1 _ (by rw [nb0]; omega) g
          · rw [szc_2 _ (by omega) (by rw [nb0]; omega)]; simp [tailL, nb1, g2]
        simp [this, g2]
      · generalize hc : 64 * (((x.toNat : Nat) : Int) - 192) + ((y.toNat : Nat) : Int) - 128 = c
        have k1 : ¬ c > 1114111 := by omega
        have k2 : ¬ c ≥ 55296 := by omega
        by_cases g : ((x.toNat : Nat) : Int) ≤ 193
        · have e : sizeL (x :: y :: r) = 0 := szc_1 _ (by rw [nb0]; omega) (by rw [nb0]; omega)
          have k3 : c < 128 := by omega
          simp [e, okL, putI, k3]
        · have e : sizeL (x :: y :: r) = 2 := by
            rw [szc_2 _ (by rw [nb0]; omega) (by rw [nb0]; omega)]; simp [tailL, nb1, g1, g2, conts]
          have k3 : ¬ c < 128 := by omega
          have k4 : c < 2048 := by omega
          have e1 : 192 + c / 64 = ((x.toNat : Nat) : Int) := by omega
          have e2 : 128 + c % 64 = ((y.toNat : Nat) : Int) := by omega
          simp [e, okL, putI, k1, k2, k3, k4, e1, e2, ub_nat, g1, g2]

theorem sz3 (x : UInt8) (r : List UInt8) (h1 : 224 ≤ ((x.toNat : Nat) : Int)) (h2 : ((x.toNat : Nat) : Int) ≤ 239) :
    sizeL (x :: r) = if tailL (x :: r) 2 (if ((x.toNat : Nat) : Int) = 224 then 160 else 128) (if ((x.toNat : Nat) : Int) = 237 then 159 else 191) then 3 else 0 := by
  by_cases a : ((x.toNat : Nat) : Int) = 224
  · have b : ¬ ((x.toNat : Nat) : Int) = 237 := by omega
    rw [szc_3 _ (by rw [nb0]; omega) (by rw [nb0]; omega), if_pos a, if_neg b]
  · by_cases b : ((x.toNat : Nat) : Int) = 237
    · rw [szc_5 _ (by rw [nb0]; omega) (by rw [nb0]; omega), if_neg a, if_pos b]
    · rw [if_neg a, if_neg b]
      by_cases c : ((x.toNat : Nat) : Int) ≤ 236
      · exact szc_4 _ (by rw [nb0]; omega) (by rw [nb0]; omega)
      · exact szc_6 _ (by rw [nb0]; omega) (by rw [nb0]; omega)
theorem sz4 (x : UInt8) (r : List UInt8) (h1 : 240 ≤ ((x.toNat : Nat) : Int)) (h2 : ((x.toNat : Nat) : Int) ≤ 247) :
    sizeL (x :: r) = if (decide (((x.toNat : Nat) : Int) ≤ 244) && tailL (x :: r) 3 (if ((x.toNat : Nat) : Int) = 240 then 144 else 128) (if ((x.toNat : Nat) : Int) = 244 then 143 else 191)) then 4 else 0 := by
  by_cases a : ((x.toNat : Nat) : Int) = 240
  · have q : ((x.toNat : Nat) : Int) ≤ 244 := by omega
    have b : ¬ ((x.toNat : Nat) : Int) = 244 := by omega
    rw [szc_7 _ (by rw [nb0]; omega) (by rw [nb0]; omega), if_pos a, if_neg b, decide_eq_true q, Bool.true_and]
  · by_cases b : ((x.toNat : Nat) : Int) = 244
    · have q : ((x.toNat : Nat) : Int) ≤ 244 := by omega
      rw [szc_9 _ (by rw [nb0]; omega) (by rw [nb0]; omega), if_neg a, if_pos b, decide_eq_true q, Bool.true_and]
    · rw [if_neg a, if_neg b]
      by_cases c : ((x.toNat : Nat) : Int) ≤ 243
      · have q : ((x.toNat : Nat) : Int) ≤ 244 := by omega
        rw [szc_8 _ (by rw [nb0]; omega) (by rw [nb0]; omega), decide_eq_true q, Bool.true_and]
      · have q : ¬ ((x.toNat : Nat) : Int) ≤ 244 := by omega
        rw [szc_10 _ (by rw [nb0]; omega) (by rw [nb0]; omega), decide_eq_false q, Bool.false_and, if_neg (by simp)]

theorem m3 (x : UInt8) (r : List UInt8) (h1 : 224 ≤ ((x.toNat : Nat) : Int)) (h2 : ((x.toNat : Nat) : Int) ≤ 239) :
    (decide (3 ≤ (x :: r).length) && (conts r 2 && okL (x :: r) 3 (cdec (((x.toNat : Nat) : Int) - 224) r 2))) = (sizeL (x :: r) == 3) ∧ (sizeL (x :: r) = 3 ∨ sizeL (x :: r) = 0) := by
  refine ⟨?_, by rw [sz3 x r h1 h2]; split <;> simp⟩
  rw [sz3 x r h1 h2]
  match r with
  | [] => simp [tailL]
  | [y] => simp [tailL, conts]
  | y :: z :: r =>
    have hy : y.toNat < 256 := UInt8.toNat_lt _
    have hz : z.toNat < 256 := UInt8.toNat_lt _
    have el : decide (3 ≤ (x :: y :: z :: r).length) = true := by simp
    have et : ∀ lo hi, tailL (x :: y :: z :: r) 2 lo hi = ((!decide (((y.toNat : Nat) : Int) < lo) && !decide (((y.toNat : Nat) : Int) > hi)) && contB z.toNat) := by
      intro lo hi; simp [tailL, nb1, conts] <;> rfl
    rw [el, et]
    simp only [conts, Bool.and_true, Bool.true_and, cdec, contB]
    generalize hX : ((x.toNat : Nat) : Int) = X at *
    generalize hY : ((y.toNat : Nat) : Int) = Y at *
    generalize hZ : ((z.toNat : Nat) : Int) = Z at *
    generalize hc : 64 * (64 * (X - 224) + Y - 128) + Z - 128 = c
    have ux : ub X = x := by rw [← hX]; exact ub_nat x
    have uy : ub Y = y := by rw [← hY]; exact ub_nat y
    have uz : ub Z = z := by rw [← hZ]; exact ub_nat z
    by_cases z1 : Z < 128
    · simp [z1]
    by_cases z2 : Z > 191
    · simp [z2]
    by_cases y1 : Y < 128
    · have : Y < (if X = 224 then 160 else 128) := by split <;> omega
      simp [y1, this]
    by_cases y2 : Y > 191
    · have : Y > (if X = 237 then 159 else 191) := by split <;> omega
      simp [y2, this]
    have k1 : ¬ c > 1114111 := by omega
    simp only [z1, z2, y1, y2, k1, okL, decide_false, decide_true, Bool.not_false, Bool.not_true, Bool.true_and, Bool.and_true, Bool.false_or]
    by_cases a : X = 224
    · have b : ¬ X = 237 := by omega
      have s1 : ¬ c ≥ 55296 := by omega
      simp only [if_pos a, if_neg b, y2, s1, decide_false, Bool.not_false, Bool.and_true, Bool.false_and, Bool.true_and]
      by_cases q : Y < 160
      · have p1 : c < 2048 := by omega
        by_cases p0 : c < 128
        · simp [putI, p0, q]
        · simp [putI, p0, p1, q]
      · have p1 : ¬ c < 2048 := by omega
        have p0 : ¬ c < 128 := by omega
        have p2 : c < 65536 := by omega
        have e1 : 224 + c / 4096 = X := by omega
        have e2 : 128 + c / 64 % 64 = Y := by omega
        have e3 : 128 + c % 64 = Z := by omega
        simp [putI, p0, p1, p2, e1, e2, e3, q, ux, uy, uz]
    · have p1 : ¬ c < 2048 := by omega
      have p0 : ¬ c < 128 := by omega
      have p2 : c < 65536 := by omega
      have e1 : 224 + c / 4096 = X := by omega
      have e2 : 128 + c / 64 % 64 = Y := by omega
      have e3 : 128 + c % 64 = Z := by omega
      have ep : ((putI c).map ub == (x :: y :: z :: r).take 3) = true := by simp [putI, p0, p1, p2, e1, e2, e3, ux, uy, uz]
      rw [ep]
      by_cases b : X = 237
      · simp only [if_neg a, if_pos b, y1, decide_false, Bool.not_false, Bool.and_true, Bool.true_and]
        by_cases q : Y > 159
        · have s1 : c ≥ 55296 := by omega
          have s2 : c < 57344 := by omega
          simp [s1, s2, q]
        · have s1 : ¬ c ≥ 55296 := by omega
          simp [s1, q]
      · simp only [if_neg a, if_neg b, y1, y2, decide_false, Bool.not_false, Bool.and_true, Bool.true_and]
        by_cases s1 : c ≥ 55296
        · have s2 : ¬ c < 57344 := by omega
          simp [s1, s2]
        · simp [s1]

theorem m4 (x : UInt8) (r : List UInt8) (h1 : 240 ≤ ((x.toNat : Nat) : Int)) (h2 : ((x.toNat : Nat) : Int) ≤ 247) :
    (decide (4 ≤ (x :: r).length) && (conts r 3 && okL (x :: r) 4 (cdec (((x.toNat : Nat) : Int) - 240) r 3))) = (sizeL (x :: r) == 4) ∧ (sizeL (x :: r) = 4 ∨ sizeL (x :: r) = 0) := by
  refine ⟨?_, by rw [sz4 x r h1 h2]; split <;> simp⟩
  rw [sz4 x r h1 h2]
  match r with
  | [] => simp [tailL]
  | [y] => simp [tailL, conts]
  | [y, z] => simp [tailL, conts]
  | y :: z :: w :: r =>
    have hy : y.toNat < 256 := UInt8.toNat_lt _
    have hz : z.toNat < 256 := UInt8.toNat_lt _
    have hw : w.toNat < 256 := UInt8.toNat_lt _
    have el : decide (4 ≤ (x :: y :: z :: w :: r).length) = true := by simp
    have et : ∀ lo hi, tailL (x :: y :: z :: w :: r) 3 lo hi = ((!decide (((y.toNat : Nat) : Int) < lo) && !decide (((y.toNat : Nat) : Int) > hi)) && (contB z.toNat && contB w.toNat)) := by
      intro lo hi; simp [tailL, nb1, conts] <;> rfl
    rw [el, et]
    simp only [conts, Bool.and_true, Bool.true_and, cdec, contB]
    generalize hX : ((x.toNat : Nat) : Int) = X at *
    generalize hY : ((y.toNat : Nat) : Int) = Y at *
    generalize hZ : ((z.toNat : Nat) : Int) = Z at *
    generalize hW : ((w.toNat : Nat) : Int) = W at *
    generalize hc : 64 * (64 * (64 * (X - 240) + Y - 128) + Z - 128) + W - 128 = c
    have ux : ub X = x := by rw [← hX]; exact ub_nat x
    have uy : ub Y = y := by rw [← hY]; exact ub_nat y
    have uz : ub Z = z := by rw [← hZ]; exact ub_nat z
    have uw : ub W = w := by rw [← hW]; exact ub_nat w
    by_cases w1 : W < 128
    · simp [w1]
    by_cases w2 : W > 191
    · simp [w2]
    by_cases z1 : Z < 128
    · simp [z1]
    by_cases z2 : Z > 191
    · simp [z2]
    by_cases y1 : Y < 128
    · have : Y < (if X = 240 then 144 else 128) := by split <;> omega
      simp [y1, this]
    by_cases y2 : Y > 191
    · have : Y > (if X = 244 then 143 else 191) := by split <;> omega
      simp [y2, this]
    simp only [w1, w2, z1, z2, y1, y2, okL, decide_false, decide_true, Bool.not_false, Bool.not_true, Bool.true_and, Bool.and_true, Bool.false_or]
    by_cases a : X = 240
    · have b : ¬ X = 244 := by omega
      have k1 : ¬ c > 1114111 := by omega
      have xl : X ≤ 244 := by omega
      simp only [if_pos a, if_neg b, y2, k1, xl, decide_true, decide_false, Bool.not_false, Bool.and_true, Bool.true_and, Bool.false_or]
      by_cases q : Y < 144
      · have p2 : c < 65536 := by omega
        by_cases p0 : c < 128
        · simp [putI, p0, q]
        · by_cases p1 : c < 2048
          · simp [putI, p0, p1, q]
          · simp [putI, p0, p1, p2, q]
      · have p2 : ¬ c < 65536 := by omega
        have p1 : ¬ c < 2048 := by omega
        have p0 : ¬ c < 128 := by omega
        have s2 : ¬ c < 57344 := by omega
        have e1 : 240 + c / 262144 = X := by omega
        have e2 : 128 + c / 4096 % 64 = Y := by omega
        have e3 : 128 + c / 64 % 64 = Z := by omega
        have e4 : 128 + c % 64 = W := by omega
        simp [putI, p0, p1, p2, e1, e2, e3, e4, q, ux, uy, uz, uw, s2]
    · have p2 : ¬ c < 65536 := by omega
      have p1 : ¬ c < 2048 := by omega
      have p0 : ¬ c < 128 := by omega
      have s2 : ¬ c < 57344 := by omega
      have e1 : 240 + c / 262144 = X := by omega
      have e2 : 128 + c / 4096 % 64 = Y := by omega
      have e3 : 128 + c / 64 % 64 = Z := by omega
      have e4 : 128 + c % 64 = W := by omega
      have ep : ((putI c).map ub == (x :: y :: z :: w :: r).take 4) = true := by simp [putI, p0, p1, p2, e1, e2, e3, e4, ux, uy, uz, uw]
      rw [ep]
      by_cases b : X = 244
      · have xl : X ≤ 244 := by omega
        simp only [if_neg a, if_pos b, y1, xl, decide_true, decide_false, Bool.not_false, Bool.and_true, Bool.true_and]
        by_cases q : Y > 143
        · have k1 : c > 1114111 := by omega
          simp [k1, q]
        · have k1 : ¬ c > 1114111 := by omega
          simp [k1, q, s2]
      · simp only [if_neg a, if_neg b, y1, y2, decide_false, Bool.not_false, Bool.and_true, Bool.true_and]
        by_cases xl : X ≤ 244
        · have k1 : ¬ c > 1114111 := by omega
          simp [k1, xl, s2]
        · have k1 : c > 1114111 := by omega
          simp [k1, xl]
end Go.Pe.T

namespace Go.Pe.T

theorem sg_bad1 (s : ByteArray) (hs : s.size ≤ 2097152) (l : List Int) (i : Nat) (hi : i < s.size) (h1 : ((s[i].toNat : Nat) : Int) ≥ 128) (h2 : ((s[i].toNat : Nat) : Int) ≤ 191) : V (F tab) r82_B0 (r82_S0 (.d (.str s)) (.own 3 (l.map iv)) (.d (iv i)) []) = some (.ret, r82_R (.d (.sl [])) (.d (.bool false)) []) := by
  have q1 : ((i : Int) < (s.size : Int)) = True := eq_true (by omega)
  have hi0 : (0 ≤ (i : Int)) = True := eq_true (by omega)
  obtain ⟨va, vd⟩ := bs_get hi
  have xa : (((s[i].toNat : Nat) : Int) ≥ 240) = False := eq_false (by omega)
  have xd : (((s[i].toNat : Nat) : Int) ≥ 224) = False := eq_false (by omega)
  have xe : (((s[i].toNat : Nat) : Int) ≥ 192) = False := eq_false (by omega)
  have xg : (((s[i].toNat : Nat) : Int) ≥ 248) = False := eq_false (by omega)
  have xh : (((s[i].toNat : Nat) : Int) ≥ 128) = True := eq_true (by omega)
  have xm : (((s[i].toNat : Nat) : Int) < 192) = True := eq_true (by omega)
  rw [r82_B0_eq]
  simp (disch := omega) only [go_sem, and_self, and_true, true_and, false_and, and_false, Nat.reduceAdd, Nat.reduceMul, Nat.reduceSub, Nat.reduceLeDiff, Nat.reduceLT, Nat.reduceGT, Nat.reduceEqDiff, Nat.reduceBEq, Int.reduceNeg, Int.reduceEq, Int.reduceLT, Int.reduceLE, Int.reduceBEq, Int.reduceToNat, Int.toNat_natCast, Int.natCast_zero, r82_C0, q1, hi0, va, xa, xd, xe, xg, xh, xm, w64]

theorem sg_bad2 (s : ByteArray) (hs : s.size ≤ 2097152) (l : List Int) (i : Nat) (hi : i < s.size) (h1 : ((s[i].toNat : Nat) : Int) ≥ 248) (h2 : ((s[i].toNat : Nat) : Int) ≤ 255) : V (F tab) r82_B0 (r82_S0 (.d (.str s)) (.own 3 (l.map iv)) (.d (iv i)) []) = some (.ret, r82_R (.d (.sl [])) (.d (.bool false)) []) := by
  have q1 : ((i : Int) < (s.size : Int)) = True := eq_true (by omega)
  have hi0 : (0 ≤ (i : Int)) = True := eq_true (by omega)
  obtain ⟨va, vd⟩ := bs_get hi
  have xa : (((s[i].toNat : Nat) : Int) ≥ 240) = True := eq_true (by omega)
  have xb : (((s[i].toNat : Nat) : Int) < 248) = False := eq_false (by omega)
  have xd : (((s[i].toNat : Nat) : Int) ≥ 224) = True := eq_true (by omega)
  have xe : (((s[i].toNat : Nat) : Int) ≥ 192) = True := eq_true (by omega)
  have xg : (((s[i].toNat : Nat) : Int) ≥ 248) = True := eq_true (by omega)
  have xh : (((s[i].toNat : Nat) : Int) ≥ 128) = True := eq_true (by omega)
  have xm : (((s[i].toNat : Nat) : Int) < 192) = False := eq_false (by omega)
  rw [r82_B0_eq]
  simp (disch := omega) only [go_sem, and_self, and_true, true_and, false_and, and_false, Nat.reduceAdd, Nat.reduceMul, Nat.reduceSub, Nat.reduceLeDiff, Nat.reduceLT, Nat.reduceGT, Nat.reduceEqDiff, Nat.reduceBEq, Int.reduceNeg, Int.reduceEq, Int.reduceLT, Int.reduceLE, Int.reduceBEq, Int.reduceToNat, Int.toNat_natCast, Int.natCast_zero, r82_C0, q1, hi0, va, xa, xb, xd, xe, xg, xh, xm, w64]

/-- what the loop comes to -/
def SgIs (s : ByteArray) (l : List Int) (i k : Nat) : Prop :=
  if validF k ((bs s).drop i) = true then ∃ l' : List Int, V (F tab) r82_B0 (r82_S0 (.d (.str s)) (.own 3 (l.map iv)) (.d (iv i)) []) = some (.norm, r82_E0 (.own 3 (l'.map iv)) [])
  else V (F tab) r82_B0 (r82_S0 (.d (.str s)) (.own 3 (l.map iv)) (.d (iv i)) []) = some (.ret, r82_R (.d (.sl [])) (.d (.bool false)) [])
theorem sgis_end (s : ByteArray) (l : List Int) (i k : Nat) (hi : s.size ≤ i) : SgIs s l i k := by
  have h1 : ((i : Int) < (s.size : Int)) = False := eq_false (by omega)
  have e : validF k ((bs s).drop i) = true := by rw [bs_end hi]; cases k <;> rfl
  unfold SgIs
  rw [if_pos e]
  refine ⟨l, ?_⟩
  rw [r82_B0_eq]
  simp (disch := omega) only [go_sem, and_self, and_true, true_and, false_and, and_false, Nat.reduceAdd, Nat.reduceMul, Nat.reduceSub, Nat.reduceLeDiff, Nat.reduceLT, Nat.reduceGT, Nat.reduceEqDiff, Nat.reduceBEq, Int.reduceNeg, Int.reduceEq, Int.reduceLT, Int.reduceLE, Int.reduceBEq, Int.reduceToNat, Int.toNat_natCast, Int.natCast_zero, r82_C0, h1]
theorem sgis_of (s : ByteArray) (l : List Int) (i k n : Nat) (c : Int) (C : Bool) (hi : i < s.size) (hn : 0 < n)
    (hV : V (F tab) r82_B0 (r82_S0 (.d (.str s)) (.own 3 (l.map iv)) (.d (iv i)) []) = if C then V (F tab) r82_B0 (r82_S0 (.d (.str s)) (.own 3 ((l ++ [c]).map iv)) (.d (iv (i + n : Nat))) []) else some (.ret, r82_R (.d (.sl [])) (.d (.bool false)) []))
    (hC : C = (sizeL ((bs s).drop i) == n)) (h0 : sizeL ((bs s).drop i) = n ∨ sizeL ((bs s).drop i) = 0) (ih : SgIs s (l ++ [c]) (i + n) k) : SgIs s l i (k + 1) := by
  obtain ⟨va, vd⟩ := bs_get hi
  have ev : validF (k + 1) ((bs s).drop i) = if sizeL ((bs s).drop i) = 0 then false else validF k (((bs s).drop i).drop (sizeL ((bs s).drop i))) := by rw [vd]; rfl
  unfold SgIs at ih ⊢
  rcases h0 with h0 | h0
  · have e : C = true := by rw [hC, h0]; simp
    have e2 : validF (k + 1) ((bs s).drop i) = validF k ((bs s).drop (i + n)) := by
      rw [ev, h0, if_neg (show ¬ n = 0 by omega), List.drop_drop]
    rw [e2, hV, e]
    simp only [if_true]
    exact ih
  · have e : C = false := by rw [hC, h0]; simp; omega
    have e2 : validF (k + 1) ((bs s).drop i) = false := by rw [ev, h0, if_pos rfl]
    rw [e2, hV, e]
    simp
theorem sgis_bad (s : ByteArray) (l : List Int) (i k : Nat) (hi : i < s.size) (hV : V (F tab) r82_B0 (r82_S0 (.d (.str s)) (.own 3 (l.map iv)) (.d (iv i)) []) = some (.ret, r82_R (.d (.sl [])) (.d (.bool false)) [])) (h0 : sizeL ((bs s).drop i) = 0) : SgIs s l i (k + 1) := by
  obtain ⟨va, vd⟩ := bs_get hi
  have ev : validF (k + 1) ((bs s).drop i) = if sizeL ((bs s).drop i) = 0 then false else validF k (((bs s).drop i).drop (sizeL ((bs s).drop i))) := by rw [vd]; rfl
  unfold SgIs
  rw [ev, h0]
  simpa using hV
theorem sgis_step (s : ByteArray) (hs : s.size ≤ 2097152) (l : List Int) (i k : Nat) (hi : i < s.size) (hl : l.length ≤ i) (ih : ∀ (c : Int) (n : Nat), 0 < n → n ≤ 4 → SgIs s (l ++ [c]) (i + n) k) : SgIs s l i (k + 1) := by
  obtain ⟨va, vd⟩ := bs_get hi
  have hlen : (s[i] :: (bs s).drop (i + 1)).length = s.size - i := by rw [← vd, List.length_drop, bs_len]
  have hx : s[i].toNat < 256 := UInt8.toNat_lt _
  have dn : ∀ n, decide (i + n ≤ s.size) = decide (n ≤ (s[i] :: (bs s).drop (i + 1)).length) := by
    intro n; rw [hlen]; apply decide_eq_decide.2; omega
  have okE : ∀ n c, okC s i n c = okL (s[i] :: (bs s).drop (i + 1)) n c := by
    intro n c; unfold okC okL; rw [vd]
  by_cases h1 : ((s[i].toNat : Nat) : Int) ≤ 127
  · obtain ⟨a1, a2⟩ := m1 s[i] ((bs s).drop (i + 1)) h1
    refine sgis_of s l i k 1 _ _ hi (by omega) (sg_1 s hs l (by omega) i hi (by omega) h1) ?_ (by rw [vd, a2]; simp) (ih _ 1 (by omega) (by omega))
    rw [vd, a2, okE, conts, cdec, a1]
    simp; omega
  by_cases h2 : ((s[i].toNat : Nat) : Int) ≤ 191
  · exact sgis_bad s l i k hi (sg_bad1 s hs l i hi (by omega) h2) (by rw [vd]; exact szc_1 _ (by rw [nb0]; omega) (by rw [nb0]; omega))
  by_cases h3 : ((s[i].toNat : Nat) : Int) ≤ 223
  · obtain ⟨a1, a2⟩ := m2 s[i] ((bs s).drop (i + 1)) (by omega) h3
    refine sgis_of s l i k 2 _ _ hi (by omega) (sg_2 s hs l (by omega) i hi (by omega) h3) ?_ (by rw [vd]; exact a2) (ih _ 2 (by omega) (by omega))
    rw [vd, okE, dn]; exact a1
  by_cases h4 : ((s[i].toNat : Nat) : Int) ≤ 239
  · obtain ⟨a1, a2⟩ := m3 s[i] ((bs s).drop (i + 1)) (by omega) h4
    refine sgis_of s l i k 3 _ _ hi (by omega) (sg_3 s hs l (by omega) i hi (by omega) h4) ?_ (by rw [vd]; exact a2) (ih _ 3 (by omega) (by omega))
    rw [vd, okE, dn]; exact a1
  by_cases h5 : ((s[i].toNat : Nat) : Int) ≤ 247
  · obtain ⟨a1, a2⟩ := m4 s[i] ((bs s).drop (i + 1)) (by omega) h5
    refine sgis_of s l i k 4 _ _ hi (by omega) (sg_4 s hs l (by omega) i hi (by omega) h5) ?_ (by rw [vd]; exact a2) (ih _ 4 (by omega) (by omega))
    rw [vd, okE, dn]; exact a1
  · exact sgis_bad s l i k hi (sg_bad2 s hs l i hi (by omega) (by omega)) (by rw [vd]; exact szc_10 _ (by rw [nb0]; omega) (by rw [nb0]; omega))
theorem sgis_all (s : ByteArray) (hs : s.size ≤ 2097152) : ∀ (k i : Nat) (l : List Int), s.size ≤ i + k → l.length ≤ i → SgIs s l i k
  | 0, i, l, h, hl => sgis_end s l i 0 (by omega)
  | k + 1, i, l, h, hl => by
    by_cases hi : s.size ≤ i
    · exact sgis_end s l i _ hi
    · exact sgis_step s hs l i k (by omega) hl fun c n h1 h2 => sgis_all s hs k (i + n) (l ++ [c]) (by omega) (by simp; omega)

theorem rsigns_bool (s : ByteArray) (hs : s.size ≤ 2097152) : ∃ x : D, ∀ hp, F tab 82 [.d (.str s)] hp = some (.ret (.tup [.d x, .d (.bool (validB s))]) hp) := by
  have hL := sgis_all s hs s.size 0 [] (by omega) (by simp)
  unfold SgIs at hL
  rw [List.drop_zero] at hL
  unfold validB
  rcases Bool.eq_false_or_eq_true (validF s.size (bs s)) with g | g
  · rw [if_pos g] at hL
    obtain ⟨l', hL⟩ := hL
    refine ⟨.sl (l'.map iv), fun hp => f82 rfl ?_⟩
    rw [g]
    simp (disch := omega) only [go_sem, and_self, and_true, true_and, false_and, and_false, Nat.reduceAdd, Nat.reduceMul, Nat.reduceSub, Nat.reduceLeDiff, Nat.reduceLT, Nat.reduceGT, Nat.reduceEqDiff, Nat.reduceBEq, Int.reduceNeg, Int.reduceEq, Int.reduceLT, Int.reduceLE, Int.reduceBEq, Int.reduceToNat, Int.toNat_natCast, Int.natCast_zero, r82_T, r82]
    rw [r82_B0_n, r82_B0_z4]
    erw [hL]
    simp (disch := omega) only [go_sem, and_self, and_true, true_and, false_and, and_false, Nat.reduceAdd, Nat.reduceMul, Nat.reduceSub, Nat.reduceLeDiff, Nat.reduceLT, Nat.reduceGT, Nat.reduceEqDiff, Nat.reduceBEq, Int.reduceNeg, Int.reduceEq, Int.reduceLT, Int.reduceLE, Int.reduceBEq, Int.reduceToNat, Int.toNat_natCast, Int.natCast_zero]
  · rw [if_neg (by simp [g])] at hL
    refine ⟨.sl [], fun hp => f82 rfl ?_⟩
    rw [g]
    simp (disch := omega) only [go_sem, and_self, and_true, true_and, false_and, and_false, Nat.reduceAdd, Nat.reduceMul, Nat.reduceSub, Nat.reduceLeDiff, Nat.reduceLT, Nat.reduceGT, Nat.reduceEqDiff, Nat.reduceBEq, Int.reduceNeg, Int.reduceEq, Int.reduceLT, Int.reduceLE, Int.reduceBEq, Int.reduceToNat, Int.toNat_natCast, Int.natCast_zero, r82_T, r82]
    rw [r82_B0_n, r82_B0_z4]
    erw [hL]
    simp (disch := omega) only [go_sem, and_self, and_true, true_and, false_and, and_false, Nat.reduceAdd, Nat.reduceMul, Nat.reduceSub, Nat.reduceLeDiff, Nat.reduceLT, Nat.reduceGT, Nat.reduceEqDiff, Nat.reduceBEq, Int.reduceNeg, Int.reduceEq, Int.reduceLT, Int.reduceLE, Int.reduceBEq, Int.reduceToNat, Int.toNat_natCast, Int.natCast_zero]
theorem rtext_ok (s : ByteArray) (hs : s.size ≤ 2097152) (hp : List Ent) : F tab 68 [.d (.str s)] hp = some (.ret (.d (.bool (validB s))) hp) := by
  obtain ⟨x, h⟩ := rsigns_bool s hs
  refine f68 rfl ?_
  simp (disch := omega) only [go_sem, and_self, and_true, true_and, false_and, and_false, Nat.reduceAdd, Nat.reduceMul, Nat.reduceSub, Nat.reduceLeDiff, Nat.reduceLT, Nat.reduceGT, Nat.reduceEqDiff, Nat.reduceBEq, Int.reduceNeg, Int.reduceEq, Int.reduceLT, Int.reduceLE, Int.reduceBEq, Int.reduceToNat, Int.toNat_natCast, Int.natCast_zero, r68_T, r68, h]
end Go.Pe.T

namespace Go.Pe.T

/-! ### the document's own fields -/
theorem rsigns_ok (hp : List Ent) : F tab 70 [] hp = some (.ret (.d (.sl (signsL.map .str))) hp) := by
  refine f70 rfl ?_
  simp only [go_sem, and_self, and_true, true_and, false_and, and_false, Nat.reduceAdd, Nat.reduceMul, Nat.reduceSub, Nat.reduceLeDiff, Nat.reduceLT, Nat.reduceGT, Nat.reduceEqDiff, Nat.reduceBEq, Int.reduceNeg, Int.reduceEq, Int.reduceLT, Int.reduceLE, Int.reduceBEq, Int.reduceToNat, Int.toNat_natCast, Int.natCast_zero, r70_T, r70, signsL, List.map_cons, List.map_nil]
def partsV (o : Int) : Int × Int :=
  if o = 0 ∨ o = 1 ∨ o = 2 ∨ o = 8 ∨ o = 19 then (0, 0) else
  if o = 3 ∨ o = 5 ∨ o = 18 ∨ o = 20 ∨ o = 21 then (1, 1) else
  if o = 4 ∨ o = 6 ∨ o = 7 ∨ o = 10 ∨ o = 15 ∨ o = 17 then (2, 2) else
  if o = 9 ∨ o = 13 ∨ o = 14 then (3, 3) else
  if o = 11 then (0, 1) else
  if o = 12 then (0, 1000) else
  if o = 16 then (0, 4) else
  (-1, -1)
set_option maxHeartbeats 4000000 in
theorem parts_ok (o : Int) (hp : List Ent) : F tab 66 [.d (iv o)] hp = some (.ret (.tup [.d (iv (partsV o).1), .d (iv (partsV o).2)]) hp) := by
  refine f66 rfl ?_
  by_cases x0 : o = 0
  · have e : partsV o = (0, 0) := by subst x0; rfl
    rw [e]
    simp only [go_sem, and_self, and_true, true_and, false_and, and_false, Nat.reduceAdd, Nat.reduceMul, Nat.reduceSub, Nat.reduceLeDiff, Nat.reduceLT, Nat.reduceGT, Nat.reduceEqDiff, Nat.reduceBEq, Int.reduceNeg, Int.reduceEq, Int.reduceLT, Int.reduceLE, Int.reduceBEq, Int.reduceToNat, Int.toNat_natCast, Int.natCast_zero, r66_T, r66, x0]
  have g0 : (o == 0) = false := by simpa using x0
  by_cases x1 : o = 1
  · have e : partsV o = (0, 0) := by subst x1; rfl
    rw [e]
    simp only [go_sem, and_self, and_true, true_and, false_and, and_false, Nat.reduceAdd, Nat.reduceMul, Nat.reduceSub, Nat.reduceLeDiff, Nat.reduceLT, Nat.reduceGT, Nat.reduceEqDiff, Nat.reduceBEq, Int.reduceNeg, Int.reduceEq, Int.reduceLT, Int.reduceLE, Int.reduceBEq, Int.reduceToNat, Int.toNat_natCast, Int.natCast_zero, r66_T, r66, x1]
  have g1 : (o == 1) = false := by simpa using x1
  by_cases x2 : o = 2
  · have e : partsV o = (0, 0) := by subst x2; rfl
    rw [e]
    simp only [go_sem, and_self, and_true, true_and, false_and, and_false, Nat.reduceAdd, Nat.reduceMul, Nat.reduceSub, Nat.reduceLeDiff, Nat.reduceLT, Nat.reduceGT, Nat.reduceEqDiff, Nat.reduceBEq, Int.reduceNeg, Int.reduceEq, Int.reduceLT, Int.reduceLE, Int.reduceBEq, Int.reduceToNat, Int.toNat_natCast, Int.natCast_zero, r66_T, r66, x2]
  have g2 : (o == 2) = false := by simpa using x2
  by_cases x8 : o = 8
  · have e : partsV o = (0, 0) := by subst x8; rfl
    rw [e]
    simp only [go_sem, and_self, and_true, true_and, false_and, and_false, Nat.reduceAdd, Nat.reduceMul, Nat.reduceSub, Nat.reduceLeDiff, Nat.reduceLT, Nat.reduceGT, Nat.reduceEqDiff, Nat.reduceBEq, Int.reduceNeg, Int.reduceEq, Int.reduceLT, Int.reduceLE, Int.reduceBEq, Int.reduceToNat, Int.toNat_natCast, Int.natCast_zero, r66_T, r66, x8]
  have g8 : (o == 8) = false := by simpa using x8
  by_cases x19 : o = 19
  · have e : partsV o = (0, 0) := by subst x19; rfl
    rw [e]
    simp only [go_sem, and_self, and_true, true_and, false_and, and_false, Nat.reduceAdd, Nat.reduceMul, Nat.reduceSub, Nat.reduceLeDiff, Nat.reduceLT, Nat.reduceGT, Nat.reduceEqDiff, Nat.reduceBEq, Int.reduceNeg, Int.reduceEq, Int.reduceLT, Int.reduceLE, Int.reduceBEq, Int.reduceToNat, Int.toNat_natCast, Int.natCast_zero, r66_T, r66, x19]
  have g19 : (o == 19) = false := by simpa using x19
  by_cases x3 : o = 3
  · have e : partsV o = (1, 1) := by subst x3; rfl
    rw [e]
    simp only [go_sem, and_self, and_true, true_and, false_and, and_false, Nat.reduceAdd, Nat.reduceMul, Nat.reduceSub, Nat.reduceLeDiff, Nat.reduceLT, Nat.reduceGT, Nat.reduceEqDiff, Nat.reduceBEq, Int.reduceNeg, Int.reduceEq, Int.reduceLT, Int.reduceLE, Int.reduceBEq, Int.reduceToNat, Int.toNat_natCast, Int.natCast_zero, r66_T, r66, x3]
  have g3 : (o == 3) = false := by simpa using x3
  by_cases x5 : o = 5
  · have e : partsV o = (1, 1) := by subst x5; rfl
    rw [e]
    simp only [go_sem, and_self, and_true, true_and, false_and, and_false, Nat.reduceAdd, Nat.reduceMul, Nat.reduceSub, Nat.reduceLeDiff, Nat.reduceLT, Nat.reduceGT, Nat.reduceEqDiff, Nat.reduceBEq, Int.reduceNeg, Int.reduceEq, Int.reduceLT, Int.reduceLE, Int.reduceBEq, Int.reduceToNat, Int.toNat_natCast, Int.natCast_zero, r66_T, r66, x5]
  have g5 : (o == 5) = false := by simpa using x5
  by_cases x18 : o = 18
  · have e : partsV o = (1, 1) := by subst x18; rfl
    rw [e]
    simp only [go_sem, and_self, and_true, true_and, false_and, and_false, Nat.reduceAdd, Nat.reduceMul, Nat.reduceSub, Nat.reduceLeDiff, Nat.reduceLT, Nat.reduceGT, Nat.reduceEqDiff, Nat.reduceBEq, Int.reduceNeg, Int.reduceEq, Int.reduceLT, Int.reduceLE, Int.reduceBEq, Int.reduceToNat, Int.toNat_natCast, Int.natCast_zero, r66_T, r66, x18]
  have g18 : (o == 18) = false := by simpa using x18
  by_cases x20 : o = 20
  · have e : partsV o = (1, 1) := by subst x20; rfl
    rw [e]
    simp only [go_sem, and_self, and_true, true_and, false_and, and_false, Nat.reduceAdd, Nat.reduceMul, Nat.reduceSub, Nat.reduceLeDiff, Nat.reduceLT, Nat.reduceGT, Nat.reduceEqDiff, Nat.reduceBEq, Int.reduceNeg, Int.reduceEq, Int.reduceLT, Int.reduceLE, Int.reduceBEq, Int.reduceToNat, Int.toNat_natCast, Int.natCast_zero, r66_T, r66, x20]
  have g20 : (o == 20) = false := by simpa using x20
  by_cases x21 : o = 21
  · have e : partsV o = (1, 1) := by subst x21; rfl
    rw [e]
    simp only [go_sem, and_self, and_true, true_and, false_and, and_false, Nat.reduceAdd, Nat.reduceMul, Nat.reduceSub, Nat.reduceLeDiff, Nat.reduceLT, Nat.reduceGT, Nat.reduceEqDiff, Nat.reduceBEq, Int.reduceNeg, Int.reduceEq, Int.reduceLT, Int.reduceLE, Int.reduceBEq, Int.reduceToNat, Int.toNat_natCast, Int.natCast_zero, r66_T, r66, x21]
  have g21 : (o == 21) = false := by simpa using x21
  by_cases x4 : o = 4
  · have e : partsV o = (2, 2) := by subst x4; rfl
    rw [e]
    simp only [go_sem, and_self, and_true, true_and, false_and, and_false, Nat.reduceAdd, Nat.reduceMul, Nat.reduceSub, Nat.reduceLeDiff, Nat.reduceLT, Nat.reduceGT, Nat.reduceEqDiff, Nat.reduceBEq, Int.reduceNeg, Int.reduceEq, Int.reduceLT, Int.reduceLE, Int.reduceBEq, Int.reduceToNat, Int.toNat_natCast, Int.natCast_zero, r66_T, r66, x4]
  have g4 : (o == 4) = false := by simpa using x4
  by_cases x6 : o = 6
  · have e : partsV o = (2, 2) := by subst x6; rfl
    rw [e]
    simp only [go_sem, and_self, and_true, true_and, false_and, and_false, Nat.reduceAdd, Nat.reduceMul, Nat.reduceSub, Nat.reduceLeDiff, Nat.reduceLT, Nat.reduceGT, Nat.reduceEqDiff, Nat.reduceBEq, Int.reduceNeg, Int.reduceEq, Int.reduceLT, Int.reduceLE, Int.reduceBEq, Int.reduceToNat, Int.toNat_natCast, Int.natCast_zero, r66_T, r66, x6]
  have g6 : (o == 6) = false := by simpa using x6
  by_cases x7 : o = 7
  · have e : partsV o = (2, 2) := by subst x7; rfl
    rw [e]
    simp only [go_sem, and_self, and_true, true_and, false_and, and_false, Nat.reduceAdd, Nat.reduceMul, Nat.reduceSub, Nat.reduceLeDiff, Nat.reduceLT, Nat.reduceGT, Nat.reduceEqDiff, Nat.reduceBEq, Int.reduceNeg, Int.reduceEq, Int.reduceLT, Int.reduceLE, Int.reduceBEq, Int.reduceToNat, Int.toNat_natCast, Int.natCast_zero, r66_T, r66, x7]
  have g7 : (o == 7) = false := by simpa using x7
  by_cases x10 : o = 10
  · have e : partsV o = (2, 2) := by subst x10; rfl
    rw [e]
    simp only [go_sem, and_self, and_true, true_and, false_and, and_false, Nat.reduceAdd, Nat.reduceMul, Nat.reduceSub, Nat.reduceLeDiff, Nat.reduceLT, Nat.reduceGT, Nat.reduceEqDiff, Nat.reduceBEq, Int.reduceNeg, Int.reduceEq, Int.reduceLT, Int.reduceLE, Int.reduceBEq, Int.reduceToNat, Int.toNat_natCast, Int.natCast_zero, r66_T, r66, x10]
  have g10 : (o == 10) = false := by simpa using x10
  by_cases x15 : o = 15
  · have e : partsV o = (2, 2) := by subst x15; rfl
    rw [e]
    simp only [go_sem, and_self, and_true, true_and, false_and, and_false, Nat.reduceAdd, Nat.reduceMul, Nat.reduceSub, Nat.reduceLeDiff, Nat.reduceLT, Nat.reduceGT, Nat.reduceEqDiff, Nat.reduceBEq, Int.reduceNeg, Int.reduceEq, Int.reduceLT, Int.reduceLE, Int.reduceBEq, Int.reduceToNat, Int.toNat_natCast, Int.natCast_zero, r66_T, r66, x15]
  have g15 : (o == 15) = false := by simpa using x15
  by_cases x17 : o = 17
  · have e : partsV o = (2, 2) := by subst x17; rfl
    rw [e]
    simp only [go_sem, and_self, and_true, true_and, false_and, and_false, Nat.reduceAdd, Nat.reduceMul, Nat.reduceSub, Nat.reduceLeDiff, Nat.reduceLT, Nat.reduceGT, Nat.reduceEqDiff, Nat.reduceBEq, Int.reduceNeg, Int.reduceEq, Int.reduceLT, Int.reduceLE, Int.reduceBEq, Int.reduceToNat, Int.toNat_natCast, Int.natCast_zero, r66_T, r66, x17]
  have g17 : (o == 17) = false := by simpa using x17
  by_cases x9 : o = 9
  · have e : partsV o = (3, 3) := by subst x9; rfl
    rw [e]
    simp only [go_sem, and_self, and_true, true_and, false_and, and_false, Nat.reduceAdd, Nat.reduceMul, Nat.reduceSub, Nat.reduceLeDiff, Nat.reduceLT, Nat.reduceGT, Nat.reduceEqDiff, Nat.reduceBEq, Int.reduceNeg, Int.reduceEq, Int.reduceLT, Int.reduceLE, Int.reduceBEq, Int.reduceToNat, Int.toNat_natCast, Int.natCast_zero, r66_T, r66, x9]
  have g9 : (o == 9) = false := by simpa using x9
  by_cases x13 : o = 13
  · have e : partsV o = (3, 3) := by subst x13; rfl
    rw [e]
    simp only [go_sem, and_self, and_true, true_and, false_and, and_false, Nat.reduceAdd, Nat.reduceMul, Nat.reduceSub, Nat.reduceLeDiff, Nat.reduceLT, Nat.reduceGT, Nat.reduceEqDiff, Nat.reduceBEq, Int.reduceNeg, Int.reduceEq, Int.reduceLT, Int.reduceLE, Int.reduceBEq, Int.reduceToNat, Int.toNat_natCast, Int.natCast_zero, r66_T, r66, x13]
  have g13 : (o == 13) = false := by simpa using x13
  by_cases x14 : o = 14
  · have e : partsV o = (3, 3) := by subst x14; rfl
    rw [e]
    simp only [go_sem, and_self, and_true, true_and, false_and, and_false, Nat.reduceAdd, Nat.reduceMul, Nat.reduceSub, Nat.reduceLeDiff, Nat.reduceLT, Nat.reduceGT, Nat.reduceEqDiff, Nat.reduceBEq, Int.reduceNeg, Int.reduceEq, Int.reduceLT, Int.reduceLE, Int.reduceBEq, Int.reduceToNat, Int.toNat_natCast, Int.natCast_zero, r66_T, r66, x14]
  have g14 : (o == 14) = false := by simpa using x14
  by_cases x11 : o = 11
  · have e : partsV o = (0, 1) := by subst x11; rfl
    rw [e]
    simp only [go_sem, and_self, and_true, true_and, false_and, and_false, Nat.reduceAdd, Nat.reduceMul, Nat.reduceSub, Nat.reduceLeDiff, Nat.reduceLT, Nat.reduceGT, Nat.reduceEqDiff, Nat.reduceBEq, Int.reduceNeg, Int.reduceEq, Int.reduceLT, Int.reduceLE, Int.reduceBEq, Int.reduceToNat, Int.toNat_natCast, Int.natCast_zero, r66_T, r66, x11]
  have g11 : (o == 11) = false := by simpa using x11
  by_cases x12 : o = 12
  · have e : partsV o = (0, 1000) := by subst x12; rfl
    rw [e]
    simp only [go_sem, and_self, and_true, true_and, false_and, and_false, Nat.reduceAdd, Nat.reduceMul, Nat.reduceSub, Nat.reduceLeDiff, Nat.reduceLT, Nat.reduceGT, Nat.reduceEqDiff, Nat.reduceBEq, Int.reduceNeg, Int.reduceEq, Int.reduceLT, Int.reduceLE, Int.reduceBEq, Int.reduceToNat, Int.toNat_natCast, Int.natCast_zero, r66_T, r66, x12]
  have g12 : (o == 12) = false := by simpa using x12
  by_cases x16 : o = 16
  · have e : partsV o = (0, 4) := by subst x16; rfl
    rw [e]
    simp only [go_sem, and_self, and_true, true_and, false_and, and_false, Nat.reduceAdd, Nat.reduceMul, Nat.reduceSub, Nat.reduceLeDiff, Nat.reduceLT, Nat.reduceGT, Nat.reduceEqDiff, Nat.reduceBEq, Int.reduceNeg, Int.reduceEq, Int.reduceLT, Int.reduceLE, Int.reduceBEq, Int.reduceToNat, Int.toNat_natCast, Int.natCast_zero, r66_T, r66, x16]
  have g16 : (o == 16) = false := by simpa using x16
  have e : partsV o = (-1, -1) := by unfold partsV; simp only [x0, x1, x2, x8, x19, x3, x5, x18, x20, x21, x4, x6, x7, x10, x15, x17, x9, x13, x14, x11, x12, x16, or_self, if_false]
  rw [e]
  simp only [go_sem, and_self, and_true, true_and, false_and, and_false, Nat.reduceAdd, Nat.reduceMul, Nat.reduceSub, Nat.reduceLeDiff, Nat.reduceLT, Nat.reduceGT, Nat.reduceEqDiff, Nat.reduceBEq, Int.reduceNeg, Int.reduceEq, Int.reduceLT, Int.reduceLE, Int.reduceBEq, Int.reduceToNat, Int.toNat_natCast, Int.natCast_zero, r66_T, r66, g0, g1, g2, g8, g19, g3, g5, g18, g20, g21, g4, g6, g7, g10, g15, g17, g9, g13, g14, g11, g12, g16]
end Go.Pe.T

namespace Go.Pe.T

def OnLoop (o : Int) (t : ByteArray) (p k c s : Int) (ns : List ByteArray) (xs : List Xp) (i : Nat) : Prop :=
  V (F tab) r40_B0 (r40_S0 (.ibox [.d (iv o), .d (.str t), .d (iv p), .d (iv k), .d (iv c), .d (iv s), .d (.sl (ns.map .str)), .d (.sl (Xp.encs xs))]) (.d (iv i)) []) = if unF (ns.take i) (ns.drop i) then some (.norm, r40_E0 (.ibox [.d (iv o), .d (.str t), .d (iv p), .d (iv k), .d (iv c), .d (iv s), .d (.sl (ns.map .str)), .d (.sl (Xp.encs xs))]) []) else some (.ret, r40_R (.d (.bool false)) [])
theorem on_end (o : Int) (t : ByteArray) (p k c s : Int) (ns : List ByteArray) (xs : List Xp) (i : Nat) (hi : ns.length ≤ i) : OnLoop o t p k c s ns xs i := by
  have h1 : ((i : Int) < (ns.length : Int)) = False := eq_false (by omega)
  unfold OnLoop
  rw [r40_B0_eq, List.drop_of_length_le hi]
  simp (disch := omega) only [go_sem, and_self, and_true, true_and, false_and, and_false, Nat.reduceAdd, Nat.reduceMul, Nat.reduceSub, Nat.reduceLeDiff, Nat.reduceLT, Nat.reduceGT, Nat.reduceEqDiff, Nat.reduceBEq, Int.reduceNeg, Int.reduceEq, Int.reduceLT, Int.reduceLE, Int.reduceBEq, Int.reduceToNat, Int.toNat_natCast, Int.natCast_zero, r40_C0, h1, unF, List.length_map]
theorem on_step (o : Int) (t : ByteArray) (p k c s : Int) (ns : List ByteArray) (xs : List Xp) (i : Nat) (hi : i < ns.length) (hl : ns.length ≤ maxLen) (hs : ∀ x ∈ ns, x.size ≤ 2097152) (ih : OnLoop o t p k c s ns xs (i + 1)) : OnLoop o t p k c s ns xs i := by
  have hmx : maxLen = 9223372036854775807 := by decide
  have h1 : ((i : Int) < (ns.length : Int)) = True := eq_true (by omega)
  have hi0 : (0 ≤ (i : Int)) = True := eq_true (by omega)
  have hil : ((i : Int) ≤ (ns.length : Int)) = True := eq_true (by omega)
  have va : (ns.map D.str)[i]? = some (.str ns[i]) := by simp [hi]
  have hv := rtext_ok ns[i] (hs _ (List.getElem_mem hi))
  have hc := has_ok (ns.take i) ns[i] (by rw [List.length_take]; omega)
  rw [List.map_take] at hc
  unfold OnLoop at ih ⊢
  rw [Int.natCast_add, Int.natCast_one] at ih
  rw [r40_B0_eq, List.drop_eq_getElem_cons hi]
  simp only [unF, List.take_append_getElem]
  rcases Bool.eq_false_or_eq_true (validB ns[i]) with g1 | g1
  · rcases Bool.eq_false_or_eq_true (hasB (ns.take i) ns[i]) with g2 | g2
    · simp (disch := omega) only [go_sem, and_self, and_true, true_and, false_and, and_false, Nat.reduceAdd, Nat.reduceMul, Nat.reduceSub, Nat.reduceLeDiff, Nat.reduceLT, Nat.reduceGT, Nat.reduceEqDiff, Nat.reduceBEq, Int.reduceNeg, Int.reduceEq, Int.reduceLT, Int.reduceLE, Int.reduceBEq, Int.reduceToNat, Int.toNat_natCast, Int.natCast_zero, r40_C0, h1, hi0, hil, va, List.length_map, w64, hv, hc, g1, g2, strs_w, cut0, decide_true, Bool.not_true, Bool.not_false, Bool.true_and, Bool.and_false, Bool.false_and]
    · simp (disch := omega) only [go_sem, and_self, and_true, true_and, false_and, and_false, Nat.reduceAdd, Nat.reduceMul, Nat.reduceSub, Nat.reduceLeDiff, Nat.reduceLT, Nat.reduceGT, Nat.reduceEqDiff, Nat.reduceBEq, Int.reduceNeg, Int.reduceEq, Int.reduceLT, Int.reduceLE, Int.reduceBEq, Int.reduceToNat, Int.toNat_natCast, Int.natCast_zero, r40_C0, h1, hi0, hil, va, List.length_map, w64, hv, hc, g1, g2, strs_w, cut0, decide_true, Bool.not_true, Bool.not_false, Bool.true_and, Bool.and_false, Bool.false_and]
      exact ih
  · simp (disch := omega) only [go_sem, and_self, and_true, true_and, false_and, and_false, Nat.reduceAdd, Nat.reduceMul, Nat.reduceSub, Nat.reduceLeDiff, Nat.reduceLT, Nat.reduceGT, Nat.reduceEqDiff, Nat.reduceBEq, Int.reduceNeg, Int.reduceEq, Int.reduceLT, Int.reduceLE, Int.reduceBEq, Int.reduceToNat, Int.toNat_natCast, Int.natCast_zero, r40_C0, h1, hi0, hil, va, List.length_map, w64, hv, g1, decide_true, Bool.not_true, Bool.not_false, Bool.true_and, Bool.and_false, Bool.false_and]
theorem on_loop (o : Int) (t : ByteArray) (p k c s : Int) (ns : List ByteArray) (xs : List Xp) (hl : ns.length ≤ maxLen) (hs : ∀ x ∈ ns, x.size ≤ 2097152) : ∀ (j i : Nat), i + j = ns.length → OnLoop o t p k c s ns xs i
  | 0, i, hi => on_end o t p k c s ns xs i (by omega)
  | j + 1, i, hi => on_step o t p k c s ns xs i (by omega) hl hs (on_loop o t p k c s ns xs hl hs j (i + 1) (by omega))

def litR (t : ByteArray) (k c s : Int) : Bool :=
  if k < 0 then false else if k > 4 then false
  else if k ≠ 3 ∧ (c ≠ 0 ∨ s ≠ 0) then false
  else if k ≠ 4 ∧ t.size ≠ 0 then false
  else numIs c s && validB t
def nmd (o : Int) : Bool := o == 2 || (o == 13 || (o == 14 || (o == 16 || (o == 17 || (o == 18 || o == 19)))))
def ownV (o : Int) (t : ByteArray) (p k c s : Int) (ns : List ByteArray) (n : Int) : Bool :=
  if (partsV o).1 < 0 then false else if n < (partsV o).1 then false else if n > (partsV o).2 then false else if p ≠ 0 then false
  else if o ≠ 1 ∧ (k ≠ 0 ∨ c ≠ 0 ∨ s ≠ 0) then false
  else if o ≠ 12 ∧ o ≠ 20 ∧ ns.length ≠ 0 then false
  else if o = 1 then litR t k c s
  else if nmd o = true then identB t
  else if o = 3 then validB t
  else if o = 10 then hasB signsL t
  else if o = 12 ∧ ((ns.length : Int) ≠ n ∨ n > 512 ∨ unF [] ns = false) then false
  else if o = 20 ∧ name2 ns = false then false
  else !decide (t.size ≠ 0)

def OwnIs (o : Int) (t : ByteArray) (p k c s : Int) (ns : List ByteArray) (xs : List Xp) : Prop := ∀ hp : List Ent, F tab 40 [.d (.agg [iv o, .str t, iv p, iv k, iv c, iv s, .sl (ns.map .str), .sl (Xp.encs xs)])] hp = some (.ret (.d (.bool (ownV o t p k c s ns xs.length))) hp)

theorem own_parts (o : Int) (t : ByteArray) (p k c s : Int) (ns : List ByteArray) (xs : List Xp) (h : (partsV o).1 < 0 ∨ (xs.length : Int) < (partsV o).1 ∨ (xs.length : Int) > (partsV o).2 ∨ p ≠ 0) : OwnIs o t p k c s ns xs := by
  intro hp
  have hpa := parts_ok o
  unfold ownV
  refine f40 rfl ?_
  generalize partsV o = lm at *
  obtain ⟨l, m⟩ := lm
  simp only at h hpa ⊢
  by_cases q1 : l < 0
  · simp (maxSteps := 1000000) (disch := omega) only [go_sem, and_self, and_true, true_and, false_and, and_false, Nat.reduceAdd, Nat.reduceMul, Nat.reduceSub, Nat.reduceLeDiff, Nat.reduceLT, Nat.reduceGT, Nat.reduceEqDiff, Nat.reduceBEq, Int.reduceNeg, Int.reduceEq, Int.reduceLT, Int.reduceLE, Int.reduceBEq, Int.reduceToNat, Int.toNat_natCast, Int.natCast_zero, r40_T, r40, hpa, xencs_len, List.length_map, strD_neq, strD_eql, isE, q1, if_true]
  by_cases q2 : (xs.length : Int) < l
  · simp (maxSteps := 1000000) (disch := omega) only [go_sem, and_self, and_true, true_and, false_and, and_false, Nat.reduceAdd, Nat.reduceMul, Nat.reduceSub, Nat.reduceLeDiff, Nat.reduceLT, Nat.reduceGT, Nat.reduceEqDiff, Nat.reduceBEq, Int.reduceNeg, Int.reduceEq, Int.reduceLT, Int.reduceLE, Int.reduceBEq, Int.reduceToNat, Int.toNat_natCast, Int.natCast_zero, r40_T, r40, hpa, xencs_len, List.length_map, strD_neq, strD_eql, isE, q1, q2, if_true, if_false]
  by_cases q3 : (xs.length : Int) > m
  · simp (maxSteps := 1000000) (disch := omega) only [go_sem, and_self, and_true, true_and, false_and, and_false, Nat.reduceAdd, Nat.reduceMul, Nat.reduceSub, Nat.reduceLeDiff, Nat.reduceLT, Nat.reduceGT, Nat.reduceEqDiff, Nat.reduceBEq, Int.reduceNeg, Int.reduceEq, Int.reduceLT, Int.reduceLE, Int.reduceBEq, Int.reduceToNat, Int.toNat_natCast, Int.natCast_zero, r40_T, r40, hpa, xencs_len, List.length_map, strD_neq, strD_eql, isE, q1, q2, q3, if_true, if_false]
  have q4 : p ≠ 0 := by omega
  have q5 : (p != 0) = true := by simpa using q4
  simp (maxSteps := 1000000) (disch := omega) only [go_sem, and_self, and_true, true_and, false_and, and_false, Nat.reduceAdd, Nat.reduceMul, Nat.reduceSub, Nat.reduceLeDiff, Nat.reduceLT, Nat.reduceGT, Nat.reduceEqDiff, Nat.reduceBEq, Int.reduceNeg, Int.reduceEq, Int.reduceLT, Int.reduceLE, Int.reduceBEq, Int.reduceToNat, Int.toNat_natCast, Int.natCast_zero, r40_T, r40, hpa, xencs_len, List.length_map, strD_neq, strD_eql, isE, q1, q2, q3, q4, q5, ne_eq, not_false_eq_true, if_true, if_false]

/-- the parts are so many, and At is 0 -/
structure Own0 (o p : Int) (n : Int) : Prop where
  q1 : ¬ (partsV o).1 < 0
  q2 : ¬ n < (partsV o).1
  q3 : ¬ n > (partsV o).2
  q4 : p = 0

theorem own_v0 {o p n : Int} (h : Own0 o p n) (t : ByteArray) (k c s : Int) (ns : List ByteArray) : ownV o t p k c s ns n =
  if o ≠ 1 ∧ (k ≠ 0 ∨ c ≠ 0 ∨ s ≠ 0) then false
  else if o ≠ 12 ∧ o ≠ 20 ∧ ns.length ≠ 0 then false
  else if o = 1 then litR t k c s
  else if nmd o = true then identB t
  else if o = 3 then validB t
  else if o = 10 then hasB signsL t
  else if o = 12 ∧ ((ns.length : Int) ≠ n ∨ n > 512 ∨ unF [] ns = false) then false
  else if o = 20 ∧ name2 ns = false then false
  else !decide (t.size ≠ 0) := by
  unfold ownV
  have : ¬ p ≠ 0 := fun e => e h.q4
  rw [if_neg h.q1, if_neg h.q2, if_neg h.q3, if_neg this]

theorem own_k1 (o : Int) (t : ByteArray) (p k c s : Int) (ns : List ByteArray) (xs : List Xp) (h0 : Own0 o p xs.length) (o1 : o ≠ 1) (hk : k ≠ 0) : OwnIs o t p k c s ns xs := by
  intro hp
  have hpa := parts_ok o
  obtain ⟨q1, q2, q3, q4⟩ := h0
  have e : ownV o t p k c s ns xs.length = false := by
    rw [own_v0 ⟨q1, q2, q3, q4⟩]
    rw [if_pos ⟨o1, .inl hk⟩]
  rw [e]
  have q5 : (p != 0) = false := by simp [q4]
  generalize partsV o = lm at *
  obtain ⟨l, m⟩ := lm
  simp only at q1 q2 q3 hpa
  refine f40 rfl ?_
  have e1 : (o != 1) = true := by simpa using o1
  have e2 : (k != 0) = true := by simpa using hk
  simp (maxSteps := 1000000) (disch := omega) only [go_sem, and_self, and_true, true_and, false_and, and_false, Nat.reduceAdd, Nat.reduceMul, Nat.reduceSub, Nat.reduceLeDiff, Nat.reduceLT, Nat.reduceGT, Nat.reduceEqDiff, Nat.reduceBEq, Int.reduceNeg, Int.reduceEq, Int.reduceLT, Int.reduceLE, Int.reduceBEq, Int.reduceToNat, Int.toNat_natCast, Int.natCast_zero, r40_T, r40, hpa, xencs_len, List.length_map, strD_neq, strD_eql, isE, q1, q2, q3, q5, e1, e2]

theorem own_k2 (o : Int) (t : ByteArray) (p k c s : Int) (ns : List ByteArray) (xs : List Xp) (h0 : Own0 o p xs.length) (o1 : o ≠ 1) (hk : k = 0) (hc : c ≠ 0) : OwnIs o t p k c s ns xs := by
  intro hp
  have hpa := parts_ok o
  obtain ⟨q1, q2, q3, q4⟩ := h0
  have e : ownV o t p k c s ns xs.length = false := by
    rw [own_v0 ⟨q1, q2, q3, q4⟩]
    rw [if_pos ⟨o1, .inr (.inl hc)⟩]
  rw [e]
  have q5 : (p != 0) = false := by simp [q4]
  generalize partsV o = lm at *
  obtain ⟨l, m⟩ := lm
  simp only at q1 q2 q3 hpa
  refine f40 rfl ?_
  have e1 : (o != 1) = true := by simpa using o1
  have e2 : (k != 0) = false := by simp [hk]
  have e3 : (c != 0) = true := by simpa using hc
  simp (maxSteps := 1000000) (disch := omega) only [go_sem, and_self, and_true, true_and, false_and, and_false, Nat.reduceAdd, Nat.reduceMul, Nat.reduceSub, Nat.reduceLeDiff, Nat.reduceLT, Nat.reduceGT, Nat.reduceEqDiff, Nat.reduceBEq, Int.reduceNeg, Int.reduceEq, Int.reduceLT, Int.reduceLE, Int.reduceBEq, Int.reduceToNat, Int.toNat_natCast, Int.natCast_zero, r40_T, r40, hpa, xencs_len, List.length_map, strD_neq, strD_eql, isE, q1, q2, q3, q5, e1, e2, e3]

theorem own_k3 (o : Int) (t : ByteArray) (p k c s : Int) (ns : List ByteArray) (xs : List Xp) (h0 : Own0 o p xs.length) (o1 : o ≠ 1) (hk : k = 0) (hc : c = 0) (hs0 : s ≠ 0) : OwnIs o t p k c s ns xs := by
  intro hp
  have hpa := parts_ok o
  obtain ⟨q1, q2, q3, q4⟩ := h0
  have e : ownV o t p k c s ns xs.length = false := by
    rw [own_v0 ⟨q1, q2, q3, q4⟩]
    rw [if_pos ⟨o1, .inr (.inr hs0)⟩]
  rw [e]
  have q5 : (p != 0) = false := by simp [q4]
  generalize partsV o = lm at *
  obtain ⟨l, m⟩ := lm
  simp only at q1 q2 q3 hpa
  refine f40 rfl ?_
  have e1 : (o != 1) = true := by simpa using o1
  have e2 : (k != 0) = false := by simp [hk]
  have e3 : (c != 0) = false := by simp [hc]
  have e4 : (s != 0) = true := by simpa using hs0
  simp (maxSteps := 1000000) (disch := omega) only [go_sem, and_self, and_true, true_and, false_and, and_false, Nat.reduceAdd, Nat.reduceMul, Nat.reduceSub, Nat.reduceLeDiff, Nat.reduceLT, Nat.reduceGT, Nat.reduceEqDiff, Nat.reduceBEq, Int.reduceNeg, Int.reduceEq, Int.reduceLT, Int.reduceLE, Int.reduceBEq, Int.reduceToNat, Int.toNat_natCast, Int.natCast_zero, r40_T, r40, hpa, xencs_len, List.length_map, strD_neq, strD_eql, isE, q1, q2, q3, q5, e1, e2, e3, e4]

theorem own_n1 (o : Int) (t : ByteArray) (p k c s : Int) (ns : List ByteArray) (xs : List Xp) (h0 : Own0 o p xs.length) (o1 : o ≠ 1) (hk : k = 0) (hc : c = 0) (hs0 : s = 0) (o12 : o ≠ 12) (o20 : o ≠ 20) (hn : ns.length ≠ 0) : OwnIs o t p k c s ns xs := by
  intro hp
  have hpa := parts_ok o
  obtain ⟨q1, q2, q3, q4⟩ := h0
  have e : ownV o t p k c s ns xs.length = false := by
    rw [own_v0 ⟨q1, q2, q3, q4⟩]
    rw [if_neg (show ¬ (o ≠ 1 ∧ (k ≠ 0 ∨ c ≠ 0 ∨ s ≠ 0)) by omega)]
    rw [if_pos ⟨o12, o20, hn⟩]
  rw [e]
  have q5 : (p != 0) = false := by simp [q4]
  generalize partsV o = lm at *
  obtain ⟨l, m⟩ := lm
  simp only at q1 q2 q3 hpa
  refine f40 rfl ?_
  have e1 : (o != 1) = true := by simpa using o1
  have e0 : (o == 1) = false := by simpa using o1
  have e2 : (k != 0) = false := by simp [hk]
  have e3 : (c != 0) = false := by simp [hc]
  have e4 : (s != 0) = false := by simp [hs0]
  have e5 : (o != 12) = true := by simpa using o12
  have e6 : (o != 20) = true := by simpa using o20
  have e7 : ((ns.length : Int) > 0) = True := eq_true (by omega)
  simp (maxSteps := 1000000) (disch := omega) only [go_sem, and_self, and_true, true_and, false_and, and_false, Nat.reduceAdd, Nat.reduceMul, Nat.reduceSub, Nat.reduceLeDiff, Nat.reduceLT, Nat.reduceGT, Nat.reduceEqDiff, Nat.reduceBEq, Int.reduceNeg, Int.reduceEq, Int.reduceLT, Int.reduceLE, Int.reduceBEq, Int.reduceToNat, Int.toNat_natCast, Int.natCast_zero, r40_T, r40, hpa, xencs_len, List.length_map, strD_neq, strD_eql, isE, q1, q2, q3, q5, e1, e2, e3, e4, e5, e6, e7, decide_true]

set_option maxHeartbeats 4000000 in
theorem own_id2 (o : Int) (t : ByteArray) (p k c s : Int) (ns : List ByteArray) (xs : List Xp) (h0 : Own0 o p xs.length) (o1 : o ≠ 1) (hk : k = 0) (hc : c = 0) (hs0 : s = 0) (o12 : o ≠ 12) (o20 : o ≠ 20) (hn : ns.length = 0) (ht : t.size ≤ 2097152) (hid : nmd o = true) (hk0 : o = 2) : OwnIs o t p k c s ns xs := by
  intro hp
  have hpa := parts_ok o
  obtain ⟨q1, q2, q3, q4⟩ := h0
  have e : ownV o t p k c s ns xs.length = identB t := by
    rw [own_v0 ⟨q1, q2, q3, q4⟩]
    rw [if_neg (show ¬ (o ≠ 1 ∧ (k ≠ 0 ∨ c ≠ 0 ∨ s ≠ 0)) by omega)]
    rw [if_neg (show ¬ (o ≠ 12 ∧ o ≠ 20 ∧ ns.length ≠ 0) by omega), if_neg o1]
    rw [if_pos hid]
  rw [e]
  have q5 : (p != 0) = false := by simp [q4]
  generalize partsV o = lm at *
  obtain ⟨l, m⟩ := lm
  simp only at q1 q2 q3 hpa
  refine f40 rfl ?_
  have e1 : (o != 1) = true := by simpa using o1
  have e0 : (o == 1) = false := by simpa using o1
  have e2 : (k != 0) = false := by simp [hk]
  have e3 : (c != 0) = false := by simp [hc]
  have e4 : (s != 0) = false := by simp [hs0]
  have e5 : (o != 12) = true := by simpa using o12
  have e6 : (o != 20) = true := by simpa using o20
  have e7 : ((ns.length : Int) > 0) = False := eq_false (by omega)
  have hi := rident_ok t (by have : maxLen = 9223372036854775807 := by decide
                             omega)
  have i2 : (o == 2) = true := by simp [hk0]
  simp (maxSteps := 1000000) (disch := omega) only [go_sem, and_self, and_true, true_and, false_and, and_false, Nat.reduceAdd, Nat.reduceMul, Nat.reduceSub, Nat.reduceLeDiff, Nat.reduceLT, Nat.reduceGT, Nat.reduceEqDiff, Nat.reduceBEq, Int.reduceNeg, Int.reduceEq, Int.reduceLT, Int.reduceLE, Int.reduceBEq, Int.reduceToNat, Int.toNat_natCast, Int.natCast_zero, r40_T, r40, hpa, xencs_len, List.length_map, strD_neq, strD_eql, isE, q1, q2, q3, q5, e0, e1, e2, e3, e4, e5, e6, e7, hi, i2, decide_false]

set_option maxHeartbeats 4000000 in
theorem own_id13 (o : Int) (t : ByteArray) (p k c s : Int) (ns : List ByteArray) (xs : List Xp) (h0 : Own0 o p xs.length) (o1 : o ≠ 1) (hk : k = 0) (hc : c = 0) (hs0 : s = 0) (o12 : o ≠ 12) (o20 : o ≠ 20) (hn : ns.length = 0) (ht : t.size ≤ 2097152) (hid : nmd o = true) (hk0 : o = 13) : OwnIs o t p k c s ns xs := by
  intro hp
  have hpa := parts_ok o
  obtain ⟨q1, q2, q3, q4⟩ := h0
  have e : ownV o t p k c s ns xs.length = identB t := by
    rw [own_v0 ⟨q1, q2, q3, q4⟩]
    rw [if_neg (show ¬ (o ≠ 1 ∧ (k ≠ 0 ∨ c ≠ 0 ∨ s ≠ 0)) by omega)]
    rw [if_neg (show ¬ (o ≠ 12 ∧ o ≠ 20 ∧ ns.length ≠ 0) by omega), if_neg o1]
    rw [if_pos hid]
  rw [e]
  have q5 : (p != 0) = false := by simp [q4]
  generalize partsV o = lm at *
  obtain ⟨l, m⟩ := lm
  simp only at q1 q2 q3 hpa
  refine f40 rfl ?_
  have e1 : (o != 1) = true := by simpa using o1
  have e0 : (o == 1) = false := by simpa using o1
  have e2 : (k != 0) = false := by simp [hk]
  have e3 : (c != 0) = false := by simp [hc]
  have e4 : (s != 0) = false := by simp [hs0]
  have e5 : (o != 12) = true := by simpa using o12
  have e6 : (o != 20) = true := by simpa using o20
  have e7 : ((ns.length : Int) > 0) = False := eq_false (by omega)
  have hi := rident_ok t (by have : maxLen = 9223372036854775807 := by decide
                             omega)
  have i2 : (o == 2) = false := by simp [hk0]
  have i13 : (o == 13) = true := by simp [hk0]
  simp (maxSteps := 1000000) (disch := omega) only [go_sem, and_self, and_true, true_and, false_and, and_false, Nat.reduceAdd, Nat.reduceMul, Nat.reduceSub, Nat.reduceLeDiff, Nat.reduceLT, Nat.reduceGT, Nat.reduceEqDiff, Nat.reduceBEq, Int.reduceNeg, Int.reduceEq, Int.reduceLT, Int.reduceLE, Int.reduceBEq, Int.reduceToNat, Int.toNat_natCast, Int.natCast_zero, r40_T, r40, hpa, xencs_len, List.length_map, strD_neq, strD_eql, isE, q1, q2, q3, q5, e0, e1, e2, e3, e4, e5, e6, e7, hi, i2, i13, decide_false]

set_option maxHeartbeats 4000000 in
theorem own_id14 (o : Int) (t : ByteArray) (p k c s : Int) (ns : List ByteArray) (xs : List Xp) (h0 : Own0 o p xs.length) (o1 : o ≠ 1) (hk : k = 0) (hc : c = 0) (hs0 : s = 0) (o12 : o ≠ 12) (o20 : o ≠ 20) (hn : ns.length = 0) (ht : t.size ≤ 2097152) (hid : nmd o = true) (hk0 : o = 14) : OwnIs o t p k c s ns xs := by
  intro hp
  have hpa := parts_ok o
  obtain ⟨q1, q2, q3, q4⟩ := h0
  have e : ownV o t p k c s ns xs.length = identB t := by
    rw [own_v0 ⟨q1, q2, q3, q4⟩]
    rw [if_neg (show ¬ (o ≠ 1 ∧ (k ≠ 0 ∨ c ≠ 0 ∨ s ≠ 0)) by omega)]
    rw [if_neg (show ¬ (o ≠ 12 ∧ o ≠ 20 ∧ ns.length ≠ 0) by omega), if_neg o1]
    rw [if_pos hid]
  rw [e]
  have q5 : (p != 0) = false := by simp [q4]
  generalize partsV o = lm at *
  obtain ⟨l, m⟩ := lm
  simp only at q1 q2 q3 hpa
  refine f40 rfl ?_
  have e1 : (o != 1) = true := by simpa using o1
  have e0 : (o == 1) = false := by simpa using o1
  have e2 : (k != 0) = false := by simp [hk]
  have e3 : (c != 0) = false := by simp [hc]
  have e4 : (s != 0) = false := by simp [hs0]
  have e5 : (o != 12) = true := by simpa using o12
  have e6 : (o != 20) = true := by simpa using o20
  have e7 : ((ns.length : Int) > 0) = False := eq_false (by omega)
  have hi := rident_ok t (by have : maxLen = 9223372036854775807 := by decide
                             omega)
  have i2 : (o == 2) = false := by simp [hk0]
  have i13 : (o == 13) = false := by simp [hk0]
  have i14 : (o == 14) = true := by simp [hk0]
  simp (maxSteps := 1000000) (disch := omega) only [go_sem, and_self, and_true, true_and, false_and, and_false, Nat.reduceAdd, Nat.reduceMul, Nat.reduceSub, Nat.reduceLeDiff, Nat.reduceLT, Nat.reduceGT, Nat.reduceEqDiff, Nat.reduceBEq, Int.reduceNeg, Int.reduceEq, Int.reduceLT, Int.reduceLE, Int.reduceBEq, Int.reduceToNat, Int.toNat_natCast, Int.natCast_zero, r40_T, r40, hpa, xencs_len, List.length_map, strD_neq, strD_eql, isE, q1, q2, q3, q5, e0, e1, e2, e3, e4, e5, e6, e7, hi, i2, i13, i14, decide_false]

set_option maxHeartbeats 4000000 in
theorem own_id16 (o : Int) (t : ByteArray) (p k c s : Int) (ns : List ByteArray) (xs : List Xp) (h0 : Own0 o p xs.length) (o1 : o ≠ 1) (hk : k = 0) (hc : c = 0) (hs0 : s = 0) (o12 : o ≠ 12) (o20 : o ≠ 20) (hn : ns.length = 0) (ht : t.size ≤ 2097152) (hid : nmd o = true) (hk0 : o = 16) : OwnIs o t p k c s ns xs := by
  intro hp
  have hpa := parts_ok o
  obtain ⟨q1, q2, q3, q4⟩ := h0
  have e : ownV o t p k c s ns xs.length = identB t := by
    rw [own_v0 ⟨q1, q2, q3, q4⟩]
    rw [if_neg (show ¬ (o ≠ 1 ∧ (k ≠ 0 ∨ c ≠ 0 ∨ s ≠ 0)) by omega)]
    rw [if_neg (show ¬ (o ≠ 12 ∧ o ≠ 20 ∧ ns.length ≠ 0) by omega), if_neg o1]
    rw [if_pos hid]
  rw [e]
  have q5 : (p != 0) = false := by simp [q4]
  generalize partsV o = lm at *
  obtain ⟨l, m⟩ := lm
  simp only at q1 q2 q3 hpa
  refine f40 rfl ?_
  have e1 : (o != 1) = true := by simpa using o1
  have e0 : (o == 1) = false := by simpa using o1
  have e2 : (k != 0) = false := by simp [hk]
  have e3 : (c != 0) = false := by simp [hc]
  have e4 : (s != 0) = false := by simp [hs0]
  have e5 : (o != 12) = true := by simpa using o12
  have e6 : (o != 20) = true := by simpa using o20
  have e7 : ((ns.length : Int) > 0) = False := eq_false (by omega)
  have hi := rident_ok t (by have : maxLen = 9223372036854775807 := by decide
                             omega)
  have i2 : (o == 2) = false := by simp [hk0]
  have i13 : (o == 13) = false := by simp [hk0]
  have i14 : (o == 14) = false := by simp [hk0]
  have i16 : (o == 16) = true := by simp [hk0]
  simp (maxSteps := 1000000) (disch := omega) only [go_sem, and_self, and_true, true_and, false_and, and_false, Nat.reduceAdd, Nat.reduceMul, Nat.reduceSub, Nat.reduceLeDiff, Nat.reduceLT, Nat.reduceGT, Nat.reduceEqDiff, Nat.reduceBEq, Int.reduceNeg, Int.reduceEq, Int.reduceLT, Int.reduceLE, Int.reduceBEq, Int.reduceToNat, Int.toNat_natCast, Int.natCast_zero, r40_T, r40, hpa, xencs_len, List.length_map, strD_neq, strD_eql, isE, q1, q2, q3, q5, e0, e1, e2, e3, e4, e5, e6, e7, hi, i2, i13, i14, i16, decide_false]

set_option maxHeartbeats 4000000 in
theorem own_id17 (o : Int) (t : ByteArray) (p k c s : Int) (ns : List ByteArray) (xs : List Xp) (h0 : Own0 o p xs.length) (o1 : o ≠ 1) (hk : k = 0) (hc : c = 0) (hs0 : s = 0) (o12 : o ≠ 12) (o20 : o ≠ 20) (hn : ns.length = 0) (ht : t.size ≤ 2097152) (hid : nmd o = true) (hk0 : o = 17) : OwnIs o t p k c s ns xs := by
  intro hp
  have hpa := parts_ok o
  obtain ⟨q1, q2, q3, q4⟩ := h0
  have e : ownV o t p k c s ns xs.length = identB t := by
    rw [own_v0 ⟨q1, q2, q3, q4⟩]
    rw [if_neg (show ¬ (o ≠ 1 ∧ (k ≠ 0 ∨ c ≠ 0 ∨ s ≠ 0)) by omega)]
    rw [if_neg (show ¬ (o ≠ 12 ∧ o ≠ 20 ∧ ns.length ≠ 0) by omega), if_neg o1]
    rw [if_pos hid]
  rw [e]
  have q5 : (p != 0) = false := by simp [q4]
  generalize partsV o = lm at *
  obtain ⟨l, m⟩ := lm
  simp only at q1 q2 q3 hpa
  refine f40 rfl ?_
  have e1 : (o != 1) = true := by simpa using o1
  have e0 : (o == 1) = false := by simpa using o1
  have e2 : (k != 0) = false := by simp [hk]
  have e3 : (c != 0) = false := by simp [hc]
  have e4 : (s != 0) = false := by simp [hs0]
  have e5 : (o != 12) = true := by simpa using o12
  have e6 : (o != 20) = true := by simpa using o20
  have e7 : ((ns.length : Int) > 0) = False := eq_false (by omega)
  have hi := rident_ok t (by have : maxLen = 9223372036854775807 := by decide
                             omega)
  have i2 : (o == 2) = false := by simp [hk0]
  have i13 : (o == 13) = false := by simp [hk0]
  have i14 : (o == 14) = false := by simp [hk0]
  have i16 : (o == 16) = false := by simp [hk0]
  have i17 : (o == 17) = true := by simp [hk0]
  simp (maxSteps := 1000000) (disch := omega) only [go_sem, and_self, and_true, true_and, false_and, and_false, Nat.reduceAdd, Nat.reduceMul, Nat.reduceSub, Nat.reduceLeDiff, Nat.reduceLT, Nat.reduceGT, Nat.reduceEqDiff, Nat.reduceBEq, Int.reduceNeg, Int.reduceEq, Int.reduceLT, Int.reduceLE, Int.reduceBEq, Int.reduceToNat, Int.toNat_natCast, Int.natCast_zero, r40_T, r40, hpa, xencs_len, List.length_map, strD_neq, strD_eql, isE, q1, q2, q3, q5, e0, e1, e2, e3, e4, e5, e6, e7, hi, i2, i13, i14, i16, i17, decide_false]

set_option maxHeartbeats 4000000 in
theorem own_id18 (o : Int) (t : ByteArray) (p k c s : Int) (ns : List ByteArray) (xs : List Xp) (h0 : Own0 o p xs.length) (o1 : o ≠ 1) (hk : k = 0) (hc : c = 0) (hs0 : s = 0) (o12 : o ≠ 12) (o20 : o ≠ 20) (hn : ns.length = 0) (ht : t.size ≤ 2097152) (hid : nmd o = true) (hk0 : o = 18) : OwnIs o t p k c s ns xs := by
  intro hp
  have hpa := parts_ok o
  obtain ⟨q1, q2, q3, q4⟩ := h0
  have e : ownV o t p k c s ns xs.length = identB t := by
    rw [own_v0 ⟨q1, q2, q3, q4⟩]
    rw [if_neg (show ¬ (o ≠ 1 ∧ (k ≠ 0 ∨ c ≠ 0 ∨ s ≠ 0)) by omega)]
    rw [if_neg (show ¬ (o ≠ 12 ∧ o ≠ 20 ∧ ns.length ≠ 0) by omega), if_neg o1]
    rw [if_pos hid]
  rw [e]
  have q5 : (p != 0) = false := by simp [q4]
  generalize partsV o = lm at *
  obtain ⟨l, m⟩ := lm
  simp only at q1 q2 q3 hpa
  refine f40 rfl ?_
  have e1 : (o != 1) = true := by simpa using o1
  have e0 : (o == 1) = false := by simpa using o1
  have e2 : (k != 0) = false := by simp [hk]
  have e3 : (c != 0) = false := by simp [hc]
  have e4 : (s != 0) = false := by simp [hs0]
  have e5 : (o != 12) = true := by simpa using o12
  have e6 : (o != 20) = true := by simpa using o20
  have e7 : ((ns.length : Int) > 0) = False := eq_false (by omega)
  have hi := rident_ok t (by have : maxLen = 9223372036854775807 := by decide
                             omega)
  have i2 : (o == 2) = false := by simp [hk0]
  have i13 : (o == 13) = false := by simp [hk0]
  have i14 : (o == 14) = false := by simp [hk0]
  have i16 : (o == 16) = false := by simp [hk0]
  have i17 : (o == 17) = false := by simp [hk0]
  have i18 : (o == 18) = true := by simp [hk0]
  simp (maxSteps := 1000000) (disch := omega) only [go_sem, and_self, and_true, true_and, false_and, and_false, Nat.reduceAdd, Nat.reduceMul, Nat.reduceSub, Nat.reduceLeDiff, Nat.reduceLT, Nat.reduceGT, Nat.reduceEqDiff, Nat.reduceBEq, Int.reduceNeg, Int.reduceEq, Int.reduceLT, Int.reduceLE, Int.reduceBEq, Int.reduceToNat, Int.toNat_natCast, Int.natCast_zero, r40_T, r40, hpa, xencs_len, List.length_map, strD_neq, strD_eql, isE, q1, q2, q3, q5, e0, e1, e2, e3, e4, e5, e6, e7, hi, i2, i13, i14, i16, i17, i18, decide_false]

set_option maxHeartbeats 4000000 in
theorem own_id19 (o : Int) (t : ByteArray) (p k c s : Int) (ns : List ByteArray) (xs : List Xp) (h0 : Own0 o p xs.length) (o1 : o ≠ 1) (hk : k = 0) (hc : c = 0) (hs0 : s = 0) (o12 : o ≠ 12) (o20 : o ≠ 20) (hn : ns.length = 0) (ht : t.size ≤ 2097152) (hid : nmd o = true) (hk0 : o = 19) : OwnIs o t p k c s ns xs := by
  intro hp
  have hpa := parts_ok o
  obtain ⟨q1, q2, q3, q4⟩ := h0
  have e : ownV o t p k c s ns xs.length = identB t := by
    rw [own_v0 ⟨q1, q2, q3, q4⟩]
    rw [if_neg (show ¬ (o ≠ 1 ∧ (k ≠ 0 ∨ c ≠ 0 ∨ s ≠ 0)) by omega)]
    rw [if_neg (show ¬ (o ≠ 12 ∧ o ≠ 20 ∧ ns.length ≠ 0) by omega), if_neg o1]
    rw [if_pos hid]
  rw [e]
  have q5 : (p != 0) = false := by simp [q4]
  generalize partsV o = lm at *
  obtain ⟨l, m⟩ := lm
  simp only at q1 q2 q3 hpa
  refine f40 rfl ?_
  have e1 : (o != 1) = true := by simpa using o1
  have e0 : (o == 1) = false := by simpa using o1
  have e2 : (k != 0) = false := by simp [hk]
  have e3 : (c != 0) = false := by simp [hc]
  have e4 : (s != 0) = false := by simp [hs0]
  have e5 : (o != 12) = true := by simpa using o12
  have e6 : (o != 20) = true := by simpa using o20
  have e7 : ((ns.length : Int) > 0) = False := eq_false (by omega)
  have hi := rident_ok t (by have : maxLen = 9223372036854775807 := by decide
                             omega)
  have i2 : (o == 2) = false := by simp [hk0]
  have i13 : (o == 13) = false := by simp [hk0]
  have i14 : (o == 14) = false := by simp [hk0]
  have i16 : (o == 16) = false := by simp [hk0]
  have i17 : (o == 17) = false := by simp [hk0]
  have i18 : (o == 18) = false := by simp [hk0]
  have i19 : (o == 19) = true := by simp [hk0]
  simp (maxSteps := 1000000) (disch := omega) only [go_sem, and_self, and_true, true_and, false_and, and_false, Nat.reduceAdd, Nat.reduceMul, Nat.reduceSub, Nat.reduceLeDiff, Nat.reduceLT, Nat.reduceGT, Nat.reduceEqDiff, Nat.reduceBEq, Int.reduceNeg, Int.reduceEq, Int.reduceLT, Int.reduceLE, Int.reduceBEq, Int.reduceToNat, Int.toNat_natCast, Int.natCast_zero, r40_T, r40, hpa, xencs_len, List.length_map, strD_neq, strD_eql, isE, q1, q2, q3, q5, e0, e1, e2, e3, e4, e5, e6, e7, hi, i2, i13, i14, i16, i17, i18, i19, decide_false]

set_option maxHeartbeats 4000000 in
theorem own_3 (o : Int) (t : ByteArray) (p k c s : Int) (ns : List ByteArray) (xs : List Xp) (h0 : Own0 o p xs.length) (o1 : o ≠ 1) (hk : k = 0) (hc : c = 0) (hs0 : s = 0) (o12 : o ≠ 12) (o20 : o ≠ 20) (hn : ns.length = 0) (hid : ¬ nmd o = true) (ht : t.size ≤ 2097152) (o3 : o = 3) : OwnIs o t p k c s ns xs := by
  intro hp
  have hpa := parts_ok o
  obtain ⟨q1, q2, q3, q4⟩ := h0
  have e : ownV o t p k c s ns xs.length = validB t := by
    rw [own_v0 ⟨q1, q2, q3, q4⟩]
    rw [if_neg (show ¬ (o ≠ 1 ∧ (k ≠ 0 ∨ c ≠ 0 ∨ s ≠ 0)) by omega)]
    rw [if_neg (show ¬ (o ≠ 12 ∧ o ≠ 20 ∧ ns.length ≠ 0) by omega), if_neg o1]
    rw [if_neg hid, if_pos o3]
  rw [e]
  have q5 : (p != 0) = false := by simp [q4]
  generalize partsV o = lm at *
  obtain ⟨l, m⟩ := lm
  simp only at q1 q2 q3 hpa
  refine f40 rfl ?_
  have e1 : (o != 1) = true := by simpa using o1
  have e0 : (o == 1) = false := by simpa using o1
  have e2 : (k != 0) = false := by simp [hk]
  have e3 : (c != 0) = false := by simp [hc]
  have e4 : (s != 0) = false := by simp [hs0]
  have e5 : (o != 12) = true := by simpa using o12
  have e6 : (o != 20) = true := by simpa using o20
  have e7 : ((ns.length : Int) > 0) = False := eq_false (by omega)
  have hcs : ¬ (o = 2 ∨ o = 13 ∨ o = 14 ∨ o = 16 ∨ o = 17 ∨ o = 18 ∨ o = 19) := by simpa [nmd] using hid
  have i2 : (o == 2) = false := by simp only [beq_eq_false_iff_ne, ne_eq]; omega
  have i13 : (o == 13) = false := by simp only [beq_eq_false_iff_ne, ne_eq]; omega
  have i14 : (o == 14) = false := by simp only [beq_eq_false_iff_ne, ne_eq]; omega
  have i16 : (o == 16) = false := by simp only [beq_eq_false_iff_ne, ne_eq]; omega
  have i17 : (o == 17) = false := by simp only [beq_eq_false_iff_ne, ne_eq]; omega
  have i18 : (o == 18) = false := by simp only [beq_eq_false_iff_ne, ne_eq]; omega
  have i19 : (o == 19) = false := by simp only [beq_eq_false_iff_ne, ne_eq]; omega
  have hv := rtext_ok t ht
  have e8 : (o == 3) = true := by simp [o3]
  simp (maxSteps := 1000000) (disch := omega) only [go_sem, and_self, and_true, true_and, false_and, and_false, Nat.reduceAdd, Nat.reduceMul, Nat.reduceSub, Nat.reduceLeDiff, Nat.reduceLT, Nat.reduceGT, Nat.reduceEqDiff, Nat.reduceBEq, Int.reduceNeg, Int.reduceEq, Int.reduceLT, Int.reduceLE, Int.reduceBEq, Int.reduceToNat, Int.toNat_natCast, Int.natCast_zero, r40_T, r40, hpa, xencs_len, List.length_map, strD_neq, strD_eql, isE, q1, q2, q3, q5, e0, e1, e2, e3, e4, e5, e6, e7, e8, i2, i13, i14, i16, i17, i18, i19, hv, decide_false]

set_option maxHeartbeats 4000000 in
theorem own_10 (o : Int) (t : ByteArray) (p k c s : Int) (ns : List ByteArray) (xs : List Xp) (h0 : Own0 o p xs.length) (o1 : o ≠ 1) (hk : k = 0) (hc : c = 0) (hs0 : s = 0) (o12 : o ≠ 12) (o20 : o ≠ 20) (hn : ns.length = 0) (hid : ¬ nmd o = true) (o3 : ¬ o = 3) (o10 : o = 10) : OwnIs o t p k c s ns xs := by
  intro hp
  have hpa := parts_ok o
  obtain ⟨q1, q2, q3, q4⟩ := h0
  have e : ownV o t p k c s ns xs.length = hasB signsL t := by
    rw [own_v0 ⟨q1, q2, q3, q4⟩]
    rw [if_neg (show ¬ (o ≠ 1 ∧ (k ≠ 0 ∨ c ≠ 0 ∨ s ≠ 0)) by omega)]
    rw [if_neg (show ¬ (o ≠ 12 ∧ o ≠ 20 ∧ ns.length ≠ 0) by omega), if_neg o1]
    rw [if_neg hid, if_neg o3, if_pos o10]
  rw [e]
  have q5 : (p != 0) = false := by simp [q4]
  generalize partsV o = lm at *
  obtain ⟨l, m⟩ := lm
  simp only at q1 q2 q3 hpa
  refine f40 rfl ?_
  have e1 : (o != 1) = true := by simpa using o1
  have e0 : (o == 1) = false := by simpa using o1
  have e2 : (k != 0) = false := by simp [hk]
  have e3 : (c != 0) = false := by simp [hc]
  have e4 : (s != 0) = false := by simp [hs0]
  have e5 : (o != 12) = true := by simpa using o12
  have e6 : (o != 20) = true := by simpa using o20
  have e7 : ((ns.length : Int) > 0) = False := eq_false (by omega)
  have hcs : ¬ (o = 2 ∨ o = 13 ∨ o = 14 ∨ o = 16 ∨ o = 17 ∨ o = 18 ∨ o = 19) := by simpa [nmd] using hid
  have i2 : (o == 2) = false := by simp only [beq_eq_false_iff_ne, ne_eq]; omega
  have i13 : (o == 13) = false := by simp only [beq_eq_false_iff_ne, ne_eq]; omega
  have i14 : (o == 14) = false := by simp only [beq_eq_false_iff_ne, ne_eq]; omega
  have i16 : (o == 16) = false := by simp only [beq_eq_false_iff_ne, ne_eq]; omega
  have i17 : (o == 17) = false := by simp only [beq_eq_false_iff_ne, ne_eq]; omega
  have i18 : (o == 18) = false := by simp only [beq_eq_false_iff_ne, ne_eq]; omega
  have i19 : (o == 19) = false := by simp only [beq_eq_false_iff_ne, ne_eq]; omega
  have hv := rsigns_ok
  have hh := has_ok signsL t (by decide)
  have e8 : (o == 3) = false := by simpa using o3
  have e9 : (o == 10) = true := by simp [o10]
  simp (maxSteps := 1000000) (disch := omega) only [go_sem, and_self, and_true, true_and, false_and, and_false, Nat.reduceAdd, Nat.reduceMul, Nat.reduceSub, Nat.reduceLeDiff, Nat.reduceLT, Nat.reduceGT, Nat.reduceEqDiff, Nat.reduceBEq, Int.reduceNeg, Int.reduceEq, Int.reduceLT, Int.reduceLE, Int.reduceBEq, Int.reduceToNat, Int.toNat_natCast, Int.natCast_zero, r40_T, r40, hpa, xencs_len, List.length_map, strD_neq, strD_eql, isE, q1, q2, q3, q5, e0, e1, e2, e3, e4, e5, e6, e7, e8, e9, i2, i13, i14, i16, i17, i18, i19, hv, hh, decide_false]

set_option maxHeartbeats 4000000 in
theorem own_else (o : Int) (t : ByteArray) (p k c s : Int) (ns : List ByteArray) (xs : List Xp) (h0 : Own0 o p xs.length) (o1 : o ≠ 1) (hk : k = 0) (hc : c = 0) (hs0 : s = 0) (o12 : o ≠ 12) (o20 : o ≠ 20) (hn : ns.length = 0) (hid : ¬ nmd o = true) (o3 : ¬ o = 3) (o10 : ¬ o = 10) : OwnIs o t p k c s ns xs := by
  intro hp
  have hpa := parts_ok o
  obtain ⟨q1, q2, q3, q4⟩ := h0
  have e : ownV o t p k c s ns xs.length = !decide (t.size ≠ 0) := by
    rw [own_v0 ⟨q1, q2, q3, q4⟩]
    rw [if_neg (show ¬ (o ≠ 1 ∧ (k ≠ 0 ∨ c ≠ 0 ∨ s ≠ 0)) by omega)]
    rw [if_neg (show ¬ (o ≠ 12 ∧ o ≠ 20 ∧ ns.length ≠ 0) by omega), if_neg o1]
    rw [if_neg hid, if_neg o3, if_neg o10, if_neg (fun h => o12 h.1), if_neg (fun h => o20 h.1)]
  rw [e]
  have q5 : (p != 0) = false := by simp [q4]
  generalize partsV o = lm at *
  obtain ⟨l, m⟩ := lm
  simp only at q1 q2 q3 hpa
  refine f40 rfl ?_
  have e1 : (o != 1) = true := by simpa using o1
  have e0 : (o == 1) = false := by simpa using o1
  have e2 : (k != 0) = false := by simp [hk]
  have e3 : (c != 0) = false := by simp [hc]
  have e4 : (s != 0) = false := by simp [hs0]
  have e5 : (o != 12) = true := by simpa using o12
  have e6 : (o != 20) = true := by simpa using o20
  have e7 : ((ns.length : Int) > 0) = False := eq_false (by omega)
  have hcs : ¬ (o = 2 ∨ o = 13 ∨ o = 14 ∨ o = 16 ∨ o = 17 ∨ o = 18 ∨ o = 19) := by simpa [nmd] using hid
  have i2 : (o == 2) = false := by simp only [beq_eq_false_iff_ne, ne_eq]; omega
  have i13 : (o == 13) = false := by simp only [beq_eq_false_iff_ne, ne_eq]; omega
  have i14 : (o == 14) = false := by simp only [beq_eq_false_iff_ne, ne_eq]; omega
  have i16 : (o == 16) = false := by simp only [beq_eq_false_iff_ne, ne_eq]; omega
  have i17 : (o == 17) = false := by simp only [beq_eq_false_iff_ne, ne_eq]; omega
  have i18 : (o == 18) = false := by simp only [beq_eq_false_iff_ne, ne_eq]; omega
  have i19 : (o == 19) = false := by simp only [beq_eq_false_iff_ne, ne_eq]; omega
  have e8 : (o == 3) = false := by simpa using o3
  have e9 : (o == 10) = false := by simpa using o10
  have e10 : (o == 12) = false := by simpa using o12
  have e11 : (o == 20) = false := by simpa using o20
  simp (maxSteps := 1000000) (disch := omega) only [go_sem, and_self, and_true, true_and, false_and, and_false, Nat.reduceAdd, Nat.reduceMul, Nat.reduceSub, Nat.reduceLeDiff, Nat.reduceLT, Nat.reduceGT, Nat.reduceEqDiff, Nat.reduceBEq, Int.reduceNeg, Int.reduceEq, Int.reduceLT, Int.reduceLE, Int.reduceBEq, Int.reduceToNat, Int.toNat_natCast, Int.natCast_zero, r40_T, r40, hpa, xencs_len, List.length_map, strD_neq, strD_eql, isE, q1, q2, q3, q5, e0, e1, e2, e3, e4, e5, e6, e7, e8, e9, e10, e11, i2, i13, i14, i16, i17, i18, i19, decide_false]

end Go.Pe.T

namespace Go.Pe.T

/-- the case of a literal -/
def own_c1 : RCode := r40_K0 ()
theorem own_hK {s : St} : V (F tab) (hold r40_K0) s = V (F tab) own_c1 s := rfl
def own_c7 : RCode := r40_K7 ()
theorem own_hK7 {s : St} : V (F tab) (hold r40_K7) s = V (F tab) own_c7 s := rfl
def C1Is (o : Int) (t : ByteArray) (p k c s : Int) (ns : List ByteArray) (xs : List Xp) (v : Bool) : Prop := ∀ (a0 a3 a4 a5 a6 a7 a8 a9 a10 a11 a12 a13 a14 a15 a16 a17 a18 a19 a20 a21 a22 a23 a24 a25 a26 a27 a28 a29 a30 a31 a32 a33 a34 a35 a36 a37 a38 a39 a40 a41 a42 a43 a44 a45 a46 a47 a48 a49 a50 a51 a52 a53 a54 a55 a56 a57 a58 a59 a60 a61 a62 a63 a64 a65 a66 a67 a68 a69 a70 a114 a115 a116 a117 a118 a119 a120 a121 a122 a123 a124 a125 a126 a127 a128 a129 a130 a131 a132 a133 a134 a135 a136 a137 a138 a139 a140 a141 a142 a143 a144 a145 a146 a147 a148 a149 a150 a151 a152 a153 a154 a155 a156 a157 a158 a159 a160 a161 a162 a163 a164 a165 a166 a167 a168 a169 a170 a171 a172 a173 a174 a175 a176 a177 a178 a179 a180 a181 a182 a183 a184 a185 a186 a187 a188 a189 a190 a191 a192 a193 a194 a195 a196 a197 a198 a199 a200 a201 : PV), V (F tab) own_c1 ⟨[a0, (.ibox [.d (iv o), .d (.str t), .d (iv p), .d (iv k), .d (iv c), .d (iv s), .d (.sl (ns.map .str)), .d (.sl (Xp.encs xs))]), .d (.bool false), a3, a4, a5, a6, a7, a8, a9, a10, a11, a12, a13, a14, a15, a16, a17, a18, a19, a20, a21, a22, a23, a24, a25, a26, a27, a28, a29, a30, a31, a32, a33, a34, a35, a36, a37, a38, a39, a40, a41, a42, a43, a44, a45, a46, a47, a48, a49, a50, a51, a52, a53, a54, a55, a56, a57, a58, a59, a60, a61, a62, a63, a64, a65, a66, a67, a68, a69, a70, .dead, .dead, .dead, .dead, .dead, .dead, .dead, .dead, .dead, .dead, .dead, .dead, .dead, .dead, .dead, .dead, .dead, .dead, .dead, .dead, .dead, .dead, .dead, .dead, .dead, .dead, .dead, .dead, .dead, .dead, .dead, .dead, .dead, .dead, .dead, .dead, .dead, .dead, .dead, .dead, .dead, .dead, .dead, a114, a115, a116, a117, a118, a119, a120, a121, a122, a123, a124, a125, a126, a127, a128, a129, a130, a131, a132, a133, a134, a135, a136, a137, a138, a139, a140, a141, a142, a143, a144, a145, a146, a147, a148, a149, a150, a151, a152, a153, a154, a155, a156, a157, a158, a159, a160, a161, a162, a163, a164, a165, a166, a167, a168, a169, a170, a171, a172, a173, a174, a175, a176, a177, a178, a179, a180, a181, a182, a183, a184, a185, a186, a187, a188, a189, a190, a191, a192, a193, a194, a195, a196, a197, a198, a199, a200, a201], []⟩ = some (.ret, r40_R (.d (.bool v)) [])
set_option maxHeartbeats 4000000 in
theorem c1_a (o : Int) (t : ByteArray) (p k c s : Int) (ns : List ByteArray) (xs : List Xp) (k0 : k < 0) : C1Is o t p k c s ns xs false := by
  intro a0 a3 a4 a5 a6 a7 a8 a9 a10 a11 a12 a13 a14 a15 a16 a17 a18 a19 a20 a21 a22 a23 a24 a25 a26 a27 a28 a29 a30 a31 a32 a33 a34 a35 a36 a37 a38 a39 a40 a41 a42 a43 a44 a45 a46 a47 a48 a49 a50 a51 a52 a53 a54 a55 a56 a57 a58 a59 a60 a61 a62 a63 a64 a65 a66 a67 a68 a69 a70 a114 a115 a116 a117 a118 a119 a120 a121 a122 a123 a124 a125 a126 a127 a128 a129 a130 a131 a132 a133 a134 a135 a136 a137 a138 a139 a140 a141 a142 a143 a144 a145 a146 a147 a148 a149 a150 a151 a152 a153 a154 a155 a156 a157 a158 a159 a160 a161 a162 a163 a164 a165 a166 a167 a168 a169 a170 a171 a172 a173 a174 a175 a176 a177 a178 a179 a180 a181 a182 a183 a184 a185 a186 a187 a188 a189 a190 a191 a192 a193 a194 a195 a196 a197 a198 a199 a200 a201
  simp (maxSteps := 1000000) (disch := omega) only [go_sem, and_self, and_true, true_and, false_and, and_false, Nat.reduceAdd, Nat.reduceMul, Nat.reduceSub, Nat.reduceLeDiff, Nat.reduceLT, Nat.reduceGT, Nat.reduceEqDiff, Nat.reduceBEq, Int.reduceNeg, Int.reduceEq, Int.reduceLT, Int.reduceLE, Int.reduceBEq, Int.reduceToNat, Int.toNat_natCast, Int.natCast_zero, own_c1, r40_K0, k0, decide_true, decide_false]

set_option maxHeartbeats 4000000 in
theorem c1_b (o : Int) (t : ByteArray) (p k c s : Int) (ns : List ByteArray) (xs : List Xp) (k0 : ¬ k < 0) (k4 : k > 4) : C1Is o t p k c s ns xs false := by
  intro a0 a3 a4 a5 a6 a7 a8 a9 a10 a11 a12 a13 a14 a15 a16 a17 a18 a19 a20 a21 a22 a23 a24 a25 a26 a27 a28 a29 a30 a31 a32 a33 a34 a35 a36 a37 a38 a39 a40 a41 a42 a43 a44 a45 a46 a47 a48 a49 a50 a51 a52 a53 a54 a55 a56 a57 a58 a59 a60 a61 a62 a63 a64 a65 a66 a67 a68 a69 a70 a114 a115 a116 a117 a118 a119 a120 a121 a122 a123 a124 a125 a126 a127 a128 a129 a130 a131 a132 a133 a134 a135 a136 a137 a138 a139 a140 a141 a142 a143 a144 a145 a146 a147 a148 a149 a150 a151 a152 a153 a154 a155 a156 a157 a158 a159 a160 a161 a162 a163 a164 a165 a166 a167 a168 a169 a170 a171 a172 a173 a174 a175 a176 a177 a178 a179 a180 a181 a182 a183 a184 a185 a186 a187 a188 a189 a190 a191 a192 a193 a194 a195 a196 a197 a198 a199 a200 a201
  simp (maxSteps := 1000000) (disch := omega) only [go_sem, and_self, and_true, true_and, false_and, and_false, Nat.reduceAdd, Nat.reduceMul, Nat.reduceSub, Nat.reduceLeDiff, Nat.reduceLT, Nat.reduceGT, Nat.reduceEqDiff, Nat.reduceBEq, Int.reduceNeg, Int.reduceEq, Int.reduceLT, Int.reduceLE, Int.reduceBEq, Int.reduceToNat, Int.toNat_natCast, Int.natCast_zero, own_c1, r40_K0, k0, k4, decide_true, decide_false]

set_option maxHeartbeats 4000000 in
theorem c1_c (o : Int) (t : ByteArray) (p k c s : Int) (ns : List ByteArray) (xs : List Xp) (k0 : ¬ k < 0) (k4 : ¬ k > 4) (k3 : k ≠ 3) (hc : c ≠ 0) : C1Is o t p k c s ns xs false := by
  intro a0 a3 a4 a5 a6 a7 a8 a9 a10 a11 a12 a13 a14 a15 a16 a17 a18 a19 a20 a21 a22 a23 a24 a25 a26 a27 a28 a29 a30 a31 a32 a33 a34 a35 a36 a37 a38 a39 a40 a41 a42 a43 a44 a45 a46 a47 a48 a49 a50 a51 a52 a53 a54 a55 a56 a57 a58 a59 a60 a61 a62 a63 a64 a65 a66 a67 a68 a69 a70 a114 a115 a116 a117 a118 a119 a120 a121 a122 a123 a124 a125 a126 a127 a128 a129 a130 a131 a132 a133 a134 a135 a136 a137 a138 a139 a140 a141 a142 a143 a144 a145 a146 a147 a148 a149 a150 a151 a152 a153 a154 a155 a156 a157 a158 a159 a160 a161 a162 a163 a164 a165 a166 a167 a168 a169 a170 a171 a172 a173 a174 a175 a176 a177 a178 a179 a180 a181 a182 a183 a184 a185 a186 a187 a188 a189 a190 a191 a192 a193 a194 a195 a196 a197 a198 a199 a200 a201
  have y1 : (k != 3) = true := by simpa using k3
  have y2 : (c != 0) = true := by simpa using hc
  simp (maxSteps := 1000000) (disch := omega) only [go_sem, and_self, and_true, true_and, false_and, and_false, Nat.reduceAdd, Nat.reduceMul, Nat.reduceSub, Nat.reduceLeDiff, Nat.reduceLT, Nat.reduceGT, Nat.reduceEqDiff, Nat.reduceBEq, Int.reduceNeg, Int.reduceEq, Int.reduceLT, Int.reduceLE, Int.reduceBEq, Int.reduceToNat, Int.toNat_natCast, Int.natCast_zero, own_c1, r40_K0, k0, k4, y1, y2, decide_true, decide_false]

set_option maxHeartbeats 4000000 in
theorem c1_d (o : Int) (t : ByteArray) (p k c s : Int) (ns : List ByteArray) (xs : List Xp) (k0 : ¬ k < 0) (k4 : ¬ k > 4) (k3 : k ≠ 3) (hc : c = 0) (hs0 : s ≠ 0) : C1Is o t p k c s ns xs false := by
  intro a0 a3 a4 a5 a6 a7 a8 a9 a10 a11 a12 a13 a14 a15 a16 a17 a18 a19 a20 a21 a22 a23 a24 a25 a26 a27 a28 a29 a30 a31 a32 a33 a34 a35 a36 a37 a38 a39 a40 a41 a42 a43 a44 a45 a46 a47 a48 a49 a50 a51 a52 a53 a54 a55 a56 a57 a58 a59 a60 a61 a62 a63 a64 a65 a66 a67 a68 a69 a70 a114 a115 a116 a117 a118 a119 a120 a121 a122 a123 a124 a125 a126 a127 a128 a129 a130 a131 a132 a133 a134 a135 a136 a137 a138 a139 a140 a141 a142 a143 a144 a145 a146 a147 a148 a149 a150 a151 a152 a153 a154 a155 a156 a157 a158 a159 a160 a161 a162 a163 a164 a165 a166 a167 a168 a169 a170 a171 a172 a173 a174 a175 a176 a177 a178 a179 a180 a181 a182 a183 a184 a185 a186 a187 a188 a189 a190 a191 a192 a193 a194 a195 a196 a197 a198 a199 a200 a201
  have y1 : (k != 3) = true := by simpa using k3
  have y2 : (c != 0) = false := by simp [hc]
  have y3 : (s != 0) = true := by simpa using hs0
  simp (maxSteps := 1000000) (disch := omega) only [go_sem, and_self, and_true, true_and, false_and, and_false, Nat.reduceAdd, Nat.reduceMul, Nat.reduceSub, Nat.reduceLeDiff, Nat.reduceLT, Nat.reduceGT, Nat.reduceEqDiff, Nat.reduceBEq, Int.reduceNeg, Int.reduceEq, Int.reduceLT, Int.reduceLE, Int.reduceBEq, Int.reduceToNat, Int.toNat_natCast, Int.natCast_zero, own_c1, r40_K0, k0, k4, y1, y2, y3, decide_true, decide_false]

set_option maxHeartbeats 4000000 in
theorem c1_e1 (o : Int) (t : ByteArray) (p k c s : Int) (ns : List ByteArray) (xs : List Xp) (k0 : ¬ k < 0) (k4 : ¬ k > 4) (k3 : k = 3) (k4n : k ≠ 4) (ht : t.size ≠ 0) : C1Is o t p k c s ns xs false := by
  intro a0 a3 a4 a5 a6 a7 a8 a9 a10 a11 a12 a13 a14 a15 a16 a17 a18 a19 a20 a21 a22 a23 a24 a25 a26 a27 a28 a29 a30 a31 a32 a33 a34 a35 a36 a37 a38 a39 a40 a41 a42 a43 a44 a45 a46 a47 a48 a49 a50 a51 a52 a53 a54 a55 a56 a57 a58 a59 a60 a61 a62 a63 a64 a65 a66 a67 a68 a69 a70 a114 a115 a116 a117 a118 a119 a120 a121 a122 a123 a124 a125 a126 a127 a128 a129 a130 a131 a132 a133 a134 a135 a136 a137 a138 a139 a140 a141 a142 a143 a144 a145 a146 a147 a148 a149 a150 a151 a152 a153 a154 a155 a156 a157 a158 a159 a160 a161 a162 a163 a164 a165 a166 a167 a168 a169 a170 a171 a172 a173 a174 a175 a176 a177 a178 a179 a180 a181 a182 a183 a184 a185 a186 a187 a188 a189 a190 a191 a192 a193 a194 a195 a196 a197 a198 a199 a200 a201
  have y1 : (k != 3) = false := by simp [k3]
  have y4 : (k != 4) = true := by simpa using k4n
  have y5 : decide (t.size ≠ 0) = true := decide_eq_true ht
  simp (maxSteps := 1000000) (disch := omega) only [go_sem, and_self, and_true, true_and, false_and, and_false, Nat.reduceAdd, Nat.reduceMul, Nat.reduceSub, Nat.reduceLeDiff, Nat.reduceLT, Nat.reduceGT, Nat.reduceEqDiff, Nat.reduceBEq, Int.reduceNeg, Int.reduceEq, Int.reduceLT, Int.reduceLE, Int.reduceBEq, Int.reduceToNat, Int.toNat_natCast, Int.natCast_zero, own_c1, r40_K0, k0, k4, y1, y4, y5, strD_neq, isE, Bool.not_true, Bool.not_false, decide_true, decide_false]

set_option maxHeartbeats 4000000 in
theorem c1_e2 (o : Int) (t : ByteArray) (p k c s : Int) (ns : List ByteArray) (xs : List Xp) (k0 : ¬ k < 0) (k4 : ¬ k > 4) (k3 : k = 3) (k4n : k ≠ 4) (ht : t.size = 0) (hts : t.size ≤ 2097152) : C1Is o t p k c s ns xs (numIs c s && validB t) := by
  intro a0 a3 a4 a5 a6 a7 a8 a9 a10 a11 a12 a13 a14 a15 a16 a17 a18 a19 a20 a21 a22 a23 a24 a25 a26 a27 a28 a29 a30 a31 a32 a33 a34 a35 a36 a37 a38 a39 a40 a41 a42 a43 a44 a45 a46 a47 a48 a49 a50 a51 a52 a53 a54 a55 a56 a57 a58 a59 a60 a61 a62 a63 a64 a65 a66 a67 a68 a69 a70 a114 a115 a116 a117 a118 a119 a120 a121 a122 a123 a124 a125 a126 a127 a128 a129 a130 a131 a132 a133 a134 a135 a136 a137 a138 a139 a140 a141 a142 a143 a144 a145 a146 a147 a148 a149 a150 a151 a152 a153 a154 a155 a156 a157 a158 a159 a160 a161 a162 a163 a164 a165 a166 a167 a168 a169 a170 a171 a172 a173 a174 a175 a176 a177 a178 a179 a180 a181 a182 a183 a184 a185 a186 a187 a188 a189 a190 a191 a192 a193 a194 a195 a196 a197 a198 a199 a200 a201
  have y1 : (k != 3) = false := by simp [k3]
  have y4 : (k != 4) = true := by simpa using k4n
  have y5 : decide (t.size ≠ 0) = false := decide_eq_false (by omega)
  have hn4 := num4Is_ok c s
  have hv := rtext_ok t hts
  rcases Bool.eq_false_or_eq_true (numIs c s) with g | g <;>
  simp (maxSteps := 1000000) (disch := omega) only [go_sem, and_self, and_true, true_and, false_and, and_false, Nat.reduceAdd, Nat.reduceMul, Nat.reduceSub, Nat.reduceLeDiff, Nat.reduceLT, Nat.reduceGT, Nat.reduceEqDiff, Nat.reduceBEq, Int.reduceNeg, Int.reduceEq, Int.reduceLT, Int.reduceLE, Int.reduceBEq, Int.reduceToNat, Int.toNat_natCast, Int.natCast_zero, own_c1, r40_K0, k0, k4, y1, y4, y5, strD_neq, isE, hn4, hv, g, Bool.not_true, Bool.not_false, Bool.true_and, Bool.false_and, decide_true, decide_false]

set_option maxHeartbeats 4000000 in
theorem c1_f1 (o : Int) (t : ByteArray) (p k c s : Int) (ns : List ByteArray) (xs : List Xp) (k0 : ¬ k < 0) (k4 : ¬ k > 4) (k3 : k ≠ 3) (hc : c = 0) (hs0 : s = 0) (k4n : k ≠ 4) (ht : t.size ≠ 0) : C1Is o t p k c s ns xs false := by
  intro a0 a3 a4 a5 a6 a7 a8 a9 a10 a11 a12 a13 a14 a15 a16 a17 a18 a19 a20 a21 a22 a23 a24 a25 a26 a27 a28 a29 a30 a31 a32 a33 a34 a35 a36 a37 a38 a39 a40 a41 a42 a43 a44 a45 a46 a47 a48 a49 a50 a51 a52 a53 a54 a55 a56 a57 a58 a59 a60 a61 a62 a63 a64 a65 a66 a67 a68 a69 a70 a114 a115 a116 a117 a118 a119 a120 a121 a122 a123 a124 a125 a126 a127 a128 a129 a130 a131 a132 a133 a134 a135 a136 a137 a138 a139 a140 a141 a142 a143 a144 a145 a146 a147 a148 a149 a150 a151 a152 a153 a154 a155 a156 a157 a158 a159 a160 a161 a162 a163 a164 a165 a166 a167 a168 a169 a170 a171 a172 a173 a174 a175 a176 a177 a178 a179 a180 a181 a182 a183 a184 a185 a186 a187 a188 a189 a190 a191 a192 a193 a194 a195 a196 a197 a198 a199 a200 a201
  have y1 : (k != 3) = true := by simpa using k3
  have y2 : (c != 0) = false := by simp [hc]
  have y3 : (s != 0) = false := by simp [hs0]
  have y4 : (k != 4) = true := by simpa using k4n
  have y5 : decide (t.size ≠ 0) = true := decide_eq_true ht
  simp (maxSteps := 1000000) (disch := omega) only [go_sem, and_self, and_true, true_and, false_and, and_false, Nat.reduceAdd, Nat.reduceMul, Nat.reduceSub, Nat.reduceLeDiff, Nat.reduceLT, Nat.reduceGT, Nat.reduceEqDiff, Nat.reduceBEq, Int.reduceNeg, Int.reduceEq, Int.reduceLT, Int.reduceLE, Int.reduceBEq, Int.reduceToNat, Int.toNat_natCast, Int.natCast_zero, own_c1, r40_K0, k0, k4, y1, y2, y3, y4, y5, strD_neq, isE, Bool.not_true, Bool.not_false, decide_true, decide_false]

set_option maxHeartbeats 4000000 in
theorem c1_f2 (o : Int) (t : ByteArray) (p k c s : Int) (ns : List ByteArray) (xs : List Xp) (k0 : ¬ k < 0) (k4 : ¬ k > 4) (k3 : k ≠ 3) (hc : c = 0) (hs0 : s = 0) (k4n : k ≠ 4) (ht : t.size = 0) (hts : t.size ≤ 2097152) : C1Is o t p k c s ns xs (numIs c s && validB t) := by
  intro a0 a3 a4 a5 a6 a7 a8 a9 a10 a11 a12 a13 a14 a15 a16 a17 a18 a19 a20 a21 a22 a23 a24 a25 a26 a27 a28 a29 a30 a31 a32 a33 a34 a35 a36 a37 a38 a39 a40 a41 a42 a43 a44 a45 a46 a47 a48 a49 a50 a51 a52 a53 a54 a55 a56 a57 a58 a59 a60 a61 a62 a63 a64 a65 a66 a67 a68 a69 a70 a114 a115 a116 a117 a118 a119 a120 a121 a122 a123 a124 a125 a126 a127 a128 a129 a130 a131 a132 a133 a134 a135 a136 a137 a138 a139 a140 a141 a142 a143 a144 a145 a146 a147 a148 a149 a150 a151 a152 a153 a154 a155 a156 a157 a158 a159 a160 a161 a162 a163 a164 a165 a166 a167 a168 a169 a170 a171 a172 a173 a174 a175 a176 a177 a178 a179 a180 a181 a182 a183 a184 a185 a186 a187 a188 a189 a190 a191 a192 a193 a194 a195 a196 a197 a198 a199 a200 a201
  have y1 : (k != 3) = true := by simpa using k3
  have y2 : (c != 0) = false := by simp [hc]
  have y3 : (s != 0) = false := by simp [hs0]
  have y4 : (k != 4) = true := by simpa using k4n
  have y5 : decide (t.size ≠ 0) = false := decide_eq_false (by omega)
  have hn4 := num4Is_ok c s
  have hv := rtext_ok t hts
  rcases Bool.eq_false_or_eq_true (numIs c s) with g | g <;>
  simp (maxSteps := 1000000) (disch := omega) only [go_sem, and_self, and_true, true_and, false_and, and_false, Nat.reduceAdd, Nat.reduceMul, Nat.reduceSub, Nat.reduceLeDiff, Nat.reduceLT, Nat.reduceGT, Nat.reduceEqDiff, Nat.reduceBEq, Int.reduceNeg, Int.reduceEq, Int.reduceLT, Int.reduceLE, Int.reduceBEq, Int.reduceToNat, Int.toNat_natCast, Int.natCast_zero, own_c1, r40_K0, k0, k4, y1, y2, y3, y4, y5, strD_neq, isE, hn4, hv, g, Bool.not_true, Bool.not_false, Bool.true_and, Bool.false_and, decide_true, decide_false]

set_option maxHeartbeats 4000000 in
theorem c1_f3 (o : Int) (t : ByteArray) (p k c s : Int) (ns : List ByteArray) (xs : List Xp) (k0 : ¬ k < 0) (k4 : ¬ k > 4) (k3 : k ≠ 3) (hc : c = 0) (hs0 : s = 0) (k4n : k = 4) (hts : t.size ≤ 2097152) : C1Is o t p k c s ns xs (numIs c s && validB t) := by
  intro a0 a3 a4 a5 a6 a7 a8 a9 a10 a11 a12 a13 a14 a15 a16 a17 a18 a19 a20 a21 a22 a23 a24 a25 a26 a27 a28 a29 a30 a31 a32 a33 a34 a35 a36 a37 a38 a39 a40 a41 a42 a43 a44 a45 a46 a47 a48 a49 a50 a51 a52 a53 a54 a55 a56 a57 a58 a59 a60 a61 a62 a63 a64 a65 a66 a67 a68 a69 a70 a114 a115 a116 a117 a118 a119 a120 a121 a122 a123 a124 a125 a126 a127 a128 a129 a130 a131 a132 a133 a134 a135 a136 a137 a138 a139 a140 a141 a142 a143 a144 a145 a146 a147 a148 a149 a150 a151 a152 a153 a154 a155 a156 a157 a158 a159 a160 a161 a162 a163 a164 a165 a166 a167 a168 a169 a170 a171 a172 a173 a174 a175 a176 a177 a178 a179 a180 a181 a182 a183 a184 a185 a186 a187 a188 a189 a190 a191 a192 a193 a194 a195 a196 a197 a198 a199 a200 a201
  have y1 : (k != 3) = true := by simpa using k3
  have y2 : (c != 0) = false := by simp [hc]
  have y3 : (s != 0) = false := by simp [hs0]
  have y4 : (k != 4) = false := by simp [k4n]
  have hn4 := num4Is_ok c s
  have hv := rtext_ok t hts
  rcases Bool.eq_false_or_eq_true (numIs c s) with g | g <;>
  simp (maxSteps := 1000000) (disch := omega) only [go_sem, and_self, and_true, true_and, false_and, and_false, Nat.reduceAdd, Nat.reduceMul, Nat.reduceSub, Nat.reduceLeDiff, Nat.reduceLT, Nat.reduceGT, Nat.reduceEqDiff, Nat.reduceBEq, Int.reduceNeg, Int.reduceEq, Int.reduceLT, Int.reduceLE, Int.reduceBEq, Int.reduceToNat, Int.toNat_natCast, Int.natCast_zero, own_c1, r40_K0, k0, k4, y1, y2, y3, y4, strD_neq, isE, hn4, hv, g, Bool.not_true, Bool.not_false, Bool.true_and, Bool.false_and, decide_true, decide_false]

set_option maxHeartbeats 4000000 in
theorem own_1 (o : Int) (t : ByteArray) (p k c s : Int) (ns : List ByteArray) (xs : List Xp) (h0 : Own0 o p xs.length) (o1 : o = 1) (hn : ns.length = 0) (hC : C1Is o t p k c s ns xs (litR t k c s)) : OwnIs o t p k c s ns xs := by
  intro hp
  have hpa := parts_ok o
  obtain ⟨q1, q2, q3, q4⟩ := h0
  have e : ownV o t p k c s ns xs.length = litR t k c s := by
    rw [own_v0 ⟨q1, q2, q3, q4⟩]
    rw [if_neg (show ¬ (o ≠ 1 ∧ (k ≠ 0 ∨ c ≠ 0 ∨ s ≠ 0)) by omega)]
    rw [if_neg (show ¬ (o ≠ 12 ∧ o ≠ 20 ∧ ns.length ≠ 0) by omega), if_pos o1]
  rw [e]
  have q5 : (p != 0) = false := by simp [q4]
  generalize litR t k c s = v at *
  generalize partsV o = lm at *
  obtain ⟨l, m⟩ := lm
  simp only at q1 q2 q3 hpa
  refine f40 rfl ?_
  have e1 : (o != 1) = false := by simp [o1]
  have e0 : (o == 1) = true := by simp [o1]
  have e5 : (o != 12) = true := by simp [o1]
  have e6 : (o != 20) = true := by simp [o1]
  have e7 : ((ns.length : Int) > 0) = False := eq_false (by omega)
  simp (maxSteps := 2000000) (disch := omega) only [go_sem, and_self, and_true, true_and, false_and, and_false, Nat.reduceAdd, Nat.reduceMul, Nat.reduceSub, Nat.reduceLeDiff, Nat.reduceLT, Nat.reduceGT, Nat.reduceEqDiff, Nat.reduceBEq, Int.reduceNeg, Int.reduceEq, Int.reduceLT, Int.reduceLE, Int.reduceBEq, Int.reduceToNat, Int.toNat_natCast, Int.natCast_zero, r40_T, r40, ↓own_hK7, hpa, xencs_len, List.length_map, q1, q2, q3, q5, e0, e1, e5, e6, e7, decide_true, decide_false]
  simp only [own_c7, r40_K7, V_cond, St.x, List.getD_cons_succ, List.getD_cons_zero, getD8, condK_true, ↓own_hK]
  unfold C1Is at hC
  erw [hC]
  simp (disch := omega) only [go_sem, and_self, and_true, true_and, false_and, and_false, Nat.reduceAdd, Nat.reduceMul, Nat.reduceSub, Nat.reduceLeDiff, Nat.reduceLT, Nat.reduceGT, Nat.reduceEqDiff, Nat.reduceBEq, Int.reduceNeg, Int.reduceEq, Int.reduceLT, Int.reduceLE, Int.reduceBEq, Int.reduceToNat, Int.toNat_natCast, Int.natCast_zero]

set_option maxHeartbeats 4000000 in
theorem own_1n (o : Int) (t : ByteArray) (p k c s : Int) (ns : List ByteArray) (xs : List Xp) (h0 : Own0 o p xs.length) (o1 : o = 1) (hn : ns.length ≠ 0) : OwnIs o t p k c s ns xs := by
  intro hp
  have hpa := parts_ok o
  obtain ⟨q1, q2, q3, q4⟩ := h0
  have e : ownV o t p k c s ns xs.length = false := by
    rw [own_v0 ⟨q1, q2, q3, q4⟩]
    rw [if_neg (show ¬ (o ≠ 1 ∧ (k ≠ 0 ∨ c ≠ 0 ∨ s ≠ 0)) by omega)]
    rw [if_pos (show o ≠ 12 ∧ o ≠ 20 ∧ ns.length ≠ 0 by omega)]
  rw [e]
  have q5 : (p != 0) = false := by simp [q4]
  generalize partsV o = lm at *
  obtain ⟨l, m⟩ := lm
  simp only at q1 q2 q3 hpa
  refine f40 rfl ?_
  have e1 : (o != 1) = false := by simp [o1]
  have e0 : (o == 1) = true := by simp [o1]
  have e5 : (o != 12) = true := by simp [o1]
  have e6 : (o != 20) = true := by simp [o1]
  have e7 : ((ns.length : Int) > 0) = True := eq_true (by omega)
  simp (maxSteps := 2000000) (disch := omega) only [go_sem, and_self, and_true, true_and, false_and, and_false, Nat.reduceAdd, Nat.reduceMul, Nat.reduceSub, Nat.reduceLeDiff, Nat.reduceLT, Nat.reduceGT, Nat.reduceEqDiff, Nat.reduceBEq, Int.reduceNeg, Int.reduceEq, Int.reduceLT, Int.reduceLE, Int.reduceBEq, Int.reduceToNat, Int.toNat_natCast, Int.natCast_zero, r40_T, r40, ↓own_hK, hpa, xencs_len, List.length_map, q1, q2, q3, q5, e0, e1, e5, e6, e7, decide_true, decide_false]
end Go.Pe.T

namespace Go.Pe.T

set_option maxHeartbeats 4000000 in
theorem own_12a (o : Int) (t : ByteArray) (p k c s : Int) (ns : List ByteArray) (xs : List Xp) (h0 : Own0 o p xs.length) (hk : k = 0) (hc : c = 0) (hs0 : s = 0) (ov : o = 12) (hne : (ns.length : Int) ≠ (xs.length : Int)) : OwnIs o t p k c s ns xs := by
  intro hp
  have hpa := parts_ok o
  obtain ⟨q1, q2, q3, q4⟩ := h0
  have e : ownV o t p k c s ns xs.length = false := by
    rw [own_v0 ⟨q1, q2, q3, q4⟩]
    rw [if_neg (show ¬ (o ≠ 1 ∧ (k ≠ 0 ∨ c ≠ 0 ∨ s ≠ 0)) by omega), if_neg (show ¬ (o ≠ 12 ∧ o ≠ 20 ∧ ns.length ≠ 0) by omega), if_neg (show ¬ o = 1 by omega), if_neg (show ¬ nmd o = true by simp [nmd, ov]), if_neg (show ¬ o = 3 by omega), if_neg (show ¬ o = 10 by omega)]
    rw [if_pos ⟨ov, .inl hne⟩]
  rw [e]
  have q5 : (p != 0) = false := by simp [q4]
  generalize partsV o = lm at *
  obtain ⟨l, m⟩ := lm
  simp only at q1 q2 q3 hpa
  refine f40 rfl ?_
  have e2 : (k != 0) = false := by simp [hk]
  have e3 : (c != 0) = false := by simp [hc]
  have e4 : (s != 0) = false := by simp [hs0]
  have i1 : (o == 1) = false := by simp [ov]
  have i2 : (o == 2) = false := by simp [ov]
  have i13 : (o == 13) = false := by simp [ov]
  have i14 : (o == 14) = false := by simp [ov]
  have i16 : (o == 16) = false := by simp [ov]
  have i17 : (o == 17) = false := by simp [ov]
  have i18 : (o == 18) = false := by simp [ov]
  have i19 : (o == 19) = false := by simp [ov]
  have i3 : (o == 3) = false := by simp [ov]
  have i10 : (o == 10) = false := by simp [ov]
  have i12 : (o == 12) = true := by simp [ov]
  have j1 : (o != 1) = true := by simp [ov]
  have j2 : (o != 12) = false := by simp [ov]
  have y1 : ((ns.length : Int) != (xs.length : Int)) = true := by simpa using hne
  simp (maxSteps := 20000000) (disch := omega) only [go_sem, and_self, and_true, true_and, false_and, and_false, Nat.reduceAdd, Nat.reduceMul, Nat.reduceSub, Nat.reduceLeDiff, Nat.reduceLT, Nat.reduceGT, Nat.reduceEqDiff, Nat.reduceBEq, Int.reduceNeg, Int.reduceEq, Int.reduceLT, Int.reduceLE, Int.reduceBEq, Int.reduceToNat, Int.toNat_natCast, Int.natCast_zero, r40_T, r40, hpa, xencs_len, List.length_map, strD_neq, strD_eql, isE, q1, q2, q3, q5, i1, i2, i13, i14, i16, i17, i18, i19, i3, i10, i12, j1, e2, e3, e4, j2, y1, decide_true, decide_false]

set_option maxHeartbeats 4000000 in
theorem own_12b (o : Int) (t : ByteArray) (p k c s : Int) (ns : List ByteArray) (xs : List Xp) (h0 : Own0 o p xs.length) (hk : k = 0) (hc : c = 0) (hs0 : s = 0) (ov : o = 12) (hne : (ns.length : Int) = (xs.length : Int)) (h5 : (xs.length : Int) > 512) : OwnIs o t p k c s ns xs := by
  intro hp
  have hpa := parts_ok o
  obtain ⟨q1, q2, q3, q4⟩ := h0
  have e : ownV o t p k c s ns xs.length = false := by
    rw [own_v0 ⟨q1, q2, q3, q4⟩]
    rw [if_neg (show ¬ (o ≠ 1 ∧ (k ≠ 0 ∨ c ≠ 0 ∨ s ≠ 0)) by omega), if_neg (show ¬ (o ≠ 12 ∧ o ≠ 20 ∧ ns.length ≠ 0) by omega), if_neg (show ¬ o = 1 by omega), if_neg (show ¬ nmd o = true by simp [nmd, ov]), if_neg (show ¬ o = 3 by omega), if_neg (show ¬ o = 10 by omega)]
    rw [if_pos ⟨ov, .inr (.inl h5)⟩]
  rw [e]
  have q5 : (p != 0) = false := by simp [q4]
  generalize partsV o = lm at *
  obtain ⟨l, m⟩ := lm
  simp only at q1 q2 q3 hpa
  refine f40 rfl ?_
  have e2 : (k != 0) = false := by simp [hk]
  have e3 : (c != 0) = false := by simp [hc]
  have e4 : (s != 0) = false := by simp [hs0]
  have i1 : (o == 1) = false := by simp [ov]
  have i2 : (o == 2) = false := by simp [ov]
  have i13 : (o == 13) = false := by simp [ov]
  have i14 : (o == 14) = false := by simp [ov]
  have i16 : (o == 16) = false := by simp [ov]
  have i17 : (o == 17) = false := by simp [ov]
  have i18 : (o == 18) = false := by simp [ov]
  have i19 : (o == 19) = false := by simp [ov]
  have i3 : (o == 3) = false := by simp [ov]
  have i10 : (o == 10) = false := by simp [ov]
  have i12 : (o == 12) = true := by simp [ov]
  have j1 : (o != 1) = true := by simp [ov]
  have j2 : (o != 12) = false := by simp [ov]
  have y1 : ((ns.length : Int) != (xs.length : Int)) = false := by simp [hne]
  simp (maxSteps := 20000000) (disch := omega) only [go_sem, and_self, and_true, true_and, false_and, and_false, Nat.reduceAdd, Nat.reduceMul, Nat.reduceSub, Nat.reduceLeDiff, Nat.reduceLT, Nat.reduceGT, Nat.reduceEqDiff, Nat.reduceBEq, Int.reduceNeg, Int.reduceEq, Int.reduceLT, Int.reduceLE, Int.reduceBEq, Int.reduceToNat, Int.toNat_natCast, Int.natCast_zero, r40_T, r40, hpa, xencs_len, List.length_map, strD_neq, strD_eql, isE, q1, q2, q3, q5, i1, i2, i13, i14, i16, i17, i18, i19, i3, i10, i12, j1, e2, e3, e4, j2, y1, h5, decide_true, decide_false]

set_option maxHeartbeats 4000000 in
theorem own_12c (o : Int) (t : ByteArray) (p k c s : Int) (ns : List ByteArray) (xs : List Xp) (h0 : Own0 o p xs.length) (hk : k = 0) (hc : c = 0) (hs0 : s = 0) (ov : o = 12) (hne : (ns.length : Int) = (xs.length : Int)) (h5 : ¬ (xs.length : Int) > 512) (hl : ns.length ≤ maxLen) (hs : ∀ x ∈ ns, x.size ≤ 2097152) (hu : unF [] ns = false) : OwnIs o t p k c s ns xs := by
  intro hp
  have hpa := parts_ok o
  obtain ⟨q1, q2, q3, q4⟩ := h0
  have e : ownV o t p k c s ns xs.length = false := by
    rw [own_v0 ⟨q1, q2, q3, q4⟩]
    rw [if_neg (show ¬ (o ≠ 1 ∧ (k ≠ 0 ∨ c ≠ 0 ∨ s ≠ 0)) by omega), if_neg (show ¬ (o ≠ 12 ∧ o ≠ 20 ∧ ns.length ≠ 0) by omega), if_neg (show ¬ o = 1 by omega), if_neg (show ¬ nmd o = true by simp [nmd, ov]), if_neg (show ¬ o = 3 by omega), if_neg (show ¬ o = 10 by omega)]
    rw [if_pos ⟨ov, .inr (.inr hu)⟩]
  rw [e]
  have q5 : (p != 0) = false := by simp [q4]
  generalize partsV o = lm at *
  obtain ⟨l, m⟩ := lm
  simp only at q1 q2 q3 hpa
  refine f40 rfl ?_
  have e2 : (k != 0) = false := by simp [hk]
  have e3 : (c != 0) = false := by simp [hc]
  have e4 : (s != 0) = false := by simp [hs0]
  have i1 : (o == 1) = false := by simp [ov]
  have i2 : (o == 2) = false := by simp [ov]
  have i13 : (o == 13) = false := by simp [ov]
  have i14 : (o == 14) = false := by simp [ov]
  have i16 : (o == 16) = false := by simp [ov]
  have i17 : (o == 17) = false := by simp [ov]
  have i18 : (o == 18) = false := by simp [ov]
  have i19 : (o == 19) = false := by simp [ov]
  have i3 : (o == 3) = false := by simp [ov]
  have i10 : (o == 10) = false := by simp [ov]
  have i12 : (o == 12) = true := by simp [ov]
  have j1 : (o != 1) = true := by simp [ov]
  have j2 : (o != 12) = false := by simp [ov]
  have y1 : ((ns.length : Int) != (xs.length : Int)) = false := by simp [hne]
  have hL := on_loop o t p k c s ns xs hl hs ns.length 0 (by omega)
  unfold OnLoop at hL
  rw [List.drop_zero, List.take_zero] at hL
  rw [hu] at hL
  simp (maxSteps := 20000000) (disch := omega) only [go_sem, and_self, and_true, true_and, false_and, and_false, Nat.reduceAdd, Nat.reduceMul, Nat.reduceSub, Nat.reduceLeDiff, Nat.reduceLT, Nat.reduceGT, Nat.reduceEqDiff, Nat.reduceBEq, Int.reduceNeg, Int.reduceEq, Int.reduceLT, Int.reduceLE, Int.reduceBEq, Int.reduceToNat, Int.toNat_natCast, Int.natCast_zero, r40_T, r40, hpa, xencs_len, List.length_map, strD_neq, strD_eql, isE, q1, q2, q3, q5, i1, i2, i13, i14, i16, i17, i18, i19, i3, i10, i12, j1, e2, e3, e4, j2, y1, h5, decide_true, decide_false]
  rw [r40_B0_n]
  erw [hL]
  simp (disch := omega) only [go_sem, and_self, and_true, true_and, false_and, and_false, Nat.reduceAdd, Nat.reduceMul, Nat.reduceSub, Nat.reduceLeDiff, Nat.reduceLT, Nat.reduceGT, Nat.reduceEqDiff, Nat.reduceBEq, Int.reduceNeg, Int.reduceEq, Int.reduceLT, Int.reduceLE, Int.reduceBEq, Int.reduceToNat, Int.toNat_natCast, Int.natCast_zero, strD_eql, isE]

set_option maxHeartbeats 4000000 in
theorem own_12d (o : Int) (t : ByteArray) (p k c s : Int) (ns : List ByteArray) (xs : List Xp) (h0 : Own0 o p xs.length) (hk : k = 0) (hc : c = 0) (hs0 : s = 0) (ov : o = 12) (hne : (ns.length : Int) = (xs.length : Int)) (h5 : ¬ (xs.length : Int) > 512) (hl : ns.length ≤ maxLen) (hs : ∀ x ∈ ns, x.size ≤ 2097152) (hu : unF [] ns = true) : OwnIs o t p k c s ns xs := by
  intro hp
  have hpa := parts_ok o
  obtain ⟨q1, q2, q3, q4⟩ := h0
  have e : ownV o t p k c s ns xs.length = !decide (t.size ≠ 0) := by
    rw [own_v0 ⟨q1, q2, q3, q4⟩]
    rw [if_neg (show ¬ (o ≠ 1 ∧ (k ≠ 0 ∨ c ≠ 0 ∨ s ≠ 0)) by omega), if_neg (show ¬ (o ≠ 12 ∧ o ≠ 20 ∧ ns.length ≠ 0) by omega), if_neg (show ¬ o = 1 by omega), if_neg (show ¬ nmd o = true by simp [nmd, ov]), if_neg (show ¬ o = 3 by omega), if_neg (show ¬ o = 10 by omega)]
    rw [if_neg (show ¬ (o = 12 ∧ ((ns.length : Int) ≠ (xs.length : Int) ∨ (xs.length : Int) > 512 ∨ unF [] ns = false)) by rintro ⟨_, h | h | h⟩; exact h hne; exact h5 h; rw [hu] at h; cases h), if_neg (show ¬ (o = 20 ∧ name2 ns = false) by omega)]
  rw [e]
  have q5 : (p != 0) = false := by simp [q4]
  generalize partsV o = lm at *
  obtain ⟨l, m⟩ := lm
  simp only at q1 q2 q3 hpa
  refine f40 rfl ?_
  have e2 : (k != 0) = false := by simp [hk]
  have e3 : (c != 0) = false := by simp [hc]
  have e4 : (s != 0) = false := by simp [hs0]
  have i1 : (o == 1) = false := by simp [ov]
  have i2 : (o == 2) = false := by simp [ov]
  have i13 : (o == 13) = false := by simp [ov]
  have i14 : (o == 14) = false := by simp [ov]
  have i16 : (o == 16) = false := by simp [ov]
  have i17 : (o == 17) = false := by simp [ov]
  have i18 : (o == 18) = false := by simp [ov]
  have i19 : (o == 19) = false := by simp [ov]
  have i3 : (o == 3) = false := by simp [ov]
  have i10 : (o == 10) = false := by simp [ov]
  have i12 : (o == 12) = true := by simp [ov]
  have j1 : (o != 1) = true := by simp [ov]
  have j2 : (o != 12) = false := by simp [ov]
  have y1 : ((ns.length : Int) != (xs.length : Int)) = false := by simp [hne]
  have hL := on_loop o t p k c s ns xs hl hs ns.length 0 (by omega)
  unfold OnLoop at hL
  rw [List.drop_zero, List.take_zero] at hL
  rw [hu] at hL
  simp (maxSteps := 20000000) (disch := omega) only [go_sem, and_self, and_true, true_and, false_and, and_false, Nat.reduceAdd, Nat.reduceMul, Nat.reduceSub, Nat.reduceLeDiff, Nat.reduceLT, Nat.reduceGT, Nat.reduceEqDiff, Nat.reduceBEq, Int.reduceNeg, Int.reduceEq, Int.reduceLT, Int.reduceLE, Int.reduceBEq, Int.reduceToNat, Int.toNat_natCast, Int.natCast_zero, r40_T, r40, hpa, xencs_len, List.length_map, strD_neq, strD_eql, isE, q1, q2, q3, q5, i1, i2, i13, i14, i16, i17, i18, i19, i3, i10, i12, j1, e2, e3, e4, j2, y1, h5, decide_true, decide_false]
  rw [r40_B0_n]
  erw [hL]
  simp (disch := omega) only [go_sem, and_self, and_true, true_and, false_and, and_false, Nat.reduceAdd, Nat.reduceMul, Nat.reduceSub, Nat.reduceLeDiff, Nat.reduceLT, Nat.reduceGT, Nat.reduceEqDiff, Nat.reduceBEq, Int.reduceNeg, Int.reduceEq, Int.reduceLT, Int.reduceLE, Int.reduceBEq, Int.reduceToNat, Int.toNat_natCast, Int.natCast_zero, strD_eql, isE]

theorem name2_2 (a b : ByteArray) : name2 [a, b] = (nameB a && nameB b) := rfl
theorem name2_n {l : List ByteArray} (h : l.length ≠ 2) : name2 l = false := by
  match l, h with
  | [], _ => rfl
  | [a], _ => rfl
  | [a, b], h => exact absurd rfl h
  | a :: b :: c :: r, _ => rfl
set_option maxHeartbeats 4000000 in
theorem own_20a (o : Int) (t : ByteArray) (p k c s : Int) (ns : List ByteArray) (xs : List Xp) (h0 : Own0 o p xs.length) (hk : k = 0) (hc : c = 0) (hs0 : s = 0) (ov : o = 20) (hne : ns.length ≠ 2) : OwnIs o t p k c s ns xs := by
  intro hp
  have hpa := parts_ok o
  obtain ⟨q1, q2, q3, q4⟩ := h0
  have e : ownV o t p k c s ns xs.length = false := by
    rw [own_v0 ⟨q1, q2, q3, q4⟩]
    rw [if_neg (show ¬ (o ≠ 1 ∧ (k ≠ 0 ∨ c ≠ 0 ∨ s ≠ 0)) by omega), if_neg (show ¬ (o ≠ 12 ∧ o ≠ 20 ∧ ns.length ≠ 0) by omega), if_neg (show ¬ o = 1 by omega), if_neg (show ¬ nmd o = true by simp [nmd, ov]), if_neg (show ¬ o = 3 by omega), if_neg (show ¬ o = 10 by omega)]
    rw [if_neg (show ¬ (o = 12 ∧ ((ns.length : Int) ≠ (xs.length : Int) ∨ (xs.length : Int) > 512 ∨ unF [] ns = false)) by omega), if_pos ⟨ov, name2_n hne⟩]
  rw [e]
  have q5 : (p != 0) = false := by simp [q4]
  generalize partsV o = lm at *
  obtain ⟨l, m⟩ := lm
  simp only at q1 q2 q3 hpa
  refine f40 rfl ?_
  have e2 : (k != 0) = false := by simp [hk]
  have e3 : (c != 0) = false := by simp [hc]
  have e4 : (s != 0) = false := by simp [hs0]
  have i1 : (o == 1) = false := by simp [ov]
  have i2 : (o == 2) = false := by simp [ov]
  have i13 : (o == 13) = false := by simp [ov]
  have i14 : (o == 14) = false := by simp [ov]
  have i16 : (o == 16) = false := by simp [ov]
  have i17 : (o == 17) = false := by simp [ov]
  have i18 : (o == 18) = false := by simp [ov]
  have i19 : (o == 19) = false := by simp [ov]
  have i3 : (o == 3) = false := by simp [ov]
  have i10 : (o == 10) = false := by simp [ov]
  have i12 : (o == 12) = false := by simp [ov]
  have i20 : (o == 20) = true := by simp [ov]
  have j1 : (o != 1) = true := by simp [ov]
  have j2 : (o != 12) = true := by simp [ov]
  have j3 : (o != 20) = false := by simp [ov]
  have y1 : ((ns.length : Int) != 2) = true := by simp only [bne_iff_ne, ne_eq]; omega
  simp (maxSteps := 20000000) (disch := omega) only [go_sem, and_self, and_true, true_and, false_and, and_false, Nat.reduceAdd, Nat.reduceMul, Nat.reduceSub, Nat.reduceLeDiff, Nat.reduceLT, Nat.reduceGT, Nat.reduceEqDiff, Nat.reduceBEq, Int.reduceNeg, Int.reduceEq, Int.reduceLT, Int.reduceLE, Int.reduceBEq, Int.reduceToNat, Int.toNat_natCast, Int.natCast_zero, r40_T, r40, hpa, xencs_len, List.length_map, strD_neq, strD_eql, isE, q1, q2, q3, q5, i1, i2, i13, i14, i16, i17, i18, i19, i3, i10, i12, i20, j1, e2, e3, e4, j2, j3, y1, decide_true, decide_false]

set_option maxHeartbeats 4000000 in
theorem own_20b (o : Int) (t : ByteArray) (p k c s : Int) (ns : List ByteArray) (xs : List Xp) (h0 : Own0 o p xs.length) (hk : k = 0) (hc : c = 0) (hs0 : s = 0) (ov : o = 20) (a b : ByteArray) (hab : ns = [a, b]) (ha : a.size ≤ maxLen) (hb : b.size ≤ maxLen) : OwnIs o t p k c s ns xs := by
  intro hp
  have hpa := parts_ok o
  obtain ⟨q1, q2, q3, q4⟩ := h0
  have e : ownV o t p k c s ns xs.length = ((nameB a && nameB b) && !decide (t.size ≠ 0)) := by
    rw [own_v0 ⟨q1, q2, q3, q4⟩]
    rw [if_neg (show ¬ (o ≠ 1 ∧ (k ≠ 0 ∨ c ≠ 0 ∨ s ≠ 0)) by omega), if_neg (show ¬ (o ≠ 12 ∧ o ≠ 20 ∧ ns.length ≠ 0) by omega), if_neg (show ¬ o = 1 by omega), if_neg (show ¬ nmd o = true by simp [nmd, ov]), if_neg (show ¬ o = 3 by omega), if_neg (show ¬ o = 10 by omega)]
    rw [if_neg (show ¬ (o = 12 ∧ ((ns.length : Int) ≠ (xs.length : Int) ∨ (xs.length : Int) > 512 ∨ unF [] ns = false)) by omega), hab, name2_2]
    cases nameB a <;> cases nameB b <;> simp [ov]
  rw [e]
  have q5 : (p != 0) = false := by simp [q4]
  generalize partsV o = lm at *
  obtain ⟨l, m⟩ := lm
  simp only at q1 q2 q3 hpa
  refine f40 rfl ?_
  have e2 : (k != 0) = false := by simp [hk]
  have e3 : (c != 0) = false := by simp [hc]
  have e4 : (s != 0) = false := by simp [hs0]
  have i1 : (o == 1) = false := by simp [ov]
  have i2 : (o == 2) = false := by simp [ov]
  have i13 : (o == 13) = false := by simp [ov]
  have i14 : (o == 14) = false := by simp [ov]
  have i16 : (o == 16) = false := by simp [ov]
  have i17 : (o == 17) = false := by simp [ov]
  have i18 : (o == 18) = false := by simp [ov]
  have i19 : (o == 19) = false := by simp [ov]
  have i3 : (o == 3) = false := by simp [ov]
  have i10 : (o == 10) = false := by simp [ov]
  have i12 : (o == 12) = false := by simp [ov]
  have i20 : (o == 20) = true := by simp [ov]
  have j1 : (o != 1) = true := by simp [ov]
  have j2 : (o != 12) = true := by simp [ov]
  have j3 : (o != 20) = false := by simp [ov]
  have hna := rname_ok a ha
  have hnb := rname_ok b hb
  have n2 : ((2 : Nat) : Int) = 2 := rfl
  subst hab
  rcases Bool.eq_false_or_eq_true (nameB a) with g | g <;> rcases Bool.eq_false_or_eq_true (nameB b) with g2 | g2 <;>
  simp (maxSteps := 20000000) (disch := omega) only [go_sem, and_self, and_true, true_and, false_and, and_false, Nat.reduceAdd, Nat.reduceMul, Nat.reduceSub, Nat.reduceLeDiff, Nat.reduceLT, Nat.reduceGT, Nat.reduceEqDiff, Nat.reduceBEq, Int.reduceNeg, Int.reduceEq, Int.reduceLT, Int.reduceLE, Int.reduceBEq, Int.reduceToNat, Int.toNat_natCast, Int.natCast_zero, r40_T, r40, hpa, xencs_len, List.length_map, strD_neq, strD_eql, isE, q1, q2, q3, q5, i1, i2, i13, i14, i16, i17, i18, i19, i3, i10, i12, i20, j1, e2, e3, e4, j2, j3, hna, hnb, g, g2, n2, Int.reduceBNe, bne_self_eq_false, List.map_cons, List.map_nil, List.length_cons, List.length_nil, decide_true, decide_false, Bool.true_and, Bool.false_and, Bool.and_false, Bool.not_true, Bool.not_false]

end Go.Pe.T

namespace Go.Pe.T

theorem own_is (o : Int) (t : ByteArray) (p k c s : Int) (ns : List ByteArray) (xs : List Xp) (ht : t.size ≤ 2097152) (hl : ns.length ≤ maxLen) (hs : ∀ x ∈ ns, x.size ≤ 2097152) : OwnIs o t p k c s ns xs := by
  have hmx : maxLen = 9223372036854775807 := by decide
  by_cases h0 : (partsV o).1 < 0 ∨ (xs.length : Int) < (partsV o).1 ∨ (xs.length : Int) > (partsV o).2 ∨ p ≠ 0
  · exact own_parts o t p k c s ns xs h0
  have H : Own0 o p xs.length := ⟨by omega, by omega, by omega, by omega⟩
  by_cases o1 : o = 1
  · by_cases hn : ns.length = 0
    · refine own_1 o t p k c s ns xs H o1 hn ?_
      unfold litR
      by_cases k0 : k < 0
      · rw [if_pos k0]; exact c1_a o t p k c s ns xs k0
      rw [if_neg k0]
      by_cases k4 : k > 4
      · rw [if_pos k4]; exact c1_b o t p k c s ns xs k0 k4
      rw [if_neg k4]
      by_cases k3 : k = 3
      · rw [if_neg (show ¬ (k ≠ 3 ∧ (c ≠ 0 ∨ s ≠ 0)) by omega)]
        by_cases t0 : t.size = 0
        · rw [if_neg (show ¬ (k ≠ 4 ∧ t.size ≠ 0) by omega)]; exact c1_e2 o t p k c s ns xs k0 k4 k3 (by omega) t0 ht
        · rw [if_pos (show k ≠ 4 ∧ t.size ≠ 0 by omega)]; exact c1_e1 o t p k c s ns xs k0 k4 k3 (by omega) t0
      · by_cases hc : c = 0
        · by_cases hs0 : s = 0
          · rw [if_neg (show ¬ (k ≠ 3 ∧ (c ≠ 0 ∨ s ≠ 0)) by omega)]
            by_cases k44 : k = 4
            · rw [if_neg (show ¬ (k ≠ 4 ∧ t.size ≠ 0) by omega)]; exact c1_f3 o t p k c s ns xs k0 k4 k3 hc hs0 k44 ht
            · by_cases t0 : t.size = 0
              · rw [if_neg (show ¬ (k ≠ 4 ∧ t.size ≠ 0) by omega)]; exact c1_f2 o t p k c s ns xs k0 k4 k3 hc hs0 k44 t0 ht
              · rw [if_pos (show k ≠ 4 ∧ t.size ≠ 0 by omega)]; exact c1_f1 o t p k c s ns xs k0 k4 k3 hc hs0 k44 t0
          · rw [if_pos ⟨k3, .inr hs0⟩]; exact c1_d o t p k c s ns xs k0 k4 k3 hc hs0
        · rw [if_pos ⟨k3, .inl hc⟩]; exact c1_c o t p k c s ns xs k0 k4 k3 hc
    · exact own_1n o t p k c s ns xs H o1 hn
  by_cases hk : k = 0
  rotate_left
  · exact own_k1 o t p k c s ns xs H o1 hk
  by_cases hc : c = 0
  rotate_left
  · exact own_k2 o t p k c s ns xs H o1 hk hc
  by_cases hs0 : s = 0
  rotate_left
  · exact own_k3 o t p k c s ns xs H o1 hk hc hs0
  by_cases o12 : o = 12
  · by_cases hne : (ns.length : Int) = (xs.length : Int)
    · by_cases h5 : (xs.length : Int) > 512
      · exact own_12b o t p k c s ns xs H hk hc hs0 o12 hne h5
      · rcases Bool.eq_false_or_eq_true (unF [] ns) with hu | hu
        · exact own_12d o t p k c s ns xs H hk hc hs0 o12 hne h5 hl hs hu
        · exact own_12c o t p k c s ns xs H hk hc hs0 o12 hne h5 hl hs hu
    · exact own_12a o t p k c s ns xs H hk hc hs0 o12 hne
  by_cases o20 : o = 20
  · by_cases hne : ns.length = 2
    · match ns, hne, hs with
      | [a, b], _, hs => exact own_20b o t p k c s [a, b] xs H hk hc hs0 o20 a b rfl (by have := hs a (by simp); omega) (by have := hs b (by simp); omega)
    · exact own_20a o t p k c s ns xs H hk hc hs0 o20 hne
  by_cases hn : ns.length = 0
  rotate_left
  · exact own_n1 o t p k c s ns xs H o1 hk hc hs0 o12 o20 hn
  by_cases hid : nmd o = true
  · have hcs : o = 2 ∨ o = 13 ∨ o = 14 ∨ o = 16 ∨ o = 17 ∨ o = 18 ∨ o = 19 := by simpa [nmd] using hid
    rcases hcs with h | h | h | h | h | h | h
    · exact own_id2 o t p k c s ns xs H o1 hk hc hs0 o12 o20 hn ht hid h
    · exact own_id13 o t p k c s ns xs H o1 hk hc hs0 o12 o20 hn ht hid h
    · exact own_id14 o t p k c s ns xs H o1 hk hc hs0 o12 o20 hn ht hid h
    · exact own_id16 o t p k c s ns xs H o1 hk hc hs0 o12 o20 hn ht hid h
    · exact own_id17 o t p k c s ns xs H o1 hk hc hs0 o12 o20 hn ht hid h
    · exact own_id18 o t p k c s ns xs H o1 hk hc hs0 o12 o20 hn ht hid h
    · exact own_id19 o t p k c s ns xs H o1 hk hc hs0 o12 o20 hn ht hid h
  by_cases o3 : o = 3
  · exact own_3 o t p k c s ns xs H o1 hk hc hs0 o12 o20 hn hid ht o3
  by_cases o10 : o = 10
  · exact own_10 o t p k c s ns xs H o1 hk hc hs0 o12 o20 hn hid o3 o10
  exact own_else o t p k c s ns xs H o1 hk hc hs0 o12 o20 hn hid o3 o10
end Go.Pe.T
