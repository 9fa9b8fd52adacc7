/- A part of the proof of: The law LexNames holds: of any text that comes in, lex.Ident answers as the document's answer does, and lex.Key just of the document's key words, so the law returns true and leaves its argument as it was; the condition is that the two listed tables of the library lie as the program's text lays them, which the card ties. -/
import Derived.Test.YtjfdbgoajjhafaaDoorLn1
import Derived.KernelRfl
set_option linter.unusedSimpArgs false
set_option linter.unusedVariables false
set_option maxRecDepth 10000

namespace Go.Pe.T
def RmLoop (s : ByteArray) (i : Nat) : Prop :=
  V (F tab) r42_B0 (r42_S0 (.d (.str s)) (.d (iv i)) []) = some (.norm, r42_E0 (.d (iv (i + runL i ((bs s).drop i) : Nat))) [])
theorem rm_end (s : ByteArray) (i : Nat) (hi : s.size ≤ i) : RmLoop s i := by
  have h1 : ((i : Int) < (s.size : Int)) = False := eq_false (by omega)
  unfold RmLoop
  rw [r42_B0_eq, bs_end hi]
  simp (disch := omega) only [go_sem, and_self, and_true, true_and, false_and, and_false, Nat.reduceAdd, Nat.reduceMul, Nat.reduceSub, Nat.reduceLeDiff, Nat.reduceLT, Nat.reduceGT, Nat.reduceEqDiff, Nat.reduceBEq, Int.reduceNeg, Int.reduceEq, Int.reduceLT, Int.reduceLE, Int.reduceBEq, Int.reduceToNat, Int.toNat_natCast, Int.natCast_zero, r42_C0, h1, runL, Nat.add_zero]
theorem rm_step (s : ByteArray) (hs : s.size ≤ maxLen) (i : Nat) (hpos : 0 < i ∨ letB ((s.data.toList.getD i 0).toNat) = true) (hi : i < s.size) (ih : RmLoop s (i + 1)) : RmLoop s i := by
  have hmx : maxLen = 9223372036854775807 := by decide
  have h1 : ((i : Int) < (s.size : Int)) = True := eq_true (by omega)
  have hi0 : (0 ≤ (i : Int)) = True := eq_true (by omega)
  obtain ⟨va, vd⟩ := bs_get hi
  have hl := rletter_ok s[i].toNat
  have hd := rdigit_ok s[i].toNat
  have e1 : ((i + 1 : Nat) : Int) = (i : Int) + 1 := rfl
  have e2 : i + (runL (i + 1) ((bs s).drop (i + 1)) + 1) = i + 1 + runL (i + 1) ((bs s).drop (i + 1)) := by omega
  have eg : s.data.toList.getD i 0 = s[i] := by
    have e : s[i] = s.data.toList[i]'hi := rfl
    rw [e, List.getD_eq_getElem?_getD, List.getElem?_eq_getElem (show i < s.data.toList.length from hi), Option.getD_some]
  rw [eg] at hpos
  unfold RmLoop at ih ⊢
  rw [e1] at ih
  rw [r42_B0_eq, vd]
  simp only [runL, okI]
  rcases Bool.eq_false_or_eq_true (letB s[i].toNat) with g1 | g1
  · rw [g1] at hl
    simp (disch := omega) only [go_sem, and_self, and_true, true_and, false_and, and_false, Nat.reduceAdd, Nat.reduceMul, Nat.reduceSub, Nat.reduceLeDiff, Nat.reduceLT, Nat.reduceGT, Nat.reduceEqDiff, Nat.reduceBEq, Int.reduceNeg, Int.reduceEq, Int.reduceLT, Int.reduceLE, Int.reduceBEq, Int.reduceToNat, Int.toNat_natCast, Int.natCast_zero, r42_C0, h1, hi0, va, w64, hl, g1, Bool.true_or, e2]
    exact ih
  · have hp0 : decide (i > 0) = true := decide_eq_true (hpos.resolve_right (by rw [g1]; simp))
    rw [g1] at hl
    rcases Bool.eq_false_or_eq_true (digB s[i].toNat) with g3 | g3
    · rw [g3] at hd
      simp (disch := omega) only [go_sem, and_self, and_true, true_and, false_and, and_false, Nat.reduceAdd, Nat.reduceMul, Nat.reduceSub, Nat.reduceLeDiff, Nat.reduceLT, Nat.reduceGT, Nat.reduceEqDiff, Nat.reduceBEq, Int.reduceNeg, Int.reduceEq, Int.reduceLT, Int.reduceLE, Int.reduceBEq, Int.reduceToNat, Int.toNat_natCast, Int.natCast_zero, r42_C0, h1, hi0, va, w64, hl, hd, hp0, g1, g3, Bool.false_or, Bool.true_and, e2]
      exact ih
    · rw [g3] at hd
      simp (disch := omega) only [go_sem, and_self, and_true, true_and, false_and, and_false, Nat.reduceAdd, Nat.reduceMul, Nat.reduceSub, Nat.reduceLeDiff, Nat.reduceLT, Nat.reduceGT, Nat.reduceEqDiff, Nat.reduceBEq, Int.reduceNeg, Int.reduceEq, Int.reduceLT, Int.reduceLE, Int.reduceBEq, Int.reduceToNat, Int.toNat_natCast, Int.natCast_zero, r42_C0, h1, hi0, va, w64, hl, hd, hp0, g1, g3, Bool.false_or, Bool.and_false, Nat.add_zero]
theorem rm_loop (s : ByteArray) (hs : s.size ≤ maxLen) : ∀ (j i : Nat), i + j = s.size → (0 < i ∨ letB ((s.data.toList.getD i 0).toNat) = true) → RmLoop s i
  | 0, i, hi, _ => rm_end s i (by omega)
  | j + 1, i, hi, h => rm_step s hs i h (by omega) (rm_loop s hs j (i + 1) (by omega) (.inl (by omega)))
theorem rm_ok (s : ByteArray) (hs : s.size ≤ maxLen) (hp : List Ent) : F tab 42 [.d (.str s), .d (iv 0)] hp = some (.ret (.d (iv (runL 0 (bs s) : Nat))) hp) := by
  refine f42 rfl ?_
  by_cases g0 : s.size = 0
  · have q0 : ((0 : Int) ≥ (s.size : Int)) = True := eq_true (by omega)
    have hb : bs s = [] := List.eq_nil_of_length_eq_zero g0
    rw [hb, runL]
    simp (disch := omega) only [go_sem, and_self, and_true, true_and, false_and, and_false, Nat.reduceAdd, Nat.reduceMul, Nat.reduceSub, Nat.reduceLeDiff, Nat.reduceLT, Nat.reduceGT, Nat.reduceEqDiff, Nat.reduceBEq, Int.reduceNeg, Int.reduceEq, Int.reduceLT, Int.reduceLE, Int.reduceBEq, Int.reduceToNat, Int.toNat_natCast, Int.natCast_zero, r42_T, r42, q0, decide_true]
  · have q0 : ((0 : Int) ≥ (s.size : Int)) = False := eq_false (by omega)
    have hlt : 0 < s.size := by omega
    obtain ⟨va, vd⟩ := bs_get hlt
    have hl := rletter_ok s[0].toNat
    have eg : s.data.toList.getD 0 0 = s[0] := by
      have e : s[0] = s.data.toList[0]'hlt := rfl
      rw [e, List.getD_eq_getElem?_getD, List.getElem?_eq_getElem (show 0 < s.data.toList.length from hlt), Option.getD_some]
    rcases Bool.eq_false_or_eq_true (letB s[0].toNat) with g1 | g1
    · rw [g1] at hl
      have hL := rm_loop s hs s.size 0 (by omega) (.inr (by rw [eg]; exact g1))
      unfold RmLoop at hL
      rw [List.drop_zero, Nat.zero_add] at hL
      simp (disch := omega) only [go_sem, and_self, and_true, true_and, false_and, and_false, Nat.reduceAdd, Nat.reduceMul, Nat.reduceSub, Nat.reduceLeDiff, Nat.reduceLT, Nat.reduceGT, Nat.reduceEqDiff, Nat.reduceBEq, Int.reduceNeg, Int.reduceEq, Int.reduceLT, Int.reduceLE, Int.reduceBEq, Int.reduceToNat, Int.toNat_natCast, Int.natCast_zero, r42_T, r42, q0, va, hl, decide_false]
      rw [r42_B0_n]
      erw [hL]
      simp (disch := omega) only [go_sem, and_self, and_true, true_and, false_and, and_false, Nat.reduceAdd, Nat.reduceMul, Nat.reduceSub, Nat.reduceLeDiff, Nat.reduceLT, Nat.reduceGT, Nat.reduceEqDiff, Nat.reduceBEq, Int.reduceNeg, Int.reduceEq, Int.reduceLT, Int.reduceLE, Int.reduceBEq, Int.reduceToNat, Int.toNat_natCast, Int.natCast_zero]
    · rw [g1] at hl
      rw [List.drop_zero] at vd
      have e : runL 0 (bs s) = 0 := by rw [vd, runL, okI, g1]; simp
      rw [e]
      simp (disch := omega) only [go_sem, and_self, and_true, true_and, false_and, and_false, Nat.reduceAdd, Nat.reduceMul, Nat.reduceSub, Nat.reduceLeDiff, Nat.reduceLT, Nat.reduceGT, Nat.reduceEqDiff, Nat.reduceBEq, Int.reduceNeg, Int.reduceEq, Int.reduceLT, Int.reduceLE, Int.reduceBEq, Int.reduceToNat, Int.toNat_natCast, Int.natCast_zero, r42_T, r42, q0, va, hl, decide_false]

theorem rkeys_ok (hp : List Ent) : F tab 12 [] hp = some (.ret (.d (.sl (keysL.map .str))) hp) := by
  refine f12 rfl ?_
  simp only [go_sem, and_self, and_true, true_and, false_and, and_false, Nat.reduceAdd, Nat.reduceMul, Nat.reduceSub, Nat.reduceLeDiff, Nat.reduceLT, Nat.reduceGT, Nat.reduceEqDiff, Nat.reduceBEq, Int.reduceNeg, Int.reduceEq, Int.reduceLT, Int.reduceLE, Int.reduceBEq, Int.reduceToNat, Int.toNat_natCast, Int.natCast_zero, r12_T, r12, keysL, List.map_cons, List.map_nil]

def KyLoop (s : ByteArray) (l : List ByteArray) (i : Nat) : Prop :=
  V (F tab) r14_B0 (r14_S0 (.d (.str s)) (.d (.sl (l.map .str))) (.d (iv i)) []) = if hasB (l.drop i) s then some (.ret, r14_R (.d (.bool false)) []) else some (.norm, r14_E0 (.d (.str s)) [])
theorem ky_end (s : ByteArray) (l : List ByteArray) (i : Nat) (hi : l.length ≤ i) : KyLoop s l i := by
  have h1 : ((i : Int) < (l.length : Int)) = False := eq_false (by omega)
  unfold KyLoop
  rw [r14_B0_eq, List.drop_of_length_le hi]
  simp (disch := omega) only [go_sem, and_self, and_true, true_and, false_and, and_false, Nat.reduceAdd, Nat.reduceMul, Nat.reduceSub, Nat.reduceLeDiff, Nat.reduceLT, Nat.reduceGT, Nat.reduceEqDiff, Nat.reduceBEq, Int.reduceNeg, Int.reduceEq, Int.reduceLT, Int.reduceLE, Int.reduceBEq, Int.reduceToNat, Int.toNat_natCast, Int.natCast_zero, r14_C0, h1, List.length_map, hasB, List.any_nil]
theorem ky_step (s : ByteArray) (l : List ByteArray) (hl : l.length ≤ 1000) (i : Nat) (hi : i < l.length) (ih : KyLoop s l (i + 1)) : KyLoop s l i := by
  have h1 : ((i : Int) < (l.length : Int)) = True := eq_true (by omega)
  have hi0 : (0 ≤ (i : Int)) = True := eq_true (by omega)
  have va : (l.map D.str)[i]? = some (.str l[i]) := by simp [hi]
  unfold KyLoop at ih ⊢
  rw [Int.natCast_add, Int.natCast_one] at ih
  rw [r14_B0_eq, hasB_drop hi]
  rcases Bool.eq_false_or_eq_true (l[i].toList == s.toList) with g | g
  · simp (disch := omega) only [go_sem, and_self, and_true, true_and, false_and, and_false, Nat.reduceAdd, Nat.reduceMul, Nat.reduceSub, Nat.reduceLeDiff, Nat.reduceLT, Nat.reduceGT, Nat.reduceEqDiff, Nat.reduceBEq, Int.reduceNeg, Int.reduceEq, Int.reduceLT, Int.reduceLE, Int.reduceBEq, Int.reduceToNat, Int.toNat_natCast, Int.natCast_zero, r14_C0, h1, hi0, va, g, strD_eql, List.length_map, w64, Bool.true_or]
  · simp (disch := omega) only [go_sem, and_self, and_true, true_and, false_and, and_false, Nat.reduceAdd, Nat.reduceMul, Nat.reduceSub, Nat.reduceLeDiff, Nat.reduceLT, Nat.reduceGT, Nat.reduceEqDiff, Nat.reduceBEq, Int.reduceNeg, Int.reduceEq, Int.reduceLT, Int.reduceLE, Int.reduceBEq, Int.reduceToNat, Int.toNat_natCast, Int.natCast_zero, r14_C0, h1, hi0, va, g, strD_eql, List.length_map, w64, Bool.false_or]
    exact ih
theorem ky_loop (s : ByteArray) (l : List ByteArray) (hl : l.length ≤ 1000) : ∀ (j i : Nat), i + j = l.length → KyLoop s l i
  | 0, i, hi => ky_end s l i (by omega)
  | j + 1, i, hi => ky_step s l hl i (by omega) (ky_loop s l hl j (i + 1) (by omega))
theorem keyB_has (s : ByteArray) : keyB s = hasB keysL s := by
  have : ∀ l : List ByteArray, (l.any fun k => s.toList == k.toList) = hasB l s := by
    intro l
    induction l with
    | nil => rfl
    | cons a l ih => simp only [List.any_cons, hasB] at ih ⊢; rw [ih, BEq.comm]
  exact this keysL
theorem rident_ok (s : ByteArray) (hs : s.size ≤ maxLen) (hp : List Ent) : F tab 14 [.d (.str s)] hp = some (.ret (.d (.bool (identB s))) hp) := by
  have e := isE s
  have hw := rm_ok s hs
  have hk := keyB_has s
  have hL := ky_loop s keysL (by decide) keysL.length 0 (by omega)
  unfold KyLoop at hL
  rw [List.drop_zero, ← hk] at hL
  have e2 : decide ((s.size : Int) ≤ 16) = decide (s.size ≤ 16) := by by_cases h : s.size ≤ 16 <;> simp [h] <;> omega
  have e3 : ((runL 0 (bs s) : Int) == (s.size : Int)) = decide (runL 0 (bs s) = s.size) := by by_cases h : runL 0 (bs s) = s.size <;> simp [h] <;> omega
  refine f14 rfl ?_
  unfold identB
  simp (disch := omega) only [go_sem, and_self, and_true, true_and, false_and, and_false, Nat.reduceAdd, Nat.reduceMul, Nat.reduceSub, Nat.reduceLeDiff, Nat.reduceLT, Nat.reduceGT, Nat.reduceEqDiff, Nat.reduceBEq, Int.reduceNeg, Int.reduceEq, Int.reduceLT, Int.reduceLE, Int.reduceBEq, Int.reduceToNat, Int.toNat_natCast, Int.natCast_zero, r14_T, r14, rkeys_ok]
  rw [r14_B0_n]
  erw [hL]
  rcases Bool.eq_false_or_eq_true (keyB s) with g0 | g0
  · rw [g0]
    simp (disch := omega) only [go_sem, and_self, and_true, true_and, false_and, and_false, Nat.reduceAdd, Nat.reduceMul, Nat.reduceSub, Nat.reduceLeDiff, Nat.reduceLT, Nat.reduceGT, Nat.reduceEqDiff, Nat.reduceBEq, Int.reduceNeg, Int.reduceEq, Int.reduceLT, Int.reduceLE, Int.reduceBEq, Int.reduceToNat, Int.toNat_natCast, Int.natCast_zero, Bool.not_true, Bool.and_false]
  · rw [g0]
    rcases Bool.eq_false_or_eq_true (decide (s.size ≠ 0)) with g1 | g1
    · rcases Bool.eq_false_or_eq_true (decide (s.size ≤ 16)) with g2 | g2 <;>
        simp (disch := omega) only [go_sem, and_self, and_true, true_and, false_and, and_false, Nat.reduceAdd, Nat.reduceMul, Nat.reduceSub, Nat.reduceLeDiff, Nat.reduceLT, Nat.reduceGT, Nat.reduceEqDiff, Nat.reduceBEq, Int.reduceNeg, Int.reduceEq, Int.reduceLT, Int.reduceLE, Int.reduceBEq, Int.reduceToNat, Int.toNat_natCast, Int.natCast_zero, strD_neq, e, e2, e3, g1, g2, hw, Bool.not_true, Bool.not_false, Bool.true_and, Bool.false_and, Bool.and_true]
    · simp (disch := omega) only [go_sem, and_self, and_true, true_and, false_and, and_false, Nat.reduceAdd, Nat.reduceMul, Nat.reduceSub, Nat.reduceLeDiff, Nat.reduceLT, Nat.reduceGT, Nat.reduceEqDiff, Nat.reduceBEq, Int.reduceNeg, Int.reduceEq, Int.reduceLT, Int.reduceLE, Int.reduceBEq, Int.reduceToNat, Int.toNat_natCast, Int.natCast_zero, strD_neq, e, g1, Bool.not_true, Bool.not_false, Bool.true_and, Bool.false_and]
end Go.Pe.T

namespace Go.Pe.T

theorem lives13_ev : evF tab 200 11 [] [] = some (.ret (.d (.bool true)) []) := by kernel_rfl
theorem lives13_ok (hp : List Ent) : F tab 11 [] hp = some (.ret (.d (.bool true)) hp) :=
  F_some.2 ⟨200, ((evF_nice (pf := pf) (tabOf_pf tl pl _) 200).2 11 rfl _ _ _ _ lives13_ev).2 hp⟩

def KlLoop (s : ByteArray) (l : List ByteArray) (b : Bool) (i : Nat) : Prop :=
  V (F tab) r3_B0 (r3_S0 (.d (.str s)) (.d (.sl (l.map .str))) (.d (.bool b)) (.d (iv i)) []) = some (.norm, r3_E0 (.d (.str s)) (.d (.bool (b || hasB (l.drop i) s))) [])
theorem kl_end (s : ByteArray) (l : List ByteArray) (b : Bool) (i : Nat) (hi : l.length ≤ i) : KlLoop s l b i := by
  have h1 : ((i : Int) < (l.length : Int)) = False := eq_false (by omega)
  unfold KlLoop
  rw [r3_B0_eq, List.drop_of_length_le hi]
  simp (disch := omega) only [go_sem, and_self, and_true, true_and, false_and, and_false, Nat.reduceAdd, Nat.reduceMul, Nat.reduceSub, Nat.reduceLeDiff, Nat.reduceLT, Nat.reduceGT, Nat.reduceEqDiff, Nat.reduceBEq, Int.reduceNeg, Int.reduceEq, Int.reduceLT, Int.reduceLE, Int.reduceBEq, Int.reduceToNat, Int.toNat_natCast, Int.natCast_zero, r3_C0, h1, List.length_map, hasB, List.any_nil, Bool.or_false]
theorem kl_step (s : ByteArray) (l : List ByteArray) (hl : l.length ≤ 1000) (b : Bool) (i : Nat) (hi : i < l.length) (ih : ∀ c, KlLoop s l c (i + 1)) : KlLoop s l b i := by
  have h1 : ((i : Int) < (l.length : Int)) = True := eq_true (by omega)
  have hi0 : (0 ≤ (i : Int)) = True := eq_true (by omega)
  have va : (l.map D.str)[i]? = some (.str l[i]) := by simp [hi]
  have ih := ih (b || (l[i].toList == s.toList))
  unfold KlLoop at ih ⊢
  rw [Int.natCast_add, Int.natCast_one] at ih
  rw [r3_B0_eq, hasB_drop hi, ← Bool.or_assoc]
  cases b with
  | true =>
    simp only [Bool.true_or] at ih ⊢
    simp (disch := omega) only [go_sem, and_self, and_true, true_and, false_and, and_false, Nat.reduceAdd, Nat.reduceMul, Nat.reduceSub, Nat.reduceLeDiff, Nat.reduceLT, Nat.reduceGT, Nat.reduceEqDiff, Nat.reduceBEq, Int.reduceNeg, Int.reduceEq, Int.reduceLT, Int.reduceLE, Int.reduceBEq, Int.reduceToNat, Int.toNat_natCast, Int.natCast_zero, r3_C0, h1, hi0, va, strD_eql, List.length_map, w64]
    exact ih
  | false =>
    simp only [Bool.false_or] at ih ⊢
    simp (disch := omega) only [go_sem, and_self, and_true, true_and, false_and, and_false, Nat.reduceAdd, Nat.reduceMul, Nat.reduceSub, Nat.reduceLeDiff, Nat.reduceLT, Nat.reduceGT, Nat.reduceEqDiff, Nat.reduceBEq, Int.reduceNeg, Int.reduceEq, Int.reduceLT, Int.reduceLE, Int.reduceBEq, Int.reduceToNat, Int.toNat_natCast, Int.natCast_zero, r3_C0, h1, hi0, va, strD_eql, List.length_map, w64]
    exact ih
theorem kl_loop (s : ByteArray) (l : List ByteArray) (hl : l.length ≤ 1000) : ∀ (j i : Nat) (b : Bool), i + j = l.length → KlLoop s l b i
  | 0, i, b, hi => kl_end s l b i (by omega)
  | j + 1, i, b, hi => kl_step s l hl b i (by omega) fun c => kl_loop s l hl j (i + 1) c (by omega)

theorem LexNames_ok (s : ByteArray) (hs : s.size ≤ maxLen) (hp : List Ent) : F tab 3 [.d (.str s)] hp = some (.ret (.d (.bool true)) hp) := by
  have hL := kl_loop s keysL (by decide) keysL.length 0 false (by omega)
  unfold KlLoop at hL
  rw [List.drop_zero, Bool.false_or, ← keyB_has] at hL
  have h1 := ident_ok s hs
  have h2 := rident_ok s hs
  have h3 := key_ok s
  have h4 := lives13_ok
  have b1 : (identB s == identB s) = true := by simp
  have b2 : (keyB s == keyB s) = true := by simp
  refine f3 rfl ?_
  by_cases h : (s.size : Int) > 1000
  · simp (disch := omega) only [go_sem, and_self, and_true, true_and, false_and, and_false, Nat.reduceAdd, Nat.reduceMul, Nat.reduceSub, Nat.reduceLeDiff, Nat.reduceLT, Nat.reduceGT, Nat.reduceEqDiff, Nat.reduceBEq, Int.reduceNeg, Int.reduceEq, Int.reduceLT, Int.reduceLE, Int.reduceBEq, Int.reduceToNat, Int.toNat_natCast, Int.natCast_zero, r3_T, r3, h, h4]
  · simp (disch := omega) only [go_sem, and_self, and_true, true_and, false_and, and_false, Nat.reduceAdd, Nat.reduceMul, Nat.reduceSub, Nat.reduceLeDiff, Nat.reduceLT, Nat.reduceGT, Nat.reduceEqDiff, Nat.reduceBEq, Int.reduceNeg, Int.reduceEq, Int.reduceLT, Int.reduceLE, Int.reduceBEq, Int.reduceToNat, Int.toNat_natCast, Int.natCast_zero, r3_T, r3, h, rkeys_ok]
    rw [r3_B0_n]
    erw [hL]
    simp (disch := omega) only [go_sem, and_self, and_true, true_and, false_and, and_false, Nat.reduceAdd, Nat.reduceMul, Nat.reduceSub, Nat.reduceLeDiff, Nat.reduceLT, Nat.reduceGT, Nat.reduceEqDiff, Nat.reduceBEq, Int.reduceNeg, Int.reduceEq, Int.reduceLT, Int.reduceLE, Int.reduceBEq, Int.reduceToNat, Int.toNat_natCast, Int.natCast_zero, h1, h2, h3, h4, b1, b2]
end Go.Pe.T
