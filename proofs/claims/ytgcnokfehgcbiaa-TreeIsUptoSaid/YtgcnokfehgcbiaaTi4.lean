/- A part of the proof of: The law TreeIs holds, in its second form: of whatever two expressions come in, tree.Is and tree.Same answer as the document's answer does, so the law returns true and leaves its arguments as they were; the condition is that what comes in is of bulk at most 1048576. -/
import Derived.Test.YtgcnokfehgcbiaaTi3
import Derived.Test.YtgcnokfehgcbiaaTi2
import Derived.Test.YtgcnokfehgcbiaaTi1
import Derived.KernelRfl
set_option linter.unusedSimpArgs false
set_option linter.unusedVariables false
set_option maxRecDepth 10000

namespace Go.Pe.T

/-! ### are two the same, by the program -/
def EqnLoop (a b : List ByteArray) (i : Nat) : Prop :=
  V (F tab) r67_B0 (r67_S0 (.d (.sl (a.map .str))) (.d (.sl (b.map .str))) (.d (iv a.length)) (.d (iv i)) []) = if namesE (a.drop i) (b.drop i) then some (.norm, r67_E0 []) else some (.ret, r67_R (.d (.bool false)) [])
theorem eqn_end (a b : List ByteArray) (i : Nat) (hi : a.length ≤ i) : EqnLoop a b i := by
  have h1 : ((i : Int) < (a.length : Int)) = False := eq_false (by omega)
  have e : namesE [] (b.drop i) = true := by simp [namesE]
  unfold EqnLoop
  rw [r67_B0_eq, List.drop_of_length_le hi, e]
  simp (disch := omega) only [go_sem, and_self, and_true, true_and, false_and, and_false, Nat.reduceAdd, Nat.reduceMul, Nat.reduceSub, Nat.reduceLeDiff, Nat.reduceLT, Nat.reduceGT, Nat.reduceEqDiff, Nat.reduceBEq, Int.reduceNeg, Int.reduceEq, Int.reduceLT, Int.reduceLE, Int.reduceBEq, Int.reduceToNat, Int.toNat_natCast, Int.natCast_zero, r67_C0, h1]
theorem eqn_step (a b : List ByteArray) (hl : a.length ≤ maxLen) (hn : a.length = b.length) (i : Nat) (hi : i < a.length) (ih : EqnLoop a b (i + 1)) : EqnLoop a b i := by
  have hmx : maxLen = 9223372036854775807 := by decide
  have hi' : i < b.length := by omega
  have h1 : ((i : Int) < (a.length : Int)) = True := eq_true (by omega)
  have hi0 : (0 ≤ (i : Int)) = True := eq_true (by omega)
  have va : (a.map D.str)[i]? = some (.str a[i]) := by simp [hi]
  have vb : (b.map D.str)[i]? = some (.str b[i]) := by simp [hi']
  unfold EqnLoop at ih ⊢
  rw [Int.natCast_add, Int.natCast_one] at ih
  rw [r67_B0_eq, List.drop_eq_getElem_cons hi, List.drop_eq_getElem_cons hi']
  simp only [namesE]
  rcases Bool.eq_false_or_eq_true (a[i].toList == b[i].toList) with g | g
  · simp (disch := omega) only [go_sem, and_self, and_true, true_and, false_and, and_false, Nat.reduceAdd, Nat.reduceMul, Nat.reduceSub, Nat.reduceLeDiff, Nat.reduceLT, Nat.reduceGT, Nat.reduceEqDiff, Nat.reduceBEq, Int.reduceNeg, Int.reduceEq, Int.reduceLT, Int.reduceLE, Int.reduceBEq, Int.reduceToNat, Int.toNat_natCast, Int.natCast_zero, r67_C0, h1, hi0, va, vb, List.length_map, g, strD_neq, w64, Bool.true_and]
    exact ih
  · simp (disch := omega) only [go_sem, and_self, and_true, true_and, false_and, and_false, Nat.reduceAdd, Nat.reduceMul, Nat.reduceSub, Nat.reduceLeDiff, Nat.reduceLT, Nat.reduceGT, Nat.reduceEqDiff, Nat.reduceBEq, Int.reduceNeg, Int.reduceEq, Int.reduceLT, Int.reduceLE, Int.reduceBEq, Int.reduceToNat, Int.toNat_natCast, Int.natCast_zero, r67_C0, h1, hi0, va, vb, List.length_map, g, strD_neq, w64, Bool.false_and]
theorem eqn_loop (a b : List ByteArray) (hl : a.length ≤ maxLen) (hn : a.length = b.length) : ∀ (j i : Nat), i + j = a.length → EqnLoop a b i
  | 0, i, hi => eqn_end a b i (by omega)
  | j + 1, i, hi => eqn_step a b hl hn i (by omega) (eqn_loop a b hl hn j (i + 1) (by omega))
theorem eqn_ok (a b : List ByteArray) (hl : a.length ≤ maxLen) (hp : List Ent) : F tab 67 [.d (.sl (a.map .str)), .d (.sl (b.map .str))] hp = some (.ret (.d (.bool (a.length == b.length && namesE a b))) hp) := by
  refine f67 rfl ?_
  by_cases h : a.length = b.length
  · have e : ((a.length : Int) != (b.length : Int)) = false := by simp [h]
    have e2 : (a.length == b.length) = true := by simp [h]
    have hL := eqn_loop a b hl h a.length 0 (by omega)
    unfold EqnLoop at hL
    rw [List.drop_zero, List.drop_zero] at hL
    simp (disch := omega) only [go_sem, and_self, and_true, true_and, false_and, and_false, Nat.reduceAdd, Nat.reduceMul, Nat.reduceSub, Nat.reduceLeDiff, Nat.reduceLT, Nat.reduceGT, Nat.reduceEqDiff, Nat.reduceBEq, Int.reduceNeg, Int.reduceEq, Int.reduceLT, Int.reduceLE, Int.reduceBEq, Int.reduceToNat, Int.toNat_natCast, Int.natCast_zero, r67_T, r67, List.length_map, e, e2, Bool.true_and]
    rw [r67_B0_n]
    erw [hL]
    rcases Bool.eq_false_or_eq_true (namesE a b) with g | g <;> rw [g] <;> simp only [go_sem, and_self, and_true, true_and, false_and, and_false, Nat.reduceAdd, Nat.reduceMul, Nat.reduceSub, Nat.reduceLeDiff, Nat.reduceLT, Nat.reduceGT, Nat.reduceEqDiff, Nat.reduceBEq, Int.reduceNeg, Int.reduceEq, Int.reduceLT, Int.reduceLE, Int.reduceBEq, Int.reduceToNat, Int.toNat_natCast, Int.natCast_zero]
  · have e : ((a.length : Int) != (b.length : Int)) = true := by simp; omega
    have e2 : (a.length == b.length) = false := by simp [h]
    simp (disch := omega) only [go_sem, and_self, and_true, true_and, false_and, and_false, Nat.reduceAdd, Nat.reduceMul, Nat.reduceSub, Nat.reduceLeDiff, Nat.reduceLT, Nat.reduceGT, Nat.reduceEqDiff, Nat.reduceBEq, Int.reduceNeg, Int.reduceEq, Int.reduceLT, Int.reduceLE, Int.reduceBEq, Int.reduceToNat, Int.toNat_natCast, Int.natCast_zero, r67_T, r67, List.length_map, e, e2, Bool.false_and]

def TSameIs (x y : Xp) : Prop := ∀ hp : List Ent, F tab 33 [.d x.enc, .d y.enc] hp = some (.ret (.d (.bool (sameV x y))) hp)

def EqfLoop (a b : List Xp) (i : Nat) : Prop := ∀ hp : List Ent,
  V (F tab) r68_B0 (r68_S0 (.d (.sl (Xp.encs b))) (.fn 33 []) (.d (.sl (Xp.encs a))) (.d (iv a.length)) (.d (iv i)) hp) = if sameVs (a.drop i) (b.drop i) then some (.norm, r68_E0 hp) else some (.ret, r68_R (.d (.bool false)) hp)
theorem eqf_end (a b : List Xp) (i : Nat) (hi : a.length ≤ i) : EqfLoop a b i := by
  intro hp
  have h1 : ((i : Int) < (a.length : Int)) = False := eq_false (by omega)
  have e : sameVs [] (b.drop i) = true := by simp [sameVs]
  rw [r68_B0_eq, List.drop_of_length_le hi, e]
  simp (disch := omega) only [go_sem, and_self, and_true, true_and, false_and, and_false, Nat.reduceAdd, Nat.reduceMul, Nat.reduceSub, Nat.reduceLeDiff, Nat.reduceLT, Nat.reduceGT, Nat.reduceEqDiff, Nat.reduceBEq, Int.reduceNeg, Int.reduceEq, Int.reduceLT, Int.reduceLE, Int.reduceBEq, Int.reduceToNat, Int.toNat_natCast, Int.natCast_zero, r68_C0, h1]
theorem eqf_step (a b : List Xp) (hl : a.length ≤ maxLen) (hn : a.length = b.length) (i : Nat) (hi : i < a.length) (hS : ∀ hi' : i < b.length, TSameIs a[i] b[i]) (ih : EqfLoop a b (i + 1)) : EqfLoop a b i := by
  intro hp
  have hmx : maxLen = 9223372036854775807 := by decide
  have hi' : i < b.length := by omega
  have hS := hS hi'
  have h1 : ((i : Int) < (a.length : Int)) = True := eq_true (by omega)
  have hi0 : (0 ≤ (i : Int)) = True := eq_true (by omega)
  have va : (Xp.encs a)[i]? = some (a[i].enc) := by rw [xencs_get]; simp [hi]
  have vb : (Xp.encs b)[i]? = some (b[i].enc) := by rw [xencs_get]; simp [hi']
  have ih := ih hp
  unfold TSameIs at hS
  rw [Int.natCast_add, Int.natCast_one] at ih
  obtain ⟨_, _, _, _, _, _, _, _, ex⟩ := xenc_as a[i]
  obtain ⟨_, _, _, _, _, _, _, _, ey⟩ := xenc_as b[i]
  rw [ex, ey] at hS
  rw [ex] at va
  rw [ey] at vb
  rw [r68_B0_eq, List.drop_eq_getElem_cons hi, List.drop_eq_getElem_cons hi']
  simp only [sameVs]
  rcases Bool.eq_false_or_eq_true (sameV a[i] b[i]) with g | g
  · simp (disch := omega) only [go_sem, and_self, and_true, true_and, false_and, and_false, Nat.reduceAdd, Nat.reduceMul, Nat.reduceSub, Nat.reduceLeDiff, Nat.reduceLT, Nat.reduceGT, Nat.reduceEqDiff, Nat.reduceBEq, Int.reduceNeg, Int.reduceEq, Int.reduceLT, Int.reduceLE, Int.reduceBEq, Int.reduceToNat, Int.toNat_natCast, Int.natCast_zero, r68_C0, h1, hi0, va, vb, xencs_len, hS, g, w64, Bool.true_and]
    exact ih
  · simp (disch := omega) only [go_sem, and_self, and_true, true_and, false_and, and_false, Nat.reduceAdd, Nat.reduceMul, Nat.reduceSub, Nat.reduceLeDiff, Nat.reduceLT, Nat.reduceGT, Nat.reduceEqDiff, Nat.reduceBEq, Int.reduceNeg, Int.reduceEq, Int.reduceLT, Int.reduceLE, Int.reduceBEq, Int.reduceToNat, Int.toNat_natCast, Int.natCast_zero, r68_C0, h1, hi0, va, vb, xencs_len, hS, g, w64, Bool.false_and]
theorem eqf_loop (a b : List Xp) (hl : a.length ≤ maxLen) (hn : a.length = b.length) (hS : ∀ x ∈ a, ∀ y ∈ b, TSameIs x y) : ∀ (j i : Nat), i + j = a.length → EqfLoop a b i
  | 0, i, hi => eqf_end a b i (by omega)
  | j + 1, i, hi => eqf_step a b hl hn i (by omega) (fun _ => hS _ (List.getElem_mem _) _ (List.getElem_mem _)) (eqf_loop a b hl hn hS j (i + 1) (by omega))
theorem eqf_ok (a b : List Xp) (hl : a.length ≤ maxLen) (hS : ∀ x ∈ a, ∀ y ∈ b, TSameIs x y) (hp : List Ent) : F tab 68 [.d (.sl (Xp.encs a)), .d (.sl (Xp.encs b)), .fn 33 []] hp = some (.ret (.d (.bool (a.length == b.length && sameVs a b))) hp) := by
  refine f68 ?_
  by_cases h : a.length = b.length
  · have e : ((a.length : Int) != (b.length : Int)) = false := by simp [h]
    have e2 : (a.length == b.length) = true := by simp [h]
    have hL := eqf_loop a b hl h hS a.length 0 (by omega) hp
    rw [List.drop_zero, List.drop_zero] at hL
    simp (disch := omega) only [go_sem, and_self, and_true, true_and, false_and, and_false, Nat.reduceAdd, Nat.reduceMul, Nat.reduceSub, Nat.reduceLeDiff, Nat.reduceLT, Nat.reduceGT, Nat.reduceEqDiff, Nat.reduceBEq, Int.reduceNeg, Int.reduceEq, Int.reduceLT, Int.reduceLE, Int.reduceBEq, Int.reduceToNat, Int.toNat_natCast, Int.natCast_zero, r68_T, r68, xencs_len, e, e2, Bool.true_and]
    rw [r68_B0_n]
    erw [hL]
    rcases Bool.eq_false_or_eq_true (sameVs a b) with g | g <;> rw [g] <;> simp only [go_sem, and_self, and_true, true_and, false_and, and_false, Nat.reduceAdd, Nat.reduceMul, Nat.reduceSub, Nat.reduceLeDiff, Nat.reduceLT, Nat.reduceGT, Nat.reduceEqDiff, Nat.reduceBEq, Int.reduceNeg, Int.reduceEq, Int.reduceLT, Int.reduceLE, Int.reduceBEq, Int.reduceToNat, Int.toNat_natCast, Int.natCast_zero]
  · have e : ((a.length : Int) != (b.length : Int)) = true := by simp; omega
    have e2 : (a.length == b.length) = false := by simp [h]
    simp (disch := omega) only [go_sem, and_self, and_true, true_and, false_and, and_false, Nat.reduceAdd, Nat.reduceMul, Nat.reduceSub, Nat.reduceLeDiff, Nat.reduceLT, Nat.reduceGT, Nat.reduceEqDiff, Nat.reduceBEq, Int.reduceNeg, Int.reduceEq, Int.reduceLT, Int.reduceLE, Int.reduceBEq, Int.reduceToNat, Int.toNat_natCast, Int.natCast_zero, r68_T, r68, xencs_len, e, e2, Bool.false_and]

theorem ts_no0 (o p k c s o' p' k' c' s' : Int) (t t' : ByteArray) (ns ns' : List ByteArray) (xs xs' : List Xp)  (zo : (o == o') = false) : TSameIs (.mk o t p k c s ns xs) (.mk o' t' p' k' c' s' ns' xs') := by
  intro heap
  have no : (o != o') = true := by simp only [bne, zo, Bool.not_false]
  refine f33 rfl ?_
  simp (disch := omega) only [go_sem, and_self, and_true, true_and, false_and, and_false, Nat.reduceAdd, Nat.reduceMul, Nat.reduceSub, Nat.reduceLeDiff, Nat.reduceLT, Nat.reduceGT, Nat.reduceEqDiff, Nat.reduceBEq, Int.reduceNeg, Int.reduceEq, Int.reduceLT, Int.reduceLE, Int.reduceBEq, Int.reduceToNat, Int.toNat_natCast, Int.natCast_zero, r33_T, r33, Xp.enc, sameV, eqD_num, strD_neq, zo, no, Bool.false_and, Bool.true_and]

theorem ts_no1 (o p k c s o' p' k' c' s' : Int) (t t' : ByteArray) (ns ns' : List ByteArray) (xs xs' : List Xp)  (zo : (o == o') = true) (zt : (t.toList == t'.toList) = false) : TSameIs (.mk o t p k c s ns xs) (.mk o' t' p' k' c' s' ns' xs') := by
  intro heap
  have no : (o != o') = false := by simp only [bne, zo, Bool.not_true]
  refine f33 rfl ?_
  simp (disch := omega) only [go_sem, and_self, and_true, true_and, false_and, and_false, Nat.reduceAdd, Nat.reduceMul, Nat.reduceSub, Nat.reduceLeDiff, Nat.reduceLT, Nat.reduceGT, Nat.reduceEqDiff, Nat.reduceBEq, Int.reduceNeg, Int.reduceEq, Int.reduceLT, Int.reduceLE, Int.reduceBEq, Int.reduceToNat, Int.toNat_natCast, Int.natCast_zero, r33_T, r33, Xp.enc, sameV, eqD_num, strD_neq, zo, no, zt, Bool.false_and, Bool.true_and]

theorem ts_no2 (o p k c s o' p' k' c' s' : Int) (t t' : ByteArray) (ns ns' : List ByteArray) (xs xs' : List Xp)  (zo : (o == o') = true) (zt : (t.toList == t'.toList) = true) (zp : (p == p') = false) : TSameIs (.mk o t p k c s ns xs) (.mk o' t' p' k' c' s' ns' xs') := by
  intro heap
  have no : (o != o') = false := by simp only [bne, zo, Bool.not_true]
  have np : (p != p') = true := by simp only [bne, zp, Bool.not_false]
  refine f33 rfl ?_
  simp (disch := omega) only [go_sem, and_self, and_true, true_and, false_and, and_false, Nat.reduceAdd, Nat.reduceMul, Nat.reduceSub, Nat.reduceLeDiff, Nat.reduceLT, Nat.reduceGT, Nat.reduceEqDiff, Nat.reduceBEq, Int.reduceNeg, Int.reduceEq, Int.reduceLT, Int.reduceLE, Int.reduceBEq, Int.reduceToNat, Int.toNat_natCast, Int.natCast_zero, r33_T, r33, Xp.enc, sameV, eqD_num, strD_neq, zo, no, zt, zp, np, Bool.false_and, Bool.true_and]

theorem ts_no3 (o p k c s o' p' k' c' s' : Int) (t t' : ByteArray) (ns ns' : List ByteArray) (xs xs' : List Xp)  (zo : (o == o') = true) (zt : (t.toList == t'.toList) = true) (zp : (p == p') = true) (zk : (k == k') = false) : TSameIs (.mk o t p k c s ns xs) (.mk o' t' p' k' c' s' ns' xs') := by
  intro heap
  have no : (o != o') = false := by simp only [bne, zo, Bool.not_true]
  have np : (p != p') = false := by simp only [bne, zp, Bool.not_true]
  have nk : (k != k') = true := by simp only [bne, zk, Bool.not_false]
  refine f33 rfl ?_
  simp (disch := omega) only [go_sem, and_self, and_true, true_and, false_and, and_false, Nat.reduceAdd, Nat.reduceMul, Nat.reduceSub, Nat.reduceLeDiff, Nat.reduceLT, Nat.reduceGT, Nat.reduceEqDiff, Nat.reduceBEq, Int.reduceNeg, Int.reduceEq, Int.reduceLT, Int.reduceLE, Int.reduceBEq, Int.reduceToNat, Int.toNat_natCast, Int.natCast_zero, r33_T, r33, Xp.enc, sameV, eqD_num, strD_neq, zo, no, zt, zp, np, zk, nk, Bool.false_and, Bool.true_and]

theorem ts_no4 (o p k c s o' p' k' c' s' : Int) (t t' : ByteArray) (ns ns' : List ByteArray) (xs xs' : List Xp)  (zo : (o == o') = true) (zt : (t.toList == t'.toList) = true) (zp : (p == p') = true) (zk : (k == k') = true) (zn : ((c == c' && s == s')) = false) : TSameIs (.mk o t p k c s ns xs) (.mk o' t' p' k' c' s' ns' xs') := by
  intro heap
  have no : (o != o') = false := by simp only [bne, zo, Bool.not_true]
  have np : (p != p') = false := by simp only [bne, zp, Bool.not_true]
  have nk : (k != k') = false := by simp only [bne, zk, Bool.not_true]
  refine f33 rfl ?_
  simp (disch := omega) only [go_sem, and_self, and_true, true_and, false_and, and_false, Nat.reduceAdd, Nat.reduceMul, Nat.reduceSub, Nat.reduceLeDiff, Nat.reduceLT, Nat.reduceGT, Nat.reduceEqDiff, Nat.reduceBEq, Int.reduceNeg, Int.reduceEq, Int.reduceLT, Int.reduceLE, Int.reduceBEq, Int.reduceToNat, Int.toNat_natCast, Int.natCast_zero, r33_T, r33, Xp.enc, sameV, eqD_num, strD_neq, zo, no, zt, zp, np, zk, nk, zn, Bool.false_and, Bool.true_and]

theorem ts_yes (o p k c s o' p' k' c' s' : Int) (t t' : ByteArray) (ns ns' : List ByteArray) (xs xs' : List Xp) (zo : (o == o') = true) (zt : (t.toList == t'.toList) = true) (zp : (p == p') = true) (zk : (k == k') = true) (zn : ((c == c' && s == s')) = true) (hl : ns.length ≤ maxLen) (hm : xs.length ≤ maxLen) (hS : ∀ x ∈ xs, ∀ y ∈ xs', TSameIs x y) : TSameIs (.mk o t p k c s ns xs) (.mk o' t' p' k' c' s' ns' xs') := by
  intro heap
  have no : (o != o') = false := by simp only [bne, zo, Bool.not_true]
  have np : (p != p') = false := by simp only [bne, zp, Bool.not_true]
  have nk : (k != k') = false := by simp only [bne, zk, Bool.not_true]
  have h1 := eqn_ok ns ns' hl
  have h2 := eqf_ok xs xs' hm hS
  have e : (ns.length == ns'.length && (xs.length == xs'.length && (namesE ns ns' && sameVs xs xs'))) = ((ns.length == ns'.length && namesE ns ns') && (xs.length == xs'.length && sameVs xs xs')) := by
    cases ns.length == ns'.length <;> cases xs.length == xs'.length <;> cases namesE ns ns' <;> rfl
  refine f33 rfl ?_
  rcases Bool.eq_false_or_eq_true (ns.length == ns'.length && namesE ns ns') with g | g <;>
    simp (disch := omega) only [go_sem, and_self, and_true, true_and, false_and, and_false, Nat.reduceAdd, Nat.reduceMul, Nat.reduceSub, Nat.reduceLeDiff, Nat.reduceLT, Nat.reduceGT, Nat.reduceEqDiff, Nat.reduceBEq, Int.reduceNeg, Int.reduceEq, Int.reduceLT, Int.reduceLE, Int.reduceBEq, Int.reduceToNat, Int.toNat_natCast, Int.natCast_zero, r33_T, r33, Xp.enc, sameV, eqD_num, strD_neq, zo, no, zt, zp, np, zk, nk, zn, h1, h2, e, g, Bool.true_and, Bool.false_and]

theorem tsame_ok : ∀ (x y : Xp), x.ok → y.ok → TSameIs x y
  | .mk o t p k c s ns xs, .mk o' t' p' k' c' s' ns' xs', hx, hy => by
    simp only [Xp.ok] at hx hy
    have hS : ∀ x ∈ xs, ∀ y ∈ xs', TSameIs x y := fun x hx' y hy' => tsame_ok x y (xoks_mem hx.2.2.2.2.2.2.2.2.2 hx') (xoks_mem hy.2.2.2.2.2.2.2.2.2 hy')
    rcases Bool.eq_false_or_eq_true (o == o') with zo | zo
    rotate_left
    · exact ts_no0 o p k c s o' p' k' c' s' t t' ns ns' xs xs' zo
    rcases Bool.eq_false_or_eq_true (t.toList == t'.toList) with zt | zt
    rotate_left
    · exact ts_no1 o p k c s o' p' k' c' s' t t' ns ns' xs xs' zo zt
    rcases Bool.eq_false_or_eq_true (p == p') with zp | zp
    rotate_left
    · exact ts_no2 o p k c s o' p' k' c' s' t t' ns ns' xs xs' zo zt zp
    rcases Bool.eq_false_or_eq_true (k == k') with zk | zk
    rotate_left
    · exact ts_no3 o p k c s o' p' k' c' s' t t' ns ns' xs xs' zo zt zp zk
    rcases Bool.eq_false_or_eq_true ((c == c' && s == s')) with zn | zn
    rotate_left
    · exact ts_no4 o p k c s o' p' k' c' s' t t' ns ns' xs xs' zo zt zp zk zn
    exact ts_yes o p k c s o' p' k' c' s' t t' ns ns' xs xs' zo zt zp zk zn hx.2.2.2.2.2.2.1 hx.2.2.2.2.2.2.2.2.1 hS
end Go.Pe.T

namespace Go.Pe.T

theorem lives14_ev : evF tab 70 20 [] [] = some (.ret (.d (.bool true)) []) := by kernel_rfl

theorem lives14_ok (hp : List Ent) : F tab 20 [] hp = some (.ret (.d (.bool true)) hp) :=
  F_some.2 ⟨70, ((evF_nice (pf := pf) (tabOf_pf tl pl _) 70).2 20 rfl _ _ _ _ lives14_ev).2 hp⟩
theorem signs_ev : evF tab 70 26 [] [] = evF tab 70 27 [] [] := by kernel_rfl
end Go.Pe.T

namespace Go.Pe.T

theorem own_ok (x : Xp) (hx : x.ok) (hm : x.lim 2097152) (hp : List Ent) : F tab 66 [.d x.enc] hp = some (.ret (.d (.bool (fitsV x))) hp) := by
  obtain ⟨o, t, p, k, c, s, ns, xs⟩ := x
  simp only [Xp.ok] at hx
  simp only [Xp.lim] at hm
  rw [← own_fits]
  exact own_is o t p k c s ns xs hm.1 hx.2.2.2.2.2.2.1 hm.2.1 hp

def RiLoop (l : List Xp) (i : Nat) : Prop :=
  V (F tab) r32_B0 (r32_S0 (.d (.sl (Xp.encs l))) (.d (iv i)) []) = if (l.drop i).all fitsV then some (.norm, r32_E0 (.d (.sl (Xp.encs l))) []) else some (.ret, r32_R (.d (.bool false)) [])
theorem ri_end (l : List Xp) (i : Nat) (hi : l.length ≤ i) : RiLoop l i := by
  have h1 : ((i : Int) < (l.length : Int)) = False := eq_false (by omega)
  unfold RiLoop
  rw [r32_B0_eq, List.drop_of_length_le hi]
  simp (disch := omega) only [go_sem, and_self, and_true, true_and, false_and, and_false, Nat.reduceAdd, Nat.reduceMul, Nat.reduceSub, Nat.reduceLeDiff, Nat.reduceLT, Nat.reduceGT, Nat.reduceEqDiff, Nat.reduceBEq, Int.reduceNeg, Int.reduceEq, Int.reduceLT, Int.reduceLE, Int.reduceBEq, Int.reduceToNat, Int.toNat_natCast, Int.natCast_zero, r32_C0, h1, xencs_len, List.all_nil]
theorem ri_step (l : List Xp) (i : Nat) (hi : i < l.length) (hl : l.length ≤ 1000) (hx : l[i].ok) (hm : l[i].lim 2097152) (ih : RiLoop l (i + 1)) : RiLoop l i := by
  have h1 : ((i : Int) < (l.length : Int)) = True := eq_true (by omega)
  have hi0 : (0 ≤ (i : Int)) = True := eq_true (by omega)
  have va : (Xp.encs l)[i]? = some (l[i].enc) := by rw [xencs_get]; simp [hi]
  have ho := own_ok l[i] hx hm
  unfold RiLoop at ih ⊢
  rw [Int.natCast_add, Int.natCast_one] at ih
  rw [r32_B0_eq, List.drop_eq_getElem_cons hi]
  simp only [List.all_cons]
  rcases Bool.eq_false_or_eq_true (fitsV l[i]) with g | g
  · simp (disch := omega) only [go_sem, and_self, and_true, true_and, false_and, and_false, Nat.reduceAdd, Nat.reduceMul, Nat.reduceSub, Nat.reduceLeDiff, Nat.reduceLT, Nat.reduceGT, Nat.reduceEqDiff, Nat.reduceBEq, Int.reduceNeg, Int.reduceEq, Int.reduceLT, Int.reduceLE, Int.reduceBEq, Int.reduceToNat, Int.toNat_natCast, Int.natCast_zero, r32_C0, h1, hi0, va, xenc_w, xenc_a, xencs_len, ho, g, w64, Bool.true_and]
    exact ih
  · simp (disch := omega) only [go_sem, and_self, and_true, true_and, false_and, and_false, Nat.reduceAdd, Nat.reduceMul, Nat.reduceSub, Nat.reduceLeDiff, Nat.reduceLT, Nat.reduceGT, Nat.reduceEqDiff, Nat.reduceBEq, Int.reduceNeg, Int.reduceEq, Int.reduceLT, Int.reduceLE, Int.reduceBEq, Int.reduceToNat, Int.toNat_natCast, Int.natCast_zero, r32_C0, h1, hi0, va, xenc_w, xenc_a, xencs_len, ho, g, w64, Bool.false_and]
theorem ri_loop (l : List Xp) (hl : l.length ≤ 1000) (hx : ∀ x ∈ l, x.ok) (hm : ∀ x ∈ l, x.lim 2097152) : ∀ (j i : Nat), i + j = l.length → RiLoop l i
  | 0, i, hi => ri_end l i (by omega)
  | j + 1, i, hi => ri_step l i (by omega) hl (hx _ (List.getElem_mem _)) (hm _ (List.getElem_mem _)) (ri_loop l hl hx hm j (i + 1) (by omega))
theorem ris_ok (e : Xp) (he : e.ok) (hm : e.lim 2097152) (hl : e.pre.length ≤ 590) (hp : List Ent) : F tab 32 [.d e.enc] hp = some (.ret (.d (.bool (isV e))) hp) := by
  have a2 : ∀ hp, F tab 21 [.d e.enc, .d (iv 600)] hp = _ := rall_ok e he 600 (by omega) (by omega)
  have e1 : (e.pre.take 600) = e.pre := List.take_of_length_le (by omega)
  rw [e1] at a2
  have hL := ri_loop e.pre (by omega) (pre_ok e he) (pre_lim e hm) e.pre.length 0 (by omega)
  unfold RiLoop at hL
  rw [List.drop_zero] at hL
  have e2 : decide ((e.pre.length : Int) ≤ 512) = decide (e.pre.length ≤ 512) := by apply decide_eq_decide.2; omega
  obtain ⟨o, t, p, k, c, s, ns, ys, ex⟩ := xenc_as e
  rw [ex] at a2 ⊢
  refine f32 rfl ?_
  unfold isV
  simp (disch := omega) only [go_sem, and_self, and_true, true_and, false_and, and_false, Nat.reduceAdd, Nat.reduceMul, Nat.reduceSub, Nat.reduceLeDiff, Nat.reduceLT, Nat.reduceGT, Nat.reduceEqDiff, Nat.reduceBEq, Int.reduceNeg, Int.reduceEq, Int.reduceLT, Int.reduceLE, Int.reduceBEq, Int.reduceToNat, Int.toNat_natCast, Int.natCast_zero, r32_T, r32, a2]
  rw [r32_B0_n]
  erw [hL]
  rcases Bool.eq_false_or_eq_true (e.pre.all fitsV) with g | g <;> rw [g] <;> simp (disch := omega) only [go_sem, and_self, and_true, true_and, false_and, and_false, Nat.reduceAdd, Nat.reduceMul, Nat.reduceSub, Nat.reduceLeDiff, Nat.reduceLT, Nat.reduceGT, Nat.reduceEqDiff, Nat.reduceBEq, Int.reduceNeg, Int.reduceEq, Int.reduceLT, Int.reduceLE, Int.reduceBEq, Int.reduceToNat, Int.toNat_natCast, Int.natCast_zero, xencs_len, e2, Bool.and_true, Bool.and_false]

theorem sameV_refl : ∀ (x : Xp), sameV x x = true := by
  have names : ∀ (l : List ByteArray), namesE l l = true := by
    intro l
    induction l with
    | nil => rfl
    | cons a l ih => simp [namesE, ih]
  have : ∀ (n : Nat) (x : Xp), SizeOf.sizeOf x ≤ n → sameV x x = true := by
    intro n
    induction n with
    | zero => intro x h; cases x; simp at h
    | succ n ih =>
      intro x h
      obtain ⟨o, t, p, k, c, s, ns, xs⟩ := x
      have hs : ∀ (l : List Xp), (∀ y ∈ l, SizeOf.sizeOf y ≤ n) → sameVs l l = true := by
        intro l
        induction l with
        | nil => intro _; simp [sameVs]
        | cons y l ihl => intro hy; simp [sameVs, ih y (hy y (by simp)), ihl fun z hz => hy z (by simp [hz])]
      simp [sameV, names, hs xs fun y hy => by have := List.sizeOf_lt_of_mem hy; simp at h; omega]
  exact fun x => this _ x (Nat.le_refl _)

theorem TreeIs_ok (a b : Xp) (ha : a.ok) (hb : b.ok) (hma0 : a.lim 1048576) (hmb : b.lim 1048576) (hp : List Ent) : F tab 7 [.d a.enc, .d b.enc] hp = some (.ret (.d (.bool true)) hp) := by
  have l1 : ∀ hp, F tab 19 [.d a.enc, .d (iv 590)] hp = _ := light_ok a ha 590 (by omega)
  have l2 : ∀ hp, F tab 19 [.d b.enc, .d (iv 590)] hp = _ := light_ok b hb 590 (by omega)
  have hma := lim_mono (show 1048576 ≤ 2097152 by omega) a hma0
  have i1 := is_ok a ha
  have i2 := fun h => ris_ok a ha hma h
  have s1 := tsame_ok a b ha hb
  have s2 := same_ok a b ha hb
  have s3 := tsame_ok a a ha ha
  unfold TSameIs at s1 s3
  unfold SameIs at s2
  rw [sameV_refl] at s3
  obtain ⟨_, _, _, _, _, _, _, _, ex⟩ := xenc_as a
  obtain ⟨_, _, _, _, _, _, _, _, ey⟩ := xenc_as b
  rw [ex] at l1 i1 i2 s3
  rw [ey] at l2
  rw [ex, ey] at s1 s2
  rw [ex, ey]
  refine f7 rfl ?_
  by_cases g : a.pre.length ≤ 590
  · have i2 := i2 g
    by_cases g2 : b.pre.length ≤ 590
    · simp (disch := omega) only [go_sem, and_self, and_true, true_and, false_and, and_false, Nat.reduceAdd, Nat.reduceMul, Nat.reduceSub, Nat.reduceLeDiff, Nat.reduceLT, Nat.reduceGT, Nat.reduceEqDiff, Nat.reduceBEq, Int.reduceNeg, Int.reduceEq, Int.reduceLT, Int.reduceLE, Int.reduceBEq, Int.reduceToNat, Int.toNat_natCast, Int.natCast_zero, r7_T, r7, l1, l2, g, g2, i1, i2, s1, s2, s3, decide_true, beq_self_eq_true, lives14_ok]
    · simp (disch := omega) only [go_sem, and_self, and_true, true_and, false_and, and_false, Nat.reduceAdd, Nat.reduceMul, Nat.reduceSub, Nat.reduceLeDiff, Nat.reduceLT, Nat.reduceGT, Nat.reduceEqDiff, Nat.reduceBEq, Int.reduceNeg, Int.reduceEq, Int.reduceLT, Int.reduceLE, Int.reduceBEq, Int.reduceToNat, Int.toNat_natCast, Int.natCast_zero, r7_T, r7, l1, l2, g, g2, decide_true, decide_false, lives14_ok]
  · simp (disch := omega) only [go_sem, and_self, and_true, true_and, false_and, and_false, Nat.reduceAdd, Nat.reduceMul, Nat.reduceSub, Nat.reduceLeDiff, Nat.reduceLT, Nat.reduceGT, Nat.reduceEqDiff, Nat.reduceBEq, Int.reduceNeg, Int.reduceEq, Int.reduceLT, Int.reduceLE, Int.reduceBEq, Int.reduceToNat, Int.toNat_natCast, Int.natCast_zero, r7_T, r7, l1, g, decide_false, lives14_ok]
end Go.Pe.T
