/- A part of the proof of: The law TreeParts holds: of whatever expression comes in, if it may be, each part may be and is smaller, and what a part uses the whole uses or binds, so the law returns true and leaves its argument as it was; there is no condition. -/
import Derived.Test.YtgcnokfehgcbiaaTp2
set_option linter.unusedSimpArgs false
set_option linter.unusedVariables false
set_option maxRecDepth 10000

namespace Go.Pe.T

/-! ### names that are used -/
def bnd (o : Int) (i : Nat) : Bool := (i : Int) == bindsV o

mutual
def usesV : Xp → List ByteArray → List ByteArray
  | .mk o t p k c s ns xs, b => (if o = 2 ∧ hasB b t = false then [t] else []) ++ usesVs o t b 0 xs
def usesVs (o : Int) (t : ByteArray) (b : List ByteArray) (i : Nat) : List Xp → List ByteArray
  | [] => []
  | x :: r => usesV x (if bnd o i then b ++ [t] else b) ++ usesVs o t b (i + 1) r
end
mutual
def varsV : Xp → List ByteArray → List ByteArray → List ByteArray
  | .mk o t p k c s ns xs, b, out => varsVs o t b 0 xs (if o = 2 ∧ hasB b t = false ∧ hasB out t = false then out ++ [t] else out)
def varsVs (o : Int) (t : ByteArray) (b : List ByteArray) (i : Nat) : List Xp → List ByteArray → List ByteArray
  | [], out => out
  | x :: r, out => varsVs o t b (i + 1) r (varsV x (if bnd o i then b ++ [t] else b) out)
end
/-- each once -/
def dd : List ByteArray → List ByteArray → List ByteArray
  | out, [] => out
  | out, u :: l => dd (if hasB out u then out else out ++ [u]) l
theorem dd_app : ∀ (a b out : List ByteArray), dd out (a ++ b) = dd (dd out a) b
  | [], b, out => rfl
  | x :: a, b, out => by simp only [List.cons_append, dd, dd_app a b]
mutual
theorem vars_dd : ∀ (x : Xp) (b out : List ByteArray), varsV x b out = dd out (usesV x b)
  | .mk o t p k c s ns xs, b, out => by
    rw [varsV, usesV, dd_app, ← varss_dd o t b 0 xs]
    congr 1
    by_cases h1 : o = 2 ∧ hasB b t = false
    · rw [if_pos h1]
      simp only [dd]
      rcases Bool.eq_false_or_eq_true (hasB out t) with g | g
      · rw [if_neg (by simp [g]), if_pos (by simp [g])]
      · rw [if_pos ⟨h1.1, h1.2, g⟩, if_neg (by simp [g])]
    · rw [if_neg h1, if_neg (fun h => h1 ⟨h.1, h.2.1⟩)]
      rfl
theorem varss_dd (o : Int) (t : ByteArray) (b : List ByteArray) (i : Nat) : ∀ (xs : List Xp) (out : List ByteArray), varsVs o t b i xs out = dd out (usesVs o t b i xs)
  | [], out => rfl
  | x :: r, out => by rw [varsVs, usesVs, dd_app, vars_dd x, varss_dd o t b (i + 1) r]
end
mutual
theorem uses_len : ∀ (x : Xp) (b : List ByteArray), (usesV x b).length ≤ x.pre.length
  | .mk o t p k c s ns xs, b => by
    have := usess_len o t b 0 xs
    simp only [usesV, Xp.pre, List.length_append, List.length_cons]
    split <;> simp <;> omega
theorem usess_len (o : Int) (t : ByteArray) (b : List ByteArray) (i : Nat) : ∀ (xs : List Xp), (usesVs o t b i xs).length ≤ (Xp.pres xs).length
  | [] => by simp [usesVs]
  | x :: r => by
    have h1 := uses_len x (if bnd o i then b ++ [t] else b)
    have h2 := usess_len o t b (i + 1) r
    simp only [usesVs, Xp.pres, List.length_append]
    omega
end
theorem dd_len : ∀ (l out : List ByteArray), (dd out l).length ≤ out.length + l.length
  | [], out => by simp [dd]
  | u :: l, out => by
    have h := dd_len l (if hasB out u then out else out ++ [u])
    have h2 : (if hasB out u then out else out ++ [u]).length ≤ out.length + 1 := by split <;> simp
    simp only [dd, List.length_cons]
    omega
theorem vars_len (x : Xp) (b out : List ByteArray) : (varsV x b out).length ≤ out.length + x.pre.length := by
  rw [vars_dd]
  have := dd_len (usesV x b) out
  have := uses_len x b
  omega

theorem strs_all (a : List ByteArray) : ((a.map D.str).all fun y => y.width == 1) = true := by
  simp [List.all_eq_true, D.width, D.cells]
theorem all1 (s : ByteArray) : ([D.str s].all fun y => y.width == 1) = true := rfl
theorem strs_app (a : List ByteArray) (s : ByteArray) : a.map D.str ++ [D.str s] = (a ++ [s]).map D.str := by simp

/-! ### the document's uses -/
def UsesIs (x : Xp) : Prop := ∀ (b : List ByteArray) (hp : List Ent), b.length + x.pre.length ≤ 1000 → F tab 28 [.d x.enc, .d (.sl (b.map .str))] hp = some (.ret (.d (.sl ((usesV x b).map .str))) hp)

def UsLoop (o : Int) (t : ByteArray) (p k c s : Int) (ns : List D) (xs : List Xp) (b : List ByteArray) (i : Nat) : Prop := ∀ (out : List ByteArray), out.length + (Xp.pres (xs.drop i)).length ≤ 1000 → b.length + (Xp.pres (xs.drop i)).length < 1000 →
    V (F tab) r28_B0 (r28_S0 (.d (.sl (b.map .str))) (.ibox [.d (iv o), .d (.str t), .d (iv p), .d (iv k), .d (iv c), .d (iv s), .d (.sl ns), .d (.sl (Xp.encs xs))]) (.own 9 (out.map .str)) (.d (iv i)) []) =
      some (.norm, r28_E0 (.own 9 ((out ++ usesVs o t b i (xs.drop i)).map .str)) [])

theorem us_end (o : Int) (t : ByteArray) (p k c s : Int) (ns : List D) (xs : List Xp) (b : List ByteArray) (i : Nat) (hi : xs.length ≤ i) : UsLoop o t p k c s ns xs b i := by
  intro out _ _
  have h1 : ((i : Int) < (xs.length : Int)) = False := eq_false (by omega)
  rw [r28_B0_eq, List.drop_of_length_le hi]
  simp (disch := omega) only [go_sem, and_self, and_true, true_and, false_and, and_false, Nat.reduceAdd, Nat.reduceMul, Nat.reduceSub, Nat.reduceLeDiff, Nat.reduceLT, Nat.reduceGT, Nat.reduceEqDiff, Nat.reduceBEq, Int.reduceNeg, Int.reduceEq, Int.reduceLT, Int.reduceLE, Int.reduceBEq, Int.reduceToNat, Int.toNat_natCast, Int.natCast_zero, r28_C0, h1, xencs_len, usesVs, List.append_nil]

theorem us_step_a (o : Int) (t : ByteArray) (p k c s : Int) (ns : List D) (xs : List Xp) (b : List ByteArray) (i : Nat) (hl : xs.length ≤ maxLen) (hi : i < xs.length) (hS : UsesIs xs[i]) (ih : UsLoop o t p k c s ns xs b (i + 1)) (e17 : (o == 17) = true) (ei1 : ((i : Int) == 1) = true) (hb : bnd o i = true) : UsLoop o t p k c s ns xs b i := by
  intro out ho hbl
  have hmx : maxLen = 9223372036854775807 := by decide
  rw [List.drop_eq_getElem_cons hi] at ho hbl ⊢
  simp only [Xp.pres, List.length_append] at ho hbl
  have hpos := pre_pos xs[i]
  have h1 : ((i : Int) < (xs.length : Int)) = True := eq_true (by omega)
  have hi0 : (0 ≤ (i : Int)) = True := eq_true (by omega)
  have va : (Xp.encs xs)[i]? = some (xs[i].enc) := by rw [xencs_get]; simp [hi]
  have hu := fun hp => hS (b ++ [t]) hp (by first | omega | (simp only [List.length_append, List.length_cons, List.length_nil]; omega))
  have hlen := uses_len xs[i] (b ++ [t])
  have ih := ih (out ++ usesV xs[i] (b ++ [t])) (by rw [List.length_append]; omega) (by omega)
  rw [Int.natCast_add, Int.natCast_one] at ih
  have r1 : ((0 + b.length) * 16 ≤ maxRow) = True := eq_true (by simp only [maxRow]; omega)
  have r2 : ((b.length + 1) * 16 ≤ maxRow) = True := eq_true (by simp only [maxRow]; omega)
  have r3 : ((out.length + (usesV xs[i] (b ++ [t])).length) * 16 ≤ maxRow) = True := eq_true (by simp only [maxRow]; omega)
  have fin : out.map D.str ++ (usesV xs[i] (b ++ [t])).map D.str = (out ++ usesV xs[i] (b ++ [t])).map D.str := (List.map_append ..).symm
  rw [r28_B0_eq]
  simp only [usesVs, hb, if_true, if_false, Bool.false_eq_true]
  rw [← List.append_assoc]
  simp (disch := omega) only [go_sem, and_self, and_true, true_and, false_and, and_false, Nat.reduceAdd, Nat.reduceMul, Nat.reduceSub, Nat.reduceLeDiff, Nat.reduceLT, Nat.reduceGT, Nat.reduceEqDiff, Nat.reduceBEq, Int.reduceNeg, Int.reduceEq, Int.reduceLT, Int.reduceLE, Int.reduceBEq, Int.reduceToNat, Int.toNat_natCast, Int.natCast_zero, r28_C0, h1, hi0, va, xenc_w, xenc_a, xencs_len, w64, List.length_map, e17, ei1, r1, r2, r3, strs_all, all1, strs_app, hu, fin, decide_true]
  exact ih

theorem us_step_b (o : Int) (t : ByteArray) (p k c s : Int) (ns : List D) (xs : List Xp) (b : List ByteArray) (i : Nat) (hl : xs.length ≤ maxLen) (hi : i < xs.length) (hS : UsesIs xs[i]) (ih : UsLoop o t p k c s ns xs b (i + 1)) (e17 : (o == 17) = true) (e13 : (o == 13) = false) (e14 : (o == 14) = false) (ei1 : ((i : Int) == 1) = false) (hb : bnd o i = false) : UsLoop o t p k c s ns xs b i := by
  intro out ho hbl
  have hmx : maxLen = 9223372036854775807 := by decide
  rw [List.drop_eq_getElem_cons hi] at ho hbl ⊢
  simp only [Xp.pres, List.length_append] at ho hbl
  have hpos := pre_pos xs[i]
  have h1 : ((i : Int) < (xs.length : Int)) = True := eq_true (by omega)
  have hi0 : (0 ≤ (i : Int)) = True := eq_true (by omega)
  have va : (Xp.encs xs)[i]? = some (xs[i].enc) := by rw [xencs_get]; simp [hi]
  have hu := fun hp => hS (b) hp (by first | omega | (simp only [List.length_append, List.length_cons, List.length_nil]; omega))
  have hlen := uses_len xs[i] (b)
  have ih := ih (out ++ usesV xs[i] (b)) (by rw [List.length_append]; omega) (by omega)
  rw [Int.natCast_add, Int.natCast_one] at ih
  have r1 : ((0 + b.length) * 16 ≤ maxRow) = True := eq_true (by simp only [maxRow]; omega)
  have r2 : ((b.length + 1) * 16 ≤ maxRow) = True := eq_true (by simp only [maxRow]; omega)
  have r3 : ((out.length + (usesV xs[i] (b)).length) * 16 ≤ maxRow) = True := eq_true (by simp only [maxRow]; omega)
  have fin : out.map D.str ++ (usesV xs[i] (b)).map D.str = (out ++ usesV xs[i] (b)).map D.str := (List.map_append ..).symm
  rw [r28_B0_eq]
  simp only [usesVs, hb, if_true, if_false, Bool.false_eq_true]
  rw [← List.append_assoc]
  simp (disch := omega) only [go_sem, and_self, and_true, true_and, false_and, and_false, Nat.reduceAdd, Nat.reduceMul, Nat.reduceSub, Nat.reduceLeDiff, Nat.reduceLT, Nat.reduceGT, Nat.reduceEqDiff, Nat.reduceBEq, Int.reduceNeg, Int.reduceEq, Int.reduceLT, Int.reduceLE, Int.reduceBEq, Int.reduceToNat, Int.toNat_natCast, Int.natCast_zero, r28_C0, h1, hi0, va, xenc_w, xenc_a, xencs_len, w64, List.length_map, e17, e13, e14, ei1, r1, r2, r3, strs_all, all1, strs_app, hu, fin, decide_true]
  exact ih

theorem us_step_c (o : Int) (t : ByteArray) (p k c s : Int) (ns : List D) (xs : List Xp) (b : List ByteArray) (i : Nat) (hl : xs.length ≤ maxLen) (hi : i < xs.length) (hS : UsesIs xs[i]) (ih : UsLoop o t p k c s ns xs b (i + 1)) (e17 : (o == 17) = false) (e13 : (o == 13) = true) (ei2 : ((i : Int) == 2) = true) (hb : bnd o i = true) : UsLoop o t p k c s ns xs b i := by
  intro out ho hbl
  have hmx : maxLen = 9223372036854775807 := by decide
  rw [List.drop_eq_getElem_cons hi] at ho hbl ⊢
  simp only [Xp.pres, List.length_append] at ho hbl
  have hpos := pre_pos xs[i]
  have h1 : ((i : Int) < (xs.length : Int)) = True := eq_true (by omega)
  have hi0 : (0 ≤ (i : Int)) = True := eq_true (by omega)
  have va : (Xp.encs xs)[i]? = some (xs[i].enc) := by rw [xencs_get]; simp [hi]
  have hu := fun hp => hS (b ++ [t]) hp (by first | omega | (simp only [List.length_append, List.length_cons, List.length_nil]; omega))
  have hlen := uses_len xs[i] (b ++ [t])
  have ih := ih (out ++ usesV xs[i] (b ++ [t])) (by rw [List.length_append]; omega) (by omega)
  rw [Int.natCast_add, Int.natCast_one] at ih
  have r1 : ((0 + b.length) * 16 ≤ maxRow) = True := eq_true (by simp only [maxRow]; omega)
  have r2 : ((b.length + 1) * 16 ≤ maxRow) = True := eq_true (by simp only [maxRow]; omega)
  have r3 : ((out.length + (usesV xs[i] (b ++ [t])).length) * 16 ≤ maxRow) = True := eq_true (by simp only [maxRow]; omega)
  have fin : out.map D.str ++ (usesV xs[i] (b ++ [t])).map D.str = (out ++ usesV xs[i] (b ++ [t])).map D.str := (List.map_append ..).symm
  rw [r28_B0_eq]
  simp only [usesVs, hb, if_true, if_false, Bool.false_eq_true]
  rw [← List.append_assoc]
  simp (disch := omega) only [go_sem, and_self, and_true, true_and, false_and, and_false, Nat.reduceAdd, Nat.reduceMul, Nat.reduceSub, Nat.reduceLeDiff, Nat.reduceLT, Nat.reduceGT, Nat.reduceEqDiff, Nat.reduceBEq, Int.reduceNeg, Int.reduceEq, Int.reduceLT, Int.reduceLE, Int.reduceBEq, Int.reduceToNat, Int.toNat_natCast, Int.natCast_zero, r28_C0, h1, hi0, va, xenc_w, xenc_a, xencs_len, w64, List.length_map, e17, e13, ei2, r1, r2, r3, strs_all, all1, strs_app, hu, fin, decide_true]
  exact ih

theorem us_step_d (o : Int) (t : ByteArray) (p k c s : Int) (ns : List D) (xs : List Xp) (b : List ByteArray) (i : Nat) (hl : xs.length ≤ maxLen) (hi : i < xs.length) (hS : UsesIs xs[i]) (ih : UsLoop o t p k c s ns xs b (i + 1)) (e17 : (o == 17) = false) (e13 : (o == 13) = true) (ei2 : ((i : Int) == 2) = false) (hb : bnd o i = false) : UsLoop o t p k c s ns xs b i := by
  intro out ho hbl
  have hmx : maxLen = 9223372036854775807 := by decide
  rw [List.drop_eq_getElem_cons hi] at ho hbl ⊢
  simp only [Xp.pres, List.length_append] at ho hbl
  have hpos := pre_pos xs[i]
  have h1 : ((i : Int) < (xs.length : Int)) = True := eq_true (by omega)
  have hi0 : (0 ≤ (i : Int)) = True := eq_true (by omega)
  have va : (Xp.encs xs)[i]? = some (xs[i].enc) := by rw [xencs_get]; simp [hi]
  have hu := fun hp => hS (b) hp (by first | omega | (simp only [List.length_append, List.length_cons, List.length_nil]; omega))
  have hlen := uses_len xs[i] (b)
  have ih := ih (out ++ usesV xs[i] (b)) (by rw [List.length_append]; omega) (by omega)
  rw [Int.natCast_add, Int.natCast_one] at ih
  have r1 : ((0 + b.length) * 16 ≤ maxRow) = True := eq_true (by simp only [maxRow]; omega)
  have r2 : ((b.length + 1) * 16 ≤ maxRow) = True := eq_true (by simp only [maxRow]; omega)
  have r3 : ((out.length + (usesV xs[i] (b)).length) * 16 ≤ maxRow) = True := eq_true (by simp only [maxRow]; omega)
  have fin : out.map D.str ++ (usesV xs[i] (b)).map D.str = (out ++ usesV xs[i] (b)).map D.str := (List.map_append ..).symm
  rw [r28_B0_eq]
  simp only [usesVs, hb, if_true, if_false, Bool.false_eq_true]
  rw [← List.append_assoc]
  simp (disch := omega) only [go_sem, and_self, and_true, true_and, false_and, and_false, Nat.reduceAdd, Nat.reduceMul, Nat.reduceSub, Nat.reduceLeDiff, Nat.reduceLT, Nat.reduceGT, Nat.reduceEqDiff, Nat.reduceBEq, Int.reduceNeg, Int.reduceEq, Int.reduceLT, Int.reduceLE, Int.reduceBEq, Int.reduceToNat, Int.toNat_natCast, Int.natCast_zero, r28_C0, h1, hi0, va, xenc_w, xenc_a, xencs_len, w64, List.length_map, e17, e13, ei2, r1, r2, r3, strs_all, all1, strs_app, hu, fin, decide_true]
  exact ih

theorem us_step_e (o : Int) (t : ByteArray) (p k c s : Int) (ns : List D) (xs : List Xp) (b : List ByteArray) (i : Nat) (hl : xs.length ≤ maxLen) (hi : i < xs.length) (hS : UsesIs xs[i]) (ih : UsLoop o t p k c s ns xs b (i + 1)) (e17 : (o == 17) = false) (e13 : (o == 13) = false) (e14 : (o == 14) = true) (ei2 : ((i : Int) == 2) = true) (hb : bnd o i = true) : UsLoop o t p k c s ns xs b i := by
  intro out ho hbl
  have hmx : maxLen = 9223372036854775807 := by decide
  rw [List.drop_eq_getElem_cons hi] at ho hbl ⊢
  simp only [Xp.pres, List.length_append] at ho hbl
  have hpos := pre_pos xs[i]
  have h1 : ((i : Int) < (xs.length : Int)) = True := eq_true (by omega)
  have hi0 : (0 ≤ (i : Int)) = True := eq_true (by omega)
  have va : (Xp.encs xs)[i]? = some (xs[i].enc) := by rw [xencs_get]; simp [hi]
  have hu := fun hp => hS (b ++ [t]) hp (by first | omega | (simp only [List.length_append, List.length_cons, List.length_nil]; omega))
  have hlen := uses_len xs[i] (b ++ [t])
  have ih := ih (out ++ usesV xs[i] (b ++ [t])) (by rw [List.length_append]; omega) (by omega)
  rw [Int.natCast_add, Int.natCast_one] at ih
  have r1 : ((0 + b.length) * 16 ≤ maxRow) = True := eq_true (by simp only [maxRow]; omega)
  have r2 : ((b.length + 1) * 16 ≤ maxRow) = True := eq_true (by simp only [maxRow]; omega)
  have r3 : ((out.length + (usesV xs[i] (b ++ [t])).length) * 16 ≤ maxRow) = True := eq_true (by simp only [maxRow]; omega)
  have fin : out.map D.str ++ (usesV xs[i] (b ++ [t])).map D.str = (out ++ usesV xs[i] (b ++ [t])).map D.str := (List.map_append ..).symm
  rw [r28_B0_eq]
  simp only [usesVs, hb, if_true, if_false, Bool.false_eq_true]
  rw [← List.append_assoc]
  simp (disch := omega) only [go_sem, and_self, and_true, true_and, false_and, and_false, Nat.reduceAdd, Nat.reduceMul, Nat.reduceSub, Nat.reduceLeDiff, Nat.reduceLT, Nat.reduceGT, Nat.reduceEqDiff, Nat.reduceBEq, Int.reduceNeg, Int.reduceEq, Int.reduceLT, Int.reduceLE, Int.reduceBEq, Int.reduceToNat, Int.toNat_natCast, Int.natCast_zero, r28_C0, h1, hi0, va, xenc_w, xenc_a, xencs_len, w64, List.length_map, e17, e13, e14, ei2, r1, r2, r3, strs_all, all1, strs_app, hu, fin, decide_true]
  exact ih

theorem us_step_f (o : Int) (t : ByteArray) (p k c s : Int) (ns : List D) (xs : List Xp) (b : List ByteArray) (i : Nat) (hl : xs.length ≤ maxLen) (hi : i < xs.length) (hS : UsesIs xs[i]) (ih : UsLoop o t p k c s ns xs b (i + 1)) (e17 : (o == 17) = false) (e13 : (o == 13) = false) (e14 : (o == 14) = true) (ei2 : ((i : Int) == 2) = false) (hb : bnd o i = false) : UsLoop o t p k c s ns xs b i := by
  intro out ho hbl
  have hmx : maxLen = 9223372036854775807 := by decide
  rw [List.drop_eq_getElem_cons hi] at ho hbl ⊢
  simp only [Xp.pres, List.length_append] at ho hbl
  have hpos := pre_pos xs[i]
  have h1 : ((i : Int) < (xs.length : Int)) = True := eq_true (by omega)
  have hi0 : (0 ≤ (i : Int)) = True := eq_true (by omega)
  have va : (Xp.encs xs)[i]? = some (xs[i].enc) := by rw [xencs_get]; simp [hi]
  have hu := fun hp => hS (b) hp (by first | omega | (simp only [List.length_append, List.length_cons, List.length_nil]; omega))
  have hlen := uses_len xs[i] (b)
  have ih := ih (out ++ usesV xs[i] (b)) (by rw [List.length_append]; omega) (by omega)
  rw [Int.natCast_add, Int.natCast_one] at ih
  have r1 : ((0 + b.length) * 16 ≤ maxRow) = True := eq_true (by simp only [maxRow]; omega)
  have r2 : ((b.length + 1) * 16 ≤ maxRow) = True := eq_true (by simp only [maxRow]; omega)
  have r3 : ((out.length + (usesV xs[i] (b)).length) * 16 ≤ maxRow) = True := eq_true (by simp only [maxRow]; omega)
  have fin : out.map D.str ++ (usesV xs[i] (b)).map D.str = (out ++ usesV xs[i] (b)).map D.str := (List.map_append ..).symm
  rw [r28_B0_eq]
  simp only [usesVs, hb, if_true, if_false, Bool.false_eq_true]
  rw [← List.append_assoc]
  simp (disch := omega) only [go_sem, and_self, and_true, true_and, false_and, and_false, Nat.reduceAdd, Nat.reduceMul, Nat.reduceSub, Nat.reduceLeDiff, Nat.reduceLT, Nat.reduceGT, Nat.reduceEqDiff, Nat.reduceBEq, Int.reduceNeg, Int.reduceEq, Int.reduceLT, Int.reduceLE, Int.reduceBEq, Int.reduceToNat, Int.toNat_natCast, Int.natCast_zero, r28_C0, h1, hi0, va, xenc_w, xenc_a, xencs_len, w64, List.length_map, e17, e13, e14, ei2, r1, r2, r3, strs_all, all1, strs_app, hu, fin, decide_true]
  exact ih

theorem us_step_g (o : Int) (t : ByteArray) (p k c s : Int) (ns : List D) (xs : List Xp) (b : List ByteArray) (i : Nat) (hl : xs.length ≤ maxLen) (hi : i < xs.length) (hS : UsesIs xs[i]) (ih : UsLoop o t p k c s ns xs b (i + 1)) (e17 : (o == 17) = false) (e13 : (o == 13) = false) (e14 : (o == 14) = false) (hb : bnd o i = false) : UsLoop o t p k c s ns xs b i := by
  intro out ho hbl
  have hmx : maxLen = 9223372036854775807 := by decide
  rw [List.drop_eq_getElem_cons hi] at ho hbl ⊢
  simp only [Xp.pres, List.length_append] at ho hbl
  have hpos := pre_pos xs[i]
  have h1 : ((i : Int) < (xs.length : Int)) = True := eq_true (by omega)
  have hi0 : (0 ≤ (i : Int)) = True := eq_true (by omega)
  have va : (Xp.encs xs)[i]? = some (xs[i].enc) := by rw [xencs_get]; simp [hi]
  have hu := fun hp => hS (b) hp (by first | omega | (simp only [List.length_append, List.length_cons, List.length_nil]; omega))
  have hlen := uses_len xs[i] (b)
  have ih := ih (out ++ usesV xs[i] (b)) (by rw [List.length_append]; omega) (by omega)
  rw [Int.natCast_add, Int.natCast_one] at ih
  have r1 : ((0 + b.length) * 16 ≤ maxRow) = True := eq_true (by simp only [maxRow]; omega)
  have r2 : ((b.length + 1) * 16 ≤ maxRow) = True := eq_true (by simp only [maxRow]; omega)
  have r3 : ((out.length + (usesV xs[i] (b)).length) * 16 ≤ maxRow) = True := eq_true (by simp only [maxRow]; omega)
  have fin : out.map D.str ++ (usesV xs[i] (b)).map D.str = (out ++ usesV xs[i] (b)).map D.str := (List.map_append ..).symm
  rw [r28_B0_eq]
  simp only [usesVs, hb, if_true, if_false, Bool.false_eq_true]
  rw [← List.append_assoc]
  simp (disch := omega) only [go_sem, and_self, and_true, true_and, false_and, and_false, Nat.reduceAdd, Nat.reduceMul, Nat.reduceSub, Nat.reduceLeDiff, Nat.reduceLT, Nat.reduceGT, Nat.reduceEqDiff, Nat.reduceBEq, Int.reduceNeg, Int.reduceEq, Int.reduceLT, Int.reduceLE, Int.reduceBEq, Int.reduceToNat, Int.toNat_natCast, Int.natCast_zero, r28_C0, h1, hi0, va, xenc_w, xenc_a, xencs_len, w64, List.length_map, e17, e13, e14, r1, r2, r3, strs_all, all1, strs_app, hu, fin, decide_true]
  exact ih

theorem us_step (o : Int) (t : ByteArray) (p k c s : Int) (ns : List D) (xs : List Xp) (b : List ByteArray) (i : Nat) (hl : xs.length ≤ maxLen) (hi : i < xs.length) (hS : UsesIs xs[i]) (ih : UsLoop o t p k c s ns xs b (i + 1)) : UsLoop o t p k c s ns xs b i := by
  have ff : ∀ {a b : Int}, ¬ a = b → (a == b) = false := fun h => by simpa using h
  have tt : ∀ {a b : Int}, a = b → (a == b) = true := fun h => by simpa using h
  by_cases c17 : o = 17
  · by_cases ci : (i : Int) = 1
    · exact us_step_a o t p k c s ns xs b i hl hi hS ih (tt c17) (tt ci) (by simp [bnd, bindsV, c17, ci])
    · exact us_step_b o t p k c s ns xs b i hl hi hS ih (tt c17) (ff (by omega)) (ff (by omega)) (ff ci) (by simp [bnd, bindsV, c17] <;> omega)
  · by_cases c13 : o = 13
    · by_cases ci : (i : Int) = 2
      · exact us_step_c o t p k c s ns xs b i hl hi hS ih (ff c17) (tt c13) (tt ci) (by simp [bnd, bindsV, c13, ci])
      · exact us_step_d o t p k c s ns xs b i hl hi hS ih (ff c17) (tt c13) (ff ci) (by simp [bnd, bindsV, c13] <;> omega)
    · by_cases c14 : o = 14
      · by_cases ci : (i : Int) = 2
        · exact us_step_e o t p k c s ns xs b i hl hi hS ih (ff c17) (ff c13) (tt c14) (tt ci) (by simp [bnd, bindsV, c14, ci])
        · exact us_step_f o t p k c s ns xs b i hl hi hS ih (ff c17) (ff c13) (tt c14) (ff ci) (by simp [bnd, bindsV, c14] <;> omega)
      · exact us_step_g o t p k c s ns xs b i hl hi hS ih (ff c17) (ff c13) (ff c14) (by simp [bnd, bindsV, c17, c13, c14] <;> omega)

theorem us_loop (o : Int) (t : ByteArray) (p k c s : Int) (ns : List D) (xs : List Xp) (b : List ByteArray) (hl : xs.length ≤ maxLen) (hS : ∀ x ∈ xs, UsesIs x) : ∀ (j i : Nat), i + j = xs.length → UsLoop o t p k c s ns xs b i
  | 0, i, hi => us_end o t p k c s ns xs b i (by omega)
  | j + 1, i, hi => us_step o t p k c s ns xs b i hl (by omega) (hS _ (List.getElem_mem _)) (us_loop o t p k c s ns xs b hl hS j (i + 1) (by omega))

theorem us_fn (o : Int) (t : ByteArray) (p k c s : Int) (ns : List ByteArray) (xs : List Xp) (hL : ∀ b, UsLoop o t p k c s (ns.map .str) xs b 0) : UsesIs (.mk o t p k c s ns xs) := by
  intro b hp hb
  have hmx : maxLen = 9223372036854775807 := by decide
  simp only [Xp.pre, List.length_cons] at hb
  have hh := has_ok b t (by omega)
  have hL := hL b
  unfold UsLoop at hL
  rw [List.drop_zero] at hL
  have r1 : ((0 + 1) * 16 ≤ maxRow) = True := eq_true (by simp only [maxRow]; omega)
  by_cases h2 : o = 2
  · have e2 : (o == 2) = true := by simp [h2]
    rcases Bool.eq_false_or_eq_true (hasB b t) with g | g
    · have hL := hL [] (by simp; omega) (by omega)
      refine f28 rfl ?_
      simp (disch := omega) only [go_sem, and_self, and_true, true_and, false_and, and_false, Nat.reduceAdd, Nat.reduceMul, Nat.reduceSub, Nat.reduceLeDiff, Nat.reduceLT, Nat.reduceGT, Nat.reduceEqDiff, Nat.reduceBEq, Int.reduceNeg, Int.reduceEq, Int.reduceLT, Int.reduceLE, Int.reduceBEq, Int.reduceToNat, Int.toNat_natCast, Int.natCast_zero, r28_T, r28, Xp.enc, e2, hh, g]
      rw [r28_B0_n, r28_B0_z5]
      erw [hL]
      have e : ¬ (o = 2 ∧ hasB b t = false) := by simp [g]
      simp only [go_sem, and_self, and_true, true_and, false_and, and_false, Nat.reduceAdd, Nat.reduceMul, Nat.reduceSub, Nat.reduceLeDiff, Nat.reduceLT, Nat.reduceGT, Nat.reduceEqDiff, Nat.reduceBEq, Int.reduceNeg, Int.reduceEq, Int.reduceLT, Int.reduceLE, Int.reduceBEq, Int.reduceToNat, Int.toNat_natCast, Int.natCast_zero, usesV, if_neg e, List.nil_append]
    · have hL := hL [t] (by simp; omega) (by omega)
      refine f28 rfl ?_
      simp (disch := omega) only [go_sem, and_self, and_true, true_and, false_and, and_false, Nat.reduceAdd, Nat.reduceMul, Nat.reduceSub, Nat.reduceLeDiff, Nat.reduceLT, Nat.reduceGT, Nat.reduceEqDiff, Nat.reduceBEq, Int.reduceNeg, Int.reduceEq, Int.reduceLT, Int.reduceLE, Int.reduceBEq, Int.reduceToNat, Int.toNat_natCast, Int.natCast_zero, r28_T, r28, Xp.enc, e2, hh, g, r1, all1, decide_true]
      rw [r28_B0_n]
      erw [hL]
      have e : o = 2 ∧ hasB b t = false := ⟨h2, g⟩
      simp only [go_sem, and_self, and_true, true_and, false_and, and_false, Nat.reduceAdd, Nat.reduceMul, Nat.reduceSub, Nat.reduceLeDiff, Nat.reduceLT, Nat.reduceGT, Nat.reduceEqDiff, Nat.reduceBEq, Int.reduceNeg, Int.reduceEq, Int.reduceLT, Int.reduceLE, Int.reduceBEq, Int.reduceToNat, Int.toNat_natCast, Int.natCast_zero, usesV, if_pos e]
  · have e2 : (o == 2) = false := by simp [h2]
    have hL := hL [] (by simp; omega) (by omega)
    refine f28 rfl ?_
    simp (disch := omega) only [go_sem, and_self, and_true, true_and, false_and, and_false, Nat.reduceAdd, Nat.reduceMul, Nat.reduceSub, Nat.reduceLeDiff, Nat.reduceLT, Nat.reduceGT, Nat.reduceEqDiff, Nat.reduceBEq, Int.reduceNeg, Int.reduceEq, Int.reduceLT, Int.reduceLE, Int.reduceBEq, Int.reduceToNat, Int.toNat_natCast, Int.natCast_zero, r28_T, r28, Xp.enc, e2]
    rw [r28_B0_n, r28_B0_z5]
    erw [hL]
    have e : ¬ (o = 2 ∧ hasB b t = false) := fun h => h2 h.1
    simp only [go_sem, and_self, and_true, true_and, false_and, and_false, Nat.reduceAdd, Nat.reduceMul, Nat.reduceSub, Nat.reduceLeDiff, Nat.reduceLT, Nat.reduceGT, Nat.reduceEqDiff, Nat.reduceBEq, Int.reduceNeg, Int.reduceEq, Int.reduceLT, Int.reduceLE, Int.reduceBEq, Int.reduceToNat, Int.toNat_natCast, Int.natCast_zero, usesV, if_neg e, List.nil_append]

theorem uses_ok : ∀ (x : Xp), x.ok → UsesIs x
  | .mk o t p k c s ns xs, h => by
    simp only [Xp.ok] at h
    exact us_fn o t p k c s ns xs fun b => us_loop o t p k c s _ xs b h.2.2.2.2.2.2.2.2.1 (fun x hx => uses_ok x (xoks_mem h.2.2.2.2.2.2.2.2.2 hx)) xs.length 0 (by omega)
end Go.Pe.T

namespace Go.Pe.T

/-! ### the program's names that are used -/
def ob : List ByteArray → PV
  | [] => .nilsl
  | u :: l => .own 9 ((u :: l).map .str)
abbrev seeC : List PV := [.ptr 0 0, .ptr 1 0]
abbrev seeH (out : List ByteArray) : List Ent := [.box [ob out], .box [.fn 60 [.ptr 0 0, .ptr 1 0]]]

def SeeIs (x : Xp) : Prop := ∀ (b out : List ByteArray), b.length + x.pre.length ≤ 1000 → out.length + x.pre.length ≤ 1000 →
  F tab 60 [.d x.enc, .d (.sl (b.map .str)), .ptr 0 0, .ptr 1 0] (seeH out) = some (.ret (.tup []) (seeH (varsV x b out)))

def SeeLoop (o : Int) (t : ByteArray) (p k c s : Int) (ns : List ByteArray) (xs : List Xp) (b : List ByteArray) (i : Nat) : Prop := ∀ (out : List ByteArray), out.length + (Xp.pres (xs.drop i)).length ≤ 1000 → b.length + (Xp.pres (xs.drop i)).length < 1000 →
    V (F tab) r60_B0 (r60_S0 (.d (.sl (b.map .str))) (.ptr 1 0) (.ibox [.d (iv o), .d (.str t), .d (iv p), .d (iv k), .d (iv c), .d (iv s), .d (.sl (ns.map .str)), .d (.sl (Xp.encs xs))]) (.d (.sl (Xp.encs xs))) (.d (iv xs.length)) (.d (iv i)) (seeH out)) =
      some (.norm, r60_E0 (seeH (varsVs o t b i (xs.drop i) out)))

theorem see_end (o : Int) (t : ByteArray) (p k c s : Int) (ns : List ByteArray) (xs : List Xp) (b : List ByteArray) (i : Nat) (hi : xs.length ≤ i) : SeeLoop o t p k c s ns xs b i := by
  intro out _ _
  have h1 : ((i : Int) < (xs.length : Int)) = False := eq_false (by omega)
  rw [r60_B0_eq, List.drop_of_length_le hi]
  simp (disch := omega) only [go_sem, and_self, and_true, true_and, false_and, and_false, Nat.reduceAdd, Nat.reduceMul, Nat.reduceSub, Nat.reduceLeDiff, Nat.reduceLT, Nat.reduceGT, Nat.reduceEqDiff, Nat.reduceBEq, Int.reduceNeg, Int.reduceEq, Int.reduceLT, Int.reduceLE, Int.reduceBEq, Int.reduceToNat, Int.toNat_natCast, Int.natCast_zero, r60_C0, h1, xencs_len, varsVs]

theorem see_step (o : Int) (t : ByteArray) (p k c s : Int) (ns : List ByteArray) (xs : List Xp) (b : List ByteArray) (i : Nat) (hl : xs.length ≤ maxLen) (hi : i < xs.length) (hS : SeeIs xs[i]) (ih : SeeLoop o t p k c s ns xs b (i + 1)) : SeeLoop o t p k c s ns xs b i := by
  intro out ho hbl
  have hmx : maxLen = 9223372036854775807 := by decide
  rw [List.drop_eq_getElem_cons hi] at ho hbl ⊢
  simp only [Xp.pres, List.length_append] at ho hbl
  have hpos := pre_pos xs[i]
  have h1 : ((i : Int) < (xs.length : Int)) = True := eq_true (by omega)
  have hi0 : (0 ≤ (i : Int)) = True := eq_true (by omega)
  have va : (Xp.encs xs)[i]? = some (xs[i].enc) := by rw [xencs_get]; simp [hi]
  have hbi := binds_ok (.mk o t p k c s ns xs) o _ rfl
  simp only [Xp.enc] at hbi
  have hcl : ∀ hp, F tab 63 [.d (.sl (b.map .str))] hp = some (.ret (.own 9 (b.map .str)) hp) := fun hp => f63 (by
    simp only [rowOk, List.length_map, List.length_nil, maxRow, strs_all, Bool.and_true, decide_eq_true_eq]; omega)
  have hlen := vars_len xs[i]
  have r2 : ((b.length + 1) * 16 ≤ maxRow) = True := eq_true (by simp only [maxRow]; omega)
  obtain ⟨o', t', p', k', c', s', ns', ys, ex⟩ := xenc_as xs[i]
  unfold SeeIs at hS
  rw [ex] at hS va
  simp only [varsVs]
  rcases Bool.eq_false_or_eq_true (bnd o i) with g | g
  · have g' : ((i : Int) == bindsV o) = true := g
    have hS := hS (b ++ [t]) out (by simp only [List.length_append, List.length_cons, List.length_nil]; omega) (by omega)
    have hlen := hlen (b ++ [t]) out
    have ih := ih (varsV xs[i] (b ++ [t]) out) (by omega) (by omega)
    rw [Int.natCast_add, Int.natCast_one] at ih
    rw [r60_B0_eq, g]
    simp (disch := omega) only [go_sem, and_self, and_true, true_and, false_and, and_false, Nat.reduceAdd, Nat.reduceMul, Nat.reduceSub, Nat.reduceLeDiff, Nat.reduceLT, Nat.reduceGT, Nat.reduceEqDiff, Nat.reduceBEq, Int.reduceNeg, Int.reduceEq, Int.reduceLT, Int.reduceLE, Int.reduceBEq, Int.reduceToNat, Int.toNat_natCast, Int.natCast_zero, r60_C0, h1, hi0, va, xencs_len, w64, List.length_map, hbi, g', hcl, r2, all1, strs_app, decide_true, hS]
    exact ih
  · have g' : ((i : Int) == bindsV o) = false := g
    have hS := hS b out (by omega) (by omega)
    have hlen := hlen b out
    have ih := ih (varsV xs[i] b out) (by omega) (by omega)
    rw [Int.natCast_add, Int.natCast_one] at ih
    rw [r60_B0_eq, g]
    simp (disch := omega) only [go_sem, and_self, and_true, true_and, false_and, and_false, Nat.reduceAdd, Nat.reduceMul, Nat.reduceSub, Nat.reduceLeDiff, Nat.reduceLT, Nat.reduceGT, Nat.reduceEqDiff, Nat.reduceBEq, Int.reduceNeg, Int.reduceEq, Int.reduceLT, Int.reduceLE, Int.reduceBEq, Int.reduceToNat, Int.toNat_natCast, Int.natCast_zero, r60_C0, h1, hi0, va, xencs_len, w64, List.length_map, hbi, g', decide_true, hS]
    exact ih

theorem see_loop (o : Int) (t : ByteArray) (p k c s : Int) (ns : List ByteArray) (xs : List Xp) (b : List ByteArray) (hl : xs.length ≤ maxLen) (hS : ∀ x ∈ xs, SeeIs x) : ∀ (j i : Nat), i + j = xs.length → SeeLoop o t p k c s ns xs b i
  | 0, i, hi => see_end o t p k c s ns xs b i (by omega)
  | j + 1, i, hi => see_step o t p k c s ns xs b i hl (by omega) (hS _ (List.getElem_mem _)) (see_loop o t p k c s ns xs b hl hS j (i + 1) (by omega))

theorem see_fn (o : Int) (t : ByteArray) (p k c s : Int) (ns : List ByteArray) (xs : List Xp) (hL : ∀ b, SeeLoop o t p k c s ns xs b 0) : SeeIs (.mk o t p k c s ns xs) := by
  intro b out hb ho
  have hmx : maxLen = 9223372036854775807 := by decide
  simp only [Xp.pre, List.length_cons] at hb ho
  have hh := con_ok b t (by omega)
  have hL := hL b
  unfold SeeLoop at hL
  rw [List.drop_zero] at hL
  by_cases h2 : o = 2
  · have e2 : (o == 2) = true := by simp [h2]
    rcases Bool.eq_false_or_eq_true (hasB b t) with g | g
    · have hL := hL out (by omega) (by omega)
      refine f60 ?_
      simp (disch := omega) only [go_sem, and_self, and_true, true_and, false_and, and_false, Nat.reduceAdd, Nat.reduceMul, Nat.reduceSub, Nat.reduceLeDiff, Nat.reduceLT, Nat.reduceGT, Nat.reduceEqDiff, Nat.reduceBEq, Int.reduceNeg, Int.reduceEq, Int.reduceLT, Int.reduceLE, Int.reduceBEq, Int.reduceToNat, Int.toNat_natCast, Int.natCast_zero, r60_T, r60, Xp.enc, e2, hh, g, xencs_len]
      rw [r60_B0_n]
      erw [hL]
      have e : ¬ (o = 2 ∧ hasB b t = false ∧ hasB out t = false) := by simp [g]
      simp only [go_sem, and_self, and_true, true_and, false_and, and_false, Nat.reduceAdd, Nat.reduceMul, Nat.reduceSub, Nat.reduceLeDiff, Nat.reduceLT, Nat.reduceGT, Nat.reduceEqDiff, Nat.reduceBEq, Int.reduceNeg, Int.reduceEq, Int.reduceLT, Int.reduceLE, Int.reduceBEq, Int.reduceToNat, Int.toNat_natCast, Int.natCast_zero, varsV, if_neg e]
    · cases out with
      | nil =>
        have hL := hL [t] (by simp; omega) (by omega)
        have r1 : ((0 + 1) * 16 ≤ maxRow) = True := eq_true (by simp only [maxRow]; omega)
        refine f60 ?_
        simp (disch := omega) only [go_sem, and_self, and_true, true_and, false_and, and_false, Nat.reduceAdd, Nat.reduceMul, Nat.reduceSub, Nat.reduceLeDiff, Nat.reduceLT, Nat.reduceGT, Nat.reduceEqDiff, Nat.reduceBEq, Int.reduceNeg, Int.reduceEq, Int.reduceLT, Int.reduceLE, Int.reduceBEq, Int.reduceToNat, Int.toNat_natCast, Int.natCast_zero, r60_T, r60, Xp.enc, e2, hh, g, xencs_len, ob, con_nil, r1, all1, decide_true]
        rw [r60_B0_n]
        erw [hL]
        have e : o = 2 ∧ hasB b t = false ∧ hasB [] t = false := ⟨h2, g, rfl⟩
        simp only [go_sem, and_self, and_true, true_and, false_and, and_false, Nat.reduceAdd, Nat.reduceMul, Nat.reduceSub, Nat.reduceLeDiff, Nat.reduceLT, Nat.reduceGT, Nat.reduceEqDiff, Nat.reduceBEq, Int.reduceNeg, Int.reduceEq, Int.reduceLT, Int.reduceLE, Int.reduceBEq, Int.reduceToNat, Int.toNat_natCast, Int.natCast_zero, varsV, if_pos e, List.nil_append]
      | cons u out =>
        have hh2 := con_ok (u :: out) t (by simp only [List.length_cons] at ho ⊢; omega)
        simp only [List.map_cons] at hh2
        rcases Bool.eq_false_or_eq_true (hasB (u :: out) t) with g2 | g2
        · have hL := hL (u :: out) (by omega) (by omega)
          refine f60 ?_
          simp (disch := omega) only [go_sem, and_self, and_true, true_and, false_and, and_false, Nat.reduceAdd, Nat.reduceMul, Nat.reduceSub, Nat.reduceLeDiff, Nat.reduceLT, Nat.reduceGT, Nat.reduceEqDiff, Nat.reduceBEq, Int.reduceNeg, Int.reduceEq, Int.reduceLT, Int.reduceLE, Int.reduceBEq, Int.reduceToNat, Int.toNat_natCast, Int.natCast_zero, r60_T, r60, Xp.enc, e2, hh, hh2, g, g2, xencs_len, ob]
          rw [r60_B0_n]
          erw [hL]
          have e : ¬ (o = 2 ∧ hasB b t = false ∧ hasB (u :: out) t = false) := by simp [g2]
          simp only [go_sem, and_self, and_true, true_and, false_and, and_false, Nat.reduceAdd, Nat.reduceMul, Nat.reduceSub, Nat.reduceLeDiff, Nat.reduceLT, Nat.reduceGT, Nat.reduceEqDiff, Nat.reduceBEq, Int.reduceNeg, Int.reduceEq, Int.reduceLT, Int.reduceLE, Int.reduceBEq, Int.reduceToNat, Int.toNat_natCast, Int.natCast_zero, varsV, if_neg e]
        · have hL := hL (u :: out ++ [t]) (by simp at ho ⊢; omega) (by omega)
          have r1 : ((out.length + 1 + 1) * 16 ≤ maxRow) = True := eq_true (by simp only [maxRow, List.length_cons] at *; omega)
          refine f60 ?_
          simp (disch := omega) only [go_sem, and_self, and_true, true_and, false_and, and_false, Nat.reduceAdd, Nat.reduceMul, Nat.reduceSub, Nat.reduceLeDiff, Nat.reduceLT, Nat.reduceGT, Nat.reduceEqDiff, Nat.reduceBEq, Int.reduceNeg, Int.reduceEq, Int.reduceLT, Int.reduceLE, Int.reduceBEq, Int.reduceToNat, Int.toNat_natCast, Int.natCast_zero, r60_T, r60, Xp.enc, e2, hh, hh2, g, g2, xencs_len, ob, r1, all1, decide_true, List.length_cons, List.length_map]
          rw [r60_B0_n]
          simp only [seeH, List.cons_append, ob, List.map_cons, List.map_append, List.map_nil] at hL
          erw [hL]
          have e : o = 2 ∧ hasB b t = false ∧ hasB (u :: out) t = false := ⟨h2, g, g2⟩
          simp only [go_sem, and_self, and_true, true_and, false_and, and_false, Nat.reduceAdd, Nat.reduceMul, Nat.reduceSub, Nat.reduceLeDiff, Nat.reduceLT, Nat.reduceGT, Nat.reduceEqDiff, Nat.reduceBEq, Int.reduceNeg, Int.reduceEq, Int.reduceLT, Int.reduceLE, Int.reduceBEq, Int.reduceToNat, Int.toNat_natCast, Int.natCast_zero, varsV, if_pos e]
          rfl
  · have e2 : (o == 2) = false := by simp [h2]
    have hL := hL out (by omega) (by omega)
    refine f60 ?_
    simp (disch := omega) only [go_sem, and_self, and_true, true_and, false_and, and_false, Nat.reduceAdd, Nat.reduceMul, Nat.reduceSub, Nat.reduceLeDiff, Nat.reduceLT, Nat.reduceGT, Nat.reduceEqDiff, Nat.reduceBEq, Int.reduceNeg, Int.reduceEq, Int.reduceLT, Int.reduceLE, Int.reduceBEq, Int.reduceToNat, Int.toNat_natCast, Int.natCast_zero, r60_T, r60, Xp.enc, e2, xencs_len]
    rw [r60_B0_n]
    erw [hL]
    have e : ¬ (o = 2 ∧ hasB b t = false ∧ hasB out t = false) := fun h => h2 h.1
    simp only [go_sem, and_self, and_true, true_and, false_and, and_false, Nat.reduceAdd, Nat.reduceMul, Nat.reduceSub, Nat.reduceLeDiff, Nat.reduceLT, Nat.reduceGT, Nat.reduceEqDiff, Nat.reduceBEq, Int.reduceNeg, Int.reduceEq, Int.reduceLT, Int.reduceLE, Int.reduceBEq, Int.reduceToNat, Int.toNat_natCast, Int.natCast_zero, varsV, if_neg e]

theorem see_ok : ∀ (x : Xp), x.ok → SeeIs x
  | .mk o t p k c s ns xs, h => by
    simp only [Xp.ok] at h
    exact see_fn o t p k c s ns xs fun b => see_loop o t p k c s _ xs b h.2.2.2.2.2.2.2.2.1 (fun x hx => see_ok x (xoks_mem h.2.2.2.2.2.2.2.2.2 hx)) xs.length 0 (by omega)

def vrs : List ByteArray → PV
  | [] => .nilsl
  | u :: l => .d (.sl ((u :: l).map .str))
theorem vrs_demote (l : List ByteArray) : (vrs l).demote = .d (.sl (l.map .str)) := by cases l <;> rfl

theorem vars_ok (x : Xp) (hx : x.ok) (hl : x.pre.length ≤ 900) (hp : List Ent) : F tab 30 [.d x.enc] hp = some (.ret (vrs (varsV x [] [])) hp) := by
  have hs := see_ok x hx [] [] (by simp; omega) (by simp; omega)
  simp only [seeH, ob, List.map_nil] at hs
  obtain ⟨o, t, p, k, c, s, ns, ys, ex⟩ := xenc_as x
  rw [ex] at hs ⊢
  refine f30 rfl ?_
  cases hv : varsV x [] [] with
  | nil =>
    rw [hv] at hs
    simp (disch := omega) only [go_sem, and_self, and_true, true_and, false_and, and_false, Nat.reduceAdd, Nat.reduceMul, Nat.reduceSub, Nat.reduceLeDiff, Nat.reduceLT, Nat.reduceGT, Nat.reduceEqDiff, Nat.reduceBEq, Int.reduceNeg, Int.reduceEq, Int.reduceLT, Int.reduceLE, Int.reduceBEq, Int.reduceToNat, Int.toNat_natCast, Int.natCast_zero, r30_T, r30, hs, ob, vrs]
  | cons u l =>
    rw [hv] at hs
    simp (disch := omega) only [go_sem, and_self, and_true, true_and, false_and, and_false, Nat.reduceAdd, Nat.reduceMul, Nat.reduceSub, Nat.reduceLeDiff, Nat.reduceLT, Nat.reduceGT, Nat.reduceEqDiff, Nat.reduceBEq, Int.reduceNeg, Int.reduceEq, Int.reduceLT, Int.reduceLE, Int.reduceBEq, Int.reduceToNat, Int.toNat_natCast, Int.natCast_zero, r30_T, r30, hs, ob, vrs, List.map_cons]
end Go.Pe.T

namespace Go.Pe.T

/-! ### TreeParts -/
theorem hasB_app (a b : List ByteArray) (u : ByteArray) : hasB (a ++ b) u = (hasB a u || hasB b u) := by simp [hasB]
theorem hasB_dd : ∀ (l out : List ByteArray) (u : ByteArray), hasB (dd out l) u = (hasB out u || hasB l u)
  | [], out, u => by simp [dd, hasB]
  | x :: l, out, u => by
    rw [dd, hasB_dd l]
    have e : hasB (x :: l) u = ((x.toList == u.toList) || hasB l u) := rfl
    rw [e]
    rcases Bool.eq_false_or_eq_true (hasB out x) with g | g
    · rw [if_pos g]
      rcases Bool.eq_false_or_eq_true (x.toList == u.toList) with g2 | g2
      · have : hasB out u = true := by
          have e2 : x.toList = u.toList := by simpa using g2
          simp only [hasB] at g ⊢
          rw [← e2]; exact g
        rw [this, g2]; simp
      · rw [g2]; simp
    · rw [if_neg (by simp [g]), hasB_app]
      have : hasB [x] u = (x.toList == u.toList) := by simp [hasB]
      rw [this, Bool.or_assoc]

mutual
theorem uses_more (t : ByteArray) : ∀ (x : Xp) (b b' : List ByteArray), (∀ u, hasB b' u = true → hasB b u = true ∨ (u.toList == t.toList) = true) →
    ∀ u, hasB (usesV x b) u = true → hasB (usesV x b') u = true ∨ (u.toList == t.toList) = true
  | .mk o t0 p k c s ns xs, b, b', h, u, hu => by
    rw [usesV, hasB_app, Bool.or_eq_true] at hu
    rw [usesV, hasB_app, Bool.or_eq_true]
    rcases hu with hu | hu
    · by_cases h1 : o = 2 ∧ hasB b t0 = false
      · rw [if_pos h1] at hu
        have e : (t0.toList == u.toList) = true := by simpa [hasB] using hu
        rcases Bool.eq_false_or_eq_true (hasB b' t0) with g | g
        · rcases h t0 g with g2 | g2
          · rw [h1.2] at g2; cases g2
          · right
            have e1 : t0.toList = u.toList := by simpa using e
            rw [← e1]; exact g2
        · left; left
          rw [if_pos ⟨h1.1, g⟩]
          simpa [hasB] using e
      · rw [if_neg h1] at hu
        simp [hasB] at hu
    · rcases usess_more t o t0 xs b b' h 0 u hu with h1 | h1
      · exact .inl (.inr h1)
      · exact .inr h1
theorem usess_more (t : ByteArray) (o : Int) (t0 : ByteArray) : ∀ (xs : List Xp) (b b' : List ByteArray), (∀ u, hasB b' u = true → hasB b u = true ∨ (u.toList == t.toList) = true) →
    ∀ (i : Nat) u, hasB (usesVs o t0 b i xs) u = true → hasB (usesVs o t0 b' i xs) u = true ∨ (u.toList == t.toList) = true
  | [], b, b', h, i, u, hu => by simp [usesVs, hasB] at hu
  | x :: r, b, b', h, i, u, hu => by
    rw [usesVs, hasB_app, Bool.or_eq_true] at hu
    rw [usesVs, hasB_app, Bool.or_eq_true]
    rcases hu with hu | hu
    · have h2 : ∀ u, hasB (if bnd o i then b' ++ [t0] else b') u = true → hasB (if bnd o i then b ++ [t0] else b) u = true ∨ (u.toList == t.toList) = true := by
        intro u hu
        split at hu
        · rename_i g
          rw [if_pos g, hasB_app]
          rw [hasB_app, Bool.or_eq_true] at hu
          rcases hu with hu | hu
          · rcases h u hu with h3 | h3
            · exact .inl (by rw [h3, Bool.true_or])
            · exact .inr h3
          · exact .inl (by rw [hu, Bool.or_true])
        · rename_i g
          rw [if_neg g]
          exact h u hu
      rcases uses_more t x _ _ h2 u hu with h3 | h3
      · exact .inl (.inl h3)
      · exact .inr h3
    · rcases usess_more t o t0 r b b' h (i + 1) u hu with h3 | h3
      · exact .inl (.inr h3)
      · exact .inr h3
end

theorem usess_sub (t : ByteArray) (o : Int) (b : List ByteArray) : ∀ (xs : List Xp) (i : Nat) (x : Xp), x ∈ xs → ∃ b', (b' = b ∨ b' = b ++ [t]) ∧ ∀ u, hasB (usesV x b') u = true → hasB (usesVs o t b i xs) u = true
  | y :: r, i, x, hx => by
    rcases List.mem_cons.1 hx with rfl | hx
    · refine ⟨if bnd o i then b ++ [t] else b, by split <;> simp, fun u hu => ?_⟩
      rw [usesVs, hasB_app, hu, Bool.true_or]
    · obtain ⟨b', h1, h2⟩ := usess_sub t o b r (i + 1) x hx
      exact ⟨b', h1, fun u hu => by rw [usesVs, hasB_app, h2 u hu, Bool.or_true]⟩

/-- what a part uses, the whole uses, or binds -/
theorem vars_sub (o : Int) (t : ByteArray) (p k c s : Int) (ns : List ByteArray) (xs : List Xp) (x : Xp) (hx : x ∈ xs) (u : ByteArray) (hu : hasB (varsV x [] []) u = true) :
    hasB (varsV (.mk o t p k c s ns xs) [] []) u = true ∨ (u.toList == t.toList) = true := by
  rw [vars_dd, hasB_dd] at hu ⊢
  have hu : hasB (usesV x []) u = true := by simpa [hasB] using hu
  obtain ⟨b', h1, h2⟩ := usess_sub t o [] xs 0 x hx
  have h3 : ∀ u, hasB b' u = true → hasB [] u = true ∨ (u.toList == t.toList) = true := by
    intro u hu
    rcases h1 with rfl | rfl
    · simp [hasB] at hu
    · right
      have : (t.toList == u.toList) = true := by simpa [hasB] using hu
      rw [BEq.comm]; exact this
  rcases uses_more t x [] b' h3 u hu with h4 | h4
  · left
    rw [usesV, hasB_app, h2 u h4]
    simp
  · exact .inr h4

theorem pre_sub (o : Int) (t : ByteArray) (p k c s : Int) (ns : List ByteArray) (xs : List Xp) (x : Xp) (hx : x ∈ xs) : x.pre.length ≤ (Xp.mk o t p k c s ns xs).pre.length ∧ ∀ y ∈ x.pre, y ∈ (Xp.mk o t p k c s ns xs).pre := by
  have key : ∀ (xs : List Xp), x ∈ xs → x.pre.length ≤ (Xp.pres xs).length ∧ ∀ y ∈ x.pre, y ∈ Xp.pres xs := by
    intro xs
    induction xs with
    | nil => intro h; cases h
    | cons z r ih =>
      intro h
      simp only [Xp.pres, List.length_append, List.mem_append]
      rcases List.mem_cons.1 h with rfl | h
      · exact ⟨by omega, fun y hy => .inl hy⟩
      · obtain ⟨h1, h2⟩ := ih h
        exact ⟨by omega, fun y hy => .inr (h2 y hy)⟩
  obtain ⟨h1, h2⟩ := key xs hx
  simp only [Xp.pre, List.length_cons, List.mem_cons]
  exact ⟨by omega, fun y hy => .inr (h2 y hy)⟩
theorem is_sub (o : Int) (t : ByteArray) (p k c s : Int) (ns : List ByteArray) (xs : List Xp) (x : Xp) (hx : x ∈ xs) (h : isV (.mk o t p k c s ns xs) = true) : isV x = true := by
  obtain ⟨h1, h2⟩ := pre_sub o t p k c s ns xs x hx
  simp only [isV, Bool.and_eq_true, decide_eq_true_eq, List.all_eq_true] at h ⊢
  exact ⟨by omega, fun y hy => h.2 y (h2 y hy)⟩

abbrev bxE (o : Int) (t : ByteArray) (p k c s : Int) (ns : List ByteArray) (xs : List Xp) : PV := .ibox [.d (iv o), .d (.str t), .d (iv p), .d (iv k), .d (iv c), .d (iv s), .d (.sl (ns.map .str)), .d (.sl (Xp.encs xs))]

def InLoop (o : Int) (t : ByteArray) (p k c s : Int) (ns : List ByteArray) (xs : List Xp) (n i : Int) (w v : List ByteArray) (j : Nat) : Prop :=
  V (F tab) r6_B1 (r6_S1 (bxE o t p k c s ns xs) (.d (iv n)) (.d (.sl (w.map .str))) (.d (iv i)) (.d (.sl (v.map .str))) (.d (iv j)) []) =
    some (.norm, r6_E1 (bxE o t p k c s ns xs) (.d (iv n)) (.d (.sl (w.map .str))) (.d (iv i)) [])
theorem in_end (o : Int) (t : ByteArray) (p k c s : Int) (ns : List ByteArray) (xs : List Xp) (n i : Int) (w v : List ByteArray) (j : Nat) (hj : v.length ≤ j) : InLoop o t p k c s ns xs n i w v j := by
  have h1 : ((j : Int) < (v.length : Int)) = False := eq_false (by omega)
  unfold InLoop
  rw [r6_B1_eq]
  simp (disch := omega) only [go_sem, and_self, and_true, true_and, false_and, and_false, Nat.reduceAdd, Nat.reduceMul, Nat.reduceSub, Nat.reduceLeDiff, Nat.reduceLT, Nat.reduceGT, Nat.reduceEqDiff, Nat.reduceBEq, Int.reduceNeg, Int.reduceEq, Int.reduceLT, Int.reduceLE, Int.reduceBEq, Int.reduceToNat, Int.toNat_natCast, Int.natCast_zero, r6_C1, h1, List.length_map]
theorem in_step (o : Int) (t : ByteArray) (p k c s : Int) (ns : List ByteArray) (xs : List Xp) (n i : Int) (w v : List ByteArray) (hw : w.length ≤ maxLen) (hv : v.length ≤ maxLen) (j : Nat) (hj : j < v.length)
    (hok : hasB w v[j] = true ∨ (v[j].toList == t.toList) = true) (ih : InLoop o t p k c s ns xs n i w v (j + 1)) : InLoop o t p k c s ns xs n i w v j := by
  have hmx : maxLen = 9223372036854775807 := by decide
  have h1 : ((j : Int) < (v.length : Int)) = True := eq_true (by omega)
  have hj0 : (0 ≤ (j : Int)) = True := eq_true (by omega)
  have va : (v.map D.str)[j]? = some (.str v[j]) := by simp [hj]
  have hh := has_ok w v[j] hw
  unfold InLoop at ih ⊢
  rw [Int.natCast_add, Int.natCast_one] at ih
  rw [r6_B1_eq]
  rcases Bool.eq_false_or_eq_true (hasB w v[j]) with g | g
  · simp (disch := omega) only [go_sem, and_self, and_true, true_and, false_and, and_false, Nat.reduceAdd, Nat.reduceMul, Nat.reduceSub, Nat.reduceLeDiff, Nat.reduceLT, Nat.reduceGT, Nat.reduceEqDiff, Nat.reduceBEq, Int.reduceNeg, Int.reduceEq, Int.reduceLT, Int.reduceLE, Int.reduceBEq, Int.reduceToNat, Int.toNat_natCast, Int.natCast_zero, r6_C1, h1, hj0, va, List.length_map, hh, g, w64]
    exact ih
  · have g2 : (v[j].toList == t.toList) = true := hok.resolve_left (by simp [g])
    simp (disch := omega) only [go_sem, and_self, and_true, true_and, false_and, and_false, Nat.reduceAdd, Nat.reduceMul, Nat.reduceSub, Nat.reduceLeDiff, Nat.reduceLT, Nat.reduceGT, Nat.reduceEqDiff, Nat.reduceBEq, Int.reduceNeg, Int.reduceEq, Int.reduceLT, Int.reduceLE, Int.reduceBEq, Int.reduceToNat, Int.toNat_natCast, Int.natCast_zero, r6_C1, h1, hj0, va, List.length_map, hh, g, g2, strD_neq, w64]
    exact ih
theorem in_loop (o : Int) (t : ByteArray) (p k c s : Int) (ns : List ByteArray) (xs : List Xp) (n i : Int) (w v : List ByteArray) (hw : w.length ≤ maxLen) (hv : v.length ≤ maxLen)
    (hok : ∀ u ∈ v, hasB w u = true ∨ (u.toList == t.toList) = true) : ∀ (m j : Nat), j + m = v.length → InLoop o t p k c s ns xs n i w v j
  | 0, j, hj => in_end o t p k c s ns xs n i w v j (by omega)
  | m + 1, j, hj => in_step o t p k c s ns xs n i w v hw hv j (by omega) (hok _ (List.getElem_mem _)) (in_loop o t p k c s ns xs n i w v hw hv hok m (j + 1) (by omega))

def OutLoop (o : Int) (t : ByteArray) (p k c s : Int) (ns : List ByteArray) (xs : List Xp) (w : List ByteArray) (i : Nat) (n : Int) : Prop :=
  V (F tab) r6_B0 (r6_S0 (bxE o t p k c s ns xs) (.d (iv n)) (.d (.sl (w.map .str))) (.d (iv i)) []) =
    some (.norm, r6_E0 (bxE o t p k c s ns xs) (.d (iv (n + ((Xp.pres (xs.drop i)).length : Int)))) [])
theorem out_end (o : Int) (t : ByteArray) (p k c s : Int) (ns : List ByteArray) (xs : List Xp) (w : List ByteArray) (i : Nat) (n : Int) (hi : xs.length ≤ i) : OutLoop o t p k c s ns xs w i n := by
  have h1 : ((i : Int) < (xs.length : Int)) = False := eq_false (by omega)
  have e : n + ((Xp.pres (xs.drop i)).length : Int) = n := by rw [List.drop_of_length_le hi]; simp [Xp.pres]
  unfold OutLoop
  rw [r6_B0_eq, e]
  simp (disch := omega) only [go_sem, and_self, and_true, true_and, false_and, and_false, Nat.reduceAdd, Nat.reduceMul, Nat.reduceSub, Nat.reduceLeDiff, Nat.reduceLT, Nat.reduceGT, Nat.reduceEqDiff, Nat.reduceBEq, Int.reduceNeg, Int.reduceEq, Int.reduceLT, Int.reduceLE, Int.reduceBEq, Int.reduceToNat, Int.toNat_natCast, Int.natCast_zero, r6_C0, h1, xencs_len]
theorem out_step (o : Int) (t : ByteArray) (p k c s : Int) (ns : List ByteArray) (xs : List Xp) (w : List ByteArray) (hw : w.length ≤ maxLen) (hl : xs.length ≤ maxLen) (i : Nat) (n : Int) (hi : i < xs.length) (h0 : 0 ≤ n) (h5 : n ≤ 5000) (hx : xs[i].ok) (h6 : xs[i].pre.length ≤ 800)
    (his : isV xs[i] = true) (hok : ∀ u ∈ varsV xs[i] [] [], hasB w u = true ∨ (u.toList == t.toList) = true) (ih : OutLoop o t p k c s ns xs w (i + 1) (n + (xs[i].pre.length : Int))) : OutLoop o t p k c s ns xs w i n := by
  have hmx : maxLen = 9223372036854775807 := by decide
  have h1 : ((i : Int) < (xs.length : Int)) = True := eq_true (by omega)
  have hi0 : (0 ≤ (i : Int)) = True := eq_true (by omega)
  have va : (Xp.encs xs)[i]? = some (xs[i].enc) := by rw [xencs_get]; simp [hi]
  have a1 := is_ok xs[i] hx
  rw [his] at a1
  have a2 := size_ok xs[i] hx 1000 (by omega)
  have e2 : sizeV xs[i] 1000 = (xs[i].pre.length : Int) := by unfold sizeV; omega
  rw [e2] at a2
  have a3 := vars_ok xs[i] hx (by omega)
  have hvl := vars_len xs[i] [] []
  rw [List.length_nil] at hvl
  have hL := in_loop o t p k c s ns xs (n + (xs[i].pre.length : Int)) i w (varsV xs[i] [] []) hw (by omega) hok _ 0 (Nat.zero_add _)
  unfold InLoop at hL
  unfold OutLoop at ih ⊢
  rw [Int.natCast_add, Int.natCast_one] at ih
  have e3 : n + (xs[i].pre.length : Int) + ((Xp.pres (xs.drop (i + 1))).length : Int) = n + ((Xp.pres (xs.drop i)).length : Int) := by
    rw [List.drop_eq_getElem_cons hi, Xp.pres, List.length_append]
    omega
  rw [e3] at ih
  obtain ⟨o', t', p', k', c', s', ns', ys, ex⟩ := xenc_as xs[i]
  rw [ex] at va a1 a2 a3
  rw [r6_B0_eq]
  simp (disch := omega) only [go_sem, and_self, and_true, true_and, false_and, and_false, Nat.reduceAdd, Nat.reduceMul, Nat.reduceSub, Nat.reduceLeDiff, Nat.reduceLT, Nat.reduceGT, Nat.reduceEqDiff, Nat.reduceBEq, Int.reduceNeg, Int.reduceEq, Int.reduceLT, Int.reduceLE, Int.reduceBEq, Int.reduceToNat, Int.toNat_natCast, Int.natCast_zero, r6_C0, h1, hi0, va, xencs_len, a1, a2, a3, vrs_demote, w64]
  rw [r6_B1_n]
  erw [hL]
  simp (disch := omega) only [go_sem, and_self, and_true, true_and, false_and, and_false, Nat.reduceAdd, Nat.reduceMul, Nat.reduceSub, Nat.reduceLeDiff, Nat.reduceLT, Nat.reduceGT, Nat.reduceEqDiff, Nat.reduceBEq, Int.reduceNeg, Int.reduceEq, Int.reduceLT, Int.reduceLE, Int.reduceBEq, Int.reduceToNat, Int.toNat_natCast, Int.natCast_zero, w64]
  exact ih
theorem out_loop (o : Int) (t : ByteArray) (p k c s : Int) (ns : List ByteArray) (xs : List Xp) (w : List ByteArray) (hw : w.length ≤ maxLen) (hl : xs.length ≤ maxLen)
    (H : ∀ x ∈ xs, x.ok ∧ isV x = true ∧ ∀ u ∈ varsV x [] [], hasB w u = true ∨ (u.toList == t.toList) = true) : ∀ (m i : Nat) (n : Int), i + m = xs.length → 0 ≤ n → n + ((Xp.pres (xs.drop i)).length : Int) ≤ 800 → OutLoop o t p k c s ns xs w i n
  | 0, i, n, hi, h0, h5 => out_end o t p k c s ns xs w i n (by omega)
  | m + 1, i, n, hi, h0, h5 => by
    have hlt : i < xs.length := by omega
    obtain ⟨h1, h2, h3⟩ := H xs[i] (List.getElem_mem hlt)
    rw [List.drop_eq_getElem_cons hlt, Xp.pres, List.length_append] at h5
    exact out_step o t p k c s ns xs w hw hl i n hlt h0 (by omega) h1 (by omega) h2 h3 (out_loop o t p k c s ns xs w hw hl H m (i + 1) _ (by omega) (by omega) (by omega))

theorem TreeParts_ok (e : Xp) (he : e.ok) (hp : List Ent) : F tab 6 [.d e.enc] hp = some (.ret (.d (.bool true)) hp) := by
  have hmx : maxLen = 9223372036854775807 := by decide
  have a1 : ∀ hp, F tab 19 [.d e.enc, .d (iv 590)] hp = _ := light_ok e he 590 (by omega)
  have a2 := is_ok e he
  have a3 := vars_ok e he
  have a4 := size_ok e he 1000 (by omega)
  have hvl := vars_len e [] []
  rw [List.length_nil] at hvl
  obtain ⟨o, t, p, k, c, s, ns, xs⟩ := e
  simp only [Xp.ok] at he
  by_cases g : (Xp.mk o t p k c s ns xs).pre.length ≤ 590
  · have a3 := a3 (by omega)
    have e4 : sizeV (.mk o t p k c s ns xs) 1000 = 1 + ((Xp.pres xs).length : Int) := by
      unfold sizeV; simp only [Xp.pre, List.length_cons] at g ⊢; omega
    rw [e4] at a4
    rcases Bool.eq_false_or_eq_true (isV (.mk o t p k c s ns xs)) with g2 | g2
    · have hL := out_loop o t p k c s ns xs (varsV (.mk o t p k c s ns xs) [] []) (by omega) he.2.2.2.2.2.2.2.2.1
        (fun x hx => ⟨xoks_mem he.2.2.2.2.2.2.2.2.2 hx, is_sub o t p k c s ns xs x hx g2, fun u hu => vars_sub o t p k c s ns xs x hx u (by
          simp only [hasB, List.any_eq_true]; exact ⟨u, hu, by simp⟩)⟩) xs.length 0 1 (by omega) (by omega) (by simp only [Xp.pre, List.length_cons, List.drop_zero] at g ⊢; omega)
      unfold OutLoop at hL
      rw [List.drop_zero] at hL
      simp only [Xp.enc] at a1 a2 a3 a4 ⊢
      refine f6 rfl ?_
      simp (disch := omega) only [go_sem, and_self, and_true, true_and, false_and, and_false, Nat.reduceAdd, Nat.reduceMul, Nat.reduceSub, Nat.reduceLeDiff, Nat.reduceLT, Nat.reduceGT, Nat.reduceEqDiff, Nat.reduceBEq, Int.reduceNeg, Int.reduceEq, Int.reduceLT, Int.reduceLE, Int.reduceBEq, Int.reduceToNat, Int.toNat_natCast, Int.natCast_zero, r6_T, r6, a1, a2, a3, g, g2, decide_true, vrs_demote]
      rw [r6_B0_n]
      erw [hL]
      simp (disch := omega) only [go_sem, and_self, and_true, true_and, false_and, and_false, Nat.reduceAdd, Nat.reduceMul, Nat.reduceSub, Nat.reduceLeDiff, Nat.reduceLT, Nat.reduceGT, Nat.reduceEqDiff, Nat.reduceBEq, Int.reduceNeg, Int.reduceEq, Int.reduceLT, Int.reduceLE, Int.reduceBEq, Int.reduceToNat, Int.toNat_natCast, Int.natCast_zero, a4, lives14_ok, beq_self_eq_true]
    · simp only [Xp.enc] at a1 a2 a3 a4 ⊢
      refine f6 rfl ?_
      simp (disch := omega) only [go_sem, and_self, and_true, true_and, false_and, and_false, Nat.reduceAdd, Nat.reduceMul, Nat.reduceSub, Nat.reduceLeDiff, Nat.reduceLT, Nat.reduceGT, Nat.reduceEqDiff, Nat.reduceBEq, Int.reduceNeg, Int.reduceEq, Int.reduceLT, Int.reduceLE, Int.reduceBEq, Int.reduceToNat, Int.toNat_natCast, Int.natCast_zero, r6_T, r6, a1, a2, g, g2, decide_true, lives14_ok]
  · simp only [Xp.enc] at a1 a2 a3 a4 ⊢
    refine f6 rfl ?_
    simp (disch := omega) only [go_sem, and_self, and_true, true_and, false_and, and_false, Nat.reduceAdd, Nat.reduceMul, Nat.reduceSub, Nat.reduceLeDiff, Nat.reduceLT, Nat.reduceGT, Nat.reduceEqDiff, Nat.reduceBEq, Int.reduceNeg, Int.reduceEq, Int.reduceLT, Int.reduceLE, Int.reduceBEq, Int.reduceToNat, Int.toNat_natCast, Int.natCast_zero, r6_T, r6, a1, g, decide_false, lives14_ok]
end Go.Pe.T
