/- A part of the proof of: The names that there are anyway, and the number of any name with so many parts, are the document's. -/
import Derived.Test.YtfmcckohbjhbhaaSn1
import Derived.Test.YtfmcckohbjhbhaaPe3
import Derived.KernelRfl
set_option linter.unusedSimpArgs false
set_option linter.unusedVariables false
set_option maxRecDepth 10000

namespace Go.Pe.T
/-! ### the names that there are anyway -/
def namesL : List ByteArray := [⟨#[108, 101, 110, 103, 116, 104]⟩, ⟨#[107, 101, 121, 115]⟩, ⟨#[118, 97, 108, 117, 101, 115]⟩, ⟨#[116, 121, 112, 101]⟩, ⟨#[110, 111, 116]⟩, ⟨#[97, 100, 100]⟩, ⟨#[115, 111, 114, 116]⟩, ⟨#[117, 110, 105, 113, 117, 101]⟩, ⟨#[114, 101, 118, 101, 114, 115, 101]⟩, ⟨#[102, 105, 114, 115, 116]⟩, ⟨#[108, 97, 115, 116]⟩, ⟨#[108, 101, 97, 115, 116]⟩, ⟨#[109, 111, 115, 116]⟩, ⟨#[116, 111, 115, 116, 114, 105, 110, 103]⟩, ⟨#[116, 111, 110, 117, 109, 98, 101, 114]⟩, ⟨#[102, 108, 111, 111, 114]⟩, ⟨#[117, 112, 112, 101, 114]⟩, ⟨#[108, 111, 119, 101, 114]⟩, ⟨#[116, 114, 105, 109]⟩, ⟨#[104, 97, 115]⟩, ⟨#[101, 114, 114, 111, 114]⟩, ⟨#[106, 111, 105, 110]⟩, ⟨#[115, 112, 108, 105, 116]⟩, ⟨#[115, 116, 97, 114, 116, 115]⟩, ⟨#[101, 110, 100, 115]⟩, ⟨#[99, 111, 110, 116, 97, 105, 110, 115]⟩, ⟨#[116, 105, 109, 101, 115]⟩, ⟨#[102, 105, 110, 100]⟩, ⟨#[119, 105, 116, 104, 111, 117, 116]⟩, ⟨#[112, 117, 116]⟩, ⟨#[115, 108, 105, 99, 101]⟩]
theorem slives_ev : evF tab 100 14 [] [] = some (.ret (.d (.bool true)) []) := by kernel_rfl
theorem slives_ok (hp : List Ent) : F tab 14 [] hp = some (.ret (.d (.bool true)) hp) :=
  F_some.2 ⟨100, ((evF_nice (pf := pf) pf_ok 100).2 14 rfl _ _ _ _ slives_ev).2 hp⟩
theorem names_ev : evF tab 10 10 [] [] = some (.ret (.d (.sl (namesL.map D.str))) []) := by kernel_rfl
theorem names_ok (hp : List Ent) : F tab 10 [] hp = some (.ret (.d (.sl (namesL.map D.str))) hp) :=
  F_some.2 ⟨10, ((evF_nice (pf := pf) pf_ok 10).2 10 rfl _ _ _ _ names_ev).2 hp⟩
theorem rnames_ev : evF tab 10 11 [] [] = some (.ret (.d (.sl (namesL.map D.str))) []) := by kernel_rfl
theorem rnames_ok (hp : List Ent) : F tab 11 [] hp = some (.ret (.d (.sl (namesL.map D.str))) hp) :=
  F_some.2 ⟨10, ((evF_nice (pf := pf) pf_ok 10).2 11 rfl _ _ _ _ rnames_ev).2 hp⟩
def ptsN (i : Nat) : Int := if i < 19 then 0 else if i < 29 then 1 else 2
theorem parts_ok (i : Nat) (hp : List Ent) : F tab 33 [.d (iv i)] hp = some (.ret (.d (iv (ptsN i))) hp) := by
  refine f33 rfl ?_
  unfold ptsN
  by_cases h1 : i < 19
  · have k1 : ((i : Int) < 19) = True := eq_true (by omega)
    rw [if_pos h1]
    simp (disch := omega) only [go_sem, and_self, and_true, true_and, false_and, and_false, Nat.reduceAdd, Nat.reduceMul, Nat.reduceSub, Nat.reduceLeDiff, Nat.reduceLT, Nat.reduceGT, Nat.reduceEqDiff, Nat.reduceBEq, Int.reduceNeg, Int.reduceEq, Int.reduceLT, Int.reduceLE, Int.reduceBEq, Int.reduceToNat, Int.toNat_natCast, Int.natCast_zero, r33_T, r33, k1]
  · have k1 : ((i : Int) < 19) = False := eq_false (by omega)
    rw [if_neg h1]
    by_cases h2 : i < 29
    · have k2 : ((i : Int) < 29) = True := eq_true (by omega)
      rw [if_pos h2]
      simp (disch := omega) only [go_sem, and_self, and_true, true_and, false_and, and_false, Nat.reduceAdd, Nat.reduceMul, Nat.reduceSub, Nat.reduceLeDiff, Nat.reduceLT, Nat.reduceGT, Nat.reduceEqDiff, Nat.reduceBEq, Int.reduceNeg, Int.reduceEq, Int.reduceLT, Int.reduceLE, Int.reduceBEq, Int.reduceToNat, Int.toNat_natCast, Int.natCast_zero, r33_T, r33, k1, k2]
    · have k2 : ((i : Int) < 29) = False := eq_false (by omega)
      rw [if_neg h2]
      simp (disch := omega) only [go_sem, and_self, and_true, true_and, false_and, and_false, Nat.reduceAdd, Nat.reduceMul, Nat.reduceSub, Nat.reduceLeDiff, Nat.reduceLT, Nat.reduceGT, Nat.reduceEqDiff, Nat.reduceBEq, Int.reduceNeg, Int.reduceEq, Int.reduceLT, Int.reduceLE, Int.reduceBEq, Int.reduceToNat, Int.toNat_natCast, Int.natCast_zero, r33_T, r33, k1, k2]

def bfind (nm : ByteArray) (n : Int) : List ByteArray → Nat → Option Nat
  | [], _ => none
  | x :: xs, i => if x.toList == nm.toList && ptsN i == n then some i else bfind nm n xs (i + 1)
theorem strs_get {xs : List ByteArray} {i : Nat} {x : ByteArray} (h : xs[i]? = some x) : (xs.map D.str)[i]? = some (.str x) := by rw [List.getElem?_map, h]; rfl
theorem drop_get {α : Type} {xs : List α} {i : Nat} {x : α} {r : List α} (h : xs.drop i = x :: r) : i < xs.length ∧ xs[i]? = some x ∧ xs.drop (i + 1) = r := by
  have hi : i < xs.length := by
    apply Classical.byContradiction
    intro hc
    rw [List.drop_of_length_le (by omega)] at h
    simp at h
  rw [List.drop_eq_getElem_cons hi, List.cons.injEq] at h
  exact ⟨hi, by rw [List.getElem?_eq_getElem hi, h.1], h.2⟩
theorem drop_none {α : Type} {xs : List α} {i : Nat} (h : xs.drop i = []) (hi : i ≤ xs.length) : i = xs.length := by
  have := congrArg List.length h
  simp at this
  omega

/-! the program's -/
def bAns (o : Option Nat) : Option (Ex × St) := match o with
  | some i => some (.ret, r12_R (.d (iv (i : Nat))) (.d (.bool true)) [])
  | none => some (.norm, r12_E0 [])
def BlIs (nm : ByteArray) (n : Int) (xs r : List ByteArray) (i : Nat) : Prop :=
  V (F tab) r12_B0 (r12_S0 (.d (.str nm)) (.d (iv n)) (.d (.sl (xs.map D.str))) (.d (iv xs.length)) (.d (iv i)) []) = bAns (bfind nm n r i)
theorem bl_nil (nm : ByteArray) (n : Int) (xs : List ByteArray) : BlIs nm n xs [] xs.length := by
  have h1 : ((xs.length : Int) < (xs.length : Int)) = False := eq_false (by omega)
  unfold BlIs
  rw [r12_B0_eq]
  simp (disch := omega) only [go_sem, and_self, and_true, true_and, false_and, and_false, Nat.reduceAdd, Nat.reduceMul, Nat.reduceSub, Nat.reduceLeDiff, Nat.reduceLT, Nat.reduceGT, Nat.reduceEqDiff, Nat.reduceBEq, Int.reduceNeg, Int.reduceEq, Int.reduceLT, Int.reduceLE, Int.reduceBEq, Int.reduceToNat, Int.toNat_natCast, Int.natCast_zero, r12_C0, h1, bfind, bAns]
theorem bl_step (nm : ByteArray) (n : Int) (xs : List ByteArray) (x : ByteArray) (r : List ByteArray) (i : Nat) (hl : xs.length ≤ 1000) (hi : i < xs.length) (hx : xs[i]? = some x) (ih : BlIs nm n xs r (i + 1)) : BlIs nm n xs (x :: r) i := by
  have h1 : ((i : Int) < (xs.length : Int)) = True := eq_true (by omega)
  have i0 : (0 ≤ (i : Int)) = True := eq_true (by omega)
  have va := strs_get hx
  have e1 : (i : Int) + 1 = ((i + 1 : Nat) : Int) := rfl
  have hp := parts_ok i
  unfold BlIs at ih ⊢
  rw [bfind, r12_B0_eq]
  rcases Bool.eq_false_or_eq_true (x.toList == nm.toList) with g | g
  · rcases Bool.eq_false_or_eq_true (ptsN i == n) with g2 | g2
    · rw [g, g2]
      simp (disch := omega) only [go_sem, and_self, and_true, true_and, false_and, and_false, Nat.reduceAdd, Nat.reduceMul, Nat.reduceSub, Nat.reduceLeDiff, Nat.reduceLT, Nat.reduceGT, Nat.reduceEqDiff, Nat.reduceBEq, Int.reduceNeg, Int.reduceEq, Int.reduceLT, Int.reduceLE, Int.reduceBEq, Int.reduceToNat, Int.toNat_natCast, Int.natCast_zero, strD, r12_C0, h1, i0, va, g, hp, g2, bAns]
    · rw [g, g2, if_neg (by simp)]
      simp (disch := omega) only [go_sem, and_self, and_true, true_and, false_and, and_false, Nat.reduceAdd, Nat.reduceMul, Nat.reduceSub, Nat.reduceLeDiff, Nat.reduceLT, Nat.reduceGT, Nat.reduceEqDiff, Nat.reduceBEq, Int.reduceNeg, Int.reduceEq, Int.reduceLT, Int.reduceLE, Int.reduceBEq, Int.reduceToNat, Int.toNat_natCast, Int.natCast_zero, strD, r12_C0, h1, i0, va, g, hp, g2, e1, w64]
      exact ih
  · rw [g, if_neg (by simp)]
    simp (disch := omega) only [go_sem, and_self, and_true, true_and, false_and, and_false, Nat.reduceAdd, Nat.reduceMul, Nat.reduceSub, Nat.reduceLeDiff, Nat.reduceLT, Nat.reduceGT, Nat.reduceEqDiff, Nat.reduceBEq, Int.reduceNeg, Int.reduceEq, Int.reduceLT, Int.reduceLE, Int.reduceBEq, Int.reduceToNat, Int.toNat_natCast, Int.natCast_zero, strD, r12_C0, h1, i0, va, g, e1, w64]
    exact ih
theorem bl_loop (nm : ByteArray) (n : Int) (xs : List ByteArray) (hl : xs.length ≤ 1000) : ∀ (r : List ByteArray) (i : Nat), xs.drop i = r → i ≤ xs.length → BlIs nm n xs r i
  | [], i, h, hi => by
    obtain rfl := drop_none h hi
    exact bl_nil nm n xs
  | x :: r, i, h, hi => by
    obtain ⟨h1, h2, h3⟩ := drop_get h
    exact bl_step nm n xs x r i hl h1 h2 (bl_loop nm n xs hl r (i + 1) h3 (by omega))
theorem builtin_ok (nm : ByteArray) (n : Int) (hp : List Ent) : F tab 12 [.d (.str nm), .d (iv n)] hp = some (.ret (.tup [.d (iv ((bfind nm n namesL 0).getD 0 : Nat)), .d (.bool (bfind nm n namesL 0).isSome)]) hp) := by
  have hL := bl_loop nm n namesL (by decide) namesL 0 rfl (by omega)
  have hn := names_ok []
  have hll : namesL.length = 31 := by decide
  unfold BlIs at hL
  have z : ((0 : Nat) : Int) = 0 := rfl
  rw [z] at hL
  refine f12 rfl ?_
  generalize namesL = xs at *
  simp (disch := omega) only [go_sem, and_self, and_true, true_and, false_and, and_false, Nat.reduceAdd, Nat.reduceMul, Nat.reduceSub, Nat.reduceLeDiff, Nat.reduceLT, Nat.reduceGT, Nat.reduceEqDiff, Nat.reduceBEq, Int.reduceNeg, Int.reduceEq, Int.reduceLT, Int.reduceLE, Int.reduceBEq, Int.reduceToNat, Int.toNat_natCast, Int.natCast_zero, r12_T, r12, hn, List.length_map]
  rw [r12_B0_n]
  erw [hL]
  cases bfind nm n xs 0 with
  | none => simp (disch := omega) only [go_sem, and_self, and_true, true_and, false_and, and_false, Nat.reduceAdd, Nat.reduceMul, Nat.reduceSub, Nat.reduceLeDiff, Nat.reduceLT, Nat.reduceGT, Nat.reduceEqDiff, Nat.reduceBEq, Int.reduceNeg, Int.reduceEq, Int.reduceLT, Int.reduceLE, Int.reduceBEq, Int.reduceToNat, Int.toNat_natCast, Int.natCast_zero, bAns, Option.getD_none, Option.isSome_none]
  | some i => simp (disch := omega) only [go_sem, and_self, and_true, true_and, false_and, and_false, Nat.reduceAdd, Nat.reduceMul, Nat.reduceSub, Nat.reduceLeDiff, Nat.reduceLT, Nat.reduceGT, Nat.reduceEqDiff, Nat.reduceBEq, Int.reduceNeg, Int.reduceEq, Int.reduceLT, Int.reduceLE, Int.reduceBEq, Int.reduceToNat, Int.toNat_natCast, Int.natCast_zero, bAns, Option.getD_some, Option.isSome_some]

/-! the document's -/
def rAns (o : Option Nat) : Option (Ex × St) := match o with
  | some i => some (.ret, r13_R (.d (iv (i : Nat))) [])
  | none => some (.norm, r13_E0 [])
def RlIs (nm : ByteArray) (n : Int) (xs r : List ByteArray) (i : Nat) : Prop :=
  V (F tab) r13_B0 (r13_S0 (.d (.str nm)) (.d (iv n)) (.d (.sl (xs.map D.str))) (.d (iv i)) []) = rAns (bfind nm n r i)
theorem rl_nil (nm : ByteArray) (n : Int) (xs : List ByteArray) : RlIs nm n xs [] xs.length := by
  have h1 : ((xs.length : Int) < (xs.length : Int)) = False := eq_false (by omega)
  unfold RlIs
  rw [r13_B0_eq]
  simp (disch := omega) only [go_sem, and_self, and_true, true_and, false_and, and_false, Nat.reduceAdd, Nat.reduceMul, Nat.reduceSub, Nat.reduceLeDiff, Nat.reduceLT, Nat.reduceGT, Nat.reduceEqDiff, Nat.reduceBEq, Int.reduceNeg, Int.reduceEq, Int.reduceLT, Int.reduceLE, Int.reduceBEq, Int.reduceToNat, Int.toNat_natCast, Int.natCast_zero, r13_C0, h1, bfind, rAns, List.length_map]
set_option maxHeartbeats 1000000 in
theorem rl_step (nm : ByteArray) (n : Int) (xs : List ByteArray) (x : ByteArray) (r : List ByteArray) (i : Nat) (hl : xs.length ≤ 1000) (hi : i < xs.length) (hx : xs[i]? = some x) (ih : RlIs nm n xs r (i + 1)) : RlIs nm n xs (x :: r) i := by
  have h1 : ((i : Int) < (xs.length : Int)) = True := eq_true (by omega)
  have i0 : (0 ≤ (i : Int)) = True := eq_true (by omega)
  have va := strs_get hx
  have e1 : (i : Int) + 1 = ((i + 1 : Nat) : Int) := rfl
  unfold RlIs at ih ⊢
  rw [bfind, r13_B0_eq]
  by_cases h19 : i < 19
  · have k1 : ((i : Int) ≥ 19) = False := eq_false (by omega)
    have k2 : ((i : Int) ≥ 29) = False := eq_false (by omega)
    have hpt : ptsN i = 0 := by simp [ptsN, h19]
    rw [hpt]
    rcases Bool.eq_false_or_eq_true (x.toList == nm.toList) with g | g
    · rcases Bool.eq_false_or_eq_true ((0 : Int) == n) with g2 | g2
      · rw [g, g2]
        simp (disch := omega) only [go_sem, and_self, and_true, true_and, false_and, and_false, Nat.reduceAdd, Nat.reduceMul, Nat.reduceSub, Nat.reduceLeDiff, Nat.reduceLT, Nat.reduceGT, Nat.reduceEqDiff, Nat.reduceBEq, Int.reduceNeg, Int.reduceEq, Int.reduceLT, Int.reduceLE, Int.reduceBEq, Int.reduceToNat, Int.toNat_natCast, Int.natCast_zero, strD, r13_C0, h1, i0, va, g, k1, k2, g2, rAns, List.length_map]
      · rw [g, g2, if_neg (by simp)]
        simp (disch := omega) only [go_sem, and_self, and_true, true_and, false_and, and_false, Nat.reduceAdd, Nat.reduceMul, Nat.reduceSub, Nat.reduceLeDiff, Nat.reduceLT, Nat.reduceGT, Nat.reduceEqDiff, Nat.reduceBEq, Int.reduceNeg, Int.reduceEq, Int.reduceLT, Int.reduceLE, Int.reduceBEq, Int.reduceToNat, Int.toNat_natCast, Int.natCast_zero, strD, r13_C0, h1, i0, va, g, k1, k2, g2, e1, w64, List.length_map]
        exact ih
    · rw [g, if_neg (by simp)]
      simp (disch := omega) only [go_sem, and_self, and_true, true_and, false_and, and_false, Nat.reduceAdd, Nat.reduceMul, Nat.reduceSub, Nat.reduceLeDiff, Nat.reduceLT, Nat.reduceGT, Nat.reduceEqDiff, Nat.reduceBEq, Int.reduceNeg, Int.reduceEq, Int.reduceLT, Int.reduceLE, Int.reduceBEq, Int.reduceToNat, Int.toNat_natCast, Int.natCast_zero, strD, r13_C0, h1, i0, va, g, k1, k2, e1, w64, List.length_map]
      exact ih
  · by_cases h29 : i < 29
    · have k1 : ((i : Int) ≥ 19) = True := eq_true (by omega)
      have k2 : ((i : Int) ≥ 29) = False := eq_false (by omega)
      have hpt : ptsN i = 1 := by simp [ptsN, h19, h29]
      rw [hpt]
      rcases Bool.eq_false_or_eq_true (x.toList == nm.toList) with g | g
      · rcases Bool.eq_false_or_eq_true ((1 : Int) == n) with g2 | g2
        · rw [g, g2]
          simp (disch := omega) only [go_sem, and_self, and_true, true_and, false_and, and_false, Nat.reduceAdd, Nat.reduceMul, Nat.reduceSub, Nat.reduceLeDiff, Nat.reduceLT, Nat.reduceGT, Nat.reduceEqDiff, Nat.reduceBEq, Int.reduceNeg, Int.reduceEq, Int.reduceLT, Int.reduceLE, Int.reduceBEq, Int.reduceToNat, Int.toNat_natCast, Int.natCast_zero, strD, r13_C0, h1, i0, va, g, k1, k2, g2, rAns, List.length_map]
        · rw [g, g2, if_neg (by simp)]
          simp (disch := omega) only [go_sem, and_self, and_true, true_and, false_and, and_false, Nat.reduceAdd, Nat.reduceMul, Nat.reduceSub, Nat.reduceLeDiff, Nat.reduceLT, Nat.reduceGT, Nat.reduceEqDiff, Nat.reduceBEq, Int.reduceNeg, Int.reduceEq, Int.reduceLT, Int.reduceLE, Int.reduceBEq, Int.reduceToNat, Int.toNat_natCast, Int.natCast_zero, strD, r13_C0, h1, i0, va, g, k1, k2, g2, e1, w64, List.length_map]
          exact ih
      · rw [g, if_neg (by simp)]
        simp (disch := omega) only [go_sem, and_self, and_true, true_and, false_and, and_false, Nat.reduceAdd, Nat.reduceMul, Nat.reduceSub, Nat.reduceLeDiff, Nat.reduceLT, Nat.reduceGT, Nat.reduceEqDiff, Nat.reduceBEq, Int.reduceNeg, Int.reduceEq, Int.reduceLT, Int.reduceLE, Int.reduceBEq, Int.reduceToNat, Int.toNat_natCast, Int.natCast_zero, strD, r13_C0, h1, i0, va, g, k1, k2, e1, w64, List.length_map]
        exact ih
    · have k1 : ((i : Int) ≥ 19) = True := eq_true (by omega)
      have k2 : ((i : Int) ≥ 29) = True := eq_true (by omega)
      have hpt : ptsN i = 2 := by simp [ptsN, h19, h29]
      rw [hpt]
      rcases Bool.eq_false_or_eq_true (x.toList == nm.toList) with g | g
      · rcases Bool.eq_false_or_eq_true ((2 : Int) == n) with g2 | g2
        · rw [g, g2]
          simp (disch := omega) only [go_sem, and_self, and_true, true_and, false_and, and_false, Nat.reduceAdd, Nat.reduceMul, Nat.reduceSub, Nat.reduceLeDiff, Nat.reduceLT, Nat.reduceGT, Nat.reduceEqDiff, Nat.reduceBEq, Int.reduceNeg, Int.reduceEq, Int.reduceLT, Int.reduceLE, Int.reduceBEq, Int.reduceToNat, Int.toNat_natCast, Int.natCast_zero, strD, r13_C0, h1, i0, va, g, k1, k2, g2, rAns, List.length_map]
        · rw [g, g2, if_neg (by simp)]
          simp (disch := omega) only [go_sem, and_self, and_true, true_and, false_and, and_false, Nat.reduceAdd, Nat.reduceMul, Nat.reduceSub, Nat.reduceLeDiff, Nat.reduceLT, Nat.reduceGT, Nat.reduceEqDiff, Nat.reduceBEq, Int.reduceNeg, Int.reduceEq, Int.reduceLT, Int.reduceLE, Int.reduceBEq, Int.reduceToNat, Int.toNat_natCast, Int.natCast_zero, strD, r13_C0, h1, i0, va, g, k1, k2, g2, e1, w64, List.length_map]
          exact ih
      · rw [g, if_neg (by simp)]
        simp (disch := omega) only [go_sem, and_self, and_true, true_and, false_and, and_false, Nat.reduceAdd, Nat.reduceMul, Nat.reduceSub, Nat.reduceLeDiff, Nat.reduceLT, Nat.reduceGT, Nat.reduceEqDiff, Nat.reduceBEq, Int.reduceNeg, Int.reduceEq, Int.reduceLT, Int.reduceLE, Int.reduceBEq, Int.reduceToNat, Int.toNat_natCast, Int.natCast_zero, strD, r13_C0, h1, i0, va, g, k1, k2, e1, w64, List.length_map]
        exact ih
theorem rl_loop (nm : ByteArray) (n : Int) (xs : List ByteArray) (hl : xs.length ≤ 1000) : ∀ (r : List ByteArray) (i : Nat), xs.drop i = r → i ≤ xs.length → RlIs nm n xs r i
  | [], i, h, hi => by
    obtain rfl := drop_none h hi
    exact rl_nil nm n xs
  | x :: r, i, h, hi => by
    obtain ⟨h1, h2, h3⟩ := drop_get h
    exact rl_step nm n xs x r i hl h1 h2 (rl_loop nm n xs hl r (i + 1) h3 (by omega))
theorem rbuiltin_ok (nm : ByteArray) (n : Int) (hp : List Ent) : F tab 13 [.d (.str nm), .d (iv n)] hp = some (.ret (.d (iv (match bfind nm n namesL 0 with | some i => (i : Int) | none => -1))) hp) := by
  have hL := rl_loop nm n namesL (by decide) namesL 0 rfl (by omega)
  have hn := rnames_ok []
  unfold RlIs at hL
  have z : ((0 : Nat) : Int) = 0 := rfl
  rw [z] at hL
  refine f13 rfl ?_
  generalize namesL = xs at *
  simp (disch := omega) only [go_sem, and_self, and_true, true_and, false_and, and_false, Nat.reduceAdd, Nat.reduceMul, Nat.reduceSub, Nat.reduceLeDiff, Nat.reduceLT, Nat.reduceGT, Nat.reduceEqDiff, Nat.reduceBEq, Int.reduceNeg, Int.reduceEq, Int.reduceLT, Int.reduceLE, Int.reduceBEq, Int.reduceToNat, Int.toNat_natCast, Int.natCast_zero, r13_T, r13, hn]
  rw [r13_B0_n]
  erw [hL]
  cases bfind nm n xs 0 with
  | none => simp (disch := omega) only [go_sem, and_self, and_true, true_and, false_and, and_false, Nat.reduceAdd, Nat.reduceMul, Nat.reduceSub, Nat.reduceLeDiff, Nat.reduceLT, Nat.reduceGT, Nat.reduceEqDiff, Nat.reduceBEq, Int.reduceNeg, Int.reduceEq, Int.reduceLT, Int.reduceLE, Int.reduceBEq, Int.reduceToNat, Int.toNat_natCast, Int.natCast_zero, rAns]
  | some i => simp (disch := omega) only [go_sem, and_self, and_true, true_and, false_and, and_false, Nat.reduceAdd, Nat.reduceMul, Nat.reduceSub, Nat.reduceLeDiff, Nat.reduceLT, Nat.reduceGT, Nat.reduceEqDiff, Nat.reduceBEq, Int.reduceNeg, Int.reduceEq, Int.reduceLT, Int.reduceLE, Int.reduceBEq, Int.reduceToNat, Int.toNat_natCast, Int.natCast_zero, rAns]

/-! the law -/
def LwIs (s p : PV) (xs : List ByteArray) (i : Nat) : Prop :=
  V (F tab) r3_B0 (r3_S0 s p (.d (.sl (xs.map D.str))) (.d (.sl (xs.map D.str))) (.d (iv i)) []) = some (.norm, r3_E0 s p [])
theorem lw_end (s : ByteArray) (n : Int) (xs : List ByteArray) : LwIs (.d (.str s)) (.d (iv n)) xs xs.length := by
  have h1 : ((xs.length : Int) < (xs.length : Int)) = False := eq_false (by omega)
  unfold LwIs
  rw [r3_B0_eq]
  simp (disch := omega) only [go_sem, and_self, and_true, true_and, false_and, and_false, Nat.reduceAdd, Nat.reduceMul, Nat.reduceSub, Nat.reduceLeDiff, Nat.reduceLT, Nat.reduceGT, Nat.reduceEqDiff, Nat.reduceBEq, Int.reduceNeg, Int.reduceEq, Int.reduceLT, Int.reduceLE, Int.reduceBEq, Int.reduceToNat, Int.toNat_natCast, Int.natCast_zero, r3_C0, h1, List.length_map]
theorem lw_step (s : ByteArray) (n : Int) (xs : List ByteArray) (x : ByteArray) (i : Nat) (hl : xs.length ≤ 1000) (hi : i < xs.length) (hx : xs[i]? = some x) (ih : LwIs (.d (.str s)) (.d (iv n)) xs (i + 1)) : LwIs (.d (.str s)) (.d (iv n)) xs i := by
  have h1 : ((i : Int) < (xs.length : Int)) = True := eq_true (by omega)
  have i0 : (0 ≤ (i : Int)) = True := eq_true (by omega)
  have va := strs_get hx
  have e1 : (i : Int) + 1 = ((i + 1 : Nat) : Int) := rfl
  have q : (x.toList == x.toList) = true := by simp
  unfold LwIs at ih ⊢
  rw [r3_B0_eq]
  simp (disch := omega) only [go_sem, and_self, and_true, true_and, false_and, and_false, Nat.reduceAdd, Nat.reduceMul, Nat.reduceSub, Nat.reduceLeDiff, Nat.reduceLT, Nat.reduceGT, Nat.reduceEqDiff, Nat.reduceBEq, Int.reduceNeg, Int.reduceEq, Int.reduceLT, Int.reduceLE, Int.reduceBEq, Int.reduceToNat, Int.toNat_natCast, Int.natCast_zero, strD, r3_C0, h1, i0, va, q, e1, w64, List.length_map]
  exact ih
theorem lw_loop (s : ByteArray) (n : Int) (xs : List ByteArray) (hl : xs.length ≤ 1000) : ∀ (d i : Nat), i + d = xs.length → LwIs (.d (.str s)) (.d (iv n)) xs i
  | 0, i, h => by
    obtain rfl : i = xs.length := by omega
    exact lw_end s n xs
  | d + 1, i, h => lw_step s n xs xs[i] i hl (by omega) (List.getElem?_eq_getElem (by omega)) (lw_loop s n xs hl d (i + 1) (by omega))
set_option maxHeartbeats 1000000 in
theorem ScopeNames_ok (s : ByteArray) (n : Int) (hs : s.size ≤ maxLen) (hn : i64 n) (hp : List Ent) : F tab 3 [.d (.str s), .d (iv n)] hp = some (.ret (.d (.bool true)) hp) := by
  have hL := lw_loop s n namesL (by decide) 31 0 (by decide)
  have n1 := names_ok []
  have n2 := rnames_ok []
  have b1 := builtin_ok s n []
  have b2 := rbuiltin_ok s n []
  have hv := slives_ok []
  unfold LwIs at hL
  have z : ((0 : Nat) : Int) = 0 := rfl
  rw [z] at hL
  have q : ∀ k : Int, (k != k) = false := fun k => by simp
  have q2 : ∀ k : Int, (k == k) = true := fun k => by simp
  refine f3 rfl ?_
  generalize namesL = xs at *
  simp (disch := omega) only [go_sem, and_self, and_true, true_and, false_and, and_false, Nat.reduceAdd, Nat.reduceMul, Nat.reduceSub, Nat.reduceLeDiff, Nat.reduceLT, Nat.reduceGT, Nat.reduceEqDiff, Nat.reduceBEq, Int.reduceNeg, Int.reduceEq, Int.reduceLT, Int.reduceLE, Int.reduceBEq, Int.reduceToNat, Int.toNat_natCast, Int.natCast_zero, r3_T, r3, n1, n2, q, List.length_map]
  rw [r3_B0_n]
  erw [hL]
  cases hb : bfind s n xs 0 with
  | none =>
    rw [hb] at b1 b2
    have k : ((-1 : Int) ≥ 0) = False := eq_false (by omega)
    simp only [Option.getD_none, Option.isSome_none] at b1
    simp (disch := omega) only [go_sem, and_self, and_true, true_and, false_and, and_false, Nat.reduceAdd, Nat.reduceMul, Nat.reduceSub, Nat.reduceLeDiff, Nat.reduceLT, Nat.reduceGT, Nat.reduceEqDiff, Nat.reduceBEq, Int.reduceNeg, Int.reduceEq, Int.reduceLT, Int.reduceLE, Int.reduceBEq, Int.reduceToNat, Int.toNat_natCast, Int.natCast_zero, b1, b2, k, hv, q2, z]
  | some i =>
    rw [hb] at b1 b2
    have k : ((i : Int) ≥ 0) = True := eq_true (by omega)
    simp only [Option.getD_some, Option.isSome_some] at b1
    simp (disch := omega) only [go_sem, and_self, and_true, true_and, false_and, and_false, Nat.reduceAdd, Nat.reduceMul, Nat.reduceSub, Nat.reduceLeDiff, Nat.reduceLT, Nat.reduceGT, Nat.reduceEqDiff, Nat.reduceBEq, Int.reduceNeg, Int.reduceEq, Int.reduceLT, Int.reduceLE, Int.reduceBEq, Int.reduceToNat, Int.toNat_natCast, Int.natCast_zero, b1, b2, k, hv, q2]
end Go.Pe.T
