/- A part of the proof of: For every text q and every row of bytes b: LexBlanks(q, b) is true, and it ends without a panic. -/
import Derived.Test.YtgcpkhhopjhpiaaDoorLb3
set_option linter.unusedSimpArgs false
set_option linter.unusedVariables false
set_option maxRecDepth 10000
set_option maxRecDepth 100000

namespace Go.Pe.T
def dotAt (L : List UInt8) (i : Nat) : Bool := match L[i]? with | some c => c == 46 | none => false
def eAt (L : List UInt8) (i : Nat) : Bool := match L[i]? with | some c => isE c | none => false
def pmAt (L : List UInt8) (i : Nat) : Bool := match L[i]? with | some c => c == 43 || c == 45 | none => false
def lg0 (L : List UInt8) (i j : Nat) : Nat := if dgN L j = 0 then i else j + dgN L j
def lg2 (L : List UInt8) (i : Nat) : Nat := lg0 L i (if pmAt L (i + 1) then i + 2 else i + 1)
def lg3 (L : List UInt8) (i : Nat) : Nat := if eAt L i then lg2 L i else i
def lg4 (L : List UInt8) : Nat := if dotAt L (dgN L 0) && decide (0 < dgN L (dgN L 0 + 1)) then dgN L 0 + (1 + dgN L (dgN L 0 + 1)) else dgN L 0
def lngN (L : List UInt8) : Nat := lg3 L (lg4 L)
theorem lg4_le (L : List UInt8) : lg4 L ≤ L.length := by
  have h1 := dgN_le L 0
  have h2 := dgN_le L (dgN L 0 + 1)
  unfold lg4
  split
  · rename_i h
    simp only [Bool.and_eq_true, decide_eq_true_eq] at h
    omega
  · omega
theorem eAt_lt {L : List UInt8} {i : Nat} (h : eAt L i = true) : i < L.length := by
  unfold eAt at h
  split at h
  · rename_i c hc; exact (List.getElem?_eq_some_iff.1 hc).1
  · simp at h
theorem pmAt_lt {L : List UInt8} {i : Nat} (h : pmAt L i = true) : i < L.length := by
  unfold pmAt at h
  split at h
  · rename_i c hc; exact (List.getElem?_eq_some_iff.1 hc).1
  · simp at h
theorem lg0_le {L : List UInt8} {i j : Nat} (hi : i ≤ L.length) (hj : j ≤ L.length) : lg0 L i j ≤ L.length := by
  have := dgN_le L j
  unfold lg0
  split <;> omega
theorem lng_le (L : List UInt8) : lngN L ≤ L.length := by
  have h1 := lg4_le L
  unfold lngN lg3
  split
  · rename_i h
    have h2 := eAt_lt h
    unfold lg2
    refine lg0_le h1 ?_
    split
    · rename_i h3; have := pmAt_lt h3; omega
    · omega
  · exact h1
theorem lg_k0 (L : List UInt8) (hl : L.length ≤ 100000) (i j : Nat) (hi : i ≤ L.length) (hj : j ≤ L.length + 1) : V (F tab) (r35_K0 ()) (r35_J0 (.d (.str (bt L))) (.d (iv i)) (.d (iv j)) []) = some (.ret, r35_R (.d (iv ((lg0 L i j : Nat) : Int))) []) := by
  have hr := lrow_ok L hl j (by omega)
  have hd := dgN_le L j
  have e1 : (j : Int) + ((dgN L j : Nat) : Int) = ((j + dgN L j : Nat) : Int) := rfl
  unfold lg0
  by_cases h : dgN L j = 0
  · have k1 : (((dgN L j : Nat) : Int) == 0) = true := by simp [h]
    rw [if_pos h]
    simp (disch := omega) only [go_sem, and_self, and_true, true_and, false_and, and_false, Nat.reduceAdd, Nat.reduceMul, Nat.reduceSub, Nat.reduceLeDiff, Nat.reduceLT, Nat.reduceGT, Nat.reduceEqDiff, Nat.reduceBEq, Int.reduceNeg, Int.reduceEq, Int.reduceLT, Int.reduceLE, Int.reduceBEq, Int.reduceToNat, Int.toNat_natCast, Int.natCast_zero, r35_K0, hr, k1]
  · have k1 : (((dgN L j : Nat) : Int) == 0) = false := by simp; omega
    rw [if_neg h]
    simp (disch := omega) only [go_sem, and_self, and_true, true_and, false_and, and_false, Nat.reduceAdd, Nat.reduceMul, Nat.reduceSub, Nat.reduceLeDiff, Nat.reduceLT, Nat.reduceGT, Nat.reduceEqDiff, Nat.reduceBEq, Int.reduceNeg, Int.reduceEq, Int.reduceLT, Int.reduceLE, Int.reduceBEq, Int.reduceToNat, Int.toNat_natCast, Int.natCast_zero, r35_K0, hr, k1, e1, w64]
theorem u8_eq (c d : UInt8) : (((c.toNat : Nat) : Int) == ((d.toNat : Nat) : Int)) = (c == d) := by
  by_cases h : c = d
  · subst h; simp
  · have h4 : c.toNat ≠ d.toNat := fun h' => h (UInt8.toNat_inj.1 h')
    have : (c == d) = false := by simpa using h
    rw [this]; simp; omega
theorem lg_k2 (L : List UInt8) (hl : L.length ≤ 100000) (i : Nat) (hi : i < L.length) : V (F tab) (r35_K2 ()) (r35_J2 (.d (.str (bt L))) (.d (iv i)) []) = some (.ret, r35_R (.d (iv ((lg2 L i : Nat) : Int))) []) := by
  have hz := bt_size L
  have e1 : (i : Int) + 1 = ((i + 1 : Nat) : Int) := rfl
  have e2 : ((i + 1 : Nat) : Int) + 1 = ((i + 2 : Nat) : Int) := rfl
  have i0 : (0 ≤ ((i + 1 : Nat) : Int)) = True := eq_true (by omega)
  by_cases h : i + 1 < L.length
  · have h1 : (((i + 1 : Nat) : Int) < (L.length : Int)) = True := eq_true (by omega)
    have hx : L[i + 1]? = some L[i + 1] := List.getElem?_eq_getElem h
    have hg := bt_get L (i + 1)
    rw [hx] at hg
    have u1 : (((L[i + 1].toNat : Nat) : Int) == 43) = (L[i + 1] == 43) := u8_eq _ 43
    have u2 : (((L[i + 1].toNat : Nat) : Int) == 45) = (L[i + 1] == 45) := u8_eq _ 45
    have k := lg_k0 L hl i (i + 2) (by omega) (by omega)
    have k' := lg_k0 L hl i (i + 1) (by omega) (by omega)
    generalize L[i + 1] = c at *
    rcases Bool.eq_false_or_eq_true (c == 43) with g1 | g1
    · rw [g1] at u1
      have e : lg2 L i = lg0 L i (i + 2) := by simp only [lg2, pmAt, hx, g1, Bool.true_or, if_true]
      rw [e]
      simp (disch := omega) only [go_sem, and_self, and_true, true_and, false_and, and_false, Nat.reduceAdd, Nat.reduceMul, Nat.reduceSub, Nat.reduceLeDiff, Nat.reduceLT, Nat.reduceGT, Nat.reduceEqDiff, Nat.reduceBEq, Int.reduceNeg, Int.reduceEq, Int.reduceLT, Int.reduceLE, Int.reduceBEq, Int.reduceToNat, Int.toNat_natCast, Int.natCast_zero, r35_K2, hz, h1, i0, hg, e1, e2, u1, w64, Bool.true_or, k]
    · rw [g1] at u1
      rcases Bool.eq_false_or_eq_true (c == 45) with g2 | g2
      · rw [g2] at u2
        have e : lg2 L i = lg0 L i (i + 2) := by simp only [lg2, pmAt, hx, g1, g2, Bool.or_true, if_true]
        rw [e]
        simp (disch := omega) only [go_sem, and_self, and_true, true_and, false_and, and_false, Nat.reduceAdd, Nat.reduceMul, Nat.reduceSub, Nat.reduceLeDiff, Nat.reduceLT, Nat.reduceGT, Nat.reduceEqDiff, Nat.reduceBEq, Int.reduceNeg, Int.reduceEq, Int.reduceLT, Int.reduceLE, Int.reduceBEq, Int.reduceToNat, Int.toNat_natCast, Int.natCast_zero, r35_K2, hz, h1, i0, hg, e1, e2, u1, u2, w64, Bool.true_or, Bool.false_or, k]
      · rw [g2] at u2
        have e : lg2 L i = lg0 L i (i + 1) := by simp only [lg2, pmAt, hx, g1, g2, Bool.or_false, Bool.false_eq_true, if_false]
        rw [e]
        simp (disch := omega) only [go_sem, and_self, and_true, true_and, false_and, and_false, Nat.reduceAdd, Nat.reduceMul, Nat.reduceSub, Nat.reduceLeDiff, Nat.reduceLT, Nat.reduceGT, Nat.reduceEqDiff, Nat.reduceBEq, Int.reduceNeg, Int.reduceEq, Int.reduceLT, Int.reduceLE, Int.reduceBEq, Int.reduceToNat, Int.toNat_natCast, Int.natCast_zero, r35_K2, hz, h1, i0, hg, e1, e2, u1, u2, w64, Bool.true_or, Bool.false_or, k']
  · have h1 : (((i + 1 : Nat) : Int) < (L.length : Int)) = False := eq_false (by omega)
    have hx : L[i + 1]? = none := List.getElem?_eq_none (by omega)
    have k' := lg_k0 L hl i (i + 1) (by omega) (by omega)
    have e : lg2 L i = lg0 L i (i + 1) := by simp only [lg2, pmAt, hx, Bool.false_eq_true, if_false]
    rw [e]
    simp (disch := omega) only [go_sem, and_self, and_true, true_and, false_and, and_false, Nat.reduceAdd, Nat.reduceMul, Nat.reduceSub, Nat.reduceLeDiff, Nat.reduceLT, Nat.reduceGT, Nat.reduceEqDiff, Nat.reduceBEq, Int.reduceNeg, Int.reduceEq, Int.reduceLT, Int.reduceLE, Int.reduceBEq, Int.reduceToNat, Int.toNat_natCast, Int.natCast_zero, r35_K2, hz, h1, e1, w64, k']
theorem lg_k3 (L : List UInt8) (hl : L.length ≤ 100000) (i : Nat) (hi : i ≤ L.length) : V (F tab) (r35_K3 ()) (r35_J3 (.d (.str (bt L))) (.d (iv i)) []) = some (.ret, r35_R (.d (iv ((lg3 L i : Nat) : Int))) []) := by
  have hz := bt_size L
  have i0 : (0 ≤ (i : Int)) = True := eq_true (by omega)
  by_cases h : i < L.length
  · have h1 : ((i : Int) ≥ (L.length : Int)) = False := eq_false (by omega)
    have hx : L[i]? = some L[i] := List.getElem?_eq_getElem h
    have hg := bt_get L i
    rw [hx] at hg
    obtain ⟨m, hb, hm⟩ := or32 L[i]
    have k := lg_k2 L hl i h
    generalize L[i] = c at *
    rcases Bool.eq_false_or_eq_true (isE c) with g | g
    · have u : (m != 101) = false := by rw [bne, hm, g]; rfl
      have e : lg3 L i = lg2 L i := by simp only [lg3, eAt, hx, g, if_true]
      rw [e]
      simp (disch := omega) only [go_sem, and_self, and_true, true_and, false_and, and_false, Nat.reduceAdd, Nat.reduceMul, Nat.reduceSub, Nat.reduceLeDiff, Nat.reduceLT, Nat.reduceGT, Nat.reduceEqDiff, Nat.reduceBEq, Int.reduceNeg, Int.reduceEq, Int.reduceLT, Int.reduceLE, Int.reduceBEq, Int.reduceToNat, Int.toNat_natCast, Int.natCast_zero, r35_K3, hz, h1, i0, hg, hb, u, k]
    · have u : (m != 101) = true := by rw [bne, hm, g]; rfl
      have e : lg3 L i = i := by simp only [lg3, eAt, hx, g, Bool.false_eq_true, if_false]
      rw [e]
      simp (disch := omega) only [go_sem, and_self, and_true, true_and, false_and, and_false, Nat.reduceAdd, Nat.reduceMul, Nat.reduceSub, Nat.reduceLeDiff, Nat.reduceLT, Nat.reduceGT, Nat.reduceEqDiff, Nat.reduceBEq, Int.reduceNeg, Int.reduceEq, Int.reduceLT, Int.reduceLE, Int.reduceBEq, Int.reduceToNat, Int.toNat_natCast, Int.natCast_zero, r35_K3, hz, h1, i0, hg, hb, u]
  · have h1 : ((i : Int) ≥ (L.length : Int)) = True := eq_true (by omega)
    have hx : L[i]? = none := List.getElem?_eq_none (by omega)
    have e : lg3 L i = i := by simp only [lg3, eAt, hx, Bool.false_eq_true, if_false]
    rw [e]
    simp (disch := omega) only [go_sem, and_self, and_true, true_and, false_and, and_false, Nat.reduceAdd, Nat.reduceMul, Nat.reduceSub, Nat.reduceLeDiff, Nat.reduceLT, Nat.reduceGT, Nat.reduceEqDiff, Nat.reduceBEq, Int.reduceNeg, Int.reduceEq, Int.reduceLT, Int.reduceLE, Int.reduceBEq, Int.reduceToNat, Int.toNat_natCast, Int.natCast_zero, r35_K3, hz, h1]
theorem long_ok (L : List UInt8) (hl : L.length ≤ 100000) (hp : List Ent) : F tab 35 [.d (.str (bt L))] hp = some (.ret (.d (iv ((lngN L : Nat) : Int))) hp) := by
  have hz := bt_size L
  have hr0 := lrow_ok L hl 0 (by omega)
  have hd0 := dgN_le L 0
  have i0 : (0 ≤ ((dgN L 0 : Nat) : Int)) = True := eq_true (by omega)
  have hr1 := lrow_ok L hl (dgN L 0 + 1) (by omega)
  have hd1 := dgN_le L (dgN L 0 + 1)
  have e0 : (iv ((0 : Nat) : Int)) = iv 0 := rfl
  rw [e0] at hr0
  have e1 : ((dgN L 0 : Nat) : Int) + 1 = ((dgN L 0 + 1 : Nat) : Int) := rfl
  have hle := lg4_le L
  unfold lngN
  refine f35 rfl ?_
  by_cases h : dgN L 0 < L.length
  · have h1 : (((dgN L 0 : Nat) : Int) < (L.length : Int)) = True := eq_true (by omega)
    have hx : L[dgN L 0]? = some L[dgN L 0] := List.getElem?_eq_getElem h
    have hg := bt_get L (dgN L 0)
    rw [hx] at hg
    have u1 : (((L[dgN L 0].toNat : Nat) : Int) == 46) = (L[dgN L 0] == 46) := u8_eq _ 46
    generalize L[dgN L 0] = c at *
    rcases Bool.eq_false_or_eq_true (c == 46) with g1 | g1
    · rw [g1] at u1
      by_cases g2 : 0 < dgN L (dgN L 0 + 1)
      · have k2 : (((dgN L (dgN L 0 + 1) : Nat) : Int) > 0) = True := eq_true (by omega)
        have e3 : ((dgN L 0 : Nat) : Int) + (1 + ((dgN L (dgN L 0 + 1) : Nat) : Int)) = ((dgN L 0 + (1 + dgN L (dgN L 0 + 1)) : Nat) : Int) := by omega
        have e : lg4 L = dgN L 0 + (1 + dgN L (dgN L 0 + 1)) := by simp only [lg4, dotAt, hx, g1, decide_eq_true g2, Bool.and_self, if_true]
        have k := lg_k3 L hl (lg4 L) hle
        rw [e] at k ⊢
        generalize dgN L (dgN L 0 + 1) = d1 at *
        generalize dgN L 0 = d0 at *
        simp (disch := omega) only [go_sem, and_self, and_true, true_and, false_and, and_false, Nat.reduceAdd, Nat.reduceMul, Nat.reduceSub, Nat.reduceLeDiff, Nat.reduceLT, Nat.reduceGT, Nat.reduceEqDiff, Nat.reduceBEq, Int.reduceNeg, Int.reduceEq, Int.reduceLT, Int.reduceLE, Int.reduceBEq, Int.reduceToNat, Int.toNat_natCast, Int.natCast_zero, r35_T, r35, hr0, hz, h1, i0, hg, u1, e1, hr1, k2, w64, e3, k]
      · have k2 : (((dgN L (dgN L 0 + 1) : Nat) : Int) > 0) = False := eq_false (by omega)
        have e : lg4 L = dgN L 0 := by simp only [lg4, dotAt, hx, g1, decide_eq_false g2, Bool.and_false, Bool.false_eq_true, if_false]
        have k := lg_k3 L hl (lg4 L) hle
        rw [e] at k ⊢
        generalize dgN L (dgN L 0 + 1) = d1 at *
        generalize dgN L 0 = d0 at *
        simp (disch := omega) only [go_sem, and_self, and_true, true_and, false_and, and_false, Nat.reduceAdd, Nat.reduceMul, Nat.reduceSub, Nat.reduceLeDiff, Nat.reduceLT, Nat.reduceGT, Nat.reduceEqDiff, Nat.reduceBEq, Int.reduceNeg, Int.reduceEq, Int.reduceLT, Int.reduceLE, Int.reduceBEq, Int.reduceToNat, Int.toNat_natCast, Int.natCast_zero, r35_T, r35, hr0, hz, h1, i0, hg, u1, e1, hr1, k2, w64, k]
    · rw [g1] at u1
      have e : lg4 L = dgN L 0 := by simp only [lg4, dotAt, hx, g1, Bool.false_and, Bool.false_eq_true, if_false]
      have k := lg_k3 L hl (lg4 L) hle
      rw [e] at k ⊢
      generalize dgN L 0 = d0 at *
      simp (disch := omega) only [go_sem, and_self, and_true, true_and, false_and, and_false, Nat.reduceAdd, Nat.reduceMul, Nat.reduceSub, Nat.reduceLeDiff, Nat.reduceLT, Nat.reduceGT, Nat.reduceEqDiff, Nat.reduceBEq, Int.reduceNeg, Int.reduceEq, Int.reduceLT, Int.reduceLE, Int.reduceBEq, Int.reduceToNat, Int.toNat_natCast, Int.natCast_zero, r35_T, r35, hr0, hz, h1, i0, hg, u1, w64, k]
  · have h1 : (((dgN L 0 : Nat) : Int) < (L.length : Int)) = False := eq_false (by omega)
    have hx : L[dgN L 0]? = none := List.getElem?_eq_none (by omega)
    have e : lg4 L = dgN L 0 := by simp only [lg4, dotAt, hx, Bool.false_and, Bool.false_eq_true, if_false]
    have k := lg_k3 L hl (lg4 L) hle
    rw [e] at k ⊢
    generalize dgN L 0 = d0 at *
    simp (disch := omega) only [go_sem, and_self, and_true, true_and, false_and, and_false, Nat.reduceAdd, Nat.reduceMul, Nat.reduceSub, Nat.reduceLeDiff, Nat.reduceLT, Nat.reduceGT, Nat.reduceEqDiff, Nat.reduceBEq, Int.reduceNeg, Int.reduceEq, Int.reduceLT, Int.reduceLE, Int.reduceBEq, Int.reduceToNat, Int.toNat_natCast, Int.natCast_zero, r35_T, r35, hr0, hz, h1, w64, k]
def qtA : Bool → List UInt8 → Option Nat
  | _, [] => none
  | true, _ :: r => (qtA false r).map (· + 1)
  | false, c :: r => if c == 92 then (qtA true r).map (· + 1) else if c == 34 then some 1 else (qtA false r).map (· + 1)
def qtR (i : Nat) : Option Nat → Option (Ex × St)
  | some n => some (.ret, r37_R (.d (iv ((i + n : Nat) : Int))) [])
  | none => some (.norm, r37_E0 [])
theorem qtR_map (i : Nat) (o : Option Nat) : qtR i (o.map (· + 1)) = qtR (i + 1) o := by
  cases o with
  | none => rfl
  | some n => simp only [Option.map_some, qtR]; rw [show i + (n + 1) = i + 1 + n by omega]
def QtIs (L : List UInt8) (i : Nat) : Prop := V (F tab) r37_B0 (r37_S0 (.d (.str (bt L))) (.d (iv i)) []) = qtR i (qtA false (L.drop i))
theorem qt_end (L : List UInt8) (i : Nat) (h : L.length ≤ i) : QtIs L i := by
  have h1 : ((i : Int) < (L.length : Int)) = False := eq_false (by omega)
  have hz := bt_size L
  unfold QtIs
  rw [List.drop_of_length_le h, r37_B0_eq]
  simp (disch := omega) only [go_sem, and_self, and_true, true_and, false_and, and_false, Nat.reduceAdd, Nat.reduceMul, Nat.reduceSub, Nat.reduceLeDiff, Nat.reduceLT, Nat.reduceGT, Nat.reduceEqDiff, Nat.reduceBEq, Int.reduceNeg, Int.reduceEq, Int.reduceLT, Int.reduceLE, Int.reduceBEq, Int.reduceToNat, Int.toNat_natCast, Int.natCast_zero, r37_C0, hz, h1, qtA, qtR]
theorem qt_step (L : List UInt8) (hl : L.length ≤ 100000) (i : Nat) (h : i < L.length) (ih1 : QtIs L (i + 1)) (ih2 : QtIs L (i + 2)) : QtIs L i := by
  have h1 : ((i : Int) < (L.length : Int)) = True := eq_true (by omega)
  have i0 : (0 ≤ (i : Int)) = True := eq_true (by omega)
  have hz := bt_size L
  have hx : L[i]? = some L[i] := List.getElem?_eq_getElem h
  have hd : L.drop i = L[i] :: L.drop (i + 1) := List.drop_eq_getElem_cons h
  have hg := bt_get L i
  rw [hx] at hg
  have e1 : (i : Int) + 1 = ((i + 1 : Nat) : Int) := rfl
  have e2 : ((i + 1 : Nat) : Int) + 1 = ((i + 2 : Nat) : Int) := rfl
  have u1 : (((L[i].toNat : Nat) : Int) == 92) = (L[i] == 92) := u8_eq _ 92
  have u2 : (((L[i].toNat : Nat) : Int) == 34) = (L[i] == 34) := u8_eq _ 34
  unfold QtIs at ih1 ih2 ⊢
  rw [hd]
  rcases Bool.eq_false_or_eq_true (L[i] == 92) with g1 | g1
  · rw [g1] at u1
    have hq : qtA true (L.drop (i + 1)) = (qtA false (L.drop (i + 2))).map (· + 1) := by
      cases hr : L.drop (i + 1) with
      | nil => have : L.drop (i + 2) = [] := by rw [← List.drop_drop (j := i + 1) (i := 1), hr]; rfl
               rw [this]; rfl
      | cons c r => have : L.drop (i + 2) = r := by rw [← List.drop_drop (j := i + 1) (i := 1), hr]; rfl
                    rw [this]; rfl
    rw [qtA, g1, if_pos rfl, hq, qtR_map, qtR_map]
    rw [r37_B0_eq]
    simp (disch := omega) only [go_sem, and_self, and_true, true_and, false_and, and_false, Nat.reduceAdd, Nat.reduceMul, Nat.reduceSub, Nat.reduceLeDiff, Nat.reduceLT, Nat.reduceGT, Nat.reduceEqDiff, Nat.reduceBEq, Int.reduceNeg, Int.reduceEq, Int.reduceLT, Int.reduceLE, Int.reduceBEq, Int.reduceToNat, Int.toNat_natCast, Int.natCast_zero, r37_C0, hz, h1, i0, hg, u1, e1, e2, w64]
    exact ih2
  · rw [g1] at u1
    rcases Bool.eq_false_or_eq_true (L[i] == 34) with g2 | g2
    · rw [g2] at u2
      rw [qtA, g1, if_neg (by simp), g2, if_pos rfl, qtR, r37_B0_eq]
      simp (disch := omega) only [go_sem, and_self, and_true, true_and, false_and, and_false, Nat.reduceAdd, Nat.reduceMul, Nat.reduceSub, Nat.reduceLeDiff, Nat.reduceLT, Nat.reduceGT, Nat.reduceEqDiff, Nat.reduceBEq, Int.reduceNeg, Int.reduceEq, Int.reduceLT, Int.reduceLE, Int.reduceBEq, Int.reduceToNat, Int.toNat_natCast, Int.natCast_zero, r37_C0, hz, h1, i0, hg, u1, u2, e1, w64]
    · rw [g2] at u2
      rw [qtA, g1, if_neg (by simp), g2, if_neg (by simp), qtR_map, r37_B0_eq]
      simp (disch := omega) only [go_sem, and_self, and_true, true_and, false_and, and_false, Nat.reduceAdd, Nat.reduceMul, Nat.reduceSub, Nat.reduceLeDiff, Nat.reduceLT, Nat.reduceGT, Nat.reduceEqDiff, Nat.reduceBEq, Int.reduceNeg, Int.reduceEq, Int.reduceLT, Int.reduceLE, Int.reduceBEq, Int.reduceToNat, Int.toNat_natCast, Int.natCast_zero, r37_C0, hz, h1, i0, hg, u1, u2, e1, w64]
      exact ih1
theorem qt_loop (L : List UInt8) (hl : L.length ≤ 100000) : ∀ (d i : Nat), L.length - i ≤ d → QtIs L i
  | 0, i, h => qt_end L i (by omega)
  | d + 1, i, h => by
    by_cases e : L.length ≤ i
    · exact qt_end L i e
    · exact qt_step L hl i (by omega) (qt_loop L hl d (i + 1) (by omega)) (qt_loop L hl d (i + 2) (by omega))
def qtN (L : List UInt8) : Nat := match qtA false (L.drop 1) with | some n => n + 1 | none => 0
theorem quoted_ok (L : List UInt8) (hl : L.length ≤ 100000) (hp : List Ent) : F tab 37 [.d (.str (bt L))] hp = some (.ret (.d (iv ((qtN L : Nat) : Int))) hp) := by
  have h := qt_loop L hl L.length 1 (by omega)
  unfold QtIs at h
  unfold qtN
  refine f37 rfl ?_
  simp (disch := omega) only [go_sem, and_self, and_true, true_and, false_and, and_false, Nat.reduceAdd, Nat.reduceMul, Nat.reduceSub, Nat.reduceLeDiff, Nat.reduceLT, Nat.reduceGT, Nat.reduceEqDiff, Nat.reduceBEq, Int.reduceNeg, Int.reduceEq, Int.reduceLT, Int.reduceLE, Int.reduceBEq, Int.reduceToNat, Int.toNat_natCast, Int.natCast_zero, r37_T, r37]
  rw [r37_B0_n]
  have h : V (F tab) r37_B0 (r37_S0 (.d (.str (bt L))) (.d (iv 1)) []) = _ := h
  erw [h]
  cases qtA false (L.drop 1) with
  | none => simp only [go_sem, and_self, and_true, true_and, false_and, and_false, Nat.reduceAdd, Nat.reduceMul, Nat.reduceSub, Nat.reduceLeDiff, Nat.reduceLT, Nat.reduceGT, Nat.reduceEqDiff, Nat.reduceBEq, Int.reduceNeg, Int.reduceEq, Int.reduceLT, Int.reduceLE, Int.reduceBEq, Int.reduceToNat, Int.toNat_natCast, Int.natCast_zero, qtR]
  | some n =>
    simp only [go_sem, and_self, and_true, true_and, false_and, and_false, Nat.reduceAdd, Nat.reduceMul, Nat.reduceSub, Nat.reduceLeDiff, Nat.reduceLT, Nat.reduceGT, Nat.reduceEqDiff, Nat.reduceBEq, Int.reduceNeg, Int.reduceEq, Int.reduceLT, Int.reduceLE, Int.reduceBEq, Int.reduceToNat, Int.toNat_natCast, Int.natCast_zero, qtR]
    rw [show 1 + n = n + 1 by omega]
def twoB (L : List UInt8) : Bool := match L with
  | a :: b :: _ => (a == 47 && b == 47) || ((a == 61 && b == 61) || ((a == 33 && b == 61) || ((a == 60 && b == 61) || (a == 62 && b == 61))))
  | _ => false
def sgnL : List UInt8 := [46, 124, 44, 60, 62, 43, 45, 42, 47, 37, 40, 41, 91, 93, 123, 125, 58, 59]
def sgnN (L : List UInt8) : Nat := if twoB L then 2 else match L with
  | c :: _ => if sgnL.contains c then 1 else 0
  | [] => 0
theorem bt_list (l : List UInt8) : (bt l).toList = l := by rw [bs_toList, bs_bt]
theorem two_eq (a b c d : UInt8) : ((bt [a, b]).toList == (⟨#[c, d]⟩ : ByteArray).toList) = (a == c && b == d) := by
  have e : (⟨#[c, d]⟩ : ByteArray) = bt [c, d] := rfl
  rw [e, bt_list, bt_list]
  simp
theorem sign_ok (c : UInt8) (r : List UInt8) (hl : r.length ≤ 100000) (hp : List Ent) : F tab 26 [.d (.str (bt (c :: r)))] hp = some (.ret (.d (.str (bt ((c :: r).take (sgnN (c :: r)))))) hp) := by
  obtain ⟨n, hn⟩ : ∃ n, n = (c :: r).length := ⟨_, rfl⟩
  have hz : (bt (c :: r)).size = n := hn ▸ bt_size (c :: r)
  have hg : (bt (c :: r))[0]? = some c := bt_get (c :: r) 0
  have hs := ib_ok sgnL c
  have hm := ib_iff sgnL c
  unfold sgnL at hs
  have hc1 : (bt (c :: r)).extract 0 1 = bt [c] := bt_to _ 1
  have hle1 : ((1 : Int) ≤ (n : Int)) = True := eq_true (by rw [hn]; simp; omega)
  have hone : twoB (c :: r) = false → (c :: r).take (sgnN (c :: r)) = if sgnL.contains c then [c] else [] := by
    intro h
    unfold sgnN
    rw [h, if_neg (by simp)]
    simp only
    split <;> rfl
  have fin : ∀ q : Bool, sgnL.contains c = q → (Lib.indexByte sgnL c ≥ 0) = (q = true) := by
    intro q hq
    apply propext
    rw [← hq]
    simp only [List.contains_eq_mem, decide_eq_true_eq]
    exact hm
  refine f26 rfl ?_
  cases r with
  | nil =>
    have h1 : ((n : Int) > 1) = False := eq_false (by rw [hn]; simp)
    rw [hone rfl]
    rcases Bool.eq_false_or_eq_true (sgnL.contains c) with g | g
    · have k := fin _ g
      unfold sgnL at k
      rw [g, if_pos rfl]
      simp (disch := omega) only [go_sem, and_self, and_true, true_and, false_and, and_false, Nat.reduceAdd, Nat.reduceMul, Nat.reduceSub, Nat.reduceLeDiff, Nat.reduceLT, Nat.reduceGT, Nat.reduceEqDiff, Nat.reduceBEq, Int.reduceNeg, Int.reduceEq, Int.reduceLT, Int.reduceLE, Int.reduceBEq, Int.reduceToNat, Int.toNat_natCast, Int.natCast_zero, r26_T, r26, hz, h1, hg, hs, k, hc1, hle1]
    · have k := fin _ g
      unfold sgnL at k
      rw [g, if_neg (by simp)]
      simp (disch := omega) only [go_sem, and_self, and_true, true_and, false_and, and_false, Nat.reduceAdd, Nat.reduceMul, Nat.reduceSub, Nat.reduceLeDiff, Nat.reduceLT, Nat.reduceGT, Nat.reduceEqDiff, Nat.reduceBEq, Int.reduceNeg, Int.reduceEq, Int.reduceLT, Int.reduceLE, Int.reduceBEq, Int.reduceToNat, Int.toNat_natCast, Int.natCast_zero, r26_T, r26, hz, h1, hg, hs, k]
  | cons d r =>
    have h1 : ((n : Int) > 1) = True := eq_true (by rw [hn]; simp; omega)
    have hle2 : ((2 : Int) ≤ (n : Int)) = True := eq_true (by rw [hn]; simp; omega)
    clear hn
    have hc2 : (bt (c :: d :: r)).extract 0 2 = bt [c, d] := bt_to _ 2
    have q1 := two_eq c d 47 47
    have q2 := two_eq c d 61 61
    have q3 := two_eq c d 33 61
    have q4 := two_eq c d 60 61
    have q5 := two_eq c d 62 61
    rcases Bool.eq_false_or_eq_true (twoB (c :: d :: r)) with g | g
    · have ht : (c :: d :: r).take (sgnN (c :: d :: r)) = [c, d] := by unfold sgnN; rw [g]; rfl
      rw [ht]
      simp only [twoB] at g
      generalize (c == 47 && d == 47) = p1 at *
      generalize (c == 61 && d == 61) = p2 at *
      generalize (c == 33 && d == 61) = p3 at *
      generalize (c == 60 && d == 61) = p4 at *
      generalize (c == 62 && d == 61) = p5 at *
      cases p1 <;> cases p2 <;> cases p3 <;> cases p4 <;> cases p5 <;> first | (simp at g; done) | simp (disch := omega) only [go_sem, and_self, and_true, true_and, false_and, and_false, Nat.reduceAdd, Nat.reduceMul, Nat.reduceSub, Nat.reduceLeDiff, Nat.reduceLT, Nat.reduceGT, Nat.reduceEqDiff, Nat.reduceBEq, Int.reduceNeg, Int.reduceEq, Int.reduceLT, Int.reduceLE, Int.reduceBEq, Int.reduceToNat, Int.toNat_natCast, Int.natCast_zero, r26_T, r26, hz, h1, hle2, hc2, strD_eql, q1, q2, q3, q4, q5]
    · rw [hone g]
      simp only [twoB, Bool.or_eq_false_iff] at g
      obtain ⟨g1, g2, g3, g4, g5⟩ := g
      rw [g1] at q1
      rw [g2] at q2
      rw [g3] at q3
      rw [g4] at q4
      rw [g5] at q5
      rcases Bool.eq_false_or_eq_true (sgnL.contains c) with g | g
      · have k := fin _ g
        unfold sgnL at k
        rw [g, if_pos rfl]
        simp (disch := omega) only [go_sem, and_self, and_true, true_and, false_and, and_false, Nat.reduceAdd, Nat.reduceMul, Nat.reduceSub, Nat.reduceLeDiff, Nat.reduceLT, Nat.reduceGT, Nat.reduceEqDiff, Nat.reduceBEq, Int.reduceNeg, Int.reduceEq, Int.reduceLT, Int.reduceLE, Int.reduceBEq, Int.reduceToNat, Int.toNat_natCast, Int.natCast_zero, r26_T, r26, hz, h1, hle2, hc2, strD_eql, q1, q2, q3, q4, q5, hg, hs, k, hc1, hle1]
      · have k := fin _ g
        unfold sgnL at k
        rw [g, if_neg (by simp)]
        simp (disch := omega) only [go_sem, and_self, and_true, true_and, false_and, and_false, Nat.reduceAdd, Nat.reduceMul, Nat.reduceSub, Nat.reduceLeDiff, Nat.reduceLT, Nat.reduceGT, Nat.reduceEqDiff, Nat.reduceBEq, Int.reduceNeg, Int.reduceEq, Int.reduceLT, Int.reduceLE, Int.reduceBEq, Int.reduceToNat, Int.toNat_natCast, Int.natCast_zero, r26_T, r26, hz, h1, hle2, hc2, strD_eql, q1, q2, q3, q4, q5, hg, hs, k]
end Go.Pe.T

namespace Go.Pe.T

def unb (l : List UInt8) (i : Nat) : Int := ((l.getD i 0).toNat : Int)
def contB (c : Int) : Bool := !decide (c < 128) && !decide (c > 191)
def conts : List UInt8 → Nat → Bool
  | _, 0 => true
  | [], _ + 1 => false
  | c :: r, k + 1 => contB c.toNat && conts r k
def tailL (l : List UInt8) (n : Nat) (lo hi : Int) : Bool := !decide (l.length ≤ n) && ((!decide (unb l 1 < lo) && !decide (unb l 1 > hi)) && conts (l.drop 2) (n - 1))
def sizeL (l : List UInt8) : Nat :=
  if unb l 0 < 128 then 1
  else if (decide (unb l 0 ≥ 194) && decide (unb l 0 ≤ 223)) && tailL l 1 128 191 then 2
  else if (unb l 0 == 224 && tailL l 2 160 191) || (((decide (unb l 0 ≥ 225) && decide (unb l 0 ≤ 239)) && unb l 0 != 237) && tailL l 2 128 191 || unb l 0 == 237 && tailL l 2 128 159) then 3
  else if (unb l 0 == 240 && tailL l 3 144 191) || ((decide (unb l 0 ≥ 241) && decide (unb l 0 ≤ 243)) && tailL l 3 128 191 || unb l 0 == 244 && tailL l 3 128 143) then 4
  else 0
def validF : Nat → List UInt8 → Bool
  | _, [] => true
  | 0, _ :: _ => false
  | k + 1, c :: r => if sizeL (c :: r) = 0 then false else validF k ((c :: r).drop (sizeL (c :: r)))
def validB (s : ByteArray) : Bool := validF s.size (bs s)

theorem tail_len {l : List UInt8} {n : Nat} {lo hi : Int} (h : tailL l n lo hi = true) : n < l.length := by
  simp only [tailL, Bool.and_eq_true, Bool.not_eq_true', decide_eq_false_iff_not] at h
  omega
theorem sizeL_le (l : List UInt8) (hl : l ≠ []) : sizeL l ≤ l.length := by
  have h0 : 0 < l.length := List.length_pos_iff.2 hl
  unfold sizeL
  split
  · omega
  · split
    · rename_i h; simp only [Bool.and_eq_true] at h; have := tail_len h.2; omega
    · split
      · rename_i h; simp only [Bool.or_eq_true, Bool.and_eq_true] at h
        rcases h with h | h | h <;> (have := tail_len h.2; omega)
      · split
        · rename_i h; simp only [Bool.or_eq_true, Bool.and_eq_true] at h
          rcases h with h | h | h <;> (have := tail_len h.2; omega)
        · omega

theorem bs_nb {s : ByteArray} {i : Nat} (h : i < s.size) : ((s[i].toNat : Nat) : Int) = unb (bs s) i := by
  have e : s[i] = s.data.toList[i]'h := rfl
  simp only [unb, bs, List.getD_eq_getElem?_getD, List.getElem?_eq_getElem (show i < s.data.toList.length from h), Option.getD_some, e]

def uTlLoop (s : ByteArray) (n i : Nat) : Prop :=
  V (F tab) r71_B0 (r71_S0 (.d (.str s)) (.d (iv n)) (.d (iv i)) []) = if conts ((bs s).drop i) (n + 1 - i) then some (.norm, r71_E0 []) else some (.ret, r71_R (.d (.bool false)) [])
theorem utl_end (s : ByteArray) (n i : Nat) (hi : n < i) : uTlLoop s n i := by
  have h1 : ((i : Int) ≤ (n : Int)) = False := eq_false (by omega)
  unfold uTlLoop
  rw [r71_B0_eq, show n + 1 - i = 0 by omega]
  simp (disch := omega) only [go_sem, and_self, and_true, true_and, false_and, and_false, Nat.reduceAdd, Nat.reduceMul, Nat.reduceSub, Nat.reduceLeDiff, Nat.reduceLT, Nat.reduceGT, Nat.reduceEqDiff, Nat.reduceBEq, Int.reduceNeg, Int.reduceEq, Int.reduceLT, Int.reduceLE, Int.reduceBEq, Int.reduceToNat, Int.toNat_natCast, Int.natCast_zero, r71_C0, h1, conts]
theorem utl_step (s : ByteArray) (n i : Nat) (hn : n < s.size) (h4 : n ≤ 4) (hi : i ≤ n) (ih : uTlLoop s n (i + 1)) : uTlLoop s n i := by
  have h1 : ((i : Int) ≤ (n : Int)) = True := eq_true (by omega)
  have hi0 : (0 ≤ (i : Int)) = True := eq_true (by omega)
  obtain ⟨va, vd⟩ := bs_get (show i < s.size by omega)
  unfold uTlLoop at ih ⊢
  rw [Int.natCast_add, Int.natCast_one] at ih
  rw [r71_B0_eq, vd, show n + 1 - i = (n - i) + 1 by omega]
  rw [show n + 1 - (i + 1) = n - i by omega] at ih
  simp only [conts, contB]
  by_cases g1 : ((s[i].toNat : Nat) : Int) < 128
  · simp (disch := omega) only [go_sem, and_self, and_true, true_and, false_and, and_false, Nat.reduceAdd, Nat.reduceMul, Nat.reduceSub, Nat.reduceLeDiff, Nat.reduceLT, Nat.reduceGT, Nat.reduceEqDiff, Nat.reduceBEq, Int.reduceNeg, Int.reduceEq, Int.reduceLT, Int.reduceLE, Int.reduceBEq, Int.reduceToNat, Int.toNat_natCast, Int.natCast_zero, r71_C0, h1, hi0, va, w64, g1, decide_true, Bool.not_true, Bool.false_and]
  · by_cases g2 : ((s[i].toNat : Nat) : Int) > 191
    · simp (disch := omega) only [go_sem, and_self, and_true, true_and, false_and, and_false, Nat.reduceAdd, Nat.reduceMul, Nat.reduceSub, Nat.reduceLeDiff, Nat.reduceLT, Nat.reduceGT, Nat.reduceEqDiff, Nat.reduceBEq, Int.reduceNeg, Int.reduceEq, Int.reduceLT, Int.reduceLE, Int.reduceBEq, Int.reduceToNat, Int.toNat_natCast, Int.natCast_zero, r71_C0, h1, hi0, va, w64, g1, g2, decide_true, decide_false, Bool.not_true, Bool.not_false, Bool.false_and, Bool.true_and]
    · simp (disch := omega) only [go_sem, and_self, and_true, true_and, false_and, and_false, Nat.reduceAdd, Nat.reduceMul, Nat.reduceSub, Nat.reduceLeDiff, Nat.reduceLT, Nat.reduceGT, Nat.reduceEqDiff, Nat.reduceBEq, Int.reduceNeg, Int.reduceEq, Int.reduceLT, Int.reduceLE, Int.reduceBEq, Int.reduceToNat, Int.toNat_natCast, Int.natCast_zero, r71_C0, h1, hi0, va, w64, g1, g2, decide_true, decide_false, Bool.not_true, Bool.not_false, Bool.false_and, Bool.true_and]
      exact ih
theorem utl_loop (s : ByteArray) (n : Nat) (hn : n < s.size) (h4 : n ≤ 4) : ∀ (j i : Nat), i + j = n + 1 → uTlLoop s n i
  | 0, i, hi => utl_end s n i (by omega)
  | j + 1, i, hi => utl_step s n i hn h4 (by omega) (utl_loop s n hn h4 j (i + 1) (by omega))
theorem tail_ok (s : ByteArray) (n : Nat) (lo hi : Int) (h1 : 1 ≤ n) (h4 : n ≤ 4) (hp : List Ent) : F tab 71 [.d (.str s), .d (iv n), .d (.int .u8 lo), .d (.int .u8 hi)] hp = some (.ret (.d (.bool (tailL (bs s) n lo hi))) hp) := by
  refine f71 rfl ?_
  unfold tailL
  rw [bs_len]
  by_cases g : s.size ≤ n
  · have g' : ((s.size : Int) ≤ (n : Int)) = True := eq_true (by omega)
    simp (disch := omega) only [go_sem, and_self, and_true, true_and, false_and, and_false, Nat.reduceAdd, Nat.reduceMul, Nat.reduceSub, Nat.reduceLeDiff, Nat.reduceLT, Nat.reduceGT, Nat.reduceEqDiff, Nat.reduceBEq, Int.reduceNeg, Int.reduceEq, Int.reduceLT, Int.reduceLE, Int.reduceBEq, Int.reduceToNat, Int.toNat_natCast, Int.natCast_zero, r71_T, r71, g, g', decide_true, Bool.not_true, Bool.false_and]
  · have g' : ((s.size : Int) ≤ (n : Int)) = False := eq_false (by omega)
    have hL := utl_loop s n (by omega) h4 (n - 1) 2 (by omega)
    unfold uTlLoop at hL
    rw [show n + 1 - 2 = n - 1 by omega] at hL
    have hlt : 1 < s.size := by omega
    obtain ⟨va, vd⟩ := bs_get hlt
    have e := bs_nb hlt
    rw [← e]
    by_cases g1 : ((s[1].toNat : Nat) : Int) < lo
    · simp (disch := omega) only [go_sem, and_self, and_true, true_and, false_and, and_false, Nat.reduceAdd, Nat.reduceMul, Nat.reduceSub, Nat.reduceLeDiff, Nat.reduceLT, Nat.reduceGT, Nat.reduceEqDiff, Nat.reduceBEq, Int.reduceNeg, Int.reduceEq, Int.reduceLT, Int.reduceLE, Int.reduceBEq, Int.reduceToNat, Int.toNat_natCast, Int.natCast_zero, r71_T, r71, g, g', va, g1, decide_true, decide_false, Bool.not_true, Bool.not_false, Bool.false_and, Bool.true_and]
    · by_cases g2 : ((s[1].toNat : Nat) : Int) > hi
      · simp (disch := omega) only [go_sem, and_self, and_true, true_and, false_and, and_false, Nat.reduceAdd, Nat.reduceMul, Nat.reduceSub, Nat.reduceLeDiff, Nat.reduceLT, Nat.reduceGT, Nat.reduceEqDiff, Nat.reduceBEq, Int.reduceNeg, Int.reduceEq, Int.reduceLT, Int.reduceLE, Int.reduceBEq, Int.reduceToNat, Int.toNat_natCast, Int.natCast_zero, r71_T, r71, g, g', va, g1, g2, decide_true, decide_false, Bool.not_true, Bool.not_false, Bool.false_and, Bool.true_and]
      · simp (disch := omega) only [go_sem, and_self, and_true, true_and, false_and, and_false, Nat.reduceAdd, Nat.reduceMul, Nat.reduceSub, Nat.reduceLeDiff, Nat.reduceLT, Nat.reduceGT, Nat.reduceEqDiff, Nat.reduceBEq, Int.reduceNeg, Int.reduceEq, Int.reduceLT, Int.reduceLE, Int.reduceBEq, Int.reduceToNat, Int.toNat_natCast, Int.natCast_zero, r71_T, r71, g, g', va, g1, g2, decide_true, decide_false, Bool.not_true, Bool.not_false, Bool.false_and, Bool.true_and]
        rw [r71_B0_n]
        erw [hL]
        rcases Bool.eq_false_or_eq_true (conts ((bs s).drop 2) (n - 1)) with g3 | g3 <;> rw [g3] <;> simp only [go_sem, and_self, and_true, true_and, false_and, and_false, Nat.reduceAdd, Nat.reduceMul, Nat.reduceSub, Nat.reduceLeDiff, Nat.reduceLT, Nat.reduceGT, Nat.reduceEqDiff, Nat.reduceBEq, Int.reduceNeg, Int.reduceEq, Int.reduceLT, Int.reduceLE, Int.reduceBEq, Int.reduceToNat, Int.toNat_natCast, Int.natCast_zero]

theorem size_0 (s : ByteArray) (c : Int) (h0 : 0 < s.size) (hc : ((s[0].toNat : Nat) : Int) = c) (g1 : c ≥ 0) (g2 : c ≤ 127) (hp : List Ent) : F tab 57 [.d (.str s)] hp = some (.ret (.d (iv (sizeL (bs s)))) hp) := by
  obtain ⟨va, vd⟩ := bs_get h0
  have e := bs_nb h0
  rw [hc] at e
  have xa : (c < 128) = True := eq_true (by omega)
  have xb : (c ≥ 194) = False := eq_false (by omega)
  have xd : (c ≤ 223) = True := eq_true (by omega)
  have xe : (c == 224) = false := by simp <;> omega
  have xf : (c ≥ 225) = False := eq_false (by omega)
  have xh : (c ≤ 239) = True := eq_true (by omega)
  have xi : (c != 237) = true := by simp <;> omega
  have xj : (c == 237) = false := by simp <;> omega
  have xk : (c == 240) = false := by simp <;> omega
  have xl : (c ≥ 241) = False := eq_false (by omega)
  have xm : (c ≤ 243) = True := eq_true (by omega)
  have xn : (c == 244) = false := by simp <;> omega
  refine f57 rfl ?_
  unfold sizeL
  rw [← e]
  simp (disch := omega) only [go_sem, and_self, and_true, true_and, false_and, and_false, Nat.reduceAdd, Nat.reduceMul, Nat.reduceSub, Nat.reduceLeDiff, Nat.reduceLT, Nat.reduceGT, Nat.reduceEqDiff, Nat.reduceBEq, Int.reduceNeg, Int.reduceEq, Int.reduceLT, Int.reduceLE, Int.reduceBEq, Int.reduceToNat, Int.toNat_natCast, Int.natCast_zero, r57_T, r57, va, hc, xa, xb, xd, xe, xf, xh, xi, xj, xk, xl, xm, xn, decide_true, decide_false, Bool.true_and, Bool.false_and, Bool.true_or, Bool.false_or, Bool.and_false, Bool.and_true, Int.natCast_one]
  try rfl

theorem size_1 (s : ByteArray) (c : Int) (h0 : 0 < s.size) (hc : ((s[0].toNat : Nat) : Int) = c) (g1 : c ≥ 128) (g2 : c ≤ 193) (hp : List Ent) : F tab 57 [.d (.str s)] hp = some (.ret (.d (iv (sizeL (bs s)))) hp) := by
  obtain ⟨va, vd⟩ := bs_get h0
  have e := bs_nb h0
  rw [hc] at e
  have xa : (c < 128) = False := eq_false (by omega)
  have xb : (c ≥ 194) = False := eq_false (by omega)
  have xd : (c ≤ 223) = True := eq_true (by omega)
  have xe : (c == 224) = false := by simp <;> omega
  have xf : (c ≥ 225) = False := eq_false (by omega)
  have xh : (c ≤ 239) = True := eq_true (by omega)
  have xi : (c != 237) = true := by simp <;> omega
  have xj : (c == 237) = false := by simp <;> omega
  have xk : (c == 240) = false := by simp <;> omega
  have xl : (c ≥ 241) = False := eq_false (by omega)
  have xm : (c ≤ 243) = True := eq_true (by omega)
  have xn : (c == 244) = false := by simp <;> omega
  refine f57 rfl ?_
  unfold sizeL
  rw [← e]
  simp (disch := omega) only [go_sem, and_self, and_true, true_and, false_and, and_false, Nat.reduceAdd, Nat.reduceMul, Nat.reduceSub, Nat.reduceLeDiff, Nat.reduceLT, Nat.reduceGT, Nat.reduceEqDiff, Nat.reduceBEq, Int.reduceNeg, Int.reduceEq, Int.reduceLT, Int.reduceLE, Int.reduceBEq, Int.reduceToNat, Int.toNat_natCast, Int.natCast_zero, r57_T, r57, va, hc, xa, xb, xd, xe, xf, xh, xi, xj, xk, xl, xm, xn, decide_true, decide_false, Bool.true_and, Bool.false_and, Bool.true_or, Bool.false_or, Bool.and_false, Bool.and_true, Int.natCast_one]
  try rfl

theorem size_2 (s : ByteArray) (c : Int) (h0 : 0 < s.size) (hc : ((s[0].toNat : Nat) : Int) = c) (g1 : c ≥ 194) (g2 : c ≤ 223) (hp : List Ent) : F tab 57 [.d (.str s)] hp = some (.ret (.d (iv (sizeL (bs s)))) hp) := by
  obtain ⟨va, vd⟩ := bs_get h0
  have e := bs_nb h0
  rw [hc] at e
  have xa : (c < 128) = False := eq_false (by omega)
  have xb : (c ≥ 194) = True := eq_true (by omega)
  have xd : (c ≤ 223) = True := eq_true (by omega)
  have xe : (c == 224) = false := by simp <;> omega
  have xf : (c ≥ 225) = False := eq_false (by omega)
  have xh : (c ≤ 239) = True := eq_true (by omega)
  have xi : (c != 237) = true := by simp <;> omega
  have xj : (c == 237) = false := by simp <;> omega
  have xk : (c == 240) = false := by simp <;> omega
  have xl : (c ≥ 241) = False := eq_false (by omega)
  have xm : (c ≤ 243) = True := eq_true (by omega)
  have xn : (c == 244) = false := by simp <;> omega
  have ht : ∀ hp, F tab 71 [.d (.str s), .d (iv 1), .d (.int .u8 128), .d (.int .u8 191)] hp = _ := tail_ok s 1 128 191 (by omega) (by omega)
  refine f57 rfl ?_
  unfold sizeL
  rw [← e]
  rcases Bool.eq_false_or_eq_true (tailL (bs s) 1 128 191) with g | g <;> rw [g] at ht <;>
    simp (disch := omega) only [go_sem, and_self, and_true, true_and, false_and, and_false, Nat.reduceAdd, Nat.reduceMul, Nat.reduceSub, Nat.reduceLeDiff, Nat.reduceLT, Nat.reduceGT, Nat.reduceEqDiff, Nat.reduceBEq, Int.reduceNeg, Int.reduceEq, Int.reduceLT, Int.reduceLE, Int.reduceBEq, Int.reduceToNat, Int.toNat_natCast, Int.natCast_zero, r57_T, r57, va, hc, xa, xb, xd, xe, xf, xh, xi, xj, xk, xl, xm, xn, ht, g, decide_true, decide_false, Bool.true_and, Bool.false_and, Bool.true_or, Bool.false_or, Bool.and_false, Bool.and_true, Int.natCast_one] <;> rfl

theorem size_3 (s : ByteArray) (c : Int) (h0 : 0 < s.size) (hc : ((s[0].toNat : Nat) : Int) = c) (g1 : c ≥ 224) (g2 : c ≤ 224) (hp : List Ent) : F tab 57 [.d (.str s)] hp = some (.ret (.d (iv (sizeL (bs s)))) hp) := by
  obtain ⟨va, vd⟩ := bs_get h0
  have e := bs_nb h0
  rw [hc] at e
  have xa : (c < 128) = False := eq_false (by omega)
  have xb : (c ≥ 194) = True := eq_true (by omega)
  have xd : (c ≤ 223) = False := eq_false (by omega)
  have xe : (c == 224) = true := by simp <;> omega
  have xf : (c ≥ 225) = False := eq_false (by omega)
  have xh : (c ≤ 239) = True := eq_true (by omega)
  have xi : (c != 237) = true := by simp <;> omega
  have xj : (c == 237) = false := by simp <;> omega
  have xk : (c == 240) = false := by simp <;> omega
  have xl : (c ≥ 241) = False := eq_false (by omega)
  have xm : (c ≤ 243) = True := eq_true (by omega)
  have xn : (c == 244) = false := by simp <;> omega
  have ht : ∀ hp, F tab 71 [.d (.str s), .d (iv 2), .d (.int .u8 160), .d (.int .u8 191)] hp = _ := tail_ok s 2 160 191 (by omega) (by omega)
  refine f57 rfl ?_
  unfold sizeL
  rw [← e]
  rcases Bool.eq_false_or_eq_true (tailL (bs s) 2 160 191) with g | g <;> rw [g] at ht <;>
    simp (disch := omega) only [go_sem, and_self, and_true, true_and, false_and, and_false, Nat.reduceAdd, Nat.reduceMul, Nat.reduceSub, Nat.reduceLeDiff, Nat.reduceLT, Nat.reduceGT, Nat.reduceEqDiff, Nat.reduceBEq, Int.reduceNeg, Int.reduceEq, Int.reduceLT, Int.reduceLE, Int.reduceBEq, Int.reduceToNat, Int.toNat_natCast, Int.natCast_zero, r57_T, r57, va, hc, xa, xb, xd, xe, xf, xh, xi, xj, xk, xl, xm, xn, ht, g, decide_true, decide_false, Bool.true_and, Bool.false_and, Bool.true_or, Bool.false_or, Bool.and_false, Bool.and_true, Int.natCast_one] <;> rfl

theorem size_4 (s : ByteArray) (c : Int) (h0 : 0 < s.size) (hc : ((s[0].toNat : Nat) : Int) = c) (g1 : c ≥ 225) (g2 : c ≤ 236) (hp : List Ent) : F tab 57 [.d (.str s)] hp = some (.ret (.d (iv (sizeL (bs s)))) hp) := by
  obtain ⟨va, vd⟩ := bs_get h0
  have e := bs_nb h0
  rw [hc] at e
  have xa : (c < 128) = False := eq_false (by omega)
  have xb : (c ≥ 194) = True := eq_true (by omega)
  have xd : (c ≤ 223) = False := eq_false (by omega)
  have xe : (c == 224) = false := by simp <;> omega
  have xf : (c ≥ 225) = True := eq_true (by omega)
  have xh : (c ≤ 239) = True := eq_true (by omega)
  have xi : (c != 237) = true := by simp <;> omega
  have xj : (c == 237) = false := by simp <;> omega
  have xk : (c == 240) = false := by simp <;> omega
  have xl : (c ≥ 241) = False := eq_false (by omega)
  have xm : (c ≤ 243) = True := eq_true (by omega)
  have xn : (c == 244) = false := by simp <;> omega
  have ht : ∀ hp, F tab 71 [.d (.str s), .d (iv 2), .d (.int .u8 128), .d (.int .u8 191)] hp = _ := tail_ok s 2 128 191 (by omega) (by omega)
  refine f57 rfl ?_
  unfold sizeL
  rw [← e]
  rcases Bool.eq_false_or_eq_true (tailL (bs s) 2 128 191) with g | g <;> rw [g] at ht <;>
    simp (disch := omega) only [go_sem, and_self, and_true, true_and, false_and, and_false, Nat.reduceAdd, Nat.reduceMul, Nat.reduceSub, Nat.reduceLeDiff, Nat.reduceLT, Nat.reduceGT, Nat.reduceEqDiff, Nat.reduceBEq, Int.reduceNeg, Int.reduceEq, Int.reduceLT, Int.reduceLE, Int.reduceBEq, Int.reduceToNat, Int.toNat_natCast, Int.natCast_zero, r57_T, r57, va, hc, xa, xb, xd, xe, xf, xh, xi, xj, xk, xl, xm, xn, ht, g, decide_true, decide_false, Bool.true_and, Bool.false_and, Bool.true_or, Bool.false_or, Bool.and_false, Bool.and_true, Int.natCast_one] <;> rfl

theorem size_5 (s : ByteArray) (c : Int) (h0 : 0 < s.size) (hc : ((s[0].toNat : Nat) : Int) = c) (g1 : c ≥ 237) (g2 : c ≤ 237) (hp : List Ent) : F tab 57 [.d (.str s)] hp = some (.ret (.d (iv (sizeL (bs s)))) hp) := by
  obtain ⟨va, vd⟩ := bs_get h0
  have e := bs_nb h0
  rw [hc] at e
  have xa : (c < 128) = False := eq_false (by omega)
  have xb : (c ≥ 194) = True := eq_true (by omega)
  have xd : (c ≤ 223) = False := eq_false (by omega)
  have xe : (c == 224) = false := by simp <;> omega
  have xf : (c ≥ 225) = True := eq_true (by omega)
  have xh : (c ≤ 239) = True := eq_true (by omega)
  have xi : (c != 237) = false := by simp <;> omega
  have xj : (c == 237) = true := by simp <;> omega
  have xk : (c == 240) = false := by simp <;> omega
  have xl : (c ≥ 241) = False := eq_false (by omega)
  have xm : (c ≤ 243) = True := eq_true (by omega)
  have xn : (c == 244) = false := by simp <;> omega
  have ht : ∀ hp, F tab 71 [.d (.str s), .d (iv 2), .d (.int .u8 128), .d (.int .u8 159)] hp = _ := tail_ok s 2 128 159 (by omega) (by omega)
  refine f57 rfl ?_
  unfold sizeL
  rw [← e]
  rcases Bool.eq_false_or_eq_true (tailL (bs s) 2 128 159) with g | g <;> rw [g] at ht <;>
    simp (disch := omega) only [go_sem, and_self, and_true, true_and, false_and, and_false, Nat.reduceAdd, Nat.reduceMul, Nat.reduceSub, Nat.reduceLeDiff, Nat.reduceLT, Nat.reduceGT, Nat.reduceEqDiff, Nat.reduceBEq, Int.reduceNeg, Int.reduceEq, Int.reduceLT, Int.reduceLE, Int.reduceBEq, Int.reduceToNat, Int.toNat_natCast, Int.natCast_zero, r57_T, r57, va, hc, xa, xb, xd, xe, xf, xh, xi, xj, xk, xl, xm, xn, ht, g, decide_true, decide_false, Bool.true_and, Bool.false_and, Bool.true_or, Bool.false_or, Bool.and_false, Bool.and_true, Int.natCast_one] <;> rfl

theorem size_6 (s : ByteArray) (c : Int) (h0 : 0 < s.size) (hc : ((s[0].toNat : Nat) : Int) = c) (g1 : c ≥ 238) (g2 : c ≤ 239) (hp : List Ent) : F tab 57 [.d (.str s)] hp = some (.ret (.d (iv (sizeL (bs s)))) hp) := by
  obtain ⟨va, vd⟩ := bs_get h0
  have e := bs_nb h0
  rw [hc] at e
  have xa : (c < 128) = False := eq_false (by omega)
  have xb : (c ≥ 194) = True := eq_true (by omega)
  have xd : (c ≤ 223) = False := eq_false (by omega)
  have xe : (c == 224) = false := by simp <;> omega
  have xf : (c ≥ 225) = True := eq_true (by omega)
  have xh : (c ≤ 239) = True := eq_true (by omega)
  have xi : (c != 237) = true := by simp <;> omega
  have xj : (c == 237) = false := by simp <;> omega
  have xk : (c == 240) = false := by simp <;> omega
  have xl : (c ≥ 241) = False := eq_false (by omega)
  have xm : (c ≤ 243) = True := eq_true (by omega)
  have xn : (c == 244) = false := by simp <;> omega
  have ht : ∀ hp, F tab 71 [.d (.str s), .d (iv 2), .d (.int .u8 128), .d (.int .u8 191)] hp = _ := tail_ok s 2 128 191 (by omega) (by omega)
  refine f57 rfl ?_
  unfold sizeL
  rw [← e]
  rcases Bool.eq_false_or_eq_true (tailL (bs s) 2 128 191) with g | g <;> rw [g] at ht <;>
    simp (disch := omega) only [go_sem, and_self, and_true, true_and, false_and, and_false, Nat.reduceAdd, Nat.reduceMul, Nat.reduceSub, Nat.reduceLeDiff, Nat.reduceLT, Nat.reduceGT, Nat.reduceEqDiff, Nat.reduceBEq, Int.reduceNeg, Int.reduceEq, Int.reduceLT, Int.reduceLE, Int.reduceBEq, Int.reduceToNat, Int.toNat_natCast, Int.natCast_zero, r57_T, r57, va, hc, xa, xb, xd, xe, xf, xh, xi, xj, xk, xl, xm, xn, ht, g, decide_true, decide_false, Bool.true_and, Bool.false_and, Bool.true_or, Bool.false_or, Bool.and_false, Bool.and_true, Int.natCast_one] <;> rfl

theorem size_7 (s : ByteArray) (c : Int) (h0 : 0 < s.size) (hc : ((s[0].toNat : Nat) : Int) = c) (g1 : c ≥ 240) (g2 : c ≤ 240) (hp : List Ent) : F tab 57 [.d (.str s)] hp = some (.ret (.d (iv (sizeL (bs s)))) hp) := by
  obtain ⟨va, vd⟩ := bs_get h0
  have e := bs_nb h0
  rw [hc] at e
  have xa : (c < 128) = False := eq_false (by omega)
  have xb : (c ≥ 194) = True := eq_true (by omega)
  have xd : (c ≤ 223) = False := eq_false (by omega)
  have xe : (c == 224) = false := by simp <;> omega
  have xf : (c ≥ 225) = True := eq_true (by omega)
  have xh : (c ≤ 239) = False := eq_false (by omega)
  have xi : (c != 237) = true := by simp <;> omega
  have xj : (c == 237) = false := by simp <;> omega
  have xk : (c == 240) = true := by simp <;> omega
  have xl : (c ≥ 241) = False := eq_false (by omega)
  have xm : (c ≤ 243) = True := eq_true (by omega)
  have xn : (c == 244) = false := by simp <;> omega
  have ht : ∀ hp, F tab 71 [.d (.str s), .d (iv 3), .d (.int .u8 144), .d (.int .u8 191)] hp = _ := tail_ok s 3 144 191 (by omega) (by omega)
  refine f57 rfl ?_
  unfold sizeL
  rw [← e]
  rcases Bool.eq_false_or_eq_true (tailL (bs s) 3 144 191) with g | g <;> rw [g] at ht <;>
    simp (disch := omega) only [go_sem, and_self, and_true, true_and, false_and, and_false, Nat.reduceAdd, Nat.reduceMul, Nat.reduceSub, Nat.reduceLeDiff, Nat.reduceLT, Nat.reduceGT, Nat.reduceEqDiff, Nat.reduceBEq, Int.reduceNeg, Int.reduceEq, Int.reduceLT, Int.reduceLE, Int.reduceBEq, Int.reduceToNat, Int.toNat_natCast, Int.natCast_zero, r57_T, r57, va, hc, xa, xb, xd, xe, xf, xh, xi, xj, xk, xl, xm, xn, ht, g, decide_true, decide_false, Bool.true_and, Bool.false_and, Bool.true_or, Bool.false_or, Bool.and_false, Bool.and_true, Int.natCast_one] <;> rfl

theorem size_8 (s : ByteArray) (c : Int) (h0 : 0 < s.size) (hc : ((s[0].toNat : Nat) : Int) = c) (g1 : c ≥ 241) (g2 : c ≤ 243) (hp : List Ent) : F tab 57 [.d (.str s)] hp = some (.ret (.d (iv (sizeL (bs s)))) hp) := by
  obtain ⟨va, vd⟩ := bs_get h0
  have e := bs_nb h0
  rw [hc] at e
  have xa : (c < 128) = False := eq_false (by omega)
  have xb : (c ≥ 194) = True := eq_true (by omega)
  have xd : (c ≤ 223) = False := eq_false (by omega)
  have xe : (c == 224) = false := by simp <;> omega
  have xf : (c ≥ 225) = True := eq_true (by omega)
  have xh : (c ≤ 239) = False := eq_false (by omega)
  have xi : (c != 237) = true := by simp <;> omega
  have xj : (c == 237) = false := by simp <;> omega
  have xk : (c == 240) = false := by simp <;> omega
  have xl : (c ≥ 241) = True := eq_true (by omega)
  have xm : (c ≤ 243) = True := eq_true (by omega)
  have xn : (c == 244) = false := by simp <;> omega
  have ht : ∀ hp, F tab 71 [.d (.str s), .d (iv 3), .d (.int .u8 128), .d (.int .u8 191)] hp = _ := tail_ok s 3 128 191 (by omega) (by omega)
  refine f57 rfl ?_
  unfold sizeL
  rw [← e]
  rcases Bool.eq_false_or_eq_true (tailL (bs s) 3 128 191) with g | g <;> rw [g] at ht <;>
    simp (disch := omega) only [go_sem, and_self, and_true, true_and, false_and, and_false, Nat.reduceAdd, Nat.reduceMul, Nat.reduceSub, Nat.reduceLeDiff, Nat.reduceLT, Nat.reduceGT, Nat.reduceEqDiff, Nat.reduceBEq, Int.reduceNeg, Int.reduceEq, Int.reduceLT, Int.reduceLE, Int.reduceBEq, Int.reduceToNat, Int.toNat_natCast, Int.natCast_zero, r57_T, r57, va, hc, xa, xb, xd, xe, xf, xh, xi, xj, xk, xl, xm, xn, ht, g, decide_true, decide_false, Bool.true_and, Bool.false_and, Bool.true_or, Bool.false_or, Bool.and_false, Bool.and_true, Int.natCast_one] <;> rfl

theorem size_9 (s : ByteArray) (c : Int) (h0 : 0 < s.size) (hc : ((s[0].toNat : Nat) : Int) = c) (g1 : c ≥ 244) (g2 : c ≤ 244) (hp : List Ent) : F tab 57 [.d (.str s)] hp = some (.ret (.d (iv (sizeL (bs s)))) hp) := by
  obtain ⟨va, vd⟩ := bs_get h0
  have e := bs_nb h0
  rw [hc] at e
  have xa : (c < 128) = False := eq_false (by omega)
  have xb : (c ≥ 194) = True := eq_true (by omega)
  have xd : (c ≤ 223) = False := eq_false (by omega)
  have xe : (c == 224) = false := by simp <;> omega
  have xf : (c ≥ 225) = True := eq_true (by omega)
  have xh : (c ≤ 239) = False := eq_false (by omega)
  have xi : (c != 237) = true := by simp <;> omega
  have xj : (c == 237) = false := by simp <;> omega
  have xk : (c == 240) = false := by simp <;> omega
  have xl : (c ≥ 241) = True := eq_true (by omega)
  have xm : (c ≤ 243) = False := eq_false (by omega)
  have xn : (c == 244) = true := by simp <;> omega
  have ht : ∀ hp, F tab 71 [.d (.str s), .d (iv 3), .d (.int .u8 128), .d (.int .u8 143)] hp = _ := tail_ok s 3 128 143 (by omega) (by omega)
  refine f57 rfl ?_
  unfold sizeL
  rw [← e]
  rcases Bool.eq_false_or_eq_true (tailL (bs s) 3 128 143) with g | g <;> rw [g] at ht <;>
    simp (disch := omega) only [go_sem, and_self, and_true, true_and, false_and, and_false, Nat.reduceAdd, Nat.reduceMul, Nat.reduceSub, Nat.reduceLeDiff, Nat.reduceLT, Nat.reduceGT, Nat.reduceEqDiff, Nat.reduceBEq, Int.reduceNeg, Int.reduceEq, Int.reduceLT, Int.reduceLE, Int.reduceBEq, Int.reduceToNat, Int.toNat_natCast, Int.natCast_zero, r57_T, r57, va, hc, xa, xb, xd, xe, xf, xh, xi, xj, xk, xl, xm, xn, ht, g, decide_true, decide_false, Bool.true_and, Bool.false_and, Bool.true_or, Bool.false_or, Bool.and_false, Bool.and_true, Int.natCast_one] <;> rfl

theorem size_10 (s : ByteArray) (c : Int) (h0 : 0 < s.size) (hc : ((s[0].toNat : Nat) : Int) = c) (g1 : c ≥ 245) (g2 : c ≤ 255) (hp : List Ent) : F tab 57 [.d (.str s)] hp = some (.ret (.d (iv (sizeL (bs s)))) hp) := by
  obtain ⟨va, vd⟩ := bs_get h0
  have e := bs_nb h0
  rw [hc] at e
  have xa : (c < 128) = False := eq_false (by omega)
  have xb : (c ≥ 194) = True := eq_true (by omega)
  have xd : (c ≤ 223) = False := eq_false (by omega)
  have xe : (c == 224) = false := by simp <;> omega
  have xf : (c ≥ 225) = True := eq_true (by omega)
  have xh : (c ≤ 239) = False := eq_false (by omega)
  have xi : (c != 237) = true := by simp <;> omega
  have xj : (c == 237) = false := by simp <;> omega
  have xk : (c == 240) = false := by simp <;> omega
  have xl : (c ≥ 241) = True := eq_true (by omega)
  have xm : (c ≤ 243) = False := eq_false (by omega)
  have xn : (c == 244) = false := by simp <;> omega
  refine f57 rfl ?_
  unfold sizeL
  rw [← e]
  simp (disch := omega) only [go_sem, and_self, and_true, true_and, false_and, and_false, Nat.reduceAdd, Nat.reduceMul, Nat.reduceSub, Nat.reduceLeDiff, Nat.reduceLT, Nat.reduceGT, Nat.reduceEqDiff, Nat.reduceBEq, Int.reduceNeg, Int.reduceEq, Int.reduceLT, Int.reduceLE, Int.reduceBEq, Int.reduceToNat, Int.toNat_natCast, Int.natCast_zero, r57_T, r57, va, hc, xa, xb, xd, xe, xf, xh, xi, xj, xk, xl, xm, xn, decide_true, decide_false, Bool.true_and, Bool.false_and, Bool.true_or, Bool.false_or, Bool.and_false, Bool.and_true, Int.natCast_one]
  try rfl

theorem usize_ok (s : ByteArray) (h0 : 0 < s.size) (hp : List Ent) : F tab 57 [.d (.str s)] hp = some (.ret (.d (iv (sizeL (bs s)))) hp) := by
  have hb : s[0].toNat < 256 := UInt8.toNat_lt _
  by_cases c0 : ((s[0].toNat : Nat) : Int) ≤ 127
  · exact size_0 s _ h0 rfl (by omega) (by omega) hp
  by_cases c1 : ((s[0].toNat : Nat) : Int) ≤ 193
  · exact size_1 s _ h0 rfl (by omega) (by omega) hp
  by_cases c2 : ((s[0].toNat : Nat) : Int) ≤ 223
  · exact size_2 s _ h0 rfl (by omega) (by omega) hp
  by_cases c3 : ((s[0].toNat : Nat) : Int) ≤ 224
  · exact size_3 s _ h0 rfl (by omega) (by omega) hp
  by_cases c4 : ((s[0].toNat : Nat) : Int) ≤ 236
  · exact size_4 s _ h0 rfl (by omega) (by omega) hp
  by_cases c5 : ((s[0].toNat : Nat) : Int) ≤ 237
  · exact size_5 s _ h0 rfl (by omega) (by omega) hp
  by_cases c6 : ((s[0].toNat : Nat) : Int) ≤ 239
  · exact size_6 s _ h0 rfl (by omega) (by omega) hp
  by_cases c7 : ((s[0].toNat : Nat) : Int) ≤ 240
  · exact size_7 s _ h0 rfl (by omega) (by omega) hp
  by_cases c8 : ((s[0].toNat : Nat) : Int) ≤ 243
  · exact size_8 s _ h0 rfl (by omega) (by omega) hp
  by_cases c9 : ((s[0].toNat : Nat) : Int) ≤ 244
  · exact size_9 s _ h0 rfl (by omega) (by omega) hp
  exact size_10 s _ h0 rfl (by omega) (by omega) hp
end Go.Pe.T

namespace Go.Pe.T
inductive BS : PV → PV → List UInt8 → Prop
  | fresh : BS (.bnil bldT) .nilsl []
  | used (out : List UInt8) : BS (.ptr 0 1) (.own bldE (bytesD out)) out
theorem bs_at {A B r lo : PV} {out : List UInt8} (h : BS A B out) : bldAt bldT bldE 0 1 [.box [r, A, B, lo]] = some ([r, A, B, lo], bytesD out) := by
  cases h <;> rfl
theorem bytesD_len (l : List UInt8) : (bytesD l).length = l.length := by simp [bytesD]
theorem bytesD_app (a b : List UInt8) : bytesD a ++ bytesD b = bytesD (a ++ b) := by simp [bytesD]
theorem ws_ok {A B r lo : PV} {out : List UInt8} (h : BS A B out) (s : ByteArray) (hs : out.length + s.size ≤ 140737488355328) : F tab 66 [.ptr 0 1, .d (.str s)] [.box [r, A, B, lo]] = some (.ret (.tup [.d (.int .i64 s.size), .d .nili]) [.box [r, .ptr 0 1, .own bldE (bytesD (out ++ bs s)), lo]]) := by
  have := f66 (bs_at (r := r) (lo := lo) h) (s := s) (by rw [bytesD_len]; exact hs)
  rw [this, show bytesD out ++ bytesD s.data.toList = bytesD (out ++ bs s) from bytesD_app _ _]
  rfl
theorem wb_ok {A B r lo : PV} {out : List UInt8} (h : BS A B out) (c : UInt8) (hs : out.length + 1 ≤ 140737488355328) : F tab 56 [.ptr 0 1, .d (.int .u8 ((c.toNat : Nat) : Int))] [.box [r, A, B, lo]] = some (.ret (.d .nili) [.box [r, .ptr 0 1, .own bldE (bytesD (out ++ [c])), lo]]) := by
  have := f56 (bs_at (r := r) (lo := lo) h) (c := ((c.toNat : Nat) : Int)) (by rw [bytesD_len]; exact hs)
  rw [this, show bytesD out ++ [D.int .u8 ((c.toNat : Nat) : Int)] = bytesD (out ++ [c]) from bytesD_app _ [c]]
  rfl
abbrev rdH (R : List UInt8) (A B lo : PV) : List Ent := [.box [.d (.str (bt R)), A, B, lo]]
def or32B (c : UInt8) : UInt8 := c ||| 32
theorem or32B_all : ∀ n : Fin 256, bitsD .or .u8 (n.val : Int) 32 = some (.int .u8 (((UInt8.ofNat n.val) ||| 32).toNat : Int)) := by
  intro n
  have h : ∀ n : Fin 256, IntKind.u8.wrap ((BitVec.ofInt IntKind.u8.bits (n.val : Int) ||| BitVec.ofInt IntKind.u8.bits 32).toNat : Int) = (((UInt8.ofNat n.val) ||| 32).toNat : Int) := by decide +kernel
  show some (D.int .u8 _) = _
  rw [h n]
theorem or32B_ok (c : UInt8) : bitsD .or .u8 ((c.toNat : Nat) : Int) 32 = some (.int .u8 (((or32B c).toNat : Nat) : Int)) := by
  have := or32B_all ⟨c.toNat, c.toNat_lt⟩
  simpa [or32B] using this
def hexL : List UInt8 := [48, 49, 50, 51, 52, 53, 54, 55, 56, 57, 97, 98, 99, 100, 101, 102]
def hexP (c : UInt8) : Option Int := if Lib.indexByte hexL (or32B c) < 0 ∨ c.toNat < 48 then none else some (Lib.indexByte hexL (or32B c))
def shlI (n : Int) (k : Nat) : Int := IntKind.i32.wrap (n * 2 ^ min k IntKind.i32.bits)
theorem shl4_ok (n : Int) : shiftD .shl .i32 n 4 = some (.int .i32 (shlI n 4)) := rfl
theorem shl10_ok (n : Int) : shiftD .shl .i32 n 10 = some (.int .i32 (shlI n 10)) := rfl
def orI (a b : Int) : Int := IntKind.i32.wrap ((BitVec.ofInt IntKind.i32.bits a ||| BitVec.ofInt IntKind.i32.bits b).toNat : Int)
theorem orI_ok (a b : Int) : bitsD .or .i32 a b = some (.int .i32 (orI a b)) := rfl
def stR (n k : Int) : Int := orI (shlI n 4) (IntKind.i32.wrap k)
def fourF : Nat → List UInt8 → Int → Option Int
  | 0, _, n => some n
  | _ + 1, [], _ => none
  | k + 1, c :: r, n => match hexP c with
    | some d => fourF k r (stR n d)
    | none => none
def fourP (R : List UInt8) : Option (Int × List UInt8) := if R.length < 4 then none else (fourF 4 R 0).map (·, R.drop 4)
def foR (hp : List Ent) : Option Int → Option (Ex × St)
  | some m => some (.norm, r78_E0 (.ptr 0 0) (.d (.int .i32 m)) hp)
  | none => some (.ret, r78_R (.d (.int .i32 0)) (.d (.bool false)) hp)
def FoIs (R : List UInt8) (A B lo : PV) (i : Nat) (n : Int) : Prop :=
  V (F tab) r78_B0 (r78_S0 (.ptr 0 0) (.d (.int .i32 n)) (.d (iv i)) (rdH R A B lo)) = foR (rdH R A B lo) (fourF (4 - i) (R.drop i) n)
theorem fo_end (R : List UInt8) (A B lo : PV) (n : Int) : FoIs R A B lo 4 n := by
  unfold FoIs
  have h1 : (((4 : Nat) : Int) < 4) = False := eq_false (by decide)
  rw [r78_B0_eq]
  simp (disch := omega) only [go_sem, and_self, and_true, true_and, false_and, and_false, Nat.reduceAdd, Nat.reduceMul, Nat.reduceSub, Nat.reduceLeDiff, Nat.reduceLT, Nat.reduceGT, Nat.reduceEqDiff, Nat.reduceBEq, Int.reduceNeg, Int.reduceEq, Int.reduceLT, Int.reduceLE, Int.reduceBEq, Int.reduceToNat, Int.toNat_natCast, Int.natCast_zero, r78_C0, h1, foR, fourF, Nat.sub_self]
theorem fo_step (R : List UInt8) (A B lo : PV) (i : Nat) (n : Int) (hi : i < 4) (hR : 4 ≤ R.length) (ih : ∀ m, FoIs R A B lo (i + 1) m) : FoIs R A B lo i n := by
  have h1 : ((i : Int) < 4) = True := eq_true (by omega)
  have i0 : (0 ≤ (i : Int)) = True := eq_true (by omega)
  have e1 : (i : Int) + 1 = ((i + 1 : Nat) : Int) := rfl
  have hx : R[i]? = some R[i] := List.getElem?_eq_getElem (by omega)
  have hd : R.drop i = R[i] :: R.drop (i + 1) := List.drop_eq_getElem_cons (by omega)
  have hg := bt_get R i
  rw [hx] at hg
  have hb := or32B_ok R[i]
  have hib := ib_ok hexL (or32B R[i])
  unfold hexL at hib
  have hs := shl4_ok n
  have hor := orI_ok
  unfold FoIs
  rw [hd, show 4 - i = (4 - (i + 1)) + 1 by omega, fourF]
  rw [r78_B0_eq]
  generalize R[i] = c at *
  unfold hexP
  by_cases g1 : Lib.indexByte hexL (or32B c) < 0
  · have k1 : (Lib.indexByte hexL (or32B c) < 0) = True := eq_true g1
    unfold hexL at k1
    rw [if_pos (.inl g1)]
    simp (disch := omega) only [go_sem, and_self, and_true, true_and, false_and, and_false, Nat.reduceAdd, Nat.reduceMul, Nat.reduceSub, Nat.reduceLeDiff, Nat.reduceLT, Nat.reduceGT, Nat.reduceEqDiff, Nat.reduceBEq, Int.reduceNeg, Int.reduceEq, Int.reduceLT, Int.reduceLE, Int.reduceBEq, Int.reduceToNat, Int.toNat_natCast, Int.natCast_zero, r78_C0, h1, i0, hg, hb, hib, k1, foR]
  · have k1 : (Lib.indexByte hexL (or32B c) < 0) = False := eq_false g1
    by_cases g2 : c.toNat < 48
    · have k2 : (((c.toNat : Nat) : Int) < 48) = True := eq_true (by omega)
      unfold hexL at k1
      rw [if_pos (.inr g2)]
      simp (disch := omega) only [go_sem, and_self, and_true, true_and, false_and, and_false, Nat.reduceAdd, Nat.reduceMul, Nat.reduceSub, Nat.reduceLeDiff, Nat.reduceLT, Nat.reduceGT, Nat.reduceEqDiff, Nat.reduceBEq, Int.reduceNeg, Int.reduceEq, Int.reduceLT, Int.reduceLE, Int.reduceBEq, Int.reduceToNat, Int.toNat_natCast, Int.natCast_zero, r78_C0, h1, i0, hg, hb, hib, k1, k2, foR]
    · have k2 : (((c.toNat : Nat) : Int) < 48) = False := eq_false (by omega)
      have ih1 := ih (stR n (Lib.indexByte hexL (or32B c)))
      rw [if_neg (by rintro (h | h) <;> contradiction)]
      unfold FoIs stR at ih1
      unfold stR
      unfold hexL at k1 ih1 ⊢
      simp (disch := omega) only [go_sem, and_self, and_true, true_and, false_and, and_false, Nat.reduceAdd, Nat.reduceMul, Nat.reduceSub, Nat.reduceLeDiff, Nat.reduceLT, Nat.reduceGT, Nat.reduceEqDiff, Nat.reduceBEq, Int.reduceNeg, Int.reduceEq, Int.reduceLT, Int.reduceLE, Int.reduceBEq, Int.reduceToNat, Int.toNat_natCast, Int.natCast_zero, r78_C0, h1, i0, hg, hb, hib, k1, k2, hs, hor, e1, w64]
      exact ih1
theorem fo_loop (R : List UInt8) (A B lo : PV) (hR : 4 ≤ R.length) : ∀ (d i : Nat) (n : Int), i + d = 4 → FoIs R A B lo i n
  | 0, i, n, h => by rw [show i = 4 by omega]; exact fo_end R A B lo n
  | d + 1, i, n, h => fo_step R A B lo i n (by omega) hR fun m => fo_loop R A B lo hR d (i + 1) m (by omega)
theorem four_ok (R : List UInt8) (A B lo : PV) (hl : R.length ≤ 100000) : F tab 78 [.ptr 0 0] (rdH R A B lo) = some (match fourP R with
    | some (n, R') => .ret (.tup [.d (.int .i32 n), .d (.bool true)]) (rdH R' A B lo)
    | none => .ret (.tup [.d (.int .i32 0), .d (.bool false)]) (rdH R A B lo)) := by
  have hz := bt_size R
  refine f78 ?_
  unfold fourP
  by_cases h : R.length < 4
  · have h1 : ((R.length : Int) < 4) = True := eq_true (by omega)
    rw [if_pos h]
    simp (disch := omega) only [go_sem, and_self, and_true, true_and, false_and, and_false, Nat.reduceAdd, Nat.reduceMul, Nat.reduceSub, Nat.reduceLeDiff, Nat.reduceLT, Nat.reduceGT, Nat.reduceEqDiff, Nat.reduceBEq, Int.reduceNeg, Int.reduceEq, Int.reduceLT, Int.reduceLE, Int.reduceBEq, Int.reduceToNat, Int.toNat_natCast, Int.natCast_zero, r78_T, r78, hz, h1]
  · have h1 : ((R.length : Int) < 4) = False := eq_false (by omega)
    have hL := fo_loop R A B lo (by omega) 4 0 0 rfl
    unfold FoIs at hL
    rw [List.drop_zero, Nat.sub_zero] at hL
    have hL : V (F tab) r78_B0 (r78_S0 (.ptr 0 0) (.d (.int .i32 0)) (.d (iv 0)) (rdH R A B lo)) = _ := hL
    rw [if_neg h]
    have hcut : (bt R).extract 4 R.length = bt (R.drop 4) := bt_from R 4 _ rfl
    have h5 : ((4 : Int) ≤ (R.length : Int)) = True := eq_true (by omega)
    have h6 : ((R.length : Int) ≤ (R.length : Int)) = True := eq_true (by omega)
    simp (disch := omega) only [go_sem, and_self, and_true, true_and, false_and, and_false, Nat.reduceAdd, Nat.reduceMul, Nat.reduceSub, Nat.reduceLeDiff, Nat.reduceLT, Nat.reduceGT, Nat.reduceEqDiff, Nat.reduceBEq, Int.reduceNeg, Int.reduceEq, Int.reduceLT, Int.reduceLE, Int.reduceBEq, Int.reduceToNat, Int.toNat_natCast, Int.natCast_zero, r78_T, r78, hz, h1]
    rw [r78_B0_n]
    erw [hL]
    cases fourF 4 R 0 with
    | none => simp (disch := omega) only [go_sem, and_self, and_true, true_and, false_and, and_false, Nat.reduceAdd, Nat.reduceMul, Nat.reduceSub, Nat.reduceLeDiff, Nat.reduceLT, Nat.reduceGT, Nat.reduceEqDiff, Nat.reduceBEq, Int.reduceNeg, Int.reduceEq, Int.reduceLT, Int.reduceLE, Int.reduceBEq, Int.reduceToNat, Int.toNat_natCast, Int.natCast_zero, foR, Option.map_none]
    | some m => simp (disch := omega) only [go_sem, and_self, and_true, true_and, false_and, and_false, Nat.reduceAdd, Nat.reduceMul, Nat.reduceSub, Nat.reduceLeDiff, Nat.reduceLT, Nat.reduceGT, Nat.reduceEqDiff, Nat.reduceBEq, Int.reduceNeg, Int.reduceEq, Int.reduceLT, Int.reduceLE, Int.reduceBEq, Int.reduceToNat, Int.toNat_natCast, Int.natCast_zero, foR, Option.map_some, hz, hcut, h5, h6]
def encL (n : Int) : List UInt8 := (Utf8.encode n).data.toList
theorem encL_le (n : Int) : (Utf8.encode n).size ≤ 4 := by
  unfold Utf8.encode
  simp only
  repeat' split
  all_goals (show (Array.size _) ≤ 4; simp)
def preU (R : List UInt8) : Bool := R.take 2 == [92, 117]
theorem hasPreU_ok (L : List UInt8) (hp : List Ent) : F tab 64 [.d (.str (bt L)), .d (.str ⟨#[92, 117]⟩)] hp = some (.ret (.d (.bool (preU L))) hp) := by
  have e2 : (⟨#[92, 117]⟩ : ByteArray).size = 2 := rfl
  obtain ⟨n, hn⟩ : ∃ n, n = L.length := ⟨_, rfl⟩
  have hz : (bt L).size = n := hn ▸ bt_size L
  have h0 : ∀ hp : List Ent, F tab 58 [.d (.str (bt L)), .d (.str ⟨#[92, 117]⟩)] hp = some (.ret (.d (.bool (preU L))) hp) := by
    intro hp
    refine f58 rfl ?_
    unfold preU
    by_cases h : 2 ≤ n
    · have k : ((n : Int) ≥ ((2 : Nat) : Int)) = True := eq_true (by omega)
      have k1 : (((2 : Nat) : Int) ≤ (n : Int)) = True := eq_true (by omega)
      have k2 : (0 ≤ ((2 : Nat) : Int)) = True := eq_true (by omega)
      have hx : (bt L).extract 0 2 = bt (L.take 2) := bt_to L 2
      have hq : ((bt (L.take 2)).toList == (⟨#[92, 117]⟩ : ByteArray).toList) = (L.take 2 == [92, 117]) := by
        rw [show (⟨#[92, 117]⟩ : ByteArray) = bt [92, 117] from rfl, bt_list, bt_list]
      simp (disch := omega) only [go_sem, and_self, and_true, true_and, false_and, and_false, Nat.reduceAdd, Nat.reduceMul, Nat.reduceSub, Nat.reduceLeDiff, Nat.reduceLT, Nat.reduceGT, Nat.reduceEqDiff, Nat.reduceBEq, Int.reduceNeg, Int.reduceEq, Int.reduceLT, Int.reduceLE, Int.reduceBEq, Int.reduceToNat, Int.toNat_natCast, Int.natCast_zero, strD_eql, r58_T, r58, hz, e2, k, k1, k2, hx, hq]
    · have k : ((n : Int) ≥ ((2 : Nat) : Int)) = False := eq_false (by omega)
      have hq : (L.take 2 == [92, 117]) = false := by
        have : L.take 2 ≠ [92, 117] := fun e => by have := congrArg List.length e; simp at this; omega
        simpa using this
      rw [hq]
      simp (disch := omega) only [go_sem, and_self, and_true, true_and, false_and, and_false, Nat.reduceAdd, Nat.reduceMul, Nat.reduceSub, Nat.reduceLeDiff, Nat.reduceLT, Nat.reduceGT, Nat.reduceEqDiff, Nat.reduceBEq, Int.reduceNeg, Int.reduceEq, Int.reduceLT, Int.reduceLE, Int.reduceBEq, Int.reduceToNat, Int.toNat_natCast, Int.natCast_zero, r58_T, r58, hz, e2, k]
  refine f64 rfl ?_
  simp only [go_sem, and_self, and_true, true_and, false_and, and_false, Nat.reduceAdd, Nat.reduceMul, Nat.reduceSub, Nat.reduceLeDiff, Nat.reduceLT, Nat.reduceGT, Nat.reduceEqDiff, Nat.reduceBEq, Int.reduceNeg, Int.reduceEq, Int.reduceLT, Int.reduceLE, Int.reduceBEq, Int.reduceToNat, Int.toNat_natCast, Int.natCast_zero, r64_T, r64, h0]
def surr (a b : Int) : Int := IntKind.i32.wrap (IntKind.i32.wrap (65536 + shlI (IntKind.i32.wrap (a - 55296)) 10) + IntKind.i32.wrap (b - 56320))
def pairP (R out : List UInt8) (lone : Bool) : Option (List UInt8 × List UInt8 × Bool) :=
  match fourP R with
  | none => none
  | some (a, R1) =>
    if a < 55296 ∨ a > 57343 then some (R1, out ++ encL a, lone)
    else if a > 56319 ∨ preU R1 = false then some (R1, out, true)
    else match fourP (R1.drop 2) with
      | none => none
      | some (b, R2) => if b < 56320 ∨ b > 57343 then some (R1, out, true) else some (R2, out ++ encL (surr a b), lone)
theorem pr_k1 (R : List UInt8) {A B : PV} {out : List UInt8} (h : BS A B out) (ho : out.length ≤ 10000000) (lo : PV) (a b : Int) : V (F tab) (r69_K1 ()) (r69_J1 (.ptr 0 0) (.d (.int .i32 a)) (.d (.int .i32 b)) (rdH R A B lo)) = some (.ret, r69_R (.d (.bool true)) (rdH R (.ptr 0 1) (.own bldE (bytesD (out ++ encL (surr a b)))) lo)) := by
  have hw := ws_ok (r := .d (.str (bt R))) (lo := lo) h (Utf8.encode (surr a b)) (by have := encL_le (surr a b); omega)
  unfold surr at hw ⊢
  have hs := shl10_ok
  simp (disch := omega) only [go_sem, and_self, and_true, true_and, false_and, and_false, Nat.reduceAdd, Nat.reduceMul, Nat.reduceSub, Nat.reduceLeDiff, Nat.reduceLT, Nat.reduceGT, Nat.reduceEqDiff, Nat.reduceBEq, Int.reduceNeg, Int.reduceEq, Int.reduceLT, Int.reduceLE, Int.reduceBEq, Int.reduceToNat, Int.toNat_natCast, Int.natCast_zero, r69_K1, hs, hw]
  rfl
end Go.Pe.T

namespace Go.Pe.T
abbrev bP (b : Bool) : PV := .d (.bool b)
def PrRes (f : PV → List Ent → St) (o : Option (List UInt8 × List UInt8 × Bool)) (r : Option (Ex × St)) : Prop :=
  match o with
  | some (R', out', lone') => ∃ A' B', BS A' B' out' ∧ r = some (.ret, f (.d (.bool true)) (rdH R' A' B' (bP lone')))
  | none => ∃ hp', r = some (.ret, f (.d (.bool false)) hp')
theorem pr_k2 (R1 R2 : List UInt8) {A B : PV} {out : List UInt8} (h : BS A B out) (ho : out.length ≤ 10000000) (lone : Bool) (a b : Int) :
    PrRes r69_R (if b < 56320 ∨ b > 57343 then some (R1, out, true) else some (R2, out ++ encL (surr a b), lone)) (V (F tab) (r69_K2 ()) (r69_J2 (.ptr 0 0) (.d (.int .i32 a)) (.d (.str (bt R1))) (.d (.int .i32 b)) (rdH R2 A B (bP lone)))) := by
  have k1 := pr_k1 R2 h ho (bP lone) a b
  by_cases g1 : b < 56320
  · have q1 : (b < 56320) = True := eq_true g1
    rw [if_pos (.inl g1)]
    refine ⟨A, B, h, ?_⟩
    simp (disch := omega) only [go_sem, and_self, and_true, true_and, false_and, and_false, Nat.reduceAdd, Nat.reduceMul, Nat.reduceSub, Nat.reduceLeDiff, Nat.reduceLT, Nat.reduceGT, Nat.reduceEqDiff, Nat.reduceBEq, Int.reduceNeg, Int.reduceEq, Int.reduceLT, Int.reduceLE, Int.reduceBEq, Int.reduceToNat, Int.toNat_natCast, Int.natCast_zero, r69_K2, q1]
  · have q1 : (b < 56320) = False := eq_false g1
    by_cases g2 : b > 57343
    · have q2 : (b > 57343) = True := eq_true g2
      rw [if_pos (.inr g2)]
      refine ⟨A, B, h, ?_⟩
      simp (disch := omega) only [go_sem, and_self, and_true, true_and, false_and, and_false, Nat.reduceAdd, Nat.reduceMul, Nat.reduceSub, Nat.reduceLeDiff, Nat.reduceLT, Nat.reduceGT, Nat.reduceEqDiff, Nat.reduceBEq, Int.reduceNeg, Int.reduceEq, Int.reduceLT, Int.reduceLE, Int.reduceBEq, Int.reduceToNat, Int.toNat_natCast, Int.natCast_zero, r69_K2, q1, q2]
    · have q2 : (b > 57343) = False := eq_false g2
      rw [if_neg (by rintro (h | h) <;> contradiction)]
      refine ⟨_, _, .used _, ?_⟩
      simp (disch := omega) only [go_sem, and_self, and_true, true_and, false_and, and_false, Nat.reduceAdd, Nat.reduceMul, Nat.reduceSub, Nat.reduceLeDiff, Nat.reduceLT, Nat.reduceGT, Nat.reduceEqDiff, Nat.reduceBEq, Int.reduceNeg, Int.reduceEq, Int.reduceLT, Int.reduceLE, Int.reduceBEq, Int.reduceToNat, Int.toNat_natCast, Int.natCast_zero, r69_K2, q1, q2, k1]
theorem fourP_len {R R' : List UInt8} {n : Int} (h : fourP R = some (n, R')) : R'.length + 4 ≤ R.length ∧ R' = R.drop 4 := by
  unfold fourP at h
  split at h
  · simp at h
  · obtain ⟨m, h1, h2⟩ := Option.map_eq_some_iff.1 h
    simp only [Prod.mk.injEq] at h2
    refine ⟨?_, h2.2.symm⟩
    rw [← h2.2]
    simp
    omega
theorem pr_k4 (R1 : List UInt8) (hR : R1.length ≤ 100000) (h2 : 2 ≤ R1.length) {A B : PV} {out : List UInt8} (h : BS A B out) (ho : out.length ≤ 10000000) (lone : Bool) (a : Int) :
    PrRes r69_R (match fourP (R1.drop 2) with
      | none => none
      | some (b, R2) => if b < 56320 ∨ b > 57343 then some (R1, out, true) else some (R2, out ++ encL (surr a b), lone)) (V (F tab) (r69_K4 ()) (r69_J4 (.ptr 0 0) (.d (.int .i32 a)) (rdH R1 A B (bP lone)))) := by
  obtain ⟨n, hn⟩ : ∃ n, n = R1.length := ⟨_, rfl⟩
  have hz : (bt R1).size = n := hn ▸ bt_size R1
  have hcut : (bt R1).extract 2 n = bt (R1.drop 2) := bt_from R1 2 n hn
  have h5 : ((2 : Int) ≤ (n : Int)) = True := eq_true (by omega)
  have h6 : ((n : Int) ≤ (n : Int)) = True := eq_true (by omega)
  have hf := four_ok (R1.drop 2) A B (bP lone) (by simp; omega)
  cases hq : fourP (R1.drop 2) with
  | none =>
    rw [hq] at hf
    refine ⟨rdH (R1.drop 2) A B (bP lone), ?_⟩
    simp (disch := omega) only [go_sem, and_self, and_true, true_and, false_and, and_false, Nat.reduceAdd, Nat.reduceMul, Nat.reduceSub, Nat.reduceLeDiff, Nat.reduceLT, Nat.reduceGT, Nat.reduceEqDiff, Nat.reduceBEq, Int.reduceNeg, Int.reduceEq, Int.reduceLT, Int.reduceLE, Int.reduceBEq, Int.reduceToNat, Int.toNat_natCast, Int.natCast_zero, r69_K4, hz, hcut, h5, h6, hf]
  | some p =>
    obtain ⟨b, R2⟩ := p
    rw [hq] at hf
    have k2 := pr_k2 R1 R2 h ho lone a b
    simp (disch := omega) only [go_sem, and_self, and_true, true_and, false_and, and_false, Nat.reduceAdd, Nat.reduceMul, Nat.reduceSub, Nat.reduceLeDiff, Nat.reduceLT, Nat.reduceGT, Nat.reduceEqDiff, Nat.reduceBEq, Int.reduceNeg, Int.reduceEq, Int.reduceLT, Int.reduceLE, Int.reduceBEq, Int.reduceToNat, Int.toNat_natCast, Int.natCast_zero, r69_K4, hz, hcut, h5, h6, hf]
    exact k2
theorem pr_k5 (R1 : List UInt8) (hR : R1.length ≤ 100000) {A B : PV} {out : List UInt8} (h : BS A B out) (ho : out.length ≤ 10000000) (lone : Bool) (a : Int) :
    PrRes r69_R (if a > 56319 ∨ preU R1 = false then some (R1, out, true) else match fourP (R1.drop 2) with
      | none => none
      | some (b, R2) => if b < 56320 ∨ b > 57343 then some (R1, out, true) else some (R2, out ++ encL (surr a b), lone)) (V (F tab) (r69_K5 ()) (r69_J5 (.ptr 0 0) (.d (.int .i32 a)) (rdH R1 A B (bP lone)))) := by
  have hp := hasPreU_ok R1
  by_cases g1 : a > 56319
  · have q1 : (a > 56319) = True := eq_true g1
    rw [if_pos (.inl g1)]
    refine ⟨A, B, h, ?_⟩
    simp (disch := omega) only [go_sem, and_self, and_true, true_and, false_and, and_false, Nat.reduceAdd, Nat.reduceMul, Nat.reduceSub, Nat.reduceLeDiff, Nat.reduceLT, Nat.reduceGT, Nat.reduceEqDiff, Nat.reduceBEq, Int.reduceNeg, Int.reduceEq, Int.reduceLT, Int.reduceLE, Int.reduceBEq, Int.reduceToNat, Int.toNat_natCast, Int.natCast_zero, r69_K5, q1]
  · have q1 : (a > 56319) = False := eq_false g1
    rcases Bool.eq_false_or_eq_true (preU R1) with g2 | g2
    · have h2 : 2 ≤ R1.length := by
        unfold preU at g2
        have := congrArg List.length (beq_iff_eq.1 g2)
        simp at this
        omega
      have k4 := pr_k4 R1 hR h2 h ho lone a
      rw [if_neg (by rintro (h | h); exact g1 h; rw [g2] at h; simp at h)]
      rw [g2] at hp
      simp (disch := omega) only [go_sem, and_self, and_true, true_and, false_and, and_false, Nat.reduceAdd, Nat.reduceMul, Nat.reduceSub, Nat.reduceLeDiff, Nat.reduceLT, Nat.reduceGT, Nat.reduceEqDiff, Nat.reduceBEq, Int.reduceNeg, Int.reduceEq, Int.reduceLT, Int.reduceLE, Int.reduceBEq, Int.reduceToNat, Int.toNat_natCast, Int.natCast_zero, r69_K5, q1, hp]
      exact k4
    · rw [if_pos (.inr g2)]
      rw [g2] at hp
      refine ⟨A, B, h, ?_⟩
      simp (disch := omega) only [go_sem, and_self, and_true, true_and, false_and, and_false, Nat.reduceAdd, Nat.reduceMul, Nat.reduceSub, Nat.reduceLeDiff, Nat.reduceLT, Nat.reduceGT, Nat.reduceEqDiff, Nat.reduceBEq, Int.reduceNeg, Int.reduceEq, Int.reduceLT, Int.reduceLE, Int.reduceBEq, Int.reduceToNat, Int.toNat_natCast, Int.natCast_zero, r69_K5, q1, hp]
theorem pr_k6 (R1 : List UInt8) (hR : R1.length ≤ 100000) {A B : PV} {out : List UInt8} (h : BS A B out) (ho : out.length ≤ 10000000) (lone : Bool) (a : Int) :
    PrRes r69_R (if a < 55296 ∨ a > 57343 then some (R1, out ++ encL a, lone) else if a > 56319 ∨ preU R1 = false then some (R1, out, true) else match fourP (R1.drop 2) with
      | none => none
      | some (b, R2) => if b < 56320 ∨ b > 57343 then some (R1, out, true) else some (R2, out ++ encL (surr a b), lone)) (V (F tab) (r69_K6 ()) (r69_J6 (.ptr 0 0) (.d (.int .i32 a)) (rdH R1 A B (bP lone)))) := by
  have hw := ws_ok (r := .d (.str (bt R1))) (lo := bP lone) h (Utf8.encode a) (by have := encL_le a; omega)
  have k5 := pr_k5 R1 hR h ho lone a
  by_cases g1 : a < 55296
  · have q1 : (a < 55296) = True := eq_true g1
    rw [if_pos (.inl g1)]
    refine ⟨_, _, .used _, ?_⟩
    simp (disch := omega) only [go_sem, and_self, and_true, true_and, false_and, and_false, Nat.reduceAdd, Nat.reduceMul, Nat.reduceSub, Nat.reduceLeDiff, Nat.reduceLT, Nat.reduceGT, Nat.reduceEqDiff, Nat.reduceBEq, Int.reduceNeg, Int.reduceEq, Int.reduceLT, Int.reduceLE, Int.reduceBEq, Int.reduceToNat, Int.toNat_natCast, Int.natCast_zero, r69_K6, q1, hw]
    rfl
  · have q1 : (a < 55296) = False := eq_false g1
    by_cases g2 : a > 57343
    · have q2 : (a > 57343) = True := eq_true g2
      rw [if_pos (.inr g2)]
      refine ⟨_, _, .used _, ?_⟩
      simp (disch := omega) only [go_sem, and_self, and_true, true_and, false_and, and_false, Nat.reduceAdd, Nat.reduceMul, Nat.reduceSub, Nat.reduceLeDiff, Nat.reduceLT, Nat.reduceGT, Nat.reduceEqDiff, Nat.reduceBEq, Int.reduceNeg, Int.reduceEq, Int.reduceLT, Int.reduceLE, Int.reduceBEq, Int.reduceToNat, Int.toNat_natCast, Int.natCast_zero, r69_K6, q1, q2, hw]
      rfl
    · have q2 : (a > 57343) = False := eq_false g2
      rw [if_neg (by rintro (h | h) <;> contradiction)]
      simp (disch := omega) only [go_sem, and_self, and_true, true_and, false_and, and_false, Nat.reduceAdd, Nat.reduceMul, Nat.reduceSub, Nat.reduceLeDiff, Nat.reduceLT, Nat.reduceGT, Nat.reduceEqDiff, Nat.reduceBEq, Int.reduceNeg, Int.reduceEq, Int.reduceLT, Int.reduceLE, Int.reduceBEq, Int.reduceToNat, Int.toNat_natCast, Int.natCast_zero, r69_K6, q1, q2]
      exact k5
def RdRes (o : Option (List UInt8 × List UInt8 × Bool)) (r : Option Out) : Prop :=
  match o with
  | some (R', out', lone') => ∃ A' B', BS A' B' out' ∧ r = some (.ret (.d (.bool true)) (rdH R' A' B' (bP lone')))
  | none => ∃ hp', r = some (.ret (.d (.bool false)) hp')
theorem pair_ok (R : List UInt8) (hR : R.length ≤ 100000) {A B : PV} {out : List UInt8} (h : BS A B out) (ho : out.length ≤ 10000000) (lone : Bool) : RdRes (pairP R out lone) (F tab 69 [.ptr 0 0] (rdH R A B (bP lone))) := by
  have hf := four_ok R A B (bP lone) hR
  unfold pairP
  cases hq : fourP R with
  | none =>
    rw [hq] at hf
    refine ⟨rdH R A B (bP lone), f69 ?_⟩
    simp (disch := omega) only [go_sem, and_self, and_true, true_and, false_and, and_false, Nat.reduceAdd, Nat.reduceMul, Nat.reduceSub, Nat.reduceLeDiff, Nat.reduceLT, Nat.reduceGT, Nat.reduceEqDiff, Nat.reduceBEq, Int.reduceNeg, Int.reduceEq, Int.reduceLT, Int.reduceLE, Int.reduceBEq, Int.reduceToNat, Int.toNat_natCast, Int.natCast_zero, r69_T, r69, hf]
  | some p =>
    obtain ⟨a, R1⟩ := p
    rw [hq] at hf
    obtain ⟨hl, _⟩ := fourP_len hq
    have k6 := pr_k6 R1 (by omega) h ho lone a
    simp only
    generalize (if a < 55296 ∨ a > 57343 then some (R1, out ++ encL a, lone) else if a > 56319 ∨ preU R1 = false then some (R1, out, true) else match fourP (R1.drop 2) with
      | none => none
      | some (b, R2) => if b < 56320 ∨ b > 57343 then some (R1, out, true) else some (R2, out ++ encL (surr a b), lone)) = o at *
    cases o with
    | none =>
      obtain ⟨hp', e⟩ := k6
      refine ⟨hp', f69 ?_⟩
      simp (disch := omega) only [go_sem, and_self, and_true, true_and, false_and, and_false, Nat.reduceAdd, Nat.reduceMul, Nat.reduceSub, Nat.reduceLeDiff, Nat.reduceLT, Nat.reduceGT, Nat.reduceEqDiff, Nat.reduceBEq, Int.reduceNeg, Int.reduceEq, Int.reduceLT, Int.reduceLE, Int.reduceBEq, Int.reduceToNat, Int.toNat_natCast, Int.natCast_zero, r69_T, r69, hf, e]
    | some p =>
      obtain ⟨R', out', lone'⟩ := p
      obtain ⟨A', B', hb, e⟩ := k6
      refine ⟨A', B', hb, f69 ?_⟩
      simp (disch := omega) only [go_sem, and_self, and_true, true_and, false_and, and_false, Nat.reduceAdd, Nat.reduceMul, Nat.reduceSub, Nat.reduceLeDiff, Nat.reduceLT, Nat.reduceGT, Nat.reduceEqDiff, Nat.reduceBEq, Int.reduceNeg, Int.reduceEq, Int.reduceLT, Int.reduceLE, Int.reduceBEq, Int.reduceToNat, Int.toNat_natCast, Int.natCast_zero, r69_T, r69, hf, e]
def escI : List UInt8 := [34, 92, 47, 98, 102, 110, 114, 116]
def escO : List UInt8 := [34, 92, 47, 8, 12, 10, 13, 9]
def escP (R out : List UInt8) (lone : Bool) : Option (List UInt8 × List UInt8 × Bool) :=
  match R with
  | [] => none
  | c :: r => if c == 117 then pairP r out lone else match escO[(Lib.indexByte escI c).toNat]? with
    | some d => if Lib.indexByte escI c < 0 then none else some (r, out ++ [d], lone)
    | none => none
theorem ib_lt : ∀ (l : List UInt8) (c : UInt8), Lib.indexByte l c < (l.length : Int) ∨ l = []
  | [], c => .inr rfl
  | b :: l, c => by
    refine .inl ?_
    unfold Lib.indexByte
    split
    · simp <;> omega
    · split
      · simp <;> omega
      · rcases ib_lt l c with h | h
        · simp only [List.length_cons]; omega
        · subst h; rename_i h1 h2; simp [Lib.indexByte] at h2
theorem esc_some (c : UInt8) : ∃ d, escO[(Lib.indexByte escI c).toNat]? = some d := by
  have h := ib_lt escI c
  have : (Lib.indexByte escI c).toNat < escO.length := by
    rcases h with h | h
    · have e : (escI.length : Int) = 8 := rfl
      have e2 : escO.length = 8 := rfl
      omega
    · simp [escI] at h
  exact ⟨_, List.getElem?_eq_getElem this⟩
theorem escape_ok (R : List UInt8) (hR : R.length ≤ 100000) {A B : PV} {out : List UInt8} (h : BS A B out) (ho : out.length ≤ 10000000) (lone : Bool) : RdRes (escP R out lone) (F tab 55 [.ptr 0 0] (rdH R A B (bP lone))) := by
  cases R with
  | nil =>
    have hq : ((bt ([] : List UInt8)).toList == (⟨#[]⟩ : ByteArray).toList) = true := by rw [show (⟨#[]⟩ : ByteArray) = bt [] from rfl, bt_list]; rfl
    refine ⟨rdH [] A B (bP lone), f55 ?_⟩
    simp (disch := omega) only [go_sem, and_self, and_true, true_and, false_and, and_false, Nat.reduceAdd, Nat.reduceMul, Nat.reduceSub, Nat.reduceLeDiff, Nat.reduceLT, Nat.reduceGT, Nat.reduceEqDiff, Nat.reduceBEq, Int.reduceNeg, Int.reduceEq, Int.reduceLT, Int.reduceLE, Int.reduceBEq, Int.reduceToNat, Int.toNat_natCast, Int.natCast_zero, strD_eql, r55_T, r55, hq]
  | cons c r =>
    obtain ⟨n, hn⟩ : ∃ n, n = (c :: r).length := ⟨_, rfl⟩
    have hz : (bt (c :: r)).size = n := hn ▸ bt_size (c :: r)
    have hg : (bt (c :: r))[0]? = some c := bt_get (c :: r) 0
    have hq : ((bt (c :: r)).toList == (⟨#[]⟩ : ByteArray).toList) = false := by
      rw [show (⟨#[]⟩ : ByteArray) = bt [] from rfl, bt_list, bt_list]; rfl
    have hcut : (bt (c :: r)).extract 1 n = bt r := bt_from (c :: r) 1 n hn
    have h5 : ((1 : Int) ≤ (n : Int)) = True := eq_true (by rw [hn]; simp; omega)
    have h6 : ((n : Int) ≤ (n : Int)) = True := eq_true (by omega)
    have u1 : (((c.toNat : Nat) : Int) == 117) = (c == 117) := u8_eq _ 117
    have hlr : r.length ≤ 100000 := by simp at hR; omega
    clear hn
    unfold escP
    rcases Bool.eq_false_or_eq_true (c == 117) with g | g
    · rw [g] at u1
      have hp := pair_ok r hlr h ho lone
      simp only [g, if_true]
      generalize pairP r out lone = o at *
      cases o with
      | none =>
        obtain ⟨hp', e⟩ := hp
        refine ⟨hp', f55 ?_⟩
        simp (disch := omega) only [go_sem, and_self, and_true, true_and, false_and, and_false, Nat.reduceAdd, Nat.reduceMul, Nat.reduceSub, Nat.reduceLeDiff, Nat.reduceLT, Nat.reduceGT, Nat.reduceEqDiff, Nat.reduceBEq, Int.reduceNeg, Int.reduceEq, Int.reduceLT, Int.reduceLE, Int.reduceBEq, Int.reduceToNat, Int.toNat_natCast, Int.natCast_zero, strD_eql, r55_T, r55, hq, hz, hg, hcut, h5, h6, u1, e]
      | some p =>
        obtain ⟨R', out', lone'⟩ := p
        obtain ⟨A', B', hb, e⟩ := hp
        refine ⟨A', B', hb, f55 ?_⟩
        simp (disch := omega) only [go_sem, and_self, and_true, true_and, false_and, and_false, Nat.reduceAdd, Nat.reduceMul, Nat.reduceSub, Nat.reduceLeDiff, Nat.reduceLT, Nat.reduceGT, Nat.reduceEqDiff, Nat.reduceBEq, Int.reduceNeg, Int.reduceEq, Int.reduceLT, Int.reduceLE, Int.reduceBEq, Int.reduceToNat, Int.toNat_natCast, Int.natCast_zero, strD_eql, r55_T, r55, hq, hz, hg, hcut, h5, h6, u1, e]
    · rw [g] at u1
      obtain ⟨d, hd⟩ := esc_some c
      have hib := ib_ok escI c
      simp only [g, Bool.false_eq_true, if_false, hd]
      have hgd := bt_get escO (Lib.indexByte escI c).toNat
      rw [hd] at hgd
      by_cases g2 : Lib.indexByte escI c < 0
      · have q2 : (Lib.indexByte escI c < 0) = True := eq_true g2
        rw [if_pos g2]
        unfold escI at hib q2
        refine ⟨rdH r A B (bP lone), f55 ?_⟩
        simp (disch := omega) only [go_sem, and_self, and_true, true_and, false_and, and_false, Nat.reduceAdd, Nat.reduceMul, Nat.reduceSub, Nat.reduceLeDiff, Nat.reduceLT, Nat.reduceGT, Nat.reduceEqDiff, Nat.reduceBEq, Int.reduceNeg, Int.reduceEq, Int.reduceLT, Int.reduceLE, Int.reduceBEq, Int.reduceToNat, Int.toNat_natCast, Int.natCast_zero, strD_eql, r55_T, r55, hq, hz, hg, hcut, h5, h6, u1, hib, q2]
      · have q2 : (Lib.indexByte escI c < 0) = False := eq_false g2
        have q3 : (0 ≤ Lib.indexByte escI c) = True := eq_true (by omega)
        have hw := wb_ok (r := .d (.str (bt r))) (lo := bP lone) h d (by omega)
        rw [if_neg g2]
        unfold escI at hib q2 q3 hgd
        unfold escO at hgd
        refine ⟨_, _, .used _, f55 ?_⟩
        simp (disch := omega) only [go_sem, and_self, and_true, true_and, false_and, and_false, Nat.reduceAdd, Nat.reduceMul, Nat.reduceSub, Nat.reduceLeDiff, Nat.reduceLT, Nat.reduceGT, Nat.reduceEqDiff, Nat.reduceBEq, Int.reduceNeg, Int.reduceEq, Int.reduceLT, Int.reduceLE, Int.reduceBEq, Int.reduceToNat, Int.toNat_natCast, Int.natCast_zero, strD_eql, r55_T, r55, hq, hz, hg, hcut, h5, h6, u1, hib, q2, q3, hgd, hw]
end Go.Pe.T

namespace Go.Pe.T
theorem bs_drop (s : ByteArray) (k : Nat) : bs (s.extract k s.size) = (bs s).drop k := by
  simp [bs, ByteArray.data_extract]
  rw [List.take_of_length_le]
  simp
theorem size_drop (s : ByteArray) (k : Nat) : (s.extract k s.size).size = s.size - k := by
  rw [← bs_len, bs_drop, List.length_drop, bs_len]

def VdIs (k : Nat) (s : ByteArray) : Prop :=
  V (F tab) r48_B0 (r48_S0 (.d (.str s)) []) = if validF k (bs s) then some (.norm, r48_E0 []) else some (.ret, r48_R (.d (.bool false)) [])
theorem vd_end (k : Nat) (s : ByteArray) (h : s.size = 0) : VdIs k s := by
  have e := isEb s
  have g : decide (s.size ≠ 0) = false := decide_eq_false (by omega)
  have hb : bs s = [] := List.eq_nil_of_length_eq_zero h
  unfold VdIs
  rw [r48_B0_eq, hb]
  cases k <;> simp (disch := omega) only [go_sem, and_self, and_true, true_and, false_and, and_false, Nat.reduceAdd, Nat.reduceMul, Nat.reduceSub, Nat.reduceLeDiff, Nat.reduceLT, Nat.reduceGT, Nat.reduceEqDiff, Nat.reduceBEq, Int.reduceNeg, Int.reduceEq, Int.reduceLT, Int.reduceLE, Int.reduceBEq, Int.reduceToNat, Int.toNat_natCast, Int.natCast_zero, r48_C0, strD_neq, e, g, Bool.not_true, Bool.not_false, validF]
theorem vd_step (k : Nat) (s : ByteArray) (h : 0 < s.size) (hs : s.size ≤ maxLen) (ih : 0 < sizeL (bs s) → VdIs k (s.extract (sizeL (bs s)) s.size)) : VdIs (k + 1) s := by
  have hmx : maxLen = 9223372036854775807 := by decide
  have e := isEb s
  have g : decide (s.size ≠ 0) = true := decide_eq_true (by omega)
  have hz := usize_ok s h
  have hne : bs s ≠ [] := by
    intro e0
    have := bs_len s
    rw [e0, List.length_nil] at this
    omega
  have hle := sizeL_le (bs s) hne
  rw [bs_len] at hle
  unfold VdIs at ih ⊢
  rw [r48_B0_eq]
  obtain ⟨c, r, hcr⟩ : ∃ c r, bs s = c :: r := by cases hb : bs s with | nil => exact absurd hb hne | cons c r => exact ⟨c, r, rfl⟩
  by_cases h0 : sizeL (bs s) = 0
  · have g0 : validF (k + 1) (bs s) = false := by rw [hcr] at h0 ⊢; simp [validF, h0]
    have g1 : ((sizeL (bs s) : Int) == 0) = true := by simp [h0]
    rw [g0]
    simp (disch := omega) only [go_sem, and_self, and_true, true_and, false_and, and_false, Nat.reduceAdd, Nat.reduceMul, Nat.reduceSub, Nat.reduceLeDiff, Nat.reduceLT, Nat.reduceGT, Nat.reduceEqDiff, Nat.reduceBEq, Int.reduceNeg, Int.reduceEq, Int.reduceLT, Int.reduceLE, Int.reduceBEq, Int.reduceToNat, Int.toNat_natCast, Int.natCast_zero, r48_C0, strD_neq, e, g, Bool.not_true, Bool.not_false, hz, g1]
  · have g0 : validF (k + 1) (bs s) = validF k ((bs s).drop (sizeL (bs s))) := by rw [hcr] at h0 ⊢; simp [validF, h0]
    have g1 : ((sizeL (bs s) : Int) == 0) = false := by simp [h0]
    have ih := ih (by omega)
    rw [bs_drop] at ih
    have h1 : ((sizeL (bs s) : Int) ≤ (s.size : Int)) = True := eq_true (by omega)
    have h2 : (0 ≤ (sizeL (bs s) : Int)) = True := eq_true (by omega)
    have h3 : ((s.size : Int) ≤ (s.size : Int)) = True := eq_true (by omega)
    rw [g0]
    simp (disch := omega) only [go_sem, and_self, and_true, true_and, false_and, and_false, Nat.reduceAdd, Nat.reduceMul, Nat.reduceSub, Nat.reduceLeDiff, Nat.reduceLT, Nat.reduceGT, Nat.reduceEqDiff, Nat.reduceBEq, Int.reduceNeg, Int.reduceEq, Int.reduceLT, Int.reduceLE, Int.reduceBEq, Int.reduceToNat, Int.toNat_natCast, Int.natCast_zero, r48_C0, strD_neq, e, g, Bool.not_true, Bool.not_false, hz, g1, h1, h2, h3, decide_true]
    exact ih
theorem vd_all : ∀ (k : Nat) (s : ByteArray), s.size ≤ k → s.size ≤ maxLen → VdIs k s
  | 0, s, h, _ => vd_end 0 s (by omega)
  | k + 1, s, h, hs => by
    by_cases h0 : s.size = 0
    · exact vd_end _ s h0
    · exact vd_step k s (by omega) hs fun hp => vd_all k _ (by rw [size_drop]; omega) (by rw [size_drop]; omega)
theorem valid_ok (s : ByteArray) (hs : s.size ≤ maxLen) (hp : List Ent) : F tab 48 [.d (.str s)] hp = some (.ret (.d (.bool (validB s))) hp) := by
  have hL := vd_all s.size s (Nat.le_refl _) hs
  unfold VdIs at hL
  refine f48 rfl ?_
  unfold validB
  simp (disch := omega) only [go_sem, and_self, and_true, true_and, false_and, and_false, Nat.reduceAdd, Nat.reduceMul, Nat.reduceSub, Nat.reduceLeDiff, Nat.reduceLT, Nat.reduceGT, Nat.reduceEqDiff, Nat.reduceBEq, Int.reduceNeg, Int.reduceEq, Int.reduceLT, Int.reduceLE, Int.reduceBEq, Int.reduceToNat, Int.toNat_natCast, Int.natCast_zero, r48_T, r48]
  rw [r48_B0_n]
  erw [hL]
  rcases Bool.eq_false_or_eq_true (validF s.size (bs s)) with g | g <;> rw [g] <;> simp only [go_sem, and_self, and_true, true_and, false_and, and_false, Nat.reduceAdd, Nat.reduceMul, Nat.reduceSub, Nat.reduceLeDiff, Nat.reduceLT, Nat.reduceGT, Nat.reduceEqDiff, Nat.reduceBEq, Int.reduceNeg, Int.reduceEq, Int.reduceLT, Int.reduceLE, Int.reduceBEq, Int.reduceToNat, Int.toNat_natCast, Int.natCast_zero]
end Go.Pe.T

namespace Go.Pe.T
theorem encL_len (n : Int) : (encL n).length ≤ 4 := encL_le n
theorem pairP_len {R R' out out' : List UInt8} {lone lone' : Bool} (h : pairP R out lone = some (R', out', lone')) : R'.length ≤ R.length ∧ out'.length ≤ out.length + 4 := by
  unfold pairP at h
  split at h
  · simp at h
  · rename_i a R1 hq
    obtain ⟨h1, _⟩ := fourP_len hq
    split at h
    · simp only [Option.some.injEq, Prod.mk.injEq] at h
      obtain ⟨rfl, rfl, _⟩ := h
      have := encL_len a
      exact ⟨by omega, by simp; omega⟩
    · split at h
      · simp only [Option.some.injEq, Prod.mk.injEq] at h
        obtain ⟨rfl, rfl, _⟩ := h
        exact ⟨by omega, by omega⟩
      · split at h
        · simp at h
        · rename_i b R2 hq2
          obtain ⟨h2, _⟩ := fourP_len hq2
          rw [List.length_drop] at h2
          split at h
          · simp only [Option.some.injEq, Prod.mk.injEq] at h
            obtain ⟨rfl, rfl, _⟩ := h
            exact ⟨by omega, by omega⟩
          · simp only [Option.some.injEq, Prod.mk.injEq] at h
            obtain ⟨rfl, rfl, _⟩ := h
            have := encL_len (surr a b)
            exact ⟨by omega, by simp; omega⟩
theorem escP_len {R R' out out' : List UInt8} {lone lone' : Bool} (h : escP R out lone = some (R', out', lone')) : R'.length ≤ R.length ∧ out'.length ≤ out.length + 4 := by
  unfold escP at h
  split at h
  · simp at h
  · rename_i c r
    split at h
    · have := pairP_len h
      simp only [List.length_cons]
      omega
    · split at h
      · split at h
        · simp at h
        · simp only [Option.some.injEq, Prod.mk.injEq] at h
          obtain ⟨rfl, rfl, _⟩ := h
          exact ⟨by simp, by simp⟩
      · simp at h
def allP : Nat → List UInt8 → List UInt8 → Bool → Option (List UInt8 × Bool)
  | _, [], out, lone => some (out, lone)
  | 0, _ :: _, _, _ => none
  | f + 1, c :: r, out, lone => if c == 34 || decide (c.toNat < 32) then none else if c == 92 then (match escP r out lone with
    | some (R', out', lone') => allP f R' out' lone'
    | none => none) else allP f r (out ++ [c]) lone
def AllRes (o : Option (List UInt8 × Bool)) (r : Option (Ex × St)) : Prop :=
  match o with
  | some (out', lone') => ∃ A' B', BS A' B' out' ∧ r = some (.norm, r46_E0 (rdH [] A' B' (bP lone')))
  | none => ∃ hp', r = some (.ret, r46_R (.d (.bool false)) hp')
theorem al_nil {A B : PV} {out : List UInt8} (h : BS A B out) (lone : Bool) : AllRes (some (out, lone)) (V (F tab) r46_B0 (r46_S0 (.ptr 0 0) (rdH [] A B (bP lone)))) := by
  have hq : ((bt ([] : List UInt8)).toList == (⟨#[]⟩ : ByteArray).toList) = true := by rw [show (⟨#[]⟩ : ByteArray) = bt [] from rfl, bt_list]; rfl
  refine ⟨A, B, h, ?_⟩
  rw [r46_B0_eq]
  simp (disch := omega) only [go_sem, and_self, and_true, true_and, false_and, and_false, Nat.reduceAdd, Nat.reduceMul, Nat.reduceSub, Nat.reduceLeDiff, Nat.reduceLT, Nat.reduceGT, Nat.reduceEqDiff, Nat.reduceBEq, Int.reduceNeg, Int.reduceEq, Int.reduceLT, Int.reduceLE, Int.reduceBEq, Int.reduceToNat, Int.toNat_natCast, Int.natCast_zero, strD_neq, r46_C0, hq, Bool.not_true]
theorem al_step (f : Nat) (c : UInt8) (r : List UInt8) (hr : r.length ≤ 100000) {A B : PV} {out : List UInt8} (h : BS A B out) (ho : out.length ≤ 9000000) (lone : Bool)
    (ih1 : ∀ {A B : PV}, BS A B (out ++ [c]) → AllRes (allP f r (out ++ [c]) lone) (V (F tab) r46_B0 (r46_S0 (.ptr 0 0) (rdH r A B (bP lone)))))
    (ih2 : ∀ R' out' lone', escP r out lone = some (R', out', lone') → ∀ {A B : PV}, BS A B out' → AllRes (allP f R' out' lone') (V (F tab) r46_B0 (r46_S0 (.ptr 0 0) (rdH R' A B (bP lone'))))) :
    AllRes (allP (f + 1) (c :: r) out lone) (V (F tab) r46_B0 (r46_S0 (.ptr 0 0) (rdH (c :: r) A B (bP lone)))) := by
  obtain ⟨n, hn⟩ : ∃ n, n = (c :: r).length := ⟨_, rfl⟩
  have hz : (bt (c :: r)).size = n := hn ▸ bt_size (c :: r)
  have hg : (bt (c :: r))[0]? = some c := bt_get (c :: r) 0
  have hq : ((bt (c :: r)).toList == (⟨#[]⟩ : ByteArray).toList) = false := by
    rw [show (⟨#[]⟩ : ByteArray) = bt [] from rfl, bt_list, bt_list]; rfl
  have hcut : (bt (c :: r)).extract 1 n = bt r := bt_from (c :: r) 1 n hn
  have h5 : ((1 : Int) ≤ (n : Int)) = True := eq_true (by rw [hn]; simp; omega)
  have h6 : ((n : Int) ≤ (n : Int)) = True := eq_true (by omega)
  have u1 : (((c.toNat : Nat) : Int) == 34) = (c == 34) := u8_eq _ 34
  have u2 : (((c.toNat : Nat) : Int) == 92) = (c == 92) := u8_eq _ 92
  clear hn
  unfold allP
  rcases Bool.eq_false_or_eq_true (c == 34) with g1 | g1
  · rw [g1] at u1
    simp only [g1, Bool.true_or, if_true]
    refine ⟨rdH r A B (bP lone), ?_⟩
    rw [r46_B0_eq]
    simp (disch := omega) only [go_sem, and_self, and_true, true_and, false_and, and_false, Nat.reduceAdd, Nat.reduceMul, Nat.reduceSub, Nat.reduceLeDiff, Nat.reduceLT, Nat.reduceGT, Nat.reduceEqDiff, Nat.reduceBEq, Int.reduceNeg, Int.reduceEq, Int.reduceLT, Int.reduceLE, Int.reduceBEq, Int.reduceToNat, Int.toNat_natCast, Int.natCast_zero, strD_neq, r46_C0, hq, Bool.not_false, hz, hg, hcut, h5, h6, u1]
  · rw [g1] at u1
    by_cases g2 : c.toNat < 32
    · have q2 : (((c.toNat : Nat) : Int) < 32) = True := eq_true (by omega)
      simp only [g1, decide_eq_true g2, Bool.or_true, if_true]
      refine ⟨rdH r A B (bP lone), ?_⟩
      rw [r46_B0_eq]
      simp (disch := omega) only [go_sem, and_self, and_true, true_and, false_and, and_false, Nat.reduceAdd, Nat.reduceMul, Nat.reduceSub, Nat.reduceLeDiff, Nat.reduceLT, Nat.reduceGT, Nat.reduceEqDiff, Nat.reduceBEq, Int.reduceNeg, Int.reduceEq, Int.reduceLT, Int.reduceLE, Int.reduceBEq, Int.reduceToNat, Int.toNat_natCast, Int.natCast_zero, strD_neq, r46_C0, hq, Bool.not_false, hz, hg, hcut, h5, h6, u1, q2]
    · have q2 : (((c.toNat : Nat) : Int) < 32) = False := eq_false (by omega)
      simp only [g1, decide_eq_false g2, Bool.or_false, Bool.false_eq_true, if_false]
      rcases Bool.eq_false_or_eq_true (c == 92) with g3 | g3
      · rw [g3] at u2
        simp only [g3, if_true]
        have he := escape_ok r hr h (by omega) lone
        cases hx : escP r out lone with
        | none =>
          rw [hx] at he
          obtain ⟨hp', e⟩ := he
          refine ⟨hp', ?_⟩
          rw [r46_B0_eq]
          simp (disch := omega) only [go_sem, and_self, and_true, true_and, false_and, and_false, Nat.reduceAdd, Nat.reduceMul, Nat.reduceSub, Nat.reduceLeDiff, Nat.reduceLT, Nat.reduceGT, Nat.reduceEqDiff, Nat.reduceBEq, Int.reduceNeg, Int.reduceEq, Int.reduceLT, Int.reduceLE, Int.reduceBEq, Int.reduceToNat, Int.toNat_natCast, Int.natCast_zero, strD_neq, r46_C0, hq, Bool.not_false, hz, hg, hcut, h5, h6, u1, q2, u2, e]
        | some p =>
          obtain ⟨R', out', lone'⟩ := p
          rw [hx] at he
          obtain ⟨A', B', hb, e⟩ := he
          have k := ih2 R' out' lone' hx hb
          simp only
          rw [r46_B0_eq]
          simp (disch := omega) only [go_sem, and_self, and_true, true_and, false_and, and_false, Nat.reduceAdd, Nat.reduceMul, Nat.reduceSub, Nat.reduceLeDiff, Nat.reduceLT, Nat.reduceGT, Nat.reduceEqDiff, Nat.reduceBEq, Int.reduceNeg, Int.reduceEq, Int.reduceLT, Int.reduceLE, Int.reduceBEq, Int.reduceToNat, Int.toNat_natCast, Int.natCast_zero, strD_neq, r46_C0, hq, Bool.not_false, hz, hg, hcut, h5, h6, u1, q2, u2, e]
          exact k
      · rw [g3] at u2
        simp only [g3, Bool.false_eq_true, if_false]
        have hw := wb_ok (r := .d (.str (bt r))) (lo := bP lone) h c (by omega)
        have k := ih1 (.used _)
        rw [r46_B0_eq]
        simp (disch := omega) only [go_sem, and_self, and_true, true_and, false_and, and_false, Nat.reduceAdd, Nat.reduceMul, Nat.reduceSub, Nat.reduceLeDiff, Nat.reduceLT, Nat.reduceGT, Nat.reduceEqDiff, Nat.reduceBEq, Int.reduceNeg, Int.reduceEq, Int.reduceLT, Int.reduceLE, Int.reduceBEq, Int.reduceToNat, Int.toNat_natCast, Int.natCast_zero, strD_neq, r46_C0, hq, Bool.not_false, hz, hg, hcut, h5, h6, u1, q2, u2, hw]
        exact k
theorem al_loop : ∀ (f : Nat) (R : List UInt8) {A B : PV} {out : List UInt8} (lone : Bool), BS A B out → R.length ≤ f → R.length ≤ 100000 → out.length + 4 * f ≤ 9000000 → AllRes (allP f R out lone) (V (F tab) r46_B0 (r46_S0 (.ptr 0 0) (rdH R A B (bP lone))))
  | f, [], A, B, out, lone, h, _, _, _ => by cases f <;> exact al_nil h lone
  | 0, c :: r, A, B, out, lone, h, hf, _, _ => by simp at hf
  | f + 1, c :: r, A, B, out, lone, h, hf, hl, ho => by
    simp only [List.length_cons] at hf hl
    refine al_step f c r (by omega) h (by omega) lone (fun hb => al_loop f r lone hb (by omega) (by omega) (by simp; omega)) ?_
    intro R' out' lone' he A' B' hb
    obtain ⟨h1, h2⟩ := escP_len he
    exact al_loop f R' lone' hb (by omega) (by omega) (by omega)
def AlRes (o : Option (List UInt8 × Bool)) (r : Option Out) : Prop :=
  match o with
  | some (out', lone') => ∃ A' B', BS A' B' out' ∧ r = some (.ret (.d (.bool true)) (rdH [] A' B' (bP lone')))
  | none => ∃ hp', r = some (.ret (.d (.bool false)) hp')
theorem rall_ok (R : List UInt8) (hR : R.length ≤ 100000) {A B : PV} (h : BS A B []) : AlRes (allP R.length R [] false) (F tab 46 [.ptr 0 0] (rdH R A B (bP false))) := by
  have hl := al_loop R.length R false h (Nat.le_refl _) hR (by simp; omega)
  generalize allP R.length R [] false = o at *
  cases o with
  | none =>
    obtain ⟨hp', e⟩ := hl
    refine ⟨hp', f46 ?_⟩
    simp (disch := omega) only [go_sem, and_self, and_true, true_and, false_and, and_false, Nat.reduceAdd, Nat.reduceMul, Nat.reduceSub, Nat.reduceLeDiff, Nat.reduceLT, Nat.reduceGT, Nat.reduceEqDiff, Nat.reduceBEq, Int.reduceNeg, Int.reduceEq, Int.reduceLT, Int.reduceLE, Int.reduceBEq, Int.reduceToNat, Int.toNat_natCast, Int.natCast_zero, r46_T, r46]
    rw [r46_B0_n]
    erw [e]
    simp only [go_sem, and_self, and_true, true_and, false_and, and_false, Nat.reduceAdd, Nat.reduceMul, Nat.reduceSub, Nat.reduceLeDiff, Nat.reduceLT, Nat.reduceGT, Nat.reduceEqDiff, Nat.reduceBEq, Int.reduceNeg, Int.reduceEq, Int.reduceLT, Int.reduceLE, Int.reduceBEq, Int.reduceToNat, Int.toNat_natCast, Int.natCast_zero]
  | some p =>
    obtain ⟨out', lone'⟩ := p
    obtain ⟨A', B', hb, e⟩ := hl
    refine ⟨A', B', hb, f46 ?_⟩
    simp (disch := omega) only [go_sem, and_self, and_true, true_and, false_and, and_false, Nat.reduceAdd, Nat.reduceMul, Nat.reduceSub, Nat.reduceLeDiff, Nat.reduceLT, Nat.reduceGT, Nat.reduceEqDiff, Nat.reduceBEq, Int.reduceNeg, Int.reduceEq, Int.reduceLT, Int.reduceLE, Int.reduceBEq, Int.reduceToNat, Int.toNat_natCast, Int.natCast_zero, r46_T, r46]
    rw [r46_B0_n]
    erw [e]
    simp only [go_sem, and_self, and_true, true_and, false_and, and_false, Nat.reduceAdd, Nat.reduceMul, Nat.reduceSub, Nat.reduceLeDiff, Nat.reduceLT, Nat.reduceGT, Nat.reduceEqDiff, Nat.reduceBEq, Int.reduceNeg, Int.reduceEq, Int.reduceLT, Int.reduceLE, Int.reduceBEq, Int.reduceToNat, Int.toNat_natCast, Int.natCast_zero]
theorem st_ok {A B r lo : PV} {out : List UInt8} (h : BS A B out) : F tab 47 [.ptr 0 1] [.box [r, A, B, lo]] = some (.ret (.d (.str (bt out))) [.box [r, A, .d (.sl (bytesD out)), lo]]) := by
  have := f47 (bs_at (r := r) (lo := lo) h)
  rw [this]
  rfl
def unqP (t : List UInt8) : List UInt8 × Int :=
  match t[0]?, t[t.length - 1]? with
  | some a, some b => if t.length < 2 ∨ a ≠ 34 ∨ b ≠ 34 then ([], 3) else match allP (t.length - 2) ((t.take (t.length - 1)).drop 1) [] false with
    | none => ([], 3)
    | some (out, lone) => if (lone || !validB (bt out)) = true then ([], 7) else (out, 0)
  | _, _ => ([], 3)
theorem bxn_rd (s : ByteArray) : bxnCells [(1, bldT)] 0 [.str s, .nilp, .nils, .bool false] = [.d (.str s), .bnil bldT, .nilsl, .d (.bool false)] := rfl
theorem allP_len : ∀ (f : Nat) (R out : List UInt8) (lone : Bool) {out' : List UInt8} {lone' : Bool}, allP f R out lone = some (out', lone') → out'.length ≤ out.length + 4 * f
  | f, [], out, lone, out', lone', h => by
    cases f <;> (simp only [allP, Option.some.injEq, Prod.mk.injEq] at h; rw [← h.1]; omega)
  | 0, c :: r, out, lone, out', lone', h => by simp [allP] at h
  | f + 1, c :: r, out, lone, out', lone', h => by
    unfold allP at h
    split at h
    · simp at h
    · split at h
      · split at h
        · rename_i R2 out2 lone2 he
          have h1 := allP_len f _ _ _ h
          obtain ⟨_, h2⟩ := escP_len he
          omega
        · simp at h
      · have h1 := allP_len f _ _ _ h
        simp at h1
        omega
theorem unquote_ok (t : List UInt8) (ht : t.length ≤ 100000) (hp : List Ent) : F tab 38 [.d (.str (bt t))] hp = some (.ret (.tup [.d (.str (bt (unqP t).1)), .d (iv (unqP t).2)]) hp) := by
  obtain ⟨n, hn⟩ : ∃ n, n = t.length := ⟨_, rfl⟩
  have hz : (bt t).size = n := hn ▸ bt_size t
  refine f38 rfl ?_
  have hm : maxLen = 9223372036854775807 := by decide
  by_cases h2 : n < 2
  · have q : ((n : Int) < 2) = True := eq_true (by omega)
    have e : unqP t = ([], 3) := by
      unfold unqP
      split
      · rw [if_pos (.inl (by omega))]
      · rfl
    rw [e]
    simp (disch := omega) only [go_sem, and_self, and_true, true_and, false_and, and_false, Nat.reduceAdd, Nat.reduceMul, Nat.reduceSub, Nat.reduceLeDiff, Nat.reduceLT, Nat.reduceGT, Nat.reduceEqDiff, Nat.reduceBEq, Int.reduceNeg, Int.reduceEq, Int.reduceLT, Int.reduceLE, Int.reduceBEq, Int.reduceToNat, Int.toNat_natCast, Int.natCast_zero, r38_T, r38, hz, q]
  · have q : ((n : Int) < 2) = False := eq_false (by omega)
    have ha : t[0]? = some t[0] := List.getElem?_eq_getElem (by omega)
    have hb : t[t.length - 1]? = some t[t.length - 1] := List.getElem?_eq_getElem (by omega)
    have ga := bt_get t 0
    have gb : (bt t)[n - 1]? = some t[t.length - 1] := by
      rw [bt_get, show n - 1 = t.length - 1 by omega]
      exact hb
    rw [ha] at ga
    have e1 : (n : Int) - 1 = ((n - 1 : Nat) : Int) := by omega
    have i1 : (0 ≤ ((n - 1 : Nat) : Int)) = True := eq_true (by omega)
    have c1 : ((1 : Int) ≤ ((n - 1 : Nat) : Int)) = True := eq_true (by omega)
    have c2 : (((n - 1 : Nat) : Int) ≤ (n : Int)) = True := eq_true (by omega)
    have hcut : (bt t).extract 1 (n - 1) = bt ((t.take (n - 1)).drop 1) := bt_ext t 1 (n - 1)
    have u1 : (((t[0].toNat : Nat) : Int) == 34) = (t[0] == 34) := u8_eq _ 34
    have u2 : (((t[t.length - 1].toNat : Nat) : Int) == 34) = (t[t.length - 1] == 34) := u8_eq _ 34
    have eu : unqP t = if t.length < 2 ∨ t[0] ≠ 34 ∨ t[t.length - 1] ≠ 34 then (([], 3) : List UInt8 × Int) else match allP (t.length - 2) ((t.take (t.length - 1)).drop 1) [] false with
      | none => (([], 3) : List UInt8 × Int)
      | some (out, lone) => if (lone || !validB (bt out)) = true then ([], 7) else (out, 0) := by
      unfold unqP
      simp only [ha, hb]
    rw [eu]
    have v1 : (((t[0].toNat : Nat) : Int) != 34) = !(t[0] == 34) := by rw [bne, u1]
    have v2 : (((t[t.length - 1].toNat : Nat) : Int) != 34) = !(t[t.length - 1] == 34) := by rw [bne, u2]
    generalize t[0] = a at *
    generalize t[t.length - 1] = b at *
    rcases Bool.eq_false_or_eq_true (a == 34) with g1 | g1
    · rw [g1] at v1
      rcases Bool.eq_false_or_eq_true (b == 34) with g2 | g2
      · rw [g2] at v2
        rw [if_neg (by rintro (h | h | h); omega; exact h (by simpa using g1); exact h (by simpa using g2))]
        have hlen : ((t.take (n - 1)).drop 1).length = n - 2 := by simp; omega
        have hal := rall_ok ((t.take (n - 1)).drop 1) (by omega) .fresh
        rw [hlen] at hal
        rw [← hn]
        have hbx := bxn_rd (bt ((t.take (n - 1)).drop 1))
        cases hx : allP (n - 2) ((t.take (n - 1)).drop 1) [] false with
        | none =>
          rw [hx] at hal
          obtain ⟨hp', e⟩ := hal
          simp (disch := omega) only [go_sem, and_self, and_true, true_and, false_and, and_false, Nat.reduceAdd, Nat.reduceMul, Nat.reduceSub, Nat.reduceLeDiff, Nat.reduceLT, Nat.reduceGT, Nat.reduceEqDiff, Nat.reduceBEq, Int.reduceNeg, Int.reduceEq, Int.reduceLT, Int.reduceLE, Int.reduceBEq, Int.reduceToNat, Int.toNat_natCast, Int.natCast_zero, r38_T, r38, hz, q, ga, gb, e1, i1, c1, c2, hcut, v1, v2, Bool.not_true, w64, hbx, e]
        | some p =>
          obtain ⟨out', lone'⟩ := p
          rw [hx] at hal
          obtain ⟨A', B', hb', e⟩ := hal
          have hs := st_ok (r := .d (.str (bt []))) (lo := bP lone') hb'
          have hvl : out'.length ≤ 4 * (n - 2) := by
            have := allP_len _ _ _ _ hx
            simpa using this
          have hv := valid_ok (bt out') (by rw [bt_size, hm]; omega)
          simp only
          cases lone' with
          | true =>
            simp (disch := omega) only [go_sem, and_self, and_true, true_and, false_and, and_false, Nat.reduceAdd, Nat.reduceMul, Nat.reduceSub, Nat.reduceLeDiff, Nat.reduceLT, Nat.reduceGT, Nat.reduceEqDiff, Nat.reduceBEq, Int.reduceNeg, Int.reduceEq, Int.reduceLT, Int.reduceLE, Int.reduceBEq, Int.reduceToNat, Int.toNat_natCast, Int.natCast_zero, r38_T, r38, hz, q, ga, gb, e1, i1, c1, c2, hcut, v1, v2, Bool.not_true, w64, hbx, e, hs, Bool.true_or]
          | false =>
            rcases Bool.eq_false_or_eq_true (validB (bt out')) with g3 | g3
            · rw [g3] at hv
              simp (disch := omega) only [go_sem, and_self, and_true, true_and, false_and, and_false, Nat.reduceAdd, Nat.reduceMul, Nat.reduceSub, Nat.reduceLeDiff, Nat.reduceLT, Nat.reduceGT, Nat.reduceEqDiff, Nat.reduceBEq, Int.reduceNeg, Int.reduceEq, Int.reduceLT, Int.reduceLE, Int.reduceBEq, Int.reduceToNat, Int.toNat_natCast, Int.natCast_zero, r38_T, r38, hz, q, ga, gb, e1, i1, c1, c2, hcut, v1, v2, Bool.not_true, w64, hbx, e, hs, hv, g3, Bool.or_false, Bool.false_or]
            · rw [g3] at hv
              simp (disch := omega) only [go_sem, and_self, and_true, true_and, false_and, and_false, Nat.reduceAdd, Nat.reduceMul, Nat.reduceSub, Nat.reduceLeDiff, Nat.reduceLT, Nat.reduceGT, Nat.reduceEqDiff, Nat.reduceBEq, Int.reduceNeg, Int.reduceEq, Int.reduceLT, Int.reduceLE, Int.reduceBEq, Int.reduceToNat, Int.toNat_natCast, Int.natCast_zero, r38_T, r38, hz, q, ga, gb, e1, i1, c1, c2, hcut, v1, v2, Bool.not_true, Bool.not_false, w64, hbx, e, hs, hv, g3, Bool.or_true, Bool.false_or]
      · rw [g2] at v2
        rw [if_pos (.inr (.inr (by simpa using g2)))]
        simp (disch := omega) only [go_sem, and_self, and_true, true_and, false_and, and_false, Nat.reduceAdd, Nat.reduceMul, Nat.reduceSub, Nat.reduceLeDiff, Nat.reduceLT, Nat.reduceGT, Nat.reduceEqDiff, Nat.reduceBEq, Int.reduceNeg, Int.reduceEq, Int.reduceLT, Int.reduceLE, Int.reduceBEq, Int.reduceToNat, Int.toNat_natCast, Int.natCast_zero, r38_T, r38, hz, q, ga, gb, e1, i1, v1, v2, Bool.not_true, Bool.not_false, w64]
    · rw [g1] at v1
      rw [if_pos (.inr (.inl (by simpa using g1)))]
      simp (disch := omega) only [go_sem, and_self, and_true, true_and, false_and, and_false, Nat.reduceAdd, Nat.reduceMul, Nat.reduceSub, Nat.reduceLeDiff, Nat.reduceLT, Nat.reduceGT, Nat.reduceEqDiff, Nat.reduceBEq, Int.reduceNeg, Int.reduceEq, Int.reduceLT, Int.reduceLE, Int.reduceBEq, Int.reduceToNat, Int.toNat_natCast, Int.natCast_zero, r38_T, r38, hz, q, ga, gb, e1, i1, v1, Bool.not_false, w64]
end Go.Pe.T

namespace Go.Pe.T
structure Tk where
  k : Int
  t : List UInt8
  c : Int
  s : Int
def tkD (x : Tk) (at' : Int) : D := .agg [iv x.k, .str (bt x.t), iv x.c, iv x.s, iv at']
def tk0 : Tk := ⟨0, [], 0, 0⟩
theorem tk0_D : tkD tk0 0 = .agg [iv 0, .str ⟨#[]⟩, iv 0, iv 0, iv 0] := rfl
abbrev TkR := Tk × Nat × Int
def tkV (r : TkR) (hp : List Ent) : Out := .ret (.tup [.d (tkD r.1 0), .d (iv (r.2.1 : Int)), .d (iv r.2.2)]) hp
def nmR (k : Int) (w : List UInt8) (more : Nat) : TkR := if w = [] ∨ 16 < w.length then (tk0, 0, 14) else (⟨k, w, 0, 0⟩, w.length + more, 0)
theorem isE_bt (L : List UInt8) : ((bt L).toList == (⟨#[]⟩ : ByteArray).toList) = decide (L = []) := by
  rw [show (⟨#[]⟩ : ByteArray) = bt [] from rfl, bt_list, bt_list]
  cases L <;> simp
theorem named_ok (k : Int) (w : List UInt8) (hw : w.length ≤ 100000) (more : Nat) (hm : more ≤ 10) (hp : List Ent) : F tab 21 [.d (iv k), .d (.str (bt w)), .d (iv (more : Int))] hp = some (tkV (nmR k w more) hp) := by
  obtain ⟨n, hn⟩ : ∃ n, n = w.length := ⟨_, rfl⟩
  have hz : (bt w).size = n := hn ▸ bt_size w
  have hq := isE_bt w
  have e1 : (n : Int) + (more : Int) = ((n + more : Nat) : Int) := rfl
  refine f21 rfl ?_
  unfold nmR
  by_cases h1 : w = []
  · rw [decide_eq_true h1] at hq
    rw [if_pos (.inl h1)]
    simp (disch := omega) only [go_sem, and_self, and_true, true_and, false_and, and_false, Nat.reduceAdd, Nat.reduceMul, Nat.reduceSub, Nat.reduceLeDiff, Nat.reduceLT, Nat.reduceGT, Nat.reduceEqDiff, Nat.reduceBEq, Int.reduceNeg, Int.reduceEq, Int.reduceLT, Int.reduceLE, Int.reduceBEq, Int.reduceToNat, Int.toNat_natCast, Int.natCast_zero, strD_eql, r21_T, r21, hq]
    rfl
  · rw [decide_eq_false h1] at hq
    by_cases h2 : 16 < w.length
    · have q : ((n : Int) > 16) = True := eq_true (by omega)
      rw [if_pos (.inr h2)]
      simp (disch := omega) only [go_sem, and_self, and_true, true_and, false_and, and_false, Nat.reduceAdd, Nat.reduceMul, Nat.reduceSub, Nat.reduceLeDiff, Nat.reduceLT, Nat.reduceGT, Nat.reduceEqDiff, Nat.reduceBEq, Int.reduceNeg, Int.reduceEq, Int.reduceLT, Int.reduceLE, Int.reduceBEq, Int.reduceToNat, Int.toNat_natCast, Int.natCast_zero, strD_eql, r21_T, r21, hq, hz, q]
      rfl
    · have q : ((n : Int) > 16) = False := eq_false (by omega)
      rw [if_neg (by rintro (h | h) <;> contradiction), ← hn]
      simp (disch := omega) only [go_sem, and_self, and_true, true_and, false_and, and_false, Nat.reduceAdd, Nat.reduceMul, Nat.reduceSub, Nat.reduceLeDiff, Nat.reduceLT, Nat.reduceGT, Nat.reduceEqDiff, Nat.reduceBEq, Int.reduceNeg, Int.reduceEq, Int.reduceLT, Int.reduceLE, Int.reduceBEq, Int.reduceToNat, Int.toNat_natCast, Int.natCast_zero, strD_eql, r21_T, r21, hq, hz, q, e1, w64]
      rfl
def numTk (L : List UInt8) : TkR := if (parseC (L.take (lngN L))).2.2 = 0 then (⟨3, L.take (lngN L), (parseC (L.take (lngN L))).1, (parseC (L.take (lngN L))).2.1⟩, lngN L, 0) else (tk0, 0, (parseC (L.take (lngN L))).2.2)
theorem number_ok (L : List UInt8) (hl : L.length ≤ 10000) (hp : List Ent) : F tab 24 [.d (.str (bt L))] hp = some (tkV (numTk L) hp) := by
  obtain ⟨n, hn⟩ : ∃ n, n = L.length := ⟨_, rfl⟩
  have hz : (bt L).size = n := hn ▸ bt_size L
  have hlg := long_ok L (by omega)
  have hle := lng_le L
  have hcut : (bt L).extract 0 (lngN L) = bt (L.take (lngN L)) := bt_to L _
  have hpa := parse_ok (L.take (lngN L)) (by simp; omega)
  have c1 : (0 ≤ ((lngN L : Nat) : Int)) = True := eq_true (by omega)
  have c2 : (((lngN L : Nat) : Int) ≤ (n : Int)) = True := eq_true (by omega)
  refine f24 rfl ?_
  unfold numTk
  unfold tupC at hpa
  generalize parseC (L.take (lngN L)) = p at *
  obtain ⟨c, s, e⟩ := p
  simp only at hpa ⊢
  generalize hm : lngN L = m at *
  by_cases h : e = 0
  · subst h
    rw [if_pos rfl]
    have q : ((0 : Int) != 0) = false := rfl
    simp (disch := omega) only [go_sem, and_self, and_true, true_and, false_and, and_false, Nat.reduceAdd, Nat.reduceMul, Nat.reduceSub, Nat.reduceLeDiff, Nat.reduceLT, Nat.reduceGT, Nat.reduceEqDiff, Nat.reduceBEq, Int.reduceNeg, Int.reduceEq, Int.reduceLT, Int.reduceLE, Int.reduceBEq, Int.reduceToNat, Int.toNat_natCast, Int.natCast_zero, r24_T, r24, hlg, hz, hcut, c1, c2, hpa, q]
    rfl
  · have q : (e != 0) = true := by simpa using h
    rw [if_neg h]
    simp (disch := omega) only [go_sem, and_self, and_true, true_and, false_and, and_false, Nat.reduceAdd, Nat.reduceMul, Nat.reduceSub, Nat.reduceLeDiff, Nat.reduceLT, Nat.reduceGT, Nat.reduceEqDiff, Nat.reduceBEq, Int.reduceNeg, Int.reduceEq, Int.reduceLT, Int.reduceLE, Int.reduceBEq, Int.reduceToNat, Int.toNat_natCast, Int.natCast_zero, r24_T, r24, hlg, hz, hcut, c1, c2, hpa, q]
    rfl
def txtR (L : List UInt8) : TkR := if qtN L = 0 ∨ (unqP (L.take (qtN L))).2 = 3 then (tk0, 0, 14) else if (unqP (L.take (qtN L))).2 = 0 then (⟨4, (unqP (L.take (qtN L))).1, 0, 0⟩, qtN L, 0) else (tk0, 0, (unqP (L.take (qtN L))).2)
theorem qtA_le : ∀ (m : Bool) (L : List UInt8) (n : Nat), qtA m L = some n → 1 ≤ n ∧ n ≤ L.length
  | _, [], n, h => by simp [qtA] at h
  | true, c :: r, n, h => by
    simp only [qtA, Option.map_eq_some_iff] at h
    obtain ⟨a, h1, h2⟩ := h
    have := qtA_le false r a h1
    simp; omega
  | false, c :: r, n, h => by
    simp only [qtA] at h
    split at h
    · simp only [Option.map_eq_some_iff] at h
      obtain ⟨a, h1, h2⟩ := h
      have := qtA_le true r a h1
      simp; omega
    · split at h
      · simp at h; simp; omega
      · simp only [Option.map_eq_some_iff] at h
        obtain ⟨a, h1, h2⟩ := h
        have := qtA_le false r a h1
        simp; omega
theorem qtN_le (L : List UInt8) : qtN L ≤ L.length := by
  unfold qtN
  split
  · rename_i n h
    have := qtA_le _ _ _ h
    rw [List.length_drop] at this
    omega
  · omega
theorem text_ok' (L : List UInt8) (hl : L.length ≤ 10000) (hp : List Ent) : F tab 25 [.d (.str (bt L))] hp = some (tkV (txtR L) hp) := by
  obtain ⟨n, hn⟩ : ∃ n, n = L.length := ⟨_, rfl⟩
  have hz : (bt L).size = n := hn ▸ bt_size L
  have hlg := quoted_ok L (by omega)
  have hle := qtN_le L
  have hcut : (bt L).extract 0 (qtN L) = bt (L.take (qtN L)) := bt_to L _
  have hun := unquote_ok (L.take (qtN L)) (by simp; omega)
  have c1 : (0 ≤ ((qtN L : Nat) : Int)) = True := eq_true (by omega)
  have c2 : (((qtN L : Nat) : Int) ≤ (n : Int)) = True := eq_true (by omega)
  refine f25 rfl ?_
  unfold txtR
  generalize unqP (L.take (qtN L)) = p at *
  obtain ⟨t, e⟩ := p
  simp only at hun ⊢
  generalize hm : qtN L = m at *
  by_cases h0 : m = 0
  · have q0 : ((m : Int) == 0) = true := by simp [h0]
    rw [if_pos (.inl h0)]
    simp (disch := omega) only [go_sem, and_self, and_true, true_and, false_and, and_false, Nat.reduceAdd, Nat.reduceMul, Nat.reduceSub, Nat.reduceLeDiff, Nat.reduceLT, Nat.reduceGT, Nat.reduceEqDiff, Nat.reduceBEq, Int.reduceNeg, Int.reduceEq, Int.reduceLT, Int.reduceLE, Int.reduceBEq, Int.reduceToNat, Int.toNat_natCast, Int.natCast_zero, r25_T, r25, hlg, hz, hcut, c1, c2, hun, q0]
    rfl
  · have q0 : ((m : Int) == 0) = false := by simp; omega
    by_cases h3 : e = 3
    · have q3 : (e == 3) = true := by simp [h3]
      rw [if_pos (.inr h3)]
      simp (disch := omega) only [go_sem, and_self, and_true, true_and, false_and, and_false, Nat.reduceAdd, Nat.reduceMul, Nat.reduceSub, Nat.reduceLeDiff, Nat.reduceLT, Nat.reduceGT, Nat.reduceEqDiff, Nat.reduceBEq, Int.reduceNeg, Int.reduceEq, Int.reduceLT, Int.reduceLE, Int.reduceBEq, Int.reduceToNat, Int.toNat_natCast, Int.natCast_zero, r25_T, r25, hlg, hz, hcut, c1, c2, hun, q0, q3]
      rfl
    · have q3 : (e == 3) = false := by simpa using h3
      rw [if_neg (by rintro (h | h) <;> contradiction)]
      by_cases h : e = 0
      · have q : (e != 0) = false := by simp [h]
        rw [if_pos h]
        simp (disch := omega) only [go_sem, and_self, and_true, true_and, false_and, and_false, Nat.reduceAdd, Nat.reduceMul, Nat.reduceSub, Nat.reduceLeDiff, Nat.reduceLT, Nat.reduceGT, Nat.reduceEqDiff, Nat.reduceBEq, Int.reduceNeg, Int.reduceEq, Int.reduceLT, Int.reduceLE, Int.reduceBEq, Int.reduceToNat, Int.toNat_natCast, Int.natCast_zero, r25_T, r25, hlg, hz, hcut, c1, c2, hun, q0, q3, q]
        rfl
      · have q : (e != 0) = true := by simpa using h
        rw [if_neg h]
        simp (disch := omega) only [go_sem, and_self, and_true, true_and, false_and, and_false, Nat.reduceAdd, Nat.reduceMul, Nat.reduceSub, Nat.reduceLeDiff, Nat.reduceLT, Nat.reduceGT, Nat.reduceEqDiff, Nat.reduceBEq, Int.reduceNeg, Int.reduceEq, Int.reduceLT, Int.reduceLE, Int.reduceBEq, Int.reduceToNat, Int.toNat_natCast, Int.natCast_zero, r25_T, r25, hlg, hz, hcut, c1, c2, hun, q0, q3, q]
        rfl
def sgR (L : List UInt8) : TkR := if sgnN L = 0 then (tk0, 0, 14) else (⟨5, L.take (sgnN L), 0, 0⟩, sgnN L, 0)
def oneR (L : List UInt8) : TkR :=
  match L with
  | [] => (tk0, 0, 14)
  | c :: r => if letB c.toNat then nmR 1 ((c :: r).take (runL 0 (c :: r))) 0 else if c == 36 then nmR 2 (r.take (runL 0 r)) 1 else if isDg c then numTk (c :: r) else if c == 34 then txtR (c :: r) else sgR (c :: r)
theorem sgnN_le (L : List UInt8) : sgnN L ≤ L.length := by
  unfold sgnN
  split
  · rename_i h
    unfold twoB at h
    split at h
    · simp
    · simp at h
  · split
    · split <;> simp
    · simp
theorem wordL_ok (L : List UInt8) (hl : L.length ≤ 100000) (hp : List Ent) : F tab 22 [.d (.str (bt L))] hp = some (.ret (.d (.str (bt (L.take (runL 0 L))))) hp) := by
  have hm : maxLen = 9223372036854775807 := by decide
  have h := word_ok (bt L) (by rw [bt_size, hm]; omega) hp
  rw [bs_bt] at h
  rw [h, bt_to]
theorem one_ok (L : List UInt8) (h0 : L ≠ []) (hl : L.length ≤ 10000) (hp : List Ent) : F tab 11 [.d (.str (bt L))] hp = some (tkV (oneR L) hp) := by
  cases L with
  | nil => exact absurd rfl h0
  | cons c r =>
    obtain ⟨n, hn⟩ : ∃ n, n = (c :: r).length := ⟨_, rfl⟩
    have hz : (bt (c :: r)).size = n := hn ▸ bt_size (c :: r)
    have hg : (bt (c :: r))[0]? = some c := bt_get (c :: r) 0
    have hlt := letter_ok ((c.toNat : Nat) : Int)
    have hdg := digit_ok ((c.toNat : Nat) : Int)
    rw [digB_dg] at hdg
    have hlr : r.length ≤ 10000 := by simp at hl; omega
    have u1 : (((c.toNat : Nat) : Int) == 36) = (c == 36) := u8_eq _ 36
    have u2 : (((c.toNat : Nat) : Int) == 34) = (c == 34) := u8_eq _ 34
    have hcut : (bt (c :: r)).extract 1 n = bt r := bt_from (c :: r) 1 n hn
    have h5 : ((1 : Int) ≤ (n : Int)) = True := eq_true (by rw [hn]; simp; omega)
    have h6 : ((n : Int) ≤ (n : Int)) = True := eq_true (by omega)
    refine f11 rfl ?_
    unfold oneR
    simp only
    rcases Bool.eq_false_or_eq_true (letB ((c.toNat : Nat) : Int)) with g1 | g1
    · rw [g1] at hlt
      have hw := wordL_ok (c :: r) (by omega)
      have hnm : ∀ hp : List Ent, F tab 21 [.d (iv 1), .d (.str (bt ((c :: r).take (runL 0 (c :: r))))), .d (iv 0)] hp = _ := named_ok 1 ((c :: r).take (runL 0 (c :: r))) (by simp at hl ⊢; omega) 0 (by omega)
      simp only [g1, if_true]
      clear hn
      generalize nmR 1 ((c :: r).take (runL 0 (c :: r))) 0 = q at *
      unfold tkV tkD at hnm ⊢
      simp (disch := omega) only [go_sem, and_self, and_true, true_and, false_and, and_false, Nat.reduceAdd, Nat.reduceMul, Nat.reduceSub, Nat.reduceLeDiff, Nat.reduceLT, Nat.reduceGT, Nat.reduceEqDiff, Nat.reduceBEq, Int.reduceNeg, Int.reduceEq, Int.reduceLT, Int.reduceLE, Int.reduceBEq, Int.reduceToNat, Int.toNat_natCast, Int.natCast_zero, r11_T, r11, hz, hg, hlt, hw, hnm]
    · rw [g1] at hlt
      simp only [g1, Bool.false_eq_true, if_false]
      rcases Bool.eq_false_or_eq_true (c == 36) with g2 | g2
      · rw [g2] at u1
        have hw := wordL_ok r (by omega)
        have hnm : ∀ hp : List Ent, F tab 21 [.d (iv 2), .d (.str (bt (r.take (runL 0 r)))), .d (iv 1)] hp = _ := named_ok 2 (r.take (runL 0 r)) (by simp; omega) 1 (by omega)
        simp only [g2, if_true]
        clear hn
        generalize nmR 2 (r.take (runL 0 r)) 1 = q at *
        unfold tkV tkD at hnm ⊢
        simp (disch := omega) only [go_sem, and_self, and_true, true_and, false_and, and_false, Nat.reduceAdd, Nat.reduceMul, Nat.reduceSub, Nat.reduceLeDiff, Nat.reduceLT, Nat.reduceGT, Nat.reduceEqDiff, Nat.reduceBEq, Int.reduceNeg, Int.reduceEq, Int.reduceLT, Int.reduceLE, Int.reduceBEq, Int.reduceToNat, Int.toNat_natCast, Int.natCast_zero, r11_T, r11, hz, hg, hlt, u1, hcut, h5, h6, hw, hnm]
      · rw [g2] at u1
        simp only [g2, Bool.false_eq_true, if_false]
        rcases Bool.eq_false_or_eq_true (isDg c) with g3 | g3
        · rw [g3] at hdg
          have hnm := number_ok (c :: r) hl
          simp only [g3, if_true]
          clear hn
          generalize numTk (c :: r) = q at *
          unfold tkV tkD at hnm ⊢
          simp (disch := omega) only [go_sem, and_self, and_true, true_and, false_and, and_false, Nat.reduceAdd, Nat.reduceMul, Nat.reduceSub, Nat.reduceLeDiff, Nat.reduceLT, Nat.reduceGT, Nat.reduceEqDiff, Nat.reduceBEq, Int.reduceNeg, Int.reduceEq, Int.reduceLT, Int.reduceLE, Int.reduceBEq, Int.reduceToNat, Int.toNat_natCast, Int.natCast_zero, r11_T, r11, hz, hg, hlt, u1, hdg, hnm]
        · rw [g3] at hdg
          simp only [g3, Bool.false_eq_true, if_false]
          rcases Bool.eq_false_or_eq_true (c == 34) with g4 | g4
          · rw [g4] at u2
            have hnm := text_ok' (c :: r) hl
            simp only [g4, if_true]
            clear hn
            generalize txtR (c :: r) = q at *
            unfold tkV tkD at hnm ⊢
            simp (disch := omega) only [go_sem, and_self, and_true, true_and, false_and, and_false, Nat.reduceAdd, Nat.reduceMul, Nat.reduceSub, Nat.reduceLeDiff, Nat.reduceLT, Nat.reduceGT, Nat.reduceEqDiff, Nat.reduceBEq, Int.reduceNeg, Int.reduceEq, Int.reduceLT, Int.reduceLE, Int.reduceBEq, Int.reduceToNat, Int.toNat_natCast, Int.natCast_zero, r11_T, r11, hz, hg, hlt, u1, hdg, u2, hnm]
          · rw [g4] at u2
            simp only [g4, Bool.false_eq_true, if_false]
            have hs := sign_ok c r (by omega)
            have hsl := sgnN_le (c :: r)
            have hq := isE_bt ((c :: r).take (sgnN (c :: r)))
            obtain ⟨m, hm⟩ : ∃ m, m = sgnN (c :: r) := ⟨_, rfl⟩
            unfold sgR
            rw [← hm] at hs hsl hq ⊢
            have hz2 : (bt ((c :: r).take m)).size = m := by rw [bt_size, List.length_take]; omega
            by_cases h : m = 0
            · have e : decide ((c :: r).take m = []) = true := by simp [h]
              rw [e] at hq
              rw [if_pos h]
              clear hn
              simp (disch := omega) only [go_sem, and_self, and_true, true_and, false_and, and_false, Nat.reduceAdd, Nat.reduceMul, Nat.reduceSub, Nat.reduceLeDiff, Nat.reduceLT, Nat.reduceGT, Nat.reduceEqDiff, Nat.reduceBEq, Int.reduceNeg, Int.reduceEq, Int.reduceLT, Int.reduceLE, Int.reduceBEq, Int.reduceToNat, Int.toNat_natCast, Int.natCast_zero, strD_eql, r11_T, r11, hz, hg, hlt, u1, hdg, u2, hs, hq]
              rfl
            · have e : decide ((c :: r).take m = []) = false := decide_eq_false fun e => by
                have := congrArg List.length e
                rw [List.length_take] at this
                simp at this
                omega
              rw [e] at hq
              rw [if_neg h]
              clear hn
              generalize hT : (c :: r).take m = T at *
              simp (disch := omega) only [go_sem, and_self, and_true, true_and, false_and, and_false, Nat.reduceAdd, Nat.reduceMul, Nat.reduceSub, Nat.reduceLeDiff, Nat.reduceLT, Nat.reduceGT, Nat.reduceEqDiff, Nat.reduceBEq, Int.reduceNeg, Int.reduceEq, Int.reduceLT, Int.reduceLE, Int.reduceBEq, Int.reduceToNat, Int.toNat_natCast, Int.natCast_zero, strD_eql, r11_T, r11, hz, hg, hlt, u1, hdg, u2, hs, hq, hz2]
              rfl
end Go.Pe.T

namespace Go.Pe.T
abbrev TL := List (Tk × Nat)
def endT : Tk := ⟨6, [], 0, 0⟩
def consT (x : Tk × Nat) : TL ⊕ (Nat × Int) → TL ⊕ (Nat × Int)
  | .inl l => .inl (x :: l)
  | .inr y => .inr y
def tkP : Nat → List UInt8 → Nat → TL ⊕ (Nat × Int)
  | 0, _, _ => .inr (0, 0)
  | f + 1, R, at' => if R.drop (blkA false R) = [] then .inl [(endT, at' + blkA false R)]
    else if (oneR (R.drop (blkA false R))).2.2 = 0 then consT ((oneR (R.drop (blkA false R))).1, at' + blkA false R) (tkP f ((R.drop (blkA false R)).drop (oneR (R.drop (blkA false R))).2.1) (at' + blkA false R + (oneR (R.drop (blkA false R))).2.1))
    else .inr (at' + blkA false R, (oneR (R.drop (blkA false R))).2.2)
def tkDs (l : TL) : List D := l.map fun x => tkD x.1 (x.2 : Int)
theorem dg_pos {c : UInt8} {r : List UInt8} (h : isDg c = true) : 1 ≤ lngN (c :: r) := by
  have h1 : 1 ≤ dgN (c :: r) 0 := by unfold dgN; rw [List.drop_zero, List.takeWhile_cons, h]; simp
  have h2 : 1 ≤ lg4 (c :: r) := by unfold lg4; split <;> omega
  unfold lngN lg3
  split
  · have h3 : ∀ i j, 1 ≤ i → 1 ≤ j → 1 ≤ lg0 (c :: r) i j := by intro i j hi hj; unfold lg0; split <;> omega
    exact h3 _ _ h2 (by split <;> omega)
  · exact h2
theorem oneR_len {R : List UInt8} (h0 : R ≠ []) (h : (oneR R).2.2 = 0) : 1 ≤ (oneR R).2.1 ∧ (oneR R).2.1 ≤ R.length := by
  have nm : ∀ (k : Int) (w : List UInt8) (more : Nat), (nmR k w more).2.2 = 0 → (nmR k w more).2.1 = w.length + more ∧ 1 ≤ w.length := by
    intro k w more hh
    unfold nmR at hh ⊢
    split at hh
    · simp at hh
    · rename_i hn
      rw [if_neg hn]
      refine ⟨rfl, ?_⟩
      cases w with
      | nil => exact absurd (.inl rfl) hn
      | cons _ _ => simp
  cases R with
  | nil => exact absurd rfl h0
  | cons c r =>
    unfold oneR at h ⊢
    simp only at h ⊢
    split at h
    · rename_i g
      obtain ⟨h1, h2⟩ := nm _ _ _ h
      simp only [g, if_true]
      have := runL_le (c :: r) 0
      rw [List.length_take] at h1 h2
      omega
    · rename_i g
      have g' : letB ((c.toNat : Nat) : Int) = false := by simpa using g
      simp only [g', Bool.false_eq_true, if_false]
      split at h
      · rename_i g2
        obtain ⟨h1, h2⟩ := nm _ _ _ h
        simp only [g2, if_true]
        rw [List.length_take] at h1 h2
        simp only [List.length_cons]
        omega
      · rename_i g2
        have g2' : (c == 36) = false := by simpa using g2
        simp only [g2', Bool.false_eq_true, if_false]
        split at h
        · rename_i g3
          simp only [g3, if_true]
          unfold numTk at h ⊢
          split at h
          · rename_i g4
            rw [if_pos g4]
            exact ⟨dg_pos g3, lng_le _⟩
          · rename_i g4
            exact absurd h g4
        · rename_i g3
          have g3' : isDg c = false := by simpa using g3
          simp only [g3', Bool.false_eq_true, if_false]
          split at h
          · rename_i g4
            simp only [g4, if_true]
            unfold txtR at h ⊢
            split at h
            · simp at h
            · rename_i g5
              rw [if_neg g5]
              split at h
              · rename_i g6
                rw [if_pos g6]
                have : qtN (c :: r) ≠ 0 := fun e => g5 (.inl e)
                exact ⟨by show 1 ≤ qtN (c :: r); omega, qtN_le _⟩
              · rename_i g6; exact absurd h g6
          · rename_i g4
            have g4' : (c == 34) = false := by simpa using g4
            simp only [g4', Bool.false_eq_true, if_false]
            unfold sgR at h ⊢
            split at h
            · simp at h
            · rename_i g5
              rw [if_neg g5]
              exact ⟨by show 1 ≤ sgnN (c :: r); omega, sgnN_le _⟩
def tkQ (acc : TL) : TL ⊕ (Nat × Int) → Option (Ex × St)
  | .inl l => some (.ret, r6_R (.d (.sl (tkDs (acc ++ l)))) (.d (iv 0)) (.d (iv 0)) [])
  | .inr (p, e) => some (.ret, r6_R (.d (.sl [])) (.d (iv (p : Int))) (.d (iv e)) [])
theorem tkQ_cons (acc : TL) (x : Tk × Nat) (o : TL ⊕ (Nat × Int)) : tkQ acc (consT x o) = tkQ (acc ++ [x]) o := by
  cases o with
  | inl l => simp [consT, tkQ]
  | inr y => rfl
def TkIs (L : List UInt8) (acc : TL) (i f : Nat) : Prop :=
  V (F tab) r6_B0 (r6_S0 (.d (.str (bt L))) (.own 31 (tkDs acc)) (.d (iv i)) []) = tkQ acc (tkP f (L.drop i) i)
theorem tkDs_app (a b : TL) : tkDs (a ++ b) = tkDs a ++ tkDs b := by simp [tkDs]
theorem tkDs_len (a : TL) : (tkDs a).length = a.length := by simp [tkDs]
set_option maxHeartbeats 1000000 in
theorem tk_step (L : List UInt8) (hl : L.length ≤ 10000) (acc : TL) (ha : acc.length ≤ 10000) (i f : Nat) (hi : i ≤ L.length) (ih : ∀ (j : Nat) (acc' : TL), i < j → j ≤ L.length → acc'.length = acc.length + 1 → TkIs L acc' j f) : TkIs L acc i (f + 1) := by
  obtain ⟨n, hn⟩ : ∃ n, n = L.length := ⟨_, rfl⟩
  have hz : (bt L).size = n := hn ▸ bt_size L
  have hbl := blanks_ok (L.drop i) (by simp; omega)
  have hbd := blkA_le false (L.drop i)
  rw [List.length_drop] at hbd
  obtain ⟨b, hb⟩ : ∃ b, b = blkA false (L.drop i) := ⟨_, rfl⟩
  have hdd : (L.drop i).drop b = L.drop (i + b) := by rw [List.drop_drop]
  have hcut : (bt L).extract i n = bt (L.drop i) := bt_from L i n hn
  have hcut2 : (bt L).extract (i + b) n = bt (L.drop (i + b)) := bt_from L (i + b) n hn
  have e1 : (i : Int) + (b : Int) = ((i + b : Nat) : Int) := rfl
  have c1 : (0 ≤ (i : Int)) = True := eq_true (by omega)
  have c2 : ((i : Int) ≤ (n : Int)) = True := eq_true (by omega)
  have c3 : ((n : Int) ≤ (n : Int)) = True := eq_true (by omega)
  have c4 : (0 ≤ ((i + b : Nat) : Int)) = True := eq_true (by omega)
  have c5 : (((i + b : Nat) : Int) ≤ (n : Int)) = True := eq_true (by omega)
  have hrow : ((acc.length + 1) * 48 ≤ maxRow) = True := eq_true (by unfold maxRow; omega)
  have hal := tkDs_len acc
  unfold TkIs
  unfold tkP
  rw [← hb] at hbl hbd ⊢
  rw [hdd]
  by_cases he : L.drop (i + b) = []
  · have hib : i + b = n := by
      have := congrArg List.length he
      rw [List.length_drop] at this
      simp at this
      omega
    have q : (((i + b : Nat) : Int) == (n : Int)) = true := by simp; omega
    rw [if_pos he]
    have hend : tkDs [(endT, i + b)] = [.agg [iv 6, .str ⟨#[]⟩, iv 0, iv 0, iv ((i + b : Nat) : Int)]] := rfl
    simp only [tkQ, tkDs_app, hend]
    clear hn
    generalize tkDs acc = W at *
    rw [r6_B0_eq]
    simp (disch := omega) only [go_sem, and_self, and_true, true_and, false_and, and_false, Nat.reduceAdd, Nat.reduceMul, Nat.reduceSub, Nat.reduceLeDiff, Nat.reduceLT, Nat.reduceGT, Nat.reduceEqDiff, Nat.reduceBEq, Int.reduceNeg, Int.reduceEq, Int.reduceLT, Int.reduceLE, Int.reduceBEq, Int.reduceToNat, Int.toNat_natCast, Int.natCast_zero, r6_C0, hz, hbl, hcut, e1, c1, c2, c3, q, w64, hal, hrow]
  · have hib : i + b ≠ n := fun e => he (List.drop_of_length_le (by omega))
    have q : (((i + b : Nat) : Int) == (n : Int)) = false := by simp; omega
    have hone := one_ok (L.drop (i + b)) he (by simp; omega)
    have hlen := oneR_len he
    rw [List.length_drop] at hlen
    rw [if_neg he]
    obtain ⟨tk, m, e, ho⟩ : ∃ tk m e, oneR (L.drop (i + b)) = (tk, m, e) := ⟨_, _, _, rfl⟩
    rw [ho] at hone hlen ⊢
    unfold tkV tkD at hone
    simp only at hone hlen ⊢
    by_cases h0 : e = 0
    · subst h0
      obtain ⟨m1, m2⟩ := hlen rfl
      have q2 : ((0 : Int) != 0) = false := rfl
      have e2 : ((i + b : Nat) : Int) + (m : Int) = ((i + b + m : Nat) : Int) := rfl
      have k := ih (i + b + m) (acc ++ [(tk, i + b)]) (by omega) (by omega) (by simp)
      rw [if_pos rfl, tkQ_cons, List.drop_drop]
      unfold TkIs at k
      rw [tkDs_app] at k
      have hsing : tkDs [(tk, i + b)] = [.agg [iv tk.k, .str (bt tk.t), iv tk.c, iv tk.s, iv ((i + b : Nat) : Int)]] := rfl
      rw [hsing] at k
      generalize tkQ (acc ++ [(tk, i + b)]) (tkP f (L.drop (i + b + m)) (i + b + m)) = Z at *
      clear hn
      generalize tkDs acc = W at *
      rw [r6_B0_eq]
      simp (disch := omega) only [go_sem, and_self, and_true, true_and, false_and, and_false, Nat.reduceAdd, Nat.reduceMul, Nat.reduceSub, Nat.reduceLeDiff, Nat.reduceLT, Nat.reduceGT, Nat.reduceEqDiff, Nat.reduceBEq, Int.reduceNeg, Int.reduceEq, Int.reduceLT, Int.reduceLE, Int.reduceBEq, Int.reduceToNat, Int.toNat_natCast, Int.natCast_zero, r6_C0, hz, hbl, hcut, hcut2, e1, e2, c1, c2, c3, c4, c5, q, q2, w64, hal, hrow, hone]
      exact k
    · have q2 : (e != 0) = true := by simpa using h0
      rw [if_neg h0]
      unfold tkQ
      clear hn
      generalize tkDs acc = W at *
      rw [r6_B0_eq]
      simp (disch := omega) only [go_sem, and_self, and_true, true_and, false_and, and_false, Nat.reduceAdd, Nat.reduceMul, Nat.reduceSub, Nat.reduceLeDiff, Nat.reduceLT, Nat.reduceGT, Nat.reduceEqDiff, Nat.reduceBEq, Int.reduceNeg, Int.reduceEq, Int.reduceLT, Int.reduceLE, Int.reduceBEq, Int.reduceToNat, Int.toNat_natCast, Int.natCast_zero, r6_C0, hz, hbl, hcut, hcut2, e1, c1, c2, c3, c4, c5, q, q2, w64, hone]
theorem tk_loop (L : List UInt8) (hl : L.length ≤ 10000) : ∀ (f i : Nat) (acc : TL), L.length < i + f → i ≤ L.length → acc.length ≤ i → TkIs L acc i f
  | 0, i, acc, h, hi, ha => by omega
  | f + 1, i, acc, h, hi, ha => tk_step L hl acc (by omega) i f hi fun j acc' h1 h2 h3 => tk_loop L hl f j acc' (by omega) h2 (by omega)
def tkR (L : List UInt8) : TL ⊕ (Nat × Int) := tkP (L.length + 1) L 0
def tkO (hp : List Ent) : TL ⊕ (Nat × Int) → Out
  | .inl l => .ret (.tup [.d (.sl (tkDs l)), .d (iv 0), .d (iv 0)]) hp
  | .inr (p, e) => .ret (.tup [.d (.sl []), .d (iv (p : Int)), .d (iv e)]) hp
theorem tokens_ok (L : List UInt8) (hl : L.length ≤ 4096) (hp : List Ent) : F tab 6 [.d (.str (bt L))] hp = some (tkO hp (tkR L)) := by
  have hz := bt_size L
  have h := tk_loop L (by omega) (L.length + 1) 0 [] (by omega) (by omega) (by simp)
  unfold TkIs at h
  rw [List.drop_zero] at h
  have q : ((L.length : Int) > 4096) = False := eq_false (by omega)
  have h : V (F tab) r6_B0 (r6_S0 (.d (.str (bt L))) (.own 31 []) (.d (iv 0)) []) = tkQ [] (tkR L) := h
  refine f6 rfl ?_
  simp (disch := omega) only [go_sem, and_self, and_true, true_and, false_and, and_false, Nat.reduceAdd, Nat.reduceMul, Nat.reduceSub, Nat.reduceLeDiff, Nat.reduceLT, Nat.reduceGT, Nat.reduceEqDiff, Nat.reduceBEq, Int.reduceNeg, Int.reduceEq, Int.reduceLT, Int.reduceLE, Int.reduceBEq, Int.reduceToNat, Int.toNat_natCast, Int.natCast_zero, r6_T, r6, hz, q]
  rw [r6_B0_n, r6_B0_z5]
  erw [h]
  cases tkR L with
  | inl l => simp only [go_sem, and_self, and_true, true_and, false_and, and_false, Nat.reduceAdd, Nat.reduceMul, Nat.reduceSub, Nat.reduceLeDiff, Nat.reduceLT, Nat.reduceGT, Nat.reduceEqDiff, Nat.reduceBEq, Int.reduceNeg, Int.reduceEq, Int.reduceLT, Int.reduceLE, Int.reduceBEq, Int.reduceToNat, Int.toNat_natCast, Int.natCast_zero, tkQ, tkO]
  | inr p => obtain ⟨p, e⟩ := p; simp only [go_sem, and_self, and_true, true_and, false_and, and_false, Nat.reduceAdd, Nat.reduceMul, Nat.reduceSub, Nat.reduceLeDiff, Nat.reduceLT, Nat.reduceGT, Nat.reduceEqDiff, Nat.reduceBEq, Int.reduceNeg, Int.reduceEq, Int.reduceLT, Int.reduceLE, Int.reduceBEq, Int.reduceToNat, Int.toNat_natCast, Int.natCast_zero, tkQ, tkO]
theorem tk_fuel : ∀ (f g : Nat) (R : List UInt8) (at' : Nat), R.length < f → R.length < g → tkP f R at' = tkP g R at'
  | 0, g, R, at', h, _ => by omega
  | f + 1, 0, R, at', _, h => by omega
  | f + 1, g + 1, R, at', h1, h2 => by
    unfold tkP
    by_cases he : R.drop (blkA false R) = []
    · rw [if_pos he, if_pos he]
    · rw [if_neg he, if_neg he]
      by_cases h0 : (oneR (R.drop (blkA false R))).2.2 = 0
      · obtain ⟨m1, m2⟩ := oneR_len he h0
        rw [List.length_drop] at m2
        rw [if_pos h0, if_pos h0, tk_fuel f g _ _ (by simp; omega) (by simp; omega)]
      · rw [if_neg h0, if_neg h0]
def shT (n : Nat) : TL ⊕ (Nat × Int) → TL ⊕ (Nat × Int)
  | .inl l => .inl (l.map fun x => (x.1, x.2 + n))
  | .inr (p, e) => .inr (p + n, e)
theorem shT_cons (n : Nat) (x : Tk × Nat) (o : TL ⊕ (Nat × Int)) : shT n (consT x o) = consT (x.1, x.2 + n) (shT n o) := by
  cases o with
  | inl l => rfl
  | inr y => obtain ⟨p, e⟩ := y; rfl
theorem tk_shift (n : Nat) : ∀ (f : Nat) (R : List UInt8) (at' : Nat), 0 < f → R.length < f → tkP f R (at' + n) = shT n (tkP f R at')
  | 0, R, at', h, _ => by omega
  | f + 1, R, at', _, hf => by
    unfold tkP
    by_cases he : R.drop (blkA false R) = []
    · rw [if_pos he, if_pos he]
      simp only [shT, List.map_cons, List.map_nil]
      rw [show at' + n + blkA false R = at' + blkA false R + n by omega]
    · rw [if_neg he, if_neg he]
      by_cases h0 : (oneR (R.drop (blkA false R))).2.2 = 0
      · obtain ⟨m1, m2⟩ := oneR_len he h0
        rw [List.length_drop] at m2
        rw [if_pos h0, if_pos h0, shT_cons]
        rw [show at' + n + blkA false R = at' + blkA false R + n by omega, show at' + blkA false R + n + (oneR (R.drop (blkA false R))).2.1 = at' + blkA false R + (oneR (R.drop (blkA false R))).2.1 + n by omega]
        rw [tk_shift n f _ _ (by omega) (by simp; omega)]
      · rw [if_neg h0, if_neg h0]
        simp only [shT]
        rw [show at' + n + blkA false R = at' + blkA false R + n by omega]
end Go.Pe.T

namespace Go.Pe.T
theorem okI_nl (i : Nat) : okI i 10 = false := by
  unfold okI
  have h1 : letB (((10 : UInt8).toNat : Nat) : Int) = false := by decide
  have h2 : digB (((10 : UInt8).toNat : Nat) : Int) = false := by decide
  rw [h1, h2]; simp
theorem runL_app (B : List UInt8) : ∀ (L : List UInt8) (i : Nat), runL i (L ++ 10 :: B) = runL i L
  | [], i => by simp only [List.nil_append, runL, okI_nl, Bool.false_eq_true, if_false]
  | c :: r, i => by simp only [List.cons_append, runL, runL_app B r (i + 1)]
theorem take_same {L X : List UInt8} {n : Nat} (h : n ≤ L.length) : (L ++ X).take n = L.take n := by
  rw [List.take_append_of_le_length h]
theorem isDg_nl : isDg 10 = false := by decide
theorem tw_app (B : List UInt8) : ∀ (L : List UInt8), (L ++ 10 :: B).takeWhile isDg = L.takeWhile isDg
  | [] => by simp [List.takeWhile_cons, isDg_nl]
  | c :: r => by
    simp only [List.cons_append, List.takeWhile_cons, tw_app B r]
theorem dgN_app (L B : List UInt8) (i : Nat) (h : i ≤ L.length) : dgN (L ++ 10 :: B) i = dgN L i := by
  unfold dgN
  rw [List.drop_append_of_le_length h, tw_app]
theorem get_app (L B : List UInt8) (i : Nat) (h : i ≤ L.length) : (L ++ 10 :: B)[i]? = if i = L.length then some 10 else L[i]? := by
  by_cases e : i = L.length
  · subst e
    rw [if_pos rfl, List.getElem?_append_right (Nat.le_refl _)]
    simp
  · rw [if_neg e, List.getElem?_append_left (by omega)]
theorem dotAt_app (L B : List UInt8) (i : Nat) (h : i ≤ L.length) : dotAt (L ++ 10 :: B) i = dotAt L i := by
  unfold dotAt
  rw [get_app L B i h]
  by_cases e : i = L.length
  · subst e
    rw [if_pos rfl, List.getElem?_eq_none (Nat.le_refl _)]
    rfl
  · rw [if_neg e]
theorem eAt_app (L B : List UInt8) (i : Nat) (h : i ≤ L.length) : eAt (L ++ 10 :: B) i = eAt L i := by
  unfold eAt
  rw [get_app L B i h]
  by_cases e : i = L.length
  · subst e
    rw [if_pos rfl, List.getElem?_eq_none (Nat.le_refl _)]
    rfl
  · rw [if_neg e]
theorem pmAt_app (L B : List UInt8) (i : Nat) (h : i ≤ L.length) : pmAt (L ++ 10 :: B) i = pmAt L i := by
  unfold pmAt
  rw [get_app L B i h]
  by_cases e : i = L.length
  · subst e
    rw [if_pos rfl, List.getElem?_eq_none (Nat.le_refl _)]
    rfl
  · rw [if_neg e]
theorem dotAt_lt {L : List UInt8} {i : Nat} (h : dotAt L i = true) : i < L.length := by
  unfold dotAt at h
  split at h
  · rename_i c hc; exact (List.getElem?_eq_some_iff.1 hc).1
  · simp at h
theorem lg4_app (L B : List UInt8) : lg4 (L ++ 10 :: B) = lg4 L := by
  have h0 := dgN_le L 0
  unfold lg4
  rw [dgN_app L B 0 (by omega), dotAt_app L B _ (by omega)]
  rcases Bool.eq_false_or_eq_true (dotAt L (dgN L 0)) with g | g
  · have := dotAt_lt g
    rw [dgN_app L B _ (by omega)]
  · rw [g]
    simp only [Bool.false_and, Bool.false_eq_true, if_false]
theorem lng_app (L B : List UInt8) : lngN (L ++ 10 :: B) = lngN L := by
  have h4 := lg4_le L
  unfold lngN
  rw [lg4_app]
  unfold lg3
  rw [eAt_app L B _ h4]
  rcases Bool.eq_false_or_eq_true (eAt L (lg4 L)) with g | g
  · have hlt := eAt_lt g
    rw [g, if_pos rfl, if_pos rfl]
    unfold lg2
    rw [pmAt_app L B _ (by omega)]
    rcases Bool.eq_false_or_eq_true (pmAt L (lg4 L + 1)) with g2 | g2
    · have := pmAt_lt g2
      rw [g2, if_pos rfl]
      unfold lg0
      rw [dgN_app L B _ (by omega)]
    · rw [g2, if_neg (by simp)]
      unfold lg0
      rw [dgN_app L B _ (by omega)]
  · rw [g, if_neg (by simp), if_neg (by simp)]
theorem qtA_app (X : List UInt8) : ∀ (m : Bool) (L : List UInt8) (n : Nat), qtA m L = some n → qtA m (L ++ X) = some n
  | _, [], n, h => by simp [qtA] at h
  | true, c :: r, n, h => by
    simp only [qtA, Option.map_eq_some_iff, List.cons_append] at h ⊢
    obtain ⟨a, h1, h2⟩ := h
    exact ⟨a, qtA_app X false r a h1, h2⟩
  | false, c :: r, n, h => by
    simp only [qtA, List.cons_append] at h ⊢
    split at h
    · rename_i g
      rw [if_pos g]
      simp only [Option.map_eq_some_iff] at h ⊢
      obtain ⟨a, h1, h2⟩ := h
      exact ⟨a, qtA_app X true r a h1, h2⟩
    · rename_i g
      rw [if_neg g]
      split at h
      · rename_i g2
        rw [if_pos g2]
        exact h
      · rename_i g2
        rw [if_neg g2]
        simp only [Option.map_eq_some_iff] at h ⊢
        obtain ⟨a, h1, h2⟩ := h
        exact ⟨a, qtA_app X false r a h1, h2⟩
theorem qtN_app {L X : List UInt8} (h : qtN L ≠ 0) : qtN (L ++ X) = qtN L := by
  unfold qtN at h ⊢
  cases hq : qtA false (L.drop 1) with
  | none => rw [hq] at h; simp at h
  | some n =>
    have hl : 1 ≤ L.length := by
      cases L with
      | nil => simp [qtA] at hq
      | cons _ _ => simp
    rw [List.drop_append_of_le_length hl, qtA_app X false _ n hq]
theorem sgn_app {L B : List UInt8} (h : sgnN L ≠ 0) : sgnN (L ++ 10 :: B) = sgnN L := by
  match L with
  | [] => simp [sgnN, twoB] at h
  | [c] =>
    have h1 : twoB [c] = false := rfl
    have h2 : twoB ([c] ++ 10 :: B) = false := by simp [twoB]
    unfold sgnN
    rw [h1, h2]
    rfl
  | a :: b :: r => rfl
theorem one_app (R B : List UInt8) (h0 : R ≠ []) (h : (oneR R).2.2 = 0) : oneR (R ++ 10 :: B) = oneR R := by
  cases R with
  | nil => exact absurd rfl h0
  | cons c r =>
    have e1 : runL 0 (c :: (r ++ 10 :: B)) = runL 0 (c :: r) := runL_app B (c :: r) 0
    have e2 : (c :: (r ++ 10 :: B)).take (runL 0 (c :: r)) = (c :: r).take (runL 0 (c :: r)) := take_same (L := c :: r) (X := 10 :: B) (runL_le _ _)
    have e3 : (r ++ 10 :: B).take (runL 0 r) = r.take (runL 0 r) := take_same (runL_le _ _)
    have e4 : lngN (c :: (r ++ 10 :: B)) = lngN (c :: r) := lng_app (c :: r) B
    have e5 : (c :: (r ++ 10 :: B)).take (lngN (c :: r)) = (c :: r).take (lngN (c :: r)) := take_same (L := c :: r) (X := 10 :: B) (lng_le _)
    unfold oneR at h ⊢
    simp only [List.cons_append] at h ⊢
    split at h
    · rename_i g
      simp only [g, if_true]
      rw [e1, e2]
    · rename_i g
      have g' : letB ((c.toNat : Nat) : Int) = false := by simpa using g
      simp only [g', Bool.false_eq_true, if_false]
      split at h
      · rename_i g2
        simp only [g2, if_true]
        rw [runL_app B r 0, e3]
      · rename_i g2
        have g2' : (c == 36) = false := by simpa using g2
        simp only [g2', Bool.false_eq_true, if_false]
        split at h
        · rename_i g3
          simp only [g3, if_true]
          unfold numTk
          rw [e4, e5]
        · rename_i g3
          have g3' : isDg c = false := by simpa using g3
          simp only [g3', Bool.false_eq_true, if_false]
          split at h
          · rename_i g4
            simp only [g4, if_true]
            have hq : qtN (c :: r) ≠ 0 := by
              intro e
              unfold txtR at h
              rw [if_pos (.inl e)] at h
              simp at h
            have e6 : qtN (c :: (r ++ 10 :: B)) = qtN (c :: r) := qtN_app (L := c :: r) (X := 10 :: B) hq
            have e7 : (c :: (r ++ 10 :: B)).take (qtN (c :: r)) = (c :: r).take (qtN (c :: r)) := take_same (L := c :: r) (X := 10 :: B) (qtN_le _)
            unfold txtR
            rw [e6, e7]
          · rename_i g4
            have g4' : (c == 34) = false := by simpa using g4
            simp only [g4', Bool.false_eq_true, if_false]
            have hq : sgnN (c :: r) ≠ 0 := by
              intro e
              unfold sgR at h
              rw [if_pos e] at h
              simp at h
            have e6 : sgnN (c :: (r ++ 10 :: B)) = sgnN (c :: r) := sgn_app (L := c :: r) (B := B) hq
            have e7 : (c :: (r ++ 10 :: B)).take (sgnN (c :: r)) = (c :: r).take (sgnN (c :: r)) := take_same (L := c :: r) (X := 10 :: B) (sgnN_le _)
            unfold sgR
            rw [e6, e7]
theorem blk_app2 (X : List UInt8) : ∀ (m : Bool) (A : List UInt8), blkA m A < A.length → blkA m (A ++ X) = blkA m A
  | m, [], h => by simp at h
  | false, c :: r, h => by
    simp only [blkA, List.cons_append, List.length_cons] at h ⊢
    split at h
    · rename_i g; rw [if_pos g, if_pos g, blk_app2 X false r (by omega)]
    · rename_i g
      rw [if_neg g, if_neg g]
      split at h
      · rename_i g2; rw [if_pos g2, if_pos g2, blk_app2 X true r (by omega)]
      · rename_i g2; rw [if_neg g2, if_neg g2]
  | true, c :: r, h => by
    simp only [blkA, List.cons_append, List.length_cons] at h ⊢
    split at h
    · rename_i g; rw [if_pos g, if_pos g, blk_app2 X false r (by omega)]
    · rename_i g; rw [if_neg g, if_neg g, blk_app2 X true r (by omega)]
theorem blk_app1 (B : List UInt8) : ∀ (m : Bool) (A : List UInt8), blkA m A = A.length → blkA m (A ++ 10 :: B) = A.length + 1 + blkA false B
  | false, [], h => by rw [List.nil_append, blk_nl]; simp; omega
  | true, [], h => by simp [blkA]; omega
  | false, c :: r, h => by
    simp only [blkA, List.cons_append, List.length_cons] at h ⊢
    split at h
    · rename_i g; rw [if_pos g, blk_app1 B false r (by omega)]; omega
    · rename_i g
      rw [if_neg g]
      split at h
      · rename_i g2; rw [if_pos g2, blk_app1 B true r (by omega)]; omega
      · omega
  | true, c :: r, h => by
    simp only [blkA, List.cons_append, List.length_cons] at h ⊢
    split at h
    · rename_i g; rw [if_pos g, blk_app1 B false r (by omega)]; omega
    · rename_i g; rw [if_neg g, blk_app1 B true r (by omega)]; omega
def joinT (l : TL) : TL ⊕ (Nat × Int) → TL ⊕ (Nat × Int)
  | .inl m => .inl (l.dropLast ++ m)
  | .inr y => .inr y
theorem tkP_ne : ∀ (f : Nat) (R : List UInt8) (at' : Nat) (l : TL), tkP f R at' = .inl l → l ≠ []
  | 0, R, at', l, h => by simp [tkP] at h
  | f + 1, R, at', l, h => by
    unfold tkP at h
    split at h
    · simp only [Sum.inl.injEq] at h
      subst h; simp
    · split at h
      · cases hq : tkP f ((R.drop (blkA false R)).drop (oneR (R.drop (blkA false R))).2.1) (at' + blkA false R + (oneR (R.drop (blkA false R))).2.1) with
        | inl l' => rw [hq] at h; simp only [consT, Sum.inl.injEq] at h; subst h; simp
        | inr y => rw [hq] at h; simp [consT] at h
      · simp at h
theorem tk_join (B : List UInt8) : ∀ (f : Nat) (A : List UInt8) (at' : Nat) (l : TL), A.length < f → tkP f A at' = .inl l → tkP (f + (B.length + 1)) (A ++ 10 :: B) at' = joinT l (tkP (B.length + 1) B (at' + A.length + 1))
  | 0, A, at', l, hf, h => by omega
  | f + 1, A, at', l, hf, h => by
    have hle := blkA_le false A
    rw [show f + 1 + (B.length + 1) = (f + (B.length + 1)) + 1 by omega]
    unfold tkP at h
    by_cases he : A.drop (blkA false A) = []
    · rw [if_pos he] at h
      simp only [Sum.inl.injEq] at h
      subst h
      have hb : blkA false A = A.length := by
        have := congrArg List.length he
        rw [List.length_drop] at this
        simp at this
        omega
      have h1 := blk_app1 B false A hb
      have hj : ∀ o, joinT [(endT, at' + blkA false A)] o = o := by intro o; cases o <;> simp [joinT]
      rw [hj]
      have hd : (A ++ 10 :: B).drop (A.length + 1 + blkA false B) = B.drop (blkA false B) := by
        rw [show A.length + 1 + blkA false B = A.length + (blkA false B + 1) by omega, List.drop_append]
        simp
      have e3 : at' + (A.length + 1 + blkA false B) = at' + A.length + 1 + blkA false B := by omega
      have step : ∀ g, tkP (g + 1) (A ++ 10 :: B) at' = tkP (g + 1) B (at' + A.length + 1) := by
        intro g
        unfold tkP
        rw [h1, hd, e3]
      rw [step]
      exact tk_fuel _ _ _ _ (by omega) (by omega)
    · rw [if_neg he] at h
      have hlt : blkA false A < A.length := by
        rcases Nat.lt_or_ge (blkA false A) A.length with h' | h'
        · exact h'
        · exact absurd (List.drop_of_length_le h') he
      have h2 := blk_app2 (10 :: B) false A hlt
      have hd : (A ++ 10 :: B).drop (blkA false A) = A.drop (blkA false A) ++ 10 :: B := List.drop_append_of_le_length (by omega)
      by_cases h0 : (oneR (A.drop (blkA false A))).2.2 = 0
      · rw [if_pos h0] at h
        have ho := one_app (A.drop (blkA false A)) B he h0
        obtain ⟨m1, m2⟩ := oneR_len he h0
        have hlen : (A.drop (blkA false A)).length = A.length - blkA false A := List.length_drop
        cases hq : tkP f ((A.drop (blkA false A)).drop (oneR (A.drop (blkA false A))).2.1) (at' + blkA false A + (oneR (A.drop (blkA false A))).2.1) with
        | inr y => rw [hq] at h; simp [consT] at h
        | inl l' =>
          rw [hq] at h
          simp only [consT, Sum.inl.injEq] at h
          subst h
          have ih := tk_join B f _ _ l' (by rw [List.length_drop, hlen]; omega) hq
          rw [List.length_drop, hlen] at ih
          have hne := tkP_ne _ _ _ _ hq
          rw [show at' + blkA false A + (oneR (A.drop (blkA false A))).2.1 + (A.length - blkA false A - (oneR (A.drop (blkA false A))).2.1) + 1 = at' + A.length + 1 by omega] at ih
          generalize tkP (B.length + 1) B (at' + A.length + 1) = Z at ih ⊢
          unfold tkP
          rw [h2, hd, if_neg (by simp), ho, if_pos h0, List.drop_append_of_le_length m2, ih]
          cases Z with
          | inl m =>
            simp only [joinT, consT]
            rw [List.dropLast_cons_of_ne_nil hne]
            rfl
          | inr y => rfl
      · rw [if_neg h0] at h
        simp at h
theorem tkR_join (A B : List UInt8) (l m : TL) (h1 : tkR A = .inl l) (h2 : tkR B = .inl m) : tkR (A ++ 10 :: B) = .inl (l.dropLast ++ m.map fun x => (x.1, x.2 + (A.length + 1))) := by
  unfold tkR at h1 h2 ⊢
  have h := tk_join B (A.length + 1) A 0 l (by omega) h1
  rw [tk_fuel _ (A.length + 1 + (B.length + 1)) _ _ (by simp) (by simp), h]
  rw [show 0 + A.length + 1 = 0 + (A.length + 1) by omega, tk_shift (A.length + 1) _ _ _ (by omega) (by omega), h2]
  rfl
end Go.Pe.T

namespace Go.Pe.T
theorem ok_of13 {n f : Nat} {args : List PV} {v : PV} (hf : pf f = true) (h : evF tab n f args [] = some (.ret v [])) (hp : List Ent) : F tab f args hp = some (.ret v hp) :=
  F_some.2 ⟨n, ((evF_nice (pf := pf) pf_ok n).2 f hf _ _ _ _ h).2 hp⟩
theorem lives13_ok (hp : List Ent) : F tab 7 [] hp = some (.ret (.d (.bool true)) hp) := by
  have h : evF tab 70 7 [] [] = some (.ret (.d (.bool true)) []) := by kernel_rfl
  exact ok_of13 rfl h hp
theorem eqD_tk (k c s a : Int) (t : ByteArray) : eqD (.st [(0, 1, .i), (1, 1, .s), (2, 2, (.st [(0, 1, .i), (1, 1, .i)])), (4, 1, .i)]) (.agg [iv k, .str t, iv c, iv s, iv a]) (.agg [iv k, .str t, iv c, iv s, iv a]) = some true := by
  have e : eqD (.st [(0, 1, .i), (1, 1, .s), (2, 2, (.st [(0, 1, .i), (1, 1, .i)])), (4, 1, .i)]) (.agg [iv k, .str t, iv c, iv s, iv a]) (.agg [iv k, .str t, iv c, iv s, iv a])
    = (match some (k == k) with
      | some true => (match some (t.toList == t.toList) with
        | some true => (match (match some (c == c) with | some true => (match some (s == s) with | some true => some true | some false => some false | none => none) | some false => some false | none => none) with
          | some true => (match some (a == a) with | some true => some true | some false => some false | none => none)
          | some false => some false | none => none)
        | some false => some false | none => none)
      | some false => some false | none => none) := rfl
  rw [e]
  simp
theorem tkP_len : ∀ (f : Nat) (R : List UInt8) (at' : Nat) (l : TL), tkP f R at' = .inl l → l.length ≤ f
  | 0, R, at', l, h => by simp [tkP] at h
  | f + 1, R, at', l, h => by
    unfold tkP at h
    split at h
    · cases h; simp
    · split at h
      · cases hh : tkP f ((R.drop (blkA false R)).drop (oneR (R.drop (blkA false R))).2.1) (at' + blkA false R + (oneR (R.drop (blkA false R))).2.1) with
        | inl l' =>
          have ih := tkP_len f _ _ l' hh
          rw [hh] at h
          cases h
          simp; omega
        | inr y => rw [hh] at h; cases h
      · cases h
theorem tkP_at : ∀ (f : Nat) (R : List UInt8) (at' : Nat) (l : TL), tkP f R at' = .inl l → ∀ x ∈ l, x.2 ≤ at' + R.length
  | 0, R, at', l, h => by simp [tkP] at h
  | f + 1, R, at', l, h => by
    have hbd := blkA_le false R
    unfold tkP at h
    split at h
    · cases h
      intro x hx
      simp at hx
      rw [hx]
      simp only
      omega
    · rename_i hne
      split at h
      · rename_i h0
        obtain ⟨m1, m2⟩ := oneR_len hne h0
        rw [List.length_drop] at m2
        cases hh : tkP f ((R.drop (blkA false R)).drop (oneR (R.drop (blkA false R))).2.1) (at' + blkA false R + (oneR (R.drop (blkA false R))).2.1) with
        | inl l' =>
          have ih := tkP_at f _ _ l' hh
          rw [hh] at h
          cases h
          intro x hx
          rcases List.mem_cons.1 hx with rfl | hx
          · simp only; omega
          · have := ih x hx
            simp only [List.length_drop] at this
            omega
        | inr y => rw [hh] at h; cases h
      · cases h
theorem tkDs_get {l : TL} {i : Nat} {x : Tk × Nat} (h : l[i]? = some x) : (tkDs l)[i]? = some (.agg [iv x.1.k, .str (bt x.1.t), iv x.1.c, iv x.1.s, iv (x.2 : Int)]) := by
  unfold tkDs
  rw [List.getElem?_map, h]
  rfl
def wOf (n : Nat) (l m : TL) : TL := l.dropLast ++ m.map fun x => (x.1, x.2 + (n + 1))
def LjIs (A : List UInt8) (l m : TL) (i : Nat) : Prop :=
  V (F tab) r5_B0 (r5_S0 (.d (.str (bt A))) (.d (.sl (tkDs l))) (.d (.sl (tkDs m))) (.d (.sl (tkDs (wOf A.length l m)))) (.d (iv i)) []) = some (.norm, r5_E0 [])
set_option maxHeartbeats 1000000 in
theorem lj_step (A : List UInt8) (hA : A.length ≤ 2000) (l m : TL) (hl : 1 ≤ l.length) (hl2 : l.length ≤ 3000) (hm2 : m.length ≤ 3000) (hat : ∀ x ∈ m, x.2 ≤ 3000) (i : Nat) (hi : i ≤ (wOf A.length l m).length) (ih : i < (wOf A.length l m).length → LjIs A l m (i + 1)) : LjIs A l m i := by
  have hz := bt_size A
  have hwl : (wOf A.length l m).length = l.length - 1 + m.length := by simp [wOf]
  have a1 := tkDs_len l
  have a2 := tkDs_len m
  have a3 := tkDs_len (wOf A.length l m)
  obtain ⟨n, hn⟩ : ∃ n, n = A.length := ⟨_, rfl⟩
  obtain ⟨W, hW⟩ : ∃ W, W = wOf A.length l m := ⟨_, rfl⟩
  unfold LjIs at ih ⊢
  rw [← hW] at a3 hwl hi ih ⊢
  rw [← hn] at hz
  by_cases h : i < W.length
  · have ih := ih h
    have h1 : ((i : Int) < (W.length : Int)) = True := eq_true (by omega)
    have i0 : (0 ≤ (i : Int)) = True := eq_true (by omega)
    rw [Int.natCast_add, Int.natCast_one] at ih
    by_cases h2 : i < l.length - 1
    · have h3 : ((i : Int) < (l.length : Int) - 1) = True := eq_true (by omega)
      have g1 : l[i]? = some l[i] := List.getElem?_eq_getElem (by omega)
      have g2 : W[i]? = some l[i] := by
        rw [hW]
        unfold wOf
        rw [List.getElem?_append_left (by simp; omega), List.getElem?_dropLast, if_pos h2, g1]
      have v1 := tkDs_get g1
      have v2 := tkDs_get g2
      have e0 := eqD_tk l[i].1.k l[i].1.c l[i].1.s (l[i].2 : Int) (bt l[i].1.t)
      generalize l[i].1.k = k at *
      generalize l[i].1.c = c at *
      generalize l[i].1.s = s at *
      generalize bt l[i].1.t = t at *
      generalize (l[i].2 : Int) = a at *
      clear hn hW g1 g2
      generalize tkDs W = DW at *
      generalize tkDs l = DL at *
      generalize tkDs m = DM at *
      rw [r5_B0_eq]
      simp (disch := omega) only [go_sem, and_self, and_true, true_and, false_and, and_false, Nat.reduceAdd, Nat.reduceMul, Nat.reduceSub, Nat.reduceLeDiff, Nat.reduceLT, Nat.reduceGT, Nat.reduceEqDiff, Nat.reduceBEq, Int.reduceNeg, Int.reduceEq, Int.reduceLT, Int.reduceLE, Int.reduceBEq, Int.reduceToNat, Int.toNat_natCast, Int.natCast_zero, r5_C0, hz, h1, i0, h3, a1, a2, a3, v1, v2, e0, w64]
      exact ih
    · have h3 : ((i : Int) < (l.length : Int) - 1) = False := eq_false (by omega)
      have hj : i - (l.length - 1) < m.length := by omega
      obtain ⟨x, g1⟩ : ∃ x, m[i - (l.length - 1)]? = some x := ⟨_, List.getElem?_eq_getElem hj⟩
      have hx : x.2 ≤ 3000 := hat x (List.mem_of_getElem? g1)
      have g2 : W[i]? = some (x.1, x.2 + (n + 1)) := by
        rw [hW]
        unfold wOf
        rw [List.getElem?_append_right (by simp; omega), List.getElem?_map, List.length_dropLast, g1, hn]
        rfl
      have j0 : (0 ≤ (i : Int) - (l.length : Int) + 1) = True := eq_true (by omega)
      have j1 : ((i : Int) - (l.length : Int) + 1).toNat = i - (l.length - 1) := by omega
      have v1 := tkDs_get g1
      have v2 := tkDs_get g2
      have e1 : ((x.2 + (n + 1) : Nat) : Int) = (x.2 : Int) + (n : Int) + 1 := by omega
      simp only [e1] at v2
      have e0 := eqD_tk x.1.k x.1.c x.1.s ((x.2 : Int) + (n : Int) + 1) (bt x.1.t)
      generalize x.1.k = k at *
      generalize x.1.c = c at *
      generalize x.1.s = s at *
      generalize bt x.1.t = t at *
      have hn2 : n ≤ 2000 := by omega
      clear hn hW g1 g2
      generalize tkDs W = DW at *
      generalize tkDs l = DL at *
      generalize tkDs m = DM at *
      rw [r5_B0_eq]
      simp (disch := omega) only [go_sem, and_self, and_true, true_and, false_and, and_false, Nat.reduceAdd, Nat.reduceMul, Nat.reduceSub, Nat.reduceLeDiff, Nat.reduceLT, Nat.reduceGT, Nat.reduceEqDiff, Nat.reduceBEq, Int.reduceNeg, Int.reduceEq, Int.reduceLT, Int.reduceLE, Int.reduceBEq, Int.reduceToNat, Int.toNat_natCast, Int.natCast_zero, r5_C0, hz, h1, i0, h3, j0, j1, a1, a2, a3, v1, v2, e0, w64]
      exact ih
  · have h1 : ((i : Int) < (W.length : Int)) = False := eq_false (by omega)
    clear hn hW
    generalize tkDs W = DW at *
    generalize tkDs l = DL at *
    generalize tkDs m = DM at *
    rw [r5_B0_eq]
    simp (disch := omega) only [go_sem, and_self, and_true, true_and, false_and, and_false, Nat.reduceAdd, Nat.reduceMul, Nat.reduceSub, Nat.reduceLeDiff, Nat.reduceLT, Nat.reduceGT, Nat.reduceEqDiff, Nat.reduceBEq, Int.reduceNeg, Int.reduceEq, Int.reduceLT, Int.reduceLE, Int.reduceBEq, Int.reduceToNat, Int.toNat_natCast, Int.natCast_zero, r5_C0, hz, h1, a1, a2, a3, w64]
theorem lj_loop (A : List UInt8) (hA : A.length ≤ 2000) (l m : TL) (hl : 1 ≤ l.length) (hl2 : l.length ≤ 3000) (hm2 : m.length ≤ 3000) (hat : ∀ x ∈ m, x.2 ≤ 3000) : ∀ (f i : Nat), i + f = (wOf A.length l m).length → LjIs A l m i
  | 0, i, h => lj_step A hA l m hl hl2 hm2 hat i (by omega) fun h' => absurd h' (by omega)
  | f + 1, i, h => lj_step A hA l m hl hl2 hm2 hat i (by omega) fun _ => lj_loop A hA l m hl hl2 hm2 hat f (i + 1) (by omega)
theorem tkP_err : ∀ (f : Nat) (R : List UInt8) (at' p : Nat) (e : Int), R.length < f → tkP f R at' = .inr (p, e) → e ≠ 0
  | 0, R, at', p, e, hf, h => by omega
  | f + 1, R, at', p, e, hf, h => by
    unfold tkP at h
    split at h
    · cases h
    · rename_i hne
      split at h
      · rename_i h0
        obtain ⟨m1, m2⟩ := oneR_len hne h0
        cases hh : tkP f ((R.drop (blkA false R)).drop (oneR (R.drop (blkA false R))).2.1) (at' + blkA false R + (oneR (R.drop (blkA false R))).2.1) with
        | inl l' => rw [hh] at h; cases h
        | inr y =>
          obtain ⟨p', e'⟩ := y
          rw [hh] at h
          cases h
          refine tkP_err f _ _ p e ?_ hh
          rw [List.length_drop, List.length_drop] at *
          omega
      · rename_i h0
        cases h
        exact h0
set_option maxHeartbeats 1000000 in
theorem LexJoins_bt (A B : List UInt8) (hp : List Ent) : F tab 5 [.d (.str (bt A)), .d (.str (bt B))] hp = some (.ret (.d (.bool true)) hp) := by
  have hza := bt_size A
  have hzb := bt_size B
  have hL := lives13_ok
  refine f5 rfl ?_
  by_cases hA : (A.length : Int) > 2000
  · simp (disch := omega) only [go_sem, and_self, and_true, true_and, false_and, and_false, Nat.reduceAdd, Nat.reduceMul, Nat.reduceSub, Nat.reduceLeDiff, Nat.reduceLT, Nat.reduceGT, Nat.reduceEqDiff, Nat.reduceBEq, Int.reduceNeg, Int.reduceEq, Int.reduceLT, Int.reduceLE, Int.reduceBEq, Int.reduceToNat, Int.toNat_natCast, Int.natCast_zero, r5_T, r5, hza, hzb, hA, hL]
  by_cases hB : (B.length : Int) > 2000
  · simp (disch := omega) only [go_sem, and_self, and_true, true_and, false_and, and_false, Nat.reduceAdd, Nat.reduceMul, Nat.reduceSub, Nat.reduceLeDiff, Nat.reduceLT, Nat.reduceGT, Nat.reduceEqDiff, Nat.reduceBEq, Int.reduceNeg, Int.reduceEq, Int.reduceLT, Int.reduceLE, Int.reduceBEq, Int.reduceToNat, Int.toNat_natCast, Int.natCast_zero, r5_T, r5, hza, hzb, hA, hB, hL]
  have t1 := tokens_ok A (by omega)
  have t2 := tokens_ok B (by omega)
  have t3 := tokens_ok (A ++ 10 :: B) (by simp; omega)
  have s1 := str_add A [10] (by simp; omega)
  have s2 := str_add (A ++ [10]) B (by simp; omega)
  rw [List.append_assoc, List.singleton_append] at s2
  have e10 : (⟨#[10]⟩ : ByteArray) = bt [10] := rfl
  have z0 : ((0 : Int) != 0) = false := rfl
  cases h1 : tkR A with
  | inr y =>
    obtain ⟨p, e⟩ := y
    have he : (e != 0) = true := by simpa using tkP_err _ _ _ _ _ (by omega) h1
    rw [h1] at t1
    unfold tkO at t1
    simp only at t1
    cases h2 : tkR B with
    | inr y =>
      obtain ⟨p', e'⟩ := y
      rw [h2] at t2
      unfold tkO at t2
      simp only at t2
      cases h3 : tkR (A ++ 10 :: B) with
      | inr y =>
        obtain ⟨p3, e3⟩ := y
        rw [h3] at t3
        unfold tkO at t3
        simp only at t3
        simp (disch := omega) only [go_sem, and_self, and_true, true_and, false_and, and_false, Nat.reduceAdd, Nat.reduceMul, Nat.reduceSub, Nat.reduceLeDiff, Nat.reduceLT, Nat.reduceGT, Nat.reduceEqDiff, Nat.reduceBEq, Int.reduceNeg, Int.reduceEq, Int.reduceLT, Int.reduceLE, Int.reduceBEq, Int.reduceToNat, Int.toNat_natCast, Int.natCast_zero, r5_T, r5, hza, hzb, hA, hB, hL, t1, t2, t3, e10, s1, s2, he]
      | inl w =>
        rw [h3] at t3
        unfold tkO at t3
        simp only at t3
        generalize tkDs w = DW at t3
        simp (disch := omega) only [go_sem, and_self, and_true, true_and, false_and, and_false, Nat.reduceAdd, Nat.reduceMul, Nat.reduceSub, Nat.reduceLeDiff, Nat.reduceLT, Nat.reduceGT, Nat.reduceEqDiff, Nat.reduceBEq, Int.reduceNeg, Int.reduceEq, Int.reduceLT, Int.reduceLE, Int.reduceBEq, Int.reduceToNat, Int.toNat_natCast, Int.natCast_zero, r5_T, r5, hza, hzb, hA, hB, hL, t1, t2, t3, e10, s1, s2, he]
    | inl m =>
      rw [h2] at t2
      unfold tkO at t2
      simp only at t2
      generalize tkDs m = DM at t2
      cases h3 : tkR (A ++ 10 :: B) with
      | inr y =>
        obtain ⟨p3, e3⟩ := y
        rw [h3] at t3
        unfold tkO at t3
        simp only at t3
        simp (disch := omega) only [go_sem, and_self, and_true, true_and, false_and, and_false, Nat.reduceAdd, Nat.reduceMul, Nat.reduceSub, Nat.reduceLeDiff, Nat.reduceLT, Nat.reduceGT, Nat.reduceEqDiff, Nat.reduceBEq, Int.reduceNeg, Int.reduceEq, Int.reduceLT, Int.reduceLE, Int.reduceBEq, Int.reduceToNat, Int.toNat_natCast, Int.natCast_zero, r5_T, r5, hza, hzb, hA, hB, hL, t1, t2, t3, e10, s1, s2, he]
      | inl w =>
        rw [h3] at t3
        unfold tkO at t3
        simp only at t3
        generalize tkDs w = DW at t3
        simp (disch := omega) only [go_sem, and_self, and_true, true_and, false_and, and_false, Nat.reduceAdd, Nat.reduceMul, Nat.reduceSub, Nat.reduceLeDiff, Nat.reduceLT, Nat.reduceGT, Nat.reduceEqDiff, Nat.reduceBEq, Int.reduceNeg, Int.reduceEq, Int.reduceLT, Int.reduceLE, Int.reduceBEq, Int.reduceToNat, Int.toNat_natCast, Int.natCast_zero, r5_T, r5, hza, hzb, hA, hB, hL, t1, t2, t3, e10, s1, s2, he]
  | inl l =>
    rw [h1] at t1
    unfold tkO at t1
    simp only at t1
    cases h2 : tkR B with
    | inr y =>
      obtain ⟨p', e'⟩ := y
      have he : (e' != 0) = true := by simpa using tkP_err _ _ _ _ _ (by omega) h2
      rw [h2] at t2
      unfold tkO at t2
      simp only at t2
      generalize tkDs l = DL at t1
      cases h3 : tkR (A ++ 10 :: B) with
      | inr y =>
        obtain ⟨p3, e3⟩ := y
        rw [h3] at t3
        unfold tkO at t3
        simp only at t3
        simp (disch := omega) only [go_sem, and_self, and_true, true_and, false_and, and_false, Nat.reduceAdd, Nat.reduceMul, Nat.reduceSub, Nat.reduceLeDiff, Nat.reduceLT, Nat.reduceGT, Nat.reduceEqDiff, Nat.reduceBEq, Int.reduceNeg, Int.reduceEq, Int.reduceLT, Int.reduceLE, Int.reduceBEq, Int.reduceToNat, Int.toNat_natCast, Int.natCast_zero, r5_T, r5, hza, hzb, hA, hB, hL, t1, t2, t3, e10, s1, s2, he, z0]
      | inl w =>
        rw [h3] at t3
        unfold tkO at t3
        simp only at t3
        generalize tkDs w = DW at t3
        simp (disch := omega) only [go_sem, and_self, and_true, true_and, false_and, and_false, Nat.reduceAdd, Nat.reduceMul, Nat.reduceSub, Nat.reduceLeDiff, Nat.reduceLT, Nat.reduceGT, Nat.reduceEqDiff, Nat.reduceBEq, Int.reduceNeg, Int.reduceEq, Int.reduceLT, Int.reduceLE, Int.reduceBEq, Int.reduceToNat, Int.toNat_natCast, Int.natCast_zero, r5_T, r5, hza, hzb, hA, hB, hL, t1, t2, t3, e10, s1, s2, he, z0]
    | inl m =>
      have h3 := tkR_join A B l m h1 h2
      rw [h3] at t3
      rw [h2] at t2
      unfold tkO at t2 t3
      simp only at t2 t3
      have hl2 := tkP_len _ _ _ _ h1
      have hm2 := tkP_len _ _ _ _ h2
      have hat := tkP_at _ _ _ _ h2
      have hne : 1 ≤ l.length := List.length_pos_iff.2 (tkP_ne _ _ _ _ h1)
      have hj := lj_loop A (by omega) l m hne (by omega) (by omega) (fun x hx => by have := hat x hx; omega) (wOf A.length l m).length 0 (by omega)
      unfold LjIs at hj
      have a1 := tkDs_len l
      have a2 := tkDs_len m
      have a3 : (tkDs (wOf A.length l m)).length = l.length - 1 + m.length := by rw [tkDs_len]; simp [wOf]
      have g0 : ((((l.length - 1 + m.length : Nat) : Int)) != (l.length : Int) + (m.length : Int) - 1) = false := by simp; omega
      unfold wOf at hj a3
      generalize tkDs (l.dropLast ++ m.map fun x => (x.1, x.2 + (A.length + 1))) = DW at *
      generalize tkDs l = DL at *
      generalize tkDs m = DM at *
      simp (disch := omega) only [go_sem, and_self, and_true, true_and, false_and, and_false, Nat.reduceAdd, Nat.reduceMul, Nat.reduceSub, Nat.reduceLeDiff, Nat.reduceLT, Nat.reduceGT, Nat.reduceEqDiff, Nat.reduceBEq, Int.reduceNeg, Int.reduceEq, Int.reduceLT, Int.reduceLE, Int.reduceBEq, Int.reduceToNat, Int.toNat_natCast, Int.natCast_zero, r5_T, r5, hza, hzb, hA, hB, hL, t1, t2, t3, e10, s1, s2, a1, a2, a3, g0, z0, w64]
      rw [r5_B0_n]
      erw [hj]
      simp only [go_sem, and_self, and_true, true_and, false_and, and_false, Nat.reduceAdd, Nat.reduceMul, Nat.reduceSub, Nat.reduceLeDiff, Nat.reduceLT, Nat.reduceGT, Nat.reduceEqDiff, Nat.reduceBEq, Int.reduceNeg, Int.reduceEq, Int.reduceLT, Int.reduceLE, Int.reduceBEq, Int.reduceToNat, Int.toNat_natCast, Int.natCast_zero, hL]
theorem LexJoins_ok (a b : ByteArray) (_ : a.size ≤ maxLen) (_ : b.size ≤ maxLen) (hp : List Ent) : F tab 5 [.d (.str a), .d (.str b)] hp = some (.ret (.d (.bool true)) hp) :=
  LexJoins_bt a.data.toList b.data.toList hp
end Go.Pe.T

namespace Go.Pe.T
def pcB (b : Int) : List UInt8 := if b.tmod 5 = 4 then [35, 32, 97, 32, 36, 32, 34, 10] else if b.tmod 5 = 0 then [32] else if b.tmod 5 = 1 then [9] else if b.tmod 5 = 2 then [10] else [13]
def pcsB (bs : List Int) : List UInt8 := bs.flatMap pcB
theorem pcsB_cons (b : Int) (bs : List Int) : pcsB (b :: bs) = pcB b ++ pcsB bs := rfl
theorem blk_pc (b : Int) (R : List UInt8) : blkA false (pcB b ++ R) = (pcB b).length + blkA false R := by
  have w1 : isWs 32 = true := by decide
  have w2 : isWs 9 = true := by decide
  have w3 : isWs 10 = true := by decide
  have w4 : isWs 13 = true := by decide
  have w5 : isWs 35 = false := by decide
  unfold pcB
  split
  · simp [blkA, w5]; omega
  · split
    · simp [blkA, w1]; omega
    · split
      · simp [blkA, w2]; omega
      · split
        · simp [blkA, w3]; omega
        · simp [blkA, w4]; omega
theorem blk_pcs (R : List UInt8) : ∀ bs : List Int, blkA false (pcsB bs ++ R) = (pcsB bs).length + blkA false R
  | [] => by simp [pcsB]
  | b :: bs => by
    have ih := blk_pcs R bs
    rw [pcsB_cons, List.append_assoc, blk_pc, ih, List.length_append]
    omega
theorem pcB_len (b : Int) : (pcB b).length ≤ 8 := by
  unfold pcB
  split
  · simp
  · split
    · simp
    · split
      · simp
      · split <;> simp
theorem pcsB_len : ∀ bs : List Int, (pcsB bs).length ≤ 8 * bs.length
  | [] => by simp [pcsB]
  | b :: bs => by
    have h1 := pcB_len b
    have h2 := pcsB_len bs
    rw [pcsB_cons, List.length_append, List.length_cons]
    omega
theorem tkR_blanks (bs : List Int) (Q : List UInt8) : tkR (pcsB bs ++ Q) = shT (pcsB bs).length (tkR Q) := by
  have hb := blk_pcs Q bs
  unfold tkR
  obtain ⟨P, hP⟩ : ∃ P, P = pcsB bs := ⟨_, rfl⟩
  rw [← hP] at hb ⊢
  rw [← tk_shift P.length (Q.length + 1) Q 0 (by omega) (by omega), tk_fuel (Q.length + 1) ((P ++ Q).length + 1) Q _ (by omega) (by simp; omega)]
  have hd : (P ++ Q).drop (P.length + blkA false Q) = Q.drop (blkA false Q) := by
    rw [← List.drop_drop, List.drop_left]
  unfold tkP
  rw [hb, hd]
  have e1 : 0 + (P.length + blkA false Q) = 0 + P.length + blkA false Q := by omega
  rw [e1]
theorem asB : ∀ L : List UInt8, optAll ((bytesD L).map asByte) = some L
  | [] => rfl
  | c :: r => by
    have ih := asB r
    have h : asByte (.int .u8 c.toNat) = some c := by
      have hc : c.toNat < 256 := c.toNat_lt
      simp only [asByte, Int.toNat_natCast, Option.some.injEq]
      exact UInt8.ofNat_toNat
    show optAll (asByte (.int .u8 c.toNat) :: (bytesD r).map asByte) = _
    rw [h]
    simp [optAll, ih]
theorem conv_bytes (L : List UInt8) : convD .toStr (.own 5 (bytesD L)) = some (.d (.str (bt L))) ∧ convD .toStr (.d (.sl (bytesD L))) = some (.d (.str (bt L))) := by
  have h := asB L
  constructor
  · simp only [convD, PV.toD, h, Option.map_some, bt]
  · simp only [convD, PV.toD, h, Option.map_some, bt]
def byD (bs : List Int) : List D := bs.map fun b => .int .u8 b
def BkIs (q : ByteArray) (bs : List Int) (L : List UInt8) (i : Nat) : Prop :=
  V (F tab) r4_B0 (r4_S0 (.d (.str q)) (.d (.sl (byD bs))) (.own 5 (bytesD L)) (.d (iv i)) []) = some (.norm, r4_E0 (.d (.str q)) (.own 5 (bytesD (L ++ pcsB (bs.drop i)))) [])
set_option maxHeartbeats 1000000 in
theorem bk_step (q : ByteArray) (bs : List Int) (hb : ∀ b ∈ bs, 0 ≤ b ∧ b < 256) (hl : bs.length ≤ 20) (L : List UInt8) (hL : L.length ≤ 100000) (i : Nat) (hi : i ≤ bs.length) (ih : ∀ (h : i < bs.length) (x : List UInt8), x.length ≤ 8 → BkIs q bs (L ++ x) (i + 1)) : BkIs q bs L i := by
  have hz : (byD bs).length = bs.length := by simp [byD]
  have hLl : (bytesD L).length = L.length := by simp [bytesD]
  by_cases h : i < bs.length
  · have h1 : ((i : Int) < (bs.length : Int)) = True := eq_true (by omega)
    have i0 : (0 ≤ (i : Int)) = True := eq_true (by omega)
    have hdr : bs.drop i = bs[i] :: bs.drop (i + 1) := List.drop_eq_getElem_cons h
    have g1 : (byD bs)[i]? = some (.int .u8 bs[i]) := by simp [byD, h]
    obtain ⟨hb1, hb2⟩ := hb bs[i] (List.getElem_mem h)
    have ih := ih h
    have key := ih (pcB bs[i]) (pcB_len _)
    unfold BkIs at key ⊢
    rw [hdr, pcsB_cons, ← List.append_assoc]
    rw [Int.natCast_add, Int.natCast_one] at key
    generalize bs[i] = b at *
    clear hdr ih
    have hm : b.tmod 5 = 0 ∨ b.tmod 5 = 1 ∨ b.tmod 5 = 2 ∨ b.tmod 5 = 3 ∨ b.tmod 5 = 4 := by
      rw [Int.tmod_eq_emod_of_nonneg hb1]; omega
    generalize r4_E0 _ _ _ = E at *
    have hbd : ∀ x : List UInt8, bytesD L ++ bytesD x = bytesD (L ++ x) := fun x => by simp [bytesD]
    have hap1 : ∀ c : UInt8, bytesD L ++ [D.int .u8 (c.toNat : Int)] = bytesD (L ++ [c]) := fun c => by simp [bytesD]
    have p4 : bytesD L ++ bytesD [35, 32, 97, 32, 36, 32, 34, 10] = bytesD (L ++ [35, 32, 97, 32, 36, 32, 34, 10]) := hbd _
    have hs8 : (L.length + 8 ≤ 140737488355328) = True := eq_true (by omega)
    have hr1 : ((L.length + 1) * 1 ≤ maxRow) = True := eq_true (by unfold maxRow; omega)
    have z8 : (⟨#[35, 32, 97, 32, 36, 32, 34, 10]⟩ : ByteArray).size = 8 := rfl
    rw [r4_B0_eq]
    rcases hm with hm | hm | hm | hm | hm
    · have e4 : ((0 : Int) == 4) = false := rfl
      have q0 : (⟨#[32, 9, 10, 13]⟩ : ByteArray)[0]? = some 32 := rfl
      have e : pcB b = [32] := by unfold pcB; rw [hm]; rfl
      rw [e, ← hap1] at key
      simp (disch := omega) only [go_sem, and_self, and_true, true_and, false_and, and_false, Nat.reduceAdd, Nat.reduceMul, Nat.reduceSub, Nat.reduceLeDiff, Nat.reduceLT, Nat.reduceGT, Nat.reduceEqDiff, Nat.reduceBEq, Int.reduceNeg, Int.reduceEq, Int.reduceLT, Int.reduceLE, Int.reduceBEq, Int.reduceToNat, Int.toNat_natCast, Int.natCast_zero, r4_C0, hz, h1, i0, g1, hm, e4, hLl, hr1, q0, w64]
      exact key
    · have e4 : ((1 : Int) == 4) = false := rfl
      have q0 : (⟨#[32, 9, 10, 13]⟩ : ByteArray)[1]? = some 9 := rfl
      have e : pcB b = [9] := by unfold pcB; rw [hm]; rfl
      rw [e, ← hap1] at key
      simp (disch := omega) only [go_sem, and_self, and_true, true_and, false_and, and_false, Nat.reduceAdd, Nat.reduceMul, Nat.reduceSub, Nat.reduceLeDiff, Nat.reduceLT, Nat.reduceGT, Nat.reduceEqDiff, Nat.reduceBEq, Int.reduceNeg, Int.reduceEq, Int.reduceLT, Int.reduceLE, Int.reduceBEq, Int.reduceToNat, Int.toNat_natCast, Int.natCast_zero, r4_C0, hz, h1, i0, g1, hm, e4, hLl, hr1, q0, w64]
      exact key
    · have e4 : ((2 : Int) == 4) = false := rfl
      have q0 : (⟨#[32, 9, 10, 13]⟩ : ByteArray)[2]? = some 10 := rfl
      have e : pcB b = [10] := by unfold pcB; rw [hm]; rfl
      rw [e, ← hap1] at key
      simp (disch := omega) only [go_sem, and_self, and_true, true_and, false_and, and_false, Nat.reduceAdd, Nat.reduceMul, Nat.reduceSub, Nat.reduceLeDiff, Nat.reduceLT, Nat.reduceGT, Nat.reduceEqDiff, Nat.reduceBEq, Int.reduceNeg, Int.reduceEq, Int.reduceLT, Int.reduceLE, Int.reduceBEq, Int.reduceToNat, Int.toNat_natCast, Int.natCast_zero, r4_C0, hz, h1, i0, g1, hm, e4, hLl, hr1, q0, w64]
      exact key
    · have e4 : ((3 : Int) == 4) = false := rfl
      have q0 : (⟨#[32, 9, 10, 13]⟩ : ByteArray)[3]? = some 13 := rfl
      have e : pcB b = [13] := by unfold pcB; rw [hm]; rfl
      rw [e, ← hap1] at key
      simp (disch := omega) only [go_sem, and_self, and_true, true_and, false_and, and_false, Nat.reduceAdd, Nat.reduceMul, Nat.reduceSub, Nat.reduceLeDiff, Nat.reduceLT, Nat.reduceGT, Nat.reduceEqDiff, Nat.reduceBEq, Int.reduceNeg, Int.reduceEq, Int.reduceLT, Int.reduceLE, Int.reduceBEq, Int.reduceToNat, Int.toNat_natCast, Int.natCast_zero, r4_C0, hz, h1, i0, g1, hm, e4, hLl, hr1, q0, w64]
      exact key
    · have e4 : ((4 : Int) == 4) = true := rfl
      have e : pcB b = [35, 32, 97, 32, 36, 32, 34, 10] := by unfold pcB; rw [hm]; rfl
      rw [e, ← p4] at key
      simp (disch := omega) only [go_sem, and_self, and_true, true_and, false_and, and_false, Nat.reduceAdd, Nat.reduceMul, Nat.reduceSub, Nat.reduceLeDiff, Nat.reduceLT, Nat.reduceGT, Nat.reduceEqDiff, Nat.reduceBEq, Int.reduceNeg, Int.reduceEq, Int.reduceLT, Int.reduceLE, Int.reduceBEq, Int.reduceToNat, Int.toNat_natCast, Int.natCast_zero, r4_C0, hz, h1, i0, g1, hm, e4, hLl, hs8, z8, w64]
      exact key
  · have h1 : ((i : Int) < (bs.length : Int)) = False := eq_false (by omega)
    have hdr : bs.drop i = [] := List.drop_of_length_le (by omega)
    unfold BkIs
    rw [hdr, show L ++ pcsB [] = L by simp [pcsB], r4_B0_eq]
    simp (disch := omega) only [go_sem, and_self, and_true, true_and, false_and, and_false, Nat.reduceAdd, Nat.reduceMul, Nat.reduceSub, Nat.reduceLeDiff, Nat.reduceLT, Nat.reduceGT, Nat.reduceEqDiff, Nat.reduceBEq, Int.reduceNeg, Int.reduceEq, Int.reduceLT, Int.reduceLE, Int.reduceBEq, Int.reduceToNat, Int.toNat_natCast, Int.natCast_zero, r4_C0, hz, h1, w64]
end Go.Pe.T
