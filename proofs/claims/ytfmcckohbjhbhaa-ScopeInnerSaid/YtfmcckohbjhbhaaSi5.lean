/- A part of the proof of: Of values bound one within the other, a name leads to the innermost one that has it, or nowhere. -/
import Derived.Test.YtfmcckohbjhbhaaSi4
import Derived.Test.YtfmcckohbjhbhaaSi3
set_option linter.unusedSimpArgs false
set_option linter.unusedVariables false
set_option maxRecDepth 10000

namespace Go.Pe.T

theorem valid0 {t : ByteArray} (h : t.size = 0) : validB t = true := by
  have : bs t = [] := List.eq_nil_of_length_eq_zero h
  unfold validB
  rw [h, this]
  rfl
theorem lit_same (t : ByteArray) (k c s : Int) : litR t k c s = litV t k c s := by
  unfold litR litV
  have n0 : numIs 0 0 = true := by decide
  by_cases t0 : t.size = 0
  · have hv := valid0 t0
    have ht : (!decide (t.size ≠ 0)) = true := by simp [t0]
    rw [hv, ht]
    by_cases k0 : k < 0
    · rw [if_pos k0, if_neg (by omega), if_neg (by omega), if_neg (by omega)]
    rw [if_neg k0]
    by_cases k4 : k > 4
    · rw [if_pos k4, if_neg (by omega), if_neg (by omega), if_neg (by omega)]
    rw [if_neg k4, if_neg (show ¬ (k ≠ 4 ∧ t.size ≠ 0) by omega)]
    by_cases k3 : k = 3
    · rw [if_neg (show ¬ (k ≠ 3 ∧ (c ≠ 0 ∨ s ≠ 0)) by omega), if_neg (by omega), if_pos k3]
    · by_cases hc : c = 0 ∧ s = 0
      · obtain ⟨rfl, rfl⟩ := hc
        rw [if_neg (by omega), n0]
        by_cases kk : k = 0 ∨ k = 1 ∨ k = 2
        · rw [if_pos kk]; rfl
        · rw [if_neg kk, if_neg k3, if_pos (by omega)]; rfl
      · have hb : (c == 0 && s == 0) = false := by
          rw [Bool.and_eq_false_iff]
          by_cases h : c = 0
          · right; have : s ≠ 0 := fun e => hc ⟨h, e⟩
            simpa using this
          · left; simpa using h
        rw [if_pos (by omega), hb]
        by_cases kk : k = 0 ∨ k = 1 ∨ k = 2
        · rw [if_pos kk]; rfl
        · rw [if_neg kk, if_neg k3, if_pos (by omega)]; rfl
  · have ht : (!decide (t.size ≠ 0)) = false := by simp [t0]
    rw [ht]
    by_cases k0 : k < 0
    · rw [if_pos k0, if_neg (by omega), if_neg (by omega), if_neg (by omega)]
    rw [if_neg k0]
    by_cases k4 : k > 4
    · rw [if_pos k4, if_neg (by omega), if_neg (by omega), if_neg (by omega)]
    rw [if_neg k4]
    by_cases k44 : k = 4
    · rw [if_neg (show ¬ (k ≠ 4 ∧ t.size ≠ 0) by omega), if_neg (show ¬ (k = 0 ∨ k = 1 ∨ k = 2) by omega), if_neg (show ¬ k = 3 by omega), if_pos k44]
      by_cases hc : c = 0 ∧ s = 0
      · obtain ⟨rfl, rfl⟩ := hc
        rw [if_neg (by omega), n0]
        rfl
      · have hb : (c == 0 && s == 0) = false := by
          rw [Bool.and_eq_false_iff]
          by_cases h : c = 0
          · right; have : s ≠ 0 := fun e => hc ⟨h, e⟩
            simpa using this
          · left; simpa using h
        rw [if_pos (by omega), hb]
        rfl
    · have e : (if k ≠ 4 ∧ t.size ≠ 0 then false else numIs c s && validB t) = false := if_pos ⟨k44, t0⟩
      rw [e, ite_self]
      by_cases kk : k = 0 ∨ k = 1 ∨ k = 2
      · rw [if_pos kk, Bool.and_false]
      · rw [if_neg kk, if_pos (by omega), Bool.and_false]

/-- a plain op: its shape alone counts -/
theorem own_fits_gen (o : Int) (t : ByteArray) (p k c s : Int) (ns : List ByteArray) (xs : List Xp) (l m : Int) (nm : Bool) (hsh : shapeV o = (l, m, nm, false, true)) (hpv : partsV o = (l, m)) (hl : ¬ l < 0) (hnm : nmd o = nm) (o1 : o ≠ 1) (o12 : o ≠ 12) (o20 : o ≠ 20) :
    ownV o t p k c s ns xs.length = fitsV (.mk o t p k c s ns xs) := by
  have h12 : ¬ (o = 12 ∧ ((ns.length : Int) ≠ (xs.length : Int) ∨ (xs.length : Int) > 512 ∨ unF [] ns = false)) := fun h => o12 h.1
  have h20 : ¬ (o = 20 ∧ name2 ns = false) := fun h => o20 h.1
  simp only [ownV, fitsV, hsh, hpv, textV, namesV, hnm, if_neg hl, if_neg o1, if_neg h12, if_neg h20, Bool.true_and, if_true]
  by_cases q2 : (xs.length : Int) < l
  · have : ¬ (xs.length : Int) ≥ l := by omega
    simp [q2, this]
  have q2' : (xs.length : Int) ≥ l := by omega
  by_cases q3 : (xs.length : Int) > m
  · have : ¬ (xs.length : Int) ≤ m := by omega
    simp [q2, q3, this]
  have q3' : (xs.length : Int) ≤ m := by omega
  by_cases q4 : p = 0
  rotate_left
  · simp [q2, q3, q4]
  by_cases q5 : k = 0 ∧ c = 0 ∧ s = 0
  rotate_left
  · have e : o ≠ 1 ∧ (k ≠ 0 ∨ c ≠ 0 ∨ s ≠ 0) := ⟨o1, by omega⟩
    have e2 : (!(c == 0 && s == 0) || k != 0) = true := by
      simp only [Bool.or_eq_true, Bool.not_eq_true', Bool.and_eq_false_iff, beq_eq_false_iff_ne, bne_iff_ne, ne_eq]
      omega
    rw [if_neg q2, if_neg q3, if_neg (fun h => h q4), if_pos e, if_pos e2]
    simp
  obtain ⟨rfl, rfl, rfl⟩ := q5
  by_cases q6 : ns.length = 0
  rotate_left
  · have : ((ns.length : Int) == 0) = false := by simp only [beq_eq_false_iff_ne, ne_eq]; omega
    simp [q2, q3, q4, o12, o20, q6, this]
  have q6' : ((ns.length : Int) == 0) = true := by simp [q6]
  simp [q2, q3, q4, q6, q6', q2', q3']

theorem own_fits1 (t : ByteArray) (p k c s : Int) (ns : List ByteArray) (xs : List Xp) : ownV 1 t p k c s ns xs.length = fitsV (.mk 1 t p k c s ns xs) := by
  have hsh : shapeV 1 = (0, 0, false, false, true) := rfl
  have hpv : partsV 1 = (0, 0) := rfl
  simp only [ownV, fitsV, hsh, hpv, textV, namesV, lit_same, Bool.true_and, if_true]
  by_cases q3 : (xs.length : Int) > 0
  · have : ¬ (xs.length : Int) ≤ 0 := by omega
    rw [if_neg (show ¬ (0 : Int) < 0 by omega), if_neg (show ¬ (xs.length : Int) < 0 by omega), if_pos q3, decide_eq_false this]
    simp
  have q3' : (xs.length : Int) ≤ 0 := by omega
  have q2 : ¬ (xs.length : Int) < 0 := by omega
  by_cases q4 : p = 0
  rotate_left
  · rw [if_neg (by omega), if_neg q2, if_neg q3, if_pos q4]
    simp [q4]
  by_cases q6 : ns.length = 0
  rotate_left
  · have : ((ns.length : Int) == 0) = false := by simp only [beq_eq_false_iff_ne, ne_eq]; omega
    rw [if_neg (by omega), if_neg q2, if_neg q3, if_neg (fun h => h q4), if_neg (by omega), if_pos (by omega), this]
    simp
  have q6' : ((ns.length : Int) == 0) = true := by simp [q6]
  have d2 : decide ((xs.length : Int) ≥ 0) = true := decide_eq_true (by omega)
  have d3 : decide ((xs.length : Int) ≤ 0) = true := decide_eq_true (by omega)
  have d4 : (p == 0) = true := by simp [q4]
  rw [if_neg (by omega), if_neg q2, if_neg q3, if_neg (fun h => h q4), if_neg (by omega), if_neg (by omega), q6', d2, d3, d4]
  simp

theorem own_fits12 (t : ByteArray) (p k c s : Int) (ns : List ByteArray) (xs : List Xp) : ownV 12 t p k c s ns xs.length = fitsV (.mk 12 t p k c s ns xs) := by
  have hsh : shapeV 12 = (0, 512, false, true, true) := rfl
  have hpv : partsV 12 = (0, 1000) := rfl
  have hnm : nmd 12 = false := rfl
  simp only [ownV, fitsV, hsh, hpv, hnm, textV, namesV, Bool.true_and, if_true]
  have q2 : ¬ (xs.length : Int) < 0 := by omega
  have d2 : decide ((xs.length : Int) ≥ 0) = true := decide_eq_true (by omega)
  rw [if_neg (show ¬ (0 : Int) < 0 by omega), if_neg q2, d2, Bool.true_and]
  by_cases q4 : p = 0
  rotate_left
  · have d4 : (p == 0) = false := by simpa using q4
    rw [d4, Bool.false_and]
    split <;> first | rfl | (rw [if_pos q4])
  have d4 : (p == 0) = true := by simp [q4]
  rw [d4, Bool.true_and]
  by_cases q3 : (xs.length : Int) > 512
  · have d3 : decide ((xs.length : Int) ≤ 512) = false := decide_eq_false (by omega)
    rw [d3, Bool.false_and]
    split
    · rfl
    · rw [if_neg (fun h => h q4)]
      split
      · rfl
      · rw [if_neg (by omega), if_neg (by omega), if_neg (by simp), if_neg (by omega), if_neg (by omega), if_pos ⟨trivial, .inr (.inl q3)⟩]
  have d3 : decide ((xs.length : Int) ≤ 512) = true := decide_eq_true (by omega)
  rw [d3, Bool.true_and, if_neg (show ¬ (xs.length : Int) > 1000 by omega), if_neg (fun h => h q4)]
  by_cases q5 : k = 0 ∧ c = 0 ∧ s = 0
  rotate_left
  · have e2 : (!(c == 0 && s == 0) || k != 0) = true := by
      simp only [Bool.or_eq_true, Bool.not_eq_true', Bool.and_eq_false_iff, beq_eq_false_iff_ne, bne_iff_ne, ne_eq]
      omega
    rw [if_pos (by omega), if_neg (by omega), if_pos e2, Bool.false_and]
  obtain ⟨rfl, rfl, rfl⟩ := q5
  rw [if_neg (by omega), if_neg (by omega), if_neg (by omega), if_neg (by simp), if_neg (by omega), if_neg (by omega)]
  by_cases q7 : (ns.length : Int) = (xs.length : Int)
  · rcases Bool.eq_false_or_eq_true (unF [] ns) with u | u
    · rw [if_neg (by rintro ⟨_, h | h | h⟩; exact h q7; exact q3 h; rw [u] at h; cases h), if_neg (by omega), u]
      simp [q7]
    · rw [if_pos ⟨trivial, .inr (.inr u)⟩, u]
      simp
  · have d7 : ((ns.length : Int) == (xs.length : Int)) = false := by simpa using q7
    rw [if_pos ⟨trivial, .inl q7⟩, d7]
    simp

theorem own_fits20 (t : ByteArray) (p k c s : Int) (ns : List ByteArray) (xs : List Xp) : ownV 20 t p k c s ns xs.length = fitsV (.mk 20 t p k c s ns xs) := by
  have hsh : shapeV 20 = (1, 1, false, true, true) := rfl
  have hpv : partsV 20 = (1, 1) := rfl
  have hnm : nmd 20 = false := rfl
  simp only [ownV, fitsV, hsh, hpv, hnm, textV, namesV, Bool.true_and, if_true]
  by_cases q2 : (xs.length : Int) < 1
  · have : ¬ (xs.length : Int) ≥ 1 := by omega
    rw [if_neg (by omega), if_pos q2, decide_eq_false this]
    simp
  by_cases q3 : (xs.length : Int) > 1
  · have : ¬ (xs.length : Int) ≤ 1 := by omega
    rw [if_neg (by omega), if_neg q2, if_pos q3, decide_eq_false this]
    simp
  have d2 : decide ((xs.length : Int) ≥ 1) = true := decide_eq_true (by omega)
  have d3 : decide ((xs.length : Int) ≤ 1) = true := decide_eq_true (by omega)
  rw [if_neg (show ¬ (1 : Int) < 0 by omega), if_neg q2, if_neg q3, d2, d3, Bool.true_and, Bool.true_and]
  by_cases q4 : p = 0
  rotate_left
  · have d4 : (p == 0) = false := by simpa using q4
    rw [d4, Bool.false_and, if_pos q4]
  have d4 : (p == 0) = true := by simp [q4]
  rw [d4, Bool.true_and, if_neg (fun h => h q4)]
  by_cases q5 : k = 0 ∧ c = 0 ∧ s = 0
  rotate_left
  · have e2 : (!(c == 0 && s == 0) || k != 0) = true := by
      simp only [Bool.or_eq_true, Bool.not_eq_true', Bool.and_eq_false_iff, beq_eq_false_iff_ne, bne_iff_ne, ne_eq]
      omega
    rw [if_pos (by omega), if_neg (by omega), if_pos e2, Bool.false_and]
  obtain ⟨rfl, rfl, rfl⟩ := q5
  rw [if_neg (by omega), if_neg (by omega), if_neg (by omega), if_neg (by simp), if_neg (by omega), if_neg (by omega), if_neg (by omega)]
  rcases Bool.eq_false_or_eq_true (name2 ns) with u | u
  · rw [if_neg (by rw [u]; simp), u]
    simp
  · rw [if_pos ⟨trivial, u⟩, u]
    simp

theorem own_fits (o : Int) (t : ByteArray) (p k c s : Int) (ns : List ByteArray) (xs : List Xp) : ownV o t p k c s ns xs.length = fitsV (.mk o t p k c s ns xs) := by
  by_cases h0 : 0 ≤ o ∧ o ≤ 21
  · obtain ⟨n, rfl⟩ : ∃ n : Nat, o = n := ⟨o.toNat, by omega⟩
    have hn : n ≤ 21 := by omega
    by_cases n1 : n = 1
    · subst n1
      exact own_fits1 t p k c s ns xs
    by_cases n12 : n = 12
    · subst n12
      exact own_fits12 t p k c s ns xs
    by_cases n20 : n = 20
    · subst n20
      exact own_fits20 t p k c s ns xs
    match n, hn with
    | 0, _ => exact own_fits_gen _ t p k c s ns xs 0 0 false rfl rfl (by omega) rfl (by omega) (by omega) (by omega)
    | 2, _ => exact own_fits_gen _ t p k c s ns xs 0 0 true rfl rfl (by omega) rfl (by omega) (by omega) (by omega)
    | 3, _ => exact own_fits_gen _ t p k c s ns xs 1 1 false rfl rfl (by omega) rfl (by omega) (by omega) (by omega)
    | 4, _ => exact own_fits_gen _ t p k c s ns xs 2 2 false rfl rfl (by omega) rfl (by omega) (by omega) (by omega)
    | 5, _ => exact own_fits_gen _ t p k c s ns xs 1 1 false rfl rfl (by omega) rfl (by omega) (by omega) (by omega)
    | 6, _ => exact own_fits_gen _ t p k c s ns xs 2 2 false rfl rfl (by omega) rfl (by omega) (by omega) (by omega)
    | 7, _ => exact own_fits_gen _ t p k c s ns xs 2 2 false rfl rfl (by omega) rfl (by omega) (by omega) (by omega)
    | 8, _ => exact own_fits_gen _ t p k c s ns xs 0 0 false rfl rfl (by omega) rfl (by omega) (by omega) (by omega)
    | 9, _ => exact own_fits_gen _ t p k c s ns xs 3 3 false rfl rfl (by omega) rfl (by omega) (by omega) (by omega)
    | 10, _ => exact own_fits_gen _ t p k c s ns xs 2 2 false rfl rfl (by omega) rfl (by omega) (by omega) (by omega)
    | 11, _ => exact own_fits_gen _ t p k c s ns xs 0 1 false rfl rfl (by omega) rfl (by omega) (by omega) (by omega)
    | 13, _ => exact own_fits_gen _ t p k c s ns xs 3 3 true rfl rfl (by omega) rfl (by omega) (by omega) (by omega)
    | 14, _ => exact own_fits_gen _ t p k c s ns xs 3 3 true rfl rfl (by omega) rfl (by omega) (by omega) (by omega)
    | 15, _ => exact own_fits_gen _ t p k c s ns xs 2 2 false rfl rfl (by omega) rfl (by omega) (by omega) (by omega)
    | 16, _ => exact own_fits_gen _ t p k c s ns xs 0 4 true rfl rfl (by omega) rfl (by omega) (by omega) (by omega)
    | 17, _ => exact own_fits_gen _ t p k c s ns xs 2 2 true rfl rfl (by omega) rfl (by omega) (by omega) (by omega)
    | 18, _ => exact own_fits_gen _ t p k c s ns xs 1 1 true rfl rfl (by omega) rfl (by omega) (by omega) (by omega)
    | 19, _ => exact own_fits_gen _ t p k c s ns xs 0 0 true rfl rfl (by omega) rfl (by omega) (by omega) (by omega)
    | 21, _ => exact own_fits_gen _ t p k c s ns xs 1 1 false rfl rfl (by omega) rfl (by omega) (by omega) (by omega)
    | 1, _ => exact absurd rfl n1
    | 12, _ => exact absurd rfl n12
    | 20, _ => exact absurd rfl n20
    | n + 22, h => omega
  · have e1 : partsV o = (-1, -1) := by
      unfold partsV
      repeat rw [if_neg (by omega)]
    have e2 : shapeV o = (0, 0, false, false, false) := by
      unfold shapeV
      repeat rw [if_neg (by omega)]
    simp [ownV, fitsV, e1, e2]
end Go.Pe.T

namespace Go.Pe.T

theorem own_ok (x : Xp) (hx : x.ok) (hm : x.lim 2097152) (hp : List Ent) : F tab 40 [.d x.enc] hp = some (.ret (.d (.bool (fitsV x))) hp) := by
  obtain ⟨o, t, p, k, c, s, ns, xs⟩ := x
  simp only [Xp.ok] at hx
  simp only [Xp.lim] at hm
  rw [← own_fits]
  exact own_is o t p k c s ns xs hm.1 hx.2.2.2.2.2.2.1 hm.2.1 hp

def RiLoop (l : List Xp) (i : Nat) : Prop :=
  V (F tab) r23_B0 (r23_S0 (.d (.sl (Xp.encs l))) (.d (iv i)) []) = if (l.drop i).all fitsV then some (.norm, r23_E0 (.d (.sl (Xp.encs l))) []) else some (.ret, r23_R (.d (.bool false)) [])
theorem ri_end (l : List Xp) (i : Nat) (hi : l.length ≤ i) : RiLoop l i := by
  have h1 : ((i : Int) < (l.length : Int)) = False := eq_false (by omega)
  unfold RiLoop
  rw [r23_B0_eq, List.drop_of_length_le hi]
  simp (disch := omega) only [go_sem, and_self, and_true, true_and, false_and, and_false, Nat.reduceAdd, Nat.reduceMul, Nat.reduceSub, Nat.reduceLeDiff, Nat.reduceLT, Nat.reduceGT, Nat.reduceEqDiff, Nat.reduceBEq, Int.reduceNeg, Int.reduceEq, Int.reduceLT, Int.reduceLE, Int.reduceBEq, Int.reduceToNat, Int.toNat_natCast, Int.natCast_zero, r23_C0, h1, xencs_len, List.all_nil]
theorem ri_step (l : List Xp) (i : Nat) (hi : i < l.length) (hl : l.length ≤ 1000) (hx : l[i].ok) (hm : l[i].lim 2097152) (ih : RiLoop l (i + 1)) : RiLoop l i := by
  have h1 : ((i : Int) < (l.length : Int)) = True := eq_true (by omega)
  have hi0 : (0 ≤ (i : Int)) = True := eq_true (by omega)
  have va : (Xp.encs l)[i]? = some (l[i].enc) := by rw [xencs_get]; simp [hi]
  have ho := own_ok l[i] hx hm
  unfold RiLoop at ih ⊢
  rw [Int.natCast_add, Int.natCast_one] at ih
  rw [r23_B0_eq, List.drop_eq_getElem_cons hi]
  simp only [List.all_cons]
  rcases Bool.eq_false_or_eq_true (fitsV l[i]) with g | g
  · simp (disch := omega) only [go_sem, and_self, and_true, true_and, false_and, and_false, Nat.reduceAdd, Nat.reduceMul, Nat.reduceSub, Nat.reduceLeDiff, Nat.reduceLT, Nat.reduceGT, Nat.reduceEqDiff, Nat.reduceBEq, Int.reduceNeg, Int.reduceEq, Int.reduceLT, Int.reduceLE, Int.reduceBEq, Int.reduceToNat, Int.toNat_natCast, Int.natCast_zero, r23_C0, h1, hi0, va, xenc_w, xenc_a, xencs_len, ho, g, w64, Bool.true_and]
    exact ih
  · simp (disch := omega) only [go_sem, and_self, and_true, true_and, false_and, and_false, Nat.reduceAdd, Nat.reduceMul, Nat.reduceSub, Nat.reduceLeDiff, Nat.reduceLT, Nat.reduceGT, Nat.reduceEqDiff, Nat.reduceBEq, Int.reduceNeg, Int.reduceEq, Int.reduceLT, Int.reduceLE, Int.reduceBEq, Int.reduceToNat, Int.toNat_natCast, Int.natCast_zero, r23_C0, h1, hi0, va, xenc_w, xenc_a, xencs_len, ho, g, w64, Bool.false_and]
theorem ri_loop (l : List Xp) (hl : l.length ≤ 1000) (hx : ∀ x ∈ l, x.ok) (hm : ∀ x ∈ l, x.lim 2097152) : ∀ (j i : Nat), i + j = l.length → RiLoop l i
  | 0, i, hi => ri_end l i (by omega)
  | j + 1, i, hi => ri_step l i (by omega) hl (hx _ (List.getElem_mem _)) (hm _ (List.getElem_mem _)) (ri_loop l hl hx hm j (i + 1) (by omega))
theorem ris_ok (e : Xp) (he : e.ok) (hm : e.lim 2097152) (hl : e.pre.length ≤ 590) (hp : List Ent) : F tab 23 [.d e.enc] hp = some (.ret (.d (.bool (isV e))) hp) := by
  have a2 : ∀ hp, F tab 39 [.d e.enc, .d (iv 600)] hp = _ := rall_ok e he 600 (by omega) (by omega)
  have e1 : (e.pre.take 600) = e.pre := List.take_of_length_le (by omega)
  rw [e1] at a2
  have hL := ri_loop e.pre (by omega) (pre_ok e he) (pre_lim e hm) e.pre.length 0 (by omega)
  unfold RiLoop at hL
  rw [List.drop_zero] at hL
  have e2 : decide ((e.pre.length : Int) ≤ 512) = decide (e.pre.length ≤ 512) := by apply decide_eq_decide.2; omega
  obtain ⟨o, t, p, k, c, s, ns, ys, ex⟩ := xenc_as e
  rw [ex] at a2 ⊢
  refine f23 rfl ?_
  unfold isV
  simp (disch := omega) only [go_sem, and_self, and_true, true_and, false_and, and_false, Nat.reduceAdd, Nat.reduceMul, Nat.reduceSub, Nat.reduceLeDiff, Nat.reduceLT, Nat.reduceGT, Nat.reduceEqDiff, Nat.reduceBEq, Int.reduceNeg, Int.reduceEq, Int.reduceLT, Int.reduceLE, Int.reduceBEq, Int.reduceToNat, Int.toNat_natCast, Int.natCast_zero, r23_T, r23, a2]
  rw [r23_B0_n]
  erw [hL]
  rcases Bool.eq_false_or_eq_true (e.pre.all fitsV) with g | g <;> rw [g] <;> simp (disch := omega) only [go_sem, and_self, and_true, true_and, false_and, and_false, Nat.reduceAdd, Nat.reduceMul, Nat.reduceSub, Nat.reduceLeDiff, Nat.reduceLT, Nat.reduceGT, Nat.reduceEqDiff, Nat.reduceBEq, Int.reduceNeg, Int.reduceEq, Int.reduceLT, Int.reduceLE, Int.reduceBEq, Int.reduceToNat, Int.toNat_natCast, Int.natCast_zero, xencs_len, e2, Bool.and_true, Bool.and_false]

end Go.Pe.T

namespace Go.Pe.T
/-- a program without functions -/
def p0D (x : Xp) : D := .agg (.sl [] :: x.enc.cells)
theorem p0_as (x : Xp) : ∃ (o : Int) (t : ByteArray) (p k c s : Int) (ns : List ByteArray) (xs : List Xp), x.enc = .agg [iv o, .str t, iv p, iv k, iv c, iv s, .sl (ns.map .str), .sl (Xp.encs xs)] ∧
    p0D x = .agg [.sl [], iv o, .str t, iv p, iv k, iv c, iv s, .sl (ns.map .str), .sl (Xp.encs xs)] := by
  cases x; exact ⟨_, _, _, _, _, _, _, _, rfl, rfl⟩
theorem sis_ok (x : Xp) (hx : x.ok) (hp : List Ent) : F tab 16 [.d (p0D x)] hp = some (.ret (.d (.bool (isV x))) hp) := by
  have hi := is_ok x hx
  obtain ⟨o, t, p, k, c, s, ns, xs, e1, e2⟩ := p0_as x
  rw [e1] at hi
  rw [e2]
  refine f16 rfl ?_
  rcases Bool.eq_false_or_eq_true (isV x) with g | g
  · rw [g] at hi ⊢
    simp (disch := omega) only [go_sem, and_self, and_true, true_and, false_and, and_false, Nat.reduceAdd, Nat.reduceMul, Nat.reduceSub, Nat.reduceLeDiff, Nat.reduceLT, Nat.reduceGT, Nat.reduceEqDiff, Nat.reduceBEq, Int.reduceNeg, Int.reduceEq, Int.reduceLT, Int.reduceLE, Int.reduceBEq, Int.reduceToNat, Int.toNat_natCast, Int.natCast_zero, r16_T, r16, hi, List.length_nil, Int.reduceGT]
    rw [r16_B0_n, r16_B0_eq]
    simp (disch := omega) only [go_sem, and_self, and_true, true_and, false_and, and_false, Nat.reduceAdd, Nat.reduceMul, Nat.reduceSub, Nat.reduceLeDiff, Nat.reduceLT, Nat.reduceGT, Nat.reduceEqDiff, Nat.reduceBEq, Int.reduceNeg, Int.reduceEq, Int.reduceLT, Int.reduceLE, Int.reduceBEq, Int.reduceToNat, Int.toNat_natCast, Int.natCast_zero, r16_C0]
  · rw [g] at hi ⊢
    simp (disch := omega) only [go_sem, and_self, and_true, true_and, false_and, and_false, Nat.reduceAdd, Nat.reduceMul, Nat.reduceSub, Nat.reduceLeDiff, Nat.reduceLT, Nat.reduceGT, Nat.reduceEqDiff, Nat.reduceBEq, Int.reduceNeg, Int.reduceEq, Int.reduceLT, Int.reduceLE, Int.reduceBEq, Int.reduceToNat, Int.toNat_natCast, Int.natCast_zero, r16_T, r16, hi, List.length_nil, Int.reduceGT]

def zpD : D := .agg [.sl [], iv 0, .str ⟨#[]⟩, iv 0, iv 0, iv 0, iv 0, .sl [], .sl []]
def r0V (x : Xp) : D × ByteArray × Int :=
  if isV x then match resX [] [] [] x with
    | .ok y => (p0D y, ⟨#[]⟩, 0)
    | .lost t => (zpD, t, 15)
  else (zpD, ⟨#[]⟩, 1)
theorem res0_no (x : Xp) (hx : x.ok) (hp : List Ent) (g : isV x = false) : F tab 17 [.d (p0D x)] hp = some (.ret (.tup [.d zpD, .d (.str ⟨#[]⟩), .d (iv 1)]) hp) := by
  have hi := sis_ok x hx
  obtain ⟨o, t, p, k, c, s, ns, xs, e1, e2⟩ := p0_as x
  rw [g, e2] at hi
  rw [e2]
  refine f17 rfl ?_
  simp (disch := omega) only [go_sem, and_self, and_true, true_and, false_and, and_false, Nat.reduceAdd, Nat.reduceMul, Nat.reduceSub, Nat.reduceLeDiff, Nat.reduceLT, Nat.reduceGT, Nat.reduceEqDiff, Nat.reduceBEq, Int.reduceNeg, Int.reduceEq, Int.reduceLT, Int.reduceLE, Int.reduceBEq, Int.reduceToNat, Int.toNat_natCast, Int.natCast_zero, r17_Y, VTri, r17_A0, r17_A1, r17_D, hi, hold, r17]
  rfl
end Go.Pe.T

namespace Go.Pe.T
theorem thenR_pan {k : St → Option OR} {v : D} {s : St} : thenR k (some (.pan v s)) = some (.pan v s) := rfl
theorem ar0 : arD (fnDs []) [] [] = .agg [.sl [], .sl [], .sl []] := rfl
set_option maxHeartbeats 2000000 in
theorem res0_ok (x y : Xp) (hx : x.ok) (hf : xfew x) (hl : x.pre.length ≤ 1000000) (hp : List Ent) (g : isV x = true) (hr : resX [] [] [] x = .ok y) : F tab 17 [.d (p0D x)] hp = some (.ret (.tup [.d (p0D y), .d (.str ⟨#[]⟩), .d (iv 0)]) hp) := by
  have hi := sis_ok x hx
  have he := expr_ok [] (by decide) _ x (Nat.le_refl _) hf [] [] (by simpa using hl) (by simpa using hl)
  rw [hr, ar0] at he
  simp only [ExOut] at he
  obtain ⟨o, t, p, k, c, s, ns, xs, e1, e2⟩ := p0_as x
  obtain ⟨o', t', p', k', c', s', ns', xs', e3, e4⟩ := p0_as y
  rw [g, e2] at hi
  rw [e1, e3] at he
  rw [e2, e4]
  refine f17 rfl ?_
  simp (disch := omega) only [go_sem, and_self, and_true, true_and, false_and, and_false, Nat.reduceAdd, Nat.reduceMul, Nat.reduceSub, Nat.reduceLeDiff, Nat.reduceLT, Nat.reduceGT, Nat.reduceEqDiff, Nat.reduceBEq, Int.reduceNeg, Int.reduceEq, Int.reduceLT, Int.reduceLE, Int.reduceBEq, Int.reduceToNat, Int.toNat_natCast, Int.natCast_zero, r17_Y, VTri, r17_A0, r17_A1, r17_D, hi, hold, r17, List.length_nil]
  rw [r17_B0_n, r17_B0_eq]
  simp (disch := omega) only [go_sem, and_self, and_true, true_and, false_and, and_false, Nat.reduceAdd, Nat.reduceMul, Nat.reduceSub, Nat.reduceLeDiff, Nat.reduceLT, Nat.reduceGT, Nat.reduceEqDiff, Nat.reduceBEq, Int.reduceNeg, Int.reduceEq, Int.reduceLT, Int.reduceLE, Int.reduceBEq, Int.reduceToNat, Int.toNat_natCast, Int.natCast_zero, r17_C0, he, Int.reduceLT, VFin, VH, r17_Hd, r37_H, PV.isPtr, List.replicate, isnD]
  first | done | rfl
set_option maxHeartbeats 2000000 in
theorem res0_lost (x : Xp) (nm : ByteArray) (hx : x.ok) (hf : xfew x) (hl : x.pre.length ≤ 1000000) (hp : List Ent) (g : isV x = true) (hr : resX [] [] [] x = .lost nm) : F tab 17 [.d (p0D x)] hp = some (.ret (.tup [.d zpD, .d (.str nm), .d (iv 15)]) hp) := by
  have hi := sis_ok x hx
  have he := expr_ok [] (by decide) _ x (Nat.le_refl _) hf [] [] (by simpa using hl) (by simpa using hl)
  rw [hr, ar0] at he
  simp only [ExOut] at he
  obtain ⟨o, t, p, k, c, s, ns, xs, e1, e2⟩ := p0_as x
  rw [g, e2] at hi
  rw [e1] at he
  rw [e2]
  refine f17 rfl ?_
  simp (disch := omega) only [go_sem, and_self, and_true, true_and, false_and, and_false, Nat.reduceAdd, Nat.reduceMul, Nat.reduceSub, Nat.reduceLeDiff, Nat.reduceLT, Nat.reduceGT, Nat.reduceEqDiff, Nat.reduceBEq, Int.reduceNeg, Int.reduceEq, Int.reduceLT, Int.reduceLE, Int.reduceBEq, Int.reduceToNat, Int.toNat_natCast, Int.natCast_zero, r17_Y, VTri, r17_A0, r17_A1, r17_D, hi, hold, r17, List.length_nil]
  rw [r17_B0_n, r17_B0_eq]
  simp (disch := omega) only [go_sem, and_self, and_true, true_and, false_and, and_false, Nat.reduceAdd, Nat.reduceMul, Nat.reduceSub, Nat.reduceLeDiff, Nat.reduceLT, Nat.reduceGT, Nat.reduceEqDiff, Nat.reduceBEq, Int.reduceNeg, Int.reduceEq, Int.reduceLT, Int.reduceLE, Int.reduceBEq, Int.reduceToNat, Int.toNat_natCast, Int.natCast_zero, r17_C0, he, Int.reduceLT, PV.isPtr, thenR_pan]
  simp (disch := omega) only [go_sem, and_self, and_true, true_and, false_and, and_false, Nat.reduceAdd, Nat.reduceMul, Nat.reduceSub, Nat.reduceLeDiff, Nat.reduceLT, Nat.reduceGT, Nat.reduceEqDiff, Nat.reduceBEq, Int.reduceNeg, Int.reduceEq, Int.reduceLT, Int.reduceLE, Int.reduceBEq, Int.reduceToNat, Int.toNat_natCast, Int.natCast_zero, VFin, VH, r17_Hd, r37_H, PV.isPtr, List.replicate, isnD, lostD, tasD, hold]
  first | done | rfl
end Go.Pe.T

namespace Go.Pe.T
/-! ### values bound one within the other -/
def dotX : Xp := .mk 0 ⟨#[]⟩ 0 0 0 0 [] []
def chain (p : Int) : List ByteArray → ByteArray → Xp
  | [], nm => .mk 2 nm p 0 0 0 [] []
  | t :: r, nm => .mk 17 t 0 0 0 0 [] [dotX, chain p r nm]
def co : List ByteArray → Int
  | [] => 2
  | _ :: _ => 17
def ct : List ByteArray → ByteArray → ByteArray
  | [], nm => nm
  | t :: _, _ => t
def cp (p : Int) : List ByteArray → Int
  | [] => p
  | _ :: _ => 0
def cx (p : Int) : List ByteArray → ByteArray → List Xp
  | [], _ => []
  | _ :: r, nm => [dotX, chain p r nm]
theorem chain_enc (p : Int) (l : List ByteArray) (nm : ByteArray) : (chain p l nm).enc = .agg [iv (co l), .str (ct l nm), iv (cp p l), iv 0, iv 0, iv 0, .sl [], .sl (Xp.encs (cx p l nm))] := by
  cases l <;> rfl
theorem chain_p0 (p : Int) (l : List ByteArray) (nm : ByteArray) : p0D (chain p l nm) = .agg [.sl [], iv (co l), .str (ct l nm), iv (cp p l), iv 0, iv 0, iv 0, .sl [], .sl (Xp.encs (cx p l nm))] := by
  cases l <;> rfl
def boxX (p : Int) (l : List ByteArray) (nm : ByteArray) : PV := .ibox [.d (iv (co l)), .d (.str (ct l nm)), .d (iv (cp p l)), .d (iv 0), .d (iv 0), .d (iv 0), .d (.sl []), .d (.sl (Xp.encs (cx p l nm)))]
theorem chain_pre (p : Int) (l : List ByteArray) (nm : ByteArray) : (chain p l nm).pre.length = 2 * l.length + 1 := by
  induction l with
  | nil => rfl
  | cons t r ih =>
    simp only [chain, Xp.pre, Xp.pres, dotX, List.length_cons, List.length_append, ih, List.length_nil]
    omega
theorem chain_few (p : Int) (l : List ByteArray) (nm : ByteArray) : xfew (chain p l nm) := by
  induction l with
  | nil => simp [chain, xfew, xfews]
  | cons t r ih => simp [chain, xfew, xfews, dotX, ih]
theorem chain_ok (l : List ByteArray) (nm : ByteArray) (hn : nm.size ≤ 16) (hl : ∀ x ∈ l, x.size ≤ 16) : (chain 0 l nm).ok ∧ (chain 0 l nm).lim 2097152 := by
  have hmx : maxLen = 9223372036854775807 := by decide
  have i0 : i64 0 := ⟨by omega, by omega⟩
  have i2 : i64 2 := ⟨by omega, by omega⟩
  have i17 : i64 17 := ⟨by omega, by omega⟩
  induction l with
  | nil =>
    simp only [chain, Xp.ok, Xp.oks, Xp.lim, Xp.lims]
    exact ⟨⟨i2, by omega, i0, i0, i0, i0, by simp, by simp, by simp, trivial⟩, by omega, by simp, trivial⟩
  | cons t r ih =>
    have ht := hl t (by simp)
    obtain ⟨h1, h2⟩ := ih fun x hx => hl x (by simp [hx])
    have e0 : (⟨#[]⟩ : ByteArray).size = 0 := rfl
    simp only [chain, dotX, Xp.ok, Xp.oks, Xp.lim, Xp.lims]
    exact ⟨⟨i17, by omega, i0, i0, i0, i0, by simp, by simp, by simp; omega, ⟨i0, by rw [e0]; omega, i0, i0, i0, i0, by simp, by simp, by simp, trivial⟩, h1, trivial⟩, by omega, by simp, ⟨by rw [e0]; omega, by simp, trivial⟩, h2, trivial⟩
theorem res_dot (vs ls : List ByteArray) : resX [] vs ls dotX = .ok dotX := by
  rw [dotX, resX]
  simp [atV, resL]
theorem res_chain (nm : ByteArray) : ∀ (l vs : List ByteArray), resX [] vs [] (chain 0 l nm) = match lastV (vs ++ l) nm with
    | some j => .ok (chain j l nm)
    | none => .lost nm
  | [], vs => by
    rw [chain, resX, List.append_nil]
    simp only [atV, if_true]
    cases lastV vs nm with
    | none => rfl
    | some j => simp [resL, chain]
  | t :: r, vs => by
    have ih := res_chain nm r (vs ++ [t])
    rw [List.append_assoc, List.cons_append, List.nil_append] at ih
    have a0 : atV [] vs [] 17 t 0 [dotX, chain 0 r nm].length = some 0 := by simp [atV]
    have v1 : inVars 17 t (0 + 1) vs = vs ++ [t] := by simp [inVars]
    have l1 : inLabs 17 t [] = [] := by simp [inLabs]
    rw [chain, resX, a0]
    simp only [resL, res_dot, v1, l1, ih]
    cases lastV (vs ++ t :: r) nm with
    | none => rfl
    | some j => rfl
/-! the innermost one -/
def atR (nm : ByteArray) : List ByteArray → Nat → Int
  | [], _ => -1
  | x :: r, i => if atR nm r (i + 1) < 0 then (if x.toList == nm.toList then (i : Int) else -1) else atR nm r (i + 1)
theorem atR_ge (nm : ByteArray) : ∀ (l : List ByteArray) (i : Nat), -1 ≤ atR nm l i
  | [], i => by simp [atR]
  | x :: r, i => by
    have := atR_ge nm r (i + 1)
    rw [atR]
    split
    · split <;> omega
    · omega
theorem atR_app (nm x : ByteArray) : ∀ (l : List ByteArray) (i : Nat), atR nm (l ++ [x]) i = if x.toList == nm.toList then ((i + l.length : Nat) : Int) else atR nm l i
  | [], i => by
    simp [atR]
  | y :: l, i => by
    have ih := atR_app nm x l (i + 1)
    rw [List.cons_append, atR, ih]
    by_cases g : (x.toList == nm.toList) = true
    · rw [if_pos g, if_pos g, if_neg (by omega), List.length_cons]
      congr 1
      omega
    · rw [if_neg g, if_neg g, atR]
theorem lastV_app (l : List ByteArray) (x nm : ByteArray) : lastV (l ++ [x]) nm = if x.toList == nm.toList then some l.length else lastV l nm := by
  have key : ∀ (n : Nat), n ≤ l.length → lastI (l ++ [x]) nm n = lastI l nm n := by
    intro n
    induction n with
    | zero => intro _; rfl
    | succ n ih =>
      intro h
      rw [lastI, lastI, List.getElem?_append_left (by omega), ih (by omega)]
  unfold lastV
  rw [List.length_append, List.length_cons, List.length_nil, Nat.zero_add, lastI, key l.length (Nat.le_refl _)]
  simp
theorem atR_last (nm : ByteArray) (l : List ByteArray) : atR nm l 0 = match lastV l nm with | some j => (j : Int) | none => -1 := by
  have key : ∀ (n : Nat) (l : List ByteArray), l.length = n → atR nm l 0 = match lastV l nm with | some j => (j : Int) | none => -1 := by
    intro n
    induction n with
    | zero =>
      intro l h
      obtain rfl := List.eq_nil_of_length_eq_zero h
      rfl
    | succ n ih =>
      intro l h
      obtain ⟨m, x, rfl⟩ : ∃ m x, l = m ++ [x] := by
        refine ⟨l.dropLast, l.getLast (by intro h0; rw [h0] at h; simp at h), ?_⟩
        exact (List.dropLast_concat_getLast _).symm
      have ih := ih m (by simpa using h)
      rw [atR_app, lastV_app, ih]
      by_cases g : (x.toList == nm.toList) = true
      · rw [if_pos g, if_pos g]
        simp
      · rw [if_neg g, if_neg g]
  exact key _ l rfl

/-! the law's loops -/
abbrev bnAns (ns : List ByteArray) (nm : ByteArray) (b : Bool) : Option (Ex × St) := if b then some (.norm, r5_E0 (.d (.sl (ns.map .str))) (.d (.str nm)) (boxX 0 ns nm) (.d (iv (atR nm ns 0))) []) else some (.ret, r5_R (.d (.bool true)) [])
def BuIs (ns : List ByteArray) (nm : ByteArray) (i : Nat) : Prop :=
  V (F tab) r5_B0 (r5_S0 (.d (.sl (ns.map .str))) (.d (.str nm)) (boxX 0 (ns.drop i) nm) (.d (iv (atR nm (ns.drop i) i))) (.d (iv ((i : Int) - 1))) []) = bnAns ns nm ((ns.take i).all fun x => decide (x.size ≤ 16))
set_option maxHeartbeats 1000000 in
theorem bu_nil (ns : List ByteArray) (nm : ByteArray) : BuIs ns nm 0 := by
  unfold BuIs
  have z : ((0 : Nat) : Int) - 1 = -1 := rfl
  have h0 : ((-1 : Int) ≥ 0) = False := eq_false (by omega)
  rw [z, r5_B0_eq, List.drop_zero, List.take_zero]
  unfold boxX
  simp (disch := omega) only [go_sem, and_self, and_true, true_and, false_and, and_false, Nat.reduceAdd, Nat.reduceMul, Nat.reduceSub, Nat.reduceLeDiff, Nat.reduceLT, Nat.reduceGT, Nat.reduceEqDiff, Nat.reduceBEq, Int.reduceNeg, Int.reduceEq, Int.reduceLT, Int.reduceLE, Int.reduceBEq, Int.reduceToNat, Int.toNat_natCast, Int.natCast_zero, r5_C0, h0, bnAns, List.all_nil, if_true]
  rfl
set_option maxHeartbeats 2000000 in
theorem bu_step (ns : List ByteArray) (nm : ByteArray) (i : Nat) (hl : ns.length ≤ 20) (hi : i < ns.length) (ih : BuIs ns nm i) : BuIs ns nm (i + 1) := by
  have e1 : ((i + 1 : Nat) : Int) - 1 = (i : Int) := by omega
  have h1 : ((i : Int) ≥ 0) = True := eq_true (by omega)
  have i0 : (0 ≤ (i : Int)) = True := eq_true (by omega)
  have hx : ns[i]? = some ns[i] := List.getElem?_eq_getElem hi
  have va := strs_get hx
  unfold BuIs at ih ⊢
  rw [List.drop_eq_getElem_cons hi, atR] at ih
  rw [e1, r5_B0_eq, List.take_add_one, hx, Option.toList_some, List.all_append]
  unfold boxX at ih ⊢
  simp only [co, ct, cp, cx] at ih
  generalize hw : ns[i] = x at *
  have hlv := slives_ok
  by_cases hs : x.size ≤ 16
  · have hs1 : ((x.size : Int) > 16) = False := eq_false (by omega)
    have hs2 : [x].all (fun x => decide (x.size ≤ 16)) = true := by simp [hs]
    have e0 : (D.agg [.int .i64 0, .str ⟨#[]⟩, .int .i64 0, .int .i64 0, .int .i64 0, .int .i64 0, .sl [], .sl []]) = dotX.enc := rfl
    have e3 : (D.agg [iv (co (ns.drop (i + 1))), .str (ct (ns.drop (i + 1)) nm), iv (cp 0 (ns.drop (i + 1))), iv 0, iv 0, iv 0, .sl [], .sl (Xp.encs (cx 0 (ns.drop (i + 1)) nm))]) = (chain 0 (ns.drop (i + 1)) nm).enc := (chain_enc _ _ _).symm
    have e4 : Xp.encs [dotX, chain 0 (ns.drop (i + 1)) nm] = [dotX.enc, (chain 0 (ns.drop (i + 1)) nm).enc] := rfl
    rw [e4] at ih
    rw [hs2, Bool.and_true]
    generalize ns.drop (i + 1) = l at *
    by_cases g1 : atR nm l (i + 1) < 0
    · have g1' : (atR nm l (i + 1) < 0) = True := eq_true g1
      rw [if_pos g1] at ih
      rcases Bool.eq_false_or_eq_true (x.toList == nm.toList) with g | g
      · rw [if_pos g] at ih
        simp (disch := omega) only [go_sem, and_self, and_true, true_and, false_and, and_false, Nat.reduceAdd, Nat.reduceMul, Nat.reduceSub, Nat.reduceLeDiff, Nat.reduceLT, Nat.reduceGT, Nat.reduceEqDiff, Nat.reduceBEq, Int.reduceNeg, Int.reduceEq, Int.reduceLT, Int.reduceLE, Int.reduceBEq, Int.reduceToNat, Int.toNat_natCast, Int.natCast_zero, strD, r5_C0, h1, i0, va, hs1, g1', g, w64, e0, e3, xenc_w, if_true, Option.bind_some]
        exact ih
      · rw [if_neg (by simp [g])] at ih
        simp (disch := omega) only [go_sem, and_self, and_true, true_and, false_and, and_false, Nat.reduceAdd, Nat.reduceMul, Nat.reduceSub, Nat.reduceLeDiff, Nat.reduceLT, Nat.reduceGT, Nat.reduceEqDiff, Nat.reduceBEq, Int.reduceNeg, Int.reduceEq, Int.reduceLT, Int.reduceLE, Int.reduceBEq, Int.reduceToNat, Int.toNat_natCast, Int.natCast_zero, strD, r5_C0, h1, i0, va, hs1, g1', g, w64, e0, e3, xenc_w, if_true, Option.bind_some]
        have e5 : atR nm l (i + 1) = -1 := by
          have := atR_ge nm l (i + 1)
          omega
        rw [e5]
        exact ih
    · have g1' : (atR nm l (i + 1) < 0) = False := eq_false g1
      rw [if_neg g1] at ih
      simp (disch := omega) only [go_sem, and_self, and_true, true_and, false_and, and_false, Nat.reduceAdd, Nat.reduceMul, Nat.reduceSub, Nat.reduceLeDiff, Nat.reduceLT, Nat.reduceGT, Nat.reduceEqDiff, Nat.reduceBEq, Int.reduceNeg, Int.reduceEq, Int.reduceLT, Int.reduceLE, Int.reduceBEq, Int.reduceToNat, Int.toNat_natCast, Int.natCast_zero, strD, r5_C0, h1, i0, va, hs1, g1', w64, e0, e3, xenc_w, if_true, Option.bind_some]
      exact ih
  · have hs1 : ((x.size : Int) > 16) = True := eq_true (by omega)
    have hs2 : [x].all (fun x => decide (x.size ≤ 16)) = false := by simp [hs]
    rw [hs2, Bool.and_false]
    simp (disch := omega) only [go_sem, and_self, and_true, true_and, false_and, and_false, Nat.reduceAdd, Nat.reduceMul, Nat.reduceSub, Nat.reduceLeDiff, Nat.reduceLT, Nat.reduceGT, Nat.reduceEqDiff, Nat.reduceBEq, Int.reduceNeg, Int.reduceEq, Int.reduceLT, Int.reduceLE, Int.reduceBEq, Int.reduceToNat, Int.toNat_natCast, Int.natCast_zero, r5_C0, h1, i0, va, hs1, hlv, bnAns]
theorem bu_loop (ns : List ByteArray) (nm : ByteArray) (hl : ns.length ≤ 20) : ∀ (i : Nat), i ≤ ns.length → BuIs ns nm i
  | 0, _ => bu_nil ns nm
  | i + 1, h => bu_step ns nm i hl (by omega) (bu_loop ns nm hl i (by omega))

def DoIs (ns : List ByteArray) (nm : ByteArray) (a p : Int) (i : Nat) : Prop :=
  V (F tab) r5_B1 (r5_S1 (.d (.sl (ns.map .str))) (.d (iv a)) (.d (iv 0)) (boxX p (ns.drop i) nm) (.d (iv i)) []) = some (.norm, r5_E1 (.d (iv a)) (.d (iv 0)) (boxX p [] nm) [])
theorem do_end (ns : List ByteArray) (nm : ByteArray) (a p : Int) : DoIs ns nm a p ns.length := by
  have h1 : ((ns.length : Int) < (ns.length : Int)) = False := eq_false (by omega)
  unfold DoIs
  rw [r5_B1_eq, List.drop_of_length_le (Nat.le_refl _)]
  unfold boxX
  simp (disch := omega) only [go_sem, and_self, and_true, true_and, false_and, and_false, Nat.reduceAdd, Nat.reduceMul, Nat.reduceSub, Nat.reduceLeDiff, Nat.reduceLT, Nat.reduceGT, Nat.reduceEqDiff, Nat.reduceBEq, Int.reduceNeg, Int.reduceEq, Int.reduceLT, Int.reduceLE, Int.reduceBEq, Int.reduceToNat, Int.toNat_natCast, Int.natCast_zero, r5_C1, h1, List.length_map]
set_option maxHeartbeats 2000000 in
theorem do_step (ns : List ByteArray) (nm : ByteArray) (a p : Int) (i : Nat) (hl : ns.length ≤ 20) (hi : i < ns.length) (ih : DoIs ns nm a p (i + 1)) : DoIs ns nm a p i := by
  have h1 : ((i : Int) < (ns.length : Int)) = True := eq_true (by omega)
  have e1 : ((i + 1 : Nat) : Int) = (i : Int) + 1 := rfl
  unfold DoIs at ih ⊢
  rw [e1] at ih
  rw [r5_B1_eq, List.drop_eq_getElem_cons hi]
  generalize ns[i] = x at *
  have e4 : Xp.encs [dotX, chain p (ns.drop (i + 1)) nm] = [dotX.enc, .agg [iv (co (ns.drop (i + 1))), .str (ct (ns.drop (i + 1)) nm), iv (cp p (ns.drop (i + 1))), iv 0, iv 0, iv 0, .sl [], .sl (Xp.encs (cx p (ns.drop (i + 1)) nm))]] := by
    rw [← chain_enc]; rfl
  generalize ns.drop (i + 1) = l at *
  unfold boxX at ih ⊢
  have n17 : ((17 : Int) != 17) = false := rfl
  have n2 : ((2 : Int) != 2) = false := rfl
  rw [show co (x :: l) = 17 from rfl, show ct (x :: l) nm = x from rfl, show cp p (x :: l) = 0 from rfl, show cx p (x :: l) nm = [dotX, chain p l nm] from rfl, e4]
  simp (disch := omega) only [go_sem, and_self, and_true, true_and, false_and, and_false, Nat.reduceAdd, Nat.reduceMul, Nat.reduceSub, Nat.reduceLeDiff, Nat.reduceLT, Nat.reduceGT, Nat.reduceEqDiff, Nat.reduceBEq, Int.reduceNeg, Int.reduceEq, Int.reduceLT, Int.reduceLE, Int.reduceBEq, Int.reduceToNat, Int.toNat_natCast, Int.natCast_zero, r5_C1, h1, List.length_map, w64, n17, n2]
  exact ih
theorem do_loop (ns : List ByteArray) (nm : ByteArray) (a p : Int) (hl : ns.length ≤ 20) : ∀ (j i : Nat), i + j = ns.length → DoIs ns nm a p i
  | 0, i, hi => by
    obtain rfl : i = ns.length := by omega
    exact do_end ns nm a p
  | j + 1, i, hi => do_step ns nm a p i hl (by omega) (do_loop ns nm a p hl j (i + 1) (by omega))
end Go.Pe.T

namespace Go.Pe.T
set_option maxHeartbeats 4000000 in
theorem ScopeInner_ok (ns : List ByteArray) (nm : ByteArray) (_ : ns.length ≤ maxLen ∧ ∀ x ∈ ns, x.size ≤ maxLen) (_ : nm.size ≤ maxLen) (hp : List Ent) : F tab 5 [.d (.sl (ns.map .str)), .d (.str nm)] hp = some (.ret (.d (.bool true)) hp) := by
  have hlv := slives_ok
  refine f5 rfl ?_
  by_cases hl : ns.length ≤ 20
  · have hl1 : ((ns.length : Int) > 20) = False := eq_false (by omega)
    by_cases hn : nm.size ≤ 16
    · have hn1 : ((nm.size : Int) > 16) = False := eq_false (by omega)
      have hB := bu_loop ns nm hl ns.length (Nat.le_refl _)
      unfold BuIs at hB
      rw [List.drop_of_length_le (Nat.le_refl _), List.take_of_length_le (Nat.le_refl _)] at hB
      unfold boxX atR at hB
      rw [show co [] = 2 from rfl, show ct [] nm = nm from rfl, show cp 0 [] = 0 from rfl, show Xp.encs (cx 0 [] nm) = [] from rfl] at hB
      simp (disch := omega) only [go_sem, and_self, and_true, true_and, false_and, and_false, Nat.reduceAdd, Nat.reduceMul, Nat.reduceSub, Nat.reduceLeDiff, Nat.reduceLT, Nat.reduceGT, Nat.reduceEqDiff, Nat.reduceBEq, Int.reduceNeg, Int.reduceEq, Int.reduceLT, Int.reduceLE, Int.reduceBEq, Int.reduceToNat, Int.toNat_natCast, Int.natCast_zero, r5_T, hl1, hn1, List.length_map, w64]
      rw [r5_B0_n]
      erw [hB]
      by_cases ha : (ns.all fun x => decide (x.size ≤ 16)) = true
      · rw [ha]
        have hal : ∀ x ∈ ns, x.size ≤ 16 := by
          intro x hx
          have := List.all_eq_true.1 ha x hx
          simpa using this
        obtain ⟨hok, hlim⟩ := chain_ok ns nm hn hal
        have hpre := chain_pre 0 ns nm
        have hfew := chain_few 0 ns nm
        have hR := ris_ok (chain 0 ns nm) hok hlim (by omega)
        have hat := atR_last nm ns
        have hrc := res_chain nm ns []
        rw [List.nil_append] at hrc
        rw [chain_enc] at hR
        simp only [bnAns, if_true]
        unfold boxX
        rcases Bool.eq_false_or_eq_true (isV (chain 0 ns nm)) with g | g
        · cases hj : lastV ns nm with
          | none =>
            rw [hj] at hat hrc
            simp only at hat hrc
            have h0 := fun hp => res0_lost (chain 0 ns nm) nm hok hfew (by omega) hp g hrc
            rw [chain_p0] at h0
            have n1 : ((-1 : Int) < 0) = True := eq_true (by omega)
            unfold zpD at h0
            simp (disch := omega) only [go_sem, and_self, and_true, true_and, false_and, and_false, Nat.reduceAdd, Nat.reduceMul, Nat.reduceSub, Nat.reduceLeDiff, Nat.reduceLT, Nat.reduceGT, Nat.reduceEqDiff, Nat.reduceBEq, Int.reduceNeg, Int.reduceEq, Int.reduceLT, Int.reduceLE, Int.reduceBEq, Int.reduceToNat, Int.toNat_natCast, Int.natCast_zero, strD, h0, hat, n1, hlv, r5]
          | some j =>
            rw [hj] at hat hrc
            simp only at hat hrc
            have h0 := fun hp => res0_ok (chain 0 ns nm) (chain j ns nm) hok hfew (by omega) hp g hrc
            rw [chain_p0, chain_p0] at h0
            have n1 : ((j : Int) < 0) = False := eq_false (by omega)
            have hD := do_loop ns nm j j hl ns.length 0 (by omega)
            unfold DoIs boxX at hD
            rw [List.drop_zero] at hD
            simp (disch := omega) only [go_sem, and_self, and_true, true_and, false_and, and_false, Nat.reduceAdd, Nat.reduceMul, Nat.reduceSub, Nat.reduceLeDiff, Nat.reduceLT, Nat.reduceGT, Nat.reduceEqDiff, Nat.reduceBEq, Int.reduceNeg, Int.reduceEq, Int.reduceLT, Int.reduceLE, Int.reduceBEq, Int.reduceToNat, Int.toNat_natCast, Int.natCast_zero, h0, hat, n1]
            rw [r5_B1_n]
            erw [hD]
            rw [show cp (j : Int) [] = j from rfl]
            simp (disch := omega) only [go_sem, and_self, and_true, true_and, false_and, and_false, Nat.reduceAdd, Nat.reduceMul, Nat.reduceSub, Nat.reduceLeDiff, Nat.reduceLT, Nat.reduceGT, Nat.reduceEqDiff, Nat.reduceBEq, Int.reduceNeg, Int.reduceEq, Int.reduceLT, Int.reduceLE, Int.reduceBEq, Int.reduceToNat, Int.toNat_natCast, Int.natCast_zero, hlv, r5]
        · have h0 := fun hp => res0_no (chain 0 ns nm) hok hp g
          rw [chain_p0] at h0
          rw [g] at hR
          unfold zpD at h0
          simp (disch := omega) only [go_sem, and_self, and_true, true_and, false_and, and_false, Nat.reduceAdd, Nat.reduceMul, Nat.reduceSub, Nat.reduceLeDiff, Nat.reduceLT, Nat.reduceGT, Nat.reduceEqDiff, Nat.reduceBEq, Int.reduceNeg, Int.reduceEq, Int.reduceLT, Int.reduceLE, Int.reduceBEq, Int.reduceToNat, Int.toNat_natCast, Int.natCast_zero, h0, hR, hlv, r5]
      · have ha' : (ns.all fun x => decide (x.size ≤ 16)) = false := by simpa using ha
        rw [ha']
        simp only [bnAns, Bool.false_eq_true, if_false]
        simp (disch := omega) only [go_sem, and_self, and_true, true_and, false_and, and_false, Nat.reduceAdd, Nat.reduceMul, Nat.reduceSub, Nat.reduceLeDiff, Nat.reduceLT, Nat.reduceGT, Nat.reduceEqDiff, Nat.reduceBEq, Int.reduceNeg, Int.reduceEq, Int.reduceLT, Int.reduceLE, Int.reduceBEq, Int.reduceToNat, Int.toNat_natCast, Int.natCast_zero, r5]
    · have hn1 : ((nm.size : Int) > 16) = True := eq_true (by omega)
      simp (disch := omega) only [go_sem, and_self, and_true, true_and, false_and, and_false, Nat.reduceAdd, Nat.reduceMul, Nat.reduceSub, Nat.reduceLeDiff, Nat.reduceLT, Nat.reduceGT, Nat.reduceEqDiff, Nat.reduceBEq, Int.reduceNeg, Int.reduceEq, Int.reduceLT, Int.reduceLE, Int.reduceBEq, Int.reduceToNat, Int.toNat_natCast, Int.natCast_zero, r5_T, r5, hl1, hn1, List.length_map, hlv]
  · have hl1 : ((ns.length : Int) > 20) = True := eq_true (by omega)
    simp (disch := omega) only [go_sem, and_self, and_true, true_and, false_and, and_false, Nat.reduceAdd, Nat.reduceMul, Nat.reduceSub, Nat.reduceLeDiff, Nat.reduceLT, Nat.reduceGT, Nat.reduceEqDiff, Nat.reduceBEq, Int.reduceNeg, Int.reduceEq, Int.reduceLT, Int.reduceLE, Int.reduceBEq, Int.reduceToNat, Int.toNat_natCast, Int.natCast_zero, r5_T, r5, hl1, List.length_map, hlv]
end Go.Pe.T
