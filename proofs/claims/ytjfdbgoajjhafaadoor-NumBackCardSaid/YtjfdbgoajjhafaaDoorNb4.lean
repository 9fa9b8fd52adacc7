/- A part of the proof of: A number's text is parsed as it; sums and products are the same whichever way round; a sum less one of both is the other, a product by one of both is the other. -/
import Derived.Test.YtjfdbgoajjhafaaDoorNb3
import Derived.KernelRfl
set_option linter.unusedSimpArgs false
set_option linter.unusedVariables false
set_option maxRecDepth 10000

namespace Go.Pe.T
/-! ### ref04.Num: a number of digits, if it can be held -/
def dropZ : Nat → List Int → List Int × Nat
  | 0, l => (l, 0)
  | k + 1, [] => ([], k + 1)
  | k + 1, d :: r => if d = 0 then dropZ k r else (d :: r, k + 1)
theorem dropZ_len : ∀ (k : Nat) (l : List Int), (dropZ k l).1.length ≤ l.length ∧ (dropZ k l).2 ≤ k
  | 0, l => ⟨Nat.le_refl _, Nat.le_refl _⟩
  | k + 1, [] => ⟨Nat.le_refl _, Nat.le_refl _⟩
  | k + 1, d :: r => by
    rw [dropZ]
    have := dropZ_len k r
    split
    · simp only [List.length_cons]; omega
    · exact ⟨Nat.le_refl _, Nat.le_refl _⟩
theorem dropZ_digs : ∀ (k : Nat) (l : List Int), Digs l → Digs (dropZ k l).1
  | 0, l, h => h
  | k + 1, [], h => h
  | k + 1, d :: r, h => by
    rw [dropZ]
    split
    · exact dropZ_digs k r h.cons.2
    · exact h

theorem cut_dl1 (l : List Int) (d : Int) : cutD ((d :: l).map iv) 1 ((l.length + 1 : Nat) : Int) = l.map iv := by
  simp only [cutD, Int.toNat_natCast]
  rw [List.take_of_length_le (by simp)]
  rfl

def NmLoop (neg : Bool) (l : List Int) (k : Nat) (x4 : List PV) : Prop :=
  V (F tab) r17_B0 (r17_S0 (.d (iv k)) (.ibox [.d (.bool neg), .d (.sl (l.map iv))]) (.ibox x4) []) = some (.norm, r17_E0 (.d (iv (dropZ k l).2)) (.ibox [.d (.bool neg), .d (.sl ((dropZ k l).1.map iv))]) (.ibox x4) [])
theorem nm_loop (neg : Bool) (x4 : List PV) : ∀ (k : Nat) (l : List Int), k ≤ 2000000 → l.length ≤ 10000 → NmLoop neg l k x4
  | 0, l, hk, hl => by
    have h1 : ((0 : Int) > 0) = False := eq_false (by omega)
    have h2 : (((0 : Nat) : Int) > 0) = False := eq_false (by omega)
    unfold NmLoop
    rw [r17_B0_eq]
    simp (disch := omega) only [go_sem, and_self, and_true, true_and, false_and, and_false, Nat.reduceAdd, Nat.reduceMul, Nat.reduceSub, Nat.reduceLeDiff, Nat.reduceLT, Nat.reduceGT, Nat.reduceEqDiff, Nat.reduceBEq, Int.reduceNeg, Int.reduceEq, Int.reduceLT, Int.reduceLE, Int.reduceBEq, Int.reduceToNat, Int.toNat_natCast, Int.natCast_zero, r17_C0, dropZ, h1, h2]
  | k + 1, [], hk, hl => by
    have h1 : (((k + 1 : Nat) : Int) > 0) = True := eq_true (by omega)
    have h2 : ((0 : Int) > 0) = False := eq_false (by omega)
    have h3 : (((0 : Nat) : Int) > 0) = False := eq_false (by omega)
    unfold NmLoop
    rw [r17_B0_eq]
    simp (disch := omega) only [go_sem, and_self, and_true, true_and, false_and, and_false, Nat.reduceAdd, Nat.reduceMul, Nat.reduceSub, Nat.reduceLeDiff, Nat.reduceLT, Nat.reduceGT, Nat.reduceEqDiff, Nat.reduceBEq, Int.reduceNeg, Int.reduceEq, Int.reduceLT, Int.reduceLE, Int.reduceBEq, Int.reduceToNat, Int.toNat_natCast, Int.natCast_zero, r17_C0, dropZ, h1, h2, h3, List.map_nil, List.length_nil]
  | k + 1, d :: r, hk, hl => by
    simp only [List.length_cons] at hl
    have ih := nm_loop neg x4 k r (by omega) (by omega)
    have h1 : (((k + 1 : Nat) : Int) > 0) = True := eq_true (by omega)
    have h2 : (((r.length + 1 : Nat) : Int) > 0) = True := eq_true (by omega)
    have i0 : (0 ≤ (0 : Int)) = True := eq_true (by omega)
    have t0 : (0 : Int).toNat = 0 := rfl
    have e1 : ((k + 1 : Nat) : Int) - 1 = (k : Int) := by omega
    have c1 := cut_dl1 r d
    have b1 : (1 ≤ ((r.length + 1 : Nat) : Int)) = True := eq_true (by omega)
    have b2 : (((r.length + 1 : Nat) : Int) ≤ ((r.length + 1 : Nat) : Int)) = True := eq_true (by omega)
    have b0 : (0 ≤ (1 : Int)) = True := eq_true (by omega)
    have hl1 : ((d :: r).map iv).length = r.length + 1 := by simp
    have hg : ((d :: r).map iv)[0]? = some (iv d) := rfl
    have hal := dl_all (d :: r)
    unfold NmLoop at ih ⊢
    rw [r17_B0_eq, dropZ]
    generalize hL : (d :: r).map iv = L at *
    by_cases h0 : d = 0
    · subst h0
      have z : ((0 : Int) == 0) = true := rfl
      rw [if_pos rfl]
      simp (disch := omega) only [go_sem, and_self, and_true, true_and, false_and, and_false, Nat.reduceAdd, Nat.reduceMul, Nat.reduceSub, Nat.reduceLeDiff, Nat.reduceLT, Nat.reduceGT, Nat.reduceEqDiff, Nat.reduceBEq, Int.reduceNeg, Int.reduceEq, Int.reduceLT, Int.reduceLE, Int.reduceBEq, Int.reduceToNat, Int.toNat_natCast, Int.natCast_zero, r17_C0, h1, h2, i0, t0, e1, c1, b0, b1, b2, hl1, hg, hal, z, decide_true, w64]
      exact ih
    · have z : (d == 0) = false := by simpa using h0
      rw [if_neg h0]
      simp (disch := omega) only [go_sem, and_self, and_true, true_and, false_and, and_false, Nat.reduceAdd, Nat.reduceMul, Nat.reduceSub, Nat.reduceLeDiff, Nat.reduceLT, Nat.reduceGT, Nat.reduceEqDiff, Nat.reduceBEq, Int.reduceNeg, Int.reduceEq, Int.reduceLT, Int.reduceLE, Int.reduceBEq, Int.reduceToNat, Int.toNat_natCast, Int.natCast_zero, r17_C0, h1, h2, i0, t0, hl1, hg, z]
      rw [← hL, List.map_cons]

def NcLoop (neg : Bool) (l : List Int) (k : Int) (x4 : List PV) (n : Nat) : Prop :=
  V (F tab) r17_B1 (r17_S1 (.d (iv k)) (.ibox [.d (.bool neg), .d (.sl (l.map iv))]) (.ibox x4) (.d (iv (val (l.drop n)))) (.d (iv ((n : Int) - 1))) []) = some (.norm, r17_E1 (.d (iv k)) (.ibox [.d (.bool neg), .d (.sl (l.map iv))]) (.ibox x4) (.d (iv (val l))) [])
theorem nc_loop (neg : Bool) (l : List Int) (hd : Digs l) (hl : l.length ≤ 15) (k : Int) (x4 : List PV) : ∀ n, n ≤ l.length → NcLoop neg l k x4 n
  | 0, h => by
    have h1 : (((0 : Nat) : Int) - 1 ≥ 0) = False := eq_false (by omega)
    have h2 : (((0 : Nat) : Int) - 1 < 0) = True := eq_true (by omega)
    have h3 : ((0 : Int) - 1 ≥ 0) = False := eq_false (by omega)
    unfold NcLoop
    rw [r17_B1_eq, List.drop_zero]
    simp (disch := omega) only [go_sem, and_self, and_true, true_and, false_and, and_false, Nat.reduceAdd, Nat.reduceMul, Nat.reduceSub, Nat.reduceLeDiff, Nat.reduceLT, Nat.reduceGT, Nat.reduceEqDiff, Nat.reduceBEq, Int.reduceNeg, Int.reduceEq, Int.reduceLT, Int.reduceLE, Int.reduceBEq, Int.reduceToNat, Int.toNat_natCast, Int.natCast_zero, r17_C1, h1, h3]
  | n + 1, h => by
    have ih := nc_loop neg l hd hl k x4 n (by omega)
    have hx : l[n]? = some l[n] := List.getElem?_eq_getElem (by omega)
    have hdr : l.drop n = l[n] :: l.drop (n + 1) := List.drop_eq_getElem_cons (by omega)
    have hdg : Digs (l.drop (n + 1)) := fun x hx => hd x (List.mem_of_mem_drop hx)
    obtain ⟨v1, v2⟩ := val_bound hdg
    have hd0 := hd l[n] (List.getElem_mem _)
    have hv : val (l.drop n) = l[n] + 10 * val (l.drop (n + 1)) := by rw [hdr]; rfl
    have hp : (10 : Int) ^ (l.drop (n + 1)).length ≤ 10 ^ 14 := p10_mono (by rw [List.length_drop]; omega)
    have e14 : (10 : Int) ^ 14 = 100000000000000 := by decide
    have va : (l.map iv)[n]? = some (iv l[n]) := dl_get hx
    have h1 : (((n + 1 : Nat) : Int) - 1 ≥ 0) = True := eq_true (by omega)
    have e1 : ((n + 1 : Nat) : Int) - 1 = (n : Int) := by omega
    have h2 : ((n : Int) ≥ 0) = True := eq_true (by omega)
    have h3 : (0 ≤ (n : Int)) = True := eq_true (by omega)
    have e2 : 10 * val (l.drop (n + 1)) + l[n] = val (l.drop n) := by omega
    unfold digit at hd0
    unfold NcLoop at ih ⊢
    rw [r17_B1_eq, e1]
    generalize val (l.drop (n + 1)) = v at *
    generalize val (l.drop n) = v' at *
    generalize l[n] = d at *
    simp (disch := omega) only [go_sem, and_self, and_true, true_and, false_and, and_false, Nat.reduceAdd, Nat.reduceMul, Nat.reduceSub, Nat.reduceLeDiff, Nat.reduceLT, Nat.reduceGT, Nat.reduceEqDiff, Nat.reduceBEq, Int.reduceNeg, Int.reduceEq, Int.reduceLT, Int.reduceLE, Int.reduceBEq, Int.reduceToNat, Int.toNat_natCast, Int.natCast_zero, r17_C1, h2, h3, va, e2, w64]
    exact ih

def numR (neg : Bool) (l : List Int) (k : Nat) : Int × Int × Bool :=
  let p := dropZ k (trimL l)
  if p.1 = [] then (0, 0, true) else if p.1.length > 15 ∨ p.2 > 9 then (0, 0, false) else (if neg then -val p.1 else val p.1, p.2, true)

theorem dropZ_top : ∀ (k : Nat) (l : List Int), dropZ k l = ([], (dropZ k l).2) ∨ (dropZ k l).1 ≠ [] := fun k l => by
  by_cases h : (dropZ k l).1 = []
  · exact .inl (by rw [← h])
  · exact .inr h

set_option maxHeartbeats 1000000 in
theorem num4_ok (neg : Bool) (l : List Int) (hd : Digs l) (hl : l.length ≤ 10000) (k : Nat) (hk : k ≤ 2000000) (hp : List Ent) :
    F tab 17 [.d (longD neg l), .d (iv k)] hp = some (.ret (.tup [.d (numD (numR neg l k).1 (numR neg l k).2.1), .d (.bool (numR neg l k).2.2)]) hp) := by
  have ht := trim_ok' neg l hl
  simp only [trimmed_shape] at ht
  have tl := trimN_le l l.length
  have tlen := trimL_len l
  have hdt := trimL_digs hd
  have hL := nm_loop (neg && trimN l l.length != 0) [.d (iv 0), .d (iv 0)] k (trimL l) hk (by omega)
  obtain ⟨z1, z2⟩ := dropZ_len k (trimL l)
  have hdz := dropZ_digs k (trimL l) hdt
  have hneg : (dropZ k (trimL l)).1 ≠ [] → (neg && trimN l l.length != 0) = neg := by
    intro hne
    have : trimN l l.length ≠ 0 := by
      intro e
      rw [e] at tlen
      have := List.eq_nil_of_length_eq_zero tlen
      rw [this] at z1 hne
      exact hne (List.eq_nil_of_length_eq_zero (Nat.le_zero.1 z1))
    simp [this]
  refine f17 rfl ?_
  unfold NmLoop at hL
  unfold numR
  simp only
  generalize hN : (neg && trimN l l.length != 0) = ng at *
  generalize trimL l = t at *
  generalize hq : dropZ k t = q at *
  obtain ⟨m, s⟩ := q
  simp only at *
  have kn : ((k : Int) > 0) = (0 < k) := by apply propext; omega
  simp (disch := omega) only [go_sem, and_self, and_true, true_and, false_and, and_false, Nat.reduceAdd, Nat.reduceMul, Nat.reduceSub, Nat.reduceLeDiff, Nat.reduceLT, Nat.reduceGT, Nat.reduceEqDiff, Nat.reduceBEq, Int.reduceNeg, Int.reduceEq, Int.reduceLT, Int.reduceLE, Int.reduceBEq, Int.reduceToNat, Int.toNat_natCast, Int.natCast_zero, r17_T, r17, ht]
  rw [r17_B0_n]
  erw [hL]
  by_cases hm : m = []
  · subst hm
    have z : ((([] : List Int).map iv).length : Int) = 0 := rfl
    have z3 : ((0 : Int) == 0) = true := rfl
    rw [if_pos rfl]
    simp (disch := omega) only [go_sem, and_self, and_true, true_and, false_and, and_false, Nat.reduceAdd, Nat.reduceMul, Nat.reduceSub, Nat.reduceLeDiff, Nat.reduceLT, Nat.reduceGT, Nat.reduceEqDiff, Nat.reduceBEq, Int.reduceNeg, Int.reduceEq, Int.reduceLT, Int.reduceLE, Int.reduceBEq, Int.reduceToNat, Int.toNat_natCast, Int.natCast_zero, List.map_nil, List.length_nil, z3, numD]
  · have hml : 0 < m.length := List.length_pos_iff.2 hm
    have z3 : ((m.length : Int) == 0) = false := by simp; omega
    have h0 : ((s : Int) < 0) = False := eq_false (by omega)
    have hg := hneg hm
    rw [if_neg hm]
    by_cases h15 : m.length > 15
    · have h15' : ((m.length : Int) > 15) = True := eq_true (by omega)
      rw [if_pos (.inl h15)]
      simp (disch := omega) only [go_sem, and_self, and_true, true_and, false_and, and_false, Nat.reduceAdd, Nat.reduceMul, Nat.reduceSub, Nat.reduceLeDiff, Nat.reduceLT, Nat.reduceGT, Nat.reduceEqDiff, Nat.reduceBEq, Int.reduceNeg, Int.reduceEq, Int.reduceLT, Int.reduceLE, Int.reduceBEq, Int.reduceToNat, Int.toNat_natCast, Int.natCast_zero, List.length_map, z3, h0, h15', numD]
    · have h15' : ((m.length : Int) > 15) = False := eq_false (by omega)
      by_cases h9 : s > 9
      · have h9' : ((s : Int) > 9) = True := eq_true (by omega)
        rw [if_pos (.inr h9)]
        simp (disch := omega) only [go_sem, and_self, and_true, true_and, false_and, and_false, Nat.reduceAdd, Nat.reduceMul, Nat.reduceSub, Nat.reduceLeDiff, Nat.reduceLT, Nat.reduceGT, Nat.reduceEqDiff, Nat.reduceBEq, Int.reduceNeg, Int.reduceEq, Int.reduceLT, Int.reduceLE, Int.reduceBEq, Int.reduceToNat, Int.toNat_natCast, Int.natCast_zero, List.length_map, z3, h0, h15', h9', numD]
      · have h9' : ((s : Int) > 9) = False := eq_false (by omega)
        rw [if_neg (by omega)]
        have hc := nc_loop ng m hdz (by omega) s [.d (iv 0), .d (iv 0)] m.length (Nat.le_refl _)
        unfold NcLoop at hc
        rw [List.drop_of_length_le (Nat.le_refl _)] at hc
        have v0 : val [] = 0 := rfl
        rw [v0] at hc
        obtain ⟨b1, b2⟩ := val_bound hdz
        have hp : (10 : Int) ^ m.length ≤ 10 ^ 15 := p10_mono (by omega)
        have e15 : (10 : Int) ^ 15 = 1000000000000000 := by decide
        simp (disch := omega) only [go_sem, and_self, and_true, true_and, false_and, and_false, Nat.reduceAdd, Nat.reduceMul, Nat.reduceSub, Nat.reduceLeDiff, Nat.reduceLT, Nat.reduceGT, Nat.reduceEqDiff, Nat.reduceBEq, Int.reduceNeg, Int.reduceEq, Int.reduceLT, Int.reduceLE, Int.reduceBEq, Int.reduceToNat, Int.toNat_natCast, Int.natCast_zero, List.length_map, z3, h0, h15', h9', w64]
        rw [r17_B1_n]
        erw [hc]
        subst hg
        cases ng with
        | true => simp (disch := omega) only [go_sem, and_self, and_true, true_and, false_and, and_false, Nat.reduceAdd, Nat.reduceMul, Nat.reduceSub, Nat.reduceLeDiff, Nat.reduceLT, Nat.reduceGT, Nat.reduceEqDiff, Nat.reduceBEq, Int.reduceNeg, Int.reduceEq, Int.reduceLT, Int.reduceLE, Int.reduceBEq, Int.reduceToNat, Int.toNat_natCast, Int.natCast_zero, numD, w64, Int.zero_sub]
        | false => simp (disch := omega) only [go_sem, and_self, and_true, true_and, false_and, and_false, Nat.reduceAdd, Nat.reduceMul, Nat.reduceSub, Nat.reduceLeDiff, Nat.reduceLT, Nat.reduceGT, Nat.reduceEqDiff, Nat.reduceBEq, Int.reduceNeg, Int.reduceEq, Int.reduceLT, Int.reduceLE, Int.reduceBEq, Int.reduceToNat, Int.toNat_natCast, Int.natCast_zero, numD]
end Go.Pe.T

namespace Go.Pe.T
/-! ### what ref04.Num tells, as a number -/
def sv (neg : Bool) (v : Int) : Int := if neg then -v else v

theorem Top.tail {d : Int} {r : List Int} (h : Top (d :: r)) : Top r := by
  refine ⟨h.1.cons.2, fun x hx => ?_⟩
  cases r with
  | nil => simp at hx
  | cons y r => exact h.2 x (by simpa [List.getLast?_cons_cons] using hx)
theorem Top.zero {r : List Int} (h : Top (0 :: r)) : r ≠ [] := by
  intro e
  subst e
  exact h.2 0 (by simp) rfl

theorem dropZ_strip : ∀ (k : Nat) (t : List Int), Top t → t ≠ [] → stripN (val t) k = (val (dropZ k t).1, (dropZ k t).2) ∧ Top (dropZ k t).1 ∧ (dropZ k t).1 ≠ []
  | 0, t, h, hn => ⟨rfl, h, hn⟩
  | k + 1, [], h, hn => absurd rfl hn
  | k + 1, d :: r, h, hn => by
    have hd := h.1 d (by simp)
    unfold digit at hd
    have hv : val (d :: r) = d + 10 * val r := rfl
    obtain ⟨b1, b2⟩ := val_bound h.1.cons.2
    have hm : (d + 10 * val r).tmod 10 = d := by
      rw [Int.tmod_eq_emod_of_nonneg (by omega)]; omega
    have hq : (d + 10 * val r).tdiv 10 = val r := by
      rw [Int.tdiv_eq_ediv_of_nonneg (by omega)]; omega
    rw [hv, stripN, dropZ, hm, hq]
    by_cases h0 : d = 0
    · subst h0
      rw [if_pos rfl, if_pos rfl]
      exact dropZ_strip k r h.tail h.zero
    · rw [if_neg h0, if_neg h0]
      exact ⟨by rw [hv], h, hn⟩

theorem strip_neg : ∀ (k : Nat) (c : Int), stripN (-c) k = (-(stripN c k).1, (stripN c k).2)
  | 0, c => rfl
  | k + 1, c => by
    rw [stripN, stripN, Int.neg_tmod, Int.neg_tdiv]
    by_cases h : c.tmod 10 = 0
    · rw [if_pos (by omega), if_pos h, strip_neg k]
    · rw [if_neg (by omega), if_neg h]
theorem strip_sv (neg : Bool) (k : Nat) (c : Int) : stripN (sv neg c) k = (sv neg (stripN c k).1, (stripN c k).2) := by
  cases neg with
  | true => exact strip_neg k c
  | false => rfl

def toldR (v : Int) (k : Nat) : Int × Int × Bool := if makeOk v k then ((stripN v k).1, (stripN v k).2, true) else (0, 0, false)

theorem numR_told (neg : Bool) (l : List Int) (hd : Digs l) (k : Nat) : numR neg l k = toldR (sv neg (val l)) k := by
  have hv := trimL_val l
  have ht : Top (trimL l) := ⟨trimL_digs hd, trimL_top l⟩
  rw [← hv]
  unfold numR toldR makeOk
  generalize trimL l = t at *
  rw [strip_sv]
  by_cases h0 : t = []
  · subst h0
    have e : (dropZ k ([] : List Int)).1 = [] := by cases k <;> rfl
    have v0 : val [] = 0 := rfl
    have s0 : sv neg 0 = 0 := by cases neg <;> rfl
    have n0 : numIs 0 ((0 : Nat) : Int) = true := by decide
    rw [if_pos e, v0, strip_zero, s0, n0]
    rfl
  · obtain ⟨e1, e2, e3⟩ := dropZ_strip k t ht h0
    have hz := (strip_val k (val t)).2.2
    rw [e1] at hz ⊢
    simp only at hz ⊢
    obtain ⟨b1, b2⟩ := val_bound e2.1
    have b3 := top_bound e2 e3
    generalize (dropZ k t).1 = m at *
    generalize (dropZ k t).2 = s at *
    rw [if_neg e3]
    have e15 : (10 : Int) ^ 15 = 1000000000000000 := by decide
    have hiff : m.length > 15 ↔ 1000000000000000 ≤ val m := by
      constructor
      · intro h
        have : (10 : Int) ^ 15 ≤ 10 ^ (m.length - 1) := p10_mono (by omega)
        omega
      · intro h
        apply Classical.byContradiction
        intro hc
        have : (10 : Int) ^ m.length ≤ 10 ^ 15 := p10_mono (by omega)
        omega
    by_cases hbad : m.length > 15 ∨ s > 9
    · rw [if_pos hbad]
      have hn : numIs (sv neg (val m)) s = false := by
        unfold numIs
        rcases hbad with h | h
        · have h1 := hiff.1 h
          cases neg with
          | true =>
            have : ¬ (-1000000000000000 < sv true (val m)) := by simp only [sv, if_true]; omega
            simp [this]
          | false =>
            have : ¬ (sv false (val m) < 1000000000000000) := by simp only [sv, Bool.false_eq_true, if_false]; omega
            simp [this]
        · have : ¬ ((s : Int) ≤ 9) := by omega
          simp [this]
      rw [hn]
      rfl
    · rw [if_neg hbad]
      have h1 : ¬ m.length > 15 := fun h => hbad (.inl h)
      have h2 : s ≤ 9 := by omega
      have h3 : val m < 1000000000000000 := by
        apply Classical.byContradiction
        intro hc
        exact h1 (hiff.2 (by omega))
      have hn : numIs (sv neg (val m)) s = true := by
        unfold numIs
        have g0 : (0 : Int) ≤ (s : Int) := by omega
        have g1 : (s : Int) ≤ 9 := by omega
        have g2 : -1000000000000000 < sv neg (val m) := by cases neg <;> simp only [sv, if_true, Bool.false_eq_true, if_false] <;> omega
        have g3 : sv neg (val m) < 1000000000000000 := by cases neg <;> simp only [sv, if_true, Bool.false_eq_true, if_false] <;> omega
        have g4 : ((s : Int) == 0 || (sv neg (val m)).tmod 10 != 0) = true := by
          rcases hz with hz | hz
          · simp [hz]
          · have : (sv neg (val m)).tmod 10 ≠ 0 := by
              cases neg with
              | true => simp only [sv, if_true, Int.neg_tmod]; omega
              | false => simpa only [sv, Bool.false_eq_true, if_false] using hz
            simp [this]
        simp only [g0, g1, g2, g3, decide_true, Bool.true_and, g4]
      rw [hn]
      rfl

theorem told4_ok (neg : Bool) (l : List Int) (hd : Digs l) (hl : l.length ≤ 10000) (k : Nat) (hk : k ≤ 100000) (hp : List Ent) :
    F tab 59 [.d (longD neg l), .d (iv k)] hp = some (.ret (madeT (sv neg (val l)) k) hp) := by
  have hn := num4_ok neg l hd hl k (by omega)
  rw [numR_told neg l hd k] at hn
  refine f59 rfl ?_
  unfold toldR at hn
  rcases Bool.eq_false_or_eq_true (makeOk (sv neg (val l)) k) with g | g
  · rw [g] at hn
    simp only [if_true] at hn
    rw [made_yes g]
    simp (disch := omega) only [go_sem, and_self, and_true, true_and, false_and, and_false, Nat.reduceAdd, Nat.reduceMul, Nat.reduceSub, Nat.reduceLeDiff, Nat.reduceLT, Nat.reduceGT, Nat.reduceEqDiff, Nat.reduceBEq, Int.reduceNeg, Int.reduceEq, Int.reduceLT, Int.reduceLE, Int.reduceBEq, Int.reduceToNat, Int.toNat_natCast, Int.natCast_zero, r59_T, r59, hn, numD]
  · rw [g] at hn
    simp only [Bool.false_eq_true, if_false] at hn
    rw [made_no g]
    simp (disch := omega) only [go_sem, and_self, and_true, true_and, false_and, and_false, Nat.reduceAdd, Nat.reduceMul, Nat.reduceSub, Nat.reduceLeDiff, Nat.reduceLT, Nat.reduceGT, Nat.reduceEqDiff, Nat.reduceBEq, Int.reduceNeg, Int.reduceEq, Int.reduceLT, Int.reduceLE, Int.reduceBEq, Int.reduceToNat, Int.toNat_natCast, Int.natCast_zero, r59_T, r59, hn, numD]

theorem sv_trim (neg : Bool) (l : List Int) (hd : Digs l) : sv (neg && trimN l l.length != 0) (val (trimL l)) = sv neg (val l) := by
  rw [trimL_val]
  by_cases h : trimN l l.length = 0
  · rw [(trimN_zero hd).1 h]
    have z : ∀ b, sv b 0 = 0 := fun b => by cases b <;> rfl
    rw [z, z]
  · have : (trimN l l.length != 0) = true := by simp [h]
    rw [this, Bool.and_true]

theorem plus_val {na nb : Bool} {a b : List Int} (ha : Top a) (hb : Top b) (hla : a.length ≤ 900) (hlb : b.length ≤ 900) : ∃ neg l, plusD na a nb b = longD neg l ∧ Digs l ∧ l.length ≤ 1000 ∧ sv neg (val l) = sv na (val a) + sv nb (val b) := by
  have h1 := (val_bound ha.1).1
  have h2 := (val_bound hb.1).1
  obtain ⟨g0, g1, g2⟩ := aboveL_val ha hb
  unfold plusD trimmed
  have tl : ∀ l : List Int, (trimL l).length ≤ l.length := fun l => by unfold trimL; rw [List.length_take]; omega
  split
  · rename_i hn
    subst hn
    obtain ⟨s1, s2, s3⟩ := sum_val (max a.length b.length + 2) a b 0 ha.1 hb.1 (by omega) (by omega) (by omega)
    refine ⟨_, _, rfl, trimL_digs s2, by have := tl (sumL a b 0 (max a.length b.length + 2)); omega, ?_⟩
    rw [sv_trim _ _ s2, s1]
    cases na <;> simp only [sv, if_true, Bool.false_eq_true, if_false] <;> omega
  · rename_i hn
    split
    · rename_i hx
      have hle : val b ≤ val a := by rw [g0] at hx; simpa using hx
      obtain ⟨_, l2, l3⟩ := less_val a b 0 ha.1 hb.1 (by omega) (by omega) (g1 hx)
      refine ⟨_, _, rfl, trimL_digs l2, by have := tl (lessL a b 0); omega, ?_⟩
      rw [sv_trim _ _ l2, less_exact ha.1 hb.1 (g1 hx) hle]
      cases na <;> cases nb <;> simp at hn <;> simp only [sv, if_true, Bool.false_eq_true, if_false] <;> omega
    · rename_i hx
      have hx' : aboveL a b = false := by simpa using hx
      have hle : val a ≤ val b := by rw [g0] at hx'; simp at hx'; omega
      obtain ⟨_, l2, l3⟩ := less_val b a 0 hb.1 ha.1 (by omega) (by omega) (g2 hx')
      refine ⟨_, _, rfl, trimL_digs l2, by have := tl (lessL b a 0); omega, ?_⟩
      rw [sv_trim _ _ l2, less_exact hb.1 ha.1 (g2 hx') hle]
      cases na <;> cases nb <;> simp at hn <;> simp only [sv, if_true, Bool.false_eq_true, if_false] <;> omega

theorem strip_scale (v : Int) (m : Nat) : ∀ j : Nat, stripN (v * 10 ^ j) (m + j) = stripN v m
  | 0 => by simp
  | j + 1 => by
    have e : v * 10 ^ (j + 1) = v * 10 ^ j * 10 := by rw [Int.pow_succ, Int.mul_assoc]
    rw [← Nat.add_assoc, stripN, e, Int.mul_tmod_left, if_pos rfl, Int.mul_tdiv_cancel _ (by omega), strip_scale v m j]
theorem made_scale (v : Int) (m j : Nat) : madeT (v * 10 ^ j) (m + j) = madeT v m := by
  unfold madeT makeOk
  rw [strip_scale]

theorem sv_abs (c : Int) : sv (decide (c < 0)) (c.natAbs : Int) = c := by
  by_cases h : c < 0
  · simp only [h, decide_true, sv, if_true]; omega
  · simp only [h, decide_false, sv, Bool.false_eq_true, if_false]; omega
theorem sv_mul (neg : Bool) (p v : Int) : sv neg (p * v) = p * sv neg v := by
  cases neg <;> simp only [sv, if_true, Bool.false_eq_true, if_false, Int.mul_neg]
theorem sv_not (neg : Bool) (v : Int) : sv (!neg) v = -sv neg v := by
  cases neg <;> simp only [sv, Bool.not_true, Bool.not_false, if_true, Bool.false_eq_true, if_false, Int.neg_neg]

theorem flat_line (c c' : Int) (k k' : Nat) (hk : k ≤ 9) (hk' : k' ≤ 9) (s : Int) : madeT (c * 10 ^ (max k k' - k) + s * (c' * 10 ^ (max k k' - k'))) (max k k') = madeT (flatN c k + s * flatN c' k') 9 := by
  have e := made_scale (c * 10 ^ (max k k' - k) + s * (c' * 10 ^ (max k k' - k'))) (max k k') (9 - max k k')
  rw [← e, show max k k' + (9 - max k k') = 9 by omega]
  congr 1
  unfold flatN
  rw [Int.add_mul, Int.mul_assoc c, ← Int.pow_add, Int.mul_assoc s, Int.mul_assoc c', ← Int.pow_add, show max k k' - k + (9 - max k k') = 9 - k by omega, show max k k' - k' + (9 - max k k') = 9 - k' by omega]

section
variable (c c' : Int) (k k' : Nat) (hk : k ≤ 9) (hk' : k' ≤ 9) (hc : -1000000000000000 < c ∧ c < 1000000000000000) (hc' : -1000000000000000 < c' ∧ c' < 1000000000000000)
include hk hk' hc hc'

theorem add4_ok (hp : List Ent) : F tab 38 [.d (numD c k), .d (numD c' k')] hp = some (.ret (madeT (flatN c k + flatN c' k') 9) hp) := by
  have hl := line_ok c c' k k' hk hk' hc hc'
  obtain ⟨t1, v1, n1⟩ := at_top c (max k k' - k)
  obtain ⟨t2, v2, n2⟩ := at_top c' (max k k' - k')
  have l1 := at_len c (max k k' - k) (by omega) hc
  have l2 := at_len c' (max k k' - k') (by omega) hc'
  have hpl := plus_ok (atN c (max k k' - k)) (atN c' (max k k' - k')) _ _ t1 t2 l1 l2
  obtain ⟨neg, l, e1, e2, e3, e4⟩ := plus_val (na := atN c (max k k' - k)) (nb := atN c' (max k k' - k')) t1 t2 l1 l2
  rw [e1] at hpl
  have ht := told4_ok neg l e2 (by omega) (max k k') (by omega)
  rw [e4, n1, n2, v1, v2, sv_mul, sv_mul, sv_abs, sv_abs, Int.mul_comm _ c, Int.mul_comm _ c'] at ht
  have hf := flat_line c c' k k' hk hk' 1
  rw [Int.one_mul, Int.one_mul] at hf
  rw [hf] at ht
  have hm : ∃ a b, madeT (flatN c k + flatN c' k') 9 = .tup [.d (.agg a), .d (iv b)] ∧ a.length = 2 ∧ ∃ x y, a = [iv x, iv y] := by
    rcases Bool.eq_false_or_eq_true (makeOk (flatN c k + flatN c' k') 9) with g | g
    · exact ⟨_, _, made_yes g, rfl, _, _, rfl⟩
    · exact ⟨_, _, made_no g, rfl, _, _, rfl⟩
  obtain ⟨a, b, e, _, x, y, rfl⟩ := hm
  rw [e] at ht ⊢
  refine f38 rfl ?_
  simp (disch := omega) only [go_sem, and_self, and_true, true_and, false_and, and_false, Nat.reduceAdd, Nat.reduceMul, Nat.reduceSub, Nat.reduceLeDiff, Nat.reduceLT, Nat.reduceGT, Nat.reduceEqDiff, Nat.reduceBEq, Int.reduceNeg, Int.reduceEq, Int.reduceLT, Int.reduceLE, Int.reduceBEq, Int.reduceToNat, Int.toNat_natCast, Int.natCast_zero, r38_T, r38, hl, hpl, ht, longD, numD]

theorem sub4_ok (hp : List Ent) : F tab 30 [.d (numD c k), .d (numD c' k')] hp = some (.ret (madeT (flatN c k - flatN c' k') 9) hp) := by
  have hl := line_ok c c' k k' hk hk' hc hc'
  obtain ⟨t1, v1, n1⟩ := at_top c (max k k' - k)
  obtain ⟨t2, v2, n2⟩ := at_top c' (max k k' - k')
  have l1 := at_len c (max k k' - k) (by omega) hc
  have l2 := at_len c' (max k k' - k') (by omega) hc'
  have hpl := plus_ok (atN c (max k k' - k)) (!atN c' (max k k' - k')) _ _ t1 t2 l1 l2
  obtain ⟨neg, l, e1, e2, e3, e4⟩ := plus_val (na := atN c (max k k' - k)) (nb := !atN c' (max k k' - k')) t1 t2 l1 l2
  rw [e1] at hpl
  have ht := told4_ok neg l e2 (by omega) (max k k') (by omega)
  rw [e4, sv_not, n1, n2, v1, v2, sv_mul, sv_mul, sv_abs, sv_abs, Int.mul_comm _ c, Int.mul_comm _ c'] at ht
  have hf := flat_line c c' k k' hk hk' (-1)
  rw [Int.neg_mul, Int.one_mul, Int.neg_mul, Int.one_mul] at hf
  rw [hf, ← Int.sub_eq_add_neg] at ht
  have hm : ∃ a b, madeT (flatN c k - flatN c' k') 9 = .tup [.d (.agg a), .d (iv b)] ∧ a.length = 2 ∧ ∃ x y, a = [iv x, iv y] := by
    rcases Bool.eq_false_or_eq_true (makeOk (flatN c k - flatN c' k') 9) with g | g
    · exact ⟨_, _, made_yes g, rfl, _, _, rfl⟩
    · exact ⟨_, _, made_no g, rfl, _, _, rfl⟩
  obtain ⟨a, b, e, _, x, y, rfl⟩ := hm
  rw [e] at ht ⊢
  refine f30 rfl ?_
  simp (disch := omega) only [go_sem, and_self, and_true, true_and, false_and, and_false, Nat.reduceAdd, Nat.reduceMul, Nat.reduceSub, Nat.reduceLeDiff, Nat.reduceLT, Nat.reduceGT, Nat.reduceEqDiff, Nat.reduceBEq, Int.reduceNeg, Int.reduceEq, Int.reduceLT, Int.reduceLE, Int.reduceBEq, Int.reduceToNat, Int.toNat_natCast, Int.natCast_zero, r30_T, r30, hl, hpl, ht, longD, numD]
end
/-- what there is of a sum: a number and an error -/
theorem made_ex (T : Int) (k : Nat) : ∃ x y b, madeT T k = .tup [.d (.agg [iv x, iv y]), .d (iv b)] := by
  rcases Bool.eq_false_or_eq_true (makeOk T k) with g | g
  · exact ⟨_, _, _, made_yes g⟩
  · exact ⟨_, _, _, made_no g⟩

end Go.Pe.T

namespace Go.Pe.T
/-! ### num.digits -/
abbrev u8D (b : UInt8) : D := .int .u8 (b.toNat : Int)
def chU (n : Nat) : UInt8 := UInt8.ofNat (48 + n % 10)
/-- a number's digits as a text, from 0 on -/
def decT (n : Nat) : List UInt8 := if n < 10 then [chU n] else decT (n / 10) ++ [chU n]
theorem decT_step (n : Nat) (h : ¬ n < 10) : decT n = decT (n / 10) ++ [chU n] := by rw [decT, if_neg h]
theorem decT_one (n : Nat) (h : n < 10) : decT n = [chU n] := by rw [decT, if_pos h]
theorem decT_len : ∀ (k n : Nat), n < 10 ^ (k + 1) → (decT n).length ≤ k + 1
  | 0, n, h => by rw [decT_one n (by simpa using h)]; simp
  | k + 1, n, h => by
    by_cases g : n < 10
    · rw [decT_one n g]; simp
    · rw [decT_step n g]
      have := decT_len k (n / 10) (by rw [Nat.pow_succ] at h; omega)
      simp only [List.length_append, List.length_singleton]; omega

theorem chU_get (n : Nat) : (⟨#[48, 49, 50, 51, 52, 53, 54, 55, 56, 57]⟩ : ByteArray)[n % 10]? = some (chU n) := by
  have h : n % 10 < 10 := by omega
  unfold chU
  generalize n % 10 = m at *
  have : ∀ m, m < 10 → (⟨#[48, 49, 50, 51, 52, 53, 54, 55, 56, 57]⟩ : ByteArray)[m]? = some (UInt8.ofNat (48 + m)) := by decide
  exact this m h

theorem bytes_opt (l : List UInt8) : optAll ((l.map u8D).map asByte) = some l := by
  induction l with
  | nil => rfl
  | cons b l ih =>
    simp only [List.map_cons, asByte, optAll, ih, Option.map_some]
    simp

/-- the row of twenty, its last ones set -/
def dgB (l : List UInt8) : List PV := List.replicate (20 - l.length) (.d (.int .u8 0)) ++ l.map fun b => .d (u8D b)
def dgD (l : List UInt8) : List D := List.replicate (20 - l.length) (.int .u8 0) ++ l.map u8D
theorem dgB_set (l : List UInt8) (b : UInt8) (h : l.length < 20) : (dgB l).set (19 - l.length) (.d (u8D b)) = dgB (b :: l) := by
  unfold dgB
  have e : 20 - l.length = (19 - l.length) + 1 := by omega
  rw [e, List.replicate_succ', List.append_assoc, List.set_append_right _ _ (by simp)]
  simp
theorem dgB_len (l : List UInt8) (h : l.length ≤ 20) : (dgB l).length = 20 := by unfold dgB; simp; omega
theorem dgB_opt (l : List UInt8) : optAll ((dgB l).map PV.toD) = some (dgD l) := by
  have e : dgB l = (dgD l).map PV.d := by unfold dgB dgD; simp
  rw [e]; exact optAll_d _
theorem dgD_len (l : List UInt8) (h : l.length ≤ 20) : (dgD l).length = 20 := by unfold dgD; simp; omega
theorem dgD_all (l : List UInt8) : (dgD l).all (fun d => !d.isAgg) = true := by
  unfold dgD
  simp only [List.all_eq_true]
  intro x hx
  rcases List.mem_append.1 hx with h | h
  · rw [List.eq_of_mem_replicate h]; rfl
  · obtain ⟨b, _, rfl⟩ := List.mem_map.1 h; rfl
theorem dgD_cut (l : List UInt8) (h : l.length ≤ 20) : cutD (dgD l) ((20 - l.length : Nat) : Int) 20 = l.map u8D := by
  simp only [cutD, Int.toNat_natCast]
  rw [List.take_of_length_le (by rw [dgD_len l h]; decide)]
  unfold dgD
  rw [List.drop_left' (by simp)]

def DgIs (n : Nat) (l : List UInt8) : Prop :=
  V (F tab) r46_B0 (r46_S0 (.d (iv n)) (.ibox (dgB l)) (.d (iv (20 - l.length : Nat))) []) = some (.ret, r46_R (.d (.str ⟨(decT n ++ l).toArray⟩)) [])
set_option maxHeartbeats 1000000 in
theorem dg_step (n : Nat) (l : List UInt8) (hn : n ≤ 9000000000000000000) (hl : l.length < 20) (ih : ¬ n < 10 → DgIs (n / 10) (chU n :: l)) : DgIs n l := by
  have e1 : ((20 - l.length : Nat) : Int) - 1 = ((19 - l.length : Nat) : Int) := by omega
  have d1 : ((n : Nat) : Int).tmod 10 = ((n % 10 : Nat) : Int) := (Int.ofNat_tmod n 10).symm
  have d2 : ((n : Nat) : Int).tdiv 10 = ((n / 10 : Nat) : Int) := (Int.ofNat_tdiv n 10).symm
  have i0 : (0 ≤ ((n % 10 : Nat) : Int)) = True := eq_true (by omega)
  have hc := chU_get n
  have j0 : (0 ≤ ((19 - l.length : Nat) : Int)) = True := eq_true (by omega)
  have j1 : (((19 - l.length : Nat) : Int) < ((20 : Nat) : Int)) = True := eq_true (by omega)
  have j1' : (((19 - l.length : Nat) : Int) < (20 : Int)) = True := eq_true (by omega)
  have hset := dgB_set l (chU n) hl
  have hlen := dgB_len l (by omega)
  have j2 : (19 - l.length < 20) = True := eq_true (by omega)
  have z10 : ((10 : Int) = 0) = False := eq_false (by omega)
  have e2 : 20 - (chU n :: l).length = 19 - l.length := by simp only [List.length_cons]; omega
  unfold DgIs at ih ⊢
  rw [e2] at ih
  rw [r46_B0_eq]
  by_cases g : n < 10
  · have hz : ((n / 10 : Nat) : Int) = 0 := by omega
    have hz2 : ((0 : Int) == 0) = true := rfl
    have hopt := dgB_opt (chU n :: l)
    have hdl := dgD_len (chU n :: l) (by simp only [List.length_cons]; omega)
    have hda := dgD_all (chU n :: l)
    have hdc := dgD_cut (chU n :: l) (by simp only [List.length_cons]; omega)
    rw [e2] at hdc
    have hby := bytes_opt (chU n :: l)
    simp only [List.map_cons] at hby
    have h20 : (((19 - l.length : Nat) : Int) ≤ 20) = True := eq_true (by omega)
    have n20 : ((20 : Nat) : Int) = 20 := rfl
    rw [decT_one n g]
    generalize dgB (chU n :: l) = C' at *
    generalize dgD (chU n :: l) = E at *
    generalize dgB l = C at *
    simp (maxSteps := 1000000) (disch := omega) only [go_sem, and_self, and_true, true_and, false_and, and_false, Nat.reduceAdd, Nat.reduceMul, Nat.reduceSub, Nat.reduceLeDiff, Nat.reduceLT, Nat.reduceGT, Nat.reduceEqDiff, Nat.reduceBEq, Int.reduceNeg, Int.reduceEq, Int.reduceLT, Int.reduceLE, Int.reduceBEq, Int.reduceToNat, Int.toNat_natCast, Int.natCast_zero, r46_C0, e1, d1, d2, i0, hc, j0, j1, j1', hset, hlen, j2, z10, hz, hz2, slaOp, rowsD, PV.isRef, List.any_cons, List.any_nil, Bool.false_or, Bool.true_or, Bool.or_true, Bool.not_false, hopt, hdl, hda, hdc, hby, h20, n20, decide_true, Nat.mul_one, Nat.zero_add, w64]
  · have hz2 : (((n / 10 : Nat) : Int) == 0) = false := by simp; omega
    have ih := ih g
    rw [decT_step n g]
    rw [show decT (n / 10) ++ [chU n] ++ l = decT (n / 10) ++ chU n :: l by simp]
    simp (maxSteps := 1000000) (disch := omega) only [go_sem, and_self, and_true, true_and, false_and, and_false, Nat.reduceAdd, Nat.reduceMul, Nat.reduceSub, Nat.reduceLeDiff, Nat.reduceLT, Nat.reduceGT, Nat.reduceEqDiff, Nat.reduceBEq, Int.reduceNeg, Int.reduceEq, Int.reduceLT, Int.reduceLE, Int.reduceBEq, Int.reduceToNat, Int.toNat_natCast, Int.natCast_zero, r46_C0, e1, d1, d2, i0, hc, j0, j1, j1', hset, hlen, j2, z10, hz2, Nat.mul_one, Nat.zero_add, w64]
    exact ih

theorem dg_loop : ∀ (k n : Nat) (l : List UInt8), n < 10 ^ (k + 1) → k + 1 + l.length ≤ 20 → n ≤ 9000000000000000000 → DgIs n l
  | 0, n, l, h, hl, hn => dg_step n l hn (by omega) fun g => absurd (by simpa using h) g
  | k + 1, n, l, h, hl, hn => dg_step n l hn (by omega) fun g => dg_loop k (n / 10) (chU n :: l) (by rw [Nat.pow_succ] at h; omega) (by simp only [List.length_cons]; omega) (by omega)
theorem digits_ok (n : Nat) (hn : n ≤ 9000000000000000000) (hp : List Ent) : F tab 46 [.d (iv n)] hp = some (.ret (.d (.str ⟨(decT n).toArray⟩)) hp) := by
  have e : (10 : Nat) ^ 20 = 100000000000000000000 := by decide
  have hL := dg_loop 19 n [] (by omega) (by simp) hn
  unfold DgIs at hL
  rw [List.append_nil] at hL
  have e0 : dgB [] = [.d (.int .u8 0), .d (.int .u8 0), .d (.int .u8 0), .d (.int .u8 0), .d (.int .u8 0), .d (.int .u8 0), .d (.int .u8 0), .d (.int .u8 0), .d (.int .u8 0), .d (.int .u8 0), .d (.int .u8 0), .d (.int .u8 0), .d (.int .u8 0), .d (.int .u8 0), .d (.int .u8 0), .d (.int .u8 0), .d (.int .u8 0), .d (.int .u8 0), .d (.int .u8 0), .d (.int .u8 0)] := rfl
  have e1 : ((20 - ([] : List UInt8).length : Nat) : Int) = 20 := rfl
  rw [e0, e1] at hL
  refine f46 rfl ?_
  simp (disch := omega) only [go_sem, and_self, and_true, true_and, false_and, and_false, Nat.reduceAdd, Nat.reduceMul, Nat.reduceSub, Nat.reduceLeDiff, Nat.reduceLT, Nat.reduceGT, Nat.reduceEqDiff, Nat.reduceBEq, Int.reduceNeg, Int.reduceEq, Int.reduceLT, Int.reduceLE, Int.reduceBEq, Int.reduceToNat, Int.toNat_natCast, Int.natCast_zero, r46_T, r46]
  rw [r46_B0_n]
  erw [hL]
  simp (disch := omega) only [go_sem, and_self, and_true, true_and, false_and, and_false, Nat.reduceAdd, Nat.reduceMul, Nat.reduceSub, Nat.reduceLeDiff, Nat.reduceLT, Nat.reduceGT, Nat.reduceEqDiff, Nat.reduceBEq, Int.reduceNeg, Int.reduceEq, Int.reduceLT, Int.reduceLE, Int.reduceBEq, Int.reduceToNat, Int.toNat_natCast, Int.natCast_zero]

/-! ### noughts -/
def noughts (n : Nat) : ByteArray := ⟨(List.replicate n (48 : UInt8)).toArray⟩
theorem rep_ev0 : evF tab 300 47 [.d (.str ⟨#[48]⟩), .d (iv ((0 : Nat) : Int))] [] = some (.ret (.d (.str (noughts 0))) []) := by kernel_rfl
theorem rep_ev1 : evF tab 300 47 [.d (.str ⟨#[48]⟩), .d (iv ((1 : Nat) : Int))] [] = some (.ret (.d (.str (noughts 1))) []) := by kernel_rfl
theorem rep_ev2 : evF tab 300 47 [.d (.str ⟨#[48]⟩), .d (iv ((2 : Nat) : Int))] [] = some (.ret (.d (.str (noughts 2))) []) := by kernel_rfl
theorem rep_ev3 : evF tab 300 47 [.d (.str ⟨#[48]⟩), .d (iv ((3 : Nat) : Int))] [] = some (.ret (.d (.str (noughts 3))) []) := by kernel_rfl
theorem rep_ev4 : evF tab 300 47 [.d (.str ⟨#[48]⟩), .d (iv ((4 : Nat) : Int))] [] = some (.ret (.d (.str (noughts 4))) []) := by kernel_rfl
theorem rep_ev5 : evF tab 300 47 [.d (.str ⟨#[48]⟩), .d (iv ((5 : Nat) : Int))] [] = some (.ret (.d (.str (noughts 5))) []) := by kernel_rfl
theorem rep_ev6 : evF tab 300 47 [.d (.str ⟨#[48]⟩), .d (iv ((6 : Nat) : Int))] [] = some (.ret (.d (.str (noughts 6))) []) := by kernel_rfl
theorem rep_ev7 : evF tab 300 47 [.d (.str ⟨#[48]⟩), .d (iv ((7 : Nat) : Int))] [] = some (.ret (.d (.str (noughts 7))) []) := by kernel_rfl
theorem rep_ev8 : evF tab 300 47 [.d (.str ⟨#[48]⟩), .d (iv ((8 : Nat) : Int))] [] = some (.ret (.d (.str (noughts 8))) []) := by kernel_rfl
theorem rep_ev9 : evF tab 300 47 [.d (.str ⟨#[48]⟩), .d (iv ((9 : Nat) : Int))] [] = some (.ret (.d (.str (noughts 9))) []) := by kernel_rfl
theorem rep_ev10 : evF tab 300 47 [.d (.str ⟨#[48]⟩), .d (iv ((10 : Nat) : Int))] [] = some (.ret (.d (.str (noughts 10))) []) := by kernel_rfl
theorem rep_ev11 : evF tab 300 47 [.d (.str ⟨#[48]⟩), .d (iv ((11 : Nat) : Int))] [] = some (.ret (.d (.str (noughts 11))) []) := by kernel_rfl
theorem rep_ev12 : evF tab 300 47 [.d (.str ⟨#[48]⟩), .d (iv ((12 : Nat) : Int))] [] = some (.ret (.d (.str (noughts 12))) []) := by kernel_rfl
theorem rep_ev13 : evF tab 300 47 [.d (.str ⟨#[48]⟩), .d (iv ((13 : Nat) : Int))] [] = some (.ret (.d (.str (noughts 13))) []) := by kernel_rfl
theorem rep_ev14 : evF tab 300 47 [.d (.str ⟨#[48]⟩), .d (iv ((14 : Nat) : Int))] [] = some (.ret (.d (.str (noughts 14))) []) := by kernel_rfl
theorem rep_ev15 : evF tab 300 47 [.d (.str ⟨#[48]⟩), .d (iv ((15 : Nat) : Int))] [] = some (.ret (.d (.str (noughts 15))) []) := by kernel_rfl
theorem rep_ev16 : evF tab 300 47 [.d (.str ⟨#[48]⟩), .d (iv ((16 : Nat) : Int))] [] = some (.ret (.d (.str (noughts 16))) []) := by kernel_rfl
theorem rep_ev17 : evF tab 300 47 [.d (.str ⟨#[48]⟩), .d (iv ((17 : Nat) : Int))] [] = some (.ret (.d (.str (noughts 17))) []) := by kernel_rfl
theorem rep_ev18 : evF tab 300 47 [.d (.str ⟨#[48]⟩), .d (iv ((18 : Nat) : Int))] [] = some (.ret (.d (.str (noughts 18))) []) := by kernel_rfl
theorem rep_ev19 : evF tab 300 47 [.d (.str ⟨#[48]⟩), .d (iv ((19 : Nat) : Int))] [] = some (.ret (.d (.str (noughts 19))) []) := by kernel_rfl
theorem rep_ev20 : evF tab 300 47 [.d (.str ⟨#[48]⟩), .d (iv ((20 : Nat) : Int))] [] = some (.ret (.d (.str (noughts 20))) []) := by kernel_rfl
theorem rep_ev21 : evF tab 300 47 [.d (.str ⟨#[48]⟩), .d (iv ((21 : Nat) : Int))] [] = some (.ret (.d (.str (noughts 21))) []) := by kernel_rfl
theorem rep_ev22 : evF tab 300 47 [.d (.str ⟨#[48]⟩), .d (iv ((22 : Nat) : Int))] [] = some (.ret (.d (.str (noughts 22))) []) := by kernel_rfl
theorem rep_ev23 : evF tab 300 47 [.d (.str ⟨#[48]⟩), .d (iv ((23 : Nat) : Int))] [] = some (.ret (.d (.str (noughts 23))) []) := by kernel_rfl
theorem rep_ev24 : evF tab 300 47 [.d (.str ⟨#[48]⟩), .d (iv ((24 : Nat) : Int))] [] = some (.ret (.d (.str (noughts 24))) []) := by kernel_rfl
theorem rep_ev25 : evF tab 300 47 [.d (.str ⟨#[48]⟩), .d (iv ((25 : Nat) : Int))] [] = some (.ret (.d (.str (noughts 25))) []) := by kernel_rfl
theorem rep_ev26 : evF tab 300 47 [.d (.str ⟨#[48]⟩), .d (iv ((26 : Nat) : Int))] [] = some (.ret (.d (.str (noughts 26))) []) := by kernel_rfl
theorem rep_ev27 : evF tab 300 47 [.d (.str ⟨#[48]⟩), .d (iv ((27 : Nat) : Int))] [] = some (.ret (.d (.str (noughts 27))) []) := by kernel_rfl
theorem rep_ev28 : evF tab 300 47 [.d (.str ⟨#[48]⟩), .d (iv ((28 : Nat) : Int))] [] = some (.ret (.d (.str (noughts 28))) []) := by kernel_rfl
theorem rep_ev29 : evF tab 300 47 [.d (.str ⟨#[48]⟩), .d (iv ((29 : Nat) : Int))] [] = some (.ret (.d (.str (noughts 29))) []) := by kernel_rfl
theorem rep_ev30 : evF tab 300 47 [.d (.str ⟨#[48]⟩), .d (iv ((30 : Nat) : Int))] [] = some (.ret (.d (.str (noughts 30))) []) := by kernel_rfl
theorem rep_ev31 : evF tab 300 47 [.d (.str ⟨#[48]⟩), .d (iv ((31 : Nat) : Int))] [] = some (.ret (.d (.str (noughts 31))) []) := by kernel_rfl
theorem rep_ev32 : evF tab 300 47 [.d (.str ⟨#[48]⟩), .d (iv ((32 : Nat) : Int))] [] = some (.ret (.d (.str (noughts 32))) []) := by kernel_rfl
theorem rep_ev33 : evF tab 300 47 [.d (.str ⟨#[48]⟩), .d (iv ((33 : Nat) : Int))] [] = some (.ret (.d (.str (noughts 33))) []) := by kernel_rfl
theorem rep_ev34 : evF tab 300 47 [.d (.str ⟨#[48]⟩), .d (iv ((34 : Nat) : Int))] [] = some (.ret (.d (.str (noughts 34))) []) := by kernel_rfl
theorem rep_ev35 : evF tab 300 47 [.d (.str ⟨#[48]⟩), .d (iv ((35 : Nat) : Int))] [] = some (.ret (.d (.str (noughts 35))) []) := by kernel_rfl
theorem rep_ev36 : evF tab 300 47 [.d (.str ⟨#[48]⟩), .d (iv ((36 : Nat) : Int))] [] = some (.ret (.d (.str (noughts 36))) []) := by kernel_rfl
theorem rep_ev37 : evF tab 300 47 [.d (.str ⟨#[48]⟩), .d (iv ((37 : Nat) : Int))] [] = some (.ret (.d (.str (noughts 37))) []) := by kernel_rfl
theorem rep_ev38 : evF tab 300 47 [.d (.str ⟨#[48]⟩), .d (iv ((38 : Nat) : Int))] [] = some (.ret (.d (.str (noughts 38))) []) := by kernel_rfl
theorem rep_ev39 : evF tab 300 47 [.d (.str ⟨#[48]⟩), .d (iv ((39 : Nat) : Int))] [] = some (.ret (.d (.str (noughts 39))) []) := by kernel_rfl
theorem rep_ev40 : evF tab 300 47 [.d (.str ⟨#[48]⟩), .d (iv ((40 : Nat) : Int))] [] = some (.ret (.d (.str (noughts 40))) []) := by kernel_rfl
theorem rep_ev (n : Nat) (h : n ≤ 40) : evF tab 300 47 [.d (.str ⟨#[48]⟩), .d (iv n)] [] = some (.ret (.d (.str (noughts n))) []) := by
  have hn : n = 0 ∨ n = 1 ∨ n = 2 ∨ n = 3 ∨ n = 4 ∨ n = 5 ∨ n = 6 ∨ n = 7 ∨ n = 8 ∨ n = 9 ∨ n = 10 ∨ n = 11 ∨ n = 12 ∨ n = 13 ∨ n = 14 ∨ n = 15 ∨ n = 16 ∨ n = 17 ∨ n = 18 ∨ n = 19 ∨ n = 20 ∨ n = 21 ∨ n = 22 ∨ n = 23 ∨ n = 24 ∨ n = 25 ∨ n = 26 ∨ n = 27 ∨ n = 28 ∨ n = 29 ∨ n = 30 ∨ n = 31 ∨ n = 32 ∨ n = 33 ∨ n = 34 ∨ n = 35 ∨ n = 36 ∨ n = 37 ∨ n = 38 ∨ n = 39 ∨ n = 40 := by omega
  rcases hn with rfl | rfl | rfl | rfl | rfl | rfl | rfl | rfl | rfl | rfl | rfl | rfl | rfl | rfl | rfl | rfl | rfl | rfl | rfl | rfl | rfl | rfl | rfl | rfl | rfl | rfl | rfl | rfl | rfl | rfl | rfl | rfl | rfl | rfl | rfl | rfl | rfl | rfl | rfl | rfl | rfl
  · exact rep_ev0
  · exact rep_ev1
  · exact rep_ev2
  · exact rep_ev3
  · exact rep_ev4
  · exact rep_ev5
  · exact rep_ev6
  · exact rep_ev7
  · exact rep_ev8
  · exact rep_ev9
  · exact rep_ev10
  · exact rep_ev11
  · exact rep_ev12
  · exact rep_ev13
  · exact rep_ev14
  · exact rep_ev15
  · exact rep_ev16
  · exact rep_ev17
  · exact rep_ev18
  · exact rep_ev19
  · exact rep_ev20
  · exact rep_ev21
  · exact rep_ev22
  · exact rep_ev23
  · exact rep_ev24
  · exact rep_ev25
  · exact rep_ev26
  · exact rep_ev27
  · exact rep_ev28
  · exact rep_ev29
  · exact rep_ev30
  · exact rep_ev31
  · exact rep_ev32
  · exact rep_ev33
  · exact rep_ev34
  · exact rep_ev35
  · exact rep_ev36
  · exact rep_ev37
  · exact rep_ev38
  · exact rep_ev39
  · exact rep_ev40
theorem rep_ok (n : Nat) (h : n ≤ 40) (hp : List Ent) : F tab 47 [.d (.str ⟨#[48]⟩), .d (iv n)] hp = some (.ret (.d (.str (noughts n))) hp) :=
  F_some.2 ⟨300, ((evF_nice (pf := pf) pf_ok 300).2 47 rfl _ _ _ _ (rep_ev n h)).2 hp⟩
end Go.Pe.T

namespace Go.Pe.T
/-! ### a number's text -/
abbrev bt (l : List UInt8) : ByteArray := ⟨l.toArray⟩
theorem bt_app (a b : List UInt8) : bt a ++ bt b = bt (a ++ b) := by
  apply ByteArray.ext; simp [bt]
theorem str_add (a b : List UInt8) (h : a.length + b.length ≤ 140737488355328) : strD .add (bt a) (bt b) = some (.str (bt (a ++ b))) := by
  have e : (bt a).size + (bt b).size = a.length + b.length := rfl
  simp only [strD, e, if_pos h, bt_app]
theorem bt_size (a : List UInt8) : (bt a).size = a.length := rfl
/-- so many of the lowest digits -/
def loT (n : Nat) : Nat → List UInt8
  | 0 => []
  | i + 1 => loT (n / 10) i ++ [chU n]
theorem loT_len (n : Nat) : ∀ i, (loT n i).length = i := by
  intro i
  induction i generalizing n with
  | zero => rfl
  | succ i ih => simp [loT, ih]
theorem loT_zero : ∀ i, loT 0 i = List.replicate i 48
  | 0 => rfl
  | i + 1 => by
    have : chU 0 = 48 := by decide
    rw [loT, Nat.zero_div, loT_zero i, this, List.replicate_succ']
theorem loT_head (n : Nat) : ∀ i, loT n (i + 1) = chU (n / 10 ^ i) :: loT n i := by
  intro i
  induction i generalizing n with
  | zero => simp [loT]
  | succ i ih =>
    rw [loT, ih (n / 10), loT, List.cons_append, Nat.div_div_eq_div_mul, Nat.pow_succ', Nat.mul_comm]
theorem chU_mod (n m : Nat) (h : n % 10 = m % 10) : chU n = chU m := by unfold chU; rw [h]
theorem loT_mod (n : Nat) : ∀ i, loT (n % 10 ^ i) i = loT n i := by
  intro i
  induction i generalizing n with
  | zero => rfl
  | succ i ih =>
    rw [loT, loT]
    have e1 : n % 10 ^ (i + 1) / 10 = n / 10 % 10 ^ i := by
      rw [Nat.pow_succ', Nat.mod_mul, Nat.add_mul_div_left _ _ (by omega), Nat.div_eq_of_lt (Nat.mod_lt _ (by omega)), Nat.zero_add]
    have e2 : n % 10 ^ (i + 1) % 10 = n % 10 := Nat.mod_mod_of_dvd _ ⟨10 ^ i, Nat.pow_succ'⟩
    rw [e1, ih, chU_mod _ _ e2]
theorem pad_dec : ∀ (i n : Nat), n < 10 ^ (i + 1) → List.replicate (i + 1 - (decT n).length) 48 ++ decT n = loT n (i + 1)
  | 0, n, h => by
    have h1 : n < 10 := by simpa using h
    rw [decT_one n h1]
    simp [loT]
  | i + 1, n, h => by
    by_cases h1 : n < 10
    · rw [decT_one n h1, loT, Nat.div_eq_of_lt h1, loT_zero]
      simp
    · rw [decT_step n h1, loT, ← pad_dec i (n / 10) (by rw [Nat.pow_succ] at h; omega)]
      simp only [List.length_append, List.length_singleton, ← List.append_assoc]
      rw [show i + 1 + 1 - ((decT (n / 10)).length + 1) = i + 1 - (decT (n / 10)).length by omega]
theorem loT_dec : ∀ n, loT n (decT n).length = decT n := by
  intro n
  induction n using Nat.strongRecOn with
  | _ n ih =>
    by_cases h : n < 10
    · rw [decT_one n h]; simp [loT]
    · rw [decT_step n h]
      simp only [List.length_append, List.length_singleton]
      rw [loT, ih (n / 10) (by omega)]

def sgnT (c : Int) : List UInt8 := if c < 0 then [45] else []
def textL (c : Int) (k : Nat) : List UInt8 := sgnT c ++ (if k = 0 then decT c.natAbs else decT (c.natAbs / 10 ^ k) ++ 46 :: loT c.natAbs k)

set_option maxHeartbeats 1000000 in
theorem text_ok (c : Int) (k : Nat) (h : numIs c k = true) (hp : List Ent) : F tab 21 [.d (numD c k)] hp = some (.ret (.d (.str (bt (textL c k)))) hp) := by
  obtain ⟨_, e0, hk, hc⟩ := numIs_inv h
  have e0 := Int.ofNat.inj e0
  subst e0
  have h1 := numIs_ok c k
  rw [h] at h1
  have h2 := pow_ok k (by omega)
  have hne : ((10 : Int) ^ k = 0) = False := by have := p10_pos k; simp; omega
  have ep : (10 : Int) ^ k = ((10 ^ k : Nat) : Int) := by simp
  have d1 : ((c.natAbs : Nat) : Int).tdiv (10 ^ k) = ((c.natAbs / 10 ^ k : Nat) : Int) := by rw [ep]; exact (Int.ofNat_tdiv _ _).symm
  have d2 : ((c.natAbs : Nat) : Int).tmod (10 ^ k) = ((c.natAbs % 10 ^ k : Nat) : Int) := by rw [ep]; exact (Int.ofNat_tmod _ _).symm
  have b1 : c.natAbs / 10 ^ k ≤ c.natAbs := Nat.div_le_self _ _
  have b2 : c.natAbs % 10 ^ k ≤ c.natAbs := Nat.mod_le _ _
  have hk00 : k = 0 → c.natAbs / 10 ^ k = c.natAbs := fun e => by subst e; simp
  have hlt0 : c.natAbs % 10 ^ k < 10 ^ k := Nat.mod_lt _ (Nat.pow_pos (by omega))
  have hlo := loT_mod c.natAbs k
  unfold textL sgnT
  generalize c.natAbs / 10 ^ k = M at *
  generalize c.natAbs % 10 ^ k = R at *
  have g1 := digits_ok M (by omega)
  have g2 := digits_ok R (by omega)
  have w1 : IntKind.i64.wrap (M : Int) = (M : Int) := w64 (by omega)
  have e16 : (10 : Nat) ^ (15 + 1) = 10000000000000000 := by decide
  have hDl := decT_len 15 M (by omega)
  have am := str_add [] (decT M) (by simp only [List.length_nil]; omega)
  have an := str_add [45] (decT M) (by simp only [List.length_singleton]; omega)
  simp only [List.nil_append, List.singleton_append] at am an
  have na : c < 0 → 0 - c = ((c.natAbs : Nat) : Int) := fun g => by omega
  have np : ¬ c < 0 → c = ((c.natAbs : Nat) : Int) := fun g => by omega
  refine f21 rfl ?_
  by_cases hk0 : k = 0
  · subst hk0
    have z : ((0 : Int) == 0) = true := rfl
    have z2 : (((0 : Nat) : Int) == 0) = true := rfl
    rw [if_pos rfl]
    have e1 := hk00 rfl
    have z00 : ((0 : Nat) : Int) = 0 := rfl
    simp only [numD, z00] at h1 h2
    by_cases g : c < 0
    · have e := na g
      rw [if_pos g]
      simp (maxSteps := 1000000) (disch := omega) only [go_sem, and_self, and_true, true_and, false_and, and_false, Nat.reduceAdd, Nat.reduceMul, Nat.reduceSub, Nat.reduceLeDiff, Nat.reduceLT, Nat.reduceGT, Nat.reduceEqDiff, Nat.reduceBEq, Int.reduceNeg, Int.reduceEq, Int.reduceLT, Int.reduceLE, Int.reduceBEq, Int.reduceToNat, Int.toNat_natCast, Int.natCast_zero, r21_T, r21, numD, h1, h2, g, e, hne, d1, w1, g1, an, z, z2, w64]
      rw [← e1]
    · have e := np g
      rw [if_neg g]
      rw [← e] at d1 d2
      simp (maxSteps := 1000000) (disch := omega) only [go_sem, and_self, and_true, true_and, false_and, and_false, Nat.reduceAdd, Nat.reduceMul, Nat.reduceSub, Nat.reduceLeDiff, Nat.reduceLT, Nat.reduceGT, Nat.reduceEqDiff, Nat.reduceBEq, Int.reduceNeg, Int.reduceEq, Int.reduceLT, Int.reduceLE, Int.reduceBEq, Int.reduceToNat, Int.toNat_natCast, Int.natCast_zero, r21_T, r21, numD, h1, h2, g, hne, d1, w1, g1, am, z, z2, w64]
      rw [← e1]
  · have z : ((k : Int) == 0) = false := by simp; omega
    rw [if_neg hk0]
    have hl : (decT R).length ≤ k := by
      obtain ⟨j, hj⟩ : ∃ j, k = j + 1 := ⟨k - 1, by omega⟩
      rw [hj] at hlt0 ⊢
      exact decT_len j _ hlt0
    have hpad : List.replicate (k - (decT R).length) 48 ++ decT R = loT c.natAbs k := by
      rw [← hlo]
      obtain ⟨j, hj⟩ : ∃ j, k = j + 1 := ⟨k - 1, by omega⟩
      rw [hj] at hlt0 ⊢
      exact pad_dec j _ hlt0
    simp only [numD] at h1
    have hs : (((bt (decT R)).size : Nat) : Int) = (((decT R).length : Nat) : Int) := rfl
    have e3 : (k : Int) - (((decT R).length : Nat) : Int) = ((k - (decT R).length : Nat) : Int) := by omega
    have hr := rep_ok (k - (decT R).length) (by omega)
    have hnn : noughts (k - (decT R).length) = bt (List.replicate (k - (decT R).length) 48) := rfl
    rw [hnn] at hr
    generalize decT R = Q at *
    generalize hZ : List.replicate (k - Q.length) (48 : UInt8) = Z at *
    have hZl : Z.length = k - Q.length := by rw [← hZ]; simp
    generalize hD : decT M = E at *
    by_cases g : c < 0
    · have e := na g
      rw [if_pos g]
      have s1 := str_add (45 :: E) [46] (by simp only [List.length_cons, List.length_nil]; omega)
      have s2 := str_add (45 :: E ++ [46]) Z (by simp only [List.length_append, List.length_cons, List.length_nil]; omega)
      have s3 := str_add (45 :: E ++ [46] ++ Z) Q (by simp only [List.length_append, List.length_cons, List.length_nil]; omega)
      simp only [List.cons_append] at s1 s2 s3
      simp (maxSteps := 1000000) (disch := omega) only [go_sem, and_self, and_true, true_and, false_and, and_false, Nat.reduceAdd, Nat.reduceMul, Nat.reduceSub, Nat.reduceLeDiff, Nat.reduceLT, Nat.reduceGT, Nat.reduceEqDiff, Nat.reduceBEq, Int.reduceNeg, Int.reduceEq, Int.reduceLT, Int.reduceLE, Int.reduceBEq, Int.reduceToNat, Int.toNat_natCast, Int.natCast_zero, r21_T, r21, numD, h1, h2, g, e, hne, d1, d2, w1, g1, g2, an, s1, s2, s3, z, hs, List.size_toArray, e3, hr, w64]
      rw [← hpad]; simp
    · have e := np g
      rw [if_neg g]
      rw [← e] at d1 d2
      have s1 := str_add E [46] (by simp only [List.length_cons, List.length_nil]; omega)
      have s2 := str_add (E ++ [46]) Z (by simp only [List.length_append, List.length_cons, List.length_nil]; omega)
      have s3 := str_add (E ++ [46] ++ Z) Q (by simp only [List.length_append, List.length_cons, List.length_nil]; omega)
      simp (maxSteps := 1000000) (disch := omega) only [go_sem, and_self, and_true, true_and, false_and, and_false, Nat.reduceAdd, Nat.reduceMul, Nat.reduceSub, Nat.reduceLeDiff, Nat.reduceLT, Nat.reduceGT, Nat.reduceEqDiff, Nat.reduceBEq, Int.reduceNeg, Int.reduceEq, Int.reduceLT, Int.reduceLE, Int.reduceBEq, Int.reduceToNat, Int.toNat_natCast, Int.natCast_zero, r21_T, r21, numD, h1, h2, g, hne, d1, d2, w1, g1, g2, am, s1, s2, s3, z, hs, List.size_toArray, e3, hr, w64]
      rw [← hpad]; simp
end Go.Pe.T

namespace Go.Pe.T
/-! ### texts as lists of bytes -/
theorem bt_get (L : List UInt8) (i : Nat) : (bt L)[i]? = L[i]? := by
  show (if h : i < (bt L).size then some (bt L)[i] else none) = _
  by_cases h : i < L.length
  · rw [dif_pos (show i < (bt L).size from h), List.getElem?_eq_getElem h]
    rfl
  · rw [dif_neg (show ¬ i < (bt L).size from h), List.getElem?_eq_none (by omega)]
theorem bt_ext (L : List UInt8) (i j : Nat) : (bt L).extract i j = bt ((L.take j).drop i) := by
  apply ByteArray.ext
  rw [ByteArray.data_extract]
  simp [bt, List.extract_toArray, List.extract_eq_take_drop, List.drop_take]

def isDg (b : UInt8) : Bool := decide (48 ≤ b.toNat) && decide (b.toNat ≤ 57)
theorem isDg_iff {b : UInt8} : isDg b = true ↔ 48 ≤ b.toNat ∧ b.toNat ≤ 57 := by simp [isDg]

def RowIs (L : List UInt8) (i : Nat) : Prop :=
  V (F tab) r80_B0 (r80_S0 (.d (.str (bt L))) (.d (iv i)) []) = some (.norm, r80_E0 (.d (.str (bt L))) (.d (iv (i + ((L.drop i).takeWhile isDg).length : Nat))) [])
theorem row_end (L : List UInt8) : RowIs L L.length := by
  have h1 : ((L.length : Int) < (L.length : Int)) = False := eq_false (by omega)
  unfold RowIs
  rw [List.drop_of_length_le (Nat.le_refl _), r80_B0_eq]
  simp (disch := omega) only [go_sem, and_self, and_true, true_and, false_and, and_false, Nat.reduceAdd, Nat.reduceMul, Nat.reduceSub, Nat.reduceLeDiff, Nat.reduceLT, Nat.reduceGT, Nat.reduceEqDiff, Nat.reduceBEq, Int.reduceNeg, Int.reduceEq, Int.reduceLT, Int.reduceLE, Int.reduceBEq, Int.reduceToNat, Int.toNat_natCast, Int.natCast_zero, r80_C0, h1, ByteArray.size, List.size_toArray, List.takeWhile_nil, List.length_nil, Nat.add_zero]
theorem row_step (L : List UInt8) (hl : L.length ≤ 100000) (i : Nat) (hi : i < L.length) (ih : RowIs L (i + 1)) : RowIs L i := by
  have h1 : ((i : Int) < (L.length : Int)) = True := eq_true (by omega)
  have i0 : (0 ≤ (i : Int)) = True := eq_true (by omega)
  have hx : L[i]? = some L[i] := List.getElem?_eq_getElem hi
  have hd : L.drop i = L[i] :: L.drop (i + 1) := List.drop_eq_getElem_cons hi
  have hg := bt_get L i
  have e1 : (i : Int) + 1 = ((i + 1 : Nat) : Int) := rfl
  unfold RowIs at ih ⊢
  rw [hd, List.takeWhile_cons]
  rw [hx] at hg
  generalize L[i] = b at *
  rw [r80_B0_eq]
  by_cases g1 : 48 ≤ b.toNat
  · have k1 : ((b.toNat : Int) ≥ 48) = True := eq_true (by omega)
    by_cases g2 : b.toNat ≤ 57
    · have k2 : ((b.toNat : Int) ≤ 57) = True := eq_true (by omega)
      rw [isDg_iff.2 ⟨g1, g2⟩, if_pos rfl, List.length_cons, show i + (((L.drop (i + 1)).takeWhile isDg).length + 1) = i + 1 + ((L.drop (i + 1)).takeWhile isDg).length by omega]
      simp (disch := omega) only [go_sem, and_self, and_true, true_and, false_and, and_false, Nat.reduceAdd, Nat.reduceMul, Nat.reduceSub, Nat.reduceLeDiff, Nat.reduceLT, Nat.reduceGT, Nat.reduceEqDiff, Nat.reduceBEq, Int.reduceNeg, Int.reduceEq, Int.reduceLT, Int.reduceLE, Int.reduceBEq, Int.reduceToNat, Int.toNat_natCast, Int.natCast_zero, r80_C0, h1, i0, hg, k1, k2, e1, ByteArray.size, List.size_toArray, w64]
      exact ih
    · have k2 : ((b.toNat : Int) ≤ 57) = False := eq_false (by omega)
      have hn : isDg b = false := by simp [isDg, g2]
      rw [hn, if_neg (by simp)]
      simp (disch := omega) only [go_sem, and_self, and_true, true_and, false_and, and_false, Nat.reduceAdd, Nat.reduceMul, Nat.reduceSub, Nat.reduceLeDiff, Nat.reduceLT, Nat.reduceGT, Nat.reduceEqDiff, Nat.reduceBEq, Int.reduceNeg, Int.reduceEq, Int.reduceLT, Int.reduceLE, Int.reduceBEq, Int.reduceToNat, Int.toNat_natCast, Int.natCast_zero, r80_C0, h1, i0, hg, k1, k2, ByteArray.size, List.size_toArray, List.length_nil, Nat.add_zero]
  · have k1 : ((b.toNat : Int) ≥ 48) = False := eq_false (by omega)
    have hn : isDg b = false := by simp [isDg, g1]
    rw [hn, if_neg (by simp)]
    simp (disch := omega) only [go_sem, and_self, and_true, true_and, false_and, and_false, Nat.reduceAdd, Nat.reduceMul, Nat.reduceSub, Nat.reduceLeDiff, Nat.reduceLT, Nat.reduceGT, Nat.reduceEqDiff, Nat.reduceBEq, Int.reduceNeg, Int.reduceEq, Int.reduceLT, Int.reduceLE, Int.reduceBEq, Int.reduceToNat, Int.toNat_natCast, Int.natCast_zero, r80_C0, h1, i0, hg, k1, ByteArray.size, List.size_toArray, List.length_nil, Nat.add_zero]
theorem row_loop (L : List UInt8) (hl : L.length ≤ 100000) : ∀ (d i : Nat), i + d = L.length → RowIs L i
  | 0, i, h => by obtain rfl : i = L.length := by omega
                  exact row_end L
  | d + 1, i, h => row_step L hl i (by omega) (row_loop L hl d (i + 1) (by omega))
theorem take_app {L a b : List UInt8} (h : a ++ b = L) : L.take a.length = a ∧ L.drop a.length = b := by
  subst h; exact ⟨List.take_left .., List.drop_left ..⟩
theorem take_tw (L : List UInt8) : L.take (L.takeWhile isDg).length = L.takeWhile isDg ∧ L.drop (L.takeWhile isDg).length = L.dropWhile isDg :=
  take_app (List.takeWhile_append_dropWhile (p := isDg) (l := L))
theorem tw_le (L : List UInt8) : (L.takeWhile isDg).length ≤ L.length := by
  have h := congrArg List.length (List.takeWhile_append_dropWhile (p := isDg) (l := L))
  rw [List.length_append] at h
  omega
theorem row_ok (L : List UInt8) (hl : L.length ≤ 100000) (hp : List Ent) : F tab 80 [.d (.str (bt L))] hp = some (.ret (.tup [.d (.str (bt (L.takeWhile isDg))), .d (.str (bt (L.dropWhile isDg)))]) hp) := by
  have hL := row_loop L hl L.length 0 (by omega)
  unfold RowIs at hL
  rw [List.drop_zero, Nat.zero_add] at hL
  obtain ⟨t1, t2⟩ := take_tw L
  have x1 := bt_ext L 0 (L.takeWhile isDg).length
  have x2 := bt_ext L (L.takeWhile isDg).length L.length
  rw [List.drop_zero, t1] at x1
  rw [List.take_length, t2] at x2
  have hle := tw_le L
  have b0 : (0 ≤ (((L.takeWhile isDg).length : Nat) : Int)) = True := eq_true (by omega)
  have b1 : ((((L.takeWhile isDg).length : Nat) : Int) ≤ (L.length : Int)) = True := eq_true (by omega)
  have b2 : ((L.length : Int) ≤ (L.length : Int)) = True := eq_true (by omega)
  have z : ((0 : Nat) : Int) = 0 := rfl
  have t0 : (0 : Int).toNat = 0 := rfl
  rw [z] at hL
  refine f80 rfl ?_
  simp (disch := omega) only [go_sem, and_self, and_true, true_and, false_and, and_false, Nat.reduceAdd, Nat.reduceMul, Nat.reduceSub, Nat.reduceLeDiff, Nat.reduceLT, Nat.reduceGT, Nat.reduceEqDiff, Nat.reduceBEq, Int.reduceNeg, Int.reduceEq, Int.reduceLT, Int.reduceLE, Int.reduceBEq, Int.reduceToNat, Int.toNat_natCast, Int.natCast_zero, r80_T, r80]
  rw [r80_B0_n]
  erw [hL]
  simp (disch := omega) only [go_sem, and_self, and_true, true_and, false_and, and_false, Nat.reduceAdd, Nat.reduceMul, Nat.reduceSub, Nat.reduceLeDiff, Nat.reduceLT, Nat.reduceGT, Nat.reduceEqDiff, Nat.reduceBEq, Int.reduceNeg, Int.reduceEq, Int.reduceLT, Int.reduceLE, Int.reduceBEq, Int.reduceToNat, Int.toNat_natCast, Int.natCast_zero, b0, b1, b2, x1, x2, t0, ByteArray.size, List.size_toArray, decide_true]
end Go.Pe.T

namespace Go.Pe.T
/-! ### a power off a text -/
theorem bt_nil (L : List UInt8) : ((bt L).toList == (⟨#[]⟩ : ByteArray).toList) = L.isEmpty := by
  rw [ByteArray.toList_eq, ByteArray.toList_eq]
  cases L <;> rfl
def isE (b : UInt8) : Bool := b.toNat == 69 || b.toNat == 101
theorem or32_all : ∀ n : Fin 256, ∃ m : Int, bitsD .or .u8 (n.val : Int) 32 = some (.int .u8 m) ∧ (m == 101) = (n.val == 69 || n.val == 101) := by
  intro n
  refine ⟨_, rfl, ?_⟩
  revert n
  decide +kernel
theorem or32 (b : UInt8) : ∃ m : Int, bitsD .or .u8 (b.toNat : Int) 32 = some (.int .u8 m) ∧ (m == 101) = isE b :=
  or32_all ⟨b.toNat, b.toNat_lt⟩
def DgL (d : List UInt8) : Prop := ∀ b ∈ d, isDg b = true
theorem tw_dgl : ∀ L : List UInt8, DgL (L.takeWhile isDg)
  | [] => fun b hb => by simp at hb
  | a :: L => fun b hb => by
    rw [List.takeWhile_cons] at hb
    by_cases h : isDg a = true
    · rw [if_pos h] at hb
      rcases List.mem_cons.1 hb with rfl | hb
      · exact h
      · exact tw_dgl L b hb
    · rw [if_neg h] at hb
      simp at hb

def capN : List UInt8 → Nat → Nat
  | [], n => n
  | b :: r, n => capN r (min (10 * n + (b.toNat - 48)) 1000000)
theorem capN_le : ∀ (d : List UInt8) (n : Nat), n ≤ 1000000 → capN d n ≤ 1000000
  | [], n, h => h
  | b :: r, n, h => capN_le r _ (Nat.min_le_right _ _)

def PwIs (sg : Int) (d : List UInt8) (rest : D) (n i : Nat) : Prop :=
  V (F tab) r81_B0 (r81_S0 (.d (iv sg)) (.d (.str (bt d))) (.d rest) (.d (iv n)) (.d (iv d.length)) (.d (iv i)) []) = some (.norm, r81_E0 (.d (iv sg)) (.d (.str (bt d))) (.d rest) (.d (iv (capN (d.drop i) n : Nat))) [])
theorem pw_end (sg : Int) (d : List UInt8) (rest : D) (n : Nat) : PwIs sg d rest n d.length := by
  have h1 : ((d.length : Int) < (d.length : Int)) = False := eq_false (by omega)
  unfold PwIs
  rw [List.drop_of_length_le (Nat.le_refl _), r81_B0_eq]
  simp (disch := omega) only [go_sem, and_self, and_true, true_and, false_and, and_false, Nat.reduceAdd, Nat.reduceMul, Nat.reduceSub, Nat.reduceLeDiff, Nat.reduceLT, Nat.reduceGT, Nat.reduceEqDiff, Nat.reduceBEq, Int.reduceNeg, Int.reduceEq, Int.reduceLT, Int.reduceLE, Int.reduceBEq, Int.reduceToNat, Int.toNat_natCast, Int.natCast_zero, strD, r81_C0, r81_K0, h1, capN]
theorem pw_step (sg : Int) (d : List UInt8) (hd : DgL d) (hl : d.length ≤ 100000) (rest : D) (n i : Nat) (hn : n ≤ 1000000) (hi : i < d.length) (ih : ∀ m, m ≤ 1000000 → PwIs sg d rest m (i + 1)) : PwIs sg d rest n i := by
  have h1 : ((i : Int) < (d.length : Int)) = True := eq_true (by omega)
  have i0 : (0 ≤ (i : Int)) = True := eq_true (by omega)
  have hx : d[i]? = some d[i] := List.getElem?_eq_getElem hi
  have hdr : d.drop i = d[i] :: d.drop (i + 1) := List.drop_eq_getElem_cons hi
  have hdg := hd d[i] (List.getElem_mem _)
  have hg := bt_get d i
  have e1 : (i : Int) + 1 = ((i + 1 : Nat) : Int) := rfl
  have ih' := ih (min (10 * n + (d[i].toNat - 48)) 1000000) (Nat.min_le_right _ _)
  rw [hx] at hg
  unfold PwIs at ih' ⊢
  rw [hdr, capN]
  generalize d[i] = b at *
  obtain ⟨g1, g2⟩ := isDg_iff.1 hdg
  rw [r81_B0_eq]
  by_cases hc : 1000000 < 10 * n + (b.toNat - 48)
  · have h2 : ((1000000 : Int) < 10 * (n : Int) + ((b.toNat : Int) - 48)) = True := eq_true (by omega)
    rw [Nat.min_eq_right (by omega)] at ih' ⊢
    have z : ((1000000 : Nat) : Int) = 1000000 := rfl
    rw [z] at ih'
    simp (disch := omega) only [go_sem, and_self, and_true, true_and, false_and, and_false, Nat.reduceAdd, Nat.reduceMul, Nat.reduceSub, Nat.reduceLeDiff, Nat.reduceLT, Nat.reduceGT, Nat.reduceEqDiff, Nat.reduceBEq, Int.reduceNeg, Int.reduceEq, Int.reduceLT, Int.reduceLE, Int.reduceBEq, Int.reduceToNat, Int.toNat_natCast, Int.natCast_zero, strD, r81_C0, r81_K0, h1, i0, hg, h2, e1, ByteArray.size, List.size_toArray, w64, wu8]
    exact ih'
  · have h2 : ((1000000 : Int) < 10 * (n : Int) + ((b.toNat : Int) - 48)) = False := eq_false (by omega)
    rw [Nat.min_eq_left (by omega)] at ih' ⊢
    have z : ((10 * n + (b.toNat - 48) : Nat) : Int) = 10 * (n : Int) + ((b.toNat : Int) - 48) := by omega
    rw [z] at ih'
    simp (disch := omega) only [go_sem, and_self, and_true, true_and, false_and, and_false, Nat.reduceAdd, Nat.reduceMul, Nat.reduceSub, Nat.reduceLeDiff, Nat.reduceLT, Nat.reduceGT, Nat.reduceEqDiff, Nat.reduceBEq, Int.reduceNeg, Int.reduceEq, Int.reduceLT, Int.reduceLE, Int.reduceBEq, Int.reduceToNat, Int.toNat_natCast, Int.natCast_zero, strD, r81_C0, r81_K0, h1, i0, hg, h2, e1, ByteArray.size, List.size_toArray, w64, wu8]
    exact ih'
theorem pw_loop (sg : Int) (d : List UInt8) (hd : DgL d) (hl : d.length ≤ 100000) (rest : D) : ∀ (k i n : Nat), i + k = d.length → n ≤ 1000000 → PwIs sg d rest n i
  | 0, i, n, h, hn => by obtain rfl : i = d.length := by omega
                         exact pw_end sg d rest n
  | k + 1, i, n, h, hn => pw_step sg d hd hl rest n i hn (by omega) fun m hm => pw_loop sg d hd hl rest k (i + 1) m (by omega) hm

/-- a sign off a text -/
def sgnP : List UInt8 → Int × List UInt8
  | [] => (1, [])
  | c :: t => if c.toNat = 43 then (1, t) else if c.toNat = 45 then (-1, t) else (1, c :: t)
def powP : List UInt8 → Int × List UInt8 × Bool
  | [] => (0, [], true)
  | c :: r => if isE c then ((sgnP r).1 * capN ((sgnP r).2.takeWhile isDg) 0, (sgnP r).2.dropWhile isDg, !((sgnP r).2.takeWhile isDg).isEmpty) else (0, c :: r, true)
theorem sgnP_len (L : List UInt8) : (sgnP L).2.length ≤ L.length := by
  cases L with
  | nil => exact Nat.le_refl _
  | cons c t =>
    simp only [sgnP]
    split
    · simp
    · split <;> simp
theorem sgnP_one (L : List UInt8) : (sgnP L).1 = 1 ∨ (sgnP L).1 = -1 := by
  cases L with
  | nil => exact .inl rfl
  | cons c t =>
    simp only [sgnP]
    split
    · exact .inl rfl
    · split
      · exact .inr rfl
      · exact .inl rfl

set_option maxHeartbeats 1000000 in
theorem pow_tail (L : List UInt8) (hl : L.length ≤ 100000) (sg : Int) (hsg : sg = 1 ∨ sg = -1) :
    V (F tab) (r81_K2 ()) (r81_J2 (.d (.str (bt L))) (.d (iv sg)) []) = some (.ret, r81_R (.d (iv (sg * (capN (L.takeWhile isDg) 0 : Nat)))) (.d (.str (bt (L.dropWhile isDg)))) (.d (.bool (!(L.takeWhile isDg).isEmpty))) []) := by
  have hr := row_ok L hl []
  have hll := tw_le L
  have hL := pw_loop sg (L.takeWhile isDg) (tw_dgl L) (by omega) (.str (bt (L.dropWhile isDg))) (L.takeWhile isDg).length 0 0 (by omega) (by omega)
  have hc := capN_le (L.takeWhile isDg) 0 (by omega)
  unfold PwIs at hL
  have z : ((0 : Nat) : Int) = 0 := rfl
  have hs := bt_size (L.takeWhile isDg)
  have hn := bt_nil (L.takeWhile isDg)
  rw [List.drop_zero, z] at hL
  have hb : -1000000 ≤ sg * ((capN (L.takeWhile isDg) 0 : Nat) : Int) ∧ sg * ((capN (L.takeWhile isDg) 0 : Nat) : Int) ≤ 1000000 := by
    rcases hsg with rfl | rfl <;> omega
  generalize capN (L.takeWhile isDg) 0 = n at *
  generalize L.takeWhile isDg = D at *
  generalize L.dropWhile isDg = R at *
  simp (disch := omega) only [go_sem, and_self, and_true, true_and, false_and, and_false, Nat.reduceAdd, Nat.reduceMul, Nat.reduceSub, Nat.reduceLeDiff, Nat.reduceLT, Nat.reduceGT, Nat.reduceEqDiff, Nat.reduceBEq, Int.reduceNeg, Int.reduceEq, Int.reduceLT, Int.reduceLE, Int.reduceBEq, Int.reduceToNat, Int.toNat_natCast, Int.natCast_zero, strD, r81_K2, hr, hs]
  rw [r81_B0_n]
  erw [hL]
  simp (disch := omega) only [go_sem, and_self, and_true, true_and, false_and, and_false, Nat.reduceAdd, Nat.reduceMul, Nat.reduceSub, Nat.reduceLeDiff, Nat.reduceLT, Nat.reduceGT, Nat.reduceEqDiff, Nat.reduceBEq, Int.reduceNeg, Int.reduceEq, Int.reduceLT, Int.reduceLE, Int.reduceBEq, Int.reduceToNat, Int.toNat_natCast, Int.natCast_zero, strD, r81_K1, hn, w64]

theorem bt_cut1 (c : UInt8) (L : List UInt8) : (bt (c :: L)).extract 1 (L.length + 1) = bt L := by
  rw [bt_ext, List.take_of_length_le (by simp)]
  rfl
theorem bt_zero (c : UInt8) (L : List UInt8) : (bt (c :: L))[0]? = some c := by rw [bt_get]; rfl
set_option maxHeartbeats 1000000 in
theorem pow_sign (c0 : UInt8) (L : List UInt8) (hl : L.length ≤ 100000) :
    V (F tab) (r81_K4 ()) (r81_J4 (.d (.str (bt (c0 :: L)))) []) = some (.ret, r81_R (.d (iv ((sgnP L).1 * (capN ((sgnP L).2.takeWhile isDg) 0 : Nat)))) (.d (.str (bt ((sgnP L).2.dropWhile isDg)))) (.d (.bool (!((sgnP L).2.takeWhile isDg).isEmpty))) []) := by
  have ht := pow_tail (sgnP L).2 (by have := sgnP_len L; omega) (sgnP L).1 (sgnP_one L)
  have hs0 := bt_size (c0 :: L)
  have hc0 := bt_cut1 c0 L
  have b0 : (0 ≤ (1 : Int)) = True := eq_true (by omega)
  have b1 : (1 ≤ ((L.length + 1 : Nat) : Int)) = True := eq_true (by omega)
  have b2 : (((L.length + 1 : Nat) : Int) ≤ ((L.length + 1 : Nat) : Int)) = True := eq_true (by omega)
  have i0 : (0 ≤ (0 : Int)) = True := eq_true (by omega)
  rw [List.length_cons] at hs0
  have hn := bt_nil L
  cases L with
  | nil =>
    rw [show sgnP [] = (1, []) from rfl] at *
    have k1 : (1 ≤ ((1 : Nat) : Int)) = True := eq_true (by omega)
    have k2 : (((1 : Nat) : Int) ≤ ((1 : Nat) : Int)) = True := eq_true (by omega)
    have hc1 : (bt [c0]).extract 1 1 = bt [] := hc0
    have hs1 : (bt [c0]).size = 1 := rfl
    simp (disch := omega) only [go_sem, and_self, and_true, true_and, false_and, and_false, Nat.reduceAdd, Nat.reduceMul, Nat.reduceSub, Nat.reduceLeDiff, Nat.reduceLT, Nat.reduceGT, Nat.reduceEqDiff, Nat.reduceBEq, Int.reduceNeg, Int.reduceEq, Int.reduceLT, Int.reduceLE, Int.reduceBEq, Int.reduceToNat, Int.toNat_natCast, Int.natCast_zero, strD, r81_K4, hs1, hc1, b0, k1, k2, hn, decide_true, List.isEmpty_nil]
    exact ht
  | cons c t =>
    have hz := bt_zero c t
    have hs := bt_size (c :: t)
    have hct := bt_cut1 c t
    have b3 : (1 ≤ ((t.length + 1 : Nat) : Int)) = True := eq_true (by omega)
    have b4 : (((t.length + 1 : Nat) : Int) ≤ ((t.length + 1 : Nat) : Int)) = True := eq_true (by omega)
    rw [List.length_cons] at hs
    simp only [List.length_cons] at hs0 hc0 b1 b2
    by_cases h1 : c.toNat = 43
    · have e : sgnP (c :: t) = (1, t) := by simp only [sgnP, if_pos h1]
      have k1 : ((c.toNat : Int) == 43) = true := by simp; omega
      have k2 : ((c.toNat : Int) == 45) = false := by simp; omega
      rw [e] at ht ⊢
      simp (disch := omega) only [go_sem, and_self, and_true, true_and, false_and, and_false, Nat.reduceAdd, Nat.reduceMul, Nat.reduceSub, Nat.reduceLeDiff, Nat.reduceLT, Nat.reduceGT, Nat.reduceEqDiff, Nat.reduceBEq, Int.reduceNeg, Int.reduceEq, Int.reduceLT, Int.reduceLE, Int.reduceBEq, Int.reduceToNat, Int.toNat_natCast, Int.natCast_zero, strD, r81_K4, hs0, hc0, hs, hct, hz, b0, b1, b2, b3, b4, i0, k1, k2, hn, decide_true, List.isEmpty_cons]
      exact ht
    · have k1 : ((c.toNat : Int) == 43) = false := by simp; omega
      by_cases h2 : c.toNat = 45
      · have e : sgnP (c :: t) = (-1, t) := by simp only [sgnP, if_neg h1, if_pos h2]
        have k2 : ((c.toNat : Int) == 45) = true := by simp; omega
        rw [e] at ht ⊢
        simp (disch := omega) only [go_sem, and_self, and_true, true_and, false_and, and_false, Nat.reduceAdd, Nat.reduceMul, Nat.reduceSub, Nat.reduceLeDiff, Nat.reduceLT, Nat.reduceGT, Nat.reduceEqDiff, Nat.reduceBEq, Int.reduceNeg, Int.reduceEq, Int.reduceLT, Int.reduceLE, Int.reduceBEq, Int.reduceToNat, Int.toNat_natCast, Int.natCast_zero, strD, r81_K4, hs0, hc0, hs, hct, hz, b0, b1, b2, b3, b4, i0, k1, k2, hn, decide_true, List.isEmpty_cons]
        exact ht
      · have e : sgnP (c :: t) = (1, c :: t) := by simp only [sgnP, if_neg h1, if_neg h2]
        have k2 : ((c.toNat : Int) == 45) = false := by simp; omega
        rw [e] at ht ⊢
        simp (disch := omega) only [go_sem, and_self, and_true, true_and, false_and, and_false, Nat.reduceAdd, Nat.reduceMul, Nat.reduceSub, Nat.reduceLeDiff, Nat.reduceLT, Nat.reduceGT, Nat.reduceEqDiff, Nat.reduceBEq, Int.reduceNeg, Int.reduceEq, Int.reduceLT, Int.reduceLE, Int.reduceBEq, Int.reduceToNat, Int.toNat_natCast, Int.natCast_zero, strD, r81_K4, hs0, hc0, hs, hct, hz, b0, b1, b2, b3, b4, i0, k1, k2, hn, decide_true, List.isEmpty_cons]
        exact ht

theorem power_ok (L : List UInt8) (hl : L.length ≤ 100000) (hp : List Ent) :
    F tab 81 [.d (.str (bt L))] hp = some (.ret (.tup [.d (iv (powP L).1), .d (.str (bt (powP L).2.1)), .d (.bool (powP L).2.2)]) hp) := by
  have hn := bt_nil L
  refine f81 rfl ?_
  cases L with
  | nil =>
    simp (disch := omega) only [go_sem, and_self, and_true, true_and, false_and, and_false, Nat.reduceAdd, Nat.reduceMul, Nat.reduceSub, Nat.reduceLeDiff, Nat.reduceLT, Nat.reduceGT, Nat.reduceEqDiff, Nat.reduceBEq, Int.reduceNeg, Int.reduceEq, Int.reduceLT, Int.reduceLE, Int.reduceBEq, Int.reduceToNat, Int.toNat_natCast, Int.natCast_zero, strD, r81_T, r81, hn, List.isEmpty_nil, powP]
  | cons c r =>
    have hz := bt_zero c r
    have i0 : (0 ≤ (0 : Int)) = True := eq_true (by omega)
    obtain ⟨m, o1, o2⟩ := or32 c
    simp only [List.length_cons] at hl
    have hs := pow_sign c r (by omega)
    rw [powP]
    rcases Bool.eq_false_or_eq_true (isE c) with g | g
    · rw [g] at o2
      have k : (m != 101) = false := by simp only [bne, o2, Bool.not_true]
      rw [g, if_pos rfl]
      simp (disch := omega) only [go_sem, and_self, and_true, true_and, false_and, and_false, Nat.reduceAdd, Nat.reduceMul, Nat.reduceSub, Nat.reduceLeDiff, Nat.reduceLT, Nat.reduceGT, Nat.reduceEqDiff, Nat.reduceBEq, Int.reduceNeg, Int.reduceEq, Int.reduceLT, Int.reduceLE, Int.reduceBEq, Int.reduceToNat, Int.toNat_natCast, Int.natCast_zero, strD, r81_T, r81, hn, hz, i0, o1, k, List.isEmpty_cons]
      erw [hs]
      simp (disch := omega) only [go_sem, and_self, and_true, true_and, false_and, and_false, Nat.reduceAdd, Nat.reduceMul, Nat.reduceSub, Nat.reduceLeDiff, Nat.reduceLT, Nat.reduceGT, Nat.reduceEqDiff, Nat.reduceBEq, Int.reduceNeg, Int.reduceEq, Int.reduceLT, Int.reduceLE, Int.reduceBEq, Int.reduceToNat, Int.toNat_natCast, Int.natCast_zero]
    · rw [g] at o2
      have k : (m != 101) = true := by simp only [bne, o2, Bool.not_false]
      rw [g, if_neg (by simp)]
      simp (disch := omega) only [go_sem, and_self, and_true, true_and, false_and, and_false, Nat.reduceAdd, Nat.reduceMul, Nat.reduceSub, Nat.reduceLeDiff, Nat.reduceLT, Nat.reduceGT, Nat.reduceEqDiff, Nat.reduceBEq, Int.reduceNeg, Int.reduceEq, Int.reduceLT, Int.reduceLE, Int.reduceBEq, Int.reduceToNat, Int.toNat_natCast, Int.natCast_zero, strD, r81_T, r81, hn, hz, i0, o1, k, List.isEmpty_cons]
end Go.Pe.T

namespace Go.Pe.T
/-! ### the parts of a number's text; noughts off both ends -/
def noP : List UInt8 × List UInt8 × Int × Bool := ([], [], 0, false)
def finP (A B R : List UInt8) : List UInt8 × List UInt8 × Int × Bool := (A, B, (powP R).1, (powP R).2.2 && (powP R).2.1.isEmpty)
def fracP (A : List UInt8) : List UInt8 → List UInt8 × List UInt8 × Int × Bool
  | [] => finP A [] []
  | c :: r => if c.toNat = 46 then (if (r.takeWhile isDg).isEmpty then noP else finP A (r.takeWhile isDg) (r.dropWhile isDg)) else finP A [] (c :: r)
def lead0 (A : List UInt8) : Bool := A.isEmpty || (decide (A.length > 1) && (A.headD 0).toNat == 48)
def partsP (L : List UInt8) : List UInt8 × List UInt8 × Int × Bool :=
  if lead0 (L.takeWhile isDg) then noP else fracP (L.takeWhile isDg) (L.dropWhile isDg)
theorem dw_le (L : List UInt8) : (L.dropWhile isDg).length ≤ L.length := by
  have h := congrArg List.length (List.takeWhile_append_dropWhile (p := isDg) (l := L))
  rw [List.length_append] at h
  omega
theorem parts_fin (A B R : List UInt8) (hl : R.length ≤ 100000) :
    V (F tab) (r49_K2 ()) (r49_J2 (.d (.str (bt R))) (.d (.str (bt A))) (.d (.str (bt B))) []) =
      some (.ret, r49_R (.d (.str (bt (finP A B R).1))) (.d (.str (bt (finP A B R).2.1))) (.d (iv (finP A B R).2.2.1)) (.d (.bool (finP A B R).2.2.2)) []) := by
  have hp := power_ok R hl []
  have hn := bt_nil (powP R).2.1
  unfold finP
  generalize powP R = p at *
  obtain ⟨e, q, ok⟩ := p
  simp only at hp hn ⊢
  rcases Bool.eq_false_or_eq_true ok with g | g
  · subst g
    simp (disch := omega) only [go_sem, and_self, and_true, true_and, false_and, and_false, Nat.reduceAdd, Nat.reduceMul, Nat.reduceSub, Nat.reduceLeDiff, Nat.reduceLT, Nat.reduceGT, Nat.reduceEqDiff, Nat.reduceBEq, Int.reduceNeg, Int.reduceEq, Int.reduceLT, Int.reduceLE, Int.reduceBEq, Int.reduceToNat, Int.toNat_natCast, Int.natCast_zero, strD, r49_K2, hp, hn]
  · subst g
    simp (disch := omega) only [go_sem, and_self, and_true, true_and, false_and, and_false, Nat.reduceAdd, Nat.reduceMul, Nat.reduceSub, Nat.reduceLeDiff, Nat.reduceLT, Nat.reduceGT, Nat.reduceEqDiff, Nat.reduceBEq, Int.reduceNeg, Int.reduceEq, Int.reduceLT, Int.reduceLE, Int.reduceBEq, Int.reduceToNat, Int.toNat_natCast, Int.natCast_zero, strD, r49_K2, hp, hn]

set_option maxHeartbeats 1000000 in
theorem parts_frac (A R : List UInt8) (hl : R.length ≤ 100000) :
    V (F tab) (r49_K4 ()) (r49_J4 (.d (.str (bt R))) (.d (.str (bt A))) []) =
      some (.ret, r49_R (.d (.str (bt (fracP A R).1))) (.d (.str (bt (fracP A R).2.1))) (.d (iv (fracP A R).2.2.1)) (.d (.bool (fracP A R).2.2.2)) []) := by
  have hn := bt_nil R
  cases R with
  | nil =>
    have hf := parts_fin A [] [] (by simp)
    simp (disch := omega) only [go_sem, and_self, and_true, true_and, false_and, and_false, Nat.reduceAdd, Nat.reduceMul, Nat.reduceSub, Nat.reduceLeDiff, Nat.reduceLT, Nat.reduceGT, Nat.reduceEqDiff, Nat.reduceBEq, Int.reduceNeg, Int.reduceEq, Int.reduceLT, Int.reduceLE, Int.reduceBEq, Int.reduceToNat, Int.toNat_natCast, Int.natCast_zero, strD, r49_K4, hn, List.isEmpty_nil, fracP]
    exact hf
  | cons c r =>
    simp only [List.length_cons] at hl
    have hz := bt_zero c r
    have hs := bt_size (c :: r)
    have hct := bt_cut1 c r
    have i0 : (0 ≤ (0 : Int)) = True := eq_true (by omega)
    have b0 : (0 ≤ (1 : Int)) = True := eq_true (by omega)
    have b3 : (1 ≤ ((r.length + 1 : Nat) : Int)) = True := eq_true (by omega)
    have b4 : (((r.length + 1 : Nat) : Int) ≤ ((r.length + 1 : Nat) : Int)) = True := eq_true (by omega)
    rw [List.length_cons] at hs
    rw [fracP]
    by_cases h1 : c.toNat = 46
    · have k1 : ((c.toNat : Int) == 46) = true := by simp; omega
      have hr := row_ok r (by omega) []
      have hn2 := bt_nil (r.takeWhile isDg)
      have hf := parts_fin A (r.takeWhile isDg) (r.dropWhile isDg) (by have := dw_le r; omega)
      rw [if_pos h1]
      generalize r.takeWhile isDg = B at *
      generalize r.dropWhile isDg = R at *
      rcases Bool.eq_false_or_eq_true B.isEmpty with g | g
      · rw [g] at hn2
        rw [g, if_pos rfl]
        simp (disch := omega) only [go_sem, and_self, and_true, true_and, false_and, and_false, Nat.reduceAdd, Nat.reduceMul, Nat.reduceSub, Nat.reduceLeDiff, Nat.reduceLT, Nat.reduceGT, Nat.reduceEqDiff, Nat.reduceBEq, Int.reduceNeg, Int.reduceEq, Int.reduceLT, Int.reduceLE, Int.reduceBEq, Int.reduceToNat, Int.toNat_natCast, Int.natCast_zero, strD, r49_K4, hn, hz, hs, hct, i0, b0, b3, b4, k1, hr, hn2, decide_true, List.isEmpty_cons, noP]
      · rw [g] at hn2
        rw [g, if_neg (by simp)]
        simp (disch := omega) only [go_sem, and_self, and_true, true_and, false_and, and_false, Nat.reduceAdd, Nat.reduceMul, Nat.reduceSub, Nat.reduceLeDiff, Nat.reduceLT, Nat.reduceGT, Nat.reduceEqDiff, Nat.reduceBEq, Int.reduceNeg, Int.reduceEq, Int.reduceLT, Int.reduceLE, Int.reduceBEq, Int.reduceToNat, Int.toNat_natCast, Int.natCast_zero, strD, r49_K4, hn, hz, hs, hct, i0, b0, b3, b4, k1, hr, hn2, decide_true, List.isEmpty_cons]
        exact hf
    · have k1 : ((c.toNat : Int) == 46) = false := by simp; omega
      have hf := parts_fin A [] (c :: r) (by simp only [List.length_cons]; omega)
      rw [if_neg h1]
      simp (disch := omega) only [go_sem, and_self, and_true, true_and, false_and, and_false, Nat.reduceAdd, Nat.reduceMul, Nat.reduceSub, Nat.reduceLeDiff, Nat.reduceLT, Nat.reduceGT, Nat.reduceEqDiff, Nat.reduceBEq, Int.reduceNeg, Int.reduceEq, Int.reduceLT, Int.reduceLE, Int.reduceBEq, Int.reduceToNat, Int.toNat_natCast, Int.natCast_zero, strD, r49_K4, hn, hz, hs, hct, i0, b0, b3, b4, k1, decide_true, List.isEmpty_cons]
      exact hf

set_option maxHeartbeats 1000000 in
theorem parts_ok (L : List UInt8) (hl : L.length ≤ 100000) (hp : List Ent) :
    F tab 49 [.d (.str (bt L))] hp = some (.ret (.tup [.d (.str (bt (partsP L).1)), .d (.str (bt (partsP L).2.1)), .d (iv (partsP L).2.2.1), .d (.bool (partsP L).2.2.2)]) hp) := by
  have hr := row_ok L hl []
  have hf := parts_frac (L.takeWhile isDg) (L.dropWhile isDg) (by have := dw_le L; omega)
  have hn := bt_nil (L.takeWhile isDg)
  have hs := bt_size (L.takeWhile isDg)
  unfold partsP
  generalize L.takeWhile isDg = A at *
  generalize L.dropWhile isDg = R at *
  refine f49 rfl ?_
  cases A with
  | nil =>
    rw [show lead0 [] = true from rfl, if_pos rfl]
    simp (disch := omega) only [go_sem, and_self, and_true, true_and, false_and, and_false, Nat.reduceAdd, Nat.reduceMul, Nat.reduceSub, Nat.reduceLeDiff, Nat.reduceLT, Nat.reduceGT, Nat.reduceEqDiff, Nat.reduceBEq, Int.reduceNeg, Int.reduceEq, Int.reduceLT, Int.reduceLE, Int.reduceBEq, Int.reduceToNat, Int.toNat_natCast, Int.natCast_zero, strD, r49_T, r49, hr, hn, List.isEmpty_nil, noP]
  | cons c t =>
    have hz := bt_zero c t
    have i0 : (0 ≤ (0 : Int)) = True := eq_true (by omega)
    rw [List.length_cons] at hs
    by_cases h1 : t = []
    · have k1 : (((t.length + 1 : Nat) : Int) > 1) = False := eq_false (by subst h1; simp)
      have e : lead0 (c :: t) = false := by subst h1; rfl
      rw [e, if_neg (by simp)]
      simp (disch := omega) only [go_sem, and_self, and_true, true_and, false_and, and_false, Nat.reduceAdd, Nat.reduceMul, Nat.reduceSub, Nat.reduceLeDiff, Nat.reduceLT, Nat.reduceGT, Nat.reduceEqDiff, Nat.reduceBEq, Int.reduceNeg, Int.reduceEq, Int.reduceLT, Int.reduceLE, Int.reduceBEq, Int.reduceToNat, Int.toNat_natCast, Int.natCast_zero, strD, r49_T, r49, hr, hn, hs, k1, List.isEmpty_cons]
      erw [hf]
      simp (disch := omega) only [go_sem, and_self, and_true, true_and, false_and, and_false, Nat.reduceAdd, Nat.reduceMul, Nat.reduceSub, Nat.reduceLeDiff, Nat.reduceLT, Nat.reduceGT, Nat.reduceEqDiff, Nat.reduceBEq, Int.reduceNeg, Int.reduceEq, Int.reduceLT, Int.reduceLE, Int.reduceBEq, Int.reduceToNat, Int.toNat_natCast, Int.natCast_zero]
    · have hlt : 0 < t.length := List.length_pos_iff.2 h1
      have k1 : (((t.length + 1 : Nat) : Int) > 1) = True := eq_true (by omega)
      by_cases h2 : c.toNat = 48
      · have k2 : ((c.toNat : Int) == 48) = true := by simp; omega
        have e : lead0 (c :: t) = true := by simp [lead0, h2]; omega
        rw [e, if_pos rfl]
        simp (disch := omega) only [go_sem, and_self, and_true, true_and, false_and, and_false, Nat.reduceAdd, Nat.reduceMul, Nat.reduceSub, Nat.reduceLeDiff, Nat.reduceLT, Nat.reduceGT, Nat.reduceEqDiff, Nat.reduceBEq, Int.reduceNeg, Int.reduceEq, Int.reduceLT, Int.reduceLE, Int.reduceBEq, Int.reduceToNat, Int.toNat_natCast, Int.natCast_zero, strD, r49_T, r49, hr, hn, hs, hz, i0, k1, k2, List.isEmpty_cons, noP]
      · have k2 : ((c.toNat : Int) == 48) = false := by simp; omega
        have e : lead0 (c :: t) = false := by simp [lead0, h2]
        rw [e, if_neg (by simp)]
        simp (disch := omega) only [go_sem, and_self, and_true, true_and, false_and, and_false, Nat.reduceAdd, Nat.reduceMul, Nat.reduceSub, Nat.reduceLeDiff, Nat.reduceLT, Nat.reduceGT, Nat.reduceEqDiff, Nat.reduceBEq, Int.reduceNeg, Int.reduceEq, Int.reduceLT, Int.reduceLE, Int.reduceBEq, Int.reduceToNat, Int.toNat_natCast, Int.natCast_zero, strD, r49_T, r49, hr, hn, hs, hz, i0, k1, k2, List.isEmpty_cons]
        erw [hf]
        simp (disch := omega) only [go_sem, and_self, and_true, true_and, false_and, and_false, Nat.reduceAdd, Nat.reduceMul, Nat.reduceSub, Nat.reduceLeDiff, Nat.reduceLT, Nat.reduceGT, Nat.reduceEqDiff, Nat.reduceBEq, Int.reduceNeg, Int.reduceEq, Int.reduceLT, Int.reduceLE, Int.reduceBEq, Int.reduceToNat, Int.toNat_natCast, Int.natCast_zero]

/-! noughts ahead -/
def is0 (b : UInt8) : Bool := b.toNat == 48
def TlIs (L : List UInt8) : Prop := V (F tab) r94_B0 (r94_S0 (.d (.str (bt L))) (.d (.int .u8 48)) []) = some (.norm, r94_E0 (.d (.str (bt (L.dropWhile is0)))) [])
theorem tl_nil : TlIs [] := by
  have h1 : ((0 : Int) > 0) = False := eq_false (by omega)
  have h2 : (((0 : Nat) : Int) > 0) = False := eq_false (by omega)
  have hs := bt_size []
  unfold TlIs
  rw [r94_B0_eq]
  simp (disch := omega) only [go_sem, and_self, and_true, true_and, false_and, and_false, Nat.reduceAdd, Nat.reduceMul, Nat.reduceSub, Nat.reduceLeDiff, Nat.reduceLT, Nat.reduceGT, Nat.reduceEqDiff, Nat.reduceBEq, Int.reduceNeg, Int.reduceEq, Int.reduceLT, Int.reduceLE, Int.reduceBEq, Int.reduceToNat, Int.toNat_natCast, Int.natCast_zero, strD, r94_C0, hs, h1, h2, List.dropWhile_nil]
theorem tl_step (c : UInt8) (r : List UInt8) (hl : r.length ≤ 100000) (ih : TlIs r) : TlIs (c :: r) := by
  have hz := bt_zero c r
  have hs := bt_size (c :: r)
  have hct := bt_cut1 c r
  have i0 : (0 ≤ (0 : Int)) = True := eq_true (by omega)
  have b0 : (0 ≤ (1 : Int)) = True := eq_true (by omega)
  have b3 : (1 ≤ ((r.length + 1 : Nat) : Int)) = True := eq_true (by omega)
  have b4 : (((r.length + 1 : Nat) : Int) ≤ ((r.length + 1 : Nat) : Int)) = True := eq_true (by omega)
  have b5 : (((r.length + 1 : Nat) : Int) > 0) = True := eq_true (by omega)
  rw [List.length_cons] at hs
  unfold TlIs at ih ⊢
  rw [r94_B0_eq, List.dropWhile_cons]
  by_cases h : c.toNat = 48
  · have k : ((c.toNat : Int) == 48) = true := by simp; omega
    have e : is0 c = true := by simp [is0, h]
    rw [e, if_pos rfl]
    simp (disch := omega) only [go_sem, and_self, and_true, true_and, false_and, and_false, Nat.reduceAdd, Nat.reduceMul, Nat.reduceSub, Nat.reduceLeDiff, Nat.reduceLT, Nat.reduceGT, Nat.reduceEqDiff, Nat.reduceBEq, Int.reduceNeg, Int.reduceEq, Int.reduceLT, Int.reduceLE, Int.reduceBEq, Int.reduceToNat, Int.toNat_natCast, Int.natCast_zero, strD, r94_C0, hs, hz, hct, i0, b0, b3, b4, b5, k, decide_true]
    exact ih
  · have k : ((c.toNat : Int) == 48) = false := by simp; omega
    have e : is0 c = false := by simp [is0, h]
    rw [e, if_neg (by simp)]
    simp (disch := omega) only [go_sem, and_self, and_true, true_and, false_and, and_false, Nat.reduceAdd, Nat.reduceMul, Nat.reduceSub, Nat.reduceLeDiff, Nat.reduceLT, Nat.reduceGT, Nat.reduceEqDiff, Nat.reduceBEq, Int.reduceNeg, Int.reduceEq, Int.reduceLT, Int.reduceLE, Int.reduceBEq, Int.reduceToNat, Int.toNat_natCast, Int.natCast_zero, strD, r94_C0, hs, hz, hct, i0, b0, b3, b4, b5, k, decide_true]
theorem tl_loop : ∀ (L : List UInt8), L.length ≤ 100000 → TlIs L
  | [], _ => tl_nil
  | c :: r, h => tl_step c r (by simp at h; omega) (tl_loop r (by simp at h; omega))
theorem tlb_ok (L : List UInt8) (hl : L.length ≤ 100000) (hp : List Ent) : F tab 94 [.d (.str (bt L)), .d (.int .u8 48)] hp = some (.ret (.d (.str (bt (L.dropWhile is0)))) hp) := by
  have h := tl_loop L hl
  unfold TlIs at h
  refine f94 rfl ?_
  simp (disch := omega) only [go_sem, and_self, and_true, true_and, false_and, and_false, Nat.reduceAdd, Nat.reduceMul, Nat.reduceSub, Nat.reduceLeDiff, Nat.reduceLT, Nat.reduceGT, Nat.reduceEqDiff, Nat.reduceBEq, Int.reduceNeg, Int.reduceEq, Int.reduceLT, Int.reduceLE, Int.reduceBEq, Int.reduceToNat, Int.toNat_natCast, Int.natCast_zero, strD, r94_T, r94]
  rw [r94_B0_n]
  erw [h]
  simp (disch := omega) only [go_sem, and_self, and_true, true_and, false_and, and_false, Nat.reduceAdd, Nat.reduceMul, Nat.reduceSub, Nat.reduceLeDiff, Nat.reduceLT, Nat.reduceGT, Nat.reduceEqDiff, Nat.reduceBEq, Int.reduceNeg, Int.reduceEq, Int.reduceLT, Int.reduceLE, Int.reduceBEq, Int.reduceToNat, Int.toNat_natCast, Int.natCast_zero]
set_option maxHeartbeats 1000000 in
theorem trimLeft_ok (L : List UInt8) (hl : L.length ≤ 100000) (hp : List Ent) : F tab 82 [.d (.str (bt L)), .d (.str ⟨#[48]⟩)] hp = some (.ret (.d (.str (bt (L.dropWhile is0)))) hp) := by
  have h := tlb_ok L hl []
  have hn := bt_nil L
  have hz : (⟨#[48]⟩ : ByteArray)[0]? = some 48 := rfl
  have e1 : ((⟨#[48]⟩ : ByteArray).toList == (⟨#[]⟩ : ByteArray).toList) = false := by decide +kernel
  have e2 : (⟨#[48]⟩ : ByteArray).size = 1 := rfl
  have e3 : (((1 : Nat) : Int) == 1) = true := rfl
  have e4 : (((48 : UInt8).toNat : Int) < 128) = True := eq_true (by decide)
  have e5 : ((48 : UInt8).toNat : Int) = 48 := rfl
  have i0 : (0 ≤ (0 : Int)) = True := eq_true (by omega)
  have e6 : ((48 : Int) < 128) = True := eq_true (by decide)
  refine f82 rfl ?_
  cases L with
  | nil =>
    simp (disch := omega) only [go_sem, and_self, and_true, true_and, false_and, and_false, Nat.reduceAdd, Nat.reduceMul, Nat.reduceSub, Nat.reduceLeDiff, Nat.reduceLT, Nat.reduceGT, Nat.reduceEqDiff, Nat.reduceBEq, Int.reduceNeg, Int.reduceEq, Int.reduceLT, Int.reduceLE, Int.reduceBEq, Int.reduceToNat, Int.toNat_natCast, Int.natCast_zero, strD, r82_T, r82, hn, List.isEmpty_nil, List.dropWhile_nil]
  | cons c r =>
    simp (disch := omega) only [go_sem, and_self, and_true, true_and, false_and, and_false, Nat.reduceAdd, Nat.reduceMul, Nat.reduceSub, Nat.reduceLeDiff, Nat.reduceLT, Nat.reduceGT, Nat.reduceEqDiff, Nat.reduceBEq, Int.reduceNeg, Int.reduceEq, Int.reduceLT, Int.reduceLE, Int.reduceBEq, Int.reduceToNat, Int.toNat_natCast, Int.natCast_zero, strD, r82_T, r82, hn, hz, e1, e2, e3, e4, e5, e6, i0, h, List.isEmpty_cons]
end Go.Pe.T

namespace Go.Pe.T
/-! ### digits by a power of ten -/
def dgI (b : UInt8) : Int := (b.toNat : Int) - 48
def lowD (l : List UInt8) : List Int := l.reverse.map dgI
theorem lowD_digs {l : List UInt8} (h : DgL l) : Digs (lowD l) := fun d hd => by
  obtain ⟨b, hb, rfl⟩ := List.mem_map.1 hd
  have := isDg_iff.1 (h b (List.mem_reverse.1 hb))
  unfold digit dgI
  omega
theorem lowD_len (l : List UInt8) : (lowD l).length = l.length := by simp [lowD]
theorem lowD_snoc (l : List UInt8) (b : UInt8) : lowD (l ++ [b]) = dgI b :: lowD l := by simp [lowD]
theorem lowD_app (a b : List UInt8) : lowD (a ++ b) = lowD b ++ lowD a := by simp [lowD]
theorem val_snoc0 : ∀ l : List Int, val (l ++ [0]) = val l
  | [] => rfl
  | d :: r => by
    have e1 : val (d :: r ++ [0]) = d + 10 * val (r ++ [0]) := rfl
    have e2 : val (d :: r) = d + 10 * val r := rfl
    rw [e1, e2, val_snoc0 r]
theorem lowD_drop : ∀ l : List UInt8, val (lowD (l.dropWhile is0)) = val (lowD l)
  | [] => rfl
  | c :: r => by
    rw [List.dropWhile_cons]
    by_cases h : is0 c = true
    · rw [if_pos h, lowD_drop r]
      have : c.toNat = 48 := by simpa [is0] using h
      have e : lowD (c :: r) = lowD r ++ [0] := by simp [lowD, dgI, this]
      rw [e, val_snoc0]
    · rw [if_neg h]
theorem val_zeros : ∀ (z : Nat) (l : List Int), val (List.replicate z 0 ++ l) = 10 ^ z * val l
  | 0, l => by simp
  | z + 1, l => by
    have e1 : val (List.replicate (z + 1) 0 ++ l) = 0 + 10 * val (List.replicate z 0 ++ l) := rfl
    rw [e1, val_zeros z l, Int.pow_succ, Int.zero_add, ← Int.mul_assoc, Int.mul_comm 10]
theorem DgL.drop0 : ∀ {l : List UInt8}, DgL l → DgL (l.dropWhile is0) := fun h b hb => h b ((List.dropWhile_sublist _).mem hb)
theorem DgL.rev {l : List UInt8} (h : DgL l) : DgL l.reverse := fun b hb => h b (List.mem_reverse.1 hb)
theorem DgL.app {a b : List UInt8} (h : DgL a) (k : DgL b) : DgL (a ++ b) := fun x hx => (List.mem_append.1 hx).elim (h x) (k x)
theorem DgL.take {l : List UInt8} (h : DgL l) (n : Nat) : DgL (l.take n) := fun b hb => h b (List.mem_of_mem_take hb)

/-- noughts behind, of a row the other way round -/
theorem rev_zeros : ∀ (r : List UInt8), ∃ z, z + (r.dropWhile is0).length = r.length ∧ val (r.map dgI) = 10 ^ z * val ((r.dropWhile is0).map dgI)
  | [] => ⟨0, rfl, by simp⟩
  | c :: r => by
    rw [List.dropWhile_cons]
    by_cases h : is0 c = true
    · obtain ⟨z, h1, h2⟩ := rev_zeros r
      rw [if_pos h]
      refine ⟨z + 1, by simp only [List.length_cons]; omega, ?_⟩
      have : c.toNat = 48 := by simpa [is0] using h
      have e : val ((c :: r).map dgI) = dgI c + 10 * val (r.map dgI) := rfl
      rw [e, h2]
      simp only [dgI, this]
      rw [Int.pow_succ, Int.mul_comm (10 ^ z) 10, Int.mul_assoc]
      omega
    · rw [if_neg h]
      exact ⟨0, by simp, by simp⟩

def X40 : PV := .ibox [.d (iv 0), .d (iv 0)]
def HsIs (r : List UInt8) (sc : Int) : Prop :=
  V (F tab) r50_B0 (r50_S0 (.d (.str (bt r.reverse))) (.d (iv sc)) (.ibox [.d (iv 0), .d (iv 0)]) []) = some (.norm, r50_E0 (.d (.str (bt (r.dropWhile is0).reverse))) (.d (iv (sc - ((r.length : Int) - ((r.dropWhile is0).length : Int))))) (.ibox [.d (iv 0), .d (iv 0)]) [])
theorem hs_nil (sc : Int) : HsIs [] sc := by
  have hn := bt_nil []
  unfold HsIs
  have e : sc - ((([] : List UInt8).length : Int) - ((([] : List UInt8).dropWhile is0).length : Int)) = sc := by simp
  rw [e, r50_B0_eq]
  simp (disch := omega) only [go_sem, and_self, and_true, true_and, false_and, and_false, Nat.reduceAdd, Nat.reduceMul, Nat.reduceSub, Nat.reduceLeDiff, Nat.reduceLT, Nat.reduceGT, Nat.reduceEqDiff, Nat.reduceBEq, Int.reduceNeg, Int.reduceEq, Int.reduceLT, Int.reduceLE, Int.reduceBEq, Int.reduceToNat, Int.toNat_natCast, Int.natCast_zero, strD, r50_C0, hn, List.reverse_nil, List.dropWhile_nil, List.isEmpty_nil]
theorem hs_step (c : UInt8) (r : List UInt8) (sc : Int) (hl : r.length ≤ 100000) (hs : -3000000 ≤ sc ∧ sc ≤ 3000000) (ih : HsIs r (sc - 1)) : HsIs (c :: r) sc := by
  have hn := bt_nil (c :: r).reverse
  have hz : (bt (c :: r).reverse).size = r.length + 1 := by rw [bt_size]; simp
  have hg := bt_get (c :: r).reverse r.length
  have hx := bt_ext (c :: r).reverse 0 r.length
  rw [List.reverse_cons] at *
  rw [List.getElem?_append_right (by simp), List.length_reverse, Nat.sub_self] at hg
  rw [List.drop_zero, List.take_append_of_le_length (by simp), List.take_of_length_le (by simp)] at hx
  have e1 : ((r.length + 1 : Nat) : Int) - 1 = (r.length : Int) := by omega
  have i0 : (0 ≤ (r.length : Int)) = True := eq_true (by omega)
  have b1 : ((r.length : Int) ≤ ((r.length + 1 : Nat) : Int)) = True := eq_true (by omega)
  have b0 : (0 ≤ (0 : Int)) = True := eq_true (by omega)
  have ne : (r.reverse ++ [c]).isEmpty = false := by simp
  have t0 : (0 : Int).toNat = 0 := rfl
  rw [ne] at hn
  unfold HsIs at ih ⊢
  rw [r50_B0_eq, List.dropWhile_cons, List.reverse_cons]
  by_cases h : c.toNat = 48
  · have k : ((c.toNat : Int) == 48) = true := by simp; omega
    have e : is0 c = true := by simp [is0, h]
    have e3 : sc - (((c :: r).length : Int) - ((r.dropWhile is0).length : Int)) = sc - 1 - ((r.length : Int) - ((r.dropWhile is0).length : Int)) := by simp only [List.length_cons]; omega
    rw [e, if_pos rfl, e3]
    generalize bt (r.reverse ++ [c]) = B at *
    simp (disch := omega) only [go_sem, and_self, and_true, true_and, false_and, and_false, Nat.reduceAdd, Nat.reduceMul, Nat.reduceSub, Nat.reduceLeDiff, Nat.reduceLT, Nat.reduceGT, Nat.reduceEqDiff, Nat.reduceBEq, Int.reduceNeg, Int.reduceEq, Int.reduceLT, Int.reduceLE, Int.reduceBEq, Int.reduceToNat, Int.toNat_natCast, Int.natCast_zero, strD, r50_C0, r50_K0, hn, hz, hg, hx, e1, i0, b0, b1, t0, k, decide_true, w64]
    exact ih
  · have k : ((c.toNat : Int) == 48) = false := by simp; omega
    have e : is0 c = false := by simp [is0, h]
    have e3 : sc - (((c :: r).length : Int) - ((c :: r).length : Int)) = sc := by omega
    rw [e, if_neg (by simp), e3, List.reverse_cons]
    generalize bt (r.reverse ++ [c]) = B at *
    simp (disch := omega) only [go_sem, and_self, and_true, true_and, false_and, and_false, Nat.reduceAdd, Nat.reduceMul, Nat.reduceSub, Nat.reduceLeDiff, Nat.reduceLT, Nat.reduceGT, Nat.reduceEqDiff, Nat.reduceBEq, Int.reduceNeg, Int.reduceEq, Int.reduceLT, Int.reduceLE, Int.reduceBEq, Int.reduceToNat, Int.toNat_natCast, Int.natCast_zero, strD, r50_C0, r50_K0, hn, hz, hg, hx, e1, i0, b0, b1, t0, k, decide_true, w64]
theorem hs_loop : ∀ (r : List UInt8) (sc : Int), r.length ≤ 100000 → -3000000 + (r.length : Int) ≤ sc ∧ sc ≤ 3000000 → HsIs r sc
  | [], sc, _, _ => hs_nil sc
  | c :: r, sc, h, hs => by
    simp only [List.length_cons] at h hs
    exact hs_step c r sc (by omega) (by omega) (hs_loop r (sc - 1) (by omega) (by omega))

def HcIs (d : List UInt8) (sc : Int) (i : Nat) : Prop :=
  V (F tab) r50_B1 (r50_S1 (.d (.str (bt d))) (.d (iv sc)) (.ibox [.d (iv 0), .d (iv 0)]) (.d (iv (val (lowD (d.take i))))) (.d (iv d.length)) (.d (iv i)) []) = some (.norm, r50_E1 (.d (iv sc)) (.ibox [.d (iv 0), .d (iv 0)]) (.d (iv (val (lowD d)))) [])
theorem hc_end (d : List UInt8) (sc : Int) : HcIs d sc d.length := by
  have h1 : ((d.length : Int) < (d.length : Int)) = False := eq_false (by omega)
  unfold HcIs
  rw [List.take_length, r50_B1_eq]
  simp (disch := omega) only [go_sem, and_self, and_true, true_and, false_and, and_false, Nat.reduceAdd, Nat.reduceMul, Nat.reduceSub, Nat.reduceLeDiff, Nat.reduceLT, Nat.reduceGT, Nat.reduceEqDiff, Nat.reduceBEq, Int.reduceNeg, Int.reduceEq, Int.reduceLT, Int.reduceLE, Int.reduceBEq, Int.reduceToNat, Int.toNat_natCast, Int.natCast_zero, r50_C1, h1]
theorem hc_step (d : List UInt8) (hd : DgL d) (hl : d.length ≤ 15) (sc : Int) (i : Nat) (hi : i < d.length) (ih : HcIs d sc (i + 1)) : HcIs d sc i := by
  have h1 : ((i : Int) < (d.length : Int)) = True := eq_true (by omega)
  have i0 : (0 ≤ (i : Int)) = True := eq_true (by omega)
  have hx : d[i]? = some d[i] := List.getElem?_eq_getElem hi
  have htk : d.take (i + 1) = d.take i ++ [d[i]] := (List.take_append_getElem hi).symm
  have hdg := hd d[i] (List.getElem_mem _)
  have hg := bt_get d i
  have e1 : (i : Int) + 1 = ((i + 1 : Nat) : Int) := rfl
  rw [hx] at hg
  obtain ⟨v1, v2⟩ := val_bound (lowD_digs (hd.take i))
  have hp : (10 : Int) ^ (lowD (d.take i)).length ≤ 10 ^ 14 := p10_mono (by rw [lowD_len, List.length_take]; omega)
  have e14 : (10 : Int) ^ 14 = 100000000000000 := by decide
  have hv : val (lowD (d.take (i + 1))) = dgI d[i] + 10 * val (lowD (d.take i)) := by rw [htk, lowD_snoc]; rfl
  unfold HcIs at ih ⊢
  rw [hv] at ih
  generalize val (lowD (d.take i)) = v at *
  generalize d[i] = b at *
  obtain ⟨g1, g2⟩ := isDg_iff.1 hdg
  have e2 : dgI b + 10 * v = 10 * v + ((b.toNat : Int) - 48) := by unfold dgI; omega
  rw [e2] at ih
  rw [r50_B1_eq]
  simp (disch := omega) only [go_sem, and_self, and_true, true_and, false_and, and_false, Nat.reduceAdd, Nat.reduceMul, Nat.reduceSub, Nat.reduceLeDiff, Nat.reduceLT, Nat.reduceGT, Nat.reduceEqDiff, Nat.reduceBEq, Int.reduceNeg, Int.reduceEq, Int.reduceLT, Int.reduceLE, Int.reduceBEq, Int.reduceToNat, Int.toNat_natCast, Int.natCast_zero, r50_C1, r50_K1, h1, i0, hg, e1, ByteArray.size, List.size_toArray, w64, wu8]
  exact ih
theorem hc_loop (d : List UInt8) (hd : DgL d) (hl : d.length ≤ 15) (sc : Int) : ∀ (k i : Nat), i + k = d.length → HcIs d sc i
  | 0, i, h => by obtain rfl : i = d.length := by omega
                  exact hc_end d sc
  | k + 1, i, h => hc_step d hd hl sc i (by omega) (hc_loop d hd hl sc k (i + 1) (by omega))

/-- coefficient, scale, error -/
def makeC (c : Int) (k : Nat) : Int × Int × Int := if makeOk c k then ((stripN c k).1, ((stripN c k).2 : Int), 0) else (0, 0, 8)
def tupC (p : Int × Int × Int) : PV := .tup [.d (.agg [iv p.1, iv p.2.1]), .d (iv p.2.2)]
theorem makeC_T (c : Int) (k : Nat) : madeT c k = tupC (makeC c k) := by
  unfold madeT makeC tupC
  rcases Bool.eq_false_or_eq_true (makeOk c k) with g | g
  · rw [g]; rfl
  · rw [g]; rfl
def heldK (d : List UInt8) (sc : Int) : Int × Int × Int := if d.length > 15 ∨ sc < 0 ∨ sc > 9 then (0, 0, 8) else makeC (val (lowD d)) sc.toNat

set_option maxHeartbeats 1000000 in
theorem held_tail (d : List UInt8) (hd : DgL d) (hl : d.length ≤ 200000) (sc : Int) :
    V (F tab) (r50_K4 ()) (r50_J4 (.d (.str (bt d))) (.d (iv sc)) (.ibox [.d (iv 0), .d (iv 0)]) []) = some (.ret, r50_R (.ibox [.d (iv (heldK d sc).1), .d (iv (heldK d sc).2.1)]) (.d (iv (heldK d sc).2.2)) []) := by
  have hs := bt_size d
  unfold heldK
  by_cases h15 : d.length > 15
  · have k1 : ((d.length : Int) > 15) = True := eq_true (by omega)
    rw [if_pos (.inl h15)]
    simp (disch := omega) only [go_sem, and_self, and_true, true_and, false_and, and_false, Nat.reduceAdd, Nat.reduceMul, Nat.reduceSub, Nat.reduceLeDiff, Nat.reduceLT, Nat.reduceGT, Nat.reduceEqDiff, Nat.reduceBEq, Int.reduceNeg, Int.reduceEq, Int.reduceLT, Int.reduceLE, Int.reduceBEq, Int.reduceToNat, Int.toNat_natCast, Int.natCast_zero, r50_K4, hs, k1]
  · have k1 : ((d.length : Int) > 15) = False := eq_false (by omega)
    by_cases h0 : sc < 0
    · have k2 : (sc < 0) = True := eq_true h0
      rw [if_pos (.inr (.inl h0))]
      simp (disch := omega) only [go_sem, and_self, and_true, true_and, false_and, and_false, Nat.reduceAdd, Nat.reduceMul, Nat.reduceSub, Nat.reduceLeDiff, Nat.reduceLT, Nat.reduceGT, Nat.reduceEqDiff, Nat.reduceBEq, Int.reduceNeg, Int.reduceEq, Int.reduceLT, Int.reduceLE, Int.reduceBEq, Int.reduceToNat, Int.toNat_natCast, Int.natCast_zero, r50_K4, hs, k1, k2]
    · have k2 : (sc < 0) = False := eq_false h0
      by_cases h9 : sc > 9
      · have k3 : (sc > 9) = True := eq_true h9
        rw [if_pos (.inr (.inr h9))]
        simp (disch := omega) only [go_sem, and_self, and_true, true_and, false_and, and_false, Nat.reduceAdd, Nat.reduceMul, Nat.reduceSub, Nat.reduceLeDiff, Nat.reduceLT, Nat.reduceGT, Nat.reduceEqDiff, Nat.reduceBEq, Int.reduceNeg, Int.reduceEq, Int.reduceLT, Int.reduceLE, Int.reduceBEq, Int.reduceToNat, Int.toNat_natCast, Int.natCast_zero, r50_K4, hs, k1, k2, k3]
      · have k3 : (sc > 9) = False := eq_false h9
        rw [if_neg (by omega)]
        have hc := hc_loop d hd (by omega) sc d.length 0 (by omega)
        have v0 : val (lowD (d.take 0)) = 0 := rfl
        have z : ((0 : Nat) : Int) = 0 := rfl
        unfold HcIs at hc
        rw [v0, z] at hc
        obtain ⟨b1, b2⟩ := val_bound (lowD_digs hd)
        have hp : (10 : Int) ^ (lowD d).length ≤ 10 ^ 15 := p10_mono (by rw [lowD_len]; omega)
        have e15 : (10 : Int) ^ 15 = 1000000000000000 := by decide
        obtain ⟨k, rfl⟩ : ∃ k : Nat, sc = k := ⟨sc.toNat, by omega⟩
        have hm := make_ok (val (lowD d)) k (by unfold i64; omega) (by omega) []
        rw [makeC_T] at hm
        rw [Int.toNat_natCast]
        generalize makeC (val (lowD d)) k = p at *
        obtain ⟨x, y, e⟩ := p
        simp only [tupC] at hm
        simp (disch := omega) only [go_sem, and_self, and_true, true_and, false_and, and_false, Nat.reduceAdd, Nat.reduceMul, Nat.reduceSub, Nat.reduceLeDiff, Nat.reduceLT, Nat.reduceGT, Nat.reduceEqDiff, Nat.reduceBEq, Int.reduceNeg, Int.reduceEq, Int.reduceLT, Int.reduceLE, Int.reduceBEq, Int.reduceToNat, Int.toNat_natCast, Int.natCast_zero, r50_K4, r50_K3, hs, k1, k2, k3]
        rw [r50_B1_n]
        erw [hc]
        simp (disch := omega) only [go_sem, and_self, and_true, true_and, false_and, and_false, Nat.reduceAdd, Nat.reduceMul, Nat.reduceSub, Nat.reduceLeDiff, Nat.reduceLT, Nat.reduceGT, Nat.reduceEqDiff, Nat.reduceBEq, Int.reduceNeg, Int.reduceEq, Int.reduceLT, Int.reduceLE, Int.reduceBEq, Int.reduceToNat, Int.toNat_natCast, Int.natCast_zero, hm]
end Go.Pe.T

namespace Go.Pe.T
def heldC (V : Int) (sc : Int) : Int × Int × Int := if 0 ≤ sc then makeC V sc.toNat else makeC (V * 10 ^ (-sc).toNat) 0
theorem strip_pow : ∀ (z k : Nat) (v : Int), stripN (10 ^ z * v) (k + z) = stripN v k
  | 0, k, v => by simp
  | z + 1, k, v => by
    have e : (10 : Int) ^ (z + 1) * v = 10 * (10 ^ z * v) := by rw [Int.pow_succ, Int.mul_comm (10 ^ z) 10, Int.mul_assoc]
    rw [e, show k + (z + 1) = k + z + 1 by omega, stripN, if_pos (Int.mul_tmod_right 10 _), Int.mul_tdiv_cancel_left _ (by omega), strip_pow z k v]
theorem makeC_pow (z k : Nat) (v : Int) : makeC (10 ^ z * v) (k + z) = makeC v k := by
  unfold makeC makeOk
  rw [strip_pow]
theorem makeC_zero (k : Nat) : makeC 0 k = (0, 0, 0) := by
  unfold makeC makeOk
  rw [strip_zero]
  rfl
theorem makeC_big {v : Int} (h : 1000000000000000 ≤ v) : makeC v 0 = (0, 0, 8) := by
  have hn : numIs v ((0 : Nat) : Int) = false := by
    unfold numIs
    have : ¬ (v < 1000000000000000) := by omega
    simp [this]
  unfold makeC makeOk
  rw [show stripN v 0 = (v, 0) from rfl, hn]
  rfl
theorem makeC_far {v : Int} {k : Nat} (ht : v.tmod 10 ≠ 0) (h : 1000000000000000 ≤ v ∨ 9 < k) : makeC v k = (0, 0, 8) := by
  have hn : numIs v (k : Int) = false := by
    unfold numIs
    rcases h with h | h
    · have : ¬ (v < 1000000000000000) := by omega
      simp [this]
    · have : ¬ ((k : Int) ≤ 9) := by omega
      simp [this]
  unfold makeC makeOk
  rw [strip_self k v (.inr ht), hn]
  rfl
def heldK5 (d : List UInt8) (sc : Int) : Int × Int × Int := if sc < 0 ∧ sc > -40 then heldK (d ++ List.replicate (-sc).toNat 48) 0 else heldK d sc
theorem lowD_zeros (m : Nat) : lowD (List.replicate m 48) = List.replicate m 0 := by
  simp only [lowD, List.reverse_replicate, List.map_replicate]
  rfl
theorem held_math (d : List UInt8) (z : Nat) (sc : Int) (ht : Top (lowD d)) (hne : d ≠ []) (hm : (val (lowD d)).tmod 10 ≠ 0) : heldK5 d sc = heldC (10 ^ z * val (lowD d)) (sc + z) := by
  have hl := lowD_len d
  have hlp : 0 < d.length := List.length_pos_iff.2 hne
  have hne2 : lowD d ≠ [] := by intro e; rw [e] at hl; simp at hl; omega
  have b1 := top_bound ht hne2
  have b2 := (val_bound ht.1).2
  rw [hl] at b1 b2
  have e15 : (10 : Int) ^ 15 = 1000000000000000 := by decide
  have big : ∀ m : Nat, d.length + m > 15 → 1000000000000000 ≤ 10 ^ m * val (lowD d) := by
    intro m h
    have h1 : (10 : Int) ^ 15 ≤ 10 ^ (m + (d.length - 1)) := p10_mono (by omega)
    have h2 : (10 : Int) ^ (m + (d.length - 1)) ≤ 10 ^ m * val (lowD d) := by
      rw [Int.pow_add]
      exact Int.mul_le_mul_of_nonneg_left b1 (Int.le_of_lt (p10_pos m))
    omega
  unfold heldK5
  by_cases h0 : 0 ≤ sc
  · obtain ⟨k, rfl⟩ : ∃ k : Nat, sc = k := ⟨sc.toNat, by omega⟩
    have hk : ((k : Int) + (z : Int)) = ((k + z : Nat) : Int) := by omega
    rw [if_neg (by omega), heldC, if_pos (by omega), hk, Int.toNat_natCast, makeC_pow, heldK]
    by_cases hb : d.length > 15 ∨ (k : Int) < 0 ∨ (k : Int) > 9
    · rw [if_pos hb, makeC_far hm]
      rcases hb with h | h | h
      · left; have := big 0 (by omega); simpa using this
      · omega
      · right; omega
    · rw [if_neg hb, Int.toNat_natCast]
  · obtain ⟨m, rfl⟩ : ∃ m : Nat, sc = -(m : Int) := ⟨(-sc).toNat, by omega⟩
    have hr : heldC (10 ^ z * val (lowD d)) (-(m : Int) + (z : Int)) = makeC (10 ^ m * val (lowD d)) 0 := by
      unfold heldC
      by_cases hz : m ≤ z
      · have e1 : (-(m : Int) + (z : Int)).toNat = 0 + (z - m) := by omega
        have e2 : (10 : Int) ^ z * val (lowD d) = 10 ^ (z - m) * (10 ^ m * val (lowD d)) := by
          rw [← Int.mul_assoc, ← Int.pow_add, show z - m + m = z by omega]
        rw [if_pos (by omega), e1, e2, makeC_pow]
      · have e1 : (-(-(m : Int) + (z : Int))).toNat = m - z := by omega
        have e2 : (10 : Int) ^ z * val (lowD d) * 10 ^ (m - z) = 10 ^ m * val (lowD d) := by
          rw [Int.mul_comm (10 ^ z), Int.mul_assoc, ← Int.pow_add, show z + (m - z) = m by omega, Int.mul_comm]
        rw [if_neg (by omega), e1, e2]
    rw [hr]
    have e3 : (-(-(m : Int))).toNat = m := by omega
    by_cases h40 : m < 40
    · have hv : val (lowD (d ++ List.replicate m 48)) = 10 ^ m * val (lowD d) := by rw [lowD_app, lowD_zeros, val_zeros]
      rw [if_pos (by omega), e3, heldK, hv]
      have hll : (d ++ List.replicate m 48).length = d.length + m := by simp
      rw [hll]
      by_cases hb : d.length + m > 15
      · rw [if_pos (.inl hb), makeC_big (big m hb)]
      · rw [if_neg (by omega)]; rfl
    · rw [if_neg (by omega), heldK, if_pos (.inr (.inl (by omega))), makeC_big (big m (by omega))]

theorem noughts_bt (n : Nat) : noughts n = bt (List.replicate n 48) := rfl
set_option maxHeartbeats 1000000 in
theorem held_k5 (d : List UInt8) (hd : DgL d) (hl : d.length ≤ 100000) (sc : Int) (hs : -3000000 ≤ sc ∧ sc ≤ 3000000) :
    V (F tab) (r50_K5 ()) (r50_J5 (.d (.str (bt d))) (.d (iv sc)) (.ibox [.d (iv 0), .d (iv 0)]) []) = some (.ret, r50_R (.ibox [.d (iv (heldK5 d sc).1), .d (iv (heldK5 d sc).2.1)]) (.d (iv (heldK5 d sc).2.2)) []) := by
  unfold heldK5
  by_cases h0 : sc < 0
  · have k1 : (sc < 0) = True := eq_true h0
    by_cases h40 : sc > -40
    · have k2 : (sc > -40) = True := eq_true h40
      obtain ⟨m, rfl⟩ : ∃ m : Nat, sc = -(m : Int) := ⟨(-sc).toNat, by omega⟩
      have e3 : (-(-(m : Int))).toNat = m := by omega
      have e4 : 0 - (-(m : Int)) = (m : Int) := by omega
      have hr := rep_ok m (by omega) []
      rw [noughts_bt] at hr
      have ha := str_add d (List.replicate m 48) (by rw [List.length_replicate]; omega)
      have ht := held_tail (d ++ List.replicate m 48) (hd.app fun b hb => by obtain ⟨_, rfl⟩ := List.mem_replicate.1 hb; decide) (by rw [List.length_append, List.length_replicate]; omega) 0
      rw [if_pos ⟨h0, h40⟩, e3]
      simp (disch := omega) only [go_sem, and_self, and_true, true_and, false_and, and_false, Nat.reduceAdd, Nat.reduceMul, Nat.reduceSub, Nat.reduceLeDiff, Nat.reduceLT, Nat.reduceGT, Nat.reduceEqDiff, Nat.reduceBEq, Int.reduceNeg, Int.reduceEq, Int.reduceLT, Int.reduceLE, Int.reduceBEq, Int.reduceToNat, Int.toNat_natCast, Int.natCast_zero, r50_K5, k1, k2, e4, hr, ha, w64]
      exact ht
    · have k2 : (sc > -40) = False := eq_false h40
      rw [if_neg (by omega)]
      have ht := held_tail d hd (by omega) sc
      simp (disch := omega) only [go_sem, and_self, and_true, true_and, false_and, and_false, Nat.reduceAdd, Nat.reduceMul, Nat.reduceSub, Nat.reduceLeDiff, Nat.reduceLT, Nat.reduceGT, Nat.reduceEqDiff, Nat.reduceBEq, Int.reduceNeg, Int.reduceEq, Int.reduceLT, Int.reduceLE, Int.reduceBEq, Int.reduceToNat, Int.toNat_natCast, Int.natCast_zero, r50_K5, k1, k2]
      exact ht
  · have k1 : (sc < 0) = False := eq_false h0
    rw [if_neg (by omega)]
    have ht := held_tail d hd (by omega) sc
    simp (disch := omega) only [go_sem, and_self, and_true, true_and, false_and, and_false, Nat.reduceAdd, Nat.reduceMul, Nat.reduceSub, Nat.reduceLeDiff, Nat.reduceLT, Nat.reduceGT, Nat.reduceEqDiff, Nat.reduceBEq, Int.reduceNeg, Int.reduceEq, Int.reduceLT, Int.reduceLE, Int.reduceBEq, Int.reduceToNat, Int.toNat_natCast, Int.natCast_zero, r50_K5, k1]
    exact ht

theorem dw_head {p : UInt8 → Bool} : ∀ {l : List UInt8} {c : UInt8} {t : List UInt8}, l.dropWhile p = c :: t → p c = false
  | [], c, t, h => by simp at h
  | a :: l, c, t, h => by
    rw [List.dropWhile_cons] at h
    by_cases ha : p a = true
    · rw [if_pos ha] at h
      exact dw_head h
    · rw [if_neg ha] at h
      simp only [List.cons.injEq] at h
      rw [← h.1]; simpa using ha
theorem dw0_le : ∀ l : List UInt8, (l.dropWhile is0).length ≤ l.length := fun l => (List.dropWhile_sublist _).length_le

set_option maxHeartbeats 1000000 in
theorem held_ok (d : List UInt8) (hd : DgL d) (hl : d.length ≤ 100000) (sc : Int) (hs : -2000000 ≤ sc ∧ sc ≤ 2000000) (hp : List Ent) :
    F tab 50 [.d (.str (bt d)), .d (iv sc)] hp = some (.ret (tupC (heldC (val (lowD d)) sc)) hp) := by
  have htl := trimLeft_ok d hl []
  have hu := dw0_le d
  have hL := hs_loop (d.dropWhile is0).reverse sc (by rw [List.length_reverse]; omega) (by rw [List.length_reverse]; omega)
  have hdu := hd.drop0
  have hv := lowD_drop d
  have hhd : ∀ c t, d.dropWhile is0 = c :: t → is0 c = false := fun c t h => dw_head h
  obtain ⟨z, z1, z2⟩ := rev_zeros (d.dropWhile is0).reverse
  unfold HsIs at hL
  rw [List.reverse_reverse] at hL
  rw [← hv]
  generalize d.dropWhile is0 = u at *
  have hv2 : val (lowD u) = 10 ^ z * val ((u.reverse.dropWhile is0).map dgI) := z2
  rw [hv2]
  have e1 : sc - ((u.reverse.length : Int) - ((u.reverse.dropWhile is0).length : Int)) = sc - z := by omega
  rw [e1] at hL
  have hr' := dw0_le u.reverse
  have hsf : u.reverse.dropWhile is0 <:+ u.reverse := List.dropWhile_suffix _
  have hdr : DgL (u.reverse.dropWhile is0) := fun b hb => hdu b (List.mem_reverse.1 (hsf.sublist.mem hb))
  have hhr : ∀ c t, u.reverse.dropWhile is0 = c :: t → is0 c = false := fun c t h => dw_head h
  rw [List.length_reverse] at hr' z1
  generalize u.reverse.dropWhile is0 = r at *
  have hn := bt_nil r.reverse
  refine f50 rfl ?_
  simp (disch := omega) only [go_sem, and_self, and_true, true_and, false_and, and_false, Nat.reduceAdd, Nat.reduceMul, Nat.reduceSub, Nat.reduceLeDiff, Nat.reduceLT, Nat.reduceGT, Nat.reduceEqDiff, Nat.reduceBEq, Int.reduceNeg, Int.reduceEq, Int.reduceLT, Int.reduceLE, Int.reduceBEq, Int.reduceToNat, Int.toNat_natCast, Int.natCast_zero, r50_T, r50, htl]
  rw [r50_B0_n]
  erw [hL]
  by_cases h0 : r = []
  · subst h0
    have e2 : heldC (10 ^ z * val (([] : List UInt8).map dgI)) sc = (0, 0, 0) := by
      have v0 : val (([] : List UInt8).map dgI) = 0 := rfl
      rw [v0, Int.mul_zero]
      unfold heldC
      split
      · exact makeC_zero _
      · rw [Int.zero_mul]; exact makeC_zero _
    rw [e2]
    simp (disch := omega) only [go_sem, and_self, and_true, true_and, false_and, and_false, Nat.reduceAdd, Nat.reduceMul, Nat.reduceSub, Nat.reduceLeDiff, Nat.reduceLT, Nat.reduceGT, Nat.reduceEqDiff, Nat.reduceBEq, Int.reduceNeg, Int.reduceEq, Int.reduceLT, Int.reduceLE, Int.reduceBEq, Int.reduceToNat, Int.toNat_natCast, Int.natCast_zero, strD, r50_K6, hn, List.reverse_nil, List.isEmpty_nil, tupC]
  · have hf : r.reverse.isEmpty = false := by simpa using h0
    rw [hf] at hn
    have hlr : lowD r.reverse = r.map dgI := by simp [lowD]
    have hk := held_k5 r.reverse (hdr.rev) (by rw [List.length_reverse]; omega) (sc - z) (by omega)
    have hm : (val (lowD r.reverse)).tmod 10 ≠ 0 := by
      rw [hlr]
      obtain ⟨c, t, rfl⟩ := List.exists_cons_of_ne_nil h0
      have hc := hhr c t rfl
      have hc1 := isDg_iff.1 (hdr c (by simp))
      have hc2 : c.toNat ≠ 48 := by simpa [is0] using hc
      have e : val ((c :: t).map dgI) = dgI c + 10 * val (t.map dgI) := rfl
      have hvt : 0 ≤ val (t.map dgI) := (val_bound (l := t.map dgI) (fun d hd => by
        obtain ⟨b, hb, rfl⟩ := List.mem_map.1 hd
        have := isDg_iff.1 (hdr b (by simp [hb]))
        unfold digit dgI; omega)).1
      have hdc : dgI c = (c.toNat : Int) - 48 := rfl
      rw [e, Int.tmod_eq_emod_of_nonneg (by omega)]
      omega
    have htop : Top (lowD r.reverse) := by
      refine ⟨lowD_digs hdr.rev, ?_⟩
      intro x hx
      rw [hlr] at hx
      obtain ⟨q, hq⟩ := hsf
      rw [List.getLast?_map, Option.map_eq_some_iff] at hx
      obtain ⟨b, hb, rfl⟩ := hx
      have hb2 : u.reverse.getLast? = some b := by
        rw [← hq, List.getLast?_append, hb]; rfl
      rw [List.getLast?_reverse] at hb2
      obtain ⟨t, rfl⟩ : ∃ t, u = b :: t := by
        cases u with
        | nil => simp at hb2
        | cons a t => simp at hb2; exact ⟨t, by rw [hb2]⟩
      have h1 := hhd b t rfl
      have h2 : b.toNat ≠ 48 := by simpa [is0] using h1
      have h3 := isDg_iff.1 (hdu b (by simp))
      unfold dgI
      omega
    have hmath := held_math r.reverse z (sc - z) htop (by simpa using h0) hm
    rw [hlr, show sc - (z : Int) + (z : Int) = sc by omega] at hmath
    rw [← hmath]
    simp (disch := omega) only [go_sem, and_self, and_true, true_and, false_and, and_false, Nat.reduceAdd, Nat.reduceMul, Nat.reduceSub, Nat.reduceLeDiff, Nat.reduceLT, Nat.reduceGT, Nat.reduceEqDiff, Nat.reduceBEq, Int.reduceNeg, Int.reduceEq, Int.reduceLT, Int.reduceLE, Int.reduceBEq, Int.reduceToNat, Int.toNat_natCast, Int.natCast_zero, strD, r50_K6, hn]
    erw [hk]
    simp (disch := omega) only [go_sem, and_self, and_true, true_and, false_and, and_false, Nat.reduceAdd, Nat.reduceMul, Nat.reduceSub, Nat.reduceLeDiff, Nat.reduceLT, Nat.reduceGT, Nat.reduceEqDiff, Nat.reduceBEq, Int.reduceNeg, Int.reduceEq, Int.reduceLT, Int.reduceLE, Int.reduceBEq, Int.reduceToNat, Int.toNat_natCast, Int.natCast_zero, tupC]
end Go.Pe.T

namespace Go.Pe.T
/-! ### num.Parse -/
def isNeg : List UInt8 → Bool
  | c :: _ => c.toNat == 45
  | [] => false
def absT : List UInt8 → List UInt8
  | c :: r => if c.toNat == 45 then r else c :: r
  | [] => []
theorem bt_one (c : UInt8) : ((bt [c]).toList == (⟨#[45]⟩ : ByteArray).toList) = (c.toNat == 45) := by
  rw [ByteArray.toList_eq, ByteArray.toList_eq]
  show ([c] == [45]) = _
  by_cases h : c = 45
  · subst h; rfl
  · have : c.toNat ≠ 45 := fun e => h (UInt8.toNat_inj.1 e)
    have e2 : (c.toNat == 45) = false := by simpa using this
    rw [e2]
    simp [h]
theorem hasPre_ok (L : List UInt8) (hp : List Ent) : F tab 91 [.d (.str (bt L)), .d (.str ⟨#[45]⟩)] hp = some (.ret (.d (.bool (isNeg L))) hp) := by
  have e2 : (⟨#[45]⟩ : ByteArray).size = 1 := rfl
  refine f91 rfl ?_
  cases L with
  | nil =>
    have hs := bt_size []
    have k : (((0 : Nat) : Int) ≥ ((1 : Nat) : Int)) = False := eq_false (by omega)
    have k2 : ((0 : Int) ≥ ((1 : Nat) : Int)) = False := eq_false (by omega)
    simp (disch := omega) only [go_sem, and_self, and_true, true_and, false_and, and_false, Nat.reduceAdd, Nat.reduceMul, Nat.reduceSub, Nat.reduceLeDiff, Nat.reduceLT, Nat.reduceGT, Nat.reduceEqDiff, Nat.reduceBEq, Int.reduceNeg, Int.reduceEq, Int.reduceLT, Int.reduceLE, Int.reduceBEq, Int.reduceToNat, Int.toNat_natCast, Int.natCast_zero, strD, r91_T, r91, hs, e2, k, k2, isNeg]
  | cons c r =>
    have hs := bt_size (c :: r)
    have k : (((r.length + 1 : Nat) : Int) ≥ ((1 : Nat) : Int)) = True := eq_true (by omega)
    have k1 : (((1 : Nat) : Int) ≤ ((r.length + 1 : Nat) : Int)) = True := eq_true (by omega)
    have i0 : (0 ≤ (0 : Int)) = True := eq_true (by omega)
    have k2 : (0 ≤ ((1 : Nat) : Int)) = True := eq_true (by omega)
    have t0 : (0 : Int).toNat = 0 := rfl
    have hx : (bt (c :: r)).extract 0 1 = bt [c] := bt_ext (c :: r) 0 1
    have h1 := bt_one c
    rw [List.length_cons] at hs
    simp (disch := omega) only [go_sem, and_self, and_true, true_and, false_and, and_false, Nat.reduceAdd, Nat.reduceMul, Nat.reduceSub, Nat.reduceLeDiff, Nat.reduceLT, Nat.reduceGT, Nat.reduceEqDiff, Nat.reduceBEq, Int.reduceNeg, Int.reduceEq, Int.reduceLT, Int.reduceLE, Int.reduceBEq, Int.reduceToNat, Int.toNat_natCast, Int.natCast_zero, strD, r91_T, r91, hs, e2, k, k1, k2, i0, t0, hx, h1, isNeg, decide_true]
theorem trimPre_ok (L : List UInt8) (hp : List Ent) : F tab 79 [.d (.str (bt L)), .d (.str ⟨#[45]⟩)] hp = some (.ret (.d (.str (bt (absT L)))) hp) := by
  have hh := hasPre_ok L []
  have e2 : (⟨#[45]⟩ : ByteArray).size = 1 := rfl
  refine f79 rfl ?_
  cases L with
  | nil =>
    rw [show isNeg [] = false from rfl] at hh
    simp (disch := omega) only [go_sem, and_self, and_true, true_and, false_and, and_false, Nat.reduceAdd, Nat.reduceMul, Nat.reduceSub, Nat.reduceLeDiff, Nat.reduceLT, Nat.reduceGT, Nat.reduceEqDiff, Nat.reduceBEq, Int.reduceNeg, Int.reduceEq, Int.reduceLT, Int.reduceLE, Int.reduceBEq, Int.reduceToNat, Int.toNat_natCast, Int.natCast_zero, strD, r79_T, r79, hh, absT]
  | cons c r =>
    have hs := bt_size (c :: r)
    have hct := bt_cut1 c r
    have b0 : (0 ≤ ((1 : Nat) : Int)) = True := eq_true (by omega)
    have b3 : (((1 : Nat) : Int) ≤ ((r.length + 1 : Nat) : Int)) = True := eq_true (by omega)
    have b4 : (((r.length + 1 : Nat) : Int) ≤ ((r.length + 1 : Nat) : Int)) = True := eq_true (by omega)
    rw [List.length_cons] at hs
    rcases Bool.eq_false_or_eq_true (c.toNat == 45) with g | g
    · rw [show isNeg (c :: r) = true from g] at hh
      rw [absT, g, if_pos rfl]
      simp (disch := omega) only [go_sem, and_self, and_true, true_and, false_and, and_false, Nat.reduceAdd, Nat.reduceMul, Nat.reduceSub, Nat.reduceLeDiff, Nat.reduceLT, Nat.reduceGT, Nat.reduceEqDiff, Nat.reduceBEq, Int.reduceNeg, Int.reduceEq, Int.reduceLT, Int.reduceLE, Int.reduceBEq, Int.reduceToNat, Int.toNat_natCast, Int.natCast_zero, strD, r79_T, r79, hh, hs, hct, e2, b0, b3, b4, decide_true]
    · rw [show isNeg (c :: r) = false from g] at hh
      rw [absT, g, if_neg (by simp)]
      simp (disch := omega) only [go_sem, and_self, and_true, true_and, false_and, and_false, Nat.reduceAdd, Nat.reduceMul, Nat.reduceSub, Nat.reduceLeDiff, Nat.reduceLT, Nat.reduceGT, Nat.reduceEqDiff, Nat.reduceBEq, Int.reduceNeg, Int.reduceEq, Int.reduceLT, Int.reduceLE, Int.reduceBEq, Int.reduceToNat, Int.toNat_natCast, Int.natCast_zero, strD, r79_T, r79, hh]
theorem tp_ok (L : List UInt8) (hp : List Ent) : F tab 48 [.d (.str (bt L)), .d (.str ⟨#[45]⟩)] hp = some (.ret (.d (.str (bt (absT L)))) hp) := by
  have hh := trimPre_ok L []
  refine f48 rfl ?_
  simp (disch := omega) only [go_sem, and_self, and_true, true_and, false_and, and_false, Nat.reduceAdd, Nat.reduceMul, Nat.reduceSub, Nat.reduceLeDiff, Nat.reduceLT, Nat.reduceGT, Nat.reduceEqDiff, Nat.reduceBEq, Int.reduceNeg, Int.reduceEq, Int.reduceLT, Int.reduceLE, Int.reduceBEq, Int.reduceToNat, Int.toNat_natCast, Int.natCast_zero, strD, r48_T, r48, hh]

theorem powP_bound (L : List UInt8) : -1000000 ≤ (powP L).1 ∧ (powP L).1 ≤ 1000000 := by
  cases L with
  | nil => simp [powP]
  | cons c r =>
    rw [powP]
    split
    · have := capN_le ((sgnP r).2.takeWhile isDg) 0 (by omega)
      rcases sgnP_one r with h | h
      · rw [h]; constructor <;> simp only <;> omega
      · rw [h]; constructor <;> simp only <;> omega
    · simp
theorem noP_props {n : Nat} : DgL noP.1 ∧ DgL noP.2.1 ∧ noP.1.length ≤ n ∧ noP.2.1.length ≤ n ∧ -1000000 ≤ noP.2.2.1 ∧ noP.2.2.1 ≤ 1000000 := by
  refine ⟨fun b hb => ?_, fun b hb => ?_, Nat.zero_le _, Nat.zero_le _, ?_, ?_⟩
  · simp [noP] at hb
  · simp [noP] at hb
  · decide
  · decide
theorem partsP_props (L : List UInt8) : DgL (partsP L).1 ∧ DgL (partsP L).2.1 ∧ (partsP L).1.length ≤ L.length ∧ (partsP L).2.1.length ≤ L.length ∧ -1000000 ≤ (partsP L).2.2.1 ∧ (partsP L).2.2.1 ≤ 1000000 := by
  unfold partsP
  have hA := tw_dgl L
  have hl := tw_le L
  have hd := dw_le L
  split
  · exact noP_props
  · generalize L.takeWhile isDg = A at *
    generalize L.dropWhile isDg = R at *
    have hn : DgL [] := fun b hb => by simp at hb
    cases R with
    | nil => exact ⟨hA, hn, hl, Nat.zero_le _, (powP_bound []).1, (powP_bound []).2⟩
    | cons c r =>
      rw [fracP]
      split
      · split
        · exact noP_props
        · have h2 := tw_le r
          simp only [List.length_cons] at hd
          exact ⟨hA, tw_dgl r, hl, by simp only [finP]; omega, (powP_bound _).1, (powP_bound _).2⟩
      · exact ⟨hA, hn, hl, Nat.zero_le _, (powP_bound _).1, (powP_bound _).2⟩
theorem makeC_bound (c : Int) (k : Nat) : -1000000000000000 < (makeC c k).1 ∧ (makeC c k).1 < 1000000000000000 := by
  unfold makeC
  rcases Bool.eq_false_or_eq_true (makeOk c k) with g | g
  · rw [g]
    unfold makeOk at g
    obtain ⟨_, _, _, h⟩ := numIs_inv g
    exact h
  · rw [g]
    simp
theorem heldC_bound (V sc : Int) : -1000000000000000 < (heldC V sc).1 ∧ (heldC V sc).1 < 1000000000000000 := by
  unfold heldC
  split
  · exact makeC_bound _ _
  · exact makeC_bound _ _

def parseC (L : List UInt8) : Int × Int × Int :=
  if (partsP (absT L)).2.2.2 then
    (if isNeg L then -(heldC (val (lowD ((partsP (absT L)).1 ++ (partsP (absT L)).2.1))) (((partsP (absT L)).2.1.length : Int) - (partsP (absT L)).2.2.1)).1 else (heldC (val (lowD ((partsP (absT L)).1 ++ (partsP (absT L)).2.1))) (((partsP (absT L)).2.1.length : Int) - (partsP (absT L)).2.2.1)).1,
      (heldC (val (lowD ((partsP (absT L)).1 ++ (partsP (absT L)).2.1))) (((partsP (absT L)).2.1.length : Int) - (partsP (absT L)).2.2.1)).2)
  else (0, 0, 3)
theorem abs_len (L : List UInt8) : (absT L).length = L.length - (if isNeg L then 1 else 0) ∧ (isNeg L = true → 0 < L.length) := by
  cases L with
  | nil => simp [absT, isNeg]
  | cons c r =>
    rcases Bool.eq_false_or_eq_true (c.toNat == 45) with g | g
    · rw [absT, isNeg, g]; simp
    · rw [absT, isNeg, g]; simp

set_option maxHeartbeats 1000000 in
theorem parse_ok (L : List UInt8) (hl : L.length ≤ 10000) (hp : List Ent) : F tab 24 [.d (.str (bt L))] hp = some (.ret (tupC (parseC L)) hp) := by
  have ht := tp_ok L []
  obtain ⟨al, al2⟩ := abs_len L
  have hpt := parts_ok (absT L) (by omega) []
  obtain ⟨p1, p2, p3, p4, p5, p6⟩ := partsP_props (absT L)
  have hs1 := bt_size (absT L)
  have hs2 := bt_size L
  unfold parseC
  generalize absT L = T at *
  generalize partsP T = p at *
  obtain ⟨A, B, e, ok⟩ := p
  simp only at *
  refine f24 rfl ?_
  rcases Bool.eq_false_or_eq_true ok with g | g
  · subst g
    rw [if_pos rfl]
    have ha := str_add A B (by omega)
    have hsB := bt_size B
    have hh := held_ok (A ++ B) (p1.app p2) (by rw [List.length_append]; omega) ((B.length : Int) - e) (by omega) []
    have hb := heldC_bound (val (lowD (A ++ B))) ((B.length : Int) - e)
    generalize heldC (val (lowD (A ++ B))) ((B.length : Int) - e) = h at *
    obtain ⟨x, y, er⟩ := h
    simp only [tupC] at hh hb ⊢
    rcases Bool.eq_false_or_eq_true (isNeg L) with n | n
    · rw [n] at al al2 ⊢
      have := al2 rfl
      have k : ((T.length : Int) < (L.length : Int)) = True := eq_true (by simp only [if_true] at al; omega)
      simp only [if_true]
      have e0 : 0 - x = -x := by omega
      simp (disch := omega) only [go_sem, and_self, and_true, true_and, false_and, and_false, Nat.reduceAdd, Nat.reduceMul, Nat.reduceSub, Nat.reduceLeDiff, Nat.reduceLT, Nat.reduceGT, Nat.reduceEqDiff, Nat.reduceBEq, Int.reduceNeg, Int.reduceEq, Int.reduceLT, Int.reduceLE, Int.reduceBEq, Int.reduceToNat, Int.toNat_natCast, Int.natCast_zero, r24_T, r24, r24_K1, ht, hpt, ha, hsB, hs1, hs2, hh, k, e0, w64]
    · rw [n] at al ⊢
      have k : ((T.length : Int) < (L.length : Int)) = False := eq_false (by simp only [Bool.false_eq_true, if_false] at al; omega)
      simp only [Bool.false_eq_true, if_false]
      simp (disch := omega) only [go_sem, and_self, and_true, true_and, false_and, and_false, Nat.reduceAdd, Nat.reduceMul, Nat.reduceSub, Nat.reduceLeDiff, Nat.reduceLT, Nat.reduceGT, Nat.reduceEqDiff, Nat.reduceBEq, Int.reduceNeg, Int.reduceEq, Int.reduceLT, Int.reduceLE, Int.reduceBEq, Int.reduceToNat, Int.toNat_natCast, Int.natCast_zero, r24_T, r24, r24_K1, ht, hpt, ha, hsB, hs1, hs2, hh, k, w64]
  · subst g
    rw [if_neg (by simp)]
    simp (disch := omega) only [go_sem, and_self, and_true, true_and, false_and, and_false, Nat.reduceAdd, Nat.reduceMul, Nat.reduceSub, Nat.reduceLeDiff, Nat.reduceLT, Nat.reduceGT, Nat.reduceEqDiff, Nat.reduceBEq, Int.reduceNeg, Int.reduceEq, Int.reduceLT, Int.reduceLE, Int.reduceBEq, Int.reduceToNat, Int.toNat_natCast, Int.natCast_zero, r24_T, r24, r24_K1, ht, hpt, tupC]
end Go.Pe.T

namespace Go.Pe.T
theorem shift_val (l : List Int) (hd : Digs l) (i : Nat) : Digs (shiftL l i) ∧ val (shiftL l i) = 10 ^ i * val l ∧ (shiftL l i).length ≤ i + l.length := by
  have h1 := rep_digs hd i
  unfold shiftL
  refine ⟨trimL_digs h1, by rw [trimL_val, val_rep], ?_⟩
  unfold trimL
  rw [List.length_take]
  simp only [List.length_append, List.length_replicate]
  omega

end Go.Pe.T

namespace Go.Pe.T
/-! ### the document's numbers, of any power -/
def sgC (neg : Bool) (h : Int × Int × Int) : Int × Int × Int := (if neg then -h.1 else h.1, h.2.1, h.2.2)
theorem numIs_sv (neg : Bool) (c s : Int) : numIs (sv neg c) s = numIs c s := by
  cases neg with
  | false => rfl
  | true =>
    simp only [sv, if_true]
    unfold numIs
    have e1 : decide (-1000000000000000 < -c) = decide (c < 1000000000000000) := by rw [decide_eq_decide]; omega
    have e2 : decide (-c < 1000000000000000) = decide (-1000000000000000 < c) := by rw [decide_eq_decide]; omega
    have e3 : ((-c).tmod 10 != 0) = (c.tmod 10 != 0) := by
      rw [Int.neg_tmod]
      by_cases h : c.tmod 10 = 0
      · simp [h]
      · have h2 : (-c.tmod 10 != 0) = true := by
          rw [bne_iff_ne]; omega
        have h3 : (c.tmod 10 != 0) = true := by
          rw [bne_iff_ne]; exact h
        rw [h2, h3]
    rw [e1, e2, e3]
    cases decide (0 ≤ s) <;> cases decide (s ≤ 9) <;> cases decide (c < 1000000000000000) <;> cases decide (-1000000000000000 < c) <;> rfl
theorem makeC_sv (neg : Bool) (c : Int) (k : Nat) : makeC (sv neg c) k = sgC neg (makeC c k) := by
  unfold makeC makeOk
  simp only [strip_sv, numIs_sv]
  rcases Bool.eq_false_or_eq_true (numIs (stripN c k).1 (stripN c k).2) with g | g
  · rw [g]; cases neg <;> rfl
  · rw [g]; cases neg <;> rfl
theorem told_make (v : Int) (k : Nat) : (if (toldR v k).2.2 then ((toldR v k).1, (toldR v k).2.1, (0 : Int)) else (0, 0, 8)) = makeC v k := by
  unfold toldR makeC
  rcases Bool.eq_false_or_eq_true (makeOk v k) with g | g
  · rw [g]; rfl
  · rw [g]; rfl
theorem trimN_top {l : List Int} (h : ∀ d, l.getLast? = some d → d ≠ 0) : trimN l l.length = l.length := by
  cases hl : l.length with
  | zero => rfl
  | succ n =>
    unfold trimN
    rw [if_neg]
    intro e
    rw [List.getLast?_eq_getElem?, hl] at h
    exact h 0 (by simpa using e) rfl
theorem trimL_self {l : List Int} (h : ∀ d, l.getLast? = some d → d ≠ 0) : trimL l = l := by
  unfold trimL
  rw [trimN_top h, List.take_length]
theorem zeros_last {t : List Int} {m : Nat} (hn : t ≠ []) (h : ∀ d, t.getLast? = some d → d ≠ 0) : ∀ d, (List.replicate m 0 ++ t).getLast? = some d → d ≠ 0 := by
  intro d hd
  apply h d
  rw [List.getLast?_append] at hd
  cases hq : t.getLast? with
  | none => exact absurd (List.getLast?_eq_none_iff.1 hq) hn
  | some x => rw [hq] at hd; simpa using hd

set_option maxHeartbeats 1000000 in
/-- a power below nought -/
theorem num4_neg (neg : Bool) (t : List Int) (ht : Top t) (hne : t ≠ []) (hl : t.length ≤ 900) (m : Nat) (hm : 0 < m) (hm2 : m ≤ 900) (hp : List Ent) :
    ∃ c k ok, F tab 17 [.d (longD neg t), .d (iv (-(m : Int)))] hp = some (.ret (.tup [.d (.agg [iv c, iv k]), .d (.bool ok)]) hp) ∧ (if ok then (c, k, (0 : Int)) else (0, 0, 8)) = sgC neg (heldC (val t) (-(m : Int))) := by
  have hlp : 0 < t.length := List.length_pos_iff.2 hne
  have htr := trim_ok' neg t (by omega)
  simp only [trimmed_shape] at htr
  have hn0 : (neg && trimN t t.length != 0) = neg := by
    rw [trimN_top ht.2]
    have : (t.length != 0) = true := by simp; omega
    rw [this, Bool.and_true]
  rw [trimL_self ht.2, hn0] at htr
  have hz := zeros_last (m := m) hne ht.2
  have hsl : (List.replicate m (0 : Int) ++ t).length = m + t.length := by simp
  have hsh := shift_ok neg t (by omega) m (by omega)
  have hn1 : (neg && trimN (List.replicate m 0 ++ t) (m + t.length) != 0) = neg := by
    rw [← hsl, trimN_top hz, hsl]
    have : (m + t.length != 0) = true := by simp; omega
    rw [this, Bool.and_true]
  have hsd : shiftL t m = List.replicate m 0 ++ t := trimL_self hz
  rw [hn1, hsd] at hsh
  have hvs : val (List.replicate m 0 ++ t) = 10 ^ m * val t := val_zeros m t
  have hds : Digs (List.replicate m 0 ++ t) := fun d hd => by
    rcases List.mem_append.1 hd with h | h
    · obtain ⟨_, rfl⟩ := List.mem_replicate.1 h
      exact ⟨by omega, by omega⟩
    · exact ht.1 d h
  have hb1 := top_bound ht hne
  have e1 : heldC (val t) (-(m : Int)) = makeC (10 ^ m * val t) 0 := by
    unfold heldC
    rw [if_neg (by omega), show (-(-(m : Int))).toNat = m by omega, Int.mul_comm]
  rw [e1]
  have e15 : (10 : Int) ^ 15 = 1000000000000000 := by decide
  have bigm : m + t.length > 15 → 1000000000000000 ≤ 10 ^ m * val t := by
    intro h
    have h1 : (10 : Int) ^ 15 ≤ 10 ^ (m + (t.length - 1)) := p10_mono (by omega)
    have h2 : (10 : Int) ^ (m + (t.length - 1)) ≤ 10 ^ m * val t := by
      rw [Int.pow_add]
      exact Int.mul_le_mul_of_nonneg_left hb1 (Int.le_of_lt (p10_pos m))
    omega
  have k0 : (-(m : Int) > 0) = False := eq_false (by omega)
  have k1 : (-(m : Int) < 0) = True := eq_true (by omega)
  have k2 : ((t.length : Int) == 0) = false := by simp; omega
  have e4 : 0 - (-(m : Int)) = (m : Int) := by omega
  rw [← hvs]
  generalize hS : List.replicate m (0 : Int) ++ t = S at *
  simp only [longD] at hsh
  by_cases h15 : S.length > 15
  · have k3 : ((S.length : Int) > 15) = True := eq_true (by omega)
    refine ⟨0, 0, false, ?_, ?_⟩
    · refine f17 rfl ?_
      simp (disch := omega) only [go_sem, and_self, and_true, true_and, false_and, and_false, Nat.reduceAdd, Nat.reduceMul, Nat.reduceSub, Nat.reduceLeDiff, Nat.reduceLT, Nat.reduceGT, Nat.reduceEqDiff, Nat.reduceBEq, Int.reduceNeg, Int.reduceEq, Int.reduceLT, Int.reduceLE, Int.reduceBEq, Int.reduceToNat, Int.toNat_natCast, Int.natCast_zero, r17_T, r17, htr]
      rw [r17_B0_n, r17_B0_eq]
      simp (disch := omega) only [go_sem, and_self, and_true, true_and, false_and, and_false, Nat.reduceAdd, Nat.reduceMul, Nat.reduceSub, Nat.reduceLeDiff, Nat.reduceLT, Nat.reduceGT, Nat.reduceEqDiff, Nat.reduceBEq, Int.reduceNeg, Int.reduceEq, Int.reduceLT, Int.reduceLE, Int.reduceBEq, Int.reduceToNat, Int.toNat_natCast, Int.natCast_zero, r17_C0, k0, k1, k2, k3, e4, hsh, List.length_map, w64]
    · rw [makeC_big (by rw [hvs]; exact bigm (by omega))]
      cases neg <;> rfl
  · have k3 : ((S.length : Int) > 15) = False := eq_false (by omega)
    have k4 : ((0 : Int) > 9) = False := eq_false (by omega)
    have hc := nc_loop neg S hds (by omega) 0 [.d (iv 0), .d (iv 0)] S.length (Nat.le_refl _)
    unfold NcLoop at hc
    rw [List.drop_of_length_le (Nat.le_refl _)] at hc
    have v0 : val [] = 0 := rfl
    rw [v0] at hc
    obtain ⟨b1, b2⟩ := val_bound hds
    have hp10 : (10 : Int) ^ S.length ≤ 10 ^ 15 := p10_mono (by omega)
    refine ⟨sv neg (val S), 0, true, ?_, ?_⟩
    · refine f17 rfl ?_
      simp (disch := omega) only [go_sem, and_self, and_true, true_and, false_and, and_false, Nat.reduceAdd, Nat.reduceMul, Nat.reduceSub, Nat.reduceLeDiff, Nat.reduceLT, Nat.reduceGT, Nat.reduceEqDiff, Nat.reduceBEq, Int.reduceNeg, Int.reduceEq, Int.reduceLT, Int.reduceLE, Int.reduceBEq, Int.reduceToNat, Int.toNat_natCast, Int.natCast_zero, r17_T, r17, htr]
      rw [r17_B0_n, r17_B0_eq]
      simp (disch := omega) only [go_sem, and_self, and_true, true_and, false_and, and_false, Nat.reduceAdd, Nat.reduceMul, Nat.reduceSub, Nat.reduceLeDiff, Nat.reduceLT, Nat.reduceGT, Nat.reduceEqDiff, Nat.reduceBEq, Int.reduceNeg, Int.reduceEq, Int.reduceLT, Int.reduceLE, Int.reduceBEq, Int.reduceToNat, Int.toNat_natCast, Int.natCast_zero, r17_C0, k0, k1, k2, k3, k4, e4, hsh, List.length_map, w64]
      rw [r17_B1_n]
      erw [hc]
      cases neg with
      | true => simp (disch := omega) only [go_sem, and_self, and_true, true_and, false_and, and_false, Nat.reduceAdd, Nat.reduceMul, Nat.reduceSub, Nat.reduceLeDiff, Nat.reduceLT, Nat.reduceGT, Nat.reduceEqDiff, Nat.reduceBEq, Int.reduceNeg, Int.reduceEq, Int.reduceLT, Int.reduceLE, Int.reduceBEq, Int.reduceToNat, Int.toNat_natCast, Int.natCast_zero, w64, Int.zero_sub, sv]
      | false => simp (disch := omega) only [go_sem, and_self, and_true, true_and, false_and, and_false, Nat.reduceAdd, Nat.reduceMul, Nat.reduceSub, Nat.reduceLeDiff, Nat.reduceLT, Nat.reduceGT, Nat.reduceEqDiff, Nat.reduceBEq, Int.reduceNeg, Int.reduceEq, Int.reduceLT, Int.reduceLE, Int.reduceBEq, Int.reduceToNat, Int.toNat_natCast, Int.natCast_zero, sv]
    · have hm2 : makeC (val S) 0 = (val S, 0, 0) := by
        have hn : numIs (val S) ((0 : Nat) : Int) = true := by
          unfold numIs
          have g1 : -1000000000000000 < val S := by omega
          have g2 : val S < 1000000000000000 := by omega
          simp [g1, g2]
        unfold makeC makeOk
        rw [show stripN (val S) 0 = (val S, 0) from rfl, hn]
        rfl
      rw [hm2]
      cases neg <;> rfl

theorem num_any (neg : Bool) (t : List Int) (ht : Top t) (hne : t ≠ []) (hl : t.length ≤ 900) (sc : Int) (hs : -900 ≤ sc ∧ sc ≤ 2000000) (hp : List Ent) :
    ∃ c k ok, F tab 17 [.d (.agg [.bool neg, .sl (t.map iv)]), .d (iv sc)] hp = some (.ret (.tup [.d (.agg [iv c, iv k]), .d (.bool ok)]) hp) ∧ (if ok then (c, k, (0 : Int)) else (0, 0, 8)) = sgC neg (heldC (val t) sc) := by
  by_cases h : 0 ≤ sc
  · obtain ⟨k, rfl⟩ : ∃ k : Nat, sc = k := ⟨sc.toNat, by omega⟩
    refine ⟨_, _, _, num4_ok neg t ht.1 (by omega) k (by omega) hp, ?_⟩
    rw [numR_told neg t ht.1 k, told_make, makeC_sv]
    unfold heldC
    rw [if_pos h, Int.toNat_natCast]
  · obtain ⟨m, rfl⟩ : ∃ m : Nat, sc = -(m : Int) := ⟨(-sc).toNat, by omega⟩
    exact num4_neg neg t ht hne hl m (by omega) (by omega) hp
theorem heldC_zero (sc : Int) : heldC 0 sc = (0, 0, 0) := by
  unfold heldC
  split
  · exact makeC_zero _
  · rw [Int.zero_mul]; exact makeC_zero _
theorem heldC_low {V : Int} (hV : 0 < V) {sc : Int} (h : sc < -20) : heldC V sc = (0, 0, 8) := by
  obtain ⟨m, rfl⟩ : ∃ m : Nat, sc = -(m : Int) := ⟨(-sc).toNat, by omega⟩
  unfold heldC
  rw [if_neg (by omega), show (-(-(m : Int))).toNat = m by omega, makeC_big]
  have h1 : (10 : Int) ^ 15 ≤ 10 ^ m := p10_mono (by omega)
  have e15 : (10 : Int) ^ 15 = 1000000000000000 := by decide
  have h2 : 1 * (10 : Int) ^ m ≤ V * 10 ^ m := Int.mul_le_mul_of_nonneg_right (by omega) (Int.le_of_lt (p10_pos m))
  omega
theorem heldC_high {V : Int} (hV : 0 < V) {n : Nat} (hn : V < 10 ^ n) {sc : Int} (h : (n : Int) + 9 < sc) : heldC V sc = (0, 0, 8) := by
  obtain ⟨k, rfl⟩ : ∃ k : Nat, sc = k := ⟨sc.toNat, by omega⟩
  unfold heldC
  rw [if_pos (by omega), Int.toNat_natCast]
  obtain ⟨s1, s2, s3⟩ := strip_val k V
  have hpos := p10_pos (k - (stripN V k).2)
  have hst : 9 < (stripN V k).2 := by
    apply Classical.byContradiction
    intro hc
    have h1 : (10 : Int) ^ n ≤ 10 ^ (k - (stripN V k).2) := p10_mono (by omega)
    generalize (10 : Int) ^ (k - (stripN V k).2) = P at *
    have h2 : 0 < (stripN V k).1 := by
      apply Classical.byContradiction
      intro hc2
      have : (stripN V k).1 * P ≤ 0 := Int.mul_nonpos_of_nonpos_of_nonneg (by omega) (by omega)
      omega
    have h3 : 1 * P ≤ (stripN V k).1 * P := Int.mul_le_mul_of_nonneg_right (by omega) (by omega)
    omega
  have hf : numIs (stripN V k).1 ((stripN V k).2 : Int) = false := by
    unfold numIs
    have : ¬ (((stripN V k).2 : Int) ≤ 9) := by omega
    simp [this]
  unfold makeC makeOk
  rw [hf]
  rfl
end Go.Pe.T

namespace Go.Pe.T
/-! ### a number's text, parsed -/
theorem val_app : ∀ (a b : List Int), val (a ++ b) = val a + 10 ^ a.length * val b
  | [], b => by simp [val]
  | d :: r, b => by
    have e1 : val (d :: r ++ b) = d + 10 * val (r ++ b) := rfl
    have e2 : val (d :: r) = d + 10 * val r := rfl
    rw [e1, e2, val_app r b, List.length_cons, Int.pow_succ, Int.mul_add, Int.add_assoc, Int.mul_comm (10 ^ r.length) 10, Int.mul_assoc]
theorem chU_nat (n : Nat) : (chU n).toNat = 48 + n % 10 := by
  unfold chU
  rw [UInt8.toNat_ofNat', Nat.mod_eq_of_lt (by omega)]
theorem chU_dg (n : Nat) : isDg (chU n) = true := by
  rw [isDg_iff, chU_nat]
  omega
theorem chU_val (n : Nat) : dgI (chU n) = ((n % 10 : Nat) : Int) := by
  unfold dgI
  rw [chU_nat]
  omega
theorem decT_dg : ∀ n, DgL (decT n) := by
  intro n
  induction n using Nat.strongRecOn with
  | _ n ih =>
    by_cases h : n < 10
    · rw [decT_one n h]
      intro b hb
      obtain rfl := List.mem_singleton.1 hb
      exact chU_dg n
    · rw [decT_step n h]
      exact (ih (n / 10) (by omega)).app fun b hb => by
        obtain rfl := List.mem_singleton.1 hb
        exact chU_dg n
theorem loT_dg : ∀ (i n : Nat), DgL (loT n i)
  | 0, n => fun b hb => by simp [loT] at hb
  | i + 1, n => by
    rw [loT]
    exact (loT_dg i (n / 10)).app fun b hb => by
      obtain rfl := List.mem_singleton.1 hb
      exact chU_dg n
theorem decT_val : ∀ n, val (lowD (decT n)) = (n : Int) := by
  intro n
  induction n using Nat.strongRecOn with
  | _ n ih =>
    by_cases h : n < 10
    · rw [decT_one n h]
      show dgI (chU n) + 10 * 0 = _
      rw [chU_val]
      omega
    · rw [decT_step n h, lowD_snoc]
      show dgI (chU n) + 10 * val (lowD (decT (n / 10))) = _
      rw [chU_val, ih (n / 10) (by omega)]
      omega
theorem loT_val : ∀ (i n : Nat), val (lowD (loT n i)) = ((n % 10 ^ i : Nat) : Int)
  | 0, n => by simp [loT, lowD, val, Nat.mod_one]
  | i + 1, n => by
    rw [loT, lowD_snoc]
    show dgI (chU n) + 10 * val (lowD (loT (n / 10) i)) = _
    rw [chU_val, loT_val i (n / 10), Nat.pow_succ', Nat.mod_mul]
    omega
theorem decT_ne (n : Nat) : decT n ≠ [] := by
  by_cases h : n < 10
  · rw [decT_one n h]; simp
  · rw [decT_step n h]; simp
theorem decT_head : ∀ n, 0 < n → ∀ c t, decT n = c :: t → c.toNat ≠ 48 := by
  intro n
  induction n using Nat.strongRecOn with
  | _ n ih =>
    intro hn c t hc
    by_cases h : n < 10
    · rw [decT_one n h, List.cons.injEq] at hc
      rw [← hc.1, chU_nat]
      omega
    · rw [decT_step n h] at hc
      obtain ⟨c', t', e⟩ := List.exists_cons_of_ne_nil (decT_ne (n / 10))
      rw [e, List.cons_append, List.cons.injEq] at hc
      rw [← hc.1]
      exact ih (n / 10) (by omega) (by omega) c' t' e
theorem decT_lead (n : Nat) : lead0 (decT n) = false := by
  obtain ⟨c, t, e⟩ := List.exists_cons_of_ne_nil (decT_ne n)
  by_cases h : n < 10
  · rw [decT_one n h]; rfl
  · have := decT_head n (by omega) c t e
    rw [e]
    simp [lead0, this]
theorem tw_all : ∀ {A R : List UInt8}, DgL A → (∀ c t, R = c :: t → isDg c = false) → (A ++ R).takeWhile isDg = A ∧ (A ++ R).dropWhile isDg = R
  | [], R, _, hR => by
    cases R with
    | nil => exact ⟨rfl, rfl⟩
    | cons c t =>
      have := hR c t rfl
      simp [List.takeWhile_cons, List.dropWhile_cons, this]
  | a :: A, R, hA, hR => by
    obtain ⟨h1, h2⟩ := tw_all (A := A) (R := R) (fun b hb => hA b (by simp [hb])) hR
    have := hA a (by simp)
    simp [List.takeWhile_cons, List.dropWhile_cons, this, h1, h2]
theorem dg_noneg {A R : List UInt8} (hA : DgL A) (hne : A ≠ []) : isNeg (A ++ R) = false ∧ absT (A ++ R) = A ++ R := by
  obtain ⟨c, t, rfl⟩ := List.exists_cons_of_ne_nil hne
  have h := isDg_iff.1 (hA c (by simp))
  have h2 : (c.toNat == 45) = false := by simp; omega
  simp [isNeg, absT, h2]
theorem neg_abs (T : List UInt8) : isNeg (45 :: T) = true ∧ absT (45 :: T) = T := ⟨rfl, rfl⟩
theorem body_parts (n k : Nat) : partsP (if k = 0 then decT n else decT (n / 10 ^ k) ++ 46 :: loT n k) = (if k = 0 then decT n else decT (n / 10 ^ k), if k = 0 then [] else loT n k, 0, true) := by
  by_cases hk : k = 0
  · rw [if_pos hk, if_pos hk, if_pos hk]
    obtain ⟨h1, h2⟩ := tw_all (R := []) (decT_dg n) (fun c t h => by simp at h)
    rw [List.append_nil] at h1 h2
    unfold partsP
    rw [h1, h2, decT_lead, if_neg (by simp)]
    rfl
  · rw [if_neg hk, if_neg hk, if_neg hk]
    obtain ⟨h1, h2⟩ := tw_all (R := 46 :: loT n k) (decT_dg (n / 10 ^ k)) (fun c t h => by
      rw [List.cons.injEq] at h
      rw [← h.1]; rfl)
    obtain ⟨h3, h4⟩ := tw_all (R := []) (loT_dg k n) (fun c t h => by simp at h)
    rw [List.append_nil] at h3 h4
    have hne : (loT n k).isEmpty = false := by
      have := loT_len n k
      cases hl : loT n k with
      | nil => rw [hl] at this; simp at this; omega
      | cons _ _ => rfl
    unfold partsP
    rw [h1, h2, decT_lead, if_neg (by simp), fracP, if_pos (by rfl), h3, h4, hne, if_neg (by simp)]
    rfl
theorem made_self (n : Int) (k : Nat) (h : numIs n k = true) : makeC n k = (n, (k : Int), 0) := by
  have ht : k = 0 ∨ n.tmod 10 ≠ 0 := by
    unfold numIs at h
    simp only [Bool.and_eq_true, Bool.or_eq_true, beq_iff_eq, bne_iff_ne] at h
    rcases h.2 with g | g
    · exact .inl (by omega)
    · exact .inr g
  unfold makeC makeOk
  rw [strip_self k n ht, h]
  rfl
theorem text_back (c : Int) (k : Nat) (h : numIs c k = true) : parseC (textL c k) = (c, (k : Int), 0) := by
  have hb := body_parts c.natAbs k
  have hval : val (lowD ((if k = 0 then decT c.natAbs else decT (c.natAbs / 10 ^ k)) ++ (if k = 0 then [] else loT c.natAbs k))) = (c.natAbs : Int) := by
    by_cases hk : k = 0
    · rw [if_pos hk, if_pos hk, List.append_nil, decT_val]
    · rw [if_neg hk, if_neg hk, lowD_app, val_app, decT_val, loT_val, lowD_len, loT_len]
      have e := Nat.mod_add_div c.natAbs (10 ^ k)
      have e2 : ((10 : Int) ^ k) = ((10 ^ k : Nat) : Int) := by simp
      rw [e2, ← Int.natCast_mul, ← Int.natCast_add, e]
  have hlen : (((if k = 0 then [] else loT c.natAbs k) : List UInt8).length : Int) - 0 = (k : Int) := by
    by_cases hk : k = 0
    · rw [if_pos hk, hk]; rfl
    · rw [if_neg hk, loT_len]; omega
  have hn : numIs ((c.natAbs : Nat) : Int) k = true := by
    by_cases hc : c < 0
    · have := numIs_sv true c k
      rw [h] at this
      rwa [show sv true c = ((c.natAbs : Nat) : Int) by simp only [sv, if_true]; omega] at this
    · rwa [show ((c.natAbs : Nat) : Int) = c by omega]
  have hm := made_self _ k hn
  have hh : heldC ((c.natAbs : Nat) : Int) (k : Int) = ((c.natAbs : Int), (k : Int), 0) := by
    unfold heldC
    rw [if_pos (by omega), Int.toNat_natCast, hm]
  unfold parseC textL sgnT
  by_cases hc : c < 0
  · rw [if_pos hc]
    obtain ⟨g1, g2⟩ := neg_abs (if k = 0 then decT c.natAbs else decT (c.natAbs / 10 ^ k) ++ 46 :: loT c.natAbs k)
    rw [List.singleton_append, g1, g2, hb]
    simp only [if_true, hval, hlen, hh]
    rw [show -((c.natAbs : Nat) : Int) = c by omega]
  · rw [if_neg hc, List.nil_append]
    have hne : isNeg (if k = 0 then decT c.natAbs else decT (c.natAbs / 10 ^ k) ++ 46 :: loT c.natAbs k) = false ∧ absT (if k = 0 then decT c.natAbs else decT (c.natAbs / 10 ^ k) ++ 46 :: loT c.natAbs k) = (if k = 0 then decT c.natAbs else decT (c.natAbs / 10 ^ k) ++ 46 :: loT c.natAbs k) := by
      by_cases hk : k = 0
      · rw [if_pos hk]
        have := dg_noneg (R := []) (decT_dg c.natAbs) (decT_ne _)
        rwa [List.append_nil] at this
      · rw [if_neg hk]
        exact dg_noneg (decT_dg _) (decT_ne _)
    rw [hne.1, hne.2, hb]
    simp only [if_true, Bool.false_eq_true, if_false, hval, hlen, hh]
    rw [show ((c.natAbs : Nat) : Int) = c by omega]
end Go.Pe.T

namespace Go.Pe.T
/-! ### the document's division, digit by digit -/
theorem top_len {l : List Int} (h : Top l) (m : Nat) (hv : val l < 10 ^ m) : l.length ≤ m := by
  by_cases h0 : l = []
  · subst h0; simp
  · have h1 := top_bound h h0
    apply Classical.byContradiction
    intro hc
    have : (10 : Int) ^ m ≤ 10 ^ (l.length - 1) := p10_mono (by omega)
    omega
theorem top_trim (l : List Int) (hd : Digs l) : Top (trimL l) := ⟨trimL_digs hd, trimL_top l⟩
theorem trimL_le (l : List Int) : (trimL l).length ≤ l.length := by unfold trimL; rw [List.length_take]; omega

def DvIn (na nb : Bool) (X4 : List PV) (x y num q : List Int) (i : Int) (r : List Int) (k : Nat) : Prop :=
  ∃ r' : List Int, Top r' ∧ val r' = val r % val y ∧
    V (F tab) r27_B1 (r27_S1 (.ibox X4) (.ibox [.d (.bool na), .d (dl x)]) (.ibox [.d (.bool nb), .d (dl y)]) (.ibox [.d (.bool false), .d (dl num)]) (.d (dl q)) (.d (dl r)) (.d (iv i)) (.d (iv k)) []) =
      some (.norm, r27_E1 (.ibox X4) (.ibox [.d (.bool na), .d (dl x)]) (.ibox [.d (.bool nb), .d (dl y)]) (.ibox [.d (.bool false), .d (dl num)]) (.d (dl q)) (.d (dl r')) (.d (iv i)) (.d (iv (k + val r / val y))) [])

theorem dv_end (na nb : Bool) (X4 : List PV) (x y num q : List Int) (i : Int) (r : List Int) (k : Nat) (hy : Top y) (hy0 : 0 < val y) (hyl : y.length ≤ 900) (hr : Top r) (hrl : r.length ≤ 900) (h : val r < val y) : DvIn na nb X4 x y num q i r k := by
  have hb := (val_bound hr.1).1
  have hym : y ≠ [] := by intro e; subst e; simp [val] at hy0
  have hyl0 : 0 < y.length := List.length_pos_iff.2 hym
  have h1 : ((y.length : Int) > 0) = True := eq_true (by omega)
  have ha := above_ok r y (by omega) (by omega)
  rw [(aboveL_val hr hy).1] at ha
  have e1 : val r / val y = 0 := Int.ediv_eq_zero_of_lt hb h
  have e2 : val r % val y = val r := Int.emod_eq_of_lt hb h
  have hd : decide (val y ≤ val r) = false := by simp; omega
  rw [hd] at ha
  refine ⟨r, hr, e2.symm, ?_⟩
  rw [r27_B1_eq, e1, Int.add_zero]
  simp (disch := omega) only [go_sem, and_self, and_true, true_and, false_and, and_false, Nat.reduceAdd, Nat.reduceMul, Nat.reduceSub, Nat.reduceLeDiff, Nat.reduceLT, Nat.reduceGT, Nat.reduceEqDiff, Nat.reduceBEq, Int.reduceNeg, Int.reduceEq, Int.reduceLT, Int.reduceLE, Int.reduceBEq, Int.reduceToNat, Int.toNat_natCast, Int.natCast_zero, r27_C1, h1, ha, List.length_map]
theorem dv_step (na nb : Bool) (X4 : List PV) (x y num q : List Int) (i : Int) (r : List Int) (k : Nat) (hk : k ≤ 100) (hy : Top y) (hy0 : 0 < val y) (hyl : y.length ≤ 900) (hr : Top r) (hrl : r.length ≤ 900) (h : val y ≤ val r)
    (ih : ∀ r1, Top r1 → r1.length ≤ r.length → val r1 = val r - val y → DvIn na nb X4 x y num q i r1 (k + 1)) : DvIn na nb X4 x y num q i r k := by
  have hb := (val_bound hr.1).1
  have hym : y ≠ [] := by intro e; subst e; simp [val] at hy0
  have hyl0 : 0 < y.length := List.length_pos_iff.2 hym
  have h1 : ((y.length : Int) > 0) = True := eq_true (by omega)
  have ha := above_ok r y (by omega) (by omega)
  obtain ⟨a1, a2, _⟩ := aboveL_val hr hy
  rw [a1] at ha a2
  have hd : decide (val y ≤ val r) = true := by simp; omega
  rw [hd] at ha a2
  have hle := a2 rfl
  have hls := less_ok r y hr.1 hy.1 (by omega) (by omega)
  obtain ⟨_, l2, l3⟩ := less_val r y 0 hr.1 hy.1 (by omega) (by omega) hle
  have lv := less_exact hr.1 hy.1 hle h
  have ht := trim_ok' false (lessL r y 0) (by omega)
  simp only [trimmed_shape] at ht
  obtain ⟨r', g1, g2, g3⟩ := ih (trimL (lessL r y 0)) (top_trim _ l2) (by have := trimL_le (lessL r y 0); omega) (by rw [trimL_val, lv])
  rw [trimL_val, lv] at g2 g3
  have e1 : (k : Int) + 1 = ((k + 1 : Nat) : Int) := rfl
  have e2 : ((k + 1 : Nat) : Int) + (val r - val y) / val y = (k : Int) + val r / val y := by
    have := Int.sub_ediv_of_dvd (val r) (Int.dvd_refl (val y))
    rw [this, Int.ediv_self (by omega)]
    omega
  have e3 : (val r - val y) % val y = val r % val y := by rw [Int.sub_emod_right]
  rw [e2] at g3
  refine ⟨r', g1, by rw [g2, e3], ?_⟩
  rw [r27_B1_eq]
  simp (disch := omega) only [go_sem, and_self, and_true, true_and, false_and, and_false, Nat.reduceAdd, Nat.reduceMul, Nat.reduceSub, Nat.reduceLeDiff, Nat.reduceLT, Nat.reduceGT, Nat.reduceEqDiff, Nat.reduceBEq, Int.reduceNeg, Int.reduceEq, Int.reduceLT, Int.reduceLE, Int.reduceBEq, Int.reduceToNat, Int.toNat_natCast, Int.natCast_zero, r27_C1, h1, ha, hls, ht, e1, List.length_map, List.getElem?_cons_succ, List.getElem?_cons_zero, w64]
  exact g3
theorem dv_loop (na nb : Bool) (X4 : List PV) (x y num q : List Int) (i : Int) (hy : Top y) (hy0 : 0 < val y) (hyl : y.length ≤ 900) : ∀ (m k : Nat) (r : List Int), k + m ≤ 100 → Top r → r.length ≤ 900 → val r < ((m : Int) + 1) * val y → DvIn na nb X4 x y num q i r k
  | 0, k, r, hk, hr, hrl, h => dv_end na nb X4 x y num q i r k hy hy0 hyl hr hrl (by simpa using h)
  | m + 1, k, r, hk, hr, hrl, h => by
    by_cases hlt : val r < val y
    · exact dv_end na nb X4 x y num q i r k hy hy0 hyl hr hrl hlt
    · refine dv_step na nb X4 x y num q i r k (by omega) hy hy0 hyl hr hrl (by omega) fun r1 h1 h2 h3 => ?_
      refine dv_loop na nb X4 x y num q i hy hy0 hyl m (k + 1) r1 (by omega) h1 (by omega) ?_
      rw [h3]
      have : ((m + 1 : Nat) : Int) + 1 = ((m : Int) + 1) + 1 := rfl
      rw [this, Int.add_mul ((m : Int) + 1), Int.one_mul] at h
      omega

def DvOut (na nb : Bool) (X4 : List PV) (x y num q r : List Int) (n : Nat) : Prop :=
  ∃ q' r' : List Int, Digs q' ∧ q'.length ≤ num.length ∧ Top r' ∧ val q' = val num / val y ∧ val r' = val num % val y ∧
    V (F tab) r27_B0 (r27_S0 (.ibox X4) (.ibox [.d (.bool na), .d (dl x)]) (.ibox [.d (.bool nb), .d (dl y)]) (.ibox [.d (.bool false), .d (dl num)]) (.d (dl q)) (.d (dl r)) (.d (iv ((n : Int) - 1))) []) =
      some (.norm, r27_E0 (.ibox X4) (.ibox [.d (.bool na), .d (dl x)]) (.ibox [.d (.bool nb), .d (dl y)]) (.d (dl q')) (.d (dl r')) [])
theorem dz_end (na nb : Bool) (X4 : List PV) (x y num q r : List Int) (hy0 : 0 < val y) (hq : Digs q) (hql : q.length ≤ num.length) (hr : Top r) (hlt : val r < val y) (hv : val num = val q * val y + val r) : DvOut na nb X4 x y num q r 0 := by
  have hb := (val_bound hr.1).1
  have h1 : (((0 : Nat) : Int) - 1 ≥ 0) = False := eq_false (by omega)
  have h3 : ((0 : Int) - 1 ≥ 0) = False := eq_false (by omega)
  refine ⟨q, r, hq, hql, hr, ?_, ?_, ?_⟩
  · rw [hv, Int.add_comm, Int.add_mul_ediv_right _ _ (by omega), Int.ediv_eq_zero_of_lt hb hlt]; omega
  · rw [hv, Int.add_comm, Int.add_mul_emod_self_right, Int.emod_eq_of_lt hb hlt]
  · rw [r27_B0_eq]
    simp (disch := omega) only [go_sem, and_self, and_true, true_and, false_and, and_false, Nat.reduceAdd, Nat.reduceMul, Nat.reduceSub, Nat.reduceLeDiff, Nat.reduceLT, Nat.reduceGT, Nat.reduceEqDiff, Nat.reduceBEq, Int.reduceNeg, Int.reduceEq, Int.reduceLT, Int.reduceLE, Int.reduceBEq, Int.reduceToNat, Int.toNat_natCast, Int.natCast_zero, r27_C0, h1, h3]

set_option maxHeartbeats 1000000 in
theorem dz_step (na nb : Bool) (X4 : List PV) (x y num q r : List Int) (n : Nat) (hn : n < num.length) (hnl : num.length ≤ 400) (d : Int) (hd : num[n]? = some d) (hdd : digit d) (hql : q.length ≤ 400) (hr : Top r) (hrl : r.length ≤ 400) (hin : DvIn na nb X4 x y num q n (trimL (d :: r)) 0)
    (ih : ∀ r' : List Int, Top r' → val r' = (d + 10 * val r) % val y → DvOut na nb X4 x y num ((d + 10 * val r) / val y :: q) r' n) : DvOut na nb X4 x y num q r (n + 1) := by
  have h1 : (((n + 1 : Nat) : Int) - 1 ≥ 0) = True := eq_true (by omega)
  have e1 : ((n + 1 : Nat) : Int) - 1 = (n : Int) := by omega
  have h2 : ((n : Int) ≥ 0) = True := eq_true (by omega)
  have i0 : (0 ≤ (n : Int)) = True := eq_true (by omega)
  have va : (num.map iv)[n]? = some (iv d) := dl_get hd
  obtain ⟨r', g1, g2, g3⟩ := hin
  have hv : val (d :: r) = d + 10 * val r := rfl
  rw [trimL_val, hv] at g2 g3
  have z : ((0 : Nat) : Int) = 0 := rfl
  rw [z, Int.zero_add] at g3
  obtain ⟨q', r2, o1, o2, o3, o4, o5, o6⟩ := ih r' g1 g2
  refine ⟨q', r2, o1, o2, o3, o4, o5, ?_⟩
  have ht := trim_ok' false (d :: r) (by simp; omega)
  simp only [trimmed_shape] at ht
  have q1 : (r.map iv).all (fun y => y.width == 1) = true := dl_all r
  have q2 : (q.map iv).all (fun y => y.width == 1) = true := dl_all q
  have q3 : ((0 + 1) * 8 ≤ maxRow) = True := eq_true (by simp [maxRow])
  have q4 : ((1 + r.length) * 8 ≤ maxRow) = True := eq_true (by simp only [maxRow]; omega)
  have q5 : ((1 + q.length) * 8 ≤ maxRow) = True := eq_true (by simp only [maxRow]; omega)
  have q6 : [iv d] ++ r.map iv = (d :: r).map iv := rfl
  have q7 : [iv ((d + 10 * val r) / val y)] ++ q.map iv = ((d + 10 * val r) / val y :: q).map iv := rfl
  rw [r27_B0_eq, e1]
  simp only [dl, List.map_cons] at g3 o6 ht ⊢
  generalize (d + 10 * val r) / val y = kk at *
  simp (maxSteps := 1000000) (disch := omega) only [go_sem, and_self, and_true, true_and, false_and, and_false, Nat.reduceAdd, Nat.reduceMul, Nat.reduceSub, Nat.reduceLeDiff, Nat.reduceLT, Nat.reduceGT, Nat.reduceEqDiff, Nat.reduceBEq, Int.reduceNeg, Int.reduceEq, Int.reduceLT, Int.reduceLE, Int.reduceBEq, Int.reduceToNat, Int.toNat_natCast, Int.natCast_zero, r27_C0, h2, i0, va, q1, q3, q4, q6, ht, List.length_map, List.length_nil, List.length_cons, List.all_cons, List.all_nil, decide_true, Bool.and_true, Bool.true_and, List.getElem?_cons_succ, List.getElem?_cons_zero]
  rw [r27_B1_n]
  erw [g3]
  simp (maxSteps := 1000000) (disch := omega) only [go_sem, and_self, and_true, true_and, false_and, and_false, Nat.reduceAdd, Nat.reduceMul, Nat.reduceSub, Nat.reduceLeDiff, Nat.reduceLT, Nat.reduceGT, Nat.reduceEqDiff, Nat.reduceBEq, Int.reduceNeg, Int.reduceEq, Int.reduceLT, Int.reduceLE, Int.reduceBEq, Int.reduceToNat, Int.toNat_natCast, Int.natCast_zero, q2, q3, q5, q7, List.length_map, List.length_nil, List.length_cons, List.all_cons, List.all_nil, decide_true, Bool.and_true, Bool.true_and, w64]
  exact o6

theorem dz_loop (na nb : Bool) (X4 : List PV) (x y num : List Int) (hnum : Digs num) (hnl : num.length ≤ 400) (hy : Top y) (hy0 : 0 < val y) (hyl : y.length ≤ 399) : ∀ (n : Nat) (q r : List Int), n ≤ num.length → Digs q → q.length + n = num.length → Top r → val r < val y → val (num.drop n) = val q * val y + val r → DvOut na nb X4 x y num q r n
  | 0, q, r, hn, hq, hql, hr, hlt, hv => dz_end na nb X4 x y num q r hy0 hq (by omega) hr hlt (by simpa using hv)
  | n + 1, q, r, hn, hq, hql, hr, hlt, hv => by
    have hx : num[n]? = some num[n] := List.getElem?_eq_getElem (by omega)
    have hdd := hnum num[n] (List.getElem_mem _)
    have hdr : num.drop n = num[n] :: num.drop (n + 1) := List.drop_eq_getElem_cons (by omega)
    generalize num[n] = d at *
    have hb := (val_bound hr.1).1
    have hyb := (val_bound hy.1).2
    have hrl := top_len hr y.length (by omega)
    have hd1 : Digs (d :: r) := Digs.mk hdd hr.1
    have hv1 : val (d :: r) = d + 10 * val r := rfl
    unfold digit at hdd
    have hkk0 : 0 ≤ (d + 10 * val r) / val y := Int.ediv_nonneg (by omega) (by omega)
    have hkk9 : (d + 10 * val r) / val y < 10 := Int.ediv_lt_of_lt_mul (by omega) (by omega)
    have hmm := Int.mul_ediv_add_emod (d + 10 * val r) (val y)
    have hm0 := Int.emod_lt_of_pos (d + 10 * val r) hy0
    refine dz_step na nb X4 x y num q r n (by omega) hnl d hx (by unfold digit; omega) (by omega) hr (by omega) ?_ fun r' g1 g2 => ?_
    · refine dv_loop na nb X4 x y num q n hy hy0 (by omega) 10 0 (trimL (d :: r)) (by omega) (top_trim _ hd1) (by have := trimL_le (d :: r); simp only [List.length_cons] at this; omega) ?_
      rw [trimL_val, hv1]; omega
    · refine dz_loop na nb X4 x y num hnum hnl hy hy0 hyl n _ r' (by omega) (Digs.mk (by unfold digit; omega) hq) (by simp only [List.length_cons]; omega) g1 (by omega) ?_
      rw [hdr, g2]
      have e1 : val (d :: num.drop (n + 1)) = d + 10 * val (num.drop (n + 1)) := rfl
      have e2 : val ((d + 10 * val r) / val y :: q) = (d + 10 * val r) / val y + 10 * val q := rfl
      have e3 : (d + 10 * val r) / val y * val y = val y * ((d + 10 * val r) / val y) := Int.mul_comm _ _
      rw [e1, e2, hv, Int.add_mul, Int.mul_assoc 10, e3]
      generalize val q * val y = A at *
      generalize val y * ((d + 10 * val r) / val y) = B at *
      generalize (d + 10 * val r) % val y = C at *
      omega

/-- the quotient, by ten more places; none: something is left -/
def divT (c c' : Int) (k k' : Nat) : PV :=
  if (10 ^ 10 * (10 ^ (max k k' - k) * (c.natAbs : Int))) % (10 ^ (max k k' - k') * (c'.natAbs : Int)) = 0
  then madeT (sv (!(decide (c < 0) == decide (c' < 0))) ((10 ^ 10 * (10 ^ (max k k' - k) * (c.natAbs : Int))) / (10 ^ (max k k' - k') * (c'.natAbs : Int)))) 10
  else .tup [.d (.agg [iv 0, iv 0]), .d (iv 8)]

set_option maxHeartbeats 1000000 in
theorem div4_ok (c c' : Int) (k k' : Nat) (hk : k ≤ 9) (hk' : k' ≤ 9) (hc : -1000000000000000 < c ∧ c < 1000000000000000) (hc' : -1000000000000000 < c' ∧ c' < 1000000000000000) (h0 : c' ≠ 0) (hp : List Ent) :
    F tab 27 [.d (numD c k), .d (numD c' k')] hp = some (.ret (divT c c' k k') hp) := by
  have hl := line_ok c c' k k' hk hk' hc hc'
  obtain ⟨t1, v1, n1⟩ := at_top c (max k k' - k)
  obtain ⟨t2, v2, n2⟩ := at_top c' (max k k' - k')
  rw [n1, n2] at hl
  have e24 : (10 : Int) ^ 24 = 1000000000000000000000000 := by decide
  have hp1 : (10 : Int) ^ (max k k' - k) ≤ 10 ^ 9 := p10_mono (by omega)
  have hp2 : (10 : Int) ^ (max k k' - k') ≤ 10 ^ 9 := p10_mono (by omega)
  have hq1 := p10_pos (max k k' - k)
  have hq2 := p10_pos (max k k' - k')
  have e9 : (10 : Int) ^ 9 = 1000000000 := by decide
  have l1 : (atL c (max k k' - k)).length ≤ 24 := top_len t1 24 (by
    rw [v1, e24]
    have g : (10 : Int) ^ (max k k' - k) * (c.natAbs : Int) ≤ 1000000000 * (c.natAbs : Int) := Int.mul_le_mul_of_nonneg_right (by omega) (by omega)
    omega)
  have l2 : (atL c' (max k k' - k')).length ≤ 24 := top_len t2 24 (by
    rw [v2, e24]
    have g : (10 : Int) ^ (max k k' - k') * (c'.natAbs : Int) ≤ 1000000000 * (c'.natAbs : Int) := Int.mul_le_mul_of_nonneg_right (by omega) (by omega)
    omega)
  have hy0 : 0 < val (atL c' (max k k' - k')) := by rw [v2]; exact Int.mul_pos hq2 (by omega)
  have hsh := shift_ok false (atL c (max k k' - k)) (by omega) 10 (by omega)
  obtain ⟨s1, s2, s3⟩ := shift_val (atL c (max k k' - k)) t1.1 10
  have ff : (false && trimN (List.replicate 10 0 ++ atL c (max k k' - k)) (10 + (atL c (max k k' - k)).length) != 0) = false := rfl
  rw [ff] at hsh
  have c0 : (c' == 0) = false := by simpa using h0
  unfold divT
  rw [← v1, ← v2, ← s2]
  generalize hx : atL c (max k k' - k) = x at *
  generalize hy : atL c' (max k k' - k') = y at *
  generalize hN : shiftL x 10 = num at *
  have ten : ((10 : Nat) : Int) = 10 := rfl
  obtain ⟨q, r, o1, o2, o3, o4, o5, o6⟩ := dz_loop (decide (c < 0)) (decide (c' < 0)) [.d (iv 0), .d (iv 0)] x y num s1 (by omega) t2 hy0 (by omega) num.length [] [] (Nat.le_refl _) Digs.nil (by simp) ⟨Digs.nil, by simp⟩ hy0 (by rw [List.drop_of_length_le (Nat.le_refl _)]; show (0 : Int) = 0 * _ + 0; omega)
  have ht := told4_ok (!(decide (c < 0) == decide (c' < 0))) q o1 (by omega) 10 (by omega)
  rw [ten] at hsh ht
  rw [o4] at ht
  simp only [dl, longD, List.map_nil] at hl hsh o6 ht
  have i0 : ([] : List Int).map iv = [] := rfl
  refine f27 rfl ?_
  simp (maxSteps := 1000000) (disch := omega) only [go_sem, and_self, and_true, true_and, false_and, and_false, Nat.reduceAdd, Nat.reduceMul, Nat.reduceSub, Nat.reduceLeDiff, Nat.reduceLT, Nat.reduceGT, Nat.reduceEqDiff, Nat.reduceBEq, Int.reduceNeg, Int.reduceEq, Int.reduceLT, Int.reduceLE, Int.reduceBEq, Int.reduceToNat, Int.toNat_natCast, Int.natCast_zero, r27_T, r27, numD, c0, hl, hsh, List.length_map, w64]
  rw [r27_B0_n]
  erw [o6]
  by_cases hr : val num % val y = 0
  · rw [hr] at o5
    have hrn : r = [] := by
      apply Classical.byContradiction
      intro hne
      have := top_bound o3 hne
      have := p10_pos (r.length - 1)
      omega
    subst hrn
    rw [if_pos hr]
    obtain ⟨a, b, e, hm⟩ := made_ex (sv (!(decide (c < 0) == decide (c' < 0))) (val num / val y)) 10
    rw [hm] at ht ⊢
    have z : ((0 : Int) > 0) = False := eq_false (by omega)
    simp (maxSteps := 1000000) (disch := omega) only [go_sem, and_self, and_true, true_and, false_and, and_false, Nat.reduceAdd, Nat.reduceMul, Nat.reduceSub, Nat.reduceLeDiff, Nat.reduceLT, Nat.reduceGT, Nat.reduceEqDiff, Nat.reduceBEq, Int.reduceNeg, Int.reduceEq, Int.reduceLT, Int.reduceLE, Int.reduceBEq, Int.reduceToNat, Int.toNat_natCast, Int.natCast_zero, i0, List.length_nil, z, ht]
  · rw [if_neg hr]
    have hrl : 0 < r.length := by
      apply Nat.pos_of_ne_zero
      intro e
      have := List.eq_nil_of_length_eq_zero e
      subst this
      exact hr o5.symm
    have z : ((r.length : Int) > 0) = True := eq_true (by omega)
    simp (maxSteps := 1000000) (disch := omega) only [go_sem, and_self, and_true, true_and, false_and, and_false, Nat.reduceAdd, Nat.reduceMul, Nat.reduceSub, Nat.reduceLeDiff, Nat.reduceLT, Nat.reduceGT, Nat.reduceEqDiff, Nat.reduceBEq, Int.reduceNeg, Int.reduceEq, Int.reduceLT, Int.reduceLE, Int.reduceBEq, Int.reduceToNat, Int.toNat_natCast, Int.natCast_zero, List.length_map, z]
end Go.Pe.T

namespace Go.Pe.T
/-! ### what a quotient is -/
def QSol (c c' : Int) (k k' : Nat) (z : Int) (s : Nat) : Prop := z * c' * 10 ^ k = c * 10 ^ (s + k')
/-- the one number whose product is the dividend, or none -/
def QSpec (c c' : Int) (k k' : Nat) (T : PV) : Prop :=
  (∃ (z : Int) (s : Nat), T = .tup [.d (.agg [iv z, iv s]), .d (iv 0)] ∧ numIs z s = true ∧ QSol c c' k k' z s) ∨
  (T = .tup [.d (.agg [iv 0, iv 0]), .d (iv 8)] ∧ ∀ (z : Int) (s : Nat), numIs z s = true → ¬ QSol c c' k k' z s)

theorem mul_p10 {a b : Int} (n : Nat) (h : a * 10 ^ n = b * 10 ^ n) : a = b := Int.eq_of_mul_eq_mul_right (by have := p10_pos n; omega) h

theorem qspec_one {c c' : Int} {k k' : Nat} (h0 : c' ≠ 0) {T U : PV} (h1 : QSpec c c' k k' T) (h2 : QSpec c c' k k' U) : T = U := by
  rcases h1 with ⟨z, s, rfl, n1, e1⟩ | ⟨rfl, g1⟩
  · rcases h2 with ⟨w, t, rfl, n2, e2⟩ | ⟨_, g2⟩
    · unfold QSol at e1 e2
      have key : z * 10 ^ t * (c' * 10 ^ k) = w * 10 ^ s * (c' * 10 ^ k) := by
        have a1 : z * 10 ^ t * (c' * 10 ^ k) = z * c' * 10 ^ k * 10 ^ t := by
          rw [Int.mul_assoc, Int.mul_comm (10 ^ t), ← Int.mul_assoc, ← Int.mul_assoc]
        have a2 : w * 10 ^ s * (c' * 10 ^ k) = w * c' * 10 ^ k * 10 ^ s := by
          rw [Int.mul_assoc, Int.mul_comm (10 ^ s), ← Int.mul_assoc, ← Int.mul_assoc]
        rw [a1, a2, e1, e2, Int.mul_assoc, Int.mul_assoc, ← Int.pow_add, ← Int.pow_add, show s + k' + t = t + k' + s by omega]
      have hne : c' * 10 ^ k ≠ 0 := Int.mul_ne_zero h0 (by have := p10_pos k; omega)
      have e : z * 10 ^ t = w * 10 ^ s := Int.eq_of_mul_eq_mul_right hne key
      obtain ⟨s', es, hs, _⟩ := numIs_inv n1
      obtain ⟨t', et, ht, _⟩ := numIs_inv n2
      have es := Int.ofNat.inj es
      have et := Int.ofNat.inj et
      have hf : flatN z s = flatN w t := by
        unfold flatN
        refine mul_p10 (s + t) ?_
        rw [Int.mul_assoc, Int.mul_assoc, ← Int.pow_add, ← Int.pow_add, show 9 - s + (s + t) = t + 9 by omega, show 9 - t + (s + t) = s + 9 by omega, Int.pow_add, Int.pow_add, ← Int.mul_assoc, ← Int.mul_assoc, e]
      obtain ⟨r1, r2⟩ := num_inj n1 n2 hf
      rw [r1, r2]
    · exact absurd e1 (g2 z s n1)
  · rcases h2 with ⟨w, t, rfl, n2, e2⟩ | ⟨rfl, _⟩
    · exact absurd e2 (g1 w t n2)
    · rfl

theorem numIs_tail {z : Int} {s : Nat} (h : numIs z s = true) : s = 0 ∨ z.tmod 10 ≠ 0 := by
  unfold numIs at h
  simp only [Bool.and_eq_true, Bool.or_eq_true, beq_iff_eq, bne_iff_ne] at h
  rcases h.2 with g | g
  · exact .inl (by omega)
  · exact .inr g
/-- a solution is the digits, noughts taken off -/
theorem sol_strip {z P : Int} {s sc : Nat} (h : numIs z s = true) (e : z * 10 ^ sc = P * 10 ^ s) : stripN P sc = (z, s) := by
  have h1 := strip_scale P sc s
  have h2 := strip_scale z s sc
  rw [← e, show sc + s = s + sc by omega, h2, strip_self s z (numIs_tail h)] at h1
  exact h1.symm

/-- what is made of a coefficient and a scale is the quotient, if the solutions are those -/
theorem qspec_made {c c' : Int} {k k' : Nat} {P : Int} {sc : Nat} (h : ∀ (z : Int) (s : Nat), QSol c c' k k' z s ↔ z * 10 ^ sc = P * 10 ^ s) : QSpec c c' k k' (madeT P sc) := by
  rcases Bool.eq_false_or_eq_true (makeOk P sc) with g | g
  · refine .inl ⟨(stripN P sc).1, (stripN P sc).2, made_yes g, g, (h _ _).2 ?_⟩
    obtain ⟨h1, h2, _⟩ := strip_val sc P
    generalize stripN P sc = q at *
    have : (10 : Int) ^ sc = 10 ^ (sc - q.2) * 10 ^ q.2 := by rw [← Int.pow_add, show sc - q.2 + q.2 = sc by omega]
    rw [this, ← Int.mul_assoc, h2]
  · refine .inr ⟨made_no g, fun z s hn hq => ?_⟩
    have hs := sol_strip hn ((h z s).1 hq)
    unfold makeOk at g
    rw [hs] at g
    simp only at g
    rw [hn] at g
    simp at g
/-- none, where it would be too great -/
theorem qspec_none {c c' : Int} {k k' : Nat} {P : Int} {sc : Nat} (h : ∀ (z : Int) (s : Nat), QSol c c' k k' z s ↔ z * 10 ^ sc = P * 10 ^ s) (hb : makeOk P sc = false) : QSpec c c' k k' (.tup [.d (.agg [iv 0, iv 0]), .d (iv 8)]) := by
  have := qspec_made h
  rwa [made_no hb] at this

theorem abs_of (c : Int) : ∃ σ : Bool, c = sv σ (c.natAbs : Int) ∧ σ = decide (c < 0) := ⟨_, (sv_abs c).symm, rfl⟩
theorem sv_sv (a b : Bool) (v : Int) : sv a (sv b v) = sv (!(a == b)) v := by cases a <;> cases b <;> simp [sv]
theorem sv_inj {a : Bool} {u v : Int} (h : sv a u = sv a v) : u = v := by cases a <;> simp [sv] at h <;> omega
theorem sv_mulL (a : Bool) (u v : Int) : sv a u * v = sv a (u * v) := by cases a <;> simp [sv, Int.neg_mul]

/-- the solutions, at ten more places -/
theorem qsol_ten {c c' : Int} {k k' : Nat} (hk : k ≤ 9) (hk' : k' ≤ 9) (z : Int) (s : Nat) :
    QSol c c' k k' z s ↔ z * 10 ^ 10 * (10 ^ (max k k' - k') * c') = 10 ^ 10 * (10 ^ (max k k' - k) * c) * 10 ^ s * 10 ^ 0 := by
  unfold QSol
  have e1 : z * 10 ^ 10 * (10 ^ (max k k' - k') * c') * 10 ^ (k + k') = z * c' * 10 ^ k * 10 ^ (10 + max k k') := by
    have : (10 : Int) ^ (10 + max k k') = 10 ^ 10 * (10 ^ (max k k' - k') * 10 ^ k') := by
      rw [← Int.pow_add, ← Int.pow_add, show 10 + (max k k' - k' + k') = 10 + max k k' by omega]
    rw [this, Int.pow_add]
    simp only [Int.mul_assoc, Int.mul_comm, Int.mul_left_comm]
  have e2 : 10 ^ 10 * (10 ^ (max k k' - k) * c) * 10 ^ s * 10 ^ 0 * 10 ^ (k + k') = c * 10 ^ (s + k') * 10 ^ (10 + max k k') := by
    have : (10 : Int) ^ (10 + max k k') = 10 ^ 10 * (10 ^ (max k k' - k) * 10 ^ k) := by
      rw [← Int.pow_add, ← Int.pow_add, show 10 + (max k k' - k + k) = 10 + max k k' by omega]
    rw [this, Int.pow_add, Int.pow_add, Int.pow_zero, Int.mul_one]
    simp only [Int.mul_assoc, Int.mul_comm, Int.mul_left_comm]
  constructor
  · intro h
    refine mul_p10 (k + k') ?_
    rw [e1, e2, h]
  · intro h
    refine mul_p10 (10 + max k k') ?_
    rw [← e1, ← e2, h]

theorem divT_spec (c c' : Int) (k k' : Nat) (hk : k ≤ 9) (hk' : k' ≤ 9) (h0 : c' ≠ 0) : QSpec c c' k k' (divT c c' k k') := by
  have hsol := fun z s => qsol_ten (c := c) (c' := c') hk hk' z s
  have sc := sv_abs c
  have sc' := sv_abs c'
  have hY : 0 < 10 ^ (max k k' - k') * (c'.natAbs : Int) := Int.mul_pos (p10_pos _) (by omega)
  unfold divT
  generalize hN : (10 : Int) ^ 10 * (10 ^ (max k k' - k) * (c.natAbs : Int)) = N at *
  generalize hYY : (10 : Int) ^ (max k k' - k') * (c'.natAbs : Int) = Y at *
  generalize hm : decide (c < 0) = σ at *
  generalize hm' : decide (c' < 0) = τ at *
  have eN : (10 : Int) ^ 10 * (10 ^ (max k k' - k) * c) = sv σ N := by rw [← sc, ← hN, sv_mul, sv_mul]
  have eY : (10 : Int) ^ (max k k' - k') * c' = sv τ Y := by rw [← sc', ← hYY, sv_mul]
  have hsol2 : ∀ (z : Int) (s : Nat), QSol c c' k k' z s ↔ z * 10 ^ 10 * Y = sv (!(σ == τ)) N * 10 ^ s := by
    intro z s
    rw [hsol z s, eN, eY, Int.pow_zero, Int.mul_one]
    cases σ <;> cases τ <;> simp [sv, Int.mul_neg, Int.neg_mul] <;> omega
  by_cases hr : N % Y = 0
  · rw [if_pos hr]
    refine qspec_made fun z s => ?_
    rw [hsol2 z s]
    have hd : N = N / Y * Y := by have := Int.mul_ediv_add_emod N Y; rw [Int.mul_comm] at this; omega
    generalize N / Y = Q at *
    rw [hd, ← sv_mulL, Int.mul_assoc (sv _ Q), Int.mul_comm Y, ← Int.mul_assoc]
    constructor
    · exact fun h => Int.eq_of_mul_eq_mul_right (by omega) h
    · intro h; rw [h]
  · rw [if_neg hr]
    refine .inr ⟨rfl, fun z s hn hq => ?_⟩
    obtain ⟨s', es, hs, _⟩ := numIs_inv hn
    have es := Int.ofNat.inj es
    rw [hsol2 z s] at hq
    have e10 : (10 : Int) ^ 10 = 10 ^ (10 - s) * 10 ^ s := by rw [← Int.pow_add, show 10 - s + s = 10 by omega]
    have h2 : z * 10 ^ (10 - s) * Y = sv (!(σ == τ)) N := by
      refine mul_p10 s ?_
      rw [← hq, e10, ← Int.mul_assoc, Int.mul_assoc _ (10 ^ s) Y, Int.mul_comm (10 ^ s) Y, ← Int.mul_assoc]
    have h3 : (sv (!(σ == τ)) N) % Y = 0 := by rw [← h2]; exact Int.mul_emod_left _ _
    cases hb : !(σ == τ) with
    | true =>
      rw [hb] at h3
      simp only [sv, if_true] at h3
      have := Int.emod_emod_of_dvd
      exact hr (Int.emod_eq_zero_of_dvd (Int.dvd_neg.1 (Int.dvd_of_emod_eq_zero h3)))
    | false =>
      rw [hb] at h3
      simp only [sv, Bool.false_eq_true, if_false] at h3
      exact hr h3
end Go.Pe.T
