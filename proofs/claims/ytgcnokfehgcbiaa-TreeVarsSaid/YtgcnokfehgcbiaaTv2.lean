/- A part of the proof of: The law TreeVars holds: whatever expression comes in, tree.Vars names what the document's answer names, in the same order, so the law returns true and leaves its argument as it was; there is no condition. -/
import Derived.Test.YtgcnokfehgcbiaaTv1
import Derived.Test.YtgcnokfehgcbiaaPe2
import Derived.KernelRfl
set_option linter.unusedSimpArgs false
set_option linter.unusedVariables false
set_option maxRecDepth 10000

namespace Go.Pe.T

/-! ### all parts of an expression -/

theorem take_more {α : Type} (a b : List α) (n : Nat) (h : a.length < n) : a ++ b.take (n - a.length) = (a ++ b).take n := by
  rw [List.take_append, List.take_of_length_le (Nat.le_of_lt h)]
theorem take_app {α : Type} (a b : List α) (n : Nat) : (a.take n ++ b).take n = (a ++ b).take n := by
  simp only [List.take_append, List.take_take, Nat.min_self, List.length_take]
  congr 2
  omega

theorem xencs_all (a : List Xp) : ((Xp.encs a).all fun y => y.width == 8) = true := by
  simp only [List.all_eq_true, beq_iff_eq]
  intro y hy
  rw [xencs_eq, List.mem_map] at hy
  obtain ⟨x, _, rfl⟩ := hy
  exact xenc_w x
theorem row_len {a b k : Nat} (hk : k ≤ 1000) (h : a + b ≤ 1000000) : ((a + b) * k ≤ maxRow) = True :=
  eq_true (by
    have := Nat.mul_le_mul h hk
    simp only [maxRow]
    omega)

def AllIs (e : Xp) (m : Nat) : Prop := ∀ hp : List Ent, F tab 21 [.d e.enc, .d (iv m)] hp = some (.ret (.d (.sl (Xp.encs (e.pre.take m)))) hp)

def AllLoop (o : Int) (t : ByteArray) (p k c s : Int) (ns : List D) (xs : List Xp) (m i : Nat) (l : List Xp) : Prop :=
    V (F tab) r21_B0 (r21_S0 (.d (iv m)) (.ibox [.d (iv o), .d (.str t), .d (iv p), .d (iv k), .d (iv c), .d (iv s), .d (.sl ns), .d (.sl (Xp.encs xs))]) (.own 35 (Xp.encs l)) (.d (iv i)) []) =
      some (.norm, r21_E0 (.own 35 (Xp.encs ((l ++ Xp.pres (xs.drop i)).take m))) [])

theorem all_end (o : Int) (t : ByteArray) (p k c s : Int) (ns : List D) (xs : List Xp) (m i : Nat) (l : List Xp) (hlm : l.length ≤ m) (hi : xs.length ≤ i) : AllLoop o t p k c s ns xs m i l := by
  have h1 : ((i : Int) < (xs.length : Int)) = False := eq_false (by omega)
  unfold AllLoop
  rw [r21_B0_eq, List.drop_of_length_le hi, Xp.pres, List.append_nil, List.take_of_length_le hlm]
  simp (disch := omega) only [go_sem, and_self, and_true, true_and, false_and, and_false, Nat.reduceAdd, Nat.reduceMul, Nat.reduceSub, Nat.reduceLeDiff, Nat.reduceLT, Nat.reduceGT, Nat.reduceEqDiff, Nat.reduceBEq, Int.reduceNeg, Int.reduceEq, Int.reduceLT, Int.reduceLE, Int.reduceBEq, Int.reduceToNat, Int.toNat_natCast, Int.natCast_zero, r21_C0, h1, xencs_len]

theorem all_full (o : Int) (t : ByteArray) (p k c s : Int) (ns : List D) (xs : List Xp) (m i : Nat) (l : List Xp) (hlm : l.length = m) (hi : i < xs.length) : AllLoop o t p k c s ns xs m i l := by
  have h1 : ((i : Int) < (xs.length : Int)) = True := eq_true (by omega)
  have h2 : ((l.length : Int) < (m : Int)) = False := eq_false (by omega)
  unfold AllLoop
  rw [r21_B0_eq, show (l ++ Xp.pres (xs.drop i)).take m = l by rw [← hlm, List.take_left]]
  simp (disch := omega) only [go_sem, and_self, and_true, true_and, false_and, and_false, Nat.reduceAdd, Nat.reduceMul, Nat.reduceSub, Nat.reduceLeDiff, Nat.reduceLT, Nat.reduceGT, Nat.reduceEqDiff, Nat.reduceBEq, Int.reduceNeg, Int.reduceEq, Int.reduceLT, Int.reduceLE, Int.reduceBEq, Int.reduceToNat, Int.toNat_natCast, Int.natCast_zero, r21_C0, h1, h2, xencs_len]

theorem all_step (o : Int) (t : ByteArray) (p k c s : Int) (ns : List D) (xs : List Xp) (hl : xs.length ≤ maxLen) (m i : Nat) (l : List Xp) (hlm : l.length < m) (hm : m ≤ 100000) (hi : i < xs.length)
    (ih : AllIs xs[i] (m - l.length)) (hn : AllLoop o t p k c s ns xs m (i + 1) ((l ++ xs[i].pre).take m)) : AllLoop o t p k c s ns xs m i l := by
  have hmx : maxLen = 9223372036854775807 := by decide
  have h1 : ((i : Int) < (xs.length : Int)) = True := eq_true (by omega)
  have h2 : ((l.length : Int) < (m : Int)) = True := eq_true (by omega)
  have hi0 : (0 ≤ (i : Int)) = True := eq_true (by omega)
  have va : (Xp.encs xs)[i]? = some (xs[i].enc) := by rw [xencs_get]; simp [hi]
  have hd : (m : Int) - (l.length : Int) = ((m - l.length : Nat) : Int) := by omega
  have hr : (l.length + (xs[i].pre.take (m - l.length)).length) * 104 ≤ maxRow := of_eq_true (row_len (by omega) (by rw [List.length_take]; omega))
  have e1 : (l ++ Xp.pres (xs.drop i)).take m = ((l ++ xs[i].pre).take m ++ Xp.pres (xs.drop (i + 1))).take m := by
    rw [take_app, List.drop_eq_getElem_cons hi, Xp.pres, List.append_assoc]
  have e2 : Xp.encs l ++ Xp.encs (xs[i].pre.take (m - l.length)) = Xp.encs ((l ++ xs[i].pre).take m) := by rw [← xencs_app, take_more _ _ _ hlm]
  unfold AllIs at ih
  unfold AllLoop at hn ⊢
  rw [r21_B0_eq, e1]
  simp (disch := omega) only [go_sem, and_self, and_true, true_and, false_and, and_false, Nat.reduceAdd, Nat.reduceMul, Nat.reduceSub, Nat.reduceLeDiff, Nat.reduceLT, Nat.reduceGT, Nat.reduceEqDiff, Nat.reduceBEq, Int.reduceNeg, Int.reduceEq, Int.reduceLT, Int.reduceLE, Int.reduceBEq, Int.reduceToNat, Int.toNat_natCast, Int.natCast_zero, r21_C0, h1, h2, hi0, va, xenc_w, xenc_a, xencs_len, w64, hd, ih, hr, e2, xencs_all, decide_true, and_self, if_true]
  rw [Int.natCast_add, Int.natCast_one] at hn
  exact hn

theorem all_loop (o : Int) (t : ByteArray) (p k c s : Int) (ns : List D) (xs : List Xp) (hl : xs.length ≤ maxLen) (m : Nat) (hm : m ≤ 100000) (ih : ∀ x ∈ xs, ∀ n : Nat, 1 ≤ n → n ≤ 100000 → AllIs x n) :
    ∀ (j i : Nat) (l : List Xp), i + j = xs.length → l.length ≤ m → AllLoop o t p k c s ns xs m i l
  | 0, i, l, hi, hlm => all_end o t p k c s ns xs m i l hlm (by omega)
  | j + 1, i, l, hi, hlm => by
    by_cases h : l.length = m
    · exact all_full o t p k c s ns xs m i l h (by omega)
    · exact all_step o t p k c s ns xs hl m i l (by omega) hm (by omega) (ih _ (List.getElem_mem _) _ (by omega) (by omega)) (all_loop o t p k c s ns xs hl m hm ih j (i + 1) _ (by omega) (by rw [List.length_take]; omega))

theorem all_fn (o : Int) (t : ByteArray) (p k c s : Int) (ns : List ByteArray) (xs : List Xp) (m : Nat) (h1 : 1 ≤ m) (hL : AllLoop o t p k c s (ns.map .str) xs m 0 [.mk o t p k c s ns xs]) : AllIs (.mk o t p k c s ns xs) m := by
  intro hp
  unfold AllLoop at hL
  rw [List.drop_zero] at hL
  have e1 : [Xp.mk o t p k c s ns xs] ++ Xp.pres xs = (Xp.mk o t p k c s ns xs).pre := rfl
  rw [e1] at hL
  simp only [Xp.encs, Xp.enc] at hL
  refine f21 rfl ?_
  simp (disch := omega) only [go_sem, and_self, and_true, true_and, false_and, and_false, Nat.reduceAdd, Nat.reduceMul, Nat.reduceSub, Nat.reduceLeDiff, Nat.reduceLT, Nat.reduceGT, Nat.reduceEqDiff, Nat.reduceBEq, Int.reduceNeg, Int.reduceEq, Int.reduceLT, Int.reduceLE, Int.reduceBEq, Int.reduceToNat, Int.toNat_natCast, Int.natCast_zero, r21_T, r21, Xp.enc]
  rw [r21_B0_n]
  erw [hL]
  simp (disch := omega) only [go_sem, and_self, and_true, true_and, false_and, and_false, Nat.reduceAdd, Nat.reduceMul, Nat.reduceSub, Nat.reduceLeDiff, Nat.reduceLT, Nat.reduceGT, Nat.reduceEqDiff, Nat.reduceBEq, Int.reduceNeg, Int.reduceEq, Int.reduceLT, Int.reduceLE, Int.reduceBEq, Int.reduceToNat, Int.toNat_natCast, Int.natCast_zero]

theorem rall_ok : ∀ (e : Xp), e.ok → ∀ m : Nat, 1 ≤ m → m ≤ 100000 → AllIs e m
  | .mk o t p k c s ns xs, h, m, h1, h2 => by
    simp only [Xp.ok] at h
    exact all_fn o t p k c s ns xs m h1 (all_loop o t p k c s _ xs h.2.2.2.2.2.2.2.2.1 m h2 (fun x hx n n1 n2 => rall_ok x (xoks_mem h.2.2.2.2.2.2.2.2.2 hx) n n1 n2) xs.length 0 _ (by omega) (by simpa using h1))

theorem light_ok (e : Xp) (he : e.ok) (m : Nat) (hm : m < 100000) (hp : List Ent) : F tab 19 [.d e.enc, .d (iv m)] hp = some (.ret (.d (.bool (decide (e.pre.length ≤ m)))) hp) := by
  have h := rall_ok e he (m + 1) (by omega) (by omega)
  unfold AllIs at h
  rw [Int.natCast_add, Int.natCast_one] at h
  obtain ⟨o, t, p, k, c, s, ns, xs, ex⟩ := xenc_as e
  rw [ex] at h ⊢
  have e1 : (((e.pre.take (m + 1)).length : Int) ≤ (m : Int)) = (e.pre.length ≤ m) := by rw [List.length_take]; apply propext; omega
  refine f19 rfl ?_
  simp (disch := omega) only [go_sem, and_self, and_true, true_and, false_and, and_false, Nat.reduceAdd, Nat.reduceMul, Nat.reduceSub, Nat.reduceLeDiff, Nat.reduceLT, Nat.reduceGT, Nat.reduceEqDiff, Nat.reduceBEq, Int.reduceNeg, Int.reduceEq, Int.reduceLT, Int.reduceLE, Int.reduceBEq, Int.reduceToNat, Int.toNat_natCast, Int.natCast_zero, r19_T, r19, w64, h, xencs_len, e1]
end Go.Pe.T

namespace Go.Pe.T

/-! ### going through all parts -/

/-- what is told to go through a list -/
inductive Runs (f : Nat) (caps : List PV) : List Ent → List Xp → List Ent → Bool → Prop where
  | nil {hp} : Runs f caps hp [] hp true
  | stop {hp x l hp'} : F tab f (.d x.enc :: caps) hp = some (.ret (.d (.bool false)) hp') → Runs f caps hp (x :: l) hp' false
  | step {hp x l hp' hp'' b} : F tab f (.d x.enc :: caps) hp = some (.ret (.d (.bool true)) hp') → Runs f caps hp' l hp'' b → Runs f caps hp (x :: l) hp'' b

theorem runs_app {f : Nat} {caps : List PV} : ∀ {a b : List Xp} {hp hp'' : List Ent} {r : Bool}, Runs f caps hp (a ++ b) hp'' r →
    (Runs f caps hp a hp'' false ∧ r = false) ∨ ∃ hp', Runs f caps hp a hp' true ∧ Runs f caps hp' b hp'' r
  | [], b, hp, hp'', r, h => .inr ⟨hp, .nil, h⟩
  | x :: a, b, hp, hp'', r, h => by
    cases h with
    | stop h => exact .inl ⟨.stop h, rfl⟩
    | step h k =>
      rcases runs_app k with ⟨k1, k2⟩ | ⟨hp', k1, k2⟩
      · exact .inl ⟨.step h k1, k2⟩
      · exact .inr ⟨hp', .step h k1, k2⟩

def GoIs (f : Nat) (caps : List PV) (e : Xp) : Prop := ∀ hp hp' b, Runs f caps hp e.pre hp' b → F tab 23 [.d e.enc, .fn f caps] hp = some (.ret (.d (.bool b)) hp')

def GoLoop (f : Nat) (caps : List PV) (xs : List Xp) (i : Nat) : Prop := ∀ hp hp' b, Runs f caps hp (Xp.pres (xs.drop i)) hp' b →
    V (F tab) r23_B0 (r23_S0 (.fn f caps) (.d (.sl (Xp.encs xs))) (.d (iv xs.length)) (.d (iv i)) hp) =
      if b then some (.norm, r23_E0 hp') else some (.ret, r23_R (.d (.bool false)) hp')

theorem go_end (f : Nat) (caps : List PV) (xs : List Xp) (i : Nat) (hi : xs.length ≤ i) : GoLoop f caps xs i := by
  intro hp hp' b h
  rw [List.drop_of_length_le hi, Xp.pres] at h
  cases h
  have h1 : ((i : Int) < (xs.length : Int)) = False := eq_false (by omega)
  rw [r23_B0_eq]
  simp (disch := omega) only [go_sem, and_self, and_true, true_and, false_and, and_false, Nat.reduceAdd, Nat.reduceMul, Nat.reduceSub, Nat.reduceLeDiff, Nat.reduceLT, Nat.reduceGT, Nat.reduceEqDiff, Nat.reduceBEq, Int.reduceNeg, Int.reduceEq, Int.reduceLT, Int.reduceLE, Int.reduceBEq, Int.reduceToNat, Int.toNat_natCast, Int.natCast_zero, r23_C0, h1]

theorem go_step (f : Nat) (caps : List PV) (xs : List Xp) (hl : xs.length ≤ maxLen) (i : Nat) (hi : i < xs.length) (ih : GoIs f caps xs[i]) (hn : GoLoop f caps xs (i + 1)) : GoLoop f caps xs i := by
  intro hp hp'' b h
  have hmx : maxLen = 9223372036854775807 := by decide
  have h1 : ((i : Int) < (xs.length : Int)) = True := eq_true (by omega)
  have hi0 : (0 ≤ (i : Int)) = True := eq_true (by omega)
  have va : (Xp.encs xs)[i]? = some (xs[i].enc) := by rw [xencs_get]; simp [hi]
  rw [List.drop_eq_getElem_cons hi, Xp.pres] at h
  obtain ⟨o, t, p, k, c, s, ns, ys, ex⟩ := xenc_as xs[i]
  rw [r23_B0_eq]
  unfold GoIs at ih
  rw [ex] at ih va
  rcases runs_app h with ⟨k1, rfl⟩ | ⟨hp', k1, k2⟩
  · have ih := ih _ _ _ k1
    simp (disch := omega) only [go_sem, and_self, and_true, true_and, false_and, and_false, Nat.reduceAdd, Nat.reduceMul, Nat.reduceSub, Nat.reduceLeDiff, Nat.reduceLT, Nat.reduceGT, Nat.reduceEqDiff, Nat.reduceBEq, Int.reduceNeg, Int.reduceEq, Int.reduceLT, Int.reduceLE, Int.reduceBEq, Int.reduceToNat, Int.toNat_natCast, Int.natCast_zero, r23_C0, h1, hi0, va, xencs_len, w64, ih]
  · have ih := ih _ _ _ k1
    have hn := hn _ _ _ k2
    rw [Int.natCast_add, Int.natCast_one] at hn
    simp (disch := omega) only [go_sem, and_self, and_true, true_and, false_and, and_false, Nat.reduceAdd, Nat.reduceMul, Nat.reduceSub, Nat.reduceLeDiff, Nat.reduceLT, Nat.reduceGT, Nat.reduceEqDiff, Nat.reduceBEq, Int.reduceNeg, Int.reduceEq, Int.reduceLT, Int.reduceLE, Int.reduceBEq, Int.reduceToNat, Int.toNat_natCast, Int.natCast_zero, r23_C0, h1, hi0, va, xencs_len, w64, ih]
    exact hn

theorem go_loop (f : Nat) (caps : List PV) (xs : List Xp) (hl : xs.length ≤ maxLen) (ih : ∀ x ∈ xs, GoIs f caps x) : ∀ (j i : Nat), i + j = xs.length → GoLoop f caps xs i
  | 0, i, hi => go_end f caps xs i (by omega)
  | j + 1, i, hi => go_step f caps xs hl i (by omega) (ih _ (List.getElem_mem _)) (go_loop f caps xs hl ih j (i + 1) (by omega))

theorem go_fn (f : Nat) (caps : List PV) (o : Int) (t : ByteArray) (p k c s : Int) (ns : List ByteArray) (xs : List Xp) (hL : GoLoop f caps xs 0) : GoIs f caps (.mk o t p k c s ns xs) := by
  intro hp hp'' b h
  unfold GoLoop at hL
  rw [List.drop_zero] at hL
  refine f23 ?_
  simp only [Xp.pre] at h
  cases h with
  | stop h =>
    simp only [Xp.enc] at h
    simp (disch := omega) only [go_sem, and_self, and_true, true_and, false_and, and_false, Nat.reduceAdd, Nat.reduceMul, Nat.reduceSub, Nat.reduceLeDiff, Nat.reduceLT, Nat.reduceGT, Nat.reduceEqDiff, Nat.reduceBEq, Int.reduceNeg, Int.reduceEq, Int.reduceLT, Int.reduceLE, Int.reduceBEq, Int.reduceToNat, Int.toNat_natCast, Int.natCast_zero, r23_T, r23, Xp.enc, h]
  | step h hr =>
    have hL := hL _ _ _ hr
    simp only [Xp.enc] at h
    simp (disch := omega) only [go_sem, and_self, and_true, true_and, false_and, and_false, Nat.reduceAdd, Nat.reduceMul, Nat.reduceSub, Nat.reduceLeDiff, Nat.reduceLT, Nat.reduceGT, Nat.reduceEqDiff, Nat.reduceBEq, Int.reduceNeg, Int.reduceEq, Int.reduceLT, Int.reduceLE, Int.reduceBEq, Int.reduceToNat, Int.toNat_natCast, Int.natCast_zero, r23_T, r23, Xp.enc, h, xencs_len]
    rw [r23_B0_n]
    erw [hL]
    cases b <;> simp (disch := omega) only [go_sem, and_self, and_true, true_and, false_and, and_false, Nat.reduceAdd, Nat.reduceMul, Nat.reduceSub, Nat.reduceLeDiff, Nat.reduceLT, Nat.reduceGT, Nat.reduceEqDiff, Nat.reduceBEq, Int.reduceNeg, Int.reduceEq, Int.reduceLT, Int.reduceLE, Int.reduceBEq, Int.reduceToNat, Int.toNat_natCast, Int.natCast_zero]

theorem go_ok (f : Nat) (caps : List PV) : ∀ (e : Xp), e.ok → GoIs f caps e
  | .mk o t p k c s ns xs, h => by
    simp only [Xp.ok] at h
    exact go_fn f caps o t p k c s ns xs (go_loop f caps xs h.2.2.2.2.2.2.2.2.1 (fun x hx => go_ok f caps x (xoks_mem h.2.2.2.2.2.2.2.2.2 hx)) xs.length 0 (by omega))
end Go.Pe.T

namespace Go.Pe.T

/-! ### how many parts -/

theorem see_up (x : Xp) (most n : Int) (h : n < most) (h0 : 0 ≤ n) (hm : most ≤ 9223372036854775807) :
    F tab 59 [.d x.enc, .ptr 1 0, .ptr 0 0] [.box [.d (iv most)], .box [.d (iv n)]] = some (.ret (.d (.bool (decide (n + 1 < most)))) [.box [.d (iv most)], .box [.d (iv (n + 1))]]) := by
  obtain ⟨o, t, p, k, c, s, ns, ys, ex⟩ := xenc_as x
  rw [ex]
  refine f59 ?_
  simp (disch := omega) only [go_sem, and_self, and_true, true_and, false_and, and_false, Nat.reduceAdd, Nat.reduceMul, Nat.reduceSub, Nat.reduceLeDiff, Nat.reduceLT, Nat.reduceGT, Nat.reduceEqDiff, Nat.reduceBEq, Int.reduceNeg, Int.reduceEq, Int.reduceLT, Int.reduceLE, Int.reduceBEq, Int.reduceToNat, Int.toNat_natCast, Int.natCast_zero, r59_T, r59, h, w64]

theorem see_no (x : Xp) (most n : Int) (h : ¬ n < most) :
    F tab 59 [.d x.enc, .ptr 1 0, .ptr 0 0] [.box [.d (iv most)], .box [.d (iv n)]] = some (.ret (.d (.bool false)) [.box [.d (iv most)], .box [.d (iv n)]]) := by
  obtain ⟨o, t, p, k, c, s, ns, ys, ex⟩ := xenc_as x
  rw [ex]
  refine f59 ?_
  simp (disch := omega) only [go_sem, and_self, and_true, true_and, false_and, and_false, Nat.reduceAdd, Nat.reduceMul, Nat.reduceSub, Nat.reduceLeDiff, Nat.reduceLT, Nat.reduceGT, Nat.reduceEqDiff, Nat.reduceBEq, Int.reduceNeg, Int.reduceEq, Int.reduceLT, Int.reduceLE, Int.reduceBEq, Int.reduceToNat, Int.toNat_natCast, Int.natCast_zero, r59_T, r59, h, w64]

theorem size_runs (most : Int) (hm : most ≤ 9223372036854775807) : ∀ (l : List Xp) (n : Int), 0 ≤ n → n < most →
    ∃ b, Runs 59 [.ptr 1 0, .ptr 0 0] [.box [.d (iv most)], .box [.d (iv n)]] l [.box [.d (iv most)], .box [.d (iv (min most (n + l.length)))]] b
  | [], n, h0, h => ⟨true, by
      have : min most (n + (([] : List Xp).length : Int)) = n := by simp only [List.length_nil]; omega
      rw [this]
      exact .nil⟩
  | x :: l, n, h0, h => by
    have hs := see_up x most n h h0 hm
    by_cases h1 : n + 1 < most
    · obtain ⟨b, hb⟩ := size_runs most hm l (n + 1) (by omega) h1
      rw [decide_eq_true h1] at hs
      have : min most (n + ((x :: l).length : Int)) = min most (n + 1 + (l.length : Int)) := by simp only [List.length_cons]; omega
      rw [this]
      exact ⟨b, .step hs hb⟩
    · rw [decide_eq_false h1] at hs
      have : min most (n + ((x :: l).length : Int)) = n + 1 := by simp only [List.length_cons]; omega
      rw [this]
      exact ⟨false, .stop hs⟩

def sizeV (e : Xp) (most : Int) : Int := max 0 (min most e.pre.length)

theorem size_fn (e : Xp) (most : Int) (b : Bool)
    (h : F tab 23 [.d e.enc, .fn 59 [.ptr 1 0, .ptr 0 0]] [.box [.d (iv most)], .box [.d (iv 0)]] = some (.ret (.d (.bool b)) [.box [.d (iv most)], .box [.d (iv (sizeV e most))]])) (hp : List Ent) :
    F tab 22 [.d e.enc, .d (iv most)] hp = some (.ret (.d (iv (sizeV e most))) hp) := by
  obtain ⟨o, t, p, k, c, s, ns, ys, ex⟩ := xenc_as e
  rw [ex] at h ⊢
  refine f22 rfl ?_
  simp (disch := omega) only [go_sem, and_self, and_true, true_and, false_and, and_false, Nat.reduceAdd, Nat.reduceMul, Nat.reduceSub, Nat.reduceLeDiff, Nat.reduceLT, Nat.reduceGT, Nat.reduceEqDiff, Nat.reduceBEq, Int.reduceNeg, Int.reduceEq, Int.reduceLT, Int.reduceLE, Int.reduceBEq, Int.reduceToNat, Int.toNat_natCast, Int.natCast_zero, r22_T, r22, h]

theorem size_ok (e : Xp) (he : e.ok) (most : Int) (hm : most ≤ 9223372036854775807) (hp : List Ent) : F tab 22 [.d e.enc, .d (iv most)] hp = some (.ret (.d (iv (sizeV e most))) hp) := by
  have hpos := pre_pos e
  by_cases h : 0 < most
  · obtain ⟨b, hb⟩ := size_runs most hm e.pre 0 (by omega) h
    have e1 : min most (0 + (e.pre.length : Int)) = sizeV e most := by unfold sizeV; omega
    rw [e1] at hb
    exact size_fn e most b (go_ok _ _ e he _ _ _ hb) hp
  · have e1 : sizeV e most = 0 := by unfold sizeV; omega
    refine size_fn e most false ?_ hp
    rw [e1]
    refine go_ok _ _ e he _ _ _ ?_
    rw [pre_eq]
    exact .stop (see_no e most 0 h)
end Go.Pe.T

namespace Go.Pe.T

/-! ### are two the same -/

def namesE : List ByteArray → List ByteArray → Bool
  | x :: a, y :: b => (x.toList == y.toList) && namesE a b
  | _, _ => true

mutual
def sameV : Xp → Xp → Bool
  | .mk o t p k c s ns xs, .mk o' t' p' k' c' s' ns' xs' => o == o' && (t.toList == t'.toList && (p == p' && (k == k' && ((c == c' && s == s') && (ns.length == ns'.length && (xs.length == xs'.length && (namesE ns ns' && sameVs xs xs')))))))
def sameVs : List Xp → List Xp → Bool
  | x :: a, y :: b => sameV x y && sameVs a b
  | _, _ => true
end

theorem eqD_num (c s c' s' : Int) : eqD (.st [(0, 1, .i), (1, 1, .i)]) (.agg [iv c, iv s]) (.agg [iv c', iv s']) = some (c == c' && s == s') := by
  have e : eqD (.st [(0, 1, .i), (1, 1, .i)]) (.agg [iv c, iv s]) (.agg [iv c', iv s']) = (match some (c == c') with | some true => (match some (s == s') with | some true => some true | some false => some false | none => none) | some false => some false | none => none) := rfl
  rw [e]
  cases c == c' <;> cases s == s' <;> rfl

theorem strD_neq (x y : ByteArray) : strD .neq x y = some (.bool !(x.toList == y.toList)) := rfl
theorem strD_eql (x y : ByteArray) : strD .eql x y = some (.bool (x.toList == y.toList)) := rfl

def SameIs (x y : Xp) : Prop := ∀ hp : List Ent, F tab 25 [.d x.enc, .d y.enc] hp = some (.ret (.d (.bool (sameV x y))) hp)

def SmNames (o p k c s o' p' k' c' s' : Int) (t t' : ByteArray) (ns ns' : List ByteArray) (xs xs' : List Xp) (i : Nat) : Prop :=
    V (F tab) r25_B0 (r25_S0 (.ibox [.d (iv o), .d (.str t), .d (iv p), .d (iv k), .d (iv c), .d (iv s), .d (.sl (ns.map .str)), .d (.sl (Xp.encs xs))]) (.ibox [.d (iv o'), .d (.str t'), .d (iv p'), .d (iv k'), .d (iv c'), .d (iv s'), .d (.sl (ns'.map .str)), .d (.sl (Xp.encs xs'))]) (.d (iv i)) []) =
      if namesE (ns.drop i) (ns'.drop i) then some (.norm, r25_E0 (.ibox [.d (iv o), .d (.str t), .d (iv p), .d (iv k), .d (iv c), .d (iv s), .d (.sl (ns.map .str)), .d (.sl (Xp.encs xs))]) (.ibox [.d (iv o'), .d (.str t'), .d (iv p'), .d (iv k'), .d (iv c'), .d (iv s'), .d (.sl (ns'.map .str)), .d (.sl (Xp.encs xs'))]) []) else some (.ret, r25_R (.d (.bool false)) [])

theorem sm_names_end (o p k c s o' p' k' c' s' : Int) (t t' : ByteArray) (ns ns' : List ByteArray) (xs xs' : List Xp) (i : Nat) (hi : ns.length ≤ i) : SmNames o p k c s o' p' k' c' s' t t' ns ns' xs xs' i := by
  have h1 : ((i : Int) < (ns.length : Int)) = False := eq_false (by omega)
  unfold SmNames
  rw [r25_B0_eq, List.drop_of_length_le hi]
  have e : namesE [] (ns'.drop i) = true := by simp [namesE]
  rw [e]
  simp (disch := omega) only [go_sem, and_self, and_true, true_and, false_and, and_false, Nat.reduceAdd, Nat.reduceMul, Nat.reduceSub, Nat.reduceLeDiff, Nat.reduceLT, Nat.reduceGT, Nat.reduceEqDiff, Nat.reduceBEq, Int.reduceNeg, Int.reduceEq, Int.reduceLT, Int.reduceLE, Int.reduceBEq, Int.reduceToNat, Int.toNat_natCast, Int.natCast_zero, r25_C0, h1, List.length_map]

theorem sm_names_step (o p k c s o' p' k' c' s' : Int) (t t' : ByteArray) (ns ns' : List ByteArray) (xs xs' : List Xp) (hl : ns.length ≤ maxLen) (hn : ns.length = ns'.length) (i : Nat) (hi : i < ns.length) (ih : SmNames o p k c s o' p' k' c' s' t t' ns ns' xs xs' (i + 1)) : SmNames o p k c s o' p' k' c' s' t t' ns ns' xs xs' i := by
  have hmx : maxLen = 9223372036854775807 := by decide
  have hi' : i < ns'.length := by omega
  have h1 : ((i : Int) < (ns.length : Int)) = True := eq_true (by omega)
  have hi0 : (0 ≤ (i : Int)) = True := eq_true (by omega)
  have va : (ns.map D.str)[i]? = some (.str ns[i]) := by simp [hi]
  have vb : (ns'.map D.str)[i]? = some (.str ns'[i]) := by simp [hi']
  unfold SmNames at ih ⊢
  rw [r25_B0_eq, List.drop_eq_getElem_cons hi, List.drop_eq_getElem_cons hi']
  simp only [namesE]
  rcases Bool.eq_false_or_eq_true (ns[i].toList == ns'[i].toList) with g | g
  · rw [Int.natCast_add, Int.natCast_one] at ih
    simp (disch := omega) only [go_sem, and_self, and_true, true_and, false_and, and_false, Nat.reduceAdd, Nat.reduceMul, Nat.reduceSub, Nat.reduceLeDiff, Nat.reduceLT, Nat.reduceGT, Nat.reduceEqDiff, Nat.reduceBEq, Int.reduceNeg, Int.reduceEq, Int.reduceLT, Int.reduceLE, Int.reduceBEq, Int.reduceToNat, Int.toNat_natCast, Int.natCast_zero, r25_C0, h1, List.length_map, hi0, va, vb, g, strD_neq, w64, Bool.true_and]
    exact ih
  · simp (disch := omega) only [go_sem, and_self, and_true, true_and, false_and, and_false, Nat.reduceAdd, Nat.reduceMul, Nat.reduceSub, Nat.reduceLeDiff, Nat.reduceLT, Nat.reduceGT, Nat.reduceEqDiff, Nat.reduceBEq, Int.reduceNeg, Int.reduceEq, Int.reduceLT, Int.reduceLE, Int.reduceBEq, Int.reduceToNat, Int.toNat_natCast, Int.natCast_zero, r25_C0, h1, List.length_map, hi0, va, vb, g, strD_neq, w64, Bool.false_and]

theorem sm_names (o p k c s o' p' k' c' s' : Int) (t t' : ByteArray) (ns ns' : List ByteArray) (xs xs' : List Xp) (hl : ns.length ≤ maxLen) (hn : ns.length = ns'.length) : ∀ (j i : Nat), i + j = ns.length → SmNames o p k c s o' p' k' c' s' t t' ns ns' xs xs' i
  | 0, i, hi => sm_names_end o p k c s o' p' k' c' s' t t' ns ns' xs xs' i (by omega)
  | j + 1, i, hi => sm_names_step o p k c s o' p' k' c' s' t t' ns ns' xs xs' hl hn i (by omega) (sm_names o p k c s o' p' k' c' s' t t' ns ns' xs xs' hl hn j (i + 1) (by omega))

def SmSubs (o p k c s o' p' k' c' s' : Int) (t t' : ByteArray) (ns ns' : List ByteArray) (xs xs' : List Xp) (i : Nat) : Prop :=
    V (F tab) r25_B1 (r25_S1 (.ibox [.d (iv o), .d (.str t), .d (iv p), .d (iv k), .d (iv c), .d (iv s), .d (.sl (ns.map .str)), .d (.sl (Xp.encs xs))]) (.ibox [.d (iv o'), .d (.str t'), .d (iv p'), .d (iv k'), .d (iv c'), .d (iv s'), .d (.sl (ns'.map .str)), .d (.sl (Xp.encs xs'))]) (.d (iv i)) []) =
      if sameVs (xs.drop i) (xs'.drop i) then some (.norm, r25_E1 []) else some (.ret, r25_R (.d (.bool false)) [])

theorem sm_subs_end (o p k c s o' p' k' c' s' : Int) (t t' : ByteArray) (ns ns' : List ByteArray) (xs xs' : List Xp) (i : Nat) (hi : xs.length ≤ i) : SmSubs o p k c s o' p' k' c' s' t t' ns ns' xs xs' i := by
  have h1 : ((i : Int) < (xs.length : Int)) = False := eq_false (by omega)
  unfold SmSubs
  rw [r25_B1_eq, List.drop_of_length_le hi]
  have e : sameVs [] (xs'.drop i) = true := by simp [sameVs]
  rw [e]
  simp (disch := omega) only [go_sem, and_self, and_true, true_and, false_and, and_false, Nat.reduceAdd, Nat.reduceMul, Nat.reduceSub, Nat.reduceLeDiff, Nat.reduceLT, Nat.reduceGT, Nat.reduceEqDiff, Nat.reduceBEq, Int.reduceNeg, Int.reduceEq, Int.reduceLT, Int.reduceLE, Int.reduceBEq, Int.reduceToNat, Int.toNat_natCast, Int.natCast_zero, r25_C1, h1, xencs_len]

theorem sm_subs_step (o p k c s o' p' k' c' s' : Int) (t t' : ByteArray) (ns ns' : List ByteArray) (xs xs' : List Xp) (hl : xs.length ≤ maxLen) (hn : xs.length = xs'.length) (i : Nat) (hi : i < xs.length) (hS : ∀ (hi' : i < xs'.length), SameIs xs[i] xs'[i]) (ih : SmSubs o p k c s o' p' k' c' s' t t' ns ns' xs xs' (i + 1)) : SmSubs o p k c s o' p' k' c' s' t t' ns ns' xs xs' i := by
  have hmx : maxLen = 9223372036854775807 := by decide
  have hi' : i < xs'.length := by omega
  have hS := hS hi'
  have h1 : ((i : Int) < (xs.length : Int)) = True := eq_true (by omega)
  have hi0 : (0 ≤ (i : Int)) = True := eq_true (by omega)
  have va : (Xp.encs xs)[i]? = some (xs[i].enc) := by rw [xencs_get]; simp [hi]
  have vb : (Xp.encs xs')[i]? = some (xs'[i].enc) := by rw [xencs_get]; simp [hi']
  unfold SmSubs at ih ⊢
  unfold SameIs at hS
  rw [r25_B1_eq, List.drop_eq_getElem_cons hi, List.drop_eq_getElem_cons hi']
  simp only [sameVs]
  rcases Bool.eq_false_or_eq_true (sameV xs[i] xs'[i]) with g | g
  · rw [Int.natCast_add, Int.natCast_one] at ih
    simp (disch := omega) only [go_sem, and_self, and_true, true_and, false_and, and_false, Nat.reduceAdd, Nat.reduceMul, Nat.reduceSub, Nat.reduceLeDiff, Nat.reduceLT, Nat.reduceGT, Nat.reduceEqDiff, Nat.reduceBEq, Int.reduceNeg, Int.reduceEq, Int.reduceLT, Int.reduceLE, Int.reduceBEq, Int.reduceToNat, Int.toNat_natCast, Int.natCast_zero, r25_C1, h1, xencs_len, hi0, va, vb, xenc_w, xenc_a, hS, g, w64, Bool.true_and]
    exact ih
  · simp (disch := omega) only [go_sem, and_self, and_true, true_and, false_and, and_false, Nat.reduceAdd, Nat.reduceMul, Nat.reduceSub, Nat.reduceLeDiff, Nat.reduceLT, Nat.reduceGT, Nat.reduceEqDiff, Nat.reduceBEq, Int.reduceNeg, Int.reduceEq, Int.reduceLT, Int.reduceLE, Int.reduceBEq, Int.reduceToNat, Int.toNat_natCast, Int.natCast_zero, r25_C1, h1, xencs_len, hi0, va, vb, xenc_w, xenc_a, hS, g, w64, Bool.false_and]

theorem sm_subs (o p k c s o' p' k' c' s' : Int) (t t' : ByteArray) (ns ns' : List ByteArray) (xs xs' : List Xp) (hl : xs.length ≤ maxLen) (hn : xs.length = xs'.length) (hS : ∀ x ∈ xs, ∀ y ∈ xs', SameIs x y) : ∀ (j i : Nat), i + j = xs.length → SmSubs o p k c s o' p' k' c' s' t t' ns ns' xs xs' i
  | 0, i, hi => sm_subs_end o p k c s o' p' k' c' s' t t' ns ns' xs xs' i (by omega)
  | j + 1, i, hi => sm_subs_step o p k c s o' p' k' c' s' t t' ns ns' xs xs' hl hn i (by omega) (fun hi' => hS _ (List.getElem_mem _) _ (List.getElem_mem _)) (sm_subs o p k c s o' p' k' c' s' t t' ns ns' xs xs' hl hn hS j (i + 1) (by omega))

theorem sm_no0 (o p k c s o' p' k' c' s' : Int) (t t' : ByteArray) (ns ns' : List ByteArray) (xs xs' : List Xp)  (ho : (o == o') = false) : SameIs (.mk o t p k c s ns xs) (.mk o' t' p' k' c' s' ns' xs') := by
  intro heap
  have no : (o != o') = true := by simp only [bne, ho, Bool.not_false]
  refine f25 rfl ?_
  simp (disch := omega) only [go_sem, and_self, and_true, true_and, false_and, and_false, Nat.reduceAdd, Nat.reduceMul, Nat.reduceSub, Nat.reduceLeDiff, Nat.reduceLT, Nat.reduceGT, Nat.reduceEqDiff, Nat.reduceBEq, Int.reduceNeg, Int.reduceEq, Int.reduceLT, Int.reduceLE, Int.reduceBEq, Int.reduceToNat, Int.toNat_natCast, Int.natCast_zero, r25_T, r25, Xp.enc, sameV, eqD_num, strD_neq, List.length_map, xencs_len, ho, Bool.false_and, Bool.true_and, no]

theorem sm_no1 (o p k c s o' p' k' c' s' : Int) (t t' : ByteArray) (ns ns' : List ByteArray) (xs xs' : List Xp)  (ho : (o == o') = true) (ht : (t.toList == t'.toList) = false) : SameIs (.mk o t p k c s ns xs) (.mk o' t' p' k' c' s' ns' xs') := by
  intro heap
  have no : (o != o') = false := by simp only [bne, ho, Bool.not_true]
  refine f25 rfl ?_
  simp (disch := omega) only [go_sem, and_self, and_true, true_and, false_and, and_false, Nat.reduceAdd, Nat.reduceMul, Nat.reduceSub, Nat.reduceLeDiff, Nat.reduceLT, Nat.reduceGT, Nat.reduceEqDiff, Nat.reduceBEq, Int.reduceNeg, Int.reduceEq, Int.reduceLT, Int.reduceLE, Int.reduceBEq, Int.reduceToNat, Int.toNat_natCast, Int.natCast_zero, r25_T, r25, Xp.enc, sameV, eqD_num, strD_neq, List.length_map, xencs_len, ho, no, ht, Bool.false_and, Bool.true_and]

theorem sm_no2 (o p k c s o' p' k' c' s' : Int) (t t' : ByteArray) (ns ns' : List ByteArray) (xs xs' : List Xp)  (ho : (o == o') = true) (ht : (t.toList == t'.toList) = true) (hp : (p == p') = false) : SameIs (.mk o t p k c s ns xs) (.mk o' t' p' k' c' s' ns' xs') := by
  intro heap
  have no : (o != o') = false := by simp only [bne, ho, Bool.not_true]
  have np : (p != p') = true := by simp only [bne, hp, Bool.not_false]
  refine f25 rfl ?_
  simp (disch := omega) only [go_sem, and_self, and_true, true_and, false_and, and_false, Nat.reduceAdd, Nat.reduceMul, Nat.reduceSub, Nat.reduceLeDiff, Nat.reduceLT, Nat.reduceGT, Nat.reduceEqDiff, Nat.reduceBEq, Int.reduceNeg, Int.reduceEq, Int.reduceLT, Int.reduceLE, Int.reduceBEq, Int.reduceToNat, Int.toNat_natCast, Int.natCast_zero, r25_T, r25, Xp.enc, sameV, eqD_num, strD_neq, List.length_map, xencs_len, ho, no, ht, hp, Bool.false_and, Bool.true_and, np]

theorem sm_no3 (o p k c s o' p' k' c' s' : Int) (t t' : ByteArray) (ns ns' : List ByteArray) (xs xs' : List Xp)  (ho : (o == o') = true) (ht : (t.toList == t'.toList) = true) (hp : (p == p') = true) (hk : (k == k') = false) : SameIs (.mk o t p k c s ns xs) (.mk o' t' p' k' c' s' ns' xs') := by
  intro heap
  have no : (o != o') = false := by simp only [bne, ho, Bool.not_true]
  have np : (p != p') = false := by simp only [bne, hp, Bool.not_true]
  have nk : (k != k') = true := by simp only [bne, hk, Bool.not_false]
  refine f25 rfl ?_
  simp (disch := omega) only [go_sem, and_self, and_true, true_and, false_and, and_false, Nat.reduceAdd, Nat.reduceMul, Nat.reduceSub, Nat.reduceLeDiff, Nat.reduceLT, Nat.reduceGT, Nat.reduceEqDiff, Nat.reduceBEq, Int.reduceNeg, Int.reduceEq, Int.reduceLT, Int.reduceLE, Int.reduceBEq, Int.reduceToNat, Int.toNat_natCast, Int.natCast_zero, r25_T, r25, Xp.enc, sameV, eqD_num, strD_neq, List.length_map, xencs_len, ho, no, ht, hp, np, hk, Bool.false_and, Bool.true_and, nk]

theorem sm_no4 (o p k c s o' p' k' c' s' : Int) (t t' : ByteArray) (ns ns' : List ByteArray) (xs xs' : List Xp)  (ho : (o == o') = true) (ht : (t.toList == t'.toList) = true) (hp : (p == p') = true) (hk : (k == k') = true) (hn : ((c == c' && s == s')) = false) : SameIs (.mk o t p k c s ns xs) (.mk o' t' p' k' c' s' ns' xs') := by
  intro heap
  have no : (o != o') = false := by simp only [bne, ho, Bool.not_true]
  have np : (p != p') = false := by simp only [bne, hp, Bool.not_true]
  have nk : (k != k') = false := by simp only [bne, hk, Bool.not_true]
  refine f25 rfl ?_
  simp (disch := omega) only [go_sem, and_self, and_true, true_and, false_and, and_false, Nat.reduceAdd, Nat.reduceMul, Nat.reduceSub, Nat.reduceLeDiff, Nat.reduceLT, Nat.reduceGT, Nat.reduceEqDiff, Nat.reduceBEq, Int.reduceNeg, Int.reduceEq, Int.reduceLT, Int.reduceLE, Int.reduceBEq, Int.reduceToNat, Int.toNat_natCast, Int.natCast_zero, r25_T, r25, Xp.enc, sameV, eqD_num, strD_neq, List.length_map, xencs_len, ho, no, ht, hp, np, hk, nk, hn, Bool.false_and, Bool.true_and]

theorem sm_no5 (o p k c s o' p' k' c' s' : Int) (t t' : ByteArray) (ns ns' : List ByteArray) (xs xs' : List Xp)  (ho : (o == o') = true) (ht : (t.toList == t'.toList) = true) (hp : (p == p') = true) (hk : (k == k') = true) (hn : ((c == c' && s == s')) = true) (ha : (ns.length == ns'.length) = false) : SameIs (.mk o t p k c s ns xs) (.mk o' t' p' k' c' s' ns' xs') := by
  intro heap
  have no : (o != o') = false := by simp only [bne, ho, Bool.not_true]
  have np : (p != p') = false := by simp only [bne, hp, Bool.not_true]
  have nk : (k != k') = false := by simp only [bne, hk, Bool.not_true]
  have na : ((ns.length : Int) != (ns'.length : Int)) = true := by simp only [bne_iff_ne, ne_eq, beq_eq_false_iff_ne] at ha ⊢; omega
  refine f25 rfl ?_
  simp (disch := omega) only [go_sem, and_self, and_true, true_and, false_and, and_false, Nat.reduceAdd, Nat.reduceMul, Nat.reduceSub, Nat.reduceLeDiff, Nat.reduceLT, Nat.reduceGT, Nat.reduceEqDiff, Nat.reduceBEq, Int.reduceNeg, Int.reduceEq, Int.reduceLT, Int.reduceLE, Int.reduceBEq, Int.reduceToNat, Int.toNat_natCast, Int.natCast_zero, r25_T, r25, Xp.enc, sameV, eqD_num, strD_neq, List.length_map, xencs_len, ho, no, ht, hp, np, hk, nk, hn, ha, Bool.false_and, Bool.true_and, na]

theorem sm_no6 (o p k c s o' p' k' c' s' : Int) (t t' : ByteArray) (ns ns' : List ByteArray) (xs xs' : List Xp)  (ho : (o == o') = true) (ht : (t.toList == t'.toList) = true) (hp : (p == p') = true) (hk : (k == k') = true) (hn : ((c == c' && s == s')) = true) (ha : (ns.length == ns'.length) = true) (hb : (xs.length == xs'.length) = false) : SameIs (.mk o t p k c s ns xs) (.mk o' t' p' k' c' s' ns' xs') := by
  intro heap
  have no : (o != o') = false := by simp only [bne, ho, Bool.not_true]
  have np : (p != p') = false := by simp only [bne, hp, Bool.not_true]
  have nk : (k != k') = false := by simp only [bne, hk, Bool.not_true]
  have na : ((ns.length : Int) != (ns'.length : Int)) = false := by simp only [beq_iff_eq] at ha; simp only [bne_eq_false_iff_eq]; omega
  have nb : ((xs.length : Int) != (xs'.length : Int)) = true := by simp only [bne_iff_ne, ne_eq, beq_eq_false_iff_ne] at hb ⊢; omega
  refine f25 rfl ?_
  simp (disch := omega) only [go_sem, and_self, and_true, true_and, false_and, and_false, Nat.reduceAdd, Nat.reduceMul, Nat.reduceSub, Nat.reduceLeDiff, Nat.reduceLT, Nat.reduceGT, Nat.reduceEqDiff, Nat.reduceBEq, Int.reduceNeg, Int.reduceEq, Int.reduceLT, Int.reduceLE, Int.reduceBEq, Int.reduceToNat, Int.toNat_natCast, Int.natCast_zero, r25_T, r25, Xp.enc, sameV, eqD_num, strD_neq, List.length_map, xencs_len, ho, no, ht, hp, np, hk, nk, hn, ha, na, hb, Bool.false_and, Bool.true_and, nb]

theorem sm_yes (o p k c s o' p' k' c' s' : Int) (t t' : ByteArray) (ns ns' : List ByteArray) (xs xs' : List Xp) (ho : (o == o') = true) (ht : (t.toList == t'.toList) = true) (hp : (p == p') = true) (hk : (k == k') = true) (hn : ((c == c' && s == s')) = true) (ha : (ns.length == ns'.length) = true) (hb : (xs.length == xs'.length) = true) (hl : ns.length ≤ maxLen) (hm : xs.length ≤ maxLen) (hS : ∀ x ∈ xs, ∀ y ∈ xs', SameIs x y) : SameIs (.mk o t p k c s ns xs) (.mk o' t' p' k' c' s' ns' xs') := by
  intro heap
  have no : (o != o') = false := by simp only [bne, ho, Bool.not_true]
  have np : (p != p') = false := by simp only [bne, hp, Bool.not_true]
  have nk : (k != k') = false := by simp only [bne, hk, Bool.not_true]
  have na : ((ns.length : Int) != (ns'.length : Int)) = false := by simp only [beq_iff_eq] at ha; simp only [bne_eq_false_iff_eq]; omega
  have nb : ((xs.length : Int) != (xs'.length : Int)) = false := by simp only [beq_iff_eq] at hb; simp only [bne_eq_false_iff_eq]; omega
  have hL0 := sm_names o p k c s o' p' k' c' s' t t' ns ns' xs xs' hl (by simpa using ha) ns.length 0 (by omega)
  have hL1 := sm_subs o p k c s o' p' k' c' s' t t' ns ns' xs xs' hm (by simpa using hb) hS xs.length 0 (by omega)
  unfold SmNames at hL0
  unfold SmSubs at hL1
  rw [List.drop_zero, List.drop_zero] at hL0 hL1
  refine f25 rfl ?_
  simp (disch := omega) only [go_sem, and_self, and_true, true_and, false_and, and_false, Nat.reduceAdd, Nat.reduceMul, Nat.reduceSub, Nat.reduceLeDiff, Nat.reduceLT, Nat.reduceGT, Nat.reduceEqDiff, Nat.reduceBEq, Int.reduceNeg, Int.reduceEq, Int.reduceLT, Int.reduceLE, Int.reduceBEq, Int.reduceToNat, Int.toNat_natCast, Int.natCast_zero, r25_T, r25, Xp.enc, sameV, eqD_num, strD_neq, List.length_map, xencs_len, ho, no, ht, hp, np, hk, nk, hn, ha, na, hb, nb, Bool.true_and]
  rw [r25_B0_n]
  erw [hL0]
  rcases Bool.eq_false_or_eq_true (namesE ns ns') with g | g
  · rw [g]
    simp only [if_true, go_sem, and_self, and_true, true_and, false_and, and_false, Nat.reduceAdd, Nat.reduceMul, Nat.reduceSub, Nat.reduceLeDiff, Nat.reduceLT, Nat.reduceGT, Nat.reduceEqDiff, Nat.reduceBEq, Int.reduceNeg, Int.reduceEq, Int.reduceLT, Int.reduceLE, Int.reduceBEq, Int.reduceToNat, Int.toNat_natCast, Int.natCast_zero, Bool.true_and]
    rw [r25_B1_n]
    erw [hL1]
    rcases Bool.eq_false_or_eq_true (sameVs xs xs') with g2 | g2 <;> rw [g2] <;> simp only [go_sem, and_self, and_true, true_and, false_and, and_false, Nat.reduceAdd, Nat.reduceMul, Nat.reduceSub, Nat.reduceLeDiff, Nat.reduceLT, Nat.reduceGT, Nat.reduceEqDiff, Nat.reduceBEq, Int.reduceNeg, Int.reduceEq, Int.reduceLT, Int.reduceLE, Int.reduceBEq, Int.reduceToNat, Int.toNat_natCast, Int.natCast_zero]
  · rw [g]
    simp only [go_sem, and_self, and_true, true_and, false_and, and_false, Nat.reduceAdd, Nat.reduceMul, Nat.reduceSub, Nat.reduceLeDiff, Nat.reduceLT, Nat.reduceGT, Nat.reduceEqDiff, Nat.reduceBEq, Int.reduceNeg, Int.reduceEq, Int.reduceLT, Int.reduceLE, Int.reduceBEq, Int.reduceToNat, Int.toNat_natCast, Int.natCast_zero, Bool.false_and]

theorem same_ok : ∀ (x y : Xp), x.ok → y.ok → SameIs x y
  | .mk o t p k c s ns xs, .mk o' t' p' k' c' s' ns' xs', hx, hy => by
    simp only [Xp.ok] at hx hy
    have hS : ∀ x ∈ xs, ∀ y ∈ xs', SameIs x y := fun x hx' y hy' => same_ok x y (xoks_mem hx.2.2.2.2.2.2.2.2.2 hx') (xoks_mem hy.2.2.2.2.2.2.2.2.2 hy')
    rcases Bool.eq_false_or_eq_true (o == o') with ho | ho
    rotate_left
    · exact sm_no0 o p k c s o' p' k' c' s' t t' ns ns' xs xs' ho
    rcases Bool.eq_false_or_eq_true (t.toList == t'.toList) with ht | ht
    rotate_left
    · exact sm_no1 o p k c s o' p' k' c' s' t t' ns ns' xs xs' ho ht
    rcases Bool.eq_false_or_eq_true (p == p') with hp | hp
    rotate_left
    · exact sm_no2 o p k c s o' p' k' c' s' t t' ns ns' xs xs' ho ht hp
    rcases Bool.eq_false_or_eq_true (k == k') with hk | hk
    rotate_left
    · exact sm_no3 o p k c s o' p' k' c' s' t t' ns ns' xs xs' ho ht hp hk
    rcases Bool.eq_false_or_eq_true ((c == c' && s == s')) with hn | hn
    rotate_left
    · exact sm_no4 o p k c s o' p' k' c' s' t t' ns ns' xs xs' ho ht hp hk hn
    rcases Bool.eq_false_or_eq_true (ns.length == ns'.length) with ha | ha
    rotate_left
    · exact sm_no5 o p k c s o' p' k' c' s' t t' ns ns' xs xs' ho ht hp hk hn ha
    rcases Bool.eq_false_or_eq_true (xs.length == xs'.length) with hb | hb
    rotate_left
    · exact sm_no6 o p k c s o' p' k' c' s' t t' ns ns' xs xs' ho ht hp hk hn ha hb
    exact sm_yes o p k c s o' p' k' c' s' t t' ns ns' xs xs' ho ht hp hk hn ha hb hx.2.2.2.2.2.2.1 hx.2.2.2.2.2.2.2.2.1 hS
end Go.Pe.T

namespace Go.Pe.T

/-! ### is a text among some -/
def hasB (l : List ByteArray) (s : ByteArray) : Bool := l.any fun x => x.toList == s.toList

theorem hasB_drop {l : List ByteArray} {s : ByteArray} {i : Nat} (hi : i < l.length) : hasB (l.drop i) s = ((l[i].toList == s.toList) || hasB (l.drop (i + 1)) s) := by
  rw [List.drop_eq_getElem_cons hi]; rfl

def HasLoop (l : List ByteArray) (s : ByteArray) (i : Nat) : Prop :=
  V (F tab) r29_B0 (r29_S0 (.d (.sl (l.map .str))) (.d (.str s)) (.d (iv i)) []) = if hasB (l.drop i) s then some (.ret, r29_R (.d (.bool true)) []) else some (.norm, r29_E0 [])

theorem has_end (l : List ByteArray) (s : ByteArray) (i : Nat) (hi : l.length ≤ i) : HasLoop l s i := by
  have h1 : ((i : Int) < (l.length : Int)) = False := eq_false (by omega)
  unfold HasLoop
  rw [r29_B0_eq, List.drop_of_length_le hi]
  simp (disch := omega) only [go_sem, and_self, and_true, true_and, false_and, and_false, Nat.reduceAdd, Nat.reduceMul, Nat.reduceSub, Nat.reduceLeDiff, Nat.reduceLT, Nat.reduceGT, Nat.reduceEqDiff, Nat.reduceBEq, Int.reduceNeg, Int.reduceEq, Int.reduceLT, Int.reduceLE, Int.reduceBEq, Int.reduceToNat, Int.toNat_natCast, Int.natCast_zero, r29_C0, h1, List.length_map, hasB, List.any_nil]
theorem has_step (l : List ByteArray) (s : ByteArray) (i : Nat) (hi : i < l.length) (hl : l.length ≤ maxLen) (ih : HasLoop l s (i + 1)) : HasLoop l s i := by
  have hmx : maxLen = 9223372036854775807 := by decide
  have h1 : ((i : Int) < (l.length : Int)) = True := eq_true (by omega)
  have hi0 : (0 ≤ (i : Int)) = True := eq_true (by omega)
  have va : (l.map D.str)[i]? = some (.str l[i]) := by simp [hi]
  unfold HasLoop at ih ⊢
  rw [Int.natCast_add, Int.natCast_one] at ih
  rw [r29_B0_eq, hasB_drop hi]
  rcases Bool.eq_false_or_eq_true (l[i].toList == s.toList) with g | g
  · simp (disch := omega) only [go_sem, and_self, and_true, true_and, false_and, and_false, Nat.reduceAdd, Nat.reduceMul, Nat.reduceSub, Nat.reduceLeDiff, Nat.reduceLT, Nat.reduceGT, Nat.reduceEqDiff, Nat.reduceBEq, Int.reduceNeg, Int.reduceEq, Int.reduceLT, Int.reduceLE, Int.reduceBEq, Int.reduceToNat, Int.toNat_natCast, Int.natCast_zero, r29_C0, h1, hi0, va, g, strD_eql, List.length_map, w64, Bool.true_or]
  · simp (disch := omega) only [go_sem, and_self, and_true, true_and, false_and, and_false, Nat.reduceAdd, Nat.reduceMul, Nat.reduceSub, Nat.reduceLeDiff, Nat.reduceLT, Nat.reduceGT, Nat.reduceEqDiff, Nat.reduceBEq, Int.reduceNeg, Int.reduceEq, Int.reduceLT, Int.reduceLE, Int.reduceBEq, Int.reduceToNat, Int.toNat_natCast, Int.natCast_zero, r29_C0, h1, hi0, va, g, strD_eql, List.length_map, w64, Bool.false_or]
    exact ih
theorem has_loop (l : List ByteArray) (s : ByteArray) (hl : l.length ≤ maxLen) : ∀ (j i : Nat), i + j = l.length → HasLoop l s i
  | 0, i, hi => has_end l s i (by omega)
  | j + 1, i, hi => has_step l s i (by omega) hl (has_loop l s hl j (i + 1) (by omega))

theorem has_ok (l : List ByteArray) (s : ByteArray) (hl : l.length ≤ maxLen) (hp : List Ent) : F tab 29 [.d (.sl (l.map .str)), .d (.str s)] hp = some (.ret (.d (.bool (hasB l s))) hp) := by
  have hL := has_loop l s hl l.length 0 (by omega)
  unfold HasLoop at hL
  rw [List.drop_zero] at hL
  refine f29 rfl ?_
  simp (disch := omega) only [go_sem, and_self, and_true, true_and, false_and, and_false, Nat.reduceAdd, Nat.reduceMul, Nat.reduceSub, Nat.reduceLeDiff, Nat.reduceLT, Nat.reduceGT, Nat.reduceEqDiff, Nat.reduceBEq, Int.reduceNeg, Int.reduceEq, Int.reduceLT, Int.reduceLE, Int.reduceBEq, Int.reduceToNat, Int.toNat_natCast, Int.natCast_zero, r29_T, r29]
  rw [r29_B0_n]
  erw [hL]
  rcases Bool.eq_false_or_eq_true (hasB l s) with g | g <;> rw [g] <;> simp only [go_sem, and_self, and_true, true_and, false_and, and_false, Nat.reduceAdd, Nat.reduceMul, Nat.reduceSub, Nat.reduceLeDiff, Nat.reduceLT, Nat.reduceGT, Nat.reduceEqDiff, Nat.reduceBEq, Int.reduceNeg, Int.reduceEq, Int.reduceLT, Int.reduceLE, Int.reduceBEq, Int.reduceToNat, Int.toNat_natCast, Int.natCast_zero]

def IdxLoop (l : List ByteArray) (s : ByteArray) (i : Nat) : Prop :=
  ∃ k : Nat, V (F tab) r100_B0 (r100_S0 (.d (.sl (l.map .str))) (.d (.str s)) (.d (iv l.length)) (.d (iv i)) []) = if hasB (l.drop i) s then some (.ret, r100_R (.d (iv k)) []) else some (.norm, r100_E0 [])

theorem idx_end (l : List ByteArray) (s : ByteArray) (i : Nat) (hi : l.length ≤ i) : IdxLoop l s i := by
  have h1 : ((i : Int) < (l.length : Int)) = False := eq_false (by omega)
  refine ⟨0, ?_⟩
  rw [r100_B0_eq, List.drop_of_length_le hi]
  simp (disch := omega) only [go_sem, and_self, and_true, true_and, false_and, and_false, Nat.reduceAdd, Nat.reduceMul, Nat.reduceSub, Nat.reduceLeDiff, Nat.reduceLT, Nat.reduceGT, Nat.reduceEqDiff, Nat.reduceBEq, Int.reduceNeg, Int.reduceEq, Int.reduceLT, Int.reduceLE, Int.reduceBEq, Int.reduceToNat, Int.toNat_natCast, Int.natCast_zero, r100_C0, h1, List.length_map, hasB, List.any_nil]
theorem idx_step (l : List ByteArray) (s : ByteArray) (i : Nat) (hi : i < l.length) (hl : l.length ≤ maxLen) (ih : IdxLoop l s (i + 1)) : IdxLoop l s i := by
  have hmx : maxLen = 9223372036854775807 := by decide
  have h1 : ((i : Int) < (l.length : Int)) = True := eq_true (by omega)
  have hi0 : (0 ≤ (i : Int)) = True := eq_true (by omega)
  have va : (l.map D.str)[i]? = some (.str l[i]) := by simp [hi]
  obtain ⟨k, ih⟩ := ih
  rw [Int.natCast_add, Int.natCast_one] at ih
  rcases Bool.eq_false_or_eq_true (l[i].toList == s.toList) with g | g
  · refine ⟨i, ?_⟩
    have g' : (s.toList == l[i].toList) = true := by rw [BEq.comm]; exact g
    rw [r100_B0_eq, hasB_drop hi]
    simp (disch := omega) only [go_sem, and_self, and_true, true_and, false_and, and_false, Nat.reduceAdd, Nat.reduceMul, Nat.reduceSub, Nat.reduceLeDiff, Nat.reduceLT, Nat.reduceGT, Nat.reduceEqDiff, Nat.reduceBEq, Int.reduceNeg, Int.reduceEq, Int.reduceLT, Int.reduceLE, Int.reduceBEq, Int.reduceToNat, Int.toNat_natCast, Int.natCast_zero, r100_C0, h1, hi0, va, g, g', strD_eql, List.length_map, w64, Bool.true_or]
  · refine ⟨k, ?_⟩
    have g' : (s.toList == l[i].toList) = false := by rw [BEq.comm]; exact g
    rw [r100_B0_eq, hasB_drop hi]
    simp (disch := omega) only [go_sem, and_self, and_true, true_and, false_and, and_false, Nat.reduceAdd, Nat.reduceMul, Nat.reduceSub, Nat.reduceLeDiff, Nat.reduceLT, Nat.reduceGT, Nat.reduceEqDiff, Nat.reduceBEq, Int.reduceNeg, Int.reduceEq, Int.reduceLT, Int.reduceLE, Int.reduceBEq, Int.reduceToNat, Int.toNat_natCast, Int.natCast_zero, r100_C0, h1, hi0, va, g, g', strD_eql, List.length_map, w64, Bool.false_or]
    exact ih
theorem idx_loop (l : List ByteArray) (s : ByteArray) (hl : l.length ≤ maxLen) : ∀ (j i : Nat), i + j = l.length → IdxLoop l s i
  | 0, i, hi => idx_end l s i (by omega)
  | j + 1, i, hi => idx_step l s i (by omega) hl (idx_loop l s hl j (i + 1) (by omega))

theorem idx_ok (l : List ByteArray) (s : ByteArray) (hl : l.length ≤ maxLen) : ∃ k : Int, (decide (k ≥ 0) = hasB l s) ∧ ∀ hp, F tab 100 [.d (.sl (l.map .str)), .d (.str s)] hp = some (.ret (.d (iv k)) hp) := by
  obtain ⟨k, hL⟩ := idx_loop l s hl l.length 0 (by omega)
  rw [List.drop_zero] at hL
  rcases Bool.eq_false_or_eq_true (hasB l s) with g | g
  · refine ⟨k, by rw [g]; simp, fun hp => f100 rfl ?_⟩
    simp (disch := omega) only [go_sem, and_self, and_true, true_and, false_and, and_false, Nat.reduceAdd, Nat.reduceMul, Nat.reduceSub, Nat.reduceLeDiff, Nat.reduceLT, Nat.reduceGT, Nat.reduceEqDiff, Nat.reduceBEq, Int.reduceNeg, Int.reduceEq, Int.reduceLT, Int.reduceLE, Int.reduceBEq, Int.reduceToNat, Int.toNat_natCast, Int.natCast_zero, r100_T, r100, List.length_map]
    rw [r100_B0_n]
    erw [hL]
    rw [g]
    simp only [go_sem, and_self, and_true, true_and, false_and, and_false, Nat.reduceAdd, Nat.reduceMul, Nat.reduceSub, Nat.reduceLeDiff, Nat.reduceLT, Nat.reduceGT, Nat.reduceEqDiff, Nat.reduceBEq, Int.reduceNeg, Int.reduceEq, Int.reduceLT, Int.reduceLE, Int.reduceBEq, Int.reduceToNat, Int.toNat_natCast, Int.natCast_zero]
  · refine ⟨-1, by rw [g]; simp, fun hp => f100 rfl ?_⟩
    simp (disch := omega) only [go_sem, and_self, and_true, true_and, false_and, and_false, Nat.reduceAdd, Nat.reduceMul, Nat.reduceSub, Nat.reduceLeDiff, Nat.reduceLT, Nat.reduceGT, Nat.reduceEqDiff, Nat.reduceBEq, Int.reduceNeg, Int.reduceEq, Int.reduceLT, Int.reduceLE, Int.reduceBEq, Int.reduceToNat, Int.toNat_natCast, Int.natCast_zero, r100_T, r100, List.length_map]
    rw [r100_B0_n]
    erw [hL]
    rw [g]
    simp only [go_sem, and_self, and_true, true_and, false_and, and_false, Nat.reduceAdd, Nat.reduceMul, Nat.reduceSub, Nat.reduceLeDiff, Nat.reduceLT, Nat.reduceGT, Nat.reduceEqDiff, Nat.reduceBEq, Int.reduceNeg, Int.reduceEq, Int.reduceLT, Int.reduceLE, Int.reduceBEq, Int.reduceToNat, Int.toNat_natCast, Int.natCast_zero]

theorem con_ok (l : List ByteArray) (s : ByteArray) (hl : l.length ≤ maxLen) (hp : List Ent) : F tab 61 [.d (.sl (l.map .str)), .d (.str s)] hp = some (.ret (.d (.bool (hasB l s))) hp) := by
  obtain ⟨k, h1, h2⟩ := idx_ok l s hl
  refine f61 rfl ?_
  simp only [go_sem, and_self, and_true, true_and, false_and, and_false, Nat.reduceAdd, Nat.reduceMul, Nat.reduceSub, Nat.reduceLeDiff, Nat.reduceLT, Nat.reduceGT, Nat.reduceEqDiff, Nat.reduceBEq, Int.reduceNeg, Int.reduceEq, Int.reduceLT, Int.reduceLE, Int.reduceBEq, Int.reduceToNat, Int.toNat_natCast, Int.natCast_zero, r61_T, r61, h2, h1]

theorem con_nil (s : ByteArray) (hp : List Ent) : F tab 61 [.nilsl, .d (.str s)] hp = some (.ret (.d (.bool false)) hp) := by
  have h : ∀ hp, F tab 100 [.nilsl, .d (.str s)] hp = some (.ret (.d (iv (-1))) hp) := by
    intro hp
    refine f100 rfl ?_
    simp (disch := omega) only [go_sem, and_self, and_true, true_and, false_and, and_false, Nat.reduceAdd, Nat.reduceMul, Nat.reduceSub, Nat.reduceLeDiff, Nat.reduceLT, Nat.reduceGT, Nat.reduceEqDiff, Nat.reduceBEq, Int.reduceNeg, Int.reduceEq, Int.reduceLT, Int.reduceLE, Int.reduceBEq, Int.reduceToNat, Int.toNat_natCast, Int.natCast_zero, r100_T, r100, List.length_nil]
    rw [r100_B0_n, r100_B0_eq]
    simp (disch := omega) only [go_sem, and_self, and_true, true_and, false_and, and_false, Nat.reduceAdd, Nat.reduceMul, Nat.reduceSub, Nat.reduceLeDiff, Nat.reduceLT, Nat.reduceGT, Nat.reduceEqDiff, Nat.reduceBEq, Int.reduceNeg, Int.reduceEq, Int.reduceLT, Int.reduceLE, Int.reduceBEq, Int.reduceToNat, Int.toNat_natCast, Int.natCast_zero, r100_C0, List.length_nil]
  refine f61 rfl ?_
  simp only [go_sem, and_self, and_true, true_and, false_and, and_false, Nat.reduceAdd, Nat.reduceMul, Nat.reduceSub, Nat.reduceLeDiff, Nat.reduceLT, Nat.reduceGT, Nat.reduceEqDiff, Nat.reduceBEq, Int.reduceNeg, Int.reduceEq, Int.reduceLT, Int.reduceLE, Int.reduceBEq, Int.reduceToNat, Int.toNat_natCast, Int.natCast_zero, r61_T, r61, h]
  rfl

/-! ### binds -/
def bindsV (o : Int) : Int := if o = 17 then 1 else if o = 13 ∨ o = 14 then 2 else -1
theorem binds_ok (x : Xp) (o : Int) (r : List D) (hx : x.enc = .agg (iv o :: r)) (hp : List Ent) : F tab 62 [.d x.enc] hp = some (.ret (.d (iv (bindsV o))) hp) := by
  obtain ⟨o', t, p, k, c, s, ns, ys, ex⟩ := xenc_as x
  rw [ex] at hx ⊢
  simp only [D.agg.injEq, List.cons.injEq, D.int.injEq, true_and] at hx
  obtain ⟨rfl, _⟩ := hx
  refine f62 rfl ?_
  unfold bindsV
  by_cases h1 : o' = 17
  · simp only [go_sem, and_self, and_true, true_and, false_and, and_false, Nat.reduceAdd, Nat.reduceMul, Nat.reduceSub, Nat.reduceLeDiff, Nat.reduceLT, Nat.reduceGT, Nat.reduceEqDiff, Nat.reduceBEq, Int.reduceNeg, Int.reduceEq, Int.reduceLT, Int.reduceLE, Int.reduceBEq, Int.reduceToNat, Int.toNat_natCast, Int.natCast_zero, r62_T, r62, h1]
  · have g1 : (o' == 17) = false := by simpa using h1
    by_cases h2 : o' = 13
    · simp only [go_sem, and_self, and_true, true_and, false_and, and_false, Nat.reduceAdd, Nat.reduceMul, Nat.reduceSub, Nat.reduceLeDiff, Nat.reduceLT, Nat.reduceGT, Nat.reduceEqDiff, Nat.reduceBEq, Int.reduceNeg, Int.reduceEq, Int.reduceLT, Int.reduceLE, Int.reduceBEq, Int.reduceToNat, Int.toNat_natCast, Int.natCast_zero, r62_T, r62, h2, true_or]
    · have g2 : (o' == 13) = false := by simpa using h2
      by_cases h3 : o' = 14
      · simp only [go_sem, and_self, and_true, true_and, false_and, and_false, Nat.reduceAdd, Nat.reduceMul, Nat.reduceSub, Nat.reduceLeDiff, Nat.reduceLT, Nat.reduceGT, Nat.reduceEqDiff, Nat.reduceBEq, Int.reduceNeg, Int.reduceEq, Int.reduceLT, Int.reduceLE, Int.reduceBEq, Int.reduceToNat, Int.toNat_natCast, Int.natCast_zero, r62_T, r62, h3, or_true]
      · have g3 : (o' == 14) = false := by simpa using h3
        simp only [go_sem, and_self, and_true, true_and, false_and, and_false, Nat.reduceAdd, Nat.reduceMul, Nat.reduceSub, Nat.reduceLeDiff, Nat.reduceLT, Nat.reduceGT, Nat.reduceEqDiff, Nat.reduceBEq, Int.reduceNeg, Int.reduceEq, Int.reduceLT, Int.reduceLE, Int.reduceBEq, Int.reduceToNat, Int.toNat_natCast, Int.natCast_zero, r62_T, r62, h1, h2, h3, g1, g2, g3, or_self]
end Go.Pe.T

namespace Go.Pe.T

theorem lives14_ev : evF tab 70 20 [] [] = some (.ret (.d (.bool true)) []) := by kernel_rfl

theorem lives14_ok (hp : List Ent) : F tab 20 [] hp = some (.ret (.d (.bool true)) hp) :=
  F_some.2 ⟨70, ((evF_nice (pf := pf) (tabOf_pf tl pl _) 70).2 20 rfl _ _ _ _ lives14_ev).2 hp⟩
theorem signs_ev : evF tab 70 26 [] [] = evF tab 70 27 [] [] := by kernel_rfl
end Go.Pe.T

namespace Go.Pe.T

/-! ### names that are used -/
def bnd (o : Int) (i : Nat) : Bool := (i : Int) == bindsV o

mutual
def usesV : Xp → List ByteArray → List ByteArray
  | .mk o t p k c s ns xs, b => (if o = 2 ∧ hasB b t = false then [t] else []) ++ usesVs o t b 0 xs
def usesVs (o : Int) (t : ByteArray) (b : List ByteArray) (i : Nat) : List Xp → List ByteArray
  | [] => []
  | x :: r => usesV x (if bnd o i then b ++ [t] else b) ++ usesVs o t b (i + 1) r
end
mutual
def varsV : Xp → List ByteArray → List ByteArray → List ByteArray
  | .mk o t p k c s ns xs, b, out => varsVs o t b 0 xs (if o = 2 ∧ hasB b t = false ∧ hasB out t = false then out ++ [t] else out)
def varsVs (o : Int) (t : ByteArray) (b : List ByteArray) (i : Nat) : List Xp → List ByteArray → List ByteArray
  | [], out => out
  | x :: r, out => varsVs o t b (i + 1) r (varsV x (if bnd o i then b ++ [t] else b) out)
end
/-- each once -/
def dd : List ByteArray → List ByteArray → List ByteArray
  | out, [] => out
  | out, u :: l => dd (if hasB out u then out else out ++ [u]) l
theorem dd_app : ∀ (a b out : List ByteArray), dd out (a ++ b) = dd (dd out a) b
  | [], b, out => rfl
  | x :: a, b, out => by simp only [List.cons_append, dd, dd_app a b]
mutual
theorem vars_dd : ∀ (x : Xp) (b out : List ByteArray), varsV x b out = dd out (usesV x b)
  | .mk o t p k c s ns xs, b, out => by
    rw [varsV, usesV, dd_app, ← varss_dd o t b 0 xs]
    congr 1
    by_cases h1 : o = 2 ∧ hasB b t = false
    · rw [if_pos h1]
      simp only [dd]
      rcases Bool.eq_false_or_eq_true (hasB out t) with g | g
      · rw [if_neg (by simp [g]), if_pos (by simp [g])]
      · rw [if_pos ⟨h1.1, h1.2, g⟩, if_neg (by simp [g])]
    · rw [if_neg h1, if_neg (fun h => h1 ⟨h.1, h.2.1⟩)]
      rfl
theorem varss_dd (o : Int) (t : ByteArray) (b : List ByteArray) (i : Nat) : ∀ (xs : List Xp) (out : List ByteArray), varsVs o t b i xs out = dd out (usesVs o t b i xs)
  | [], out => rfl
  | x :: r, out => by rw [varsVs, usesVs, dd_app, vars_dd x, varss_dd o t b (i + 1) r]
end
mutual
theorem uses_len : ∀ (x : Xp) (b : List ByteArray), (usesV x b).length ≤ x.pre.length
  | .mk o t p k c s ns xs, b => by
    have := usess_len o t b 0 xs
    simp only [usesV, Xp.pre, List.length_append, List.length_cons]
    split <;> simp <;> omega
theorem usess_len (o : Int) (t : ByteArray) (b : List ByteArray) (i : Nat) : ∀ (xs : List Xp), (usesVs o t b i xs).length ≤ (Xp.pres xs).length
  | [] => by simp [usesVs]
  | x :: r => by
    have h1 := uses_len x (if bnd o i then b ++ [t] else b)
    have h2 := usess_len o t b (i + 1) r
    simp only [usesVs, Xp.pres, List.length_append]
    omega
end
theorem dd_len : ∀ (l out : List ByteArray), (dd out l).length ≤ out.length + l.length
  | [], out => by simp [dd]
  | u :: l, out => by
    have h := dd_len l (if hasB out u then out else out ++ [u])
    have h2 : (if hasB out u then out else out ++ [u]).length ≤ out.length + 1 := by split <;> simp
    simp only [dd, List.length_cons]
    omega
theorem vars_len (x : Xp) (b out : List ByteArray) : (varsV x b out).length ≤ out.length + x.pre.length := by
  rw [vars_dd]
  have := dd_len (usesV x b) out
  have := uses_len x b
  omega

theorem strs_all (a : List ByteArray) : ((a.map D.str).all fun y => y.width == 1) = true := by
  simp [List.all_eq_true, D.width, D.cells]
theorem all1 (s : ByteArray) : ([D.str s].all fun y => y.width == 1) = true := rfl
theorem strs_app (a : List ByteArray) (s : ByteArray) : a.map D.str ++ [D.str s] = (a ++ [s]).map D.str := by simp

/-! ### the document's uses -/
def UsesIs (x : Xp) : Prop := ∀ (b : List ByteArray) (hp : List Ent), b.length + x.pre.length ≤ 1000 → F tab 28 [.d x.enc, .d (.sl (b.map .str))] hp = some (.ret (.d (.sl ((usesV x b).map .str))) hp)

def UsLoop (o : Int) (t : ByteArray) (p k c s : Int) (ns : List D) (xs : List Xp) (b : List ByteArray) (i : Nat) : Prop := ∀ (out : List ByteArray), out.length + (Xp.pres (xs.drop i)).length ≤ 1000 → b.length + (Xp.pres (xs.drop i)).length < 1000 →
    V (F tab) r28_B0 (r28_S0 (.d (.sl (b.map .str))) (.ibox [.d (iv o), .d (.str t), .d (iv p), .d (iv k), .d (iv c), .d (iv s), .d (.sl ns), .d (.sl (Xp.encs xs))]) (.own 9 (out.map .str)) (.d (iv i)) []) =
      some (.norm, r28_E0 (.own 9 ((out ++ usesVs o t b i (xs.drop i)).map .str)) [])

theorem us_end (o : Int) (t : ByteArray) (p k c s : Int) (ns : List D) (xs : List Xp) (b : List ByteArray) (i : Nat) (hi : xs.length ≤ i) : UsLoop o t p k c s ns xs b i := by
  intro out _ _
  have h1 : ((i : Int) < (xs.length : Int)) = False := eq_false (by omega)
  rw [r28_B0_eq, List.drop_of_length_le hi]
  simp (disch := omega) only [go_sem, and_self, and_true, true_and, false_and, and_false, Nat.reduceAdd, Nat.reduceMul, Nat.reduceSub, Nat.reduceLeDiff, Nat.reduceLT, Nat.reduceGT, Nat.reduceEqDiff, Nat.reduceBEq, Int.reduceNeg, Int.reduceEq, Int.reduceLT, Int.reduceLE, Int.reduceBEq, Int.reduceToNat, Int.toNat_natCast, Int.natCast_zero, r28_C0, h1, xencs_len, usesVs, List.append_nil]

theorem us_step_a (o : Int) (t : ByteArray) (p k c s : Int) (ns : List D) (xs : List Xp) (b : List ByteArray) (i : Nat) (hl : xs.length ≤ maxLen) (hi : i < xs.length) (hS : UsesIs xs[i]) (ih : UsLoop o t p k c s ns xs b (i + 1)) (e17 : (o == 17) = true) (ei1 : ((i : Int) == 1) = true) (hb : bnd o i = true) : UsLoop o t p k c s ns xs b i := by
  intro out ho hbl
  have hmx : maxLen = 9223372036854775807 := by decide
  rw [List.drop_eq_getElem_cons hi] at ho hbl ⊢
  simp only [Xp.pres, List.length_append] at ho hbl
  have hpos := pre_pos xs[i]
  have h1 : ((i : Int) < (xs.length : Int)) = True := eq_true (by omega)
  have hi0 : (0 ≤ (i : Int)) = True := eq_true (by omega)
  have va : (Xp.encs xs)[i]? = some (xs[i].enc) := by rw [xencs_get]; simp [hi]
  have hu := fun hp => hS (b ++ [t]) hp (by first | omega | (simp only [List.length_append, List.length_cons, List.length_nil]; omega))
  have hlen := uses_len xs[i] (b ++ [t])
  have ih := ih (out ++ usesV xs[i] (b ++ [t])) (by rw [List.length_append]; omega) (by omega)
  rw [Int.natCast_add, Int.natCast_one] at ih
  have r1 : ((0 + b.length) * 16 ≤ maxRow) = True := eq_true (by simp only [maxRow]; omega)
  have r2 : ((b.length + 1) * 16 ≤ maxRow) = True := eq_true (by simp only [maxRow]; omega)
  have r3 : ((out.length + (usesV xs[i] (b ++ [t])).length) * 16 ≤ maxRow) = True := eq_true (by simp only [maxRow]; omega)
  have fin : out.map D.str ++ (usesV xs[i] (b ++ [t])).map D.str = (out ++ usesV xs[i] (b ++ [t])).map D.str := (List.map_append ..).symm
  rw [r28_B0_eq]
  simp only [usesVs, hb, if_true, if_false, Bool.false_eq_true]
  rw [← List.append_assoc]
  simp (disch := omega) only [go_sem, and_self, and_true, true_and, false_and, and_false, Nat.reduceAdd, Nat.reduceMul, Nat.reduceSub, Nat.reduceLeDiff, Nat.reduceLT, Nat.reduceGT, Nat.reduceEqDiff, Nat.reduceBEq, Int.reduceNeg, Int.reduceEq, Int.reduceLT, Int.reduceLE, Int.reduceBEq, Int.reduceToNat, Int.toNat_natCast, Int.natCast_zero, r28_C0, h1, hi0, va, xenc_w, xenc_a, xencs_len, w64, List.length_map, e17, ei1, r1, r2, r3, strs_all, all1, strs_app, hu, fin, decide_true]
  exact ih

theorem us_step_b (o : Int) (t : ByteArray) (p k c s : Int) (ns : List D) (xs : List Xp) (b : List ByteArray) (i : Nat) (hl : xs.length ≤ maxLen) (hi : i < xs.length) (hS : UsesIs xs[i]) (ih : UsLoop o t p k c s ns xs b (i + 1)) (e17 : (o == 17) = true) (e13 : (o == 13) = false) (e14 : (o == 14) = false) (ei1 : ((i : Int) == 1) = false) (hb : bnd o i = false) : UsLoop o t p k c s ns xs b i := by
  intro out ho hbl
  have hmx : maxLen = 9223372036854775807 := by decide
  rw [List.drop_eq_getElem_cons hi] at ho hbl ⊢
  simp only [Xp.pres, List.length_append] at ho hbl
  have hpos := pre_pos xs[i]
  have h1 : ((i : Int) < (xs.length : Int)) = True := eq_true (by omega)
  have hi0 : (0 ≤ (i : Int)) = True := eq_true (by omega)
  have va : (Xp.encs xs)[i]? = some (xs[i].enc) := by rw [xencs_get]; simp [hi]
  have hu := fun hp => hS (b) hp (by first | omega | (simp only [List.length_append, List.length_cons, List.length_nil]; omega))
  have hlen := uses_len xs[i] (b)
  have ih := ih (out ++ usesV xs[i] (b)) (by rw [List.length_append]; omega) (by omega)
  rw [Int.natCast_add, Int.natCast_one] at ih
  have r1 : ((0 + b.length) * 16 ≤ maxRow) = True := eq_true (by simp only [maxRow]; omega)
  have r2 : ((b.length + 1) * 16 ≤ maxRow) = True := eq_true (by simp only [maxRow]; omega)
  have r3 : ((out.length + (usesV xs[i] (b)).length) * 16 ≤ maxRow) = True := eq_true (by simp only [maxRow]; omega)
  have fin : out.map D.str ++ (usesV xs[i] (b)).map D.str = (out ++ usesV xs[i] (b)).map D.str := (List.map_append ..).symm
  rw [r28_B0_eq]
  simp only [usesVs, hb, if_true, if_false, Bool.false_eq_true]
  rw [← List.append_assoc]
  simp (disch := omega) only [go_sem, and_self, and_true, true_and, false_and, and_false, Nat.reduceAdd, Nat.reduceMul, Nat.reduceSub, Nat.reduceLeDiff, Nat.reduceLT, Nat.reduceGT, Nat.reduceEqDiff, Nat.reduceBEq, Int.reduceNeg, Int.reduceEq, Int.reduceLT, Int.reduceLE, Int.reduceBEq, Int.reduceToNat, Int.toNat_natCast, Int.natCast_zero, r28_C0, h1, hi0, va, xenc_w, xenc_a, xencs_len, w64, List.length_map, e17, e13, e14, ei1, r1, r2, r3, strs_all, all1, strs_app, hu, fin, decide_true]
  exact ih

theorem us_step_c (o : Int) (t : ByteArray) (p k c s : Int) (ns : List D) (xs : List Xp) (b : List ByteArray) (i : Nat) (hl : xs.length ≤ maxLen) (hi : i < xs.length) (hS : UsesIs xs[i]) (ih : UsLoop o t p k c s ns xs b (i + 1)) (e17 : (o == 17) = false) (e13 : (o == 13) = true) (ei2 : ((i : Int) == 2) = true) (hb : bnd o i = true) : UsLoop o t p k c s ns xs b i := by
  intro out ho hbl
  have hmx : maxLen = 9223372036854775807 := by decide
  rw [List.drop_eq_getElem_cons hi] at ho hbl ⊢
  simp only [Xp.pres, List.length_append] at ho hbl
  have hpos := pre_pos xs[i]
  have h1 : ((i : Int) < (xs.length : Int)) = True := eq_true (by omega)
  have hi0 : (0 ≤ (i : Int)) = True := eq_true (by omega)
  have va : (Xp.encs xs)[i]? = some (xs[i].enc) := by rw [xencs_get]; simp [hi]
  have hu := fun hp => hS (b ++ [t]) hp (by first | omega | (simp only [List.length_append, List.length_cons, List.length_nil]; omega))
  have hlen := uses_len xs[i] (b ++ [t])
  have ih := ih (out ++ usesV xs[i] (b ++ [t])) (by rw [List.length_append]; omega) (by omega)
  rw [Int.natCast_add, Int.natCast_one] at ih
  have r1 : ((0 + b.length) * 16 ≤ maxRow) = True := eq_true (by simp only [maxRow]; omega)
  have r2 : ((b.length + 1) * 16 ≤ maxRow) = True := eq_true (by simp only [maxRow]; omega)
  have r3 : ((out.length + (usesV xs[i] (b ++ [t])).length) * 16 ≤ maxRow) = True := eq_true (by simp only [maxRow]; omega)
  have fin : out.map D.str ++ (usesV xs[i] (b ++ [t])).map D.str = (out ++ usesV xs[i] (b ++ [t])).map D.str := (List.map_append ..).symm
  rw [r28_B0_eq]
  simp only [usesVs, hb, if_true, if_false, Bool.false_eq_true]
  rw [← List.append_assoc]
  simp (disch := omega) only [go_sem, and_self, and_true, true_and, false_and, and_false, Nat.reduceAdd, Nat.reduceMul, Nat.reduceSub, Nat.reduceLeDiff, Nat.reduceLT, Nat.reduceGT, Nat.reduceEqDiff, Nat.reduceBEq, Int.reduceNeg, Int.reduceEq, Int.reduceLT, Int.reduceLE, Int.reduceBEq, Int.reduceToNat, Int.toNat_natCast, Int.natCast_zero, r28_C0, h1, hi0, va, xenc_w, xenc_a, xencs_len, w64, List.length_map, e17, e13, ei2, r1, r2, r3, strs_all, all1, strs_app, hu, fin, decide_true]
  exact ih

theorem us_step_d (o : Int) (t : ByteArray) (p k c s : Int) (ns : List D) (xs : List Xp) (b : List ByteArray) (i : Nat) (hl : xs.length ≤ maxLen) (hi : i < xs.length) (hS : UsesIs xs[i]) (ih : UsLoop o t p k c s ns xs b (i + 1)) (e17 : (o == 17) = false) (e13 : (o == 13) = true) (ei2 : ((i : Int) == 2) = false) (hb : bnd o i = false) : UsLoop o t p k c s ns xs b i := by
  intro out ho hbl
  have hmx : maxLen = 9223372036854775807 := by decide
  rw [List.drop_eq_getElem_cons hi] at ho hbl ⊢
  simp only [Xp.pres, List.length_append] at ho hbl
  have hpos := pre_pos xs[i]
  have h1 : ((i : Int) < (xs.length : Int)) = True := eq_true (by omega)
  have hi0 : (0 ≤ (i : Int)) = True := eq_true (by omega)
  have va : (Xp.encs xs)[i]? = some (xs[i].enc) := by rw [xencs_get]; simp [hi]
  have hu := fun hp => hS (b) hp (by first | omega | (simp only [List.length_append, List.length_cons, List.length_nil]; omega))
  have hlen := uses_len xs[i] (b)
  have ih := ih (out ++ usesV xs[i] (b)) (by rw [List.length_append]; omega) (by omega)
  rw [Int.natCast_add, Int.natCast_one] at ih
  have r1 : ((0 + b.length) * 16 ≤ maxRow) = True := eq_true (by simp only [maxRow]; omega)
  have r2 : ((b.length + 1) * 16 ≤ maxRow) = True := eq_true (by simp only [maxRow]; omega)
  have r3 : ((out.length + (usesV xs[i] (b)).length) * 16 ≤ maxRow) = True := eq_true (by simp only [maxRow]; omega)
  have fin : out.map D.str ++ (usesV xs[i] (b)).map D.str = (out ++ usesV xs[i] (b)).map D.str := (List.map_append ..).symm
  rw [r28_B0_eq]
  simp only [usesVs, hb, if_true, if_false, Bool.false_eq_true]
  rw [← List.append_assoc]
  simp (disch := omega) only [go_sem, and_self, and_true, true_and, false_and, and_false, Nat.reduceAdd, Nat.reduceMul, Nat.reduceSub, Nat.reduceLeDiff, Nat.reduceLT, Nat.reduceGT, Nat.reduceEqDiff, Nat.reduceBEq, Int.reduceNeg, Int.reduceEq, Int.reduceLT, Int.reduceLE, Int.reduceBEq, Int.reduceToNat, Int.toNat_natCast, Int.natCast_zero, r28_C0, h1, hi0, va, xenc_w, xenc_a, xencs_len, w64, List.length_map, e17, e13, ei2, r1, r2, r3, strs_all, all1, strs_app, hu, fin, decide_true]
  exact ih

theorem us_step_e (o : Int) (t : ByteArray) (p k c s : Int) (ns : List D) (xs : List Xp) (b : List ByteArray) (i : Nat) (hl : xs.length ≤ maxLen) (hi : i < xs.length) (hS : UsesIs xs[i]) (ih : UsLoop o t p k c s ns xs b (i + 1)) (e17 : (o == 17) = false) (e13 : (o == 13) = false) (e14 : (o == 14) = true) (ei2 : ((i : Int) == 2) = true) (hb : bnd o i = true) : UsLoop o t p k c s ns xs b i := by
  intro out ho hbl
  have hmx : maxLen = 9223372036854775807 := by decide
  rw [List.drop_eq_getElem_cons hi] at ho hbl ⊢
  simp only [Xp.pres, List.length_append] at ho hbl
  have hpos := pre_pos xs[i]
  have h1 : ((i : Int) < (xs.length : Int)) = True := eq_true (by omega)
  have hi0 : (0 ≤ (i : Int)) = True := eq_true (by omega)
  have va : (Xp.encs xs)[i]? = some (xs[i].enc) := by rw [xencs_get]; simp [hi]
  have hu := fun hp => hS (b ++ [t]) hp (by first | omega | (simp only [List.length_append, List.length_cons, List.length_nil]; omega))
  have hlen := uses_len xs[i] (b ++ [t])
  have ih := ih (out ++ usesV xs[i] (b ++ [t])) (by rw [List.length_append]; omega) (by omega)
  rw [Int.natCast_add, Int.natCast_one] at ih
  have r1 : ((0 + b.length) * 16 ≤ maxRow) = True := eq_true (by simp only [maxRow]; omega)
  have r2 : ((b.length + 1) * 16 ≤ maxRow) = True := eq_true (by simp only [maxRow]; omega)
  have r3 : ((out.length + (usesV xs[i] (b ++ [t])).length) * 16 ≤ maxRow) = True := eq_true (by simp only [maxRow]; omega)
  have fin : out.map D.str ++ (usesV xs[i] (b ++ [t])).map D.str = (out ++ usesV xs[i] (b ++ [t])).map D.str := (List.map_append ..).symm
  rw [r28_B0_eq]
  simp only [usesVs, hb, if_true, if_false, Bool.false_eq_true]
  rw [← List.append_assoc]
  simp (disch := omega) only [go_sem, and_self, and_true, true_and, false_and, and_false, Nat.reduceAdd, Nat.reduceMul, Nat.reduceSub, Nat.reduceLeDiff, Nat.reduceLT, Nat.reduceGT, Nat.reduceEqDiff, Nat.reduceBEq, Int.reduceNeg, Int.reduceEq, Int.reduceLT, Int.reduceLE, Int.reduceBEq, Int.reduceToNat, Int.toNat_natCast, Int.natCast_zero, r28_C0, h1, hi0, va, xenc_w, xenc_a, xencs_len, w64, List.length_map, e17, e13, e14, ei2, r1, r2, r3, strs_all, all1, strs_app, hu, fin, decide_true]
  exact ih

theorem us_step_f (o : Int) (t : ByteArray) (p k c s : Int) (ns : List D) (xs : List Xp) (b : List ByteArray) (i : Nat) (hl : xs.length ≤ maxLen) (hi : i < xs.length) (hS : UsesIs xs[i]) (ih : UsLoop o t p k c s ns xs b (i + 1)) (e17 : (o == 17) = false) (e13 : (o == 13) = false) (e14 : (o == 14) = true) (ei2 : ((i : Int) == 2) = false) (hb : bnd o i = false) : UsLoop o t p k c s ns xs b i := by
  intro out ho hbl
  have hmx : maxLen = 9223372036854775807 := by decide
  rw [List.drop_eq_getElem_cons hi] at ho hbl ⊢
  simp only [Xp.pres, List.length_append] at ho hbl
  have hpos := pre_pos xs[i]
  have h1 : ((i : Int) < (xs.length : Int)) = True := eq_true (by omega)
  have hi0 : (0 ≤ (i : Int)) = True := eq_true (by omega)
  have va : (Xp.encs xs)[i]? = some (xs[i].enc) := by rw [xencs_get]; simp [hi]
  have hu := fun hp => hS (b) hp (by first | omega | (simp only [List.length_append, List.length_cons, List.length_nil]; omega))
  have hlen := uses_len xs[i] (b)
  have ih := ih (out ++ usesV xs[i] (b)) (by rw [List.length_append]; omega) (by omega)
  rw [Int.natCast_add, Int.natCast_one] at ih
  have r1 : ((0 + b.length) * 16 ≤ maxRow) = True := eq_true (by simp only [maxRow]; omega)
  have r2 : ((b.length + 1) * 16 ≤ maxRow) = True := eq_true (by simp only [maxRow]; omega)
  have r3 : ((out.length + (usesV xs[i] (b)).length) * 16 ≤ maxRow) = True := eq_true (by simp only [maxRow]; omega)
  have fin : out.map D.str ++ (usesV xs[i] (b)).map D.str = (out ++ usesV xs[i] (b)).map D.str := (List.map_append ..).symm
  rw [r28_B0_eq]
  simp only [usesVs, hb, if_true, if_false, Bool.false_eq_true]
  rw [← List.append_assoc]
  simp (disch := omega) only [go_sem, and_self, and_true, true_and, false_and, and_false, Nat.reduceAdd, Nat.reduceMul, Nat.reduceSub, Nat.reduceLeDiff, Nat.reduceLT, Nat.reduceGT, Nat.reduceEqDiff, Nat.reduceBEq, Int.reduceNeg, Int.reduceEq, Int.reduceLT, Int.reduceLE, Int.reduceBEq, Int.reduceToNat, Int.toNat_natCast, Int.natCast_zero, r28_C0, h1, hi0, va, xenc_w, xenc_a, xencs_len, w64, List.length_map, e17, e13, e14, ei2, r1, r2, r3, strs_all, all1, strs_app, hu, fin, decide_true]
  exact ih

theorem us_step_g (o : Int) (t : ByteArray) (p k c s : Int) (ns : List D) (xs : List Xp) (b : List ByteArray) (i : Nat) (hl : xs.length ≤ maxLen) (hi : i < xs.length) (hS : UsesIs xs[i]) (ih : UsLoop o t p k c s ns xs b (i + 1)) (e17 : (o == 17) = false) (e13 : (o == 13) = false) (e14 : (o == 14) = false) (hb : bnd o i = false) : UsLoop o t p k c s ns xs b i := by
  intro out ho hbl
  have hmx : maxLen = 9223372036854775807 := by decide
  rw [List.drop_eq_getElem_cons hi] at ho hbl ⊢
  simp only [Xp.pres, List.length_append] at ho hbl
  have hpos := pre_pos xs[i]
  have h1 : ((i : Int) < (xs.length : Int)) = True := eq_true (by omega)
  have hi0 : (0 ≤ (i : Int)) = True := eq_true (by omega)
  have va : (Xp.encs xs)[i]? = some (xs[i].enc) := by rw [xencs_get]; simp [hi]
  have hu := fun hp => hS (b) hp (by first | omega | (simp only [List.length_append, List.length_cons, List.length_nil]; omega))
  have hlen := uses_len xs[i] (b)
  have ih := ih (out ++ usesV xs[i] (b)) (by rw [List.length_append]; omega) (by omega)
  rw [Int.natCast_add, Int.natCast_one] at ih
  have r1 : ((0 + b.length) * 16 ≤ maxRow) = True := eq_true (by simp only [maxRow]; omega)
  have r2 : ((b.length + 1) * 16 ≤ maxRow) = True := eq_true (by simp only [maxRow]; omega)
  have r3 : ((out.length + (usesV xs[i] (b)).length) * 16 ≤ maxRow) = True := eq_true (by simp only [maxRow]; omega)
  have fin : out.map D.str ++ (usesV xs[i] (b)).map D.str = (out ++ usesV xs[i] (b)).map D.str := (List.map_append ..).symm
  rw [r28_B0_eq]
  simp only [usesVs, hb, if_true, if_false, Bool.false_eq_true]
  rw [← List.append_assoc]
  simp (disch := omega) only [go_sem, and_self, and_true, true_and, false_and, and_false, Nat.reduceAdd, Nat.reduceMul, Nat.reduceSub, Nat.reduceLeDiff, Nat.reduceLT, Nat.reduceGT, Nat.reduceEqDiff, Nat.reduceBEq, Int.reduceNeg, Int.reduceEq, Int.reduceLT, Int.reduceLE, Int.reduceBEq, Int.reduceToNat, Int.toNat_natCast, Int.natCast_zero, r28_C0, h1, hi0, va, xenc_w, xenc_a, xencs_len, w64, List.length_map, e17, e13, e14, r1, r2, r3, strs_all, all1, strs_app, hu, fin, decide_true]
  exact ih

theorem us_step (o : Int) (t : ByteArray) (p k c s : Int) (ns : List D) (xs : List Xp) (b : List ByteArray) (i : Nat) (hl : xs.length ≤ maxLen) (hi : i < xs.length) (hS : UsesIs xs[i]) (ih : UsLoop o t p k c s ns xs b (i + 1)) : UsLoop o t p k c s ns xs b i := by
  have ff : ∀ {a b : Int}, ¬ a = b → (a == b) = false := fun h => by simpa using h
  have tt : ∀ {a b : Int}, a = b → (a == b) = true := fun h => by simpa using h
  by_cases c17 : o = 17
  · by_cases ci : (i : Int) = 1
    · exact us_step_a o t p k c s ns xs b i hl hi hS ih (tt c17) (tt ci) (by simp [bnd, bindsV, c17, ci])
    · exact us_step_b o t p k c s ns xs b i hl hi hS ih (tt c17) (ff (by omega)) (ff (by omega)) (ff ci) (by simp [bnd, bindsV, c17] <;> omega)
  · by_cases c13 : o = 13
    · by_cases ci : (i : Int) = 2
      · exact us_step_c o t p k c s ns xs b i hl hi hS ih (ff c17) (tt c13) (tt ci) (by simp [bnd, bindsV, c13, ci])
      · exact us_step_d o t p k c s ns xs b i hl hi hS ih (ff c17) (tt c13) (ff ci) (by simp [bnd, bindsV, c13] <;> omega)
    · by_cases c14 : o = 14
      · by_cases ci : (i : Int) = 2
        · exact us_step_e o t p k c s ns xs b i hl hi hS ih (ff c17) (ff c13) (tt c14) (tt ci) (by simp [bnd, bindsV, c14, ci])
        · exact us_step_f o t p k c s ns xs b i hl hi hS ih (ff c17) (ff c13) (tt c14) (ff ci) (by simp [bnd, bindsV, c14] <;> omega)
      · exact us_step_g o t p k c s ns xs b i hl hi hS ih (ff c17) (ff c13) (ff c14) (by simp [bnd, bindsV, c17, c13, c14] <;> omega)

theorem us_loop (o : Int) (t : ByteArray) (p k c s : Int) (ns : List D) (xs : List Xp) (b : List ByteArray) (hl : xs.length ≤ maxLen) (hS : ∀ x ∈ xs, UsesIs x) : ∀ (j i : Nat), i + j = xs.length → UsLoop o t p k c s ns xs b i
  | 0, i, hi => us_end o t p k c s ns xs b i (by omega)
  | j + 1, i, hi => us_step o t p k c s ns xs b i hl (by omega) (hS _ (List.getElem_mem _)) (us_loop o t p k c s ns xs b hl hS j (i + 1) (by omega))

theorem us_fn (o : Int) (t : ByteArray) (p k c s : Int) (ns : List ByteArray) (xs : List Xp) (hL : ∀ b, UsLoop o t p k c s (ns.map .str) xs b 0) : UsesIs (.mk o t p k c s ns xs) := by
  intro b hp hb
  have hmx : maxLen = 9223372036854775807 := by decide
  simp only [Xp.pre, List.length_cons] at hb
  have hh := has_ok b t (by omega)
  have hL := hL b
  unfold UsLoop at hL
  rw [List.drop_zero] at hL
  have r1 : ((0 + 1) * 16 ≤ maxRow) = True := eq_true (by simp only [maxRow]; omega)
  by_cases h2 : o = 2
  · have e2 : (o == 2) = true := by simp [h2]
    rcases Bool.eq_false_or_eq_true (hasB b t) with g | g
    · have hL := hL [] (by simp; omega) (by omega)
      refine f28 rfl ?_
      simp (disch := omega) only [go_sem, and_self, and_true, true_and, false_and, and_false, Nat.reduceAdd, Nat.reduceMul, Nat.reduceSub, Nat.reduceLeDiff, Nat.reduceLT, Nat.reduceGT, Nat.reduceEqDiff, Nat.reduceBEq, Int.reduceNeg, Int.reduceEq, Int.reduceLT, Int.reduceLE, Int.reduceBEq, Int.reduceToNat, Int.toNat_natCast, Int.natCast_zero, r28_T, r28, Xp.enc, e2, hh, g]
      rw [r28_B0_n, r28_B0_z5]
      erw [hL]
      have e : ¬ (o = 2 ∧ hasB b t = false) := by simp [g]
      simp only [go_sem, and_self, and_true, true_and, false_and, and_false, Nat.reduceAdd, Nat.reduceMul, Nat.reduceSub, Nat.reduceLeDiff, Nat.reduceLT, Nat.reduceGT, Nat.reduceEqDiff, Nat.reduceBEq, Int.reduceNeg, Int.reduceEq, Int.reduceLT, Int.reduceLE, Int.reduceBEq, Int.reduceToNat, Int.toNat_natCast, Int.natCast_zero, usesV, if_neg e, List.nil_append]
    · have hL := hL [t] (by simp; omega) (by omega)
      refine f28 rfl ?_
      simp (disch := omega) only [go_sem, and_self, and_true, true_and, false_and, and_false, Nat.reduceAdd, Nat.reduceMul, Nat.reduceSub, Nat.reduceLeDiff, Nat.reduceLT, Nat.reduceGT, Nat.reduceEqDiff, Nat.reduceBEq, Int.reduceNeg, Int.reduceEq, Int.reduceLT, Int.reduceLE, Int.reduceBEq, Int.reduceToNat, Int.toNat_natCast, Int.natCast_zero, r28_T, r28, Xp.enc, e2, hh, g, r1, all1, decide_true]
      rw [r28_B0_n]
      erw [hL]
      have e : o = 2 ∧ hasB b t = false := ⟨h2, g⟩
      simp only [go_sem, and_self, and_true, true_and, false_and, and_false, Nat.reduceAdd, Nat.reduceMul, Nat.reduceSub, Nat.reduceLeDiff, Nat.reduceLT, Nat.reduceGT, Nat.reduceEqDiff, Nat.reduceBEq, Int.reduceNeg, Int.reduceEq, Int.reduceLT, Int.reduceLE, Int.reduceBEq, Int.reduceToNat, Int.toNat_natCast, Int.natCast_zero, usesV, if_pos e]
  · have e2 : (o == 2) = false := by simp [h2]
    have hL := hL [] (by simp; omega) (by omega)
    refine f28 rfl ?_
    simp (disch := omega) only [go_sem, and_self, and_true, true_and, false_and, and_false, Nat.reduceAdd, Nat.reduceMul, Nat.reduceSub, Nat.reduceLeDiff, Nat.reduceLT, Nat.reduceGT, Nat.reduceEqDiff, Nat.reduceBEq, Int.reduceNeg, Int.reduceEq, Int.reduceLT, Int.reduceLE, Int.reduceBEq, Int.reduceToNat, Int.toNat_natCast, Int.natCast_zero, r28_T, r28, Xp.enc, e2]
    rw [r28_B0_n, r28_B0_z5]
    erw [hL]
    have e : ¬ (o = 2 ∧ hasB b t = false) := fun h => h2 h.1
    simp only [go_sem, and_self, and_true, true_and, false_and, and_false, Nat.reduceAdd, Nat.reduceMul, Nat.reduceSub, Nat.reduceLeDiff, Nat.reduceLT, Nat.reduceGT, Nat.reduceEqDiff, Nat.reduceBEq, Int.reduceNeg, Int.reduceEq, Int.reduceLT, Int.reduceLE, Int.reduceBEq, Int.reduceToNat, Int.toNat_natCast, Int.natCast_zero, usesV, if_neg e, List.nil_append]

theorem uses_ok : ∀ (x : Xp), x.ok → UsesIs x
  | .mk o t p k c s ns xs, h => by
    simp only [Xp.ok] at h
    exact us_fn o t p k c s ns xs fun b => us_loop o t p k c s _ xs b h.2.2.2.2.2.2.2.2.1 (fun x hx => uses_ok x (xoks_mem h.2.2.2.2.2.2.2.2.2 hx)) xs.length 0 (by omega)
end Go.Pe.T

namespace Go.Pe.T

/-! ### the program's names that are used -/
def ob : List ByteArray → PV
  | [] => .nilsl
  | u :: l => .own 9 ((u :: l).map .str)
abbrev seeC : List PV := [.ptr 0 0, .ptr 1 0]
abbrev seeH (out : List ByteArray) : List Ent := [.box [ob out], .box [.fn 60 [.ptr 0 0, .ptr 1 0]]]

def SeeIs (x : Xp) : Prop := ∀ (b out : List ByteArray), b.length + x.pre.length ≤ 1000 → out.length + x.pre.length ≤ 1000 →
  F tab 60 [.d x.enc, .d (.sl (b.map .str)), .ptr 0 0, .ptr 1 0] (seeH out) = some (.ret (.tup []) (seeH (varsV x b out)))

def SeeLoop (o : Int) (t : ByteArray) (p k c s : Int) (ns : List ByteArray) (xs : List Xp) (b : List ByteArray) (i : Nat) : Prop := ∀ (out : List ByteArray), out.length + (Xp.pres (xs.drop i)).length ≤ 1000 → b.length + (Xp.pres (xs.drop i)).length < 1000 →
    V (F tab) r60_B0 (r60_S0 (.d (.sl (b.map .str))) (.ptr 1 0) (.ibox [.d (iv o), .d (.str t), .d (iv p), .d (iv k), .d (iv c), .d (iv s), .d (.sl (ns.map .str)), .d (.sl (Xp.encs xs))]) (.d (.sl (Xp.encs xs))) (.d (iv xs.length)) (.d (iv i)) (seeH out)) =
      some (.norm, r60_E0 (seeH (varsVs o t b i (xs.drop i) out)))

theorem see_end (o : Int) (t : ByteArray) (p k c s : Int) (ns : List ByteArray) (xs : List Xp) (b : List ByteArray) (i : Nat) (hi : xs.length ≤ i) : SeeLoop o t p k c s ns xs b i := by
  intro out _ _
  have h1 : ((i : Int) < (xs.length : Int)) = False := eq_false (by omega)
  rw [r60_B0_eq, List.drop_of_length_le hi]
  simp (disch := omega) only [go_sem, and_self, and_true, true_and, false_and, and_false, Nat.reduceAdd, Nat.reduceMul, Nat.reduceSub, Nat.reduceLeDiff, Nat.reduceLT, Nat.reduceGT, Nat.reduceEqDiff, Nat.reduceBEq, Int.reduceNeg, Int.reduceEq, Int.reduceLT, Int.reduceLE, Int.reduceBEq, Int.reduceToNat, Int.toNat_natCast, Int.natCast_zero, r60_C0, h1, xencs_len, varsVs]

theorem see_step (o : Int) (t : ByteArray) (p k c s : Int) (ns : List ByteArray) (xs : List Xp) (b : List ByteArray) (i : Nat) (hl : xs.length ≤ maxLen) (hi : i < xs.length) (hS : SeeIs xs[i]) (ih : SeeLoop o t p k c s ns xs b (i + 1)) : SeeLoop o t p k c s ns xs b i := by
  intro out ho hbl
  have hmx : maxLen = 9223372036854775807 := by decide
  rw [List.drop_eq_getElem_cons hi] at ho hbl ⊢
  simp only [Xp.pres, List.length_append] at ho hbl
  have hpos := pre_pos xs[i]
  have h1 : ((i : Int) < (xs.length : Int)) = True := eq_true (by omega)
  have hi0 : (0 ≤ (i : Int)) = True := eq_true (by omega)
  have va : (Xp.encs xs)[i]? = some (xs[i].enc) := by rw [xencs_get]; simp [hi]
  have hbi := binds_ok (.mk o t p k c s ns xs) o _ rfl
  simp only [Xp.enc] at hbi
  have hcl : ∀ hp, F tab 63 [.d (.sl (b.map .str))] hp = some (.ret (.own 9 (b.map .str)) hp) := fun hp => f63 (by
    simp only [rowOk, List.length_map, List.length_nil, maxRow, strs_all, Bool.and_true, decide_eq_true_eq]; omega)
  have hlen := vars_len xs[i]
  have r2 : ((b.length + 1) * 16 ≤ maxRow) = True := eq_true (by simp only [maxRow]; omega)
  obtain ⟨o', t', p', k', c', s', ns', ys, ex⟩ := xenc_as xs[i]
  unfold SeeIs at hS
  rw [ex] at hS va
  simp only [varsVs]
  rcases Bool.eq_false_or_eq_true (bnd o i) with g | g
  · have g' : ((i : Int) == bindsV o) = true := g
    have hS := hS (b ++ [t]) out (by simp only [List.length_append, List.length_cons, List.length_nil]; omega) (by omega)
    have hlen := hlen (b ++ [t]) out
    have ih := ih (varsV xs[i] (b ++ [t]) out) (by omega) (by omega)
    rw [Int.natCast_add, Int.natCast_one] at ih
    rw [r60_B0_eq, g]
    simp (disch := omega) only [go_sem, and_self, and_true, true_and, false_and, and_false, Nat.reduceAdd, Nat.reduceMul, Nat.reduceSub, Nat.reduceLeDiff, Nat.reduceLT, Nat.reduceGT, Nat.reduceEqDiff, Nat.reduceBEq, Int.reduceNeg, Int.reduceEq, Int.reduceLT, Int.reduceLE, Int.reduceBEq, Int.reduceToNat, Int.toNat_natCast, Int.natCast_zero, r60_C0, h1, hi0, va, xencs_len, w64, List.length_map, hbi, g', hcl, r2, all1, strs_app, decide_true, hS]
    exact ih
  · have g' : ((i : Int) == bindsV o) = false := g
    have hS := hS b out (by omega) (by omega)
    have hlen := hlen b out
    have ih := ih (varsV xs[i] b out) (by omega) (by omega)
    rw [Int.natCast_add, Int.natCast_one] at ih
    rw [r60_B0_eq, g]
    simp (disch := omega) only [go_sem, and_self, and_true, true_and, false_and, and_false, Nat.reduceAdd, Nat.reduceMul, Nat.reduceSub, Nat.reduceLeDiff, Nat.reduceLT, Nat.reduceGT, Nat.reduceEqDiff, Nat.reduceBEq, Int.reduceNeg, Int.reduceEq, Int.reduceLT, Int.reduceLE, Int.reduceBEq, Int.reduceToNat, Int.toNat_natCast, Int.natCast_zero, r60_C0, h1, hi0, va, xencs_len, w64, List.length_map, hbi, g', decide_true, hS]
    exact ih

theorem see_loop (o : Int) (t : ByteArray) (p k c s : Int) (ns : List ByteArray) (xs : List Xp) (b : List ByteArray) (hl : xs.length ≤ maxLen) (hS : ∀ x ∈ xs, SeeIs x) : ∀ (j i : Nat), i + j = xs.length → SeeLoop o t p k c s ns xs b i
  | 0, i, hi => see_end o t p k c s ns xs b i (by omega)
  | j + 1, i, hi => see_step o t p k c s ns xs b i hl (by omega) (hS _ (List.getElem_mem _)) (see_loop o t p k c s ns xs b hl hS j (i + 1) (by omega))

theorem see_fn (o : Int) (t : ByteArray) (p k c s : Int) (ns : List ByteArray) (xs : List Xp) (hL : ∀ b, SeeLoop o t p k c s ns xs b 0) : SeeIs (.mk o t p k c s ns xs) := by
  intro b out hb ho
  have hmx : maxLen = 9223372036854775807 := by decide
  simp only [Xp.pre, List.length_cons] at hb ho
  have hh := con_ok b t (by omega)
  have hL := hL b
  unfold SeeLoop at hL
  rw [List.drop_zero] at hL
  by_cases h2 : o = 2
  · have e2 : (o == 2) = true := by simp [h2]
    rcases Bool.eq_false_or_eq_true (hasB b t) with g | g
    · have hL := hL out (by omega) (by omega)
      refine f60 ?_
      simp (disch := omega) only [go_sem, and_self, and_true, true_and, false_and, and_false, Nat.reduceAdd, Nat.reduceMul, Nat.reduceSub, Nat.reduceLeDiff, Nat.reduceLT, Nat.reduceGT, Nat.reduceEqDiff, Nat.reduceBEq, Int.reduceNeg, Int.reduceEq, Int.reduceLT, Int.reduceLE, Int.reduceBEq, Int.reduceToNat, Int.toNat_natCast, Int.natCast_zero, r60_T, r60, Xp.enc, e2, hh, g, xencs_len]
      rw [r60_B0_n]
      erw [hL]
      have e : ¬ (o = 2 ∧ hasB b t = false ∧ hasB out t = false) := by simp [g]
      simp only [go_sem, and_self, and_true, true_and, false_and, and_false, Nat.reduceAdd, Nat.reduceMul, Nat.reduceSub, Nat.reduceLeDiff, Nat.reduceLT, Nat.reduceGT, Nat.reduceEqDiff, Nat.reduceBEq, Int.reduceNeg, Int.reduceEq, Int.reduceLT, Int.reduceLE, Int.reduceBEq, Int.reduceToNat, Int.toNat_natCast, Int.natCast_zero, varsV, if_neg e]
    · cases out with
      | nil =>
        have hL := hL [t] (by simp; omega) (by omega)
        have r1 : ((0 + 1) * 16 ≤ maxRow) = True := eq_true (by simp only [maxRow]; omega)
        refine f60 ?_
        simp (disch := omega) only [go_sem, and_self, and_true, true_and, false_and, and_false, Nat.reduceAdd, Nat.reduceMul, Nat.reduceSub, Nat.reduceLeDiff, Nat.reduceLT, Nat.reduceGT, Nat.reduceEqDiff, Nat.reduceBEq, Int.reduceNeg, Int.reduceEq, Int.reduceLT, Int.reduceLE, Int.reduceBEq, Int.reduceToNat, Int.toNat_natCast, Int.natCast_zero, r60_T, r60, Xp.enc, e2, hh, g, xencs_len, ob, con_nil, r1, all1, decide_true]
        rw [r60_B0_n]
        erw [hL]
        have e : o = 2 ∧ hasB b t = false ∧ hasB [] t = false := ⟨h2, g, rfl⟩
        simp only [go_sem, and_self, and_true, true_and, false_and, and_false, Nat.reduceAdd, Nat.reduceMul, Nat.reduceSub, Nat.reduceLeDiff, Nat.reduceLT, Nat.reduceGT, Nat.reduceEqDiff, Nat.reduceBEq, Int.reduceNeg, Int.reduceEq, Int.reduceLT, Int.reduceLE, Int.reduceBEq, Int.reduceToNat, Int.toNat_natCast, Int.natCast_zero, varsV, if_pos e, List.nil_append]
      | cons u out =>
        have hh2 := con_ok (u :: out) t (by simp only [List.length_cons] at ho ⊢; omega)
        simp only [List.map_cons] at hh2
        rcases Bool.eq_false_or_eq_true (hasB (u :: out) t) with g2 | g2
        · have hL := hL (u :: out) (by omega) (by omega)
          refine f60 ?_
          simp (disch := omega) only [go_sem, and_self, and_true, true_and, false_and, and_false, Nat.reduceAdd, Nat.reduceMul, Nat.reduceSub, Nat.reduceLeDiff, Nat.reduceLT, Nat.reduceGT, Nat.reduceEqDiff, Nat.reduceBEq, Int.reduceNeg, Int.reduceEq, Int.reduceLT, Int.reduceLE, Int.reduceBEq, Int.reduceToNat, Int.toNat_natCast, Int.natCast_zero, r60_T, r60, Xp.enc, e2, hh, hh2, g, g2, xencs_len, ob]
          rw [r60_B0_n]
          erw [hL]
          have e : ¬ (o = 2 ∧ hasB b t = false ∧ hasB (u :: out) t = false) := by simp [g2]
          simp only [go_sem, and_self, and_true, true_and, false_and, and_false, Nat.reduceAdd, Nat.reduceMul, Nat.reduceSub, Nat.reduceLeDiff, Nat.reduceLT, Nat.reduceGT, Nat.reduceEqDiff, Nat.reduceBEq, Int.reduceNeg, Int.reduceEq, Int.reduceLT, Int.reduceLE, Int.reduceBEq, Int.reduceToNat, Int.toNat_natCast, Int.natCast_zero, varsV, if_neg e]
        · have hL := hL (u :: out ++ [t]) (by simp at ho ⊢; omega) (by omega)
          have r1 : ((out.length + 1 + 1) * 16 ≤ maxRow) = True := eq_true (by simp only [maxRow, List.length_cons] at *; omega)
          refine f60 ?_
          simp (disch := omega) only [go_sem, and_self, and_true, true_and, false_and, and_false, Nat.reduceAdd, Nat.reduceMul, Nat.reduceSub, Nat.reduceLeDiff, Nat.reduceLT, Nat.reduceGT, Nat.reduceEqDiff, Nat.reduceBEq, Int.reduceNeg, Int.reduceEq, Int.reduceLT, Int.reduceLE, Int.reduceBEq, Int.reduceToNat, Int.toNat_natCast, Int.natCast_zero, r60_T, r60, Xp.enc, e2, hh, hh2, g, g2, xencs_len, ob, r1, all1, decide_true, List.length_cons, List.length_map]
          rw [r60_B0_n]
          simp only [seeH, List.cons_append, ob, List.map_cons, List.map_append, List.map_nil] at hL
          erw [hL]
          have e : o = 2 ∧ hasB b t = false ∧ hasB (u :: out) t = false := ⟨h2, g, g2⟩
          simp only [go_sem, and_self, and_true, true_and, false_and, and_false, Nat.reduceAdd, Nat.reduceMul, Nat.reduceSub, Nat.reduceLeDiff, Nat.reduceLT, Nat.reduceGT, Nat.reduceEqDiff, Nat.reduceBEq, Int.reduceNeg, Int.reduceEq, Int.reduceLT, Int.reduceLE, Int.reduceBEq, Int.reduceToNat, Int.toNat_natCast, Int.natCast_zero, varsV, if_pos e]
          rfl
  · have e2 : (o == 2) = false := by simp [h2]
    have hL := hL out (by omega) (by omega)
    refine f60 ?_
    simp (disch := omega) only [go_sem, and_self, and_true, true_and, false_and, and_false, Nat.reduceAdd, Nat.reduceMul, Nat.reduceSub, Nat.reduceLeDiff, Nat.reduceLT, Nat.reduceGT, Nat.reduceEqDiff, Nat.reduceBEq, Int.reduceNeg, Int.reduceEq, Int.reduceLT, Int.reduceLE, Int.reduceBEq, Int.reduceToNat, Int.toNat_natCast, Int.natCast_zero, r60_T, r60, Xp.enc, e2, xencs_len]
    rw [r60_B0_n]
    erw [hL]
    have e : ¬ (o = 2 ∧ hasB b t = false ∧ hasB out t = false) := fun h => h2 h.1
    simp only [go_sem, and_self, and_true, true_and, false_and, and_false, Nat.reduceAdd, Nat.reduceMul, Nat.reduceSub, Nat.reduceLeDiff, Nat.reduceLT, Nat.reduceGT, Nat.reduceEqDiff, Nat.reduceBEq, Int.reduceNeg, Int.reduceEq, Int.reduceLT, Int.reduceLE, Int.reduceBEq, Int.reduceToNat, Int.toNat_natCast, Int.natCast_zero, varsV, if_neg e]

theorem see_ok : ∀ (x : Xp), x.ok → SeeIs x
  | .mk o t p k c s ns xs, h => by
    simp only [Xp.ok] at h
    exact see_fn o t p k c s ns xs fun b => see_loop o t p k c s _ xs b h.2.2.2.2.2.2.2.2.1 (fun x hx => see_ok x (xoks_mem h.2.2.2.2.2.2.2.2.2 hx)) xs.length 0 (by omega)

def vrs : List ByteArray → PV
  | [] => .nilsl
  | u :: l => .d (.sl ((u :: l).map .str))
theorem vrs_demote (l : List ByteArray) : (vrs l).demote = .d (.sl (l.map .str)) := by cases l <;> rfl

theorem vars_ok (x : Xp) (hx : x.ok) (hl : x.pre.length ≤ 900) (hp : List Ent) : F tab 30 [.d x.enc] hp = some (.ret (vrs (varsV x [] [])) hp) := by
  have hs := see_ok x hx [] [] (by simp; omega) (by simp; omega)
  simp only [seeH, ob, List.map_nil] at hs
  obtain ⟨o, t, p, k, c, s, ns, ys, ex⟩ := xenc_as x
  rw [ex] at hs ⊢
  refine f30 rfl ?_
  cases hv : varsV x [] [] with
  | nil =>
    rw [hv] at hs
    simp (disch := omega) only [go_sem, and_self, and_true, true_and, false_and, and_false, Nat.reduceAdd, Nat.reduceMul, Nat.reduceSub, Nat.reduceLeDiff, Nat.reduceLT, Nat.reduceGT, Nat.reduceEqDiff, Nat.reduceBEq, Int.reduceNeg, Int.reduceEq, Int.reduceLT, Int.reduceLE, Int.reduceBEq, Int.reduceToNat, Int.toNat_natCast, Int.natCast_zero, r30_T, r30, hs, ob, vrs]
  | cons u l =>
    rw [hv] at hs
    simp (disch := omega) only [go_sem, and_self, and_true, true_and, false_and, and_false, Nat.reduceAdd, Nat.reduceMul, Nat.reduceSub, Nat.reduceLeDiff, Nat.reduceLT, Nat.reduceGT, Nat.reduceEqDiff, Nat.reduceBEq, Int.reduceNeg, Int.reduceEq, Int.reduceLT, Int.reduceLE, Int.reduceBEq, Int.reduceToNat, Int.toNat_natCast, Int.natCast_zero, r30_T, r30, hs, ob, vrs, List.map_cons]
end Go.Pe.T

namespace Go.Pe.T

/-! ### TreeVars -/

def DdLoop (cs : List PV) (u : List ByteArray) (i : Nat) : Prop := ∀ (out : List ByteArray), out.length + (u.drop i).length ≤ 2000 →
  V (F tab) r5_B0 (r5_S0 (.ibox cs) (.d (.sl (u.map .str))) (.own 9 (out.map .str)) (.d (iv i)) []) = some (.norm, r5_E0 (.ibox cs) (.own 9 ((dd out (u.drop i)).map .str)) [])

theorem ddl_end (cs : List PV) (u : List ByteArray) (i : Nat) (hi : u.length ≤ i) : DdLoop cs u i := by
  intro out _
  have h1 : ((i : Int) < (u.length : Int)) = False := eq_false (by omega)
  rw [r5_B0_eq, List.drop_of_length_le hi]
  simp (disch := omega) only [go_sem, and_self, and_true, true_and, false_and, and_false, Nat.reduceAdd, Nat.reduceMul, Nat.reduceSub, Nat.reduceLeDiff, Nat.reduceLT, Nat.reduceGT, Nat.reduceEqDiff, Nat.reduceBEq, Int.reduceNeg, Int.reduceEq, Int.reduceLT, Int.reduceLE, Int.reduceBEq, Int.reduceToNat, Int.toNat_natCast, Int.natCast_zero, r5_C0, h1, List.length_map, dd]
theorem ddl_step (cs : List PV) (u : List ByteArray) (hu : u.length ≤ maxLen) (i : Nat) (hi : i < u.length) (ih : DdLoop cs u (i + 1)) : DdLoop cs u i := by
  intro out ho
  have hmx : maxLen = 9223372036854775807 := by decide
  have h1 : ((i : Int) < (u.length : Int)) = True := eq_true (by omega)
  have hi0 : (0 ≤ (i : Int)) = True := eq_true (by omega)
  have va : (u.map D.str)[i]? = some (.str u[i]) := by simp [hi]
  rw [List.length_drop] at ho
  have hh := has_ok out u[i] (by omega)
  have r1 : ((out.length + 1) * 16 ≤ maxRow) = True := eq_true (by simp only [maxRow]; omega)
  rw [r5_B0_eq, List.drop_eq_getElem_cons hi]
  simp only [dd]
  rcases Bool.eq_false_or_eq_true (hasB out u[i]) with g | g
  · have ih := ih out (by rw [List.length_drop]; omega)
    rw [Int.natCast_add, Int.natCast_one] at ih
    simp (disch := omega) only [go_sem, and_self, and_true, true_and, false_and, and_false, Nat.reduceAdd, Nat.reduceMul, Nat.reduceSub, Nat.reduceLeDiff, Nat.reduceLT, Nat.reduceGT, Nat.reduceEqDiff, Nat.reduceBEq, Int.reduceNeg, Int.reduceEq, Int.reduceLT, Int.reduceLE, Int.reduceBEq, Int.reduceToNat, Int.toNat_natCast, Int.natCast_zero, r5_C0, h1, hi0, va, List.length_map, hh, g, w64]
    exact ih
  · have ih := ih (out ++ [u[i]]) (by simp only [List.length_drop, List.length_append, List.length_cons, List.length_nil]; omega)
    rw [Int.natCast_add, Int.natCast_one] at ih
    simp (disch := omega) only [go_sem, and_self, and_true, true_and, false_and, and_false, Nat.reduceAdd, Nat.reduceMul, Nat.reduceSub, Nat.reduceLeDiff, Nat.reduceLT, Nat.reduceGT, Nat.reduceEqDiff, Nat.reduceBEq, Int.reduceNeg, Int.reduceEq, Int.reduceLT, Int.reduceLE, Int.reduceBEq, Int.reduceToNat, Int.toNat_natCast, Int.natCast_zero, r5_C0, h1, hi0, va, List.length_map, hh, g, w64, r1, all1, strs_app, decide_true]
    exact ih
theorem ddl_loop (cs : List PV) (u : List ByteArray) (hu : u.length ≤ maxLen) : ∀ (j i : Nat), i + j = u.length → DdLoop cs u i
  | 0, i, hi => ddl_end cs u i (by omega)
  | j + 1, i, hi => ddl_step cs u hu i (by omega) (ddl_loop cs u hu j (i + 1) (by omega))

def EqLoop (x4 : PV) (l : List ByteArray) (i : Nat) : Prop :=
  V (F tab) r5_B1 (r5_S1 x4 (.d (.sl (l.map .str))) (.d (iv i)) []) = some (.norm, r5_E1 [])
theorem eql_end (e : Nat) (l : List ByteArray) (i : Nat) (hi : l.length ≤ i) : EqLoop (.own e (l.map .str)) l i := by
  have h1 : ((i : Int) < (l.length : Int)) = False := eq_false (by omega)
  unfold EqLoop
  rw [r5_B1_eq]
  simp (disch := omega) only [go_sem, and_self, and_true, true_and, false_and, and_false, Nat.reduceAdd, Nat.reduceMul, Nat.reduceSub, Nat.reduceLeDiff, Nat.reduceLT, Nat.reduceGT, Nat.reduceEqDiff, Nat.reduceBEq, Int.reduceNeg, Int.reduceEq, Int.reduceLT, Int.reduceLE, Int.reduceBEq, Int.reduceToNat, Int.toNat_natCast, Int.natCast_zero, r5_C1, h1, List.length_map]
theorem eql_step (e : Nat) (l : List ByteArray) (hl : l.length ≤ maxLen) (i : Nat) (hi : i < l.length) (ih : EqLoop (.own e (l.map .str)) l (i + 1)) : EqLoop (.own e (l.map .str)) l i := by
  have hmx : maxLen = 9223372036854775807 := by decide
  have h1 : ((i : Int) < (l.length : Int)) = True := eq_true (by omega)
  have hi0 : (0 ≤ (i : Int)) = True := eq_true (by omega)
  have va : (l.map D.str)[i]? = some (.str l[i]) := by simp [hi]
  have g : (l[i].toList == l[i].toList) = true := by simp
  unfold EqLoop at ih ⊢
  rw [Int.natCast_add, Int.natCast_one] at ih
  rw [r5_B1_eq]
  simp (disch := omega) only [go_sem, and_self, and_true, true_and, false_and, and_false, Nat.reduceAdd, Nat.reduceMul, Nat.reduceSub, Nat.reduceLeDiff, Nat.reduceLT, Nat.reduceGT, Nat.reduceEqDiff, Nat.reduceBEq, Int.reduceNeg, Int.reduceEq, Int.reduceLT, Int.reduceLE, Int.reduceBEq, Int.reduceToNat, Int.toNat_natCast, Int.natCast_zero, r5_C1, h1, hi0, va, g, strD_neq, List.length_map, w64]
  exact ih
theorem eql_loop (e : Nat) (l : List ByteArray) (hl : l.length ≤ maxLen) : ∀ (j i : Nat), i + j = l.length → EqLoop (.own e (l.map .str)) l i
  | 0, i, hi => eql_end e l i (by omega)
  | j + 1, i, hi => eql_step e l hl i (by omega) (eql_loop e l hl j (i + 1) (by omega))

theorem TreeVars_ok (e : Xp) (he : e.ok) (hp : List Ent) : F tab 5 [.d e.enc] hp = some (.ret (.d (.bool true)) hp) := by
  have hmx : maxLen = 9223372036854775807 := by decide
  have a1 : ∀ hp, F tab 19 [.d e.enc, .d (iv 300)] hp = _ := light_ok e he 300 (by omega)
  have a2 := fun hl hp => uses_ok e he [] hp (by simp only [List.length_nil]; exact hl)
  have a3 := vars_ok e he
  simp only [List.map_nil] at a2
  have hul := uses_len e []
  have hdl := dd_len (usesV e []) []
  have hvd := vars_dd e [] []
  obtain ⟨o, t, p, k, c, s, ns, ys, ex⟩ := xenc_as e
  rw [ex] at a1 a2 a3 ⊢
  refine f5 rfl ?_
  by_cases g : e.pre.length ≤ 300
  · have a2 := a2 (by omega)
    have a3 := a3 (by omega)
    have hL0 := ddl_loop [.d (iv o), .d (.str t), .d (iv p), .d (iv k), .d (iv c), .d (iv s), .d (.sl (ns.map .str)), .d (.sl (Xp.encs ys))] (usesV e []) (by omega) _ 0 (Nat.zero_add _) [] (by simp only [List.length_nil, List.drop_zero]; omega)
    rw [List.drop_zero] at hL0
    rw [hvd] at a3
    have hL1 := eql_loop 9 (dd [] (usesV e [])) (by simp only [List.length_nil] at hdl; omega) _ 0 (Nat.zero_add _)
    unfold EqLoop at hL1
    generalize dd [] (usesV e []) = w at *
    simp (disch := omega) only [go_sem, and_self, and_true, true_and, false_and, and_false, Nat.reduceAdd, Nat.reduceMul, Nat.reduceSub, Nat.reduceLeDiff, Nat.reduceLT, Nat.reduceGT, Nat.reduceEqDiff, Nat.reduceBEq, Int.reduceNeg, Int.reduceEq, Int.reduceLT, Int.reduceLE, Int.reduceBEq, Int.reduceToNat, Int.toNat_natCast, Int.natCast_zero, r5_T, r5, a1, a2, g, decide_true]
    rw [r5_B0_n, r5_B0_z4]
    erw [hL0]
    simp (disch := omega) only [go_sem, and_self, and_true, true_and, false_and, and_false, Nat.reduceAdd, Nat.reduceMul, Nat.reduceSub, Nat.reduceLeDiff, Nat.reduceLT, Nat.reduceGT, Nat.reduceEqDiff, Nat.reduceBEq, Int.reduceNeg, Int.reduceEq, Int.reduceLT, Int.reduceLE, Int.reduceBEq, Int.reduceToNat, Int.toNat_natCast, Int.natCast_zero, a3, vrs_demote, List.length_map, bne_self_eq_false]
    rw [r5_B1_n]
    erw [hL1]
    simp (disch := omega) only [go_sem, and_self, and_true, true_and, false_and, and_false, Nat.reduceAdd, Nat.reduceMul, Nat.reduceSub, Nat.reduceLeDiff, Nat.reduceLT, Nat.reduceGT, Nat.reduceEqDiff, Nat.reduceBEq, Int.reduceNeg, Int.reduceEq, Int.reduceLT, Int.reduceLE, Int.reduceBEq, Int.reduceToNat, Int.toNat_natCast, Int.natCast_zero, lives14_ok]
  · simp (disch := omega) only [go_sem, and_self, and_true, true_and, false_and, and_false, Nat.reduceAdd, Nat.reduceMul, Nat.reduceSub, Nat.reduceLeDiff, Nat.reduceLT, Nat.reduceGT, Nat.reduceEqDiff, Nat.reduceBEq, Int.reduceNeg, Int.reduceEq, Int.reduceLT, Int.reduceLE, Int.reduceBEq, Int.reduceToNat, Int.toNat_natCast, Int.natCast_zero, r5_T, r5, a1, g, decide_false, lives14_ok]
end Go.Pe.T
