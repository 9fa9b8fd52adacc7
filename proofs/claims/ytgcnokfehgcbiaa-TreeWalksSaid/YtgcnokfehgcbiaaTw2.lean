/- A part of the proof of: The law TreeWalks holds: whatever expression, bound and place come in, tree.Size, tree.Walk and tree.Signs answer as the document's answer does, so the law returns true and leaves its arguments as they were; there is no condition. -/
import Derived.Test.YtgcnokfehgcbiaaTw1
import Derived.Test.YtgcnokfehgcbiaaPe2
import Derived.KernelRfl
set_option linter.unusedSimpArgs false
set_option linter.unusedVariables false
set_option maxRecDepth 10000

namespace Go.Pe.T

/-! ### all parts of an expression -/

theorem take_more {α : Type} (a b : List α) (n : Nat) (h : a.length < n) : a ++ b.take (n - a.length) = (a ++ b).take n := by
  rw [List.take_append, List.take_of_length_le (Nat.le_of_lt h)]
theorem take_app {α : Type} (a b : List α) (n : Nat) : (a.take n ++ b).take n = (a ++ b).take n := by
  simp only [List.take_append, List.take_take, Nat.min_self, List.length_take]
  congr 2
  omega

theorem xencs_all (a : List Xp) : ((Xp.encs a).all fun y => y.width == 8) = true := by
  simp only [List.all_eq_true, beq_iff_eq]
  intro y hy
  rw [xencs_eq, List.mem_map] at hy
  obtain ⟨x, _, rfl⟩ := hy
  exact xenc_w x
theorem row_len {a b k : Nat} (hk : k ≤ 1000) (h : a + b ≤ 1000000) : ((a + b) * k ≤ maxRow) = True :=
  eq_true (by
    have := Nat.mul_le_mul h hk
    simp only [maxRow]
    omega)

def AllIs (e : Xp) (m : Nat) : Prop := ∀ hp : List Ent, F tab 21 [.d e.enc, .d (iv m)] hp = some (.ret (.d (.sl (Xp.encs (e.pre.take m)))) hp)

def AllLoop (o : Int) (t : ByteArray) (p k c s : Int) (ns : List D) (xs : List Xp) (m i : Nat) (l : List Xp) : Prop :=
    V (F tab) r21_B0 (r21_S0 (.d (iv m)) (.ibox [.d (iv o), .d (.str t), .d (iv p), .d (iv k), .d (iv c), .d (iv s), .d (.sl ns), .d (.sl (Xp.encs xs))]) (.own 35 (Xp.encs l)) (.d (iv i)) []) =
      some (.norm, r21_E0 (.own 35 (Xp.encs ((l ++ Xp.pres (xs.drop i)).take m))) [])

theorem all_end (o : Int) (t : ByteArray) (p k c s : Int) (ns : List D) (xs : List Xp) (m i : Nat) (l : List Xp) (hlm : l.length ≤ m) (hi : xs.length ≤ i) : AllLoop o t p k c s ns xs m i l := by
  have h1 : ((i : Int) < (xs.length : Int)) = False := eq_false (by omega)
  unfold AllLoop
  rw [r21_B0_eq, List.drop_of_length_le hi, Xp.pres, List.append_nil, List.take_of_length_le hlm]
  simp (disch := omega) only [go_sem, and_self, and_true, true_and, false_and, and_false, Nat.reduceAdd, Nat.reduceMul, Nat.reduceSub, Nat.reduceLeDiff, Nat.reduceLT, Nat.reduceGT, Nat.reduceEqDiff, Nat.reduceBEq, Int.reduceNeg, Int.reduceEq, Int.reduceLT, Int.reduceLE, Int.reduceBEq, Int.reduceToNat, Int.toNat_natCast, Int.natCast_zero, r21_C0, h1, xencs_len]

theorem all_full (o : Int) (t : ByteArray) (p k c s : Int) (ns : List D) (xs : List Xp) (m i : Nat) (l : List Xp) (hlm : l.length = m) (hi : i < xs.length) : AllLoop o t p k c s ns xs m i l := by
  have h1 : ((i : Int) < (xs.length : Int)) = True := eq_true (by omega)
  have h2 : ((l.length : Int) < (m : Int)) = False := eq_false (by omega)
  unfold AllLoop
  rw [r21_B0_eq, show (l ++ Xp.pres (xs.drop i)).take m = l by rw [← hlm, List.take_left]]
  simp (disch := omega) only [go_sem, and_self, and_true, true_and, false_and, and_false, Nat.reduceAdd, Nat.reduceMul, Nat.reduceSub, Nat.reduceLeDiff, Nat.reduceLT, Nat.reduceGT, Nat.reduceEqDiff, Nat.reduceBEq, Int.reduceNeg, Int.reduceEq, Int.reduceLT, Int.reduceLE, Int.reduceBEq, Int.reduceToNat, Int.toNat_natCast, Int.natCast_zero, r21_C0, h1, h2, xencs_len]

theorem all_step (o : Int) (t : ByteArray) (p k c s : Int) (ns : List D) (xs : List Xp) (hl : xs.length ≤ maxLen) (m i : Nat) (l : List Xp) (hlm : l.length < m) (hm : m ≤ 100000) (hi : i < xs.length)
    (ih : AllIs xs[i] (m - l.length)) (hn : AllLoop o t p k c s ns xs m (i + 1) ((l ++ xs[i].pre).take m)) : AllLoop o t p k c s ns xs m i l := by
  have hmx : maxLen = 9223372036854775807 := by decide
  have h1 : ((i : Int) < (xs.length : Int)) = True := eq_true (by omega)
  have h2 : ((l.length : Int) < (m : Int)) = True := eq_true (by omega)
  have hi0 : (0 ≤ (i : Int)) = True := eq_true (by omega)
  have va : (Xp.encs xs)[i]? = some (xs[i].enc) := by rw [xencs_get]; simp [hi]
  have hd : (m : Int) - (l.length : Int) = ((m - l.length : Nat) : Int) := by omega
  have hr : (l.length + (xs[i].pre.take (m - l.length)).length) * 104 ≤ maxRow := of_eq_true (row_len (by omega) (by rw [List.length_take]; omega))
  have e1 : (l ++ Xp.pres (xs.drop i)).take m = ((l ++ xs[i].pre).take m ++ Xp.pres (xs.drop (i + 1))).take m := by
    rw [take_app, List.drop_eq_getElem_cons hi, Xp.pres, List.append_assoc]
  have e2 : Xp.encs l ++ Xp.encs (xs[i].pre.take (m - l.length)) = Xp.encs ((l ++ xs[i].pre).take m) := by rw [← xencs_app, take_more _ _ _ hlm]
  unfold AllIs at ih
  unfold AllLoop at hn ⊢
  rw [r21_B0_eq, e1]
  simp (disch := omega) only [go_sem, and_self, and_true, true_and, false_and, and_false, Nat.reduceAdd, Nat.reduceMul, Nat.reduceSub, Nat.reduceLeDiff, Nat.reduceLT, Nat.reduceGT, Nat.reduceEqDiff, Nat.reduceBEq, Int.reduceNeg, Int.reduceEq, Int.reduceLT, Int.reduceLE, Int.reduceBEq, Int.reduceToNat, Int.toNat_natCast, Int.natCast_zero, r21_C0, h1, h2, hi0, va, xenc_w, xenc_a, xencs_len, w64, hd, ih, hr, e2, xencs_all, decide_true, and_self, if_true]
  rw [Int.natCast_add, Int.natCast_one] at hn
  exact hn

theorem all_loop (o : Int) (t : ByteArray) (p k c s : Int) (ns : List D) (xs : List Xp) (hl : xs.length ≤ maxLen) (m : Nat) (hm : m ≤ 100000) (ih : ∀ x ∈ xs, ∀ n : Nat, 1 ≤ n → n ≤ 100000 → AllIs x n) :
    ∀ (j i : Nat) (l : List Xp), i + j = xs.length → l.length ≤ m → AllLoop o t p k c s ns xs m i l
  | 0, i, l, hi, hlm => all_end o t p k c s ns xs m i l hlm (by omega)
  | j + 1, i, l, hi, hlm => by
    by_cases h : l.length = m
    · exact all_full o t p k c s ns xs m i l h (by omega)
    · exact all_step o t p k c s ns xs hl m i l (by omega) hm (by omega) (ih _ (List.getElem_mem _) _ (by omega) (by omega)) (all_loop o t p k c s ns xs hl m hm ih j (i + 1) _ (by omega) (by rw [List.length_take]; omega))

theorem all_fn (o : Int) (t : ByteArray) (p k c s : Int) (ns : List ByteArray) (xs : List Xp) (m : Nat) (h1 : 1 ≤ m) (hL : AllLoop o t p k c s (ns.map .str) xs m 0 [.mk o t p k c s ns xs]) : AllIs (.mk o t p k c s ns xs) m := by
  intro hp
  unfold AllLoop at hL
  rw [List.drop_zero] at hL
  have e1 : [Xp.mk o t p k c s ns xs] ++ Xp.pres xs = (Xp.mk o t p k c s ns xs).pre := rfl
  rw [e1] at hL
  simp only [Xp.encs, Xp.enc] at hL
  refine f21 rfl ?_
  simp (disch := omega) only [go_sem, and_self, and_true, true_and, false_and, and_false, Nat.reduceAdd, Nat.reduceMul, Nat.reduceSub, Nat.reduceLeDiff, Nat.reduceLT, Nat.reduceGT, Nat.reduceEqDiff, Nat.reduceBEq, Int.reduceNeg, Int.reduceEq, Int.reduceLT, Int.reduceLE, Int.reduceBEq, Int.reduceToNat, Int.toNat_natCast, Int.natCast_zero, r21_T, r21, Xp.enc]
  rw [r21_B0_n]
  erw [hL]
  simp (disch := omega) only [go_sem, and_self, and_true, true_and, false_and, and_false, Nat.reduceAdd, Nat.reduceMul, Nat.reduceSub, Nat.reduceLeDiff, Nat.reduceLT, Nat.reduceGT, Nat.reduceEqDiff, Nat.reduceBEq, Int.reduceNeg, Int.reduceEq, Int.reduceLT, Int.reduceLE, Int.reduceBEq, Int.reduceToNat, Int.toNat_natCast, Int.natCast_zero]

theorem rall_ok : ∀ (e : Xp), e.ok → ∀ m : Nat, 1 ≤ m → m ≤ 100000 → AllIs e m
  | .mk o t p k c s ns xs, h, m, h1, h2 => by
    simp only [Xp.ok] at h
    exact all_fn o t p k c s ns xs m h1 (all_loop o t p k c s _ xs h.2.2.2.2.2.2.2.2.1 m h2 (fun x hx n n1 n2 => rall_ok x (xoks_mem h.2.2.2.2.2.2.2.2.2 hx) n n1 n2) xs.length 0 _ (by omega) (by simpa using h1))

theorem light_ok (e : Xp) (he : e.ok) (m : Nat) (hm : m < 100000) (hp : List Ent) : F tab 19 [.d e.enc, .d (iv m)] hp = some (.ret (.d (.bool (decide (e.pre.length ≤ m)))) hp) := by
  have h := rall_ok e he (m + 1) (by omega) (by omega)
  unfold AllIs at h
  rw [Int.natCast_add, Int.natCast_one] at h
  obtain ⟨o, t, p, k, c, s, ns, xs, ex⟩ := xenc_as e
  rw [ex] at h ⊢
  have e1 : (((e.pre.take (m + 1)).length : Int) ≤ (m : Int)) = (e.pre.length ≤ m) := by rw [List.length_take]; apply propext; omega
  refine f19 rfl ?_
  simp (disch := omega) only [go_sem, and_self, and_true, true_and, false_and, and_false, Nat.reduceAdd, Nat.reduceMul, Nat.reduceSub, Nat.reduceLeDiff, Nat.reduceLT, Nat.reduceGT, Nat.reduceEqDiff, Nat.reduceBEq, Int.reduceNeg, Int.reduceEq, Int.reduceLT, Int.reduceLE, Int.reduceBEq, Int.reduceToNat, Int.toNat_natCast, Int.natCast_zero, r19_T, r19, w64, h, xencs_len, e1]
end Go.Pe.T

namespace Go.Pe.T

/-! ### going through all parts -/

/-- what is told to go through a list -/
inductive Runs (f : Nat) (caps : List PV) : List Ent → List Xp → List Ent → Bool → Prop where
  | nil {hp} : Runs f caps hp [] hp true
  | stop {hp x l hp'} : F tab f (.d x.enc :: caps) hp = some (.ret (.d (.bool false)) hp') → Runs f caps hp (x :: l) hp' false
  | step {hp x l hp' hp'' b} : F tab f (.d x.enc :: caps) hp = some (.ret (.d (.bool true)) hp') → Runs f caps hp' l hp'' b → Runs f caps hp (x :: l) hp'' b

theorem runs_app {f : Nat} {caps : List PV} : ∀ {a b : List Xp} {hp hp'' : List Ent} {r : Bool}, Runs f caps hp (a ++ b) hp'' r →
    (Runs f caps hp a hp'' false ∧ r = false) ∨ ∃ hp', Runs f caps hp a hp' true ∧ Runs f caps hp' b hp'' r
  | [], b, hp, hp'', r, h => .inr ⟨hp, .nil, h⟩
  | x :: a, b, hp, hp'', r, h => by
    cases h with
    | stop h => exact .inl ⟨.stop h, rfl⟩
    | step h k =>
      rcases runs_app k with ⟨k1, k2⟩ | ⟨hp', k1, k2⟩
      · exact .inl ⟨.step h k1, k2⟩
      · exact .inr ⟨hp', .step h k1, k2⟩

def GoIs (f : Nat) (caps : List PV) (e : Xp) : Prop := ∀ hp hp' b, Runs f caps hp e.pre hp' b → F tab 23 [.d e.enc, .fn f caps] hp = some (.ret (.d (.bool b)) hp')

def GoLoop (f : Nat) (caps : List PV) (xs : List Xp) (i : Nat) : Prop := ∀ hp hp' b, Runs f caps hp (Xp.pres (xs.drop i)) hp' b →
    V (F tab) r23_B0 (r23_S0 (.fn f caps) (.d (.sl (Xp.encs xs))) (.d (iv xs.length)) (.d (iv i)) hp) =
      if b then some (.norm, r23_E0 hp') else some (.ret, r23_R (.d (.bool false)) hp')

theorem go_end (f : Nat) (caps : List PV) (xs : List Xp) (i : Nat) (hi : xs.length ≤ i) : GoLoop f caps xs i := by
  intro hp hp' b h
  rw [List.drop_of_length_le hi, Xp.pres] at h
  cases h
  have h1 : ((i : Int) < (xs.length : Int)) = False := eq_false (by omega)
  rw [r23_B0_eq]
  simp (disch := omega) only [go_sem, and_self, and_true, true_and, false_and, and_false, Nat.reduceAdd, Nat.reduceMul, Nat.reduceSub, Nat.reduceLeDiff, Nat.reduceLT, Nat.reduceGT, Nat.reduceEqDiff, Nat.reduceBEq, Int.reduceNeg, Int.reduceEq, Int.reduceLT, Int.reduceLE, Int.reduceBEq, Int.reduceToNat, Int.toNat_natCast, Int.natCast_zero, r23_C0, h1]

theorem go_step (f : Nat) (caps : List PV) (xs : List Xp) (hl : xs.length ≤ maxLen) (i : Nat) (hi : i < xs.length) (ih : GoIs f caps xs[i]) (hn : GoLoop f caps xs (i + 1)) : GoLoop f caps xs i := by
  intro hp hp'' b h
  have hmx : maxLen = 9223372036854775807 := by decide
  have h1 : ((i : Int) < (xs.length : Int)) = True := eq_true (by omega)
  have hi0 : (0 ≤ (i : Int)) = True := eq_true (by omega)
  have va : (Xp.encs xs)[i]? = some (xs[i].enc) := by rw [xencs_get]; simp [hi]
  rw [List.drop_eq_getElem_cons hi, Xp.pres] at h
  obtain ⟨o, t, p, k, c, s, ns, ys, ex⟩ := xenc_as xs[i]
  rw [r23_B0_eq]
  unfold GoIs at ih
  rw [ex] at ih va
  rcases runs_app h with ⟨k1, rfl⟩ | ⟨hp', k1, k2⟩
  · have ih := ih _ _ _ k1
    simp (disch := omega) only [go_sem, and_self, and_true, true_and, false_and, and_false, Nat.reduceAdd, Nat.reduceMul, Nat.reduceSub, Nat.reduceLeDiff, Nat.reduceLT, Nat.reduceGT, Nat.reduceEqDiff, Nat.reduceBEq, Int.reduceNeg, Int.reduceEq, Int.reduceLT, Int.reduceLE, Int.reduceBEq, Int.reduceToNat, Int.toNat_natCast, Int.natCast_zero, r23_C0, h1, hi0, va, xencs_len, w64, ih]
  · have ih := ih _ _ _ k1
    have hn := hn _ _ _ k2
    rw [Int.natCast_add, Int.natCast_one] at hn
    simp (disch := omega) only [go_sem, and_self, and_true, true_and, false_and, and_false, Nat.reduceAdd, Nat.reduceMul, Nat.reduceSub, Nat.reduceLeDiff, Nat.reduceLT, Nat.reduceGT, Nat.reduceEqDiff, Nat.reduceBEq, Int.reduceNeg, Int.reduceEq, Int.reduceLT, Int.reduceLE, Int.reduceBEq, Int.reduceToNat, Int.toNat_natCast, Int.natCast_zero, r23_C0, h1, hi0, va, xencs_len, w64, ih]
    exact hn

theorem go_loop (f : Nat) (caps : List PV) (xs : List Xp) (hl : xs.length ≤ maxLen) (ih : ∀ x ∈ xs, GoIs f caps x) : ∀ (j i : Nat), i + j = xs.length → GoLoop f caps xs i
  | 0, i, hi => go_end f caps xs i (by omega)
  | j + 1, i, hi => go_step f caps xs hl i (by omega) (ih _ (List.getElem_mem _)) (go_loop f caps xs hl ih j (i + 1) (by omega))

theorem go_fn (f : Nat) (caps : List PV) (o : Int) (t : ByteArray) (p k c s : Int) (ns : List ByteArray) (xs : List Xp) (hL : GoLoop f caps xs 0) : GoIs f caps (.mk o t p k c s ns xs) := by
  intro hp hp'' b h
  unfold GoLoop at hL
  rw [List.drop_zero] at hL
  refine f23 ?_
  simp only [Xp.pre] at h
  cases h with
  | stop h =>
    simp only [Xp.enc] at h
    simp (disch := omega) only [go_sem, and_self, and_true, true_and, false_and, and_false, Nat.reduceAdd, Nat.reduceMul, Nat.reduceSub, Nat.reduceLeDiff, Nat.reduceLT, Nat.reduceGT, Nat.reduceEqDiff, Nat.reduceBEq, Int.reduceNeg, Int.reduceEq, Int.reduceLT, Int.reduceLE, Int.reduceBEq, Int.reduceToNat, Int.toNat_natCast, Int.natCast_zero, r23_T, r23, Xp.enc, h]
  | step h hr =>
    have hL := hL _ _ _ hr
    simp only [Xp.enc] at h
    simp (disch := omega) only [go_sem, and_self, and_true, true_and, false_and, and_false, Nat.reduceAdd, Nat.reduceMul, Nat.reduceSub, Nat.reduceLeDiff, Nat.reduceLT, Nat.reduceGT, Nat.reduceEqDiff, Nat.reduceBEq, Int.reduceNeg, Int.reduceEq, Int.reduceLT, Int.reduceLE, Int.reduceBEq, Int.reduceToNat, Int.toNat_natCast, Int.natCast_zero, r23_T, r23, Xp.enc, h, xencs_len]
    rw [r23_B0_n]
    erw [hL]
    cases b <;> simp (disch := omega) only [go_sem, and_self, and_true, true_and, false_and, and_false, Nat.reduceAdd, Nat.reduceMul, Nat.reduceSub, Nat.reduceLeDiff, Nat.reduceLT, Nat.reduceGT, Nat.reduceEqDiff, Nat.reduceBEq, Int.reduceNeg, Int.reduceEq, Int.reduceLT, Int.reduceLE, Int.reduceBEq, Int.reduceToNat, Int.toNat_natCast, Int.natCast_zero]

theorem go_ok (f : Nat) (caps : List PV) : ∀ (e : Xp), e.ok → GoIs f caps e
  | .mk o t p k c s ns xs, h => by
    simp only [Xp.ok] at h
    exact go_fn f caps o t p k c s ns xs (go_loop f caps xs h.2.2.2.2.2.2.2.2.1 (fun x hx => go_ok f caps x (xoks_mem h.2.2.2.2.2.2.2.2.2 hx)) xs.length 0 (by omega))
end Go.Pe.T

namespace Go.Pe.T

/-! ### how many parts -/

theorem see_up (x : Xp) (most n : Int) (h : n < most) (h0 : 0 ≤ n) (hm : most ≤ 9223372036854775807) :
    F tab 59 [.d x.enc, .ptr 1 0, .ptr 0 0] [.box [.d (iv most)], .box [.d (iv n)]] = some (.ret (.d (.bool (decide (n + 1 < most)))) [.box [.d (iv most)], .box [.d (iv (n + 1))]]) := by
  obtain ⟨o, t, p, k, c, s, ns, ys, ex⟩ := xenc_as x
  rw [ex]
  refine f59 ?_
  simp (disch := omega) only [go_sem, and_self, and_true, true_and, false_and, and_false, Nat.reduceAdd, Nat.reduceMul, Nat.reduceSub, Nat.reduceLeDiff, Nat.reduceLT, Nat.reduceGT, Nat.reduceEqDiff, Nat.reduceBEq, Int.reduceNeg, Int.reduceEq, Int.reduceLT, Int.reduceLE, Int.reduceBEq, Int.reduceToNat, Int.toNat_natCast, Int.natCast_zero, r59_T, r59, h, w64]

theorem see_no (x : Xp) (most n : Int) (h : ¬ n < most) :
    F tab 59 [.d x.enc, .ptr 1 0, .ptr 0 0] [.box [.d (iv most)], .box [.d (iv n)]] = some (.ret (.d (.bool false)) [.box [.d (iv most)], .box [.d (iv n)]]) := by
  obtain ⟨o, t, p, k, c, s, ns, ys, ex⟩ := xenc_as x
  rw [ex]
  refine f59 ?_
  simp (disch := omega) only [go_sem, and_self, and_true, true_and, false_and, and_false, Nat.reduceAdd, Nat.reduceMul, Nat.reduceSub, Nat.reduceLeDiff, Nat.reduceLT, Nat.reduceGT, Nat.reduceEqDiff, Nat.reduceBEq, Int.reduceNeg, Int.reduceEq, Int.reduceLT, Int.reduceLE, Int.reduceBEq, Int.reduceToNat, Int.toNat_natCast, Int.natCast_zero, r59_T, r59, h, w64]

theorem size_runs (most : Int) (hm : most ≤ 9223372036854775807) : ∀ (l : List Xp) (n : Int), 0 ≤ n → n < most →
    ∃ b, Runs 59 [.ptr 1 0, .ptr 0 0] [.box [.d (iv most)], .box [.d (iv n)]] l [.box [.d (iv most)], .box [.d (iv (min most (n + l.length)))]] b
  | [], n, h0, h => ⟨true, by
      have : min most (n + (([] : List Xp).length : Int)) = n := by simp only [List.length_nil]; omega
      rw [this]
      exact .nil⟩
  | x :: l, n, h0, h => by
    have hs := see_up x most n h h0 hm
    by_cases h1 : n + 1 < most
    · obtain ⟨b, hb⟩ := size_runs most hm l (n + 1) (by omega) h1
      rw [decide_eq_true h1] at hs
      have : min most (n + ((x :: l).length : Int)) = min most (n + 1 + (l.length : Int)) := by simp only [List.length_cons]; omega
      rw [this]
      exact ⟨b, .step hs hb⟩
    · rw [decide_eq_false h1] at hs
      have : min most (n + ((x :: l).length : Int)) = n + 1 := by simp only [List.length_cons]; omega
      rw [this]
      exact ⟨false, .stop hs⟩

def sizeV (e : Xp) (most : Int) : Int := max 0 (min most e.pre.length)

theorem size_fn (e : Xp) (most : Int) (b : Bool)
    (h : F tab 23 [.d e.enc, .fn 59 [.ptr 1 0, .ptr 0 0]] [.box [.d (iv most)], .box [.d (iv 0)]] = some (.ret (.d (.bool b)) [.box [.d (iv most)], .box [.d (iv (sizeV e most))]])) (hp : List Ent) :
    F tab 22 [.d e.enc, .d (iv most)] hp = some (.ret (.d (iv (sizeV e most))) hp) := by
  obtain ⟨o, t, p, k, c, s, ns, ys, ex⟩ := xenc_as e
  rw [ex] at h ⊢
  refine f22 rfl ?_
  simp (disch := omega) only [go_sem, and_self, and_true, true_and, false_and, and_false, Nat.reduceAdd, Nat.reduceMul, Nat.reduceSub, Nat.reduceLeDiff, Nat.reduceLT, Nat.reduceGT, Nat.reduceEqDiff, Nat.reduceBEq, Int.reduceNeg, Int.reduceEq, Int.reduceLT, Int.reduceLE, Int.reduceBEq, Int.reduceToNat, Int.toNat_natCast, Int.natCast_zero, r22_T, r22, h]

theorem size_ok (e : Xp) (he : e.ok) (most : Int) (hm : most ≤ 9223372036854775807) (hp : List Ent) : F tab 22 [.d e.enc, .d (iv most)] hp = some (.ret (.d (iv (sizeV e most))) hp) := by
  have hpos := pre_pos e
  by_cases h : 0 < most
  · obtain ⟨b, hb⟩ := size_runs most hm e.pre 0 (by omega) h
    have e1 : min most (0 + (e.pre.length : Int)) = sizeV e most := by unfold sizeV; omega
    rw [e1] at hb
    exact size_fn e most b (go_ok _ _ e he _ _ _ hb) hp
  · have e1 : sizeV e most = 0 := by unfold sizeV; omega
    refine size_fn e most false ?_ hp
    rw [e1]
    refine go_ok _ _ e he _ _ _ ?_
    rw [pre_eq]
    exact .stop (see_no e most 0 h)
end Go.Pe.T

namespace Go.Pe.T

/-! ### are two the same -/

def namesE : List ByteArray → List ByteArray → Bool
  | x :: a, y :: b => (x.toList == y.toList) && namesE a b
  | _, _ => true

mutual
def sameV : Xp → Xp → Bool
  | .mk o t p k c s ns xs, .mk o' t' p' k' c' s' ns' xs' => o == o' && (t.toList == t'.toList && (p == p' && (k == k' && ((c == c' && s == s') && (ns.length == ns'.length && (xs.length == xs'.length && (namesE ns ns' && sameVs xs xs')))))))
def sameVs : List Xp → List Xp → Bool
  | x :: a, y :: b => sameV x y && sameVs a b
  | _, _ => true
end

theorem eqD_num (c s c' s' : Int) : eqD (.st [(0, 1, .i), (1, 1, .i)]) (.agg [iv c, iv s]) (.agg [iv c', iv s']) = some (c == c' && s == s') := by
  have e : eqD (.st [(0, 1, .i), (1, 1, .i)]) (.agg [iv c, iv s]) (.agg [iv c', iv s']) = (match some (c == c') with | some true => (match some (s == s') with | some true => some true | some false => some false | none => none) | some false => some false | none => none) := rfl
  rw [e]
  cases c == c' <;> cases s == s' <;> rfl

theorem strD_neq (x y : ByteArray) : strD .neq x y = some (.bool !(x.toList == y.toList)) := rfl
theorem strD_eql (x y : ByteArray) : strD .eql x y = some (.bool (x.toList == y.toList)) := rfl

def SameIs (x y : Xp) : Prop := ∀ hp : List Ent, F tab 25 [.d x.enc, .d y.enc] hp = some (.ret (.d (.bool (sameV x y))) hp)

def SmNames (o p k c s o' p' k' c' s' : Int) (t t' : ByteArray) (ns ns' : List ByteArray) (xs xs' : List Xp) (i : Nat) : Prop :=
    V (F tab) r25_B0 (r25_S0 (.ibox [.d (iv o), .d (.str t), .d (iv p), .d (iv k), .d (iv c), .d (iv s), .d (.sl (ns.map .str)), .d (.sl (Xp.encs xs))]) (.ibox [.d (iv o'), .d (.str t'), .d (iv p'), .d (iv k'), .d (iv c'), .d (iv s'), .d (.sl (ns'.map .str)), .d (.sl (Xp.encs xs'))]) (.d (iv i)) []) =
      if namesE (ns.drop i) (ns'.drop i) then some (.norm, r25_E0 (.ibox [.d (iv o), .d (.str t), .d (iv p), .d (iv k), .d (iv c), .d (iv s), .d (.sl (ns.map .str)), .d (.sl (Xp.encs xs))]) (.ibox [.d (iv o'), .d (.str t'), .d (iv p'), .d (iv k'), .d (iv c'), .d (iv s'), .d (.sl (ns'.map .str)), .d (.sl (Xp.encs xs'))]) []) else some (.ret, r25_R (.d (.bool false)) [])

theorem sm_names_end (o p k c s o' p' k' c' s' : Int) (t t' : ByteArray) (ns ns' : List ByteArray) (xs xs' : List Xp) (i : Nat) (hi : ns.length ≤ i) : SmNames o p k c s o' p' k' c' s' t t' ns ns' xs xs' i := by
  have h1 : ((i : Int) < (ns.length : Int)) = False := eq_false (by omega)
  unfold SmNames
  rw [r25_B0_eq, List.drop_of_length_le hi]
  have e : namesE [] (ns'.drop i) = true := by simp [namesE]
  rw [e]
  simp (disch := omega) only [go_sem, and_self, and_true, true_and, false_and, and_false, Nat.reduceAdd, Nat.reduceMul, Nat.reduceSub, Nat.reduceLeDiff, Nat.reduceLT, Nat.reduceGT, Nat.reduceEqDiff, Nat.reduceBEq, Int.reduceNeg, Int.reduceEq, Int.reduceLT, Int.reduceLE, Int.reduceBEq, Int.reduceToNat, Int.toNat_natCast, Int.natCast_zero, r25_C0, h1, List.length_map]

theorem sm_names_step (o p k c s o' p' k' c' s' : Int) (t t' : ByteArray) (ns ns' : List ByteArray) (xs xs' : List Xp) (hl : ns.length ≤ maxLen) (hn : ns.length = ns'.length) (i : Nat) (hi : i < ns.length) (ih : SmNames o p k c s o' p' k' c' s' t t' ns ns' xs xs' (i + 1)) : SmNames o p k c s o' p' k' c' s' t t' ns ns' xs xs' i := by
  have hmx : maxLen = 9223372036854775807 := by decide
  have hi' : i < ns'.length := by omega
  have h1 : ((i : Int) < (ns.length : Int)) = True := eq_true (by omega)
  have hi0 : (0 ≤ (i : Int)) = True := eq_true (by omega)
  have va : (ns.map D.str)[i]? = some (.str ns[i]) := by simp [hi]
  have vb : (ns'.map D.str)[i]? = some (.str ns'[i]) := by simp [hi']
  unfold SmNames at ih ⊢
  rw [r25_B0_eq, List.drop_eq_getElem_cons hi, List.drop_eq_getElem_cons hi']
  simp only [namesE]
  rcases Bool.eq_false_or_eq_true (ns[i].toList == ns'[i].toList) with g | g
  · rw [Int.natCast_add, Int.natCast_one] at ih
    simp (disch := omega) only [go_sem, and_self, and_true, true_and, false_and, and_false, Nat.reduceAdd, Nat.reduceMul, Nat.reduceSub, Nat.reduceLeDiff, Nat.reduceLT, Nat.reduceGT, Nat.reduceEqDiff, Nat.reduceBEq, Int.reduceNeg, Int.reduceEq, Int.reduceLT, Int.reduceLE, Int.reduceBEq, Int.reduceToNat, Int.toNat_natCast, Int.natCast_zero, r25_C0, h1, List.length_map, hi0, va, vb, g, strD_neq, w64, Bool.true_and]
    exact ih
  · simp (disch := omega) only [go_sem, and_self, and_true, true_and, false_and, and_false, Nat.reduceAdd, Nat.reduceMul, Nat.reduceSub, Nat.reduceLeDiff, Nat.reduceLT, Nat.reduceGT, Nat.reduceEqDiff, Nat.reduceBEq, Int.reduceNeg, Int.reduceEq, Int.reduceLT, Int.reduceLE, Int.reduceBEq, Int.reduceToNat, Int.toNat_natCast, Int.natCast_zero, r25_C0, h1, List.length_map, hi0, va, vb, g, strD_neq, w64, Bool.false_and]

theorem sm_names (o p k c s o' p' k' c' s' : Int) (t t' : ByteArray) (ns ns' : List ByteArray) (xs xs' : List Xp) (hl : ns.length ≤ maxLen) (hn : ns.length = ns'.length) : ∀ (j i : Nat), i + j = ns.length → SmNames o p k c s o' p' k' c' s' t t' ns ns' xs xs' i
  | 0, i, hi => sm_names_end o p k c s o' p' k' c' s' t t' ns ns' xs xs' i (by omega)
  | j + 1, i, hi => sm_names_step o p k c s o' p' k' c' s' t t' ns ns' xs xs' hl hn i (by omega) (sm_names o p k c s o' p' k' c' s' t t' ns ns' xs xs' hl hn j (i + 1) (by omega))

def SmSubs (o p k c s o' p' k' c' s' : Int) (t t' : ByteArray) (ns ns' : List ByteArray) (xs xs' : List Xp) (i : Nat) : Prop :=
    V (F tab) r25_B1 (r25_S1 (.ibox [.d (iv o), .d (.str t), .d (iv p), .d (iv k), .d (iv c), .d (iv s), .d (.sl (ns.map .str)), .d (.sl (Xp.encs xs))]) (.ibox [.d (iv o'), .d (.str t'), .d (iv p'), .d (iv k'), .d (iv c'), .d (iv s'), .d (.sl (ns'.map .str)), .d (.sl (Xp.encs xs'))]) (.d (iv i)) []) =
      if sameVs (xs.drop i) (xs'.drop i) then some (.norm, r25_E1 []) else some (.ret, r25_R (.d (.bool false)) [])

theorem sm_subs_end (o p k c s o' p' k' c' s' : Int) (t t' : ByteArray) (ns ns' : List ByteArray) (xs xs' : List Xp) (i : Nat) (hi : xs.length ≤ i) : SmSubs o p k c s o' p' k' c' s' t t' ns ns' xs xs' i := by
  have h1 : ((i : Int) < (xs.length : Int)) = False := eq_false (by omega)
  unfold SmSubs
  rw [r25_B1_eq, List.drop_of_length_le hi]
  have e : sameVs [] (xs'.drop i) = true := by simp [sameVs]
  rw [e]
  simp (disch := omega) only [go_sem, and_self, and_true, true_and, false_and, and_false, Nat.reduceAdd, Nat.reduceMul, Nat.reduceSub, Nat.reduceLeDiff, Nat.reduceLT, Nat.reduceGT, Nat.reduceEqDiff, Nat.reduceBEq, Int.reduceNeg, Int.reduceEq, Int.reduceLT, Int.reduceLE, Int.reduceBEq, Int.reduceToNat, Int.toNat_natCast, Int.natCast_zero, r25_C1, h1, xencs_len]

theorem sm_subs_step (o p k c s o' p' k' c' s' : Int) (t t' : ByteArray) (ns ns' : List ByteArray) (xs xs' : List Xp) (hl : xs.length ≤ maxLen) (hn : xs.length = xs'.length) (i : Nat) (hi : i < xs.length) (hS : ∀ (hi' : i < xs'.length), SameIs xs[i] xs'[i]) (ih : SmSubs o p k c s o' p' k' c' s' t t' ns ns' xs xs' (i + 1)) : SmSubs o p k c s o' p' k' c' s' t t' ns ns' xs xs' i := by
  have hmx : maxLen = 9223372036854775807 := by decide
  have hi' : i < xs'.length := by omega
  have hS := hS hi'
  have h1 : ((i : Int) < (xs.length : Int)) = True := eq_true (by omega)
  have hi0 : (0 ≤ (i : Int)) = True := eq_true (by omega)
  have va : (Xp.encs xs)[i]? = some (xs[i].enc) := by rw [xencs_get]; simp [hi]
  have vb : (Xp.encs xs')[i]? = some (xs'[i].enc) := by rw [xencs_get]; simp [hi']
  unfold SmSubs at ih ⊢
  unfold SameIs at hS
  rw [r25_B1_eq, List.drop_eq_getElem_cons hi, List.drop_eq_getElem_cons hi']
  simp only [sameVs]
  rcases Bool.eq_false_or_eq_true (sameV xs[i] xs'[i]) with g | g
  · rw [Int.natCast_add, Int.natCast_one] at ih
    simp (disch := omega) only [go_sem, and_self, and_true, true_and, false_and, and_false, Nat.reduceAdd, Nat.reduceMul, Nat.reduceSub, Nat.reduceLeDiff, Nat.reduceLT, Nat.reduceGT, Nat.reduceEqDiff, Nat.reduceBEq, Int.reduceNeg, Int.reduceEq, Int.reduceLT, Int.reduceLE, Int.reduceBEq, Int.reduceToNat, Int.toNat_natCast, Int.natCast_zero, r25_C1, h1, xencs_len, hi0, va, vb, xenc_w, xenc_a, hS, g, w64, Bool.true_and]
    exact ih
  · simp (disch := omega) only [go_sem, and_self, and_true, true_and, false_and, and_false, Nat.reduceAdd, Nat.reduceMul, Nat.reduceSub, Nat.reduceLeDiff, Nat.reduceLT, Nat.reduceGT, Nat.reduceEqDiff, Nat.reduceBEq, Int.reduceNeg, Int.reduceEq, Int.reduceLT, Int.reduceLE, Int.reduceBEq, Int.reduceToNat, Int.toNat_natCast, Int.natCast_zero, r25_C1, h1, xencs_len, hi0, va, vb, xenc_w, xenc_a, hS, g, w64, Bool.false_and]

theorem sm_subs (o p k c s o' p' k' c' s' : Int) (t t' : ByteArray) (ns ns' : List ByteArray) (xs xs' : List Xp) (hl : xs.length ≤ maxLen) (hn : xs.length = xs'.length) (hS : ∀ x ∈ xs, ∀ y ∈ xs', SameIs x y) : ∀ (j i : Nat), i + j = xs.length → SmSubs o p k c s o' p' k' c' s' t t' ns ns' xs xs' i
  | 0, i, hi => sm_subs_end o p k c s o' p' k' c' s' t t' ns ns' xs xs' i (by omega)
  | j + 1, i, hi => sm_subs_step o p k c s o' p' k' c' s' t t' ns ns' xs xs' hl hn i (by omega) (fun hi' => hS _ (List.getElem_mem _) _ (List.getElem_mem _)) (sm_subs o p k c s o' p' k' c' s' t t' ns ns' xs xs' hl hn hS j (i + 1) (by omega))

theorem sm_no0 (o p k c s o' p' k' c' s' : Int) (t t' : ByteArray) (ns ns' : List ByteArray) (xs xs' : List Xp)  (ho : (o == o') = false) : SameIs (.mk o t p k c s ns xs) (.mk o' t' p' k' c' s' ns' xs') := by
  intro heap
  have no : (o != o') = true := by simp only [bne, ho, Bool.not_false]
  refine f25 rfl ?_
  simp (disch := omega) only [go_sem, and_self, and_true, true_and, false_and, and_false, Nat.reduceAdd, Nat.reduceMul, Nat.reduceSub, Nat.reduceLeDiff, Nat.reduceLT, Nat.reduceGT, Nat.reduceEqDiff, Nat.reduceBEq, Int.reduceNeg, Int.reduceEq, Int.reduceLT, Int.reduceLE, Int.reduceBEq, Int.reduceToNat, Int.toNat_natCast, Int.natCast_zero, r25_T, r25, Xp.enc, sameV, eqD_num, strD_neq, List.length_map, xencs_len, ho, Bool.false_and, Bool.true_and, no]

theorem sm_no1 (o p k c s o' p' k' c' s' : Int) (t t' : ByteArray) (ns ns' : List ByteArray) (xs xs' : List Xp)  (ho : (o == o') = true) (ht : (t.toList == t'.toList) = false) : SameIs (.mk o t p k c s ns xs) (.mk o' t' p' k' c' s' ns' xs') := by
  intro heap
  have no : (o != o') = false := by simp only [bne, ho, Bool.not_true]
  refine f25 rfl ?_
  simp (disch := omega) only [go_sem, and_self, and_true, true_and, false_and, and_false, Nat.reduceAdd, Nat.reduceMul, Nat.reduceSub, Nat.reduceLeDiff, Nat.reduceLT, Nat.reduceGT, Nat.reduceEqDiff, Nat.reduceBEq, Int.reduceNeg, Int.reduceEq, Int.reduceLT, Int.reduceLE, Int.reduceBEq, Int.reduceToNat, Int.toNat_natCast, Int.natCast_zero, r25_T, r25, Xp.enc, sameV, eqD_num, strD_neq, List.length_map, xencs_len, ho, no, ht, Bool.false_and, Bool.true_and]

theorem sm_no2 (o p k c s o' p' k' c' s' : Int) (t t' : ByteArray) (ns ns' : List ByteArray) (xs xs' : List Xp)  (ho : (o == o') = true) (ht : (t.toList == t'.toList) = true) (hp : (p == p') = false) : SameIs (.mk o t p k c s ns xs) (.mk o' t' p' k' c' s' ns' xs') := by
  intro heap
  have no : (o != o') = false := by simp only [bne, ho, Bool.not_true]
  have np : (p != p') = true := by simp only [bne, hp, Bool.not_false]
  refine f25 rfl ?_
  simp (disch := omega) only [go_sem, and_self, and_true, true_and, false_and, and_false, Nat.reduceAdd, Nat.reduceMul, Nat.reduceSub, Nat.reduceLeDiff, Nat.reduceLT, Nat.reduceGT, Nat.reduceEqDiff, Nat.reduceBEq, Int.reduceNeg, Int.reduceEq, Int.reduceLT, Int.reduceLE, Int.reduceBEq, Int.reduceToNat, Int.toNat_natCast, Int.natCast_zero, r25_T, r25, Xp.enc, sameV, eqD_num, strD_neq, List.length_map, xencs_len, ho, no, ht, hp, Bool.false_and, Bool.true_and, np]

theorem sm_no3 (o p k c s o' p' k' c' s' : Int) (t t' : ByteArray) (ns ns' : List ByteArray) (xs xs' : List Xp)  (ho : (o == o') = true) (ht : (t.toList == t'.toList) = true) (hp : (p == p') = true) (hk : (k == k') = false) : SameIs (.mk o t p k c s ns xs) (.mk o' t' p' k' c' s' ns' xs') := by
  intro heap
  have no : (o != o') = false := by simp only [bne, ho, Bool.not_true]
  have np : (p != p') = false := by simp only [bne, hp, Bool.not_true]
  have nk : (k != k') = true := by simp only [bne, hk, Bool.not_false]
  refine f25 rfl ?_
  simp (disch := omega) only [go_sem, and_self, and_true, true_and, false_and, and_false, Nat.reduceAdd, Nat.reduceMul, Nat.reduceSub, Nat.reduceLeDiff, Nat.reduceLT, Nat.reduceGT, Nat.reduceEqDiff, Nat.reduceBEq, Int.reduceNeg, Int.reduceEq, Int.reduceLT, Int.reduceLE, Int.reduceBEq, Int.reduceToNat, Int.toNat_natCast, Int.natCast_zero, r25_T, r25, Xp.enc, sameV, eqD_num, strD_neq, List.length_map, xencs_len, ho, no, ht, hp, np, hk, Bool.false_and, Bool.true_and, nk]

theorem sm_no4 (o p k c s o' p' k' c' s' : Int) (t t' : ByteArray) (ns ns' : List ByteArray) (xs xs' : List Xp)  (ho : (o == o') = true) (ht : (t.toList == t'.toList) = true) (hp : (p == p') = true) (hk : (k == k') = true) (hn : ((c == c' && s == s')) = false) : SameIs (.mk o t p k c s ns xs) (.mk o' t' p' k' c' s' ns' xs') := by
  intro heap
  have no : (o != o') = false := by simp only [bne, ho, Bool.not_true]
  have np : (p != p') = false := by simp only [bne, hp, Bool.not_true]
  have nk : (k != k') = false := by simp only [bne, hk, Bool.not_true]
  refine f25 rfl ?_
  simp (disch := omega) only [go_sem, and_self, and_true, true_and, false_and, and_false, Nat.reduceAdd, Nat.reduceMul, Nat.reduceSub, Nat.reduceLeDiff, Nat.reduceLT, Nat.reduceGT, Nat.reduceEqDiff, Nat.reduceBEq, Int.reduceNeg, Int.reduceEq, Int.reduceLT, Int.reduceLE, Int.reduceBEq, Int.reduceToNat, Int.toNat_natCast, Int.natCast_zero, r25_T, r25, Xp.enc, sameV, eqD_num, strD_neq, List.length_map, xencs_len, ho, no, ht, hp, np, hk, nk, hn, Bool.false_and, Bool.true_and]

theorem sm_no5 (o p k c s o' p' k' c' s' : Int) (t t' : ByteArray) (ns ns' : List ByteArray) (xs xs' : List Xp)  (ho : (o == o') = true) (ht : (t.toList == t'.toList) = true) (hp : (p == p') = true) (hk : (k == k') = true) (hn : ((c == c' && s == s')) = true) (ha : (ns.length == ns'.length) = false) : SameIs (.mk o t p k c s ns xs) (.mk o' t' p' k' c' s' ns' xs') := by
  intro heap
  have no : (o != o') = false := by simp only [bne, ho, Bool.not_true]
  have np : (p != p') = false := by simp only [bne, hp, Bool.not_true]
  have nk : (k != k') = false := by simp only [bne, hk, Bool.not_true]
  have na : ((ns.length : Int) != (ns'.length : Int)) = true := by simp only [bne_iff_ne, ne_eq, beq_eq_false_iff_ne] at ha ⊢; omega
  refine f25 rfl ?_
  simp (disch := omega) only [go_sem, and_self, and_true, true_and, false_and, and_false, Nat.reduceAdd, Nat.reduceMul, Nat.reduceSub, Nat.reduceLeDiff, Nat.reduceLT, Nat.reduceGT, Nat.reduceEqDiff, Nat.reduceBEq, Int.reduceNeg, Int.reduceEq, Int.reduceLT, Int.reduceLE, Int.reduceBEq, Int.reduceToNat, Int.toNat_natCast, Int.natCast_zero, r25_T, r25, Xp.enc, sameV, eqD_num, strD_neq, List.length_map, xencs_len, ho, no, ht, hp, np, hk, nk, hn, ha, Bool.false_and, Bool.true_and, na]

theorem sm_no6 (o p k c s o' p' k' c' s' : Int) (t t' : ByteArray) (ns ns' : List ByteArray) (xs xs' : List Xp)  (ho : (o == o') = true) (ht : (t.toList == t'.toList) = true) (hp : (p == p') = true) (hk : (k == k') = true) (hn : ((c == c' && s == s')) = true) (ha : (ns.length == ns'.length) = true) (hb : (xs.length == xs'.length) = false) : SameIs (.mk o t p k c s ns xs) (.mk o' t' p' k' c' s' ns' xs') := by
  intro heap
  have no : (o != o') = false := by simp only [bne, ho, Bool.not_true]
  have np : (p != p') = false := by simp only [bne, hp, Bool.not_true]
  have nk : (k != k') = false := by simp only [bne, hk, Bool.not_true]
  have na : ((ns.length : Int) != (ns'.length : Int)) = false := by simp only [beq_iff_eq] at ha; simp only [bne_eq_false_iff_eq]; omega
  have nb : ((xs.length : Int) != (xs'.length : Int)) = true := by simp only [bne_iff_ne, ne_eq, beq_eq_false_iff_ne] at hb ⊢; omega
  refine f25 rfl ?_
  simp (disch := omega) only [go_sem, and_self, and_true, true_and, false_and, and_false, Nat.reduceAdd, Nat.reduceMul, Nat.reduceSub, Nat.reduceLeDiff, Nat.reduceLT, Nat.reduceGT, Nat.reduceEqDiff, Nat.reduceBEq, Int.reduceNeg, Int.reduceEq, Int.reduceLT, Int.reduceLE, Int.reduceBEq, Int.reduceToNat, Int.toNat_natCast, Int.natCast_zero, r25_T, r25, Xp.enc, sameV, eqD_num, strD_neq, List.length_map, xencs_len, ho, no, ht, hp, np, hk, nk, hn, ha, na, hb, Bool.false_and, Bool.true_and, nb]

theorem sm_yes (o p k c s o' p' k' c' s' : Int) (t t' : ByteArray) (ns ns' : List ByteArray) (xs xs' : List Xp) (ho : (o == o') = true) (ht : (t.toList == t'.toList) = true) (hp : (p == p') = true) (hk : (k == k') = true) (hn : ((c == c' && s == s')) = true) (ha : (ns.length == ns'.length) = true) (hb : (xs.length == xs'.length) = true) (hl : ns.length ≤ maxLen) (hm : xs.length ≤ maxLen) (hS : ∀ x ∈ xs, ∀ y ∈ xs', SameIs x y) : SameIs (.mk o t p k c s ns xs) (.mk o' t' p' k' c' s' ns' xs') := by
  intro heap
  have no : (o != o') = false := by simp only [bne, ho, Bool.not_true]
  have np : (p != p') = false := by simp only [bne, hp, Bool.not_true]
  have nk : (k != k') = false := by simp only [bne, hk, Bool.not_true]
  have na : ((ns.length : Int) != (ns'.length : Int)) = false := by simp only [beq_iff_eq] at ha; simp only [bne_eq_false_iff_eq]; omega
  have nb : ((xs.length : Int) != (xs'.length : Int)) = false := by simp only [beq_iff_eq] at hb; simp only [bne_eq_false_iff_eq]; omega
  have hL0 := sm_names o p k c s o' p' k' c' s' t t' ns ns' xs xs' hl (by simpa using ha) ns.length 0 (by omega)
  have hL1 := sm_subs o p k c s o' p' k' c' s' t t' ns ns' xs xs' hm (by simpa using hb) hS xs.length 0 (by omega)
  unfold SmNames at hL0
  unfold SmSubs at hL1
  rw [List.drop_zero, List.drop_zero] at hL0 hL1
  refine f25 rfl ?_
  simp (disch := omega) only [go_sem, and_self, and_true, true_and, false_and, and_false, Nat.reduceAdd, Nat.reduceMul, Nat.reduceSub, Nat.reduceLeDiff, Nat.reduceLT, Nat.reduceGT, Nat.reduceEqDiff, Nat.reduceBEq, Int.reduceNeg, Int.reduceEq, Int.reduceLT, Int.reduceLE, Int.reduceBEq, Int.reduceToNat, Int.toNat_natCast, Int.natCast_zero, r25_T, r25, Xp.enc, sameV, eqD_num, strD_neq, List.length_map, xencs_len, ho, no, ht, hp, np, hk, nk, hn, ha, na, hb, nb, Bool.true_and]
  rw [r25_B0_n]
  erw [hL0]
  rcases Bool.eq_false_or_eq_true (namesE ns ns') with g | g
  · rw [g]
    simp only [if_true, go_sem, and_self, and_true, true_and, false_and, and_false, Nat.reduceAdd, Nat.reduceMul, Nat.reduceSub, Nat.reduceLeDiff, Nat.reduceLT, Nat.reduceGT, Nat.reduceEqDiff, Nat.reduceBEq, Int.reduceNeg, Int.reduceEq, Int.reduceLT, Int.reduceLE, Int.reduceBEq, Int.reduceToNat, Int.toNat_natCast, Int.natCast_zero, Bool.true_and]
    rw [r25_B1_n]
    erw [hL1]
    rcases Bool.eq_false_or_eq_true (sameVs xs xs') with g2 | g2 <;> rw [g2] <;> simp only [go_sem, and_self, and_true, true_and, false_and, and_false, Nat.reduceAdd, Nat.reduceMul, Nat.reduceSub, Nat.reduceLeDiff, Nat.reduceLT, Nat.reduceGT, Nat.reduceEqDiff, Nat.reduceBEq, Int.reduceNeg, Int.reduceEq, Int.reduceLT, Int.reduceLE, Int.reduceBEq, Int.reduceToNat, Int.toNat_natCast, Int.natCast_zero]
  · rw [g]
    simp only [go_sem, and_self, and_true, true_and, false_and, and_false, Nat.reduceAdd, Nat.reduceMul, Nat.reduceSub, Nat.reduceLeDiff, Nat.reduceLT, Nat.reduceGT, Nat.reduceEqDiff, Nat.reduceBEq, Int.reduceNeg, Int.reduceEq, Int.reduceLT, Int.reduceLE, Int.reduceBEq, Int.reduceToNat, Int.toNat_natCast, Int.natCast_zero, Bool.false_and]

theorem same_ok : ∀ (x y : Xp), x.ok → y.ok → SameIs x y
  | .mk o t p k c s ns xs, .mk o' t' p' k' c' s' ns' xs', hx, hy => by
    simp only [Xp.ok] at hx hy
    have hS : ∀ x ∈ xs, ∀ y ∈ xs', SameIs x y := fun x hx' y hy' => same_ok x y (xoks_mem hx.2.2.2.2.2.2.2.2.2 hx') (xoks_mem hy.2.2.2.2.2.2.2.2.2 hy')
    rcases Bool.eq_false_or_eq_true (o == o') with ho | ho
    rotate_left
    · exact sm_no0 o p k c s o' p' k' c' s' t t' ns ns' xs xs' ho
    rcases Bool.eq_false_or_eq_true (t.toList == t'.toList) with ht | ht
    rotate_left
    · exact sm_no1 o p k c s o' p' k' c' s' t t' ns ns' xs xs' ho ht
    rcases Bool.eq_false_or_eq_true (p == p') with hp | hp
    rotate_left
    · exact sm_no2 o p k c s o' p' k' c' s' t t' ns ns' xs xs' ho ht hp
    rcases Bool.eq_false_or_eq_true (k == k') with hk | hk
    rotate_left
    · exact sm_no3 o p k c s o' p' k' c' s' t t' ns ns' xs xs' ho ht hp hk
    rcases Bool.eq_false_or_eq_true ((c == c' && s == s')) with hn | hn
    rotate_left
    · exact sm_no4 o p k c s o' p' k' c' s' t t' ns ns' xs xs' ho ht hp hk hn
    rcases Bool.eq_false_or_eq_true (ns.length == ns'.length) with ha | ha
    rotate_left
    · exact sm_no5 o p k c s o' p' k' c' s' t t' ns ns' xs xs' ho ht hp hk hn ha
    rcases Bool.eq_false_or_eq_true (xs.length == xs'.length) with hb | hb
    rotate_left
    · exact sm_no6 o p k c s o' p' k' c' s' t t' ns ns' xs xs' ho ht hp hk hn ha hb
    exact sm_yes o p k c s o' p' k' c' s' t t' ns ns' xs xs' ho ht hp hk hn ha hb hx.2.2.2.2.2.2.1 hx.2.2.2.2.2.2.2.2.1 hS
end Go.Pe.T

namespace Go.Pe.T

theorem lives14_ev : evF tab 70 20 [] [] = some (.ret (.d (.bool true)) []) := by kernel_rfl

theorem lives14_ok (hp : List Ent) : F tab 20 [] hp = some (.ret (.d (.bool true)) hp) :=
  F_some.2 ⟨70, ((evF_nice (pf := pf) (tabOf_pf tl pl _) 70).2 20 rfl _ _ _ _ lives14_ev).2 hp⟩
theorem signs_ev : evF tab 70 26 [] [] = evF tab 70 27 [] [] := by kernel_rfl
end Go.Pe.T

namespace Go.Pe.T

/-! ### TreeWalks -/

mutual
theorem sameV_refl : ∀ (x : Xp), sameV x x = true
  | .mk o t p k c s ns xs => by
    have h1 := sameVs_refl xs
    have h2 : ∀ (l : List ByteArray), namesE l l = true := by
      intro l
      induction l with
      | nil => rfl
      | cons a l ih => simp [namesE, ih]
    simp [sameV, h1, h2]
theorem sameVs_refl : ∀ (xs : List Xp), sameVs xs xs = true
  | [] => by simp [sameVs]
  | x :: xs => by simp [sameVs, sameV_refl x, sameVs_refl xs]
end

/-- the store of the law -/
abbrev wkH (stop : Int) (l : List Xp) (n : Int) : List Ent := [.box [.d (iv stop)], .box [.d (.sl (Xp.encs l))], .box [.d (iv n)], .box [.d (.bool true)]]
abbrev wkC : List PV := [.ptr 3 0, .ptr 2 0, .ptr 1 0, .ptr 0 0]

theorem wk_step (stop : Int) (l : List Xp) (hl : l.length ≤ 1000) (hk : ∀ x ∈ l, x.ok) (n : Nat) (hn : n < l.length) :
    F tab 24 (.d l[n].enc :: wkC) (wkH stop l n) = some (.ret (.d (.bool ((n : Int) + 1 != stop))) (wkH stop l (n + 1))) := by
  have h1 : ((n : Int) < (l.length : Int)) = True := eq_true (by omega)
  have hi0 : (0 ≤ (n : Int)) = True := eq_true (by omega)
  have va : (Xp.encs l)[n]? = some (l[n].enc) := by rw [xencs_get]; simp [hn]
  have hS := same_ok l[n] l[n] (hk _ (List.getElem_mem hn)) (hk _ (List.getElem_mem hn))
  unfold SameIs at hS
  rw [sameV_refl] at hS
  obtain ⟨o, t, p, k, c, s, ns, ys, ex⟩ := xenc_as l[n]
  rw [ex] at va hS ⊢
  refine f24 ?_
  simp (disch := omega) only [go_sem, and_self, and_true, true_and, false_and, and_false, Nat.reduceAdd, Nat.reduceMul, Nat.reduceSub, Nat.reduceLeDiff, Nat.reduceLT, Nat.reduceGT, Nat.reduceEqDiff, Nat.reduceBEq, Int.reduceNeg, Int.reduceEq, Int.reduceLT, Int.reduceLE, Int.reduceBEq, Int.reduceToNat, Int.toNat_natCast, Int.natCast_zero, r24_T, r24, h1, hi0, va, hS, xencs_len, w64]

def wkFin (stop : Int) (len n : Nat) : Int := if (n : Int) < stop ∧ stop ≤ len then stop else len
def wkB (stop : Int) (len n : Nat) : Bool := !decide ((n : Int) < stop ∧ stop ≤ len)

theorem wk_runs (stop : Int) (l : List Xp) (hl : l.length ≤ 1000) (hk : ∀ x ∈ l, x.ok) : ∀ (j n : Nat), n + j = l.length →
    Runs 24 wkC (wkH stop l n) (l.drop n) (wkH stop l (wkFin stop l.length n)) (wkB stop l.length n)
  | 0, n, hn => by
    have e1 : wkFin stop l.length n = (n : Int) := by unfold wkFin; split <;> omega
    have e2 : wkB stop l.length n = true := by unfold wkB; simp; omega
    rw [List.drop_of_length_le (by omega), e1, e2]
    exact .nil
  | j + 1, n, hn => by
    have hlt : n < l.length := by omega
    have hs := wk_step stop l hl hk n hlt
    have ih := wk_runs stop l hl hk j (n + 1) (by omega)
    rw [List.drop_eq_getElem_cons hlt]
    by_cases h : (n : Int) + 1 = stop
    · have e1 : wkFin stop l.length n = (n : Int) + 1 := by unfold wkFin; split <;> omega
      have e2 : wkB stop l.length n = false := by unfold wkB; simp; omega
      have e3 : ((n : Int) + 1 != stop) = false := by simp [h]
      rw [e1, e2]
      rw [e3] at hs
      exact .stop hs
    · have e1 : wkFin stop l.length n = wkFin stop l.length (n + 1) := by unfold wkFin; split <;> split <;> omega
      have e2 : wkB stop l.length n = wkB stop l.length (n + 1) := by unfold wkB; congr 1; apply decide_eq_decide.2; omega
      have e3 : ((n : Int) + 1 != stop) = true := by simp [h]
      rw [e1, e2]
      rw [e3] at hs
      rw [Int.natCast_add, Int.natCast_one] at ih
      exact .step hs ih
end Go.Pe.T

namespace Go.Pe.T

/-! ### the signs; the law TreeWalks -/

def signsL : List ByteArray := [⟨#[43]⟩, ⟨#[45]⟩, ⟨#[42]⟩, ⟨#[47]⟩, ⟨#[37]⟩, ⟨#[61, 61]⟩, ⟨#[33, 61]⟩, ⟨#[60]⟩, ⟨#[60, 61]⟩, ⟨#[62]⟩, ⟨#[62, 61]⟩, ⟨#[97, 110, 100]⟩, ⟨#[111, 114]⟩, ⟨#[47, 47]⟩]

theorem signs_ok (hp : List Ent) : F tab 26 [] hp = some (.ret (.d (.sl (signsL.map .str))) hp) := by
  refine f26 rfl ?_
  simp only [go_sem, and_self, and_true, true_and, false_and, and_false, Nat.reduceAdd, Nat.reduceMul, Nat.reduceSub, Nat.reduceLeDiff, Nat.reduceLT, Nat.reduceGT, Nat.reduceEqDiff, Nat.reduceBEq, Int.reduceNeg, Int.reduceEq, Int.reduceLT, Int.reduceLE, Int.reduceBEq, Int.reduceToNat, Int.toNat_natCast, Int.natCast_zero, r26_T, r26, signsL, List.map_cons, List.map_nil]
theorem rsigns_ok (hp : List Ent) : F tab 27 [] hp = some (.ret (.d (.sl (signsL.map .str))) hp) := by
  refine f27 rfl ?_
  simp only [go_sem, and_self, and_true, true_and, false_and, and_false, Nat.reduceAdd, Nat.reduceMul, Nat.reduceSub, Nat.reduceLeDiff, Nat.reduceLT, Nat.reduceGT, Nat.reduceEqDiff, Nat.reduceBEq, Int.reduceNeg, Int.reduceEq, Int.reduceLT, Int.reduceLE, Int.reduceBEq, Int.reduceToNat, Int.toNat_natCast, Int.natCast_zero, r27_T, r27, signsL, List.map_cons, List.map_nil]

def SgLoop (x5 x7 x8 x9 x10 : PV) (hp : List Ent) (l : List ByteArray) (i : Nat) : Prop :=
  V (F tab) r4_B0 (r4_S0 x5 x7 x8 x9 x10 (.d (.sl (l.map .str))) (.d (.sl (l.map .str))) (.d (iv i)) hp) = some (.norm, r4_E0 x5 x7 x8 x9 x10 hp)

theorem sg_end (a5 a7 a8 a9 : Nat) (b : Bool) (hp : List Ent) (l : List ByteArray) (i : Nat) (hi : l.length ≤ i) : SgLoop (.ptr a5 0) (.ptr a7 0) (.ptr a8 0) (.ptr a9 0) (.d (.bool b)) hp l i := by
  have h1 : ((i : Int) < (l.length : Int)) = False := eq_false (by omega)
  unfold SgLoop
  rw [r4_B0_eq]
  simp (disch := omega) only [go_sem, and_self, and_true, true_and, false_and, and_false, Nat.reduceAdd, Nat.reduceMul, Nat.reduceSub, Nat.reduceLeDiff, Nat.reduceLT, Nat.reduceGT, Nat.reduceEqDiff, Nat.reduceBEq, Int.reduceNeg, Int.reduceEq, Int.reduceLT, Int.reduceLE, Int.reduceBEq, Int.reduceToNat, Int.toNat_natCast, Int.natCast_zero, r4_C0, h1, List.length_map]
theorem sg_step (a5 a7 a8 a9 : Nat) (b : Bool) (hp : List Ent) (l : List ByteArray) (i : Nat) (hi : i < l.length) (hl : l.length ≤ 1000) (ih : SgLoop (.ptr a5 0) (.ptr a7 0) (.ptr a8 0) (.ptr a9 0) (.d (.bool b)) hp l (i + 1)) : SgLoop (.ptr a5 0) (.ptr a7 0) (.ptr a8 0) (.ptr a9 0) (.d (.bool b)) hp l i := by
  have h1 : ((i : Int) < (l.length : Int)) = True := eq_true (by omega)
  have hi0 : (0 ≤ (i : Int)) = True := eq_true (by omega)
  have va : (l.map D.str)[i]? = some (.str l[i]) := by simp [hi]
  have g : (l[i].toList == l[i].toList) = true := by simp
  unfold SgLoop at ih ⊢
  rw [Int.natCast_add, Int.natCast_one] at ih
  rw [r4_B0_eq]
  simp (disch := omega) only [go_sem, and_self, and_true, true_and, false_and, and_false, Nat.reduceAdd, Nat.reduceMul, Nat.reduceSub, Nat.reduceLeDiff, Nat.reduceLT, Nat.reduceGT, Nat.reduceEqDiff, Nat.reduceBEq, Int.reduceNeg, Int.reduceEq, Int.reduceLT, Int.reduceLE, Int.reduceBEq, Int.reduceToNat, Int.toNat_natCast, Int.natCast_zero, r4_C0, h1, hi0, va, g, strD_neq, List.length_map, w64]
  exact ih
theorem sg_loop (a5 a7 a8 a9 : Nat) (b : Bool) (hp : List Ent) (l : List ByteArray) (hl : l.length ≤ 1000) : ∀ (j i : Nat), i + j = l.length → SgLoop (.ptr a5 0) (.ptr a7 0) (.ptr a8 0) (.ptr a9 0) (.d (.bool b)) hp l i
  | 0, i, hi => sg_end a5 a7 a8 a9 b hp l i (by omega)
  | j + 1, i, hi => sg_step a5 a7 a8 a9 b hp l i (by omega) hl (sg_loop a5 a7 a8 a9 b hp l hl j (i + 1) (by omega))

theorem TreeWalks_ok (e : Xp) (most stop : Int) (he : e.ok) (hm : i64 most) (hs : i64 stop) (hp : List Ent) : F tab 4 [.d e.enc, .d (iv most), .d (iv stop)] hp = some (.ret (.d (.bool true)) hp) := by
  have a1 : ∀ hp, F tab 19 [.d e.enc, .d (iv 590)] hp = _ := light_ok e he 590 (by omega)
  have a2 : ∀ hp, F tab 21 [.d e.enc, .d (iv 600)] hp = _ := rall_ok e he 600 (by omega) (by omega)
  have a3 := size_ok e he most hm.2
  have hw := fun (hl : e.pre.length ≤ 590) => go_ok 24 wkC e he _ _ _ (wk_runs stop e.pre (by omega) (pre_ok e he) e.pre.length 0 (by omega))
  have hL := sg_loop 0 1 2 3 (wkB stop e.pre.length 0) (wkH stop e.pre (wkFin stop e.pre.length 0)) signsL (by decide) signsL.length 0 (by omega)
  unfold SgLoop at hL
  have hpos := pre_pos e
  obtain ⟨o, t, p, k, c, s, ns, ys, ex⟩ := xenc_as e
  rw [ex] at a1 a2 a3 hw ⊢
  refine f4 rfl ?_
  by_cases g : e.pre.length ≤ 590
  · have hw := hw g
    have e1 : (e.pre.take 600) = e.pre := List.take_of_length_le (by omega)
    rw [e1] at a2
    have e2 : (sizeV e most != if (if (e.pre.length : Int) < most then (e.pre.length : Int) else most) > 0 then (if (e.pre.length : Int) < most then (e.pre.length : Int) else most) else 0) = false := by
      simp only [bne_eq_false_iff_eq, sizeV]
      split <;> split <;> omega
    simp only [wkH, wkC] at hw hL
    rw [Int.natCast_zero] at hw
    rw [Int.natCast_zero] at hL
    simp (disch := omega) only [go_sem, and_self, and_true, true_and, false_and, and_false, Nat.reduceAdd, Nat.reduceMul, Nat.reduceSub, Nat.reduceLeDiff, Nat.reduceLT, Nat.reduceGT, Nat.reduceEqDiff, Nat.reduceBEq, Int.reduceNeg, Int.reduceEq, Int.reduceLT, Int.reduceLE, Int.reduceBEq, Int.reduceToNat, Int.toNat_natCast, Int.natCast_zero, r4_T, r4, a1, a2, a3, g, decide_true, xencs_len, hw, e2, signs_ok, rsigns_ok, bne_self_eq_false]
    rw [r4_B0_n]
    erw [hL]
    by_cases c1 : stop ≥ 1
    · by_cases c2 : stop ≤ (e.pre.length : Int)
      · have f1 : wkFin stop e.pre.length 0 = stop := by unfold wkFin; rw [if_pos (by omega)]
        have f2 : wkB stop e.pre.length 0 = false := by unfold wkB; simp; omega
        rw [f1, f2]
        simp (disch := omega) only [go_sem, and_self, and_true, true_and, false_and, and_false, Nat.reduceAdd, Nat.reduceMul, Nat.reduceSub, Nat.reduceLeDiff, Nat.reduceLT, Nat.reduceGT, Nat.reduceEqDiff, Nat.reduceBEq, Int.reduceNeg, Int.reduceEq, Int.reduceLT, Int.reduceLE, Int.reduceBEq, Int.reduceToNat, Int.toNat_natCast, Int.natCast_zero, c1, c2, xencs_len, lives14_ok, beq_self_eq_true]
      · have f1 : wkFin stop e.pre.length 0 = e.pre.length := by unfold wkFin; rw [if_neg (by omega)]
        have f2 : wkB stop e.pre.length 0 = true := by unfold wkB; simp; omega
        rw [f1, f2]
        simp (disch := omega) only [go_sem, and_self, and_true, true_and, false_and, and_false, Nat.reduceAdd, Nat.reduceMul, Nat.reduceSub, Nat.reduceLeDiff, Nat.reduceLT, Nat.reduceGT, Nat.reduceEqDiff, Nat.reduceBEq, Int.reduceNeg, Int.reduceEq, Int.reduceLT, Int.reduceLE, Int.reduceBEq, Int.reduceToNat, Int.toNat_natCast, Int.natCast_zero, c1, c2, xencs_len, lives14_ok, beq_self_eq_true]
    · have f1 : wkFin stop e.pre.length 0 = e.pre.length := by unfold wkFin; rw [if_neg (by omega)]
      have f2 : wkB stop e.pre.length 0 = true := by unfold wkB; simp; omega
      rw [f1, f2]
      simp (disch := omega) only [go_sem, and_self, and_true, true_and, false_and, and_false, Nat.reduceAdd, Nat.reduceMul, Nat.reduceSub, Nat.reduceLeDiff, Nat.reduceLT, Nat.reduceGT, Nat.reduceEqDiff, Nat.reduceBEq, Int.reduceNeg, Int.reduceEq, Int.reduceLT, Int.reduceLE, Int.reduceBEq, Int.reduceToNat, Int.toNat_natCast, Int.natCast_zero, c1, xencs_len, lives14_ok, beq_self_eq_true]
  · simp (disch := omega) only [go_sem, and_self, and_true, true_and, false_and, and_false, Nat.reduceAdd, Nat.reduceMul, Nat.reduceSub, Nat.reduceLeDiff, Nat.reduceLT, Nat.reduceGT, Nat.reduceEqDiff, Nat.reduceBEq, Int.reduceNeg, Int.reduceEq, Int.reduceLT, Int.reduceLE, Int.reduceBEq, Int.reduceToNat, Int.toNat_natCast, Int.natCast_zero, r4_T, r4, a1, g, decide_false, lives14_ok]
end Go.Pe.T
