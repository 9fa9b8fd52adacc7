/- A part of the proof of: FlatTame: a calm expression, whose parts that must be calm are, has nothing wild in it, and costs at most as much as it has parts. -/
import Derived.Test.YthifmmkefongnaaGreatDoorFt4
import Derived.Test.YthifmmkefongnaaGreatDoorFt1
import Derived.KernelRfl
set_option linter.unusedSimpArgs false
set_option linter.unusedVariables false
set_option maxRecDepth 10000
set_option maxRecDepth 100000

namespace Go.Pe.T
def mustO {α : Type} (o : Int) (xs : List α) : List α :=
  if o = 9 then xs.take 1
  else if o = 4 ∨ o = 13 ∨ o = 14 then xs.drop 1
  else if o = 10 ∨ o = 12 ∨ o = 16 ∨ o = 20 ∨ o = 21 then xs
  else []
def wildS (o : Int) : Bool := o == 5 || (o == 8 || (o == 13 || (o == 14 || (o == 18 || (o == 19 || (o == 20 || (o == 21 || o == 7)))))))
def wildO (o : Int) (l : List (Bool × Bool)) : Bool := wildS o || (if o = 11 then l.any (·.2) else l.any (·.1))
def rwO (o : Int) (l : List (Bool × Bool)) (w : Bool) : Bool :=
  if o = 7 then (match l with | x :: y :: _ => x.2 || y.2 | _ => true) else w
mutual
def wrV : Xp → Bool × Bool
  | .mk o t p k c s ns xs => (wildO o (wrs xs), rwO o (wrs xs) (wildO o (wrs xs)))
def wrs : List Xp → List (Bool × Bool)
  | [] => []
  | x :: r => wrV x :: wrs r
end
def wildV (e : Xp) : Bool := (wrV e).1
def rowWildV (e : Xp) : Bool := (wrV e).2
theorem wrs_eq : ∀ (xs : List Xp), wrs xs = xs.map wrV
  | [] => rfl
  | x :: r => by simp [wrs, wrs_eq r]
def nodeOk (o : Int) (n : Nat) : Prop := (o = 7 → n = 2) ∧ (o = 9 → n = 3) ∧ (o = 0 ∨ o = 1 ∨ o = 2 → n = 0) ∧ (o = 11 → n ≤ 1) ∧ (o = 4 → n = 2) ∧ (o = 13 ∨ o = 14 → n = 3)
mutual
def gd : Xp → Prop
  | .mk o t p k c s ns xs => nodeOk o xs.length ∧ (∀ m ∈ mustO o xs, calmV m = true) ∧ gds xs
def gds : List Xp → Prop
  | [] => True
  | x :: r => gd x ∧ gds r
end
theorem gds_mem : ∀ {xs : List Xp}, gds xs → ∀ x ∈ xs, gd x
  | y :: r, h, x, hx => by
    rw [gds] at h
    rcases List.mem_cons.1 hx with rfl | hx
    · exact h.1
    · exact gds_mem h.2 x hx
theorem crs_all {xs : List Xp} (h : allC (crs xs) = true) : ∀ x ∈ xs, calmV x = true := by
  intro x hx
  rw [crs_eq] at h
  unfold allC at h
  rw [List.all_eq_true] at h
  exact h _ (List.mem_map_of_mem hx)
theorem wrs_any1 {xs : List Xp} (h : ∀ x ∈ xs, wildV x = false) : (wrs xs).any (·.1) = false := by
  rw [wrs_eq, List.any_eq_false]
  intro y hy
  obtain ⟨x, hx, rfl⟩ := List.mem_map.1 hy
  have := h x hx
  unfold wildV at this
  simp [this]
theorem tame_node (o : Int) (t : ByteArray) (p k c s : Int) (ns : List ByteArray) (xs : List Xp) (hn : nodeOk o xs.length) (hm : ∀ m ∈ mustO o xs, calmV m = true)
    (ih : ∀ x ∈ xs, (calmV x = true → wildV x = false) ∧ (rowV x = true → rowWildV x = false)) : (calmV (.mk o t p k c s ns xs) = true → wildV (.mk o t p k c s ns xs) = false) ∧ (rowV (.mk o t p k c s ns xs) = true → rowWildV (.mk o t p k c s ns xs) = false) := by
  have hc : calmV (.mk o t p k c s ns xs) = true → wildV (.mk o t p k c s ns xs) = false := by
    intro h
    have h : calmO o p (crs xs) = true := by unfold calmV at h; rw [crV] at h; exact h
    show (wrV (.mk o t p k c s ns xs)).1 = false
    rw [wrV]
    show wildO o (wrs xs) = false
    have calm : (∀ x ∈ xs, calmV x = true) → o ≠ 11 → wildS o = false → wildO o (wrs xs) = false := by
      intro hx h11 hs
      unfold wildO
      rw [hs, if_neg h11, Bool.false_or]
      exact wrs_any1 fun x hm => (ih x hm).1 (hx x hm)
    unfold calmO at h
    obtain ⟨n7, n9, n0, n11, n4, n13⟩ := hn
    split at h
    · rename_i ho
      rcases ho with rfl | rfl | rfl | rfl | rfl
      · obtain rfl := List.eq_nil_of_length_eq_zero (n0 (by omega)); rfl
      · obtain rfl := List.eq_nil_of_length_eq_zero (n0 (by omega)); rfl
      · obtain rfl := List.eq_nil_of_length_eq_zero (n0 (by omega)); rfl
      · exact calm (fun x hx => hm x (by simpa [mustO] using hx)) (by omega) rfl
      · exact calm (fun x hx => hm x (by simpa [mustO] using hx)) (by omega) rfl
    · split at h
      · rename_i ho
        have hx := crs_all h
        rcases ho with rfl | rfl | rfl | rfl | rfl | rfl <;> exact calm hx (by omega) rfl
      · split at h
        · rename_i ho
          subst ho
          match xs, n11 rfl, ih, h with
          | [], _, _, _ => rfl
          | [x], _, ih, h =>
            have hr : rowV x = true := h
            have := (ih x (by simp)).2 hr
            unfold rowWildV at this
            simp [wildO, wildS, wrs, this]
        · split at h
          · rename_i ho
            subst ho
            exact calm (fun x hx => hm x (by simpa [mustO] using hx)) (by omega) rfl
          · simp at h
  refine ⟨hc, fun h => ?_⟩
  by_cases h7 : o = 7
  · subst h7
    match xs, hn.1 rfl, ih, h with
    | [x, y], _, ih, h =>
      have h : (rowV x && rowV y) = true := h
      rw [Bool.and_eq_true] at h
      have h1 := (ih x (by simp)).2 h.1
      have h2 := (ih y (by simp)).2 h.2
      show (rowWildV x || rowWildV y) = false
      rw [h1, h2]; rfl
  · have e1 : rowV (.mk o t p k c s ns xs) = calmV (.mk o t p k c s ns xs) := by
      unfold rowV calmV; rw [crV]; unfold rowO; rw [if_neg h7]
    have e2 : rowWildV (.mk o t p k c s ns xs) = wildV (.mk o t p k c s ns xs) := by
      unfold rowWildV wildV; rw [wrV]; unfold rwO; rw [if_neg h7]
    rw [e1] at h
    rw [e2]
    exact hc h
theorem tame : ∀ (n : Nat) (e : Xp), SizeOf.sizeOf e ≤ n → gd e → (calmV e = true → wildV e = false) ∧ (rowV e = true → rowWildV e = false)
  | 0, e, h, _ => by cases e; simp at h
  | n + 1, .mk o t p k c s ns xs, h, hg => by
    rw [gd] at hg
    refine tame_node o t p k c s ns xs hg.1 hg.2.1 fun x hx => ?_
    have := List.sizeOf_lt_of_mem hx
    simp at h
    exact tame n x (by omega) (gds_mem hg.2.2 x hx)
theorem fold_le : ∀ (l : List Int) (n : Int), l.foldl ssum n ≤ n + l.sum
  | [], n => by simp
  | x :: l, n => by
    rw [List.foldl_cons, List.sum_cons]
    have h1 := fold_le l (ssum n x)
    have h2 : ssum n x ≤ n + x := by unfold ssum; omega
    omega
theorem fold_eq : ∀ (l : List Int) (n : Int), (∀ x ∈ l, 0 ≤ x) → n + l.sum ≤ 1000000 → l.foldl ssum n = n + l.sum
  | [], n, _, _ => by simp
  | x :: l, n, h, hb => by
    rw [List.foldl_cons, List.sum_cons] at *
    have hx := h x (by simp)
    have hs : 0 ≤ l.sum := by
      have : ∀ (l : List Int), (∀ x ∈ l, 0 ≤ x) → 0 ≤ l.sum := by
        intro l
        induction l with
        | nil => intro _; simp
        | cons y l ih =>
          intro h
          rw [List.sum_cons]
          have := h y (by simp)
          have := ih fun z hz => h z (by simp [hz])
          omega
      exact this l fun z hz => h z (by simp [hz])
    have e : ssum n x = n + x := by unfold ssum; omega
    rw [e, fold_eq l (n + x) (fun z hz => h z (by simp [hz])) (by omega)]
    omega
mutual
theorem cost_le : ∀ (e : Xp), costV e ≤ (e.pre.length : Int)
  | .mk o t p k c s ns xs => by
    have h := costs_le xs
    rw [costV, Xp.pre, List.length_cons]
    have hr := costs_rng xs
    generalize costs xs = l at h hr
    unfold costO
    split
    · split
      · rename_i x y z r
        have hx := hr x (by simp)
        have hy := hr y (by simp)
        have hz := hr z (by simp)
        have hs : ∀ (l : List Int), (∀ x ∈ l, 1 ≤ x ∧ x ≤ 1000000) → 0 ≤ l.sum := by
          intro l
          induction l with
          | nil => intro _; simp
          | cons y l ih =>
            intro h
            rw [List.sum_cons]
            have := h y (by simp)
            have := ih fun z hz => h z (by simp [hz])
            omega
        have h0 := hs r fun w hw => hr w (by simp [hw])
        simp only [List.sum_cons] at h
        unfold ssum
        omega
      · omega
    · have := fold_le l 1
      omega
theorem costs_le : ∀ (xs : List Xp), (costs xs).sum ≤ ((Xp.pres xs).length : Int)
  | [] => by simp [costs, Xp.pres]
  | x :: r => by
    rw [costs, List.sum_cons, Xp.pres, List.length_append]
    have h1 := cost_le x
    have h2 := costs_le r
    omega
end
def opV : Xp → Int
  | .mk o _ _ _ _ _ _ _ => o
mutual
theorem cost_pl : ∀ (e : Xp), e.pre.length ≤ 1000000 → (∀ x ∈ e.pre, opV x ≠ 9) → costV e = (e.pre.length : Int)
  | .mk o t p k c s ns xs, hl, h9 => by
    rw [Xp.pre] at hl h9 ⊢
    rw [List.length_cons] at hl ⊢
    have h := costs_pl xs (by omega) fun x hx => h9 x (by simp [hx])
    have ho : o ≠ 9 := h9 _ (List.mem_cons_self ..)
    rw [costV]
    unfold costO
    rw [if_neg ho, fold_eq _ _ (fun x hx => by have := costs_rng xs x hx; omega) (by omega), h]
    omega
theorem costs_pl : ∀ (xs : List Xp), (Xp.pres xs).length ≤ 1000000 → (∀ x ∈ Xp.pres xs, opV x ≠ 9) → (costs xs).sum = ((Xp.pres xs).length : Int)
  | [], _, _ => by simp [costs, Xp.pres]
  | x :: r, hl, h9 => by
    rw [Xp.pres] at hl h9 ⊢
    rw [List.length_append] at hl ⊢
    rw [costs, List.sum_cons, cost_pl x (by omega) fun y hy => h9 y (by simp [hy]), costs_pl r (by omega) fun y hy => h9 y (by simp [hy])]
    omega
end
end Go.Pe.T

namespace Go.Pe.T
theorem cut1 (xs : List D) : cutD xs 1 (xs.length : Int) = xs.drop 1 := by
  unfold cutD
  rw [Int.toNat_natCast, List.take_length]
  rfl
theorem cut01 (xs : List D) : cutD xs 0 1 = xs.take 1 := rfl
theorem xencs_take (xs : List Xp) (n : Nat) : (Xp.encs xs).take n = Xp.encs (xs.take n) := by rw [xencs_eq, xencs_eq, List.map_take]
theorem xencs_drop (xs : List Xp) (n : Nat) : (Xp.encs xs).drop n = Xp.encs (xs.drop n) := by rw [xencs_eq, xencs_eq, List.map_drop]
set_option maxHeartbeats 4000000 in
theorem must_ok (o : Int) (t : ByteArray) (p k c s : Int) (ns : List ByteArray) (xs : List Xp) (hn : nodeOk o xs.length) (hp : List Ent) :
    F tab 29 [.d (Xp.mk o t p k c s ns xs).enc] hp = some (.ret (.d (.sl (Xp.encs (mustO o xs)))) hp) := by
  rw [Xp.enc]
  obtain ⟨n7, n9, n0, n11, n4, n13⟩ := hn
  have hw := xencs_all xs
  have hl := xencs_len xs
  refine f29 rfl ?_
  unfold mustO
  by_cases x9 : o = 9
  · have h3 := n9 x9
    rw [if_pos x9, ← xencs_take, ← cut01]
    have k1 : ((1 : Int) ≤ (xs.length : Int)) = True := eq_true (by omega)
    subst x9
    generalize Xp.encs xs = w at *
    simp (disch := omega) only [go_sem, and_self, and_true, true_and, false_and, and_false, Nat.reduceAdd, Nat.reduceMul, Nat.reduceSub, Nat.reduceLeDiff, Nat.reduceLT, Nat.reduceGT, Nat.reduceEqDiff, Nat.reduceBEq, Int.reduceNeg, Int.reduceEq, Int.reduceLT, Int.reduceLE, Int.reduceBEq, Int.reduceToNat, Int.toNat_natCast, Int.natCast_zero, r29_T, r29, hw, hl, k1, decide_true, Bool.true_and, Bool.and_true]
  rw [if_neg x9]
  have q9 : (o == 9) = false := by simpa using x9
  have three : (o = 4 ∨ o = 13 ∨ o = 14) → fnEnd r29 hp (V (F tab) r29_T ⟨[.d (.agg [iv o, .str t, iv p, iv k, iv c, iv s, .sl (ns.map .str), .sl (Xp.encs xs)]), .dead, .dead, .dead, .dead, .dead, .dead, .dead, .dead, .dead, .dead, .dead, .dead, .dead, .dead, .dead, .dead, .dead, .dead, .dead, .dead, .dead, .dead, .dead, .dead], []⟩) = some (.ret (.d (.sl (Xp.encs (xs.drop 1)))) hp) := by
    intro h
    have hx : 1 ≤ xs.length := by
      rcases h with h | h | h
      · have := n4 h; omega
      · have := n13 (.inl h); omega
      · have := n13 (.inr h); omega
    have k1 : ((1 : Int) ≤ (xs.length : Int)) = True := eq_true (by omega)
    have k2 : ((xs.length : Int) ≤ (xs.length : Int)) = True := eq_true (by omega)
    have hcut := cut1 (Xp.encs xs)
    rw [hl] at hcut
    rw [← xencs_drop, ← hcut]
    clear hcut
    generalize Xp.encs xs = w at *
    rcases h with h | h | h <;> subst h <;>
      simp (disch := omega) only [go_sem, and_self, and_true, true_and, false_and, and_false, Nat.reduceAdd, Nat.reduceMul, Nat.reduceSub, Nat.reduceLeDiff, Nat.reduceLT, Nat.reduceGT, Nat.reduceEqDiff, Nat.reduceBEq, Int.reduceNeg, Int.reduceEq, Int.reduceLT, Int.reduceLE, Int.reduceBEq, Int.reduceToNat, Int.toNat_natCast, Int.natCast_zero, r29_T, r29, hw, hl, k1, k2, decide_true, Bool.true_and, Bool.and_true]
  by_cases h1 : o = 4 ∨ o = 13 ∨ o = 14
  · rw [if_pos h1]
    exact three h1
  rw [if_neg h1]
  have q4 : (o == 4) = false := by rw [beq_eq_false_iff_ne]; omega
  have q13 : (o == 13) = false := by rw [beq_eq_false_iff_ne]; omega
  have q14 : (o == 14) = false := by rw [beq_eq_false_iff_ne]; omega
  by_cases h2 : o = 10 ∨ o = 12 ∨ o = 16 ∨ o = 20 ∨ o = 21
  · rw [if_pos h2]
    rcases h2 with h | h | h | h | h <;> subst h <;> simp (disch := omega) only [go_sem, and_self, and_true, true_and, false_and, and_false, Nat.reduceAdd, Nat.reduceMul, Nat.reduceSub, Nat.reduceLeDiff, Nat.reduceLT, Nat.reduceGT, Nat.reduceEqDiff, Nat.reduceBEq, Int.reduceNeg, Int.reduceEq, Int.reduceLT, Int.reduceLE, Int.reduceBEq, Int.reduceToNat, Int.toNat_natCast, Int.natCast_zero, r29_T, r29]
  rw [if_neg h2]
  have q10 : (o == 10) = false := by rw [beq_eq_false_iff_ne]; omega
  have q12 : (o == 12) = false := by rw [beq_eq_false_iff_ne]; omega
  have q16 : (o == 16) = false := by rw [beq_eq_false_iff_ne]; omega
  have q20 : (o == 20) = false := by rw [beq_eq_false_iff_ne]; omega
  have q21 : (o == 21) = false := by rw [beq_eq_false_iff_ne]; omega
  simp (disch := omega) only [go_sem, and_self, and_true, true_and, false_and, and_false, Nat.reduceAdd, Nat.reduceMul, Nat.reduceSub, Nat.reduceLeDiff, Nat.reduceLT, Nat.reduceGT, Nat.reduceEqDiff, Nat.reduceBEq, Int.reduceNeg, Int.reduceEq, Int.reduceLT, Int.reduceLE, Int.reduceBEq, Int.reduceToNat, Int.toNat_natCast, Int.natCast_zero, r29_T, r29, q9, q4, q13, q14, q10, q12, q16, q20, q21, Xp.encs]
end Go.Pe.T

namespace Go.Pe.T
def mustV : Xp → Bool
  | .mk o t p k c s ns xs => allC (crs (mustO o xs))
def nodeX : Xp → Prop
  | .mk o t p k c s ns xs => nodeOk o xs.length
theorem must_sub {α : Type} {o : Int} {xs : List α} {m : α} (h : m ∈ mustO o xs) : m ∈ xs := by
  unfold mustO at h
  split at h
  · exact List.mem_of_mem_take h
  · split at h
    · exact List.mem_of_mem_drop h
    · split at h
      · exact h
      · simp at h
theorem node_fits (o : Int) (t : ByteArray) (p k c s : Int) (ns : List ByteArray) (xs : List Xp) (h : fitsV (.mk o t p k c s ns xs) = true) : nodeOk o xs.length := by
  unfold fitsV at h
  simp only [Bool.and_eq_true, decide_eq_true_eq] at h
  obtain ⟨_, _, h1, h2, _⟩ := h
  refine ⟨?_, ?_, ?_, ?_, ?_, ?_⟩
  · rintro rfl
    have e : shapeV 7 = (2, 2, false, false, true) := rfl
    rw [e] at h1 h2
    simp only at h1 h2
    omega
  · rintro rfl
    have e : shapeV 9 = (3, 3, false, false, true) := rfl
    rw [e] at h1 h2
    simp only at h1 h2
    omega
  · rintro (rfl | rfl | rfl)
    · have e : shapeV 0 = (0, 0, false, false, true) := rfl
      rw [e] at h2
      simp only at h2
      omega
    · have e : shapeV 1 = (0, 0, false, false, true) := rfl
      rw [e] at h2
      simp only at h2
      omega
    · have e : shapeV 2 = (0, 0, true, false, true) := rfl
      rw [e] at h2
      simp only at h2
      omega
  · rintro rfl
    have e : shapeV 11 = (0, 1, false, false, true) := rfl
    rw [e] at h2
    simp only at h2
    omega
  · rintro rfl
    have e : shapeV 4 = (2, 2, false, false, true) := rfl
    rw [e] at h1 h2
    simp only at h1 h2
    omega
  · rintro (rfl | rfl)
    · have e : shapeV 13 = (3, 3, true, false, true) := rfl
      rw [e] at h1 h2
      simp only at h1 h2
      omega
    · have e : shapeV 14 = (3, 3, true, false, true) := rfl
      rw [e] at h1 h2
      simp only at h1 h2
      omega
mutual
theorem nodes_of : ∀ (e : Xp), (bareX e).pre.all fitsV = true → ∀ x ∈ e.pre, nodeX x ∧ okX x
  | .mk o t p k c s ns xs, h, x, hx => by
    have hk := okX_of _ h
    rw [bareX, Xp.pre, List.all_cons, Bool.and_eq_true] at h
    rw [Xp.pre, List.mem_cons] at hx
    rcases hx with rfl | hx
    · have h1 := node_fits o t 0 k c s ns (bares xs) h.1
      rw [bares_eq, List.length_map] at h1
      exact ⟨h1, hk⟩
    · exact nodess_of xs h.2 x hx
theorem nodess_of : ∀ (xs : List Xp), (Xp.pres (bares xs)).all fitsV = true → ∀ x ∈ Xp.pres xs, nodeX x ∧ okX x
  | [], _, x, hx => by simp [Xp.pres] at hx
  | y :: r, h, x, hx => by
    rw [bares, Xp.pres, List.all_append, Bool.and_eq_true] at h
    rw [Xp.pres, List.mem_append] at hx
    rcases hx with hx | hx
    · exact nodes_of y h.1 x hx
    · exact nodess_of r h.2 x hx
end
theorem all_ok18 (xs : List Xp) (hl : xs.length ≤ maxLen) (ho : ∀ x ∈ xs, x.ok ∧ okX x) (hp : List Ent) : F tab 22 [nF, .d (.sl (Xp.encs xs))] hp = some (.ret (.d (.bool (allC (crs xs)))) hp) :=
  all_calm xs (al_loop xs hl (fun x hx => (cr_ok _ x (Nat.le_refl _) (ho x hx).1 (ho x hx).2).1) xs.length 0 (by omega)) hp
theorem must_len (o : Int) (xs : List Xp) : (mustO o xs).length ≤ xs.length := by
  unfold mustO
  split
  · rw [List.length_take]; omega
  · split
    · rw [List.length_drop]; omega
    · split
      · omega
      · simp
theorem see_ok (x : Xp) (hx : x.ok) (hn : nodeX x ∧ okX x) : F tab 28 [.d x.enc, .ptr 0 0] [.box [nF]] = some (.ret (.d (.bool (mustV x))) [.box [nF]]) := by
  obtain ⟨o, t, p, k, c, s, ns, xs⟩ := x
  have h1 := must_ok o t p k c s ns xs hn.1
  have ho := hx
  simp only [Xp.ok] at ho
  have hk := hn.2
  rw [okX] at hk
  have hml := must_len o xs
  have h2 := all_ok18 (mustO o xs) (by omega) (fun x hm => ⟨xoks_mem ho.2.2.2.2.2.2.2.2.2 (must_sub hm), okXs_mem hk.2.2 x (must_sub hm)⟩)
  rw [Xp.enc] at h1 ⊢
  rw [mustV]
  generalize allC (crs (mustO o xs)) = b at *
  generalize Xp.encs (mustO o xs) = w at *
  refine f28 ?_
  simp (disch := omega) only [go_sem, and_self, and_true, true_and, false_and, and_false, Nat.reduceAdd, Nat.reduceMul, Nat.reduceSub, Nat.reduceLeDiff, Nat.reduceLT, Nat.reduceGT, Nat.reduceEqDiff, Nat.reduceBEq, Int.reduceNeg, Int.reduceEq, Int.reduceLT, Int.reduceLE, Int.reduceBEq, Int.reduceToNat, Int.toNat_natCast, Int.natCast_zero, r28_T, r28, h1, h2]
theorem see_runs : ∀ (l : List Xp), (∀ x ∈ l, x.ok) → (∀ x ∈ l, nodeX x ∧ okX x) → Runs 28 [.ptr 0 0] [.box [nF]] l [.box [nF]] (l.all mustV)
  | [], _, _ => .nil
  | x :: r, ho, hn => by
    have h := see_ok x (ho x (by simp)) (hn x (by simp))
    rw [List.all_cons]
    cases hb : mustV x with
    | false =>
      rw [hb] at h
      rw [Bool.false_and]
      exact .stop h
    | true =>
      rw [hb] at h
      rw [Bool.true_and]
      exact .step h (see_runs r (fun y hy => ho y (by simp [hy])) (fun y hy => hn y (by simp [hy])))
def fitW (e : Xp) : Bool := isB e && e.pre.all mustV
theorem fits18_ok (e : Xp) (he : e.ok) (hp : List Ent) : F tab 17 [nF, .d e.enc] hp = some (.ret (.d (.bool (fitW e))) hp) := by
  have h1 := is18_ok e he
  unfold fitW
  obtain ⟨o, t, p, k, c, s, ns, xs, ex⟩ := xenc_as e
  rcases Bool.eq_false_or_eq_true (isB e) with q | q
  · have hq : (bareX e).pre.all fitsV = true := isV_bare (by unfold isB at q; rw [Bool.and_eq_true] at q; exact q.2)
    have h2 := go_ok _ _ e he _ _ _ (see_runs e.pre (pre_ok e he) (nodes_of e hq))
    rw [q] at h1 ⊢
    rw [Bool.true_and]
    generalize e.pre.all mustV = b at *
    rw [ex] at h1 h2 ⊢
    refine f17 rfl ?_
    simp (disch := omega) only [go_sem, and_self, and_true, true_and, false_and, and_false, Nat.reduceAdd, Nat.reduceMul, Nat.reduceSub, Nat.reduceLeDiff, Nat.reduceLT, Nat.reduceGT, Nat.reduceEqDiff, Nat.reduceBEq, Int.reduceNeg, Int.reduceEq, Int.reduceLT, Int.reduceLE, Int.reduceBEq, Int.reduceToNat, Int.toNat_natCast, Int.natCast_zero, r17_T, r17, h1, h2]
  · rw [q] at h1 ⊢
    rw [Bool.false_and]
    rw [ex] at h1 ⊢
    refine f17 rfl ?_
    simp (disch := omega) only [go_sem, and_self, and_true, true_and, false_and, and_false, Nat.reduceAdd, Nat.reduceMul, Nat.reduceSub, Nat.reduceLeDiff, Nat.reduceLT, Nat.reduceGT, Nat.reduceEqDiff, Nat.reduceBEq, Int.reduceNeg, Int.reduceEq, Int.reduceLT, Int.reduceLE, Int.reduceBEq, Int.reduceToNat, Int.toNat_natCast, Int.natCast_zero, r17_T, r17, h1]
abbrev noD (e : Xp) : D := .agg (.sl [] :: e.enc.cells)
theorem facts_ok (e : Xp) (hp : List Ent) : ∃ v, (v = nF ∨ v = .nilsl) ∧ F tab 16 [.d (noD e)] hp = some (.ret nF hp) := by
  obtain ⟨o, t, p, k, c, s, ns, xs, ex⟩ := xenc_as e
  refine ⟨nF, .inl rfl, ?_⟩
  unfold noD
  rw [ex]
  refine f16 rfl ?_
  have h1 : ((0 : Int) < ((0 : Nat) : Int)) = False := eq_false (by omega)
  simp (disch := omega) only [go_sem, and_self, and_true, true_and, false_and, and_false, Nat.reduceAdd, Nat.reduceMul, Nat.reduceSub, Nat.reduceLeDiff, Nat.reduceLT, Nat.reduceGT, Nat.reduceEqDiff, Nat.reduceBEq, Int.reduceNeg, Int.reduceEq, Int.reduceLT, Int.reduceLE, Int.reduceBEq, Int.reduceToNat, Int.toNat_natCast, Int.natCast_zero, r16_T, D.cells, List.length_nil]
  rw [r16_B0_n, r16_B0_eq]
  simp (disch := omega) only [go_sem, and_self, and_true, true_and, false_and, and_false, Nat.reduceAdd, Nat.reduceMul, Nat.reduceSub, Nat.reduceLeDiff, Nat.reduceLT, Nat.reduceGT, Nat.reduceEqDiff, Nat.reduceBEq, Int.reduceNeg, Int.reduceEq, Int.reduceLT, Int.reduceLE, Int.reduceBEq, Int.reduceToNat, Int.toNat_natCast, Int.natCast_zero, r16_C0, r16, h1]
theorem Fits_ok (e : Xp) (he : e.ok) (hp : List Ent) : F tab 9 [.d (noD e)] hp = some (.ret (.d (iv (if fitW e then 0 else 16))) hp) := by
  have h1 := fun hp => (facts_ok e hp).choose_spec.2
  have h2 := fits18_ok e he
  obtain ⟨o, t, p, k, c, s, ns, xs, ex⟩ := xenc_as e
  unfold noD at h1 ⊢
  rw [ex] at h1 h2 ⊢
  have h3 : ((0 : Int) < ((0 : Nat) : Int)) = False := eq_false (by omega)
  simp only [D.cells] at h1 ⊢
  refine f9 rfl ?_
  simp (disch := omega) only [go_sem, and_self, and_true, true_and, false_and, and_false, Nat.reduceAdd, Nat.reduceMul, Nat.reduceSub, Nat.reduceLeDiff, Nat.reduceLT, Nat.reduceGT, Nat.reduceEqDiff, Nat.reduceBEq, Int.reduceNeg, Int.reduceEq, Int.reduceLT, Int.reduceLE, Int.reduceBEq, Int.reduceToNat, Int.toNat_natCast, Int.natCast_zero, r9_T, h1, D.cells, List.length_nil]
  rw [r9_B0_n, r9_B0_eq]
  cases hb : fitW e with
  | false =>
    rw [hb] at h2
    simp (disch := omega) only [go_sem, and_self, and_true, true_and, false_and, and_false, Nat.reduceAdd, Nat.reduceMul, Nat.reduceSub, Nat.reduceLeDiff, Nat.reduceLT, Nat.reduceGT, Nat.reduceEqDiff, Nat.reduceBEq, Int.reduceNeg, Int.reduceEq, Int.reduceLT, Int.reduceLE, Int.reduceBEq, Int.reduceToNat, Int.toNat_natCast, Int.natCast_zero, r9_C0, r9, h2, h3, if_false, Bool.false_eq_true]
  | true =>
    rw [hb] at h2
    simp (disch := omega) only [go_sem, and_self, and_true, true_and, false_and, and_false, Nat.reduceAdd, Nat.reduceMul, Nat.reduceSub, Nat.reduceLeDiff, Nat.reduceLT, Nat.reduceGT, Nat.reduceEqDiff, Nat.reduceBEq, Int.reduceNeg, Int.reduceEq, Int.reduceLT, Int.reduceLE, Int.reduceBEq, Int.reduceToNat, Int.toNat_natCast, Int.natCast_zero, r9_C0, r9, h2, h3, if_true]
end Go.Pe.T

namespace Go.Pe.T
def WildIs (e : Xp) : Prop := ∀ hp : List Ent, F tab 11 [.d e.enc] hp = some (.ret (.d (.bool (wildV e))) hp)
def RwIs (e : Xp) : Prop := ∀ hp : List Ent, F tab 18 [.d e.enc] hp = some (.ret (.d (.bool (rowWildV e))) hp)
theorem rw_fn (o : Int) (t : ByteArray) (p k c s : Int) (ns : List ByteArray) (xs : List Xp) (hc : WildIs (.mk o t p k c s ns xs)) (hl : o = 7 → xs.length = 2) (hr : ∀ x ∈ xs, RwIs x) : RwIs (.mk o t p k c s ns xs) := by
  intro hp
  unfold WildIs at hc
  have hv : rowWildV (.mk o t p k c s ns xs) = rwO o (wrs xs) (wildV (.mk o t p k c s ns xs)) := by unfold rowWildV wildV; rw [wrV]
  rw [hv]
  rw [Xp.enc] at hc ⊢
  refine f18 rfl ?_
  unfold rwO
  by_cases x7 : o = 7
  · rw [if_pos x7]
    match xs, hl x7, hr with
    | [x, y], _, hr =>
      have hx := hr x (by simp)
      have hy := hr y (by simp)
      unfold RwIs at hx hy
      obtain ⟨o', t', p', k', c', s', ns', ys, ex⟩ := xenc_as x
      obtain ⟨o2, t2, p2, k2, c2, s2, ns2, zs, ey⟩ := xenc_as y
      have va : (Xp.encs [x, y])[0]? = some x.enc := rfl
      have vb : (Xp.encs [x, y])[1]? = some y.enc := rfl
      rw [ex] at hx va
      rw [ey] at hy vb
      show fnEnd _ _ _ = some (Out.ret (PV.d (D.bool (rowWildV x || rowWildV y))) hp)
      generalize Xp.encs [x, y] = w at *
      subst x7
      rcases Bool.eq_false_or_eq_true (rowWildV x) with q | q
      · rw [q] at hx
        rw [q, Bool.true_or]
        simp (disch := omega) only [go_sem, and_self, and_true, true_and, false_and, and_false, Nat.reduceAdd, Nat.reduceMul, Nat.reduceSub, Nat.reduceLeDiff, Nat.reduceLT, Nat.reduceGT, Nat.reduceEqDiff, Nat.reduceBEq, Int.reduceNeg, Int.reduceEq, Int.reduceLT, Int.reduceLE, Int.reduceBEq, Int.reduceToNat, Int.toNat_natCast, Int.natCast_zero, r18_T, r18, va, vb, hx, hy]
      · rw [q] at hx
        rw [q, Bool.false_or]
        simp (disch := omega) only [go_sem, and_self, and_true, true_and, false_and, and_false, Nat.reduceAdd, Nat.reduceMul, Nat.reduceSub, Nat.reduceLeDiff, Nat.reduceLT, Nat.reduceGT, Nat.reduceEqDiff, Nat.reduceBEq, Int.reduceNeg, Int.reduceEq, Int.reduceLT, Int.reduceLE, Int.reduceBEq, Int.reduceToNat, Int.toNat_natCast, Int.natCast_zero, r18_T, r18, va, vb, hx, hy]
  · rw [if_neg x7]
    have q7 : (o == 7) = false := by simpa using x7
    simp (disch := omega) only [go_sem, and_self, and_true, true_and, false_and, and_false, Nat.reduceAdd, Nat.reduceMul, Nat.reduceSub, Nat.reduceLeDiff, Nat.reduceLT, Nat.reduceGT, Nat.reduceEqDiff, Nat.reduceBEq, Int.reduceNeg, Int.reduceEq, Int.reduceLT, Int.reduceLE, Int.reduceBEq, Int.reduceToNat, Int.toNat_natCast, Int.natCast_zero, r18_T, r18, q7, hc]
section
variable (o : Int) (t : ByteArray) (p k c s : Int) (ns : List ByteArray) (xs : List Xp)
def vB1 (i : Nat) (x : Xp) (r : Option (Ex × St)) : Prop := V (F tab) r11_B1 (r11_S1 (xB o t p k c s ns xs) (.d (iv i)) (.ibox (x.enc.cells.map .d)) []) = r
def InIs (i : Nat) (x : Xp) (b : Bool) : Prop :=
  (b = true ∧ vB1 o t p k c s ns xs i x (some (.ret, r11_R (.d (.bool true)) []))) ∨
  ∃ y, WildIs y ∧ b = wildV y ∧ vB1 o t p k c s ns xs i x (some (.norm, r11_E1 (xB o t p k c s ns xs) (.d (iv i)) (.ibox (y.enc.cells.map .d)) []))
theorem in_end (i : Nat) (x : Xp) (hw : WildIs x) (hq : o ≠ 11 ∨ opV x ≠ 7) : InIs o t p k c s ns xs i x (wildV x) := by
  refine .inr ⟨x, hw, rfl, ?_⟩
  obtain ⟨o', t', p', k', c', s', ns', ys⟩ := x
  unfold vB1
  rw [r11_B1_eq, Xp.enc]
  rcases Bool.eq_false_or_eq_true (o == 11) with q | q
  · have h7 : (o' == 7) = false := by
      rcases hq with h | h
      · exact absurd (by simpa using q) h
      · simpa [opV] using h
    simp (disch := omega) only [go_sem, and_self, and_true, true_and, false_and, and_false, Nat.reduceAdd, Nat.reduceMul, Nat.reduceSub, Nat.reduceLeDiff, Nat.reduceLT, Nat.reduceGT, Nat.reduceEqDiff, Nat.reduceBEq, Int.reduceNeg, Int.reduceEq, Int.reduceLT, Int.reduceLE, Int.reduceBEq, Int.reduceToNat, Int.toNat_natCast, Int.natCast_zero, r11_C1, q, h7, D.cells, List.map_cons, List.map_nil]
  · simp (disch := omega) only [go_sem, and_self, and_true, true_and, false_and, and_false, Nat.reduceAdd, Nat.reduceMul, Nat.reduceSub, Nat.reduceLeDiff, Nat.reduceLT, Nat.reduceGT, Nat.reduceEqDiff, Nat.reduceBEq, Int.reduceNeg, Int.reduceEq, Int.reduceLT, Int.reduceLE, Int.reduceBEq, Int.reduceToNat, Int.toNat_natCast, Int.natCast_zero, r11_C1, q, D.cells, List.map_cons, List.map_nil]
theorem in_step (ho : o = 11) (i : Nat) (t' : ByteArray) (p' k' c' s' : Int) (ns' : List ByteArray) (a b : Xp) (hb : RwIs b) (ih : InIs o t p k c s ns xs i a (rowWildV a)) : InIs o t p k c s ns xs i (.mk 7 t' p' k' c' s' ns' [a, b]) (rowWildV (.mk 7 t' p' k' c' s' ns' [a, b])) := by
  have q11 : (o == 11) = true := by simpa using ho
  have q7 : ((7 : Int) == 7) = true := rfl
  have hv : rowWildV (.mk 7 t' p' k' c' s' ns' [a, b]) = (rowWildV a || rowWildV b) := rfl
  have va : (Xp.encs [a, b])[0]? = some a.enc := rfl
  have vb : (Xp.encs [a, b])[1]? = some b.enc := rfl
  unfold RwIs at hb
  obtain ⟨o1, t1, p1, k1, c1, s1, n1, ys, ea⟩ := xenc_as a
  obtain ⟨o2, t2, p2, k2, c2, s2, n2, zs, eb⟩ := xenc_as b
  rw [ea] at va
  rw [eb] at vb hb
  rw [hv]
  rcases Bool.eq_false_or_eq_true (rowWildV b) with q | q
  · rw [q] at hb
    rw [q, Bool.or_true]
    refine .inl ⟨rfl, ?_⟩
    unfold vB1
    rw [r11_B1_eq, Xp.enc]
    generalize Xp.encs [a, b] = w at *
    simp (disch := omega) only [go_sem, and_self, and_true, true_and, false_and, and_false, Nat.reduceAdd, Nat.reduceMul, Nat.reduceSub, Nat.reduceLeDiff, Nat.reduceLT, Nat.reduceGT, Nat.reduceEqDiff, Nat.reduceBEq, Int.reduceNeg, Int.reduceEq, Int.reduceLT, Int.reduceLE, Int.reduceBEq, Int.reduceToNat, Int.toNat_natCast, Int.natCast_zero, r11_C1, q11, q7, va, vb, hb, D.cells, List.map_cons, List.map_nil]
  · rw [q] at hb
    rw [q, Bool.or_false]
    have e : ∀ r, vB1 o t p k c s ns xs i a r → vB1 o t p k c s ns xs i (.mk 7 t' p' k' c' s' ns' [a, b]) r := by
      intro r h
      unfold vB1 at h ⊢
      rw [ea] at h
      simp only [D.cells, List.map_cons, List.map_nil] at h
      rw [r11_B1_eq, Xp.enc]
      generalize Xp.encs [a, b] = w at *
      simp (disch := omega) only [go_sem, and_self, and_true, true_and, false_and, and_false, Nat.reduceAdd, Nat.reduceMul, Nat.reduceSub, Nat.reduceLeDiff, Nat.reduceLT, Nat.reduceGT, Nat.reduceEqDiff, Nat.reduceBEq, Int.reduceNeg, Int.reduceEq, Int.reduceLT, Int.reduceLE, Int.reduceBEq, Int.reduceToNat, Int.toNat_natCast, Int.natCast_zero, r11_C1, q11, q7, va, vb, hb, D.cells, List.map_cons, List.map_nil]
      exact h
    rcases ih with ⟨h1, h2⟩ | ⟨y, h1, h2, h3⟩
    · exact .inl ⟨h1, e _ h2⟩
    · exact .inr ⟨y, h1, h2, e _ h3⟩
theorem in_ok (ho : o = 11) (i : Nat) : ∀ (n : Nat) (x : Xp), SizeOf.sizeOf x ≤ n → x.ok → okX x → (∀ y : Xp, SizeOf.sizeOf y ≤ SizeOf.sizeOf x → y.ok → okX y → WildIs y ∧ RwIs y) → InIs o t p k c s ns xs i x (rowWildV x)
  | 0, x, h, _, _, _ => by cases x; simp at h
  | n + 1, .mk o' t' p' k' c' s' ns' ys, h, hxo, hx, hw => by
    have hxo' := hxo
    simp only [Xp.ok] at hxo'
    have hos := hxo'.2.2.2.2.2.2.2.2.2
    by_cases h7 : o' = 7
    · have hk := hx
      rw [okX] at hk
      match ys, hk.1 h7, hk.2.2, h, hw, hos with
      | [a, b], _, hab, h, hw, hos =>
        subst h7
        rw [okXs, okXs] at hab
        rw [Xp.oks, Xp.oks] at hos
        simp at h
        refine in_step o t p k c s ns xs ho i t' p' k' c' s' ns' a b (hw b (by simp; omega) hos.2.1 hab.2.1).2 (in_ok ho i n a (by omega) hos.1 hab.1 fun y hy hk => hw y (by simp; omega) hk)
    · have e : rowWildV (.mk o' t' p' k' c' s' ns' ys) = wildV (.mk o' t' p' k' c' s' ns' ys) := by
        unfold rowWildV wildV; rw [wrV]; unfold rwO; rw [if_neg h7]
      rw [e]
      exact in_end o t p k c s ns xs i _ (hw _ (Nat.le_refl _) hxo hx).1 (.inr h7)
def askV (x : Xp) : Bool := if o = 11 then rowWildV x else wildV x
def WlLoop (i : Nat) : Prop :=
  V (F tab) r11_B0 (r11_S0 (xB o t p k c s ns xs) (.d (iv i)) []) = if (xs.drop i).any (askV o) then some (.ret, r11_R (.d (.bool true)) []) else some (.norm, r11_E0 [])
theorem wl_end (i : Nat) (hi : xs.length ≤ i) : WlLoop o t p k c s ns xs i := by
  have h1 : ((i : Int) < (xs.length : Int)) = False := eq_false (by omega)
  unfold WlLoop
  rw [List.drop_of_length_le hi, List.any_nil, if_neg (by simp), r11_B0_eq]
  simp (disch := omega) only [go_sem, and_self, and_true, true_and, false_and, and_false, Nat.reduceAdd, Nat.reduceMul, Nat.reduceSub, Nat.reduceLeDiff, Nat.reduceLT, Nat.reduceGT, Nat.reduceEqDiff, Nat.reduceBEq, Int.reduceNeg, Int.reduceEq, Int.reduceLT, Int.reduceLE, Int.reduceBEq, Int.reduceToNat, Int.toNat_natCast, Int.natCast_zero, r11_C0, h1, xencs_len]
set_option maxHeartbeats 2000000 in
theorem wl_step (hl : xs.length ≤ maxLen) (i : Nat) (hi : i < xs.length) (hq : InIs o t p k c s ns xs i xs[i] (askV o xs[i])) (ih : WlLoop o t p k c s ns xs (i + 1)) : WlLoop o t p k c s ns xs i := by
  have hmx : maxLen = 9223372036854775807 := by decide
  have h1 : ((i : Int) < (xs.length : Int)) = True := eq_true (by omega)
  have i0 : (0 ≤ (i : Int)) = True := eq_true (by omega)
  have va : (Xp.encs xs)[i]? = some (xs[i].enc) := by rw [xencs_get]; simp [hi]
  unfold WlLoop at ih ⊢
  rw [List.drop_eq_getElem_cons hi, List.any_cons]
  rw [Int.natCast_add, Int.natCast_one] at ih
  obtain ⟨o', t', p', k', c', s', ns', ys, ex⟩ := xenc_as xs[i]
  unfold InIs vB1 at hq
  rw [ex] at va hq
  simp only [D.cells, List.map_cons, List.map_nil] at hq
  generalize askV o xs[i] = b at *
  rw [r11_B0_eq]
  rcases hq with ⟨rfl, hq⟩ | ⟨y, hy, rfl, hq⟩
  · rw [Bool.true_or, if_pos rfl]
    simp (disch := omega) only [go_sem, and_self, and_true, true_and, false_and, and_false, Nat.reduceAdd, Nat.reduceMul, Nat.reduceSub, Nat.reduceLeDiff, Nat.reduceLT, Nat.reduceGT, Nat.reduceEqDiff, Nat.reduceBEq, Int.reduceNeg, Int.reduceEq, Int.reduceLT, Int.reduceLE, Int.reduceBEq, Int.reduceToNat, Int.toNat_natCast, Int.natCast_zero, r11_C0, h1, i0, va, xencs_len, w64]
    rw [r11_B1_n]
    erw [hq]
    simp (disch := omega) only [go_sem, and_self, and_true, true_and, false_and, and_false, Nat.reduceAdd, Nat.reduceMul, Nat.reduceSub, Nat.reduceLeDiff, Nat.reduceLT, Nat.reduceGT, Nat.reduceEqDiff, Nat.reduceBEq, Int.reduceNeg, Int.reduceEq, Int.reduceLT, Int.reduceLE, Int.reduceBEq, Int.reduceToNat, Int.toNat_natCast, Int.natCast_zero]
  · unfold WildIs at hy
    obtain ⟨o2, t2, p2, k2, c2, s2, n2, zs, ey⟩ := xenc_as y
    rw [ey] at hy hq
    simp only [D.cells, List.map_cons, List.map_nil] at hq
    cases hb : wildV y with
    | true =>
      rw [hb] at hy
      rw [Bool.true_or, if_pos rfl]
      simp (disch := omega) only [go_sem, and_self, and_true, true_and, false_and, and_false, Nat.reduceAdd, Nat.reduceMul, Nat.reduceSub, Nat.reduceLeDiff, Nat.reduceLT, Nat.reduceGT, Nat.reduceEqDiff, Nat.reduceBEq, Int.reduceNeg, Int.reduceEq, Int.reduceLT, Int.reduceLE, Int.reduceBEq, Int.reduceToNat, Int.toNat_natCast, Int.natCast_zero, r11_C0, h1, i0, va, xencs_len, w64]
      rw [r11_B1_n]
      erw [hq]
      simp (disch := omega) only [go_sem, and_self, and_true, true_and, false_and, and_false, Nat.reduceAdd, Nat.reduceMul, Nat.reduceSub, Nat.reduceLeDiff, Nat.reduceLT, Nat.reduceGT, Nat.reduceEqDiff, Nat.reduceBEq, Int.reduceNeg, Int.reduceEq, Int.reduceLT, Int.reduceLE, Int.reduceBEq, Int.reduceToNat, Int.toNat_natCast, Int.natCast_zero, hy]
    | false =>
      rw [hb] at hy
      rw [Bool.false_or]
      simp (disch := omega) only [go_sem, and_self, and_true, true_and, false_and, and_false, Nat.reduceAdd, Nat.reduceMul, Nat.reduceSub, Nat.reduceLeDiff, Nat.reduceLT, Nat.reduceGT, Nat.reduceEqDiff, Nat.reduceBEq, Int.reduceNeg, Int.reduceEq, Int.reduceLT, Int.reduceLE, Int.reduceBEq, Int.reduceToNat, Int.toNat_natCast, Int.natCast_zero, r11_C0, h1, i0, va, xencs_len, w64]
      rw [r11_B1_n]
      erw [hq]
      simp (disch := omega) only [go_sem, and_self, and_true, true_and, false_and, and_false, Nat.reduceAdd, Nat.reduceMul, Nat.reduceSub, Nat.reduceLeDiff, Nat.reduceLT, Nat.reduceGT, Nat.reduceEqDiff, Nat.reduceBEq, Int.reduceNeg, Int.reduceEq, Int.reduceLT, Int.reduceLE, Int.reduceBEq, Int.reduceToNat, Int.toNat_natCast, Int.natCast_zero, hy, w64]
      exact ih
theorem wl_loop (hl : xs.length ≤ maxLen) (hq : ∀ (i : Nat) (h : i < xs.length), InIs o t p k c s ns xs i xs[i] (askV o xs[i])) : ∀ (j i : Nat), i + j = xs.length → WlLoop o t p k c s ns xs i
  | 0, i, h => wl_end o t p k c s ns xs i (by omega)
  | j + 1, i, h => wl_step o t p k c s ns xs hl i (by omega) (hq i (by omega)) (wl_loop hl hq j (i + 1) (by omega))
set_option maxHeartbeats 4000000 in
theorem wild_fn (hL : WlLoop o t p k c s ns xs 0) : WildIs (.mk o t p k c s ns xs) := by
  intro hp
  have hv : wildV (.mk o t p k c s ns xs) = (wildS o || xs.any (askV o)) := by
    unfold wildV
    rw [wrV]
    show wildO o (wrs xs) = _
    unfold wildO
    congr 1
    rw [wrs_eq]
    unfold askV
    split
    · rw [List.any_map]; rfl
    · rw [List.any_map]; rfl
  unfold WlLoop at hL
  rw [Int.natCast_zero, List.drop_zero] at hL
  rw [hv, Xp.enc]
  generalize xs.any (askV o) = b at *
  refine f11 rfl ?_
  have hits : wildS o = true → fnEnd r11 hp (V (F tab) r11_T ⟨[.d (.agg [iv o, .str t, iv p, iv k, iv c, iv s, .sl (ns.map .str), .sl (Xp.encs xs)])] ++ List.replicate 47 .dead, []⟩) = some (.ret (.d (.bool true)) hp) := by
    intro h
    simp only [List.replicate, List.cons_append, List.nil_append]
    unfold wildS at h
    simp only [Bool.or_eq_true, beq_iff_eq] at h
    rcases h with h | h | h | h | h | h | h | h | h <;> subst h <;> simp (disch := omega) only [go_sem, and_self, and_true, true_and, false_and, and_false, Nat.reduceAdd, Nat.reduceMul, Nat.reduceSub, Nat.reduceLeDiff, Nat.reduceLT, Nat.reduceGT, Nat.reduceEqDiff, Nat.reduceBEq, Int.reduceNeg, Int.reduceEq, Int.reduceLT, Int.reduceLE, Int.reduceBEq, Int.reduceToNat, Int.toNat_natCast, Int.natCast_zero, r11_T, r11]
  rcases Bool.eq_false_or_eq_true (wildS o) with q | q
  · rw [q, Bool.true_or]
    exact hits q
  · rw [q, Bool.false_or]
    unfold wildS at q
    simp only [Bool.or_eq_false_iff] at q
    obtain ⟨q5, q8, q13, q14, q18, q19, q20, q21, q7⟩ := q
    simp (disch := omega) only [go_sem, and_self, and_true, true_and, false_and, and_false, Nat.reduceAdd, Nat.reduceMul, Nat.reduceSub, Nat.reduceLeDiff, Nat.reduceLT, Nat.reduceGT, Nat.reduceEqDiff, Nat.reduceBEq, Int.reduceNeg, Int.reduceEq, Int.reduceLT, Int.reduceLE, Int.reduceBEq, Int.reduceToNat, Int.toNat_natCast, Int.natCast_zero, r11_T, q5, q8, q13, q14, q18, q19, q20, q21, q7]
    rw [r11_B0_n]
    erw [hL]
    cases b <;> simp (disch := omega) only [go_sem, and_self, and_true, true_and, false_and, and_false, Nat.reduceAdd, Nat.reduceMul, Nat.reduceSub, Nat.reduceLeDiff, Nat.reduceLT, Nat.reduceGT, Nat.reduceEqDiff, Nat.reduceBEq, Int.reduceNeg, Int.reduceEq, Int.reduceLT, Int.reduceLE, Int.reduceBEq, Int.reduceToNat, Int.toNat_natCast, Int.natCast_zero, r11, if_true, if_false, Bool.false_eq_true]
end
theorem wr_ok : ∀ (n : Nat) (e : Xp), SizeOf.sizeOf e ≤ n → e.ok → okX e → WildIs e ∧ RwIs e
  | 0, e, h, _, _ => by cases e; simp at h
  | n + 1, .mk o t p k c s ns xs, h, ho, hx => by
    have ho' := ho
    simp only [Xp.ok] at ho'
    have hx' := hx
    rw [okX] at hx'
    have ih : ∀ x ∈ xs, WildIs x ∧ RwIs x := fun x hm => by
      have := List.sizeOf_lt_of_mem hm
      simp at h
      exact wr_ok n x (by omega) (xoks_mem ho'.2.2.2.2.2.2.2.2.2 hm) (okXs_mem hx'.2.2 x hm)
    have hq : ∀ (i : Nat) (hi : i < xs.length), InIs o t p k c s ns xs i xs[i] (askV o xs[i]) := by
      intro i hi
      have hm : xs[i] ∈ xs := List.getElem_mem hi
      have hs := List.sizeOf_lt_of_mem hm
      simp at h
      unfold askV
      by_cases h11 : o = 11
      · rw [if_pos h11]
        exact in_ok o t p k c s ns xs h11 i _ xs[i] (Nat.le_refl _) (xoks_mem ho'.2.2.2.2.2.2.2.2.2 hm) (okXs_mem hx'.2.2 _ hm) fun y hy h1 h2 => wr_ok n y (by omega) h1 h2
      · rw [if_neg h11]
        exact in_end o t p k c s ns xs i _ (ih _ hm).1 (.inl h11)
    have hw := wild_fn o t p k c s ns xs (wl_loop o t p k c s ns xs ho'.2.2.2.2.2.2.2.2.1 hq xs.length 0 (by omega))
    exact ⟨hw, rw_fn o t p k c s ns xs hw hx'.1 fun x hm => (ih x hm).2⟩
end Go.Pe.T

namespace Go.Pe.T
-- printed by genfll.py: the chapter's example, by the kernel
def toksL : List D := [.agg [.int .i64 (1), .str ⟨#[105, 102]⟩, .int .i64 (0), .int .i64 (0), .int .i64 (0)], .agg [.int .i64 (5), .str ⟨#[46]⟩, .int .i64 (0), .int .i64 (0), .int .i64 (3)], .agg [.int .i64 (1), .str ⟨#[116, 104, 101, 110]⟩, .int .i64 (0), .int .i64 (0), .int .i64 (5)], .agg [.int .i64 (3), .str ⟨#[49]⟩, .int .i64 (1), .int .i64 (0), .int .i64 (10)], .agg [.int .i64 (1), .str ⟨#[101, 108, 115, 101]⟩, .int .i64 (0), .int .i64 (0), .int .i64 (12)], .agg [.int .i64 (5), .str ⟨#[91]⟩, .int .i64 (0), .int .i64 (0), .int .i64 (17)], .agg [.int .i64 (3), .str ⟨#[49]⟩, .int .i64 (1), .int .i64 (0), .int .i64 (18)], .agg [.int .i64 (5), .str ⟨#[44]⟩, .int .i64 (0), .int .i64 (0), .int .i64 (19)], .agg [.int .i64 (3), .str ⟨#[50]⟩, .int .i64 (2), .int .i64 (0), .int .i64 (20)], .agg [.int .i64 (5), .str ⟨#[93]⟩, .int .i64 (0), .int .i64 (0), .int .i64 (21)], .agg [.int .i64 (1), .str ⟨#[101, 110, 100]⟩, .int .i64 (0), .int .i64 (0), .int .i64 (23)], .agg [.int .i64 (6), .str ⟨#[]⟩, .int .i64 (0), .int .i64 (0), .int .i64 (26)]]
def qS : ByteArray := ⟨#[105, 102, 32, 46, 32, 116, 104, 101, 110, 32, 49, 32, 101, 108, 115, 101, 32, 91, 49, 44, 50, 93, 32, 101, 110, 100]⟩
abbrev hpR (k : Int) : List Ent := [.box [.nilsl, .d (.int .i64 0), .d (.str ⟨#[]⟩), .d (.int .i64 0), .d (.int .i64 0), .d (.int .i64 0), .d (.int .i64 0), .nilsl, .nilsl], .box [.d (.int .i64 0)], .box [.d (.int .i64 0)], .box [.d (.sl toksL), .d (.int .i64 k)]]
def nX (o k c : Int) (xs : List Xp) : Xp := .mk o ⟨#[]⟩ 0 k c 0 [] xs
def eX : Xp := nX 9 0 0 [nX 0 0 0 [], nX 1 3 1 [], nX 11 0 0 [nX 7 0 0 [nX 1 3 1 [], nX 1 3 2 []]]]
def subL : List D := [.agg [.int .i64 (0), .str ⟨#[]⟩, .int .i64 (0), .int .i64 (0), .int .i64 (0), .int .i64 (0), .sl [], .sl []], .agg [.int .i64 (1), .str ⟨#[]⟩, .int .i64 (0), .int .i64 (3), .int .i64 (1), .int .i64 (0), .sl [], .sl []], .agg [.int .i64 (11), .str ⟨#[]⟩, .int .i64 (0), .int .i64 (0), .int .i64 (0), .int .i64 (0), .sl [], .sl [.agg [.int .i64 (7), .str ⟨#[]⟩, .int .i64 (0), .int .i64 (0), .int .i64 (0), .int .i64 (0), .sl [], .sl [.agg [.int .i64 (1), .str ⟨#[]⟩, .int .i64 (0), .int .i64 (3), .int .i64 (1), .int .i64 (0), .sl [], .sl []], .agg [.int .i64 (1), .str ⟨#[]⟩, .int .i64 (0), .int .i64 (3), .int .i64 (2), .int .i64 (0), .sl [], .sl []]]]]]]
theorem eX_enc : eX.enc = .agg [iv 9, .str ⟨#[]⟩, iv 0, iv 0, iv 0, iv 0, .sl [], .sl subL] := by rfl
theorem tok_ev : evF tab 14 33 [.d (.str qS)] [] = some (.ret (.tup [.d (.sl toksL), .d (.int .i64 0), .d (.int .i64 0)]) []) := by kernel_rfl
theorem whole_ev : evF tab 52 36 [.ptr 3 0] (hpR 0) = some (.ret (.d (.agg [iv 9, .str ⟨#[]⟩, iv 0, iv 0, iv 0, iv 0, .sl [], .sl subL])) (hpR 11)) := by kernel_rfl
abbrev hpQ : List Ent := [.box [.nilsl, .d (.int .i64 9), .d (.str ⟨#[]⟩), .d (.int .i64 0), .d (.int .i64 0), .d (.int .i64 0), .d (.int .i64 0), .d (.sl []), .d (.sl subL)], .box [.d (.int .i64 0)], .box [.d (.int .i64 0)], .box [.d (.sl toksL), .d (.int .i64 11)]]
theorem end_ev : evF tab 8 37 [.ptr 3 0] hpQ = some (.ret (.tup []) hpQ) := by kernel_rfl
end Go.Pe.T

namespace Go.Pe.T
theorem tok_ok (hp : List Ent) : F tab 33 [.d (.str qS)] hp = some (.ret (.tup [.d (.sl toksL), .d (.int .i64 0), .d (.int .i64 0)]) hp) :=
  F_some.2 ⟨14, ((evF_nice (pf := pf) pf_ok 14).2 33 rfl _ _ _ _ tok_ev).2 hp⟩
theorem whole_ok : F tab 36 [.ptr 3 0] (hpR 0) = some (.ret (.d (.agg [iv 9, .str ⟨#[]⟩, iv 0, iv 0, iv 0, iv 0, .sl [], .sl subL])) (hpR 11)) := F_some.2 ⟨52, whole_ev⟩
theorem rend_ok : F tab 37 [.ptr 3 0] hpQ = some (.ret (.tup []) hpQ) := F_some.2 ⟨8, end_ev⟩
set_option maxHeartbeats 2000000 in
theorem read_ok (hp : List Ent) : F tab 26 [.d (.str qS), .d (.bool false)] hp = some (.ret (.tup [.d (.agg [.sl [], iv 9, .str ⟨#[]⟩, iv 0, iv 0, iv 0, iv 0, .sl [], .sl subL]), .d (iv 0), .d (iv 0)]) hp) := by
  have h1 := tok_ok
  have h2 := whole_ok
  have h3 := rend_ok
  have z0 : ((0 : Int) != 0) = false := rfl
  unfold hpR at h2
  unfold hpQ at h3
  generalize toksL = tk at *
  generalize subL = sb at *
  refine f26 rfl ?_
  simp (disch := omega) only [go_sem, and_self, and_true, true_and, false_and, and_false, Nat.reduceAdd, Nat.reduceMul, Nat.reduceSub, Nat.reduceLeDiff, Nat.reduceLT, Nat.reduceGT, Nat.reduceEqDiff, Nat.reduceBEq, Int.reduceNeg, Int.reduceEq, Int.reduceLT, Int.reduceLE, Int.reduceBEq, Int.reduceToNat, Int.toNat_natCast, Int.natCast_zero, r26_Y, VTri, r26_A0, r26_A1, r26_A2, r26_A3, r26_D, h1, h2, h3, hold, PV.isPtr, z0, VFin, VH, r26_Hd, r34_H, List.replicate, isnD, r26]
  first | rfl | skip
theorem expr_ok (hp : List Ent) : F tab 15 [.d (.str qS)] hp = some (.ret (.tup [.d eX.enc, .d (iv 0), .d (iv 0)]) hp) := by
  have h1 := read_ok
  rw [eX_enc]
  generalize subL = sb at *
  refine f15 rfl ?_
  simp (disch := omega) only [go_sem, and_self, and_true, true_and, false_and, and_false, Nat.reduceAdd, Nat.reduceMul, Nat.reduceSub, Nat.reduceLeDiff, Nat.reduceLT, Nat.reduceGT, Nat.reduceEqDiff, Nat.reduceBEq, Int.reduceNeg, Int.reduceEq, Int.reduceLT, Int.reduceLE, Int.reduceBEq, Int.reduceToNat, Int.toNat_natCast, Int.natCast_zero, r15_T, r15, h1]
theorem eX_ok : eX.ok := by
  have e : (⟨#[]⟩ : ByteArray).size = 0 := rfl
  have hmx : maxLen = 9223372036854775807 := by decide
  simp [eX, nX, Xp.ok, Xp.oks, i64, e, hmx]
theorem eX_calm : calmA eX = true := by decide +kernel
theorem eX_cost : costA eX = 6 := by decide +kernel
theorem lives18_ok (hp : List Ent) : F tab 8 [] hp = some (.ret (.d (.bool true)) hp) := by
  have h1 := expr_ok
  have h2 := Calm_ok eX eX_ok
  have h3 := Cost_ok eX eX_ok
  have z0 : ((0 : Int) == 0) = true := rfl
  have z6 : ((6 : Int) == 6) = true := rfl
  rw [eX_calm] at h2
  rw [eX_cost] at h3
  rw [eX_enc] at h1 h2 h3
  unfold qS at h1
  generalize subL = sb at *
  refine f8 rfl ?_
  simp (disch := omega) only [go_sem, and_self, and_true, true_and, false_and, and_false, Nat.reduceAdd, Nat.reduceMul, Nat.reduceSub, Nat.reduceLeDiff, Nat.reduceLT, Nat.reduceGT, Nat.reduceEqDiff, Nat.reduceBEq, Int.reduceNeg, Int.reduceEq, Int.reduceLT, Int.reduceLE, Int.reduceBEq, Int.reduceToNat, Int.toNat_natCast, Int.natCast_zero, r8_T, r8, h1, h2, h3, z0, z6]
end Go.Pe.T

namespace Go.Pe.T
theorem gd_of : ∀ (n : Nat) (e : Xp), SizeOf.sizeOf e ≤ n → (∀ x ∈ e.pre, nodeX x) → e.pre.all mustV = true → gd e
  | 0, e, h, _, _ => by cases e; simp at h
  | n + 1, .mk o t p k c s ns xs, h, hn, hm => by
    rw [Xp.pre] at hn hm
    rw [List.all_cons, Bool.and_eq_true] at hm
    rw [gd]
    refine ⟨hn _ (List.mem_cons_self ..), crs_all hm.1, ?_⟩
    have key : ∀ ys : List Xp, (∀ y ∈ ys, SizeOf.sizeOf y ≤ n) → (∀ x ∈ Xp.pres ys, nodeX x) → (Xp.pres ys).all mustV = true → gds ys := by
      intro ys
      induction ys with
      | nil => intro _ _ _; rw [gds]; trivial
      | cons y r ih =>
        intro h1 h2 h3
        rw [Xp.pres] at h2 h3
        rw [List.all_append, Bool.and_eq_true] at h3
        rw [gds]
        exact ⟨gd_of n y (h1 y (by simp)) (fun x hx => h2 x (by simp [hx])) h3.1, ih (fun z hz => h1 z (by simp [hz])) (fun x hx => h2 x (by simp [hx])) h3.2⟩
    refine key xs (fun y hy => ?_) (fun x hx => hn x (by simp [hx])) hm.2
    have := List.sizeOf_lt_of_mem hy
    simp at h
    omega
section
variable (B : List PV) (l : List Xp)
def PlLoop (i : Nat) (b : Bool) : Prop :=
  V (F tab) r4_B0 (r4_S0 (.ibox B) (.d (.sl (Xp.encs l))) (.d (.bool b)) (.d (iv i)) []) = some (.norm, r4_E0 (.ibox B) (.d (.sl (Xp.encs l))) (.d (.bool (b && (l.drop i).all fun x => opV x != 9))) [])
theorem pl_end (i : Nat) (hi : l.length ≤ i) (b : Bool) : PlLoop B l i b := by
  have h1 : ((i : Int) < (l.length : Int)) = False := eq_false (by omega)
  unfold PlLoop
  rw [List.drop_of_length_le hi, List.all_nil, Bool.and_true, r4_B0_eq]
  simp (disch := omega) only [go_sem, and_self, and_true, true_and, false_and, and_false, Nat.reduceAdd, Nat.reduceMul, Nat.reduceSub, Nat.reduceLeDiff, Nat.reduceLT, Nat.reduceGT, Nat.reduceEqDiff, Nat.reduceBEq, Int.reduceNeg, Int.reduceEq, Int.reduceLT, Int.reduceLE, Int.reduceBEq, Int.reduceToNat, Int.toNat_natCast, Int.natCast_zero, r4_C0, h1, xencs_len]
theorem pl_step (hl : l.length ≤ maxLen) (i : Nat) (hi : i < l.length) (b : Bool) (ih : ∀ b, PlLoop B l (i + 1) b) : PlLoop B l i b := by
  have hmx : maxLen = 9223372036854775807 := by decide
  have h1 : ((i : Int) < (l.length : Int)) = True := eq_true (by omega)
  have i0 : (0 ≤ (i : Int)) = True := eq_true (by omega)
  have va : (Xp.encs l)[i]? = some (l[i].enc) := by rw [xencs_get]; simp [hi]
  have ih := ih (b && opV l[i] != 9)
  unfold PlLoop at ih ⊢
  rw [List.drop_eq_getElem_cons hi, List.all_cons, ← Bool.and_assoc]
  rw [Int.natCast_add, Int.natCast_one] at ih
  generalize ((l.drop (i + 1)).all fun x => opV x != 9) = r at *
  generalize l[i] = x at *
  obtain ⟨o, t, p, k, c, s, ns, xs⟩ := x
  rw [Xp.enc] at va
  have ho : opV (.mk o t p k c s ns xs) = o := rfl
  rw [ho] at ih ⊢
  rw [r4_B0_eq]
  cases b with
  | false =>
    simp only [Bool.false_and] at ih ⊢
    simp (disch := omega) only [go_sem, and_self, and_true, true_and, false_and, and_false, Nat.reduceAdd, Nat.reduceMul, Nat.reduceSub, Nat.reduceLeDiff, Nat.reduceLT, Nat.reduceGT, Nat.reduceEqDiff, Nat.reduceBEq, Int.reduceNeg, Int.reduceEq, Int.reduceLT, Int.reduceLE, Int.reduceBEq, Int.reduceToNat, Int.toNat_natCast, Int.natCast_zero, r4_C0, h1, i0, va, xencs_len, w64]
    exact ih
  | true =>
    simp only [Bool.true_and] at ih ⊢
    simp (disch := omega) only [go_sem, and_self, and_true, true_and, false_and, and_false, Nat.reduceAdd, Nat.reduceMul, Nat.reduceSub, Nat.reduceLeDiff, Nat.reduceLT, Nat.reduceGT, Nat.reduceEqDiff, Nat.reduceBEq, Int.reduceNeg, Int.reduceEq, Int.reduceLT, Int.reduceLE, Int.reduceBEq, Int.reduceToNat, Int.toNat_natCast, Int.natCast_zero, r4_C0, h1, i0, va, xencs_len, w64]
    exact ih
theorem pl_loop (hl : l.length ≤ maxLen) : ∀ (j i : Nat) (b : Bool), i + j = l.length → PlLoop B l i b
  | 0, i, b, h => pl_end B l i (by omega) b
  | j + 1, i, b, h => pl_step B l hl i (by omega) b fun b => pl_loop hl j (i + 1) b (by omega)
end
set_option maxHeartbeats 4000000 in
theorem FlatTame_ok (e : Xp) (he : e.ok) (hp : List Ent) : F tab 4 [.d e.enc] hp = some (.ret (.d (.bool true)) hp) := by
  have hmx : maxLen = 9223372036854775807 := by decide
  have hv := lives18_ok
  have l1 := light_ok e he 512 (by omega)
  have l2 := Calm_ok e he
  have l3 := Fits_ok e he
  have l4 := Cost_ok e he
  have l5 := rall_ok e he 600 (by omega) (by omega)
  have e512 : ((512 : Nat) : Int) = 512 := rfl
  have e600 : ((600 : Nat) : Int) = 600 := rfl
  unfold AllIs at l5
  rw [e512] at l1
  rw [e600] at l5
  unfold noD at l3
  have z0 : ((0 : Int) != 0) = false := rfl
  have z16 : ((16 : Int) != 0) = true := rfl
  rcases Bool.eq_false_or_eq_true (decide (e.pre.length ≤ 512)) with g1 | g1
  rotate_left
  · rw [g1] at l1
    obtain ⟨o, t, p, k, c, s, ns, xs, ex⟩ := xenc_as e
    rw [ex] at l1 ⊢
    refine f4 rfl ?_
    simp (disch := omega) only [go_sem, and_self, and_true, true_and, false_and, and_false, Nat.reduceAdd, Nat.reduceMul, Nat.reduceSub, Nat.reduceLeDiff, Nat.reduceLT, Nat.reduceGT, Nat.reduceEqDiff, Nat.reduceBEq, Int.reduceNeg, Int.reduceEq, Int.reduceLT, Int.reduceLE, Int.reduceBEq, Int.reduceToNat, Int.toNat_natCast, Int.natCast_zero, r4_T, r4, l1, hv]
  rcases Bool.eq_false_or_eq_true (calmA e) with g2 | g2
  rotate_left
  · rw [g1] at l1
    rw [g2] at l2
    obtain ⟨o, t, p, k, c, s, ns, xs, ex⟩ := xenc_as e
    rw [ex] at l1 l2 ⊢
    refine f4 rfl ?_
    simp (disch := omega) only [go_sem, and_self, and_true, true_and, false_and, and_false, Nat.reduceAdd, Nat.reduceMul, Nat.reduceSub, Nat.reduceLeDiff, Nat.reduceLT, Nat.reduceGT, Nat.reduceEqDiff, Nat.reduceBEq, Int.reduceNeg, Int.reduceEq, Int.reduceLT, Int.reduceLE, Int.reduceBEq, Int.reduceToNat, Int.toNat_natCast, Int.natCast_zero, r4_T, r4, l1, l2, hv]
  rcases Bool.eq_false_or_eq_true (fitW e) with g3 | g3
  rotate_left
  · rw [g1] at l1
    rw [g2] at l2
    rw [g3, if_neg (by simp)] at l3
    obtain ⟨o, t, p, k, c, s, ns, xs, ex⟩ := xenc_as e
    rw [ex] at l1 l2 l3 ⊢
    simp only [D.cells] at l3
    refine f4 rfl ?_
    simp (disch := omega) only [go_sem, and_self, and_true, true_and, false_and, and_false, Nat.reduceAdd, Nat.reduceMul, Nat.reduceSub, Nat.reduceLeDiff, Nat.reduceLT, Nat.reduceGT, Nat.reduceEqDiff, Nat.reduceBEq, Int.reduceNeg, Int.reduceEq, Int.reduceLT, Int.reduceLE, Int.reduceBEq, Int.reduceToNat, Int.toNat_natCast, Int.natCast_zero, r4_T, r4, l1, l2, l3, z16, hv, D.cells]
  have q1 : e.pre.length ≤ 512 := by simpa using g1
  have hB : isB e = true ∧ calmV e = true := by
    unfold calmA at g2
    rw [Bool.and_eq_true] at g2
    exact g2
  have hF : (bareX e).pre.all fitsV = true := isV_bare (by have := hB.1; unfold isB at this; rw [Bool.and_eq_true] at this; exact this.2)
  have hM : e.pre.all mustV = true := by unfold fitW at g3; rw [Bool.and_eq_true] at g3; exact g3.2
  have hw := (tame _ e (Nat.le_refl _) (gd_of _ e (Nat.le_refl _) (fun x hx => (nodes_of e hF x hx).1) hM)).1 hB.2
  have l6 := (wr_ok _ e (Nat.le_refl _) he (okX_of e hF)).1
  unfold WildIs at l6
  have ec : costA e = costV e := by unfold costA; rw [if_pos g2]
  have et : e.pre.take 600 = e.pre := List.take_of_length_le (by omega)
  have hlen := xencs_len e.pre
  have n1 : decide (costV e ≥ 1) = true := decide_eq_true (cost_rng e).1
  have n2 : decide (costV e ≤ (e.pre.length : Int)) = true := decide_eq_true (cost_le e)
  have hL := pl_loop (e.enc.cells.map .d) e.pre (by omega) e.pre.length 0 true (by omega)
  unfold PlLoop at hL
  rw [List.drop_zero, Bool.true_and, Int.natCast_zero] at hL
  have n3 : (e.pre.all fun x => opV x != 9) = true → (costV e == (e.pre.length : Int)) = true := by
    intro h
    rw [List.all_eq_true] at h
    rw [cost_pl e (by omega) fun x hx => by simpa using h x hx]
    simp
  rw [g1] at l1
  rw [g2] at l2
  rw [g3, if_pos rfl] at l3
  rw [ec] at l4
  rw [et] at l5
  rw [hw] at l6
  generalize (e.pre.all fun x => opV x != 9) = b at *
  generalize e.pre.length = ln at *
  generalize Xp.encs e.pre = w at *
  generalize costV e = n at *
  obtain ⟨o, t, p, k, c, s, ns, xs, ex⟩ := xenc_as e
  rw [ex] at l1 l2 l3 l4 l5 l6 hL ⊢
  simp only [D.cells, List.map_cons, List.map_nil] at l3 hL
  refine f4 rfl ?_
  simp (disch := omega) only [go_sem, and_self, and_true, true_and, false_and, and_false, Nat.reduceAdd, Nat.reduceMul, Nat.reduceSub, Nat.reduceLeDiff, Nat.reduceLT, Nat.reduceGT, Nat.reduceEqDiff, Nat.reduceBEq, Int.reduceNeg, Int.reduceEq, Int.reduceLT, Int.reduceLE, Int.reduceBEq, Int.reduceToNat, Int.toNat_natCast, Int.natCast_zero, r4_T, l1, l2, l3, l5, z0, hv, D.cells]
  rw [r4_B0_n]
  erw [hL]
  cases b with
  | true =>
    have n3 := n3 rfl
    simp (disch := omega) only [go_sem, and_self, and_true, true_and, false_and, and_false, Nat.reduceAdd, Nat.reduceMul, Nat.reduceSub, Nat.reduceLeDiff, Nat.reduceLT, Nat.reduceGT, Nat.reduceEqDiff, Nat.reduceBEq, Int.reduceNeg, Int.reduceEq, Int.reduceLT, Int.reduceLE, Int.reduceBEq, Int.reduceToNat, Int.toNat_natCast, Int.natCast_zero, r4, l4, l6, n1, n2, n3, hlen, hv, Bool.not_true, Bool.not_false]
  | false => simp (disch := omega) only [go_sem, and_self, and_true, true_and, false_and, and_false, Nat.reduceAdd, Nat.reduceMul, Nat.reduceSub, Nat.reduceLeDiff, Nat.reduceLT, Nat.reduceGT, Nat.reduceEqDiff, Nat.reduceBEq, Int.reduceNeg, Int.reduceEq, Int.reduceLT, Int.reduceLE, Int.reduceBEq, Int.reduceToNat, Int.toNat_natCast, Int.natCast_zero, r4, l4, l6, n1, n2, hlen, hv, Bool.not_true, Bool.not_false]
end Go.Pe.T
