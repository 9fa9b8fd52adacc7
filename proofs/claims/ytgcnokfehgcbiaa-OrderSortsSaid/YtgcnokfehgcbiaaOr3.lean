/- A part of the proof of: Values in order, each once, and the place of one among them: what the code sorts is what the document's insertion sorts, where each two have an answer, and both tell the same where two have none; each one once, and the first place, too. -/
import Derived.Test.YtgcnokfehgcbiaaOr2
set_option linter.unusedSimpArgs false
set_option linter.unusedVariables false
set_option maxRecDepth 10000

namespace Go.Pe.T
/-! ### turned about -/
theorem sgn_swap (a b : Int) : sgn b a = -sgn a b := by
  unfold sgn; split <;> split <;> (try split) <;> (try split) <;> omega

theorem sgn_zero' {a b : Int} : sgn a b = 0 ↔ a = b := by
  unfold sgn; split
  · omega
  · split <;> omega
theorem rank_inj {k k' : Int} (h : rankOf k = rankOf k') {m : Int} (a : 0 ≤ m) (b : m ≤ 7) : k = m ↔ k' = m := by
  unfold rankOf at h
  split at h <;> split at h <;> (try split at h) <;> (try split at h) <;> omega

theorem mism_swap : ∀ (a b : List UInt8), mism b a = (mism a b).map (fun c => -c)
  | [], [] => rfl
  | [], _ :: _ => rfl
  | _ :: _, [] => rfl
  | x :: a, y :: b => by
    have ih := mism_swap a b
    simp only [mism] at ih ⊢
    by_cases h : x = y
    · subst h
      simp only [if_true]
      exact ih
    · have h' : ¬ y = x := fun e => h e.symm
      simp only [h, h', if_false, Option.map_some, Option.some.injEq]
      exact sgn_swap _ _

theorem txt_swap (a b : ByteArray) : txt b a = -txt a b := by
  unfold txt txtL
  rw [mism_swap]
  cases mism a.data.toList b.data.toList with
  | none => simp only [Option.map_none, Option.getD_none]; exact sgn_swap _ _
  | some c => rfl

theorem keysO_swap : ∀ (a b : List ByteArray), keysO b a = (keysO a b).map (fun c => -c)
  | [], [] => rfl
  | [], _ :: _ => rfl
  | _ :: _, [] => rfl
  | x :: a, y :: b => by
    have ih := keysO_swap a b
    have ht := txt_swap x y
    simp only [keysO] at ih ⊢
    by_cases h : txt x y = 0
    · have h' : txt y x = 0 := by rw [ht, h]; rfl
      simp only [h, h', if_true]
      exact ih
    · have h' : ¬ txt y x = 0 := by rw [ht]; omega
      have h'' : ¬ -txt x y = 0 := by omega
      simp only [h, h', h'', if_false, Option.map_some, ht]

theorem keysC_swap (a b : List ByteArray) : keysC b a = -keysC a b := by
  unfold keysC
  rw [keysO_swap]
  cases keysO a b with
  | none => simp only [Option.map_none, Option.getD_none]; exact sgn_swap _ _
  | some c => rfl

mutual
theorem cmpV_swap : ∀ (x y : Val) (left : Int), cmpV y x left = (-(cmpV x y left).1, (cmpV x y left).2)
  | .mk k c s t xs ks, .mk k' c' s' t' ys ks', left => by
    have ih := cmpVs_swap xs ys (left - 1)
    simp only [cmpV]
    by_cases h1 : left - 1 < 0
    · simp only [h1, if_true]; rfl
    · simp only [h1, if_false]
      have e := sgn_swap (rankOf k) (rankOf k')
      by_cases h2 : sgn (rankOf k) (rankOf k') = 0
      · have h2' : sgn (rankOf k') (rankOf k) = 0 := by rw [e, h2]; rfl
        have hr : rankOf k = rankOf k' := sgn_zero'.1 h2
        simp only [h2, h2', ne_eq, not_true, if_false]
        have q : ∀ m : Int, 0 ≤ m → m ≤ 7 → (k = m ↔ k' = m) := fun m a b => rank_inj hr a b
        by_cases h3 : k = 3
        · have h3' := (q 3 (by omega) (by omega)).1 h3
          simp only [h3, h3', if_true, sgn_swap (flatS c s) (flatS c' s')]
        · have h3' : ¬ k' = 3 := fun g => h3 ((q 3 (by omega) (by omega)).2 g)
          simp only [h3, h3', if_false]
          by_cases h4 : k = 4 ∨ k = 7
          · have h4' : k' = 4 ∨ k' = 7 := h4.elim (fun g => .inl ((q 4 (by omega) (by omega)).1 g)) (fun g => .inr ((q 7 (by omega) (by omega)).1 g))
            simp only [h4, h4', if_true, txt_swap t t']
          · have h4' : ¬ (k' = 4 ∨ k' = 7) := fun g => h4 (g.elim (fun g => .inl ((q 4 (by omega) (by omega)).2 g)) (fun g => .inr ((q 7 (by omega) (by omega)).2 g)))
            simp only [h4, h4', if_false]
            by_cases h5 : k = 5
            · have h5' := (q 5 (by omega) (by omega)).1 h5
              simp only [h5, h5', if_true, ih]
            · have h5' : ¬ k' = 5 := fun g => h5 ((q 5 (by omega) (by omega)).2 g)
              simp only [h5, h5', if_false]
              by_cases h6 : k = 6
              · have h6' := (q 6 (by omega) (by omega)).1 h6
                have ek := keysC_swap ks ks'
                simp only [h6, h6', if_true]
                by_cases h7 : keysC ks ks' = 0
                · have h7' : keysC ks' ks = 0 := by rw [ek, h7]; rfl
                  simp only [h7, h7', ne_eq, not_true, if_false, ih]
                · have h7' : ¬ keysC ks' ks = 0 := by rw [ek]; omega
                  have h7'' : ¬ -keysC ks ks' = 0 := by omega
                  simp only [h7, h7', h7'', ne_eq, not_false_eq_true, if_true, ek]
              · have h6' : ¬ k' = 6 := fun g => h6 ((q 6 (by omega) (by omega)).2 g)
                simp only [h6, h6', if_false]
                rfl
      · have h2' : ¬ sgn (rankOf k') (rankOf k) = 0 := by rw [e]; omega
        have h2'' : ¬ -sgn (rankOf k) (rankOf k') = 0 := by omega
        simp only [h2, h2', h2'', ne_eq, not_false_eq_true, if_true, e]
theorem cmpVs_swap : ∀ (a b : List Val) (left : Int), cmpVs b a left = (-(cmpVs a b left).1, (cmpVs a b left).2)
  | [], [], left => by simp [cmpVs, sgn]
  | [], _ :: b, left => by simp only [cmpVs]; rw [sgn_swap]
  | _ :: a, [], left => by simp only [cmpVs]; rw [sgn_swap]
  | x :: a, y :: b, left => by
    have i1 := cmpV_swap x y left
    have i2 := cmpVs_swap a b (cmpV x y left).2
    simp only [cmpVs, i1]
    by_cases h : (cmpV x y left).1 ≠ 0 ∨ (cmpV x y left).2 < 0
    · have h' : -(cmpV x y left).1 ≠ 0 ∨ (cmpV x y left).2 < 0 := h.elim (fun g => .inl (by omega)) .inr
      simp only [h, h', if_true]
    · have h' : ¬ (-(cmpV x y left).1 ≠ 0 ∨ (cmpV x y left).2 < 0) := fun g => h (g.elim (fun g => .inl (by omega)) .inr)
      simp only [h, h', if_false, i2]
end

theorem cmpR_swap (x y : Val) : cmpR y x = (-(cmpR x y).1, (cmpR x y).2) := by
  unfold cmpR
  rw [cmpV_swap x y]
  by_cases h : (cmpV x y 4096).2 < 0 <;> simp [h]
end Go.Pe.T

namespace Go.Pe.T
/-! ### sorting by insertion, in plain -/
/-- what the comparison says; 0: no answer -/
def cmpC (x y : Val) : Int := (cmpR x y).1
theorem cmpC_swap (x y : Val) : cmpC y x = -cmpC x y := by unfold cmpC; rw [cmpR_swap x y]

/-- the one at place j goes down, as long as it is ahead of the one below -/
def sink : List Val → Nat → List Val
  | l, 0 => l
  | l, j + 1 => match l[j + 1]?, l[j]? with
    | some x, some y => if cmpC x y < 0 then sink ((l.set (j + 1) y).set j x) j else l
    | _, _ => l

def sortFrom : List Val → Nat → Nat → List Val
  | l, _, 0 => l
  | l, i, k + 1 => sortFrom (sink l i) (i + 1) k

def sortV (l : List Val) : List Val := sortFrom l 1 (l.length - 1)

theorem swap_perm : ∀ (l : List Val) (j : Nat) (x y : Val), l[j + 1]? = some x → l[j]? = some y → ((l.set (j + 1) y).set j x).Perm l
  | [], j, x, y, h, _ => by simp at h
  | a :: l, 0, x, y, h, h2 => by
    simp only [List.getElem?_cons_zero, Option.some.injEq] at h2
    subst h2
    cases l with
    | nil => simp at h
    | cons b l =>
      simp only [List.getElem?_cons_succ, List.getElem?_cons_zero, Option.some.injEq] at h
      subst h
      simp only [List.set_cons_succ, List.set_cons_zero]
      exact List.Perm.swap _ _ _
  | a :: l, j + 1, x, y, h, h2 => by
    simp only [List.getElem?_cons_succ] at h h2
    simp only [List.set_cons_succ]
    exact (swap_perm l j x y h h2).cons a

theorem sink_perm : ∀ (j : Nat) (l : List Val), (sink l j).Perm l
  | 0, l => List.Perm.refl _
  | j + 1, l => by
    rw [sink]
    split
    · rename_i x y hx hy
      split
      · exact (sink_perm j _).trans (swap_perm l j x y hx hy)
      · exact List.Perm.refl _
    · exact List.Perm.refl _

theorem sortFrom_perm : ∀ (k i : Nat) (l : List Val), (sortFrom l i k).Perm l
  | 0, i, l => List.Perm.refl _
  | k + 1, i, l => (sortFrom_perm k (i + 1) _).trans (sink_perm i l)
theorem sortV_perm (l : List Val) : (sortV l).Perm l := sortFrom_perm _ _ _
theorem sink_len (l : List Val) (j : Nat) : (sink l j).length = l.length := (sink_perm j l).length_eq
theorem sortV_len (l : List Val) : (sortV l).length = l.length := (sortV_perm l).length_eq

/-- two neighbours stand well -/
def Adj (l : List Val) (k : Nat) : Prop := ∀ x y, l[k]? = some x → l[k + 1]? = some y → cmpC x y ≤ 0

/-- but for place j all neighbours up to place i stand well -/
structure Sinking (l : List Val) (j i : Nat) : Prop where
  out : ∀ k, k + 1 ≤ i → k + 1 ≠ j → k ≠ j → Adj l k
  up : j < i → Adj l j
  over : ∀ m, j = m + 1 → j < i → ∀ x y, l[m]? = some x → l[m + 2]? = some y → cmpC x y ≤ 0

theorem sink_adj : ∀ (j i : Nat) (l : List Val), i < l.length → j ≤ i → Sinking l j i → ∀ k, k + 1 ≤ i → Adj (sink l j) k
  | 0, i, l, hi, hj, h, k, hk => by
    rw [sink]
    by_cases e : k = 0
    · subst e; exact h.up (by omega)
    · exact h.out k hk (by omega) e
  | j + 1, i, l, hi, hj, h, k, hk => by
    have hx : l[j + 1]? = some l[j + 1] := List.getElem?_eq_getElem (by omega)
    have hy : l[j]? = some l[j] := List.getElem?_eq_getElem (by omega)
    rw [sink, hx, hy]
    simp only
    split
    · rename_i hlt
      refine sink_adj j i _ (by simpa using hi) (by omega) ?_ k hk
      generalize hxx : l[j + 1] = x at *
      generalize hyy : l[j] = y at *
      have g0 : ((l.set (j + 1) y).set j x)[j]? = some x := by rw [List.getElem?_set_self (by simp; omega)]
      have g1 : ((l.set (j + 1) y).set j x)[j + 1]? = some y := by rw [List.getElem?_set_ne (by omega), List.getElem?_set_self (by omega)]
      have gk : ∀ m, m ≠ j → m ≠ j + 1 → ((l.set (j + 1) y).set j x)[m]? = l[m]? := fun m a b => by rw [List.getElem?_set_ne (Ne.symm a), List.getElem?_set_ne (Ne.symm b)]
      refine ⟨fun k h1 h2 h3 => ?_, fun _ => ?_, fun m hm h1 => ?_⟩
      · intro a b ha hb
        by_cases e : k = j + 1
        · subst e
          rw [g1] at ha
          simp only [Option.some.injEq] at ha
          subst ha
          rw [gk _ (by omega) (by omega)] at hb
          exact h.over j rfl (by omega) y b hy hb
        · rw [gk _ h3 e] at ha
          rw [gk _ (by omega) (by omega)] at hb
          exact h.out k h1 (by omega) e a b ha hb
      · intro a b ha hb
        rw [g0] at ha
        rw [g1] at hb
        simp only [Option.some.injEq] at ha hb
        subst ha; subst hb
        omega
      · subst hm
        intro a b ha hb
        rw [gk _ (by omega) (by omega)] at ha
        rw [g1] at hb
        simp only [Option.some.injEq] at hb
        subst hb
        exact h.out m (by omega) (by omega) (by omega) a y ha hy
    · rename_i hge
      by_cases e : k = j
      · subst e
        intro a b ha hb
        rw [hy] at ha
        rw [hx] at hb
        simp only [Option.some.injEq] at ha hb
        subst ha; subst hb
        have := cmpC_swap l[k] l[k + 1]
        omega
      · by_cases e2 : k = j + 1
        · subst e2; exact h.up (by omega)
        · exact h.out k hk (by omega) e2

theorem sortFrom_adj : ∀ (k i : Nat) (l : List Val), i + k = l.length → 0 < i → (∀ m, m + 1 < i → Adj l m) → ∀ m, m + 1 < l.length → Adj (sortFrom l i k) m
  | 0, i, l, hi, _, h, m, hm => h m (by omega)
  | k + 1, i, l, hi, h0, h, m, hm => by
    rw [sortFrom]
    have hl := sink_len l i
    refine sortFrom_adj k (i + 1) _ (by omega) (by omega) ?_ m (by omega)
    intro q hq
    refine sink_adj i i l (by omega) (Nat.le_refl _) ⟨fun k a b c => h k (by omega), fun a => absurd a (Nat.lt_irrefl _), fun _ _ a => absurd a (Nat.lt_irrefl _)⟩ q (by omega)

theorem sortV_adj (l : List Val) (m : Nat) (hm : m + 1 < l.length) : Adj (sortV l) m :=
  sortFrom_adj (l.length - 1) 1 l (by omega) (by omega) (fun q hq => by omega) m hm

/-- each two have an answer -/
def okP (x y : Val) : Prop := (cmpR x y).2 = true
theorem okP_swap {x y : Val} (h : okP x y) : okP y x := by unfold okP at *; rw [cmpR_swap x y]; exact h
theorem sortV_ok {l : List Val} (h : l.Pairwise okP) : (sortV l).Pairwise okP := ((sortV_perm l).symm.pairwise_iff (fun h => okP_swap h)).1 h

def toldAux (p : List Val) : List Val → Bool
  | [] => true
  | x :: r => (p.all fun y => (cmpR y x).2) && toldAux (p ++ [x]) r
theorem toldAux_pw : ∀ (r p : List Val), p.Pairwise okP → toldAux p r = true → (p ++ r).Pairwise okP
  | [], p, hp, _ => by simpa using hp
  | x :: r, p, hp, h => by
    simp only [toldAux, Bool.and_eq_true, List.all_eq_true] at h
    have := toldAux_pw r (p ++ [x]) (by
      rw [List.pairwise_append]
      refine ⟨hp, by simp, fun a ha b hb => ?_⟩
      simp only [List.mem_singleton] at hb
      subst hb
      exact h.1 a ha) h.2
    simpa using this
def toldV (l : List Val) : Bool := toldAux [] l
theorem toldV_pw {l : List Val} (h : toldV l = true) : l.Pairwise okP := by
  have := toldAux_pw l [] List.Pairwise.nil h
  simpa using this
end Go.Pe.T

namespace Go.Pe.T
/-! ### told; the comparison handed on -/

theorem encRow : ∀ (l : List Val), AggRow 6 (Val.encs l) := by
  have key : ∀ (l : List Val) (y : D), y ∈ Val.encs l → ∃ v : Val, y = v.enc := by
    intro l
    induction l with
    | nil => intro y h; simp [Val.encs] at h
    | cons v l ih =>
      intro y h
      simp only [Val.encs, List.mem_cons] at h
      rcases h with h | h
      · exact ⟨v, h⟩
      · exact ih y h
  intro l
  refine ⟨fun y h => ?_, fun y h => ?_, fun y h c hc => ?_⟩ <;> obtain ⟨v, rfl⟩ := key l y h
  · exact enc_a v
  · exact enc_w v
  · cases v
    simp only [Val.enc, D.cells, List.mem_cons, List.not_mem_nil, or_false] at hc
    rcases hc with rfl | rfl | rfl | rfl | rfl | rfl <;> rfl

theorem encs_set : ∀ (l : List Val) (i : Nat) (v : Val), (Val.encs l).set i v.enc = Val.encs (l.set i v)
  | [], i, v => by simp [Val.encs]
  | x :: l, 0, v => by simp [Val.encs]
  | x :: l, i + 1, v => by simp [Val.encs, encs_set l i v]

theorem cmpf_ok (x y : Val) (hx : x.ok) (hy : y.ok) (hp : List Ent) : F tab 72 [.d x.enc, .d y.enc] hp = some (.ret (.d (iv (cmpC x y))) hp) := by
  have h := ocmp_ok x y hx hy
  refine f72 rfl ?_
  unfold cmpC
  obtain ⟨k, c, s, t, xs, ks, ex⟩ := enc_as x
  obtain ⟨k', c', s', t', ys, ks', ey⟩ := enc_as y
  rw [ex, ey] at h ⊢
  simp (disch := omega) only [go_sem, and_self, and_true, true_and, false_and, and_false, Nat.reduceAdd, Nat.reduceMul, Nat.reduceSub, Nat.reduceLeDiff, Nat.reduceLT, Nat.reduceGT, Nat.reduceEqDiff, Nat.reduceBEq, Int.reduceNeg, Int.reduceEq, Int.reduceLT, Int.reduceLE, Int.reduceBEq, Int.reduceToNat, Int.toNat_natCast, Int.natCast_zero, r72_T, r72, h]

def TdIn (l : List Val) (x : Val) (i j : Nat) : Prop :=
  V (F tab) r69_B1 (r69_S1 (.d (.sl (Val.encs l))) (.d (iv i)) (.d (iv l.length)) (.d (iv i)) (.d (iv i)) (.d (iv j)) []) =
    if ((l.take i).drop j).all (fun y => (cmpR y x).2) then some (.norm, r69_E1 (.d (.sl (Val.encs l))) (.d (iv l.length)) (.d (iv i)) []) else some (.ret, r69_R (.d (.bool false)) [])

theorem td_end (l : List Val) (x : Val) (i : Nat) (hi : i < l.length) : TdIn l x i i := by
  have h1 : ((i : Int) < (i : Int)) = False := eq_false (by omega)
  have h2 : ((l.take i).drop i) = [] := List.drop_of_length_le (by rw [List.length_take]; exact Nat.min_le_left _ _)
  unfold TdIn
  rw [r69_B1_eq, h2]
  simp (disch := omega) only [go_sem, and_self, and_true, true_and, false_and, and_false, Nat.reduceAdd, Nat.reduceMul, Nat.reduceSub, Nat.reduceLeDiff, Nat.reduceLT, Nat.reduceGT, Nat.reduceEqDiff, Nat.reduceBEq, Int.reduceNeg, Int.reduceEq, Int.reduceLT, Int.reduceLE, Int.reduceBEq, Int.reduceToNat, Int.toNat_natCast, Int.natCast_zero, r69_C1, h1, List.all_nil]
theorem td_step (l : List Val) (hl : l.length ≤ 1000) (hk : Val.oks l) (x : Val) (i j : Nat) (hi : i < l.length) (hx : l[i]? = some x) (hj : j < i) (ih : TdIn l x i (j + 1)) : TdIn l x i j := by
  have h1 : ((j : Int) < (i : Int)) = True := eq_true (by omega)
  have i0 : (0 ≤ (i : Int)) = True := eq_true (by omega)
  have j0 : (0 ≤ (j : Int)) = True := eq_true (by omega)
  have hy : l[j]? = some l[j] := List.getElem?_eq_getElem (by omega)
  have va : (Val.encs l)[i]? = some x.enc := by rw [encs_get, hx]; rfl
  have vb : (Val.encs l)[j]? = some l[j].enc := by rw [encs_get, hy]; rfl
  have hox : x.ok := oks_mem hk (List.mem_of_getElem? hx)
  have hoy : l[j].ok := oks_mem hk (List.getElem_mem _)
  have hc := ocmp_ok l[j] x hoy hox
  have hd : (l.take i).drop j = l[j] :: (l.take i).drop (j + 1) := by
    rw [List.drop_eq_getElem_cons (by simp; omega)]; simp
  have e1 : (j : Int) + 1 = ((j + 1 : Nat) : Int) := rfl
  unfold TdIn at ih ⊢
  rw [r69_B1_eq, hd, List.all_cons]
  generalize l[j] = y at *
  obtain ⟨k, c, s, t, xs, ks, ex⟩ := enc_as x
  obtain ⟨k', c', s', t', ys, ks', ey⟩ := enc_as y
  rw [ex, ey] at hc
  rw [ex] at va
  rw [ey] at vb
  rcases Bool.eq_false_or_eq_true (cmpR y x).2 with g | g
  · rw [g] at hc
    rw [g, Bool.true_and]
    simp (disch := omega) only [go_sem, and_self, and_true, true_and, false_and, and_false, Nat.reduceAdd, Nat.reduceMul, Nat.reduceSub, Nat.reduceLeDiff, Nat.reduceLT, Nat.reduceGT, Nat.reduceEqDiff, Nat.reduceBEq, Int.reduceNeg, Int.reduceEq, Int.reduceLT, Int.reduceLE, Int.reduceBEq, Int.reduceToNat, Int.toNat_natCast, Int.natCast_zero, r69_C1, h1, i0, j0, va, vb, hc, e1, w64]
    exact ih
  · rw [g] at hc
    rw [g, Bool.false_and]
    simp (disch := omega) only [go_sem, and_self, and_true, true_and, false_and, and_false, Nat.reduceAdd, Nat.reduceMul, Nat.reduceSub, Nat.reduceLeDiff, Nat.reduceLT, Nat.reduceGT, Nat.reduceEqDiff, Nat.reduceBEq, Int.reduceNeg, Int.reduceEq, Int.reduceLT, Int.reduceLE, Int.reduceBEq, Int.reduceToNat, Int.toNat_natCast, Int.natCast_zero, r69_C1, h1, i0, j0, va, vb, hc, e1, w64]
theorem td_loop (l : List Val) (hl : l.length ≤ 1000) (hk : Val.oks l) (x : Val) (i : Nat) (hi : i < l.length) (hx : l[i]? = some x) : ∀ (d j : Nat), j + d = i → TdIn l x i j
  | 0, j, h => by obtain rfl : j = i := by omega
                  exact td_end l x j hi
  | d + 1, j, h => td_step l hl hk x i j hi hx (by omega) (td_loop l hl hk x i hi hx d (j + 1) (by omega))

def TdOut (l : List Val) (i : Nat) : Prop :=
  V (F tab) r69_B0 (r69_S0 (.d (.sl (Val.encs l))) (.d (iv l.length)) (.d (iv i)) []) =
    if toldAux (l.take i) (l.drop i) then some (.norm, r69_E0 []) else some (.ret, r69_R (.d (.bool false)) [])
theorem to_end (l : List Val) : TdOut l l.length := by
  have h1 : ((l.length : Int) < (l.length : Int)) = False := eq_false (by omega)
  unfold TdOut
  rw [r69_B0_eq, List.drop_of_length_le (Nat.le_refl _)]
  simp (disch := omega) only [go_sem, and_self, and_true, true_and, false_and, and_false, Nat.reduceAdd, Nat.reduceMul, Nat.reduceSub, Nat.reduceLeDiff, Nat.reduceLT, Nat.reduceGT, Nat.reduceEqDiff, Nat.reduceBEq, Int.reduceNeg, Int.reduceEq, Int.reduceLT, Int.reduceLE, Int.reduceBEq, Int.reduceToNat, Int.toNat_natCast, Int.natCast_zero, r69_C0, h1, toldAux]
theorem to_step (l : List Val) (hl : l.length ≤ 1000) (hk : Val.oks l) (i : Nat) (hi : i < l.length) (ih : TdOut l (i + 1)) : TdOut l i := by
  have h1 : ((i : Int) < (l.length : Int)) = True := eq_true (by omega)
  have hx : l[i]? = some l[i] := List.getElem?_eq_getElem hi
  have hin := td_loop l hl hk l[i] i hi hx i 0 (by omega)
  have e1 : (i : Int) + 1 = ((i + 1 : Nat) : Int) := rfl
  unfold TdIn at hin
  rw [List.drop_zero] at hin
  unfold TdOut at ih ⊢
  rw [r69_B0_eq, List.drop_eq_getElem_cons hi, toldAux]
  rw [show l.take (i + 1) = l.take i ++ [l[i]] from by rw [List.take_add_one, hx]; rfl] at ih
  simp (disch := omega) only [go_sem, and_self, and_true, true_and, false_and, and_false, Nat.reduceAdd, Nat.reduceMul, Nat.reduceSub, Nat.reduceLeDiff, Nat.reduceLT, Nat.reduceGT, Nat.reduceEqDiff, Nat.reduceBEq, Int.reduceNeg, Int.reduceEq, Int.reduceLT, Int.reduceLE, Int.reduceBEq, Int.reduceToNat, Int.toNat_natCast, Int.natCast_zero, r69_C0, h1, w64]
  rw [r69_B1_n]
  erw [hin]
  rcases Bool.eq_false_or_eq_true ((l.take i).all fun y => (cmpR y l[i]).2) with g | g
  · rw [g]
    simp (disch := omega) only [go_sem, and_self, and_true, true_and, false_and, and_false, Nat.reduceAdd, Nat.reduceMul, Nat.reduceSub, Nat.reduceLeDiff, Nat.reduceLT, Nat.reduceGT, Nat.reduceEqDiff, Nat.reduceBEq, Int.reduceNeg, Int.reduceEq, Int.reduceLT, Int.reduceLE, Int.reduceBEq, Int.reduceToNat, Int.toNat_natCast, Int.natCast_zero, e1, w64]
    exact ih
  · rw [g]
    simp (disch := omega) only [go_sem, and_self, and_true, true_and, false_and, and_false, Nat.reduceAdd, Nat.reduceMul, Nat.reduceSub, Nat.reduceLeDiff, Nat.reduceLT, Nat.reduceGT, Nat.reduceEqDiff, Nat.reduceBEq, Int.reduceNeg, Int.reduceEq, Int.reduceLT, Int.reduceLE, Int.reduceBEq, Int.reduceToNat, Int.toNat_natCast, Int.natCast_zero, e1, w64]
theorem to_loop (l : List Val) (hl : l.length ≤ 1000) (hk : Val.oks l) : ∀ (d i : Nat), i + d = l.length → TdOut l i
  | 0, i, h => by obtain rfl : i = l.length := by omega
                  exact to_end l
  | d + 1, i, h => to_step l hl hk i (by omega) (to_loop l hl hk d (i + 1) (by omega))
theorem told_ok (l : List Val) (hl : l.length ≤ 1000) (hk : Val.oks l) (hp : List Ent) : F tab 69 [.d (.sl (Val.encs l))] hp = some (.ret (.d (.bool (toldV l))) hp) := by
  have hL := to_loop l hl hk l.length 0 (by omega)
  unfold TdOut at hL
  rw [List.drop_zero, List.take_zero] at hL
  refine f69 rfl ?_
  unfold toldV
  simp (disch := omega) only [go_sem, and_self, and_true, true_and, false_and, and_false, Nat.reduceAdd, Nat.reduceMul, Nat.reduceSub, Nat.reduceLeDiff, Nat.reduceLT, Nat.reduceGT, Nat.reduceEqDiff, Nat.reduceBEq, Int.reduceNeg, Int.reduceEq, Int.reduceLT, Int.reduceLE, Int.reduceBEq, Int.reduceToNat, Int.toNat_natCast, Int.natCast_zero, r69_T, r69, encs_len]
  rw [r69_B0_n]
  erw [hL]
  rcases Bool.eq_false_or_eq_true (toldAux [] l) with g | g <;> rw [g] <;> simp only [go_sem, and_self, and_true, true_and, false_and, and_false, Nat.reduceAdd, Nat.reduceMul, Nat.reduceSub, Nat.reduceLeDiff, Nat.reduceLT, Nat.reduceGT, Nat.reduceEqDiff, Nat.reduceBEq, Int.reduceNeg, Int.reduceEq, Int.reduceLT, Int.reduceLE, Int.reduceBEq, Int.reduceToNat, Int.toNat_natCast, Int.natCast_zero]
end Go.Pe.T

namespace Go.Pe.T
/-! ### the insertion sort, in its box -/

theorem rowEnt_box {l : List Val} (h : 0 < l.length) : rowEnt (Val.encs l) = .box (flatD (Val.encs l)) := by
  cases l with
  | nil => simp at h
  | cons v l => rfl

/-- what is read of, and written to, the box -/
structure BoxF (l : List Val) : Prop where
  len : (flatD (Val.encs l)).length = l.length * 6
  rd : ∀ (i : Nat) (x : Val), l[i]? = some x → optAll (List.map PV.toD (List.take 6 (List.drop (0 + i * 6) (flatD (Val.encs l))))) = some x.enc.cells
  wr : ∀ (i : Nat) (x : Val), i < l.length → setCells (flatD (Val.encs l)) (0 + i * 6) x.enc.cells = flatD (Val.encs (l.set i x))

theorem enc_cells (x : Val) : x.enc.cells.length = 6 := enc_w x
theorem enc_agg (x : Val) : D.agg x.enc.cells = x.enc := by cases x; rfl

theorem boxF (l : List Val) : BoxF l := by
  have hr := encRow l
  have hlen : (flatD (Val.encs l)).length = l.length * 6 := by rw [flatD_len hr.wid, encs_len]
  refine ⟨hlen, fun i x hx => ?_, fun i x hi => ?_⟩
  · have hi : i < l.length := (List.getElem?_eq_some_iff.1 hx).1
    have h := cellsAgg_row hr (i := i) (by rw [encs_len]; exact hi)
    have hg : (Val.encs l)[i]'(by rw [encs_len]; exact hi) = x.enc := by
      have : (Val.encs l)[i]? = some x.enc := by rw [encs_get, hx]; rfl
      exact (List.getElem?_eq_some_iff.1 this).2
    rw [hg] at h
    unfold cellsAgg at h
    split at h
    · rw [Option.map_eq_some_iff] at h
      obtain ⟨ds, h1, h2⟩ := h
      rw [Nat.zero_add, h1]
      simp only [PV.d.injEq] at h2
      rw [← h2]
      rfl
    · simp at h
  · have h := storeIn_row hr (i := i) (y := x.enc) (by rw [encs_len]; exact hi) (enc_a x) (enc_w x)
    rw [encs_set, ← enc_agg x] at h
    simp only [storeIn] at h
    split at h
    · rw [Nat.zero_add]
      simpa using h
    · simp at h

def InIs (id i : Nat) (hp : List Ent) (l : List Val) (j : Nat) : Prop :=
  V (F tab) r132_B1 (r132_S1 (.rowh id 0 l.length) (.d (iv 0)) (.d (iv l.length)) (.fn 72 []) (.d (iv i)) (.d (iv j)) hp) =
    some (.norm, r132_E1 (.rowh id 0 l.length) (.d (iv 0)) (.d (iv l.length)) (.fn 72 []) (.d (iv i)) (hp.set id (.box (flatD (Val.encs (sink l j))))))

theorem in_zero (id i : Nat) (hp : List Ent) (l : List Val) (h : hp[id]? = some (.box (flatD (Val.encs l)))) : InIs id i hp l 0 := by
  have h1 : ((0 : Int) > 0) = False := eq_false (by omega)
  have h2 : (((0 : Nat) : Int) > 0) = False := eq_false (by omega)
  unfold InIs
  rw [r132_B1_eq, sink, hp_set h]
  simp (disch := omega) only [go_sem, and_self, and_true, true_and, false_and, and_false, Nat.reduceAdd, Nat.reduceMul, Nat.reduceSub, Nat.reduceLeDiff, Nat.reduceLT, Nat.reduceGT, Nat.reduceEqDiff, Nat.reduceBEq, Int.reduceNeg, Int.reduceEq, Int.reduceLT, Int.reduceLE, Int.reduceBEq, Int.reduceToNat, Int.toNat_natCast, Int.natCast_zero, r132_C1, h1, h2]

set_option maxHeartbeats 1000000 in
theorem in_stop (id i : Nat) (hp : List Ent) (l : List Val) (hl : l.length ≤ 1000) (hk : Val.oks l) (m : Nat) (x y : Val) (hx : l[m + 1]? = some x) (hy : l[m]? = some y) (h : hp[id]? = some (.box (flatD (Val.encs l)))) (hc : ¬ cmpC x y < 0) : InIs id i hp l (m + 1) := by
  have hm : m + 1 < l.length := (List.getElem?_eq_some_iff.1 hx).1
  have h1 : (((m + 1 : Nat) : Int) > 0) = True := eq_true (by omega)
  have h2 : (0 ≤ ((m + 1 : Nat) : Int)) = True := eq_true (by omega)
  have h3 : (((m + 1 : Nat) : Int) < (l.length : Int)) = True := eq_true (by omega)
  have h4 : (0 ≤ (m : Int)) = True := eq_true (by omega)
  have h5 : ((m : Int) < (l.length : Int)) = True := eq_true (by omega)
  have h6 : ((m + 1 : Nat) : Int) - 1 = (m : Int) := by omega
  obtain ⟨b1, b2, _⟩ := boxF l
  have r1 := b2 (m + 1) x hx
  have r2 := b2 m y hy
  have g1 : (0 + (m + 1) * 6 + 6 ≤ (flatD (Val.encs l)).length) = True := eq_true (by rw [b1]; omega)
  have g2 : (0 + m * 6 + 6 ≤ (flatD (Val.encs l)).length) = True := eq_true (by rw [b1]; omega)
  have hf := cmpf_ok x y (oks_mem hk (List.mem_of_getElem? hx)) (oks_mem hk (List.mem_of_getElem? hy))
  rw [← enc_agg x, ← enc_agg y] at hf
  unfold InIs
  rw [r132_B1_eq, sink, hx, hy]
  simp only [hc, if_false]
  rw [hp_set h]
  generalize x.enc.cells = X at *
  generalize y.enc.cells = Y at *
  simp (maxSteps := 1000000) (disch := omega) only [go_sem, and_self, and_true, true_and, false_and, and_false, Nat.reduceAdd, Nat.reduceMul, Nat.reduceSub, Nat.reduceLeDiff, Nat.reduceLT, Nat.reduceGT, Nat.reduceEqDiff, Nat.reduceBEq, Int.reduceNeg, Int.reduceEq, Int.reduceLT, Int.reduceLE, Int.reduceBEq, Int.reduceToNat, Int.toNat_natCast, Int.natCast_zero, r132_C1, h1, h2, h3, h4, h5, h6, h, r1, r2, g1, g2, hf, hc, w64]

set_option maxHeartbeats 1000000 in
theorem in_step (id i : Nat) (hp : List Ent) (l : List Val) (hl : l.length ≤ 1000) (hk : Val.oks l) (m : Nat) (x y : Val) (hx : l[m + 1]? = some x) (hy : l[m]? = some y) (h : hp[id]? = some (.box (flatD (Val.encs l)))) (hc : cmpC x y < 0)
    (ih : InIs id i (hp.set id (.box (flatD (Val.encs ((l.set (m + 1) y).set m x))))) ((l.set (m + 1) y).set m x) m) : InIs id i hp l (m + 1) := by
  have hm : m + 1 < l.length := (List.getElem?_eq_some_iff.1 hx).1
  have hid : id < hp.length := (List.getElem?_eq_some_iff.1 h).1
  have h1 : (((m + 1 : Nat) : Int) > 0) = True := eq_true (by omega)
  have h2 : (0 ≤ ((m + 1 : Nat) : Int)) = True := eq_true (by omega)
  have h3 : (((m + 1 : Nat) : Int) < (l.length : Int)) = True := eq_true (by omega)
  have h4 : (0 ≤ (m : Int)) = True := eq_true (by omega)
  have h5 : ((m : Int) < (l.length : Int)) = True := eq_true (by omega)
  have h6 : ((m + 1 : Nat) : Int) - 1 = (m : Int) := by omega
  obtain ⟨b1, b2, b3⟩ := boxF l
  have r1 := b2 (m + 1) x hx
  have r2 := b2 m y hy
  have g1 : (0 + (m + 1) * 6 + 6 ≤ (flatD (Val.encs l)).length) = True := eq_true (by rw [b1]; omega)
  have g2 : (0 + m * 6 + 6 ≤ (flatD (Val.encs l)).length) = True := eq_true (by rw [b1]; omega)
  have s1 := b3 (m + 1) y hm
  obtain ⟨c1, _, c3⟩ := boxF (l.set (m + 1) y)
  have g3 : (0 + m * 6 + 6 ≤ (flatD (Val.encs (l.set (m + 1) y))).length) = True := eq_true (by rw [c1, List.length_set]; omega)
  have s2 := c3 m x (by rw [List.length_set]; omega)
  have hf := cmpf_ok x y (oks_mem hk (List.mem_of_getElem? hx)) (oks_mem hk (List.mem_of_getElem? hy))
  have lx : (x.enc.cells.length = 6) = True := eq_true (enc_cells x)
  have ly : (y.enc.cells.length = 6) = True := eq_true (enc_cells y)
  have hset : ∀ e : Ent, (hp.set id e)[id]? = some e := fun e => List.getElem?_set_self hid
  have hss : ∀ e e' : Ent, (hp.set id e).set id e' = hp.set id e' := fun e e' => List.set_set ..
  rw [← enc_agg x, ← enc_agg y] at hf
  unfold InIs at ih ⊢
  rw [hss, List.length_set, List.length_set] at ih
  rw [r132_B1_eq, sink, hx, hy]
  simp only [hc, if_true]
  generalize x.enc.cells = X at *
  generalize y.enc.cells = Y at *
  simp (maxSteps := 1000000) (disch := omega) only [go_sem, and_self, and_true, true_and, false_and, and_false, Nat.reduceAdd, Nat.reduceMul, Nat.reduceSub, Nat.reduceLeDiff, Nat.reduceLT, Nat.reduceGT, Nat.reduceEqDiff, Nat.reduceBEq, Int.reduceNeg, Int.reduceEq, Int.reduceLT, Int.reduceLE, Int.reduceBEq, Int.reduceToNat, Int.toNat_natCast, Int.natCast_zero, r132_C1, h1, h2, h3, h4, h5, h6, h, r1, r2, g1, g2, g3, s1, s2, lx, ly, hset, hss, hf, hc, w64]
  exact ih
end Go.Pe.T

namespace Go.Pe.T

theorem oks_iff : ∀ {l : List Val}, Val.oks l ↔ ∀ v ∈ l, v.ok
  | [] => by simp [Val.oks]
  | v :: l => by
    have ih := @oks_iff l
    simp [Val.oks, ih]
theorem oks_perm {l m : List Val} (h : l.Perm m) (hk : Val.oks l) : Val.oks m := oks_iff.2 fun v hv => oks_iff.1 hk v (h.mem_iff.2 hv)

theorem sink_oks {l : List Val} (hk : Val.oks l) (j : Nat) : Val.oks (sink l j) := oks_perm (sink_perm j l).symm hk

theorem in_all (id i : Nat) : ∀ (j : Nat) (hp : List Ent) (l : List Val), l.length ≤ 1000 → Val.oks l → j < l.length → hp[id]? = some (.box (flatD (Val.encs l))) → InIs id i hp l j
  | 0, hp, l, _, _, _, h => in_zero id i hp l h
  | m + 1, hp, l, hl, hk, hj, h => by
    have hx : l[m + 1]? = some l[m + 1] := List.getElem?_eq_getElem hj
    have hy : l[m]? = some l[m] := List.getElem?_eq_getElem (by omega)
    by_cases hc : cmpC l[m + 1] l[m] < 0
    · have hid : id < hp.length := (List.getElem?_eq_some_iff.1 h).1
      refine in_step id i hp l hl hk m _ _ hx hy h hc (in_all id i m _ _ (by simpa using hl) (oks_perm (swap_perm l m _ _ hx hy).symm hk) (by simp; omega) (List.getElem?_set_self hid))
    · exact in_stop id i hp l hl hk m _ _ hx hy h hc

def OuIs (id : Nat) (hp : List Ent) (l : List Val) (i k : Nat) : Prop :=
  V (F tab) r132_B0 (r132_S0 (.rowh id 0 l.length) (.d (iv 0)) (.d (iv l.length)) (.fn 72 []) (.d (iv i)) hp) =
    some (.norm, r132_E0 (hp.set id (.box (flatD (Val.encs (sortFrom l i k))))))
theorem ou_end (id : Nat) (hp : List Ent) (l : List Val) (h : hp[id]? = some (.box (flatD (Val.encs l)))) : OuIs id hp l l.length 0 := by
  have h1 : ((l.length : Int) < (l.length : Int)) = False := eq_false (by omega)
  unfold OuIs
  rw [r132_B0_eq, sortFrom, hp_set h]
  simp (disch := omega) only [go_sem, and_self, and_true, true_and, false_and, and_false, Nat.reduceAdd, Nat.reduceMul, Nat.reduceSub, Nat.reduceLeDiff, Nat.reduceLT, Nat.reduceGT, Nat.reduceEqDiff, Nat.reduceBEq, Int.reduceNeg, Int.reduceEq, Int.reduceLT, Int.reduceLE, Int.reduceBEq, Int.reduceToNat, Int.toNat_natCast, Int.natCast_zero, r132_C0, h1]
theorem ou_step (id : Nat) (hp : List Ent) (l : List Val) (hl : l.length ≤ 1000) (hk : Val.oks l) (i k : Nat) (hi : i < l.length) (h : hp[id]? = some (.box (flatD (Val.encs l))))
    (ih : OuIs id (hp.set id (.box (flatD (Val.encs (sink l i))))) (sink l i) (i + 1) k) : OuIs id hp l i (k + 1) := by
  have h1 : ((i : Int) < (l.length : Int)) = True := eq_true (by omega)
  have hin := in_all id i i hp l hl hk hi h
  have e1 : (i : Int) + 1 = ((i + 1 : Nat) : Int) := rfl
  have hss : ∀ e e' : Ent, (hp.set id e).set id e' = hp.set id e' := fun e e' => List.set_set ..
  unfold InIs at hin
  unfold OuIs at ih ⊢
  rw [hss, sink_len] at ih
  rw [r132_B0_eq, sortFrom]
  simp (disch := omega) only [go_sem, and_self, and_true, true_and, false_and, and_false, Nat.reduceAdd, Nat.reduceMul, Nat.reduceSub, Nat.reduceLeDiff, Nat.reduceLT, Nat.reduceGT, Nat.reduceEqDiff, Nat.reduceBEq, Int.reduceNeg, Int.reduceEq, Int.reduceLT, Int.reduceLE, Int.reduceBEq, Int.reduceToNat, Int.toNat_natCast, Int.natCast_zero, r132_C0, h1]
  rw [r132_B1_n]
  erw [hin]
  simp (disch := omega) only [go_sem, and_self, and_true, true_and, false_and, and_false, Nat.reduceAdd, Nat.reduceMul, Nat.reduceSub, Nat.reduceLeDiff, Nat.reduceLT, Nat.reduceGT, Nat.reduceEqDiff, Nat.reduceBEq, Int.reduceNeg, Int.reduceEq, Int.reduceLT, Int.reduceLE, Int.reduceBEq, Int.reduceToNat, Int.toNat_natCast, Int.natCast_zero, e1, w64]
  exact ih
theorem ou_loop (id : Nat) : ∀ (k i : Nat) (hp : List Ent) (l : List Val), l.length ≤ 1000 → Val.oks l → i + k = l.length → hp[id]? = some (.box (flatD (Val.encs l))) → OuIs id hp l i k
  | 0, i, hp, l, _, _, hi, h => by obtain rfl : i = l.length := by omega
                                   exact ou_end id hp l h
  | k + 1, i, hp, l, hl, hk, hi, h => by
    have hid : id < hp.length := (List.getElem?_eq_some_iff.1 h).1
    have hsl := sink_len l i
    exact ou_step id hp l hl hk i k (by omega) h (ou_loop id k (i + 1) _ _ (by omega) (sink_oks hk i) (by omega) (List.getElem?_set_self hid))

theorem insort_ok (id : Nat) (hp : List Ent) (l : List Val) (hl : l.length ≤ 1000) (hk : Val.oks l) (h : hp[id]? = some (rowEnt (Val.encs l))) :
    F tab 132 [.rowh id 0 l.length, .d (iv 0), .d (iv l.length), .fn 72 []] hp = some (.ret (.tup []) (hp.set id (rowEnt (Val.encs (sortV l))))) := by
  refine f132 ?_
  have z1 : IntKind.i64.wrap (0 + 1) = 1 := by decide
  by_cases h0 : l.length = 0
  · have hn : l = [] := List.eq_nil_of_length_eq_zero h0
    subst hn
    have e1 : sortV [] = [] := rfl
    have h1 : ((1 : Int) < ((List.length ([] : List Val) : Nat) : Int)) = False := eq_false (by simp)
    rw [e1, hp_set h]
    simp (disch := omega) only [go_sem, and_self, and_true, true_and, false_and, and_false, Nat.reduceAdd, Nat.reduceMul, Nat.reduceSub, Nat.reduceLeDiff, Nat.reduceLT, Nat.reduceGT, Nat.reduceEqDiff, Nat.reduceBEq, Int.reduceNeg, Int.reduceEq, Int.reduceLT, Int.reduceLE, Int.reduceBEq, Int.reduceToNat, Int.toNat_natCast, Int.natCast_zero, r132_T, r132, z1]
    rw [r132_B0_n, r132_B0_eq]
    have h2 : ((1 : Int) < 0) = False := eq_false (by omega)
    simp (disch := omega) only [go_sem, and_self, and_true, true_and, false_and, and_false, Nat.reduceAdd, Nat.reduceMul, Nat.reduceSub, Nat.reduceLeDiff, Nat.reduceLT, Nat.reduceGT, Nat.reduceEqDiff, Nat.reduceBEq, Int.reduceNeg, Int.reduceEq, Int.reduceLT, Int.reduceLE, Int.reduceBEq, Int.reduceToNat, Int.toNat_natCast, Int.natCast_zero, r132_C0, h1, h2, List.map_nil]
  · rw [rowEnt_box (by omega)] at h
    rw [rowEnt_box (by rw [sortV_len]; omega)]
    have hL := ou_loop id (l.length - 1) 1 hp l hl hk (by omega) h
    unfold OuIs at hL
    simp (disch := omega) only [go_sem, and_self, and_true, true_and, false_and, and_false, Nat.reduceAdd, Nat.reduceMul, Nat.reduceSub, Nat.reduceLeDiff, Nat.reduceLT, Nat.reduceGT, Nat.reduceEqDiff, Nat.reduceBEq, Int.reduceNeg, Int.reduceEq, Int.reduceLT, Int.reduceLE, Int.reduceBEq, Int.reduceToNat, Int.toNat_natCast, Int.natCast_zero, r132_T, r132, z1]
    rw [r132_B0_n]
    erw [hL]
    simp (disch := omega) only [go_sem, and_self, and_true, true_and, false_and, and_false, Nat.reduceAdd, Nat.reduceMul, Nat.reduceSub, Nat.reduceLeDiff, Nat.reduceLT, Nat.reduceGT, Nat.reduceEqDiff, Nat.reduceBEq, Int.reduceNeg, Int.reduceEq, Int.reduceLT, Int.reduceLE, Int.reduceBEq, Int.reduceToNat, Int.toNat_natCast, Int.natCast_zero, List.map_nil]
    rfl
end Go.Pe.T

namespace Go.Pe.T

theorem stable_ok (id : Nat) (hp : List Ent) (l : List Val) (hl : l.length ≤ 12) (hk : Val.oks l) (h : hp[id]? = some (rowEnt (Val.encs l))) :
    F tab 108 [.rowh id 0 l.length, .d (iv l.length), .fn 72 []] hp = some (.ret (.tup []) (hp.set id (rowEnt (Val.encs (sortV l))))) := by
  have hi := insort_ok id hp l (by omega) hk h
  have h1 : ((20 : Int) ≤ (l.length : Int)) = False := eq_false (by omega)
  have h2 : ((20 : Int) < (l.length : Int)) = False := eq_false (by omega)
  refine f108 ?_
  simp (disch := omega) only [go_sem, and_self, and_true, true_and, false_and, and_false, Nat.reduceAdd, Nat.reduceMul, Nat.reduceSub, Nat.reduceLeDiff, Nat.reduceLT, Nat.reduceGT, Nat.reduceEqDiff, Nat.reduceBEq, Int.reduceNeg, Int.reduceEq, Int.reduceLT, Int.reduceLE, Int.reduceBEq, Int.reduceToNat, Int.toNat_natCast, Int.natCast_zero, r108_T, r108]
  rw [r108_B0_n, r108_B0_eq]
  simp (disch := omega) only [go_sem, and_self, and_true, true_and, false_and, and_false, Nat.reduceAdd, Nat.reduceMul, Nat.reduceSub, Nat.reduceLeDiff, Nat.reduceLT, Nat.reduceGT, Nat.reduceEqDiff, Nat.reduceBEq, Int.reduceNeg, Int.reduceEq, Int.reduceLT, Int.reduceLE, Int.reduceBEq, Int.reduceToNat, Int.toNat_natCast, Int.natCast_zero, r108_C0, h1, hi]
  rw [r108_B1_n, r108_B1_eq]
  simp (disch := omega) only [go_sem, and_self, and_true, true_and, false_and, and_false, Nat.reduceAdd, Nat.reduceMul, Nat.reduceSub, Nat.reduceLeDiff, Nat.reduceLT, Nat.reduceGT, Nat.reduceEqDiff, Nat.reduceBEq, Int.reduceNeg, Int.reduceEq, Int.reduceLT, Int.reduceLE, Int.reduceBEq, Int.reduceToNat, Int.toNat_natCast, Int.natCast_zero, r108_C1, h2, List.map_nil]

theorem sstable_ok (id : Nat) (hp : List Ent) (l : List Val) (hl : l.length ≤ 12) (hk : Val.oks l) (h : hp[id]? = some (rowEnt (Val.encs l))) :
    F tab 71 [.rowh id 0 l.length, .fn 72 []] hp = some (.ret (.tup []) (hp.set id (rowEnt (Val.encs (sortV l))))) := by
  have hi := stable_ok id hp l hl hk h
  refine f71 ?_
  simp (disch := omega) only [go_sem, and_self, and_true, true_and, false_and, and_false, Nat.reduceAdd, Nat.reduceMul, Nat.reduceSub, Nat.reduceLeDiff, Nat.reduceLT, Nat.reduceGT, Nat.reduceEqDiff, Nat.reduceBEq, Int.reduceNeg, Int.reduceEq, Int.reduceLT, Int.reduceLE, Int.reduceBEq, Int.reduceToNat, Int.toNat_natCast, Int.natCast_zero, r71_T, r71, hi, List.map_nil]

theorem demote_rowh (i a b : Nat) : (PV.rowh i a b).demote = .rowh i a b := rfl

theorem push_set (hp : List Ent) (e e' : Ent) : (hp ++ [e]).set hp.length e' = hp ++ [e'] := by
  rw [List.set_append_right _ _ (Nat.le_refl _)]; simp

theorem osort_ok (l : List Val) (hl : l.length ≤ 12) (hk : Val.oks l) (hp : List Ent) :
    F tab 34 [.d (.sl (Val.encs l))] hp = if toldV l then some (.ret (.tup [.rowh hp.length 0 l.length, .d (.bool true)]) (hp ++ [rowEnt (Val.encs (sortV l))])) else some (.ret (.tup [.d (.sl []), .d (.bool false)]) hp) := by
  have ht := told_ok l (by omega) hk
  have hr : rowOk 6 88 [] (Val.encs l) = true := by
    simp only [rowOk, Bool.and_eq_true, decide_eq_true_eq, List.length_nil, Nat.zero_add, encs_len, List.all_eq_true, beq_iff_eq]
    exact ⟨by simp only [maxRow]; omega, (encRow l).wid⟩
  have hc := fun hp => f70 (hp := hp) hr
  simp only [encs_len] at hc
  have hs := sstable_ok hp.length (hp ++ [rowEnt (Val.encs l)]) l hl hk (by simp)
  rw [push_set] at hs
  rcases Bool.eq_false_or_eq_true (toldV l) with g | g
  · rw [g] at ht
    rw [g]
    refine f34 ?_
    simp (disch := omega) only [go_sem, and_self, and_true, true_and, false_and, and_false, Nat.reduceAdd, Nat.reduceMul, Nat.reduceSub, Nat.reduceLeDiff, Nat.reduceLT, Nat.reduceGT, Nat.reduceEqDiff, Nat.reduceBEq, Int.reduceNeg, Int.reduceEq, Int.reduceLT, Int.reduceLE, Int.reduceBEq, Int.reduceToNat, Int.toNat_natCast, Int.natCast_zero, r34_T, r34, ht, hc, hs, demote_rowh]
  · rw [g] at ht
    rw [g]
    refine f34 ?_
    simp (disch := omega) only [go_sem, and_self, and_true, true_and, false_and, and_false, Nat.reduceAdd, Nat.reduceMul, Nat.reduceSub, Nat.reduceLeDiff, Nat.reduceLT, Nat.reduceGT, Nat.reduceEqDiff, Nat.reduceBEq, Int.reduceNeg, Int.reduceEq, Int.reduceLT, Int.reduceLE, Int.reduceBEq, Int.reduceToNat, Int.toNat_natCast, Int.natCast_zero, r34_T, r34, ht]
end Go.Pe.T

namespace Go.Pe.T
/-! ### are two values the same -/
def samK : List ByteArray → List ByteArray → Bool
  | k :: r, k' :: r' => (k.toList == k'.toList) && samK r r'
  | _, _ => true
mutual
def samV : Val → Val → Bool
  | .mk k c s t xs ks, .mk k' c' s' t' ys ks' => (k == k') && ((c == c' && s == s') && ((t.toList == t'.toList) && (decide (xs.length = ys.length) && (decide (ks.length = ks'.length) && (samK ks ks' && samVs xs ys)))))
def samVs : List Val → List Val → Bool
  | x :: r, y :: r' => samV x y && samVs r r'
  | _, _ => true
end
theorem samK_refl : ∀ (l : List ByteArray), samK l l = true
  | [] => rfl
  | k :: r => by simp [samK, samK_refl r]
mutual
theorem samV_refl : ∀ (x : Val), samV x x = true
  | .mk k c s t xs ks => by simp [samV, samK_refl, samVs_refl xs]
theorem samVs_refl : ∀ (l : List Val), samVs l l = true
  | [] => rfl
  | x :: r => by simp [samVs, samV_refl x, samVs_refl r]
end

def SamIs (x y : Val) : Prop := ∀ hp : List Ent, F tab 73 [.d x.enc, .d y.enc] hp = some (.ret (.d (.bool (samV x y))) hp)

abbrev bxV (k c s : Int) (t : ByteArray) (xs : List D) (ks : List ByteArray) : PV := .ibox [.d (iv k), .d (iv c), .d (iv s), .d (.str t), .d (.sl xs), .d (.sl (ks.map .str))]

section
variable (k c s : Int) (t : ByteArray) (xs : List Val) (ks : List ByteArray) (k' c' s' : Int) (t' : ByteArray) (ys : List Val) (ks' : List ByteArray)

def SkLoop (i : Nat) : Prop :=
  V (F tab) r73_B0 (r73_S0 (bxV k c s t (Val.encs xs) ks) (bxV k' c' s' t' (Val.encs ys) ks') (.d (iv i)) []) =
    if samK (ks.drop i) (ks'.drop i) then some (.norm, r73_E0 (bxV k c s t (Val.encs xs) ks) (bxV k' c' s' t' (Val.encs ys) ks') []) else some (.ret, r73_R (.d (.bool false)) [])
theorem sk_end (hlen : ks.length = ks'.length) : SkLoop k c s t xs ks k' c' s' t' ys ks' ks.length := by
  have h1 : ((ks.length : Int) < (ks.length : Int)) = False := eq_false (by omega)
  unfold SkLoop
  rw [r73_B0_eq, List.drop_of_length_le (Nat.le_refl _)]
  simp (disch := omega) only [go_sem, and_self, and_true, true_and, false_and, and_false, Nat.reduceAdd, Nat.reduceMul, Nat.reduceSub, Nat.reduceLeDiff, Nat.reduceLT, Nat.reduceGT, Nat.reduceEqDiff, Nat.reduceBEq, Int.reduceNeg, Int.reduceEq, Int.reduceLT, Int.reduceLE, Int.reduceBEq, Int.reduceToNat, Int.toNat_natCast, Int.natCast_zero, r73_C0, h1, List.length_map, samK]
theorem sk_step (hlen : ks.length = ks'.length) (hl : ks.length ≤ maxLen) (i : Nat) (hi : i < ks.length) (ih : SkLoop k c s t xs ks k' c' s' t' ys ks' (i + 1)) : SkLoop k c s t xs ks k' c' s' t' ys ks' i := by
  have hmx : maxLen = 9223372036854775807 := by decide
  have h1 : ((i : Int) < (ks.length : Int)) = True := eq_true (by omega)
  have i0 : (0 ≤ (i : Int)) = True := eq_true (by omega)
  have va : (ks.map D.str)[i]? = some (.str ks[i]) := by simp [hi]
  have vb : (ks'.map D.str)[i]? = some (.str (ks'[i]'(by omega))) := by simp [show i < ks'.length by omega]
  have e1 : (i : Int) + 1 = ((i + 1 : Nat) : Int) := rfl
  unfold SkLoop at ih ⊢
  rw [r73_B0_eq, List.drop_eq_getElem_cons hi, List.drop_eq_getElem_cons (show i < ks'.length by omega)]
  simp only [samK]
  rcases Bool.eq_false_or_eq_true (ks[i].toList == (ks'[i]'(by omega)).toList) with g | g
  · simp (disch := omega) only [go_sem, and_self, and_true, true_and, false_and, and_false, Nat.reduceAdd, Nat.reduceMul, Nat.reduceSub, Nat.reduceLeDiff, Nat.reduceLT, Nat.reduceGT, Nat.reduceEqDiff, Nat.reduceBEq, Int.reduceNeg, Int.reduceEq, Int.reduceLT, Int.reduceLE, Int.reduceBEq, Int.reduceToNat, Int.toNat_natCast, Int.natCast_zero, r73_C0, h1, i0, va, vb, g, strD_neq, List.length_map, e1, w64, Bool.true_and]
    exact ih
  · simp (disch := omega) only [go_sem, and_self, and_true, true_and, false_and, and_false, Nat.reduceAdd, Nat.reduceMul, Nat.reduceSub, Nat.reduceLeDiff, Nat.reduceLT, Nat.reduceGT, Nat.reduceEqDiff, Nat.reduceBEq, Int.reduceNeg, Int.reduceEq, Int.reduceLT, Int.reduceLE, Int.reduceBEq, Int.reduceToNat, Int.toNat_natCast, Int.natCast_zero, r73_C0, h1, i0, va, vb, g, strD_neq, List.length_map, e1, w64, Bool.false_and]
theorem sk_loop (hlen : ks.length = ks'.length) (hl : ks.length ≤ maxLen) : ∀ (d i : Nat), i + d = ks.length → SkLoop k c s t xs ks k' c' s' t' ys ks' i
  | 0, i, h => by obtain rfl : i = ks.length := by omega
                  exact sk_end k c s t xs ks k' c' s' t' ys ks' hlen
  | d + 1, i, h => sk_step k c s t xs ks k' c' s' t' ys ks' hlen hl i (by omega) (sk_loop hlen hl d (i + 1) (by omega))

def SiLoop (i : Nat) : Prop :=
  V (F tab) r73_B1 (r73_S1 (bxV k c s t (Val.encs xs) ks) (bxV k' c' s' t' (Val.encs ys) ks') (.d (iv i)) []) =
    if samVs (xs.drop i) (ys.drop i) then some (.norm, r73_E1 []) else some (.ret, r73_R (.d (.bool false)) [])
theorem si_end (hlen : xs.length = ys.length) : SiLoop k c s t xs ks k' c' s' t' ys ks' xs.length := by
  have h1 : ((xs.length : Int) < (xs.length : Int)) = False := eq_false (by omega)
  unfold SiLoop
  rw [r73_B1_eq, List.drop_of_length_le (Nat.le_refl _)]
  simp (disch := omega) only [go_sem, and_self, and_true, true_and, false_and, and_false, Nat.reduceAdd, Nat.reduceMul, Nat.reduceSub, Nat.reduceLeDiff, Nat.reduceLT, Nat.reduceGT, Nat.reduceEqDiff, Nat.reduceBEq, Int.reduceNeg, Int.reduceEq, Int.reduceLT, Int.reduceLE, Int.reduceBEq, Int.reduceToNat, Int.toNat_natCast, Int.natCast_zero, r73_C1, h1, encs_len, samVs]
theorem si_step (hlen : xs.length = ys.length) (hl : xs.length ≤ maxLen) (i : Nat) (hi : i < xs.length) (hs : SamIs xs[i] (ys[i]'(by omega))) (ih : SiLoop k c s t xs ks k' c' s' t' ys ks' (i + 1)) : SiLoop k c s t xs ks k' c' s' t' ys ks' i := by
  have hmx : maxLen = 9223372036854775807 := by decide
  have h1 : ((i : Int) < (xs.length : Int)) = True := eq_true (by omega)
  have i0 : (0 ≤ (i : Int)) = True := eq_true (by omega)
  have va : (Val.encs xs)[i]? = some xs[i].enc := by rw [encs_get]; simp [hi]
  have vb : (Val.encs ys)[i]? = some (ys[i]'(by omega)).enc := by rw [encs_get]; simp [show i < ys.length by omega]
  have e1 : (i : Int) + 1 = ((i + 1 : Nat) : Int) := rfl
  unfold SamIs at hs
  unfold SiLoop at ih ⊢
  rw [r73_B1_eq, List.drop_eq_getElem_cons hi, List.drop_eq_getElem_cons (show i < ys.length by omega)]
  simp only [samVs]
  rcases Bool.eq_false_or_eq_true (samV xs[i] (ys[i]'(by omega))) with g | g
  · rw [g] at hs
    simp (disch := omega) only [go_sem, and_self, and_true, true_and, false_and, and_false, Nat.reduceAdd, Nat.reduceMul, Nat.reduceSub, Nat.reduceLeDiff, Nat.reduceLT, Nat.reduceGT, Nat.reduceEqDiff, Nat.reduceBEq, Int.reduceNeg, Int.reduceEq, Int.reduceLT, Int.reduceLE, Int.reduceBEq, Int.reduceToNat, Int.toNat_natCast, Int.natCast_zero, r73_C1, h1, i0, va, vb, hs, g, enc_w, enc_a, encs_len, e1, w64, Bool.true_and]
    exact ih
  · rw [g] at hs
    simp (disch := omega) only [go_sem, and_self, and_true, true_and, false_and, and_false, Nat.reduceAdd, Nat.reduceMul, Nat.reduceSub, Nat.reduceLeDiff, Nat.reduceLT, Nat.reduceGT, Nat.reduceEqDiff, Nat.reduceBEq, Int.reduceNeg, Int.reduceEq, Int.reduceLT, Int.reduceLE, Int.reduceBEq, Int.reduceToNat, Int.toNat_natCast, Int.natCast_zero, r73_C1, h1, i0, va, vb, hs, g, enc_w, enc_a, encs_len, e1, w64, Bool.false_and]
theorem si_loop (hlen : xs.length = ys.length) (hl : xs.length ≤ maxLen) (hs : ∀ (i : Nat) (x y : Val), xs[i]? = some x → ys[i]? = some y → SamIs x y) : ∀ (d i : Nat), i + d = xs.length → SiLoop k c s t xs ks k' c' s' t' ys ks' i
  | 0, i, h => by obtain rfl : i = xs.length := by omega
                  exact si_end k c s t xs ks k' c' s' t' ys ks' hlen
  | d + 1, i, h => si_step k c s t xs ks k' c' s' t' ys ks' hlen hl i (by omega) (hs i _ _ (List.getElem?_eq_getElem (by omega)) (List.getElem?_eq_getElem (by omega))) (si_loop hlen hl hs d (i + 1) (by omega))

set_option maxHeartbeats 1000000 in
theorem sam_core (h1 : xs.length ≤ maxLen) (h2 : ks.length ≤ maxLen) (hs : ∀ (i : Nat) (x y : Val), xs[i]? = some x → ys[i]? = some y → SamIs x y) : SamIs (.mk k c s t xs ks) (.mk k' c' s' t' ys ks') := by
  intro hp
  refine f73 rfl ?_
  have he := eqD_num c s c' s'
  have x1 : ((xs.length : Int) != (ys.length : Int)) = !decide (xs.length = ys.length) := by by_cases h : xs.length = ys.length <;> simp [h]; omega
  have x2 : ((ks.length : Int) != (ks'.length : Int)) = !decide (ks.length = ks'.length) := by by_cases h : ks.length = ks'.length <;> simp [h]; omega
  have x0 : (k != k') = !(k == k') := rfl
  simp only [Val.enc, samV]
  rcases Bool.eq_false_or_eq_true (k == k') with g0 | g0
  · rcases Bool.eq_false_or_eq_true (c == c' && s == s') with g1 | g1
    · rcases Bool.eq_false_or_eq_true (t.toList == t'.toList) with g2 | g2
      · rcases Bool.eq_false_or_eq_true (decide (xs.length = ys.length)) with g3 | g3
        · rcases Bool.eq_false_or_eq_true (decide (ks.length = ks'.length)) with g4 | g4
          · have hlen := of_decide_eq_true g3
            have hlek := of_decide_eq_true g4
            have hk := sk_loop k c s t xs ks k' c' s' t' ys ks' hlek h2 ks.length 0 (by omega)
            have hi := si_loop k c s t xs ks k' c' s' t' ys ks' hlen h1 hs xs.length 0 (by omega)
            unfold SkLoop at hk
            unfold SiLoop at hi
            rw [List.drop_zero, List.drop_zero] at hk hi
            rw [g0, g1, g2, g3, g4]
            simp (disch := omega) only [go_sem, and_self, and_true, true_and, false_and, and_false, Nat.reduceAdd, Nat.reduceMul, Nat.reduceSub, Nat.reduceLeDiff, Nat.reduceLT, Nat.reduceGT, Nat.reduceEqDiff, Nat.reduceBEq, Int.reduceNeg, Int.reduceEq, Int.reduceLT, Int.reduceLE, Int.reduceBEq, Int.reduceToNat, Int.toNat_natCast, Int.natCast_zero, r73_T, r73, x0, x1, x2, g0, he, g1, strD_neq, g2, encs_len, g3, List.length_map, g4, Bool.true_and]
            rw [r73_B0_n]
            erw [hk]
            rcases Bool.eq_false_or_eq_true (samK ks ks') with g5 | g5
            · rw [g5]
              simp (disch := omega) only [go_sem, and_self, and_true, true_and, false_and, and_false, Nat.reduceAdd, Nat.reduceMul, Nat.reduceSub, Nat.reduceLeDiff, Nat.reduceLT, Nat.reduceGT, Nat.reduceEqDiff, Nat.reduceBEq, Int.reduceNeg, Int.reduceEq, Int.reduceLT, Int.reduceLE, Int.reduceBEq, Int.reduceToNat, Int.toNat_natCast, Int.natCast_zero]
              rw [r73_B1_n]
              erw [hi]
              rcases Bool.eq_false_or_eq_true (samVs xs ys) with g6 | g6 <;> rw [g6] <;> simp only [go_sem, and_self, and_true, true_and, false_and, and_false, Nat.reduceAdd, Nat.reduceMul, Nat.reduceSub, Nat.reduceLeDiff, Nat.reduceLT, Nat.reduceGT, Nat.reduceEqDiff, Nat.reduceBEq, Int.reduceNeg, Int.reduceEq, Int.reduceLT, Int.reduceLE, Int.reduceBEq, Int.reduceToNat, Int.toNat_natCast, Int.natCast_zero]
            · rw [g5]
              simp (disch := omega) only [go_sem, and_self, and_true, true_and, false_and, and_false, Nat.reduceAdd, Nat.reduceMul, Nat.reduceSub, Nat.reduceLeDiff, Nat.reduceLT, Nat.reduceGT, Nat.reduceEqDiff, Nat.reduceBEq, Int.reduceNeg, Int.reduceEq, Int.reduceLT, Int.reduceLE, Int.reduceBEq, Int.reduceToNat, Int.toNat_natCast, Int.natCast_zero, Bool.false_and]
          · rw [g0, g1, g2, g3, g4]
            simp (disch := omega) only [go_sem, and_self, and_true, true_and, false_and, and_false, Nat.reduceAdd, Nat.reduceMul, Nat.reduceSub, Nat.reduceLeDiff, Nat.reduceLT, Nat.reduceGT, Nat.reduceEqDiff, Nat.reduceBEq, Int.reduceNeg, Int.reduceEq, Int.reduceLT, Int.reduceLE, Int.reduceBEq, Int.reduceToNat, Int.toNat_natCast, Int.natCast_zero, r73_T, r73, x0, x1, x2, g0, he, g1, strD_neq, g2, encs_len, g3, List.length_map, g4, Bool.true_and, Bool.false_and]
        · rw [g0, g1, g2, g3]
          simp (disch := omega) only [go_sem, and_self, and_true, true_and, false_and, and_false, Nat.reduceAdd, Nat.reduceMul, Nat.reduceSub, Nat.reduceLeDiff, Nat.reduceLT, Nat.reduceGT, Nat.reduceEqDiff, Nat.reduceBEq, Int.reduceNeg, Int.reduceEq, Int.reduceLT, Int.reduceLE, Int.reduceBEq, Int.reduceToNat, Int.toNat_natCast, Int.natCast_zero, r73_T, r73, x0, x1, g0, he, g1, strD_neq, g2, encs_len, g3, Bool.true_and, Bool.false_and]
      · rw [g0, g1, g2]
        simp (disch := omega) only [go_sem, and_self, and_true, true_and, false_and, and_false, Nat.reduceAdd, Nat.reduceMul, Nat.reduceSub, Nat.reduceLeDiff, Nat.reduceLT, Nat.reduceGT, Nat.reduceEqDiff, Nat.reduceBEq, Int.reduceNeg, Int.reduceEq, Int.reduceLT, Int.reduceLE, Int.reduceBEq, Int.reduceToNat, Int.toNat_natCast, Int.natCast_zero, r73_T, r73, x0, g0, he, g1, strD_neq, g2, Bool.true_and, Bool.false_and]
    · rw [g0, g1]
      simp (disch := omega) only [go_sem, and_self, and_true, true_and, false_and, and_false, Nat.reduceAdd, Nat.reduceMul, Nat.reduceSub, Nat.reduceLeDiff, Nat.reduceLT, Nat.reduceGT, Nat.reduceEqDiff, Nat.reduceBEq, Int.reduceNeg, Int.reduceEq, Int.reduceLT, Int.reduceLE, Int.reduceBEq, Int.reduceToNat, Int.toNat_natCast, Int.natCast_zero, r73_T, r73, x0, g0, he, g1, Bool.true_and, Bool.false_and]
  · rw [g0]
    simp (disch := omega) only [go_sem, and_self, and_true, true_and, false_and, and_false, Nat.reduceAdd, Nat.reduceMul, Nat.reduceSub, Nat.reduceLeDiff, Nat.reduceLT, Nat.reduceGT, Nat.reduceEqDiff, Nat.reduceBEq, Int.reduceNeg, Int.reduceEq, Int.reduceLT, Int.reduceLE, Int.reduceBEq, Int.reduceToNat, Int.toNat_natCast, Int.natCast_zero, r73_T, r73, x0, g0, Bool.false_and]
end

theorem sam_ok : ∀ (x y : Val), x.ok → SamIs x y
  | .mk k c s t xs ks, .mk k' c' s' t' ys ks', hx => by
    simp only [Val.ok] at hx
    refine sam_core k c s t xs ks k' c' s' t' ys ks' hx.2.2.2.2.1 hx.2.2.2.2.2.1 ?_
    intro i x y hxi _
    have hm := List.mem_of_getElem? hxi
    exact sam_ok x y (oks_mem hx.2.2.2.2.2.2.2 hm)
end Go.Pe.T

namespace Go.Pe.T
/-! ### each once -/
def newB (l : List Val) : Nat → Bool
  | 0 => true
  | j + 1 => match l[j + 1]?, l[j]? with
    | some x, some y => !(cmpC x y == 0)
    | _, _ => true
/-- of the first ones those that are new -/
def onceT (l : List Val) : Nat → List Val
  | 0 => []
  | j + 1 => if newB l j then onceT l j ++ l[j]?.toList else onceT l j
def onceV (l : List Val) : List Val := onceT l l.length

theorem eqf_ok (x y : Val) (hx : x.ok) (hy : y.ok) (hp : List Ent) : F tab 84 [.d x.enc, .d y.enc] hp = some (.ret (.d (.bool (cmpC x y == 0))) hp) := by
  have h := ocmp_ok x y hx hy
  refine f84 rfl ?_
  unfold cmpC
  obtain ⟨k, c, s, t, xs, ks, ex⟩ := enc_as x
  obtain ⟨k', c', s', t', ys, ks', ey⟩ := enc_as y
  rw [ex, ey] at h ⊢
  simp (disch := omega) only [go_sem, and_self, and_true, true_and, false_and, and_false, Nat.reduceAdd, Nat.reduceMul, Nat.reduceSub, Nat.reduceLeDiff, Nat.reduceLT, Nat.reduceGT, Nat.reduceEqDiff, Nat.reduceBEq, Int.reduceNeg, Int.reduceEq, Int.reduceLT, Int.reduceLE, Int.reduceBEq, Int.reduceToNat, Int.toNat_natCast, Int.natCast_zero, r84_T, r84, h]

/-- the row behind the first doubled one: the first K are right -/
def CuIs (id : Nat) (hp : List Ent) (l m : List Val) (k0 k q : Nat) : Prop :=
  ∃ M K, M.length = l.length ∧ Val.oks M ∧ 0 < K ∧ K < l.length ∧ M.take K = onceV l ∧
    V (F tab) r83_B1 (r83_S1 (.rowh id 0 l.length) (.fn 84 []) (.d (iv k)) (.rowh id (0 + k0 * 6) (l.length - k0)) (.d (iv (q + 1 : Nat))) (hp.set id (.box (flatD (Val.encs m))))) =
      some (.norm, r83_E1 (.rowh id 0 l.length) (.d (iv K)) (hp.set id (.box (flatD (Val.encs M)))))

theorem cu_end (id : Nat) (hp : List Ent) (l m : List Val) (hm : m.length = l.length) (hkm : Val.oks m) (k0 k q : Nat) (hj : k0 + q + 1 = l.length) (hk : 0 < k) (hk2 : k < l.length) (ht : m.take k = onceV l) : CuIs id hp l m k0 k q := by
  refine ⟨m, k, hm, hkm, hk, hk2, ht, ?_⟩
  have h1 : (((q + 1 : Nat) : Int) < ((l.length - k0 : Nat) : Int)) = False := eq_false (by omega)
  rw [r83_B1_eq]
  simp (disch := omega) only [go_sem, and_self, and_true, true_and, false_and, and_false, Nat.reduceAdd, Nat.reduceMul, Nat.reduceSub, Nat.reduceLeDiff, Nat.reduceLT, Nat.reduceGT, Nat.reduceEqDiff, Nat.reduceBEq, Int.reduceNeg, Int.reduceEq, Int.reduceLT, Int.reduceLE, Int.reduceBEq, Int.reduceToNat, Int.toNat_natCast, Int.natCast_zero, r83_C1, h1]

set_option maxHeartbeats 1000000 in
theorem cu_step (id : Nat) (hp : List Ent) (hid : id < hp.length) (l m : List Val) (hl : l.length ≤ 1000) (hm : m.length = l.length) (hkm : Val.oks m) (k0 k q : Nat) (hj : k0 + q + 1 < l.length) (hk : 0 < k) (hk2 : k ≤ k0 + q) (x y : Val)
    (hx : m[k0 + q + 1]? = some x) (hy : m[k0 + q]? = some y)
    (ih1 : ¬ (cmpC x y == 0) = true → CuIs id hp l (m.set k x) k0 (k + 1) (q + 1)) (ih2 : (cmpC x y == 0) = true → CuIs id hp l m k0 k (q + 1)) : CuIs id hp l m k0 k q := by
  have h1 : (((q + 1 : Nat) : Int) < ((l.length - k0 : Nat) : Int)) = True := eq_true (by omega)
  have h2 : (0 ≤ ((q + 1 : Nat) : Int)) = True := eq_true (by omega)
  have h4 : (0 ≤ (q : Int)) = True := eq_true (by omega)
  have h5 : ((q : Int) < ((l.length - k0 : Nat) : Int)) = True := eq_true (by omega)
  have h6 : ((q + 1 : Nat) : Int) - 1 = (q : Int) := by omega
  have h7 : ((q + 1 : Nat) : Int) + 1 = ((q + 1 + 1 : Nat) : Int) := rfl
  have k1 : (0 ≤ (k : Int)) = True := eq_true (by omega)
  have k2 : ((k : Int) < (l.length : Int)) = True := eq_true (by omega)
  have k3 : (k : Int) + 1 = ((k + 1 : Nat) : Int) := rfl
  obtain ⟨b1, b2, b3⟩ := boxF m
  have r1 := b2 (k0 + q + 1) x hx
  have r2 := b2 (k0 + q) y hy
  rw [show 0 + (k0 + q + 1) * 6 = 0 + k0 * 6 + (q + 1) * 6 by omega] at r1
  rw [show 0 + (k0 + q) * 6 = 0 + k0 * 6 + q * 6 by omega] at r2
  have g1 : (0 + k0 * 6 + (q + 1) * 6 + 6 ≤ (flatD (Val.encs m)).length) = True := eq_true (by rw [b1]; omega)
  have g2 : (0 + k0 * 6 + q * 6 + 6 ≤ (flatD (Val.encs m)).length) = True := eq_true (by rw [b1]; omega)
  have g3 : (0 + k * 6 + 6 ≤ (flatD (Val.encs m)).length) = True := eq_true (by rw [b1]; omega)
  have s1 := b3 k x (by omega)
  have lx : (x.enc.cells.length = 6) = True := eq_true (enc_cells x)
  have hset : ∀ e : Ent, (hp.set id e)[id]? = some e := fun e => List.getElem?_set_self hid
  have hss : ∀ e e' : Ent, (hp.set id e).set id e' = hp.set id e' := fun e e' => List.set_set ..
  have hf := eqf_ok x y (oks_mem hkm (List.mem_of_getElem? hx)) (oks_mem hkm (List.mem_of_getElem? hy))
  rw [← enc_agg x, ← enc_agg y] at hf
  rcases Bool.eq_false_or_eq_true (cmpC x y == 0) with g | g
  · obtain ⟨M, K, a1, a2, a3, a4, a5, ih⟩ := ih2 g
    refine ⟨M, K, a1, a2, a3, a4, a5, ?_⟩
    rw [g] at hf
    generalize x.enc.cells = X at *
    generalize y.enc.cells = Y at *
    rw [r83_B1_eq]
    simp (maxSteps := 1000000) (disch := omega) only [go_sem, and_self, and_true, true_and, false_and, and_false, Nat.reduceAdd, Nat.reduceMul, Nat.reduceSub, Nat.reduceLeDiff, Nat.reduceLT, Nat.reduceGT, Nat.reduceEqDiff, Nat.reduceBEq, Int.reduceNeg, Int.reduceEq, Int.reduceLT, Int.reduceLE, Int.reduceBEq, Int.reduceToNat, Int.toNat_natCast, Int.natCast_zero, r83_C1, h1, h2, h4, h5, h6, h7, hset, r1, r2, g1, g2, hf, w64]
    exact ih
  · obtain ⟨M, K, a1, a2, a3, a4, a5, ih⟩ := ih1 (by simp [g])
    refine ⟨M, K, a1, a2, a3, a4, a5, ?_⟩
    rw [g] at hf
    generalize x.enc.cells = X at *
    generalize y.enc.cells = Y at *
    rw [r83_B1_eq]
    simp (maxSteps := 1000000) (disch := omega) only [go_sem, and_self, and_true, true_and, false_and, and_false, Nat.reduceAdd, Nat.reduceMul, Nat.reduceSub, Nat.reduceLeDiff, Nat.reduceLT, Nat.reduceGT, Nat.reduceEqDiff, Nat.reduceBEq, Int.reduceNeg, Int.reduceEq, Int.reduceLT, Int.reduceLE, Int.reduceBEq, Int.reduceToNat, Int.toNat_natCast, Int.natCast_zero, r83_C1, h1, h2, h4, h5, h6, h7, k1, k2, k3, hset, hss, r1, r2, g1, g2, g3, s1, lx, hf, w64]
    exact ih

theorem cu_loop (id : Nat) (hp : List Ent) (hid : id < hp.length) (l : List Val) (hl : l.length ≤ 1000) (hkl : Val.oks l) (k0 : Nat) : ∀ (d q k : Nat) (m : List Val), k0 + q + 1 + d = l.length → m.length = l.length → Val.oks m → 0 < k → k ≤ k0 + q →
    m.take k = onceT l (k0 + q + 1) → (∀ i, k0 + q ≤ i → m[i]? = l[i]?) → CuIs id hp l m k0 k q
  | 0, q, k, m, hd, hm, hkm, hk, hk2, ht, hr => cu_end id hp l m hm hkm k0 k q (by omega) hk (by omega) (by rw [ht]; unfold onceV; rw [← hd])
  | d + 1, q, k, m, hd, hm, hkm, hk, hk2, ht, hr => by
    have hx : m[k0 + q + 1]? = some m[k0 + q + 1] := List.getElem?_eq_getElem (by omega)
    have hy : m[k0 + q]? = some m[k0 + q] := List.getElem?_eq_getElem (by omega)
    generalize m[k0 + q + 1] = x at hx
    generalize m[k0 + q] = y at hy
    have hxl : l[k0 + q + 1]? = some x := by rw [← hr _ (by omega)]; exact hx
    have hyl : l[k0 + q]? = some y := by rw [← hr _ (by omega)]; exact hy
    have hxo : x.ok := oks_mem hkm (List.mem_of_getElem? hx)
    refine cu_step id hp hid l m hl hm hkm k0 k q (by omega) hk hk2 x y hx hy (fun g => ?_) (fun g => ?_)
    · refine cu_loop id hp hid l hl hkl k0 d (q + 1) (k + 1) (m.set k x) (by omega) (by simpa using hm) ?_ (by omega) (by omega) ?_ ?_
      · exact oks_iff.2 fun v hv => (List.mem_or_eq_of_mem_set hv).elim (fun h => oks_iff.1 hkm v h) (fun h => h ▸ hxo)
      · have e : onceT l (k0 + (q + 1) + 1) = onceT l (k0 + q + 1) ++ [x] := by
          show onceT l ((k0 + q + 1) + 1) = _
          rw [onceT]
          have hb : newB l (k0 + q + 1) = true := by
            show newB l ((k0 + q) + 1) = true
            simp only [newB, hxl, hyl]
            simpa using g
          rw [if_pos hb, hxl]; rfl
        rw [e, ← ht, List.take_add_one, List.take_set_of_le (Nat.le_refl _), List.getElem?_set_self (by omega)]
        rfl
      · intro i hi
        rw [List.getElem?_set_ne (by omega)]
        exact hr i (by omega)
    · refine cu_loop id hp hid l hl hkl k0 d (q + 1) k m (by omega) hm hkm hk (by omega) ?_ (fun i hi => hr i (by omega))
      have e : onceT l (k0 + (q + 1) + 1) = onceT l (k0 + q + 1) := by
        show onceT l ((k0 + q + 1) + 1) = _
        rw [onceT]
        have hb : ¬ newB l (k0 + q + 1) = true := by
          show ¬ newB l ((k0 + q) + 1) = true
          simp only [newB, hxl, hyl]
          simpa using g
        rw [if_neg hb]
      rw [e]; exact ht

/-- a row whose first ones are these -/
def Fr1 (e : Ent) (v : List Val) : Prop := (v = [] ∧ e = .gone) ∨ (v ≠ [] ∧ ∃ cs, e = .box cs ∧ cs.take (v.length * 6) = flatD (Val.encs v))

theorem clr_at (id : Nat) (hp : List Ent) (cs : List PV) (zs : List D) (hz : zs.length = 6) (lo len : Nat) (h0 : len ≠ 0) (hle : lo + len * 6 ≤ cs.length) (hid : hp[id]? = some (.box cs)) :
    ∃ cs', cs'.take lo = cs.take lo ∧ ∀ (tm : List PV) (t : Nat), tm.getD t .dead = .rowh id lo len → clrOp ⟨tm, hp⟩ zs (.t t) = some ⟨tm, hp.set id (.box cs')⟩ := by
  have hl : (zeroDs zs len).length = len * 6 := by simp [zeroDs, hz]
  refine ⟨setCells cs lo (zeroDs zs len), ?_, ?_⟩
  · rw [setCells_d _ _ _ (by rw [hl]; exact hle), List.append_assoc, List.take_append_of_le_length (by simp; omega), List.take_take, Nat.min_self]
  · intro tm t ht
    unfold clrOp
    simp only [St.x, ht, if_neg h0, hid, storeIn, hz, hl, decide_true, Bool.true_and]
    rw [if_pos (by simpa using hle)]
    rfl
theorem take_flat (l : List Val) (k : Nat) : (flatD (Val.encs l)).take (k * 6) = flatD (Val.encs (l.take k)) := by
  have e : ∀ (l : List Val) (k : Nat), Val.encs (l.take k) = (Val.encs l).take k := by
    intro l
    induction l with
    | nil => intro k; simp [Val.encs]
    | cons v l ih =>
      intro k
      cases k with
      | zero => simp [Val.encs]
      | succ k => simp [Val.encs, ih]
  have e2 : flatD (Val.encs l) = flatD ((Val.encs l).take k) ++ flatD ((Val.encs l).drop k) := by
    unfold flatD
    rw [← List.map_append, ← List.flatMap_append, List.take_append_drop]
  by_cases hk : k ≤ l.length
  · have hlen : (flatD ((Val.encs l).take k)).length = k * 6 := by
      rw [flatD_len (sz := 6) (fun z hz => (encRow l).wid z (List.mem_of_mem_take hz)), List.length_take, encs_len, Nat.min_eq_left hk]
    rw [e, e2, ← hlen, List.take_left]
  · rw [List.take_of_length_le (l := l) (by omega), List.take_of_length_le]
    rw [flatD_len (encRow l).wid, encs_len]; omega

/-- the first loop: no doubled one from place k on, or the end -/
def CpIs (id : Nat) (hp : List Ent) (l : List Val) (k : Nat) : Prop :=
  (onceV l = l ∧ V (F tab) r83_B0 (r83_S0 (.rowh id 0 l.length) (.fn 84 []) (.d (iv k)) hp) = some (.norm, r83_E0 (.rowh id 0 l.length) hp)) ∨
  ∃ cs, onceV l ≠ [] ∧ cs.take ((onceV l).length * 6) = flatD (Val.encs (onceV l)) ∧
    V (F tab) r83_B0 (r83_S0 (.rowh id 0 l.length) (.fn 84 []) (.d (iv k)) hp) = some (.ret, r83_R (.rowh id 0 (onceV l).length) (hp.set id (.box cs)))

theorem cp_end (id : Nat) (hp : List Ent) (l : List Val) (h : onceV l = l) : CpIs id hp l l.length := by
  refine .inl ⟨h, ?_⟩
  have h1 : ((l.length : Int) < (l.length : Int)) = False := eq_false (by omega)
  rw [r83_B0_eq]
  simp (disch := omega) only [go_sem, and_self, and_true, true_and, false_and, and_false, Nat.reduceAdd, Nat.reduceMul, Nat.reduceSub, Nat.reduceLeDiff, Nat.reduceLT, Nat.reduceGT, Nat.reduceEqDiff, Nat.reduceBEq, Int.reduceNeg, Int.reduceEq, Int.reduceLT, Int.reduceLE, Int.reduceBEq, Int.reduceToNat, Int.toNat_natCast, Int.natCast_zero, r83_C0, h1]

def cpC2 : RCode := r83_K2 ()
theorem cp_hK2 {s : St} : V (F tab) (hold r83_K2) s = V (F tab) cpC2 s := rfl

set_option maxHeartbeats 1000000 in
theorem cp_step (id : Nat) (hp : List Ent) (l : List Val) (hl : l.length ≤ 1000) (hkl : Val.oks l) (m : Nat) (x y : Val) (hx : l[m + 1]? = some x) (hy : l[m]? = some y) (h : hp[id]? = some (.box (flatD (Val.encs l))))
    (ih1 : ¬ (cmpC x y == 0) = true → CpIs id hp l (m + 2)) (ih2 : (cmpC x y == 0) = true → CuIs id hp l l (m + 1) (m + 1) 0) : CpIs id hp l (m + 1) := by
  have hm : m + 1 < l.length := (List.getElem?_eq_some_iff.1 hx).1
  have hid : id < hp.length := (List.getElem?_eq_some_iff.1 h).1
  have h1 : (((m + 1 : Nat) : Int) < (l.length : Int)) = True := eq_true (by omega)
  have h2 : (0 ≤ ((m + 1 : Nat) : Int)) = True := eq_true (by omega)
  have h3 : ((m + 1 : Nat) : Int) + 1 = ((m + 2 : Nat) : Int) := rfl
  have h4 : (0 ≤ (m : Int)) = True := eq_true (by omega)
  have h5 : ((m : Int) < (l.length : Int)) = True := eq_true (by omega)
  have h6 : ((m + 1 : Nat) : Int) - 1 = (m : Int) := by omega
  have t1 : ((m + 1 : Nat) : Int).toNat = m + 1 := rfl
  have t2 : ((l.length : Nat) : Int).toNat = l.length := rfl
  have bo : (((m + 1 : Nat) : Int) ≤ (l.length : Int)) = True := eq_true (by omega)
  have bl : ((l.length : Int) ≤ (l.length : Int)) = True := eq_true (by omega)
  obtain ⟨b1, b2, b3⟩ := boxF l
  have r1 := b2 (m + 1) x hx
  have r2 := b2 m y hy
  have g1 : (0 + (m + 1) * 6 + 6 ≤ (flatD (Val.encs l)).length) = True := eq_true (by rw [b1]; omega)
  have g2 : (0 + m * 6 + 6 ≤ (flatD (Val.encs l)).length) = True := eq_true (by rw [b1]; omega)
  have hf := eqf_ok x y (oks_mem hkl (List.mem_of_getElem? hx)) (oks_mem hkl (List.mem_of_getElem? hy))
  rw [← enc_agg x, ← enc_agg y] at hf
  have one : ((1 : Nat) : Int) = 1 := rfl
  rcases Bool.eq_false_or_eq_true (cmpC x y == 0) with g | g
  · obtain ⟨M, K, a1, a2, a3, a4, a5, ih⟩ := ih2 g
    rw [g] at hf
    have mlen : (onceV l).length = K := by rw [← a5, List.length_take]; omega
    obtain ⟨c1, _, _⟩ := boxF M
    obtain ⟨cs', d1, d2⟩ := clr_at id (hp.set id (.box (flatD (Val.encs M)))) (flatD (Val.encs M)) [.int .i64 0, .int .i64 0, .int .i64 0, .str ⟨#[]⟩, .sl [], .sl []] rfl (0 + K * 6) (l.length - K) (by omega) (by rw [c1]; omega) (List.getElem?_set_self hid)
    have hss : ∀ e e' : Ent, (hp.set id e).set id e' = hp.set id e' := fun e e' => List.set_set ..
    rw [hss] at d2
    rw [Nat.zero_add] at d1 d2
    rw [take_flat, a5] at d1
    refine .inr ⟨cs', ?_, by rw [mlen]; exact d1, ?_⟩
    · intro e; rw [e] at mlen; simp at mlen; omega
    have u1 : ((K : Nat) : Int).toNat = K := rfl
    have bo2 : (((K : Nat) : Int) ≤ (l.length : Int)) = True := eq_true (by omega)
    have bo3 : (0 ≤ ((K : Nat) : Int)) = True := eq_true (by omega)
    have hbox : hp.set id (.box (flatD (Val.encs l))) = hp := hp_set h
    rw [hbox] at ih
    rw [mlen]
    generalize x.enc.cells = X at *
    generalize y.enc.cells = Y at *
    rw [r83_B0_eq]
    simp (maxSteps := 1000000) (disch := omega) only [go_sem, and_self, and_true, true_and, false_and, and_false, Nat.reduceAdd, Nat.reduceMul, Nat.reduceSub, Nat.reduceLeDiff, Nat.reduceLT, Nat.reduceGT, Nat.reduceEqDiff, Nat.reduceBEq, Int.reduceNeg, Int.reduceEq, Int.reduceLT, Int.reduceLE, Int.reduceBEq, Int.reduceToNat, Int.toNat_natCast, Int.natCast_zero, r83_C0, h1, h2, h4, h5, h6, h, r1, r2, g1, g2, hf, w64, bo, bl, t1, t2, decide_true]
    rw [r83_B1_n]
    erw [ih]
    simp (maxSteps := 1000000) (disch := omega) only [go_sem, and_self, and_true, true_and, false_and, and_false, Nat.reduceAdd, Nat.reduceMul, Nat.reduceSub, Nat.reduceLeDiff, Nat.reduceLT, Nat.reduceGT, Nat.reduceEqDiff, Nat.reduceBEq, Int.reduceNeg, Int.reduceEq, Int.reduceLT, Int.reduceLE, Int.reduceBEq, Int.reduceToNat, Int.toNat_natCast, Int.natCast_zero, bo2, bo3, bl, u1, t2, Nat.zero_add, decide_true]
    rw [d2 _ _ rfl]
    simp (maxSteps := 1000000) (disch := omega) only [go_sem, and_self, and_true, true_and, false_and, and_false, Nat.reduceAdd, Nat.reduceMul, Nat.reduceSub, Nat.reduceLeDiff, Nat.reduceLT, Nat.reduceGT, Nat.reduceEqDiff, Nat.reduceBEq, Int.reduceNeg, Int.reduceEq, Int.reduceLT, Int.reduceLE, Int.reduceBEq, Int.reduceToNat, Int.toNat_natCast, Int.natCast_zero, bo2, bo3, u1, Nat.zero_add, Nat.zero_mul, Nat.sub_zero, decide_true]
  · rw [g] at hf
    have ih := ih1 (by simp [g])
    generalize x.enc.cells = X at *
    generalize y.enc.cells = Y at *
    unfold CpIs at ih ⊢
    rw [r83_B0_eq]
    simp (maxSteps := 1000000) (disch := omega) only [go_sem, and_self, and_true, true_and, false_and, and_false, Nat.reduceAdd, Nat.reduceMul, Nat.reduceSub, Nat.reduceLeDiff, Nat.reduceLT, Nat.reduceGT, Nat.reduceEqDiff, Nat.reduceBEq, Int.reduceNeg, Int.reduceEq, Int.reduceLT, Int.reduceLE, Int.reduceBEq, Int.reduceToNat, Int.toNat_natCast, Int.natCast_zero, r83_C0, h1, h2, h3, h4, h5, h6, h, r1, r2, g1, g2, hf, w64]
    exact ih

theorem onceT_len_lt (l : List Val) : ∀ j, j ≤ l.length → (∀ i, i < j → newB l i = true) → onceT l j = l.take j
  | 0, _, _ => by simp [onceT]
  | j + 1, h, hb => by
    rw [onceT, if_pos (hb j (by omega)), onceT_len_lt l j (by omega) (fun i hi => hb i (by omega)), List.take_add_one]

theorem cp_loop (id : Nat) (hp : List Ent) (l : List Val) (hl : l.length ≤ 1000) (hkl : Val.oks l) (h : hp[id]? = some (.box (flatD (Val.encs l)))) : ∀ (d m : Nat), m + 1 + d = l.length → (∀ i, i < m + 1 → newB l i = true) → CpIs id hp l (m + 1)
  | 0, m, hd, hb => by
    have e : m + 1 = l.length := by omega
    rw [e]
    refine cp_end id hp l ?_
    unfold onceV
    rw [← e, onceT_len_lt l (m + 1) (by omega) hb, List.take_of_length_le (by omega)]
  | d + 1, m, hd, hb => by
    have hid : id < hp.length := (List.getElem?_eq_some_iff.1 h).1
    have hx : l[m + 1]? = some l[m + 1] := List.getElem?_eq_getElem (by omega)
    have hy : l[m]? = some l[m] := List.getElem?_eq_getElem (by omega)
    generalize l[m + 1] = x at hx
    generalize l[m] = y at hy
    refine cp_step id hp l hl hkl m x y hx hy h (fun g => ?_) (fun g => ?_)
    · refine cp_loop id hp l hl hkl h d (m + 1) (by omega) fun i hi => ?_
      by_cases e : i = m + 1
      · subst e; simp only [newB, hx, hy]; simpa using g
      · exact hb i (by omega)
    · refine cu_loop id hp hid l hl hkl (m + 1) d 0 (m + 1) l (by omega) rfl hkl (by omega) (by omega) ?_ (fun i hi => rfl)
      have e : onceT l (m + 1 + 0 + 1) = onceT l (m + 1) := by
        show onceT l ((m + 1) + 1) = _
        rw [onceT, if_neg]
        simp only [newB, hx, hy]
        simpa using g
      rw [e, onceT_len_lt l (m + 1) (by omega) hb]

theorem compact_ok (id : Nat) (hp : List Ent) (l : List Val) (hl : l.length ≤ 1000) (hkl : Val.oks l) (h : hp[id]? = some (rowEnt (Val.encs l))) :
    ∃ e, Fr1 e (onceV l) ∧ F tab 83 [.rowh id 0 l.length, .fn 84 []] hp = some (.ret (.rowh id 0 (onceV l).length) (hp.set id e)) := by
  by_cases h2 : l.length < 2
  · have h2' : ((l.length : Int) < 2) = True := eq_true (by omega)
    refine ⟨rowEnt (Val.encs l), ?_, ?_⟩
    · match l, h2 with
      | [], _ => exact .inl ⟨rfl, rfl⟩
      | [v], _ =>
        refine .inr ⟨by simp [onceV, onceT, newB], _, rowEnt_box (by simp), ?_⟩
        have e : onceV [v] = [v] := by simp [onceV, onceT, newB]
        rw [e, take_flat]; rfl
    · have e : (onceV l).length = l.length := by
        match l, h2 with
        | [], _ => rfl
        | [v], _ => simp [onceV, onceT, newB]
      rw [e, hp_set h]
      refine f83 ?_
      simp (disch := omega) only [go_sem, and_self, and_true, true_and, false_and, and_false, Nat.reduceAdd, Nat.reduceMul, Nat.reduceSub, Nat.reduceLeDiff, Nat.reduceLT, Nat.reduceGT, Nat.reduceEqDiff, Nat.reduceBEq, Int.reduceNeg, Int.reduceEq, Int.reduceLT, Int.reduceLE, Int.reduceBEq, Int.reduceToNat, Int.toNat_natCast, Int.natCast_zero, r83_T, r83, h2']
  · have h2' : ((l.length : Int) < 2) = False := eq_false (by omega)
    have one : ((0 + 1 : Nat) : Int) = 1 := rfl
    rw [rowEnt_box (by omega)] at h
    have hb : ∀ i, i < 0 + 1 → newB l i = true := by
      intro i hi
      obtain rfl : i = 0 := by omega
      rfl
    have hL := cp_loop id hp l hl hkl h (l.length - 1) 0 (by omega) hb
    rcases hL with ⟨a1, a2⟩ | ⟨cs, a0, a1, a2⟩
    · rw [one] at a2
      refine ⟨_, .inr ⟨by rw [a1]; intro e; rw [e] at h2; simp at h2, flatD (Val.encs l), rfl, by rw [a1, take_flat, List.take_length]⟩, ?_⟩
      rw [hp_set h, a1]
      refine f83 ?_
      simp (disch := omega) only [go_sem, and_self, and_true, true_and, false_and, and_false, Nat.reduceAdd, Nat.reduceMul, Nat.reduceSub, Nat.reduceLeDiff, Nat.reduceLT, Nat.reduceGT, Nat.reduceEqDiff, Nat.reduceBEq, Int.reduceNeg, Int.reduceEq, Int.reduceLT, Int.reduceLE, Int.reduceBEq, Int.reduceToNat, Int.toNat_natCast, Int.natCast_zero, r83_T, r83, h2']
      rw [r83_B0_n]
      erw [a2]
      simp (disch := omega) only [go_sem, and_self, and_true, true_and, false_and, and_false, Nat.reduceAdd, Nat.reduceMul, Nat.reduceSub, Nat.reduceLeDiff, Nat.reduceLT, Nat.reduceGT, Nat.reduceEqDiff, Nat.reduceBEq, Int.reduceNeg, Int.reduceEq, Int.reduceLT, Int.reduceLE, Int.reduceBEq, Int.reduceToNat, Int.toNat_natCast, Int.natCast_zero]
    · rw [one] at a2
      refine ⟨.box cs, .inr ⟨a0, cs, rfl, a1⟩, ?_⟩
      refine f83 ?_
      simp (disch := omega) only [go_sem, and_self, and_true, true_and, false_and, and_false, Nat.reduceAdd, Nat.reduceMul, Nat.reduceSub, Nat.reduceLeDiff, Nat.reduceLT, Nat.reduceGT, Nat.reduceEqDiff, Nat.reduceBEq, Int.reduceNeg, Int.reduceEq, Int.reduceLT, Int.reduceLE, Int.reduceBEq, Int.reduceToNat, Int.toNat_natCast, Int.natCast_zero, r83_T, r83, h2']
      rw [r83_B0_n]
      erw [a2]
      simp (disch := omega) only [go_sem, and_self, and_true, true_and, false_and, and_false, Nat.reduceAdd, Nat.reduceMul, Nat.reduceSub, Nat.reduceLeDiff, Nat.reduceLT, Nat.reduceGT, Nat.reduceEqDiff, Nat.reduceBEq, Int.reduceNeg, Int.reduceEq, Int.reduceLT, Int.reduceLE, Int.reduceBEq, Int.reduceToNat, Int.toNat_natCast, Int.natCast_zero]

theorem unique_ok (l : List Val) (hl : l.length ≤ 12) (hk : Val.oks l) (hp : List Ent) :
    ∃ e, Fr1 e (onceV (sortV l)) ∧ F tab 53 [.d (.sl (Val.encs l))] hp = if toldV l then some (.ret (.tup [.rowh hp.length 0 (onceV (sortV l)).length, .d (.bool true)]) (hp ++ [e])) else some (.ret (.tup [.d (.sl []), .d (.bool false)]) hp) := by
  have hs := osort_ok l hl hk hp
  have sl := sortV_len l
  obtain ⟨e, e1, e2⟩ := compact_ok hp.length (hp ++ [rowEnt (Val.encs (sortV l))]) (sortV l) (by omega) (oks_perm (sortV_perm l).symm hk) (by simp)
  rw [push_set, sl] at e2
  refine ⟨e, e1, ?_⟩
  rcases Bool.eq_false_or_eq_true (toldV l) with g | g
  · simp only [g, if_true] at hs ⊢
    refine f53 ?_
    simp (disch := omega) only [go_sem, and_self, and_true, true_and, false_and, and_false, Nat.reduceAdd, Nat.reduceMul, Nat.reduceSub, Nat.reduceLeDiff, Nat.reduceLT, Nat.reduceGT, Nat.reduceEqDiff, Nat.reduceBEq, Int.reduceNeg, Int.reduceEq, Int.reduceLT, Int.reduceLE, Int.reduceBEq, Int.reduceToNat, Int.toNat_natCast, Int.natCast_zero, r53_T, r53, hs, e2, demote_rowh]
  · simp only [g, Bool.false_eq_true, if_false] at hs ⊢
    refine f53 ?_
    simp (disch := omega) only [go_sem, and_self, and_true, true_and, false_and, and_false, Nat.reduceAdd, Nat.reduceMul, Nat.reduceSub, Nat.reduceLeDiff, Nat.reduceLT, Nat.reduceGT, Nat.reduceEqDiff, Nat.reduceBEq, Int.reduceNeg, Int.reduceEq, Int.reduceLT, Int.reduceLE, Int.reduceBEq, Int.reduceToNat, Int.toNat_natCast, Int.natCast_zero, r53_T, r53, hs]

/-- and handed on -/
theorem frz_fr1 {e : Ent} {v : List Val} (h : Fr1 e v) (tm : List PV) (n id : Nat) (hp : List Ent) (hid : hp[id]? = some e) (ht : tm.getD n .dead = .rowh id 0 v.length) : frzOp ⟨tm, hp⟩ 6 true (.t n) = some (.d (.sl (Val.encs v)), ⟨tm, hp.set id .gone⟩) := by
  rcases h with ⟨rfl, rfl⟩ | ⟨hne, cs, rfl, hc⟩
  · rw [hp_set hid]
    unfold frzOp
    simp only [St.x, ht, List.length_nil, if_true]
    rfl
  · have hr := frz_row (s := ⟨[.rowh 0 0 v.length], [rowEnt (Val.encs v)]⟩) (x := .t 0) (id := 0) (encRow v) (by simp [encs_len, St.x]) rfl
    rw [rowEnt_box (List.length_pos_iff.2 hne)] at hr
    have hl : ¬ v.length = 0 := fun e => hne (List.eq_nil_of_length_eq_zero e)
    unfold frzOp at hr ⊢
    simp only [St.x, List.getD_cons_zero, if_neg hl, List.getElem?_cons_zero, List.drop_zero] at hr
    simp only [St.x, ht, if_neg hl, hid, List.drop_zero, hc]
    rw [take_flat, List.take_length] at hr
    revert hr
    generalize optAll (List.map PV.toD (flatD (Val.encs v))) = o
    cases o with
    | none => intro hr; simp at hr
    | some ds =>
      simp only
      split
      · intro hr
        simp only [Option.some.injEq, Prod.mk.injEq] at hr ⊢
        exact ⟨hr.1, trivial⟩
      · intro hr; simp at hr
end Go.Pe.T

namespace Go.Pe.T
/-! ### the document's sorting: insertion, by taking apart -/
def insP (p : List Val) (x : Val) : Nat → Nat
  | 0 => 0
  | a + 1 => match p[a]? with
    | some y => if cmpC y x ≤ 0 then a + 1 else insP p x a
    | none => a + 1
def insR (p : List Val) (x : Val) : List Val := p.take (insP p x p.length) ++ x :: p.drop (insP p x p.length)

theorem insP_le (p : List Val) (x : Val) : ∀ a, insP p x a ≤ a
  | 0 => Nat.le_refl _
  | a + 1 => by
    rw [insP]
    split
    · split
      · exact Nat.le_refl _
      · exact Nat.le_succ_of_le (insP_le p x a)
    · exact Nat.le_refl _
theorem insP_app (p q : List Val) (x : Val) : ∀ a, a ≤ p.length → insP (p ++ q) x a = insP p x a
  | 0, _ => rfl
  | a + 1, h => by
    rw [insP, insP, List.getElem?_append_left (by omega), insP_app p q x a (by omega)]

theorem sink_ins : ∀ (a : Nat) (p s : List Val) (x : Val), p.length = a → sink (p ++ x :: s) a = p.take (insP p x a) ++ x :: (p.drop (insP p x a) ++ s)
  | 0, p, s, x, h => by
    obtain rfl := List.eq_nil_of_length_eq_zero h
    rfl
  | a + 1, p, s, x, h => by
    obtain ⟨p', y, rfl⟩ : ∃ p' y, p = p' ++ [y] := by
      rcases List.eq_nil_or_concat p with e | ⟨p', y, e⟩
      · rw [e] at h; simp at h
      · exact ⟨p', y, by simpa using e⟩
    have hp : p'.length = a := by simpa using h
    have hx : (p' ++ [y] ++ x :: s)[a + 1]? = some x := by
      rw [List.getElem?_append_right (by simp; omega)]
      simp [hp]
    have hy : (p' ++ [y] ++ x :: s)[a]? = some y := by
      rw [List.append_assoc, List.getElem?_append_right (by omega)]
      simp [hp]
    have hy2 : (p' ++ [y])[a]? = some y := by
      rw [List.getElem?_append_right (by omega)]
      simp [hp]
    have hsw := cmpC_swap x y
    rw [sink, hx, hy, insP, hy2]
    simp only
    by_cases hc : cmpC x y < 0
    · rw [if_pos hc, if_neg (by omega)]
      have e : ((p' ++ [y] ++ x :: s).set (a + 1) y).set a x = p' ++ x :: (y :: s) := by
        rw [List.append_assoc, List.set_append_right _ _ (by omega), List.set_append_right _ _ (by omega)]
        simp [hp]
      rw [e, sink_ins a p' (y :: s) x hp, insP_app p' [y] x a (by omega)]
      have hle := insP_le p' x a
      rw [List.take_append_of_le_length (by omega), List.drop_append_of_le_length (by omega)]
      simp
    · rw [if_neg hc, if_pos (by omega)]
      rw [List.take_of_length_le (by simp; omega), List.drop_of_length_le (by simp; omega)]
      rfl

theorem sink_insR (p s : List Val) (x : Val) : sink (p ++ x :: s) p.length = insR p x ++ s := by
  rw [sink_ins p.length p s x rfl, insR]; simp
theorem insR_len (p : List Val) (x : Val) : (insR p x).length = p.length + 1 := by
  have := insP_le p x p.length
  simp [insR]; omega
theorem sortFrom_ins : ∀ (r p : List Val), sortFrom (p ++ r) p.length r.length = r.foldl insR p
  | [], p => by simp [sortFrom]
  | x :: r, p => by
    rw [List.length_cons, sortFrom, sink_insR, ← insR_len p x, sortFrom_ins r (insR p x)]
    rfl
theorem sortV_ins (l : List Val) : l.foldl insR [] = sortV l := by
  rw [← sortFrom_ins l []]
  cases l with
  | nil => rfl
  | cons x r =>
    rw [List.length_cons, List.nil_append, List.length_nil, sortFrom]
    rfl
theorem insR_perm (p : List Val) (x : Val) : (insR p x).Perm (x :: p) := by
  unfold insR
  refine List.perm_middle.trans ?_
  rw [List.take_append_drop]
theorem foldl_oks : ∀ (r p : List Val), Val.oks p → Val.oks r → Val.oks (r.foldl insR p)
  | [], p, hp, _ => hp
  | x :: r, p, hp, hr => foldl_oks r (insR p x) (oks_perm (insR_perm p x).symm ⟨hr.1, hp⟩) hr.2

theorem encs_append : ∀ (a b : List Val), Val.encs (a ++ b) = Val.encs a ++ Val.encs b
  | [], b => rfl
  | x :: a, b => by simp [Val.encs, encs_append a b]
theorem encs_take : ∀ (l : List Val) (k : Nat), Val.encs (l.take k) = (Val.encs l).take k
  | [], k => by simp [Val.encs]
  | v :: l, 0 => by simp [Val.encs]
  | v :: l, k + 1 => by simp [Val.encs, encs_take l k]
theorem encs_drop : ∀ (l : List Val) (k : Nat), Val.encs (l.drop k) = (Val.encs l).drop k
  | [], k => by simp [Val.encs]
  | v :: l, 0 => by simp [Val.encs]
  | v :: l, k + 1 => by simp [Val.encs, encs_drop l k]
theorem encs_all (l : List Val) : (Val.encs l).all (fun y => y.width == 6) = true := by
  simp only [List.all_eq_true, beq_iff_eq]
  exact (encRow l).wid

/-! ### the walk: each two told -/
def RtIn (l : List Val) (x : Val) (i j : Nat) : Prop :=
  V (F tab) r52_B1 (r52_S1 (.d (.sl (Val.encs l))) (.d (.sl [])) (.d (iv i)) (.d (iv j)) []) =
    if ((l.take i).drop j).all (fun y => (cmpR y x).2) then some (.norm, r52_E1 (.d (.sl (Val.encs l))) (.d (.sl [])) (.d (iv i)) []) else some (.ret, r52_R (.d (.sl [])) (.d (.bool false)) [])

theorem rt_end (l : List Val) (x : Val) (i : Nat) (hi : i < l.length) : RtIn l x i i := by
  have h1 : ((i : Int) < (i : Int)) = False := eq_false (by omega)
  have h2 : ((l.take i).drop i) = [] := List.drop_of_length_le (by rw [List.length_take]; exact Nat.min_le_left _ _)
  unfold RtIn
  rw [r52_B1_eq, h2]
  simp (disch := omega) only [go_sem, and_self, and_true, true_and, false_and, and_false, Nat.reduceAdd, Nat.reduceMul, Nat.reduceSub, Nat.reduceLeDiff, Nat.reduceLT, Nat.reduceGT, Nat.reduceEqDiff, Nat.reduceBEq, Int.reduceNeg, Int.reduceEq, Int.reduceLT, Int.reduceLE, Int.reduceBEq, Int.reduceToNat, Int.toNat_natCast, Int.natCast_zero, r52_C1, h1, List.all_nil]
theorem rt_step (l : List Val) (hl : l.length ≤ 1000) (hk : Val.oks l) (x : Val) (i j : Nat) (hi : i < l.length) (hx : l[i]? = some x) (hj : j < i) (ih : RtIn l x i (j + 1)) : RtIn l x i j := by
  have h1 : ((j : Int) < (i : Int)) = True := eq_true (by omega)
  have i0 : (0 ≤ (i : Int)) = True := eq_true (by omega)
  have j0 : (0 ≤ (j : Int)) = True := eq_true (by omega)
  have hy : l[j]? = some l[j] := List.getElem?_eq_getElem (by omega)
  have va : (Val.encs l)[i]? = some x.enc := by rw [encs_get, hx]; rfl
  have vb : (Val.encs l)[j]? = some l[j].enc := by rw [encs_get, hy]; rfl
  have hox : x.ok := oks_mem hk (List.mem_of_getElem? hx)
  have hoy : l[j].ok := oks_mem hk (List.getElem_mem _)
  have hc := rcmp_ok l[j] x hoy hox
  have hd : (l.take i).drop j = l[j] :: (l.take i).drop (j + 1) := by
    rw [List.drop_eq_getElem_cons (by simp; omega)]; simp
  have e1 : (j : Int) + 1 = ((j + 1 : Nat) : Int) := rfl
  unfold RtIn at ih ⊢
  rw [r52_B1_eq, hd, List.all_cons]
  generalize l[j] = y at *
  obtain ⟨k, c, s, t, xs, ks, ex⟩ := enc_as x
  obtain ⟨k', c', s', t', ys, ks', ey⟩ := enc_as y
  rw [ex, ey] at hc
  rw [ex] at va
  rw [ey] at vb
  rcases Bool.eq_false_or_eq_true (cmpR y x).2 with g | g
  · rw [g] at hc
    rw [g, Bool.true_and]
    simp (disch := omega) only [go_sem, and_self, and_true, true_and, false_and, and_false, Nat.reduceAdd, Nat.reduceMul, Nat.reduceSub, Nat.reduceLeDiff, Nat.reduceLT, Nat.reduceGT, Nat.reduceEqDiff, Nat.reduceBEq, Int.reduceNeg, Int.reduceEq, Int.reduceLT, Int.reduceLE, Int.reduceBEq, Int.reduceToNat, Int.toNat_natCast, Int.natCast_zero, r52_C1, h1, i0, j0, va, vb, hc, e1, w64]
    exact ih
  · rw [g] at hc
    rw [g, Bool.false_and]
    simp (disch := omega) only [go_sem, and_self, and_true, true_and, false_and, and_false, Nat.reduceAdd, Nat.reduceMul, Nat.reduceSub, Nat.reduceLeDiff, Nat.reduceLT, Nat.reduceGT, Nat.reduceEqDiff, Nat.reduceBEq, Int.reduceNeg, Int.reduceEq, Int.reduceLT, Int.reduceLE, Int.reduceBEq, Int.reduceToNat, Int.toNat_natCast, Int.natCast_zero, r52_C1, h1, i0, j0, va, vb, hc, e1, w64]
theorem rt_loop (l : List Val) (hl : l.length ≤ 1000) (hk : Val.oks l) (x : Val) (i : Nat) (hi : i < l.length) (hx : l[i]? = some x) : ∀ (d j : Nat), j + d = i → RtIn l x i j
  | 0, j, h => by obtain rfl : j = i := by omega
                  exact rt_end l x j hi
  | d + 1, j, h => rt_step l hl hk x i j hi hx (by omega) (rt_loop l hl hk x i hi hx d (j + 1) (by omega))

def RtOut (l : List Val) (i : Nat) : Prop :=
  V (F tab) r52_B0 (r52_S0 (.d (.sl (Val.encs l))) (.d (.sl [])) (.d (iv i)) []) =
    if toldAux (l.take i) (l.drop i) then some (.norm, r52_E0 (.d (.sl (Val.encs l))) (.d (.sl [])) []) else some (.ret, r52_R (.d (.sl [])) (.d (.bool false)) [])
theorem ro_end (l : List Val) : RtOut l l.length := by
  have h1 : ((l.length : Int) < (l.length : Int)) = False := eq_false (by omega)
  unfold RtOut
  rw [r52_B0_eq, List.drop_of_length_le (Nat.le_refl _)]
  simp (disch := omega) only [go_sem, and_self, and_true, true_and, false_and, and_false, Nat.reduceAdd, Nat.reduceMul, Nat.reduceSub, Nat.reduceLeDiff, Nat.reduceLT, Nat.reduceGT, Nat.reduceEqDiff, Nat.reduceBEq, Int.reduceNeg, Int.reduceEq, Int.reduceLT, Int.reduceLE, Int.reduceBEq, Int.reduceToNat, Int.toNat_natCast, Int.natCast_zero, r52_C0, h1, toldAux, encs_len]
theorem ro_step (l : List Val) (hl : l.length ≤ 1000) (hk : Val.oks l) (i : Nat) (hi : i < l.length) (ih : RtOut l (i + 1)) : RtOut l i := by
  have h1 : ((i : Int) < (l.length : Int)) = True := eq_true (by omega)
  have hx : l[i]? = some l[i] := List.getElem?_eq_getElem hi
  have hin := rt_loop l hl hk l[i] i hi hx i 0 (by omega)
  have e1 : (i : Int) + 1 = ((i + 1 : Nat) : Int) := rfl
  unfold RtIn at hin
  rw [List.drop_zero] at hin
  unfold RtOut at ih ⊢
  rw [r52_B0_eq, List.drop_eq_getElem_cons hi, toldAux]
  rw [show l.take (i + 1) = l.take i ++ [l[i]] from by rw [List.take_add_one, hx]; rfl] at ih
  simp (disch := omega) only [go_sem, and_self, and_true, true_and, false_and, and_false, Nat.reduceAdd, Nat.reduceMul, Nat.reduceSub, Nat.reduceLeDiff, Nat.reduceLT, Nat.reduceGT, Nat.reduceEqDiff, Nat.reduceBEq, Int.reduceNeg, Int.reduceEq, Int.reduceLT, Int.reduceLE, Int.reduceBEq, Int.reduceToNat, Int.toNat_natCast, Int.natCast_zero, r52_C0, h1, w64, encs_len]
  rw [r52_B1_n]
  erw [hin]
  rcases Bool.eq_false_or_eq_true ((l.take i).all fun y => (cmpR y l[i]).2) with g | g
  · rw [g]
    simp (disch := omega) only [go_sem, and_self, and_true, true_and, false_and, and_false, Nat.reduceAdd, Nat.reduceMul, Nat.reduceSub, Nat.reduceLeDiff, Nat.reduceLT, Nat.reduceGT, Nat.reduceEqDiff, Nat.reduceBEq, Int.reduceNeg, Int.reduceEq, Int.reduceLT, Int.reduceLE, Int.reduceBEq, Int.reduceToNat, Int.toNat_natCast, Int.natCast_zero, e1, w64]
    exact ih
  · rw [g]
    simp (disch := omega) only [go_sem, and_self, and_true, true_and, false_and, and_false, Nat.reduceAdd, Nat.reduceMul, Nat.reduceSub, Nat.reduceLeDiff, Nat.reduceLT, Nat.reduceGT, Nat.reduceEqDiff, Nat.reduceBEq, Int.reduceNeg, Int.reduceEq, Int.reduceLT, Int.reduceLE, Int.reduceBEq, Int.reduceToNat, Int.toNat_natCast, Int.natCast_zero, e1, w64]
theorem ro_loop (l : List Val) (hl : l.length ≤ 1000) (hk : Val.oks l) : ∀ (d i : Nat), i + d = l.length → RtOut l i
  | 0, i, h => by obtain rfl : i = l.length := by omega
                  exact ro_end l
  | d + 1, i, h => ro_step l hl hk i (by omega) (ro_loop l hl hk d (i + 1) (by omega))

/-! ### the walk: the place -/
def RpIs (l p : List Val) (x : Val) (i a : Nat) : Prop :=
  V (F tab) r52_B3 (r52_S3 (.d (.sl (Val.encs l))) (.d (.sl (Val.encs p))) (.d (iv i)) (.d (iv a)) []) = some (.norm, r52_E3 (.d (.sl (Val.encs l))) (.d (.sl (Val.encs p))) (.d (iv i)) (.d (iv (insP p x a))) [])
theorem rp_zero (l p : List Val) (x : Val) (i : Nat) : RpIs l p x i 0 := by
  have h1 : ((0 : Int) > 0) = False := eq_false (by omega)
  have h2 : (((0 : Nat) : Int) > 0) = False := eq_false (by omega)
  unfold RpIs
  rw [r52_B3_eq, insP]
  simp (disch := omega) only [go_sem, and_self, and_true, true_and, false_and, and_false, Nat.reduceAdd, Nat.reduceMul, Nat.reduceSub, Nat.reduceLeDiff, Nat.reduceLT, Nat.reduceGT, Nat.reduceEqDiff, Nat.reduceBEq, Int.reduceNeg, Int.reduceEq, Int.reduceLT, Int.reduceLE, Int.reduceBEq, Int.reduceToNat, Int.toNat_natCast, Int.natCast_zero, r52_C3, h1, h2]
theorem rp_step (l p : List Val) (hl : l.length ≤ 1000) (hk : Val.oks l) (hkp : Val.oks p) (x y : Val) (i a : Nat) (hi : i < l.length) (hx : l[i]? = some x) (hap : a < p.length) (hpl : p.length ≤ 1000) (hy : p[a]? = some y) (hok : okP y x) (ih : RpIs l p x i a) : RpIs l p x i (a + 1) := by
  have h1 : (((a + 1 : Nat) : Int) > 0) = True := eq_true (by omega)
  have i0 : (0 ≤ (i : Int)) = True := eq_true (by omega)
  have a0 : (0 ≤ (a : Int)) = True := eq_true (by omega)
  have e1 : ((a + 1 : Nat) : Int) - 1 = (a : Int) := by omega
  have va : (Val.encs l)[i]? = some x.enc := by rw [encs_get, hx]; rfl
  have vb : (Val.encs p)[a]? = some y.enc := by rw [encs_get, hy]; rfl
  have hc := rcmp_ok y x (oks_mem hkp (List.mem_of_getElem? hy)) (oks_mem hk (List.mem_of_getElem? hx))
  have hcm : (cmpV y x 4096).1 = cmpC y x := by
    unfold okP cmpR at hok
    unfold cmpC cmpR
    by_cases g : (cmpV y x 4096).2 < 0
    · rw [if_pos g] at hok; simp at hok
    · rw [if_neg g]
  rw [hcm] at hc
  unfold okP at hok
  rw [hok] at hc
  unfold RpIs at ih ⊢
  rw [r52_B3_eq, insP, hy]
  simp only
  obtain ⟨k, c, s, t, xs, ks, ex⟩ := enc_as x
  obtain ⟨k', c', s', t', ys, ks', ey⟩ := enc_as y
  rw [ex, ey] at hc
  rw [ex] at va
  rw [ey] at vb
  by_cases g : cmpC y x ≤ 0
  · simp (disch := omega) only [go_sem, and_self, and_true, true_and, false_and, and_false, Nat.reduceAdd, Nat.reduceMul, Nat.reduceSub, Nat.reduceLeDiff, Nat.reduceLT, Nat.reduceGT, Nat.reduceEqDiff, Nat.reduceBEq, Int.reduceNeg, Int.reduceEq, Int.reduceLT, Int.reduceLE, Int.reduceBEq, Int.reduceToNat, Int.toNat_natCast, Int.natCast_zero, r52_C3, h1, i0, a0, e1, va, vb, hc, g, w64]
  · simp (disch := omega) only [go_sem, and_self, and_true, true_and, false_and, and_false, Nat.reduceAdd, Nat.reduceMul, Nat.reduceSub, Nat.reduceLeDiff, Nat.reduceLT, Nat.reduceGT, Nat.reduceEqDiff, Nat.reduceBEq, Int.reduceNeg, Int.reduceEq, Int.reduceLT, Int.reduceLE, Int.reduceBEq, Int.reduceToNat, Int.toNat_natCast, Int.natCast_zero, r52_C3, h1, i0, a0, e1, va, vb, hc, g, w64]
    exact ih
theorem rp_loop (l p : List Val) (hl : l.length ≤ 1000) (hk : Val.oks l) (hkp : Val.oks p) (x : Val) (i : Nat) (hi : i < l.length) (hx : l[i]? = some x) (hpl : p.length ≤ 1000) (hok : ∀ y ∈ p, okP y x) : ∀ a, a ≤ p.length → RpIs l p x i a
  | 0, _ => rp_zero l p x i
  | a + 1, h => by
    have hy : p[a]? = some p[a] := List.getElem?_eq_getElem (by omega)
    exact rp_step l p hl hk hkp x p[a] i a hi hx (by omega) hpl hy (hok _ (List.getElem_mem _)) (rp_loop l p hl hk hkp x i hi hx hpl hok a (by omega))

/-! ### the walk: one after the other -/
def RsIs (l p : List Val) (i : Nat) : Prop :=
  V (F tab) r52_B2 (r52_S2 (.d (.sl (Val.encs l))) (.d (.sl (Val.encs p))) (.d (iv i)) []) = some (.norm, r52_E2 (.d (.sl (Val.encs ((l.drop i).foldl insR p)))) [])
theorem rs_end (l p : List Val) : RsIs l p l.length := by
  have h1 : ((l.length : Int) < (l.length : Int)) = False := eq_false (by omega)
  unfold RsIs
  rw [r52_B2_eq, List.drop_of_length_le (Nat.le_refl _)]
  simp (disch := omega) only [go_sem, and_self, and_true, true_and, false_and, and_false, Nat.reduceAdd, Nat.reduceMul, Nat.reduceSub, Nat.reduceLeDiff, Nat.reduceLT, Nat.reduceGT, Nat.reduceEqDiff, Nat.reduceBEq, Int.reduceNeg, Int.reduceEq, Int.reduceLT, Int.reduceLE, Int.reduceBEq, Int.reduceToNat, Int.toNat_natCast, Int.natCast_zero, r52_C2, h1, encs_len, List.foldl_nil]

set_option maxHeartbeats 1000000 in
theorem rs_step (l p : List Val) (hl : l.length ≤ 500) (i : Nat) (hi : i < l.length) (hpl : p.length ≤ 500) (x : Val) (hx : l[i]? = some x) (hb3 : RpIs l p x i p.length) (ih : RsIs l (insR p x) (i + 1)) : RsIs l p i := by
  have h1 : ((i : Int) < (l.length : Int)) = True := eq_true (by omega)
  have i0 : (0 ≤ (i : Int)) = True := eq_true (by omega)
  have va : (Val.encs l)[i]? = some x.enc := by rw [encs_get, hx]; rfl
  have e1 : (i : Int) + 1 = ((i + 1 : Nat) : Int) := rfl
  have hle := insP_le p x p.length
  have hd : l.drop i = x :: l.drop (i + 1) := by
    rw [List.drop_eq_getElem_cons hi]
    obtain ⟨_, e⟩ := List.getElem?_eq_some_iff.1 hx
    rw [e]
  unfold RpIs at hb3
  unfold RsIs at ih ⊢
  rw [r52_B2_eq, hd, List.foldl_cons]
  unfold insR at ih ⊢
  generalize insP p x p.length = a at *
  have a0 : (0 ≤ (a : Int)) = True := eq_true (by omega)
  have a1 : ((a : Int) ≤ (p.length : Int)) = True := eq_true (by omega)
  have a2 : ((p.length : Int) ≤ (p.length : Int)) = True := eq_true (by omega)
  have t1 : ((a : Nat) : Int).toNat = a := rfl
  have t2 : ((p.length : Nat) : Int).toNat = p.length := rfl
  have c1 : cutD (Val.encs p) 0 (a : Int) = Val.encs (p.take a) := by
    simp only [cutD, Int.toNat_natCast, encs_take]; rfl
  have c2 : cutD (Val.encs p) (a : Int) (p.length : Int) = Val.encs (p.drop a) := by
    simp only [cutD, Int.toNat_natCast, encs_drop]
    rw [List.take_of_length_le (by rw [encs_len]; omega)]
  have q1 : ∀ q : List Val, (Val.encs q).all (fun y => y.width == 6) = true := encs_all
  have q2 : (0 + (p.take a).length) * 88 ≤ maxRow ∧ ((p.take a).length + 1) * 88 ≤ maxRow ∧ ((p.take a).length + 1 + (p.drop a).length) * 88 ≤ maxRow := by
    simp only [List.length_take, List.length_drop, maxRow]; omega
  obtain ⟨q3, q4, q5⟩ := q2
  have q3 := eq_true q3
  have q4 := eq_true q4
  have q5 := eq_true q5
  have q6 : ((x.enc.width == 6) && true) = true := by rw [enc_w]; rfl
  have q7 : (Val.encs (p.take a) ++ [x.enc]).length = (p.take a).length + 1 := by simp [encs_len]
  have q8 : Val.encs (p.take a) ++ [x.enc] ++ Val.encs (p.drop a) = Val.encs (p.take a ++ x :: p.drop a) := by
    rw [encs_append]; simp [Val.encs]
  have q9 : ([x.enc] : List D).length = 1 := rfl
  simp (maxSteps := 1000000) (disch := omega) only [go_sem, and_self, and_true, true_and, false_and, and_false, Nat.reduceAdd, Nat.reduceMul, Nat.reduceSub, Nat.reduceLeDiff, Nat.reduceLT, Nat.reduceGT, Nat.reduceEqDiff, Nat.reduceBEq, Int.reduceNeg, Int.reduceEq, Int.reduceLT, Int.reduceLE, Int.reduceBEq, Int.reduceToNat, Int.toNat_natCast, Int.natCast_zero, r52_C2, h1, encs_len]
  rw [r52_B3_n]
  erw [hb3]
  simp (maxSteps := 1000000) (disch := omega) only [go_sem, and_self, and_true, true_and, false_and, and_false, Nat.reduceAdd, Nat.reduceMul, Nat.reduceSub, Nat.reduceLeDiff, Nat.reduceLT, Nat.reduceGT, Nat.reduceEqDiff, Nat.reduceBEq, Int.reduceNeg, Int.reduceEq, Int.reduceLT, Int.reduceLE, Int.reduceBEq, Int.reduceToNat, Int.toNat_natCast, Int.natCast_zero, i0, va, a0, a1, a2, c1, c2, q1, q3, q4, q5, q6, q7, q8, q9, e1, enc_w, enc_a, encs_len, decide_true, List.length_nil, List.all_cons, List.all_nil, w64]
  exact ih

theorem rs_loop (l : List Val) (hl : l.length ≤ 500) (hk : Val.oks l) (hpw : l.Pairwise okP) : ∀ (d i : Nat) (p : List Val), i + d = l.length → p.Perm (l.take i) → RsIs l p i
  | 0, i, p, h, hp => by obtain rfl : i = l.length := by omega
                         exact rs_end l p
  | d + 1, i, p, h, hp => by
    have hi : i < l.length := by omega
    have hx : l[i]? = some l[i] := List.getElem?_eq_getElem hi
    have hpl : p.length = i := by rw [hp.length_eq, List.length_take]; omega
    have hkp : Val.oks p := oks_iff.2 fun v hv => oks_iff.1 hk v (List.mem_of_mem_take (hp.mem_iff.1 hv))
    have hok : ∀ y ∈ p, okP y l[i] := by
      intro y hy
      obtain ⟨j, hj⟩ := List.mem_iff_getElem?.1 (hp.mem_iff.1 hy)
      have hji : j < i := by have := (List.getElem?_eq_some_iff.1 hj).1; rw [List.length_take] at this; omega
      rw [List.getElem?_take_of_lt hji] at hj
      obtain ⟨hjl, e⟩ := List.getElem?_eq_some_iff.1 hj
      rw [← e]
      exact List.pairwise_iff_getElem.1 hpw j i hjl hi hji
    have hb3 := rp_loop l p (by omega) hk hkp l[i] i hi hx (by omega) hok p.length (Nat.le_refl _)
    refine rs_step l p hl i hi (by omega) l[i] hx hb3 (rs_loop l hl hk hpw d (i + 1) (insR p l[i]) (by omega) ?_)
    rw [List.take_add_one, hx]
    refine (insR_perm p l[i]).trans ?_
    refine List.Perm.trans ?_ List.perm_append_comm
    exact (List.Perm.cons _ hp)

theorem rsort_ok (l : List Val) (hl : l.length ≤ 500) (hk : Val.oks l) (hp : List Ent) :
    F tab 52 [.d (.sl (Val.encs l))] hp = if toldV l then some (.ret (.tup [.d (.sl (Val.encs (sortV l))), .d (.bool true)]) hp) else some (.ret (.tup [.d (.sl []), .d (.bool false)]) hp) := by
  have h1 := ro_loop l (by omega) hk l.length 0 (by omega)
  unfold RtOut at h1
  rw [List.drop_zero, List.take_zero] at h1
  have z : ((0 : Nat) : Int) = 0 := rfl
  unfold toldV
  rcases Bool.eq_false_or_eq_true (toldAux [] l) with g | g
  · have h2 := rs_loop l hl hk (toldV_pw g) l.length 0 [] (by omega) (List.Perm.refl _)
    unfold RsIs at h2
    rw [List.drop_zero, sortV_ins] at h2
    simp only [g, if_true] at h1 ⊢
    refine f52 rfl ?_
    simp (disch := omega) only [go_sem, and_self, and_true, true_and, false_and, and_false, Nat.reduceAdd, Nat.reduceMul, Nat.reduceSub, Nat.reduceLeDiff, Nat.reduceLT, Nat.reduceGT, Nat.reduceEqDiff, Nat.reduceBEq, Int.reduceNeg, Int.reduceEq, Int.reduceLT, Int.reduceLE, Int.reduceBEq, Int.reduceToNat, Int.toNat_natCast, Int.natCast_zero, r52_T, r52]
    rw [r52_B0_n]
    erw [h1]
    simp (disch := omega) only [go_sem, and_self, and_true, true_and, false_and, and_false, Nat.reduceAdd, Nat.reduceMul, Nat.reduceSub, Nat.reduceLeDiff, Nat.reduceLT, Nat.reduceGT, Nat.reduceEqDiff, Nat.reduceBEq, Int.reduceNeg, Int.reduceEq, Int.reduceLT, Int.reduceLE, Int.reduceBEq, Int.reduceToNat, Int.toNat_natCast, Int.natCast_zero]
    rw [r52_B2_n]
    erw [h2]
    simp (disch := omega) only [go_sem, and_self, and_true, true_and, false_and, and_false, Nat.reduceAdd, Nat.reduceMul, Nat.reduceSub, Nat.reduceLeDiff, Nat.reduceLT, Nat.reduceGT, Nat.reduceEqDiff, Nat.reduceBEq, Int.reduceNeg, Int.reduceEq, Int.reduceLT, Int.reduceLE, Int.reduceBEq, Int.reduceToNat, Int.toNat_natCast, Int.natCast_zero]
  · simp only [g, Bool.false_eq_true, if_false] at h1 ⊢
    refine f52 rfl ?_
    simp (disch := omega) only [go_sem, and_self, and_true, true_and, false_and, and_false, Nat.reduceAdd, Nat.reduceMul, Nat.reduceSub, Nat.reduceLeDiff, Nat.reduceLT, Nat.reduceGT, Nat.reduceEqDiff, Nat.reduceBEq, Int.reduceNeg, Int.reduceEq, Int.reduceLT, Int.reduceLE, Int.reduceBEq, Int.reduceToNat, Int.toNat_natCast, Int.natCast_zero, r52_T, r52]
    rw [r52_B0_n]
    erw [h1]
    simp (disch := omega) only [go_sem, and_self, and_true, true_and, false_and, and_false, Nat.reduceAdd, Nat.reduceMul, Nat.reduceSub, Nat.reduceLeDiff, Nat.reduceLT, Nat.reduceGT, Nat.reduceEqDiff, Nat.reduceBEq, Int.reduceNeg, Int.reduceEq, Int.reduceLT, Int.reduceLE, Int.reduceBEq, Int.reduceToNat, Int.toNat_natCast, Int.natCast_zero]

/-! ### the place of one -/
def findV : List Val → Val → Nat → Int × Bool
  | [], v, i => (-1, true)
  | x :: r, v, i => if (cmpR x v).2 = false then (0, false) else if (cmpR x v).1 = 0 then ((i : Int), true) else findV r v (i + 1)

def FiIs (l : List Val) (v : Val) (k c s : Int) (t : ByteArray) (xs : List Val) (ks : List ByteArray) (i : Nat) : Prop :=
  (findV (l.drop i) v i = (-1, true) ∧ V (F tab) r54_B0 (r54_S0 (bxV k c s t (Val.encs xs) ks) (.d (.sl (Val.encs l))) (.d (iv l.length)) (.d (iv i)) []) = some (.norm, r54_E0 [])) ∨
    V (F tab) r54_B0 (r54_S0 (bxV k c s t (Val.encs xs) ks) (.d (.sl (Val.encs l))) (.d (iv l.length)) (.d (iv i)) []) = some (.ret, r54_R (.d (iv (findV (l.drop i) v i).1)) (.d (.bool (findV (l.drop i) v i).2)) [])
theorem fi_end (l : List Val) (v : Val) (k c s : Int) (t : ByteArray) (xs : List Val) (ks : List ByteArray) : FiIs l v k c s t xs ks l.length := by
  have h1 : ((l.length : Int) < (l.length : Int)) = False := eq_false (by omega)
  refine .inl ⟨by rw [List.drop_of_length_le (Nat.le_refl _)]; rfl, ?_⟩
  rw [r54_B0_eq]
  simp (disch := omega) only [go_sem, and_self, and_true, true_and, false_and, and_false, Nat.reduceAdd, Nat.reduceMul, Nat.reduceSub, Nat.reduceLeDiff, Nat.reduceLT, Nat.reduceGT, Nat.reduceEqDiff, Nat.reduceBEq, Int.reduceNeg, Int.reduceEq, Int.reduceLT, Int.reduceLE, Int.reduceBEq, Int.reduceToNat, Int.toNat_natCast, Int.natCast_zero, r54_C0, h1]
set_option maxHeartbeats 1000000 in
theorem fi_step (l : List Val) (hl : l.length ≤ 1000) (k c s : Int) (t : ByteArray) (xs : List Val) (ks : List ByteArray) (i : Nat) (hi : i < l.length) (x : Val) (hx : l[i]? = some x) (hxo : x.ok) (hvo : (Val.mk k c s t xs ks).ok) (ih : FiIs l (.mk k c s t xs ks) k c s t xs ks (i + 1)) : FiIs l (.mk k c s t xs ks) k c s t xs ks i := by
  have h1 : ((i : Int) < (l.length : Int)) = True := eq_true (by omega)
  have i0 : (0 ≤ (i : Int)) = True := eq_true (by omega)
  have va : (Val.encs l)[i]? = some x.enc := by rw [encs_get, hx]; rfl
  have e1 : (i : Int) + 1 = ((i + 1 : Nat) : Int) := rfl
  have hc := ocmp_ok x (.mk k c s t xs ks) hxo hvo
  simp only [Val.enc] at hc
  have hd : l.drop i = x :: l.drop (i + 1) := by
    rw [List.drop_eq_getElem_cons hi]
    obtain ⟨_, e⟩ := List.getElem?_eq_some_iff.1 hx
    rw [e]
  unfold FiIs at ih ⊢
  rw [hd, findV]
  generalize cmpR x (.mk k c s t xs ks) = z at *
  obtain ⟨z1, z2⟩ := z
  rw [← enc_agg x] at hc va
  have lx : x.enc.cells.length = 6 := enc_cells x
  match hX : x.enc.cells, lx with
  | [q0, q1, q2, q3, q4, q5], _ =>
  rw [hX] at hc va
  cases z2 with
  | false =>
    refine .inr ?_
    rw [r54_B0_eq]
    simp (disch := omega) only [go_sem, and_self, and_true, true_and, false_and, and_false, Nat.reduceAdd, Nat.reduceMul, Nat.reduceSub, Nat.reduceLeDiff, Nat.reduceLT, Nat.reduceGT, Nat.reduceEqDiff, Nat.reduceBEq, Int.reduceNeg, Int.reduceEq, Int.reduceLT, Int.reduceLE, Int.reduceBEq, Int.reduceToNat, Int.toNat_natCast, Int.natCast_zero, r54_C0, h1, i0, va, hc, D.width, D.isAgg, D.cells, List.length_cons, List.length_nil, w64]
  | true =>
    simp only [Bool.true_eq_false, if_false]
    by_cases g : z1 = 0
    · refine .inr ?_
      subst g
      have gz : ((0 : Int) == 0) = true := rfl
      rw [r54_B0_eq]
      simp (disch := omega) only [go_sem, and_self, and_true, true_and, false_and, and_false, Nat.reduceAdd, Nat.reduceMul, Nat.reduceSub, Nat.reduceLeDiff, Nat.reduceLT, Nat.reduceGT, Nat.reduceEqDiff, Nat.reduceBEq, Int.reduceNeg, Int.reduceEq, Int.reduceLT, Int.reduceLE, Int.reduceBEq, Int.reduceToNat, Int.toNat_natCast, Int.natCast_zero, r54_C0, h1, i0, va, hc, gz, D.width, D.isAgg, D.cells, List.length_cons, List.length_nil, w64]
    · have gz : (z1 == 0) = false := by simpa using g
      simp only [if_neg g]
      rw [r54_B0_eq]
      simp (disch := omega) only [go_sem, and_self, and_true, true_and, false_and, and_false, Nat.reduceAdd, Nat.reduceMul, Nat.reduceSub, Nat.reduceLeDiff, Nat.reduceLT, Nat.reduceGT, Nat.reduceEqDiff, Nat.reduceBEq, Int.reduceNeg, Int.reduceEq, Int.reduceLT, Int.reduceLE, Int.reduceBEq, Int.reduceToNat, Int.toNat_natCast, Int.natCast_zero, r54_C0, h1, i0, va, hc, gz, e1, D.width, D.isAgg, D.cells, List.length_cons, List.length_nil, w64]
      exact ih
theorem fi_loop (l : List Val) (hl : l.length ≤ 1000) (hk : Val.oks l) (k c s : Int) (t : ByteArray) (xs : List Val) (ks : List ByteArray) (hvo : (Val.mk k c s t xs ks).ok) : ∀ (d i : Nat), i + d = l.length → FiIs l (.mk k c s t xs ks) k c s t xs ks i
  | 0, i, h => by obtain rfl : i = l.length := by omega
                  exact fi_end l _ k c s t xs ks
  | d + 1, i, h => fi_step l hl k c s t xs ks i (by omega) l[i] (List.getElem?_eq_getElem (by omega)) (oks_mem hk (List.getElem_mem _)) hvo (fi_loop l hl hk k c s t xs ks hvo d (i + 1) (by omega))
theorem find_ok (l : List Val) (hl : l.length ≤ 1000) (hk : Val.oks l) (v : Val) (hv : v.ok) (hp : List Ent) : F tab 54 [.d (.sl (Val.encs l)), .d v.enc] hp = some (.ret (.tup [.d (iv (findV l v 0).1), .d (.bool (findV l v 0).2)]) hp) := by
  obtain ⟨k, c, s, t, xs, ks⟩ := v
  have hL := fi_loop l hl hk k c s t xs ks hv l.length 0 (by omega)
  unfold FiIs at hL
  rw [List.drop_zero] at hL
  refine f54 rfl ?_
  simp only [Val.enc]
  rcases hL with ⟨e, hL⟩ | hL
  · rw [e]
    simp (disch := omega) only [go_sem, and_self, and_true, true_and, false_and, and_false, Nat.reduceAdd, Nat.reduceMul, Nat.reduceSub, Nat.reduceLeDiff, Nat.reduceLT, Nat.reduceGT, Nat.reduceEqDiff, Nat.reduceBEq, Int.reduceNeg, Int.reduceEq, Int.reduceLT, Int.reduceLE, Int.reduceBEq, Int.reduceToNat, Int.toNat_natCast, Int.natCast_zero, r54_T, r54, encs_len]
    rw [r54_B0_n]
    erw [hL]
    simp (disch := omega) only [go_sem, and_self, and_true, true_and, false_and, and_false, Nat.reduceAdd, Nat.reduceMul, Nat.reduceSub, Nat.reduceLeDiff, Nat.reduceLT, Nat.reduceGT, Nat.reduceEqDiff, Nat.reduceBEq, Int.reduceNeg, Int.reduceEq, Int.reduceLT, Int.reduceLE, Int.reduceBEq, Int.reduceToNat, Int.toNat_natCast, Int.natCast_zero]
  · simp (disch := omega) only [go_sem, and_self, and_true, true_and, false_and, and_false, Nat.reduceAdd, Nat.reduceMul, Nat.reduceSub, Nat.reduceLeDiff, Nat.reduceLT, Nat.reduceGT, Nat.reduceEqDiff, Nat.reduceBEq, Int.reduceNeg, Int.reduceEq, Int.reduceLT, Int.reduceLE, Int.reduceBEq, Int.reduceToNat, Int.toNat_natCast, Int.natCast_zero, r54_T, r54, encs_len]
    rw [r54_B0_n]
    erw [hL]
    simp (disch := omega) only [go_sem, and_self, and_true, true_and, false_and, and_false, Nat.reduceAdd, Nat.reduceMul, Nat.reduceSub, Nat.reduceLeDiff, Nat.reduceLT, Nat.reduceGT, Nat.reduceEqDiff, Nat.reduceBEq, Int.reduceNeg, Int.reduceEq, Int.reduceLT, Int.reduceLE, Int.reduceBEq, Int.reduceToNat, Int.toNat_natCast, Int.natCast_zero]
end Go.Pe.T

namespace Go.Pe.T
/-! ### two lists, the same -/
def SmLoop (l : List Val) (i : Nat) : Prop :=
  V (F tab) r35_B0 (r35_S0 (.d (.sl (Val.encs l))) (.d (.sl (Val.encs l))) (.d (iv i)) []) = some (.norm, r35_E0 [])
theorem sm_end (l : List Val) : SmLoop l l.length := by
  have h1 : ((l.length : Int) < (l.length : Int)) = False := eq_false (by omega)
  unfold SmLoop
  rw [r35_B0_eq]
  simp (disch := omega) only [go_sem, and_self, and_true, true_and, false_and, and_false, Nat.reduceAdd, Nat.reduceMul, Nat.reduceSub, Nat.reduceLeDiff, Nat.reduceLT, Nat.reduceGT, Nat.reduceEqDiff, Nat.reduceBEq, Int.reduceNeg, Int.reduceEq, Int.reduceLT, Int.reduceLE, Int.reduceBEq, Int.reduceToNat, Int.toNat_natCast, Int.natCast_zero, r35_C0, h1, encs_len]
theorem sm_step (l : List Val) (hl : l.length ≤ 1000) (hk : Val.oks l) (i : Nat) (hi : i < l.length) (ih : SmLoop l (i + 1)) : SmLoop l i := by
  have h1 : ((i : Int) < (l.length : Int)) = True := eq_true (by omega)
  have i0 : (0 ≤ (i : Int)) = True := eq_true (by omega)
  have va : (Val.encs l)[i]? = some l[i].enc := by rw [encs_get]; simp [hi]
  have e1 : (i : Int) + 1 = ((i + 1 : Nat) : Int) := rfl
  have hs := sam_ok l[i] l[i] (oks_mem hk (List.getElem_mem _))
  unfold SamIs at hs
  rw [samV_refl] at hs
  unfold SmLoop at ih ⊢
  rw [r35_B0_eq]
  simp (disch := omega) only [go_sem, and_self, and_true, true_and, false_and, and_false, Nat.reduceAdd, Nat.reduceMul, Nat.reduceSub, Nat.reduceLeDiff, Nat.reduceLT, Nat.reduceGT, Nat.reduceEqDiff, Nat.reduceBEq, Int.reduceNeg, Int.reduceEq, Int.reduceLT, Int.reduceLE, Int.reduceBEq, Int.reduceToNat, Int.toNat_natCast, Int.natCast_zero, r35_C0, h1, i0, va, hs, enc_w, enc_a, encs_len, e1, w64]
  exact ih
theorem sm_loop (l : List Val) (hl : l.length ≤ 1000) (hk : Val.oks l) : ∀ (d i : Nat), i + d = l.length → SmLoop l i
  | 0, i, h => by obtain rfl : i = l.length := by omega
                  exact sm_end l
  | d + 1, i, h => sm_step l hl hk i (by omega) (sm_loop l hl hk d (i + 1) (by omega))
theorem same_ok (l : List Val) (hl : l.length ≤ 1000) (hk : Val.oks l) (hp : List Ent) : F tab 35 [.d (.sl (Val.encs l)), .d (.sl (Val.encs l))] hp = some (.ret (.d (.bool true)) hp) := by
  have hL := sm_loop l hl hk l.length 0 (by omega)
  unfold SmLoop at hL
  have sf : ∀ u : Int, (u != u) = false := fun u => by simp
  refine f35 rfl ?_
  simp (disch := omega) only [go_sem, and_self, and_true, true_and, false_and, and_false, Nat.reduceAdd, Nat.reduceMul, Nat.reduceSub, Nat.reduceLeDiff, Nat.reduceLT, Nat.reduceGT, Nat.reduceEqDiff, Nat.reduceBEq, Int.reduceNeg, Int.reduceEq, Int.reduceLT, Int.reduceLE, Int.reduceBEq, Int.reduceToNat, Int.toNat_natCast, Int.natCast_zero, r35_T, r35, sf, encs_len]
  rw [r35_B0_n]
  erw [hL]
  simp (disch := omega) only [go_sem, and_self, and_true, true_and, false_and, and_false, Nat.reduceAdd, Nat.reduceMul, Nat.reduceSub, Nat.reduceLeDiff, Nat.reduceLT, Nat.reduceGT, Nat.reduceEqDiff, Nat.reduceBEq, Int.reduceNeg, Int.reduceEq, Int.reduceLT, Int.reduceLE, Int.reduceBEq, Int.reduceToNat, Int.toNat_natCast, Int.natCast_zero]

end Go.Pe.T

namespace Go.Pe.T
theorem findV_no : ∀ (l : List Val) (v : Val) (i : Nat), (findV l v i).2 = false → (findV l v i).1 = 0
  | [], v, i, h => by simp [findV] at h
  | x :: r, v, i, h => by
    rw [findV] at h ⊢
    by_cases g : (cmpR x v).2 = false
    · rw [if_pos g]
    · rw [if_neg g] at h ⊢
      by_cases g2 : (cmpR x v).1 = 0
      · rw [if_pos g2] at h; simp at h
      · rw [if_neg g2] at h ⊢
        exact findV_no r v (i + 1) h
theorem onceT_le (l : List Val) : ∀ j, (onceT l j).length ≤ j
  | 0 => Nat.le_refl _
  | j + 1 => by
    have ih := onceT_le l j
    rw [onceT]
    split
    · rw [List.length_append]
      have : (l[j]?.toList).length ≤ 1 := by cases l[j]? <;> simp
      omega
    · omega
theorem onceT_oks (l : List Val) (hk : Val.oks l) : ∀ j, Val.oks (onceT l j)
  | 0 => trivial
  | j + 1 => by
    have ih := onceT_oks l hk j
    rw [onceT]
    split
    · refine oks_iff.2 fun v hv => ?_
      rcases List.mem_append.1 hv with h | h
      · exact oks_iff.1 ih v h
      · refine oks_mem hk (List.mem_of_getElem? (i := j) ?_)
        cases e : l[j]? with
        | none => rw [e] at h; simp at h
        | some y => rw [e] at h; simp at h; rw [h]
    · exact ih

/-! ### the law's loops -/
def OnIs (hp : List Ent) (l : List Val) (k c s : Int) (t : ByteArray) (xs : List Val) (ks : List ByteArray) (m u : List Val) (i : Nat) : Prop :=
  V (F tab) r14_B0 (r14_S0 (.d (.sl (Val.encs l))) (bxV k c s t (Val.encs xs) ks) (.d (.sl (Val.encs m))) (.d (.sl (Val.encs u))) (.own 27 (Val.encs (onceT m i))) (.d (iv i)) hp) =
    some (.norm, r14_E0 (.d (.sl (Val.encs l))) (bxV k c s t (Val.encs xs) ks) (.d (.sl (Val.encs u))) (.own 27 (Val.encs (onceV m))) hp)
theorem on_end (hp : List Ent) (l : List Val) (k c s : Int) (t : ByteArray) (xs : List Val) (ks : List ByteArray) (m u : List Val) : OnIs hp l k c s t xs ks m u m.length := by
  have h1 : ((m.length : Int) < (m.length : Int)) = False := eq_false (by omega)
  unfold OnIs
  rw [r14_B0_eq]
  simp (disch := omega) only [go_sem, and_self, and_true, true_and, false_and, and_false, Nat.reduceAdd, Nat.reduceMul, Nat.reduceSub, Nat.reduceLeDiff, Nat.reduceLT, Nat.reduceGT, Nat.reduceEqDiff, Nat.reduceBEq, Int.reduceNeg, Int.reduceEq, Int.reduceLT, Int.reduceLE, Int.reduceBEq, Int.reduceToNat, Int.toNat_natCast, Int.natCast_zero, r14_C0, h1, encs_len]
  rfl

theorem once_row (a : List Val) (x : Val) (h : a.length ≤ 1000) : ((a.length + 1) * 88 ≤ maxRow) = True ∧ Val.encs a ++ [x.enc] = Val.encs (a ++ [x]) ∧ ((x.enc.width == 6) && true) = true ∧ ([x.enc] : List D).length = 1 := by
  refine ⟨eq_true (by simp only [maxRow]; omega), by rw [encs_append]; simp [Val.encs], by rw [enc_w]; rfl, rfl⟩

set_option maxHeartbeats 1000000 in
theorem on_first (hp : List Ent) (l : List Val) (k c s : Int) (t : ByteArray) (xs : List Val) (ks : List ByteArray) (m u : List Val) (x : Val) (hx : m[0]? = some x) (ih : OnIs hp l k c s t xs ks m u 1) : OnIs hp l k c s t xs ks m u 0 := by
  have hm : 0 < m.length := (List.getElem?_eq_some_iff.1 hx).1
  have h1 : (((0 : Nat) : Int) < (m.length : Int)) = True := eq_true (by omega)
  have h1' : ((0 : Int) < (m.length : Int)) = True := eq_true (by omega)
  have h2 : (((0 : Nat) : Int) > 0) = False := eq_false (by omega)
  have h2' : ((0 : Int) > 0) = False := eq_false (by omega)
  have z1 : IntKind.i64.wrap (0 + 1) = 1 := by decide
  have o1 : ((1 : Int) != 0) = true := rfl
  have i0 : (0 ≤ (0 : Int)) = True := eq_true (by omega)
  have t0 : (0 : Int).toNat = 0 := rfl
  have va : (Val.encs m)[0]? = some x.enc := by rw [encs_get, hx]; rfl
  have ho : onceT m 1 = [] ++ [x] := by rw [onceT]; simp [newB, hx, onceT]
  have e0 : onceT m 0 = [] := rfl
  obtain ⟨q1, q2, q3, q4⟩ := once_row [] x (by simp)
  have hn : Val.encs [] = [] := rfl
  rw [hn] at q2
  simp only [List.length_nil] at q1
  unfold OnIs at ih ⊢
  rw [ho] at ih
  rw [r14_B0_eq, e0, hn]
  simp (maxSteps := 1000000) (disch := omega) only [go_sem, and_self, and_true, true_and, false_and, and_false, Nat.reduceAdd, Nat.reduceMul, Nat.reduceSub, Nat.reduceLeDiff, Nat.reduceLT, Nat.reduceGT, Nat.reduceEqDiff, Nat.reduceBEq, Int.reduceNeg, Int.reduceEq, Int.reduceLT, Int.reduceLE, Int.reduceBEq, Int.reduceToNat, Int.toNat_natCast, Int.natCast_zero, r14_C0, h1, h1', h2, h2', z1, o1, i0, t0, va, q1, q2, q3, q4, enc_w, enc_a, encs_len, List.length_nil, List.all_cons, List.all_nil, decide_true, w64]
  exact ih

set_option maxHeartbeats 1000000 in
theorem on_step (hp : List Ent) (l : List Val) (k c s : Int) (t : ByteArray) (xs : List Val) (ks : List ByteArray) (m u : List Val) (hl : m.length ≤ 500) (hk : Val.oks m) (i : Nat) (x y : Val) (hx : m[i + 1]? = some x) (hy : m[i]? = some y) (hok : okP y x) (ih : OnIs hp l k c s t xs ks m u (i + 2)) : OnIs hp l k c s t xs ks m u (i + 1) := by
  have hm : i + 1 < m.length := (List.getElem?_eq_some_iff.1 hx).1
  have h1 : (((i + 1 : Nat) : Int) < (m.length : Int)) = True := eq_true (by omega)
  have h2 : (((i + 1 : Nat) : Int) > 0) = True := eq_true (by omega)
  have i0 : (0 ≤ ((i + 1 : Nat) : Int)) = True := eq_true (by omega)
  have j0 : (0 ≤ (i : Int)) = True := eq_true (by omega)
  have e1 : ((i + 1 : Nat) : Int) - 1 = (i : Int) := by omega
  have e2 : ((i + 1 : Nat) : Int) + 1 = ((i + 2 : Nat) : Int) := rfl
  have va : (Val.encs m)[i + 1]? = some x.enc := by rw [encs_get, hx]; rfl
  have vb : (Val.encs m)[i]? = some y.enc := by rw [encs_get, hy]; rfl
  have hc := rcmp_ok y x (oks_mem hk (List.mem_of_getElem? hy)) (oks_mem hk (List.mem_of_getElem? hx))
  have hcm : (cmpV y x 4096).1 = cmpC y x := by
    unfold okP cmpR at hok
    unfold cmpC cmpR
    by_cases g : (cmpV y x 4096).2 < 0
    · rw [if_pos g] at hok; simp at hok
    · rw [if_neg g]
  rw [hcm] at hc
  unfold okP at hok
  rw [hok] at hc
  have hsw := cmpC_swap x y
  have hle := onceT_le m (i + 1)
  obtain ⟨q1, q2, q3, q4⟩ := once_row (onceT m (i + 1)) x (by omega)
  have hot : onceT m (i + 2) = if newB m (i + 1) then onceT m (i + 1) ++ m[i + 1]?.toList else onceT m (i + 1) := rfl
  have hnb : newB m (i + 1) = !(cmpC x y == 0) := by simp only [newB, hx, hy]
  unfold OnIs at ih ⊢
  rw [r14_B0_eq]
  by_cases g : cmpC y x = 0
  · have g0 : (cmpC y x != 0) = false := by simp [g]
    have g1 : (cmpC x y == 0) = true := by simp; omega
    rw [hot, hnb, g1, Bool.not_true, if_neg (by simp)] at ih
    simp (maxSteps := 1000000) (disch := omega) only [go_sem, and_self, and_true, true_and, false_and, and_false, Nat.reduceAdd, Nat.reduceMul, Nat.reduceSub, Nat.reduceLeDiff, Nat.reduceLT, Nat.reduceGT, Nat.reduceEqDiff, Nat.reduceBEq, Int.reduceNeg, Int.reduceEq, Int.reduceLT, Int.reduceLE, Int.reduceBEq, Int.reduceToNat, Int.toNat_natCast, Int.natCast_zero, r14_C0, h1, h2, i0, j0, e1, e2, va, vb, hc, g0, enc_w, enc_a, encs_len, w64]
    exact ih
  · have g0 : (cmpC y x != 0) = true := by simp [g]
    have g1 : (cmpC x y == 0) = false := by simp; omega
    rw [hot, hnb, g1, Bool.not_false, if_pos rfl, hx] at ih
    have e3 : (some x).toList = [x] := rfl
    rw [e3] at ih
    simp (maxSteps := 1000000) (disch := omega) only [go_sem, and_self, and_true, true_and, false_and, and_false, Nat.reduceAdd, Nat.reduceMul, Nat.reduceSub, Nat.reduceLeDiff, Nat.reduceLT, Nat.reduceGT, Nat.reduceEqDiff, Nat.reduceBEq, Int.reduceNeg, Int.reduceEq, Int.reduceLT, Int.reduceLE, Int.reduceBEq, Int.reduceToNat, Int.toNat_natCast, Int.natCast_zero, r14_C0, h1, h2, i0, j0, e1, e2, va, vb, hc, g0, q1, q2, q3, q4, enc_w, enc_a, encs_len, List.all_cons, List.all_nil, decide_true, w64]
    exact ih
theorem on_loop (hp : List Ent) (l : List Val) (k c s : Int) (t : ByteArray) (xs : List Val) (ks : List ByteArray) (m u : List Val) (hl : m.length ≤ 500) (hk : Val.oks m) (hpw : m.Pairwise okP) : ∀ (d i : Nat), i + d = m.length → OnIs hp l k c s t xs ks m u i
  | 0, i, h => by obtain rfl : i = m.length := by omega
                  exact on_end hp l k c s t xs ks m u
  | d + 1, 0, h => on_first hp l k c s t xs ks m u m[0] (List.getElem?_eq_getElem (by omega)) (on_loop hp l k c s t xs ks m u hl hk hpw d 1 (by omega))
  | d + 1, i + 1, h => on_step hp l k c s t xs ks m u hl hk i m[i + 1] m[i] (List.getElem?_eq_getElem (by omega)) (List.getElem?_eq_getElem (by omega)) (List.pairwise_iff_getElem.1 hpw i (i + 1) (by omega) (by omega) (by omega)) (on_loop hp l k c s t xs ks m u hl hk hpw d (i + 2) (by omega))

def AtIs (hp : List Ent) (l : List Val) (k c s : Int) (t : ByteArray) (xs : List Val) (ks : List ByteArray) (u o : List Val) (a : Int) (b : Bool) (i : Nat) (a' : Int) (b' : Bool) : Prop :=
  V (F tab) r14_B1 (r14_S1 (.d (.sl (Val.encs l))) (bxV k c s t (Val.encs xs) ks) (.d (.sl (Val.encs u))) (.own 27 (Val.encs o)) (.d (iv a)) (.d (.bool b)) (.d (iv i)) hp) =
    some (.norm, r14_E1 (.d (.sl (Val.encs l))) (bxV k c s t (Val.encs xs) ks) (.d (.sl (Val.encs u))) (.own 27 (Val.encs o)) (.d (iv a')) (.d (.bool b')) hp)
theorem at_end (hp : List Ent) (l : List Val) (k c s : Int) (t : ByteArray) (xs : List Val) (ks : List ByteArray) (u o : List Val) (a : Int) (b : Bool) : AtIs hp l k c s t xs ks u o a b l.length a b := by
  have h1 : ((l.length : Int) < (l.length : Int)) = False := eq_false (by omega)
  unfold AtIs
  rw [r14_B1_eq]
  simp (disch := omega) only [go_sem, and_self, and_true, true_and, false_and, and_false, Nat.reduceAdd, Nat.reduceMul, Nat.reduceSub, Nat.reduceLeDiff, Nat.reduceLT, Nat.reduceGT, Nat.reduceEqDiff, Nat.reduceBEq, Int.reduceNeg, Int.reduceEq, Int.reduceLT, Int.reduceLE, Int.reduceBEq, Int.reduceToNat, Int.toNat_natCast, Int.natCast_zero, r14_C1, h1, encs_len]
theorem at_found (hp : List Ent) (l : List Val) (k c s : Int) (t : ByteArray) (xs : List Val) (ks : List ByteArray) (u o : List Val) (a : Int) (i : Nat) (ha : 0 ≤ a) : AtIs hp l k c s t xs ks u o a true i a true := by
  have h2 : (a < 0) = False := eq_false (by omega)
  unfold AtIs
  rw [r14_B1_eq]
  by_cases h1 : (i : Int) < (l.length : Int)
  · simp (disch := omega) only [go_sem, and_self, and_true, true_and, false_and, and_false, Nat.reduceAdd, Nat.reduceMul, Nat.reduceSub, Nat.reduceLeDiff, Nat.reduceLT, Nat.reduceGT, Nat.reduceEqDiff, Nat.reduceBEq, Int.reduceNeg, Int.reduceEq, Int.reduceLT, Int.reduceLE, Int.reduceBEq, Int.reduceToNat, Int.toNat_natCast, Int.natCast_zero, r14_C1, h1, h2, encs_len]
  · simp (disch := omega) only [go_sem, and_self, and_true, true_and, false_and, and_false, Nat.reduceAdd, Nat.reduceMul, Nat.reduceSub, Nat.reduceLeDiff, Nat.reduceLT, Nat.reduceGT, Nat.reduceEqDiff, Nat.reduceBEq, Int.reduceNeg, Int.reduceEq, Int.reduceLT, Int.reduceLE, Int.reduceBEq, Int.reduceToNat, Int.toNat_natCast, Int.natCast_zero, r14_C1, h1, h2, encs_len]
theorem at_no (hp : List Ent) (l : List Val) (k c s : Int) (t : ByteArray) (xs : List Val) (ks : List ByteArray) (u o : List Val) (i : Nat) : AtIs hp l k c s t xs ks u o (-1) false i (-1) false := by
  have h2 : ((-1 : Int) < 0) = True := eq_true (by omega)
  unfold AtIs
  rw [r14_B1_eq]
  by_cases h1 : (i : Int) < (l.length : Int)
  · simp (disch := omega) only [go_sem, and_self, and_true, true_and, false_and, and_false, Nat.reduceAdd, Nat.reduceMul, Nat.reduceSub, Nat.reduceLeDiff, Nat.reduceLT, Nat.reduceGT, Nat.reduceEqDiff, Nat.reduceBEq, Int.reduceNeg, Int.reduceEq, Int.reduceLT, Int.reduceLE, Int.reduceBEq, Int.reduceToNat, Int.toNat_natCast, Int.natCast_zero, r14_C1, h1, h2, encs_len]
  · simp (disch := omega) only [go_sem, and_self, and_true, true_and, false_and, and_false, Nat.reduceAdd, Nat.reduceMul, Nat.reduceSub, Nat.reduceLeDiff, Nat.reduceLT, Nat.reduceGT, Nat.reduceEqDiff, Nat.reduceBEq, Int.reduceNeg, Int.reduceEq, Int.reduceLT, Int.reduceLE, Int.reduceBEq, Int.reduceToNat, Int.toNat_natCast, Int.natCast_zero, r14_C1, h1, h2, encs_len]
def atA (p : Int × Bool) : Int := if p.2 then p.1 else -1
set_option maxHeartbeats 1000000 in
theorem at_step (hp : List Ent) (l : List Val) (hl : l.length ≤ 500) (k c s : Int) (t : ByteArray) (xs : List Val) (ks : List ByteArray) (u o : List Val) (i : Nat) (x : Val) (hx : l[i]? = some x) (hxo : x.ok) (hvo : (Val.mk k c s t xs ks).ok)
    (ih : AtIs hp l k c s t xs ks u o (-1) true (i + 1) (atA (findV (l.drop (i + 1)) (.mk k c s t xs ks) (i + 1))) (findV (l.drop (i + 1)) (.mk k c s t xs ks) (i + 1)).2) :
    AtIs hp l k c s t xs ks u o (-1) true i (atA (findV (l.drop i) (.mk k c s t xs ks) i)) (findV (l.drop i) (.mk k c s t xs ks) i).2 := by
  have hi : i < l.length := (List.getElem?_eq_some_iff.1 hx).1
  have h1 : ((i : Int) < (l.length : Int)) = True := eq_true (by omega)
  have h2 : ((-1 : Int) < 0) = True := eq_true (by omega)
  have i0 : (0 ≤ (i : Int)) = True := eq_true (by omega)
  have va : (Val.encs l)[i]? = some x.enc := by rw [encs_get, hx]; rfl
  have e1 : (i : Int) + 1 = ((i + 1 : Nat) : Int) := rfl
  have hc := rcmp_ok x (.mk k c s t xs ks) hxo hvo
  simp only [Val.enc] at hc
  have hd : l.drop i = x :: l.drop (i + 1) := by
    rw [List.drop_eq_getElem_cons hi]
    obtain ⟨_, e⟩ := List.getElem?_eq_some_iff.1 hx
    rw [e]
  have f1 := at_found hp l k c s t xs ks u o (i : Int) (i + 1) (by omega)
  have f2 := at_no hp l k c s t xs ks u o (i + 1)
  unfold AtIs at ih f1 f2 ⊢
  rw [hd, findV]
  have hcm : (cmpR x (.mk k c s t xs ks)).2 = true → (cmpV x (.mk k c s t xs ks) 4096).1 = (cmpR x (.mk k c s t xs ks)).1 := by
    intro g
    unfold cmpR at g ⊢
    by_cases g' : (cmpV x (.mk k c s t xs ks) 4096).2 < 0
    · rw [if_pos g'] at g; simp at g
    · rw [if_neg g']
  rw [r14_B1_eq]
  rcases Bool.eq_false_or_eq_true (cmpR x (.mk k c s t xs ks)).2 with g | g
  · rw [hcm g, g] at hc
    rw [g, if_neg (by simp)]
    by_cases g2 : (cmpR x (.mk k c s t xs ks)).1 = 0
    · have gz : ((0 : Int) == 0) = true := rfl
      rw [g2] at hc
      rw [if_pos g2]
      simp only [atA, if_true]
      simp (maxSteps := 1000000) (disch := omega) only [go_sem, and_self, and_true, true_and, false_and, and_false, Nat.reduceAdd, Nat.reduceMul, Nat.reduceSub, Nat.reduceLeDiff, Nat.reduceLT, Nat.reduceGT, Nat.reduceEqDiff, Nat.reduceBEq, Int.reduceNeg, Int.reduceEq, Int.reduceLT, Int.reduceLE, Int.reduceBEq, Int.reduceToNat, Int.toNat_natCast, Int.natCast_zero, r14_C1, h1, h2, i0, va, hc, gz, e1, enc_w, enc_a, encs_len, w64]
      exact f1
    · have gz : ((cmpR x (.mk k c s t xs ks)).1 == 0) = false := by simpa using g2
      rw [if_neg g2]
      simp (maxSteps := 1000000) (disch := omega) only [go_sem, and_self, and_true, true_and, false_and, and_false, Nat.reduceAdd, Nat.reduceMul, Nat.reduceSub, Nat.reduceLeDiff, Nat.reduceLT, Nat.reduceGT, Nat.reduceEqDiff, Nat.reduceBEq, Int.reduceNeg, Int.reduceEq, Int.reduceLT, Int.reduceLE, Int.reduceBEq, Int.reduceToNat, Int.toNat_natCast, Int.natCast_zero, r14_C1, h1, h2, i0, va, hc, gz, e1, enc_w, enc_a, encs_len, w64]
      exact ih
  · rw [g] at hc
    rw [if_pos g]
    simp only [atA, Bool.false_eq_true, if_false]
    simp (maxSteps := 1000000) (disch := omega) only [go_sem, and_self, and_true, true_and, false_and, and_false, Nat.reduceAdd, Nat.reduceMul, Nat.reduceSub, Nat.reduceLeDiff, Nat.reduceLT, Nat.reduceGT, Nat.reduceEqDiff, Nat.reduceBEq, Int.reduceNeg, Int.reduceEq, Int.reduceLT, Int.reduceLE, Int.reduceBEq, Int.reduceToNat, Int.toNat_natCast, Int.natCast_zero, r14_C1, h1, h2, i0, va, hc, e1, enc_w, enc_a, encs_len, w64]
    exact f2
theorem at_loop (hp : List Ent) (l : List Val) (hl : l.length ≤ 500) (hk : Val.oks l) (k c s : Int) (t : ByteArray) (xs : List Val) (ks : List ByteArray) (hvo : (Val.mk k c s t xs ks).ok) (u o : List Val) : ∀ (d i : Nat), i + d = l.length → AtIs hp l k c s t xs ks u o (-1) true i (atA (findV (l.drop i) (.mk k c s t xs ks) i)) (findV (l.drop i) (.mk k c s t xs ks) i).2
  | 0, i, h => by
    obtain rfl : i = l.length := by omega
    rw [List.drop_of_length_le (Nat.le_refl _)]
    exact at_end hp l k c s t xs ks u o (-1) true
  | d + 1, i, h => at_step hp l hl k c s t xs ks u o i l[i] (List.getElem?_eq_getElem (by omega)) (oks_mem hk (List.getElem_mem _)) hvo (at_loop hp l hl hk k c s t xs ks hvo u o d (i + 1) (by omega))

/-! ### the law's second half -/
def osrC5 : RCode := r14_K5 ()
theorem osr_hK5 {s : St} : V (F tab) (hold r14_K5) s = V (F tab) osrC5 s := rfl
set_option maxHeartbeats 2000000 in
theorem osr_tail (l : List Val) (hl : l.length ≤ 12) (hk : Val.oks l) (k c s : Int) (t : ByteArray) (xs : List Val) (ks : List ByteArray) (hvo : (Val.mk k c s t xs ks).ok) (m : List Val) (hml : m.length ≤ 12) (hkm : Val.oks m) (hpw : m.Pairwise okP) (ok : Bool) (hp hp' : List Ent) (a1 a21 a22 a23 a24 a25 a26 a27 a28 a29 a30 a31 a32 a33 a34 a35 a36 a37 a38 a39 a40 a41 a42 a43 a44 a45 : PV) :
    fnEnd r14 hp' (V (F tab) osrC5 ⟨[.d (.sl (Val.encs l)), a1, .dead, bxV k c s t (Val.encs xs) ks, .d (.bool false), .d (.sl (Val.encs m)), .d (.bool ok), .d (.sl (Val.encs m)), .d (.bool ok), .d (.sl (Val.encs (onceV m))), .d (.bool ok), .dead, .dead, .dead, .dead, .dead, .dead, .dead, .dead, .dead, .dead, a21, a22, a23, a24, a25, a26, a27, a28, a29, a30, a31, a32, a33, a34, a35, a36, a37, a38, a39, a40, a41, a42, a43, a44, a45, .dead, .dead, .dead, .dead, .dead, .dead, .dead, .dead, .dead, .dead, .dead, .dead, .dead, .dead, .dead, .dead, .dead, .dead, .dead, .dead, .dead, .dead, .dead, .dead, .dead, .dead, .dead, .dead, .dead, .dead, .dead, .dead, .dead, .dead, .dead, .dead, .dead, .dead, .dead, .dead, .dead, .dead, .dead, .dead, .dead, .dead, .dead, .dead, .dead, .dead, .dead, .dead, .dead, .dead, .dead, .dead, .dead, .dead, .dead, .dead, .dead, .dead, .dead, .dead, .dead, .dead, .dead, .dead, .dead, .dead, .dead, .dead, .dead, .dead, .dead, .dead, .dead, .dead, .dead, .dead, .dead, .dead, .dead, .dead, .dead, .dead, .dead, .dead, .dead, .dead, .dead, .dead, .dead, .dead, .dead, .dead, .dead], hp⟩) = some (.ret (.d (.bool true)) hp') := by
  have hL := lives7_ok
  have bb : ∀ u : Bool, (u != u) = false := fun u => by simp
  have be : ∀ u : Bool, (u == u) = true := fun u => by simp
  have hs := same_ok m (by omega) hkm
  have ho := onceT_le m m.length
  have hs2 := same_ok (onceV m) (by unfold onceV; omega) (onceT_oks m hkm _)
  have l1 := on_loop hp l k c s t xs ks m (onceV m) (by omega) hkm hpw m.length 0 (by omega)
  have l2 := at_loop hp l (by omega) hk k c s t xs ks hvo (onceV m) (onceV m) l.length 0 (by omega)
  have hf := find_ok l (by omega) hk (.mk k c s t xs ks) hvo
  have hno := findV_no l (.mk k c s t xs ks) 0
  unfold OnIs at l1
  unfold AtIs at l2
  rw [List.drop_zero] at l2
  simp only [Val.enc] at hf
  generalize findV l (.mk k c s t xs ks) 0 = z at *
  obtain ⟨a, b⟩ := z
  have e0 : onceT m 0 = [] := rfl
  have hn : Val.encs [] = [] := rfl
  rw [e0, hn] at l1
  simp (maxSteps := 2000000) (disch := omega) only [go_sem, and_self, and_true, true_and, false_and, and_false, Nat.reduceAdd, Nat.reduceMul, Nat.reduceSub, Nat.reduceLeDiff, Nat.reduceLT, Nat.reduceGT, Nat.reduceEqDiff, Nat.reduceBEq, Int.reduceNeg, Int.reduceEq, Int.reduceLT, Int.reduceLE, Int.reduceBEq, Int.reduceToNat, Int.toNat_natCast, Int.natCast_zero, osrC5, r14_K5, r14, bb, hs]
  rw [r14_B0_n, r14_B0_z11]
  erw [l1]
  simp (maxSteps := 2000000) (disch := omega) only [go_sem, and_self, and_true, true_and, false_and, and_false, Nat.reduceAdd, Nat.reduceMul, Nat.reduceSub, Nat.reduceLeDiff, Nat.reduceLT, Nat.reduceGT, Nat.reduceEqDiff, Nat.reduceBEq, Int.reduceNeg, Int.reduceEq, Int.reduceLT, Int.reduceLE, Int.reduceBEq, Int.reduceToNat, Int.toNat_natCast, Int.natCast_zero]
  rw [r14_B1_n]
  erw [l2]
  have ie : ∀ u : Int, (u == u) = true := fun u => by simp
  cases b with
  | true =>
    simp only [atA, if_true] at *
    simp (maxSteps := 2000000) (disch := omega) only [go_sem, and_self, and_true, true_and, false_and, and_false, Nat.reduceAdd, Nat.reduceMul, Nat.reduceSub, Nat.reduceLeDiff, Nat.reduceLT, Nat.reduceGT, Nat.reduceEqDiff, Nat.reduceBEq, Int.reduceNeg, Int.reduceEq, Int.reduceLT, Int.reduceLE, Int.reduceBEq, Int.reduceToNat, Int.toNat_natCast, Int.natCast_zero, hf, hs2, be, ie, hL]
  | false =>
    obtain rfl : a = 0 := hno rfl
    simp (maxSteps := 2000000) (disch := omega) only [go_sem, and_self, and_true, true_and, false_and, and_false, Nat.reduceAdd, Nat.reduceMul, Nat.reduceSub, Nat.reduceLeDiff, Nat.reduceLT, Nat.reduceGT, Nat.reduceEqDiff, Nat.reduceBEq, Int.reduceNeg, Int.reduceEq, Int.reduceLT, Int.reduceLE, Int.reduceBEq, Int.reduceToNat, Int.toNat_natCast, Int.natCast_zero, hf, hs2, be, ie, hL]
end Go.Pe.T

namespace Go.Pe.T
theorem light_len' {l : List Val} (h : lightL l = true) : l.length ≤ 12 := by
  simp only [lightL, Bool.and_eq_true, decide_eq_true_eq] at h
  exact h.2
set_option maxHeartbeats 2000000 in
theorem OrderSorts_ok (l : List Val) (v : Val) (hm : l.length ≤ maxLen) (hk : Val.oks l) (hv : v.ok) (hp : List Ent) : F tab 14 [.d (.sl (Val.encs l)), .d v.enc] hp = some (.ret (.d (.bool true)) hp) := by
  have hl := light7_ok l hm hk
  have hlv := light7_ok [v] (by simp [maxLen]) ⟨hv, trivial⟩
  have hL := lives7_ok
  obtain ⟨k, c, s, t, xs, ks⟩ := v
  simp only [Val.encs, Val.enc] at hlv
  refine f14 rfl ?_
  simp only [Val.enc]
  rcases Bool.eq_false_or_eq_true (lightL l) with g | g
  · rw [g] at hl
    rcases Bool.eq_false_or_eq_true (lightL [.mk k c s t xs ks]) with gv | gv
    · rw [gv] at hlv
      have h12 := light_len' g
      have hs := fun hp => osort_ok l h12 hk hp
      have hr := fun hp => rsort_ok l (by omega) hk hp
      rcases Bool.eq_false_or_eq_true (toldV l) with gt | gt
      · simp only [gt, if_true] at hs hr
        have hs := hs []
        obtain ⟨e, he, hu⟩ := unique_ok l h12 hk [.gone]
        simp only [gt, if_true] at hu
        have hpm := sortV_perm l
        have hf1 : ∀ (tm : List PV) (n : Nat), tm.getD n .dead = .rowh 0 0 l.length → frzOp ⟨tm, [rowEnt (Val.encs (sortV l))]⟩ 6 true (.t n) = some (.d (.sl (Val.encs (sortV l))), ⟨tm, [.gone]⟩) :=
          fun tm n h => frz_row (s := ⟨tm, [rowEnt (Val.encs (sortV l))]⟩) (x := .t n) (id := 0) (encRow (sortV l)) (by rw [encs_len, sortV_len]; exact h) rfl
        have hf2 : ∀ (tm : List PV) (n : Nat), tm.getD n .dead = .rowh 1 0 (onceV (sortV l)).length → frzOp ⟨tm, [.gone, e]⟩ 6 true (.t n) = some (.d (.sl (Val.encs (onceV (sortV l)))), ⟨tm, [.gone, .gone]⟩) :=
          fun tm n h => frz_fr1 he tm n 1 [.gone, e] rfl h
        simp (maxSteps := 2000000) (disch := omega) only [go_sem, and_self, and_true, true_and, false_and, and_false, Nat.reduceAdd, Nat.reduceMul, Nat.reduceSub, Nat.reduceLeDiff, Nat.reduceLT, Nat.reduceGT, Nat.reduceEqDiff, Nat.reduceBEq, Int.reduceNeg, Int.reduceEq, Int.reduceLT, Int.reduceLE, Int.reduceBEq, Int.reduceToNat, Int.toNat_natCast, Int.natCast_zero, ↓osr_hK5, r14_T, r14, hl, hlv, hs, demote_rowh]
        rw [hf1 _ _ rfl]
        simp (maxSteps := 2000000) (disch := omega) only [go_sem, and_self, and_true, true_and, false_and, and_false, Nat.reduceAdd, Nat.reduceMul, Nat.reduceSub, Nat.reduceLeDiff, Nat.reduceLT, Nat.reduceGT, Nat.reduceEqDiff, Nat.reduceBEq, Int.reduceNeg, Int.reduceEq, Int.reduceLT, Int.reduceLE, Int.reduceBEq, Int.reduceToNat, Int.toNat_natCast, Int.natCast_zero, ↓osr_hK5, hr, hu, demote_rowh]
        rw [hf2 _ _ rfl]
        simp (maxSteps := 2000000) (disch := omega) only [go_sem, and_self, and_true, true_and, false_and, and_false, Nat.reduceAdd, Nat.reduceMul, Nat.reduceSub, Nat.reduceLeDiff, Nat.reduceLT, Nat.reduceGT, Nat.reduceEqDiff, Nat.reduceBEq, Int.reduceNeg, Int.reduceEq, Int.reduceLT, Int.reduceLE, Int.reduceBEq, Int.reduceToNat, Int.toNat_natCast, Int.natCast_zero, ↓osr_hK5]
        apply osr_tail l h12 hk k c s t xs ks hv (sortV l) (by rw [sortV_len]; exact h12) (oks_perm hpm.symm hk) (sortV_ok (toldV_pw gt)) true
      · simp only [gt, Bool.false_eq_true, if_false] at hs hr
        have hs := hs []
        obtain ⟨e, he, hu⟩ := unique_ok l h12 hk []
        simp only [gt, Bool.false_eq_true, if_false] at hu
        simp (maxSteps := 2000000) (disch := omega) only [go_sem, and_self, and_true, true_and, false_and, and_false, Nat.reduceAdd, Nat.reduceMul, Nat.reduceSub, Nat.reduceLeDiff, Nat.reduceLT, Nat.reduceGT, Nat.reduceEqDiff, Nat.reduceBEq, Int.reduceNeg, Int.reduceEq, Int.reduceLT, Int.reduceLE, Int.reduceBEq, Int.reduceToNat, Int.toNat_natCast, Int.natCast_zero, ↓osr_hK5, r14_T, r14, hl, hlv, hs, hr, hu, demote_rowh, frzOp]
        apply osr_tail l h12 hk k c s t xs ks hv [] (by simp) trivial List.Pairwise.nil false
    · rw [gv] at hlv
      simp (maxSteps := 2000000) (disch := omega) only [go_sem, and_self, and_true, true_and, false_and, and_false, Nat.reduceAdd, Nat.reduceMul, Nat.reduceSub, Nat.reduceLeDiff, Nat.reduceLT, Nat.reduceGT, Nat.reduceEqDiff, Nat.reduceBEq, Int.reduceNeg, Int.reduceEq, Int.reduceLT, Int.reduceLE, Int.reduceBEq, Int.reduceToNat, Int.toNat_natCast, Int.natCast_zero, r14_T, r14, hl, hlv, hL]
  · rw [g] at hl
    simp (maxSteps := 2000000) (disch := omega) only [go_sem, and_self, and_true, true_and, false_and, and_false, Nat.reduceAdd, Nat.reduceMul, Nat.reduceSub, Nat.reduceLeDiff, Nat.reduceLT, Nat.reduceGT, Nat.reduceEqDiff, Nat.reduceBEq, Int.reduceNeg, Int.reduceEq, Int.reduceLT, Int.reduceLE, Int.reduceBEq, Int.reduceToNat, Int.toNat_natCast, Int.natCast_zero, r14_T, r14, hl, hL]
end Go.Pe.T
