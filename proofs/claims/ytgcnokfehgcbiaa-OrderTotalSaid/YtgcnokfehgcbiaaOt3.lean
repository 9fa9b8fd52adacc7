/- A part of the proof of: Three values in three lists of arguments: the comparison answers the same the other way round, with the sign turned; a value is like itself; what is ahead of what is ahead of a third one is ahead of that; and what was sorted, sorted again, stays as it is. -/
import Derived.Test.YtgcnokfehgcbiaaOt2
import Derived.Test.YtgcnokfehgcbiaaPe3
set_option linter.unusedSimpArgs false
set_option linter.unusedVariables false
set_option maxRecDepth 10000

namespace Go.Pe.T
/-! ### turned about -/
theorem sgn_swap (a b : Int) : sgn b a = -sgn a b := by
  unfold sgn; split <;> split <;> (try split) <;> (try split) <;> omega

theorem sgn_zero' {a b : Int} : sgn a b = 0 ↔ a = b := by
  unfold sgn; split
  · omega
  · split <;> omega
theorem rank_inj {k k' : Int} (h : rankOf k = rankOf k') {m : Int} (a : 0 ≤ m) (b : m ≤ 7) : k = m ↔ k' = m := by
  unfold rankOf at h
  split at h <;> split at h <;> (try split at h) <;> (try split at h) <;> omega

theorem mism_swap : ∀ (a b : List UInt8), mism b a = (mism a b).map (fun c => -c)
  | [], [] => rfl
  | [], _ :: _ => rfl
  | _ :: _, [] => rfl
  | x :: a, y :: b => by
    have ih := mism_swap a b
    simp only [mism] at ih ⊢
    by_cases h : x = y
    · subst h
      simp only [if_true]
      exact ih
    · have h' : ¬ y = x := fun e => h e.symm
      simp only [h, h', if_false, Option.map_some, Option.some.injEq]
      exact sgn_swap _ _

theorem txt_swap (a b : ByteArray) : txt b a = -txt a b := by
  unfold txt txtL
  rw [mism_swap]
  cases mism a.data.toList b.data.toList with
  | none => simp only [Option.map_none, Option.getD_none]; exact sgn_swap _ _
  | some c => rfl

theorem keysO_swap : ∀ (a b : List ByteArray), keysO b a = (keysO a b).map (fun c => -c)
  | [], [] => rfl
  | [], _ :: _ => rfl
  | _ :: _, [] => rfl
  | x :: a, y :: b => by
    have ih := keysO_swap a b
    have ht := txt_swap x y
    simp only [keysO] at ih ⊢
    by_cases h : txt x y = 0
    · have h' : txt y x = 0 := by rw [ht, h]; rfl
      simp only [h, h', if_true]
      exact ih
    · have h' : ¬ txt y x = 0 := by rw [ht]; omega
      have h'' : ¬ -txt x y = 0 := by omega
      simp only [h, h', h'', if_false, Option.map_some, ht]

theorem keysC_swap (a b : List ByteArray) : keysC b a = -keysC a b := by
  unfold keysC
  rw [keysO_swap]
  cases keysO a b with
  | none => simp only [Option.map_none, Option.getD_none]; exact sgn_swap _ _
  | some c => rfl

mutual
theorem cmpV_swap : ∀ (x y : Val) (left : Int), cmpV y x left = (-(cmpV x y left).1, (cmpV x y left).2)
  | .mk k c s t xs ks, .mk k' c' s' t' ys ks', left => by
    have ih := cmpVs_swap xs ys (left - 1)
    simp only [cmpV]
    by_cases h1 : left - 1 < 0
    · simp only [h1, if_true]; rfl
    · simp only [h1, if_false]
      have e := sgn_swap (rankOf k) (rankOf k')
      by_cases h2 : sgn (rankOf k) (rankOf k') = 0
      · have h2' : sgn (rankOf k') (rankOf k) = 0 := by rw [e, h2]; rfl
        have hr : rankOf k = rankOf k' := sgn_zero'.1 h2
        simp only [h2, h2', ne_eq, not_true, if_false]
        have q : ∀ m : Int, 0 ≤ m → m ≤ 7 → (k = m ↔ k' = m) := fun m a b => rank_inj hr a b
        by_cases h3 : k = 3
        · have h3' := (q 3 (by omega) (by omega)).1 h3
          simp only [h3, h3', if_true, sgn_swap (flatS c s) (flatS c' s')]
        · have h3' : ¬ k' = 3 := fun g => h3 ((q 3 (by omega) (by omega)).2 g)
          simp only [h3, h3', if_false]
          by_cases h4 : k = 4 ∨ k = 7
          · have h4' : k' = 4 ∨ k' = 7 := h4.elim (fun g => .inl ((q 4 (by omega) (by omega)).1 g)) (fun g => .inr ((q 7 (by omega) (by omega)).1 g))
            simp only [h4, h4', if_true, txt_swap t t']
          · have h4' : ¬ (k' = 4 ∨ k' = 7) := fun g => h4 (g.elim (fun g => .inl ((q 4 (by omega) (by omega)).2 g)) (fun g => .inr ((q 7 (by omega) (by omega)).2 g)))
            simp only [h4, h4', if_false]
            by_cases h5 : k = 5
            · have h5' := (q 5 (by omega) (by omega)).1 h5
              simp only [h5, h5', if_true, ih]
            · have h5' : ¬ k' = 5 := fun g => h5 ((q 5 (by omega) (by omega)).2 g)
              simp only [h5, h5', if_false]
              by_cases h6 : k = 6
              · have h6' := (q 6 (by omega) (by omega)).1 h6
                have ek := keysC_swap ks ks'
                simp only [h6, h6', if_true]
                by_cases h7 : keysC ks ks' = 0
                · have h7' : keysC ks' ks = 0 := by rw [ek, h7]; rfl
                  simp only [h7, h7', ne_eq, not_true, if_false, ih]
                · have h7' : ¬ keysC ks' ks = 0 := by rw [ek]; omega
                  have h7'' : ¬ -keysC ks ks' = 0 := by omega
                  simp only [h7, h7', h7'', ne_eq, not_false_eq_true, if_true, ek]
              · have h6' : ¬ k' = 6 := fun g => h6 ((q 6 (by omega) (by omega)).2 g)
                simp only [h6, h6', if_false]
                rfl
      · have h2' : ¬ sgn (rankOf k') (rankOf k) = 0 := by rw [e]; omega
        have h2'' : ¬ -sgn (rankOf k) (rankOf k') = 0 := by omega
        simp only [h2, h2', h2'', ne_eq, not_false_eq_true, if_true, e]
theorem cmpVs_swap : ∀ (a b : List Val) (left : Int), cmpVs b a left = (-(cmpVs a b left).1, (cmpVs a b left).2)
  | [], [], left => by simp [cmpVs, sgn]
  | [], _ :: b, left => by simp only [cmpVs]; rw [sgn_swap]
  | _ :: a, [], left => by simp only [cmpVs]; rw [sgn_swap]
  | x :: a, y :: b, left => by
    have i1 := cmpV_swap x y left
    have i2 := cmpVs_swap a b (cmpV x y left).2
    simp only [cmpVs, i1]
    by_cases h : (cmpV x y left).1 ≠ 0 ∨ (cmpV x y left).2 < 0
    · have h' : -(cmpV x y left).1 ≠ 0 ∨ (cmpV x y left).2 < 0 := h.elim (fun g => .inl (by omega)) .inr
      simp only [h, h', if_true]
    · have h' : ¬ (-(cmpV x y left).1 ≠ 0 ∨ (cmpV x y left).2 < 0) := fun g => h (g.elim (fun g => .inl (by omega)) .inr)
      simp only [h, h', if_false, i2]
end

theorem cmpR_swap (x y : Val) : cmpR y x = (-(cmpR x y).1, (cmpR x y).2) := by
  unfold cmpR
  rw [cmpV_swap x y]
  by_cases h : (cmpV x y 4096).2 < 0 <;> simp [h]
end Go.Pe.T

namespace Go.Pe.T
/-! ### sorting by insertion, in plain -/
/-- what the comparison says; 0: no answer -/
def cmpC (x y : Val) : Int := (cmpR x y).1
theorem cmpC_swap (x y : Val) : cmpC y x = -cmpC x y := by unfold cmpC; rw [cmpR_swap x y]

/-- the one at place j goes down, as long as it is ahead of the one below -/
def sink : List Val → Nat → List Val
  | l, 0 => l
  | l, j + 1 => match l[j + 1]?, l[j]? with
    | some x, some y => if cmpC x y < 0 then sink ((l.set (j + 1) y).set j x) j else l
    | _, _ => l

def sortFrom : List Val → Nat → Nat → List Val
  | l, _, 0 => l
  | l, i, k + 1 => sortFrom (sink l i) (i + 1) k

def sortV (l : List Val) : List Val := sortFrom l 1 (l.length - 1)

theorem swap_perm : ∀ (l : List Val) (j : Nat) (x y : Val), l[j + 1]? = some x → l[j]? = some y → ((l.set (j + 1) y).set j x).Perm l
  | [], j, x, y, h, _ => by simp at h
  | a :: l, 0, x, y, h, h2 => by
    simp only [List.getElem?_cons_zero, Option.some.injEq] at h2
    subst h2
    cases l with
    | nil => simp at h
    | cons b l =>
      simp only [List.getElem?_cons_succ, List.getElem?_cons_zero, Option.some.injEq] at h
      subst h
      simp only [List.set_cons_succ, List.set_cons_zero]
      exact List.Perm.swap _ _ _
  | a :: l, j + 1, x, y, h, h2 => by
    simp only [List.getElem?_cons_succ] at h h2
    simp only [List.set_cons_succ]
    exact (swap_perm l j x y h h2).cons a

theorem sink_perm : ∀ (j : Nat) (l : List Val), (sink l j).Perm l
  | 0, l => List.Perm.refl _
  | j + 1, l => by
    rw [sink]
    split
    · rename_i x y hx hy
      split
      · exact (sink_perm j _).trans (swap_perm l j x y hx hy)
      · exact List.Perm.refl _
    · exact List.Perm.refl _

theorem sortFrom_perm : ∀ (k i : Nat) (l : List Val), (sortFrom l i k).Perm l
  | 0, i, l => List.Perm.refl _
  | k + 1, i, l => (sortFrom_perm k (i + 1) _).trans (sink_perm i l)
theorem sortV_perm (l : List Val) : (sortV l).Perm l := sortFrom_perm _ _ _
theorem sink_len (l : List Val) (j : Nat) : (sink l j).length = l.length := (sink_perm j l).length_eq
theorem sortV_len (l : List Val) : (sortV l).length = l.length := (sortV_perm l).length_eq

/-- two neighbours stand well -/
def Adj (l : List Val) (k : Nat) : Prop := ∀ x y, l[k]? = some x → l[k + 1]? = some y → cmpC x y ≤ 0

/-- but for place j all neighbours up to place i stand well -/
structure Sinking (l : List Val) (j i : Nat) : Prop where
  out : ∀ k, k + 1 ≤ i → k + 1 ≠ j → k ≠ j → Adj l k
  up : j < i → Adj l j
  over : ∀ m, j = m + 1 → j < i → ∀ x y, l[m]? = some x → l[m + 2]? = some y → cmpC x y ≤ 0

theorem sink_adj : ∀ (j i : Nat) (l : List Val), i < l.length → j ≤ i → Sinking l j i → ∀ k, k + 1 ≤ i → Adj (sink l j) k
  | 0, i, l, hi, hj, h, k, hk => by
    rw [sink]
    by_cases e : k = 0
    · subst e; exact h.up (by omega)
    · exact h.out k hk (by omega) e
  | j + 1, i, l, hi, hj, h, k, hk => by
    have hx : l[j + 1]? = some l[j + 1] := List.getElem?_eq_getElem (by omega)
    have hy : l[j]? = some l[j] := List.getElem?_eq_getElem (by omega)
    rw [sink, hx, hy]
    simp only
    split
    · rename_i hlt
      refine sink_adj j i _ (by simpa using hi) (by omega) ?_ k hk
      generalize hxx : l[j + 1] = x at *
      generalize hyy : l[j] = y at *
      have g0 : ((l.set (j + 1) y).set j x)[j]? = some x := by rw [List.getElem?_set_self (by simp; omega)]
      have g1 : ((l.set (j + 1) y).set j x)[j + 1]? = some y := by rw [List.getElem?_set_ne (by omega), List.getElem?_set_self (by omega)]
      have gk : ∀ m, m ≠ j → m ≠ j + 1 → ((l.set (j + 1) y).set j x)[m]? = l[m]? := fun m a b => by rw [List.getElem?_set_ne (Ne.symm a), List.getElem?_set_ne (Ne.symm b)]
      refine ⟨fun k h1 h2 h3 => ?_, fun _ => ?_, fun m hm h1 => ?_⟩
      · intro a b ha hb
        by_cases e : k = j + 1
        · subst e
          rw [g1] at ha
          simp only [Option.some.injEq] at ha
          subst ha
          rw [gk _ (by omega) (by omega)] at hb
          exact h.over j rfl (by omega) y b hy hb
        · rw [gk _ h3 e] at ha
          rw [gk _ (by omega) (by omega)] at hb
          exact h.out k h1 (by omega) e a b ha hb
      · intro a b ha hb
        rw [g0] at ha
        rw [g1] at hb
        simp only [Option.some.injEq] at ha hb
        subst ha; subst hb
        omega
      · subst hm
        intro a b ha hb
        rw [gk _ (by omega) (by omega)] at ha
        rw [g1] at hb
        simp only [Option.some.injEq] at hb
        subst hb
        exact h.out m (by omega) (by omega) (by omega) a y ha hy
    · rename_i hge
      by_cases e : k = j
      · subst e
        intro a b ha hb
        rw [hy] at ha
        rw [hx] at hb
        simp only [Option.some.injEq] at ha hb
        subst ha; subst hb
        have := cmpC_swap l[k] l[k + 1]
        omega
      · by_cases e2 : k = j + 1
        · subst e2; exact h.up (by omega)
        · exact h.out k hk (by omega) e2

theorem sortFrom_adj : ∀ (k i : Nat) (l : List Val), i + k = l.length → 0 < i → (∀ m, m + 1 < i → Adj l m) → ∀ m, m + 1 < l.length → Adj (sortFrom l i k) m
  | 0, i, l, hi, _, h, m, hm => h m (by omega)
  | k + 1, i, l, hi, h0, h, m, hm => by
    rw [sortFrom]
    have hl := sink_len l i
    refine sortFrom_adj k (i + 1) _ (by omega) (by omega) ?_ m (by omega)
    intro q hq
    refine sink_adj i i l (by omega) (Nat.le_refl _) ⟨fun k a b c => h k (by omega), fun a => absurd a (Nat.lt_irrefl _), fun _ _ a => absurd a (Nat.lt_irrefl _)⟩ q (by omega)

theorem sortV_adj (l : List Val) (m : Nat) (hm : m + 1 < l.length) : Adj (sortV l) m :=
  sortFrom_adj (l.length - 1) 1 l (by omega) (by omega) (fun q hq => by omega) m hm

/-- each two have an answer -/
def okP (x y : Val) : Prop := (cmpR x y).2 = true
theorem okP_swap {x y : Val} (h : okP x y) : okP y x := by unfold okP at *; rw [cmpR_swap x y]; exact h
theorem sortV_ok {l : List Val} (h : l.Pairwise okP) : (sortV l).Pairwise okP := ((sortV_perm l).symm.pairwise_iff (fun h => okP_swap h)).1 h

def toldAux (p : List Val) : List Val → Bool
  | [] => true
  | x :: r => (p.all fun y => (cmpR y x).2) && toldAux (p ++ [x]) r
theorem toldAux_pw : ∀ (r p : List Val), p.Pairwise okP → toldAux p r = true → (p ++ r).Pairwise okP
  | [], p, hp, _ => by simpa using hp
  | x :: r, p, hp, h => by
    simp only [toldAux, Bool.and_eq_true, List.all_eq_true] at h
    have := toldAux_pw r (p ++ [x]) (by
      rw [List.pairwise_append]
      refine ⟨hp, by simp, fun a ha b hb => ?_⟩
      simp only [List.mem_singleton] at hb
      subst hb
      exact h.1 a ha) h.2
    simpa using this
def toldV (l : List Val) : Bool := toldAux [] l
theorem toldV_pw {l : List Val} (h : toldV l = true) : l.Pairwise okP := by
  have := toldAux_pw l [] List.Pairwise.nil h
  simpa using this
end Go.Pe.T

namespace Go.Pe.T
/-! ### told; the comparison handed on -/

theorem encRow : ∀ (l : List Val), AggRow 6 (Val.encs l) := by
  have key : ∀ (l : List Val) (y : D), y ∈ Val.encs l → ∃ v : Val, y = v.enc := by
    intro l
    induction l with
    | nil => intro y h; simp [Val.encs] at h
    | cons v l ih =>
      intro y h
      simp only [Val.encs, List.mem_cons] at h
      rcases h with h | h
      · exact ⟨v, h⟩
      · exact ih y h
  intro l
  refine ⟨fun y h => ?_, fun y h => ?_, fun y h c hc => ?_⟩ <;> obtain ⟨v, rfl⟩ := key l y h
  · exact enc_a v
  · exact enc_w v
  · cases v
    simp only [Val.enc, D.cells, List.mem_cons, List.not_mem_nil, or_false] at hc
    rcases hc with rfl | rfl | rfl | rfl | rfl | rfl <;> rfl

theorem encs_set : ∀ (l : List Val) (i : Nat) (v : Val), (Val.encs l).set i v.enc = Val.encs (l.set i v)
  | [], i, v => by simp [Val.encs]
  | x :: l, 0, v => by simp [Val.encs]
  | x :: l, i + 1, v => by simp [Val.encs, encs_set l i v]

theorem cmpf_ok (x y : Val) (hx : x.ok) (hy : y.ok) (hp : List Ent) : F tab 72 [.d x.enc, .d y.enc] hp = some (.ret (.d (iv (cmpC x y))) hp) := by
  have h := ocmp_ok x y hx hy
  refine f72 rfl ?_
  unfold cmpC
  obtain ⟨k, c, s, t, xs, ks, ex⟩ := enc_as x
  obtain ⟨k', c', s', t', ys, ks', ey⟩ := enc_as y
  rw [ex, ey] at h ⊢
  simp (disch := omega) only [go_sem, and_self, and_true, true_and, false_and, and_false, Nat.reduceAdd, Nat.reduceMul, Nat.reduceSub, Nat.reduceLeDiff, Nat.reduceLT, Nat.reduceGT, Nat.reduceEqDiff, Nat.reduceBEq, Int.reduceNeg, Int.reduceEq, Int.reduceLT, Int.reduceLE, Int.reduceBEq, Int.reduceToNat, Int.toNat_natCast, Int.natCast_zero, r72_T, r72, h]

def TdIn (l : List Val) (x : Val) (i j : Nat) : Prop :=
  V (F tab) r69_B1 (r69_S1 (.d (.sl (Val.encs l))) (.d (iv i)) (.d (iv l.length)) (.d (iv i)) (.d (iv i)) (.d (iv j)) []) =
    if ((l.take i).drop j).all (fun y => (cmpR y x).2) then some (.norm, r69_E1 (.d (.sl (Val.encs l))) (.d (iv l.length)) (.d (iv i)) []) else some (.ret, r69_R (.d (.bool false)) [])

theorem td_end (l : List Val) (x : Val) (i : Nat) (hi : i < l.length) : TdIn l x i i := by
  have h1 : ((i : Int) < (i : Int)) = False := eq_false (by omega)
  have h2 : ((l.take i).drop i) = [] := List.drop_of_length_le (by rw [List.length_take]; exact Nat.min_le_left _ _)
  unfold TdIn
  rw [r69_B1_eq, h2]
  simp (disch := omega) only [go_sem, and_self, and_true, true_and, false_and, and_false, Nat.reduceAdd, Nat.reduceMul, Nat.reduceSub, Nat.reduceLeDiff, Nat.reduceLT, Nat.reduceGT, Nat.reduceEqDiff, Nat.reduceBEq, Int.reduceNeg, Int.reduceEq, Int.reduceLT, Int.reduceLE, Int.reduceBEq, Int.reduceToNat, Int.toNat_natCast, Int.natCast_zero, r69_C1, h1, List.all_nil]
theorem td_step (l : List Val) (hl : l.length ≤ 1000) (hk : Val.oks l) (x : Val) (i j : Nat) (hi : i < l.length) (hx : l[i]? = some x) (hj : j < i) (ih : TdIn l x i (j + 1)) : TdIn l x i j := by
  have h1 : ((j : Int) < (i : Int)) = True := eq_true (by omega)
  have i0 : (0 ≤ (i : Int)) = True := eq_true (by omega)
  have j0 : (0 ≤ (j : Int)) = True := eq_true (by omega)
  have hy : l[j]? = some l[j] := List.getElem?_eq_getElem (by omega)
  have va : (Val.encs l)[i]? = some x.enc := by rw [encs_get, hx]; rfl
  have vb : (Val.encs l)[j]? = some l[j].enc := by rw [encs_get, hy]; rfl
  have hox : x.ok := oks_mem hk (List.mem_of_getElem? hx)
  have hoy : l[j].ok := oks_mem hk (List.getElem_mem _)
  have hc := ocmp_ok l[j] x hoy hox
  have hd : (l.take i).drop j = l[j] :: (l.take i).drop (j + 1) := by
    rw [List.drop_eq_getElem_cons (by simp; omega)]; simp
  have e1 : (j : Int) + 1 = ((j + 1 : Nat) : Int) := rfl
  unfold TdIn at ih ⊢
  rw [r69_B1_eq, hd, List.all_cons]
  generalize l[j] = y at *
  obtain ⟨k, c, s, t, xs, ks, ex⟩ := enc_as x
  obtain ⟨k', c', s', t', ys, ks', ey⟩ := enc_as y
  rw [ex, ey] at hc
  rw [ex] at va
  rw [ey] at vb
  rcases Bool.eq_false_or_eq_true (cmpR y x).2 with g | g
  · rw [g] at hc
    rw [g, Bool.true_and]
    simp (disch := omega) only [go_sem, and_self, and_true, true_and, false_and, and_false, Nat.reduceAdd, Nat.reduceMul, Nat.reduceSub, Nat.reduceLeDiff, Nat.reduceLT, Nat.reduceGT, Nat.reduceEqDiff, Nat.reduceBEq, Int.reduceNeg, Int.reduceEq, Int.reduceLT, Int.reduceLE, Int.reduceBEq, Int.reduceToNat, Int.toNat_natCast, Int.natCast_zero, r69_C1, h1, i0, j0, va, vb, hc, e1, w64]
    exact ih
  · rw [g] at hc
    rw [g, Bool.false_and]
    simp (disch := omega) only [go_sem, and_self, and_true, true_and, false_and, and_false, Nat.reduceAdd, Nat.reduceMul, Nat.reduceSub, Nat.reduceLeDiff, Nat.reduceLT, Nat.reduceGT, Nat.reduceEqDiff, Nat.reduceBEq, Int.reduceNeg, Int.reduceEq, Int.reduceLT, Int.reduceLE, Int.reduceBEq, Int.reduceToNat, Int.toNat_natCast, Int.natCast_zero, r69_C1, h1, i0, j0, va, vb, hc, e1, w64]
theorem td_loop (l : List Val) (hl : l.length ≤ 1000) (hk : Val.oks l) (x : Val) (i : Nat) (hi : i < l.length) (hx : l[i]? = some x) : ∀ (d j : Nat), j + d = i → TdIn l x i j
  | 0, j, h => by obtain rfl : j = i := by omega
                  exact td_end l x j hi
  | d + 1, j, h => td_step l hl hk x i j hi hx (by omega) (td_loop l hl hk x i hi hx d (j + 1) (by omega))

def TdOut (l : List Val) (i : Nat) : Prop :=
  V (F tab) r69_B0 (r69_S0 (.d (.sl (Val.encs l))) (.d (iv l.length)) (.d (iv i)) []) =
    if toldAux (l.take i) (l.drop i) then some (.norm, r69_E0 []) else some (.ret, r69_R (.d (.bool false)) [])
theorem to_end (l : List Val) : TdOut l l.length := by
  have h1 : ((l.length : Int) < (l.length : Int)) = False := eq_false (by omega)
  unfold TdOut
  rw [r69_B0_eq, List.drop_of_length_le (Nat.le_refl _)]
  simp (disch := omega) only [go_sem, and_self, and_true, true_and, false_and, and_false, Nat.reduceAdd, Nat.reduceMul, Nat.reduceSub, Nat.reduceLeDiff, Nat.reduceLT, Nat.reduceGT, Nat.reduceEqDiff, Nat.reduceBEq, Int.reduceNeg, Int.reduceEq, Int.reduceLT, Int.reduceLE, Int.reduceBEq, Int.reduceToNat, Int.toNat_natCast, Int.natCast_zero, r69_C0, h1, toldAux]
theorem to_step (l : List Val) (hl : l.length ≤ 1000) (hk : Val.oks l) (i : Nat) (hi : i < l.length) (ih : TdOut l (i + 1)) : TdOut l i := by
  have h1 : ((i : Int) < (l.length : Int)) = True := eq_true (by omega)
  have hx : l[i]? = some l[i] := List.getElem?_eq_getElem hi
  have hin := td_loop l hl hk l[i] i hi hx i 0 (by omega)
  have e1 : (i : Int) + 1 = ((i + 1 : Nat) : Int) := rfl
  unfold TdIn at hin
  rw [List.drop_zero] at hin
  unfold TdOut at ih ⊢
  rw [r69_B0_eq, List.drop_eq_getElem_cons hi, toldAux]
  rw [show l.take (i + 1) = l.take i ++ [l[i]] from by rw [List.take_add_one, hx]; rfl] at ih
  simp (disch := omega) only [go_sem, and_self, and_true, true_and, false_and, and_false, Nat.reduceAdd, Nat.reduceMul, Nat.reduceSub, Nat.reduceLeDiff, Nat.reduceLT, Nat.reduceGT, Nat.reduceEqDiff, Nat.reduceBEq, Int.reduceNeg, Int.reduceEq, Int.reduceLT, Int.reduceLE, Int.reduceBEq, Int.reduceToNat, Int.toNat_natCast, Int.natCast_zero, r69_C0, h1, w64]
  rw [r69_B1_n]
  erw [hin]
  rcases Bool.eq_false_or_eq_true ((l.take i).all fun y => (cmpR y l[i]).2) with g | g
  · rw [g]
    simp (disch := omega) only [go_sem, and_self, and_true, true_and, false_and, and_false, Nat.reduceAdd, Nat.reduceMul, Nat.reduceSub, Nat.reduceLeDiff, Nat.reduceLT, Nat.reduceGT, Nat.reduceEqDiff, Nat.reduceBEq, Int.reduceNeg, Int.reduceEq, Int.reduceLT, Int.reduceLE, Int.reduceBEq, Int.reduceToNat, Int.toNat_natCast, Int.natCast_zero, e1, w64]
    exact ih
  · rw [g]
    simp (disch := omega) only [go_sem, and_self, and_true, true_and, false_and, and_false, Nat.reduceAdd, Nat.reduceMul, Nat.reduceSub, Nat.reduceLeDiff, Nat.reduceLT, Nat.reduceGT, Nat.reduceEqDiff, Nat.reduceBEq, Int.reduceNeg, Int.reduceEq, Int.reduceLT, Int.reduceLE, Int.reduceBEq, Int.reduceToNat, Int.toNat_natCast, Int.natCast_zero, e1, w64]
theorem to_loop (l : List Val) (hl : l.length ≤ 1000) (hk : Val.oks l) : ∀ (d i : Nat), i + d = l.length → TdOut l i
  | 0, i, h => by obtain rfl : i = l.length := by omega
                  exact to_end l
  | d + 1, i, h => to_step l hl hk i (by omega) (to_loop l hl hk d (i + 1) (by omega))
theorem told_ok (l : List Val) (hl : l.length ≤ 1000) (hk : Val.oks l) (hp : List Ent) : F tab 69 [.d (.sl (Val.encs l))] hp = some (.ret (.d (.bool (toldV l))) hp) := by
  have hL := to_loop l hl hk l.length 0 (by omega)
  unfold TdOut at hL
  rw [List.drop_zero, List.take_zero] at hL
  refine f69 rfl ?_
  unfold toldV
  simp (disch := omega) only [go_sem, and_self, and_true, true_and, false_and, and_false, Nat.reduceAdd, Nat.reduceMul, Nat.reduceSub, Nat.reduceLeDiff, Nat.reduceLT, Nat.reduceGT, Nat.reduceEqDiff, Nat.reduceBEq, Int.reduceNeg, Int.reduceEq, Int.reduceLT, Int.reduceLE, Int.reduceBEq, Int.reduceToNat, Int.toNat_natCast, Int.natCast_zero, r69_T, r69, encs_len]
  rw [r69_B0_n]
  erw [hL]
  rcases Bool.eq_false_or_eq_true (toldAux [] l) with g | g <;> rw [g] <;> simp only [go_sem, and_self, and_true, true_and, false_and, and_false, Nat.reduceAdd, Nat.reduceMul, Nat.reduceSub, Nat.reduceLeDiff, Nat.reduceLT, Nat.reduceGT, Nat.reduceEqDiff, Nat.reduceBEq, Int.reduceNeg, Int.reduceEq, Int.reduceLT, Int.reduceLE, Int.reduceBEq, Int.reduceToNat, Int.toNat_natCast, Int.natCast_zero]
end Go.Pe.T

namespace Go.Pe.T
/-! ### the insertion sort, in its box -/

theorem rowEnt_box {l : List Val} (h : 0 < l.length) : rowEnt (Val.encs l) = .box (flatD (Val.encs l)) := by
  cases l with
  | nil => simp at h
  | cons v l => rfl

/-- what is read of, and written to, the box -/
structure BoxF (l : List Val) : Prop where
  len : (flatD (Val.encs l)).length = l.length * 6
  rd : ∀ (i : Nat) (x : Val), l[i]? = some x → optAll (List.map PV.toD (List.take 6 (List.drop (0 + i * 6) (flatD (Val.encs l))))) = some x.enc.cells
  wr : ∀ (i : Nat) (x : Val), i < l.length → setCells (flatD (Val.encs l)) (0 + i * 6) x.enc.cells = flatD (Val.encs (l.set i x))

theorem enc_cells (x : Val) : x.enc.cells.length = 6 := enc_w x
theorem enc_agg (x : Val) : D.agg x.enc.cells = x.enc := by cases x; rfl

theorem boxF (l : List Val) : BoxF l := by
  have hr := encRow l
  have hlen : (flatD (Val.encs l)).length = l.length * 6 := by rw [flatD_len hr.wid, encs_len]
  refine ⟨hlen, fun i x hx => ?_, fun i x hi => ?_⟩
  · have hi : i < l.length := (List.getElem?_eq_some_iff.1 hx).1
    have h := cellsAgg_row hr (i := i) (by rw [encs_len]; exact hi)
    have hg : (Val.encs l)[i]'(by rw [encs_len]; exact hi) = x.enc := by
      have : (Val.encs l)[i]? = some x.enc := by rw [encs_get, hx]; rfl
      exact (List.getElem?_eq_some_iff.1 this).2
    rw [hg] at h
    unfold cellsAgg at h
    split at h
    · rw [Option.map_eq_some_iff] at h
      obtain ⟨ds, h1, h2⟩ := h
      rw [Nat.zero_add, h1]
      simp only [PV.d.injEq] at h2
      rw [← h2]
      rfl
    · simp at h
  · have h := storeIn_row hr (i := i) (y := x.enc) (by rw [encs_len]; exact hi) (enc_a x) (enc_w x)
    rw [encs_set, ← enc_agg x] at h
    simp only [storeIn] at h
    split at h
    · rw [Nat.zero_add]
      simpa using h
    · simp at h

def InIs (id i : Nat) (hp : List Ent) (l : List Val) (j : Nat) : Prop :=
  V (F tab) r132_B1 (r132_S1 (.rowh id 0 l.length) (.d (iv 0)) (.d (iv l.length)) (.fn 72 []) (.d (iv i)) (.d (iv j)) hp) =
    some (.norm, r132_E1 (.rowh id 0 l.length) (.d (iv 0)) (.d (iv l.length)) (.fn 72 []) (.d (iv i)) (hp.set id (.box (flatD (Val.encs (sink l j))))))

theorem in_zero (id i : Nat) (hp : List Ent) (l : List Val) (h : hp[id]? = some (.box (flatD (Val.encs l)))) : InIs id i hp l 0 := by
  have h1 : ((0 : Int) > 0) = False := eq_false (by omega)
  have h2 : (((0 : Nat) : Int) > 0) = False := eq_false (by omega)
  unfold InIs
  rw [r132_B1_eq, sink, hp_set h]
  simp (disch := omega) only [go_sem, and_self, and_true, true_and, false_and, and_false, Nat.reduceAdd, Nat.reduceMul, Nat.reduceSub, Nat.reduceLeDiff, Nat.reduceLT, Nat.reduceGT, Nat.reduceEqDiff, Nat.reduceBEq, Int.reduceNeg, Int.reduceEq, Int.reduceLT, Int.reduceLE, Int.reduceBEq, Int.reduceToNat, Int.toNat_natCast, Int.natCast_zero, r132_C1, h1, h2]

set_option maxHeartbeats 1000000 in
theorem in_stop (id i : Nat) (hp : List Ent) (l : List Val) (hl : l.length ≤ 1000) (hk : Val.oks l) (m : Nat) (x y : Val) (hx : l[m + 1]? = some x) (hy : l[m]? = some y) (h : hp[id]? = some (.box (flatD (Val.encs l)))) (hc : ¬ cmpC x y < 0) : InIs id i hp l (m + 1) := by
  have hm : m + 1 < l.length := (List.getElem?_eq_some_iff.1 hx).1
  have h1 : (((m + 1 : Nat) : Int) > 0) = True := eq_true (by omega)
  have h2 : (0 ≤ ((m + 1 : Nat) : Int)) = True := eq_true (by omega)
  have h3 : (((m + 1 : Nat) : Int) < (l.length : Int)) = True := eq_true (by omega)
  have h4 : (0 ≤ (m : Int)) = True := eq_true (by omega)
  have h5 : ((m : Int) < (l.length : Int)) = True := eq_true (by omega)
  have h6 : ((m + 1 : Nat) : Int) - 1 = (m : Int) := by omega
  obtain ⟨b1, b2, _⟩ := boxF l
  have r1 := b2 (m + 1) x hx
  have r2 := b2 m y hy
  have g1 : (0 + (m + 1) * 6 + 6 ≤ (flatD (Val.encs l)).length) = True := eq_true (by rw [b1]; omega)
  have g2 : (0 + m * 6 + 6 ≤ (flatD (Val.encs l)).length) = True := eq_true (by rw [b1]; omega)
  have hf := cmpf_ok x y (oks_mem hk (List.mem_of_getElem? hx)) (oks_mem hk (List.mem_of_getElem? hy))
  rw [← enc_agg x, ← enc_agg y] at hf
  unfold InIs
  rw [r132_B1_eq, sink, hx, hy]
  simp only [hc, if_false]
  rw [hp_set h]
  generalize x.enc.cells = X at *
  generalize y.enc.cells = Y at *
  simp (maxSteps := 1000000) (disch := omega) only [go_sem, and_self, and_true, true_and, false_and, and_false, Nat.reduceAdd, Nat.reduceMul, Nat.reduceSub, Nat.reduceLeDiff, Nat.reduceLT, Nat.reduceGT, Nat.reduceEqDiff, Nat.reduceBEq, Int.reduceNeg, Int.reduceEq, Int.reduceLT, Int.reduceLE, Int.reduceBEq, Int.reduceToNat, Int.toNat_natCast, Int.natCast_zero, r132_C1, h1, h2, h3, h4, h5, h6, h, r1, r2, g1, g2, hf, hc, w64]

set_option maxHeartbeats 1000000 in
theorem in_step (id i : Nat) (hp : List Ent) (l : List Val) (hl : l.length ≤ 1000) (hk : Val.oks l) (m : Nat) (x y : Val) (hx : l[m + 1]? = some x) (hy : l[m]? = some y) (h : hp[id]? = some (.box (flatD (Val.encs l)))) (hc : cmpC x y < 0)
    (ih : InIs id i (hp.set id (.box (flatD (Val.encs ((l.set (m + 1) y).set m x))))) ((l.set (m + 1) y).set m x) m) : InIs id i hp l (m + 1) := by
  have hm : m + 1 < l.length := (List.getElem?_eq_some_iff.1 hx).1
  have hid : id < hp.length := (List.getElem?_eq_some_iff.1 h).1
  have h1 : (((m + 1 : Nat) : Int) > 0) = True := eq_true (by omega)
  have h2 : (0 ≤ ((m + 1 : Nat) : Int)) = True := eq_true (by omega)
  have h3 : (((m + 1 : Nat) : Int) < (l.length : Int)) = True := eq_true (by omega)
  have h4 : (0 ≤ (m : Int)) = True := eq_true (by omega)
  have h5 : ((m : Int) < (l.length : Int)) = True := eq_true (by omega)
  have h6 : ((m + 1 : Nat) : Int) - 1 = (m : Int) := by omega
  obtain ⟨b1, b2, b3⟩ := boxF l
  have r1 := b2 (m + 1) x hx
  have r2 := b2 m y hy
  have g1 : (0 + (m + 1) * 6 + 6 ≤ (flatD (Val.encs l)).length) = True := eq_true (by rw [b1]; omega)
  have g2 : (0 + m * 6 + 6 ≤ (flatD (Val.encs l)).length) = True := eq_true (by rw [b1]; omega)
  have s1 := b3 (m + 1) y hm
  obtain ⟨c1, _, c3⟩ := boxF (l.set (m + 1) y)
  have g3 : (0 + m * 6 + 6 ≤ (flatD (Val.encs (l.set (m + 1) y))).length) = True := eq_true (by rw [c1, List.length_set]; omega)
  have s2 := c3 m x (by rw [List.length_set]; omega)
  have hf := cmpf_ok x y (oks_mem hk (List.mem_of_getElem? hx)) (oks_mem hk (List.mem_of_getElem? hy))
  have lx : (x.enc.cells.length = 6) = True := eq_true (enc_cells x)
  have ly : (y.enc.cells.length = 6) = True := eq_true (enc_cells y)
  have hset : ∀ e : Ent, (hp.set id e)[id]? = some e := fun e => List.getElem?_set_self hid
  have hss : ∀ e e' : Ent, (hp.set id e).set id e' = hp.set id e' := fun e e' => List.set_set ..
  rw [← enc_agg x, ← enc_agg y] at hf
  unfold InIs at ih ⊢
  rw [hss, List.length_set, List.length_set] at ih
  rw [r132_B1_eq, sink, hx, hy]
  simp only [hc, if_true]
  generalize x.enc.cells = X at *
  generalize y.enc.cells = Y at *
  simp (maxSteps := 1000000) (disch := omega) only [go_sem, and_self, and_true, true_and, false_and, and_false, Nat.reduceAdd, Nat.reduceMul, Nat.reduceSub, Nat.reduceLeDiff, Nat.reduceLT, Nat.reduceGT, Nat.reduceEqDiff, Nat.reduceBEq, Int.reduceNeg, Int.reduceEq, Int.reduceLT, Int.reduceLE, Int.reduceBEq, Int.reduceToNat, Int.toNat_natCast, Int.natCast_zero, r132_C1, h1, h2, h3, h4, h5, h6, h, r1, r2, g1, g2, g3, s1, s2, lx, ly, hset, hss, hf, hc, w64]
  exact ih
end Go.Pe.T

namespace Go.Pe.T

theorem oks_iff : ∀ {l : List Val}, Val.oks l ↔ ∀ v ∈ l, v.ok
  | [] => by simp [Val.oks]
  | v :: l => by
    have ih := @oks_iff l
    simp [Val.oks, ih]
theorem oks_perm {l m : List Val} (h : l.Perm m) (hk : Val.oks l) : Val.oks m := oks_iff.2 fun v hv => oks_iff.1 hk v (h.mem_iff.2 hv)

theorem sink_oks {l : List Val} (hk : Val.oks l) (j : Nat) : Val.oks (sink l j) := oks_perm (sink_perm j l).symm hk

theorem in_all (id i : Nat) : ∀ (j : Nat) (hp : List Ent) (l : List Val), l.length ≤ 1000 → Val.oks l → j < l.length → hp[id]? = some (.box (flatD (Val.encs l))) → InIs id i hp l j
  | 0, hp, l, _, _, _, h => in_zero id i hp l h
  | m + 1, hp, l, hl, hk, hj, h => by
    have hx : l[m + 1]? = some l[m + 1] := List.getElem?_eq_getElem hj
    have hy : l[m]? = some l[m] := List.getElem?_eq_getElem (by omega)
    by_cases hc : cmpC l[m + 1] l[m] < 0
    · have hid : id < hp.length := (List.getElem?_eq_some_iff.1 h).1
      refine in_step id i hp l hl hk m _ _ hx hy h hc (in_all id i m _ _ (by simpa using hl) (oks_perm (swap_perm l m _ _ hx hy).symm hk) (by simp; omega) (List.getElem?_set_self hid))
    · exact in_stop id i hp l hl hk m _ _ hx hy h hc

def OuIs (id : Nat) (hp : List Ent) (l : List Val) (i k : Nat) : Prop :=
  V (F tab) r132_B0 (r132_S0 (.rowh id 0 l.length) (.d (iv 0)) (.d (iv l.length)) (.fn 72 []) (.d (iv i)) hp) =
    some (.norm, r132_E0 (hp.set id (.box (flatD (Val.encs (sortFrom l i k))))))
theorem ou_end (id : Nat) (hp : List Ent) (l : List Val) (h : hp[id]? = some (.box (flatD (Val.encs l)))) : OuIs id hp l l.length 0 := by
  have h1 : ((l.length : Int) < (l.length : Int)) = False := eq_false (by omega)
  unfold OuIs
  rw [r132_B0_eq, sortFrom, hp_set h]
  simp (disch := omega) only [go_sem, and_self, and_true, true_and, false_and, and_false, Nat.reduceAdd, Nat.reduceMul, Nat.reduceSub, Nat.reduceLeDiff, Nat.reduceLT, Nat.reduceGT, Nat.reduceEqDiff, Nat.reduceBEq, Int.reduceNeg, Int.reduceEq, Int.reduceLT, Int.reduceLE, Int.reduceBEq, Int.reduceToNat, Int.toNat_natCast, Int.natCast_zero, r132_C0, h1]
theorem ou_step (id : Nat) (hp : List Ent) (l : List Val) (hl : l.length ≤ 1000) (hk : Val.oks l) (i k : Nat) (hi : i < l.length) (h : hp[id]? = some (.box (flatD (Val.encs l))))
    (ih : OuIs id (hp.set id (.box (flatD (Val.encs (sink l i))))) (sink l i) (i + 1) k) : OuIs id hp l i (k + 1) := by
  have h1 : ((i : Int) < (l.length : Int)) = True := eq_true (by omega)
  have hin := in_all id i i hp l hl hk hi h
  have e1 : (i : Int) + 1 = ((i + 1 : Nat) : Int) := rfl
  have hss : ∀ e e' : Ent, (hp.set id e).set id e' = hp.set id e' := fun e e' => List.set_set ..
  unfold InIs at hin
  unfold OuIs at ih ⊢
  rw [hss, sink_len] at ih
  rw [r132_B0_eq, sortFrom]
  simp (disch := omega) only [go_sem, and_self, and_true, true_and, false_and, and_false, Nat.reduceAdd, Nat.reduceMul, Nat.reduceSub, Nat.reduceLeDiff, Nat.reduceLT, Nat.reduceGT, Nat.reduceEqDiff, Nat.reduceBEq, Int.reduceNeg, Int.reduceEq, Int.reduceLT, Int.reduceLE, Int.reduceBEq, Int.reduceToNat, Int.toNat_natCast, Int.natCast_zero, r132_C0, h1]
  rw [r132_B1_n]
  erw [hin]
  simp (disch := omega) only [go_sem, and_self, and_true, true_and, false_and, and_false, Nat.reduceAdd, Nat.reduceMul, Nat.reduceSub, Nat.reduceLeDiff, Nat.reduceLT, Nat.reduceGT, Nat.reduceEqDiff, Nat.reduceBEq, Int.reduceNeg, Int.reduceEq, Int.reduceLT, Int.reduceLE, Int.reduceBEq, Int.reduceToNat, Int.toNat_natCast, Int.natCast_zero, e1, w64]
  exact ih
theorem ou_loop (id : Nat) : ∀ (k i : Nat) (hp : List Ent) (l : List Val), l.length ≤ 1000 → Val.oks l → i + k = l.length → hp[id]? = some (.box (flatD (Val.encs l))) → OuIs id hp l i k
  | 0, i, hp, l, _, _, hi, h => by obtain rfl : i = l.length := by omega
                                   exact ou_end id hp l h
  | k + 1, i, hp, l, hl, hk, hi, h => by
    have hid : id < hp.length := (List.getElem?_eq_some_iff.1 h).1
    have hsl := sink_len l i
    exact ou_step id hp l hl hk i k (by omega) h (ou_loop id k (i + 1) _ _ (by omega) (sink_oks hk i) (by omega) (List.getElem?_set_self hid))

theorem insort_ok (id : Nat) (hp : List Ent) (l : List Val) (hl : l.length ≤ 1000) (hk : Val.oks l) (h : hp[id]? = some (rowEnt (Val.encs l))) :
    F tab 132 [.rowh id 0 l.length, .d (iv 0), .d (iv l.length), .fn 72 []] hp = some (.ret (.tup []) (hp.set id (rowEnt (Val.encs (sortV l))))) := by
  refine f132 ?_
  have z1 : IntKind.i64.wrap (0 + 1) = 1 := by decide
  by_cases h0 : l.length = 0
  · have hn : l = [] := List.eq_nil_of_length_eq_zero h0
    subst hn
    have e1 : sortV [] = [] := rfl
    have h1 : ((1 : Int) < ((List.length ([] : List Val) : Nat) : Int)) = False := eq_false (by simp)
    rw [e1, hp_set h]
    simp (disch := omega) only [go_sem, and_self, and_true, true_and, false_and, and_false, Nat.reduceAdd, Nat.reduceMul, Nat.reduceSub, Nat.reduceLeDiff, Nat.reduceLT, Nat.reduceGT, Nat.reduceEqDiff, Nat.reduceBEq, Int.reduceNeg, Int.reduceEq, Int.reduceLT, Int.reduceLE, Int.reduceBEq, Int.reduceToNat, Int.toNat_natCast, Int.natCast_zero, r132_T, r132, z1]
    rw [r132_B0_n, r132_B0_eq]
    have h2 : ((1 : Int) < 0) = False := eq_false (by omega)
    simp (disch := omega) only [go_sem, and_self, and_true, true_and, false_and, and_false, Nat.reduceAdd, Nat.reduceMul, Nat.reduceSub, Nat.reduceLeDiff, Nat.reduceLT, Nat.reduceGT, Nat.reduceEqDiff, Nat.reduceBEq, Int.reduceNeg, Int.reduceEq, Int.reduceLT, Int.reduceLE, Int.reduceBEq, Int.reduceToNat, Int.toNat_natCast, Int.natCast_zero, r132_C0, h1, h2, List.map_nil]
  · rw [rowEnt_box (by omega)] at h
    rw [rowEnt_box (by rw [sortV_len]; omega)]
    have hL := ou_loop id (l.length - 1) 1 hp l hl hk (by omega) h
    unfold OuIs at hL
    simp (disch := omega) only [go_sem, and_self, and_true, true_and, false_and, and_false, Nat.reduceAdd, Nat.reduceMul, Nat.reduceSub, Nat.reduceLeDiff, Nat.reduceLT, Nat.reduceGT, Nat.reduceEqDiff, Nat.reduceBEq, Int.reduceNeg, Int.reduceEq, Int.reduceLT, Int.reduceLE, Int.reduceBEq, Int.reduceToNat, Int.toNat_natCast, Int.natCast_zero, r132_T, r132, z1]
    rw [r132_B0_n]
    erw [hL]
    simp (disch := omega) only [go_sem, and_self, and_true, true_and, false_and, and_false, Nat.reduceAdd, Nat.reduceMul, Nat.reduceSub, Nat.reduceLeDiff, Nat.reduceLT, Nat.reduceGT, Nat.reduceEqDiff, Nat.reduceBEq, Int.reduceNeg, Int.reduceEq, Int.reduceLT, Int.reduceLE, Int.reduceBEq, Int.reduceToNat, Int.toNat_natCast, Int.natCast_zero, List.map_nil]
    rfl
end Go.Pe.T

namespace Go.Pe.T

theorem stable_ok (id : Nat) (hp : List Ent) (l : List Val) (hl : l.length ≤ 12) (hk : Val.oks l) (h : hp[id]? = some (rowEnt (Val.encs l))) :
    F tab 108 [.rowh id 0 l.length, .d (iv l.length), .fn 72 []] hp = some (.ret (.tup []) (hp.set id (rowEnt (Val.encs (sortV l))))) := by
  have hi := insort_ok id hp l (by omega) hk h
  have h1 : ((20 : Int) ≤ (l.length : Int)) = False := eq_false (by omega)
  have h2 : ((20 : Int) < (l.length : Int)) = False := eq_false (by omega)
  refine f108 ?_
  simp (disch := omega) only [go_sem, and_self, and_true, true_and, false_and, and_false, Nat.reduceAdd, Nat.reduceMul, Nat.reduceSub, Nat.reduceLeDiff, Nat.reduceLT, Nat.reduceGT, Nat.reduceEqDiff, Nat.reduceBEq, Int.reduceNeg, Int.reduceEq, Int.reduceLT, Int.reduceLE, Int.reduceBEq, Int.reduceToNat, Int.toNat_natCast, Int.natCast_zero, r108_T, r108]
  rw [r108_B0_n, r108_B0_eq]
  simp (disch := omega) only [go_sem, and_self, and_true, true_and, false_and, and_false, Nat.reduceAdd, Nat.reduceMul, Nat.reduceSub, Nat.reduceLeDiff, Nat.reduceLT, Nat.reduceGT, Nat.reduceEqDiff, Nat.reduceBEq, Int.reduceNeg, Int.reduceEq, Int.reduceLT, Int.reduceLE, Int.reduceBEq, Int.reduceToNat, Int.toNat_natCast, Int.natCast_zero, r108_C0, h1, hi]
  rw [r108_B1_n, r108_B1_eq]
  simp (disch := omega) only [go_sem, and_self, and_true, true_and, false_and, and_false, Nat.reduceAdd, Nat.reduceMul, Nat.reduceSub, Nat.reduceLeDiff, Nat.reduceLT, Nat.reduceGT, Nat.reduceEqDiff, Nat.reduceBEq, Int.reduceNeg, Int.reduceEq, Int.reduceLT, Int.reduceLE, Int.reduceBEq, Int.reduceToNat, Int.toNat_natCast, Int.natCast_zero, r108_C1, h2, List.map_nil]

theorem sstable_ok (id : Nat) (hp : List Ent) (l : List Val) (hl : l.length ≤ 12) (hk : Val.oks l) (h : hp[id]? = some (rowEnt (Val.encs l))) :
    F tab 71 [.rowh id 0 l.length, .fn 72 []] hp = some (.ret (.tup []) (hp.set id (rowEnt (Val.encs (sortV l))))) := by
  have hi := stable_ok id hp l hl hk h
  refine f71 ?_
  simp (disch := omega) only [go_sem, and_self, and_true, true_and, false_and, and_false, Nat.reduceAdd, Nat.reduceMul, Nat.reduceSub, Nat.reduceLeDiff, Nat.reduceLT, Nat.reduceGT, Nat.reduceEqDiff, Nat.reduceBEq, Int.reduceNeg, Int.reduceEq, Int.reduceLT, Int.reduceLE, Int.reduceBEq, Int.reduceToNat, Int.toNat_natCast, Int.natCast_zero, r71_T, r71, hi, List.map_nil]

theorem demote_rowh (i a b : Nat) : (PV.rowh i a b).demote = .rowh i a b := rfl

theorem push_set (hp : List Ent) (e e' : Ent) : (hp ++ [e]).set hp.length e' = hp ++ [e'] := by
  rw [List.set_append_right _ _ (Nat.le_refl _)]; simp

theorem osort_ok (l : List Val) (hl : l.length ≤ 12) (hk : Val.oks l) (hp : List Ent) :
    F tab 34 [.d (.sl (Val.encs l))] hp = if toldV l then some (.ret (.tup [.rowh hp.length 0 l.length, .d (.bool true)]) (hp ++ [rowEnt (Val.encs (sortV l))])) else some (.ret (.tup [.d (.sl []), .d (.bool false)]) hp) := by
  have ht := told_ok l (by omega) hk
  have hr : rowOk 6 88 [] (Val.encs l) = true := by
    simp only [rowOk, Bool.and_eq_true, decide_eq_true_eq, List.length_nil, Nat.zero_add, encs_len, List.all_eq_true, beq_iff_eq]
    exact ⟨by simp only [maxRow]; omega, (encRow l).wid⟩
  have hc := fun hp => f70 (hp := hp) hr
  simp only [encs_len] at hc
  have hs := sstable_ok hp.length (hp ++ [rowEnt (Val.encs l)]) l hl hk (by simp)
  rw [push_set] at hs
  rcases Bool.eq_false_or_eq_true (toldV l) with g | g
  · rw [g] at ht
    rw [g]
    refine f34 ?_
    simp (disch := omega) only [go_sem, and_self, and_true, true_and, false_and, and_false, Nat.reduceAdd, Nat.reduceMul, Nat.reduceSub, Nat.reduceLeDiff, Nat.reduceLT, Nat.reduceGT, Nat.reduceEqDiff, Nat.reduceBEq, Int.reduceNeg, Int.reduceEq, Int.reduceLT, Int.reduceLE, Int.reduceBEq, Int.reduceToNat, Int.toNat_natCast, Int.natCast_zero, r34_T, r34, ht, hc, hs, demote_rowh]
  · rw [g] at ht
    rw [g]
    refine f34 ?_
    simp (disch := omega) only [go_sem, and_self, and_true, true_and, false_and, and_false, Nat.reduceAdd, Nat.reduceMul, Nat.reduceSub, Nat.reduceLeDiff, Nat.reduceLT, Nat.reduceGT, Nat.reduceEqDiff, Nat.reduceBEq, Int.reduceNeg, Int.reduceEq, Int.reduceLT, Int.reduceLE, Int.reduceBEq, Int.reduceToNat, Int.toNat_natCast, Int.natCast_zero, r34_T, r34, ht]
end Go.Pe.T

namespace Go.Pe.T
/-! ### are two values the same -/
def samK : List ByteArray → List ByteArray → Bool
  | k :: r, k' :: r' => (k.toList == k'.toList) && samK r r'
  | _, _ => true
mutual
def samV : Val → Val → Bool
  | .mk k c s t xs ks, .mk k' c' s' t' ys ks' => (k == k') && ((c == c' && s == s') && ((t.toList == t'.toList) && (decide (xs.length = ys.length) && (decide (ks.length = ks'.length) && (samK ks ks' && samVs xs ys)))))
def samVs : List Val → List Val → Bool
  | x :: r, y :: r' => samV x y && samVs r r'
  | _, _ => true
end
theorem samK_refl : ∀ (l : List ByteArray), samK l l = true
  | [] => rfl
  | k :: r => by simp [samK, samK_refl r]
mutual
theorem samV_refl : ∀ (x : Val), samV x x = true
  | .mk k c s t xs ks => by simp [samV, samK_refl, samVs_refl xs]
theorem samVs_refl : ∀ (l : List Val), samVs l l = true
  | [] => rfl
  | x :: r => by simp [samVs, samV_refl x, samVs_refl r]
end

def SamIs (x y : Val) : Prop := ∀ hp : List Ent, F tab 73 [.d x.enc, .d y.enc] hp = some (.ret (.d (.bool (samV x y))) hp)

abbrev bxV (k c s : Int) (t : ByteArray) (xs : List D) (ks : List ByteArray) : PV := .ibox [.d (iv k), .d (iv c), .d (iv s), .d (.str t), .d (.sl xs), .d (.sl (ks.map .str))]

section
variable (k c s : Int) (t : ByteArray) (xs : List Val) (ks : List ByteArray) (k' c' s' : Int) (t' : ByteArray) (ys : List Val) (ks' : List ByteArray)

def SkLoop (i : Nat) : Prop :=
  V (F tab) r73_B0 (r73_S0 (bxV k c s t (Val.encs xs) ks) (bxV k' c' s' t' (Val.encs ys) ks') (.d (iv i)) []) =
    if samK (ks.drop i) (ks'.drop i) then some (.norm, r73_E0 (bxV k c s t (Val.encs xs) ks) (bxV k' c' s' t' (Val.encs ys) ks') []) else some (.ret, r73_R (.d (.bool false)) [])
theorem sk_end (hlen : ks.length = ks'.length) : SkLoop k c s t xs ks k' c' s' t' ys ks' ks.length := by
  have h1 : ((ks.length : Int) < (ks.length : Int)) = False := eq_false (by omega)
  unfold SkLoop
  rw [r73_B0_eq, List.drop_of_length_le (Nat.le_refl _)]
  simp (disch := omega) only [go_sem, and_self, and_true, true_and, false_and, and_false, Nat.reduceAdd, Nat.reduceMul, Nat.reduceSub, Nat.reduceLeDiff, Nat.reduceLT, Nat.reduceGT, Nat.reduceEqDiff, Nat.reduceBEq, Int.reduceNeg, Int.reduceEq, Int.reduceLT, Int.reduceLE, Int.reduceBEq, Int.reduceToNat, Int.toNat_natCast, Int.natCast_zero, r73_C0, h1, List.length_map, samK]
theorem sk_step (hlen : ks.length = ks'.length) (hl : ks.length ≤ maxLen) (i : Nat) (hi : i < ks.length) (ih : SkLoop k c s t xs ks k' c' s' t' ys ks' (i + 1)) : SkLoop k c s t xs ks k' c' s' t' ys ks' i := by
  have hmx : maxLen = 9223372036854775807 := by decide
  have h1 : ((i : Int) < (ks.length : Int)) = True := eq_true (by omega)
  have i0 : (0 ≤ (i : Int)) = True := eq_true (by omega)
  have va : (ks.map D.str)[i]? = some (.str ks[i]) := by simp [hi]
  have vb : (ks'.map D.str)[i]? = some (.str (ks'[i]'(by omega))) := by simp [show i < ks'.length by omega]
  have e1 : (i : Int) + 1 = ((i + 1 : Nat) : Int) := rfl
  unfold SkLoop at ih ⊢
  rw [r73_B0_eq, List.drop_eq_getElem_cons hi, List.drop_eq_getElem_cons (show i < ks'.length by omega)]
  simp only [samK]
  rcases Bool.eq_false_or_eq_true (ks[i].toList == (ks'[i]'(by omega)).toList) with g | g
  · simp (disch := omega) only [go_sem, and_self, and_true, true_and, false_and, and_false, Nat.reduceAdd, Nat.reduceMul, Nat.reduceSub, Nat.reduceLeDiff, Nat.reduceLT, Nat.reduceGT, Nat.reduceEqDiff, Nat.reduceBEq, Int.reduceNeg, Int.reduceEq, Int.reduceLT, Int.reduceLE, Int.reduceBEq, Int.reduceToNat, Int.toNat_natCast, Int.natCast_zero, r73_C0, h1, i0, va, vb, g, strD_neq, List.length_map, e1, w64, Bool.true_and]
    exact ih
  · simp (disch := omega) only [go_sem, and_self, and_true, true_and, false_and, and_false, Nat.reduceAdd, Nat.reduceMul, Nat.reduceSub, Nat.reduceLeDiff, Nat.reduceLT, Nat.reduceGT, Nat.reduceEqDiff, Nat.reduceBEq, Int.reduceNeg, Int.reduceEq, Int.reduceLT, Int.reduceLE, Int.reduceBEq, Int.reduceToNat, Int.toNat_natCast, Int.natCast_zero, r73_C0, h1, i0, va, vb, g, strD_neq, List.length_map, e1, w64, Bool.false_and]
theorem sk_loop (hlen : ks.length = ks'.length) (hl : ks.length ≤ maxLen) : ∀ (d i : Nat), i + d = ks.length → SkLoop k c s t xs ks k' c' s' t' ys ks' i
  | 0, i, h => by obtain rfl : i = ks.length := by omega
                  exact sk_end k c s t xs ks k' c' s' t' ys ks' hlen
  | d + 1, i, h => sk_step k c s t xs ks k' c' s' t' ys ks' hlen hl i (by omega) (sk_loop hlen hl d (i + 1) (by omega))

def SiLoop (i : Nat) : Prop :=
  V (F tab) r73_B1 (r73_S1 (bxV k c s t (Val.encs xs) ks) (bxV k' c' s' t' (Val.encs ys) ks') (.d (iv i)) []) =
    if samVs (xs.drop i) (ys.drop i) then some (.norm, r73_E1 []) else some (.ret, r73_R (.d (.bool false)) [])
theorem si_end (hlen : xs.length = ys.length) : SiLoop k c s t xs ks k' c' s' t' ys ks' xs.length := by
  have h1 : ((xs.length : Int) < (xs.length : Int)) = False := eq_false (by omega)
  unfold SiLoop
  rw [r73_B1_eq, List.drop_of_length_le (Nat.le_refl _)]
  simp (disch := omega) only [go_sem, and_self, and_true, true_and, false_and, and_false, Nat.reduceAdd, Nat.reduceMul, Nat.reduceSub, Nat.reduceLeDiff, Nat.reduceLT, Nat.reduceGT, Nat.reduceEqDiff, Nat.reduceBEq, Int.reduceNeg, Int.reduceEq, Int.reduceLT, Int.reduceLE, Int.reduceBEq, Int.reduceToNat, Int.toNat_natCast, Int.natCast_zero, r73_C1, h1, encs_len, samVs]
theorem si_step (hlen : xs.length = ys.length) (hl : xs.length ≤ maxLen) (i : Nat) (hi : i < xs.length) (hs : SamIs xs[i] (ys[i]'(by omega))) (ih : SiLoop k c s t xs ks k' c' s' t' ys ks' (i + 1)) : SiLoop k c s t xs ks k' c' s' t' ys ks' i := by
  have hmx : maxLen = 9223372036854775807 := by decide
  have h1 : ((i : Int) < (xs.length : Int)) = True := eq_true (by omega)
  have i0 : (0 ≤ (i : Int)) = True := eq_true (by omega)
  have va : (Val.encs xs)[i]? = some xs[i].enc := by rw [encs_get]; simp [hi]
  have vb : (Val.encs ys)[i]? = some (ys[i]'(by omega)).enc := by rw [encs_get]; simp [show i < ys.length by omega]
  have e1 : (i : Int) + 1 = ((i + 1 : Nat) : Int) := rfl
  unfold SamIs at hs
  unfold SiLoop at ih ⊢
  rw [r73_B1_eq, List.drop_eq_getElem_cons hi, List.drop_eq_getElem_cons (show i < ys.length by omega)]
  simp only [samVs]
  rcases Bool.eq_false_or_eq_true (samV xs[i] (ys[i]'(by omega))) with g | g
  · rw [g] at hs
    simp (disch := omega) only [go_sem, and_self, and_true, true_and, false_and, and_false, Nat.reduceAdd, Nat.reduceMul, Nat.reduceSub, Nat.reduceLeDiff, Nat.reduceLT, Nat.reduceGT, Nat.reduceEqDiff, Nat.reduceBEq, Int.reduceNeg, Int.reduceEq, Int.reduceLT, Int.reduceLE, Int.reduceBEq, Int.reduceToNat, Int.toNat_natCast, Int.natCast_zero, r73_C1, h1, i0, va, vb, hs, g, enc_w, enc_a, encs_len, e1, w64, Bool.true_and]
    exact ih
  · rw [g] at hs
    simp (disch := omega) only [go_sem, and_self, and_true, true_and, false_and, and_false, Nat.reduceAdd, Nat.reduceMul, Nat.reduceSub, Nat.reduceLeDiff, Nat.reduceLT, Nat.reduceGT, Nat.reduceEqDiff, Nat.reduceBEq, Int.reduceNeg, Int.reduceEq, Int.reduceLT, Int.reduceLE, Int.reduceBEq, Int.reduceToNat, Int.toNat_natCast, Int.natCast_zero, r73_C1, h1, i0, va, vb, hs, g, enc_w, enc_a, encs_len, e1, w64, Bool.false_and]
theorem si_loop (hlen : xs.length = ys.length) (hl : xs.length ≤ maxLen) (hs : ∀ (i : Nat) (x y : Val), xs[i]? = some x → ys[i]? = some y → SamIs x y) : ∀ (d i : Nat), i + d = xs.length → SiLoop k c s t xs ks k' c' s' t' ys ks' i
  | 0, i, h => by obtain rfl : i = xs.length := by omega
                  exact si_end k c s t xs ks k' c' s' t' ys ks' hlen
  | d + 1, i, h => si_step k c s t xs ks k' c' s' t' ys ks' hlen hl i (by omega) (hs i _ _ (List.getElem?_eq_getElem (by omega)) (List.getElem?_eq_getElem (by omega))) (si_loop hlen hl hs d (i + 1) (by omega))

set_option maxHeartbeats 1000000 in
theorem sam_core (h1 : xs.length ≤ maxLen) (h2 : ks.length ≤ maxLen) (hs : ∀ (i : Nat) (x y : Val), xs[i]? = some x → ys[i]? = some y → SamIs x y) : SamIs (.mk k c s t xs ks) (.mk k' c' s' t' ys ks') := by
  intro hp
  refine f73 rfl ?_
  have he := eqD_num c s c' s'
  have x1 : ((xs.length : Int) != (ys.length : Int)) = !decide (xs.length = ys.length) := by by_cases h : xs.length = ys.length <;> simp [h]; omega
  have x2 : ((ks.length : Int) != (ks'.length : Int)) = !decide (ks.length = ks'.length) := by by_cases h : ks.length = ks'.length <;> simp [h]; omega
  have x0 : (k != k') = !(k == k') := rfl
  simp only [Val.enc, samV]
  rcases Bool.eq_false_or_eq_true (k == k') with g0 | g0
  · rcases Bool.eq_false_or_eq_true (c == c' && s == s') with g1 | g1
    · rcases Bool.eq_false_or_eq_true (t.toList == t'.toList) with g2 | g2
      · rcases Bool.eq_false_or_eq_true (decide (xs.length = ys.length)) with g3 | g3
        · rcases Bool.eq_false_or_eq_true (decide (ks.length = ks'.length)) with g4 | g4
          · have hlen := of_decide_eq_true g3
            have hlek := of_decide_eq_true g4
            have hk := sk_loop k c s t xs ks k' c' s' t' ys ks' hlek h2 ks.length 0 (by omega)
            have hi := si_loop k c s t xs ks k' c' s' t' ys ks' hlen h1 hs xs.length 0 (by omega)
            unfold SkLoop at hk
            unfold SiLoop at hi
            rw [List.drop_zero, List.drop_zero] at hk hi
            rw [g0, g1, g2, g3, g4]
            simp (disch := omega) only [go_sem, and_self, and_true, true_and, false_and, and_false, Nat.reduceAdd, Nat.reduceMul, Nat.reduceSub, Nat.reduceLeDiff, Nat.reduceLT, Nat.reduceGT, Nat.reduceEqDiff, Nat.reduceBEq, Int.reduceNeg, Int.reduceEq, Int.reduceLT, Int.reduceLE, Int.reduceBEq, Int.reduceToNat, Int.toNat_natCast, Int.natCast_zero, r73_T, r73, x0, x1, x2, g0, he, g1, strD_neq, g2, encs_len, g3, List.length_map, g4, Bool.true_and]
            rw [r73_B0_n]
            erw [hk]
            rcases Bool.eq_false_or_eq_true (samK ks ks') with g5 | g5
            · rw [g5]
              simp (disch := omega) only [go_sem, and_self, and_true, true_and, false_and, and_false, Nat.reduceAdd, Nat.reduceMul, Nat.reduceSub, Nat.reduceLeDiff, Nat.reduceLT, Nat.reduceGT, Nat.reduceEqDiff, Nat.reduceBEq, Int.reduceNeg, Int.reduceEq, Int.reduceLT, Int.reduceLE, Int.reduceBEq, Int.reduceToNat, Int.toNat_natCast, Int.natCast_zero]
              rw [r73_B1_n]
              erw [hi]
              rcases Bool.eq_false_or_eq_true (samVs xs ys) with g6 | g6 <;> rw [g6] <;> simp only [go_sem, and_self, and_true, true_and, false_and, and_false, Nat.reduceAdd, Nat.reduceMul, Nat.reduceSub, Nat.reduceLeDiff, Nat.reduceLT, Nat.reduceGT, Nat.reduceEqDiff, Nat.reduceBEq, Int.reduceNeg, Int.reduceEq, Int.reduceLT, Int.reduceLE, Int.reduceBEq, Int.reduceToNat, Int.toNat_natCast, Int.natCast_zero]
            · rw [g5]
              simp (disch := omega) only [go_sem, and_self, and_true, true_and, false_and, and_false, Nat.reduceAdd, Nat.reduceMul, Nat.reduceSub, Nat.reduceLeDiff, Nat.reduceLT, Nat.reduceGT, Nat.reduceEqDiff, Nat.reduceBEq, Int.reduceNeg, Int.reduceEq, Int.reduceLT, Int.reduceLE, Int.reduceBEq, Int.reduceToNat, Int.toNat_natCast, Int.natCast_zero, Bool.false_and]
          · rw [g0, g1, g2, g3, g4]
            simp (disch := omega) only [go_sem, and_self, and_true, true_and, false_and, and_false, Nat.reduceAdd, Nat.reduceMul, Nat.reduceSub, Nat.reduceLeDiff, Nat.reduceLT, Nat.reduceGT, Nat.reduceEqDiff, Nat.reduceBEq, Int.reduceNeg, Int.reduceEq, Int.reduceLT, Int.reduceLE, Int.reduceBEq, Int.reduceToNat, Int.toNat_natCast, Int.natCast_zero, r73_T, r73, x0, x1, x2, g0, he, g1, strD_neq, g2, encs_len, g3, List.length_map, g4, Bool.true_and, Bool.false_and]
        · rw [g0, g1, g2, g3]
          simp (disch := omega) only [go_sem, and_self, and_true, true_and, false_and, and_false, Nat.reduceAdd, Nat.reduceMul, Nat.reduceSub, Nat.reduceLeDiff, Nat.reduceLT, Nat.reduceGT, Nat.reduceEqDiff, Nat.reduceBEq, Int.reduceNeg, Int.reduceEq, Int.reduceLT, Int.reduceLE, Int.reduceBEq, Int.reduceToNat, Int.toNat_natCast, Int.natCast_zero, r73_T, r73, x0, x1, g0, he, g1, strD_neq, g2, encs_len, g3, Bool.true_and, Bool.false_and]
      · rw [g0, g1, g2]
        simp (disch := omega) only [go_sem, and_self, and_true, true_and, false_and, and_false, Nat.reduceAdd, Nat.reduceMul, Nat.reduceSub, Nat.reduceLeDiff, Nat.reduceLT, Nat.reduceGT, Nat.reduceEqDiff, Nat.reduceBEq, Int.reduceNeg, Int.reduceEq, Int.reduceLT, Int.reduceLE, Int.reduceBEq, Int.reduceToNat, Int.toNat_natCast, Int.natCast_zero, r73_T, r73, x0, g0, he, g1, strD_neq, g2, Bool.true_and, Bool.false_and]
    · rw [g0, g1]
      simp (disch := omega) only [go_sem, and_self, and_true, true_and, false_and, and_false, Nat.reduceAdd, Nat.reduceMul, Nat.reduceSub, Nat.reduceLeDiff, Nat.reduceLT, Nat.reduceGT, Nat.reduceEqDiff, Nat.reduceBEq, Int.reduceNeg, Int.reduceEq, Int.reduceLT, Int.reduceLE, Int.reduceBEq, Int.reduceToNat, Int.toNat_natCast, Int.natCast_zero, r73_T, r73, x0, g0, he, g1, Bool.true_and, Bool.false_and]
  · rw [g0]
    simp (disch := omega) only [go_sem, and_self, and_true, true_and, false_and, and_false, Nat.reduceAdd, Nat.reduceMul, Nat.reduceSub, Nat.reduceLeDiff, Nat.reduceLT, Nat.reduceGT, Nat.reduceEqDiff, Nat.reduceBEq, Int.reduceNeg, Int.reduceEq, Int.reduceLT, Int.reduceLE, Int.reduceBEq, Int.reduceToNat, Int.toNat_natCast, Int.natCast_zero, r73_T, r73, x0, g0, Bool.false_and]
end

theorem sam_ok : ∀ (x y : Val), x.ok → SamIs x y
  | .mk k c s t xs ks, .mk k' c' s' t' ys ks', hx => by
    simp only [Val.ok] at hx
    refine sam_core k c s t xs ks k' c' s' t' ys ks' hx.2.2.2.2.1 hx.2.2.2.2.2.1 ?_
    intro i x y hxi _
    have hm := List.mem_of_getElem? hxi
    exact sam_ok x y (oks_mem hx.2.2.2.2.2.2.2 hm)
end Go.Pe.T

namespace Go.Pe.T

def ctV (l : List Val) (v : Val) : Nat := l.countP fun x => samV x v

def CtLoop (l : List Val) (k c s : Int) (t : ByteArray) (xs : List Val) (ks : List ByteArray) (i n : Nat) : Prop :=
  V (F tab) r36_B0 (r36_S0 (.d (.sl (Val.encs l))) (bxV k c s t (Val.encs xs) ks) (.d (iv n)) (.d (iv i)) []) = some (.norm, r36_E0 (.d (iv (n + ctV (l.drop i) (.mk k c s t xs ks) : Nat))) [])
theorem ct_end (l : List Val) (k c s : Int) (t : ByteArray) (xs : List Val) (ks : List ByteArray) (n : Nat) : CtLoop l k c s t xs ks l.length n := by
  have h1 : ((l.length : Int) < (l.length : Int)) = False := eq_false (by omega)
  unfold CtLoop
  rw [r36_B0_eq, List.drop_of_length_le (Nat.le_refl _)]
  have e : ctV [] (.mk k c s t xs ks) = 0 := rfl
  rw [e, Nat.add_zero]
  simp (disch := omega) only [go_sem, and_self, and_true, true_and, false_and, and_false, Nat.reduceAdd, Nat.reduceMul, Nat.reduceSub, Nat.reduceLeDiff, Nat.reduceLT, Nat.reduceGT, Nat.reduceEqDiff, Nat.reduceBEq, Int.reduceNeg, Int.reduceEq, Int.reduceLT, Int.reduceLE, Int.reduceBEq, Int.reduceToNat, Int.toNat_natCast, Int.natCast_zero, r36_C0, h1, encs_len]
theorem ct_step (l : List Val) (hl : l.length ≤ 1000) (k c s : Int) (t : ByteArray) (xs : List Val) (ks : List ByteArray) (i n : Nat) (hn : n ≤ 1000) (hi : i < l.length) (hs : SamIs l[i] (.mk k c s t xs ks)) (ih : ∀ m, m ≤ n + 1 → CtLoop l k c s t xs ks (i + 1) m) : CtLoop l k c s t xs ks i n := by
  have h1 : ((i : Int) < (l.length : Int)) = True := eq_true (by omega)
  have i0 : (0 ≤ (i : Int)) = True := eq_true (by omega)
  have va : (Val.encs l)[i]? = some l[i].enc := by rw [encs_get]; simp [hi]
  have e1 : (i : Int) + 1 = ((i + 1 : Nat) : Int) := rfl
  have e2 : (n : Int) + 1 = ((n + 1 : Nat) : Int) := rfl
  have hd : l.drop i = l[i] :: l.drop (i + 1) := List.drop_eq_getElem_cons hi
  unfold SamIs at hs
  simp only [Val.enc] at hs
  rcases Bool.eq_false_or_eq_true (samV l[i] (.mk k c s t xs ks)) with g | g
  · have ih := ih (n + 1) (by omega)
    rw [g] at hs
    have ec : ctV (l.drop i) (.mk k c s t xs ks) = ctV (l.drop (i + 1)) (.mk k c s t xs ks) + 1 := by
      unfold ctV; rw [hd, List.countP_cons_of_pos (by simpa using g)]
    unfold CtLoop at ih ⊢
    rw [r36_B0_eq, ec]
    simp (disch := omega) only [go_sem, and_self, and_true, true_and, false_and, and_false, Nat.reduceAdd, Nat.reduceMul, Nat.reduceSub, Nat.reduceLeDiff, Nat.reduceLT, Nat.reduceGT, Nat.reduceEqDiff, Nat.reduceBEq, Int.reduceNeg, Int.reduceEq, Int.reduceLT, Int.reduceLE, Int.reduceBEq, Int.reduceToNat, Int.toNat_natCast, Int.natCast_zero, r36_C0, h1, i0, va, hs, enc_w, enc_a, encs_len, e1, e2, w64]
    rw [show n + 1 + ctV (l.drop (i + 1)) (.mk k c s t xs ks) = n + (ctV (l.drop (i + 1)) (.mk k c s t xs ks) + 1) by omega] at ih
    exact ih
  · have ih := ih n (by omega)
    rw [g] at hs
    have ec : ctV (l.drop i) (.mk k c s t xs ks) = ctV (l.drop (i + 1)) (.mk k c s t xs ks) := by
      unfold ctV; rw [hd, List.countP_cons_of_neg (by simpa using g)]
    unfold CtLoop at ih ⊢
    rw [r36_B0_eq, ec]
    simp (disch := omega) only [go_sem, and_self, and_true, true_and, false_and, and_false, Nat.reduceAdd, Nat.reduceMul, Nat.reduceSub, Nat.reduceLeDiff, Nat.reduceLT, Nat.reduceGT, Nat.reduceEqDiff, Nat.reduceBEq, Int.reduceNeg, Int.reduceEq, Int.reduceLT, Int.reduceLE, Int.reduceBEq, Int.reduceToNat, Int.toNat_natCast, Int.natCast_zero, r36_C0, h1, i0, va, hs, enc_w, enc_a, encs_len, e1, e2, w64]
    exact ih
theorem ct_loop (l : List Val) (hl : l.length ≤ 500) (hk : Val.oks l) (k c s : Int) (t : ByteArray) (xs : List Val) (ks : List ByteArray) : ∀ (d i n : Nat), i + d = l.length → n ≤ i → CtLoop l k c s t xs ks i n
  | 0, i, n, h, hn => by obtain rfl : i = l.length := by omega
                         exact ct_end l k c s t xs ks n
  | d + 1, i, n, h, hn => ct_step l (by omega) k c s t xs ks i n (by omega) (by omega) (sam_ok _ _ (oks_mem hk (List.getElem_mem _))) fun m hm => ct_loop l hl hk k c s t xs ks d (i + 1) m (by omega) (by omega)
theorem count_ok (l : List Val) (hl : l.length ≤ 500) (hk : Val.oks l) (v : Val) (hp : List Ent) : F tab 36 [.d (.sl (Val.encs l)), .d v.enc] hp = some (.ret (.d (iv (ctV l v))) hp) := by
  obtain ⟨k, c, s, t, xs, ks⟩ := v
  have hL := ct_loop l hl hk k c s t xs ks l.length 0 0 (by omega) (Nat.le_refl _)
  unfold CtLoop at hL
  rw [List.drop_zero, Nat.zero_add] at hL
  refine f36 rfl ?_
  simp only [Val.enc]
  simp (disch := omega) only [go_sem, and_self, and_true, true_and, false_and, and_false, Nat.reduceAdd, Nat.reduceMul, Nat.reduceSub, Nat.reduceLeDiff, Nat.reduceLT, Nat.reduceGT, Nat.reduceEqDiff, Nat.reduceBEq, Int.reduceNeg, Int.reduceEq, Int.reduceLT, Int.reduceLE, Int.reduceBEq, Int.reduceToNat, Int.toNat_natCast, Int.natCast_zero, r36_T, r36]
  rw [r36_B0_n]
  erw [hL]
  simp (disch := omega) only [go_sem, and_self, and_true, true_and, false_and, and_false, Nat.reduceAdd, Nat.reduceMul, Nat.reduceSub, Nat.reduceLeDiff, Nat.reduceLT, Nat.reduceGT, Nat.reduceEqDiff, Nat.reduceBEq, Int.reduceNeg, Int.reduceEq, Int.reduceLT, Int.reduceLE, Int.reduceBEq, Int.reduceToNat, Int.toNat_natCast, Int.natCast_zero]
theorem ctV_perm {l m : List Val} (h : l.Perm m) (v : Val) : ctV l v = ctV m v := h.countP_eq _
end Go.Pe.T

namespace Go.Pe.T

/-- a row handed on: the operation at a state that bears it -/
theorem frz_at {l : List Val} (tm : List PV) (n id : Nat) (hp : List Ent) (hid : hp[id]? = some (rowEnt (Val.encs l))) (h : tm.getD n .dead = .rowh id 0 l.length) : frzOp ⟨tm, hp⟩ 6 true (.t n) = some (.d (.sl (Val.encs l)), ⟨tm, hp.set id .gone⟩) :=
  frz_row (s := ⟨tm, hp⟩) (x := .t n) (id := id) (encRow l) (by rw [encs_len]; exact h) hid

def OsLoop (l s : List Val) (i : Nat) : Prop :=
  V (F tab) r9_B0 (r9_S0 (.d (.sl (Val.encs l))) (.d (.sl (Val.encs s))) (.d (iv i)) [.gone]) = some (.norm, r9_E0 (.d (.sl (Val.encs l))) (.d (.sl (Val.encs s))) [.gone])
theorem os_end (l s : List Val) : OsLoop l s s.length := by
  have h1 : ((s.length : Int) < (s.length : Int)) = False := eq_false (by omega)
  unfold OsLoop
  rw [r9_B0_eq]
  simp (disch := omega) only [go_sem, and_self, and_true, true_and, false_and, and_false, Nat.reduceAdd, Nat.reduceMul, Nat.reduceSub, Nat.reduceLeDiff, Nat.reduceLT, Nat.reduceGT, Nat.reduceEqDiff, Nat.reduceBEq, Int.reduceNeg, Int.reduceEq, Int.reduceLT, Int.reduceLE, Int.reduceBEq, Int.reduceToNat, Int.toNat_natCast, Int.natCast_zero, r9_C0, h1, encs_len]

set_option maxHeartbeats 1000000 in
theorem os_first (l s : List Val) (hl : l.length ≤ 12) (hlen : s.length = l.length) (hk : Val.oks l) (hks : Val.oks s) (hp : s.Perm l) (hi : 0 < s.length) (ih : OsLoop l s 1) : OsLoop l s 0 := by
  have h1 : (((0 : Nat) : Int) < (s.length : Int)) = True := eq_true (by omega)
  have h1' : ((0 : Int) < (s.length : Int)) = True := eq_true (by omega)
  have h2 : (((0 : Nat) : Int) > 0) = False := eq_false (by omega)
  have h2' : ((0 : Int) > 0) = False := eq_false (by omega)
  have i0 : (0 ≤ (0 : Int)) = True := eq_true (by omega)
  have va : (Val.encs s)[0]? = some s[0].enc := by rw [encs_get]; simp [hi]
  have c1 := count_ok s (by omega) hks s[0]
  have c2 := count_ok l (by omega) hk s[0]
  rw [ctV_perm hp] at c1
  have sf : ∀ u : Int, (u != u) = false := fun u => by simp
  have t0 : (0 : Int).toNat = 0 := rfl
  have z1 : IntKind.i64.wrap (0 + 1) = 1 := by decide
  unfold OsLoop at ih ⊢
  rw [r9_B0_eq]
  simp (maxSteps := 1000000) (disch := omega) only [go_sem, and_self, and_true, true_and, false_and, and_false, Nat.reduceAdd, Nat.reduceMul, Nat.reduceSub, Nat.reduceLeDiff, Nat.reduceLT, Nat.reduceGT, Nat.reduceEqDiff, Nat.reduceBEq, Int.reduceNeg, Int.reduceEq, Int.reduceLT, Int.reduceLE, Int.reduceBEq, Int.reduceToNat, Int.toNat_natCast, Int.natCast_zero, r9_C0, h1, h1', h2, h2', i0, va, c1, c2, sf, t0, z1, enc_w, enc_a, encs_len, w64]
  exact ih

set_option maxHeartbeats 1000000 in
theorem os_step (l s : List Val) (hl : l.length ≤ 12) (hlen : s.length = l.length) (hk : Val.oks l) (hks : Val.oks s) (hp : s.Perm l) (m : Nat) (hi : m + 1 < s.length) (hok : okP s[m] s[m + 1]) (hle : cmpC s[m] s[m + 1] ≤ 0) (ih : OsLoop l s (m + 2)) : OsLoop l s (m + 1) := by
  have h1 : (((m + 1 : Nat) : Int) < (s.length : Int)) = True := eq_true (by omega)
  have h2 : (((m + 1 : Nat) : Int) > 0) = True := eq_true (by omega)
  have i0 : (0 ≤ ((m + 1 : Nat) : Int)) = True := eq_true (by omega)
  have j0 : (0 ≤ (m : Int)) = True := eq_true (by omega)
  have e1 : ((m + 1 : Nat) : Int) - 1 = (m : Int) := by omega
  have e2 : ((m + 1 : Nat) : Int) + 1 = ((m + 2 : Nat) : Int) := rfl
  have va : (Val.encs s)[m + 1]? = some s[m + 1].enc := by rw [encs_get]; simp [hi]
  have vb : (Val.encs s)[m]? = some s[m].enc := by rw [encs_get]; simp [show m < s.length by omega]
  have hc := ocmp_ok s[m] s[m + 1] (oks_mem hks (List.getElem_mem _)) (oks_mem hks (List.getElem_mem _))
  have c1 := count_ok s (by omega) hks s[m + 1]
  have c2 := count_ok l (by omega) hk s[m + 1]
  rw [ctV_perm hp] at c1
  have sf : ∀ u : Int, (u != u) = false := fun u => by simp
  unfold okP at hok
  unfold cmpC at hle
  rw [hok] at hc
  have g1 : ((cmpR s[m] s[m + 1]).1 > 0) = False := eq_false (by omega)
  unfold OsLoop at ih ⊢
  rw [r9_B0_eq]
  simp (maxSteps := 1000000) (disch := omega) only [go_sem, and_self, and_true, true_and, false_and, and_false, Nat.reduceAdd, Nat.reduceMul, Nat.reduceSub, Nat.reduceLeDiff, Nat.reduceLT, Nat.reduceGT, Nat.reduceEqDiff, Nat.reduceBEq, Int.reduceNeg, Int.reduceEq, Int.reduceLT, Int.reduceLE, Int.reduceBEq, Int.reduceToNat, Int.toNat_natCast, Int.natCast_zero, r9_C0, h1, h2, i0, j0, e1, e2, va, vb, hc, g1, c1, c2, sf, enc_w, enc_a, encs_len, w64]
  exact ih

theorem os_loop (l s : List Val) (hl : l.length ≤ 12) (hlen : s.length = l.length) (hk : Val.oks l) (hks : Val.oks s) (hp : s.Perm l) (hok : s.Pairwise okP) (hadj : ∀ m, m + 1 < s.length → Adj s m) : ∀ (d i : Nat), i + d = s.length → OsLoop l s i
  | 0, i, h => by obtain rfl : i = s.length := by omega
                  exact os_end l s
  | d + 1, 0, h => os_first l s hl hlen hk hks hp (by omega) (os_loop l s hl hlen hk hks hp hok hadj d 1 (by omega))
  | d + 1, m + 1, h => os_step l s hl hlen hk hks hp m (by omega) (List.pairwise_iff_getElem.1 hok m (m + 1) (by omega) (by omega) (by omega)) (hadj m (by omega) _ _ (List.getElem?_eq_getElem (by omega)) (List.getElem?_eq_getElem (by omega))) (os_loop l s hl hlen hk hks hp hok hadj d (m + 2) (by omega))

theorem light_len {l : List Val} (h : lightL l = true) : l.length ≤ 12 := by
  simp only [lightL, Bool.and_eq_true, decide_eq_true_eq] at h
  exact h.2

set_option maxHeartbeats 1000000 in
theorem OrderSorted_ok (l : List Val) (hm : l.length ≤ maxLen) (hk : Val.oks l) (hp : List Ent) : F tab 9 [.d (.sl (Val.encs l))] hp = some (.ret (.d (.bool true)) hp) := by
  have hl := light7_ok l hm hk
  have hL := lives7_ok
  refine f9 rfl ?_
  rcases Bool.eq_false_or_eq_true (lightL l) with g | g
  · rw [g] at hl
    have h12 := light_len g
    have hs := fun hp => osort_ok l h12 hk hp
    rcases Bool.eq_false_or_eq_true (toldV l) with gt | gt
    · simp only [gt, if_true] at hs
      have hs := hs []
      have hfz : ∀ (tm : List PV) (n : Nat), tm.getD n .dead = .rowh 0 0 l.length → frzOp ⟨tm, [rowEnt (Val.encs (sortV l))]⟩ 6 true (.t n) = some (.d (.sl (Val.encs (sortV l))), ⟨tm, [.gone]⟩) :=
        fun tm n h => frz_at (l := sortV l) tm n 0 [rowEnt (Val.encs (sortV l))] rfl (by rw [sortV_len]; exact h)
      have hpw := sortV_ok (toldV_pw gt)
      have hlp := os_loop l (sortV l) h12 (sortV_len l) hk (oks_perm (sortV_perm l).symm hk) (sortV_perm l) hpw (fun m hm => sortV_adj l m (by rw [sortV_len] at hm; exact hm)) (sortV l).length 0 (by omega)
      unfold OsLoop at hlp
      have sl := sortV_len l
      have sb : ((l.length : Int) == (l.length : Int)) = true := by simp
      simp (maxSteps := 1000000) (disch := omega) only [go_sem, and_self, and_true, true_and, false_and, and_false, Nat.reduceAdd, Nat.reduceMul, Nat.reduceSub, Nat.reduceLeDiff, Nat.reduceLT, Nat.reduceGT, Nat.reduceEqDiff, Nat.reduceBEq, Int.reduceNeg, Int.reduceEq, Int.reduceLT, Int.reduceLE, Int.reduceBEq, Int.reduceToNat, Int.toNat_natCast, Int.natCast_zero, r9_T, r9, hl, hs, demote_rowh]
      rw [hfz _ _ rfl]
      simp (maxSteps := 1000000) (disch := omega) only [go_sem, and_self, and_true, true_and, false_and, and_false, Nat.reduceAdd, Nat.reduceMul, Nat.reduceSub, Nat.reduceLeDiff, Nat.reduceLT, Nat.reduceGT, Nat.reduceEqDiff, Nat.reduceBEq, Int.reduceNeg, Int.reduceEq, Int.reduceLT, Int.reduceLE, Int.reduceBEq, Int.reduceToNat, Int.toNat_natCast, Int.natCast_zero]
      rw [r9_B0_n]
      erw [hlp]
      simp (disch := omega) only [go_sem, and_self, and_true, true_and, false_and, and_false, Nat.reduceAdd, Nat.reduceMul, Nat.reduceSub, Nat.reduceLeDiff, Nat.reduceLT, Nat.reduceGT, Nat.reduceEqDiff, Nat.reduceBEq, Int.reduceNeg, Int.reduceEq, Int.reduceLT, Int.reduceLE, Int.reduceBEq, Int.reduceToNat, Int.toNat_natCast, Int.natCast_zero, encs_len, sl, sb, hL]
    · simp only [gt, Bool.false_eq_true, if_false] at hs
      have hs := hs []
      have hn : ((([] : List D).length : Int) == 0) = true := rfl
      have hn0 : ((0 : Int) == 0) = true := rfl
      simp (maxSteps := 1000000) (disch := omega) only [go_sem, and_self, and_true, true_and, false_and, and_false, Nat.reduceAdd, Nat.reduceMul, Nat.reduceSub, Nat.reduceLeDiff, Nat.reduceLT, Nat.reduceGT, Nat.reduceEqDiff, Nat.reduceBEq, Int.reduceNeg, Int.reduceEq, Int.reduceLT, Int.reduceLE, Int.reduceBEq, Int.reduceToNat, Int.toNat_natCast, Int.natCast_zero, r9_T, r9, hl, hs, frzOp, hn, hn0, hL]
  · rw [g] at hl
    simp (disch := omega) only [go_sem, and_self, and_true, true_and, false_and, and_false, Nat.reduceAdd, Nat.reduceMul, Nat.reduceSub, Nat.reduceLeDiff, Nat.reduceLT, Nat.reduceGT, Nat.reduceEqDiff, Nat.reduceBEq, Int.reduceNeg, Int.reduceEq, Int.reduceLT, Int.reduceLE, Int.reduceBEq, Int.reduceToNat, Int.toNat_natCast, Int.natCast_zero, r9_T, r9, hl, hL]
end Go.Pe.T

namespace Go.Pe.T
/-! ### through thirds -/
/-- what is ahead of what is ahead of a third one is ahead of that -/
structure Tr (a c d : Int) : Prop where
  le : a ≤ 0 → c ≤ 0 → d ≤ 0
  lt : a ≤ 0 → c ≤ 0 → a < 0 ∨ c < 0 → d < 0
  eq : a = 0 → c = 0 → d = 0

theorem Tr.sgn (x y z : Int) : Tr (sgn x y) (sgn y z) (sgn x z) := by
  constructor <;> (unfold Go.Pe.T.sgn; repeat' split) <;> omega
theorem Tr.zero : Tr 0 0 0 := ⟨fun _ _ => by omega, fun _ _ h => by omega, fun _ _ => rfl⟩
theorem Tr.lex {a c d a' c' d' : Int} (h : Tr a c d) (h' : a = 0 → c = 0 → Tr a' c' d') : Tr (if a ≠ 0 then a else a') (if c ≠ 0 then c else c') (if d ≠ 0 then d else d') := by
  by_cases ha : a = 0
  · by_cases hc : c = 0
    · have hd := h.eq ha hc
      rw [if_neg (by omega), if_neg (by omega), if_neg (by omega)]
      exact h' ha hc
    · rw [if_neg (by omega), if_pos hc]
      constructor
      · intro _ h2
        have := h.lt (by omega) h2 (.inr (by omega))
        rw [if_pos (by omega)]; omega
      · intro _ h2 _
        have := h.lt (by omega) h2 (.inr (by omega))
        rw [if_pos (by omega)]; omega
      · intro _ h2; omega
  · rw [if_pos ha]
    constructor
    · intro h1 h2
      have hc : c ≤ 0 := by by_cases g : c = 0; omega; rw [if_pos g] at h2; exact h2
      have := h.lt h1 hc (.inl (by omega))
      rw [if_pos (by omega)]; omega
    · intro h1 h2 _
      have hc : c ≤ 0 := by by_cases g : c = 0; omega; rw [if_pos g] at h2; exact h2
      have := h.lt h1 hc (.inl (by omega))
      rw [if_pos (by omega)]; omega
    · intro h1; omega

theorem sgn_succ (a b : Nat) : sgn ((a + 1 : Nat) : Int) ((b + 1 : Nat) : Int) = sgn a b := by
  unfold sgn; repeat' split
  all_goals omega

theorem txtL_cons (x y : UInt8) (a b : List UInt8) : txtL (x :: a) (y :: b) = if sgn x.toNat y.toNat ≠ 0 then sgn x.toNat y.toNat else txtL a b := by
  unfold txtL
  simp only [mism, List.length_cons, sgn_succ]
  by_cases h : x = y
  · subst h
    have : sgn (x.toNat : Int) (x.toNat : Int) = 0 := sgn_zero'.2 rfl
    rw [if_pos rfl, if_neg (by omega)]
  · have : sgn (x.toNat : Int) (y.toNat : Int) ≠ 0 := fun e => h (UInt8.toNat_inj.1 (by have := sgn_zero'.1 e; omega))
    rw [if_neg h, if_pos this]
    rfl
theorem txtL_nil (y : UInt8) (b : List UInt8) : txtL [] (y :: b) = -1 ∧ txtL (y :: b) [] = 1 := by
  constructor
  · unfold txtL sgn; simp [mism] <;> omega
  · unfold txtL sgn; simp [mism] <;> omega
theorem txtL_tr : ∀ (a b c : List UInt8), Tr (txtL a b) (txtL b c) (txtL a c)
  | [], [], [] => Tr.zero
  | [], [], z :: c => by rw [(txtL_nil z c).1]; exact ⟨fun _ _ => by omega, fun _ _ _ => by omega, fun _ h => by omega⟩
  | [], y :: b, [] => by rw [(txtL_nil y b).1, (txtL_nil y b).2]; exact ⟨fun _ h => by omega, fun _ h _ => by omega, fun h => by omega⟩
  | x :: a, [], [] => by rw [(txtL_nil x a).2]; exact ⟨fun h => by omega, fun h => by omega, fun h => by omega⟩
  | x :: a, [], z :: c => by rw [(txtL_nil x a).2]; exact ⟨fun h => by omega, fun h => by omega, fun h => by omega⟩
  | [], y :: b, z :: c => by rw [(txtL_nil y b).1, (txtL_nil z c).1]; exact ⟨fun _ _ => by omega, fun _ _ _ => by omega, fun h => by omega⟩
  | x :: a, y :: b, [] => by rw [(txtL_nil y b).2, (txtL_nil x a).2]; exact ⟨fun _ h => by omega, fun _ h => by omega, fun _ h => by omega⟩
  | x :: a, y :: b, z :: c => by
    rw [txtL_cons, txtL_cons, txtL_cons]
    exact (Tr.sgn _ _ _).lex fun _ _ => txtL_tr a b c
theorem txt_tr (a b c : ByteArray) : Tr (txt a b) (txt b c) (txt a c) := txtL_tr _ _ _

theorem keysC_cons (x y : ByteArray) (a b : List ByteArray) : keysC (x :: a) (y :: b) = if txt x y ≠ 0 then txt x y else keysC a b := by
  unfold keysC
  simp only [keysO, List.length_cons, sgn_succ]
  by_cases h : txt x y = 0
  · rw [if_pos h, if_neg (by omega)]
  · rw [if_neg h, if_pos h]; rfl
theorem keysC_nil (y : ByteArray) (b : List ByteArray) : keysC [] (y :: b) = -1 ∧ keysC (y :: b) [] = 1 := by
  constructor
  · unfold keysC sgn; simp [keysO] <;> omega
  · unfold keysC sgn; simp [keysO] <;> omega
theorem keysC_tr : ∀ (a b c : List ByteArray), Tr (keysC a b) (keysC b c) (keysC a c)
  | [], [], [] => Tr.zero
  | [], [], z :: c => by rw [(keysC_nil z c).1]; exact ⟨fun _ _ => by omega, fun _ _ _ => by omega, fun _ h => by omega⟩
  | [], y :: b, [] => by rw [(keysC_nil y b).1, (keysC_nil y b).2]; exact ⟨fun _ h => by omega, fun _ h _ => by omega, fun h => by omega⟩
  | x :: a, [], [] => by rw [(keysC_nil x a).2]; exact ⟨fun h => by omega, fun h => by omega, fun h => by omega⟩
  | x :: a, [], z :: c => by rw [(keysC_nil x a).2]; exact ⟨fun h => by omega, fun h => by omega, fun h => by omega⟩
  | [], y :: b, z :: c => by rw [(keysC_nil y b).1, (keysC_nil z c).1]; exact ⟨fun _ _ => by omega, fun _ _ _ => by omega, fun h => by omega⟩
  | x :: a, y :: b, [] => by rw [(keysC_nil y b).2, (keysC_nil x a).2]; exact ⟨fun _ h => by omega, fun _ h => by omega, fun _ h => by omega⟩
  | x :: a, y :: b, z :: c => by
    rw [keysC_cons, keysC_cons, keysC_cons]
    exact (txt_tr _ _ _).lex fun _ _ => keysC_tr a b c

mutual
/-- the comparison without a bound -/
def pcV : Val → Val → Int
  | .mk k c s t xs ks, .mk k' c' s' t' ys ks' =>
    if sgn (rankOf k) (rankOf k') ≠ 0 then sgn (rankOf k) (rankOf k')
    else if k = 3 then sgn (flatS c s) (flatS c' s')
    else if k = 4 ∨ k = 7 then txt t t'
    else if k = 5 then pcVs xs ys
    else if k = 6 then (if keysC ks ks' ≠ 0 then keysC ks ks' else pcVs xs ys)
    else 0
def pcVs : List Val → List Val → Int
  | x :: a, y :: b => if pcV x y ≠ 0 then pcV x y else pcVs a b
  | a, b => sgn a.length b.length
end

mutual
theorem pcV_eq : ∀ (x y : Val) (left : Int), 0 ≤ (cmpV x y left).2 → (cmpV x y left).1 = pcV x y
  | .mk k c s t xs ks, .mk k' c' s' t' ys ks', left => by
    have ih := pcVs_eq xs ys (left - 1)
    simp only [cmpV, pcV]
    by_cases h1 : left - 1 < 0
    · rw [if_pos h1]; intro h; exfalso; simp only at h; omega
    · rw [if_neg h1]
      by_cases h2 : sgn (rankOf k) (rankOf k') ≠ 0
      · rw [if_pos h2, if_pos h2]; intro _; rfl
      · rw [if_neg h2, if_neg h2]
        by_cases h3 : k = 3
        · rw [if_pos h3, if_pos h3]; intro _; rfl
        · rw [if_neg h3, if_neg h3]
          by_cases h4 : k = 4 ∨ k = 7
          · rw [if_pos h4, if_pos h4]; intro _; rfl
          · rw [if_neg h4, if_neg h4]
            by_cases h5 : k = 5
            · rw [if_pos h5, if_pos h5]; exact ih
            · rw [if_neg h5, if_neg h5]
              by_cases h6 : k = 6
              · rw [if_pos h6, if_pos h6]
                by_cases h7 : keysC ks ks' ≠ 0
                · rw [if_pos h7, if_pos h7]; intro _; rfl
                · rw [if_neg h7, if_neg h7]; exact ih
              · rw [if_neg h6, if_neg h6]; intro _; rfl
theorem pcVs_eq : ∀ (a b : List Val) (left : Int), 0 ≤ (cmpVs a b left).2 → (cmpVs a b left).1 = pcVs a b
  | [], [], left => fun _ => rfl
  | [], _ :: b, left => fun _ => rfl
  | _ :: a, [], left => fun _ => rfl
  | x :: a, y :: b, left => by
    have i1 := pcV_eq x y left
    have i2 := pcVs_eq a b (cmpV x y left).2
    simp only [cmpVs, pcVs]
    by_cases h : (cmpV x y left).1 ≠ 0 ∨ (cmpV x y left).2 < 0
    · rw [if_pos h]
      intro h0
      have e := i1 h0
      have hne : pcV x y ≠ 0 := by rw [← e]; exact h.resolve_right (by omega)
      rw [if_pos hne]; exact e
    · rw [if_neg h]
      intro h0
      have e := i1 (by omega)
      have hz : ¬ pcV x y ≠ 0 := by rw [← e]; omega
      rw [if_neg hz]; exact i2 h0
end

theorem ite_zero (p : Prop) [Decidable p] (a b : Int) (h : ¬ p) : (if p then a else b) = b := if_neg h

mutual
theorem pcV_tr : ∀ (x y z : Val), Tr (pcV x y) (pcV y z) (pcV x z)
  | .mk k c s t xs ks, .mk k' c' s' t' ys ks', .mk k'' c'' s'' t'' zs ks'' => by
    have ih := pcVs_tr xs ys zs
    simp only [pcV]
    refine (Tr.sgn _ _ _).lex fun h1 h2 => ?_
    have r1 := sgn_zero'.1 h1
    have r2 := sgn_zero'.1 h2
    have q : ∀ m : Int, 0 ≤ m → m ≤ 7 → (k = m ↔ k' = m) := fun m a b => rank_inj r1 a b
    by_cases h3 : k = 3
    · have h3' := (q 3 (by omega) (by omega)).1 h3
      rw [if_pos h3, if_pos h3', if_pos h3]; exact Tr.sgn _ _ _
    · have h3' : ¬ k' = 3 := fun e => h3 ((q 3 (by omega) (by omega)).2 e)
      rw [if_neg h3, if_neg h3', if_neg h3]
      by_cases h4 : k = 4 ∨ k = 7
      · have h4' : k' = 4 ∨ k' = 7 := h4.elim (fun g => .inl ((q 4 (by omega) (by omega)).1 g)) (fun g => .inr ((q 7 (by omega) (by omega)).1 g))
        rw [if_pos h4, if_pos h4', if_pos h4]; exact txt_tr _ _ _
      · have h4' : ¬ (k' = 4 ∨ k' = 7) := fun g => h4 (g.elim (fun g => .inl ((q 4 (by omega) (by omega)).2 g)) (fun g => .inr ((q 7 (by omega) (by omega)).2 g)))
        rw [if_neg h4, if_neg h4', if_neg h4]
        by_cases h5 : k = 5
        · have h5' := (q 5 (by omega) (by omega)).1 h5
          rw [if_pos h5, if_pos h5', if_pos h5]; exact ih
        · have h5' : ¬ k' = 5 := fun e => h5 ((q 5 (by omega) (by omega)).2 e)
          rw [if_neg h5, if_neg h5', if_neg h5]
          by_cases h6 : k = 6
          · have h6' := (q 6 (by omega) (by omega)).1 h6
            rw [if_pos h6, if_pos h6', if_pos h6]
            exact (keysC_tr _ _ _).lex fun _ _ => ih
          · have h6' : ¬ k' = 6 := fun e => h6 ((q 6 (by omega) (by omega)).2 e)
            rw [if_neg h6, if_neg h6', if_neg h6]; exact Tr.zero
theorem pcVs_tr : ∀ (a b c : List Val), Tr (pcVs a b) (pcVs b c) (pcVs a c)
  | [], [], [] => Tr.sgn _ _ _
  | [], [], _ :: _ => Tr.sgn _ _ _
  | [], _ :: _, [] => Tr.sgn _ _ _
  | _ :: _, [], [] => Tr.sgn _ _ _
  | x :: a, [], z :: c => by
    have e1 : pcVs (x :: a) [] = 1 := by simp only [pcVs, sgn, List.length_cons, List.length_nil]; rw [if_neg (by omega), if_pos (by omega)]
    rw [e1]; exact ⟨fun h => by omega, fun h => by omega, fun h => by omega⟩
  | [], y :: b, z :: c => by
    have e1 : pcVs [] (y :: b) = -1 := by simp only [pcVs, sgn, List.length_cons, List.length_nil]; rw [if_pos (by omega)]
    have e2 : pcVs [] (z :: c) = -1 := by simp only [pcVs, sgn, List.length_cons, List.length_nil]; rw [if_pos (by omega)]
    rw [e1, e2]; exact ⟨fun _ _ => by omega, fun _ _ _ => by omega, fun h => by omega⟩
  | x :: a, y :: b, [] => by
    have e1 : pcVs (y :: b) [] = 1 := by simp only [pcVs, sgn, List.length_cons, List.length_nil]; rw [if_neg (by omega), if_pos (by omega)]
    rw [e1]; exact ⟨fun _ h => by omega, fun _ h => by omega, fun _ h => by omega⟩
  | x :: a, y :: b, z :: c => by
    have i1 := pcV_tr x y z
    have i2 := pcVs_tr a b c
    simp only [pcVs]
    exact i1.lex fun _ _ => i2
end

theorem cmpR_pc {x y : Val} (h : (cmpR x y).2 = true) : (cmpR x y).1 = pcV x y := by
  unfold cmpR at h ⊢
  split at h
  · simp at h
  · rename_i hn
    rw [if_neg hn]
    exact pcV_eq x y 4096 (by omega)
theorem cmpR_self {x : Val} : (cmpR x x).1 = 0 := by
  have := cmpR_swap x x
  have h1 := congrArg Prod.fst this
  simp only at h1
  omega
end Go.Pe.T

namespace Go.Pe.T
/-! ### sorted again: as it was -/
theorem sink_id (l : List Val) (i : Nat) (hi : i < l.length) (h : ∀ m, i = m + 1 → Adj l m) : sink l i = l := by
  cases i with
  | zero => rfl
  | succ m =>
    have hx : l[m + 1]? = some l[m + 1] := List.getElem?_eq_getElem hi
    have hy : l[m]? = some l[m] := List.getElem?_eq_getElem (by omega)
    have ha := h m rfl _ _ hy hx
    have hs := cmpC_swap l[m] l[m + 1]
    rw [sink, hx, hy]
    simp only
    rw [if_neg (by omega)]
theorem sortFrom_id : ∀ (k i : Nat) (l : List Val), i + k = l.length → (∀ m, m + 1 < l.length → Adj l m) → sortFrom l i k = l
  | 0, i, l, _, _ => rfl
  | k + 1, i, l, hi, h => by
    rw [sortFrom, sink_id l i (by omega) (fun m hm => h m (by omega))]
    exact sortFrom_id k (i + 1) l (by omega) h
theorem sortV_id {l : List Val} (h : ∀ m, m + 1 < l.length → Adj l m) : sortV l = l := by
  unfold sortV
  by_cases h0 : l.length = 0
  · rw [h0]; rfl
  · exact sortFrom_id _ 1 l (by omega) h
theorem sortV_sortV (l : List Val) : sortV (sortV l) = sortV l := sortV_id fun m hm => sortV_adj l m (by rw [sortV_len] at hm; exact hm)
theorem toldAux_of : ∀ (r p : List Val), (p ++ r).Pairwise okP → toldAux p r = true
  | [], p, _ => rfl
  | x :: r, p, h => by
    simp only [toldAux, Bool.and_eq_true, List.all_eq_true]
    refine ⟨fun y hy => ?_, toldAux_of r (p ++ [x]) (by simpa using h)⟩
    exact (List.pairwise_append.1 h).2.2 y hy x (by simp)
theorem toldV_sortV {l : List Val} (h : toldV l = true) : toldV (sortV l) = true := toldAux_of _ [] (by simpa using sortV_ok (toldV_pw h))

/-! ### two lists, the same -/
def SmLoop (l : List Val) (i : Nat) : Prop :=
  V (F tab) r35_B0 (r35_S0 (.d (.sl (Val.encs l))) (.d (.sl (Val.encs l))) (.d (iv i)) []) = some (.norm, r35_E0 [])
theorem sm_end (l : List Val) : SmLoop l l.length := by
  have h1 : ((l.length : Int) < (l.length : Int)) = False := eq_false (by omega)
  unfold SmLoop
  rw [r35_B0_eq]
  simp (disch := omega) only [go_sem, and_self, and_true, true_and, false_and, and_false, Nat.reduceAdd, Nat.reduceMul, Nat.reduceSub, Nat.reduceLeDiff, Nat.reduceLT, Nat.reduceGT, Nat.reduceEqDiff, Nat.reduceBEq, Int.reduceNeg, Int.reduceEq, Int.reduceLT, Int.reduceLE, Int.reduceBEq, Int.reduceToNat, Int.toNat_natCast, Int.natCast_zero, r35_C0, h1, encs_len]
theorem sm_step (l : List Val) (hl : l.length ≤ 1000) (hk : Val.oks l) (i : Nat) (hi : i < l.length) (ih : SmLoop l (i + 1)) : SmLoop l i := by
  have h1 : ((i : Int) < (l.length : Int)) = True := eq_true (by omega)
  have i0 : (0 ≤ (i : Int)) = True := eq_true (by omega)
  have va : (Val.encs l)[i]? = some l[i].enc := by rw [encs_get]; simp [hi]
  have e1 : (i : Int) + 1 = ((i + 1 : Nat) : Int) := rfl
  have hs := sam_ok l[i] l[i] (oks_mem hk (List.getElem_mem _))
  unfold SamIs at hs
  rw [samV_refl] at hs
  unfold SmLoop at ih ⊢
  rw [r35_B0_eq]
  simp (disch := omega) only [go_sem, and_self, and_true, true_and, false_and, and_false, Nat.reduceAdd, Nat.reduceMul, Nat.reduceSub, Nat.reduceLeDiff, Nat.reduceLT, Nat.reduceGT, Nat.reduceEqDiff, Nat.reduceBEq, Int.reduceNeg, Int.reduceEq, Int.reduceLT, Int.reduceLE, Int.reduceBEq, Int.reduceToNat, Int.toNat_natCast, Int.natCast_zero, r35_C0, h1, i0, va, hs, enc_w, enc_a, encs_len, e1, w64]
  exact ih
theorem sm_loop (l : List Val) (hl : l.length ≤ 1000) (hk : Val.oks l) : ∀ (d i : Nat), i + d = l.length → SmLoop l i
  | 0, i, h => by obtain rfl : i = l.length := by omega
                  exact sm_end l
  | d + 1, i, h => sm_step l hl hk i (by omega) (sm_loop l hl hk d (i + 1) (by omega))
theorem same_ok (l : List Val) (hl : l.length ≤ 1000) (hk : Val.oks l) (hp : List Ent) : F tab 35 [.d (.sl (Val.encs l)), .d (.sl (Val.encs l))] hp = some (.ret (.d (.bool true)) hp) := by
  have hL := sm_loop l hl hk l.length 0 (by omega)
  unfold SmLoop at hL
  have sf : ∀ u : Int, (u != u) = false := fun u => by simp
  refine f35 rfl ?_
  simp (disch := omega) only [go_sem, and_self, and_true, true_and, false_and, and_false, Nat.reduceAdd, Nat.reduceMul, Nat.reduceSub, Nat.reduceLeDiff, Nat.reduceLT, Nat.reduceGT, Nat.reduceEqDiff, Nat.reduceBEq, Int.reduceNeg, Int.reduceEq, Int.reduceLT, Int.reduceLE, Int.reduceBEq, Int.reduceToNat, Int.toNat_natCast, Int.natCast_zero, r35_T, r35, sf, encs_len]
  rw [r35_B0_n]
  erw [hL]
  simp (disch := omega) only [go_sem, and_self, and_true, true_and, false_and, and_false, Nat.reduceAdd, Nat.reduceMul, Nat.reduceSub, Nat.reduceLeDiff, Nat.reduceLT, Nat.reduceGT, Nat.reduceEqDiff, Nat.reduceBEq, Int.reduceNeg, Int.reduceEq, Int.reduceLT, Int.reduceLE, Int.reduceBEq, Int.reduceToNat, Int.toNat_natCast, Int.natCast_zero]

/-! ### the law's second half -/
def otC1 : RCode := r8_K1 ()
theorem ot_hK1 {s : St} : V (F tab) (hold r8_K1) s = V (F tab) otC1 s := rfl
def otC2 : RCode := r8_K2 ()
theorem ot_hK2 {s : St} : V (F tab) (hold r8_K2) s = V (F tab) otC2 s := rfl

set_option maxHeartbeats 2000000 in
theorem ot_tail (l : List Val) (h12 : l.length ≤ 12) (hk : Val.oks l) (hp : List Ent) (a0 a2 a3 a5 a6 a7 a8 a9 a10 a11 a12 a13 a14 a19 a20 a21 a22 a23 a24 a25 a26 a27 a28 a29 a30 a31 a32 a33 a34 a35 a36 a37 a38 a39 a40 a41 a42 a43 a44 a45 a46 a47 a48 a49 a50 a51 a52 a53 a54 a55 a56 a57 a58 a59 a60 a61 a62 a63 a64 a65 a66 a67 a68 a69 a70 a71 a72 a73 a74 a75 a76 a77 a78 a79 a80 a81 a82 a83 a84 a85 a86 a87 a88 a89 a90 a91 a92 a93 a94 a95 a96 a97 a98 a99 a100 a101 a102 a103 a104 a105 a106 a107 a108 a109 a110 a111 a112 a113 a114 a115 a116 : PV) :
    fnEnd r8 hp (V (F tab) otC1 ⟨[a0, .d (.sl (Val.encs l)), a2, a3, .d (.bool false), a5, a6, a7, a8, a9, a10, a11, a12, a13, a14, .dead, .dead, .dead, .dead, a19, a20, a21, a22, a23, a24, a25, a26, a27, a28, a29, a30, a31, a32, a33, a34, a35, a36, a37, a38, a39, a40, a41, a42, a43, a44, a45, a46, a47, a48, a49, a50, a51, a52, a53, a54, a55, a56, a57, a58, a59, a60, a61, a62, a63, a64, a65, a66, a67, a68, a69, a70, a71, a72, a73, a74, a75, a76, a77, a78, a79, a80, a81, a82, a83, a84, a85, a86, a87, a88, a89, a90, a91, a92, a93, a94, a95, a96, a97, a98, a99, a100, a101, a102, a103, a104, a105, a106, a107, a108, a109, a110, a111, a112, a113, a114, a115, a116, .dead, .dead, .dead, .dead, .dead, .dead, .dead, .dead, .dead, .dead, .dead, .dead, .dead, .dead, .dead, .dead, .dead, .dead, .dead, .dead, .dead, .dead, .dead, .dead, .dead, .dead, .dead, .dead, .dead, .dead], []⟩) = some (.ret (.d (.bool true)) hp) := by
  have hL := lives7_ok
  have hs := fun hp => osort_ok l h12 hk hp
  rcases Bool.eq_false_or_eq_true (toldV l) with gt | gt
  · simp only [gt, if_true] at hs
    have hs := hs []
    have hk2 := oks_perm (sortV_perm l).symm hk
    have hs2 := osort_ok (sortV l) (by rw [sortV_len]; exact h12) hk2 [.gone]
    simp only [toldV_sortV gt, if_true, sortV_sortV, sortV_len] at hs2
    have sl := sortV_len l
    have hsm := same_ok (sortV l) (by omega) hk2
    have sb : ((l.length : Int) == (l.length : Int)) = true := by simp
    have hf1 : ∀ (tm : List PV) (n : Nat), tm.getD n .dead = .rowh 0 0 l.length → frzOp ⟨tm, [rowEnt (Val.encs (sortV l))]⟩ 6 true (.t n) = some (.d (.sl (Val.encs (sortV l))), ⟨tm, [.gone]⟩) :=
      fun tm n h => frz_at (l := sortV l) tm n 0 [rowEnt (Val.encs (sortV l))] rfl (by rw [sortV_len]; exact h)
    have hf2 : ∀ (tm : List PV) (n : Nat), tm.getD n .dead = .rowh 1 0 l.length → frzOp ⟨tm, [.gone, rowEnt (Val.encs (sortV l))]⟩ 6 true (.t n) = some (.d (.sl (Val.encs (sortV l))), ⟨tm, [.gone, .gone]⟩) :=
      fun tm n h => frz_at (l := sortV l) tm n 1 [.gone, rowEnt (Val.encs (sortV l))] rfl (by rw [sortV_len]; exact h)
    simp (maxSteps := 2000000) (disch := omega) only [go_sem, and_self, and_true, true_and, false_and, and_false, Nat.reduceAdd, Nat.reduceMul, Nat.reduceSub, Nat.reduceLeDiff, Nat.reduceLT, Nat.reduceGT, Nat.reduceEqDiff, Nat.reduceBEq, Int.reduceNeg, Int.reduceEq, Int.reduceLT, Int.reduceLE, Int.reduceBEq, Int.reduceToNat, Int.toNat_natCast, Int.natCast_zero, otC1, r8_K1, r8, hs, demote_rowh]
    rw [hf1 _ _ rfl]
    simp (maxSteps := 2000000) (disch := omega) only [go_sem, and_self, and_true, true_and, false_and, and_false, Nat.reduceAdd, Nat.reduceMul, Nat.reduceSub, Nat.reduceLeDiff, Nat.reduceLT, Nat.reduceGT, Nat.reduceEqDiff, Nat.reduceBEq, Int.reduceNeg, Int.reduceEq, Int.reduceLT, Int.reduceLE, Int.reduceBEq, Int.reduceToNat, Int.toNat_natCast, Int.natCast_zero, hs2, demote_rowh]
    rw [hf2 _ _ rfl]
    simp (maxSteps := 2000000) (disch := omega) only [go_sem, and_self, and_true, true_and, false_and, and_false, Nat.reduceAdd, Nat.reduceMul, Nat.reduceSub, Nat.reduceLeDiff, Nat.reduceLT, Nat.reduceGT, Nat.reduceEqDiff, Nat.reduceBEq, Int.reduceNeg, Int.reduceEq, Int.reduceLT, Int.reduceLE, Int.reduceBEq, Int.reduceToNat, Int.toNat_natCast, Int.natCast_zero, hsm, encs_len, sl, sb, hL]
  · simp only [gt, Bool.false_eq_true, if_false] at hs
    have hs := hs []
    have hs2 := osort_ok [] (by simp) trivial []
    have e0 : sortV [] = [] := rfl
    have e1 : toldV [] = true := rfl
    simp only [e0, e1, if_true, Val.encs, List.length_nil] at hs2
    have hz : (0 = 0) = True := by simp
    simp (maxSteps := 2000000) (disch := omega) only [go_sem, and_self, and_true, true_and, false_and, and_false, Nat.reduceAdd, Nat.reduceMul, Nat.reduceSub, Nat.reduceLeDiff, Nat.reduceLT, Nat.reduceGT, Nat.reduceEqDiff, Nat.reduceBEq, Int.reduceNeg, Int.reduceEq, Int.reduceLT, Int.reduceLE, Int.reduceBEq, Int.reduceToNat, Int.toNat_natCast, Int.natCast_zero, otC1, r8_K1, r8, hs, hs2, demote_rowh, frzOp, hz, hL]
end Go.Pe.T

namespace Go.Pe.T
def B1 (i : Int) : Prop := -1 ≤ i ∧ i ≤ 1
theorem sgn_b (a b : Int) : B1 (sgn a b) := by unfold B1 sgn; repeat' split
                                               all_goals omega
theorem B1.ite {p : Prop} [Decidable p] {a b : Int} (h : B1 a) (h' : B1 b) : B1 (if p then a else b) := by split <;> assumption
theorem B1.zero : B1 0 := by unfold B1; omega
theorem txtL_b : ∀ (a b : List UInt8), B1 (txtL a b)
  | [], [] => B1.zero
  | [], y :: b => by rw [(txtL_nil y b).1]; unfold B1; omega
  | y :: b, [] => by rw [(txtL_nil y b).2]; unfold B1; omega
  | x :: a, y :: b => by rw [txtL_cons]; exact (sgn_b _ _).ite (txtL_b a b)
theorem txt_b (a b : ByteArray) : B1 (txt a b) := txtL_b _ _
theorem keysC_b : ∀ (a b : List ByteArray), B1 (keysC a b)
  | [], [] => B1.zero
  | [], y :: b => by rw [(keysC_nil y b).1]; unfold B1; omega
  | y :: b, [] => by rw [(keysC_nil y b).2]; unfold B1; omega
  | x :: a, y :: b => by rw [keysC_cons]; exact (txt_b _ _).ite (keysC_b a b)
mutual
theorem pcV_b : ∀ (x y : Val), B1 (pcV x y)
  | .mk k c s t xs ks, .mk k' c' s' t' ys ks' => by
    simp only [pcV]
    exact (sgn_b _ _).ite ((sgn_b _ _).ite ((txt_b _ _).ite ((pcVs_b _ _).ite (((keysC_b _ _).ite (pcVs_b _ _)).ite B1.zero))))
theorem pcVs_b : ∀ (a b : List Val), B1 (pcVs a b)
  | [], [] => sgn_b _ _
  | [], _ :: _ => sgn_b _ _
  | _ :: _, [] => sgn_b _ _
  | x :: a, y :: b => by rw [pcVs]; exact (pcV_b x y).ite (pcVs_b a b)
end
theorem cmpR_b (x y : Val) : B1 (cmpR x y).1 := by
  rcases Bool.eq_false_or_eq_true (cmpR x y).2 with h | h
  · rw [cmpR_pc h]; exact pcV_b x y
  · unfold cmpR at h ⊢
    by_cases g : (cmpV x y 4096).2 < 0
    · rw [if_pos g]; exact B1.zero
    · rw [if_neg g] at h; simp at h


set_option maxHeartbeats 4000000 in
theorem ot_m1 (l : List Val) (h12 : l.length ≤ 12) (hk : Val.oks l) (hp : List Ent) (x1 x2 x3 : Int) (b1 : B1 x1) (o2 o3 o4 : Bool) (a0 a2 a3 a19 a20 a21 a22 a23 a24 a25 a26 a27 a28 a29 a30 a31 a32 a33 a34 a35 a36 a37 a38 a39 a40 a41 a42 a43 a44 a45 a46 a47 a48 a49 a50 a51 a52 a53 a54 a55 a56 a57 a58 a59 a60 a61 a62 a63 a64 a65 a66 a67 : PV) :
    fnEnd r8 hp (V (F tab) otC2 ⟨[a0, .d (.sl (Val.encs l)), a2, a3, .d (.bool false), .d (iv x1), .d (.bool false), .d (iv (-x1)), .d (.bool false), .d (iv x2), .d (.bool o2), .d (iv x3), .d (.bool o3), .d (iv 0), .d (.bool o4), .dead, .dead, .dead, .dead, a19, a20, a21, a22, a23, a24, a25, a26, a27, a28, a29, a30, a31, a32, a33, a34, a35, a36, a37, a38, a39, a40, a41, a42, a43, a44, a45, a46, a47, a48, a49, a50, a51, a52, a53, a54, a55, a56, a57, a58, a59, a60, a61, a62, a63, a64, a65, a66, a67, .dead, .dead, .dead, .dead, .dead, .dead, .dead, .dead, .dead, .dead, .dead, .dead, .dead, .dead, .dead, .dead, .dead, .dead, .dead, .dead, .dead, .dead, .dead, .dead, .dead, .dead, .dead, .dead, .dead, .dead, .dead, .dead, .dead, .dead, .dead, .dead, .dead, .dead, .dead, .dead, .dead, .dead, .dead, .dead, .dead, .dead, .dead, .dead, .dead, .dead, .dead, .dead, .dead, .dead, .dead, .dead, .dead, .dead, .dead, .dead, .dead, .dead, .dead, .dead, .dead, .dead, .dead, .dead, .dead, .dead, .dead, .dead, .dead, .dead, .dead, .dead, .dead, .dead, .dead], []⟩) = some (.ret (.d (.bool true)) hp) := by
  have bb : ∀ u : Bool, (u != u) = false := fun u => by simp
  have nn : IntKind.i64.wrap (0 - -x1) = x1 := by rw [show (0 - -x1 : Int) = x1 by omega]; exact w64 (by unfold B1 at b1; omega)
  have ii : ∀ u : Int, (u != u) = false := fun u => by simp
  have zn : ((0 : Int) != 0) = false := rfl
  cases o4 <;>
    (simp (maxSteps := 4000000) (disch := omega) only [go_sem, and_self, and_true, true_and, false_and, and_false, Nat.reduceAdd, Nat.reduceMul, Nat.reduceSub, Nat.reduceLeDiff, Nat.reduceLT, Nat.reduceGT, Nat.reduceEqDiff, Nat.reduceBEq, Int.reduceNeg, Int.reduceEq, Int.reduceLT, Int.reduceLE, Int.reduceBEq, Int.reduceToNat, Int.toNat_natCast, Int.natCast_zero, ↓ot_hK1, otC2, r8_K2, bb, ii, nn, zn]
     apply ot_tail l h12 hk hp)

set_option maxHeartbeats 4000000 in
theorem ot_m2 (l : List Val) (h12 : l.length ≤ 12) (hk : Val.oks l) (hp : List Ent) (x1 x2 x3 : Int) (b1 : B1 x1) (o3 o4 : Bool) (a0 a2 a3 a19 a20 a21 a22 a23 a24 a25 a26 a27 a28 a29 a30 a31 a32 a33 a34 a35 a36 a37 a38 a39 a40 a41 a42 a43 a44 a45 a46 a47 a48 a49 a50 a51 a52 a53 a54 a55 a56 a57 a58 a59 a60 a61 a62 a63 a64 a65 a66 a67 : PV) :
    fnEnd r8 hp (V (F tab) otC2 ⟨[a0, .d (.sl (Val.encs l)), a2, a3, .d (.bool false), .d (iv x1), .d (.bool true), .d (iv (-x1)), .d (.bool true), .d (iv x2), .d (.bool false), .d (iv x3), .d (.bool o3), .d (iv 0), .d (.bool o4), .dead, .dead, .dead, .dead, a19, a20, a21, a22, a23, a24, a25, a26, a27, a28, a29, a30, a31, a32, a33, a34, a35, a36, a37, a38, a39, a40, a41, a42, a43, a44, a45, a46, a47, a48, a49, a50, a51, a52, a53, a54, a55, a56, a57, a58, a59, a60, a61, a62, a63, a64, a65, a66, a67, .dead, .dead, .dead, .dead, .dead, .dead, .dead, .dead, .dead, .dead, .dead, .dead, .dead, .dead, .dead, .dead, .dead, .dead, .dead, .dead, .dead, .dead, .dead, .dead, .dead, .dead, .dead, .dead, .dead, .dead, .dead, .dead, .dead, .dead, .dead, .dead, .dead, .dead, .dead, .dead, .dead, .dead, .dead, .dead, .dead, .dead, .dead, .dead, .dead, .dead, .dead, .dead, .dead, .dead, .dead, .dead, .dead, .dead, .dead, .dead, .dead, .dead, .dead, .dead, .dead, .dead, .dead, .dead, .dead, .dead, .dead, .dead, .dead, .dead, .dead, .dead, .dead, .dead, .dead], []⟩) = some (.ret (.d (.bool true)) hp) := by
  have bb : ∀ u : Bool, (u != u) = false := fun u => by simp
  have nn : IntKind.i64.wrap (0 - -x1) = x1 := by rw [show (0 - -x1 : Int) = x1 by omega]; exact w64 (by unfold B1 at b1; omega)
  have ii : ∀ u : Int, (u != u) = false := fun u => by simp
  have zn : ((0 : Int) != 0) = false := rfl
  cases o4 <;>
    (simp (maxSteps := 4000000) (disch := omega) only [go_sem, and_self, and_true, true_and, false_and, and_false, Nat.reduceAdd, Nat.reduceMul, Nat.reduceSub, Nat.reduceLeDiff, Nat.reduceLT, Nat.reduceGT, Nat.reduceEqDiff, Nat.reduceBEq, Int.reduceNeg, Int.reduceEq, Int.reduceLT, Int.reduceLE, Int.reduceBEq, Int.reduceToNat, Int.toNat_natCast, Int.natCast_zero, ↓ot_hK1, otC2, r8_K2, bb, ii, nn, zn]
     apply ot_tail l h12 hk hp)

set_option maxHeartbeats 4000000 in
theorem ot_m3 (l : List Val) (h12 : l.length ≤ 12) (hk : Val.oks l) (hp : List Ent) (x1 x2 x3 : Int) (b1 : B1 x1) (o4 : Bool) (a0 a2 a3 a19 a20 a21 a22 a23 a24 a25 a26 a27 a28 a29 a30 a31 a32 a33 a34 a35 a36 a37 a38 a39 a40 a41 a42 a43 a44 a45 a46 a47 a48 a49 a50 a51 a52 a53 a54 a55 a56 a57 a58 a59 a60 a61 a62 a63 a64 a65 a66 a67 : PV) :
    fnEnd r8 hp (V (F tab) otC2 ⟨[a0, .d (.sl (Val.encs l)), a2, a3, .d (.bool false), .d (iv x1), .d (.bool true), .d (iv (-x1)), .d (.bool true), .d (iv x2), .d (.bool true), .d (iv x3), .d (.bool false), .d (iv 0), .d (.bool o4), .dead, .dead, .dead, .dead, a19, a20, a21, a22, a23, a24, a25, a26, a27, a28, a29, a30, a31, a32, a33, a34, a35, a36, a37, a38, a39, a40, a41, a42, a43, a44, a45, a46, a47, a48, a49, a50, a51, a52, a53, a54, a55, a56, a57, a58, a59, a60, a61, a62, a63, a64, a65, a66, a67, .dead, .dead, .dead, .dead, .dead, .dead, .dead, .dead, .dead, .dead, .dead, .dead, .dead, .dead, .dead, .dead, .dead, .dead, .dead, .dead, .dead, .dead, .dead, .dead, .dead, .dead, .dead, .dead, .dead, .dead, .dead, .dead, .dead, .dead, .dead, .dead, .dead, .dead, .dead, .dead, .dead, .dead, .dead, .dead, .dead, .dead, .dead, .dead, .dead, .dead, .dead, .dead, .dead, .dead, .dead, .dead, .dead, .dead, .dead, .dead, .dead, .dead, .dead, .dead, .dead, .dead, .dead, .dead, .dead, .dead, .dead, .dead, .dead, .dead, .dead, .dead, .dead, .dead, .dead], []⟩) = some (.ret (.d (.bool true)) hp) := by
  have bb : ∀ u : Bool, (u != u) = false := fun u => by simp
  have nn : IntKind.i64.wrap (0 - -x1) = x1 := by rw [show (0 - -x1 : Int) = x1 by omega]; exact w64 (by unfold B1 at b1; omega)
  have ii : ∀ u : Int, (u != u) = false := fun u => by simp
  have zn : ((0 : Int) != 0) = false := rfl
  cases o4 <;>
    (simp (maxSteps := 4000000) (disch := omega) only [go_sem, and_self, and_true, true_and, false_and, and_false, Nat.reduceAdd, Nat.reduceMul, Nat.reduceSub, Nat.reduceLeDiff, Nat.reduceLT, Nat.reduceGT, Nat.reduceEqDiff, Nat.reduceBEq, Int.reduceNeg, Int.reduceEq, Int.reduceLT, Int.reduceLE, Int.reduceBEq, Int.reduceToNat, Int.toNat_natCast, Int.natCast_zero, ↓ot_hK1, otC2, r8_K2, bb, ii, nn, zn]
     apply ot_tail l h12 hk hp)

set_option maxHeartbeats 4000000 in
theorem ot_m4 (l : List Val) (h12 : l.length ≤ 12) (hk : Val.oks l) (hp : List Ent) (x1 x2 x3 : Int) (b1 : B1 x1) (k1 : (x1 ≤ 0) = True) (k2 : (x2 ≤ 0) = True) (k3 : (x3 > 0) = False) (k4 : (x1 < 0) = True) (k5 : (x3 == 0) = false) (o4 : Bool) (a0 a2 a3 a19 a20 a21 a22 a23 a24 a25 a26 a27 a28 a29 a30 a31 a32 a33 a34 a35 a36 a37 a38 a39 a40 a41 a42 a43 a44 a45 a46 a47 a48 a49 a50 a51 a52 a53 a54 a55 a56 a57 a58 a59 a60 a61 a62 a63 a64 a65 a66 a67 : PV) :
    fnEnd r8 hp (V (F tab) otC2 ⟨[a0, .d (.sl (Val.encs l)), a2, a3, .d (.bool false), .d (iv x1), .d (.bool true), .d (iv (-x1)), .d (.bool true), .d (iv x2), .d (.bool true), .d (iv x3), .d (.bool true), .d (iv 0), .d (.bool o4), .dead, .dead, .dead, .dead, a19, a20, a21, a22, a23, a24, a25, a26, a27, a28, a29, a30, a31, a32, a33, a34, a35, a36, a37, a38, a39, a40, a41, a42, a43, a44, a45, a46, a47, a48, a49, a50, a51, a52, a53, a54, a55, a56, a57, a58, a59, a60, a61, a62, a63, a64, a65, a66, a67, .dead, .dead, .dead, .dead, .dead, .dead, .dead, .dead, .dead, .dead, .dead, .dead, .dead, .dead, .dead, .dead, .dead, .dead, .dead, .dead, .dead, .dead, .dead, .dead, .dead, .dead, .dead, .dead, .dead, .dead, .dead, .dead, .dead, .dead, .dead, .dead, .dead, .dead, .dead, .dead, .dead, .dead, .dead, .dead, .dead, .dead, .dead, .dead, .dead, .dead, .dead, .dead, .dead, .dead, .dead, .dead, .dead, .dead, .dead, .dead, .dead, .dead, .dead, .dead, .dead, .dead, .dead, .dead, .dead, .dead, .dead, .dead, .dead, .dead, .dead, .dead, .dead, .dead, .dead], []⟩) = some (.ret (.d (.bool true)) hp) := by
  have bb : ∀ u : Bool, (u != u) = false := fun u => by simp
  have nn : IntKind.i64.wrap (0 - -x1) = x1 := by rw [show (0 - -x1 : Int) = x1 by omega]; exact w64 (by unfold B1 at b1; omega)
  have ii : ∀ u : Int, (u != u) = false := fun u => by simp
  have zn : ((0 : Int) != 0) = false := rfl
  cases o4 <;>
    (simp (maxSteps := 4000000) (disch := omega) only [go_sem, and_self, and_true, true_and, false_and, and_false, Nat.reduceAdd, Nat.reduceMul, Nat.reduceSub, Nat.reduceLeDiff, Nat.reduceLT, Nat.reduceGT, Nat.reduceEqDiff, Nat.reduceBEq, Int.reduceNeg, Int.reduceEq, Int.reduceLT, Int.reduceLE, Int.reduceBEq, Int.reduceToNat, Int.toNat_natCast, Int.natCast_zero, ↓ot_hK1, otC2, r8_K2, bb, ii, nn, zn, k1, k2, k3, k4, k5]
     apply ot_tail l h12 hk hp)

set_option maxHeartbeats 4000000 in
theorem ot_m5 (l : List Val) (h12 : l.length ≤ 12) (hk : Val.oks l) (hp : List Ent) (x1 x2 x3 : Int) (b1 : B1 x1) (k1 : (x1 ≤ 0) = True) (k2 : (x2 ≤ 0) = True) (k3 : (x3 > 0) = False) (k4 : (x1 < 0) = False) (o4 : Bool) (a0 a2 a3 a19 a20 a21 a22 a23 a24 a25 a26 a27 a28 a29 a30 a31 a32 a33 a34 a35 a36 a37 a38 a39 a40 a41 a42 a43 a44 a45 a46 a47 a48 a49 a50 a51 a52 a53 a54 a55 a56 a57 a58 a59 a60 a61 a62 a63 a64 a65 a66 a67 : PV) :
    fnEnd r8 hp (V (F tab) otC2 ⟨[a0, .d (.sl (Val.encs l)), a2, a3, .d (.bool false), .d (iv x1), .d (.bool true), .d (iv (-x1)), .d (.bool true), .d (iv x2), .d (.bool true), .d (iv x3), .d (.bool true), .d (iv 0), .d (.bool o4), .dead, .dead, .dead, .dead, a19, a20, a21, a22, a23, a24, a25, a26, a27, a28, a29, a30, a31, a32, a33, a34, a35, a36, a37, a38, a39, a40, a41, a42, a43, a44, a45, a46, a47, a48, a49, a50, a51, a52, a53, a54, a55, a56, a57, a58, a59, a60, a61, a62, a63, a64, a65, a66, a67, .dead, .dead, .dead, .dead, .dead, .dead, .dead, .dead, .dead, .dead, .dead, .dead, .dead, .dead, .dead, .dead, .dead, .dead, .dead, .dead, .dead, .dead, .dead, .dead, .dead, .dead, .dead, .dead, .dead, .dead, .dead, .dead, .dead, .dead, .dead, .dead, .dead, .dead, .dead, .dead, .dead, .dead, .dead, .dead, .dead, .dead, .dead, .dead, .dead, .dead, .dead, .dead, .dead, .dead, .dead, .dead, .dead, .dead, .dead, .dead, .dead, .dead, .dead, .dead, .dead, .dead, .dead, .dead, .dead, .dead, .dead, .dead, .dead, .dead, .dead, .dead, .dead, .dead, .dead], []⟩) = some (.ret (.d (.bool true)) hp) := by
  have bb : ∀ u : Bool, (u != u) = false := fun u => by simp
  have nn : IntKind.i64.wrap (0 - -x1) = x1 := by rw [show (0 - -x1 : Int) = x1 by omega]; exact w64 (by unfold B1 at b1; omega)
  have ii : ∀ u : Int, (u != u) = false := fun u => by simp
  have zn : ((0 : Int) != 0) = false := rfl
  cases o4 <;>
    (simp (maxSteps := 4000000) (disch := omega) only [go_sem, and_self, and_true, true_and, false_and, and_false, Nat.reduceAdd, Nat.reduceMul, Nat.reduceSub, Nat.reduceLeDiff, Nat.reduceLT, Nat.reduceGT, Nat.reduceEqDiff, Nat.reduceBEq, Int.reduceNeg, Int.reduceEq, Int.reduceLT, Int.reduceLE, Int.reduceBEq, Int.reduceToNat, Int.toNat_natCast, Int.natCast_zero, ↓ot_hK1, otC2, r8_K2, bb, ii, nn, zn, k1, k2, k3, k4]
     apply ot_tail l h12 hk hp)

set_option maxHeartbeats 4000000 in
theorem ot_m6 (l : List Val) (h12 : l.length ≤ 12) (hk : Val.oks l) (hp : List Ent) (x1 x2 x3 : Int) (b1 : B1 x1) (k1 : (x1 ≤ 0) = True) (k2 : (x2 ≤ 0) = False) (k4 : (x1 < 0) = True) (o4 : Bool) (a0 a2 a3 a19 a20 a21 a22 a23 a24 a25 a26 a27 a28 a29 a30 a31 a32 a33 a34 a35 a36 a37 a38 a39 a40 a41 a42 a43 a44 a45 a46 a47 a48 a49 a50 a51 a52 a53 a54 a55 a56 a57 a58 a59 a60 a61 a62 a63 a64 a65 a66 a67 : PV) :
    fnEnd r8 hp (V (F tab) otC2 ⟨[a0, .d (.sl (Val.encs l)), a2, a3, .d (.bool false), .d (iv x1), .d (.bool true), .d (iv (-x1)), .d (.bool true), .d (iv x2), .d (.bool true), .d (iv x3), .d (.bool true), .d (iv 0), .d (.bool o4), .dead, .dead, .dead, .dead, a19, a20, a21, a22, a23, a24, a25, a26, a27, a28, a29, a30, a31, a32, a33, a34, a35, a36, a37, a38, a39, a40, a41, a42, a43, a44, a45, a46, a47, a48, a49, a50, a51, a52, a53, a54, a55, a56, a57, a58, a59, a60, a61, a62, a63, a64, a65, a66, a67, .dead, .dead, .dead, .dead, .dead, .dead, .dead, .dead, .dead, .dead, .dead, .dead, .dead, .dead, .dead, .dead, .dead, .dead, .dead, .dead, .dead, .dead, .dead, .dead, .dead, .dead, .dead, .dead, .dead, .dead, .dead, .dead, .dead, .dead, .dead, .dead, .dead, .dead, .dead, .dead, .dead, .dead, .dead, .dead, .dead, .dead, .dead, .dead, .dead, .dead, .dead, .dead, .dead, .dead, .dead, .dead, .dead, .dead, .dead, .dead, .dead, .dead, .dead, .dead, .dead, .dead, .dead, .dead, .dead, .dead, .dead, .dead, .dead, .dead, .dead, .dead, .dead, .dead, .dead], []⟩) = some (.ret (.d (.bool true)) hp) := by
  have bb : ∀ u : Bool, (u != u) = false := fun u => by simp
  have nn : IntKind.i64.wrap (0 - -x1) = x1 := by rw [show (0 - -x1 : Int) = x1 by omega]; exact w64 (by unfold B1 at b1; omega)
  have ii : ∀ u : Int, (u != u) = false := fun u => by simp
  have zn : ((0 : Int) != 0) = false := rfl
  cases o4 <;>
    (simp (maxSteps := 4000000) (disch := omega) only [go_sem, and_self, and_true, true_and, false_and, and_false, Nat.reduceAdd, Nat.reduceMul, Nat.reduceSub, Nat.reduceLeDiff, Nat.reduceLT, Nat.reduceGT, Nat.reduceEqDiff, Nat.reduceBEq, Int.reduceNeg, Int.reduceEq, Int.reduceLT, Int.reduceLE, Int.reduceBEq, Int.reduceToNat, Int.toNat_natCast, Int.natCast_zero, ↓ot_hK1, otC2, r8_K2, bb, ii, nn, zn, k1, k2, k4]
     apply ot_tail l h12 hk hp)

set_option maxHeartbeats 4000000 in
theorem ot_m7 (l : List Val) (h12 : l.length ≤ 12) (hk : Val.oks l) (hp : List Ent) (x1 x2 x3 : Int) (b1 : B1 x1) (k1 : (x1 ≤ 0) = True) (k2 : (x2 ≤ 0) = False) (k4 : (x1 < 0) = False) (o4 : Bool) (a0 a2 a3 a19 a20 a21 a22 a23 a24 a25 a26 a27 a28 a29 a30 a31 a32 a33 a34 a35 a36 a37 a38 a39 a40 a41 a42 a43 a44 a45 a46 a47 a48 a49 a50 a51 a52 a53 a54 a55 a56 a57 a58 a59 a60 a61 a62 a63 a64 a65 a66 a67 : PV) :
    fnEnd r8 hp (V (F tab) otC2 ⟨[a0, .d (.sl (Val.encs l)), a2, a3, .d (.bool false), .d (iv x1), .d (.bool true), .d (iv (-x1)), .d (.bool true), .d (iv x2), .d (.bool true), .d (iv x3), .d (.bool true), .d (iv 0), .d (.bool o4), .dead, .dead, .dead, .dead, a19, a20, a21, a22, a23, a24, a25, a26, a27, a28, a29, a30, a31, a32, a33, a34, a35, a36, a37, a38, a39, a40, a41, a42, a43, a44, a45, a46, a47, a48, a49, a50, a51, a52, a53, a54, a55, a56, a57, a58, a59, a60, a61, a62, a63, a64, a65, a66, a67, .dead, .dead, .dead, .dead, .dead, .dead, .dead, .dead, .dead, .dead, .dead, .dead, .dead, .dead, .dead, .dead, .dead, .dead, .dead, .dead, .dead, .dead, .dead, .dead, .dead, .dead, .dead, .dead, .dead, .dead, .dead, .dead, .dead, .dead, .dead, .dead, .dead, .dead, .dead, .dead, .dead, .dead, .dead, .dead, .dead, .dead, .dead, .dead, .dead, .dead, .dead, .dead, .dead, .dead, .dead, .dead, .dead, .dead, .dead, .dead, .dead, .dead, .dead, .dead, .dead, .dead, .dead, .dead, .dead, .dead, .dead, .dead, .dead, .dead, .dead, .dead, .dead, .dead, .dead], []⟩) = some (.ret (.d (.bool true)) hp) := by
  have bb : ∀ u : Bool, (u != u) = false := fun u => by simp
  have nn : IntKind.i64.wrap (0 - -x1) = x1 := by rw [show (0 - -x1 : Int) = x1 by omega]; exact w64 (by unfold B1 at b1; omega)
  have ii : ∀ u : Int, (u != u) = false := fun u => by simp
  have zn : ((0 : Int) != 0) = false := rfl
  cases o4 <;>
    (simp (maxSteps := 4000000) (disch := omega) only [go_sem, and_self, and_true, true_and, false_and, and_false, Nat.reduceAdd, Nat.reduceMul, Nat.reduceSub, Nat.reduceLeDiff, Nat.reduceLT, Nat.reduceGT, Nat.reduceEqDiff, Nat.reduceBEq, Int.reduceNeg, Int.reduceEq, Int.reduceLT, Int.reduceLE, Int.reduceBEq, Int.reduceToNat, Int.toNat_natCast, Int.natCast_zero, ↓ot_hK1, otC2, r8_K2, bb, ii, nn, zn, k1, k2, k4]
     apply ot_tail l h12 hk hp)

set_option maxHeartbeats 4000000 in
theorem ot_m8 (l : List Val) (h12 : l.length ≤ 12) (hk : Val.oks l) (hp : List Ent) (x1 x2 x3 : Int) (b1 : B1 x1) (k1 : (x1 ≤ 0) = False) (k4 : (x1 < 0) = False) (o4 : Bool) (a0 a2 a3 a19 a20 a21 a22 a23 a24 a25 a26 a27 a28 a29 a30 a31 a32 a33 a34 a35 a36 a37 a38 a39 a40 a41 a42 a43 a44 a45 a46 a47 a48 a49 a50 a51 a52 a53 a54 a55 a56 a57 a58 a59 a60 a61 a62 a63 a64 a65 a66 a67 : PV) :
    fnEnd r8 hp (V (F tab) otC2 ⟨[a0, .d (.sl (Val.encs l)), a2, a3, .d (.bool false), .d (iv x1), .d (.bool true), .d (iv (-x1)), .d (.bool true), .d (iv x2), .d (.bool true), .d (iv x3), .d (.bool true), .d (iv 0), .d (.bool o4), .dead, .dead, .dead, .dead, a19, a20, a21, a22, a23, a24, a25, a26, a27, a28, a29, a30, a31, a32, a33, a34, a35, a36, a37, a38, a39, a40, a41, a42, a43, a44, a45, a46, a47, a48, a49, a50, a51, a52, a53, a54, a55, a56, a57, a58, a59, a60, a61, a62, a63, a64, a65, a66, a67, .dead, .dead, .dead, .dead, .dead, .dead, .dead, .dead, .dead, .dead, .dead, .dead, .dead, .dead, .dead, .dead, .dead, .dead, .dead, .dead, .dead, .dead, .dead, .dead, .dead, .dead, .dead, .dead, .dead, .dead, .dead, .dead, .dead, .dead, .dead, .dead, .dead, .dead, .dead, .dead, .dead, .dead, .dead, .dead, .dead, .dead, .dead, .dead, .dead, .dead, .dead, .dead, .dead, .dead, .dead, .dead, .dead, .dead, .dead, .dead, .dead, .dead, .dead, .dead, .dead, .dead, .dead, .dead, .dead, .dead, .dead, .dead, .dead, .dead, .dead, .dead, .dead, .dead, .dead], []⟩) = some (.ret (.d (.bool true)) hp) := by
  have bb : ∀ u : Bool, (u != u) = false := fun u => by simp
  have nn : IntKind.i64.wrap (0 - -x1) = x1 := by rw [show (0 - -x1 : Int) = x1 by omega]; exact w64 (by unfold B1 at b1; omega)
  have ii : ∀ u : Int, (u != u) = false := fun u => by simp
  have zn : ((0 : Int) != 0) = false := rfl
  cases o4 <;>
    (simp (maxSteps := 4000000) (disch := omega) only [go_sem, and_self, and_true, true_and, false_and, and_false, Nat.reduceAdd, Nat.reduceMul, Nat.reduceSub, Nat.reduceLeDiff, Nat.reduceLT, Nat.reduceGT, Nat.reduceEqDiff, Nat.reduceBEq, Int.reduceNeg, Int.reduceEq, Int.reduceLT, Int.reduceLE, Int.reduceBEq, Int.reduceToNat, Int.toNat_natCast, Int.natCast_zero, ↓ot_hK1, otC2, r8_K2, bb, ii, nn, zn, k1, k4]
     apply ot_tail l h12 hk hp)

set_option maxHeartbeats 4000000 in
theorem OrderTotal_ok (a b c : Val) (l : List Val) (h0 : a.ok ∧ b.ok ∧ c.ok) (hm : l.length ≤ maxLen) (hk : Val.oks l) (hp : List Ent) : F tab 8 [.d (arr3 a b c), .d (.sl (Val.encs l))] hp = some (.ret (.d (.bool true)) hp) := by
  obtain ⟨oa, ob, oc⟩ := h0
  have hl := light7_ok l hm hk
  have hla := light7_ok [a, b, c] (by simp [maxLen]) ⟨oa, ob, oc, trivial⟩
  have hL := lives7_ok
  have c1 := ocmp_ok a b oa ob
  have c2 := ocmp_ok b a ob oa
  have c3 := ocmp_ok b c ob oc
  have c4 := ocmp_ok a c oa oc
  have c5 := ocmp_ok a a oa oa
  have b1 := cmpR_b a b
  have t1 := pcV_tr a b c
  have p1 := cmpR_pc (x := a) (y := b)
  have p2 := cmpR_pc (x := b) (y := c)
  have p3 := cmpR_pc (x := a) (y := c)
  rw [cmpR_swap a b] at c2
  rw [cmpR_self] at c5
  generalize (cmpR a b).1 = x1 at *
  generalize (cmpR a b).2 = o1 at *
  generalize (cmpR b c).1 = x2 at *
  generalize (cmpR b c).2 = o2 at *
  generalize (cmpR a c).1 = x3 at *
  generalize (cmpR a c).2 = o3 at *
  generalize (cmpR a a).2 = o4 at *
  generalize pcV a b = q1 at *
  generalize pcV b c = q2 at *
  generalize pcV a c = q3 at *
  obtain ⟨ka, ca, sa, ta, xa, na⟩ := a
  obtain ⟨kb, cb, sb, tb, xb, nb⟩ := b
  obtain ⟨kc, cc, sc, tc, xc, nc⟩ := c
  refine f8 rfl ?_
  have e3 : ((3 : Nat) : Int) = 3 := rfl
  simp only [Val.encs, Val.enc] at hla c1 c2 c3 c4 c5
  simp only [arr3, Val.enc, D.cells, List.cons_append, List.nil_append]
  rcases Bool.eq_false_or_eq_true (lightL [.mk ka ca sa ta xa na, .mk kb cb sb tb xb nb, .mk kc cc sc tc xc nc]) with ga | ga
  · rw [ga] at hla
    rcases Bool.eq_false_or_eq_true (lightL l) with g | g
    · rw [g] at hl
      simp (maxSteps := 4000000) (disch := omega) only [go_sem, and_self, and_true, true_and, false_and, and_false, Nat.reduceAdd, Nat.reduceMul, Nat.reduceSub, Nat.reduceLeDiff, Nat.reduceLT, Nat.reduceGT, Nat.reduceEqDiff, Nat.reduceBEq, Int.reduceNeg, Int.reduceEq, Int.reduceLT, Int.reduceLE, Int.reduceBEq, Int.reduceToNat, Int.toNat_natCast, Int.natCast_zero, ↓ot_hK2, r8_T, r8, hla, hl, slaOp, rowsD, chunkD, cutD, boundsOk, PV.isRef, List.any_cons, List.any_nil, Bool.false_or, Bool.true_or, Bool.not_false, optAll, e3, c1, c2, c3, c4, c5]
      have h12 := light_len g
      cases o1 with
      | false => apply ot_m1 l h12 hk hp x1 x2 x3 b1
      | true => cases o2 with
        | false => apply ot_m2 l h12 hk hp x1 x2 x3 b1
        | true => cases o3 with
          | false => apply ot_m3 l h12 hk hp x1 x2 x3 b1
          | true =>
            have e1 := p1 rfl
            have e2 := p2 rfl
            have e3' := p3 rfl
            have t2 := t1.le
            have t3 := t1.lt
            by_cases k1 : x1 ≤ 0
            · by_cases k2 : x2 ≤ 0
              · have k3 : (x3 > 0) = False := eq_false (by omega)
                by_cases k4 : x1 < 0
                · have k5 : (x3 == 0) = false := by
                    have : x3 ≠ 0 := by omega
                    simpa using this
                  apply ot_m4 l h12 hk hp x1 x2 x3 b1 (eq_true k1) (eq_true k2) k3 (eq_true k4) k5
                · apply ot_m5 l h12 hk hp x1 x2 x3 b1 (eq_true k1) (eq_true k2) k3 (eq_false k4)
              · by_cases k4 : x1 < 0
                · apply ot_m6 l h12 hk hp x1 x2 x3 b1 (eq_true k1) (eq_false k2) (eq_true k4)
                · apply ot_m7 l h12 hk hp x1 x2 x3 b1 (eq_true k1) (eq_false k2) (eq_false k4)
            · have k4 : (x1 < 0) = False := eq_false (by omega)
              apply ot_m8 l h12 hk hp x1 x2 x3 b1 (eq_false k1) k4
    · rw [g] at hl
      simp (maxSteps := 4000000) (disch := omega) only [go_sem, and_self, and_true, true_and, false_and, and_false, Nat.reduceAdd, Nat.reduceMul, Nat.reduceSub, Nat.reduceLeDiff, Nat.reduceLT, Nat.reduceGT, Nat.reduceEqDiff, Nat.reduceBEq, Int.reduceNeg, Int.reduceEq, Int.reduceLT, Int.reduceLE, Int.reduceBEq, Int.reduceToNat, Int.toNat_natCast, Int.natCast_zero, r8_T, r8, hla, hl, hL, slaOp, rowsD, chunkD, cutD, boundsOk, PV.isRef, List.any_cons, List.any_nil, Bool.false_or, Bool.true_or, Bool.not_false, optAll, e3]
  · rw [ga] at hla
    simp (maxSteps := 4000000) (disch := omega) only [go_sem, and_self, and_true, true_and, false_and, and_false, Nat.reduceAdd, Nat.reduceMul, Nat.reduceSub, Nat.reduceLeDiff, Nat.reduceLT, Nat.reduceGT, Nat.reduceEqDiff, Nat.reduceBEq, Int.reduceNeg, Int.reduceEq, Int.reduceLT, Int.reduceLE, Int.reduceBEq, Int.reduceToNat, Int.toNat_natCast, Int.natCast_zero, r8_T, r8, hla, hL, slaOp, rowsD, chunkD, cutD, boundsOk, PV.isRef, List.any_cons, List.any_nil, Bool.false_or, Bool.true_or, Bool.not_false, optAll, e3]
end Go.Pe.T
