/- A part of the proof of: FlatTame: a calm expression, whose parts that must be calm are, has nothing wild in it, and costs at most as much as it has parts. -/
import Derived.Test.YthifmmkefongnaaGreatDoorPe4
set_option linter.unusedSimpArgs false
set_option linter.unusedVariables false
set_option maxRecDepth 10000

namespace Go.Pe.T
def allC (l : List (Bool × Bool)) : Bool := l.all (·.1)
def calmO (o p : Int) (l : List (Bool × Bool)) : Bool :=
  if o = 0 ∨ o = 1 ∨ o = 2 ∨ o = 12 ∨ o = 10 then true
  else if o = 3 ∨ o = 4 ∨ o = 6 ∨ o = 9 ∨ o = 15 ∨ o = 17 then allC l
  else if o = 11 then (match l with | [] => true | x :: _ => x.2)
  else if o = 16 then decide (p ≥ 0) && decide (p ≥ 1000)
  else false
def rowO (o : Int) (l : List (Bool × Bool)) (c : Bool) : Bool :=
  if o = 7 then (match l with | x :: y :: _ => x.2 && y.2 | _ => false) else c
mutual
def crV : Xp → Bool × Bool
  | .mk o t p k c s ns xs => (calmO o p (crs xs), rowO o (crs xs) (calmO o p (crs xs)))
def crs : List Xp → List (Bool × Bool)
  | [] => []
  | x :: r => crV x :: crs r
end
def calmV (e : Xp) : Bool := (crV e).1
def rowV (e : Xp) : Bool := (crV e).2
theorem crs_eq : ∀ (xs : List Xp), crs xs = xs.map crV
  | [] => rfl
  | x :: r => by simp [crs, crs_eq r]
def ssum (a b : Int) : Int := min 1000000 (a + b)
def costO (o : Int) (l : List Int) : Int :=
  if o = 9 then (match l with | x :: y :: z :: _ => ssum (ssum 1 x) (max y z) | _ => 1)
  else l.foldl ssum 1
mutual
def costV : Xp → Int
  | .mk o t p k c s ns xs => costO o (costs xs)
def costs : List Xp → List Int
  | [] => []
  | x :: r => costV x :: costs r
end
theorem costs_eq : ∀ (xs : List Xp), costs xs = xs.map costV
  | [] => rfl
  | x :: r => by simp [costs, costs_eq r]
theorem ssum_rng {a b : Int} (ha : 1 ≤ a ∧ a ≤ 1000000) (hb : 1 ≤ b ∧ b ≤ 1000000) : 1 ≤ ssum a b ∧ ssum a b ≤ 1000000 := by
  unfold ssum; omega
theorem fold_rng : ∀ (l : List Int) (n : Int), (∀ x ∈ l, 1 ≤ x ∧ x ≤ 1000000) → 1 ≤ n ∧ n ≤ 1000000 → 1 ≤ l.foldl ssum n ∧ l.foldl ssum n ≤ 1000000
  | [], n, _, hn => hn
  | x :: l, n, h, hn => fold_rng l (ssum n x) (fun y hy => h y (by simp [hy])) (ssum_rng hn (h x (by simp)))
mutual
theorem cost_rng : ∀ (e : Xp), 1 ≤ costV e ∧ costV e ≤ 1000000
  | .mk o t p k c s ns xs => by
    have h := costs_rng xs
    rw [costV]
    generalize costs xs = l at h
    unfold costO
    split
    · split
      · rename_i x y z r
        have hx := h x (by simp)
        have hy := h y (by simp)
        have hz := h z (by simp)
        exact ssum_rng (ssum_rng (by omega) hx) (by omega)
      · omega
    · exact fold_rng l 1 h (by omega)
theorem costs_rng : ∀ (xs : List Xp), ∀ x ∈ costs xs, 1 ≤ x ∧ x ≤ 1000000
  | [], x, hx => by simp [costs] at hx
  | y :: r, x, hx => by
    rw [costs, List.mem_cons] at hx
    rcases hx with rfl | hx
    · exact cost_rng y
    · exact costs_rng r x hx
end
mutual
def bareX : Xp → Xp
  | .mk o t p k c s ns xs => .mk o t 0 k c s ns (bares xs)
def bares : List Xp → List Xp
  | [] => []
  | x :: r => bareX x :: bares r
end
theorem bares_eq : ∀ (xs : List Xp), bares xs = xs.map bareX
  | [] => rfl
  | x :: r => by simp [bares, bares_eq r]
mutual
theorem bare_pre : ∀ (e : Xp), (bareX e).pre.length = e.pre.length
  | .mk o t p k c s ns xs => by rw [bareX, Xp.pre, Xp.pre, List.length_cons, List.length_cons, bares_pre xs]
theorem bares_pre : ∀ (xs : List Xp), (Xp.pres (bares xs)).length = (Xp.pres xs).length
  | [] => rfl
  | x :: r => by rw [bares, Xp.pres, Xp.pres, List.length_append, List.length_append, bare_pre x, bares_pre r]
end
mutual
theorem bare_ok : ∀ (e : Xp), e.ok → (bareX e).ok
  | .mk o t p k c s ns xs, h => by
    simp only [bareX, Xp.ok] at h ⊢
    obtain ⟨h1, h2, h3, h4, h5, h6, h7, h8, h9, h10⟩ := h
    refine ⟨h1, h2, by unfold i64; omega, h4, h5, h6, h7, h8, ?_, bares_ok xs h10⟩
    rw [bares_eq, List.length_map]
    exact h9
theorem bares_ok : ∀ (xs : List Xp), Xp.oks xs → Xp.oks (bares xs)
  | [], _ => trivial
  | x :: r, h => by
    simp only [bares, Xp.oks] at h ⊢
    exact ⟨bare_ok x h.1, bares_ok r h.2⟩
end
theorem row_calm (e : Xp) (h : calmV e = true) : rowV e = true := by
  obtain ⟨o, t, p, k, c, s, ns, xs⟩ := e
  unfold calmV at h
  unfold rowV
  rw [crV] at h ⊢
  simp only at h ⊢
  by_cases h7 : o = 7
  · subst h7
    simp [calmO] at h
  · unfold rowO
    rw [if_neg h7]
    exact h
end Go.Pe.T
