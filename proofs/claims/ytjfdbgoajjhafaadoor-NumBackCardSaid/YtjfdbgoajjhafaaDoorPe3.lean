/- A part of the proof of: A number's text is parsed as it; sums and products are the same whichever way round; a sum less one of both is the other, a product by one of both is the other. -/
import Derived.Test.YtjfdbgoajjhafaaDoorPe2
import Derived.Test.YtjfdbgoajjhafaaDoorPe1
import GoSem.ClaimChange
import Derived.WalkKit
import Derived.ProofKit
import Derived.OpenShut
import Derived.ChangeOld
import Derived.Below
import Derived.SizedLaws
import Derived.Carry
import Derived.Lib.SliceRun
import Derived.Lib.Bytealg
import Derived.Laws.Externs
set_option linter.unusedSimpArgs false
set_option linter.unusedVariables false
set_option maxRecDepth 20000

namespace Go.Pe

/-- a type whose values take a row of cells -/
def aggT (P : Program) (t : TypeId) : Bool :=
  match P.underlying t with
  | some (.struct _) | some (.array _ _) => true
  | _ => false

mutual
/-- a value that was read, its type, and what stands for it -/
inductive Lift {H : Type} (P : Program) : TypeId → DataW H → List D → Prop where
  | bool {t} (b : Bool) : P.underlying t = some .bool → Lift P t (.lit (.bool b)) [.bool b]
  | int {t} (k : IntKind) (n : Int) : P.underlying t = some (.int k) → (Lit.int k n).wf = true → Lift P t (.lit (.int k n)) [.int k n]
  | str {t} (s : ByteArray) : P.underlying t = some .string → s.size ≤ maxLen → Lift P t (.lit (.string s.data.toList)) [.str s]
  | sl0 {t} (e : TypeId) : P.underlying t = some (.slice e) → Lift P t .nil [.sl []]
  | sl {t} (e : TypeId) (ds spare : List (DataW H)) (xs : List D) : P.underlying t = some (.slice e) → xs.length = ds.length → xs.length ≤ maxLen → (∀ (i : Nat) (x : D), xs[i]? = some x → x.isAgg = aggT P e) → (∀ (i : Nat) (x : D) (d : DataW H), xs[i]? = some x → ds[i]? = some d → Lift P e d x.cells) → Lift P t (.slice ds spare) [.sl xs]
  | st {t} (fs : Array Field) (ds : List (DataW H)) (cs : List D) : P.underlying t = some (.struct fs) → Lifts P (fs.toList.map (·.type)) ds cs → Lift P t (.agg ds) cs
  | arr {t} (n : Nat) (e : TypeId) (ds : List (DataW H)) (cs : List D) : P.underlying t = some (.array n e) → Lifts P ((List.range n).map fun _ => e) ds cs → Lift P t (.agg ds) cs
inductive Lifts {H : Type} (P : Program) : List TypeId → List (DataW H) → List D → Prop where
  | nil : Lifts P [] [] []
  | cons {t ts d ds a b} : Lift P t d a → Lifts P ts ds b → Lifts P (t :: ts) (d :: ds) (a ++ b)
end

def segsOk {α : Type} (P : Program) (L : List TypeId) (ty : α → TypeId) (off : α → Nat) (total : Nat) : Nat → List α → Bool
  | o, [] => o == total
  | o, x :: r => off x == o && L.contains (ty x) && segsOk P L ty off total (o + P.cellsOf (ty x)) r

def tyOk (P : Program) (L : List TypeId) (t : TypeId) : Bool :=
  match P.underlying t with
  | some .bool | some (.int _) | some .string => P.cellsOf t == 1
  | some (.slice e) => P.cellsOf t == 1 && L.contains e && P.cellsOf e != 0 && (aggT P e || P.cellsOf e == 1)
  | some (.struct fs) => segsOk P L (fun f : Field => f.type) (fun f => f.offset) (P.cellsOf t) 0 fs.toList
  | some (.array n e) => segsOk P L (fun _ : Nat => e) (fun i => i * P.cellsOf e) (P.cellsOf t) 0 (List.range n)
  | _ => false

theorem mapM_get {α β : Type} {f : α → Option β} : ∀ {l : List α} {ys : List β}, l.mapM f = some ys → ys.length = l.length ∧ ∀ (i : Nat) (x : α), l[i]? = some x → ∃ y, ys[i]? = some y ∧ f x = some y
  | [], ys, h => by
    simp only [List.mapM_nil] at h
    cases h
    exact ⟨rfl, by simp⟩
  | a :: l, ys, h => by
    simp only [List.mapM_cons, Option.bind_eq_bind, Option.bind_eq_some_iff] at h
    obtain ⟨b, h1, bs, h2, h3⟩ := h
    cases h3
    obtain ⟨i1, i2⟩ := mapM_get h2
    refine ⟨by simp [i1], ?_⟩
    intro i x hi
    cases i with
    | zero => simp at hi; subst hi; exact ⟨b, rfl, h1⟩
    | succ i => exact i2 i x (by simpa using hi)

section
variable {H : Type} {enc : TypeId × Value → H} {P : Program} {w : World} {base : Nat} {sp : Nat → Bool} {held : Bool} {L : List TypeId}

def All2 (_ _ : Nat) : Prop := True

/-- what the cells of a type stand for -/
def Lifted (P : Program) (w : World) (t : TypeId) (cs : List Value) (d : DataW H) (xs : List D) : Prop :=
  Lift P t d xs ∧ xs.length = cs.length ∧ xs.length = P.cellsOf t ∧ (∀ x ∈ xs, x.isAgg = false) ∧ ∀ (j : Nat) (x : D) (v : Value), xs[j]? = some x → cs[j]? = some v → DRep All2 w x v

theorem lift_segs {α : Type} {ty : α → TypeId} {off : α → Nat} {cs : List Value} {n : Nat}
    (ih : ∀ t cs d ps, L.contains t = true → DataW.trod enc P w base sp held n t cs = some (d, ps) → ∃ xs, Lifted P w t cs d xs) {total : Nat} (hcs : cs.length = total) :
    ∀ (l : List α) (o : Nat), segsOk P L ty off total o l = true → ∀ {ys : List (DataW H × List MemPlace)}, l.mapM (fun x => DataW.trod enc P w base sp held n (ty x) ((cs.drop (off x)).take (P.cellsOf (ty x)))) = some ys →
      ∃ xs, Lifts P (l.map ty) (ys.map (·.1)) xs ∧ o + xs.length = total ∧ (∀ x ∈ xs, x.isAgg = false) ∧ ∀ (j : Nat) (x : D) (v : Value), xs[j]? = some x → cs[o + j]? = some v → DRep All2 w x v
  | [], o, hk, ys, h => by
    simp only [segsOk, beq_iff_eq] at hk
    simp only [List.mapM_nil] at h
    cases h
    exact ⟨[], .nil, by simpa using hk, by simp, by simp⟩
  | a :: l, o, hk, ys, h => by
    simp only [segsOk, Bool.and_eq_true, beq_iff_eq] at hk
    obtain ⟨⟨h1, h2⟩, h3⟩ := hk
    simp only [List.mapM_cons, Option.bind_eq_bind, Option.bind_eq_some_iff] at h
    obtain ⟨⟨d, p⟩, h4, bs, h5, h6⟩ := h
    cases h6
    obtain ⟨xs, k1, k2, k3, k4⟩ := lift_segs ih hcs l _ h3 h5
    obtain ⟨as, a1, a2, a3, a4, a5⟩ := ih _ _ _ _ h2 h4
    refine ⟨as ++ xs, .cons a1 k1, by simp only [List.length_append, a3]; omega, ?_, ?_⟩
    · intro x hx
      rcases List.mem_append.1 hx with hx | hx
      · exact a4 x hx
      · exact k3 x hx
    · intro j x v hj hv
      by_cases hlt : j < as.length
      · rw [List.getElem?_append_left hlt] at hj
        refine a5 j x v hj ?_
        rw [List.getElem?_take_of_lt (by omega), List.getElem?_drop, h1]
        exact hv
      · rw [List.getElem?_append_right (by omega)] at hj
        refine k4 _ x v hj ?_
        rw [show o + P.cellsOf (ty a) + (j - as.length) = o + j by omega]
        exact hv

theorem Lift.agg_cells {t : TypeId} {d : DataW H} {xs : List D} (h : Lift P t d xs) (ha : aggT P t = false) : xs.length = 1 := by
  cases h with
  | st fs ds cs h1 _ => simp [aggT, h1] at ha
  | arr n e ds cs h1 _ => simp [aggT, h1] at ha
  | _ => rfl

/-- an element, out of its cells -/
def mkD (agg : Bool) (xs : List D) : D := if agg then .agg xs else xs.headD .nilp

theorem mkD_cells {agg : Bool} {xs : List D} (h : agg = false → xs.length = 1) (ha : ∀ x ∈ xs, x.isAgg = false) : (mkD agg xs).cells = xs ∧ (mkD agg xs).isAgg = agg := by
  cases agg with
  | true => exact ⟨rfl, rfl⟩
  | false =>
    have h1 := h rfl
    match xs, h1 with
    | [x], _ =>
      have := ha x (by simp)
      cases x <;> first | exact ⟨rfl, rfl⟩ | (simp [D.isAgg] at this)

theorem add_add {b o i j : Nat} : ((⟨b, o, none⟩ : Addr).add i).add j = ⟨b, o + i + j, none⟩ := by
  unfold Addr.add
  by_cases hi : i = 0 <;> by_cases hj : j = 0 <;> simp [hi, hj, Nat.add_assoc]

theorem lift_cells (hL : ∀ t ∈ L, tyOk P L t = true) : ∀ (n : Nat) (t : TypeId) (cs : List Value) (d : DataW H) (ps : List MemPlace), L.contains t = true →
    DataW.trod enc P w base sp held n t cs = some (d, ps) → ∃ xs, Lifted P w t cs d xs := by
  intro n
  induction n with
  | zero => intro t cs d ps _ h; simp [DataW.trod] at h
  | succ n ih =>
    intro t cs d ps ht h
    have hk := hL t (by simpa using ht)
    unfold tyOk at hk
    simp only [DataW.trod] at h
    split at hk
    · rename_i hu
      rw [hu] at h
      split at h <;> simp_all
      rename_i b
      obtain ⟨rfl, _⟩ := h
      refine ⟨[.bool b], .bool b hu, by simp, by simp [hk], by simp [D.isAgg], ?_⟩
      intro j x v hj hv
      cases j <;> simp at hj hv
      subst hj hv
      exact .bool b
    · rename_i k hu
      rw [hu] at h
      cases cs with
      | nil => simp at h
      | cons v r =>
        cases r with
        | cons v2 r => simp at h
        | nil =>
          cases v <;> simp only [reduceCtorEq] at h
          rename_i k' m
          split at h
          · rename_i hc
            obtain ⟨rfl, hwf⟩ := hc
            simp only [Option.some.injEq, Prod.mk.injEq] at h
            obtain ⟨rfl, _⟩ := h
            simp only [beq_iff_eq] at hk
            refine ⟨[.int k' m], .int k' m hu hwf, by simp, by simp [hk], by simp [D.isAgg], ?_⟩
            intro j x v hj hv
            cases j <;> simp at hj hv
            subst hj hv
            exact .int k' m
          · simp at h
    · rename_i hu
      rw [hu] at h
      split at h <;> simp_all
      rename_i s
      obtain ⟨hsz, rfl, _⟩ := h
      refine ⟨[.str s], .str s hu hsz, by simp, by simp [hk], by simp [D.isAgg], ?_⟩
      intro j x v hj hv
      cases j <;> simp at hj hv
      subst hj hv
      exact .str s
    · rename_i e hu
      simp only [Bool.and_eq_true, beq_iff_eq, bne_iff_ne, ne_eq, Bool.or_eq_true] at hk
      obtain ⟨⟨⟨hk1, hk2⟩, hk3⟩, hk4⟩ := hk
      rw [hu] at h
      have hcs : cs = [.slice none 0 0] ∨ ∃ a len cap, cs = [.slice (some a) len cap] := by
        split at h <;> simp_all
      rcases hcs with rfl | ⟨a, len, cap, rfl⟩
      · simp only [Option.some.injEq, Prod.mk.injEq] at h
        obtain ⟨rfl, _⟩ := h
        refine ⟨[.sl []], .sl0 e hu, by simp, by simp [hk1], by simp [D.isAgg], ?_⟩
        intro j x v hj hv
        cases j <;> simp at hj hv
        subst hj hv
        exact .sl0 none 0
      · simp only at h
        split at h
        · rename_i hb
          obtain ⟨hb1, hb2, hb3⟩ := hb
          simp only [Option.bind_eq_some_iff, Option.map_eq_some_iff, Prod.mk.injEq] at h
          obtain ⟨elems, he, rest, hr, rfl, _⟩ := h
          obtain ⟨g1, g2⟩ := mapM_get he
          simp only [List.length_range] at g1
          have hel : ∀ i, i < len → ∃ y vs xs, elems[i]? = some y ∧ w.cells? base (a.add (i * P.cellsOf e)) (P.cellsOf e) = some vs ∧ Lifted P w e vs y.1 xs := by
            intro i hi
            obtain ⟨y, h1, h2⟩ := g2 i i (by simp [hi])
            simp only [Option.bind_eq_some_iff] at h2
            obtain ⟨vs, h3, h4⟩ := h2
            obtain ⟨xs, h5⟩ := ih e vs y.1 y.2 hk2 h4
            exact ⟨y, vs, xs, h1, h3, h5⟩
          have hcell : ∀ i vs, w.cells? base (a.add (i * P.cellsOf e)) (P.cellsOf e) = some vs → vs.length = P.cellsOf e ∧ ∀ j, j < P.cellsOf e → ∃ v, vs[j]? = some v ∧ w.cell? ((a.add (i * P.cellsOf e)).add j) = some v := by
            intro i vs hv
            unfold World.cells? at hv
            split at hv
            · obtain ⟨q1, q2⟩ := mapM_get hv
              refine ⟨by simpa using q1, fun j hj => ?_⟩
              exact q2 j j (by simp [hj])
            · simp at hv
          cases len with
          | zero =>
            have : elems = [] := List.eq_nil_of_length_eq_zero g1
            subst this
            refine ⟨[.sl []], .sl e (([] : List (DataW H × List MemPlace)).map (·.1)) (rest.map (·.1)) [] hu rfl (by simp) (by simp) (by simp), by simp, by simp [hk1], by simp [D.isAgg], ?_⟩
            intro j x v hj hv
            cases j <;> simp at hj hv
            subst hj hv
            exact .sl0 (some a) cap
          | succ len =>
            have hsp : a.spot = none := by
              obtain ⟨y, vs, xs, _, h1, _⟩ := hel 0 (by omega)
              obtain ⟨_, h2⟩ := hcell 0 vs h1
              obtain ⟨v, _, h3⟩ := h2 0 (by omega)
              simp only [Nat.zero_mul, Addr.add, if_true] at h3
              unfold World.cell? at h3
              split at h3
              · split at h3
                · simp at h3
                · rename_i hns; simpa using hns
              · simp at h3
            obtain ⟨b, o, spot⟩ := a
            simp only at hsp
            subst hsp
            -- the elements
            have hch : ∃ xs : List D, xs.length = elems.length ∧ ∀ (i : Nat) (x : D), xs[i]? = some x → ∃ y vs zs, elems[i]? = some y ∧ w.cells? base ((⟨b, o, none⟩ : Addr).add (i * P.cellsOf e)) (P.cellsOf e) = some vs ∧ Lifted P w e vs y.1 zs ∧ x = mkD (aggT P e) zs := by
              have key : ∀ m, m ≤ elems.length → ∃ xs : List D, xs.length = m ∧ ∀ (i : Nat) (x : D), xs[i]? = some x → ∃ y vs zs, elems[i]? = some y ∧ w.cells? base ((⟨b, o, none⟩ : Addr).add (i * P.cellsOf e)) (P.cellsOf e) = some vs ∧ Lifted P w e vs y.1 zs ∧ x = mkD (aggT P e) zs := by
                intro m
                induction m with
                | zero => exact fun _ => ⟨[], rfl, by simp⟩
                | succ m ihm =>
                  intro hm
                  obtain ⟨xs, x1, x2⟩ := ihm (by omega)
                  obtain ⟨y, vs, zs, y1, y2, y3⟩ := hel m (by omega)
                  refine ⟨xs ++ [mkD (aggT P e) zs], by simp [x1], ?_⟩
                  intro i x hi
                  by_cases hlt : i < xs.length
                  · rw [List.getElem?_append_left hlt] at hi
                    exact x2 i x hi
                  · have him : i = m := by
                      have := (List.getElem?_eq_some_iff.1 hi).1
                      simp at this
                      omega
                    subst him
                    rw [List.getElem?_append_right (by omega)] at hi
                    simp [x1] at hi
                    subst hi
                    exact ⟨y, vs, zs, y1, y2, y3, rfl⟩
              exact key elems.length (Nat.le_refl _)
            obtain ⟨xs, x1, x2⟩ := hch
            have x3 : ∀ (i : Nat) (x : D), xs[i]? = some x → ∃ y vs, elems[i]? = some y ∧ w.cells? base ((⟨b, o, none⟩ : Addr).add (i * P.cellsOf e)) (P.cellsOf e) = some vs ∧ Lifted P w e vs y.1 x.cells ∧ x.isAgg = aggT P e := by
              intro i x hi
              obtain ⟨y, vs, zs, y1, y2, y3, rfl⟩ := x2 i x hi
              obtain ⟨m1, m2⟩ := mkD_cells (agg := aggT P e) (xs := zs) (fun ha => y3.1.agg_cells ha) y3.2.2.2.1
              exact ⟨y, vs, y1, y2, by rw [m1]; exact y3, m2⟩
            refine ⟨[.sl xs], .sl e (elems.map (·.1)) (rest.map (·.1)) xs hu (by simp [x1]) (by omega) ?_ ?_, by simp, by simp [hk1], by simp [D.isAgg], ?_⟩
            · intro i x hi
              obtain ⟨y, vs, y1, y2, y3, y4⟩ := x3 i x hi
              exact y4
            · intro i x d hi hd
              obtain ⟨y, vs, y1, y2, y3, y4⟩ := x3 i x hi
              rw [List.getElem?_map, y1] at hd
              simp only [Option.map_some, Option.some.injEq] at hd
              subst hd
              exact y3.1
            · intro j x v hj hv
              cases j <;> simp at hj hv
              subst hj hv
              have hlen : xs.length = len + 1 := by omega
              rw [← hlen]
              have full : ∀ (i : Nat) (x : D) (j : Nat) (c : D), xs[i]? = some x → x.cells[j]? = some c → ∃ u, w.cell? ⟨b, o + i * P.cellsOf e + j, none⟩ = some u ∧ DRep All2 w c u := by
                intro i x j c hi hj
                obtain ⟨y, vs, y1, y2, y3, y4⟩ := x3 i x hi
                obtain ⟨q1, q2⟩ := hcell i vs y2
                have hjlt : j < P.cellsOf e := by
                  have := (List.getElem?_eq_some_iff.1 hj).1
                  rw [y3.2.2.1] at this
                  exact this
                obtain ⟨u, u1, u2⟩ := q2 j hjlt
                rw [add_add] at u2
                exact ⟨u, u2, y3.2.2.2.2 j c u hj u1⟩
              refine .sl xs b o (P.cellsOf e) cap (fun i j => (w.cell? ⟨b, o + i * P.cellsOf e + j, none⟩).getD undef) (by omega) ?_ ?_ ?_ ?_
              · intro x hx
                obtain ⟨i, hi, rfl⟩ := List.getElem_of_mem hx
                obtain ⟨y, vs, y1, y2, y3, y4⟩ := x3 i _ (List.getElem?_eq_getElem hi)
                exact y3.2.2.1
              · intro x hx c hc
                obtain ⟨i, hi, rfl⟩ := List.getElem_of_mem hx
                obtain ⟨y, vs, y1, y2, y3, y4⟩ := x3 i _ (List.getElem?_eq_getElem hi)
                exact y3.2.2.2.1 c hc
              · intro i x j c hi hj
                obtain ⟨u, h1, h2⟩ := full i x j c hi hj
                exact ⟨by rw [h1]; rfl, trivial⟩
              · intro i x j c hi hj
                obtain ⟨u, h1, h2⟩ := full i x j c hi hj
                simp only [h1, Option.getD_some]
                exact h2
        · simp at h
    · rename_i fs hu
      rw [hu] at h
      simp only at h
      split at h
      · rename_i hlen
        simp only [Option.map_eq_some_iff, Prod.mk.injEq] at h
        obtain ⟨ys, h1, rfl, _⟩ := h
        obtain ⟨xs, k1, k2, k3, k4⟩ := lift_segs (ty := fun f : Field => f.type) (off := fun f => f.offset) ih hlen fs.toList 0 hk h1
        refine ⟨xs, .st fs _ _ hu k1, by omega, by omega, k3, ?_⟩
        intro j x v hj hv
        exact k4 j x v hj (by simpa using hv)
      · simp at h
    · rename_i m e hu
      rw [hu] at h
      simp only at h
      split at h
      · rename_i hlen
        simp only [Option.map_eq_some_iff, Prod.mk.injEq] at h
        obtain ⟨ys, h1, rfl, _⟩ := h
        obtain ⟨xs, k1, k2, k3, k4⟩ := lift_segs (ty := fun _ : Nat => e) (off := fun i => i * P.cellsOf e) ih hlen (List.range m) 0 hk h1
        refine ⟨xs, .arr m e _ _ hu k1, by omega, by omega, k3, ?_⟩
        intro j x v hj hv
        exact k4 j x v hj (by simpa using hv)
      · simp at h
    · simp at hk
end
end Go.Pe

namespace Go.Pe
open Go.ChangeShapes Go.WideShapes Go.ChangeAt Go.RowKit

/-- the arguments, as they were read, and what stands for them -/
def LiftArgs {H : Type} (P : Program) : List TypeId → List (DataW H) → List D → Prop
  | [], [], [] => True
  | t :: ts, d :: ds, x :: xs => (Lift P t d x.cells ∧ x.isAgg = aggT P t) ∧ LiftArgs P ts ds xs
  | _, _, _ => False

section
variable {H : Type} {enc : TypeId × Value → H} {P : Program} {w : World} {base b0 : Nat} {sp : Nat → Bool} {held : Bool} {L : List TypeId}

theorem lift_arg (hL : ∀ t ∈ L, tyOk P L t = true) {t : TypeId} {v : Value} {d : DataW H} {p : List MemPlace} (ht : L.contains t = true) (h : DataW.Trod enc P w base sp held t v d p) (hv : Value.okWide P w .any b0 t v) :
    ∃ x : D, DRep All2 w x v ∧ Lift P t d x.cells ∧ x.isAgg = aggT P t := by
  obtain ⟨fuel, hf⟩ := h
  obtain ⟨xs, l1, l2, l3, l4, l5⟩ := lift_cells hL fuel t _ d p ht hf
  have hk := hL t (by simpa using ht)
  cases ha : aggT P t with
  | true =>
    have hagg : ∃ cs, v = .agg cs := by
      unfold aggT at ha
      unfold Value.okWide at hv
      split at ha
      · rename_i hu; rw [hu] at hv; obtain ⟨cs, h1, _⟩ := hv; exact ⟨cs, h1⟩
      · rename_i hu; rw [hu] at hv; obtain ⟨cs, h1, _⟩ := hv; exact ⟨cs, h1⟩
      · simp at ha
    obtain ⟨cs, rfl⟩ := hagg
    refine ⟨.agg xs, .agg xs cs (by simpa [Value.cells] using l2.symm) l4 ?_, l1, rfl⟩
    intro j c v hj hv
    exact l5 j c v hj (by simpa [Value.cells] using hv)
  | false =>
    have hone := l1.agg_cells ha
    match xs, hone with
    | [x], _ =>
      have hx := l4 x (by simp)
      have hxc : x.cells = [x] := by cases x <;> first | rfl | (simp [D.isAgg] at hx)
      have hnagg : v.cells = #[v] := by
        cases v <;> try rfl
        rename_i cs
        exfalso
        unfold Value.okWide at hv
        unfold tyOk at hk
        unfold aggT at ha
        split at hv
        · rename_i hu; rw [hu] at ha; simp at ha
        · rename_i hu; rw [hu] at ha; simp at ha
        · unfold Cell.okWide Cell.ok at hv
          split at hv <;> simp_all
      refine ⟨x, l5 0 x v rfl (by rw [hnagg]; rfl), by rw [hxc]; exact l1, hx⟩

theorem lift_args (hL : ∀ t ∈ L, tyOk P L t = true) : ∀ {ts : List TypeId} {vs : List Value} {ds : List (DataW H)} {p : List MemPlace}, (∀ t ∈ ts, L.contains t = true) → DataW.TrodAll enc P w base sp held ts vs ds p →
    (∀ (j : Nat) t v, ts[j]? = some t → vs[j]? = some v → Value.okWide P w .any b0 t v) → ∃ xs : List D, LiftArgs P ts ds xs ∧ xs.length = vs.length ∧ ∀ (j : Nat) (x : D) (v : Value), xs[j]? = some x → vs[j]? = some v → DRep All2 w x v
  | [], vs, ds, p, _, h, _ => by
    obtain ⟨rfl, rfl, rfl⟩ := trodAll_nil h
    exact ⟨[], trivial, rfl, by simp⟩
  | t :: ts, vs, ds, p, ht, h, hv => by
    obtain ⟨v, vs1, d, ds1, a, b, rfl, rfl, rfl, h1, h2⟩ := trodAll_cons h
    obtain ⟨x, x1, x2⟩ := lift_arg hL (ht t (by simp)) h1 (hv 0 t v rfl rfl)
    obtain ⟨xs, y1, y2, y3⟩ := lift_args hL (fun t h => ht t (by simp [h])) h2 (fun j t v h1 h2 => hv (j + 1) t v (by simpa using h1) (by simpa using h2))
    refine ⟨x :: xs, ⟨x2, y1⟩, by simp [y2], ?_⟩
    intro j c u hj hu
    cases j with
    | zero => simp at hj hu; subst hj hu; exact x1
    | succ j => exact y3 j c u (by simpa using hj) (by simpa using hu)

/-- what is known of memory ahead of a call: all that there is stands fast -/
def g0 : G := { κ := fun _ => none, tip := fun _ => 0, bb := fun _ => 0, nb := 0 }

theorem args_rep {l : Loc} : ∀ {xs : List D} {vs : List Value}, xs.length = vs.length → (∀ (j : Nat) (x : D) (v : Value), xs[j]? = some x → vs[j]? = some v → DRep All2 w x v) → RepFs P g0 w l (xs.map PV.d) vs
  | [], [], _, _ => by simp only [List.map_nil, RepFs]
  | x :: xs, v :: vs, hl, h => by
    simp only [List.map_cons, RepFs, RepF]
    refine ⟨(h 0 x v rfl rfl).mono fun b i u hc _ => ⟨hc, .inl rfl⟩, args_rep (by simpa using hl) fun j x v h1 h2 => h (j + 1) x v (by simpa using h1) (by simpa using h2)⟩
  | [], _ :: _, hl, _ => by simp at hl
  | _ :: _, [], hl, _ => by simp at hl

theorem plains_d : ∀ (xs : List D), PV.plains (xs.map PV.d) = true
  | [] => rfl
  | x :: xs => by simp only [List.map_cons, PV.plains, PV.plain, plains_d xs, Bool.and_self]

/-- a law's call -/
theorem law_calls {tab : Nat → Option FnD} {pf : Nat → Bool} (hpf : PfOk pf tab) (ht : TabOk P pf tab) {f : Nat} {xs : List D} {vs : List Value} (hlen : xs.length = vs.length)
    (hr : ∀ (j : Nat) (x : D) (v : Value), xs[j]? = some x → vs[j]? = some v → DRep All2 w x v) {hp : List Ent} (hF : F tab f (xs.map PV.d) [] = some (.ret (.d (.bool true)) hp)) :
    Calls P f vs.toArray w fun e w' => e = .returned (.bool true) ∧ Below w.heap.size w w' := by
  obtain ⟨n, hn⟩ := F_some.1 hF
  refine ((evF_sound hpf ht n).calls f _ _ _ hn (plains_d xs) g0 w vs (.ret 0) (args_rep hlen hr) ⟨rfl, by simp⟩).mono ?_
  rintro e w' ⟨g', hc, u, rfl, hu, _⟩
  have hu' : DRep g'.stab w' (.bool true) u := hu
  cases hu'
  exact ⟨rfl, ⟨hc.os, hc.tape, hc.output, hc.size, fun k hk => (hc.free k hk rfl).2⟩⟩

theorem back_all (hl : laidOutB P = true) : ∀ {ts : List TypeId} {vs : List Value} {ds : List (DataW H)} {p : List MemPlace} {W W' : World}, (∀ t ∈ ts, P.readableRec t = true ∧ t < P.types.size) → DataW.TrodAll enc P W 0 (fun _ => true) true ts vs ds p → Below W.heap.size W W' →
    ∃ p', DataW.TrodAll enc P W' 0 (fun b => decide (b < W.heap.size)) true ts vs ds p'
  | [], vs, ds, p, W, W', _, h, _ => by
    obtain ⟨rfl, rfl, rfl⟩ := trodAll_nil h
    exact ⟨[], trodAll_mk0⟩
  | t :: ts, vs, ds, p, W, W', ht, h, hb => by
    obtain ⟨v, vs1, d, ds1, a, b, rfl, rfl, rfl, h1, h2⟩ := trodAll_cons h
    obtain ⟨q, hq⟩ := back_all hl (fun t h => ht t (by simp [h])) h2 hb
    have hlt : ∀ x ∈ a, x.block < W.heap.size := by obtain ⟨m, hm⟩ := h1; exact DataW.trod_lt m _ _ _ hm
    exact ⟨_, trodAll_cons_mk (Below.trod hl (ht t (by simp)).1 (ht t (by simp)).2 h1 hb hlt) hq⟩

theorem LiftArgs.len : ∀ {ts : List TypeId} {ds : List (DataW H)} {xs : List D}, LiftArgs P ts ds xs → ds.length = ts.length
  | [], [], [], _ => rfl
  | t :: ts, d :: ds, x :: xs, h => by simp [h.2.len]
  | [], _ :: _, _, h => by simp [LiftArgs] at h
  | [], [], _ :: _, h => by simp [LiftArgs] at h
  | _ :: _, [], _, h => by simp [LiftArgs] at h
  | _ :: _, _ :: _, [], h => by simp [LiftArgs] at h

/-- a law's row: what is asked of its call -/
theorem law_contract {tab : Nat → Option FnD} {pf : Nat → Bool} (hpf : PfOk pf tab) (ht : TabOk P pf tab) (hl : laidOutB P = true) {f : Nat} {fn : Func} {s : ChangeSpec} (hvars : s.vars = [])
    (hL : ∀ t ∈ L, tyOk P L t = true) (hps : ∀ t ∈ fn.params.toList, L.contains t = true ∧ P.readableRec t = true ∧ t < P.types.size) {tb : TypeId} (hres : fn.resultTypes = #[tb]) (hb : P.underlying tb = some .bool)
    (hfn : ∀ ds : List (DataW H), ds.length = fn.params.toList.length → s.fn H ds = { results := [.lit (.bool true)], args := ds })
    {W : World} {args : Array Value} {ds gs : List (DataW H)} {before : List MemPlace} (hval : ∀ (j : Nat) t v, fn.params[j]? = some t → args[j]? = some v → Value.okWide P W .any b0 t v)
    (hW : DataW.Whole enc P fn.params.toList s.vars false W args.toList ds gs before)
    (law : ∀ xs, LiftArgs P fn.params.toList ds xs → ∃ hp, F tab f (xs.map PV.d) [] = some (.ret (.d (.bool true)) hp)) :
    Calls P f args W fun e W' => ∃ v, e = .returned v ∧ s.post enc P fn false true false false W args v W' := by
  have hW' := hW
  obtain ⟨p, q, hA, hV, rfl, hfz, hnd⟩ := hW
  rw [hvars] at hV
  obtain ⟨rfl, rfl⟩ := trodVars_none hV
  obtain ⟨xs, x1, x2, x3⟩ := lift_args (b0 := b0) hL (fun t h => (hps t h).1) hA (fun j t v h1 h2 => hval j t v (by simpa using h1) (by simpa using h2))
  obtain ⟨hp, hF⟩ := law xs x1
  refine (law_calls hpf ht x2 x3 hF).mono ?_
  rintro e W' ⟨rfl, bel⟩
  obtain ⟨pa, hpa⟩ := back_all hl (fun t h => (hps t h).2) hA bel
  have hd : s.fn H (ds ++ []) = { results := [.lit (.bool true)], args := ds } := by rw [List.append_nil]; exact hfn ds x1.len
  refine ⟨_, rfl, ds, [], _, [], pa, [], hW', ?_, ?_, ?_, bel.frame _, fun h => by cases h⟩
  · rw [hd, hres]
    exact trodAll_mk1 (shut_bool hb _)
  · rw [hd]; exact hpa
  · rw [hd, hvars]; rfl
end
end Go.Pe

namespace Go.Pe

abbrev Tabl := List (Nat × RFunc)

def find {α : Type} : List (Nat × α) → Nat → Option α
  | [], _ => none
  | (k, v) :: r, f => if f == k then some v else find r f

theorem find_mem {α : Type} : ∀ {l : List (Nat × α)} {f : Nat} {v : α}, find l f = some v → (f, v) ∈ l
  | [], f, v, h => by simp [find] at h
  | (k, u) :: r, f, v, h => by
    simp only [find] at h
    split at h
    · rename_i hk
      simp only [Option.some.injEq] at h
      simp only [beq_iff_eq] at hk
      subst hk h
      simp
    · exact List.mem_cons_of_mem _ (find_mem h)

def tabOf (l : Tabl) (ps : List (Nat × (List PV → Option PV))) (ms : List (Nat × (List PV → Option (List D)))) (f : Nat) : Option FnD :=
  match find l f with
  | some rf => some (.code rf)
  | none => match find ps f with
    | some p => some (.prim p)
    | none => (find ms f).map .mk

def pfOf (l : Tabl) (ps : List Nat) (f : Nat) : Bool :=
  match find l f with
  | some rf => rf.pure
  | none => ps.contains f

def tabAll (P : Program) (pf : Nat → Bool) (l : Tabl) : Bool := l.all fun p => fnOk P pf p.1 p.2

theorem tabOf_pf (l : Tabl) (ps : List (Nat × (List PV → Option PV))) (ms : List (Nat × (List PV → Option (List D)))) (qs : List Nat) (hm : (ms.all fun p => !pfOf l qs p.1) = true) : PfOk (pfOf l qs) (tabOf l ps ms) := by
  constructor
  · intro f rf h1 h2
    unfold tabOf at h2
    unfold pfOf at h1
    split at h2
    · rename_i rf' hf
      simp only [Option.some.injEq, FnD.code.injEq] at h2
      subst h2
      rw [hf] at h1
      exact h1
    · split at h2
      · simp at h2
      · obtain ⟨_, _, h3⟩ := Option.map_eq_some_iff.1 h2
        cases h3
  · intro f p h1 h2
    unfold tabOf at h2
    split at h2
    · simp at h2
    · split at h2
      · simp at h2
      · obtain ⟨q, h3, h4⟩ := Option.map_eq_some_iff.1 h2
        have := List.all_eq_true.1 hm _ (find_mem h3)
        rw [h1] at this
        simp at this

theorem tabOf_ok {P : Program} {l : Tabl} {pf : Nat → Bool} {ps : List (Nat × (List PV → Option PV))} {ms : List (Nat × (List PV → Option (List D)))} (h : tabAll P pf l = true) (hp : ∀ p ∈ ps, PrimSound P p.1 p.2) (hm : ∀ p ∈ ms, MkSound P p.1 p.2) : TabOk P pf (tabOf l ps ms) := by
  intro f d hd
  unfold tabOf at hd
  split at hd
  · rename_i rf hf
    simp only [Option.some.injEq] at hd
    subst hd
    exact List.all_eq_true.1 h _ (find_mem hf)
  · split at hd
    · rename_i p hp'
      simp only [Option.some.injEq] at hd
      subst hd
      exact hp _ (find_mem hp')
    · obtain ⟨p, hp', rfl⟩ := Option.map_eq_some_iff.1 hd
      exact hm _ (find_mem hp')

end Go.Pe

namespace Go.Pe

theorem optAll_nil {α : Type} : optAll ([] : List (Option α)) = some [] := rfl
theorem optAll_some {α : Type} (x : α) (r : List (Option α)) : optAll (some x :: r) = (optAll r).map (x :: ·) := rfl

/-- the condition of a piece of code, told apart -/
theorem condK_bool {b : Bool} {x y : Option (Ex × St)} : condK (.d (.bool b)) x y = if b = true then x else y := by cases b <;> rfl
/-- a piece of code's two ways are not walked ahead of its condition -/
theorem condK_congr {t t' : PV} {x y : Option (Ex × St)} (h : t = t') : condK t x y = condK t' x y := by rw [h]
attribute [congr] condK_congr
theorem condK_true {x y : Option (Ex × St)} : condK (.d (.bool true)) x y = x := rfl
theorem condK_false {x y : Option (Ex × St)} : condK (.d (.bool false)) x y = y := rfl
theorem seqK_ite {c : Prop} [Decidable c] {k : St → Option (Ex × St)} {x y : Option (Ex × St)} : seqK k (if c then x else y) = if c then seqK k x else seqK k y := by split <;> rfl
theorem seqK_norm {k : St → Option (Ex × St)} {s : St} : seqK k (some (.norm, s)) = k s := rfl
theorem seqK_ret {k : St → Option (Ex × St)} {s : St} : seqK k (some (.ret, s)) = some (.ret, s) := rfl
theorem seqK_exit {k : St → Option (Ex × St)} {s : St} {i : Nat} : seqK k (some (.exit i, s)) = some (.exit i, s) := rfl
theorem seqK_pan {k : St → Option (Ex × St)} {s : St} {v : D} : seqK k (some (.pan v, s)) = some (.pan v, s) := rfl
theorem blockK_norm {i : Nat} {l : List LM} {s : St} : blockK i l (some (.norm, s)) = some (.norm, s.head l) := rfl
theorem blockK_ret {i : Nat} {l : List LM} {s : St} : blockK i l (some (.ret, s)) = some (.ret, s) := rfl
theorem blockK_pan {i : Nat} {l : List LM} {s : St} {v : D} : blockK i l (some (.pan v, s)) = some (.pan v, s) := rfl
theorem blockK_exit {i j : Nat} {l : List LM} {s : St} : blockK i l (some (.exit j, s)) = if j = i then some (.norm, s.head l) else some (.exit j, s) := rfl
theorem blockK_ite {c : Prop} [Decidable c] {i : Nat} {l : List LM} {x y : Option (Ex × St)} : blockK i l (if c then x else y) = if c then blockK i l x else blockK i l y := by split <;> rfl
theorem fnEnd_ite {c : Prop} [Decidable c] {rf : RFunc} {hp : List Ent} {x y : Option (Ex × St)} : fnEnd rf hp (if c then x else y) = if c then fnEnd rf hp x else fnEnd rf hp y := by split <;> rfl

def retOf (rf : RFunc) (hp : List Ent) (s : St) : Option Out :=
  match results s rf.res with
    | some v => if rf.pure then (if v.flat then some (.ret v hp) else none) else some (.ret v s.hp)
    | none => none
theorem fnEnd_ret' {rf : RFunc} {hp : List Ent} {s : St} : fnEnd rf hp (some (.ret, s)) = retOf rf hp s := rfl
theorem fnEnd_norm' {rf : RFunc} {hp : List Ent} {s : St} : fnEnd rf hp (some (.norm, s)) = retOf rf hp s := rfl

/-- one operation -/
def stepR (cf : CF) (o : ROper) (w : Option Bool) (s : St) : Option OR :=
  match w with
  | some true => evOp cf o.dst o.op s
  | some false => (s.put o.dst .und).map .ok
  | none => none
def thenR (k : St → Option OR) : Option OR → Option OR
  | some (.ok s) => k s
  | r => r
theorem evOps_nil {cf : CF} {s : St} : evOps cf [] s = some (.ok s) := rfl
theorem evOps_cons {cf : CF} {o : ROper} {r : List ROper} {s : St} : evOps cf (o :: r) s = thenR (evOps cf r) (stepR cf o (wanted s o.g) s) := by
  rw [evOps]
  cases wanted s o.g with
  | none => rfl
  | some b =>
    cases b with
    | true => 
      simp only [stepR]
      cases evOp cf o.dst o.op s with
      | none => rfl
      | some r => cases r <;> rfl
    | false => simp only [stepR]; cases s.put o.dst .und <;> rfl
theorem thenR_ok {k : St → Option OR} {s : St} : thenR k (some (.ok s)) = k s := rfl
theorem thenR_ite {c : Prop} [Decidable c] {k : St → Option OR} {x y : Option OR} : thenR k (if c then x else y) = if c then thenR k x else thenR k y := by split <;> rfl

theorem head_idem_go : ∀ (live : List LM) (tm : List PV), St.head.go live (St.head.go live tm) = St.head.go live tm
  | [], tm => by simp [St.head.go]
  | m :: live, [] => by cases m <;> rfl
  | .kill :: live, p :: tm => by simp only [St.head.go, head_idem_go live tm]
  | .keep :: live, p :: tm => by cases p <;> simp only [St.head.go, head_idem_go live tm]
  | .norm e :: live, p :: tm => by cases p <;> simp only [St.head.go, head_idem_go live tm]

theorem head_idem {s : St} {live : List LM} : (s.head live).head live = s.head live := by
  simp only [St.head, head_idem_go]

theorem V_loop_head {cf : CF} {live : List LM} {c : RCode} {s : St} : V cf (.loop live c) s = V cf (.loop live c) (s.head live) := by
  rw [V_loop, V_loop (s := s.head live), head_idem]

/-- a loop in its block: B is the block -/
noncomputable def loopK (cf : CF) (B : RCode) (id : Nat) (l live : List LM) : Option (Ex × St) → Option (Ex × St)
  | some (.norm, s') => V cf B (s'.head live)
  | r => blockK id l r

theorem V_bloop {cf : CF} {id : Nat} {l live : List LM} {c : RCode} {s : St} : V cf (.block id l (.loop live c)) s = loopK cf (.block id l (.loop live c)) id l live (V cf c (s.head live)) := by
  rw [V_block, V_loop]
  cases V cf c (s.head live) with
  | none => rfl
  | some q =>
    obtain ⟨ex, s'⟩ := q
    cases ex with
    | norm => simp only [seqK, loopK]; rw [V_block, V_loop_head]
    | _ => rfl

variable {cf : CF} {B : RCode} {id : Nat} {l live : List LM} {s : St}
theorem loopK_norm : loopK cf B id l live (some (.norm, s)) = V cf B (s.head live) := rfl
theorem loopK_ret : loopK cf B id l live (some (.ret, s)) = some (.ret, s) := rfl
theorem loopK_exit {j : Nat} : loopK cf B id l live (some (.exit j, s)) = if j = id then some (.norm, s.head l) else some (.exit j, s) := rfl
theorem loopK_ite {c : Prop} [Decidable c] {x y : Option (Ex × St)} : loopK cf B id l live (if c then x else y) = if c then loopK cf B id l live x else loopK cf B id l live y := by split <;> rfl

theorem cells_agg {cs : List D} : (D.agg cs).cells = cs := rfl
theorem cells_int {k : IntKind} {n : Int} : (D.int k n).cells = [.int k n] := rfl
theorem cells_bool {b : Bool} : (D.bool b).cells = [.bool b] := rfl
theorem cells_str {b : ByteArray} : (D.str b).cells = [.str b] := rfl
theorem cells_sl {xs : List D} : (D.sl xs).cells = [.sl xs] := rfl
theorem isAgg_agg {cs : List D} : (D.agg cs).isAgg = true := rfl
theorem isAgg_int {k : IntKind} {n : Int} : (D.int k n).isAgg = false := rfl
theorem isAgg_bool {b : Bool} : (D.bool b).isAgg = false := rfl
theorem isAgg_str {b : ByteArray} : (D.str b).isAgg = false := rfl
theorem isAgg_sl {xs : List D} : (D.sl xs).isAgg = false := rfl
theorem width_agg {cs : List D} : (D.agg cs).width = cs.length := rfl
theorem width_int {k : IntKind} {n : Int} : (D.int k n).width = 1 := rfl
theorem width_bool {b : Bool} : (D.bool b).width = 1 := rfl
theorem width_str {b : ByteArray} : (D.str b).width = 1 := rfl
theorem width_sl {xs : List D} : (D.sl xs).width = 1 := rfl
attribute [go_sem] cells_agg cells_int cells_bool cells_str cells_sl isAgg_agg isAgg_int isAgg_bool isAgg_str isAgg_sl width_agg width_int width_bool width_str width_sl

theorem w64 {n : Int} (h : -9223372036854775808 ≤ n ∧ n ≤ 9223372036854775807) : IntKind.i64.wrap n = n := by
  simp only [IntKind.wrap, IntKind.bits, IntKind.signed, Bool.true_and, ge_iff_le, decide_eq_true_eq]
  have e1 : (2 : Int) ^ 64 = 18446744073709551616 := by decide
  have e2 : (2 : Int) ^ (64 - 1) = 9223372036854775808 := by decide
  rw [e1, e2]
  split <;> omega
theorem wu8 {n : Int} (h : 0 ≤ n ∧ n ≤ 255) : IntKind.u8.wrap n = n := by
  simp only [IntKind.wrap, IntKind.bits, IntKind.signed, Bool.false_and, Bool.false_eq_true, if_false]
  have e1 : (2 : Int) ^ 8 = 256 := by decide
  rw [e1]
  omega

attribute [go_sem] V_seq V_seqc V_reg V_cond V_block V_ret V_skip V_exit
attribute [go_sem 5000] condK_true condK_false
attribute [go_sem] condK_bool seqK_ite seqK_norm seqK_ret seqK_exit seqK_pan blockK_norm blockK_ret blockK_pan blockK_exit blockK_ite fnEnd_ite fnEnd_ret' fnEnd_norm' loopK_norm loopK_ret loopK_exit loopK_ite
attribute [go_sem] evOps_nil evOps_cons thenR_ok thenR_ite stepR evOp wanted St.put St.x St.tk St.tkc PV.cp PV.toD okPut List.getD_cons_zero List.getD_cons_succ List.set_cons_zero List.set_cons_succ Option.bind_some Option.map_some X.self binD intD killAll List.map_cons List.map_nil St.load cellTake cellsAgg elemD partD lenOp Bool.false_eq_true addrOff List.getElem?_cons_zero List.getElem?_cons_succ drawEnd regEnd St.head St.head.go
theorem getD8 {x0 x1 x2 x3 x4 x5 x6 x7 : PV} {l : List PV} {n : Nat} {d : PV} : (x0 :: x1 :: x2 :: x3 :: x4 :: x5 :: x6 :: x7 :: l).getD (n + 8) d = l.getD n d := rfl
theorem set8 {x0 x1 x2 x3 x4 x5 x6 x7 : PV} {l : List PV} {n : Nat} {v : PV} : (x0 :: x1 :: x2 :: x3 :: x4 :: x5 :: x6 :: x7 :: l).set (n + 8) v = x0 :: x1 :: x2 :: x3 :: x4 :: x5 :: x6 :: x7 :: l.set n v := rfl
attribute [go_sem 5000] getD8 set8
/-- what follows, under a name: a walk by simp does not visit it till a state meets it -/
def hold (f : Unit → RCode) : RCode := f ()
theorem V_hold {cf : CF} {f : Unit → RCode} {s : St} : V cf (hold f) s = V cf (f ()) s := rfl
attribute [go_sem] V_hold
theorem demote_own (e : Nat) (xs : List D) : (PV.own e xs).demote = .d (.sl xs) := rfl
theorem demote_nil : PV.nilsl.demote = .d (.sl []) := rfl
theorem demote_d (x : D) : (PV.d x).demote = .d x := rfl
theorem demote_tup (vs : List PV) : (PV.tup vs).demote = .tup vs := rfl
theorem demote_ptr (i o : Nat) : (PV.ptr i o).demote = .ptr i o := rfl
theorem demote_fn (f : Nat) (cs : List PV) : (PV.fn f cs).demote = .fn f cs := rfl
theorem demote_full (xs : List D) : (PV.full xs).demote = .full xs := rfl
theorem demote_eptr (x : D) (o : Nat) : (PV.eptr x o).demote = .eptr x o := rfl
attribute [go_sem] demote_own demote_nil demote_d demote_tup demote_ptr demote_fn demote_full demote_eptr
attribute [go_sem] elV
attribute [go_sem] retOf results resOf PV.flat optAll_nil optAll_some fillD setDs sliceOp optInt boundsOk appOp rowOk PV.one St.store storeIn setCells minMax minMaxs unD convD extV
theorem beq_ft : (false == true) = false := rfl
theorem beq_tf : (true == false) = false := rfl
theorem beq_tt : (true == true) = true := rfl
theorem beq_ff : (false == false) = true := rfl
attribute [go_sem] beq_ft beq_tf beq_tt beq_ff
attribute [go_sem] if_true if_false ite_true ite_false reduceIte Bool.not_true Bool.not_false decide_true decide_false beq_self_eq_true Bool.and_true Bool.true_and Bool.and_false Bool.false_and Bool.and_eq_true
attribute [go_sem] List.cons_append List.nil_append List.length_cons List.length_nil List.drop_zero List.drop_succ_cons List.take_succ_cons List.take_zero List.all_cons List.all_nil

end Go.Pe

namespace Go.Pe
/-! ### the program's values, typed -/
abbrev iv (n : Int) : D := .int .i64 n

inductive Val where
  | mk (kind coef scale : Int) (str : ByteArray) (items : List Val) (keys : List ByteArray)

mutual
def Val.enc : Val → D
  | .mk k c s t xs ks => .agg [iv k, iv c, iv s, .str t, .sl (Val.encs xs), .sl (ks.map .str)]
def Val.encs : List Val → List D
  | [] => []
  | v :: r => v.enc :: Val.encs r
end
theorem encs_get : ∀ (xs : List Val) (i : Nat), (Val.encs xs)[i]? = xs[i]?.map Val.enc
  | [], i => rfl
  | v :: xs, 0 => by simp [Val.encs]
  | v :: xs, i + 1 => by simp [Val.encs, encs_get xs i]
theorem encs_len : ∀ (xs : List Val), (Val.encs xs).length = xs.length
  | [] => rfl
  | v :: xs => by simp [Val.encs, encs_len xs]
theorem enc_w (v : Val) : v.enc.width = 6 := by cases v; rfl
theorem enc_a (v : Val) : v.enc.isAgg = true := by cases v; rfl

def i64 (n : Int) : Prop := -9223372036854775808 ≤ n ∧ n ≤ 9223372036854775807

mutual
/-- a value as it may come in -/
def Val.ok : Val → Prop
  | .mk k c s t xs ks => i64 k ∧ i64 c ∧ i64 s ∧ t.size ≤ maxLen ∧ xs.length ≤ maxLen ∧ ks.length ≤ maxLen ∧ (∀ x ∈ ks, x.size ≤ maxLen) ∧ Val.oks xs
def Val.oks : List Val → Prop
  | [] => True
  | v :: r => v.ok ∧ Val.oks r
end
theorem oks_mem : ∀ {xs : List Val} {v : Val}, Val.oks xs → v ∈ xs → v.ok
  | x :: xs, v, h, hv => by
    rcases List.mem_cons.1 hv with rfl | hv
    · exact h.1
    · exact oks_mem h.2 hv
theorem strD_neq (x y : ByteArray) : strD .neq x y = some (.bool !(x.toList == y.toList)) := rfl
theorem strD_eql (x y : ByteArray) : strD .eql x y = some (.bool (x.toList == y.toList)) := rfl
theorem eqD_num (c s c' s' : Int) : eqD (.st [(0, 1, .i), (1, 1, .i)]) (.agg [iv c, iv s]) (.agg [iv c', iv s']) = some (c == c' && s == s') := by
  have e : eqD (.st [(0, 1, .i), (1, 1, .i)]) (.agg [iv c, iv s]) (.agg [iv c', iv s']) = (match some (c == c') with | some true => (match some (s == s') with | some true => some true | some false => some false | none => none) | some false => some false | none => none) := rfl
  rw [e]
  cases c == c' <;> cases s == s' <;> rfl
end Go.Pe

namespace Go.Pe
/-! ### arguments, typed -/
section
variable {H : Type} {P : Program}

theorem lift_int {t : TypeId} {d : DataW H} {xs : List D} (h : P.underlying t = some (.int .i64)) (hl : Lift P t d xs) : ∃ n, xs = [iv n] ∧ i64 n := by
  cases hl with
  | int k n h1 h2 =>
    rw [h] at h1
    simp only [Option.some.injEq, TypeDesc.int.injEq] at h1
    subst h1
    refine ⟨n, rfl, ?_⟩
    simp only [Lit.wf, Bool.and_eq_true, decide_eq_true_eq] at h2
    exact h2
  | _ => simp_all

theorem lift_bool {t : TypeId} {d : DataW H} {xs : List D} (h : P.underlying t = some .bool) (hl : Lift P t d xs) : ∃ b, xs = [.bool b] := by
  cases hl with
  | bool b h1 => exact ⟨b, rfl⟩
  | _ => simp_all

theorem lift_str {t : TypeId} {d : DataW H} {xs : List D} (h : P.underlying t = some .string) (hl : Lift P t d xs) : ∃ s, xs = [.str s] ∧ s.size ≤ maxLen := by
  cases hl with
  | str s h1 h2 => exact ⟨s, rfl, h2⟩
  | _ => simp_all

theorem lift_sl {t e : TypeId} {d : DataW H} {xs : List D} (h : P.underlying t = some (.slice e)) (hl : Lift P t d xs) :
    ∃ ys, xs = [.sl ys] ∧ ys.length ≤ maxLen ∧ ∀ y ∈ ys, y.isAgg = aggT P e ∧ ∃ d' : DataW H, Lift P e d' y.cells := by
  cases hl with
  | sl0 e' h1 => exact ⟨[], rfl, by simp, by simp⟩
  | sl e' ds spare ys h1 h2 h3 h4 h5 =>
    rw [h] at h1
    simp only [Option.some.injEq, TypeDesc.slice.injEq] at h1
    subst h1
    refine ⟨ys, rfl, h3, ?_⟩
    intro y hy
    obtain ⟨i, hi⟩ := List.getElem?_of_mem hy
    refine ⟨h4 i y hi, ?_⟩
    have hlt : i < ds.length := by
      have := (List.getElem?_eq_some_iff.1 hi).1
      omega
    exact ⟨ds[i], h5 i y _ hi (List.getElem?_eq_getElem hlt)⟩
  | _ => simp_all

theorem lift_st {t : TypeId} {fs : Array Field} {d : DataW H} {xs : List D} (h : P.underlying t = some (.struct fs)) (hl : Lift P t d xs) :
    ∃ ds : List (DataW H), Lifts P (fs.toList.map (·.type)) ds xs := by
  cases hl with
  | st fs' ds cs h1 h2 =>
    rw [h] at h1
    simp only [Option.some.injEq, TypeDesc.struct.injEq] at h1
    subst h1
    exact ⟨ds, h2⟩
  | _ => simp_all

theorem lifts_nil {ds : List (DataW H)} {xs : List D} (h : Lifts P [] ds xs) : xs = [] := by
  cases h; rfl
theorem lifts_cons {t : TypeId} {ts : List TypeId} {ds : List (DataW H)} {xs : List D} (h : Lifts P (t :: ts) ds xs) :
    ∃ (d : DataW H) (ds' : List (DataW H)) (a b : List D), xs = a ++ b ∧ Lift P t d a ∧ Lifts P ts ds' b := by
  cases h with
  | cons h1 h2 => exact ⟨_, _, _, _, rfl, h1, h2⟩

theorem agg_cells {y : D} (h : y.isAgg = true) : y = .agg y.cells := by
  cases y <;> simp [D.isAgg] at h
  rfl
theorem cell_cells {y x : D} (h : y.isAgg = false) (e : y.cells = [x]) : y = x := by
  cases y <;> simp [D.isAgg] at h <;> simpa [D.cells] using e

theorem lift_strs {t e : TypeId} {d : DataW H} {xs : List D} (h : P.underlying t = some (.slice e)) (he : P.underlying e = some .string) (hl : Lift P t d xs) :
    ∃ ks : List ByteArray, xs = [.sl (ks.map .str)] ∧ ks.length ≤ maxLen ∧ ∀ x ∈ ks, x.size ≤ maxLen := by
  obtain ⟨ys, rfl, h1, h2⟩ := lift_sl h hl
  have hagg : aggT P e = false := by simp [aggT, he]
  have key : ∀ ys : List D, (∀ y ∈ ys, y.isAgg = aggT P e ∧ ∃ d' : DataW H, Lift P e d' y.cells) → ∃ ks : List ByteArray, ys = ks.map .str ∧ ∀ x ∈ ks, x.size ≤ maxLen := by
    intro ys
    induction ys with
    | nil => exact fun _ => ⟨[], rfl, by simp⟩
    | cons y ys ih =>
      intro h
      obtain ⟨ks, rfl, k2⟩ := ih fun y hy => h y (by simp [hy])
      obtain ⟨h3, d', h4⟩ := h y (by simp)
      obtain ⟨s, h5, h6⟩ := lift_str he h4
      have := cell_cells (by rw [h3, hagg]) h5
      subst this
      exact ⟨s :: ks, rfl, by simpa using ⟨h6, k2⟩⟩
  obtain ⟨ks, rfl, k2⟩ := key ys h2
  exact ⟨ks, rfl, by simpa using h1, k2⟩

/-- how the seat's types stand -/
structure ValT (P : Program) (tV : TypeId) : Prop where
  is : ∃ (fV fN : Array Field) (tK tN tS tX tT tC tE tEs : TypeId), P.underlying tV = some (.struct fV) ∧ fV.toList.map (·.type) = [tK, tN, tS, tX, tT] ∧ P.underlying tK = some (.int .i64) ∧
    P.underlying tN = some (.struct fN) ∧ fN.toList.map (·.type) = [tC, tE] ∧ P.underlying tC = some (.int .i64) ∧ P.underlying tE = some (.int .i64) ∧
    P.underlying tS = some .string ∧ P.underlying tX = some (.slice tV) ∧ P.underlying tT = some (.slice tEs) ∧ P.underlying tEs = some .string

theorem lift_val {tV : TypeId} (hT : ValT P tV) : ∀ (n : Nat) (d : DataW H) (xs : List D), SizeOf.sizeOf xs ≤ n → Lift P tV d xs → ∃ v : Val, v.ok ∧ D.agg xs = v.enc
  | 0, d, xs, hn, h => by cases xs <;> simp at hn
  | n + 1, d, xs, hn, h => by
    obtain ⟨fV, fN, tK, tN, tS, tX, tT, tC, tE, tEs, e1, e2, e3, e4, e5, e6, e7, e8, e9, e10, e11⟩ := hT.is
    have hagg : aggT P tV = true := by simp [aggT, e1]
    obtain ⟨ds, l0⟩ := lift_st e1 h
    rw [e2] at l0
    obtain ⟨_, _, a1, b1, rfl, m1, l1⟩ := lifts_cons l0
    obtain ⟨_, _, a2, b2, rfl, m2, l2⟩ := lifts_cons l1
    obtain ⟨_, _, a3, b3, rfl, m3, l3⟩ := lifts_cons l2
    obtain ⟨_, _, a4, b4, rfl, m4, l4⟩ := lifts_cons l3
    obtain ⟨_, _, a5, b5, rfl, m5, l5⟩ := lifts_cons l4
    obtain rfl := lifts_nil l5
    obtain ⟨k, rfl, k1⟩ := lift_int e3 m1
    obtain ⟨_, q0⟩ := lift_st e4 m2
    rw [e5] at q0
    obtain ⟨_, _, c1, c2, rfl, n1, q1⟩ := lifts_cons q0
    obtain ⟨_, _, c3, c4, rfl, n2, q2⟩ := lifts_cons q1
    obtain rfl := lifts_nil q2
    obtain ⟨c, rfl, k2⟩ := lift_int e6 n1
    obtain ⟨s, rfl, k3⟩ := lift_int e7 n2
    obtain ⟨t, rfl, k4⟩ := lift_str e8 m3
    obtain ⟨ys, rfl, k5, k6⟩ := lift_sl e9 m4
    obtain ⟨ks, rfl, k7, k8⟩ := lift_strs e10 e11 m5
    have key : ∀ zs : List D, (∀ y ∈ zs, y ∈ ys) → ∃ vs : List Val, Val.oks vs ∧ zs = Val.encs vs := by
      intro zs
      induction zs with
      | nil => exact fun _ => ⟨[], trivial, rfl⟩
      | cons y zs ih =>
        intro hz
        obtain ⟨vs, v1, v2⟩ := ih fun y hy => hz y (by simp [hy])
        obtain ⟨g1, d', g2⟩ := k6 y (hz y (by simp))
        have g3 := agg_cells (y := y) (by rw [g1, hagg])
        have hsz : SizeOf.sizeOf y.cells ≤ n := by
          have s1 : SizeOf.sizeOf y < SizeOf.sizeOf ys := List.sizeOf_lt_of_mem (hz y (by simp))
          rw [g3] at s1
          simp at hn s1
          omega
        obtain ⟨v, w1, w2⟩ := lift_val hT n d' y.cells hsz g2
        exact ⟨v :: vs, ⟨w1, v1⟩, by rw [Val.encs, ← w2, ← g3, ← v2]⟩
    obtain ⟨vs, v1, v2⟩ := key ys (fun _ h => h)
    subst v2
    refine ⟨.mk k c s t vs ks, ?_, by simp [Val.enc]⟩
    simp only [Val.ok]
    exact ⟨k1, k2, k3, k4, by rw [encs_len] at k5; exact k5, k7, k8, v1⟩

theorem lift_val' {tV : TypeId} (hT : ValT P tV) {d : DataW H} {x : D} (h : Lift P tV d x.cells) (ha : x.isAgg = aggT P tV) : ∃ v : Val, v.ok ∧ x = v.enc := by
  obtain ⟨fV, _, _, _, _, _, _, _, _, _, e1, _⟩ := hT.is
  have hagg : aggT P tV = true := by simp [aggT, e1]
  obtain ⟨v, h1, h2⟩ := lift_val hT _ d x.cells (Nat.le_refl _) h
  exact ⟨v, h1, by rw [← h2]; exact agg_cells (by rw [ha, hagg])⟩

theorem lift_vals {t tV : TypeId} (hT : ValT P tV) (ht : P.underlying t = some (.slice tV)) {d : DataW H} {x : D} (h : Lift P t d x.cells) (ha : x.isAgg = aggT P t) : ∃ vs : List Val, Val.oks vs ∧ vs.length ≤ maxLen ∧ x = .sl (Val.encs vs) := by
  obtain ⟨ys, h1, h2, h3⟩ := lift_sl ht h
  have hx := cell_cells (by rw [ha]; simp [aggT, ht]) h1
  subst hx
  have key : ∀ zs : List D, (∀ y ∈ zs, y ∈ ys) → ∃ vs : List Val, Val.oks vs ∧ zs = Val.encs vs := by
    intro zs
    induction zs with
    | nil => exact fun _ => ⟨[], trivial, rfl⟩
    | cons y zs ih =>
      intro hz
      obtain ⟨vs, v1, v2⟩ := ih fun y hy => hz y (by simp [hy])
      obtain ⟨g1, d', g2⟩ := h3 y (hz y (by simp))
      obtain ⟨v, w1, w2⟩ := lift_val' hT g2 g1
      exact ⟨v :: vs, ⟨w1, v1⟩, by rw [Val.encs, ← w2, ← v2]⟩
  obtain ⟨vs, v1, v2⟩ := key ys (fun _ h => h)
  subst v2
  exact ⟨vs, v1, by rw [encs_len] at h2; exact h2, rfl⟩

theorem liftArgs_nil {ds : List (DataW H)} {xs : List D} (h : LiftArgs P [] ds xs) : xs = [] := by
  match ds, xs, h with
  | [], [], _ => rfl
theorem liftArgs_cons {t : TypeId} {ts : List TypeId} {ds : List (DataW H)} {xs : List D} (h : LiftArgs P (t :: ts) ds xs) :
    ∃ (d : DataW H) (ds' : List (DataW H)) (x : D) (xs' : List D), xs = x :: xs' ∧ Lift P t d x.cells ∧ x.isAgg = aggT P t ∧ LiftArgs P ts ds' xs' := by
  match ds, xs, h with
  | d :: ds, x :: xs, h => exact ⟨d, ds, x, xs, rfl, h.1.1, h.1.2, h.2⟩

/-- how a number's types stand -/
structure NumT (P : Program) (tN : TypeId) : Prop where
  is : ∃ (fN : Array Field) (tC tE : TypeId), P.underlying tN = some (.struct fN) ∧ fN.toList.map (·.type) = [tC, tE] ∧ P.underlying tC = some (.int .i64) ∧ P.underlying tE = some (.int .i64)

theorem lift_num {tN : TypeId} (hT : NumT P tN) {d : DataW H} {x : D} (h : Lift P tN d x.cells) (ha : x.isAgg = aggT P tN) : ∃ c s : Int, (i64 c ∧ i64 s) ∧ x = .agg [iv c, iv s] := by
  obtain ⟨fN, tC, tE, e4, e5, e6, e7⟩ := hT.is
  have hagg : aggT P tN = true := by simp [aggT, e4]
  obtain ⟨_, q0⟩ := lift_st e4 h
  rw [e5] at q0
  obtain ⟨_, _, c1, c2, q, n1, q1⟩ := lifts_cons q0
  obtain ⟨_, _, c3, c4, rfl, n2, q2⟩ := lifts_cons q1
  obtain rfl := lifts_nil q2
  obtain ⟨c, rfl, k2⟩ := lift_int e6 n1
  obtain ⟨s, rfl, k3⟩ := lift_int e7 n2
  exact ⟨c, s, ⟨k2, k3⟩, by rw [agg_cells (y := x) (by rw [ha, hagg]), q]; rfl⟩

theorem lift_s {t : TypeId} (ht : P.underlying t = some .string) {d : DataW H} {x : D} (h : Lift P t d x.cells) (ha : x.isAgg = aggT P t) : ∃ s : ByteArray, s.size ≤ maxLen ∧ x = .str s := by
  obtain ⟨s, h1, h2⟩ := lift_str ht h
  exact ⟨s, h2, cell_cells (by rw [ha]; simp [aggT, ht]) h1⟩
end
end Go.Pe

namespace Go.Pe
/-! ### slices.Clone: it asks whether a slice is nil -/
section
variable {P : Program} {g : G} {w : World}

def cf0 : CF := fun _ _ _ => none
theorem cf0_sound : CFSound P cf0 := ⟨fun f args hp out h => by simp [cf0] at h, fun f args hp out h => by simp [cf0] at h⟩
theorem cf0_nice {pf : Nat → Bool} : CFNice pf cf0 := ⟨fun f args hp v hp' h => by simp [cf0] at h, fun f _ args hp v hp' h => by simp [cf0] at h⟩

def clA : RCode := .reg [⟨some 2, none, .mv false (.c .nilsl)⟩] [] false
def clC (e : Nat) : RCode := .seq clA (.ret [.kill, .kill, .norm e])
def clD (e sz bytes : Nat) : RCode := .seq (.reg [⟨some 5, none, .bsl e sz []⟩, ⟨some 6, none, .mv false (.t 0)⟩, ⟨some 7, none, .app e sz bytes (.t 5) (.t 6)⟩, ⟨some 2, none, .mv true (.t 7)⟩] [] false) (.ret [.kill, .kill, .keep])

def clOps (t : TypeId) : List Oper → Bool
  | [o1, o2] => o1.dst == some 3 && o2.dst == some 4 && o1.guard.isNone && o2.guard.isNone && (match o1.op with | .move (.tmp 0) => true | _ => false) &&
      (match o2.op with | .binOp .eql t' (.tmp 3) (.const (.slice none 0 0)) _ => t' == t | _ => false)
  | _ => false

def cloneOk (P : Program) (f : Nat) (t e sz bytes : Nat) : Bool :=
  match P.funcs[f]? with
  | some fn => fn.ntmps == 8 && (fn.name != "runtime.NumGoroutine") && resOk P fn.results.toList [.t 2] && (match P.underlying t with | some (.slice _) => true | _ => false) &&
    (match fn.body with
    | some (.seq c0 (.seq (.seq (.region _ ops false) (.cond (.tmp 4) c2 .skip)) c3)) => codeOk P (fun _ => false) c0 clA && clOps t ops.toList && codeOk P (fun _ => false) c2 (clC e) && codeOk P (fun _ => false) c3 (clD e sz bytes)
    | _ => false)
  | none => false

def cloneP (e sz bytes : Nat) : List PV → Option PV
  | [.d (.sl xs)] => if rowOk sz bytes [] xs then some (.own e xs) else none
  | [.nilsl] => some (.own e [])
  | _ => none

theorem nil_of {S : Nat → Nat → Prop} {xs : List D} {n cap : Nat} (h : DRep S w (.sl xs) (.slice none n cap)) : xs = [] := by
  cases h; rfl

theorem clone_run {f t e sz bytes : Nat} (hk : cloneOk P f t e sz bytes = true) {xs : List D} (hr : rowOk sz bytes [] xs = true) {g : G} {w : World} {v : Value} (hv : DRep g.stab w (.sl xs) v) :
    Calls P f #[v] w fun en w' => ∃ u g', en = .returned u ∧ Chg (fun _ => False) g w g' w' ∧ g'.nb = g.nb ∧ RepR P g' w' (.own e xs) u := by
  unfold cloneOk at hk
  split at hk
  · rename_i fn hf
    simp only [Bool.and_eq_true, beq_iff_eq] at hk
    obtain ⟨⟨⟨⟨hnt, _⟩, hres⟩, hun⟩, hbody⟩ := hk
    split at hbody
    · rename_i c0 i1 ops c2 c3 hc
      simp only [Bool.and_eq_true] at hbody
      obtain ⟨⟨⟨k0, k1⟩, k2⟩, k3⟩ := hbody
      unfold clOps at k1
      split at k1
      · rename_i o1 o2 hops
        simp only [Bool.and_eq_true, beq_iff_eq, Option.isNone_iff_eq_none] at k1
        obtain ⟨⟨⟨⟨⟨d1, d2⟩, g1⟩, g2⟩, m1⟩, m2⟩ := k1
        split at m1
        · rename_i p1
          split at m2
          · rename_i t' _ p2
            simp only [beq_iff_eq] at m2
            subst m2
            split at hun
            · rename_i et hun2
              obtain ⟨ad, cap, rfl, hcap⟩ := hv.sl_inv
              refine calls_of_wp hf hc ?_
              rw [hnt]
              have hargs : RepFs P g.bare w (.ret 0) [.d (.sl xs)] [.slice ad xs.length cap] :=
                RepFs.bare (l := .ret 0) (ps := [.d (.sl xs)]) rfl rfl (by simp only [RepFs, RepF, and_true]; exact hv)
              have hI := Inv.enter (P := P) (w := w) (g := g.bare) (hp := []) (l := .ret 0) (args := [.d (.sl xs)]) rfl hargs ⟨rfl, by simp⟩ 8
              have retcase : ∀ (s' : St) (q : PV), Pe.results s' [.t 2] = some q → q.flat = true → (∀ g u, RepR P g w q u → True) → (q = .own e xs ∨ (q = .nilsl ∧ xs = [])) →
                  ∀ g' w' a', Inv P g' w' a' s' → Chg Mine g.bare w g' w' → a'.defers = [] → bodyPost P fn (fun en w' => ∃ u g', en = .returned u ∧ Chg (fun _ => False) g w g' w' ∧ g'.nb = g.nb ∧ RepR P g' w' (.own e xs) u) .ret a' w' := by
                intro s' q hq hfl _ hqq g' w' a' hI' hc' hdf
                obtain ⟨u, g1, r1, r2, r3, r4⟩ := results_ok hI' hres (by simp) hq
                refine ⟨hdf, u, r1, u, g1.dress g, rfl, (hc'.trans r2).dress, rfl, ?_⟩
                have r5 := RepR.dress (g := g) hfl r3
                rcases hqq with rfl | ⟨rfl, rfl⟩
                · exact r5
                · have : u = .slice none 0 0 := by simpa only [RepR, RepF] using r5
                  subst this
                  simp only [RepR, RepF]
                  exact ⟨[], World.ownsRow_nil _ _ _ _, Flat.nil _ _ _, by simp [Value.ownBlock]⟩
              refine wp_seq (code_sound cf0_sound (pf := fun _ => false) cf0_nice 0 c0 clA k0 (s' := ⟨[.d (.sl xs), .dead, .nilsl, .dead, .dead, .dead, .dead, .dead], []⟩) (ex := .norm) rfl hI ?_)
              intro gA wA aA hIA hcA hdA
              refine wp_seq (wp_seq (wp_region ?_))
              have hoa : ops = #[o1, o2] := by apply Array.toList_inj.1; rw [hops]
              subst hoa
              have hrg : List.range (#[o1, o2] : Array Oper).size = [0, 1] := rfl
              rw [hrg]
              simp only [wpOps]
              have w1 : ∀ y, Region.wanted o1 y = true := fun y => by simp [Region.wanted, g1]
              have w2 : ∀ y, Region.wanted o2 y = true := fun y => by simp [Region.wanted, g2]
              have e1 : (#[o1, o2] : Array Oper)[0]? = some o1 := rfl
              have e2 : (#[o1, o2] : Array Oper)[1]? = some o2 := rfl
              simp only [e1, e2, w1, w2, if_true]
              refine .inl ((op_mv (m := false) (x' := .t 0) hIA (.inl p1) rfl (s1 := ⟨[.d (.sl xs), .dead, .nilsl, .dead, .dead, .dead, .dead, .dead], []⟩) (v := .d (.sl xs)) rfl d1 (s' := ⟨[.d (.sl xs), .dead, .nilsl, .d (.sl xs), .dead, .dead, .dead, .dead], []⟩) (by rw [d1]; rfl)).wp ?_)
              intro gB wB aB hIB hcB hdB
              have hAB := hcA.trans hcB
              have hdAB := hdB.trans hdA
              obtain ⟨ad2, cap2, hva, _⟩ := (x_toD hIB (x := .tmp 3) (y := .t 3) rfl (d := .sl xs) rfl).sl_inv
              have hv2 := x_toD hIB (x := .tmp 3) (y := .t 3) rfl (d := .sl xs) rfl
              rw [hva] at hv2
              have hq : ∀ y, (eqGuard .eql t' (.tmp 3) y (.slice ad2 xs.length cap2) (.slice none 0 0)).run P wB = .ok () wB := fun y => by unfold eqGuard; rfl
              have hex : (execOp aB.eval o2).run P wB = .ok (.value (.bool ad2.isNone)) wB := by
                have e4 : aB.eval (.const (.slice none 0 0)) = .slice none 0 0 := rfl
                unfold execOp
                simp only [p2, hva, e4, Sem.run_bind, hq, Result.andThen_ok, Sem.run_pure, Lib.run_eql_slice_nil wB _ _ _ _ _ _ _ hun2]
              refine .inl ((OpRes.value (l := .ret 0) hIB hex (v := .d (.bool ad2.isNone)) (s' := ⟨[.d (.sl xs), .dead, .nilsl, .d (.sl xs), .d (.bool ad2.isNone), .dead, .dead, .dead], []⟩) (by rw [d2]; rfl) rfl (by simp only [RepF]; exact .bool _)).wp ?_)
              intro gC wC aC hIC hcC hdC
              have hAC := hAB.trans hcC
              have hdAC := hdC.trans hdAB
              have hcv : aC.eval (.tmp 4) = .bool ad2.isNone := by
                have := (x_toD hIC (x := .tmp 4) (y := .t 4) rfl (d := .bool ad2.isNone) rfl)
                exact this.bool_inv
              cases ad2 with
              | none =>
                obtain rfl := nil_of hv2
                refine wp_cond_true hcv (code_sound cf0_sound (pf := fun _ => false) cf0_nice 0 c2 (clC e) k2 (s' := ⟨[.dead, .dead, .own e [], .dead, .dead, .dead, .dead, .dead], []⟩) (ex := .ret) rfl hIC ?_)
                intro g' w' a' hI' hc' hd'
                exact retcase _ (.own e []) rfl rfl (fun _ _ _ => trivial) (.inl rfl) g' w' a' hI' (hAC.trans hc') (hd'.trans hdAC)
              | some ad3 =>
                refine wp_cond_false hcv (wp_skip ?_)
                refine code_sound cf0_sound (pf := fun _ => false) cf0_nice 0 c3 (clD e sz bytes) k3 (s' := ⟨[.dead, .dead, .own e xs, .dead, .dead, .dead, .dead, .dead], []⟩) (ex := .ret) ?_ hIC ?_
                · have ha : ∀ s : St, s.tm.getD 5 .dead = .own e [] → s.tm.getD 6 .dead = .d (.sl xs) → appOp s e sz bytes (.t 5) (.t 6) = some (.own e xs, { s with tm := s.tm.set 5 .dead }) := by
                    intro s h1 h2
                    simp only [appOp, St.x, h1, h2, PV.toD, if_true, hr, List.nil_append]
                  have hb : ∀ s : St, evOp cf0 (some 7) (.app e sz bytes (.t 5) (.t 6)) s = (appOp s e sz bytes (.t 5) (.t 6)).bind fun (v, s) => okPut s (some 7) v := fun _ => rfl
                  unfold clD
                  simp only [Option.isNone_some]
                  rw [show evCode cf0 0 (.seq (.reg [⟨some 5, none, .bsl e sz []⟩, ⟨some 6, none, .mv false (.t 0)⟩, ⟨some 7, none, .app e sz bytes (.t 5) (.t 6)⟩, ⟨some 2, none, .mv true (.t 7)⟩] [] false) (.ret [.kill, .kill, .keep])) ⟨[.d (.sl xs), .dead, .nilsl, .d (.sl xs), .d (.bool false), .dead, .dead, .dead], []⟩ =
                    (match ((match (appOp ⟨[.d (.sl xs), .dead, .nilsl, .d (.sl xs), .d (.bool false), .own e [], .d (.sl xs), .dead], []⟩ e sz bytes (.t 5) (.t 6)).bind fun (v, s) => okPut s (some 7) v with
                      | some (.ok s') => evOps cf0 [⟨some 2, none, .mv true (.t 7)⟩] s'
                      | x => x).bind (drawEnd false)).map (regEnd ⟨[.d (.sl xs), .dead, .nilsl, .d (.sl xs), .d (.bool false), .dead, .dead, .dead], []⟩ []) with
                    | some (.norm, s') => evCode cf0 0 (.ret [.kill, .kill, .keep]) s'
                    | r => r) from rfl]
                  rw [ha _ rfl rfl]
                  rfl
                intro g' w' a' hI' hc' hd'
                exact retcase _ (.own e xs) rfl rfl (fun _ _ _ => trivial) (.inl rfl) g' w' a' hI' (hAC.trans hc') (hd'.trans hdAC)
            · simp at hun
          · simp at m2
        · simp at m1
      · simp at k1
    · simp at hbody
  · simp at hk

theorem clone_ent {f t e sz bytes : Nat} (hk : cloneOk P f t e sz bytes = true) : entered P f = true := by
  unfold cloneOk at hk
  unfold entered
  split at hk
  · rename_i fn hf
    rw [hf]
    simp only [Bool.and_eq_true, beq_iff_eq] at hk ⊢
    obtain ⟨⟨⟨⟨hnt, h2⟩, hres⟩, hun⟩, hbody⟩ := hk
    split at hbody
    · rename_i c0 i1 ops c2 c3 hc
      exact ⟨by rw [hc]; rfl, h2⟩
    · simp at hbody
  · simp at hk

theorem clone_prim {f t e sz bytes : Nat} (hk : cloneOk P f t e sz bytes = true) : PrimSound P f (cloneP e sz bytes) where
  ent := clone_ent hk
  calls := by
    intro args v hv hfl hpl g w vals l ha
    unfold cloneP at hv
    split at hv
    · rename_i xs
      split at hv
      · rename_i hr
        simp only [Option.some.injEq] at hv
        subst hv
        match vals, ha with
        | [u], ha =>
          simp only [RepFs, RepF, and_true] at ha
          exact clone_run hk hr ha
      · simp at hv
    · simp only [Option.some.injEq] at hv
      subst hv
      match vals, ha with
      | [u], ha =>
        simp only [RepFs, RepF, and_true] at ha
        subst ha
        refine clone_run hk (xs := []) ?_ (.sl0 none 0)
        simp [rowOk, maxRow]
    · simp at hv
end
end Go.Pe

namespace Go.Pe
/-! ### slices.Clone, the row in a box of the store -/
section
variable {P : Program} {g : G} {w : World}

def clE (e sz bytes : Nat) : RCode := .seq (.reg [⟨some 5, none, .bsl e sz []⟩, ⟨some 6, none, .mv false (.t 0)⟩, ⟨some 7, none, .apr e sz bytes (.t 5) (.t 6)⟩, ⟨some 2, none, .mv false (.t 7)⟩] [] false) (.ret [.kill, .kill, .keep])

def cloneMk (P : Program) (f : Nat) (t e sz bytes : Nat) : Bool :=
  match P.funcs[f]? with
  | some fn => fn.ntmps == 8 && (fn.name != "runtime.NumGoroutine") && resOk P fn.results.toList [.t 2] && (match P.underlying t with | some (.slice _) => true | _ => false) &&
    (match fn.body with
    | some (.seq c0 (.seq (.seq (.region _ ops false) (.cond (.tmp 4) c2 .skip)) c3)) => codeOk P (fun _ => false) c0 clA && clOps t ops.toList && codeOk P (fun _ => false) c2 (clC e) && codeOk P (fun _ => false) c3 (clE e sz bytes)
    | _ => false)
  | none => false

def cloneM (sz bytes : Nat) : List PV → Option (List D)
  | [.d (.sl xs)] => if rowOk sz bytes [] xs then some xs else none
  | _ => none

theorem cloneM_run {f t e sz bytes : Nat} (hk : cloneMk P f t e sz bytes = true) {xs : List D} (hr : rowOk sz bytes [] xs = true) {g : G} {w : World} {v : Value} (hv : DRep g.stab w (.sl xs) v) {hp : List Ent} (hH : HeapInv P g w hp) :
    Calls P f #[v] w (CallPost P g w (.ret (.rowh hp.length 0 xs.length) (hp ++ [rowEnt xs]))) := by
  unfold cloneMk at hk
  split at hk
  · rename_i fn hf
    simp only [Bool.and_eq_true, beq_iff_eq] at hk
    obtain ⟨⟨⟨⟨hnt, _⟩, hres⟩, hun⟩, hbody⟩ := hk
    split at hbody
    · rename_i c0 i1 ops c2 c3 hc
      simp only [Bool.and_eq_true] at hbody
      obtain ⟨⟨⟨k0, k1⟩, k2⟩, k3⟩ := hbody
      unfold clOps at k1
      split at k1
      · rename_i o1 o2 hops
        simp only [Bool.and_eq_true, beq_iff_eq, Option.isNone_iff_eq_none] at k1
        obtain ⟨⟨⟨⟨⟨d1, d2⟩, g1⟩, g2⟩, m1⟩, m2⟩ := k1
        split at m1
        · rename_i p1
          split at m2
          · rename_i t' _ p2
            simp only [beq_iff_eq] at m2
            subst m2
            split at hun
            · rename_i et hun2
              obtain ⟨ad, cap, rfl, hcap⟩ := hv.sl_inv
              refine calls_of_wp hf hc ?_
              rw [hnt]
              have hargs : RepFs P g w (.ret 0) [.d (.sl xs)] [.slice ad xs.length cap] := by simp only [RepFs, RepF, and_true]; exact hv
              have hI := Inv.enter (P := P) (w := w) (g := g) (hp := hp) (l := .ret 0) (args := [.d (.sl xs)]) rfl hargs hH 8
              refine wp_seq (code_sound cf0_sound (pf := fun _ => false) cf0_nice 0 c0 clA k0 (s' := ⟨[.d (.sl xs), .dead, .nilsl, .dead, .dead, .dead, .dead, .dead], hp⟩) (ex := .norm) rfl hI ?_)
              intro gA wA aA hIA hcA hdA
              refine wp_seq (wp_seq (wp_region ?_))
              have hoa : ops = #[o1, o2] := by apply Array.toList_inj.1; rw [hops]
              subst hoa
              have hrg : List.range (#[o1, o2] : Array Oper).size = [0, 1] := rfl
              rw [hrg]
              simp only [wpOps]
              have w1 : ∀ y, Region.wanted o1 y = true := fun y => by simp [Region.wanted, g1]
              have w2 : ∀ y, Region.wanted o2 y = true := fun y => by simp [Region.wanted, g2]
              have e1 : (#[o1, o2] : Array Oper)[0]? = some o1 := rfl
              have e2 : (#[o1, o2] : Array Oper)[1]? = some o2 := rfl
              simp only [e1, e2, w1, w2, if_true]
              refine .inl ((op_mv (m := false) (x' := .t 0) hIA (.inl p1) rfl (s1 := ⟨[.d (.sl xs), .dead, .nilsl, .dead, .dead, .dead, .dead, .dead], hp⟩) (v := .d (.sl xs)) rfl d1 (s' := ⟨[.d (.sl xs), .dead, .nilsl, .d (.sl xs), .dead, .dead, .dead, .dead], hp⟩) (by rw [d1]; rfl)).wp ?_)
              intro gB wB aB hIB hcB hdB
              have hAB := hcA.trans hcB
              have hdAB := hdB.trans hdA
              obtain ⟨ad2, cap2, hva, _⟩ := (x_toD hIB (x := .tmp 3) (y := .t 3) rfl (d := .sl xs) rfl).sl_inv
              have hv2 := x_toD hIB (x := .tmp 3) (y := .t 3) rfl (d := .sl xs) rfl
              rw [hva] at hv2
              have hq : ∀ y, (eqGuard .eql t' (.tmp 3) y (.slice ad2 xs.length cap2) (.slice none 0 0)).run P wB = .ok () wB := fun y => by unfold eqGuard; rfl
              have hex : (execOp aB.eval o2).run P wB = .ok (.value (.bool ad2.isNone)) wB := by
                have e4 : aB.eval (.const (.slice none 0 0)) = .slice none 0 0 := rfl
                unfold execOp
                simp only [p2, hva, e4, Sem.run_bind, hq, Result.andThen_ok, Sem.run_pure, Lib.run_eql_slice_nil wB _ _ _ _ _ _ _ hun2]
              refine .inl ((OpRes.value (l := .ret 0) hIB hex (v := .d (.bool ad2.isNone)) (s' := ⟨[.d (.sl xs), .dead, .nilsl, .d (.sl xs), .d (.bool ad2.isNone), .dead, .dead, .dead], hp⟩) (by rw [d2]; rfl) rfl (by simp only [RepF]; exact .bool _)).wp ?_)
              intro gC wC aC hIC hcC hdC
              have hAC := hAB.trans hcC
              have hdAC := hdC.trans hdAB
              have hcv : aC.eval (.tmp 4) = .bool ad2.isNone := by
                have := (x_toD hIC (x := .tmp 4) (y := .t 4) rfl (d := .bool ad2.isNone) rfl)
                exact this.bool_inv
              cases ad2 with
              | none =>
                obtain rfl := nil_of hv2
                refine wp_cond_true hcv (code_sound cf0_sound (pf := fun _ => false) cf0_nice 0 c2 (clC e) k2 (s' := ⟨[.dead, .dead, .own e [], .dead, .dead, .dead, .dead, .dead], hp⟩) (ex := .ret) rfl hIC ?_)
                intro g' w' a' hI' hc' hd'
                obtain ⟨u, g1, r1, r2, r3, r4⟩ := results_ok hI' hres (by simp) (v := .own e []) rfl
                refine ⟨hd'.trans hdAC, u, r1, { g1 with nb := g1.nb + 1 }, ?_, u, rfl, ?_, ?_⟩
                · refine ((hAC.trans hc').trans r2).trans ⟨rfl, rfl, rfl, Nat.le_refl _, fun _ _ _ h k => ⟨h, k⟩, fun _ _ _ h _ => ⟨h, rfl, rfl⟩, fun _ _ h => ⟨h, rfl⟩, Nat.le_succ _, fun _ _ => rfl⟩
                · have r5 : RepF P g1 w' (.ret 0) (.own e []) u := r3
                  simp only [RepF] at r5
                  obtain ⟨us, q1, _⟩ := r5
                  have hnb : g1.nb = hp.length := r4.nb
                  show RepF P _ w' (.ret 0) (.rowh hp.length 0 0) u
                  simp only [RepF]
                  rcases q1.2 with ⟨hv, _⟩ | ⟨b, cap, cur, hv, _, _, hle, _⟩
                  · exact ⟨by rw [hnb]; exact Nat.lt_succ_self _, none, 0, hv, Nat.le_refl _, fun hf => absurd rfl hf⟩
                  · exact ⟨by rw [hnb]; exact Nat.lt_succ_self _, _, cap, hv, hle, fun hf => absurd rfl hf⟩
                · exact r4.push (g' := { g1 with nb := g1.nb + 1 }) (en := rowEnt []) (M := fun _ => False) ⟨rfl, rfl, rfl, Nat.le_refl _, fun _ _ _ h k => ⟨h, k⟩, fun _ _ _ h _ => ⟨h, rfl, rfl⟩, fun _ _ h => ⟨h, rfl⟩, Nat.le_succ _, fun _ _ => rfl⟩ (fun _ => ⟨fun hf => hf, fun _ hf => hf⟩) rfl trivial
              | some ad3 =>
                refine wp_cond_false hcv (wp_skip ?_)
                refine code_sound cf0_sound (pf := fun _ => false) cf0_nice 0 c3 (clE e sz bytes) k3 (s' := ⟨[.dead, .dead, .rowh hp.length 0 xs.length, .dead, .dead, .dead, .dead, .dead], hp ++ [rowEnt xs]⟩) (ex := .ret) ?_ hIC ?_
                · have ha : ∀ s : St, s.tm.getD 5 .dead = .own e [] → s.tm.getD 6 .dead = .d (.sl xs) → aprOp s e sz bytes (.t 5) (.t 6) = some (.rowh s.hp.length 0 xs.length, ⟨s.tm.set 5 .dead, s.hp ++ [rowEnt xs]⟩) := by
                    intro s h1 h2
                    simp only [aprOp, St.x, h1, h2, PV.toD, if_true, hr]
                  unfold clE
                  simp only [Option.isNone_some]
                  rw [show evCode cf0 0 (.seq (.reg [⟨some 5, none, .bsl e sz []⟩, ⟨some 6, none, .mv false (.t 0)⟩, ⟨some 7, none, .apr e sz bytes (.t 5) (.t 6)⟩, ⟨some 2, none, .mv false (.t 7)⟩] [] false) (.ret [.kill, .kill, .keep])) ⟨[.d (.sl xs), .dead, .nilsl, .d (.sl xs), .d (.bool false), .dead, .dead, .dead], hp⟩ =
                    (match ((match (aprOp ⟨[.d (.sl xs), .dead, .nilsl, .d (.sl xs), .d (.bool false), .own e [], .d (.sl xs), .dead], hp⟩ e sz bytes (.t 5) (.t 6)).bind fun (v, s) => okPut s (some 7) v with
                      | some (.ok s') => evOps cf0 [⟨some 2, none, .mv false (.t 7)⟩] s'
                      | x => x).bind (drawEnd false)).map (regEnd ⟨[.d (.sl xs), .dead, .nilsl, .d (.sl xs), .d (.bool false), .dead, .dead, .dead], hp⟩ []) with
                    | some (.norm, s') => evCode cf0 0 (.ret [.kill, .kill, .keep]) s'
                    | r => r) from rfl]
                  rw [ha _ rfl rfl]
                  rfl
                intro g' w' a' hI' hc' hd'
                obtain ⟨u, g1, r1, r2, r3, r4⟩ := results_ok hI' hres (by simp) (v := .rowh hp.length 0 xs.length) rfl
                exact ⟨hd'.trans hdAC, u, r1, g1, (hAC.trans hc').trans r2, u, rfl, r3, r4⟩
            · simp at hun
          · simp at m2
        · simp at m1
      · simp at k1
    · simp at hbody
  · simp at hk

theorem cloneM_mk {f t e sz bytes : Nat} (hk : cloneMk P f t e sz bytes = true) : MkSound P f (cloneM sz bytes) where
  ent := by
    unfold cloneMk at hk
    unfold entered
    split at hk
    · rename_i fn hf
      rw [hf]
      simp only [Bool.and_eq_true, beq_iff_eq] at hk ⊢
      obtain ⟨⟨⟨⟨hnt, h2⟩, hres⟩, hun⟩, hbody⟩ := hk
      split at hbody
      · rename_i c0 i1 ops c2 c3 hc
        exact ⟨by rw [hc]; rfl, h2⟩
      · simp at hbody
    · simp at hk
  calls := by
    intro args ys hv hpl g w vals l hp ha hH
    unfold cloneM at hv
    split at hv
    · rename_i xs
      split at hv
      · rename_i hr
        simp only [Option.some.injEq] at hv
        subst hv
        match vals, ha with
        | [u], ha =>
          simp only [RepFs, RepF, and_true] at ha
          exact cloneM_run hk hr ha hH
      · simp at hv
    · simp at hv
end
end Go.Pe

namespace Go.Pe
/-! ### IndexByte: an entry of the model's -/
section
variable {P : Program} {g : G} {w : World} {a : Act} {s s' : St}

/-- the entry -/
def IdxEnt (P : Program) (k : Nat) : Prop :=
  ∃ fn, P.funcs[k]? = some fn ∧ (fn.name == "runtime.NumGoroutine") = false ∧ fn.body.isNone = true ∧ Extern.findNext fn = none ∧ Extern.find fn = some Extern.BytealgIndexByte.indexByte

def idxA : RCode := .reg [⟨some 4, none, .mv false (.c (.d (.int .i64 0)))⟩] [] false

def idxOps (k : Nat) : List Oper → Bool
  | [o1, o2, o3, o4] => o1.dst == some 5 && o2.dst == some 6 && o3.dst == some 7 && o4.dst == some 4 && o1.guard.isNone && o2.guard.isNone && o3.guard.isNone && o4.guard.isNone &&
      (match o1.op with | .move (.tmp 0) => true | _ => false) && (match o2.op with | .move (.tmp 1) => true | _ => false) &&
      (match o3.op with | .call ⟨.value (.func k'), ⟨[.tmp 5, .tmp 6]⟩, _⟩ => k' == k | _ => false) && (match o4.op with | .assign (.tmp 7) => true | _ => false)
  | _ => false

def idxOk (P : Program) (f k : Nat) : Bool :=
  match P.funcs[f]? with
  | some fn => fn.ntmps == 8 && (fn.name != "runtime.NumGoroutine") && resOk P fn.results.toList [.t 4] &&
    (match fn.body with
    | some (.seq c0 (.seq (.region _ ops false) .ret)) => codeOk P (fun _ => false) c0 idxA && idxOps k ops.toList
    | _ => false)
  | none => false

def idxP : List PV → Option PV
  | [.d (.str s), .d (.int .u8 c)] => some (.d (.int .i64 (Lib.indexByte s.data.toList c.toNat.toUInt8)))
  | _ => none

theorem idx_run {f k : Nat} (hX : IdxEnt P k) (hk : idxOk P f k = true) {s : ByteArray} {c : Int} {g : G} {w : World} :
    Calls P f #[.string s, .int .u8 c] w fun en w' => ∃ u g', en = .returned u ∧ Chg (fun _ => False) g w g' w' ∧ g'.nb = g.nb ∧ RepR P g' w' (.d (.int .i64 (Lib.indexByte s.data.toList c.toNat.toUInt8))) u := by
  obtain ⟨fx, x1, x2, x3, x4, x5⟩ := hX
  unfold idxOk at hk
  split at hk
  · rename_i fn hf
    simp only [Bool.and_eq_true, beq_iff_eq] at hk
    obtain ⟨⟨⟨hnt, _⟩, hres⟩, hbody⟩ := hk
    split at hbody
    · rename_i c0 i1 ops hc
      simp only [Bool.and_eq_true] at hbody
      obtain ⟨k0, k1⟩ := hbody
      unfold idxOps at k1
      split at k1
      · rename_i o1 o2 o3 o4 hops
        simp only [Bool.and_eq_true, beq_iff_eq, Option.isNone_iff_eq_none] at k1
        obtain ⟨⟨⟨⟨⟨⟨⟨⟨⟨⟨⟨d1, d2⟩, d3⟩, d4⟩, g1⟩, g2⟩, g3⟩, g4⟩, m1⟩, m2⟩, m3⟩, m4⟩ := k1
        split at m1
        · rename_i p1
          split at m2
          · rename_i p2
            split at m3
            · rename_i k' ts p3
              simp only [beq_iff_eq] at m3
              subst m3
              split at m4
              · rename_i p4
                refine calls_of_wp hf hc ?_
                rw [hnt]
                have hargs : RepFs P g.bare w (.ret 0) [.d (.str s), .d (.int .u8 c)] [.string s, .int .u8 c] :=
                  RepFs.bare (l := .ret 0) rfl rfl (by simp only [RepFs, RepF, and_true]; exact ⟨.str _, .int _ _⟩)
                have hI := Inv.enter (P := P) (w := w) (g := g.bare) (hp := []) (l := .ret 0) (args := [.d (.str s), .d (.int .u8 c)]) rfl hargs ⟨rfl, by simp⟩ 8
                refine wp_seq (code_sound cf0_sound (pf := fun _ => false) cf0_nice 0 c0 idxA k0 (s' := ⟨[.d (.str s), .d (.int .u8 c), .dead, .dead, .d (.int .i64 0), .dead, .dead, .dead], []⟩) (ex := .norm) rfl hI ?_)
                intro gA wA aA hIA hcA hdA
                refine wp_seq (wp_region ?_)
                have hoa : ops = #[o1, o2, o3, o4] := by apply Array.toList_inj.1; rw [hops]
                subst hoa
                have hrg : List.range (#[o1, o2, o3, o4] : Array Oper).size = [0, 1, 2, 3] := rfl
                rw [hrg]
                simp only [wpOps]
                have w1 : ∀ y, Region.wanted o1 y = true := fun y => by simp [Region.wanted, g1]
                have w2 : ∀ y, Region.wanted o2 y = true := fun y => by simp [Region.wanted, g2]
                have w3 : ∀ y, Region.wanted o3 y = true := fun y => by simp [Region.wanted, g3]
                have w4 : ∀ y, Region.wanted o4 y = true := fun y => by simp [Region.wanted, g4]
                have e1 : (#[o1, o2, o3, o4] : Array Oper)[0]? = some o1 := rfl
                have e2 : (#[o1, o2, o3, o4] : Array Oper)[1]? = some o2 := rfl
                have e3 : (#[o1, o2, o3, o4] : Array Oper)[2]? = some o3 := rfl
                have e4 : (#[o1, o2, o3, o4] : Array Oper)[3]? = some o4 := rfl
                simp only [e1, e2, e3, e4, w1, w2, w3, w4, if_true]
                refine .inl ((op_mv (m := false) (x' := .t 0) hIA (.inl p1) rfl (s1 := ⟨[.d (.str s), .d (.int .u8 c), .dead, .dead, .d (.int .i64 0), .dead, .dead, .dead], []⟩) (v := .d (.str s)) rfl d1 (s' := ⟨[.d (.str s), .d (.int .u8 c), .dead, .dead, .d (.int .i64 0), .d (.str s), .dead, .dead], []⟩) (by rw [d1]; rfl)).wp ?_)
                intro gB wB aB hIB hcB hdB
                have hAB := hcA.trans hcB
                have hdAB := hdB.trans hdA
                refine .inl ((op_mv (m := false) (x' := .t 1) hIB (.inl p2) rfl (s1 := ⟨[.d (.str s), .d (.int .u8 c), .dead, .dead, .d (.int .i64 0), .d (.str s), .dead, .dead], []⟩) (v := .d (.int .u8 c)) rfl d2 (s' := ⟨[.d (.str s), .d (.int .u8 c), .dead, .dead, .d (.int .i64 0), .d (.str s), .d (.int .u8 c), .dead], []⟩) (by rw [d2]; rfl)).wp ?_)
                intro gC wC aC hIC hcC hdC
                have hAC := hAB.trans hcC
                have hdAC := hdC.trans hdAB
                have v5 := (x_toD hIC (x := .tmp 5) (y := .t 5) rfl (d := .str s) rfl).str_inv
                have v6 := (x_toD hIC (x := .tmp 6) (y := .t 6) rfl (d := .int .u8 c) rfl).int_inv
                have hex : (execOp aC.eval o3).run P wC = .ok (.value (.int .i64 (Lib.indexByte s.data.toList c.toNat.toUInt8))) wC := by
                  have ef : aC.eval (.func k') = .func (.func k') #[] #[] := rfl
                  unfold execOp
                  simp only [p3, resolve, ef, Deferred.ofValue, Sem.run_bind, Sem.run_pure, Result.andThen_ok, invoke, run_callFunc_extern x1 x2 x3 x4 x5]
                  have ea : (#[Operand.tmp 5, Operand.tmp 6].map aC.eval ++ #[] : Array Value) = #[.string s, .int .u8 c] := by
                    simp [v5, v6]
                  first
                  | (rw [ea, Lib.run_indexByteString]; rfl)
                  | (simp [v5, v6, Lib.run_indexByteString])
                refine .inl ((OpRes.value (l := .ret 0) hIC hex (v := .d (.int .i64 (Lib.indexByte s.data.toList c.toNat.toUInt8))) (s' := ⟨[.d (.str s), .d (.int .u8 c), .dead, .dead, .d (.int .i64 0), .d (.str s), .d (.int .u8 c), .d (.int .i64 (Lib.indexByte s.data.toList c.toNat.toUInt8))], []⟩) (by rw [d3]; rfl) rfl (by simp only [RepF]; exact .int _ _)).wp ?_)
                intro gD wD aD hID hcD hdD
                have hAD := hAC.trans hcD
                have hdAD := hdD.trans hdAC
                refine .inl ((op_mv (m := false) (x' := .t 7) hID (.inr p4) rfl (s1 := ⟨[.d (.str s), .d (.int .u8 c), .dead, .dead, .d (.int .i64 0), .d (.str s), .d (.int .u8 c), .d (.int .i64 (Lib.indexByte s.data.toList c.toNat.toUInt8))], []⟩) (v := .d (.int .i64 (Lib.indexByte s.data.toList c.toNat.toUInt8))) rfl d4 (s' := ⟨[.d (.str s), .d (.int .u8 c), .dead, .dead, .d (.int .i64 (Lib.indexByte s.data.toList c.toNat.toUInt8)), .d (.str s), .d (.int .u8 c), .d (.int .i64 (Lib.indexByte s.data.toList c.toNat.toUInt8))], []⟩) (by rw [d4]; rfl)).wp ?_)
                intro gE wE aE hIE hcE hdE
                have hAE := hAD.trans hcE
                have hdAE := hdE.trans hdAD
                refine wp_ret ?_
                obtain ⟨u, gF, r1, r2, r3, r4⟩ := results_ok hIE hres (by simp) (v := .d (.int .i64 (Lib.indexByte s.data.toList c.toNat.toUInt8))) rfl
                exact ⟨hdAE, u, r1, u, gF.dress g, rfl, (hAE.trans r2).dress, rfl, RepR.dress (g := g) rfl r3⟩
              · simp at m4
            · simp at m3
          · simp at m2
        · simp at m1
      · simp at k1
    · simp at hbody
  · simp at hk

theorem idx_prim {f k : Nat} (hX : IdxEnt P k) (hk : idxOk P f k = true) : PrimSound P f idxP where
  ent := by
    unfold idxOk at hk
    unfold entered
    split at hk
    · rename_i fn hf
      rw [hf]
      simp only [Bool.and_eq_true, beq_iff_eq] at hk ⊢
      obtain ⟨⟨⟨hnt, h2⟩, hres⟩, hbody⟩ := hk
      split at hbody
      · rename_i c0 i1 ops hc
        exact ⟨by rw [hc]; rfl, h2⟩
      · simp at hbody
    · simp at hk
  calls := by
    intro args v hv hfl hpl g w vals l ha
    unfold idxP at hv
    split at hv
    · rename_i s c
      simp only [Option.some.injEq] at hv
      subst hv
      match vals, ha with
      | [u1, u2], ha =>
        simp only [RepFs, RepF, and_true] at ha
        obtain ⟨h1, h2⟩ := ha
        have e1 := h1.str_inv
        have e2 := h2.int_inv
        subst e1; subst e2
        exact idx_run hX hk
    · simp at hv
end
end Go.Pe

namespace Go.Pe
/-! ### the program's expressions, typed -/
inductive Xp where
  | mk (op : Int) (text : ByteArray) (pos kind coef scale : Int) (names : List ByteArray) (subs : List Xp)

mutual
def Xp.enc : Xp → D
  | .mk o t p k c s ns xs => .agg [iv o, .str t, iv p, iv k, iv c, iv s, .sl (ns.map .str), .sl (Xp.encs xs)]
def Xp.encs : List Xp → List D
  | [] => []
  | v :: r => v.enc :: Xp.encs r
end
theorem xencs_eq : ∀ (xs : List Xp), Xp.encs xs = xs.map Xp.enc
  | [] => rfl
  | v :: xs => by simp [Xp.encs, xencs_eq xs]
theorem xencs_get (xs : List Xp) (i : Nat) : (Xp.encs xs)[i]? = xs[i]?.map Xp.enc := by rw [xencs_eq, List.getElem?_map]
theorem xencs_len (xs : List Xp) : (Xp.encs xs).length = xs.length := by rw [xencs_eq, List.length_map]
theorem xencs_app (xs ys : List Xp) : Xp.encs (xs ++ ys) = Xp.encs xs ++ Xp.encs ys := by simp [xencs_eq]
theorem xenc_w (v : Xp) : v.enc.width = 8 := by cases v; rfl
theorem xenc_a (v : Xp) : v.enc.isAgg = true := by cases v; rfl
theorem xenc_as (v : Xp) : ∃ (o : Int) (t : ByteArray) (p k c s : Int) (ns : List ByteArray) (xs : List Xp), v.enc = .agg [iv o, .str t, iv p, iv k, iv c, iv s, .sl (ns.map .str), .sl (Xp.encs xs)] := by
  cases v; exact ⟨_, _, _, _, _, _, _, _, rfl⟩

mutual
/-- an expression as it may come in -/
def Xp.ok : Xp → Prop
  | .mk o t p k c s ns xs => i64 o ∧ t.size ≤ maxLen ∧ i64 p ∧ i64 k ∧ i64 c ∧ i64 s ∧ ns.length ≤ maxLen ∧ (∀ x ∈ ns, x.size ≤ maxLen) ∧ xs.length ≤ maxLen ∧ Xp.oks xs
def Xp.oks : List Xp → Prop
  | [] => True
  | v :: r => v.ok ∧ Xp.oks r
end
theorem xoks_iff : ∀ {xs : List Xp}, Xp.oks xs ↔ ∀ v ∈ xs, v.ok
  | [] => by simp [Xp.oks]
  | x :: xs => by simp [Xp.oks, xoks_iff (xs := xs)]
theorem xoks_mem {xs : List Xp} {v : Xp} (h : Xp.oks xs) (hv : v ∈ xs) : v.ok := xoks_iff.1 h v hv

mutual
/-- an expression and its parts, in order -/
def Xp.pre : Xp → List Xp
  | .mk o t p k c s ns xs => .mk o t p k c s ns xs :: Xp.pres xs
def Xp.pres : List Xp → List Xp
  | [] => []
  | x :: r => x.pre ++ Xp.pres r
end
theorem pres_app (a b : List Xp) : Xp.pres (a ++ b) = Xp.pres a ++ Xp.pres b := by
  induction a with
  | nil => rfl
  | cons x a ih => simp [Xp.pres, ih, List.append_assoc]
def Xp.subs : Xp → List Xp
  | .mk _ _ _ _ _ _ _ xs => xs
theorem pre_eq (e : Xp) : e.pre = e :: Xp.pres e.subs := by cases e; rfl
theorem pre_pos (e : Xp) : 0 < e.pre.length := by rw [pre_eq]; simp
mutual
theorem pre_ok : ∀ (e : Xp), e.ok → ∀ x ∈ e.pre, x.ok
  | .mk o t p k c s ns xs, h, x, hx => by
    simp only [Xp.pre, List.mem_cons] at hx
    rcases hx with rfl | hx
    · exact h
    · simp only [Xp.ok] at h
      exact pres_ok xs h.2.2.2.2.2.2.2.2.2 x hx
theorem pres_ok : ∀ (xs : List Xp), Xp.oks xs → ∀ x ∈ Xp.pres xs, x.ok
  | [], h, x, hx => by simp [Xp.pres] at hx
  | e :: xs, h, x, hx => by
    simp only [Xp.pres, List.mem_append] at hx
    rcases hx with hx | hx
    · exact pre_ok e h.1 x hx
    · exact pres_ok xs h.2 x hx
end

section
variable {H : Type} {P : Program}
structure XpT (P : Program) (tV : TypeId) : Prop where
  is : ∃ (fV fN : Array Field) (tO tX tP tK tN tT tU tC tE tEs : TypeId), P.underlying tV = some (.struct fV) ∧ fV.toList.map (·.type) = [tO, tX, tP, tK, tN, tT, tU] ∧
    P.underlying tO = some (.int .i64) ∧ P.underlying tX = some .string ∧ P.underlying tP = some (.int .i64) ∧ P.underlying tK = some (.int .i64) ∧
    P.underlying tN = some (.struct fN) ∧ fN.toList.map (·.type) = [tC, tE] ∧ P.underlying tC = some (.int .i64) ∧ P.underlying tE = some (.int .i64) ∧
    P.underlying tT = some (.slice tEs) ∧ P.underlying tEs = some .string ∧ P.underlying tU = some (.slice tV)

theorem lift_xp {tV : TypeId} (hT : XpT P tV) : ∀ (n : Nat) (d : DataW H) (xs : List D), SizeOf.sizeOf xs ≤ n → Lift P tV d xs → ∃ v : Xp, v.ok ∧ D.agg xs = v.enc
  | 0, d, xs, hn, h => by cases xs <;> simp at hn
  | n + 1, d, xs, hn, h => by
    obtain ⟨fV, fN, tO, tX, tP, tK, tN, tT, tU, tC, tE, tEs, e1, e2, u1, u2, u3, u4, u5, u6, u7, u8, u9, u10, u11⟩ := hT.is
    have hagg : aggT P tV = true := by simp [aggT, e1]
    obtain ⟨ds, l0⟩ := lift_st e1 h
    rw [e2] at l0
    obtain ⟨_, _, a1, b1, rfl, m1, l1⟩ := lifts_cons l0
    obtain ⟨_, _, a2, b2, rfl, m2, l2⟩ := lifts_cons l1
    obtain ⟨_, _, a3, b3, rfl, m3, l3⟩ := lifts_cons l2
    obtain ⟨_, _, a4, b4, rfl, m4, l4⟩ := lifts_cons l3
    obtain ⟨_, _, a5, b5, rfl, m5, l5⟩ := lifts_cons l4
    obtain ⟨_, _, a6, b6, rfl, m6, l6⟩ := lifts_cons l5
    obtain ⟨_, _, a7, b7, rfl, m7, l7⟩ := lifts_cons l6
    obtain rfl := lifts_nil l7
    obtain ⟨o, rfl, k1⟩ := lift_int u1 m1
    obtain ⟨t, rfl, k2⟩ := lift_str u2 m2
    obtain ⟨p, rfl, k3⟩ := lift_int u3 m3
    obtain ⟨k, rfl, k4⟩ := lift_int u4 m4
    obtain ⟨_, q0⟩ := lift_st u5 m5
    rw [u6] at q0
    obtain ⟨_, _, c1, c2, rfl, n1, q1⟩ := lifts_cons q0
    obtain ⟨_, _, c3, c4, rfl, n2, q2⟩ := lifts_cons q1
    obtain rfl := lifts_nil q2
    obtain ⟨c, rfl, k5⟩ := lift_int u7 n1
    obtain ⟨s, rfl, k6⟩ := lift_int u8 n2
    obtain ⟨ns, rfl, k7, k8⟩ := lift_strs u9 u10 m6
    obtain ⟨ys, rfl, k9, k10⟩ := lift_sl u11 m7
    have key : ∀ zs : List D, (∀ y ∈ zs, y ∈ ys) → ∃ vs : List Xp, Xp.oks vs ∧ zs = Xp.encs vs := by
      intro zs
      induction zs with
      | nil => exact fun _ => ⟨[], trivial, rfl⟩
      | cons y zs ih =>
        intro hz
        obtain ⟨vs, v1, v2⟩ := ih fun y hy => hz y (by simp [hy])
        obtain ⟨g1, d', g2⟩ := k10 y (hz y (by simp))
        have g3 := agg_cells (y := y) (by rw [g1, hagg])
        have hsz : SizeOf.sizeOf y.cells ≤ n := by
          have s1 : SizeOf.sizeOf y < SizeOf.sizeOf ys := List.sizeOf_lt_of_mem (hz y (by simp))
          rw [g3] at s1
          simp at hn s1
          omega
        obtain ⟨v, w1, w2⟩ := lift_xp hT n d' y.cells hsz g2
        exact ⟨v :: vs, ⟨w1, v1⟩, by rw [Xp.encs, ← w2, ← g3, ← v2]⟩
    obtain ⟨vs, v1, v2⟩ := key ys (fun _ h => h)
    subst v2
    refine ⟨.mk o t p k c s ns vs, ?_, by simp [Xp.enc]⟩
    simp only [Xp.ok]
    exact ⟨k1, k2, k3, k4, k5, k6, k7, k8, by rw [xencs_len] at k9; exact k9, v1⟩

theorem lift_xp' {tV : TypeId} (hT : XpT P tV) {d : DataW H} {x : D} (h : Lift P tV d x.cells) (ha : x.isAgg = aggT P tV) : ∃ v : Xp, v.ok ∧ x = v.enc := by
  obtain ⟨fV, _, _, _, _, _, _, _, _, _, _, _, e1, _⟩ := hT.is
  have hagg : aggT P tV = true := by simp [aggT, e1]
  obtain ⟨v, h1, h2⟩ := lift_xp hT _ d x.cells (Nat.le_refl _) h
  exact ⟨v, h1, by rw [← h2]; exact agg_cells (by rw [ha, hagg])⟩
theorem lift_i {t : TypeId} (ht : P.underlying t = some (.int .i64)) {d : DataW H} {x : D} (h : Lift P t d x.cells) (ha : x.isAgg = aggT P t) : ∃ n, i64 n ∧ x = iv n := by
  obtain ⟨n, h1, h2⟩ := lift_int ht h
  exact ⟨n, h2, cell_cells (by rw [ha]; simp [aggT, ht]) h1⟩
end
end Go.Pe

namespace Go.Pe
/-! ### how great what came in may be -/
mutual
/-- no text in it is longer than so -/
def D.small (N : Nat) : D → Prop
  | .str s => s.size ≤ N
  | .agg cs => D.smalls N cs
  | .sl xs => D.smalls N xs
  | _ => True
def D.smalls (N : Nat) : List D → Prop
  | [] => True
  | x :: r => D.small N x ∧ D.smalls N r
end
theorem smalls_iff {N : Nat} : ∀ {xs : List D}, D.smalls N xs ↔ ∀ x ∈ xs, D.small N x
  | [] => by simp [D.smalls]
  | x :: xs => by simp [D.smalls, smalls_iff (xs := xs)]
theorem small_cells {N : Nat} {x : D} (h : ∀ c ∈ x.cells, D.small N c) : D.small N x := by
  cases x with
  | agg cs => simp only [D.small]; exact smalls_iff.2 h
  | _ => exact h _ (by simp [D.cells])

/-- a bulk: values and letters -/
structure BulkFn {H : Type} (b : DataW H → Nat) (ba : List (DataW H) → Nat) : Prop where
  str : ∀ s, b (.lit (.string s)) = s.length + 1
  sl : ∀ e s, b (.slice e s) = ba e + ba s + 1
  agg : ∀ p, b (.agg p) = ba p + 1
  nil : ba [] = 0
  cons : ∀ d r, ba (d :: r) = b d + ba r

section
variable {H : Type} {P : Program} {b : DataW H → Nat} {ba : List (DataW H) → Nat}
theorem BulkFn.mem (hb : BulkFn b ba) {d : DataW H} : ∀ {l : List (DataW H)}, d ∈ l → b d ≤ ba l
  | x :: r, h => by
    rw [hb.cons]
    rcases List.mem_cons.1 h with rfl | h
    · omega
    · have := hb.mem h; omega


theorem lift_small (hb : BulkFn b ba) {N : Nat} : ∀ (n : Nat) (d : DataW H), SizeOf.sizeOf d ≤ n → ∀ (t : TypeId) (xs : List D), Lift P t d xs → b d ≤ N → ∀ x ∈ xs, D.small N x
  | 0, d, hn, t, xs, h, hd => by cases d <;> simp at hn
  | n + 1, d, hn, t, xs, h, hd => by
    have parts : ∀ (ts : List TypeId) (ds : List (DataW H)) (cs : List D), (∀ d ∈ ds, SizeOf.sizeOf d ≤ n) → ba ds ≤ N → Lifts P ts ds cs → ∀ x ∈ cs, D.small N x := by
      intro ts
      induction ts with
      | nil => intro ds cs _ _ hl x hx; cases hl; simp at hx
      | cons t ts iht =>
        intro ds cs hs hbd hl x hx
        cases hl with
        | cons h1 h2 =>
          rename_i d' ds' a b'
          rw [hb.cons] at hbd
          rcases List.mem_append.1 hx with hx | hx
          · exact lift_small hb n d' (hs d' (by simp)) t a h1 (by omega) x hx
          · exact iht ds' b' (fun d hd => hs d (by simp [hd])) (by omega) h2 x hx
    cases h with
    | bool b _ => intro x hx; simp at hx; subst hx; trivial
    | int k m _ _ => intro x hx; simp at hx; subst hx; trivial
    | str s _ _ =>
      intro x hx
      simp at hx
      subst hx
      rw [hb.str] at hd
      show s.size ≤ N
      have : s.data.toList.length = s.size := rfl
      omega
    | sl0 e _ => intro x hx; simp at hx; subst hx; trivial
    | sl e ds spare ys h1 h2 h3 h4 h5 =>
      intro x hx
      simp at hx
      subst hx
      show D.smalls N ys
      rw [smalls_iff]
      intro y hy
      obtain ⟨i, hi⟩ := List.getElem?_of_mem hy
      have hlt : i < ds.length := by
        have := (List.getElem?_eq_some_iff.1 hi).1
        omega
      have hm : ds[i] ∈ ds := List.getElem_mem hlt
      have hsz : SizeOf.sizeOf ds[i] ≤ n := by
        have s1 := List.sizeOf_lt_of_mem hm
        simp at hn
        omega
      rw [hb.sl] at hd
      have hle := hb.mem hm
      exact small_cells (lift_small hb n ds[i] hsz e y.cells (h5 i y _ hi (List.getElem?_eq_getElem hlt)) (by omega))
    | st fs ds _ h1 h2 =>
      rw [hb.agg] at hd
      exact parts _ ds _ (fun d hd => by have s1 := List.sizeOf_lt_of_mem hd; simp at hn; omega) (by omega) h2
    | arr m e ds _ h1 h2 =>
      rw [hb.agg] at hd
      exact parts _ ds _ (fun d hd => by have s1 := List.sizeOf_lt_of_mem hd; simp at hn; omega) (by omega) h2

theorem liftArgs_small (hb : BulkFn b ba) {N : Nat} : ∀ {ts : List TypeId} {ds : List (DataW H)} {xs : List D}, LiftArgs P ts ds xs → ba ds ≤ N → ∀ x ∈ xs, D.small N x
  | [], [], [], _, _ => by simp
  | t :: ts, d :: ds, x :: xs, h, hd => by
    rw [hb.cons] at hd
    intro y hy
    rcases List.mem_cons.1 hy with rfl | hy
    · exact small_cells (lift_small hb _ d (Nat.le_refl _) t _ h.1.1 (by omega))
    · exact liftArgs_small hb h.2 (by omega) y hy
  | [], _ :: _, _, h, _ => by simp [LiftArgs] at h
  | [], [], _ :: _, h, _ => by simp [LiftArgs] at h
  | _ :: _, [], _, h, _ => by simp [LiftArgs] at h
  | _ :: _, _ :: _, [], h, _ => by simp [LiftArgs] at h
end

mutual
/-- no text of an expression is longer than so -/
def Xp.lim (N : Nat) : Xp → Prop
  | .mk o t p k c s ns xs => t.size ≤ N ∧ (∀ x ∈ ns, x.size ≤ N) ∧ Xp.lims N xs
def Xp.lims (N : Nat) : List Xp → Prop
  | [] => True
  | x :: r => Xp.lim N x ∧ Xp.lims N r
end
mutual
theorem lim_small {N : Nat} : ∀ (v : Xp), D.small N v.enc → v.lim N
  | .mk o t p k c s ns xs, h => by
    simp only [Xp.enc, D.small, D.smalls, true_and, and_true] at h
    refine ⟨h.1, ?_, lims_small xs h.2.2⟩
    intro x hx
    exact smalls_iff.1 h.2.1 (.str x) (List.mem_map_of_mem hx)
theorem lims_small {N : Nat} : ∀ (xs : List Xp), D.smalls N (Xp.encs xs) → Xp.lims N xs
  | [], _ => trivial
  | x :: xs, h => by
    simp only [Xp.encs, D.smalls] at h
    exact ⟨lim_small x h.1, lims_small xs h.2⟩
end
mutual
theorem lim_mono {N M : Nat} (hNM : N ≤ M) : ∀ (v : Xp), v.lim N → v.lim M
  | .mk o t p k c s ns xs, h => by
    simp only [Xp.lim] at h ⊢
    exact ⟨by omega, fun x hx => by have := h.2.1 x hx; omega, lims_mono hNM xs h.2.2⟩
theorem lims_mono {N M : Nat} (hNM : N ≤ M) : ∀ (xs : List Xp), Xp.lims N xs → Xp.lims M xs
  | [], _ => trivial
  | x :: xs, h => ⟨lim_mono hNM x h.1, lims_mono hNM xs h.2⟩
end
mutual
theorem pre_lim {N : Nat} : ∀ (e : Xp), e.lim N → ∀ x ∈ e.pre, x.lim N
  | .mk o t p k c s ns xs, h, x, hx => by
    simp only [Xp.pre, List.mem_cons] at hx
    rcases hx with rfl | hx
    · exact h
    · simp only [Xp.lim] at h
      exact pres_lim xs h.2.2 x hx
theorem pres_lim {N : Nat} : ∀ (xs : List Xp), Xp.lims N xs → ∀ x ∈ Xp.pres xs, x.lim N
  | [], h, x, hx => by simp [Xp.pres] at hx
  | e :: xs, h, x, hx => by
    simp only [Xp.pres, List.mem_append] at hx
    rcases hx with hx | hx
    · exact pre_lim e h.1 x hx
    · exact pres_lim xs h.2 x hx
end
end Go.Pe

namespace Go.Pe
/-! ### rows in boxes of the store: what is read and written -/

/-- a row of structs of one width -/
structure AggRow (sz : Nat) (ys : List D) : Prop where
  agg : ∀ y ∈ ys, y.isAgg = true
  wid : ∀ y ∈ ys, y.width = sz
  one : ∀ y ∈ ys, ∀ c ∈ y.cells, c.isAgg = false

theorem AggRow.tail {sz : Nat} {y : D} {ys : List D} (h : AggRow sz (y :: ys)) : AggRow sz ys := ⟨fun z hz => h.agg z (by simp [hz]), fun z hz => h.wid z (by simp [hz]), fun z hz => h.one z (by simp [hz])⟩

theorem flatD_cons (y : D) (ys : List D) : flatD (y :: ys) = y.cells.map PV.d ++ flatD ys := by simp [flatD]

theorem flatD_drop {sz : Nat} : ∀ {ys : List D}, (∀ y ∈ ys, y.width = sz) → ∀ i, (flatD ys).drop (i * sz) = flatD (ys.drop i)
  | ys, _, 0 => by simp
  | [], _, i + 1 => by simp [flatD]
  | y :: ys, hw, i + 1 => by
    have hy : (y.cells.map PV.d).length = sz := by rw [List.length_map]; exact hw y (by simp)
    rw [flatD_cons, Nat.succ_mul, Nat.add_comm, ← List.drop_drop, ← hy, List.drop_left, hy, flatD_drop (fun z hz => hw z (by simp [hz]))]
    rfl

theorem optAll_d : ∀ (l : List D), optAll ((l.map PV.d).map PV.toD) = some l
  | [] => rfl
  | x :: l => by
    simp only [List.map_cons, PV.toD, optAll, optAll_d l, Option.map_some]

/-- an element, read -/
theorem cellsAgg_row {sz : Nat} {ys : List D} (h : AggRow sz ys) {i : Nat} (hi : i < ys.length) : cellsAgg (flatD ys) (i * sz) sz = some (.d ys[i]) := by
  have hl := flatD_len h.wid
  have hle : i * sz + sz ≤ (flatD ys).length := by
    rw [hl]
    have : (i + 1) * sz ≤ ys.length * sz := Nat.mul_le_mul_right _ hi
    rw [Nat.succ_mul] at this
    exact this
  have hd := flatD_drop h.wid i
  rw [List.drop_eq_getElem_cons hi, flatD_cons] at hd
  have hy : (ys[i].cells.map PV.d).length = sz := by rw [List.length_map]; exact h.wid _ (List.getElem_mem hi)
  unfold cellsAgg
  rw [if_pos hle, hd, ← hy, List.take_left, optAll_d]
  simp only [Option.map_some, Option.some.injEq, PV.d.injEq]
  have ha := h.agg _ (List.getElem_mem hi)
  generalize ys[i] = y at *
  cases y <;> simp [D.isAgg] at ha
  rfl

theorem setCells_d : ∀ (l : List D) (cs : List PV) (off : Nat), off + l.length ≤ cs.length → setCells cs off l = cs.take off ++ l.map PV.d ++ cs.drop (off + l.length)
  | [], cs, off, h => by simp [setCells]
  | d :: l, cs, off, h => by
    simp only [List.length_cons] at h
    rw [setCells, setCells_d l _ (off + 1) (by simp; omega)]
    have h1 : (cs.set off (.d d)).take (off + 1) = cs.take off ++ [.d d] := by
      rw [List.take_add_one, List.take_set_of_le (Nat.le_refl _), List.getElem?_set_self (by omega)]
      rfl
    have h2 : (cs.set off (.d d)).drop (off + 1 + l.length) = cs.drop (off + (d :: l).length) := by
      rw [List.drop_set_of_lt (by omega)]
      congr 1
      simp; omega
    rw [h1, h2]
    simp

/-- an element, written -/
theorem storeIn_row {sz : Nat} {ys : List D} (h : AggRow sz ys) {i : Nat} (hi : i < ys.length) {y : D} (ha : y.isAgg = true) (hw : y.width = sz) : storeIn (some sz) (flatD ys) (i * sz) (.d y) = some (flatD (ys.set i y)) := by
  have hl := flatD_len h.wid
  have hle : i * sz + sz ≤ (flatD ys).length := by
    rw [hl]
    have : (i + 1) * sz ≤ ys.length * sz := Nat.mul_le_mul_right _ hi
    rw [Nat.succ_mul] at this
    exact this
  cases y with
  | agg ds =>
    have hds : ds.length = sz := hw
    have e1 : (ds.length = sz && i * sz + sz ≤ (flatD ys).length : Bool) = true := by simp [hds, hle]
    simp only [storeIn]
    rw [if_pos e1, setCells_d _ _ _ (by rw [hds]; exact hle)]
    congr 1
    have ht : (flatD ys).take (i * sz) = flatD (ys.take i) := by
      have e := flatD_drop h.wid i
      have e2 : flatD ys = flatD (ys.take i) ++ flatD (ys.drop i) := by
        unfold flatD
        rw [← List.map_append, ← List.flatMap_append, List.take_append_drop]
      have hlen : (flatD (ys.take i)).length = i * sz := by
        rw [flatD_len (fun z hz => h.wid z (List.mem_of_mem_take hz)), List.length_take, Nat.min_eq_left (Nat.le_of_lt hi)]
      rw [e2, ← hlen, List.take_left]
    have hd : (flatD ys).drop (i * sz + ds.length) = flatD (ys.drop (i + 1)) := by
      rw [hds, ← Nat.succ_mul]
      exact flatD_drop h.wid (i + 1)
    rw [ht, hd]
    have e3 : ys.set i (.agg ds) = ys.take i ++ .agg ds :: ys.drop (i + 1) := by
      rw [List.set_eq_take_append_cons_drop, if_pos hi]
    rw [e3]
    simp [flatD]
    rfl
  | _ => simp [D.isAgg] at ha

theorem AggRow.set {sz : Nat} {ys : List D} (h : AggRow sz ys) {i : Nat} {y : D} (ha : y.isAgg = true) (hw : y.width = sz) (ho : ∀ c ∈ y.cells, c.isAgg = false) : AggRow sz (ys.set i y) := by
  have key : ∀ z ∈ ys.set i y, z ∈ ys ∨ z = y := fun z hz => List.mem_or_eq_of_mem_set hz
  exact ⟨fun z hz => (key z hz).elim (h.agg z) (fun e => e ▸ ha), fun z hz => (key z hz).elim (h.wid z) (fun e => e ▸ hw), fun z hz => (key z hz).elim (h.one z) (fun e => e ▸ ho)⟩

theorem chunkD_flat {sz : Nat} : ∀ {ys : List D}, AggRow sz ys → chunkD sz ys.length (ys.flatMap D.cells) = ys
  | [], _ => rfl
  | y :: ys, h => by
    have hy : y.cells.length = sz := h.wid y (by simp)
    have ha := h.agg y (by simp)
    simp only [List.length_cons, chunkD, List.flatMap_cons]
    rw [← hy, List.take_left, List.drop_left, hy, chunkD_flat h.tail]
    cases y <;> simp [D.isAgg] at ha
    rfl

/-- a row handed on -/
theorem frz_row {s : St} {sz id : Nat} {x : X} {ys : List D} (h : AggRow sz ys) (hx : s.x x = .rowh id 0 ys.length) (hid : s.hp[id]? = some (rowEnt ys)) : frzOp s sz true x = some (.d (.sl ys), { s with hp := s.hp.set id .gone }) := by
  unfold frzOp
  rw [hx]
  simp only
  by_cases h0 : ys = []
  · subst h0
    have : s.hp.set id .gone = s.hp := by
      obtain ⟨hlt, e⟩ := List.getElem?_eq_some_iff.1 hid
      have e' : s.hp[id] = .gone := e
      rw [← e']; exact List.set_getElem_self hlt
    rw [this]
    rfl
  · have hne : ¬ ys.length = 0 := fun e => h0 (List.eq_nil_of_length_eq_zero e)
    have e1 : rowEnt ys = .box (flatD ys) := by unfold rowEnt; cases ys with | nil => exact absurd rfl h0 | cons _ _ => rfl
    rw [if_neg hne, hid, e1]
    simp only [List.drop_zero]
    have hl := flatD_len h.wid
    rw [← hl, List.take_length]
    have e2 : optAll ((flatD ys).map PV.toD) = some (ys.flatMap D.cells) := optAll_d _
    rw [e2]
    simp only
    have e3 : (ys.flatMap D.cells).length = (flatD ys).length := by unfold flatD; simp
    have e4 : (ys.flatMap D.cells).all (fun d => !d.isAgg) = true := by
      simp only [List.all_eq_true, Bool.not_eq_true', List.mem_flatMap]
      rintro d ⟨y, hy, hd⟩
      exact h.one y hy d hd
    simp only [e3, e4, rowsD, if_true, chunkD_flat h, decide_true, Bool.true_or, Bool.and_true]
end Go.Pe

namespace Go.Pe
/-- an array of three values -/
def arr3 (a b c : Val) : D := .agg (a.enc.cells ++ (b.enc.cells ++ (c.enc.cells ++ [])))

theorem lift_arr {H : Type} {P : Program} {t e : TypeId} {n : Nat} {d : DataW H} {xs : List D} (h : P.underlying t = some (.array n e)) (hl : Lift P t d xs) :
    ∃ ds : List (DataW H), Lifts P ((List.range n).map fun _ => e) ds xs := by
  cases hl with
  | arr n' e' ds cs h1 h2 =>
    rw [h] at h1
    simp only [Option.some.injEq, TypeDesc.array.injEq] at h1
    obtain ⟨rfl, rfl⟩ := h1
    exact ⟨ds, h2⟩
  | _ => simp_all

theorem lift_arr3 {H : Type} {P : Program} {t tV : TypeId} (hT : ValT P tV) (ht : P.underlying t = some (.array 3 tV)) {d : DataW H} {x : D} (h : Lift P t d x.cells) (ha : x.isAgg = aggT P t) : ∃ a b c : Val, (a.ok ∧ b.ok ∧ c.ok) ∧ x = arr3 a b c := by
  obtain ⟨ds, h1⟩ := lift_arr ht h
  have e : ((List.range 3).map fun _ => tV) = [tV, tV, tV] := rfl
  rw [e] at h1
  obtain ⟨_, _, a1, b1, q, m1, l1⟩ := lifts_cons h1
  obtain ⟨_, _, a2, b2, rfl, m2, l2⟩ := lifts_cons l1
  obtain ⟨_, _, a3, b3, rfl, m3, l3⟩ := lifts_cons l2
  obtain rfl := lifts_nil l3
  obtain ⟨a, oa, ea⟩ := lift_val hT _ _ a1 (Nat.le_refl _) m1
  obtain ⟨b, ob, eb⟩ := lift_val hT _ _ a2 (Nat.le_refl _) m2
  obtain ⟨c, oc, ec⟩ := lift_val hT _ _ a3 (Nat.le_refl _) m3
  have hagg : aggT P t = true := by simp [aggT, ht]
  refine ⟨a, b, c, ⟨oa, ob, oc⟩, ?_⟩
  rw [agg_cells (y := x) (by rw [ha, hagg]), q, arr3, ← ea, ← eb, ← ec]
  rfl
end Go.Pe
