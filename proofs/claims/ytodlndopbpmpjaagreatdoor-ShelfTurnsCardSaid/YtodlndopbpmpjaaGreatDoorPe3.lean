/- A part of the proof of: A text that is turned round twice stands as it did and is as long; great letters of small ones and trimming twice turn nothing more; each text begins and ends with nothing and has itself in it (keyholelaw21.ShelfTurns answers true for every input). -/
import Derived.Test.YtodlndopbpmpjaaGreatDoorPe2
import Derived.Orders
import Derived.Recover
import Derived.Test.YtodlndopbpmpjaaGreatDoorPe1
import GoSem.ClaimChange
import Derived.WalkKit
import Derived.ProofKit
import Derived.OpenShut
import Derived.ChangeOld
import Derived.Below
import Derived.SizedLaws
import Derived.Carry
import Derived.Lib.SliceRun
set_option linter.unusedSimpArgs false
set_option linter.unusedVariables false

namespace Go.Pe


theorem store_eq (s : St) (agg : Option Nat) (x : X) (v : PV) : s.store agg (s.x x) x.self v = match boxOf s (s.x x) x.self with
    | some (t, off) => match s.at t with
      | .ibox cs => (storeIn agg cs off v).map fun cs' => { s with tm := s.tm.set t (.ibox cs') }
      | _ => none
    | none => match s.x x with
      | .ptr id off => match s.hp[id]? with
        | some (.box cs) => (storeIn agg cs off v).map fun cs' => { s with hp := s.hp.set id (.box cs') }
        | _ => none
      | .rptr id i off => match s.hp[id]? with
        | some (.row sz xs) => match xs[i]? with
          | some x => (rowStore agg x off v).map fun x' => { s with hp := s.hp.set id (.row sz (xs.set i x')) }
          | none => none
        | _ => none
      | _ => none := by
  cases hx : s.x x with
  | ibox cs =>
    cases x with
    | t n =>
      have hat : s.at n = .ibox cs := hx
      simp only [X.self, boxOf, St.store, hat]
    | c v => rfl
    | f n => rfl
  | _ => rfl

theorem fr_store (agg : Option Nat) (x : X) (v : PV) {s s1 : St} (h : s.store agg (s.x x) x.self v = some s1) :
    ∃ (ups : List (Nat × PV)) (h : Option (List Ent)), s1 = ⟨setAll s.tm ups, h.getD s.hp⟩ ∧ (∀ u ∈ ups, isIb (s.at u.1) = true ∧ isIb u.2 = true) ∧ ∀ r, Agr 3 x.tmps s r → r.store agg (r.x x) x.self v = some ⟨setAll r.tm ups, h.getD r.hp⟩ := by
  have agx : ∀ r, Agr 3 x.tmps s r → r.x x = s.x x := fun r hr => (x_same hr (.inr rfl) fun t ht => ht).symm
  have agh : ∀ r, Agr 3 x.tmps s r → r.hp = s.hp := fun r hr => (hr.2 (.inr rfl)).1
  have agb : ∀ r, Agr 3 x.tmps s r → ∀ t cs, s.at t = .ibox cs → r.at t = .ibox cs := fun r hr t cs ht => ((hr.2 (.inr rfl)).2 t (by rw [ht]; rfl)).trans ht
  rw [store_eq] at h
  split at h
  · rename_i t off hb
    split at h
    · rename_i cs hat
      simp only [Option.map_eq_some_iff] at h
      obtain ⟨cs', hl, rfl⟩ := h
      refine ⟨[(t, .ibox cs')], none, rfl, ?_, ?_⟩
      · intro u hu
        simp only [List.mem_singleton] at hu
        subst hu
        exact ⟨by show isIb (s.at t) = true; rw [hat]; rfl, rfl⟩
      · intro r hr
        rw [store_eq, agx r hr, show boxOf r (s.x x) x.self = some (t, off) from hb]
        simp only [agb r hr t cs hat, hl, Option.map_some]
        rfl
    · simp at h
  · rename_i hb
    split at h
    · rename_i id off hx
      split at h
      · rename_i cs hid
        simp only [Option.map_eq_some_iff] at h
        obtain ⟨cs', hl, rfl⟩ := h
        refine ⟨[], some (s.hp.set id (.box cs')), rfl, by simp, ?_⟩
        intro r hr
        rw [store_eq, agx r hr, show boxOf r (s.x x) x.self = none from hb, hx]
        simp only [agh r hr, hid, hl, Option.map_some]
        rfl
      · simp at h
    · rename_i id i off hx
      split at h
      · rename_i sz xs hid
        split at h
        · rename_i y hy
          simp only [Option.map_eq_some_iff] at h
          obtain ⟨d, hd, rfl⟩ := h
          refine ⟨[], some (s.hp.set id (.row sz (xs.set i d))), rfl, by simp, ?_⟩
          intro r hr
          rw [store_eq, agx r hr, show boxOf r (s.x x) x.self = none from hb, hx]
          simp only [agh r hr, hid, hy, hd, Option.map_some]
          rfl
        · simp at h
      · simp at h
    · simp at h

theorem tk_two {s s1 : St} {x : X} {v : PV} (h : s.tk true x = some (v, s1)) :
    (s1 = s ∧ ∀ r : St, nrm (s.x x) = nrm (r.x x) → r.tk true x = some (v, r)) ∨
    ∃ n e xs, x = .t n ∧ s.at n = .own e xs ∧ s1 = ⟨s.tm.set n .dead, s.hp⟩ ∧ ∀ r : St, nrm (s.x x) = nrm (r.x x) → r.tk true x = some (v, ⟨r.tm.set n .dead, r.hp⟩) := by
  unfold St.tk at h
  split at h
  · rename_i _ _ _ n e xs _ hq
    simp only [Option.some.injEq, Prod.mk.injEq] at h
    obtain ⟨rfl, rfl⟩ := h
    refine .inr ⟨n, e, xs, rfl, hq, rfl, fun r hr => ?_⟩
    rw [hq] at hr
    simp only [St.tk, ← nrm_eq hr rfl]
  · rename_i hne
    simp only [Option.map_eq_some_iff, Prod.mk.injEq] at h
    obtain ⟨w, hw, rfl, rfl⟩ := h
    refine .inl ⟨rfl, fun r hr => ?_⟩
    unfold St.tk
    split
    · rename_i hq
      rw [hq] at hr
      exact absurd (nrm_eq hr.symm rfl).symm (hne _ _ _ rfl rfl)
    · rw [← nrm_cp hr, hw]
      rfl

theorem own_lt {s : St} {n e : Nat} {xs : List D} (h : s.at n = .own e xs) : n < s.tm.length := by
  by_cases hn : n < s.tm.length
  · exact hn
  · simp [St.at, List.getD_eq_getElem?_getD, List.getElem?_eq_none (Nat.le_of_not_lt hn)] at h

theorem fr_sto (agg : Option Nat) (a x : X) : Fr 3 (xsT [a, x]) x.tmps (stoS agg a x) := by
  intro s s1 h
  simp only [stoS, Option.bind_eq_some_iff] at h
  obtain ⟨⟨v, s2⟩, ht, hs⟩ := h
  have ua : ∀ t ∈ a.tmps, t ∈ xsT [a, x] := fun t ht => by simp [xsT, ht]
  have ux : ∀ t ∈ x.tmps, t ∈ xsT [a, x] := fun t ht => by simp [xsT, ht]
  obtain ⟨ups, k, e1, h2, h3⟩ := fr_store agg a v hs
  rcases tk_two ht with ⟨rfl, hr0⟩ | ⟨n, e, xs, rfl, hn, rfl, hr0⟩
  · refine ⟨ups, k, e1, fun hc => absurd rfl hc, fun u hu => .inr ⟨rfl, h2 u hu⟩, ?_⟩
    intro r hr
    simp only [stoS, hr0 r (x_nrm fun t ht => hr.1 t (ux t ht)), Option.bind_some]
    exact h3 r ⟨fun t ht => hr.1 t (ua t ht), hr.2⟩
  · have hns := own_lt hn
    have hnU := ux n (by simp [X.tmps])
    have getk : ∀ (l : List PV) t, (l.set n .dead).getD t .dead = if n = t then .dead else l.getD t .dead := by
      intro l t
      rw [getD_set]
      by_cases h1 : n = t
      · subst h1
        simp only [true_and, if_true]
        split
        · rfl
        · rename_i h2
          rw [List.getD_eq_getElem?_getD, List.getElem?_eq_none (by omega)]; rfl
      · simp [h1]
    refine ⟨(n, .dead) :: ups, k, e1, fun hc => absurd rfl hc, ?_, ?_⟩
    · intro u hu
      rcases List.mem_cons.1 hu with rfl | hu
      · exact .inl ⟨by simp [X.tmps], by rw [hn]; rfl, fun _ => rfl⟩
      · obtain ⟨q1, q2⟩ := h2 u hu
        refine .inr ⟨rfl, ?_, q2⟩
        have q3 : isIb ((s.tm.set n .dead).getD u.1 .dead) = true := q1
        rw [getk] at q3
        split at q3
        · simp [isIb] at q3
        · exact q3
    · intro r hr
      simp only [stoS, hr0 r (x_nrm fun t ht => hr.1 t (ux t ht)), Option.bind_some]
      refine h3 ⟨r.tm.set n .dead, r.hp⟩ ⟨fun t ht => ?_, fun hc => ⟨(hr.2 hc).1, fun t ht => ?_⟩⟩
      · show nrm ((r.tm.set n .dead).getD t .dead) = nrm ((s.tm.set n .dead).getD t .dead)
        rw [getk, getk]
        split
        · rfl
        · exact hr.1 t (ua t ht)
      · have ht' : isIb ((s.tm.set n .dead).getD t .dead) = true := ht
        show (r.tm.set n .dead).getD t .dead = (s.tm.set n .dead).getD t .dead
        rw [getk] at ht'
        rw [getk, getk]
        split
        · rfl
        · rename_i hne
          simp only [if_neg hne] at ht'
          exact (hr.2 hc).2 t ht'

theorem Fr.weaken {c : Nat} {U W U' W' : List Nat} {f : St → Option St} (h : Fr c U W f) (hU : ∀ t ∈ U, t ∈ U') (hW : ∀ t ∈ W, t ∈ W') : Fr c U' W' f := by
  intro s s1 e
  obtain ⟨ups, k, h1, h2, h3, h5⟩ := h s s1 e
  refine ⟨ups, k, h1, h2, fun u hu => ?_, fun r hr => h5 r ⟨fun t ht => hr.1 t (hU t ht), hr.2⟩⟩
  rcases h3 u hu with ⟨a, b⟩ | a
  · exact .inl ⟨hW _ a, b⟩
  · exact .inr a

theorem xsT1 (x : X) : xsT [x] = x.tmps := by simp [xsT]
theorem xsT2 (x y : X) : xsT [x, y] = x.tmps ++ y.tmps := by simp [xsT]

theorem mem_if {m : Bool} {t : Nat} {l : List Nat} (h : t ∈ (if m then l else [])) : t ∈ l := by
  cases m with
  | true => exact h
  | false => simp at h

theorem kl_xs (o : RO) : ∀ t ∈ o.kl, t ∈ xsT o.xs := by
  intro t ht
  cases o
  case mv m x => show t ∈ xsT [x]; rw [xsT1]; exact mem_if ht
  case ext m x i => show t ∈ xsT [x]; rw [xsT1]; exact mem_if ht
  case mvt x => show t ∈ xsT [x]; rw [xsT1]; exact ht
  case sto agg a x => show t ∈ xsT [a, x]; rw [xsT2]; exact List.mem_append.2 (.inr ht)
  case app e sz b x y => show t ∈ xsT [x, y]; rw [xsT2]; exact List.mem_append.2 (.inl ht)
  case stb agg n x => show t ∈ xsT [.t n, x]; rw [xsT2]; exact List.mem_append.2 (.inr ht)
  all_goals exact absurd ht (by simp [RO.kl])

theorem ldbV_ib {agg : Option Nat} {p v : PV} (h : ldbV agg p = some v) : isIb p = true ∧ isIb v = false := by
  unfold ldbV at h
  split at h
  · refine ⟨rfl, ?_⟩
    split at h
    · unfold cellsAgg at h
      split at h
      · obtain ⟨_, _, rfl⟩ := Option.map_eq_some_iff.1 h
        rfl
      · simp at h
    · obtain ⟨⟨w, cs'⟩, h1, rfl⟩ := Option.map_eq_some_iff.1 h
      exact (cellTake_false h1).2
  · simp at h

theorem fr_ldb (agg : Option Nat) (n : Nat) : FrV 1 (xsT [.t n]) [] (fun s => (ldbV agg (s.tm.getD n .dead)).map (·, s)) := by
  intro s v s1 h
  obtain ⟨w, hw, e⟩ := Option.map_eq_some_iff.1 h
  simp only [Prod.mk.injEq] at e
  obtain ⟨rfl, rfl⟩ := e
  obtain ⟨k1, k2⟩ := ldbV_ib hw
  refine ⟨[], none, rfl, fun _ => rfl, by simp, fun _ => k2, fun r hr => ?_⟩
  have e1 : r.tm.getD n .dead = s.tm.getD n .dead := (hr.2 (.inl rfl)).2 n k1
  show (ldbV agg (r.tm.getD n .dead)).map (·, r) = _
  rw [e1, hw]
  rfl

theorem cellV_ib {agg : Option Nat} {cs : List PV} {off : Nat} {v : PV} (h : cellV agg cs off = some v) : isIb v = false := by
  unfold cellV at h
  split at h
  · unfold cellsAgg at h
    split at h
    · obtain ⟨_, _, rfl⟩ := Option.map_eq_some_iff.1 h
      rfl
    · simp at h
  · obtain ⟨⟨w, cs'⟩, h1, rfl⟩ := Option.map_eq_some_iff.1 h
    exact (cellTake_false h1).2
theorem ldrV_ib {agg : Option Nat} {s : St} {n : Nat} {v : PV} (h : ldrV agg s n = some v) : isIb v = false := by
  unfold ldrV at h
  repeat' split at h
  all_goals first | exact cellV_ib h | simp at h
theorem ldhV_ib {agg : Option Nat} {hp : List Ent} {p v : PV} (h : ldhV agg hp p = some v) : isIb v = false := by
  unfold ldhV at h
  repeat' split at h
  all_goals first | exact cellV_ib h | (obtain ⟨_, _, rfl⟩ := Option.map_eq_some_iff.1 h; rfl) | simp at h
theorem ldrV_same {agg : Option Nat} {s r : St} {n : Nat} {v : PV} (h : ldrV agg s n = some v) (hn : nrm (r.at n) = nrm (s.at n)) (hb : ∀ t, isIb (s.at t) = true → r.at t = s.at t) : ldrV agg r n = some v := by
  unfold ldrV at h ⊢
  split at h
  · rename_i t off hs
    have e1 : r.tm.getD n .dead = .ref t off := by
      have hi : isIb (s.at n) = false := by show isIb (s.tm.getD n .dead) = false; rw [hs]; rfl
      have := nrm_eq hn.symm hi
      exact this.symm.trans hs
    rw [e1]
    split at h
    · rename_i cs hc
      have e2 : r.tm.getD t .dead = .ibox cs := (hb t (by show isIb (s.tm.getD t .dead) = true; rw [hc]; rfl)).trans hc
      simp only [e2]
      exact h
    · simp at h
  · simp at h
theorem ldhV_same {agg : Option Nat} {s r : St} {a : X} {v : PV} (h : ldhV agg s.hp (s.x a) = some v) (hn : nrm (s.x a) = nrm (r.x a)) (hh : r.hp = s.hp) : ldhV agg r.hp (r.x a) = some v := by
  have hi : isIb (s.x a) = false := by
    cases hs : s.x a <;> first | rfl | (rw [hs] at h; simp [ldhV] at h)
  rw [← nrm_eq hn hi, hh]
  exact h
theorem fr_ldr (agg : Option Nat) (n : Nat) : FrV 1 (xsT [.t n]) [] (fun s => (ldrV agg s n).map (·, s)) := by
  intro s v s1 h
  obtain ⟨w, hw, e⟩ := Option.map_eq_some_iff.1 h
  simp only [Prod.mk.injEq] at e
  obtain ⟨rfl, rfl⟩ := e
  refine ⟨[], none, rfl, fun _ => rfl, by simp, fun _ => ldrV_ib hw, fun r hr => ?_⟩
  show (ldrV agg r n).map (·, r) = _
  rw [ldrV_same hw (hr.1 n (by simp [xsT, X.tmps])) (hr.2 (.inl rfl)).2]
  rfl
theorem fr_ldh (agg : Option Nat) (a : X) : FrV 1 (xsT [a]) [] (fun s => (ldhV agg s.hp (s.x a)).map (·, s)) := by
  intro s v s1 h
  obtain ⟨w, hw, e⟩ := Option.map_eq_some_iff.1 h
  simp only [Prod.mk.injEq] at e
  obtain ⟨rfl, rfl⟩ := e
  refine ⟨[], none, rfl, fun _ => rfl, by simp, fun _ => ldhV_ib hw, fun r hr => ?_⟩
  show (ldhV agg r.hp (r.x a)).map (·, r) = _
  rw [ldhV_same hw (x_nrm fun t ht => hr.1 t (by simp [xsT, ht])) (hr.2 (.inl rfl)).1]
  rfl
theorem stbS_sto {agg : Option Nat} {n : Nat} {x : X} {s s1 : St} (h : stbS agg n x s = some s1) : isIb (s.at n) = true ∧ stoS agg (.t n) x s = some s1 := by
  unfold stbS at h
  split at h
  · rename_i cs hc
    exact ⟨by show isIb (s.tm.getD n .dead) = true; rw [hc]; rfl, h⟩
  · simp at h
theorem stbS_of {agg : Option Nat} {n : Nat} {x : X} {s : St} (h : isIb (s.at n) = true) : stbS agg n x s = stoS agg (.t n) x s := by
  unfold stbS
  have h : isIb (s.tm.getD n .dead) = true := h
  cases hc : s.tm.getD n .dead <;> rw [hc] at h <;> simp [isIb] at h
  rfl
theorem fr_stb (agg : Option Nat) (n : Nat) (x : X) : Fr 3 (xsT [.t n, x]) x.tmps (stbS agg n x) := by
  intro s s1 h
  obtain ⟨k1, k2⟩ := stbS_sto h
  obtain ⟨ups, k, e1, h2, h3, h4⟩ := fr_sto agg (.t n) x s s1 k2
  refine ⟨ups, k, e1, h2, h3, fun r hr => ?_⟩
  have hi : isIb (r.at n) = true := by rw [isIb_of_nrm (hr.1 n (by simp [xsT, X.tmps]))]; exact k1
  rw [stbS_of hi]
  exact h4 r hr

theorem frV_op {cf : CF} {pf : Nat → Bool} (hcf : CFNice pf cf) (o : RO) (hs : ∀ agg a x, o ≠ .sto agg a x) (hs2 : ∀ agg n x, o ≠ .stb agg n x) : FrV (o.cls pf) (xsT o.xs) o.kl (evV cf o) := by
  cases o
  case mv m x => have h : FrV 0 (xsT [x]) (if m then x.tmps else []) (fun s => s.tkc m x) := (fr_tkc m x).weaken (by rw [xsT1]; exact fun _ h => h) (fun _ h => h); exact h
  case mvt x => have h : FrV 0 (xsT [x]) x.tmps (mvtV x) := (fr_mvt x).weaken (by rw [xsT1]; exact fun _ h => h) (fun _ h => h); exact h
  case zal heap cs => exact fr_box heap cs
  case bx heap agg x => have h := fr_bx heap agg x; rw [← xsT1] at h; exact h
  case ld m agg a => have h := fr_ld m agg a; rw [← xsT1] at h; exact h
  case ldb agg n => exact fr_ldb agg n
  case ldr agg n => exact fr_ldr agg n
  case ldh agg a => exact fr_ldh agg a
  case stb agg n x => exact absurd rfl (hs2 agg n x)
  case sto agg a x => exact absurd rfl (hs agg a x)
  case sla => intro s v s1 h; simp [evV] at h
  case frz => intro s v s1 h; simp [evV] at h
  case clr => intro s v s1 h; simp [evV] at h
  case bad => intro s v s1 h; simp [evV] at h
  case apr => intro s v s1 h; simp [evV] at h
  case mks => intro s v s1 h; simp [evV] at h
  case cvb => intro s v s1 h; simp [evV] at h
  case rng => intro s v s1 h; simp [evV] at h
  case nxt => intro s v s1 h; simp [evV] at h
  case tas => intro s v s1 h; simp [evV] at h
  case isn => intro s v s1 h; simp [evV] at h
  case bxn => intro s v s1 h; simp [evV] at h
  case ext m x i => have h : FrV 0 (xsT [x]) (if m then x.tmps else []) (extV m x i) := (fr_ext m x i).weaken (by rw [xsT1]; exact fun _ h => h) (fun _ h => h); exact h
  case app e sz bytes x y => have h := fr_app e sz bytes x y; rw [← xsT2] at h; exact h
  case call m f args => exact fr_call hcf m f args
  case pan x => intro s v s1 h; simp [evV] at h
  all_goals exact fr_plain _

theorem fr_op {cf : CF} {pf : Nat → Bool} (hcf : CFNice pf cf) (dst : Option Nat) (o : RO) (hl : o.isSla = false) : Fr (o.cls pf) (dst.toList ++ xsT o.xs) (dst.toList ++ o.kl) (fun s => okOf (evOp cf dst o s)) := by
  by_cases h : ∃ agg a x, o = .sto agg a x
  · obtain ⟨agg, a, x, rfl⟩ := h
    have := (fr_sto agg a x).weaken (U' := dst.toList ++ xsT [a, x]) (W' := dst.toList ++ x.tmps) (by simp +contextual) (by simp +contextual)
    simp only [ok_sto]
    exact this
  · have hs : ∀ agg a x, o ≠ .sto agg a x := fun agg a x e => h ⟨agg, a, x, e⟩
    by_cases h2 : ∃ agg n x, o = .stb agg n x
    · obtain ⟨agg, n, x, rfl⟩ := h2
      have := (fr_stb agg n x).weaken (U' := dst.toList ++ xsT [.t n, x]) (W' := dst.toList ++ x.tmps) (by simp +contextual) (by simp +contextual)
      have e : (fun s => okOf (evOp cf dst (.stb agg n x) s)) = stbS agg n x := by
        funext s
        simp only [evOp]
        cases stbS agg n x s <;> rfl
      rw [e]
      exact this
    · have hs2 : ∀ agg n x, o ≠ .stb agg n x := fun agg n x e => h2 ⟨agg, n, x, e⟩
      have := (frV_op hcf o hs hs2).put (kl_xs o) dst
      simp only [ok_evV cf dst o _ hs hs2 hl]
      exact this

def gT : Option (Nat × Bool) → List Nat
  | some (t, _) => [t]
  | none => []

def ROper.U (o : ROper) : List Nat := gT o.g ++ (o.dst.toList ++ xsT o.op.xs)
def ROper.W (o : ROper) : List Nat := o.dst.toList ++ o.op.kl

theorem ROper.W_U (o : ROper) : ∀ t ∈ o.W, t ∈ o.U := by
  intro t ht
  rcases List.mem_append.1 ht with h | h
  · simp [ROper.U, h]
  · simp [ROper.U, kl_xs _ t h]

def stepS (cf : CF) (o : ROper) (s : St) : Option St :=
  match wanted s o.g with
  | some true => okOf (evOp cf o.dst o.op s)
  | some false => s.put o.dst .und
  | none => none

theorem wanted_nrm {s r : St} {g : Option (Nat × Bool)} (h : ∀ t ∈ gT g, nrm (r.at t) = nrm (s.at t)) : wanted r g = wanted s g := by
  cases g with
  | none => rfl
  | some p =>
    obtain ⟨t, b⟩ := p
    have hn := h t (by simp [gT])
    simp only [wanted]
    show (match r.at t with | .d (.bool b') => _ | .und => _ | _ => _) = (match s.at t with | .d (.bool b') => _ | .und => _ | _ => _)
    cases hp : isIb (s.at t) with
    | false => rw [nrm_eq hn.symm hp]
    | true =>
      have hq := (nrm_ib hn).trans hp
      cases h1 : s.at t <;> rw [h1] at hp <;> simp [isIb] at hp
      cases h2 : r.at t <;> rw [h2] at hq <;> simp [isIb] at hq

theorem fr_und (dst : Option Nat) : Fr 0 dst.toList dst.toList (fun s => s.put dst .und) := by
  intro s s1 e
  obtain ⟨rfl, h⟩ := put_fr e
  refine ⟨dst.toList.map (·, .und), none, rfl, fun _ => rfl, ?_, ?_⟩
  · intro u hu
    obtain ⟨d, hd, rfl⟩ := List.mem_map.1 hu
    exact .inl ⟨hd, h d hd, fun _ => rfl⟩
  · intro r hr
    exact put_of fun d hd => by rw [isIb_of_nrm (hr.1 d hd)]; exact h d hd

theorem Fr.of0 {c : Nat} {U W : List Nat} {f : St → Option St} (h : Fr 0 U W f) {s s1 : St} (e : f s = some s1) (hv : ∀ s s1, f s = some s1 → True) :
    ∃ (ups : List (Nat × PV)) (h : Option (List Ent)), s1 = ⟨setAll s.tm ups, h.getD s.hp⟩ ∧ (c ≠ 3 → h = none) ∧ (∀ u ∈ ups, UpOk c W s u) ∧ ∀ r, Agr c U s r → f r = some ⟨setAll r.tm ups, h.getD r.hp⟩ := by
  obtain ⟨ups, k, h1, h2, h3, h5⟩ := h s s1 e
  refine ⟨ups, k, h1, fun _ => h2 (by simp), fun u hu => ?_, fun r hr => h5 r ⟨hr.1, by simp⟩⟩
  rcases h3 u hu with ⟨a, b, c⟩ | ⟨a, _⟩
  · exact .inl ⟨a, b, fun _ => c (by simp)⟩
  · simp at a

theorem fr_step {cf : CF} {pf : Nat → Bool} (hcf : CFNice pf cf) (o : ROper) (hl : o.op.isSla = false) : Fr (o.op.cls pf) o.U o.W (stepS cf o) := by
  intro s s1 e
  have hw : ∀ r, Agr (o.op.cls pf) o.U s r → wanted r o.g = wanted s o.g := fun r hr => wanted_nrm fun t ht => hr.1 t (by simp [ROper.U, ht])
  simp only [stepS] at e
  split at e
  · rename_i hg
    obtain ⟨ups, k, h1, h2, h3, h5⟩ := fr_op hcf o.dst o.op hl s s1 e
    refine ⟨ups, k, h1, h2, h3, fun r hr => ?_⟩
    simp only [stepS, hw r hr, hg]
    exact h5 r ⟨fun t ht => hr.1 t (by simp only [ROper.U, List.mem_append] at ht ⊢; exact .inr ht), hr.2⟩
  · rename_i hg
    obtain ⟨ups, k, h1, h2, h3, h5⟩ := (fr_und o.dst).of0 (c := o.op.cls pf) e (fun _ _ _ => trivial)
    refine ⟨ups, k, h1, h2, fun u hu => ?_, fun r hr => ?_⟩
    · rcases h3 u hu with ⟨a, b⟩ | a
      · exact .inl ⟨by simp only [ROper.W, List.mem_append]; exact .inl a, b⟩
      · exact .inr a
    · simp only [stepS, hw r hr, hg]
      exact h5 r ⟨fun t ht => hr.1 t (by simp only [ROper.U, List.mem_append]; exact .inr (.inl ht)), hr.2⟩
  · simp at e

end Go.Pe

namespace Go.Pe

def runs (cf : CF) (ros : List ROper) : List Nat → St → Option St
  | [], s => some s
  | i :: l, s => match ros[i]? with
    | none => runs cf ros l s
    | some o => (stepS cf o s).bind (runs cf ros l)

theorem runs_of (cf : CF) (ros : List ROper) : ∀ (l : List Nat) {s f : St}, evIdx cf ros l s = some (.ok f) → runs cf ros l s = some f
  | [], s, f, h => by
    simp only [evIdx, Option.some.injEq, OR.ok.injEq] at h
    simp only [runs, h]
  | i :: l, s, f, h => by
    simp only [evIdx] at h
    simp only [runs]
    cases hr : ros[i]? with
    | none => rw [hr] at h; exact runs_of cf ros l h
    | some o =>
      rw [hr] at h
      simp only at h ⊢
      simp only [stepS]
      split at h
      · rename_i hw
        try simp only [hw]
        cases he : evOp cf o.dst o.op s with
        | none => rw [he] at h; simp at h
        | some r =>
          rw [he] at h
          cases r with
          | ok s' => simp only at h; simp only [okOf, Option.bind_some]; exact runs_of cf ros l h
          | pan v hp => simp at h
      · rename_i hw
        try simp only [hw]
        split at h
        · rename_i s' hp
          rw [hp]
          simp only [Option.bind_some]
          exact runs_of cf ros l h
        · simp at h
      · simp at h

def isCall : RO → Bool
  | .call .. => true
  | _ => false
def isLdb : RO → Bool
  | .ldb .. => true
  | _ => false
def isH : RO → Bool
  | .call .. | .ldh .. => true
  | _ => false
def isI : RO → Bool
  | .ldb .. | .ldr .. | .stb .. => true
  | .zal heap _ => !heap
  | .bx heap _ _ => !heap
  | _ => false
def pairC (a b : RO) : Bool := (isI a && isH b) || (isH a && isI b)

theorem wanted_hp {tm : List PV} {hp hp' : List Ent} {g : Option (Nat × Bool)} : wanted ⟨tm, hp⟩ g = wanted ⟨tm, hp'⟩ g := by
  cases g with
  | none => rfl
  | some p => rfl

theorem put_hp {tm tm' : List PV} {hp hp' : List Ent} {d : Option Nat} {v : PV} (h : St.put ⟨tm, hp⟩ d v = some ⟨tm', hp⟩) : St.put ⟨tm, hp'⟩ d v = some ⟨tm', hp'⟩ := by
  cases d with
  | none =>
    simp only [St.put, Option.some.injEq, St.mk.injEq, and_true] at h ⊢
    exact h
  | some d =>
    simp only [St.put] at h ⊢
    split at h
    · simp at h
    · simp only [Option.some.injEq, St.mk.injEq, and_true] at h
      subst h
      rfl

theorem ldb_hp {cf : CF} {o : ROper} (ho : isLdb o.op = true) {tm tm' : List PV} {hp hp' : List Ent} (h : stepS cf o ⟨tm, hp⟩ = some ⟨tm', hp⟩) : stepS cf o ⟨tm, hp'⟩ = some ⟨tm', hp'⟩ := by
  cases hop : o.op with
  | ldb agg n =>
    simp only [stepS, hop, wanted_hp (hp := hp) (hp' := hp')] at h ⊢
    split at h
    · simp only [evOp] at h ⊢
      cases hl : ldbV agg (tm.getD n .dead) with
      | none => rw [hl] at h; simp [okOf] at h
      | some v =>
        rw [hl] at h
        simp only [Option.bind_some, okOf_put] at h ⊢
        exact put_hp h
    · exact put_hp h
    · simp at h
  | _ => rw [hop] at ho; simp [isLdb] at ho

theorem ldb_step {cf : CF} {pf : Nat → Bool} (hcf : CFNice pf cf) {o : ROper} (ho : isLdb o.op = true) {s s1 : St} (e : stepS cf o s = some s1) :
    ∃ ups : List (Nat × PV), s1 = ⟨setAll s.tm ups, s.hp⟩ ∧ (∀ u ∈ ups, UpOk 0 o.W s u) ∧
      ∀ r : St, (∀ t ∈ o.U, nrm (r.at t) = nrm (s.at t)) → (∀ t, isIb (s.at t) = true → r.at t = s.at t) → stepS cf o r = some ⟨setAll r.tm ups, r.hp⟩ := by
  have hl : o.op.isSla = false := by cases h : o.op <;> rw [h] at ho <;> first | rfl | (simp [isLdb] at ho)
  have hc : o.op.cls pf = 1 := by cases h : o.op <;> rw [h] at ho <;> first | rfl | (simp [isLdb] at ho)
  obtain ⟨ups, k, h1, h2, h3, h4⟩ := fr_step hcf o hl s s1 e
  rw [hc] at h2 h3 h4
  have hk : k = none := h2 (by simp)
  subst hk
  refine ⟨ups, h1, fun u hu => ?_, fun r hr hb => ?_⟩
  · rcases h3 u hu with ⟨a, b, c⟩ | ⟨a, _⟩
    · exact .inl ⟨a, b, fun _ => c (by simp)⟩
    · simp at a
  · have := h4 ⟨r.tm, s.hp⟩ ⟨hr, fun _ => ⟨rfl, hb⟩⟩
    exact ldb_hp ho this

theorem callV_same {cf : CF} {pf : Nat → Bool} (hcf : CFNice pf cf) {m : Bool} {f : X} {args : List X} {s s' : St} {v : PV} (h : callV cf m f args s = some (v, s')) :
    ∃ hp', s' = ⟨s.tm, hp'⟩ ∧ isIb v = false ∧ ∀ r : St, (∀ t ∈ xsT (f :: args), nrm (r.at t) = nrm (s.at t)) → r.hp = s.hp → callV cf m f args r = some (v, ⟨r.tm, hp'⟩) := by
  have ag : ∀ r : St, (∀ t ∈ xsT (f :: args), nrm (r.at t) = nrm (s.at t)) → nrm (s.x f) = nrm (r.x f) ∧ optAll (args.map fun x => (s.x x).cp) = optAll (args.map fun x => (r.x x).cp) := by
    intro r hr
    have hx : ∀ x ∈ f :: args, nrm (s.x x) = nrm (r.x x) := fun x hx => x_nrm fun t ht => hr t (List.mem_flatMap.2 ⟨x, hx, ht⟩)
    exact ⟨hx f (by simp), optAll_congr args fun x hx' => nrm_cp (hx x (by simp [hx']))⟩
  have run : ∀ (g : Nat) (full : List PV), (cf g full s.hp).bind (fun | .ret v hp => some (if m then v else v.demote, { s with hp }) | .pan v hp => none) = some (v, s') → ∃ hp', s' = ⟨s.tm, hp'⟩ ∧ isIb v = false ∧ ∀ r : St, r.hp = s.hp → (cf g full r.hp).bind (fun | .ret v hp => some (if m then v else v.demote, ({ r with hp } : St)) | .pan v hp => none) = some (v, ⟨r.tm, hp'⟩) := by
    intro g full hh
    obtain ⟨o, ho, hh⟩ := Option.bind_eq_some_iff.1 hh
    cases o with
    | pan w hp => simp at hh
    | ret w hp =>
      simp only [Option.some.injEq, Prod.mk.injEq] at hh
      obtain ⟨rfl, rfl⟩ := hh
      refine ⟨hp, rfl, demote_ib (hcf.nib _ _ _ _ _ ho) m, fun r hr => ?_⟩
      rw [hr, ho]
      rfl
  unfold callV at h
  split at h
  · rename_i g caps hf
    obtain ⟨vs, hvs, h⟩ := Option.bind_eq_some_iff.1 h
    obtain ⟨hp', e1, e2, e3⟩ := run g (vs ++ caps) h
    refine ⟨hp', e1, e2, fun r hr hh => ?_⟩
    obtain ⟨a1, a2⟩ := ag r hr
    rw [hf] at a1
    have a1 : r.x f = .fn g caps := (nrm_eq a1 rfl).symm
    unfold callV
    rw [a1]
    simp only
    rw [← a2, hvs]
    exact e3 r hh
  · rename_i g caps hf
    obtain ⟨vs, hvs, h⟩ := Option.bind_eq_some_iff.1 h
    obtain ⟨hp', e1, e2, e3⟩ := run g (caps ++ vs) h
    refine ⟨hp', e1, e2, fun r hr hh => ?_⟩
    obtain ⟨a1, a2⟩ := ag r hr
    rw [hf] at a1
    have a1 : r.x f = .fnm g caps := (nrm_eq a1 rfl).symm
    unfold callV
    rw [a1]
    simp only
    rw [← a2, hvs]
    exact e3 r hh
  · simp at h

theorem call_step {cf : CF} {pf : Nat → Bool} (hcf : CFNice pf cf) {o : ROper} (ho : isCall o.op = true) {s s1 : St} (e : stepS cf o s = some s1) :
    ∃ (ups : List (Nat × PV)) (h : List Ent), s1 = ⟨setAll s.tm ups, h⟩ ∧ (∀ u ∈ ups, UpOk 0 o.W s u) ∧
      ∀ r : St, (∀ t ∈ o.U, nrm (r.at t) = nrm (s.at t)) → r.hp = s.hp → stepS cf o r = some ⟨setAll r.tm ups, h⟩ := by
  have hw : ∀ r : St, (∀ t ∈ o.U, nrm (r.at t) = nrm (s.at t)) → wanted r o.g = wanted s o.g := fun r hr => wanted_nrm fun t ht => hr t (by simp [ROper.U, ht])
  have hdU : ∀ d ∈ o.dst.toList, d ∈ o.U := fun d hd => by simp only [ROper.U, List.mem_append]; exact .inr (.inl hd)
  cases hop : o.op with
  | call m f args =>
    simp only [stepS] at e
    split at e
    · rename_i hg
      rw [hop, ok_evV cf o.dst _ s (by intro _ _ _ h; cases h) (by intro _ _ _ h; cases h) rfl] at e
      obtain ⟨⟨v, s2⟩, e1, e2⟩ := Option.bind_eq_some_iff.1 e
      obtain ⟨hp', rfl, k2, k3⟩ := callV_same hcf e1
      obtain ⟨rfl, p2⟩ := put_fr e2
      refine ⟨o.dst.toList.map (·, v), hp', rfl, ?_, fun r hr hh => ?_⟩
      · intro u hu
        obtain ⟨d, hd, rfl⟩ := List.mem_map.1 hu
        exact .inl ⟨by simp only [ROper.W, List.mem_append]; exact .inl hd, p2 d hd, fun _ => k2⟩
      · simp only [stepS, hw r hr, hg]
        rw [hop, ok_evV cf o.dst _ r (by intro _ _ _ h; cases h) (by intro _ _ _ h; cases h) rfl]
        have hc : evV cf (.call m f args) r = some (v, ⟨r.tm, hp'⟩) := k3 r (fun t ht => hr t (by simp only [ROper.U, hop, RO.xs, List.mem_append]; exact .inr (.inr ht))) hh
        rw [hc]
        simp only [Option.bind_some]
        exact put_of (r := ⟨r.tm, hp'⟩) fun d hd => by
          have : isIb (r.at d) = isIb (s.at d) := isIb_of_nrm (hr d (hdU d hd))
          show isIb (r.at d) = false
          rw [this]
          exact p2 d hd
    · rename_i hg
      obtain ⟨rfl, p2⟩ := put_fr e
      refine ⟨o.dst.toList.map (·, .und), s.hp, rfl, ?_, fun r hr hh => ?_⟩
      · intro u hu
        obtain ⟨d, hd, rfl⟩ := List.mem_map.1 hu
        exact .inl ⟨by simp only [ROper.W, List.mem_append]; exact .inl hd, p2 d hd, fun _ => rfl⟩
      · simp only [stepS, hw r hr, hg]
        rw [put_of (r := r) fun d hd => by rw [isIb_of_nrm (hr d (hdU d hd))]; exact p2 d hd, hh]
    · simp at e
  | _ => rw [hop] at ho; simp [isCall] at ho

theorem UpOk.to0 {W : List Nat} {s r : St} {ups : List (Nat × PV)} (h : ∀ u ∈ ups, UpOk 0 W s u) (hn : ∀ t ∈ W, nrm (r.at t) = nrm (s.at t)) : ∀ u ∈ ups, UpOk 0 W r u := by
  intro u hu
  rcases h u hu with ⟨a, b, c⟩ | ⟨a, _⟩
  · exact .inl ⟨a, by rw [isIb_of_nrm (hn _ a)]; exact b, c⟩
  · simp at a

def HStep (U W : List Nat) (f : St → Option St) : Prop :=
  ∀ s s1, f s = some s1 → ∃ (ups : List (Nat × PV)) (h : List Ent), s1 = ⟨setAll s.tm ups, h⟩ ∧ (∀ u ∈ ups, UpOk 0 W s u) ∧
      ∀ r : St, (∀ t ∈ U, nrm (r.at t) = nrm (s.at t)) → r.hp = s.hp → f r = some ⟨setAll r.tm ups, h⟩
def IUp (W : List Nat) (s : St) (u : Nat × PV) : Prop := (u.1 ∈ W ∧ isIb (s.at u.1) = false) ∨ (isIb (s.at u.1) = true ∧ isIb u.2 = true)
def IStep (U W : List Nat) (f : St → Option St) : Prop :=
  ∀ s s1, f s = some s1 → ∃ ups : List (Nat × PV), s1 = ⟨setAll s.tm ups, s.hp⟩ ∧ (∀ u ∈ ups, IUp W s u) ∧
      ∀ r : St, (∀ t ∈ U, nrm (r.at t) = nrm (s.at t)) → (∀ t, isIb (s.at t) = true → r.at t = s.at t) → f r = some ⟨setAll r.tm ups, r.hp⟩
theorem iup_at {W : List Nat} {s : St} {ups : List (Nat × PV)} (h : ∀ u ∈ ups, IUp W s u) {t : Nat} (ht : t ∉ W) : nrm ((setAll s.tm ups).getD t .dead) = nrm (s.at t) := by
  rcases setAll_get ups s.tm t with e | ⟨v, hv, e⟩
  · rw [e]
  · rcases h _ hv with ⟨h1, _⟩ | ⟨h2, h3⟩
    · exact absurd h1 ht
    · rw [e]
      simp only at h2 h3
      cases h4 : s.at t <;> rw [h4] at h2 <;> simp [isIb] at h2
      cases v <;> simp [isIb] at h3
      rfl
theorem hi_comm {U1 W1 W2 : List Nat} {s : St} {u1 u2 : List (Nat × PV)} (h1 : ∀ u ∈ u1, UpOk 0 W1 s u) (h2 : ∀ u ∈ u2, IUp W2 s u) (hd : ∀ t ∈ W1, t ∉ W2) (l : List PV) : setAll (setAll l u2) u1 = setAll (setAll l u1) u2 := by
  refine setAll_comm u2 u1 ?_
  intro u hu v hv e
  rcases h1 v hv with ⟨q1, q2, _⟩ | ⟨q, _⟩
  · rcases h2 u hu with ⟨p1, _⟩ | ⟨p1, _⟩
    · exact hd _ q1 (e ▸ p1)
    · rw [e, q2] at p1; simp at p1
  · simp at q
theorem swapIH {f1 f2 : St → Option St} {U1 W1 U2 W2 : List Nat} (h1 : IStep U1 W1 f1) (h2 : HStep U2 W2 f2) (hW1 : ∀ t ∈ W1, t ∈ U1) (hW2 : ∀ t ∈ W2, t ∈ U2) (d12 : ∀ t ∈ W1, t ∉ U2) (d21 : ∀ t ∈ W2, t ∉ U1) {s s1 s2 : St} (e1 : f1 s = some s1) (e2 : f2 s1 = some s2) :
    ∃ s1', f2 s = some s1' ∧ f1 s1' = some s2 := by
  obtain ⟨u1, rfl, o1, r1⟩ := h1 s s1 e1
  obtain ⟨u2, h, rfl, o2, r2⟩ := h2 _ s2 e2
  have n2 : ∀ t ∈ U2, nrm (s.at t) = nrm (St.at ⟨setAll s.tm u1, s.hp⟩ t) := fun t ht => (iup_at o1 fun hw => d12 t hw ht).symm
  have o2' := UpOk.to0 o2 fun t ht => n2 t (hW2 t ht)
  refine ⟨_, r2 s n2 rfl, ?_⟩
  rw [r1 ⟨setAll s.tm u2, h⟩ (fun t ht => up_at o2' fun hw => d21 t hw ht) (fun t ht => up_ib (.inl rfl) o2' (.inl ht))]
  rw [hi_comm (U1 := U1) o2' o1 fun t ht hb => d21 t ht (hW1 t hb)]
theorem swapHI {f1 f2 : St → Option St} {U1 W1 U2 W2 : List Nat} (h1 : HStep U1 W1 f1) (h2 : IStep U2 W2 f2) (hW1 : ∀ t ∈ W1, t ∈ U1) (hW2 : ∀ t ∈ W2, t ∈ U2) (d12 : ∀ t ∈ W1, t ∉ U2) (d21 : ∀ t ∈ W2, t ∉ U1) {s s1 s2 : St} (e1 : f1 s = some s1) (e2 : f2 s1 = some s2) :
    ∃ s1', f2 s = some s1' ∧ f1 s1' = some s2 := by
  obtain ⟨u1, h, rfl, o1, r1⟩ := h1 s s1 e1
  obtain ⟨u2, rfl, o2, r2⟩ := h2 _ s2 e2
  have n2 : ∀ t ∈ U2, nrm (s.at t) = nrm (St.at ⟨setAll s.tm u1, h⟩ t) := fun t ht => (up_at o1 fun hw => d12 t hw ht).symm
  have ib2 : ∀ t, isIb (s.at t) = true ∨ isIb ((setAll s.tm u1).getD t .dead) = true → (setAll s.tm u1).getD t .dead = s.at t := fun t ht => up_ib (.inl rfl) o1 ht
  have o2' : ∀ u ∈ u2, IUp W2 s u := by
    intro u hu
    rcases o2 u hu with ⟨p1, p2⟩ | ⟨p1, p2⟩
    · exact .inl ⟨p1, by rw [isIb_of_nrm (n2 u.1 (hW2 _ p1))]; exact p2⟩
    · refine .inr ⟨?_, p2⟩
      have := ib2 u.1 (.inr p1)
      rw [← this]; exact p1
  refine ⟨_, r2 s n2 (fun t ht => (ib2 t (.inr ht)).symm), ?_⟩
  rw [r1 ⟨setAll s.tm u2, s.hp⟩ (fun t ht => iup_at o2' fun hw => d21 t hw ht) rfl]
  rw [← hi_comm (U1 := U1) o1 o2' fun t ht hb => d12 t ht (hW2 t hb)]
theorem wanted_r {o : ROper} {s r : St} (hr : ∀ t ∈ o.U, nrm (r.at t) = nrm (s.at t)) : wanted r o.g = wanted s o.g := wanted_nrm fun t ht => hr t (by simp [ROper.U, ht])
theorem dst_U {o : ROper} : ∀ d ∈ o.dst.toList, d ∈ o.U := fun d hd => by simp only [ROper.U, List.mem_append]; exact .inr (.inl hd)
theorem h_step {cf : CF} {pf : Nat → Bool} (hcf : CFNice pf cf) {o : ROper} (ho : isH o.op = true) : HStep o.U o.W (stepS cf o) := by
  intro s s1 e
  cases hop : o.op with
  | call m f args => exact call_step hcf (by rw [hop]; rfl) e
  | ldh agg a =>
    simp only [stepS] at e
    split at e
    · rename_i hg
      rw [hop] at e
      simp only [evOp] at e
      cases hv : ldhV agg s.hp (s.x a) with
      | none => rw [hv] at e; simp [okOf] at e
      | some v =>
        rw [hv] at e
        simp only [Option.bind_some, okOf_put] at e
        obtain ⟨rfl, p2⟩ := put_fr e
        refine ⟨o.dst.toList.map (·, v), s.hp, rfl, ?_, fun r hr hh => ?_⟩
        · intro u hu
          obtain ⟨d, hd, rfl⟩ := List.mem_map.1 hu
          exact .inl ⟨by simp only [ROper.W, List.mem_append]; exact .inl hd, p2 d hd, fun _ => ldhV_ib hv⟩
        · simp only [stepS, wanted_r hr, hg]
          rw [hop]
          simp only [evOp]
          rw [ldhV_same hv (x_nrm fun t ht => hr t (by simp only [ROper.U, hop, RO.xs, xsT, List.mem_append]; exact .inr (.inr (by simpa using ht)))) hh]
          simp only [Option.bind_some, okOf_put]
          rw [put_of fun d hd => by rw [isIb_of_nrm (hr d (dst_U d hd))]; exact p2 d hd, hh]
    · rename_i hg
      obtain ⟨rfl, p2⟩ := put_fr e
      refine ⟨o.dst.toList.map (·, .und), s.hp, rfl, ?_, fun r hr hh => ?_⟩
      · intro u hu
        obtain ⟨d, hd, rfl⟩ := List.mem_map.1 hu
        exact .inl ⟨by simp only [ROper.W, List.mem_append]; exact .inl hd, p2 d hd, fun _ => rfl⟩
      · simp only [stepS, wanted_r hr, hg]
        rw [put_of (r := r) fun d hd => by rw [isIb_of_nrm (hr d (dst_U d hd))]; exact p2 d hd, hh]
    · simp at e
  | _ => rw [hop] at ho; simp [isH] at ho
theorem stoS_hp {agg : Option Nat} {n : Nat} {x : X} {s s1 : St} (hi : isIb (s.at n) = true) (h : stoS agg (.t n) x s = some s1) : s1.hp = s.hp ∧ ∀ hp, stoS agg (.t n) x ⟨s.tm, hp⟩ = some ⟨s1.tm, hp⟩ := by
  have hi : isIb (s.tm.getD n .dead) = true := hi
  simp only [stoS, Option.bind_eq_some_iff] at h
  obtain ⟨⟨v, s2⟩, ht, hs⟩ := h
  have key : ∀ (tm' : List PV), isIb (tm'.getD n .dead) = true → ∀ hp0 s1, St.store ⟨tm', hp0⟩ agg (tm'.getD n .dead) (some n) v = some s1 → s1.hp = hp0 ∧ ∀ hp, St.store ⟨tm', hp⟩ agg (tm'.getD n .dead) (some n) v = some ⟨s1.tm, hp⟩ := by
    intro tm' hi' hp0 s1 hs
    cases hc : tm'.getD n .dead <;> rw [hc] at hi' <;> simp [isIb] at hi'
    rw [hc] at hs
    simp only [St.store, Option.map_eq_some_iff] at hs ⊢
    obtain ⟨cs', h1, rfl⟩ := hs
    exact ⟨rfl, fun hp => ⟨cs', h1, rfl⟩⟩
  rcases tk_two ht with ⟨rfl, hr0⟩ | ⟨m, e, xs, rfl, hn, rfl, hr0⟩
  · obtain ⟨k1, k2⟩ := key s2.tm hi s2.hp s1 hs
    refine ⟨k1, fun hp => ?_⟩
    have : St.tk ⟨s2.tm, hp⟩ true x = some (v, ⟨s2.tm, hp⟩) := hr0 ⟨s2.tm, hp⟩ (by cases x <;> rfl)
    simp only [stoS, this]
    exact k2 hp
  · have hnm : n ≠ m := fun e => by
      subst e
      rw [show s.tm.getD n .dead = _ from hn] at hi
      simp [isIb] at hi
    have hg : (s.tm.set m .dead).getD n .dead = s.tm.getD n .dead := by
      rw [getD_set]
      simp [Ne.symm hnm]
    obtain ⟨k1, k2⟩ := key (s.tm.set m .dead) (by rw [hg]; exact hi) s.hp s1 hs
    refine ⟨k1, fun hp => ?_⟩
    have : St.tk ⟨s.tm, hp⟩ true (.t m) = some (v, ⟨s.tm.set m .dead, hp⟩) := hr0 ⟨s.tm, hp⟩ rfl
    simp only [stoS, this]
    exact k2 hp
theorem i_step {cf : CF} {pf : Nat → Bool} (hcf : CFNice pf cf) {o : ROper} (ho : isI o.op = true) : IStep o.U o.W (stepS cf o) := by
  intro s s1 e
  have hl : o.op.isSla = false := by cases h : o.op <;> rw [h] at ho <;> first | rfl | (simp [isI] at ho)
  obtain ⟨ups, k, h1, h2, h3, h4⟩ := fr_step hcf o hl s s1 e
  by_cases hc2 : o.op.cls pf = 2
  · -- a box in place is made
    rw [hc2] at h2 h3 h4
    have hk : k = none := h2 (by simp)
    subst hk
    refine ⟨ups, h1, fun u hu => ?_, fun r hr _ => h4 r ⟨hr, fun h => by omega⟩⟩
    rcases h3 u hu with ⟨a, b, _⟩ | ⟨a, _⟩
    · exact .inl ⟨a, b⟩
    · simp at a
  · by_cases hb : isLdb o.op = true
    · obtain ⟨ups, e1, e2, e3⟩ := ldb_step hcf hb e
      refine ⟨ups, e1, fun u hu => ?_, e3⟩
      rcases e2 u hu with ⟨a, b, _⟩ | ⟨a, _⟩
      · exact .inl ⟨a, b⟩
      · simp at a
    · cases hop : o.op with
      | ldr agg n =>
        clear h1 h2 h3 h4
        simp only [stepS] at e
        split at e
        · rename_i hg
          rw [hop] at e
          simp only [evOp] at e
          cases hv : ldrV agg s n with
          | none => rw [hv] at e; simp [okOf] at e
          | some v =>
            rw [hv] at e
            simp only [Option.bind_some, okOf_put] at e
            obtain ⟨rfl, p2⟩ := put_fr e
            refine ⟨o.dst.toList.map (·, v), rfl, ?_, fun r hr hb => ?_⟩
            · intro u hu
              obtain ⟨d, hd, rfl⟩ := List.mem_map.1 hu
              exact .inl ⟨by simp only [ROper.W, List.mem_append]; exact .inl hd, p2 d hd⟩
            · simp only [stepS, wanted_r hr, hg]
              rw [hop]
              simp only [evOp]
              rw [ldrV_same hv (hr n (by simp only [ROper.U, hop, RO.xs, xsT, List.mem_append]; exact .inr (.inr (by simp [X.tmps])))) hb]
              simp only [Option.bind_some, okOf_put]
              exact put_of fun d hd => by rw [isIb_of_nrm (hr d (dst_U d hd))]; exact p2 d hd
        · rename_i hg
          obtain ⟨rfl, p2⟩ := put_fr e
          refine ⟨o.dst.toList.map (·, .und), rfl, ?_, fun r hr hb => ?_⟩
          · intro u hu
            obtain ⟨d, hd, rfl⟩ := List.mem_map.1 hu
            exact .inl ⟨by simp only [ROper.W, List.mem_append]; exact .inl hd, p2 d hd⟩
          · simp only [stepS, wanted_r hr, hg]
            exact put_of (r := r) fun d hd => by rw [isIb_of_nrm (hr d (dst_U d hd))]; exact p2 d hd
        · simp at e
      | stb agg n x =>
        have hcl : o.op.cls pf = 3 := by rw [hop]; rfl
        rw [hcl] at h3 h4
        have hnU : n ∈ o.U := by simp only [ROper.U, hop, RO.xs, xsT, List.mem_append]; exact .inr (.inr (by simp [X.tmps]))
        -- the store stays, whatever it is
        have hst : s1.hp = s.hp ∧ ∀ hp, stepS cf o ⟨s.tm, hp⟩ = some ⟨s1.tm, hp⟩ := by
          have hw : ∀ hp, wanted ⟨s.tm, hp⟩ o.g = wanted s o.g := fun hp => wanted_hp
          simp only [stepS, hw]
          simp only [stepS] at e
          split at e
          · rename_i hg
            rw [hop] at e
            simp only [evOp] at e
            simp only [hg, hop, evOp]
            cases hv : stbS agg n x s with
            | none => rw [hv] at e; simp [okOf] at e
            | some s2 =>
              rw [hv] at e
              simp only [Option.map_some, okOf, Option.some.injEq] at e
              subst e
              obtain ⟨q1, q2⟩ := stbS_sto hv
              obtain ⟨q3, q4⟩ := stoS_hp q1 q2
              refine ⟨q3, fun hp => ?_⟩
              have q1' : isIb (St.at ⟨s.tm, hp⟩ n) = true := q1
              rw [stbS_of q1', q4 hp]
              rfl
          · rename_i hg
            obtain ⟨rfl, p2⟩ := put_fr e
            refine ⟨rfl, fun hp => ?_⟩
            simp only [hg]
            exact put_of (r := ⟨s.tm, hp⟩) p2
          · simp at e
        have hk : k.getD s.hp = s.hp := by rw [h1] at hst; exact hst.1
        rw [hk] at h1
        refine ⟨ups, h1, fun u hu => ?_, fun r hr hb => ?_⟩
        · rcases h3 u hu with ⟨a, b, _⟩ | ⟨_, a, b⟩
          · exact .inl ⟨a, b⟩
          · exact .inr ⟨a, b⟩
        · have h5 := h4 ⟨r.tm, s.hp⟩ ⟨hr, fun _ => ⟨rfl, hb⟩⟩
          have h5 : stepS cf o ⟨r.tm, s.hp⟩ = some ⟨setAll r.tm ups, s.hp⟩ := by rw [h5, show k.getD (St.hp ⟨r.tm, s.hp⟩) = s.hp from hk]
          -- and with another store
          have hw : wanted r o.g = wanted ⟨r.tm, s.hp⟩ o.g := wanted_hp (tm := r.tm) (hp := r.hp)
          simp only [stepS, hw]
          simp only [stepS] at h5
          split at h5
          · rename_i hg
            rw [hop] at h5 ⊢
            simp only [hg, evOp] at h5 ⊢
            cases hv : stbS agg n x ⟨r.tm, s.hp⟩ with
            | none => rw [hv] at h5; simp [okOf] at h5
            | some s2 =>
              rw [hv] at h5
              simp only [Option.map_some, okOf, Option.some.injEq] at h5
              subst h5
              obtain ⟨q1, q2⟩ := stbS_sto hv
              obtain ⟨q3, q4⟩ := stoS_hp q1 q2
              have q1' : isIb (St.at ⟨r.tm, r.hp⟩ n) = true := q1
              rw [stbS_of q1', q4 r.hp]
              rfl
          · rename_i hg
            obtain ⟨e1, p2⟩ := put_fr h5
            have := put_of (r := r) (v := .und) p2
            rw [this]
            have : setAll r.tm (o.dst.toList.map (·, PV.und)) = setAll r.tm ups := (congrArg St.tm e1).symm
            exact congrArg (fun l => some (⟨l, r.hp⟩ : St)) this
          · simp at h5
      | ldb _ _ => rw [hop] at hb; simp [isLdb] at hb
      | zal heap cs =>
        rw [hop] at ho hc2
        cases heap <;> simp [isI, RO.cls] at ho hc2
      | bx heap agg x =>
        rw [hop] at ho hc2
        cases heap <;> simp [isI, RO.cls] at ho hc2
      | _ => rw [hop] at ho; simp [isI] at ho

def indep (pf : Nat → Bool) (a b : ROper) : Bool :=
  !a.op.isSla && !b.op.isSla && (pairOk (a.op.cls pf) (b.op.cls pf) || pairC a.op b.op) && a.W.all (fun t => !b.U.contains t) && b.W.all (fun t => !a.U.contains t)

theorem step_swap {cf : CF} {pf : Nat → Bool} (hcf : CFNice pf cf) {a b : ROper} (h : indep pf a b = true) {s s1 s2 : St} (e1 : stepS cf a s = some s1) (e2 : stepS cf b s1 = some s2) : ∃ s1', stepS cf b s = some s1' ∧ stepS cf a s1' = some s2 := by
  simp only [indep, Bool.and_eq_true, List.all_eq_true, Bool.not_eq_true', List.contains_eq_mem, decide_eq_false_iff_not] at h
  obtain ⟨⟨⟨⟨ha, hb⟩, h1⟩, h2⟩, h3⟩ := h
  rcases Bool.or_eq_true _ _ ▸ h1 with h1 | h1
  · exact swap (fr_step hcf a ha) (fr_step hcf b hb) a.W_U b.W_U h2 h3 h1 e1 e2
  · simp only [pairC, Bool.or_eq_true, Bool.and_eq_true] at h1
    rcases h1 with ⟨q1, q2⟩ | ⟨q1, q2⟩
    · exact swapIH (i_step hcf q1) (h_step hcf q2) a.W_U b.W_U h2 h3 e1 e2
    · exact swapHI (h_step hcf q1) (i_step hcf q2) a.W_U b.W_U h2 h3 e1 e2

theorem bubble {cf : CF} {pf : Nat → Bool} (hcf : CFNice pf cf) {ros : List ROper} {i : Nat} {oi : ROper} (hi : ros[i]? = some oi) (R2 : List Nat) : ∀ (R1 : List Nat), (∀ j ∈ R1, ∀ oj, ros[j]? = some oj → indep pf oj oi = true) → ∀ {s f : St},
    runs cf ros (R1 ++ i :: R2) s = some f → runs cf ros (i :: (R1 ++ R2)) s = some f
  | [], _, s, f, h => h
  | j :: R1, hR, s, f, h => by
    have ih := fun {s f : St} => bubble hcf hi R2 R1 (fun k hk => hR k (by simp [hk])) (s := s) (f := f)
    simp only [List.cons_append, runs, hi] at h ⊢
    cases hj : ros[j]? with
    | none =>
      rw [hj] at h
      have := ih h
      simp only [runs, hi] at this
      exact this
    | some oj =>
      rw [hj] at h
      simp only [Option.bind_eq_some_iff] at h ⊢
      obtain ⟨s1, e1, h⟩ := h
      have h2 := ih h
      simp only [runs, hi, Option.bind_eq_some_iff] at h2
      obtain ⟨s2, e2, h2⟩ := h2
      obtain ⟨s1', f1, f2⟩ := step_swap hcf (hR j (by simp) oj hj) e1 e2
      exact ⟨s1', f1, s2, f2, h2⟩


def preds (o : Oper) : List Nat := (o.after.toList.filter fun e => Region.binds .any e).map (·.on)

def maskOf (acc : List Nat) : List Nat → Nat → Nat
  | [], m => m
  | e :: r, m => maskOf acc r (m ||| (2 ^ e ||| acc.getD e 0))

def masks : List (List Nat) → List Nat → List Nat
  | [], acc => acc
  | ps :: r, acc => masks r (acc ++ [maskOf acc ps 0])

theorem maskOf_ok {L : Nat → Prop} {acc : List Nat} (hacc : ∀ e j, L e → (acc.getD e 0).testBit j = true → L j) : ∀ (ps : List Nat) (m : Nat), (∀ e ∈ ps, L e) → (∀ j, m.testBit j = true → L j) → ∀ j, (maskOf acc ps m).testBit j = true → L j
  | [], m, _, hm => hm
  | e :: r, m, hp, hm => by
    simp only [maskOf]
    refine maskOf_ok hacc r _ (fun x hx => hp x (by simp [hx])) ?_
    intro j hj
    simp only [Nat.testBit_or, Bool.or_eq_true] at hj
    rcases hj with hj | hj | hj
    · exact hm j hj
    · rw [Nat.testBit_two_pow] at hj
      have : e = j := by simpa using hj
      exact this ▸ hp e (by simp)
    · exact hacc e j (hp e (by simp)) hj

def MaskOk (L : Nat → Prop) (P : List (List Nat)) (acc : List Nat) : Prop := ∀ (k m : Nat), acc[k]? = some m → ∀ ps, P[k]? = some ps → (∀ e ∈ ps, L e) → ∀ j, m.testBit j = true → L j

theorem masks_ok {L : Nat → Prop} {P : List (List Nat)} (hL : ∀ k ps, P[k]? = some ps → L k → ∀ e ∈ ps, L e) : ∀ (rest : List (List Nat)) (acc : List Nat), P = (P.take acc.length) ++ rest → acc.length ≤ P.length → MaskOk L P acc → MaskOk L P (masks rest acc)
  | [], acc, _, _, h => h
  | ps :: r, acc, hP, hlen, h => by
    simp only [masks]
    have hk : P[acc.length]? = some ps := by
      rw [hP, List.getElem?_append_right (by simp [Nat.min_eq_left hlen])]
      simp [Nat.min_eq_left hlen]
    have hlt : acc.length < P.length := (List.getElem?_eq_some_iff.1 hk).1
    refine masks_ok hL r _ ?_ (by simp; omega) ?_
    · have h1 : P.take (acc.length + 1) = P.take acc.length ++ [ps] := by
        rw [List.take_add_one, hk]; rfl
      simp only [List.length_append, List.length_cons, List.length_nil, Nat.zero_add, h1, List.append_assoc, List.cons_append, List.nil_append]
      exact hP
    · intro k m hm qs hq hqs
      by_cases e : k < acc.length
      · rw [List.getElem?_append_left e] at hm
        exact h k m hm qs hq hqs
      · have hk' : k = acc.length := by
          have := (List.getElem?_eq_some_iff.1 hm).1
          simp at this
          omega
        subst hk'
        rw [List.getElem?_append_right (Nat.le_refl _)] at hm
        simp at hm
        subst hm
        rw [hk] at hq
        cases hq
        refine maskOf_ok ?_ ps 0 hqs (by simp)
        intro e j he hj
        by_cases hel : e < acc.length
        · have h1 : acc[e]? = some acc[e] := List.getElem?_eq_getElem hel
          have h2 : P[e]? = some P[e] := List.getElem?_eq_getElem (by omega)
          rw [List.getD_eq_getElem?_getD, h1] at hj
          exact h e _ h1 _ h2 (hL e _ h2 he) j hj
        · rw [List.getD_eq_getElem?_getD, List.getElem?_eq_none (by omega)] at hj
          simp at hj

def pairsOk (pf : Nat → Bool) (ros : List ROper) (ms : List Nat) : List Nat → Bool
  | [] => true
  | i :: r => (match ros[i]? with
    | some oi => (List.range i).all fun j => (ms.getD i 0).testBit j || (match ros[j]? with | some oj => indep pf oj oi | none => true)
    | none => true) && pairsOk pf ros ms r

def predsOk : List (List Nat) → Nat → Bool
  | [], _ => true
  | ps :: r, i => ps.all (fun e => decide (e < i)) && predsOk r (i + 1)

def drawOk (P : Program) (pf : Nat → Bool) (ops : Array Oper) (ros : List ROper) : Bool :=
  (P.follows .mixedOrders || !Region.departs ops) && predsOk (ops.toList.map preds) 0 && pairsOk pf ros (masks (ops.toList.map preds) []) (List.range ros.length)

theorem predsOk_get : ∀ {Ps : List (List Nat)} {i : Nat}, predsOk Ps i = true → ∀ k ps, Ps[k]? = some ps → ∀ e ∈ ps, e < i + k
  | [], i, _, k, ps, h => by simp at h
  | q :: r, i, hk, k, ps, h => by
    simp only [predsOk, Bool.and_eq_true, List.all_eq_true, decide_eq_true_eq] at hk
    cases k with
    | zero => simp at h; subst h; simpa using hk.1
    | succ k =>
      intro e he
      have := predsOk_get hk.2 k ps (by simpa using h) e he
      omega

theorem pairsOk_get {pf : Nat → Bool} {ros : List ROper} {ms : List Nat} : ∀ {l : List Nat}, pairsOk pf ros ms l = true → ∀ i ∈ l, ∀ oi, ros[i]? = some oi → ∀ j, j < i → ∀ oj, ros[j]? = some oj → (ms.getD i 0).testBit j = true ∨ indep pf oj oi = true
  | [], _, i, h => by simp at h
  | k :: r, hk, i, h => by
    simp only [pairsOk, Bool.and_eq_true] at hk
    rcases List.mem_cons.1 h with rfl | h
    · intro oi hoi j hj oj hoj
      have h1 := hk.1
      rw [hoi] at h1
      simp only [List.all_eq_true, List.mem_range, Bool.or_eq_true] at h1
      have h2 := h1 j hj
      rw [hoj] at h2
      exact h2
    · exact pairsOk_get hk.2 i h

section
variable {P : Program} {g : G} {w : World} {a : Act} {s s' : St}

theorem any_sound {cf : CF} {pf : Nat → Bool} (hcf : CFSound P cf) (hn : CFNice pf cf) {ops : Array Oper} {ros : List ROper} (hk : regOk P ops.toList ops.toList ros = true) (hd : drawOk P pf ops ros = true)
    {Q : Exit → Act → World → Prop} {f : St} : ∀ (fuel : Nat) (listed : Array Bool) (R : List Nat) {g : G} {w : World} {a : Act} {s : St},
      listed.size = ops.size → R.length ≤ fuel → R.Pairwise (· < ·) → (∀ i, i ∈ R ↔ i < ops.size ∧ listed.getD i false = false) →
      (∀ k ps, (ops.toList.map preds)[k]? = some ps → listed.getD k false = true → ∀ e ∈ ps, listed.getD e false = true) →
      runs cf ros R s = some f → Inv P g w a s → RegPost P g w a Q (.ok f) → wpAny P .any ops Q fuel listed a w := by
  obtain ⟨hlen, hget⟩ := regOk_get hk
  have hd' := hd
  simp only [drawOk, Bool.and_eq_true] at hd'
  obtain ⟨⟨_, hpreds⟩, hpairs⟩ := hd'
  have hlen' : ops.size = ros.length := by simpa using hlen
  have ready_of : ∀ (listed : Array Bool), listed.size = ops.size → ∀ i o, ops[i]? = some o → (i ∈ Region.ready .any ops listed ↔ listed.getD i false = false ∧ ∀ e ∈ preds o, listed.getD e false = true) := by
    intro listed hsz i o ho
    have hlt : i < ops.size := (Array.getElem?_eq_some_iff.1 ho).1
    have hgd : listed.getD i true = listed.getD i false := by simp [hsz, hlt]
    rw [mem_ready, hgd, ho]
    simp only [Option.some.injEq, exists_eq_left', preds, List.mem_map, List.mem_filter, Array.mem_toList_iff]
    constructor
    · rintro ⟨h1, h2⟩
      refine ⟨h1, ?_⟩
      rintro e ⟨e', ⟨h3, h4⟩, rfl⟩
      exact h2 e' h3 h4
    · rintro ⟨h1, h2⟩
      exact ⟨h1, fun e he hb => h2 e.on ⟨e, ⟨he, hb⟩, rfl⟩⟩
  have done : ∀ (listed : Array Bool) (R : List Nat), listed.size = ops.size → R.Pairwise (· < ·) → (∀ i, i ∈ R ↔ i < ops.size ∧ listed.getD i false = false) → Region.ready .any ops listed = [] → R = [] := by
    intro listed R hsz hpw hR hr
    cases R with
    | nil => rfl
    | cons i R =>
      obtain ⟨hi, hil⟩ := (hR i).1 (by simp)
      have ho : ops[i]? = some ops[i] := Array.getElem?_eq_getElem hi
      have : i ∈ Region.ready .any ops listed := by
        rw [ready_of listed hsz i _ ho]
        refine ⟨hil, fun e he => ?_⟩
        have hei : e < 0 + i := predsOk_get hpreds i (preds ops[i]) (by simp [ho]) e he
        cases hb : listed.getD e false with
        | true => rfl
        | false =>
          exfalso
          have hm := (hR e).2 ⟨by omega, hb⟩
          rcases List.mem_cons.1 hm with rfl | hm
          · omega
          · have := (List.pairwise_cons.1 hpw).1 e hm
            omega
      rw [hr] at this
      simp at this
  intro fuel
  induction fuel with
  | zero =>
    intro listed R g w a s hsz hfuel hpw hR hcl hrun hI hp
    have hnil : R = [] := List.eq_nil_of_length_eq_zero (by omega)
    subst hnil
    simp only [runs, Option.some.injEq] at hrun
    subst hrun
    refine ⟨?_, hp g w a hI (Chg.refl _ _ _) rfl⟩
    cases hr : Region.ready .any ops listed with
    | nil => rfl
    | cons i l =>
      exfalso
      have hm : i ∈ Region.ready .any ops listed := by rw [hr]; simp
      obtain ⟨h1, o, ho, _⟩ := mem_ready.1 hm
      have hlt : i < ops.size := (Array.getElem?_eq_some_iff.1 ho).1
      have := (hR i).2 ⟨hlt, ((ready_of listed hsz i o ho).1 hm).1⟩
      simp at this
  | succ fuel ih =>
    intro listed R g w a s hsz hfuel hpw hR hcl hrun hI hp
    refine ⟨fun hr => ?_, fun i hi => ?_⟩
    · have hnil := done listed R hsz hpw hR hr
      subst hnil
      simp only [runs, Option.some.injEq] at hrun
      subst hrun
      exact hp g w a hI (Chg.refl _ _ _) rfl
    · obtain ⟨_, o, ho, _⟩ := mem_ready.1 hi
      have hlt : i < ops.size := (Array.getElem?_eq_some_iff.1 ho).1
      obtain ⟨hil, hpl⟩ := (ready_of listed hsz i o ho).1 hi
      have hiR := (hR i).2 ⟨hlt, hil⟩
      obtain ⟨R1, R2, rfl⟩ := List.append_of_mem hiR
      obtain ⟨ro, hro, hdst, hok, hg⟩ := hget i o (by simpa using ho)
      have hlt1 : ∀ j ∈ R1, j < i := fun j hj => (List.pairwise_append.1 hpw).2.2 j hj i (by simp)
      have hlt2 : ∀ j ∈ R2, i < j := fun j hj => (List.pairwise_cons.1 (List.pairwise_append.1 hpw).2.1).1 j hj
      have hmask : MaskOk (fun k => listed.getD k false = true) (ops.toList.map preds) (masks (ops.toList.map preds) []) :=
        masks_ok hcl _ [] (by simp) (by simp) (by intro k m hm; simp at hm)
      have hind : ∀ j ∈ R1, ∀ oj, ros[j]? = some oj → indep pf oj ro = true := by
        intro j hj oj hoj
        rcases pairsOk_get hpairs i (by simp [← hlen', hlt]) ro hro j (hlt1 j hj) oj hoj with hb | hb
        · exfalso
          cases hm : (masks (ops.toList.map preds) [])[i]? with
          | none => rw [List.getD_eq_getElem?_getD, hm] at hb; simp at hb
          | some m =>
            rw [List.getD_eq_getElem?_getD, hm] at hb
            have h1 := hmask i m hm (preds o) (by simp [ho]) hpl j hb
            have h2 := ((hR j).1 (by simp [hj])).2
            rw [h1] at h2
            simp at h2
        · exact hb
      have hrun' := bubble hn hro R2 R1 hind hrun
      simp only [runs, hro, Option.bind_eq_some_iff] at hrun'
      obtain ⟨s1, e1, hrun'⟩ := hrun'
      have hgs : ∀ j, (listed.setIfInBounds i true).getD j false = if i = j then true else listed.getD j false := by
        intro j
        by_cases e : i = j
        · subst e; simp [hsz, hlt]
        · simp only [if_neg e]; exact getD_set_ne false e
      have next : ∀ g' w' a', Inv P g' w' a' s1 → Chg Mine g w g' w' → a'.defers = a.defers → wpAny P .any ops Q fuel (listed.setIfInBounds i true) a' w' := by
        intro g' w' a' hI' hc hdf
        refine ih (listed.setIfInBounds i true) (R1 ++ R2) (by simp [hsz]) ?_ ?_ ?_ ?_ hrun' hI' (hp.step hc hdf)
        · simp only [List.length_append, List.length_cons] at hfuel ⊢
          omega
        · rw [List.pairwise_append] at hpw ⊢
          exact ⟨hpw.1, (List.pairwise_cons.1 hpw.2.1).2, fun x hx y hy => hpw.2.2 x hx y (by simp [hy])⟩
        · intro j
          rw [hgs]
          by_cases e : i = j
          · subst e
            simp only [if_true, Bool.true_eq_false, and_false, iff_false, List.mem_append, not_or]
            exact ⟨fun h => by have := hlt1 i h; omega, fun h => by have := hlt2 i h; omega⟩
          · simp only [if_neg e]
            rw [← hR j]
            simp only [List.mem_append, List.mem_cons]
            constructor
            · rintro (h | h)
              · exact .inl h
              · exact .inr (.inr h)
            · rintro (h | h | h)
              · exact .inl h
              · exact absurd h.symm e
              · exact .inr h
        · intro k ps hps hkl e he
          rw [hgs] at hkl ⊢
          by_cases e1 : i = e
          · simp [e1]
          · simp only [if_neg e1]
            by_cases e2 : i = k
            · subst e2
              have : ps = preds o := by
                have h3 : (ops.toList.map preds)[i]? = some (preds o) := by simp [ho]
                rw [h3] at hps
                exact (Option.some.inj hps).symm
              subst this
              exact hpl e he
            · simp only [if_neg e2] at hkl
              exact hcl k ps hps hkl e he
      unfold wpOp
      rw [ho]
      simp only
      simp only [stepS] at e1
      split at e1
      · rename_i hw
        rw [wanted_ok hI hg hw]
        simp only [if_true]
        refine .inl ?_
        rw [← hdst] at e1
        cases hev : evOp cf o.dst ro.op s with
        | none => rw [hev] at e1; simp [okOf] at e1
        | some r1 =>
          rw [hev] at e1
          refine evOp_sound hcf hI hok hev ?_
          cases r1 with
          | ok s2 =>
            simp only [okOf, Option.some.injEq] at e1
            subst e1
            exact fun g' w' a' hI' hc hdf => next g' w' a' hI' hc hdf
          | pan x hp' => simp [okOf] at e1
      · rename_i hw
        rw [wanted_ok hI hg hw]
        simp only [Bool.false_eq_true, if_false]
        rw [← hdst] at e1
        exact next g w _ (hI.put (l := .ret 0) e1 rfl (by simp only [RepF])) (Chg.refl _ _ _) put_defers
      · simp at e1

theorem draw_sound {cf : CF} {pf : Nat → Bool} (hcf : CFSound P cf) (hn : CFNice pf cf) {id : Nat} {ops : Array Oper} {ros : List ROper} (hk : regOk P ops.toList ops.toList ros = true) (hd : drawOk P pf ops ros = true)
    {Q : Exit → Act → World → Prop} {f : St} (he : evOps cf ros s = some (.ok f)) (hI : Inv P g w.drew a s) (hp : RegPost P g w.drew a Q (.ok f)) : (Code.region id ops true).wp P Q a w := by
  refine wp_region_draw fun t => ?_
  have hd' := hd
  simp only [drawOk, Bool.and_eq_true] at hd'
  have hsch : Region.schedule (P.follows .mixedOrders) ops t = Region.linearise .any ops t := by
    unfold Region.schedule
    rw [hd'.1.1]
    simp
  rw [hsch]
  obtain ⟨hlen, _⟩ := regOk_get hk
  have hlen' : ops.size = ros.length := by simpa using hlen
  refine wpAny_sound ops.size t _ a _ (any_sound hcf hn hk hd ops.size _ (List.range ros.length) (by simp) (by simp [hlen']) ?_ ?_ ?_ (runs_of cf ros _ (by rw [evIdx_range]; exact he)) hI hp)
  · exact List.pairwise_lt_range
  · intro i
    rw [List.mem_range, hlen']
    constructor
    · intro h; exact ⟨h, by simp [h]⟩
    · intro h; exact h.1
  · intro k ps hps h
    exfalso
    by_cases hkl : k < ops.size
    · simp [hkl] at h
    · simp [Nat.not_lt.1 hkl] at h

def isLd : RO → Bool
  | .ld .. => true
  | _ => false
def panOk (P : Program) (pf : Nat → Bool) (ops : Array Oper) (ros : List ROper) (c : Nat) : Bool :=
  let ms := masks (ops.toList.map preds) []
  ((List.range ros.length).all fun j => decide (j ≤ c) || (ms.getD j 0).testBit c) &&
  ((List.range c).all fun j => match ros[j]? with | some o => (o.op.cls pf != 3 || isLd o.op) && !o.op.isSla | none => false) &&
  (match ros[c]? with | some o => (match o.op with | .call _ (.f g) _ => pf g | _ => false) | none => false)

def shp (hp : List Ent) : List (Option Nat) := hp.map fun
  | .box cs => some cs.length
  | _ => none
theorem dreadHp_shp : ∀ {a b : List Ent}, shp a = shp b → dreadHp a = dreadHp b := by
  have key : ∀ a : List Ent, dreadHp a = (shp a).map fun | some n => Ent.box (List.replicate n .dead) | none => .gone := by
    intro a
    induction a with
    | nil => rfl
    | cons e a ih =>
      cases e <;> simp [dreadHp, shp, List.map_const'] at ih ⊢ <;> exact ih
  intro a b h
  rw [key a, key b, h]
theorem take_len {m : Bool} {cs cs' : List PV} {off : Nat} {v : PV} (h : cellTake m cs off = some (v, cs')) : cs'.length = cs.length := by
  unfold cellTake at h
  split at h
  · simp only [Option.some.injEq, Prod.mk.injEq] at h
    rw [← h.2]
    simp
  · rw [Option.map_eq_some_iff] at h
    obtain ⟨q, _, h⟩ := h
    simp only [Prod.mk.injEq] at h
    rw [← h.2]
  · simp at h
theorem shp_set {hp : List Ent} {id : Nat} {cs cs' : List PV} (h : hp[id]? = some (.box cs)) (hl : cs'.length = cs.length) : shp (hp.set id (.box cs')) = shp hp := by
  unfold shp
  rw [List.map_set]
  apply List.ext_getElem?
  intro i
  by_cases e : id = i
  · subst e
    have hlt : id < hp.length := (List.getElem?_eq_some_iff.1 h).1
    rw [List.getElem?_set_self (by simpa using hlt), List.getElem?_map, h]
    simp [hl]
  · rw [List.getElem?_set_ne e]
theorem load_shp {s s' : St} {m : Bool} {agg : Option Nat} {a : PV} {self : Option Nat} {v : PV} (h : s.load m agg a self = some (v, s')) : shp s'.hp = shp s.hp := by
  unfold St.load at h
  split at h
  · split at h
    · simp only [Option.map_eq_some_iff, Prod.mk.injEq] at h
      obtain ⟨_, _, _, rfl⟩ := h
      rfl
    · simp only [Option.map_eq_some_iff, Prod.mk.injEq, Prod.exists] at h
      obtain ⟨_, _, _, _, rfl⟩ := h
      rfl
  · split at h
    · split at h
      · simp only [Option.map_eq_some_iff, Prod.mk.injEq] at h
        obtain ⟨_, _, _, rfl⟩ := h
        rfl
      · simp only [Option.map_eq_some_iff, Prod.mk.injEq, Prod.exists] at h
        obtain ⟨_, _, _, _, rfl⟩ := h
        rfl
    · simp at h
  · split at h
    · rename_i cs hcs
      split at h
      · simp only [Option.map_eq_some_iff, Prod.mk.injEq] at h
        obtain ⟨_, _, _, rfl⟩ := h
        rfl
      · simp only [Option.map_eq_some_iff, Prod.mk.injEq, Prod.exists] at h
        obtain ⟨w, cs', h1, _, rfl⟩ := h
        exact shp_set hcs (take_len h1)
    · simp at h
  · simp only [Option.map_eq_some_iff, Prod.mk.injEq] at h
    obtain ⟨_, _, _, rfl⟩ := h
    rfl
  · split at h
    · split at h
      · simp only [Option.map_eq_some_iff, Prod.mk.injEq] at h
        obtain ⟨_, _, _, rfl⟩ := h
        rfl
      · simp at h
    · simp at h
  · simp at h
theorem put_shp {s s' : St} {dst : Option Nat} {v : PV} (h : s.put dst v = some s') : s'.hp = s.hp := by
  unfold St.put at h
  split at h
  · simp only [Option.some.injEq] at h; rw [← h]
  · split at h
    · simp at h
    · simp only [Option.some.injEq] at h; rw [← h]
theorem ld_shp {cf : CF} {o : ROper} {s s1 : St} (hl : isLd o.op = true) (e : stepS cf o s = some s1) : shp s1.hp = shp s.hp := by
  unfold stepS at e
  split at e
  · cases ho : o.op with
    | ld m agg a =>
      rw [ho] at e
      simp only [evOp] at e
      cases h1 : s.load m agg (s.x a) a.self with
      | none => rw [h1] at e; simp [okOf] at e
      | some q =>
        obtain ⟨v, s2⟩ := q
        rw [h1] at e
        simp only [Option.bind_some, okPut] at e
        cases h2 : s2.put o.dst v with
        | none => rw [h2] at e; simp [okOf] at e
        | some s3 =>
          rw [h2] at e
          simp only [Option.map_some, okOf, Option.some.injEq] at e
          subst e
          rw [put_shp h2]
          exact load_shp h1
    | _ => rw [ho] at hl; simp [isLd] at hl
  · rw [put_shp e]
  · simp at e

structure Stay (W : List Nat) (s0 s : St) : Prop where
  len : s.tm.length = s0.tm.length
  hp : shp s.hp = shp s0.hp
  at_ : ∀ t, t ∉ W → (s0.at t).isPtr = true → s.at t = s0.at t

theorem setAll_len : ∀ (ups : List (Nat × PV)) (l : List PV), (setAll l ups).length = l.length
  | [], l => rfl
  | u :: ups, l => by
    rw [setAll, setAll_len ups]
    simp

theorem moved_kl (o : RO) (hl : o.isSla = false) : ∀ t ∈ o.kl, t ∈ moved o := by
  intro t ht
  cases o with
  | mv m x => cases x <;> cases m <;> simp_all [RO.kl, moved, X.tmps]
  | mvt x => cases x <;> simp_all [RO.kl, moved, X.tmps]
  | sto agg a x => cases x <;> simp_all [RO.kl, moved, X.tmps]
  | ext m x i => cases x <;> cases m <;> simp_all [RO.kl, moved, X.tmps]
  | app e sz b x y => cases x <;> simp_all [RO.kl, moved, X.tmps]
  | stb agg n x => cases x <;> simp_all [RO.kl, moved, X.tmps]
  | _ => simp_all [RO.kl]

theorem Stay.step {cf : CF} {pf : Nat → Bool} (hcf : CFNice pf cf) {W : List Nat} {s0 s s1 : St} (h : Stay W s0 s) {o : ROper} (hc : o.op.cls pf ≠ 3 ∨ isLd o.op = true) (hl : o.op.isSla = false) (hW : ∀ t ∈ o.dst.toList ++ moved o.op, t ∈ W) (e : stepS cf o s = some s1) : Stay W s0 s1 := by
  obtain ⟨ups, k, rfl, n1, o1, _⟩ := fr_step hcf o hl s s1 e
  refine ⟨by rw [← h.len]; exact setAll_len _ _, ?_, fun t ht hp => ?_⟩
  · rw [← h.hp]
    rcases hc with hc | hc
    · rw [n1 hc]; rfl
    · exact ld_shp hc e
  have hw : t ∉ o.W := fun hw => ht (hW t (by
    rcases List.mem_append.1 hw with h1 | h1
    · exact List.mem_append.2 (.inl h1)
    · exact List.mem_append.2 (.inr (moved_kl _ hl t h1))))
  have h1 := up_at o1 hw
  have h2 := h.at_ t ht hp
  have h3 : isIb (s.at t) = false := by rw [h2]; cases hq : s0.at t <;> rw [hq] at hp <;> simp [PV.isPtr] at hp; rfl
  have h4 : nrm ((setAll s.tm ups).getD t .dead) = nrm (s.at t) := h1
  have h5 := nrm_eq h4.symm h3
  show (setAll s.tm ups).getD t .dead = s0.at t
  rw [← h5, h2]

theorem dread_get {W : List Nat} : ∀ (l : List PV) (i t : Nat) (q : PV), (dreadTm W i l)[t]? = some q → q = .dead ∨ (l[t]? = some q ∧ q.isPtr = true ∧ (i + t) ∉ W)
  | [], i, t, q, h => by simp [dreadTm] at h
  | p :: l, i, 0, q, h => by
    simp only [dreadTm, List.getElem?_cons_zero, Option.some.injEq] at h
    split at h
    · rename_i hc
      simp only [Bool.and_eq_true, Bool.not_eq_true', List.contains_eq_mem, decide_eq_false_iff_not] at hc
      subst h
      exact .inr ⟨rfl, hc.1, by simpa using hc.2⟩
    · exact .inl h.symm
  | p :: l, i, t + 1, q, h => by
    simp only [dreadTm, List.getElem?_cons_succ] at h ⊢
    rcases dread_get l (i + 1) t q h with h | ⟨h1, h2, h3⟩
    · exact .inl h
    · exact .inr ⟨h1, h2, by rwa [show i + 1 + t = i + (t + 1) by omega] at h3⟩
theorem dread_len {W : List Nat} : ∀ (l : List PV) (i : Nat), (dreadTm W i l).length = l.length
  | [], i => rfl
  | p :: l, i => by simp [dreadTm, dread_len l]

theorem Inv.dread {W : List Nat} {s0 : St} (h : Inv P g w a s) (hs : Stay W s0 s) : Inv P g w a (dread W s0) := by
  refine ⟨by rw [h.size, hs.len]; exact (dread_len _ _).symm, ?_, ?_⟩
  · intro t q ht
    rcases dread_get _ _ _ _ ht with rfl | ⟨h1, h2, h3⟩
    · exact RepS.dead'
    · rw [Nat.zero_add] at h3
      have hat0 : s0.at t = q := getD_some h1
      have hat := hs.at_ t h3 (by rw [hat0]; exact h2)
      rw [hat0] at hat
      cases q with
      | ptr id off =>
        obtain ⟨_, k⟩ := h.slot' (t := t) (p := .ptr id off) hat (by simp)
        exact k
      | _ => simp [PV.isPtr] at h2
  · have hh := h.heap
    have hd : (Pe.dread W s0).hp = dreadHp s.hp := (dreadHp_shp hs.hp).symm
    rw [hd]
    refine ⟨by rw [hh.nb]; simp [Pe.dread, dreadHp], ?_, ?_⟩
    rotate_left
    · intro i cs2 hi
      simp only [dreadHp, List.getElem?_map, Option.map_eq_some_iff] at hi
      obtain ⟨e0, _, he0⟩ := hi
      refine LiesAll.none fun p hp => ?_
      cases e0 with
      | box cs =>
        simp only [Ent.box.injEq] at he0
        subst he0
        rw [List.mem_map] at hp
        obtain ⟨_, _, rfl⟩ := hp
        rfl
      | row _ _ => cases he0
      | gone => cases he0
    intro id e he
    simp only [dreadHp, List.getElem?_map, Option.map_eq_some_iff] at he
    obtain ⟨e0, h0, rfl⟩ := he
    have := hh.ent id e0 h0
    cases e0 with
    | box cs =>
      obtain ⟨c, e, zz, hz, k1, k2, k3, k4⟩ := this
      refine ⟨c, e, zz, hz, k1, k2, k3, by simpa using k4.1, ?_⟩
      intro j p hj
      rw [List.getElem?_map, Option.map_eq_some_iff] at hj
      obtain ⟨p0, hp0, rfl⟩ := hj
      obtain ⟨u, u1, u2, _⟩ := k4.2 j p0 hp0
      exact ⟨u, u1, u2, by simp only [RepF]⟩
    | row _ _ => trivial
    | gone => trivial

theorem pan_call {cf : CF} {b : ROper} {m : Bool} {k : Nat} {args : List X} (hb : b.op = .call m (.f k) args) {s : St} {v : D} :
    panAt cf b s = some v ↔ wanted s b.g = some true ∧ ∃ vs hp', optAll (args.map fun x => (s.x x).cp) = some vs ∧ cf k (vs ++ []) s.hp = some (.pan v hp') := by
  have e : evOp cf b.dst b.op s = (optAll (args.map fun x => (s.x x).cp)).bind fun vs => (cf k (vs ++ []) s.hp).bind fun
        | .ret v hp => okPut { s with hp } b.dst (if m then v else v.demote)
        | .pan v hp => some (.pan v { s with hp }) := by rw [hb]; rfl
  unfold panAt
  cases hw : wanted s b.g with
  | none => simp
  | some bb =>
  cases bb with
  | false => simp
  | true =>
  simp only [true_and]
  rw [e]
  cases optAll (args.map fun x => (s.x x).cp) with
  | none => simp
  | some vs =>
    simp only [Option.bind_some, Option.some.injEq, exists_and_left, exists_eq_left']
    cases cf k (vs ++ []) s.hp with
    | none => simp
    | some o =>
      cases o with
      | ret w hp =>
        simp only [Option.bind_some, okPut, Option.some.injEq, reduceCtorEq, exists_false, iff_false]
        cases St.put { s with hp } b.dst (if m then w else w.demote) <;> simp
      | pan w hp => simp

theorem args_same {cf : CF} {pf : Nat → Bool} (hcf : CFNice pf cf) {a b : ROper} (h : indep pf a b = true) {m : Bool} {k : Nat} (hpk : pf k = true) {args : List X} (hb : b.op = .call m (.f k) args) {s s1 : St} (e1 : stepS cf a s = some s1) {v : D} (hp : panAt cf b s1 = some v) : panAt cf b s = some v := by
  simp only [indep, Bool.and_eq_true, List.all_eq_true, Bool.not_eq_true', List.contains_eq_mem, decide_eq_false_iff_not] at h
  obtain ⟨⟨⟨⟨ha, _⟩, _⟩, h2⟩, _⟩ := h
  obtain ⟨ups, q, rfl, n1, o1, _⟩ := fr_step hcf a ha s s1 e1
  have hn : ∀ t ∈ b.U, nrm (St.at ⟨setAll s.tm ups, q.getD s.hp⟩ t) = nrm (s.at t) := fun t ht => up_at o1 fun hw => h2 t hw ht
  have hw := wanted_nrm (s := s) (r := ⟨setAll s.tm ups, q.getD s.hp⟩) (g := b.g) (fun t ht => hn t (by simp [ROper.U, ht]))
  rw [pan_call hb] at hp ⊢
  obtain ⟨hw2, vs, hp', k1, k2⟩ := hp
  rw [hw] at hw2
  have hx : ∀ x ∈ args, nrm (s.x x) = nrm (St.x ⟨setAll s.tm ups, q.getD s.hp⟩ x) := fun x hx => x_nrm (s := s) (r := ⟨setAll s.tm ups, q.getD s.hp⟩) fun t ht => hn t (by
      simp only [ROper.U, hb, RO.xs, List.mem_append]
      exact .inr (.inr (List.mem_flatMap.2 ⟨x, by simp [hx], ht⟩)))
  have hcp : optAll (args.map fun x => (s.x x).cp) = optAll (args.map fun x => (St.x ⟨setAll s.tm ups, q.getD s.hp⟩ x).cp) := optAll_congr args fun x hx' => nrm_cp (hx x hx')
  exact ⟨hw2, vs, s.hp, by rw [hcp]; exact k1, (hcf.ppan k hpk _ _ _ _ k2).2 s.hp⟩

theorem runs_pan {cf : CF} {pf : Nat → Bool} (hcf : CFNice pf cf) {ros : List ROper} {oc : ROper} {m : Bool} {k : Nat} (hpk : pf k = true) {args : List X} (hb : oc.op = .call m (.f k) args) {v : D} : ∀ (R : List Nat), (∀ j ∈ R, ∀ oj, ros[j]? = some oj → indep pf oj oc = true) → ∀ {s s1 : St}, runs cf ros R s = some s1 → panAt cf oc s1 = some v → panAt cf oc s = some v
  | [], _, s, s1, h, hp => by
    simp only [runs, Option.some.injEq] at h
    subst h
    exact hp
  | j :: R, hR, s, s1, h, hp => by
    simp only [runs] at h
    cases hj : ros[j]? with
    | none =>
      rw [hj] at h
      exact runs_pan hcf hpk hb R (fun j hj => hR j (by simp [hj])) h hp
    | some oj =>
      rw [hj] at h
      simp only [Option.bind_eq_some_iff] at h
      obtain ⟨s2, e1, h⟩ := h
      have := runs_pan hcf hpk hb R (fun j hj => hR j (by simp [hj])) h hp
      exact args_same hcf (hR j (by simp) oj hj) hpk hb e1 this

theorem pan_any {cf : CF} {pf : Nat → Bool} (hcf : CFSound P cf) (hn : CFNice pf cf) {ops : Array Oper} {ros : List ROper} (hk : regOk P ops.toList ops.toList ros = true) (hd : drawOk P pf ops ros = true) {c : Nat} (hpk : panOk P pf ops ros c = true)
    {Q : Exit → Act → World → Prop} {oc : ROper} (hoc : ros[c]? = some oc) {v : D} {s0 s1 : St} : ∀ (fuel : Nat) (listed : Array Bool) (R : List Nat) {g : G} {w : World} {a : Act} {s : St},
      listed.size = ops.size → R.length < fuel → R.Pairwise (· < ·) → (∀ i, i ∈ R ↔ i < c ∧ listed.getD i false = false) → listed.getD c false = false →
      (∀ k ps, (ops.toList.map preds)[k]? = some ps → listed.getD k false = true → ∀ e ∈ ps, listed.getD e false = true) →
      runs cf ros R s = some s1 → panAt cf oc s1 = some v → Stay (dsts ros) s0 s → Inv P g w a s → RegPost P g w a Q (.pan v (dread (dsts ros) s0)) → wpAny P .any ops Q fuel listed a w := by
  obtain ⟨hlen, hget⟩ := regOk_get hk
  have hd' := hd
  simp only [drawOk, Bool.and_eq_true] at hd'
  obtain ⟨⟨_, hpreds⟩, hpairs⟩ := hd'
  have hlen' : ops.size = ros.length := by simpa using hlen
  have hcl0 : c < ros.length := (List.getElem?_eq_some_iff.1 hoc).1
  simp only [panOk, Bool.and_eq_true, List.all_eq_true, List.mem_range, Bool.or_eq_true, decide_eq_true_eq] at hpk
  obtain ⟨⟨hp1, hp2⟩, hp3⟩ := hpk
  rw [hoc] at hp3
  obtain ⟨m, k, args, hop, hpure⟩ : ∃ m k args, oc.op = .call m (.f k) args ∧ pf k = true := by
    simp only at hp3
    split at hp3
    · rename_i m k args e
      exact ⟨m, k, args, e, hp3⟩
    · simp at hp3
  have ready_of : ∀ (listed : Array Bool), listed.size = ops.size → ∀ i o, ops[i]? = some o → (i ∈ Region.ready .any ops listed ↔ listed.getD i false = false ∧ ∀ e ∈ preds o, listed.getD e false = true) := by
    intro listed hsz i o ho
    have hlt : i < ops.size := (Array.getElem?_eq_some_iff.1 ho).1
    have hgd : listed.getD i true = listed.getD i false := by simp [hsz, hlt]
    rw [mem_ready, hgd, ho]
    simp only [Option.some.injEq, exists_eq_left', preds, List.mem_map, List.mem_filter, Array.mem_toList_iff]
    constructor
    · rintro ⟨h1, h2⟩
      refine ⟨h1, ?_⟩
      rintro e ⟨e', ⟨h3, h4⟩, rfl⟩
      exact h2 e' h3 h4
    · rintro ⟨h1, h2⟩
      exact ⟨h1, fun e he hb => h2 e.on ⟨e, ⟨he, hb⟩, rfl⟩⟩
  have some_ready : ∀ (listed : Array Bool) (R : List Nat), listed.size = ops.size → R.Pairwise (· < ·) → (∀ i, i ∈ R ↔ i < c ∧ listed.getD i false = false) → listed.getD c false = false → Region.ready .any ops listed ≠ [] := by
    intro listed R hsz hpw hR hcl hr
    have key : ∀ i, i < ops.size → listed.getD i false = false → (∀ e, e < i → listed.getD e false = true) → False := by
      intro i hi hil hmin
      have ho : ops[i]? = some ops[i] := Array.getElem?_eq_getElem hi
      have : i ∈ Region.ready .any ops listed := by
        rw [ready_of listed hsz i _ ho]
        refine ⟨hil, fun e he => ?_⟩
        have hei : e < 0 + i := predsOk_get hpreds i (preds ops[i]) (by simp [ho]) e he
        exact hmin e (by omega)
      rw [hr] at this
      simp at this
    cases R with
    | nil =>
      refine key c (by omega) hcl fun e he => ?_
      cases hb : listed.getD e false with
      | true => rfl
      | false =>
        have := (hR e).2 ⟨he, hb⟩
        simp at this
    | cons i R =>
      obtain ⟨hi, hil⟩ := (hR i).1 (by simp)
      refine key i (by omega) hil fun e he => ?_
      cases hb : listed.getD e false with
      | true => rfl
      | false =>
        exfalso
        have hm := (hR e).2 ⟨by omega, hb⟩
        rcases List.mem_cons.1 hm with rfl | hm
        · omega
        · have := (List.pairwise_cons.1 hpw).1 e hm
          omega
  intro fuel
  induction fuel with
  | zero =>
    intro listed R g w a s hsz hfuel
    omega
  | succ fuel ih =>
    intro listed R g w a s hsz hfuel hpw hR hlc hcl hrun hpan hst hI hp
    refine ⟨fun hr => absurd hr (some_ready listed R hsz hpw hR hlc), fun i hi => ?_⟩
    obtain ⟨_, o, ho, _⟩ := mem_ready.1 hi
    have hlt : i < ops.size := (Array.getElem?_eq_some_iff.1 ho).1
    obtain ⟨hil, hpl⟩ := (ready_of listed hsz i o ho).1 hi
    obtain ⟨ro, hro, hdst, hok, hg⟩ := hget i o (by simpa using ho)
    have hmask : MaskOk (fun k => listed.getD k false = true) (ops.toList.map preds) (masks (ops.toList.map preds) []) :=
      masks_ok hcl _ [] (by simp) (by simp) (by intro k m hm; simp at hm)
    have notmask : ∀ j, listed.getD j false = false → ¬ ((masks (ops.toList.map preds) []).getD i 0).testBit j = true := by
      intro j hj hb
      cases hm : (masks (ops.toList.map preds) [])[i]? with
      | none => rw [List.getD_eq_getElem?_getD, hm] at hb; simp at hb
      | some m =>
        rw [List.getD_eq_getElem?_getD, hm] at hb
        have h1 : listed.getD j false = true := hmask i m hm (preds o) (by simp [ho]) hpl j hb
        rw [hj] at h1
        simp at h1
    have hind : ∀ j, j < i → listed.getD j false = false → ∀ oj, ros[j]? = some oj → indep pf oj ro = true := by
      intro j hj hlj oj hoj
      rcases pairsOk_get hpairs i (by simp [← hlen', hlt]) ro hro j hj oj hoj with hb | hb
      · exact absurd hb (notmask j hlj)
      · exact hb
    have hcls : ∀ j, j < c → ∀ oj, ros[j]? = some oj → (oj.op.cls pf ≠ 3 ∨ isLd oj.op = true) ∧ oj.op.isSla = false := by
      intro j hj oj hoj
      have := hp2 j hj
      rw [hoj] at this
      simpa using this
    have hWs : ∀ (j : Nat) (oj : ROper), ros[j]? = some oj → ∀ t ∈ oj.dst.toList ++ moved oj.op, t ∈ dsts ros := by
      intro j oj hoj t ht
      exact List.mem_flatMap.2 ⟨oj, List.mem_of_getElem? hoj, ht⟩
    rcases Nat.lt_trichotomy i c with hic | rfl | hic
    · -- one ahead of the call
      have hiR := (hR i).2 ⟨hic, hil⟩
      obtain ⟨R1, R2, rfl⟩ := List.append_of_mem hiR
      have hlt1 : ∀ j ∈ R1, j < i := fun j hj => (List.pairwise_append.1 hpw).2.2 j hj i (by simp)
      have hlt2 : ∀ j ∈ R2, i < j := fun j hj => (List.pairwise_cons.1 (List.pairwise_append.1 hpw).2.1).1 j hj
      have hrun' := bubble hn hro R2 R1 (fun j hj => hind j (hlt1 j hj) ((hR j).1 (by simp [hj])).2) hrun
      simp only [runs, hro, Option.bind_eq_some_iff] at hrun'
      obtain ⟨s2, e1, hrun'⟩ := hrun'
      have hst' := hst.step hn (hcls i hic ro hro).1 (hcls i hic ro hro).2 (hWs i ro hro) e1
      have hgs : ∀ j, (listed.setIfInBounds i true).getD j false = if i = j then true else listed.getD j false := by
        intro j
        by_cases e : i = j
        · subst e; simp [hsz, hlt]
        · simp only [if_neg e]; exact getD_set_ne false e
      have next : ∀ g' w' a', Inv P g' w' a' s2 → Chg Mine g w g' w' → a'.defers = a.defers → wpAny P .any ops Q fuel (listed.setIfInBounds i true) a' w' := by
        intro g' w' a' hI' hc hdf
        refine ih (listed.setIfInBounds i true) (R1 ++ R2) (by simp [hsz]) ?_ ?_ ?_ ?_ ?_ hrun' hpan hst' hI' (hp.step hc hdf)
        · simp only [List.length_append, List.length_cons] at hfuel ⊢
          omega
        · rw [List.pairwise_append] at hpw ⊢
          exact ⟨hpw.1, (List.pairwise_cons.1 hpw.2.1).2, fun x hx y hy => hpw.2.2 x hx y (by simp [hy])⟩
        · intro j
          rw [hgs]
          by_cases e : i = j
          · subst e
            simp only [if_true, Bool.true_eq_false, and_false, iff_false, List.mem_append, not_or]
            exact ⟨fun h => by have := hlt1 i h; omega, fun h => by have := hlt2 i h; omega⟩
          · simp only [if_neg e]
            rw [← hR j]
            simp only [List.mem_append, List.mem_cons]
            constructor
            · rintro (h | h)
              · exact .inl h
              · exact .inr (.inr h)
            · rintro (h | h | h)
              · exact .inl h
              · exact absurd h.symm e
              · exact .inr h
        · rw [hgs, if_neg (by omega)]
          exact hlc
        · intro k ps hps hkl e he
          rw [hgs] at hkl ⊢
          by_cases e1 : i = e
          · simp [e1]
          · simp only [if_neg e1]
            by_cases e2 : i = k
            · subst e2
              have : ps = preds o := by
                have h3 : (ops.toList.map preds)[i]? = some (preds o) := by simp [ho]
                rw [h3] at hps
                exact (Option.some.inj hps).symm
              subst this
              exact hpl e he
            · simp only [if_neg e2] at hkl
              exact hcl k ps hps hkl e he
      unfold wpOp
      rw [ho]
      simp only
      simp only [stepS] at e1
      split at e1
      · rename_i hw
        rw [wanted_ok hI hg hw]
        simp only [if_true]
        refine .inl ?_
        rw [← hdst] at e1
        cases hev : evOp cf o.dst ro.op s with
        | none => rw [hev] at e1; simp [okOf] at e1
        | some r1 =>
          rw [hev] at e1
          refine evOp_sound hcf hI hok hev ?_
          cases r1 with
          | ok s3 =>
            simp only [okOf, Option.some.injEq] at e1
            subst e1
            exact fun g' w' a' hI' hc hdf => next g' w' a' hI' hc hdf
          | pan x hp' => simp [okOf] at e1
      · rename_i hw
        rw [wanted_ok hI hg hw]
        simp only [Bool.false_eq_true, if_false]
        rw [← hdst] at e1
        exact next g w _ (hI.put (l := .ret 0) e1 rfl (by simp only [RepF])) (Chg.refl _ _ _) put_defers
      · simp at e1
    · -- the call
      rw [hoc] at hro
      obtain rfl := Option.some.inj hro
      have hpan' := runs_pan hn hpure hop R (fun j hj oj hoj => by
        obtain ⟨h1, h2⟩ := (hR j).1 hj
        exact hind j h1 h2 oj hoj) hrun hpan
      obtain ⟨hw, vs, hp', k1, k2⟩ := (pan_call hop).1 hpan'
      have hhp := (hn.ppan k hpure _ _ _ _ k2).1
      subst hhp
      have hev : evOp cf oc.dst oc.op s = some (.pan v s) := by
        rw [hop]
        show (optAll (args.map fun x => (s.x x).cp)).bind _ = _
        rw [k1]
        simp only [Option.bind_some]
        rw [k2]
        rfl
      unfold wpOp
      rw [ho]
      simp only
      rw [wanted_ok hI hg hw]
      simp only [if_true]
      refine .inl ?_
      rw [← hdst] at hev
      refine evOp_sound hcf hI hok hev ?_
      exact fun g' w' u hx hI' hc => hp g' w' a u hx (hI'.dread hst) hc rfl
    · -- none behind it is at hand yet
      exfalso
      rcases hp1 i (by omega) with h | h
      · omega
      · exact notmask c hlc h

theorem draw_pan_sound {cf : CF} {pf : Nat → Bool} (hcf : CFSound P cf) (hn : CFNice pf cf) {id : Nat} {ops : Array Oper} {ros : List ROper} (hk : regOk P ops.toList ops.toList ros = true) (hd : drawOk P pf ops ros = true) {c : Nat} (hpk : panOk P pf ops ros c = true)
    {Q : Exit → Act → World → Prop} {s1 : St} {oc : ROper} (hoc : ros[c]? = some oc) {v : D} (he : evOps cf (ros.take c) s = some (.ok s1)) (hv : panAt cf oc s1 = some v) (hI : Inv P g w.drew a s) (hp : RegPost P g w.drew a Q (.pan v (dread (dsts ros) s))) : (Code.region id ops true).wp P Q a w := by
  refine wp_region_draw fun t => ?_
  have hd' := hd
  simp only [drawOk, Bool.and_eq_true] at hd'
  have hsch : Region.schedule (P.follows .mixedOrders) ops t = Region.linearise .any ops t := by
    unfold Region.schedule
    rw [hd'.1.1]
    simp
  rw [hsch]
  obtain ⟨hlen, _⟩ := regOk_get hk
  have hlen' : ops.size = ros.length := by simpa using hlen
  have hcl : c < ros.length := (List.getElem?_eq_some_iff.1 hoc).1
  refine wpAny_sound ops.size t _ a _ (pan_any hcf hn hk hd hpk hoc ops.size _ (List.range c) (s1 := s1) (s0 := s) (by simp) (by simp; omega) ?_ ?_ ?_ ?_ (runs_of cf ros _ ?_) hv ⟨rfl, rfl, fun _ _ _ => rfl⟩ hI hp)
  · exact List.pairwise_lt_range
  · intro i
    rw [List.mem_range]
    constructor
    · intro h; exact ⟨h, by simp [show i < ops.size by omega]⟩
    · intro h; exact h.1
  · simp [show c < ops.size by omega]
  · intro k ps hps h
    exfalso
    by_cases hkl : k < ops.size
    · simp [hkl] at h
    · simp [Nat.not_lt.1 hkl] at h
  · rw [← he, List.range_eq_range']
    refine evIdx_range' cf ros c (ros.take c) 0 s (fun i hi => ?_) (by simp; omega)
    rw [Nat.zero_add, List.getElem?_take, if_pos hi]
end
end Go.Pe

namespace Go.Pe
section
variable {P : Program} {g : G} {w : World} {a : Act} {s s' : St} {S : Nat → Nat → Prop}

def CodePost (P : Program) (g : G) (w : World) (a : Act) (Q : Exit → Act → World → Prop) (ex : Ex) (s' : St) : Prop :=
  match ex with
  | .pan x => ∀ g' w' a' u, DRep g'.stab w' x u → Inv P g' w' a' s' → Chg Mine g w g' w' → a'.defers = a.defers → Q (.panic [{ v := u, recovered := false }]) a' w'
  | .norm => ∀ g' w' a', Inv P g' w' a' s' → Chg Mine g w g' w' → a'.defers = a.defers → Q .normal a' w'
  | .exit id => ∀ g' w' a', Inv P g' w' a' s' → Chg Mine g w g' w' → a'.defers = a.defers → Q (.exit id) a' w'
  | .ret => ∀ g' w' a', Inv P g' w' a' s' → Chg Mine g w g' w' → a'.defers = a.defers → Q .ret a' w'

theorem CodePost.step {g' : G} {w' : World} {a' : Act} {Q : Exit → Act → World → Prop} {ex : Ex} (h : CodePost P g w a Q ex s') (hc : Chg Mine g w g' w') (hd : a'.defers = a.defers) : CodePost P g' w' a' Q ex s' := by
  cases ex with
  | pan x => exact fun g2 w2 a2 u hx hH hc2 hd2 => h g2 w2 a2 u hx hH (hc.trans hc2) (hd2.trans hd)
  | norm => exact fun g2 w2 a2 hI hc2 hd2 => h g2 w2 a2 hI (hc.trans hc2) (hd2.trans hd)
  | exit id => exact fun g2 w2 a2 hI hc2 hd2 => h g2 w2 a2 hI (hc.trans hc2) (hd2.trans hd)
  | ret => exact fun g2 w2 a2 hI hc2 hd2 => h g2 w2 a2 hI (hc.trans hc2) (hd2.trans hd)

theorem CodePost.weaken {Q Q' : Exit → Act → World → Prop} {ex : Ex} (h : CodePost P g w a Q ex s') (hq : ex ≠ .norm) (hQ : ∀ e a w, e ≠ .normal → Q e a w → Q' e a w) : CodePost P g w a Q' ex s' := by
  cases ex with
  | pan x => exact fun g2 w2 a2 u hx hH hc2 hd2 => hQ _ _ _ (by simp) (h g2 w2 a2 u hx hH hc2 hd2)
  | norm => exact absurd rfl hq
  | exit id => exact fun g2 w2 a2 hI hc2 hd2 => hQ _ _ _ (by simp) (h g2 w2 a2 hI hc2 hd2)
  | ret => exact fun g2 w2 a2 hI hc2 hd2 => hQ _ _ _ (by simp) (h g2 w2 a2 hI hc2 hd2)

theorem Inv.killAll (h : Inv P g w a s) : ∀ (l : List Nat), Inv P g w a { s with tm := killAll s.tm l } := by
  intro l
  have : ∀ (l : List Nat) (s : St), Inv P g w a s → Inv P g w a { s with tm := Pe.killAll s.tm l } := by
    intro l
    induction l with
    | nil => intro s h; exact h
    | cons t l ih =>
      intro s h
      simp only [Pe.killAll]
      split
      · exact ih s h
      · rename_i hne
        exact ih { s with tm := s.tm.set t .dead } (h.kill fun cs hc => hne cs (getD_some hc))
  exact this l s h

inductive HeadOf : PV → PV → Prop where
  | dead (p : PV) : HeadOf p .dead
  | keep (p : PV) (h : ∀ t o, p ≠ .ref t o) : HeadOf p p
  | norm (e : Nat) : HeadOf .nilsl (.own e [])

theorem head_go : ∀ (live : List LM) (tm : List PV), (St.head.go live tm).length = tm.length ∧ ∀ (t : Nat) (q : PV), (St.head.go live tm)[t]? = some q → ∃ p, tm[t]? = some p ∧ HeadOf p q
  | [], tm => by
    refine ⟨by simp [St.head.go], ?_⟩
    intro t q h
    simp only [St.head.go, List.getElem?_map, Option.map_eq_some_iff] at h
    obtain ⟨p, hp, rfl⟩ := h
    exact ⟨p, hp, .dead p⟩
  | m :: live, [] => by
    cases m <;> exact ⟨rfl, by simp [St.head.go]⟩
  | .kill :: live, p :: tm => by
    obtain ⟨i1, i2⟩ := head_go live tm
    refine ⟨by simp [St.head.go, i1], ?_⟩
    intro t q h
    cases t with
    | zero => simp [St.head.go] at h; subst h; exact ⟨p, rfl, .dead p⟩
    | succ t => simp only [St.head.go, List.getElem?_cons_succ] at h; exact i2 t q h
  | .keep :: live, p :: tm => by
    obtain ⟨i1, i2⟩ := head_go live tm
    refine ⟨by simp [St.head.go, i1], ?_⟩
    intro t q h
    cases t with
    | zero =>
      simp only [St.head.go, List.getElem?_cons_zero, Option.some.injEq] at h
      refine ⟨p, rfl, ?_⟩
      split at h
      · subst h; exact .dead _
      · rename_i hne
        subst h
        exact .keep _ hne
    | succ t => simp only [St.head.go, List.getElem?_cons_succ] at h; exact i2 t q h
  | .norm e :: live, p :: tm => by
    obtain ⟨i1, i2⟩ := head_go live tm
    refine ⟨by simp [St.head.go, i1], ?_⟩
    intro t q h
    cases t with
    | zero =>
      simp only [St.head.go, List.getElem?_cons_zero, Option.some.injEq] at h
      refine ⟨p, rfl, ?_⟩
      split at h
      · subst h; exact .norm e
      · subst h; exact .dead _
      · rename_i hne _
        subst h
        rename_i hne2
        exact .keep _ hne2
    | succ t => simp only [St.head.go, List.getElem?_cons_succ] at h; exact i2 t q h

theorem Inv.head (h : Inv P g w a s) (live : List LM) : Inv P g w a (s.head live) := by
  obtain ⟨h1, h2⟩ := head_go live s.tm
  refine ⟨by rw [h.size]; exact h1.symm, ?_, h.heap⟩
  intro t q ht
  obtain ⟨p, hp, hh⟩ := h2 t q ht
  have hr := h.slot t p hp
  cases hh with
  | dead => exact RepS.dead'
  | keep _ hne =>
    cases q with
    | ref t' o => exact absurd rfl (hne t' o)
    | _ => exact hr
  | norm e =>
    have hr' : RepF P g w (.tm t 0) .nilsl (a.va t) := hr
    simp only [RepF] at hr'
    show RepF P g w (.tm t 0) (.own e []) (a.va t)
    rw [hr']
    simp only [RepF]
    exact ⟨[], World.ownsRow_nil _ _ _ _, Flat.nil _ _ _, by simp [Value.ownBlock]⟩

theorem Inv.freeze1 (h : Inv P g w a s) {n : Nat} {s2 : St} (hf : freeze1 s n = some s2) : ∃ g', Inv P g' w a s2 ∧ Chg Mine g w g' w := by
  unfold Pe.freeze1 at hf
  split at hf
  · rename_i cs hcs
    split at hf
    · rename_i ds hds
      split at hf
      · rename_i hc
        simp only [Bool.and_eq_true, List.all_eq_true, Bool.not_eq_true'] at hc
        simp only [Option.some.injEq] at hf
        subst hf
        obtain ⟨_, g', _, v2, v3, _⟩ := h.open_ (h.slot' hcs (by simp)).1 hds hc.1 hc.2
        exact ⟨g', v3, v2⟩
      · simp at hf
    · simp at hf
  · simp at hf

def codeOk (P : Program) (pf : Nat → Bool) : Code → RCode → Bool
  | .skip, .skip => true
  | .ret, .ret _ => true
  | _, .stuck => true
  | .region _ ops true, .regp ros _ c => regOk P ops.toList ops.toList ros && drawOk P pf ops ros && panOk P pf ops ros c
  | .region _ ops d, .reg ros _ d' => d == d' && regOk P ops.toList ops.toList ros && (!d || drawOk P pf ops ros)
  | .seq x y, .seq x' y' => codeOk P pf x x' && codeOk P pf y y'
  | .seq x y, .seqf x' _ y' => codeOk P pf x x' && codeOk P pf y y'
  | .seq x y, .seqc x' _ y' => codeOk P pf x x' && codeOk P pf y y'
  | .cond c x y, .cond c' x' y' => xOk c c' && codeOk P pf x x' && codeOk P pf y y'
  | .block i c, .block i' _ c' => i == i' && codeOk P pf c c'
  | .loop c, .loop _ c' => codeOk P pf c c'
  | .exit i, .exit i' => i == i'
  | _, _ => false

theorem reg_post {Q : Exit → Act → World → Prop} {r : OR} {adr : List Nat} {ex : Ex} (hr : regEnd s adr r = (ex, s')) (hp : CodePost P g w a Q ex s') : RegPost P g w a Q r := by
  cases r with
  | ok s1 =>
    simp only [regEnd, Prod.mk.injEq] at hr
    obtain ⟨rfl, rfl⟩ := hr
    exact fun g' w' a' hI hc hd => hp g' w' a' (hI.killAll adr) hc hd
  | pan x hp' =>
    simp only [regEnd, Prod.mk.injEq] at hr
    obtain ⟨rfl, rfl⟩ := hr
    exact fun g' w' a' u hx hH hc hd => hp g' w' a' u hx hH hc hd

theorem evOps_append {cf : CF} {r : OR} : ∀ {l l' : List ROper} {s s1 : St}, evOps cf l s = some (.ok s1) → evOps cf l' s1 = some r → evOps cf (l ++ l') s = some r
  | [], l', s, s1, h1, h2 => by
    simp only [evOps, Option.some.injEq, OR.ok.injEq] at h1
    subst h1
    exact h2
  | o :: l, l', s, s1, h1, h2 => by
    simp only [List.cons_append, evOps] at h1 ⊢
    cases hw : wanted s o.g with
    | none => rw [hw] at h1; simp at h1
    | some b =>
      rw [hw] at h1
      cases b with
      | true =>
        simp only at h1 ⊢
        cases he : evOp cf o.dst o.op s with
        | none => rw [he] at h1; simp at h1
        | some q =>
          rw [he] at h1
          cases q with
          | ok s' => exact evOps_append h1 h2
          | pan v s' => simp at h1
      | false =>
        simp only at h1 ⊢
        cases he : s.put o.dst .und with
        | none => rw [he] at h1; simp at h1
        | some s' => rw [he] at h1; exact evOps_append h1 h2

theorem code_sound {cf : CF} (hcf : CFSound P cf) {pf : Nat → Bool} (hdk : CFNice pf cf) (n : Nat) : ∀ (c : Code) (rc : RCode), codeOk P pf c rc = true → ∀ {g : G} {w : World} {a : Act} {s s' : St} {ex : Ex} {Q : Exit → Act → World → Prop},
    evCode cf n rc s = some (ex, s') → Inv P g w a s → CodePost P g w a Q ex s' → c.wp P Q a w
  | .skip, rc, hk, g, w, a, s, s', ex, Q, he, h, hp => by
    cases rc <;> (try (simp [evCode] at he; done)) <;> simp [codeOk] at hk
    simp only [evCode, Option.some.injEq, Prod.mk.injEq] at he
    obtain ⟨rfl, rfl⟩ := he
    exact wp_skip (hp g w a h (Chg.refl _ _ _) rfl)
  | .ret, rc, hk, g, w, a, s, s', ex, Q, he, h, hp => by
    cases rc <;> (try (simp [evCode] at he; done)) <;> simp [codeOk] at hk
    simp only [evCode, Option.some.injEq, Prod.mk.injEq] at he
    obtain ⟨rfl, rfl⟩ := he
    exact wp_ret (hp g w a (h.head _) (Chg.refl _ _ _) rfl)
  | .exit i, rc, hk, g, w, a, s, s', ex, Q, he, h, hp => by
    cases rc <;> (try (simp [evCode] at he; done)) <;> simp [codeOk] at hk
    subst hk
    simp only [evCode, Option.some.injEq, Prod.mk.injEq] at he
    obtain ⟨rfl, rfl⟩ := he
    exact wp_exit (hp g w a h (Chg.refl _ _ _) rfl)
  | .region id ops d, rc, hk, g, w, a, s, s', ex, Q, he, h, hp => by
    cases rc with
    | reg ros adr d' =>
      simp only [codeOk, Bool.and_eq_true, beq_iff_eq, Bool.or_eq_true, Bool.not_eq_true'] at hk
      obtain ⟨⟨rfl, hreg⟩, hdraw⟩ := hk
      simp only [evCode] at he
      cases hev : evOps cf ros s with
      | none => rw [hev] at he; simp at he
      | some r =>
        rw [hev] at he
        simp only [Option.bind_some, Option.map_eq_some_iff] at he
        obtain ⟨r', hde, he⟩ := he
        have hrr : r' = r ∧ (d = true → ∃ f, r = .ok f) := by
          cases d <;> cases r <;> simp only [drawEnd, Option.some.injEq, reduceCtorEq] at hde <;> subst hde <;> simp
        obtain ⟨rfl, hok⟩ := hrr
        have hrp := reg_post (a := a) (Q := Q) he hp
        obtain ⟨hlen, _⟩ := regOk_get hreg
        cases d with
        | false =>
          refine wp_region (idx_sound hcf hreg _ (r := r') ?_ h hrp)
          rw [show ops.size = ros.length by rw [← hlen]; simp, evIdx_range]
          exact hev
        | true =>
          obtain ⟨f, rfl⟩ := hok rfl
          exact draw_sound hcf hdk hreg (hdraw.resolve_left (by simp)) hev (h.chg_idle (idle_none s) (Chg.drew _) rfl) (hrp.step (Chg.drew _) rfl)
    | stuck => simp [evCode] at he
    | regp ros adr c =>
      cases d with
      | false => simp [codeOk] at hk
      | true =>
      simp only [codeOk, Bool.and_eq_true] at hk
      obtain ⟨⟨hreg, hdraw⟩, hpk⟩ := hk
      simp only [evCode, evRegp] at he
      split at he
      · rename_i s1 h1
        obtain ⟨oc, hoc⟩ : ∃ oc, ros[c]? = some oc := by
          simp only [panOk, Bool.and_eq_true] at hpk
          cases ho : ros[c]? with
          | none => rw [ho] at hpk; simp at hpk
          | some oc => exact ⟨oc, rfl⟩
        rw [hoc, Option.bind_some] at he
        cases hpa : panAt cf oc s1 with
        | some v =>
          rw [hpa] at he
          simp only [regpK, Option.some.injEq, Prod.mk.injEq] at he
          obtain ⟨rfl, rfl⟩ := he
          refine draw_pan_sound hcf hdk hreg hdraw hpk hoc h1 hpa (h.chg_idle (idle_none s) (Chg.drew _) rfl) ?_
          exact fun g' w' a' u hx hI hc hd => hp g' w' a' u hx hI ((Chg.drew _).trans hc) hd
        | none =>
          rw [hpa] at he
          cases h2 : evOps cf (ros.drop c) s1 with
          | none => rw [h2] at he; simp [regpK] at he
          | some r =>
            cases r with
            | pan x s2 => rw [h2] at he; simp [regpK] at he
            | ok f =>
              rw [h2] at he
              simp only [regpK, Option.some.injEq, Prod.mk.injEq] at he
              obtain ⟨rfl, rfl⟩ := he
              have hev : evOps cf ros s = some (.ok f) := by
                rw [← List.take_append_drop c ros]
                exact evOps_append h1 h2
              refine draw_sound hcf hdk hreg hdraw hev (h.chg_idle (idle_none s) (Chg.drew _) rfl) ?_
              exact fun g' w' a' hI hc hd => hp g' w' a' (hI.killAll adr) ((Chg.drew _).trans hc) hd
      · simp at he
    | _ => first | (simp [evCode] at he; done) | (simp [codeOk] at hk; done)
  | .seq x y, rc, hk, g, w, a, s, s', ex, Q, he, h, hp => by
    cases rc with
    | seq x' y' =>
      simp only [codeOk, Bool.and_eq_true] at hk
      simp only [evCode] at he
      cases hev : evCode cf n x' s with
      | none => rw [hev] at he; simp at he
      | some r =>
        obtain ⟨ex1, s1⟩ := r
        rw [hev] at he
        refine wp_seq (code_sound hcf hdk n x x' hk.1 hev h ?_)
        cases ex1 with
        | norm =>
          simp only at he
          exact fun g1 w1 a1 hI hc hd => code_sound hcf hdk n y y' hk.2 he hI (hp.step hc hd)
        | exit i =>
          simp only [Option.some.injEq, Prod.mk.injEq] at he
          obtain ⟨rfl, rfl⟩ := he
          exact fun g1 w1 a1 hI hc hd => hp g1 w1 a1 hI hc hd
        | ret =>
          simp only [Option.some.injEq, Prod.mk.injEq] at he
          obtain ⟨rfl, rfl⟩ := he
          exact fun g1 w1 a1 hI hc hd => hp g1 w1 a1 hI hc hd
        | pan x =>
          simp only [Option.some.injEq, Prod.mk.injEq] at he
          obtain ⟨rfl, rfl⟩ := he
          exact fun g1 w1 a1 u hx hH hc hd => hp g1 w1 a1 u hx hH hc hd
    | seqc x' live y' =>
      simp only [codeOk, Bool.and_eq_true] at hk
      simp only [evCode] at he
      cases hev : evCode cf n x' s with
      | none => rw [hev] at he; simp at he
      | some r =>
        obtain ⟨ex1, s1⟩ := r
        rw [hev] at he
        refine wp_seq (code_sound hcf hdk n x x' hk.1 hev h ?_)
        cases ex1 with
        | norm =>
          simp only at he
          exact fun g1 w1 a1 hI hc hd => code_sound hcf hdk n y y' hk.2 he (hI.head live) (hp.step hc hd)
        | exit i =>
          simp only [Option.some.injEq, Prod.mk.injEq] at he
          obtain ⟨rfl, rfl⟩ := he
          exact fun g1 w1 a1 hI hc hd => hp g1 w1 a1 hI hc hd
        | ret =>
          simp only [Option.some.injEq, Prod.mk.injEq] at he
          obtain ⟨rfl, rfl⟩ := he
          exact fun g1 w1 a1 hI hc hd => hp g1 w1 a1 hI hc hd
        | pan x =>
          simp only [Option.some.injEq, Prod.mk.injEq] at he
          obtain ⟨rfl, rfl⟩ := he
          exact fun g1 w1 a1 u hx hH hc hd => hp g1 w1 a1 u hx hH hc hd
    | seqf x' k y' =>
      simp only [codeOk, Bool.and_eq_true] at hk
      simp only [evCode] at he
      cases hev : evCode cf n x' s with
      | none => rw [hev] at he; simp at he
      | some r =>
        obtain ⟨ex1, s1⟩ := r
        rw [hev] at he
        refine wp_seq (code_sound hcf hdk n x x' hk.1 hev h ?_)
        cases ex1 with
        | norm =>
          simp only at he
          split at he
          · rename_i s2 hfz
            exact fun g1 w1 a1 hI hc hd => by
              obtain ⟨g2, hI2, hc2⟩ := hI.freeze1 hfz
              exact code_sound hcf hdk n y y' hk.2 he hI2 (hp.step (hc.trans hc2) hd)
          · simp at he
        | exit i =>
          simp only [Option.some.injEq, Prod.mk.injEq] at he
          obtain ⟨rfl, rfl⟩ := he
          exact fun g1 w1 a1 hI hc hd => hp g1 w1 a1 hI hc hd
        | ret =>
          simp only [Option.some.injEq, Prod.mk.injEq] at he
          obtain ⟨rfl, rfl⟩ := he
          exact fun g1 w1 a1 hI hc hd => hp g1 w1 a1 hI hc hd
        | pan x =>
          simp only [Option.some.injEq, Prod.mk.injEq] at he
          obtain ⟨rfl, rfl⟩ := he
          exact fun g1 w1 a1 u hx hH hc hd => hp g1 w1 a1 u hx hH hc hd
    | _ => first | (simp [evCode] at he; done) | (simp [codeOk] at hk; done)
  | .cond c x y, rc, hk, g, w, a, s, s', ex, Q, he, h, hp => by
    cases rc with
    | cond c' x' y' =>
      simp only [codeOk, Bool.and_eq_true] at hk
      obtain ⟨⟨h1, h2⟩, h3⟩ := hk
      simp only [evCode] at he
      split at he
      · rename_i t hc
        have hcv := (x_toD h h1 (d := .bool t) (by rw [hc]; rfl)).bool_inv
        cases t with
        | true => exact wp_cond_true hcv (code_sound hcf hdk n x x' h2 he h hp)
        | false => exact wp_cond_false hcv (code_sound hcf hdk n y y' h3 he h hp)
      · simp at he
    | _ => first | (simp [evCode] at he; done) | (simp [codeOk] at hk; done)
  | .block i c, rc, hk, g, w, a, s, s', ex, Q, he, h, hp => by
    cases rc with
    | block i' live c' =>
      simp only [codeOk, Bool.and_eq_true, beq_iff_eq] at hk
      obtain ⟨rfl, hk⟩ := hk
      simp only [evCode] at he
      cases hev : evCode cf n c' s with
      | none => rw [hev] at he; simp at he
      | some r =>
        obtain ⟨ex1, s1⟩ := r
        rw [hev] at he
        refine wp_block (code_sound hcf hdk n c c' hk hev h ?_)
        cases ex1 with
        | norm =>
          simp only [Option.some.injEq, Prod.mk.injEq] at he
          obtain ⟨rfl, rfl⟩ := he
          exact fun g1 w1 a1 hI hc hd => hp g1 w1 a1 (hI.head live) hc hd
        | exit j =>
          simp only at he
          by_cases e : j = i
          · subst e
            simp only [if_true, Option.some.injEq, Prod.mk.injEq] at he
            obtain ⟨rfl, rfl⟩ := he
            exact fun g1 w1 a1 hI hc hd => by simp only [Exit.inBlock, if_true]; exact hp g1 w1 a1 (hI.head live) hc hd
          · simp only [if_neg e, Option.some.injEq, Prod.mk.injEq] at he
            obtain ⟨rfl, rfl⟩ := he
            exact fun g1 w1 a1 hI hc hd => by simp only [Exit.inBlock, if_neg e]; exact hp g1 w1 a1 hI hc hd
        | ret =>
          simp only [Option.some.injEq, Prod.mk.injEq] at he
          obtain ⟨rfl, rfl⟩ := he
          exact fun g1 w1 a1 hI hc hd => hp g1 w1 a1 hI hc hd
        | pan x =>
          simp only [Option.some.injEq, Prod.mk.injEq] at he
          obtain ⟨rfl, rfl⟩ := he
          exact fun g1 w1 a1 u hx hH hc hd => hp g1 w1 a1 u hx hH hc hd
    | _ => first | (simp [evCode] at he; done) | (simp [codeOk] at hk; done)
  | .loop c, rc, hk, g, w, a, s, s', ex, Q, he, h, hp => by
    cases rc with
    | loop live c' =>
      simp only [codeOk] at hk
      simp only [evCode] at he
      refine wp_loop_ghost (fun k a1 w1 => ∃ g1 s1, evIter (evCode cf n c') live k s1 = some (ex, s') ∧ Inv P g1 w1 a1 s1 ∧ CodePost P g1 w1 a1 Q ex s') n ⟨g, s, he, h, hp⟩ ?_
      rintro k a1 w1 ⟨g1, s1, he1, h1, hp1⟩
      cases k with
      | zero => simp [evIter] at he1
      | succ k =>
        simp only [evIter] at he1
        cases hev : evCode cf n c' (s1.head live) with
        | none => rw [hev] at he1; simp at he1
        | some r =>
          obtain ⟨ex2, s2⟩ := r
          rw [hev] at he1
          refine code_sound hcf hdk n c c' hk hev (h1.head live) ?_
          cases ex2 with
          | norm =>
            simp only at he1
            exact fun g2 w2 a2 hI hc hd => ⟨k, Nat.lt_succ_self k, g2, s2, he1, hI, hp1.step hc hd⟩
          | exit i =>
            simp only [Option.some.injEq, Prod.mk.injEq] at he1
            obtain ⟨rfl, rfl⟩ := he1
            exact fun g2 w2 a2 hI hc hd => hp1 g2 w2 a2 hI hc hd
          | ret =>
            simp only [Option.some.injEq, Prod.mk.injEq] at he1
            obtain ⟨rfl, rfl⟩ := he1
            exact fun g2 w2 a2 hI hc hd => hp1 g2 w2 a2 hI hc hd
          | pan x =>
            simp only [Option.some.injEq, Prod.mk.injEq] at he1
            obtain ⟨rfl, rfl⟩ := he1
            exact fun g2 w2 a2 u hx hH hc hd => hp1 g2 w2 a2 u hx hH hc hd
    | _ => first | (simp [evCode] at he; done) | (simp [codeOk] at hk; done)
  | .rangeFunc _ _ _ _, rc, hk, g, w, a, s, s', ex, Q, he, h, hp => by cases rc <;> (try (simp [evCode] at he; done)) <;> simp [codeOk] at hk
  | .scope _, rc, hk, g, w, a, s, s', ex, Q, he, h, hp => by cases rc <;> (try (simp [evCode] at he; done)) <;> simp [codeOk] at hk
  | .label _, rc, hk, g, w, a, s, s', ex, Q, he, h, hp => by cases rc <;> (try (simp [evCode] at he; done)) <;> simp [codeOk] at hk
  | .goto _, rc, hk, g, w, a, s, s', ex, Q, he, h, hp => by cases rc <;> (try (simp [evCode] at he; done)) <;> simp [codeOk] at hk
  | .refuse _, rc, hk, g, w, a, s, s', ex, Q, he, h, hp => by cases rc <;> (try (simp [evCode] at he; done)) <;> simp [codeOk] at hk

end
end Go.Pe

namespace Go.Pe
section
variable {P : Program} {g : G} {w : World} {a : Act} {s s' : St} {S : Nat → Nat → Prop}

theorem args_slots {l : Loc} {k : Nat} : ∀ {args : List PV} {vals : List Value}, RepFs P g w l args vals → args.length = vals.length ∧ ∀ (t : Nat) (p : PV), args[t]? = some p → ∃ v, vals[t]? = some v ∧ RepF P g w l p v
  | [], [], _ => ⟨rfl, by simp⟩
  | p :: args, v :: vals, h => by
    simp only [RepFs] at h
    obtain ⟨i1, i2⟩ := args_slots (k := k) h.2
    refine ⟨by simp [i1], ?_⟩
    intro t q ht
    cases t with
    | zero => simp at ht; subst ht; exact ⟨v, rfl, h.1⟩
    | succ t => exact i2 t q (by simpa using ht)
  | [], _ :: _, h => by simp only [RepFs] at h
  | _ :: _, [], h => by simp only [RepFs] at h

theorem plains_get : ∀ {args : List PV} {t : Nat} {p : PV}, PV.plains args = true → args[t]? = some p → p.plain = true
  | [], t, p, _, h => by simp at h
  | q :: args, 0, p, hp, h => by
    simp only [PV.plains, Bool.and_eq_true] at hp
    simp at h
    subst h
    exact hp.1
  | q :: args, t + 1, p, hp, h => by
    simp only [PV.plains, Bool.and_eq_true] at hp
    exact plains_get hp.2 (by simpa using h)

theorem Inv.enter {l : Loc} {args : List PV} {vals : List Value} (hpl : PV.plains args = true) (ha : RepFs P g w l args vals) {hp : List Ent} (hH : HeapInv P g w hp) (nt : Nat) :
    Inv P g w { tmps := vals.toArray ++ Array.replicate (nt - vals.toArray.size) undef, defers := [] } ⟨args ++ List.replicate (nt - args.length) .dead, hp⟩ := by
  obtain ⟨h1, h2⟩ := args_slots (k := 0) ha
  refine ⟨by simp [h1], ?_, hH⟩
  intro t p ht
  by_cases hlt : t < args.length
  · rw [List.getElem?_append_left hlt] at ht
    obtain ⟨v, hv, hr⟩ := h2 t p ht
    have hva : (Act.mk (vals.toArray ++ Array.replicate (nt - vals.toArray.size) undef) []).va t = v := by
      simp only [Act.va, Array.getD_eq_getD_getElem?]
      rw [Array.getElem?_append_left (by simpa [← h1] using hlt)]
      simp [hv]
    rw [hva]
    exact RepS.of_plain (plains_get hpl ht) hr
  · rw [List.getElem?_append_right (by omega)] at ht
    obtain ⟨_, rfl⟩ := List.mem_replicate.1 (List.mem_of_getElem? ht)
    exact RepS.dead'

def handOk (P : Program) (pf : Nat → Bool) (h : RHand) : Bool :=
  match P.funcs[h.fn]? with
  | some fn => fn.ntmps == h.nt && (fn.name != "runtime.NumGoroutine") && fn.results.toList.isEmpty &&
    (match fn.body with
    | some (.seq (.region _ ops false) y) => (match ops.toList with
      | [o] => o.guard.isNone && o.dst == some h.dst && (match o.op with | .call c => (match c.callee with | .builtin .recover => c.args.toList.isEmpty | _ => false) | _ => false)
      | _ => false) && codeOk P pf y h.body
    | _ => false)
  | none => false

def HandPost (P : Program) (g : G) (w : World) (hp' : List Ent) (m : FrameMode) (e : Ending) (u : FrameMode) (w' : World) : Prop :=
  ∃ r, e = .returned r ∧ u = m ∧ ∃ g', Chg Mine g w g' w' ∧ HeapInv P g' w' hp'

theorem hand_sound {cf : CF} (hcf : CFSound P cf) {pf : Nat → Bool} (hdk : CFNice pf cf) (n : Nat) {h : RHand} (hk : handOk P pf h = true) {vs : List PV} {rv : D} {hp hp' : List Ent} (he : evH cf n h vs rv hp = some hp')
    (hpl : PV.plains vs = true) {vals : List Value} (ha : RepFs P g w (.ret 0) vs vals) (hH : HeapInv P g w hp) {v : Value} (hv : DRep g.stab w rv v) {u m : FrameMode}
    (hm : (u = .returning ∧ m = .returning ∧ v = .nilIface) ∨ (u = .panicking [{ v, recovered := false }] ∧ m = .panicking [{ v, recovered := true }])) :
    CallsD P h.fn vals.toArray u w (HandPost P g w hp' m) := by
  unfold handOk at hk
  split at hk
  · rename_i fn hf
    simp only [Bool.and_eq_true, beq_iff_eq] at hk
    obtain ⟨⟨⟨hnt, _⟩, hres⟩, hbody⟩ := hk
    split at hbody
    · rename_i i0 ops y hc
      simp only [Bool.and_eq_true] at hbody
      obtain ⟨hop, hy⟩ := hbody
      split at hop
      · rename_i o hops
        simp only [Bool.and_eq_true, Option.isNone_iff_eq_none, beq_iff_eq] at hop
        obtain ⟨⟨hg, hd⟩, hcall⟩ := hop
        have hoa : ops = #[o] := by apply Array.toList_inj.1; rw [hops]
        subst hoa
        split at hcall
        · rename_i c hoc
          split at hcall
          · rename_i hcal
            have hargs : c.args = #[] := by
              apply Array.toList_inj.1
              cases hq : c.args.toList with
              | nil => rfl
              | cons _ _ => rw [hq] at hcall; simp at hcall
            refine callsD_of_wpS hf hc ?_
            intro c₀ cs hu
            rw [hnt]
            have hI := Inv.enter hpl ha hH h.nt
            have hrun : ∀ a' : Act, (execOp a'.eval o).run P w = .ok .recover w := by
              intro a'
              unfold execOp
              simp only [hoc, resolve, hcal, hargs, Sem.run_bind, Sem.run_pure, Result.andThen_ok, invoke, builtin]
            have hwant : ∀ z, Region.wanted o z = true := fun z => by simp [Region.wanted, hg]
            -- the code behind
            have rest : ∀ (cs' : List Frame) (u' : FrameMode), cs' = { c₀ with mode := u' } :: cs → u' = m → Code.wpS P y (bodyPostS P fn c₀ cs (HandPost P g w hp' m)) (({ tmps := vals.toArray ++ Array.replicate (h.nt - vals.toArray.size) undef, defers := [] } : Act).put o.dst v) cs' w := by
              intro cs' u' hcs hu'
              refine wpS_of_wp ?_
              unfold evH at he
              have hput : St.put (⟨vs ++ List.replicate (h.nt - vs.length) .dead, hp⟩ : St) o.dst (.d rv) = some ⟨(vs ++ List.replicate (h.nt - vs.length) PV.dead).set h.dst (.d rv), hp⟩ := by
                rw [hd]
                simp only [St.put]
                split
                · rename_i cs hq
                  exfalso
                  by_cases hlt : h.dst < vs.length
                  · rw [List.getD_eq_getElem?_getD, List.getElem?_append_left hlt] at hq
                    have hp1 := plains_get hpl (List.getElem?_eq_getElem hlt)
                    rw [List.getElem?_eq_getElem hlt] at hq
                    simp only [Option.getD_some] at hq
                    rw [hq] at hp1
                    simp [PV.plain] at hp1
                  · rw [List.getD_eq_getElem?_getD, List.getElem?_append_right (by omega), List.getElem?_replicate] at hq
                    split at hq <;> simp at hq
                · rfl
              have hI2 := hI.put (l := .ret 0) (v := .d rv) (u := v) hput rfl (by simp only [RepF]; exact hv)
              cases hev : evCode cf n h.body ⟨(vs ++ List.replicate (h.nt - vs.length) PV.dead).set h.dst (.d rv), hp⟩ with
              | none => rw [hev] at he; simp at he
              | some r =>
                obtain ⟨ex, s1⟩ := r
                rw [hev] at he
                have hnil : fn.results = #[] := by
                  apply Array.toList_inj.1
                  cases hq : fn.results.toList with
                  | nil => rfl
                  | cons _ _ => rw [hq] at hres; simp at hres
                have fin : s1.hp = hp' → ∀ (g1 : G) (w1 : World) (a1 : Act), Inv P g1 w1 a1 s1 → Chg Mine g w g1 w1 → a1.defers = (({ tmps := vals.toArray ++ Array.replicate (h.nt - vals.toArray.size) undef, defers := [] } : Act).put o.dst v).defers →
                    a1.defers = [] ∧ ∃ u', cs' = { c₀ with mode := u' } :: cs ∧ ∃ r, (Go.results fn a1.tmps).run P w1 = .ok r w1 ∧ HandPost P g w hp' m (.returned r) u' w1 := by
                  intro e1 g1 w1 a1 hI1 hc1 hd1
                  refine ⟨by rw [hd1, put_defers], u', hcs, .tuple #[], ?_, _, rfl, hu', g1, hc1, e1 ▸ hI1.heap⟩
                  unfold Go.results
                  rw [hnil]
                  simp
                refine code_sound hcf hdk n y h.body hy hev hI2 ?_
                cases ex with
                | norm =>
                  simp only [Option.some.injEq] at he
                  exact fun g1 w1 a1 hI1 hc1 hd1 => fin he g1 w1 a1 hI1 hc1 hd1
                | ret =>
                  simp only [Option.some.injEq] at he
                  exact fun g1 w1 a1 hI1 hc1 hd1 => fin he g1 w1 a1 hI1 hc1 hd1
                | exit i => simp at he
                | pan x => simp at he
            refine wpS_seq (wpS_region ?_)
            have hrg : List.range (#[o] : Array Oper).size = [0] := rfl
            rw [hrg]
            have e0 : (#[o] : Array Oper)[0]? = some o := rfl
            simp only [wpOpsS, e0, hwant, if_true, hrun]
            rcases hm with ⟨rfl, rfl, rfl⟩ | ⟨rfl, rfl⟩
            · have hrc : recoverD (c₀ :: cs) = none := by simp only [recoverD, hu]
              rw [hrc]
              simp only [Exit.thenS]
              refine rest _ .returning ?_ rfl
              have : ({ c₀ with mode := .returning } : Frame) = c₀ := by rw [← hu]
              rw [this]
            · have hrc : recoverD (c₀ :: cs) = some (v, { c₀ with mode := .panicking [{ v, recovered := true }] } :: cs) := by simp only [recoverD, hu]
              rw [hrc]
              simp only [Exit.thenS]
              exact rest _ _ rfl rfl
          · simp at hcall
        · simp at hcall
      · simp at hop
    · simp at hbody
  · simp at hk

def triOk (P : Program) (pf : Nat → Bool) (hf : Nat) : Code → RTri → Bool
  | .seq x y, .seq x' r => codeOk P pf x x' && triOk P pf hf y r
  | .seq (.region _ ops false) y, .dfr args post => (match ops.toList with
    | [o] => o.guard.isNone && o.dst.isNone && (match o.op with | .defer c => (match c.callee with | .value (.func f) => f == hf && valsOk c.args.toList args | _ => false) | _ => false)
    | _ => false) && codeOk P pf y post
  | _, _ => false

def TriPost (P : Program) (g : G) (w : World) (fn : Func) (R : Ending → World → Prop) (ex : Ex) (s' : St) : Prop :=
  match ex with
  | .norm => ∀ g' w' a', Inv P g' w' a' s' → Chg Mine g w g' w' → ∃ v, (Go.results fn a'.tmps).run P w' = .ok v w' ∧ R (.returned v) w'
  | .ret => ∀ g' w' a', Inv P g' w' a' s' → Chg Mine g w g' w' → ∃ v, (Go.results fn a'.tmps).run P w' = .ok v w' ∧ R (.returned v) w'
  | .pan x => ∀ g' w' a' u, DRep g'.stab w' x u → Inv P g' w' a' s' → Chg Mine g w g' w' → R (.panicked [{ v := u, recovered := false }]) w'
  | .exit _ => False

theorem TriPost.step {g' : G} {w' : World} {fn : Func} {R : Ending → World → Prop} {ex : Ex} (h : TriPost P g w fn R ex s') (hc : Chg Mine g w g' w') : TriPost P g' w' fn R ex s' := by
  cases ex with
  | norm => exact fun g2 w2 a2 hI hc2 => h g2 w2 a2 hI (hc.trans hc2)
  | ret => exact fun g2 w2 a2 hI hc2 => h g2 w2 a2 hI (hc.trans hc2)
  | pan x => exact fun g2 w2 a2 u hx hI hc2 => h g2 w2 a2 u hx hI (hc.trans hc2)
  | exit i => exact h

theorem ptr_chg {l : Loc} {g' : G} {w' : World} {M : Loc → Prop} (hc : Chg M g w g' w') : ∀ {vs : List PV} {vals : List Value}, vs.all PV.isPtr = true → RepFs P g w l vs vals → RepFs P g' w' l vs vals
  | [], [], _, _ => by simp only [RepFs]
  | p :: vs, v :: vals, hp, h => by
    simp only [List.all_cons, Bool.and_eq_true] at hp
    simp only [RepFs] at h ⊢
    refine ⟨?_, ptr_chg hc hp.2 h.2⟩
    cases p with
    | ptr id off =>
      have h1 := h.1
      simp only [RepF] at h1 ⊢
      exact ⟨Nat.lt_of_lt_of_le h1.1 hc.nb, by rw [hc.bb _ h1.1]; exact h1.2⟩
    | _ => simp [PV.isPtr] at hp
  | [], _ :: _, _, h => by simp only [RepFs] at h
  | _ :: _, [], _, h => by simp only [RepFs] at h
theorem ptr_plains : ∀ {vs : List PV}, vs.all PV.isPtr = true → PV.plains vs = true
  | [], _ => rfl
  | p :: vs, h => by
    simp only [List.all_cons, Bool.and_eq_true] at h
    simp only [PV.plains, Bool.and_eq_true]
    refine ⟨?_, ptr_plains h.2⟩
    cases p <;> first | rfl | simp [PV.isPtr] at h

theorem leave_sound {cf : CF} (hcf : CFSound P cf) {pf : Nat → Bool} (hdk : CFNice pf cf) (n : Nat) {h : RHand} (hk : handOk P pf h = true) {vs : List PV} {rv : D} {hp' : List Ent} (he : evH cf n h vs rv s.hp = some hp')
    (hpt : vs.all PV.isPtr = true) {vals : List Value} (ha : RepFs P g w (.ret 0) vs vals) (hI : Inv P g w a s) {v : Value} (hv : DRep g.stab w rv v) {u : FrameMode}
    (hm : (u = .returning ∧ v = .nilIface) ∨ u = .panicking [{ v, recovered := false }]) {fn : Func} {R : Ending → World → Prop}
    (hr : ∀ g' w', Inv P g' w' a { s with hp := hp' } → Chg Mine g w g' w' → ∃ r, (Go.results fn a.tmps).run P w' = .ok r w' ∧ R (.returned r) w') :
    Leaves P fn a.tmps R [{ target := .fn (.func h.fn) #[], args := vals.toArray }] u w := by
  have hent : entered P h.fn = true := by
    unfold handOk at hk
    unfold entered
    split at hk
    · rename_i fn hf
      rw [hf]
      simp only [Bool.and_eq_true] at hk ⊢
      obtain ⟨⟨⟨_, h2⟩, _⟩, h3⟩ := hk
      refine ⟨?_, h2⟩
      split at h3
      · rename_i hc; rw [hc]; rfl
      · simp at h3
    · simp at hk
  have hinv : (invoke (.fn (.func h.fn) #[]) vals.toArray).run P w = .ok (.enter h.fn vals.toArray) w := by
    simp only [invoke, Array.append_empty, run_callFunc hent]
  have hne : u ≠ .run := by rcases hm with ⟨rfl, _⟩ | rfl <;> simp
  have fin : ∀ m, (settle m = .returning) → ∀ e u' w', HandPost P (g.relab rc) w hp' m e u' w' → (match e with
      | .returned _ => Leaves P fn a.tmps R [] (settle u') w'
      | .panicked chain => Leaves P fn a.tmps R [] (raised u' chain) w'
      | .outgrown => R .outgrown w') := by
    rintro m hm2 e u' w' ⟨r, rfl, rfl, g', hc, hH⟩
    simp only
    rw [hm2]
    have hI2 : Inv P (g'.back fun _ => none) w' a { s with hp := hp' } := hI.put_call (dst := none) (v := .dead) (u := undef) (hc.back _) (hH.back _) rfl (fun d hd => by cases hd)
    exact hr _ w' hI2 ((hc.back _).mono onHeap_mine)
  have hvals : RepFs P (g.relab rc) w (.ret 0) vs vals := RepFs.move (fun _ _ => G.relab_stab.2) (Nat.le_refl _) (fun _ _ => rfl) (ptr_plains hpt) ha
  have hv' : DRep (g.relab rc).stab w rv v := hv.mono fun b i u hc hs => ⟨hc, G.relab_stab.2 hs⟩
  rcases hm with ⟨rfl, rfl⟩ | rfl
  · refine leaves_cons hne hinv ((hand_sound hcf hdk n hk he (ptr_plains hpt) hvals hI.heap.callee hv' (.inl ⟨rfl, rfl, rfl⟩)).mono fun e u' w' hp => ?_)
    have := fin _ rfl e u' w' hp
    cases e <;> exact this
  · refine leaves_cons hne hinv ((hand_sound hcf hdk n hk he (ptr_plains hpt) hvals hI.heap.callee hv' (.inr ⟨rfl, rfl⟩)).mono fun e u' w' hp => ?_)
    have := fin _ rfl e u' w' hp
    cases e <;> exact this

theorem tri_sound {cf : CF} (hcf : CFSound P cf) {pf : Nat → Bool} (hdk : CFNice pf cf) (n : Nat) {h : RHand} (hh : handOk P pf h = true) {fn : Func} {R : Ending → World → Prop} :
    ∀ (r : RTri) (c : Code), triOk P pf h.fn c r = true → ∀ {g : G} {w : World} {a : Act} {s s' : St} {ex : Ex}, evTri cf n h r s = some (ex, s') → Inv P g w a s → a.defers = [] → TriPost P g w fn R ex s' → c.wp P (bodyPostD P fn R) a w
  | .seq x' r, c, hk, g, w, a, s, s', ex, he, hI, hd, hp => by
    cases c with
    | seq x y =>
      simp only [triOk, Bool.and_eq_true] at hk
      simp only [evTri] at he
      cases hev : evCode cf n x' s with
      | none => rw [hev] at he; simp at he
      | some q =>
        obtain ⟨ex1, s1⟩ := q
        rw [hev] at he
        refine wp_seq (code_sound hcf hdk n x x' hk.1 hev hI ?_)
        cases ex1 with
        | norm =>
          simp only at he
          exact fun g1 w1 a1 hI1 hc hd1 => tri_sound hcf hdk n hh r y hk.2 he hI1 (hd1.trans hd) (hp.step hc)
        | exit i =>
          simp only [Option.some.injEq, Prod.mk.injEq] at he
          obtain ⟨rfl, rfl⟩ := he
          exact hp.elim
        | ret =>
          simp only [Option.some.injEq, Prod.mk.injEq] at he
          obtain ⟨rfl, rfl⟩ := he
          intro g1 w1 a1 hI1 hc hd1
          show Leaves P fn a1.tmps R a1.defers .returning w1
          rw [hd1, hd]
          exact hp g1 w1 a1 hI1 hc
        | pan x =>
          simp only [Option.some.injEq, Prod.mk.injEq] at he
          obtain ⟨rfl, rfl⟩ := he
          intro g1 w1 a1 u hx hI1 hc hd1
          show Leaves P fn a1.tmps R a1.defers (.panicking _) w1
          rw [hd1, hd]
          exact hp g1 w1 a1 u hx hI1 hc
    | _ => simp [triOk] at hk
  | .dfr args post, c, hk, g, w, a, s, s', ex, he, hI, hd, hp => by
    unfold triOk at hk
    split at hk
    · rename_i heq; cases heq
    · rename_i i0 ops y args2 post2 heq
      cases heq
      simp only [Bool.and_eq_true] at hk
      obtain ⟨hop, hy⟩ := hk
      split at hop
      · rename_i o hops
        simp only [Bool.and_eq_true, Option.isNone_iff_eq_none] at hop
        obtain ⟨⟨hg, hdst⟩, hdf⟩ := hop
        have hoa : ops = #[o] := by apply Array.toList_inj.1; rw [hops]
        subst hoa
        split at hdf
        · rename_i c hoc
          split at hdf
          · rename_i f hcal
            simp only [Bool.and_eq_true, beq_iff_eq] at hdf
            obtain ⟨rfl, hva⟩ := hdf
            simp only [evTri] at he
            split at he
            · rename_i vs hvs
              split at he
              · rename_i hpt
                obtain ⟨_, a2⟩ := vals_cp hI hva hvs
                have hargs := a2 (.ret 0)
                refine wp_seq (wp_region ?_)
                have hrg : List.range (#[o] : Array Oper).size = [0] := rfl
                rw [hrg]
                have e0 : (#[o] : Array Oper)[0]? = some o := rfl
                have hwant : ∀ z, Region.wanted o z = true := fun z => by simp [Region.wanted, hg]
                simp only [wpOps, e0, hwant, if_true]
                refine .inl ?_
                have hrun : (execOp a.eval o).run P w = .ok (.defer { target := .fn (.func h.fn) #[], args := (c.args.toList.map a.eval).toArray }) w := by
                  have ef : a.eval (.func h.fn) = .func (.func h.fn) #[] #[] := rfl
                  unfold execOp
                  simp only [hoc, resolve, hcal, ef, Deferred.ofValue, Sem.run_bind, Sem.run_pure, Result.andThen_ok]
                  congr 3
                  apply Array.ext'
                  simp
                unfold Oper.wp
                rw [hrun, Oper.upon_defer, hdst]
                have hI1 : Inv P g w ({ a with defers := { target := .fn (.func h.fn) #[], args := (c.args.toList.map a.eval).toArray } :: a.defers } : Act) s := ⟨hI.size, hI.slot, hI.heap⟩
                show y.wp P (bodyPostD P fn R) ({ a with defers := { target := .fn (.func h.fn) #[], args := (c.args.toList.map a.eval).toArray } :: a.defers } : Act) w
                cases hev : evCode cf n post s with
                | none => rw [hev] at he; simp [triFin] at he
                | some q =>
                  obtain ⟨ex1, s1⟩ := q
                  rw [hev] at he
                  refine code_sound hcf hdk n y post hy hev hI1 ?_
                  have fin : ∀ hp', ((.ret : Ex), ({ s1 with hp := hp' } : St)) = (ex, s') → ∀ (g1 : G) (w1 : World) (a1 : Act), Chg Mine g w g1 w1 → ∀ g' w', Inv P g' w' a1 { s1 with hp := hp' } → Chg Mine g1 w1 g' w' → ∃ r, (Go.results fn a1.tmps).run P w' = .ok r w' ∧ R (.returned r) w' := by
                    intro hp' he2 g1 w1 a1 hc1 g' w' hI2 hc2
                    simp only [Prod.mk.injEq] at he2
                    obtain ⟨rfl, rfl⟩ := he2
                    exact hp g' w' a1 hI2 (hc1.trans hc2)
                  cases ex1 with
                  | norm =>
                    simp only [triFin, Option.map_eq_some_iff] at he
                    obtain ⟨hp', hH, he⟩ := he
                    intro g1 w1 a1 hI2 hc1 hd1
                    show Leaves P fn a1.tmps R a1.defers .returning w1
                    rw [hd1, hd]
                    exact leave_sound hcf hdk n hh hH hpt (ptr_chg hc1 hpt hargs) hI2 (v := .nilIface) .nili (.inl ⟨rfl, rfl⟩) (fin hp' he g1 w1 a1 hc1)
                  | ret =>
                    simp only [triFin, Option.map_eq_some_iff] at he
                    obtain ⟨hp', hH, he⟩ := he
                    intro g1 w1 a1 hI2 hc1 hd1
                    show Leaves P fn a1.tmps R a1.defers .returning w1
                    rw [hd1, hd]
                    exact leave_sound hcf hdk n hh hH hpt (ptr_chg hc1 hpt hargs) hI2 (v := .nilIface) .nili (.inl ⟨rfl, rfl⟩) (fin hp' he g1 w1 a1 hc1)
                  | exit i => simp [triFin] at he
                  | pan x =>
                    simp only [triFin, Option.map_eq_some_iff] at he
                    obtain ⟨hp', hH, he⟩ := he
                    intro g1 w1 a1 u hx hI2 hc1 hd1
                    show Leaves P fn a1.tmps R a1.defers (.panicking _) w1
                    rw [hd1, hd]
                    exact leave_sound hcf hdk n hh hH hpt (ptr_chg hc1 hpt hargs) hI2 hx (.inr rfl) (fin hp' he g1 w1 a1 hc1)
              · simp at he
            · simp at he
          · simp at hdf
        · simp at hdf
      · simp at hop
    · simp at hk
end
end Go.Pe

namespace Go.Pe
section
variable {P : Program} {g : G} {w : World} {a : Act} {s s' : St} {S : Nat → Nat → Prop}

def RV.tmp : RV → Nat
  | .t n => n
  | .cell n _ => n

def retLoc (ns : List Nat) (single : Bool) : Loc → Loc
  | .tm n j => match ns.idxOf? n with
    | some i => .ret (if single then 0 else i + 1)
    | none => .tm n j
  | l => l

def resOk (P : Program) : List ResultVar → List RV → Bool
  | [], [] => true
  | .tmp t :: r, .t t' :: r' => t == t' && resOk P r r'
  | .cell p ty :: r, .cell t agg :: r' => p == t && aggOk P ty agg && resOk P r r'
  | _, _ => false

def resVal (tmps : Array Value) : ResultVar → Sem Value
  | .tmp t => pure (tmps.getD t undef)
  | .cell a t => do loadVar t (← asAddr (tmps.getD a undef))

theorem results_eq (fn : Func) (tmps : Array Value) : Go.results fn tmps = (do let vs ← fn.results.mapM (resVal tmps); pure (if h : vs.size = 1 then vs[0] else .tuple vs)) := by
  unfold Go.results
  congr 1

theorem res_one (h : Inv P g w a s) {r : ResultVar} {r' : RV} (hk : resOk P [r] [r'] = true) {p : PV} (hp : resOf s r' = some p) :
    ∃ u j, (resVal a.tmps r).run P w = .ok u w ∧ ((p.plain = true ∧ RepF P g w (.tm r'.tmp j) p u) ∨ ∃ e xs, p = .own e xs ∧ RepF P g w (.tm r'.tmp j) (.own e xs) u) := by
  cases r with
  | tmp t =>
    cases r' with
    | t t' =>
      simp only [resOk, Bool.and_true, beq_iff_eq] at hk
      subst hk
      refine ⟨a.va t, 0, by simp [resVal, Act.va], ?_⟩
      simp only [resOf] at hp
      split at hp
      · rename_i e xs he
        simp only [Option.some.injEq] at hp
        subst hp
        obtain ⟨_, h2⟩ := h.slot' he (by simp)
        exact .inr ⟨e, xs, rfl, h2⟩
      · rename_i hne
        have hnd : s.tm.getD t .dead ≠ .dead := by intro e; rw [e] at hp; simp [PV.cp] at hp
        obtain ⟨_, h2⟩ := h.slot' (t := t) rfl hnd
        exact .inl (h2.cp hp)
    | cell _ _ => simp [resOk] at hk
  | cell c ty =>
    cases r' with
    | t _ => simp [resOk] at hk
    | cell t agg =>
      simp only [resOk, Bool.and_true, Bool.and_eq_true, beq_iff_eq] at hk
      obtain ⟨rfl, hagg⟩ := hk
      simp only [resOf] at hp
      split at hp
      · rename_i cs hcs
        obtain ⟨h1, _⟩ := h.slot' hcs (by simp)
        obtain ⟨b, cc, e, e1, e2, e3, e4, e5⟩ := box_slot h h1
        have hva : a.tmps.getD c undef = .pointer (some ⟨b, 0, none⟩) := e1
        have hrun : ∀ v, (loadVar ty ⟨b, 0, none⟩).run P w = .ok v w → (resVal a.tmps (.cell c ty)).run P w = .ok v w := by
          intro v hv
          unfold resVal
          simp only [hva, asAddr, Sem.run_bind, Sem.run_pure, Result.andThen_ok, hv]
        split at hp
        · rename_i n
          obtain ⟨val, q1, q2, q3⟩ := load_cells (P := P) e4 e5 hp hagg
          exact ⟨val, 0, hrun val q1, .inl ⟨q2, q3 _⟩⟩
        · split at hp
          · obtain ⟨u, _, q1, q2⟩ := load_cell (P := P) (off := 0) e4 e5 rfl hagg
            refine ⟨u, 0 + 1, hrun u q1, ?_⟩
            split at hp
            · simp only [Option.some.injEq] at hp
              subst hp
              exact .inr ⟨_, _, rfl, q2⟩
            · exact .inl (q2.cp hp)
          · simp at hp
      · rename_i id hid
        split at hp
        · rename_i cs hcs
          obtain ⟨_, h2⟩ := h.slot' hid (by simp)
          have k3 : RepF P g w (.tm c 0) (.ptr id 0) (a.va c) := h2
          simp only [RepF] at k3
          have hva : a.tmps.getD c undef = .pointer (some ⟨g.bb id, 0, none⟩) := k3.2
          obtain ⟨cc, e, zz, hz, _, _, e4, e5⟩ := h.heap.ent id _ hcs
          have hrun : ∀ v, (loadVar ty ⟨g.bb id, 0, none⟩).run P w = .ok v w → (resVal a.tmps (.cell c ty)).run P w = .ok v w := by
            intro v hv
            unfold resVal
            simp only [hva, asAddr, Sem.run_bind, Sem.run_pure, Result.andThen_ok, hv]
          split at hp
          · rename_i n
            obtain ⟨val, q1, q2, q3⟩ := load_cells (P := P) e4 e5 hp hagg
            exact ⟨val, 0, hrun val q1, .inl ⟨q2, q3 _⟩⟩
          · split at hp
            · obtain ⟨u, _, q1, q2⟩ := load_cell (P := P) (off := 0) e4 e5 rfl hagg
              obtain ⟨m1, m2⟩ := q2.cp hp
              exact ⟨u, 0, hrun u q1, .inl ⟨m1, RepF.move (fun _ _ h => h) (Nat.le_refl _) (fun _ _ => rfl) m1 m2⟩⟩
            · simp at hp
        · simp at hp
      · simp at hp

theorem res_all (h : Inv P g w a s) : ∀ {rs : List ResultVar} {rs' : List RV}, resOk P rs rs' = true → ∀ {ps : List PV}, optAll (rs'.map (resOf s)) = some ps →
    ∃ us : List Value, (rs.mapM (resVal a.tmps)).run P w = .ok us w ∧ us.length = ps.length ∧ rs.length = rs'.length ∧ ps.length = rs'.length ∧
      ∀ (i : Nat) (p : PV) (u : Value), ps[i]? = some p → us[i]? = some u → ∃ r' j, rs'[i]? = some r' ∧ ((p.plain = true ∧ RepF P g w (.tm r'.tmp j) p u) ∨ ∃ e xs, p = .own e xs ∧ RepF P g w (.tm r'.tmp j) (.own e xs) u)
  | [], [], _, ps, hp => by
    simp only [List.map_nil, optAll, Option.some.injEq] at hp
    subst hp
    exact ⟨[], by simp, rfl, rfl, rfl, by simp⟩
  | r :: rs, r' :: rs', hk, ps, hp => by
    have hk1 : resOk P [r] [r'] = true ∧ resOk P rs rs' = true := by
      cases r <;> cases r' <;> simp [resOk] at hk ⊢
      · exact hk
      · exact ⟨hk.1, hk.2⟩
    simp only [List.map_cons] at hp
    cases hq : resOf s r' with
    | none => rw [hq] at hp; simp [optAll] at hp
    | some p =>
      rw [hq] at hp
      simp only [optAll, Option.map_eq_some_iff] at hp
      obtain ⟨ps', hps, rfl⟩ := hp
      obtain ⟨u, j, a1, a2⟩ := res_one h hk1.1 hq
      obtain ⟨us, b1, b2, b3, b4, b5⟩ := res_all h hk1.2 hps
      refine ⟨u :: us, ?_, by simp [b2], by simp [b3], by simp [b4], ?_⟩
      · simp only [List.mapM_cons, Sem.run_bind, a1, b1, Result.andThen_ok, Sem.run_pure]
      · intro i q v hi hv
        cases i with
        | zero =>
          simp at hi hv
          subst hi
          subst hv
          exact ⟨r', j, rfl, a2⟩
        | succ i => exact b5 i q v (by simpa using hi) (by simpa using hv)
  | [], _ :: _, hk, _, _ => by simp [resOk] at hk
  | _ :: _, [], hk, _, _ => by simp [resOk] at hk

theorem HeapInv.relab_tm {hp : List Ent} (h : HeapInv P g w hp) {f : Loc → Loc} (hf : ∀ l, OnHeap l → f l = l) : HeapInv P (g.relab f) w hp :=
  ⟨h.nb, fun id e he => by
    have := h.ent id e he
    cases e with
    | box cs =>
      obtain ⟨c, e, zz, hz, h1, h2, h3, h4, h5⟩ := this
      exact ⟨c, e, zz, hz, by simp [G.relab, h1, hf _ (.inl ⟨_, rfl⟩)], h2, h3, h4, fun j p hj => let ⟨u, k1, k2, k3⟩ := h5 j p hj; ⟨u, k1, k2, k3.reg (fun _ _ => G.relab_stab.2) (Nat.le_refl _) (fun _ _ => rfl) fun b hb => ⟨by simp [G.relab, hb, hf _ (.inr ⟨_, _, rfl⟩)], rfl⟩⟩⟩
    | row _ _ => exact this
    | gone => trivial, h.lies⟩

theorem retLoc_heap {ns : List Nat} {single : Bool} : ∀ l, OnHeap l → retLoc ns single l = l := fun l h => by
  rcases h with ⟨i, rfl⟩ | ⟨i, j, rfl⟩ <;> rfl

theorem retLoc_mine {ns : List Nat} {single : Bool} : ∀ l, ¬ Mine l → retLoc ns single l = l := fun l h => by
  cases l with
  | tm n j => exact absurd (mine_tm n j) h
  | _ => rfl

theorem idxOf_nodup : ∀ {ns : List Nat} {i n : Nat}, ns.Nodup → ns[i]? = some n → ns.idxOf? n = some i
  | [], i, n, _, h => by simp at h
  | m :: ns, 0, n, _, h => by
    simp at h
    subst h
    simp [List.idxOf?_cons]
  | m :: ns, i + 1, n, hd, h => by
    simp only [List.getElem?_cons_succ] at h
    have hne : m ≠ n := by
      intro e
      subst e
      exact (List.nodup_cons.1 hd).1 (List.mem_of_getElem? h)
    have ih := idxOf_nodup (List.nodup_cons.1 hd).2 h
    simp [List.idxOf?_cons, hne, ih]

theorem results_ok (h : Inv P g w a s) {fn : Func} {rs' : List RV} (hk : resOk P fn.results.toList rs' = true) (hnd : (rs'.map RV.tmp).Nodup) {v : PV} (hv : Pe.results s rs' = some v) :
    ∃ u g', (Go.results fn a.tmps).run P w = .ok u w ∧ Chg Mine g w g' w ∧ RepR P g' w v u ∧ HeapInv P g' w s.hp := by
  have fin : ∀ (single : Bool) (ps : List PV) (us : List Value), (∀ (i : Nat) (p : PV) (u : Value), ps[i]? = some p → us[i]? = some u → ∃ r' j, rs'[i]? = some r' ∧ ((p.plain = true ∧ RepF P g w (.tm r'.tmp j) p u) ∨ ∃ e xs, p = .own e xs ∧ RepF P g w (.tm r'.tmp j) (.own e xs) u)) →
      ∀ (i : Nat) (p : PV) (u : Value), ps[i]? = some p → us[i]? = some u → RepF P (g.relab (retLoc (rs'.map RV.tmp) single)) w (.ret (if single then 0 else i + 1)) p u := by
    intro single ps us hrep i p u hi hu
    obtain ⟨r', j, hr', hc⟩ := hrep i p u hi hu
    have hidx : (rs'.map RV.tmp).idxOf? r'.tmp = some i := idxOf_nodup hnd (by rw [List.getElem?_map, hr']; rfl)
    have hloc : retLoc (rs'.map RV.tmp) single (.tm r'.tmp j) = .ret (if single then 0 else i + 1) := by
      simp only [retLoc, hidx]
    rcases hc with ⟨hpl, hc⟩ | ⟨e, xs, rfl, hc⟩
    · exact RepF.move (fun _ _ => G.relab_stab.2) (Nat.le_refl _) (fun _ _ => rfl) hpl hc
    · rw [← hloc]
      exact hc.relab_own
  have many : ∀ ps, optAll (rs'.map (resOf s)) = some ps → rs'.length ≠ 1 → v = .tup ps → ∃ u g', (Go.results fn a.tmps).run P w = .ok u w ∧ Chg Mine g w g' w ∧ RepR P g' w v u ∧ HeapInv P g' w s.hp := by
    intro ps hps hlen hvp
    obtain ⟨us, b1, b2, b3, b4, b5⟩ := res_all h hk hps
    subst hvp
    refine ⟨.tuple us.toArray, g.relab (retLoc (rs'.map RV.tmp) false), ?_, Chg.relab _ retLoc_mine, ⟨us, rfl, b2, ?_⟩, h.heap.relab_tm retLoc_heap⟩
    · rw [results_eq, Array.mapM_eq_mapM_toList]
      simp only [Sem.run_bind, Sem.run_map, b1, Result.andThen_ok, Sem.run_pure]
      rw [dif_neg (by simp; omega)]
    · intro j p u hj hu
      have := fin false ps us b5 j p u hj hu
      simpa using this
  unfold Pe.results at hv
  split at hv
  · rename_i r
    have hps : optAll ([r].map (resOf s)) = some [v] := by simp [optAll, hv]
    obtain ⟨us, b1, b2, b3, b4, b5⟩ := res_all h hk hps
    obtain ⟨u, rfl⟩ : ∃ u, us = [u] := by
      cases us with
      | nil => simp at b2
      | cons u us => cases us with | nil => exact ⟨u, rfl⟩ | cons _ _ => simp at b2
    refine ⟨u, g.relab (retLoc ([r].map RV.tmp) true), ?_, Chg.relab _ retLoc_mine, ?_, h.heap.relab_tm retLoc_heap⟩
    · rw [results_eq, Array.mapM_eq_mapM_toList]
      simp only [Sem.run_bind, Sem.run_map, b1, Result.andThen_ok, Sem.run_pure]
      simp
    · have := fin true [v] [u] b5 0 v u rfl rfl
      simp only [if_true] at this
      unfold RepR
      split
      · rename_i ps
        simp only [RepF] at this
      · exact this
  · rename_i hne
    rw [Option.map_eq_some_iff] at hv
    obtain ⟨ps, hps, rfl⟩ := hv
    refine many ps hps ?_ rfl
    intro hl
    cases rs' with
    | nil => simp at hl
    | cons r rs' => cases rs' with | nil => exact hne r rfl | cons _ _ => simp at hl

def fnOk (P : Program) (pf : Nat → Bool) (f : Nat) (rf : RFunc) : Bool :=
  match P.funcs[f]? with
  | some fn => fn.ntmps == rf.nt && (fn.name != "runtime.NumGoroutine") && (match fn.body with | some c => codeOk P pf c rf.body | none => false) && resOk P fn.results.toList rf.res && decide (rf.res.map RV.tmp).Nodup
  | none => false

def fnOkT (P : Program) (pf : Nat → Bool) (f : Nat) (rf : RFunc) (r : RTri) (h : RHand) : Bool :=
  match P.funcs[f]? with
  | some fn => fn.ntmps == rf.nt && (fn.name != "runtime.NumGoroutine") && (match fn.body with | some c => triOk P pf h.fn c r | none => false) && resOk P fn.results.toList rf.res && decide (rf.res.map RV.tmp).Nodup && handOk P pf h
  | none => false

structure PrimSound (P : Program) (f : Nat) (p : List PV → Option PV) : Prop where
  ent : entered P f = true
  calls : ∀ args v, p args = some v → v.flat = true → PV.plains args = true → ∀ (g : G) (w : World) (vals : List Value) (l : Loc), RepFs P g w l args vals →
    Calls P f vals.toArray w fun e w' => ∃ u g', e = .returned u ∧ Chg (fun _ => False) g w g' w' ∧ g'.nb = g.nb ∧ RepR P g' w' v u

structure MkSound (P : Program) (f : Nat) (p : List PV → Option (List D)) : Prop where
  ent : entered P f = true
  calls : ∀ args ys, p args = some ys → PV.plains args = true → ∀ (g : G) (w : World) (vals : List Value) (l : Loc) (hp : List Ent), RepFs P g w l args vals → HeapInv P g w hp →
    Calls P f vals.toArray w (CallPost P g w (.ret (.rowh hp.length 0 ys.length) (hp ++ [rowEnt ys])))

structure HpSound (P : Program) (f : Nat) (p : List PV → List Ent → Option (PV × List Ent)) : Prop where
  ent : entered P f = true
  calls : ∀ args hp v hp', p args hp = some (v, hp') → v.flat = true → PV.plains args = true → ∀ (g : G) (w : World) (vals : List Value) (l : Loc), RepFs P g w l args vals → HeapInv P g w hp →
    Calls P f vals.toArray w (CallPost P g w (.ret v hp'))

def TabOk (P : Program) (pf : Nat → Bool) (tab : Nat → Option FnD) : Prop :=
  ∀ f d, tab f = some d → match d with
    | .code rf => fnOk P pf f rf = true
    | .prim p => PrimSound P f p
    | .mk p => MkSound P f p
    | .hp p => HpSound P f p
    | .tri rf r h => fnOkT P pf f rf r h = true

def G.bare (g : G) : G := { κ := fun b => (g.κ b).map .oth, tip := g.tip, bb := g.bb, nb := 0 }
def G.dress (g' g : G) : G := { κ := fun b => match g'.κ b with | some (.oth l) => some l | x => x, tip := g'.tip, bb := g.bb, nb := g.nb }

theorem bare_stab {b i : Nat} : g.bare.stab b i ↔ g.stab b i := by simp [G.stab, G.bare]
theorem dress_stab {g' : G} {b i : Nat} (h : g'.stab b i) : (g'.dress g).stab b i := by
  rcases h with h | h
  · exact .inl (by simp [G.dress, h])
  · exact .inr h

theorem Chg.dress {g' : G} {w' : World} (h : Chg Mine g.bare w g' w') : Chg (fun _ => False) g w (g'.dress g) w' where
  os := h.os
  tape := h.tape
  output := h.output
  size := h.size
  stab := fun b i u hc hs => let ⟨k1, k2⟩ := h.stab b i u hc (bare_stab.2 hs); ⟨k1, dress_stab k2⟩
  own := fun b l hlt hl _ => by
    have h1 : g.bare.κ b = some (.oth l) := by simp [G.bare, hl]
    obtain ⟨k1, k2, k3⟩ := h.own b _ hlt h1 (fun hm => hm l rfl)
    exact ⟨by simp [G.dress, k1], k2, k3⟩
  free := fun b hlt hl => by
    obtain ⟨k1, k2⟩ := h.free b hlt (by simp [G.bare, hl])
    exact ⟨by simp [G.dress, k1], k2⟩
  nb := Nat.le_refl _
  bb := fun _ _ => rfl

mutual
theorem RepF.bare {l : Loc} : ∀ {p : PV} {v : Value}, p.plain = true → p.hfree = true → RepF P g w l p v → RepF P g.bare w l p v
  | .d x, v, _, _, h => by
    simp only [RepF] at h ⊢
    exact h.mono fun b i u hc hs' => ⟨hc, bare_stab.2 hs'⟩
  | .own e xs, v, hp, _, h => by simp [PV.plain] at hp
  | .full xs, v, _, _, h => by
    simp only [RepF] at h ⊢
    obtain ⟨a, h1, h2⟩ := h
    exact ⟨a, h1, h2.mono fun b i u hc hs' => ⟨hc, bare_stab.2 hs'⟩⟩
  | .nilsl, v, _, _, h => by simp only [RepF] at h ⊢; exact h
  | .eptr x off, v, _, _, h => by
    simp only [RepF] at h ⊢
    obtain ⟨b, o, h1, h2, h3⟩ := h
    refine ⟨b, o, h1, h2, fun j c hj => ?_⟩
    obtain ⟨u, h4, h5, h6⟩ := h3 j c hj
    exact ⟨u, h4, bare_stab.2 h5, h6.mono fun b i u hc hs' => ⟨hc, bare_stab.2 hs'⟩⟩
  | .ptr id off, v, _, hf, h => by simp [PV.hfree] at hf
  | .fn f caps, v, hp, hf, h => by
    simp only [RepF] at h ⊢
    obtain ⟨h0, vs, h1, h2⟩ := h
    exact ⟨h0, vs, h1, RepFs.bare h0 (by simpa [PV.hfree] using hf) h2⟩
  | .fnm f caps, v, hp, hf, h => by
    simp only [RepF] at h ⊢
    obtain ⟨h0, vs, h1, h2⟩ := h
    exact ⟨h0, vs, h1, RepFs.bare h0 (by simpa [PV.hfree] using hf) h2⟩
  | .gone, v, _, _, h => by simp only [RepF]
  | .und, v, _, _, h => by simp only [RepF] at h ⊢; exact h
  | .dead, v, _, _, h => by simp only [RepF]
  | .bnil _, v, _, _, h => by simp only [RepF] at h ⊢; exact h
  | .ibox _, v, _, _, h => by simp only [RepF] at h
  | .ref _ _, v, _, _, h => by simp only [RepF] at h
  | .rowh id lo len, v, _, hf, h => by simp [PV.hfree] at hf
  | .rptr _ _ _, v, _, _, h => by simp only [RepF] at h
  | .tup _, v, _, _, h => by simp only [RepF] at h
theorem RepFs.bare {l : Loc} : ∀ {ps : List PV} {vs : List Value}, PV.plains ps = true → PV.hfrees ps = true → RepFs P g w l ps vs → RepFs P g.bare w l ps vs
  | [], [], _, _, _ => by simp only [RepFs]
  | p :: ps, v :: vs, hp, hf, h => by
    simp only [RepFs] at h ⊢
    simp only [PV.plains, Bool.and_eq_true] at hp
    simp only [PV.hfrees, Bool.and_eq_true] at hf
    exact ⟨RepF.bare hp.1 hf.1 h.1, RepFs.bare hp.2 hf.2 h.2⟩
  | [], _ :: _, _, _, h => by simp only [RepFs] at h
  | _ :: _, [], _, _, h => by simp only [RepFs] at h
end

def PV.flat1 : PV → Bool
  | .d _ | .own .. | .full _ | .nilsl => true
  | _ => false

theorem RepF.dress {g' : G} {l : Loc} (hl : ∀ l', l ≠ .oth l') {p : PV} {v : Value} (hf : p.flat1 = true) (h : RepF P g' w l p v) : RepF P (g'.dress g) w l p v := by
  cases p with
  | d x => simp only [RepF] at h ⊢; exact h.mono fun b i u hc hs' => ⟨hc, dress_stab hs'⟩
  | own e xs =>
    simp only [RepF] at h ⊢
    obtain ⟨us, h1, h2, h3⟩ := h
    refine ⟨us, h1, h2.mono fun b i u hc hs' => ⟨hc, dress_stab hs'⟩, fun b hb => ⟨?_, (h3 b hb).2⟩⟩
    have := (h3 b hb).1
    simp only [G.dress, this]
    cases l <;> first | rfl | exact absurd rfl (hl _)
  | full xs =>
    simp only [RepF] at h ⊢
    obtain ⟨a, h1, h2⟩ := h
    exact ⟨a, h1, h2.mono fun b i u hc hs' => ⟨hc, dress_stab hs'⟩⟩
  | nilsl => simp only [RepF] at h ⊢; exact h
  | _ => simp [PV.flat1] at hf

theorem RepR.dress {g' : G} {v : PV} {u : Value} (hf : v.flat = true) (h : RepR P g' w v u) : RepR P (g'.dress g) w v u := by
  cases v with
  | tup ps =>
    obtain ⟨us, h1, h2, h3⟩ := h
    refine ⟨us, h1, h2, fun j p x hj hx => (h3 j p x hj hx).dress (fun _ e => by cases e) ?_⟩
    simp only [PV.flat, List.all_eq_true] at hf
    have := hf p (List.mem_of_getElem? hj)
    cases p <;> first | rfl | simp at this
  | d x => exact RepF.dress (l := .ret 0) (fun _ e => by cases e) rfl h
  | own e xs => exact RepF.dress (l := .ret 0) (fun _ e => by cases e) rfl h
  | full xs => exact RepF.dress (l := .ret 0) (fun _ e => by cases e) rfl h
  | nilsl => exact RepF.dress (l := .ret 0) (fun _ e => by cases e) rfl h
  | _ => simp [PV.flat] at hf

def G.melt (g : G) : G := { g with κ := fun b => match g.κ b with | some (.bx _) => none | x => x }
def IsBx (l : Loc) : Prop := ∃ id, l = .bx id
theorem melt_stab {g : G} {b i : Nat} (h : g.stab b i) : g.melt.stab b i := by
  rcases h with h | h
  · exact .inl (by simp [G.melt, h])
  · exact .inr h
theorem Chg.melt : Chg IsBx g w g.melt w where
  os := rfl
  tape := rfl
  output := rfl
  size := Nat.le_refl _
  stab := fun b i u hc hs => ⟨hc, melt_stab hs⟩
  own := fun b l hlt hl hm => by
    refine ⟨?_, rfl, rfl⟩
    simp only [G.melt, hl]
    cases l <;> first | rfl | exact absurd ⟨_, rfl⟩ hm
  free := fun b hlt hl => ⟨by simp [G.melt, hl], rfl⟩
  nb := Nat.le_refl _
  bb := fun _ _ => rfl
theorem isBx_mine {l : Loc} (h : IsBx l) : Mine l := by obtain ⟨id, rfl⟩ := h; exact mine_bx id
theorem thaw1_ok {hp : List Ent} (hH : HeapInv P g w hp) {l : Loc} (hl : ¬ IsBx l) {v : PV} {u : Value} (h : RepF P g w l v u) : RepF P g.melt w l (thaw1 hp v) u := by
  have h0 : RepF P g.melt w l v u := h.mono Chg.melt hl
  unfold thaw1
  split
  · rename_i id off
    split
    · rename_i cs hb
      split
      · rename_i ds hds
        split
        · rename_i hag
          simp only [RepF] at h
          obtain ⟨h1, rfl⟩ := h
          obtain ⟨c, e, zz, hz, k1, k2, k3, k4, k5⟩ := hH.ent id _ hb
          obtain ⟨q1, q2⟩ := optAll_map hds
          simp only [RepF]
          have hc : ∀ (j : Nat) (d : D), ds[j]? = some d → ∃ u, c[j]? = some u ∧ DRep g.melt.stab w d u := by
            intro j d hj
            obtain ⟨p, hp1, hp2⟩ := q2 j d hj
            obtain ⟨u, hu1, _, hu3⟩ := k5 j p hp1
            exact ⟨u, hu1, (hu3.toD hp2).mono fun b i u hc hs => ⟨hc, melt_stab hs⟩⟩
          have hst : ∀ i, g.melt.stab (g.bb id) i := fun i => .inl (by simp [G.melt, k1])
          have key := DRep.ptr (S := g.melt.stab) (w := w) (.agg ds) (g.bb id) 0 off (fun j => c.getD j undef) (by
              intro d hd
              simp only [D.cells] at hd
              have := List.all_eq_true.1 hag d hd
              simpa using this) (by
              intro j d hj
              obtain ⟨u, hu, _⟩ := hc j d hj
              refine ⟨?_, hst _⟩
              simp [World.cell?, k3, hu, Array.getD_eq_getD_getElem?]) (by
              intro j d hj
              obtain ⟨u, hu, hr⟩ := hc j d hj
              simp only [hu, Array.getD_eq_getD_getElem?, Option.getD_some]
              exact hr)
          rw [Nat.zero_add] at key
          exact key
        · exact h0
      · exact h0
    · exact h0
  · exact h0
theorem thaw_ok {hp : List Ent} (hH : HeapInv P g w hp) {v : PV} {u : Value} (h : RepR P g w v u) : RepR P g.melt w (thaw hp v) u := by
  cases v with
  | tup ps =>
    obtain ⟨us, h1, h2, h3⟩ := h
    refine ⟨us, h1, by simpa [thaw] using h2, fun j p x hj hx => ?_⟩
    rw [List.getElem?_map, Option.map_eq_some_iff] at hj
    obtain ⟨q, hq, rfl⟩ := hj
    exact thaw1_ok hH (fun ⟨id, e⟩ => by cases e) (h3 j q x hq hx)
  | ptr id off =>
    have := thaw1_ok (l := .ret 0) hH (fun ⟨id, e⟩ => by cases e) (v := .ptr id off) h
    have e : thaw hp (.ptr id off) = thaw1 hp (.ptr id off) := rfl
    rw [e]
    revert this
    unfold thaw1
    repeat' split
    all_goals first | exact fun h => h | (rename_i h1; cases h1; exact fun h => h) | simp
  | _ => exact RepF.mono (l := .ret 0) Chg.melt (fun ⟨id, e⟩ => by cases e) h
theorem heap_gone (P : Program) (g : G) (w : World) : HeapInv P g w (List.replicate g.nb .gone) := by
  refine ⟨by simp, fun id e he => ?_, fun id cs he => ?_⟩
  · rw [List.getElem?_replicate] at he
    split at he
    · simp only [Option.some.injEq] at he
      subst he
      trivial
    · simp at he
  · simp [List.getElem?_replicate] at he
theorem thaw_ib {hp : List Ent} {v : PV} (h : isIb v = false) : isIb (thaw hp v) = false := by
  cases v <;> first | rfl | (simp [isIb] at h; done) | skip
  unfold thaw thaw1
  repeat' split
  all_goals first | rfl | (rename_i h1; cases h1)
theorem resOf_ib {v : PV} {r : RV} (h : resOf s r = some v) : isIb v = false := by
  unfold resOf at h
  repeat' split at h
  all_goals first | (simp at h; done) | exact cp_ib h | exact cellsAgg_ib h | (simp only [Option.some.injEq] at h; subst h; rfl)

theorem results_ib {v : PV} {rs : List RV} (h : Pe.results s rs = some v) : isIb v = false := by
  unfold Pe.results at h
  split at h
  · exact resOf_ib h
  · obtain ⟨_, _, rfl⟩ := Option.map_eq_some_iff.1 h; rfl

theorem flat_ib {v : PV} (h : v.flat = true) : isIb v = false := by
  cases v <;> first | rfl | (simp [PV.flat] at h)

def PfOk (pf : Nat → Bool) (tab : Nat → Option FnD) : Prop := (∀ f rf, pf f = true → tab f = some (.code rf) → rf.pure = true) ∧ (∀ f p, pf f = true → tab f ≠ some (.mk p)) ∧ (∀ f p, pf f = true → tab f ≠ some (.hp p)) ∧ ∀ f rf t h, pf f = true → tab f = some (.tri rf t h) → rf.pure = true

theorem fnEnd_ret {rf : RFunc} {hp hp' : List Ent} {r : Option (Ex × St)} {v : PV} (h : fnEnd rf hp r = some (.ret v hp')) : isIb v = false ∧ (rf.pure = true → hp' = hp ∧ ∀ hq, fnEnd rf hq r = some (.ret v hq)) := by
  unfold fnEnd at h
  split at h
  · rename_i s
    split at h
    · rename_i w hw
      split at h
      · rename_i hpu
        split at h
        · rename_i hfl
          simp only [Option.some.injEq, Out.ret.injEq] at h
          obtain ⟨rfl, rfl⟩ := h
          exact ⟨thaw_ib (results_ib hw), fun _ => ⟨rfl, fun hq => by simp only [fnEnd, hw, hpu, if_true, hfl]⟩⟩
        · simp at h
      · rename_i hpu
        simp only [Option.some.injEq, Out.ret.injEq] at h
        obtain ⟨rfl, rfl⟩ := h
        exact ⟨results_ib hw, fun e => absurd e hpu⟩
    · simp at h
  · rename_i s
    split at h
    · rename_i w hw
      split at h
      · rename_i hpu
        split at h
        · rename_i hfl
          simp only [Option.some.injEq, Out.ret.injEq] at h
          obtain ⟨rfl, rfl⟩ := h
          exact ⟨thaw_ib (results_ib hw), fun _ => ⟨rfl, fun hq => by simp only [fnEnd, hw, hpu, if_true, hfl]⟩⟩
        · simp at h
      · rename_i hpu
        simp only [Option.some.injEq, Out.ret.injEq] at h
        obtain ⟨rfl, rfl⟩ := h
        exact ⟨results_ib hw, fun e => absurd e hpu⟩
    · simp at h
  · simp at h
  · simp at h

theorem fnEnd_pan {rf : RFunc} {hp hp' : List Ent} {r : Option (Ex × St)} {v : D} (h : fnEnd rf hp r = some (.pan v hp')) (hp0 : rf.pure = true) : hp' = hp ∧ ∀ hq, fnEnd rf hq r = some (.pan v hq) := by
  unfold fnEnd at h
  split at h
  · split at h
    · split at h
      · split at h <;> simp at h
      · simp at h
    · simp at h
  · split at h
    · split at h
      · split at h <;> simp at h
      · simp at h
    · simp at h
  · rw [hp0] at h
    simp only [if_true, Option.some.injEq, Out.pan.injEq] at h
    refine ⟨h.2.symm, fun hq => ?_⟩
    simp only [fnEnd, hp0, if_true, h.1]
  · simp at h

theorem evF_nice {pf : Nat → Bool} {tab : Nat → Option FnD} (hpf : PfOk pf tab) (n : Nat) : CFNice pf (evF tab n) := by
  cases n with
  | zero => exact ⟨fun f args hp v hp' h => by simp [evF] at h, fun f _ args hp v hp' h => by simp [evF] at h, fun f _ args hp v hp' h => by simp [evF] at h⟩
  | succ n =>
    constructor
    · intro f args hp v hp' h
      simp only [evF] at h
      split at h
      · simp at h
      · split at h
        · split at h
          · rename_i hfl
            simp only [Option.some.injEq, Out.ret.injEq] at h
            exact h.1 ▸ flat_ib hfl
          · simp at h
        · simp at h
      · split at h
        · simp only [Option.some.injEq, Out.ret.injEq] at h
          rw [← h.1]; rfl
        · simp at h
      · split at h
        · split at h
          · rename_i hfl
            simp only [Option.some.injEq, Out.ret.injEq] at h
            exact h.1 ▸ flat_ib hfl
          · simp at h
        · simp at h
      · split at h
        · simp at h
        · exact (fnEnd_ret h).1
      · split at h
        · simp at h
        · exact (fnEnd_ret h).1
    · intro f hf args hp v hp' h
      simp only [evF] at h ⊢
      split at h
      · simp at h
      · rename_i p htf
        split at h
        · rename_i w hw
          split at h
          · rename_i hfl
            simp only [Option.some.injEq, Out.ret.injEq] at h
            obtain ⟨rfl, rfl⟩ := h
            exact ⟨rfl, fun hq => by simp only [hfl, if_true]⟩
          · simp at h
        · simp at h
      · rename_i p htf
        exact absurd htf (hpf.2.1 f p hf)
      · rename_i p htf
        exact absurd htf (hpf.2.2.1 f p hf)
      · rename_i rf tr hd htf
        have hp0 := hpf.2.2.2 f rf tr hd hf htf
        split at h
        · simp at h
        · rename_i hc
          rw [hp0] at hc
          obtain ⟨k1, k2⟩ := (fnEnd_ret h).2 hp0
          refine ⟨k1, fun hq => ?_⟩
          rw [hp0, if_neg hc]
          exact k2 hq
      · rename_i rf htf
        have hp0 := hpf.1 f rf hf htf
        split at h
        · simp at h
        · rename_i hc
          rw [hp0] at hc
          obtain ⟨k1, k2⟩ := (fnEnd_ret h).2 hp0
          refine ⟨k1, fun hq => ?_⟩
          rw [hp0, if_neg hc]
          exact k2 hq
    · intro f hf args hp v hp' h
      simp only [evF] at h ⊢
      split at h
      · simp at h
      · split at h
        · split at h
          · simp at h
          · simp at h
        · simp at h
      · rename_i p htf
        exact absurd htf (hpf.2.1 f p hf)
      · rename_i p htf
        exact absurd htf (hpf.2.2.1 f p hf)
      · rename_i rf tr hd htf
        have hp0 := hpf.2.2.2 f rf tr hd hf htf
        split at h
        · simp at h
        · rename_i hc
          rw [hp0] at hc
          obtain ⟨k1, k2⟩ := fnEnd_pan h hp0
          refine ⟨k1, fun hq => ?_⟩
          rw [hp0, if_neg hc]
          exact k2 hq
      · rename_i rf htf
        have hp0 := hpf.1 f rf hf htf
        split at h
        · simp at h
        · rename_i hc
          rw [hp0] at hc
          obtain ⟨k1, k2⟩ := fnEnd_pan h hp0
          refine ⟨k1, fun hq => ?_⟩
          rw [hp0, if_neg hc]
          exact k2 hq

theorem evF_sound {pf : Nat → Bool} {tab : Nat → Option FnD} (hpf : PfOk pf tab) (ht : TabOk P pf tab) : ∀ n, CFSound P (evF tab n)
  | 0 => ⟨fun f args hp out h => by simp [evF] at h, fun f args hp out h => by simp [evF] at h⟩
  | n + 1 => by
    have ih := evF_sound hpf ht n
    have hent : ∀ f args hp out, evF tab (n + 1) f args hp = some out → entered P f = true := by
      intro f args hp out h
      simp only [evF] at h
      cases htf : tab f with
      | none => rw [htf] at h; simp at h
      | some d =>
        have hd := ht f d htf
        cases d with
        | prim p => exact hd.ent
        | mk p => exact hd.ent
        | hp p => exact hd.ent
        | tri rf tr hn =>
          simp only [fnOkT] at hd
          unfold entered
          split at hd
          · rename_i fn hf
            rw [hf]
            simp only [Bool.and_eq_true] at hd ⊢
            obtain ⟨⟨⟨⟨⟨_, h2⟩, h3⟩, _⟩, _⟩, _⟩ := hd
            refine ⟨?_, h2⟩
            split at h3
            · rename_i c hc; rw [hc]; rfl
            · simp at h3
          · simp at hd
        | code rf =>
          simp only [fnOk] at hd
          unfold entered
          split at hd
          · rename_i fn hf
            rw [hf]
            simp only [Bool.and_eq_true] at hd ⊢
            obtain ⟨⟨⟨⟨_, h2⟩, h3⟩, _⟩, _⟩ := hd
            refine ⟨?_, h2⟩
            split at h3
            · rename_i c hc; rw [hc]; rfl
            · simp at h3
          · simp at hd
    refine ⟨hent, ?_⟩
    intro f args hp out h hpl g w vals l ha hH
    simp only [evF] at h
    cases htf : tab f with
    | none => rw [htf] at h; simp at h
    | some d =>
      have hd := ht f d htf
      rw [htf] at h
      cases d with
      | prim p =>
        simp only at h
        split at h
        · rename_i v hv
          split at h
          · rename_i hfl
            simp only [Option.some.injEq] at h
            subst h
            refine (hd.calls args v hv hfl hpl g w vals l ha).mono ?_
            rintro e w' ⟨u, g', rfl, hc, hn, hR⟩
            exact ⟨g', hc.mono fun _ hf => hf.elim, u, rfl, hR, hH.mono hc (fun _ => ⟨fun hf => hf, fun _ hf => hf⟩) hn⟩
          · simp at h
        · simp at h
      | mk p =>
        simp only at h
        split at h
        · rename_i ys hys
          simp only [Option.some.injEq] at h
          subst h
          exact hd.calls args ys hys hpl g w vals l hp ha hH
        · simp at h
      | hp p =>
        simp only at h
        split at h
        · rename_i v hp' hv
          split at h
          · rename_i hfl
            simp only [Option.some.injEq] at h
            subst h
            exact hd.calls args hp v hp' hv hfl hpl g w vals l ha hH
          · simp at h
        · simp at h
      | tri rf tr hn =>
        simp only at h
        split at h
        · simp at h
        · rename_i hpure
          have hd' : fnOkT P pf f rf tr hn = true := hd
          unfold fnOkT at hd'
          split at hd'
          · rename_i fn hf
            simp only [Bool.and_eq_true, beq_iff_eq, decide_eq_true_eq] at hd'
            obtain ⟨⟨⟨⟨⟨hnt, _⟩, hbody⟩, hres⟩, hnd⟩, hhd⟩ := hd'
            split at hbody
            · rename_i c hc
              cases hev : evTri (evF tab n) n hn tr ⟨args ++ List.replicate (rf.nt - args.length) .dead, if rf.pure then [] else hp⟩ with
              | none => rw [hev] at h; simp [fnEnd] at h
              | some exs =>
                obtain ⟨ex, s'⟩ := exs
                rw [hev] at h
                refine calls_of_wp_defers hf hc ?_
                rw [hnt]
                -- what is known at the body's begin
                obtain ⟨g0, hg0, hI, hback⟩ : ∃ g0 : G, True ∧ Inv P g0 w { tmps := vals.toArray ++ Array.replicate (rf.nt - vals.toArray.size) undef, defers := [] } ⟨args ++ List.replicate (rf.nt - args.length) .dead, if rf.pure then [] else hp⟩ ∧
                    (∀ g' w' hp', Chg Mine g0 w g' w' → HeapInv P g' w' hp' → ∃ g2, Chg Mine g w g2 w' ∧ HeapInv P g2 w' (if rf.pure then hp else hp') ∧ (∀ v u, (rf.pure = true → v.flat = true) → RepR P g' w' v u → RepR P g2 w' v u) ∧ ∀ x u, DRep g'.stab w' x u → DRep g2.stab w' x u) := by
                  cases hpu : rf.pure with
                  | true =>
                    simp only [if_true]
                    have hhf : PV.hfrees args = true := by
                      rw [hpu] at hpure
                      simpa using hpure
                    refine ⟨g.bare, trivial, Inv.enter hpl (RepFs.bare hpl hhf ha) ⟨rfl, by simp, fun _ _ h => by simp at h⟩ rf.nt, ?_⟩
                    intro g' w' hp' hc' hH'
                    exact ⟨g'.dress g, hc'.dress.mono fun _ hf => hf.elim, hH.mono hc'.dress (fun _ => ⟨fun hf => hf, fun _ hf => hf⟩) rfl, fun v u hv hR => hR.dress (hv trivial), fun x u hx => hx.mono fun b i u hc hs => ⟨hc, dress_stab hs⟩⟩
                  | false =>
                    simp only [Bool.false_eq_true, if_false]
                    exact ⟨g, trivial, Inv.enter hpl ha hH rf.nt, fun g' w' hp' hc' hH' => ⟨g', hc', hH', fun v u _ hR => hR, fun x u hx => hx⟩⟩
                refine tri_sound ih (evF_nice hpf n) n hhd tr c hbody hev hI rfl ?_
                have retcase : ∀ (_ : PV), (match Pe.results s' rf.res with | some v => if rf.pure then (if (thaw s'.hp v).flat then some (Out.ret (thaw s'.hp v) hp) else none) else some (.ret v s'.hp) | none => none) = some out →
                    ∀ g' w' a', Inv P g' w' a' s' → Chg Mine g0 w g' w' → ∃ v, (Go.results fn a'.tmps).run P w' = .ok v w' ∧ CallPost P g w out (.returned v) w' := by
                  intro _ ho g' w' a' hI' hc'
                  split at ho
                  · rename_i v hv
                    obtain ⟨u, g1, r1, r2, r3, r4⟩ := results_ok hI' hres hnd hv
                    refine ⟨u, r1, ?_⟩
                    cases hpu : rf.pure with
                    | true =>
                      obtain ⟨g2, q1, q2, q3, _⟩ := hback g1.melt w' _ ((hc'.trans r2).trans (Chg.melt.mono fun _ h => isBx_mine h)) (heap_gone P _ _)
                      rw [hpu] at ho q2 q3
                      simp only [if_true] at ho q2
                      split at ho
                      · rename_i hfl
                        simp only [Option.some.injEq] at ho
                        subst ho
                        exact ⟨g2, q1, u, rfl, q3 _ u (fun _ => hfl) (thaw_ok r4 r3), q2⟩
                      · simp at ho
                    | false =>
                      obtain ⟨g2, q1, q2, q3, _⟩ := hback g1 w' _ (hc'.trans r2) r4
                      rw [hpu] at ho q2 q3
                      simp only [Bool.false_eq_true, if_false, Option.some.injEq] at ho q2
                      subst ho
                      exact ⟨g2, q1, u, rfl, q3 v u (fun hf => by simp at hf) r3, q2⟩
                  · simp at ho
                cases ex with
                | norm => exact fun g' w' a' hI' hc' => retcase .dead h g' w' a' hI' hc'
                | ret => exact fun g' w' a' hI' hc' => retcase .dead h g' w' a' hI' hc'
                | exit id => simp [fnEnd] at h
                | pan x =>
                  simp only [fnEnd, Option.some.injEq] at h
                  subst h
                  intro g' w' a' u hx hH' hc'
                  obtain ⟨g2, q1, q2, _, q4⟩ := hback g' w' _ hc' hH'.heap
                  exact ⟨g2, q1, u, rfl, q4 x u hx, q2⟩
            · simp at hbody
          · simp at hd'
      | code rf =>
        simp only at h
        split at h
        · simp at h
        · rename_i hpure
          have hd' : fnOk P pf f rf = true := hd
          unfold fnOk at hd'
          split at hd'
          · rename_i fn hf
            simp only [Bool.and_eq_true, beq_iff_eq, decide_eq_true_eq] at hd'
            obtain ⟨⟨⟨⟨hnt, _⟩, hbody⟩, hres⟩, hnd⟩ := hd'
            split at hbody
            · rename_i c hc
              cases hev : evCode (evF tab n) n rf.body ⟨args ++ List.replicate (rf.nt - args.length) .dead, if rf.pure then [] else hp⟩ with
              | none => rw [hev] at h; simp [fnEnd] at h
              | some exs =>
                obtain ⟨ex, s'⟩ := exs
                rw [hev] at h
                refine calls_of_wp hf hc ?_
                rw [hnt]
                -- what is known at the body's begin
                obtain ⟨g0, hg0, hI, hback⟩ : ∃ g0 : G, True ∧ Inv P g0 w { tmps := vals.toArray ++ Array.replicate (rf.nt - vals.toArray.size) undef, defers := [] } ⟨args ++ List.replicate (rf.nt - args.length) .dead, if rf.pure then [] else hp⟩ ∧
                    (∀ g' w' hp', Chg Mine g0 w g' w' → HeapInv P g' w' hp' → ∃ g2, Chg Mine g w g2 w' ∧ HeapInv P g2 w' (if rf.pure then hp else hp') ∧ (∀ v u, (rf.pure = true → v.flat = true) → RepR P g' w' v u → RepR P g2 w' v u) ∧ ∀ x u, DRep g'.stab w' x u → DRep g2.stab w' x u) := by
                  cases hpu : rf.pure with
                  | true =>
                    simp only [if_true]
                    have hhf : PV.hfrees args = true := by
                      rw [hpu] at hpure
                      simpa using hpure
                    refine ⟨g.bare, trivial, Inv.enter hpl (RepFs.bare hpl hhf ha) ⟨rfl, by simp, fun _ _ h => by simp at h⟩ rf.nt, ?_⟩
                    intro g' w' hp' hc' hH'
                    exact ⟨g'.dress g, hc'.dress.mono fun _ hf => hf.elim, hH.mono hc'.dress (fun _ => ⟨fun hf => hf, fun _ hf => hf⟩) rfl, fun v u hv hR => hR.dress (hv trivial), fun x u hx => hx.mono fun b i u hc hs => ⟨hc, dress_stab hs⟩⟩
                  | false =>
                    simp only [Bool.false_eq_true, if_false]
                    exact ⟨g, trivial, Inv.enter hpl ha hH rf.nt, fun g' w' hp' hc' hH' => ⟨g', hc', hH', fun v u _ hR => hR, fun x u hx => hx⟩⟩
                refine code_sound ih (evF_nice hpf n) n c rf.body hbody hev hI ?_
                have retcase : ∀ (_ : PV), (match Pe.results s' rf.res with | some v => if rf.pure then (if (thaw s'.hp v).flat then some (Out.ret (thaw s'.hp v) hp) else none) else some (.ret v s'.hp) | none => none) = some out →
                    ∀ g' w' a', Inv P g' w' a' s' → Chg Mine g0 w g' w' → a'.defers = [] → a'.defers = [] ∧ ∃ v, (Go.results fn a'.tmps).run P w' = .ok v w' ∧ CallPost P g w out (.returned v) w' := by
                  intro _ ho g' w' a' hI' hc' hdf
                  refine ⟨hdf, ?_⟩
                  split at ho
                  · rename_i v hv
                    obtain ⟨u, g1, r1, r2, r3, r4⟩ := results_ok hI' hres hnd hv
                    refine ⟨u, r1, ?_⟩
                    cases hpu : rf.pure with
                    | true =>
                      obtain ⟨g2, q1, q2, q3, _⟩ := hback g1.melt w' _ ((hc'.trans r2).trans (Chg.melt.mono fun _ h => isBx_mine h)) (heap_gone P _ _)
                      rw [hpu] at ho q2 q3
                      simp only [if_true] at ho q2
                      split at ho
                      · rename_i hfl
                        simp only [Option.some.injEq] at ho
                        subst ho
                        exact ⟨g2, q1, u, rfl, q3 _ u (fun _ => hfl) (thaw_ok r4 r3), q2⟩
                      · simp at ho
                    | false =>
                      obtain ⟨g2, q1, q2, q3, _⟩ := hback g1 w' _ (hc'.trans r2) r4
                      rw [hpu] at ho q2 q3
                      simp only [Bool.false_eq_true, if_false, Option.some.injEq] at ho q2
                      subst ho
                      exact ⟨g2, q1, u, rfl, q3 v u (fun hf => by simp at hf) r3, q2⟩
                  · simp at ho
                cases ex with
                | norm => exact fun g' w' a' hI' hc' hdf => retcase .dead h g' w' a' hI' hc' hdf
                | ret => exact fun g' w' a' hI' hc' hdf => retcase .dead h g' w' a' hI' hc' hdf
                | exit id => simp [fnEnd] at h
                | pan x =>
                  simp only [fnEnd, Option.some.injEq] at h
                  subst h
                  intro g' w' a' u hx hH' hc' hdf
                  obtain ⟨g2, q1, q2, _, q4⟩ := hback g' w' _ hc' hH'.heap
                  exact ⟨hdf, g2, q1, u, rfl, q4 x u hx, q2⟩
            · simp at hbody
          · simp at hd'

end
end Go.Pe

namespace Go.Pe

def CF.le (a b : CF) : Prop := ∀ f args hp out, a f args hp = some out → b f args hp = some out

theorem evOp_mono {a b : CF} (h : CF.le a b) {dst : Option Nat} {o : RO} {s : St} {r : OR} (e : evOp a dst o s = some r) : evOp b dst o s = some r := by
  cases o <;> first | exact e | skip
  rename_i m f args
  simp only [evOp] at e ⊢
  split at e
  · rename_i g caps hf
    simp only [Option.bind_eq_some_iff] at e ⊢
    obtain ⟨vs, h1, o, h2, h3⟩ := e
    exact ⟨vs, h1, o, h _ _ _ _ h2, h3⟩
  · rename_i g caps hf
    simp only [Option.bind_eq_some_iff] at e ⊢
    obtain ⟨vs, h1, o, h2, h3⟩ := e
    exact ⟨vs, h1, o, h _ _ _ _ h2, h3⟩
  · simp at e

theorem evOps_mono {a b : CF} (h : CF.le a b) : ∀ {ops : List ROper} {s : St} {r : OR}, evOps a ops s = some r → evOps b ops s = some r
  | [], s, r, e => e
  | o :: ops, s, r, e => by
    simp only [evOps] at e ⊢
    split at e
    · rename_i hw
      cases h1 : evOp a o.dst o.op s with
      | none => rw [h1] at e; simp at e
      | some r1 =>
        rw [h1] at e
        rw [evOp_mono h h1]
        cases r1 with
        | ok s' => simp only at e ⊢; exact evOps_mono h e
        | pan v hp => exact e
    · rename_i hw
      split at e
      · rename_i s' hp
        exact evOps_mono h e
      · simp at e
    · simp at e

theorem evIter_mono {f g : St → Option (Ex × St)} (h : ∀ s r, f s = some r → g s = some r) {live : List LM} : ∀ {n m : Nat} {s : St} {r : Ex × St}, n ≤ m → evIter f live n s = some r → evIter g live m s = some r
  | 0, m, s, r, _, e => by simp [evIter] at e
  | n + 1, 0, s, r, hl, e => by omega
  | n + 1, m + 1, s, r, hl, e => by
    simp only [evIter] at e ⊢
    cases h1 : f (s.head live) with
    | none => rw [h1] at e; simp at e
    | some q =>
      rw [h1] at e
      rw [h _ _ h1]
      obtain ⟨ex, s'⟩ := q
      cases ex with
      | norm => simp only at e ⊢; exact evIter_mono h (Nat.le_of_succ_le_succ hl) e
      | _ => exact e

theorem ok_nopan {cf : CF} {ops : List ROper} {c : Nat} {s f : St} (h : evOps cf (ops.drop c) s = some (.ok f)) : (ops[c]?.bind fun o => panAt cf o s) = none := by
  cases ho : ops[c]? with
  | none => rfl
  | some o =>
    obtain ⟨hc, rfl⟩ := List.getElem?_eq_some_iff.1 ho
    rw [List.drop_eq_getElem_cons hc, evOps] at h
    simp only [Option.bind_some, panAt]
    cases hw : wanted s ops[c].g with
    | none => rfl
    | some b =>
      cases b with
      | false => rfl
      | true =>
        rw [hw] at h
        simp only at h ⊢
        cases he : evOp cf ops[c].dst ops[c].op s with
        | none => rfl
        | some q =>
          rw [he] at h
          cases q with
          | ok _ => rfl
          | pan _ _ => simp at h

theorem regp_some {cf : CF} {ops : List ROper} {adr : List Nat} {c : Nat} {s : St} {r : Ex × St} : evRegp cf ops adr c s = some r ↔ ∃ s1, evOps cf (ops.take c) s = some (.ok s1) ∧
    ((∃ oc v, ops[c]? = some oc ∧ panAt cf oc s1 = some v ∧ r = (.pan v, dread (dsts ops) s)) ∨ ∃ f, evOps cf (ops.drop c) s1 = some (.ok f) ∧ r = (.norm, { f with tm := killAll f.tm adr })) := by
  unfold evRegp
  constructor
  · intro h
    split at h
    · rename_i s1 h1
      refine ⟨s1, h1, ?_⟩
      cases hb : (ops[c]?.bind fun o => panAt cf o s1) with
      | some v =>
        rw [hb] at h
        simp only [regpK, Option.some.injEq] at h
        obtain ⟨oc, ho, hv⟩ := Option.bind_eq_some_iff.1 hb
        exact .inl ⟨oc, v, ho, hv, h.symm⟩
      | none =>
        rw [hb] at h
        cases h2 : evOps cf (ops.drop c) s1 with
        | none => rw [h2] at h; simp [regpK] at h
        | some q =>
          rw [h2] at h
          cases q with
          | pan v s2 => simp [regpK] at h
          | ok f =>
            simp only [regpK, Option.some.injEq] at h
            exact .inr ⟨f, rfl, h.symm⟩
    · simp at h
  · rintro ⟨s1, h1, ⟨oc, v, ho, hv, rfl⟩ | ⟨f, h2, rfl⟩⟩
    · rw [h1]
      simp only [ho, Option.bind_some, hv, regpK]
    · rw [h1]
      simp only [ok_nopan h2, h2, regpK]

theorem panAt_mono {a b : CF} (h : CF.le a b) {o : ROper} {s : St} {v : D} (e : panAt a o s = some v) : panAt b o s = some v := by
  unfold panAt at e ⊢
  split at e
  · split at e
    · rename_i h1
      rw [evOp_mono h h1]
      exact e
    · simp at e
  · simp at e

theorem evRegp_mono {a b : CF} (h : CF.le a b) {ops : List ROper} {adr : List Nat} {c : Nat} {s : St} {r : Ex × St} (e : evRegp a ops adr c s = some r) : evRegp b ops adr c s = some r := by
  rw [regp_some] at e ⊢
  obtain ⟨s1, h1, h2⟩ := e
  refine ⟨s1, evOps_mono h h1, ?_⟩
  rcases h2 with ⟨oc, v, ho, hv, hr⟩ | ⟨f, hf, hr⟩
  · exact .inl ⟨oc, v, ho, panAt_mono h hv, hr⟩
  · exact .inr ⟨f, evOps_mono h hf, hr⟩

theorem evCode_mono {a b : CF} (h : CF.le a b) {n m : Nat} (hl : n ≤ m) : ∀ (c : RCode) {s : St} {r : Ex × St}, evCode a n c s = some r → evCode b m c s = some r
  | .skip, s, r, e => e
  | .stuck, s, r, e => by simp [evCode] at e
  | .exit i, s, r, e => e
  | .ret live, s, r, e => e
  | .reg ops adr d, s, r, e => by
    simp only [evCode, Option.map_eq_some_iff, Option.bind_eq_some_iff] at e ⊢
    obtain ⟨r1, ⟨r2, h1, h2⟩, h3⟩ := e
    exact ⟨r1, ⟨r2, evOps_mono h h1, h2⟩, h3⟩
  | .regp ops adr c, s, r, e => by
    simp only [evCode] at e ⊢
    exact evRegp_mono h e
  | .seq c1 c2, s, r, e => by
    simp only [evCode] at e ⊢
    cases h1 : evCode a n c1 s with
    | none => rw [h1] at e; simp at e
    | some q =>
      rw [h1] at e
      rw [evCode_mono h hl c1 h1]
      obtain ⟨ex, s'⟩ := q
      cases ex with
      | norm => simp only at e ⊢; exact evCode_mono h hl c2 e
      | _ => exact e
  | .seqf c1 k c2, s, r, e => by
    simp only [evCode] at e ⊢
    cases h1 : evCode a n c1 s with
    | none => rw [h1] at e; simp at e
    | some q =>
      rw [h1] at e
      rw [evCode_mono h hl c1 h1]
      obtain ⟨ex, s'⟩ := q
      cases ex with
      | norm =>
        simp only at e ⊢
        split at e
        · rename_i s2 hf
          try simp only [hf]
          exact evCode_mono h hl c2 e
        · simp at e
      | _ => exact e
  | .seqc c1 live c2, s, r, e => by
    simp only [evCode] at e ⊢
    cases h1 : evCode a n c1 s with
    | none => rw [h1] at e; simp at e
    | some q =>
      rw [h1] at e
      rw [evCode_mono h hl c1 h1]
      obtain ⟨ex, s'⟩ := q
      cases ex with
      | norm => simp only at e ⊢; exact evCode_mono h hl c2 e
      | _ => exact e
  | .cond x c1 c2, s, r, e => by
    simp only [evCode] at e ⊢
    split at e
    · rename_i t hx
      cases t with
      | true => exact evCode_mono h hl c1 e
      | false => exact evCode_mono h hl c2 e
    · simp at e
  | .block i live c, s, r, e => by
    simp only [evCode] at e ⊢
    cases h1 : evCode a n c s with
    | none => rw [h1] at e; simp at e
    | some q =>
      rw [h1] at e
      rw [evCode_mono h hl c h1]
      exact e
  | .loop live c, s, r, e => by
    simp only [evCode] at e ⊢
    exact evIter_mono (fun s r e => evCode_mono h hl c e) hl e

theorem evH_mono {a b : CF} (h : CF.le a b) {n m : Nat} (hl : n ≤ m) {hd : RHand} {vs : List PV} {rv : D} {hp : List Ent} {r : List Ent} (e : evH a n hd vs rv hp = some r) : evH b m hd vs rv hp = some r := by
  unfold evH at e ⊢
  cases h1 : evCode a n hd.body ⟨(vs ++ List.replicate (hd.nt - vs.length) PV.dead).set hd.dst (.d rv), hp⟩ with
  | none => rw [h1] at e; simp at e
  | some q => rw [h1] at e; rw [evCode_mono h hl hd.body h1]; exact e

theorem triFin_mono {a b : CF} (h : CF.le a b) {n m : Nat} (hl : n ≤ m) {hd : RHand} {vs : List PV} {q : Option (Ex × St)} {r : Ex × St} (e : triFin a n hd vs q = some r) : triFin b m hd vs q = some r := by
  cases q with
  | none => simp [triFin] at e
  | some q =>
    obtain ⟨ex, s⟩ := q
    cases ex with
    | exit i => simp [triFin] at e
    | _ =>
      simp only [triFin, Option.map_eq_some_iff] at e ⊢
      obtain ⟨hp, h1, h2⟩ := e
      exact ⟨hp, evH_mono h hl h1, h2⟩

theorem evTri_mono {a b : CF} (h : CF.le a b) {n m : Nat} (hl : n ≤ m) {hd : RHand} : ∀ (t : RTri) {s : St} {r : Ex × St}, evTri a n hd t s = some r → evTri b m hd t s = some r
  | .seq c t, s, r, e => by
    simp only [evTri] at e ⊢
    cases h1 : evCode a n c s with
    | none => rw [h1] at e; simp at e
    | some q =>
      rw [h1] at e
      rw [evCode_mono h hl c h1]
      obtain ⟨ex, s'⟩ := q
      cases ex with
      | norm => simp only at e ⊢; exact evTri_mono h hl t e
      | _ => exact e
  | .dfr args post, s, r, e => by
    simp only [evTri] at e ⊢
    split at e
    · rename_i vs hvs
      split at e
      · rename_i hp
        rw [if_pos hp]
        cases h1 : evCode a n post s with
        | none => rw [h1] at e; simp [triFin] at e
        | some q =>
          rw [h1] at e
          rw [evCode_mono h hl post h1]
          exact triFin_mono h hl e
      · simp at e
    · simp at e

theorem evF_mono1 (tab : Nat → Option FnD) : ∀ (n : Nat), CF.le (evF tab n) (evF tab (n + 1))
  | 0 => fun f args hp out e => by simp [evF] at e
  | n + 1 => fun f args hp out e => by
    have ih := evF_mono1 tab n
    simp only [evF] at e
    rw [evF]
    cases htf : tab f with
    | none => rw [htf] at e; simp at e
    | some d =>
      rw [htf] at e
      cases d with
      | prim p => exact e
      | mk p => exact e
      | hp p => exact e
      | tri rf tr hd =>
        simp only at e ⊢
        split at e
        · simp at e
        · rename_i hc
          rw [if_neg hc]
          cases h1 : evTri (evF tab n) n hd tr ⟨args ++ List.replicate (rf.nt - args.length) .dead, if rf.pure then [] else hp⟩ with
          | none => rw [h1] at e; simp [fnEnd] at e
          | some r =>
            rw [h1] at e
            rw [evTri_mono ih (Nat.le_succ n) tr h1]
            exact e
      | code rf =>
        simp only at e ⊢
        split at e
        · simp at e
        · rename_i hc
          rw [if_neg hc]
          cases h1 : evCode (evF tab n) n rf.body ⟨args ++ List.replicate (rf.nt - args.length) .dead, if rf.pure then [] else hp⟩ with
          | none => rw [h1] at e; simp [fnEnd] at e
          | some r =>
            rw [h1] at e
            rw [evCode_mono ih (Nat.le_succ n) rf.body h1]
            exact e

theorem evF_mono (tab : Nat → Option FnD) {n m : Nat} (h : n ≤ m) : CF.le (evF tab n) (evF tab m) := by
  induction h with
  | refl => exact fun _ _ _ _ e => e
  | step _ ih => exact fun f args hp out e => evF_mono1 tab _ f args hp out (ih f args hp out e)

open Classical in
noncomputable def lim {α : Type} (f : Nat → Option α) : Option α := if h : ∃ v, ∃ n, f n = some v then some h.choose else none

theorem lim_some {α : Type} {f : Nat → Option α} (hm : ∀ n m v, n ≤ m → f n = some v → f m = some v) {v : α} : lim f = some v ↔ ∃ n, f n = some v := by
  constructor
  · intro h
    unfold lim at h
    split at h
    · rename_i hx
      simp only [Option.some.injEq] at h
      exact h ▸ hx.choose_spec
    · simp at h
  · rintro ⟨n, h⟩
    have hx : ∃ v, ∃ n, f n = some v := ⟨v, n, h⟩
    unfold lim
    rw [dif_pos hx]
    obtain ⟨m, hm'⟩ := hx.choose_spec
    have h1 := hm n (max n m) v (Nat.le_max_left _ _) h
    have h2 := hm m (max n m) _ (Nat.le_max_right _ _) hm'
    rw [h1] at h2
    exact h2.symm

noncomputable def F (tab : Nat → Option FnD) : CF := fun f args hp => lim fun n => evF tab n f args hp

theorem F_some {tab : Nat → Option FnD} {f : Nat} {args : List PV} {hp : List Ent} {out : Out} : F tab f args hp = some out ↔ ∃ n, evF tab n f args hp = some out :=
  lim_some fun n m v h e => evF_mono tab h _ _ _ _ e

noncomputable def V (cf : CF) (c : RCode) (s : St) : Option (Ex × St) := lim fun n => evCode cf n c s

theorem V_some {cf : CF} {c : RCode} {s : St} {r : Ex × St} : V cf c s = some r ↔ ∃ n, evCode cf n c s = some r :=
  lim_some fun n m v h e => evCode_mono (fun _ _ _ _ e => e) h c e

theorem opt_ext {α : Type} {a b : Option α} (h : ∀ v, a = some v ↔ b = some v) : a = b := by
  cases a with
  | none => cases b with
    | none => rfl
    | some v => exact absurd ((h v).2 rfl) (by simp)
  | some v => exact ((h v).1 rfl).symm

variable {cf : CF} {s : St}

theorem V_skip : V cf .skip s = some (.norm, s) := V_some.2 ⟨0, rfl⟩
theorem V_ret {live : List LM} : V cf (.ret live) s = some (.ret, s.head live) := V_some.2 ⟨0, rfl⟩
theorem V_exit {i : Nat} : V cf (.exit i) s = some (.exit i, s) := V_some.2 ⟨0, rfl⟩
theorem V_reg {ops : List ROper} {adr : List Nat} {d : Bool} : V cf (.reg ops adr d) s = ((evOps cf ops s).bind (drawEnd d)).map (regEnd s adr) :=
  opt_ext fun v => by rw [V_some]; exact ⟨fun ⟨_, h⟩ => h, fun h => ⟨0, h⟩⟩

def seqK (k : St → Option (Ex × St)) : Option (Ex × St) → Option (Ex × St)
  | some (.norm, s') => k s'
  | r => r

theorem V_seq {a b : RCode} : V cf (.seq a b) s = seqK (V cf b) (V cf a s) := by
  refine opt_ext fun v => ?_
  rw [V_some]
  constructor
  · rintro ⟨n, h⟩
    simp only [evCode] at h
    cases h1 : evCode cf n a s with
    | none => rw [h1] at h; simp at h
    | some q =>
      rw [h1] at h
      rw [V_some.2 ⟨n, h1⟩]
      obtain ⟨ex, s'⟩ := q
      cases ex with
      | norm => exact V_some.2 ⟨n, h⟩
      | _ => exact h
  · intro h
    cases h1 : V cf a s with
    | none => rw [h1] at h; simp [seqK] at h
    | some q =>
      rw [h1] at h
      obtain ⟨n, h2⟩ := V_some.1 h1
      obtain ⟨ex, s'⟩ := q
      cases ex with
      | norm =>
        obtain ⟨m, h3⟩ := V_some.1 h
        refine ⟨max n m, ?_⟩
        simp only [evCode]
        rw [evCode_mono (fun _ _ _ _ e => e) (Nat.le_max_left n m) a h2]
        exact evCode_mono (fun _ _ _ _ e => e) (Nat.le_max_right n m) b h3
      | _ => exact ⟨n, by simp only [evCode]; rw [h2]; exact h⟩

theorem V_seqc {a b : RCode} {live : List LM} : V cf (.seqc a live b) s = seqK (fun s' => V cf b (s'.head live)) (V cf a s) := by
  refine opt_ext fun v => ?_
  rw [V_some]
  constructor
  · rintro ⟨n, h⟩
    simp only [evCode] at h
    cases h1 : evCode cf n a s with
    | none => rw [h1] at h; simp at h
    | some q =>
      rw [h1] at h
      rw [V_some.2 ⟨n, h1⟩]
      obtain ⟨ex, s'⟩ := q
      cases ex with
      | norm => exact V_some.2 ⟨n, h⟩
      | _ => exact h
  · intro h
    cases h1 : V cf a s with
    | none => rw [h1] at h; simp [seqK] at h
    | some q =>
      rw [h1] at h
      obtain ⟨n, h2⟩ := V_some.1 h1
      obtain ⟨ex, s'⟩ := q
      cases ex with
      | norm =>
        obtain ⟨m, h3⟩ := V_some.1 h
        refine ⟨max n m, ?_⟩
        simp only [evCode]
        rw [evCode_mono (fun _ _ _ _ e => e) (Nat.le_max_left n m) a h2]
        exact evCode_mono (fun _ _ _ _ e => e) (Nat.le_max_right n m) b h3
      | _ => exact ⟨n, by simp only [evCode]; rw [h2]; exact h⟩

def frzK (k : St → Option (Ex × St)) : Option St → Option (Ex × St)
  | some s => k s
  | none => none
theorem V_seqf {a b : RCode} {k : Nat} : V cf (.seqf a k b) s = seqK (fun s' => frzK (V cf b) (freeze1 s' k)) (V cf a s) := by
  refine opt_ext fun v => ?_
  rw [V_some]
  constructor
  · rintro ⟨n, h⟩
    simp only [evCode] at h
    cases h1 : evCode cf n a s with
    | none => rw [h1] at h; simp at h
    | some q =>
      rw [h1] at h
      rw [V_some.2 ⟨n, h1⟩]
      obtain ⟨ex, s'⟩ := q
      cases ex with
      | norm =>
        simp only at h
        simp only [seqK]
        split at h
        · rename_i s2 hf
          rw [hf]
          exact V_some.2 ⟨n, h⟩
        · simp at h
      | _ => exact h
  · intro h
    cases h1 : V cf a s with
    | none => rw [h1] at h; simp [seqK] at h
    | some q =>
      rw [h1] at h
      obtain ⟨n, h2⟩ := V_some.1 h1
      obtain ⟨ex, s'⟩ := q
      cases ex with
      | norm =>
        simp only [seqK] at h
        cases hf : freeze1 s' k with
        | none => rw [hf] at h; simp [frzK] at h
        | some s2 =>
          rw [hf] at h
          obtain ⟨m, h3⟩ := V_some.1 h
          refine ⟨max n m, ?_⟩
          simp only [evCode]
          rw [evCode_mono (fun _ _ _ _ e => e) (Nat.le_max_left n m) a h2]
          simp only [hf]
          exact evCode_mono (fun _ _ _ _ e => e) (Nat.le_max_right n m) b h3
      | _ => exact ⟨n, by simp only [evCode]; rw [h2]; exact h⟩

def condK (t : PV) (a b : Option (Ex × St)) : Option (Ex × St) :=
  match t with
  | .d (.bool t) => match t with
    | true => a
    | false => b
  | _ => none

theorem V_cond {c : X} {a b : RCode} : V cf (.cond c a b) s = condK (s.x c) (V cf a s) (V cf b s) := by
  refine opt_ext fun v => ?_
  rw [V_some]
  simp only [evCode, condK]
  generalize s.x c = p
  split
  · rename_i t
    cases t with
    | true => exact V_some.symm
    | false => exact V_some.symm
  · simp

def blockK (id : Nat) (live : List LM) : Option (Ex × St) → Option (Ex × St)
  | some (.exit i, s') => if i = id then some (.norm, s'.head live) else some (.exit i, s')
  | some (.norm, s') => some (.norm, s'.head live)
  | r => r

theorem V_block {id : Nat} {live : List LM} {c : RCode} : V cf (.block id live c) s = blockK id live (V cf c s) := by
  refine opt_ext fun v => ?_
  rw [V_some]
  constructor
  · rintro ⟨n, h⟩
    simp only [evCode] at h
    cases h1 : evCode cf n c s with
    | none => rw [h1] at h; simp at h
    | some q => rw [h1] at h; rw [V_some.2 ⟨n, h1⟩]; exact h
  · intro h
    cases h1 : V cf c s with
    | none => rw [h1] at h; simp [blockK] at h
    | some q =>
      obtain ⟨n, h2⟩ := V_some.1 h1
      exact ⟨n, by simp only [evCode]; rw [h2]; rw [h1] at h; exact h⟩

theorem V_loop {live : List LM} {c : RCode} : V cf (.loop live c) s = seqK (V cf (.loop live c)) (V cf c (s.head live)) := by
  refine opt_ext fun v => ?_
  rw [V_some]
  constructor
  · rintro ⟨n, h⟩
    simp only [evCode] at h
    cases n with
    | zero => simp [evIter] at h
    | succ n =>
      simp only [evIter] at h
      cases h1 : evCode cf (n + 1) c (s.head live) with
      | none => rw [h1] at h; simp at h
      | some q =>
        rw [h1] at h
        rw [V_some.2 ⟨_, h1⟩]
        obtain ⟨ex, s'⟩ := q
        cases ex with
        | norm =>
          refine V_some.2 ⟨n + 1, ?_⟩
          simp only [evCode]
          exact evIter_mono (fun _ _ e => e) (Nat.le_succ n) h
        | _ => exact h
  · intro h
    cases h1 : V cf c (s.head live) with
    | none => rw [h1] at h; simp [seqK] at h
    | some q =>
      rw [h1] at h
      obtain ⟨n, h2⟩ := V_some.1 h1
      obtain ⟨ex, s'⟩ := q
      cases ex with
      | norm =>
        obtain ⟨m, h3⟩ := V_some.1 h
        refine ⟨max n m + 1, ?_⟩
        simp only [evCode, evIter]
        rw [evCode_mono (fun _ _ _ _ e => e) (Nat.le_succ_of_le (Nat.le_max_left n m)) c h2]
        simp only [evCode] at h3
        exact evIter_mono (fun _ _ e => evCode_mono (fun _ _ _ _ e => e) (Nat.le_succ_of_le (Nat.le_max_right n m)) c e) (Nat.le_max_right n m) h3
      | _ =>
        refine ⟨n + 1, ?_⟩
        simp only [evCode, evIter]
        rw [evCode_mono (fun _ _ _ _ e => e) (Nat.le_succ n) c h2]
        exact h


theorem evOp_cont {tab : Nat → Option FnD} {dst : Option Nat} {o : RO} {r : OR} (e : evOp (F tab) dst o s = some r) : ∃ m, evOp (evF tab m) dst o s = some r := by
  cases o <;> first | exact ⟨0, e⟩ | skip
  rename_i m f args
  simp only [evOp] at e ⊢
  split at e
  · rename_i g caps hf
    simp only [Option.bind_eq_some_iff] at e
    obtain ⟨vs, h1, o, h2, h3⟩ := e
    obtain ⟨k, h2⟩ := F_some.1 h2
    refine ⟨k, ?_⟩
    simp only [Option.bind_eq_some_iff]
    exact ⟨vs, h1, o, h2, h3⟩
  · rename_i g caps hf
    simp only [Option.bind_eq_some_iff] at e
    obtain ⟨vs, h1, o, h2, h3⟩ := e
    obtain ⟨k, h2⟩ := F_some.1 h2
    refine ⟨k, ?_⟩
    simp only [Option.bind_eq_some_iff]
    exact ⟨vs, h1, o, h2, h3⟩
  · simp at e

theorem evOps_cont {tab : Nat → Option FnD} : ∀ {ops : List ROper} {s : St} {r : OR}, evOps (F tab) ops s = some r → ∃ m, evOps (evF tab m) ops s = some r
  | [], s, r, e => ⟨0, e⟩
  | o :: ops, s, r, e => by
    simp only [evOps] at e ⊢
    split at e
    · rename_i hw
      cases h1 : evOp (F tab) o.dst o.op s with
      | none => rw [h1] at e; simp at e
      | some r1 =>
        rw [h1] at e
        obtain ⟨m1, h2⟩ := evOp_cont h1
        cases r1 with
        | ok s' =>
          simp only at e
          obtain ⟨m2, h3⟩ := evOps_cont e
          refine ⟨max m1 m2, ?_⟩
          rw [evOp_mono (evF_mono tab (Nat.le_max_left m1 m2)) h2]
          exact evOps_mono (evF_mono tab (Nat.le_max_right m1 m2)) h3
        | pan v hp => exact ⟨m1, by rw [h2]; exact e⟩
    · rename_i hw
      split at e
      · rename_i s' hp
        exact evOps_cont e
      · simp at e
    · simp at e

theorem evIter_cont {f : St → Option (Ex × St)} {g : Nat → St → Option (Ex × St)} (hg : ∀ n m s r, n ≤ m → g n s = some r → g m s = some r) (h : ∀ s r, f s = some r → ∃ m, g m s = some r) {live : List LM} : ∀ {n : Nat} {s : St} {r : Ex × St}, evIter f live n s = some r → ∃ m, evIter (g m) live n s = some r
  | 0, s, r, e => by simp [evIter] at e
  | n + 1, s, r, e => by
    simp only [evIter] at e ⊢
    cases h1 : f (s.head live) with
    | none => rw [h1] at e; simp at e
    | some q =>
      rw [h1] at e
      obtain ⟨m1, h2⟩ := h _ _ h1
      obtain ⟨ex, s'⟩ := q
      cases ex with
      | norm =>
        simp only at e
        obtain ⟨m2, h3⟩ := evIter_cont hg h e
        refine ⟨max m1 m2, ?_⟩
        rw [hg _ _ _ _ (Nat.le_max_left m1 m2) h2]
        exact evIter_mono (fun s r e => hg _ _ _ _ (Nat.le_max_right m1 m2) e) (Nat.le_refl _) h3
      | _ => exact ⟨m1, by rw [h2]; exact e⟩

theorem panAt_cont {tab : Nat → Option FnD} {o : ROper} {s : St} {v : D} (e : panAt (F tab) o s = some v) : ∃ m, panAt (evF tab m) o s = some v := by
  unfold panAt at e
  split at e
  · rename_i hw
    split at e
    · rename_i h1
      obtain ⟨m, h2⟩ := evOp_cont h1
      refine ⟨m, ?_⟩
      unfold panAt
      rw [hw]
      simp only
      rw [h2]
      exact e
    · simp at e
  · simp at e

theorem evRegp_cont {tab : Nat → Option FnD} {ops : List ROper} {adr : List Nat} {c : Nat} {s : St} {r : Ex × St} (e : evRegp (F tab) ops adr c s = some r) : ∃ m, evRegp (evF tab m) ops adr c s = some r := by
  rw [regp_some] at e
  obtain ⟨s1, h1, h2⟩ := e
  obtain ⟨m1, k1⟩ := evOps_cont h1
  rcases h2 with ⟨oc, v, ho, hv, hr⟩ | ⟨f, hf, hr⟩
  · obtain ⟨m2, k2⟩ := panAt_cont hv
    refine ⟨max m1 m2, regp_some.2 ⟨s1, evOps_mono (evF_mono tab (Nat.le_max_left m1 m2)) k1, .inl ⟨oc, v, ho, panAt_mono (evF_mono tab (Nat.le_max_right m1 m2)) k2, hr⟩⟩⟩
  · obtain ⟨m2, k2⟩ := evOps_cont hf
    exact ⟨max m1 m2, regp_some.2 ⟨s1, evOps_mono (evF_mono tab (Nat.le_max_left m1 m2)) k1, .inr ⟨f, evOps_mono (evF_mono tab (Nat.le_max_right m1 m2)) k2, hr⟩⟩⟩

theorem evCode_cont {tab : Nat → Option FnD} {n : Nat} : ∀ (c : RCode) {s : St} {r : Ex × St}, evCode (F tab) n c s = some r → ∃ m, evCode (evF tab m) n c s = some r
  | .skip, s, r, e => ⟨0, e⟩
  | .stuck, s, r, e => by simp [evCode] at e
  | .exit i, s, r, e => ⟨0, e⟩
  | .ret live, s, r, e => ⟨0, e⟩
  | .reg ops adr d, s, r, e => by
    simp only [evCode, Option.map_eq_some_iff, Option.bind_eq_some_iff] at e ⊢
    obtain ⟨r1, ⟨r2, h1, h2⟩, h3⟩ := e
    obtain ⟨m, h4⟩ := evOps_cont h1
    exact ⟨m, r1, ⟨r2, h4, h2⟩, h3⟩
  | .regp ops adr c, s, r, e => by
    simp only [evCode] at e ⊢
    exact evRegp_cont e
  | .seq c1 c2, s, r, e => by
    simp only [evCode] at e ⊢
    cases h1 : evCode (F tab) n c1 s with
    | none => rw [h1] at e; simp at e
    | some q =>
      rw [h1] at e
      obtain ⟨m1, h2⟩ := evCode_cont c1 h1
      obtain ⟨ex, s'⟩ := q
      cases ex with
      | norm =>
        simp only at e
        obtain ⟨m2, h3⟩ := evCode_cont c2 e
        refine ⟨max m1 m2, ?_⟩
        rw [evCode_mono (evF_mono tab (Nat.le_max_left m1 m2)) (Nat.le_refl n) c1 h2]
        exact evCode_mono (evF_mono tab (Nat.le_max_right m1 m2)) (Nat.le_refl n) c2 h3
      | _ => exact ⟨m1, by rw [h2]; exact e⟩
  | .seqf c1 k c2, s, r, e => by
    simp only [evCode] at e ⊢
    cases h1 : evCode (F tab) n c1 s with
    | none => rw [h1] at e; simp at e
    | some q =>
      rw [h1] at e
      obtain ⟨m1, h2⟩ := evCode_cont c1 h1
      obtain ⟨ex, s'⟩ := q
      cases ex with
      | norm =>
        simp only at e
        split at e
        · rename_i s2 hf
          obtain ⟨m2, h3⟩ := evCode_cont c2 e
          refine ⟨max m1 m2, ?_⟩
          rw [evCode_mono (evF_mono tab (Nat.le_max_left m1 m2)) (Nat.le_refl n) c1 h2]
          try simp only [hf]
          exact evCode_mono (evF_mono tab (Nat.le_max_right m1 m2)) (Nat.le_refl n) c2 h3
        · simp at e
      | _ => exact ⟨m1, by rw [h2]; exact e⟩
  | .seqc c1 live c2, s, r, e => by
    simp only [evCode] at e ⊢
    cases h1 : evCode (F tab) n c1 s with
    | none => rw [h1] at e; simp at e
    | some q =>
      rw [h1] at e
      obtain ⟨m1, h2⟩ := evCode_cont c1 h1
      obtain ⟨ex, s'⟩ := q
      cases ex with
      | norm =>
        simp only at e
        obtain ⟨m2, h3⟩ := evCode_cont c2 e
        refine ⟨max m1 m2, ?_⟩
        rw [evCode_mono (evF_mono tab (Nat.le_max_left m1 m2)) (Nat.le_refl n) c1 h2]
        exact evCode_mono (evF_mono tab (Nat.le_max_right m1 m2)) (Nat.le_refl n) c2 h3
      | _ => exact ⟨m1, by rw [h2]; exact e⟩
  | .cond x c1 c2, s, r, e => by
    simp only [evCode] at e ⊢
    split at e
    · rename_i t hx
      cases t with
      | true => exact evCode_cont c1 e
      | false => exact evCode_cont c2 e
    · simp at e
  | .block i live c, s, r, e => by
    simp only [evCode] at e ⊢
    cases h1 : evCode (F tab) n c s with
    | none => rw [h1] at e; simp at e
    | some q =>
      rw [h1] at e
      obtain ⟨m, h2⟩ := evCode_cont c h1
      exact ⟨m, by rw [h2]; exact e⟩
  | .loop live c, s, r, e => by
    simp only [evCode] at e ⊢
    exact evIter_cont (g := fun m => evCode (evF tab m) n c) (fun a b s r h e => evCode_mono (evF_mono tab h) (Nat.le_refl n) c e) (fun s r e => evCode_cont c e) e

theorem V_cont {tab : Nat → Option FnD} {c : RCode} {r : Ex × St} (e : V (F tab) c s = some r) : ∃ m, evCode (evF tab m) m c s = some r := by
  obtain ⟨n, h⟩ := V_some.1 e
  obtain ⟨m, h⟩ := evCode_cont c h
  exact ⟨max n m, evCode_mono (evF_mono tab (Nat.le_max_right n m)) (Nat.le_max_left n m) c h⟩

def enter (rf : RFunc) (args : List PV) (hp : List Ent) : St := ⟨args ++ List.replicate (rf.nt - args.length) .dead, if rf.pure then [] else hp⟩

theorem F_code {tab : Nat → Option FnD} {f : Nat} {rf : RFunc} (hf : tab f = some (.code rf)) {args : List PV} {hp : List Ent} (hh : (rf.pure && !PV.hfrees args) = false) {out : Out}
    (h : fnEnd rf hp (V (F tab) rf.body (enter rf args hp)) = some out) : F tab f args hp = some out := by
  cases h1 : V (F tab) rf.body (enter rf args hp) with
  | none => rw [h1] at h; simp [fnEnd] at h
  | some r =>
    rw [h1] at h
    obtain ⟨m, h2⟩ := V_cont h1
    refine F_some.2 ⟨m + 1, ?_⟩
    simp only [evF, hf, hh, Bool.false_eq_true, if_false]
    unfold enter at h2
    rw [h2]
    exact h

theorem F_prim {tab : Nat → Option FnD} {f : Nat} {p : List PV → Option PV} (hf : tab f = some (.prim p)) {args : List PV} {hp : List Ent} {v : PV} (h : p args = some v) (hv : v.flat = true) : F tab f args hp = some (.ret v hp) :=
  F_some.2 ⟨1, by simp only [evF, hf, h, hv, if_true]⟩
end Go.Pe

namespace Go.Pe

def aggT (P : Program) (t : TypeId) : Bool :=
  match P.underlying t with
  | some (.struct _) | some (.array _ _) => true
  | _ => false

mutual
inductive Lift {H : Type} (P : Program) : TypeId → DataW H → List D → Prop where
  | bool {t} (b : Bool) : P.underlying t = some .bool → Lift P t (.lit (.bool b)) [.bool b]
  | int {t} (k : IntKind) (n : Int) : P.underlying t = some (.int k) → (Lit.int k n).wf = true → Lift P t (.lit (.int k n)) [.int k n]
  | str {t} (s : ByteArray) : P.underlying t = some .string → s.size ≤ maxLen → Lift P t (.lit (.string s.data.toList)) [.str s]
  | sl0 {t} (e : TypeId) : P.underlying t = some (.slice e) → Lift P t .nil [.sl []]
  | sl {t} (e : TypeId) (ds spare : List (DataW H)) (xs : List D) : P.underlying t = some (.slice e) → xs.length = ds.length → xs.length ≤ maxLen → (∀ (i : Nat) (x : D), xs[i]? = some x → x.isAgg = aggT P e) → (∀ (i : Nat) (x : D) (d : DataW H), xs[i]? = some x → ds[i]? = some d → Lift P e d x.cells) → Lift P t (.slice ds spare) [.sl xs]
  | st {t} (fs : Array Field) (ds : List (DataW H)) (cs : List D) : P.underlying t = some (.struct fs) → Lifts P (fs.toList.map (·.type)) ds cs → Lift P t (.agg ds) cs
  | arr {t} (n : Nat) (e : TypeId) (ds : List (DataW H)) (cs : List D) : P.underlying t = some (.array n e) → Lifts P ((List.range n).map fun _ => e) ds cs → Lift P t (.agg ds) cs
inductive Lifts {H : Type} (P : Program) : List TypeId → List (DataW H) → List D → Prop where
  | nil : Lifts P [] [] []
  | cons {t ts d ds a b} : Lift P t d a → Lifts P ts ds b → Lifts P (t :: ts) (d :: ds) (a ++ b)
end

def segsOk {α : Type} (P : Program) (L : List TypeId) (ty : α → TypeId) (off : α → Nat) (total : Nat) : Nat → List α → Bool
  | o, [] => o == total
  | o, x :: r => off x == o && L.contains (ty x) && segsOk P L ty off total (o + P.cellsOf (ty x)) r

def tyOk (P : Program) (L : List TypeId) (t : TypeId) : Bool :=
  match P.underlying t with
  | some .bool | some (.int _) | some .string => P.cellsOf t == 1
  | some (.slice e) => P.cellsOf t == 1 && L.contains e && P.cellsOf e != 0 && (aggT P e || P.cellsOf e == 1)
  | some (.struct fs) => segsOk P L (fun f : Field => f.type) (fun f => f.offset) (P.cellsOf t) 0 fs.toList
  | some (.array n e) => segsOk P L (fun _ : Nat => e) (fun i => i * P.cellsOf e) (P.cellsOf t) 0 (List.range n)
  | _ => false

theorem mapM_get {α β : Type} {f : α → Option β} : ∀ {l : List α} {ys : List β}, l.mapM f = some ys → ys.length = l.length ∧ ∀ (i : Nat) (x : α), l[i]? = some x → ∃ y, ys[i]? = some y ∧ f x = some y
  | [], ys, h => by
    simp only [List.mapM_nil] at h
    cases h
    exact ⟨rfl, by simp⟩
  | a :: l, ys, h => by
    simp only [List.mapM_cons, Option.bind_eq_bind, Option.bind_eq_some_iff] at h
    obtain ⟨b, h1, bs, h2, h3⟩ := h
    cases h3
    obtain ⟨i1, i2⟩ := mapM_get h2
    refine ⟨by simp [i1], ?_⟩
    intro i x hi
    cases i with
    | zero => simp at hi; subst hi; exact ⟨b, rfl, h1⟩
    | succ i => exact i2 i x (by simpa using hi)

section
variable {H : Type} {enc : TypeId × Value → H} {P : Program} {w : World} {base : Nat} {sp : Nat → Bool} {held : Bool} {L : List TypeId}

def All2 (_ _ : Nat) : Prop := True

def Lifted (P : Program) (w : World) (t : TypeId) (cs : List Value) (d : DataW H) (xs : List D) : Prop :=
  Lift P t d xs ∧ xs.length = cs.length ∧ xs.length = P.cellsOf t ∧ (∀ x ∈ xs, x.isAgg = false) ∧ ∀ (j : Nat) (x : D) (v : Value), xs[j]? = some x → cs[j]? = some v → DRep All2 w x v

theorem lift_segs {α : Type} {ty : α → TypeId} {off : α → Nat} {cs : List Value} {n : Nat}
    (ih : ∀ t cs d ps, L.contains t = true → DataW.trod enc P w base sp held n t cs = some (d, ps) → ∃ xs, Lifted P w t cs d xs) {total : Nat} (hcs : cs.length = total) :
    ∀ (l : List α) (o : Nat), segsOk P L ty off total o l = true → ∀ {ys : List (DataW H × List MemPlace)}, l.mapM (fun x => DataW.trod enc P w base sp held n (ty x) ((cs.drop (off x)).take (P.cellsOf (ty x)))) = some ys →
      ∃ xs, Lifts P (l.map ty) (ys.map (·.1)) xs ∧ o + xs.length = total ∧ (∀ x ∈ xs, x.isAgg = false) ∧ ∀ (j : Nat) (x : D) (v : Value), xs[j]? = some x → cs[o + j]? = some v → DRep All2 w x v
  | [], o, hk, ys, h => by
    simp only [segsOk, beq_iff_eq] at hk
    simp only [List.mapM_nil] at h
    cases h
    exact ⟨[], .nil, by simpa using hk, by simp, by simp⟩
  | a :: l, o, hk, ys, h => by
    simp only [segsOk, Bool.and_eq_true, beq_iff_eq] at hk
    obtain ⟨⟨h1, h2⟩, h3⟩ := hk
    simp only [List.mapM_cons, Option.bind_eq_bind, Option.bind_eq_some_iff] at h
    obtain ⟨⟨d, p⟩, h4, bs, h5, h6⟩ := h
    cases h6
    obtain ⟨xs, k1, k2, k3, k4⟩ := lift_segs ih hcs l _ h3 h5
    obtain ⟨as1, a1, a2, a3, a4, a5⟩ := ih _ _ _ _ h2 h4
    refine ⟨as1 ++ xs, .cons a1 k1, by simp only [List.length_append, a3]; omega, ?_, ?_⟩
    · intro x hx
      rcases List.mem_append.1 hx with hx | hx
      · exact a4 x hx
      · exact k3 x hx
    · intro j x v hj hv
      by_cases hlt : j < as1.length
      · rw [List.getElem?_append_left hlt] at hj
        refine a5 j x v hj ?_
        rw [List.getElem?_take_of_lt (by omega), List.getElem?_drop, h1]
        exact hv
      · rw [List.getElem?_append_right (by omega)] at hj
        refine k4 _ x v hj ?_
        rw [show o + P.cellsOf (ty a) + (j - as1.length) = o + j by omega]
        exact hv

theorem Lift.agg_cells {t : TypeId} {d : DataW H} {xs : List D} (h : Lift P t d xs) (ha : aggT P t = false) : xs.length = 1 := by
  cases h with
  | st fs ds cs h1 _ => simp [aggT, h1] at ha
  | arr n e ds cs h1 _ => simp [aggT, h1] at ha
  | _ => rfl

def mkD (agg : Bool) (xs : List D) : D := if agg then .agg xs else xs.headD .nilp

theorem mkD_cells {agg : Bool} {xs : List D} (h : agg = false → xs.length = 1) (ha : ∀ x ∈ xs, x.isAgg = false) : (mkD agg xs).cells = xs ∧ (mkD agg xs).isAgg = agg := by
  cases agg with
  | true => exact ⟨rfl, rfl⟩
  | false =>
    have h1 := h rfl
    match xs, h1 with
    | [x], _ =>
      have := ha x (by simp)
      cases x <;> first | exact ⟨rfl, rfl⟩ | (simp [D.isAgg] at this)

theorem add_add {b o i j : Nat} : ((⟨b, o, none⟩ : Addr).add i).add j = ⟨b, o + i + j, none⟩ := by
  unfold Addr.add
  by_cases hi : i = 0 <;> by_cases hj : j = 0 <;> simp [hi, hj, Nat.add_assoc]

theorem lift_cells (hL : ∀ t ∈ L, tyOk P L t = true) : ∀ (n : Nat) (t : TypeId) (cs : List Value) (d : DataW H) (ps : List MemPlace), L.contains t = true →
    DataW.trod enc P w base sp held n t cs = some (d, ps) → ∃ xs, Lifted P w t cs d xs := by
  intro n
  induction n with
  | zero => intro t cs d ps _ h; simp [DataW.trod] at h
  | succ n ih =>
    intro t cs d ps ht h
    have hk := hL t (by simpa using ht)
    unfold tyOk at hk
    simp only [DataW.trod] at h
    split at hk
    · rename_i hu
      rw [hu] at h
      split at h <;> simp_all
      rename_i b
      obtain ⟨rfl, _⟩ := h
      refine ⟨[.bool b], .bool b hu, by simp, by simp [hk], by simp [D.isAgg], ?_⟩
      intro j x v hj hv
      cases j <;> simp at hj hv
      subst hj hv
      exact .bool b
    · rename_i k hu
      rw [hu] at h
      cases cs with
      | nil => simp at h
      | cons v r =>
        cases r with
        | cons v2 r => simp at h
        | nil =>
          cases v <;> simp only [reduceCtorEq] at h
          rename_i k' m
          split at h
          · rename_i hc
            obtain ⟨rfl, hwf⟩ := hc
            simp only [Option.some.injEq, Prod.mk.injEq] at h
            obtain ⟨rfl, _⟩ := h
            simp only [beq_iff_eq] at hk
            refine ⟨[.int k' m], .int k' m hu hwf, by simp, by simp [hk], by simp [D.isAgg], ?_⟩
            intro j x v hj hv
            cases j <;> simp at hj hv
            subst hj hv
            exact .int k' m
          · simp at h
    · rename_i hu
      rw [hu] at h
      split at h <;> simp_all
      rename_i s
      obtain ⟨hsz, rfl, _⟩ := h
      refine ⟨[.str s], .str s hu hsz, by simp, by simp [hk], by simp [D.isAgg], ?_⟩
      intro j x v hj hv
      cases j <;> simp at hj hv
      subst hj hv
      exact .str s
    · rename_i e hu
      simp only [Bool.and_eq_true, beq_iff_eq, bne_iff_ne, ne_eq, Bool.or_eq_true] at hk
      obtain ⟨⟨⟨hk1, hk2⟩, hk3⟩, hk4⟩ := hk
      rw [hu] at h
      have hcs : cs = [.slice none 0 0] ∨ ∃ a len cap, cs = [.slice (some a) len cap] := by
        split at h <;> simp_all
      rcases hcs with rfl | ⟨a, len, cap, rfl⟩
      · simp only [Option.some.injEq, Prod.mk.injEq] at h
        obtain ⟨rfl, _⟩ := h
        refine ⟨[.sl []], .sl0 e hu, by simp, by simp [hk1], by simp [D.isAgg], ?_⟩
        intro j x v hj hv
        cases j <;> simp at hj hv
        subst hj hv
        exact .sl0 none 0
      · simp only at h
        split at h
        · rename_i hb
          obtain ⟨hb1, hb2, hb3⟩ := hb
          simp only [Option.bind_eq_some_iff, Option.map_eq_some_iff, Prod.mk.injEq] at h
          obtain ⟨elems, he, rest, hr, rfl, _⟩ := h
          obtain ⟨g1, g2⟩ := mapM_get he
          simp only [List.length_range] at g1
          have hel : ∀ i, i < len → ∃ y vs xs, elems[i]? = some y ∧ w.cells? base (a.add (i * P.cellsOf e)) (P.cellsOf e) = some vs ∧ Lifted P w e vs y.1 xs := by
            intro i hi
            obtain ⟨y, h1, h2⟩ := g2 i i (by simp [hi])
            simp only [Option.bind_eq_some_iff] at h2
            obtain ⟨vs, h3, h4⟩ := h2
            obtain ⟨xs, h5⟩ := ih e vs y.1 y.2 hk2 h4
            exact ⟨y, vs, xs, h1, h3, h5⟩
          have hcell : ∀ i vs, w.cells? base (a.add (i * P.cellsOf e)) (P.cellsOf e) = some vs → vs.length = P.cellsOf e ∧ ∀ j, j < P.cellsOf e → ∃ v, vs[j]? = some v ∧ w.cell? ((a.add (i * P.cellsOf e)).add j) = some v := by
            intro i vs hv
            unfold World.cells? at hv
            split at hv
            · obtain ⟨q1, q2⟩ := mapM_get hv
              refine ⟨by simpa using q1, fun j hj => ?_⟩
              exact q2 j j (by simp [hj])
            · simp at hv
          cases len with
          | zero =>
            have : elems = [] := List.eq_nil_of_length_eq_zero g1
            subst this
            refine ⟨[.sl []], .sl e (([] : List (DataW H × List MemPlace)).map (·.1)) (rest.map (·.1)) [] hu rfl (by simp) (by simp) (by simp), by simp, by simp [hk1], by simp [D.isAgg], ?_⟩
            intro j x v hj hv
            cases j <;> simp at hj hv
            subst hj hv
            exact .sl0 (some a) cap
          | succ len =>
            have hsp : a.spot = none := by
              obtain ⟨y, vs, xs, _, h1, _⟩ := hel 0 (by omega)
              obtain ⟨_, h2⟩ := hcell 0 vs h1
              obtain ⟨v, _, h3⟩ := h2 0 (by omega)
              simp only [Nat.zero_mul, Addr.add, if_true] at h3
              unfold World.cell? at h3
              split at h3
              · split at h3
                · simp at h3
                · rename_i hns; simpa using hns
              · simp at h3
            obtain ⟨b, o, spot⟩ := a
            simp only at hsp
            subst hsp
            -- the elements
            have hch : ∃ xs : List D, xs.length = elems.length ∧ ∀ (i : Nat) (x : D), xs[i]? = some x → ∃ y vs zs, elems[i]? = some y ∧ w.cells? base ((⟨b, o, none⟩ : Addr).add (i * P.cellsOf e)) (P.cellsOf e) = some vs ∧ Lifted P w e vs y.1 zs ∧ x = mkD (aggT P e) zs := by
              have key : ∀ m, m ≤ elems.length → ∃ xs : List D, xs.length = m ∧ ∀ (i : Nat) (x : D), xs[i]? = some x → ∃ y vs zs, elems[i]? = some y ∧ w.cells? base ((⟨b, o, none⟩ : Addr).add (i * P.cellsOf e)) (P.cellsOf e) = some vs ∧ Lifted P w e vs y.1 zs ∧ x = mkD (aggT P e) zs := by
                intro m
                induction m with
                | zero => exact fun _ => ⟨[], rfl, by simp⟩
                | succ m ihm =>
                  intro hm
                  obtain ⟨xs, x1, x2⟩ := ihm (by omega)
                  obtain ⟨y, vs, zs, y1, y2, y3⟩ := hel m (by omega)
                  refine ⟨xs ++ [mkD (aggT P e) zs], by simp [x1], ?_⟩
                  intro i x hi
                  by_cases hlt : i < xs.length
                  · rw [List.getElem?_append_left hlt] at hi
                    exact x2 i x hi
                  · have him : i = m := by
                      have := (List.getElem?_eq_some_iff.1 hi).1
                      simp at this
                      omega
                    subst him
                    rw [List.getElem?_append_right (by omega)] at hi
                    simp [x1] at hi
                    subst hi
                    exact ⟨y, vs, zs, y1, y2, y3, rfl⟩
              exact key elems.length (Nat.le_refl _)
            obtain ⟨xs, x1, x2⟩ := hch
            have x3 : ∀ (i : Nat) (x : D), xs[i]? = some x → ∃ y vs, elems[i]? = some y ∧ w.cells? base ((⟨b, o, none⟩ : Addr).add (i * P.cellsOf e)) (P.cellsOf e) = some vs ∧ Lifted P w e vs y.1 x.cells ∧ x.isAgg = aggT P e := by
              intro i x hi
              obtain ⟨y, vs, zs, y1, y2, y3, rfl⟩ := x2 i x hi
              obtain ⟨m1, m2⟩ := mkD_cells (agg := aggT P e) (xs := zs) (fun ha => y3.1.agg_cells ha) y3.2.2.2.1
              exact ⟨y, vs, y1, y2, by rw [m1]; exact y3, m2⟩
            refine ⟨[.sl xs], .sl e (elems.map (·.1)) (rest.map (·.1)) xs hu (by simp [x1]) (by omega) ?_ ?_, by simp, by simp [hk1], by simp [D.isAgg], ?_⟩
            · intro i x hi
              obtain ⟨y, vs, y1, y2, y3, y4⟩ := x3 i x hi
              exact y4
            · intro i x d hi hd
              obtain ⟨y, vs, y1, y2, y3, y4⟩ := x3 i x hi
              rw [List.getElem?_map, y1] at hd
              simp only [Option.map_some, Option.some.injEq] at hd
              subst hd
              exact y3.1
            · intro j x v hj hv
              cases j <;> simp at hj hv
              subst hj hv
              have hlen : xs.length = len + 1 := by omega
              rw [← hlen]
              have full : ∀ (i : Nat) (x : D) (j : Nat) (c : D), xs[i]? = some x → x.cells[j]? = some c → ∃ u, w.cell? ⟨b, o + i * P.cellsOf e + j, none⟩ = some u ∧ DRep All2 w c u := by
                intro i x j c hi hj
                obtain ⟨y, vs, y1, y2, y3, y4⟩ := x3 i x hi
                obtain ⟨q1, q2⟩ := hcell i vs y2
                have hjlt : j < P.cellsOf e := by
                  have := (List.getElem?_eq_some_iff.1 hj).1
                  rw [y3.2.2.1] at this
                  exact this
                obtain ⟨u, u1, u2⟩ := q2 j hjlt
                rw [add_add] at u2
                exact ⟨u, u2, y3.2.2.2.2 j c u hj u1⟩
              refine .sl xs b o (P.cellsOf e) cap (fun i j => (w.cell? ⟨b, o + i * P.cellsOf e + j, none⟩).getD undef) (by omega) ?_ ?_ ?_ ?_
              · intro x hx
                obtain ⟨i, hi, rfl⟩ := List.getElem_of_mem hx
                obtain ⟨y, vs, y1, y2, y3, y4⟩ := x3 i _ (List.getElem?_eq_getElem hi)
                exact y3.2.2.1
              · intro x hx c hc
                obtain ⟨i, hi, rfl⟩ := List.getElem_of_mem hx
                obtain ⟨y, vs, y1, y2, y3, y4⟩ := x3 i _ (List.getElem?_eq_getElem hi)
                exact y3.2.2.2.1 c hc
              · intro i x j c hi hj
                obtain ⟨u, h1, h2⟩ := full i x j c hi hj
                exact ⟨by rw [h1]; rfl, trivial⟩
              · intro i x j c hi hj
                obtain ⟨u, h1, h2⟩ := full i x j c hi hj
                simp only [h1, Option.getD_some]
                exact h2
        · simp at h
    · rename_i fs hu
      rw [hu] at h
      simp only at h
      split at h
      · rename_i hlen
        simp only [Option.map_eq_some_iff, Prod.mk.injEq] at h
        obtain ⟨ys, h1, rfl, _⟩ := h
        obtain ⟨xs, k1, k2, k3, k4⟩ := lift_segs (ty := fun f : Field => f.type) (off := fun f => f.offset) ih hlen fs.toList 0 hk h1
        refine ⟨xs, .st fs _ _ hu k1, by omega, by omega, k3, ?_⟩
        intro j x v hj hv
        exact k4 j x v hj (by simpa using hv)
      · simp at h
    · rename_i m e hu
      rw [hu] at h
      simp only at h
      split at h
      · rename_i hlen
        simp only [Option.map_eq_some_iff, Prod.mk.injEq] at h
        obtain ⟨ys, h1, rfl, _⟩ := h
        obtain ⟨xs, k1, k2, k3, k4⟩ := lift_segs (ty := fun _ : Nat => e) (off := fun i => i * P.cellsOf e) ih hlen (List.range m) 0 hk h1
        refine ⟨xs, .arr m e _ _ hu k1, by omega, by omega, k3, ?_⟩
        intro j x v hj hv
        exact k4 j x v hj (by simpa using hv)
      · simp at h
    · simp at hk
end
end Go.Pe

namespace Go.Pe
open Go.ChangeShapes Go.WideShapes Go.ChangeAt Go.RowKit

def LiftArgs {H : Type} (P : Program) : List TypeId → List (DataW H) → List D → Prop
  | [], [], [] => True
  | t :: ts, d :: ds, x :: xs => (Lift P t d x.cells ∧ x.isAgg = aggT P t) ∧ LiftArgs P ts ds xs
  | _, _, _ => False

section
variable {H : Type} {enc : TypeId × Value → H} {P : Program} {w : World} {base b0 : Nat} {sp : Nat → Bool} {held : Bool} {L : List TypeId}

theorem lift_arg (hL : ∀ t ∈ L, tyOk P L t = true) {t : TypeId} {v : Value} {d : DataW H} {p : List MemPlace} (ht : L.contains t = true) (h : DataW.Trod enc P w base sp held t v d p) (hv : Value.okWide P w .any b0 t v) :
    ∃ x : D, DRep All2 w x v ∧ Lift P t d x.cells ∧ x.isAgg = aggT P t := by
  obtain ⟨fuel, hf⟩ := h
  obtain ⟨xs, l1, l2, l3, l4, l5⟩ := lift_cells hL fuel t _ d p ht hf
  have hk := hL t (by simpa using ht)
  cases ha : aggT P t with
  | true =>
    have hagg : ∃ cs, v = .agg cs := by
      unfold aggT at ha
      unfold Value.okWide at hv
      split at ha
      · rename_i hu; rw [hu] at hv; obtain ⟨cs, h1, _⟩ := hv; exact ⟨cs, h1⟩
      · rename_i hu; rw [hu] at hv; obtain ⟨cs, h1, _⟩ := hv; exact ⟨cs, h1⟩
      · simp at ha
    obtain ⟨cs, rfl⟩ := hagg
    refine ⟨.agg xs, .agg xs cs (by simpa [Value.cells] using l2.symm) l4 ?_, l1, rfl⟩
    intro j c v hj hv
    exact l5 j c v hj (by simpa [Value.cells] using hv)
  | false =>
    have hone := l1.agg_cells ha
    match xs, hone with
    | [x], _ =>
      have hx := l4 x (by simp)
      have hxc : x.cells = [x] := by cases x <;> first | rfl | (simp [D.isAgg] at hx)
      have hnagg : v.cells = #[v] := by
        cases v <;> try rfl
        rename_i cs
        exfalso
        unfold Value.okWide at hv
        unfold tyOk at hk
        unfold aggT at ha
        split at hv
        · rename_i hu; rw [hu] at ha; simp at ha
        · rename_i hu; rw [hu] at ha; simp at ha
        · unfold Cell.okWide Cell.ok at hv
          split at hv <;> simp_all
      refine ⟨x, l5 0 x v rfl (by rw [hnagg]; rfl), by rw [hxc]; exact l1, hx⟩

theorem lift_args (hL : ∀ t ∈ L, tyOk P L t = true) : ∀ {ts : List TypeId} {vs : List Value} {ds : List (DataW H)} {p : List MemPlace}, (∀ t ∈ ts, L.contains t = true) → DataW.TrodAll enc P w base sp held ts vs ds p →
    (∀ (j : Nat) t v, ts[j]? = some t → vs[j]? = some v → Value.okWide P w .any b0 t v) → ∃ xs : List D, LiftArgs P ts ds xs ∧ xs.length = vs.length ∧ ∀ (j : Nat) (x : D) (v : Value), xs[j]? = some x → vs[j]? = some v → DRep All2 w x v
  | [], vs, ds, p, _, h, _ => by
    obtain ⟨rfl, rfl, rfl⟩ := trodAll_nil h
    exact ⟨[], trivial, rfl, by simp⟩
  | t :: ts, vs, ds, p, ht, h, hv => by
    obtain ⟨v, vs1, d, ds1, a, b, rfl, rfl, rfl, h1, h2⟩ := trodAll_cons h
    obtain ⟨x, x1, x2⟩ := lift_arg hL (ht t (by simp)) h1 (hv 0 t v rfl rfl)
    obtain ⟨xs, y1, y2, y3⟩ := lift_args hL (fun t h => ht t (by simp [h])) h2 (fun j t v h1 h2 => hv (j + 1) t v (by simpa using h1) (by simpa using h2))
    refine ⟨x :: xs, ⟨x2, y1⟩, by simp [y2], ?_⟩
    intro j c u hj hu
    cases j with
    | zero => simp at hj hu; subst hj hu; exact x1
    | succ j => exact y3 j c u (by simpa using hj) (by simpa using hu)

def g0 : G := { κ := fun _ => none, tip := fun _ => 0, bb := fun _ => 0, nb := 0 }

theorem args_rep {l : Loc} : ∀ {xs : List D} {vs : List Value}, xs.length = vs.length → (∀ (j : Nat) (x : D) (v : Value), xs[j]? = some x → vs[j]? = some v → DRep All2 w x v) → RepFs P g0 w l (xs.map PV.d) vs
  | [], [], _, _ => by simp only [List.map_nil, RepFs]
  | x :: xs, v :: vs, hl, h => by
    simp only [List.map_cons, RepFs, RepF]
    refine ⟨(h 0 x v rfl rfl).mono fun b i u hc _ => ⟨hc, .inl rfl⟩, args_rep (by simpa using hl) fun j x v h1 h2 => h (j + 1) x v (by simpa using h1) (by simpa using h2)⟩
  | [], _ :: _, hl, _ => by simp at hl
  | _ :: _, [], hl, _ => by simp at hl

theorem plains_d : ∀ (xs : List D), PV.plains (xs.map PV.d) = true
  | [] => rfl
  | x :: xs => by simp only [List.map_cons, PV.plains, PV.plain, plains_d xs, Bool.and_self]

theorem law_calls {tab : Nat → Option FnD} {pf : Nat → Bool} (hpf : PfOk pf tab) (ht : TabOk P pf tab) {f : Nat} {xs : List D} {vs : List Value} (hlen : xs.length = vs.length)
    (hr : ∀ (j : Nat) (x : D) (v : Value), xs[j]? = some x → vs[j]? = some v → DRep All2 w x v) {hp : List Ent} (hF : F tab f (xs.map PV.d) [] = some (.ret (.d (.bool true)) hp)) :
    Calls P f vs.toArray w fun e w' => e = .returned (.bool true) ∧ Below w.heap.size w w' := by
  obtain ⟨n, hn⟩ := F_some.1 hF
  refine ((evF_sound hpf ht n).calls f _ _ _ hn (plains_d xs) g0 w vs (.ret 0) (args_rep hlen hr) ⟨rfl, by simp, fun _ _ h => by simp at h⟩).mono ?_
  rintro e w' ⟨g', hc, u, rfl, hu, _⟩
  have hu' : DRep g'.stab w' (.bool true) u := hu
  cases hu'
  exact ⟨rfl, ⟨hc.os, hc.tape, hc.output, hc.size, fun k hk => (hc.free k hk rfl).2⟩⟩

theorem back_all (hl : laidOutB P = true) : ∀ {ts : List TypeId} {vs : List Value} {ds : List (DataW H)} {p : List MemPlace} {W W' : World}, (∀ t ∈ ts, P.readableRec t = true ∧ t < P.types.size) → DataW.TrodAll enc P W 0 (fun _ => true) true ts vs ds p → Below W.heap.size W W' →
    ∃ p', DataW.TrodAll enc P W' 0 (fun b => decide (b < W.heap.size)) true ts vs ds p'
  | [], vs, ds, p, W, W', _, h, _ => by
    obtain ⟨rfl, rfl, rfl⟩ := trodAll_nil h
    exact ⟨[], trodAll_mk0⟩
  | t :: ts, vs, ds, p, W, W', ht, h, hb => by
    obtain ⟨v, vs1, d, ds1, a, b, rfl, rfl, rfl, h1, h2⟩ := trodAll_cons h
    obtain ⟨q, hq⟩ := back_all hl (fun t h => ht t (by simp [h])) h2 hb
    have hlt : ∀ x ∈ a, x.block < W.heap.size := by obtain ⟨m, hm⟩ := h1; exact DataW.trod_lt m _ _ _ hm
    exact ⟨_, trodAll_cons_mk (Below.trod hl (ht t (by simp)).1 (ht t (by simp)).2 h1 hb hlt) hq⟩

theorem LiftArgs.len : ∀ {ts : List TypeId} {ds : List (DataW H)} {xs : List D}, LiftArgs P ts ds xs → ds.length = ts.length
  | [], [], [], _ => rfl
  | t :: ts, d :: ds, x :: xs, h => by simp [h.2.len]
  | [], _ :: _, _, h => by simp [LiftArgs] at h
  | [], [], _ :: _, h => by simp [LiftArgs] at h
  | _ :: _, [], _, h => by simp [LiftArgs] at h
  | _ :: _, _ :: _, [], h => by simp [LiftArgs] at h

theorem law_contract {tab : Nat → Option FnD} {pf : Nat → Bool} (hpf : PfOk pf tab) (ht : TabOk P pf tab) (hl : laidOutB P = true) {f : Nat} {fn : Func} {s : ChangeSpec} (hvars : s.vars = [])
    (hL : ∀ t ∈ L, tyOk P L t = true) (hps : ∀ t ∈ fn.params.toList, L.contains t = true ∧ P.readableRec t = true ∧ t < P.types.size) {tb : TypeId} (hres : fn.resultTypes = #[tb]) (hb : P.underlying tb = some .bool)
    (hfn : ∀ ds : List (DataW H), ds.length = fn.params.toList.length → s.fn H ds = { results := [.lit (.bool true)], args := ds })
    {W : World} {args : Array Value} {ds gs : List (DataW H)} {before : List MemPlace} (hval : ∀ (j : Nat) t v, fn.params[j]? = some t → args[j]? = some v → Value.okWide P W .any b0 t v)
    (hW : DataW.Whole enc P fn.params.toList s.vars false W args.toList ds gs before)
    (law : ∀ xs, LiftArgs P fn.params.toList ds xs → ∃ hp, F tab f (xs.map PV.d) [] = some (.ret (.d (.bool true)) hp)) :
    Calls P f args W fun e W' => ∃ v, e = .returned v ∧ s.post enc P fn false true false false W args v W' := by
  have hW' := hW
  obtain ⟨p, q, hA, hV, rfl, hfz, hnd⟩ := hW
  rw [hvars] at hV
  obtain ⟨rfl, rfl⟩ := trodVars_none hV
  obtain ⟨xs, x1, x2, x3⟩ := lift_args (b0 := b0) hL (fun t h => (hps t h).1) hA (fun j t v h1 h2 => hval j t v (by simpa using h1) (by simpa using h2))
  obtain ⟨hp, hF⟩ := law xs x1
  refine (law_calls hpf ht x2 x3 hF).mono ?_
  rintro e W' ⟨rfl, bel⟩
  obtain ⟨pa, hpa⟩ := back_all hl (fun t h => (hps t h).2) hA bel
  have hd : s.fn H (ds ++ []) = { results := [.lit (.bool true)], args := ds } := by rw [List.append_nil]; exact hfn ds x1.len
  refine ⟨_, rfl, ds, [], _, [], pa, [], hW', ?_, ?_, ?_, bel.frame _, fun h => by cases h⟩
  · rw [hd, hres]
    exact trodAll_mk1 (shut_bool hb _)
  · rw [hd]; exact hpa
  · rw [hd, hvars]; rfl
end
end Go.Pe

namespace Go.Pe

abbrev Tabl := List (Nat × RFunc)

def find {α : Type} : List (Nat × α) → Nat → Option α
  | [], _ => none
  | (k, v) :: r, f => if f == k then some v else find r f

theorem find_mem {α : Type} : ∀ {l : List (Nat × α)} {f : Nat} {v : α}, find l f = some v → (f, v) ∈ l
  | [], f, v, h => by simp [find] at h
  | (k, u) :: r, f, v, h => by
    simp only [find] at h
    split at h
    · rename_i hk
      simp only [Option.some.injEq] at h
      simp only [beq_iff_eq] at hk
      subst hk h
      simp
    · exact List.mem_cons_of_mem _ (find_mem h)

def tabOf (l : Tabl) (ps : List (Nat × (List PV → Option PV))) (ms : List (Nat × (List PV → Option (List D)))) (f : Nat) : Option FnD :=
  match find l f with
  | some rf => some (.code rf)
  | none => match find ps f with
    | some p => some (.prim p)
    | none => (find ms f).map .mk

def pfOf (l : Tabl) (ps : List Nat) (f : Nat) : Bool :=
  match find l f with
  | some rf => rf.pure
  | none => ps.contains f

def tabAll (P : Program) (pf : Nat → Bool) (l : Tabl) : Bool := l.all fun p => fnOk P pf p.1 p.2

theorem tabOf_pf (l : Tabl) (ps : List (Nat × (List PV → Option PV))) (ms : List (Nat × (List PV → Option (List D)))) (qs : List Nat) (hm : (ms.all fun p => !pfOf l qs p.1) = true) : PfOk (pfOf l qs) (tabOf l ps ms) := by
  constructor
  · intro f rf h1 h2
    unfold tabOf at h2
    unfold pfOf at h1
    split at h2
    · rename_i rf' hf
      simp only [Option.some.injEq, FnD.code.injEq] at h2
      subst h2
      rw [hf] at h1
      exact h1
    · split at h2
      · simp at h2
      · obtain ⟨_, _, h3⟩ := Option.map_eq_some_iff.1 h2
        cases h3
  · refine ⟨?_, ?_, ?_⟩
    · intro f p h1 h2
      unfold tabOf at h2
      split at h2
      · simp at h2
      · split at h2
        · simp at h2
        · obtain ⟨q, h3, h4⟩ := Option.map_eq_some_iff.1 h2
          have := List.all_eq_true.1 hm _ (find_mem h3)
          rw [h1] at this
          simp at this
    · intro f p h1 h2
      unfold tabOf at h2
      split at h2
      · simp at h2
      · split at h2
        · simp at h2
        · obtain ⟨q, h3, h4⟩ := Option.map_eq_some_iff.1 h2
          cases h4
    · intro f rf t h h1 h2
      unfold tabOf at h2
      split at h2
      · simp at h2
      · split at h2
        · simp at h2
        · obtain ⟨q, h3, h4⟩ := Option.map_eq_some_iff.1 h2
          cases h4

theorem tabOf_ok {P : Program} {l : Tabl} {pf : Nat → Bool} {ps : List (Nat × (List PV → Option PV))} {ms : List (Nat × (List PV → Option (List D)))} (h : tabAll P pf l = true) (hp : ∀ p ∈ ps, PrimSound P p.1 p.2) (hm : ∀ p ∈ ms, MkSound P p.1 p.2) : TabOk P pf (tabOf l ps ms) := by
  intro f d hd
  unfold tabOf at hd
  split at hd
  · rename_i rf hf
    simp only [Option.some.injEq] at hd
    subst hd
    exact List.all_eq_true.1 h _ (find_mem hf)
  · split at hd
    · rename_i p hp'
      simp only [Option.some.injEq] at hd
      subst hd
      exact hp _ (find_mem hp')
    · obtain ⟨p, hp', rfl⟩ := Option.map_eq_some_iff.1 hd
      exact hm _ (find_mem hp')

end Go.Pe

namespace Go.Pe

theorem optAll_nil {α : Type} : optAll ([] : List (Option α)) = some [] := rfl
theorem optAll_some {α : Type} (x : α) (r : List (Option α)) : optAll (some x :: r) = (optAll r).map (x :: ·) := rfl

theorem condK_bool {b : Bool} {x y : Option (Ex × St)} : condK (.d (.bool b)) x y = if b = true then x else y := by cases b <;> rfl
theorem condK_congr {t t' : PV} {x y : Option (Ex × St)} (h : t = t') : condK t x y = condK t' x y := by rw [h]
attribute [congr] condK_congr
theorem condK_true {x y : Option (Ex × St)} : condK (.d (.bool true)) x y = x := rfl
theorem condK_false {x y : Option (Ex × St)} : condK (.d (.bool false)) x y = y := rfl
theorem seqK_ite {c : Prop} [Decidable c] {k : St → Option (Ex × St)} {x y : Option (Ex × St)} : seqK k (if c then x else y) = if c then seqK k x else seqK k y := by split <;> rfl
theorem seqK_norm {k : St → Option (Ex × St)} {s : St} : seqK k (some (.norm, s)) = k s := rfl
theorem seqK_ret {k : St → Option (Ex × St)} {s : St} : seqK k (some (.ret, s)) = some (.ret, s) := rfl
theorem seqK_exit {k : St → Option (Ex × St)} {s : St} {i : Nat} : seqK k (some (.exit i, s)) = some (.exit i, s) := rfl
theorem seqK_pan {k : St → Option (Ex × St)} {s : St} {v : D} : seqK k (some (.pan v, s)) = some (.pan v, s) := rfl
theorem blockK_norm {i : Nat} {l : List LM} {s : St} : blockK i l (some (.norm, s)) = some (.norm, s.head l) := rfl
theorem blockK_ret {i : Nat} {l : List LM} {s : St} : blockK i l (some (.ret, s)) = some (.ret, s) := rfl
theorem blockK_pan {i : Nat} {l : List LM} {s : St} {v : D} : blockK i l (some (.pan v, s)) = some (.pan v, s) := rfl
theorem blockK_exit {i j : Nat} {l : List LM} {s : St} : blockK i l (some (.exit j, s)) = if j = i then some (.norm, s.head l) else some (.exit j, s) := rfl
theorem blockK_ite {c : Prop} [Decidable c] {i : Nat} {l : List LM} {x y : Option (Ex × St)} : blockK i l (if c then x else y) = if c then blockK i l x else blockK i l y := by split <;> rfl
theorem fnEnd_ite {c : Prop} [Decidable c] {rf : RFunc} {hp : List Ent} {x y : Option (Ex × St)} : fnEnd rf hp (if c then x else y) = if c then fnEnd rf hp x else fnEnd rf hp y := by split <;> rfl

def retOf (rf : RFunc) (hp : List Ent) (s : St) : Option Out :=
  match results s rf.res with
    | some v => if rf.pure then (if (thaw s.hp v).flat then some (.ret (thaw s.hp v) hp) else none) else some (.ret v s.hp)
    | none => none
theorem fnEnd_ret' {rf : RFunc} {hp : List Ent} {s : St} : fnEnd rf hp (some (.ret, s)) = retOf rf hp s := rfl
theorem fnEnd_norm' {rf : RFunc} {hp : List Ent} {s : St} : fnEnd rf hp (some (.norm, s)) = retOf rf hp s := rfl

def stepR (cf : CF) (o : ROper) (w : Option Bool) (s : St) : Option OR :=
  match w with
  | some true => evOp cf o.dst o.op s
  | some false => (s.put o.dst .und).map .ok
  | none => none
def thenR (k : St → Option OR) : Option OR → Option OR
  | some (.ok s) => k s
  | r => r
theorem evOps_nil {cf : CF} {s : St} : evOps cf [] s = some (.ok s) := rfl
theorem evOps_cons {cf : CF} {o : ROper} {r : List ROper} {s : St} : evOps cf (o :: r) s = thenR (evOps cf r) (stepR cf o (wanted s o.g) s) := by
  rw [evOps]
  cases wanted s o.g with
  | none => rfl
  | some b =>
    cases b with
    | true => 
      simp only [stepR]
      cases evOp cf o.dst o.op s with
      | none => rfl
      | some r => cases r <;> rfl
    | false => simp only [stepR]; cases s.put o.dst .und <;> rfl
theorem thenR_ok {k : St → Option OR} {s : St} : thenR k (some (.ok s)) = k s := rfl
theorem thenR_ite {c : Prop} [Decidable c] {k : St → Option OR} {x y : Option OR} : thenR k (if c then x else y) = if c then thenR k x else thenR k y := by split <;> rfl

def evP (cf : CF) (W : List Nat) (s0 : St) (adr : List Nat) : Nat → List ROper → St → Option (Ex × St)
  | 0, o :: r, s => endP cf W s0 adr r (stepR cf o (wanted s o.g) s)
  | c + 1, o :: r, s => nextP (evP cf W s0 adr c r) (stepR cf o (wanted s o.g) s)
  | _, [], _ => none
  where
  endP (cf : CF) (W : List Nat) (s0 : St) (adr : List Nat) (r : List ROper) : Option OR → Option (Ex × St)
    | some (.ok s) => finP adr (evOps cf r s)
    | some (.pan v _) => some (.pan v, dread W s0)
    | none => none
  finP (adr : List Nat) : Option OR → Option (Ex × St)
    | some (.ok f) => some (.norm, { f with tm := killAll f.tm adr })
    | _ => none
  nextP (k : St → Option (Ex × St)) : Option OR → Option (Ex × St)
    | some (.ok s) => k s
    | _ => none

theorem endP_ok {cf : CF} {W : List Nat} {s0 : St} {adr : List Nat} {r : List ROper} {s : St} : evP.endP cf W s0 adr r (some (.ok s)) = evP.finP adr (evOps cf r s) := rfl
theorem endP_pan {cf : CF} {W : List Nat} {s0 : St} {adr : List Nat} {r : List ROper} {s : St} {v : D} : evP.endP cf W s0 adr r (some (.pan v s)) = some (.pan v, dread W s0) := rfl
theorem finP_ok {adr : List Nat} {f : St} : evP.finP adr (some (.ok f)) = some (.norm, { f with tm := killAll f.tm adr }) := rfl
theorem nextP_ok {k : St → Option (Ex × St)} {s : St} : evP.nextP k (some (.ok s)) = k s := rfl
theorem endP_ite {c : Prop} [Decidable c] {cf : CF} {W : List Nat} {s0 : St} {adr : List Nat} {r : List ROper} {x y : Option OR} : evP.endP cf W s0 adr r (if c then x else y) = if c then evP.endP cf W s0 adr r x else evP.endP cf W s0 adr r y := by split <;> rfl
theorem finP_ite {c : Prop} [Decidable c] {adr : List Nat} {x y : Option OR} : evP.finP adr (if c then x else y) = if c then evP.finP adr x else evP.finP adr y := by split <;> rfl
theorem nextP_ite {c : Prop} [Decidable c] {k : St → Option (Ex × St)} {x y : Option OR} : evP.nextP k (if c then x else y) = if c then evP.nextP k x else evP.nextP k y := by split <;> rfl

theorem head_idem_go : ∀ (live : List LM) (tm : List PV), St.head.go live (St.head.go live tm) = St.head.go live tm
  | [], tm => by simp [St.head.go]
  | m :: live, [] => by cases m <;> rfl
  | .kill :: live, p :: tm => by simp only [St.head.go, head_idem_go live tm]
  | .keep :: live, p :: tm => by cases p <;> simp only [St.head.go, head_idem_go live tm]
  | .norm e :: live, p :: tm => by cases p <;> simp only [St.head.go, head_idem_go live tm]

theorem head_idem {s : St} {live : List LM} : (s.head live).head live = s.head live := by
  simp only [St.head, head_idem_go]

theorem V_loop_head {cf : CF} {live : List LM} {c : RCode} {s : St} : V cf (.loop live c) s = V cf (.loop live c) (s.head live) := by
  rw [V_loop, V_loop (s := s.head live), head_idem]

noncomputable def loopK (cf : CF) (B : RCode) (id : Nat) (l live : List LM) : Option (Ex × St) → Option (Ex × St)
  | some (.norm, s') => V cf B (s'.head live)
  | r => blockK id l r

theorem V_bloop {cf : CF} {id : Nat} {l live : List LM} {c : RCode} {s : St} : V cf (.block id l (.loop live c)) s = loopK cf (.block id l (.loop live c)) id l live (V cf c (s.head live)) := by
  rw [V_block, V_loop]
  cases V cf c (s.head live) with
  | none => rfl
  | some q =>
    obtain ⟨ex, s'⟩ := q
    cases ex with
    | norm => simp only [seqK, loopK]; rw [V_block, V_loop_head]
    | _ => rfl

variable {cf : CF} {B : RCode} {id : Nat} {l live : List LM} {s : St}
theorem loopK_norm : loopK cf B id l live (some (.norm, s)) = V cf B (s.head live) := rfl
theorem loopK_ret : loopK cf B id l live (some (.ret, s)) = some (.ret, s) := rfl
theorem loopK_exit {j : Nat} : loopK cf B id l live (some (.exit j, s)) = if j = id then some (.norm, s.head l) else some (.exit j, s) := rfl
theorem loopK_ite {c : Prop} [Decidable c] {x y : Option (Ex × St)} : loopK cf B id l live (if c then x else y) = if c then loopK cf B id l live x else loopK cf B id l live y := by split <;> rfl

theorem cells_agg {cs : List D} : (D.agg cs).cells = cs := rfl
theorem cells_int {k : IntKind} {n : Int} : (D.int k n).cells = [.int k n] := rfl
theorem cells_bool {b : Bool} : (D.bool b).cells = [.bool b] := rfl
theorem cells_str {b : ByteArray} : (D.str b).cells = [.str b] := rfl
theorem cells_sl {xs : List D} : (D.sl xs).cells = [.sl xs] := rfl
theorem isAgg_agg {cs : List D} : (D.agg cs).isAgg = true := rfl
theorem isAgg_int {k : IntKind} {n : Int} : (D.int k n).isAgg = false := rfl
theorem isAgg_bool {b : Bool} : (D.bool b).isAgg = false := rfl
theorem isAgg_str {b : ByteArray} : (D.str b).isAgg = false := rfl
theorem isAgg_sl {xs : List D} : (D.sl xs).isAgg = false := rfl
theorem width_agg {cs : List D} : (D.agg cs).width = cs.length := rfl
theorem width_int {k : IntKind} {n : Int} : (D.int k n).width = 1 := rfl
theorem width_bool {b : Bool} : (D.bool b).width = 1 := rfl
theorem width_str {b : ByteArray} : (D.str b).width = 1 := rfl
theorem width_sl {xs : List D} : (D.sl xs).width = 1 := rfl
attribute [go_sem] cells_agg cells_int cells_bool cells_str cells_sl isAgg_agg isAgg_int isAgg_bool isAgg_str isAgg_sl width_agg width_int width_bool width_str width_sl

theorem w64 {n : Int} (h : -9223372036854775808 ≤ n ∧ n ≤ 9223372036854775807) : IntKind.i64.wrap n = n := by
  simp only [IntKind.wrap, IntKind.bits, IntKind.signed, Bool.true_and, ge_iff_le, decide_eq_true_eq]
  have e1 : (2 : Int) ^ 64 = 18446744073709551616 := by decide
  have e2 : (2 : Int) ^ (64 - 1) = 9223372036854775808 := by decide
  rw [e1, e2]
  split <;> omega
theorem wu8 {n : Int} (h : 0 ≤ n ∧ n ≤ 255) : IntKind.u8.wrap n = n := by
  simp only [IntKind.wrap, IntKind.bits, IntKind.signed, Bool.false_and, Bool.false_eq_true, if_false]
  have e1 : (2 : Int) ^ 8 = 256 := by decide
  rw [e1]
  omega

theorem frzK_some {k : St → Option (Ex × St)} {s : St} : frzK k (some s) = k s := rfl
attribute [go_sem] V_seqf frzK_some freeze1 PV.isRef List.any_cons List.any_nil Bool.or_false Bool.false_or
attribute [go_sem] endP_ok endP_pan finP_ok nextP_ok endP_ite finP_ite nextP_ite
attribute [go_sem] V_seq V_seqc V_reg V_cond V_block V_ret V_skip V_exit
attribute [go_sem 5000] condK_true condK_false
attribute [go_sem] condK_bool seqK_ite seqK_norm seqK_ret seqK_exit seqK_pan blockK_norm blockK_ret blockK_pan blockK_exit blockK_ite fnEnd_ite fnEnd_ret' fnEnd_norm' loopK_norm loopK_ret loopK_exit loopK_ite
attribute [go_sem] evOps_nil evOps_cons thenR_ok thenR_ite stepR evOp wanted St.put St.x St.tk St.tkc PV.cp PV.toD okPut List.getD_cons_zero List.getD_cons_succ List.set_cons_zero List.set_cons_succ Option.bind_some Option.map_some X.self binD intD killAll List.map_cons List.map_nil St.load cellTake cellsAgg elemD partD lenOp Bool.false_eq_true addrOff List.getElem?_cons_zero List.getElem?_cons_succ drawEnd regEnd St.head St.head.go
theorem getD8 {x0 x1 x2 x3 x4 x5 x6 x7 : PV} {l : List PV} {n : Nat} {d : PV} : (x0 :: x1 :: x2 :: x3 :: x4 :: x5 :: x6 :: x7 :: l).getD (n + 8) d = l.getD n d := rfl
theorem set8 {x0 x1 x2 x3 x4 x5 x6 x7 : PV} {l : List PV} {n : Nat} {v : PV} : (x0 :: x1 :: x2 :: x3 :: x4 :: x5 :: x6 :: x7 :: l).set (n + 8) v = x0 :: x1 :: x2 :: x3 :: x4 :: x5 :: x6 :: x7 :: l.set n v := rfl
attribute [go_sem 5000] getD8 set8
def hold (f : Unit → RCode) : RCode := f ()
theorem V_hold {cf : CF} {f : Unit → RCode} {s : St} : V cf (hold f) s = V cf (f ()) s := rfl
attribute [go_sem] V_hold
theorem demote_own (e : Nat) (xs : List D) : (PV.own e xs).demote = .d (.sl xs) := rfl
theorem demote_nil : PV.nilsl.demote = .d (.sl []) := rfl
theorem demote_d (x : D) : (PV.d x).demote = .d x := rfl
theorem demote_tup (vs : List PV) : (PV.tup vs).demote = .tup vs := rfl
theorem demote_ptr (i o : Nat) : (PV.ptr i o).demote = .ptr i o := rfl
theorem demote_fn (f : Nat) (cs : List PV) : (PV.fn f cs).demote = .fn f cs := rfl
theorem demote_fnm (f : Nat) (cs : List PV) : (PV.fnm f cs).demote = .fnm f cs := rfl
theorem demote_full (xs : List D) : (PV.full xs).demote = .full xs := rfl
theorem demote_eptr (x : D) (o : Nat) : (PV.eptr x o).demote = .eptr x o := rfl
attribute [go_sem] demote_own demote_nil demote_d demote_tup demote_ptr demote_fn demote_fnm demote_full demote_eptr
attribute [go_sem] elV ldbV
theorem thaw_d {hp : List Ent} {x : D} : thaw hp (.d x) = .d x := rfl
theorem thaw_own {hp : List Ent} {e : Nat} {xs : List D} : thaw hp (.own e xs) = .own e xs := rfl
theorem thaw_full {hp : List Ent} {xs : List D} : thaw hp (.full xs) = .full xs := rfl
theorem thaw_nil {hp : List Ent} : thaw hp .nilsl = .nilsl := rfl
theorem thaw_tup {hp : List Ent} {vs : List PV} : thaw hp (.tup vs) = .tup (vs.map (thaw1 hp)) := rfl
theorem thaw1_d {hp : List Ent} {x : D} : thaw1 hp (.d x) = .d x := rfl
theorem thaw1_own {hp : List Ent} {e : Nat} {xs : List D} : thaw1 hp (.own e xs) = .own e xs := rfl
theorem thaw1_full {hp : List Ent} {xs : List D} : thaw1 hp (.full xs) = .full xs := rfl
theorem thaw1_nil {hp : List Ent} : thaw1 hp .nilsl = .nilsl := rfl
attribute [go_sem] thaw_d thaw_own thaw_full thaw_nil thaw_tup thaw1_d thaw1_own thaw1_full thaw1_nil
attribute [go_sem] retOf results resOf PV.flat optAll_nil optAll_some fillD setDs sliceOp optInt boundsOk appOp apqOp apsOp rowOk PV.one St.store storeIn setCells minMax minMaxs unD convD extV
theorem beq_ft : (false == true) = false := rfl
theorem beq_tf : (true == false) = false := rfl
theorem beq_tt : (true == true) = true := rfl
theorem beq_ff : (false == false) = true := rfl
attribute [go_sem] beq_ft beq_tf beq_tt beq_ff
attribute [go_sem] if_true if_false ite_true ite_false reduceIte Bool.not_true Bool.not_false decide_true decide_false beq_self_eq_true Bool.and_true Bool.true_and Bool.and_false Bool.false_and Bool.and_eq_true
attribute [go_sem] List.cons_append List.nil_append List.length_cons List.length_nil List.drop_zero List.drop_succ_cons List.take_succ_cons List.take_zero List.all_cons List.all_nil

attribute [go_sem] and_self and_true true_and false_and and_false Int.toNat_natCast Int.natCast_zero
attribute [go_sem_proc] Nat.reduceAdd Nat.reduceMul Nat.reduceSub Nat.reduceLeDiff Nat.reduceLT Nat.reduceGT Nat.reduceEqDiff Nat.reduceBEq Int.reduceNeg Int.reduceEq Int.reduceLT Int.reduceLE Int.reduceBEq Int.reduceToNat
@[go_sem, reducible] def mo (d t : Nat) : ROper := ⟨some d, none, .mv false (.t t)⟩
@[go_sem, reducible] def io (d : Nat) (o : RO) : ROper := ⟨some d, none, o⟩
@[go_sem, reducible] def z2 (l : List PV) : List PV := .dead :: .dead :: l
@[go_sem, reducible] def z4 (l : List PV) : List PV := .dead :: .dead :: .dead :: .dead :: l
@[go_sem, reducible] def z8 (l : List PV) : List PV := z4 (z4 l)
@[go_sem, reducible] def z32 (l : List PV) : List PV := z8 (z8 (z8 (z8 l)))
end Go.Pe

namespace Go.Pe
abbrev iv (n : Int) : D := .int .i64 n

inductive Val where
  | mk (kind coef scale : Int) (str : ByteArray) (items : List Val) (keys : List ByteArray)

mutual
def Val.enc : Val → D
  | .mk k c s t xs ks => .agg [iv k, iv c, iv s, .str t, .sl (Val.encs xs), .sl (ks.map .str)]
def Val.encs : List Val → List D
  | [] => []
  | v :: r => v.enc :: Val.encs r
end
def i64 (n : Int) : Prop := -9223372036854775808 ≤ n ∧ n ≤ 9223372036854775807

mutual
def Val.ok : Val → Prop
  | .mk k c s t xs ks => i64 k ∧ i64 c ∧ i64 s ∧ t.size ≤ maxLen ∧ xs.length ≤ maxLen ∧ ks.length ≤ maxLen ∧ (∀ x ∈ ks, x.size ≤ maxLen) ∧ Val.oks xs
def Val.oks : List Val → Prop
  | [] => True
  | v :: r => v.ok ∧ Val.oks r
end
theorem strD_neq (x y : ByteArray) : strD .neq x y = some (.bool !(x.toList == y.toList)) := rfl
end Go.Pe

namespace Go.Pe
section
variable {H : Type} {P : Program}

theorem lift_str {t : TypeId} {d : DataW H} {xs : List D} (h : P.underlying t = some .string) (hl : Lift P t d xs) : ∃ s, xs = [.str s] ∧ s.size ≤ maxLen := by
  cases hl with
  | str s h1 h2 => exact ⟨s, rfl, h2⟩
  | _ => simp_all

theorem agg_cells {y : D} (h : y.isAgg = true) : y = .agg y.cells := by
  cases y <;> simp [D.isAgg] at h
  rfl
theorem cell_cells {y x : D} (h : y.isAgg = false) (e : y.cells = [x]) : y = x := by
  cases y <;> simp [D.isAgg] at h <;> simpa [D.cells] using e

structure ValT (P : Program) (tV : TypeId) : Prop where
  is : ∃ (fV fN : Array Field) (tK tN tS tX tT tC tE tEs : TypeId), P.underlying tV = some (.struct fV) ∧ fV.toList.map (·.type) = [tK, tN, tS, tX, tT] ∧ P.underlying tK = some (.int .i64) ∧
    P.underlying tN = some (.struct fN) ∧ fN.toList.map (·.type) = [tC, tE] ∧ P.underlying tC = some (.int .i64) ∧ P.underlying tE = some (.int .i64) ∧
    P.underlying tS = some .string ∧ P.underlying tX = some (.slice tV) ∧ P.underlying tT = some (.slice tEs) ∧ P.underlying tEs = some .string

theorem liftArgs_nil {ds : List (DataW H)} {xs : List D} (h : LiftArgs P [] ds xs) : xs = [] := by
  match ds, xs, h with
  | [], [], _ => rfl
theorem liftArgs_cons {t : TypeId} {ts : List TypeId} {ds : List (DataW H)} {xs : List D} (h : LiftArgs P (t :: ts) ds xs) :
    ∃ (d : DataW H) (ds' : List (DataW H)) (x : D) (xs' : List D), xs = x :: xs' ∧ Lift P t d x.cells ∧ x.isAgg = aggT P t ∧ LiftArgs P ts ds' xs' := by
  match ds, xs, h with
  | d :: ds, x :: xs, h => exact ⟨d, ds, x, xs, rfl, h.1.1, h.1.2, h.2⟩

structure NumT (P : Program) (tN : TypeId) : Prop where
  is : ∃ (fN : Array Field) (tC tE : TypeId), P.underlying tN = some (.struct fN) ∧ fN.toList.map (·.type) = [tC, tE] ∧ P.underlying tC = some (.int .i64) ∧ P.underlying tE = some (.int .i64)

theorem lift_s {t : TypeId} (ht : P.underlying t = some .string) {d : DataW H} {x : D} (h : Lift P t d x.cells) (ha : x.isAgg = aggT P t) : ∃ s : ByteArray, s.size ≤ maxLen ∧ x = .str s := by
  obtain ⟨s, h1, h2⟩ := lift_str ht h
  exact ⟨s, h2, cell_cells (by rw [ha]; simp [aggT, ht]) h1⟩
end
end Go.Pe

namespace Go.Pe
section
variable {P : Program} {g : G} {w : World}

def cf0 : CF := fun _ _ _ => none
theorem cf0_sound : CFSound P cf0 := ⟨fun f args hp out h => by simp [cf0] at h, fun f args hp out h => by simp [cf0] at h⟩
theorem cf0_nice {pf : Nat → Bool} : CFNice pf cf0 := ⟨fun f args hp v hp' h => by simp [cf0] at h, fun f _ args hp v hp' h => by simp [cf0] at h, fun f _ args hp v hp' h => by simp [cf0] at h⟩

end
end Go.Pe

namespace Go.Pe
section
variable {P : Program} {g : G} {w : World}

end
end Go.Pe
