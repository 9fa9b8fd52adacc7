/- A part of the proof of: BasicStays: nothing put ahead or behind turns nothing; sides may be turned about. -/
import Derived.Test.YtlkeaffppdeghaaGreatPe2
import Derived.Recover
import Derived.Test.YtlkeaffppdeghaaGreatPe1
import GoSem.ClaimChange
import Derived.WalkKit
import Derived.ProofKit
import Derived.OpenShut
import Derived.ChangeOld
import Derived.Below
import Derived.SizedLaws
import Derived.Carry
import Derived.Lib.SliceRun
import Derived.Shelf.Strings.Repeat
set_option linter.unusedSimpArgs false
set_option linter.unusedVariables false
set_option maxRecDepth 20000

namespace Go.Pe
section
variable {P : Program} {g : G} {w : World} {a : Act} {s s' : St} {S : Nat → Nat → Prop}

def exitOf : Ex → Option Exit
  | .norm => some .normal
  | .exit id => some (.exit id)
  | .ret => some .ret
  | .pan _ => none

def CodePost (P : Program) (g : G) (w : World) (a : Act) (Q : Exit → Act → World → Prop) (ex : Ex) (s' : St) : Prop :=
  match ex with
  | .pan x => ∀ g' w' a' u, DRep g'.stab w' x u → Inv P g' w' a' s' → Chg Mine g w g' w' → a'.defers = a.defers → Q (.panic [{ v := u, recovered := false }]) a' w'
  | .norm => ∀ g' w' a', Inv P g' w' a' s' → Chg Mine g w g' w' → a'.defers = a.defers → Q .normal a' w'
  | .exit id => ∀ g' w' a', Inv P g' w' a' s' → Chg Mine g w g' w' → a'.defers = a.defers → Q (.exit id) a' w'
  | .ret => ∀ g' w' a', Inv P g' w' a' s' → Chg Mine g w g' w' → a'.defers = a.defers → Q .ret a' w'

theorem CodePost.step {g' : G} {w' : World} {a' : Act} {Q : Exit → Act → World → Prop} {ex : Ex} (h : CodePost P g w a Q ex s') (hc : Chg Mine g w g' w') (hd : a'.defers = a.defers) : CodePost P g' w' a' Q ex s' := by
  cases ex with
  | pan x => exact fun g2 w2 a2 u hx hH hc2 hd2 => h g2 w2 a2 u hx hH (hc.trans hc2) (hd2.trans hd)
  | norm => exact fun g2 w2 a2 hI hc2 hd2 => h g2 w2 a2 hI (hc.trans hc2) (hd2.trans hd)
  | exit id => exact fun g2 w2 a2 hI hc2 hd2 => h g2 w2 a2 hI (hc.trans hc2) (hd2.trans hd)
  | ret => exact fun g2 w2 a2 hI hc2 hd2 => h g2 w2 a2 hI (hc.trans hc2) (hd2.trans hd)

theorem CodePost.weaken {Q Q' : Exit → Act → World → Prop} {ex : Ex} (h : CodePost P g w a Q ex s') (hq : ex ≠ .norm) (hQ : ∀ e a w, e ≠ .normal → Q e a w → Q' e a w) : CodePost P g w a Q' ex s' := by
  cases ex with
  | pan x => exact fun g2 w2 a2 u hx hH hc2 hd2 => hQ _ _ _ (by simp) (h g2 w2 a2 u hx hH hc2 hd2)
  | norm => exact absurd rfl hq
  | exit id => exact fun g2 w2 a2 hI hc2 hd2 => hQ _ _ _ (by simp) (h g2 w2 a2 hI hc2 hd2)
  | ret => exact fun g2 w2 a2 hI hc2 hd2 => hQ _ _ _ (by simp) (h g2 w2 a2 hI hc2 hd2)

theorem Inv.killAll (h : Inv P g w a s) : ∀ (l : List Nat), Inv P g w a { s with tm := killAll s.tm l } := by
  intro l
  have : ∀ (l : List Nat) (s : St), Inv P g w a s → Inv P g w a { s with tm := Pe.killAll s.tm l } := by
    intro l
    induction l with
    | nil => intro s h; exact h
    | cons t l ih =>
      intro s h
      simp only [Pe.killAll]
      split
      · exact ih s h
      · rename_i hne
        exact ih { s with tm := s.tm.set t .dead } (h.kill fun cs hc => hne cs (getD_some hc))
  exact this l s h

inductive HeadOf : PV → PV → Prop where
  | dead (p : PV) : HeadOf p .dead
  | keep (p : PV) (h : ∀ t o, p ≠ .ref t o) : HeadOf p p
  | norm (e : Nat) : HeadOf .nilsl (.own e [])

theorem head_go : ∀ (live : List LM) (tm : List PV), (St.head.go live tm).length = tm.length ∧ ∀ (t : Nat) (q : PV), (St.head.go live tm)[t]? = some q → ∃ p, tm[t]? = some p ∧ HeadOf p q
  | [], tm => by
    refine ⟨by simp [St.head.go], ?_⟩
    intro t q h
    simp only [St.head.go, List.getElem?_map, Option.map_eq_some_iff] at h
    obtain ⟨p, hp, rfl⟩ := h
    exact ⟨p, hp, .dead p⟩
  | m :: live, [] => by
    cases m <;> exact ⟨rfl, by simp [St.head.go]⟩
  | .kill :: live, p :: tm => by
    obtain ⟨i1, i2⟩ := head_go live tm
    refine ⟨by simp [St.head.go, i1], ?_⟩
    intro t q h
    cases t with
    | zero => simp [St.head.go] at h; subst h; exact ⟨p, rfl, .dead p⟩
    | succ t => simp only [St.head.go, List.getElem?_cons_succ] at h; exact i2 t q h
  | .keep :: live, p :: tm => by
    obtain ⟨i1, i2⟩ := head_go live tm
    refine ⟨by simp [St.head.go, i1], ?_⟩
    intro t q h
    cases t with
    | zero =>
      simp only [St.head.go, List.getElem?_cons_zero, Option.some.injEq] at h
      refine ⟨p, rfl, ?_⟩
      split at h
      · subst h; exact .dead _
      · rename_i hne
        subst h
        exact .keep _ hne
    | succ t => simp only [St.head.go, List.getElem?_cons_succ] at h; exact i2 t q h
  | .norm e :: live, p :: tm => by
    obtain ⟨i1, i2⟩ := head_go live tm
    refine ⟨by simp [St.head.go, i1], ?_⟩
    intro t q h
    cases t with
    | zero =>
      simp only [St.head.go, List.getElem?_cons_zero, Option.some.injEq] at h
      refine ⟨p, rfl, ?_⟩
      split at h
      · subst h; exact .norm e
      · subst h; exact .dead _
      · rename_i hne _
        subst h
        rename_i hne2
        exact .keep _ hne2
    | succ t => simp only [St.head.go, List.getElem?_cons_succ] at h; exact i2 t q h

theorem Inv.head (h : Inv P g w a s) (live : List LM) : Inv P g w a (s.head live) := by
  obtain ⟨h1, h2⟩ := head_go live s.tm
  refine ⟨by rw [h.size]; exact h1.symm, ?_, h.heap⟩
  intro t q ht
  obtain ⟨p, hp, hh⟩ := h2 t q ht
  have hr := h.slot t p hp
  cases hh with
  | dead => exact RepS.dead'
  | keep _ hne =>
    cases q with
    | ref t' o => exact absurd rfl (hne t' o)
    | _ => exact hr
  | norm e =>
    have hr' : RepF P g w (.tm t 0) .nilsl (a.va t) := hr
    simp only [RepF] at hr'
    show RepF P g w (.tm t 0) (.own e []) (a.va t)
    rw [hr']
    simp only [RepF]
    exact ⟨[], World.ownsRow_nil _ _ _ _, Flat.nil _ _ _, by simp [Value.ownBlock]⟩

theorem Inv.freeze1 (h : Inv P g w a s) {n : Nat} {s2 : St} (hf : freeze1 s n = some s2) : ∃ g', Inv P g' w a s2 ∧ Chg Mine g w g' w := by
  unfold Pe.freeze1 at hf
  split at hf
  · rename_i cs hcs
    split at hf
    · rename_i ds hds
      split at hf
      · rename_i hc
        simp only [Bool.and_eq_true, List.all_eq_true, Bool.not_eq_true'] at hc
        simp only [Option.some.injEq] at hf
        subst hf
        obtain ⟨_, g', _, v2, v3, _⟩ := h.open_ (h.slot' hcs (by simp)).1 hds hc.1 hc.2
        exact ⟨g', v3, v2⟩
      · simp at hf
    · simp at hf
  · simp at hf

def codeOk (P : Program) (pf : Nat → Bool) : Code → RCode → Bool
  | .skip, .skip => true
  | .ret, .ret _ => true
  | .region _ _ _, .stuck => true
  | .region _ ops true, .regp ros _ c => regOk P ops.toList ops.toList ros && drawOk P pf ops ros && panOk P pf ops ros c
  | .region _ ops d, .reg ros _ d' => d == d' && regOk P ops.toList ops.toList ros && (!d || drawOk P pf ops ros)
  | .seq x y, .seq x' y' => codeOk P pf x x' && codeOk P pf y y'
  | .seq x y, .seqf x' _ y' => codeOk P pf x x' && codeOk P pf y y'
  | .seq x y, .seqc x' _ y' => codeOk P pf x x' && codeOk P pf y y'
  | .cond c x y, .cond c' x' y' => xOk c c' && codeOk P pf x x' && codeOk P pf y y'
  | .block i c, .block i' _ c' => i == i' && codeOk P pf c c'
  | .loop c, .loop _ c' => codeOk P pf c c'
  | .exit i, .exit i' => i == i'
  | _, _ => false

theorem reg_post {Q : Exit → Act → World → Prop} {r : OR} {adr : List Nat} {ex : Ex} (hr : regEnd s adr r = (ex, s')) (hp : CodePost P g w a Q ex s') : RegPost P g w a Q r := by
  cases r with
  | ok s1 =>
    simp only [regEnd, Prod.mk.injEq] at hr
    obtain ⟨rfl, rfl⟩ := hr
    exact fun g' w' a' hI hc hd => hp g' w' a' (hI.killAll adr) hc hd
  | pan x hp' =>
    simp only [regEnd, Prod.mk.injEq] at hr
    obtain ⟨rfl, rfl⟩ := hr
    exact fun g' w' a' u hx hH hc hd => hp g' w' a' u hx hH hc hd

theorem evOps_append {cf : CF} {r : OR} : ∀ {l l' : List ROper} {s s1 : St}, evOps cf l s = some (.ok s1) → evOps cf l' s1 = some r → evOps cf (l ++ l') s = some r
  | [], l', s, s1, h1, h2 => by
    simp only [evOps, Option.some.injEq, OR.ok.injEq] at h1
    subst h1
    exact h2
  | o :: l, l', s, s1, h1, h2 => by
    simp only [List.cons_append, evOps] at h1 ⊢
    cases hw : wanted s o.g with
    | none => rw [hw] at h1; simp at h1
    | some b =>
      rw [hw] at h1
      cases b with
      | true =>
        simp only at h1 ⊢
        cases he : evOp cf o.dst o.op s with
        | none => rw [he] at h1; simp at h1
        | some q =>
          rw [he] at h1
          cases q with
          | ok s' => exact evOps_append h1 h2
          | pan v s' => simp at h1
      | false =>
        simp only at h1 ⊢
        cases he : s.put o.dst .und with
        | none => rw [he] at h1; simp at h1
        | some s' => rw [he] at h1; exact evOps_append h1 h2

theorem code_sound {cf : CF} (hcf : CFSound P cf) {pf : Nat → Bool} (hdk : CFNice pf cf) (n : Nat) : ∀ (c : Code) (rc : RCode), codeOk P pf c rc = true → ∀ {g : G} {w : World} {a : Act} {s s' : St} {ex : Ex} {Q : Exit → Act → World → Prop},
    evCode cf n rc s = some (ex, s') → Inv P g w a s → CodePost P g w a Q ex s' → c.wp P Q a w
  | .skip, rc, hk, g, w, a, s, s', ex, Q, he, h, hp => by
    cases rc <;> simp [codeOk] at hk
    simp only [evCode, Option.some.injEq, Prod.mk.injEq] at he
    obtain ⟨rfl, rfl⟩ := he
    exact wp_skip (hp g w a h (Chg.refl _ _ _) rfl)
  | .ret, rc, hk, g, w, a, s, s', ex, Q, he, h, hp => by
    cases rc <;> simp [codeOk] at hk
    simp only [evCode, Option.some.injEq, Prod.mk.injEq] at he
    obtain ⟨rfl, rfl⟩ := he
    exact wp_ret (hp g w a (h.head _) (Chg.refl _ _ _) rfl)
  | .exit i, rc, hk, g, w, a, s, s', ex, Q, he, h, hp => by
    cases rc <;> simp [codeOk] at hk
    subst hk
    simp only [evCode, Option.some.injEq, Prod.mk.injEq] at he
    obtain ⟨rfl, rfl⟩ := he
    exact wp_exit (hp g w a h (Chg.refl _ _ _) rfl)
  | .region id ops d, rc, hk, g, w, a, s, s', ex, Q, he, h, hp => by
    cases rc with
    | reg ros adr d' =>
      simp only [codeOk, Bool.and_eq_true, beq_iff_eq, Bool.or_eq_true, Bool.not_eq_true'] at hk
      obtain ⟨⟨rfl, hreg⟩, hdraw⟩ := hk
      simp only [evCode] at he
      cases hev : evOps cf ros s with
      | none => rw [hev] at he; simp at he
      | some r =>
        rw [hev] at he
        simp only [Option.bind_some, Option.map_eq_some_iff] at he
        obtain ⟨r', hde, he⟩ := he
        have hrr : r' = r ∧ (d = true → ∃ f, r = .ok f) := by
          cases d <;> cases r <;> simp only [drawEnd, Option.some.injEq, reduceCtorEq] at hde <;> subst hde <;> simp
        obtain ⟨rfl, hok⟩ := hrr
        have hrp := reg_post (a := a) (Q := Q) he hp
        obtain ⟨hlen, _⟩ := regOk_get hreg
        cases d with
        | false =>
          refine wp_region (idx_sound hcf hreg _ (r := r') ?_ h hrp)
          rw [show ops.size = ros.length by rw [← hlen]; simp, evIdx_range]
          exact hev
        | true =>
          obtain ⟨f, rfl⟩ := hok rfl
          exact draw_sound hcf hdk hreg (hdraw.resolve_left (by simp)) hev (h.chg_idle (idle_none s) (Chg.drew _) rfl) (hrp.step (Chg.drew _) rfl)
    | stuck => simp [evCode] at he
    | regp ros adr c =>
      cases d with
      | false => simp [codeOk] at hk
      | true =>
      simp only [codeOk, Bool.and_eq_true] at hk
      obtain ⟨⟨hreg, hdraw⟩, hpk⟩ := hk
      simp only [evCode, evRegp] at he
      split at he
      · rename_i s1 h1
        obtain ⟨oc, hoc⟩ : ∃ oc, ros[c]? = some oc := by
          simp only [panOk, Bool.and_eq_true] at hpk
          cases ho : ros[c]? with
          | none => rw [ho] at hpk; simp at hpk
          | some oc => exact ⟨oc, rfl⟩
        rw [hoc, Option.bind_some] at he
        cases hpa : panAt cf oc s1 with
        | some v =>
          rw [hpa] at he
          simp only [regpK, Option.some.injEq, Prod.mk.injEq] at he
          obtain ⟨rfl, rfl⟩ := he
          refine draw_pan_sound hcf hdk hreg hdraw hpk hoc h1 hpa (h.chg_idle (idle_none s) (Chg.drew _) rfl) ?_
          exact fun g' w' a' u hx hI hc hd => hp g' w' a' u hx hI ((Chg.drew _).trans hc) hd
        | none =>
          rw [hpa] at he
          cases h2 : evOps cf (ros.drop c) s1 with
          | none => rw [h2] at he; simp [regpK] at he
          | some r =>
            cases r with
            | pan x s2 => rw [h2] at he; simp [regpK] at he
            | ok f =>
              rw [h2] at he
              simp only [regpK, Option.some.injEq, Prod.mk.injEq] at he
              obtain ⟨rfl, rfl⟩ := he
              have hev : evOps cf ros s = some (.ok f) := by
                rw [← List.take_append_drop c ros]
                exact evOps_append h1 h2
              refine draw_sound hcf hdk hreg hdraw hev (h.chg_idle (idle_none s) (Chg.drew _) rfl) ?_
              exact fun g' w' a' hI hc hd => hp g' w' a' (hI.killAll adr) ((Chg.drew _).trans hc) hd
      · simp at he
    | _ => simp [codeOk] at hk
  | .seq x y, rc, hk, g, w, a, s, s', ex, Q, he, h, hp => by
    cases rc with
    | seq x' y' =>
      simp only [codeOk, Bool.and_eq_true] at hk
      simp only [evCode] at he
      cases hev : evCode cf n x' s with
      | none => rw [hev] at he; simp at he
      | some r =>
        obtain ⟨ex1, s1⟩ := r
        rw [hev] at he
        refine wp_seq (code_sound hcf hdk n x x' hk.1 hev h ?_)
        cases ex1 with
        | norm =>
          simp only at he
          exact fun g1 w1 a1 hI hc hd => code_sound hcf hdk n y y' hk.2 he hI (hp.step hc hd)
        | exit i =>
          simp only [Option.some.injEq, Prod.mk.injEq] at he
          obtain ⟨rfl, rfl⟩ := he
          exact fun g1 w1 a1 hI hc hd => hp g1 w1 a1 hI hc hd
        | ret =>
          simp only [Option.some.injEq, Prod.mk.injEq] at he
          obtain ⟨rfl, rfl⟩ := he
          exact fun g1 w1 a1 hI hc hd => hp g1 w1 a1 hI hc hd
        | pan x =>
          simp only [Option.some.injEq, Prod.mk.injEq] at he
          obtain ⟨rfl, rfl⟩ := he
          exact fun g1 w1 a1 u hx hH hc hd => hp g1 w1 a1 u hx hH hc hd
    | seqc x' live y' =>
      simp only [codeOk, Bool.and_eq_true] at hk
      simp only [evCode] at he
      cases hev : evCode cf n x' s with
      | none => rw [hev] at he; simp at he
      | some r =>
        obtain ⟨ex1, s1⟩ := r
        rw [hev] at he
        refine wp_seq (code_sound hcf hdk n x x' hk.1 hev h ?_)
        cases ex1 with
        | norm =>
          simp only at he
          exact fun g1 w1 a1 hI hc hd => code_sound hcf hdk n y y' hk.2 he (hI.head live) (hp.step hc hd)
        | exit i =>
          simp only [Option.some.injEq, Prod.mk.injEq] at he
          obtain ⟨rfl, rfl⟩ := he
          exact fun g1 w1 a1 hI hc hd => hp g1 w1 a1 hI hc hd
        | ret =>
          simp only [Option.some.injEq, Prod.mk.injEq] at he
          obtain ⟨rfl, rfl⟩ := he
          exact fun g1 w1 a1 hI hc hd => hp g1 w1 a1 hI hc hd
        | pan x =>
          simp only [Option.some.injEq, Prod.mk.injEq] at he
          obtain ⟨rfl, rfl⟩ := he
          exact fun g1 w1 a1 u hx hH hc hd => hp g1 w1 a1 u hx hH hc hd
    | seqf x' k y' =>
      simp only [codeOk, Bool.and_eq_true] at hk
      simp only [evCode] at he
      cases hev : evCode cf n x' s with
      | none => rw [hev] at he; simp at he
      | some r =>
        obtain ⟨ex1, s1⟩ := r
        rw [hev] at he
        refine wp_seq (code_sound hcf hdk n x x' hk.1 hev h ?_)
        cases ex1 with
        | norm =>
          simp only at he
          split at he
          · rename_i s2 hfz
            exact fun g1 w1 a1 hI hc hd => by
              obtain ⟨g2, hI2, hc2⟩ := hI.freeze1 hfz
              exact code_sound hcf hdk n y y' hk.2 he hI2 (hp.step (hc.trans hc2) hd)
          · simp at he
        | exit i =>
          simp only [Option.some.injEq, Prod.mk.injEq] at he
          obtain ⟨rfl, rfl⟩ := he
          exact fun g1 w1 a1 hI hc hd => hp g1 w1 a1 hI hc hd
        | ret =>
          simp only [Option.some.injEq, Prod.mk.injEq] at he
          obtain ⟨rfl, rfl⟩ := he
          exact fun g1 w1 a1 hI hc hd => hp g1 w1 a1 hI hc hd
        | pan x =>
          simp only [Option.some.injEq, Prod.mk.injEq] at he
          obtain ⟨rfl, rfl⟩ := he
          exact fun g1 w1 a1 u hx hH hc hd => hp g1 w1 a1 u hx hH hc hd
    | _ => simp [codeOk] at hk
  | .cond c x y, rc, hk, g, w, a, s, s', ex, Q, he, h, hp => by
    cases rc with
    | cond c' x' y' =>
      simp only [codeOk, Bool.and_eq_true] at hk
      obtain ⟨⟨h1, h2⟩, h3⟩ := hk
      simp only [evCode] at he
      split at he
      · rename_i t hc
        have hcv := (x_toD h h1 (d := .bool t) (by rw [hc]; rfl)).bool_inv
        cases t with
        | true => exact wp_cond_true hcv (code_sound hcf hdk n x x' h2 he h hp)
        | false => exact wp_cond_false hcv (code_sound hcf hdk n y y' h3 he h hp)
      · simp at he
    | _ => simp [codeOk] at hk
  | .block i c, rc, hk, g, w, a, s, s', ex, Q, he, h, hp => by
    cases rc with
    | block i' live c' =>
      simp only [codeOk, Bool.and_eq_true, beq_iff_eq] at hk
      obtain ⟨rfl, hk⟩ := hk
      simp only [evCode] at he
      cases hev : evCode cf n c' s with
      | none => rw [hev] at he; simp at he
      | some r =>
        obtain ⟨ex1, s1⟩ := r
        rw [hev] at he
        refine wp_block (code_sound hcf hdk n c c' hk hev h ?_)
        cases ex1 with
        | norm =>
          simp only [Option.some.injEq, Prod.mk.injEq] at he
          obtain ⟨rfl, rfl⟩ := he
          exact fun g1 w1 a1 hI hc hd => hp g1 w1 a1 (hI.head live) hc hd
        | exit j =>
          simp only at he
          by_cases e : j = i
          · subst e
            simp only [if_true, Option.some.injEq, Prod.mk.injEq] at he
            obtain ⟨rfl, rfl⟩ := he
            exact fun g1 w1 a1 hI hc hd => by simp only [Exit.inBlock, if_true]; exact hp g1 w1 a1 (hI.head live) hc hd
          · simp only [if_neg e, Option.some.injEq, Prod.mk.injEq] at he
            obtain ⟨rfl, rfl⟩ := he
            exact fun g1 w1 a1 hI hc hd => by simp only [Exit.inBlock, if_neg e]; exact hp g1 w1 a1 hI hc hd
        | ret =>
          simp only [Option.some.injEq, Prod.mk.injEq] at he
          obtain ⟨rfl, rfl⟩ := he
          exact fun g1 w1 a1 hI hc hd => hp g1 w1 a1 hI hc hd
        | pan x =>
          simp only [Option.some.injEq, Prod.mk.injEq] at he
          obtain ⟨rfl, rfl⟩ := he
          exact fun g1 w1 a1 u hx hH hc hd => hp g1 w1 a1 u hx hH hc hd
    | _ => simp [codeOk] at hk
  | .loop c, rc, hk, g, w, a, s, s', ex, Q, he, h, hp => by
    cases rc with
    | loop live c' =>
      simp only [codeOk] at hk
      simp only [evCode] at he
      refine wp_loop_ghost (fun k a1 w1 => ∃ g1 s1, evIter (evCode cf n c') live k s1 = some (ex, s') ∧ Inv P g1 w1 a1 s1 ∧ CodePost P g1 w1 a1 Q ex s') n ⟨g, s, he, h, hp⟩ ?_
      rintro k a1 w1 ⟨g1, s1, he1, h1, hp1⟩
      cases k with
      | zero => simp [evIter] at he1
      | succ k =>
        simp only [evIter] at he1
        cases hev : evCode cf n c' (s1.head live) with
        | none => rw [hev] at he1; simp at he1
        | some r =>
          obtain ⟨ex2, s2⟩ := r
          rw [hev] at he1
          refine code_sound hcf hdk n c c' hk hev (h1.head live) ?_
          cases ex2 with
          | norm =>
            simp only at he1
            exact fun g2 w2 a2 hI hc hd => ⟨k, Nat.lt_succ_self k, g2, s2, he1, hI, hp1.step hc hd⟩
          | exit i =>
            simp only [Option.some.injEq, Prod.mk.injEq] at he1
            obtain ⟨rfl, rfl⟩ := he1
            exact fun g2 w2 a2 hI hc hd => hp1 g2 w2 a2 hI hc hd
          | ret =>
            simp only [Option.some.injEq, Prod.mk.injEq] at he1
            obtain ⟨rfl, rfl⟩ := he1
            exact fun g2 w2 a2 hI hc hd => hp1 g2 w2 a2 hI hc hd
          | pan x =>
            simp only [Option.some.injEq, Prod.mk.injEq] at he1
            obtain ⟨rfl, rfl⟩ := he1
            exact fun g2 w2 a2 u hx hH hc hd => hp1 g2 w2 a2 u hx hH hc hd
    | _ => simp [codeOk] at hk
  | .rangeFunc _ _ _ _, rc, hk, _, _, _, _, _, _, _, _, _, _ => by cases rc <;> simp [codeOk] at hk
  | .scope _, rc, hk, _, _, _, _, _, _, _, _, _, _ => by cases rc <;> simp [codeOk] at hk
  | .label _, rc, hk, _, _, _, _, _, _, _, _, _, _ => by cases rc <;> simp [codeOk] at hk
  | .goto _, rc, hk, _, _, _, _, _, _, _, _, _, _ => by cases rc <;> simp [codeOk] at hk
  | .refuse _, rc, hk, _, _, _, _, _, _, _, _, _, _ => by cases rc <;> simp [codeOk] at hk

end
end Go.Pe

namespace Go.Pe
section
variable {P : Program} {g : G} {w : World} {a : Act} {s s' : St} {S : Nat → Nat → Prop}

theorem args_slots {l : Loc} {k : Nat} : ∀ {args : List PV} {vals : List Value}, RepFs P g w l args vals → args.length = vals.length ∧ ∀ (t : Nat) (p : PV), args[t]? = some p → ∃ v, vals[t]? = some v ∧ RepF P g w l p v
  | [], [], _ => ⟨rfl, by simp⟩
  | p :: args, v :: vals, h => by
    simp only [RepFs] at h
    obtain ⟨i1, i2⟩ := args_slots (k := k) h.2
    refine ⟨by simp [i1], ?_⟩
    intro t q ht
    cases t with
    | zero => simp at ht; subst ht; exact ⟨v, rfl, h.1⟩
    | succ t => exact i2 t q (by simpa using ht)
  | [], _ :: _, h => by simp only [RepFs] at h
  | _ :: _, [], h => by simp only [RepFs] at h

theorem plains_get : ∀ {args : List PV} {t : Nat} {p : PV}, PV.plains args = true → args[t]? = some p → p.plain = true
  | [], t, p, _, h => by simp at h
  | q :: args, 0, p, hp, h => by
    simp only [PV.plains, Bool.and_eq_true] at hp
    simp at h
    subst h
    exact hp.1
  | q :: args, t + 1, p, hp, h => by
    simp only [PV.plains, Bool.and_eq_true] at hp
    exact plains_get hp.2 (by simpa using h)

theorem Inv.enter {l : Loc} {args : List PV} {vals : List Value} (hpl : PV.plains args = true) (ha : RepFs P g w l args vals) {hp : List Ent} (hH : HeapInv P g w hp) (nt : Nat) :
    Inv P g w { tmps := vals.toArray ++ Array.replicate (nt - vals.toArray.size) undef, defers := [] } ⟨args ++ List.replicate (nt - args.length) .dead, hp⟩ := by
  obtain ⟨h1, h2⟩ := args_slots (k := 0) ha
  refine ⟨by simp [h1], ?_, hH⟩
  intro t p ht
  by_cases hlt : t < args.length
  · rw [List.getElem?_append_left hlt] at ht
    obtain ⟨v, hv, hr⟩ := h2 t p ht
    have hva : (Act.mk (vals.toArray ++ Array.replicate (nt - vals.toArray.size) undef) []).va t = v := by
      simp only [Act.va, Array.getD_eq_getD_getElem?]
      rw [Array.getElem?_append_left (by simpa [← h1] using hlt)]
      simp [hv]
    rw [hva]
    exact RepS.of_plain (plains_get hpl ht) hr
  · rw [List.getElem?_append_right (by omega)] at ht
    obtain ⟨_, rfl⟩ := List.mem_replicate.1 (List.mem_of_getElem? ht)
    exact RepS.dead'

def handOk (P : Program) (pf : Nat → Bool) (h : RHand) : Bool :=
  match P.funcs[h.fn]? with
  | some fn => fn.ntmps == h.nt && (fn.name != "runtime.NumGoroutine") && fn.results.toList.isEmpty &&
    (match fn.body with
    | some (.seq (.region _ ops false) y) => (match ops.toList with
      | [o] => o.guard.isNone && o.dst == some h.dst && (match o.op with | .call c => (match c.callee with | .builtin .recover => c.args.toList.isEmpty | _ => false) | _ => false)
      | _ => false) && codeOk P pf y h.body
    | _ => false)
  | none => false

def HandPost (P : Program) (g : G) (w : World) (hp' : List Ent) (m : FrameMode) (e : Ending) (u : FrameMode) (w' : World) : Prop :=
  ∃ r, e = .returned r ∧ u = m ∧ ∃ g', Chg Mine g w g' w' ∧ HeapInv P g' w' hp'

theorem hand_sound {cf : CF} (hcf : CFSound P cf) {pf : Nat → Bool} (hdk : CFNice pf cf) (n : Nat) {h : RHand} (hk : handOk P pf h = true) {vs : List PV} {rv : D} {hp hp' : List Ent} (he : evH cf n h vs rv hp = some hp')
    (hpl : PV.plains vs = true) {vals : List Value} (ha : RepFs P g w (.ret 0) vs vals) (hH : HeapInv P g w hp) {v : Value} (hv : DRep g.stab w rv v) {u m : FrameMode}
    (hm : (u = .returning ∧ m = .returning ∧ v = .nilIface) ∨ (u = .panicking [{ v, recovered := false }] ∧ m = .panicking [{ v, recovered := true }])) :
    CallsD P h.fn vals.toArray u w (HandPost P g w hp' m) := by
  unfold handOk at hk
  split at hk
  · rename_i fn hf
    simp only [Bool.and_eq_true, beq_iff_eq] at hk
    obtain ⟨⟨⟨hnt, _⟩, hres⟩, hbody⟩ := hk
    split at hbody
    · rename_i i0 ops y hc
      simp only [Bool.and_eq_true] at hbody
      obtain ⟨hop, hy⟩ := hbody
      split at hop
      · rename_i o hops
        simp only [Bool.and_eq_true, Option.isNone_iff_eq_none, beq_iff_eq] at hop
        obtain ⟨⟨hg, hd⟩, hcall⟩ := hop
        have hoa : ops = #[o] := by apply Array.toList_inj.1; rw [hops]
        subst hoa
        split at hcall
        · rename_i c hoc
          split at hcall
          · rename_i hcal
            have hargs : c.args = #[] := by
              apply Array.toList_inj.1
              cases hq : c.args.toList with
              | nil => rfl
              | cons _ _ => rw [hq] at hcall; simp at hcall
            refine callsD_of_wpS hf hc ?_
            intro c₀ cs hu
            rw [hnt]
            have hI := Inv.enter hpl ha hH h.nt
            have hrun : ∀ a' : Act, (execOp a'.eval o).run P w = .ok .recover w := by
              intro a'
              unfold execOp
              simp only [hoc, resolve, hcal, hargs, Sem.run_bind, Sem.run_pure, Result.andThen_ok, invoke, builtin]
            have hwant : ∀ z, Region.wanted o z = true := fun z => by simp [Region.wanted, hg]
            -- the code behind
            have rest : ∀ (cs' : List Frame) (u' : FrameMode), cs' = { c₀ with mode := u' } :: cs → u' = m → Code.wpS P y (bodyPostS P fn c₀ cs (HandPost P g w hp' m)) (({ tmps := vals.toArray ++ Array.replicate (h.nt - vals.toArray.size) undef, defers := [] } : Act).put o.dst v) cs' w := by
              intro cs' u' hcs hu'
              refine wpS_of_wp ?_
              unfold evH at he
              have hput : St.put (⟨vs ++ List.replicate (h.nt - vs.length) .dead, hp⟩ : St) o.dst (.d rv) = some ⟨(vs ++ List.replicate (h.nt - vs.length) PV.dead).set h.dst (.d rv), hp⟩ := by
                rw [hd]
                simp only [St.put]
                split
                · rename_i cs hq
                  exfalso
                  by_cases hlt : h.dst < vs.length
                  · rw [List.getD_eq_getElem?_getD, List.getElem?_append_left hlt] at hq
                    have hp1 := plains_get hpl (List.getElem?_eq_getElem hlt)
                    rw [List.getElem?_eq_getElem hlt] at hq
                    simp only [Option.getD_some] at hq
                    rw [hq] at hp1
                    simp [PV.plain] at hp1
                  · rw [List.getD_eq_getElem?_getD, List.getElem?_append_right (by omega), List.getElem?_replicate] at hq
                    split at hq <;> simp at hq
                · rfl
              have hI2 := hI.put (l := .ret 0) (v := .d rv) (u := v) hput rfl (by simp only [RepF]; exact hv)
              cases hev : evCode cf n h.body ⟨(vs ++ List.replicate (h.nt - vs.length) PV.dead).set h.dst (.d rv), hp⟩ with
              | none => rw [hev] at he; simp at he
              | some r =>
                obtain ⟨ex, s1⟩ := r
                rw [hev] at he
                have hnil : fn.results = #[] := by
                  apply Array.toList_inj.1
                  cases hq : fn.results.toList with
                  | nil => rfl
                  | cons _ _ => rw [hq] at hres; simp at hres
                have fin : s1.hp = hp' → ∀ (g1 : G) (w1 : World) (a1 : Act), Inv P g1 w1 a1 s1 → Chg Mine g w g1 w1 → a1.defers = (({ tmps := vals.toArray ++ Array.replicate (h.nt - vals.toArray.size) undef, defers := [] } : Act).put o.dst v).defers →
                    a1.defers = [] ∧ ∃ u', cs' = { c₀ with mode := u' } :: cs ∧ ∃ r, (Go.results fn a1.tmps).run P w1 = .ok r w1 ∧ HandPost P g w hp' m (.returned r) u' w1 := by
                  intro e1 g1 w1 a1 hI1 hc1 hd1
                  refine ⟨by rw [hd1, put_defers], u', hcs, .tuple #[], ?_, _, rfl, hu', g1, hc1, e1 ▸ hI1.heap⟩
                  unfold Go.results
                  rw [hnil]
                  simp
                refine code_sound hcf hdk n y h.body hy hev hI2 ?_
                cases ex with
                | norm =>
                  simp only [Option.some.injEq] at he
                  exact fun g1 w1 a1 hI1 hc1 hd1 => fin he g1 w1 a1 hI1 hc1 hd1
                | ret =>
                  simp only [Option.some.injEq] at he
                  exact fun g1 w1 a1 hI1 hc1 hd1 => fin he g1 w1 a1 hI1 hc1 hd1
                | exit i => simp at he
                | pan x => simp at he
            refine wpS_seq (wpS_region ?_)
            have hrg : List.range (#[o] : Array Oper).size = [0] := rfl
            rw [hrg]
            have e0 : (#[o] : Array Oper)[0]? = some o := rfl
            simp only [wpOpsS, e0, hwant, if_true, hrun]
            rcases hm with ⟨rfl, rfl, rfl⟩ | ⟨rfl, rfl⟩
            · have hrc : recoverD (c₀ :: cs) = none := by simp only [recoverD, hu]
              rw [hrc]
              simp only [Exit.thenS]
              refine rest _ .returning ?_ rfl
              have : ({ c₀ with mode := .returning } : Frame) = c₀ := by rw [← hu]
              rw [this]
            · have hrc : recoverD (c₀ :: cs) = some (v, { c₀ with mode := .panicking [{ v, recovered := true }] } :: cs) := by simp only [recoverD, hu]
              rw [hrc]
              simp only [Exit.thenS]
              exact rest _ _ rfl rfl
          · simp at hcall
        · simp at hcall
      · simp at hop
    · simp at hbody
  · simp at hk

def triOk (P : Program) (pf : Nat → Bool) (hf : Nat) : Code → RTri → Bool
  | .seq x y, .seq x' r => codeOk P pf x x' && triOk P pf hf y r
  | .seq (.region _ ops false) y, .dfr args post => (match ops.toList with
    | [o] => o.guard.isNone && o.dst.isNone && (match o.op with | .defer c => (match c.callee with | .value (.func f) => f == hf && valsOk c.args.toList args | _ => false) | _ => false)
    | _ => false) && codeOk P pf y post
  | _, _ => false

def TriPost (P : Program) (g : G) (w : World) (fn : Func) (R : Ending → World → Prop) (ex : Ex) (s' : St) : Prop :=
  match ex with
  | .norm => ∀ g' w' a', Inv P g' w' a' s' → Chg Mine g w g' w' → ∃ v, (Go.results fn a'.tmps).run P w' = .ok v w' ∧ R (.returned v) w'
  | .ret => ∀ g' w' a', Inv P g' w' a' s' → Chg Mine g w g' w' → ∃ v, (Go.results fn a'.tmps).run P w' = .ok v w' ∧ R (.returned v) w'
  | .pan x => ∀ g' w' a' u, DRep g'.stab w' x u → Inv P g' w' a' s' → Chg Mine g w g' w' → R (.panicked [{ v := u, recovered := false }]) w'
  | .exit _ => False

theorem TriPost.step {g' : G} {w' : World} {fn : Func} {R : Ending → World → Prop} {ex : Ex} (h : TriPost P g w fn R ex s') (hc : Chg Mine g w g' w') : TriPost P g' w' fn R ex s' := by
  cases ex with
  | norm => exact fun g2 w2 a2 hI hc2 => h g2 w2 a2 hI (hc.trans hc2)
  | ret => exact fun g2 w2 a2 hI hc2 => h g2 w2 a2 hI (hc.trans hc2)
  | pan x => exact fun g2 w2 a2 u hx hI hc2 => h g2 w2 a2 u hx hI (hc.trans hc2)
  | exit i => exact h

theorem ptr_chg {l : Loc} {g' : G} {w' : World} {M : Loc → Prop} (hc : Chg M g w g' w') : ∀ {vs : List PV} {vals : List Value}, vs.all PV.isPtr = true → RepFs P g w l vs vals → RepFs P g' w' l vs vals
  | [], [], _, _ => by simp only [RepFs]
  | p :: vs, v :: vals, hp, h => by
    simp only [List.all_cons, Bool.and_eq_true] at hp
    simp only [RepFs] at h ⊢
    refine ⟨?_, ptr_chg hc hp.2 h.2⟩
    cases p with
    | ptr id off =>
      have h1 := h.1
      simp only [RepF] at h1 ⊢
      exact ⟨Nat.lt_of_lt_of_le h1.1 hc.nb, by rw [hc.bb _ h1.1]; exact h1.2⟩
    | _ => simp [PV.isPtr] at hp
  | [], _ :: _, _, h => by simp only [RepFs] at h
  | _ :: _, [], _, h => by simp only [RepFs] at h
theorem ptr_plains : ∀ {vs : List PV}, vs.all PV.isPtr = true → PV.plains vs = true
  | [], _ => rfl
  | p :: vs, h => by
    simp only [List.all_cons, Bool.and_eq_true] at h
    simp only [PV.plains, Bool.and_eq_true]
    refine ⟨?_, ptr_plains h.2⟩
    cases p <;> first | rfl | simp [PV.isPtr] at h

theorem leave_sound {cf : CF} (hcf : CFSound P cf) {pf : Nat → Bool} (hdk : CFNice pf cf) (n : Nat) {h : RHand} (hk : handOk P pf h = true) {vs : List PV} {rv : D} {hp' : List Ent} (he : evH cf n h vs rv s.hp = some hp')
    (hpt : vs.all PV.isPtr = true) {vals : List Value} (ha : RepFs P g w (.ret 0) vs vals) (hI : Inv P g w a s) {v : Value} (hv : DRep g.stab w rv v) {u : FrameMode}
    (hm : (u = .returning ∧ v = .nilIface) ∨ u = .panicking [{ v, recovered := false }]) {fn : Func} {R : Ending → World → Prop}
    (hr : ∀ g' w', Inv P g' w' a { s with hp := hp' } → Chg Mine g w g' w' → ∃ r, (Go.results fn a.tmps).run P w' = .ok r w' ∧ R (.returned r) w') :
    Leaves P fn a.tmps R [{ target := .fn (.func h.fn) #[], args := vals.toArray }] u w := by
  have hent : entered P h.fn = true := by
    unfold handOk at hk
    unfold entered
    split at hk
    · rename_i fn hf
      rw [hf]
      simp only [Bool.and_eq_true] at hk ⊢
      obtain ⟨⟨⟨_, h2⟩, _⟩, h3⟩ := hk
      refine ⟨?_, h2⟩
      split at h3
      · rename_i hc; rw [hc]; rfl
      · simp at h3
    · simp at hk
  have hinv : (invoke (.fn (.func h.fn) #[]) vals.toArray).run P w = .ok (.enter h.fn vals.toArray) w := by
    simp only [invoke, Array.append_empty, run_callFunc hent]
  have hne : u ≠ .run := by rcases hm with ⟨rfl, _⟩ | rfl <;> simp
  have fin : ∀ m, (settle m = .returning) → ∀ e u' w', HandPost P (g.relab rc) w hp' m e u' w' → (match e with
      | .returned _ => Leaves P fn a.tmps R [] (settle u') w'
      | .panicked chain => Leaves P fn a.tmps R [] (raised u' chain) w'
      | .outgrown => R .outgrown w') := by
    rintro m hm2 e u' w' ⟨r, rfl, rfl, g', hc, hH⟩
    simp only
    rw [hm2]
    have hI2 : Inv P (g'.back fun _ => none) w' a { s with hp := hp' } := hI.put_call (dst := none) (v := .dead) (u := undef) (hc.back _) (hH.back _) rfl (fun d hd => by cases hd)
    exact hr _ w' hI2 ((hc.back _).mono onHeap_mine)
  have hvals : RepFs P (g.relab rc) w (.ret 0) vs vals := RepFs.move (fun _ _ => G.relab_stab.2) (Nat.le_refl _) (fun _ _ => rfl) (ptr_plains hpt) ha
  have hv' : DRep (g.relab rc).stab w rv v := hv.mono fun b i u hc hs => ⟨hc, G.relab_stab.2 hs⟩
  rcases hm with ⟨rfl, rfl⟩ | rfl
  · refine leaves_cons hne hinv ((hand_sound hcf hdk n hk he (ptr_plains hpt) hvals hI.heap.callee hv' (.inl ⟨rfl, rfl, rfl⟩)).mono fun e u' w' hp => ?_)
    have := fin _ rfl e u' w' hp
    cases e <;> exact this
  · refine leaves_cons hne hinv ((hand_sound hcf hdk n hk he (ptr_plains hpt) hvals hI.heap.callee hv' (.inr ⟨rfl, rfl⟩)).mono fun e u' w' hp => ?_)
    have := fin _ rfl e u' w' hp
    cases e <;> exact this

theorem tri_sound {cf : CF} (hcf : CFSound P cf) {pf : Nat → Bool} (hdk : CFNice pf cf) (n : Nat) {h : RHand} (hh : handOk P pf h = true) {fn : Func} {R : Ending → World → Prop} :
    ∀ (r : RTri) (c : Code), triOk P pf h.fn c r = true → ∀ {g : G} {w : World} {a : Act} {s s' : St} {ex : Ex}, evTri cf n h r s = some (ex, s') → Inv P g w a s → a.defers = [] → TriPost P g w fn R ex s' → c.wp P (bodyPostD P fn R) a w
  | .seq x' r, c, hk, g, w, a, s, s', ex, he, hI, hd, hp => by
    cases c with
    | seq x y =>
      simp only [triOk, Bool.and_eq_true] at hk
      simp only [evTri] at he
      cases hev : evCode cf n x' s with
      | none => rw [hev] at he; simp at he
      | some q =>
        obtain ⟨ex1, s1⟩ := q
        rw [hev] at he
        refine wp_seq (code_sound hcf hdk n x x' hk.1 hev hI ?_)
        cases ex1 with
        | norm =>
          simp only at he
          exact fun g1 w1 a1 hI1 hc hd1 => tri_sound hcf hdk n hh r y hk.2 he hI1 (hd1.trans hd) (hp.step hc)
        | exit i =>
          simp only [Option.some.injEq, Prod.mk.injEq] at he
          obtain ⟨rfl, rfl⟩ := he
          exact hp.elim
        | ret =>
          simp only [Option.some.injEq, Prod.mk.injEq] at he
          obtain ⟨rfl, rfl⟩ := he
          intro g1 w1 a1 hI1 hc hd1
          show Leaves P fn a1.tmps R a1.defers .returning w1
          rw [hd1, hd]
          exact hp g1 w1 a1 hI1 hc
        | pan x =>
          simp only [Option.some.injEq, Prod.mk.injEq] at he
          obtain ⟨rfl, rfl⟩ := he
          intro g1 w1 a1 u hx hI1 hc hd1
          show Leaves P fn a1.tmps R a1.defers (.panicking _) w1
          rw [hd1, hd]
          exact hp g1 w1 a1 u hx hI1 hc
    | _ => simp [triOk] at hk
  | .dfr args post, c, hk, g, w, a, s, s', ex, he, hI, hd, hp => by
    unfold triOk at hk
    split at hk
    · rename_i heq; cases heq
    · rename_i i0 ops y args2 post2 heq
      cases heq
      simp only [Bool.and_eq_true] at hk
      obtain ⟨hop, hy⟩ := hk
      split at hop
      · rename_i o hops
        simp only [Bool.and_eq_true, Option.isNone_iff_eq_none] at hop
        obtain ⟨⟨hg, hdst⟩, hdf⟩ := hop
        have hoa : ops = #[o] := by apply Array.toList_inj.1; rw [hops]
        subst hoa
        split at hdf
        · rename_i c hoc
          split at hdf
          · rename_i f hcal
            simp only [Bool.and_eq_true, beq_iff_eq] at hdf
            obtain ⟨rfl, hva⟩ := hdf
            simp only [evTri] at he
            split at he
            · rename_i vs hvs
              split at he
              · rename_i hpt
                obtain ⟨_, a2⟩ := vals_cp hI hva hvs
                have hargs := a2 (.ret 0)
                refine wp_seq (wp_region ?_)
                have hrg : List.range (#[o] : Array Oper).size = [0] := rfl
                rw [hrg]
                have e0 : (#[o] : Array Oper)[0]? = some o := rfl
                have hwant : ∀ z, Region.wanted o z = true := fun z => by simp [Region.wanted, hg]
                simp only [wpOps, e0, hwant, if_true]
                refine .inl ?_
                have hrun : (execOp a.eval o).run P w = .ok (.defer { target := .fn (.func h.fn) #[], args := (c.args.toList.map a.eval).toArray }) w := by
                  have ef : a.eval (.func h.fn) = .func (.func h.fn) #[] #[] := rfl
                  unfold execOp
                  simp only [hoc, resolve, hcal, ef, Deferred.ofValue, Sem.run_bind, Sem.run_pure, Result.andThen_ok]
                  congr 3
                  apply Array.ext'
                  simp
                unfold Oper.wp
                rw [hrun, Oper.upon_defer, hdst]
                have hI1 : Inv P g w ({ a with defers := { target := .fn (.func h.fn) #[], args := (c.args.toList.map a.eval).toArray } :: a.defers } : Act) s := ⟨hI.size, hI.slot, hI.heap⟩
                show y.wp P (bodyPostD P fn R) ({ a with defers := { target := .fn (.func h.fn) #[], args := (c.args.toList.map a.eval).toArray } :: a.defers } : Act) w
                cases hev : evCode cf n post s with
                | none => rw [hev] at he; simp [triFin] at he
                | some q =>
                  obtain ⟨ex1, s1⟩ := q
                  rw [hev] at he
                  refine code_sound hcf hdk n y post hy hev hI1 ?_
                  have fin : ∀ hp', ((.ret : Ex), ({ s1 with hp := hp' } : St)) = (ex, s') → ∀ (g1 : G) (w1 : World) (a1 : Act), Chg Mine g w g1 w1 → ∀ g' w', Inv P g' w' a1 { s1 with hp := hp' } → Chg Mine g1 w1 g' w' → ∃ r, (Go.results fn a1.tmps).run P w' = .ok r w' ∧ R (.returned r) w' := by
                    intro hp' he2 g1 w1 a1 hc1 g' w' hI2 hc2
                    simp only [Prod.mk.injEq] at he2
                    obtain ⟨rfl, rfl⟩ := he2
                    exact hp g' w' a1 hI2 (hc1.trans hc2)
                  cases ex1 with
                  | norm =>
                    simp only [triFin, Option.map_eq_some_iff] at he
                    obtain ⟨hp', hH, he⟩ := he
                    intro g1 w1 a1 hI2 hc1 hd1
                    show Leaves P fn a1.tmps R a1.defers .returning w1
                    rw [hd1, hd]
                    exact leave_sound hcf hdk n hh hH hpt (ptr_chg hc1 hpt hargs) hI2 (v := .nilIface) .nili (.inl ⟨rfl, rfl⟩) (fin hp' he g1 w1 a1 hc1)
                  | ret =>
                    simp only [triFin, Option.map_eq_some_iff] at he
                    obtain ⟨hp', hH, he⟩ := he
                    intro g1 w1 a1 hI2 hc1 hd1
                    show Leaves P fn a1.tmps R a1.defers .returning w1
                    rw [hd1, hd]
                    exact leave_sound hcf hdk n hh hH hpt (ptr_chg hc1 hpt hargs) hI2 (v := .nilIface) .nili (.inl ⟨rfl, rfl⟩) (fin hp' he g1 w1 a1 hc1)
                  | exit i => simp [triFin] at he
                  | pan x =>
                    simp only [triFin, Option.map_eq_some_iff] at he
                    obtain ⟨hp', hH, he⟩ := he
                    intro g1 w1 a1 u hx hI2 hc1 hd1
                    show Leaves P fn a1.tmps R a1.defers (.panicking _) w1
                    rw [hd1, hd]
                    exact leave_sound hcf hdk n hh hH hpt (ptr_chg hc1 hpt hargs) hI2 hx (.inr rfl) (fin hp' he g1 w1 a1 hc1)
              · simp at he
            · simp at he
          · simp at hdf
        · simp at hdf
      · simp at hop
    · simp at hk
end
end Go.Pe

namespace Go.Pe
section
variable {P : Program} {g : G} {w : World} {a : Act} {s s' : St} {S : Nat → Nat → Prop}

def RV.tmp : RV → Nat
  | .t n => n
  | .cell n _ => n

def retLoc (ns : List Nat) (single : Bool) : Loc → Loc
  | .tm n j => match ns.idxOf? n with
    | some i => .ret (if single then 0 else i + 1)
    | none => .tm n j
  | l => l

def resOk (P : Program) : List ResultVar → List RV → Bool
  | [], [] => true
  | .tmp t :: r, .t t' :: r' => t == t' && resOk P r r'
  | .cell p ty :: r, .cell t agg :: r' => p == t && aggOk P ty agg && resOk P r r'
  | _, _ => false

def resVal (tmps : Array Value) : ResultVar → Sem Value
  | .tmp t => pure (tmps.getD t undef)
  | .cell a t => do loadVar t (← asAddr (tmps.getD a undef))

theorem results_eq (fn : Func) (tmps : Array Value) : Go.results fn tmps = (do let vs ← fn.results.mapM (resVal tmps); pure (if h : vs.size = 1 then vs[0] else .tuple vs)) := by
  unfold Go.results
  congr 1

theorem res_one (h : Inv P g w a s) {r : ResultVar} {r' : RV} (hk : resOk P [r] [r'] = true) {p : PV} (hp : resOf s r' = some p) :
    ∃ u j, (resVal a.tmps r).run P w = .ok u w ∧ ((p.plain = true ∧ RepF P g w (.tm r'.tmp j) p u) ∨ ∃ e xs, p = .own e xs ∧ RepF P g w (.tm r'.tmp j) (.own e xs) u) := by
  cases r with
  | tmp t =>
    cases r' with
    | t t' =>
      simp only [resOk, Bool.and_true, beq_iff_eq] at hk
      subst hk
      refine ⟨a.va t, 0, by simp [resVal, Act.va], ?_⟩
      simp only [resOf] at hp
      split at hp
      · rename_i e xs he
        simp only [Option.some.injEq] at hp
        subst hp
        obtain ⟨_, h2⟩ := h.slot' he (by simp)
        exact .inr ⟨e, xs, rfl, h2⟩
      · rename_i hne
        have hnd : s.tm.getD t .dead ≠ .dead := by intro e; rw [e] at hp; simp [PV.cp] at hp
        obtain ⟨_, h2⟩ := h.slot' (t := t) rfl hnd
        exact .inl (h2.cp hp)
    | cell _ _ => simp [resOk] at hk
  | cell c ty =>
    cases r' with
    | t _ => simp [resOk] at hk
    | cell t agg =>
      simp only [resOk, Bool.and_true, Bool.and_eq_true, beq_iff_eq] at hk
      obtain ⟨rfl, hagg⟩ := hk
      simp only [resOf] at hp
      split at hp
      · rename_i cs hcs
        obtain ⟨h1, _⟩ := h.slot' hcs (by simp)
        obtain ⟨b, cc, e, e1, e2, e3, e4, e5⟩ := box_slot h h1
        have hva : a.tmps.getD c undef = .pointer (some ⟨b, 0, none⟩) := e1
        have hrun : ∀ v, (loadVar ty ⟨b, 0, none⟩).run P w = .ok v w → (resVal a.tmps (.cell c ty)).run P w = .ok v w := by
          intro v hv
          unfold resVal
          simp only [hva, asAddr, Sem.run_bind, Sem.run_pure, Result.andThen_ok, hv]
        split at hp
        · rename_i n
          obtain ⟨val, q1, q2, q3⟩ := load_cells (P := P) e4 e5 hp hagg
          exact ⟨val, 0, hrun val q1, .inl ⟨q2, q3 _⟩⟩
        · split at hp
          · obtain ⟨u, _, q1, q2⟩ := load_cell (P := P) (off := 0) e4 e5 rfl hagg
            refine ⟨u, 0 + 1, hrun u q1, ?_⟩
            split at hp
            · simp only [Option.some.injEq] at hp
              subst hp
              exact .inr ⟨_, _, rfl, q2⟩
            · exact .inl (q2.cp hp)
          · simp at hp
      · rename_i id hid
        split at hp
        · rename_i cs hcs
          obtain ⟨_, h2⟩ := h.slot' hid (by simp)
          have k3 : RepF P g w (.tm c 0) (.ptr id 0) (a.va c) := h2
          simp only [RepF] at k3
          have hva : a.tmps.getD c undef = .pointer (some ⟨g.bb id, 0, none⟩) := k3.2
          obtain ⟨cc, e, _, _, e4, e5⟩ := h.heap.ent id _ hcs
          have hrun : ∀ v, (loadVar ty ⟨g.bb id, 0, none⟩).run P w = .ok v w → (resVal a.tmps (.cell c ty)).run P w = .ok v w := by
            intro v hv
            unfold resVal
            simp only [hva, asAddr, Sem.run_bind, Sem.run_pure, Result.andThen_ok, hv]
          split at hp
          · rename_i n
            obtain ⟨val, q1, q2, q3⟩ := load_cells (P := P) e4 e5 hp hagg
            exact ⟨val, 0, hrun val q1, .inl ⟨q2, q3 _⟩⟩
          · split at hp
            · obtain ⟨u, _, q1, q2⟩ := load_cell (P := P) (off := 0) e4 e5 rfl hagg
              obtain ⟨m1, m2⟩ := q2.cp hp
              exact ⟨u, 0, hrun u q1, .inl ⟨m1, RepF.move (fun _ _ h => h) (Nat.le_refl _) (fun _ _ => rfl) m1 m2⟩⟩
            · simp at hp
        · simp at hp
      · simp at hp

theorem res_all (h : Inv P g w a s) : ∀ {rs : List ResultVar} {rs' : List RV}, resOk P rs rs' = true → ∀ {ps : List PV}, optAll (rs'.map (resOf s)) = some ps →
    ∃ us : List Value, (rs.mapM (resVal a.tmps)).run P w = .ok us w ∧ us.length = ps.length ∧ rs.length = rs'.length ∧ ps.length = rs'.length ∧
      ∀ (i : Nat) (p : PV) (u : Value), ps[i]? = some p → us[i]? = some u → ∃ r' j, rs'[i]? = some r' ∧ ((p.plain = true ∧ RepF P g w (.tm r'.tmp j) p u) ∨ ∃ e xs, p = .own e xs ∧ RepF P g w (.tm r'.tmp j) (.own e xs) u)
  | [], [], _, ps, hp => by
    simp only [List.map_nil, optAll, Option.some.injEq] at hp
    subst hp
    exact ⟨[], by simp, rfl, rfl, rfl, by simp⟩
  | r :: rs, r' :: rs', hk, ps, hp => by
    have hk1 : resOk P [r] [r'] = true ∧ resOk P rs rs' = true := by
      cases r <;> cases r' <;> simp [resOk] at hk ⊢
      · exact hk
      · exact ⟨hk.1, hk.2⟩
    simp only [List.map_cons] at hp
    cases hq : resOf s r' with
    | none => rw [hq] at hp; simp [optAll] at hp
    | some p =>
      rw [hq] at hp
      simp only [optAll, Option.map_eq_some_iff] at hp
      obtain ⟨ps', hps, rfl⟩ := hp
      obtain ⟨u, j, a1, a2⟩ := res_one h hk1.1 hq
      obtain ⟨us, b1, b2, b3, b4, b5⟩ := res_all h hk1.2 hps
      refine ⟨u :: us, ?_, by simp [b2], by simp [b3], by simp [b4], ?_⟩
      · simp only [List.mapM_cons, Sem.run_bind, a1, b1, Result.andThen_ok, Sem.run_pure]
      · intro i q v hi hv
        cases i with
        | zero =>
          simp at hi hv
          subst hi
          subst hv
          exact ⟨r', j, rfl, a2⟩
        | succ i => exact b5 i q v (by simpa using hi) (by simpa using hv)
  | [], _ :: _, hk, _, _ => by simp [resOk] at hk
  | _ :: _, [], hk, _, _ => by simp [resOk] at hk

theorem HeapInv.relab_tm {hp : List Ent} (h : HeapInv P g w hp) {f : Loc → Loc} (hf : ∀ l, OnHeap l → f l = l) : HeapInv P (g.relab f) w hp :=
  ⟨h.nb, fun id e he => by
    have := h.ent id e he
    cases e with
    | box cs =>
      obtain ⟨c, e, h1, h2, h3, h4, h5⟩ := this
      exact ⟨c, e, by simp [G.relab, h1, hf _ (.inl ⟨_, rfl⟩)], h2, h3, h4, fun j p hj => let ⟨u, k1, k2, k3⟩ := h5 j p hj; ⟨u, k1, k2, k3.reg (fun _ _ => G.relab_stab.2) (Nat.le_refl _) (fun _ _ => rfl) fun b hb => ⟨by simp [G.relab, hb, hf _ (.inr ⟨_, _, rfl⟩)], rfl⟩⟩⟩
    | row _ _ => exact this
    | gone => trivial, h.lies⟩

theorem retLoc_heap {ns : List Nat} {single : Bool} : ∀ l, OnHeap l → retLoc ns single l = l := fun l h => by
  rcases h with ⟨i, rfl⟩ | ⟨i, j, rfl⟩ <;> rfl

theorem retLoc_mine {ns : List Nat} {single : Bool} : ∀ l, ¬ Mine l → retLoc ns single l = l := fun l h => by
  cases l with
  | tm n j => exact absurd (mine_tm n j) h
  | _ => rfl

theorem idxOf_nodup : ∀ {ns : List Nat} {i n : Nat}, ns.Nodup → ns[i]? = some n → ns.idxOf? n = some i
  | [], i, n, _, h => by simp at h
  | m :: ns, 0, n, _, h => by
    simp at h
    subst h
    simp [List.idxOf?_cons]
  | m :: ns, i + 1, n, hd, h => by
    simp only [List.getElem?_cons_succ] at h
    have hne : m ≠ n := by
      intro e
      subst e
      exact (List.nodup_cons.1 hd).1 (List.mem_of_getElem? h)
    have ih := idxOf_nodup (List.nodup_cons.1 hd).2 h
    simp [List.idxOf?_cons, hne, ih]

theorem results_ok (h : Inv P g w a s) {fn : Func} {rs' : List RV} (hk : resOk P fn.results.toList rs' = true) (hnd : (rs'.map RV.tmp).Nodup) {v : PV} (hv : Pe.results s rs' = some v) :
    ∃ u g', (Go.results fn a.tmps).run P w = .ok u w ∧ Chg Mine g w g' w ∧ RepR P g' w v u ∧ HeapInv P g' w s.hp := by
  have fin : ∀ (single : Bool) (ps : List PV) (us : List Value), (∀ (i : Nat) (p : PV) (u : Value), ps[i]? = some p → us[i]? = some u → ∃ r' j, rs'[i]? = some r' ∧ ((p.plain = true ∧ RepF P g w (.tm r'.tmp j) p u) ∨ ∃ e xs, p = .own e xs ∧ RepF P g w (.tm r'.tmp j) (.own e xs) u)) →
      ∀ (i : Nat) (p : PV) (u : Value), ps[i]? = some p → us[i]? = some u → RepF P (g.relab (retLoc (rs'.map RV.tmp) single)) w (.ret (if single then 0 else i + 1)) p u := by
    intro single ps us hrep i p u hi hu
    obtain ⟨r', j, hr', hc⟩ := hrep i p u hi hu
    have hidx : (rs'.map RV.tmp).idxOf? r'.tmp = some i := idxOf_nodup hnd (by rw [List.getElem?_map, hr']; rfl)
    have hloc : retLoc (rs'.map RV.tmp) single (.tm r'.tmp j) = .ret (if single then 0 else i + 1) := by
      simp only [retLoc, hidx]
    rcases hc with ⟨hpl, hc⟩ | ⟨e, xs, rfl, hc⟩
    · exact RepF.move (fun _ _ => G.relab_stab.2) (Nat.le_refl _) (fun _ _ => rfl) hpl hc
    · rw [← hloc]
      exact hc.relab_own
  have many : ∀ ps, optAll (rs'.map (resOf s)) = some ps → rs'.length ≠ 1 → v = .tup ps → ∃ u g', (Go.results fn a.tmps).run P w = .ok u w ∧ Chg Mine g w g' w ∧ RepR P g' w v u ∧ HeapInv P g' w s.hp := by
    intro ps hps hlen hvp
    obtain ⟨us, b1, b2, b3, b4, b5⟩ := res_all h hk hps
    subst hvp
    refine ⟨.tuple us.toArray, g.relab (retLoc (rs'.map RV.tmp) false), ?_, Chg.relab _ retLoc_mine, ⟨us, rfl, b2, ?_⟩, h.heap.relab_tm retLoc_heap⟩
    · rw [results_eq, Array.mapM_eq_mapM_toList]
      simp only [Sem.run_bind, Sem.run_map, b1, Result.andThen_ok, Sem.run_pure]
      rw [dif_neg (by simp; omega)]
    · intro j p u hj hu
      have := fin false ps us b5 j p u hj hu
      simpa using this
  unfold Pe.results at hv
  split at hv
  · rename_i r
    have hps : optAll ([r].map (resOf s)) = some [v] := by simp [optAll, hv]
    obtain ⟨us, b1, b2, b3, b4, b5⟩ := res_all h hk hps
    obtain ⟨u, rfl⟩ : ∃ u, us = [u] := by
      cases us with
      | nil => simp at b2
      | cons u us => cases us with | nil => exact ⟨u, rfl⟩ | cons _ _ => simp at b2
    refine ⟨u, g.relab (retLoc ([r].map RV.tmp) true), ?_, Chg.relab _ retLoc_mine, ?_, h.heap.relab_tm retLoc_heap⟩
    · rw [results_eq, Array.mapM_eq_mapM_toList]
      simp only [Sem.run_bind, Sem.run_map, b1, Result.andThen_ok, Sem.run_pure]
      simp
    · have := fin true [v] [u] b5 0 v u rfl rfl
      simp only [if_true] at this
      unfold RepR
      split
      · rename_i ps
        simp only [RepF] at this
      · exact this
  · rename_i hne
    rw [Option.map_eq_some_iff] at hv
    obtain ⟨ps, hps, rfl⟩ := hv
    refine many ps hps ?_ rfl
    intro hl
    cases rs' with
    | nil => simp at hl
    | cons r rs' => cases rs' with | nil => exact hne r rfl | cons _ _ => simp at hl

def fnOk (P : Program) (pf : Nat → Bool) (f : Nat) (rf : RFunc) : Bool :=
  match P.funcs[f]? with
  | some fn => fn.ntmps == rf.nt && (fn.name != "runtime.NumGoroutine") && (match fn.body with | some c => codeOk P pf c rf.body | none => false) && resOk P fn.results.toList rf.res && decide (rf.res.map RV.tmp).Nodup
  | none => false

def fnOkT (P : Program) (pf : Nat → Bool) (f : Nat) (rf : RFunc) (r : RTri) (h : RHand) : Bool :=
  match P.funcs[f]? with
  | some fn => fn.ntmps == rf.nt && (fn.name != "runtime.NumGoroutine") && (match fn.body with | some c => triOk P pf h.fn c r | none => false) && resOk P fn.results.toList rf.res && decide (rf.res.map RV.tmp).Nodup && handOk P pf h
  | none => false

structure PrimSound (P : Program) (f : Nat) (p : List PV → Option PV) : Prop where
  ent : entered P f = true
  calls : ∀ args v, p args = some v → v.flat = true → PV.plains args = true → ∀ (g : G) (w : World) (vals : List Value) (l : Loc), RepFs P g w l args vals →
    Calls P f vals.toArray w fun e w' => ∃ u g', e = .returned u ∧ Chg (fun _ => False) g w g' w' ∧ g'.nb = g.nb ∧ RepR P g' w' v u

structure MkSound (P : Program) (f : Nat) (p : List PV → Option (List D)) : Prop where
  ent : entered P f = true
  calls : ∀ args ys, p args = some ys → PV.plains args = true → ∀ (g : G) (w : World) (vals : List Value) (l : Loc) (hp : List Ent), RepFs P g w l args vals → HeapInv P g w hp →
    Calls P f vals.toArray w (CallPost P g w (.ret (.rowh hp.length 0 ys.length) (hp ++ [rowEnt ys])))

structure HpSound (P : Program) (f : Nat) (p : List PV → List Ent → Option (PV × List Ent)) : Prop where
  ent : entered P f = true
  calls : ∀ args hp v hp', p args hp = some (v, hp') → v.flat = true → PV.plains args = true → ∀ (g : G) (w : World) (vals : List Value) (l : Loc), RepFs P g w l args vals → HeapInv P g w hp →
    Calls P f vals.toArray w (CallPost P g w (.ret v hp'))

def TabOk (P : Program) (pf : Nat → Bool) (tab : Nat → Option FnD) : Prop :=
  ∀ f d, tab f = some d → match d with
    | .code rf => fnOk P pf f rf = true
    | .prim p => PrimSound P f p
    | .mk p => MkSound P f p
    | .hp p => HpSound P f p
    | .tri rf r h => fnOkT P pf f rf r h = true

def G.bare (g : G) : G := { κ := fun b => (g.κ b).map .oth, tip := g.tip, bb := g.bb, nb := 0 }
def G.dress (g' g : G) : G := { κ := fun b => match g'.κ b with | some (.oth l) => some l | x => x, tip := g'.tip, bb := g.bb, nb := g.nb }

theorem bare_stab {b i : Nat} : g.bare.stab b i ↔ g.stab b i := by simp [G.stab, G.bare]
theorem dress_stab {g' : G} {b i : Nat} (h : g'.stab b i) : (g'.dress g).stab b i := by
  rcases h with h | h
  · exact .inl (by simp [G.dress, h])
  · exact .inr h

theorem Chg.dress {g' : G} {w' : World} (h : Chg Mine g.bare w g' w') : Chg (fun _ => False) g w (g'.dress g) w' where
  os := h.os
  tape := h.tape
  output := h.output
  size := h.size
  stab := fun b i u hc hs => let ⟨k1, k2⟩ := h.stab b i u hc (bare_stab.2 hs); ⟨k1, dress_stab k2⟩
  own := fun b l hlt hl _ => by
    have h1 : g.bare.κ b = some (.oth l) := by simp [G.bare, hl]
    obtain ⟨k1, k2, k3⟩ := h.own b _ hlt h1 (fun hm => hm l rfl)
    exact ⟨by simp [G.dress, k1], k2, k3⟩
  free := fun b hlt hl => by
    obtain ⟨k1, k2⟩ := h.free b hlt (by simp [G.bare, hl])
    exact ⟨by simp [G.dress, k1], k2⟩
  nb := Nat.le_refl _
  bb := fun _ _ => rfl

mutual
theorem RepF.bare {l : Loc} : ∀ {p : PV} {v : Value}, p.plain = true → p.hfree = true → RepF P g w l p v → RepF P g.bare w l p v
  | .d x, v, _, _, h => by
    simp only [RepF] at h ⊢
    exact h.mono fun b i u hc hs' => ⟨hc, bare_stab.2 hs'⟩
  | .own e xs, v, hp, _, h => by simp [PV.plain] at hp
  | .full xs, v, _, _, h => by
    simp only [RepF] at h ⊢
    obtain ⟨a, h1, h2⟩ := h
    exact ⟨a, h1, h2.mono fun b i u hc hs' => ⟨hc, bare_stab.2 hs'⟩⟩
  | .nilsl, v, _, _, h => by simp only [RepF] at h ⊢; exact h
  | .eptr x off, v, _, _, h => by
    simp only [RepF] at h ⊢
    obtain ⟨b, o, h1, h2, h3⟩ := h
    refine ⟨b, o, h1, h2, fun j c hj => ?_⟩
    obtain ⟨u, h4, h5, h6⟩ := h3 j c hj
    exact ⟨u, h4, bare_stab.2 h5, h6.mono fun b i u hc hs' => ⟨hc, bare_stab.2 hs'⟩⟩
  | .ptr id off, v, _, hf, h => by simp [PV.hfree] at hf
  | .fn f caps, v, hp, hf, h => by
    simp only [RepF] at h ⊢
    obtain ⟨h0, vs, h1, h2⟩ := h
    exact ⟨h0, vs, h1, RepFs.bare h0 (by simpa [PV.hfree] using hf) h2⟩
  | .gone, v, _, _, h => by simp only [RepF]
  | .und, v, _, _, h => by simp only [RepF] at h ⊢; exact h
  | .dead, v, _, _, h => by simp only [RepF]
  | .bnil _, v, _, _, h => by simp only [RepF] at h ⊢; exact h
  | .ibox _, v, _, _, h => by simp only [RepF] at h
  | .ref _ _, v, _, _, h => by simp only [RepF] at h
  | .rowh id lo len, v, _, hf, h => by simp [PV.hfree] at hf
  | .rptr _ _ _, v, _, _, h => by simp only [RepF] at h
  | .tup _, v, _, _, h => by simp only [RepF] at h
theorem RepFs.bare {l : Loc} : ∀ {ps : List PV} {vs : List Value}, PV.plains ps = true → PV.hfrees ps = true → RepFs P g w l ps vs → RepFs P g.bare w l ps vs
  | [], [], _, _, _ => by simp only [RepFs]
  | p :: ps, v :: vs, hp, hf, h => by
    simp only [RepFs] at h ⊢
    simp only [PV.plains, Bool.and_eq_true] at hp
    simp only [PV.hfrees, Bool.and_eq_true] at hf
    exact ⟨RepF.bare hp.1 hf.1 h.1, RepFs.bare hp.2 hf.2 h.2⟩
  | [], _ :: _, _, _, h => by simp only [RepFs] at h
  | _ :: _, [], _, _, h => by simp only [RepFs] at h
end

def PV.flat1 : PV → Bool
  | .d _ | .own .. | .full _ | .nilsl => true
  | _ => false

theorem RepF.dress {g' : G} {l : Loc} (hl : ∀ l', l ≠ .oth l') {p : PV} {v : Value} (hf : p.flat1 = true) (h : RepF P g' w l p v) : RepF P (g'.dress g) w l p v := by
  cases p with
  | d x => simp only [RepF] at h ⊢; exact h.mono fun b i u hc hs' => ⟨hc, dress_stab hs'⟩
  | own e xs =>
    simp only [RepF] at h ⊢
    obtain ⟨us, h1, h2, h3⟩ := h
    refine ⟨us, h1, h2.mono fun b i u hc hs' => ⟨hc, dress_stab hs'⟩, fun b hb => ⟨?_, (h3 b hb).2⟩⟩
    have := (h3 b hb).1
    simp only [G.dress, this]
    cases l <;> first | rfl | exact absurd rfl (hl _)
  | full xs =>
    simp only [RepF] at h ⊢
    obtain ⟨a, h1, h2⟩ := h
    exact ⟨a, h1, h2.mono fun b i u hc hs' => ⟨hc, dress_stab hs'⟩⟩
  | nilsl => simp only [RepF] at h ⊢; exact h
  | _ => simp [PV.flat1] at hf

theorem RepR.dress {g' : G} {v : PV} {u : Value} (hf : v.flat = true) (h : RepR P g' w v u) : RepR P (g'.dress g) w v u := by
  cases v with
  | tup ps =>
    obtain ⟨us, h1, h2, h3⟩ := h
    refine ⟨us, h1, h2, fun j p x hj hx => (h3 j p x hj hx).dress (fun _ e => by cases e) ?_⟩
    simp only [PV.flat, List.all_eq_true] at hf
    have := hf p (List.mem_of_getElem? hj)
    cases p <;> first | rfl | simp at this
  | d x => exact RepF.dress (l := .ret 0) (fun _ e => by cases e) rfl h
  | own e xs => exact RepF.dress (l := .ret 0) (fun _ e => by cases e) rfl h
  | full xs => exact RepF.dress (l := .ret 0) (fun _ e => by cases e) rfl h
  | nilsl => exact RepF.dress (l := .ret 0) (fun _ e => by cases e) rfl h
  | _ => simp [PV.flat] at hf

theorem resOf_ib {v : PV} {r : RV} (h : resOf s r = some v) : isIb v = false := by
  unfold resOf at h
  repeat' split at h
  all_goals first | (simp at h; done) | exact cp_ib h | exact cellsAgg_ib h | (simp only [Option.some.injEq] at h; subst h; rfl)

theorem results_ib {v : PV} {rs : List RV} (h : Pe.results s rs = some v) : isIb v = false := by
  unfold Pe.results at h
  split at h
  · exact resOf_ib h
  · obtain ⟨_, _, rfl⟩ := Option.map_eq_some_iff.1 h; rfl

theorem flat_ib {v : PV} (h : v.flat = true) : isIb v = false := by
  cases v <;> first | rfl | (simp [PV.flat] at h)

def PfOk (pf : Nat → Bool) (tab : Nat → Option FnD) : Prop := (∀ f rf, pf f = true → tab f = some (.code rf) → rf.pure = true) ∧ (∀ f p, pf f = true → tab f ≠ some (.mk p)) ∧ (∀ f p, pf f = true → tab f ≠ some (.hp p)) ∧ ∀ f rf t h, pf f = true → tab f = some (.tri rf t h) → rf.pure = true

theorem fnEnd_ret {rf : RFunc} {hp hp' : List Ent} {r : Option (Ex × St)} {v : PV} (h : fnEnd rf hp r = some (.ret v hp')) : isIb v = false ∧ (rf.pure = true → hp' = hp ∧ ∀ hq, fnEnd rf hq r = some (.ret v hq)) := by
  unfold fnEnd at h
  split at h
  · rename_i s
    split at h
    · rename_i w hw
      split at h
      · rename_i hpu
        split at h
        · rename_i hfl
          simp only [Option.some.injEq, Out.ret.injEq] at h
          obtain ⟨rfl, rfl⟩ := h
          exact ⟨results_ib hw, fun _ => ⟨rfl, fun hq => by simp only [fnEnd, hw, hpu, if_true, hfl]⟩⟩
        · simp at h
      · rename_i hpu
        simp only [Option.some.injEq, Out.ret.injEq] at h
        obtain ⟨rfl, rfl⟩ := h
        exact ⟨results_ib hw, fun e => absurd e hpu⟩
    · simp at h
  · rename_i s
    split at h
    · rename_i w hw
      split at h
      · rename_i hpu
        split at h
        · rename_i hfl
          simp only [Option.some.injEq, Out.ret.injEq] at h
          obtain ⟨rfl, rfl⟩ := h
          exact ⟨results_ib hw, fun _ => ⟨rfl, fun hq => by simp only [fnEnd, hw, hpu, if_true, hfl]⟩⟩
        · simp at h
      · rename_i hpu
        simp only [Option.some.injEq, Out.ret.injEq] at h
        obtain ⟨rfl, rfl⟩ := h
        exact ⟨results_ib hw, fun e => absurd e hpu⟩
    · simp at h
  · simp at h
  · simp at h

theorem fnEnd_pan {rf : RFunc} {hp hp' : List Ent} {r : Option (Ex × St)} {v : D} (h : fnEnd rf hp r = some (.pan v hp')) (hp0 : rf.pure = true) : hp' = hp ∧ ∀ hq, fnEnd rf hq r = some (.pan v hq) := by
  unfold fnEnd at h
  split at h
  · split at h
    · split at h
      · split at h <;> simp at h
      · simp at h
    · simp at h
  · split at h
    · split at h
      · split at h <;> simp at h
      · simp at h
    · simp at h
  · rw [hp0] at h
    simp only [if_true, Option.some.injEq, Out.pan.injEq] at h
    refine ⟨h.2.symm, fun hq => ?_⟩
    simp only [fnEnd, hp0, if_true, h.1]
  · simp at h

theorem evF_nice {pf : Nat → Bool} {tab : Nat → Option FnD} (hpf : PfOk pf tab) (n : Nat) : CFNice pf (evF tab n) := by
  cases n with
  | zero => exact ⟨fun f args hp v hp' h => by simp [evF] at h, fun f _ args hp v hp' h => by simp [evF] at h, fun f _ args hp v hp' h => by simp [evF] at h⟩
  | succ n =>
    constructor
    · intro f args hp v hp' h
      simp only [evF] at h
      split at h
      · simp at h
      · split at h
        · split at h
          · rename_i hfl
            simp only [Option.some.injEq, Out.ret.injEq] at h
            exact h.1 ▸ flat_ib hfl
          · simp at h
        · simp at h
      · split at h
        · simp only [Option.some.injEq, Out.ret.injEq] at h
          rw [← h.1]; rfl
        · simp at h
      · split at h
        · split at h
          · rename_i hfl
            simp only [Option.some.injEq, Out.ret.injEq] at h
            exact h.1 ▸ flat_ib hfl
          · simp at h
        · simp at h
      · split at h
        · simp at h
        · exact (fnEnd_ret h).1
      · split at h
        · simp at h
        · exact (fnEnd_ret h).1
    · intro f hf args hp v hp' h
      simp only [evF] at h ⊢
      split at h
      · simp at h
      · rename_i p htf
        split at h
        · rename_i w hw
          split at h
          · rename_i hfl
            simp only [Option.some.injEq, Out.ret.injEq] at h
            obtain ⟨rfl, rfl⟩ := h
            exact ⟨rfl, fun hq => by simp only [hfl, if_true]⟩
          · simp at h
        · simp at h
      · rename_i p htf
        exact absurd htf (hpf.2.1 f p hf)
      · rename_i p htf
        exact absurd htf (hpf.2.2.1 f p hf)
      · rename_i rf tr hd htf
        have hp0 := hpf.2.2.2 f rf tr hd hf htf
        split at h
        · simp at h
        · rename_i hc
          rw [hp0] at hc
          obtain ⟨k1, k2⟩ := (fnEnd_ret h).2 hp0
          refine ⟨k1, fun hq => ?_⟩
          rw [hp0, if_neg hc]
          exact k2 hq
      · rename_i rf htf
        have hp0 := hpf.1 f rf hf htf
        split at h
        · simp at h
        · rename_i hc
          rw [hp0] at hc
          obtain ⟨k1, k2⟩ := (fnEnd_ret h).2 hp0
          refine ⟨k1, fun hq => ?_⟩
          rw [hp0, if_neg hc]
          exact k2 hq
    · intro f hf args hp v hp' h
      simp only [evF] at h ⊢
      split at h
      · simp at h
      · split at h
        · split at h
          · simp at h
          · simp at h
        · simp at h
      · rename_i p htf
        exact absurd htf (hpf.2.1 f p hf)
      · rename_i p htf
        exact absurd htf (hpf.2.2.1 f p hf)
      · rename_i rf tr hd htf
        have hp0 := hpf.2.2.2 f rf tr hd hf htf
        split at h
        · simp at h
        · rename_i hc
          rw [hp0] at hc
          obtain ⟨k1, k2⟩ := fnEnd_pan h hp0
          refine ⟨k1, fun hq => ?_⟩
          rw [hp0, if_neg hc]
          exact k2 hq
      · rename_i rf htf
        have hp0 := hpf.1 f rf hf htf
        split at h
        · simp at h
        · rename_i hc
          rw [hp0] at hc
          obtain ⟨k1, k2⟩ := fnEnd_pan h hp0
          refine ⟨k1, fun hq => ?_⟩
          rw [hp0, if_neg hc]
          exact k2 hq

theorem evF_sound {pf : Nat → Bool} {tab : Nat → Option FnD} (hpf : PfOk pf tab) (ht : TabOk P pf tab) : ∀ n, CFSound P (evF tab n)
  | 0 => ⟨fun f args hp out h => by simp [evF] at h, fun f args hp out h => by simp [evF] at h⟩
  | n + 1 => by
    have ih := evF_sound hpf ht n
    have hent : ∀ f args hp out, evF tab (n + 1) f args hp = some out → entered P f = true := by
      intro f args hp out h
      simp only [evF] at h
      cases htf : tab f with
      | none => rw [htf] at h; simp at h
      | some d =>
        have hd := ht f d htf
        cases d with
        | prim p => exact hd.ent
        | mk p => exact hd.ent
        | hp p => exact hd.ent
        | tri rf tr hn =>
          simp only [fnOkT] at hd
          unfold entered
          split at hd
          · rename_i fn hf
            rw [hf]
            simp only [Bool.and_eq_true] at hd ⊢
            obtain ⟨⟨⟨⟨⟨_, h2⟩, h3⟩, _⟩, _⟩, _⟩ := hd
            refine ⟨?_, h2⟩
            split at h3
            · rename_i c hc; rw [hc]; rfl
            · simp at h3
          · simp at hd
        | code rf =>
          simp only [fnOk] at hd
          unfold entered
          split at hd
          · rename_i fn hf
            rw [hf]
            simp only [Bool.and_eq_true] at hd ⊢
            obtain ⟨⟨⟨⟨_, h2⟩, h3⟩, _⟩, _⟩ := hd
            refine ⟨?_, h2⟩
            split at h3
            · rename_i c hc; rw [hc]; rfl
            · simp at h3
          · simp at hd
    refine ⟨hent, ?_⟩
    intro f args hp out h hpl g w vals l ha hH
    simp only [evF] at h
    cases htf : tab f with
    | none => rw [htf] at h; simp at h
    | some d =>
      have hd := ht f d htf
      rw [htf] at h
      cases d with
      | prim p =>
        simp only at h
        split at h
        · rename_i v hv
          split at h
          · rename_i hfl
            simp only [Option.some.injEq] at h
            subst h
            refine (hd.calls args v hv hfl hpl g w vals l ha).mono ?_
            rintro e w' ⟨u, g', rfl, hc, hn, hR⟩
            exact ⟨g', hc.mono fun _ hf => hf.elim, u, rfl, hR, hH.mono hc (fun _ => ⟨fun hf => hf, fun _ hf => hf⟩) hn⟩
          · simp at h
        · simp at h
      | mk p =>
        simp only at h
        split at h
        · rename_i ys hys
          simp only [Option.some.injEq] at h
          subst h
          exact hd.calls args ys hys hpl g w vals l hp ha hH
        · simp at h
      | hp p =>
        simp only at h
        split at h
        · rename_i v hp' hv
          split at h
          · rename_i hfl
            simp only [Option.some.injEq] at h
            subst h
            exact hd.calls args hp v hp' hv hfl hpl g w vals l ha hH
          · simp at h
        · simp at h
      | tri rf tr hn =>
        simp only at h
        split at h
        · simp at h
        · rename_i hpure
          have hd' : fnOkT P pf f rf tr hn = true := hd
          unfold fnOkT at hd'
          split at hd'
          · rename_i fn hf
            simp only [Bool.and_eq_true, beq_iff_eq, decide_eq_true_eq] at hd'
            obtain ⟨⟨⟨⟨⟨hnt, _⟩, hbody⟩, hres⟩, hnd⟩, hhd⟩ := hd'
            split at hbody
            · rename_i c hc
              cases hev : evTri (evF tab n) n hn tr ⟨args ++ List.replicate (rf.nt - args.length) .dead, if rf.pure then [] else hp⟩ with
              | none => rw [hev] at h; simp [fnEnd] at h
              | some exs =>
                obtain ⟨ex, s'⟩ := exs
                rw [hev] at h
                refine calls_of_wp_defers hf hc ?_
                rw [hnt]
                -- what is known at the body's begin
                obtain ⟨g0, hg0, hI, hback⟩ : ∃ g0 : G, True ∧ Inv P g0 w { tmps := vals.toArray ++ Array.replicate (rf.nt - vals.toArray.size) undef, defers := [] } ⟨args ++ List.replicate (rf.nt - args.length) .dead, if rf.pure then [] else hp⟩ ∧
                    (∀ g' w' hp', Chg Mine g0 w g' w' → HeapInv P g' w' hp' → ∃ g2, Chg Mine g w g2 w' ∧ HeapInv P g2 w' (if rf.pure then hp else hp') ∧ (∀ v u, (rf.pure = true → v.flat = true) → RepR P g' w' v u → RepR P g2 w' v u) ∧ ∀ x u, DRep g'.stab w' x u → DRep g2.stab w' x u) := by
                  cases hpu : rf.pure with
                  | true =>
                    simp only [if_true]
                    have hhf : PV.hfrees args = true := by
                      rw [hpu] at hpure
                      simpa using hpure
                    refine ⟨g.bare, trivial, Inv.enter hpl (RepFs.bare hpl hhf ha) ⟨rfl, by simp, fun _ _ h => by simp at h⟩ rf.nt, ?_⟩
                    intro g' w' hp' hc' hH'
                    exact ⟨g'.dress g, hc'.dress.mono fun _ hf => hf.elim, hH.mono hc'.dress (fun _ => ⟨fun hf => hf, fun _ hf => hf⟩) rfl, fun v u hv hR => hR.dress (hv trivial), fun x u hx => hx.mono fun b i u hc hs => ⟨hc, dress_stab hs⟩⟩
                  | false =>
                    simp only [Bool.false_eq_true, if_false]
                    exact ⟨g, trivial, Inv.enter hpl ha hH rf.nt, fun g' w' hp' hc' hH' => ⟨g', hc', hH', fun v u _ hR => hR, fun x u hx => hx⟩⟩
                refine tri_sound ih (evF_nice hpf n) n hhd tr c hbody hev hI rfl ?_
                have retcase : ∀ (_ : PV), (match Pe.results s' rf.res with | some v => if rf.pure then (if v.flat then some (Out.ret v hp) else none) else some (.ret v s'.hp) | none => none) = some out →
                    ∀ g' w' a', Inv P g' w' a' s' → Chg Mine g0 w g' w' → ∃ v, (Go.results fn a'.tmps).run P w' = .ok v w' ∧ CallPost P g w out (.returned v) w' := by
                  intro _ ho g' w' a' hI' hc'
                  split at ho
                  · rename_i v hv
                    obtain ⟨u, g1, r1, r2, r3, r4⟩ := results_ok hI' hres hnd hv
                    obtain ⟨g2, q1, q2, q3, _⟩ := hback g1 w' _ (hc'.trans r2) r4
                    refine ⟨u, r1, ?_⟩
                    cases hpu : rf.pure with
                    | true =>
                      rw [hpu] at ho q2 q3
                      simp only [if_true] at ho q2
                      split at ho
                      · rename_i hfl
                        simp only [Option.some.injEq] at ho
                        subst ho
                        exact ⟨g2, q1, u, rfl, q3 v u (fun _ => hfl) r3, q2⟩
                      · simp at ho
                    | false =>
                      rw [hpu] at ho q2 q3
                      simp only [Bool.false_eq_true, if_false, Option.some.injEq] at ho q2
                      subst ho
                      exact ⟨g2, q1, u, rfl, q3 v u (fun hf => by simp at hf) r3, q2⟩
                  · simp at ho
                cases ex with
                | norm => exact fun g' w' a' hI' hc' => retcase .dead h g' w' a' hI' hc'
                | ret => exact fun g' w' a' hI' hc' => retcase .dead h g' w' a' hI' hc'
                | exit id => simp [fnEnd] at h
                | pan x =>
                  simp only [fnEnd, Option.some.injEq] at h
                  subst h
                  intro g' w' a' u hx hH' hc'
                  obtain ⟨g2, q1, q2, _, q4⟩ := hback g' w' _ hc' hH'.heap
                  exact ⟨g2, q1, u, rfl, q4 x u hx, q2⟩
            · simp at hbody
          · simp at hd'
      | code rf =>
        simp only at h
        split at h
        · simp at h
        · rename_i hpure
          have hd' : fnOk P pf f rf = true := hd
          unfold fnOk at hd'
          split at hd'
          · rename_i fn hf
            simp only [Bool.and_eq_true, beq_iff_eq, decide_eq_true_eq] at hd'
            obtain ⟨⟨⟨⟨hnt, _⟩, hbody⟩, hres⟩, hnd⟩ := hd'
            split at hbody
            · rename_i c hc
              cases hev : evCode (evF tab n) n rf.body ⟨args ++ List.replicate (rf.nt - args.length) .dead, if rf.pure then [] else hp⟩ with
              | none => rw [hev] at h; simp [fnEnd] at h
              | some exs =>
                obtain ⟨ex, s'⟩ := exs
                rw [hev] at h
                refine calls_of_wp hf hc ?_
                rw [hnt]
                -- what is known at the body's begin
                obtain ⟨g0, hg0, hI, hback⟩ : ∃ g0 : G, True ∧ Inv P g0 w { tmps := vals.toArray ++ Array.replicate (rf.nt - vals.toArray.size) undef, defers := [] } ⟨args ++ List.replicate (rf.nt - args.length) .dead, if rf.pure then [] else hp⟩ ∧
                    (∀ g' w' hp', Chg Mine g0 w g' w' → HeapInv P g' w' hp' → ∃ g2, Chg Mine g w g2 w' ∧ HeapInv P g2 w' (if rf.pure then hp else hp') ∧ (∀ v u, (rf.pure = true → v.flat = true) → RepR P g' w' v u → RepR P g2 w' v u) ∧ ∀ x u, DRep g'.stab w' x u → DRep g2.stab w' x u) := by
                  cases hpu : rf.pure with
                  | true =>
                    simp only [if_true]
                    have hhf : PV.hfrees args = true := by
                      rw [hpu] at hpure
                      simpa using hpure
                    refine ⟨g.bare, trivial, Inv.enter hpl (RepFs.bare hpl hhf ha) ⟨rfl, by simp, fun _ _ h => by simp at h⟩ rf.nt, ?_⟩
                    intro g' w' hp' hc' hH'
                    exact ⟨g'.dress g, hc'.dress.mono fun _ hf => hf.elim, hH.mono hc'.dress (fun _ => ⟨fun hf => hf, fun _ hf => hf⟩) rfl, fun v u hv hR => hR.dress (hv trivial), fun x u hx => hx.mono fun b i u hc hs => ⟨hc, dress_stab hs⟩⟩
                  | false =>
                    simp only [Bool.false_eq_true, if_false]
                    exact ⟨g, trivial, Inv.enter hpl ha hH rf.nt, fun g' w' hp' hc' hH' => ⟨g', hc', hH', fun v u _ hR => hR, fun x u hx => hx⟩⟩
                refine code_sound ih (evF_nice hpf n) n c rf.body hbody hev hI ?_
                have retcase : ∀ (_ : PV), (match Pe.results s' rf.res with | some v => if rf.pure then (if v.flat then some (Out.ret v hp) else none) else some (.ret v s'.hp) | none => none) = some out →
                    ∀ g' w' a', Inv P g' w' a' s' → Chg Mine g0 w g' w' → a'.defers = [] → a'.defers = [] ∧ ∃ v, (Go.results fn a'.tmps).run P w' = .ok v w' ∧ CallPost P g w out (.returned v) w' := by
                  intro _ ho g' w' a' hI' hc' hdf
                  refine ⟨hdf, ?_⟩
                  split at ho
                  · rename_i v hv
                    obtain ⟨u, g1, r1, r2, r3, r4⟩ := results_ok hI' hres hnd hv
                    obtain ⟨g2, q1, q2, q3, _⟩ := hback g1 w' _ (hc'.trans r2) r4
                    refine ⟨u, r1, ?_⟩
                    cases hpu : rf.pure with
                    | true =>
                      rw [hpu] at ho q2 q3
                      simp only [if_true] at ho q2
                      split at ho
                      · rename_i hfl
                        simp only [Option.some.injEq] at ho
                        subst ho
                        exact ⟨g2, q1, u, rfl, q3 v u (fun _ => hfl) r3, q2⟩
                      · simp at ho
                    | false =>
                      rw [hpu] at ho q2 q3
                      simp only [Bool.false_eq_true, if_false, Option.some.injEq] at ho q2
                      subst ho
                      exact ⟨g2, q1, u, rfl, q3 v u (fun hf => by simp at hf) r3, q2⟩
                  · simp at ho
                cases ex with
                | norm => exact fun g' w' a' hI' hc' hdf => retcase .dead h g' w' a' hI' hc' hdf
                | ret => exact fun g' w' a' hI' hc' hdf => retcase .dead h g' w' a' hI' hc' hdf
                | exit id => simp [fnEnd] at h
                | pan x =>
                  simp only [fnEnd, Option.some.injEq] at h
                  subst h
                  intro g' w' a' u hx hH' hc' hdf
                  obtain ⟨g2, q1, q2, _, q4⟩ := hback g' w' _ hc' hH'.heap
                  exact ⟨hdf, g2, q1, u, rfl, q4 x u hx, q2⟩
            · simp at hbody
          · simp at hd'

end
end Go.Pe

namespace Go.Pe

def CF.le (a b : CF) : Prop := ∀ f args hp out, a f args hp = some out → b f args hp = some out

theorem evOp_mono {a b : CF} (h : CF.le a b) {dst : Option Nat} {o : RO} {s : St} {r : OR} (e : evOp a dst o s = some r) : evOp b dst o s = some r := by
  cases o <;> first | exact e | skip
  rename_i m f args
  simp only [evOp] at e ⊢
  split at e
  · rename_i g caps hf
    simp only [Option.bind_eq_some_iff] at e ⊢
    obtain ⟨vs, h1, o, h2, h3⟩ := e
    exact ⟨vs, h1, o, h _ _ _ _ h2, h3⟩
  · simp at e

theorem evOps_mono {a b : CF} (h : CF.le a b) : ∀ {ops : List ROper} {s : St} {r : OR}, evOps a ops s = some r → evOps b ops s = some r
  | [], s, r, e => e
  | o :: ops, s, r, e => by
    simp only [evOps] at e ⊢
    split at e
    · rename_i hw
      cases h1 : evOp a o.dst o.op s with
      | none => rw [h1] at e; simp at e
      | some r1 =>
        rw [h1] at e
        rw [evOp_mono h h1]
        cases r1 with
        | ok s' => simp only at e ⊢; exact evOps_mono h e
        | pan v hp => exact e
    · rename_i hw
      split at e
      · rename_i s' hp
        exact evOps_mono h e
      · simp at e
    · simp at e

theorem evIter_mono {f g : St → Option (Ex × St)} (h : ∀ s r, f s = some r → g s = some r) {live : List LM} : ∀ {n m : Nat} {s : St} {r : Ex × St}, n ≤ m → evIter f live n s = some r → evIter g live m s = some r
  | 0, m, s, r, _, e => by simp [evIter] at e
  | n + 1, 0, s, r, hl, e => by omega
  | n + 1, m + 1, s, r, hl, e => by
    simp only [evIter] at e ⊢
    cases h1 : f (s.head live) with
    | none => rw [h1] at e; simp at e
    | some q =>
      rw [h1] at e
      rw [h _ _ h1]
      obtain ⟨ex, s'⟩ := q
      cases ex with
      | norm => simp only at e ⊢; exact evIter_mono h (Nat.le_of_succ_le_succ hl) e
      | _ => exact e

theorem ok_nopan {cf : CF} {ops : List ROper} {c : Nat} {s f : St} (h : evOps cf (ops.drop c) s = some (.ok f)) : (ops[c]?.bind fun o => panAt cf o s) = none := by
  cases ho : ops[c]? with
  | none => rfl
  | some o =>
    obtain ⟨hc, rfl⟩ := List.getElem?_eq_some_iff.1 ho
    rw [List.drop_eq_getElem_cons hc, evOps] at h
    simp only [Option.bind_some, panAt]
    cases hw : wanted s ops[c].g with
    | none => rfl
    | some b =>
      cases b with
      | false => rfl
      | true =>
        rw [hw] at h
        simp only at h ⊢
        cases he : evOp cf ops[c].dst ops[c].op s with
        | none => rfl
        | some q =>
          rw [he] at h
          cases q with
          | ok _ => rfl
          | pan _ _ => simp at h

theorem regp_some {cf : CF} {ops : List ROper} {adr : List Nat} {c : Nat} {s : St} {r : Ex × St} : evRegp cf ops adr c s = some r ↔ ∃ s1, evOps cf (ops.take c) s = some (.ok s1) ∧
    ((∃ oc v, ops[c]? = some oc ∧ panAt cf oc s1 = some v ∧ r = (.pan v, dread (dsts ops) s)) ∨ ∃ f, evOps cf (ops.drop c) s1 = some (.ok f) ∧ r = (.norm, { f with tm := killAll f.tm adr })) := by
  unfold evRegp
  constructor
  · intro h
    split at h
    · rename_i s1 h1
      refine ⟨s1, h1, ?_⟩
      cases hb : (ops[c]?.bind fun o => panAt cf o s1) with
      | some v =>
        rw [hb] at h
        simp only [regpK, Option.some.injEq] at h
        obtain ⟨oc, ho, hv⟩ := Option.bind_eq_some_iff.1 hb
        exact .inl ⟨oc, v, ho, hv, h.symm⟩
      | none =>
        rw [hb] at h
        cases h2 : evOps cf (ops.drop c) s1 with
        | none => rw [h2] at h; simp [regpK] at h
        | some q =>
          rw [h2] at h
          cases q with
          | pan v s2 => simp [regpK] at h
          | ok f =>
            simp only [regpK, Option.some.injEq] at h
            exact .inr ⟨f, rfl, h.symm⟩
    · simp at h
  · rintro ⟨s1, h1, ⟨oc, v, ho, hv, rfl⟩ | ⟨f, h2, rfl⟩⟩
    · rw [h1]
      simp only [ho, Option.bind_some, hv, regpK]
    · rw [h1]
      simp only [ok_nopan h2, h2, regpK]

theorem panAt_mono {a b : CF} (h : CF.le a b) {o : ROper} {s : St} {v : D} (e : panAt a o s = some v) : panAt b o s = some v := by
  unfold panAt at e ⊢
  split at e
  · split at e
    · rename_i h1
      rw [evOp_mono h h1]
      exact e
    · simp at e
  · simp at e

theorem evRegp_mono {a b : CF} (h : CF.le a b) {ops : List ROper} {adr : List Nat} {c : Nat} {s : St} {r : Ex × St} (e : evRegp a ops adr c s = some r) : evRegp b ops adr c s = some r := by
  rw [regp_some] at e ⊢
  obtain ⟨s1, h1, h2⟩ := e
  refine ⟨s1, evOps_mono h h1, ?_⟩
  rcases h2 with ⟨oc, v, ho, hv, hr⟩ | ⟨f, hf, hr⟩
  · exact .inl ⟨oc, v, ho, panAt_mono h hv, hr⟩
  · exact .inr ⟨f, evOps_mono h hf, hr⟩

theorem evCode_mono {a b : CF} (h : CF.le a b) {n m : Nat} (hl : n ≤ m) : ∀ (c : RCode) {s : St} {r : Ex × St}, evCode a n c s = some r → evCode b m c s = some r
  | .skip, s, r, e => e
  | .stuck, s, r, e => by simp [evCode] at e
  | .exit i, s, r, e => e
  | .ret live, s, r, e => e
  | .reg ops adr d, s, r, e => by
    simp only [evCode, Option.map_eq_some_iff, Option.bind_eq_some_iff] at e ⊢
    obtain ⟨r1, ⟨r2, h1, h2⟩, h3⟩ := e
    exact ⟨r1, ⟨r2, evOps_mono h h1, h2⟩, h3⟩
  | .regp ops adr c, s, r, e => by
    simp only [evCode] at e ⊢
    exact evRegp_mono h e
  | .seq c1 c2, s, r, e => by
    simp only [evCode] at e ⊢
    cases h1 : evCode a n c1 s with
    | none => rw [h1] at e; simp at e
    | some q =>
      rw [h1] at e
      rw [evCode_mono h hl c1 h1]
      obtain ⟨ex, s'⟩ := q
      cases ex with
      | norm => simp only at e ⊢; exact evCode_mono h hl c2 e
      | _ => exact e
  | .seqf c1 k c2, s, r, e => by
    simp only [evCode] at e ⊢
    cases h1 : evCode a n c1 s with
    | none => rw [h1] at e; simp at e
    | some q =>
      rw [h1] at e
      rw [evCode_mono h hl c1 h1]
      obtain ⟨ex, s'⟩ := q
      cases ex with
      | norm =>
        simp only at e ⊢
        split at e
        · rename_i s2 hf
          try simp only [hf]
          exact evCode_mono h hl c2 e
        · simp at e
      | _ => exact e
  | .seqc c1 live c2, s, r, e => by
    simp only [evCode] at e ⊢
    cases h1 : evCode a n c1 s with
    | none => rw [h1] at e; simp at e
    | some q =>
      rw [h1] at e
      rw [evCode_mono h hl c1 h1]
      obtain ⟨ex, s'⟩ := q
      cases ex with
      | norm => simp only at e ⊢; exact evCode_mono h hl c2 e
      | _ => exact e
  | .cond x c1 c2, s, r, e => by
    simp only [evCode] at e ⊢
    split at e
    · rename_i t hx
      cases t with
      | true => exact evCode_mono h hl c1 e
      | false => exact evCode_mono h hl c2 e
    · simp at e
  | .block i live c, s, r, e => by
    simp only [evCode] at e ⊢
    cases h1 : evCode a n c s with
    | none => rw [h1] at e; simp at e
    | some q =>
      rw [h1] at e
      rw [evCode_mono h hl c h1]
      exact e
  | .loop live c, s, r, e => by
    simp only [evCode] at e ⊢
    exact evIter_mono (fun s r e => evCode_mono h hl c e) hl e

theorem evH_mono {a b : CF} (h : CF.le a b) {n m : Nat} (hl : n ≤ m) {hd : RHand} {vs : List PV} {rv : D} {hp : List Ent} {r : List Ent} (e : evH a n hd vs rv hp = some r) : evH b m hd vs rv hp = some r := by
  unfold evH at e ⊢
  cases h1 : evCode a n hd.body ⟨(vs ++ List.replicate (hd.nt - vs.length) PV.dead).set hd.dst (.d rv), hp⟩ with
  | none => rw [h1] at e; simp at e
  | some q => rw [h1] at e; rw [evCode_mono h hl hd.body h1]; exact e

theorem triFin_mono {a b : CF} (h : CF.le a b) {n m : Nat} (hl : n ≤ m) {hd : RHand} {vs : List PV} {q : Option (Ex × St)} {r : Ex × St} (e : triFin a n hd vs q = some r) : triFin b m hd vs q = some r := by
  cases q with
  | none => simp [triFin] at e
  | some q =>
    obtain ⟨ex, s⟩ := q
    cases ex with
    | exit i => simp [triFin] at e
    | _ =>
      simp only [triFin, Option.map_eq_some_iff] at e ⊢
      obtain ⟨hp, h1, h2⟩ := e
      exact ⟨hp, evH_mono h hl h1, h2⟩

theorem evTri_mono {a b : CF} (h : CF.le a b) {n m : Nat} (hl : n ≤ m) {hd : RHand} : ∀ (t : RTri) {s : St} {r : Ex × St}, evTri a n hd t s = some r → evTri b m hd t s = some r
  | .seq c t, s, r, e => by
    simp only [evTri] at e ⊢
    cases h1 : evCode a n c s with
    | none => rw [h1] at e; simp at e
    | some q =>
      rw [h1] at e
      rw [evCode_mono h hl c h1]
      obtain ⟨ex, s'⟩ := q
      cases ex with
      | norm => simp only at e ⊢; exact evTri_mono h hl t e
      | _ => exact e
  | .dfr args post, s, r, e => by
    simp only [evTri] at e ⊢
    split at e
    · rename_i vs hvs
      split at e
      · rename_i hp
        rw [if_pos hp]
        cases h1 : evCode a n post s with
        | none => rw [h1] at e; simp [triFin] at e
        | some q =>
          rw [h1] at e
          rw [evCode_mono h hl post h1]
          exact triFin_mono h hl e
      · simp at e
    · simp at e

theorem evF_mono1 (tab : Nat → Option FnD) : ∀ (n : Nat), CF.le (evF tab n) (evF tab (n + 1))
  | 0 => fun f args hp out e => by simp [evF] at e
  | n + 1 => fun f args hp out e => by
    have ih := evF_mono1 tab n
    simp only [evF] at e
    rw [evF]
    cases htf : tab f with
    | none => rw [htf] at e; simp at e
    | some d =>
      rw [htf] at e
      cases d with
      | prim p => exact e
      | mk p => exact e
      | hp p => exact e
      | tri rf tr hd =>
        simp only at e ⊢
        split at e
        · simp at e
        · rename_i hc
          rw [if_neg hc]
          cases h1 : evTri (evF tab n) n hd tr ⟨args ++ List.replicate (rf.nt - args.length) .dead, if rf.pure then [] else hp⟩ with
          | none => rw [h1] at e; simp [fnEnd] at e
          | some r =>
            rw [h1] at e
            rw [evTri_mono ih (Nat.le_succ n) tr h1]
            exact e
      | code rf =>
        simp only at e ⊢
        split at e
        · simp at e
        · rename_i hc
          rw [if_neg hc]
          cases h1 : evCode (evF tab n) n rf.body ⟨args ++ List.replicate (rf.nt - args.length) .dead, if rf.pure then [] else hp⟩ with
          | none => rw [h1] at e; simp [fnEnd] at e
          | some r =>
            rw [h1] at e
            rw [evCode_mono ih (Nat.le_succ n) rf.body h1]
            exact e

theorem evF_mono (tab : Nat → Option FnD) {n m : Nat} (h : n ≤ m) : CF.le (evF tab n) (evF tab m) := by
  induction h with
  | refl => exact fun _ _ _ _ e => e
  | step _ ih => exact fun f args hp out e => evF_mono1 tab _ f args hp out (ih f args hp out e)

open Classical in
noncomputable def lim {α : Type} (f : Nat → Option α) : Option α := if h : ∃ v, ∃ n, f n = some v then some h.choose else none

theorem lim_some {α : Type} {f : Nat → Option α} (hm : ∀ n m v, n ≤ m → f n = some v → f m = some v) {v : α} : lim f = some v ↔ ∃ n, f n = some v := by
  constructor
  · intro h
    unfold lim at h
    split at h
    · rename_i hx
      simp only [Option.some.injEq] at h
      exact h ▸ hx.choose_spec
    · simp at h
  · rintro ⟨n, h⟩
    have hx : ∃ v, ∃ n, f n = some v := ⟨v, n, h⟩
    unfold lim
    rw [dif_pos hx]
    obtain ⟨m, hm'⟩ := hx.choose_spec
    have h1 := hm n (max n m) v (Nat.le_max_left _ _) h
    have h2 := hm m (max n m) _ (Nat.le_max_right _ _) hm'
    rw [h1] at h2
    exact h2.symm

noncomputable def F (tab : Nat → Option FnD) : CF := fun f args hp => lim fun n => evF tab n f args hp

theorem F_some {tab : Nat → Option FnD} {f : Nat} {args : List PV} {hp : List Ent} {out : Out} : F tab f args hp = some out ↔ ∃ n, evF tab n f args hp = some out :=
  lim_some fun n m v h e => evF_mono tab h _ _ _ _ e

noncomputable def V (cf : CF) (c : RCode) (s : St) : Option (Ex × St) := lim fun n => evCode cf n c s

theorem V_some {cf : CF} {c : RCode} {s : St} {r : Ex × St} : V cf c s = some r ↔ ∃ n, evCode cf n c s = some r :=
  lim_some fun n m v h e => evCode_mono (fun _ _ _ _ e => e) h c e

theorem opt_ext {α : Type} {a b : Option α} (h : ∀ v, a = some v ↔ b = some v) : a = b := by
  cases a with
  | none => cases b with
    | none => rfl
    | some v => exact absurd ((h v).2 rfl) (by simp)
  | some v => exact ((h v).1 rfl).symm

variable {cf : CF} {s : St}

theorem V_skip : V cf .skip s = some (.norm, s) := V_some.2 ⟨0, rfl⟩
theorem V_ret {live : List LM} : V cf (.ret live) s = some (.ret, s.head live) := V_some.2 ⟨0, rfl⟩
theorem V_exit {i : Nat} : V cf (.exit i) s = some (.exit i, s) := V_some.2 ⟨0, rfl⟩
theorem V_reg {ops : List ROper} {adr : List Nat} {d : Bool} : V cf (.reg ops adr d) s = ((evOps cf ops s).bind (drawEnd d)).map (regEnd s adr) :=
  opt_ext fun v => by rw [V_some]; exact ⟨fun ⟨_, h⟩ => h, fun h => ⟨0, h⟩⟩

theorem V_regp0 {ops : List ROper} {adr : List Nat} {c : Nat} : V cf (.regp ops adr c) s = evRegp cf ops adr c s :=
  opt_ext fun v => by rw [V_some]; exact ⟨fun ⟨_, h⟩ => h, fun h => ⟨0, h⟩⟩

def seqK (k : St → Option (Ex × St)) : Option (Ex × St) → Option (Ex × St)
  | some (.norm, s') => k s'
  | r => r

theorem V_seq {a b : RCode} : V cf (.seq a b) s = seqK (V cf b) (V cf a s) := by
  refine opt_ext fun v => ?_
  rw [V_some]
  constructor
  · rintro ⟨n, h⟩
    simp only [evCode] at h
    cases h1 : evCode cf n a s with
    | none => rw [h1] at h; simp at h
    | some q =>
      rw [h1] at h
      rw [V_some.2 ⟨n, h1⟩]
      obtain ⟨ex, s'⟩ := q
      cases ex with
      | norm => exact V_some.2 ⟨n, h⟩
      | _ => exact h
  · intro h
    cases h1 : V cf a s with
    | none => rw [h1] at h; simp [seqK] at h
    | some q =>
      rw [h1] at h
      obtain ⟨n, h2⟩ := V_some.1 h1
      obtain ⟨ex, s'⟩ := q
      cases ex with
      | norm =>
        obtain ⟨m, h3⟩ := V_some.1 h
        refine ⟨max n m, ?_⟩
        simp only [evCode]
        rw [evCode_mono (fun _ _ _ _ e => e) (Nat.le_max_left n m) a h2]
        exact evCode_mono (fun _ _ _ _ e => e) (Nat.le_max_right n m) b h3
      | _ => exact ⟨n, by simp only [evCode]; rw [h2]; exact h⟩

theorem V_seqc {a b : RCode} {live : List LM} : V cf (.seqc a live b) s = seqK (fun s' => V cf b (s'.head live)) (V cf a s) := by
  refine opt_ext fun v => ?_
  rw [V_some]
  constructor
  · rintro ⟨n, h⟩
    simp only [evCode] at h
    cases h1 : evCode cf n a s with
    | none => rw [h1] at h; simp at h
    | some q =>
      rw [h1] at h
      rw [V_some.2 ⟨n, h1⟩]
      obtain ⟨ex, s'⟩ := q
      cases ex with
      | norm => exact V_some.2 ⟨n, h⟩
      | _ => exact h
  · intro h
    cases h1 : V cf a s with
    | none => rw [h1] at h; simp [seqK] at h
    | some q =>
      rw [h1] at h
      obtain ⟨n, h2⟩ := V_some.1 h1
      obtain ⟨ex, s'⟩ := q
      cases ex with
      | norm =>
        obtain ⟨m, h3⟩ := V_some.1 h
        refine ⟨max n m, ?_⟩
        simp only [evCode]
        rw [evCode_mono (fun _ _ _ _ e => e) (Nat.le_max_left n m) a h2]
        exact evCode_mono (fun _ _ _ _ e => e) (Nat.le_max_right n m) b h3
      | _ => exact ⟨n, by simp only [evCode]; rw [h2]; exact h⟩

def frzK (k : St → Option (Ex × St)) : Option St → Option (Ex × St)
  | some s => k s
  | none => none
theorem V_seqf {a b : RCode} {k : Nat} : V cf (.seqf a k b) s = seqK (fun s' => frzK (V cf b) (freeze1 s' k)) (V cf a s) := by
  refine opt_ext fun v => ?_
  rw [V_some]
  constructor
  · rintro ⟨n, h⟩
    simp only [evCode] at h
    cases h1 : evCode cf n a s with
    | none => rw [h1] at h; simp at h
    | some q =>
      rw [h1] at h
      rw [V_some.2 ⟨n, h1⟩]
      obtain ⟨ex, s'⟩ := q
      cases ex with
      | norm =>
        simp only at h
        simp only [seqK]
        split at h
        · rename_i s2 hf
          rw [hf]
          exact V_some.2 ⟨n, h⟩
        · simp at h
      | _ => exact h
  · intro h
    cases h1 : V cf a s with
    | none => rw [h1] at h; simp [seqK] at h
    | some q =>
      rw [h1] at h
      obtain ⟨n, h2⟩ := V_some.1 h1
      obtain ⟨ex, s'⟩ := q
      cases ex with
      | norm =>
        simp only [seqK] at h
        cases hf : freeze1 s' k with
        | none => rw [hf] at h; simp [frzK] at h
        | some s2 =>
          rw [hf] at h
          obtain ⟨m, h3⟩ := V_some.1 h
          refine ⟨max n m, ?_⟩
          simp only [evCode]
          rw [evCode_mono (fun _ _ _ _ e => e) (Nat.le_max_left n m) a h2]
          simp only [hf]
          exact evCode_mono (fun _ _ _ _ e => e) (Nat.le_max_right n m) b h3
      | _ => exact ⟨n, by simp only [evCode]; rw [h2]; exact h⟩

def condK (t : PV) (a b : Option (Ex × St)) : Option (Ex × St) :=
  match t with
  | .d (.bool t) => match t with
    | true => a
    | false => b
  | _ => none

theorem V_cond {c : X} {a b : RCode} : V cf (.cond c a b) s = condK (s.x c) (V cf a s) (V cf b s) := by
  refine opt_ext fun v => ?_
  rw [V_some]
  simp only [evCode, condK]
  generalize s.x c = p
  split
  · rename_i t
    cases t with
    | true => exact V_some.symm
    | false => exact V_some.symm
  · simp

def blockK (id : Nat) (live : List LM) : Option (Ex × St) → Option (Ex × St)
  | some (.exit i, s') => if i = id then some (.norm, s'.head live) else some (.exit i, s')
  | some (.norm, s') => some (.norm, s'.head live)
  | r => r

theorem V_block {id : Nat} {live : List LM} {c : RCode} : V cf (.block id live c) s = blockK id live (V cf c s) := by
  refine opt_ext fun v => ?_
  rw [V_some]
  constructor
  · rintro ⟨n, h⟩
    simp only [evCode] at h
    cases h1 : evCode cf n c s with
    | none => rw [h1] at h; simp at h
    | some q => rw [h1] at h; rw [V_some.2 ⟨n, h1⟩]; exact h
  · intro h
    cases h1 : V cf c s with
    | none => rw [h1] at h; simp [blockK] at h
    | some q =>
      obtain ⟨n, h2⟩ := V_some.1 h1
      exact ⟨n, by simp only [evCode]; rw [h2]; rw [h1] at h; exact h⟩

theorem V_loop {live : List LM} {c : RCode} : V cf (.loop live c) s = seqK (V cf (.loop live c)) (V cf c (s.head live)) := by
  refine opt_ext fun v => ?_
  rw [V_some]
  constructor
  · rintro ⟨n, h⟩
    simp only [evCode] at h
    cases n with
    | zero => simp [evIter] at h
    | succ n =>
      simp only [evIter] at h
      cases h1 : evCode cf (n + 1) c (s.head live) with
      | none => rw [h1] at h; simp at h
      | some q =>
        rw [h1] at h
        rw [V_some.2 ⟨_, h1⟩]
        obtain ⟨ex, s'⟩ := q
        cases ex with
        | norm =>
          refine V_some.2 ⟨n + 1, ?_⟩
          simp only [evCode]
          exact evIter_mono (fun _ _ e => e) (Nat.le_succ n) h
        | _ => exact h
  · intro h
    cases h1 : V cf c (s.head live) with
    | none => rw [h1] at h; simp [seqK] at h
    | some q =>
      rw [h1] at h
      obtain ⟨n, h2⟩ := V_some.1 h1
      obtain ⟨ex, s'⟩ := q
      cases ex with
      | norm =>
        obtain ⟨m, h3⟩ := V_some.1 h
        refine ⟨max n m + 1, ?_⟩
        simp only [evCode, evIter]
        rw [evCode_mono (fun _ _ _ _ e => e) (Nat.le_succ_of_le (Nat.le_max_left n m)) c h2]
        simp only [evCode] at h3
        exact evIter_mono (fun _ _ e => evCode_mono (fun _ _ _ _ e => e) (Nat.le_succ_of_le (Nat.le_max_right n m)) c e) (Nat.le_max_right n m) h3
      | _ =>
        refine ⟨n + 1, ?_⟩
        simp only [evCode, evIter]
        rw [evCode_mono (fun _ _ _ _ e => e) (Nat.le_succ n) c h2]
        exact h


theorem evOp_cont {tab : Nat → Option FnD} {dst : Option Nat} {o : RO} {r : OR} (e : evOp (F tab) dst o s = some r) : ∃ m, evOp (evF tab m) dst o s = some r := by
  cases o <;> first | exact ⟨0, e⟩ | skip
  rename_i m f args
  simp only [evOp] at e ⊢
  split at e
  · rename_i g caps hf
    simp only [Option.bind_eq_some_iff] at e
    obtain ⟨vs, h1, o, h2, h3⟩ := e
    obtain ⟨k, h2⟩ := F_some.1 h2
    refine ⟨k, ?_⟩
    simp only [Option.bind_eq_some_iff]
    exact ⟨vs, h1, o, h2, h3⟩
  · simp at e

theorem evOps_cont {tab : Nat → Option FnD} : ∀ {ops : List ROper} {s : St} {r : OR}, evOps (F tab) ops s = some r → ∃ m, evOps (evF tab m) ops s = some r
  | [], s, r, e => ⟨0, e⟩
  | o :: ops, s, r, e => by
    simp only [evOps] at e ⊢
    split at e
    · rename_i hw
      cases h1 : evOp (F tab) o.dst o.op s with
      | none => rw [h1] at e; simp at e
      | some r1 =>
        rw [h1] at e
        obtain ⟨m1, h2⟩ := evOp_cont h1
        cases r1 with
        | ok s' =>
          simp only at e
          obtain ⟨m2, h3⟩ := evOps_cont e
          refine ⟨max m1 m2, ?_⟩
          rw [evOp_mono (evF_mono tab (Nat.le_max_left m1 m2)) h2]
          exact evOps_mono (evF_mono tab (Nat.le_max_right m1 m2)) h3
        | pan v hp => exact ⟨m1, by rw [h2]; exact e⟩
    · rename_i hw
      split at e
      · rename_i s' hp
        exact evOps_cont e
      · simp at e
    · simp at e

theorem evIter_cont {f : St → Option (Ex × St)} {g : Nat → St → Option (Ex × St)} (hg : ∀ n m s r, n ≤ m → g n s = some r → g m s = some r) (h : ∀ s r, f s = some r → ∃ m, g m s = some r) {live : List LM} : ∀ {n : Nat} {s : St} {r : Ex × St}, evIter f live n s = some r → ∃ m, evIter (g m) live n s = some r
  | 0, s, r, e => by simp [evIter] at e
  | n + 1, s, r, e => by
    simp only [evIter] at e ⊢
    cases h1 : f (s.head live) with
    | none => rw [h1] at e; simp at e
    | some q =>
      rw [h1] at e
      obtain ⟨m1, h2⟩ := h _ _ h1
      obtain ⟨ex, s'⟩ := q
      cases ex with
      | norm =>
        simp only at e
        obtain ⟨m2, h3⟩ := evIter_cont hg h e
        refine ⟨max m1 m2, ?_⟩
        rw [hg _ _ _ _ (Nat.le_max_left m1 m2) h2]
        exact evIter_mono (fun s r e => hg _ _ _ _ (Nat.le_max_right m1 m2) e) (Nat.le_refl _) h3
      | _ => exact ⟨m1, by rw [h2]; exact e⟩

theorem panAt_cont {tab : Nat → Option FnD} {o : ROper} {s : St} {v : D} (e : panAt (F tab) o s = some v) : ∃ m, panAt (evF tab m) o s = some v := by
  unfold panAt at e
  split at e
  · rename_i hw
    split at e
    · rename_i h1
      obtain ⟨m, h2⟩ := evOp_cont h1
      refine ⟨m, ?_⟩
      unfold panAt
      rw [hw]
      simp only
      rw [h2]
      exact e
    · simp at e
  · simp at e

theorem evRegp_cont {tab : Nat → Option FnD} {ops : List ROper} {adr : List Nat} {c : Nat} {s : St} {r : Ex × St} (e : evRegp (F tab) ops adr c s = some r) : ∃ m, evRegp (evF tab m) ops adr c s = some r := by
  rw [regp_some] at e
  obtain ⟨s1, h1, h2⟩ := e
  obtain ⟨m1, k1⟩ := evOps_cont h1
  rcases h2 with ⟨oc, v, ho, hv, hr⟩ | ⟨f, hf, hr⟩
  · obtain ⟨m2, k2⟩ := panAt_cont hv
    refine ⟨max m1 m2, regp_some.2 ⟨s1, evOps_mono (evF_mono tab (Nat.le_max_left m1 m2)) k1, .inl ⟨oc, v, ho, panAt_mono (evF_mono tab (Nat.le_max_right m1 m2)) k2, hr⟩⟩⟩
  · obtain ⟨m2, k2⟩ := evOps_cont hf
    exact ⟨max m1 m2, regp_some.2 ⟨s1, evOps_mono (evF_mono tab (Nat.le_max_left m1 m2)) k1, .inr ⟨f, evOps_mono (evF_mono tab (Nat.le_max_right m1 m2)) k2, hr⟩⟩⟩

theorem evCode_cont {tab : Nat → Option FnD} {n : Nat} : ∀ (c : RCode) {s : St} {r : Ex × St}, evCode (F tab) n c s = some r → ∃ m, evCode (evF tab m) n c s = some r
  | .skip, s, r, e => ⟨0, e⟩
  | .stuck, s, r, e => by simp [evCode] at e
  | .exit i, s, r, e => ⟨0, e⟩
  | .ret live, s, r, e => ⟨0, e⟩
  | .reg ops adr d, s, r, e => by
    simp only [evCode, Option.map_eq_some_iff, Option.bind_eq_some_iff] at e ⊢
    obtain ⟨r1, ⟨r2, h1, h2⟩, h3⟩ := e
    obtain ⟨m, h4⟩ := evOps_cont h1
    exact ⟨m, r1, ⟨r2, h4, h2⟩, h3⟩
  | .regp ops adr c, s, r, e => by
    simp only [evCode] at e ⊢
    exact evRegp_cont e
  | .seq c1 c2, s, r, e => by
    simp only [evCode] at e ⊢
    cases h1 : evCode (F tab) n c1 s with
    | none => rw [h1] at e; simp at e
    | some q =>
      rw [h1] at e
      obtain ⟨m1, h2⟩ := evCode_cont c1 h1
      obtain ⟨ex, s'⟩ := q
      cases ex with
      | norm =>
        simp only at e
        obtain ⟨m2, h3⟩ := evCode_cont c2 e
        refine ⟨max m1 m2, ?_⟩
        rw [evCode_mono (evF_mono tab (Nat.le_max_left m1 m2)) (Nat.le_refl n) c1 h2]
        exact evCode_mono (evF_mono tab (Nat.le_max_right m1 m2)) (Nat.le_refl n) c2 h3
      | _ => exact ⟨m1, by rw [h2]; exact e⟩
  | .seqf c1 k c2, s, r, e => by
    simp only [evCode] at e ⊢
    cases h1 : evCode (F tab) n c1 s with
    | none => rw [h1] at e; simp at e
    | some q =>
      rw [h1] at e
      obtain ⟨m1, h2⟩ := evCode_cont c1 h1
      obtain ⟨ex, s'⟩ := q
      cases ex with
      | norm =>
        simp only at e
        split at e
        · rename_i s2 hf
          obtain ⟨m2, h3⟩ := evCode_cont c2 e
          refine ⟨max m1 m2, ?_⟩
          rw [evCode_mono (evF_mono tab (Nat.le_max_left m1 m2)) (Nat.le_refl n) c1 h2]
          try simp only [hf]
          exact evCode_mono (evF_mono tab (Nat.le_max_right m1 m2)) (Nat.le_refl n) c2 h3
        · simp at e
      | _ => exact ⟨m1, by rw [h2]; exact e⟩
  | .seqc c1 live c2, s, r, e => by
    simp only [evCode] at e ⊢
    cases h1 : evCode (F tab) n c1 s with
    | none => rw [h1] at e; simp at e
    | some q =>
      rw [h1] at e
      obtain ⟨m1, h2⟩ := evCode_cont c1 h1
      obtain ⟨ex, s'⟩ := q
      cases ex with
      | norm =>
        simp only at e
        obtain ⟨m2, h3⟩ := evCode_cont c2 e
        refine ⟨max m1 m2, ?_⟩
        rw [evCode_mono (evF_mono tab (Nat.le_max_left m1 m2)) (Nat.le_refl n) c1 h2]
        exact evCode_mono (evF_mono tab (Nat.le_max_right m1 m2)) (Nat.le_refl n) c2 h3
      | _ => exact ⟨m1, by rw [h2]; exact e⟩
  | .cond x c1 c2, s, r, e => by
    simp only [evCode] at e ⊢
    split at e
    · rename_i t hx
      cases t with
      | true => exact evCode_cont c1 e
      | false => exact evCode_cont c2 e
    · simp at e
  | .block i live c, s, r, e => by
    simp only [evCode] at e ⊢
    cases h1 : evCode (F tab) n c s with
    | none => rw [h1] at e; simp at e
    | some q =>
      rw [h1] at e
      obtain ⟨m, h2⟩ := evCode_cont c h1
      exact ⟨m, by rw [h2]; exact e⟩
  | .loop live c, s, r, e => by
    simp only [evCode] at e ⊢
    exact evIter_cont (g := fun m => evCode (evF tab m) n c) (fun a b s r h e => evCode_mono (evF_mono tab h) (Nat.le_refl n) c e) (fun s r e => evCode_cont c e) e

theorem V_cont {tab : Nat → Option FnD} {c : RCode} {r : Ex × St} (e : V (F tab) c s = some r) : ∃ m, evCode (evF tab m) m c s = some r := by
  obtain ⟨n, h⟩ := V_some.1 e
  obtain ⟨m, h⟩ := evCode_cont c h
  exact ⟨max n m, evCode_mono (evF_mono tab (Nat.le_max_right n m)) (Nat.le_max_left n m) c h⟩

def enter (rf : RFunc) (args : List PV) (hp : List Ent) : St := ⟨args ++ List.replicate (rf.nt - args.length) .dead, if rf.pure then [] else hp⟩

theorem F_code {tab : Nat → Option FnD} {f : Nat} {rf : RFunc} (hf : tab f = some (.code rf)) {args : List PV} {hp : List Ent} (hh : (rf.pure && !PV.hfrees args) = false) {out : Out}
    (h : fnEnd rf hp (V (F tab) rf.body (enter rf args hp)) = some out) : F tab f args hp = some out := by
  cases h1 : V (F tab) rf.body (enter rf args hp) with
  | none => rw [h1] at h; simp [fnEnd] at h
  | some r =>
    rw [h1] at h
    obtain ⟨m, h2⟩ := V_cont h1
    refine F_some.2 ⟨m + 1, ?_⟩
    simp only [evF, hf, hh, Bool.false_eq_true, if_false]
    unfold enter at h2
    rw [h2]
    exact h

noncomputable def VH (cf : CF) (h : RHand) (vs : List PV) (rv : D) (hp : List Ent) : Option (List Ent) :=
  match V cf h.body ⟨(vs ++ List.replicate (h.nt - vs.length) PV.dead).set h.dst (.d rv), hp⟩ with
  | some (.norm, s) | some (.ret, s) => some s.hp
  | _ => none
noncomputable def VFin (cf : CF) (h : RHand) (vs : List PV) : Option (Ex × St) → Option (Ex × St)
  | some (.norm, s) | some (.ret, s) => (VH cf h vs .nili s.hp).map fun hp => (.ret, { s with hp })
  | some (.pan v, s) => (VH cf h vs v s.hp).map fun hp => (.ret, { s with hp })
  | _ => none
noncomputable def VTri (cf : CF) (h : RHand) : RTri → St → Option (Ex × St)
  | .seq a r, s => seqK (VTri cf h r) (V cf a s)
  | .dfr args post, s => match optAll (args.map fun x => (s.x x).cp) with
    | some vs => if vs.all PV.isPtr then VFin cf h vs (V cf post s) else none
    | none => none

theorem VH_cont {tab : Nat → Option FnD} {h : RHand} {vs : List PV} {rv : D} {hp r : List Ent} (e : VH (F tab) h vs rv hp = some r) : ∃ m, evH (evF tab m) m h vs rv hp = some r := by
  unfold VH at e
  cases h1 : V (F tab) h.body ⟨(vs ++ List.replicate (h.nt - vs.length) PV.dead).set h.dst (.d rv), hp⟩ with
  | none => rw [h1] at e; simp at e
  | some q =>
    rw [h1] at e
    obtain ⟨m, h2⟩ := V_cont h1
    exact ⟨m, by unfold evH; rw [h2]; exact e⟩
theorem VTri_cont {tab : Nat → Option FnD} {h : RHand} : ∀ (t : RTri) {s : St} {r : Ex × St}, VTri (F tab) h t s = some r → ∃ m, evTri (evF tab m) m h t s = some r
  | .seq c t, s, r, e => by
    simp only [VTri] at e
    cases h1 : V (F tab) c s with
    | none => rw [h1] at e; simp [seqK] at e
    | some q =>
      rw [h1] at e
      obtain ⟨m1, h2⟩ := V_cont h1
      obtain ⟨ex, s'⟩ := q
      cases ex with
      | norm =>
        obtain ⟨m2, h3⟩ := VTri_cont t e
        refine ⟨max m1 m2, ?_⟩
        simp only [evTri]
        rw [evCode_mono (evF_mono tab (Nat.le_max_left m1 m2)) (Nat.le_max_left m1 m2) c h2]
        exact evTri_mono (evF_mono tab (Nat.le_max_right m1 m2)) (Nat.le_max_right m1 m2) t h3
      | _ => exact ⟨m1, by simp only [evTri]; rw [h2]; exact e⟩
  | .dfr args post, s, r, e => by
    simp only [VTri] at e
    split at e
    · rename_i vs hvs
      split at e
      · rename_i hp
        cases h1 : V (F tab) post s with
        | none => rw [h1] at e; simp [VFin] at e
        | some q =>
          rw [h1] at e
          obtain ⟨m1, h2⟩ := V_cont h1
          obtain ⟨ex, s'⟩ := q
          have fin : ∀ rv hp', VH (F tab) h vs rv s'.hp = some hp' → triFin (evF tab 0) 0 h vs none = none → ∃ m, m1 ≤ m ∧ evH (evF tab m) m h vs rv s'.hp = some hp' := fun rv hp' hv _ => by
            obtain ⟨m2, h3⟩ := VH_cont hv
            exact ⟨max m1 m2, Nat.le_max_left _ _, evH_mono (evF_mono tab (Nat.le_max_right m1 m2)) (Nat.le_max_right m1 m2) h3⟩
          cases ex with
          | exit i => simp [VFin] at e
          | pan v =>
            simp only [VFin, Option.map_eq_some_iff] at e
            obtain ⟨hp', hv, he⟩ := e
            obtain ⟨m, hle, h3⟩ := fin _ _ hv rfl
            refine ⟨m, ?_⟩
            simp only [evTri, hvs, hp, if_true]
            rw [evCode_mono (evF_mono tab hle) hle post h2]
            simp only [triFin, h3, Option.map_some, he]
          | norm =>
            simp only [VFin, Option.map_eq_some_iff] at e
            obtain ⟨hp', hv, he⟩ := e
            obtain ⟨m, hle, h3⟩ := fin _ _ hv rfl
            refine ⟨m, ?_⟩
            simp only [evTri, hvs, hp, if_true]
            rw [evCode_mono (evF_mono tab hle) hle post h2]
            simp only [triFin, h3, Option.map_some, he]
          | ret =>
            simp only [VFin, Option.map_eq_some_iff] at e
            obtain ⟨hp', hv, he⟩ := e
            obtain ⟨m, hle, h3⟩ := fin _ _ hv rfl
            refine ⟨m, ?_⟩
            simp only [evTri, hvs, hp, if_true]
            rw [evCode_mono (evF_mono tab hle) hle post h2]
            simp only [triFin, h3, Option.map_some, he]
      · simp at e
    · simp at e

theorem F_tri {tab : Nat → Option FnD} {f : Nat} {rf : RFunc} {t : RTri} {h : RHand} (hf : tab f = some (.tri rf t h)) {args : List PV} {hp : List Ent} (hh : (rf.pure && !PV.hfrees args) = false) {out : Out}
    (he : fnEnd rf hp (VTri (F tab) h t (enter rf args hp)) = some out) : F tab f args hp = some out := by
  cases h1 : VTri (F tab) h t (enter rf args hp) with
  | none => rw [h1] at he; simp [fnEnd] at he
  | some r =>
    rw [h1] at he
    obtain ⟨m, h2⟩ := VTri_cont t h1
    refine F_some.2 ⟨m + 1, ?_⟩
    simp only [evF, hf, hh, Bool.false_eq_true, if_false]
    unfold enter at h2
    rw [h2]
    exact he

theorem F_prim {tab : Nat → Option FnD} {f : Nat} {p : List PV → Option PV} (hf : tab f = some (.prim p)) {args : List PV} {hp : List Ent} {v : PV} (h : p args = some v) (hv : v.flat = true) : F tab f args hp = some (.ret v hp) :=
  F_some.2 ⟨1, by simp only [evF, hf, h, hv, if_true]⟩
theorem F_mk {tab : Nat → Option FnD} {f : Nat} {p : List PV → Option (List D)} (hf : tab f = some (.mk p)) {args : List PV} {hp : List Ent} {ys : List D} (h : p args = some ys) : F tab f args hp = some (.ret (.rowh hp.length 0 ys.length) (hp ++ [rowEnt ys])) :=
  F_some.2 ⟨1, by simp only [evF, hf, h]⟩
theorem F_hp {tab : Nat → Option FnD} {f : Nat} {p : List PV → List Ent → Option (PV × List Ent)} (hf : tab f = some (.hp p)) {args : List PV} {hp hp' : List Ent} {v : PV} (h : p args hp = some (v, hp')) (hv : v.flat = true) : F tab f args hp = some (.ret v hp') :=
  F_some.2 ⟨1, by simp only [evF, hf, h, hv, if_true]⟩

end Go.Pe

namespace Go.Pe

def aggT (P : Program) (t : TypeId) : Bool :=
  match P.underlying t with
  | some (.struct _) | some (.array _ _) => true
  | _ => false

mutual
inductive Lift {H : Type} (P : Program) : TypeId → DataW H → List D → Prop where
  | bool {t} (b : Bool) : P.underlying t = some .bool → Lift P t (.lit (.bool b)) [.bool b]
  | int {t} (k : IntKind) (n : Int) : P.underlying t = some (.int k) → (Lit.int k n).wf = true → Lift P t (.lit (.int k n)) [.int k n]
  | str {t} (s : ByteArray) : P.underlying t = some .string → s.size ≤ maxLen → Lift P t (.lit (.string s.data.toList)) [.str s]
  | sl0 {t} (e : TypeId) : P.underlying t = some (.slice e) → Lift P t .nil [.sl []]
  | sl {t} (e : TypeId) (ds spare : List (DataW H)) (xs : List D) : P.underlying t = some (.slice e) → xs.length = ds.length → xs.length ≤ maxLen → (∀ (i : Nat) (x : D), xs[i]? = some x → x.isAgg = aggT P e) → (∀ (i : Nat) (x : D) (d : DataW H), xs[i]? = some x → ds[i]? = some d → Lift P e d x.cells) → Lift P t (.slice ds spare) [.sl xs]
  | st {t} (fs : Array Field) (ds : List (DataW H)) (cs : List D) : P.underlying t = some (.struct fs) → Lifts P (fs.toList.map (·.type)) ds cs → Lift P t (.agg ds) cs
  | arr {t} (n : Nat) (e : TypeId) (ds : List (DataW H)) (cs : List D) : P.underlying t = some (.array n e) → Lifts P ((List.range n).map fun _ => e) ds cs → Lift P t (.agg ds) cs
inductive Lifts {H : Type} (P : Program) : List TypeId → List (DataW H) → List D → Prop where
  | nil : Lifts P [] [] []
  | cons {t ts d ds a b} : Lift P t d a → Lifts P ts ds b → Lifts P (t :: ts) (d :: ds) (a ++ b)
end

def segsOk {α : Type} (P : Program) (L : List TypeId) (ty : α → TypeId) (off : α → Nat) (total : Nat) : Nat → List α → Bool
  | o, [] => o == total
  | o, x :: r => off x == o && L.contains (ty x) && segsOk P L ty off total (o + P.cellsOf (ty x)) r

def tyOk (P : Program) (L : List TypeId) (t : TypeId) : Bool :=
  match P.underlying t with
  | some .bool | some (.int _) | some .string => P.cellsOf t == 1
  | some (.slice e) => P.cellsOf t == 1 && L.contains e && P.cellsOf e != 0 && (aggT P e || P.cellsOf e == 1)
  | some (.struct fs) => segsOk P L (fun f : Field => f.type) (fun f => f.offset) (P.cellsOf t) 0 fs.toList
  | some (.array n e) => segsOk P L (fun _ : Nat => e) (fun i => i * P.cellsOf e) (P.cellsOf t) 0 (List.range n)
  | _ => false

theorem mapM_get {α β : Type} {f : α → Option β} : ∀ {l : List α} {ys : List β}, l.mapM f = some ys → ys.length = l.length ∧ ∀ (i : Nat) (x : α), l[i]? = some x → ∃ y, ys[i]? = some y ∧ f x = some y
  | [], ys, h => by
    simp only [List.mapM_nil] at h
    cases h
    exact ⟨rfl, by simp⟩
  | a :: l, ys, h => by
    simp only [List.mapM_cons, Option.bind_eq_bind, Option.bind_eq_some_iff] at h
    obtain ⟨b, h1, bs, h2, h3⟩ := h
    cases h3
    obtain ⟨i1, i2⟩ := mapM_get h2
    refine ⟨by simp [i1], ?_⟩
    intro i x hi
    cases i with
    | zero => simp at hi; subst hi; exact ⟨b, rfl, h1⟩
    | succ i => exact i2 i x (by simpa using hi)

section
variable {H : Type} {enc : TypeId × Value → H} {P : Program} {w : World} {base : Nat} {sp : Nat → Bool} {held : Bool} {L : List TypeId}

def All2 (_ _ : Nat) : Prop := True

def Lifted (P : Program) (w : World) (t : TypeId) (cs : List Value) (d : DataW H) (xs : List D) : Prop :=
  Lift P t d xs ∧ xs.length = cs.length ∧ xs.length = P.cellsOf t ∧ (∀ x ∈ xs, x.isAgg = false) ∧ ∀ (j : Nat) (x : D) (v : Value), xs[j]? = some x → cs[j]? = some v → DRep All2 w x v

theorem lift_segs {α : Type} {ty : α → TypeId} {off : α → Nat} {cs : List Value} {n : Nat}
    (ih : ∀ t cs d ps, L.contains t = true → DataW.trod enc P w base sp held n t cs = some (d, ps) → ∃ xs, Lifted P w t cs d xs) {total : Nat} (hcs : cs.length = total) :
    ∀ (l : List α) (o : Nat), segsOk P L ty off total o l = true → ∀ {ys : List (DataW H × List MemPlace)}, l.mapM (fun x => DataW.trod enc P w base sp held n (ty x) ((cs.drop (off x)).take (P.cellsOf (ty x)))) = some ys →
      ∃ xs, Lifts P (l.map ty) (ys.map (·.1)) xs ∧ o + xs.length = total ∧ (∀ x ∈ xs, x.isAgg = false) ∧ ∀ (j : Nat) (x : D) (v : Value), xs[j]? = some x → cs[o + j]? = some v → DRep All2 w x v
  | [], o, hk, ys, h => by
    simp only [segsOk, beq_iff_eq] at hk
    simp only [List.mapM_nil] at h
    cases h
    exact ⟨[], .nil, by simpa using hk, by simp, by simp⟩
  | a :: l, o, hk, ys, h => by
    simp only [segsOk, Bool.and_eq_true, beq_iff_eq] at hk
    obtain ⟨⟨h1, h2⟩, h3⟩ := hk
    simp only [List.mapM_cons, Option.bind_eq_bind, Option.bind_eq_some_iff] at h
    obtain ⟨⟨d, p⟩, h4, bs, h5, h6⟩ := h
    cases h6
    obtain ⟨xs, k1, k2, k3, k4⟩ := lift_segs ih hcs l _ h3 h5
    obtain ⟨as1, a1, a2, a3, a4, a5⟩ := ih _ _ _ _ h2 h4
    refine ⟨as1 ++ xs, .cons a1 k1, by simp only [List.length_append, a3]; omega, ?_, ?_⟩
    · intro x hx
      rcases List.mem_append.1 hx with hx | hx
      · exact a4 x hx
      · exact k3 x hx
    · intro j x v hj hv
      by_cases hlt : j < as1.length
      · rw [List.getElem?_append_left hlt] at hj
        refine a5 j x v hj ?_
        rw [List.getElem?_take_of_lt (by omega), List.getElem?_drop, h1]
        exact hv
      · rw [List.getElem?_append_right (by omega)] at hj
        refine k4 _ x v hj ?_
        rw [show o + P.cellsOf (ty a) + (j - as1.length) = o + j by omega]
        exact hv

theorem Lift.agg_cells {t : TypeId} {d : DataW H} {xs : List D} (h : Lift P t d xs) (ha : aggT P t = false) : xs.length = 1 := by
  cases h with
  | st fs ds cs h1 _ => simp [aggT, h1] at ha
  | arr n e ds cs h1 _ => simp [aggT, h1] at ha
  | _ => rfl

def mkD (agg : Bool) (xs : List D) : D := if agg then .agg xs else xs.headD .nilp

theorem mkD_cells {agg : Bool} {xs : List D} (h : agg = false → xs.length = 1) (ha : ∀ x ∈ xs, x.isAgg = false) : (mkD agg xs).cells = xs ∧ (mkD agg xs).isAgg = agg := by
  cases agg with
  | true => exact ⟨rfl, rfl⟩
  | false =>
    have h1 := h rfl
    match xs, h1 with
    | [x], _ =>
      have := ha x (by simp)
      cases x <;> first | exact ⟨rfl, rfl⟩ | (simp [D.isAgg] at this)

theorem add_add {b o i j : Nat} : ((⟨b, o, none⟩ : Addr).add i).add j = ⟨b, o + i + j, none⟩ := by
  unfold Addr.add
  by_cases hi : i = 0 <;> by_cases hj : j = 0 <;> simp [hi, hj, Nat.add_assoc]

theorem lift_cells (hL : ∀ t ∈ L, tyOk P L t = true) : ∀ (n : Nat) (t : TypeId) (cs : List Value) (d : DataW H) (ps : List MemPlace), L.contains t = true →
    DataW.trod enc P w base sp held n t cs = some (d, ps) → ∃ xs, Lifted P w t cs d xs := by
  intro n
  induction n with
  | zero => intro t cs d ps _ h; simp [DataW.trod] at h
  | succ n ih =>
    intro t cs d ps ht h
    have hk := hL t (by simpa using ht)
    unfold tyOk at hk
    simp only [DataW.trod] at h
    split at hk
    · rename_i hu
      rw [hu] at h
      split at h <;> simp_all
      rename_i b
      obtain ⟨rfl, _⟩ := h
      refine ⟨[.bool b], .bool b hu, by simp, by simp [hk], by simp [D.isAgg], ?_⟩
      intro j x v hj hv
      cases j <;> simp at hj hv
      subst hj hv
      exact .bool b
    · rename_i k hu
      rw [hu] at h
      cases cs with
      | nil => simp at h
      | cons v r =>
        cases r with
        | cons v2 r => simp at h
        | nil =>
          cases v <;> simp only [reduceCtorEq] at h
          rename_i k' m
          split at h
          · rename_i hc
            obtain ⟨rfl, hwf⟩ := hc
            simp only [Option.some.injEq, Prod.mk.injEq] at h
            obtain ⟨rfl, _⟩ := h
            simp only [beq_iff_eq] at hk
            refine ⟨[.int k' m], .int k' m hu hwf, by simp, by simp [hk], by simp [D.isAgg], ?_⟩
            intro j x v hj hv
            cases j <;> simp at hj hv
            subst hj hv
            exact .int k' m
          · simp at h
    · rename_i hu
      rw [hu] at h
      split at h <;> simp_all
      rename_i s
      obtain ⟨hsz, rfl, _⟩ := h
      refine ⟨[.str s], .str s hu hsz, by simp, by simp [hk], by simp [D.isAgg], ?_⟩
      intro j x v hj hv
      cases j <;> simp at hj hv
      subst hj hv
      exact .str s
    · rename_i e hu
      simp only [Bool.and_eq_true, beq_iff_eq, bne_iff_ne, ne_eq, Bool.or_eq_true] at hk
      obtain ⟨⟨⟨hk1, hk2⟩, hk3⟩, hk4⟩ := hk
      rw [hu] at h
      have hcs : cs = [.slice none 0 0] ∨ ∃ a len cap, cs = [.slice (some a) len cap] := by
        split at h <;> simp_all
      rcases hcs with rfl | ⟨a, len, cap, rfl⟩
      · simp only [Option.some.injEq, Prod.mk.injEq] at h
        obtain ⟨rfl, _⟩ := h
        refine ⟨[.sl []], .sl0 e hu, by simp, by simp [hk1], by simp [D.isAgg], ?_⟩
        intro j x v hj hv
        cases j <;> simp at hj hv
        subst hj hv
        exact .sl0 none 0
      · simp only at h
        split at h
        · rename_i hb
          obtain ⟨hb1, hb2, hb3⟩ := hb
          simp only [Option.bind_eq_some_iff, Option.map_eq_some_iff, Prod.mk.injEq] at h
          obtain ⟨elems, he, rest, hr, rfl, _⟩ := h
          obtain ⟨g1, g2⟩ := mapM_get he
          simp only [List.length_range] at g1
          have hel : ∀ i, i < len → ∃ y vs xs, elems[i]? = some y ∧ w.cells? base (a.add (i * P.cellsOf e)) (P.cellsOf e) = some vs ∧ Lifted P w e vs y.1 xs := by
            intro i hi
            obtain ⟨y, h1, h2⟩ := g2 i i (by simp [hi])
            simp only [Option.bind_eq_some_iff] at h2
            obtain ⟨vs, h3, h4⟩ := h2
            obtain ⟨xs, h5⟩ := ih e vs y.1 y.2 hk2 h4
            exact ⟨y, vs, xs, h1, h3, h5⟩
          have hcell : ∀ i vs, w.cells? base (a.add (i * P.cellsOf e)) (P.cellsOf e) = some vs → vs.length = P.cellsOf e ∧ ∀ j, j < P.cellsOf e → ∃ v, vs[j]? = some v ∧ w.cell? ((a.add (i * P.cellsOf e)).add j) = some v := by
            intro i vs hv
            unfold World.cells? at hv
            split at hv
            · obtain ⟨q1, q2⟩ := mapM_get hv
              refine ⟨by simpa using q1, fun j hj => ?_⟩
              exact q2 j j (by simp [hj])
            · simp at hv
          cases len with
          | zero =>
            have : elems = [] := List.eq_nil_of_length_eq_zero g1
            subst this
            refine ⟨[.sl []], .sl e (([] : List (DataW H × List MemPlace)).map (·.1)) (rest.map (·.1)) [] hu rfl (by simp) (by simp) (by simp), by simp, by simp [hk1], by simp [D.isAgg], ?_⟩
            intro j x v hj hv
            cases j <;> simp at hj hv
            subst hj hv
            exact .sl0 (some a) cap
          | succ len =>
            have hsp : a.spot = none := by
              obtain ⟨y, vs, xs, _, h1, _⟩ := hel 0 (by omega)
              obtain ⟨_, h2⟩ := hcell 0 vs h1
              obtain ⟨v, _, h3⟩ := h2 0 (by omega)
              simp only [Nat.zero_mul, Addr.add, if_true] at h3
              unfold World.cell? at h3
              split at h3
              · split at h3
                · simp at h3
                · rename_i hns; simpa using hns
              · simp at h3
            obtain ⟨b, o, spot⟩ := a
            simp only at hsp
            subst hsp
            -- the elements
            have hch : ∃ xs : List D, xs.length = elems.length ∧ ∀ (i : Nat) (x : D), xs[i]? = some x → ∃ y vs zs, elems[i]? = some y ∧ w.cells? base ((⟨b, o, none⟩ : Addr).add (i * P.cellsOf e)) (P.cellsOf e) = some vs ∧ Lifted P w e vs y.1 zs ∧ x = mkD (aggT P e) zs := by
              have key : ∀ m, m ≤ elems.length → ∃ xs : List D, xs.length = m ∧ ∀ (i : Nat) (x : D), xs[i]? = some x → ∃ y vs zs, elems[i]? = some y ∧ w.cells? base ((⟨b, o, none⟩ : Addr).add (i * P.cellsOf e)) (P.cellsOf e) = some vs ∧ Lifted P w e vs y.1 zs ∧ x = mkD (aggT P e) zs := by
                intro m
                induction m with
                | zero => exact fun _ => ⟨[], rfl, by simp⟩
                | succ m ihm =>
                  intro hm
                  obtain ⟨xs, x1, x2⟩ := ihm (by omega)
                  obtain ⟨y, vs, zs, y1, y2, y3⟩ := hel m (by omega)
                  refine ⟨xs ++ [mkD (aggT P e) zs], by simp [x1], ?_⟩
                  intro i x hi
                  by_cases hlt : i < xs.length
                  · rw [List.getElem?_append_left hlt] at hi
                    exact x2 i x hi
                  · have him : i = m := by
                      have := (List.getElem?_eq_some_iff.1 hi).1
                      simp at this
                      omega
                    subst him
                    rw [List.getElem?_append_right (by omega)] at hi
                    simp [x1] at hi
                    subst hi
                    exact ⟨y, vs, zs, y1, y2, y3, rfl⟩
              exact key elems.length (Nat.le_refl _)
            obtain ⟨xs, x1, x2⟩ := hch
            have x3 : ∀ (i : Nat) (x : D), xs[i]? = some x → ∃ y vs, elems[i]? = some y ∧ w.cells? base ((⟨b, o, none⟩ : Addr).add (i * P.cellsOf e)) (P.cellsOf e) = some vs ∧ Lifted P w e vs y.1 x.cells ∧ x.isAgg = aggT P e := by
              intro i x hi
              obtain ⟨y, vs, zs, y1, y2, y3, rfl⟩ := x2 i x hi
              obtain ⟨m1, m2⟩ := mkD_cells (agg := aggT P e) (xs := zs) (fun ha => y3.1.agg_cells ha) y3.2.2.2.1
              exact ⟨y, vs, y1, y2, by rw [m1]; exact y3, m2⟩
            refine ⟨[.sl xs], .sl e (elems.map (·.1)) (rest.map (·.1)) xs hu (by simp [x1]) (by omega) ?_ ?_, by simp, by simp [hk1], by simp [D.isAgg], ?_⟩
            · intro i x hi
              obtain ⟨y, vs, y1, y2, y3, y4⟩ := x3 i x hi
              exact y4
            · intro i x d hi hd
              obtain ⟨y, vs, y1, y2, y3, y4⟩ := x3 i x hi
              rw [List.getElem?_map, y1] at hd
              simp only [Option.map_some, Option.some.injEq] at hd
              subst hd
              exact y3.1
            · intro j x v hj hv
              cases j <;> simp at hj hv
              subst hj hv
              have hlen : xs.length = len + 1 := by omega
              rw [← hlen]
              have full : ∀ (i : Nat) (x : D) (j : Nat) (c : D), xs[i]? = some x → x.cells[j]? = some c → ∃ u, w.cell? ⟨b, o + i * P.cellsOf e + j, none⟩ = some u ∧ DRep All2 w c u := by
                intro i x j c hi hj
                obtain ⟨y, vs, y1, y2, y3, y4⟩ := x3 i x hi
                obtain ⟨q1, q2⟩ := hcell i vs y2
                have hjlt : j < P.cellsOf e := by
                  have := (List.getElem?_eq_some_iff.1 hj).1
                  rw [y3.2.2.1] at this
                  exact this
                obtain ⟨u, u1, u2⟩ := q2 j hjlt
                rw [add_add] at u2
                exact ⟨u, u2, y3.2.2.2.2 j c u hj u1⟩
              refine .sl xs b o (P.cellsOf e) cap (fun i j => (w.cell? ⟨b, o + i * P.cellsOf e + j, none⟩).getD undef) (by omega) ?_ ?_ ?_ ?_
              · intro x hx
                obtain ⟨i, hi, rfl⟩ := List.getElem_of_mem hx
                obtain ⟨y, vs, y1, y2, y3, y4⟩ := x3 i _ (List.getElem?_eq_getElem hi)
                exact y3.2.2.1
              · intro x hx c hc
                obtain ⟨i, hi, rfl⟩ := List.getElem_of_mem hx
                obtain ⟨y, vs, y1, y2, y3, y4⟩ := x3 i _ (List.getElem?_eq_getElem hi)
                exact y3.2.2.2.1 c hc
              · intro i x j c hi hj
                obtain ⟨u, h1, h2⟩ := full i x j c hi hj
                exact ⟨by rw [h1]; rfl, trivial⟩
              · intro i x j c hi hj
                obtain ⟨u, h1, h2⟩ := full i x j c hi hj
                simp only [h1, Option.getD_some]
                exact h2
        · simp at h
    · rename_i fs hu
      rw [hu] at h
      simp only at h
      split at h
      · rename_i hlen
        simp only [Option.map_eq_some_iff, Prod.mk.injEq] at h
        obtain ⟨ys, h1, rfl, _⟩ := h
        obtain ⟨xs, k1, k2, k3, k4⟩ := lift_segs (ty := fun f : Field => f.type) (off := fun f => f.offset) ih hlen fs.toList 0 hk h1
        refine ⟨xs, .st fs _ _ hu k1, by omega, by omega, k3, ?_⟩
        intro j x v hj hv
        exact k4 j x v hj (by simpa using hv)
      · simp at h
    · rename_i m e hu
      rw [hu] at h
      simp only at h
      split at h
      · rename_i hlen
        simp only [Option.map_eq_some_iff, Prod.mk.injEq] at h
        obtain ⟨ys, h1, rfl, _⟩ := h
        obtain ⟨xs, k1, k2, k3, k4⟩ := lift_segs (ty := fun _ : Nat => e) (off := fun i => i * P.cellsOf e) ih hlen (List.range m) 0 hk h1
        refine ⟨xs, .arr m e _ _ hu k1, by omega, by omega, k3, ?_⟩
        intro j x v hj hv
        exact k4 j x v hj (by simpa using hv)
      · simp at h
    · simp at hk
end
end Go.Pe

namespace Go.Pe
open Go.ChangeShapes Go.WideShapes Go.ChangeAt Go.RowKit

def LiftArgs {H : Type} (P : Program) : List TypeId → List (DataW H) → List D → Prop
  | [], [], [] => True
  | t :: ts, d :: ds, x :: xs => (Lift P t d x.cells ∧ x.isAgg = aggT P t) ∧ LiftArgs P ts ds xs
  | _, _, _ => False

section
variable {H : Type} {enc : TypeId × Value → H} {P : Program} {w : World} {base b0 : Nat} {sp : Nat → Bool} {held : Bool} {L : List TypeId}

theorem lift_arg (hL : ∀ t ∈ L, tyOk P L t = true) {t : TypeId} {v : Value} {d : DataW H} {p : List MemPlace} (ht : L.contains t = true) (h : DataW.Trod enc P w base sp held t v d p) (hv : Value.okWide P w .any b0 t v) :
    ∃ x : D, DRep All2 w x v ∧ Lift P t d x.cells ∧ x.isAgg = aggT P t := by
  obtain ⟨fuel, hf⟩ := h
  obtain ⟨xs, l1, l2, l3, l4, l5⟩ := lift_cells hL fuel t _ d p ht hf
  have hk := hL t (by simpa using ht)
  cases ha : aggT P t with
  | true =>
    have hagg : ∃ cs, v = .agg cs := by
      unfold aggT at ha
      unfold Value.okWide at hv
      split at ha
      · rename_i hu; rw [hu] at hv; obtain ⟨cs, h1, _⟩ := hv; exact ⟨cs, h1⟩
      · rename_i hu; rw [hu] at hv; obtain ⟨cs, h1, _⟩ := hv; exact ⟨cs, h1⟩
      · simp at ha
    obtain ⟨cs, rfl⟩ := hagg
    refine ⟨.agg xs, .agg xs cs (by simpa [Value.cells] using l2.symm) l4 ?_, l1, rfl⟩
    intro j c v hj hv
    exact l5 j c v hj (by simpa [Value.cells] using hv)
  | false =>
    have hone := l1.agg_cells ha
    match xs, hone with
    | [x], _ =>
      have hx := l4 x (by simp)
      have hxc : x.cells = [x] := by cases x <;> first | rfl | (simp [D.isAgg] at hx)
      have hnagg : v.cells = #[v] := by
        cases v <;> try rfl
        rename_i cs
        exfalso
        unfold Value.okWide at hv
        unfold tyOk at hk
        unfold aggT at ha
        split at hv
        · rename_i hu; rw [hu] at ha; simp at ha
        · rename_i hu; rw [hu] at ha; simp at ha
        · unfold Cell.okWide Cell.ok at hv
          split at hv <;> simp_all
      refine ⟨x, l5 0 x v rfl (by rw [hnagg]; rfl), by rw [hxc]; exact l1, hx⟩

theorem lift_args (hL : ∀ t ∈ L, tyOk P L t = true) : ∀ {ts : List TypeId} {vs : List Value} {ds : List (DataW H)} {p : List MemPlace}, (∀ t ∈ ts, L.contains t = true) → DataW.TrodAll enc P w base sp held ts vs ds p →
    (∀ (j : Nat) t v, ts[j]? = some t → vs[j]? = some v → Value.okWide P w .any b0 t v) → ∃ xs : List D, LiftArgs P ts ds xs ∧ xs.length = vs.length ∧ ∀ (j : Nat) (x : D) (v : Value), xs[j]? = some x → vs[j]? = some v → DRep All2 w x v
  | [], vs, ds, p, _, h, _ => by
    obtain ⟨rfl, rfl, rfl⟩ := trodAll_nil h
    exact ⟨[], trivial, rfl, by simp⟩
  | t :: ts, vs, ds, p, ht, h, hv => by
    obtain ⟨v, vs1, d, ds1, a, b, rfl, rfl, rfl, h1, h2⟩ := trodAll_cons h
    obtain ⟨x, x1, x2⟩ := lift_arg hL (ht t (by simp)) h1 (hv 0 t v rfl rfl)
    obtain ⟨xs, y1, y2, y3⟩ := lift_args hL (fun t h => ht t (by simp [h])) h2 (fun j t v h1 h2 => hv (j + 1) t v (by simpa using h1) (by simpa using h2))
    refine ⟨x :: xs, ⟨x2, y1⟩, by simp [y2], ?_⟩
    intro j c u hj hu
    cases j with
    | zero => simp at hj hu; subst hj hu; exact x1
    | succ j => exact y3 j c u (by simpa using hj) (by simpa using hu)

def g0 : G := { κ := fun _ => none, tip := fun _ => 0, bb := fun _ => 0, nb := 0 }

theorem args_rep {l : Loc} : ∀ {xs : List D} {vs : List Value}, xs.length = vs.length → (∀ (j : Nat) (x : D) (v : Value), xs[j]? = some x → vs[j]? = some v → DRep All2 w x v) → RepFs P g0 w l (xs.map PV.d) vs
  | [], [], _, _ => by simp only [List.map_nil, RepFs]
  | x :: xs, v :: vs, hl, h => by
    simp only [List.map_cons, RepFs, RepF]
    refine ⟨(h 0 x v rfl rfl).mono fun b i u hc _ => ⟨hc, .inl rfl⟩, args_rep (by simpa using hl) fun j x v h1 h2 => h (j + 1) x v (by simpa using h1) (by simpa using h2)⟩
  | [], _ :: _, hl, _ => by simp at hl
  | _ :: _, [], hl, _ => by simp at hl

theorem plains_d : ∀ (xs : List D), PV.plains (xs.map PV.d) = true
  | [] => rfl
  | x :: xs => by simp only [List.map_cons, PV.plains, PV.plain, plains_d xs, Bool.and_self]

theorem law_calls {tab : Nat → Option FnD} {pf : Nat → Bool} (hpf : PfOk pf tab) (ht : TabOk P pf tab) {f : Nat} {xs : List D} {vs : List Value} (hlen : xs.length = vs.length)
    (hr : ∀ (j : Nat) (x : D) (v : Value), xs[j]? = some x → vs[j]? = some v → DRep All2 w x v) {hp : List Ent} (hF : F tab f (xs.map PV.d) [] = some (.ret (.d (.bool true)) hp)) :
    Calls P f vs.toArray w fun e w' => e = .returned (.bool true) ∧ Below w.heap.size w w' := by
  obtain ⟨n, hn⟩ := F_some.1 hF
  refine ((evF_sound hpf ht n).calls f _ _ _ hn (plains_d xs) g0 w vs (.ret 0) (args_rep hlen hr) ⟨rfl, by simp, fun _ _ h => by simp at h⟩).mono ?_
  rintro e w' ⟨g', hc, u, rfl, hu, _⟩
  have hu' : DRep g'.stab w' (.bool true) u := hu
  cases hu'
  exact ⟨rfl, ⟨hc.os, hc.tape, hc.output, hc.size, fun k hk => (hc.free k hk rfl).2⟩⟩

theorem back_all (hl : laidOutB P = true) : ∀ {ts : List TypeId} {vs : List Value} {ds : List (DataW H)} {p : List MemPlace} {W W' : World}, (∀ t ∈ ts, P.readableRec t = true ∧ t < P.types.size) → DataW.TrodAll enc P W 0 (fun _ => true) true ts vs ds p → Below W.heap.size W W' →
    ∃ p', DataW.TrodAll enc P W' 0 (fun b => decide (b < W.heap.size)) true ts vs ds p'
  | [], vs, ds, p, W, W', _, h, _ => by
    obtain ⟨rfl, rfl, rfl⟩ := trodAll_nil h
    exact ⟨[], trodAll_mk0⟩
  | t :: ts, vs, ds, p, W, W', ht, h, hb => by
    obtain ⟨v, vs1, d, ds1, a, b, rfl, rfl, rfl, h1, h2⟩ := trodAll_cons h
    obtain ⟨q, hq⟩ := back_all hl (fun t h => ht t (by simp [h])) h2 hb
    have hlt : ∀ x ∈ a, x.block < W.heap.size := by obtain ⟨m, hm⟩ := h1; exact DataW.trod_lt m _ _ _ hm
    exact ⟨_, trodAll_cons_mk (Below.trod hl (ht t (by simp)).1 (ht t (by simp)).2 h1 hb hlt) hq⟩

theorem LiftArgs.len : ∀ {ts : List TypeId} {ds : List (DataW H)} {xs : List D}, LiftArgs P ts ds xs → ds.length = ts.length
  | [], [], [], _ => rfl
  | t :: ts, d :: ds, x :: xs, h => by simp [h.2.len]
  | [], _ :: _, _, h => by simp [LiftArgs] at h
  | [], [], _ :: _, h => by simp [LiftArgs] at h
  | _ :: _, [], _, h => by simp [LiftArgs] at h
  | _ :: _, _ :: _, [], h => by simp [LiftArgs] at h

theorem law_contract {tab : Nat → Option FnD} {pf : Nat → Bool} (hpf : PfOk pf tab) (ht : TabOk P pf tab) (hl : laidOutB P = true) {f : Nat} {fn : Func} {s : ChangeSpec} (hvars : s.vars = [])
    (hL : ∀ t ∈ L, tyOk P L t = true) (hps : ∀ t ∈ fn.params.toList, L.contains t = true ∧ P.readableRec t = true ∧ t < P.types.size) {tb : TypeId} (hres : fn.resultTypes = #[tb]) (hb : P.underlying tb = some .bool)
    (hfn : ∀ ds : List (DataW H), ds.length = fn.params.toList.length → s.fn H ds = { results := [.lit (.bool true)], args := ds })
    {W : World} {args : Array Value} {ds gs : List (DataW H)} {before : List MemPlace} (hval : ∀ (j : Nat) t v, fn.params[j]? = some t → args[j]? = some v → Value.okWide P W .any b0 t v)
    (hW : DataW.Whole enc P fn.params.toList s.vars false W args.toList ds gs before)
    (law : ∀ xs, LiftArgs P fn.params.toList ds xs → ∃ hp, F tab f (xs.map PV.d) [] = some (.ret (.d (.bool true)) hp)) :
    Calls P f args W fun e W' => ∃ v, e = .returned v ∧ s.post enc P fn false true false false W args v W' := by
  have hW' := hW
  obtain ⟨p, q, hA, hV, rfl, hfz, hnd⟩ := hW
  rw [hvars] at hV
  obtain ⟨rfl, rfl⟩ := trodVars_none hV
  obtain ⟨xs, x1, x2, x3⟩ := lift_args (b0 := b0) hL (fun t h => (hps t h).1) hA (fun j t v h1 h2 => hval j t v (by simpa using h1) (by simpa using h2))
  obtain ⟨hp, hF⟩ := law xs x1
  refine (law_calls hpf ht x2 x3 hF).mono ?_
  rintro e W' ⟨rfl, bel⟩
  obtain ⟨pa, hpa⟩ := back_all hl (fun t h => (hps t h).2) hA bel
  have hd : s.fn H (ds ++ []) = { results := [.lit (.bool true)], args := ds } := by rw [List.append_nil]; exact hfn ds x1.len
  refine ⟨_, rfl, ds, [], _, [], pa, [], hW', ?_, ?_, ?_, bel.frame _, fun h => by cases h⟩
  · rw [hd, hres]
    exact trodAll_mk1 (shut_bool hb _)
  · rw [hd]; exact hpa
  · rw [hd, hvars]; rfl
end
end Go.Pe

namespace Go.Pe

abbrev Tabl := List (Nat × RFunc)

def find {α : Type} : List (Nat × α) → Nat → Option α
  | [], _ => none
  | (k, v) :: r, f => if f == k then some v else find r f

theorem find_mem {α : Type} : ∀ {l : List (Nat × α)} {f : Nat} {v : α}, find l f = some v → (f, v) ∈ l
  | [], f, v, h => by simp [find] at h
  | (k, u) :: r, f, v, h => by
    simp only [find] at h
    split at h
    · rename_i hk
      simp only [Option.some.injEq] at h
      simp only [beq_iff_eq] at hk
      subst hk h
      simp
    · exact List.mem_cons_of_mem _ (find_mem h)

def tabOf (l : Tabl) (ps : List (Nat × (List PV → Option PV))) (ms : List (Nat × (List PV → Option (List D)))) (f : Nat) : Option FnD :=
  match find l f with
  | some rf => some (.code rf)
  | none => match find ps f with
    | some p => some (.prim p)
    | none => (find ms f).map .mk

abbrev Tril := List (Nat × RFunc × RTri × RHand)
def tabOf4 (l : Tabl) (ps : List (Nat × (List PV → Option PV))) (ms : List (Nat × (List PV → Option (List D)))) (qs : Tril) (f : Nat) : Option FnD :=
  match tabOf l ps ms f with
  | some d => some d
  | none => (find qs f).map fun q => .tri q.1 q.2.1 q.2.2

def triAll (P : Program) (pf : Nat → Bool) (l : Tril) : Bool := l.all fun p => fnOkT P pf p.1 p.2.1 p.2.2.1 p.2.2.2

def triPure (qs : Tril) (f : Nat) : Bool :=
  match find qs f with
  | some q => q.1.pure
  | none => false
def pfOf (l : Tabl) (ps : List Nat) (f : Nat) : Bool :=
  match find l f with
  | some rf => rf.pure
  | none => ps.contains f

def tabAll (P : Program) (pf : Nat → Bool) (l : Tabl) : Bool := l.all fun p => fnOk P pf p.1 p.2

theorem tabOf_pf (l : Tabl) (ps : List (Nat × (List PV → Option PV))) (ms : List (Nat × (List PV → Option (List D)))) (qs : List Nat) (hm : (ms.all fun p => !pfOf l qs p.1) = true) : PfOk (pfOf l qs) (tabOf l ps ms) := by
  constructor
  · intro f rf h1 h2
    unfold tabOf at h2
    unfold pfOf at h1
    split at h2
    · rename_i rf' hf
      simp only [Option.some.injEq, FnD.code.injEq] at h2
      subst h2
      rw [hf] at h1
      exact h1
    · split at h2
      · simp at h2
      · obtain ⟨_, _, h3⟩ := Option.map_eq_some_iff.1 h2
        cases h3
  · refine ⟨?_, ?_, ?_⟩
    · intro f p h1 h2
      unfold tabOf at h2
      split at h2
      · simp at h2
      · split at h2
        · simp at h2
        · obtain ⟨q, h3, h4⟩ := Option.map_eq_some_iff.1 h2
          have := List.all_eq_true.1 hm _ (find_mem h3)
          rw [h1] at this
          simp at this
    · intro f p h1 h2
      unfold tabOf at h2
      split at h2
      · simp at h2
      · split at h2
        · simp at h2
        · obtain ⟨q, h3, h4⟩ := Option.map_eq_some_iff.1 h2
          cases h4
    · intro f rf t h h1 h2
      unfold tabOf at h2
      split at h2
      · simp at h2
      · split at h2
        · simp at h2
        · obtain ⟨q, h3, h4⟩ := Option.map_eq_some_iff.1 h2
          cases h4

theorem tabOf4_pf {pf : Nat → Bool} {l : Tabl} {ps : List (Nat × (List PV → Option PV))} {ms : List (Nat × (List PV → Option (List D)))} {qs : Tril} (h : PfOk pf (tabOf l ps ms)) (hq : (qs.all fun q => q.2.1.pure) = true) : PfOk pf (tabOf4 l ps ms qs) := by
  refine ⟨?_, ?_, ?_, ?_⟩
  · intro f rf h1 h2
    unfold tabOf4 at h2
    split at h2
    · rename_i d hd
      simp only [Option.some.injEq] at h2
      subst h2
      exact h.1 f rf h1 hd
    · obtain ⟨q, _, h4⟩ := Option.map_eq_some_iff.1 h2
      cases h4
  · intro f p h1 h2
    unfold tabOf4 at h2
    split at h2
    · rename_i d hd
      simp only [Option.some.injEq] at h2
      subst h2
      exact h.2.1 f p h1 hd
    · obtain ⟨q, _, h4⟩ := Option.map_eq_some_iff.1 h2
      cases h4
  · intro f p h1 h2
    unfold tabOf4 at h2
    split at h2
    · rename_i d hd
      simp only [Option.some.injEq] at h2
      subst h2
      exact h.2.2.1 f p h1 hd
    · obtain ⟨q, _, h4⟩ := Option.map_eq_some_iff.1 h2
      cases h4
  · intro f rf t hd h1 h2
    unfold tabOf4 at h2
    split at h2
    · rename_i d hd'
      simp only [Option.some.injEq] at h2
      subst h2
      exact h.2.2.2 f rf t hd h1 hd'
    · obtain ⟨q, h3, h4⟩ := Option.map_eq_some_iff.1 h2
      cases h4
      exact List.all_eq_true.1 hq _ (find_mem h3)

abbrev Hpl := List (Nat × (List PV → List Ent → Option (PV × List Ent)))
def tabH (t : Nat → Option FnD) (hs : Hpl) (f : Nat) : Option FnD :=
  match t f with
  | some d => some d
  | none => (find hs f).map .hp
theorem tabH_pf {pf : Nat → Bool} {t : Nat → Option FnD} {hs : Hpl} (h : PfOk pf t) (hh : (hs.all fun p => !pf p.1) = true) : PfOk pf (tabH t hs) := by
  have key : ∀ f d, tabH t hs f = some d → t f = some d ∨ ∃ p, (f, p) ∈ hs ∧ d = .hp p := by
    intro f d hd
    unfold tabH at hd
    split at hd
    · rename_i d' hd'
      simp only [Option.some.injEq] at hd
      subst hd
      exact .inl hd'
    · obtain ⟨q, h3, h4⟩ := Option.map_eq_some_iff.1 hd
      exact .inr ⟨q, find_mem h3, h4.symm⟩
  refine ⟨?_, ?_, ?_, ?_⟩
  · intro f rf h1 h2
    rcases key f _ h2 with h3 | ⟨p, _, h3⟩
    · exact h.1 f rf h1 h3
    · cases h3
  · intro f p h1 h2
    rcases key f _ h2 with h3 | ⟨p, _, h3⟩
    · exact h.2.1 f _ h1 h3
    · cases h3
  · intro f p h1 h2
    rcases key f _ h2 with h3 | ⟨p, h4, h3⟩
    · exact h.2.2.1 f _ h1 h3
    · have := List.all_eq_true.1 hh _ h4
      rw [h1] at this
      simp at this
  · intro f rf tt hd h1 h2
    rcases key f _ h2 with h3 | ⟨p, _, h3⟩
    · exact h.2.2.2 f rf tt hd h1 h3
    · cases h3
theorem tabH_ok {P : Program} {pf : Nat → Bool} {t : Nat → Option FnD} {hs : Hpl} (h : TabOk P pf t) (hh : ∀ p ∈ hs, HpSound P p.1 p.2) : TabOk P pf (tabH t hs) := by
  intro f d hd
  unfold tabH at hd
  split at hd
  · rename_i d' hd'
    simp only [Option.some.injEq] at hd
    subst hd
    exact h f _ hd'
  · obtain ⟨q, h3, rfl⟩ := Option.map_eq_some_iff.1 hd
    exact hh _ (find_mem h3)

theorem tabOf_ok {P : Program} {l : Tabl} {pf : Nat → Bool} {ps : List (Nat × (List PV → Option PV))} {ms : List (Nat × (List PV → Option (List D)))} (h : tabAll P pf l = true) (hp : ∀ p ∈ ps, PrimSound P p.1 p.2) (hm : ∀ p ∈ ms, MkSound P p.1 p.2) : TabOk P pf (tabOf l ps ms) := by
  intro f d hd
  unfold tabOf at hd
  split at hd
  · rename_i rf hf
    simp only [Option.some.injEq] at hd
    subst hd
    exact List.all_eq_true.1 h _ (find_mem hf)
  · split at hd
    · rename_i p hp'
      simp only [Option.some.injEq] at hd
      subst hd
      exact hp _ (find_mem hp')
    · obtain ⟨p, hp', rfl⟩ := Option.map_eq_some_iff.1 hd
      exact hm _ (find_mem hp')

theorem tabOf4_ok {P : Program} {pf : Nat → Bool} {l : Tabl} {ps : List (Nat × (List PV → Option PV))} {ms : List (Nat × (List PV → Option (List D)))} {qs : Tril} (h : TabOk P pf (tabOf l ps ms)) (hq : triAll P pf qs = true) : TabOk P pf (tabOf4 l ps ms qs) := by
  intro f d hd
  unfold tabOf4 at hd
  split at hd
  · rename_i d' hd'
    simp only [Option.some.injEq] at hd
    subst hd
    exact h f _ hd'
  · obtain ⟨q, h3, rfl⟩ := Option.map_eq_some_iff.1 hd
    exact List.all_eq_true.1 hq _ (find_mem h3)

end Go.Pe

namespace Go.Pe

theorem optAll_nil {α : Type} : optAll ([] : List (Option α)) = some [] := rfl
theorem optAll_some {α : Type} (x : α) (r : List (Option α)) : optAll (some x :: r) = (optAll r).map (x :: ·) := rfl

theorem condK_bool {b : Bool} {x y : Option (Ex × St)} : condK (.d (.bool b)) x y = if b = true then x else y := by cases b <;> rfl
theorem condK_congr {t t' : PV} {x y : Option (Ex × St)} (h : t = t') : condK t x y = condK t' x y := by rw [h]
attribute [congr] condK_congr
theorem condK_true {x y : Option (Ex × St)} : condK (.d (.bool true)) x y = x := rfl
theorem condK_false {x y : Option (Ex × St)} : condK (.d (.bool false)) x y = y := rfl
theorem seqK_ite {c : Prop} [Decidable c] {k : St → Option (Ex × St)} {x y : Option (Ex × St)} : seqK k (if c then x else y) = if c then seqK k x else seqK k y := by split <;> rfl
theorem seqK_norm {k : St → Option (Ex × St)} {s : St} : seqK k (some (.norm, s)) = k s := rfl
theorem seqK_ret {k : St → Option (Ex × St)} {s : St} : seqK k (some (.ret, s)) = some (.ret, s) := rfl
theorem seqK_exit {k : St → Option (Ex × St)} {s : St} {i : Nat} : seqK k (some (.exit i, s)) = some (.exit i, s) := rfl
theorem seqK_pan {k : St → Option (Ex × St)} {s : St} {v : D} : seqK k (some (.pan v, s)) = some (.pan v, s) := rfl
theorem blockK_norm {i : Nat} {l : List LM} {s : St} : blockK i l (some (.norm, s)) = some (.norm, s.head l) := rfl
theorem blockK_ret {i : Nat} {l : List LM} {s : St} : blockK i l (some (.ret, s)) = some (.ret, s) := rfl
theorem blockK_pan {i : Nat} {l : List LM} {s : St} {v : D} : blockK i l (some (.pan v, s)) = some (.pan v, s) := rfl
theorem blockK_exit {i j : Nat} {l : List LM} {s : St} : blockK i l (some (.exit j, s)) = if j = i then some (.norm, s.head l) else some (.exit j, s) := rfl
theorem blockK_ite {c : Prop} [Decidable c] {i : Nat} {l : List LM} {x y : Option (Ex × St)} : blockK i l (if c then x else y) = if c then blockK i l x else blockK i l y := by split <;> rfl
theorem fnEnd_ite {c : Prop} [Decidable c] {rf : RFunc} {hp : List Ent} {x y : Option (Ex × St)} : fnEnd rf hp (if c then x else y) = if c then fnEnd rf hp x else fnEnd rf hp y := by split <;> rfl

def retOf (rf : RFunc) (hp : List Ent) (s : St) : Option Out :=
  match results s rf.res with
    | some v => if rf.pure then (if v.flat then some (.ret v hp) else none) else some (.ret v s.hp)
    | none => none
theorem fnEnd_ret' {rf : RFunc} {hp : List Ent} {s : St} : fnEnd rf hp (some (.ret, s)) = retOf rf hp s := rfl
theorem fnEnd_norm' {rf : RFunc} {hp : List Ent} {s : St} : fnEnd rf hp (some (.norm, s)) = retOf rf hp s := rfl

def stepR (cf : CF) (o : ROper) (w : Option Bool) (s : St) : Option OR :=
  match w with
  | some true => evOp cf o.dst o.op s
  | some false => (s.put o.dst .und).map .ok
  | none => none
def thenR (k : St → Option OR) : Option OR → Option OR
  | some (.ok s) => k s
  | r => r
theorem evOps_nil {cf : CF} {s : St} : evOps cf [] s = some (.ok s) := rfl
theorem evOps_cons {cf : CF} {o : ROper} {r : List ROper} {s : St} : evOps cf (o :: r) s = thenR (evOps cf r) (stepR cf o (wanted s o.g) s) := by
  rw [evOps]
  cases wanted s o.g with
  | none => rfl
  | some b =>
    cases b with
    | true => 
      simp only [stepR]
      cases evOp cf o.dst o.op s with
      | none => rfl
      | some r => cases r <;> rfl
    | false => simp only [stepR]; cases s.put o.dst .und <;> rfl
theorem thenR_ok {k : St → Option OR} {s : St} : thenR k (some (.ok s)) = k s := rfl
theorem thenR_ite {c : Prop} [Decidable c] {k : St → Option OR} {x y : Option OR} : thenR k (if c then x else y) = if c then thenR k x else thenR k y := by split <;> rfl

def evP (cf : CF) (W : List Nat) (s0 : St) (adr : List Nat) : Nat → List ROper → St → Option (Ex × St)
  | 0, o :: r, s => endP cf W s0 adr r (stepR cf o (wanted s o.g) s)
  | c + 1, o :: r, s => nextP (evP cf W s0 adr c r) (stepR cf o (wanted s o.g) s)
  | _, [], _ => none
  where
  endP (cf : CF) (W : List Nat) (s0 : St) (adr : List Nat) (r : List ROper) : Option OR → Option (Ex × St)
    | some (.ok s) => finP adr (evOps cf r s)
    | some (.pan v _) => some (.pan v, dread W s0)
    | none => none
  finP (adr : List Nat) : Option OR → Option (Ex × St)
    | some (.ok f) => some (.norm, { f with tm := killAll f.tm adr })
    | _ => none
  nextP (k : St → Option (Ex × St)) : Option OR → Option (Ex × St)
    | some (.ok s) => k s
    | _ => none

theorem evP_eq {cf : CF} {W : List Nat} {s0 : St} {adr : List Nat} : ∀ (c : Nat) (ops : List ROper) (s : St), c < ops.length →
    evP cf W s0 adr c ops s = match evOps cf (ops.take c) s with
      | some (.ok s1) => (match (ops[c]?.bind fun o => panAt cf o s1), evOps cf (ops.drop c) s1 with
        | some v, _ => some (.pan v, dread W s0)
        | none, some (.ok f) => some (.norm, { f with tm := killAll f.tm adr })
        | none, _ => none)
      | _ => none
  | 0, o :: r, s, _ => by
    simp only [List.take_zero, evOps_nil, List.getElem?_cons_zero, Option.bind_some, List.drop_zero, evP, evOps_cons, panAt]
    cases hw : wanted s o.g with
    | none => simp [stepR, evP.endP, thenR]
    | some b =>
      cases b with
      | false =>
        simp only [stepR]
        cases hp : s.put o.dst .und with
        | none => simp [evP.endP, thenR]
        | some s' =>
          simp only [Option.map_some, evP.endP, thenR]
          cases he : evOps cf r s' with
          | none => rfl
          | some q => cases q <;> rfl
      | true =>
        simp only [stepR]
        cases hp : evOp cf o.dst o.op s with
        | none => simp [evP.endP, thenR]
        | some q =>
          cases q with
          | pan v s' => simp [evP.endP, thenR]
          | ok s' =>
            simp only [evP.endP, thenR]
            cases he : evOps cf r s' with
            | none => rfl
            | some q => cases q <;> rfl
  | c + 1, o :: r, s, h => by
    simp only [List.take_succ_cons, List.getElem?_cons_succ, List.drop_succ_cons, evP, evOps_cons]
    cases hs : stepR cf o (wanted s o.g) s with
    | none => simp [evP.nextP, thenR]
    | some q =>
      cases q with
      | pan v s' => simp [evP.nextP, thenR]
      | ok s' =>
        simp only [evP.nextP, thenR]
        exact evP_eq c r s' (by simpa using h)
  | 0, [], _, h => by simp at h
  | c + 1, [], _, h => by simp at h

theorem V_regp {cf : CF} {ops : List ROper} {adr : List Nat} {c : Nat} {s : St} (h : c < ops.length) : V cf (.regp ops adr c) s = evP cf (dsts ops) s adr c ops s := by
  rw [V_regp0, evP_eq c ops s h, evRegp]
  cases evOps cf (ops.take c) s with
  | none => rfl
  | some q =>
    cases q with
    | pan v s' => rfl
    | ok s1 =>
      simp only
      cases (ops[c]?.bind fun o => panAt cf o s1) with
      | some v => rfl
      | none =>
        cases evOps cf (ops.drop c) s1 with
        | none => rfl
        | some q => cases q <;> rfl

theorem endP_ok {cf : CF} {W : List Nat} {s0 : St} {adr : List Nat} {r : List ROper} {s : St} : evP.endP cf W s0 adr r (some (.ok s)) = evP.finP adr (evOps cf r s) := rfl
theorem endP_pan {cf : CF} {W : List Nat} {s0 : St} {adr : List Nat} {r : List ROper} {s : St} {v : D} : evP.endP cf W s0 adr r (some (.pan v s)) = some (.pan v, dread W s0) := rfl
theorem finP_ok {adr : List Nat} {f : St} : evP.finP adr (some (.ok f)) = some (.norm, { f with tm := killAll f.tm adr }) := rfl
theorem nextP_ok {k : St → Option (Ex × St)} {s : St} : evP.nextP k (some (.ok s)) = k s := rfl
theorem endP_ite {c : Prop} [Decidable c] {cf : CF} {W : List Nat} {s0 : St} {adr : List Nat} {r : List ROper} {x y : Option OR} : evP.endP cf W s0 adr r (if c then x else y) = if c then evP.endP cf W s0 adr r x else evP.endP cf W s0 adr r y := by split <;> rfl
theorem finP_ite {c : Prop} [Decidable c] {adr : List Nat} {x y : Option OR} : evP.finP adr (if c then x else y) = if c then evP.finP adr x else evP.finP adr y := by split <;> rfl
theorem nextP_ite {c : Prop} [Decidable c] {k : St → Option (Ex × St)} {x y : Option OR} : evP.nextP k (if c then x else y) = if c then evP.nextP k x else evP.nextP k y := by split <;> rfl

theorem head_idem_go : ∀ (live : List LM) (tm : List PV), St.head.go live (St.head.go live tm) = St.head.go live tm
  | [], tm => by simp [St.head.go]
  | m :: live, [] => by cases m <;> rfl
  | .kill :: live, p :: tm => by simp only [St.head.go, head_idem_go live tm]
  | .keep :: live, p :: tm => by cases p <;> simp only [St.head.go, head_idem_go live tm]
  | .norm e :: live, p :: tm => by cases p <;> simp only [St.head.go, head_idem_go live tm]

theorem head_idem {s : St} {live : List LM} : (s.head live).head live = s.head live := by
  simp only [St.head, head_idem_go]

theorem V_loop_head {cf : CF} {live : List LM} {c : RCode} {s : St} : V cf (.loop live c) s = V cf (.loop live c) (s.head live) := by
  rw [V_loop, V_loop (s := s.head live), head_idem]

noncomputable def loopK (cf : CF) (B : RCode) (id : Nat) (l live : List LM) : Option (Ex × St) → Option (Ex × St)
  | some (.norm, s') => V cf B (s'.head live)
  | r => blockK id l r

theorem V_bloop {cf : CF} {id : Nat} {l live : List LM} {c : RCode} {s : St} : V cf (.block id l (.loop live c)) s = loopK cf (.block id l (.loop live c)) id l live (V cf c (s.head live)) := by
  rw [V_block, V_loop]
  cases V cf c (s.head live) with
  | none => rfl
  | some q =>
    obtain ⟨ex, s'⟩ := q
    cases ex with
    | norm => simp only [seqK, loopK]; rw [V_block, V_loop_head]
    | _ => rfl

variable {cf : CF} {B : RCode} {id : Nat} {l live : List LM} {s : St}
theorem loopK_norm : loopK cf B id l live (some (.norm, s)) = V cf B (s.head live) := rfl
theorem loopK_ret : loopK cf B id l live (some (.ret, s)) = some (.ret, s) := rfl
theorem loopK_exit {j : Nat} : loopK cf B id l live (some (.exit j, s)) = if j = id then some (.norm, s.head l) else some (.exit j, s) := rfl
theorem loopK_ite {c : Prop} [Decidable c] {x y : Option (Ex × St)} : loopK cf B id l live (if c then x else y) = if c then loopK cf B id l live x else loopK cf B id l live y := by split <;> rfl

theorem cells_agg {cs : List D} : (D.agg cs).cells = cs := rfl
theorem cells_int {k : IntKind} {n : Int} : (D.int k n).cells = [.int k n] := rfl
theorem cells_bool {b : Bool} : (D.bool b).cells = [.bool b] := rfl
theorem cells_str {b : ByteArray} : (D.str b).cells = [.str b] := rfl
theorem cells_sl {xs : List D} : (D.sl xs).cells = [.sl xs] := rfl
theorem isAgg_agg {cs : List D} : (D.agg cs).isAgg = true := rfl
theorem isAgg_int {k : IntKind} {n : Int} : (D.int k n).isAgg = false := rfl
theorem isAgg_bool {b : Bool} : (D.bool b).isAgg = false := rfl
theorem isAgg_str {b : ByteArray} : (D.str b).isAgg = false := rfl
theorem isAgg_sl {xs : List D} : (D.sl xs).isAgg = false := rfl
theorem width_agg {cs : List D} : (D.agg cs).width = cs.length := rfl
theorem width_int {k : IntKind} {n : Int} : (D.int k n).width = 1 := rfl
theorem width_bool {b : Bool} : (D.bool b).width = 1 := rfl
theorem width_str {b : ByteArray} : (D.str b).width = 1 := rfl
theorem width_sl {xs : List D} : (D.sl xs).width = 1 := rfl
attribute [go_sem] cells_agg cells_int cells_bool cells_str cells_sl isAgg_agg isAgg_int isAgg_bool isAgg_str isAgg_sl width_agg width_int width_bool width_str width_sl

theorem w64 {n : Int} (h : -9223372036854775808 ≤ n ∧ n ≤ 9223372036854775807) : IntKind.i64.wrap n = n := by
  simp only [IntKind.wrap, IntKind.bits, IntKind.signed, Bool.true_and, ge_iff_le, decide_eq_true_eq]
  have e1 : (2 : Int) ^ 64 = 18446744073709551616 := by decide
  have e2 : (2 : Int) ^ (64 - 1) = 9223372036854775808 := by decide
  rw [e1, e2]
  split <;> omega
theorem wu8 {n : Int} (h : 0 ≤ n ∧ n ≤ 255) : IntKind.u8.wrap n = n := by
  simp only [IntKind.wrap, IntKind.bits, IntKind.signed, Bool.false_and, Bool.false_eq_true, if_false]
  have e1 : (2 : Int) ^ 8 = 256 := by decide
  rw [e1]
  omega

theorem frzK_some {k : St → Option (Ex × St)} {s : St} : frzK k (some s) = k s := rfl
attribute [go_sem] V_seqf frzK_some freeze1 PV.isRef List.any_cons List.any_nil Bool.or_false Bool.false_or
attribute [go_sem] endP_ok endP_pan finP_ok nextP_ok endP_ite finP_ite nextP_ite
attribute [go_sem] V_seq V_seqc V_reg V_cond V_block V_ret V_skip V_exit
attribute [go_sem 5000] condK_true condK_false
attribute [go_sem] condK_bool seqK_ite seqK_norm seqK_ret seqK_exit seqK_pan blockK_norm blockK_ret blockK_pan blockK_exit blockK_ite fnEnd_ite fnEnd_ret' fnEnd_norm' loopK_norm loopK_ret loopK_exit loopK_ite
attribute [go_sem] evOps_nil evOps_cons thenR_ok thenR_ite stepR evOp wanted St.put St.x St.tk St.tkc PV.cp PV.toD okPut List.getD_cons_zero List.getD_cons_succ List.set_cons_zero List.set_cons_succ Option.bind_some Option.map_some X.self binD intD killAll List.map_cons List.map_nil St.load cellTake cellsAgg elemD partD lenOp Bool.false_eq_true addrOff List.getElem?_cons_zero List.getElem?_cons_succ drawEnd regEnd St.head St.head.go
theorem getD8 {x0 x1 x2 x3 x4 x5 x6 x7 : PV} {l : List PV} {n : Nat} {d : PV} : (x0 :: x1 :: x2 :: x3 :: x4 :: x5 :: x6 :: x7 :: l).getD (n + 8) d = l.getD n d := rfl
theorem set8 {x0 x1 x2 x3 x4 x5 x6 x7 : PV} {l : List PV} {n : Nat} {v : PV} : (x0 :: x1 :: x2 :: x3 :: x4 :: x5 :: x6 :: x7 :: l).set (n + 8) v = x0 :: x1 :: x2 :: x3 :: x4 :: x5 :: x6 :: x7 :: l.set n v := rfl
attribute [go_sem 5000] getD8 set8
def hold (f : Unit → RCode) : RCode := f ()
theorem V_hold {cf : CF} {f : Unit → RCode} {s : St} : V cf (hold f) s = V cf (f ()) s := rfl
attribute [go_sem] V_hold
theorem demote_own (e : Nat) (xs : List D) : (PV.own e xs).demote = .d (.sl xs) := rfl
theorem demote_nil : PV.nilsl.demote = .d (.sl []) := rfl
theorem demote_d (x : D) : (PV.d x).demote = .d x := rfl
theorem demote_tup (vs : List PV) : (PV.tup vs).demote = .tup vs := rfl
theorem demote_ptr (i o : Nat) : (PV.ptr i o).demote = .ptr i o := rfl
theorem demote_fn (f : Nat) (cs : List PV) : (PV.fn f cs).demote = .fn f cs := rfl
theorem demote_full (xs : List D) : (PV.full xs).demote = .full xs := rfl
theorem demote_eptr (x : D) (o : Nat) : (PV.eptr x o).demote = .eptr x o := rfl
attribute [go_sem] demote_own demote_nil demote_d demote_tup demote_ptr demote_fn demote_full demote_eptr
attribute [go_sem] elV
attribute [go_sem] retOf results resOf PV.flat optAll_nil optAll_some fillD setDs sliceOp optInt boundsOk appOp rowOk PV.one St.store storeIn setCells minMax minMaxs unD convD extV
theorem beq_ft : (false == true) = false := rfl
theorem beq_tf : (true == false) = false := rfl
theorem beq_tt : (true == true) = true := rfl
theorem beq_ff : (false == false) = true := rfl
attribute [go_sem] beq_ft beq_tf beq_tt beq_ff
attribute [go_sem] if_true if_false ite_true ite_false reduceIte Bool.not_true Bool.not_false decide_true decide_false beq_self_eq_true Bool.and_true Bool.true_and Bool.and_false Bool.false_and Bool.and_eq_true
attribute [go_sem] List.cons_append List.nil_append List.length_cons List.length_nil List.drop_zero List.drop_succ_cons List.take_succ_cons List.take_zero List.all_cons List.all_nil

end Go.Pe

namespace Go.Pe
abbrev iv (n : Int) : D := .int .i64 n

inductive Val where
  | mk (kind coef scale : Int) (str : ByteArray) (items : List Val) (keys : List ByteArray)

mutual
def Val.enc : Val → D
  | .mk k c s t xs ks => .agg [iv k, iv c, iv s, .str t, .sl (Val.encs xs), .sl (ks.map .str)]
def Val.encs : List Val → List D
  | [] => []
  | v :: r => v.enc :: Val.encs r
end
theorem encs_get : ∀ (xs : List Val) (i : Nat), (Val.encs xs)[i]? = xs[i]?.map Val.enc
  | [], i => rfl
  | v :: xs, 0 => by simp [Val.encs]
  | v :: xs, i + 1 => by simp [Val.encs, encs_get xs i]
theorem encs_len : ∀ (xs : List Val), (Val.encs xs).length = xs.length
  | [] => rfl
  | v :: xs => by simp [Val.encs, encs_len xs]
theorem enc_w (v : Val) : v.enc.width = 6 := by cases v; rfl
theorem enc_a (v : Val) : v.enc.isAgg = true := by cases v; rfl

def i64 (n : Int) : Prop := -9223372036854775808 ≤ n ∧ n ≤ 9223372036854775807

mutual
def Val.ok : Val → Prop
  | .mk k c s t xs ks => i64 k ∧ i64 c ∧ i64 s ∧ t.size ≤ maxLen ∧ xs.length ≤ maxLen ∧ ks.length ≤ maxLen ∧ (∀ x ∈ ks, x.size ≤ maxLen) ∧ Val.oks xs
def Val.oks : List Val → Prop
  | [] => True
  | v :: r => v.ok ∧ Val.oks r
end
theorem oks_mem : ∀ {xs : List Val} {v : Val}, Val.oks xs → v ∈ xs → v.ok
  | x :: xs, v, h, hv => by
    rcases List.mem_cons.1 hv with rfl | hv
    · exact h.1
    · exact oks_mem h.2 hv
theorem strD_neq (x y : ByteArray) : strD .neq x y = some (.bool !(x.toList == y.toList)) := rfl
theorem strD_eql (x y : ByteArray) : strD .eql x y = some (.bool (x.toList == y.toList)) := rfl
theorem eqD_num (c s c' s' : Int) : eqD (.st [(0, 1, .i), (1, 1, .i)]) (.agg [iv c, iv s]) (.agg [iv c', iv s']) = some (c == c' && s == s') := by
  have e : eqD (.st [(0, 1, .i), (1, 1, .i)]) (.agg [iv c, iv s]) (.agg [iv c', iv s']) = (match some (c == c') with | some true => (match some (s == s') with | some true => some true | some false => some false | none => none) | some false => some false | none => none) := rfl
  rw [e]
  cases c == c' <;> cases s == s' <;> rfl
end Go.Pe

namespace Go.Pe
section
variable {H : Type} {P : Program}

theorem lift_int {t : TypeId} {d : DataW H} {xs : List D} (h : P.underlying t = some (.int .i64)) (hl : Lift P t d xs) : ∃ n, xs = [iv n] ∧ i64 n := by
  cases hl with
  | int k n h1 h2 =>
    rw [h] at h1
    simp only [Option.some.injEq, TypeDesc.int.injEq] at h1
    subst h1
    refine ⟨n, rfl, ?_⟩
    simp only [Lit.wf, Bool.and_eq_true, decide_eq_true_eq] at h2
    exact h2
  | _ => simp_all

theorem lift_bool {t : TypeId} {d : DataW H} {xs : List D} (h : P.underlying t = some .bool) (hl : Lift P t d xs) : ∃ b, xs = [.bool b] := by
  cases hl with
  | bool b h1 => exact ⟨b, rfl⟩
  | _ => simp_all

theorem lift_str {t : TypeId} {d : DataW H} {xs : List D} (h : P.underlying t = some .string) (hl : Lift P t d xs) : ∃ s, xs = [.str s] ∧ s.size ≤ maxLen := by
  cases hl with
  | str s h1 h2 => exact ⟨s, rfl, h2⟩
  | _ => simp_all

theorem lift_sl {t e : TypeId} {d : DataW H} {xs : List D} (h : P.underlying t = some (.slice e)) (hl : Lift P t d xs) :
    ∃ ys, xs = [.sl ys] ∧ ys.length ≤ maxLen ∧ ∀ y ∈ ys, y.isAgg = aggT P e ∧ ∃ d' : DataW H, Lift P e d' y.cells := by
  cases hl with
  | sl0 e' h1 => exact ⟨[], rfl, by simp, by simp⟩
  | sl e' ds spare ys h1 h2 h3 h4 h5 =>
    rw [h] at h1
    simp only [Option.some.injEq, TypeDesc.slice.injEq] at h1
    subst h1
    refine ⟨ys, rfl, h3, ?_⟩
    intro y hy
    obtain ⟨i, hi⟩ := List.getElem?_of_mem hy
    refine ⟨h4 i y hi, ?_⟩
    have hlt : i < ds.length := by
      have := (List.getElem?_eq_some_iff.1 hi).1
      omega
    exact ⟨ds[i], h5 i y _ hi (List.getElem?_eq_getElem hlt)⟩
  | _ => simp_all

theorem lift_st {t : TypeId} {fs : Array Field} {d : DataW H} {xs : List D} (h : P.underlying t = some (.struct fs)) (hl : Lift P t d xs) :
    ∃ ds : List (DataW H), Lifts P (fs.toList.map (·.type)) ds xs := by
  cases hl with
  | st fs' ds cs h1 h2 =>
    rw [h] at h1
    simp only [Option.some.injEq, TypeDesc.struct.injEq] at h1
    subst h1
    exact ⟨ds, h2⟩
  | _ => simp_all

theorem lifts_nil {ds : List (DataW H)} {xs : List D} (h : Lifts P [] ds xs) : xs = [] := by
  cases h; rfl
theorem lifts_cons {t : TypeId} {ts : List TypeId} {ds : List (DataW H)} {xs : List D} (h : Lifts P (t :: ts) ds xs) :
    ∃ (d : DataW H) (ds' : List (DataW H)) (a b : List D), xs = a ++ b ∧ Lift P t d a ∧ Lifts P ts ds' b := by
  cases h with
  | cons h1 h2 => exact ⟨_, _, _, _, rfl, h1, h2⟩

theorem agg_cells {y : D} (h : y.isAgg = true) : y = .agg y.cells := by
  cases y <;> simp [D.isAgg] at h
  rfl
theorem cell_cells {y x : D} (h : y.isAgg = false) (e : y.cells = [x]) : y = x := by
  cases y <;> simp [D.isAgg] at h <;> simpa [D.cells] using e

theorem lift_strs {t e : TypeId} {d : DataW H} {xs : List D} (h : P.underlying t = some (.slice e)) (he : P.underlying e = some .string) (hl : Lift P t d xs) :
    ∃ ks : List ByteArray, xs = [.sl (ks.map .str)] ∧ ks.length ≤ maxLen ∧ ∀ x ∈ ks, x.size ≤ maxLen := by
  obtain ⟨ys, rfl, h1, h2⟩ := lift_sl h hl
  have hagg : aggT P e = false := by simp [aggT, he]
  have key : ∀ ys : List D, (∀ y ∈ ys, y.isAgg = aggT P e ∧ ∃ d' : DataW H, Lift P e d' y.cells) → ∃ ks : List ByteArray, ys = ks.map .str ∧ ∀ x ∈ ks, x.size ≤ maxLen := by
    intro ys
    induction ys with
    | nil => exact fun _ => ⟨[], rfl, by simp⟩
    | cons y ys ih =>
      intro h
      obtain ⟨ks, rfl, k2⟩ := ih fun y hy => h y (by simp [hy])
      obtain ⟨h3, d', h4⟩ := h y (by simp)
      obtain ⟨s, h5, h6⟩ := lift_str he h4
      have := cell_cells (by rw [h3, hagg]) h5
      subst this
      exact ⟨s :: ks, rfl, by simpa using ⟨h6, k2⟩⟩
  obtain ⟨ks, rfl, k2⟩ := key ys h2
  exact ⟨ks, rfl, by simpa using h1, k2⟩

structure ValT (P : Program) (tV : TypeId) : Prop where
  is : ∃ (fV fN : Array Field) (tK tN tS tX tT tC tE tEs : TypeId), P.underlying tV = some (.struct fV) ∧ fV.toList.map (·.type) = [tK, tN, tS, tX, tT] ∧ P.underlying tK = some (.int .i64) ∧
    P.underlying tN = some (.struct fN) ∧ fN.toList.map (·.type) = [tC, tE] ∧ P.underlying tC = some (.int .i64) ∧ P.underlying tE = some (.int .i64) ∧
    P.underlying tS = some .string ∧ P.underlying tX = some (.slice tV) ∧ P.underlying tT = some (.slice tEs) ∧ P.underlying tEs = some .string

theorem lift_val {tV : TypeId} (hT : ValT P tV) : ∀ (n : Nat) (d : DataW H) (xs : List D), SizeOf.sizeOf xs ≤ n → Lift P tV d xs → ∃ v : Val, v.ok ∧ D.agg xs = v.enc
  | 0, d, xs, hn, h => by cases xs <;> simp at hn
  | n + 1, d, xs, hn, h => by
    obtain ⟨fV, fN, tK, tN, tS, tX, tT, tC, tE, tEs, e1, e2, e3, e4, e5, e6, e7, e8, e9, e10, e11⟩ := hT.is
    have hagg : aggT P tV = true := by simp [aggT, e1]
    obtain ⟨ds, l0⟩ := lift_st e1 h
    rw [e2] at l0
    obtain ⟨_, _, a1, b1, rfl, m1, l1⟩ := lifts_cons l0
    obtain ⟨_, _, a2, b2, rfl, m2, l2⟩ := lifts_cons l1
    obtain ⟨_, _, a3, b3, rfl, m3, l3⟩ := lifts_cons l2
    obtain ⟨_, _, a4, b4, rfl, m4, l4⟩ := lifts_cons l3
    obtain ⟨_, _, a5, b5, rfl, m5, l5⟩ := lifts_cons l4
    obtain rfl := lifts_nil l5
    obtain ⟨k, rfl, k1⟩ := lift_int e3 m1
    obtain ⟨_, q0⟩ := lift_st e4 m2
    rw [e5] at q0
    obtain ⟨_, _, c1, c2, rfl, n1, q1⟩ := lifts_cons q0
    obtain ⟨_, _, c3, c4, rfl, n2, q2⟩ := lifts_cons q1
    obtain rfl := lifts_nil q2
    obtain ⟨c, rfl, k2⟩ := lift_int e6 n1
    obtain ⟨s, rfl, k3⟩ := lift_int e7 n2
    obtain ⟨t, rfl, k4⟩ := lift_str e8 m3
    obtain ⟨ys, rfl, k5, k6⟩ := lift_sl e9 m4
    obtain ⟨ks, rfl, k7, k8⟩ := lift_strs e10 e11 m5
    have key : ∀ zs : List D, (∀ y ∈ zs, y ∈ ys) → ∃ vs : List Val, Val.oks vs ∧ zs = Val.encs vs := by
      intro zs
      induction zs with
      | nil => exact fun _ => ⟨[], trivial, rfl⟩
      | cons y zs ih =>
        intro hz
        obtain ⟨vs, v1, v2⟩ := ih fun y hy => hz y (by simp [hy])
        obtain ⟨g1, d', g2⟩ := k6 y (hz y (by simp))
        have g3 := agg_cells (y := y) (by rw [g1, hagg])
        have hsz : SizeOf.sizeOf y.cells ≤ n := by
          have s1 : SizeOf.sizeOf y < SizeOf.sizeOf ys := List.sizeOf_lt_of_mem (hz y (by simp))
          rw [g3] at s1
          simp at hn s1
          omega
        obtain ⟨v, w1, w2⟩ := lift_val hT n d' y.cells hsz g2
        exact ⟨v :: vs, ⟨w1, v1⟩, by rw [Val.encs, ← w2, ← g3, ← v2]⟩
    obtain ⟨vs, v1, v2⟩ := key ys (fun _ h => h)
    subst v2
    refine ⟨.mk k c s t vs ks, ?_, by simp [Val.enc]⟩
    simp only [Val.ok]
    exact ⟨k1, k2, k3, k4, by rw [encs_len] at k5; exact k5, k7, k8, v1⟩

theorem lift_val' {tV : TypeId} (hT : ValT P tV) {d : DataW H} {x : D} (h : Lift P tV d x.cells) (ha : x.isAgg = aggT P tV) : ∃ v : Val, v.ok ∧ x = v.enc := by
  obtain ⟨fV, _, _, _, _, _, _, _, _, _, e1, _⟩ := hT.is
  have hagg : aggT P tV = true := by simp [aggT, e1]
  obtain ⟨v, h1, h2⟩ := lift_val hT _ d x.cells (Nat.le_refl _) h
  exact ⟨v, h1, by rw [← h2]; exact agg_cells (by rw [ha, hagg])⟩

theorem lift_vals {t tV : TypeId} (hT : ValT P tV) (ht : P.underlying t = some (.slice tV)) {d : DataW H} {x : D} (h : Lift P t d x.cells) (ha : x.isAgg = aggT P t) : ∃ vs : List Val, Val.oks vs ∧ vs.length ≤ maxLen ∧ x = .sl (Val.encs vs) := by
  obtain ⟨ys, h1, h2, h3⟩ := lift_sl ht h
  have hx := cell_cells (by rw [ha]; simp [aggT, ht]) h1
  subst hx
  have key : ∀ zs : List D, (∀ y ∈ zs, y ∈ ys) → ∃ vs : List Val, Val.oks vs ∧ zs = Val.encs vs := by
    intro zs
    induction zs with
    | nil => exact fun _ => ⟨[], trivial, rfl⟩
    | cons y zs ih =>
      intro hz
      obtain ⟨vs, v1, v2⟩ := ih fun y hy => hz y (by simp [hy])
      obtain ⟨g1, d', g2⟩ := h3 y (hz y (by simp))
      obtain ⟨v, w1, w2⟩ := lift_val' hT g2 g1
      exact ⟨v :: vs, ⟨w1, v1⟩, by rw [Val.encs, ← w2, ← v2]⟩
  obtain ⟨vs, v1, v2⟩ := key ys (fun _ h => h)
  subst v2
  exact ⟨vs, v1, by rw [encs_len] at h2; exact h2, rfl⟩

theorem liftArgs_nil {ds : List (DataW H)} {xs : List D} (h : LiftArgs P [] ds xs) : xs = [] := by
  match ds, xs, h with
  | [], [], _ => rfl
theorem liftArgs_cons {t : TypeId} {ts : List TypeId} {ds : List (DataW H)} {xs : List D} (h : LiftArgs P (t :: ts) ds xs) :
    ∃ (d : DataW H) (ds' : List (DataW H)) (x : D) (xs' : List D), xs = x :: xs' ∧ Lift P t d x.cells ∧ x.isAgg = aggT P t ∧ LiftArgs P ts ds' xs' := by
  match ds, xs, h with
  | d :: ds, x :: xs, h => exact ⟨d, ds, x, xs, rfl, h.1.1, h.1.2, h.2⟩

structure NumT (P : Program) (tN : TypeId) : Prop where
  is : ∃ (fN : Array Field) (tC tE : TypeId), P.underlying tN = some (.struct fN) ∧ fN.toList.map (·.type) = [tC, tE] ∧ P.underlying tC = some (.int .i64) ∧ P.underlying tE = some (.int .i64)

theorem lift_num {tN : TypeId} (hT : NumT P tN) {d : DataW H} {x : D} (h : Lift P tN d x.cells) (ha : x.isAgg = aggT P tN) : ∃ c s : Int, (i64 c ∧ i64 s) ∧ x = .agg [iv c, iv s] := by
  obtain ⟨fN, tC, tE, e4, e5, e6, e7⟩ := hT.is
  have hagg : aggT P tN = true := by simp [aggT, e4]
  obtain ⟨_, q0⟩ := lift_st e4 h
  rw [e5] at q0
  obtain ⟨_, _, c1, c2, q, n1, q1⟩ := lifts_cons q0
  obtain ⟨_, _, c3, c4, rfl, n2, q2⟩ := lifts_cons q1
  obtain rfl := lifts_nil q2
  obtain ⟨c, rfl, k2⟩ := lift_int e6 n1
  obtain ⟨s, rfl, k3⟩ := lift_int e7 n2
  exact ⟨c, s, ⟨k2, k3⟩, by rw [agg_cells (y := x) (by rw [ha, hagg]), q]; rfl⟩

theorem lift_s {t : TypeId} (ht : P.underlying t = some .string) {d : DataW H} {x : D} (h : Lift P t d x.cells) (ha : x.isAgg = aggT P t) : ∃ s : ByteArray, s.size ≤ maxLen ∧ x = .str s := by
  obtain ⟨s, h1, h2⟩ := lift_str ht h
  exact ⟨s, h2, cell_cells (by rw [ha]; simp [aggT, ht]) h1⟩
end
end Go.Pe

namespace Go.Pe
section
variable {P : Program} {g : G} {w : World}

def cf0 : CF := fun _ _ _ => none
theorem cf0_sound : CFSound P cf0 := ⟨fun f args hp out h => by simp [cf0] at h, fun f args hp out h => by simp [cf0] at h⟩
theorem cf0_nice {pf : Nat → Bool} : CFNice pf cf0 := ⟨fun f args hp v hp' h => by simp [cf0] at h, fun f _ args hp v hp' h => by simp [cf0] at h, fun f _ args hp v hp' h => by simp [cf0] at h⟩

def clA : RCode := .reg [⟨some 2, none, .mv false (.c .nilsl)⟩] [] false
def clC (e : Nat) : RCode := .seq clA (.ret [.kill, .kill, .norm e])
def clD (e sz bytes : Nat) : RCode := .seq (.reg [⟨some 5, none, .bsl e sz []⟩, ⟨some 6, none, .mv false (.t 0)⟩, ⟨some 7, none, .app e sz bytes (.t 5) (.t 6)⟩, ⟨some 2, none, .mv true (.t 7)⟩] [] false) (.ret [.kill, .kill, .keep])

def clOps (t : TypeId) : List Oper → Bool
  | [o1, o2] => o1.dst == some 3 && o2.dst == some 4 && o1.guard.isNone && o2.guard.isNone && (match o1.op with | .move (.tmp 0) => true | _ => false) &&
      (match o2.op with | .binOp .eql t' (.tmp 3) (.const (.slice none 0 0)) _ => t' == t | _ => false)
  | _ => false

def cloneOk (P : Program) (f : Nat) (t e sz bytes : Nat) : Bool :=
  match P.funcs[f]? with
  | some fn => fn.ntmps == 8 && (fn.name != "runtime.NumGoroutine") && resOk P fn.results.toList [.t 2] && (match P.underlying t with | some (.slice _) => true | _ => false) &&
    (match fn.body with
    | some (.seq c0 (.seq (.seq (.region _ ops false) (.cond (.tmp 4) c2 .skip)) c3)) => codeOk P (fun _ => false) c0 clA && clOps t ops.toList && codeOk P (fun _ => false) c2 (clC e) && codeOk P (fun _ => false) c3 (clD e sz bytes)
    | _ => false)
  | none => false

def cloneP (e sz bytes : Nat) : List PV → Option PV
  | [.d (.sl xs)] => if rowOk sz bytes [] xs then some (.own e xs) else none
  | [.nilsl] => some (.own e [])
  | _ => none

theorem nil_of {S : Nat → Nat → Prop} {xs : List D} {n cap : Nat} (h : DRep S w (.sl xs) (.slice none n cap)) : xs = [] := by
  cases h; rfl

theorem clone_run {f t e sz bytes : Nat} (hk : cloneOk P f t e sz bytes = true) {xs : List D} (hr : rowOk sz bytes [] xs = true) {g : G} {w : World} {v : Value} (hv : DRep g.stab w (.sl xs) v) :
    Calls P f #[v] w fun en w' => ∃ u g', en = .returned u ∧ Chg (fun _ => False) g w g' w' ∧ g'.nb = g.nb ∧ RepR P g' w' (.own e xs) u := by
  unfold cloneOk at hk
  split at hk
  · rename_i fn hf
    simp only [Bool.and_eq_true, beq_iff_eq] at hk
    obtain ⟨⟨⟨⟨hnt, _⟩, hres⟩, hun⟩, hbody⟩ := hk
    split at hbody
    · rename_i c0 i1 ops c2 c3 hc
      simp only [Bool.and_eq_true] at hbody
      obtain ⟨⟨⟨k0, k1⟩, k2⟩, k3⟩ := hbody
      unfold clOps at k1
      split at k1
      · rename_i o1 o2 hops
        simp only [Bool.and_eq_true, beq_iff_eq, Option.isNone_iff_eq_none] at k1
        obtain ⟨⟨⟨⟨⟨d1, d2⟩, g1⟩, g2⟩, m1⟩, m2⟩ := k1
        split at m1
        · rename_i p1
          split at m2
          · rename_i t' _ p2
            simp only [beq_iff_eq] at m2
            subst m2
            split at hun
            · rename_i et hun2
              obtain ⟨ad, cap, rfl, hcap⟩ := hv.sl_inv
              refine calls_of_wp hf hc ?_
              rw [hnt]
              have hargs : RepFs P g.bare w (.ret 0) [.d (.sl xs)] [.slice ad xs.length cap] :=
                RepFs.bare (l := .ret 0) (ps := [.d (.sl xs)]) rfl rfl (by simp only [RepFs, RepF, and_true]; exact hv)
              have hI := Inv.enter (P := P) (w := w) (g := g.bare) (hp := []) (l := .ret 0) (args := [.d (.sl xs)]) rfl hargs ⟨rfl, by simp, fun _ _ h => by simp at h⟩ 8
              have retcase : ∀ (s' : St) (q : PV), Pe.results s' [.t 2] = some q → q.flat = true → (∀ g u, RepR P g w q u → True) → (q = .own e xs ∨ (q = .nilsl ∧ xs = [])) →
                  ∀ g' w' a', Inv P g' w' a' s' → Chg Mine g.bare w g' w' → a'.defers = [] → bodyPost P fn (fun en w' => ∃ u g', en = .returned u ∧ Chg (fun _ => False) g w g' w' ∧ g'.nb = g.nb ∧ RepR P g' w' (.own e xs) u) .ret a' w' := by
                intro s' q hq hfl _ hqq g' w' a' hI' hc' hdf
                obtain ⟨u, g1, r1, r2, r3, r4⟩ := results_ok hI' hres (by simp) hq
                refine ⟨hdf, u, r1, u, g1.dress g, rfl, (hc'.trans r2).dress, rfl, ?_⟩
                have r5 := RepR.dress (g := g) hfl r3
                rcases hqq with rfl | ⟨rfl, rfl⟩
                · exact r5
                · have : u = .slice none 0 0 := by simpa only [RepR, RepF] using r5
                  subst this
                  simp only [RepR, RepF]
                  exact ⟨[], World.ownsRow_nil _ _ _ _, Flat.nil _ _ _, by simp [Value.ownBlock]⟩
              refine wp_seq (code_sound cf0_sound (pf := fun _ => false) cf0_nice 0 c0 clA k0 (s' := ⟨[.d (.sl xs), .dead, .nilsl, .dead, .dead, .dead, .dead, .dead], []⟩) (ex := .norm) rfl hI ?_)
              intro gA wA aA hIA hcA hdA
              refine wp_seq (wp_seq (wp_region ?_))
              have hoa : ops = #[o1, o2] := by apply Array.toList_inj.1; rw [hops]
              subst hoa
              have hrg : List.range (#[o1, o2] : Array Oper).size = [0, 1] := rfl
              rw [hrg]
              simp only [wpOps]
              have w1 : ∀ y, Region.wanted o1 y = true := fun y => by simp [Region.wanted, g1]
              have w2 : ∀ y, Region.wanted o2 y = true := fun y => by simp [Region.wanted, g2]
              have e1 : (#[o1, o2] : Array Oper)[0]? = some o1 := rfl
              have e2 : (#[o1, o2] : Array Oper)[1]? = some o2 := rfl
              simp only [e1, e2, w1, w2, if_true]
              refine .inl ((op_mv (m := false) (x' := .t 0) hIA (.inl p1) rfl (s1 := ⟨[.d (.sl xs), .dead, .nilsl, .dead, .dead, .dead, .dead, .dead], []⟩) (v := .d (.sl xs)) rfl d1 (s' := ⟨[.d (.sl xs), .dead, .nilsl, .d (.sl xs), .dead, .dead, .dead, .dead], []⟩) (by rw [d1]; rfl)).wp ?_)
              intro gB wB aB hIB hcB hdB
              have hAB := hcA.trans hcB
              have hdAB := hdB.trans hdA
              obtain ⟨ad2, cap2, hva, _⟩ := (x_toD hIB (x := .tmp 3) (y := .t 3) rfl (d := .sl xs) rfl).sl_inv
              have hv2 := x_toD hIB (x := .tmp 3) (y := .t 3) rfl (d := .sl xs) rfl
              rw [hva] at hv2
              have hq : ∀ y, (eqGuard .eql t' (.tmp 3) y (.slice ad2 xs.length cap2) (.slice none 0 0)).run P wB = .ok () wB := fun y => by unfold eqGuard; rfl
              have hex : (execOp aB.eval o2).run P wB = .ok (.value (.bool ad2.isNone)) wB := by
                have e4 : aB.eval (.const (.slice none 0 0)) = .slice none 0 0 := rfl
                unfold execOp
                simp only [p2, hva, e4, Sem.run_bind, hq, Result.andThen_ok, Sem.run_pure, Lib.run_eql_slice_nil wB _ _ _ _ _ _ _ hun2]
              refine .inl ((OpRes.value (l := .ret 0) hIB hex (v := .d (.bool ad2.isNone)) (s' := ⟨[.d (.sl xs), .dead, .nilsl, .d (.sl xs), .d (.bool ad2.isNone), .dead, .dead, .dead], []⟩) (by rw [d2]; rfl) rfl (by simp only [RepF]; exact .bool _)).wp ?_)
              intro gC wC aC hIC hcC hdC
              have hAC := hAB.trans hcC
              have hdAC := hdC.trans hdAB
              have hcv : aC.eval (.tmp 4) = .bool ad2.isNone := by
                have := (x_toD hIC (x := .tmp 4) (y := .t 4) rfl (d := .bool ad2.isNone) rfl)
                exact this.bool_inv
              cases ad2 with
              | none =>
                obtain rfl := nil_of hv2
                refine wp_cond_true hcv (code_sound cf0_sound (pf := fun _ => false) cf0_nice 0 c2 (clC e) k2 (s' := ⟨[.dead, .dead, .own e [], .dead, .dead, .dead, .dead, .dead], []⟩) (ex := .ret) rfl hIC ?_)
                intro g' w' a' hI' hc' hd'
                exact retcase _ (.own e []) rfl rfl (fun _ _ _ => trivial) (.inl rfl) g' w' a' hI' (hAC.trans hc') (hd'.trans hdAC)
              | some ad3 =>
                refine wp_cond_false hcv (wp_skip ?_)
                refine code_sound cf0_sound (pf := fun _ => false) cf0_nice 0 c3 (clD e sz bytes) k3 (s' := ⟨[.dead, .dead, .own e xs, .dead, .dead, .dead, .dead, .dead], []⟩) (ex := .ret) ?_ hIC ?_
                · have ha : ∀ s : St, s.tm.getD 5 .dead = .own e [] → s.tm.getD 6 .dead = .d (.sl xs) → appOp s e sz bytes (.t 5) (.t 6) = some (.own e xs, { s with tm := s.tm.set 5 .dead }) := by
                    intro s h1 h2
                    simp only [appOp, St.x, h1, h2, PV.toD, if_true, hr, List.nil_append]
                  have hb : ∀ s : St, evOp cf0 (some 7) (.app e sz bytes (.t 5) (.t 6)) s = (appOp s e sz bytes (.t 5) (.t 6)).bind fun (v, s) => okPut s (some 7) v := fun _ => rfl
                  unfold clD
                  simp only [Option.isNone_some]
                  rw [show evCode cf0 0 (.seq (.reg [⟨some 5, none, .bsl e sz []⟩, ⟨some 6, none, .mv false (.t 0)⟩, ⟨some 7, none, .app e sz bytes (.t 5) (.t 6)⟩, ⟨some 2, none, .mv true (.t 7)⟩] [] false) (.ret [.kill, .kill, .keep])) ⟨[.d (.sl xs), .dead, .nilsl, .d (.sl xs), .d (.bool false), .dead, .dead, .dead], []⟩ =
                    (match ((match (appOp ⟨[.d (.sl xs), .dead, .nilsl, .d (.sl xs), .d (.bool false), .own e [], .d (.sl xs), .dead], []⟩ e sz bytes (.t 5) (.t 6)).bind fun (v, s) => okPut s (some 7) v with
                      | some (.ok s') => evOps cf0 [⟨some 2, none, .mv true (.t 7)⟩] s'
                      | x => x).bind (drawEnd false)).map (regEnd ⟨[.d (.sl xs), .dead, .nilsl, .d (.sl xs), .d (.bool false), .dead, .dead, .dead], []⟩ []) with
                    | some (.norm, s') => evCode cf0 0 (.ret [.kill, .kill, .keep]) s'
                    | r => r) from rfl]
                  rw [ha _ rfl rfl]
                  rfl
                intro g' w' a' hI' hc' hd'
                exact retcase _ (.own e xs) rfl rfl (fun _ _ _ => trivial) (.inl rfl) g' w' a' hI' (hAC.trans hc') (hd'.trans hdAC)
            · simp at hun
          · simp at m2
        · simp at m1
      · simp at k1
    · simp at hbody
  · simp at hk

theorem clone_ent {f t e sz bytes : Nat} (hk : cloneOk P f t e sz bytes = true) : entered P f = true := by
  unfold cloneOk at hk
  unfold entered
  split at hk
  · rename_i fn hf
    rw [hf]
    simp only [Bool.and_eq_true, beq_iff_eq] at hk ⊢
    obtain ⟨⟨⟨⟨hnt, h2⟩, hres⟩, hun⟩, hbody⟩ := hk
    split at hbody
    · rename_i c0 i1 ops c2 c3 hc
      exact ⟨by rw [hc]; rfl, h2⟩
    · simp at hbody
  · simp at hk

theorem clone_prim {f t e sz bytes : Nat} (hk : cloneOk P f t e sz bytes = true) : PrimSound P f (cloneP e sz bytes) where
  ent := clone_ent hk
  calls := by
    intro args v hv hfl hpl g w vals l ha
    unfold cloneP at hv
    split at hv
    · rename_i xs
      split at hv
      · rename_i hr
        simp only [Option.some.injEq] at hv
        subst hv
        match vals, ha with
        | [u], ha =>
          simp only [RepFs, RepF, and_true] at ha
          exact clone_run hk hr ha
      · simp at hv
    · simp only [Option.some.injEq] at hv
      subst hv
      match vals, ha with
      | [u], ha =>
        simp only [RepFs, RepF, and_true] at ha
        subst ha
        refine clone_run hk (xs := []) ?_ (.sl0 none 0)
        simp [rowOk, maxRow]
    · simp at hv
end
end Go.Pe

namespace Go.Pe
section
variable {P : Program} {g : G} {w : World}

def clE (e sz bytes : Nat) : RCode := .seq (.reg [⟨some 5, none, .bsl e sz []⟩, ⟨some 6, none, .mv false (.t 0)⟩, ⟨some 7, none, .apr e sz bytes (.t 5) (.t 6)⟩, ⟨some 2, none, .mv false (.t 7)⟩] [] false) (.ret [.kill, .kill, .keep])

def cloneMk (P : Program) (f : Nat) (t e sz bytes : Nat) : Bool :=
  match P.funcs[f]? with
  | some fn => fn.ntmps == 8 && (fn.name != "runtime.NumGoroutine") && resOk P fn.results.toList [.t 2] && (match P.underlying t with | some (.slice _) => true | _ => false) &&
    (match fn.body with
    | some (.seq c0 (.seq (.seq (.region _ ops false) (.cond (.tmp 4) c2 .skip)) c3)) => codeOk P (fun _ => false) c0 clA && clOps t ops.toList && codeOk P (fun _ => false) c2 (clC e) && codeOk P (fun _ => false) c3 (clE e sz bytes)
    | _ => false)
  | none => false

def cloneM (sz bytes : Nat) : List PV → Option (List D)
  | [.d (.sl xs)] => if rowOk sz bytes [] xs then some xs else none
  | _ => none

theorem cloneM_run {f t e sz bytes : Nat} (hk : cloneMk P f t e sz bytes = true) {xs : List D} (hr : rowOk sz bytes [] xs = true) {g : G} {w : World} {v : Value} (hv : DRep g.stab w (.sl xs) v) {hp : List Ent} (hH : HeapInv P g w hp) :
    Calls P f #[v] w (CallPost P g w (.ret (.rowh hp.length 0 xs.length) (hp ++ [rowEnt xs]))) := by
  unfold cloneMk at hk
  split at hk
  · rename_i fn hf
    simp only [Bool.and_eq_true, beq_iff_eq] at hk
    obtain ⟨⟨⟨⟨hnt, _⟩, hres⟩, hun⟩, hbody⟩ := hk
    split at hbody
    · rename_i c0 i1 ops c2 c3 hc
      simp only [Bool.and_eq_true] at hbody
      obtain ⟨⟨⟨k0, k1⟩, k2⟩, k3⟩ := hbody
      unfold clOps at k1
      split at k1
      · rename_i o1 o2 hops
        simp only [Bool.and_eq_true, beq_iff_eq, Option.isNone_iff_eq_none] at k1
        obtain ⟨⟨⟨⟨⟨d1, d2⟩, g1⟩, g2⟩, m1⟩, m2⟩ := k1
        split at m1
        · rename_i p1
          split at m2
          · rename_i t' _ p2
            simp only [beq_iff_eq] at m2
            subst m2
            split at hun
            · rename_i et hun2
              obtain ⟨ad, cap, rfl, hcap⟩ := hv.sl_inv
              refine calls_of_wp hf hc ?_
              rw [hnt]
              have hargs : RepFs P g w (.ret 0) [.d (.sl xs)] [.slice ad xs.length cap] := by simp only [RepFs, RepF, and_true]; exact hv
              have hI := Inv.enter (P := P) (w := w) (g := g) (hp := hp) (l := .ret 0) (args := [.d (.sl xs)]) rfl hargs hH 8
              refine wp_seq (code_sound cf0_sound (pf := fun _ => false) cf0_nice 0 c0 clA k0 (s' := ⟨[.d (.sl xs), .dead, .nilsl, .dead, .dead, .dead, .dead, .dead], hp⟩) (ex := .norm) rfl hI ?_)
              intro gA wA aA hIA hcA hdA
              refine wp_seq (wp_seq (wp_region ?_))
              have hoa : ops = #[o1, o2] := by apply Array.toList_inj.1; rw [hops]
              subst hoa
              have hrg : List.range (#[o1, o2] : Array Oper).size = [0, 1] := rfl
              rw [hrg]
              simp only [wpOps]
              have w1 : ∀ y, Region.wanted o1 y = true := fun y => by simp [Region.wanted, g1]
              have w2 : ∀ y, Region.wanted o2 y = true := fun y => by simp [Region.wanted, g2]
              have e1 : (#[o1, o2] : Array Oper)[0]? = some o1 := rfl
              have e2 : (#[o1, o2] : Array Oper)[1]? = some o2 := rfl
              simp only [e1, e2, w1, w2, if_true]
              refine .inl ((op_mv (m := false) (x' := .t 0) hIA (.inl p1) rfl (s1 := ⟨[.d (.sl xs), .dead, .nilsl, .dead, .dead, .dead, .dead, .dead], hp⟩) (v := .d (.sl xs)) rfl d1 (s' := ⟨[.d (.sl xs), .dead, .nilsl, .d (.sl xs), .dead, .dead, .dead, .dead], hp⟩) (by rw [d1]; rfl)).wp ?_)
              intro gB wB aB hIB hcB hdB
              have hAB := hcA.trans hcB
              have hdAB := hdB.trans hdA
              obtain ⟨ad2, cap2, hva, _⟩ := (x_toD hIB (x := .tmp 3) (y := .t 3) rfl (d := .sl xs) rfl).sl_inv
              have hv2 := x_toD hIB (x := .tmp 3) (y := .t 3) rfl (d := .sl xs) rfl
              rw [hva] at hv2
              have hq : ∀ y, (eqGuard .eql t' (.tmp 3) y (.slice ad2 xs.length cap2) (.slice none 0 0)).run P wB = .ok () wB := fun y => by unfold eqGuard; rfl
              have hex : (execOp aB.eval o2).run P wB = .ok (.value (.bool ad2.isNone)) wB := by
                have e4 : aB.eval (.const (.slice none 0 0)) = .slice none 0 0 := rfl
                unfold execOp
                simp only [p2, hva, e4, Sem.run_bind, hq, Result.andThen_ok, Sem.run_pure, Lib.run_eql_slice_nil wB _ _ _ _ _ _ _ hun2]
              refine .inl ((OpRes.value (l := .ret 0) hIB hex (v := .d (.bool ad2.isNone)) (s' := ⟨[.d (.sl xs), .dead, .nilsl, .d (.sl xs), .d (.bool ad2.isNone), .dead, .dead, .dead], hp⟩) (by rw [d2]; rfl) rfl (by simp only [RepF]; exact .bool _)).wp ?_)
              intro gC wC aC hIC hcC hdC
              have hAC := hAB.trans hcC
              have hdAC := hdC.trans hdAB
              have hcv : aC.eval (.tmp 4) = .bool ad2.isNone := by
                have := (x_toD hIC (x := .tmp 4) (y := .t 4) rfl (d := .bool ad2.isNone) rfl)
                exact this.bool_inv
              cases ad2 with
              | none =>
                obtain rfl := nil_of hv2
                refine wp_cond_true hcv (code_sound cf0_sound (pf := fun _ => false) cf0_nice 0 c2 (clC e) k2 (s' := ⟨[.dead, .dead, .own e [], .dead, .dead, .dead, .dead, .dead], hp⟩) (ex := .ret) rfl hIC ?_)
                intro g' w' a' hI' hc' hd'
                obtain ⟨u, g1, r1, r2, r3, r4⟩ := results_ok hI' hres (by simp) (v := .own e []) rfl
                refine ⟨hd'.trans hdAC, u, r1, { g1 with nb := g1.nb + 1 }, ?_, u, rfl, ?_, ?_⟩
                · refine ((hAC.trans hc').trans r2).trans ⟨rfl, rfl, rfl, Nat.le_refl _, fun _ _ _ h k => ⟨h, k⟩, fun _ _ _ h _ => ⟨h, rfl, rfl⟩, fun _ _ h => ⟨h, rfl⟩, Nat.le_succ _, fun _ _ => rfl⟩
                · have r5 : RepF P g1 w' (.ret 0) (.own e []) u := r3
                  simp only [RepF] at r5
                  obtain ⟨us, q1, _⟩ := r5
                  have hnb : g1.nb = hp.length := r4.nb
                  show RepF P _ w' (.ret 0) (.rowh hp.length 0 0) u
                  simp only [RepF]
                  rcases q1.2 with ⟨hv, _⟩ | ⟨b, cap, cur, hv, _, _, hle, _⟩
                  · exact ⟨by rw [hnb]; exact Nat.lt_succ_self _, none, 0, hv, Nat.le_refl _, fun hf => absurd rfl hf⟩
                  · exact ⟨by rw [hnb]; exact Nat.lt_succ_self _, _, cap, hv, hle, fun hf => absurd rfl hf⟩
                · exact r4.push (g' := { g1 with nb := g1.nb + 1 }) (en := rowEnt []) (M := fun _ => False) ⟨rfl, rfl, rfl, Nat.le_refl _, fun _ _ _ h k => ⟨h, k⟩, fun _ _ _ h _ => ⟨h, rfl, rfl⟩, fun _ _ h => ⟨h, rfl⟩, Nat.le_succ _, fun _ _ => rfl⟩ (fun _ => ⟨fun hf => hf, fun _ hf => hf⟩) rfl trivial (rowEnt_bn [])
              | some ad3 =>
                refine wp_cond_false hcv (wp_skip ?_)
                refine code_sound cf0_sound (pf := fun _ => false) cf0_nice 0 c3 (clE e sz bytes) k3 (s' := ⟨[.dead, .dead, .rowh hp.length 0 xs.length, .dead, .dead, .dead, .dead, .dead], hp ++ [rowEnt xs]⟩) (ex := .ret) ?_ hIC ?_
                · have ha : ∀ s : St, s.tm.getD 5 .dead = .own e [] → s.tm.getD 6 .dead = .d (.sl xs) → aprOp s e sz bytes (.t 5) (.t 6) = some (.rowh s.hp.length 0 xs.length, ⟨s.tm.set 5 .dead, s.hp ++ [rowEnt xs]⟩) := by
                    intro s h1 h2
                    simp only [aprOp, St.x, h1, h2, PV.toD, if_true, hr]
                  unfold clE
                  simp only [Option.isNone_some]
                  rw [show evCode cf0 0 (.seq (.reg [⟨some 5, none, .bsl e sz []⟩, ⟨some 6, none, .mv false (.t 0)⟩, ⟨some 7, none, .apr e sz bytes (.t 5) (.t 6)⟩, ⟨some 2, none, .mv false (.t 7)⟩] [] false) (.ret [.kill, .kill, .keep])) ⟨[.d (.sl xs), .dead, .nilsl, .d (.sl xs), .d (.bool false), .dead, .dead, .dead], hp⟩ =
                    (match ((match (aprOp ⟨[.d (.sl xs), .dead, .nilsl, .d (.sl xs), .d (.bool false), .own e [], .d (.sl xs), .dead], hp⟩ e sz bytes (.t 5) (.t 6)).bind fun (v, s) => okPut s (some 7) v with
                      | some (.ok s') => evOps cf0 [⟨some 2, none, .mv false (.t 7)⟩] s'
                      | x => x).bind (drawEnd false)).map (regEnd ⟨[.d (.sl xs), .dead, .nilsl, .d (.sl xs), .d (.bool false), .dead, .dead, .dead], hp⟩ []) with
                    | some (.norm, s') => evCode cf0 0 (.ret [.kill, .kill, .keep]) s'
                    | r => r) from rfl]
                  rw [ha _ rfl rfl]
                  rfl
                intro g' w' a' hI' hc' hd'
                obtain ⟨u, g1, r1, r2, r3, r4⟩ := results_ok hI' hres (by simp) (v := .rowh hp.length 0 xs.length) rfl
                exact ⟨hd'.trans hdAC, u, r1, g1, (hAC.trans hc').trans r2, u, rfl, r3, r4⟩
            · simp at hun
          · simp at m2
        · simp at m1
      · simp at k1
    · simp at hbody
  · simp at hk

theorem cloneM_mk {f t e sz bytes : Nat} (hk : cloneMk P f t e sz bytes = true) : MkSound P f (cloneM sz bytes) where
  ent := by
    unfold cloneMk at hk
    unfold entered
    split at hk
    · rename_i fn hf
      rw [hf]
      simp only [Bool.and_eq_true, beq_iff_eq] at hk ⊢
      obtain ⟨⟨⟨⟨hnt, h2⟩, hres⟩, hun⟩, hbody⟩ := hk
      split at hbody
      · rename_i c0 i1 ops c2 c3 hc
        exact ⟨by rw [hc]; rfl, h2⟩
      · simp at hbody
    · simp at hk
  calls := by
    intro args ys hv hpl g w vals l hp ha hH
    unfold cloneM at hv
    split at hv
    · rename_i xs
      split at hv
      · rename_i hr
        simp only [Option.some.injEq] at hv
        subst hv
        match vals, ha with
        | [u], ha =>
          simp only [RepFs, RepF, and_true] at ha
          exact cloneM_run hk hr ha hH
      · simp at hv
    · simp at hv
end
end Go.Pe

namespace Go.Pe
inductive Xp where
  | mk (op : Int) (text : ByteArray) (pos kind coef scale : Int) (names : List ByteArray) (subs : List Xp)

mutual
def Xp.enc : Xp → D
  | .mk o t p k c s ns xs => .agg [iv o, .str t, iv p, iv k, iv c, iv s, .sl (ns.map .str), .sl (Xp.encs xs)]
def Xp.encs : List Xp → List D
  | [] => []
  | v :: r => v.enc :: Xp.encs r
end
theorem xencs_eq : ∀ (xs : List Xp), Xp.encs xs = xs.map Xp.enc
  | [] => rfl
  | v :: xs => by simp [Xp.encs, xencs_eq xs]
theorem xencs_get (xs : List Xp) (i : Nat) : (Xp.encs xs)[i]? = xs[i]?.map Xp.enc := by rw [xencs_eq, List.getElem?_map]
theorem xencs_len (xs : List Xp) : (Xp.encs xs).length = xs.length := by rw [xencs_eq, List.length_map]
theorem xencs_app (xs ys : List Xp) : Xp.encs (xs ++ ys) = Xp.encs xs ++ Xp.encs ys := by simp [xencs_eq]
theorem xenc_w (v : Xp) : v.enc.width = 8 := by cases v; rfl
theorem xenc_a (v : Xp) : v.enc.isAgg = true := by cases v; rfl
theorem xenc_as (v : Xp) : ∃ (o : Int) (t : ByteArray) (p k c s : Int) (ns : List ByteArray) (xs : List Xp), v.enc = .agg [iv o, .str t, iv p, iv k, iv c, iv s, .sl (ns.map .str), .sl (Xp.encs xs)] := by
  cases v; exact ⟨_, _, _, _, _, _, _, _, rfl⟩

mutual
def Xp.ok : Xp → Prop
  | .mk o t p k c s ns xs => i64 o ∧ t.size ≤ maxLen ∧ i64 p ∧ i64 k ∧ i64 c ∧ i64 s ∧ ns.length ≤ maxLen ∧ (∀ x ∈ ns, x.size ≤ maxLen) ∧ xs.length ≤ maxLen ∧ Xp.oks xs
def Xp.oks : List Xp → Prop
  | [] => True
  | v :: r => v.ok ∧ Xp.oks r
end
theorem xoks_iff : ∀ {xs : List Xp}, Xp.oks xs ↔ ∀ v ∈ xs, v.ok
  | [] => by simp [Xp.oks]
  | x :: xs => by simp [Xp.oks, xoks_iff (xs := xs)]
theorem xoks_mem {xs : List Xp} {v : Xp} (h : Xp.oks xs) (hv : v ∈ xs) : v.ok := xoks_iff.1 h v hv

mutual
def Xp.pre : Xp → List Xp
  | .mk o t p k c s ns xs => .mk o t p k c s ns xs :: Xp.pres xs
def Xp.pres : List Xp → List Xp
  | [] => []
  | x :: r => x.pre ++ Xp.pres r
end
theorem pres_app (a b : List Xp) : Xp.pres (a ++ b) = Xp.pres a ++ Xp.pres b := by
  induction a with
  | nil => rfl
  | cons x a ih => simp [Xp.pres, ih, List.append_assoc]
def Xp.subs : Xp → List Xp
  | .mk _ _ _ _ _ _ _ xs => xs
theorem pre_eq (e : Xp) : e.pre = e :: Xp.pres e.subs := by cases e; rfl
theorem pre_pos (e : Xp) : 0 < e.pre.length := by rw [pre_eq]; simp
mutual
theorem pre_ok : ∀ (e : Xp), e.ok → ∀ x ∈ e.pre, x.ok
  | .mk o t p k c s ns xs, h, x, hx => by
    simp only [Xp.pre, List.mem_cons] at hx
    rcases hx with rfl | hx
    · exact h
    · simp only [Xp.ok] at h
      exact pres_ok xs h.2.2.2.2.2.2.2.2.2 x hx
theorem pres_ok : ∀ (xs : List Xp), Xp.oks xs → ∀ x ∈ Xp.pres xs, x.ok
  | [], h, x, hx => by simp [Xp.pres] at hx
  | e :: xs, h, x, hx => by
    simp only [Xp.pres, List.mem_append] at hx
    rcases hx with hx | hx
    · exact pre_ok e h.1 x hx
    · exact pres_ok xs h.2 x hx
end

section
variable {H : Type} {P : Program}
structure XpT (P : Program) (tV : TypeId) : Prop where
  is : ∃ (fV fN : Array Field) (tO tX tP tK tN tT tU tC tE tEs : TypeId), P.underlying tV = some (.struct fV) ∧ fV.toList.map (·.type) = [tO, tX, tP, tK, tN, tT, tU] ∧
    P.underlying tO = some (.int .i64) ∧ P.underlying tX = some .string ∧ P.underlying tP = some (.int .i64) ∧ P.underlying tK = some (.int .i64) ∧
    P.underlying tN = some (.struct fN) ∧ fN.toList.map (·.type) = [tC, tE] ∧ P.underlying tC = some (.int .i64) ∧ P.underlying tE = some (.int .i64) ∧
    P.underlying tT = some (.slice tEs) ∧ P.underlying tEs = some .string ∧ P.underlying tU = some (.slice tV)

theorem lift_xp {tV : TypeId} (hT : XpT P tV) : ∀ (n : Nat) (d : DataW H) (xs : List D), SizeOf.sizeOf xs ≤ n → Lift P tV d xs → ∃ v : Xp, v.ok ∧ D.agg xs = v.enc
  | 0, d, xs, hn, h => by cases xs <;> simp at hn
  | n + 1, d, xs, hn, h => by
    obtain ⟨fV, fN, tO, tX, tP, tK, tN, tT, tU, tC, tE, tEs, e1, e2, u1, u2, u3, u4, u5, u6, u7, u8, u9, u10, u11⟩ := hT.is
    have hagg : aggT P tV = true := by simp [aggT, e1]
    obtain ⟨ds, l0⟩ := lift_st e1 h
    rw [e2] at l0
    obtain ⟨_, _, a1, b1, rfl, m1, l1⟩ := lifts_cons l0
    obtain ⟨_, _, a2, b2, rfl, m2, l2⟩ := lifts_cons l1
    obtain ⟨_, _, a3, b3, rfl, m3, l3⟩ := lifts_cons l2
    obtain ⟨_, _, a4, b4, rfl, m4, l4⟩ := lifts_cons l3
    obtain ⟨_, _, a5, b5, rfl, m5, l5⟩ := lifts_cons l4
    obtain ⟨_, _, a6, b6, rfl, m6, l6⟩ := lifts_cons l5
    obtain ⟨_, _, a7, b7, rfl, m7, l7⟩ := lifts_cons l6
    obtain rfl := lifts_nil l7
    obtain ⟨o, rfl, k1⟩ := lift_int u1 m1
    obtain ⟨t, rfl, k2⟩ := lift_str u2 m2
    obtain ⟨p, rfl, k3⟩ := lift_int u3 m3
    obtain ⟨k, rfl, k4⟩ := lift_int u4 m4
    obtain ⟨_, q0⟩ := lift_st u5 m5
    rw [u6] at q0
    obtain ⟨_, _, c1, c2, rfl, n1, q1⟩ := lifts_cons q0
    obtain ⟨_, _, c3, c4, rfl, n2, q2⟩ := lifts_cons q1
    obtain rfl := lifts_nil q2
    obtain ⟨c, rfl, k5⟩ := lift_int u7 n1
    obtain ⟨s, rfl, k6⟩ := lift_int u8 n2
    obtain ⟨ns, rfl, k7, k8⟩ := lift_strs u9 u10 m6
    obtain ⟨ys, rfl, k9, k10⟩ := lift_sl u11 m7
    have key : ∀ zs : List D, (∀ y ∈ zs, y ∈ ys) → ∃ vs : List Xp, Xp.oks vs ∧ zs = Xp.encs vs := by
      intro zs
      induction zs with
      | nil => exact fun _ => ⟨[], trivial, rfl⟩
      | cons y zs ih =>
        intro hz
        obtain ⟨vs, v1, v2⟩ := ih fun y hy => hz y (by simp [hy])
        obtain ⟨g1, d', g2⟩ := k10 y (hz y (by simp))
        have g3 := agg_cells (y := y) (by rw [g1, hagg])
        have hsz : SizeOf.sizeOf y.cells ≤ n := by
          have s1 : SizeOf.sizeOf y < SizeOf.sizeOf ys := List.sizeOf_lt_of_mem (hz y (by simp))
          rw [g3] at s1
          simp at hn s1
          omega
        obtain ⟨v, w1, w2⟩ := lift_xp hT n d' y.cells hsz g2
        exact ⟨v :: vs, ⟨w1, v1⟩, by rw [Xp.encs, ← w2, ← g3, ← v2]⟩
    obtain ⟨vs, v1, v2⟩ := key ys (fun _ h => h)
    subst v2
    refine ⟨.mk o t p k c s ns vs, ?_, by simp [Xp.enc]⟩
    simp only [Xp.ok]
    exact ⟨k1, k2, k3, k4, k5, k6, k7, k8, by rw [xencs_len] at k9; exact k9, v1⟩

theorem lift_xp' {tV : TypeId} (hT : XpT P tV) {d : DataW H} {x : D} (h : Lift P tV d x.cells) (ha : x.isAgg = aggT P tV) : ∃ v : Xp, v.ok ∧ x = v.enc := by
  obtain ⟨fV, _, _, _, _, _, _, _, _, _, _, _, e1, _⟩ := hT.is
  have hagg : aggT P tV = true := by simp [aggT, e1]
  obtain ⟨v, h1, h2⟩ := lift_xp hT _ d x.cells (Nat.le_refl _) h
  exact ⟨v, h1, by rw [← h2]; exact agg_cells (by rw [ha, hagg])⟩
theorem lift_i {t : TypeId} (ht : P.underlying t = some (.int .i64)) {d : DataW H} {x : D} (h : Lift P t d x.cells) (ha : x.isAgg = aggT P t) : ∃ n, i64 n ∧ x = iv n := by
  obtain ⟨n, h1, h2⟩ := lift_int ht h
  exact ⟨n, h2, cell_cells (by rw [ha]; simp [aggT, ht]) h1⟩
end
end Go.Pe

namespace Go.Pe
mutual
def D.small (N : Nat) : D → Prop
  | .str s => s.size ≤ N
  | .agg cs => D.smalls N cs
  | .sl xs => D.smalls N xs
  | _ => True
def D.smalls (N : Nat) : List D → Prop
  | [] => True
  | x :: r => D.small N x ∧ D.smalls N r
end
theorem smalls_iff {N : Nat} : ∀ {xs : List D}, D.smalls N xs ↔ ∀ x ∈ xs, D.small N x
  | [] => by simp [D.smalls]
  | x :: xs => by simp [D.smalls, smalls_iff (xs := xs)]
theorem small_cells {N : Nat} {x : D} (h : ∀ c ∈ x.cells, D.small N c) : D.small N x := by
  cases x with
  | agg cs => simp only [D.small]; exact smalls_iff.2 h
  | _ => exact h _ (by simp [D.cells])

structure BulkFn {H : Type} (b : DataW H → Nat) (ba : List (DataW H) → Nat) : Prop where
  str : ∀ s, b (.lit (.string s)) = s.length + 1
  sl : ∀ e s, b (.slice e s) = ba e + ba s + 1
  agg : ∀ p, b (.agg p) = ba p + 1
  nil : ba [] = 0
  cons : ∀ d r, ba (d :: r) = b d + ba r

section
variable {H : Type} {P : Program} {b : DataW H → Nat} {ba : List (DataW H) → Nat}
theorem BulkFn.mem (hb : BulkFn b ba) {d : DataW H} : ∀ {l : List (DataW H)}, d ∈ l → b d ≤ ba l
  | x :: r, h => by
    rw [hb.cons]
    rcases List.mem_cons.1 h with rfl | h
    · omega
    · have := hb.mem h; omega


theorem lift_small (hb : BulkFn b ba) {N : Nat} : ∀ (n : Nat) (d : DataW H), SizeOf.sizeOf d ≤ n → ∀ (t : TypeId) (xs : List D), Lift P t d xs → b d ≤ N → ∀ x ∈ xs, D.small N x
  | 0, d, hn, t, xs, h, hd => by cases d <;> simp at hn
  | n + 1, d, hn, t, xs, h, hd => by
    have parts : ∀ (ts : List TypeId) (ds : List (DataW H)) (cs : List D), (∀ d ∈ ds, SizeOf.sizeOf d ≤ n) → ba ds ≤ N → Lifts P ts ds cs → ∀ x ∈ cs, D.small N x := by
      intro ts
      induction ts with
      | nil => intro ds cs _ _ hl x hx; cases hl; simp at hx
      | cons t ts iht =>
        intro ds cs hs hbd hl x hx
        cases hl with
        | cons h1 h2 =>
          rename_i d' ds' a b'
          rw [hb.cons] at hbd
          rcases List.mem_append.1 hx with hx | hx
          · exact lift_small hb n d' (hs d' (by simp)) t a h1 (by omega) x hx
          · exact iht ds' b' (fun d hd => hs d (by simp [hd])) (by omega) h2 x hx
    cases h with
    | bool b _ => intro x hx; simp at hx; subst hx; trivial
    | int k m _ _ => intro x hx; simp at hx; subst hx; trivial
    | str s _ _ =>
      intro x hx
      simp at hx
      subst hx
      rw [hb.str] at hd
      show s.size ≤ N
      have : s.data.toList.length = s.size := rfl
      omega
    | sl0 e _ => intro x hx; simp at hx; subst hx; trivial
    | sl e ds spare ys h1 h2 h3 h4 h5 =>
      intro x hx
      simp at hx
      subst hx
      show D.smalls N ys
      rw [smalls_iff]
      intro y hy
      obtain ⟨i, hi⟩ := List.getElem?_of_mem hy
      have hlt : i < ds.length := by
        have := (List.getElem?_eq_some_iff.1 hi).1
        omega
      have hm : ds[i] ∈ ds := List.getElem_mem hlt
      have hsz : SizeOf.sizeOf ds[i] ≤ n := by
        have s1 := List.sizeOf_lt_of_mem hm
        simp at hn
        omega
      rw [hb.sl] at hd
      have hle := hb.mem hm
      exact small_cells (lift_small hb n ds[i] hsz e y.cells (h5 i y _ hi (List.getElem?_eq_getElem hlt)) (by omega))
    | st fs ds _ h1 h2 =>
      rw [hb.agg] at hd
      exact parts _ ds _ (fun d hd => by have s1 := List.sizeOf_lt_of_mem hd; simp at hn; omega) (by omega) h2
    | arr m e ds _ h1 h2 =>
      rw [hb.agg] at hd
      exact parts _ ds _ (fun d hd => by have s1 := List.sizeOf_lt_of_mem hd; simp at hn; omega) (by omega) h2

theorem liftArgs_small (hb : BulkFn b ba) {N : Nat} : ∀ {ts : List TypeId} {ds : List (DataW H)} {xs : List D}, LiftArgs P ts ds xs → ba ds ≤ N → ∀ x ∈ xs, D.small N x
  | [], [], [], _, _ => by simp
  | t :: ts, d :: ds, x :: xs, h, hd => by
    rw [hb.cons] at hd
    intro y hy
    rcases List.mem_cons.1 hy with rfl | hy
    · exact small_cells (lift_small hb _ d (Nat.le_refl _) t _ h.1.1 (by omega))
    · exact liftArgs_small hb h.2 (by omega) y hy
  | [], _ :: _, _, h, _ => by simp [LiftArgs] at h
  | [], [], _ :: _, h, _ => by simp [LiftArgs] at h
  | _ :: _, [], _, h, _ => by simp [LiftArgs] at h
  | _ :: _, _ :: _, [], h, _ => by simp [LiftArgs] at h
end

mutual
def Xp.lim (N : Nat) : Xp → Prop
  | .mk o t p k c s ns xs => t.size ≤ N ∧ (∀ x ∈ ns, x.size ≤ N) ∧ Xp.lims N xs
def Xp.lims (N : Nat) : List Xp → Prop
  | [] => True
  | x :: r => Xp.lim N x ∧ Xp.lims N r
end
mutual
theorem lim_small {N : Nat} : ∀ (v : Xp), D.small N v.enc → v.lim N
  | .mk o t p k c s ns xs, h => by
    simp only [Xp.enc, D.small, D.smalls, true_and, and_true] at h
    refine ⟨h.1, ?_, lims_small xs h.2.2⟩
    intro x hx
    exact smalls_iff.1 h.2.1 (.str x) (List.mem_map_of_mem hx)
theorem lims_small {N : Nat} : ∀ (xs : List Xp), D.smalls N (Xp.encs xs) → Xp.lims N xs
  | [], _ => trivial
  | x :: xs, h => by
    simp only [Xp.encs, D.smalls] at h
    exact ⟨lim_small x h.1, lims_small xs h.2⟩
end
mutual
theorem lim_mono {N M : Nat} (hNM : N ≤ M) : ∀ (v : Xp), v.lim N → v.lim M
  | .mk o t p k c s ns xs, h => by
    simp only [Xp.lim] at h ⊢
    exact ⟨by omega, fun x hx => by have := h.2.1 x hx; omega, lims_mono hNM xs h.2.2⟩
theorem lims_mono {N M : Nat} (hNM : N ≤ M) : ∀ (xs : List Xp), Xp.lims N xs → Xp.lims M xs
  | [], _ => trivial
  | x :: xs, h => ⟨lim_mono hNM x h.1, lims_mono hNM xs h.2⟩
end
mutual
theorem pre_lim {N : Nat} : ∀ (e : Xp), e.lim N → ∀ x ∈ e.pre, x.lim N
  | .mk o t p k c s ns xs, h, x, hx => by
    simp only [Xp.pre, List.mem_cons] at hx
    rcases hx with rfl | hx
    · exact h
    · simp only [Xp.lim] at h
      exact pres_lim xs h.2.2 x hx
theorem pres_lim {N : Nat} : ∀ (xs : List Xp), Xp.lims N xs → ∀ x ∈ Xp.pres xs, x.lim N
  | [], h, x, hx => by simp [Xp.pres] at hx
  | e :: xs, h, x, hx => by
    simp only [Xp.pres, List.mem_append] at hx
    rcases hx with hx | hx
    · exact pre_lim e h.1 x hx
    · exact pres_lim xs h.2 x hx
end
end Go.Pe

namespace Go.Pe

structure AggRow (sz : Nat) (ys : List D) : Prop where
  agg : ∀ y ∈ ys, y.isAgg = true
  wid : ∀ y ∈ ys, y.width = sz
  one : ∀ y ∈ ys, ∀ c ∈ y.cells, c.isAgg = false

theorem AggRow.tail {sz : Nat} {y : D} {ys : List D} (h : AggRow sz (y :: ys)) : AggRow sz ys := ⟨fun z hz => h.agg z (by simp [hz]), fun z hz => h.wid z (by simp [hz]), fun z hz => h.one z (by simp [hz])⟩

theorem flatD_cons (y : D) (ys : List D) : flatD (y :: ys) = y.cells.map PV.d ++ flatD ys := by simp [flatD]

theorem flatD_drop {sz : Nat} : ∀ {ys : List D}, (∀ y ∈ ys, y.width = sz) → ∀ i, (flatD ys).drop (i * sz) = flatD (ys.drop i)
  | ys, _, 0 => by simp
  | [], _, i + 1 => by simp [flatD]
  | y :: ys, hw, i + 1 => by
    have hy : (y.cells.map PV.d).length = sz := by rw [List.length_map]; exact hw y (by simp)
    rw [flatD_cons, Nat.succ_mul, Nat.add_comm, ← List.drop_drop, ← hy, List.drop_left, hy, flatD_drop (fun z hz => hw z (by simp [hz]))]
    rfl

theorem optAll_d : ∀ (l : List D), optAll ((l.map PV.d).map PV.toD) = some l
  | [] => rfl
  | x :: l => by
    simp only [List.map_cons, PV.toD, optAll, optAll_d l, Option.map_some]

theorem cellsAgg_row {sz : Nat} {ys : List D} (h : AggRow sz ys) {i : Nat} (hi : i < ys.length) : cellsAgg (flatD ys) (i * sz) sz = some (.d ys[i]) := by
  have hl := flatD_len h.wid
  have hle : i * sz + sz ≤ (flatD ys).length := by
    rw [hl]
    have : (i + 1) * sz ≤ ys.length * sz := Nat.mul_le_mul_right _ hi
    rw [Nat.succ_mul] at this
    exact this
  have hd := flatD_drop h.wid i
  rw [List.drop_eq_getElem_cons hi, flatD_cons] at hd
  have hy : (ys[i].cells.map PV.d).length = sz := by rw [List.length_map]; exact h.wid _ (List.getElem_mem hi)
  unfold cellsAgg
  rw [if_pos hle, hd, ← hy, List.take_left, optAll_d]
  simp only [Option.map_some, Option.some.injEq, PV.d.injEq]
  have ha := h.agg _ (List.getElem_mem hi)
  generalize ys[i] = y at *
  cases y <;> simp [D.isAgg] at ha
  rfl

theorem setCells_d : ∀ (l : List D) (cs : List PV) (off : Nat), off + l.length ≤ cs.length → setCells cs off l = cs.take off ++ l.map PV.d ++ cs.drop (off + l.length)
  | [], cs, off, h => by simp [setCells]
  | d :: l, cs, off, h => by
    simp only [List.length_cons] at h
    rw [setCells, setCells_d l _ (off + 1) (by simp; omega)]
    have h1 : (cs.set off (.d d)).take (off + 1) = cs.take off ++ [.d d] := by
      rw [List.take_add_one, List.take_set_of_le (Nat.le_refl _), List.getElem?_set_self (by omega)]
      rfl
    have h2 : (cs.set off (.d d)).drop (off + 1 + l.length) = cs.drop (off + (d :: l).length) := by
      rw [List.drop_set_of_lt (by omega)]
      congr 1
      simp; omega
    rw [h1, h2]
    simp

theorem storeIn_row {sz : Nat} {ys : List D} (h : AggRow sz ys) {i : Nat} (hi : i < ys.length) {y : D} (ha : y.isAgg = true) (hw : y.width = sz) : storeIn (some sz) (flatD ys) (i * sz) (.d y) = some (flatD (ys.set i y)) := by
  have hl := flatD_len h.wid
  have hle : i * sz + sz ≤ (flatD ys).length := by
    rw [hl]
    have : (i + 1) * sz ≤ ys.length * sz := Nat.mul_le_mul_right _ hi
    rw [Nat.succ_mul] at this
    exact this
  cases y with
  | agg ds =>
    have hds : ds.length = sz := hw
    have e1 : (ds.length = sz && i * sz + sz ≤ (flatD ys).length : Bool) = true := by simp [hds, hle]
    simp only [storeIn]
    rw [if_pos e1, setCells_d _ _ _ (by rw [hds]; exact hle)]
    congr 1
    have ht : (flatD ys).take (i * sz) = flatD (ys.take i) := by
      have e := flatD_drop h.wid i
      have e2 : flatD ys = flatD (ys.take i) ++ flatD (ys.drop i) := by
        unfold flatD
        rw [← List.map_append, ← List.flatMap_append, List.take_append_drop]
      have hlen : (flatD (ys.take i)).length = i * sz := by
        rw [flatD_len (fun z hz => h.wid z (List.mem_of_mem_take hz)), List.length_take, Nat.min_eq_left (Nat.le_of_lt hi)]
      rw [e2, ← hlen, List.take_left]
    have hd : (flatD ys).drop (i * sz + ds.length) = flatD (ys.drop (i + 1)) := by
      rw [hds, ← Nat.succ_mul]
      exact flatD_drop h.wid (i + 1)
    rw [ht, hd]
    have e3 : ys.set i (.agg ds) = ys.take i ++ .agg ds :: ys.drop (i + 1) := by
      rw [List.set_eq_take_append_cons_drop, if_pos hi]
    rw [e3]
    simp [flatD]
    rfl
  | _ => simp [D.isAgg] at ha

theorem AggRow.set {sz : Nat} {ys : List D} (h : AggRow sz ys) {i : Nat} {y : D} (ha : y.isAgg = true) (hw : y.width = sz) (ho : ∀ c ∈ y.cells, c.isAgg = false) : AggRow sz (ys.set i y) := by
  have key : ∀ z ∈ ys.set i y, z ∈ ys ∨ z = y := fun z hz => List.mem_or_eq_of_mem_set hz
  exact ⟨fun z hz => (key z hz).elim (h.agg z) (fun e => e ▸ ha), fun z hz => (key z hz).elim (h.wid z) (fun e => e ▸ hw), fun z hz => (key z hz).elim (h.one z) (fun e => e ▸ ho)⟩

theorem chunkD_flat {sz : Nat} : ∀ {ys : List D}, AggRow sz ys → chunkD sz ys.length (ys.flatMap D.cells) = ys
  | [], _ => rfl
  | y :: ys, h => by
    have hy : y.cells.length = sz := h.wid y (by simp)
    have ha := h.agg y (by simp)
    simp only [List.length_cons, chunkD, List.flatMap_cons]
    rw [← hy, List.take_left, List.drop_left, hy, chunkD_flat h.tail]
    cases y <;> simp [D.isAgg] at ha
    rfl

theorem frz_row {s : St} {sz id : Nat} {x : X} {ys : List D} (h : AggRow sz ys) (hx : s.x x = .rowh id 0 ys.length) (hid : s.hp[id]? = some (rowEnt ys)) : frzOp s sz true x = some (.d (.sl ys), { s with hp := s.hp.set id .gone }) := by
  unfold frzOp
  rw [hx]
  simp only
  by_cases h0 : ys = []
  · subst h0
    have : s.hp.set id .gone = s.hp := by
      obtain ⟨hlt, e⟩ := List.getElem?_eq_some_iff.1 hid
      have e' : s.hp[id] = .gone := e
      rw [← e']; exact List.set_getElem_self hlt
    rw [this]
    rfl
  · have hne : ¬ ys.length = 0 := fun e => h0 (List.eq_nil_of_length_eq_zero e)
    have e1 : rowEnt ys = .box (flatD ys) := by unfold rowEnt; cases ys with | nil => exact absurd rfl h0 | cons _ _ => rfl
    rw [if_neg hne, hid, e1]
    simp only [List.drop_zero]
    have hl := flatD_len h.wid
    rw [← hl, List.take_length]
    have e2 : optAll ((flatD ys).map PV.toD) = some (ys.flatMap D.cells) := optAll_d _
    rw [e2]
    simp only
    have e3 : (ys.flatMap D.cells).length = (flatD ys).length := by unfold flatD; simp
    have e4 : (ys.flatMap D.cells).all (fun d => !d.isAgg) = true := by
      simp only [List.all_eq_true, Bool.not_eq_true', List.mem_flatMap]
      rintro d ⟨y, hy, hd⟩
      exact h.one y hy d hd
    simp only [e3, e4, rowsD, if_true, chunkD_flat h, decide_true, Bool.true_or, Bool.and_true]
end Go.Pe

namespace Go.Pe
def arr3 (a b c : Val) : D := .agg (a.enc.cells ++ (b.enc.cells ++ (c.enc.cells ++ [])))

theorem lift_arr {H : Type} {P : Program} {t e : TypeId} {n : Nat} {d : DataW H} {xs : List D} (h : P.underlying t = some (.array n e)) (hl : Lift P t d xs) :
    ∃ ds : List (DataW H), Lifts P ((List.range n).map fun _ => e) ds xs := by
  cases hl with
  | arr n' e' ds cs h1 h2 =>
    rw [h] at h1
    simp only [Option.some.injEq, TypeDesc.array.injEq] at h1
    obtain ⟨rfl, rfl⟩ := h1
    exact ⟨ds, h2⟩
  | _ => simp_all

theorem lift_arr3 {H : Type} {P : Program} {t tV : TypeId} (hT : ValT P tV) (ht : P.underlying t = some (.array 3 tV)) {d : DataW H} {x : D} (h : Lift P t d x.cells) (ha : x.isAgg = aggT P t) : ∃ a b c : Val, (a.ok ∧ b.ok ∧ c.ok) ∧ x = arr3 a b c := by
  obtain ⟨ds, h1⟩ := lift_arr ht h
  have e : ((List.range 3).map fun _ => tV) = [tV, tV, tV] := rfl
  rw [e] at h1
  obtain ⟨_, _, a1, b1, q, m1, l1⟩ := lifts_cons h1
  obtain ⟨_, _, a2, b2, rfl, m2, l2⟩ := lifts_cons l1
  obtain ⟨_, _, a3, b3, rfl, m3, l3⟩ := lifts_cons l2
  obtain rfl := lifts_nil l3
  obtain ⟨a, oa, ea⟩ := lift_val hT _ _ a1 (Nat.le_refl _) m1
  obtain ⟨b, ob, eb⟩ := lift_val hT _ _ a2 (Nat.le_refl _) m2
  obtain ⟨c, oc, ec⟩ := lift_val hT _ _ a3 (Nat.le_refl _) m3
  have hagg : aggT P t = true := by simp [aggT, ht]
  refine ⟨a, b, c, ⟨oa, ob, oc⟩, ?_⟩
  rw [agg_cells (y := x) (by rw [ha, hagg]), q, arr3, ← ea, ← eb, ← ec]
  rfl
end Go.Pe

namespace Go.Pe
mutual
def D.smallR (N : Nat) : D → Prop
  | .str s => s.size ≤ N
  | .agg cs => D.smallRs N cs
  | .sl xs => xs.length ≤ N ∧ D.smallRs N xs
  | _ => True
def D.smallRs (N : Nat) : List D → Prop
  | [] => True
  | x :: r => D.smallR N x ∧ D.smallRs N r
end
theorem smallRs_iff {N : Nat} : ∀ {xs : List D}, D.smallRs N xs ↔ ∀ x ∈ xs, D.smallR N x
  | [] => by simp [D.smallRs]
  | x :: xs => by simp [D.smallRs, smallRs_iff (xs := xs)]
theorem smallR_cells {N : Nat} {x : D} (h : ∀ c ∈ x.cells, D.smallR N c) : D.smallR N x := by
  cases x with
  | agg cs => simp only [D.smallR]; exact smallRs_iff.2 h
  | _ => exact h _ (by simp [D.cells])
section
variable {H : Type} {P : Program} {b : DataW H → Nat} {ba : List (DataW H) → Nat}
theorem BulkFn.len (hb : BulkFn b ba) (hp : ∀ d, 1 ≤ b d) : ∀ (l : List (DataW H)), l.length ≤ ba l
  | [] => by simp
  | d :: r => by
    rw [hb.cons]
    have := hp d
    have := hb.len hp r
    simp only [List.length_cons]
    omega
theorem lift_smallR (hb : BulkFn b ba) (hp : ∀ d, 1 ≤ b d) {N : Nat} : ∀ (n : Nat) (d : DataW H), SizeOf.sizeOf d ≤ n → ∀ (t : TypeId) (xs : List D), Lift P t d xs → b d ≤ N → ∀ x ∈ xs, D.smallR N x
  | 0, d, hn, t, xs, h, hd => by cases d <;> simp at hn
  | n + 1, d, hn, t, xs, h, hd => by
    have parts : ∀ (ts : List TypeId) (ds : List (DataW H)) (cs : List D), (∀ d ∈ ds, SizeOf.sizeOf d ≤ n) → ba ds ≤ N → Lifts P ts ds cs → ∀ x ∈ cs, D.smallR N x := by
      intro ts
      induction ts with
      | nil => intro ds cs _ _ hl x hx; cases hl; simp at hx
      | cons t ts iht =>
        intro ds cs hs hbd hl x hx
        cases hl with
        | cons h1 h2 =>
          rename_i d' ds' a b'
          rw [hb.cons] at hbd
          rcases List.mem_append.1 hx with hx | hx
          · exact lift_smallR hb hp n d' (hs d' (by simp)) t a h1 (by omega) x hx
          · exact iht ds' b' (fun d hd => hs d (by simp [hd])) (by omega) h2 x hx
    cases h with
    | bool b _ => intro x hx; simp at hx; subst hx; trivial
    | int k m _ _ => intro x hx; simp at hx; subst hx; trivial
    | str s _ _ =>
      intro x hx
      simp at hx
      subst hx
      rw [hb.str] at hd
      show s.size ≤ N
      have : s.data.toList.length = s.size := rfl
      omega
    | sl0 e _ => intro x hx; simp at hx; subst hx; exact ⟨by simp, trivial⟩
    | sl e ds spare ys h1 h2 h3 h4 h5 =>
      intro x hx
      simp at hx
      subst hx
      rw [hb.sl] at hd
      have hlen := hb.len hp ds
      refine ⟨by omega, ?_⟩
      rw [smallRs_iff]
      intro y hy
      obtain ⟨i, hi⟩ := List.getElem?_of_mem hy
      have hlt : i < ds.length := by
        have := (List.getElem?_eq_some_iff.1 hi).1
        omega
      have hm : ds[i] ∈ ds := List.getElem_mem hlt
      have hsz : SizeOf.sizeOf ds[i] ≤ n := by
        have s1 := List.sizeOf_lt_of_mem hm
        simp at hn
        omega
      have hle := hb.mem hm
      exact smallR_cells (lift_smallR hb hp n ds[i] hsz e y.cells (h5 i y _ hi (List.getElem?_eq_getElem hlt)) (by omega))
    | st fs ds _ h1 h2 =>
      rw [hb.agg] at hd
      exact parts _ ds _ (fun d hd => by have s1 := List.sizeOf_lt_of_mem hd; simp at hn; omega) (by omega) h2
    | arr m e ds _ h1 h2 =>
      rw [hb.agg] at hd
      exact parts _ ds _ (fun d hd => by have s1 := List.sizeOf_lt_of_mem hd; simp at hn; omega) (by omega) h2
theorem liftArgs_smallR (hb : BulkFn b ba) (hp : ∀ d, 1 ≤ b d) {N : Nat} : ∀ {ts : List TypeId} {ds : List (DataW H)} {xs : List D}, LiftArgs P ts ds xs → ba ds ≤ N → ∀ x ∈ xs, D.smallR N x
  | [], [], [], _, _ => by simp
  | t :: ts, d :: ds, x :: xs, h, hd => by
    rw [hb.cons] at hd
    intro y hy
    rcases List.mem_cons.1 hy with rfl | hy
    · exact smallR_cells (lift_smallR hb hp _ d (Nat.le_refl _) t _ h.1.1 (by omega))
    · exact liftArgs_smallR hb hp h.2 (by omega) y hy
  | [], _ :: _, _, h, _ => by simp [LiftArgs] at h
  | [], [], _ :: _, h, _ => by simp [LiftArgs] at h
  | _ :: _, [], _, h, _ => by simp [LiftArgs] at h
  | _ :: _, _ :: _, [], h, _ => by simp [LiftArgs] at h
end
mutual
def Val.lim (N : Nat) : Val → Prop
  | .mk k c s t xs ks => t.size ≤ N ∧ xs.length ≤ N ∧ ks.length ≤ N ∧ (∀ x ∈ ks, x.size ≤ N) ∧ Val.lims N xs
def Val.lims (N : Nat) : List Val → Prop
  | [] => True
  | x :: r => Val.lim N x ∧ Val.lims N r
end
mutual
theorem vlim_small {N : Nat} : ∀ (v : Val), D.smallR N v.enc → v.lim N
  | .mk k c s t xs ks, h => by
    simp only [Val.enc, D.smallR, D.smallRs, true_and, and_true, List.length_map] at h
    obtain ⟨h1, ⟨h2, h3⟩, h4, h5⟩ := h
    rw [encs_len] at h2
    refine ⟨h1, h2, h4, ?_, vlims_small xs h3⟩
    intro x hx
    exact smallRs_iff.1 h5 (.str x) (List.mem_map_of_mem hx)
theorem vlims_small {N : Nat} : ∀ (xs : List Val), D.smallRs N (Val.encs xs) → Val.lims N xs
  | [], _ => trivial
  | x :: xs, h => by
    simp only [Val.encs, D.smallRs] at h
    exact ⟨vlim_small x h.1, vlims_small xs h.2⟩
end
theorem vlims_mem {N : Nat} : ∀ {xs : List Val} {v : Val}, Val.lims N xs → v ∈ xs → v.lim N
  | x :: xs, v, h, hv => by
    rcases List.mem_cons.1 hv with rfl | hv
    · exact h.1
    · exact vlims_mem h.2 hv
end Go.Pe

namespace Go.Pe
section
variable {P : Program}
theorem Chg.below {g : G} {w w' : World} (h : Go.RowKit.Below w.heap.size w w') (M : Loc → Prop) : Chg M g w g w' where
  os := h.os
  tape := h.tape
  output := h.output
  size := h.size
  stab := fun b i u hc hs => by
    refine ⟨?_, hs⟩
    have hb : b < w.heap.size := by
      simp only [World.cell?] at hc
      split at hc
      · rename_i o ho
        exact lt_of_heap ho
      · simp at hc
    rw [h.cell (p := ⟨b, i, none⟩) hb]
    exact hc
  own := fun b l hb hk _ => ⟨hk, rfl, h.block b hb⟩
  free := fun b hb hk => ⟨hk, h.block b hb⟩
  nb := Nat.le_refl _
  bb := fun _ _ => rfl
def rptP : List PV → Option PV
  | [.d (.str s), .d (.int .i64 n)] => if 0 ≤ n ∧ n ≤ 9223372036854775807 ∧ s.size * n.toNat ≤ 140737488355328 then some (.d (.str ⟨(Lib.repeatL s.data.toList n.toNat).toArray⟩)) else none
  | _ => none
theorem rpt_prim {f : Nat} (hent : entered P f = true)
    (h : ∀ (s : ByteArray) (c : Nat) (w : World), c ≤ 9223372036854775807 → s.size * c ≤ 140737488355328 → Calls P f #[.string s, .int .i64 c] w fun e w' => e = .returned (.string ⟨(Lib.repeatL s.data.toList c).toArray⟩) ∧ Go.RowKit.Below w.heap.size w w') : PrimSound P f rptP where
  ent := hent
  calls := by
    intro args v hv hfl hpl g w vals l ha
    unfold rptP at hv
    split at hv
    · rename_i s n
      split at hv
      · rename_i hc
        simp only [Option.some.injEq] at hv
        subst hv
        match vals, ha with
        | [u1, u2], ha =>
          simp only [RepFs, RepF, and_true] at ha
          have e1 := ha.1.str_inv
          have e2 := ha.2.int_inv
          subst e1; subst e2
          have e3 : n = ((n.toNat : Nat) : Int) := by omega
          rw [e3]
          refine (h s n.toNat w (by omega) (by simpa using hc.2.2)).mono ?_
          rintro e w' ⟨rfl, hb⟩
          refine ⟨_, g, rfl, Chg.below hb _, rfl, ?_⟩
          simp only [RepR, RepF]
          have e4 : ((n.toNat : Nat) : Int).toNat = n.toNat := by omega
          rw [e4]
          exact .str _
      · simp at hv
    · simp at hv
end
end Go.Pe
