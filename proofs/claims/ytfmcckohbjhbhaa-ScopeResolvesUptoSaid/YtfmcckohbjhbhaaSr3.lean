/- A part of the proof of: Any program, resolved, or the first name in it that leads nowhere, is what the document says, where what comes in has at most 1048576 values and letters. -/
import Derived.Test.YtfmcckohbjhbhaaSr2
import Derived.Test.YtfmcckohbjhbhaaPe3
set_option linter.unusedSimpArgs false
set_option linter.unusedVariables false
set_option maxRecDepth 10000

namespace Go.Pe.T
def optZ : Option Int → Int
  | some i => i
  | none => -1
def leadV (fs : List Fn) (vs ls : List ByteArray) (o : Int) (t : ByteArray) (n : Nat) : Int :=
  if o = 2 then optI (lastV vs t) else
  if o = 19 then optI (lastV ls t) else
  if o = 18 then ls.length else
  if o = 16 then optZ (callV fs t n) else 0
def LdIs (fs : List Fn) (x2 : PV) (o : Int) (t : ByteArray) (p k c s nsD : D) (xs : List Xp) (i : Nat) : Prop :=
  V (F tab) r74_B0 (r74_S0 x2 (.ibox [.d (iv o), .d (.str t), .d p, .d k, .d c, .d s, .d nsD, .d (.sl (Xp.encs xs))]) (.d (iv (optI (lastF fs t xs.length i)))) (.d (iv i)) []) =
    some (.norm, r74_E0 (.ibox [.d (iv o), .d (.str t), .d p, .d k, .d c, .d s, .d nsD, .d (.sl (Xp.encs xs))]) (.d (iv (optI (lastF fs t xs.length fs.length)))) [])
set_option maxHeartbeats 1000000 in
theorem ld_loop (fs : List Fn) (vsD lsD : D) (o : Int) (t : ByteArray) (p k c s nsD : D) (xs : List Xp) (hl : fs.length ≤ maxLen) : ∀ (j i : Nat), i + j = fs.length → LdIs fs (.ibox [.d (.sl (fnDs fs)), .d vsD, .d lsD]) o t p k c s nsD xs i
  | 0, i, hi => by
    obtain rfl : i = fs.length := by omega
    have h1 : ((fs.length : Int) < (fs.length : Int)) = False := eq_false (by omega)
    have hfd : (fnDs fs).length = fs.length := by rw [fnDs, List.length_map]
    unfold LdIs
    rw [r74_B0_eq]
    simp (disch := omega) only [go_sem, and_self, and_true, true_and, false_and, and_false, Nat.reduceAdd, Nat.reduceMul, Nat.reduceSub, Nat.reduceLeDiff, Nat.reduceLT, Nat.reduceGT, Nat.reduceEqDiff, Nat.reduceBEq, Int.reduceNeg, Int.reduceEq, Int.reduceLT, Int.reduceLE, Int.reduceBEq, Int.reduceToNat, Int.toNat_natCast, Int.natCast_zero, r74_C0, h1, hfd]
  | j + 1, i, hi => by
    have hmx : maxLen = 9223372036854775807 := by decide
    have ih := ld_loop fs vsD lsD o t p k c s nsD xs hl j (i + 1) (by omega)
    have hi1 : i < fs.length := by omega
    have hfd : (fnDs fs).length = fs.length := by rw [fnDs, List.length_map]
    have h1 : ((i : Int) < (fs.length : Int)) = True := eq_true (by omega)
    have i0 : (0 ≤ (i : Int)) = True := eq_true (by omega)
    have hx : fs[i]? = some fs[i] := List.getElem?_eq_getElem hi1
    have va : (fnDs fs)[i]? = some fs[i].enc := by rw [fnDs, List.getElem?_map, hx]; rfl
    obtain ⟨c0, c1, c2, c3, c4, c5, c6, c7, ef⟩ := fn_as fs[i]
    rw [ef] at va
    unfold LdIs at ih ⊢
    rw [lastF, hx, Int.natCast_add, Int.natCast_one] at ih
    rw [r74_B0_eq]
    simp only at ih
    generalize fs[i] = f at *
    rcases Bool.eq_false_or_eq_true (f.name.toList == t.toList) with g | g
    · rcases Bool.eq_false_or_eq_true ((f.params.length : Int) == (xs.length : Int)) with g2 | g2
      · rw [g, g2, if_pos (by rfl)] at ih
        simp (disch := omega) only [go_sem, and_self, and_true, true_and, false_and, and_false, Nat.reduceAdd, Nat.reduceMul, Nat.reduceSub, Nat.reduceLeDiff, Nat.reduceLT, Nat.reduceGT, Nat.reduceEqDiff, Nat.reduceBEq, Int.reduceNeg, Int.reduceEq, Int.reduceLT, Int.reduceLE, Int.reduceBEq, Int.reduceToNat, Int.toNat_natCast, Int.natCast_zero, strD, r74_C0, h1, i0, va, g, g2, hfd, List.length_map, xencs_len, w64]
        exact ih
      · rw [g, g2, if_neg (by simp)] at ih
        simp (disch := omega) only [go_sem, and_self, and_true, true_and, false_and, and_false, Nat.reduceAdd, Nat.reduceMul, Nat.reduceSub, Nat.reduceLeDiff, Nat.reduceLT, Nat.reduceGT, Nat.reduceEqDiff, Nat.reduceBEq, Int.reduceNeg, Int.reduceEq, Int.reduceLT, Int.reduceLE, Int.reduceBEq, Int.reduceToNat, Int.toNat_natCast, Int.natCast_zero, strD, r74_C0, h1, i0, va, g, g2, hfd, List.length_map, xencs_len, w64]
        exact ih
    · rw [g, if_neg (by simp)] at ih
      simp (disch := omega) only [go_sem, and_self, and_true, true_and, false_and, and_false, Nat.reduceAdd, Nat.reduceMul, Nat.reduceSub, Nat.reduceLeDiff, Nat.reduceLT, Nat.reduceGT, Nat.reduceEqDiff, Nat.reduceBEq, Int.reduceNeg, Int.reduceEq, Int.reduceLT, Int.reduceLE, Int.reduceBEq, Int.reduceToNat, Int.toNat_natCast, Int.natCast_zero, strD, r74_C0, h1, i0, va, g, hfd, w64]
      exact ih
set_option maxHeartbeats 2000000 in
theorem lead_ok (fs : List Fn) (vs ls : List ByteArray) (o : Int) (t : ByteArray) (p k c s nsD : D) (xs : List Xp) (hfl : fs.length ≤ maxLen) (hv : vs.length ≤ maxLen) (hl : ls.length ≤ maxLen) (hp : List Ent)
    (hpa : p.isAgg = false) (hka : k.isAgg = false) (hca : c.isAgg = false) (hsa : s.isAgg = false) (hna : nsD.isAgg = false) :
    F tab 74 [.d (arD (fnDs fs) vs ls), .d (.agg [iv o, .str t, p, k, c, s, nsD, .sl (Xp.encs xs)])] hp = some (.ret (.d (iv (leadV fs vs ls o t xs.length))) hp) := by
  have hmx : maxLen = 9223372036854775807 := by decide
  have m1 := find_ok vs t hv
  have m2 := find_ok ls t hl
  have hfd : (fnDs fs).length = fs.length := by rw [fnDs, List.length_map]
  unfold arD leadV
  refine f74 rfl ?_
  by_cases o2 : o = 2
  · subst o2
    rw [if_pos rfl]
    simp (disch := omega) only [go_sem, and_self, and_true, true_and, false_and, and_false, Nat.reduceAdd, Nat.reduceMul, Nat.reduceSub, Nat.reduceLeDiff, Nat.reduceLT, Nat.reduceGT, Nat.reduceEqDiff, Nat.reduceBEq, Int.reduceNeg, Int.reduceEq, Int.reduceLT, Int.reduceLE, Int.reduceBEq, Int.reduceToNat, Int.toNat_natCast, Int.natCast_zero, r74_T, r74, m1]
  · have q2 : (o == 2) = false := by simpa using o2
    rw [if_neg o2]
    by_cases o19 : o = 19
    · subst o19
      rw [if_pos rfl]
      simp (disch := omega) only [go_sem, and_self, and_true, true_and, false_and, and_false, Nat.reduceAdd, Nat.reduceMul, Nat.reduceSub, Nat.reduceLeDiff, Nat.reduceLT, Nat.reduceGT, Nat.reduceEqDiff, Nat.reduceBEq, Int.reduceNeg, Int.reduceEq, Int.reduceLT, Int.reduceLE, Int.reduceBEq, Int.reduceToNat, Int.toNat_natCast, Int.natCast_zero, r74_T, r74, m2]
    · have q19 : (o == 19) = false := by simpa using o19
      rw [if_neg o19]
      by_cases o18 : o = 18
      · subst o18
        rw [if_pos rfl]
        simp (disch := omega) only [go_sem, and_self, and_true, true_and, false_and, and_false, Nat.reduceAdd, Nat.reduceMul, Nat.reduceSub, Nat.reduceLeDiff, Nat.reduceLT, Nat.reduceGT, Nat.reduceEqDiff, Nat.reduceBEq, Int.reduceNeg, Int.reduceEq, Int.reduceLT, Int.reduceLE, Int.reduceBEq, Int.reduceToNat, Int.toNat_natCast, Int.natCast_zero, r74_T, r74, List.length_map]
      · have q18 : (o == 18) = false := by simpa using o18
        rw [if_neg o18]
        by_cases o16 : o = 16
        · subst o16
          rw [if_pos rfl]
          have hL := ld_loop fs (.sl (vs.map .str)) (.sl (ls.map .str)) 16 t p k c s nsD xs hfl fs.length 0 (by omega)
          unfold LdIs at hL
          rw [show optI (lastF fs t xs.length 0) = -1 from rfl] at hL
          have hb := rbuiltin_ok t (xs.length : Int)
          simp (disch := omega) only [go_sem, and_self, and_true, true_and, false_and, and_false, Nat.reduceAdd, Nat.reduceMul, Nat.reduceSub, Nat.reduceLeDiff, Nat.reduceLT, Nat.reduceGT, Nat.reduceEqDiff, Nat.reduceBEq, Int.reduceNeg, Int.reduceEq, Int.reduceLT, Int.reduceLE, Int.reduceBEq, Int.reduceToNat, Int.toNat_natCast, Int.natCast_zero, r74_T]
          rw [r74_B0_n]
          erw [hL]
          unfold callV
          cases h : lastF fs t xs.length fs.length with
          | some i =>
            have n1 : (optI (some i) < 0) = False := eq_false (by simp [optI])
            simp (disch := omega) only [go_sem, and_self, and_true, true_and, false_and, and_false, Nat.reduceAdd, Nat.reduceMul, Nat.reduceSub, Nat.reduceLeDiff, Nat.reduceLT, Nat.reduceGT, Nat.reduceEqDiff, Nat.reduceBEq, Int.reduceNeg, Int.reduceEq, Int.reduceLT, Int.reduceLE, Int.reduceBEq, Int.reduceToNat, Int.toNat_natCast, Int.natCast_zero, xencs_len, hb, n1, r74]
            rfl
          | none =>
            have n1 : (optI none < 0) = True := eq_true (by simp [optI])
            cases h2 : bfind t (xs.length : Int) namesL 0 with
            | none =>
              rw [h2] at hb
              simp only at hb
              have n2 : ((-1 : Int) ≥ 0) = False := eq_false (by omega)
              simp (disch := omega) only [go_sem, and_self, and_true, true_and, false_and, and_false, Nat.reduceAdd, Nat.reduceMul, Nat.reduceSub, Nat.reduceLeDiff, Nat.reduceLT, Nat.reduceGT, Nat.reduceEqDiff, Nat.reduceBEq, Int.reduceNeg, Int.reduceEq, Int.reduceLT, Int.reduceLE, Int.reduceBEq, Int.reduceToNat, Int.toNat_natCast, Int.natCast_zero, xencs_len, hb, n1, n2, r74]
              rfl
            | some i =>
              rw [h2] at hb
              simp only at hb
              have hi : i < 31 := by
                have key : ∀ (xs : List ByteArray) (n : Int) (j i : Nat), bfind t n xs j = some i → i < j + xs.length := by
                  intro xs
                  induction xs with
                  | nil => intro n j i h; simp [bfind] at h
                  | cons x r ih =>
                    intro n j i h
                    rw [bfind] at h
                    split at h
                    · simp only [Option.some.injEq] at h; simp; omega
                    · have := ih n (j + 1) i h; simp; omega
                have := key namesL _ 0 i h2
                have e : namesL.length = 31 := by decide
                omega
              have n2 : ((i : Int) ≥ 0) = True := eq_true (by omega)
              simp (disch := omega) only [go_sem, and_self, and_true, true_and, false_and, and_false, Nat.reduceAdd, Nat.reduceMul, Nat.reduceSub, Nat.reduceLeDiff, Nat.reduceLT, Nat.reduceGT, Nat.reduceEqDiff, Nat.reduceBEq, Int.reduceNeg, Int.reduceEq, Int.reduceLT, Int.reduceLE, Int.reduceBEq, Int.reduceToNat, Int.toNat_natCast, Int.natCast_zero, xencs_len, hb, n1, n2, w64, r74]
              rfl
        · have q16 : (o == 16) = false := by simpa using o16
          rw [if_neg o16]
          simp (disch := omega) only [go_sem, and_self, and_true, true_and, false_and, and_false, Nat.reduceAdd, Nat.reduceMul, Nat.reduceSub, Nat.reduceLeDiff, Nat.reduceLT, Nat.reduceGT, Nat.reduceEqDiff, Nat.reduceBEq, Int.reduceNeg, Int.reduceEq, Int.reduceLT, Int.reduceLE, Int.reduceBEq, Int.reduceToNat, Int.toNat_natCast, Int.natCast_zero, r74_T, r74, q2, q19, q18, q16]
end Go.Pe.T

namespace Go.Pe.T
def atV (fs : List Fn) (vs ls : List ByteArray) (o : Int) (t : ByteArray) (p : Int) (n : Nat) : Option Int :=
  if o = 2 then (lastV vs t).map fun i => (i : Int) else
  if o = 16 then callV fs t n else
  if o = 19 then (lastV ls t).map fun i => (i : Int) else
  if o = 18 then some ls.length else some p
inductive Res (α : Type) where
  | ok (a : α)
  | lost (t : ByteArray)
mutual
def resX (fs : List Fn) (vs ls : List ByteArray) : Xp → Res Xp
  | .mk o t p k c s ns xs => match atV fs vs ls o t p xs.length with
    | none => .lost t
    | some p' => match resL fs vs ls o t 0 xs with
      | .lost e => .lost e
      | .ok ys => .ok (.mk o t p' k c s ns ys)
def resL (fs : List Fn) (vs ls : List ByteArray) (o : Int) (t : ByteArray) : Nat → List Xp → Res (List Xp)
  | _, [] => .ok []
  | i, x :: r => match resX fs (inVars o t i vs) (inLabs o t ls) x with
    | .lost e => .lost e
    | .ok y => match resL fs vs ls o t (i + 1) r with
      | .lost e => .lost e
      | .ok ys => .ok (y :: ys)
end
def zx : D := .agg [.int .i64 0, .str ⟨#[]⟩, .int .i64 0, .int .i64 0, .int .i64 0, .int .i64 0, .sl [], .sl []]
theorem flat_zero : ∀ (n : Nat), (zeroDs [.int .i64 0, .str ⟨#[]⟩, .int .i64 0, .int .i64 0, .int .i64 0, .int .i64 0, .sl [], .sl []] n).map PV.d = flatD (List.replicate n zx) := by
  intro n
  unfold flatD
  congr 1
  unfold zeroDs
  induction n with
  | zero => rfl
  | succ n ih =>
    rw [List.replicate_succ', List.flatMap_append, ← ih]
    have e : (n + 1) * 8 = n * 8 + 8 := by omega
    simp only [List.length_cons, List.length_nil, Nat.zero_add, Nat.reduceAdd, e, List.range_add, List.map_append, List.map_map]
    congr 1
    have hr : List.range 8 = [0, 1, 2, 3, 4, 5, 6, 7] := by decide
    simp [hr, zx, D.cells, Nat.add_mod]
def ExOut (hp : List Ent) : Res Xp → Option Out
  | .ok y => some (.ret (.d y.enc) hp)
  | .lost t => some (.pan (lostD t) hp)
def ExIs (fs : List Fn) (x : Xp) : Prop := ∀ (vs ls : List ByteArray), vs.length + x.pre.length ≤ 1000000 → ls.length + x.pre.length ≤ 1000000 → ∀ hp : List Ent,
  F tab 38 [.d (arD (fnDs fs) vs ls), .d x.enc] hp = ExOut hp (resX fs vs ls x)
abbrev x4D : PV := .ibox [.d (.int .i64 0), .d (.str ⟨#[]⟩), .d (.int .i64 0), .d (.int .i64 0), .d (.int .i64 0), .d (.int .i64 0), .nilsl, .nilsl]
abbrev x3D (o : Int) (t : ByteArray) (p k c s : Int) (ns : List ByteArray) (xs : List Xp) : PV := .ibox [.d (iv o), .d (.str t), .d (iv p), .d (iv k), .d (iv c), .d (iv s), .d (.sl (ns.map .str)), .d (.sl (Xp.encs xs))]
def IsPan (v : Option (Ex × St)) (d : D) : Prop := ∃ s, v = some (.pan d, s)
def ExAns (x3 : PV) (n : Nat) (done : List Xp) (r : Res (List Xp)) (v : Option (Ex × St)) : Prop := match r with
  | .ok ys => v = some (.norm, r38_E0 x3 x4D (.rowh 0 0 n) [.box (flatD (Xp.encs (done ++ ys)))])
  | .lost t => IsPan v (lostD t)
def ExLoop (fs : List Fn) (vs ls : List ByteArray) (o : Int) (t : ByteArray) (p k c s : Int) (ns : List ByteArray) (xs : List Xp) (done rest : List Xp) : Prop :=
  ExAns (x3D o t p k c s ns xs) xs.length done (resL fs vs ls o t done.length rest)
    (V (F tab) r38_B0 (r38_S0 (.eptr (arD (fnDs fs) vs ls) 0) (x3D o t p k c s ns xs) x4D (.rowh 0 0 xs.length) (.d (.sl (Xp.encs xs))) (.d (iv xs.length)) (.d (iv done.length)) [.box (flatD (Xp.encs done ++ List.replicate rest.length zx))]))
theorem ex_nil (fs : List Fn) (vs ls : List ByteArray) (o : Int) (t : ByteArray) (p k c s : Int) (ns : List ByteArray) (xs : List Xp) (done : List Xp) (hn : done.length = xs.length) : ExLoop fs vs ls o t p k c s ns xs done [] := by
  have h1 : ((done.length : Int) < (xs.length : Int)) = False := eq_false (by omega)
  unfold ExLoop
  rw [resL, r38_B0_eq]
  simp (disch := omega) only [go_sem, and_self, and_true, true_and, false_and, and_false, Nat.reduceAdd, Nat.reduceMul, Nat.reduceSub, Nat.reduceLeDiff, Nat.reduceLT, Nat.reduceGT, Nat.reduceEqDiff, Nat.reduceBEq, Int.reduceNeg, Int.reduceEq, Int.reduceLT, Int.reduceLE, Int.reduceBEq, Int.reduceToNat, Int.toNat_natCast, Int.natCast_zero, r38_C0, h1, ExAns, List.append_nil, List.length_nil, List.replicate_zero]
theorem row_agg (done : List Xp) (m : Nat) : AggRow 8 (Xp.encs done ++ List.replicate m zx) := by
  have key : ∀ y ∈ Xp.encs done ++ List.replicate m zx, (∃ v : Xp, y = v.enc) ∨ y = zx := by
    intro y hy
    rcases List.mem_append.1 hy with h | h
    · rw [xencs_eq, List.mem_map] at h
      obtain ⟨v, _, rfl⟩ := h
      exact .inl ⟨v, rfl⟩
    · exact .inr (List.eq_of_mem_replicate h)
  refine ⟨fun y hy => ?_, fun y hy => ?_, fun y hy c hc => ?_⟩
  · rcases key y hy with ⟨v, rfl⟩ | rfl
    · exact xenc_a v
    · rfl
  · rcases key y hy with ⟨v, rfl⟩ | rfl
    · exact xenc_w v
    · rfl
  · rcases key y hy with ⟨v, rfl⟩ | rfl
    · obtain ⟨o, t, p, k, c', s, ns, xs, ex⟩ := xenc_as v
      rw [ex] at hc
      simp [D.cells] at hc
      rcases hc with rfl | rfl | rfl | rfl | rfl | rfl | rfl | rfl <;> rfl
    · simp [zx, D.cells] at hc
      rcases hc with rfl | rfl | rfl | rfl <;> rfl
theorem row_set (done : List Xp) (m : Nat) (y : Xp) : storeIn (some 8) (flatD (Xp.encs done ++ List.replicate (m + 1) zx)) (done.length * 8) (.d y.enc) = some (flatD (Xp.encs (done ++ [y]) ++ List.replicate m zx)) := by
  have hl : (Xp.encs done).length = done.length := xencs_len done
  rw [storeIn_row (row_agg done (m + 1)) (i := done.length) (by simp [hl]) (xenc_a y) (xenc_w y)]
  congr 2
  rw [List.set_append, if_neg (by omega), hl, Nat.sub_self, List.replicate_succ, List.set_cons_zero, xencs_app]
  simp [Xp.encs]
theorem xenc_cl (y : Xp) : y.enc = .agg y.enc.cells ∧ y.enc.cells.length = 8 := by cases y; exact ⟨rfl, rfl⟩
theorem row_sc (done : List Xp) (m : Nat) (y : Xp) : setCells (flatD (Xp.encs done ++ List.replicate (m + 1) zx)) (0 + done.length * 8) y.enc.cells = flatD (Xp.encs (done ++ [y]) ++ List.replicate m zx) ∧ 0 + done.length * 8 + 8 ≤ (flatD (Xp.encs done ++ List.replicate (m + 1) zx)).length := by
  have h := row_set done m y
  rw [(xenc_cl y).1] at h
  simp only [storeIn] at h
  split at h
  · rename_i hc
    simp only [Bool.and_eq_true, decide_eq_true_eq] at hc
    rw [Nat.zero_add]
    exact ⟨by simpa using h, hc.2⟩
  · simp at h
set_option maxHeartbeats 2000000 in
theorem ex_step (fs : List Fn) (vs ls : List ByteArray) (o : Int) (t : ByteArray) (p k c s : Int) (ns : List ByteArray) (xs : List Xp) (done : List Xp) (x : Xp) (rest : List Xp)
    (hx : xs[done.length]? = some x) (hn : done.length + (rest.length + 1) = xs.length) (hxl : xs.length ≤ 1000000) (hv : vs.length ≤ 1000000) (hl : ls.length ≤ 1000000)
    (IH : ∀ hp, F tab 38 [.d (arD (fnDs fs) (inVars o t done.length vs) (inLabs o t ls)), .d x.enc] hp = ExOut hp (resX fs (inVars o t done.length vs) (inLabs o t ls) x))
    (ih : ∀ y, ExLoop fs vs ls o t p k c s ns xs (done ++ [y]) rest) : ExLoop fs vs ls o t p k c s ns xs done (x :: rest) := by
  have h1 : ((done.length : Int) < (xs.length : Int)) = True := eq_true (by omega)
  have i0 : (0 ≤ (done.length : Int)) = True := eq_true (by omega)
  have va : (Xp.encs xs)[done.length]? = some x.enc := by rw [xencs_get, hx]; rfl
  have hin := in_ok (fnDs fs) vs ls o t (iv p) (iv k) (iv c) (iv s) (.sl (ns.map .str)) (.sl (Xp.encs xs)) rfl done.length hv hl
  have hin := fun hp => hin hp rfl rfl rfl rfl rfl
  obtain ⟨o', t', p', k', c', s', ns', xs', ex⟩ := xenc_as x
  rw [ex] at va IH
  unfold ExLoop
  rw [resL, r38_B0_eq]
  cases hr : resX fs (inVars o t done.length vs) (inLabs o t ls) x with
  | lost e =>
    rw [hr] at IH
    simp only [ExOut] at IH
    simp only [ExAns]
    unfold arD at hin IH ⊢
    simp (disch := omega) only [go_sem, and_self, and_true, true_and, false_and, and_false, Nat.reduceAdd, Nat.reduceMul, Nat.reduceSub, Nat.reduceLeDiff, Nat.reduceLT, Nat.reduceGT, Nat.reduceEqDiff, Nat.reduceBEq, Int.reduceNeg, Int.reduceEq, Int.reduceLT, Int.reduceLE, Int.reduceBEq, Int.reduceToNat, Int.toNat_natCast, Int.natCast_zero, r38_C0, r38_K2, h1, i0, va, hin, IH, w64]
    exact ⟨_, rfl⟩
  | ok y =>
    rw [hr] at IH
    simp only [ExOut] at IH
    have ih := ih y
    unfold ExLoop at ih
    have hdl : (done ++ [y]).length = done.length + 1 := by simp
    rw [hdl, Int.natCast_add, Int.natCast_one] at ih
    obtain ⟨s1, s2⟩ := row_sc done rest.length y
    obtain ⟨q1, q2⟩ := xenc_cl y
    rw [q1] at IH
    have h2 : ((done.length : Int) < (xs.length : Int)) = True := h1
    unfold arD at hin IH ih ⊢
    simp only [List.length_cons]
    cases hq : resL fs vs ls o t (done.length + 1) rest with
    | lost e =>
      rw [hq] at ih
      simp only [ExAns] at ih ⊢
      simp (disch := omega) only [go_sem, and_self, and_true, true_and, false_and, and_false, Nat.reduceAdd, Nat.reduceMul, Nat.reduceSub, Nat.reduceLeDiff, Nat.reduceLT, Nat.reduceGT, Nat.reduceEqDiff, Nat.reduceBEq, Int.reduceNeg, Int.reduceEq, Int.reduceLT, Int.reduceLE, Int.reduceBEq, Int.reduceToNat, Int.toNat_natCast, Int.natCast_zero, r38_C0, r38_K2, h1, i0, va, hin, IH, w64, q2, s1, s2, decide_true, Bool.and_true]
      exact ih
    | ok ys =>
      rw [hq] at ih
      simp only [ExAns, List.append_assoc, List.cons_append, List.nil_append] at ih ⊢
      simp (disch := omega) only [go_sem, and_self, and_true, true_and, false_and, and_false, Nat.reduceAdd, Nat.reduceMul, Nat.reduceSub, Nat.reduceLeDiff, Nat.reduceLT, Nat.reduceGT, Nat.reduceEqDiff, Nat.reduceBEq, Int.reduceNeg, Int.reduceEq, Int.reduceLT, Int.reduceLE, Int.reduceBEq, Int.reduceToNat, Int.toNat_natCast, Int.natCast_zero, r38_C0, r38_K2, h1, i0, va, hin, IH, w64, q2, s1, s2, decide_true, Bool.and_true]
      exact ih
end Go.Pe.T

namespace Go.Pe.T
theorem ex_loop (fs : List Fn) (vs ls : List ByteArray) (o : Int) (t : ByteArray) (p k c s : Int) (ns : List ByteArray) (xs : List Xp) (hxl : xs.length ≤ 1000000) (hv : vs.length ≤ 1000000) (hl : ls.length ≤ 1000000)
    (hall : ∀ x ∈ xs, ∀ vs' ls' : List ByteArray, vs'.length ≤ vs.length + 1 → ls'.length ≤ ls.length + 1 → ∀ hp, F tab 38 [.d (arD (fnDs fs) vs' ls'), .d x.enc] hp = ExOut hp (resX fs vs' ls' x)) :
    ∀ (rest done pre : List Xp), xs = pre ++ rest → pre.length = done.length → ExLoop fs vs ls o t p k c s ns xs done rest
  | [], done, pre, h, hd => ex_nil fs vs ls o t p k c s ns xs done (by rw [h, ← hd]; simp)
  | x :: rest, done, pre, h, hd => by
    refine ex_step fs vs ls o t p k c s ns xs done x rest (by rw [h, ← hd]; simp) (by rw [h, ← hd]; simp) hxl hv hl (hall x (by rw [h]; simp) _ _ ?_ ?_) fun y => ?_
    · unfold inVars; split <;> simp
    · unfold inLabs; split <;> simp
    · exact ex_loop fs vs ls o t p k c s ns xs hxl hv hl hall rest (done ++ [y]) (pre ++ [x]) (by rw [h]; simp) (by simp [hd])
def exHp (ys : List Xp) : List Ent := if ys.length = 0 then [.box []] else [.gone]
theorem frz_x (ys : List Xp) (n : Nat) (hn : n = ys.length) (tm : List PV) (m : Nat) (h : tm.getD m .dead = .rowh 0 0 n) : frzOp ⟨tm, [.box (flatD (Xp.encs ys))]⟩ 8 true (.t m) = some (.d (.sl (Xp.encs ys)), ⟨tm, exHp ys⟩) := by
  subst hn
  by_cases h0 : ys.length = 0
  · obtain rfl := List.eq_nil_of_length_eq_zero h0
    unfold frzOp exHp
    simp only [St.x]
    rw [h]
    simp [Xp.encs, flatD]
  · have hr : rowEnt (Xp.encs ys) = .box (flatD (Xp.encs ys)) := by
      unfold rowEnt
      cases ys with
      | nil => simp at h0
      | cons y r => rfl
    have hag : AggRow 8 (Xp.encs ys) := by
      have := row_agg ys 0
      simpa using this
    have := frz_row (s := ⟨tm, [.box (flatD (Xp.encs ys))]⟩) (x := .t m) (id := 0) hag (by rw [xencs_len]; exact h) (by rw [hr]; rfl)
    rw [this]
    simp [exHp, h0]
theorem resL_len (fs : List Fn) (vs ls : List ByteArray) (o : Int) (t : ByteArray) : ∀ (xs : List Xp) (i : Nat) (ys : List Xp), resL fs vs ls o t i xs = .ok ys → xs.length = ys.length
  | [], i, ys, h => by
    rw [resL] at h
    cases h
    rfl
  | x :: r, i, ys, h => by
    rw [resL] at h
    split at h
    · simp at h
    · split at h
      · simp at h
      · rename_i zs hz
        cases h
        simp [resL_len fs vs ls o t r (i + 1) zs hz]
def ExK (o : Int) (t : ByteArray) (p k c s : Int) (ns : List ByteArray) (r : Res (List Xp)) (v : Option (Ex × St)) : Prop := match r with
  | .ok ys => ∃ hp, v = some (.ret, r38_R (x3D o t p k c s ns ys) hp)
  | .lost e => IsPan v (lostD e)
set_option maxHeartbeats 2000000 in
theorem ex_k4 (fs : List Fn) (vs ls : List ByteArray) (o : Int) (t : ByteArray) (p k c s : Int) (ns : List ByteArray) (xs : List Xp) (hxl : xs.length ≤ 1000000) (hnl : ns.length ≤ 1000000)
    (hL : ExLoop fs vs ls o t p k c s ns xs [] xs) :
    ExK o t p k c s ns (resL fs vs ls o t 0 xs) (V (F tab) (r38_K4 ()) (r38_J4 (.eptr (arD (fnDs fs) vs ls) 0) (x3D o t p k c s ns xs) x4D [])) := by
  have k1 : (0 ≤ (xs.length : Int)) = True := eq_true (by omega)
  have k2 : ((xs.length : Int) * ((104 : Nat) : Int) ≤ 140737488355328) = True := eq_true (by omega)
  have hmr : maxRow = 140737488355328 := by decide
  have k3 : (ns.length * 16 ≤ maxRow) = True := eq_true (by omega)
  have k4 : (0 + ns.length) = ns.length := by omega
  have hz := flat_zero xs.length
  unfold ExLoop at hL
  rw [List.length_nil] at hL
  simp only [Xp.encs, List.nil_append, Int.natCast_zero] at hL
  cases hq : resL fs vs ls o t 0 xs with
  | lost e =>
    rw [hq] at hL
    simp only [ExAns] at hL
    obtain ⟨s1, hL⟩ := hL
    unfold ExK
    simp only
    simp (disch := omega) only [go_sem, and_self, and_true, true_and, false_and, and_false, Nat.reduceAdd, Nat.reduceMul, Nat.reduceSub, Nat.reduceLeDiff, Nat.reduceLT, Nat.reduceGT, Nat.reduceEqDiff, Nat.reduceBEq, Int.reduceNeg, Int.reduceEq, Int.reduceLT, Int.reduceLE, Int.reduceBEq, Int.reduceToNat, Int.toNat_natCast, Int.natCast_zero, r38_K4, mksOp, k1, k2, xencs_len, hz]
    rw [r38_B0_n]
    erw [hL]
    simp (disch := omega) only [go_sem, and_self, and_true, true_and, false_and, and_false, Nat.reduceAdd, Nat.reduceMul, Nat.reduceSub, Nat.reduceLeDiff, Nat.reduceLT, Nat.reduceGT, Nat.reduceEqDiff, Nat.reduceBEq, Int.reduceNeg, Int.reduceEq, Int.reduceLT, Int.reduceLE, Int.reduceBEq, Int.reduceToNat, Int.toNat_natCast, Int.natCast_zero]
    exact ⟨_, rfl⟩
  | ok ys =>
    rw [hq] at hL
    simp only [ExAns, List.nil_append] at hL
    have hyl : xs.length = ys.length := resL_len fs vs ls o t xs 0 ys hq
    have hfz := fun tm m h => frz_x ys xs.length hyl tm m h
    unfold ExK
    simp only
    refine ⟨exHp ys, ?_⟩
    simp (disch := omega) only [go_sem, and_self, and_true, true_and, false_and, and_false, Nat.reduceAdd, Nat.reduceMul, Nat.reduceSub, Nat.reduceLeDiff, Nat.reduceLT, Nat.reduceGT, Nat.reduceEqDiff, Nat.reduceBEq, Int.reduceNeg, Int.reduceEq, Int.reduceLT, Int.reduceLE, Int.reduceBEq, Int.reduceToNat, Int.toNat_natCast, Int.natCast_zero, r38_K4, mksOp, k1, k2, xencs_len, hz]
    rw [r38_B0_n]
    erw [hL]
    simp (disch := omega) only [go_sem, and_self, and_true, true_and, false_and, and_false, Nat.reduceAdd, Nat.reduceMul, Nat.reduceSub, Nat.reduceLeDiff, Nat.reduceLT, Nat.reduceGT, Nat.reduceEqDiff, Nat.reduceBEq, Int.reduceNeg, Int.reduceEq, Int.reduceLT, Int.reduceLE, Int.reduceBEq, Int.reduceToNat, Int.toNat_natCast, Int.natCast_zero, r38_K3]
    rw [hfz _ _ rfl]
    simp (disch := omega) only [go_sem, and_self, and_true, true_and, false_and, and_false, Nat.reduceAdd, Nat.reduceMul, Nat.reduceSub, Nat.reduceLeDiff, Nat.reduceLT, Nat.reduceGT, Nat.reduceEqDiff, Nat.reduceBEq, Int.reduceNeg, Int.reduceEq, Int.reduceLT, Int.reduceLE, Int.reduceBEq, Int.reduceToNat, Int.toNat_natCast, Int.natCast_zero, k3, k4, strs_one, List.length_map]
end Go.Pe.T

namespace Go.Pe.T
def HeadOk (fs : List Fn) (vs ls : List ByteArray) (o : Int) (t : ByteArray) (k c s : Int) (ns : List ByteArray) (xs : List Xp) (hp : List Ent) (out : Out) : Option Int → Prop
  | some p => fnEnd r38 hp (V (F tab) (r38_K4 ()) (r38_J4 (.eptr (arD (fnDs fs) vs ls) 0) (x3D o t p k c s ns xs) x4D [])) = some out
  | none => out = .pan (lostD t) hp
set_option maxHeartbeats 4000000 in
theorem ex_head (fs : List Fn) (vs ls : List ByteArray) (o : Int) (t : ByteArray) (p k c s : Int) (ns : List ByteArray) (xs : List Xp) (hp : List Ent) (out : Out)
    (hfl : fs.length ≤ maxLen) (hv : vs.length ≤ 1000000) (hl : ls.length ≤ 1000000)
    (h : HeadOk fs vs ls o t k c s ns xs hp out (atV fs vs ls o t p xs.length)) : F tab 38 [.d (arD (fnDs fs) vs ls), .d (.agg [iv o, .str t, iv p, iv k, iv c, iv s, .sl (ns.map .str), .sl (Xp.encs xs)])] hp = some out := by
  have hmx : maxLen = 9223372036854775807 := by decide
  have m1 := last_ok vs t (by omega)
  have m2 := last_ok ls t (by omega)
  have m3 := call_ok fs vs ls o t (iv p) (iv k) (iv c) (iv s) (.sl (ns.map .str)) xs hfl
  have m3 := fun hp => m3 hp rfl rfl rfl rfl rfl
  unfold arD at m3 ⊢
  unfold atV at h
  refine f38 rfl ?_
  by_cases o2 : o = 2
  · subst o2
    rw [if_pos rfl] at h
    cases hq : (lastV vs t).map (fun i => (i : Int)) with
    | none =>
      rw [hq] at h m1
      obtain rfl : out = .pan (lostD t) hp := h
      simp only [atOut] at m1
      simp (disch := omega) only [go_sem, and_self, and_true, true_and, false_and, and_false, Nat.reduceAdd, Nat.reduceMul, Nat.reduceSub, Nat.reduceLeDiff, Nat.reduceLT, Nat.reduceGT, Nat.reduceEqDiff, Nat.reduceBEq, Int.reduceNeg, Int.reduceEq, Int.reduceLT, Int.reduceLE, Int.reduceBEq, Int.reduceToNat, Int.toNat_natCast, Int.natCast_zero, r38_T, m1]
      rfl
    | some i =>
      rw [hq] at h m1
      simp only [atOut] at m1
      simp (disch := omega) only [go_sem, and_self, and_true, true_and, false_and, and_false, Nat.reduceAdd, Nat.reduceMul, Nat.reduceSub, Nat.reduceLeDiff, Nat.reduceLT, Nat.reduceGT, Nat.reduceEqDiff, Nat.reduceBEq, Int.reduceNeg, Int.reduceEq, Int.reduceLT, Int.reduceLE, Int.reduceBEq, Int.reduceToNat, Int.toNat_natCast, Int.natCast_zero, r38_T, m1]
      exact h
  · have q2 : (o == 2) = false := by simpa using o2
    rw [if_neg o2] at h
    by_cases o16 : o = 16
    · subst o16
      rw [if_pos rfl] at h
      cases hq : callV fs t xs.length with
      | none =>
        rw [hq] at h m3
        obtain rfl : out = .pan (lostD t) hp := h
        simp only [atOut] at m3
        simp (disch := omega) only [go_sem, and_self, and_true, true_and, false_and, and_false, Nat.reduceAdd, Nat.reduceMul, Nat.reduceSub, Nat.reduceLeDiff, Nat.reduceLT, Nat.reduceGT, Nat.reduceEqDiff, Nat.reduceBEq, Int.reduceNeg, Int.reduceEq, Int.reduceLT, Int.reduceLE, Int.reduceBEq, Int.reduceToNat, Int.toNat_natCast, Int.natCast_zero, r38_T, m3]
        rfl
      | some i =>
        rw [hq] at h m3
        simp only [atOut] at m3
        simp (disch := omega) only [go_sem, and_self, and_true, true_and, false_and, and_false, Nat.reduceAdd, Nat.reduceMul, Nat.reduceSub, Nat.reduceLeDiff, Nat.reduceLT, Nat.reduceGT, Nat.reduceEqDiff, Nat.reduceBEq, Int.reduceNeg, Int.reduceEq, Int.reduceLT, Int.reduceLE, Int.reduceBEq, Int.reduceToNat, Int.toNat_natCast, Int.natCast_zero, r38_T, m3]
        exact h
    · have q16 : (o == 16) = false := by simpa using o16
      rw [if_neg o16] at h
      by_cases o19 : o = 19
      · subst o19
        rw [if_pos rfl] at h
        cases hq : (lastV ls t).map (fun i => (i : Int)) with
        | none =>
          rw [hq] at h m2
          obtain rfl : out = .pan (lostD t) hp := h
          simp only [atOut] at m2
          simp (disch := omega) only [go_sem, and_self, and_true, true_and, false_and, and_false, Nat.reduceAdd, Nat.reduceMul, Nat.reduceSub, Nat.reduceLeDiff, Nat.reduceLT, Nat.reduceGT, Nat.reduceEqDiff, Nat.reduceBEq, Int.reduceNeg, Int.reduceEq, Int.reduceLT, Int.reduceLE, Int.reduceBEq, Int.reduceToNat, Int.toNat_natCast, Int.natCast_zero, r38_T, m2]
          rfl
        | some i =>
          rw [hq] at h m2
          simp only [atOut] at m2
          simp (disch := omega) only [go_sem, and_self, and_true, true_and, false_and, and_false, Nat.reduceAdd, Nat.reduceMul, Nat.reduceSub, Nat.reduceLeDiff, Nat.reduceLT, Nat.reduceGT, Nat.reduceEqDiff, Nat.reduceBEq, Int.reduceNeg, Int.reduceEq, Int.reduceLT, Int.reduceLE, Int.reduceBEq, Int.reduceToNat, Int.toNat_natCast, Int.natCast_zero, r38_T, m2]
          exact h
      · have q19 : (o == 19) = false := by simpa using o19
        rw [if_neg o19] at h
        by_cases o18 : o = 18
        · subst o18
          rw [if_pos rfl] at h
          simp (disch := omega) only [go_sem, and_self, and_true, true_and, false_and, and_false, Nat.reduceAdd, Nat.reduceMul, Nat.reduceSub, Nat.reduceLeDiff, Nat.reduceLT, Nat.reduceGT, Nat.reduceEqDiff, Nat.reduceBEq, Int.reduceNeg, Int.reduceEq, Int.reduceLT, Int.reduceLE, Int.reduceBEq, Int.reduceToNat, Int.toNat_natCast, Int.natCast_zero, r38_T, List.length_map]
          exact h
        · have q18 : (o == 18) = false := by simpa using o18
          rw [if_neg o18] at h
          simp (disch := omega) only [go_sem, and_self, and_true, true_and, false_and, and_false, Nat.reduceAdd, Nat.reduceMul, Nat.reduceSub, Nat.reduceLeDiff, Nat.reduceLT, Nat.reduceGT, Nat.reduceEqDiff, Nat.reduceBEq, Int.reduceNeg, Int.reduceEq, Int.reduceLT, Int.reduceLE, Int.reduceBEq, Int.reduceToNat, Int.toNat_natCast, Int.natCast_zero, r38_T, q2, q16, q19, q18]
          exact h

theorem pres_le (xs : List Xp) (x : Xp) (hx : x ∈ xs) : x.pre.length ≤ (Xp.pres xs).length := by
  induction xs with
  | nil => simp at hx
  | cons y r ih =>
    simp only [Xp.pres, List.length_append]
    rcases List.mem_cons.1 hx with rfl | hx
    · omega
    · have := ih hx; omega
theorem pres_len (xs : List Xp) : xs.length ≤ (Xp.pres xs).length := by
  induction xs with
  | nil => simp
  | cons y r ih =>
    simp only [Xp.pres, List.length_append, List.length_cons]
    have := pre_pos y
    omega
mutual
def xfew : Xp → Prop
  | .mk o t p k c s ns xs => ns.length ≤ 1000000 ∧ xfews xs
def xfews : List Xp → Prop
  | [] => True
  | x :: r => xfew x ∧ xfews r
end
theorem fews_mem {xs : List Xp} {x : Xp} (h : xfews xs) (hx : x ∈ xs) : xfew x := by
  induction xs with
  | nil => simp at hx
  | cons y r ih =>
    rcases List.mem_cons.1 hx with rfl | hx
    · exact h.1
    · exact ih h.2 hx
theorem ex_step1 (fs : List Fn) (hfl : fs.length ≤ maxLen) (o : Int) (t : ByteArray) (p k c s : Int) (ns : List ByteArray) (xs : List Xp) (hnl : ns.length ≤ 1000000) (hall : ∀ x ∈ xs, ExIs fs x) : ExIs fs (.mk o t p k c s ns xs) := by
  intro vs ls hv hl hp
  have hxl := pres_len xs
  simp only [Xp.pre, List.length_cons] at hv hl
  have hL := fun p => ex_loop fs vs ls o t p k c s ns xs (by omega) (by omega) (by omega) (fun x hx vs' ls' h1 h2 hp => by
    have := pres_le xs x hx
    exact hall x hx vs' ls' (by omega) (by omega) hp) xs [] [] rfl rfl
  have hK := fun p => ex_k4 fs vs ls o t p k c s ns xs (by omega) hnl (hL p)
  rw [resX]
  cases ha : atV fs vs ls o t p xs.length with
  | none =>
    refine ex_head fs vs ls o t p k c s ns xs hp _ hfl (by omega) (by omega) ?_
    rw [ha]
    rfl
  | some p' =>
    have hK := hK p'
    simp only
    cases hq : resL fs vs ls o t 0 xs with
    | lost e =>
      rw [hq] at hK
      obtain ⟨s1, hs⟩ := hK
      refine ex_head fs vs ls o t p k c s ns xs hp _ hfl (by omega) (by omega) ?_
      rw [ha]
      simp only [HeadOk]
      rw [hs]
      rfl
    | ok ys =>
      rw [hq] at hK
      obtain ⟨hp', hs⟩ := hK
      refine ex_head fs vs ls o t p k c s ns xs hp _ hfl (by omega) (by omega) ?_
      rw [ha]
      simp only [HeadOk]
      rw [hs]
      simp only [go_sem, and_self, and_true, true_and, false_and, and_false, Nat.reduceAdd, Nat.reduceMul, Nat.reduceSub, Nat.reduceLeDiff, Nat.reduceLT, Nat.reduceGT, Nat.reduceEqDiff, Nat.reduceBEq, Int.reduceNeg, Int.reduceEq, Int.reduceLT, Int.reduceLE, Int.reduceBEq, Int.reduceToNat, Int.toNat_natCast, Int.natCast_zero, r38]
      rfl
theorem expr_ok (fs : List Fn) (hfl : fs.length ≤ maxLen) : ∀ (n : Nat) (x : Xp), SizeOf.sizeOf x ≤ n → xfew x → ExIs fs x
  | 0, x, h, _ => by cases x; simp at h
  | n + 1, .mk o t p k c s ns xs, h, hf => by
    rw [xfew] at hf
    refine ex_step1 fs hfl o t p k c s ns xs hf.1 fun x hx => expr_ok fs hfl n x ?_ (fews_mem hf.2 hx)
    have := List.sizeOf_lt_of_mem hx
    simp at h
    omega
end Go.Pe.T

namespace Go.Pe.T
abbrev eA (fs : List Fn) (vs ls : List ByteArray) : PV := .eptr (.agg [.sl (fnDs fs), .sl (vs.map .str), .sl (ls.map .str)]) 0
abbrev eX (o : Int) (t : ByteArray) (p k c s : Int) (ns : List ByteArray) (xs : List Xp) : PV := .eptr (.agg [iv o, .str t, iv p, iv k, iv c, iv s, .sl (ns.map .str), .sl (Xp.encs xs)]) 0
def cellV (b : Bool) (l : List ByteArray) (t : ByteArray) : PV := if b then .own 9 ((l ++ [t]).map .str) else .d (.sl (l.map .str))
theorem cellV_yes (l : List ByteArray) (t : ByteArray) : cellV true l t = .own 9 (l.map .str ++ [.str t]) := by
  rw [cellV, if_pos rfl, List.map_append]
  rfl
theorem cellV_no (l : List ByteArray) (t : ByteArray) : cellV false l t = .d (.sl (l.map .str)) := by
  rw [cellV, if_neg (by simp)]
def bV (o : Int) (i : Nat) : Bool := decide ((o = 17 ∧ i = 1) ∨ ((o = 13 ∨ o = 14) ∧ i = 2))
set_option maxHeartbeats 2000000 in
theorem rx_k3 (fs : List Fn) (vs ls : List ByteArray) (hv : vs.length ≤ 1000000) (o : Int) (t : ByteArray) (p k c s : Int) (ns : List ByteArray) (xs : List Xp) (c4 c6 : List PV) (i : Nat) (q : D) :
    V (F tab) (r42_K3 ()) ⟨(r42_J2 (eA fs vs ls) (eX o t p k c s ns xs) (.ibox c4) (.ibox c6) (.d (iv i)) (.ibox [.d (.sl (fnDs fs)), .d (.sl (vs.map .str)), .d (.sl (ls.map .str))]) []).tm.set 31 (.d q), []⟩ =
      V (F tab) (r42_K2 ()) (r42_J2 (eA fs vs ls) (eX o t p k c s ns xs) (.ibox c4) (.ibox c6) (.d (iv i)) (.ibox [.d (.sl (fnDs fs)), cellV (bV o i) vs t, .d (.sl (ls.map .str))]) []) := by
  have hmr : maxRow = 140737488355328 := by decide
  have k3 : (vs.length * 16 ≤ maxRow) = True := eq_true (by omega)
  have k4 : ((vs.length + 1) * 16 ≤ maxRow) = True := eq_true (by omega)
  have k5 : (0 + vs.length) = vs.length := by omega
  have hw := strs_one vs
  have z1 : ((1 : Nat) : Int) = 1 := rfl
  have z2 : ((2 : Nat) : Int) = 2 := rfl
  by_cases o17 : o = 17
  · subst o17
    by_cases i1 : i = 1
    · have hb : bV 17 i = true := by simp [bV, i1]
      subst i1
      rw [hb, cellV_yes, z1]
      simp (disch := omega) only [go_sem, and_self, and_true, true_and, false_and, and_false, Nat.reduceAdd, Nat.reduceMul, Nat.reduceSub, Nat.reduceLeDiff, Nat.reduceLT, Nat.reduceGT, Nat.reduceEqDiff, Nat.reduceBEq, Int.reduceNeg, Int.reduceEq, Int.reduceLT, Int.reduceLE, Int.reduceBEq, Int.reduceToNat, Int.toNat_natCast, Int.natCast_zero, r42_K3, k3, k4, k5, hw, List.length_map]
    · have q1 : ((i : Int) == 1) = false := by rw [beq_eq_false_iff_ne]; omega
      have hb : bV 17 i = false := by simp [bV, i1]
      rw [hb, cellV_no]
      simp (disch := omega) only [go_sem, and_self, and_true, true_and, false_and, and_false, Nat.reduceAdd, Nat.reduceMul, Nat.reduceSub, Nat.reduceLeDiff, Nat.reduceLT, Nat.reduceGT, Nat.reduceEqDiff, Nat.reduceBEq, Int.reduceNeg, Int.reduceEq, Int.reduceLT, Int.reduceLE, Int.reduceBEq, Int.reduceToNat, Int.toNat_natCast, Int.natCast_zero, r42_K3, k3, k4, k5, hw, List.length_map, q1]
  · have q17 : (o == 17) = false := by simpa using o17
    by_cases o13 : o = 13
    · subst o13
      by_cases i2 : i = 2
      · have hb : bV 13 i = true := by simp [bV, i2]
        subst i2
        rw [hb, cellV_yes, z2]
        simp (disch := omega) only [go_sem, and_self, and_true, true_and, false_and, and_false, Nat.reduceAdd, Nat.reduceMul, Nat.reduceSub, Nat.reduceLeDiff, Nat.reduceLT, Nat.reduceGT, Nat.reduceEqDiff, Nat.reduceBEq, Int.reduceNeg, Int.reduceEq, Int.reduceLT, Int.reduceLE, Int.reduceBEq, Int.reduceToNat, Int.toNat_natCast, Int.natCast_zero, r42_K3, k3, k4, k5, hw, List.length_map]
      · have q2 : ((i : Int) == 2) = false := by rw [beq_eq_false_iff_ne]; omega
        have hb : bV 13 i = false := by simp [bV, i2]
        rw [hb, cellV_no]
        simp (disch := omega) only [go_sem, and_self, and_true, true_and, false_and, and_false, Nat.reduceAdd, Nat.reduceMul, Nat.reduceSub, Nat.reduceLeDiff, Nat.reduceLT, Nat.reduceGT, Nat.reduceEqDiff, Nat.reduceBEq, Int.reduceNeg, Int.reduceEq, Int.reduceLT, Int.reduceLE, Int.reduceBEq, Int.reduceToNat, Int.toNat_natCast, Int.natCast_zero, r42_K3, k3, k4, k5, hw, List.length_map, q2]
    · have q13 : (o == 13) = false := by simpa using o13
      by_cases o14 : o = 14
      · subst o14
        by_cases i2 : i = 2
        · have hb : bV 14 i = true := by simp [bV, i2]
          subst i2
          rw [hb, cellV_yes, z2]
          simp (disch := omega) only [go_sem, and_self, and_true, true_and, false_and, and_false, Nat.reduceAdd, Nat.reduceMul, Nat.reduceSub, Nat.reduceLeDiff, Nat.reduceLT, Nat.reduceGT, Nat.reduceEqDiff, Nat.reduceBEq, Int.reduceNeg, Int.reduceEq, Int.reduceLT, Int.reduceLE, Int.reduceBEq, Int.reduceToNat, Int.toNat_natCast, Int.natCast_zero, r42_K3, k3, k4, k5, hw, List.length_map]
        · have q2 : ((i : Int) == 2) = false := by rw [beq_eq_false_iff_ne]; omega
          have hb : bV 14 i = false := by simp [bV, i2]
          rw [hb, cellV_no]
          simp (disch := omega) only [go_sem, and_self, and_true, true_and, false_and, and_false, Nat.reduceAdd, Nat.reduceMul, Nat.reduceSub, Nat.reduceLeDiff, Nat.reduceLT, Nat.reduceGT, Nat.reduceEqDiff, Nat.reduceBEq, Int.reduceNeg, Int.reduceEq, Int.reduceLT, Int.reduceLE, Int.reduceBEq, Int.reduceToNat, Int.toNat_natCast, Int.natCast_zero, r42_K3, k3, k4, k5, hw, List.length_map, q2]
      · have q14 : (o == 14) = false := by simpa using o14
        have hb : bV o i = false := by simp [bV, o17, o13, o14]
        rw [hb, cellV_no]
        simp (disch := omega) only [go_sem, and_self, and_true, true_and, false_and, and_false, Nat.reduceAdd, Nat.reduceMul, Nat.reduceSub, Nat.reduceLeDiff, Nat.reduceLT, Nat.reduceGT, Nat.reduceEqDiff, Nat.reduceBEq, Int.reduceNeg, Int.reduceEq, Int.reduceLT, Int.reduceLE, Int.reduceBEq, Int.reduceToNat, Int.toNat_natCast, Int.natCast_zero, r42_K3, k3, k4, k5, hw, List.length_map, q17, q13, q14]
set_option maxHeartbeats 2000000 in
theorem rx_k2 (fs : List Fn) (vs ls : List ByteArray) (hv : ls.length ≤ 1000000) (o : Int) (t : ByteArray) (p k c s : Int) (ns : List ByteArray) (xs : List Xp) (c4 c6 : List PV) (i : Nat) (b : Bool) :
    V (F tab) (r42_K2 ()) (r42_J2 (eA fs vs ls) (eX o t p k c s ns xs) (.ibox c4) (.ibox c6) (.d (iv i)) (.ibox [.d (.sl (fnDs fs)), cellV b vs t, .d (.sl (ls.map .str))]) []) =
      V (F tab) (r42_K1 ()) (r42_J1 (eA fs vs ls) (eX o t p k c s ns xs) (.ibox c4) (.ibox c6) (.d (iv i)) (.ibox [.d (.sl (fnDs fs)), cellV b vs t, cellV (decide (o = 18)) ls t]) []) := by
  have hmr : maxRow = 140737488355328 := by decide
  have k3 : (ls.length * 16 ≤ maxRow) = True := eq_true (by omega)
  have k4 : ((ls.length + 1) * 16 ≤ maxRow) = True := eq_true (by omega)
  have k5 : (0 + ls.length) = ls.length := by omega
  have hw := strs_one ls
  by_cases o18 : o = 18
  · subst o18
    rw [show decide ((18 : Int) = 18) = true from rfl, cellV_yes]
    simp (disch := omega) only [go_sem, and_self, and_true, true_and, false_and, and_false, Nat.reduceAdd, Nat.reduceMul, Nat.reduceSub, Nat.reduceLeDiff, Nat.reduceLT, Nat.reduceGT, Nat.reduceEqDiff, Nat.reduceBEq, Int.reduceNeg, Int.reduceEq, Int.reduceLT, Int.reduceLE, Int.reduceBEq, Int.reduceToNat, Int.toNat_natCast, Int.natCast_zero, k3, k4, k5, hw, List.length_map, r42_K2]
  · have q18 : (o == 18) = false := by simpa using o18
    rw [show decide (o = 18) = false by simp [o18], cellV_no]
    simp (disch := omega) only [go_sem, and_self, and_true, true_and, false_and, and_false, Nat.reduceAdd, Nat.reduceMul, Nat.reduceSub, Nat.reduceLeDiff, Nat.reduceLT, Nat.reduceGT, Nat.reduceEqDiff, Nat.reduceBEq, Int.reduceNeg, Int.reduceEq, Int.reduceLT, Int.reduceLE, Int.reduceBEq, Int.reduceToNat, Int.toNat_natCast, Int.natCast_zero, k3, k4, k5, hw, List.length_map, r42_K2, q18]
end Go.Pe.T

namespace Go.Pe.T
def gotD : Res Xp → D
  | .ok y => .agg (y.enc.cells ++ [.bool false, .str ⟨#[]⟩])
  | .lost t => .agg [iv 0, .str ⟨#[]⟩, iv 0, iv 0, iv 0, iv 0, .sl [], .sl [], .bool true, .str t]
def z10 : List PV := [.d (iv 0), .d (.str ⟨#[]⟩), .d (iv 0), .d (iv 0), .d (iv 0), .d (iv 0), .nilsl, .nilsl, .d (.bool false), .d (.str ⟨#[]⟩)]
def lost10 (t : ByteArray) : List PV := [.d (iv 0), .d (.str ⟨#[]⟩), .d (iv 0), .d (iv 0), .d (iv 0), .d (iv 0), .d (.sl []), .d (.sl []), .d (.bool true), .d (.str t)]
def rowX (done : List Xp) : PV := if done.length = 0 then .nilsl else .own 34 (Xp.encs done)
def outB (o : Int) (t : ByteArray) (p k c s : Int) (ns : List ByteArray) (done : List Xp) : PV := .ibox [.d (iv o), .d (.str t), .d (iv p), .d (iv k), .d (iv c), .d (iv s), .d (.sl (ns.map .str)), rowX done]
def RxAns (o : Int) (t : ByteArray) (p k c s : Int) (ns : List ByteArray) (done : List Xp) : Res (List Xp) → Option (Ex × St)
  | .ok ys => some (.norm, r42_E0 (.ibox z10) (outB o t p k c s ns (done ++ ys)) [])
  | .lost e => some (.ret, r42_R (.ibox (lost10 e)) [])
def RxLoop (fs : List Fn) (vs ls : List ByteArray) (o : Int) (t : ByteArray) (p0 p k c s : Int) (ns : List ByteArray) (xs done rest : List Xp) : Prop :=
  V (F tab) r42_B0 (r42_S0 (eA fs vs ls) (eX o t p0 k c s ns xs) (.ibox z10) (outB o t p k c s ns done) (.d (iv done.length)) []) = RxAns o t p k c s ns done (resL fs vs ls o t done.length rest)
theorem rx_nil (fs : List Fn) (vs ls : List ByteArray) (o : Int) (t : ByteArray) (p0 p k c s : Int) (ns : List ByteArray) (xs done : List Xp) (hn : done.length = xs.length) : RxLoop fs vs ls o t p0 p k c s ns xs done [] := by
  have h1 : ((done.length : Int) < (xs.length : Int)) = False := eq_false (by omega)
  unfold RxLoop
  rw [resL, RxAns, List.append_nil, r42_B0_eq]
  unfold outB z10
  simp (disch := omega) only [go_sem, and_self, and_true, true_and, false_and, and_false, Nat.reduceAdd, Nat.reduceMul, Nat.reduceSub, Nat.reduceLeDiff, Nat.reduceLT, Nat.reduceGT, Nat.reduceEqDiff, Nat.reduceBEq, Int.reduceNeg, Int.reduceEq, Int.reduceLT, Int.reduceLE, Int.reduceBEq, Int.reduceToNat, Int.toNat_natCast, Int.natCast_zero, r42_C0, h1, xencs_len]
theorem cellV_d (b : Bool) (l : List ByteArray) (t : ByteArray) : cellV b l t = .d (.sl ((if b then l ++ [t] else l).map .str)) ∨ cellV b l t = .own 9 ((if b then l ++ [t] else l).map .str) := by
  unfold cellV
  split
  · exact .inr rfl
  · exact .inl rfl
theorem xs_w (done : List Xp) : ((Xp.encs done).all fun y => y.width == 8) = true := by
  rw [List.all_eq_true]
  intro y hy
  rw [xencs_eq, List.mem_map] at hy
  obtain ⟨v, _, rfl⟩ := hy
  rw [xenc_w]
  rfl
theorem inV_eq (o : Int) (t : ByteArray) (i : Nat) (vs : List ByteArray) : (if bV o i then vs ++ [t] else vs) = inVars o t i vs := by
  unfold bV inVars
  simp only [decide_eq_true_eq]
theorem inL_eq (o : Int) (t : ByteArray) (ls : List ByteArray) : (if decide (o = 18) then ls ++ [t] else ls) = inLabs o t ls := by
  unfold inLabs
  simp only [decide_eq_true_eq]
set_option maxHeartbeats 4000000 in
theorem rx_step (fs : List Fn) (vs ls : List ByteArray) (hv : vs.length ≤ 1000000) (hl : ls.length ≤ 1000000) (o : Int) (t : ByteArray) (p0 p k c s : Int) (ns : List ByteArray) (xs done : List Xp) (x : Xp) (rest : List Xp)
    (hx : xs[done.length]? = some x) (hdl : done.length ≤ 1000000) (hlt : done.length < xs.length)
    (IH : ∀ hp, F tab 42 [.d (arD (fnDs fs) (inVars o t done.length vs) (inLabs o t ls)), .d x.enc] hp = some (.ret (.d (gotD (resX fs (inVars o t done.length vs) (inLabs o t ls) x))) hp))
    (ih : ∀ y, RxLoop fs vs ls o t p0 p k c s ns xs (done ++ [y]) rest) : RxLoop fs vs ls o t p0 p k c s ns xs done (x :: rest) := by
  have va : (Xp.encs xs)[done.length]? = some x.enc := by rw [xencs_get, hx]; rfl
  have h1 : ((done.length : Int) < (xs.length : Int)) = True := eq_true (by omega)
  have i0 : (0 ≤ (done.length : Int)) = True := eq_true (by omega)
  have hmr : maxRow = 140737488355328 := by decide
  have d1 := cellV_d (bV o done.length) vs t
  have d2 := cellV_d (decide (o = 18)) ls t
  rw [inV_eq] at d1
  rw [inL_eq] at d2
  have hw := xs_w done
  have hel := xencs_len done
  have k1 : ((done.length + 1) * 104 ≤ maxRow) = True := eq_true (by omega)
  have k2 : ((0 + 1) * 104 ≤ maxRow) = True := eq_true (by omega)
  have k3 : (104 ≤ maxRow) = True := eq_true (by omega)
  have k4 : (1 * 104 ≤ maxRow) = True := eq_true (by omega)
  have a3 := fun c4 c6 q => rx_k3 fs vs ls hv o t p0 k c s ns xs c4 c6 done.length q
  simp only [List.set_cons_succ, List.set_cons_zero] at a3
  have a2 := fun c4 c6 b => rx_k2 fs vs ls hl o t p0 k c s ns xs c4 c6 done.length b
  obtain ⟨o', t', p', k', c', s', ns', xs', ex⟩ := xenc_as x
  rw [ex] at va IH
  unfold arD at IH
  unfold RxLoop
  rw [resL, r42_B0_eq]
  unfold outB z10
  simp (disch := omega) only [go_sem, and_self, and_true, true_and, false_and, and_false, Nat.reduceAdd, Nat.reduceMul, Nat.reduceSub, Nat.reduceLeDiff, Nat.reduceLT, Nat.reduceGT, Nat.reduceEqDiff, Nat.reduceBEq, Int.reduceNeg, Int.reduceEq, Int.reduceLT, Int.reduceLE, Int.reduceBEq, Int.reduceToNat, Int.toNat_natCast, Int.natCast_zero, r42_C0, r42_K4, h1, xencs_len]
  rw [a3, a2]
  generalize cellV (bV o done.length) vs t = q1 at *
  generalize cellV (decide (o = 18)) ls t = q2 at *
  cases hr : resX fs (inVars o t done.length vs) (inLabs o t ls) x with
  | lost e =>
    rw [hr] at IH
    simp only [gotD] at IH
    unfold RxAns lost10
    rcases d1 with rfl | rfl <;> rcases d2 with rfl | rfl <;> simp (disch := omega) only [go_sem, and_self, and_true, true_and, false_and, and_false, Nat.reduceAdd, Nat.reduceMul, Nat.reduceSub, Nat.reduceLeDiff, Nat.reduceLT, Nat.reduceGT, Nat.reduceEqDiff, Nat.reduceBEq, Int.reduceNeg, Int.reduceEq, Int.reduceLT, Int.reduceLE, Int.reduceBEq, Int.reduceToNat, Int.toNat_natCast, Int.natCast_zero, r42_K1, va, i0, IH]
  | ok y =>
    rw [hr] at IH
    simp only [gotD] at IH
    have ih := ih y
    unfold RxLoop at ih
    have hdl : (done ++ [y]).length = done.length + 1 := by simp
    rw [hdl, Int.natCast_add, Int.natCast_one] at ih
    obtain ⟨oy, ty, py, ky, cy, sy, nsy, xsy, ey⟩ := xenc_as y
    rw [ey] at IH
    simp only [D.cells, List.cons_append, List.nil_append] at IH
    have hans : RxAns o t p k c s ns (done ++ [y]) (resL fs vs ls o t (done.length + 1) rest) = RxAns o t p k c s ns done (match resL fs vs ls o t (done.length + 1) rest with | .lost e => .lost e | .ok ys => .ok (y :: ys)) := by
      cases resL fs vs ls o t (done.length + 1) rest with
      | lost e => rfl
      | ok ys => simp only [RxAns, List.append_assoc, List.cons_append, List.nil_append]
    rw [hans] at ih
    generalize RxAns o t p k c s ns done _ = A at ih ⊢
    unfold outB z10 rowX at ih
    rw [if_neg (by simp), xencs_app] at ih
    simp only [Xp.encs, ey] at ih
    unfold rowX
    by_cases h0 : done.length = 0
    · have he0 : Xp.encs done = [] := by rw [List.eq_nil_of_length_eq_zero h0]; rfl
      rw [if_pos h0]
      rw [he0, List.nil_append] at ih
      rcases d1 with rfl | rfl <;> rcases d2 with rfl | rfl <;> (simp (disch := omega) only [go_sem, and_self, and_true, true_and, false_and, and_false, Nat.reduceAdd, Nat.reduceMul, Nat.reduceSub, Nat.reduceLeDiff, Nat.reduceLT, Nat.reduceGT, Nat.reduceEqDiff, Nat.reduceBEq, Int.reduceNeg, Int.reduceEq, Int.reduceLT, Int.reduceLE, Int.reduceBEq, Int.reduceToNat, Int.toNat_natCast, Int.natCast_zero, r42_K1, va, i0, IH, k2, k3, k4, w64]; exact ih)
    · rw [if_neg h0]
      rcases d1 with rfl | rfl <;> rcases d2 with rfl | rfl <;> (simp (disch := omega) only [go_sem, and_self, and_true, true_and, false_and, and_false, Nat.reduceAdd, Nat.reduceMul, Nat.reduceSub, Nat.reduceLeDiff, Nat.reduceLT, Nat.reduceGT, Nat.reduceEqDiff, Nat.reduceBEq, Int.reduceNeg, Int.reduceEq, Int.reduceLT, Int.reduceLE, Int.reduceBEq, Int.reduceToNat, Int.toNat_natCast, Int.natCast_zero, r42_K1, va, i0, IH, k1, hw, hel, w64]; exact ih)
end Go.Pe.T

namespace Go.Pe.T
def RxIs (fs : List Fn) (x : Xp) : Prop := ∀ (vs ls : List ByteArray), vs.length + x.pre.length ≤ 1000000 → ls.length + x.pre.length ≤ 1000000 → ∀ hp : List Ent,
  F tab 42 [.d (arD (fnDs fs) vs ls), .d x.enc] hp = some (.ret (.d (gotD (resX fs vs ls x))) hp)
theorem rx_loop (fs : List Fn) (vs ls : List ByteArray) (hv : vs.length ≤ 1000000) (hl : ls.length ≤ 1000000) (o : Int) (t : ByteArray) (p0 p k c s : Int) (ns : List ByteArray) (xs : List Xp) (hxl : xs.length ≤ 1000000)
    (hall : ∀ x ∈ xs, ∀ vs' ls' : List ByteArray, vs'.length ≤ vs.length + 1 → ls'.length ≤ ls.length + 1 → ∀ hp, F tab 42 [.d (arD (fnDs fs) vs' ls'), .d x.enc] hp = some (.ret (.d (gotD (resX fs vs' ls' x))) hp)) :
    ∀ (rest done pre : List Xp), xs = pre ++ rest → pre.length = done.length → RxLoop fs vs ls o t p0 p k c s ns xs done rest
  | [], done, pre, h, hd => rx_nil fs vs ls o t p0 p k c s ns xs done (by rw [h, ← hd]; simp)
  | x :: rest, done, pre, h, hd => by
    have hlen : xs.length = done.length + (rest.length + 1) := by rw [h, ← hd]; simp
    refine rx_step fs vs ls hv hl o t p0 p k c s ns xs done x rest (by rw [h, ← hd]; simp) (by omega) (by omega) (hall x (by rw [h]; simp) _ _ ?_ ?_) fun y => ?_
    · unfold inVars; split <;> simp
    · unfold inLabs; split <;> simp
    · exact rx_loop fs vs ls hv hl o t p0 p k c s ns xs hxl hall rest (done ++ [y]) (pre ++ [x]) (by rw [h]; simp) (by simp [hd])
theorem call_pos (fs : List Fn) (t : ByteArray) (n : Nat) (i : Int) (h : callV fs t n = some i) : 0 ≤ i := by
  unfold callV at h
  split at h
  · simp only [Option.some.injEq] at h; omega
  · cases hb : bfind t n namesL 0 with
    | none => rw [hb] at h; simp at h
    | some j =>
      rw [hb] at h
      have : (1000 : Int) + (j : Int) = i := by simpa using h
      omega
theorem lead_at (fs : List Fn) (vs ls : List ByteArray) (o : Int) (t : ByteArray) (n : Nat) :
    match atV fs vs ls o t 0 n with
    | some i => leadV fs vs ls o t n = i ∧ 0 ≤ i
    | none => leadV fs vs ls o t n = -1 := by
  unfold atV leadV
  by_cases o2 : o = 2
  · subst o2
    rw [if_pos rfl, if_pos rfl]
    cases lastV vs t with
    | none => rfl
    | some i => exact ⟨rfl, Int.natCast_nonneg i⟩
  · rw [if_neg o2, if_neg o2]
    by_cases o16 : o = 16
    · subst o16
      rw [if_pos rfl, if_neg (by omega), if_neg (by omega), if_pos rfl]
      cases h : callV fs t n with
      | none => rfl
      | some i => exact ⟨rfl, call_pos fs t n i h⟩
    · rw [if_neg o16, if_neg o16]
      by_cases o19 : o = 19
      · subst o19
        rw [if_pos rfl, if_pos rfl]
        cases lastV ls t with
        | none => rfl
        | some i => exact ⟨rfl, Int.natCast_nonneg i⟩
      · rw [if_neg o19, if_neg o19]
        by_cases o18 : o = 18
        · subst o18
          rw [if_pos rfl, if_pos rfl]
          exact ⟨rfl, by omega⟩
        · rw [if_neg o18, if_neg o18]
          exact ⟨rfl, by omega⟩
theorem rowX_d (done : List Xp) : rowX done = .nilsl ∧ Xp.encs done = [] ∨ rowX done = .own 34 (Xp.encs done) := by
  unfold rowX
  by_cases h : done.length = 0
  · rw [if_pos h]
    exact .inl ⟨rfl, by rw [List.eq_nil_of_length_eq_zero h]; rfl⟩
  · rw [if_neg h]
    exact .inr rfl
set_option maxHeartbeats 4000000 in
theorem rx_top (fs : List Fn) (vs ls : List ByteArray) (hfl : fs.length ≤ maxLen) (hv : vs.length ≤ 1000000) (hl : ls.length ≤ 1000000) (o : Int) (t : ByteArray) (k c s : Int) (ns : List ByteArray) (xs : List Xp)
    (hL : ∀ p, RxLoop fs vs ls o t 0 p k c s ns xs [] xs) (hp : List Ent) :
    F tab 42 [.d (arD (fnDs fs) vs ls), .d (.agg [iv o, .str t, iv 0, iv k, iv c, iv s, .sl (ns.map .str), .sl (Xp.encs xs)])] hp = some (.ret (.d (gotD (resX fs vs ls (.mk o t 0 k c s ns xs)))) hp) := by
  have hmx : maxLen = 9223372036854775807 := by decide
  have m := fun hp => lead_ok fs vs ls o t (iv 0) (iv k) (iv c) (iv s) (.sl (ns.map .str)) xs hfl (by omega) (by omega) hp rfl rfl rfl rfl rfl
  have hla := lead_at fs vs ls o t xs.length
  rw [resX]
  unfold arD at m ⊢
  cases ha : atV fs vs ls o t 0 xs.length with
  | none =>
    rw [ha] at hla
    simp only at hla
    rw [hla] at m
    refine f42 rfl ?_
    simp (disch := omega) only [go_sem, and_self, and_true, true_and, false_and, and_false, Nat.reduceAdd, Nat.reduceMul, Nat.reduceSub, Nat.reduceLeDiff, Nat.reduceLT, Nat.reduceGT, Nat.reduceEqDiff, Nat.reduceBEq, Int.reduceNeg, Int.reduceEq, Int.reduceLT, Int.reduceLE, Int.reduceBEq, Int.reduceToNat, Int.toNat_natCast, Int.natCast_zero, r42_T, r42, m, gotD]
  | some i =>
    rw [ha] at hla
    simp only at hla
    obtain ⟨hle, hi0⟩ := hla
    rw [hle] at m
    have hL := hL i
    unfold RxLoop at hL
    rw [List.length_nil, Int.natCast_zero] at hL
    unfold outB z10 at hL
    rw [show rowX [] = .nilsl from rfl] at hL
    have n0 : (i < 0) = False := eq_false (by omega)
    refine f42 rfl ?_
    simp (disch := omega) only [go_sem, and_self, and_true, true_and, false_and, and_false, Nat.reduceAdd, Nat.reduceMul, Nat.reduceSub, Nat.reduceLeDiff, Nat.reduceLT, Nat.reduceGT, Nat.reduceEqDiff, Nat.reduceBEq, Int.reduceNeg, Int.reduceEq, Int.reduceLT, Int.reduceLE, Int.reduceBEq, Int.reduceToNat, Int.toNat_natCast, Int.natCast_zero, r42_T, r42_K6, m, n0]
    rw [r42_B0_n]
    erw [hL]
    cases hr : resL fs vs ls o t 0 xs with
    | lost e =>
      unfold RxAns lost10
      simp (disch := omega) only [go_sem, and_self, and_true, true_and, false_and, and_false, Nat.reduceAdd, Nat.reduceMul, Nat.reduceSub, Nat.reduceLeDiff, Nat.reduceLT, Nat.reduceGT, Nat.reduceEqDiff, Nat.reduceBEq, Int.reduceNeg, Int.reduceEq, Int.reduceLT, Int.reduceLE, Int.reduceBEq, Int.reduceToNat, Int.toNat_natCast, Int.natCast_zero, r42, gotD]
    | ok ys =>
      unfold RxAns outB z10
      simp only [List.nil_append, gotD, Xp.enc, D.cells, List.cons_append, List.nil_append]
      rcases rowX_d ys with ⟨h1, h2⟩ | h1
      · rw [h1, h2]
        simp (disch := omega) only [go_sem, and_self, and_true, true_and, false_and, and_false, Nat.reduceAdd, Nat.reduceMul, Nat.reduceSub, Nat.reduceLeDiff, Nat.reduceLT, Nat.reduceGT, Nat.reduceEqDiff, Nat.reduceBEq, Int.reduceNeg, Int.reduceEq, Int.reduceLT, Int.reduceLE, Int.reduceBEq, Int.reduceToNat, Int.toNat_natCast, Int.natCast_zero, r42]
      · rw [h1]
        simp (disch := omega) only [go_sem, and_self, and_true, true_and, false_and, and_false, Nat.reduceAdd, Nat.reduceMul, Nat.reduceSub, Nat.reduceLeDiff, Nat.reduceLT, Nat.reduceGT, Nat.reduceEqDiff, Nat.reduceBEq, Int.reduceNeg, Int.reduceEq, Int.reduceLT, Int.reduceLE, Int.reduceBEq, Int.reduceToNat, Int.toNat_natCast, Int.natCast_zero, r42]
mutual
def zeroX : Xp → Prop
  | .mk o t p k c s ns xs => p = 0 ∧ zeroXs xs
def zeroXs : List Xp → Prop
  | [] => True
  | x :: r => zeroX x ∧ zeroXs r
end
theorem zeros_mem {xs : List Xp} {x : Xp} (h : zeroXs xs) (hx : x ∈ xs) : zeroX x := by
  induction xs with
  | nil => simp at hx
  | cons y r ih =>
    rcases List.mem_cons.1 hx with rfl | hx
    · exact h.1
    · exact ih h.2 hx
theorem rx_step1 (fs : List Fn) (hfl : fs.length ≤ maxLen) (o : Int) (t : ByteArray) (k c s : Int) (ns : List ByteArray) (xs : List Xp) (hall : ∀ x ∈ xs, RxIs fs x) : RxIs fs (.mk o t 0 k c s ns xs) := by
  intro vs ls hv hl hp
  have hxl := pres_len xs
  simp only [Xp.pre, List.length_cons] at hv hl
  have hL := fun p => rx_loop fs vs ls (by omega) (by omega) o t 0 p k c s ns xs (by omega) (fun x hx vs' ls' h1 h2 hp => by
    have := pres_le xs x hx
    exact hall x hx vs' ls' (by omega) (by omega) hp) xs [] [] rfl rfl
  exact rx_top fs vs ls hfl (by omega) (by omega) o t k c s ns xs hL hp
theorem rexpr_ok (fs : List Fn) (hfl : fs.length ≤ maxLen) : ∀ (n : Nat) (x : Xp), SizeOf.sizeOf x ≤ n → zeroX x → RxIs fs x
  | 0, x, h, _ => by cases x; simp at h
  | n + 1, .mk o t p k c s ns xs, h, hz => by
    rw [zeroX] at hz
    obtain ⟨rfl, hz⟩ := hz
    refine rx_step1 fs hfl o t k c s ns xs fun x hx => rexpr_ok fs hfl n x ?_ (zeros_mem hz hx)
    have := List.sizeOf_lt_of_mem hx
    simp at h
    omega
end Go.Pe.T

namespace Go.Pe.T
def resF (fs : List Fn) : Nat → List Fn → Res (List Fn)
  | _, [] => .ok []
  | i, f :: r => match resX (fs.take (i + 1)) f.params [] f.body with
    | .lost e => .lost e
    | .ok y => match resF fs (i + 1) r with
      | .lost e => .lost e
      | .ok gs => .ok (⟨f.name, f.params, y⟩ :: gs)
def progD (fs : List Fn) (x : Xp) : D := .agg (.sl (fnDs fs) :: x.enc.cells)
def rowG (gs : List Fn) : PV := if gs.length = 0 then .nilsl else .own 44 (fnDs gs)
def boxG (gs : List Fn) : Ent := .box [rowG gs, .d (.int .i64 0), .d (.str ⟨#[]⟩), .d (.int .i64 0), .d (.int .i64 0), .d (.int .i64 0), .d (.int .i64 0), .nilsl, .nilsl]
def hpG (gs : List Fn) : List Ent := [boxG gs, .box [.d (.str ⟨#[]⟩)], .box [.d (.int .i64 0)]]
def PanG (v : Option (Ex × St)) (d : D) : Prop := ∃ s a0 a1 a2 a3 a4 a5 a6 a7 a8 b c, v = some (.pan d, s) ∧ s.tm.getD 2 .dead = .ptr 0 0 ∧ s.tm.getD 3 .dead = .ptr 1 0 ∧ s.tm.getD 4 .dead = .ptr 2 0 ∧
  s.hp = [.box [a0, a1, a2, a3, a4, a5, a6, a7, a8], .box [b], .box [c]]
def RfAns (x1 : PV) (done : List Fn) (r : Res (List Fn)) (v : Option (Ex × St)) : Prop := match r with
  | .ok gs => v = some (.norm, r17_E0 x1 (.ptr 0 0) (.ptr 1 0) (.ptr 2 0) (hpG (done ++ gs)))
  | .lost t => PanG v (lostD t)
def RfLoop (fs : List Fn) (o : Int) (t : ByteArray) (p k c s : Int) (ns : List ByteArray) (xs : List Xp) (done rest : List Fn) : Prop :=
  RfAns (.eptr (.agg [.sl (fnDs fs), iv o, .str t, iv p, iv k, iv c, iv s, .sl (ns.map .str), .sl (Xp.encs xs)]) 0) done (resF fs done.length rest)
    (V (F tab) r17_B0 (r17_S0 (.eptr (.agg [.sl (fnDs fs), iv o, .str t, iv p, iv k, iv c, iv s, .sl (ns.map .str), .sl (Xp.encs xs)]) 0) (.ptr 0 0) (.ptr 1 0) (.ptr 2 0) (.d (.sl (fnDs fs))) (.d (iv fs.length)) (.d (iv done.length)) (hpG done)))
theorem rf_nil (fs : List Fn) (o : Int) (t : ByteArray) (p k c s : Int) (ns : List ByteArray) (xs : List Xp) (done : List Fn) (hn : done.length = fs.length) : RfLoop fs o t p k c s ns xs done [] := by
  have h1 : ((done.length : Int) < (fs.length : Int)) = False := eq_false (by omega)
  unfold RfLoop
  rw [resF, r17_B0_eq]
  simp (disch := omega) only [go_sem, and_self, and_true, true_and, false_and, and_false, Nat.reduceAdd, Nat.reduceMul, Nat.reduceSub, Nat.reduceLeDiff, Nat.reduceLT, Nat.reduceGT, Nat.reduceEqDiff, Nat.reduceBEq, Int.reduceNeg, Int.reduceEq, Int.reduceLT, Int.reduceLE, Int.reduceBEq, Int.reduceToNat, Int.toNat_natCast, Int.natCast_zero, r17_C0, h1, RfAns, List.append_nil]
theorem fn_as' (f : Fn) : ∃ (o : Int) (t : ByteArray) (p k c s : Int) (ns : List ByteArray) (xs : List Xp), f.body.enc = .agg [iv o, .str t, iv p, iv k, iv c, iv s, .sl (ns.map .str), .sl (Xp.encs xs)] ∧
    f.enc = .agg [.str f.name, .sl (f.params.map .str), iv o, .str t, iv p, iv k, iv c, iv s, .sl (ns.map .str), .sl (Xp.encs xs)] := by
  obtain ⟨o, t, p, k, c, s, ns, xs, ex⟩ := xenc_as f.body
  exact ⟨o, t, p, k, c, s, ns, xs, ex, by unfold Fn.enc; rw [ex]; rfl⟩
theorem fns_w (fs : List Fn) : ((fnDs fs).all fun y => y.width == 10) = true := by
  rw [List.all_eq_true]
  intro y hy
  unfold fnDs at hy
  rw [List.mem_map] at hy
  obtain ⟨f, _, rfl⟩ := hy
  obtain ⟨c0, c1, c2, c3, c4, c5, c6, c7, e⟩ := fn_as f
  rw [e]
  rfl
theorem thenR_pan {k : St → Option OR} {v : D} {s : St} : thenR k (some (.pan v s)) = some (.pan v s) := rfl
set_option maxHeartbeats 4000000 in
theorem rf_step (fs : List Fn) (o : Int) (t : ByteArray) (p k c s : Int) (ns : List ByteArray) (xs : List Xp) (done : List Fn) (f : Fn) (rest : List Fn)
    (hx : fs[done.length]? = some f) (hn : done.length + (rest.length + 1) = fs.length) (hfl : fs.length ≤ 1000) (hpl : f.params.length ≤ 1000)
    (IH : ∀ hp, F tab 38 [.d (arD (fnDs (fs.take (done.length + 1))) f.params []), .d f.body.enc] hp = ExOut hp (resX (fs.take (done.length + 1)) f.params [] f.body))
    (ih : ∀ y, RfLoop fs o t p k c s ns xs (done ++ [⟨f.name, f.params, y⟩]) rest) : RfLoop fs o t p k c s ns xs done (f :: rest) := by
  have h1 : ((done.length : Int) < (fs.length : Int)) = True := eq_true (by omega)
  have i0 : (0 ≤ (done.length : Int)) = True := eq_true (by omega)
  have i1 : (0 ≤ ((done.length : Int) + 1)) = True := eq_true (by omega)
  have i2 : ((done.length : Int) + 1 ≤ (fs.length : Int)) = True := eq_true (by omega)
  have hfd : (fnDs fs).length = fs.length := by rw [fnDs, List.length_map]
  have va : (fnDs fs)[done.length]? = some f.enc := by rw [fnDs, List.getElem?_map, hx]; rfl
  have hct : cutD (fnDs fs) 0 ((done.length : Int) + 1) = fnDs (fs.take (done.length + 1)) := by
    have e : ((done.length : Int) + 1).toNat = done.length + 1 := by omega
    simp [cutD, e, fnDs, List.map_take]
  have hmr : maxRow = 140737488355328 := by decide
  have k3 : (f.params.length * 16 ≤ maxRow) = True := eq_true (by omega)
  have k4 : (0 + f.params.length) = f.params.length := by omega
  obtain ⟨o', t', p', k', c', s', ns', xs', e1, e2⟩ := fn_as' f
  rw [e2] at va
  rw [e1] at IH
  unfold RfLoop
  rw [resF, r17_B0_eq]
  cases hr : resX (fs.take (done.length + 1)) f.params [] f.body with
  | lost e =>
    rw [hr] at IH
    simp only [ExOut] at IH
    simp only [RfAns]
    unfold arD at IH
    rw [List.map_nil] at IH
    have hw := fns_w fs
    unfold hpG boxG rowG
    by_cases h0 : done.length = 0
    · rw [if_pos h0]
      simp (disch := omega) only [go_sem, and_self, and_true, true_and, false_and, and_false, Nat.reduceAdd, Nat.reduceMul, Nat.reduceSub, Nat.reduceLeDiff, Nat.reduceLT, Nat.reduceGT, Nat.reduceEqDiff, Nat.reduceBEq, Int.reduceNeg, Int.reduceEq, Int.reduceLT, Int.reduceLE, Int.reduceBEq, Int.reduceToNat, Int.toNat_natCast, Int.natCast_zero, r17_C0, h1, i0, i1, i2, hfd, va, hct, k3, k4, strs_one, List.length_map, IH, w64, thenR_pan, hw]
      exact ⟨_, .dead, .dead, .dead, .dead, .dead, .dead, .dead, .dead, .dead, .dead, .dead, rfl, rfl, rfl, rfl, rfl⟩
    · rw [if_neg h0]
      simp (disch := omega) only [go_sem, and_self, and_true, true_and, false_and, and_false, Nat.reduceAdd, Nat.reduceMul, Nat.reduceSub, Nat.reduceLeDiff, Nat.reduceLT, Nat.reduceGT, Nat.reduceEqDiff, Nat.reduceBEq, Int.reduceNeg, Int.reduceEq, Int.reduceLT, Int.reduceLE, Int.reduceBEq, Int.reduceToNat, Int.toNat_natCast, Int.natCast_zero, r17_C0, h1, i0, i1, i2, hfd, va, hct, k3, k4, strs_one, List.length_map, IH, w64, thenR_pan, hw]
      exact ⟨_, .dead, .dead, .dead, .dead, .dead, .dead, .dead, .dead, .dead, .dead, .dead, rfl, rfl, rfl, rfl, rfl⟩
  | ok y =>
    rw [hr] at IH
    simp only [ExOut] at IH
    have ih := ih y
    unfold RfLoop at ih
    have hdl : (done ++ [(⟨f.name, f.params, y⟩ : Fn)]).length = done.length + 1 := by simp
    rw [hdl, Int.natCast_add, Int.natCast_one] at ih
    unfold arD at IH
    rw [List.map_nil] at IH
    have hw := fns_w fs
    obtain ⟨oy, ty, py, ky, cy, sy, nsy, xsy, ey⟩ := xenc_as y
    rw [ey] at IH
    have hfe : fnDs (done ++ [(⟨f.name, f.params, y⟩ : Fn)]) = fnDs done ++ [.agg [.str f.name, .sl (f.params.map .str), iv oy, .str ty, iv py, iv ky, iv cy, iv sy, .sl (nsy.map .str), .sl (Xp.encs xsy)]] := by
      simp only [fnDs, List.map_append, List.map_cons, List.map_nil, Fn.enc, ey]
      rfl
    have hgd : (fnDs done).length = done.length := by rw [fnDs, List.length_map]
    have k5 : ((done.length + 1) * 144 ≤ maxRow) = True := eq_true (by omega)
    have k6 : ((0 + 1) * 144 ≤ maxRow) = True := eq_true (by omega)
    have k7 : (1 * 144 ≤ maxRow) = True := eq_true (by omega)
    have k8 : (144 ≤ maxRow) = True := eq_true (by omega)
    cases hq : resF fs (done.length + 1) rest with
    | lost e =>
      rw [hq] at ih
      simp only [RfAns] at ih ⊢
      unfold hpG boxG rowG at ih ⊢
      rw [if_neg (by simp), hfe] at ih
      by_cases h0 : done.length = 0
      · rw [if_pos h0]
        have hd0 : fnDs done = [] := by rw [List.eq_nil_of_length_eq_zero h0]; rfl
        rw [hd0, List.nil_append] at ih
        simp (disch := omega) only [go_sem, and_self, and_true, true_and, false_and, and_false, Nat.reduceAdd, Nat.reduceMul, Nat.reduceSub, Nat.reduceLeDiff, Nat.reduceLT, Nat.reduceGT, Nat.reduceEqDiff, Nat.reduceBEq, Int.reduceNeg, Int.reduceEq, Int.reduceLT, Int.reduceLE, Int.reduceBEq, Int.reduceToNat, Int.toNat_natCast, Int.natCast_zero, r17_C0, h1, i0, i1, i2, hfd, va, hct, k3, k4, strs_one, List.length_map, IH, w64, thenR_pan, hw, k6, k7, k8]
        exact ih
      · rw [if_neg h0]
        simp (disch := omega) only [go_sem, and_self, and_true, true_and, false_and, and_false, Nat.reduceAdd, Nat.reduceMul, Nat.reduceSub, Nat.reduceLeDiff, Nat.reduceLT, Nat.reduceGT, Nat.reduceEqDiff, Nat.reduceBEq, Int.reduceNeg, Int.reduceEq, Int.reduceLT, Int.reduceLE, Int.reduceBEq, Int.reduceToNat, Int.toNat_natCast, Int.natCast_zero, r17_C0, h1, i0, i1, i2, hfd, va, hct, k3, k4, strs_one, List.length_map, IH, w64, thenR_pan, hw, hgd, k5]
        exact ih
    | ok gs =>
      rw [hq] at ih
      simp only [RfAns, List.append_assoc, List.cons_append, List.nil_append] at ih ⊢
      generalize hE : r17_E0 _ _ _ _ _ = E at ih ⊢
      unfold hpG boxG rowG at ih ⊢
      rw [if_neg (by simp), hfe] at ih
      by_cases h0 : done.length = 0
      · rw [if_pos h0]
        have hd0 : fnDs done = [] := by rw [List.eq_nil_of_length_eq_zero h0]; rfl
        rw [hd0, List.nil_append] at ih
        simp (disch := omega) only [go_sem, and_self, and_true, true_and, false_and, and_false, Nat.reduceAdd, Nat.reduceMul, Nat.reduceSub, Nat.reduceLeDiff, Nat.reduceLT, Nat.reduceGT, Nat.reduceEqDiff, Nat.reduceBEq, Int.reduceNeg, Int.reduceEq, Int.reduceLT, Int.reduceLE, Int.reduceBEq, Int.reduceToNat, Int.toNat_natCast, Int.natCast_zero, r17_C0, h1, i0, i1, i2, hfd, va, hct, k3, k4, strs_one, List.length_map, IH, w64, thenR_pan, hw, k6, k7, k8]
        exact ih
      · rw [if_neg h0]
        simp (disch := omega) only [go_sem, and_self, and_true, true_and, false_and, and_false, Nat.reduceAdd, Nat.reduceMul, Nat.reduceSub, Nat.reduceLeDiff, Nat.reduceLT, Nat.reduceGT, Nat.reduceEqDiff, Nat.reduceBEq, Int.reduceNeg, Int.reduceEq, Int.reduceLT, Int.reduceLE, Int.reduceBEq, Int.reduceToNat, Int.toNat_natCast, Int.natCast_zero, r17_C0, h1, i0, i1, i2, hfd, va, hct, k3, k4, strs_one, List.length_map, IH, w64, thenR_pan, hw, hgd, k5]
        exact ih
end Go.Pe.T

namespace Go.Pe.T
structure FnOk (f : Fn) : Prop where
  params : f.params.length ≤ 1000
  few : xfew f.body
  pre : f.body.pre.length ≤ 100000
theorem rf_loop (fs : List Fn) (o : Int) (t : ByteArray) (p k c s : Int) (ns : List ByteArray) (xs : List Xp) (hfl : fs.length ≤ 1000) (hok : ∀ f ∈ fs, FnOk f) :
    ∀ (rest done pre : List Fn), fs = pre ++ rest → pre.length = done.length → RfLoop fs o t p k c s ns xs done rest
  | [], done, pre, h, hd => rf_nil fs o t p k c s ns xs done (by rw [h, ← hd]; simp)
  | f :: rest, done, pre, h, hd => by
    have hmx : maxLen = 9223372036854775807 := by decide
    have hf := hok f (by rw [h]; simp)
    refine rf_step fs o t p k c s ns xs done f rest (by rw [h, ← hd]; simp) (by rw [h, ← hd]; simp) hfl hf.params ?_ fun y => ?_
    · have h1 := hf.pre
      have h2 := hf.params
      exact expr_ok (fs.take (done.length + 1)) (by rw [List.length_take]; omega) _ f.body (Nat.le_refl _) hf.few f.params [] (by omega) (by simp; omega)
    · exact rf_loop fs o t p k c s ns xs hfl hok rest (done ++ [⟨f.name, f.params, y⟩]) (pre ++ [f]) (by rw [h]; simp) (by simp [hd])
theorem prog_as (fs : List Fn) (x : Xp) : ∃ (o : Int) (t : ByteArray) (p k c s : Int) (ns : List ByteArray) (xs : List Xp), x.enc = .agg [iv o, .str t, iv p, iv k, iv c, iv s, .sl (ns.map .str), .sl (Xp.encs xs)] ∧
    progD fs x = .agg [.sl (fnDs fs), iv o, .str t, iv p, iv k, iv c, iv s, .sl (ns.map .str), .sl (Xp.encs xs)] := by
  cases x; exact ⟨_, _, _, _, _, _, _, _, rfl, rfl⟩
def zpD : D := .agg [.sl [], iv 0, .str ⟨#[]⟩, iv 0, iv 0, iv 0, iv 0, .sl [], .sl []]
def nilB : ByteArray := ⟨#[]⟩
theorem res_no (fs : List Fn) (x : Xp) (hi : ∀ hp, F tab 16 [.d (progD fs x)] hp = some (.ret (.d (.bool false)) hp)) (hp : List Ent) : F tab 17 [.d (progD fs x)] hp = some (.ret (.tup [.d zpD, .d (.str nilB), .d (iv 1)]) hp) := by
  obtain ⟨o, t, p, k, c, s, ns, xs, e1, e2⟩ := prog_as fs x
  rw [e2] at hi
  rw [e2]
  refine f17 rfl ?_
  simp (disch := omega) only [go_sem, and_self, and_true, true_and, false_and, and_false, Nat.reduceAdd, Nat.reduceMul, Nat.reduceSub, Nat.reduceLeDiff, Nat.reduceLT, Nat.reduceGT, Nat.reduceEqDiff, Nat.reduceBEq, Int.reduceNeg, Int.reduceEq, Int.reduceLT, Int.reduceLE, Int.reduceBEq, Int.reduceToNat, Int.toNat_natCast, Int.natCast_zero, r17_Y, VTri, r17_A0, r17_A1, r17_D, hi, hold, r17]
  rfl
theorem panG_fin {v : Option (Ex × St)} {nm : ByteArray} (h : PanG v (lostD nm)) (hp : List Ent) : fnEnd r17 hp (VFin (F tab) r17_Hd [.ptr 0 0, .ptr 1 0, .ptr 2 0] v) = some (.ret (.tup [.d zpD, .d (.str nm), .d (iv 15)]) hp) := by
  obtain ⟨s, a0, a1, a2, a3, a4, a5, a6, a7, a8, b, c, rfl, h2, h3, h4, h5⟩ := h
  obtain ⟨tm, hp'⟩ := s
  subst h5
  simp only at h2 h3 h4
  simp (disch := omega) only [go_sem, and_self, and_true, true_and, false_and, and_false, Nat.reduceAdd, Nat.reduceMul, Nat.reduceSub, Nat.reduceLeDiff, Nat.reduceLT, Nat.reduceGT, Nat.reduceEqDiff, Nat.reduceBEq, Int.reduceNeg, Int.reduceEq, Int.reduceLT, Int.reduceLE, Int.reduceBEq, Int.reduceToNat, Int.toNat_natCast, Int.natCast_zero, VFin, VH, r17_Hd, r37_H, PV.isPtr, List.replicate, isnD, lostD, tasD, hold, r17, h2, h3, h4]
  rfl
theorem panG_seq {v : Option (Ex × St)} {d : D} {f : St → Option (Ex × St)} (h : PanG v d) : PanG (seqK f v) d := by
  obtain ⟨s, a0, a1, a2, a3, a4, a5, a6, a7, a8, b, c, rfl, h⟩ := h
  exact ⟨s, a0, a1, a2, a3, a4, a5, a6, a7, a8, b, c, rfl, h⟩
set_option maxHeartbeats 2000000 in
theorem res_lostF (fs : List Fn) (x : Xp) (nm : ByteArray) (hfl : fs.length ≤ 1000) (hok : ∀ f ∈ fs, FnOk f) (hi : ∀ hp, F tab 16 [.d (progD fs x)] hp = some (.ret (.d (.bool true)) hp)) (hr : resF fs 0 fs = .lost nm) (hp : List Ent) :
    F tab 17 [.d (progD fs x)] hp = some (.ret (.tup [.d zpD, .d (.str nm), .d (iv 15)]) hp) := by
  obtain ⟨o, t, p, k, c, s, ns, xs, e1, e2⟩ := prog_as fs x
  have hL := rf_loop fs o t p k c s ns xs hfl hok fs [] [] rfl rfl
  unfold RfLoop at hL
  rw [List.length_nil, hr] at hL
  simp only [RfAns] at hL
  have hL2 := fun f => panG_fin (panG_seq (f := f) hL) hp
  rw [e2] at hi
  rw [e2]
  have hfd : (fnDs fs).length = fs.length := by rw [fnDs, List.length_map]
  refine f17 rfl ?_
  simp (disch := omega) only [go_sem, and_self, and_true, true_and, false_and, and_false, Nat.reduceAdd, Nat.reduceMul, Nat.reduceSub, Nat.reduceLeDiff, Nat.reduceLT, Nat.reduceGT, Nat.reduceEqDiff, Nat.reduceBEq, Int.reduceNeg, Int.reduceEq, Int.reduceLT, Int.reduceLE, Int.reduceBEq, Int.reduceToNat, Int.toNat_natCast, Int.natCast_zero, r17_Y, VTri, r17_A0, r17_A1, r17_D, hi, hold, hfd, PV.isPtr]
  rw [r17_B0_n]
  exact hL2 _
set_option maxHeartbeats 2000000 in
theorem res_ok (fs : List Fn) (x : Xp) (gs : List Fn) (hfl : fs.length ≤ 1000) (hok : ∀ f ∈ fs, FnOk f) (hf : xfew x) (hl : x.pre.length ≤ 100000) (hi : ∀ hp, F tab 16 [.d (progD fs x)] hp = some (.ret (.d (.bool true)) hp)) (hr : resF fs 0 fs = .ok gs) (hp : List Ent) :
    F tab 17 [.d (progD fs x)] hp = some (.ret (.tup (match resX fs [] [] x with
      | .ok y => [.d (progD gs y), .d (.str nilB), .d (iv 0)]
      | .lost nm => [.d zpD, .d (.str nm), .d (iv 15)])) hp) := by
  have hmx : maxLen = 9223372036854775807 := by decide
  obtain ⟨o, t, p, k, c, s, ns, xs, e1, e2⟩ := prog_as fs x
  have hL := rf_loop fs o t p k c s ns xs hfl hok fs [] [] rfl rfl
  have he := expr_ok fs (by omega) _ x (Nat.le_refl _) hf [] [] (by simp; omega) (by simp; omega)
  unfold RfLoop at hL
  rw [List.length_nil, hr] at hL
  simp only [RfAns, List.nil_append] at hL
  rw [e1] at he
  rw [e2] at hi
  rw [e2]
  unfold arD at he
  rw [List.map_nil] at he
  have hfd : (fnDs fs).length = fs.length := by rw [fnDs, List.length_map]
  cases hq : resX fs [] [] x with
  | lost nm =>
    rw [hq] at he
    simp only [ExOut, lostD] at he
    refine f17 rfl ?_
    simp (disch := omega) only [go_sem, and_self, and_true, true_and, false_and, and_false, Nat.reduceAdd, Nat.reduceMul, Nat.reduceSub, Nat.reduceLeDiff, Nat.reduceLT, Nat.reduceGT, Nat.reduceEqDiff, Nat.reduceBEq, Int.reduceNeg, Int.reduceEq, Int.reduceLT, Int.reduceLE, Int.reduceBEq, Int.reduceToNat, Int.toNat_natCast, Int.natCast_zero, r17_Y, VTri, r17_A0, r17_A1, r17_D, hi, hold, hfd, PV.isPtr]
    rw [r17_B0_n]
    erw [hL]
    unfold hpG boxG
    simp (disch := omega) only [go_sem, and_self, and_true, true_and, false_and, and_false, Nat.reduceAdd, Nat.reduceMul, Nat.reduceSub, Nat.reduceLeDiff, Nat.reduceLT, Nat.reduceGT, Nat.reduceEqDiff, Nat.reduceBEq, Int.reduceNeg, Int.reduceEq, Int.reduceLT, Int.reduceLE, Int.reduceBEq, Int.reduceToNat, Int.toNat_natCast, Int.natCast_zero, he, thenR_pan]
    refine panG_fin (nm := nm) ?_ hp
    exact ⟨_, _, _, _, _, _, _, _, _, _, _, _, rfl, rfl, rfl, rfl, rfl⟩
  | ok y =>
    rw [hq] at he
    obtain ⟨o', t', p', k', c', s', ns', xs', e3, e4⟩ := prog_as gs y
    simp only [ExOut] at he
    rw [e3] at he
    simp only
    rw [e4]
    refine f17 rfl ?_
    simp (disch := omega) only [go_sem, and_self, and_true, true_and, false_and, and_false, Nat.reduceAdd, Nat.reduceMul, Nat.reduceSub, Nat.reduceLeDiff, Nat.reduceLT, Nat.reduceGT, Nat.reduceEqDiff, Nat.reduceBEq, Int.reduceNeg, Int.reduceEq, Int.reduceLT, Int.reduceLE, Int.reduceBEq, Int.reduceToNat, Int.toNat_natCast, Int.natCast_zero, r17_Y, VTri, r17_A0, r17_A1, r17_D, hi, hold, hfd, PV.isPtr]
    rw [r17_B0_n]
    erw [hL]
    unfold hpG boxG rowG
    by_cases h0 : gs.length = 0
    · obtain rfl := List.eq_nil_of_length_eq_zero h0
      rw [if_pos h0]
      simp (disch := omega) only [go_sem, and_self, and_true, true_and, false_and, and_false, Nat.reduceAdd, Nat.reduceMul, Nat.reduceSub, Nat.reduceLeDiff, Nat.reduceLT, Nat.reduceGT, Nat.reduceEqDiff, Nat.reduceBEq, Int.reduceNeg, Int.reduceEq, Int.reduceLT, Int.reduceLE, Int.reduceBEq, Int.reduceToNat, Int.toNat_natCast, Int.natCast_zero, he, VFin, VH, r17_Hd, r37_H, PV.isPtr, List.replicate, isnD, hold, r17]
      rfl
    · rw [if_neg h0]
      simp (disch := omega) only [go_sem, and_self, and_true, true_and, false_and, and_false, Nat.reduceAdd, Nat.reduceMul, Nat.reduceSub, Nat.reduceLeDiff, Nat.reduceLT, Nat.reduceGT, Nat.reduceEqDiff, Nat.reduceBEq, Int.reduceNeg, Int.reduceEq, Int.reduceLT, Int.reduceLE, Int.reduceBEq, Int.reduceToNat, Int.toNat_natCast, Int.natCast_zero, he, VFin, VH, r17_Hd, r37_H, PV.isPtr, List.replicate, isnD, hold, r17]
      rfl
end Go.Pe.T

namespace Go.Pe.T
abbrev pE (fs : List Fn) (o : Int) (t : ByteArray) (p k c s : Int) (ns : List ByteArray) (xs : List Xp) : PV := .eptr (.agg [.sl (fnDs fs), iv o, .str t, iv p, iv k, iv c, iv s, .sl (ns.map .str), .sl (Xp.encs xs)]) 0
def z9 : PV := .ibox [.nilsl, .d (iv 0), .d (.str ⟨#[]⟩), .d (iv 0), .d (iv 0), .d (iv 0), .d (iv 0), .nilsl, .nilsl]
def w9 : PV := .ibox [.d (.sl []), .d (iv 0), .d (.str ⟨#[]⟩), .d (iv 0), .d (iv 0), .d (iv 0), .d (iv 0), .d (.sl []), .d (.sl [])]
def g9 (gs : List Fn) : PV := .ibox [rowG gs, .d (iv 0), .d (.str ⟨#[]⟩), .d (iv 0), .d (iv 0), .d (iv 0), .d (iv 0), .nilsl, .nilsl]
def RrAns (x1 : PV) (done : List Fn) : Res (List Fn) → Option (Ex × St)
  | .ok gs => some (.norm, r25_E0 x1 z9 (g9 (done ++ gs)) [])
  | .lost e => some (.ret, r25_R w9 (.d (.str e)) (.d (.bool false)) [])
def RrLoop (fs : List Fn) (o : Int) (t : ByteArray) (p k c s : Int) (ns : List ByteArray) (xs : List Xp) (done rest : List Fn) : Prop :=
  V (F tab) r25_B0 (r25_S0 (pE fs o t p k c s ns xs) z9 (g9 done) (.d (iv done.length)) []) = RrAns (pE fs o t p k c s ns xs) done (resF fs done.length rest)
theorem rr_nil (fs : List Fn) (o : Int) (t : ByteArray) (p k c s : Int) (ns : List ByteArray) (xs : List Xp) (done : List Fn) (hn : done.length = fs.length) : RrLoop fs o t p k c s ns xs done [] := by
  have h1 : ((done.length : Int) < (fs.length : Int)) = False := eq_false (by omega)
  have hfd : (fnDs fs).length = fs.length := by rw [fnDs, List.length_map]
  unfold RrLoop
  rw [resF, RrAns, List.append_nil, r25_B0_eq]
  unfold g9 z9
  simp (disch := omega) only [go_sem, and_self, and_true, true_and, false_and, and_false, Nat.reduceAdd, Nat.reduceMul, Nat.reduceSub, Nat.reduceLeDiff, Nat.reduceLT, Nat.reduceGT, Nat.reduceEqDiff, Nat.reduceBEq, Int.reduceNeg, Int.reduceEq, Int.reduceLT, Int.reduceLE, Int.reduceBEq, Int.reduceToNat, Int.toNat_natCast, Int.natCast_zero, r25_C0, h1, hfd]
set_option maxHeartbeats 4000000 in
theorem rr_step (fs : List Fn) (o : Int) (t : ByteArray) (p k c s : Int) (ns : List ByteArray) (xs : List Xp) (done : List Fn) (f : Fn) (rest : List Fn)
    (hx : fs[done.length]? = some f) (hn : done.length + (rest.length + 1) = fs.length) (hfl : fs.length ≤ 1000)
    (IH : ∀ hp, F tab 42 [.d (arD (fnDs (fs.take (done.length + 1))) f.params []), .d f.body.enc] hp = some (.ret (.d (gotD (resX (fs.take (done.length + 1)) f.params [] f.body))) hp))
    (ih : ∀ y, RrLoop fs o t p k c s ns xs (done ++ [⟨f.name, f.params, y⟩]) rest) : RrLoop fs o t p k c s ns xs done (f :: rest) := by
  have h1 : ((done.length : Int) < (fs.length : Int)) = True := eq_true (by omega)
  have i0 : (0 ≤ (done.length : Int)) = True := eq_true (by omega)
  have i1 : (0 ≤ ((done.length : Int) + 1)) = True := eq_true (by omega)
  have i2 : ((done.length : Int) + 1 ≤ (fs.length : Int)) = True := eq_true (by omega)
  have hfd : (fnDs fs).length = fs.length := by rw [fnDs, List.length_map]
  have va : (fnDs fs)[done.length]? = some f.enc := by rw [fnDs, List.getElem?_map, hx]; rfl
  have hct : cutD (fnDs fs) 0 ((done.length : Int) + 1) = fnDs (fs.take (done.length + 1)) := by
    have e : ((done.length : Int) + 1).toNat = done.length + 1 := by omega
    simp [cutD, e, fnDs, List.map_take]
  have hmr : maxRow = 140737488355328 := by decide
  have hw := fns_w fs
  have hwd := fns_w done
  obtain ⟨o', t', p', k', c', s', ns', xs', e1, e2⟩ := fn_as' f
  rw [e2] at va
  rw [e1] at IH
  unfold arD at IH
  rw [List.map_nil] at IH
  unfold RrLoop
  rw [resF, r25_B0_eq]
  unfold z9 g9
  cases hr : resX (fs.take (done.length + 1)) f.params [] f.body with
  | lost e =>
    rw [hr] at IH
    simp only [gotD] at IH
    unfold RrAns w9
    simp (disch := omega) only [go_sem, and_self, and_true, true_and, false_and, and_false, Nat.reduceAdd, Nat.reduceMul, Nat.reduceSub, Nat.reduceLeDiff, Nat.reduceLT, Nat.reduceGT, Nat.reduceEqDiff, Nat.reduceBEq, Int.reduceNeg, Int.reduceEq, Int.reduceLT, Int.reduceLE, Int.reduceBEq, Int.reduceToNat, Int.toNat_natCast, Int.natCast_zero, r25_C0, r25_K3, h1, i0, i1, i2, hfd, va, hct, hw, IH, w64]
  | ok y =>
    rw [hr] at IH
    simp only [gotD] at IH
    have ih := ih y
    unfold RrLoop at ih
    have hdl : (done ++ [(⟨f.name, f.params, y⟩ : Fn)]).length = done.length + 1 := by simp
    rw [hdl, Int.natCast_add, Int.natCast_one] at ih
    obtain ⟨oy, ty, py, ky, cy, sy, nsy, xsy, ey⟩ := xenc_as y
    rw [ey] at IH
    simp only [D.cells, List.cons_append, List.nil_append] at IH
    have hfe : fnDs (done ++ [(⟨f.name, f.params, y⟩ : Fn)]) = fnDs done ++ [.agg [.str f.name, .sl (f.params.map .str), iv oy, .str ty, iv py, iv ky, iv cy, iv sy, .sl (nsy.map .str), .sl (Xp.encs xsy)]] := by
      simp only [fnDs, List.map_append, List.map_cons, List.map_nil, Fn.enc, ey]
      rfl
    have hans : RrAns (pE fs o t p k c s ns xs) (done ++ [⟨f.name, f.params, y⟩]) (resF fs (done.length + 1) rest) = RrAns (pE fs o t p k c s ns xs) done (match resF fs (done.length + 1) rest with | .lost e => .lost e | .ok gs => .ok (⟨f.name, f.params, y⟩ :: gs)) := by
      cases resF fs (done.length + 1) rest with
      | lost e => rfl
      | ok ys => simp only [RrAns, List.append_assoc, List.cons_append, List.nil_append]
    rw [hans] at ih
    generalize RrAns _ done _ = A at ih ⊢
    unfold z9 g9 at ih
    unfold rowG at ih ⊢
    rw [if_neg (by simp), hfe] at ih
    have hgd : (fnDs done).length = done.length := by rw [fnDs, List.length_map]
    have k5 : ((done.length + 1) * 144 ≤ maxRow) = True := eq_true (by omega)
    have k6 : ((0 + 1) * 144 ≤ maxRow) = True := eq_true (by omega)
    have k7 : (1 * 144 ≤ maxRow) = True := eq_true (by omega)
    have k8 : (144 ≤ maxRow) = True := eq_true (by omega)
    by_cases h0 : done.length = 0
    · have hd0 : fnDs done = [] := by rw [List.eq_nil_of_length_eq_zero h0]; rfl
      rw [if_pos h0]
      rw [hd0, List.nil_append] at ih
      simp (disch := omega) only [go_sem, and_self, and_true, true_and, false_and, and_false, Nat.reduceAdd, Nat.reduceMul, Nat.reduceSub, Nat.reduceLeDiff, Nat.reduceLT, Nat.reduceGT, Nat.reduceEqDiff, Nat.reduceBEq, Int.reduceNeg, Int.reduceEq, Int.reduceLT, Int.reduceLE, Int.reduceBEq, Int.reduceToNat, Int.toNat_natCast, Int.natCast_zero, r25_C0, r25_K3, r25_K0, h1, i0, i1, i2, hfd, va, hct, hw, IH, w64, k6, k7, k8]
      exact ih
    · rw [if_neg h0]
      simp (disch := omega) only [go_sem, and_self, and_true, true_and, false_and, and_false, Nat.reduceAdd, Nat.reduceMul, Nat.reduceSub, Nat.reduceLeDiff, Nat.reduceLT, Nat.reduceGT, Nat.reduceEqDiff, Nat.reduceBEq, Int.reduceNeg, Int.reduceEq, Int.reduceLT, Int.reduceLE, Int.reduceBEq, Int.reduceToNat, Int.toNat_natCast, Int.natCast_zero, r25_C0, r25_K3, r25_K0, h1, i0, i1, i2, hfd, va, hct, hw, hwd, IH, w64, hgd, k5]
      exact ih
theorem rr_loop (fs : List Fn) (o : Int) (t : ByteArray) (p k c s : Int) (ns : List ByteArray) (xs : List Xp) (hfl : fs.length ≤ 1000) (hok : ∀ f ∈ fs, FnOk f) (hz : ∀ f ∈ fs, zeroX f.body) :
    ∀ (rest done pre : List Fn), fs = pre ++ rest → pre.length = done.length → RrLoop fs o t p k c s ns xs done rest
  | [], done, pre, h, hd => rr_nil fs o t p k c s ns xs done (by rw [h, ← hd]; simp)
  | f :: rest, done, pre, h, hd => by
    have hmx : maxLen = 9223372036854775807 := by decide
    have hf := hok f (by rw [h]; simp)
    refine rr_step fs o t p k c s ns xs done f rest (by rw [h, ← hd]; simp) (by rw [h, ← hd]; simp) hfl ?_ fun y => ?_
    · have h1 := hf.pre
      have h2 := hf.params
      exact rexpr_ok (fs.take (done.length + 1)) (by rw [List.length_take]; omega) _ f.body (Nat.le_refl _) (hz f (by rw [h]; simp)) f.params [] (by omega) (by simp; omega)
    · exact rr_loop fs o t p k c s ns xs hfl hok hz rest (done ++ [⟨f.name, f.params, y⟩]) (pre ++ [f]) (by rw [h]; simp) (by simp [hd])
def resP (fs : List Fn) (x : Xp) : Res (List Fn × Xp) := match resF fs 0 fs with
  | .lost e => .lost e
  | .ok gs => match resX fs [] [] x with
    | .lost e => .lost e
    | .ok y => .ok (gs, y)
def rrD : Res (List Fn × Xp) → List PV
  | .ok (gs, y) => [.d (progD gs y), .d (.str nilB), .d (.bool true)]
  | .lost e => [.d zpD, .d (.str e), .d (.bool false)]
set_option maxHeartbeats 4000000 in
theorem rres_ok (fs : List Fn) (x : Xp) (hfl : fs.length ≤ 1000) (hok : ∀ f ∈ fs, FnOk f) (hzf : ∀ f ∈ fs, zeroX f.body) (hz : zeroX x) (hl : x.pre.length ≤ 100000) (hp : List Ent) :
    F tab 25 [.d (progD fs x)] hp = some (.ret (.tup (rrD (resP fs x))) hp) := by
  have hmx : maxLen = 9223372036854775807 := by decide
  obtain ⟨o, t, p, k, c, s, ns, xs, e1, e2⟩ := prog_as fs x
  have hL := rr_loop fs o t p k c s ns xs hfl hok hzf fs [] [] rfl rfl
  have he := rexpr_ok fs (by omega) _ x (Nat.le_refl _) hz [] [] (by simp; omega) (by simp; omega)
  have hfd : (fnDs fs).length = fs.length := by rw [fnDs, List.length_map]
  unfold RrLoop at hL
  rw [List.length_nil, Int.natCast_zero] at hL
  unfold g9 z9 at hL
  rw [show rowG [] = .nilsl from rfl] at hL
  rw [e1] at he
  unfold arD at he
  rw [List.map_nil] at he
  rw [e2]
  unfold resP
  refine f25 rfl ?_
  simp (disch := omega) only [go_sem, and_self, and_true, true_and, false_and, and_false, Nat.reduceAdd, Nat.reduceMul, Nat.reduceSub, Nat.reduceLeDiff, Nat.reduceLT, Nat.reduceGT, Nat.reduceEqDiff, Nat.reduceBEq, Int.reduceNeg, Int.reduceEq, Int.reduceLT, Int.reduceLE, Int.reduceBEq, Int.reduceToNat, Int.toNat_natCast, Int.natCast_zero, r25_T]
  rw [r25_B0_n]
  erw [hL]
  cases hr : resF fs 0 fs with
  | lost e =>
    unfold RrAns w9 rrD zpD
    simp (disch := omega) only [go_sem, and_self, and_true, true_and, false_and, and_false, Nat.reduceAdd, Nat.reduceMul, Nat.reduceSub, Nat.reduceLeDiff, Nat.reduceLT, Nat.reduceGT, Nat.reduceEqDiff, Nat.reduceBEq, Int.reduceNeg, Int.reduceEq, Int.reduceLT, Int.reduceLE, Int.reduceBEq, Int.reduceToNat, Int.toNat_natCast, Int.natCast_zero, r25]
  | ok gs =>
    unfold RrAns g9 z9
    simp only [List.nil_append]
    cases hq : resX fs [] [] x with
    | lost e =>
      rw [hq] at he
      simp only [gotD] at he
      unfold rrD zpD
      simp (disch := omega) only [go_sem, and_self, and_true, true_and, false_and, and_false, Nat.reduceAdd, Nat.reduceMul, Nat.reduceSub, Nat.reduceLeDiff, Nat.reduceLT, Nat.reduceGT, Nat.reduceEqDiff, Nat.reduceBEq, Int.reduceNeg, Int.reduceEq, Int.reduceLT, Int.reduceLE, Int.reduceBEq, Int.reduceToNat, Int.toNat_natCast, Int.natCast_zero, r25, r25_K6, he]
    | ok y =>
      rw [hq] at he
      obtain ⟨oy, ty, py, ky, cy, sy, nsy, xsy, ey, e4⟩ := prog_as gs y
      simp only [gotD] at he
      rw [ey] at he
      simp only [D.cells, List.cons_append, List.nil_append] at he
      simp only [rrD]
      rw [e4]
      unfold nilB rowG
      by_cases h0 : gs.length = 0
      · have hd0 : fnDs gs = [] := by rw [List.eq_nil_of_length_eq_zero h0]; rfl
        rw [if_pos h0, hd0]
        simp (disch := omega) only [go_sem, and_self, and_true, true_and, false_and, and_false, Nat.reduceAdd, Nat.reduceMul, Nat.reduceSub, Nat.reduceLeDiff, Nat.reduceLT, Nat.reduceGT, Nat.reduceEqDiff, Nat.reduceBEq, Int.reduceNeg, Int.reduceEq, Int.reduceLT, Int.reduceLE, Int.reduceBEq, Int.reduceToNat, Int.toNat_natCast, Int.natCast_zero, r25, r25_K6, r25_K4, he]
      · rw [if_neg h0]
        simp (disch := omega) only [go_sem, and_self, and_true, true_and, false_and, and_false, Nat.reduceAdd, Nat.reduceMul, Nat.reduceSub, Nat.reduceLeDiff, Nat.reduceLT, Nat.reduceGT, Nat.reduceEqDiff, Nat.reduceBEq, Int.reduceNeg, Int.reduceEq, Int.reduceLT, Int.reduceLE, Int.reduceBEq, Int.reduceToNat, Int.toNat_natCast, Int.natCast_zero, r25, r25_K6, r25_K4, he]
end Go.Pe.T

namespace Go.Pe.T

def lowB (c : Int) : Bool := decide (c ≥ 97) && decide (c ≤ 122)
def upB (c : Int) : Bool := decide (c ≥ 65) && decide (c ≤ 90)
def digB (c : Int) : Bool := decide (c ≥ 48) && decide (c ≤ 57)
def letB (c : Int) : Bool := lowB c || (upB c || c == 95)

theorem letter_ok (c : Int) (hp : List Ent) : F tab 89 [.d (.int .u8 c)] hp = some (.ret (.d (.bool (letB c))) hp) := by
  refine f89 rfl ?_
  unfold letB lowB upB
  by_cases g1 : c ≥ 97 <;> by_cases g2 : c ≤ 122 <;> by_cases g3 : c ≥ 65 <;> by_cases g4 : c ≤ 90 <;>
    simp (disch := omega) only [go_sem, and_self, and_true, true_and, false_and, and_false, Nat.reduceAdd, Nat.reduceMul, Nat.reduceSub, Nat.reduceLeDiff, Nat.reduceLT, Nat.reduceGT, Nat.reduceEqDiff, Nat.reduceBEq, Int.reduceNeg, Int.reduceEq, Int.reduceLT, Int.reduceLE, Int.reduceBEq, Int.reduceToNat, Int.toNat_natCast, Int.natCast_zero, r89_T, r89, g1, g2, g3, g4, decide_true, decide_false, Bool.true_and, Bool.false_and, Bool.true_or, Bool.false_or, Bool.and_true, Bool.and_false]
theorem rletter_ok (c : Int) (hp : List Ent) : F tab 93 [.d (.int .u8 c)] hp = some (.ret (.d (.bool (letB c))) hp) := by
  refine f93 rfl ?_
  unfold letB lowB upB
  by_cases g1 : c ≥ 97 <;> by_cases g2 : c ≤ 122 <;> by_cases g3 : c ≥ 65 <;> by_cases g4 : c ≤ 90 <;>
    simp (disch := omega) only [go_sem, and_self, and_true, true_and, false_and, and_false, Nat.reduceAdd, Nat.reduceMul, Nat.reduceSub, Nat.reduceLeDiff, Nat.reduceLT, Nat.reduceGT, Nat.reduceEqDiff, Nat.reduceBEq, Int.reduceNeg, Int.reduceEq, Int.reduceLT, Int.reduceLE, Int.reduceBEq, Int.reduceToNat, Int.toNat_natCast, Int.natCast_zero, r93_T, r93, g1, g2, g3, g4, decide_true, decide_false, Bool.true_and, Bool.false_and, Bool.true_or, Bool.false_or, Bool.and_true, Bool.and_false]
theorem digit_ok (c : Int) (hp : List Ent) : F tab 90 [.d (.int .u8 c)] hp = some (.ret (.d (.bool (digB c))) hp) := by
  refine f90 rfl ?_
  unfold digB
  by_cases g1 : c ≥ 48 <;> by_cases g2 : c ≤ 57 <;>
    simp (disch := omega) only [go_sem, and_self, and_true, true_and, false_and, and_false, Nat.reduceAdd, Nat.reduceMul, Nat.reduceSub, Nat.reduceLeDiff, Nat.reduceLT, Nat.reduceGT, Nat.reduceEqDiff, Nat.reduceBEq, Int.reduceNeg, Int.reduceEq, Int.reduceLT, Int.reduceLE, Int.reduceBEq, Int.reduceToNat, Int.toNat_natCast, Int.natCast_zero, r90_T, r90, g1, g2, decide_true, decide_false, Bool.true_and, Bool.false_and]
theorem rdigit_ok (c : Int) (hp : List Ent) : F tab 94 [.d (.int .u8 c)] hp = some (.ret (.d (.bool (digB c))) hp) := by
  refine f94 rfl ?_
  unfold digB
  by_cases g1 : c ≥ 48 <;> by_cases g2 : c ≤ 57 <;>
    simp (disch := omega) only [go_sem, and_self, and_true, true_and, false_and, and_false, Nat.reduceAdd, Nat.reduceMul, Nat.reduceSub, Nat.reduceLeDiff, Nat.reduceLT, Nat.reduceGT, Nat.reduceEqDiff, Nat.reduceBEq, Int.reduceNeg, Int.reduceEq, Int.reduceLT, Int.reduceLE, Int.reduceBEq, Int.reduceToNat, Int.toNat_natCast, Int.natCast_zero, r94_T, r94, g1, g2, decide_true, decide_false, Bool.true_and, Bool.false_and]

def bs (s : ByteArray) : List UInt8 := s.data.toList
theorem bs_len (s : ByteArray) : (bs s).length = s.size := rfl
theorem bs_toList (s : ByteArray) : s.toList = bs s := ByteArray.toList_eq s
theorem bs_get {s : ByteArray} {i : Nat} (h : i < s.size) : s[i]? = some s[i] ∧ (bs s).drop i = s[i] :: (bs s).drop (i + 1) := by
  have e : s[i] = s.data.toList[i]'h := rfl
  refine ⟨getElem?_pos s i h, ?_⟩
  unfold bs
  rw [e]; exact List.drop_eq_getElem_cons h
theorem bs_end {s : ByteArray} {i : Nat} (h : s.size ≤ i) : (bs s).drop i = [] := List.drop_of_length_le h

def nmL : Nat → List UInt8 → Bool
  | _, [] => true
  | i, c :: r => (lowB c.toNat || (digB c.toNat && decide (i ≠ 0))) && nmL (i + 1) r
def nameB (s : ByteArray) : Bool := decide (s.size ≠ 0) && (decide (s.size ≤ 16) && nmL 0 (bs s))

def NmLoop (s : ByteArray) (i : Nat) : Prop :=
  V (F tab) r111_B0 (r111_S0 (.d (.str s)) (.d (iv s.size)) (.d (iv i)) []) = if nmL i ((bs s).drop i) then some (.norm, r111_E0 []) else some (.ret, r111_R (.d (.bool false)) [])
theorem nm_end (s : ByteArray) (i : Nat) (hi : s.size ≤ i) : NmLoop s i := by
  have h1 : ((i : Int) < (s.size : Int)) = False := eq_false (by omega)
  unfold NmLoop
  rw [r111_B0_eq, bs_end hi]
  simp (disch := omega) only [go_sem, and_self, and_true, true_and, false_and, and_false, Nat.reduceAdd, Nat.reduceMul, Nat.reduceSub, Nat.reduceLeDiff, Nat.reduceLT, Nat.reduceGT, Nat.reduceEqDiff, Nat.reduceBEq, Int.reduceNeg, Int.reduceEq, Int.reduceLT, Int.reduceLE, Int.reduceBEq, Int.reduceToNat, Int.toNat_natCast, Int.natCast_zero, r111_C0, h1, nmL]
theorem nm_step (s : ByteArray) (hs : s.size ≤ maxLen) (i : Nat) (hi : i < s.size) (ih : NmLoop s (i + 1)) : NmLoop s i := by
  have hmx : maxLen = 9223372036854775807 := by decide
  have h1 : ((i : Int) < (s.size : Int)) = True := eq_true (by omega)
  have hi0 : (0 ≤ (i : Int)) = True := eq_true (by omega)
  obtain ⟨va, vd⟩ := bs_get hi
  unfold NmLoop at ih ⊢
  rw [Int.natCast_add, Int.natCast_one] at ih
  rw [r111_B0_eq, vd]
  simp only [nmL, lowB, digB]
  have e0 : ((i : Int) == 0) = !decide (i ≠ 0) := by by_cases h : i = 0 <;> simp [h]
  by_cases g1 : ((s[i].toNat : Nat) : Int) ≥ 97 <;> by_cases g2 : ((s[i].toNat : Nat) : Int) ≤ 122 <;> by_cases g3 : ((s[i].toNat : Nat) : Int) ≥ 48 <;> by_cases g4 : ((s[i].toNat : Nat) : Int) ≤ 57 <;>
    first
    | (exfalso; omega)
    | (rcases Bool.eq_false_or_eq_true (decide (i ≠ 0)) with g5 | g5 <;>
        simp (disch := omega) only [go_sem, and_self, and_true, true_and, false_and, and_false, Nat.reduceAdd, Nat.reduceMul, Nat.reduceSub, Nat.reduceLeDiff, Nat.reduceLT, Nat.reduceGT, Nat.reduceEqDiff, Nat.reduceBEq, Int.reduceNeg, Int.reduceEq, Int.reduceLT, Int.reduceLE, Int.reduceBEq, Int.reduceToNat, Int.toNat_natCast, Int.natCast_zero, r111_C0, h1, hi0, va, e0, w64, g1, g2, g3, g4, g5, decide_true, decide_false, Bool.true_and, Bool.false_and, Bool.true_or, Bool.false_or, Bool.and_true, Bool.and_false, Bool.not_true, Bool.not_false] <;> exact ih)
theorem nm_loop (s : ByteArray) (hs : s.size ≤ maxLen) : ∀ (j i : Nat), i + j = s.size → NmLoop s i
  | 0, i, hi => nm_end s i (by omega)
  | j + 1, i, hi => nm_step s hs i (by omega) (nm_loop s hs j (i + 1) (by omega))
theorem isE (s : ByteArray) : (s.toList == (⟨#[]⟩ : ByteArray).toList) = !decide (s.size ≠ 0) := by
  have e0 : bs (⟨#[]⟩ : ByteArray) = [] := rfl
  rw [bs_toList, bs_toList, e0]
  have h := bs_len s
  cases hb : bs s with
  | nil => rw [hb] at h; simp only [List.length_nil] at h; simp [← h]
  | cons a l => rw [hb] at h; simp only [List.length_cons] at h; simp [← h]
theorem name_ok (s : ByteArray) (hs : s.size ≤ maxLen) (hp : List Ent) : F tab 111 [.d (.str s)] hp = some (.ret (.d (.bool (nameB s))) hp) := by
  have hL := nm_loop s hs s.size 0 (by omega)
  unfold NmLoop at hL
  rw [List.drop_zero] at hL
  have e := isE s
  have e2 : decide ((s.size : Int) > 16) = !decide (s.size ≤ 16) := by by_cases h : s.size ≤ 16 <;> simp [h] <;> omega
  refine f111 rfl ?_
  unfold nameB
  rcases Bool.eq_false_or_eq_true (decide (s.size ≠ 0)) with g1 | g1
  · rcases Bool.eq_false_or_eq_true (decide (s.size ≤ 16)) with g2 | g2
    · simp (disch := omega) only [go_sem, and_self, and_true, true_and, false_and, and_false, Nat.reduceAdd, Nat.reduceMul, Nat.reduceSub, Nat.reduceLeDiff, Nat.reduceLT, Nat.reduceGT, Nat.reduceEqDiff, Nat.reduceBEq, Int.reduceNeg, Int.reduceEq, Int.reduceLT, Int.reduceLE, Int.reduceBEq, Int.reduceToNat, Int.toNat_natCast, Int.natCast_zero, r111_T, r111, strD_eql, e, e2, g1, g2, Bool.not_true, Bool.not_false, Bool.true_and]
      rw [r111_B0_n]
      erw [hL]
      rcases Bool.eq_false_or_eq_true (nmL 0 (bs s)) with g | g <;> rw [g] <;> simp only [go_sem, and_self, and_true, true_and, false_and, and_false, Nat.reduceAdd, Nat.reduceMul, Nat.reduceSub, Nat.reduceLeDiff, Nat.reduceLT, Nat.reduceGT, Nat.reduceEqDiff, Nat.reduceBEq, Int.reduceNeg, Int.reduceEq, Int.reduceLT, Int.reduceLE, Int.reduceBEq, Int.reduceToNat, Int.toNat_natCast, Int.natCast_zero]
    · simp (disch := omega) only [go_sem, and_self, and_true, true_and, false_and, and_false, Nat.reduceAdd, Nat.reduceMul, Nat.reduceSub, Nat.reduceLeDiff, Nat.reduceLT, Nat.reduceGT, Nat.reduceEqDiff, Nat.reduceBEq, Int.reduceNeg, Int.reduceEq, Int.reduceLT, Int.reduceLE, Int.reduceBEq, Int.reduceToNat, Int.toNat_natCast, Int.natCast_zero, r111_T, r111, strD_eql, e, e2, g1, g2, Bool.not_true, Bool.not_false, Bool.true_and, Bool.false_and]
  · simp (disch := omega) only [go_sem, and_self, and_true, true_and, false_and, and_false, Nat.reduceAdd, Nat.reduceMul, Nat.reduceSub, Nat.reduceLeDiff, Nat.reduceLT, Nat.reduceGT, Nat.reduceEqDiff, Nat.reduceBEq, Int.reduceNeg, Int.reduceEq, Int.reduceLT, Int.reduceLE, Int.reduceBEq, Int.reduceToNat, Int.toNat_natCast, Int.natCast_zero, r111_T, r111, strD_eql, e, e2, g1, Bool.not_true, Bool.not_false, Bool.true_and, Bool.false_and]
end Go.Pe.T

namespace Go.Pe.T

def nb (l : List UInt8) (i : Nat) : Int := ((l.getD i 0).toNat : Int)
def contB (c : Int) : Bool := !decide (c < 128) && !decide (c > 191)
def conts : List UInt8 → Nat → Bool
  | _, 0 => true
  | [], _ + 1 => false
  | c :: r, k + 1 => contB c.toNat && conts r k
def tailL (l : List UInt8) (n : Nat) (lo hi : Int) : Bool := !decide (l.length ≤ n) && ((!decide (nb l 1 < lo) && !decide (nb l 1 > hi)) && conts (l.drop 2) (n - 1))
def sizeL (l : List UInt8) : Nat :=
  if nb l 0 < 128 then 1
  else if (decide (nb l 0 ≥ 194) && decide (nb l 0 ≤ 223)) && tailL l 1 128 191 then 2
  else if (nb l 0 == 224 && tailL l 2 160 191) || (((decide (nb l 0 ≥ 225) && decide (nb l 0 ≤ 239)) && nb l 0 != 237) && tailL l 2 128 191 || nb l 0 == 237 && tailL l 2 128 159) then 3
  else if (nb l 0 == 240 && tailL l 3 144 191) || ((decide (nb l 0 ≥ 241) && decide (nb l 0 ≤ 243)) && tailL l 3 128 191 || nb l 0 == 244 && tailL l 3 128 143) then 4
  else 0
def validF : Nat → List UInt8 → Bool
  | _, [] => true
  | 0, _ :: _ => false
  | k + 1, c :: r => if sizeL (c :: r) = 0 then false else validF k ((c :: r).drop (sizeL (c :: r)))
def validB (s : ByteArray) : Bool := validF s.size (bs s)

theorem tail_len {l : List UInt8} {n : Nat} {lo hi : Int} (h : tailL l n lo hi = true) : n < l.length := by
  simp only [tailL, Bool.and_eq_true, Bool.not_eq_true', decide_eq_false_iff_not] at h
  omega
theorem sizeL_le (l : List UInt8) (hl : l ≠ []) : sizeL l ≤ l.length := by
  have h0 : 0 < l.length := List.length_pos_iff.2 hl
  unfold sizeL
  split
  · omega
  · split
    · rename_i h; simp only [Bool.and_eq_true] at h; have := tail_len h.2; omega
    · split
      · rename_i h; simp only [Bool.or_eq_true, Bool.and_eq_true] at h
        rcases h with h | h | h <;> (have := tail_len h.2; omega)
      · split
        · rename_i h; simp only [Bool.or_eq_true, Bool.and_eq_true] at h
          rcases h with h | h | h <;> (have := tail_len h.2; omega)
        · omega

theorem bs_nb {s : ByteArray} {i : Nat} (h : i < s.size) : ((s[i].toNat : Nat) : Int) = nb (bs s) i := by
  have e : s[i] = s.data.toList[i]'h := rfl
  simp only [nb, bs, List.getD_eq_getElem?_getD, List.getElem?_eq_getElem (show i < s.data.toList.length from h), Option.getD_some, e]

def TlLoop (s : ByteArray) (n i : Nat) : Prop :=
  V (F tab) r125_B0 (r125_S0 (.d (.str s)) (.d (iv n)) (.d (iv i)) []) = if conts ((bs s).drop i) (n + 1 - i) then some (.norm, r125_E0 []) else some (.ret, r125_R (.d (.bool false)) [])
theorem tl_end (s : ByteArray) (n i : Nat) (hi : n < i) : TlLoop s n i := by
  have h1 : ((i : Int) ≤ (n : Int)) = False := eq_false (by omega)
  unfold TlLoop
  rw [r125_B0_eq, show n + 1 - i = 0 by omega]
  simp (disch := omega) only [go_sem, and_self, and_true, true_and, false_and, and_false, Nat.reduceAdd, Nat.reduceMul, Nat.reduceSub, Nat.reduceLeDiff, Nat.reduceLT, Nat.reduceGT, Nat.reduceEqDiff, Nat.reduceBEq, Int.reduceNeg, Int.reduceEq, Int.reduceLT, Int.reduceLE, Int.reduceBEq, Int.reduceToNat, Int.toNat_natCast, Int.natCast_zero, r125_C0, h1, conts]
theorem tl_step (s : ByteArray) (n i : Nat) (hn : n < s.size) (h4 : n ≤ 4) (hi : i ≤ n) (ih : TlLoop s n (i + 1)) : TlLoop s n i := by
  have h1 : ((i : Int) ≤ (n : Int)) = True := eq_true (by omega)
  have hi0 : (0 ≤ (i : Int)) = True := eq_true (by omega)
  obtain ⟨va, vd⟩ := bs_get (show i < s.size by omega)
  unfold TlLoop at ih ⊢
  rw [Int.natCast_add, Int.natCast_one] at ih
  rw [r125_B0_eq, vd, show n + 1 - i = (n - i) + 1 by omega]
  rw [show n + 1 - (i + 1) = n - i by omega] at ih
  simp only [conts, contB]
  by_cases g1 : ((s[i].toNat : Nat) : Int) < 128
  · simp (disch := omega) only [go_sem, and_self, and_true, true_and, false_and, and_false, Nat.reduceAdd, Nat.reduceMul, Nat.reduceSub, Nat.reduceLeDiff, Nat.reduceLT, Nat.reduceGT, Nat.reduceEqDiff, Nat.reduceBEq, Int.reduceNeg, Int.reduceEq, Int.reduceLT, Int.reduceLE, Int.reduceBEq, Int.reduceToNat, Int.toNat_natCast, Int.natCast_zero, r125_C0, h1, hi0, va, w64, g1, decide_true, Bool.not_true, Bool.false_and]
  · by_cases g2 : ((s[i].toNat : Nat) : Int) > 191
    · simp (disch := omega) only [go_sem, and_self, and_true, true_and, false_and, and_false, Nat.reduceAdd, Nat.reduceMul, Nat.reduceSub, Nat.reduceLeDiff, Nat.reduceLT, Nat.reduceGT, Nat.reduceEqDiff, Nat.reduceBEq, Int.reduceNeg, Int.reduceEq, Int.reduceLT, Int.reduceLE, Int.reduceBEq, Int.reduceToNat, Int.toNat_natCast, Int.natCast_zero, r125_C0, h1, hi0, va, w64, g1, g2, decide_true, decide_false, Bool.not_true, Bool.not_false, Bool.false_and, Bool.true_and]
    · simp (disch := omega) only [go_sem, and_self, and_true, true_and, false_and, and_false, Nat.reduceAdd, Nat.reduceMul, Nat.reduceSub, Nat.reduceLeDiff, Nat.reduceLT, Nat.reduceGT, Nat.reduceEqDiff, Nat.reduceBEq, Int.reduceNeg, Int.reduceEq, Int.reduceLT, Int.reduceLE, Int.reduceBEq, Int.reduceToNat, Int.toNat_natCast, Int.natCast_zero, r125_C0, h1, hi0, va, w64, g1, g2, decide_true, decide_false, Bool.not_true, Bool.not_false, Bool.false_and, Bool.true_and]
      exact ih
theorem tl_loop (s : ByteArray) (n : Nat) (hn : n < s.size) (h4 : n ≤ 4) : ∀ (j i : Nat), i + j = n + 1 → TlLoop s n i
  | 0, i, hi => tl_end s n i (by omega)
  | j + 1, i, hi => tl_step s n i hn h4 (by omega) (tl_loop s n hn h4 j (i + 1) (by omega))
theorem tail_ok (s : ByteArray) (n : Nat) (lo hi : Int) (h1 : 1 ≤ n) (h4 : n ≤ 4) (hp : List Ent) : F tab 125 [.d (.str s), .d (iv n), .d (.int .u8 lo), .d (.int .u8 hi)] hp = some (.ret (.d (.bool (tailL (bs s) n lo hi))) hp) := by
  refine f125 rfl ?_
  unfold tailL
  rw [bs_len]
  by_cases g : s.size ≤ n
  · have g' : ((s.size : Int) ≤ (n : Int)) = True := eq_true (by omega)
    simp (disch := omega) only [go_sem, and_self, and_true, true_and, false_and, and_false, Nat.reduceAdd, Nat.reduceMul, Nat.reduceSub, Nat.reduceLeDiff, Nat.reduceLT, Nat.reduceGT, Nat.reduceEqDiff, Nat.reduceBEq, Int.reduceNeg, Int.reduceEq, Int.reduceLT, Int.reduceLE, Int.reduceBEq, Int.reduceToNat, Int.toNat_natCast, Int.natCast_zero, r125_T, r125, g, g', decide_true, Bool.not_true, Bool.false_and]
  · have g' : ((s.size : Int) ≤ (n : Int)) = False := eq_false (by omega)
    have hL := tl_loop s n (by omega) h4 (n - 1) 2 (by omega)
    unfold TlLoop at hL
    rw [show n + 1 - 2 = n - 1 by omega] at hL
    have hlt : 1 < s.size := by omega
    obtain ⟨va, vd⟩ := bs_get hlt
    have e := bs_nb hlt
    rw [← e]
    by_cases g1 : ((s[1].toNat : Nat) : Int) < lo
    · simp (disch := omega) only [go_sem, and_self, and_true, true_and, false_and, and_false, Nat.reduceAdd, Nat.reduceMul, Nat.reduceSub, Nat.reduceLeDiff, Nat.reduceLT, Nat.reduceGT, Nat.reduceEqDiff, Nat.reduceBEq, Int.reduceNeg, Int.reduceEq, Int.reduceLT, Int.reduceLE, Int.reduceBEq, Int.reduceToNat, Int.toNat_natCast, Int.natCast_zero, r125_T, r125, g, g', va, g1, decide_true, decide_false, Bool.not_true, Bool.not_false, Bool.false_and, Bool.true_and]
    · by_cases g2 : ((s[1].toNat : Nat) : Int) > hi
      · simp (disch := omega) only [go_sem, and_self, and_true, true_and, false_and, and_false, Nat.reduceAdd, Nat.reduceMul, Nat.reduceSub, Nat.reduceLeDiff, Nat.reduceLT, Nat.reduceGT, Nat.reduceEqDiff, Nat.reduceBEq, Int.reduceNeg, Int.reduceEq, Int.reduceLT, Int.reduceLE, Int.reduceBEq, Int.reduceToNat, Int.toNat_natCast, Int.natCast_zero, r125_T, r125, g, g', va, g1, g2, decide_true, decide_false, Bool.not_true, Bool.not_false, Bool.false_and, Bool.true_and]
      · simp (disch := omega) only [go_sem, and_self, and_true, true_and, false_and, and_false, Nat.reduceAdd, Nat.reduceMul, Nat.reduceSub, Nat.reduceLeDiff, Nat.reduceLT, Nat.reduceGT, Nat.reduceEqDiff, Nat.reduceBEq, Int.reduceNeg, Int.reduceEq, Int.reduceLT, Int.reduceLE, Int.reduceBEq, Int.reduceToNat, Int.toNat_natCast, Int.natCast_zero, r125_T, r125, g, g', va, g1, g2, decide_true, decide_false, Bool.not_true, Bool.not_false, Bool.false_and, Bool.true_and]
        rw [r125_B0_n]
        erw [hL]
        rcases Bool.eq_false_or_eq_true (conts ((bs s).drop 2) (n - 1)) with g3 | g3 <;> rw [g3] <;> simp only [go_sem, and_self, and_true, true_and, false_and, and_false, Nat.reduceAdd, Nat.reduceMul, Nat.reduceSub, Nat.reduceLeDiff, Nat.reduceLT, Nat.reduceGT, Nat.reduceEqDiff, Nat.reduceBEq, Int.reduceNeg, Int.reduceEq, Int.reduceLT, Int.reduceLE, Int.reduceBEq, Int.reduceToNat, Int.toNat_natCast, Int.natCast_zero]

theorem size_0 (s : ByteArray) (c : Int) (h0 : 0 < s.size) (hc : ((s[0].toNat : Nat) : Int) = c) (g1 : c ≥ 0) (g2 : c ≤ 127) (hp : List Ent) : F tab 119 [.d (.str s)] hp = some (.ret (.d (iv (sizeL (bs s)))) hp) := by
  obtain ⟨va, vd⟩ := bs_get h0
  have e := bs_nb h0
  rw [hc] at e
  have xa : (c < 128) = True := eq_true (by omega)
  have xb : (c ≥ 194) = False := eq_false (by omega)
  have xd : (c ≤ 223) = True := eq_true (by omega)
  have xe : (c == 224) = false := by simp <;> omega
  have xf : (c ≥ 225) = False := eq_false (by omega)
  have xh : (c ≤ 239) = True := eq_true (by omega)
  have xi : (c != 237) = true := by simp <;> omega
  have xj : (c == 237) = false := by simp <;> omega
  have xk : (c == 240) = false := by simp <;> omega
  have xl : (c ≥ 241) = False := eq_false (by omega)
  have xm : (c ≤ 243) = True := eq_true (by omega)
  have xn : (c == 244) = false := by simp <;> omega
  refine f119 rfl ?_
  unfold sizeL
  rw [← e]
  simp (disch := omega) only [go_sem, and_self, and_true, true_and, false_and, and_false, Nat.reduceAdd, Nat.reduceMul, Nat.reduceSub, Nat.reduceLeDiff, Nat.reduceLT, Nat.reduceGT, Nat.reduceEqDiff, Nat.reduceBEq, Int.reduceNeg, Int.reduceEq, Int.reduceLT, Int.reduceLE, Int.reduceBEq, Int.reduceToNat, Int.toNat_natCast, Int.natCast_zero, r119_T, r119, va, hc, xa, xb, xd, xe, xf, xh, xi, xj, xk, xl, xm, xn, decide_true, decide_false, Bool.true_and, Bool.false_and, Bool.true_or, Bool.false_or, Bool.and_false, Bool.and_true, Int.natCast_one]
  try rfl

theorem size_1 (s : ByteArray) (c : Int) (h0 : 0 < s.size) (hc : ((s[0].toNat : Nat) : Int) = c) (g1 : c ≥ 128) (g2 : c ≤ 193) (hp : List Ent) : F tab 119 [.d (.str s)] hp = some (.ret (.d (iv (sizeL (bs s)))) hp) := by
  obtain ⟨va, vd⟩ := bs_get h0
  have e := bs_nb h0
  rw [hc] at e
  have xa : (c < 128) = False := eq_false (by omega)
  have xb : (c ≥ 194) = False := eq_false (by omega)
  have xd : (c ≤ 223) = True := eq_true (by omega)
  have xe : (c == 224) = false := by simp <;> omega
  have xf : (c ≥ 225) = False := eq_false (by omega)
  have xh : (c ≤ 239) = True := eq_true (by omega)
  have xi : (c != 237) = true := by simp <;> omega
  have xj : (c == 237) = false := by simp <;> omega
  have xk : (c == 240) = false := by simp <;> omega
  have xl : (c ≥ 241) = False := eq_false (by omega)
  have xm : (c ≤ 243) = True := eq_true (by omega)
  have xn : (c == 244) = false := by simp <;> omega
  refine f119 rfl ?_
  unfold sizeL
  rw [← e]
  simp (disch := omega) only [go_sem, and_self, and_true, true_and, false_and, and_false, Nat.reduceAdd, Nat.reduceMul, Nat.reduceSub, Nat.reduceLeDiff, Nat.reduceLT, Nat.reduceGT, Nat.reduceEqDiff, Nat.reduceBEq, Int.reduceNeg, Int.reduceEq, Int.reduceLT, Int.reduceLE, Int.reduceBEq, Int.reduceToNat, Int.toNat_natCast, Int.natCast_zero, r119_T, r119, va, hc, xa, xb, xd, xe, xf, xh, xi, xj, xk, xl, xm, xn, decide_true, decide_false, Bool.true_and, Bool.false_and, Bool.true_or, Bool.false_or, Bool.and_false, Bool.and_true, Int.natCast_one]
  try rfl

theorem size_2 (s : ByteArray) (c : Int) (h0 : 0 < s.size) (hc : ((s[0].toNat : Nat) : Int) = c) (g1 : c ≥ 194) (g2 : c ≤ 223) (hp : List Ent) : F tab 119 [.d (.str s)] hp = some (.ret (.d (iv (sizeL (bs s)))) hp) := by
  obtain ⟨va, vd⟩ := bs_get h0
  have e := bs_nb h0
  rw [hc] at e
  have xa : (c < 128) = False := eq_false (by omega)
  have xb : (c ≥ 194) = True := eq_true (by omega)
  have xd : (c ≤ 223) = True := eq_true (by omega)
  have xe : (c == 224) = false := by simp <;> omega
  have xf : (c ≥ 225) = False := eq_false (by omega)
  have xh : (c ≤ 239) = True := eq_true (by omega)
  have xi : (c != 237) = true := by simp <;> omega
  have xj : (c == 237) = false := by simp <;> omega
  have xk : (c == 240) = false := by simp <;> omega
  have xl : (c ≥ 241) = False := eq_false (by omega)
  have xm : (c ≤ 243) = True := eq_true (by omega)
  have xn : (c == 244) = false := by simp <;> omega
  have ht : ∀ hp, F tab 125 [.d (.str s), .d (iv 1), .d (.int .u8 128), .d (.int .u8 191)] hp = _ := tail_ok s 1 128 191 (by omega) (by omega)
  refine f119 rfl ?_
  unfold sizeL
  rw [← e]
  rcases Bool.eq_false_or_eq_true (tailL (bs s) 1 128 191) with g | g <;> rw [g] at ht <;>
    simp (disch := omega) only [go_sem, and_self, and_true, true_and, false_and, and_false, Nat.reduceAdd, Nat.reduceMul, Nat.reduceSub, Nat.reduceLeDiff, Nat.reduceLT, Nat.reduceGT, Nat.reduceEqDiff, Nat.reduceBEq, Int.reduceNeg, Int.reduceEq, Int.reduceLT, Int.reduceLE, Int.reduceBEq, Int.reduceToNat, Int.toNat_natCast, Int.natCast_zero, r119_T, r119, va, hc, xa, xb, xd, xe, xf, xh, xi, xj, xk, xl, xm, xn, ht, g, decide_true, decide_false, Bool.true_and, Bool.false_and, Bool.true_or, Bool.false_or, Bool.and_false, Bool.and_true, Int.natCast_one] <;> rfl

theorem size_3 (s : ByteArray) (c : Int) (h0 : 0 < s.size) (hc : ((s[0].toNat : Nat) : Int) = c) (g1 : c ≥ 224) (g2 : c ≤ 224) (hp : List Ent) : F tab 119 [.d (.str s)] hp = some (.ret (.d (iv (sizeL (bs s)))) hp) := by
  obtain ⟨va, vd⟩ := bs_get h0
  have e := bs_nb h0
  rw [hc] at e
  have xa : (c < 128) = False := eq_false (by omega)
  have xb : (c ≥ 194) = True := eq_true (by omega)
  have xd : (c ≤ 223) = False := eq_false (by omega)
  have xe : (c == 224) = true := by simp <;> omega
  have xf : (c ≥ 225) = False := eq_false (by omega)
  have xh : (c ≤ 239) = True := eq_true (by omega)
  have xi : (c != 237) = true := by simp <;> omega
  have xj : (c == 237) = false := by simp <;> omega
  have xk : (c == 240) = false := by simp <;> omega
  have xl : (c ≥ 241) = False := eq_false (by omega)
  have xm : (c ≤ 243) = True := eq_true (by omega)
  have xn : (c == 244) = false := by simp <;> omega
  have ht : ∀ hp, F tab 125 [.d (.str s), .d (iv 2), .d (.int .u8 160), .d (.int .u8 191)] hp = _ := tail_ok s 2 160 191 (by omega) (by omega)
  refine f119 rfl ?_
  unfold sizeL
  rw [← e]
  rcases Bool.eq_false_or_eq_true (tailL (bs s) 2 160 191) with g | g <;> rw [g] at ht <;>
    simp (disch := omega) only [go_sem, and_self, and_true, true_and, false_and, and_false, Nat.reduceAdd, Nat.reduceMul, Nat.reduceSub, Nat.reduceLeDiff, Nat.reduceLT, Nat.reduceGT, Nat.reduceEqDiff, Nat.reduceBEq, Int.reduceNeg, Int.reduceEq, Int.reduceLT, Int.reduceLE, Int.reduceBEq, Int.reduceToNat, Int.toNat_natCast, Int.natCast_zero, r119_T, r119, va, hc, xa, xb, xd, xe, xf, xh, xi, xj, xk, xl, xm, xn, ht, g, decide_true, decide_false, Bool.true_and, Bool.false_and, Bool.true_or, Bool.false_or, Bool.and_false, Bool.and_true, Int.natCast_one] <;> rfl

theorem size_4 (s : ByteArray) (c : Int) (h0 : 0 < s.size) (hc : ((s[0].toNat : Nat) : Int) = c) (g1 : c ≥ 225) (g2 : c ≤ 236) (hp : List Ent) : F tab 119 [.d (.str s)] hp = some (.ret (.d (iv (sizeL (bs s)))) hp) := by
  obtain ⟨va, vd⟩ := bs_get h0
  have e := bs_nb h0
  rw [hc] at e
  have xa : (c < 128) = False := eq_false (by omega)
  have xb : (c ≥ 194) = True := eq_true (by omega)
  have xd : (c ≤ 223) = False := eq_false (by omega)
  have xe : (c == 224) = false := by simp <;> omega
  have xf : (c ≥ 225) = True := eq_true (by omega)
  have xh : (c ≤ 239) = True := eq_true (by omega)
  have xi : (c != 237) = true := by simp <;> omega
  have xj : (c == 237) = false := by simp <;> omega
  have xk : (c == 240) = false := by simp <;> omega
  have xl : (c ≥ 241) = False := eq_false (by omega)
  have xm : (c ≤ 243) = True := eq_true (by omega)
  have xn : (c == 244) = false := by simp <;> omega
  have ht : ∀ hp, F tab 125 [.d (.str s), .d (iv 2), .d (.int .u8 128), .d (.int .u8 191)] hp = _ := tail_ok s 2 128 191 (by omega) (by omega)
  refine f119 rfl ?_
  unfold sizeL
  rw [← e]
  rcases Bool.eq_false_or_eq_true (tailL (bs s) 2 128 191) with g | g <;> rw [g] at ht <;>
    simp (disch := omega) only [go_sem, and_self, and_true, true_and, false_and, and_false, Nat.reduceAdd, Nat.reduceMul, Nat.reduceSub, Nat.reduceLeDiff, Nat.reduceLT, Nat.reduceGT, Nat.reduceEqDiff, Nat.reduceBEq, Int.reduceNeg, Int.reduceEq, Int.reduceLT, Int.reduceLE, Int.reduceBEq, Int.reduceToNat, Int.toNat_natCast, Int.natCast_zero, r119_T, r119, va, hc, xa, xb, xd, xe, xf, xh, xi, xj, xk, xl, xm, xn, ht, g, decide_true, decide_false, Bool.true_and, Bool.false_and, Bool.true_or, Bool.false_or, Bool.and_false, Bool.and_true, Int.natCast_one] <;> rfl

theorem size_5 (s : ByteArray) (c : Int) (h0 : 0 < s.size) (hc : ((s[0].toNat : Nat) : Int) = c) (g1 : c ≥ 237) (g2 : c ≤ 237) (hp : List Ent) : F tab 119 [.d (.str s)] hp = some (.ret (.d (iv (sizeL (bs s)))) hp) := by
  obtain ⟨va, vd⟩ := bs_get h0
  have e := bs_nb h0
  rw [hc] at e
  have xa : (c < 128) = False := eq_false (by omega)
  have xb : (c ≥ 194) = True := eq_true (by omega)
  have xd : (c ≤ 223) = False := eq_false (by omega)
  have xe : (c == 224) = false := by simp <;> omega
  have xf : (c ≥ 225) = True := eq_true (by omega)
  have xh : (c ≤ 239) = True := eq_true (by omega)
  have xi : (c != 237) = false := by simp <;> omega
  have xj : (c == 237) = true := by simp <;> omega
  have xk : (c == 240) = false := by simp <;> omega
  have xl : (c ≥ 241) = False := eq_false (by omega)
  have xm : (c ≤ 243) = True := eq_true (by omega)
  have xn : (c == 244) = false := by simp <;> omega
  have ht : ∀ hp, F tab 125 [.d (.str s), .d (iv 2), .d (.int .u8 128), .d (.int .u8 159)] hp = _ := tail_ok s 2 128 159 (by omega) (by omega)
  refine f119 rfl ?_
  unfold sizeL
  rw [← e]
  rcases Bool.eq_false_or_eq_true (tailL (bs s) 2 128 159) with g | g <;> rw [g] at ht <;>
    simp (disch := omega) only [go_sem, and_self, and_true, true_and, false_and, and_false, Nat.reduceAdd, Nat.reduceMul, Nat.reduceSub, Nat.reduceLeDiff, Nat.reduceLT, Nat.reduceGT, Nat.reduceEqDiff, Nat.reduceBEq, Int.reduceNeg, Int.reduceEq, Int.reduceLT, Int.reduceLE, Int.reduceBEq, Int.reduceToNat, Int.toNat_natCast, Int.natCast_zero, r119_T, r119, va, hc, xa, xb, xd, xe, xf, xh, xi, xj, xk, xl, xm, xn, ht, g, decide_true, decide_false, Bool.true_and, Bool.false_and, Bool.true_or, Bool.false_or, Bool.and_false, Bool.and_true, Int.natCast_one] <;> rfl

theorem size_6 (s : ByteArray) (c : Int) (h0 : 0 < s.size) (hc : ((s[0].toNat : Nat) : Int) = c) (g1 : c ≥ 238) (g2 : c ≤ 239) (hp : List Ent) : F tab 119 [.d (.str s)] hp = some (.ret (.d (iv (sizeL (bs s)))) hp) := by
  obtain ⟨va, vd⟩ := bs_get h0
  have e := bs_nb h0
  rw [hc] at e
  have xa : (c < 128) = False := eq_false (by omega)
  have xb : (c ≥ 194) = True := eq_true (by omega)
  have xd : (c ≤ 223) = False := eq_false (by omega)
  have xe : (c == 224) = false := by simp <;> omega
  have xf : (c ≥ 225) = True := eq_true (by omega)
  have xh : (c ≤ 239) = True := eq_true (by omega)
  have xi : (c != 237) = true := by simp <;> omega
  have xj : (c == 237) = false := by simp <;> omega
  have xk : (c == 240) = false := by simp <;> omega
  have xl : (c ≥ 241) = False := eq_false (by omega)
  have xm : (c ≤ 243) = True := eq_true (by omega)
  have xn : (c == 244) = false := by simp <;> omega
  have ht : ∀ hp, F tab 125 [.d (.str s), .d (iv 2), .d (.int .u8 128), .d (.int .u8 191)] hp = _ := tail_ok s 2 128 191 (by omega) (by omega)
  refine f119 rfl ?_
  unfold sizeL
  rw [← e]
  rcases Bool.eq_false_or_eq_true (tailL (bs s) 2 128 191) with g | g <;> rw [g] at ht <;>
    simp (disch := omega) only [go_sem, and_self, and_true, true_and, false_and, and_false, Nat.reduceAdd, Nat.reduceMul, Nat.reduceSub, Nat.reduceLeDiff, Nat.reduceLT, Nat.reduceGT, Nat.reduceEqDiff, Nat.reduceBEq, Int.reduceNeg, Int.reduceEq, Int.reduceLT, Int.reduceLE, Int.reduceBEq, Int.reduceToNat, Int.toNat_natCast, Int.natCast_zero, r119_T, r119, va, hc, xa, xb, xd, xe, xf, xh, xi, xj, xk, xl, xm, xn, ht, g, decide_true, decide_false, Bool.true_and, Bool.false_and, Bool.true_or, Bool.false_or, Bool.and_false, Bool.and_true, Int.natCast_one] <;> rfl

theorem size_7 (s : ByteArray) (c : Int) (h0 : 0 < s.size) (hc : ((s[0].toNat : Nat) : Int) = c) (g1 : c ≥ 240) (g2 : c ≤ 240) (hp : List Ent) : F tab 119 [.d (.str s)] hp = some (.ret (.d (iv (sizeL (bs s)))) hp) := by
  obtain ⟨va, vd⟩ := bs_get h0
  have e := bs_nb h0
  rw [hc] at e
  have xa : (c < 128) = False := eq_false (by omega)
  have xb : (c ≥ 194) = True := eq_true (by omega)
  have xd : (c ≤ 223) = False := eq_false (by omega)
  have xe : (c == 224) = false := by simp <;> omega
  have xf : (c ≥ 225) = True := eq_true (by omega)
  have xh : (c ≤ 239) = False := eq_false (by omega)
  have xi : (c != 237) = true := by simp <;> omega
  have xj : (c == 237) = false := by simp <;> omega
  have xk : (c == 240) = true := by simp <;> omega
  have xl : (c ≥ 241) = False := eq_false (by omega)
  have xm : (c ≤ 243) = True := eq_true (by omega)
  have xn : (c == 244) = false := by simp <;> omega
  have ht : ∀ hp, F tab 125 [.d (.str s), .d (iv 3), .d (.int .u8 144), .d (.int .u8 191)] hp = _ := tail_ok s 3 144 191 (by omega) (by omega)
  refine f119 rfl ?_
  unfold sizeL
  rw [← e]
  rcases Bool.eq_false_or_eq_true (tailL (bs s) 3 144 191) with g | g <;> rw [g] at ht <;>
    simp (disch := omega) only [go_sem, and_self, and_true, true_and, false_and, and_false, Nat.reduceAdd, Nat.reduceMul, Nat.reduceSub, Nat.reduceLeDiff, Nat.reduceLT, Nat.reduceGT, Nat.reduceEqDiff, Nat.reduceBEq, Int.reduceNeg, Int.reduceEq, Int.reduceLT, Int.reduceLE, Int.reduceBEq, Int.reduceToNat, Int.toNat_natCast, Int.natCast_zero, r119_T, r119, va, hc, xa, xb, xd, xe, xf, xh, xi, xj, xk, xl, xm, xn, ht, g, decide_true, decide_false, Bool.true_and, Bool.false_and, Bool.true_or, Bool.false_or, Bool.and_false, Bool.and_true, Int.natCast_one] <;> rfl

theorem size_8 (s : ByteArray) (c : Int) (h0 : 0 < s.size) (hc : ((s[0].toNat : Nat) : Int) = c) (g1 : c ≥ 241) (g2 : c ≤ 243) (hp : List Ent) : F tab 119 [.d (.str s)] hp = some (.ret (.d (iv (sizeL (bs s)))) hp) := by
  obtain ⟨va, vd⟩ := bs_get h0
  have e := bs_nb h0
  rw [hc] at e
  have xa : (c < 128) = False := eq_false (by omega)
  have xb : (c ≥ 194) = True := eq_true (by omega)
  have xd : (c ≤ 223) = False := eq_false (by omega)
  have xe : (c == 224) = false := by simp <;> omega
  have xf : (c ≥ 225) = True := eq_true (by omega)
  have xh : (c ≤ 239) = False := eq_false (by omega)
  have xi : (c != 237) = true := by simp <;> omega
  have xj : (c == 237) = false := by simp <;> omega
  have xk : (c == 240) = false := by simp <;> omega
  have xl : (c ≥ 241) = True := eq_true (by omega)
  have xm : (c ≤ 243) = True := eq_true (by omega)
  have xn : (c == 244) = false := by simp <;> omega
  have ht : ∀ hp, F tab 125 [.d (.str s), .d (iv 3), .d (.int .u8 128), .d (.int .u8 191)] hp = _ := tail_ok s 3 128 191 (by omega) (by omega)
  refine f119 rfl ?_
  unfold sizeL
  rw [← e]
  rcases Bool.eq_false_or_eq_true (tailL (bs s) 3 128 191) with g | g <;> rw [g] at ht <;>
    simp (disch := omega) only [go_sem, and_self, and_true, true_and, false_and, and_false, Nat.reduceAdd, Nat.reduceMul, Nat.reduceSub, Nat.reduceLeDiff, Nat.reduceLT, Nat.reduceGT, Nat.reduceEqDiff, Nat.reduceBEq, Int.reduceNeg, Int.reduceEq, Int.reduceLT, Int.reduceLE, Int.reduceBEq, Int.reduceToNat, Int.toNat_natCast, Int.natCast_zero, r119_T, r119, va, hc, xa, xb, xd, xe, xf, xh, xi, xj, xk, xl, xm, xn, ht, g, decide_true, decide_false, Bool.true_and, Bool.false_and, Bool.true_or, Bool.false_or, Bool.and_false, Bool.and_true, Int.natCast_one] <;> rfl

theorem size_9 (s : ByteArray) (c : Int) (h0 : 0 < s.size) (hc : ((s[0].toNat : Nat) : Int) = c) (g1 : c ≥ 244) (g2 : c ≤ 244) (hp : List Ent) : F tab 119 [.d (.str s)] hp = some (.ret (.d (iv (sizeL (bs s)))) hp) := by
  obtain ⟨va, vd⟩ := bs_get h0
  have e := bs_nb h0
  rw [hc] at e
  have xa : (c < 128) = False := eq_false (by omega)
  have xb : (c ≥ 194) = True := eq_true (by omega)
  have xd : (c ≤ 223) = False := eq_false (by omega)
  have xe : (c == 224) = false := by simp <;> omega
  have xf : (c ≥ 225) = True := eq_true (by omega)
  have xh : (c ≤ 239) = False := eq_false (by omega)
  have xi : (c != 237) = true := by simp <;> omega
  have xj : (c == 237) = false := by simp <;> omega
  have xk : (c == 240) = false := by simp <;> omega
  have xl : (c ≥ 241) = True := eq_true (by omega)
  have xm : (c ≤ 243) = False := eq_false (by omega)
  have xn : (c == 244) = true := by simp <;> omega
  have ht : ∀ hp, F tab 125 [.d (.str s), .d (iv 3), .d (.int .u8 128), .d (.int .u8 143)] hp = _ := tail_ok s 3 128 143 (by omega) (by omega)
  refine f119 rfl ?_
  unfold sizeL
  rw [← e]
  rcases Bool.eq_false_or_eq_true (tailL (bs s) 3 128 143) with g | g <;> rw [g] at ht <;>
    simp (disch := omega) only [go_sem, and_self, and_true, true_and, false_and, and_false, Nat.reduceAdd, Nat.reduceMul, Nat.reduceSub, Nat.reduceLeDiff, Nat.reduceLT, Nat.reduceGT, Nat.reduceEqDiff, Nat.reduceBEq, Int.reduceNeg, Int.reduceEq, Int.reduceLT, Int.reduceLE, Int.reduceBEq, Int.reduceToNat, Int.toNat_natCast, Int.natCast_zero, r119_T, r119, va, hc, xa, xb, xd, xe, xf, xh, xi, xj, xk, xl, xm, xn, ht, g, decide_true, decide_false, Bool.true_and, Bool.false_and, Bool.true_or, Bool.false_or, Bool.and_false, Bool.and_true, Int.natCast_one] <;> rfl

theorem size_10 (s : ByteArray) (c : Int) (h0 : 0 < s.size) (hc : ((s[0].toNat : Nat) : Int) = c) (g1 : c ≥ 245) (g2 : c ≤ 255) (hp : List Ent) : F tab 119 [.d (.str s)] hp = some (.ret (.d (iv (sizeL (bs s)))) hp) := by
  obtain ⟨va, vd⟩ := bs_get h0
  have e := bs_nb h0
  rw [hc] at e
  have xa : (c < 128) = False := eq_false (by omega)
  have xb : (c ≥ 194) = True := eq_true (by omega)
  have xd : (c ≤ 223) = False := eq_false (by omega)
  have xe : (c == 224) = false := by simp <;> omega
  have xf : (c ≥ 225) = True := eq_true (by omega)
  have xh : (c ≤ 239) = False := eq_false (by omega)
  have xi : (c != 237) = true := by simp <;> omega
  have xj : (c == 237) = false := by simp <;> omega
  have xk : (c == 240) = false := by simp <;> omega
  have xl : (c ≥ 241) = True := eq_true (by omega)
  have xm : (c ≤ 243) = False := eq_false (by omega)
  have xn : (c == 244) = false := by simp <;> omega
  refine f119 rfl ?_
  unfold sizeL
  rw [← e]
  simp (disch := omega) only [go_sem, and_self, and_true, true_and, false_and, and_false, Nat.reduceAdd, Nat.reduceMul, Nat.reduceSub, Nat.reduceLeDiff, Nat.reduceLT, Nat.reduceGT, Nat.reduceEqDiff, Nat.reduceBEq, Int.reduceNeg, Int.reduceEq, Int.reduceLT, Int.reduceLE, Int.reduceBEq, Int.reduceToNat, Int.toNat_natCast, Int.natCast_zero, r119_T, r119, va, hc, xa, xb, xd, xe, xf, xh, xi, xj, xk, xl, xm, xn, decide_true, decide_false, Bool.true_and, Bool.false_and, Bool.true_or, Bool.false_or, Bool.and_false, Bool.and_true, Int.natCast_one]
  try rfl

theorem usize_ok (s : ByteArray) (h0 : 0 < s.size) (hp : List Ent) : F tab 119 [.d (.str s)] hp = some (.ret (.d (iv (sizeL (bs s)))) hp) := by
  have hb : s[0].toNat < 256 := UInt8.toNat_lt _
  by_cases c0 : ((s[0].toNat : Nat) : Int) ≤ 127
  · exact size_0 s _ h0 rfl (by omega) (by omega) hp
  by_cases c1 : ((s[0].toNat : Nat) : Int) ≤ 193
  · exact size_1 s _ h0 rfl (by omega) (by omega) hp
  by_cases c2 : ((s[0].toNat : Nat) : Int) ≤ 223
  · exact size_2 s _ h0 rfl (by omega) (by omega) hp
  by_cases c3 : ((s[0].toNat : Nat) : Int) ≤ 224
  · exact size_3 s _ h0 rfl (by omega) (by omega) hp
  by_cases c4 : ((s[0].toNat : Nat) : Int) ≤ 236
  · exact size_4 s _ h0 rfl (by omega) (by omega) hp
  by_cases c5 : ((s[0].toNat : Nat) : Int) ≤ 237
  · exact size_5 s _ h0 rfl (by omega) (by omega) hp
  by_cases c6 : ((s[0].toNat : Nat) : Int) ≤ 239
  · exact size_6 s _ h0 rfl (by omega) (by omega) hp
  by_cases c7 : ((s[0].toNat : Nat) : Int) ≤ 240
  · exact size_7 s _ h0 rfl (by omega) (by omega) hp
  by_cases c8 : ((s[0].toNat : Nat) : Int) ≤ 243
  · exact size_8 s _ h0 rfl (by omega) (by omega) hp
  by_cases c9 : ((s[0].toNat : Nat) : Int) ≤ 244
  · exact size_9 s _ h0 rfl (by omega) (by omega) hp
  exact size_10 s _ h0 rfl (by omega) (by omega) hp
end Go.Pe.T

namespace Go.Pe.T

abbrev numD (c s : Int) : D := .agg [iv c, iv s]

def numIs (c s : Int) : Bool := decide (0 ≤ s) && decide (s ≤ 9) && decide (-1000000000000000 < c) && decide (c < 1000000000000000) && (s == 0 || c.tmod 10 != 0)

theorem numIs_ok (c s : Int) (hp : List Ent) : F tab 113 [.d (numD c s)] hp = some (.ret (.d (.bool (numIs c s))) hp) := by
  refine f113 rfl ?_
  by_cases h1 : s < 0
  · have g1 : ¬ (0 ≤ s) := by omega
    simp only [go_sem, and_self, and_true, true_and, false_and, and_false, Nat.reduceAdd, Nat.reduceMul, Nat.reduceSub, Nat.reduceLeDiff, Nat.reduceLT, Nat.reduceGT, Nat.reduceEqDiff, Nat.reduceBEq, Int.reduceNeg, Int.reduceEq, Int.reduceLT, Int.reduceLE, Int.reduceBEq, Int.reduceToNat, Int.toNat_natCast, Int.natCast_zero, r113_T, r113, numIs, h1, g1]
  · have g1 : 0 ≤ s := by omega
    by_cases h2 : s > 9
    · have g2 : ¬ (s ≤ 9) := by omega
      simp only [go_sem, and_self, and_true, true_and, false_and, and_false, Nat.reduceAdd, Nat.reduceMul, Nat.reduceSub, Nat.reduceLeDiff, Nat.reduceLT, Nat.reduceGT, Nat.reduceEqDiff, Nat.reduceBEq, Int.reduceNeg, Int.reduceEq, Int.reduceLT, Int.reduceLE, Int.reduceBEq, Int.reduceToNat, Int.toNat_natCast, Int.natCast_zero, r113_T, r113, numIs, h1, g1, h2, g2]
    · have g2 : s ≤ 9 := by omega
      by_cases h3 : c ≤ -1000000000000000
      · have g3 : ¬ (-1000000000000000 < c) := by omega
        simp only [go_sem, and_self, and_true, true_and, false_and, and_false, Nat.reduceAdd, Nat.reduceMul, Nat.reduceSub, Nat.reduceLeDiff, Nat.reduceLT, Nat.reduceGT, Nat.reduceEqDiff, Nat.reduceBEq, Int.reduceNeg, Int.reduceEq, Int.reduceLT, Int.reduceLE, Int.reduceBEq, Int.reduceToNat, Int.toNat_natCast, Int.natCast_zero, r113_T, r113, numIs, h1, g1, h2, g2, h3, g3]
      · have g3 : -1000000000000000 < c := by omega
        by_cases h4 : c ≥ 1000000000000000
        · have g4 : ¬ (c < 1000000000000000) := by omega
          simp only [go_sem, and_self, and_true, true_and, false_and, and_false, Nat.reduceAdd, Nat.reduceMul, Nat.reduceSub, Nat.reduceLeDiff, Nat.reduceLT, Nat.reduceGT, Nat.reduceEqDiff, Nat.reduceBEq, Int.reduceNeg, Int.reduceEq, Int.reduceLT, Int.reduceLE, Int.reduceBEq, Int.reduceToNat, Int.toNat_natCast, Int.natCast_zero, r113_T, r113, numIs, h1, g1, h2, g2, h3, g3, h4, g4]
        · have g4 : c < 1000000000000000 := by omega
          by_cases h5 : s = 0
          · subst h5
            simp only [go_sem, and_self, and_true, true_and, false_and, and_false, Nat.reduceAdd, Nat.reduceMul, Nat.reduceSub, Nat.reduceLeDiff, Nat.reduceLT, Nat.reduceGT, Nat.reduceEqDiff, Nat.reduceBEq, Int.reduceNeg, Int.reduceEq, Int.reduceLT, Int.reduceLE, Int.reduceBEq, Int.reduceToNat, Int.toNat_natCast, Int.natCast_zero, r113_T, r113, numIs, h1, g1, h2, g2, h3, g3, h4, g4, Bool.true_or]
          · have g5 : (s == 0) = false := by simpa using h5
            simp only [go_sem, and_self, and_true, true_and, false_and, and_false, Nat.reduceAdd, Nat.reduceMul, Nat.reduceSub, Nat.reduceLeDiff, Nat.reduceLT, Nat.reduceGT, Nat.reduceEqDiff, Nat.reduceBEq, Int.reduceNeg, Int.reduceEq, Int.reduceLT, Int.reduceLE, Int.reduceBEq, Int.reduceToNat, Int.toNat_natCast, Int.natCast_zero, r113_T, r113, numIs, h1, g1, h2, g2, h3, g3, h4, g4, g5, Bool.false_or]

theorem num4Is_ok (c s : Int) (hp : List Ent) : F tab 67 [.d (numD c s)] hp = some (.ret (.d (.bool (numIs c s))) hp) := by
  refine f67 rfl ?_
  by_cases h1 : s < 0
  · have g1 : ¬ (0 ≤ s) := by omega
    simp only [go_sem, and_self, and_true, true_and, false_and, and_false, Nat.reduceAdd, Nat.reduceMul, Nat.reduceSub, Nat.reduceLeDiff, Nat.reduceLT, Nat.reduceGT, Nat.reduceEqDiff, Nat.reduceBEq, Int.reduceNeg, Int.reduceEq, Int.reduceLT, Int.reduceLE, Int.reduceBEq, Int.reduceToNat, Int.toNat_natCast, Int.natCast_zero, r67_T, r67, numIs, h1, g1]
  · have g1 : 0 ≤ s := by omega
    by_cases h2 : s > 9
    · have g2 : ¬ (s ≤ 9) := by omega
      simp only [go_sem, and_self, and_true, true_and, false_and, and_false, Nat.reduceAdd, Nat.reduceMul, Nat.reduceSub, Nat.reduceLeDiff, Nat.reduceLT, Nat.reduceGT, Nat.reduceEqDiff, Nat.reduceBEq, Int.reduceNeg, Int.reduceEq, Int.reduceLT, Int.reduceLE, Int.reduceBEq, Int.reduceToNat, Int.toNat_natCast, Int.natCast_zero, r67_T, r67, numIs, h1, g1, h2, g2]
    · have g2 : s ≤ 9 := by omega
      by_cases h3 : c ≤ -1000000000000000
      · have g3 : ¬ (-1000000000000000 < c) := by omega
        have g4 : c < 1000000000000000 := by omega
        have h4 : ¬ c ≥ 1000000000000000 := by omega
        simp only [go_sem, and_self, and_true, true_and, false_and, and_false, Nat.reduceAdd, Nat.reduceMul, Nat.reduceSub, Nat.reduceLeDiff, Nat.reduceLT, Nat.reduceGT, Nat.reduceEqDiff, Nat.reduceBEq, Int.reduceNeg, Int.reduceEq, Int.reduceLT, Int.reduceLE, Int.reduceBEq, Int.reduceToNat, Int.toNat_natCast, Int.natCast_zero, r67_T, r67, numIs, h1, g1, h2, g2, h3, g3, h4, g4]
      · have g3 : -1000000000000000 < c := by omega
        by_cases h4 : c ≥ 1000000000000000
        · have g4 : ¬ (c < 1000000000000000) := by omega
          simp only [go_sem, and_self, and_true, true_and, false_and, and_false, Nat.reduceAdd, Nat.reduceMul, Nat.reduceSub, Nat.reduceLeDiff, Nat.reduceLT, Nat.reduceGT, Nat.reduceEqDiff, Nat.reduceBEq, Int.reduceNeg, Int.reduceEq, Int.reduceLT, Int.reduceLE, Int.reduceBEq, Int.reduceToNat, Int.toNat_natCast, Int.natCast_zero, r67_T, r67, numIs, h1, g1, h2, g2, h3, g3, h4, g4]
        · have g4 : c < 1000000000000000 := by omega
          by_cases h5 : s = 0
          · subst h5
            simp only [go_sem, and_self, and_true, true_and, false_and, and_false, Nat.reduceAdd, Nat.reduceMul, Nat.reduceSub, Nat.reduceLeDiff, Nat.reduceLT, Nat.reduceGT, Nat.reduceEqDiff, Nat.reduceBEq, Int.reduceNeg, Int.reduceEq, Int.reduceLT, Int.reduceLE, Int.reduceBEq, Int.reduceToNat, Int.toNat_natCast, Int.natCast_zero, r67_T, r67, numIs, h1, g1, h2, g2, h3, g3, h4, g4, Bool.true_or]
          · have g5 : (s == 0) = false := by simpa using h5
            simp only [go_sem, and_self, and_true, true_and, false_and, and_false, Nat.reduceAdd, Nat.reduceMul, Nat.reduceSub, Nat.reduceLeDiff, Nat.reduceLT, Nat.reduceGT, Nat.reduceEqDiff, Nat.reduceBEq, Int.reduceNeg, Int.reduceEq, Int.reduceLT, Int.reduceLE, Int.reduceBEq, Int.reduceToNat, Int.toNat_natCast, Int.natCast_zero, r67_T, r67, numIs, h1, g1, h2, g2, h3, g3, h4, g4, g5, Bool.false_or]


theorem bs_drop (s : ByteArray) (k : Nat) : bs (s.extract k s.size) = (bs s).drop k := by
  simp [bs, ByteArray.data_extract]
  rw [List.take_of_length_le]
  simp
theorem size_drop (s : ByteArray) (k : Nat) : (s.extract k s.size).size = s.size - k := by
  rw [← bs_len, bs_drop, List.length_drop, bs_len]

def VdIs (k : Nat) (s : ByteArray) : Prop :=
  V (F tab) r107_B0 (r107_S0 (.d (.str s)) []) = if validF k (bs s) then some (.norm, r107_E0 []) else some (.ret, r107_R (.d (.bool false)) [])
theorem vd_end (k : Nat) (s : ByteArray) (h : s.size = 0) : VdIs k s := by
  have e := isE s
  have g : decide (s.size ≠ 0) = false := decide_eq_false (by omega)
  have hb : bs s = [] := List.eq_nil_of_length_eq_zero h
  unfold VdIs
  rw [r107_B0_eq, hb]
  cases k <;> simp (disch := omega) only [go_sem, and_self, and_true, true_and, false_and, and_false, Nat.reduceAdd, Nat.reduceMul, Nat.reduceSub, Nat.reduceLeDiff, Nat.reduceLT, Nat.reduceGT, Nat.reduceEqDiff, Nat.reduceBEq, Int.reduceNeg, Int.reduceEq, Int.reduceLT, Int.reduceLE, Int.reduceBEq, Int.reduceToNat, Int.toNat_natCast, Int.natCast_zero, r107_C0, strD_neq, e, g, Bool.not_true, Bool.not_false, validF]
theorem vd_step (k : Nat) (s : ByteArray) (h : 0 < s.size) (hs : s.size ≤ maxLen) (ih : 0 < sizeL (bs s) → VdIs k (s.extract (sizeL (bs s)) s.size)) : VdIs (k + 1) s := by
  have hmx : maxLen = 9223372036854775807 := by decide
  have e := isE s
  have g : decide (s.size ≠ 0) = true := decide_eq_true (by omega)
  have hz := usize_ok s h
  have hne : bs s ≠ [] := by
    intro e0
    have := bs_len s
    rw [e0, List.length_nil] at this
    omega
  have hle := sizeL_le (bs s) hne
  rw [bs_len] at hle
  unfold VdIs at ih ⊢
  rw [r107_B0_eq]
  obtain ⟨c, r, hcr⟩ : ∃ c r, bs s = c :: r := by cases hb : bs s with | nil => exact absurd hb hne | cons c r => exact ⟨c, r, rfl⟩
  by_cases h0 : sizeL (bs s) = 0
  · have g0 : validF (k + 1) (bs s) = false := by rw [hcr] at h0 ⊢; simp [validF, h0]
    have g1 : ((sizeL (bs s) : Int) == 0) = true := by simp [h0]
    rw [g0]
    simp (disch := omega) only [go_sem, and_self, and_true, true_and, false_and, and_false, Nat.reduceAdd, Nat.reduceMul, Nat.reduceSub, Nat.reduceLeDiff, Nat.reduceLT, Nat.reduceGT, Nat.reduceEqDiff, Nat.reduceBEq, Int.reduceNeg, Int.reduceEq, Int.reduceLT, Int.reduceLE, Int.reduceBEq, Int.reduceToNat, Int.toNat_natCast, Int.natCast_zero, r107_C0, strD_neq, e, g, Bool.not_true, Bool.not_false, hz, g1]
  · have g0 : validF (k + 1) (bs s) = validF k ((bs s).drop (sizeL (bs s))) := by rw [hcr] at h0 ⊢; simp [validF, h0]
    have g1 : ((sizeL (bs s) : Int) == 0) = false := by simp [h0]
    have ih := ih (by omega)
    rw [bs_drop] at ih
    have h1 : ((sizeL (bs s) : Int) ≤ (s.size : Int)) = True := eq_true (by omega)
    have h2 : (0 ≤ (sizeL (bs s) : Int)) = True := eq_true (by omega)
    have h3 : ((s.size : Int) ≤ (s.size : Int)) = True := eq_true (by omega)
    rw [g0]
    simp (disch := omega) only [go_sem, and_self, and_true, true_and, false_and, and_false, Nat.reduceAdd, Nat.reduceMul, Nat.reduceSub, Nat.reduceLeDiff, Nat.reduceLT, Nat.reduceGT, Nat.reduceEqDiff, Nat.reduceBEq, Int.reduceNeg, Int.reduceEq, Int.reduceLT, Int.reduceLE, Int.reduceBEq, Int.reduceToNat, Int.toNat_natCast, Int.natCast_zero, r107_C0, strD_neq, e, g, Bool.not_true, Bool.not_false, hz, g1, h1, h2, h3, decide_true]
    exact ih
theorem vd_all : ∀ (k : Nat) (s : ByteArray), s.size ≤ k → s.size ≤ maxLen → VdIs k s
  | 0, s, h, _ => vd_end 0 s (by omega)
  | k + 1, s, h, hs => by
    by_cases h0 : s.size = 0
    · exact vd_end _ s h0
    · exact vd_step k s (by omega) hs fun hp => vd_all k _ (by rw [size_drop]; omega) (by rw [size_drop]; omega)
theorem valid_ok (s : ByteArray) (hs : s.size ≤ maxLen) (hp : List Ent) : F tab 107 [.d (.str s)] hp = some (.ret (.d (.bool (validB s))) hp) := by
  have hL := vd_all s.size s (Nat.le_refl _) hs
  unfold VdIs at hL
  refine f107 rfl ?_
  unfold validB
  simp (disch := omega) only [go_sem, and_self, and_true, true_and, false_and, and_false, Nat.reduceAdd, Nat.reduceMul, Nat.reduceSub, Nat.reduceLeDiff, Nat.reduceLT, Nat.reduceGT, Nat.reduceEqDiff, Nat.reduceBEq, Int.reduceNeg, Int.reduceEq, Int.reduceLT, Int.reduceLE, Int.reduceBEq, Int.reduceToNat, Int.toNat_natCast, Int.natCast_zero, r107_T, r107]
  rw [r107_B0_n]
  erw [hL]
  rcases Bool.eq_false_or_eq_true (validF s.size (bs s)) with g | g <;> rw [g] <;> simp only [go_sem, and_self, and_true, true_and, false_and, and_false, Nat.reduceAdd, Nat.reduceMul, Nat.reduceSub, Nat.reduceLeDiff, Nat.reduceLT, Nat.reduceGT, Nat.reduceEqDiff, Nat.reduceBEq, Int.reduceNeg, Int.reduceEq, Int.reduceLT, Int.reduceLE, Int.reduceBEq, Int.reduceToNat, Int.toNat_natCast, Int.natCast_zero]
end Go.Pe.T

namespace Go.Pe.T


theorem take_more {α : Type} (a b : List α) (n : Nat) (h : a.length < n) : a ++ b.take (n - a.length) = (a ++ b).take n := by
  rw [List.take_append, List.take_of_length_le (Nat.le_of_lt h)]
theorem take_app {α : Type} (a b : List α) (n : Nat) : (a.take n ++ b).take n = (a ++ b).take n := by
  simp only [List.take_append, List.take_take, Nat.min_self, List.length_take]
  congr 2
  omega

theorem xencs_all (a : List Xp) : ((Xp.encs a).all fun y => y.width == 8) = true := by
  simp only [List.all_eq_true, beq_iff_eq]
  intro y hy
  rw [xencs_eq, List.mem_map] at hy
  obtain ⟨x, _, rfl⟩ := hy
  exact xenc_w x
theorem row_len {a b k : Nat} (hk : k ≤ 1000) (h : a + b ≤ 1000000) : ((a + b) * k ≤ maxRow) = True :=
  eq_true (by
    have := Nat.mul_le_mul h hk
    simp only [maxRow]
    omega)

def AllIs (e : Xp) (m : Nat) : Prop := ∀ hp : List Ent, F tab 39 [.d e.enc, .d (iv m)] hp = some (.ret (.d (.sl (Xp.encs (e.pre.take m)))) hp)

def AllLoop (o : Int) (t : ByteArray) (p k c s : Int) (ns : List D) (xs : List Xp) (m i : Nat) (l : List Xp) : Prop :=
    V (F tab) r39_B0 (r39_S0 (.d (iv m)) (.ibox [.d (iv o), .d (.str t), .d (iv p), .d (iv k), .d (iv c), .d (iv s), .d (.sl ns), .d (.sl (Xp.encs xs))]) (.own 34 (Xp.encs l)) (.d (iv i)) []) =
      some (.norm, r39_E0 (.own 34 (Xp.encs ((l ++ Xp.pres (xs.drop i)).take m))) [])

theorem all_end (o : Int) (t : ByteArray) (p k c s : Int) (ns : List D) (xs : List Xp) (m i : Nat) (l : List Xp) (hlm : l.length ≤ m) (hi : xs.length ≤ i) : AllLoop o t p k c s ns xs m i l := by
  have h1 : ((i : Int) < (xs.length : Int)) = False := eq_false (by omega)
  unfold AllLoop
  rw [r39_B0_eq, List.drop_of_length_le hi, Xp.pres, List.append_nil, List.take_of_length_le hlm]
  simp (disch := omega) only [go_sem, and_self, and_true, true_and, false_and, and_false, Nat.reduceAdd, Nat.reduceMul, Nat.reduceSub, Nat.reduceLeDiff, Nat.reduceLT, Nat.reduceGT, Nat.reduceEqDiff, Nat.reduceBEq, Int.reduceNeg, Int.reduceEq, Int.reduceLT, Int.reduceLE, Int.reduceBEq, Int.reduceToNat, Int.toNat_natCast, Int.natCast_zero, r39_C0, h1, xencs_len]

theorem all_full (o : Int) (t : ByteArray) (p k c s : Int) (ns : List D) (xs : List Xp) (m i : Nat) (l : List Xp) (hlm : l.length = m) (hi : i < xs.length) : AllLoop o t p k c s ns xs m i l := by
  have h1 : ((i : Int) < (xs.length : Int)) = True := eq_true (by omega)
  have h2 : ((l.length : Int) < (m : Int)) = False := eq_false (by omega)
  unfold AllLoop
  rw [r39_B0_eq, show (l ++ Xp.pres (xs.drop i)).take m = l by rw [← hlm, List.take_left]]
  simp (disch := omega) only [go_sem, and_self, and_true, true_and, false_and, and_false, Nat.reduceAdd, Nat.reduceMul, Nat.reduceSub, Nat.reduceLeDiff, Nat.reduceLT, Nat.reduceGT, Nat.reduceEqDiff, Nat.reduceBEq, Int.reduceNeg, Int.reduceEq, Int.reduceLT, Int.reduceLE, Int.reduceBEq, Int.reduceToNat, Int.toNat_natCast, Int.natCast_zero, r39_C0, h1, h2, xencs_len]

theorem all_step (o : Int) (t : ByteArray) (p k c s : Int) (ns : List D) (xs : List Xp) (hl : xs.length ≤ maxLen) (m i : Nat) (l : List Xp) (hlm : l.length < m) (hm : m ≤ 100000) (hi : i < xs.length)
    (ih : AllIs xs[i] (m - l.length)) (hn : AllLoop o t p k c s ns xs m (i + 1) ((l ++ xs[i].pre).take m)) : AllLoop o t p k c s ns xs m i l := by
  have hmx : maxLen = 9223372036854775807 := by decide
  have h1 : ((i : Int) < (xs.length : Int)) = True := eq_true (by omega)
  have h2 : ((l.length : Int) < (m : Int)) = True := eq_true (by omega)
  have hi0 : (0 ≤ (i : Int)) = True := eq_true (by omega)
  have va : (Xp.encs xs)[i]? = some (xs[i].enc) := by rw [xencs_get]; simp [hi]
  have hd : (m : Int) - (l.length : Int) = ((m - l.length : Nat) : Int) := by omega
  have hr : (l.length + (xs[i].pre.take (m - l.length)).length) * 104 ≤ maxRow := of_eq_true (row_len (by omega) (by rw [List.length_take]; omega))
  have e1 : (l ++ Xp.pres (xs.drop i)).take m = ((l ++ xs[i].pre).take m ++ Xp.pres (xs.drop (i + 1))).take m := by
    rw [take_app, List.drop_eq_getElem_cons hi, Xp.pres, List.append_assoc]
  have e2 : Xp.encs l ++ Xp.encs (xs[i].pre.take (m - l.length)) = Xp.encs ((l ++ xs[i].pre).take m) := by rw [← xencs_app, take_more _ _ _ hlm]
  unfold AllIs at ih
  unfold AllLoop at hn ⊢
  rw [r39_B0_eq, e1]
  simp (disch := omega) only [go_sem, and_self, and_true, true_and, false_and, and_false, Nat.reduceAdd, Nat.reduceMul, Nat.reduceSub, Nat.reduceLeDiff, Nat.reduceLT, Nat.reduceGT, Nat.reduceEqDiff, Nat.reduceBEq, Int.reduceNeg, Int.reduceEq, Int.reduceLT, Int.reduceLE, Int.reduceBEq, Int.reduceToNat, Int.toNat_natCast, Int.natCast_zero, r39_C0, h1, h2, hi0, va, xenc_w, xenc_a, xencs_len, w64, hd, ih, hr, e2, xencs_all, decide_true, and_self, if_true]
  rw [Int.natCast_add, Int.natCast_one] at hn
  exact hn

theorem all_loop (o : Int) (t : ByteArray) (p k c s : Int) (ns : List D) (xs : List Xp) (hl : xs.length ≤ maxLen) (m : Nat) (hm : m ≤ 100000) (ih : ∀ x ∈ xs, ∀ n : Nat, 1 ≤ n → n ≤ 100000 → AllIs x n) :
    ∀ (j i : Nat) (l : List Xp), i + j = xs.length → l.length ≤ m → AllLoop o t p k c s ns xs m i l
  | 0, i, l, hi, hlm => all_end o t p k c s ns xs m i l hlm (by omega)
  | j + 1, i, l, hi, hlm => by
    by_cases h : l.length = m
    · exact all_full o t p k c s ns xs m i l h (by omega)
    · exact all_step o t p k c s ns xs hl m i l (by omega) hm (by omega) (ih _ (List.getElem_mem _) _ (by omega) (by omega)) (all_loop o t p k c s ns xs hl m hm ih j (i + 1) _ (by omega) (by rw [List.length_take]; omega))

theorem all_fn (o : Int) (t : ByteArray) (p k c s : Int) (ns : List ByteArray) (xs : List Xp) (m : Nat) (h1 : 1 ≤ m) (hL : AllLoop o t p k c s (ns.map .str) xs m 0 [.mk o t p k c s ns xs]) : AllIs (.mk o t p k c s ns xs) m := by
  intro hp
  unfold AllLoop at hL
  rw [List.drop_zero] at hL
  have e1 : [Xp.mk o t p k c s ns xs] ++ Xp.pres xs = (Xp.mk o t p k c s ns xs).pre := rfl
  rw [e1] at hL
  simp only [Xp.encs, Xp.enc] at hL
  refine f39 rfl ?_
  simp (disch := omega) only [go_sem, and_self, and_true, true_and, false_and, and_false, Nat.reduceAdd, Nat.reduceMul, Nat.reduceSub, Nat.reduceLeDiff, Nat.reduceLT, Nat.reduceGT, Nat.reduceEqDiff, Nat.reduceBEq, Int.reduceNeg, Int.reduceEq, Int.reduceLT, Int.reduceLE, Int.reduceBEq, Int.reduceToNat, Int.toNat_natCast, Int.natCast_zero, r39_T, r39, Xp.enc]
  rw [r39_B0_n]
  erw [hL]
  simp (disch := omega) only [go_sem, and_self, and_true, true_and, false_and, and_false, Nat.reduceAdd, Nat.reduceMul, Nat.reduceSub, Nat.reduceLeDiff, Nat.reduceLT, Nat.reduceGT, Nat.reduceEqDiff, Nat.reduceBEq, Int.reduceNeg, Int.reduceEq, Int.reduceLT, Int.reduceLE, Int.reduceBEq, Int.reduceToNat, Int.toNat_natCast, Int.natCast_zero]

theorem rall_ok : ∀ (e : Xp), e.ok → ∀ m : Nat, 1 ≤ m → m ≤ 100000 → AllIs e m
  | .mk o t p k c s ns xs, h, m, h1, h2 => by
    simp only [Xp.ok] at h
    exact all_fn o t p k c s ns xs m h1 (all_loop o t p k c s _ xs h.2.2.2.2.2.2.2.2.1 m h2 (fun x hx n n1 n2 => rall_ok x (xoks_mem h.2.2.2.2.2.2.2.2.2 hx) n n1 n2) xs.length 0 _ (by omega) (by simpa using h1))

theorem light_ok (e : Xp) (he : e.ok) (m : Nat) (hm : m < 100000) (hp : List Ent) : F tab 27 [.d e.enc, .d (iv m)] hp = some (.ret (.d (.bool (decide (e.pre.length ≤ m)))) hp) := by
  have h := rall_ok e he (m + 1) (by omega) (by omega)
  unfold AllIs at h
  rw [Int.natCast_add, Int.natCast_one] at h
  obtain ⟨o, t, p, k, c, s, ns, xs, ex⟩ := xenc_as e
  rw [ex] at h ⊢
  have e1 : (((e.pre.take (m + 1)).length : Int) ≤ (m : Int)) = (e.pre.length ≤ m) := by rw [List.length_take]; apply propext; omega
  refine f27 rfl ?_
  simp (disch := omega) only [go_sem, and_self, and_true, true_and, false_and, and_false, Nat.reduceAdd, Nat.reduceMul, Nat.reduceSub, Nat.reduceLeDiff, Nat.reduceLT, Nat.reduceGT, Nat.reduceEqDiff, Nat.reduceBEq, Int.reduceNeg, Int.reduceEq, Int.reduceLT, Int.reduceLE, Int.reduceBEq, Int.reduceToNat, Int.toNat_natCast, Int.natCast_zero, r27_T, r27, w64, h, xencs_len, e1]
end Go.Pe.T

namespace Go.Pe.T


inductive Runs (f : Nat) (caps : List PV) : List Ent → List Xp → List Ent → Bool → Prop where
  | nil {hp} : Runs f caps hp [] hp true
  | stop {hp x l hp'} : F tab f (.d x.enc :: caps) hp = some (.ret (.d (.bool false)) hp') → Runs f caps hp (x :: l) hp' false
  | step {hp x l hp' hp'' b} : F tab f (.d x.enc :: caps) hp = some (.ret (.d (.bool true)) hp') → Runs f caps hp' l hp'' b → Runs f caps hp (x :: l) hp'' b

theorem runs_app {f : Nat} {caps : List PV} : ∀ {a b : List Xp} {hp hp'' : List Ent} {r : Bool}, Runs f caps hp (a ++ b) hp'' r →
    (Runs f caps hp a hp'' false ∧ r = false) ∨ ∃ hp', Runs f caps hp a hp' true ∧ Runs f caps hp' b hp'' r
  | [], b, hp, hp'', r, h => .inr ⟨hp, .nil, h⟩
  | x :: a, b, hp, hp'', r, h => by
    cases h with
    | stop h => exact .inl ⟨.stop h, rfl⟩
    | step h k =>
      rcases runs_app k with ⟨k1, k2⟩ | ⟨hp', k1, k2⟩
      · exact .inl ⟨.step h k1, k2⟩
      · exact .inr ⟨hp', .step h k1, k2⟩

def GoIs (f : Nat) (caps : List PV) (e : Xp) : Prop := ∀ hp hp' b, Runs f caps hp e.pre hp' b → F tab 56 [.d e.enc, .fn f caps] hp = some (.ret (.d (.bool b)) hp')

def GoLoop (f : Nat) (caps : List PV) (xs : List Xp) (i : Nat) : Prop := ∀ hp hp' b, Runs f caps hp (Xp.pres (xs.drop i)) hp' b →
    V (F tab) r56_B0 (r56_S0 (.fn f caps) (.d (.sl (Xp.encs xs))) (.d (iv xs.length)) (.d (iv i)) hp) =
      if b then some (.norm, r56_E0 hp') else some (.ret, r56_R (.d (.bool false)) hp')

theorem go_end (f : Nat) (caps : List PV) (xs : List Xp) (i : Nat) (hi : xs.length ≤ i) : GoLoop f caps xs i := by
  intro hp hp' b h
  rw [List.drop_of_length_le hi, Xp.pres] at h
  cases h
  have h1 : ((i : Int) < (xs.length : Int)) = False := eq_false (by omega)
  rw [r56_B0_eq]
  simp (disch := omega) only [go_sem, and_self, and_true, true_and, false_and, and_false, Nat.reduceAdd, Nat.reduceMul, Nat.reduceSub, Nat.reduceLeDiff, Nat.reduceLT, Nat.reduceGT, Nat.reduceEqDiff, Nat.reduceBEq, Int.reduceNeg, Int.reduceEq, Int.reduceLT, Int.reduceLE, Int.reduceBEq, Int.reduceToNat, Int.toNat_natCast, Int.natCast_zero, r56_C0, h1]

theorem go_step (f : Nat) (caps : List PV) (xs : List Xp) (hl : xs.length ≤ maxLen) (i : Nat) (hi : i < xs.length) (ih : GoIs f caps xs[i]) (hn : GoLoop f caps xs (i + 1)) : GoLoop f caps xs i := by
  intro hp hp'' b h
  have hmx : maxLen = 9223372036854775807 := by decide
  have h1 : ((i : Int) < (xs.length : Int)) = True := eq_true (by omega)
  have hi0 : (0 ≤ (i : Int)) = True := eq_true (by omega)
  have va : (Xp.encs xs)[i]? = some (xs[i].enc) := by rw [xencs_get]; simp [hi]
  rw [List.drop_eq_getElem_cons hi, Xp.pres] at h
  obtain ⟨o, t, p, k, c, s, ns, ys, ex⟩ := xenc_as xs[i]
  rw [r56_B0_eq]
  unfold GoIs at ih
  rw [ex] at ih va
  rcases runs_app h with ⟨k1, rfl⟩ | ⟨hp', k1, k2⟩
  · have ih := ih _ _ _ k1
    simp (disch := omega) only [go_sem, and_self, and_true, true_and, false_and, and_false, Nat.reduceAdd, Nat.reduceMul, Nat.reduceSub, Nat.reduceLeDiff, Nat.reduceLT, Nat.reduceGT, Nat.reduceEqDiff, Nat.reduceBEq, Int.reduceNeg, Int.reduceEq, Int.reduceLT, Int.reduceLE, Int.reduceBEq, Int.reduceToNat, Int.toNat_natCast, Int.natCast_zero, r56_C0, h1, hi0, va, xencs_len, w64, ih]
  · have ih := ih _ _ _ k1
    have hn := hn _ _ _ k2
    rw [Int.natCast_add, Int.natCast_one] at hn
    simp (disch := omega) only [go_sem, and_self, and_true, true_and, false_and, and_false, Nat.reduceAdd, Nat.reduceMul, Nat.reduceSub, Nat.reduceLeDiff, Nat.reduceLT, Nat.reduceGT, Nat.reduceEqDiff, Nat.reduceBEq, Int.reduceNeg, Int.reduceEq, Int.reduceLT, Int.reduceLE, Int.reduceBEq, Int.reduceToNat, Int.toNat_natCast, Int.natCast_zero, r56_C0, h1, hi0, va, xencs_len, w64, ih]
    exact hn

theorem go_loop (f : Nat) (caps : List PV) (xs : List Xp) (hl : xs.length ≤ maxLen) (ih : ∀ x ∈ xs, GoIs f caps x) : ∀ (j i : Nat), i + j = xs.length → GoLoop f caps xs i
  | 0, i, hi => go_end f caps xs i (by omega)
  | j + 1, i, hi => go_step f caps xs hl i (by omega) (ih _ (List.getElem_mem _)) (go_loop f caps xs hl ih j (i + 1) (by omega))

theorem go_fn (f : Nat) (caps : List PV) (o : Int) (t : ByteArray) (p k c s : Int) (ns : List ByteArray) (xs : List Xp) (hL : GoLoop f caps xs 0) : GoIs f caps (.mk o t p k c s ns xs) := by
  intro hp hp'' b h
  unfold GoLoop at hL
  rw [List.drop_zero] at hL
  refine f56 ?_
  simp only [Xp.pre] at h
  cases h with
  | stop h =>
    simp only [Xp.enc] at h
    simp (disch := omega) only [go_sem, and_self, and_true, true_and, false_and, and_false, Nat.reduceAdd, Nat.reduceMul, Nat.reduceSub, Nat.reduceLeDiff, Nat.reduceLT, Nat.reduceGT, Nat.reduceEqDiff, Nat.reduceBEq, Int.reduceNeg, Int.reduceEq, Int.reduceLT, Int.reduceLE, Int.reduceBEq, Int.reduceToNat, Int.toNat_natCast, Int.natCast_zero, r56_T, r56, Xp.enc, h]
  | step h hr =>
    have hL := hL _ _ _ hr
    simp only [Xp.enc] at h
    simp (disch := omega) only [go_sem, and_self, and_true, true_and, false_and, and_false, Nat.reduceAdd, Nat.reduceMul, Nat.reduceSub, Nat.reduceLeDiff, Nat.reduceLT, Nat.reduceGT, Nat.reduceEqDiff, Nat.reduceBEq, Int.reduceNeg, Int.reduceEq, Int.reduceLT, Int.reduceLE, Int.reduceBEq, Int.reduceToNat, Int.toNat_natCast, Int.natCast_zero, r56_T, r56, Xp.enc, h, xencs_len]
    rw [r56_B0_n]
    erw [hL]
    cases b <;> simp (disch := omega) only [go_sem, and_self, and_true, true_and, false_and, and_false, Nat.reduceAdd, Nat.reduceMul, Nat.reduceSub, Nat.reduceLeDiff, Nat.reduceLT, Nat.reduceGT, Nat.reduceEqDiff, Nat.reduceBEq, Int.reduceNeg, Int.reduceEq, Int.reduceLT, Int.reduceLE, Int.reduceBEq, Int.reduceToNat, Int.toNat_natCast, Int.natCast_zero]

theorem go_ok (f : Nat) (caps : List PV) : ∀ (e : Xp), e.ok → GoIs f caps e
  | .mk o t p k c s ns xs, h => by
    simp only [Xp.ok] at h
    exact go_fn f caps o t p k c s ns xs (go_loop f caps xs h.2.2.2.2.2.2.2.2.1 (fun x hx => go_ok f caps x (xoks_mem h.2.2.2.2.2.2.2.2.2 hx)) xs.length 0 (by omega))
end Go.Pe.T

namespace Go.Pe.T

def hasB (l : List ByteArray) (s : ByteArray) : Bool := l.any fun x => x.toList == s.toList

theorem hasB_drop {l : List ByteArray} {s : ByteArray} {i : Nat} (hi : i < l.length) : hasB (l.drop i) s = ((l[i].toList == s.toList) || hasB (l.drop (i + 1)) s) := by
  rw [List.drop_eq_getElem_cons hi]; rfl

def HasLoop (l : List ByteArray) (s : ByteArray) (i : Nat) : Prop :=
  V (F tab) r69_B0 (r69_S0 (.d (.sl (l.map .str))) (.d (.str s)) (.d (iv i)) []) = if hasB (l.drop i) s then some (.ret, r69_R (.d (.bool true)) []) else some (.norm, r69_E0 [])

theorem has_end (l : List ByteArray) (s : ByteArray) (i : Nat) (hi : l.length ≤ i) : HasLoop l s i := by
  have h1 : ((i : Int) < (l.length : Int)) = False := eq_false (by omega)
  unfold HasLoop
  rw [r69_B0_eq, List.drop_of_length_le hi]
  simp (disch := omega) only [go_sem, and_self, and_true, true_and, false_and, and_false, Nat.reduceAdd, Nat.reduceMul, Nat.reduceSub, Nat.reduceLeDiff, Nat.reduceLT, Nat.reduceGT, Nat.reduceEqDiff, Nat.reduceBEq, Int.reduceNeg, Int.reduceEq, Int.reduceLT, Int.reduceLE, Int.reduceBEq, Int.reduceToNat, Int.toNat_natCast, Int.natCast_zero, r69_C0, h1, List.length_map, hasB, List.any_nil]
theorem has_step (l : List ByteArray) (s : ByteArray) (i : Nat) (hi : i < l.length) (hl : l.length ≤ maxLen) (ih : HasLoop l s (i + 1)) : HasLoop l s i := by
  have hmx : maxLen = 9223372036854775807 := by decide
  have h1 : ((i : Int) < (l.length : Int)) = True := eq_true (by omega)
  have hi0 : (0 ≤ (i : Int)) = True := eq_true (by omega)
  have va : (l.map D.str)[i]? = some (.str l[i]) := by simp [hi]
  unfold HasLoop at ih ⊢
  rw [Int.natCast_add, Int.natCast_one] at ih
  rw [r69_B0_eq, hasB_drop hi]
  rcases Bool.eq_false_or_eq_true (l[i].toList == s.toList) with g | g
  · simp (disch := omega) only [go_sem, and_self, and_true, true_and, false_and, and_false, Nat.reduceAdd, Nat.reduceMul, Nat.reduceSub, Nat.reduceLeDiff, Nat.reduceLT, Nat.reduceGT, Nat.reduceEqDiff, Nat.reduceBEq, Int.reduceNeg, Int.reduceEq, Int.reduceLT, Int.reduceLE, Int.reduceBEq, Int.reduceToNat, Int.toNat_natCast, Int.natCast_zero, r69_C0, h1, hi0, va, g, strD_eql, List.length_map, w64, Bool.true_or]
  · simp (disch := omega) only [go_sem, and_self, and_true, true_and, false_and, and_false, Nat.reduceAdd, Nat.reduceMul, Nat.reduceSub, Nat.reduceLeDiff, Nat.reduceLT, Nat.reduceGT, Nat.reduceEqDiff, Nat.reduceBEq, Int.reduceNeg, Int.reduceEq, Int.reduceLT, Int.reduceLE, Int.reduceBEq, Int.reduceToNat, Int.toNat_natCast, Int.natCast_zero, r69_C0, h1, hi0, va, g, strD_eql, List.length_map, w64, Bool.false_or]
    exact ih
theorem has_loop (l : List ByteArray) (s : ByteArray) (hl : l.length ≤ maxLen) : ∀ (j i : Nat), i + j = l.length → HasLoop l s i
  | 0, i, hi => has_end l s i (by omega)
  | j + 1, i, hi => has_step l s i (by omega) hl (has_loop l s hl j (i + 1) (by omega))

theorem has_ok (l : List ByteArray) (s : ByteArray) (hl : l.length ≤ maxLen) (hp : List Ent) : F tab 69 [.d (.sl (l.map .str)), .d (.str s)] hp = some (.ret (.d (.bool (hasB l s))) hp) := by
  have hL := has_loop l s hl l.length 0 (by omega)
  unfold HasLoop at hL
  rw [List.drop_zero] at hL
  refine f69 rfl ?_
  simp (disch := omega) only [go_sem, and_self, and_true, true_and, false_and, and_false, Nat.reduceAdd, Nat.reduceMul, Nat.reduceSub, Nat.reduceLeDiff, Nat.reduceLT, Nat.reduceGT, Nat.reduceEqDiff, Nat.reduceBEq, Int.reduceNeg, Int.reduceEq, Int.reduceLT, Int.reduceLE, Int.reduceBEq, Int.reduceToNat, Int.toNat_natCast, Int.natCast_zero, r69_T, r69]
  rw [r69_B0_n]
  erw [hL]
  rcases Bool.eq_false_or_eq_true (hasB l s) with g | g <;> rw [g] <;> simp only [go_sem, and_self, and_true, true_and, false_and, and_false, Nat.reduceAdd, Nat.reduceMul, Nat.reduceSub, Nat.reduceLeDiff, Nat.reduceLT, Nat.reduceGT, Nat.reduceEqDiff, Nat.reduceBEq, Int.reduceNeg, Int.reduceEq, Int.reduceLT, Int.reduceLE, Int.reduceBEq, Int.reduceToNat, Int.toNat_natCast, Int.natCast_zero]

def IdxLoop (l : List ByteArray) (s : ByteArray) (i : Nat) : Prop :=
  ∃ k : Nat, V (F tab) r120_B0 (r120_S0 (.d (.sl (l.map .str))) (.d (.str s)) (.d (iv l.length)) (.d (iv i)) []) = if hasB (l.drop i) s then some (.ret, r120_R (.d (iv k)) []) else some (.norm, r120_E0 [])

theorem idx_end (l : List ByteArray) (s : ByteArray) (i : Nat) (hi : l.length ≤ i) : IdxLoop l s i := by
  have h1 : ((i : Int) < (l.length : Int)) = False := eq_false (by omega)
  refine ⟨0, ?_⟩
  rw [r120_B0_eq, List.drop_of_length_le hi]
  simp (disch := omega) only [go_sem, and_self, and_true, true_and, false_and, and_false, Nat.reduceAdd, Nat.reduceMul, Nat.reduceSub, Nat.reduceLeDiff, Nat.reduceLT, Nat.reduceGT, Nat.reduceEqDiff, Nat.reduceBEq, Int.reduceNeg, Int.reduceEq, Int.reduceLT, Int.reduceLE, Int.reduceBEq, Int.reduceToNat, Int.toNat_natCast, Int.natCast_zero, r120_C0, h1, List.length_map, hasB, List.any_nil]
theorem idx_step (l : List ByteArray) (s : ByteArray) (i : Nat) (hi : i < l.length) (hl : l.length ≤ maxLen) (ih : IdxLoop l s (i + 1)) : IdxLoop l s i := by
  have hmx : maxLen = 9223372036854775807 := by decide
  have h1 : ((i : Int) < (l.length : Int)) = True := eq_true (by omega)
  have hi0 : (0 ≤ (i : Int)) = True := eq_true (by omega)
  have va : (l.map D.str)[i]? = some (.str l[i]) := by simp [hi]
  obtain ⟨k, ih⟩ := ih
  rw [Int.natCast_add, Int.natCast_one] at ih
  rcases Bool.eq_false_or_eq_true (l[i].toList == s.toList) with g | g
  · refine ⟨i, ?_⟩
    have g' : (s.toList == l[i].toList) = true := by rw [BEq.comm]; exact g
    rw [r120_B0_eq, hasB_drop hi]
    simp (disch := omega) only [go_sem, and_self, and_true, true_and, false_and, and_false, Nat.reduceAdd, Nat.reduceMul, Nat.reduceSub, Nat.reduceLeDiff, Nat.reduceLT, Nat.reduceGT, Nat.reduceEqDiff, Nat.reduceBEq, Int.reduceNeg, Int.reduceEq, Int.reduceLT, Int.reduceLE, Int.reduceBEq, Int.reduceToNat, Int.toNat_natCast, Int.natCast_zero, r120_C0, h1, hi0, va, g, g', strD_eql, List.length_map, w64, Bool.true_or]
  · refine ⟨k, ?_⟩
    have g' : (s.toList == l[i].toList) = false := by rw [BEq.comm]; exact g
    rw [r120_B0_eq, hasB_drop hi]
    simp (disch := omega) only [go_sem, and_self, and_true, true_and, false_and, and_false, Nat.reduceAdd, Nat.reduceMul, Nat.reduceSub, Nat.reduceLeDiff, Nat.reduceLT, Nat.reduceGT, Nat.reduceEqDiff, Nat.reduceBEq, Int.reduceNeg, Int.reduceEq, Int.reduceLT, Int.reduceLE, Int.reduceBEq, Int.reduceToNat, Int.toNat_natCast, Int.natCast_zero, r120_C0, h1, hi0, va, g, g', strD_eql, List.length_map, w64, Bool.false_or]
    exact ih
theorem idx_loop (l : List ByteArray) (s : ByteArray) (hl : l.length ≤ maxLen) : ∀ (j i : Nat), i + j = l.length → IdxLoop l s i
  | 0, i, hi => idx_end l s i (by omega)
  | j + 1, i, hi => idx_step l s i (by omega) hl (idx_loop l s hl j (i + 1) (by omega))

theorem idx_ok (l : List ByteArray) (s : ByteArray) (hl : l.length ≤ maxLen) : ∃ k : Int, (decide (k ≥ 0) = hasB l s) ∧ ∀ hp, F tab 120 [.d (.sl (l.map .str)), .d (.str s)] hp = some (.ret (.d (iv k)) hp) := by
  obtain ⟨k, hL⟩ := idx_loop l s hl l.length 0 (by omega)
  rw [List.drop_zero] at hL
  rcases Bool.eq_false_or_eq_true (hasB l s) with g | g
  · refine ⟨k, by rw [g]; simp, fun hp => f120 rfl ?_⟩
    simp (disch := omega) only [go_sem, and_self, and_true, true_and, false_and, and_false, Nat.reduceAdd, Nat.reduceMul, Nat.reduceSub, Nat.reduceLeDiff, Nat.reduceLT, Nat.reduceGT, Nat.reduceEqDiff, Nat.reduceBEq, Int.reduceNeg, Int.reduceEq, Int.reduceLT, Int.reduceLE, Int.reduceBEq, Int.reduceToNat, Int.toNat_natCast, Int.natCast_zero, r120_T, r120, List.length_map]
    rw [r120_B0_n]
    erw [hL]
    rw [g]
    simp only [go_sem, and_self, and_true, true_and, false_and, and_false, Nat.reduceAdd, Nat.reduceMul, Nat.reduceSub, Nat.reduceLeDiff, Nat.reduceLT, Nat.reduceGT, Nat.reduceEqDiff, Nat.reduceBEq, Int.reduceNeg, Int.reduceEq, Int.reduceLT, Int.reduceLE, Int.reduceBEq, Int.reduceToNat, Int.toNat_natCast, Int.natCast_zero]
  · refine ⟨-1, by rw [g]; simp, fun hp => f120 rfl ?_⟩
    simp (disch := omega) only [go_sem, and_self, and_true, true_and, false_and, and_false, Nat.reduceAdd, Nat.reduceMul, Nat.reduceSub, Nat.reduceLeDiff, Nat.reduceLT, Nat.reduceGT, Nat.reduceEqDiff, Nat.reduceBEq, Int.reduceNeg, Int.reduceEq, Int.reduceLT, Int.reduceLE, Int.reduceBEq, Int.reduceToNat, Int.toNat_natCast, Int.natCast_zero, r120_T, r120, List.length_map]
    rw [r120_B0_n]
    erw [hL]
    rw [g]
    simp only [go_sem, and_self, and_true, true_and, false_and, and_false, Nat.reduceAdd, Nat.reduceMul, Nat.reduceSub, Nat.reduceLeDiff, Nat.reduceLT, Nat.reduceGT, Nat.reduceEqDiff, Nat.reduceBEq, Int.reduceNeg, Int.reduceEq, Int.reduceLT, Int.reduceLE, Int.reduceBEq, Int.reduceToNat, Int.toNat_natCast, Int.natCast_zero]

theorem con_ok (l : List ByteArray) (s : ByteArray) (hl : l.length ≤ maxLen) (hp : List Ent) : F tab 108 [.d (.sl (l.map .str)), .d (.str s)] hp = some (.ret (.d (.bool (hasB l s))) hp) := by
  obtain ⟨k, h1, h2⟩ := idx_ok l s hl
  refine f108 rfl ?_
  simp only [go_sem, and_self, and_true, true_and, false_and, and_false, Nat.reduceAdd, Nat.reduceMul, Nat.reduceSub, Nat.reduceLeDiff, Nat.reduceLT, Nat.reduceGT, Nat.reduceEqDiff, Nat.reduceBEq, Int.reduceNeg, Int.reduceEq, Int.reduceLT, Int.reduceLE, Int.reduceBEq, Int.reduceToNat, Int.toNat_natCast, Int.natCast_zero, r108_T, r108, h2, h1]

theorem con_nil (s : ByteArray) (hp : List Ent) : F tab 108 [.nilsl, .d (.str s)] hp = some (.ret (.d (.bool false)) hp) := by
  have h : ∀ hp, F tab 120 [.nilsl, .d (.str s)] hp = some (.ret (.d (iv (-1))) hp) := by
    intro hp
    refine f120 rfl ?_
    simp (disch := omega) only [go_sem, and_self, and_true, true_and, false_and, and_false, Nat.reduceAdd, Nat.reduceMul, Nat.reduceSub, Nat.reduceLeDiff, Nat.reduceLT, Nat.reduceGT, Nat.reduceEqDiff, Nat.reduceBEq, Int.reduceNeg, Int.reduceEq, Int.reduceLT, Int.reduceLE, Int.reduceBEq, Int.reduceToNat, Int.toNat_natCast, Int.natCast_zero, r120_T, r120, List.length_nil]
    rw [r120_B0_n, r120_B0_eq]
    simp (disch := omega) only [go_sem, and_self, and_true, true_and, false_and, and_false, Nat.reduceAdd, Nat.reduceMul, Nat.reduceSub, Nat.reduceLeDiff, Nat.reduceLT, Nat.reduceGT, Nat.reduceEqDiff, Nat.reduceBEq, Int.reduceNeg, Int.reduceEq, Int.reduceLT, Int.reduceLE, Int.reduceBEq, Int.reduceToNat, Int.toNat_natCast, Int.natCast_zero, r120_C0, List.length_nil]
  refine f108 rfl ?_
  simp only [go_sem, and_self, and_true, true_and, false_and, and_false, Nat.reduceAdd, Nat.reduceMul, Nat.reduceSub, Nat.reduceLeDiff, Nat.reduceLT, Nat.reduceGT, Nat.reduceEqDiff, Nat.reduceBEq, Int.reduceNeg, Int.reduceEq, Int.reduceLT, Int.reduceLE, Int.reduceBEq, Int.reduceToNat, Int.toNat_natCast, Int.natCast_zero, r108_T, r108, h]
  rfl

end Go.Pe.T
