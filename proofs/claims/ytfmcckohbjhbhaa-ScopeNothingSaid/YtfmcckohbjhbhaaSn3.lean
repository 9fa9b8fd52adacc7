/- A part of the proof of: Resolving a program sets nothing but places, and a main part whose variables have other names, all alike, is resolved to the same places, or leads nowhere just so. -/
import Derived.Test.YtfmcckohbjhbhaaSn2
import Derived.Test.YtfmcckohbjhbhaaPe3
set_option linter.unusedSimpArgs false
set_option linter.unusedVariables false
set_option maxRecDepth 10000

namespace Go.Pe.T
/-! ### an expression, resolved -/
def atV (fs : List Fn) (vs ls : List ByteArray) (o : Int) (t : ByteArray) (p : Int) (n : Nat) : Option Int :=
  if o = 2 then (lastV vs t).map fun i => (i : Int) else
  if o = 16 then callV fs t n else
  if o = 19 then (lastV ls t).map fun i => (i : Int) else
  if o = 18 then some ls.length else some p
inductive Res (α : Type) where
  | ok (a : α)
  | lost (t : ByteArray)
mutual
def resX (fs : List Fn) (vs ls : List ByteArray) : Xp → Res Xp
  | .mk o t p k c s ns xs => match atV fs vs ls o t p xs.length with
    | none => .lost t
    | some p' => match resL fs vs ls o t 0 xs with
      | .lost e => .lost e
      | .ok ys => .ok (.mk o t p' k c s ns ys)
def resL (fs : List Fn) (vs ls : List ByteArray) (o : Int) (t : ByteArray) : Nat → List Xp → Res (List Xp)
  | _, [] => .ok []
  | i, x :: r => match resX fs (inVars o t i vs) (inLabs o t ls) x with
    | .lost e => .lost e
    | .ok y => match resL fs vs ls o t (i + 1) r with
      | .lost e => .lost e
      | .ok ys => .ok (y :: ys)
end
def zx : D := .agg [.int .i64 0, .str ⟨#[]⟩, .int .i64 0, .int .i64 0, .int .i64 0, .int .i64 0, .sl [], .sl []]
theorem flat_zero : ∀ (n : Nat), (zeroDs [.int .i64 0, .str ⟨#[]⟩, .int .i64 0, .int .i64 0, .int .i64 0, .int .i64 0, .sl [], .sl []] n).map PV.d = flatD (List.replicate n zx) := by
  intro n
  unfold flatD
  congr 1
  unfold zeroDs
  induction n with
  | zero => rfl
  | succ n ih =>
    rw [List.replicate_succ', List.flatMap_append, ← ih]
    have e : (n + 1) * 8 = n * 8 + 8 := by omega
    simp only [List.length_cons, List.length_nil, Nat.zero_add, Nat.reduceAdd, e, List.range_add, List.map_append, List.map_map]
    congr 1
    have hr : List.range 8 = [0, 1, 2, 3, 4, 5, 6, 7] := by decide
    simp [hr, zx, D.cells, Nat.add_mod]
def ExOut (hp : List Ent) : Res Xp → Option Out
  | .ok y => some (.ret (.d y.enc) hp)
  | .lost t => some (.pan (lostD t) hp)
/-- what is asked of an expression -/
def ExIs (fs : List Fn) (x : Xp) : Prop := ∀ (vs ls : List ByteArray), vs.length + x.pre.length ≤ 1000000 → ls.length + x.pre.length ≤ 1000000 → ∀ hp : List Ent,
  F tab 38 [.d (arD (fnDs fs) vs ls), .d x.enc] hp = ExOut hp (resX fs vs ls x)
abbrev x4D : PV := .ibox [.d (.int .i64 0), .d (.str ⟨#[]⟩), .d (.int .i64 0), .d (.int .i64 0), .d (.int .i64 0), .d (.int .i64 0), .nilsl, .nilsl]
abbrev x3D (o : Int) (t : ByteArray) (p k c s : Int) (ns : List ByteArray) (xs : List Xp) : PV := .ibox [.d (iv o), .d (.str t), .d (iv p), .d (iv k), .d (iv c), .d (iv s), .d (.sl (ns.map .str)), .d (.sl (Xp.encs xs))]
def IsPan (v : Option (Ex × St)) (d : D) : Prop := ∃ s, v = some (.pan d, s)
def ExAns (x3 : PV) (n : Nat) (done : List Xp) (r : Res (List Xp)) (v : Option (Ex × St)) : Prop := match r with
  | .ok ys => v = some (.norm, r38_E0 x3 x4D (.rowh 0 0 n) [.box (flatD (Xp.encs (done ++ ys)))])
  | .lost t => IsPan v (lostD t)
def ExLoop (fs : List Fn) (vs ls : List ByteArray) (o : Int) (t : ByteArray) (p k c s : Int) (ns : List ByteArray) (xs : List Xp) (done rest : List Xp) : Prop :=
  ExAns (x3D o t p k c s ns xs) xs.length done (resL fs vs ls o t done.length rest)
    (V (F tab) r38_B0 (r38_S0 (.eptr (arD (fnDs fs) vs ls) 0) (x3D o t p k c s ns xs) x4D (.rowh 0 0 xs.length) (.d (.sl (Xp.encs xs))) (.d (iv xs.length)) (.d (iv done.length)) [.box (flatD (Xp.encs done ++ List.replicate rest.length zx))]))
theorem ex_nil (fs : List Fn) (vs ls : List ByteArray) (o : Int) (t : ByteArray) (p k c s : Int) (ns : List ByteArray) (xs : List Xp) (done : List Xp) (hn : done.length = xs.length) : ExLoop fs vs ls o t p k c s ns xs done [] := by
  have h1 : ((done.length : Int) < (xs.length : Int)) = False := eq_false (by omega)
  unfold ExLoop
  rw [resL, r38_B0_eq]
  simp (disch := omega) only [go_sem, and_self, and_true, true_and, false_and, and_false, Nat.reduceAdd, Nat.reduceMul, Nat.reduceSub, Nat.reduceLeDiff, Nat.reduceLT, Nat.reduceGT, Nat.reduceEqDiff, Nat.reduceBEq, Int.reduceNeg, Int.reduceEq, Int.reduceLT, Int.reduceLE, Int.reduceBEq, Int.reduceToNat, Int.toNat_natCast, Int.natCast_zero, r38_C0, h1, ExAns, List.append_nil, List.length_nil, List.replicate_zero]
theorem row_agg (done : List Xp) (m : Nat) : AggRow 8 (Xp.encs done ++ List.replicate m zx) := by
  have key : ∀ y ∈ Xp.encs done ++ List.replicate m zx, (∃ v : Xp, y = v.enc) ∨ y = zx := by
    intro y hy
    rcases List.mem_append.1 hy with h | h
    · rw [xencs_eq, List.mem_map] at h
      obtain ⟨v, _, rfl⟩ := h
      exact .inl ⟨v, rfl⟩
    · exact .inr (List.eq_of_mem_replicate h)
  refine ⟨fun y hy => ?_, fun y hy => ?_, fun y hy c hc => ?_⟩
  · rcases key y hy with ⟨v, rfl⟩ | rfl
    · exact xenc_a v
    · rfl
  · rcases key y hy with ⟨v, rfl⟩ | rfl
    · exact xenc_w v
    · rfl
  · rcases key y hy with ⟨v, rfl⟩ | rfl
    · obtain ⟨o, t, p, k, c', s, ns, xs, ex⟩ := xenc_as v
      rw [ex] at hc
      simp [D.cells] at hc
      rcases hc with rfl | rfl | rfl | rfl | rfl | rfl | rfl | rfl <;> rfl
    · simp [zx, D.cells] at hc
      rcases hc with rfl | rfl | rfl | rfl <;> rfl
theorem row_set (done : List Xp) (m : Nat) (y : Xp) : storeIn (some 8) (flatD (Xp.encs done ++ List.replicate (m + 1) zx)) (done.length * 8) (.d y.enc) = some (flatD (Xp.encs (done ++ [y]) ++ List.replicate m zx)) := by
  have hl : (Xp.encs done).length = done.length := xencs_len done
  rw [storeIn_row (row_agg done (m + 1)) (i := done.length) (by simp [hl]) (xenc_a y) (xenc_w y)]
  congr 2
  rw [List.set_append, if_neg (by omega), hl, Nat.sub_self, List.replicate_succ, List.set_cons_zero, xencs_app]
  simp [Xp.encs]
theorem xenc_cl (y : Xp) : y.enc = .agg y.enc.cells ∧ y.enc.cells.length = 8 := by cases y; exact ⟨rfl, rfl⟩
theorem row_sc (done : List Xp) (m : Nat) (y : Xp) : setCells (flatD (Xp.encs done ++ List.replicate (m + 1) zx)) (0 + done.length * 8) y.enc.cells = flatD (Xp.encs (done ++ [y]) ++ List.replicate m zx) ∧ 0 + done.length * 8 + 8 ≤ (flatD (Xp.encs done ++ List.replicate (m + 1) zx)).length := by
  have h := row_set done m y
  rw [(xenc_cl y).1] at h
  simp only [storeIn] at h
  split at h
  · rename_i hc
    simp only [Bool.and_eq_true, decide_eq_true_eq] at hc
    rw [Nat.zero_add]
    exact ⟨by simpa using h, hc.2⟩
  · simp at h
set_option maxHeartbeats 2000000 in
theorem ex_step (fs : List Fn) (vs ls : List ByteArray) (o : Int) (t : ByteArray) (p k c s : Int) (ns : List ByteArray) (xs : List Xp) (done : List Xp) (x : Xp) (rest : List Xp)
    (hx : xs[done.length]? = some x) (hn : done.length + (rest.length + 1) = xs.length) (hxl : xs.length ≤ 1000000) (hv : vs.length ≤ 1000000) (hl : ls.length ≤ 1000000)
    (IH : ∀ hp, F tab 38 [.d (arD (fnDs fs) (inVars o t done.length vs) (inLabs o t ls)), .d x.enc] hp = ExOut hp (resX fs (inVars o t done.length vs) (inLabs o t ls) x))
    (ih : ∀ y, ExLoop fs vs ls o t p k c s ns xs (done ++ [y]) rest) : ExLoop fs vs ls o t p k c s ns xs done (x :: rest) := by
  have h1 : ((done.length : Int) < (xs.length : Int)) = True := eq_true (by omega)
  have i0 : (0 ≤ (done.length : Int)) = True := eq_true (by omega)
  have va : (Xp.encs xs)[done.length]? = some x.enc := by rw [xencs_get, hx]; rfl
  have hin := in_ok (fnDs fs) vs ls o t (iv p) (iv k) (iv c) (iv s) (.sl (ns.map .str)) (.sl (Xp.encs xs)) rfl done.length hv hl
  have hin := fun hp => hin hp rfl rfl rfl rfl rfl
  obtain ⟨o', t', p', k', c', s', ns', xs', ex⟩ := xenc_as x
  rw [ex] at va IH
  unfold ExLoop
  rw [resL, r38_B0_eq]
  cases hr : resX fs (inVars o t done.length vs) (inLabs o t ls) x with
  | lost e =>
    rw [hr] at IH
    simp only [ExOut] at IH
    simp only [ExAns]
    unfold arD at hin IH ⊢
    simp (disch := omega) only [go_sem, and_self, and_true, true_and, false_and, and_false, Nat.reduceAdd, Nat.reduceMul, Nat.reduceSub, Nat.reduceLeDiff, Nat.reduceLT, Nat.reduceGT, Nat.reduceEqDiff, Nat.reduceBEq, Int.reduceNeg, Int.reduceEq, Int.reduceLT, Int.reduceLE, Int.reduceBEq, Int.reduceToNat, Int.toNat_natCast, Int.natCast_zero, r38_C0, r38_K2, h1, i0, va, hin, IH, w64]
    exact ⟨_, rfl⟩
  | ok y =>
    rw [hr] at IH
    simp only [ExOut] at IH
    have ih := ih y
    unfold ExLoop at ih
    have hdl : (done ++ [y]).length = done.length + 1 := by simp
    rw [hdl, Int.natCast_add, Int.natCast_one] at ih
    obtain ⟨s1, s2⟩ := row_sc done rest.length y
    obtain ⟨q1, q2⟩ := xenc_cl y
    rw [q1] at IH
    have h2 : ((done.length : Int) < (xs.length : Int)) = True := h1
    unfold arD at hin IH ih ⊢
    simp only [List.length_cons]
    cases hq : resL fs vs ls o t (done.length + 1) rest with
    | lost e =>
      rw [hq] at ih
      simp only [ExAns] at ih ⊢
      simp (disch := omega) only [go_sem, and_self, and_true, true_and, false_and, and_false, Nat.reduceAdd, Nat.reduceMul, Nat.reduceSub, Nat.reduceLeDiff, Nat.reduceLT, Nat.reduceGT, Nat.reduceEqDiff, Nat.reduceBEq, Int.reduceNeg, Int.reduceEq, Int.reduceLT, Int.reduceLE, Int.reduceBEq, Int.reduceToNat, Int.toNat_natCast, Int.natCast_zero, r38_C0, r38_K2, h1, i0, va, hin, IH, w64, q2, s1, s2, decide_true, Bool.and_true]
      exact ih
    | ok ys =>
      rw [hq] at ih
      simp only [ExAns, List.append_assoc, List.cons_append, List.nil_append] at ih ⊢
      simp (disch := omega) only [go_sem, and_self, and_true, true_and, false_and, and_false, Nat.reduceAdd, Nat.reduceMul, Nat.reduceSub, Nat.reduceLeDiff, Nat.reduceLT, Nat.reduceGT, Nat.reduceEqDiff, Nat.reduceBEq, Int.reduceNeg, Int.reduceEq, Int.reduceLT, Int.reduceLE, Int.reduceBEq, Int.reduceToNat, Int.toNat_natCast, Int.natCast_zero, r38_C0, r38_K2, h1, i0, va, hin, IH, w64, q2, s1, s2, decide_true, Bool.and_true]
      exact ih
end Go.Pe.T

namespace Go.Pe.T
theorem ex_loop (fs : List Fn) (vs ls : List ByteArray) (o : Int) (t : ByteArray) (p k c s : Int) (ns : List ByteArray) (xs : List Xp) (hxl : xs.length ≤ 1000000) (hv : vs.length ≤ 1000000) (hl : ls.length ≤ 1000000)
    (hall : ∀ x ∈ xs, ∀ vs' ls' : List ByteArray, vs'.length ≤ vs.length + 1 → ls'.length ≤ ls.length + 1 → ∀ hp, F tab 38 [.d (arD (fnDs fs) vs' ls'), .d x.enc] hp = ExOut hp (resX fs vs' ls' x)) :
    ∀ (rest done pre : List Xp), xs = pre ++ rest → pre.length = done.length → ExLoop fs vs ls o t p k c s ns xs done rest
  | [], done, pre, h, hd => ex_nil fs vs ls o t p k c s ns xs done (by rw [h, ← hd]; simp)
  | x :: rest, done, pre, h, hd => by
    refine ex_step fs vs ls o t p k c s ns xs done x rest (by rw [h, ← hd]; simp) (by rw [h, ← hd]; simp) hxl hv hl (hall x (by rw [h]; simp) _ _ ?_ ?_) fun y => ?_
    · unfold inVars; split <;> simp
    · unfold inLabs; split <;> simp
    · exact ex_loop fs vs ls o t p k c s ns xs hxl hv hl hall rest (done ++ [y]) (pre ++ [x]) (by rw [h]; simp) (by simp [hd])
def exHp (ys : List Xp) : List Ent := if ys.length = 0 then [.box []] else [.gone]
theorem frz_x (ys : List Xp) (n : Nat) (hn : n = ys.length) (tm : List PV) (m : Nat) (h : tm.getD m .dead = .rowh 0 0 n) : frzOp ⟨tm, [.box (flatD (Xp.encs ys))]⟩ 8 true (.t m) = some (.d (.sl (Xp.encs ys)), ⟨tm, exHp ys⟩) := by
  subst hn
  by_cases h0 : ys.length = 0
  · obtain rfl := List.eq_nil_of_length_eq_zero h0
    unfold frzOp exHp
    simp only [St.x]
    rw [h]
    simp [Xp.encs, flatD]
  · have hr : rowEnt (Xp.encs ys) = .box (flatD (Xp.encs ys)) := by
      unfold rowEnt
      cases ys with
      | nil => simp at h0
      | cons y r => rfl
    have hag : AggRow 8 (Xp.encs ys) := by
      have := row_agg ys 0
      simpa using this
    have := frz_row (s := ⟨tm, [.box (flatD (Xp.encs ys))]⟩) (x := .t m) (id := 0) hag (by rw [xencs_len]; exact h) (by rw [hr]; rfl)
    rw [this]
    simp [exHp, h0]
theorem resL_len (fs : List Fn) (vs ls : List ByteArray) (o : Int) (t : ByteArray) : ∀ (xs : List Xp) (i : Nat) (ys : List Xp), resL fs vs ls o t i xs = .ok ys → xs.length = ys.length
  | [], i, ys, h => by
    rw [resL] at h
    cases h
    rfl
  | x :: r, i, ys, h => by
    rw [resL] at h
    split at h
    · simp at h
    · split at h
      · simp at h
      · rename_i zs hz
        cases h
        simp [resL_len fs vs ls o t r (i + 1) zs hz]
def ExK (o : Int) (t : ByteArray) (p k c s : Int) (ns : List ByteArray) (r : Res (List Xp)) (v : Option (Ex × St)) : Prop := match r with
  | .ok ys => ∃ hp, v = some (.ret, r38_R (x3D o t p k c s ns ys) hp)
  | .lost e => IsPan v (lostD e)
set_option maxHeartbeats 2000000 in
theorem ex_k4 (fs : List Fn) (vs ls : List ByteArray) (o : Int) (t : ByteArray) (p k c s : Int) (ns : List ByteArray) (xs : List Xp) (hxl : xs.length ≤ 1000000) (hnl : ns.length ≤ 1000000)
    (hL : ExLoop fs vs ls o t p k c s ns xs [] xs) :
    ExK o t p k c s ns (resL fs vs ls o t 0 xs) (V (F tab) (r38_K4 ()) (r38_J4 (.eptr (arD (fnDs fs) vs ls) 0) (x3D o t p k c s ns xs) x4D [])) := by
  have k1 : (0 ≤ (xs.length : Int)) = True := eq_true (by omega)
  have k2 : ((xs.length : Int) * ((104 : Nat) : Int) ≤ 140737488355328) = True := eq_true (by omega)
  have hmr : maxRow = 140737488355328 := by decide
  have k3 : (ns.length * 16 ≤ maxRow) = True := eq_true (by omega)
  have k4 : (0 + ns.length) = ns.length := by omega
  have hz := flat_zero xs.length
  unfold ExLoop at hL
  rw [List.length_nil] at hL
  simp only [Xp.encs, List.nil_append, Int.natCast_zero] at hL
  cases hq : resL fs vs ls o t 0 xs with
  | lost e =>
    rw [hq] at hL
    simp only [ExAns] at hL
    obtain ⟨s1, hL⟩ := hL
    unfold ExK
    simp only
    simp (disch := omega) only [go_sem, and_self, and_true, true_and, false_and, and_false, Nat.reduceAdd, Nat.reduceMul, Nat.reduceSub, Nat.reduceLeDiff, Nat.reduceLT, Nat.reduceGT, Nat.reduceEqDiff, Nat.reduceBEq, Int.reduceNeg, Int.reduceEq, Int.reduceLT, Int.reduceLE, Int.reduceBEq, Int.reduceToNat, Int.toNat_natCast, Int.natCast_zero, r38_K4, mksOp, k1, k2, xencs_len, hz]
    rw [r38_B0_n]
    erw [hL]
    simp (disch := omega) only [go_sem, and_self, and_true, true_and, false_and, and_false, Nat.reduceAdd, Nat.reduceMul, Nat.reduceSub, Nat.reduceLeDiff, Nat.reduceLT, Nat.reduceGT, Nat.reduceEqDiff, Nat.reduceBEq, Int.reduceNeg, Int.reduceEq, Int.reduceLT, Int.reduceLE, Int.reduceBEq, Int.reduceToNat, Int.toNat_natCast, Int.natCast_zero]
    exact ⟨_, rfl⟩
  | ok ys =>
    rw [hq] at hL
    simp only [ExAns, List.nil_append] at hL
    have hyl : xs.length = ys.length := resL_len fs vs ls o t xs 0 ys hq
    have hfz := fun tm m h => frz_x ys xs.length hyl tm m h
    unfold ExK
    simp only
    refine ⟨exHp ys, ?_⟩
    simp (disch := omega) only [go_sem, and_self, and_true, true_and, false_and, and_false, Nat.reduceAdd, Nat.reduceMul, Nat.reduceSub, Nat.reduceLeDiff, Nat.reduceLT, Nat.reduceGT, Nat.reduceEqDiff, Nat.reduceBEq, Int.reduceNeg, Int.reduceEq, Int.reduceLT, Int.reduceLE, Int.reduceBEq, Int.reduceToNat, Int.toNat_natCast, Int.natCast_zero, r38_K4, mksOp, k1, k2, xencs_len, hz]
    rw [r38_B0_n]
    erw [hL]
    simp (disch := omega) only [go_sem, and_self, and_true, true_and, false_and, and_false, Nat.reduceAdd, Nat.reduceMul, Nat.reduceSub, Nat.reduceLeDiff, Nat.reduceLT, Nat.reduceGT, Nat.reduceEqDiff, Nat.reduceBEq, Int.reduceNeg, Int.reduceEq, Int.reduceLT, Int.reduceLE, Int.reduceBEq, Int.reduceToNat, Int.toNat_natCast, Int.natCast_zero, r38_K3]
    rw [hfz _ _ rfl]
    simp (disch := omega) only [go_sem, and_self, and_true, true_and, false_and, and_false, Nat.reduceAdd, Nat.reduceMul, Nat.reduceSub, Nat.reduceLeDiff, Nat.reduceLT, Nat.reduceGT, Nat.reduceEqDiff, Nat.reduceBEq, Int.reduceNeg, Int.reduceEq, Int.reduceLT, Int.reduceLE, Int.reduceBEq, Int.reduceToNat, Int.toNat_natCast, Int.natCast_zero, k3, k4, strs_one, List.length_map]
end Go.Pe.T

namespace Go.Pe.T
def HeadOk (fs : List Fn) (vs ls : List ByteArray) (o : Int) (t : ByteArray) (k c s : Int) (ns : List ByteArray) (xs : List Xp) (hp : List Ent) (out : Out) : Option Int → Prop
  | some p => fnEnd r38 hp (V (F tab) (r38_K4 ()) (r38_J4 (.eptr (arD (fnDs fs) vs ls) 0) (x3D o t p k c s ns xs) x4D [])) = some out
  | none => out = .pan (lostD t) hp
set_option maxHeartbeats 4000000 in
theorem ex_head (fs : List Fn) (vs ls : List ByteArray) (o : Int) (t : ByteArray) (p k c s : Int) (ns : List ByteArray) (xs : List Xp) (hp : List Ent) (out : Out)
    (hfl : fs.length ≤ maxLen) (hv : vs.length ≤ 1000000) (hl : ls.length ≤ 1000000)
    (h : HeadOk fs vs ls o t k c s ns xs hp out (atV fs vs ls o t p xs.length)) : F tab 38 [.d (arD (fnDs fs) vs ls), .d (.agg [iv o, .str t, iv p, iv k, iv c, iv s, .sl (ns.map .str), .sl (Xp.encs xs)])] hp = some out := by
  have hmx : maxLen = 9223372036854775807 := by decide
  have m1 := last_ok vs t (by omega)
  have m2 := last_ok ls t (by omega)
  have m3 := call_ok fs vs ls o t (iv p) (iv k) (iv c) (iv s) (.sl (ns.map .str)) xs hfl
  have m3 := fun hp => m3 hp rfl rfl rfl rfl rfl
  unfold arD at m3 ⊢
  unfold atV at h
  refine f38 rfl ?_
  by_cases o2 : o = 2
  · subst o2
    rw [if_pos rfl] at h
    cases hq : (lastV vs t).map (fun i => (i : Int)) with
    | none =>
      rw [hq] at h m1
      obtain rfl : out = .pan (lostD t) hp := h
      simp only [atOut] at m1
      simp (disch := omega) only [go_sem, and_self, and_true, true_and, false_and, and_false, Nat.reduceAdd, Nat.reduceMul, Nat.reduceSub, Nat.reduceLeDiff, Nat.reduceLT, Nat.reduceGT, Nat.reduceEqDiff, Nat.reduceBEq, Int.reduceNeg, Int.reduceEq, Int.reduceLT, Int.reduceLE, Int.reduceBEq, Int.reduceToNat, Int.toNat_natCast, Int.natCast_zero, r38_T, m1]
      rfl
    | some i =>
      rw [hq] at h m1
      simp only [atOut] at m1
      simp (disch := omega) only [go_sem, and_self, and_true, true_and, false_and, and_false, Nat.reduceAdd, Nat.reduceMul, Nat.reduceSub, Nat.reduceLeDiff, Nat.reduceLT, Nat.reduceGT, Nat.reduceEqDiff, Nat.reduceBEq, Int.reduceNeg, Int.reduceEq, Int.reduceLT, Int.reduceLE, Int.reduceBEq, Int.reduceToNat, Int.toNat_natCast, Int.natCast_zero, r38_T, m1]
      exact h
  · have q2 : (o == 2) = false := by simpa using o2
    rw [if_neg o2] at h
    by_cases o16 : o = 16
    · subst o16
      rw [if_pos rfl] at h
      cases hq : callV fs t xs.length with
      | none =>
        rw [hq] at h m3
        obtain rfl : out = .pan (lostD t) hp := h
        simp only [atOut] at m3
        simp (disch := omega) only [go_sem, and_self, and_true, true_and, false_and, and_false, Nat.reduceAdd, Nat.reduceMul, Nat.reduceSub, Nat.reduceLeDiff, Nat.reduceLT, Nat.reduceGT, Nat.reduceEqDiff, Nat.reduceBEq, Int.reduceNeg, Int.reduceEq, Int.reduceLT, Int.reduceLE, Int.reduceBEq, Int.reduceToNat, Int.toNat_natCast, Int.natCast_zero, r38_T, m3]
        rfl
      | some i =>
        rw [hq] at h m3
        simp only [atOut] at m3
        simp (disch := omega) only [go_sem, and_self, and_true, true_and, false_and, and_false, Nat.reduceAdd, Nat.reduceMul, Nat.reduceSub, Nat.reduceLeDiff, Nat.reduceLT, Nat.reduceGT, Nat.reduceEqDiff, Nat.reduceBEq, Int.reduceNeg, Int.reduceEq, Int.reduceLT, Int.reduceLE, Int.reduceBEq, Int.reduceToNat, Int.toNat_natCast, Int.natCast_zero, r38_T, m3]
        exact h
    · have q16 : (o == 16) = false := by simpa using o16
      rw [if_neg o16] at h
      by_cases o19 : o = 19
      · subst o19
        rw [if_pos rfl] at h
        cases hq : (lastV ls t).map (fun i => (i : Int)) with
        | none =>
          rw [hq] at h m2
          obtain rfl : out = .pan (lostD t) hp := h
          simp only [atOut] at m2
          simp (disch := omega) only [go_sem, and_self, and_true, true_and, false_and, and_false, Nat.reduceAdd, Nat.reduceMul, Nat.reduceSub, Nat.reduceLeDiff, Nat.reduceLT, Nat.reduceGT, Nat.reduceEqDiff, Nat.reduceBEq, Int.reduceNeg, Int.reduceEq, Int.reduceLT, Int.reduceLE, Int.reduceBEq, Int.reduceToNat, Int.toNat_natCast, Int.natCast_zero, r38_T, m2]
          rfl
        | some i =>
          rw [hq] at h m2
          simp only [atOut] at m2
          simp (disch := omega) only [go_sem, and_self, and_true, true_and, false_and, and_false, Nat.reduceAdd, Nat.reduceMul, Nat.reduceSub, Nat.reduceLeDiff, Nat.reduceLT, Nat.reduceGT, Nat.reduceEqDiff, Nat.reduceBEq, Int.reduceNeg, Int.reduceEq, Int.reduceLT, Int.reduceLE, Int.reduceBEq, Int.reduceToNat, Int.toNat_natCast, Int.natCast_zero, r38_T, m2]
          exact h
      · have q19 : (o == 19) = false := by simpa using o19
        rw [if_neg o19] at h
        by_cases o18 : o = 18
        · subst o18
          rw [if_pos rfl] at h
          simp (disch := omega) only [go_sem, and_self, and_true, true_and, false_and, and_false, Nat.reduceAdd, Nat.reduceMul, Nat.reduceSub, Nat.reduceLeDiff, Nat.reduceLT, Nat.reduceGT, Nat.reduceEqDiff, Nat.reduceBEq, Int.reduceNeg, Int.reduceEq, Int.reduceLT, Int.reduceLE, Int.reduceBEq, Int.reduceToNat, Int.toNat_natCast, Int.natCast_zero, r38_T, List.length_map]
          exact h
        · have q18 : (o == 18) = false := by simpa using o18
          rw [if_neg o18] at h
          simp (disch := omega) only [go_sem, and_self, and_true, true_and, false_and, and_false, Nat.reduceAdd, Nat.reduceMul, Nat.reduceSub, Nat.reduceLeDiff, Nat.reduceLT, Nat.reduceGT, Nat.reduceEqDiff, Nat.reduceBEq, Int.reduceNeg, Int.reduceEq, Int.reduceLT, Int.reduceLE, Int.reduceBEq, Int.reduceToNat, Int.toNat_natCast, Int.natCast_zero, r38_T, q2, q16, q19, q18]
          exact h

theorem pres_le (xs : List Xp) (x : Xp) (hx : x ∈ xs) : x.pre.length ≤ (Xp.pres xs).length := by
  induction xs with
  | nil => simp at hx
  | cons y r ih =>
    simp only [Xp.pres, List.length_append]
    rcases List.mem_cons.1 hx with rfl | hx
    · omega
    · have := ih hx; omega
theorem pres_len (xs : List Xp) : xs.length ≤ (Xp.pres xs).length := by
  induction xs with
  | nil => simp
  | cons y r ih =>
    simp only [Xp.pres, List.length_append, List.length_cons]
    have := pre_pos y
    omega
mutual
/-- no row of names is long -/
def xfew : Xp → Prop
  | .mk o t p k c s ns xs => ns.length ≤ 1000000 ∧ xfews xs
def xfews : List Xp → Prop
  | [] => True
  | x :: r => xfew x ∧ xfews r
end
theorem fews_mem {xs : List Xp} {x : Xp} (h : xfews xs) (hx : x ∈ xs) : xfew x := by
  induction xs with
  | nil => simp at hx
  | cons y r ih =>
    rcases List.mem_cons.1 hx with rfl | hx
    · exact h.1
    · exact ih h.2 hx
theorem ex_step1 (fs : List Fn) (hfl : fs.length ≤ maxLen) (o : Int) (t : ByteArray) (p k c s : Int) (ns : List ByteArray) (xs : List Xp) (hnl : ns.length ≤ 1000000) (hall : ∀ x ∈ xs, ExIs fs x) : ExIs fs (.mk o t p k c s ns xs) := by
  intro vs ls hv hl hp
  have hxl := pres_len xs
  simp only [Xp.pre, List.length_cons] at hv hl
  have hL := fun p => ex_loop fs vs ls o t p k c s ns xs (by omega) (by omega) (by omega) (fun x hx vs' ls' h1 h2 hp => by
    have := pres_le xs x hx
    exact hall x hx vs' ls' (by omega) (by omega) hp) xs [] [] rfl rfl
  have hK := fun p => ex_k4 fs vs ls o t p k c s ns xs (by omega) hnl (hL p)
  rw [resX]
  cases ha : atV fs vs ls o t p xs.length with
  | none =>
    refine ex_head fs vs ls o t p k c s ns xs hp _ hfl (by omega) (by omega) ?_
    rw [ha]
    rfl
  | some p' =>
    have hK := hK p'
    simp only
    cases hq : resL fs vs ls o t 0 xs with
    | lost e =>
      rw [hq] at hK
      obtain ⟨s1, hs⟩ := hK
      refine ex_head fs vs ls o t p k c s ns xs hp _ hfl (by omega) (by omega) ?_
      rw [ha]
      simp only [HeadOk]
      rw [hs]
      rfl
    | ok ys =>
      rw [hq] at hK
      obtain ⟨hp', hs⟩ := hK
      refine ex_head fs vs ls o t p k c s ns xs hp _ hfl (by omega) (by omega) ?_
      rw [ha]
      simp only [HeadOk]
      rw [hs]
      simp only [go_sem, and_self, and_true, true_and, false_and, and_false, Nat.reduceAdd, Nat.reduceMul, Nat.reduceSub, Nat.reduceLeDiff, Nat.reduceLT, Nat.reduceGT, Nat.reduceEqDiff, Nat.reduceBEq, Int.reduceNeg, Int.reduceEq, Int.reduceLT, Int.reduceLE, Int.reduceBEq, Int.reduceToNat, Int.toNat_natCast, Int.natCast_zero, r38]
      rfl
theorem expr_ok (fs : List Fn) (hfl : fs.length ≤ maxLen) : ∀ (n : Nat) (x : Xp), SizeOf.sizeOf x ≤ n → xfew x → ExIs fs x
  | 0, x, h, _ => by cases x; simp at h
  | n + 1, .mk o t p k c s ns xs, h, hf => by
    rw [xfew] at hf
    refine ex_step1 fs hfl o t p k c s ns xs hf.1 fun x hx => expr_ok fs hfl n x ?_ (fews_mem hf.2 hx)
    have := List.sizeOf_lt_of_mem hx
    simp at h
    omega
end Go.Pe.T

namespace Go.Pe.T
/-! ### a program, resolved -/
def resF (fs : List Fn) : Nat → List Fn → Res (List Fn)
  | _, [] => .ok []
  | i, f :: r => match resX (fs.take (i + 1)) f.params [] f.body with
    | .lost e => .lost e
    | .ok y => match resF fs (i + 1) r with
      | .lost e => .lost e
      | .ok gs => .ok (⟨f.name, f.params, y⟩ :: gs)
def progD (fs : List Fn) (x : Xp) : D := .agg (.sl (fnDs fs) :: x.enc.cells)
/-- the row of what is resolved as yet -/
def rowG (gs : List Fn) : PV := if gs.length = 0 then .nilsl else .own 44 (fnDs gs)
def boxG (gs : List Fn) : Ent := .box [rowG gs, .d (.int .i64 0), .d (.str ⟨#[]⟩), .d (.int .i64 0), .d (.int .i64 0), .d (.int .i64 0), .d (.int .i64 0), .nilsl, .nilsl]
def hpG (gs : List Fn) : List Ent := [boxG gs, .box [.d (.str ⟨#[]⟩)], .box [.d (.int .i64 0)]]
/-- it has panicked; the results' boxes lie where they lay -/
def PanG (v : Option (Ex × St)) (d : D) : Prop := ∃ s a0 a1 a2 a3 a4 a5 a6 a7 a8 b c, v = some (.pan d, s) ∧ s.tm.getD 2 .dead = .ptr 0 0 ∧ s.tm.getD 3 .dead = .ptr 1 0 ∧ s.tm.getD 4 .dead = .ptr 2 0 ∧
  s.hp = [.box [a0, a1, a2, a3, a4, a5, a6, a7, a8], .box [b], .box [c]]
def RfAns (x1 : PV) (done : List Fn) (r : Res (List Fn)) (v : Option (Ex × St)) : Prop := match r with
  | .ok gs => v = some (.norm, r17_E0 x1 (.ptr 0 0) (.ptr 1 0) (.ptr 2 0) (hpG (done ++ gs)))
  | .lost t => PanG v (lostD t)
def RfLoop (fs : List Fn) (o : Int) (t : ByteArray) (p k c s : Int) (ns : List ByteArray) (xs : List Xp) (done rest : List Fn) : Prop :=
  RfAns (.eptr (.agg [.sl (fnDs fs), iv o, .str t, iv p, iv k, iv c, iv s, .sl (ns.map .str), .sl (Xp.encs xs)]) 0) done (resF fs done.length rest)
    (V (F tab) r17_B0 (r17_S0 (.eptr (.agg [.sl (fnDs fs), iv o, .str t, iv p, iv k, iv c, iv s, .sl (ns.map .str), .sl (Xp.encs xs)]) 0) (.ptr 0 0) (.ptr 1 0) (.ptr 2 0) (.d (.sl (fnDs fs))) (.d (iv fs.length)) (.d (iv done.length)) (hpG done)))
theorem rf_nil (fs : List Fn) (o : Int) (t : ByteArray) (p k c s : Int) (ns : List ByteArray) (xs : List Xp) (done : List Fn) (hn : done.length = fs.length) : RfLoop fs o t p k c s ns xs done [] := by
  have h1 : ((done.length : Int) < (fs.length : Int)) = False := eq_false (by omega)
  unfold RfLoop
  rw [resF, r17_B0_eq]
  simp (disch := omega) only [go_sem, and_self, and_true, true_and, false_and, and_false, Nat.reduceAdd, Nat.reduceMul, Nat.reduceSub, Nat.reduceLeDiff, Nat.reduceLT, Nat.reduceGT, Nat.reduceEqDiff, Nat.reduceBEq, Int.reduceNeg, Int.reduceEq, Int.reduceLT, Int.reduceLE, Int.reduceBEq, Int.reduceToNat, Int.toNat_natCast, Int.natCast_zero, r17_C0, h1, RfAns, List.append_nil]
theorem fn_as' (f : Fn) : ∃ (o : Int) (t : ByteArray) (p k c s : Int) (ns : List ByteArray) (xs : List Xp), f.body.enc = .agg [iv o, .str t, iv p, iv k, iv c, iv s, .sl (ns.map .str), .sl (Xp.encs xs)] ∧
    f.enc = .agg [.str f.name, .sl (f.params.map .str), iv o, .str t, iv p, iv k, iv c, iv s, .sl (ns.map .str), .sl (Xp.encs xs)] := by
  obtain ⟨o, t, p, k, c, s, ns, xs, ex⟩ := xenc_as f.body
  exact ⟨o, t, p, k, c, s, ns, xs, ex, by unfold Fn.enc; rw [ex]; rfl⟩
theorem fns_w (fs : List Fn) : ((fnDs fs).all fun y => y.width == 10) = true := by
  rw [List.all_eq_true]
  intro y hy
  unfold fnDs at hy
  rw [List.mem_map] at hy
  obtain ⟨f, _, rfl⟩ := hy
  obtain ⟨c0, c1, c2, c3, c4, c5, c6, c7, e⟩ := fn_as f
  rw [e]
  rfl
theorem thenR_pan {k : St → Option OR} {v : D} {s : St} : thenR k (some (.pan v s)) = some (.pan v s) := rfl
set_option maxHeartbeats 4000000 in
theorem rf_step (fs : List Fn) (o : Int) (t : ByteArray) (p k c s : Int) (ns : List ByteArray) (xs : List Xp) (done : List Fn) (f : Fn) (rest : List Fn)
    (hx : fs[done.length]? = some f) (hn : done.length + (rest.length + 1) = fs.length) (hfl : fs.length ≤ 1000) (hpl : f.params.length ≤ 1000)
    (IH : ∀ hp, F tab 38 [.d (arD (fnDs (fs.take (done.length + 1))) f.params []), .d f.body.enc] hp = ExOut hp (resX (fs.take (done.length + 1)) f.params [] f.body))
    (ih : ∀ y, RfLoop fs o t p k c s ns xs (done ++ [⟨f.name, f.params, y⟩]) rest) : RfLoop fs o t p k c s ns xs done (f :: rest) := by
  have h1 : ((done.length : Int) < (fs.length : Int)) = True := eq_true (by omega)
  have i0 : (0 ≤ (done.length : Int)) = True := eq_true (by omega)
  have i1 : (0 ≤ ((done.length : Int) + 1)) = True := eq_true (by omega)
  have i2 : ((done.length : Int) + 1 ≤ (fs.length : Int)) = True := eq_true (by omega)
  have hfd : (fnDs fs).length = fs.length := by rw [fnDs, List.length_map]
  have va : (fnDs fs)[done.length]? = some f.enc := by rw [fnDs, List.getElem?_map, hx]; rfl
  have hct : cutD (fnDs fs) 0 ((done.length : Int) + 1) = fnDs (fs.take (done.length + 1)) := by
    have e : ((done.length : Int) + 1).toNat = done.length + 1 := by omega
    simp [cutD, e, fnDs, List.map_take]
  have hmr : maxRow = 140737488355328 := by decide
  have k3 : (f.params.length * 16 ≤ maxRow) = True := eq_true (by omega)
  have k4 : (0 + f.params.length) = f.params.length := by omega
  obtain ⟨o', t', p', k', c', s', ns', xs', e1, e2⟩ := fn_as' f
  rw [e2] at va
  rw [e1] at IH
  unfold RfLoop
  rw [resF, r17_B0_eq]
  cases hr : resX (fs.take (done.length + 1)) f.params [] f.body with
  | lost e =>
    rw [hr] at IH
    simp only [ExOut] at IH
    simp only [RfAns]
    unfold arD at IH
    rw [List.map_nil] at IH
    have hw := fns_w fs
    unfold hpG boxG rowG
    by_cases h0 : done.length = 0
    · rw [if_pos h0]
      simp (disch := omega) only [go_sem, and_self, and_true, true_and, false_and, and_false, Nat.reduceAdd, Nat.reduceMul, Nat.reduceSub, Nat.reduceLeDiff, Nat.reduceLT, Nat.reduceGT, Nat.reduceEqDiff, Nat.reduceBEq, Int.reduceNeg, Int.reduceEq, Int.reduceLT, Int.reduceLE, Int.reduceBEq, Int.reduceToNat, Int.toNat_natCast, Int.natCast_zero, r17_C0, h1, i0, i1, i2, hfd, va, hct, k3, k4, strs_one, List.length_map, IH, w64, thenR_pan, hw]
      exact ⟨_, .dead, .dead, .dead, .dead, .dead, .dead, .dead, .dead, .dead, .dead, .dead, rfl, rfl, rfl, rfl, rfl⟩
    · rw [if_neg h0]
      simp (disch := omega) only [go_sem, and_self, and_true, true_and, false_and, and_false, Nat.reduceAdd, Nat.reduceMul, Nat.reduceSub, Nat.reduceLeDiff, Nat.reduceLT, Nat.reduceGT, Nat.reduceEqDiff, Nat.reduceBEq, Int.reduceNeg, Int.reduceEq, Int.reduceLT, Int.reduceLE, Int.reduceBEq, Int.reduceToNat, Int.toNat_natCast, Int.natCast_zero, r17_C0, h1, i0, i1, i2, hfd, va, hct, k3, k4, strs_one, List.length_map, IH, w64, thenR_pan, hw]
      exact ⟨_, .dead, .dead, .dead, .dead, .dead, .dead, .dead, .dead, .dead, .dead, .dead, rfl, rfl, rfl, rfl, rfl⟩
  | ok y =>
    rw [hr] at IH
    simp only [ExOut] at IH
    have ih := ih y
    unfold RfLoop at ih
    have hdl : (done ++ [(⟨f.name, f.params, y⟩ : Fn)]).length = done.length + 1 := by simp
    rw [hdl, Int.natCast_add, Int.natCast_one] at ih
    unfold arD at IH
    rw [List.map_nil] at IH
    have hw := fns_w fs
    obtain ⟨oy, ty, py, ky, cy, sy, nsy, xsy, ey⟩ := xenc_as y
    rw [ey] at IH
    have hfe : fnDs (done ++ [(⟨f.name, f.params, y⟩ : Fn)]) = fnDs done ++ [.agg [.str f.name, .sl (f.params.map .str), iv oy, .str ty, iv py, iv ky, iv cy, iv sy, .sl (nsy.map .str), .sl (Xp.encs xsy)]] := by
      simp only [fnDs, List.map_append, List.map_cons, List.map_nil, Fn.enc, ey]
      rfl
    have hgd : (fnDs done).length = done.length := by rw [fnDs, List.length_map]
    have k5 : ((done.length + 1) * 144 ≤ maxRow) = True := eq_true (by omega)
    have k6 : ((0 + 1) * 144 ≤ maxRow) = True := eq_true (by omega)
    have k7 : (1 * 144 ≤ maxRow) = True := eq_true (by omega)
    have k8 : (144 ≤ maxRow) = True := eq_true (by omega)
    cases hq : resF fs (done.length + 1) rest with
    | lost e =>
      rw [hq] at ih
      simp only [RfAns] at ih ⊢
      unfold hpG boxG rowG at ih ⊢
      rw [if_neg (by simp), hfe] at ih
      by_cases h0 : done.length = 0
      · rw [if_pos h0]
        have hd0 : fnDs done = [] := by rw [List.eq_nil_of_length_eq_zero h0]; rfl
        rw [hd0, List.nil_append] at ih
        simp (disch := omega) only [go_sem, and_self, and_true, true_and, false_and, and_false, Nat.reduceAdd, Nat.reduceMul, Nat.reduceSub, Nat.reduceLeDiff, Nat.reduceLT, Nat.reduceGT, Nat.reduceEqDiff, Nat.reduceBEq, Int.reduceNeg, Int.reduceEq, Int.reduceLT, Int.reduceLE, Int.reduceBEq, Int.reduceToNat, Int.toNat_natCast, Int.natCast_zero, r17_C0, h1, i0, i1, i2, hfd, va, hct, k3, k4, strs_one, List.length_map, IH, w64, thenR_pan, hw, k6, k7, k8]
        exact ih
      · rw [if_neg h0]
        simp (disch := omega) only [go_sem, and_self, and_true, true_and, false_and, and_false, Nat.reduceAdd, Nat.reduceMul, Nat.reduceSub, Nat.reduceLeDiff, Nat.reduceLT, Nat.reduceGT, Nat.reduceEqDiff, Nat.reduceBEq, Int.reduceNeg, Int.reduceEq, Int.reduceLT, Int.reduceLE, Int.reduceBEq, Int.reduceToNat, Int.toNat_natCast, Int.natCast_zero, r17_C0, h1, i0, i1, i2, hfd, va, hct, k3, k4, strs_one, List.length_map, IH, w64, thenR_pan, hw, hgd, k5]
        exact ih
    | ok gs =>
      rw [hq] at ih
      simp only [RfAns, List.append_assoc, List.cons_append, List.nil_append] at ih ⊢
      generalize hE : r17_E0 _ _ _ _ _ = E at ih ⊢
      unfold hpG boxG rowG at ih ⊢
      rw [if_neg (by simp), hfe] at ih
      by_cases h0 : done.length = 0
      · rw [if_pos h0]
        have hd0 : fnDs done = [] := by rw [List.eq_nil_of_length_eq_zero h0]; rfl
        rw [hd0, List.nil_append] at ih
        simp (disch := omega) only [go_sem, and_self, and_true, true_and, false_and, and_false, Nat.reduceAdd, Nat.reduceMul, Nat.reduceSub, Nat.reduceLeDiff, Nat.reduceLT, Nat.reduceGT, Nat.reduceEqDiff, Nat.reduceBEq, Int.reduceNeg, Int.reduceEq, Int.reduceLT, Int.reduceLE, Int.reduceBEq, Int.reduceToNat, Int.toNat_natCast, Int.natCast_zero, r17_C0, h1, i0, i1, i2, hfd, va, hct, k3, k4, strs_one, List.length_map, IH, w64, thenR_pan, hw, k6, k7, k8]
        exact ih
      · rw [if_neg h0]
        simp (disch := omega) only [go_sem, and_self, and_true, true_and, false_and, and_false, Nat.reduceAdd, Nat.reduceMul, Nat.reduceSub, Nat.reduceLeDiff, Nat.reduceLT, Nat.reduceGT, Nat.reduceEqDiff, Nat.reduceBEq, Int.reduceNeg, Int.reduceEq, Int.reduceLT, Int.reduceLE, Int.reduceBEq, Int.reduceToNat, Int.toNat_natCast, Int.natCast_zero, r17_C0, h1, i0, i1, i2, hfd, va, hct, k3, k4, strs_one, List.length_map, IH, w64, thenR_pan, hw, hgd, k5]
        exact ih
end Go.Pe.T

namespace Go.Pe.T
/-- what is asked of a function -/
structure FnOk (f : Fn) : Prop where
  params : f.params.length ≤ 1000
  few : xfew f.body
  pre : f.body.pre.length ≤ 100000
theorem rf_loop (fs : List Fn) (o : Int) (t : ByteArray) (p k c s : Int) (ns : List ByteArray) (xs : List Xp) (hfl : fs.length ≤ 1000) (hok : ∀ f ∈ fs, FnOk f) :
    ∀ (rest done pre : List Fn), fs = pre ++ rest → pre.length = done.length → RfLoop fs o t p k c s ns xs done rest
  | [], done, pre, h, hd => rf_nil fs o t p k c s ns xs done (by rw [h, ← hd]; simp)
  | f :: rest, done, pre, h, hd => by
    have hmx : maxLen = 9223372036854775807 := by decide
    have hf := hok f (by rw [h]; simp)
    refine rf_step fs o t p k c s ns xs done f rest (by rw [h, ← hd]; simp) (by rw [h, ← hd]; simp) hfl hf.params ?_ fun y => ?_
    · have h1 := hf.pre
      have h2 := hf.params
      exact expr_ok (fs.take (done.length + 1)) (by rw [List.length_take]; omega) _ f.body (Nat.le_refl _) hf.few f.params [] (by omega) (by simp; omega)
    · exact rf_loop fs o t p k c s ns xs hfl hok rest (done ++ [⟨f.name, f.params, y⟩]) (pre ++ [f]) (by rw [h]; simp) (by simp [hd])
theorem prog_as (fs : List Fn) (x : Xp) : ∃ (o : Int) (t : ByteArray) (p k c s : Int) (ns : List ByteArray) (xs : List Xp), x.enc = .agg [iv o, .str t, iv p, iv k, iv c, iv s, .sl (ns.map .str), .sl (Xp.encs xs)] ∧
    progD fs x = .agg [.sl (fnDs fs), iv o, .str t, iv p, iv k, iv c, iv s, .sl (ns.map .str), .sl (Xp.encs xs)] := by
  cases x; exact ⟨_, _, _, _, _, _, _, _, rfl, rfl⟩
def zpD : D := .agg [.sl [], iv 0, .str ⟨#[]⟩, iv 0, iv 0, iv 0, iv 0, .sl [], .sl []]
def nilB : ByteArray := ⟨#[]⟩
theorem res_no (fs : List Fn) (x : Xp) (hi : ∀ hp, F tab 16 [.d (progD fs x)] hp = some (.ret (.d (.bool false)) hp)) (hp : List Ent) : F tab 17 [.d (progD fs x)] hp = some (.ret (.tup [.d zpD, .d (.str nilB), .d (iv 1)]) hp) := by
  obtain ⟨o, t, p, k, c, s, ns, xs, e1, e2⟩ := prog_as fs x
  rw [e2] at hi
  rw [e2]
  refine f17 rfl ?_
  simp (disch := omega) only [go_sem, and_self, and_true, true_and, false_and, and_false, Nat.reduceAdd, Nat.reduceMul, Nat.reduceSub, Nat.reduceLeDiff, Nat.reduceLT, Nat.reduceGT, Nat.reduceEqDiff, Nat.reduceBEq, Int.reduceNeg, Int.reduceEq, Int.reduceLT, Int.reduceLE, Int.reduceBEq, Int.reduceToNat, Int.toNat_natCast, Int.natCast_zero, r17_Y, VTri, r17_A0, r17_A1, r17_D, hi, hold, r17]
  rfl
theorem panG_fin {v : Option (Ex × St)} {nm : ByteArray} (h : PanG v (lostD nm)) (hp : List Ent) : fnEnd r17 hp (VFin (F tab) r17_Hd [.ptr 0 0, .ptr 1 0, .ptr 2 0] v) = some (.ret (.tup [.d zpD, .d (.str nm), .d (iv 15)]) hp) := by
  obtain ⟨s, a0, a1, a2, a3, a4, a5, a6, a7, a8, b, c, rfl, h2, h3, h4, h5⟩ := h
  obtain ⟨tm, hp'⟩ := s
  subst h5
  simp only at h2 h3 h4
  simp (disch := omega) only [go_sem, and_self, and_true, true_and, false_and, and_false, Nat.reduceAdd, Nat.reduceMul, Nat.reduceSub, Nat.reduceLeDiff, Nat.reduceLT, Nat.reduceGT, Nat.reduceEqDiff, Nat.reduceBEq, Int.reduceNeg, Int.reduceEq, Int.reduceLT, Int.reduceLE, Int.reduceBEq, Int.reduceToNat, Int.toNat_natCast, Int.natCast_zero, VFin, VH, r17_Hd, r37_H, PV.isPtr, List.replicate, isnD, lostD, tasD, hold, r17, h2, h3, h4]
  rfl
theorem panG_seq {v : Option (Ex × St)} {d : D} {f : St → Option (Ex × St)} (h : PanG v d) : PanG (seqK f v) d := by
  obtain ⟨s, a0, a1, a2, a3, a4, a5, a6, a7, a8, b, c, rfl, h⟩ := h
  exact ⟨s, a0, a1, a2, a3, a4, a5, a6, a7, a8, b, c, rfl, h⟩
set_option maxHeartbeats 2000000 in
theorem res_lostF (fs : List Fn) (x : Xp) (nm : ByteArray) (hfl : fs.length ≤ 1000) (hok : ∀ f ∈ fs, FnOk f) (hi : ∀ hp, F tab 16 [.d (progD fs x)] hp = some (.ret (.d (.bool true)) hp)) (hr : resF fs 0 fs = .lost nm) (hp : List Ent) :
    F tab 17 [.d (progD fs x)] hp = some (.ret (.tup [.d zpD, .d (.str nm), .d (iv 15)]) hp) := by
  obtain ⟨o, t, p, k, c, s, ns, xs, e1, e2⟩ := prog_as fs x
  have hL := rf_loop fs o t p k c s ns xs hfl hok fs [] [] rfl rfl
  unfold RfLoop at hL
  rw [List.length_nil, hr] at hL
  simp only [RfAns] at hL
  have hL2 := fun f => panG_fin (panG_seq (f := f) hL) hp
  rw [e2] at hi
  rw [e2]
  have hfd : (fnDs fs).length = fs.length := by rw [fnDs, List.length_map]
  refine f17 rfl ?_
  simp (disch := omega) only [go_sem, and_self, and_true, true_and, false_and, and_false, Nat.reduceAdd, Nat.reduceMul, Nat.reduceSub, Nat.reduceLeDiff, Nat.reduceLT, Nat.reduceGT, Nat.reduceEqDiff, Nat.reduceBEq, Int.reduceNeg, Int.reduceEq, Int.reduceLT, Int.reduceLE, Int.reduceBEq, Int.reduceToNat, Int.toNat_natCast, Int.natCast_zero, r17_Y, VTri, r17_A0, r17_A1, r17_D, hi, hold, hfd, PV.isPtr]
  rw [r17_B0_n]
  exact hL2 _
set_option maxHeartbeats 2000000 in
theorem res_ok (fs : List Fn) (x : Xp) (gs : List Fn) (hfl : fs.length ≤ 1000) (hok : ∀ f ∈ fs, FnOk f) (hf : xfew x) (hl : x.pre.length ≤ 100000) (hi : ∀ hp, F tab 16 [.d (progD fs x)] hp = some (.ret (.d (.bool true)) hp)) (hr : resF fs 0 fs = .ok gs) (hp : List Ent) :
    F tab 17 [.d (progD fs x)] hp = some (.ret (.tup (match resX fs [] [] x with
      | .ok y => [.d (progD gs y), .d (.str nilB), .d (iv 0)]
      | .lost nm => [.d zpD, .d (.str nm), .d (iv 15)])) hp) := by
  have hmx : maxLen = 9223372036854775807 := by decide
  obtain ⟨o, t, p, k, c, s, ns, xs, e1, e2⟩ := prog_as fs x
  have hL := rf_loop fs o t p k c s ns xs hfl hok fs [] [] rfl rfl
  have he := expr_ok fs (by omega) _ x (Nat.le_refl _) hf [] [] (by simp; omega) (by simp; omega)
  unfold RfLoop at hL
  rw [List.length_nil, hr] at hL
  simp only [RfAns, List.nil_append] at hL
  rw [e1] at he
  rw [e2] at hi
  rw [e2]
  unfold arD at he
  rw [List.map_nil] at he
  have hfd : (fnDs fs).length = fs.length := by rw [fnDs, List.length_map]
  cases hq : resX fs [] [] x with
  | lost nm =>
    rw [hq] at he
    simp only [ExOut, lostD] at he
    refine f17 rfl ?_
    simp (disch := omega) only [go_sem, and_self, and_true, true_and, false_and, and_false, Nat.reduceAdd, Nat.reduceMul, Nat.reduceSub, Nat.reduceLeDiff, Nat.reduceLT, Nat.reduceGT, Nat.reduceEqDiff, Nat.reduceBEq, Int.reduceNeg, Int.reduceEq, Int.reduceLT, Int.reduceLE, Int.reduceBEq, Int.reduceToNat, Int.toNat_natCast, Int.natCast_zero, r17_Y, VTri, r17_A0, r17_A1, r17_D, hi, hold, hfd, PV.isPtr]
    rw [r17_B0_n]
    erw [hL]
    unfold hpG boxG
    simp (disch := omega) only [go_sem, and_self, and_true, true_and, false_and, and_false, Nat.reduceAdd, Nat.reduceMul, Nat.reduceSub, Nat.reduceLeDiff, Nat.reduceLT, Nat.reduceGT, Nat.reduceEqDiff, Nat.reduceBEq, Int.reduceNeg, Int.reduceEq, Int.reduceLT, Int.reduceLE, Int.reduceBEq, Int.reduceToNat, Int.toNat_natCast, Int.natCast_zero, he, thenR_pan]
    refine panG_fin (nm := nm) ?_ hp
    exact ⟨_, _, _, _, _, _, _, _, _, _, _, _, rfl, rfl, rfl, rfl, rfl⟩
  | ok y =>
    rw [hq] at he
    obtain ⟨o', t', p', k', c', s', ns', xs', e3, e4⟩ := prog_as gs y
    simp only [ExOut] at he
    rw [e3] at he
    simp only
    rw [e4]
    refine f17 rfl ?_
    simp (disch := omega) only [go_sem, and_self, and_true, true_and, false_and, and_false, Nat.reduceAdd, Nat.reduceMul, Nat.reduceSub, Nat.reduceLeDiff, Nat.reduceLT, Nat.reduceGT, Nat.reduceEqDiff, Nat.reduceBEq, Int.reduceNeg, Int.reduceEq, Int.reduceLT, Int.reduceLE, Int.reduceBEq, Int.reduceToNat, Int.toNat_natCast, Int.natCast_zero, r17_Y, VTri, r17_A0, r17_A1, r17_D, hi, hold, hfd, PV.isPtr]
    rw [r17_B0_n]
    erw [hL]
    unfold hpG boxG rowG
    by_cases h0 : gs.length = 0
    · obtain rfl := List.eq_nil_of_length_eq_zero h0
      rw [if_pos h0]
      simp (disch := omega) only [go_sem, and_self, and_true, true_and, false_and, and_false, Nat.reduceAdd, Nat.reduceMul, Nat.reduceSub, Nat.reduceLeDiff, Nat.reduceLT, Nat.reduceGT, Nat.reduceEqDiff, Nat.reduceBEq, Int.reduceNeg, Int.reduceEq, Int.reduceLT, Int.reduceLE, Int.reduceBEq, Int.reduceToNat, Int.toNat_natCast, Int.natCast_zero, he, VFin, VH, r17_Hd, r37_H, PV.isPtr, List.replicate, isnD, hold, r17]
      rfl
    · rw [if_neg h0]
      simp (disch := omega) only [go_sem, and_self, and_true, true_and, false_and, and_false, Nat.reduceAdd, Nat.reduceMul, Nat.reduceSub, Nat.reduceLeDiff, Nat.reduceLT, Nat.reduceGT, Nat.reduceEqDiff, Nat.reduceBEq, Int.reduceNeg, Int.reduceEq, Int.reduceLT, Int.reduceLE, Int.reduceBEq, Int.reduceToNat, Int.toNat_natCast, Int.natCast_zero, he, VFin, VH, r17_Hd, r37_H, PV.isPtr, List.replicate, isnD, hold, r17]
      rfl
end Go.Pe.T

namespace Go.Pe.T
/-! ### the law's own functions on expressions: bare, other -/
mutual
def bareX : Xp → Xp
  | .mk o t p k c s ns xs => .mk o t 0 k c s ns (bareXs xs)
def bareXs : List Xp → List Xp
  | [] => []
  | x :: r => bareX x :: bareXs r
end
theorem bareXs_len : ∀ xs, (bareXs xs).length = xs.length
  | [] => rfl
  | x :: r => by simp [bareXs, bareXs_len r]
theorem bareXs_get : ∀ (xs : List Xp) (i : Nat), (bareXs xs)[i]? = xs[i]?.map bareX
  | [], i => by simp [bareXs]
  | x :: r, 0 => rfl
  | x :: r, i + 1 => by simp only [bareXs, List.getElem?_cons_succ]; exact bareXs_get r i
def vB (t : ByteArray) : ByteArray := ⟨#[118, 95]⟩ ++ t
def isVar (o : Int) : Bool := o == 2 || o == 17 || o == 13 || o == 14
mutual
/-- an expression whose variables have other names -/
def othX : Xp → Xp
  | .mk o t p k c s ns xs => .mk o (if isVar o then vB t else t) p k c s ns (othXs xs)
def othXs : List Xp → List Xp
  | [] => []
  | x :: r => othX x :: othXs r
end
theorem othXs_len : ∀ xs, (othXs xs).length = xs.length
  | [] => rfl
  | x :: r => by simp [othXs, othXs_len r]
theorem othXs_get : ∀ (xs : List Xp) (i : Nat), (othXs xs)[i]? = xs[i]?.map othX
  | [], i => by simp [othXs]
  | x :: r, 0 => rfl
  | x :: r, i + 1 => by simp only [othXs, List.getElem?_cons_succ]; exact othXs_get r i
abbrev x3E (o : Int) (t : ByteArray) (p k c s : Int) (ns : List ByteArray) (xs : List Xp) : PV := .ibox [.d (iv o), .d (.str t), .d (iv p), .d (iv k), .d (iv c), .d (iv s), .d (.sl (ns.map .str)), .d (.sl (Xp.encs xs))]
abbrev x4E : PV := .ibox [.d (.int .i64 0), .d (.str ⟨#[]⟩), .d (.int .i64 0), .d (.int .i64 0), .d (.int .i64 0), .d (.int .i64 0), .nilsl, .nilsl]
def BaIs (x : Xp) : Prop := ∀ hp : List Ent, F tab 19 [.d x.enc] hp = some (.ret (.d (bareX x).enc) hp)
def BaLoop (o : Int) (t : ByteArray) (k c s : Int) (ns : List ByteArray) (xs : List Xp) (i : Nat) : Prop :=
  V (F tab) r19_B0 (r19_S0 (x3E o t 0 k c s ns xs) x4E (.own 34 (Xp.encs ((bareXs xs).take i))) (.d (iv i)) []) =
    some (.norm, r19_E0 (x3E o t 0 k c s ns xs) x4E (.own 34 (Xp.encs (bareXs xs))) [])
theorem ba_end (o : Int) (t : ByteArray) (k c s : Int) (ns : List ByteArray) (xs : List Xp) : BaLoop o t k c s ns xs xs.length := by
  have h1 : ((xs.length : Int) < (xs.length : Int)) = False := eq_false (by omega)
  unfold BaLoop
  rw [List.take_of_length_le (by rw [bareXs_len]; omega), r19_B0_eq]
  simp (disch := omega) only [go_sem, and_self, and_true, true_and, false_and, and_false, Nat.reduceAdd, Nat.reduceMul, Nat.reduceSub, Nat.reduceLeDiff, Nat.reduceLT, Nat.reduceGT, Nat.reduceEqDiff, Nat.reduceBEq, Int.reduceNeg, Int.reduceEq, Int.reduceLT, Int.reduceLE, Int.reduceBEq, Int.reduceToNat, Int.toNat_natCast, Int.natCast_zero, r19_C0, h1, xencs_len]
theorem ba_step (o : Int) (t : ByteArray) (k c s : Int) (ns : List ByteArray) (xs : List Xp) (hl : xs.length ≤ 1000000) (i : Nat) (hi : i < xs.length) (hx : BaIs xs[i]) (ih : BaLoop o t k c s ns xs (i + 1)) : BaLoop o t k c s ns xs i := by
  have h1 : ((i : Int) < (xs.length : Int)) = True := eq_true (by omega)
  have i0 : (0 ≤ (i : Int)) = True := eq_true (by omega)
  have va : (Xp.encs xs)[i]? = some xs[i].enc := by rw [xencs_get, List.getElem?_eq_getElem hi]; rfl
  have hb : (bareXs xs).take (i + 1) = (bareXs xs).take i ++ [bareX xs[i]] := by
    rw [List.take_add_one, bareXs_get, List.getElem?_eq_getElem hi]; rfl
  have hmr : maxRow = 140737488355328 := by decide
  have hbl : ((bareXs xs).take i).length = i := by rw [List.length_take, bareXs_len]; omega
  have k1 : ((i + 1) * 104 ≤ maxRow) = True := eq_true (by omega)
  unfold BaLoop at ih ⊢
  rw [hb, xencs_app, Int.natCast_add, Int.natCast_one] at ih
  unfold BaIs at hx
  have hle : (Xp.encs ((bareXs xs).take i)).length = i := by rw [xencs_len, hbl]
  rw [r19_B0_eq]
  generalize xs[i] = x at *
  generalize (bareXs xs).take i = done at *
  obtain ⟨o', t', p', k', c', s', ns', xs', ex⟩ := xenc_as x
  have hw := xenc_w (bareX x)
  rw [ex] at va hx
  simp (disch := omega) only [go_sem, and_self, and_true, true_and, false_and, and_false, Nat.reduceAdd, Nat.reduceMul, Nat.reduceSub, Nat.reduceLeDiff, Nat.reduceLT, Nat.reduceGT, Nat.reduceEqDiff, Nat.reduceBEq, Int.reduceNeg, Int.reduceEq, Int.reduceLT, Int.reduceLE, Int.reduceBEq, Int.reduceToNat, Int.toNat_natCast, Int.natCast_zero, r19_C0, h1, xencs_len, i0, va, hx, hw, hle, k1, w64]
  exact ih
theorem ba_loop (o : Int) (t : ByteArray) (k c s : Int) (ns : List ByteArray) (xs : List Xp) (hl : xs.length ≤ 1000000) (hx : ∀ x ∈ xs, BaIs x) : ∀ (j i : Nat), i + j = xs.length → BaLoop o t k c s ns xs i
  | 0, i, hi => by
    obtain rfl : i = xs.length := by omega
    exact ba_end o t k c s ns xs
  | j + 1, i, hi => ba_step o t k c s ns xs hl i (by omega) (hx _ (List.getElem_mem _)) (ba_loop o t k c s ns xs hl hx j (i + 1) (by omega))
theorem ba_top (o : Int) (t : ByteArray) (p k c s : Int) (ns : List ByteArray) (xs : List Xp) (hL : BaLoop o t k c s ns xs 0) : BaIs (.mk o t p k c s ns xs) := by
  intro hp
  unfold BaLoop at hL
  rw [List.take_zero] at hL
  refine f19 rfl ?_
  rw [bareX, Xp.enc, Xp.enc]
  simp (disch := omega) only [go_sem, and_self, and_true, true_and, false_and, and_false, Nat.reduceAdd, Nat.reduceMul, Nat.reduceSub, Nat.reduceLeDiff, Nat.reduceLT, Nat.reduceGT, Nat.reduceEqDiff, Nat.reduceBEq, Int.reduceNeg, Int.reduceEq, Int.reduceLT, Int.reduceLE, Int.reduceBEq, Int.reduceToNat, Int.toNat_natCast, Int.natCast_zero, r19_T]
  rw [r19_B0_n, r19_B0_z3]
  erw [hL]
  simp (disch := omega) only [go_sem, and_self, and_true, true_and, false_and, and_false, Nat.reduceAdd, Nat.reduceMul, Nat.reduceSub, Nat.reduceLeDiff, Nat.reduceLT, Nat.reduceGT, Nat.reduceEqDiff, Nat.reduceBEq, Int.reduceNeg, Int.reduceEq, Int.reduceLT, Int.reduceLE, Int.reduceBEq, Int.reduceToNat, Int.toNat_natCast, Int.natCast_zero, r19]
theorem bare_ok (N : Nat) (hN : N ≤ 1000000) : ∀ (n : Nat) (x : Xp), SizeOf.sizeOf x ≤ n → x.pre.length ≤ N → BaIs x
  | 0, x, h, _ => by cases x; simp at h
  | n + 1, .mk o t p k c s ns xs, h, hp => by
    simp only [Xp.pre, List.length_cons] at hp
    have hxl := pres_len xs
    refine ba_top o t p k c s ns xs (ba_loop o t k c s ns xs (by omega) (fun x hx => bare_ok N hN n x ?_ ?_) xs.length 0 (by omega))
    · have := List.sizeOf_lt_of_mem hx
      simp at h
      omega
    · have := pres_le xs x hx
      omega
end Go.Pe.T

namespace Go.Pe.T
def OtIs (x : Xp) : Prop := ∀ hp : List Ent, F tab 21 [.d x.enc] hp = some (.ret (.d (othX x).enc) hp)
def OtLoop (o : Int) (t : ByteArray) (p k c s : Int) (ns : List ByteArray) (xs : List Xp) (i : Nat) : Prop :=
  V (F tab) r21_B0 (r21_S0 (x3E o t p k c s ns xs) x4E (.own 34 (Xp.encs ((othXs xs).take i))) (.d (iv i)) []) =
    some (.norm, r21_E0 (x3E o t p k c s ns xs) x4E (.own 34 (Xp.encs (othXs xs))) [])
theorem ot_end (o : Int) (t : ByteArray) (p k c s : Int) (ns : List ByteArray) (xs : List Xp) : OtLoop o t p k c s ns xs xs.length := by
  have h1 : ((xs.length : Int) < (xs.length : Int)) = False := eq_false (by omega)
  unfold OtLoop
  rw [List.take_of_length_le (by rw [othXs_len]; omega), r21_B0_eq]
  simp (disch := omega) only [go_sem, and_self, and_true, true_and, false_and, and_false, Nat.reduceAdd, Nat.reduceMul, Nat.reduceSub, Nat.reduceLeDiff, Nat.reduceLT, Nat.reduceGT, Nat.reduceEqDiff, Nat.reduceBEq, Int.reduceNeg, Int.reduceEq, Int.reduceLT, Int.reduceLE, Int.reduceBEq, Int.reduceToNat, Int.toNat_natCast, Int.natCast_zero, r21_C0, h1, xencs_len]
theorem ot_step (o : Int) (t : ByteArray) (p k c s : Int) (ns : List ByteArray) (xs : List Xp) (hl : xs.length ≤ 1000000) (i : Nat) (hi : i < xs.length) (hx : OtIs xs[i]) (ih : OtLoop o t p k c s ns xs (i + 1)) : OtLoop o t p k c s ns xs i := by
  have h1 : ((i : Int) < (xs.length : Int)) = True := eq_true (by omega)
  have i0 : (0 ≤ (i : Int)) = True := eq_true (by omega)
  have va : (Xp.encs xs)[i]? = some xs[i].enc := by rw [xencs_get, List.getElem?_eq_getElem hi]; rfl
  have hb : (othXs xs).take (i + 1) = (othXs xs).take i ++ [othX xs[i]] := by
    rw [List.take_add_one, othXs_get, List.getElem?_eq_getElem hi]; rfl
  have hmr : maxRow = 140737488355328 := by decide
  have hbl : ((othXs xs).take i).length = i := by rw [List.length_take, othXs_len]; omega
  have k1 : ((i + 1) * 104 ≤ maxRow) = True := eq_true (by omega)
  unfold OtLoop at ih ⊢
  rw [hb, xencs_app, Int.natCast_add, Int.natCast_one] at ih
  unfold OtIs at hx
  have hle : (Xp.encs ((othXs xs).take i)).length = i := by rw [xencs_len, hbl]
  rw [r21_B0_eq]
  generalize xs[i] = x at *
  generalize (othXs xs).take i = done at *
  obtain ⟨o', t', p', k', c', s', ns', xs', ex⟩ := xenc_as x
  have hw := xenc_w (othX x)
  rw [ex] at va hx
  simp (disch := omega) only [go_sem, and_self, and_true, true_and, false_and, and_false, Nat.reduceAdd, Nat.reduceMul, Nat.reduceSub, Nat.reduceLeDiff, Nat.reduceLT, Nat.reduceGT, Nat.reduceEqDiff, Nat.reduceBEq, Int.reduceNeg, Int.reduceEq, Int.reduceLT, Int.reduceLE, Int.reduceBEq, Int.reduceToNat, Int.toNat_natCast, Int.natCast_zero, r21_C0, h1, xencs_len, i0, va, hx, hw, hle, k1, w64]
  exact ih
theorem ot_loop (o : Int) (t : ByteArray) (p k c s : Int) (ns : List ByteArray) (xs : List Xp) (hl : xs.length ≤ 1000000) (hx : ∀ x ∈ xs, OtIs x) : ∀ (j i : Nat), i + j = xs.length → OtLoop o t p k c s ns xs i
  | 0, i, hi => by
    obtain rfl : i = xs.length := by omega
    exact ot_end o t p k c s ns xs
  | j + 1, i, hi => ot_step o t p k c s ns xs hl i (by omega) (hx _ (List.getElem_mem _)) (ot_loop o t p k c s ns xs hl hx j (i + 1) (by omega))
mutual
/-- no name is long -/
def shortX : Xp → Prop
  | .mk o t p k c s ns xs => t.size ≤ 12 ∧ shortXs xs
def shortXs : List Xp → Prop
  | [] => True
  | x :: r => shortX x ∧ shortXs r
end
theorem shorts_mem {xs : List Xp} {x : Xp} (h : shortXs xs) (hx : x ∈ xs) : shortX x := by
  induction xs with
  | nil => simp at hx
  | cons y r ih =>
    rcases List.mem_cons.1 hx with rfl | hx
    · exact h.1
    · exact ih h.2 hx
set_option maxHeartbeats 2000000 in
theorem ot_top (o : Int) (t : ByteArray) (p k c s : Int) (ns : List ByteArray) (xs : List Xp) (ht : t.size ≤ 12) (hL : ∀ t, OtLoop o t p k c s ns xs 0) : OtIs (.mk o t p k c s ns xs) := by
  intro hp
  unfold OtLoop at hL
  rw [List.take_zero] at hL
  have t12 : ((t.size : Int) > 12) = False := eq_false (by omega)
  have e2 : (#[118, 95] : Array UInt8).size = 2 := rfl
  have t13 : ((#[118, 95] : Array UInt8).size + t.size ≤ 140737488355328) = True := eq_true (by rw [e2]; omega)
  refine f21 rfl ?_
  rw [othX, Xp.enc, Xp.enc]
  rcases Bool.eq_false_or_eq_true (o == 2) with o2 | o2
  · rw [show isVar o = true by simp [isVar, o2], if_pos rfl, vB]
    simp (disch := omega) only [go_sem, and_self, and_true, true_and, false_and, and_false, Nat.reduceAdd, Nat.reduceMul, Nat.reduceSub, Nat.reduceLeDiff, Nat.reduceLT, Nat.reduceGT, Nat.reduceEqDiff, Nat.reduceBEq, Int.reduceNeg, Int.reduceEq, Int.reduceLT, Int.reduceLE, Int.reduceBEq, Int.reduceToNat, Int.toNat_natCast, Int.natCast_zero, r21_T, t12, strD, t13, o2]
    rw [r21_B0_n, r21_B0_z3]
    erw [hL]
    simp (disch := omega) only [go_sem, and_self, and_true, true_and, false_and, and_false, Nat.reduceAdd, Nat.reduceMul, Nat.reduceSub, Nat.reduceLeDiff, Nat.reduceLT, Nat.reduceGT, Nat.reduceEqDiff, Nat.reduceBEq, Int.reduceNeg, Int.reduceEq, Int.reduceLT, Int.reduceLE, Int.reduceBEq, Int.reduceToNat, Int.toNat_natCast, Int.natCast_zero, r21]
  · rcases Bool.eq_false_or_eq_true (o == 17) with o17 | o17
    · rw [show isVar o = true by simp [isVar, o17], if_pos rfl, vB]
      simp (disch := omega) only [go_sem, and_self, and_true, true_and, false_and, and_false, Nat.reduceAdd, Nat.reduceMul, Nat.reduceSub, Nat.reduceLeDiff, Nat.reduceLT, Nat.reduceGT, Nat.reduceEqDiff, Nat.reduceBEq, Int.reduceNeg, Int.reduceEq, Int.reduceLT, Int.reduceLE, Int.reduceBEq, Int.reduceToNat, Int.toNat_natCast, Int.natCast_zero, r21_T, t12, strD, t13, o2, o17]
      rw [r21_B0_n, r21_B0_z3]
      erw [hL]
      simp (disch := omega) only [go_sem, and_self, and_true, true_and, false_and, and_false, Nat.reduceAdd, Nat.reduceMul, Nat.reduceSub, Nat.reduceLeDiff, Nat.reduceLT, Nat.reduceGT, Nat.reduceEqDiff, Nat.reduceBEq, Int.reduceNeg, Int.reduceEq, Int.reduceLT, Int.reduceLE, Int.reduceBEq, Int.reduceToNat, Int.toNat_natCast, Int.natCast_zero, r21]
    · rcases Bool.eq_false_or_eq_true (o == 13) with o13 | o13
      · rw [show isVar o = true by simp [isVar, o13], if_pos rfl, vB]
        simp (disch := omega) only [go_sem, and_self, and_true, true_and, false_and, and_false, Nat.reduceAdd, Nat.reduceMul, Nat.reduceSub, Nat.reduceLeDiff, Nat.reduceLT, Nat.reduceGT, Nat.reduceEqDiff, Nat.reduceBEq, Int.reduceNeg, Int.reduceEq, Int.reduceLT, Int.reduceLE, Int.reduceBEq, Int.reduceToNat, Int.toNat_natCast, Int.natCast_zero, r21_T, t12, strD, t13, o2, o17, o13]
        rw [r21_B0_n, r21_B0_z3]
        erw [hL]
        simp (disch := omega) only [go_sem, and_self, and_true, true_and, false_and, and_false, Nat.reduceAdd, Nat.reduceMul, Nat.reduceSub, Nat.reduceLeDiff, Nat.reduceLT, Nat.reduceGT, Nat.reduceEqDiff, Nat.reduceBEq, Int.reduceNeg, Int.reduceEq, Int.reduceLT, Int.reduceLE, Int.reduceBEq, Int.reduceToNat, Int.toNat_natCast, Int.natCast_zero, r21]
      · rcases Bool.eq_false_or_eq_true (o == 14) with o14 | o14
        · rw [show isVar o = true by simp [isVar, o14], if_pos rfl, vB]
          simp (disch := omega) only [go_sem, and_self, and_true, true_and, false_and, and_false, Nat.reduceAdd, Nat.reduceMul, Nat.reduceSub, Nat.reduceLeDiff, Nat.reduceLT, Nat.reduceGT, Nat.reduceEqDiff, Nat.reduceBEq, Int.reduceNeg, Int.reduceEq, Int.reduceLT, Int.reduceLE, Int.reduceBEq, Int.reduceToNat, Int.toNat_natCast, Int.natCast_zero, r21_T, t12, strD, t13, o2, o17, o13, o14]
          rw [r21_B0_n, r21_B0_z3]
          erw [hL]
          simp (disch := omega) only [go_sem, and_self, and_true, true_and, false_and, and_false, Nat.reduceAdd, Nat.reduceMul, Nat.reduceSub, Nat.reduceLeDiff, Nat.reduceLT, Nat.reduceGT, Nat.reduceEqDiff, Nat.reduceBEq, Int.reduceNeg, Int.reduceEq, Int.reduceLT, Int.reduceLE, Int.reduceBEq, Int.reduceToNat, Int.toNat_natCast, Int.natCast_zero, r21]
        · rw [show isVar o = false by simp [isVar, o2, o17, o13, o14], if_neg (by simp)]
          simp (disch := omega) only [go_sem, and_self, and_true, true_and, false_and, and_false, Nat.reduceAdd, Nat.reduceMul, Nat.reduceSub, Nat.reduceLeDiff, Nat.reduceLT, Nat.reduceGT, Nat.reduceEqDiff, Nat.reduceBEq, Int.reduceNeg, Int.reduceEq, Int.reduceLT, Int.reduceLE, Int.reduceBEq, Int.reduceToNat, Int.toNat_natCast, Int.natCast_zero, r21_T, t12, strD, t13, o2, o17, o13, o14]
          rw [r21_B0_n, r21_B0_z3]
          erw [hL]
          simp (disch := omega) only [go_sem, and_self, and_true, true_and, false_and, and_false, Nat.reduceAdd, Nat.reduceMul, Nat.reduceSub, Nat.reduceLeDiff, Nat.reduceLT, Nat.reduceGT, Nat.reduceEqDiff, Nat.reduceBEq, Int.reduceNeg, Int.reduceEq, Int.reduceLT, Int.reduceLE, Int.reduceBEq, Int.reduceToNat, Int.toNat_natCast, Int.natCast_zero, r21]
theorem other_ok (N : Nat) (hN : N ≤ 1000000) : ∀ (n : Nat) (x : Xp), SizeOf.sizeOf x ≤ n → x.pre.length ≤ N → shortX x → OtIs x
  | 0, x, h, _, _ => by cases x; simp at h
  | n + 1, .mk o t p k c s ns xs, h, hp, hs => by
    simp only [Xp.pre, List.length_cons] at hp
    rw [shortX] at hs
    have hxl := pres_len xs
    refine ot_top o t p k c s ns xs hs.1 fun t => (ot_loop o t p k c s ns xs (by omega) (fun x hx => other_ok N hN n x ?_ ?_ (shorts_mem hs.2 hx)) xs.length 0 (by omega))
    · have := List.sizeOf_lt_of_mem hx
      simp at h
      omega
    · have := pres_le xs x hx
      omega
end Go.Pe.T

namespace Go.Pe.T

/-! ### all parts of an expression -/

theorem take_more {α : Type} (a b : List α) (n : Nat) (h : a.length < n) : a ++ b.take (n - a.length) = (a ++ b).take n := by
  rw [List.take_append, List.take_of_length_le (Nat.le_of_lt h)]
theorem take_app {α : Type} (a b : List α) (n : Nat) : (a.take n ++ b).take n = (a ++ b).take n := by
  simp only [List.take_append, List.take_take, Nat.min_self, List.length_take]
  congr 2
  omega

theorem xencs_all (a : List Xp) : ((Xp.encs a).all fun y => y.width == 8) = true := by
  simp only [List.all_eq_true, beq_iff_eq]
  intro y hy
  rw [xencs_eq, List.mem_map] at hy
  obtain ⟨x, _, rfl⟩ := hy
  exact xenc_w x
theorem row_len {a b k : Nat} (hk : k ≤ 1000) (h : a + b ≤ 1000000) : ((a + b) * k ≤ maxRow) = True :=
  eq_true (by
    have := Nat.mul_le_mul h hk
    simp only [maxRow]
    omega)

def AllIs (e : Xp) (m : Nat) : Prop := ∀ hp : List Ent, F tab 39 [.d e.enc, .d (iv m)] hp = some (.ret (.d (.sl (Xp.encs (e.pre.take m)))) hp)

def AllLoop (o : Int) (t : ByteArray) (p k c s : Int) (ns : List D) (xs : List Xp) (m i : Nat) (l : List Xp) : Prop :=
    V (F tab) r39_B0 (r39_S0 (.d (iv m)) (.ibox [.d (iv o), .d (.str t), .d (iv p), .d (iv k), .d (iv c), .d (iv s), .d (.sl ns), .d (.sl (Xp.encs xs))]) (.own 34 (Xp.encs l)) (.d (iv i)) []) =
      some (.norm, r39_E0 (.own 34 (Xp.encs ((l ++ Xp.pres (xs.drop i)).take m))) [])

theorem all_end (o : Int) (t : ByteArray) (p k c s : Int) (ns : List D) (xs : List Xp) (m i : Nat) (l : List Xp) (hlm : l.length ≤ m) (hi : xs.length ≤ i) : AllLoop o t p k c s ns xs m i l := by
  have h1 : ((i : Int) < (xs.length : Int)) = False := eq_false (by omega)
  unfold AllLoop
  rw [r39_B0_eq, List.drop_of_length_le hi, Xp.pres, List.append_nil, List.take_of_length_le hlm]
  simp (disch := omega) only [go_sem, and_self, and_true, true_and, false_and, and_false, Nat.reduceAdd, Nat.reduceMul, Nat.reduceSub, Nat.reduceLeDiff, Nat.reduceLT, Nat.reduceGT, Nat.reduceEqDiff, Nat.reduceBEq, Int.reduceNeg, Int.reduceEq, Int.reduceLT, Int.reduceLE, Int.reduceBEq, Int.reduceToNat, Int.toNat_natCast, Int.natCast_zero, r39_C0, h1, xencs_len]

theorem all_full (o : Int) (t : ByteArray) (p k c s : Int) (ns : List D) (xs : List Xp) (m i : Nat) (l : List Xp) (hlm : l.length = m) (hi : i < xs.length) : AllLoop o t p k c s ns xs m i l := by
  have h1 : ((i : Int) < (xs.length : Int)) = True := eq_true (by omega)
  have h2 : ((l.length : Int) < (m : Int)) = False := eq_false (by omega)
  unfold AllLoop
  rw [r39_B0_eq, show (l ++ Xp.pres (xs.drop i)).take m = l by rw [← hlm, List.take_left]]
  simp (disch := omega) only [go_sem, and_self, and_true, true_and, false_and, and_false, Nat.reduceAdd, Nat.reduceMul, Nat.reduceSub, Nat.reduceLeDiff, Nat.reduceLT, Nat.reduceGT, Nat.reduceEqDiff, Nat.reduceBEq, Int.reduceNeg, Int.reduceEq, Int.reduceLT, Int.reduceLE, Int.reduceBEq, Int.reduceToNat, Int.toNat_natCast, Int.natCast_zero, r39_C0, h1, h2, xencs_len]

theorem all_step (o : Int) (t : ByteArray) (p k c s : Int) (ns : List D) (xs : List Xp) (hl : xs.length ≤ maxLen) (m i : Nat) (l : List Xp) (hlm : l.length < m) (hm : m ≤ 100000) (hi : i < xs.length)
    (ih : AllIs xs[i] (m - l.length)) (hn : AllLoop o t p k c s ns xs m (i + 1) ((l ++ xs[i].pre).take m)) : AllLoop o t p k c s ns xs m i l := by
  have hmx : maxLen = 9223372036854775807 := by decide
  have h1 : ((i : Int) < (xs.length : Int)) = True := eq_true (by omega)
  have h2 : ((l.length : Int) < (m : Int)) = True := eq_true (by omega)
  have hi0 : (0 ≤ (i : Int)) = True := eq_true (by omega)
  have va : (Xp.encs xs)[i]? = some (xs[i].enc) := by rw [xencs_get]; simp [hi]
  have hd : (m : Int) - (l.length : Int) = ((m - l.length : Nat) : Int) := by omega
  have hr : (l.length + (xs[i].pre.take (m - l.length)).length) * 104 ≤ maxRow := of_eq_true (row_len (by omega) (by rw [List.length_take]; omega))
  have e1 : (l ++ Xp.pres (xs.drop i)).take m = ((l ++ xs[i].pre).take m ++ Xp.pres (xs.drop (i + 1))).take m := by
    rw [take_app, List.drop_eq_getElem_cons hi, Xp.pres, List.append_assoc]
  have e2 : Xp.encs l ++ Xp.encs (xs[i].pre.take (m - l.length)) = Xp.encs ((l ++ xs[i].pre).take m) := by rw [← xencs_app, take_more _ _ _ hlm]
  unfold AllIs at ih
  unfold AllLoop at hn ⊢
  rw [r39_B0_eq, e1]
  simp (disch := omega) only [go_sem, and_self, and_true, true_and, false_and, and_false, Nat.reduceAdd, Nat.reduceMul, Nat.reduceSub, Nat.reduceLeDiff, Nat.reduceLT, Nat.reduceGT, Nat.reduceEqDiff, Nat.reduceBEq, Int.reduceNeg, Int.reduceEq, Int.reduceLT, Int.reduceLE, Int.reduceBEq, Int.reduceToNat, Int.toNat_natCast, Int.natCast_zero, r39_C0, h1, h2, hi0, va, xenc_w, xenc_a, xencs_len, w64, hd, ih, hr, e2, xencs_all, decide_true, and_self, if_true]
  rw [Int.natCast_add, Int.natCast_one] at hn
  exact hn

theorem all_loop (o : Int) (t : ByteArray) (p k c s : Int) (ns : List D) (xs : List Xp) (hl : xs.length ≤ maxLen) (m : Nat) (hm : m ≤ 100000) (ih : ∀ x ∈ xs, ∀ n : Nat, 1 ≤ n → n ≤ 100000 → AllIs x n) :
    ∀ (j i : Nat) (l : List Xp), i + j = xs.length → l.length ≤ m → AllLoop o t p k c s ns xs m i l
  | 0, i, l, hi, hlm => all_end o t p k c s ns xs m i l hlm (by omega)
  | j + 1, i, l, hi, hlm => by
    by_cases h : l.length = m
    · exact all_full o t p k c s ns xs m i l h (by omega)
    · exact all_step o t p k c s ns xs hl m i l (by omega) hm (by omega) (ih _ (List.getElem_mem _) _ (by omega) (by omega)) (all_loop o t p k c s ns xs hl m hm ih j (i + 1) _ (by omega) (by rw [List.length_take]; omega))

theorem all_fn (o : Int) (t : ByteArray) (p k c s : Int) (ns : List ByteArray) (xs : List Xp) (m : Nat) (h1 : 1 ≤ m) (hL : AllLoop o t p k c s (ns.map .str) xs m 0 [.mk o t p k c s ns xs]) : AllIs (.mk o t p k c s ns xs) m := by
  intro hp
  unfold AllLoop at hL
  rw [List.drop_zero] at hL
  have e1 : [Xp.mk o t p k c s ns xs] ++ Xp.pres xs = (Xp.mk o t p k c s ns xs).pre := rfl
  rw [e1] at hL
  simp only [Xp.encs, Xp.enc] at hL
  refine f39 rfl ?_
  simp (disch := omega) only [go_sem, and_self, and_true, true_and, false_and, and_false, Nat.reduceAdd, Nat.reduceMul, Nat.reduceSub, Nat.reduceLeDiff, Nat.reduceLT, Nat.reduceGT, Nat.reduceEqDiff, Nat.reduceBEq, Int.reduceNeg, Int.reduceEq, Int.reduceLT, Int.reduceLE, Int.reduceBEq, Int.reduceToNat, Int.toNat_natCast, Int.natCast_zero, r39_T, r39, Xp.enc]
  rw [r39_B0_n]
  erw [hL]
  simp (disch := omega) only [go_sem, and_self, and_true, true_and, false_and, and_false, Nat.reduceAdd, Nat.reduceMul, Nat.reduceSub, Nat.reduceLeDiff, Nat.reduceLT, Nat.reduceGT, Nat.reduceEqDiff, Nat.reduceBEq, Int.reduceNeg, Int.reduceEq, Int.reduceLT, Int.reduceLE, Int.reduceBEq, Int.reduceToNat, Int.toNat_natCast, Int.natCast_zero]

theorem rall_ok : ∀ (e : Xp), e.ok → ∀ m : Nat, 1 ≤ m → m ≤ 100000 → AllIs e m
  | .mk o t p k c s ns xs, h, m, h1, h2 => by
    simp only [Xp.ok] at h
    exact all_fn o t p k c s ns xs m h1 (all_loop o t p k c s _ xs h.2.2.2.2.2.2.2.2.1 m h2 (fun x hx n n1 n2 => rall_ok x (xoks_mem h.2.2.2.2.2.2.2.2.2 hx) n n1 n2) xs.length 0 _ (by omega) (by simpa using h1))

theorem light_ok (e : Xp) (he : e.ok) (m : Nat) (hm : m < 100000) (hp : List Ent) : F tab 27 [.d e.enc, .d (iv m)] hp = some (.ret (.d (.bool (decide (e.pre.length ≤ m)))) hp) := by
  have h := rall_ok e he (m + 1) (by omega) (by omega)
  unfold AllIs at h
  rw [Int.natCast_add, Int.natCast_one] at h
  obtain ⟨o, t, p, k, c, s, ns, xs, ex⟩ := xenc_as e
  rw [ex] at h ⊢
  have e1 : (((e.pre.take (m + 1)).length : Int) ≤ (m : Int)) = (e.pre.length ≤ m) := by rw [List.length_take]; apply propext; omega
  refine f27 rfl ?_
  simp (disch := omega) only [go_sem, and_self, and_true, true_and, false_and, and_false, Nat.reduceAdd, Nat.reduceMul, Nat.reduceSub, Nat.reduceLeDiff, Nat.reduceLT, Nat.reduceGT, Nat.reduceEqDiff, Nat.reduceBEq, Int.reduceNeg, Int.reduceEq, Int.reduceLT, Int.reduceLE, Int.reduceBEq, Int.reduceToNat, Int.toNat_natCast, Int.natCast_zero, r27_T, r27, w64, h, xencs_len, e1]
end Go.Pe.T

namespace Go.Pe.T
/-! ### places, long -/
mutual
/-- the same places, one by one -/
def plX : Xp → Xp → Prop
  | .mk o t p k c s ns xs, .mk o' t' p' k' c' s' ns' xs' => o = o' ∧ p = p' ∧ plXs xs xs'
def plXs : List Xp → List Xp → Prop
  | [], [] => True
  | x :: r, y :: r' => plX x y ∧ plXs r r'
  | _, _ => False
end
theorem plXs_len : ∀ {xs ys : List Xp}, plXs xs ys → xs.length = ys.length
  | [], [], _ => rfl
  | x :: r, y :: r', h => by
    rw [plXs] at h
    simp [plXs_len h.2]
  | [], _ :: _, h => by simp [plXs] at h
  | _ :: _, [], h => by simp [plXs] at h
theorem plXs_get : ∀ {xs ys : List Xp}, plXs xs ys → ∀ (i : Nat) (h1 : i < xs.length) (h2 : i < ys.length), plX xs[i] ys[i]
  | x :: r, y :: r', h, 0, _, _ => by
    rw [plXs] at h
    exact h.1
  | x :: r, y :: r', h, i + 1, h1, h2 => by
    rw [plXs] at h
    exact plXs_get h.2 i (by simpa using h1) (by simpa using h2)
  | [], [], _, i, h1, _ => by simp at h1
  | [], _ :: _, h, _, _, _ => by simp [plXs] at h
  | _ :: _, [], h, _, _, _ => by simp [plXs] at h
def PlIs (x y : Xp) : Prop := ∀ hp : List Ent, F tab 22 [.d x.enc, .d y.enc] hp = some (.ret (.d (.bool true)) hp)
def PlLoop (x2 x3 : PV) (i : Nat) : Prop :=
  V (F tab) r22_B0 (r22_S0 x2 x3 (.d (iv i)) []) = some (.norm, r22_E0 [])
theorem pl_end (o p k c s o' p' k' c' s' : Int) (t t' : ByteArray) (ns ns' : List ByteArray) (xs xs' : List Xp) : PlLoop (x3E o t p k c s ns xs) (x3E o' t' p' k' c' s' ns' xs') xs.length := by
  have h1 : ((xs.length : Int) < (xs.length : Int)) = False := eq_false (by omega)
  unfold PlLoop
  rw [r22_B0_eq]
  simp (disch := omega) only [go_sem, and_self, and_true, true_and, false_and, and_false, Nat.reduceAdd, Nat.reduceMul, Nat.reduceSub, Nat.reduceLeDiff, Nat.reduceLT, Nat.reduceGT, Nat.reduceEqDiff, Nat.reduceBEq, Int.reduceNeg, Int.reduceEq, Int.reduceLT, Int.reduceLE, Int.reduceBEq, Int.reduceToNat, Int.toNat_natCast, Int.natCast_zero, r22_C0, h1, xencs_len]
theorem pl_step (o p k c s o' p' k' c' s' : Int) (t t' : ByteArray) (ns ns' : List ByteArray) (xs xs' : List Xp) (hl : xs.length ≤ 1000000) (hn : xs.length = xs'.length) (i : Nat) (hi : i < xs.length) (hS : ∀ (hi' : i < xs'.length), PlIs xs[i] xs'[i])
    (ih : PlLoop (x3E o t p k c s ns xs) (x3E o' t' p' k' c' s' ns' xs') (i + 1)) : PlLoop (x3E o t p k c s ns xs) (x3E o' t' p' k' c' s' ns' xs') i := by
  have hi' : i < xs'.length := by omega
  have hS := hS hi'
  have h1 : ((i : Int) < (xs.length : Int)) = True := eq_true (by omega)
  have hi0 : (0 ≤ (i : Int)) = True := eq_true (by omega)
  have va : (Xp.encs xs)[i]? = some (xs[i].enc) := by rw [xencs_get]; simp [hi]
  have vb : (Xp.encs xs')[i]? = some (xs'[i].enc) := by rw [xencs_get]; simp [hi']
  unfold PlLoop at ih ⊢
  unfold PlIs at hS
  rw [Int.natCast_add, Int.natCast_one] at ih
  rw [r22_B0_eq]
  simp (disch := omega) only [go_sem, and_self, and_true, true_and, false_and, and_false, Nat.reduceAdd, Nat.reduceMul, Nat.reduceSub, Nat.reduceLeDiff, Nat.reduceLT, Nat.reduceGT, Nat.reduceEqDiff, Nat.reduceBEq, Int.reduceNeg, Int.reduceEq, Int.reduceLT, Int.reduceLE, Int.reduceBEq, Int.reduceToNat, Int.toNat_natCast, Int.natCast_zero, r22_C0, h1, xencs_len, hi0, va, vb, xenc_w, xenc_a, hS, w64]
  exact ih
theorem pl_loop (o p k c s o' p' k' c' s' : Int) (t t' : ByteArray) (ns ns' : List ByteArray) (xs xs' : List Xp) (hl : xs.length ≤ 1000000) (hn : xs.length = xs'.length) (hS : ∀ (i : Nat) (h1 : i < xs.length) (h2 : i < xs'.length), PlIs xs[i] xs'[i]) : ∀ (j i : Nat), i + j = xs.length → PlLoop (x3E o t p k c s ns xs) (x3E o' t' p' k' c' s' ns' xs') i
  | 0, i, hi => by
    obtain rfl : i = xs.length := by omega
    exact pl_end o p k c s o' p' k' c' s' t t' ns ns' xs xs'
  | j + 1, i, hi => pl_step o p k c s o' p' k' c' s' t t' ns ns' xs xs' hl hn i (by omega) (fun hi' => hS i _ _) (pl_loop o p k c s o' p' k' c' s' t t' ns ns' xs xs' hl hn hS j (i + 1) (by omega))
theorem pl_top (o p k c s k' c' s' : Int) (t t' : ByteArray) (ns ns' : List ByteArray) (xs xs' : List Xp) (hn : xs.length = xs'.length)
    (hL : PlLoop (x3E o t p k c s ns xs) (x3E o t' p k' c' s' ns' xs') 0) : PlIs (.mk o t p k c s ns xs) (.mk o t' p k' c' s' ns' xs') := by
  intro hp
  have no : (o != o) = false := by simp
  have np : (p != p) = false := by simp
  have nb : ((xs.length : Int) != (xs'.length : Int)) = false := by simp only [bne_eq_false_iff_eq]; omega
  unfold PlLoop at hL
  refine f22 rfl ?_
  simp (disch := omega) only [go_sem, and_self, and_true, true_and, false_and, and_false, Nat.reduceAdd, Nat.reduceMul, Nat.reduceSub, Nat.reduceLeDiff, Nat.reduceLT, Nat.reduceGT, Nat.reduceEqDiff, Nat.reduceBEq, Int.reduceNeg, Int.reduceEq, Int.reduceLT, Int.reduceLE, Int.reduceBEq, Int.reduceToNat, Int.toNat_natCast, Int.natCast_zero, r22_T, Xp.enc, xencs_len, no, np, nb]
  rw [r22_B0_n]
  erw [hL]
  simp (disch := omega) only [go_sem, and_self, and_true, true_and, false_and, and_false, Nat.reduceAdd, Nat.reduceMul, Nat.reduceSub, Nat.reduceLeDiff, Nat.reduceLT, Nat.reduceGT, Nat.reduceEqDiff, Nat.reduceBEq, Int.reduceNeg, Int.reduceEq, Int.reduceLT, Int.reduceLE, Int.reduceBEq, Int.reduceToNat, Int.toNat_natCast, Int.natCast_zero, r22]
theorem places_ok (N : Nat) (hN : N ≤ 1000000) : ∀ (n : Nat) (x y : Xp), SizeOf.sizeOf x ≤ n → x.pre.length ≤ N → plX x y → PlIs x y
  | 0, x, y, h, _, _ => by cases x; simp at h
  | n + 1, .mk o t p k c s ns xs, .mk o' t' p' k' c' s' ns' xs', h, hp, hpl => by
    rw [plX] at hpl
    obtain ⟨rfl, rfl, hps⟩ := hpl
    simp only [Xp.pre, List.length_cons] at hp
    have hxl := pres_len xs
    refine pl_top o p k c s k' c' s' t t' ns ns' xs xs' (plXs_len hps) (pl_loop o p k c s o p k' c' s' t t' ns ns' xs xs' (by omega) (plXs_len hps) (fun i h1 h2 => places_ok N hN n xs[i] xs'[i] ?_ ?_ (plXs_get hps i h1 h2)) xs.length 0 (by omega))
    · have := List.sizeOf_lt_of_mem (List.getElem_mem h1)
      simp at h
      omega
    · have := pres_le xs xs[i] (List.getElem_mem h1)
      omega
end Go.Pe.T

namespace Go.Pe.T

/-! ### bytes; names -/
def lowB (c : Int) : Bool := decide (c ≥ 97) && decide (c ≤ 122)
def upB (c : Int) : Bool := decide (c ≥ 65) && decide (c ≤ 90)
def digB (c : Int) : Bool := decide (c ≥ 48) && decide (c ≤ 57)
def letB (c : Int) : Bool := lowB c || (upB c || c == 95)

theorem letter_ok (c : Int) (hp : List Ent) : F tab 89 [.d (.int .u8 c)] hp = some (.ret (.d (.bool (letB c))) hp) := by
  refine f89 rfl ?_
  unfold letB lowB upB
  by_cases g1 : c ≥ 97 <;> by_cases g2 : c ≤ 122 <;> by_cases g3 : c ≥ 65 <;> by_cases g4 : c ≤ 90 <;>
    simp (disch := omega) only [go_sem, and_self, and_true, true_and, false_and, and_false, Nat.reduceAdd, Nat.reduceMul, Nat.reduceSub, Nat.reduceLeDiff, Nat.reduceLT, Nat.reduceGT, Nat.reduceEqDiff, Nat.reduceBEq, Int.reduceNeg, Int.reduceEq, Int.reduceLT, Int.reduceLE, Int.reduceBEq, Int.reduceToNat, Int.toNat_natCast, Int.natCast_zero, r89_T, r89, g1, g2, g3, g4, decide_true, decide_false, Bool.true_and, Bool.false_and, Bool.true_or, Bool.false_or, Bool.and_true, Bool.and_false]
theorem rletter_ok (c : Int) (hp : List Ent) : F tab 93 [.d (.int .u8 c)] hp = some (.ret (.d (.bool (letB c))) hp) := by
  refine f93 rfl ?_
  unfold letB lowB upB
  by_cases g1 : c ≥ 97 <;> by_cases g2 : c ≤ 122 <;> by_cases g3 : c ≥ 65 <;> by_cases g4 : c ≤ 90 <;>
    simp (disch := omega) only [go_sem, and_self, and_true, true_and, false_and, and_false, Nat.reduceAdd, Nat.reduceMul, Nat.reduceSub, Nat.reduceLeDiff, Nat.reduceLT, Nat.reduceGT, Nat.reduceEqDiff, Nat.reduceBEq, Int.reduceNeg, Int.reduceEq, Int.reduceLT, Int.reduceLE, Int.reduceBEq, Int.reduceToNat, Int.toNat_natCast, Int.natCast_zero, r93_T, r93, g1, g2, g3, g4, decide_true, decide_false, Bool.true_and, Bool.false_and, Bool.true_or, Bool.false_or, Bool.and_true, Bool.and_false]
theorem digit_ok (c : Int) (hp : List Ent) : F tab 90 [.d (.int .u8 c)] hp = some (.ret (.d (.bool (digB c))) hp) := by
  refine f90 rfl ?_
  unfold digB
  by_cases g1 : c ≥ 48 <;> by_cases g2 : c ≤ 57 <;>
    simp (disch := omega) only [go_sem, and_self, and_true, true_and, false_and, and_false, Nat.reduceAdd, Nat.reduceMul, Nat.reduceSub, Nat.reduceLeDiff, Nat.reduceLT, Nat.reduceGT, Nat.reduceEqDiff, Nat.reduceBEq, Int.reduceNeg, Int.reduceEq, Int.reduceLT, Int.reduceLE, Int.reduceBEq, Int.reduceToNat, Int.toNat_natCast, Int.natCast_zero, r90_T, r90, g1, g2, decide_true, decide_false, Bool.true_and, Bool.false_and]
theorem rdigit_ok (c : Int) (hp : List Ent) : F tab 94 [.d (.int .u8 c)] hp = some (.ret (.d (.bool (digB c))) hp) := by
  refine f94 rfl ?_
  unfold digB
  by_cases g1 : c ≥ 48 <;> by_cases g2 : c ≤ 57 <;>
    simp (disch := omega) only [go_sem, and_self, and_true, true_and, false_and, and_false, Nat.reduceAdd, Nat.reduceMul, Nat.reduceSub, Nat.reduceLeDiff, Nat.reduceLT, Nat.reduceGT, Nat.reduceEqDiff, Nat.reduceBEq, Int.reduceNeg, Int.reduceEq, Int.reduceLT, Int.reduceLE, Int.reduceBEq, Int.reduceToNat, Int.toNat_natCast, Int.natCast_zero, r94_T, r94, g1, g2, decide_true, decide_false, Bool.true_and, Bool.false_and]

/-- a text's bytes -/
def bs (s : ByteArray) : List UInt8 := s.data.toList
theorem bs_len (s : ByteArray) : (bs s).length = s.size := rfl
theorem bs_toList (s : ByteArray) : s.toList = bs s := ByteArray.toList_eq s
theorem bs_get {s : ByteArray} {i : Nat} (h : i < s.size) : s[i]? = some s[i] ∧ (bs s).drop i = s[i] :: (bs s).drop (i + 1) := by
  have e : s[i] = s.data.toList[i]'h := rfl
  refine ⟨getElem?_pos s i h, ?_⟩
  unfold bs
  rw [e]; exact List.drop_eq_getElem_cons h
theorem bs_end {s : ByteArray} {i : Nat} (h : s.size ≤ i) : (bs s).drop i = [] := List.drop_of_length_le h

/-! level.Name -/
def nmL : Nat → List UInt8 → Bool
  | _, [] => true
  | i, c :: r => (lowB c.toNat || (digB c.toNat && decide (i ≠ 0))) && nmL (i + 1) r
def nameB (s : ByteArray) : Bool := decide (s.size ≠ 0) && (decide (s.size ≤ 16) && nmL 0 (bs s))

def NmLoop (s : ByteArray) (i : Nat) : Prop :=
  V (F tab) r111_B0 (r111_S0 (.d (.str s)) (.d (iv s.size)) (.d (iv i)) []) = if nmL i ((bs s).drop i) then some (.norm, r111_E0 []) else some (.ret, r111_R (.d (.bool false)) [])
theorem nm_end (s : ByteArray) (i : Nat) (hi : s.size ≤ i) : NmLoop s i := by
  have h1 : ((i : Int) < (s.size : Int)) = False := eq_false (by omega)
  unfold NmLoop
  rw [r111_B0_eq, bs_end hi]
  simp (disch := omega) only [go_sem, and_self, and_true, true_and, false_and, and_false, Nat.reduceAdd, Nat.reduceMul, Nat.reduceSub, Nat.reduceLeDiff, Nat.reduceLT, Nat.reduceGT, Nat.reduceEqDiff, Nat.reduceBEq, Int.reduceNeg, Int.reduceEq, Int.reduceLT, Int.reduceLE, Int.reduceBEq, Int.reduceToNat, Int.toNat_natCast, Int.natCast_zero, r111_C0, h1, nmL]
theorem nm_step (s : ByteArray) (hs : s.size ≤ maxLen) (i : Nat) (hi : i < s.size) (ih : NmLoop s (i + 1)) : NmLoop s i := by
  have hmx : maxLen = 9223372036854775807 := by decide
  have h1 : ((i : Int) < (s.size : Int)) = True := eq_true (by omega)
  have hi0 : (0 ≤ (i : Int)) = True := eq_true (by omega)
  obtain ⟨va, vd⟩ := bs_get hi
  unfold NmLoop at ih ⊢
  rw [Int.natCast_add, Int.natCast_one] at ih
  rw [r111_B0_eq, vd]
  simp only [nmL, lowB, digB]
  have e0 : ((i : Int) == 0) = !decide (i ≠ 0) := by by_cases h : i = 0 <;> simp [h]
  by_cases g1 : ((s[i].toNat : Nat) : Int) ≥ 97 <;> by_cases g2 : ((s[i].toNat : Nat) : Int) ≤ 122 <;> by_cases g3 : ((s[i].toNat : Nat) : Int) ≥ 48 <;> by_cases g4 : ((s[i].toNat : Nat) : Int) ≤ 57 <;>
    first
    | (exfalso; omega)
    | (rcases Bool.eq_false_or_eq_true (decide (i ≠ 0)) with g5 | g5 <;>
        simp (disch := omega) only [go_sem, and_self, and_true, true_and, false_and, and_false, Nat.reduceAdd, Nat.reduceMul, Nat.reduceSub, Nat.reduceLeDiff, Nat.reduceLT, Nat.reduceGT, Nat.reduceEqDiff, Nat.reduceBEq, Int.reduceNeg, Int.reduceEq, Int.reduceLT, Int.reduceLE, Int.reduceBEq, Int.reduceToNat, Int.toNat_natCast, Int.natCast_zero, r111_C0, h1, hi0, va, e0, w64, g1, g2, g3, g4, g5, decide_true, decide_false, Bool.true_and, Bool.false_and, Bool.true_or, Bool.false_or, Bool.and_true, Bool.and_false, Bool.not_true, Bool.not_false] <;> exact ih)
theorem nm_loop (s : ByteArray) (hs : s.size ≤ maxLen) : ∀ (j i : Nat), i + j = s.size → NmLoop s i
  | 0, i, hi => nm_end s i (by omega)
  | j + 1, i, hi => nm_step s hs i (by omega) (nm_loop s hs j (i + 1) (by omega))
theorem isE (s : ByteArray) : (s.toList == (⟨#[]⟩ : ByteArray).toList) = !decide (s.size ≠ 0) := by
  have e0 : bs (⟨#[]⟩ : ByteArray) = [] := rfl
  rw [bs_toList, bs_toList, e0]
  have h := bs_len s
  cases hb : bs s with
  | nil => rw [hb] at h; simp only [List.length_nil] at h; simp [← h]
  | cons a l => rw [hb] at h; simp only [List.length_cons] at h; simp [← h]
theorem name_ok (s : ByteArray) (hs : s.size ≤ maxLen) (hp : List Ent) : F tab 111 [.d (.str s)] hp = some (.ret (.d (.bool (nameB s))) hp) := by
  have hL := nm_loop s hs s.size 0 (by omega)
  unfold NmLoop at hL
  rw [List.drop_zero] at hL
  have e := isE s
  have e2 : decide ((s.size : Int) > 16) = !decide (s.size ≤ 16) := by by_cases h : s.size ≤ 16 <;> simp [h] <;> omega
  refine f111 rfl ?_
  unfold nameB
  rcases Bool.eq_false_or_eq_true (decide (s.size ≠ 0)) with g1 | g1
  · rcases Bool.eq_false_or_eq_true (decide (s.size ≤ 16)) with g2 | g2
    · simp (disch := omega) only [go_sem, and_self, and_true, true_and, false_and, and_false, Nat.reduceAdd, Nat.reduceMul, Nat.reduceSub, Nat.reduceLeDiff, Nat.reduceLT, Nat.reduceGT, Nat.reduceEqDiff, Nat.reduceBEq, Int.reduceNeg, Int.reduceEq, Int.reduceLT, Int.reduceLE, Int.reduceBEq, Int.reduceToNat, Int.toNat_natCast, Int.natCast_zero, r111_T, r111, strD_eql, e, e2, g1, g2, Bool.not_true, Bool.not_false, Bool.true_and]
      rw [r111_B0_n]
      erw [hL]
      rcases Bool.eq_false_or_eq_true (nmL 0 (bs s)) with g | g <;> rw [g] <;> simp only [go_sem, and_self, and_true, true_and, false_and, and_false, Nat.reduceAdd, Nat.reduceMul, Nat.reduceSub, Nat.reduceLeDiff, Nat.reduceLT, Nat.reduceGT, Nat.reduceEqDiff, Nat.reduceBEq, Int.reduceNeg, Int.reduceEq, Int.reduceLT, Int.reduceLE, Int.reduceBEq, Int.reduceToNat, Int.toNat_natCast, Int.natCast_zero]
    · simp (disch := omega) only [go_sem, and_self, and_true, true_and, false_and, and_false, Nat.reduceAdd, Nat.reduceMul, Nat.reduceSub, Nat.reduceLeDiff, Nat.reduceLT, Nat.reduceGT, Nat.reduceEqDiff, Nat.reduceBEq, Int.reduceNeg, Int.reduceEq, Int.reduceLT, Int.reduceLE, Int.reduceBEq, Int.reduceToNat, Int.toNat_natCast, Int.natCast_zero, r111_T, r111, strD_eql, e, e2, g1, g2, Bool.not_true, Bool.not_false, Bool.true_and, Bool.false_and]
  · simp (disch := omega) only [go_sem, and_self, and_true, true_and, false_and, and_false, Nat.reduceAdd, Nat.reduceMul, Nat.reduceSub, Nat.reduceLeDiff, Nat.reduceLT, Nat.reduceGT, Nat.reduceEqDiff, Nat.reduceBEq, Int.reduceNeg, Int.reduceEq, Int.reduceLT, Int.reduceLE, Int.reduceBEq, Int.reduceToNat, Int.toNat_natCast, Int.natCast_zero, r111_T, r111, strD_eql, e, e2, g1, Bool.not_true, Bool.not_false, Bool.true_and, Bool.false_and]
end Go.Pe.T

namespace Go.Pe.T

/-! ### texts -/
def nb (l : List UInt8) (i : Nat) : Int := ((l.getD i 0).toNat : Int)
def contB (c : Int) : Bool := !decide (c < 128) && !decide (c > 191)
def conts : List UInt8 → Nat → Bool
  | _, 0 => true
  | [], _ + 1 => false
  | c :: r, k + 1 => contB c.toNat && conts r k
def tailL (l : List UInt8) (n : Nat) (lo hi : Int) : Bool := !decide (l.length ≤ n) && ((!decide (nb l 1 < lo) && !decide (nb l 1 > hi)) && conts (l.drop 2) (n - 1))
def sizeL (l : List UInt8) : Nat :=
  if nb l 0 < 128 then 1
  else if (decide (nb l 0 ≥ 194) && decide (nb l 0 ≤ 223)) && tailL l 1 128 191 then 2
  else if (nb l 0 == 224 && tailL l 2 160 191) || (((decide (nb l 0 ≥ 225) && decide (nb l 0 ≤ 239)) && nb l 0 != 237) && tailL l 2 128 191 || nb l 0 == 237 && tailL l 2 128 159) then 3
  else if (nb l 0 == 240 && tailL l 3 144 191) || ((decide (nb l 0 ≥ 241) && decide (nb l 0 ≤ 243)) && tailL l 3 128 191 || nb l 0 == 244 && tailL l 3 128 143) then 4
  else 0
def validF : Nat → List UInt8 → Bool
  | _, [] => true
  | 0, _ :: _ => false
  | k + 1, c :: r => if sizeL (c :: r) = 0 then false else validF k ((c :: r).drop (sizeL (c :: r)))
def validB (s : ByteArray) : Bool := validF s.size (bs s)

theorem tail_len {l : List UInt8} {n : Nat} {lo hi : Int} (h : tailL l n lo hi = true) : n < l.length := by
  simp only [tailL, Bool.and_eq_true, Bool.not_eq_true', decide_eq_false_iff_not] at h
  omega
theorem sizeL_le (l : List UInt8) (hl : l ≠ []) : sizeL l ≤ l.length := by
  have h0 : 0 < l.length := List.length_pos_iff.2 hl
  unfold sizeL
  split
  · omega
  · split
    · rename_i h; simp only [Bool.and_eq_true] at h; have := tail_len h.2; omega
    · split
      · rename_i h; simp only [Bool.or_eq_true, Bool.and_eq_true] at h
        rcases h with h | h | h <;> (have := tail_len h.2; omega)
      · split
        · rename_i h; simp only [Bool.or_eq_true, Bool.and_eq_true] at h
          rcases h with h | h | h <;> (have := tail_len h.2; omega)
        · omega

theorem bs_nb {s : ByteArray} {i : Nat} (h : i < s.size) : ((s[i].toNat : Nat) : Int) = nb (bs s) i := by
  have e : s[i] = s.data.toList[i]'h := rfl
  simp only [nb, bs, List.getD_eq_getElem?_getD, List.getElem?_eq_getElem (show i < s.data.toList.length from h), Option.getD_some, e]

def TlLoop (s : ByteArray) (n i : Nat) : Prop :=
  V (F tab) r125_B0 (r125_S0 (.d (.str s)) (.d (iv n)) (.d (iv i)) []) = if conts ((bs s).drop i) (n + 1 - i) then some (.norm, r125_E0 []) else some (.ret, r125_R (.d (.bool false)) [])
theorem tl_end (s : ByteArray) (n i : Nat) (hi : n < i) : TlLoop s n i := by
  have h1 : ((i : Int) ≤ (n : Int)) = False := eq_false (by omega)
  unfold TlLoop
  rw [r125_B0_eq, show n + 1 - i = 0 by omega]
  simp (disch := omega) only [go_sem, and_self, and_true, true_and, false_and, and_false, Nat.reduceAdd, Nat.reduceMul, Nat.reduceSub, Nat.reduceLeDiff, Nat.reduceLT, Nat.reduceGT, Nat.reduceEqDiff, Nat.reduceBEq, Int.reduceNeg, Int.reduceEq, Int.reduceLT, Int.reduceLE, Int.reduceBEq, Int.reduceToNat, Int.toNat_natCast, Int.natCast_zero, r125_C0, h1, conts]
theorem tl_step (s : ByteArray) (n i : Nat) (hn : n < s.size) (h4 : n ≤ 4) (hi : i ≤ n) (ih : TlLoop s n (i + 1)) : TlLoop s n i := by
  have h1 : ((i : Int) ≤ (n : Int)) = True := eq_true (by omega)
  have hi0 : (0 ≤ (i : Int)) = True := eq_true (by omega)
  obtain ⟨va, vd⟩ := bs_get (show i < s.size by omega)
  unfold TlLoop at ih ⊢
  rw [Int.natCast_add, Int.natCast_one] at ih
  rw [r125_B0_eq, vd, show n + 1 - i = (n - i) + 1 by omega]
  rw [show n + 1 - (i + 1) = n - i by omega] at ih
  simp only [conts, contB]
  by_cases g1 : ((s[i].toNat : Nat) : Int) < 128
  · simp (disch := omega) only [go_sem, and_self, and_true, true_and, false_and, and_false, Nat.reduceAdd, Nat.reduceMul, Nat.reduceSub, Nat.reduceLeDiff, Nat.reduceLT, Nat.reduceGT, Nat.reduceEqDiff, Nat.reduceBEq, Int.reduceNeg, Int.reduceEq, Int.reduceLT, Int.reduceLE, Int.reduceBEq, Int.reduceToNat, Int.toNat_natCast, Int.natCast_zero, r125_C0, h1, hi0, va, w64, g1, decide_true, Bool.not_true, Bool.false_and]
  · by_cases g2 : ((s[i].toNat : Nat) : Int) > 191
    · simp (disch := omega) only [go_sem, and_self, and_true, true_and, false_and, and_false, Nat.reduceAdd, Nat.reduceMul, Nat.reduceSub, Nat.reduceLeDiff, Nat.reduceLT, Nat.reduceGT, Nat.reduceEqDiff, Nat.reduceBEq, Int.reduceNeg, Int.reduceEq, Int.reduceLT, Int.reduceLE, Int.reduceBEq, Int.reduceToNat, Int.toNat_natCast, Int.natCast_zero, r125_C0, h1, hi0, va, w64, g1, g2, decide_true, decide_false, Bool.not_true, Bool.not_false, Bool.false_and, Bool.true_and]
    · simp (disch := omega) only [go_sem, and_self, and_true, true_and, false_and, and_false, Nat.reduceAdd, Nat.reduceMul, Nat.reduceSub, Nat.reduceLeDiff, Nat.reduceLT, Nat.reduceGT, Nat.reduceEqDiff, Nat.reduceBEq, Int.reduceNeg, Int.reduceEq, Int.reduceLT, Int.reduceLE, Int.reduceBEq, Int.reduceToNat, Int.toNat_natCast, Int.natCast_zero, r125_C0, h1, hi0, va, w64, g1, g2, decide_true, decide_false, Bool.not_true, Bool.not_false, Bool.false_and, Bool.true_and]
      exact ih
theorem tl_loop (s : ByteArray) (n : Nat) (hn : n < s.size) (h4 : n ≤ 4) : ∀ (j i : Nat), i + j = n + 1 → TlLoop s n i
  | 0, i, hi => tl_end s n i (by omega)
  | j + 1, i, hi => tl_step s n i hn h4 (by omega) (tl_loop s n hn h4 j (i + 1) (by omega))
theorem tail_ok (s : ByteArray) (n : Nat) (lo hi : Int) (h1 : 1 ≤ n) (h4 : n ≤ 4) (hp : List Ent) : F tab 125 [.d (.str s), .d (iv n), .d (.int .u8 lo), .d (.int .u8 hi)] hp = some (.ret (.d (.bool (tailL (bs s) n lo hi))) hp) := by
  refine f125 rfl ?_
  unfold tailL
  rw [bs_len]
  by_cases g : s.size ≤ n
  · have g' : ((s.size : Int) ≤ (n : Int)) = True := eq_true (by omega)
    simp (disch := omega) only [go_sem, and_self, and_true, true_and, false_and, and_false, Nat.reduceAdd, Nat.reduceMul, Nat.reduceSub, Nat.reduceLeDiff, Nat.reduceLT, Nat.reduceGT, Nat.reduceEqDiff, Nat.reduceBEq, Int.reduceNeg, Int.reduceEq, Int.reduceLT, Int.reduceLE, Int.reduceBEq, Int.reduceToNat, Int.toNat_natCast, Int.natCast_zero, r125_T, r125, g, g', decide_true, Bool.not_true, Bool.false_and]
  · have g' : ((s.size : Int) ≤ (n : Int)) = False := eq_false (by omega)
    have hL := tl_loop s n (by omega) h4 (n - 1) 2 (by omega)
    unfold TlLoop at hL
    rw [show n + 1 - 2 = n - 1 by omega] at hL
    have hlt : 1 < s.size := by omega
    obtain ⟨va, vd⟩ := bs_get hlt
    have e := bs_nb hlt
    rw [← e]
    by_cases g1 : ((s[1].toNat : Nat) : Int) < lo
    · simp (disch := omega) only [go_sem, and_self, and_true, true_and, false_and, and_false, Nat.reduceAdd, Nat.reduceMul, Nat.reduceSub, Nat.reduceLeDiff, Nat.reduceLT, Nat.reduceGT, Nat.reduceEqDiff, Nat.reduceBEq, Int.reduceNeg, Int.reduceEq, Int.reduceLT, Int.reduceLE, Int.reduceBEq, Int.reduceToNat, Int.toNat_natCast, Int.natCast_zero, r125_T, r125, g, g', va, g1, decide_true, decide_false, Bool.not_true, Bool.not_false, Bool.false_and, Bool.true_and]
    · by_cases g2 : ((s[1].toNat : Nat) : Int) > hi
      · simp (disch := omega) only [go_sem, and_self, and_true, true_and, false_and, and_false, Nat.reduceAdd, Nat.reduceMul, Nat.reduceSub, Nat.reduceLeDiff, Nat.reduceLT, Nat.reduceGT, Nat.reduceEqDiff, Nat.reduceBEq, Int.reduceNeg, Int.reduceEq, Int.reduceLT, Int.reduceLE, Int.reduceBEq, Int.reduceToNat, Int.toNat_natCast, Int.natCast_zero, r125_T, r125, g, g', va, g1, g2, decide_true, decide_false, Bool.not_true, Bool.not_false, Bool.false_and, Bool.true_and]
      · simp (disch := omega) only [go_sem, and_self, and_true, true_and, false_and, and_false, Nat.reduceAdd, Nat.reduceMul, Nat.reduceSub, Nat.reduceLeDiff, Nat.reduceLT, Nat.reduceGT, Nat.reduceEqDiff, Nat.reduceBEq, Int.reduceNeg, Int.reduceEq, Int.reduceLT, Int.reduceLE, Int.reduceBEq, Int.reduceToNat, Int.toNat_natCast, Int.natCast_zero, r125_T, r125, g, g', va, g1, g2, decide_true, decide_false, Bool.not_true, Bool.not_false, Bool.false_and, Bool.true_and]
        rw [r125_B0_n]
        erw [hL]
        rcases Bool.eq_false_or_eq_true (conts ((bs s).drop 2) (n - 1)) with g3 | g3 <;> rw [g3] <;> simp only [go_sem, and_self, and_true, true_and, false_and, and_false, Nat.reduceAdd, Nat.reduceMul, Nat.reduceSub, Nat.reduceLeDiff, Nat.reduceLT, Nat.reduceGT, Nat.reduceEqDiff, Nat.reduceBEq, Int.reduceNeg, Int.reduceEq, Int.reduceLT, Int.reduceLE, Int.reduceBEq, Int.reduceToNat, Int.toNat_natCast, Int.natCast_zero]

theorem size_0 (s : ByteArray) (c : Int) (h0 : 0 < s.size) (hc : ((s[0].toNat : Nat) : Int) = c) (g1 : c ≥ 0) (g2 : c ≤ 127) (hp : List Ent) : F tab 119 [.d (.str s)] hp = some (.ret (.d (iv (sizeL (bs s)))) hp) := by
  obtain ⟨va, vd⟩ := bs_get h0
  have e := bs_nb h0
  rw [hc] at e
  have xa : (c < 128) = True := eq_true (by omega)
  have xb : (c ≥ 194) = False := eq_false (by omega)
  have xd : (c ≤ 223) = True := eq_true (by omega)
  have xe : (c == 224) = false := by simp <;> omega
  have xf : (c ≥ 225) = False := eq_false (by omega)
  have xh : (c ≤ 239) = True := eq_true (by omega)
  have xi : (c != 237) = true := by simp <;> omega
  have xj : (c == 237) = false := by simp <;> omega
  have xk : (c == 240) = false := by simp <;> omega
  have xl : (c ≥ 241) = False := eq_false (by omega)
  have xm : (c ≤ 243) = True := eq_true (by omega)
  have xn : (c == 244) = false := by simp <;> omega
  refine f119 rfl ?_
  unfold sizeL
  rw [← e]
  simp (disch := omega) only [go_sem, and_self, and_true, true_and, false_and, and_false, Nat.reduceAdd, Nat.reduceMul, Nat.reduceSub, Nat.reduceLeDiff, Nat.reduceLT, Nat.reduceGT, Nat.reduceEqDiff, Nat.reduceBEq, Int.reduceNeg, Int.reduceEq, Int.reduceLT, Int.reduceLE, Int.reduceBEq, Int.reduceToNat, Int.toNat_natCast, Int.natCast_zero, r119_T, r119, va, hc, xa, xb, xd, xe, xf, xh, xi, xj, xk, xl, xm, xn, decide_true, decide_false, Bool.true_and, Bool.false_and, Bool.true_or, Bool.false_or, Bool.and_false, Bool.and_true, Int.natCast_one]
  try rfl

theorem size_1 (s : ByteArray) (c : Int) (h0 : 0 < s.size) (hc : ((s[0].toNat : Nat) : Int) = c) (g1 : c ≥ 128) (g2 : c ≤ 193) (hp : List Ent) : F tab 119 [.d (.str s)] hp = some (.ret (.d (iv (sizeL (bs s)))) hp) := by
  obtain ⟨va, vd⟩ := bs_get h0
  have e := bs_nb h0
  rw [hc] at e
  have xa : (c < 128) = False := eq_false (by omega)
  have xb : (c ≥ 194) = False := eq_false (by omega)
  have xd : (c ≤ 223) = True := eq_true (by omega)
  have xe : (c == 224) = false := by simp <;> omega
  have xf : (c ≥ 225) = False := eq_false (by omega)
  have xh : (c ≤ 239) = True := eq_true (by omega)
  have xi : (c != 237) = true := by simp <;> omega
  have xj : (c == 237) = false := by simp <;> omega
  have xk : (c == 240) = false := by simp <;> omega
  have xl : (c ≥ 241) = False := eq_false (by omega)
  have xm : (c ≤ 243) = True := eq_true (by omega)
  have xn : (c == 244) = false := by simp <;> omega
  refine f119 rfl ?_
  unfold sizeL
  rw [← e]
  simp (disch := omega) only [go_sem, and_self, and_true, true_and, false_and, and_false, Nat.reduceAdd, Nat.reduceMul, Nat.reduceSub, Nat.reduceLeDiff, Nat.reduceLT, Nat.reduceGT, Nat.reduceEqDiff, Nat.reduceBEq, Int.reduceNeg, Int.reduceEq, Int.reduceLT, Int.reduceLE, Int.reduceBEq, Int.reduceToNat, Int.toNat_natCast, Int.natCast_zero, r119_T, r119, va, hc, xa, xb, xd, xe, xf, xh, xi, xj, xk, xl, xm, xn, decide_true, decide_false, Bool.true_and, Bool.false_and, Bool.true_or, Bool.false_or, Bool.and_false, Bool.and_true, Int.natCast_one]
  try rfl

theorem size_2 (s : ByteArray) (c : Int) (h0 : 0 < s.size) (hc : ((s[0].toNat : Nat) : Int) = c) (g1 : c ≥ 194) (g2 : c ≤ 223) (hp : List Ent) : F tab 119 [.d (.str s)] hp = some (.ret (.d (iv (sizeL (bs s)))) hp) := by
  obtain ⟨va, vd⟩ := bs_get h0
  have e := bs_nb h0
  rw [hc] at e
  have xa : (c < 128) = False := eq_false (by omega)
  have xb : (c ≥ 194) = True := eq_true (by omega)
  have xd : (c ≤ 223) = True := eq_true (by omega)
  have xe : (c == 224) = false := by simp <;> omega
  have xf : (c ≥ 225) = False := eq_false (by omega)
  have xh : (c ≤ 239) = True := eq_true (by omega)
  have xi : (c != 237) = true := by simp <;> omega
  have xj : (c == 237) = false := by simp <;> omega
  have xk : (c == 240) = false := by simp <;> omega
  have xl : (c ≥ 241) = False := eq_false (by omega)
  have xm : (c ≤ 243) = True := eq_true (by omega)
  have xn : (c == 244) = false := by simp <;> omega
  have ht : ∀ hp, F tab 125 [.d (.str s), .d (iv 1), .d (.int .u8 128), .d (.int .u8 191)] hp = _ := tail_ok s 1 128 191 (by omega) (by omega)
  refine f119 rfl ?_
  unfold sizeL
  rw [← e]
  rcases Bool.eq_false_or_eq_true (tailL (bs s) 1 128 191) with g | g <;> rw [g] at ht <;>
    simp (disch := omega) only [go_sem, and_self, and_true, true_and, false_and, and_false, Nat.reduceAdd, Nat.reduceMul, Nat.reduceSub, Nat.reduceLeDiff, Nat.reduceLT, Nat.reduceGT, Nat.reduceEqDiff, Nat.reduceBEq, Int.reduceNeg, Int.reduceEq, Int.reduceLT, Int.reduceLE, Int.reduceBEq, Int.reduceToNat, Int.toNat_natCast, Int.natCast_zero, r119_T, r119, va, hc, xa, xb, xd, xe, xf, xh, xi, xj, xk, xl, xm, xn, ht, g, decide_true, decide_false, Bool.true_and, Bool.false_and, Bool.true_or, Bool.false_or, Bool.and_false, Bool.and_true, Int.natCast_one] <;> rfl

theorem size_3 (s : ByteArray) (c : Int) (h0 : 0 < s.size) (hc : ((s[0].toNat : Nat) : Int) = c) (g1 : c ≥ 224) (g2 : c ≤ 224) (hp : List Ent) : F tab 119 [.d (.str s)] hp = some (.ret (.d (iv (sizeL (bs s)))) hp) := by
  obtain ⟨va, vd⟩ := bs_get h0
  have e := bs_nb h0
  rw [hc] at e
  have xa : (c < 128) = False := eq_false (by omega)
  have xb : (c ≥ 194) = True := eq_true (by omega)
  have xd : (c ≤ 223) = False := eq_false (by omega)
  have xe : (c == 224) = true := by simp <;> omega
  have xf : (c ≥ 225) = False := eq_false (by omega)
  have xh : (c ≤ 239) = True := eq_true (by omega)
  have xi : (c != 237) = true := by simp <;> omega
  have xj : (c == 237) = false := by simp <;> omega
  have xk : (c == 240) = false := by simp <;> omega
  have xl : (c ≥ 241) = False := eq_false (by omega)
  have xm : (c ≤ 243) = True := eq_true (by omega)
  have xn : (c == 244) = false := by simp <;> omega
  have ht : ∀ hp, F tab 125 [.d (.str s), .d (iv 2), .d (.int .u8 160), .d (.int .u8 191)] hp = _ := tail_ok s 2 160 191 (by omega) (by omega)
  refine f119 rfl ?_
  unfold sizeL
  rw [← e]
  rcases Bool.eq_false_or_eq_true (tailL (bs s) 2 160 191) with g | g <;> rw [g] at ht <;>
    simp (disch := omega) only [go_sem, and_self, and_true, true_and, false_and, and_false, Nat.reduceAdd, Nat.reduceMul, Nat.reduceSub, Nat.reduceLeDiff, Nat.reduceLT, Nat.reduceGT, Nat.reduceEqDiff, Nat.reduceBEq, Int.reduceNeg, Int.reduceEq, Int.reduceLT, Int.reduceLE, Int.reduceBEq, Int.reduceToNat, Int.toNat_natCast, Int.natCast_zero, r119_T, r119, va, hc, xa, xb, xd, xe, xf, xh, xi, xj, xk, xl, xm, xn, ht, g, decide_true, decide_false, Bool.true_and, Bool.false_and, Bool.true_or, Bool.false_or, Bool.and_false, Bool.and_true, Int.natCast_one] <;> rfl

theorem size_4 (s : ByteArray) (c : Int) (h0 : 0 < s.size) (hc : ((s[0].toNat : Nat) : Int) = c) (g1 : c ≥ 225) (g2 : c ≤ 236) (hp : List Ent) : F tab 119 [.d (.str s)] hp = some (.ret (.d (iv (sizeL (bs s)))) hp) := by
  obtain ⟨va, vd⟩ := bs_get h0
  have e := bs_nb h0
  rw [hc] at e
  have xa : (c < 128) = False := eq_false (by omega)
  have xb : (c ≥ 194) = True := eq_true (by omega)
  have xd : (c ≤ 223) = False := eq_false (by omega)
  have xe : (c == 224) = false := by simp <;> omega
  have xf : (c ≥ 225) = True := eq_true (by omega)
  have xh : (c ≤ 239) = True := eq_true (by omega)
  have xi : (c != 237) = true := by simp <;> omega
  have xj : (c == 237) = false := by simp <;> omega
  have xk : (c == 240) = false := by simp <;> omega
  have xl : (c ≥ 241) = False := eq_false (by omega)
  have xm : (c ≤ 243) = True := eq_true (by omega)
  have xn : (c == 244) = false := by simp <;> omega
  have ht : ∀ hp, F tab 125 [.d (.str s), .d (iv 2), .d (.int .u8 128), .d (.int .u8 191)] hp = _ := tail_ok s 2 128 191 (by omega) (by omega)
  refine f119 rfl ?_
  unfold sizeL
  rw [← e]
  rcases Bool.eq_false_or_eq_true (tailL (bs s) 2 128 191) with g | g <;> rw [g] at ht <;>
    simp (disch := omega) only [go_sem, and_self, and_true, true_and, false_and, and_false, Nat.reduceAdd, Nat.reduceMul, Nat.reduceSub, Nat.reduceLeDiff, Nat.reduceLT, Nat.reduceGT, Nat.reduceEqDiff, Nat.reduceBEq, Int.reduceNeg, Int.reduceEq, Int.reduceLT, Int.reduceLE, Int.reduceBEq, Int.reduceToNat, Int.toNat_natCast, Int.natCast_zero, r119_T, r119, va, hc, xa, xb, xd, xe, xf, xh, xi, xj, xk, xl, xm, xn, ht, g, decide_true, decide_false, Bool.true_and, Bool.false_and, Bool.true_or, Bool.false_or, Bool.and_false, Bool.and_true, Int.natCast_one] <;> rfl

theorem size_5 (s : ByteArray) (c : Int) (h0 : 0 < s.size) (hc : ((s[0].toNat : Nat) : Int) = c) (g1 : c ≥ 237) (g2 : c ≤ 237) (hp : List Ent) : F tab 119 [.d (.str s)] hp = some (.ret (.d (iv (sizeL (bs s)))) hp) := by
  obtain ⟨va, vd⟩ := bs_get h0
  have e := bs_nb h0
  rw [hc] at e
  have xa : (c < 128) = False := eq_false (by omega)
  have xb : (c ≥ 194) = True := eq_true (by omega)
  have xd : (c ≤ 223) = False := eq_false (by omega)
  have xe : (c == 224) = false := by simp <;> omega
  have xf : (c ≥ 225) = True := eq_true (by omega)
  have xh : (c ≤ 239) = True := eq_true (by omega)
  have xi : (c != 237) = false := by simp <;> omega
  have xj : (c == 237) = true := by simp <;> omega
  have xk : (c == 240) = false := by simp <;> omega
  have xl : (c ≥ 241) = False := eq_false (by omega)
  have xm : (c ≤ 243) = True := eq_true (by omega)
  have xn : (c == 244) = false := by simp <;> omega
  have ht : ∀ hp, F tab 125 [.d (.str s), .d (iv 2), .d (.int .u8 128), .d (.int .u8 159)] hp = _ := tail_ok s 2 128 159 (by omega) (by omega)
  refine f119 rfl ?_
  unfold sizeL
  rw [← e]
  rcases Bool.eq_false_or_eq_true (tailL (bs s) 2 128 159) with g | g <;> rw [g] at ht <;>
    simp (disch := omega) only [go_sem, and_self, and_true, true_and, false_and, and_false, Nat.reduceAdd, Nat.reduceMul, Nat.reduceSub, Nat.reduceLeDiff, Nat.reduceLT, Nat.reduceGT, Nat.reduceEqDiff, Nat.reduceBEq, Int.reduceNeg, Int.reduceEq, Int.reduceLT, Int.reduceLE, Int.reduceBEq, Int.reduceToNat, Int.toNat_natCast, Int.natCast_zero, r119_T, r119, va, hc, xa, xb, xd, xe, xf, xh, xi, xj, xk, xl, xm, xn, ht, g, decide_true, decide_false, Bool.true_and, Bool.false_and, Bool.true_or, Bool.false_or, Bool.and_false, Bool.and_true, Int.natCast_one] <;> rfl

theorem size_6 (s : ByteArray) (c : Int) (h0 : 0 < s.size) (hc : ((s[0].toNat : Nat) : Int) = c) (g1 : c ≥ 238) (g2 : c ≤ 239) (hp : List Ent) : F tab 119 [.d (.str s)] hp = some (.ret (.d (iv (sizeL (bs s)))) hp) := by
  obtain ⟨va, vd⟩ := bs_get h0
  have e := bs_nb h0
  rw [hc] at e
  have xa : (c < 128) = False := eq_false (by omega)
  have xb : (c ≥ 194) = True := eq_true (by omega)
  have xd : (c ≤ 223) = False := eq_false (by omega)
  have xe : (c == 224) = false := by simp <;> omega
  have xf : (c ≥ 225) = True := eq_true (by omega)
  have xh : (c ≤ 239) = True := eq_true (by omega)
  have xi : (c != 237) = true := by simp <;> omega
  have xj : (c == 237) = false := by simp <;> omega
  have xk : (c == 240) = false := by simp <;> omega
  have xl : (c ≥ 241) = False := eq_false (by omega)
  have xm : (c ≤ 243) = True := eq_true (by omega)
  have xn : (c == 244) = false := by simp <;> omega
  have ht : ∀ hp, F tab 125 [.d (.str s), .d (iv 2), .d (.int .u8 128), .d (.int .u8 191)] hp = _ := tail_ok s 2 128 191 (by omega) (by omega)
  refine f119 rfl ?_
  unfold sizeL
  rw [← e]
  rcases Bool.eq_false_or_eq_true (tailL (bs s) 2 128 191) with g | g <;> rw [g] at ht <;>
    simp (disch := omega) only [go_sem, and_self, and_true, true_and, false_and, and_false, Nat.reduceAdd, Nat.reduceMul, Nat.reduceSub, Nat.reduceLeDiff, Nat.reduceLT, Nat.reduceGT, Nat.reduceEqDiff, Nat.reduceBEq, Int.reduceNeg, Int.reduceEq, Int.reduceLT, Int.reduceLE, Int.reduceBEq, Int.reduceToNat, Int.toNat_natCast, Int.natCast_zero, r119_T, r119, va, hc, xa, xb, xd, xe, xf, xh, xi, xj, xk, xl, xm, xn, ht, g, decide_true, decide_false, Bool.true_and, Bool.false_and, Bool.true_or, Bool.false_or, Bool.and_false, Bool.and_true, Int.natCast_one] <;> rfl

theorem size_7 (s : ByteArray) (c : Int) (h0 : 0 < s.size) (hc : ((s[0].toNat : Nat) : Int) = c) (g1 : c ≥ 240) (g2 : c ≤ 240) (hp : List Ent) : F tab 119 [.d (.str s)] hp = some (.ret (.d (iv (sizeL (bs s)))) hp) := by
  obtain ⟨va, vd⟩ := bs_get h0
  have e := bs_nb h0
  rw [hc] at e
  have xa : (c < 128) = False := eq_false (by omega)
  have xb : (c ≥ 194) = True := eq_true (by omega)
  have xd : (c ≤ 223) = False := eq_false (by omega)
  have xe : (c == 224) = false := by simp <;> omega
  have xf : (c ≥ 225) = True := eq_true (by omega)
  have xh : (c ≤ 239) = False := eq_false (by omega)
  have xi : (c != 237) = true := by simp <;> omega
  have xj : (c == 237) = false := by simp <;> omega
  have xk : (c == 240) = true := by simp <;> omega
  have xl : (c ≥ 241) = False := eq_false (by omega)
  have xm : (c ≤ 243) = True := eq_true (by omega)
  have xn : (c == 244) = false := by simp <;> omega
  have ht : ∀ hp, F tab 125 [.d (.str s), .d (iv 3), .d (.int .u8 144), .d (.int .u8 191)] hp = _ := tail_ok s 3 144 191 (by omega) (by omega)
  refine f119 rfl ?_
  unfold sizeL
  rw [← e]
  rcases Bool.eq_false_or_eq_true (tailL (bs s) 3 144 191) with g | g <;> rw [g] at ht <;>
    simp (disch := omega) only [go_sem, and_self, and_true, true_and, false_and, and_false, Nat.reduceAdd, Nat.reduceMul, Nat.reduceSub, Nat.reduceLeDiff, Nat.reduceLT, Nat.reduceGT, Nat.reduceEqDiff, Nat.reduceBEq, Int.reduceNeg, Int.reduceEq, Int.reduceLT, Int.reduceLE, Int.reduceBEq, Int.reduceToNat, Int.toNat_natCast, Int.natCast_zero, r119_T, r119, va, hc, xa, xb, xd, xe, xf, xh, xi, xj, xk, xl, xm, xn, ht, g, decide_true, decide_false, Bool.true_and, Bool.false_and, Bool.true_or, Bool.false_or, Bool.and_false, Bool.and_true, Int.natCast_one] <;> rfl

theorem size_8 (s : ByteArray) (c : Int) (h0 : 0 < s.size) (hc : ((s[0].toNat : Nat) : Int) = c) (g1 : c ≥ 241) (g2 : c ≤ 243) (hp : List Ent) : F tab 119 [.d (.str s)] hp = some (.ret (.d (iv (sizeL (bs s)))) hp) := by
  obtain ⟨va, vd⟩ := bs_get h0
  have e := bs_nb h0
  rw [hc] at e
  have xa : (c < 128) = False := eq_false (by omega)
  have xb : (c ≥ 194) = True := eq_true (by omega)
  have xd : (c ≤ 223) = False := eq_false (by omega)
  have xe : (c == 224) = false := by simp <;> omega
  have xf : (c ≥ 225) = True := eq_true (by omega)
  have xh : (c ≤ 239) = False := eq_false (by omega)
  have xi : (c != 237) = true := by simp <;> omega
  have xj : (c == 237) = false := by simp <;> omega
  have xk : (c == 240) = false := by simp <;> omega
  have xl : (c ≥ 241) = True := eq_true (by omega)
  have xm : (c ≤ 243) = True := eq_true (by omega)
  have xn : (c == 244) = false := by simp <;> omega
  have ht : ∀ hp, F tab 125 [.d (.str s), .d (iv 3), .d (.int .u8 128), .d (.int .u8 191)] hp = _ := tail_ok s 3 128 191 (by omega) (by omega)
  refine f119 rfl ?_
  unfold sizeL
  rw [← e]
  rcases Bool.eq_false_or_eq_true (tailL (bs s) 3 128 191) with g | g <;> rw [g] at ht <;>
    simp (disch := omega) only [go_sem, and_self, and_true, true_and, false_and, and_false, Nat.reduceAdd, Nat.reduceMul, Nat.reduceSub, Nat.reduceLeDiff, Nat.reduceLT, Nat.reduceGT, Nat.reduceEqDiff, Nat.reduceBEq, Int.reduceNeg, Int.reduceEq, Int.reduceLT, Int.reduceLE, Int.reduceBEq, Int.reduceToNat, Int.toNat_natCast, Int.natCast_zero, r119_T, r119, va, hc, xa, xb, xd, xe, xf, xh, xi, xj, xk, xl, xm, xn, ht, g, decide_true, decide_false, Bool.true_and, Bool.false_and, Bool.true_or, Bool.false_or, Bool.and_false, Bool.and_true, Int.natCast_one] <;> rfl

theorem size_9 (s : ByteArray) (c : Int) (h0 : 0 < s.size) (hc : ((s[0].toNat : Nat) : Int) = c) (g1 : c ≥ 244) (g2 : c ≤ 244) (hp : List Ent) : F tab 119 [.d (.str s)] hp = some (.ret (.d (iv (sizeL (bs s)))) hp) := by
  obtain ⟨va, vd⟩ := bs_get h0
  have e := bs_nb h0
  rw [hc] at e
  have xa : (c < 128) = False := eq_false (by omega)
  have xb : (c ≥ 194) = True := eq_true (by omega)
  have xd : (c ≤ 223) = False := eq_false (by omega)
  have xe : (c == 224) = false := by simp <;> omega
  have xf : (c ≥ 225) = True := eq_true (by omega)
  have xh : (c ≤ 239) = False := eq_false (by omega)
  have xi : (c != 237) = true := by simp <;> omega
  have xj : (c == 237) = false := by simp <;> omega
  have xk : (c == 240) = false := by simp <;> omega
  have xl : (c ≥ 241) = True := eq_true (by omega)
  have xm : (c ≤ 243) = False := eq_false (by omega)
  have xn : (c == 244) = true := by simp <;> omega
  have ht : ∀ hp, F tab 125 [.d (.str s), .d (iv 3), .d (.int .u8 128), .d (.int .u8 143)] hp = _ := tail_ok s 3 128 143 (by omega) (by omega)
  refine f119 rfl ?_
  unfold sizeL
  rw [← e]
  rcases Bool.eq_false_or_eq_true (tailL (bs s) 3 128 143) with g | g <;> rw [g] at ht <;>
    simp (disch := omega) only [go_sem, and_self, and_true, true_and, false_and, and_false, Nat.reduceAdd, Nat.reduceMul, Nat.reduceSub, Nat.reduceLeDiff, Nat.reduceLT, Nat.reduceGT, Nat.reduceEqDiff, Nat.reduceBEq, Int.reduceNeg, Int.reduceEq, Int.reduceLT, Int.reduceLE, Int.reduceBEq, Int.reduceToNat, Int.toNat_natCast, Int.natCast_zero, r119_T, r119, va, hc, xa, xb, xd, xe, xf, xh, xi, xj, xk, xl, xm, xn, ht, g, decide_true, decide_false, Bool.true_and, Bool.false_and, Bool.true_or, Bool.false_or, Bool.and_false, Bool.and_true, Int.natCast_one] <;> rfl

theorem size_10 (s : ByteArray) (c : Int) (h0 : 0 < s.size) (hc : ((s[0].toNat : Nat) : Int) = c) (g1 : c ≥ 245) (g2 : c ≤ 255) (hp : List Ent) : F tab 119 [.d (.str s)] hp = some (.ret (.d (iv (sizeL (bs s)))) hp) := by
  obtain ⟨va, vd⟩ := bs_get h0
  have e := bs_nb h0
  rw [hc] at e
  have xa : (c < 128) = False := eq_false (by omega)
  have xb : (c ≥ 194) = True := eq_true (by omega)
  have xd : (c ≤ 223) = False := eq_false (by omega)
  have xe : (c == 224) = false := by simp <;> omega
  have xf : (c ≥ 225) = True := eq_true (by omega)
  have xh : (c ≤ 239) = False := eq_false (by omega)
  have xi : (c != 237) = true := by simp <;> omega
  have xj : (c == 237) = false := by simp <;> omega
  have xk : (c == 240) = false := by simp <;> omega
  have xl : (c ≥ 241) = True := eq_true (by omega)
  have xm : (c ≤ 243) = False := eq_false (by omega)
  have xn : (c == 244) = false := by simp <;> omega
  refine f119 rfl ?_
  unfold sizeL
  rw [← e]
  simp (disch := omega) only [go_sem, and_self, and_true, true_and, false_and, and_false, Nat.reduceAdd, Nat.reduceMul, Nat.reduceSub, Nat.reduceLeDiff, Nat.reduceLT, Nat.reduceGT, Nat.reduceEqDiff, Nat.reduceBEq, Int.reduceNeg, Int.reduceEq, Int.reduceLT, Int.reduceLE, Int.reduceBEq, Int.reduceToNat, Int.toNat_natCast, Int.natCast_zero, r119_T, r119, va, hc, xa, xb, xd, xe, xf, xh, xi, xj, xk, xl, xm, xn, decide_true, decide_false, Bool.true_and, Bool.false_and, Bool.true_or, Bool.false_or, Bool.and_false, Bool.and_true, Int.natCast_one]
  try rfl

theorem usize_ok (s : ByteArray) (h0 : 0 < s.size) (hp : List Ent) : F tab 119 [.d (.str s)] hp = some (.ret (.d (iv (sizeL (bs s)))) hp) := by
  have hb : s[0].toNat < 256 := UInt8.toNat_lt _
  by_cases c0 : ((s[0].toNat : Nat) : Int) ≤ 127
  · exact size_0 s _ h0 rfl (by omega) (by omega) hp
  by_cases c1 : ((s[0].toNat : Nat) : Int) ≤ 193
  · exact size_1 s _ h0 rfl (by omega) (by omega) hp
  by_cases c2 : ((s[0].toNat : Nat) : Int) ≤ 223
  · exact size_2 s _ h0 rfl (by omega) (by omega) hp
  by_cases c3 : ((s[0].toNat : Nat) : Int) ≤ 224
  · exact size_3 s _ h0 rfl (by omega) (by omega) hp
  by_cases c4 : ((s[0].toNat : Nat) : Int) ≤ 236
  · exact size_4 s _ h0 rfl (by omega) (by omega) hp
  by_cases c5 : ((s[0].toNat : Nat) : Int) ≤ 237
  · exact size_5 s _ h0 rfl (by omega) (by omega) hp
  by_cases c6 : ((s[0].toNat : Nat) : Int) ≤ 239
  · exact size_6 s _ h0 rfl (by omega) (by omega) hp
  by_cases c7 : ((s[0].toNat : Nat) : Int) ≤ 240
  · exact size_7 s _ h0 rfl (by omega) (by omega) hp
  by_cases c8 : ((s[0].toNat : Nat) : Int) ≤ 243
  · exact size_8 s _ h0 rfl (by omega) (by omega) hp
  by_cases c9 : ((s[0].toNat : Nat) : Int) ≤ 244
  · exact size_9 s _ h0 rfl (by omega) (by omega) hp
  exact size_10 s _ h0 rfl (by omega) (by omega) hp
end Go.Pe.T

namespace Go.Pe.T

abbrev numD (c s : Int) : D := .agg [iv c, iv s]

def numIs (c s : Int) : Bool := decide (0 ≤ s) && decide (s ≤ 9) && decide (-1000000000000000 < c) && decide (c < 1000000000000000) && (s == 0 || c.tmod 10 != 0)

theorem numIs_ok (c s : Int) (hp : List Ent) : F tab 113 [.d (numD c s)] hp = some (.ret (.d (.bool (numIs c s))) hp) := by
  refine f113 rfl ?_
  by_cases h1 : s < 0
  · have g1 : ¬ (0 ≤ s) := by omega
    simp only [go_sem, and_self, and_true, true_and, false_and, and_false, Nat.reduceAdd, Nat.reduceMul, Nat.reduceSub, Nat.reduceLeDiff, Nat.reduceLT, Nat.reduceGT, Nat.reduceEqDiff, Nat.reduceBEq, Int.reduceNeg, Int.reduceEq, Int.reduceLT, Int.reduceLE, Int.reduceBEq, Int.reduceToNat, Int.toNat_natCast, Int.natCast_zero, r113_T, r113, numIs, h1, g1]
  · have g1 : 0 ≤ s := by omega
    by_cases h2 : s > 9
    · have g2 : ¬ (s ≤ 9) := by omega
      simp only [go_sem, and_self, and_true, true_and, false_and, and_false, Nat.reduceAdd, Nat.reduceMul, Nat.reduceSub, Nat.reduceLeDiff, Nat.reduceLT, Nat.reduceGT, Nat.reduceEqDiff, Nat.reduceBEq, Int.reduceNeg, Int.reduceEq, Int.reduceLT, Int.reduceLE, Int.reduceBEq, Int.reduceToNat, Int.toNat_natCast, Int.natCast_zero, r113_T, r113, numIs, h1, g1, h2, g2]
    · have g2 : s ≤ 9 := by omega
      by_cases h3 : c ≤ -1000000000000000
      · have g3 : ¬ (-1000000000000000 < c) := by omega
        simp only [go_sem, and_self, and_true, true_and, false_and, and_false, Nat.reduceAdd, Nat.reduceMul, Nat.reduceSub, Nat.reduceLeDiff, Nat.reduceLT, Nat.reduceGT, Nat.reduceEqDiff, Nat.reduceBEq, Int.reduceNeg, Int.reduceEq, Int.reduceLT, Int.reduceLE, Int.reduceBEq, Int.reduceToNat, Int.toNat_natCast, Int.natCast_zero, r113_T, r113, numIs, h1, g1, h2, g2, h3, g3]
      · have g3 : -1000000000000000 < c := by omega
        by_cases h4 : c ≥ 1000000000000000
        · have g4 : ¬ (c < 1000000000000000) := by omega
          simp only [go_sem, and_self, and_true, true_and, false_and, and_false, Nat.reduceAdd, Nat.reduceMul, Nat.reduceSub, Nat.reduceLeDiff, Nat.reduceLT, Nat.reduceGT, Nat.reduceEqDiff, Nat.reduceBEq, Int.reduceNeg, Int.reduceEq, Int.reduceLT, Int.reduceLE, Int.reduceBEq, Int.reduceToNat, Int.toNat_natCast, Int.natCast_zero, r113_T, r113, numIs, h1, g1, h2, g2, h3, g3, h4, g4]
        · have g4 : c < 1000000000000000 := by omega
          by_cases h5 : s = 0
          · subst h5
            simp only [go_sem, and_self, and_true, true_and, false_and, and_false, Nat.reduceAdd, Nat.reduceMul, Nat.reduceSub, Nat.reduceLeDiff, Nat.reduceLT, Nat.reduceGT, Nat.reduceEqDiff, Nat.reduceBEq, Int.reduceNeg, Int.reduceEq, Int.reduceLT, Int.reduceLE, Int.reduceBEq, Int.reduceToNat, Int.toNat_natCast, Int.natCast_zero, r113_T, r113, numIs, h1, g1, h2, g2, h3, g3, h4, g4, Bool.true_or]
          · have g5 : (s == 0) = false := by simpa using h5
            simp only [go_sem, and_self, and_true, true_and, false_and, and_false, Nat.reduceAdd, Nat.reduceMul, Nat.reduceSub, Nat.reduceLeDiff, Nat.reduceLT, Nat.reduceGT, Nat.reduceEqDiff, Nat.reduceBEq, Int.reduceNeg, Int.reduceEq, Int.reduceLT, Int.reduceLE, Int.reduceBEq, Int.reduceToNat, Int.toNat_natCast, Int.natCast_zero, r113_T, r113, numIs, h1, g1, h2, g2, h3, g3, h4, g4, g5, Bool.false_or]

theorem num4Is_ok (c s : Int) (hp : List Ent) : F tab 67 [.d (numD c s)] hp = some (.ret (.d (.bool (numIs c s))) hp) := by
  refine f67 rfl ?_
  by_cases h1 : s < 0
  · have g1 : ¬ (0 ≤ s) := by omega
    simp only [go_sem, and_self, and_true, true_and, false_and, and_false, Nat.reduceAdd, Nat.reduceMul, Nat.reduceSub, Nat.reduceLeDiff, Nat.reduceLT, Nat.reduceGT, Nat.reduceEqDiff, Nat.reduceBEq, Int.reduceNeg, Int.reduceEq, Int.reduceLT, Int.reduceLE, Int.reduceBEq, Int.reduceToNat, Int.toNat_natCast, Int.natCast_zero, r67_T, r67, numIs, h1, g1]
  · have g1 : 0 ≤ s := by omega
    by_cases h2 : s > 9
    · have g2 : ¬ (s ≤ 9) := by omega
      simp only [go_sem, and_self, and_true, true_and, false_and, and_false, Nat.reduceAdd, Nat.reduceMul, Nat.reduceSub, Nat.reduceLeDiff, Nat.reduceLT, Nat.reduceGT, Nat.reduceEqDiff, Nat.reduceBEq, Int.reduceNeg, Int.reduceEq, Int.reduceLT, Int.reduceLE, Int.reduceBEq, Int.reduceToNat, Int.toNat_natCast, Int.natCast_zero, r67_T, r67, numIs, h1, g1, h2, g2]
    · have g2 : s ≤ 9 := by omega
      by_cases h3 : c ≤ -1000000000000000
      · have g3 : ¬ (-1000000000000000 < c) := by omega
        have g4 : c < 1000000000000000 := by omega
        have h4 : ¬ c ≥ 1000000000000000 := by omega
        simp only [go_sem, and_self, and_true, true_and, false_and, and_false, Nat.reduceAdd, Nat.reduceMul, Nat.reduceSub, Nat.reduceLeDiff, Nat.reduceLT, Nat.reduceGT, Nat.reduceEqDiff, Nat.reduceBEq, Int.reduceNeg, Int.reduceEq, Int.reduceLT, Int.reduceLE, Int.reduceBEq, Int.reduceToNat, Int.toNat_natCast, Int.natCast_zero, r67_T, r67, numIs, h1, g1, h2, g2, h3, g3, h4, g4]
      · have g3 : -1000000000000000 < c := by omega
        by_cases h4 : c ≥ 1000000000000000
        · have g4 : ¬ (c < 1000000000000000) := by omega
          simp only [go_sem, and_self, and_true, true_and, false_and, and_false, Nat.reduceAdd, Nat.reduceMul, Nat.reduceSub, Nat.reduceLeDiff, Nat.reduceLT, Nat.reduceGT, Nat.reduceEqDiff, Nat.reduceBEq, Int.reduceNeg, Int.reduceEq, Int.reduceLT, Int.reduceLE, Int.reduceBEq, Int.reduceToNat, Int.toNat_natCast, Int.natCast_zero, r67_T, r67, numIs, h1, g1, h2, g2, h3, g3, h4, g4]
        · have g4 : c < 1000000000000000 := by omega
          by_cases h5 : s = 0
          · subst h5
            simp only [go_sem, and_self, and_true, true_and, false_and, and_false, Nat.reduceAdd, Nat.reduceMul, Nat.reduceSub, Nat.reduceLeDiff, Nat.reduceLT, Nat.reduceGT, Nat.reduceEqDiff, Nat.reduceBEq, Int.reduceNeg, Int.reduceEq, Int.reduceLT, Int.reduceLE, Int.reduceBEq, Int.reduceToNat, Int.toNat_natCast, Int.natCast_zero, r67_T, r67, numIs, h1, g1, h2, g2, h3, g3, h4, g4, Bool.true_or]
          · have g5 : (s == 0) = false := by simpa using h5
            simp only [go_sem, and_self, and_true, true_and, false_and, and_false, Nat.reduceAdd, Nat.reduceMul, Nat.reduceSub, Nat.reduceLeDiff, Nat.reduceLT, Nat.reduceGT, Nat.reduceEqDiff, Nat.reduceBEq, Int.reduceNeg, Int.reduceEq, Int.reduceLT, Int.reduceLE, Int.reduceBEq, Int.reduceToNat, Int.toNat_natCast, Int.natCast_zero, r67_T, r67, numIs, h1, g1, h2, g2, h3, g3, h4, g4, g5, Bool.false_or]


/-! utf.Valid -/
theorem bs_drop (s : ByteArray) (k : Nat) : bs (s.extract k s.size) = (bs s).drop k := by
  simp [bs, ByteArray.data_extract]
  rw [List.take_of_length_le]
  simp
theorem size_drop (s : ByteArray) (k : Nat) : (s.extract k s.size).size = s.size - k := by
  rw [← bs_len, bs_drop, List.length_drop, bs_len]

def VdIs (k : Nat) (s : ByteArray) : Prop :=
  V (F tab) r107_B0 (r107_S0 (.d (.str s)) []) = if validF k (bs s) then some (.norm, r107_E0 []) else some (.ret, r107_R (.d (.bool false)) [])
theorem vd_end (k : Nat) (s : ByteArray) (h : s.size = 0) : VdIs k s := by
  have e := isE s
  have g : decide (s.size ≠ 0) = false := decide_eq_false (by omega)
  have hb : bs s = [] := List.eq_nil_of_length_eq_zero h
  unfold VdIs
  rw [r107_B0_eq, hb]
  cases k <;> simp (disch := omega) only [go_sem, and_self, and_true, true_and, false_and, and_false, Nat.reduceAdd, Nat.reduceMul, Nat.reduceSub, Nat.reduceLeDiff, Nat.reduceLT, Nat.reduceGT, Nat.reduceEqDiff, Nat.reduceBEq, Int.reduceNeg, Int.reduceEq, Int.reduceLT, Int.reduceLE, Int.reduceBEq, Int.reduceToNat, Int.toNat_natCast, Int.natCast_zero, r107_C0, strD_neq, e, g, Bool.not_true, Bool.not_false, validF]
theorem vd_step (k : Nat) (s : ByteArray) (h : 0 < s.size) (hs : s.size ≤ maxLen) (ih : 0 < sizeL (bs s) → VdIs k (s.extract (sizeL (bs s)) s.size)) : VdIs (k + 1) s := by
  have hmx : maxLen = 9223372036854775807 := by decide
  have e := isE s
  have g : decide (s.size ≠ 0) = true := decide_eq_true (by omega)
  have hz := usize_ok s h
  have hne : bs s ≠ [] := by
    intro e0
    have := bs_len s
    rw [e0, List.length_nil] at this
    omega
  have hle := sizeL_le (bs s) hne
  rw [bs_len] at hle
  unfold VdIs at ih ⊢
  rw [r107_B0_eq]
  obtain ⟨c, r, hcr⟩ : ∃ c r, bs s = c :: r := by cases hb : bs s with | nil => exact absurd hb hne | cons c r => exact ⟨c, r, rfl⟩
  by_cases h0 : sizeL (bs s) = 0
  · have g0 : validF (k + 1) (bs s) = false := by rw [hcr] at h0 ⊢; simp [validF, h0]
    have g1 : ((sizeL (bs s) : Int) == 0) = true := by simp [h0]
    rw [g0]
    simp (disch := omega) only [go_sem, and_self, and_true, true_and, false_and, and_false, Nat.reduceAdd, Nat.reduceMul, Nat.reduceSub, Nat.reduceLeDiff, Nat.reduceLT, Nat.reduceGT, Nat.reduceEqDiff, Nat.reduceBEq, Int.reduceNeg, Int.reduceEq, Int.reduceLT, Int.reduceLE, Int.reduceBEq, Int.reduceToNat, Int.toNat_natCast, Int.natCast_zero, r107_C0, strD_neq, e, g, Bool.not_true, Bool.not_false, hz, g1]
  · have g0 : validF (k + 1) (bs s) = validF k ((bs s).drop (sizeL (bs s))) := by rw [hcr] at h0 ⊢; simp [validF, h0]
    have g1 : ((sizeL (bs s) : Int) == 0) = false := by simp [h0]
    have ih := ih (by omega)
    rw [bs_drop] at ih
    have h1 : ((sizeL (bs s) : Int) ≤ (s.size : Int)) = True := eq_true (by omega)
    have h2 : (0 ≤ (sizeL (bs s) : Int)) = True := eq_true (by omega)
    have h3 : ((s.size : Int) ≤ (s.size : Int)) = True := eq_true (by omega)
    rw [g0]
    simp (disch := omega) only [go_sem, and_self, and_true, true_and, false_and, and_false, Nat.reduceAdd, Nat.reduceMul, Nat.reduceSub, Nat.reduceLeDiff, Nat.reduceLT, Nat.reduceGT, Nat.reduceEqDiff, Nat.reduceBEq, Int.reduceNeg, Int.reduceEq, Int.reduceLT, Int.reduceLE, Int.reduceBEq, Int.reduceToNat, Int.toNat_natCast, Int.natCast_zero, r107_C0, strD_neq, e, g, Bool.not_true, Bool.not_false, hz, g1, h1, h2, h3, decide_true]
    exact ih
theorem vd_all : ∀ (k : Nat) (s : ByteArray), s.size ≤ k → s.size ≤ maxLen → VdIs k s
  | 0, s, h, _ => vd_end 0 s (by omega)
  | k + 1, s, h, hs => by
    by_cases h0 : s.size = 0
    · exact vd_end _ s h0
    · exact vd_step k s (by omega) hs fun hp => vd_all k _ (by rw [size_drop]; omega) (by rw [size_drop]; omega)
theorem valid_ok (s : ByteArray) (hs : s.size ≤ maxLen) (hp : List Ent) : F tab 107 [.d (.str s)] hp = some (.ret (.d (.bool (validB s))) hp) := by
  have hL := vd_all s.size s (Nat.le_refl _) hs
  unfold VdIs at hL
  refine f107 rfl ?_
  unfold validB
  simp (disch := omega) only [go_sem, and_self, and_true, true_and, false_and, and_false, Nat.reduceAdd, Nat.reduceMul, Nat.reduceSub, Nat.reduceLeDiff, Nat.reduceLT, Nat.reduceGT, Nat.reduceEqDiff, Nat.reduceBEq, Int.reduceNeg, Int.reduceEq, Int.reduceLT, Int.reduceLE, Int.reduceBEq, Int.reduceToNat, Int.toNat_natCast, Int.natCast_zero, r107_T, r107]
  rw [r107_B0_n]
  erw [hL]
  rcases Bool.eq_false_or_eq_true (validF s.size (bs s)) with g | g <;> rw [g] <;> simp only [go_sem, and_self, and_true, true_and, false_and, and_false, Nat.reduceAdd, Nat.reduceMul, Nat.reduceSub, Nat.reduceLeDiff, Nat.reduceLT, Nat.reduceGT, Nat.reduceEqDiff, Nat.reduceBEq, Int.reduceNeg, Int.reduceEq, Int.reduceLT, Int.reduceLE, Int.reduceBEq, Int.reduceToNat, Int.toNat_natCast, Int.natCast_zero]
end Go.Pe.T

namespace Go.Pe.T

/-! ### going through all parts -/

/-- what is told to go through a list -/
inductive Runs (f : Nat) (caps : List PV) : List Ent → List Xp → List Ent → Bool → Prop where
  | nil {hp} : Runs f caps hp [] hp true
  | stop {hp x l hp'} : F tab f (.d x.enc :: caps) hp = some (.ret (.d (.bool false)) hp') → Runs f caps hp (x :: l) hp' false
  | step {hp x l hp' hp'' b} : F tab f (.d x.enc :: caps) hp = some (.ret (.d (.bool true)) hp') → Runs f caps hp' l hp'' b → Runs f caps hp (x :: l) hp'' b

theorem runs_app {f : Nat} {caps : List PV} : ∀ {a b : List Xp} {hp hp'' : List Ent} {r : Bool}, Runs f caps hp (a ++ b) hp'' r →
    (Runs f caps hp a hp'' false ∧ r = false) ∨ ∃ hp', Runs f caps hp a hp' true ∧ Runs f caps hp' b hp'' r
  | [], b, hp, hp'', r, h => .inr ⟨hp, .nil, h⟩
  | x :: a, b, hp, hp'', r, h => by
    cases h with
    | stop h => exact .inl ⟨.stop h, rfl⟩
    | step h k =>
      rcases runs_app k with ⟨k1, k2⟩ | ⟨hp', k1, k2⟩
      · exact .inl ⟨.step h k1, k2⟩
      · exact .inr ⟨hp', .step h k1, k2⟩

def GoIs (f : Nat) (caps : List PV) (e : Xp) : Prop := ∀ hp hp' b, Runs f caps hp e.pre hp' b → F tab 56 [.d e.enc, .fn f caps] hp = some (.ret (.d (.bool b)) hp')

def GoLoop (f : Nat) (caps : List PV) (xs : List Xp) (i : Nat) : Prop := ∀ hp hp' b, Runs f caps hp (Xp.pres (xs.drop i)) hp' b →
    V (F tab) r56_B0 (r56_S0 (.fn f caps) (.d (.sl (Xp.encs xs))) (.d (iv xs.length)) (.d (iv i)) hp) =
      if b then some (.norm, r56_E0 hp') else some (.ret, r56_R (.d (.bool false)) hp')

theorem go_end (f : Nat) (caps : List PV) (xs : List Xp) (i : Nat) (hi : xs.length ≤ i) : GoLoop f caps xs i := by
  intro hp hp' b h
  rw [List.drop_of_length_le hi, Xp.pres] at h
  cases h
  have h1 : ((i : Int) < (xs.length : Int)) = False := eq_false (by omega)
  rw [r56_B0_eq]
  simp (disch := omega) only [go_sem, and_self, and_true, true_and, false_and, and_false, Nat.reduceAdd, Nat.reduceMul, Nat.reduceSub, Nat.reduceLeDiff, Nat.reduceLT, Nat.reduceGT, Nat.reduceEqDiff, Nat.reduceBEq, Int.reduceNeg, Int.reduceEq, Int.reduceLT, Int.reduceLE, Int.reduceBEq, Int.reduceToNat, Int.toNat_natCast, Int.natCast_zero, r56_C0, h1]

theorem go_step (f : Nat) (caps : List PV) (xs : List Xp) (hl : xs.length ≤ maxLen) (i : Nat) (hi : i < xs.length) (ih : GoIs f caps xs[i]) (hn : GoLoop f caps xs (i + 1)) : GoLoop f caps xs i := by
  intro hp hp'' b h
  have hmx : maxLen = 9223372036854775807 := by decide
  have h1 : ((i : Int) < (xs.length : Int)) = True := eq_true (by omega)
  have hi0 : (0 ≤ (i : Int)) = True := eq_true (by omega)
  have va : (Xp.encs xs)[i]? = some (xs[i].enc) := by rw [xencs_get]; simp [hi]
  rw [List.drop_eq_getElem_cons hi, Xp.pres] at h
  obtain ⟨o, t, p, k, c, s, ns, ys, ex⟩ := xenc_as xs[i]
  rw [r56_B0_eq]
  unfold GoIs at ih
  rw [ex] at ih va
  rcases runs_app h with ⟨k1, rfl⟩ | ⟨hp', k1, k2⟩
  · have ih := ih _ _ _ k1
    simp (disch := omega) only [go_sem, and_self, and_true, true_and, false_and, and_false, Nat.reduceAdd, Nat.reduceMul, Nat.reduceSub, Nat.reduceLeDiff, Nat.reduceLT, Nat.reduceGT, Nat.reduceEqDiff, Nat.reduceBEq, Int.reduceNeg, Int.reduceEq, Int.reduceLT, Int.reduceLE, Int.reduceBEq, Int.reduceToNat, Int.toNat_natCast, Int.natCast_zero, r56_C0, h1, hi0, va, xencs_len, w64, ih]
  · have ih := ih _ _ _ k1
    have hn := hn _ _ _ k2
    rw [Int.natCast_add, Int.natCast_one] at hn
    simp (disch := omega) only [go_sem, and_self, and_true, true_and, false_and, and_false, Nat.reduceAdd, Nat.reduceMul, Nat.reduceSub, Nat.reduceLeDiff, Nat.reduceLT, Nat.reduceGT, Nat.reduceEqDiff, Nat.reduceBEq, Int.reduceNeg, Int.reduceEq, Int.reduceLT, Int.reduceLE, Int.reduceBEq, Int.reduceToNat, Int.toNat_natCast, Int.natCast_zero, r56_C0, h1, hi0, va, xencs_len, w64, ih]
    exact hn

theorem go_loop (f : Nat) (caps : List PV) (xs : List Xp) (hl : xs.length ≤ maxLen) (ih : ∀ x ∈ xs, GoIs f caps x) : ∀ (j i : Nat), i + j = xs.length → GoLoop f caps xs i
  | 0, i, hi => go_end f caps xs i (by omega)
  | j + 1, i, hi => go_step f caps xs hl i (by omega) (ih _ (List.getElem_mem _)) (go_loop f caps xs hl ih j (i + 1) (by omega))

theorem go_fn (f : Nat) (caps : List PV) (o : Int) (t : ByteArray) (p k c s : Int) (ns : List ByteArray) (xs : List Xp) (hL : GoLoop f caps xs 0) : GoIs f caps (.mk o t p k c s ns xs) := by
  intro hp hp'' b h
  unfold GoLoop at hL
  rw [List.drop_zero] at hL
  refine f56 ?_
  simp only [Xp.pre] at h
  cases h with
  | stop h =>
    simp only [Xp.enc] at h
    simp (disch := omega) only [go_sem, and_self, and_true, true_and, false_and, and_false, Nat.reduceAdd, Nat.reduceMul, Nat.reduceSub, Nat.reduceLeDiff, Nat.reduceLT, Nat.reduceGT, Nat.reduceEqDiff, Nat.reduceBEq, Int.reduceNeg, Int.reduceEq, Int.reduceLT, Int.reduceLE, Int.reduceBEq, Int.reduceToNat, Int.toNat_natCast, Int.natCast_zero, r56_T, r56, Xp.enc, h]
  | step h hr =>
    have hL := hL _ _ _ hr
    simp only [Xp.enc] at h
    simp (disch := omega) only [go_sem, and_self, and_true, true_and, false_and, and_false, Nat.reduceAdd, Nat.reduceMul, Nat.reduceSub, Nat.reduceLeDiff, Nat.reduceLT, Nat.reduceGT, Nat.reduceEqDiff, Nat.reduceBEq, Int.reduceNeg, Int.reduceEq, Int.reduceLT, Int.reduceLE, Int.reduceBEq, Int.reduceToNat, Int.toNat_natCast, Int.natCast_zero, r56_T, r56, Xp.enc, h, xencs_len]
    rw [r56_B0_n]
    erw [hL]
    cases b <;> simp (disch := omega) only [go_sem, and_self, and_true, true_and, false_and, and_false, Nat.reduceAdd, Nat.reduceMul, Nat.reduceSub, Nat.reduceLeDiff, Nat.reduceLT, Nat.reduceGT, Nat.reduceEqDiff, Nat.reduceBEq, Int.reduceNeg, Int.reduceEq, Int.reduceLT, Int.reduceLE, Int.reduceBEq, Int.reduceToNat, Int.toNat_natCast, Int.natCast_zero]

theorem go_ok (f : Nat) (caps : List PV) : ∀ (e : Xp), e.ok → GoIs f caps e
  | .mk o t p k c s ns xs, h => by
    simp only [Xp.ok] at h
    exact go_fn f caps o t p k c s ns xs (go_loop f caps xs h.2.2.2.2.2.2.2.2.1 (fun x hx => go_ok f caps x (xoks_mem h.2.2.2.2.2.2.2.2.2 hx)) xs.length 0 (by omega))
end Go.Pe.T

namespace Go.Pe.T

/-! ### are two the same -/

def namesE : List ByteArray → List ByteArray → Bool
  | x :: a, y :: b => (x.toList == y.toList) && namesE a b
  | _, _ => true

mutual
def sameV : Xp → Xp → Bool
  | .mk o t p k c s ns xs, .mk o' t' p' k' c' s' ns' xs' => o == o' && (t.toList == t'.toList && (p == p' && (k == k' && ((c == c' && s == s') && (ns.length == ns'.length && (xs.length == xs'.length && (namesE ns ns' && sameVs xs xs')))))))
def sameVs : List Xp → List Xp → Bool
  | x :: a, y :: b => sameV x y && sameVs a b
  | _, _ => true
end

def SameIs (x y : Xp) : Prop := ∀ hp : List Ent, F tab 18 [.d x.enc, .d y.enc] hp = some (.ret (.d (.bool (sameV x y))) hp)

def SmNames (o p k c s o' p' k' c' s' : Int) (t t' : ByteArray) (ns ns' : List ByteArray) (xs xs' : List Xp) (i : Nat) : Prop :=
    V (F tab) r18_B0 (r18_S0 (.ibox [.d (iv o), .d (.str t), .d (iv p), .d (iv k), .d (iv c), .d (iv s), .d (.sl (ns.map .str)), .d (.sl (Xp.encs xs))]) (.ibox [.d (iv o'), .d (.str t'), .d (iv p'), .d (iv k'), .d (iv c'), .d (iv s'), .d (.sl (ns'.map .str)), .d (.sl (Xp.encs xs'))]) (.d (iv i)) []) =
      if namesE (ns.drop i) (ns'.drop i) then some (.norm, r18_E0 (.ibox [.d (iv o), .d (.str t), .d (iv p), .d (iv k), .d (iv c), .d (iv s), .d (.sl (ns.map .str)), .d (.sl (Xp.encs xs))]) (.ibox [.d (iv o'), .d (.str t'), .d (iv p'), .d (iv k'), .d (iv c'), .d (iv s'), .d (.sl (ns'.map .str)), .d (.sl (Xp.encs xs'))]) []) else some (.ret, r18_R (.d (.bool false)) [])

theorem sm_names_end (o p k c s o' p' k' c' s' : Int) (t t' : ByteArray) (ns ns' : List ByteArray) (xs xs' : List Xp) (i : Nat) (hi : ns.length ≤ i) : SmNames o p k c s o' p' k' c' s' t t' ns ns' xs xs' i := by
  have h1 : ((i : Int) < (ns.length : Int)) = False := eq_false (by omega)
  unfold SmNames
  rw [r18_B0_eq, List.drop_of_length_le hi]
  have e : namesE [] (ns'.drop i) = true := by simp [namesE]
  rw [e]
  simp (disch := omega) only [go_sem, and_self, and_true, true_and, false_and, and_false, Nat.reduceAdd, Nat.reduceMul, Nat.reduceSub, Nat.reduceLeDiff, Nat.reduceLT, Nat.reduceGT, Nat.reduceEqDiff, Nat.reduceBEq, Int.reduceNeg, Int.reduceEq, Int.reduceLT, Int.reduceLE, Int.reduceBEq, Int.reduceToNat, Int.toNat_natCast, Int.natCast_zero, r18_C0, h1, List.length_map]

theorem sm_names_step (o p k c s o' p' k' c' s' : Int) (t t' : ByteArray) (ns ns' : List ByteArray) (xs xs' : List Xp) (hl : ns.length ≤ maxLen) (hn : ns.length = ns'.length) (i : Nat) (hi : i < ns.length) (ih : SmNames o p k c s o' p' k' c' s' t t' ns ns' xs xs' (i + 1)) : SmNames o p k c s o' p' k' c' s' t t' ns ns' xs xs' i := by
  have hmx : maxLen = 9223372036854775807 := by decide
  have hi' : i < ns'.length := by omega
  have h1 : ((i : Int) < (ns.length : Int)) = True := eq_true (by omega)
  have hi0 : (0 ≤ (i : Int)) = True := eq_true (by omega)
  have va : (ns.map D.str)[i]? = some (.str ns[i]) := by simp [hi]
  have vb : (ns'.map D.str)[i]? = some (.str ns'[i]) := by simp [hi']
  unfold SmNames at ih ⊢
  rw [r18_B0_eq, List.drop_eq_getElem_cons hi, List.drop_eq_getElem_cons hi']
  simp only [namesE]
  rcases Bool.eq_false_or_eq_true (ns[i].toList == ns'[i].toList) with g | g
  · rw [Int.natCast_add, Int.natCast_one] at ih
    simp (disch := omega) only [go_sem, and_self, and_true, true_and, false_and, and_false, Nat.reduceAdd, Nat.reduceMul, Nat.reduceSub, Nat.reduceLeDiff, Nat.reduceLT, Nat.reduceGT, Nat.reduceEqDiff, Nat.reduceBEq, Int.reduceNeg, Int.reduceEq, Int.reduceLT, Int.reduceLE, Int.reduceBEq, Int.reduceToNat, Int.toNat_natCast, Int.natCast_zero, r18_C0, h1, List.length_map, hi0, va, vb, g, strD_neq, w64, Bool.true_and]
    exact ih
  · simp (disch := omega) only [go_sem, and_self, and_true, true_and, false_and, and_false, Nat.reduceAdd, Nat.reduceMul, Nat.reduceSub, Nat.reduceLeDiff, Nat.reduceLT, Nat.reduceGT, Nat.reduceEqDiff, Nat.reduceBEq, Int.reduceNeg, Int.reduceEq, Int.reduceLT, Int.reduceLE, Int.reduceBEq, Int.reduceToNat, Int.toNat_natCast, Int.natCast_zero, r18_C0, h1, List.length_map, hi0, va, vb, g, strD_neq, w64, Bool.false_and]

theorem sm_names (o p k c s o' p' k' c' s' : Int) (t t' : ByteArray) (ns ns' : List ByteArray) (xs xs' : List Xp) (hl : ns.length ≤ maxLen) (hn : ns.length = ns'.length) : ∀ (j i : Nat), i + j = ns.length → SmNames o p k c s o' p' k' c' s' t t' ns ns' xs xs' i
  | 0, i, hi => sm_names_end o p k c s o' p' k' c' s' t t' ns ns' xs xs' i (by omega)
  | j + 1, i, hi => sm_names_step o p k c s o' p' k' c' s' t t' ns ns' xs xs' hl hn i (by omega) (sm_names o p k c s o' p' k' c' s' t t' ns ns' xs xs' hl hn j (i + 1) (by omega))

def SmSubs (o p k c s o' p' k' c' s' : Int) (t t' : ByteArray) (ns ns' : List ByteArray) (xs xs' : List Xp) (i : Nat) : Prop :=
    V (F tab) r18_B1 (r18_S1 (.ibox [.d (iv o), .d (.str t), .d (iv p), .d (iv k), .d (iv c), .d (iv s), .d (.sl (ns.map .str)), .d (.sl (Xp.encs xs))]) (.ibox [.d (iv o'), .d (.str t'), .d (iv p'), .d (iv k'), .d (iv c'), .d (iv s'), .d (.sl (ns'.map .str)), .d (.sl (Xp.encs xs'))]) (.d (iv i)) []) =
      if sameVs (xs.drop i) (xs'.drop i) then some (.norm, r18_E1 []) else some (.ret, r18_R (.d (.bool false)) [])

theorem sm_subs_end (o p k c s o' p' k' c' s' : Int) (t t' : ByteArray) (ns ns' : List ByteArray) (xs xs' : List Xp) (i : Nat) (hi : xs.length ≤ i) : SmSubs o p k c s o' p' k' c' s' t t' ns ns' xs xs' i := by
  have h1 : ((i : Int) < (xs.length : Int)) = False := eq_false (by omega)
  unfold SmSubs
  rw [r18_B1_eq, List.drop_of_length_le hi]
  have e : sameVs [] (xs'.drop i) = true := by simp [sameVs]
  rw [e]
  simp (disch := omega) only [go_sem, and_self, and_true, true_and, false_and, and_false, Nat.reduceAdd, Nat.reduceMul, Nat.reduceSub, Nat.reduceLeDiff, Nat.reduceLT, Nat.reduceGT, Nat.reduceEqDiff, Nat.reduceBEq, Int.reduceNeg, Int.reduceEq, Int.reduceLT, Int.reduceLE, Int.reduceBEq, Int.reduceToNat, Int.toNat_natCast, Int.natCast_zero, r18_C1, h1, xencs_len]

theorem sm_subs_step (o p k c s o' p' k' c' s' : Int) (t t' : ByteArray) (ns ns' : List ByteArray) (xs xs' : List Xp) (hl : xs.length ≤ maxLen) (hn : xs.length = xs'.length) (i : Nat) (hi : i < xs.length) (hS : ∀ (hi' : i < xs'.length), SameIs xs[i] xs'[i]) (ih : SmSubs o p k c s o' p' k' c' s' t t' ns ns' xs xs' (i + 1)) : SmSubs o p k c s o' p' k' c' s' t t' ns ns' xs xs' i := by
  have hmx : maxLen = 9223372036854775807 := by decide
  have hi' : i < xs'.length := by omega
  have hS := hS hi'
  have h1 : ((i : Int) < (xs.length : Int)) = True := eq_true (by omega)
  have hi0 : (0 ≤ (i : Int)) = True := eq_true (by omega)
  have va : (Xp.encs xs)[i]? = some (xs[i].enc) := by rw [xencs_get]; simp [hi]
  have vb : (Xp.encs xs')[i]? = some (xs'[i].enc) := by rw [xencs_get]; simp [hi']
  unfold SmSubs at ih ⊢
  unfold SameIs at hS
  rw [r18_B1_eq, List.drop_eq_getElem_cons hi, List.drop_eq_getElem_cons hi']
  simp only [sameVs]
  rcases Bool.eq_false_or_eq_true (sameV xs[i] xs'[i]) with g | g
  · rw [Int.natCast_add, Int.natCast_one] at ih
    simp (disch := omega) only [go_sem, and_self, and_true, true_and, false_and, and_false, Nat.reduceAdd, Nat.reduceMul, Nat.reduceSub, Nat.reduceLeDiff, Nat.reduceLT, Nat.reduceGT, Nat.reduceEqDiff, Nat.reduceBEq, Int.reduceNeg, Int.reduceEq, Int.reduceLT, Int.reduceLE, Int.reduceBEq, Int.reduceToNat, Int.toNat_natCast, Int.natCast_zero, r18_C1, h1, xencs_len, hi0, va, vb, xenc_w, xenc_a, hS, g, w64, Bool.true_and]
    exact ih
  · simp (disch := omega) only [go_sem, and_self, and_true, true_and, false_and, and_false, Nat.reduceAdd, Nat.reduceMul, Nat.reduceSub, Nat.reduceLeDiff, Nat.reduceLT, Nat.reduceGT, Nat.reduceEqDiff, Nat.reduceBEq, Int.reduceNeg, Int.reduceEq, Int.reduceLT, Int.reduceLE, Int.reduceBEq, Int.reduceToNat, Int.toNat_natCast, Int.natCast_zero, r18_C1, h1, xencs_len, hi0, va, vb, xenc_w, xenc_a, hS, g, w64, Bool.false_and]

theorem sm_subs (o p k c s o' p' k' c' s' : Int) (t t' : ByteArray) (ns ns' : List ByteArray) (xs xs' : List Xp) (hl : xs.length ≤ maxLen) (hn : xs.length = xs'.length) (hS : ∀ x ∈ xs, ∀ y ∈ xs', SameIs x y) : ∀ (j i : Nat), i + j = xs.length → SmSubs o p k c s o' p' k' c' s' t t' ns ns' xs xs' i
  | 0, i, hi => sm_subs_end o p k c s o' p' k' c' s' t t' ns ns' xs xs' i (by omega)
  | j + 1, i, hi => sm_subs_step o p k c s o' p' k' c' s' t t' ns ns' xs xs' hl hn i (by omega) (fun hi' => hS _ (List.getElem_mem _) _ (List.getElem_mem _)) (sm_subs o p k c s o' p' k' c' s' t t' ns ns' xs xs' hl hn hS j (i + 1) (by omega))

theorem sm_no0 (o p k c s o' p' k' c' s' : Int) (t t' : ByteArray) (ns ns' : List ByteArray) (xs xs' : List Xp)  (ho : (o == o') = false) : SameIs (.mk o t p k c s ns xs) (.mk o' t' p' k' c' s' ns' xs') := by
  intro heap
  have no : (o != o') = true := by simp only [bne, ho, Bool.not_false]
  refine f18 rfl ?_
  simp (disch := omega) only [go_sem, and_self, and_true, true_and, false_and, and_false, Nat.reduceAdd, Nat.reduceMul, Nat.reduceSub, Nat.reduceLeDiff, Nat.reduceLT, Nat.reduceGT, Nat.reduceEqDiff, Nat.reduceBEq, Int.reduceNeg, Int.reduceEq, Int.reduceLT, Int.reduceLE, Int.reduceBEq, Int.reduceToNat, Int.toNat_natCast, Int.natCast_zero, r18_T, r18, Xp.enc, sameV, eqD_num, strD_neq, List.length_map, xencs_len, ho, Bool.false_and, Bool.true_and, no]

theorem sm_no1 (o p k c s o' p' k' c' s' : Int) (t t' : ByteArray) (ns ns' : List ByteArray) (xs xs' : List Xp)  (ho : (o == o') = true) (ht : (t.toList == t'.toList) = false) : SameIs (.mk o t p k c s ns xs) (.mk o' t' p' k' c' s' ns' xs') := by
  intro heap
  have no : (o != o') = false := by simp only [bne, ho, Bool.not_true]
  refine f18 rfl ?_
  simp (disch := omega) only [go_sem, and_self, and_true, true_and, false_and, and_false, Nat.reduceAdd, Nat.reduceMul, Nat.reduceSub, Nat.reduceLeDiff, Nat.reduceLT, Nat.reduceGT, Nat.reduceEqDiff, Nat.reduceBEq, Int.reduceNeg, Int.reduceEq, Int.reduceLT, Int.reduceLE, Int.reduceBEq, Int.reduceToNat, Int.toNat_natCast, Int.natCast_zero, r18_T, r18, Xp.enc, sameV, eqD_num, strD_neq, List.length_map, xencs_len, ho, no, ht, Bool.false_and, Bool.true_and]

theorem sm_no2 (o p k c s o' p' k' c' s' : Int) (t t' : ByteArray) (ns ns' : List ByteArray) (xs xs' : List Xp)  (ho : (o == o') = true) (ht : (t.toList == t'.toList) = true) (hp : (p == p') = false) : SameIs (.mk o t p k c s ns xs) (.mk o' t' p' k' c' s' ns' xs') := by
  intro heap
  have no : (o != o') = false := by simp only [bne, ho, Bool.not_true]
  have np : (p != p') = true := by simp only [bne, hp, Bool.not_false]
  refine f18 rfl ?_
  simp (disch := omega) only [go_sem, and_self, and_true, true_and, false_and, and_false, Nat.reduceAdd, Nat.reduceMul, Nat.reduceSub, Nat.reduceLeDiff, Nat.reduceLT, Nat.reduceGT, Nat.reduceEqDiff, Nat.reduceBEq, Int.reduceNeg, Int.reduceEq, Int.reduceLT, Int.reduceLE, Int.reduceBEq, Int.reduceToNat, Int.toNat_natCast, Int.natCast_zero, r18_T, r18, Xp.enc, sameV, eqD_num, strD_neq, List.length_map, xencs_len, ho, no, ht, hp, Bool.false_and, Bool.true_and, np]

theorem sm_no3 (o p k c s o' p' k' c' s' : Int) (t t' : ByteArray) (ns ns' : List ByteArray) (xs xs' : List Xp)  (ho : (o == o') = true) (ht : (t.toList == t'.toList) = true) (hp : (p == p') = true) (hk : (k == k') = false) : SameIs (.mk o t p k c s ns xs) (.mk o' t' p' k' c' s' ns' xs') := by
  intro heap
  have no : (o != o') = false := by simp only [bne, ho, Bool.not_true]
  have np : (p != p') = false := by simp only [bne, hp, Bool.not_true]
  have nk : (k != k') = true := by simp only [bne, hk, Bool.not_false]
  refine f18 rfl ?_
  simp (disch := omega) only [go_sem, and_self, and_true, true_and, false_and, and_false, Nat.reduceAdd, Nat.reduceMul, Nat.reduceSub, Nat.reduceLeDiff, Nat.reduceLT, Nat.reduceGT, Nat.reduceEqDiff, Nat.reduceBEq, Int.reduceNeg, Int.reduceEq, Int.reduceLT, Int.reduceLE, Int.reduceBEq, Int.reduceToNat, Int.toNat_natCast, Int.natCast_zero, r18_T, r18, Xp.enc, sameV, eqD_num, strD_neq, List.length_map, xencs_len, ho, no, ht, hp, np, hk, Bool.false_and, Bool.true_and, nk]

theorem sm_no4 (o p k c s o' p' k' c' s' : Int) (t t' : ByteArray) (ns ns' : List ByteArray) (xs xs' : List Xp)  (ho : (o == o') = true) (ht : (t.toList == t'.toList) = true) (hp : (p == p') = true) (hk : (k == k') = true) (hn : ((c == c' && s == s')) = false) : SameIs (.mk o t p k c s ns xs) (.mk o' t' p' k' c' s' ns' xs') := by
  intro heap
  have no : (o != o') = false := by simp only [bne, ho, Bool.not_true]
  have np : (p != p') = false := by simp only [bne, hp, Bool.not_true]
  have nk : (k != k') = false := by simp only [bne, hk, Bool.not_true]
  refine f18 rfl ?_
  simp (disch := omega) only [go_sem, and_self, and_true, true_and, false_and, and_false, Nat.reduceAdd, Nat.reduceMul, Nat.reduceSub, Nat.reduceLeDiff, Nat.reduceLT, Nat.reduceGT, Nat.reduceEqDiff, Nat.reduceBEq, Int.reduceNeg, Int.reduceEq, Int.reduceLT, Int.reduceLE, Int.reduceBEq, Int.reduceToNat, Int.toNat_natCast, Int.natCast_zero, r18_T, r18, Xp.enc, sameV, eqD_num, strD_neq, List.length_map, xencs_len, ho, no, ht, hp, np, hk, nk, hn, Bool.false_and, Bool.true_and]

theorem sm_no5 (o p k c s o' p' k' c' s' : Int) (t t' : ByteArray) (ns ns' : List ByteArray) (xs xs' : List Xp)  (ho : (o == o') = true) (ht : (t.toList == t'.toList) = true) (hp : (p == p') = true) (hk : (k == k') = true) (hn : ((c == c' && s == s')) = true) (ha : (ns.length == ns'.length) = false) : SameIs (.mk o t p k c s ns xs) (.mk o' t' p' k' c' s' ns' xs') := by
  intro heap
  have no : (o != o') = false := by simp only [bne, ho, Bool.not_true]
  have np : (p != p') = false := by simp only [bne, hp, Bool.not_true]
  have nk : (k != k') = false := by simp only [bne, hk, Bool.not_true]
  have na : ((ns.length : Int) != (ns'.length : Int)) = true := by simp only [bne_iff_ne, ne_eq, beq_eq_false_iff_ne] at ha ⊢; omega
  refine f18 rfl ?_
  simp (disch := omega) only [go_sem, and_self, and_true, true_and, false_and, and_false, Nat.reduceAdd, Nat.reduceMul, Nat.reduceSub, Nat.reduceLeDiff, Nat.reduceLT, Nat.reduceGT, Nat.reduceEqDiff, Nat.reduceBEq, Int.reduceNeg, Int.reduceEq, Int.reduceLT, Int.reduceLE, Int.reduceBEq, Int.reduceToNat, Int.toNat_natCast, Int.natCast_zero, r18_T, r18, Xp.enc, sameV, eqD_num, strD_neq, List.length_map, xencs_len, ho, no, ht, hp, np, hk, nk, hn, ha, Bool.false_and, Bool.true_and, na]

theorem sm_no6 (o p k c s o' p' k' c' s' : Int) (t t' : ByteArray) (ns ns' : List ByteArray) (xs xs' : List Xp)  (ho : (o == o') = true) (ht : (t.toList == t'.toList) = true) (hp : (p == p') = true) (hk : (k == k') = true) (hn : ((c == c' && s == s')) = true) (ha : (ns.length == ns'.length) = true) (hb : (xs.length == xs'.length) = false) : SameIs (.mk o t p k c s ns xs) (.mk o' t' p' k' c' s' ns' xs') := by
  intro heap
  have no : (o != o') = false := by simp only [bne, ho, Bool.not_true]
  have np : (p != p') = false := by simp only [bne, hp, Bool.not_true]
  have nk : (k != k') = false := by simp only [bne, hk, Bool.not_true]
  have na : ((ns.length : Int) != (ns'.length : Int)) = false := by simp only [beq_iff_eq] at ha; simp only [bne_eq_false_iff_eq]; omega
  have nb : ((xs.length : Int) != (xs'.length : Int)) = true := by simp only [bne_iff_ne, ne_eq, beq_eq_false_iff_ne] at hb ⊢; omega
  refine f18 rfl ?_
  simp (disch := omega) only [go_sem, and_self, and_true, true_and, false_and, and_false, Nat.reduceAdd, Nat.reduceMul, Nat.reduceSub, Nat.reduceLeDiff, Nat.reduceLT, Nat.reduceGT, Nat.reduceEqDiff, Nat.reduceBEq, Int.reduceNeg, Int.reduceEq, Int.reduceLT, Int.reduceLE, Int.reduceBEq, Int.reduceToNat, Int.toNat_natCast, Int.natCast_zero, r18_T, r18, Xp.enc, sameV, eqD_num, strD_neq, List.length_map, xencs_len, ho, no, ht, hp, np, hk, nk, hn, ha, na, hb, Bool.false_and, Bool.true_and, nb]

theorem sm_yes (o p k c s o' p' k' c' s' : Int) (t t' : ByteArray) (ns ns' : List ByteArray) (xs xs' : List Xp) (ho : (o == o') = true) (ht : (t.toList == t'.toList) = true) (hp : (p == p') = true) (hk : (k == k') = true) (hn : ((c == c' && s == s')) = true) (ha : (ns.length == ns'.length) = true) (hb : (xs.length == xs'.length) = true) (hl : ns.length ≤ maxLen) (hm : xs.length ≤ maxLen) (hS : ∀ x ∈ xs, ∀ y ∈ xs', SameIs x y) : SameIs (.mk o t p k c s ns xs) (.mk o' t' p' k' c' s' ns' xs') := by
  intro heap
  have no : (o != o') = false := by simp only [bne, ho, Bool.not_true]
  have np : (p != p') = false := by simp only [bne, hp, Bool.not_true]
  have nk : (k != k') = false := by simp only [bne, hk, Bool.not_true]
  have na : ((ns.length : Int) != (ns'.length : Int)) = false := by simp only [beq_iff_eq] at ha; simp only [bne_eq_false_iff_eq]; omega
  have nb : ((xs.length : Int) != (xs'.length : Int)) = false := by simp only [beq_iff_eq] at hb; simp only [bne_eq_false_iff_eq]; omega
  have hL0 := sm_names o p k c s o' p' k' c' s' t t' ns ns' xs xs' hl (by simpa using ha) ns.length 0 (by omega)
  have hL1 := sm_subs o p k c s o' p' k' c' s' t t' ns ns' xs xs' hm (by simpa using hb) hS xs.length 0 (by omega)
  unfold SmNames at hL0
  unfold SmSubs at hL1
  rw [List.drop_zero, List.drop_zero] at hL0 hL1
  refine f18 rfl ?_
  simp (disch := omega) only [go_sem, and_self, and_true, true_and, false_and, and_false, Nat.reduceAdd, Nat.reduceMul, Nat.reduceSub, Nat.reduceLeDiff, Nat.reduceLT, Nat.reduceGT, Nat.reduceEqDiff, Nat.reduceBEq, Int.reduceNeg, Int.reduceEq, Int.reduceLT, Int.reduceLE, Int.reduceBEq, Int.reduceToNat, Int.toNat_natCast, Int.natCast_zero, r18_T, r18, Xp.enc, sameV, eqD_num, strD_neq, List.length_map, xencs_len, ho, no, ht, hp, np, hk, nk, hn, ha, na, hb, nb, Bool.true_and]
  rw [r18_B0_n]
  erw [hL0]
  rcases Bool.eq_false_or_eq_true (namesE ns ns') with g | g
  · rw [g]
    simp only [if_true, go_sem, and_self, and_true, true_and, false_and, and_false, Nat.reduceAdd, Nat.reduceMul, Nat.reduceSub, Nat.reduceLeDiff, Nat.reduceLT, Nat.reduceGT, Nat.reduceEqDiff, Nat.reduceBEq, Int.reduceNeg, Int.reduceEq, Int.reduceLT, Int.reduceLE, Int.reduceBEq, Int.reduceToNat, Int.toNat_natCast, Int.natCast_zero, Bool.true_and]
    rw [r18_B1_n]
    erw [hL1]
    rcases Bool.eq_false_or_eq_true (sameVs xs xs') with g2 | g2 <;> rw [g2] <;> simp only [go_sem, and_self, and_true, true_and, false_and, and_false, Nat.reduceAdd, Nat.reduceMul, Nat.reduceSub, Nat.reduceLeDiff, Nat.reduceLT, Nat.reduceGT, Nat.reduceEqDiff, Nat.reduceBEq, Int.reduceNeg, Int.reduceEq, Int.reduceLT, Int.reduceLE, Int.reduceBEq, Int.reduceToNat, Int.toNat_natCast, Int.natCast_zero]
  · rw [g]
    simp only [go_sem, and_self, and_true, true_and, false_and, and_false, Nat.reduceAdd, Nat.reduceMul, Nat.reduceSub, Nat.reduceLeDiff, Nat.reduceLT, Nat.reduceGT, Nat.reduceEqDiff, Nat.reduceBEq, Int.reduceNeg, Int.reduceEq, Int.reduceLT, Int.reduceLE, Int.reduceBEq, Int.reduceToNat, Int.toNat_natCast, Int.natCast_zero, Bool.false_and]

theorem same_ok : ∀ (x y : Xp), x.ok → y.ok → SameIs x y
  | .mk o t p k c s ns xs, .mk o' t' p' k' c' s' ns' xs', hx, hy => by
    simp only [Xp.ok] at hx hy
    have hS : ∀ x ∈ xs, ∀ y ∈ xs', SameIs x y := fun x hx' y hy' => same_ok x y (xoks_mem hx.2.2.2.2.2.2.2.2.2 hx') (xoks_mem hy.2.2.2.2.2.2.2.2.2 hy')
    rcases Bool.eq_false_or_eq_true (o == o') with ho | ho
    rotate_left
    · exact sm_no0 o p k c s o' p' k' c' s' t t' ns ns' xs xs' ho
    rcases Bool.eq_false_or_eq_true (t.toList == t'.toList) with ht | ht
    rotate_left
    · exact sm_no1 o p k c s o' p' k' c' s' t t' ns ns' xs xs' ho ht
    rcases Bool.eq_false_or_eq_true (p == p') with hp | hp
    rotate_left
    · exact sm_no2 o p k c s o' p' k' c' s' t t' ns ns' xs xs' ho ht hp
    rcases Bool.eq_false_or_eq_true (k == k') with hk | hk
    rotate_left
    · exact sm_no3 o p k c s o' p' k' c' s' t t' ns ns' xs xs' ho ht hp hk
    rcases Bool.eq_false_or_eq_true ((c == c' && s == s')) with hn | hn
    rotate_left
    · exact sm_no4 o p k c s o' p' k' c' s' t t' ns ns' xs xs' ho ht hp hk hn
    rcases Bool.eq_false_or_eq_true (ns.length == ns'.length) with ha | ha
    rotate_left
    · exact sm_no5 o p k c s o' p' k' c' s' t t' ns ns' xs xs' ho ht hp hk hn ha
    rcases Bool.eq_false_or_eq_true (xs.length == xs'.length) with hb | hb
    rotate_left
    · exact sm_no6 o p k c s o' p' k' c' s' t t' ns ns' xs xs' ho ht hp hk hn ha hb
    exact sm_yes o p k c s o' p' k' c' s' t t' ns ns' xs xs' ho ht hp hk hn ha hb hx.2.2.2.2.2.2.1 hx.2.2.2.2.2.2.2.2.1 hS
end Go.Pe.T

namespace Go.Pe.T

/-! ### is a text among some -/
def hasB (l : List ByteArray) (s : ByteArray) : Bool := l.any fun x => x.toList == s.toList

theorem hasB_drop {l : List ByteArray} {s : ByteArray} {i : Nat} (hi : i < l.length) : hasB (l.drop i) s = ((l[i].toList == s.toList) || hasB (l.drop (i + 1)) s) := by
  rw [List.drop_eq_getElem_cons hi]; rfl

def HasLoop (l : List ByteArray) (s : ByteArray) (i : Nat) : Prop :=
  V (F tab) r69_B0 (r69_S0 (.d (.sl (l.map .str))) (.d (.str s)) (.d (iv i)) []) = if hasB (l.drop i) s then some (.ret, r69_R (.d (.bool true)) []) else some (.norm, r69_E0 [])

theorem has_end (l : List ByteArray) (s : ByteArray) (i : Nat) (hi : l.length ≤ i) : HasLoop l s i := by
  have h1 : ((i : Int) < (l.length : Int)) = False := eq_false (by omega)
  unfold HasLoop
  rw [r69_B0_eq, List.drop_of_length_le hi]
  simp (disch := omega) only [go_sem, and_self, and_true, true_and, false_and, and_false, Nat.reduceAdd, Nat.reduceMul, Nat.reduceSub, Nat.reduceLeDiff, Nat.reduceLT, Nat.reduceGT, Nat.reduceEqDiff, Nat.reduceBEq, Int.reduceNeg, Int.reduceEq, Int.reduceLT, Int.reduceLE, Int.reduceBEq, Int.reduceToNat, Int.toNat_natCast, Int.natCast_zero, r69_C0, h1, List.length_map, hasB, List.any_nil]
theorem has_step (l : List ByteArray) (s : ByteArray) (i : Nat) (hi : i < l.length) (hl : l.length ≤ maxLen) (ih : HasLoop l s (i + 1)) : HasLoop l s i := by
  have hmx : maxLen = 9223372036854775807 := by decide
  have h1 : ((i : Int) < (l.length : Int)) = True := eq_true (by omega)
  have hi0 : (0 ≤ (i : Int)) = True := eq_true (by omega)
  have va : (l.map D.str)[i]? = some (.str l[i]) := by simp [hi]
  unfold HasLoop at ih ⊢
  rw [Int.natCast_add, Int.natCast_one] at ih
  rw [r69_B0_eq, hasB_drop hi]
  rcases Bool.eq_false_or_eq_true (l[i].toList == s.toList) with g | g
  · simp (disch := omega) only [go_sem, and_self, and_true, true_and, false_and, and_false, Nat.reduceAdd, Nat.reduceMul, Nat.reduceSub, Nat.reduceLeDiff, Nat.reduceLT, Nat.reduceGT, Nat.reduceEqDiff, Nat.reduceBEq, Int.reduceNeg, Int.reduceEq, Int.reduceLT, Int.reduceLE, Int.reduceBEq, Int.reduceToNat, Int.toNat_natCast, Int.natCast_zero, r69_C0, h1, hi0, va, g, strD_eql, List.length_map, w64, Bool.true_or]
  · simp (disch := omega) only [go_sem, and_self, and_true, true_and, false_and, and_false, Nat.reduceAdd, Nat.reduceMul, Nat.reduceSub, Nat.reduceLeDiff, Nat.reduceLT, Nat.reduceGT, Nat.reduceEqDiff, Nat.reduceBEq, Int.reduceNeg, Int.reduceEq, Int.reduceLT, Int.reduceLE, Int.reduceBEq, Int.reduceToNat, Int.toNat_natCast, Int.natCast_zero, r69_C0, h1, hi0, va, g, strD_eql, List.length_map, w64, Bool.false_or]
    exact ih
theorem has_loop (l : List ByteArray) (s : ByteArray) (hl : l.length ≤ maxLen) : ∀ (j i : Nat), i + j = l.length → HasLoop l s i
  | 0, i, hi => has_end l s i (by omega)
  | j + 1, i, hi => has_step l s i (by omega) hl (has_loop l s hl j (i + 1) (by omega))

theorem has_ok (l : List ByteArray) (s : ByteArray) (hl : l.length ≤ maxLen) (hp : List Ent) : F tab 69 [.d (.sl (l.map .str)), .d (.str s)] hp = some (.ret (.d (.bool (hasB l s))) hp) := by
  have hL := has_loop l s hl l.length 0 (by omega)
  unfold HasLoop at hL
  rw [List.drop_zero] at hL
  refine f69 rfl ?_
  simp (disch := omega) only [go_sem, and_self, and_true, true_and, false_and, and_false, Nat.reduceAdd, Nat.reduceMul, Nat.reduceSub, Nat.reduceLeDiff, Nat.reduceLT, Nat.reduceGT, Nat.reduceEqDiff, Nat.reduceBEq, Int.reduceNeg, Int.reduceEq, Int.reduceLT, Int.reduceLE, Int.reduceBEq, Int.reduceToNat, Int.toNat_natCast, Int.natCast_zero, r69_T, r69]
  rw [r69_B0_n]
  erw [hL]
  rcases Bool.eq_false_or_eq_true (hasB l s) with g | g <;> rw [g] <;> simp only [go_sem, and_self, and_true, true_and, false_and, and_false, Nat.reduceAdd, Nat.reduceMul, Nat.reduceSub, Nat.reduceLeDiff, Nat.reduceLT, Nat.reduceGT, Nat.reduceEqDiff, Nat.reduceBEq, Int.reduceNeg, Int.reduceEq, Int.reduceLT, Int.reduceLE, Int.reduceBEq, Int.reduceToNat, Int.toNat_natCast, Int.natCast_zero]

def IdxLoop (l : List ByteArray) (s : ByteArray) (i : Nat) : Prop :=
  ∃ k : Nat, V (F tab) r120_B0 (r120_S0 (.d (.sl (l.map .str))) (.d (.str s)) (.d (iv l.length)) (.d (iv i)) []) = if hasB (l.drop i) s then some (.ret, r120_R (.d (iv k)) []) else some (.norm, r120_E0 [])

theorem idx_end (l : List ByteArray) (s : ByteArray) (i : Nat) (hi : l.length ≤ i) : IdxLoop l s i := by
  have h1 : ((i : Int) < (l.length : Int)) = False := eq_false (by omega)
  refine ⟨0, ?_⟩
  rw [r120_B0_eq, List.drop_of_length_le hi]
  simp (disch := omega) only [go_sem, and_self, and_true, true_and, false_and, and_false, Nat.reduceAdd, Nat.reduceMul, Nat.reduceSub, Nat.reduceLeDiff, Nat.reduceLT, Nat.reduceGT, Nat.reduceEqDiff, Nat.reduceBEq, Int.reduceNeg, Int.reduceEq, Int.reduceLT, Int.reduceLE, Int.reduceBEq, Int.reduceToNat, Int.toNat_natCast, Int.natCast_zero, r120_C0, h1, List.length_map, hasB, List.any_nil]
theorem idx_step (l : List ByteArray) (s : ByteArray) (i : Nat) (hi : i < l.length) (hl : l.length ≤ maxLen) (ih : IdxLoop l s (i + 1)) : IdxLoop l s i := by
  have hmx : maxLen = 9223372036854775807 := by decide
  have h1 : ((i : Int) < (l.length : Int)) = True := eq_true (by omega)
  have hi0 : (0 ≤ (i : Int)) = True := eq_true (by omega)
  have va : (l.map D.str)[i]? = some (.str l[i]) := by simp [hi]
  obtain ⟨k, ih⟩ := ih
  rw [Int.natCast_add, Int.natCast_one] at ih
  rcases Bool.eq_false_or_eq_true (l[i].toList == s.toList) with g | g
  · refine ⟨i, ?_⟩
    have g' : (s.toList == l[i].toList) = true := by rw [BEq.comm]; exact g
    rw [r120_B0_eq, hasB_drop hi]
    simp (disch := omega) only [go_sem, and_self, and_true, true_and, false_and, and_false, Nat.reduceAdd, Nat.reduceMul, Nat.reduceSub, Nat.reduceLeDiff, Nat.reduceLT, Nat.reduceGT, Nat.reduceEqDiff, Nat.reduceBEq, Int.reduceNeg, Int.reduceEq, Int.reduceLT, Int.reduceLE, Int.reduceBEq, Int.reduceToNat, Int.toNat_natCast, Int.natCast_zero, r120_C0, h1, hi0, va, g, g', strD_eql, List.length_map, w64, Bool.true_or]
  · refine ⟨k, ?_⟩
    have g' : (s.toList == l[i].toList) = false := by rw [BEq.comm]; exact g
    rw [r120_B0_eq, hasB_drop hi]
    simp (disch := omega) only [go_sem, and_self, and_true, true_and, false_and, and_false, Nat.reduceAdd, Nat.reduceMul, Nat.reduceSub, Nat.reduceLeDiff, Nat.reduceLT, Nat.reduceGT, Nat.reduceEqDiff, Nat.reduceBEq, Int.reduceNeg, Int.reduceEq, Int.reduceLT, Int.reduceLE, Int.reduceBEq, Int.reduceToNat, Int.toNat_natCast, Int.natCast_zero, r120_C0, h1, hi0, va, g, g', strD_eql, List.length_map, w64, Bool.false_or]
    exact ih
theorem idx_loop (l : List ByteArray) (s : ByteArray) (hl : l.length ≤ maxLen) : ∀ (j i : Nat), i + j = l.length → IdxLoop l s i
  | 0, i, hi => idx_end l s i (by omega)
  | j + 1, i, hi => idx_step l s i (by omega) hl (idx_loop l s hl j (i + 1) (by omega))

theorem idx_ok (l : List ByteArray) (s : ByteArray) (hl : l.length ≤ maxLen) : ∃ k : Int, (decide (k ≥ 0) = hasB l s) ∧ ∀ hp, F tab 120 [.d (.sl (l.map .str)), .d (.str s)] hp = some (.ret (.d (iv k)) hp) := by
  obtain ⟨k, hL⟩ := idx_loop l s hl l.length 0 (by omega)
  rw [List.drop_zero] at hL
  rcases Bool.eq_false_or_eq_true (hasB l s) with g | g
  · refine ⟨k, by rw [g]; simp, fun hp => f120 rfl ?_⟩
    simp (disch := omega) only [go_sem, and_self, and_true, true_and, false_and, and_false, Nat.reduceAdd, Nat.reduceMul, Nat.reduceSub, Nat.reduceLeDiff, Nat.reduceLT, Nat.reduceGT, Nat.reduceEqDiff, Nat.reduceBEq, Int.reduceNeg, Int.reduceEq, Int.reduceLT, Int.reduceLE, Int.reduceBEq, Int.reduceToNat, Int.toNat_natCast, Int.natCast_zero, r120_T, r120, List.length_map]
    rw [r120_B0_n]
    erw [hL]
    rw [g]
    simp only [go_sem, and_self, and_true, true_and, false_and, and_false, Nat.reduceAdd, Nat.reduceMul, Nat.reduceSub, Nat.reduceLeDiff, Nat.reduceLT, Nat.reduceGT, Nat.reduceEqDiff, Nat.reduceBEq, Int.reduceNeg, Int.reduceEq, Int.reduceLT, Int.reduceLE, Int.reduceBEq, Int.reduceToNat, Int.toNat_natCast, Int.natCast_zero]
  · refine ⟨-1, by rw [g]; simp, fun hp => f120 rfl ?_⟩
    simp (disch := omega) only [go_sem, and_self, and_true, true_and, false_and, and_false, Nat.reduceAdd, Nat.reduceMul, Nat.reduceSub, Nat.reduceLeDiff, Nat.reduceLT, Nat.reduceGT, Nat.reduceEqDiff, Nat.reduceBEq, Int.reduceNeg, Int.reduceEq, Int.reduceLT, Int.reduceLE, Int.reduceBEq, Int.reduceToNat, Int.toNat_natCast, Int.natCast_zero, r120_T, r120, List.length_map]
    rw [r120_B0_n]
    erw [hL]
    rw [g]
    simp only [go_sem, and_self, and_true, true_and, false_and, and_false, Nat.reduceAdd, Nat.reduceMul, Nat.reduceSub, Nat.reduceLeDiff, Nat.reduceLT, Nat.reduceGT, Nat.reduceEqDiff, Nat.reduceBEq, Int.reduceNeg, Int.reduceEq, Int.reduceLT, Int.reduceLE, Int.reduceBEq, Int.reduceToNat, Int.toNat_natCast, Int.natCast_zero]

theorem con_ok (l : List ByteArray) (s : ByteArray) (hl : l.length ≤ maxLen) (hp : List Ent) : F tab 108 [.d (.sl (l.map .str)), .d (.str s)] hp = some (.ret (.d (.bool (hasB l s))) hp) := by
  obtain ⟨k, h1, h2⟩ := idx_ok l s hl
  refine f108 rfl ?_
  simp only [go_sem, and_self, and_true, true_and, false_and, and_false, Nat.reduceAdd, Nat.reduceMul, Nat.reduceSub, Nat.reduceLeDiff, Nat.reduceLT, Nat.reduceGT, Nat.reduceEqDiff, Nat.reduceBEq, Int.reduceNeg, Int.reduceEq, Int.reduceLT, Int.reduceLE, Int.reduceBEq, Int.reduceToNat, Int.toNat_natCast, Int.natCast_zero, r108_T, r108, h2, h1]

theorem con_nil (s : ByteArray) (hp : List Ent) : F tab 108 [.nilsl, .d (.str s)] hp = some (.ret (.d (.bool false)) hp) := by
  have h : ∀ hp, F tab 120 [.nilsl, .d (.str s)] hp = some (.ret (.d (iv (-1))) hp) := by
    intro hp
    refine f120 rfl ?_
    simp (disch := omega) only [go_sem, and_self, and_true, true_and, false_and, and_false, Nat.reduceAdd, Nat.reduceMul, Nat.reduceSub, Nat.reduceLeDiff, Nat.reduceLT, Nat.reduceGT, Nat.reduceEqDiff, Nat.reduceBEq, Int.reduceNeg, Int.reduceEq, Int.reduceLT, Int.reduceLE, Int.reduceBEq, Int.reduceToNat, Int.toNat_natCast, Int.natCast_zero, r120_T, r120, List.length_nil]
    rw [r120_B0_n, r120_B0_eq]
    simp (disch := omega) only [go_sem, and_self, and_true, true_and, false_and, and_false, Nat.reduceAdd, Nat.reduceMul, Nat.reduceSub, Nat.reduceLeDiff, Nat.reduceLT, Nat.reduceGT, Nat.reduceEqDiff, Nat.reduceBEq, Int.reduceNeg, Int.reduceEq, Int.reduceLT, Int.reduceLE, Int.reduceBEq, Int.reduceToNat, Int.toNat_natCast, Int.natCast_zero, r120_C0, List.length_nil]
  refine f108 rfl ?_
  simp only [go_sem, and_self, and_true, true_and, false_and, and_false, Nat.reduceAdd, Nat.reduceMul, Nat.reduceSub, Nat.reduceLeDiff, Nat.reduceLT, Nat.reduceGT, Nat.reduceEqDiff, Nat.reduceBEq, Int.reduceNeg, Int.reduceEq, Int.reduceLT, Int.reduceLE, Int.reduceBEq, Int.reduceToNat, Int.toNat_natCast, Int.natCast_zero, r108_T, r108, h]
  rfl

/-! ### binds -/
end Go.Pe.T
