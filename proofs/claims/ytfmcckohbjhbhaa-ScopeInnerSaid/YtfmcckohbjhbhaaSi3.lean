/- A part of the proof of: Of values bound one within the other, a name leads to the innermost one that has it, or nowhere. -/
import Derived.Test.YtfmcckohbjhbhaaSi2
import Derived.Test.YtfmcckohbjhbhaaPe3
set_option linter.unusedSimpArgs false
set_option linter.unusedVariables false
set_option maxRecDepth 10000

namespace Go.Pe.T
/-! ### an expression, resolved -/
def atV (fs : List Fn) (vs ls : List ByteArray) (o : Int) (t : ByteArray) (p : Int) (n : Nat) : Option Int :=
  if o = 2 then (lastV vs t).map fun i => (i : Int) else
  if o = 16 then callV fs t n else
  if o = 19 then (lastV ls t).map fun i => (i : Int) else
  if o = 18 then some ls.length else some p
inductive Res (α : Type) where
  | ok (a : α)
  | lost (t : ByteArray)
mutual
def resX (fs : List Fn) (vs ls : List ByteArray) : Xp → Res Xp
  | .mk o t p k c s ns xs => match atV fs vs ls o t p xs.length with
    | none => .lost t
    | some p' => match resL fs vs ls o t 0 xs with
      | .lost e => .lost e
      | .ok ys => .ok (.mk o t p' k c s ns ys)
def resL (fs : List Fn) (vs ls : List ByteArray) (o : Int) (t : ByteArray) : Nat → List Xp → Res (List Xp)
  | _, [] => .ok []
  | i, x :: r => match resX fs (inVars o t i vs) (inLabs o t ls) x with
    | .lost e => .lost e
    | .ok y => match resL fs vs ls o t (i + 1) r with
      | .lost e => .lost e
      | .ok ys => .ok (y :: ys)
end
def zx : D := .agg [.int .i64 0, .str ⟨#[]⟩, .int .i64 0, .int .i64 0, .int .i64 0, .int .i64 0, .sl [], .sl []]
theorem flat_zero : ∀ (n : Nat), (zeroDs [.int .i64 0, .str ⟨#[]⟩, .int .i64 0, .int .i64 0, .int .i64 0, .int .i64 0, .sl [], .sl []] n).map PV.d = flatD (List.replicate n zx) := by
  intro n
  unfold flatD
  congr 1
  unfold zeroDs
  induction n with
  | zero => rfl
  | succ n ih =>
    rw [List.replicate_succ', List.flatMap_append, ← ih]
    have e : (n + 1) * 8 = n * 8 + 8 := by omega
    simp only [List.length_cons, List.length_nil, Nat.zero_add, Nat.reduceAdd, e, List.range_add, List.map_append, List.map_map]
    congr 1
    have hr : List.range 8 = [0, 1, 2, 3, 4, 5, 6, 7] := by decide
    simp [hr, zx, D.cells, Nat.add_mod]
def ExOut (hp : List Ent) : Res Xp → Option Out
  | .ok y => some (.ret (.d y.enc) hp)
  | .lost t => some (.pan (lostD t) hp)
/-- what is asked of an expression -/
def ExIs (fs : List Fn) (x : Xp) : Prop := ∀ (vs ls : List ByteArray), vs.length + x.pre.length ≤ 1000000 → ls.length + x.pre.length ≤ 1000000 → ∀ hp : List Ent,
  F tab 38 [.d (arD (fnDs fs) vs ls), .d x.enc] hp = ExOut hp (resX fs vs ls x)
abbrev x4D : PV := .ibox [.d (.int .i64 0), .d (.str ⟨#[]⟩), .d (.int .i64 0), .d (.int .i64 0), .d (.int .i64 0), .d (.int .i64 0), .nilsl, .nilsl]
abbrev x3D (o : Int) (t : ByteArray) (p k c s : Int) (ns : List ByteArray) (xs : List Xp) : PV := .ibox [.d (iv o), .d (.str t), .d (iv p), .d (iv k), .d (iv c), .d (iv s), .d (.sl (ns.map .str)), .d (.sl (Xp.encs xs))]
def IsPan (v : Option (Ex × St)) (d : D) : Prop := ∃ s, v = some (.pan d, s)
def ExAns (x3 : PV) (n : Nat) (done : List Xp) (r : Res (List Xp)) (v : Option (Ex × St)) : Prop := match r with
  | .ok ys => v = some (.norm, r38_E0 x3 x4D (.rowh 0 0 n) [.box (flatD (Xp.encs (done ++ ys)))])
  | .lost t => IsPan v (lostD t)
def ExLoop (fs : List Fn) (vs ls : List ByteArray) (o : Int) (t : ByteArray) (p k c s : Int) (ns : List ByteArray) (xs : List Xp) (done rest : List Xp) : Prop :=
  ExAns (x3D o t p k c s ns xs) xs.length done (resL fs vs ls o t done.length rest)
    (V (F tab) r38_B0 (r38_S0 (.eptr (arD (fnDs fs) vs ls) 0) (x3D o t p k c s ns xs) x4D (.rowh 0 0 xs.length) (.d (.sl (Xp.encs xs))) (.d (iv xs.length)) (.d (iv done.length)) [.box (flatD (Xp.encs done ++ List.replicate rest.length zx))]))
theorem ex_nil (fs : List Fn) (vs ls : List ByteArray) (o : Int) (t : ByteArray) (p k c s : Int) (ns : List ByteArray) (xs : List Xp) (done : List Xp) (hn : done.length = xs.length) : ExLoop fs vs ls o t p k c s ns xs done [] := by
  have h1 : ((done.length : Int) < (xs.length : Int)) = False := eq_false (by omega)
  unfold ExLoop
  rw [resL, r38_B0_eq]
  simp (disch := omega) only [go_sem, and_self, and_true, true_and, false_and, and_false, Nat.reduceAdd, Nat.reduceMul, Nat.reduceSub, Nat.reduceLeDiff, Nat.reduceLT, Nat.reduceGT, Nat.reduceEqDiff, Nat.reduceBEq, Int.reduceNeg, Int.reduceEq, Int.reduceLT, Int.reduceLE, Int.reduceBEq, Int.reduceToNat, Int.toNat_natCast, Int.natCast_zero, r38_C0, h1, ExAns, List.append_nil, List.length_nil, List.replicate_zero]
theorem row_agg (done : List Xp) (m : Nat) : AggRow 8 (Xp.encs done ++ List.replicate m zx) := by
  have key : ∀ y ∈ Xp.encs done ++ List.replicate m zx, (∃ v : Xp, y = v.enc) ∨ y = zx := by
    intro y hy
    rcases List.mem_append.1 hy with h | h
    · rw [xencs_eq, List.mem_map] at h
      obtain ⟨v, _, rfl⟩ := h
      exact .inl ⟨v, rfl⟩
    · exact .inr (List.eq_of_mem_replicate h)
  refine ⟨fun y hy => ?_, fun y hy => ?_, fun y hy c hc => ?_⟩
  · rcases key y hy with ⟨v, rfl⟩ | rfl
    · exact xenc_a v
    · rfl
  · rcases key y hy with ⟨v, rfl⟩ | rfl
    · exact xenc_w v
    · rfl
  · rcases key y hy with ⟨v, rfl⟩ | rfl
    · obtain ⟨o, t, p, k, c', s, ns, xs, ex⟩ := xenc_as v
      rw [ex] at hc
      simp [D.cells] at hc
      rcases hc with rfl | rfl | rfl | rfl | rfl | rfl | rfl | rfl <;> rfl
    · simp [zx, D.cells] at hc
      rcases hc with rfl | rfl | rfl | rfl <;> rfl
theorem row_set (done : List Xp) (m : Nat) (y : Xp) : storeIn (some 8) (flatD (Xp.encs done ++ List.replicate (m + 1) zx)) (done.length * 8) (.d y.enc) = some (flatD (Xp.encs (done ++ [y]) ++ List.replicate m zx)) := by
  have hl : (Xp.encs done).length = done.length := xencs_len done
  rw [storeIn_row (row_agg done (m + 1)) (i := done.length) (by simp [hl]) (xenc_a y) (xenc_w y)]
  congr 2
  rw [List.set_append, if_neg (by omega), hl, Nat.sub_self, List.replicate_succ, List.set_cons_zero, xencs_app]
  simp [Xp.encs]
theorem xenc_cl (y : Xp) : y.enc = .agg y.enc.cells ∧ y.enc.cells.length = 8 := by cases y; exact ⟨rfl, rfl⟩
theorem row_sc (done : List Xp) (m : Nat) (y : Xp) : setCells (flatD (Xp.encs done ++ List.replicate (m + 1) zx)) (0 + done.length * 8) y.enc.cells = flatD (Xp.encs (done ++ [y]) ++ List.replicate m zx) ∧ 0 + done.length * 8 + 8 ≤ (flatD (Xp.encs done ++ List.replicate (m + 1) zx)).length := by
  have h := row_set done m y
  rw [(xenc_cl y).1] at h
  simp only [storeIn] at h
  split at h
  · rename_i hc
    simp only [Bool.and_eq_true, decide_eq_true_eq] at hc
    rw [Nat.zero_add]
    exact ⟨by simpa using h, hc.2⟩
  · simp at h
set_option maxHeartbeats 2000000 in
theorem ex_step (fs : List Fn) (vs ls : List ByteArray) (o : Int) (t : ByteArray) (p k c s : Int) (ns : List ByteArray) (xs : List Xp) (done : List Xp) (x : Xp) (rest : List Xp)
    (hx : xs[done.length]? = some x) (hn : done.length + (rest.length + 1) = xs.length) (hxl : xs.length ≤ 1000000) (hv : vs.length ≤ 1000000) (hl : ls.length ≤ 1000000)
    (IH : ∀ hp, F tab 38 [.d (arD (fnDs fs) (inVars o t done.length vs) (inLabs o t ls)), .d x.enc] hp = ExOut hp (resX fs (inVars o t done.length vs) (inLabs o t ls) x))
    (ih : ∀ y, ExLoop fs vs ls o t p k c s ns xs (done ++ [y]) rest) : ExLoop fs vs ls o t p k c s ns xs done (x :: rest) := by
  have h1 : ((done.length : Int) < (xs.length : Int)) = True := eq_true (by omega)
  have i0 : (0 ≤ (done.length : Int)) = True := eq_true (by omega)
  have va : (Xp.encs xs)[done.length]? = some x.enc := by rw [xencs_get, hx]; rfl
  have hin := in_ok (fnDs fs) vs ls o t (iv p) (iv k) (iv c) (iv s) (.sl (ns.map .str)) (.sl (Xp.encs xs)) rfl done.length hv hl
  have hin := fun hp => hin hp rfl rfl rfl rfl rfl
  obtain ⟨o', t', p', k', c', s', ns', xs', ex⟩ := xenc_as x
  rw [ex] at va IH
  unfold ExLoop
  rw [resL, r38_B0_eq]
  cases hr : resX fs (inVars o t done.length vs) (inLabs o t ls) x with
  | lost e =>
    rw [hr] at IH
    simp only [ExOut] at IH
    simp only [ExAns]
    unfold arD at hin IH ⊢
    simp (disch := omega) only [go_sem, and_self, and_true, true_and, false_and, and_false, Nat.reduceAdd, Nat.reduceMul, Nat.reduceSub, Nat.reduceLeDiff, Nat.reduceLT, Nat.reduceGT, Nat.reduceEqDiff, Nat.reduceBEq, Int.reduceNeg, Int.reduceEq, Int.reduceLT, Int.reduceLE, Int.reduceBEq, Int.reduceToNat, Int.toNat_natCast, Int.natCast_zero, r38_C0, r38_K2, h1, i0, va, hin, IH, w64]
    exact ⟨_, rfl⟩
  | ok y =>
    rw [hr] at IH
    simp only [ExOut] at IH
    have ih := ih y
    unfold ExLoop at ih
    have hdl : (done ++ [y]).length = done.length + 1 := by simp
    rw [hdl, Int.natCast_add, Int.natCast_one] at ih
    obtain ⟨s1, s2⟩ := row_sc done rest.length y
    obtain ⟨q1, q2⟩ := xenc_cl y
    rw [q1] at IH
    have h2 : ((done.length : Int) < (xs.length : Int)) = True := h1
    unfold arD at hin IH ih ⊢
    simp only [List.length_cons]
    cases hq : resL fs vs ls o t (done.length + 1) rest with
    | lost e =>
      rw [hq] at ih
      simp only [ExAns] at ih ⊢
      simp (disch := omega) only [go_sem, and_self, and_true, true_and, false_and, and_false, Nat.reduceAdd, Nat.reduceMul, Nat.reduceSub, Nat.reduceLeDiff, Nat.reduceLT, Nat.reduceGT, Nat.reduceEqDiff, Nat.reduceBEq, Int.reduceNeg, Int.reduceEq, Int.reduceLT, Int.reduceLE, Int.reduceBEq, Int.reduceToNat, Int.toNat_natCast, Int.natCast_zero, r38_C0, r38_K2, h1, i0, va, hin, IH, w64, q2, s1, s2, decide_true, Bool.and_true]
      exact ih
    | ok ys =>
      rw [hq] at ih
      simp only [ExAns, List.append_assoc, List.cons_append, List.nil_append] at ih ⊢
      simp (disch := omega) only [go_sem, and_self, and_true, true_and, false_and, and_false, Nat.reduceAdd, Nat.reduceMul, Nat.reduceSub, Nat.reduceLeDiff, Nat.reduceLT, Nat.reduceGT, Nat.reduceEqDiff, Nat.reduceBEq, Int.reduceNeg, Int.reduceEq, Int.reduceLT, Int.reduceLE, Int.reduceBEq, Int.reduceToNat, Int.toNat_natCast, Int.natCast_zero, r38_C0, r38_K2, h1, i0, va, hin, IH, w64, q2, s1, s2, decide_true, Bool.and_true]
      exact ih
end Go.Pe.T

namespace Go.Pe.T
theorem ex_loop (fs : List Fn) (vs ls : List ByteArray) (o : Int) (t : ByteArray) (p k c s : Int) (ns : List ByteArray) (xs : List Xp) (hxl : xs.length ≤ 1000000) (hv : vs.length ≤ 1000000) (hl : ls.length ≤ 1000000)
    (hall : ∀ x ∈ xs, ∀ vs' ls' : List ByteArray, vs'.length ≤ vs.length + 1 → ls'.length ≤ ls.length + 1 → ∀ hp, F tab 38 [.d (arD (fnDs fs) vs' ls'), .d x.enc] hp = ExOut hp (resX fs vs' ls' x)) :
    ∀ (rest done pre : List Xp), xs = pre ++ rest → pre.length = done.length → ExLoop fs vs ls o t p k c s ns xs done rest
  | [], done, pre, h, hd => ex_nil fs vs ls o t p k c s ns xs done (by rw [h, ← hd]; simp)
  | x :: rest, done, pre, h, hd => by
    refine ex_step fs vs ls o t p k c s ns xs done x rest (by rw [h, ← hd]; simp) (by rw [h, ← hd]; simp) hxl hv hl (hall x (by rw [h]; simp) _ _ ?_ ?_) fun y => ?_
    · unfold inVars; split <;> simp
    · unfold inLabs; split <;> simp
    · exact ex_loop fs vs ls o t p k c s ns xs hxl hv hl hall rest (done ++ [y]) (pre ++ [x]) (by rw [h]; simp) (by simp [hd])
def exHp (ys : List Xp) : List Ent := if ys.length = 0 then [.box []] else [.gone]
theorem frz_x (ys : List Xp) (n : Nat) (hn : n = ys.length) (tm : List PV) (m : Nat) (h : tm.getD m .dead = .rowh 0 0 n) : frzOp ⟨tm, [.box (flatD (Xp.encs ys))]⟩ 8 true (.t m) = some (.d (.sl (Xp.encs ys)), ⟨tm, exHp ys⟩) := by
  subst hn
  by_cases h0 : ys.length = 0
  · obtain rfl := List.eq_nil_of_length_eq_zero h0
    unfold frzOp exHp
    simp only [St.x]
    rw [h]
    simp [Xp.encs, flatD]
  · have hr : rowEnt (Xp.encs ys) = .box (flatD (Xp.encs ys)) := by
      unfold rowEnt
      cases ys with
      | nil => simp at h0
      | cons y r => rfl
    have hag : AggRow 8 (Xp.encs ys) := by
      have := row_agg ys 0
      simpa using this
    have := frz_row (s := ⟨tm, [.box (flatD (Xp.encs ys))]⟩) (x := .t m) (id := 0) hag (by rw [xencs_len]; exact h) (by rw [hr]; rfl)
    rw [this]
    simp [exHp, h0]
theorem resL_len (fs : List Fn) (vs ls : List ByteArray) (o : Int) (t : ByteArray) : ∀ (xs : List Xp) (i : Nat) (ys : List Xp), resL fs vs ls o t i xs = .ok ys → xs.length = ys.length
  | [], i, ys, h => by
    rw [resL] at h
    cases h
    rfl
  | x :: r, i, ys, h => by
    rw [resL] at h
    split at h
    · simp at h
    · split at h
      · simp at h
      · rename_i zs hz
        cases h
        simp [resL_len fs vs ls o t r (i + 1) zs hz]
def ExK (o : Int) (t : ByteArray) (p k c s : Int) (ns : List ByteArray) (r : Res (List Xp)) (v : Option (Ex × St)) : Prop := match r with
  | .ok ys => ∃ hp, v = some (.ret, r38_R (x3D o t p k c s ns ys) hp)
  | .lost e => IsPan v (lostD e)
set_option maxHeartbeats 2000000 in
theorem ex_k4 (fs : List Fn) (vs ls : List ByteArray) (o : Int) (t : ByteArray) (p k c s : Int) (ns : List ByteArray) (xs : List Xp) (hxl : xs.length ≤ 1000000) (hnl : ns.length ≤ 1000000)
    (hL : ExLoop fs vs ls o t p k c s ns xs [] xs) :
    ExK o t p k c s ns (resL fs vs ls o t 0 xs) (V (F tab) (r38_K4 ()) (r38_J4 (.eptr (arD (fnDs fs) vs ls) 0) (x3D o t p k c s ns xs) x4D [])) := by
  have k1 : (0 ≤ (xs.length : Int)) = True := eq_true (by omega)
  have k2 : ((xs.length : Int) * ((104 : Nat) : Int) ≤ 140737488355328) = True := eq_true (by omega)
  have hmr : maxRow = 140737488355328 := by decide
  have k3 : (ns.length * 16 ≤ maxRow) = True := eq_true (by omega)
  have k4 : (0 + ns.length) = ns.length := by omega
  have hz := flat_zero xs.length
  unfold ExLoop at hL
  rw [List.length_nil] at hL
  simp only [Xp.encs, List.nil_append, Int.natCast_zero] at hL
  cases hq : resL fs vs ls o t 0 xs with
  | lost e =>
    rw [hq] at hL
    simp only [ExAns] at hL
    obtain ⟨s1, hL⟩ := hL
    unfold ExK
    simp only
    simp (disch := omega) only [go_sem, and_self, and_true, true_and, false_and, and_false, Nat.reduceAdd, Nat.reduceMul, Nat.reduceSub, Nat.reduceLeDiff, Nat.reduceLT, Nat.reduceGT, Nat.reduceEqDiff, Nat.reduceBEq, Int.reduceNeg, Int.reduceEq, Int.reduceLT, Int.reduceLE, Int.reduceBEq, Int.reduceToNat, Int.toNat_natCast, Int.natCast_zero, r38_K4, mksOp, k1, k2, xencs_len, hz]
    rw [r38_B0_n]
    erw [hL]
    simp (disch := omega) only [go_sem, and_self, and_true, true_and, false_and, and_false, Nat.reduceAdd, Nat.reduceMul, Nat.reduceSub, Nat.reduceLeDiff, Nat.reduceLT, Nat.reduceGT, Nat.reduceEqDiff, Nat.reduceBEq, Int.reduceNeg, Int.reduceEq, Int.reduceLT, Int.reduceLE, Int.reduceBEq, Int.reduceToNat, Int.toNat_natCast, Int.natCast_zero]
    exact ⟨_, rfl⟩
  | ok ys =>
    rw [hq] at hL
    simp only [ExAns, List.nil_append] at hL
    have hyl : xs.length = ys.length := resL_len fs vs ls o t xs 0 ys hq
    have hfz := fun tm m h => frz_x ys xs.length hyl tm m h
    unfold ExK
    simp only
    refine ⟨exHp ys, ?_⟩
    simp (disch := omega) only [go_sem, and_self, and_true, true_and, false_and, and_false, Nat.reduceAdd, Nat.reduceMul, Nat.reduceSub, Nat.reduceLeDiff, Nat.reduceLT, Nat.reduceGT, Nat.reduceEqDiff, Nat.reduceBEq, Int.reduceNeg, Int.reduceEq, Int.reduceLT, Int.reduceLE, Int.reduceBEq, Int.reduceToNat, Int.toNat_natCast, Int.natCast_zero, r38_K4, mksOp, k1, k2, xencs_len, hz]
    rw [r38_B0_n]
    erw [hL]
    simp (disch := omega) only [go_sem, and_self, and_true, true_and, false_and, and_false, Nat.reduceAdd, Nat.reduceMul, Nat.reduceSub, Nat.reduceLeDiff, Nat.reduceLT, Nat.reduceGT, Nat.reduceEqDiff, Nat.reduceBEq, Int.reduceNeg, Int.reduceEq, Int.reduceLT, Int.reduceLE, Int.reduceBEq, Int.reduceToNat, Int.toNat_natCast, Int.natCast_zero, r38_K3]
    rw [hfz _ _ rfl]
    simp (disch := omega) only [go_sem, and_self, and_true, true_and, false_and, and_false, Nat.reduceAdd, Nat.reduceMul, Nat.reduceSub, Nat.reduceLeDiff, Nat.reduceLT, Nat.reduceGT, Nat.reduceEqDiff, Nat.reduceBEq, Int.reduceNeg, Int.reduceEq, Int.reduceLT, Int.reduceLE, Int.reduceBEq, Int.reduceToNat, Int.toNat_natCast, Int.natCast_zero, k3, k4, strs_one, List.length_map]
end Go.Pe.T

namespace Go.Pe.T
def HeadOk (fs : List Fn) (vs ls : List ByteArray) (o : Int) (t : ByteArray) (k c s : Int) (ns : List ByteArray) (xs : List Xp) (hp : List Ent) (out : Out) : Option Int → Prop
  | some p => fnEnd r38 hp (V (F tab) (r38_K4 ()) (r38_J4 (.eptr (arD (fnDs fs) vs ls) 0) (x3D o t p k c s ns xs) x4D [])) = some out
  | none => out = .pan (lostD t) hp
set_option maxHeartbeats 4000000 in
theorem ex_head (fs : List Fn) (vs ls : List ByteArray) (o : Int) (t : ByteArray) (p k c s : Int) (ns : List ByteArray) (xs : List Xp) (hp : List Ent) (out : Out)
    (hfl : fs.length ≤ maxLen) (hv : vs.length ≤ 1000000) (hl : ls.length ≤ 1000000)
    (h : HeadOk fs vs ls o t k c s ns xs hp out (atV fs vs ls o t p xs.length)) : F tab 38 [.d (arD (fnDs fs) vs ls), .d (.agg [iv o, .str t, iv p, iv k, iv c, iv s, .sl (ns.map .str), .sl (Xp.encs xs)])] hp = some out := by
  have hmx : maxLen = 9223372036854775807 := by decide
  have m1 := last_ok vs t (by omega)
  have m2 := last_ok ls t (by omega)
  have m3 := call_ok fs vs ls o t (iv p) (iv k) (iv c) (iv s) (.sl (ns.map .str)) xs hfl
  have m3 := fun hp => m3 hp rfl rfl rfl rfl rfl
  unfold arD at m3 ⊢
  unfold atV at h
  refine f38 rfl ?_
  by_cases o2 : o = 2
  · subst o2
    rw [if_pos rfl] at h
    cases hq : (lastV vs t).map (fun i => (i : Int)) with
    | none =>
      rw [hq] at h m1
      obtain rfl : out = .pan (lostD t) hp := h
      simp only [atOut] at m1
      simp (disch := omega) only [go_sem, and_self, and_true, true_and, false_and, and_false, Nat.reduceAdd, Nat.reduceMul, Nat.reduceSub, Nat.reduceLeDiff, Nat.reduceLT, Nat.reduceGT, Nat.reduceEqDiff, Nat.reduceBEq, Int.reduceNeg, Int.reduceEq, Int.reduceLT, Int.reduceLE, Int.reduceBEq, Int.reduceToNat, Int.toNat_natCast, Int.natCast_zero, r38_T, m1]
      rfl
    | some i =>
      rw [hq] at h m1
      simp only [atOut] at m1
      simp (disch := omega) only [go_sem, and_self, and_true, true_and, false_and, and_false, Nat.reduceAdd, Nat.reduceMul, Nat.reduceSub, Nat.reduceLeDiff, Nat.reduceLT, Nat.reduceGT, Nat.reduceEqDiff, Nat.reduceBEq, Int.reduceNeg, Int.reduceEq, Int.reduceLT, Int.reduceLE, Int.reduceBEq, Int.reduceToNat, Int.toNat_natCast, Int.natCast_zero, r38_T, m1]
      exact h
  · have q2 : (o == 2) = false := by simpa using o2
    rw [if_neg o2] at h
    by_cases o16 : o = 16
    · subst o16
      rw [if_pos rfl] at h
      cases hq : callV fs t xs.length with
      | none =>
        rw [hq] at h m3
        obtain rfl : out = .pan (lostD t) hp := h
        simp only [atOut] at m3
        simp (disch := omega) only [go_sem, and_self, and_true, true_and, false_and, and_false, Nat.reduceAdd, Nat.reduceMul, Nat.reduceSub, Nat.reduceLeDiff, Nat.reduceLT, Nat.reduceGT, Nat.reduceEqDiff, Nat.reduceBEq, Int.reduceNeg, Int.reduceEq, Int.reduceLT, Int.reduceLE, Int.reduceBEq, Int.reduceToNat, Int.toNat_natCast, Int.natCast_zero, r38_T, m3]
        rfl
      | some i =>
        rw [hq] at h m3
        simp only [atOut] at m3
        simp (disch := omega) only [go_sem, and_self, and_true, true_and, false_and, and_false, Nat.reduceAdd, Nat.reduceMul, Nat.reduceSub, Nat.reduceLeDiff, Nat.reduceLT, Nat.reduceGT, Nat.reduceEqDiff, Nat.reduceBEq, Int.reduceNeg, Int.reduceEq, Int.reduceLT, Int.reduceLE, Int.reduceBEq, Int.reduceToNat, Int.toNat_natCast, Int.natCast_zero, r38_T, m3]
        exact h
    · have q16 : (o == 16) = false := by simpa using o16
      rw [if_neg o16] at h
      by_cases o19 : o = 19
      · subst o19
        rw [if_pos rfl] at h
        cases hq : (lastV ls t).map (fun i => (i : Int)) with
        | none =>
          rw [hq] at h m2
          obtain rfl : out = .pan (lostD t) hp := h
          simp only [atOut] at m2
          simp (disch := omega) only [go_sem, and_self, and_true, true_and, false_and, and_false, Nat.reduceAdd, Nat.reduceMul, Nat.reduceSub, Nat.reduceLeDiff, Nat.reduceLT, Nat.reduceGT, Nat.reduceEqDiff, Nat.reduceBEq, Int.reduceNeg, Int.reduceEq, Int.reduceLT, Int.reduceLE, Int.reduceBEq, Int.reduceToNat, Int.toNat_natCast, Int.natCast_zero, r38_T, m2]
          rfl
        | some i =>
          rw [hq] at h m2
          simp only [atOut] at m2
          simp (disch := omega) only [go_sem, and_self, and_true, true_and, false_and, and_false, Nat.reduceAdd, Nat.reduceMul, Nat.reduceSub, Nat.reduceLeDiff, Nat.reduceLT, Nat.reduceGT, Nat.reduceEqDiff, Nat.reduceBEq, Int.reduceNeg, Int.reduceEq, Int.reduceLT, Int.reduceLE, Int.reduceBEq, Int.reduceToNat, Int.toNat_natCast, Int.natCast_zero, r38_T, m2]
          exact h
      · have q19 : (o == 19) = false := by simpa using o19
        rw [if_neg o19] at h
        by_cases o18 : o = 18
        · subst o18
          rw [if_pos rfl] at h
          simp (disch := omega) only [go_sem, and_self, and_true, true_and, false_and, and_false, Nat.reduceAdd, Nat.reduceMul, Nat.reduceSub, Nat.reduceLeDiff, Nat.reduceLT, Nat.reduceGT, Nat.reduceEqDiff, Nat.reduceBEq, Int.reduceNeg, Int.reduceEq, Int.reduceLT, Int.reduceLE, Int.reduceBEq, Int.reduceToNat, Int.toNat_natCast, Int.natCast_zero, r38_T, List.length_map]
          exact h
        · have q18 : (o == 18) = false := by simpa using o18
          rw [if_neg o18] at h
          simp (disch := omega) only [go_sem, and_self, and_true, true_and, false_and, and_false, Nat.reduceAdd, Nat.reduceMul, Nat.reduceSub, Nat.reduceLeDiff, Nat.reduceLT, Nat.reduceGT, Nat.reduceEqDiff, Nat.reduceBEq, Int.reduceNeg, Int.reduceEq, Int.reduceLT, Int.reduceLE, Int.reduceBEq, Int.reduceToNat, Int.toNat_natCast, Int.natCast_zero, r38_T, q2, q16, q19, q18]
          exact h

theorem pres_le (xs : List Xp) (x : Xp) (hx : x ∈ xs) : x.pre.length ≤ (Xp.pres xs).length := by
  induction xs with
  | nil => simp at hx
  | cons y r ih =>
    simp only [Xp.pres, List.length_append]
    rcases List.mem_cons.1 hx with rfl | hx
    · omega
    · have := ih hx; omega
theorem pres_len (xs : List Xp) : xs.length ≤ (Xp.pres xs).length := by
  induction xs with
  | nil => simp
  | cons y r ih =>
    simp only [Xp.pres, List.length_append, List.length_cons]
    have := pre_pos y
    omega
mutual
/-- no row of names is long -/
def xfew : Xp → Prop
  | .mk o t p k c s ns xs => ns.length ≤ 1000000 ∧ xfews xs
def xfews : List Xp → Prop
  | [] => True
  | x :: r => xfew x ∧ xfews r
end
theorem fews_mem {xs : List Xp} {x : Xp} (h : xfews xs) (hx : x ∈ xs) : xfew x := by
  induction xs with
  | nil => simp at hx
  | cons y r ih =>
    rcases List.mem_cons.1 hx with rfl | hx
    · exact h.1
    · exact ih h.2 hx
theorem ex_step1 (fs : List Fn) (hfl : fs.length ≤ maxLen) (o : Int) (t : ByteArray) (p k c s : Int) (ns : List ByteArray) (xs : List Xp) (hnl : ns.length ≤ 1000000) (hall : ∀ x ∈ xs, ExIs fs x) : ExIs fs (.mk o t p k c s ns xs) := by
  intro vs ls hv hl hp
  have hxl := pres_len xs
  simp only [Xp.pre, List.length_cons] at hv hl
  have hL := fun p => ex_loop fs vs ls o t p k c s ns xs (by omega) (by omega) (by omega) (fun x hx vs' ls' h1 h2 hp => by
    have := pres_le xs x hx
    exact hall x hx vs' ls' (by omega) (by omega) hp) xs [] [] rfl rfl
  have hK := fun p => ex_k4 fs vs ls o t p k c s ns xs (by omega) hnl (hL p)
  rw [resX]
  cases ha : atV fs vs ls o t p xs.length with
  | none =>
    refine ex_head fs vs ls o t p k c s ns xs hp _ hfl (by omega) (by omega) ?_
    rw [ha]
    rfl
  | some p' =>
    have hK := hK p'
    simp only
    cases hq : resL fs vs ls o t 0 xs with
    | lost e =>
      rw [hq] at hK
      obtain ⟨s1, hs⟩ := hK
      refine ex_head fs vs ls o t p k c s ns xs hp _ hfl (by omega) (by omega) ?_
      rw [ha]
      simp only [HeadOk]
      rw [hs]
      rfl
    | ok ys =>
      rw [hq] at hK
      obtain ⟨hp', hs⟩ := hK
      refine ex_head fs vs ls o t p k c s ns xs hp _ hfl (by omega) (by omega) ?_
      rw [ha]
      simp only [HeadOk]
      rw [hs]
      simp only [go_sem, and_self, and_true, true_and, false_and, and_false, Nat.reduceAdd, Nat.reduceMul, Nat.reduceSub, Nat.reduceLeDiff, Nat.reduceLT, Nat.reduceGT, Nat.reduceEqDiff, Nat.reduceBEq, Int.reduceNeg, Int.reduceEq, Int.reduceLT, Int.reduceLE, Int.reduceBEq, Int.reduceToNat, Int.toNat_natCast, Int.natCast_zero, r38]
      rfl
theorem expr_ok (fs : List Fn) (hfl : fs.length ≤ maxLen) : ∀ (n : Nat) (x : Xp), SizeOf.sizeOf x ≤ n → xfew x → ExIs fs x
  | 0, x, h, _ => by cases x; simp at h
  | n + 1, .mk o t p k c s ns xs, h, hf => by
    rw [xfew] at hf
    refine ex_step1 fs hfl o t p k c s ns xs hf.1 fun x hx => expr_ok fs hfl n x ?_ (fews_mem hf.2 hx)
    have := List.sizeOf_lt_of_mem hx
    simp at h
    omega
end Go.Pe.T

namespace Go.Pe.T

/-! ### bytes; names -/
def lowB (c : Int) : Bool := decide (c ≥ 97) && decide (c ≤ 122)
def upB (c : Int) : Bool := decide (c ≥ 65) && decide (c ≤ 90)
def digB (c : Int) : Bool := decide (c ≥ 48) && decide (c ≤ 57)
def letB (c : Int) : Bool := lowB c || (upB c || c == 95)

theorem letter_ok (c : Int) (hp : List Ent) : F tab 89 [.d (.int .u8 c)] hp = some (.ret (.d (.bool (letB c))) hp) := by
  refine f89 rfl ?_
  unfold letB lowB upB
  by_cases g1 : c ≥ 97 <;> by_cases g2 : c ≤ 122 <;> by_cases g3 : c ≥ 65 <;> by_cases g4 : c ≤ 90 <;>
    simp (disch := omega) only [go_sem, and_self, and_true, true_and, false_and, and_false, Nat.reduceAdd, Nat.reduceMul, Nat.reduceSub, Nat.reduceLeDiff, Nat.reduceLT, Nat.reduceGT, Nat.reduceEqDiff, Nat.reduceBEq, Int.reduceNeg, Int.reduceEq, Int.reduceLT, Int.reduceLE, Int.reduceBEq, Int.reduceToNat, Int.toNat_natCast, Int.natCast_zero, r89_T, r89, g1, g2, g3, g4, decide_true, decide_false, Bool.true_and, Bool.false_and, Bool.true_or, Bool.false_or, Bool.and_true, Bool.and_false]
theorem rletter_ok (c : Int) (hp : List Ent) : F tab 93 [.d (.int .u8 c)] hp = some (.ret (.d (.bool (letB c))) hp) := by
  refine f93 rfl ?_
  unfold letB lowB upB
  by_cases g1 : c ≥ 97 <;> by_cases g2 : c ≤ 122 <;> by_cases g3 : c ≥ 65 <;> by_cases g4 : c ≤ 90 <;>
    simp (disch := omega) only [go_sem, and_self, and_true, true_and, false_and, and_false, Nat.reduceAdd, Nat.reduceMul, Nat.reduceSub, Nat.reduceLeDiff, Nat.reduceLT, Nat.reduceGT, Nat.reduceEqDiff, Nat.reduceBEq, Int.reduceNeg, Int.reduceEq, Int.reduceLT, Int.reduceLE, Int.reduceBEq, Int.reduceToNat, Int.toNat_natCast, Int.natCast_zero, r93_T, r93, g1, g2, g3, g4, decide_true, decide_false, Bool.true_and, Bool.false_and, Bool.true_or, Bool.false_or, Bool.and_true, Bool.and_false]
theorem digit_ok (c : Int) (hp : List Ent) : F tab 90 [.d (.int .u8 c)] hp = some (.ret (.d (.bool (digB c))) hp) := by
  refine f90 rfl ?_
  unfold digB
  by_cases g1 : c ≥ 48 <;> by_cases g2 : c ≤ 57 <;>
    simp (disch := omega) only [go_sem, and_self, and_true, true_and, false_and, and_false, Nat.reduceAdd, Nat.reduceMul, Nat.reduceSub, Nat.reduceLeDiff, Nat.reduceLT, Nat.reduceGT, Nat.reduceEqDiff, Nat.reduceBEq, Int.reduceNeg, Int.reduceEq, Int.reduceLT, Int.reduceLE, Int.reduceBEq, Int.reduceToNat, Int.toNat_natCast, Int.natCast_zero, r90_T, r90, g1, g2, decide_true, decide_false, Bool.true_and, Bool.false_and]
theorem rdigit_ok (c : Int) (hp : List Ent) : F tab 94 [.d (.int .u8 c)] hp = some (.ret (.d (.bool (digB c))) hp) := by
  refine f94 rfl ?_
  unfold digB
  by_cases g1 : c ≥ 48 <;> by_cases g2 : c ≤ 57 <;>
    simp (disch := omega) only [go_sem, and_self, and_true, true_and, false_and, and_false, Nat.reduceAdd, Nat.reduceMul, Nat.reduceSub, Nat.reduceLeDiff, Nat.reduceLT, Nat.reduceGT, Nat.reduceEqDiff, Nat.reduceBEq, Int.reduceNeg, Int.reduceEq, Int.reduceLT, Int.reduceLE, Int.reduceBEq, Int.reduceToNat, Int.toNat_natCast, Int.natCast_zero, r94_T, r94, g1, g2, decide_true, decide_false, Bool.true_and, Bool.false_and]

/-- a text's bytes -/
def bs (s : ByteArray) : List UInt8 := s.data.toList
theorem bs_len (s : ByteArray) : (bs s).length = s.size := rfl
theorem bs_toList (s : ByteArray) : s.toList = bs s := ByteArray.toList_eq s
theorem bs_get {s : ByteArray} {i : Nat} (h : i < s.size) : s[i]? = some s[i] ∧ (bs s).drop i = s[i] :: (bs s).drop (i + 1) := by
  have e : s[i] = s.data.toList[i]'h := rfl
  refine ⟨getElem?_pos s i h, ?_⟩
  unfold bs
  rw [e]; exact List.drop_eq_getElem_cons h
theorem bs_end {s : ByteArray} {i : Nat} (h : s.size ≤ i) : (bs s).drop i = [] := List.drop_of_length_le h

/-! level.Name -/
def nmL : Nat → List UInt8 → Bool
  | _, [] => true
  | i, c :: r => (lowB c.toNat || (digB c.toNat && decide (i ≠ 0))) && nmL (i + 1) r
def nameB (s : ByteArray) : Bool := decide (s.size ≠ 0) && (decide (s.size ≤ 16) && nmL 0 (bs s))

def NmLoop (s : ByteArray) (i : Nat) : Prop :=
  V (F tab) r111_B0 (r111_S0 (.d (.str s)) (.d (iv s.size)) (.d (iv i)) []) = if nmL i ((bs s).drop i) then some (.norm, r111_E0 []) else some (.ret, r111_R (.d (.bool false)) [])
theorem nm_end (s : ByteArray) (i : Nat) (hi : s.size ≤ i) : NmLoop s i := by
  have h1 : ((i : Int) < (s.size : Int)) = False := eq_false (by omega)
  unfold NmLoop
  rw [r111_B0_eq, bs_end hi]
  simp (disch := omega) only [go_sem, and_self, and_true, true_and, false_and, and_false, Nat.reduceAdd, Nat.reduceMul, Nat.reduceSub, Nat.reduceLeDiff, Nat.reduceLT, Nat.reduceGT, Nat.reduceEqDiff, Nat.reduceBEq, Int.reduceNeg, Int.reduceEq, Int.reduceLT, Int.reduceLE, Int.reduceBEq, Int.reduceToNat, Int.toNat_natCast, Int.natCast_zero, r111_C0, h1, nmL]
theorem nm_step (s : ByteArray) (hs : s.size ≤ maxLen) (i : Nat) (hi : i < s.size) (ih : NmLoop s (i + 1)) : NmLoop s i := by
  have hmx : maxLen = 9223372036854775807 := by decide
  have h1 : ((i : Int) < (s.size : Int)) = True := eq_true (by omega)
  have hi0 : (0 ≤ (i : Int)) = True := eq_true (by omega)
  obtain ⟨va, vd⟩ := bs_get hi
  unfold NmLoop at ih ⊢
  rw [Int.natCast_add, Int.natCast_one] at ih
  rw [r111_B0_eq, vd]
  simp only [nmL, lowB, digB]
  have e0 : ((i : Int) == 0) = !decide (i ≠ 0) := by by_cases h : i = 0 <;> simp [h]
  by_cases g1 : ((s[i].toNat : Nat) : Int) ≥ 97 <;> by_cases g2 : ((s[i].toNat : Nat) : Int) ≤ 122 <;> by_cases g3 : ((s[i].toNat : Nat) : Int) ≥ 48 <;> by_cases g4 : ((s[i].toNat : Nat) : Int) ≤ 57 <;>
    first
    | (exfalso; omega)
    | (rcases Bool.eq_false_or_eq_true (decide (i ≠ 0)) with g5 | g5 <;>
        simp (disch := omega) only [go_sem, and_self, and_true, true_and, false_and, and_false, Nat.reduceAdd, Nat.reduceMul, Nat.reduceSub, Nat.reduceLeDiff, Nat.reduceLT, Nat.reduceGT, Nat.reduceEqDiff, Nat.reduceBEq, Int.reduceNeg, Int.reduceEq, Int.reduceLT, Int.reduceLE, Int.reduceBEq, Int.reduceToNat, Int.toNat_natCast, Int.natCast_zero, r111_C0, h1, hi0, va, e0, w64, g1, g2, g3, g4, g5, decide_true, decide_false, Bool.true_and, Bool.false_and, Bool.true_or, Bool.false_or, Bool.and_true, Bool.and_false, Bool.not_true, Bool.not_false] <;> exact ih)
theorem nm_loop (s : ByteArray) (hs : s.size ≤ maxLen) : ∀ (j i : Nat), i + j = s.size → NmLoop s i
  | 0, i, hi => nm_end s i (by omega)
  | j + 1, i, hi => nm_step s hs i (by omega) (nm_loop s hs j (i + 1) (by omega))
theorem isE (s : ByteArray) : (s.toList == (⟨#[]⟩ : ByteArray).toList) = !decide (s.size ≠ 0) := by
  have e0 : bs (⟨#[]⟩ : ByteArray) = [] := rfl
  rw [bs_toList, bs_toList, e0]
  have h := bs_len s
  cases hb : bs s with
  | nil => rw [hb] at h; simp only [List.length_nil] at h; simp [← h]
  | cons a l => rw [hb] at h; simp only [List.length_cons] at h; simp [← h]
theorem name_ok (s : ByteArray) (hs : s.size ≤ maxLen) (hp : List Ent) : F tab 111 [.d (.str s)] hp = some (.ret (.d (.bool (nameB s))) hp) := by
  have hL := nm_loop s hs s.size 0 (by omega)
  unfold NmLoop at hL
  rw [List.drop_zero] at hL
  have e := isE s
  have e2 : decide ((s.size : Int) > 16) = !decide (s.size ≤ 16) := by by_cases h : s.size ≤ 16 <;> simp [h] <;> omega
  refine f111 rfl ?_
  unfold nameB
  rcases Bool.eq_false_or_eq_true (decide (s.size ≠ 0)) with g1 | g1
  · rcases Bool.eq_false_or_eq_true (decide (s.size ≤ 16)) with g2 | g2
    · simp (disch := omega) only [go_sem, and_self, and_true, true_and, false_and, and_false, Nat.reduceAdd, Nat.reduceMul, Nat.reduceSub, Nat.reduceLeDiff, Nat.reduceLT, Nat.reduceGT, Nat.reduceEqDiff, Nat.reduceBEq, Int.reduceNeg, Int.reduceEq, Int.reduceLT, Int.reduceLE, Int.reduceBEq, Int.reduceToNat, Int.toNat_natCast, Int.natCast_zero, r111_T, r111, strD_eql, e, e2, g1, g2, Bool.not_true, Bool.not_false, Bool.true_and]
      rw [r111_B0_n]
      erw [hL]
      rcases Bool.eq_false_or_eq_true (nmL 0 (bs s)) with g | g <;> rw [g] <;> simp only [go_sem, and_self, and_true, true_and, false_and, and_false, Nat.reduceAdd, Nat.reduceMul, Nat.reduceSub, Nat.reduceLeDiff, Nat.reduceLT, Nat.reduceGT, Nat.reduceEqDiff, Nat.reduceBEq, Int.reduceNeg, Int.reduceEq, Int.reduceLT, Int.reduceLE, Int.reduceBEq, Int.reduceToNat, Int.toNat_natCast, Int.natCast_zero]
    · simp (disch := omega) only [go_sem, and_self, and_true, true_and, false_and, and_false, Nat.reduceAdd, Nat.reduceMul, Nat.reduceSub, Nat.reduceLeDiff, Nat.reduceLT, Nat.reduceGT, Nat.reduceEqDiff, Nat.reduceBEq, Int.reduceNeg, Int.reduceEq, Int.reduceLT, Int.reduceLE, Int.reduceBEq, Int.reduceToNat, Int.toNat_natCast, Int.natCast_zero, r111_T, r111, strD_eql, e, e2, g1, g2, Bool.not_true, Bool.not_false, Bool.true_and, Bool.false_and]
  · simp (disch := omega) only [go_sem, and_self, and_true, true_and, false_and, and_false, Nat.reduceAdd, Nat.reduceMul, Nat.reduceSub, Nat.reduceLeDiff, Nat.reduceLT, Nat.reduceGT, Nat.reduceEqDiff, Nat.reduceBEq, Int.reduceNeg, Int.reduceEq, Int.reduceLT, Int.reduceLE, Int.reduceBEq, Int.reduceToNat, Int.toNat_natCast, Int.natCast_zero, r111_T, r111, strD_eql, e, e2, g1, Bool.not_true, Bool.not_false, Bool.true_and, Bool.false_and]
end Go.Pe.T

namespace Go.Pe.T

/-! ### texts -/
def nb (l : List UInt8) (i : Nat) : Int := ((l.getD i 0).toNat : Int)
def contB (c : Int) : Bool := !decide (c < 128) && !decide (c > 191)
def conts : List UInt8 → Nat → Bool
  | _, 0 => true
  | [], _ + 1 => false
  | c :: r, k + 1 => contB c.toNat && conts r k
def tailL (l : List UInt8) (n : Nat) (lo hi : Int) : Bool := !decide (l.length ≤ n) && ((!decide (nb l 1 < lo) && !decide (nb l 1 > hi)) && conts (l.drop 2) (n - 1))
def sizeL (l : List UInt8) : Nat :=
  if nb l 0 < 128 then 1
  else if (decide (nb l 0 ≥ 194) && decide (nb l 0 ≤ 223)) && tailL l 1 128 191 then 2
  else if (nb l 0 == 224 && tailL l 2 160 191) || (((decide (nb l 0 ≥ 225) && decide (nb l 0 ≤ 239)) && nb l 0 != 237) && tailL l 2 128 191 || nb l 0 == 237 && tailL l 2 128 159) then 3
  else if (nb l 0 == 240 && tailL l 3 144 191) || ((decide (nb l 0 ≥ 241) && decide (nb l 0 ≤ 243)) && tailL l 3 128 191 || nb l 0 == 244 && tailL l 3 128 143) then 4
  else 0
def validF : Nat → List UInt8 → Bool
  | _, [] => true
  | 0, _ :: _ => false
  | k + 1, c :: r => if sizeL (c :: r) = 0 then false else validF k ((c :: r).drop (sizeL (c :: r)))
def validB (s : ByteArray) : Bool := validF s.size (bs s)

theorem tail_len {l : List UInt8} {n : Nat} {lo hi : Int} (h : tailL l n lo hi = true) : n < l.length := by
  simp only [tailL, Bool.and_eq_true, Bool.not_eq_true', decide_eq_false_iff_not] at h
  omega
theorem sizeL_le (l : List UInt8) (hl : l ≠ []) : sizeL l ≤ l.length := by
  have h0 : 0 < l.length := List.length_pos_iff.2 hl
  unfold sizeL
  split
  · omega
  · split
    · rename_i h; simp only [Bool.and_eq_true] at h; have := tail_len h.2; omega
    · split
      · rename_i h; simp only [Bool.or_eq_true, Bool.and_eq_true] at h
        rcases h with h | h | h <;> (have := tail_len h.2; omega)
      · split
        · rename_i h; simp only [Bool.or_eq_true, Bool.and_eq_true] at h
          rcases h with h | h | h <;> (have := tail_len h.2; omega)
        · omega

theorem bs_nb {s : ByteArray} {i : Nat} (h : i < s.size) : ((s[i].toNat : Nat) : Int) = nb (bs s) i := by
  have e : s[i] = s.data.toList[i]'h := rfl
  simp only [nb, bs, List.getD_eq_getElem?_getD, List.getElem?_eq_getElem (show i < s.data.toList.length from h), Option.getD_some, e]

def TlLoop (s : ByteArray) (n i : Nat) : Prop :=
  V (F tab) r125_B0 (r125_S0 (.d (.str s)) (.d (iv n)) (.d (iv i)) []) = if conts ((bs s).drop i) (n + 1 - i) then some (.norm, r125_E0 []) else some (.ret, r125_R (.d (.bool false)) [])
theorem tl_end (s : ByteArray) (n i : Nat) (hi : n < i) : TlLoop s n i := by
  have h1 : ((i : Int) ≤ (n : Int)) = False := eq_false (by omega)
  unfold TlLoop
  rw [r125_B0_eq, show n + 1 - i = 0 by omega]
  simp (disch := omega) only [go_sem, and_self, and_true, true_and, false_and, and_false, Nat.reduceAdd, Nat.reduceMul, Nat.reduceSub, Nat.reduceLeDiff, Nat.reduceLT, Nat.reduceGT, Nat.reduceEqDiff, Nat.reduceBEq, Int.reduceNeg, Int.reduceEq, Int.reduceLT, Int.reduceLE, Int.reduceBEq, Int.reduceToNat, Int.toNat_natCast, Int.natCast_zero, r125_C0, h1, conts]
theorem tl_step (s : ByteArray) (n i : Nat) (hn : n < s.size) (h4 : n ≤ 4) (hi : i ≤ n) (ih : TlLoop s n (i + 1)) : TlLoop s n i := by
  have h1 : ((i : Int) ≤ (n : Int)) = True := eq_true (by omega)
  have hi0 : (0 ≤ (i : Int)) = True := eq_true (by omega)
  obtain ⟨va, vd⟩ := bs_get (show i < s.size by omega)
  unfold TlLoop at ih ⊢
  rw [Int.natCast_add, Int.natCast_one] at ih
  rw [r125_B0_eq, vd, show n + 1 - i = (n - i) + 1 by omega]
  rw [show n + 1 - (i + 1) = n - i by omega] at ih
  simp only [conts, contB]
  by_cases g1 : ((s[i].toNat : Nat) : Int) < 128
  · simp (disch := omega) only [go_sem, and_self, and_true, true_and, false_and, and_false, Nat.reduceAdd, Nat.reduceMul, Nat.reduceSub, Nat.reduceLeDiff, Nat.reduceLT, Nat.reduceGT, Nat.reduceEqDiff, Nat.reduceBEq, Int.reduceNeg, Int.reduceEq, Int.reduceLT, Int.reduceLE, Int.reduceBEq, Int.reduceToNat, Int.toNat_natCast, Int.natCast_zero, r125_C0, h1, hi0, va, w64, g1, decide_true, Bool.not_true, Bool.false_and]
  · by_cases g2 : ((s[i].toNat : Nat) : Int) > 191
    · simp (disch := omega) only [go_sem, and_self, and_true, true_and, false_and, and_false, Nat.reduceAdd, Nat.reduceMul, Nat.reduceSub, Nat.reduceLeDiff, Nat.reduceLT, Nat.reduceGT, Nat.reduceEqDiff, Nat.reduceBEq, Int.reduceNeg, Int.reduceEq, Int.reduceLT, Int.reduceLE, Int.reduceBEq, Int.reduceToNat, Int.toNat_natCast, Int.natCast_zero, r125_C0, h1, hi0, va, w64, g1, g2, decide_true, decide_false, Bool.not_true, Bool.not_false, Bool.false_and, Bool.true_and]
    · simp (disch := omega) only [go_sem, and_self, and_true, true_and, false_and, and_false, Nat.reduceAdd, Nat.reduceMul, Nat.reduceSub, Nat.reduceLeDiff, Nat.reduceLT, Nat.reduceGT, Nat.reduceEqDiff, Nat.reduceBEq, Int.reduceNeg, Int.reduceEq, Int.reduceLT, Int.reduceLE, Int.reduceBEq, Int.reduceToNat, Int.toNat_natCast, Int.natCast_zero, r125_C0, h1, hi0, va, w64, g1, g2, decide_true, decide_false, Bool.not_true, Bool.not_false, Bool.false_and, Bool.true_and]
      exact ih
theorem tl_loop (s : ByteArray) (n : Nat) (hn : n < s.size) (h4 : n ≤ 4) : ∀ (j i : Nat), i + j = n + 1 → TlLoop s n i
  | 0, i, hi => tl_end s n i (by omega)
  | j + 1, i, hi => tl_step s n i hn h4 (by omega) (tl_loop s n hn h4 j (i + 1) (by omega))
theorem tail_ok (s : ByteArray) (n : Nat) (lo hi : Int) (h1 : 1 ≤ n) (h4 : n ≤ 4) (hp : List Ent) : F tab 125 [.d (.str s), .d (iv n), .d (.int .u8 lo), .d (.int .u8 hi)] hp = some (.ret (.d (.bool (tailL (bs s) n lo hi))) hp) := by
  refine f125 rfl ?_
  unfold tailL
  rw [bs_len]
  by_cases g : s.size ≤ n
  · have g' : ((s.size : Int) ≤ (n : Int)) = True := eq_true (by omega)
    simp (disch := omega) only [go_sem, and_self, and_true, true_and, false_and, and_false, Nat.reduceAdd, Nat.reduceMul, Nat.reduceSub, Nat.reduceLeDiff, Nat.reduceLT, Nat.reduceGT, Nat.reduceEqDiff, Nat.reduceBEq, Int.reduceNeg, Int.reduceEq, Int.reduceLT, Int.reduceLE, Int.reduceBEq, Int.reduceToNat, Int.toNat_natCast, Int.natCast_zero, r125_T, r125, g, g', decide_true, Bool.not_true, Bool.false_and]
  · have g' : ((s.size : Int) ≤ (n : Int)) = False := eq_false (by omega)
    have hL := tl_loop s n (by omega) h4 (n - 1) 2 (by omega)
    unfold TlLoop at hL
    rw [show n + 1 - 2 = n - 1 by omega] at hL
    have hlt : 1 < s.size := by omega
    obtain ⟨va, vd⟩ := bs_get hlt
    have e := bs_nb hlt
    rw [← e]
    by_cases g1 : ((s[1].toNat : Nat) : Int) < lo
    · simp (disch := omega) only [go_sem, and_self, and_true, true_and, false_and, and_false, Nat.reduceAdd, Nat.reduceMul, Nat.reduceSub, Nat.reduceLeDiff, Nat.reduceLT, Nat.reduceGT, Nat.reduceEqDiff, Nat.reduceBEq, Int.reduceNeg, Int.reduceEq, Int.reduceLT, Int.reduceLE, Int.reduceBEq, Int.reduceToNat, Int.toNat_natCast, Int.natCast_zero, r125_T, r125, g, g', va, g1, decide_true, decide_false, Bool.not_true, Bool.not_false, Bool.false_and, Bool.true_and]
    · by_cases g2 : ((s[1].toNat : Nat) : Int) > hi
      · simp (disch := omega) only [go_sem, and_self, and_true, true_and, false_and, and_false, Nat.reduceAdd, Nat.reduceMul, Nat.reduceSub, Nat.reduceLeDiff, Nat.reduceLT, Nat.reduceGT, Nat.reduceEqDiff, Nat.reduceBEq, Int.reduceNeg, Int.reduceEq, Int.reduceLT, Int.reduceLE, Int.reduceBEq, Int.reduceToNat, Int.toNat_natCast, Int.natCast_zero, r125_T, r125, g, g', va, g1, g2, decide_true, decide_false, Bool.not_true, Bool.not_false, Bool.false_and, Bool.true_and]
      · simp (disch := omega) only [go_sem, and_self, and_true, true_and, false_and, and_false, Nat.reduceAdd, Nat.reduceMul, Nat.reduceSub, Nat.reduceLeDiff, Nat.reduceLT, Nat.reduceGT, Nat.reduceEqDiff, Nat.reduceBEq, Int.reduceNeg, Int.reduceEq, Int.reduceLT, Int.reduceLE, Int.reduceBEq, Int.reduceToNat, Int.toNat_natCast, Int.natCast_zero, r125_T, r125, g, g', va, g1, g2, decide_true, decide_false, Bool.not_true, Bool.not_false, Bool.false_and, Bool.true_and]
        rw [r125_B0_n]
        erw [hL]
        rcases Bool.eq_false_or_eq_true (conts ((bs s).drop 2) (n - 1)) with g3 | g3 <;> rw [g3] <;> simp only [go_sem, and_self, and_true, true_and, false_and, and_false, Nat.reduceAdd, Nat.reduceMul, Nat.reduceSub, Nat.reduceLeDiff, Nat.reduceLT, Nat.reduceGT, Nat.reduceEqDiff, Nat.reduceBEq, Int.reduceNeg, Int.reduceEq, Int.reduceLT, Int.reduceLE, Int.reduceBEq, Int.reduceToNat, Int.toNat_natCast, Int.natCast_zero]

theorem size_0 (s : ByteArray) (c : Int) (h0 : 0 < s.size) (hc : ((s[0].toNat : Nat) : Int) = c) (g1 : c ≥ 0) (g2 : c ≤ 127) (hp : List Ent) : F tab 119 [.d (.str s)] hp = some (.ret (.d (iv (sizeL (bs s)))) hp) := by
  obtain ⟨va, vd⟩ := bs_get h0
  have e := bs_nb h0
  rw [hc] at e
  have xa : (c < 128) = True := eq_true (by omega)
  have xb : (c ≥ 194) = False := eq_false (by omega)
  have xd : (c ≤ 223) = True := eq_true (by omega)
  have xe : (c == 224) = false := by simp <;> omega
  have xf : (c ≥ 225) = False := eq_false (by omega)
  have xh : (c ≤ 239) = True := eq_true (by omega)
  have xi : (c != 237) = true := by simp <;> omega
  have xj : (c == 237) = false := by simp <;> omega
  have xk : (c == 240) = false := by simp <;> omega
  have xl : (c ≥ 241) = False := eq_false (by omega)
  have xm : (c ≤ 243) = True := eq_true (by omega)
  have xn : (c == 244) = false := by simp <;> omega
  refine f119 rfl ?_
  unfold sizeL
  rw [← e]
  simp (disch := omega) only [go_sem, and_self, and_true, true_and, false_and, and_false, Nat.reduceAdd, Nat.reduceMul, Nat.reduceSub, Nat.reduceLeDiff, Nat.reduceLT, Nat.reduceGT, Nat.reduceEqDiff, Nat.reduceBEq, Int.reduceNeg, Int.reduceEq, Int.reduceLT, Int.reduceLE, Int.reduceBEq, Int.reduceToNat, Int.toNat_natCast, Int.natCast_zero, r119_T, r119, va, hc, xa, xb, xd, xe, xf, xh, xi, xj, xk, xl, xm, xn, decide_true, decide_false, Bool.true_and, Bool.false_and, Bool.true_or, Bool.false_or, Bool.and_false, Bool.and_true, Int.natCast_one]
  try rfl

theorem size_1 (s : ByteArray) (c : Int) (h0 : 0 < s.size) (hc : ((s[0].toNat : Nat) : Int) = c) (g1 : c ≥ 128) (g2 : c ≤ 193) (hp : List Ent) : F tab 119 [.d (.str s)] hp = some (.ret (.d (iv (sizeL (bs s)))) hp) := by
  obtain ⟨va, vd⟩ := bs_get h0
  have e := bs_nb h0
  rw [hc] at e
  have xa : (c < 128) = False := eq_false (by omega)
  have xb : (c ≥ 194) = False := eq_false (by omega)
  have xd : (c ≤ 223) = True := eq_true (by omega)
  have xe : (c == 224) = false := by simp <;> omega
  have xf : (c ≥ 225) = False := eq_false (by omega)
  have xh : (c ≤ 239) = True := eq_true (by omega)
  have xi : (c != 237) = true := by simp <;> omega
  have xj : (c == 237) = false := by simp <;> omega
  have xk : (c == 240) = false := by simp <;> omega
  have xl : (c ≥ 241) = False := eq_false (by omega)
  have xm : (c ≤ 243) = True := eq_true (by omega)
  have xn : (c == 244) = false := by simp <;> omega
  refine f119 rfl ?_
  unfold sizeL
  rw [← e]
  simp (disch := omega) only [go_sem, and_self, and_true, true_and, false_and, and_false, Nat.reduceAdd, Nat.reduceMul, Nat.reduceSub, Nat.reduceLeDiff, Nat.reduceLT, Nat.reduceGT, Nat.reduceEqDiff, Nat.reduceBEq, Int.reduceNeg, Int.reduceEq, Int.reduceLT, Int.reduceLE, Int.reduceBEq, Int.reduceToNat, Int.toNat_natCast, Int.natCast_zero, r119_T, r119, va, hc, xa, xb, xd, xe, xf, xh, xi, xj, xk, xl, xm, xn, decide_true, decide_false, Bool.true_and, Bool.false_and, Bool.true_or, Bool.false_or, Bool.and_false, Bool.and_true, Int.natCast_one]
  try rfl

theorem size_2 (s : ByteArray) (c : Int) (h0 : 0 < s.size) (hc : ((s[0].toNat : Nat) : Int) = c) (g1 : c ≥ 194) (g2 : c ≤ 223) (hp : List Ent) : F tab 119 [.d (.str s)] hp = some (.ret (.d (iv (sizeL (bs s)))) hp) := by
  obtain ⟨va, vd⟩ := bs_get h0
  have e := bs_nb h0
  rw [hc] at e
  have xa : (c < 128) = False := eq_false (by omega)
  have xb : (c ≥ 194) = True := eq_true (by omega)
  have xd : (c ≤ 223) = True := eq_true (by omega)
  have xe : (c == 224) = false := by simp <;> omega
  have xf : (c ≥ 225) = False := eq_false (by omega)
  have xh : (c ≤ 239) = True := eq_true (by omega)
  have xi : (c != 237) = true := by simp <;> omega
  have xj : (c == 237) = false := by simp <;> omega
  have xk : (c == 240) = false := by simp <;> omega
  have xl : (c ≥ 241) = False := eq_false (by omega)
  have xm : (c ≤ 243) = True := eq_true (by omega)
  have xn : (c == 244) = false := by simp <;> omega
  have ht : ∀ hp, F tab 125 [.d (.str s), .d (iv 1), .d (.int .u8 128), .d (.int .u8 191)] hp = _ := tail_ok s 1 128 191 (by omega) (by omega)
  refine f119 rfl ?_
  unfold sizeL
  rw [← e]
  rcases Bool.eq_false_or_eq_true (tailL (bs s) 1 128 191) with g | g <;> rw [g] at ht <;>
    simp (disch := omega) only [go_sem, and_self, and_true, true_and, false_and, and_false, Nat.reduceAdd, Nat.reduceMul, Nat.reduceSub, Nat.reduceLeDiff, Nat.reduceLT, Nat.reduceGT, Nat.reduceEqDiff, Nat.reduceBEq, Int.reduceNeg, Int.reduceEq, Int.reduceLT, Int.reduceLE, Int.reduceBEq, Int.reduceToNat, Int.toNat_natCast, Int.natCast_zero, r119_T, r119, va, hc, xa, xb, xd, xe, xf, xh, xi, xj, xk, xl, xm, xn, ht, g, decide_true, decide_false, Bool.true_and, Bool.false_and, Bool.true_or, Bool.false_or, Bool.and_false, Bool.and_true, Int.natCast_one] <;> rfl

theorem size_3 (s : ByteArray) (c : Int) (h0 : 0 < s.size) (hc : ((s[0].toNat : Nat) : Int) = c) (g1 : c ≥ 224) (g2 : c ≤ 224) (hp : List Ent) : F tab 119 [.d (.str s)] hp = some (.ret (.d (iv (sizeL (bs s)))) hp) := by
  obtain ⟨va, vd⟩ := bs_get h0
  have e := bs_nb h0
  rw [hc] at e
  have xa : (c < 128) = False := eq_false (by omega)
  have xb : (c ≥ 194) = True := eq_true (by omega)
  have xd : (c ≤ 223) = False := eq_false (by omega)
  have xe : (c == 224) = true := by simp <;> omega
  have xf : (c ≥ 225) = False := eq_false (by omega)
  have xh : (c ≤ 239) = True := eq_true (by omega)
  have xi : (c != 237) = true := by simp <;> omega
  have xj : (c == 237) = false := by simp <;> omega
  have xk : (c == 240) = false := by simp <;> omega
  have xl : (c ≥ 241) = False := eq_false (by omega)
  have xm : (c ≤ 243) = True := eq_true (by omega)
  have xn : (c == 244) = false := by simp <;> omega
  have ht : ∀ hp, F tab 125 [.d (.str s), .d (iv 2), .d (.int .u8 160), .d (.int .u8 191)] hp = _ := tail_ok s 2 160 191 (by omega) (by omega)
  refine f119 rfl ?_
  unfold sizeL
  rw [← e]
  rcases Bool.eq_false_or_eq_true (tailL (bs s) 2 160 191) with g | g <;> rw [g] at ht <;>
    simp (disch := omega) only [go_sem, and_self, and_true, true_and, false_and, and_false, Nat.reduceAdd, Nat.reduceMul, Nat.reduceSub, Nat.reduceLeDiff, Nat.reduceLT, Nat.reduceGT, Nat.reduceEqDiff, Nat.reduceBEq, Int.reduceNeg, Int.reduceEq, Int.reduceLT, Int.reduceLE, Int.reduceBEq, Int.reduceToNat, Int.toNat_natCast, Int.natCast_zero, r119_T, r119, va, hc, xa, xb, xd, xe, xf, xh, xi, xj, xk, xl, xm, xn, ht, g, decide_true, decide_false, Bool.true_and, Bool.false_and, Bool.true_or, Bool.false_or, Bool.and_false, Bool.and_true, Int.natCast_one] <;> rfl

theorem size_4 (s : ByteArray) (c : Int) (h0 : 0 < s.size) (hc : ((s[0].toNat : Nat) : Int) = c) (g1 : c ≥ 225) (g2 : c ≤ 236) (hp : List Ent) : F tab 119 [.d (.str s)] hp = some (.ret (.d (iv (sizeL (bs s)))) hp) := by
  obtain ⟨va, vd⟩ := bs_get h0
  have e := bs_nb h0
  rw [hc] at e
  have xa : (c < 128) = False := eq_false (by omega)
  have xb : (c ≥ 194) = True := eq_true (by omega)
  have xd : (c ≤ 223) = False := eq_false (by omega)
  have xe : (c == 224) = false := by simp <;> omega
  have xf : (c ≥ 225) = True := eq_true (by omega)
  have xh : (c ≤ 239) = True := eq_true (by omega)
  have xi : (c != 237) = true := by simp <;> omega
  have xj : (c == 237) = false := by simp <;> omega
  have xk : (c == 240) = false := by simp <;> omega
  have xl : (c ≥ 241) = False := eq_false (by omega)
  have xm : (c ≤ 243) = True := eq_true (by omega)
  have xn : (c == 244) = false := by simp <;> omega
  have ht : ∀ hp, F tab 125 [.d (.str s), .d (iv 2), .d (.int .u8 128), .d (.int .u8 191)] hp = _ := tail_ok s 2 128 191 (by omega) (by omega)
  refine f119 rfl ?_
  unfold sizeL
  rw [← e]
  rcases Bool.eq_false_or_eq_true (tailL (bs s) 2 128 191) with g | g <;> rw [g] at ht <;>
    simp (disch := omega) only [go_sem, and_self, and_true, true_and, false_and, and_false, Nat.reduceAdd, Nat.reduceMul, Nat.reduceSub, Nat.reduceLeDiff, Nat.reduceLT, Nat.reduceGT, Nat.reduceEqDiff, Nat.reduceBEq, Int.reduceNeg, Int.reduceEq, Int.reduceLT, Int.reduceLE, Int.reduceBEq, Int.reduceToNat, Int.toNat_natCast, Int.natCast_zero, r119_T, r119, va, hc, xa, xb, xd, xe, xf, xh, xi, xj, xk, xl, xm, xn, ht, g, decide_true, decide_false, Bool.true_and, Bool.false_and, Bool.true_or, Bool.false_or, Bool.and_false, Bool.and_true, Int.natCast_one] <;> rfl

theorem size_5 (s : ByteArray) (c : Int) (h0 : 0 < s.size) (hc : ((s[0].toNat : Nat) : Int) = c) (g1 : c ≥ 237) (g2 : c ≤ 237) (hp : List Ent) : F tab 119 [.d (.str s)] hp = some (.ret (.d (iv (sizeL (bs s)))) hp) := by
  obtain ⟨va, vd⟩ := bs_get h0
  have e := bs_nb h0
  rw [hc] at e
  have xa : (c < 128) = False := eq_false (by omega)
  have xb : (c ≥ 194) = True := eq_true (by omega)
  have xd : (c ≤ 223) = False := eq_false (by omega)
  have xe : (c == 224) = false := by simp <;> omega
  have xf : (c ≥ 225) = True := eq_true (by omega)
  have xh : (c ≤ 239) = True := eq_true (by omega)
  have xi : (c != 237) = false := by simp <;> omega
  have xj : (c == 237) = true := by simp <;> omega
  have xk : (c == 240) = false := by simp <;> omega
  have xl : (c ≥ 241) = False := eq_false (by omega)
  have xm : (c ≤ 243) = True := eq_true (by omega)
  have xn : (c == 244) = false := by simp <;> omega
  have ht : ∀ hp, F tab 125 [.d (.str s), .d (iv 2), .d (.int .u8 128), .d (.int .u8 159)] hp = _ := tail_ok s 2 128 159 (by omega) (by omega)
  refine f119 rfl ?_
  unfold sizeL
  rw [← e]
  rcases Bool.eq_false_or_eq_true (tailL (bs s) 2 128 159) with g | g <;> rw [g] at ht <;>
    simp (disch := omega) only [go_sem, and_self, and_true, true_and, false_and, and_false, Nat.reduceAdd, Nat.reduceMul, Nat.reduceSub, Nat.reduceLeDiff, Nat.reduceLT, Nat.reduceGT, Nat.reduceEqDiff, Nat.reduceBEq, Int.reduceNeg, Int.reduceEq, Int.reduceLT, Int.reduceLE, Int.reduceBEq, Int.reduceToNat, Int.toNat_natCast, Int.natCast_zero, r119_T, r119, va, hc, xa, xb, xd, xe, xf, xh, xi, xj, xk, xl, xm, xn, ht, g, decide_true, decide_false, Bool.true_and, Bool.false_and, Bool.true_or, Bool.false_or, Bool.and_false, Bool.and_true, Int.natCast_one] <;> rfl

theorem size_6 (s : ByteArray) (c : Int) (h0 : 0 < s.size) (hc : ((s[0].toNat : Nat) : Int) = c) (g1 : c ≥ 238) (g2 : c ≤ 239) (hp : List Ent) : F tab 119 [.d (.str s)] hp = some (.ret (.d (iv (sizeL (bs s)))) hp) := by
  obtain ⟨va, vd⟩ := bs_get h0
  have e := bs_nb h0
  rw [hc] at e
  have xa : (c < 128) = False := eq_false (by omega)
  have xb : (c ≥ 194) = True := eq_true (by omega)
  have xd : (c ≤ 223) = False := eq_false (by omega)
  have xe : (c == 224) = false := by simp <;> omega
  have xf : (c ≥ 225) = True := eq_true (by omega)
  have xh : (c ≤ 239) = True := eq_true (by omega)
  have xi : (c != 237) = true := by simp <;> omega
  have xj : (c == 237) = false := by simp <;> omega
  have xk : (c == 240) = false := by simp <;> omega
  have xl : (c ≥ 241) = False := eq_false (by omega)
  have xm : (c ≤ 243) = True := eq_true (by omega)
  have xn : (c == 244) = false := by simp <;> omega
  have ht : ∀ hp, F tab 125 [.d (.str s), .d (iv 2), .d (.int .u8 128), .d (.int .u8 191)] hp = _ := tail_ok s 2 128 191 (by omega) (by omega)
  refine f119 rfl ?_
  unfold sizeL
  rw [← e]
  rcases Bool.eq_false_or_eq_true (tailL (bs s) 2 128 191) with g | g <;> rw [g] at ht <;>
    simp (disch := omega) only [go_sem, and_self, and_true, true_and, false_and, and_false, Nat.reduceAdd, Nat.reduceMul, Nat.reduceSub, Nat.reduceLeDiff, Nat.reduceLT, Nat.reduceGT, Nat.reduceEqDiff, Nat.reduceBEq, Int.reduceNeg, Int.reduceEq, Int.reduceLT, Int.reduceLE, Int.reduceBEq, Int.reduceToNat, Int.toNat_natCast, Int.natCast_zero, r119_T, r119, va, hc, xa, xb, xd, xe, xf, xh, xi, xj, xk, xl, xm, xn, ht, g, decide_true, decide_false, Bool.true_and, Bool.false_and, Bool.true_or, Bool.false_or, Bool.and_false, Bool.and_true, Int.natCast_one] <;> rfl

theorem size_7 (s : ByteArray) (c : Int) (h0 : 0 < s.size) (hc : ((s[0].toNat : Nat) : Int) = c) (g1 : c ≥ 240) (g2 : c ≤ 240) (hp : List Ent) : F tab 119 [.d (.str s)] hp = some (.ret (.d (iv (sizeL (bs s)))) hp) := by
  obtain ⟨va, vd⟩ := bs_get h0
  have e := bs_nb h0
  rw [hc] at e
  have xa : (c < 128) = False := eq_false (by omega)
  have xb : (c ≥ 194) = True := eq_true (by omega)
  have xd : (c ≤ 223) = False := eq_false (by omega)
  have xe : (c == 224) = false := by simp <;> omega
  have xf : (c ≥ 225) = True := eq_true (by omega)
  have xh : (c ≤ 239) = False := eq_false (by omega)
  have xi : (c != 237) = true := by simp <;> omega
  have xj : (c == 237) = false := by simp <;> omega
  have xk : (c == 240) = true := by simp <;> omega
  have xl : (c ≥ 241) = False := eq_false (by omega)
  have xm : (c ≤ 243) = True := eq_true (by omega)
  have xn : (c == 244) = false := by simp <;> omega
  have ht : ∀ hp, F tab 125 [.d (.str s), .d (iv 3), .d (.int .u8 144), .d (.int .u8 191)] hp = _ := tail_ok s 3 144 191 (by omega) (by omega)
  refine f119 rfl ?_
  unfold sizeL
  rw [← e]
  rcases Bool.eq_false_or_eq_true (tailL (bs s) 3 144 191) with g | g <;> rw [g] at ht <;>
    simp (disch := omega) only [go_sem, and_self, and_true, true_and, false_and, and_false, Nat.reduceAdd, Nat.reduceMul, Nat.reduceSub, Nat.reduceLeDiff, Nat.reduceLT, Nat.reduceGT, Nat.reduceEqDiff, Nat.reduceBEq, Int.reduceNeg, Int.reduceEq, Int.reduceLT, Int.reduceLE, Int.reduceBEq, Int.reduceToNat, Int.toNat_natCast, Int.natCast_zero, r119_T, r119, va, hc, xa, xb, xd, xe, xf, xh, xi, xj, xk, xl, xm, xn, ht, g, decide_true, decide_false, Bool.true_and, Bool.false_and, Bool.true_or, Bool.false_or, Bool.and_false, Bool.and_true, Int.natCast_one] <;> rfl

theorem size_8 (s : ByteArray) (c : Int) (h0 : 0 < s.size) (hc : ((s[0].toNat : Nat) : Int) = c) (g1 : c ≥ 241) (g2 : c ≤ 243) (hp : List Ent) : F tab 119 [.d (.str s)] hp = some (.ret (.d (iv (sizeL (bs s)))) hp) := by
  obtain ⟨va, vd⟩ := bs_get h0
  have e := bs_nb h0
  rw [hc] at e
  have xa : (c < 128) = False := eq_false (by omega)
  have xb : (c ≥ 194) = True := eq_true (by omega)
  have xd : (c ≤ 223) = False := eq_false (by omega)
  have xe : (c == 224) = false := by simp <;> omega
  have xf : (c ≥ 225) = True := eq_true (by omega)
  have xh : (c ≤ 239) = False := eq_false (by omega)
  have xi : (c != 237) = true := by simp <;> omega
  have xj : (c == 237) = false := by simp <;> omega
  have xk : (c == 240) = false := by simp <;> omega
  have xl : (c ≥ 241) = True := eq_true (by omega)
  have xm : (c ≤ 243) = True := eq_true (by omega)
  have xn : (c == 244) = false := by simp <;> omega
  have ht : ∀ hp, F tab 125 [.d (.str s), .d (iv 3), .d (.int .u8 128), .d (.int .u8 191)] hp = _ := tail_ok s 3 128 191 (by omega) (by omega)
  refine f119 rfl ?_
  unfold sizeL
  rw [← e]
  rcases Bool.eq_false_or_eq_true (tailL (bs s) 3 128 191) with g | g <;> rw [g] at ht <;>
    simp (disch := omega) only [go_sem, and_self, and_true, true_and, false_and, and_false, Nat.reduceAdd, Nat.reduceMul, Nat.reduceSub, Nat.reduceLeDiff, Nat.reduceLT, Nat.reduceGT, Nat.reduceEqDiff, Nat.reduceBEq, Int.reduceNeg, Int.reduceEq, Int.reduceLT, Int.reduceLE, Int.reduceBEq, Int.reduceToNat, Int.toNat_natCast, Int.natCast_zero, r119_T, r119, va, hc, xa, xb, xd, xe, xf, xh, xi, xj, xk, xl, xm, xn, ht, g, decide_true, decide_false, Bool.true_and, Bool.false_and, Bool.true_or, Bool.false_or, Bool.and_false, Bool.and_true, Int.natCast_one] <;> rfl

theorem size_9 (s : ByteArray) (c : Int) (h0 : 0 < s.size) (hc : ((s[0].toNat : Nat) : Int) = c) (g1 : c ≥ 244) (g2 : c ≤ 244) (hp : List Ent) : F tab 119 [.d (.str s)] hp = some (.ret (.d (iv (sizeL (bs s)))) hp) := by
  obtain ⟨va, vd⟩ := bs_get h0
  have e := bs_nb h0
  rw [hc] at e
  have xa : (c < 128) = False := eq_false (by omega)
  have xb : (c ≥ 194) = True := eq_true (by omega)
  have xd : (c ≤ 223) = False := eq_false (by omega)
  have xe : (c == 224) = false := by simp <;> omega
  have xf : (c ≥ 225) = True := eq_true (by omega)
  have xh : (c ≤ 239) = False := eq_false (by omega)
  have xi : (c != 237) = true := by simp <;> omega
  have xj : (c == 237) = false := by simp <;> omega
  have xk : (c == 240) = false := by simp <;> omega
  have xl : (c ≥ 241) = True := eq_true (by omega)
  have xm : (c ≤ 243) = False := eq_false (by omega)
  have xn : (c == 244) = true := by simp <;> omega
  have ht : ∀ hp, F tab 125 [.d (.str s), .d (iv 3), .d (.int .u8 128), .d (.int .u8 143)] hp = _ := tail_ok s 3 128 143 (by omega) (by omega)
  refine f119 rfl ?_
  unfold sizeL
  rw [← e]
  rcases Bool.eq_false_or_eq_true (tailL (bs s) 3 128 143) with g | g <;> rw [g] at ht <;>
    simp (disch := omega) only [go_sem, and_self, and_true, true_and, false_and, and_false, Nat.reduceAdd, Nat.reduceMul, Nat.reduceSub, Nat.reduceLeDiff, Nat.reduceLT, Nat.reduceGT, Nat.reduceEqDiff, Nat.reduceBEq, Int.reduceNeg, Int.reduceEq, Int.reduceLT, Int.reduceLE, Int.reduceBEq, Int.reduceToNat, Int.toNat_natCast, Int.natCast_zero, r119_T, r119, va, hc, xa, xb, xd, xe, xf, xh, xi, xj, xk, xl, xm, xn, ht, g, decide_true, decide_false, Bool.true_and, Bool.false_and, Bool.true_or, Bool.false_or, Bool.and_false, Bool.and_true, Int.natCast_one] <;> rfl

theorem size_10 (s : ByteArray) (c : Int) (h0 : 0 < s.size) (hc : ((s[0].toNat : Nat) : Int) = c) (g1 : c ≥ 245) (g2 : c ≤ 255) (hp : List Ent) : F tab 119 [.d (.str s)] hp = some (.ret (.d (iv (sizeL (bs s)))) hp) := by
  obtain ⟨va, vd⟩ := bs_get h0
  have e := bs_nb h0
  rw [hc] at e
  have xa : (c < 128) = False := eq_false (by omega)
  have xb : (c ≥ 194) = True := eq_true (by omega)
  have xd : (c ≤ 223) = False := eq_false (by omega)
  have xe : (c == 224) = false := by simp <;> omega
  have xf : (c ≥ 225) = True := eq_true (by omega)
  have xh : (c ≤ 239) = False := eq_false (by omega)
  have xi : (c != 237) = true := by simp <;> omega
  have xj : (c == 237) = false := by simp <;> omega
  have xk : (c == 240) = false := by simp <;> omega
  have xl : (c ≥ 241) = True := eq_true (by omega)
  have xm : (c ≤ 243) = False := eq_false (by omega)
  have xn : (c == 244) = false := by simp <;> omega
  refine f119 rfl ?_
  unfold sizeL
  rw [← e]
  simp (disch := omega) only [go_sem, and_self, and_true, true_and, false_and, and_false, Nat.reduceAdd, Nat.reduceMul, Nat.reduceSub, Nat.reduceLeDiff, Nat.reduceLT, Nat.reduceGT, Nat.reduceEqDiff, Nat.reduceBEq, Int.reduceNeg, Int.reduceEq, Int.reduceLT, Int.reduceLE, Int.reduceBEq, Int.reduceToNat, Int.toNat_natCast, Int.natCast_zero, r119_T, r119, va, hc, xa, xb, xd, xe, xf, xh, xi, xj, xk, xl, xm, xn, decide_true, decide_false, Bool.true_and, Bool.false_and, Bool.true_or, Bool.false_or, Bool.and_false, Bool.and_true, Int.natCast_one]
  try rfl

theorem usize_ok (s : ByteArray) (h0 : 0 < s.size) (hp : List Ent) : F tab 119 [.d (.str s)] hp = some (.ret (.d (iv (sizeL (bs s)))) hp) := by
  have hb : s[0].toNat < 256 := UInt8.toNat_lt _
  by_cases c0 : ((s[0].toNat : Nat) : Int) ≤ 127
  · exact size_0 s _ h0 rfl (by omega) (by omega) hp
  by_cases c1 : ((s[0].toNat : Nat) : Int) ≤ 193
  · exact size_1 s _ h0 rfl (by omega) (by omega) hp
  by_cases c2 : ((s[0].toNat : Nat) : Int) ≤ 223
  · exact size_2 s _ h0 rfl (by omega) (by omega) hp
  by_cases c3 : ((s[0].toNat : Nat) : Int) ≤ 224
  · exact size_3 s _ h0 rfl (by omega) (by omega) hp
  by_cases c4 : ((s[0].toNat : Nat) : Int) ≤ 236
  · exact size_4 s _ h0 rfl (by omega) (by omega) hp
  by_cases c5 : ((s[0].toNat : Nat) : Int) ≤ 237
  · exact size_5 s _ h0 rfl (by omega) (by omega) hp
  by_cases c6 : ((s[0].toNat : Nat) : Int) ≤ 239
  · exact size_6 s _ h0 rfl (by omega) (by omega) hp
  by_cases c7 : ((s[0].toNat : Nat) : Int) ≤ 240
  · exact size_7 s _ h0 rfl (by omega) (by omega) hp
  by_cases c8 : ((s[0].toNat : Nat) : Int) ≤ 243
  · exact size_8 s _ h0 rfl (by omega) (by omega) hp
  by_cases c9 : ((s[0].toNat : Nat) : Int) ≤ 244
  · exact size_9 s _ h0 rfl (by omega) (by omega) hp
  exact size_10 s _ h0 rfl (by omega) (by omega) hp
end Go.Pe.T

namespace Go.Pe.T

abbrev numD (c s : Int) : D := .agg [iv c, iv s]

def numIs (c s : Int) : Bool := decide (0 ≤ s) && decide (s ≤ 9) && decide (-1000000000000000 < c) && decide (c < 1000000000000000) && (s == 0 || c.tmod 10 != 0)

theorem numIs_ok (c s : Int) (hp : List Ent) : F tab 113 [.d (numD c s)] hp = some (.ret (.d (.bool (numIs c s))) hp) := by
  refine f113 rfl ?_
  by_cases h1 : s < 0
  · have g1 : ¬ (0 ≤ s) := by omega
    simp only [go_sem, and_self, and_true, true_and, false_and, and_false, Nat.reduceAdd, Nat.reduceMul, Nat.reduceSub, Nat.reduceLeDiff, Nat.reduceLT, Nat.reduceGT, Nat.reduceEqDiff, Nat.reduceBEq, Int.reduceNeg, Int.reduceEq, Int.reduceLT, Int.reduceLE, Int.reduceBEq, Int.reduceToNat, Int.toNat_natCast, Int.natCast_zero, r113_T, r113, numIs, h1, g1]
  · have g1 : 0 ≤ s := by omega
    by_cases h2 : s > 9
    · have g2 : ¬ (s ≤ 9) := by omega
      simp only [go_sem, and_self, and_true, true_and, false_and, and_false, Nat.reduceAdd, Nat.reduceMul, Nat.reduceSub, Nat.reduceLeDiff, Nat.reduceLT, Nat.reduceGT, Nat.reduceEqDiff, Nat.reduceBEq, Int.reduceNeg, Int.reduceEq, Int.reduceLT, Int.reduceLE, Int.reduceBEq, Int.reduceToNat, Int.toNat_natCast, Int.natCast_zero, r113_T, r113, numIs, h1, g1, h2, g2]
    · have g2 : s ≤ 9 := by omega
      by_cases h3 : c ≤ -1000000000000000
      · have g3 : ¬ (-1000000000000000 < c) := by omega
        simp only [go_sem, and_self, and_true, true_and, false_and, and_false, Nat.reduceAdd, Nat.reduceMul, Nat.reduceSub, Nat.reduceLeDiff, Nat.reduceLT, Nat.reduceGT, Nat.reduceEqDiff, Nat.reduceBEq, Int.reduceNeg, Int.reduceEq, Int.reduceLT, Int.reduceLE, Int.reduceBEq, Int.reduceToNat, Int.toNat_natCast, Int.natCast_zero, r113_T, r113, numIs, h1, g1, h2, g2, h3, g3]
      · have g3 : -1000000000000000 < c := by omega
        by_cases h4 : c ≥ 1000000000000000
        · have g4 : ¬ (c < 1000000000000000) := by omega
          simp only [go_sem, and_self, and_true, true_and, false_and, and_false, Nat.reduceAdd, Nat.reduceMul, Nat.reduceSub, Nat.reduceLeDiff, Nat.reduceLT, Nat.reduceGT, Nat.reduceEqDiff, Nat.reduceBEq, Int.reduceNeg, Int.reduceEq, Int.reduceLT, Int.reduceLE, Int.reduceBEq, Int.reduceToNat, Int.toNat_natCast, Int.natCast_zero, r113_T, r113, numIs, h1, g1, h2, g2, h3, g3, h4, g4]
        · have g4 : c < 1000000000000000 := by omega
          by_cases h5 : s = 0
          · subst h5
            simp only [go_sem, and_self, and_true, true_and, false_and, and_false, Nat.reduceAdd, Nat.reduceMul, Nat.reduceSub, Nat.reduceLeDiff, Nat.reduceLT, Nat.reduceGT, Nat.reduceEqDiff, Nat.reduceBEq, Int.reduceNeg, Int.reduceEq, Int.reduceLT, Int.reduceLE, Int.reduceBEq, Int.reduceToNat, Int.toNat_natCast, Int.natCast_zero, r113_T, r113, numIs, h1, g1, h2, g2, h3, g3, h4, g4, Bool.true_or]
          · have g5 : (s == 0) = false := by simpa using h5
            simp only [go_sem, and_self, and_true, true_and, false_and, and_false, Nat.reduceAdd, Nat.reduceMul, Nat.reduceSub, Nat.reduceLeDiff, Nat.reduceLT, Nat.reduceGT, Nat.reduceEqDiff, Nat.reduceBEq, Int.reduceNeg, Int.reduceEq, Int.reduceLT, Int.reduceLE, Int.reduceBEq, Int.reduceToNat, Int.toNat_natCast, Int.natCast_zero, r113_T, r113, numIs, h1, g1, h2, g2, h3, g3, h4, g4, g5, Bool.false_or]

theorem num4Is_ok (c s : Int) (hp : List Ent) : F tab 67 [.d (numD c s)] hp = some (.ret (.d (.bool (numIs c s))) hp) := by
  refine f67 rfl ?_
  by_cases h1 : s < 0
  · have g1 : ¬ (0 ≤ s) := by omega
    simp only [go_sem, and_self, and_true, true_and, false_and, and_false, Nat.reduceAdd, Nat.reduceMul, Nat.reduceSub, Nat.reduceLeDiff, Nat.reduceLT, Nat.reduceGT, Nat.reduceEqDiff, Nat.reduceBEq, Int.reduceNeg, Int.reduceEq, Int.reduceLT, Int.reduceLE, Int.reduceBEq, Int.reduceToNat, Int.toNat_natCast, Int.natCast_zero, r67_T, r67, numIs, h1, g1]
  · have g1 : 0 ≤ s := by omega
    by_cases h2 : s > 9
    · have g2 : ¬ (s ≤ 9) := by omega
      simp only [go_sem, and_self, and_true, true_and, false_and, and_false, Nat.reduceAdd, Nat.reduceMul, Nat.reduceSub, Nat.reduceLeDiff, Nat.reduceLT, Nat.reduceGT, Nat.reduceEqDiff, Nat.reduceBEq, Int.reduceNeg, Int.reduceEq, Int.reduceLT, Int.reduceLE, Int.reduceBEq, Int.reduceToNat, Int.toNat_natCast, Int.natCast_zero, r67_T, r67, numIs, h1, g1, h2, g2]
    · have g2 : s ≤ 9 := by omega
      by_cases h3 : c ≤ -1000000000000000
      · have g3 : ¬ (-1000000000000000 < c) := by omega
        have g4 : c < 1000000000000000 := by omega
        have h4 : ¬ c ≥ 1000000000000000 := by omega
        simp only [go_sem, and_self, and_true, true_and, false_and, and_false, Nat.reduceAdd, Nat.reduceMul, Nat.reduceSub, Nat.reduceLeDiff, Nat.reduceLT, Nat.reduceGT, Nat.reduceEqDiff, Nat.reduceBEq, Int.reduceNeg, Int.reduceEq, Int.reduceLT, Int.reduceLE, Int.reduceBEq, Int.reduceToNat, Int.toNat_natCast, Int.natCast_zero, r67_T, r67, numIs, h1, g1, h2, g2, h3, g3, h4, g4]
      · have g3 : -1000000000000000 < c := by omega
        by_cases h4 : c ≥ 1000000000000000
        · have g4 : ¬ (c < 1000000000000000) := by omega
          simp only [go_sem, and_self, and_true, true_and, false_and, and_false, Nat.reduceAdd, Nat.reduceMul, Nat.reduceSub, Nat.reduceLeDiff, Nat.reduceLT, Nat.reduceGT, Nat.reduceEqDiff, Nat.reduceBEq, Int.reduceNeg, Int.reduceEq, Int.reduceLT, Int.reduceLE, Int.reduceBEq, Int.reduceToNat, Int.toNat_natCast, Int.natCast_zero, r67_T, r67, numIs, h1, g1, h2, g2, h3, g3, h4, g4]
        · have g4 : c < 1000000000000000 := by omega
          by_cases h5 : s = 0
          · subst h5
            simp only [go_sem, and_self, and_true, true_and, false_and, and_false, Nat.reduceAdd, Nat.reduceMul, Nat.reduceSub, Nat.reduceLeDiff, Nat.reduceLT, Nat.reduceGT, Nat.reduceEqDiff, Nat.reduceBEq, Int.reduceNeg, Int.reduceEq, Int.reduceLT, Int.reduceLE, Int.reduceBEq, Int.reduceToNat, Int.toNat_natCast, Int.natCast_zero, r67_T, r67, numIs, h1, g1, h2, g2, h3, g3, h4, g4, Bool.true_or]
          · have g5 : (s == 0) = false := by simpa using h5
            simp only [go_sem, and_self, and_true, true_and, false_and, and_false, Nat.reduceAdd, Nat.reduceMul, Nat.reduceSub, Nat.reduceLeDiff, Nat.reduceLT, Nat.reduceGT, Nat.reduceEqDiff, Nat.reduceBEq, Int.reduceNeg, Int.reduceEq, Int.reduceLT, Int.reduceLE, Int.reduceBEq, Int.reduceToNat, Int.toNat_natCast, Int.natCast_zero, r67_T, r67, numIs, h1, g1, h2, g2, h3, g3, h4, g4, g5, Bool.false_or]


/-! utf.Valid -/
theorem bs_drop (s : ByteArray) (k : Nat) : bs (s.extract k s.size) = (bs s).drop k := by
  simp [bs, ByteArray.data_extract]
  rw [List.take_of_length_le]
  simp
theorem size_drop (s : ByteArray) (k : Nat) : (s.extract k s.size).size = s.size - k := by
  rw [← bs_len, bs_drop, List.length_drop, bs_len]

def VdIs (k : Nat) (s : ByteArray) : Prop :=
  V (F tab) r107_B0 (r107_S0 (.d (.str s)) []) = if validF k (bs s) then some (.norm, r107_E0 []) else some (.ret, r107_R (.d (.bool false)) [])
theorem vd_end (k : Nat) (s : ByteArray) (h : s.size = 0) : VdIs k s := by
  have e := isE s
  have g : decide (s.size ≠ 0) = false := decide_eq_false (by omega)
  have hb : bs s = [] := List.eq_nil_of_length_eq_zero h
  unfold VdIs
  rw [r107_B0_eq, hb]
  cases k <;> simp (disch := omega) only [go_sem, and_self, and_true, true_and, false_and, and_false, Nat.reduceAdd, Nat.reduceMul, Nat.reduceSub, Nat.reduceLeDiff, Nat.reduceLT, Nat.reduceGT, Nat.reduceEqDiff, Nat.reduceBEq, Int.reduceNeg, Int.reduceEq, Int.reduceLT, Int.reduceLE, Int.reduceBEq, Int.reduceToNat, Int.toNat_natCast, Int.natCast_zero, r107_C0, strD_neq, e, g, Bool.not_true, Bool.not_false, validF]
theorem vd_step (k : Nat) (s : ByteArray) (h : 0 < s.size) (hs : s.size ≤ maxLen) (ih : 0 < sizeL (bs s) → VdIs k (s.extract (sizeL (bs s)) s.size)) : VdIs (k + 1) s := by
  have hmx : maxLen = 9223372036854775807 := by decide
  have e := isE s
  have g : decide (s.size ≠ 0) = true := decide_eq_true (by omega)
  have hz := usize_ok s h
  have hne : bs s ≠ [] := by
    intro e0
    have := bs_len s
    rw [e0, List.length_nil] at this
    omega
  have hle := sizeL_le (bs s) hne
  rw [bs_len] at hle
  unfold VdIs at ih ⊢
  rw [r107_B0_eq]
  obtain ⟨c, r, hcr⟩ : ∃ c r, bs s = c :: r := by cases hb : bs s with | nil => exact absurd hb hne | cons c r => exact ⟨c, r, rfl⟩
  by_cases h0 : sizeL (bs s) = 0
  · have g0 : validF (k + 1) (bs s) = false := by rw [hcr] at h0 ⊢; simp [validF, h0]
    have g1 : ((sizeL (bs s) : Int) == 0) = true := by simp [h0]
    rw [g0]
    simp (disch := omega) only [go_sem, and_self, and_true, true_and, false_and, and_false, Nat.reduceAdd, Nat.reduceMul, Nat.reduceSub, Nat.reduceLeDiff, Nat.reduceLT, Nat.reduceGT, Nat.reduceEqDiff, Nat.reduceBEq, Int.reduceNeg, Int.reduceEq, Int.reduceLT, Int.reduceLE, Int.reduceBEq, Int.reduceToNat, Int.toNat_natCast, Int.natCast_zero, r107_C0, strD_neq, e, g, Bool.not_true, Bool.not_false, hz, g1]
  · have g0 : validF (k + 1) (bs s) = validF k ((bs s).drop (sizeL (bs s))) := by rw [hcr] at h0 ⊢; simp [validF, h0]
    have g1 : ((sizeL (bs s) : Int) == 0) = false := by simp [h0]
    have ih := ih (by omega)
    rw [bs_drop] at ih
    have h1 : ((sizeL (bs s) : Int) ≤ (s.size : Int)) = True := eq_true (by omega)
    have h2 : (0 ≤ (sizeL (bs s) : Int)) = True := eq_true (by omega)
    have h3 : ((s.size : Int) ≤ (s.size : Int)) = True := eq_true (by omega)
    rw [g0]
    simp (disch := omega) only [go_sem, and_self, and_true, true_and, false_and, and_false, Nat.reduceAdd, Nat.reduceMul, Nat.reduceSub, Nat.reduceLeDiff, Nat.reduceLT, Nat.reduceGT, Nat.reduceEqDiff, Nat.reduceBEq, Int.reduceNeg, Int.reduceEq, Int.reduceLT, Int.reduceLE, Int.reduceBEq, Int.reduceToNat, Int.toNat_natCast, Int.natCast_zero, r107_C0, strD_neq, e, g, Bool.not_true, Bool.not_false, hz, g1, h1, h2, h3, decide_true]
    exact ih
theorem vd_all : ∀ (k : Nat) (s : ByteArray), s.size ≤ k → s.size ≤ maxLen → VdIs k s
  | 0, s, h, _ => vd_end 0 s (by omega)
  | k + 1, s, h, hs => by
    by_cases h0 : s.size = 0
    · exact vd_end _ s h0
    · exact vd_step k s (by omega) hs fun hp => vd_all k _ (by rw [size_drop]; omega) (by rw [size_drop]; omega)
theorem valid_ok (s : ByteArray) (hs : s.size ≤ maxLen) (hp : List Ent) : F tab 107 [.d (.str s)] hp = some (.ret (.d (.bool (validB s))) hp) := by
  have hL := vd_all s.size s (Nat.le_refl _) hs
  unfold VdIs at hL
  refine f107 rfl ?_
  unfold validB
  simp (disch := omega) only [go_sem, and_self, and_true, true_and, false_and, and_false, Nat.reduceAdd, Nat.reduceMul, Nat.reduceSub, Nat.reduceLeDiff, Nat.reduceLT, Nat.reduceGT, Nat.reduceEqDiff, Nat.reduceBEq, Int.reduceNeg, Int.reduceEq, Int.reduceLT, Int.reduceLE, Int.reduceBEq, Int.reduceToNat, Int.toNat_natCast, Int.natCast_zero, r107_T, r107]
  rw [r107_B0_n]
  erw [hL]
  rcases Bool.eq_false_or_eq_true (validF s.size (bs s)) with g | g <;> rw [g] <;> simp only [go_sem, and_self, and_true, true_and, false_and, and_false, Nat.reduceAdd, Nat.reduceMul, Nat.reduceSub, Nat.reduceLeDiff, Nat.reduceLT, Nat.reduceGT, Nat.reduceEqDiff, Nat.reduceBEq, Int.reduceNeg, Int.reduceEq, Int.reduceLT, Int.reduceLE, Int.reduceBEq, Int.reduceToNat, Int.toNat_natCast, Int.natCast_zero]
end Go.Pe.T

namespace Go.Pe.T

/-! ### all parts of an expression -/

theorem take_more {α : Type} (a b : List α) (n : Nat) (h : a.length < n) : a ++ b.take (n - a.length) = (a ++ b).take n := by
  rw [List.take_append, List.take_of_length_le (Nat.le_of_lt h)]
theorem take_app {α : Type} (a b : List α) (n : Nat) : (a.take n ++ b).take n = (a ++ b).take n := by
  simp only [List.take_append, List.take_take, Nat.min_self, List.length_take]
  congr 2
  omega

theorem xencs_all (a : List Xp) : ((Xp.encs a).all fun y => y.width == 8) = true := by
  simp only [List.all_eq_true, beq_iff_eq]
  intro y hy
  rw [xencs_eq, List.mem_map] at hy
  obtain ⟨x, _, rfl⟩ := hy
  exact xenc_w x
theorem row_len {a b k : Nat} (hk : k ≤ 1000) (h : a + b ≤ 1000000) : ((a + b) * k ≤ maxRow) = True :=
  eq_true (by
    have := Nat.mul_le_mul h hk
    simp only [maxRow]
    omega)

def AllIs (e : Xp) (m : Nat) : Prop := ∀ hp : List Ent, F tab 39 [.d e.enc, .d (iv m)] hp = some (.ret (.d (.sl (Xp.encs (e.pre.take m)))) hp)

def AllLoop (o : Int) (t : ByteArray) (p k c s : Int) (ns : List D) (xs : List Xp) (m i : Nat) (l : List Xp) : Prop :=
    V (F tab) r39_B0 (r39_S0 (.d (iv m)) (.ibox [.d (iv o), .d (.str t), .d (iv p), .d (iv k), .d (iv c), .d (iv s), .d (.sl ns), .d (.sl (Xp.encs xs))]) (.own 34 (Xp.encs l)) (.d (iv i)) []) =
      some (.norm, r39_E0 (.own 34 (Xp.encs ((l ++ Xp.pres (xs.drop i)).take m))) [])

theorem all_end (o : Int) (t : ByteArray) (p k c s : Int) (ns : List D) (xs : List Xp) (m i : Nat) (l : List Xp) (hlm : l.length ≤ m) (hi : xs.length ≤ i) : AllLoop o t p k c s ns xs m i l := by
  have h1 : ((i : Int) < (xs.length : Int)) = False := eq_false (by omega)
  unfold AllLoop
  rw [r39_B0_eq, List.drop_of_length_le hi, Xp.pres, List.append_nil, List.take_of_length_le hlm]
  simp (disch := omega) only [go_sem, and_self, and_true, true_and, false_and, and_false, Nat.reduceAdd, Nat.reduceMul, Nat.reduceSub, Nat.reduceLeDiff, Nat.reduceLT, Nat.reduceGT, Nat.reduceEqDiff, Nat.reduceBEq, Int.reduceNeg, Int.reduceEq, Int.reduceLT, Int.reduceLE, Int.reduceBEq, Int.reduceToNat, Int.toNat_natCast, Int.natCast_zero, r39_C0, h1, xencs_len]

theorem all_full (o : Int) (t : ByteArray) (p k c s : Int) (ns : List D) (xs : List Xp) (m i : Nat) (l : List Xp) (hlm : l.length = m) (hi : i < xs.length) : AllLoop o t p k c s ns xs m i l := by
  have h1 : ((i : Int) < (xs.length : Int)) = True := eq_true (by omega)
  have h2 : ((l.length : Int) < (m : Int)) = False := eq_false (by omega)
  unfold AllLoop
  rw [r39_B0_eq, show (l ++ Xp.pres (xs.drop i)).take m = l by rw [← hlm, List.take_left]]
  simp (disch := omega) only [go_sem, and_self, and_true, true_and, false_and, and_false, Nat.reduceAdd, Nat.reduceMul, Nat.reduceSub, Nat.reduceLeDiff, Nat.reduceLT, Nat.reduceGT, Nat.reduceEqDiff, Nat.reduceBEq, Int.reduceNeg, Int.reduceEq, Int.reduceLT, Int.reduceLE, Int.reduceBEq, Int.reduceToNat, Int.toNat_natCast, Int.natCast_zero, r39_C0, h1, h2, xencs_len]

theorem all_step (o : Int) (t : ByteArray) (p k c s : Int) (ns : List D) (xs : List Xp) (hl : xs.length ≤ maxLen) (m i : Nat) (l : List Xp) (hlm : l.length < m) (hm : m ≤ 100000) (hi : i < xs.length)
    (ih : AllIs xs[i] (m - l.length)) (hn : AllLoop o t p k c s ns xs m (i + 1) ((l ++ xs[i].pre).take m)) : AllLoop o t p k c s ns xs m i l := by
  have hmx : maxLen = 9223372036854775807 := by decide
  have h1 : ((i : Int) < (xs.length : Int)) = True := eq_true (by omega)
  have h2 : ((l.length : Int) < (m : Int)) = True := eq_true (by omega)
  have hi0 : (0 ≤ (i : Int)) = True := eq_true (by omega)
  have va : (Xp.encs xs)[i]? = some (xs[i].enc) := by rw [xencs_get]; simp [hi]
  have hd : (m : Int) - (l.length : Int) = ((m - l.length : Nat) : Int) := by omega
  have hr : (l.length + (xs[i].pre.take (m - l.length)).length) * 104 ≤ maxRow := of_eq_true (row_len (by omega) (by rw [List.length_take]; omega))
  have e1 : (l ++ Xp.pres (xs.drop i)).take m = ((l ++ xs[i].pre).take m ++ Xp.pres (xs.drop (i + 1))).take m := by
    rw [take_app, List.drop_eq_getElem_cons hi, Xp.pres, List.append_assoc]
  have e2 : Xp.encs l ++ Xp.encs (xs[i].pre.take (m - l.length)) = Xp.encs ((l ++ xs[i].pre).take m) := by rw [← xencs_app, take_more _ _ _ hlm]
  unfold AllIs at ih
  unfold AllLoop at hn ⊢
  rw [r39_B0_eq, e1]
  simp (disch := omega) only [go_sem, and_self, and_true, true_and, false_and, and_false, Nat.reduceAdd, Nat.reduceMul, Nat.reduceSub, Nat.reduceLeDiff, Nat.reduceLT, Nat.reduceGT, Nat.reduceEqDiff, Nat.reduceBEq, Int.reduceNeg, Int.reduceEq, Int.reduceLT, Int.reduceLE, Int.reduceBEq, Int.reduceToNat, Int.toNat_natCast, Int.natCast_zero, r39_C0, h1, h2, hi0, va, xenc_w, xenc_a, xencs_len, w64, hd, ih, hr, e2, xencs_all, decide_true, and_self, if_true]
  rw [Int.natCast_add, Int.natCast_one] at hn
  exact hn

theorem all_loop (o : Int) (t : ByteArray) (p k c s : Int) (ns : List D) (xs : List Xp) (hl : xs.length ≤ maxLen) (m : Nat) (hm : m ≤ 100000) (ih : ∀ x ∈ xs, ∀ n : Nat, 1 ≤ n → n ≤ 100000 → AllIs x n) :
    ∀ (j i : Nat) (l : List Xp), i + j = xs.length → l.length ≤ m → AllLoop o t p k c s ns xs m i l
  | 0, i, l, hi, hlm => all_end o t p k c s ns xs m i l hlm (by omega)
  | j + 1, i, l, hi, hlm => by
    by_cases h : l.length = m
    · exact all_full o t p k c s ns xs m i l h (by omega)
    · exact all_step o t p k c s ns xs hl m i l (by omega) hm (by omega) (ih _ (List.getElem_mem _) _ (by omega) (by omega)) (all_loop o t p k c s ns xs hl m hm ih j (i + 1) _ (by omega) (by rw [List.length_take]; omega))

theorem all_fn (o : Int) (t : ByteArray) (p k c s : Int) (ns : List ByteArray) (xs : List Xp) (m : Nat) (h1 : 1 ≤ m) (hL : AllLoop o t p k c s (ns.map .str) xs m 0 [.mk o t p k c s ns xs]) : AllIs (.mk o t p k c s ns xs) m := by
  intro hp
  unfold AllLoop at hL
  rw [List.drop_zero] at hL
  have e1 : [Xp.mk o t p k c s ns xs] ++ Xp.pres xs = (Xp.mk o t p k c s ns xs).pre := rfl
  rw [e1] at hL
  simp only [Xp.encs, Xp.enc] at hL
  refine f39 rfl ?_
  simp (disch := omega) only [go_sem, and_self, and_true, true_and, false_and, and_false, Nat.reduceAdd, Nat.reduceMul, Nat.reduceSub, Nat.reduceLeDiff, Nat.reduceLT, Nat.reduceGT, Nat.reduceEqDiff, Nat.reduceBEq, Int.reduceNeg, Int.reduceEq, Int.reduceLT, Int.reduceLE, Int.reduceBEq, Int.reduceToNat, Int.toNat_natCast, Int.natCast_zero, r39_T, r39, Xp.enc]
  rw [r39_B0_n]
  erw [hL]
  simp (disch := omega) only [go_sem, and_self, and_true, true_and, false_and, and_false, Nat.reduceAdd, Nat.reduceMul, Nat.reduceSub, Nat.reduceLeDiff, Nat.reduceLT, Nat.reduceGT, Nat.reduceEqDiff, Nat.reduceBEq, Int.reduceNeg, Int.reduceEq, Int.reduceLT, Int.reduceLE, Int.reduceBEq, Int.reduceToNat, Int.toNat_natCast, Int.natCast_zero]

theorem rall_ok : ∀ (e : Xp), e.ok → ∀ m : Nat, 1 ≤ m → m ≤ 100000 → AllIs e m
  | .mk o t p k c s ns xs, h, m, h1, h2 => by
    simp only [Xp.ok] at h
    exact all_fn o t p k c s ns xs m h1 (all_loop o t p k c s _ xs h.2.2.2.2.2.2.2.2.1 m h2 (fun x hx n n1 n2 => rall_ok x (xoks_mem h.2.2.2.2.2.2.2.2.2 hx) n n1 n2) xs.length 0 _ (by omega) (by simpa using h1))

theorem light_ok (e : Xp) (he : e.ok) (m : Nat) (hm : m < 100000) (hp : List Ent) : F tab 27 [.d e.enc, .d (iv m)] hp = some (.ret (.d (.bool (decide (e.pre.length ≤ m)))) hp) := by
  have h := rall_ok e he (m + 1) (by omega) (by omega)
  unfold AllIs at h
  rw [Int.natCast_add, Int.natCast_one] at h
  obtain ⟨o, t, p, k, c, s, ns, xs, ex⟩ := xenc_as e
  rw [ex] at h ⊢
  have e1 : (((e.pre.take (m + 1)).length : Int) ≤ (m : Int)) = (e.pre.length ≤ m) := by rw [List.length_take]; apply propext; omega
  refine f27 rfl ?_
  simp (disch := omega) only [go_sem, and_self, and_true, true_and, false_and, and_false, Nat.reduceAdd, Nat.reduceMul, Nat.reduceSub, Nat.reduceLeDiff, Nat.reduceLT, Nat.reduceGT, Nat.reduceEqDiff, Nat.reduceBEq, Int.reduceNeg, Int.reduceEq, Int.reduceLT, Int.reduceLE, Int.reduceBEq, Int.reduceToNat, Int.toNat_natCast, Int.natCast_zero, r27_T, r27, w64, h, xencs_len, e1]
end Go.Pe.T

namespace Go.Pe.T

/-! ### going through all parts -/

/-- what is told to go through a list -/
inductive Runs (f : Nat) (caps : List PV) : List Ent → List Xp → List Ent → Bool → Prop where
  | nil {hp} : Runs f caps hp [] hp true
  | stop {hp x l hp'} : F tab f (.d x.enc :: caps) hp = some (.ret (.d (.bool false)) hp') → Runs f caps hp (x :: l) hp' false
  | step {hp x l hp' hp'' b} : F tab f (.d x.enc :: caps) hp = some (.ret (.d (.bool true)) hp') → Runs f caps hp' l hp'' b → Runs f caps hp (x :: l) hp'' b

theorem runs_app {f : Nat} {caps : List PV} : ∀ {a b : List Xp} {hp hp'' : List Ent} {r : Bool}, Runs f caps hp (a ++ b) hp'' r →
    (Runs f caps hp a hp'' false ∧ r = false) ∨ ∃ hp', Runs f caps hp a hp' true ∧ Runs f caps hp' b hp'' r
  | [], b, hp, hp'', r, h => .inr ⟨hp, .nil, h⟩
  | x :: a, b, hp, hp'', r, h => by
    cases h with
    | stop h => exact .inl ⟨.stop h, rfl⟩
    | step h k =>
      rcases runs_app k with ⟨k1, k2⟩ | ⟨hp', k1, k2⟩
      · exact .inl ⟨.step h k1, k2⟩
      · exact .inr ⟨hp', .step h k1, k2⟩

def GoIs (f : Nat) (caps : List PV) (e : Xp) : Prop := ∀ hp hp' b, Runs f caps hp e.pre hp' b → F tab 56 [.d e.enc, .fn f caps] hp = some (.ret (.d (.bool b)) hp')

def GoLoop (f : Nat) (caps : List PV) (xs : List Xp) (i : Nat) : Prop := ∀ hp hp' b, Runs f caps hp (Xp.pres (xs.drop i)) hp' b →
    V (F tab) r56_B0 (r56_S0 (.fn f caps) (.d (.sl (Xp.encs xs))) (.d (iv xs.length)) (.d (iv i)) hp) =
      if b then some (.norm, r56_E0 hp') else some (.ret, r56_R (.d (.bool false)) hp')

theorem go_end (f : Nat) (caps : List PV) (xs : List Xp) (i : Nat) (hi : xs.length ≤ i) : GoLoop f caps xs i := by
  intro hp hp' b h
  rw [List.drop_of_length_le hi, Xp.pres] at h
  cases h
  have h1 : ((i : Int) < (xs.length : Int)) = False := eq_false (by omega)
  rw [r56_B0_eq]
  simp (disch := omega) only [go_sem, and_self, and_true, true_and, false_and, and_false, Nat.reduceAdd, Nat.reduceMul, Nat.reduceSub, Nat.reduceLeDiff, Nat.reduceLT, Nat.reduceGT, Nat.reduceEqDiff, Nat.reduceBEq, Int.reduceNeg, Int.reduceEq, Int.reduceLT, Int.reduceLE, Int.reduceBEq, Int.reduceToNat, Int.toNat_natCast, Int.natCast_zero, r56_C0, h1]

theorem go_step (f : Nat) (caps : List PV) (xs : List Xp) (hl : xs.length ≤ maxLen) (i : Nat) (hi : i < xs.length) (ih : GoIs f caps xs[i]) (hn : GoLoop f caps xs (i + 1)) : GoLoop f caps xs i := by
  intro hp hp'' b h
  have hmx : maxLen = 9223372036854775807 := by decide
  have h1 : ((i : Int) < (xs.length : Int)) = True := eq_true (by omega)
  have hi0 : (0 ≤ (i : Int)) = True := eq_true (by omega)
  have va : (Xp.encs xs)[i]? = some (xs[i].enc) := by rw [xencs_get]; simp [hi]
  rw [List.drop_eq_getElem_cons hi, Xp.pres] at h
  obtain ⟨o, t, p, k, c, s, ns, ys, ex⟩ := xenc_as xs[i]
  rw [r56_B0_eq]
  unfold GoIs at ih
  rw [ex] at ih va
  rcases runs_app h with ⟨k1, rfl⟩ | ⟨hp', k1, k2⟩
  · have ih := ih _ _ _ k1
    simp (disch := omega) only [go_sem, and_self, and_true, true_and, false_and, and_false, Nat.reduceAdd, Nat.reduceMul, Nat.reduceSub, Nat.reduceLeDiff, Nat.reduceLT, Nat.reduceGT, Nat.reduceEqDiff, Nat.reduceBEq, Int.reduceNeg, Int.reduceEq, Int.reduceLT, Int.reduceLE, Int.reduceBEq, Int.reduceToNat, Int.toNat_natCast, Int.natCast_zero, r56_C0, h1, hi0, va, xencs_len, w64, ih]
  · have ih := ih _ _ _ k1
    have hn := hn _ _ _ k2
    rw [Int.natCast_add, Int.natCast_one] at hn
    simp (disch := omega) only [go_sem, and_self, and_true, true_and, false_and, and_false, Nat.reduceAdd, Nat.reduceMul, Nat.reduceSub, Nat.reduceLeDiff, Nat.reduceLT, Nat.reduceGT, Nat.reduceEqDiff, Nat.reduceBEq, Int.reduceNeg, Int.reduceEq, Int.reduceLT, Int.reduceLE, Int.reduceBEq, Int.reduceToNat, Int.toNat_natCast, Int.natCast_zero, r56_C0, h1, hi0, va, xencs_len, w64, ih]
    exact hn

theorem go_loop (f : Nat) (caps : List PV) (xs : List Xp) (hl : xs.length ≤ maxLen) (ih : ∀ x ∈ xs, GoIs f caps x) : ∀ (j i : Nat), i + j = xs.length → GoLoop f caps xs i
  | 0, i, hi => go_end f caps xs i (by omega)
  | j + 1, i, hi => go_step f caps xs hl i (by omega) (ih _ (List.getElem_mem _)) (go_loop f caps xs hl ih j (i + 1) (by omega))

theorem go_fn (f : Nat) (caps : List PV) (o : Int) (t : ByteArray) (p k c s : Int) (ns : List ByteArray) (xs : List Xp) (hL : GoLoop f caps xs 0) : GoIs f caps (.mk o t p k c s ns xs) := by
  intro hp hp'' b h
  unfold GoLoop at hL
  rw [List.drop_zero] at hL
  refine f56 ?_
  simp only [Xp.pre] at h
  cases h with
  | stop h =>
    simp only [Xp.enc] at h
    simp (disch := omega) only [go_sem, and_self, and_true, true_and, false_and, and_false, Nat.reduceAdd, Nat.reduceMul, Nat.reduceSub, Nat.reduceLeDiff, Nat.reduceLT, Nat.reduceGT, Nat.reduceEqDiff, Nat.reduceBEq, Int.reduceNeg, Int.reduceEq, Int.reduceLT, Int.reduceLE, Int.reduceBEq, Int.reduceToNat, Int.toNat_natCast, Int.natCast_zero, r56_T, r56, Xp.enc, h]
  | step h hr =>
    have hL := hL _ _ _ hr
    simp only [Xp.enc] at h
    simp (disch := omega) only [go_sem, and_self, and_true, true_and, false_and, and_false, Nat.reduceAdd, Nat.reduceMul, Nat.reduceSub, Nat.reduceLeDiff, Nat.reduceLT, Nat.reduceGT, Nat.reduceEqDiff, Nat.reduceBEq, Int.reduceNeg, Int.reduceEq, Int.reduceLT, Int.reduceLE, Int.reduceBEq, Int.reduceToNat, Int.toNat_natCast, Int.natCast_zero, r56_T, r56, Xp.enc, h, xencs_len]
    rw [r56_B0_n]
    erw [hL]
    cases b <;> simp (disch := omega) only [go_sem, and_self, and_true, true_and, false_and, and_false, Nat.reduceAdd, Nat.reduceMul, Nat.reduceSub, Nat.reduceLeDiff, Nat.reduceLT, Nat.reduceGT, Nat.reduceEqDiff, Nat.reduceBEq, Int.reduceNeg, Int.reduceEq, Int.reduceLT, Int.reduceLE, Int.reduceBEq, Int.reduceToNat, Int.toNat_natCast, Int.natCast_zero]

theorem go_ok (f : Nat) (caps : List PV) : ∀ (e : Xp), e.ok → GoIs f caps e
  | .mk o t p k c s ns xs, h => by
    simp only [Xp.ok] at h
    exact go_fn f caps o t p k c s ns xs (go_loop f caps xs h.2.2.2.2.2.2.2.2.1 (fun x hx => go_ok f caps x (xoks_mem h.2.2.2.2.2.2.2.2.2 hx)) xs.length 0 (by omega))
end Go.Pe.T

namespace Go.Pe.T

/-! ### are two the same -/

def namesE : List ByteArray → List ByteArray → Bool
  | x :: a, y :: b => (x.toList == y.toList) && namesE a b
  | _, _ => true

mutual
def sameV : Xp → Xp → Bool
  | .mk o t p k c s ns xs, .mk o' t' p' k' c' s' ns' xs' => o == o' && (t.toList == t'.toList && (p == p' && (k == k' && ((c == c' && s == s') && (ns.length == ns'.length && (xs.length == xs'.length && (namesE ns ns' && sameVs xs xs')))))))
def sameVs : List Xp → List Xp → Bool
  | x :: a, y :: b => sameV x y && sameVs a b
  | _, _ => true
end

def SameIs (x y : Xp) : Prop := ∀ hp : List Ent, F tab 18 [.d x.enc, .d y.enc] hp = some (.ret (.d (.bool (sameV x y))) hp)

def SmNames (o p k c s o' p' k' c' s' : Int) (t t' : ByteArray) (ns ns' : List ByteArray) (xs xs' : List Xp) (i : Nat) : Prop :=
    V (F tab) r18_B0 (r18_S0 (.ibox [.d (iv o), .d (.str t), .d (iv p), .d (iv k), .d (iv c), .d (iv s), .d (.sl (ns.map .str)), .d (.sl (Xp.encs xs))]) (.ibox [.d (iv o'), .d (.str t'), .d (iv p'), .d (iv k'), .d (iv c'), .d (iv s'), .d (.sl (ns'.map .str)), .d (.sl (Xp.encs xs'))]) (.d (iv i)) []) =
      if namesE (ns.drop i) (ns'.drop i) then some (.norm, r18_E0 (.ibox [.d (iv o), .d (.str t), .d (iv p), .d (iv k), .d (iv c), .d (iv s), .d (.sl (ns.map .str)), .d (.sl (Xp.encs xs))]) (.ibox [.d (iv o'), .d (.str t'), .d (iv p'), .d (iv k'), .d (iv c'), .d (iv s'), .d (.sl (ns'.map .str)), .d (.sl (Xp.encs xs'))]) []) else some (.ret, r18_R (.d (.bool false)) [])

theorem sm_names_end (o p k c s o' p' k' c' s' : Int) (t t' : ByteArray) (ns ns' : List ByteArray) (xs xs' : List Xp) (i : Nat) (hi : ns.length ≤ i) : SmNames o p k c s o' p' k' c' s' t t' ns ns' xs xs' i := by
  have h1 : ((i : Int) < (ns.length : Int)) = False := eq_false (by omega)
  unfold SmNames
  rw [r18_B0_eq, List.drop_of_length_le hi]
  have e : namesE [] (ns'.drop i) = true := by simp [namesE]
  rw [e]
  simp (disch := omega) only [go_sem, and_self, and_true, true_and, false_and, and_false, Nat.reduceAdd, Nat.reduceMul, Nat.reduceSub, Nat.reduceLeDiff, Nat.reduceLT, Nat.reduceGT, Nat.reduceEqDiff, Nat.reduceBEq, Int.reduceNeg, Int.reduceEq, Int.reduceLT, Int.reduceLE, Int.reduceBEq, Int.reduceToNat, Int.toNat_natCast, Int.natCast_zero, r18_C0, h1, List.length_map]

theorem sm_names_step (o p k c s o' p' k' c' s' : Int) (t t' : ByteArray) (ns ns' : List ByteArray) (xs xs' : List Xp) (hl : ns.length ≤ maxLen) (hn : ns.length = ns'.length) (i : Nat) (hi : i < ns.length) (ih : SmNames o p k c s o' p' k' c' s' t t' ns ns' xs xs' (i + 1)) : SmNames o p k c s o' p' k' c' s' t t' ns ns' xs xs' i := by
  have hmx : maxLen = 9223372036854775807 := by decide
  have hi' : i < ns'.length := by omega
  have h1 : ((i : Int) < (ns.length : Int)) = True := eq_true (by omega)
  have hi0 : (0 ≤ (i : Int)) = True := eq_true (by omega)
  have va : (ns.map D.str)[i]? = some (.str ns[i]) := by simp [hi]
  have vb : (ns'.map D.str)[i]? = some (.str ns'[i]) := by simp [hi']
  unfold SmNames at ih ⊢
  rw [r18_B0_eq, List.drop_eq_getElem_cons hi, List.drop_eq_getElem_cons hi']
  simp only [namesE]
  rcases Bool.eq_false_or_eq_true (ns[i].toList == ns'[i].toList) with g | g
  · rw [Int.natCast_add, Int.natCast_one] at ih
    simp (disch := omega) only [go_sem, and_self, and_true, true_and, false_and, and_false, Nat.reduceAdd, Nat.reduceMul, Nat.reduceSub, Nat.reduceLeDiff, Nat.reduceLT, Nat.reduceGT, Nat.reduceEqDiff, Nat.reduceBEq, Int.reduceNeg, Int.reduceEq, Int.reduceLT, Int.reduceLE, Int.reduceBEq, Int.reduceToNat, Int.toNat_natCast, Int.natCast_zero, r18_C0, h1, List.length_map, hi0, va, vb, g, strD_neq, w64, Bool.true_and]
    exact ih
  · simp (disch := omega) only [go_sem, and_self, and_true, true_and, false_and, and_false, Nat.reduceAdd, Nat.reduceMul, Nat.reduceSub, Nat.reduceLeDiff, Nat.reduceLT, Nat.reduceGT, Nat.reduceEqDiff, Nat.reduceBEq, Int.reduceNeg, Int.reduceEq, Int.reduceLT, Int.reduceLE, Int.reduceBEq, Int.reduceToNat, Int.toNat_natCast, Int.natCast_zero, r18_C0, h1, List.length_map, hi0, va, vb, g, strD_neq, w64, Bool.false_and]

theorem sm_names (o p k c s o' p' k' c' s' : Int) (t t' : ByteArray) (ns ns' : List ByteArray) (xs xs' : List Xp) (hl : ns.length ≤ maxLen) (hn : ns.length = ns'.length) : ∀ (j i : Nat), i + j = ns.length → SmNames o p k c s o' p' k' c' s' t t' ns ns' xs xs' i
  | 0, i, hi => sm_names_end o p k c s o' p' k' c' s' t t' ns ns' xs xs' i (by omega)
  | j + 1, i, hi => sm_names_step o p k c s o' p' k' c' s' t t' ns ns' xs xs' hl hn i (by omega) (sm_names o p k c s o' p' k' c' s' t t' ns ns' xs xs' hl hn j (i + 1) (by omega))

def SmSubs (o p k c s o' p' k' c' s' : Int) (t t' : ByteArray) (ns ns' : List ByteArray) (xs xs' : List Xp) (i : Nat) : Prop :=
    V (F tab) r18_B1 (r18_S1 (.ibox [.d (iv o), .d (.str t), .d (iv p), .d (iv k), .d (iv c), .d (iv s), .d (.sl (ns.map .str)), .d (.sl (Xp.encs xs))]) (.ibox [.d (iv o'), .d (.str t'), .d (iv p'), .d (iv k'), .d (iv c'), .d (iv s'), .d (.sl (ns'.map .str)), .d (.sl (Xp.encs xs'))]) (.d (iv i)) []) =
      if sameVs (xs.drop i) (xs'.drop i) then some (.norm, r18_E1 []) else some (.ret, r18_R (.d (.bool false)) [])

theorem sm_subs_end (o p k c s o' p' k' c' s' : Int) (t t' : ByteArray) (ns ns' : List ByteArray) (xs xs' : List Xp) (i : Nat) (hi : xs.length ≤ i) : SmSubs o p k c s o' p' k' c' s' t t' ns ns' xs xs' i := by
  have h1 : ((i : Int) < (xs.length : Int)) = False := eq_false (by omega)
  unfold SmSubs
  rw [r18_B1_eq, List.drop_of_length_le hi]
  have e : sameVs [] (xs'.drop i) = true := by simp [sameVs]
  rw [e]
  simp (disch := omega) only [go_sem, and_self, and_true, true_and, false_and, and_false, Nat.reduceAdd, Nat.reduceMul, Nat.reduceSub, Nat.reduceLeDiff, Nat.reduceLT, Nat.reduceGT, Nat.reduceEqDiff, Nat.reduceBEq, Int.reduceNeg, Int.reduceEq, Int.reduceLT, Int.reduceLE, Int.reduceBEq, Int.reduceToNat, Int.toNat_natCast, Int.natCast_zero, r18_C1, h1, xencs_len]

theorem sm_subs_step (o p k c s o' p' k' c' s' : Int) (t t' : ByteArray) (ns ns' : List ByteArray) (xs xs' : List Xp) (hl : xs.length ≤ maxLen) (hn : xs.length = xs'.length) (i : Nat) (hi : i < xs.length) (hS : ∀ (hi' : i < xs'.length), SameIs xs[i] xs'[i]) (ih : SmSubs o p k c s o' p' k' c' s' t t' ns ns' xs xs' (i + 1)) : SmSubs o p k c s o' p' k' c' s' t t' ns ns' xs xs' i := by
  have hmx : maxLen = 9223372036854775807 := by decide
  have hi' : i < xs'.length := by omega
  have hS := hS hi'
  have h1 : ((i : Int) < (xs.length : Int)) = True := eq_true (by omega)
  have hi0 : (0 ≤ (i : Int)) = True := eq_true (by omega)
  have va : (Xp.encs xs)[i]? = some (xs[i].enc) := by rw [xencs_get]; simp [hi]
  have vb : (Xp.encs xs')[i]? = some (xs'[i].enc) := by rw [xencs_get]; simp [hi']
  unfold SmSubs at ih ⊢
  unfold SameIs at hS
  rw [r18_B1_eq, List.drop_eq_getElem_cons hi, List.drop_eq_getElem_cons hi']
  simp only [sameVs]
  rcases Bool.eq_false_or_eq_true (sameV xs[i] xs'[i]) with g | g
  · rw [Int.natCast_add, Int.natCast_one] at ih
    simp (disch := omega) only [go_sem, and_self, and_true, true_and, false_and, and_false, Nat.reduceAdd, Nat.reduceMul, Nat.reduceSub, Nat.reduceLeDiff, Nat.reduceLT, Nat.reduceGT, Nat.reduceEqDiff, Nat.reduceBEq, Int.reduceNeg, Int.reduceEq, Int.reduceLT, Int.reduceLE, Int.reduceBEq, Int.reduceToNat, Int.toNat_natCast, Int.natCast_zero, r18_C1, h1, xencs_len, hi0, va, vb, xenc_w, xenc_a, hS, g, w64, Bool.true_and]
    exact ih
  · simp (disch := omega) only [go_sem, and_self, and_true, true_and, false_and, and_false, Nat.reduceAdd, Nat.reduceMul, Nat.reduceSub, Nat.reduceLeDiff, Nat.reduceLT, Nat.reduceGT, Nat.reduceEqDiff, Nat.reduceBEq, Int.reduceNeg, Int.reduceEq, Int.reduceLT, Int.reduceLE, Int.reduceBEq, Int.reduceToNat, Int.toNat_natCast, Int.natCast_zero, r18_C1, h1, xencs_len, hi0, va, vb, xenc_w, xenc_a, hS, g, w64, Bool.false_and]

theorem sm_subs (o p k c s o' p' k' c' s' : Int) (t t' : ByteArray) (ns ns' : List ByteArray) (xs xs' : List Xp) (hl : xs.length ≤ maxLen) (hn : xs.length = xs'.length) (hS : ∀ x ∈ xs, ∀ y ∈ xs', SameIs x y) : ∀ (j i : Nat), i + j = xs.length → SmSubs o p k c s o' p' k' c' s' t t' ns ns' xs xs' i
  | 0, i, hi => sm_subs_end o p k c s o' p' k' c' s' t t' ns ns' xs xs' i (by omega)
  | j + 1, i, hi => sm_subs_step o p k c s o' p' k' c' s' t t' ns ns' xs xs' hl hn i (by omega) (fun hi' => hS _ (List.getElem_mem _) _ (List.getElem_mem _)) (sm_subs o p k c s o' p' k' c' s' t t' ns ns' xs xs' hl hn hS j (i + 1) (by omega))

theorem sm_no0 (o p k c s o' p' k' c' s' : Int) (t t' : ByteArray) (ns ns' : List ByteArray) (xs xs' : List Xp)  (ho : (o == o') = false) : SameIs (.mk o t p k c s ns xs) (.mk o' t' p' k' c' s' ns' xs') := by
  intro heap
  have no : (o != o') = true := by simp only [bne, ho, Bool.not_false]
  refine f18 rfl ?_
  simp (disch := omega) only [go_sem, and_self, and_true, true_and, false_and, and_false, Nat.reduceAdd, Nat.reduceMul, Nat.reduceSub, Nat.reduceLeDiff, Nat.reduceLT, Nat.reduceGT, Nat.reduceEqDiff, Nat.reduceBEq, Int.reduceNeg, Int.reduceEq, Int.reduceLT, Int.reduceLE, Int.reduceBEq, Int.reduceToNat, Int.toNat_natCast, Int.natCast_zero, r18_T, r18, Xp.enc, sameV, eqD_num, strD_neq, List.length_map, xencs_len, ho, Bool.false_and, Bool.true_and, no]

theorem sm_no1 (o p k c s o' p' k' c' s' : Int) (t t' : ByteArray) (ns ns' : List ByteArray) (xs xs' : List Xp)  (ho : (o == o') = true) (ht : (t.toList == t'.toList) = false) : SameIs (.mk o t p k c s ns xs) (.mk o' t' p' k' c' s' ns' xs') := by
  intro heap
  have no : (o != o') = false := by simp only [bne, ho, Bool.not_true]
  refine f18 rfl ?_
  simp (disch := omega) only [go_sem, and_self, and_true, true_and, false_and, and_false, Nat.reduceAdd, Nat.reduceMul, Nat.reduceSub, Nat.reduceLeDiff, Nat.reduceLT, Nat.reduceGT, Nat.reduceEqDiff, Nat.reduceBEq, Int.reduceNeg, Int.reduceEq, Int.reduceLT, Int.reduceLE, Int.reduceBEq, Int.reduceToNat, Int.toNat_natCast, Int.natCast_zero, r18_T, r18, Xp.enc, sameV, eqD_num, strD_neq, List.length_map, xencs_len, ho, no, ht, Bool.false_and, Bool.true_and]

theorem sm_no2 (o p k c s o' p' k' c' s' : Int) (t t' : ByteArray) (ns ns' : List ByteArray) (xs xs' : List Xp)  (ho : (o == o') = true) (ht : (t.toList == t'.toList) = true) (hp : (p == p') = false) : SameIs (.mk o t p k c s ns xs) (.mk o' t' p' k' c' s' ns' xs') := by
  intro heap
  have no : (o != o') = false := by simp only [bne, ho, Bool.not_true]
  have np : (p != p') = true := by simp only [bne, hp, Bool.not_false]
  refine f18 rfl ?_
  simp (disch := omega) only [go_sem, and_self, and_true, true_and, false_and, and_false, Nat.reduceAdd, Nat.reduceMul, Nat.reduceSub, Nat.reduceLeDiff, Nat.reduceLT, Nat.reduceGT, Nat.reduceEqDiff, Nat.reduceBEq, Int.reduceNeg, Int.reduceEq, Int.reduceLT, Int.reduceLE, Int.reduceBEq, Int.reduceToNat, Int.toNat_natCast, Int.natCast_zero, r18_T, r18, Xp.enc, sameV, eqD_num, strD_neq, List.length_map, xencs_len, ho, no, ht, hp, Bool.false_and, Bool.true_and, np]

theorem sm_no3 (o p k c s o' p' k' c' s' : Int) (t t' : ByteArray) (ns ns' : List ByteArray) (xs xs' : List Xp)  (ho : (o == o') = true) (ht : (t.toList == t'.toList) = true) (hp : (p == p') = true) (hk : (k == k') = false) : SameIs (.mk o t p k c s ns xs) (.mk o' t' p' k' c' s' ns' xs') := by
  intro heap
  have no : (o != o') = false := by simp only [bne, ho, Bool.not_true]
  have np : (p != p') = false := by simp only [bne, hp, Bool.not_true]
  have nk : (k != k') = true := by simp only [bne, hk, Bool.not_false]
  refine f18 rfl ?_
  simp (disch := omega) only [go_sem, and_self, and_true, true_and, false_and, and_false, Nat.reduceAdd, Nat.reduceMul, Nat.reduceSub, Nat.reduceLeDiff, Nat.reduceLT, Nat.reduceGT, Nat.reduceEqDiff, Nat.reduceBEq, Int.reduceNeg, Int.reduceEq, Int.reduceLT, Int.reduceLE, Int.reduceBEq, Int.reduceToNat, Int.toNat_natCast, Int.natCast_zero, r18_T, r18, Xp.enc, sameV, eqD_num, strD_neq, List.length_map, xencs_len, ho, no, ht, hp, np, hk, Bool.false_and, Bool.true_and, nk]

theorem sm_no4 (o p k c s o' p' k' c' s' : Int) (t t' : ByteArray) (ns ns' : List ByteArray) (xs xs' : List Xp)  (ho : (o == o') = true) (ht : (t.toList == t'.toList) = true) (hp : (p == p') = true) (hk : (k == k') = true) (hn : ((c == c' && s == s')) = false) : SameIs (.mk o t p k c s ns xs) (.mk o' t' p' k' c' s' ns' xs') := by
  intro heap
  have no : (o != o') = false := by simp only [bne, ho, Bool.not_true]
  have np : (p != p') = false := by simp only [bne, hp, Bool.not_true]
  have nk : (k != k') = false := by simp only [bne, hk, Bool.not_true]
  refine f18 rfl ?_
  simp (disch := omega) only [go_sem, and_self, and_true, true_and, false_and, and_false, Nat.reduceAdd, Nat.reduceMul, Nat.reduceSub, Nat.reduceLeDiff, Nat.reduceLT, Nat.reduceGT, Nat.reduceEqDiff, Nat.reduceBEq, Int.reduceNeg, Int.reduceEq, Int.reduceLT, Int.reduceLE, Int.reduceBEq, Int.reduceToNat, Int.toNat_natCast, Int.natCast_zero, r18_T, r18, Xp.enc, sameV, eqD_num, strD_neq, List.length_map, xencs_len, ho, no, ht, hp, np, hk, nk, hn, Bool.false_and, Bool.true_and]

theorem sm_no5 (o p k c s o' p' k' c' s' : Int) (t t' : ByteArray) (ns ns' : List ByteArray) (xs xs' : List Xp)  (ho : (o == o') = true) (ht : (t.toList == t'.toList) = true) (hp : (p == p') = true) (hk : (k == k') = true) (hn : ((c == c' && s == s')) = true) (ha : (ns.length == ns'.length) = false) : SameIs (.mk o t p k c s ns xs) (.mk o' t' p' k' c' s' ns' xs') := by
  intro heap
  have no : (o != o') = false := by simp only [bne, ho, Bool.not_true]
  have np : (p != p') = false := by simp only [bne, hp, Bool.not_true]
  have nk : (k != k') = false := by simp only [bne, hk, Bool.not_true]
  have na : ((ns.length : Int) != (ns'.length : Int)) = true := by simp only [bne_iff_ne, ne_eq, beq_eq_false_iff_ne] at ha ⊢; omega
  refine f18 rfl ?_
  simp (disch := omega) only [go_sem, and_self, and_true, true_and, false_and, and_false, Nat.reduceAdd, Nat.reduceMul, Nat.reduceSub, Nat.reduceLeDiff, Nat.reduceLT, Nat.reduceGT, Nat.reduceEqDiff, Nat.reduceBEq, Int.reduceNeg, Int.reduceEq, Int.reduceLT, Int.reduceLE, Int.reduceBEq, Int.reduceToNat, Int.toNat_natCast, Int.natCast_zero, r18_T, r18, Xp.enc, sameV, eqD_num, strD_neq, List.length_map, xencs_len, ho, no, ht, hp, np, hk, nk, hn, ha, Bool.false_and, Bool.true_and, na]

theorem sm_no6 (o p k c s o' p' k' c' s' : Int) (t t' : ByteArray) (ns ns' : List ByteArray) (xs xs' : List Xp)  (ho : (o == o') = true) (ht : (t.toList == t'.toList) = true) (hp : (p == p') = true) (hk : (k == k') = true) (hn : ((c == c' && s == s')) = true) (ha : (ns.length == ns'.length) = true) (hb : (xs.length == xs'.length) = false) : SameIs (.mk o t p k c s ns xs) (.mk o' t' p' k' c' s' ns' xs') := by
  intro heap
  have no : (o != o') = false := by simp only [bne, ho, Bool.not_true]
  have np : (p != p') = false := by simp only [bne, hp, Bool.not_true]
  have nk : (k != k') = false := by simp only [bne, hk, Bool.not_true]
  have na : ((ns.length : Int) != (ns'.length : Int)) = false := by simp only [beq_iff_eq] at ha; simp only [bne_eq_false_iff_eq]; omega
  have nb : ((xs.length : Int) != (xs'.length : Int)) = true := by simp only [bne_iff_ne, ne_eq, beq_eq_false_iff_ne] at hb ⊢; omega
  refine f18 rfl ?_
  simp (disch := omega) only [go_sem, and_self, and_true, true_and, false_and, and_false, Nat.reduceAdd, Nat.reduceMul, Nat.reduceSub, Nat.reduceLeDiff, Nat.reduceLT, Nat.reduceGT, Nat.reduceEqDiff, Nat.reduceBEq, Int.reduceNeg, Int.reduceEq, Int.reduceLT, Int.reduceLE, Int.reduceBEq, Int.reduceToNat, Int.toNat_natCast, Int.natCast_zero, r18_T, r18, Xp.enc, sameV, eqD_num, strD_neq, List.length_map, xencs_len, ho, no, ht, hp, np, hk, nk, hn, ha, na, hb, Bool.false_and, Bool.true_and, nb]

theorem sm_yes (o p k c s o' p' k' c' s' : Int) (t t' : ByteArray) (ns ns' : List ByteArray) (xs xs' : List Xp) (ho : (o == o') = true) (ht : (t.toList == t'.toList) = true) (hp : (p == p') = true) (hk : (k == k') = true) (hn : ((c == c' && s == s')) = true) (ha : (ns.length == ns'.length) = true) (hb : (xs.length == xs'.length) = true) (hl : ns.length ≤ maxLen) (hm : xs.length ≤ maxLen) (hS : ∀ x ∈ xs, ∀ y ∈ xs', SameIs x y) : SameIs (.mk o t p k c s ns xs) (.mk o' t' p' k' c' s' ns' xs') := by
  intro heap
  have no : (o != o') = false := by simp only [bne, ho, Bool.not_true]
  have np : (p != p') = false := by simp only [bne, hp, Bool.not_true]
  have nk : (k != k') = false := by simp only [bne, hk, Bool.not_true]
  have na : ((ns.length : Int) != (ns'.length : Int)) = false := by simp only [beq_iff_eq] at ha; simp only [bne_eq_false_iff_eq]; omega
  have nb : ((xs.length : Int) != (xs'.length : Int)) = false := by simp only [beq_iff_eq] at hb; simp only [bne_eq_false_iff_eq]; omega
  have hL0 := sm_names o p k c s o' p' k' c' s' t t' ns ns' xs xs' hl (by simpa using ha) ns.length 0 (by omega)
  have hL1 := sm_subs o p k c s o' p' k' c' s' t t' ns ns' xs xs' hm (by simpa using hb) hS xs.length 0 (by omega)
  unfold SmNames at hL0
  unfold SmSubs at hL1
  rw [List.drop_zero, List.drop_zero] at hL0 hL1
  refine f18 rfl ?_
  simp (disch := omega) only [go_sem, and_self, and_true, true_and, false_and, and_false, Nat.reduceAdd, Nat.reduceMul, Nat.reduceSub, Nat.reduceLeDiff, Nat.reduceLT, Nat.reduceGT, Nat.reduceEqDiff, Nat.reduceBEq, Int.reduceNeg, Int.reduceEq, Int.reduceLT, Int.reduceLE, Int.reduceBEq, Int.reduceToNat, Int.toNat_natCast, Int.natCast_zero, r18_T, r18, Xp.enc, sameV, eqD_num, strD_neq, List.length_map, xencs_len, ho, no, ht, hp, np, hk, nk, hn, ha, na, hb, nb, Bool.true_and]
  rw [r18_B0_n]
  erw [hL0]
  rcases Bool.eq_false_or_eq_true (namesE ns ns') with g | g
  · rw [g]
    simp only [if_true, go_sem, and_self, and_true, true_and, false_and, and_false, Nat.reduceAdd, Nat.reduceMul, Nat.reduceSub, Nat.reduceLeDiff, Nat.reduceLT, Nat.reduceGT, Nat.reduceEqDiff, Nat.reduceBEq, Int.reduceNeg, Int.reduceEq, Int.reduceLT, Int.reduceLE, Int.reduceBEq, Int.reduceToNat, Int.toNat_natCast, Int.natCast_zero, Bool.true_and]
    rw [r18_B1_n]
    erw [hL1]
    rcases Bool.eq_false_or_eq_true (sameVs xs xs') with g2 | g2 <;> rw [g2] <;> simp only [go_sem, and_self, and_true, true_and, false_and, and_false, Nat.reduceAdd, Nat.reduceMul, Nat.reduceSub, Nat.reduceLeDiff, Nat.reduceLT, Nat.reduceGT, Nat.reduceEqDiff, Nat.reduceBEq, Int.reduceNeg, Int.reduceEq, Int.reduceLT, Int.reduceLE, Int.reduceBEq, Int.reduceToNat, Int.toNat_natCast, Int.natCast_zero]
  · rw [g]
    simp only [go_sem, and_self, and_true, true_and, false_and, and_false, Nat.reduceAdd, Nat.reduceMul, Nat.reduceSub, Nat.reduceLeDiff, Nat.reduceLT, Nat.reduceGT, Nat.reduceEqDiff, Nat.reduceBEq, Int.reduceNeg, Int.reduceEq, Int.reduceLT, Int.reduceLE, Int.reduceBEq, Int.reduceToNat, Int.toNat_natCast, Int.natCast_zero, Bool.false_and]

theorem same_ok : ∀ (x y : Xp), x.ok → y.ok → SameIs x y
  | .mk o t p k c s ns xs, .mk o' t' p' k' c' s' ns' xs', hx, hy => by
    simp only [Xp.ok] at hx hy
    have hS : ∀ x ∈ xs, ∀ y ∈ xs', SameIs x y := fun x hx' y hy' => same_ok x y (xoks_mem hx.2.2.2.2.2.2.2.2.2 hx') (xoks_mem hy.2.2.2.2.2.2.2.2.2 hy')
    rcases Bool.eq_false_or_eq_true (o == o') with ho | ho
    rotate_left
    · exact sm_no0 o p k c s o' p' k' c' s' t t' ns ns' xs xs' ho
    rcases Bool.eq_false_or_eq_true (t.toList == t'.toList) with ht | ht
    rotate_left
    · exact sm_no1 o p k c s o' p' k' c' s' t t' ns ns' xs xs' ho ht
    rcases Bool.eq_false_or_eq_true (p == p') with hp | hp
    rotate_left
    · exact sm_no2 o p k c s o' p' k' c' s' t t' ns ns' xs xs' ho ht hp
    rcases Bool.eq_false_or_eq_true (k == k') with hk | hk
    rotate_left
    · exact sm_no3 o p k c s o' p' k' c' s' t t' ns ns' xs xs' ho ht hp hk
    rcases Bool.eq_false_or_eq_true ((c == c' && s == s')) with hn | hn
    rotate_left
    · exact sm_no4 o p k c s o' p' k' c' s' t t' ns ns' xs xs' ho ht hp hk hn
    rcases Bool.eq_false_or_eq_true (ns.length == ns'.length) with ha | ha
    rotate_left
    · exact sm_no5 o p k c s o' p' k' c' s' t t' ns ns' xs xs' ho ht hp hk hn ha
    rcases Bool.eq_false_or_eq_true (xs.length == xs'.length) with hb | hb
    rotate_left
    · exact sm_no6 o p k c s o' p' k' c' s' t t' ns ns' xs xs' ho ht hp hk hn ha hb
    exact sm_yes o p k c s o' p' k' c' s' t t' ns ns' xs xs' ho ht hp hk hn ha hb hx.2.2.2.2.2.2.1 hx.2.2.2.2.2.2.2.2.1 hS
end Go.Pe.T

namespace Go.Pe.T

/-! ### is a text among some -/
def hasB (l : List ByteArray) (s : ByteArray) : Bool := l.any fun x => x.toList == s.toList

theorem hasB_drop {l : List ByteArray} {s : ByteArray} {i : Nat} (hi : i < l.length) : hasB (l.drop i) s = ((l[i].toList == s.toList) || hasB (l.drop (i + 1)) s) := by
  rw [List.drop_eq_getElem_cons hi]; rfl

def HasLoop (l : List ByteArray) (s : ByteArray) (i : Nat) : Prop :=
  V (F tab) r69_B0 (r69_S0 (.d (.sl (l.map .str))) (.d (.str s)) (.d (iv i)) []) = if hasB (l.drop i) s then some (.ret, r69_R (.d (.bool true)) []) else some (.norm, r69_E0 [])

theorem has_end (l : List ByteArray) (s : ByteArray) (i : Nat) (hi : l.length ≤ i) : HasLoop l s i := by
  have h1 : ((i : Int) < (l.length : Int)) = False := eq_false (by omega)
  unfold HasLoop
  rw [r69_B0_eq, List.drop_of_length_le hi]
  simp (disch := omega) only [go_sem, and_self, and_true, true_and, false_and, and_false, Nat.reduceAdd, Nat.reduceMul, Nat.reduceSub, Nat.reduceLeDiff, Nat.reduceLT, Nat.reduceGT, Nat.reduceEqDiff, Nat.reduceBEq, Int.reduceNeg, Int.reduceEq, Int.reduceLT, Int.reduceLE, Int.reduceBEq, Int.reduceToNat, Int.toNat_natCast, Int.natCast_zero, r69_C0, h1, List.length_map, hasB, List.any_nil]
theorem has_step (l : List ByteArray) (s : ByteArray) (i : Nat) (hi : i < l.length) (hl : l.length ≤ maxLen) (ih : HasLoop l s (i + 1)) : HasLoop l s i := by
  have hmx : maxLen = 9223372036854775807 := by decide
  have h1 : ((i : Int) < (l.length : Int)) = True := eq_true (by omega)
  have hi0 : (0 ≤ (i : Int)) = True := eq_true (by omega)
  have va : (l.map D.str)[i]? = some (.str l[i]) := by simp [hi]
  unfold HasLoop at ih ⊢
  rw [Int.natCast_add, Int.natCast_one] at ih
  rw [r69_B0_eq, hasB_drop hi]
  rcases Bool.eq_false_or_eq_true (l[i].toList == s.toList) with g | g
  · simp (disch := omega) only [go_sem, and_self, and_true, true_and, false_and, and_false, Nat.reduceAdd, Nat.reduceMul, Nat.reduceSub, Nat.reduceLeDiff, Nat.reduceLT, Nat.reduceGT, Nat.reduceEqDiff, Nat.reduceBEq, Int.reduceNeg, Int.reduceEq, Int.reduceLT, Int.reduceLE, Int.reduceBEq, Int.reduceToNat, Int.toNat_natCast, Int.natCast_zero, r69_C0, h1, hi0, va, g, strD_eql, List.length_map, w64, Bool.true_or]
  · simp (disch := omega) only [go_sem, and_self, and_true, true_and, false_and, and_false, Nat.reduceAdd, Nat.reduceMul, Nat.reduceSub, Nat.reduceLeDiff, Nat.reduceLT, Nat.reduceGT, Nat.reduceEqDiff, Nat.reduceBEq, Int.reduceNeg, Int.reduceEq, Int.reduceLT, Int.reduceLE, Int.reduceBEq, Int.reduceToNat, Int.toNat_natCast, Int.natCast_zero, r69_C0, h1, hi0, va, g, strD_eql, List.length_map, w64, Bool.false_or]
    exact ih
theorem has_loop (l : List ByteArray) (s : ByteArray) (hl : l.length ≤ maxLen) : ∀ (j i : Nat), i + j = l.length → HasLoop l s i
  | 0, i, hi => has_end l s i (by omega)
  | j + 1, i, hi => has_step l s i (by omega) hl (has_loop l s hl j (i + 1) (by omega))

theorem has_ok (l : List ByteArray) (s : ByteArray) (hl : l.length ≤ maxLen) (hp : List Ent) : F tab 69 [.d (.sl (l.map .str)), .d (.str s)] hp = some (.ret (.d (.bool (hasB l s))) hp) := by
  have hL := has_loop l s hl l.length 0 (by omega)
  unfold HasLoop at hL
  rw [List.drop_zero] at hL
  refine f69 rfl ?_
  simp (disch := omega) only [go_sem, and_self, and_true, true_and, false_and, and_false, Nat.reduceAdd, Nat.reduceMul, Nat.reduceSub, Nat.reduceLeDiff, Nat.reduceLT, Nat.reduceGT, Nat.reduceEqDiff, Nat.reduceBEq, Int.reduceNeg, Int.reduceEq, Int.reduceLT, Int.reduceLE, Int.reduceBEq, Int.reduceToNat, Int.toNat_natCast, Int.natCast_zero, r69_T, r69]
  rw [r69_B0_n]
  erw [hL]
  rcases Bool.eq_false_or_eq_true (hasB l s) with g | g <;> rw [g] <;> simp only [go_sem, and_self, and_true, true_and, false_and, and_false, Nat.reduceAdd, Nat.reduceMul, Nat.reduceSub, Nat.reduceLeDiff, Nat.reduceLT, Nat.reduceGT, Nat.reduceEqDiff, Nat.reduceBEq, Int.reduceNeg, Int.reduceEq, Int.reduceLT, Int.reduceLE, Int.reduceBEq, Int.reduceToNat, Int.toNat_natCast, Int.natCast_zero]

def IdxLoop (l : List ByteArray) (s : ByteArray) (i : Nat) : Prop :=
  ∃ k : Nat, V (F tab) r120_B0 (r120_S0 (.d (.sl (l.map .str))) (.d (.str s)) (.d (iv l.length)) (.d (iv i)) []) = if hasB (l.drop i) s then some (.ret, r120_R (.d (iv k)) []) else some (.norm, r120_E0 [])

theorem idx_end (l : List ByteArray) (s : ByteArray) (i : Nat) (hi : l.length ≤ i) : IdxLoop l s i := by
  have h1 : ((i : Int) < (l.length : Int)) = False := eq_false (by omega)
  refine ⟨0, ?_⟩
  rw [r120_B0_eq, List.drop_of_length_le hi]
  simp (disch := omega) only [go_sem, and_self, and_true, true_and, false_and, and_false, Nat.reduceAdd, Nat.reduceMul, Nat.reduceSub, Nat.reduceLeDiff, Nat.reduceLT, Nat.reduceGT, Nat.reduceEqDiff, Nat.reduceBEq, Int.reduceNeg, Int.reduceEq, Int.reduceLT, Int.reduceLE, Int.reduceBEq, Int.reduceToNat, Int.toNat_natCast, Int.natCast_zero, r120_C0, h1, List.length_map, hasB, List.any_nil]
theorem idx_step (l : List ByteArray) (s : ByteArray) (i : Nat) (hi : i < l.length) (hl : l.length ≤ maxLen) (ih : IdxLoop l s (i + 1)) : IdxLoop l s i := by
  have hmx : maxLen = 9223372036854775807 := by decide
  have h1 : ((i : Int) < (l.length : Int)) = True := eq_true (by omega)
  have hi0 : (0 ≤ (i : Int)) = True := eq_true (by omega)
  have va : (l.map D.str)[i]? = some (.str l[i]) := by simp [hi]
  obtain ⟨k, ih⟩ := ih
  rw [Int.natCast_add, Int.natCast_one] at ih
  rcases Bool.eq_false_or_eq_true (l[i].toList == s.toList) with g | g
  · refine ⟨i, ?_⟩
    have g' : (s.toList == l[i].toList) = true := by rw [BEq.comm]; exact g
    rw [r120_B0_eq, hasB_drop hi]
    simp (disch := omega) only [go_sem, and_self, and_true, true_and, false_and, and_false, Nat.reduceAdd, Nat.reduceMul, Nat.reduceSub, Nat.reduceLeDiff, Nat.reduceLT, Nat.reduceGT, Nat.reduceEqDiff, Nat.reduceBEq, Int.reduceNeg, Int.reduceEq, Int.reduceLT, Int.reduceLE, Int.reduceBEq, Int.reduceToNat, Int.toNat_natCast, Int.natCast_zero, r120_C0, h1, hi0, va, g, g', strD_eql, List.length_map, w64, Bool.true_or]
  · refine ⟨k, ?_⟩
    have g' : (s.toList == l[i].toList) = false := by rw [BEq.comm]; exact g
    rw [r120_B0_eq, hasB_drop hi]
    simp (disch := omega) only [go_sem, and_self, and_true, true_and, false_and, and_false, Nat.reduceAdd, Nat.reduceMul, Nat.reduceSub, Nat.reduceLeDiff, Nat.reduceLT, Nat.reduceGT, Nat.reduceEqDiff, Nat.reduceBEq, Int.reduceNeg, Int.reduceEq, Int.reduceLT, Int.reduceLE, Int.reduceBEq, Int.reduceToNat, Int.toNat_natCast, Int.natCast_zero, r120_C0, h1, hi0, va, g, g', strD_eql, List.length_map, w64, Bool.false_or]
    exact ih
theorem idx_loop (l : List ByteArray) (s : ByteArray) (hl : l.length ≤ maxLen) : ∀ (j i : Nat), i + j = l.length → IdxLoop l s i
  | 0, i, hi => idx_end l s i (by omega)
  | j + 1, i, hi => idx_step l s i (by omega) hl (idx_loop l s hl j (i + 1) (by omega))

theorem idx_ok (l : List ByteArray) (s : ByteArray) (hl : l.length ≤ maxLen) : ∃ k : Int, (decide (k ≥ 0) = hasB l s) ∧ ∀ hp, F tab 120 [.d (.sl (l.map .str)), .d (.str s)] hp = some (.ret (.d (iv k)) hp) := by
  obtain ⟨k, hL⟩ := idx_loop l s hl l.length 0 (by omega)
  rw [List.drop_zero] at hL
  rcases Bool.eq_false_or_eq_true (hasB l s) with g | g
  · refine ⟨k, by rw [g]; simp, fun hp => f120 rfl ?_⟩
    simp (disch := omega) only [go_sem, and_self, and_true, true_and, false_and, and_false, Nat.reduceAdd, Nat.reduceMul, Nat.reduceSub, Nat.reduceLeDiff, Nat.reduceLT, Nat.reduceGT, Nat.reduceEqDiff, Nat.reduceBEq, Int.reduceNeg, Int.reduceEq, Int.reduceLT, Int.reduceLE, Int.reduceBEq, Int.reduceToNat, Int.toNat_natCast, Int.natCast_zero, r120_T, r120, List.length_map]
    rw [r120_B0_n]
    erw [hL]
    rw [g]
    simp only [go_sem, and_self, and_true, true_and, false_and, and_false, Nat.reduceAdd, Nat.reduceMul, Nat.reduceSub, Nat.reduceLeDiff, Nat.reduceLT, Nat.reduceGT, Nat.reduceEqDiff, Nat.reduceBEq, Int.reduceNeg, Int.reduceEq, Int.reduceLT, Int.reduceLE, Int.reduceBEq, Int.reduceToNat, Int.toNat_natCast, Int.natCast_zero]
  · refine ⟨-1, by rw [g]; simp, fun hp => f120 rfl ?_⟩
    simp (disch := omega) only [go_sem, and_self, and_true, true_and, false_and, and_false, Nat.reduceAdd, Nat.reduceMul, Nat.reduceSub, Nat.reduceLeDiff, Nat.reduceLT, Nat.reduceGT, Nat.reduceEqDiff, Nat.reduceBEq, Int.reduceNeg, Int.reduceEq, Int.reduceLT, Int.reduceLE, Int.reduceBEq, Int.reduceToNat, Int.toNat_natCast, Int.natCast_zero, r120_T, r120, List.length_map]
    rw [r120_B0_n]
    erw [hL]
    rw [g]
    simp only [go_sem, and_self, and_true, true_and, false_and, and_false, Nat.reduceAdd, Nat.reduceMul, Nat.reduceSub, Nat.reduceLeDiff, Nat.reduceLT, Nat.reduceGT, Nat.reduceEqDiff, Nat.reduceBEq, Int.reduceNeg, Int.reduceEq, Int.reduceLT, Int.reduceLE, Int.reduceBEq, Int.reduceToNat, Int.toNat_natCast, Int.natCast_zero]

theorem con_ok (l : List ByteArray) (s : ByteArray) (hl : l.length ≤ maxLen) (hp : List Ent) : F tab 108 [.d (.sl (l.map .str)), .d (.str s)] hp = some (.ret (.d (.bool (hasB l s))) hp) := by
  obtain ⟨k, h1, h2⟩ := idx_ok l s hl
  refine f108 rfl ?_
  simp only [go_sem, and_self, and_true, true_and, false_and, and_false, Nat.reduceAdd, Nat.reduceMul, Nat.reduceSub, Nat.reduceLeDiff, Nat.reduceLT, Nat.reduceGT, Nat.reduceEqDiff, Nat.reduceBEq, Int.reduceNeg, Int.reduceEq, Int.reduceLT, Int.reduceLE, Int.reduceBEq, Int.reduceToNat, Int.toNat_natCast, Int.natCast_zero, r108_T, r108, h2, h1]

theorem con_nil (s : ByteArray) (hp : List Ent) : F tab 108 [.nilsl, .d (.str s)] hp = some (.ret (.d (.bool false)) hp) := by
  have h : ∀ hp, F tab 120 [.nilsl, .d (.str s)] hp = some (.ret (.d (iv (-1))) hp) := by
    intro hp
    refine f120 rfl ?_
    simp (disch := omega) only [go_sem, and_self, and_true, true_and, false_and, and_false, Nat.reduceAdd, Nat.reduceMul, Nat.reduceSub, Nat.reduceLeDiff, Nat.reduceLT, Nat.reduceGT, Nat.reduceEqDiff, Nat.reduceBEq, Int.reduceNeg, Int.reduceEq, Int.reduceLT, Int.reduceLE, Int.reduceBEq, Int.reduceToNat, Int.toNat_natCast, Int.natCast_zero, r120_T, r120, List.length_nil]
    rw [r120_B0_n, r120_B0_eq]
    simp (disch := omega) only [go_sem, and_self, and_true, true_and, false_and, and_false, Nat.reduceAdd, Nat.reduceMul, Nat.reduceSub, Nat.reduceLeDiff, Nat.reduceLT, Nat.reduceGT, Nat.reduceEqDiff, Nat.reduceBEq, Int.reduceNeg, Int.reduceEq, Int.reduceLT, Int.reduceLE, Int.reduceBEq, Int.reduceToNat, Int.toNat_natCast, Int.natCast_zero, r120_C0, List.length_nil]
  refine f108 rfl ?_
  simp only [go_sem, and_self, and_true, true_and, false_and, and_false, Nat.reduceAdd, Nat.reduceMul, Nat.reduceSub, Nat.reduceLeDiff, Nat.reduceLT, Nat.reduceGT, Nat.reduceEqDiff, Nat.reduceBEq, Int.reduceNeg, Int.reduceEq, Int.reduceLT, Int.reduceLE, Int.reduceBEq, Int.reduceToNat, Int.toNat_natCast, Int.natCast_zero, r108_T, r108, h]
  rfl

/-! ### binds -/
end Go.Pe.T

namespace Go.Pe.T

/-! ### names that are no key words -/
def keysL : List ByteArray := [⟨#[100, 101, 102]⟩, ⟨#[105, 102]⟩, ⟨#[116, 104, 101, 110]⟩, ⟨#[101, 108, 115, 101]⟩, ⟨#[101, 110, 100]⟩, ⟨#[116, 114, 121]⟩, ⟨#[99, 97, 116, 99, 104]⟩, ⟨#[114, 101, 100, 117, 99, 101]⟩, ⟨#[102, 111, 114, 101, 97, 99, 104]⟩, ⟨#[97, 115]⟩, ⟨#[108, 97, 98, 101, 108]⟩, ⟨#[98, 114, 101, 97, 107]⟩, ⟨#[97, 110, 100]⟩, ⟨#[111, 114]⟩, ⟨#[116, 114, 117, 101]⟩, ⟨#[102, 97, 108, 115, 101]⟩, ⟨#[110, 117, 108, 108]⟩, ⟨#[101, 109, 112, 116, 121]⟩, ⟨#[114, 101, 108, 101, 97, 115, 101]⟩, ⟨#[114, 97, 110, 103, 101]⟩]
def keyB (s : ByteArray) : Bool := keysL.any fun k => s.toList == k.toList
def okI (i : Nat) (c : UInt8) : Bool := letB c.toNat || (decide (i > 0) && digB c.toNat)
def runL : Nat → List UInt8 → Nat
  | _, [] => 0
  | i, c :: r => if okI i c then runL (i + 1) r + 1 else 0
theorem runL_le : ∀ (l : List UInt8) (i : Nat), runL i l ≤ l.length
  | [], i => Nat.le_refl _
  | c :: r, i => by
    have := runL_le r (i + 1)
    simp only [runL, List.length_cons]
    split <;> omega
def identB (s : ByteArray) : Bool := decide (s.size ≠ 0) && (decide (s.size ≤ 16) && (decide (runL 0 (bs s) = s.size) && !keyB s))

def WdLoop (s : ByteArray) (i : Nat) : Prop :=
  V (F tab) r59_B0 (r59_S0 (.d (.str s)) (.d (iv i)) []) = some (.norm, r59_E0 (.d (.str s)) (.d (iv (i + runL i ((bs s).drop i) : Nat))) [])
theorem wd_end (s : ByteArray) (i : Nat) (hi : s.size ≤ i) : WdLoop s i := by
  have h1 : ((i : Int) < (s.size : Int)) = False := eq_false (by omega)
  unfold WdLoop
  rw [r59_B0_eq, bs_end hi]
  simp (disch := omega) only [go_sem, and_self, and_true, true_and, false_and, and_false, Nat.reduceAdd, Nat.reduceMul, Nat.reduceSub, Nat.reduceLeDiff, Nat.reduceLT, Nat.reduceGT, Nat.reduceEqDiff, Nat.reduceBEq, Int.reduceNeg, Int.reduceEq, Int.reduceLT, Int.reduceLE, Int.reduceBEq, Int.reduceToNat, Int.toNat_natCast, Int.natCast_zero, r59_C0, h1, runL, Nat.add_zero]
theorem wd_step (s : ByteArray) (hs : s.size ≤ maxLen) (i : Nat) (hi : i < s.size) (ih : WdLoop s (i + 1)) : WdLoop s i := by
  have hmx : maxLen = 9223372036854775807 := by decide
  have h1 : ((i : Int) < (s.size : Int)) = True := eq_true (by omega)
  have hi0 : (0 ≤ (i : Int)) = True := eq_true (by omega)
  obtain ⟨va, vd⟩ := bs_get hi
  have hl := letter_ok s[i].toNat
  have hd := digit_ok s[i].toNat
  unfold WdLoop at ih ⊢
  have e1 : ((i + 1 : Nat) : Int) = (i : Int) + 1 := rfl
  have e0 : decide ((i : Int) > 0) = decide (i > 0) := by by_cases h : i = 0 <;> simp [h] <;> omega
  rw [r59_B0_eq, vd]
  simp only [runL, okI]
  rcases Bool.eq_false_or_eq_true (letB s[i].toNat) with g1 | g1
  · rw [g1] at hl
    have e2 : i + (runL (i + 1) ((bs s).drop (i + 1)) + 1) = i + 1 + runL (i + 1) ((bs s).drop (i + 1)) := by omega
    simp (disch := omega) only [go_sem, and_self, and_true, true_and, false_and, and_false, Nat.reduceAdd, Nat.reduceMul, Nat.reduceSub, Nat.reduceLeDiff, Nat.reduceLT, Nat.reduceGT, Nat.reduceEqDiff, Nat.reduceBEq, Int.reduceNeg, Int.reduceEq, Int.reduceLT, Int.reduceLE, Int.reduceBEq, Int.reduceToNat, Int.toNat_natCast, Int.natCast_zero, r59_C0, h1, hi0, va, w64, hl, g1, Bool.true_or, e2]
    rw [e1] at ih
    exact ih
  · rw [g1] at hl
    rcases Bool.eq_false_or_eq_true (decide (i > 0)) with g2 | g2
    · rcases Bool.eq_false_or_eq_true (digB s[i].toNat) with g3 | g3
      · rw [g3] at hd
        have e2 : i + (runL (i + 1) ((bs s).drop (i + 1)) + 1) = i + 1 + runL (i + 1) ((bs s).drop (i + 1)) := by omega
        simp (disch := omega) only [go_sem, and_self, and_true, true_and, false_and, and_false, Nat.reduceAdd, Nat.reduceMul, Nat.reduceSub, Nat.reduceLeDiff, Nat.reduceLT, Nat.reduceGT, Nat.reduceEqDiff, Nat.reduceBEq, Int.reduceNeg, Int.reduceEq, Int.reduceLT, Int.reduceLE, Int.reduceBEq, Int.reduceToNat, Int.toNat_natCast, Int.natCast_zero, r59_C0, h1, hi0, va, w64, hl, hd, g1, g2, g3, e0, Bool.false_or, Bool.true_and, e2]
        rw [e1] at ih
        exact ih
      · rw [g3] at hd
        simp (disch := omega) only [go_sem, and_self, and_true, true_and, false_and, and_false, Nat.reduceAdd, Nat.reduceMul, Nat.reduceSub, Nat.reduceLeDiff, Nat.reduceLT, Nat.reduceGT, Nat.reduceEqDiff, Nat.reduceBEq, Int.reduceNeg, Int.reduceEq, Int.reduceLT, Int.reduceLE, Int.reduceBEq, Int.reduceToNat, Int.toNat_natCast, Int.natCast_zero, r59_C0, h1, hi0, va, w64, hl, hd, g1, g2, g3, e0, Bool.false_or, Bool.true_and, Nat.add_zero]
    · simp (disch := omega) only [go_sem, and_self, and_true, true_and, false_and, and_false, Nat.reduceAdd, Nat.reduceMul, Nat.reduceSub, Nat.reduceLeDiff, Nat.reduceLT, Nat.reduceGT, Nat.reduceEqDiff, Nat.reduceBEq, Int.reduceNeg, Int.reduceEq, Int.reduceLT, Int.reduceLE, Int.reduceBEq, Int.reduceToNat, Int.toNat_natCast, Int.natCast_zero, r59_C0, h1, hi0, va, w64, hl, g1, g2, e0, Bool.false_or, Bool.false_and, Nat.add_zero]
theorem wd_loop (s : ByteArray) (hs : s.size ≤ maxLen) : ∀ (j i : Nat), i + j = s.size → WdLoop s i
  | 0, i, hi => wd_end s i (by omega)
  | j + 1, i, hi => wd_step s hs i (by omega) (wd_loop s hs j (i + 1) (by omega))
theorem word_ok (s : ByteArray) (hs : s.size ≤ maxLen) (hp : List Ent) : F tab 59 [.d (.str s)] hp = some (.ret (.d (.str (s.extract 0 (runL 0 (bs s))))) hp) := by
  have hL := wd_loop s hs s.size 0 (by omega)
  unfold WdLoop at hL
  rw [List.drop_zero, Nat.zero_add] at hL
  have hle := runL_le (bs s) 0
  rw [bs_len] at hle
  have h1 : ((runL 0 (bs s) : Int) ≤ (s.size : Int)) = True := eq_true (by omega)
  refine f59 rfl ?_
  simp (disch := omega) only [go_sem, and_self, and_true, true_and, false_and, and_false, Nat.reduceAdd, Nat.reduceMul, Nat.reduceSub, Nat.reduceLeDiff, Nat.reduceLT, Nat.reduceGT, Nat.reduceEqDiff, Nat.reduceBEq, Int.reduceNeg, Int.reduceEq, Int.reduceLT, Int.reduceLE, Int.reduceBEq, Int.reduceToNat, Int.toNat_natCast, Int.natCast_zero, r59_T, r59]
  rw [r59_B0_n]
  erw [hL]
  have h0 : (0 ≤ (runL 0 (bs s) : Int)) = True := eq_true (by omega)
  simp (disch := omega) only [go_sem, and_self, and_true, true_and, false_and, and_false, Nat.reduceAdd, Nat.reduceMul, Nat.reduceSub, Nat.reduceLeDiff, Nat.reduceLT, Nat.reduceGT, Nat.reduceEqDiff, Nat.reduceBEq, Int.reduceNeg, Int.reduceEq, Int.reduceLT, Int.reduceLE, Int.reduceBEq, Int.reduceToNat, Int.toNat_natCast, Int.natCast_zero, h0, h1, decide_true]
theorem bs_take (s : ByteArray) (k : Nat) : bs (s.extract 0 k) = (bs s).take k := by
  simp [bs, ByteArray.data_extract]
theorem word_eq (s : ByteArray) (k : Nat) (hk : k ≤ s.size) : ((s.extract 0 k).toList == s.toList) = decide (k = s.size) := by
  rw [bs_toList, bs_toList, bs_take]
  by_cases h : k = s.size
  · subst h
    rw [List.take_of_length_le (Nat.le_of_eq (bs_len s))]
    simp
  · have : (bs s).take k ≠ bs s := fun e => h (by have := congrArg List.length e; rw [List.length_take, bs_len] at this; omega)
    simp [h, this]

theorem key_ok (s : ByteArray) (hp : List Ent) : F tab 60 [.d (.str s)] hp = some (.ret (.d (.bool (keyB s))) hp) := by
  refine f60 rfl ?_
  simp only [keyB, keysL, List.any_cons, List.any_nil]
  rcases Bool.eq_false_or_eq_true (s.toList == (⟨#[100, 101, 102]⟩ : ByteArray).toList) with g0 | g0
  · simp only [go_sem, and_self, and_true, true_and, false_and, and_false, Nat.reduceAdd, Nat.reduceMul, Nat.reduceSub, Nat.reduceLeDiff, Nat.reduceLT, Nat.reduceGT, Nat.reduceEqDiff, Nat.reduceBEq, Int.reduceNeg, Int.reduceEq, Int.reduceLT, Int.reduceLE, Int.reduceBEq, Int.reduceToNat, Int.toNat_natCast, Int.natCast_zero, r60_T, r60, strD_eql, g0, Bool.true_or, Bool.false_or]
  rcases Bool.eq_false_or_eq_true (s.toList == (⟨#[105, 102]⟩ : ByteArray).toList) with g1 | g1
  · simp only [go_sem, and_self, and_true, true_and, false_and, and_false, Nat.reduceAdd, Nat.reduceMul, Nat.reduceSub, Nat.reduceLeDiff, Nat.reduceLT, Nat.reduceGT, Nat.reduceEqDiff, Nat.reduceBEq, Int.reduceNeg, Int.reduceEq, Int.reduceLT, Int.reduceLE, Int.reduceBEq, Int.reduceToNat, Int.toNat_natCast, Int.natCast_zero, r60_T, r60, strD_eql, g0, g1, Bool.true_or, Bool.false_or]
  rcases Bool.eq_false_or_eq_true (s.toList == (⟨#[116, 104, 101, 110]⟩ : ByteArray).toList) with g2 | g2
  · simp only [go_sem, and_self, and_true, true_and, false_and, and_false, Nat.reduceAdd, Nat.reduceMul, Nat.reduceSub, Nat.reduceLeDiff, Nat.reduceLT, Nat.reduceGT, Nat.reduceEqDiff, Nat.reduceBEq, Int.reduceNeg, Int.reduceEq, Int.reduceLT, Int.reduceLE, Int.reduceBEq, Int.reduceToNat, Int.toNat_natCast, Int.natCast_zero, r60_T, r60, strD_eql, g0, g1, g2, Bool.true_or, Bool.false_or]
  rcases Bool.eq_false_or_eq_true (s.toList == (⟨#[101, 108, 115, 101]⟩ : ByteArray).toList) with g3 | g3
  · simp only [go_sem, and_self, and_true, true_and, false_and, and_false, Nat.reduceAdd, Nat.reduceMul, Nat.reduceSub, Nat.reduceLeDiff, Nat.reduceLT, Nat.reduceGT, Nat.reduceEqDiff, Nat.reduceBEq, Int.reduceNeg, Int.reduceEq, Int.reduceLT, Int.reduceLE, Int.reduceBEq, Int.reduceToNat, Int.toNat_natCast, Int.natCast_zero, r60_T, r60, strD_eql, g0, g1, g2, g3, Bool.true_or, Bool.false_or]
  rcases Bool.eq_false_or_eq_true (s.toList == (⟨#[101, 110, 100]⟩ : ByteArray).toList) with g4 | g4
  · simp only [go_sem, and_self, and_true, true_and, false_and, and_false, Nat.reduceAdd, Nat.reduceMul, Nat.reduceSub, Nat.reduceLeDiff, Nat.reduceLT, Nat.reduceGT, Nat.reduceEqDiff, Nat.reduceBEq, Int.reduceNeg, Int.reduceEq, Int.reduceLT, Int.reduceLE, Int.reduceBEq, Int.reduceToNat, Int.toNat_natCast, Int.natCast_zero, r60_T, r60, strD_eql, g0, g1, g2, g3, g4, Bool.true_or, Bool.false_or]
  rcases Bool.eq_false_or_eq_true (s.toList == (⟨#[116, 114, 121]⟩ : ByteArray).toList) with g5 | g5
  · simp only [go_sem, and_self, and_true, true_and, false_and, and_false, Nat.reduceAdd, Nat.reduceMul, Nat.reduceSub, Nat.reduceLeDiff, Nat.reduceLT, Nat.reduceGT, Nat.reduceEqDiff, Nat.reduceBEq, Int.reduceNeg, Int.reduceEq, Int.reduceLT, Int.reduceLE, Int.reduceBEq, Int.reduceToNat, Int.toNat_natCast, Int.natCast_zero, r60_T, r60, strD_eql, g0, g1, g2, g3, g4, g5, Bool.true_or, Bool.false_or]
  rcases Bool.eq_false_or_eq_true (s.toList == (⟨#[99, 97, 116, 99, 104]⟩ : ByteArray).toList) with g6 | g6
  · simp only [go_sem, and_self, and_true, true_and, false_and, and_false, Nat.reduceAdd, Nat.reduceMul, Nat.reduceSub, Nat.reduceLeDiff, Nat.reduceLT, Nat.reduceGT, Nat.reduceEqDiff, Nat.reduceBEq, Int.reduceNeg, Int.reduceEq, Int.reduceLT, Int.reduceLE, Int.reduceBEq, Int.reduceToNat, Int.toNat_natCast, Int.natCast_zero, r60_T, r60, strD_eql, g0, g1, g2, g3, g4, g5, g6, Bool.true_or, Bool.false_or]
  rcases Bool.eq_false_or_eq_true (s.toList == (⟨#[114, 101, 100, 117, 99, 101]⟩ : ByteArray).toList) with g7 | g7
  · simp only [go_sem, and_self, and_true, true_and, false_and, and_false, Nat.reduceAdd, Nat.reduceMul, Nat.reduceSub, Nat.reduceLeDiff, Nat.reduceLT, Nat.reduceGT, Nat.reduceEqDiff, Nat.reduceBEq, Int.reduceNeg, Int.reduceEq, Int.reduceLT, Int.reduceLE, Int.reduceBEq, Int.reduceToNat, Int.toNat_natCast, Int.natCast_zero, r60_T, r60, strD_eql, g0, g1, g2, g3, g4, g5, g6, g7, Bool.true_or, Bool.false_or]
  rcases Bool.eq_false_or_eq_true (s.toList == (⟨#[102, 111, 114, 101, 97, 99, 104]⟩ : ByteArray).toList) with g8 | g8
  · simp only [go_sem, and_self, and_true, true_and, false_and, and_false, Nat.reduceAdd, Nat.reduceMul, Nat.reduceSub, Nat.reduceLeDiff, Nat.reduceLT, Nat.reduceGT, Nat.reduceEqDiff, Nat.reduceBEq, Int.reduceNeg, Int.reduceEq, Int.reduceLT, Int.reduceLE, Int.reduceBEq, Int.reduceToNat, Int.toNat_natCast, Int.natCast_zero, r60_T, r60, strD_eql, g0, g1, g2, g3, g4, g5, g6, g7, g8, Bool.true_or, Bool.false_or]
  rcases Bool.eq_false_or_eq_true (s.toList == (⟨#[97, 115]⟩ : ByteArray).toList) with g9 | g9
  · simp only [go_sem, and_self, and_true, true_and, false_and, and_false, Nat.reduceAdd, Nat.reduceMul, Nat.reduceSub, Nat.reduceLeDiff, Nat.reduceLT, Nat.reduceGT, Nat.reduceEqDiff, Nat.reduceBEq, Int.reduceNeg, Int.reduceEq, Int.reduceLT, Int.reduceLE, Int.reduceBEq, Int.reduceToNat, Int.toNat_natCast, Int.natCast_zero, r60_T, r60, strD_eql, g0, g1, g2, g3, g4, g5, g6, g7, g8, g9, Bool.true_or, Bool.false_or]
  rcases Bool.eq_false_or_eq_true (s.toList == (⟨#[108, 97, 98, 101, 108]⟩ : ByteArray).toList) with g10 | g10
  · simp only [go_sem, and_self, and_true, true_and, false_and, and_false, Nat.reduceAdd, Nat.reduceMul, Nat.reduceSub, Nat.reduceLeDiff, Nat.reduceLT, Nat.reduceGT, Nat.reduceEqDiff, Nat.reduceBEq, Int.reduceNeg, Int.reduceEq, Int.reduceLT, Int.reduceLE, Int.reduceBEq, Int.reduceToNat, Int.toNat_natCast, Int.natCast_zero, r60_T, r60, strD_eql, g0, g1, g2, g3, g4, g5, g6, g7, g8, g9, g10, Bool.true_or, Bool.false_or]
  rcases Bool.eq_false_or_eq_true (s.toList == (⟨#[98, 114, 101, 97, 107]⟩ : ByteArray).toList) with g11 | g11
  · simp only [go_sem, and_self, and_true, true_and, false_and, and_false, Nat.reduceAdd, Nat.reduceMul, Nat.reduceSub, Nat.reduceLeDiff, Nat.reduceLT, Nat.reduceGT, Nat.reduceEqDiff, Nat.reduceBEq, Int.reduceNeg, Int.reduceEq, Int.reduceLT, Int.reduceLE, Int.reduceBEq, Int.reduceToNat, Int.toNat_natCast, Int.natCast_zero, r60_T, r60, strD_eql, g0, g1, g2, g3, g4, g5, g6, g7, g8, g9, g10, g11, Bool.true_or, Bool.false_or]
  rcases Bool.eq_false_or_eq_true (s.toList == (⟨#[97, 110, 100]⟩ : ByteArray).toList) with g12 | g12
  · simp only [go_sem, and_self, and_true, true_and, false_and, and_false, Nat.reduceAdd, Nat.reduceMul, Nat.reduceSub, Nat.reduceLeDiff, Nat.reduceLT, Nat.reduceGT, Nat.reduceEqDiff, Nat.reduceBEq, Int.reduceNeg, Int.reduceEq, Int.reduceLT, Int.reduceLE, Int.reduceBEq, Int.reduceToNat, Int.toNat_natCast, Int.natCast_zero, r60_T, r60, strD_eql, g0, g1, g2, g3, g4, g5, g6, g7, g8, g9, g10, g11, g12, Bool.true_or, Bool.false_or]
  rcases Bool.eq_false_or_eq_true (s.toList == (⟨#[111, 114]⟩ : ByteArray).toList) with g13 | g13
  · simp only [go_sem, and_self, and_true, true_and, false_and, and_false, Nat.reduceAdd, Nat.reduceMul, Nat.reduceSub, Nat.reduceLeDiff, Nat.reduceLT, Nat.reduceGT, Nat.reduceEqDiff, Nat.reduceBEq, Int.reduceNeg, Int.reduceEq, Int.reduceLT, Int.reduceLE, Int.reduceBEq, Int.reduceToNat, Int.toNat_natCast, Int.natCast_zero, r60_T, r60, strD_eql, g0, g1, g2, g3, g4, g5, g6, g7, g8, g9, g10, g11, g12, g13, Bool.true_or, Bool.false_or]
  rcases Bool.eq_false_or_eq_true (s.toList == (⟨#[116, 114, 117, 101]⟩ : ByteArray).toList) with g14 | g14
  · simp only [go_sem, and_self, and_true, true_and, false_and, and_false, Nat.reduceAdd, Nat.reduceMul, Nat.reduceSub, Nat.reduceLeDiff, Nat.reduceLT, Nat.reduceGT, Nat.reduceEqDiff, Nat.reduceBEq, Int.reduceNeg, Int.reduceEq, Int.reduceLT, Int.reduceLE, Int.reduceBEq, Int.reduceToNat, Int.toNat_natCast, Int.natCast_zero, r60_T, r60, strD_eql, g0, g1, g2, g3, g4, g5, g6, g7, g8, g9, g10, g11, g12, g13, g14, Bool.true_or, Bool.false_or]
  rcases Bool.eq_false_or_eq_true (s.toList == (⟨#[102, 97, 108, 115, 101]⟩ : ByteArray).toList) with g15 | g15
  · simp only [go_sem, and_self, and_true, true_and, false_and, and_false, Nat.reduceAdd, Nat.reduceMul, Nat.reduceSub, Nat.reduceLeDiff, Nat.reduceLT, Nat.reduceGT, Nat.reduceEqDiff, Nat.reduceBEq, Int.reduceNeg, Int.reduceEq, Int.reduceLT, Int.reduceLE, Int.reduceBEq, Int.reduceToNat, Int.toNat_natCast, Int.natCast_zero, r60_T, r60, strD_eql, g0, g1, g2, g3, g4, g5, g6, g7, g8, g9, g10, g11, g12, g13, g14, g15, Bool.true_or, Bool.false_or]
  rcases Bool.eq_false_or_eq_true (s.toList == (⟨#[110, 117, 108, 108]⟩ : ByteArray).toList) with g16 | g16
  · simp only [go_sem, and_self, and_true, true_and, false_and, and_false, Nat.reduceAdd, Nat.reduceMul, Nat.reduceSub, Nat.reduceLeDiff, Nat.reduceLT, Nat.reduceGT, Nat.reduceEqDiff, Nat.reduceBEq, Int.reduceNeg, Int.reduceEq, Int.reduceLT, Int.reduceLE, Int.reduceBEq, Int.reduceToNat, Int.toNat_natCast, Int.natCast_zero, r60_T, r60, strD_eql, g0, g1, g2, g3, g4, g5, g6, g7, g8, g9, g10, g11, g12, g13, g14, g15, g16, Bool.true_or, Bool.false_or]
  rcases Bool.eq_false_or_eq_true (s.toList == (⟨#[101, 109, 112, 116, 121]⟩ : ByteArray).toList) with g17 | g17
  · simp only [go_sem, and_self, and_true, true_and, false_and, and_false, Nat.reduceAdd, Nat.reduceMul, Nat.reduceSub, Nat.reduceLeDiff, Nat.reduceLT, Nat.reduceGT, Nat.reduceEqDiff, Nat.reduceBEq, Int.reduceNeg, Int.reduceEq, Int.reduceLT, Int.reduceLE, Int.reduceBEq, Int.reduceToNat, Int.toNat_natCast, Int.natCast_zero, r60_T, r60, strD_eql, g0, g1, g2, g3, g4, g5, g6, g7, g8, g9, g10, g11, g12, g13, g14, g15, g16, g17, Bool.true_or, Bool.false_or]
  rcases Bool.eq_false_or_eq_true (s.toList == (⟨#[114, 101, 108, 101, 97, 115, 101]⟩ : ByteArray).toList) with g18 | g18
  · simp only [go_sem, and_self, and_true, true_and, false_and, and_false, Nat.reduceAdd, Nat.reduceMul, Nat.reduceSub, Nat.reduceLeDiff, Nat.reduceLT, Nat.reduceGT, Nat.reduceEqDiff, Nat.reduceBEq, Int.reduceNeg, Int.reduceEq, Int.reduceLT, Int.reduceLE, Int.reduceBEq, Int.reduceToNat, Int.toNat_natCast, Int.natCast_zero, r60_T, r60, strD_eql, g0, g1, g2, g3, g4, g5, g6, g7, g8, g9, g10, g11, g12, g13, g14, g15, g16, g17, g18, Bool.true_or, Bool.false_or]
  rcases Bool.eq_false_or_eq_true (s.toList == (⟨#[114, 97, 110, 103, 101]⟩ : ByteArray).toList) with g19 | g19
  · simp only [go_sem, and_self, and_true, true_and, false_and, and_false, Nat.reduceAdd, Nat.reduceMul, Nat.reduceSub, Nat.reduceLeDiff, Nat.reduceLT, Nat.reduceGT, Nat.reduceEqDiff, Nat.reduceBEq, Int.reduceNeg, Int.reduceEq, Int.reduceLT, Int.reduceLE, Int.reduceBEq, Int.reduceToNat, Int.toNat_natCast, Int.natCast_zero, r60_T, r60, strD_eql, g0, g1, g2, g3, g4, g5, g6, g7, g8, g9, g10, g11, g12, g13, g14, g15, g16, g17, g18, g19, Bool.true_or, Bool.false_or]
  simp only [go_sem, and_self, and_true, true_and, false_and, and_false, Nat.reduceAdd, Nat.reduceMul, Nat.reduceSub, Nat.reduceLeDiff, Nat.reduceLT, Nat.reduceGT, Nat.reduceEqDiff, Nat.reduceBEq, Int.reduceNeg, Int.reduceEq, Int.reduceLT, Int.reduceLE, Int.reduceBEq, Int.reduceToNat, Int.toNat_natCast, Int.natCast_zero, r60_T, r60, strD_eql, g0, g1, g2, g3, g4, g5, g6, g7, g8, g9, g10, g11, g12, g13, g14, g15, g16, g17, g18, g19, Bool.true_or, Bool.false_or]

theorem ident_ok (s : ByteArray) (hs : s.size ≤ maxLen) (hp : List Ent) : F tab 35 [.d (.str s)] hp = some (.ret (.d (.bool (identB s))) hp) := by
  have e := isE s
  have hw := word_ok s hs
  have hk := key_ok s
  have hle := runL_le (bs s) 0
  rw [bs_len] at hle
  have e1 := word_eq s _ hle
  have e2 : decide ((s.size : Int) ≤ 16) = decide (s.size ≤ 16) := by by_cases h : s.size ≤ 16 <;> simp [h] <;> omega
  refine f35 rfl ?_
  unfold identB
  rcases Bool.eq_false_or_eq_true (decide (s.size ≠ 0)) with g1 | g1
  · rcases Bool.eq_false_or_eq_true (decide (s.size ≤ 16)) with g2 | g2
    · rcases Bool.eq_false_or_eq_true (decide (runL 0 (bs s) = s.size)) with g3 | g3
      · simp (disch := omega) only [go_sem, and_self, and_true, true_and, false_and, and_false, Nat.reduceAdd, Nat.reduceMul, Nat.reduceSub, Nat.reduceLeDiff, Nat.reduceLT, Nat.reduceGT, Nat.reduceEqDiff, Nat.reduceBEq, Int.reduceNeg, Int.reduceEq, Int.reduceLT, Int.reduceLE, Int.reduceBEq, Int.reduceToNat, Int.toNat_natCast, Int.natCast_zero, r35_T, r35, strD_eql, strD_neq, e, e2, g1, g2, g3, hw, e1, hk, Bool.not_true, Bool.not_false, Bool.true_and]
      · simp (disch := omega) only [go_sem, and_self, and_true, true_and, false_and, and_false, Nat.reduceAdd, Nat.reduceMul, Nat.reduceSub, Nat.reduceLeDiff, Nat.reduceLT, Nat.reduceGT, Nat.reduceEqDiff, Nat.reduceBEq, Int.reduceNeg, Int.reduceEq, Int.reduceLT, Int.reduceLE, Int.reduceBEq, Int.reduceToNat, Int.toNat_natCast, Int.natCast_zero, r35_T, r35, strD_eql, strD_neq, e, e2, g1, g2, g3, hw, e1, hk, Bool.not_true, Bool.not_false, Bool.true_and, Bool.false_and]
    · simp (disch := omega) only [go_sem, and_self, and_true, true_and, false_and, and_false, Nat.reduceAdd, Nat.reduceMul, Nat.reduceSub, Nat.reduceLeDiff, Nat.reduceLT, Nat.reduceGT, Nat.reduceEqDiff, Nat.reduceBEq, Int.reduceNeg, Int.reduceEq, Int.reduceLT, Int.reduceLE, Int.reduceBEq, Int.reduceToNat, Int.toNat_natCast, Int.natCast_zero, r35_T, r35, strD_eql, strD_neq, e, e2, g1, g2, Bool.not_true, Bool.not_false, Bool.true_and, Bool.false_and]
  · simp (disch := omega) only [go_sem, and_self, and_true, true_and, false_and, and_false, Nat.reduceAdd, Nat.reduceMul, Nat.reduceSub, Nat.reduceLeDiff, Nat.reduceLT, Nat.reduceGT, Nat.reduceEqDiff, Nat.reduceBEq, Int.reduceNeg, Int.reduceEq, Int.reduceLT, Int.reduceLE, Int.reduceBEq, Int.reduceToNat, Int.toNat_natCast, Int.natCast_zero, r35_T, r35, strD_eql, strD_neq, e, e2, g1, Bool.not_true, Bool.not_false, Bool.true_and, Bool.false_and]
end Go.Pe.T

namespace Go.Pe.T

def signsL : List ByteArray := [⟨#[43]⟩, ⟨#[45]⟩, ⟨#[42]⟩, ⟨#[47]⟩, ⟨#[37]⟩, ⟨#[61, 61]⟩, ⟨#[33, 61]⟩, ⟨#[60]⟩, ⟨#[60, 61]⟩, ⟨#[62]⟩, ⟨#[62, 61]⟩, ⟨#[97, 110, 100]⟩, ⟨#[111, 114]⟩, ⟨#[47, 47]⟩]

theorem signs_ok (hp : List Ent) : F tab 109 [] hp = some (.ret (.d (.sl (signsL.map .str))) hp) := by
  refine f109 rfl ?_
  simp only [go_sem, and_self, and_true, true_and, false_and, and_false, Nat.reduceAdd, Nat.reduceMul, Nat.reduceSub, Nat.reduceLeDiff, Nat.reduceLT, Nat.reduceGT, Nat.reduceEqDiff, Nat.reduceBEq, Int.reduceNeg, Int.reduceEq, Int.reduceLT, Int.reduceLE, Int.reduceBEq, Int.reduceToNat, Int.toNat_natCast, Int.natCast_zero, r109_T, r109, signsL, List.map_cons, List.map_nil]

/-! ### may an expression be -/
/-- least, most, named, names, is there -/
def shapeV (o : Int) : Int × Int × Bool × Bool × Bool :=
  if o = 0 ∨ o = 1 ∨ o = 8 then (0, 0, false, false, true) else
  if o = 2 ∨ o = 19 then (0, 0, true, false, true) else
  if o = 3 ∨ o = 5 ∨ o = 21 then (1, 1, false, false, true) else
  if o = 4 ∨ o = 6 ∨ o = 7 ∨ o = 10 ∨ o = 15 then (2, 2, false, false, true) else
  if o = 9 then (3, 3, false, false, true) else
  if o = 11 then (0, 1, false, false, true) else
  if o = 12 then (0, 512, false, true, true) else
  if o = 13 ∨ o = 14 then (3, 3, true, false, true) else
  if o = 16 then (0, 4, true, false, true) else
  if o = 17 then (2, 2, true, false, true) else
  if o = 18 then (1, 1, true, false, true) else
  if o = 20 then (1, 1, false, true, true) else
  (0, 0, false, false, false)
def shD (r : Int × Int × Bool × Bool × Bool) : D := .agg [iv r.1, iv r.2.1, .bool r.2.2.1, .bool r.2.2.2.1]
set_option maxHeartbeats 4000000 in
theorem shape_ok (o : Int) (hp : List Ent) : F tab 86 [.d (iv o)] hp = some (.ret (.tup [.d (shD (shapeV o)), .d (.bool (shapeV o).2.2.2.2)]) hp) := by
  refine f86 rfl ?_
  by_cases x0 : o = 0
  · have e : shapeV o = (0, 0, false, false, true) := by subst x0; rfl
    rw [e]
    simp only [go_sem, and_self, and_true, true_and, false_and, and_false, Nat.reduceAdd, Nat.reduceMul, Nat.reduceSub, Nat.reduceLeDiff, Nat.reduceLT, Nat.reduceGT, Nat.reduceEqDiff, Nat.reduceBEq, Int.reduceNeg, Int.reduceEq, Int.reduceLT, Int.reduceLE, Int.reduceBEq, Int.reduceToNat, Int.toNat_natCast, Int.natCast_zero, r86_T, r86, shD, x0]
  have g0 : (o == 0) = false := by simpa using x0
  by_cases x1 : o = 1
  · have e : shapeV o = (0, 0, false, false, true) := by subst x1; rfl
    rw [e]
    simp only [go_sem, and_self, and_true, true_and, false_and, and_false, Nat.reduceAdd, Nat.reduceMul, Nat.reduceSub, Nat.reduceLeDiff, Nat.reduceLT, Nat.reduceGT, Nat.reduceEqDiff, Nat.reduceBEq, Int.reduceNeg, Int.reduceEq, Int.reduceLT, Int.reduceLE, Int.reduceBEq, Int.reduceToNat, Int.toNat_natCast, Int.natCast_zero, r86_T, r86, shD, x1]
  have g1 : (o == 1) = false := by simpa using x1
  by_cases x8 : o = 8
  · have e : shapeV o = (0, 0, false, false, true) := by subst x8; rfl
    rw [e]
    simp only [go_sem, and_self, and_true, true_and, false_and, and_false, Nat.reduceAdd, Nat.reduceMul, Nat.reduceSub, Nat.reduceLeDiff, Nat.reduceLT, Nat.reduceGT, Nat.reduceEqDiff, Nat.reduceBEq, Int.reduceNeg, Int.reduceEq, Int.reduceLT, Int.reduceLE, Int.reduceBEq, Int.reduceToNat, Int.toNat_natCast, Int.natCast_zero, r86_T, r86, shD, x8]
  have g8 : (o == 8) = false := by simpa using x8
  by_cases x2 : o = 2
  · have e : shapeV o = (0, 0, true, false, true) := by subst x2; rfl
    rw [e]
    simp only [go_sem, and_self, and_true, true_and, false_and, and_false, Nat.reduceAdd, Nat.reduceMul, Nat.reduceSub, Nat.reduceLeDiff, Nat.reduceLT, Nat.reduceGT, Nat.reduceEqDiff, Nat.reduceBEq, Int.reduceNeg, Int.reduceEq, Int.reduceLT, Int.reduceLE, Int.reduceBEq, Int.reduceToNat, Int.toNat_natCast, Int.natCast_zero, r86_T, r86, shD, x2]
  have g2 : (o == 2) = false := by simpa using x2
  by_cases x19 : o = 19
  · have e : shapeV o = (0, 0, true, false, true) := by subst x19; rfl
    rw [e]
    simp only [go_sem, and_self, and_true, true_and, false_and, and_false, Nat.reduceAdd, Nat.reduceMul, Nat.reduceSub, Nat.reduceLeDiff, Nat.reduceLT, Nat.reduceGT, Nat.reduceEqDiff, Nat.reduceBEq, Int.reduceNeg, Int.reduceEq, Int.reduceLT, Int.reduceLE, Int.reduceBEq, Int.reduceToNat, Int.toNat_natCast, Int.natCast_zero, r86_T, r86, shD, x19]
  have g19 : (o == 19) = false := by simpa using x19
  by_cases x3 : o = 3
  · have e : shapeV o = (1, 1, false, false, true) := by subst x3; rfl
    rw [e]
    simp only [go_sem, and_self, and_true, true_and, false_and, and_false, Nat.reduceAdd, Nat.reduceMul, Nat.reduceSub, Nat.reduceLeDiff, Nat.reduceLT, Nat.reduceGT, Nat.reduceEqDiff, Nat.reduceBEq, Int.reduceNeg, Int.reduceEq, Int.reduceLT, Int.reduceLE, Int.reduceBEq, Int.reduceToNat, Int.toNat_natCast, Int.natCast_zero, r86_T, r86, shD, x3]
  have g3 : (o == 3) = false := by simpa using x3
  by_cases x5 : o = 5
  · have e : shapeV o = (1, 1, false, false, true) := by subst x5; rfl
    rw [e]
    simp only [go_sem, and_self, and_true, true_and, false_and, and_false, Nat.reduceAdd, Nat.reduceMul, Nat.reduceSub, Nat.reduceLeDiff, Nat.reduceLT, Nat.reduceGT, Nat.reduceEqDiff, Nat.reduceBEq, Int.reduceNeg, Int.reduceEq, Int.reduceLT, Int.reduceLE, Int.reduceBEq, Int.reduceToNat, Int.toNat_natCast, Int.natCast_zero, r86_T, r86, shD, x5]
  have g5 : (o == 5) = false := by simpa using x5
  by_cases x21 : o = 21
  · have e : shapeV o = (1, 1, false, false, true) := by subst x21; rfl
    rw [e]
    simp only [go_sem, and_self, and_true, true_and, false_and, and_false, Nat.reduceAdd, Nat.reduceMul, Nat.reduceSub, Nat.reduceLeDiff, Nat.reduceLT, Nat.reduceGT, Nat.reduceEqDiff, Nat.reduceBEq, Int.reduceNeg, Int.reduceEq, Int.reduceLT, Int.reduceLE, Int.reduceBEq, Int.reduceToNat, Int.toNat_natCast, Int.natCast_zero, r86_T, r86, shD, x21]
  have g21 : (o == 21) = false := by simpa using x21
  by_cases x4 : o = 4
  · have e : shapeV o = (2, 2, false, false, true) := by subst x4; rfl
    rw [e]
    simp only [go_sem, and_self, and_true, true_and, false_and, and_false, Nat.reduceAdd, Nat.reduceMul, Nat.reduceSub, Nat.reduceLeDiff, Nat.reduceLT, Nat.reduceGT, Nat.reduceEqDiff, Nat.reduceBEq, Int.reduceNeg, Int.reduceEq, Int.reduceLT, Int.reduceLE, Int.reduceBEq, Int.reduceToNat, Int.toNat_natCast, Int.natCast_zero, r86_T, r86, shD, x4]
  have g4 : (o == 4) = false := by simpa using x4
  by_cases x6 : o = 6
  · have e : shapeV o = (2, 2, false, false, true) := by subst x6; rfl
    rw [e]
    simp only [go_sem, and_self, and_true, true_and, false_and, and_false, Nat.reduceAdd, Nat.reduceMul, Nat.reduceSub, Nat.reduceLeDiff, Nat.reduceLT, Nat.reduceGT, Nat.reduceEqDiff, Nat.reduceBEq, Int.reduceNeg, Int.reduceEq, Int.reduceLT, Int.reduceLE, Int.reduceBEq, Int.reduceToNat, Int.toNat_natCast, Int.natCast_zero, r86_T, r86, shD, x6]
  have g6 : (o == 6) = false := by simpa using x6
  by_cases x7 : o = 7
  · have e : shapeV o = (2, 2, false, false, true) := by subst x7; rfl
    rw [e]
    simp only [go_sem, and_self, and_true, true_and, false_and, and_false, Nat.reduceAdd, Nat.reduceMul, Nat.reduceSub, Nat.reduceLeDiff, Nat.reduceLT, Nat.reduceGT, Nat.reduceEqDiff, Nat.reduceBEq, Int.reduceNeg, Int.reduceEq, Int.reduceLT, Int.reduceLE, Int.reduceBEq, Int.reduceToNat, Int.toNat_natCast, Int.natCast_zero, r86_T, r86, shD, x7]
  have g7 : (o == 7) = false := by simpa using x7
  by_cases x10 : o = 10
  · have e : shapeV o = (2, 2, false, false, true) := by subst x10; rfl
    rw [e]
    simp only [go_sem, and_self, and_true, true_and, false_and, and_false, Nat.reduceAdd, Nat.reduceMul, Nat.reduceSub, Nat.reduceLeDiff, Nat.reduceLT, Nat.reduceGT, Nat.reduceEqDiff, Nat.reduceBEq, Int.reduceNeg, Int.reduceEq, Int.reduceLT, Int.reduceLE, Int.reduceBEq, Int.reduceToNat, Int.toNat_natCast, Int.natCast_zero, r86_T, r86, shD, x10]
  have g10 : (o == 10) = false := by simpa using x10
  by_cases x15 : o = 15
  · have e : shapeV o = (2, 2, false, false, true) := by subst x15; rfl
    rw [e]
    simp only [go_sem, and_self, and_true, true_and, false_and, and_false, Nat.reduceAdd, Nat.reduceMul, Nat.reduceSub, Nat.reduceLeDiff, Nat.reduceLT, Nat.reduceGT, Nat.reduceEqDiff, Nat.reduceBEq, Int.reduceNeg, Int.reduceEq, Int.reduceLT, Int.reduceLE, Int.reduceBEq, Int.reduceToNat, Int.toNat_natCast, Int.natCast_zero, r86_T, r86, shD, x15]
  have g15 : (o == 15) = false := by simpa using x15
  by_cases x9 : o = 9
  · have e : shapeV o = (3, 3, false, false, true) := by subst x9; rfl
    rw [e]
    simp only [go_sem, and_self, and_true, true_and, false_and, and_false, Nat.reduceAdd, Nat.reduceMul, Nat.reduceSub, Nat.reduceLeDiff, Nat.reduceLT, Nat.reduceGT, Nat.reduceEqDiff, Nat.reduceBEq, Int.reduceNeg, Int.reduceEq, Int.reduceLT, Int.reduceLE, Int.reduceBEq, Int.reduceToNat, Int.toNat_natCast, Int.natCast_zero, r86_T, r86, shD, x9]
  have g9 : (o == 9) = false := by simpa using x9
  by_cases x11 : o = 11
  · have e : shapeV o = (0, 1, false, false, true) := by subst x11; rfl
    rw [e]
    simp only [go_sem, and_self, and_true, true_and, false_and, and_false, Nat.reduceAdd, Nat.reduceMul, Nat.reduceSub, Nat.reduceLeDiff, Nat.reduceLT, Nat.reduceGT, Nat.reduceEqDiff, Nat.reduceBEq, Int.reduceNeg, Int.reduceEq, Int.reduceLT, Int.reduceLE, Int.reduceBEq, Int.reduceToNat, Int.toNat_natCast, Int.natCast_zero, r86_T, r86, shD, x11]
  have g11 : (o == 11) = false := by simpa using x11
  by_cases x12 : o = 12
  · have e : shapeV o = (0, 512, false, true, true) := by subst x12; rfl
    rw [e]
    simp only [go_sem, and_self, and_true, true_and, false_and, and_false, Nat.reduceAdd, Nat.reduceMul, Nat.reduceSub, Nat.reduceLeDiff, Nat.reduceLT, Nat.reduceGT, Nat.reduceEqDiff, Nat.reduceBEq, Int.reduceNeg, Int.reduceEq, Int.reduceLT, Int.reduceLE, Int.reduceBEq, Int.reduceToNat, Int.toNat_natCast, Int.natCast_zero, r86_T, r86, shD, x12]
  have g12 : (o == 12) = false := by simpa using x12
  by_cases x13 : o = 13
  · have e : shapeV o = (3, 3, true, false, true) := by subst x13; rfl
    rw [e]
    simp only [go_sem, and_self, and_true, true_and, false_and, and_false, Nat.reduceAdd, Nat.reduceMul, Nat.reduceSub, Nat.reduceLeDiff, Nat.reduceLT, Nat.reduceGT, Nat.reduceEqDiff, Nat.reduceBEq, Int.reduceNeg, Int.reduceEq, Int.reduceLT, Int.reduceLE, Int.reduceBEq, Int.reduceToNat, Int.toNat_natCast, Int.natCast_zero, r86_T, r86, shD, x13]
  have g13 : (o == 13) = false := by simpa using x13
  by_cases x14 : o = 14
  · have e : shapeV o = (3, 3, true, false, true) := by subst x14; rfl
    rw [e]
    simp only [go_sem, and_self, and_true, true_and, false_and, and_false, Nat.reduceAdd, Nat.reduceMul, Nat.reduceSub, Nat.reduceLeDiff, Nat.reduceLT, Nat.reduceGT, Nat.reduceEqDiff, Nat.reduceBEq, Int.reduceNeg, Int.reduceEq, Int.reduceLT, Int.reduceLE, Int.reduceBEq, Int.reduceToNat, Int.toNat_natCast, Int.natCast_zero, r86_T, r86, shD, x14]
  have g14 : (o == 14) = false := by simpa using x14
  by_cases x16 : o = 16
  · have e : shapeV o = (0, 4, true, false, true) := by subst x16; rfl
    rw [e]
    simp only [go_sem, and_self, and_true, true_and, false_and, and_false, Nat.reduceAdd, Nat.reduceMul, Nat.reduceSub, Nat.reduceLeDiff, Nat.reduceLT, Nat.reduceGT, Nat.reduceEqDiff, Nat.reduceBEq, Int.reduceNeg, Int.reduceEq, Int.reduceLT, Int.reduceLE, Int.reduceBEq, Int.reduceToNat, Int.toNat_natCast, Int.natCast_zero, r86_T, r86, shD, x16]
  have g16 : (o == 16) = false := by simpa using x16
  by_cases x17 : o = 17
  · have e : shapeV o = (2, 2, true, false, true) := by subst x17; rfl
    rw [e]
    simp only [go_sem, and_self, and_true, true_and, false_and, and_false, Nat.reduceAdd, Nat.reduceMul, Nat.reduceSub, Nat.reduceLeDiff, Nat.reduceLT, Nat.reduceGT, Nat.reduceEqDiff, Nat.reduceBEq, Int.reduceNeg, Int.reduceEq, Int.reduceLT, Int.reduceLE, Int.reduceBEq, Int.reduceToNat, Int.toNat_natCast, Int.natCast_zero, r86_T, r86, shD, x17]
  have g17 : (o == 17) = false := by simpa using x17
  by_cases x18 : o = 18
  · have e : shapeV o = (1, 1, true, false, true) := by subst x18; rfl
    rw [e]
    simp only [go_sem, and_self, and_true, true_and, false_and, and_false, Nat.reduceAdd, Nat.reduceMul, Nat.reduceSub, Nat.reduceLeDiff, Nat.reduceLT, Nat.reduceGT, Nat.reduceEqDiff, Nat.reduceBEq, Int.reduceNeg, Int.reduceEq, Int.reduceLT, Int.reduceLE, Int.reduceBEq, Int.reduceToNat, Int.toNat_natCast, Int.natCast_zero, r86_T, r86, shD, x18]
  have g18 : (o == 18) = false := by simpa using x18
  by_cases x20 : o = 20
  · have e : shapeV o = (1, 1, false, true, true) := by subst x20; rfl
    rw [e]
    simp only [go_sem, and_self, and_true, true_and, false_and, and_false, Nat.reduceAdd, Nat.reduceMul, Nat.reduceSub, Nat.reduceLeDiff, Nat.reduceLT, Nat.reduceGT, Nat.reduceEqDiff, Nat.reduceBEq, Int.reduceNeg, Int.reduceEq, Int.reduceLT, Int.reduceLE, Int.reduceBEq, Int.reduceToNat, Int.toNat_natCast, Int.natCast_zero, r86_T, r86, shD, x20]
  have g20 : (o == 20) = false := by simpa using x20
  have e : shapeV o = (0, 0, false, false, false) := by unfold shapeV; simp only [x0, x1, x8, x2, x19, x3, x5, x21, x4, x6, x7, x10, x15, x9, x11, x12, x13, x14, x16, x17, x18, x20, or_self, if_false]
  rw [e]
  simp only [go_sem, and_self, and_true, true_and, false_and, and_false, Nat.reduceAdd, Nat.reduceMul, Nat.reduceSub, Nat.reduceLeDiff, Nat.reduceLT, Nat.reduceGT, Nat.reduceEqDiff, Nat.reduceBEq, Int.reduceNeg, Int.reduceEq, Int.reduceLT, Int.reduceLE, Int.reduceBEq, Int.reduceToNat, Int.toNat_natCast, Int.natCast_zero, r86_T, r86, shD, g0, g1, g8, g2, g19, g3, g5, g21, g4, g6, g7, g10, g15, g9, g11, g12, g13, g14, g16, g17, g18, g20]

def litV (t : ByteArray) (k c s : Int) : Bool :=
  if k = 0 ∨ k = 1 ∨ k = 2 then (c == 0 && s == 0) && !decide (t.size ≠ 0)
  else if k = 3 then numIs c s && !decide (t.size ≠ 0)
  else if k = 4 then (c == 0 && s == 0) && validB t else false
theorem lit_ok (o : Int) (t : ByteArray) (p k c s : Int) (ns xs : D) (ht : t.size ≤ maxLen) (hp : List Ent) : F tab 106 [.d (.agg [iv o, .str t, iv p, iv k, iv c, iv s, ns, xs])] hp = some (.ret (.d (.bool (litV t k c s))) hp) := by
  have e := isE t
  have hv := valid_ok t ht
  have hn := numIs_ok c s
  refine f106 rfl ?_
  unfold litV
  have low : ∀ k0, k = k0 → (k0 = 0 ∨ k0 = 1 ∨ k0 = 2) → (k = 0 ∨ k = 1 ∨ k = 2) := fun k0 h h2 => h ▸ h2
  by_cases k0 : k = 0
  · rw [if_pos (low 0 k0 (by omega))]
    rcases Bool.eq_false_or_eq_true (c == 0 && s == 0) with g | g <;>
      simp only [go_sem, and_self, and_true, true_and, false_and, and_false, Nat.reduceAdd, Nat.reduceMul, Nat.reduceSub, Nat.reduceLeDiff, Nat.reduceLT, Nat.reduceGT, Nat.reduceEqDiff, Nat.reduceBEq, Int.reduceNeg, Int.reduceEq, Int.reduceLT, Int.reduceLE, Int.reduceBEq, Int.reduceToNat, Int.toNat_natCast, Int.natCast_zero, r106_T, r106, k0, eqD_num, strD_eql, e, g, Bool.true_and, Bool.false_and]
  have q0 : (k == 0) = false := by simpa using k0
  by_cases k1 : k = 1
  · rw [if_pos (low 1 k1 (by omega))]
    rcases Bool.eq_false_or_eq_true (c == 0 && s == 0) with g | g <;>
      simp only [go_sem, and_self, and_true, true_and, false_and, and_false, Nat.reduceAdd, Nat.reduceMul, Nat.reduceSub, Nat.reduceLeDiff, Nat.reduceLT, Nat.reduceGT, Nat.reduceEqDiff, Nat.reduceBEq, Int.reduceNeg, Int.reduceEq, Int.reduceLT, Int.reduceLE, Int.reduceBEq, Int.reduceToNat, Int.toNat_natCast, Int.natCast_zero, r106_T, r106, k1, eqD_num, strD_eql, e, g, Bool.true_and, Bool.false_and]
  have q1 : (k == 1) = false := by simpa using k1
  by_cases k2 : k = 2
  · rw [if_pos (low 2 k2 (by omega))]
    rcases Bool.eq_false_or_eq_true (c == 0 && s == 0) with g | g <;>
      simp only [go_sem, and_self, and_true, true_and, false_and, and_false, Nat.reduceAdd, Nat.reduceMul, Nat.reduceSub, Nat.reduceLeDiff, Nat.reduceLT, Nat.reduceGT, Nat.reduceEqDiff, Nat.reduceBEq, Int.reduceNeg, Int.reduceEq, Int.reduceLT, Int.reduceLE, Int.reduceBEq, Int.reduceToNat, Int.toNat_natCast, Int.natCast_zero, r106_T, r106, k2, eqD_num, strD_eql, e, g, Bool.true_and, Bool.false_and]
  have q2 : (k == 2) = false := by simpa using k2
  have kn : ¬ (k = 0 ∨ k = 1 ∨ k = 2) := by omega
  rw [if_neg kn]
  by_cases k3 : k = 3
  · rw [if_pos k3]
    rcases Bool.eq_false_or_eq_true (numIs c s) with g | g <;>
      simp only [go_sem, and_self, and_true, true_and, false_and, and_false, Nat.reduceAdd, Nat.reduceMul, Nat.reduceSub, Nat.reduceLeDiff, Nat.reduceLT, Nat.reduceGT, Nat.reduceEqDiff, Nat.reduceBEq, Int.reduceNeg, Int.reduceEq, Int.reduceLT, Int.reduceLE, Int.reduceBEq, Int.reduceToNat, Int.toNat_natCast, Int.natCast_zero, r106_T, r106, k3, hn, strD_eql, e, g, Bool.true_and, Bool.false_and]
  have q3 : (k == 3) = false := by simpa using k3
  rw [if_neg k3]
  by_cases k4 : k = 4
  · rw [if_pos k4]
    rcases Bool.eq_false_or_eq_true (c == 0 && s == 0) with g | g <;>
      simp only [go_sem, and_self, and_true, true_and, false_and, and_false, Nat.reduceAdd, Nat.reduceMul, Nat.reduceSub, Nat.reduceLeDiff, Nat.reduceLT, Nat.reduceGT, Nat.reduceEqDiff, Nat.reduceBEq, Int.reduceNeg, Int.reduceEq, Int.reduceLT, Int.reduceLE, Int.reduceBEq, Int.reduceToNat, Int.toNat_natCast, Int.natCast_zero, r106_T, r106, k4, eqD_num, hv, g, Bool.true_and, Bool.false_and]
  have q4 : (k == 4) = false := by simpa using k4
  rw [if_neg k4]
  simp only [go_sem, and_self, and_true, true_and, false_and, and_false, Nat.reduceAdd, Nat.reduceMul, Nat.reduceSub, Nat.reduceLeDiff, Nat.reduceLT, Nat.reduceGT, Nat.reduceEqDiff, Nat.reduceBEq, Int.reduceNeg, Int.reduceEq, Int.reduceLT, Int.reduceLE, Int.reduceBEq, Int.reduceToNat, Int.toNat_natCast, Int.natCast_zero, r106_T, r106, q0, q1, q2, q3, q4]

def textV (o : Int) (t : ByteArray) (k c s : Int) (nm : Bool) : Bool :=
  if o = 1 then litV t k c s
  else if (!(c == 0 && s == 0) || k != 0) = true then false
  else if nm = true then identB t
  else if o = 3 then validB t
  else if o = 10 then hasB signsL t
  else !decide (t.size ≠ 0)
theorem text_ok (o : Int) (t : ByteArray) (p k c s : Int) (ns xs : D) (ht : t.size ≤ maxLen) (l m : Int) (nm nn : Bool) (hp : List Ent) : F tab 87 [.d (.agg [iv o, .str t, iv p, iv k, iv c, iv s, ns, xs]), .d (.agg [iv l, iv m, .bool nm, .bool nn])] hp = some (.ret (.d (.bool (textV o t k c s nm))) hp) := by
  have e := isE t
  have hv := valid_ok t ht
  have hi := ident_ok t ht
  have hl := lit_ok o t p k c s ns xs ht
  have hsg := signs_ok
  have hc := con_ok signsL t (by decide)
  refine f87 rfl ?_
  unfold textV
  by_cases o1 : o = 1
  · subst o1
    rw [if_pos rfl]
    simp only [go_sem, and_self, and_true, true_and, false_and, and_false, Nat.reduceAdd, Nat.reduceMul, Nat.reduceSub, Nat.reduceLeDiff, Nat.reduceLT, Nat.reduceGT, Nat.reduceEqDiff, Nat.reduceBEq, Int.reduceNeg, Int.reduceEq, Int.reduceLT, Int.reduceLE, Int.reduceBEq, Int.reduceToNat, Int.toNat_natCast, Int.natCast_zero, r87_T, r87, hl]
  have q1 : (o == 1) = false := by simpa using o1
  rw [if_neg o1]
  rcases Bool.eq_false_or_eq_true (c == 0 && s == 0) with g1 | g1
  rotate_left
  · simp only [go_sem, and_self, and_true, true_and, false_and, and_false, Nat.reduceAdd, Nat.reduceMul, Nat.reduceSub, Nat.reduceLeDiff, Nat.reduceLT, Nat.reduceGT, Nat.reduceEqDiff, Nat.reduceBEq, Int.reduceNeg, Int.reduceEq, Int.reduceLT, Int.reduceLE, Int.reduceBEq, Int.reduceToNat, Int.toNat_natCast, Int.natCast_zero, r87_T, r87, q1, eqD_num, g1, Bool.not_false, Bool.true_or]
  rcases Bool.eq_false_or_eq_true (k != 0) with g2 | g2
  · simp only [go_sem, and_self, and_true, true_and, false_and, and_false, Nat.reduceAdd, Nat.reduceMul, Nat.reduceSub, Nat.reduceLeDiff, Nat.reduceLT, Nat.reduceGT, Nat.reduceEqDiff, Nat.reduceBEq, Int.reduceNeg, Int.reduceEq, Int.reduceLT, Int.reduceLE, Int.reduceBEq, Int.reduceToNat, Int.toNat_natCast, Int.natCast_zero, r87_T, r87, q1, eqD_num, g1, g2, Bool.not_true, Bool.false_or]
  simp only [g1, g2, Bool.not_true, Bool.or_self, Bool.false_eq_true, if_false]
  cases nm
  rotate_left
  · simp only [go_sem, and_self, and_true, true_and, false_and, and_false, Nat.reduceAdd, Nat.reduceMul, Nat.reduceSub, Nat.reduceLeDiff, Nat.reduceLT, Nat.reduceGT, Nat.reduceEqDiff, Nat.reduceBEq, Int.reduceNeg, Int.reduceEq, Int.reduceLT, Int.reduceLE, Int.reduceBEq, Int.reduceToNat, Int.toNat_natCast, Int.natCast_zero, r87_T, r87, q1, eqD_num, g1, g2, Bool.not_true, Bool.false_or, hi]
  simp only [Bool.false_eq_true, if_false]
  by_cases o3 : o = 3
  · subst o3
    rw [if_pos rfl]
    simp only [go_sem, and_self, and_true, true_and, false_and, and_false, Nat.reduceAdd, Nat.reduceMul, Nat.reduceSub, Nat.reduceLeDiff, Nat.reduceLT, Nat.reduceGT, Nat.reduceEqDiff, Nat.reduceBEq, Int.reduceNeg, Int.reduceEq, Int.reduceLT, Int.reduceLE, Int.reduceBEq, Int.reduceToNat, Int.toNat_natCast, Int.natCast_zero, r87_T, r87, eqD_num, g1, g2, Bool.not_true, Bool.false_or, hv]
  have q3 : (o == 3) = false := by simpa using o3
  rw [if_neg o3]
  by_cases o10 : o = 10
  · subst o10
    rw [if_pos rfl]
    simp only [go_sem, and_self, and_true, true_and, false_and, and_false, Nat.reduceAdd, Nat.reduceMul, Nat.reduceSub, Nat.reduceLeDiff, Nat.reduceLT, Nat.reduceGT, Nat.reduceEqDiff, Nat.reduceBEq, Int.reduceNeg, Int.reduceEq, Int.reduceLT, Int.reduceLE, Int.reduceBEq, Int.reduceToNat, Int.toNat_natCast, Int.natCast_zero, r87_T, r87, eqD_num, g1, g2, Bool.not_true, Bool.false_or, hsg, hc]
  have q10 : (o == 10) = false := by simpa using o10
  rw [if_neg o10]
  simp only [go_sem, and_self, and_true, true_and, false_and, and_false, Nat.reduceAdd, Nat.reduceMul, Nat.reduceSub, Nat.reduceLeDiff, Nat.reduceLT, Nat.reduceGT, Nat.reduceEqDiff, Nat.reduceBEq, Int.reduceNeg, Int.reduceEq, Int.reduceLT, Int.reduceLE, Int.reduceBEq, Int.reduceToNat, Int.toNat_natCast, Int.natCast_zero, r87_T, r87, q1, q3, q10, eqD_num, g1, g2, Bool.not_true, Bool.false_or, strD_eql, e]
end Go.Pe.T

namespace Go.Pe.T

/-! ### names; Is -/
theorem strs_w (a : List ByteArray) : ((a.map D.str).all fun y => y.width == 1) = true := by
  simp [List.all_eq_true, D.width, D.cells]
theorem cut0 (xs : List D) (i : Nat) : cutD xs 0 (i : Int) = xs.take i := by
  simp [cutD]
def unF : List ByteArray → List ByteArray → Bool
  | _, [] => true
  | pre, x :: r => (validB x && !hasB pre x) && unF (pre ++ [x]) r

def UnLoop (l : List ByteArray) (i : Nat) : Prop :=
  V (F tab) r110_B0 (r110_S0 (.d (.sl (l.map .str))) (.d (.sl (l.map .str))) (.d (iv l.length)) (.d (iv i)) []) = if unF (l.take i) (l.drop i) then some (.norm, r110_E0 []) else some (.ret, r110_R (.d (.bool false)) [])
theorem un_end (l : List ByteArray) (i : Nat) (hi : l.length ≤ i) : UnLoop l i := by
  have h1 : ((i : Int) < (l.length : Int)) = False := eq_false (by omega)
  unfold UnLoop
  rw [r110_B0_eq, List.drop_of_length_le hi]
  simp (disch := omega) only [go_sem, and_self, and_true, true_and, false_and, and_false, Nat.reduceAdd, Nat.reduceMul, Nat.reduceSub, Nat.reduceLeDiff, Nat.reduceLT, Nat.reduceGT, Nat.reduceEqDiff, Nat.reduceBEq, Int.reduceNeg, Int.reduceEq, Int.reduceLT, Int.reduceLE, Int.reduceBEq, Int.reduceToNat, Int.toNat_natCast, Int.natCast_zero, r110_C0, h1, unF]
theorem un_step (l : List ByteArray) (i : Nat) (hi : i < l.length) (hl : l.length ≤ maxLen) (hs : ∀ x ∈ l, x.size ≤ maxLen) (ih : UnLoop l (i + 1)) : UnLoop l i := by
  have hmx : maxLen = 9223372036854775807 := by decide
  have h1 : ((i : Int) < (l.length : Int)) = True := eq_true (by omega)
  have hi0 : (0 ≤ (i : Int)) = True := eq_true (by omega)
  have hil : ((i : Int) ≤ (l.length : Int)) = True := eq_true (by omega)
  have va : (l.map D.str)[i]? = some (.str l[i]) := by simp [hi]
  have hv := valid_ok l[i] (hs _ (List.getElem_mem hi))
  have hc := con_ok (l.take i) l[i] (by rw [List.length_take]; omega)
  rw [List.map_take] at hc
  unfold UnLoop at ih ⊢
  rw [Int.natCast_add, Int.natCast_one] at ih
  rw [r110_B0_eq, List.drop_eq_getElem_cons hi]
  simp only [unF, List.take_append_getElem]
  rcases Bool.eq_false_or_eq_true (validB l[i]) with g1 | g1
  · rcases Bool.eq_false_or_eq_true (hasB (l.take i) l[i]) with g2 | g2
    · simp (disch := omega) only [go_sem, and_self, and_true, true_and, false_and, and_false, Nat.reduceAdd, Nat.reduceMul, Nat.reduceSub, Nat.reduceLeDiff, Nat.reduceLT, Nat.reduceGT, Nat.reduceEqDiff, Nat.reduceBEq, Int.reduceNeg, Int.reduceEq, Int.reduceLT, Int.reduceLE, Int.reduceBEq, Int.reduceToNat, Int.toNat_natCast, Int.natCast_zero, r110_C0, h1, hi0, hil, va, List.length_map, w64, hv, hc, g1, g2, strs_w, cut0, decide_true, Bool.not_true, Bool.not_false, Bool.true_and, Bool.and_false, Bool.false_and, List.drop_zero, Nat.sub_zero]
    · simp (disch := omega) only [go_sem, and_self, and_true, true_and, false_and, and_false, Nat.reduceAdd, Nat.reduceMul, Nat.reduceSub, Nat.reduceLeDiff, Nat.reduceLT, Nat.reduceGT, Nat.reduceEqDiff, Nat.reduceBEq, Int.reduceNeg, Int.reduceEq, Int.reduceLT, Int.reduceLE, Int.reduceBEq, Int.reduceToNat, Int.toNat_natCast, Int.natCast_zero, r110_C0, h1, hi0, hil, va, List.length_map, w64, hv, hc, g1, g2, strs_w, cut0, decide_true, Bool.not_true, Bool.not_false, Bool.true_and, Bool.and_false, Bool.false_and, List.drop_zero, Nat.sub_zero]
      exact ih
  · simp (disch := omega) only [go_sem, and_self, and_true, true_and, false_and, and_false, Nat.reduceAdd, Nat.reduceMul, Nat.reduceSub, Nat.reduceLeDiff, Nat.reduceLT, Nat.reduceGT, Nat.reduceEqDiff, Nat.reduceBEq, Int.reduceNeg, Int.reduceEq, Int.reduceLT, Int.reduceLE, Int.reduceBEq, Int.reduceToNat, Int.toNat_natCast, Int.natCast_zero, r110_C0, h1, hi0, hil, va, List.length_map, w64, hv, g1, decide_true, Bool.not_true, Bool.not_false, Bool.true_and, Bool.and_false, Bool.false_and]
theorem un_loop (l : List ByteArray) (hl : l.length ≤ maxLen) (hs : ∀ x ∈ l, x.size ≤ maxLen) : ∀ (j i : Nat), i + j = l.length → UnLoop l i
  | 0, i, hi => un_end l i (by omega)
  | j + 1, i, hi => un_step l i (by omega) hl hs (un_loop l hl hs j (i + 1) (by omega))
theorem unlike_ok (l : List ByteArray) (hl : l.length ≤ maxLen) (hs : ∀ x ∈ l, x.size ≤ maxLen) (hp : List Ent) : F tab 110 [.d (.sl (l.map .str))] hp = some (.ret (.d (.bool (unF [] l))) hp) := by
  have hL := un_loop l hl hs l.length 0 (by omega)
  unfold UnLoop at hL
  rw [List.drop_zero, List.take_zero] at hL
  refine f110 rfl ?_
  simp (disch := omega) only [go_sem, and_self, and_true, true_and, false_and, and_false, Nat.reduceAdd, Nat.reduceMul, Nat.reduceSub, Nat.reduceLeDiff, Nat.reduceLT, Nat.reduceGT, Nat.reduceEqDiff, Nat.reduceBEq, Int.reduceNeg, Int.reduceEq, Int.reduceLT, Int.reduceLE, Int.reduceBEq, Int.reduceToNat, Int.toNat_natCast, Int.natCast_zero, r110_T, r110, List.length_map]
  rw [r110_B0_n]
  erw [hL]
  rcases Bool.eq_false_or_eq_true (unF [] l) with g | g <;> rw [g] <;> simp only [go_sem, and_self, and_true, true_and, false_and, and_false, Nat.reduceAdd, Nat.reduceMul, Nat.reduceSub, Nat.reduceLeDiff, Nat.reduceLT, Nat.reduceGT, Nat.reduceEqDiff, Nat.reduceBEq, Int.reduceNeg, Int.reduceEq, Int.reduceLT, Int.reduceLE, Int.reduceBEq, Int.reduceToNat, Int.toNat_natCast, Int.natCast_zero]

def name2 : List ByteArray → Bool
  | [a, b] => nameB a && nameB b
  | _ => false
def namesV (o : Int) (ns : List ByteArray) (n : Nat) (nn : Bool) : Bool :=
  if nn = false then ((ns.length : Int) == 0)
  else if o = 12 then ((ns.length : Int) == (n : Int)) && unF [] ns
  else name2 ns
set_option maxHeartbeats 2000000 in
theorem names_ok (o : Int) (t p k c s : D) (ns : List ByteArray) (xs : List Xp) (hl : ns.length ≤ maxLen) (hs : ∀ x ∈ ns, x.size ≤ maxLen) (l m : Int) (nm nn : Bool) (hp : List Ent) :
    F tab 88 [.d (.agg [iv o, t, p, k, c, s, .sl (ns.map .str), .sl (Xp.encs xs)]), .d (.agg [iv l, iv m, .bool nm, .bool nn])] hp = some (.ret (.d (.bool (namesV o ns xs.length nn))) hp) := by
  have hu := unlike_ok ns hl hs
  refine f88 rfl ?_
  unfold namesV
  cases nn
  · simp only [go_sem, and_self, and_true, true_and, false_and, and_false, Nat.reduceAdd, Nat.reduceMul, Nat.reduceSub, Nat.reduceLeDiff, Nat.reduceLT, Nat.reduceGT, Nat.reduceEqDiff, Nat.reduceBEq, Int.reduceNeg, Int.reduceEq, Int.reduceLT, Int.reduceLE, Int.reduceBEq, Int.reduceToNat, Int.toNat_natCast, Int.natCast_zero, r88_T, r88, List.length_map]
  · simp only [Bool.true_eq_false, if_false]
    by_cases o12 : o = 12
    · rw [if_pos o12]
      rcases Bool.eq_false_or_eq_true ((ns.length : Int) == (xs.length : Int)) with g | g <;>
        simp only [go_sem, and_self, and_true, true_and, false_and, and_false, Nat.reduceAdd, Nat.reduceMul, Nat.reduceSub, Nat.reduceLeDiff, Nat.reduceLT, Nat.reduceGT, Nat.reduceEqDiff, Nat.reduceBEq, Int.reduceNeg, Int.reduceEq, Int.reduceLT, Int.reduceLE, Int.reduceBEq, Int.reduceToNat, Int.toNat_natCast, Int.natCast_zero, r88_T, r88, o12, List.length_map, xencs_len, hu, g, Bool.true_and, Bool.false_and]
    · have q12 : (o == 12) = false := by simpa using o12
      rw [if_neg o12]
      have n0 : ((0 : Nat) : Int) = 0 := rfl
      have n1 : ((1 : Nat) : Int) = 1 := rfl
      have n2 : ((2 : Nat) : Int) = 2 := rfl
      match ns, hs with
      | [], _ => simp only [go_sem, and_self, and_true, true_and, false_and, and_false, Nat.reduceAdd, Nat.reduceMul, Nat.reduceSub, Nat.reduceLeDiff, Nat.reduceLT, Nat.reduceGT, Nat.reduceEqDiff, Nat.reduceBEq, Int.reduceNeg, Int.reduceEq, Int.reduceLT, Int.reduceLE, Int.reduceBEq, Int.reduceToNat, Int.toNat_natCast, Int.natCast_zero, r88_T, r88, q12, List.length_nil, List.map_nil, name2, n0]
      | [a], _ => simp only [go_sem, and_self, and_true, true_and, false_and, and_false, Nat.reduceAdd, Nat.reduceMul, Nat.reduceSub, Nat.reduceLeDiff, Nat.reduceLT, Nat.reduceGT, Nat.reduceEqDiff, Nat.reduceBEq, Int.reduceNeg, Int.reduceEq, Int.reduceLT, Int.reduceLE, Int.reduceBEq, Int.reduceToNat, Int.toNat_natCast, Int.natCast_zero, r88_T, r88, q12, List.length_nil, List.length_cons, List.map_cons, List.map_nil, name2, n1]
      | [a, b], hs =>
        have h1 := name_ok a (hs a (by simp))
        have h2 := name_ok b (hs b (by simp))
        rcases Bool.eq_false_or_eq_true (nameB a) with g | g <;>
          simp only [go_sem, and_self, and_true, true_and, false_and, and_false, Nat.reduceAdd, Nat.reduceMul, Nat.reduceSub, Nat.reduceLeDiff, Nat.reduceLT, Nat.reduceGT, Nat.reduceEqDiff, Nat.reduceBEq, Int.reduceNeg, Int.reduceEq, Int.reduceLT, Int.reduceLE, Int.reduceBEq, Int.reduceToNat, Int.toNat_natCast, Int.natCast_zero, r88_T, r88, q12, List.length_nil, List.length_cons, List.map_cons, List.map_nil, name2, h1, h2, g, n2, Bool.true_and, Bool.false_and]
      | a :: b :: c :: r, _ =>
        have g : (((a :: b :: c :: r).length : Int) == 2) = false := by simp only [List.length_cons, beq_eq_false_iff_ne]; omega
        have hn : name2 (a :: b :: c :: r) = false := rfl
        generalize a :: b :: c :: r = w at g hn ⊢
        simp only [go_sem, and_self, and_true, true_and, false_and, and_false, Nat.reduceAdd, Nat.reduceMul, Nat.reduceSub, Nat.reduceLeDiff, Nat.reduceLT, Nat.reduceGT, Nat.reduceEqDiff, Nat.reduceBEq, Int.reduceNeg, Int.reduceEq, Int.reduceLT, Int.reduceLE, Int.reduceBEq, Int.reduceToNat, Int.toNat_natCast, Int.natCast_zero, r88_T, r88, q12, List.length_map, hn, g]

def fitsV : Xp → Bool
  | .mk o t p k c s ns xs => ((shapeV o).2.2.2.2 && (p == 0 && (decide ((xs.length : Int) ≥ (shapeV o).1) && (decide ((xs.length : Int) ≤ (shapeV o).2.1) && (textV o t k c s (shapeV o).2.2.1 && namesV o ns xs.length (shapeV o).2.2.2.1)))))
theorem fits_ok (x : Xp) (hx : x.ok) (hp : List Ent) : F tab 58 [.d x.enc] hp = some (.ret (.d (.bool (fitsV x))) hp) := by
  obtain ⟨o, t, p, k, c, s, ns, xs⟩ := x
  simp only [Xp.ok] at hx
  have h1 := shape_ok o
  have h2 := text_ok o t p k c s (.sl (ns.map .str)) (.sl (Xp.encs xs)) hx.2.1
  have h3 := names_ok o (.str t) (iv p) (iv k) (iv c) (iv s) ns xs hx.2.2.2.2.2.2.1 hx.2.2.2.2.2.2.2.1
  simp only [Xp.enc, fitsV]
  refine f58 rfl ?_
  generalize shapeV o = sh at *
  obtain ⟨l, m, nm, nn, ok⟩ := sh
  simp only [shD] at h1 h2 h3 ⊢
  cases ok
  · simp only [go_sem, and_self, and_true, true_and, false_and, and_false, Nat.reduceAdd, Nat.reduceMul, Nat.reduceSub, Nat.reduceLeDiff, Nat.reduceLT, Nat.reduceGT, Nat.reduceEqDiff, Nat.reduceBEq, Int.reduceNeg, Int.reduceEq, Int.reduceLT, Int.reduceLE, Int.reduceBEq, Int.reduceToNat, Int.toNat_natCast, Int.natCast_zero, r58_T, r58, h1, Bool.false_and]
  rcases Bool.eq_false_or_eq_true (p == 0) with g1 | g1
  rotate_left
  · simp only [go_sem, and_self, and_true, true_and, false_and, and_false, Nat.reduceAdd, Nat.reduceMul, Nat.reduceSub, Nat.reduceLeDiff, Nat.reduceLT, Nat.reduceGT, Nat.reduceEqDiff, Nat.reduceBEq, Int.reduceNeg, Int.reduceEq, Int.reduceLT, Int.reduceLE, Int.reduceBEq, Int.reduceToNat, Int.toNat_natCast, Int.natCast_zero, r58_T, r58, h1, g1, Bool.true_and, Bool.false_and]
  rcases Bool.eq_false_or_eq_true (decide ((xs.length : Int) ≥ l)) with g2 | g2
  rotate_left
  · simp only [go_sem, and_self, and_true, true_and, false_and, and_false, Nat.reduceAdd, Nat.reduceMul, Nat.reduceSub, Nat.reduceLeDiff, Nat.reduceLT, Nat.reduceGT, Nat.reduceEqDiff, Nat.reduceBEq, Int.reduceNeg, Int.reduceEq, Int.reduceLT, Int.reduceLE, Int.reduceBEq, Int.reduceToNat, Int.toNat_natCast, Int.natCast_zero, r58_T, r58, h1, g1, g2, xencs_len, Bool.true_and, Bool.false_and]
  rcases Bool.eq_false_or_eq_true (decide ((xs.length : Int) ≤ m)) with g3 | g3
  rotate_left
  · simp only [go_sem, and_self, and_true, true_and, false_and, and_false, Nat.reduceAdd, Nat.reduceMul, Nat.reduceSub, Nat.reduceLeDiff, Nat.reduceLT, Nat.reduceGT, Nat.reduceEqDiff, Nat.reduceBEq, Int.reduceNeg, Int.reduceEq, Int.reduceLT, Int.reduceLE, Int.reduceBEq, Int.reduceToNat, Int.toNat_natCast, Int.natCast_zero, r58_T, r58, h1, g1, g2, g3, xencs_len, Bool.true_and, Bool.false_and]
  have h2 := h2 l m nm nn
  have h3 := h3 l m nm nn
  rcases Bool.eq_false_or_eq_true (textV o t k c s nm) with g4 | g4 <;>
    simp only [go_sem, and_self, and_true, true_and, false_and, and_false, Nat.reduceAdd, Nat.reduceMul, Nat.reduceSub, Nat.reduceLeDiff, Nat.reduceLT, Nat.reduceGT, Nat.reduceEqDiff, Nat.reduceBEq, Int.reduceNeg, Int.reduceEq, Int.reduceLT, Int.reduceLE, Int.reduceBEq, Int.reduceToNat, Int.toNat_natCast, Int.natCast_zero, r58_T, r58, h1, g1, g2, g3, g4, h2, h3, xencs_len, Bool.true_and, Bool.false_and]

theorem is_step (x : Xp) (hx : x.ok) (left : Int) (h0 : 0 ≤ left) (h5 : left ≤ 1000) : F tab 57 [.d x.enc, .ptr 0 0] [.box [.d (iv left)]] = some (.ret (.d (.bool (decide (left - 1 ≥ 0) && fitsV x))) [.box [.d (iv (left - 1))]]) := by
  have hf := fits_ok x hx
  obtain ⟨o, t, p, k, c, s, ns, ys, ex⟩ := xenc_as x
  rw [ex] at hf ⊢
  refine f57 ?_
  rcases Bool.eq_false_or_eq_true (decide (left - 1 ≥ 0)) with g | g <;>
    simp (disch := omega) only [go_sem, and_self, and_true, true_and, false_and, and_false, Nat.reduceAdd, Nat.reduceMul, Nat.reduceSub, Nat.reduceLeDiff, Nat.reduceLT, Nat.reduceGT, Nat.reduceEqDiff, Nat.reduceBEq, Int.reduceNeg, Int.reduceEq, Int.reduceLT, Int.reduceLE, Int.reduceBEq, Int.reduceToNat, Int.toNat_natCast, Int.natCast_zero, r57_T, r57, hf, g, w64, Bool.true_and, Bool.false_and]

theorem is_runs : ∀ (l : List Xp) (left : Int), (∀ x ∈ l, x.ok) → 0 ≤ left → left ≤ 1000 → ∃ hp', Runs 57 [.ptr 0 0] [.box [.d (iv left)]] l hp' (decide ((l.length : Int) ≤ left) && l.all fitsV)
  | [], left, _, h0, h5 => by
    have e : (decide ((([] : List Xp).length : Int) ≤ left) && ([] : List Xp).all fitsV) = true := by simp; omega
    rw [e]
    exact ⟨_, .nil⟩
  | x :: l, left, hk, h0, h5 => by
    have hs := is_step x (hk x (by simp)) left h0 h5
    by_cases g : (decide (left - 1 ≥ 0) && fitsV x) = true
    · rw [g] at hs
      simp only [Bool.and_eq_true, decide_eq_true_eq] at g
      obtain ⟨hp', hr⟩ := is_runs l (left - 1) (fun y hy => hk y (by simp [hy])) (by omega) (by omega)
      have e : (decide (((x :: l).length : Int) ≤ left) && (x :: l).all fitsV) = (decide ((l.length : Int) ≤ left - 1) && l.all fitsV) := by
        simp only [List.all_cons, g.2, Bool.true_and, List.length_cons]
        congr 1
        apply decide_eq_decide.2
        omega
      rw [e]
      exact ⟨hp', .step hs hr⟩
    · have g' : (decide (left - 1 ≥ 0) && fitsV x) = false := by simpa using g
      rw [g'] at hs
      have e : (decide (((x :: l).length : Int) ≤ left) && (x :: l).all fitsV) = false := by
        simp only [List.all_cons, List.length_cons]
        simp only [Bool.and_eq_false_iff, decide_eq_false_iff_not] at g' ⊢
        rcases g' with h | h
        · left; omega
        · right; left; exact h
      rw [e]
      exact ⟨_, .stop hs⟩

def isV (e : Xp) : Bool := decide (e.pre.length ≤ 512) && e.pre.all fitsV
theorem is_ok (e : Xp) (he : e.ok) (hp : List Ent) : F tab 34 [.d e.enc] hp = some (.ret (.d (.bool (isV e))) hp) := by
  obtain ⟨hp', hr⟩ := is_runs e.pre 512 (pre_ok e he) (by omega) (by omega)
  have hw := go_ok _ _ e he _ _ _ hr
  have e1 : (decide ((e.pre.length : Int) ≤ 512) && e.pre.all fitsV) = isV e := by unfold isV; congr 1; apply decide_eq_decide.2; omega
  rw [e1] at hw
  obtain ⟨o, t, p, k, c, s, ns, ys, ex⟩ := xenc_as e
  rw [ex] at hw ⊢
  refine f34 rfl ?_
  simp (disch := omega) only [go_sem, and_self, and_true, true_and, false_and, and_false, Nat.reduceAdd, Nat.reduceMul, Nat.reduceSub, Nat.reduceLeDiff, Nat.reduceLT, Nat.reduceGT, Nat.reduceEqDiff, Nat.reduceBEq, Int.reduceNeg, Int.reduceEq, Int.reduceLT, Int.reduceLE, Int.reduceBEq, Int.reduceToNat, Int.toNat_natCast, Int.natCast_zero, r34_T, r34, hw]
end Go.Pe.T
