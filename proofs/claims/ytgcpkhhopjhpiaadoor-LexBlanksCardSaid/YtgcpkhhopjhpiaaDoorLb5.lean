/- A part of the proof of: For every text q and every row of bytes b: LexBlanks(q, b) is true, and it ends without a panic. -/
import Derived.Test.YtgcpkhhopjhpiaaDoorLb4
import Derived.Test.YtgcpkhhopjhpiaaDoorPe4
set_option linter.unusedSimpArgs false
set_option linter.unusedVariables false
set_option maxRecDepth 100000

namespace Go.Pe.T
theorem bk_loop (q : ByteArray) (bs : List Int) (hb : ∀ b ∈ bs, 0 ≤ b ∧ b < 256) (hl : bs.length ≤ 20) : ∀ (f i : Nat) (L : List UInt8), i + f = bs.length → L.length + 8 * f ≤ 1000 → BkIs q bs L i
  | 0, i, L, h, hL => bk_step q bs hb hl L (by omega) i (by omega) fun h' => absurd h' (by omega)
  | f + 1, i, L, h, hL => bk_step q bs hb hl L (by omega) i (by omega) fun _ x hx => bk_loop q bs hb hl f (i + 1) _ (by omega) (by rw [List.length_append]; omega)
def BjIs (n : Nat) (l : TL) (i : Nat) : Prop :=
  V (F tab) r4_B1 (r4_S1 (.d (iv n)) (.d (.sl (tkDs l))) (.d (.sl (tkDs (l.map fun x => (x.1, x.2 + n))))) (.d (iv i)) []) = some (.norm, r4_E1 [])
set_option maxHeartbeats 1000000 in
theorem bj_step (n : Nat) (hn : n ≤ 3000) (l : TL) (hl2 : l.length ≤ 3000) (hat : ∀ x ∈ l, x.2 ≤ 3000) (i : Nat) (hi : i ≤ l.length) (ih : i < l.length → BjIs n l (i + 1)) : BjIs n l i := by
  have a1 := tkDs_len l
  have a3 : (tkDs (l.map fun x => (x.1, x.2 + n))).length = l.length := by rw [tkDs_len]; simp
  obtain ⟨W, hW⟩ : ∃ W, W = l.map fun x => (x.1, x.2 + n) := ⟨_, rfl⟩
  unfold BjIs at ih ⊢
  rw [← hW] at a3 ih ⊢
  by_cases h : i < l.length
  · have ih := ih h
    have h1 : ((i : Int) < (l.length : Int)) = True := eq_true (by omega)
    have i0 : (0 ≤ (i : Int)) = True := eq_true (by omega)
    rw [Int.natCast_add, Int.natCast_one] at ih
    obtain ⟨x, g1⟩ : ∃ x, l[i]? = some x := ⟨_, List.getElem?_eq_getElem h⟩
    have hx : x.2 ≤ 3000 := hat x (List.mem_of_getElem? g1)
    have g2 : W[i]? = some (x.1, x.2 + n) := by
      rw [hW, List.getElem?_map, g1]
      rfl
    have v1 := tkDs_get g1
    have v2 := tkDs_get g2
    have e1 : ((x.2 + n : Nat) : Int) = (x.2 : Int) + (n : Int) := by omega
    simp only [e1] at v2
    have k1 : (x.1.k != x.1.k) = false := by simp
    have k2 : strD .neq (bt x.1.t) (bt x.1.t) = some (.bool false) := by simp [strD]
    have k3 := eqD_num x.1.c x.1.s x.1.c x.1.s
    have k4 : (x.1.c == x.1.c && x.1.s == x.1.s) = true := by simp
    have k5 : ((x.2 : Int) + (n : Int) - (x.2 : Int) != (n : Int)) = false := by simp; omega
    rw [k4] at k3
    generalize x.1.k = k at *
    generalize x.1.c = c at *
    generalize x.1.s = s at *
    generalize bt x.1.t = t at *
    clear hW g1 g2
    generalize tkDs W = DW at *
    generalize tkDs l = DL at *
    rw [r4_B1_eq]
    simp (disch := omega) only [go_sem, and_self, and_true, true_and, false_and, and_false, Nat.reduceAdd, Nat.reduceMul, Nat.reduceSub, Nat.reduceLeDiff, Nat.reduceLT, Nat.reduceGT, Nat.reduceEqDiff, Nat.reduceBEq, Int.reduceNeg, Int.reduceEq, Int.reduceLT, Int.reduceLE, Int.reduceBEq, Int.reduceToNat, Int.toNat_natCast, Int.natCast_zero, r4_C1, h1, i0, a1, a3, v1, v2, k1, k2, k3, k5, w64]
    exact ih
  · have h1 : ((i : Int) < (l.length : Int)) = False := eq_false (by omega)
    clear hW
    generalize tkDs W = DW at *
    generalize tkDs l = DL at *
    rw [r4_B1_eq]
    simp (disch := omega) only [go_sem, and_self, and_true, true_and, false_and, and_false, Nat.reduceAdd, Nat.reduceMul, Nat.reduceSub, Nat.reduceLeDiff, Nat.reduceLT, Nat.reduceGT, Nat.reduceEqDiff, Nat.reduceBEq, Int.reduceNeg, Int.reduceEq, Int.reduceLT, Int.reduceLE, Int.reduceBEq, Int.reduceToNat, Int.toNat_natCast, Int.natCast_zero, r4_C1, h1, a1, a3, w64]
theorem bj_loop (n : Nat) (hn : n ≤ 3000) (l : TL) (hl2 : l.length ≤ 3000) (hat : ∀ x ∈ l, x.2 ≤ 3000) : ∀ (f i : Nat), i + f = l.length → BjIs n l i
  | 0, i, h => bj_step n hn l hl2 hat i (by omega) fun h' => absurd h' (by omega)
  | f + 1, i, h => bj_step n hn l hl2 hat i (by omega) fun _ => bj_loop n hn l hl2 hat f (i + 1) (by omega)
theorem tkP_pos : ∀ (f : Nat) (R : List UInt8) (at' p : Nat) (e : Int), tkP f R at' = .inr (p, e) → p ≤ at' + R.length
  | 0, R, at', p, e, h => by
    simp only [tkP, Sum.inr.injEq, Prod.mk.injEq] at h
    omega
  | f + 1, R, at', p, e, h => by
    have hbd := blkA_le false R
    unfold tkP at h
    split at h
    · cases h
    · rename_i hne
      split at h
      · rename_i h0
        obtain ⟨m1, m2⟩ := oneR_len hne h0
        cases hh : tkP f ((R.drop (blkA false R)).drop (oneR (R.drop (blkA false R))).2.1) (at' + blkA false R + (oneR (R.drop (blkA false R))).2.1) with
        | inl l' => rw [hh] at h; cases h
        | inr y =>
          obtain ⟨p', e'⟩ := y
          rw [hh] at h
          cases h
          have := tkP_pos f _ _ p e hh
          rw [List.length_drop, List.length_drop] at this
          rw [List.length_drop] at m2
          omega
      · cases h
        omega
set_option maxHeartbeats 1000000 in
theorem LexBlanks_bt (Q : List UInt8) (bs : List Int) (hb : ∀ b ∈ bs, 0 ≤ b ∧ b < 256) (hp : List Ent) : F tab 4 [.d (.str (bt Q)), .d (.sl (byD bs))] hp = some (.ret (.d (.bool true)) hp) := by
  have hzq := bt_size Q
  have hzb : (byD bs).length = bs.length := by simp [byD]
  have hL := lives13_ok
  refine f4 rfl ?_
  by_cases hQ : (Q.length : Int) > 2000
  · simp (disch := omega) only [go_sem, and_self, and_true, true_and, false_and, and_false, Nat.reduceAdd, Nat.reduceMul, Nat.reduceSub, Nat.reduceLeDiff, Nat.reduceLT, Nat.reduceGT, Nat.reduceEqDiff, Nat.reduceBEq, Int.reduceNeg, Int.reduceEq, Int.reduceLT, Int.reduceLE, Int.reduceBEq, Int.reduceToNat, Int.toNat_natCast, Int.natCast_zero, r4_T, r4, hzq, hzb, hQ, hL]
  by_cases hB : (bs.length : Int) > 20
  · simp (disch := omega) only [go_sem, and_self, and_true, true_and, false_and, and_false, Nat.reduceAdd, Nat.reduceMul, Nat.reduceSub, Nat.reduceLeDiff, Nat.reduceLT, Nat.reduceGT, Nat.reduceEqDiff, Nat.reduceBEq, Int.reduceNeg, Int.reduceEq, Int.reduceLT, Int.reduceLE, Int.reduceBEq, Int.reduceToNat, Int.toNat_natCast, Int.natCast_zero, r4_T, r4, hzq, hzb, hQ, hB, hL]
  have hbk := bk_loop (bt Q) bs hb (by omega) bs.length 0 [] (by omega) (by simp; omega)
  unfold BkIs at hbk
  rw [List.drop_zero, List.nil_append] at hbk
  have hbk : V (F tab) r4_B0 (r4_S0 (.d (.str (bt Q))) (.d (.sl (byD bs))) (.own 5 []) (.d (iv 0)) []) = some (.norm, r4_E0 (.d (.str (bt Q))) (.own 5 (bytesD (pcsB bs))) []) := hbk
  have hpl := pcsB_len bs
  have t1 := tokens_ok Q (by omega)
  have t2 := tokens_ok (pcsB bs ++ Q) (by simp; omega)
  rw [tkR_blanks] at t2
  have s1 := str_add (pcsB bs) Q (by omega)
  have hcv := asB (pcsB bs)
  have hfo : (⟨(pcsB bs).toArray⟩ : ByteArray) = bt (pcsB bs) := rfl
  have hbl : (bytesD (pcsB bs)).length = (pcsB bs).length := by simp [bytesD]
  have z0 : ((0 : Int) != 0) = false := rfl
  simp (disch := omega) only [go_sem, and_self, and_true, true_and, false_and, and_false, Nat.reduceAdd, Nat.reduceMul, Nat.reduceSub, Nat.reduceLeDiff, Nat.reduceLT, Nat.reduceGT, Nat.reduceEqDiff, Nat.reduceBEq, Int.reduceNeg, Int.reduceEq, Int.reduceLT, Int.reduceLE, Int.reduceBEq, Int.reduceToNat, Int.toNat_natCast, Int.natCast_zero, r4_T, r4, hzq, hzb, hQ, hB]
  rw [r4_B0_n, r4_B0_z5]
  erw [hbk]
  obtain ⟨n, hn⟩ : ∃ n, n = (pcsB bs).length := ⟨_, rfl⟩
  rw [← hn] at t2 hbl hpl
  cases h1 : tkR Q with
  | inr y =>
    obtain ⟨p, e⟩ := y
    have he : (e != 0) = true := by simpa using tkP_err _ _ _ _ _ (by omega) h1
    have hpp := tkP_pos _ _ _ _ _ h1
    have ee : (e != e) = false := by simp
    rw [h1] at t1 t2
    unfold shT tkO at t2
    unfold tkO at t1
    simp only at t1 t2
    have e1 : ((p + n : Nat) : Int) = (p : Int) + (n : Int) := by omega
    have k5 : ((p : Int) + (n : Int) - (p : Int) == (n : Int)) = true := by simp; omega
    rw [e1] at t2
    clear hn
    generalize bytesD (pcsB bs) = DB at *
    simp (disch := omega) only [go_sem, and_self, and_true, true_and, false_and, and_false, Nat.reduceAdd, Nat.reduceMul, Nat.reduceSub, Nat.reduceLeDiff, Nat.reduceLT, Nat.reduceGT, Nat.reduceEqDiff, Nat.reduceBEq, Int.reduceNeg, Int.reduceEq, Int.reduceLT, Int.reduceLE, Int.reduceBEq, Int.reduceToNat, Int.toNat_natCast, Int.natCast_zero, hbl, hcv, hfo, s1, t1, t2, he, ee, k5, hL, w64]
  | inl l =>
    have hl2 := tkP_len _ _ _ _ h1
    have hat := tkP_at _ _ _ _ h1
    have hj := bj_loop n (by omega) l (by omega) (fun x hx => by have := hat x hx; omega) l.length 0 (by omega)
    unfold BjIs at hj
    have a1 := tkDs_len l
    have a3 : (tkDs (l.map fun x => (x.1, x.2 + n))).length = l.length := by rw [tkDs_len]; simp
    have ll : ((l.length : Int) != (l.length : Int)) = false := by simp
    rw [h1] at t1 t2
    unfold shT tkO at t2
    unfold tkO at t1
    simp only at t1 t2
    clear hn
    generalize bytesD (pcsB bs) = DB at *
    generalize tkDs (l.map fun x => (x.1, x.2 + n)) = DW at *
    generalize tkDs l = DL at *
    simp (disch := omega) only [go_sem, and_self, and_true, true_and, false_and, and_false, Nat.reduceAdd, Nat.reduceMul, Nat.reduceSub, Nat.reduceLeDiff, Nat.reduceLT, Nat.reduceGT, Nat.reduceEqDiff, Nat.reduceBEq, Int.reduceNeg, Int.reduceEq, Int.reduceLT, Int.reduceLE, Int.reduceBEq, Int.reduceToNat, Int.toNat_natCast, Int.natCast_zero, hbl, hcv, hfo, s1, t1, t2, z0, a1, a3, ll, hL, w64]
    rw [r4_B1_n]
    erw [hj]
    simp only [go_sem, and_self, and_true, true_and, false_and, and_false, Nat.reduceAdd, Nat.reduceMul, Nat.reduceSub, Nat.reduceLeDiff, Nat.reduceLT, Nat.reduceGT, Nat.reduceEqDiff, Nat.reduceBEq, Int.reduceNeg, Int.reduceEq, Int.reduceLT, Int.reduceLE, Int.reduceBEq, Int.reduceToNat, Int.toNat_natCast, Int.natCast_zero, hL]
theorem lift_u8s {H : Type} {P : Program} {t e : TypeId} (ht : P.underlying t = some (.slice e)) (he : P.underlying e = some (.int .u8)) {d : DataW H} {x : D} (h : Lift P t d x.cells) (ha : x.isAgg = aggT P t) :
    ∃ bs : List Int, (∀ b ∈ bs, 0 ≤ b ∧ b < 256) ∧ x = .sl (byD bs) := by
  have hagg : aggT P e = false := by simp [aggT, he]
  have hagt : aggT P t = false := by simp [aggT, ht]
  obtain ⟨ys, q, h1, h2⟩ := lift_sl ht h
  have hx := cell_cells (by rw [ha, hagt]) q
  subst hx
  have one : ∀ {d : DataW H} {xs : List D}, Lift P e d xs → ∃ n, xs = [.int .u8 n] ∧ 0 ≤ n ∧ n < 256 := by
    intro d xs hl
    cases hl with
    | int k n h1 h2 =>
      rw [he] at h1
      simp only [Option.some.injEq, TypeDesc.int.injEq] at h1
      subst h1
      refine ⟨n, rfl, ?_⟩
      simp only [Lit.wf, Bool.and_eq_true, decide_eq_true_eq] at h2
      have e1 : IntKind.u8.min = 0 := rfl
      have e2 : IntKind.u8.max = 255 := rfl
      rw [e1, e2] at h2
      omega
    | _ => simp_all
  have key : ∀ ys : List D, (∀ y ∈ ys, y.isAgg = aggT P e ∧ ∃ d' : DataW H, Lift P e d' y.cells) → ∃ ks : List Int, ys = byD ks ∧ ∀ x ∈ ks, 0 ≤ x ∧ x < 256 := by
    intro ys
    induction ys with
    | nil => exact fun _ => ⟨[], rfl, by simp⟩
    | cons y ys ih =>
      intro h
      obtain ⟨ks, rfl, k2⟩ := ih fun y hy => h y (by simp [hy])
      obtain ⟨h3, d', h4⟩ := h y (by simp)
      obtain ⟨s, h5, h6⟩ := one h4
      have := cell_cells (by rw [h3, hagg]) h5
      subst this
      exact ⟨s :: ks, rfl, by
        intro x hx
        rcases List.mem_cons.1 hx with rfl | hx
        · exact h6
        · exact k2 x hx⟩
  obtain ⟨ks, rfl, k2⟩ := key ys h2
  exact ⟨ks, k2, rfl⟩
theorem LexBlanks_ok (q : ByteArray) (bs : List Int) (_ : q.size ≤ maxLen) (hb : ∀ b ∈ bs, 0 ≤ b ∧ b < 256) (hp : List Ent) : F tab 4 [.d (.str q), .d (.sl (byD bs))] hp = some (.ret (.d (.bool true)) hp) :=
  LexBlanks_bt q.data.toList bs hb hp
end Go.Pe.T
