/- A part of the proof of: Which of two nodes comes first, without labels, or that there is no answer, is the document's; and whether one is true (OpsCompares, of arguments that are not too large for any machine, the second form); no condition beyond the statement's own. -/
import Derived.Test.YtacelfbplhapiaaGreatOc2
import Derived.Test.YtacelfbplhapiaaGreatPe3
import Derived.Laws.Strings
set_option linter.unusedSimpArgs false
set_option linter.unusedVariables false
set_option maxRecDepth 100000
set_option maxRecDepth 10000

namespace Go.Pe.T
abbrev nB (l d k c s : Int) (t : ByteArray) (xs ks : List D) : PV := .ibox [.d (iv l), .d (iv d), .d (iv k), .d (iv c), .d (iv s), .d (.str t), .d (.sl xs), .d (.sl ks)]
structure LatT (T : List (List Bool)) (m : Nat) : Prop where
  tb : TbOk T m
  jn : ∀ a b, a < m → b < m → jnR T m a b ≠ [] ∧ 0 ≤ jn T m a b ∧ jn T m a b < m
theorem latT_ok (r : Nat) (hr : r < 6) : LatT (tbT r) (polM r) := ⟨tb_ok r hr, fun a b ha hb => ⟨(jn_ok r hr a b ha hb).1, (jn_ok r hr a b ha hb).2.1, (jn_ok r hr a b ha hb).2.2.1⟩⟩
mutual
def nlabB (m : Nat) : Nd → Bool
  | .mk l d k c s t xs ks => decide (0 ≤ l) && decide (l < m) && nlabsB m xs
def nlabsB (m : Nat) : List Nd → Bool
  | [] => true
  | x :: r => nlabB m x && nlabsB m r
end
theorem labs_mem {m : Nat} : ∀ {xs : List Nd} {x : Nd}, nlabsB m xs = true → x ∈ xs → nlabB m x = true
  | y :: xs, x, h, hx => by
    simp only [nlabsB, Bool.and_eq_true] at h
    rcases List.mem_cons.1 hx with rfl | hx
    · exact h.1
    · exact labs_mem h.2 hx
def LabIs (T : List (List Bool)) (m : Nat) (x : Nd) : Prop := ∀ hp, F tab 56 [.d (.sl (ttD T)), .d x.enc] hp = some (.ret (.d (.bool (nlabB m x))) hp)
def LlIs (T : List (List Bool)) (m : Nat) (l d k c s : Int) (t : ByteArray) (xs : List Nd) (ks : List D) (i : Nat) : Prop :=
  V (F tab) r56_B0 (r56_S0 (.d (.sl (ttD T))) (nB l d k c s t (Nd.encs xs) ks) (.d (iv i)) []) = if nlabsB m (xs.drop i) then some (.norm, r56_E0 []) else some (.ret, r56_R (.d (.bool false)) [])
theorem nll_all (T : List (List Bool)) (m : Nat) (l d k c s : Int) (t : ByteArray) (xs : List Nd) (ks : List D) (hl : xs.length ≤ 1048576) (hx : ∀ x ∈ xs, LabIs T m x) : ∀ (j i : Nat), i + j = xs.length → LlIs T m l d k c s t xs ks i
  | 0, i, hi => by
    have h1 : ((i : Int) < (xs.length : Int)) = False := eq_false (by omega)
    unfold LlIs
    rw [List.drop_of_length_le (by omega), nlabsB, if_pos rfl, r56_B0_eq]
    generalize ttD T = TD at *
    simp (disch := omega) only [go_sem, r56_C0, h1, nencs_len]
  | j + 1, i, hi => by
    have ih := nll_all T m l d k c s t xs ks hl hx j (i + 1) (by omega)
    have hi1 : i < xs.length := by omega
    have h1 : ((i : Int) < (xs.length : Int)) = True := eq_true (by omega)
    have i0 : (0 ≤ (i : Int)) = True := eq_true (by omega)
    have va : (Nd.encs xs)[i]? = some xs[i].enc := by rw [nencs_get, List.getElem?_eq_getElem hi1]; rfl
    have hc := hx xs[i] (List.getElem_mem hi1)
    have e1 : (i : Int) + 1 = ((i + 1 : Nat) : Int) := rfl
    have w := nenc_w xs[i]
    have a := nenc_a xs[i]
    unfold LlIs at ih ⊢
    unfold LabIs at hc
    rw [List.drop_eq_getElem_cons hi1, nlabsB]
    generalize nlabB m xs[i] = q at *
    generalize xs[i].enc = X at *
    generalize ttD T = TD at *
    rw [r56_B0_eq]
    cases q
    · rw [Bool.false_and, if_neg (by simp)]
      simp (disch := omega) only [go_sem, r56_C0, h1, i0, va, hc, w, a, nencs_len, w64]
    · rw [Bool.true_and]
      simp (disch := omega) only [go_sem, r56_C0, h1, i0, va, hc, w, a, nencs_len, e1, w64]
      exact ih
theorem lab_ok {T : List (List Bool)} {m : Nat} (hT : LatT T m) : ∀ (x : Nd), x.lim 1048576 → LabIs T m x
  | .mk l d k c s t xs ks, hx => by
    simp only [Nd.lim] at hx
    have hL := nll_all T m l d k c s t xs (ks.map .str) hx.2.2.1 (fun x hm => lab_ok hT x (nlims_mem hx.2.2.2.2.2 hm)) xs.length 0 (by omega)
    unfold LlIs at hL
    rw [List.drop_zero] at hL
    have htl := ttD_len hT.tb
    intro hp
    rw [Nd.enc, nlabB]
    generalize nlabsB m xs = q at *
    generalize ttD T = TD at *
    refine f56 rfl ?_
    by_cases h1 : l < 0
    · have g1 : decide (0 ≤ l) = false := decide_eq_false (by omega)
      rw [g1, Bool.false_and, Bool.false_and]
      simp (disch := omega) only [go_sem, r56_T, r56, h1]
    · have g1 : decide (0 ≤ l) = true := decide_eq_true (by omega)
      by_cases h2 : l ≥ (m : Int)
      · have g2 : decide (l < (m : Int)) = false := decide_eq_false (by omega)
        rw [g1, g2, Bool.true_and, Bool.false_and]
        simp (disch := omega) only [go_sem, r56_T, r56, h1, h2, htl]
      · have g2 : decide (l < (m : Int)) = true := decide_eq_true (by omega)
        rw [g1, g2, Bool.true_and, Bool.true_and]
        simp (disch := omega) only [go_sem, r56_T, r56, h1, h2, htl]
        rw [r56_B0_n]
        erw [hL]
        cases q <;> simp (disch := omega) only [go_sem, r56]
mutual
def ndeep (T : List (List Bool)) (m : Nat) : Nd → Int
  | .mk l d k c s t xs ks => ndeeps T m xs l
def ndeeps (T : List (List Bool)) (m : Nat) : List Nd → Int → Int
  | [], z => z
  | x :: r, z => ndeeps T m r (jn T m z.toNat (ndeep T m x).toNat)
end
def DpIs (T : List (List Bool)) (m : Nat) (x : Nd) : Prop := (0 ≤ ndeep T m x ∧ ndeep T m x < m) ∧ ∀ hp, F tab 89 [.d (.sl (ttD T)), .d x.enc] hp = some (.ret (.d (iv (ndeep T m x))) hp)
def DlIs (T : List (List Bool)) (m : Nat) (l d k c s : Int) (t : ByteArray) (xs : List Nd) (ks : List D) (i : Nat) (z : Int) : Prop :=
  (0 ≤ ndeeps T m (xs.drop i) z ∧ ndeeps T m (xs.drop i) z < m) ∧
  V (F tab) r89_B0 (r89_S0 (.d (.sl (ttD T))) (nB l d k c s t (Nd.encs xs) ks) (.d (iv z)) (.d (iv i)) []) = some (.norm, r89_E0 (.d (iv (ndeeps T m (xs.drop i) z))) [])
theorem ndl_all {T : List (List Bool)} {m : Nat} (hT : LatT T m) (l d k c s : Int) (t : ByteArray) (xs : List Nd) (ks : List D) (hl : xs.length ≤ 1048576) (hx : ∀ x ∈ xs, DpIs T m x) : ∀ (j i : Nat) (z : Int), i + j = xs.length → 0 ≤ z → z < m → DlIs T m l d k c s t xs ks i z
  | 0, i, z, hi, z0, z1 => by
    have h1 : ((i : Int) < (xs.length : Int)) = False := eq_false (by omega)
    unfold DlIs
    rw [List.drop_of_length_le (by omega), ndeeps, r89_B0_eq]
    refine ⟨⟨z0, z1⟩, ?_⟩
    generalize ttD T = TD at *
    simp (disch := omega) only [go_sem, r89_C0, h1, nencs_len]
  | j + 1, i, z, hi, z0, z1 => by
    have hi1 : i < xs.length := by omega
    obtain ⟨⟨c0, c1⟩, hc⟩ := hx xs[i] (List.getElem_mem hi1)
    obtain ⟨n1, n2, n3⟩ := hT.jn z.toNat (ndeep T m xs[i]).toNat (by omega) (by omega)
    have ih := ndl_all hT l d k c s t xs ks hl hx j (i + 1) (jn T m z.toNat (ndeep T m xs[i]).toNat) (by omega) n2 n3
    have hjn := join09_ok T m hT.tb z.toNat (ndeep T m xs[i]).toNat (by omega) (by omega) n1
    rw [Int.toNat_of_nonneg z0, Int.toNat_of_nonneg c0] at hjn
    have h1 : ((i : Int) < (xs.length : Int)) = True := eq_true (by omega)
    have i0 : (0 ≤ (i : Int)) = True := eq_true (by omega)
    have va : (Nd.encs xs)[i]? = some xs[i].enc := by rw [nencs_get, List.getElem?_eq_getElem hi1]; rfl
    have e1 : (i : Int) + 1 = ((i + 1 : Nat) : Int) := rfl
    have w := nenc_w xs[i]
    have a := nenc_a xs[i]
    unfold DlIs at ih ⊢
    rw [List.drop_eq_getElem_cons hi1, ndeeps]
    refine ⟨ih.1, ?_⟩
    have ih := ih.2
    generalize jn T m z.toNat (ndeep T m xs[i]).toNat = y at *
    generalize ndeep T m xs[i] = q at *
    generalize xs[i].enc = X at *
    generalize ttD T = TD at *
    rw [r89_B0_eq]
    simp (disch := omega) only [go_sem, r89_C0, h1, i0, va, hc, w, a, hjn, nencs_len, e1, w64]
    exact ih
theorem dp_ok {T : List (List Bool)} {m : Nat} (hT : LatT T m) : ∀ (x : Nd), x.lim 1048576 → nlabB m x = true → DpIs T m x
  | .mk l d k c s t xs ks, hx, hb => by
    simp only [Nd.lim] at hx
    simp only [nlabB, Bool.and_eq_true, decide_eq_true_eq] at hb
    have hL := ndl_all hT l d k c s t xs (ks.map .str) hx.2.2.1 (fun x hm => dp_ok hT x (nlims_mem hx.2.2.2.2.2 hm) (labs_mem hb.2 hm)) xs.length 0 l (by omega) hb.1.1 hb.1.2
    unfold DlIs at hL
    rw [List.drop_zero] at hL
    refine ⟨by rw [ndeep]; exact hL.1, fun hp => ?_⟩
    have hL := hL.2
    rw [Nd.enc, ndeep]
    generalize ndeeps T m xs l = q at *
    generalize ttD T = TD at *
    refine f89 rfl ?_
    simp (disch := omega) only [go_sem, r89_T, r89]
    rw [r89_B0_n]
    erw [hL]
    simp (disch := omega) only [go_sem, r89]
mutual
def nright (T : List (List Bool)) (m : Nat) : Nd → Bool
  | .mk l d k c s t xs ks => (d == ndeeps T m xs l) && nrights T m xs
def nrights (T : List (List Bool)) (m : Nat) : List Nd → Bool
  | [] => true
  | x :: r => nright T m x && nrights T m r
end
def RtIs (T : List (List Bool)) (m : Nat) (x : Nd) : Prop := ∀ hp, F tab 57 [.d (.sl (ttD T)), .d x.enc] hp = some (.ret (.d (.bool (nright T m x))) hp)
def RlIs (T : List (List Bool)) (m : Nat) (l d k c s : Int) (t : ByteArray) (xs : List Nd) (ks : List D) (i : Nat) : Prop :=
  V (F tab) r57_B0 (r57_S0 (.d (.sl (ttD T))) (nB l d k c s t (Nd.encs xs) ks) (.d (iv i)) []) = if nrights T m (xs.drop i) then some (.norm, r57_E0 []) else some (.ret, r57_R (.d (.bool false)) [])
theorem nrl_all (T : List (List Bool)) (m : Nat) (l d k c s : Int) (t : ByteArray) (xs : List Nd) (ks : List D) (hl : xs.length ≤ 1048576) (hx : ∀ x ∈ xs, RtIs T m x) : ∀ (j i : Nat), i + j = xs.length → RlIs T m l d k c s t xs ks i
  | 0, i, hi => by
    have h1 : ((i : Int) < (xs.length : Int)) = False := eq_false (by omega)
    unfold RlIs
    rw [List.drop_of_length_le (by omega), nrights, if_pos rfl, r57_B0_eq]
    generalize ttD T = TD at *
    simp (disch := omega) only [go_sem, r57_C0, h1, nencs_len]
  | j + 1, i, hi => by
    have ih := nrl_all T m l d k c s t xs ks hl hx j (i + 1) (by omega)
    have hi1 : i < xs.length := by omega
    have h1 : ((i : Int) < (xs.length : Int)) = True := eq_true (by omega)
    have i0 : (0 ≤ (i : Int)) = True := eq_true (by omega)
    have va : (Nd.encs xs)[i]? = some xs[i].enc := by rw [nencs_get, List.getElem?_eq_getElem hi1]; rfl
    have hc := hx xs[i] (List.getElem_mem hi1)
    have e1 : (i : Int) + 1 = ((i + 1 : Nat) : Int) := rfl
    have w := nenc_w xs[i]
    have a := nenc_a xs[i]
    unfold RlIs at ih ⊢
    unfold RtIs at hc
    rw [List.drop_eq_getElem_cons hi1, nrights]
    generalize nright T m xs[i] = q at *
    generalize xs[i].enc = X at *
    generalize ttD T = TD at *
    rw [r57_B0_eq]
    cases q
    · rw [Bool.false_and, if_neg (by simp)]
      simp (disch := omega) only [go_sem, r57_C0, h1, i0, va, hc, w, a, nencs_len, w64]
    · rw [Bool.true_and]
      simp (disch := omega) only [go_sem, r57_C0, h1, i0, va, hc, w, a, nencs_len, e1, w64]
      exact ih
theorem rt_ok {T : List (List Bool)} {m : Nat} (hT : LatT T m) : ∀ (x : Nd), x.lim 1048576 → nlabB m x = true → RtIs T m x
  | .mk l d k c s t xs ks, hx, hb => by
    obtain ⟨_, hdp⟩ := dp_ok hT (.mk l d k c s t xs ks) hx hb
    simp only [Nd.lim] at hx
    simp only [nlabB, Bool.and_eq_true, decide_eq_true_eq] at hb
    have hL := nrl_all T m l d k c s t xs (ks.map .str) hx.2.2.1 (fun x hm => rt_ok hT x (nlims_mem hx.2.2.2.2.2 hm) (labs_mem hb.2 hm)) xs.length 0 (by omega)
    unfold RlIs at hL
    rw [List.drop_zero] at hL
    intro hp
    rw [Nd.enc, ndeep] at hdp
    rw [Nd.enc, nright]
    generalize nrights T m xs = q at *
    generalize ndeeps T m xs l = z at *
    generalize ttD T = TD at *
    refine f57 rfl ?_
    rcases Bool.eq_false_or_eq_true (d == z) with g | g
    · have g' : (d != z) = false := by rw [bne, g]; rfl
      rw [g, Bool.true_and]
      simp (disch := omega) only [go_sem, r57_T, r57, hdp, g']
      rw [r57_B0_n]
      erw [hL]
      cases q <;> simp (disch := omega) only [go_sem, r57]
    · have g' : (d != z) = true := by rw [bne, g]; rfl
      rw [g, Bool.false_and]
      simp (disch := omega) only [go_sem, r57_T, r57, hdp, g']
end Go.Pe.T

namespace Go.Pe.T
def SzN (most : Int) (x : Nd) : Prop := ∀ n, 0 ≤ n → 0 ≤ sizeV x.strip n most ∧ ∀ hp, F tab 66 [.d x.enc, .d (iv n), .d (iv most)] hp = some (.ret (.d (iv (sizeV x.strip n most))) hp)
theorem szl_all (most : Int) (hm : most ≤ 9223372036854775807) (l d k c s : Int) (t : ByteArray) (xs : List Nd) (ks : List D) (hl : xs.length ≤ 1048576) (hx : ∀ x ∈ xs, SzN most x) : ∀ (j i : Nat) (n : Int), i + j = xs.length → 0 ≤ n →
    V (F tab) r66_B0 (r66_S0 (.d (iv n)) (.d (iv most)) (nB l d k c s t (Nd.encs xs) ks) (.d (iv i)) []) = some (.norm, r66_E0 (.d (iv (sizes (Nd.strips (xs.drop i)) n most))) []) ∧ 0 ≤ sizes (Nd.strips (xs.drop i)) n most
  | 0, i, n, hi, h0 => by
    have h1 : ((i : Int) < (xs.length : Int)) = False := eq_false (by omega)
    rw [List.drop_of_length_le (by omega), Nd.strips, sizes, r66_B0_eq]
    refine ⟨?_, h0⟩
    simp (disch := omega) only [go_sem, r66_C0, h1, nencs_len]
  | j + 1, i, n, hi, h0 => by
    have hi1 : i < xs.length := by omega
    have h1 : ((i : Int) < (xs.length : Int)) = True := eq_true (by omega)
    have i0 : (0 ≤ (i : Int)) = True := eq_true (by omega)
    have va : (Nd.encs xs)[i]? = some xs[i].enc := by rw [nencs_get, List.getElem?_eq_getElem hi1]; rfl
    obtain ⟨c0, hc⟩ := hx xs[i] (List.getElem_mem hi1) n h0
    have ih := szl_all most hm l d k c s t xs ks hl hx j (i + 1) _ (by omega) c0
    have e1 : (i : Int) + 1 = ((i + 1 : Nat) : Int) := rfl
    have w := nenc_w xs[i]
    have a := nenc_a xs[i]
    rw [List.drop_eq_getElem_cons hi1, Nd.strips, sizes]
    refine ⟨?_, ih.2⟩
    have ih := ih.1
    generalize sizeV xs[i].strip n most = q at *
    generalize xs[i].enc = X at *
    rw [r66_B0_eq]
    simp (disch := omega) only [go_sem, r66_C0, h1, i0, va, hc, w, a, nencs_len, e1, w64]
    exact ih
theorem szn_ok {most : Int} (hm : most ≤ 9223372036854775807) : ∀ (x : Nd), x.lim 1048576 → SzN most x
  | .mk l d k c s t xs ks, hx => by
    simp only [Nd.lim] at hx
    have ih := fun x hmm => szn_ok hm x (nlims_mem hx.2.2.2.2.2 hmm)
    intro n h0
    rw [Nd.strip, Nd.enc]
    by_cases h : n ≥ most
    · refine ⟨by simp only [sizeV, h, if_true]; exact h0, fun hp => f66 rfl ?_⟩
      simp (disch := omega) only [go_sem, r66_T, r66, h, sizeV]
    · have hL := szl_all most hm l d k c s t xs (ks.map .str) hx.2.2.1 ih xs.length 0 (n + 1) (by omega) (by omega)
      rw [List.drop_zero] at hL
      refine ⟨by simp only [sizeV, h, if_false]; exact hL.2, fun hp => f66 rfl ?_⟩
      have hL := hL.1
      simp only [sizeV, h, if_false]
      generalize sizes (Nd.strips xs) (n + 1) most = q at *
      simp (disch := omega) only [go_sem, r66_T, r66, h, w64]
      rw [r66_B0_n]
      erw [hL]
      simp (disch := omega) only [go_sem, r66]
def FtN (x : Nd) : Prop := ∀ d, -1 ≤ d → d ≤ 1000 → ∀ hp, F tab 67 [.d x.enc, .d (iv d)] hp = some (.ret (.d (.bool (flatV x.strip d))) hp)
theorem ftl_all (z : Int) (z0 : 0 ≤ z) (z1 : z ≤ 1000) (l d k c s : Int) (t : ByteArray) (xs : List Nd) (ks : List D) (hl : xs.length ≤ 1048576) (hx : ∀ x ∈ xs, FtN x) : ∀ (j i : Nat), i + j = xs.length →
    V (F tab) r67_B0 (r67_S0 (.d (iv z)) (nB l d k c s t (Nd.encs xs) ks) (.d (iv i)) []) = if flats (Nd.strips (xs.drop i)) (z - 1) then some (.norm, r67_E0 []) else some (.ret, r67_R (.d (.bool false)) [])
  | 0, i, hi => by
    have h1 : ((i : Int) < (xs.length : Int)) = False := eq_false (by omega)
    rw [List.drop_of_length_le (by omega), Nd.strips, flats, if_pos rfl, r67_B0_eq]
    simp (disch := omega) only [go_sem, r67_C0, h1, nencs_len]
  | j + 1, i, hi => by
    have ih := ftl_all z z0 z1 l d k c s t xs ks hl hx j (i + 1) (by omega)
    have hi1 : i < xs.length := by omega
    have h1 : ((i : Int) < (xs.length : Int)) = True := eq_true (by omega)
    have i0 : (0 ≤ (i : Int)) = True := eq_true (by omega)
    have va : (Nd.encs xs)[i]? = some xs[i].enc := by rw [nencs_get, List.getElem?_eq_getElem hi1]; rfl
    have hc := hx xs[i] (List.getElem_mem hi1) (z - 1) (by omega) (by omega)
    have e1 : (i : Int) + 1 = ((i + 1 : Nat) : Int) := rfl
    have w := nenc_w xs[i]
    have a := nenc_a xs[i]
    rw [List.drop_eq_getElem_cons hi1, Nd.strips, flats]
    generalize flatV xs[i].strip (z - 1) = q at *
    generalize xs[i].enc = X at *
    rw [r67_B0_eq]
    cases q
    · simp only [Bool.false_eq_true, if_false]
      simp (disch := omega) only [go_sem, r67_C0, h1, i0, va, hc, w, a, nencs_len, w64]
    · simp only [if_true]
      simp (disch := omega) only [go_sem, r67_C0, h1, i0, va, hc, w, a, nencs_len, e1, w64]
      exact ih
theorem ftn_ok : ∀ (x : Nd), x.lim 1048576 → FtN x
  | .mk l d k c s t xs ks, hx => by
    simp only [Nd.lim] at hx
    have ih := fun x hmm => ftn_ok x (nlims_mem hx.2.2.2.2.2 hmm)
    intro z z0 z1 hp
    rw [Nd.strip, Nd.enc]
    refine f67 rfl ?_
    by_cases h : z < 0
    · simp (disch := omega) only [go_sem, r67_T, r67, h, flatV]
    · have hL := ftl_all z (by omega) z1 l d k c s t xs (ks.map .str) hx.2.2.1 ih xs.length 0 (by omega)
      rw [List.drop_zero] at hL
      simp only [flatV, h, if_false]
      generalize flats (Nd.strips xs) (z - 1) = q at *
      simp (disch := omega) only [go_sem, r67_T, r67, h]
      rw [r67_B0_n]
      erw [hL]
      cases q <;> simp (disch := omega) only [go_sem, r67]
theorem lgn_ok (x : Nd) (hx : x.lim 1048576) (most : Int) (hm : 0 ≤ most ∧ most < 1000000) (hp : List Ent) : F tab 26 [.d x.enc, .d (iv most)] hp = some (.ret (.d (.bool (lightV x.strip most))) hp) := by
  obtain ⟨_, h1⟩ := szn_ok (most := most + 1) (by omega) x hx 0 (by omega)
  have h2 := ftn_ok x hx 60 (by omega) (by omega)
  unfold lightV
  cases x with
  | mk l d k c s t xs ks =>
    rw [Nd.enc] at h1 h2 ⊢
    generalize sizeV (Nd.mk l d k c s t xs ks).strip 0 (most + 1) = q at *
    generalize flatV (Nd.mk l d k c s t xs ks).strip 60 = v at *
    refine f26 rfl ?_
    by_cases h : q ≤ most
    · have e : decide (q ≤ most) = true := decide_eq_true h
      rw [e, Bool.true_and]
      simp (disch := omega) only [go_sem, r26_T, r26, h1, h2, h, w64]
    · have e : decide (q ≤ most) = false := decide_eq_false h
      rw [e, Bool.false_and]
      simp (disch := omega) only [go_sem, r26_T, r26, h1, h2, h, w64]
end Go.Pe.T

namespace Go.Pe.T
def bs (s : ByteArray) : List UInt8 := s.data.toList
theorem bs_len (s : ByteArray) : (bs s).length = s.size := rfl
theorem bs_toList (s : ByteArray) : s.toList = bs s := ByteArray.toList_eq s
theorem bs_get {s : ByteArray} {i : Nat} (h : i < s.size) : s[i]? = some s[i] ∧ (bs s).drop i = s[i] :: (bs s).drop (i + 1) := by
  have e : s[i] = s.data.toList[i]'h := rfl
  refine ⟨getElem?_pos s i h, ?_⟩
  unfold bs
  rw [e]; exact List.drop_eq_getElem_cons h
theorem bs_end {s : ByteArray} {i : Nat} (h : s.size ≤ i) : (bs s).drop i = [] := List.drop_of_length_le h

end Go.Pe.T

namespace Go.Pe.T
def nb (l : List UInt8) (i : Nat) : Int := ((l.getD i 0).toNat : Int)
def contB (c : Int) : Bool := !decide (c < 128) && !decide (c > 191)
def conts : List UInt8 → Nat → Bool
  | _, 0 => true
  | [], _ + 1 => false
  | c :: r, k + 1 => contB c.toNat && conts r k
def tailL (l : List UInt8) (n : Nat) (lo hi : Int) : Bool := !decide (l.length ≤ n) && ((!decide (nb l 1 < lo) && !decide (nb l 1 > hi)) && conts (l.drop 2) (n - 1))
def sizeL (l : List UInt8) : Nat :=
  if nb l 0 < 128 then 1
  else if (decide (nb l 0 ≥ 194) && decide (nb l 0 ≤ 223)) && tailL l 1 128 191 then 2
  else if (nb l 0 == 224 && tailL l 2 160 191) || (((decide (nb l 0 ≥ 225) && decide (nb l 0 ≤ 239)) && nb l 0 != 237) && tailL l 2 128 191 || nb l 0 == 237 && tailL l 2 128 159) then 3
  else if (nb l 0 == 240 && tailL l 3 144 191) || ((decide (nb l 0 ≥ 241) && decide (nb l 0 ≤ 243)) && tailL l 3 128 191 || nb l 0 == 244 && tailL l 3 128 143) then 4
  else 0
def validF : Nat → List UInt8 → Bool
  | _, [] => true
  | 0, _ :: _ => false
  | k + 1, c :: r => if sizeL (c :: r) = 0 then false else validF k ((c :: r).drop (sizeL (c :: r)))
def validB (s : ByteArray) : Bool := validF s.size (bs s)

end Go.Pe.T

namespace Go.Pe.T

def putI (c : Int) : List Int :=
  if c < 128 then [c] else if c < 2048 then [192 + c / 64, 128 + c % 64] else if c < 65536 then [224 + c / 4096, 128 + c / 64 % 64, 128 + c % 64]
  else [240 + c / 262144, 128 + c / 4096 % 64, 128 + c / 64 % 64, 128 + c % 64]
theorem put_ok (c : Int) (h0 : 0 ≤ c) (h1 : c ≤ 2097151) (hp : List Ent) : F tab 99 [.d (iv c)] hp = some (.ret (.d (.sl ((putI c).map (D.int .u8)))) hp) := by
  refine f99 rfl ?_
  unfold putI
  have e1 : c.tdiv 64 = c / 64 := Int.tdiv_eq_ediv_of_nonneg h0
  have e2 : c.tdiv 4096 = c / 4096 := Int.tdiv_eq_ediv_of_nonneg h0
  have e3 : c.tdiv 262144 = c / 262144 := Int.tdiv_eq_ediv_of_nonneg h0
  have e4 : c.tmod 64 = c % 64 := Int.tmod_eq_emod_of_nonneg h0
  have e5 : (c / 64).tmod 64 = c / 64 % 64 := Int.tmod_eq_emod_of_nonneg (by omega)
  have e6 : (c / 4096).tmod 64 = c / 4096 % 64 := Int.tmod_eq_emod_of_nonneg (by omega)
  by_cases g1 : c < 128
  · simp (disch := omega) only [go_sem, r99_T, r99, g1, wu8, List.map_cons, List.map_nil]
  · by_cases g2 : c < 2048
    · simp (disch := omega) only [go_sem, r99_T, r99, g1, g2, w64, wu8, e1, e4, List.map_cons, List.map_nil]
    · by_cases g3 : c < 65536
      · simp (disch := omega) only [go_sem, r99_T, r99, g1, g2, g3, w64, wu8, e1, e2, e4, e5, List.map_cons, List.map_nil]
      · simp (disch := omega) only [go_sem, r99_T, r99, g1, g2, g3, w64, wu8, e1, e2, e3, e4, e5, e6, List.map_cons, List.map_nil]
end Go.Pe.T

namespace Go.Pe.T

def cdec : Int → List UInt8 → Nat → Int
  | c, _, 0 => c
  | c, [], _ + 1 => c
  | c, d :: r, k + 1 => cdec (64 * c + (d.toNat : Int) - 128) r k

def CiLoop (s : ByteArray) (l : List Int) (i n k : Nat) (c : Int) : Prop :=
  V (F tab) r98_B1 (r98_S1 (.d (.str s)) (.own 3 (l.map iv)) (.d (iv i)) (.d (iv n)) (.d (iv c)) (.d (iv k)) []) =
    if conts ((bs s).drop (i + k)) (n - k) then some (.norm, r98_E1 (.d (.str s)) (.own 3 (l.map iv)) (.d (iv i)) (.d (iv n)) (.d (iv (cdec c ((bs s).drop (i + k)) (n - k)))) [])
    else some (.ret, r98_R (.d (.sl [])) (.d (.bool false)) [])
theorem ci_end (s : ByteArray) (l : List Int) (i n k : Nat) (c : Int) (hk : n ≤ k) : CiLoop s l i n k c := by
  have h1 : ((k : Int) < (n : Int)) = False := eq_false (by omega)
  unfold CiLoop
  rw [r98_B1_eq, show n - k = 0 by omega]
  simp (disch := omega) only [go_sem, r98_C1, h1, conts, cdec]
theorem ci_step (s : ByteArray) (hs : s.size ≤ 1000000000) (l : List Int) (i n k : Nat) (c : Int) (hn : i + n ≤ s.size) (hk : k < n) (h4 : n ≤ 4) (hc : 0 ≤ c ∧ c ≤ 100000000) (ih : ∀ c' : Int, 0 ≤ c' → c' ≤ 64 * c + 63 → c' = 64 * c + (((bs s).drop (i + k)).headD 0).toNat - 128 → CiLoop s l i n (k + 1) c') : CiLoop s l i n k c := by
  have h1 : ((k : Int) < (n : Int)) = True := eq_true (by omega)
  have hi0 : (0 ≤ (i : Int) + (k : Int)) = True := eq_true (by omega)
  have ei : ((i : Int) + (k : Int)).toNat = i + k := by omega
  have hlt : i + k < s.size := by omega
  obtain ⟨va, vd⟩ := bs_get hlt
  have hb : s[i + k].toNat < 256 := UInt8.toNat_lt _
  have en : n - k = (n - (k + 1)) + 1 := by omega
  rw [vd] at ih
  simp only [List.headD_cons] at ih
  unfold CiLoop at ih ⊢
  rw [r98_B1_eq, vd, en]
  simp only [conts, cdec, contB]
  by_cases g1 : ((s[i + k].toNat : Nat) : Int) < 128
  · simp (disch := omega) only [go_sem, r98_C1, h1, hi0, ei, va, w64, g1, decide_true, Bool.not_true, Bool.false_and]
  · by_cases g2 : ((s[i + k].toNat : Nat) : Int) > 191
    · simp (disch := omega) only [go_sem, r98_C1, h1, hi0, ei, va, w64, g1, g2, decide_true, decide_false, Bool.not_true, Bool.not_false, Bool.false_and, Bool.true_and]
    · have ih := ih _ (by omega) (by omega) rfl
      rw [Int.natCast_add, Int.natCast_one, ← Nat.add_assoc] at ih
      simp (disch := omega) only [go_sem, r98_C1, h1, hi0, ei, va, w64, g1, g2, decide_true, decide_false, Bool.not_true, Bool.not_false, Bool.false_and, Bool.true_and]
      exact ih
theorem ci_loop (s : ByteArray) (hs : s.size ≤ 1000000000) (l : List Int) (i n : Nat) (hn : i + n ≤ s.size) (h4 : n ≤ 4) : ∀ (j k : Nat) (c : Int), k + j = n → 0 ≤ c → (c + 1) * 64 ^ j ≤ 100000000 → CiLoop s l i n k c
  | 0, k, c, hk, h0, hc => ci_end s l i n k c (by omega)
  | j + 1, k, c, hk, h0, hc => by
    have hp : (1 : Int) ≤ 64 ^ j := by exact_mod_cast Nat.one_le_pow j 64 (by omega)
    have e : (64 : Int) ^ (j + 1) = 64 * 64 ^ j := by rw [Int.pow_succ]; exact Int.mul_comm _ _
    rw [e] at hc
    have hc2 : (c + 1) * 64 * 64 ^ j ≤ 100000000 := by rw [Int.mul_assoc]; exact hc
    have hle : (c + 1) * 64 * 1 ≤ (c + 1) * 64 * 64 ^ j := Int.mul_le_mul_of_nonneg_left hp (by omega)
    refine ci_step s hs l i n k c hn (by omega) h4 ⟨h0, by omega⟩ fun c' h1 h2 _ => ci_loop s hs l i n hn h4 j (k + 1) c' (by omega) h1 ?_
    have : (c' + 1) * 64 ^ j ≤ (c + 1) * 64 * 64 ^ j := Int.mul_le_mul_of_nonneg_right (by omega) (by omega)
    omega

def ub (x : Int) : UInt8 := UInt8.ofNat x.toNat
theorem put_bytes : ∀ (p : List Int), optAll ((p.map (D.int .u8)).map asByte) = some (p.map ub)
  | [] => rfl
  | x :: p => by simp only [List.map_cons, asByte, optAll, put_bytes p]; rfl
def okC (s : ByteArray) (i n : Nat) (c : Int) : Bool := !(decide (c > 1114111) || (decide (c ≥ 55296) && decide (c < 57344))) && ((putI c).map ub == ((bs s).drop i).take n)
theorem bs_cut (s : ByteArray) (i j : Nat) : bs (s.extract i j) = ((bs s).drop i).take (j - i) := by
  simp [bs, ByteArray.data_extract, List.drop_take]
theorem cmp_put (s : ByteArray) (i n : Nat) (p : List UInt8) : ((⟨p.toArray⟩ : ByteArray).toList == (s.extract i (i + n)).toList) = (p == ((bs s).drop i).take n) := by
  have e : bs (⟨p.toArray⟩ : ByteArray) = p := by simp [bs]
  rw [bs_toList, bs_toList, bs_cut, e, show i + n - i = n by omega]
theorem cdec_le : ∀ (r : List UInt8) (j : Nat) (c : Int), 0 ≤ c → conts r j = true → 0 ≤ cdec c r j ∧ cdec c r j + 1 ≤ (c + 1) * 64 ^ j
  | r, 0, c, h0, h => by simp [cdec]; omega
  | [], j + 1, c, h0, h => by simp [conts] at h
  | d :: r, j + 1, c, h0, h => by
    simp only [conts, contB, Bool.and_eq_true, Bool.not_eq_true', decide_eq_false_iff_not] at h
    obtain ⟨i1, i2⟩ := cdec_le r j (64 * c + (d.toNat : Int) - 128) (by omega) h.2
    have e : (64 : Int) ^ (j + 1) = 64 * 64 ^ j := by rw [Int.pow_succ]; exact Int.mul_comm _ _
    have hp : (1 : Int) ≤ 64 ^ j := by exact_mod_cast Nat.one_le_pow j 64 (by omega)
    have h3 : (64 * c + (d.toNat : Int) - 128 + 1) * 64 ^ j ≤ ((c + 1) * 64) * 64 ^ j := Int.mul_le_mul_of_nonneg_right (by omega) (by omega)
    simp only [cdec]
    rw [e, ← Int.mul_assoc]
    omega

theorem sg_1 (s : ByteArray) (hs : s.size ≤ 2097152) (l : List Int) (hl : l.length ≤ 2097152) (i : Nat) (hi : i < s.size) (h1 : ((s[i].toNat : Nat) : Int) ≥ 0) (h2 : ((s[i].toNat : Nat) : Int) ≤ 127) :
    V (F tab) r98_B0 (r98_S0 (.d (.str s)) (.own 3 (l.map iv)) (.d (iv i)) []) =
      if decide (i + 1 ≤ s.size) && (conts ((bs s).drop (i + 1)) 0 && okC s i 1 (cdec ((s[i].toNat : Nat) : Int) ((bs s).drop (i + 1)) 0)) then
        V (F tab) r98_B0 (r98_S0 (.d (.str s)) (.own 3 ((l ++ [(cdec ((s[i].toNat : Nat) : Int) ((bs s).drop (i + 1)) 0)]).map iv)) (.d (iv (i + 1 : Nat))) [])
      else some (.ret, r98_R (.d (.sl [])) (.d (.bool false)) []) := by
  have q1 : ((i : Int) < (s.size : Int)) = True := eq_true (by omega)
  have hi0 : (0 ≤ (i : Int)) = True := eq_true (by omega)
  obtain ⟨va, vd⟩ := bs_get hi
  have xa : (((s[i].toNat : Nat) : Int) ≥ 240) = False := eq_false (by omega)
  have xd : (((s[i].toNat : Nat) : Int) ≥ 224) = False := eq_false (by omega)
  have xe : (((s[i].toNat : Nat) : Int) ≥ 192) = False := eq_false (by omega)
  have xg : (((s[i].toNat : Nat) : Int) ≥ 248) = False := eq_false (by omega)
  have xh : (((s[i].toNat : Nat) : Int) ≥ 128) = False := eq_false (by omega)
  rw [r98_B0_eq]
  by_cases g : i + 1 ≤ s.size
  · have q2 : ((i : Int) + 1 > (s.size : Int)) = False := eq_false (by omega)
    have hL := ci_loop s (by omega) l i 1 g (by omega) 0 1 ((s[i].toNat : Nat) : Int) (by omega) (by omega) (by simp only [Int.reducePow]; omega)
    unfold CiLoop at hL
    rw [show 1 - 1 = 0 from rfl] at hL
    rw [decide_eq_true g, Bool.true_and]
    simp (disch := omega) only [go_sem, r98_C0, q1, hi0, va, xa, xd, xe, xg, xh, w64, q2]
    rw [r98_B1_n]
    erw [hL]
    rcases Bool.eq_false_or_eq_true (conts ((bs s).drop (i + 1)) 0) with g2 | g2
    · obtain ⟨d1, d2⟩ := cdec_le _ _ ((s[i].toNat : Nat) : Int) (by omega) g2
      have d3 : (cdec ((s[i].toNat : Nat) : Int) ((bs s).drop (i + 1)) 0) ≤ 2097151 := by simp only [Int.reducePow] at d2; omega
      have hput := put_ok (cdec ((s[i].toNat : Nat) : Int) ((bs s).drop (i + 1)) 0) d1 d3
      rw [g2]
      simp only [if_true, Bool.true_and, okC]
      generalize (cdec ((s[i].toNat : Nat) : Int) ((bs s).drop (i + 1)) 0) = c at *
      have r1 : ((l.length + 1) * 8 ≤ maxRow) = True := eq_true (by simp only [maxRow]; omega)
      have hcmp := cmp_put s i 1 ((putI c).map ub)
      have et : ((i : Int) + ((1 : Nat) : Int)).toNat = i + 1 := by omega
      have q3 : ((i : Int) ≤ (i : Int) + ((1 : Nat) : Int)) = True := eq_true (by omega)
      have q4 : ((i : Int) + ((1 : Nat) : Int) ≤ (s.size : Int)) = True := eq_true (by omega)
      have ea : l.map iv ++ [iv c] = (l ++ [c]).map iv := by simp
      have all8 : ([iv c].all fun y => y.width == 1) = true := rfl
      rw [Int.natCast_add]
      by_cases k1 : c > 1114111
      · simp (disch := omega) only [go_sem, k1, decide_true, Bool.true_or, Bool.not_true, Bool.false_and]
      · by_cases k2 : c ≥ 55296
        · exfalso
          simp only [Int.reducePow] at d2
          omega
        · rcases Bool.eq_false_or_eq_true ((putI c).map ub == ((bs s).drop i).take 1) with k4 | k4 <;> rw [k4] at hcmp <;>
            simp (disch := omega) only [go_sem, k1, k2, k4, hput, put_bytes, hcmp, strD_neq, et, q3, q4, hi0, w64, r1, all8, ea, List.length_map, decide_true, decide_false, Bool.or_self, Bool.false_and, Bool.and_true, Bool.and_false, Bool.not_false, Bool.not_true, Int.toNat_natCast] <;> rfl
    · rw [g2]
      simp (disch := omega) only [go_sem, Bool.false_and]
  · have q2 : ((i : Int) + 1 > (s.size : Int)) = True := eq_true (by omega)
    rw [decide_eq_false g, Bool.false_and]
    simp (disch := omega) only [go_sem, r98_C0, q1, hi0, va, xa, xd, xe, xg, xh, w64, q2]

theorem sg_2 (s : ByteArray) (hs : s.size ≤ 2097152) (l : List Int) (hl : l.length ≤ 2097152) (i : Nat) (hi : i < s.size) (h1 : ((s[i].toNat : Nat) : Int) ≥ 192) (h2 : ((s[i].toNat : Nat) : Int) ≤ 223) :
    V (F tab) r98_B0 (r98_S0 (.d (.str s)) (.own 3 (l.map iv)) (.d (iv i)) []) =
      if decide (i + 2 ≤ s.size) && (conts ((bs s).drop (i + 1)) 1 && okC s i 2 (cdec (((s[i].toNat : Nat) : Int) - 192) ((bs s).drop (i + 1)) 1)) then
        V (F tab) r98_B0 (r98_S0 (.d (.str s)) (.own 3 ((l ++ [(cdec (((s[i].toNat : Nat) : Int) - 192) ((bs s).drop (i + 1)) 1)]).map iv)) (.d (iv (i + 2 : Nat))) [])
      else some (.ret, r98_R (.d (.sl [])) (.d (.bool false)) []) := by
  have q1 : ((i : Int) < (s.size : Int)) = True := eq_true (by omega)
  have hi0 : (0 ≤ (i : Int)) = True := eq_true (by omega)
  obtain ⟨va, vd⟩ := bs_get hi
  have xa : (((s[i].toNat : Nat) : Int) ≥ 240) = False := eq_false (by omega)
  have xd : (((s[i].toNat : Nat) : Int) ≥ 224) = False := eq_false (by omega)
  have xe : (((s[i].toNat : Nat) : Int) ≥ 192) = True := eq_true (by omega)
  have xg : (((s[i].toNat : Nat) : Int) ≥ 248) = False := eq_false (by omega)
  have xh : (((s[i].toNat : Nat) : Int) ≥ 128) = True := eq_true (by omega)
  have xm : (((s[i].toNat : Nat) : Int) < 192) = False := eq_false (by omega)
  rw [r98_B0_eq]
  by_cases g : i + 2 ≤ s.size
  · have q2 : ((i : Int) + 2 > (s.size : Int)) = False := eq_false (by omega)
    have hL := ci_loop s (by omega) l i 2 g (by omega) 1 1 (((s[i].toNat : Nat) : Int) - 192) (by omega) (by omega) (by simp only [Int.reducePow]; omega)
    unfold CiLoop at hL
    rw [show 2 - 1 = 1 from rfl] at hL
    rw [decide_eq_true g, Bool.true_and]
    simp (disch := omega) only [go_sem, r98_C0, q1, hi0, va, xa, xd, xe, xg, xh, xm, w64, q2]
    rw [r98_B1_n]
    erw [hL]
    rcases Bool.eq_false_or_eq_true (conts ((bs s).drop (i + 1)) 1) with g2 | g2
    · obtain ⟨d1, d2⟩ := cdec_le _ _ (((s[i].toNat : Nat) : Int) - 192) (by omega) g2
      have d3 : (cdec (((s[i].toNat : Nat) : Int) - 192) ((bs s).drop (i + 1)) 1) ≤ 2097151 := by simp only [Int.reducePow] at d2; omega
      have hput := put_ok (cdec (((s[i].toNat : Nat) : Int) - 192) ((bs s).drop (i + 1)) 1) d1 d3
      rw [g2]
      simp only [if_true, Bool.true_and, okC]
      generalize (cdec (((s[i].toNat : Nat) : Int) - 192) ((bs s).drop (i + 1)) 1) = c at *
      have r1 : ((l.length + 1) * 8 ≤ maxRow) = True := eq_true (by simp only [maxRow]; omega)
      have hcmp := cmp_put s i 2 ((putI c).map ub)
      have et : ((i : Int) + ((2 : Nat) : Int)).toNat = i + 2 := by omega
      have q3 : ((i : Int) ≤ (i : Int) + ((2 : Nat) : Int)) = True := eq_true (by omega)
      have q4 : ((i : Int) + ((2 : Nat) : Int) ≤ (s.size : Int)) = True := eq_true (by omega)
      have ea : l.map iv ++ [iv c] = (l ++ [c]).map iv := by simp
      have all8 : ([iv c].all fun y => y.width == 1) = true := rfl
      rw [Int.natCast_add]
      by_cases k1 : c > 1114111
      · simp (disch := omega) only [go_sem, k1, decide_true, Bool.true_or, Bool.not_true, Bool.false_and]
      · by_cases k2 : c ≥ 55296
        · exfalso
          simp only [Int.reducePow] at d2
          omega
        · rcases Bool.eq_false_or_eq_true ((putI c).map ub == ((bs s).drop i).take 2) with k4 | k4 <;> rw [k4] at hcmp <;>
            simp (disch := omega) only [go_sem, k1, k2, k4, hput, put_bytes, hcmp, strD_neq, et, q3, q4, hi0, w64, r1, all8, ea, List.length_map, decide_true, decide_false, Bool.or_self, Bool.false_and, Bool.and_true, Bool.and_false, Bool.not_false, Bool.not_true, Int.toNat_natCast] <;> rfl
    · rw [g2]
      simp (disch := omega) only [go_sem, Bool.false_and]
  · have q2 : ((i : Int) + 2 > (s.size : Int)) = True := eq_true (by omega)
    rw [decide_eq_false g, Bool.false_and]
    simp (disch := omega) only [go_sem, r98_C0, q1, hi0, va, xa, xd, xe, xg, xh, xm, w64, q2]

theorem sg_3 (s : ByteArray) (hs : s.size ≤ 2097152) (l : List Int) (hl : l.length ≤ 2097152) (i : Nat) (hi : i < s.size) (h1 : ((s[i].toNat : Nat) : Int) ≥ 224) (h2 : ((s[i].toNat : Nat) : Int) ≤ 239) :
    V (F tab) r98_B0 (r98_S0 (.d (.str s)) (.own 3 (l.map iv)) (.d (iv i)) []) =
      if decide (i + 3 ≤ s.size) && (conts ((bs s).drop (i + 1)) 2 && okC s i 3 (cdec (((s[i].toNat : Nat) : Int) - 224) ((bs s).drop (i + 1)) 2)) then
        V (F tab) r98_B0 (r98_S0 (.d (.str s)) (.own 3 ((l ++ [(cdec (((s[i].toNat : Nat) : Int) - 224) ((bs s).drop (i + 1)) 2)]).map iv)) (.d (iv (i + 3 : Nat))) [])
      else some (.ret, r98_R (.d (.sl [])) (.d (.bool false)) []) := by
  have q1 : ((i : Int) < (s.size : Int)) = True := eq_true (by omega)
  have hi0 : (0 ≤ (i : Int)) = True := eq_true (by omega)
  obtain ⟨va, vd⟩ := bs_get hi
  have xa : (((s[i].toNat : Nat) : Int) ≥ 240) = False := eq_false (by omega)
  have xd : (((s[i].toNat : Nat) : Int) ≥ 224) = True := eq_true (by omega)
  have xg : (((s[i].toNat : Nat) : Int) ≥ 248) = False := eq_false (by omega)
  have xh : (((s[i].toNat : Nat) : Int) ≥ 128) = True := eq_true (by omega)
  have xm : (((s[i].toNat : Nat) : Int) < 192) = False := eq_false (by omega)
  rw [r98_B0_eq]
  by_cases g : i + 3 ≤ s.size
  · have q2 : ((i : Int) + 3 > (s.size : Int)) = False := eq_false (by omega)
    have hL := ci_loop s (by omega) l i 3 g (by omega) 2 1 (((s[i].toNat : Nat) : Int) - 224) (by omega) (by omega) (by simp only [Int.reducePow]; omega)
    unfold CiLoop at hL
    rw [show 3 - 1 = 2 from rfl] at hL
    rw [decide_eq_true g, Bool.true_and]
    simp (disch := omega) only [go_sem, r98_C0, q1, hi0, va, xa, xd, xg, xh, xm, w64, q2]
    rw [r98_B1_n]
    erw [hL]
    rcases Bool.eq_false_or_eq_true (conts ((bs s).drop (i + 1)) 2) with g2 | g2
    · obtain ⟨d1, d2⟩ := cdec_le _ _ (((s[i].toNat : Nat) : Int) - 224) (by omega) g2
      have d3 : (cdec (((s[i].toNat : Nat) : Int) - 224) ((bs s).drop (i + 1)) 2) ≤ 2097151 := by simp only [Int.reducePow] at d2; omega
      have hput := put_ok (cdec (((s[i].toNat : Nat) : Int) - 224) ((bs s).drop (i + 1)) 2) d1 d3
      rw [g2]
      simp only [if_true, Bool.true_and, okC]
      generalize (cdec (((s[i].toNat : Nat) : Int) - 224) ((bs s).drop (i + 1)) 2) = c at *
      have r1 : ((l.length + 1) * 8 ≤ maxRow) = True := eq_true (by simp only [maxRow]; omega)
      have hcmp := cmp_put s i 3 ((putI c).map ub)
      have et : ((i : Int) + ((3 : Nat) : Int)).toNat = i + 3 := by omega
      have q3 : ((i : Int) ≤ (i : Int) + ((3 : Nat) : Int)) = True := eq_true (by omega)
      have q4 : ((i : Int) + ((3 : Nat) : Int) ≤ (s.size : Int)) = True := eq_true (by omega)
      have ea : l.map iv ++ [iv c] = (l ++ [c]).map iv := by simp
      have all8 : ([iv c].all fun y => y.width == 1) = true := rfl
      rw [Int.natCast_add]
      by_cases k1 : c > 1114111
      · simp (disch := omega) only [go_sem, k1, decide_true, Bool.true_or, Bool.not_true, Bool.false_and]
      · by_cases k2 : c ≥ 55296
        · by_cases k3 : c < 57344
          · simp (disch := omega) only [go_sem, k1, k2, k3, decide_true, decide_false, Bool.true_or, Bool.false_or, Bool.true_and, Bool.not_true, Bool.false_and]
          · rcases Bool.eq_false_or_eq_true ((putI c).map ub == ((bs s).drop i).take 3) with k4 | k4 <;> rw [k4] at hcmp <;>
              simp (disch := omega) only [go_sem, k1, k2, k3, k4, hput, put_bytes, hcmp, strD_neq, et, q3, q4, hi0, w64, r1, all8, ea, List.length_map, decide_true, decide_false, Bool.or_self, Bool.and_self, Bool.and_true, Bool.and_false, Bool.not_false, Bool.not_true, Int.toNat_natCast] <;> rfl
        · rcases Bool.eq_false_or_eq_true ((putI c).map ub == ((bs s).drop i).take 3) with k4 | k4 <;> rw [k4] at hcmp <;>
            simp (disch := omega) only [go_sem, k1, k2, k4, hput, put_bytes, hcmp, strD_neq, et, q3, q4, hi0, w64, r1, all8, ea, List.length_map, decide_true, decide_false, Bool.or_self, Bool.false_and, Bool.and_true, Bool.and_false, Bool.not_false, Bool.not_true, Int.toNat_natCast] <;> rfl
    · rw [g2]
      simp (disch := omega) only [go_sem, Bool.false_and]
  · have q2 : ((i : Int) + 3 > (s.size : Int)) = True := eq_true (by omega)
    rw [decide_eq_false g, Bool.false_and]
    simp (disch := omega) only [go_sem, r98_C0, q1, hi0, va, xa, xd, xg, xh, xm, w64, q2]

theorem sg_4 (s : ByteArray) (hs : s.size ≤ 2097152) (l : List Int) (hl : l.length ≤ 2097152) (i : Nat) (hi : i < s.size) (h1 : ((s[i].toNat : Nat) : Int) ≥ 240) (h2 : ((s[i].toNat : Nat) : Int) ≤ 247) :
    V (F tab) r98_B0 (r98_S0 (.d (.str s)) (.own 3 (l.map iv)) (.d (iv i)) []) =
      if decide (i + 4 ≤ s.size) && (conts ((bs s).drop (i + 1)) 3 && okC s i 4 (cdec (((s[i].toNat : Nat) : Int) - 240) ((bs s).drop (i + 1)) 3)) then
        V (F tab) r98_B0 (r98_S0 (.d (.str s)) (.own 3 ((l ++ [(cdec (((s[i].toNat : Nat) : Int) - 240) ((bs s).drop (i + 1)) 3)]).map iv)) (.d (iv (i + 4 : Nat))) [])
      else some (.ret, r98_R (.d (.sl [])) (.d (.bool false)) []) := by
  have q1 : ((i : Int) < (s.size : Int)) = True := eq_true (by omega)
  have hi0 : (0 ≤ (i : Int)) = True := eq_true (by omega)
  obtain ⟨va, vd⟩ := bs_get hi
  have xa : (((s[i].toNat : Nat) : Int) ≥ 240) = True := eq_true (by omega)
  have xb : (((s[i].toNat : Nat) : Int) < 248) = True := eq_true (by omega)
  have xg : (((s[i].toNat : Nat) : Int) ≥ 248) = False := eq_false (by omega)
  have xh : (((s[i].toNat : Nat) : Int) ≥ 128) = True := eq_true (by omega)
  have xm : (((s[i].toNat : Nat) : Int) < 192) = False := eq_false (by omega)
  rw [r98_B0_eq]
  by_cases g : i + 4 ≤ s.size
  · have q2 : ((i : Int) + 4 > (s.size : Int)) = False := eq_false (by omega)
    have hL := ci_loop s (by omega) l i 4 g (by omega) 3 1 (((s[i].toNat : Nat) : Int) - 240) (by omega) (by omega) (by simp only [Int.reducePow]; omega)
    unfold CiLoop at hL
    rw [show 4 - 1 = 3 from rfl] at hL
    rw [decide_eq_true g, Bool.true_and]
    simp (disch := omega) only [go_sem, r98_C0, q1, hi0, va, xa, xb, xg, xh, xm, w64, q2]
    rw [r98_B1_n]
    erw [hL]
    rcases Bool.eq_false_or_eq_true (conts ((bs s).drop (i + 1)) 3) with g2 | g2
    · obtain ⟨d1, d2⟩ := cdec_le _ _ (((s[i].toNat : Nat) : Int) - 240) (by omega) g2
      have d3 : (cdec (((s[i].toNat : Nat) : Int) - 240) ((bs s).drop (i + 1)) 3) ≤ 2097151 := by simp only [Int.reducePow] at d2; omega
      have hput := put_ok (cdec (((s[i].toNat : Nat) : Int) - 240) ((bs s).drop (i + 1)) 3) d1 d3
      rw [g2]
      simp only [if_true, Bool.true_and, okC]
      generalize (cdec (((s[i].toNat : Nat) : Int) - 240) ((bs s).drop (i + 1)) 3) = c at *
      have r1 : ((l.length + 1) * 8 ≤ maxRow) = True := eq_true (by simp only [maxRow]; omega)
      have hcmp := cmp_put s i 4 ((putI c).map ub)
      have et : ((i : Int) + ((4 : Nat) : Int)).toNat = i + 4 := by omega
      have q3 : ((i : Int) ≤ (i : Int) + ((4 : Nat) : Int)) = True := eq_true (by omega)
      have q4 : ((i : Int) + ((4 : Nat) : Int) ≤ (s.size : Int)) = True := eq_true (by omega)
      have ea : l.map iv ++ [iv c] = (l ++ [c]).map iv := by simp
      have all8 : ([iv c].all fun y => y.width == 1) = true := rfl
      rw [Int.natCast_add]
      by_cases k1 : c > 1114111
      · simp (disch := omega) only [go_sem, k1, decide_true, Bool.true_or, Bool.not_true, Bool.false_and]
      · by_cases k2 : c ≥ 55296
        · by_cases k3 : c < 57344
          · simp (disch := omega) only [go_sem, k1, k2, k3, decide_true, decide_false, Bool.true_or, Bool.false_or, Bool.true_and, Bool.not_true, Bool.false_and]
          · rcases Bool.eq_false_or_eq_true ((putI c).map ub == ((bs s).drop i).take 4) with k4 | k4 <;> rw [k4] at hcmp <;>
              simp (disch := omega) only [go_sem, k1, k2, k3, k4, hput, put_bytes, hcmp, strD_neq, et, q3, q4, hi0, w64, r1, all8, ea, List.length_map, decide_true, decide_false, Bool.or_self, Bool.and_self, Bool.and_true, Bool.and_false, Bool.not_false, Bool.not_true, Int.toNat_natCast] <;> rfl
        · rcases Bool.eq_false_or_eq_true ((putI c).map ub == ((bs s).drop i).take 4) with k4 | k4 <;> rw [k4] at hcmp <;>
            simp (disch := omega) only [go_sem, k1, k2, k4, hput, put_bytes, hcmp, strD_neq, et, q3, q4, hi0, w64, r1, all8, ea, List.length_map, decide_true, decide_false, Bool.or_self, Bool.false_and, Bool.and_true, Bool.and_false, Bool.not_false, Bool.not_true, Int.toNat_natCast] <;> rfl
    · rw [g2]
      simp (disch := omega) only [go_sem, Bool.false_and]
  · have q2 : ((i : Int) + 4 > (s.size : Int)) = True := eq_true (by omega)
    rw [decide_eq_false g, Bool.false_and]
    simp (disch := omega) only [go_sem, r98_C0, q1, hi0, va, xa, xb, xg, xh, xm, w64, q2]

end Go.Pe.T

namespace Go.Pe.T

def okL (l : List UInt8) (n : Nat) (c : Int) : Bool := !(decide (c > 1114111) || (decide (c ≥ 55296) && decide (c < 57344))) && ((putI c).map ub == l.take n)
theorem ub_nat (x : UInt8) : ub ((x.toNat : Nat) : Int) = x := by simp [ub]

theorem szc_0 (l : List UInt8) (g1 : nb l 0 ≥ 0) (g2 : nb l 0 ≤ 127) : sizeL l = 1 := by
  unfold sizeL
  generalize nb l 0 = c at *
  have xa : (c < 128) = True := eq_true (by omega)
  have xb : (c ≥ 194) = False := eq_false (by omega)
  have xd : (c ≤ 223) = True := eq_true (by omega)
  have xe : (c == 224) = false := by simp <;> omega
  have xf : (c ≥ 225) = False := eq_false (by omega)
  have xh : (c ≤ 239) = True := eq_true (by omega)
  have xi : (c != 237) = true := by simp <;> omega
  have xj : (c == 237) = false := by simp <;> omega
  have xk : (c == 240) = false := by simp <;> omega
  have xl : (c ≥ 241) = False := eq_false (by omega)
  have xm : (c ≤ 243) = True := eq_true (by omega)
  have xn : (c == 244) = false := by simp <;> omega
  simp only [xa, xb, xd, xe, xf, xh, xi, xj, xk, xl, xm, xn, decide_true, decide_false, Bool.true_and, Bool.false_and, Bool.or_false, Bool.false_or, Bool.and_true, Bool.and_false, Bool.false_eq_true, if_true, if_false]

theorem szc_1 (l : List UInt8) (g1 : nb l 0 ≥ 128) (g2 : nb l 0 ≤ 193) : sizeL l = 0 := by
  unfold sizeL
  generalize nb l 0 = c at *
  have xa : (c < 128) = False := eq_false (by omega)
  have xb : (c ≥ 194) = False := eq_false (by omega)
  have xd : (c ≤ 223) = True := eq_true (by omega)
  have xe : (c == 224) = false := by simp <;> omega
  have xf : (c ≥ 225) = False := eq_false (by omega)
  have xh : (c ≤ 239) = True := eq_true (by omega)
  have xi : (c != 237) = true := by simp <;> omega
  have xj : (c == 237) = false := by simp <;> omega
  have xk : (c == 240) = false := by simp <;> omega
  have xl : (c ≥ 241) = False := eq_false (by omega)
  have xm : (c ≤ 243) = True := eq_true (by omega)
  have xn : (c == 244) = false := by simp <;> omega
  simp only [xa, xb, xd, xe, xf, xh, xi, xj, xk, xl, xm, xn, decide_true, decide_false, Bool.true_and, Bool.false_and, Bool.or_false, Bool.false_or, Bool.and_true, Bool.and_false, Bool.false_eq_true, if_true, if_false]

theorem szc_2 (l : List UInt8) (g1 : nb l 0 ≥ 194) (g2 : nb l 0 ≤ 223) : sizeL l = if tailL l 1 128 191 then 2 else 0 := by
  unfold sizeL
  generalize nb l 0 = c at *
  have xa : (c < 128) = False := eq_false (by omega)
  have xb : (c ≥ 194) = True := eq_true (by omega)
  have xd : (c ≤ 223) = True := eq_true (by omega)
  have xe : (c == 224) = false := by simp <;> omega
  have xf : (c ≥ 225) = False := eq_false (by omega)
  have xh : (c ≤ 239) = True := eq_true (by omega)
  have xi : (c != 237) = true := by simp <;> omega
  have xj : (c == 237) = false := by simp <;> omega
  have xk : (c == 240) = false := by simp <;> omega
  have xl : (c ≥ 241) = False := eq_false (by omega)
  have xm : (c ≤ 243) = True := eq_true (by omega)
  have xn : (c == 244) = false := by simp <;> omega
  simp only [xa, xb, xd, xe, xf, xh, xi, xj, xk, xl, xm, xn, decide_true, decide_false, Bool.true_and, Bool.false_and, Bool.or_false, Bool.false_or, Bool.and_true, Bool.and_false, Bool.false_eq_true, if_true, if_false]

theorem szc_3 (l : List UInt8) (g1 : nb l 0 ≥ 224) (g2 : nb l 0 ≤ 224) : sizeL l = if tailL l 2 160 191 then 3 else 0 := by
  unfold sizeL
  generalize nb l 0 = c at *
  have xa : (c < 128) = False := eq_false (by omega)
  have xb : (c ≥ 194) = True := eq_true (by omega)
  have xd : (c ≤ 223) = False := eq_false (by omega)
  have xe : (c == 224) = true := by simp <;> omega
  have xf : (c ≥ 225) = False := eq_false (by omega)
  have xh : (c ≤ 239) = True := eq_true (by omega)
  have xi : (c != 237) = true := by simp <;> omega
  have xj : (c == 237) = false := by simp <;> omega
  have xk : (c == 240) = false := by simp <;> omega
  have xl : (c ≥ 241) = False := eq_false (by omega)
  have xm : (c ≤ 243) = True := eq_true (by omega)
  have xn : (c == 244) = false := by simp <;> omega
  simp only [xa, xb, xd, xe, xf, xh, xi, xj, xk, xl, xm, xn, decide_true, decide_false, Bool.true_and, Bool.false_and, Bool.or_false, Bool.false_or, Bool.and_true, Bool.and_false, Bool.false_eq_true, if_true, if_false]

theorem szc_4 (l : List UInt8) (g1 : nb l 0 ≥ 225) (g2 : nb l 0 ≤ 236) : sizeL l = if tailL l 2 128 191 then 3 else 0 := by
  unfold sizeL
  generalize nb l 0 = c at *
  have xa : (c < 128) = False := eq_false (by omega)
  have xb : (c ≥ 194) = True := eq_true (by omega)
  have xd : (c ≤ 223) = False := eq_false (by omega)
  have xe : (c == 224) = false := by simp <;> omega
  have xf : (c ≥ 225) = True := eq_true (by omega)
  have xh : (c ≤ 239) = True := eq_true (by omega)
  have xi : (c != 237) = true := by simp <;> omega
  have xj : (c == 237) = false := by simp <;> omega
  have xk : (c == 240) = false := by simp <;> omega
  have xl : (c ≥ 241) = False := eq_false (by omega)
  have xm : (c ≤ 243) = True := eq_true (by omega)
  have xn : (c == 244) = false := by simp <;> omega
  simp only [xa, xb, xd, xe, xf, xh, xi, xj, xk, xl, xm, xn, decide_true, decide_false, Bool.true_and, Bool.false_and, Bool.or_false, Bool.false_or, Bool.and_true, Bool.and_false, Bool.false_eq_true, if_true, if_false]

theorem szc_5 (l : List UInt8) (g1 : nb l 0 ≥ 237) (g2 : nb l 0 ≤ 237) : sizeL l = if tailL l 2 128 159 then 3 else 0 := by
  unfold sizeL
  generalize nb l 0 = c at *
  have xa : (c < 128) = False := eq_false (by omega)
  have xb : (c ≥ 194) = True := eq_true (by omega)
  have xd : (c ≤ 223) = False := eq_false (by omega)
  have xe : (c == 224) = false := by simp <;> omega
  have xf : (c ≥ 225) = True := eq_true (by omega)
  have xh : (c ≤ 239) = True := eq_true (by omega)
  have xi : (c != 237) = false := by simp <;> omega
  have xj : (c == 237) = true := by simp <;> omega
  have xk : (c == 240) = false := by simp <;> omega
  have xl : (c ≥ 241) = False := eq_false (by omega)
  have xm : (c ≤ 243) = True := eq_true (by omega)
  have xn : (c == 244) = false := by simp <;> omega
  simp only [xa, xb, xd, xe, xf, xh, xi, xj, xk, xl, xm, xn, decide_true, decide_false, Bool.true_and, Bool.false_and, Bool.or_false, Bool.false_or, Bool.and_true, Bool.and_false, Bool.false_eq_true, if_true, if_false]

theorem szc_6 (l : List UInt8) (g1 : nb l 0 ≥ 238) (g2 : nb l 0 ≤ 239) : sizeL l = if tailL l 2 128 191 then 3 else 0 := by
  unfold sizeL
  generalize nb l 0 = c at *
  have xa : (c < 128) = False := eq_false (by omega)
  have xb : (c ≥ 194) = True := eq_true (by omega)
  have xd : (c ≤ 223) = False := eq_false (by omega)
  have xe : (c == 224) = false := by simp <;> omega
  have xf : (c ≥ 225) = True := eq_true (by omega)
  have xh : (c ≤ 239) = True := eq_true (by omega)
  have xi : (c != 237) = true := by simp <;> omega
  have xj : (c == 237) = false := by simp <;> omega
  have xk : (c == 240) = false := by simp <;> omega
  have xl : (c ≥ 241) = False := eq_false (by omega)
  have xm : (c ≤ 243) = True := eq_true (by omega)
  have xn : (c == 244) = false := by simp <;> omega
  simp only [xa, xb, xd, xe, xf, xh, xi, xj, xk, xl, xm, xn, decide_true, decide_false, Bool.true_and, Bool.false_and, Bool.or_false, Bool.false_or, Bool.and_true, Bool.and_false, Bool.false_eq_true, if_true, if_false]

theorem szc_7 (l : List UInt8) (g1 : nb l 0 ≥ 240) (g2 : nb l 0 ≤ 240) : sizeL l = if tailL l 3 144 191 then 4 else 0 := by
  unfold sizeL
  generalize nb l 0 = c at *
  have xa : (c < 128) = False := eq_false (by omega)
  have xb : (c ≥ 194) = True := eq_true (by omega)
  have xd : (c ≤ 223) = False := eq_false (by omega)
  have xe : (c == 224) = false := by simp <;> omega
  have xf : (c ≥ 225) = True := eq_true (by omega)
  have xh : (c ≤ 239) = False := eq_false (by omega)
  have xi : (c != 237) = true := by simp <;> omega
  have xj : (c == 237) = false := by simp <;> omega
  have xk : (c == 240) = true := by simp <;> omega
  have xl : (c ≥ 241) = False := eq_false (by omega)
  have xm : (c ≤ 243) = True := eq_true (by omega)
  have xn : (c == 244) = false := by simp <;> omega
  simp only [xa, xb, xd, xe, xf, xh, xi, xj, xk, xl, xm, xn, decide_true, decide_false, Bool.true_and, Bool.false_and, Bool.or_false, Bool.false_or, Bool.and_true, Bool.and_false, Bool.false_eq_true, if_true, if_false]

theorem szc_8 (l : List UInt8) (g1 : nb l 0 ≥ 241) (g2 : nb l 0 ≤ 243) : sizeL l = if tailL l 3 128 191 then 4 else 0 := by
  unfold sizeL
  generalize nb l 0 = c at *
  have xa : (c < 128) = False := eq_false (by omega)
  have xb : (c ≥ 194) = True := eq_true (by omega)
  have xd : (c ≤ 223) = False := eq_false (by omega)
  have xe : (c == 224) = false := by simp <;> omega
  have xf : (c ≥ 225) = True := eq_true (by omega)
  have xh : (c ≤ 239) = False := eq_false (by omega)
  have xi : (c != 237) = true := by simp <;> omega
  have xj : (c == 237) = false := by simp <;> omega
  have xk : (c == 240) = false := by simp <;> omega
  have xl : (c ≥ 241) = True := eq_true (by omega)
  have xm : (c ≤ 243) = True := eq_true (by omega)
  have xn : (c == 244) = false := by simp <;> omega
  simp only [xa, xb, xd, xe, xf, xh, xi, xj, xk, xl, xm, xn, decide_true, decide_false, Bool.true_and, Bool.false_and, Bool.or_false, Bool.false_or, Bool.and_true, Bool.and_false, Bool.false_eq_true, if_true, if_false]

theorem szc_9 (l : List UInt8) (g1 : nb l 0 ≥ 244) (g2 : nb l 0 ≤ 244) : sizeL l = if tailL l 3 128 143 then 4 else 0 := by
  unfold sizeL
  generalize nb l 0 = c at *
  have xa : (c < 128) = False := eq_false (by omega)
  have xb : (c ≥ 194) = True := eq_true (by omega)
  have xd : (c ≤ 223) = False := eq_false (by omega)
  have xe : (c == 224) = false := by simp <;> omega
  have xf : (c ≥ 225) = True := eq_true (by omega)
  have xh : (c ≤ 239) = False := eq_false (by omega)
  have xi : (c != 237) = true := by simp <;> omega
  have xj : (c == 237) = false := by simp <;> omega
  have xk : (c == 240) = false := by simp <;> omega
  have xl : (c ≥ 241) = True := eq_true (by omega)
  have xm : (c ≤ 243) = False := eq_false (by omega)
  have xn : (c == 244) = true := by simp <;> omega
  simp only [xa, xb, xd, xe, xf, xh, xi, xj, xk, xl, xm, xn, decide_true, decide_false, Bool.true_and, Bool.false_and, Bool.or_false, Bool.false_or, Bool.and_true, Bool.and_false, Bool.false_eq_true, if_true, if_false]

theorem szc_10 (l : List UInt8) (g1 : nb l 0 ≥ 245) (g2 : nb l 0 ≤ 255) : sizeL l = 0 := by
  unfold sizeL
  generalize nb l 0 = c at *
  have xa : (c < 128) = False := eq_false (by omega)
  have xb : (c ≥ 194) = True := eq_true (by omega)
  have xd : (c ≤ 223) = False := eq_false (by omega)
  have xe : (c == 224) = false := by simp <;> omega
  have xf : (c ≥ 225) = True := eq_true (by omega)
  have xh : (c ≤ 239) = False := eq_false (by omega)
  have xi : (c != 237) = true := by simp <;> omega
  have xj : (c == 237) = false := by simp <;> omega
  have xk : (c == 240) = false := by simp <;> omega
  have xl : (c ≥ 241) = True := eq_true (by omega)
  have xm : (c ≤ 243) = False := eq_false (by omega)
  have xn : (c == 244) = false := by simp <;> omega
  simp only [xa, xb, xd, xe, xf, xh, xi, xj, xk, xl, xm, xn, decide_true, decide_false, Bool.true_and, Bool.false_and, Bool.or_false, Bool.false_or, Bool.and_true, Bool.and_false, Bool.false_eq_true, if_true, if_false]

theorem nb0 (x : UInt8) (r : List UInt8) : nb (x :: r) 0 = ((x.toNat : Nat) : Int) := rfl
theorem nb1 (x y : UInt8) (r : List UInt8) : nb (x :: y :: r) 1 = ((y.toNat : Nat) : Int) := rfl

theorem m1 (x : UInt8) (r : List UInt8) (h : ((x.toNat : Nat) : Int) ≤ 127) : okL (x :: r) 1 ((x.toNat : Nat) : Int) = true ∧ sizeL (x :: r) = 1 := by
  refine ⟨?_, szc_0 _ (by rw [nb0]; omega) (by rw [nb0]; omega)⟩
  have h1 : ¬ ((x.toNat : Nat) : Int) > 1114111 := by omega
  have h2 : ¬ ((x.toNat : Nat) : Int) ≥ 55296 := by omega
  have h3 : ((x.toNat : Nat) : Int) < 128 := by omega
  simp [okL, putI, h1, h2, h3, ub_nat]

theorem m2 (x : UInt8) (r : List UInt8) (h1 : 192 ≤ ((x.toNat : Nat) : Int)) (h2 : ((x.toNat : Nat) : Int) ≤ 223) :
    (decide (2 ≤ (x :: r).length) && (conts r 1 && okL (x :: r) 2 (cdec (((x.toNat : Nat) : Int) - 192) r 1))) = (sizeL (x :: r) == 2) ∧ (sizeL (x :: r) = 2 ∨ sizeL (x :: r) = 0) := by
  match r with
  | [] =>
    have : sizeL [x] = 0 := by
      by_cases g : nb [x] 0 ≤ 193
      · exact szc_1 _ (by rw [nb0]; omega) g
      · rw [szc_2 _ (by omega) (by rw [nb0]; omega)]; simp [tailL]
    simp [this]
  | y :: r =>
    have hy : y.toNat < 256 := UInt8.toNat_lt _
    simp only [conts, contB, Bool.and_true, cdec]
    by_cases g1 : ((y.toNat : Nat) : Int) < 128
    · have : sizeL (x :: y :: r) = 0 := by
        by_cases g : nb (x :: y :: r) 0 ≤ 193
        · exact szc_1 _ (by rw [nb0]; omega) g
        · rw [szc_2 _ (by omega) (by rw [nb0]; omega)]; simp [tailL, nb1, g1]
      simp [this, g1]
    · by_cases g2 : ((y.toNat : Nat) : Int) > 191
      · have : sizeL (x :: y :: r) = 0 := by
          by_cases g : nb (x :: y :: r) 0 ≤ 193
          · exact szc_1 _ (by rw [nb0]; omega) g
          · rw [szc_2 _ (by omega) (by rw [nb0]; omega)]; simp [tailL, nb1, g2]
        simp [this, g2]
      · generalize hc : 64 * (((x.toNat : Nat) : Int) - 192) + ((y.toNat : Nat) : Int) - 128 = c
        have k1 : ¬ c > 1114111 := by omega
        have k2 : ¬ c ≥ 55296 := by omega
        by_cases g : ((x.toNat : Nat) : Int) ≤ 193
        · have e : sizeL (x :: y :: r) = 0 := szc_1 _ (by rw [nb0]; omega) (by rw [nb0]; omega)
          have k3 : c < 128 := by omega
          simp [e, okL, putI, k3]
        · have e : sizeL (x :: y :: r) = 2 := by
            rw [szc_2 _ (by rw [nb0]; omega) (by rw [nb0]; omega)]; simp [tailL, nb1, g1, g2, conts]
          have k3 : ¬ c < 128 := by omega
          have k4 : c < 2048 := by omega
          have e1 : 192 + c / 64 = ((x.toNat : Nat) : Int) := by omega
          have e2 : 128 + c % 64 = ((y.toNat : Nat) : Int) := by omega
          simp [e, okL, putI, k1, k2, k3, k4, e1, e2, ub_nat, g1, g2]

theorem sz3 (x : UInt8) (r : List UInt8) (h1 : 224 ≤ ((x.toNat : Nat) : Int)) (h2 : ((x.toNat : Nat) : Int) ≤ 239) :
    sizeL (x :: r) = if tailL (x :: r) 2 (if ((x.toNat : Nat) : Int) = 224 then 160 else 128) (if ((x.toNat : Nat) : Int) = 237 then 159 else 191) then 3 else 0 := by
  by_cases a : ((x.toNat : Nat) : Int) = 224
  · have b : ¬ ((x.toNat : Nat) : Int) = 237 := by omega
    rw [szc_3 _ (by rw [nb0]; omega) (by rw [nb0]; omega), if_pos a, if_neg b]
  · by_cases b : ((x.toNat : Nat) : Int) = 237
    · rw [szc_5 _ (by rw [nb0]; omega) (by rw [nb0]; omega), if_neg a, if_pos b]
    · rw [if_neg a, if_neg b]
      by_cases c : ((x.toNat : Nat) : Int) ≤ 236
      · exact szc_4 _ (by rw [nb0]; omega) (by rw [nb0]; omega)
      · exact szc_6 _ (by rw [nb0]; omega) (by rw [nb0]; omega)
theorem sz4 (x : UInt8) (r : List UInt8) (h1 : 240 ≤ ((x.toNat : Nat) : Int)) (h2 : ((x.toNat : Nat) : Int) ≤ 247) :
    sizeL (x :: r) = if (decide (((x.toNat : Nat) : Int) ≤ 244) && tailL (x :: r) 3 (if ((x.toNat : Nat) : Int) = 240 then 144 else 128) (if ((x.toNat : Nat) : Int) = 244 then 143 else 191)) then 4 else 0 := by
  by_cases a : ((x.toNat : Nat) : Int) = 240
  · have q : ((x.toNat : Nat) : Int) ≤ 244 := by omega
    have b : ¬ ((x.toNat : Nat) : Int) = 244 := by omega
    rw [szc_7 _ (by rw [nb0]; omega) (by rw [nb0]; omega), if_pos a, if_neg b, decide_eq_true q, Bool.true_and]
  · by_cases b : ((x.toNat : Nat) : Int) = 244
    · have q : ((x.toNat : Nat) : Int) ≤ 244 := by omega
      rw [szc_9 _ (by rw [nb0]; omega) (by rw [nb0]; omega), if_neg a, if_pos b, decide_eq_true q, Bool.true_and]
    · rw [if_neg a, if_neg b]
      by_cases c : ((x.toNat : Nat) : Int) ≤ 243
      · have q : ((x.toNat : Nat) : Int) ≤ 244 := by omega
        rw [szc_8 _ (by rw [nb0]; omega) (by rw [nb0]; omega), decide_eq_true q, Bool.true_and]
      · have q : ¬ ((x.toNat : Nat) : Int) ≤ 244 := by omega
        rw [szc_10 _ (by rw [nb0]; omega) (by rw [nb0]; omega), decide_eq_false q, Bool.false_and, if_neg (by simp)]

theorem m3 (x : UInt8) (r : List UInt8) (h1 : 224 ≤ ((x.toNat : Nat) : Int)) (h2 : ((x.toNat : Nat) : Int) ≤ 239) :
    (decide (3 ≤ (x :: r).length) && (conts r 2 && okL (x :: r) 3 (cdec (((x.toNat : Nat) : Int) - 224) r 2))) = (sizeL (x :: r) == 3) ∧ (sizeL (x :: r) = 3 ∨ sizeL (x :: r) = 0) := by
  refine ⟨?_, by rw [sz3 x r h1 h2]; split <;> simp⟩
  rw [sz3 x r h1 h2]
  match r with
  | [] => simp [tailL]
  | [y] => simp [tailL, conts]
  | y :: z :: r =>
    have hy : y.toNat < 256 := UInt8.toNat_lt _
    have hz : z.toNat < 256 := UInt8.toNat_lt _
    have el : decide (3 ≤ (x :: y :: z :: r).length) = true := by simp
    have et : ∀ lo hi, tailL (x :: y :: z :: r) 2 lo hi = ((!decide (((y.toNat : Nat) : Int) < lo) && !decide (((y.toNat : Nat) : Int) > hi)) && contB z.toNat) := by
      intro lo hi; simp [tailL, nb1, conts] <;> rfl
    rw [el, et]
    simp only [conts, Bool.and_true, Bool.true_and, cdec, contB]
    generalize hX : ((x.toNat : Nat) : Int) = X at *
    generalize hY : ((y.toNat : Nat) : Int) = Y at *
    generalize hZ : ((z.toNat : Nat) : Int) = Z at *
    generalize hc : 64 * (64 * (X - 224) + Y - 128) + Z - 128 = c
    have ux : ub X = x := by rw [← hX]; exact ub_nat x
    have uy : ub Y = y := by rw [← hY]; exact ub_nat y
    have uz : ub Z = z := by rw [← hZ]; exact ub_nat z
    by_cases z1 : Z < 128
    · simp [z1]
    by_cases z2 : Z > 191
    · simp [z2]
    by_cases y1 : Y < 128
    · have : Y < (if X = 224 then 160 else 128) := by split <;> omega
      simp [y1, this]
    by_cases y2 : Y > 191
    · have : Y > (if X = 237 then 159 else 191) := by split <;> omega
      simp [y2, this]
    have k1 : ¬ c > 1114111 := by omega
    simp only [z1, z2, y1, y2, k1, okL, decide_false, decide_true, Bool.not_false, Bool.not_true, Bool.true_and, Bool.and_true, Bool.false_or]
    by_cases a : X = 224
    · have b : ¬ X = 237 := by omega
      have s1 : ¬ c ≥ 55296 := by omega
      simp only [if_pos a, if_neg b, y2, s1, decide_false, Bool.not_false, Bool.and_true, Bool.false_and, Bool.true_and]
      by_cases q : Y < 160
      · have p1 : c < 2048 := by omega
        by_cases p0 : c < 128
        · simp [putI, p0, q]
        · simp [putI, p0, p1, q]
      · have p1 : ¬ c < 2048 := by omega
        have p0 : ¬ c < 128 := by omega
        have p2 : c < 65536 := by omega
        have e1 : 224 + c / 4096 = X := by omega
        have e2 : 128 + c / 64 % 64 = Y := by omega
        have e3 : 128 + c % 64 = Z := by omega
        simp [putI, p0, p1, p2, e1, e2, e3, q, ux, uy, uz]
    · have p1 : ¬ c < 2048 := by omega
      have p0 : ¬ c < 128 := by omega
      have p2 : c < 65536 := by omega
      have e1 : 224 + c / 4096 = X := by omega
      have e2 : 128 + c / 64 % 64 = Y := by omega
      have e3 : 128 + c % 64 = Z := by omega
      have ep : ((putI c).map ub == (x :: y :: z :: r).take 3) = true := by simp [putI, p0, p1, p2, e1, e2, e3, ux, uy, uz]
      rw [ep]
      by_cases b : X = 237
      · simp only [if_neg a, if_pos b, y1, decide_false, Bool.not_false, Bool.and_true, Bool.true_and]
        by_cases q : Y > 159
        · have s1 : c ≥ 55296 := by omega
          have s2 : c < 57344 := by omega
          simp [s1, s2, q]
        · have s1 : ¬ c ≥ 55296 := by omega
          simp [s1, q]
      · simp only [if_neg a, if_neg b, y1, y2, decide_false, Bool.not_false, Bool.and_true, Bool.true_and]
        by_cases s1 : c ≥ 55296
        · have s2 : ¬ c < 57344 := by omega
          simp [s1, s2]
        · simp [s1]

theorem m4 (x : UInt8) (r : List UInt8) (h1 : 240 ≤ ((x.toNat : Nat) : Int)) (h2 : ((x.toNat : Nat) : Int) ≤ 247) :
    (decide (4 ≤ (x :: r).length) && (conts r 3 && okL (x :: r) 4 (cdec (((x.toNat : Nat) : Int) - 240) r 3))) = (sizeL (x :: r) == 4) ∧ (sizeL (x :: r) = 4 ∨ sizeL (x :: r) = 0) := by
  refine ⟨?_, by rw [sz4 x r h1 h2]; split <;> simp⟩
  rw [sz4 x r h1 h2]
  match r with
  | [] => simp [tailL]
  | [y] => simp [tailL, conts]
  | [y, z] => simp [tailL, conts]
  | y :: z :: w :: r =>
    have hy : y.toNat < 256 := UInt8.toNat_lt _
    have hz : z.toNat < 256 := UInt8.toNat_lt _
    have hw : w.toNat < 256 := UInt8.toNat_lt _
    have el : decide (4 ≤ (x :: y :: z :: w :: r).length) = true := by simp
    have et : ∀ lo hi, tailL (x :: y :: z :: w :: r) 3 lo hi = ((!decide (((y.toNat : Nat) : Int) < lo) && !decide (((y.toNat : Nat) : Int) > hi)) && (contB z.toNat && contB w.toNat)) := by
      intro lo hi; simp [tailL, nb1, conts] <;> rfl
    rw [el, et]
    simp only [conts, Bool.and_true, Bool.true_and, cdec, contB]
    generalize hX : ((x.toNat : Nat) : Int) = X at *
    generalize hY : ((y.toNat : Nat) : Int) = Y at *
    generalize hZ : ((z.toNat : Nat) : Int) = Z at *
    generalize hW : ((w.toNat : Nat) : Int) = W at *
    generalize hc : 64 * (64 * (64 * (X - 240) + Y - 128) + Z - 128) + W - 128 = c
    have ux : ub X = x := by rw [← hX]; exact ub_nat x
    have uy : ub Y = y := by rw [← hY]; exact ub_nat y
    have uz : ub Z = z := by rw [← hZ]; exact ub_nat z
    have uw : ub W = w := by rw [← hW]; exact ub_nat w
    by_cases w1 : W < 128
    · simp [w1]
    by_cases w2 : W > 191
    · simp [w2]
    by_cases z1 : Z < 128
    · simp [z1]
    by_cases z2 : Z > 191
    · simp [z2]
    by_cases y1 : Y < 128
    · have : Y < (if X = 240 then 144 else 128) := by split <;> omega
      simp [y1, this]
    by_cases y2 : Y > 191
    · have : Y > (if X = 244 then 143 else 191) := by split <;> omega
      simp [y2, this]
    simp only [w1, w2, z1, z2, y1, y2, okL, decide_false, decide_true, Bool.not_false, Bool.not_true, Bool.true_and, Bool.and_true, Bool.false_or]
    by_cases a : X = 240
    · have b : ¬ X = 244 := by omega
      have k1 : ¬ c > 1114111 := by omega
      have xl : X ≤ 244 := by omega
      simp only [if_pos a, if_neg b, y2, k1, xl, decide_true, decide_false, Bool.not_false, Bool.and_true, Bool.true_and, Bool.false_or]
      by_cases q : Y < 144
      · have p2 : c < 65536 := by omega
        by_cases p0 : c < 128
        · simp [putI, p0, q]
        · by_cases p1 : c < 2048
          · simp [putI, p0, p1, q]
          · simp [putI, p0, p1, p2, q]
      · have p2 : ¬ c < 65536 := by omega
        have p1 : ¬ c < 2048 := by omega
        have p0 : ¬ c < 128 := by omega
        have s2 : ¬ c < 57344 := by omega
        have e1 : 240 + c / 262144 = X := by omega
        have e2 : 128 + c / 4096 % 64 = Y := by omega
        have e3 : 128 + c / 64 % 64 = Z := by omega
        have e4 : 128 + c % 64 = W := by omega
        simp [putI, p0, p1, p2, e1, e2, e3, e4, q, ux, uy, uz, uw, s2]
    · have p2 : ¬ c < 65536 := by omega
      have p1 : ¬ c < 2048 := by omega
      have p0 : ¬ c < 128 := by omega
      have s2 : ¬ c < 57344 := by omega
      have e1 : 240 + c / 262144 = X := by omega
      have e2 : 128 + c / 4096 % 64 = Y := by omega
      have e3 : 128 + c / 64 % 64 = Z := by omega
      have e4 : 128 + c % 64 = W := by omega
      have ep : ((putI c).map ub == (x :: y :: z :: w :: r).take 4) = true := by simp [putI, p0, p1, p2, e1, e2, e3, e4, ux, uy, uz, uw]
      rw [ep]
      by_cases b : X = 244
      · have xl : X ≤ 244 := by omega
        simp only [if_neg a, if_pos b, y1, xl, decide_true, decide_false, Bool.not_false, Bool.and_true, Bool.true_and]
        by_cases q : Y > 143
        · have k1 : c > 1114111 := by omega
          simp [k1, q]
        · have k1 : ¬ c > 1114111 := by omega
          simp [k1, q, s2]
      · simp only [if_neg a, if_neg b, y1, y2, decide_false, Bool.not_false, Bool.and_true, Bool.true_and]
        by_cases xl : X ≤ 244
        · have k1 : ¬ c > 1114111 := by omega
          simp [k1, xl, s2]
        · have k1 : c > 1114111 := by omega
          simp [k1, xl]
end Go.Pe.T

namespace Go.Pe.T

theorem sg_bad1 (s : ByteArray) (hs : s.size ≤ 2097152) (l : List Int) (i : Nat) (hi : i < s.size) (h1 : ((s[i].toNat : Nat) : Int) ≥ 128) (h2 : ((s[i].toNat : Nat) : Int) ≤ 191) : V (F tab) r98_B0 (r98_S0 (.d (.str s)) (.own 3 (l.map iv)) (.d (iv i)) []) = some (.ret, r98_R (.d (.sl [])) (.d (.bool false)) []) := by
  have q1 : ((i : Int) < (s.size : Int)) = True := eq_true (by omega)
  have hi0 : (0 ≤ (i : Int)) = True := eq_true (by omega)
  obtain ⟨va, vd⟩ := bs_get hi
  have xa : (((s[i].toNat : Nat) : Int) ≥ 240) = False := eq_false (by omega)
  have xd : (((s[i].toNat : Nat) : Int) ≥ 224) = False := eq_false (by omega)
  have xe : (((s[i].toNat : Nat) : Int) ≥ 192) = False := eq_false (by omega)
  have xg : (((s[i].toNat : Nat) : Int) ≥ 248) = False := eq_false (by omega)
  have xh : (((s[i].toNat : Nat) : Int) ≥ 128) = True := eq_true (by omega)
  have xm : (((s[i].toNat : Nat) : Int) < 192) = True := eq_true (by omega)
  rw [r98_B0_eq]
  simp (disch := omega) only [go_sem, r98_C0, q1, hi0, va, xa, xd, xe, xg, xh, xm, w64]

theorem sg_bad2 (s : ByteArray) (hs : s.size ≤ 2097152) (l : List Int) (i : Nat) (hi : i < s.size) (h1 : ((s[i].toNat : Nat) : Int) ≥ 248) (h2 : ((s[i].toNat : Nat) : Int) ≤ 255) : V (F tab) r98_B0 (r98_S0 (.d (.str s)) (.own 3 (l.map iv)) (.d (iv i)) []) = some (.ret, r98_R (.d (.sl [])) (.d (.bool false)) []) := by
  have q1 : ((i : Int) < (s.size : Int)) = True := eq_true (by omega)
  have hi0 : (0 ≤ (i : Int)) = True := eq_true (by omega)
  obtain ⟨va, vd⟩ := bs_get hi
  have xa : (((s[i].toNat : Nat) : Int) ≥ 240) = True := eq_true (by omega)
  have xb : (((s[i].toNat : Nat) : Int) < 248) = False := eq_false (by omega)
  have xd : (((s[i].toNat : Nat) : Int) ≥ 224) = True := eq_true (by omega)
  have xe : (((s[i].toNat : Nat) : Int) ≥ 192) = True := eq_true (by omega)
  have xg : (((s[i].toNat : Nat) : Int) ≥ 248) = True := eq_true (by omega)
  have xh : (((s[i].toNat : Nat) : Int) ≥ 128) = True := eq_true (by omega)
  have xm : (((s[i].toNat : Nat) : Int) < 192) = False := eq_false (by omega)
  rw [r98_B0_eq]
  simp (disch := omega) only [go_sem, r98_C0, q1, hi0, va, xa, xb, xd, xe, xg, xh, xm, w64]

def SgIs (s : ByteArray) (l : List Int) (i k : Nat) : Prop :=
  if validF k ((bs s).drop i) = true then ∃ l' : List Int, V (F tab) r98_B0 (r98_S0 (.d (.str s)) (.own 3 (l.map iv)) (.d (iv i)) []) = some (.norm, r98_E0 (.own 3 (l'.map iv)) [])
  else V (F tab) r98_B0 (r98_S0 (.d (.str s)) (.own 3 (l.map iv)) (.d (iv i)) []) = some (.ret, r98_R (.d (.sl [])) (.d (.bool false)) [])
theorem sgis_end (s : ByteArray) (l : List Int) (i k : Nat) (hi : s.size ≤ i) : SgIs s l i k := by
  have h1 : ((i : Int) < (s.size : Int)) = False := eq_false (by omega)
  have e : validF k ((bs s).drop i) = true := by rw [bs_end hi]; cases k <;> rfl
  unfold SgIs
  rw [if_pos e]
  refine ⟨l, ?_⟩
  rw [r98_B0_eq]
  simp (disch := omega) only [go_sem, r98_C0, h1]
theorem sgis_of (s : ByteArray) (l : List Int) (i k n : Nat) (c : Int) (C : Bool) (hi : i < s.size) (hn : 0 < n)
    (hV : V (F tab) r98_B0 (r98_S0 (.d (.str s)) (.own 3 (l.map iv)) (.d (iv i)) []) = if C then V (F tab) r98_B0 (r98_S0 (.d (.str s)) (.own 3 ((l ++ [c]).map iv)) (.d (iv (i + n : Nat))) []) else some (.ret, r98_R (.d (.sl [])) (.d (.bool false)) []))
    (hC : C = (sizeL ((bs s).drop i) == n)) (h0 : sizeL ((bs s).drop i) = n ∨ sizeL ((bs s).drop i) = 0) (ih : SgIs s (l ++ [c]) (i + n) k) : SgIs s l i (k + 1) := by
  obtain ⟨va, vd⟩ := bs_get hi
  have ev : validF (k + 1) ((bs s).drop i) = if sizeL ((bs s).drop i) = 0 then false else validF k (((bs s).drop i).drop (sizeL ((bs s).drop i))) := by rw [vd]; rfl
  unfold SgIs at ih ⊢
  rcases h0 with h0 | h0
  · have e : C = true := by rw [hC, h0]; simp
    have e2 : validF (k + 1) ((bs s).drop i) = validF k ((bs s).drop (i + n)) := by
      rw [ev, h0, if_neg (show ¬ n = 0 by omega), List.drop_drop]
    rw [e2, hV, e]
    simp only [if_true]
    exact ih
  · have e : C = false := by rw [hC, h0]; simp; omega
    have e2 : validF (k + 1) ((bs s).drop i) = false := by rw [ev, h0, if_pos rfl]
    rw [e2, hV, e]
    simp
theorem sgis_bad (s : ByteArray) (l : List Int) (i k : Nat) (hi : i < s.size) (hV : V (F tab) r98_B0 (r98_S0 (.d (.str s)) (.own 3 (l.map iv)) (.d (iv i)) []) = some (.ret, r98_R (.d (.sl [])) (.d (.bool false)) [])) (h0 : sizeL ((bs s).drop i) = 0) : SgIs s l i (k + 1) := by
  obtain ⟨va, vd⟩ := bs_get hi
  have ev : validF (k + 1) ((bs s).drop i) = if sizeL ((bs s).drop i) = 0 then false else validF k (((bs s).drop i).drop (sizeL ((bs s).drop i))) := by rw [vd]; rfl
  unfold SgIs
  rw [ev, h0]
  simpa using hV
theorem sgis_step (s : ByteArray) (hs : s.size ≤ 2097152) (l : List Int) (i k : Nat) (hi : i < s.size) (hl : l.length ≤ i) (ih : ∀ (c : Int) (n : Nat), 0 < n → n ≤ 4 → SgIs s (l ++ [c]) (i + n) k) : SgIs s l i (k + 1) := by
  obtain ⟨va, vd⟩ := bs_get hi
  have hlen : (s[i] :: (bs s).drop (i + 1)).length = s.size - i := by rw [← vd, List.length_drop, bs_len]
  have hx : s[i].toNat < 256 := UInt8.toNat_lt _
  have dn : ∀ n, decide (i + n ≤ s.size) = decide (n ≤ (s[i] :: (bs s).drop (i + 1)).length) := by
    intro n; rw [hlen]; apply decide_eq_decide.2; omega
  have okE : ∀ n c, okC s i n c = okL (s[i] :: (bs s).drop (i + 1)) n c := by
    intro n c; unfold okC okL; rw [vd]
  by_cases h1 : ((s[i].toNat : Nat) : Int) ≤ 127
  · obtain ⟨a1, a2⟩ := m1 s[i] ((bs s).drop (i + 1)) h1
    refine sgis_of s l i k 1 _ _ hi (by omega) (sg_1 s hs l (by omega) i hi (by omega) h1) ?_ (by rw [vd, a2]; simp) (ih _ 1 (by omega) (by omega))
    rw [vd, a2, okE, conts, cdec, a1]
    simp; omega
  by_cases h2 : ((s[i].toNat : Nat) : Int) ≤ 191
  · exact sgis_bad s l i k hi (sg_bad1 s hs l i hi (by omega) h2) (by rw [vd]; exact szc_1 _ (by rw [nb0]; omega) (by rw [nb0]; omega))
  by_cases h3 : ((s[i].toNat : Nat) : Int) ≤ 223
  · obtain ⟨a1, a2⟩ := m2 s[i] ((bs s).drop (i + 1)) (by omega) h3
    refine sgis_of s l i k 2 _ _ hi (by omega) (sg_2 s hs l (by omega) i hi (by omega) h3) ?_ (by rw [vd]; exact a2) (ih _ 2 (by omega) (by omega))
    rw [vd, okE, dn]; exact a1
  by_cases h4 : ((s[i].toNat : Nat) : Int) ≤ 239
  · obtain ⟨a1, a2⟩ := m3 s[i] ((bs s).drop (i + 1)) (by omega) h4
    refine sgis_of s l i k 3 _ _ hi (by omega) (sg_3 s hs l (by omega) i hi (by omega) h4) ?_ (by rw [vd]; exact a2) (ih _ 3 (by omega) (by omega))
    rw [vd, okE, dn]; exact a1
  by_cases h5 : ((s[i].toNat : Nat) : Int) ≤ 247
  · obtain ⟨a1, a2⟩ := m4 s[i] ((bs s).drop (i + 1)) (by omega) h5
    refine sgis_of s l i k 4 _ _ hi (by omega) (sg_4 s hs l (by omega) i hi (by omega) h5) ?_ (by rw [vd]; exact a2) (ih _ 4 (by omega) (by omega))
    rw [vd, okE, dn]; exact a1
  · exact sgis_bad s l i k hi (sg_bad2 s hs l i hi (by omega) (by omega)) (by rw [vd]; exact szc_10 _ (by rw [nb0]; omega) (by rw [nb0]; omega))
theorem sgis_all (s : ByteArray) (hs : s.size ≤ 2097152) : ∀ (k i : Nat) (l : List Int), s.size ≤ i + k → l.length ≤ i → SgIs s l i k
  | 0, i, l, h, hl => sgis_end s l i 0 (by omega)
  | k + 1, i, l, h, hl => by
    by_cases hi : s.size ≤ i
    · exact sgis_end s l i _ hi
    · exact sgis_step s hs l i k (by omega) hl fun c n h1 h2 => sgis_all s hs k (i + n) (l ++ [c]) (by omega) (by simp; omega)

theorem rsigns_bool (s : ByteArray) (hs : s.size ≤ 2097152) : ∃ x : D, ∀ hp, F tab 98 [.d (.str s)] hp = some (.ret (.tup [.d x, .d (.bool (validB s))]) hp) := by
  have hL := sgis_all s hs s.size 0 [] (by omega) (by simp)
  unfold SgIs at hL
  rw [List.drop_zero] at hL
  unfold validB
  rcases Bool.eq_false_or_eq_true (validF s.size (bs s)) with g | g
  · rw [if_pos g] at hL
    obtain ⟨l', hL⟩ := hL
    refine ⟨.sl (l'.map iv), fun hp => f98 rfl ?_⟩
    rw [g]
    simp (disch := omega) only [go_sem, r98_T, r98]
    rw [r98_B0_n, r98_B0_z4]
    erw [hL]
    simp (disch := omega) only [go_sem]
  · rw [if_neg (by simp [g])] at hL
    refine ⟨.sl [], fun hp => f98 rfl ?_⟩
    rw [g]
    simp (disch := omega) only [go_sem, r98_T, r98]
    rw [r98_B0_n, r98_B0_z4]
    erw [hL]
    simp (disch := omega) only [go_sem]
end Go.Pe.T

namespace Go.Pe.T

def sgn (a b : Int) : Int := if a < b then -1 else if a > b then 1 else 0

theorem isNaNi_ok (a : Int) (hp : List Ent) : F tab 136 [.d (iv a)] hp = some (.ret (.d (.bool false)) hp) := by
  refine f136 rfl ?_
  have h : (a != a) = false := by simp
  simp only [go_sem, r136_T, r136, h]

theorem cmpi_ok (a b : Int) (hp : List Ent) : F tab 108 [.d (iv a), .d (iv b)] hp = some (.ret (.d (iv (sgn a b))) hp) := by
  refine f108 rfl ?_
  have h1 := isNaNi_ok a
  have h2 := isNaNi_ok b
  by_cases ha : a < b
  · simp only [go_sem, r108_T, r108, h1, h2, ha, sgn]
  · by_cases hb : a > b
    · simp only [go_sem, r108_T, r108, h1, h2, ha, hb, sgn]
    · simp only [go_sem, r108_T, r108, h1, h2, ha, hb, sgn]

def rankOf (k : Int) : Int := if k < 0 then 8 else if k > 7 then 8 else k

theorem rank_ok (k : Int) (hp : List Ent) : F tab 131 [.d (iv k)] hp = some (.ret (.d (iv (rankOf k))) hp) := by
  refine f131 rfl ?_
  by_cases h1 : k < 0
  · simp only [go_sem, r131_T, r131, h1, rankOf]
  · by_cases h2 : k > 7
    · simp only [go_sem, r131_T, r131, h1, h2, rankOf]
    · simp only [go_sem, r131_T, r131, h1, h2, rankOf]

theorem rank7_ok (k : Int) (hp : List Ent) : F tab 72 [.d (iv k)] hp = some (.ret (.d (iv (rankOf k))) hp) := by
  refine f72 rfl ?_
  by_cases h1 : k < 0
  · simp only [go_sem, r72_T, r72, h1, rankOf]
  · by_cases h2 : k > 7
    · simp only [go_sem, r72_T, r72, h1, h2, rankOf]
    · simp only [go_sem, r72_T, r72, h1, h2, rankOf]

theorem sign7_ok (a b : Int) (hp : List Ent) : F tab 71 [.d (iv a), .d (iv b)] hp = some (.ret (.d (iv (sgn a b))) hp) := by
  refine f71 rfl ?_
  by_cases ha : a < b
  · simp only [go_sem, r71_T, r71, ha, sgn]
  · by_cases hb : a > b
    · simp only [go_sem, r71_T, r71, ha, hb, sgn]
    · simp only [go_sem, r71_T, r71, ha, hb, sgn]

theorem numorder_ok (a b : Int) (hp : List Ent) : F tab 162 [.d (iv a), .d (iv b)] hp = some (.ret (.d (iv (sgn a b))) hp) := by
  refine f162 rfl ?_
  by_cases ha : a < b
  · simp only [go_sem, r162_T, r162, ha, sgn]
  · by_cases hb : a > b
    · simp only [go_sem, r162_T, r162, ha, hb, sgn]
    · simp only [go_sem, r162_T, r162, ha, hb, sgn]


abbrev numD (c s : Int) : D := .agg [iv c, iv s]

def numIs (c s : Int) : Bool := decide (0 ≤ s) && decide (s ≤ 9) && decide (-1000000000000000 < c) && decide (c < 1000000000000000) && (s == 0 || c.tmod 10 != 0)

theorem numIs_ok (c s : Int) (hp : List Ent) : F tab 163 [.d (numD c s)] hp = some (.ret (.d (.bool (numIs c s))) hp) := by
  refine f163 rfl ?_
  by_cases h1 : s < 0
  · have g1 : ¬ (0 ≤ s) := by omega
    simp only [go_sem, r163_T, r163, numIs, h1, g1]
  · have g1 : 0 ≤ s := by omega
    by_cases h2 : s > 9
    · have g2 : ¬ (s ≤ 9) := by omega
      simp only [go_sem, r163_T, r163, numIs, h1, g1, h2, g2]
    · have g2 : s ≤ 9 := by omega
      by_cases h3 : c ≤ -1000000000000000
      · have g3 : ¬ (-1000000000000000 < c) := by omega
        simp only [go_sem, r163_T, r163, numIs, h1, g1, h2, g2, h3, g3]
      · have g3 : -1000000000000000 < c := by omega
        by_cases h4 : c ≥ 1000000000000000
        · have g4 : ¬ (c < 1000000000000000) := by omega
          simp only [go_sem, r163_T, r163, numIs, h1, g1, h2, g2, h3, g3, h4, g4]
        · have g4 : c < 1000000000000000 := by omega
          by_cases h5 : s = 0
          · subst h5
            simp only [go_sem, r163_T, r163, numIs, h1, g1, h2, g2, h3, g3, h4, g4, Bool.true_or]
          · have g5 : (s == 0) = false := by simpa using h5
            simp only [go_sem, r163_T, r163, numIs, h1, g1, h2, g2, h3, g3, h4, g4, g5, Bool.false_or]

theorem num4Is_ok (c s : Int) (hp : List Ent) : F tab 90 [.d (numD c s)] hp = some (.ret (.d (.bool (numIs c s))) hp) := by
  refine f90 rfl ?_
  by_cases h1 : s < 0
  · have g1 : ¬ (0 ≤ s) := by omega
    simp only [go_sem, r90_T, r90, numIs, h1, g1]
  · have g1 : 0 ≤ s := by omega
    by_cases h2 : s > 9
    · have g2 : ¬ (s ≤ 9) := by omega
      simp only [go_sem, r90_T, r90, numIs, h1, g1, h2, g2]
    · have g2 : s ≤ 9 := by omega
      by_cases h3 : c ≤ -1000000000000000
      · have g3 : ¬ (-1000000000000000 < c) := by omega
        have g4 : c < 1000000000000000 := by omega
        have h4 : ¬ c ≥ 1000000000000000 := by omega
        simp only [go_sem, r90_T, r90, numIs, h1, g1, h2, g2, h3, g3, h4, g4]
      · have g3 : -1000000000000000 < c := by omega
        by_cases h4 : c ≥ 1000000000000000
        · have g4 : ¬ (c < 1000000000000000) := by omega
          simp only [go_sem, r90_T, r90, numIs, h1, g1, h2, g2, h3, g3, h4, g4]
        · have g4 : c < 1000000000000000 := by omega
          by_cases h5 : s = 0
          · subst h5
            simp only [go_sem, r90_T, r90, numIs, h1, g1, h2, g2, h3, g3, h4, g4, Bool.true_or]
          · have g5 : (s == 0) = false := by simpa using h5
            simp only [go_sem, r90_T, r90, numIs, h1, g1, h2, g2, h3, g3, h4, g4, g5, Bool.false_or]

theorem both_ok (c s c' s' : Int) (hp : List Ent) : F tab 160 [.d (numD c s), .d (numD c' s')] hp = some (.ret (.d (.bool (numIs c s && numIs c' s'))) hp) := by
  refine f160 rfl ?_
  have h1 := numIs_ok c s
  have h2 := numIs_ok c' s'
  rcases Bool.eq_false_or_eq_true (numIs c s) with h | h
  · simp only [go_sem, r160_T, r160, h1, h2, h]
  · simp only [go_sem, r160_T, r160, h1, h2, h]

theorem clean_ok (c s : Int) (hp : List Ent) : F tab 133 [.d (numD c s)] hp = some (.ret (.d (if numIs c s then numD c s else numD 0 0)) hp) := by
  refine f133 rfl ?_
  have h1 := numIs_ok c s
  rcases Bool.eq_false_or_eq_true (numIs c s) with h | h
  · simp only [go_sem, r133_T, r133, h1, h]
  · simp only [go_sem, r133_T, r133, h1, h]

theorem clean7_ok (c s : Int) (hp : List Ent) : F tab 74 [.d (numD c s)] hp = some (.ret (.d (if numIs c s then numD c s else numD 0 0)) hp) := by
  refine f74 rfl ?_
  have h1 := num4Is_ok c s
  rcases Bool.eq_false_or_eq_true (numIs c s) with h | h
  · simp only [go_sem, r74_T, r74, h1, h]
  · simp only [go_sem, r74_T, r74, h1, h]
end Go.Pe.T

namespace Go.Pe.T

theorem p10_pos (n : Nat) : 0 < (10 : Int) ^ n := Int.pow_pos (by omega)
theorem p10_mono {a b : Nat} (h : a ≤ b) : (10 : Int) ^ a ≤ 10 ^ b := by
  have h1 : (10 : Nat) ^ a ≤ 10 ^ b := Nat.pow_le_pow_right (by omega) h
  have h2 : ((10 ^ a : Nat) : Int) ≤ ((10 ^ b : Nat) : Int) := by exact_mod_cast h1
  simpa using h2

theorem pow_loop (n : Nat) (hn : n ≤ 18) : ∀ (j i : Nat), i + j = n →
    V (F tab) r184_B0 (r184_S0 (.d (iv (10 ^ i))) (.d (iv n)) (.d (iv i)) []) = some (.norm, r184_E0 (.d (iv (10 ^ n))) [])
  | 0, i, hi => by
    obtain rfl : i = n := by omega
    rw [r184_B0_eq]
    have h1 : ((i : Int) < (i : Int)) = False := by simp
    simp only [go_sem, r184_C0, h1]
  | j + 1, i, hi => by
    have h1 : ((i : Int) < (n : Int)) = True := by simp; omega
    have h3 := p10_mono (show i + 1 ≤ 18 by omega)
    have h4 := p10_pos (i + 1)
    have e : (10 : Int) ^ (i + 1) = 10 ^ i * 10 := Int.pow_succ 10 i
    have e18 : (10 : Int) ^ 18 = 1000000000000000000 := by decide
    have ih := pow_loop n hn j (i + 1) (by omega)
    rw [r184_B0_eq]
    simp (disch := omega) only [go_sem, r184_C0, h1, w64]
    rw [e] at ih
    exact ih

theorem pow_ok (n : Nat) (hn : n ≤ 18) (hp : List Ent) : F tab 184 [.d (iv n)] hp = some (.ret (.d (iv (10 ^ n))) hp) := by
  refine f184 rfl ?_
  have hL := pow_loop n hn n 0 (by omega)
  simp (disch := omega) only [go_sem, r184_T, r184]
  rw [r184_B0_n]
  erw [hL]
  simp only [go_sem]

def cutU (c : Int) (k : Nat) : Int := c.tdiv (10 ^ k)
def cutV (c : Int) (k : Nat) : Int := c.tmod (10 ^ k) * 10 ^ (9 - k)

theorem cut_bounds {c : Int} {k : Nat} (hk : k ≤ 9) (hc : -1000000000000000 < c ∧ c < 1000000000000000) :
    cutU c k * 1000000000 + cutV c k = c * 10 ^ (9 - k) ∧ -1000000000000000 < cutU c k ∧ cutU c k < 1000000000000000 ∧ -1000000000 < cutV c k ∧ cutV c k < 1000000000 ∧ (0 ≤ c → 0 ≤ cutU c k ∧ 0 ≤ cutV c k) ∧ (c ≤ 0 → cutU c k ≤ 0 ∧ cutV c k ≤ 0) ∧ -10 ^ k < c.tmod (10 ^ k) ∧ c.tmod (10 ^ k) < 10 ^ k := by
  have hp := p10_pos k
  have hq := p10_pos (9 - k)
  have hpq : (10 : Int) ^ k * 10 ^ (9 - k) = 1000000000 := by
    rw [← Int.pow_add, show k + (9 - k) = 9 by omega]; decide
  have hdm := Int.mul_tdiv_add_tmod c (10 ^ k)
  generalize hP : (10 : Int) ^ k = p at *
  generalize hQ : (10 : Int) ^ (9 - k) = q at *
  have hm1 : c.tmod p < p := Int.tmod_lt_of_pos c hp
  have hm2 : -p < c.tmod p := by
    have := Int.lt_tmod_of_pos c hp
    omega
  have hu : cutU c k = c.tdiv p := by unfold cutU; rw [hP]
  have hv : cutV c k = c.tmod p * q := by unfold cutV; rw [hP, hQ]
  rw [hu, hv]
  have hnat : (c.tdiv p).natAbs ≤ c.natAbs := Int.natAbs_tdiv_le_natAbs c p
  refine ⟨?_, by omega, by omega, ?_, ?_, ?_, ?_, hm2, hm1⟩
  · rw [← hpq]
    calc c.tdiv p * (p * q) + c.tmod p * q = (p * c.tdiv p + c.tmod p) * q := by rw [Int.add_mul]; congr 1; rw [Int.mul_comm p (c.tdiv p), Int.mul_assoc]
      _ = c * q := by rw [hdm]
  · have : -p * q < c.tmod p * q := Int.mul_lt_mul_of_pos_right hm2 hq
    rw [Int.neg_mul, hpq] at this
    exact this
  · have : c.tmod p * q < p * q := Int.mul_lt_mul_of_pos_right hm1 hq
    rw [hpq] at this
    exact this
  · intro h0
    exact ⟨Int.tdiv_nonneg h0 (by omega), Int.mul_nonneg (Int.tmod_nonneg p h0) (by omega)⟩
  · intro h0
    have h1 : c.tdiv p ≤ 0 := by
      have := Int.tdiv_nonneg (show 0 ≤ -c by omega) (show 0 ≤ p by omega)
      rw [Int.neg_tdiv] at this
      omega
    have h2 : c.tmod p ≤ 0 := by
      have := Int.tmod_nonneg p (show 0 ≤ -c by omega)
      rw [Int.neg_tmod] at this
      omega
    exact ⟨h1, Int.mul_nonpos_of_nonpos_of_nonneg h2 (by omega)⟩

theorem cut_ok (c : Int) (k : Nat) (hk : k ≤ 9) (hc : -1000000000000000 < c ∧ c < 1000000000000000) (hp : List Ent) :
    F tab 161 [.d (numD c k)] hp = some (.ret (.tup [.d (iv (cutU c k)), .d (iv (cutV c k))]) hp) := by
  refine f161 rfl ?_
  have h1 := pow_ok k (by omega)
  have h2 := pow_ok (9 - k) (by omega)
  have e : ((9 - k : Nat) : Int) = 9 - (k : Int) := by omega
  rw [e] at h2
  have hne : ((10 : Int) ^ k = 0) = False := by have := p10_pos k; simp; omega
  obtain ⟨b1, b2, b3, b4, b5, _⟩ := cut_bounds hk hc
  have w1 : IntKind.i64.wrap (c.tdiv (10 ^ k)) = cutU c k := by rw [← cutU, w64 (by omega)]
  have w2 : IntKind.i64.wrap (c.tmod (10 ^ k) * 10 ^ (9 - k)) = cutV c k := by rw [← cutV, w64 (by omega)]
  simp (disch := omega) only [go_sem, r161_T, r161, w64, h1, h2, hne, w1, w2]

def flatN (c : Int) (k : Nat) : Int := c * 10 ^ (9 - k)

theorem cmp_math {c c' : Int} {k k' : Nat} (hk : k ≤ 9) (hk' : k' ≤ 9) (hc : -1000000000000000 < c ∧ c < 1000000000000000) (hc' : -1000000000000000 < c' ∧ c' < 1000000000000000) :
    (if cutU c k ≠ cutU c' k' then sgn (cutU c k) (cutU c' k') else sgn (cutV c k) (cutV c' k')) = sgn (flatN c k) (flatN c' k') := by
  obtain ⟨b1, b2, b3, b4, b5, b6, b7, _⟩ := cut_bounds hk hc
  obtain ⟨d1, d2, d3, d4, d5, d6, d7, _⟩ := cut_bounds hk' hc'
  unfold flatN
  rw [← b1, ← d1]
  unfold sgn
  split
  · rename_i hne
    by_cases h0 : 0 ≤ c
    · have := b6 h0
      by_cases h1 : 0 ≤ c'
      · have := d6 h1
        split <;> split <;> (try split) <;> omega
      · have := d7 (by omega)
        split <;> split <;> (try split) <;> omega
    · have := b7 (by omega)
      by_cases h1 : 0 ≤ c'
      · have := d6 h1
        split <;> split <;> (try split) <;> omega
      · have := d7 (by omega)
        split <;> split <;> (try split) <;> omega
  · rename_i hne
    have : cutU c k = cutU c' k' := by simpa using hne
    rw [this]
    split <;> split <;> (try split) <;> omega

theorem numIs_inv {c s : Int} (h : numIs c s = true) : ∃ k : Nat, s = k ∧ k ≤ 9 ∧ (-1000000000000000 < c ∧ c < 1000000000000000) := by
  simp only [numIs, Bool.and_eq_true, decide_eq_true_eq] at h
  exact ⟨s.toNat, by omega, by omega, by omega⟩

theorem numcmp_ok (c c' : Int) (k k' : Nat) (h : numIs c k = true) (h' : numIs c' k' = true) (hp : List Ent) :
    F tab 132 [.d (numD c k), .d (numD c' k')] hp = some (.ret (.d (iv (sgn (flatN c k) (flatN c' k')))) hp) := by
  obtain ⟨k1, e1, hk, hc⟩ := numIs_inv h
  obtain ⟨k2, e2, hk', hc'⟩ := numIs_inv h'
  obtain rfl : k = k1 := by omega
  obtain rfl : k' = k2 := by omega
  refine f132 rfl ?_
  have h1 := both_ok c k c' k'
  rw [h, h'] at h1
  have h2 := cut_ok c k hk hc
  have h3 := cut_ok c' k' hk' hc'
  have h4 := numorder_ok (cutU c k) (cutU c' k')
  have h5 := numorder_ok (cutV c k) (cutV c' k')
  rw [← cmp_math hk hk' hc hc']
  by_cases hu : cutU c k = cutU c' k'
  · have hu1 : (cutU c k != cutU c' k') = false := by simp [hu]
    have hu2 : (cutU c k ≠ cutU c' k') = False := by simp [hu]
    simp (disch := omega) only [go_sem, r132_T, r132, h1, h2, h3, h4, h5, hu1, hu2]
  · have hu1 : (cutU c k != cutU c' k') = true := by simp [hu]
    have hu2 : (cutU c k ≠ cutU c' k') = True := by simp [hu]
    simp (disch := omega) only [go_sem, r132_T, r132, h1, h2, h3, h4, h5, hu1, hu2]
end Go.Pe.T

namespace Go.Pe.T

abbrev dl (l : List Int) : D := .sl (l.map iv)
abbrev longD (neg : Bool) (l : List Int) : D := .agg [.bool neg, .sl (l.map iv)]

theorem dl_all (l : List Int) : (l.map iv).all (fun y => y.width == 1) = true := by
  rw [List.all_eq_true]
  intro y hy
  obtain ⟨n, _, rfl⟩ := List.mem_map.1 hy
  rfl
theorem dl_get {l : List Int} {i : Nat} {d : Int} (h : l[i]? = some d) : (l.map iv)[i]? = some (iv d) := by rw [List.getElem?_map, h]; rfl
theorem cut_dl (l : List Int) (n : Nat) : cutD (l.map iv) 0 (n : Int) = (l.take n).map iv := by
  simp [cutD]

def trimN (l : List Int) : Nat → Nat
  | 0 => 0
  | n + 1 => if l[n]? = some 0 then trimN l n else n + 1
def trimL (l : List Int) : List Int := l.take (trimN l l.length)

theorem trimN_le (l : List Int) : ∀ n, trimN l n ≤ n
  | 0 => Nat.le_refl _
  | n + 1 => by
    unfold trimN
    split
    · have := trimN_le l n; omega
    · exact Nat.le_refl _

theorem trim_loop (neg : Bool) (l : List Int) (hl : l.length ≤ maxLen) (x2 : List PV) : ∀ n, n ≤ l.length →
    V (F tab) r127_B0 (r127_S0 (.ibox [.d (.bool neg), .d (.sl (l.map iv))]) (.ibox x2) (.d (iv n)) []) = some (.norm, r127_E0 (.ibox [.d (.bool neg), .d (.sl (l.map iv))]) (.ibox x2) (.d (iv (trimN l n))) [])
  | 0, hn => by
    rw [r127_B0_eq]
    simp only [go_sem, r127_C0, trimN, Int.natCast_zero, gt_iff_lt, Int.lt_irrefl]
  | n + 1, hn => by
    have hmx : maxLen ≤ 9223372036854775807 := by decide
    have h1 : ((0 : Int) < ((n + 1 : Nat) : Int)) = True := eq_true (by omega)
    have hd : ∃ d, l[n]? = some d := ⟨l[n], List.getElem?_eq_getElem (by omega)⟩
    obtain ⟨d, hd⟩ := hd
    have h2 : (l.map iv)[n]? = some (iv d) := dl_get hd
    have h3 : (((n + 1 : Nat) : Int) - 1) = (n : Int) := by omega
    have h4 : (0 ≤ (n : Int)) = True := by simp
    have ih := trim_loop neg l hl x2 n (by omega)
    rw [r127_B0_eq]
    by_cases h0 : d = 0
    · subst h0
      have e : trimN l (n + 1) = trimN l n := by simp [trimN, hd]
      rw [e]
      simp (disch := omega) only [go_sem, r127_C0, gt_iff_lt, h1, h3, w64, h4, h2, elemD, List.getElem?_cons_zero]
      exact ih
    · have e : trimN l (n + 1) = n + 1 := by simp [trimN, hd, h0]
      have h5 : (d == 0) = false := by simpa using h0
      rw [e]
      simp (disch := omega) only [go_sem, r127_C0, gt_iff_lt, h1, h3, w64, h4, h2, h5]

theorem trim_ok (neg : Bool) (l : List Int) (hl : l.length ≤ maxLen) (hp : List Ent) :
    F tab 127 [.d (longD neg l)] hp = some (.ret (.d (longD (neg && trimN l l.length != 0) (trimL l))) hp) := by
  refine f127 rfl ?_
  have hL := trim_loop neg l hl [.d (.bool false), .nilsl] l.length (Nat.le_refl _)
  have hle := trimN_le l l.length
  simp (disch := omega) only [go_sem, r127_T, r127, List.length_map]
  rw [r127_B0_n]
  erw [hL]
  have h1 : (0 ≤ ((trimN l l.length : Nat) : Int)) = True := by simp
  have h2 : (((trimN l l.length : Nat) : Int) ≤ (l.length : Int)) = True := by simp; omega
  by_cases h0 : trimN l l.length = 0
  · have h3 : (((trimN l l.length : Nat) : Int) == 0) = true := by simp [h0]
    have h4 : (trimN l l.length != 0) = false := by simp [h0]
    simp (disch := omega) only [go_sem, dl_all, cut_dl, List.length_map, h1, h2, h3, h4, trimL, decide_true, Int.le_refl]
  · have h3 : (((trimN l l.length : Nat) : Int) == 0) = false := by simp; omega
    have h4 : (trimN l l.length != 0) = true := by simp [h0]
    simp (disch := omega) only [go_sem, dl_all, cut_dl, List.length_map, h1, h2, h3, h4, trimL, decide_true, Int.le_refl]
end Go.Pe.T

namespace Go.Pe.T


theorem shift_loop (n : Nat) (hn : n ≤ 1000) (x2 x4 : List PV) : ∀ (j i : Nat), i + j = n →
    V (F tab) r126_B0 (r126_S0 (.d (iv n)) (.ibox x2) (.ibox x4) (.own 3 ((List.replicate i 0).map iv)) (.d (iv i)) []) =
      some (.norm, r126_E0 (.ibox x2) (.ibox x4) (.own 3 ((List.replicate n 0).map iv)) [])
  | 0, i, hi => by
    obtain rfl : i = n := by omega
    rw [r126_B0_eq]
    simp only [go_sem, r126_C0, Int.lt_irrefl]
  | j + 1, i, hi => by
    have h1 : ((i : Int) < (n : Int)) = True := eq_true (by omega)
    have h2 : ((i + 1) * 8 ≤ maxRow) = True := eq_true (by unfold maxRow; omega)
    have ih := shift_loop n hn x2 x4 j (i + 1) (by omega)
    rw [List.replicate_succ', List.map_append] at ih
    rw [r126_B0_eq]
    simp (disch := omega) only [go_sem, r126_C0, h1, w64, List.length_map, List.length_replicate, h2]
    exact ih

def shiftL (l : List Int) (n : Nat) : List Int := trimL (List.replicate n 0 ++ l)

theorem shift_ok (neg : Bool) (l : List Int) (hl : l.length ≤ 1000) (n : Nat) (hn : n ≤ 1000) (hp : List Ent) :
    F tab 126 [.d (longD neg l), .d (iv n)] hp = some (.ret (.d (longD (neg && trimN (List.replicate n 0 ++ l) (n + l.length) != 0) (shiftL l n))) hp) := by
  refine f126 rfl ?_
  have hL := shift_loop n hn [.d (.bool neg), .d (.sl (l.map iv))] [.d (.bool false), .nilsl] n 0 (by omega)
  have hT := trim_ok neg (List.replicate n 0 ++ l) (by have : maxLen = 9223372036854775807 := by decide
                                                       simp only [List.length_append, List.length_replicate]; omega)
  have h2 : ((n + l.length) * 8 ≤ maxRow) = True := eq_true (by unfold maxRow; omega)
  simp only [List.length_append, List.length_replicate] at hT
  simp (disch := omega) only [go_sem, r126_T, r126, List.length_map]
  rw [r126_B0_n, r126_B0_z5]
  erw [hL]
  simp (disch := omega) only [go_sem, List.length_map, List.length_replicate, h2, ← List.map_append, hT, dl_all, shiftL]

def digs (n : Nat) : List Int := if n = 0 then [] else ((n % 10 : Nat) : Int) :: digs (n / 10)
  termination_by n
  decreasing_by omega

def rowP : List Int → PV
  | [] => .nilsl
  | x :: l => .own 3 (iv x :: l.map iv)

theorem of_loop (neg : Bool) (x2 : List PV) : ∀ (m : Nat) (c : Int) (out : List Int), c.natAbs = m → i64 c → out.length ≤ 100 - (digs m).length → (digs m).length ≤ 50 →
    V (F tab) r125_B0 (r125_S0 (.d (iv c)) (.ibox x2) (.ibox [.d (.bool neg), rowP out]) []) =
      some (.norm, r125_E0 (.ibox x2) (.ibox [.d (.bool neg), rowP (out ++ digs m)]) []) := by
  intro m
  induction m using Nat.strongRecOn with
  | _ m ih =>
    intro c out hm hc hlen hd
    by_cases h0 : c = 0
    · subst h0
      have : m = 0 := by omega
      subst this
      have h1 : ((0 : Int) != 0) = false := by decide
      rw [r125_B0_eq]
      have e : digs 0 = [] := by rw [digs]; rfl
      rw [e]
      simp only [go_sem, r125_C0, h1, List.append_nil]
    · have hm0 : m ≠ 0 := by omega
      have h1 : (c != 0) = true := by simpa using h0
      have e : digs m = ((m % 10 : Nat) : Int) :: digs (m / 10) := by rw [digs, if_neg hm0]
      rw [e] at hlen hd ⊢
      simp only [List.length_cons] at hlen hd
      have hq : (c.tdiv 10).natAbs = m / 10 := by rw [Int.natAbs_tdiv, hm]; rfl
      have hr : (c.tmod 10).natAbs = m % 10 := by rw [Int.natAbs_tmod, hm]; rfl
      unfold i64 at hc
      have ihc := ih (m / 10) (by omega) (c.tdiv 10) (out ++ [((m % 10 : Nat) : Int)]) hq (by unfold i64; omega) (by simp; omega) (by omega)
      rw [List.append_assoc, List.singleton_append] at ihc
      have hb : -10 < c.tmod 10 ∧ c.tmod 10 < 10 := by omega
      have hb2 : -9223372036854775808 ≤ c.tdiv 10 ∧ c.tdiv 10 ≤ 9223372036854775807 := by omega
      rw [r125_B0_eq]
      have h8 : (8 ≤ maxRow) = True := eq_true (by unfold maxRow; omega)
      cases out with
      | nil =>
        by_cases hs : c.tmod 10 < 0
        · have e3 : 0 - c.tmod 10 = ((m % 10 : Nat) : Int) := by omega
          have e4 : IntKind.i64.wrap (0 - c.tmod 10) = ((m % 10 : Nat) : Int) := by rw [w64 (by omega), e3]
          simp (disch := omega) only [go_sem, r125_C0, h1, hs, e4, w64, List.length_map, h8, rowP]
          exact ihc
        · have e3 : c.tmod 10 = ((m % 10 : Nat) : Int) := by omega
          simp (disch := omega) only [go_sem, r125_C0, h1, hs, w64, List.length_map, h8, rowP]
          rw [e3]
          exact ihc
      | cons x l =>
        simp only [List.length_cons] at hlen
        have h2 : ((l.length + 1 + 1) * 8 ≤ maxRow) = True := eq_true (by unfold maxRow; omega)
        have ihc' : V (F tab) r125_B0 (r125_S0 (.d (iv (c.tdiv 10))) (.ibox x2) (.ibox [.d (.bool neg), .own 3 (iv x :: (l.map iv ++ [iv ((m % 10 : Nat) : Int)]))]) []) =
            some (.norm, r125_E0 (.ibox x2) (.ibox [.d (.bool neg), rowP (x :: l ++ ((m % 10 : Nat) : Int) :: digs (m / 10))]) []) := by
          rw [← ihc]
          simp only [List.cons_append, rowP, List.map_append, List.map_cons, List.map_nil]
        by_cases hs : c.tmod 10 < 0
        · have e3 : 0 - c.tmod 10 = ((m % 10 : Nat) : Int) := by omega
          have e4 : IntKind.i64.wrap (0 - c.tmod 10) = ((m % 10 : Nat) : Int) := by rw [w64 (by omega), e3]
          simp (disch := omega) only [go_sem, r125_C0, h1, hs, e4, w64, List.length_map, h2, rowP]
          exact ihc'
        · have e3 : c.tmod 10 = ((m % 10 : Nat) : Int) := by omega
          simp (disch := omega) only [go_sem, r125_C0, h1, hs, w64, List.length_map, h2, rowP]
          rw [e3]
          exact ihc'

theorem digs_len : ∀ (k n : Nat), n < 10 ^ k → (digs n).length ≤ k
  | 0, n, h => by
    have : n = 0 := by simpa using h
    subst this
    rw [digs]; simp
  | k + 1, n, h => by
    rw [digs]
    split
    · simp
    · have := digs_len k (n / 10) (by rw [Nat.pow_succ] at h; omega)
      simp only [List.length_cons]
      omega

theorem of_ok (c : Int) (hc : -1000000000000000000 < c ∧ c < 1000000000000000000) (hp : List Ent) :
    F tab 125 [.d (iv c)] hp = some (.ret (.d (longD (decide (c < 0)) (digs c.natAbs))) hp) := by
  refine f125 rfl ?_
  have hd := digs_len 18 c.natAbs (by have : (10 : Nat) ^ 18 = 1000000000000000000 := by decide
                                      omega)
  have hL := of_loop (decide (c < 0)) [.d (.bool false), .nilsl] c.natAbs c [] rfl (by unfold i64; omega) (by simp) (by omega)
  simp (disch := omega) only [go_sem, r125_T, r125]
  rw [r125_B0_n]
  erw [hL]
  rw [List.nil_append]
  cases digs c.natAbs with
  | nil => simp (disch := omega) only [go_sem, rowP]; rfl
  | cons x l => simp (disch := omega) only [go_sem, rowP]; rfl
end Go.Pe.T

namespace Go.Pe.T


def digit (d : Int) : Prop := 0 ≤ d ∧ d ≤ 9
def Digs (l : List Int) : Prop := ∀ d ∈ l, digit d

def sumL (a b : List Int) (c : Int) : Nat → List Int
  | 0 => []
  | k + 1 => if a = [] ∧ b = [] ∧ c ≤ 0 then [] else ((c + a.headD 0 + b.headD 0) % 10) :: sumL a.tail b.tail ((c + a.headD 0 + b.headD 0) / 10) k

theorem drop_head {l : List Int} {i : Nat} : (l.drop i).headD 0 = (l[i]?).getD 0 := by
  rw [List.headD_eq_head?_getD, List.head?_drop]
theorem drop_tail' {l : List Int} {i : Nat} : (l.drop i).tail = l.drop (i + 1) := by simp

theorem sum_loop (a b : List Int) (ha : Digs a) (hb : Digs b) (hla : a.length ≤ 1000) (hlb : b.length ≤ 1000) : ∀ (k i : Nat) (c : Int) (out : List Int), 0 ≤ c → c ≤ 1 → out.length = i → max a.length b.length + 1 < i + k → i ≤ max a.length b.length + 1 → (max a.length b.length < i → c = 0) →
    V (F tab) r137_B0 (r137_S0 (.d (.sl (a.map iv))) (.d (.sl (b.map iv))) (.own 3 (out.map iv)) (.d (iv c)) (.d (iv i)) []) =
      some (.norm, r137_E0 (.own 3 ((out ++ sumL (a.drop i) (b.drop i) c k).map iv)) [])
  | 0, i, c, out, h0, h1, hl, hk, _, _ => by omega
  | k + 1, i, c, out, h0, h1, hl, hk, hi, hz => by
    rw [r137_B0_eq]
    have ea : a.drop i = [] ↔ ¬ i < a.length := by simp
    have eb : b.drop i = [] ↔ ¬ i < b.length := by simp
    by_cases hend : a.drop i = [] ∧ b.drop i = [] ∧ c ≤ 0
    · have e : sumL (a.drop i) (b.drop i) c (k + 1) = [] := by rw [sumL, if_pos hend]
      rw [e, List.append_nil]
      obtain ⟨x1, x2, x3⟩ := hend
      have g1 : ((i : Int) < (a.length : Int)) = False := eq_false (by have := ea.1 x1; omega)
      have g2 : ((i : Int) < (b.length : Int)) = False := eq_false (by have := eb.1 x2; omega)
      have g3 : (c > 0) = False := eq_false (by omega)
      simp only [go_sem, r137_C0, List.length_map, g1, g2, g3]
    · have e : sumL (a.drop i) (b.drop i) c (k + 1) = ((c + (a.drop i).headD 0 + (b.drop i).headD 0) % 10) :: sumL (a.drop i).tail (b.drop i).tail ((c + (a.drop i).headD 0 + (b.drop i).headD 0) / 10) k := by rw [sumL, if_neg hend]
      rw [e, drop_tail', drop_tail', drop_head, drop_head]
      have nx : ∀ n : Int, 0 ≤ n → n ≤ 19 → (i < max a.length b.length ∨ (n ≤ 1 ∧ i ≤ max a.length b.length)) → n.tmod 10 = n % 10 ∧ n.tdiv 10 = n / 10 ∧ 
          V (F tab) r137_B0 (r137_S0 (.d (.sl (a.map iv))) (.d (.sl (b.map iv))) (.own 3 (out.map iv ++ [iv (n % 10)])) (.d (iv (n / 10))) (.d (iv ((i : Int) + 1))) []) =
            some (.norm, r137_E0 (.own 3 ((out ++ (n % 10) :: sumL (a.drop (i + 1)) (b.drop (i + 1)) (n / 10) k).map iv)) []) := by
        intro n hn0 hn1 hn2
        refine ⟨Int.tmod_eq_emod_of_nonneg hn0, Int.tdiv_eq_ediv_of_nonneg hn0, ?_⟩
        have ih := sum_loop a b ha hb hla hlb k (i + 1) (n / 10) (out ++ [n % 10]) (by omega) (by omega) (by simp [hl]) (by omega) (by omega) (by omega)
        rw [List.append_assoc, List.singleton_append, List.map_append] at ih
        exact ih
      have h8 : ((out.length + 1) * 8 ≤ maxRow) = True := eq_true (by unfold maxRow; omega)
      have hi0 : (0 ≤ (i : Int)) = True := eq_true (by omega)
      by_cases g1 : i < a.length
      · have f1 : ((i : Int) < (a.length : Int)) = True := eq_true (by omega)
        have da := ha a[i] (List.getElem_mem g1)
        have va : (a.map iv)[i]? = some (iv a[i]) := dl_get (List.getElem?_eq_getElem g1)
        have wa : (a[i]?).getD 0 = a[i] := by simp [g1]
        unfold digit at da
        by_cases g2 : i < b.length
        · have f2 : ((i : Int) < (b.length : Int)) = True := eq_true (by omega)
          have db := hb b[i] (List.getElem_mem g2)
          have vb : (b.map iv)[i]? = some (iv b[i]) := dl_get (List.getElem?_eq_getElem g2)
          have wb : (b[i]?).getD 0 = b[i] := by simp [g2]
          unfold digit at db
          rw [wa, wb]
          obtain ⟨m1, m2, m3⟩ := nx (c + a[i] + b[i]) (by omega) (by omega) (by omega)
          simp (disch := omega) only [go_sem, r137_C0, List.length_map, f1, f2, hi0, va, vb, w64, h8, m1, m2]
          exact m3
        · have f2 : ((i : Int) < (b.length : Int)) = False := eq_false (by omega)
          have wb : (b[i]?).getD 0 = 0 := by simp [List.getElem?_eq_none (Nat.le_of_not_lt g2)]
          rw [wa, wb, Int.add_zero]
          obtain ⟨m1, m2, m3⟩ := nx (c + a[i]) (by omega) (by omega) (by omega)
          simp (disch := omega) only [go_sem, r137_C0, List.length_map, f1, f2, hi0, va, w64, h8, m1, m2]
          exact m3
      · have f1 : ((i : Int) < (a.length : Int)) = False := eq_false (by omega)
        have wa : (a[i]?).getD 0 = 0 := by simp [List.getElem?_eq_none (Nat.le_of_not_lt g1)]
        by_cases g2 : i < b.length
        · have f2 : ((i : Int) < (b.length : Int)) = True := eq_true (by omega)
          have db := hb b[i] (List.getElem_mem g2)
          have vb : (b.map iv)[i]? = some (iv b[i]) := dl_get (List.getElem?_eq_getElem g2)
          have wb : (b[i]?).getD 0 = b[i] := by simp [g2]
          unfold digit at db
          rw [wa, wb, Int.add_zero]
          obtain ⟨m1, m2, m3⟩ := nx (c + b[i]) (by omega) (by omega) (by omega)
          simp (disch := omega) only [go_sem, r137_C0, List.length_map, f1, f2, hi0, vb, w64, h8, m1, m2]
          exact m3
        · have f2 : ((i : Int) < (b.length : Int)) = False := eq_false (by omega)
          have wb : (b[i]?).getD 0 = 0 := by simp [List.getElem?_eq_none (Nat.le_of_not_lt g2)]
          have hc : c = 1 := by
            by_cases hc0 : c ≤ 0
            · exact absurd ⟨ea.2 g1, eb.2 g2, hc0⟩ hend
            · omega
          rw [wa, wb, Int.add_zero, Int.add_zero]
          obtain ⟨m1, m2, m3⟩ := nx c (by omega) (by omega) (by omega)
          have f3 : (c > 0) = True := eq_true (by omega)
          simp (disch := omega) only [go_sem, r137_C0, List.length_map, f1, f2, f3, hi0, w64, h8, m1, m2]
          exact m3

theorem sum_ok (a b : List Int) (ha : Digs a) (hb : Digs b) (hla : a.length ≤ 1000) (hlb : b.length ≤ 1000) (hp : List Ent) :
    F tab 137 [.d (.sl (a.map iv)), .d (.sl (b.map iv))] hp = some (.ret (.d (.sl ((sumL a b 0 (max a.length b.length + 2)).map iv))) hp) := by
  refine f137 rfl ?_
  have hL := sum_loop a b ha hb hla hlb (max a.length b.length + 2) 0 0 [] (by omega) (by omega) rfl (by omega) (by omega) (by omega)
  simp (disch := omega) only [go_sem, r137_T, r137]
  rw [r137_B0_n, r137_B0_z5]
  erw [hL]
  simp (disch := omega) only [go_sem, List.drop_zero]
end Go.Pe.T

namespace Go.Pe.T

def lessL : List Int → List Int → Int → List Int
  | [], _, _ => []
  | x :: a, b, o => if x - o - b.headD 0 < 0 then (x - o - b.headD 0 + 10) :: lessL a b.tail 1 else (x - o - b.headD 0) :: lessL a b.tail 0

theorem less_loop (a b : List Int) (ha : Digs a) (hb : Digs b) (hla : a.length ≤ 1000) (hlb : b.length ≤ 1000) : ∀ (k i : Nat) (o : Int) (out : List Int), 0 ≤ o → o ≤ 1 → out.length = i → i + k = a.length →
    V (F tab) r129_B0 (r129_S0 (.d (.sl (a.map iv))) (.d (.sl (b.map iv))) (.own 3 (out.map iv)) (.d (iv o)) (.d (iv i)) []) =
      some (.norm, r129_E0 (.own 3 ((out ++ lessL (a.drop i) (b.drop i) o).map iv)) [])
  | 0, i, o, out, h0, h1, hl, hk => by
    rw [r129_B0_eq, List.drop_of_length_le (by omega : a.length ≤ i)]
    have g1 : ((i : Int) < (a.length : Int)) = False := eq_false (by omega)
    simp only [go_sem, r129_C0, List.length_map, g1, lessL, List.append_nil]
  | k + 1, i, o, out, h0, h1, hl, hk => by
    rw [r129_B0_eq]
    have g1 : i < a.length := by omega
    have f1 : ((i : Int) < (a.length : Int)) = True := eq_true (by omega)
    have da := ha a[i] (List.getElem_mem g1)
    have va : (a.map iv)[i]? = some (iv a[i]) := dl_get (List.getElem?_eq_getElem g1)
    have hi0 : (0 ≤ (i : Int)) = True := eq_true (by omega)
    have h8 : ((out.length + 1) * 8 ≤ maxRow) = True := eq_true (by unfold maxRow; omega)
    unfold digit at da
    have nx : ∀ (n o' : Int), 0 ≤ o' → o' ≤ 1 → 
          V (F tab) r129_B0 (r129_S0 (.d (.sl (a.map iv))) (.d (.sl (b.map iv))) (.own 3 (out.map iv ++ [iv n])) (.d (iv o')) (.d (iv ((i : Int) + 1))) []) =
            some (.norm, r129_E0 (.own 3 ((out ++ n :: lessL (a.drop (i + 1)) (b.drop (i + 1)) o').map iv)) []) := by
      intro n o' hn0 hn1
      have ih := less_loop a b ha hb hla hlb k (i + 1) o' (out ++ [n]) hn0 hn1 (by simp [hl]) (by omega)
      rw [List.append_assoc, List.singleton_append, List.map_append] at ih
      exact ih
    rw [List.drop_eq_getElem_cons g1, lessL, drop_tail', drop_head]
    by_cases g2 : i < b.length
    · have f2 : ((i : Int) < (b.length : Int)) = True := eq_true (by omega)
      have db := hb b[i] (List.getElem_mem g2)
      have vb : (b.map iv)[i]? = some (iv b[i]) := dl_get (List.getElem?_eq_getElem g2)
      have wb : (b[i]?).getD 0 = b[i] := by simp [g2]
      unfold digit at db
      rw [wb]
      by_cases hs : a[i] - o - b[i] < 0
      · rw [if_pos hs]
        simp (disch := omega) only [go_sem, r129_C0, List.length_map, f1, f2, hi0, va, vb, w64, h8, hs]
        exact nx _ 1 (by omega) (by omega)
      · rw [if_neg hs]
        simp (disch := omega) only [go_sem, r129_C0, List.length_map, f1, f2, hi0, va, vb, w64, h8, hs]
        exact nx _ 0 (by omega) (by omega)
    · have f2 : ((i : Int) < (b.length : Int)) = False := eq_false (by omega)
      have wb : (b[i]?).getD 0 = 0 := by simp [List.getElem?_eq_none (Nat.le_of_not_lt g2)]
      rw [wb, Int.sub_zero]
      by_cases hs : a[i] - o < 0
      · rw [if_pos hs]
        simp (disch := omega) only [go_sem, r129_C0, List.length_map, f1, f2, hi0, va, w64, h8, hs]
        exact nx _ 1 (by omega) (by omega)
      · rw [if_neg hs]
        simp (disch := omega) only [go_sem, r129_C0, List.length_map, f1, f2, hi0, va, w64, h8, hs]
        exact nx _ 0 (by omega) (by omega)

theorem less_ok (a b : List Int) (ha : Digs a) (hb : Digs b) (hla : a.length ≤ 1000) (hlb : b.length ≤ 1000) (hp : List Ent) :
    F tab 129 [.d (.sl (a.map iv)), .d (.sl (b.map iv))] hp = some (.ret (.d (.sl ((lessL a b 0).map iv))) hp) := by
  refine f129 rfl ?_
  have hL := less_loop a b ha hb hla hlb a.length 0 0 [] (by omega) (by omega) rfl (by omega)
  simp (disch := omega) only [go_sem, r129_T, r129]
  rw [r129_B0_n, r129_B0_z5]
  erw [hL]
  simp (disch := omega) only [go_sem, List.drop_zero, List.nil_append]

def aboveN (a b : List Int) : Nat → Bool
  | 0 => true
  | n + 1 => if (a[n]?).getD 0 = (b[n]?).getD 0 then aboveN a b n else decide ((a[n]?).getD 0 > (b[n]?).getD 0)

theorem above_loop (a b : List Int) (hla : a.length ≤ 1000) (he : a.length = b.length) : ∀ n, n ≤ a.length →
    V (F tab) r128_B0 (r128_S0 (.d (.sl (a.map iv))) (.d (.sl (b.map iv))) (.d (iv ((n : Int) - 1))) []) =
      if (∃ i, i < n ∧ (a[i]?).getD 0 ≠ (b[i]?).getD 0) then some (.ret, r128_R (.d (.bool (aboveN a b n))) []) else some (.norm, r128_E0 [])
  | 0, hn => by
    rw [r128_B0_eq, if_neg (by simp)]
    have h1 : ((0 : Int) - 1 ≥ 0) = False := eq_false (by omega)
    simp only [go_sem, r128_C0, h1]
  | n + 1, hn => by
    have h1 : (((n + 1 : Nat) : Int) - 1) = (n : Int) := by omega
    have h2 : ((n : Int) ≥ 0) = True := eq_true (by omega)
    have h3 : (0 ≤ (n : Int)) = True := eq_true (by omega)
    have va : (a.map iv)[n]? = some (iv a[n]) := dl_get (List.getElem?_eq_getElem (by omega))
    have vb : (b.map iv)[n]? = some (iv b[n]) := dl_get (List.getElem?_eq_getElem (by omega))
    have wa : (a[n]?).getD 0 = a[n] := by simp [show n < a.length by omega]
    have wb : (b[n]?).getD 0 = b[n] := by simp [show n < b.length by omega]
    rw [r128_B0_eq, h1]
    by_cases hne : a[n] = b[n]
    · have hb : (a[n] != b[n]) = false := by simp [hne]
      have ih := above_loop a b hla he n (by omega)
      have e : (∃ i, i < n + 1 ∧ (a[i]?).getD 0 ≠ (b[i]?).getD 0) ↔ (∃ i, i < n ∧ (a[i]?).getD 0 ≠ (b[i]?).getD 0) := by
        constructor
        · rintro ⟨i, h4, h5⟩
          by_cases e : i = n
          · subst e; rw [wa, wb] at h5; exact absurd hne h5
          · exact ⟨i, by omega, h5⟩
        · rintro ⟨i, h4, h5⟩
          exact ⟨i, by omega, h5⟩
      have e2 : aboveN a b (n + 1) = aboveN a b n := by rw [aboveN, wa, wb, if_pos hne]
      rw [e2]
      simp only [e]
      simp (disch := omega) only [go_sem, r128_C0, h2, h3, va, vb, hb, w64]
      exact ih
    · have hb : (a[n] != b[n]) = true := by simp [hne]
      have e : ∃ i, i < n + 1 ∧ (a[i]?).getD 0 ≠ (b[i]?).getD 0 := ⟨n, by omega, by rw [wa, wb]; exact hne⟩
      have e2 : aboveN a b (n + 1) = decide (a[n] > b[n]) := by rw [aboveN, wa, wb, if_neg hne]
      rw [if_pos e, e2]
      simp (disch := omega) only [go_sem, r128_C0, h2, h3, va, vb, hb, w64]

def aboveL (a b : List Int) : Bool := if a.length = b.length then aboveN a b a.length else decide (a.length > b.length)

theorem aboveN_same (a b : List Int) : ∀ n, (¬ ∃ i, i < n ∧ (a[i]?).getD 0 ≠ (b[i]?).getD 0) → aboveN a b n = true
  | 0, _ => rfl
  | n + 1, h => by
    have h1 : (a[n]?).getD 0 = (b[n]?).getD 0 := Classical.byContradiction fun hn => h ⟨n, by omega, hn⟩
    rw [aboveN, if_pos h1]
    exact aboveN_same a b n fun ⟨i, h2, h3⟩ => h ⟨i, by omega, h3⟩

theorem above_ok (a b : List Int) (hla : a.length ≤ 1000) (hlb : b.length ≤ 1000) (hp : List Ent) :
    F tab 128 [.d (.sl (a.map iv)), .d (.sl (b.map iv))] hp = some (.ret (.d (.bool (aboveL a b))) hp) := by
  refine f128 rfl ?_
  by_cases he : a.length = b.length
  · have hL := above_loop a b hla he a.length (Nat.le_refl _)
    have h1 : ((a.length : Int) != (b.length : Int)) = false := by simp [he]
    have e : aboveL a b = aboveN a b a.length := by rw [aboveL, if_pos he]
    rw [e]
    simp (disch := omega) only [go_sem, r128_T, r128, List.length_map, h1, w64]
    rw [r128_B0_n]
    erw [hL]
    by_cases hx : ∃ i, i < a.length ∧ (a[i]?).getD 0 ≠ (b[i]?).getD 0
    · rw [if_pos hx]
      simp (disch := omega) only [go_sem]
    · rw [if_neg hx, aboveN_same a b _ hx]
      simp (disch := omega) only [go_sem]
  · have h1 : ((a.length : Int) != (b.length : Int)) = true := by simp; omega
    have e : aboveL a b = decide (a.length > b.length) := by rw [aboveL, if_neg he]
    have h2 : decide ((a.length : Int) > (b.length : Int)) = decide (a.length > b.length) := by simp
    rw [e]
    simp (disch := omega) only [go_sem, r128_T, r128, List.length_map, h1, w64, h2]
end Go.Pe.T

namespace Go.Pe.T


def val : List Int → Int
  | [] => 0
  | d :: l => d + 10 * val l

theorem Digs.cons {d : Int} {l : List Int} (h : Digs (d :: l)) : digit d ∧ Digs l := ⟨h d (by simp), fun x hx => h x (by simp [hx])⟩
theorem Digs.nil : Digs [] := fun _ h => by simp at h
theorem Digs.mk {d : Int} {l : List Int} (h : digit d) (k : Digs l) : Digs (d :: l) := fun x hx => by
  rcases List.mem_cons.1 hx with rfl | hx
  · exact h
  · exact k x hx
theorem Digs.tail {l : List Int} (h : Digs l) : Digs l.tail := fun x hx => h x (List.mem_of_mem_tail hx)
theorem Digs.headD {l : List Int} (h : Digs l) : digit (l.headD 0) := by
  cases l with
  | nil => exact ⟨by simp, by simp⟩
  | cons d l => exact h.cons.1

theorem val_bound : ∀ {l : List Int}, Digs l → 0 ≤ val l ∧ val l < 10 ^ l.length
  | [], _ => by simp [val]
  | d :: l, h => by
    obtain ⟨h1, h2⟩ := h.cons
    obtain ⟨i1, i2⟩ := val_bound h2
    unfold digit at h1
    simp only [val, List.length_cons, Int.pow_succ]
    omega

theorem val_head (l : List Int) : val l = l.headD 0 + 10 * val l.tail := by
  cases l <;> simp [val]

theorem val_append : ∀ (a b : List Int), val (a ++ b) = val a + 10 ^ a.length * val b
  | [], b => by simp [val]
  | d :: a, b => by
    simp only [List.cons_append, val, val_append a b, List.length_cons, Int.pow_succ]
    rw [Int.mul_add, Int.mul_comm ((10 : Int) ^ a.length) 10, Int.mul_assoc]
    omega

theorem val_rep : ∀ (n : Nat) (l : List Int), val (List.replicate n 0 ++ l) = 10 ^ n * val l
  | 0, l => by simp
  | n + 1, l => by
    simp only [List.replicate_succ, List.cons_append, val, val_rep n l, Int.pow_succ]
    rw [Int.mul_comm ((10 : Int) ^ n) 10, Int.mul_assoc]
    omega

theorem sum_val : ∀ (k : Nat) (a b : List Int) (c : Int), Digs a → Digs b → 0 ≤ c → c ≤ 1 → max a.length b.length + 1 < k → val (sumL a b c k) = val a + val b + c ∧ Digs (sumL a b c k) ∧ (sumL a b c k).length ≤ max a.length b.length + 1
  | 0, a, b, c, _, _, _, _, hk => by omega
  | k + 1, a, b, c, ha, hb, h0, h1, hk => by
    unfold sumL
    split
    · rename_i h
      obtain ⟨rfl, rfl, h2⟩ := h
      exact ⟨by simp [val]; omega, Digs.nil, by simp⟩
    · rename_i h
      have da := ha.headD
      have db := hb.headD
      have ea := val_head a
      have eb := val_head b
      unfold digit at da db
      have hlen : max a.tail.length b.tail.length + 1 < k ∨ (a = [] ∧ b = []) := by
        cases a <;> cases b <;> simp at hk ⊢ <;> omega
      rcases hlen with hlen | ⟨rfl, rfl⟩
      · obtain ⟨i1, i2, i3⟩ := sum_val k a.tail b.tail ((c + a.headD 0 + b.headD 0) / 10) ha.tail hb.tail (by omega) (by omega) hlen
        refine ⟨?_, Digs.mk ⟨by omega, by omega⟩ i2, ?_⟩
        · simp only [val, i1]; omega
        · simp only [List.length_cons, List.length_tail] at i3 ⊢
          by_cases hz : a.length = 0 ∧ b.length = 0
          · have e1 : a = [] := List.eq_nil_of_length_eq_zero hz.1
            have e2 : b = [] := List.eq_nil_of_length_eq_zero hz.2
            subst e1 e2
            simp at h ⊢
            have : c = 1 := by omega
            subst this
            cases k with
            | zero => simp [sumL]
            | succ k => simp [sumL]
          · omega
      · simp at h
        have : c = 1 := by omega
        subst this
        cases k with
        | zero => simp at hk
        | succ k => simp [sumL, val, Digs, digit]

theorem less_val : ∀ (a b : List Int) (o : Int), Digs a → Digs b → 0 ≤ o → o ≤ 1 → b.length ≤ a.length → (∃ f : Int, 0 ≤ f ∧ f ≤ 1 ∧ val (lessL a b o) = val a - val b - o + f * 10 ^ a.length) ∧ Digs (lessL a b o) ∧ (lessL a b o).length = a.length
  | [], b, o, ha, hb, h0, h1, hl => by
    have : b = [] := List.eq_nil_of_length_eq_zero (by simpa using hl)
    subst this
    exact ⟨⟨o, h0, h1, by simp [lessL, val]; omega⟩, Digs.nil, rfl⟩
  | x :: a, b, o, ha, hb, h0, h1, hl => by
    have db := hb.headD
    have eb := val_head b
    obtain ⟨dx, da⟩ := ha.cons
    unfold digit at db dx
    have hl' : b.tail.length ≤ a.length := by simp at hl ⊢; omega
    unfold lessL
    split
    · obtain ⟨⟨f, f0, f1, i1⟩, i2, i3⟩ := less_val a b.tail 1 da hb.tail (by omega) (by omega) hl'
      refine ⟨⟨f, f0, f1, ?_⟩, Digs.mk ⟨by omega, by omega⟩ i2, by simp [i3]⟩
      simp only [val, i1, List.length_cons, Int.pow_succ]
      rw [← Int.mul_assoc]
      omega
    · obtain ⟨⟨f, f0, f1, i1⟩, i2, i3⟩ := less_val a b.tail 0 da hb.tail (by omega) (by omega) hl'
      refine ⟨⟨f, f0, f1, ?_⟩, Digs.mk ⟨by omega, by omega⟩ i2, by simp [i3]⟩
      simp only [val, i1, List.length_cons, Int.pow_succ]
      rw [← Int.mul_assoc]
      omega

theorem less_exact {a b : List Int} (ha : Digs a) (hb : Digs b) (hl : b.length ≤ a.length) (h : val b ≤ val a) : val (lessL a b 0) = val a - val b := by
  obtain ⟨⟨f, f0, f1, i1⟩, i2, i3⟩ := less_val a b 0 ha hb (by omega) (by omega) hl
  have h1 := val_bound i2
  rw [i3] at h1
  have h2 := (val_bound hb).1
  have h3 : f = 0 := by
    by_cases hf : f = 0
    · exact hf
    · have : f = 1 := by omega
      subst this
      omega
  subst h3
  omega

theorem trim_val (l : List Int) : ∀ n, n ≤ l.length → val (l.take (trimN l n)) = val (l.take n) ∧ (∀ d, (l.take (trimN l n)).getLast? = some d → d ≠ 0)
  | 0, _ => by simp [trimN]
  | n + 1, hn => by
    have hg : l[n]? = some l[n] := List.getElem?_eq_getElem (by omega)
    have ht : l.take (n + 1) = l.take n ++ [l[n]] := by rw [List.take_add_one, hg]; rfl
    unfold trimN
    split
    · rename_i h
      obtain ⟨i1, i2⟩ := trim_val l n (by omega)
      refine ⟨?_, i2⟩
      rw [i1, ht, val_append]
      rw [hg] at h
      simp only [Option.some.injEq] at h
      simp [h, val]
    · rename_i h
      refine ⟨rfl, ?_⟩
      intro d hd
      rw [ht, List.getLast?_concat] at hd
      simp only [Option.some.injEq] at hd
      subst hd
      intro e
      exact h (by rw [hg, e])

theorem trimL_val (l : List Int) : val (trimL l) = val l := by
  have := (trim_val l l.length (Nat.le_refl _)).1
  rwa [List.take_length] at this
theorem trimL_top (l : List Int) : ∀ d, (trimL l).getLast? = some d → d ≠ 0 := (trim_val l l.length (Nat.le_refl _)).2
theorem trimL_digs {l : List Int} (h : Digs l) : Digs (trimL l) := fun d hd => h d (List.mem_of_mem_take hd)
theorem trimL_len (l : List Int) : (trimL l).length = trimN l l.length := by
  have := trimN_le l l.length
  simp [trimL]; omega
end Go.Pe.T

namespace Go.Pe.T


def Top (l : List Int) : Prop := Digs l ∧ ∀ d, l.getLast? = some d → d ≠ 0

theorem top_bound : ∀ {l : List Int}, Top l → l ≠ [] → 10 ^ (l.length - 1) ≤ val l
  | [], _, h => absurd rfl h
  | [d], h, _ => by
    have h1 := h.2 d (by simp)
    have h2 := h.1.cons.1
    unfold digit at h2
    simp [val]; omega
  | d :: e :: l, h, _ => by
    have h2 := h.1.cons
    have ih := top_bound (l := e :: l) ⟨h2.2, fun x hx => h.2 x (by simpa [List.getLast?_cons_cons] using hx)⟩ (by simp)
    have h3 := h2.1
    unfold digit at h3
    have e1 : (d :: e :: l).length - 1 = ((e :: l).length - 1) + 1 := by simp
    rw [e1, Int.pow_succ]
    have e2 : val (d :: e :: l) = d + 10 * val (e :: l) := rfl
    rw [e2]
    omega

theorem val_take {a : List Int} {n : Nat} (h : n < a.length) : val (a.take (n + 1)) = val (a.take n) + 10 ^ n * a[n] := by
  have hg : a[n]? = some a[n] := List.getElem?_eq_getElem h
  have ht : a.take (n + 1) = a.take n ++ [a[n]] := by rw [List.take_add_one, hg]; rfl
  rw [ht, val_append]
  simp [val, List.length_take, Nat.min_eq_left (Nat.le_of_lt h)]

theorem Digs.take {l : List Int} (h : Digs l) (n : Nat) : Digs (l.take n) := fun d hd => h d (List.mem_of_mem_take hd)

theorem aboveN_val {a b : List Int} (ha : Digs a) (hb : Digs b) (he : a.length = b.length) : ∀ n, n ≤ a.length → (aboveN a b n = true ↔ val (b.take n) ≤ val (a.take n))
  | 0, _ => by simp [aboveN, val]
  | n + 1, hn => by
    have hb' : n < b.length := by omega
    have ha' : n < a.length := by omega
    have wa : (a[n]?).getD 0 = a[n] := by simp [ha']
    have wb : (b[n]?).getD 0 = b[n] := by simp [hb']
    have ia := val_bound (ha.take n)
    have ib := val_bound (hb.take n)
    rw [List.length_take, Nat.min_eq_left (by omega)] at ia ib
    rw [aboveN, wa, wb, val_take ha', val_take hb']
    split
    · rename_i h
      rw [aboveN_val ha hb he n (by omega), h]
      omega
    · rename_i h
      simp only [decide_eq_true_eq]
      constructor
      · intro h1
        have : (10 : Int) ^ n * (b[n] + 1) ≤ 10 ^ n * a[n] := Int.mul_le_mul_of_nonneg_left (by omega) (by omega)
        rw [Int.mul_add] at this
        omega
      · intro h1
        by_cases h2 : a[n] > b[n]
        · exact h2
        · exfalso
          have : (10 : Int) ^ n * (a[n] + 1) ≤ 10 ^ n * b[n] := Int.mul_le_mul_of_nonneg_left (by omega) (by omega)
          rw [Int.mul_add] at this
          omega

theorem aboveL_val {a b : List Int} (ha : Top a) (hb : Top b) : aboveL a b = decide (val b ≤ val a) ∧ (aboveL a b = true → b.length ≤ a.length) ∧ (aboveL a b = false → a.length ≤ b.length) := by
  unfold aboveL
  split
  · rename_i he
    have h := aboveN_val ha.1 hb.1 he a.length (Nat.le_refl _)
    rw [List.take_length, he, List.take_length] at h
    refine ⟨?_, fun _ => by omega, fun _ => by omega⟩
    rw [he]
    cases hx : aboveN a b b.length with
    | true => exact (decide_eq_true (h.1 hx)).symm
    | false =>
      refine (decide_eq_false fun hle => ?_).symm
      rw [h.2 hle] at hx
      simp at hx
  · rename_i he
    refine ⟨?_, fun h => by simp at h; omega, fun h => by simp at h; omega⟩
    by_cases hg : a.length > b.length
    · have h1 := top_bound ha (by intro e; subst e; simp at hg)
      have h2 := (val_bound hb.1).2
      have h3 := p10_mono (show b.length ≤ a.length - 1 by omega)
      have : val b ≤ val a := by omega
      simp [hg, this]
    · have h1 := top_bound hb (by intro e; subst e; simp at hg he; exact he hg)
      have h2 := (val_bound ha.1).2
      have h3 := p10_mono (show a.length ≤ b.length - 1 by omega)
      have : ¬ val b ≤ val a := by omega
      simp [hg, this]
end Go.Pe.T

namespace Go.Pe.T


def trimmed (neg : Bool) (l : List Int) : D := longD (neg && trimN l l.length != 0) (trimL l)

theorem trim_ok' (neg : Bool) (l : List Int) (hl : l.length ≤ 10000) (hp : List Ent) : F tab 127 [.d (.agg [.bool neg, .sl (l.map iv)])] hp = some (.ret (.d (trimmed neg l)) hp) :=
  trim_ok neg l (by have : maxLen = 9223372036854775807 := by decide
                    omega) hp

def plusD (na : Bool) (a : List Int) (nb : Bool) (b : List Int) : D :=
  if na = nb then trimmed na (sumL a b 0 (max a.length b.length + 2))
  else if aboveL a b then trimmed na (lessL a b 0) else trimmed nb (lessL b a 0)

theorem trimmed_shape (neg : Bool) (l : List Int) : trimmed neg l = .agg [.bool (neg && trimN l l.length != 0), .sl ((trimL l).map iv)] := rfl

theorem plus_ok (na nb : Bool) (a b : List Int) (ha : Top a) (hb : Top b) (hla : a.length ≤ 900) (hlb : b.length ≤ 900) (hp : List Ent) :
    F tab 110 [.d (longD na a), .d (longD nb b)] hp = some (.ret (.d (plusD na a nb b)) hp) := by
  refine f110 rfl ?_
  have hs := sum_ok a b ha.1 hb.1 (by omega) (by omega)
  have hs2 := (sum_val (max a.length b.length + 2) a b 0 ha.1 hb.1 (by omega) (by omega) (by omega)).2.2
  have hab := above_ok a b (by omega) (by omega)
  have h1 := less_ok a b ha.1 hb.1 (by omega) (by omega)
  have h2 := less_ok b a hb.1 ha.1 (by omega) (by omega)
  obtain ⟨_, g1, g2⟩ := aboveL_val ha hb
  by_cases hn : na = nb
  · subst hn
    have ht := trim_ok' na (sumL a b 0 (max a.length b.length + 2)) (by omega)
    have hb1 : (na == na) = true := by simp
    simp (disch := omega) only [go_sem, r110_T, r110, hb1, hs, ht, plusD, trimmed_shape]
  · have hb1 : (na == nb) = false := by simp [hn]
    rcases Bool.eq_false_or_eq_true (aboveL a b) with hx | hx
    · have hl := (less_val a b 0 ha.1 hb.1 (by omega) (by omega) (g1 hx)).2.2
      have ht := trim_ok' na (lessL a b 0) (by omega)
      simp (disch := omega) only [go_sem, r110_T, r110, hb1, hab, hx, h1, ht, plusD, hn, trimmed_shape]
    · have hl := (less_val b a 0 hb.1 ha.1 (by omega) (by omega) (g2 hx)).2.2
      have ht := trim_ok' nb (lessL b a 0) (by omega)
      simp (disch := omega) only [go_sem, r110_T, r110, hb1, hab, hx, h2, ht, plusD, hn, trimmed_shape]

def atL (c : Int) (k : Nat) : List Int := shiftL (digs c.natAbs) k
def atN (c : Int) (k : Nat) : Bool := decide (c < 0) && trimN (List.replicate k 0 ++ digs c.natAbs) (k + (digs c.natAbs).length) != 0

theorem line_ok (c c' : Int) (k k' : Nat) (hk : k ≤ 9) (hk' : k' ≤ 9) (hc : -1000000000000000 < c ∧ c < 1000000000000000) (hc' : -1000000000000000 < c' ∧ c' < 1000000000000000) (hp : List Ent) :
    F tab 109 [.d (numD c k), .d (numD c' k')] hp = some (.ret (.tup [.d (longD (atN c (max k k' - k)) (atL c (max k k' - k))), .d (longD (atN c' (max k k' - k')) (atL c' (max k k' - k'))), .d (iv (max k k' : Nat))]) hp) := by
  refine f109 rfl ?_
  have e15 : (10 : Nat) ^ 15 = 1000000000000000 := by decide
  have d1 := digs_len 15 c.natAbs (by omega)
  have d2 := digs_len 15 c'.natAbs (by omega)
  have o1 := of_ok c (by omega)
  have o2 := of_ok c' (by omega)
  have s1 := shift_ok (decide (c < 0)) (digs c.natAbs) (by omega) (max k k' - k) (by omega)
  have s2 := shift_ok (decide (c' < 0)) (digs c'.natAbs) (by omega) (max k k' - k') (by omega)
  by_cases h : (k' : Int) > (k : Int)
  · have m : max k k' = k' := by omega
    rw [m] at s1 s2 ⊢
    have e1 : ((k' - k : Nat) : Int) = (k' : Int) - (k : Int) := by omega
    have e2 : ((k' - k' : Nat) : Int) = (k' : Int) - (k' : Int) := by omega
    rw [e1] at s1
    rw [e2] at s2
    simp (disch := omega) only [go_sem, r109_T, r109, h, o1, o2, s1, s2, w64, longD, atN, atL]
  · have m : max k k' = k := by omega
    rw [m] at s1 s2 ⊢
    have e1 : ((k - k' : Nat) : Int) = (k : Int) - (k' : Int) := by omega
    have e2 : ((k - k : Nat) : Int) = (k : Int) - (k : Int) := by omega
    rw [e2] at s1
    rw [e1] at s2
    simp (disch := omega) only [go_sem, r109_T, r109, h, o1, o2, s1, s2, w64, longD, atN, atL]
end Go.Pe.T

namespace Go.Pe.T

theorem digs_val (n : Nat) : val (digs n) = n ∧ Digs (digs n) := by
  induction n using Nat.strongRecOn with
  | _ n ih =>
    rw [digs]
    split
    · rename_i h; subst h; exact ⟨by simp [val], Digs.nil⟩
    · obtain ⟨i1, i2⟩ := ih (n / 10) (by omega)
      refine ⟨?_, Digs.mk ⟨by omega, by omega⟩ i2⟩
      simp only [val, i1]
      omega

theorem rep_digs {l : List Int} (h : Digs l) (n : Nat) : Digs (List.replicate n 0 ++ l) := fun d hd => by
  rcases List.mem_append.1 hd with hd | hd
  · obtain rfl := (List.mem_replicate.1 hd).2
    exact ⟨by omega, by omega⟩
  · exact h d hd

theorem trimN_zero {l : List Int} (h : Digs l) : trimN l l.length = 0 ↔ val l = 0 := by
  have h1 := trimL_val l
  have h2 := trimL_len l
  constructor
  · intro e
    rw [e] at h2
    have : trimL l = [] := List.eq_nil_of_length_eq_zero h2
    rw [this] at h1
    exact h1.symm
  · intro e
    have ht : Top (trimL l) := ⟨trimL_digs h, trimL_top l⟩
    by_cases hn : trimL l = []
    · rw [← h2, hn]; rfl
    · have := top_bound ht hn
      have hp := p10_pos ((trimL l).length - 1)
      rw [h1] at this
      omega

theorem at_top (c : Int) (k : Nat) : Top (atL c k) ∧ val (atL c k) = 10 ^ k * (c.natAbs : Int) ∧ atN c k = decide (c < 0) := by
  obtain ⟨d1, d2⟩ := digs_val c.natAbs
  have h1 := rep_digs d2 k
  have hv : val (atL c k) = 10 ^ k * (c.natAbs : Int) := by unfold atL shiftL; rw [trimL_val, val_rep, d1]
  refine ⟨⟨trimL_digs h1, trimL_top _⟩, hv, ?_⟩
  unfold atN
  have hz := trimN_zero h1
  rw [val_rep, d1] at hz
  simp only [List.length_append, List.length_replicate] at hz
  by_cases hc : c < 0
  · have hne : (10 : Int) ^ k * (c.natAbs : Int) ≠ 0 := by
      have hp := p10_pos k
      have : 0 < (10 : Int) ^ k * (c.natAbs : Int) := Int.mul_pos hp (by omega)
      omega
    have : trimN (List.replicate k 0 ++ digs c.natAbs) (k + (digs c.natAbs).length) ≠ 0 := fun e => hne (hz.1 e)
    simp [hc, this]
  · simp [hc]

theorem at_len (c : Int) (k : Nat) (hk : k ≤ 9) (hc : -1000000000000000 < c ∧ c < 1000000000000000) : (atL c k).length ≤ 900 := by
  have e15 : (10 : Nat) ^ 15 = 1000000000000000 := by decide
  have d1 := digs_len 15 c.natAbs (by omega)
  unfold atL shiftL trimL
  simp only [List.length_take, List.length_append, List.length_replicate]
  omega

theorem sgn_scale {a b p : Int} (hp : 0 < p) : sgn (a * p) (b * p) = sgn a b := by
  unfold sgn
  have h1 : a * p < b * p ↔ a < b := ⟨fun h => Int.lt_of_mul_lt_mul_right h (by omega), fun h => Int.mul_lt_mul_of_pos_right h hp⟩
  have h2 : b * p < a * p ↔ b < a := ⟨fun h => Int.lt_of_mul_lt_mul_right h (by omega), fun h => Int.mul_lt_mul_of_pos_right h hp⟩
  simp only [gt_iff_lt, h1, h2]

def tells (neg : Bool) (v : Int) : Int := if v = 0 then 0 else if neg then -1 else 1

theorem plus_tells {na nb : Bool} {a b : List Int} (ha : Top a) (hb : Top b) : ∃ neg l, plusD na a nb b = trimmed neg l ∧ Digs l ∧ 
    tells neg (val l) = (let x := if na then - val a else val a; let y := if nb then val b else - val b; sgn x y) := by
  have h1 := (val_bound ha.1).1
  have h2 := (val_bound hb.1).1
  obtain ⟨g0, g1, g2⟩ := aboveL_val ha hb
  unfold plusD
  split
  · rename_i hn
    subst hn
    obtain ⟨s1, s2, _⟩ := sum_val (max a.length b.length + 2) a b 0 ha.1 hb.1 (by omega) (by omega) (by omega)
    refine ⟨na, _, rfl, s2, ?_⟩
    rw [s1]
    cases na <;> simp only [tells, sgn, Bool.false_eq_true, if_true, if_false] <;> split <;> split <;> (try split) <;> omega
  · rename_i hn
    split
    · rename_i hx
      have hle : val b ≤ val a := by rw [g0] at hx; simpa using hx
      obtain ⟨_, l2, _⟩ := less_val a b 0 ha.1 hb.1 (by omega) (by omega) (g1 hx)
      refine ⟨na, _, rfl, l2, ?_⟩
      rw [less_exact ha.1 hb.1 (g1 hx) hle]
      cases na <;> cases nb <;> simp at hn <;> simp only [tells, sgn, Bool.false_eq_true, if_true, if_false] <;> split <;> split <;> (try split) <;> omega
    · rename_i hx
      have hx' : aboveL a b = false := by simpa using hx
      have hle : val a ≤ val b := by rw [g0] at hx'; simp at hx'; omega
      obtain ⟨_, l2, _⟩ := less_val b a 0 hb.1 ha.1 (by omega) (by omega) (g2 hx')
      refine ⟨nb, _, rfl, l2, ?_⟩
      rw [less_exact hb.1 ha.1 (g2 hx') hle]
      cases na <;> cases nb <;> simp at hn <;> simp only [tells, sgn, Bool.false_eq_true, if_true, if_false] <;> split <;> split <;> (try split) <;> omega

theorem cmp4_ok (c c' : Int) (k k' : Nat) (hk : k ≤ 9) (hk' : k' ≤ 9) (hc : -1000000000000000 < c ∧ c < 1000000000000000) (hc' : -1000000000000000 < c' ∧ c' < 1000000000000000) (hp : List Ent) :
    F tab 73 [.d (numD c k), .d (numD c' k')] hp = some (.ret (.d (iv (sgn (flatN c k) (flatN c' k')))) hp) := by
  refine f73 rfl ?_
  have hl := line_ok c c' k k' hk hk' hc hc'
  obtain ⟨t1, v1, n1⟩ := at_top c (max k k' - k)
  obtain ⟨t2, v2, n2⟩ := at_top c' (max k k' - k')
  have hp' := plus_ok (atN c (max k k' - k)) (!atN c' (max k k' - k')) (atL c (max k k' - k)) (atL c' (max k k' - k')) t1 t2 (at_len _ _ (by omega) hc) (at_len _ _ (by omega) hc')
  obtain ⟨neg, l, e1, dl1, e2⟩ := plus_tells (na := atN c (max k k' - k)) (nb := !atN c' (max k k' - k')) t1 t2
  rw [e1] at hp'
  have hz := trimN_zero dl1
  have hfin : tells neg (val l) = sgn (flatN c k) (flatN c' k') := by
    rw [e2, n1, n2, v1, v2]
    have hM : 0 < (10 : Int) ^ (9 - max k k') := p10_pos _
    have ea : flatN c k = c * 10 ^ (max k k' - k) * 10 ^ (9 - max k k') := by
      unfold flatN
      rw [Int.mul_assoc, ← Int.pow_add, show max k k' - k + (9 - max k k') = 9 - k by omega]
    have eb : flatN c' k' = c' * 10 ^ (max k k' - k') * 10 ^ (9 - max k k') := by
      unfold flatN
      rw [Int.mul_assoc, ← Int.pow_add, show max k k' - k' + (9 - max k k') = 9 - k' by omega]
    rw [ea, eb, sgn_scale hM]
    have fa : ∀ (c : Int) (q : Int), (if decide (c < 0) = true then -(q * (c.natAbs : Int)) else q * (c.natAbs : Int)) = c * q := by
      intro c q
      by_cases h : c < 0
      · have : (c.natAbs : Int) = -c := by omega
        simp only [h, decide_true, if_true, this, Int.mul_neg, Int.neg_neg, Int.mul_comm]
      · have : (c.natAbs : Int) = c := by omega
        simp only [h, decide_false, Bool.false_eq_true, if_false, this, Int.mul_comm]
    have fb : ∀ (c : Int) (q : Int), (if (!decide (c < 0)) = true then q * (c.natAbs : Int) else -(q * (c.natAbs : Int))) = c * q := by
      intro c q
      by_cases h : c < 0
      · have : (c.natAbs : Int) = -c := by omega
        simp only [h, decide_true, Bool.not_true, Bool.false_eq_true, if_false, this, Int.mul_neg, Int.neg_neg, Int.mul_comm]
      · have : (c.natAbs : Int) = c := by omega
        simp only [h, decide_false, Bool.not_false, if_true, this, Int.mul_comm]
    simp only [fa, fb]
  rw [← hfin]
  unfold tells
  by_cases h0 : val l = 0
  · have g0 := hz.2 h0
    have g1 : trimL l = [] := List.eq_nil_of_length_eq_zero (by rw [trimL_len, g0])
    have g2 : (trimN l l.length != 0) = false := by simp [g0]
    simp (disch := omega) only [go_sem, r73_T, r73, hl, hp', trimmed_shape, g1, g2, h0]
  · have g0 : trimN l l.length ≠ 0 := fun e => h0 (hz.1 e)
    have g1 : ((trimL l).length : Int) ≠ 0 := by rw [trimL_len]; omega
    have g2 : (trimN l l.length != 0) = true := by simp [g0]
    have g3 : (((trimL l).length : Int) == 0) = false := by simpa using g1
    cases neg <;> simp (disch := omega) only [go_sem, r73_T, r73, hl, hp', trimmed_shape, List.length_map, g2, g3, h0]
end Go.Pe.T

namespace Go.Pe.T


def mism : List UInt8 → List UInt8 → Option Int
  | x :: a, y :: b => if x = y then mism a b else some (sgn x.toNat y.toNat)
  | _, _ => none
def txtL (a b : List UInt8) : Int := (mism a b).getD (sgn a.length b.length)
def txt (a b : ByteArray) : Int := txtL a.data.toList b.data.toList

theorem txtL_less : ∀ (a b : List UInt8), Op.bytesLess a b = decide (txtL a b = -1) ∧ (a == b) = decide (txtL a b = 0) ∧ (txtL a b = -1 ∨ txtL a b = 0 ∨ txtL a b = 1)
  | [], [] => by simp [Op.bytesLess, txtL, mism, sgn]
  | [], y :: b => by
    have : sgn 0 ((b.length : Int) + 1) = -1 := by unfold sgn; split <;> omega
    simp [Op.bytesLess, txtL, mism, this]
  | x :: a, [] => by
    have : sgn ((a.length : Int) + 1) 0 = 1 := by unfold sgn; split <;> (try split) <;> omega
    simp [Op.bytesLess, txtL, mism, this]
  | x :: a, y :: b => by
    obtain ⟨i1, i2, i3⟩ := txtL_less a b
    have hl : sgn ((x :: a).length : Int) ((y :: b).length : Int) = sgn a.length b.length := by
      unfold sgn; simp
    by_cases h : x = y
    · subst h
      have e : txtL (x :: a) (x :: b) = txtL a b := by simp only [txtL, mism, if_true, hl]
      rw [e]
      have hx : ¬ x < x := by simp
      refine ⟨?_, ?_, i3⟩
      · simp only [Op.bytesLess, hx, decide_false, Bool.false_or, beq_self_eq_true, Bool.true_and, i1]
      · simpa using i2
    · have e : txtL (x :: a) (y :: b) = sgn x.toNat y.toNat := by simp only [txtL, mism, if_neg h, Option.getD_some]
      rw [e]
      have hne : x.toNat ≠ y.toNat := fun hh => h (UInt8.toNat_inj.1 hh)
      have hb : (x == y) = false := by simpa using h
      have hlt : x < y ↔ x.toNat < y.toNat := UInt8.lt_iff_toNat_lt
      unfold sgn
      by_cases h2 : x.toNat < y.toNat
      · have h3 : (x.toNat : Int) < y.toNat := by omega
        simp [Op.bytesLess, hb, hlt.2 h2, h3, h]
      · have h3 : ¬ (x.toNat : Int) < y.toNat := by omega
        have h4 : (x.toNat : Int) > y.toNat := by omega
        have h5 : ¬ x < y := fun hh => h2 (hlt.1 hh)
        simp [Op.bytesLess, hb, h5, h3, h4, h]

theorem isNaNs_ok (a : ByteArray) (hp : List Ent) : F tab 135 [.d (.str a)] hp = some (.ret (.d (.bool false)) hp) := by
  refine f135 rfl ?_
  have h : (!(a.toList == a.toList)) = false := by simp
  simp only [go_sem, r135_T, r135, strD, h]

theorem cmps_ok (a b : ByteArray) (hp : List Ent) : F tab 107 [.d (.str a), .d (.str b)] hp = some (.ret (.d (iv (txt a b))) hp) := by
  refine f107 rfl ?_
  have h1 := isNaNs_ok a
  have h2 := isNaNs_ok b
  obtain ⟨i1, i2, i3⟩ := txtL_less a.data.toList b.data.toList
  have e1 := ByteArray.toList_eq a
  have e2 := ByteArray.toList_eq b
  have e3 : txt a b = txtL a.data.toList b.data.toList := rfl
  rw [← e3] at i1 i2 i3
  rcases i3 with h | h | h
  · have g1 : decide (txt a b = -1) = true := by simp [h]
    simp only [go_sem, r107_T, r107, strD, h1, h2, e1, e2, i1, i2, g1, h]
  · have g1 : decide (txt a b = -1) = false := by simp [h]
    have g2 : decide (txt a b = 0) = true := by simp [h]
    simp only [go_sem, r107_T, r107, strD, h1, h2, e1, e2, i1, i2, g1, g2, h, Bool.false_or, Bool.true_or]
  · have g1 : decide (txt a b = -1) = false := by simp [h]
    have g2 : decide (txt a b = 0) = false := by simp [h]
    simp only [go_sem, r107_T, r107, strD, h1, h2, e1, e2, i1, i2, g1, g2, h, Bool.false_or, Bool.true_or]
end Go.Pe.T

namespace Go.Pe.T

theorem size_data (a : ByteArray) : a.data.toList.length = a.size := rfl
theorem get_data {a : ByteArray} {i : Nat} (h : i < a.size) : a[i]? = some a[i] ∧ a.data.toList[i]? = some a[i] ∧ a.data.toList.drop i = a[i] :: a.data.toList.drop (i + 1) := by
  have e : a[i] = a.data.toList[i]'h := rfl
  refine ⟨getElem?_pos a i h, ?_, ?_⟩
  · rw [e]; exact List.getElem?_eq_getElem h
  · rw [e]; exact List.drop_eq_getElem_cons h

theorem text_loop (a b : ByteArray) (hla : a.size ≤ maxLen) : ∀ (j i : Nat), i + j = a.size →
    V (F tab) r75_B0 (r75_S0 (.d (.str a)) (.d (.str b)) (.d (iv i)) []) =
      match mism (a.data.toList.drop i) (b.data.toList.drop i) with
      | some r => some (.ret, r75_R (.d (iv r)) [])
      | none => some (.norm, r75_E0 (.d (.str a)) (.d (.str b)) [])
  | 0, i, hi => by
    have h1 : ((i : Int) < (a.size : Int)) = False := eq_false (by omega)
    rw [r75_B0_eq, List.drop_of_length_le (by rw [size_data]; omega : a.data.toList.length ≤ i)]
    have e : mism [] (b.data.toList.drop i) = none := by simp [mism]
    rw [e]
    simp only [go_sem, r75_C0, h1]
  | j + 1, i, hi => by
    have hmx : maxLen = 9223372036854775807 := by decide
    have h1 : ((i : Int) < (a.size : Int)) = True := eq_true (by omega)
    have h0 : (0 ≤ (i : Int)) = True := eq_true (by omega)
    obtain ⟨a1, a2, a3⟩ := get_data (a := a) (i := i) (by omega)
    rw [r75_B0_eq, a3]
    by_cases hb : i < b.size
    · have h2 : ((i : Int) < (b.size : Int)) = True := eq_true (by omega)
      obtain ⟨b1, b2, b3⟩ := get_data (a := b) (i := i) hb
      rw [b3]
      by_cases he : a[i] = b[i]
      · have g1 : ((a[i].toNat : Int) != (b[i].toNat : Int)) = false := by simp [he]
        have ih := text_loop a b hla j (i + 1) (by omega)
        simp only [mism, if_pos he]
        simp (disch := omega) only [go_sem, r75_C0, h0, h1, h2, a1, b1, g1, w64]
        exact ih
      · have hne : a[i].toNat ≠ b[i].toNat := fun hh => he (UInt8.toNat_inj.1 hh)
        have g1 : ((a[i].toNat : Int) != (b[i].toNat : Int)) = true := by simp; omega
        have u1 : a[i].toNat < 256 := UInt8.toNat_lt _
        have u2 : b[i].toNat < 256 := UInt8.toNat_lt _
        have hs := sign7_ok a[i].toNat b[i].toNat
        simp only [mism, if_neg he]
        simp (disch := omega) only [go_sem, r75_C0, h0, h1, h2, a1, b1, g1, w64, hs]
    · have h2 : ((i : Int) < (b.size : Int)) = False := eq_false (by omega)
      rw [List.drop_of_length_le (by rw [size_data]; omega : b.data.toList.length ≤ i)]
      simp only [mism]
      simp (disch := omega) only [go_sem, r75_C0, h0, h1, h2]

theorem text_ok (a b : ByteArray) (hla : a.size ≤ maxLen) (hp : List Ent) : F tab 75 [.d (.str a), .d (.str b)] hp = some (.ret (.d (iv (txt a b))) hp) := by
  refine f75 rfl ?_
  have hL := text_loop a b hla a.size 0 (by omega)
  have hs := sign7_ok a.size b.size
  simp (disch := omega) only [go_sem, r75_T, r75]
  rw [r75_B0_n]
  erw [hL]
  simp only [List.drop_zero]
  unfold txt txtL
  cases mism a.data.toList b.data.toList with
  | some r => simp (disch := omega) only [go_sem, Option.getD_some]
  | none => simp (disch := omega) only [go_sem, Option.getD_none, size_data, hs]
end Go.Pe.T

namespace Go.Pe.T


def keysO : List ByteArray → List ByteArray → Option Int
  | x :: a, y :: b => if txt x y = 0 then keysO a b else some (txt x y)
  | _, _ => none
def keysC (a b : List ByteArray) : Int := (keysO a b).getD (sgn a.length b.length)

theorem str_get {l : List ByteArray} {i : Nat} (h : i < l.length) : (l.map D.str)[i]? = some (.str l[i]) := by simp [h]

theorem keys_loop (a b : List ByteArray) (hla : a.length ≤ maxLen) (hs : ∀ x ∈ a, x.size ≤ maxLen) : ∀ (j i : Nat), i + j = a.length →
    V (F tab) r76_B0 (r76_S0 (.d (.sl (a.map D.str))) (.d (.sl (b.map D.str))) (.d (iv i)) []) =
      match keysO (a.drop i) (b.drop i) with
      | some r => some (.ret, r76_R (.d (iv r)) [])
      | none => some (.norm, r76_E0 (.d (.sl (a.map D.str))) (.d (.sl (b.map D.str))) [])
  | 0, i, hi => by
    have h1 : ((i : Int) < (a.length : Int)) = False := eq_false (by omega)
    rw [r76_B0_eq, List.drop_of_length_le (by omega : a.length ≤ i)]
    have e : keysO [] (b.drop i) = none := by simp [keysO]
    rw [e]
    simp only [go_sem, r76_C0, List.length_map, h1]
  | j + 1, i, hi => by
    have hmx : maxLen = 9223372036854775807 := by decide
    have hlt : i < a.length := by omega
    have h1 : ((i : Int) < (a.length : Int)) = True := eq_true (by omega)
    have h0 : (0 ≤ (i : Int)) = True := eq_true (by omega)
    rw [r76_B0_eq, List.drop_eq_getElem_cons hlt]
    by_cases hb : i < b.length
    · have h2 : ((i : Int) < (b.length : Int)) = True := eq_true (by omega)
      have ht := text_ok a[i] b[i] (hs _ (List.getElem_mem hlt))
      rw [List.drop_eq_getElem_cons hb]
      by_cases he : txt a[i] b[i] = 0
      · have g1 : (txt a[i] b[i] != 0) = false := by simp [he]
        have ih := keys_loop a b hla hs j (i + 1) (by omega)
        simp only [keysO, if_pos he]
        simp (disch := omega) only [go_sem, r76_C0, List.length_map, h0, h1, h2, str_get hlt, str_get hb, ht, g1, w64]
        exact ih
      · have g1 : (txt a[i] b[i] != 0) = true := by simp [he]
        simp only [keysO, if_neg he]
        simp (disch := omega) only [go_sem, r76_C0, List.length_map, h0, h1, h2, str_get hlt, str_get hb, ht, g1, w64]
    · have h2 : ((i : Int) < (b.length : Int)) = False := eq_false (by omega)
      rw [List.drop_of_length_le (by omega : b.length ≤ i)]
      simp only [keysO]
      simp (disch := omega) only [go_sem, r76_C0, List.length_map, h0, h1, h2]

theorem keys_ok (a b : List ByteArray) (hla : a.length ≤ maxLen) (hs : ∀ x ∈ a, x.size ≤ maxLen) (hp : List Ent) : F tab 76 [.d (.sl (a.map D.str)), .d (.sl (b.map D.str))] hp = some (.ret (.d (iv (keysC a b))) hp) := by
  refine f76 rfl ?_
  have hL := keys_loop a b hla hs a.length 0 (by omega)
  have hs := sign7_ok a.length b.length
  simp (disch := omega) only [go_sem, r76_T, r76]
  rw [r76_B0_n]
  erw [hL]
  simp only [List.drop_zero]
  unfold keysC
  cases keysO a b with
  | some r => simp (disch := omega) only [go_sem, Option.getD_some]
  | none => simp (disch := omega) only [go_sem, Option.getD_none, List.length_map, hs]
end Go.Pe.T

namespace Go.Pe.T


theorem scmp_loop (a b : List ByteArray) (hla : a.length ≤ maxLen) : ∀ (j i : Nat), i + j = a.length → i ≤ b.length →
    V (F tab) r69_B0 (r69_S0 (.d (.sl (a.map D.str))) (.d (.sl (b.map D.str))) (.d (.sl (a.map D.str))) (.d (iv a.length)) (.d (iv i)) []) =
      match keysO (a.drop i) (b.drop i) with
      | some r => some (.ret, r69_R (.d (iv r)) [])
      | none => if a.length ≤ b.length then some (.norm, r69_E0 (.d (.sl (a.map D.str))) (.d (.sl (b.map D.str))) []) else some (.ret, r69_R (.d (iv 1)) [])
  | 0, i, hi, hib => by
    have h1 : ((i : Int) < (a.length : Int)) = False := eq_false (by omega)
    rw [r69_B0_eq, List.drop_of_length_le (by omega : a.length ≤ i)]
    have e : keysO [] (b.drop i) = none := by simp [keysO]
    rw [e]
    simp only [if_pos (show a.length ≤ b.length by omega)]
    simp only [go_sem, r69_C0, List.length_map, h1]
  | j + 1, i, hi, hib => by
    have hmx : maxLen = 9223372036854775807 := by decide
    have hlt : i < a.length := by omega
    have h1 : ((i : Int) < (a.length : Int)) = True := eq_true (by omega)
    have h0 : (0 ≤ (i : Int)) = True := eq_true (by omega)
    rw [r69_B0_eq, List.drop_eq_getElem_cons hlt]
    by_cases hb : i < b.length
    · have h2 : ((i : Int) ≥ (b.length : Int)) = False := eq_false (by omega)
      have ht := cmps_ok a[i] b[i]
      rw [List.drop_eq_getElem_cons hb]
      by_cases he : txt a[i] b[i] = 0
      · have g1 : (txt a[i] b[i] != 0) = false := by simp [he]
        have ih := scmp_loop a b hla j (i + 1) (by omega) (by omega)
        simp only [keysO, if_pos he]
        simp (disch := omega) only [go_sem, r69_C0, List.length_map, h0, h1, h2, str_get hlt, str_get hb, ht, g1, w64]
        exact ih
      · have g1 : (txt a[i] b[i] != 0) = true := by simp [he]
        simp only [keysO, if_neg he]
        simp (disch := omega) only [go_sem, r69_C0, List.length_map, h0, h1, h2, str_get hlt, str_get hb, ht, g1, w64]
    · have h2 : ((i : Int) ≥ (b.length : Int)) = True := eq_true (by omega)
      rw [List.drop_of_length_le (by omega : b.length ≤ i)]
      simp only [keysO, if_neg (show ¬ a.length ≤ b.length by omega)]
      simp (disch := omega) only [go_sem, r69_C0, List.length_map, h0, h1, h2, str_get hlt]

theorem scmp_ok (a b : List ByteArray) (hla : a.length ≤ maxLen) (hp : List Ent) : F tab 69 [.d (.sl (a.map D.str)), .d (.sl (b.map D.str))] hp = some (.ret (.d (iv (keysC a b))) hp) := by
  refine f69 rfl ?_
  have hL := scmp_loop a b hla a.length 0 (by omega) (by omega)
  simp (disch := omega) only [go_sem, r69_T, r69, List.length_map]
  rw [r69_B0_n]
  erw [hL]
  simp only [List.drop_zero]
  unfold keysC
  cases keysO a b with
  | some r => simp (disch := omega) only [go_sem, Option.getD_some]
  | none =>
    simp only [Option.getD_none]
    by_cases h : a.length ≤ b.length
    · rw [if_pos h]
      by_cases h2 : a.length < b.length
      · have g : ((a.length : Int) < (b.length : Int)) = True := eq_true (by omega)
        have e : sgn (a.length : Int) b.length = -1 := by unfold sgn; rw [if_pos (by omega)]
        simp (disch := omega) only [go_sem, List.length_map, g, e]
      · have g : ((a.length : Int) < (b.length : Int)) = False := eq_false (by omega)
        have e : sgn (a.length : Int) b.length = 0 := by unfold sgn; rw [if_neg (by omega), if_neg (by omega)]
        simp (disch := omega) only [go_sem, List.length_map, g, e]
    · rw [if_neg h]
      have e : sgn (a.length : Int) b.length = 1 := by unfold sgn; rw [if_neg (by omega), if_pos (by omega)]
      simp (disch := omega) only [go_sem, e]
end Go.Pe.T

namespace Go.Pe.T


end Go.Pe.T

namespace Go.Pe.T


def cleanN (c s : Int) : Int × Int := if numIs c s then (c, s) else (0, 0)
def flatS (c s : Int) : Int := flatN (cleanN c s).1 (cleanN c s).2.toNat

mutual
def cmpV : Val → Val → Int → Int × Int
  | .mk k c s t xs ks, .mk k' c' s' t' ys ks', left =>
    if left - 1 < 0 then (0, left - 1)
    else if sgn (rankOf k) (rankOf k') ≠ 0 then (sgn (rankOf k) (rankOf k'), left - 1)
    else if k = 3 then (sgn (flatS c s) (flatS c' s'), left - 1)
    else if k = 4 ∨ k = 7 then (txt t t', left - 1)
    else if k = 5 then cmpVs xs ys (left - 1)
    else if k = 6 then (if keysC ks ks' ≠ 0 then (keysC ks ks', left - 1) else cmpVs xs ys (left - 1))
    else (0, left - 1)
def cmpVs : List Val → List Val → Int → Int × Int
  | x :: a, y :: b, left => if (cmpV x y left).1 ≠ 0 ∨ (cmpV x y left).2 < 0 then cmpV x y left else cmpVs a b (cmpV x y left).2
  | a, b, left => (sgn a.length b.length, left)
end

theorem items_loop (a b : List Val) (hla : a.length ≤ maxLen) (left0 : Int)
    (ih : ∀ x ∈ a, ∀ y ∈ b, ∀ left, 0 ≤ left → left ≤ 5000 → -1 ≤ (cmpV x y left).2 ∧ (cmpV x y left).2 ≤ 5000 ∧ F tab 106 [.ptr 0 0, .d x.enc, .d y.enc] [.box [.d (iv left)]] = some (.ret (.d (iv (cmpV x y left).1)) [.box [.d (iv (cmpV x y left).2)]])) :
    ∀ (j i : Nat) (left : Int), i + j = min a.length b.length → 0 ≤ left → left ≤ 5000 →
    -1 ≤ (cmpVs (a.drop i) (b.drop i) left).2 ∧ (cmpVs (a.drop i) (b.drop i) left).2 ≤ 5000 ∧
    (V (F tab) r134_B0 (r134_S0 (.ptr 0 0) (.d (.sl (Val.encs a))) (.d (.sl (Val.encs b))) (.d (iv (min a.length b.length : Nat))) (.d (iv i)) [.box [.d (iv left)]]) =
      some (.norm, r134_E0 (.d (.sl (Val.encs a))) (.d (.sl (Val.encs b))) [.box [.d (iv (cmpVs (a.drop i) (b.drop i) left).2)]]) ∧ (cmpVs (a.drop i) (b.drop i) left).1 = sgn a.length b.length ∨
     V (F tab) r134_B0 (r134_S0 (.ptr 0 0) (.d (.sl (Val.encs a))) (.d (.sl (Val.encs b))) (.d (iv (min a.length b.length : Nat))) (.d (iv i)) [.box [.d (iv left)]]) =
      some (.ret, r134_R (.d (iv (cmpVs (a.drop i) (b.drop i) left).1)) [.box [.d (iv (cmpVs (a.drop i) (b.drop i) left).2)]]))
  | 0, i, left, hi, h0, h5 => by
    have h1 : ((i : Int) < ((min a.length b.length : Nat) : Int)) = False := eq_false (by omega)
    have e : cmpVs (a.drop i) (b.drop i) left = (sgn (a.drop i).length (b.drop i).length, left) := by
      rcases Nat.le_total a.length b.length with h | h
      · rw [List.drop_of_length_le (by omega : a.length ≤ i)]; simp [cmpVs]
      · rw [List.drop_of_length_le (by omega : b.length ≤ i)]; cases a.drop i <;> simp [cmpVs]
    rw [e]
    refine ⟨by simp; omega, h5, .inl ⟨?_, ?_⟩⟩
    · rw [r134_B0_eq]
      simp only [go_sem, r134_C0, h1]
    · simp only [List.length_drop]
      unfold sgn
      split <;> split <;> (try split) <;> omega
  | j + 1, i, left, hi, h0, h5 => by
    have hmx : maxLen = 9223372036854775807 := by decide
    have ga : i < a.length := by omega
    have gb : i < b.length := by omega
    have h1 : ((i : Int) < ((min a.length b.length : Nat) : Int)) = True := eq_true (by omega)
    have hi0 : (0 ≤ (i : Int)) = True := eq_true (by omega)
    have va : (Val.encs a)[i]? = some (a[i].enc) := by rw [encs_get]; simp [ga]
    have vb : (Val.encs b)[i]? = some (b[i].enc) := by rw [encs_get]; simp [gb]
    obtain ⟨c1, c2, c3⟩ := ih a[i] (List.getElem_mem ga) b[i] (List.getElem_mem gb) left h0 h5
    rw [List.drop_eq_getElem_cons ga, List.drop_eq_getElem_cons gb]
    simp only [cmpVs]
    generalize cmpV a[i] b[i] left = r at *
    obtain ⟨c, l⟩ := r
    simp only at c1 c2 c3 ⊢
    rw [r134_B0_eq]
    by_cases hc : c = 0
    · have g1 : (c != 0) = false := by simp [hc]
      by_cases hl : l < 0
      · rw [if_pos (Or.inr hl)]
        refine ⟨c1, c2, .inr ?_⟩
        simp (disch := omega) only [go_sem, r134_C0, h1, hi0, va, vb, enc_w, enc_a, c3, g1, hl, w64]
      · rw [if_neg (by omega)]
        have hx := items_loop a b hla left0 ih j (i + 1) l (by omega) (by omega) c2
        refine ⟨hx.1, hx.2.1, ?_⟩
        simp (disch := omega) only [go_sem, r134_C0, h1, hi0, va, vb, enc_w, enc_a, c3, g1, hl, w64]
        exact hx.2.2
    · have g1 : (c != 0) = true := by simp [hc]
      rw [if_pos (Or.inl hc)]
      refine ⟨c1, c2, .inr ?_⟩
      simp (disch := omega) only [go_sem, r134_C0, h1, hi0, va, vb, enc_w, enc_a, c3, g1, w64]
end Go.Pe.T

namespace Go.Pe.T

theorem items_ok (a b : List Val) (hla : a.length ≤ maxLen)
    (ih : ∀ x ∈ a, ∀ y ∈ b, ∀ left, 0 ≤ left → left ≤ 5000 → -1 ≤ (cmpV x y left).2 ∧ (cmpV x y left).2 ≤ 5000 ∧ F tab 106 [.ptr 0 0, .d x.enc, .d y.enc] [.box [.d (iv left)]] = some (.ret (.d (iv (cmpV x y left).1)) [.box [.d (iv (cmpV x y left).2)]]))
    (left : Int) (h0 : 0 ≤ left) (h5 : left ≤ 5000) :
    -1 ≤ (cmpVs a b left).2 ∧ (cmpVs a b left).2 ≤ 5000 ∧ F tab 134 [.ptr 0 0, .d (.sl (Val.encs a)), .d (.sl (Val.encs b))] [.box [.d (iv left)]] = some (.ret (.d (iv (cmpVs a b left).1)) [.box [.d (iv (cmpVs a b left).2)]]) := by
  obtain ⟨b1, b2, hL⟩ := items_loop a b hla left ih (min a.length b.length) 0 left (by omega) h0 h5
  rw [List.drop_zero, List.drop_zero] at b1 b2 hL
  refine ⟨b1, b2, f134 ?_⟩
  have hs := cmpi_ok a.length b.length
  have hm : (if (b.length : Int) < (a.length : Int) then (b.length : Int) else (a.length : Int)) = ((min a.length b.length : Nat) : Int) := by
    split <;> omega
  simp (disch := omega) only [go_sem, r134_T, r134, encs_len, hm]
  rw [r134_B0_n]
  rcases hL with ⟨hL, e⟩ | hL
  · erw [hL]
    rw [e]
    simp (disch := omega) only [go_sem, encs_len, hs]
  · erw [hL]
    simp (disch := omega) only [go_sem]
theorem cleanN_is (c s : Int) : numIs (cleanN c s).1 (cleanN c s).2 = true ∧ (cleanN c s).2 = ((cleanN c s).2.toNat : Int) := by
  unfold cleanN
  split
  · rename_i h
    obtain ⟨k, e, _⟩ := numIs_inv h
    exact ⟨h, by simp only; omega⟩
  · exact ⟨by decide, rfl⟩

theorem clean_ok2 (c s : Int) (hp : List Ent) : F tab 133 [.d (.agg [iv c, iv s])] hp = some (.ret (.d (.agg [iv (cleanN c s).1, iv (cleanN c s).2])) hp) := by
  have h := clean_ok c s hp
  unfold cleanN
  split at h <;> (rename_i hx; simp only [hx, if_true, if_false, Bool.false_eq_true]; exact h)

theorem numcmp_ok2 (c s c' s' : Int) (hp : List Ent) : F tab 132 [.d (.agg [iv (cleanN c s).1, iv (cleanN c s).2]), .d (.agg [iv (cleanN c' s').1, iv (cleanN c' s').2])] hp = some (.ret (.d (iv (sgn (flatS c s) (flatS c' s')))) hp) := by
  obtain ⟨h1, e1⟩ := cleanN_is c s
  obtain ⟨h2, e2⟩ := cleanN_is c' s'
  rw [e1] at h1
  rw [e2] at h2
  have h := numcmp_ok _ _ _ _ h1 h2 hp
  rw [← e1, ← e2] at h
  exact h

def WalkIs (x y : Val) (left : Int) : Prop :=
    -1 ≤ (cmpV x y left).2 ∧ (cmpV x y left).2 ≤ 5000 ∧ F tab 106 [.ptr 0 0, .d x.enc, .d y.enc] [.box [.d (iv left)]] = some (.ret (.d (iv (cmpV x y left).1)) [.box [.d (iv (cmpV x y left).2)]])

theorem walk_low (k c s t xs ks k' c' s' t' ys ks') (left : Int) (h0 : 0 ≤ left) (h5 : left ≤ 5000) (hl : left - 1 < 0)
    : WalkIs (.mk k c s t xs ks) (.mk k' c' s' t' ys ks') left := by

  refine ⟨by simp only [cmpV, if_pos hl, hl, if_true]; omega, by simp only [cmpV, if_pos hl, hl, if_true]; omega, f106 ?_⟩
  simp (disch := omega) only [go_sem, r106_T, r106, Val.enc, w64, cmpV, if_pos hl, hl, if_true]

theorem walk_rank (k c s t xs ks k' c' s' t' ys ks') (left : Int) (h0 : 0 ≤ left) (h5 : left ≤ 5000) (hl : ¬ (left - 1 < 0)) (hr : sgn (rankOf k) (rankOf k') ≠ 0)
    : WalkIs (.mk k c s t xs ks) (.mk k' c' s' t' ys ks') left := by
  have r1 := rank_ok k
  have r2 := rank_ok k'
  have r3 := cmpi_ok (rankOf k) (rankOf k')
  have g1 : (sgn (rankOf k) (rankOf k') != 0) = true := by simp [hr]
  have g1' : (sgn (rankOf k) (rankOf k') ≠ 0) = True := by simp [hr]

  refine ⟨by simp only [cmpV, hl, g1', if_false, if_true]; omega, by simp only [cmpV, hl, g1', if_false, if_true]; omega, f106 ?_⟩
  simp (disch := omega) only [go_sem, r106_T, r106, Val.enc, w64, cmpV, hl, g1', if_false, if_true, r1, r2, r3, g1]

theorem walk_3 (c s t xs ks k' c' s' t' ys ks') (left : Int) (h0 : 0 ≤ left) (h5 : left ≤ 5000) (hl : ¬ (left - 1 < 0)) (hr : sgn (rankOf 3) (rankOf k') = 0)
    : WalkIs (.mk 3 c s t xs ks) (.mk k' c' s' t' ys ks') left := by
  have r1 := rank_ok 3
  have r2 := rank_ok k'
  have r3 := cmpi_ok (rankOf 3) (rankOf k')
  have g1 : (sgn (rankOf 3) (rankOf k') != 0) = false := by simp [hr]
  have g1' : (sgn (rankOf 3) (rankOf k') ≠ 0) = False := by simp [hr]
  have q1 := clean_ok2 c s
  have q2 := clean_ok2 c' s'
  have q3 := numcmp_ok2 c s c' s'

  refine ⟨by simp only [cmpV, hl, g1', if_false, if_true]; omega, by simp only [cmpV, hl, g1', if_false, if_true]; omega, f106 ?_⟩
  simp (disch := omega) only [go_sem, r106_T, r106, Val.enc, w64, cmpV, hl, g1', if_false, if_true, r1, r2, r3, g1, q1, q2, q3]

theorem walk_4 (c s t xs ks k' c' s' t' ys ks') (left : Int) (h0 : 0 ≤ left) (h5 : left ≤ 5000) (hl : ¬ (left - 1 < 0)) (hr : sgn (rankOf 4) (rankOf k') = 0)
    : WalkIs (.mk 4 c s t xs ks) (.mk k' c' s' t' ys ks') left := by
  have r1 := rank_ok 4
  have r2 := rank_ok k'
  have r3 := cmpi_ok (rankOf 4) (rankOf k')
  have g1 : (sgn (rankOf 4) (rankOf k') != 0) = false := by simp [hr]
  have g1' : (sgn (rankOf 4) (rankOf k') ≠ 0) = False := by simp [hr]
  have p1 := cmps_ok t t'
  have k3 : ((4 : Int) = 3) = False := by simp
  have k4 : ((4 : Int) = 4) = True := by simp

  refine ⟨by simp only [cmpV, hl, g1', if_false, if_true, k3, true_or, or_true]; omega, by simp only [cmpV, hl, g1', if_false, if_true, k3, true_or, or_true]; omega, f106 ?_⟩
  simp (disch := omega) only [go_sem, r106_T, r106, Val.enc, w64, cmpV, hl, g1', if_false, if_true, k3, true_or, or_true, r1, r2, r3, g1, p1, k4]

theorem walk_7 (c s t xs ks k' c' s' t' ys ks') (left : Int) (h0 : 0 ≤ left) (h5 : left ≤ 5000) (hl : ¬ (left - 1 < 0)) (hr : sgn (rankOf 7) (rankOf k') = 0)
    : WalkIs (.mk 7 c s t xs ks) (.mk k' c' s' t' ys ks') left := by
  have r1 := rank_ok 7
  have r2 := rank_ok k'
  have r3 := cmpi_ok (rankOf 7) (rankOf k')
  have g1 : (sgn (rankOf 7) (rankOf k') != 0) = false := by simp [hr]
  have g1' : (sgn (rankOf 7) (rankOf k') ≠ 0) = False := by simp [hr]
  have p1 := cmps_ok t t'
  have k3 : ((7 : Int) = 3) = False := by simp
  have k4 : ((7 : Int) = 7) = True := by simp

  refine ⟨by simp only [cmpV, hl, g1', if_false, if_true, k3, true_or, or_true]; omega, by simp only [cmpV, hl, g1', if_false, if_true, k3, true_or, or_true]; omega, f106 ?_⟩
  simp (disch := omega) only [go_sem, r106_T, r106, Val.enc, w64, cmpV, hl, g1', if_false, if_true, k3, true_or, or_true, r1, r2, r3, g1, p1, k4]

theorem walk_5 (c s t xs ks k' c' s' t' ys ks') (left : Int) (h0 : 0 ≤ left) (h5 : left ≤ 5000) (hl : ¬ (left - 1 < 0)) (hr : sgn (rankOf 5) (rankOf k') = 0) (i1 : -1 ≤ (cmpVs xs ys (left - 1)).2 ∧ (cmpVs xs ys (left - 1)).2 ≤ 5000) (i3 : F tab 134 [.ptr 0 0, .d (.sl (Val.encs xs)), .d (.sl (Val.encs ys))] [.box [.d (iv (left - 1))]] = some (.ret (.d (iv (cmpVs xs ys (left - 1)).1)) [.box [.d (iv (cmpVs xs ys (left - 1)).2)]]))
    : WalkIs (.mk 5 c s t xs ks) (.mk k' c' s' t' ys ks') left := by
  have r1 := rank_ok 5
  have r2 := rank_ok k'
  have r3 := cmpi_ok (rankOf 5) (rankOf k')
  have g1 : (sgn (rankOf 5) (rankOf k') != 0) = false := by simp [hr]
  have g1' : (sgn (rankOf 5) (rankOf k') ≠ 0) = False := by simp [hr]
  have k3 : ((5 : Int) = 3) = False := by simp
  have k4 : ((5 : Int) = 4) = False := by simp
  have k5 : ((5 : Int) = 5) = True := by simp
  have k7 : ((5 : Int) = 7) = False := by simp

  refine ⟨by simp only [cmpV, hl, g1', if_false, if_true, k3, k4, k5, k7, or_self]; omega, by simp only [cmpV, hl, g1', if_false, if_true, k3, k4, k5, k7, or_self]; omega, f106 ?_⟩
  simp (disch := omega) only [go_sem, r106_T, r106, Val.enc, w64, cmpV, hl, g1', if_false, if_true, k3, k4, k5, k7, or_self, r1, r2, r3, g1, i3]

theorem walk_6a (c s t xs ks k' c' s' t' ys ks') (left : Int) (h0 : 0 ≤ left) (h5 : left ≤ 5000) (hl : ¬ (left - 1 < 0)) (hr : sgn (rankOf 6) (rankOf k') = 0) (i1 : -1 ≤ (cmpVs xs ys (left - 1)).2 ∧ (cmpVs xs ys (left - 1)).2 ≤ 5000) (i3 : F tab 134 [.ptr 0 0, .d (.sl (Val.encs xs)), .d (.sl (Val.encs ys))] [.box [.d (iv (left - 1))]] = some (.ret (.d (iv (cmpVs xs ys (left - 1)).1)) [.box [.d (iv (cmpVs xs ys (left - 1)).2)]])) (hks : ks.length ≤ maxLen) (hk : keysC ks ks' = 0)
    : WalkIs (.mk 6 c s t xs ks) (.mk k' c' s' t' ys ks') left := by
  have r1 := rank_ok 6
  have r2 := rank_ok k'
  have r3 := cmpi_ok (rankOf 6) (rankOf k')
  have g1 : (sgn (rankOf 6) (rankOf k') != 0) = false := by simp [hr]
  have g1' : (sgn (rankOf 6) (rankOf k') ≠ 0) = False := by simp [hr]
  have k3 : ((6 : Int) = 3) = False := by simp
  have k4 : ((6 : Int) = 4) = False := by simp
  have k5 : ((6 : Int) = 5) = False := by simp
  have k6 : ((6 : Int) = 6) = True := by simp
  have k7 : ((6 : Int) = 7) = False := by simp
  have p2 := scmp_ok ks ks' hks
  have f1 : (keysC ks ks' != 0) = false := by simp [hk]
  have f1' : (keysC ks ks' ≠ 0) = False := by simp [hk]

  refine ⟨by simp only [cmpV, hl, g1', if_false, if_true, k3, k4, k5, k6, k7, f1', or_self]; omega, by simp only [cmpV, hl, g1', if_false, if_true, k3, k4, k5, k6, k7, f1', or_self]; omega, f106 ?_⟩
  simp (disch := omega) only [go_sem, r106_T, r106, Val.enc, w64, cmpV, hl, g1', if_false, if_true, k3, k4, k5, k6, k7, f1', or_self, r1, r2, r3, g1, i3, p2, f1]

theorem walk_6b (c s t xs ks k' c' s' t' ys ks') (left : Int) (h0 : 0 ≤ left) (h5 : left ≤ 5000) (hl : ¬ (left - 1 < 0)) (hr : sgn (rankOf 6) (rankOf k') = 0) (hks : ks.length ≤ maxLen) (hk : keysC ks ks' ≠ 0)
    : WalkIs (.mk 6 c s t xs ks) (.mk k' c' s' t' ys ks') left := by
  have r1 := rank_ok 6
  have r2 := rank_ok k'
  have r3 := cmpi_ok (rankOf 6) (rankOf k')
  have g1 : (sgn (rankOf 6) (rankOf k') != 0) = false := by simp [hr]
  have g1' : (sgn (rankOf 6) (rankOf k') ≠ 0) = False := by simp [hr]
  have k3 : ((6 : Int) = 3) = False := by simp
  have k4 : ((6 : Int) = 4) = False := by simp
  have k5 : ((6 : Int) = 5) = False := by simp
  have k6 : ((6 : Int) = 6) = True := by simp
  have k7 : ((6 : Int) = 7) = False := by simp
  have p2 := scmp_ok ks ks' hks
  have f1 : (keysC ks ks' != 0) = true := by simp [hk]
  have f1' : (keysC ks ks' ≠ 0) = True := by simp [hk]

  refine ⟨by simp only [cmpV, hl, g1', if_false, if_true, k3, k4, k5, k6, k7, f1', or_self]; omega, by simp only [cmpV, hl, g1', if_false, if_true, k3, k4, k5, k6, k7, f1', or_self]; omega, f106 ?_⟩
  simp (disch := omega) only [go_sem, r106_T, r106, Val.enc, w64, cmpV, hl, g1', if_false, if_true, k3, k4, k5, k6, k7, f1', or_self, r1, r2, r3, g1, p2, f1]

theorem walk_no (k c s t xs ks k' c' s' t' ys ks') (left : Int) (h0 : 0 ≤ left) (h5 : left ≤ 5000) (hl : ¬ (left - 1 < 0)) (hr : sgn (rankOf k) (rankOf k') = 0) (k3 : ¬ k = 3) (k4 : ¬ k = 4) (k5 : ¬ k = 5) (k6 : ¬ k = 6) (k7 : ¬ k = 7)
    : WalkIs (.mk k c s t xs ks) (.mk k' c' s' t' ys ks') left := by
  have r1 := rank_ok k
  have r2 := rank_ok k'
  have r3 := cmpi_ok (rankOf k) (rankOf k')
  have g1 : (sgn (rankOf k) (rankOf k') != 0) = false := by simp [hr]
  have g1' : (sgn (rankOf k) (rankOf k') ≠ 0) = False := by simp [hr]
  have e3 : (k == 3) = false := by simpa using k3
  have e4 : (k == 4) = false := by simpa using k4
  have e5 : (k == 5) = false := by simpa using k5
  have e6 : (k == 6) = false := by simpa using k6
  have e7 : (k == 7) = false := by simpa using k7

  refine ⟨by simp only [cmpV, hl, g1', if_false, if_true, k3, k4, k5, k6, k7, or_self]; omega, by simp only [cmpV, hl, g1', if_false, if_true, k3, k4, k5, k6, k7, or_self]; omega, f106 ?_⟩
  simp (disch := omega) only [go_sem, r106_T, r106, Val.enc, w64, cmpV, hl, g1', if_false, if_true, k3, k4, k5, k6, k7, or_self, r1, r2, r3, g1, e3, e4, e5, e6, e7]

theorem walk_ok : ∀ (x y : Val) (left : Int), x.ok → y.ok → 0 ≤ left → left ≤ 5000 → WalkIs x y left
  | .mk k c s t xs ks, .mk k' c' s' t' ys ks', left, hx, hy, h0, h5 => by
    simp only [Val.ok] at hx hy
    have ih : ∀ x ∈ xs, ∀ y ∈ ys, ∀ left, 0 ≤ left → left ≤ 5000 → WalkIs x y left :=
      fun x hx' y hy' left h0 h5 => walk_ok x y left (oks_mem hx.2.2.2.2.2.2.2 hx') (oks_mem hy.2.2.2.2.2.2.2 hy') h0 h5
    by_cases hl : left - 1 < 0
    · exact walk_low _ _ _ _ _ _ _ _ _ _ _ _ left h0 h5 hl
    · obtain ⟨i1, i2, i3⟩ := items_ok xs ys hx.2.2.2.2.1 ih (left - 1) (by omega) (by omega)
      by_cases hr : sgn (rankOf k) (rankOf k') = 0
      · by_cases k3 : k = 3
        · subst k3; exact walk_3 _ _ _ _ _ _ _ _ _ _ _ left h0 h5 hl hr
        by_cases k4 : k = 4
        · subst k4; exact walk_4 _ _ _ _ _ _ _ _ _ _ _ left h0 h5 hl hr
        by_cases k7 : k = 7
        · subst k7; exact walk_7 _ _ _ _ _ _ _ _ _ _ _ left h0 h5 hl hr
        by_cases k5 : k = 5
        · subst k5; exact walk_5 _ _ _ _ _ _ _ _ _ _ _ left h0 h5 hl hr ⟨i1, i2⟩ i3
        by_cases k6 : k = 6
        · subst k6
          by_cases hk : keysC ks ks' = 0
          · exact walk_6a _ _ _ _ _ _ _ _ _ _ _ left h0 h5 hl hr ⟨i1, i2⟩ i3 hx.2.2.2.2.2.1 hk
          · exact walk_6b _ _ _ _ _ _ _ _ _ _ _ left h0 h5 hl hr hx.2.2.2.2.2.1 hk
        exact walk_no _ _ _ _ _ _ _ _ _ _ _ _ left h0 h5 hl hr k3 k4 k5 k6 k7
      · exact walk_rank _ _ _ _ _ _ _ _ _ _ _ _ left h0 h5 hl hr
end Go.Pe.T

namespace Go.Pe.T
def cmpR (x y : Val) : Int × Bool := if (cmpV x y 4096).2 < 0 then (0, false) else ((cmpV x y 4096).1, true)

theorem enc_as (v : Val) : ∃ k c s t xs ks, v.enc = .agg [iv k, iv c, iv s, .str t, .sl xs, .sl ks] := by
  cases v; exact ⟨_, _, _, _, _, _, rfl⟩

theorem ocmp_ok (x y : Val) (hx : x.ok) (hy : y.ok) (hp : List Ent) : F tab 68 [.d x.enc, .d y.enc] hp = some (.ret (.tup [.d (iv (cmpR x y).1), .d (.bool (cmpR x y).2)]) hp) := by
  obtain ⟨b1, b2, h⟩ := walk_ok x y 4096 hx hy (by omega) (by omega)
  refine f68 rfl ?_
  unfold cmpR
  obtain ⟨k, c, s, t, xs, ks, ex⟩ := enc_as x
  obtain ⟨k', c', s', t', ys, ks', ey⟩ := enc_as y
  rw [ex, ey] at h ⊢
  by_cases hl : (cmpV x y 4096).2 < 0
  · simp (disch := omega) only [go_sem, r68_T, r68, enc_w, enc_a, h, hl]
  · simp (disch := omega) only [go_sem, r68_T, r68, enc_w, enc_a, h, hl]

end Go.Pe.T

namespace Go.Pe.T
theorem sgn_swap (a b : Int) : sgn b a = -sgn a b := by
  unfold sgn; split <;> split <;> (try split) <;> (try split) <;> omega

theorem sgn_zero' {a b : Int} : sgn a b = 0 ↔ a = b := by
  unfold sgn; split
  · omega
  · split <;> omega
theorem rank_inj {k k' : Int} (h : rankOf k = rankOf k') {m : Int} (a : 0 ≤ m) (b : m ≤ 7) : k = m ↔ k' = m := by
  unfold rankOf at h
  split at h <;> split at h <;> (try split at h) <;> (try split at h) <;> omega

theorem mism_swap : ∀ (a b : List UInt8), mism b a = (mism a b).map (fun c => -c)
  | [], [] => rfl
  | [], _ :: _ => rfl
  | _ :: _, [] => rfl
  | x :: a, y :: b => by
    have ih := mism_swap a b
    simp only [mism] at ih ⊢
    by_cases h : x = y
    · subst h
      simp only [if_true]
      exact ih
    · have h' : ¬ y = x := fun e => h e.symm
      simp only [h, h', if_false, Option.map_some, Option.some.injEq]
      exact sgn_swap _ _

theorem txt_swap (a b : ByteArray) : txt b a = -txt a b := by
  unfold txt txtL
  rw [mism_swap]
  cases mism a.data.toList b.data.toList with
  | none => simp only [Option.map_none, Option.getD_none]; exact sgn_swap _ _
  | some c => rfl

theorem keysO_swap : ∀ (a b : List ByteArray), keysO b a = (keysO a b).map (fun c => -c)
  | [], [] => rfl
  | [], _ :: _ => rfl
  | _ :: _, [] => rfl
  | x :: a, y :: b => by
    have ih := keysO_swap a b
    have ht := txt_swap x y
    simp only [keysO] at ih ⊢
    by_cases h : txt x y = 0
    · have h' : txt y x = 0 := by rw [ht, h]; rfl
      simp only [h, h', if_true]
      exact ih
    · have h' : ¬ txt y x = 0 := by rw [ht]; omega
      have h'' : ¬ -txt x y = 0 := by omega
      simp only [h, h', h'', if_false, Option.map_some, ht]

theorem keysC_swap (a b : List ByteArray) : keysC b a = -keysC a b := by
  unfold keysC
  rw [keysO_swap]
  cases keysO a b with
  | none => simp only [Option.map_none, Option.getD_none]; exact sgn_swap _ _
  | some c => rfl

mutual
theorem cmpV_swap : ∀ (x y : Val) (left : Int), cmpV y x left = (-(cmpV x y left).1, (cmpV x y left).2)
  | .mk k c s t xs ks, .mk k' c' s' t' ys ks', left => by
    have ih := cmpVs_swap xs ys (left - 1)
    simp only [cmpV]
    by_cases h1 : left - 1 < 0
    · simp only [h1, if_true]; rfl
    · simp only [h1, if_false]
      have e := sgn_swap (rankOf k) (rankOf k')
      by_cases h2 : sgn (rankOf k) (rankOf k') = 0
      · have h2' : sgn (rankOf k') (rankOf k) = 0 := by rw [e, h2]; rfl
        have hr : rankOf k = rankOf k' := sgn_zero'.1 h2
        simp only [h2, h2', ne_eq, not_true, if_false]
        have q : ∀ m : Int, 0 ≤ m → m ≤ 7 → (k = m ↔ k' = m) := fun m a b => rank_inj hr a b
        by_cases h3 : k = 3
        · have h3' := (q 3 (by omega) (by omega)).1 h3
          simp only [h3, h3', if_true, sgn_swap (flatS c s) (flatS c' s')]
        · have h3' : ¬ k' = 3 := fun g => h3 ((q 3 (by omega) (by omega)).2 g)
          simp only [h3, h3', if_false]
          by_cases h4 : k = 4 ∨ k = 7
          · have h4' : k' = 4 ∨ k' = 7 := h4.elim (fun g => .inl ((q 4 (by omega) (by omega)).1 g)) (fun g => .inr ((q 7 (by omega) (by omega)).1 g))
            simp only [h4, h4', if_true, txt_swap t t']
          · have h4' : ¬ (k' = 4 ∨ k' = 7) := fun g => h4 (g.elim (fun g => .inl ((q 4 (by omega) (by omega)).2 g)) (fun g => .inr ((q 7 (by omega) (by omega)).2 g)))
            simp only [h4, h4', if_false]
            by_cases h5 : k = 5
            · have h5' := (q 5 (by omega) (by omega)).1 h5
              simp only [h5, h5', if_true, ih]
            · have h5' : ¬ k' = 5 := fun g => h5 ((q 5 (by omega) (by omega)).2 g)
              simp only [h5, h5', if_false]
              by_cases h6 : k = 6
              · have h6' := (q 6 (by omega) (by omega)).1 h6
                have ek := keysC_swap ks ks'
                simp only [h6, h6', if_true]
                by_cases h7 : keysC ks ks' = 0
                · have h7' : keysC ks' ks = 0 := by rw [ek, h7]; rfl
                  simp only [h7, h7', ne_eq, not_true, if_false, ih]
                · have h7' : ¬ keysC ks' ks = 0 := by rw [ek]; omega
                  have h7'' : ¬ -keysC ks ks' = 0 := by omega
                  simp only [h7, h7', h7'', ne_eq, not_false_eq_true, if_true, ek]
              · have h6' : ¬ k' = 6 := fun g => h6 ((q 6 (by omega) (by omega)).2 g)
                simp only [h6, h6', if_false]
                rfl
      · have h2' : ¬ sgn (rankOf k') (rankOf k) = 0 := by rw [e]; omega
        have h2'' : ¬ -sgn (rankOf k) (rankOf k') = 0 := by omega
        simp only [h2, h2', h2'', ne_eq, not_false_eq_true, if_true, e]
theorem cmpVs_swap : ∀ (a b : List Val) (left : Int), cmpVs b a left = (-(cmpVs a b left).1, (cmpVs a b left).2)
  | [], [], left => by simp [cmpVs, sgn]
  | [], _ :: b, left => by simp only [cmpVs]; rw [sgn_swap]
  | _ :: a, [], left => by simp only [cmpVs]; rw [sgn_swap]
  | x :: a, y :: b, left => by
    have i1 := cmpV_swap x y left
    have i2 := cmpVs_swap a b (cmpV x y left).2
    simp only [cmpVs, i1]
    by_cases h : (cmpV x y left).1 ≠ 0 ∨ (cmpV x y left).2 < 0
    · have h' : -(cmpV x y left).1 ≠ 0 ∨ (cmpV x y left).2 < 0 := h.elim (fun g => .inl (by omega)) .inr
      simp only [h, h', if_true]
    · have h' : ¬ (-(cmpV x y left).1 ≠ 0 ∨ (cmpV x y left).2 < 0) := fun g => h (g.elim (fun g => .inl (by omega)) .inr)
      simp only [h, h', if_false, i2]
end

end Go.Pe.T

namespace Go.Pe.T
def samK : List ByteArray → List ByteArray → Bool
  | k :: r, k' :: r' => (k.toList == k'.toList) && samK r r'
  | _, _ => true
mutual
def samV : Val → Val → Bool
  | .mk k c s t xs ks, .mk k' c' s' t' ys ks' => (k == k') && ((c == c' && s == s') && ((t.toList == t'.toList) && (decide (xs.length = ys.length) && (decide (ks.length = ks'.length) && (samK ks ks' && samVs xs ys)))))
def samVs : List Val → List Val → Bool
  | x :: r, y :: r' => samV x y && samVs r r'
  | _, _ => true
end
theorem samK_refl : ∀ (l : List ByteArray), samK l l = true
  | [] => rfl
  | k :: r => by simp [samK, samK_refl r]
mutual
theorem samV_refl : ∀ (x : Val), samV x x = true
  | .mk k c s t xs ks => by simp [samV, samK_refl, samVs_refl xs]
theorem samVs_refl : ∀ (l : List Val), samVs l l = true
  | [] => rfl
  | x :: r => by simp [samVs, samV_refl x, samVs_refl r]
end

section
variable (k c s : Int) (t : ByteArray) (xs : List Val) (ks : List ByteArray) (k' c' s' : Int) (t' : ByteArray) (ys : List Val) (ks' : List ByteArray)

end

end Go.Pe.T
