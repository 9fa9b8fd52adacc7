/- A part of the proof of: The number of any text of at most 300 bytes, or why there is none, is the document's: digits, a point, a power, of any length. -/
import Derived.Test.YtjfdbgoajjhafaaDoorNp4
set_option linter.unusedSimpArgs false
set_option linter.unusedVariables false
set_option maxRecDepth 10000

namespace Go.Pe.T
/-! digits behind the point, and ahead of it -/
def FrIs (L : List UInt8) (neg : Bool) (R : List UInt8) (i sc : Nat) (D : List Int) : Prop :=
  V (F tab) r25_B1 (r25_S1 (.d (.str (bt L))) (.ibox [.d (iv 0), .d (iv 0)]) (.ibox [.d (.bool neg), .nilsl]) (.d (iv i)) (.d (iv sc)) (.own 3 (D.map iv)) []) =
    some (.norm, r25_E1 (.d (.str (bt L))) (.ibox [.d (iv 0), .d (iv 0)]) (.ibox [.d (.bool neg), .nilsl]) (.d (iv ((i + (R.takeWhile isDg).length : Nat) : Int))) (.d (iv ((sc + (R.takeWhile isDg).length : Nat) : Int))) (.own 3 ((D ++ (R.takeWhile isDg).map dgI).map iv)) [])
theorem fr_nil (L : List UInt8) (neg : Bool) (sc : Nat) (D : List Int) : FrIs L neg [] L.length sc D := by
  have h1 : ((L.length : Int) < (L.length : Int)) = False := eq_false (by omega)
  have hz := bt_size L
  unfold FrIs
  rw [List.takeWhile_nil, List.length_nil, List.map_nil, List.append_nil, Nat.add_zero, Nat.add_zero, r25_B1_eq]
  simp (disch := omega) only [go_sem, and_self, and_true, true_and, false_and, and_false, Nat.reduceAdd, Nat.reduceMul, Nat.reduceSub, Nat.reduceLeDiff, Nat.reduceLT, Nat.reduceGT, Nat.reduceEqDiff, Nat.reduceBEq, Int.reduceNeg, Int.reduceEq, Int.reduceLT, Int.reduceLE, Int.reduceBEq, Int.reduceToNat, Int.toNat_natCast, Int.natCast_zero, r25_C1, hz, h1]
set_option maxHeartbeats 1000000 in
theorem fr_step (L : List UInt8) (hL : L.length ≤ 1000) (neg : Bool) (D : List Int) (hD : D.length ≤ 1000) (c : UInt8) (r : List UInt8) (i sc : Nat) (hi : i < L.length) (hg : (bt L)[i]? = some c) (hk : sc ≤ 1000)
    (ih : isDg c = true → FrIs L neg r (i + 1) (sc + 1) (D ++ [dgI c])) : FrIs L neg (c :: r) i sc D := by
  have h1 : ((i : Int) < (L.length : Int)) = True := eq_true (by omega)
  have i0 : (0 ≤ (i : Int)) = True := eq_true (by omega)
  have hz := bt_size L
  have e1 : (i : Int) + 1 = ((i + 1 : Nat) : Int) := rfl
  have e2 : (sc : Int) + 1 = ((sc + 1 : Nat) : Int) := rfl
  have h9 : ((D.length + 1) * 8 ≤ maxRow) = True := eq_true (by unfold maxRow; omega)
  unfold FrIs at ih ⊢
  rw [List.takeWhile_cons]
  by_cases g1 : 48 ≤ c.toNat
  · have k1 : ((c.toNat : Int) ≥ 48) = True := eq_true (by omega)
    by_cases g2 : c.toNat ≤ 57
    · have k2 : ((c.toNat : Int) ≤ 57) = True := eq_true (by omega)
      have hdg := isDg_iff.2 ⟨g1, g2⟩
      have ih' := ih hdg
      have e3 : D ++ (c :: r.takeWhile isDg).map dgI = D ++ [dgI c] ++ (r.takeWhile isDg).map dgI := by simp
      rw [hdg, if_pos rfl, List.length_cons, e3, show i + ((r.takeWhile isDg).length + 1) = i + 1 + (r.takeWhile isDg).length by omega, show sc + ((r.takeWhile isDg).length + 1) = sc + 1 + (r.takeWhile isDg).length by omega]
      generalize (D ++ [dgI c] ++ (r.takeWhile isDg).map dgI).map iv = W at *
      simp only [List.map_append, List.map_cons, List.map_nil, dgI] at ih'
      rw [r25_B1_eq]
      simp (disch := omega) only [go_sem, and_self, and_true, true_and, false_and, and_false, Nat.reduceAdd, Nat.reduceMul, Nat.reduceSub, Nat.reduceLeDiff, Nat.reduceLT, Nat.reduceGT, Nat.reduceEqDiff, Nat.reduceBEq, Int.reduceNeg, Int.reduceEq, Int.reduceLT, Int.reduceLE, Int.reduceBEq, Int.reduceToNat, Int.toNat_natCast, Int.natCast_zero, r25_C1, r25_K1, hz, h1, i0, hg, k1, k2, e1, e2, h9, List.length_map, w64]
      exact ih'
    · have k2 : ((c.toNat : Int) ≤ 57) = False := eq_false (by omega)
      have hn : isDg c = false := by simp [isDg, g2]
      rw [hn, if_neg (by simp), List.length_nil, List.map_nil, List.append_nil, Nat.add_zero, Nat.add_zero, r25_B1_eq]
      simp (disch := omega) only [go_sem, and_self, and_true, true_and, false_and, and_false, Nat.reduceAdd, Nat.reduceMul, Nat.reduceSub, Nat.reduceLeDiff, Nat.reduceLT, Nat.reduceGT, Nat.reduceEqDiff, Nat.reduceBEq, Int.reduceNeg, Int.reduceEq, Int.reduceLT, Int.reduceLE, Int.reduceBEq, Int.reduceToNat, Int.toNat_natCast, Int.natCast_zero, r25_C1, hz, h1, i0, hg, k1, k2]
  · have k1 : ((c.toNat : Int) ≥ 48) = False := eq_false (by omega)
    have hn : isDg c = false := by simp [isDg, g1]
    rw [hn, if_neg (by simp), List.length_nil, List.map_nil, List.append_nil, Nat.add_zero, Nat.add_zero, r25_B1_eq]
    simp (disch := omega) only [go_sem, and_self, and_true, true_and, false_and, and_false, Nat.reduceAdd, Nat.reduceMul, Nat.reduceSub, Nat.reduceLeDiff, Nat.reduceLT, Nat.reduceGT, Nat.reduceEqDiff, Nat.reduceBEq, Int.reduceNeg, Int.reduceEq, Int.reduceLT, Int.reduceLE, Int.reduceBEq, Int.reduceToNat, Int.toNat_natCast, Int.natCast_zero, r25_C1, hz, h1, i0, hg, k1]
theorem fr_loop (L : List UInt8) (hL : L.length ≤ 300) (neg : Bool) : ∀ (R : List UInt8) (i sc : Nat) (D : List Int), L.drop i = R → i ≤ L.length → sc + R.length ≤ 1000 → D.length + R.length ≤ 1000 → FrIs L neg R i sc D
  | [], i, sc, D, h, hi, hk, hD => by
    obtain rfl := drop_nil' h hi
    exact fr_nil L neg sc D
  | c :: r, i, sc, D, h, hi, hk, hD => by
    obtain ⟨h1, h2, h3⟩ := drop_cons' h
    simp only [List.length_cons] at hk hD
    exact fr_step L (by omega) neg D (by omega) c r i sc h1 h2 (by omega) fun _ => fr_loop L hL neg r (i + 1) (sc + 1) _ h3 (by omega) (by omega) (by simp; omega)

def WhIs (L : List UInt8) (neg : Bool) (R : List UInt8) (i w fr : Nat) (D : List Int) : Prop :=
  V (F tab) r25_B0 (r25_S0 (.d (.str (bt L))) (.ibox [.d (iv 0), .d (iv 0)]) (.ibox [.d (.bool neg), .nilsl]) (.d (iv i)) (.d (iv 0)) (.d (iv w)) (.d (iv fr)) (.own 3 (D.map iv)) []) =
    some (.norm, r25_E0 (.d (.str (bt L))) (.ibox [.d (iv 0), .d (iv 0)]) (.ibox [.d (.bool neg), .nilsl]) (.d (iv ((i + (R.takeWhile isDg).length : Nat) : Int))) (.d (iv 0)) (.d (iv ((w + (R.takeWhile isDg).length : Nat) : Int))) (.d (iv fr)) (.own 3 ((D ++ (R.takeWhile isDg).map dgI).map iv)) [])
theorem wh_nil (L : List UInt8) (neg : Bool) (w fr : Nat) (D : List Int) : WhIs L neg [] L.length w fr D := by
  have h1 : ((L.length : Int) < (L.length : Int)) = False := eq_false (by omega)
  have hz := bt_size L
  unfold WhIs
  rw [List.takeWhile_nil, List.length_nil, List.map_nil, List.append_nil, Nat.add_zero, Nat.add_zero, r25_B0_eq]
  simp (disch := omega) only [go_sem, and_self, and_true, true_and, false_and, and_false, Nat.reduceAdd, Nat.reduceMul, Nat.reduceSub, Nat.reduceLeDiff, Nat.reduceLT, Nat.reduceGT, Nat.reduceEqDiff, Nat.reduceBEq, Int.reduceNeg, Int.reduceEq, Int.reduceLT, Int.reduceLE, Int.reduceBEq, Int.reduceToNat, Int.toNat_natCast, Int.natCast_zero, r25_C0, hz, h1]
set_option maxHeartbeats 1000000 in
theorem wh_step (L : List UInt8) (hL : L.length ≤ 1000) (neg : Bool) (D : List Int) (hD : D.length ≤ 1000) (c : UInt8) (r : List UInt8) (i w fr : Nat) (hi : i < L.length) (hg : (bt L)[i]? = some c) (hk : w ≤ 1000)
    (ih : isDg c = true → WhIs L neg r (i + 1) (w + 1) fr (D ++ [dgI c])) : WhIs L neg (c :: r) i w fr D := by
  have h1 : ((i : Int) < (L.length : Int)) = True := eq_true (by omega)
  have i0 : (0 ≤ (i : Int)) = True := eq_true (by omega)
  have hz := bt_size L
  have e1 : (i : Int) + 1 = ((i + 1 : Nat) : Int) := rfl
  have e2 : (w : Int) + 1 = ((w + 1 : Nat) : Int) := rfl
  have h9 : ((D.length + 1) * 8 ≤ maxRow) = True := eq_true (by unfold maxRow; omega)
  unfold WhIs at ih ⊢
  rw [List.takeWhile_cons]
  by_cases g1 : 48 ≤ c.toNat
  · have k1 : ((c.toNat : Int) ≥ 48) = True := eq_true (by omega)
    by_cases g2 : c.toNat ≤ 57
    · have k2 : ((c.toNat : Int) ≤ 57) = True := eq_true (by omega)
      have hdg := isDg_iff.2 ⟨g1, g2⟩
      have ih' := ih hdg
      have e3 : D ++ (c :: r.takeWhile isDg).map dgI = D ++ [dgI c] ++ (r.takeWhile isDg).map dgI := by simp
      rw [hdg, if_pos rfl, List.length_cons, e3, show i + ((r.takeWhile isDg).length + 1) = i + 1 + (r.takeWhile isDg).length by omega, show w + ((r.takeWhile isDg).length + 1) = w + 1 + (r.takeWhile isDg).length by omega]
      generalize (D ++ [dgI c] ++ (r.takeWhile isDg).map dgI).map iv = W at *
      simp only [List.map_append, List.map_cons, List.map_nil, dgI] at ih'
      rw [r25_B0_eq]
      simp (disch := omega) only [go_sem, and_self, and_true, true_and, false_and, and_false, Nat.reduceAdd, Nat.reduceMul, Nat.reduceSub, Nat.reduceLeDiff, Nat.reduceLT, Nat.reduceGT, Nat.reduceEqDiff, Nat.reduceBEq, Int.reduceNeg, Int.reduceEq, Int.reduceLT, Int.reduceLE, Int.reduceBEq, Int.reduceToNat, Int.toNat_natCast, Int.natCast_zero, r25_C0, r25_K0, hz, h1, i0, hg, k1, k2, e1, e2, h9, List.length_map, w64]
      exact ih'
    · have k2 : ((c.toNat : Int) ≤ 57) = False := eq_false (by omega)
      have hn : isDg c = false := by simp [isDg, g2]
      rw [hn, if_neg (by simp), List.length_nil, List.map_nil, List.append_nil, Nat.add_zero, Nat.add_zero, r25_B0_eq]
      simp (disch := omega) only [go_sem, and_self, and_true, true_and, false_and, and_false, Nat.reduceAdd, Nat.reduceMul, Nat.reduceSub, Nat.reduceLeDiff, Nat.reduceLT, Nat.reduceGT, Nat.reduceEqDiff, Nat.reduceBEq, Int.reduceNeg, Int.reduceEq, Int.reduceLT, Int.reduceLE, Int.reduceBEq, Int.reduceToNat, Int.toNat_natCast, Int.natCast_zero, r25_C0, hz, h1, i0, hg, k1, k2]
  · have k1 : ((c.toNat : Int) ≥ 48) = False := eq_false (by omega)
    have hn : isDg c = false := by simp [isDg, g1]
    rw [hn, if_neg (by simp), List.length_nil, List.map_nil, List.append_nil, Nat.add_zero, Nat.add_zero, r25_B0_eq]
    simp (disch := omega) only [go_sem, and_self, and_true, true_and, false_and, and_false, Nat.reduceAdd, Nat.reduceMul, Nat.reduceSub, Nat.reduceLeDiff, Nat.reduceLT, Nat.reduceGT, Nat.reduceEqDiff, Nat.reduceBEq, Int.reduceNeg, Int.reduceEq, Int.reduceLT, Int.reduceLE, Int.reduceBEq, Int.reduceToNat, Int.toNat_natCast, Int.natCast_zero, r25_C0, hz, h1, i0, hg, k1]
theorem wh_loop (L : List UInt8) (hL : L.length ≤ 300) (neg : Bool) (fr : Nat) : ∀ (R : List UInt8) (i w : Nat) (D : List Int), L.drop i = R → i ≤ L.length → w + R.length ≤ 1000 → D.length + R.length ≤ 1000 → WhIs L neg R i w fr D
  | [], i, w, D, h, hi, hk, hD => by
    obtain rfl := drop_nil' h hi
    exact wh_nil L neg w fr D
  | c :: r, i, w, D, h, hi, hk, hD => by
    obtain ⟨h1, h2, h3⟩ := drop_cons' h
    simp only [List.length_cons] at hk hD
    exact wh_step L (by omega) neg D (by omega) c r i w fr h1 h2 (by omega) fun _ => wh_loop L hL neg fr r (i + 1) (w + 1) _ h3 (by omega) (by omega) (by simp; omega)

def fracR (neg : Bool) (A : List Int) : List UInt8 → Int × Int × Int
  | [] => finR neg A 0 []
  | c :: r => if c.toNat = 46 then (if (r.takeWhile isDg).isEmpty then (0, 0, 3) else finR neg (A ++ (r.takeWhile isDg).map dgI) ((r.takeWhile isDg).length : Int) (r.dropWhile isDg)) else finR neg A 0 (c :: r)
theorem map_digs {l : List UInt8} (h : DgL l) : Digs (l.map dgI) := fun d hd => by
  obtain ⟨b, hb, rfl⟩ := List.mem_map.1 hd
  have := isDg_iff.1 (h b hb)
  unfold digit dgI
  omega
set_option maxHeartbeats 1000000 in
theorem rp_k17 (L : List UInt8) (hL : L.length ≤ 300) (neg : Bool) (A : List UInt8) (hA : DgL A) (hne : A ≠ []) (R : List UInt8) (i : Nat) (h : L.drop i = R) (hi : i ≤ L.length) (hAi : A.length ≤ i) :
    V (F tab) (r25_K17 ()) (r25_J17 (.d (.str (bt L))) (.ibox [.d (iv 0), .d (iv 0)]) (.ibox [.d (.bool neg), .nilsl]) (.d (iv i)) (.d (iv 0)) (.own 3 ((A.map dgI).map iv)) []) = some (.ret, PR (fracR neg (A.map dgI) R)) := by
  have hz := bt_size L
  have hA2 : A.map dgI ≠ [] := by simpa using hne
  cases R with
  | nil =>
    have hf := rp_k16 L hL neg (A.map dgI) (map_digs hA) hA2 (by rw [List.length_map]; omega) 0 (by omega) [] i h hi
    obtain rfl := drop_nil' h hi
    have k1 : ((L.length : Int) < (L.length : Int)) = False := eq_false (by omega)
    simp (disch := omega) only [go_sem, and_self, and_true, true_and, false_and, and_false, Nat.reduceAdd, Nat.reduceMul, Nat.reduceSub, Nat.reduceLeDiff, Nat.reduceLT, Nat.reduceGT, Nat.reduceEqDiff, Nat.reduceBEq, Int.reduceNeg, Int.reduceEq, Int.reduceLT, Int.reduceLE, Int.reduceBEq, Int.reduceToNat, Int.toNat_natCast, Int.natCast_zero, r25_K17, hz, k1, fracR]
    exact hf
  | cons c r =>
    obtain ⟨hi2, hg, hr⟩ := drop_cons' h
    have k1 : ((i : Int) < (L.length : Int)) = True := eq_true (by omega)
    have i0 : (0 ≤ (i : Int)) = True := eq_true (by omega)
    have e1 : (i : Int) + 1 = ((i + 1 : Nat) : Int) := rfl
    rw [fracR]
    by_cases h46 : c.toNat = 46
    · have q1 : ((c.toNat : Int) == 46) = true := by simp; omega
      have hrl : r.length ≤ 300 := by rw [← hr, List.length_drop]; omega
      have hl := fr_loop L hL neg r (i + 1) 0 (A.map dgI) hr (by omega) (by omega) (by rw [List.length_map]; omega)
      have hsum := congrArg List.length (List.takeWhile_append_dropWhile (p := isDg) (l := r))
      rw [List.length_append] at hsum
      have hrl2 : r.length = L.length - (i + 1) := by rw [← hr, List.length_drop]
      have hdr := drop_tw hr
      have htd := tw_dgl r
      unfold FrIs at hl
      have z : ((0 : Nat) : Int) = 0 := rfl
      rw [z, Nat.zero_add] at hl
      rw [if_pos h46]
      generalize r.takeWhile isDg = B at *
      generalize r.dropWhile isDg = Q at *
      have hf := fun hs => rp_k16 L hL neg (A.map dgI ++ B.map dgI) (fun d hd => (List.mem_append.1 hd).elim (map_digs hA d) (map_digs htd d)) (by simp [hne]) (by simp; omega) (B.length : Int) hs Q (i + 1 + B.length) hdr (by omega)
      have hf2 := hf (by omega)
      generalize A.map dgI ++ B.map dgI = W at *
      simp (disch := omega) only [go_sem, and_self, and_true, true_and, false_and, and_false, Nat.reduceAdd, Nat.reduceMul, Nat.reduceSub, Nat.reduceLeDiff, Nat.reduceLT, Nat.reduceGT, Nat.reduceEqDiff, Nat.reduceBEq, Int.reduceNeg, Int.reduceEq, Int.reduceLT, Int.reduceLE, Int.reduceBEq, Int.reduceToNat, Int.toNat_natCast, Int.natCast_zero, r25_K17, hz, k1, i0, hg, q1, e1, w64]
      rw [r25_B1_n]
      erw [hl]
      cases B with
      | nil =>
        have k : (((0 : Nat) : Int) == 0) = true := rfl
        have k3 : ((0 : Int) == 0) = true := rfl
        simp (disch := omega) only [go_sem, and_self, and_true, true_and, false_and, and_false, Nat.reduceAdd, Nat.reduceMul, Nat.reduceSub, Nat.reduceLeDiff, Nat.reduceLT, Nat.reduceGT, Nat.reduceEqDiff, Nat.reduceBEq, Int.reduceNeg, Int.reduceEq, Int.reduceLT, Int.reduceLE, Int.reduceBEq, Int.reduceToNat, Int.toNat_natCast, Int.natCast_zero, List.length_nil, List.isEmpty_nil, k, k3]
      | cons b t =>
        have k : (((t.length + 1 : Nat) : Int) == 0) = false := by simp; omega
        simp (disch := omega) only [go_sem, and_self, and_true, true_and, false_and, and_false, Nat.reduceAdd, Nat.reduceMul, Nat.reduceSub, Nat.reduceLeDiff, Nat.reduceLT, Nat.reduceGT, Nat.reduceEqDiff, Nat.reduceBEq, Int.reduceNeg, Int.reduceEq, Int.reduceLT, Int.reduceLE, Int.reduceBEq, Int.reduceToNat, Int.toNat_natCast, Int.natCast_zero, List.length_cons, List.isEmpty_cons, k]
        exact hf2
    · have q1 : ((c.toNat : Int) == 46) = false := by simp; omega
      have hf := rp_k16 L hL neg (A.map dgI) (map_digs hA) hA2 (by rw [List.length_map]; omega) 0 (by omega) (c :: r) i h hi
      rw [if_neg h46]
      simp (disch := omega) only [go_sem, and_self, and_true, true_and, false_and, and_false, Nat.reduceAdd, Nat.reduceMul, Nat.reduceSub, Nat.reduceLeDiff, Nat.reduceLT, Nat.reduceGT, Nat.reduceEqDiff, Nat.reduceBEq, Int.reduceNeg, Int.reduceEq, Int.reduceLT, Int.reduceLE, Int.reduceBEq, Int.reduceToNat, Int.toNat_natCast, Int.natCast_zero, r25_K17, hz, k1, i0, hg, q1]
      exact hf

def refP (neg : Bool) (T : List UInt8) : Int × Int × Int := if lead0 (T.takeWhile isDg) then (0, 0, 3) else fracR neg ((T.takeWhile isDg).map dgI) (T.dropWhile isDg)
set_option maxHeartbeats 1000000 in
theorem rp_k19 (L : List UInt8) (hL : L.length ≤ 300) (neg : Bool) (T : List UInt8) (i : Nat) (h : L.drop i = T) (hi : i ≤ L.length) :
    V (F tab) (r25_K19 ()) (r25_J19 (.d (.str (bt L))) (.ibox [.d (iv 0), .d (iv 0)]) (.ibox [.d (.bool neg), .nilsl]) (.d (iv i)) (.d (iv 0)) (.d (iv 0)) []) = some (.ret, PR (refP neg T)) := by
  have hz := bt_size L
  have hTl : T.length = L.length - i := by rw [← h, List.length_drop]
  have hl := wh_loop L hL neg i T i 0 [] h hi (by omega) (by simp; omega)
  have hsum := congrArg List.length (List.takeWhile_append_dropWhile (p := isDg) (l := T))
  rw [List.length_append] at hsum
  have hdr := drop_tw h
  have htd := tw_dgl T
  have hap := List.takeWhile_append_dropWhile (p := isDg) (l := T)
  unfold WhIs at hl
  have z : ((0 : Nat) : Int) = 0 := rfl
  rw [z, Nat.zero_add, List.nil_append] at hl
  unfold refP
  generalize T.takeWhile isDg = A at *
  generalize T.dropWhile isDg = Q at *
  simp (disch := omega) only [go_sem, and_self, and_true, true_and, false_and, and_false, Nat.reduceAdd, Nat.reduceMul, Nat.reduceSub, Nat.reduceLeDiff, Nat.reduceLT, Nat.reduceGT, Nat.reduceEqDiff, Nat.reduceBEq, Int.reduceNeg, Int.reduceEq, Int.reduceLT, Int.reduceLE, Int.reduceBEq, Int.reduceToNat, Int.toNat_natCast, Int.natCast_zero, r25_K19]
  rw [r25_B0_n, r25_B0_z9]
  erw [hl]
  have i0 : (0 ≤ (i : Int)) = True := eq_true (by omega)
  cases A with
  | nil =>
    have k : (((0 : Nat) : Int) == 0) = true := rfl
    have k3 : ((0 : Int) == 0) = true := rfl
    rw [show lead0 [] = true from rfl, if_pos rfl]
    simp (disch := omega) only [go_sem, and_self, and_true, true_and, false_and, and_false, Nat.reduceAdd, Nat.reduceMul, Nat.reduceSub, Nat.reduceLeDiff, Nat.reduceLT, Nat.reduceGT, Nat.reduceEqDiff, Nat.reduceBEq, Int.reduceNeg, Int.reduceEq, Int.reduceLT, Int.reduceLE, Int.reduceBEq, Int.reduceToNat, Int.toNat_natCast, Int.natCast_zero, r25_K18, List.length_nil, k, k3]
  | cons c t =>
    simp only [List.length_cons] at hsum hdr
    have hf := rp_k17 L hL neg (c :: t) htd (by simp) Q (i + (t.length + 1)) hdr (by omega) (by simp only [List.length_cons]; omega)
    have hg : (bt L)[i]? = some c := by
      rw [← hap, List.cons_append] at h
      exact (drop_cons' h).2.1
    have k : (((t.length + 1 : Nat) : Int) == 0) = false := by simp; omega
    by_cases h1 : t = []
    · have k1 : (((t.length + 1 : Nat) : Int) > 1) = False := eq_false (by subst h1; simp)
      have e : lead0 (c :: t) = false := by subst h1; rfl
      rw [e, if_neg (by simp)]
      simp (disch := omega) only [go_sem, and_self, and_true, true_and, false_and, and_false, Nat.reduceAdd, Nat.reduceMul, Nat.reduceSub, Nat.reduceLeDiff, Nat.reduceLT, Nat.reduceGT, Nat.reduceEqDiff, Nat.reduceBEq, Int.reduceNeg, Int.reduceEq, Int.reduceLT, Int.reduceLE, Int.reduceBEq, Int.reduceToNat, Int.toNat_natCast, Int.natCast_zero, r25_K18, List.length_cons, k, k1]
      exact hf
    · have hlt : 0 < t.length := List.length_pos_iff.2 h1
      have k1 : (((t.length + 1 : Nat) : Int) > 1) = True := eq_true (by omega)
      by_cases h2 : c.toNat = 48
      · have k2 : ((c.toNat : Int) == 48) = true := by simp; omega
        have e : lead0 (c :: t) = true := by simp [lead0, h2]; omega
        rw [e, if_pos rfl]
        simp (disch := omega) only [go_sem, and_self, and_true, true_and, false_and, and_false, Nat.reduceAdd, Nat.reduceMul, Nat.reduceSub, Nat.reduceLeDiff, Nat.reduceLT, Nat.reduceGT, Nat.reduceEqDiff, Nat.reduceBEq, Int.reduceNeg, Int.reduceEq, Int.reduceLT, Int.reduceLE, Int.reduceBEq, Int.reduceToNat, Int.toNat_natCast, Int.natCast_zero, r25_K18, List.length_cons, k, k1, i0, hg, k2]
      · have k2 : ((c.toNat : Int) == 48) = false := by simp; omega
        have e : lead0 (c :: t) = false := by simp [lead0, h2]
        rw [e, if_neg (by simp)]
        simp (disch := omega) only [go_sem, and_self, and_true, true_and, false_and, and_false, Nat.reduceAdd, Nat.reduceMul, Nat.reduceSub, Nat.reduceLeDiff, Nat.reduceLT, Nat.reduceGT, Nat.reduceEqDiff, Nat.reduceBEq, Int.reduceNeg, Int.reduceEq, Int.reduceLT, Int.reduceLE, Int.reduceBEq, Int.reduceToNat, Int.toNat_natCast, Int.natCast_zero, r25_K18, List.length_cons, k, k1, i0, hg, k2]
        exact hf
set_option maxHeartbeats 1000000 in
theorem rparse_ok (L : List UInt8) (hL : L.length ≤ 300) (hp : List Ent) : F tab 25 [.d (.str (bt L))] hp = some (.ret (tupC (refP (isNeg L) (absT L))) hp) := by
  have hz := bt_size L
  refine f25 rfl ?_
  cases L with
  | nil =>
    have hf := rp_k19 [] (by simp) false [] 0 rfl (by simp)
    have k1 : ((0 : Int) < ((0 : Nat) : Int)) = False := eq_false (by omega)
    have k2 : ((0 : Int) < (0 : Int)) = False := eq_false (by omega)
    have z : ((0 : Nat) : Int) = 0 := rfl
    rw [z] at hf
    rw [show isNeg [] = false from rfl, show absT [] = [] from rfl]
    generalize refP false [] = p at *
    obtain ⟨a, b, e⟩ := p
    simp (disch := omega) only [go_sem, and_self, and_true, true_and, false_and, and_false, Nat.reduceAdd, Nat.reduceMul, Nat.reduceSub, Nat.reduceLeDiff, Nat.reduceLT, Nat.reduceGT, Nat.reduceEqDiff, Nat.reduceBEq, Int.reduceNeg, Int.reduceEq, Int.reduceLT, Int.reduceLE, Int.reduceBEq, Int.reduceToNat, Int.toNat_natCast, Int.natCast_zero, r25_T, r25, hz, k1, k2, List.length_nil]
    erw [hf]
    simp (disch := omega) only [go_sem, and_self, and_true, true_and, false_and, and_false, Nat.reduceAdd, Nat.reduceMul, Nat.reduceSub, Nat.reduceLeDiff, Nat.reduceLT, Nat.reduceGT, Nat.reduceEqDiff, Nat.reduceBEq, Int.reduceNeg, Int.reduceEq, Int.reduceLT, Int.reduceLE, Int.reduceBEq, Int.reduceToNat, Int.toNat_natCast, Int.natCast_zero, tupC]
  | cons c r =>
    have k1 : ((0 : Int) < ((r.length + 1 : Nat) : Int)) = True := eq_true (by omega)
    have i0 : (0 ≤ (0 : Int)) = True := eq_true (by omega)
    have hg := bt_zero c r
    rw [List.length_cons] at hz
    have e45 : ((c.toNat : Int) == 45) = (c.toNat == 45) := by
      rw [Bool.eq_iff_iff]; simp; omega
    rcases Bool.eq_false_or_eq_true (c.toNat == 45) with g | g
    · have hf := rp_k19 (c :: r) hL true r 1 rfl (by simp)
      rw [g] at e45
      rw [show isNeg (c :: r) = true from g, absT, g, if_pos rfl]
      generalize refP true r = p at *
      obtain ⟨a, b, e⟩ := p
      have z : ((1 : Nat) : Int) = 1 := rfl
      rw [z] at hf
      simp (disch := omega) only [go_sem, and_self, and_true, true_and, false_and, and_false, Nat.reduceAdd, Nat.reduceMul, Nat.reduceSub, Nat.reduceLeDiff, Nat.reduceLT, Nat.reduceGT, Nat.reduceEqDiff, Nat.reduceBEq, Int.reduceNeg, Int.reduceEq, Int.reduceLT, Int.reduceLE, Int.reduceBEq, Int.reduceToNat, Int.toNat_natCast, Int.natCast_zero, r25_T, r25, hz, k1, i0, hg, e45, w64]
      erw [hf]
      simp (disch := omega) only [go_sem, and_self, and_true, true_and, false_and, and_false, Nat.reduceAdd, Nat.reduceMul, Nat.reduceSub, Nat.reduceLeDiff, Nat.reduceLT, Nat.reduceGT, Nat.reduceEqDiff, Nat.reduceBEq, Int.reduceNeg, Int.reduceEq, Int.reduceLT, Int.reduceLE, Int.reduceBEq, Int.reduceToNat, Int.toNat_natCast, Int.natCast_zero, tupC]
    · have hf := rp_k19 (c :: r) hL false (c :: r) 0 rfl (by simp)
      rw [g] at e45
      rw [show isNeg (c :: r) = false from g, absT, g, if_neg (by simp)]
      generalize refP false (c :: r) = p at *
      obtain ⟨a, b, e⟩ := p
      have z : ((0 : Nat) : Int) = 0 := rfl
      rw [z] at hf
      simp (disch := omega) only [go_sem, and_self, and_true, true_and, false_and, and_false, Nat.reduceAdd, Nat.reduceMul, Nat.reduceSub, Nat.reduceLeDiff, Nat.reduceLT, Nat.reduceGT, Nat.reduceEqDiff, Nat.reduceBEq, Int.reduceNeg, Int.reduceEq, Int.reduceLT, Int.reduceLE, Int.reduceBEq, Int.reduceToNat, Int.toNat_natCast, Int.natCast_zero, r25_T, r25, hz, k1, i0, hg, e45, w64]
      erw [hf]
      simp (disch := omega) only [go_sem, and_self, and_true, true_and, false_and, and_false, Nat.reduceAdd, Nat.reduceMul, Nat.reduceSub, Nat.reduceLeDiff, Nat.reduceLT, Nat.reduceGT, Nat.reduceEqDiff, Nat.reduceBEq, Int.reduceNeg, Int.reduceEq, Int.reduceLT, Int.reduceLE, Int.reduceBEq, Int.reduceToNat, Int.toNat_natCast, Int.natCast_zero, tupC]
end Go.Pe.T

namespace Go.Pe.T
/-! ### both parses answer alike -/
theorem pow_rel : ∀ (t : List UInt8) (n m : Nat), DgL t → (n = m ∨ (100000 ≤ n ∧ 100000 ≤ m)) → refN t n = capN t m ∨ (100000 ≤ refN t n ∧ 100000 ≤ capN t m)
  | [], n, m, _, h => h
  | b :: r, n, m, hd, h => by
    have hb := isDg_iff.1 (hd b (by simp))
    have hr : DgL r := fun x hx => hd x (by simp [hx])
    rw [refN, capN]
    refine pow_rel r _ _ hr ?_
    by_cases hn : n < 100000
    · rw [if_pos hn]
      rcases h with rfl | h
      · left
        rw [Nat.min_eq_left (by omega)]
      · omega
    · rw [if_neg hn]
      right
      refine ⟨by omega, ?_⟩
      have : 100000 ≤ m := by rcases h with h | h <;> omega
      exact Nat.le_min.2 ⟨by omega, by omega⟩
theorem pow_same (l : List Int) (hd : Digs l) (hl : l.length ≤ 300) (b s : Int) (hb : 0 ≤ b ∧ b ≤ 300) (hs : s = 1 ∨ s = -1) (t : List UInt8) (ht : DgL t) :
    heldC (val l) (b - s * ((refN t 0 : Nat) : Int)) = heldC (val l) (b - s * ((capN t 0 : Nat) : Int)) := by
  rcases pow_rel t 0 0 ht (.inl rfl) with h | ⟨h1, h2⟩
  · rw [h]
  · obtain ⟨v1, v2⟩ := val_bound hd
    by_cases hv : val l = 0
    · rw [hv, heldC_zero, heldC_zero]
    · rcases hs with rfl | rfl
      · rw [heldC_low (by omega) (by omega), heldC_low (by omega) (by omega)]
      · rw [heldC_high (n := l.length) (by omega) v2 (by omega), heldC_high (n := l.length) (by omega) v2 (by omega)]
def ansP (neg : Bool) (p : List UInt8 × List UInt8 × Int × Bool) : Int × Int × Int :=
  if p.2.2.2 then sgC neg (heldC (val (lowD (p.1 ++ p.2.1))) ((p.2.1.length : Int) - p.2.2.1)) else (0, 0, 3)
theorem fin_same (neg : Bool) (A B R : List UInt8) (hA : DgL A) (hB : DgL B) (hl : (A ++ B).length ≤ 300) : finR neg ((A ++ B).map dgI) (B.length : Int) R = ansP neg (finP A B R) := by
  have hrev : ((A ++ B).map dgI).reverse = lowD (A ++ B) := by simp [lowD, ← List.map_reverse]
  have hll := lowD_len (A ++ B)
  cases R with
  | nil =>
    simp only [finR, ansP, finP, powP, hrev, List.isEmpty_nil, Bool.and_self, if_true, Int.sub_zero]
  | cons c r =>
    rw [finR]
    rcases Bool.eq_false_or_eq_true (isE c) with g | g
    · rw [g, if_pos rfl]
      have hp := pow_same (lowD (A ++ B)) (lowD_digs (hA.app hB)) (by omega) (B.length : Int) (sgnP r).1 (by rw [List.length_append] at hl; omega) (sgnP_one r) ((sgnP r).2.takeWhile isDg) (tw_dgl _)
      simp only [ansP, finP, powP, g, if_true, endR, hrev]
      rw [hp]
      rcases Bool.eq_false_or_eq_true ((sgnP r).2.takeWhile isDg).isEmpty with g2 | g2
      · rw [g2]; rfl
      · rw [g2]
        rcases Bool.eq_false_or_eq_true ((sgnP r).2.dropWhile isDg).isEmpty with g3 | g3
        · rw [g3]; rfl
        · rw [g3]; rfl
    · rw [g, if_neg (by simp)]
      simp only [ansP, finP, powP, g, Bool.false_eq_true, if_false, List.isEmpty_cons, Bool.and_false]
theorem ansP_no (neg : Bool) : ansP neg noP = (0, 0, 3) := rfl
theorem ref_same (L : List UInt8) (hl : L.length ≤ 300) : refP (isNeg L) (absT L) = parseC L := by
  have e : parseC L = ansP (isNeg L) (partsP (absT L)) := rfl
  have hal := (abs_len L).1
  rw [e]
  generalize isNeg L = neg at *
  generalize absT L = T at *
  unfold refP partsP
  have htw := tw_le T
  have hdg := tw_dgl T
  have hsum := congrArg List.length (List.takeWhile_append_dropWhile (p := isDg) (l := T))
  rw [List.length_append] at hsum
  generalize T.takeWhile isDg = A at *
  generalize T.dropWhile isDg = R at *
  rcases Bool.eq_false_or_eq_true (lead0 A) with g | g
  · rw [g, if_pos rfl, if_pos rfl, ansP_no]
  · rw [g, if_neg (by simp), if_neg (by simp)]
    have hn : DgL [] := fun b hb => by simp at hb
    have hTl : T.length ≤ 300 := by rw [hal]; omega
    have z : ((([] : List UInt8).length : Nat) : Int) = 0 := rfl
    cases R with
    | nil =>
      have := fin_same neg A [] [] hdg hn (by simp; omega)
      rw [List.append_nil, z] at this
      exact this
    | cons c r =>
      rw [fracR, fracP]
      by_cases h : c.toNat = 46
      · rw [if_pos h, if_pos h]
        have h2 := tw_le r
        simp only [List.length_cons] at hsum
        rcases Bool.eq_false_or_eq_true (r.takeWhile isDg).isEmpty with g2 | g2
        · rw [g2, if_pos rfl, if_pos rfl, ansP_no]
        · rw [g2, if_neg (by simp), if_neg (by simp), ← List.map_append]
          exact fin_same neg A (r.takeWhile isDg) (r.dropWhile isDg) hdg (tw_dgl r) (by rw [List.length_append]; omega)
      · rw [if_neg h, if_neg h]
        have := fin_same neg A [] (c :: r) hdg hn (by simp; omega)
        rw [List.append_nil, z] at this
        exact this
theorem bt_self (s : ByteArray) : ∃ L : List UInt8, s = bt L ∧ L.length = s.size := ⟨s.data.toList, by apply ByteArray.ext; simp [bt], rfl⟩

set_option maxRecDepth 100000 in
theorem NumParses_ok (s : ByteArray) (hs : s.size ≤ maxLen) (hp : List Ent) : F tab 5 [.d (.str s)] hp = some (.ret (.d (.bool true)) hp) := by
  obtain ⟨L, rfl, hl⟩ := bt_self s
  have hz := bt_size L
  have hlv := lives4_ok []
  refine f5 rfl ?_
  by_cases h : L.length > 300
  · have k : ((L.length : Int) > 300) = True := eq_true (by omega)
    simp (disch := omega) only [go_sem, and_self, and_true, true_and, false_and, and_false, Nat.reduceAdd, Nat.reduceMul, Nat.reduceSub, Nat.reduceLeDiff, Nat.reduceLT, Nat.reduceGT, Nat.reduceEqDiff, Nat.reduceBEq, Int.reduceNeg, Int.reduceEq, Int.reduceLT, Int.reduceLE, Int.reduceBEq, Int.reduceToNat, Int.toNat_natCast, Int.natCast_zero, r5_T, r5, hz, k, hlv]
  · have k : ((L.length : Int) > 300) = False := eq_false (by omega)
    have h1 := parse_ok L (by omega) []
    have h2 := rparse_ok L (by omega) []
    rw [ref_same L (by omega)] at h2
    generalize parseC L = p at *
    obtain ⟨a, b, e⟩ := p
    simp only [tupC] at h1 h2
    simp (disch := omega) only [go_sem, and_self, and_true, true_and, false_and, and_false, Nat.reduceAdd, Nat.reduceMul, Nat.reduceSub, Nat.reduceLeDiff, Nat.reduceLT, Nat.reduceGT, Nat.reduceEqDiff, Nat.reduceBEq, Int.reduceNeg, Int.reduceEq, Int.reduceLT, Int.reduceLE, Int.reduceBEq, Int.reduceToNat, Int.toNat_natCast, Int.natCast_zero, r5_T, r5, hz, k, hlv, h1, h2, eqD_num, beq_self_eq_true, Bool.and_self]
end Go.Pe.T
