/- A part of the proof of: The tokens of any query, or where it is wrong, and how, are the document's, one by one (LexTokens); no condition beyond the statement's own. -/
import Derived.Test.YtgcpkhhopjhpiaaDoorLt4
import Derived.Test.YtgcpkhhopjhpiaaDoorLt3
set_option linter.unusedSimpArgs false
set_option linter.unusedVariables false
set_option maxRecDepth 10000
set_option maxRecDepth 100000

namespace Go.Pe.T

def cdec : Int → List UInt8 → Nat → Int
  | c, _, 0 => c
  | c, [], _ + 1 => c
  | c, d :: r, k + 1 => cdec (64 * c + (d.toNat : Int) - 128) r k

def CiLoop (s : ByteArray) (l : List Int) (i n k : Nat) (c : Int) : Prop :=
  V (F tab) r33_B1 (r33_S1 (.d (.str s)) (.own 3 (l.map iv)) (.d (iv i)) (.d (iv n)) (.d (iv c)) (.d (iv k)) []) =
    if conts ((bs s).drop (i + k)) (n - k) then some (.norm, r33_E1 (.d (.str s)) (.own 3 (l.map iv)) (.d (iv i)) (.d (iv n)) (.d (iv (cdec c ((bs s).drop (i + k)) (n - k)))) [])
    else some (.ret, r33_R (.d (.sl [])) (.d (.bool false)) [])
theorem ci_end (s : ByteArray) (l : List Int) (i n k : Nat) (c : Int) (hk : n ≤ k) : CiLoop s l i n k c := by
  have h1 : ((k : Int) < (n : Int)) = False := eq_false (by omega)
  unfold CiLoop
  rw [r33_B1_eq, show n - k = 0 by omega]
  simp (disch := omega) only [go_sem, r33_C1, h1, conts, cdec]
theorem ci_step (s : ByteArray) (hs : s.size ≤ 1000000000) (l : List Int) (i n k : Nat) (c : Int) (hn : i + n ≤ s.size) (hk : k < n) (h4 : n ≤ 4) (hc : 0 ≤ c ∧ c ≤ 100000000) (ih : ∀ c' : Int, 0 ≤ c' → c' ≤ 64 * c + 63 → c' = 64 * c + (((bs s).drop (i + k)).headD 0).toNat - 128 → CiLoop s l i n (k + 1) c') : CiLoop s l i n k c := by
  have h1 : ((k : Int) < (n : Int)) = True := eq_true (by omega)
  have hi0 : (0 ≤ (i : Int) + (k : Int)) = True := eq_true (by omega)
  have ei : ((i : Int) + (k : Int)).toNat = i + k := by omega
  have hlt : i + k < s.size := by omega
  obtain ⟨va, vd⟩ := bs_get hlt
  have hb : s[i + k].toNat < 256 := UInt8.toNat_lt _
  have en : n - k = (n - (k + 1)) + 1 := by omega
  rw [vd] at ih
  simp only [List.headD_cons] at ih
  unfold CiLoop at ih ⊢
  rw [r33_B1_eq, vd, en]
  simp only [conts, cdec, contB]
  by_cases g1 : ((s[i + k].toNat : Nat) : Int) < 128
  · simp (disch := omega) only [go_sem, r33_C1, h1, hi0, ei, va, w64, g1, decide_true, Bool.not_true, Bool.false_and]
  · by_cases g2 : ((s[i + k].toNat : Nat) : Int) > 191
    · simp (disch := omega) only [go_sem, r33_C1, h1, hi0, ei, va, w64, g1, g2, decide_true, decide_false, Bool.not_true, Bool.not_false, Bool.false_and, Bool.true_and]
    · have ih := ih _ (by omega) (by omega) rfl
      rw [Int.natCast_add, Int.natCast_one, ← Nat.add_assoc] at ih
      simp (disch := omega) only [go_sem, r33_C1, h1, hi0, ei, va, w64, g1, g2, decide_true, decide_false, Bool.not_true, Bool.not_false, Bool.false_and, Bool.true_and]
      exact ih
theorem ci_loop (s : ByteArray) (hs : s.size ≤ 1000000000) (l : List Int) (i n : Nat) (hn : i + n ≤ s.size) (h4 : n ≤ 4) : ∀ (j k : Nat) (c : Int), k + j = n → 0 ≤ c → (c + 1) * 64 ^ j ≤ 100000000 → CiLoop s l i n k c
  | 0, k, c, hk, h0, hc => ci_end s l i n k c (by omega)
  | j + 1, k, c, hk, h0, hc => by
    have hp : (1 : Int) ≤ 64 ^ j := by exact_mod_cast Nat.one_le_pow j 64 (by omega)
    have e : (64 : Int) ^ (j + 1) = 64 * 64 ^ j := by rw [Int.pow_succ]; exact Int.mul_comm _ _
    rw [e] at hc
    have hc2 : (c + 1) * 64 * 64 ^ j ≤ 100000000 := by rw [Int.mul_assoc]; exact hc
    have hle : (c + 1) * 64 * 1 ≤ (c + 1) * 64 * 64 ^ j := Int.mul_le_mul_of_nonneg_left hp (by omega)
    refine ci_step s hs l i n k c hn (by omega) h4 ⟨h0, by omega⟩ fun c' h1 h2 _ => ci_loop s hs l i n hn h4 j (k + 1) c' (by omega) h1 ?_
    have : (c' + 1) * 64 ^ j ≤ (c + 1) * 64 * 64 ^ j := Int.mul_le_mul_of_nonneg_right (by omega) (by omega)
    omega

def ub (x : Int) : UInt8 := UInt8.ofNat x.toNat
theorem put_bytes : ∀ (p : List Int), optAll ((p.map (D.int .u8)).map asByte) = some (p.map ub)
  | [] => rfl
  | x :: p => by simp only [List.map_cons, asByte, optAll, put_bytes p]; rfl
def okC (s : ByteArray) (i n : Nat) (c : Int) : Bool := !(decide (c > 1114111) || (decide (c ≥ 55296) && decide (c < 57344))) && ((putI c).map ub == ((bs s).drop i).take n)
theorem bs_cut (s : ByteArray) (i j : Nat) : bs (s.extract i j) = ((bs s).drop i).take (j - i) := by
  simp [bs, ByteArray.data_extract, List.drop_take]
theorem cmp_put (s : ByteArray) (i n : Nat) (p : List UInt8) : ((⟨p.toArray⟩ : ByteArray).toList == (s.extract i (i + n)).toList) = (p == ((bs s).drop i).take n) := by
  have e : bs (⟨p.toArray⟩ : ByteArray) = p := by simp [bs]
  rw [bs_toList, bs_toList, bs_cut, e, show i + n - i = n by omega]
theorem cdec_le : ∀ (r : List UInt8) (j : Nat) (c : Int), 0 ≤ c → conts r j = true → 0 ≤ cdec c r j ∧ cdec c r j + 1 ≤ (c + 1) * 64 ^ j
  | r, 0, c, h0, h => by simp [cdec]; omega
  | [], j + 1, c, h0, h => by simp [conts] at h
  | d :: r, j + 1, c, h0, h => by
    simp only [conts, contB, Bool.and_eq_true, Bool.not_eq_true', decide_eq_false_iff_not] at h
    obtain ⟨i1, i2⟩ := cdec_le r j (64 * c + (d.toNat : Int) - 128) (by omega) h.2
    have e : (64 : Int) ^ (j + 1) = 64 * 64 ^ j := by rw [Int.pow_succ]; exact Int.mul_comm _ _
    have hp : (1 : Int) ≤ 64 ^ j := by exact_mod_cast Nat.one_le_pow j 64 (by omega)
    have h3 : (64 * c + (d.toNat : Int) - 128 + 1) * 64 ^ j ≤ ((c + 1) * 64) * 64 ^ j := Int.mul_le_mul_of_nonneg_right (by omega) (by omega)
    simp only [cdec]
    rw [e, ← Int.mul_assoc]
    omega

theorem sg_1 (s : ByteArray) (hs : s.size ≤ 2097152) (l : List Int) (hl : l.length ≤ 2097152) (i : Nat) (hi : i < s.size) (h1 : ((s[i].toNat : Nat) : Int) ≥ 0) (h2 : ((s[i].toNat : Nat) : Int) ≤ 127) :
    V (F tab) r33_B0 (r33_S0 (.d (.str s)) (.own 3 (l.map iv)) (.d (iv i)) []) =
      if decide (i + 1 ≤ s.size) && (conts ((bs s).drop (i + 1)) 0 && okC s i 1 (cdec ((s[i].toNat : Nat) : Int) ((bs s).drop (i + 1)) 0)) then
        V (F tab) r33_B0 (r33_S0 (.d (.str s)) (.own 3 ((l ++ [(cdec ((s[i].toNat : Nat) : Int) ((bs s).drop (i + 1)) 0)]).map iv)) (.d (iv (i + 1 : Nat))) [])
      else some (.ret, r33_R (.d (.sl [])) (.d (.bool false)) []) := by
  have q1 : ((i : Int) < (s.size : Int)) = True := eq_true (by omega)
  have hi0 : (0 ≤ (i : Int)) = True := eq_true (by omega)
  obtain ⟨va, vd⟩ := bs_get hi
  have xa : (((s[i].toNat : Nat) : Int) ≥ 240) = False := eq_false (by omega)
  have xd : (((s[i].toNat : Nat) : Int) ≥ 224) = False := eq_false (by omega)
  have xe : (((s[i].toNat : Nat) : Int) ≥ 192) = False := eq_false (by omega)
  have xg : (((s[i].toNat : Nat) : Int) ≥ 248) = False := eq_false (by omega)
  have xh : (((s[i].toNat : Nat) : Int) ≥ 128) = False := eq_false (by omega)
  rw [r33_B0_eq]
  by_cases g : i + 1 ≤ s.size
  · have q2 : ((i : Int) + 1 > (s.size : Int)) = False := eq_false (by omega)
    have hL := ci_loop s (by omega) l i 1 g (by omega) 0 1 ((s[i].toNat : Nat) : Int) (by omega) (by omega) (by simp only [Int.reducePow]; omega)
    unfold CiLoop at hL
    rw [show 1 - 1 = 0 from rfl] at hL
    rw [decide_eq_true g, Bool.true_and]
    simp (disch := omega) only [go_sem, r33_C0, q1, hi0, va, xa, xd, xe, xg, xh, w64, q2]
    rw [r33_B1_n]
    erw [hL]
    rcases Bool.eq_false_or_eq_true (conts ((bs s).drop (i + 1)) 0) with g2 | g2
    · obtain ⟨d1, d2⟩ := cdec_le _ _ ((s[i].toNat : Nat) : Int) (by omega) g2
      have d3 : (cdec ((s[i].toNat : Nat) : Int) ((bs s).drop (i + 1)) 0) ≤ 2097151 := by simp only [Int.reducePow] at d2; omega
      have hput := put_ok (cdec ((s[i].toNat : Nat) : Int) ((bs s).drop (i + 1)) 0) d1 d3
      rw [g2]
      simp only [if_true, Bool.true_and, okC]
      generalize (cdec ((s[i].toNat : Nat) : Int) ((bs s).drop (i + 1)) 0) = c at *
      have r1 : ((l.length + 1) * 8 ≤ maxRow) = True := eq_true (by simp only [maxRow]; omega)
      have hcmp := cmp_put s i 1 ((putI c).map ub)
      have et : ((i : Int) + ((1 : Nat) : Int)).toNat = i + 1 := by omega
      have q3 : ((i : Int) ≤ (i : Int) + ((1 : Nat) : Int)) = True := eq_true (by omega)
      have q4 : ((i : Int) + ((1 : Nat) : Int) ≤ (s.size : Int)) = True := eq_true (by omega)
      have ea : l.map iv ++ [iv c] = (l ++ [c]).map iv := by simp
      have all8 : ([iv c].all fun y => y.width == 1) = true := rfl
      rw [Int.natCast_add]
      by_cases k1 : c > 1114111
      · simp (disch := omega) only [go_sem, k1, decide_true, Bool.true_or, Bool.not_true, Bool.false_and]
      · by_cases k2 : c ≥ 55296
        · exfalso
          simp only [Int.reducePow] at d2
          omega
        · rcases Bool.eq_false_or_eq_true ((putI c).map ub == ((bs s).drop i).take 1) with k4 | k4 <;> rw [k4] at hcmp <;>
            simp (disch := omega) only [go_sem, k1, k2, k4, hput, put_bytes, hcmp, strD_neq, et, q3, q4, hi0, w64, r1, all8, ea, List.length_map, decide_true, decide_false, Bool.or_self, Bool.false_and, Bool.and_true, Bool.and_false, Bool.not_false, Bool.not_true, Int.toNat_natCast] <;> rfl
    · rw [g2]
      simp (disch := omega) only [go_sem, Bool.false_and]
  · have q2 : ((i : Int) + 1 > (s.size : Int)) = True := eq_true (by omega)
    rw [decide_eq_false g, Bool.false_and]
    simp (disch := omega) only [go_sem, r33_C0, q1, hi0, va, xa, xd, xe, xg, xh, w64, q2]

theorem sg_2 (s : ByteArray) (hs : s.size ≤ 2097152) (l : List Int) (hl : l.length ≤ 2097152) (i : Nat) (hi : i < s.size) (h1 : ((s[i].toNat : Nat) : Int) ≥ 192) (h2 : ((s[i].toNat : Nat) : Int) ≤ 223) :
    V (F tab) r33_B0 (r33_S0 (.d (.str s)) (.own 3 (l.map iv)) (.d (iv i)) []) =
      if decide (i + 2 ≤ s.size) && (conts ((bs s).drop (i + 1)) 1 && okC s i 2 (cdec (((s[i].toNat : Nat) : Int) - 192) ((bs s).drop (i + 1)) 1)) then
        V (F tab) r33_B0 (r33_S0 (.d (.str s)) (.own 3 ((l ++ [(cdec (((s[i].toNat : Nat) : Int) - 192) ((bs s).drop (i + 1)) 1)]).map iv)) (.d (iv (i + 2 : Nat))) [])
      else some (.ret, r33_R (.d (.sl [])) (.d (.bool false)) []) := by
  have q1 : ((i : Int) < (s.size : Int)) = True := eq_true (by omega)
  have hi0 : (0 ≤ (i : Int)) = True := eq_true (by omega)
  obtain ⟨va, vd⟩ := bs_get hi
  have xa : (((s[i].toNat : Nat) : Int) ≥ 240) = False := eq_false (by omega)
  have xd : (((s[i].toNat : Nat) : Int) ≥ 224) = False := eq_false (by omega)
  have xe : (((s[i].toNat : Nat) : Int) ≥ 192) = True := eq_true (by omega)
  have xg : (((s[i].toNat : Nat) : Int) ≥ 248) = False := eq_false (by omega)
  have xh : (((s[i].toNat : Nat) : Int) ≥ 128) = True := eq_true (by omega)
  have xm : (((s[i].toNat : Nat) : Int) < 192) = False := eq_false (by omega)
  rw [r33_B0_eq]
  by_cases g : i + 2 ≤ s.size
  · have q2 : ((i : Int) + 2 > (s.size : Int)) = False := eq_false (by omega)
    have hL := ci_loop s (by omega) l i 2 g (by omega) 1 1 (((s[i].toNat : Nat) : Int) - 192) (by omega) (by omega) (by simp only [Int.reducePow]; omega)
    unfold CiLoop at hL
    rw [show 2 - 1 = 1 from rfl] at hL
    rw [decide_eq_true g, Bool.true_and]
    simp (disch := omega) only [go_sem, r33_C0, q1, hi0, va, xa, xd, xe, xg, xh, xm, w64, q2]
    rw [r33_B1_n]
    erw [hL]
    rcases Bool.eq_false_or_eq_true (conts ((bs s).drop (i + 1)) 1) with g2 | g2
    · obtain ⟨d1, d2⟩ := cdec_le _ _ (((s[i].toNat : Nat) : Int) - 192) (by omega) g2
      have d3 : (cdec (((s[i].toNat : Nat) : Int) - 192) ((bs s).drop (i + 1)) 1) ≤ 2097151 := by simp only [Int.reducePow] at d2; omega
      have hput := put_ok (cdec (((s[i].toNat : Nat) : Int) - 192) ((bs s).drop (i + 1)) 1) d1 d3
      rw [g2]
      simp only [if_true, Bool.true_and, okC]
      generalize (cdec (((s[i].toNat : Nat) : Int) - 192) ((bs s).drop (i + 1)) 1) = c at *
      have r1 : ((l.length + 1) * 8 ≤ maxRow) = True := eq_true (by simp only [maxRow]; omega)
      have hcmp := cmp_put s i 2 ((putI c).map ub)
      have et : ((i : Int) + ((2 : Nat) : Int)).toNat = i + 2 := by omega
      have q3 : ((i : Int) ≤ (i : Int) + ((2 : Nat) : Int)) = True := eq_true (by omega)
      have q4 : ((i : Int) + ((2 : Nat) : Int) ≤ (s.size : Int)) = True := eq_true (by omega)
      have ea : l.map iv ++ [iv c] = (l ++ [c]).map iv := by simp
      have all8 : ([iv c].all fun y => y.width == 1) = true := rfl
      rw [Int.natCast_add]
      by_cases k1 : c > 1114111
      · simp (disch := omega) only [go_sem, k1, decide_true, Bool.true_or, Bool.not_true, Bool.false_and]
      · by_cases k2 : c ≥ 55296
        · exfalso
          simp only [Int.reducePow] at d2
          omega
        · rcases Bool.eq_false_or_eq_true ((putI c).map ub == ((bs s).drop i).take 2) with k4 | k4 <;> rw [k4] at hcmp <;>
            simp (disch := omega) only [go_sem, k1, k2, k4, hput, put_bytes, hcmp, strD_neq, et, q3, q4, hi0, w64, r1, all8, ea, List.length_map, decide_true, decide_false, Bool.or_self, Bool.false_and, Bool.and_true, Bool.and_false, Bool.not_false, Bool.not_true, Int.toNat_natCast] <;> rfl
    · rw [g2]
      simp (disch := omega) only [go_sem, Bool.false_and]
  · have q2 : ((i : Int) + 2 > (s.size : Int)) = True := eq_true (by omega)
    rw [decide_eq_false g, Bool.false_and]
    simp (disch := omega) only [go_sem, r33_C0, q1, hi0, va, xa, xd, xe, xg, xh, xm, w64, q2]

theorem sg_3 (s : ByteArray) (hs : s.size ≤ 2097152) (l : List Int) (hl : l.length ≤ 2097152) (i : Nat) (hi : i < s.size) (h1 : ((s[i].toNat : Nat) : Int) ≥ 224) (h2 : ((s[i].toNat : Nat) : Int) ≤ 239) :
    V (F tab) r33_B0 (r33_S0 (.d (.str s)) (.own 3 (l.map iv)) (.d (iv i)) []) =
      if decide (i + 3 ≤ s.size) && (conts ((bs s).drop (i + 1)) 2 && okC s i 3 (cdec (((s[i].toNat : Nat) : Int) - 224) ((bs s).drop (i + 1)) 2)) then
        V (F tab) r33_B0 (r33_S0 (.d (.str s)) (.own 3 ((l ++ [(cdec (((s[i].toNat : Nat) : Int) - 224) ((bs s).drop (i + 1)) 2)]).map iv)) (.d (iv (i + 3 : Nat))) [])
      else some (.ret, r33_R (.d (.sl [])) (.d (.bool false)) []) := by
  have q1 : ((i : Int) < (s.size : Int)) = True := eq_true (by omega)
  have hi0 : (0 ≤ (i : Int)) = True := eq_true (by omega)
  obtain ⟨va, vd⟩ := bs_get hi
  have xa : (((s[i].toNat : Nat) : Int) ≥ 240) = False := eq_false (by omega)
  have xd : (((s[i].toNat : Nat) : Int) ≥ 224) = True := eq_true (by omega)
  have xg : (((s[i].toNat : Nat) : Int) ≥ 248) = False := eq_false (by omega)
  have xh : (((s[i].toNat : Nat) : Int) ≥ 128) = True := eq_true (by omega)
  have xm : (((s[i].toNat : Nat) : Int) < 192) = False := eq_false (by omega)
  rw [r33_B0_eq]
  by_cases g : i + 3 ≤ s.size
  · have q2 : ((i : Int) + 3 > (s.size : Int)) = False := eq_false (by omega)
    have hL := ci_loop s (by omega) l i 3 g (by omega) 2 1 (((s[i].toNat : Nat) : Int) - 224) (by omega) (by omega) (by simp only [Int.reducePow]; omega)
    unfold CiLoop at hL
    rw [show 3 - 1 = 2 from rfl] at hL
    rw [decide_eq_true g, Bool.true_and]
    simp (disch := omega) only [go_sem, r33_C0, q1, hi0, va, xa, xd, xg, xh, xm, w64, q2]
    rw [r33_B1_n]
    erw [hL]
    rcases Bool.eq_false_or_eq_true (conts ((bs s).drop (i + 1)) 2) with g2 | g2
    · obtain ⟨d1, d2⟩ := cdec_le _ _ (((s[i].toNat : Nat) : Int) - 224) (by omega) g2
      have d3 : (cdec (((s[i].toNat : Nat) : Int) - 224) ((bs s).drop (i + 1)) 2) ≤ 2097151 := by simp only [Int.reducePow] at d2; omega
      have hput := put_ok (cdec (((s[i].toNat : Nat) : Int) - 224) ((bs s).drop (i + 1)) 2) d1 d3
      rw [g2]
      simp only [if_true, Bool.true_and, okC]
      generalize (cdec (((s[i].toNat : Nat) : Int) - 224) ((bs s).drop (i + 1)) 2) = c at *
      have r1 : ((l.length + 1) * 8 ≤ maxRow) = True := eq_true (by simp only [maxRow]; omega)
      have hcmp := cmp_put s i 3 ((putI c).map ub)
      have et : ((i : Int) + ((3 : Nat) : Int)).toNat = i + 3 := by omega
      have q3 : ((i : Int) ≤ (i : Int) + ((3 : Nat) : Int)) = True := eq_true (by omega)
      have q4 : ((i : Int) + ((3 : Nat) : Int) ≤ (s.size : Int)) = True := eq_true (by omega)
      have ea : l.map iv ++ [iv c] = (l ++ [c]).map iv := by simp
      have all8 : ([iv c].all fun y => y.width == 1) = true := rfl
      rw [Int.natCast_add]
      by_cases k1 : c > 1114111
      · simp (disch := omega) only [go_sem, k1, decide_true, Bool.true_or, Bool.not_true, Bool.false_and]
      · by_cases k2 : c ≥ 55296
        · by_cases k3 : c < 57344
          · simp (disch := omega) only [go_sem, k1, k2, k3, decide_true, decide_false, Bool.true_or, Bool.false_or, Bool.true_and, Bool.not_true, Bool.false_and]
          · rcases Bool.eq_false_or_eq_true ((putI c).map ub == ((bs s).drop i).take 3) with k4 | k4 <;> rw [k4] at hcmp <;>
              simp (disch := omega) only [go_sem, k1, k2, k3, k4, hput, put_bytes, hcmp, strD_neq, et, q3, q4, hi0, w64, r1, all8, ea, List.length_map, decide_true, decide_false, Bool.or_self, Bool.and_self, Bool.and_true, Bool.and_false, Bool.not_false, Bool.not_true, Int.toNat_natCast] <;> rfl
        · rcases Bool.eq_false_or_eq_true ((putI c).map ub == ((bs s).drop i).take 3) with k4 | k4 <;> rw [k4] at hcmp <;>
            simp (disch := omega) only [go_sem, k1, k2, k4, hput, put_bytes, hcmp, strD_neq, et, q3, q4, hi0, w64, r1, all8, ea, List.length_map, decide_true, decide_false, Bool.or_self, Bool.false_and, Bool.and_true, Bool.and_false, Bool.not_false, Bool.not_true, Int.toNat_natCast] <;> rfl
    · rw [g2]
      simp (disch := omega) only [go_sem, Bool.false_and]
  · have q2 : ((i : Int) + 3 > (s.size : Int)) = True := eq_true (by omega)
    rw [decide_eq_false g, Bool.false_and]
    simp (disch := omega) only [go_sem, r33_C0, q1, hi0, va, xa, xd, xg, xh, xm, w64, q2]

theorem sg_4 (s : ByteArray) (hs : s.size ≤ 2097152) (l : List Int) (hl : l.length ≤ 2097152) (i : Nat) (hi : i < s.size) (h1 : ((s[i].toNat : Nat) : Int) ≥ 240) (h2 : ((s[i].toNat : Nat) : Int) ≤ 247) :
    V (F tab) r33_B0 (r33_S0 (.d (.str s)) (.own 3 (l.map iv)) (.d (iv i)) []) =
      if decide (i + 4 ≤ s.size) && (conts ((bs s).drop (i + 1)) 3 && okC s i 4 (cdec (((s[i].toNat : Nat) : Int) - 240) ((bs s).drop (i + 1)) 3)) then
        V (F tab) r33_B0 (r33_S0 (.d (.str s)) (.own 3 ((l ++ [(cdec (((s[i].toNat : Nat) : Int) - 240) ((bs s).drop (i + 1)) 3)]).map iv)) (.d (iv (i + 4 : Nat))) [])
      else some (.ret, r33_R (.d (.sl [])) (.d (.bool false)) []) := by
  have q1 : ((i : Int) < (s.size : Int)) = True := eq_true (by omega)
  have hi0 : (0 ≤ (i : Int)) = True := eq_true (by omega)
  obtain ⟨va, vd⟩ := bs_get hi
  have xa : (((s[i].toNat : Nat) : Int) ≥ 240) = True := eq_true (by omega)
  have xb : (((s[i].toNat : Nat) : Int) < 248) = True := eq_true (by omega)
  have xg : (((s[i].toNat : Nat) : Int) ≥ 248) = False := eq_false (by omega)
  have xh : (((s[i].toNat : Nat) : Int) ≥ 128) = True := eq_true (by omega)
  have xm : (((s[i].toNat : Nat) : Int) < 192) = False := eq_false (by omega)
  rw [r33_B0_eq]
  by_cases g : i + 4 ≤ s.size
  · have q2 : ((i : Int) + 4 > (s.size : Int)) = False := eq_false (by omega)
    have hL := ci_loop s (by omega) l i 4 g (by omega) 3 1 (((s[i].toNat : Nat) : Int) - 240) (by omega) (by omega) (by simp only [Int.reducePow]; omega)
    unfold CiLoop at hL
    rw [show 4 - 1 = 3 from rfl] at hL
    rw [decide_eq_true g, Bool.true_and]
    simp (disch := omega) only [go_sem, r33_C0, q1, hi0, va, xa, xb, xg, xh, xm, w64, q2]
    rw [r33_B1_n]
    erw [hL]
    rcases Bool.eq_false_or_eq_true (conts ((bs s).drop (i + 1)) 3) with g2 | g2
    · obtain ⟨d1, d2⟩ := cdec_le _ _ (((s[i].toNat : Nat) : Int) - 240) (by omega) g2
      have d3 : (cdec (((s[i].toNat : Nat) : Int) - 240) ((bs s).drop (i + 1)) 3) ≤ 2097151 := by simp only [Int.reducePow] at d2; omega
      have hput := put_ok (cdec (((s[i].toNat : Nat) : Int) - 240) ((bs s).drop (i + 1)) 3) d1 d3
      rw [g2]
      simp only [if_true, Bool.true_and, okC]
      generalize (cdec (((s[i].toNat : Nat) : Int) - 240) ((bs s).drop (i + 1)) 3) = c at *
      have r1 : ((l.length + 1) * 8 ≤ maxRow) = True := eq_true (by simp only [maxRow]; omega)
      have hcmp := cmp_put s i 4 ((putI c).map ub)
      have et : ((i : Int) + ((4 : Nat) : Int)).toNat = i + 4 := by omega
      have q3 : ((i : Int) ≤ (i : Int) + ((4 : Nat) : Int)) = True := eq_true (by omega)
      have q4 : ((i : Int) + ((4 : Nat) : Int) ≤ (s.size : Int)) = True := eq_true (by omega)
      have ea : l.map iv ++ [iv c] = (l ++ [c]).map iv := by simp
      have all8 : ([iv c].all fun y => y.width == 1) = true := rfl
      rw [Int.natCast_add]
      by_cases k1 : c > 1114111
      · simp (disch := omega) only [go_sem, k1, decide_true, Bool.true_or, Bool.not_true, Bool.false_and]
      · by_cases k2 : c ≥ 55296
        · by_cases k3 : c < 57344
          · simp (disch := omega) only [go_sem, k1, k2, k3, decide_true, decide_false, Bool.true_or, Bool.false_or, Bool.true_and, Bool.not_true, Bool.false_and]
          · rcases Bool.eq_false_or_eq_true ((putI c).map ub == ((bs s).drop i).take 4) with k4 | k4 <;> rw [k4] at hcmp <;>
              simp (disch := omega) only [go_sem, k1, k2, k3, k4, hput, put_bytes, hcmp, strD_neq, et, q3, q4, hi0, w64, r1, all8, ea, List.length_map, decide_true, decide_false, Bool.or_self, Bool.and_self, Bool.and_true, Bool.and_false, Bool.not_false, Bool.not_true, Int.toNat_natCast] <;> rfl
        · rcases Bool.eq_false_or_eq_true ((putI c).map ub == ((bs s).drop i).take 4) with k4 | k4 <;> rw [k4] at hcmp <;>
            simp (disch := omega) only [go_sem, k1, k2, k4, hput, put_bytes, hcmp, strD_neq, et, q3, q4, hi0, w64, r1, all8, ea, List.length_map, decide_true, decide_false, Bool.or_self, Bool.false_and, Bool.and_true, Bool.and_false, Bool.not_false, Bool.not_true, Int.toNat_natCast] <;> rfl
    · rw [g2]
      simp (disch := omega) only [go_sem, Bool.false_and]
  · have q2 : ((i : Int) + 4 > (s.size : Int)) = True := eq_true (by omega)
    rw [decide_eq_false g, Bool.false_and]
    simp (disch := omega) only [go_sem, r33_C0, q1, hi0, va, xa, xb, xg, xh, xm, w64, q2]

end Go.Pe.T

namespace Go.Pe.T

def okL (l : List UInt8) (n : Nat) (c : Int) : Bool := !(decide (c > 1114111) || (decide (c ≥ 55296) && decide (c < 57344))) && ((putI c).map ub == l.take n)
theorem ub_nat (x : UInt8) : ub ((x.toNat : Nat) : Int) = x := by simp [ub]

theorem szc_0 (l : List UInt8) (g1 : unb l 0 ≥ 0) (g2 : unb l 0 ≤ 127) : sizeL l = 1 := by
  unfold sizeL
  generalize unb l 0 = c at *
  have xa : (c < 128) = True := eq_true (by omega)
  have xb : (c ≥ 194) = False := eq_false (by omega)
  have xd : (c ≤ 223) = True := eq_true (by omega)
  have xe : (c == 224) = false := by simp <;> omega
  have xf : (c ≥ 225) = False := eq_false (by omega)
  have xh : (c ≤ 239) = True := eq_true (by omega)
  have xi : (c != 237) = true := by simp <;> omega
  have xj : (c == 237) = false := by simp <;> omega
  have xk : (c == 240) = false := by simp <;> omega
  have xl : (c ≥ 241) = False := eq_false (by omega)
  have xm : (c ≤ 243) = True := eq_true (by omega)
  have xn : (c == 244) = false := by simp <;> omega
  simp only [xa, xb, xd, xe, xf, xh, xi, xj, xk, xl, xm, xn, decide_true, decide_false, Bool.true_and, Bool.false_and, Bool.or_false, Bool.false_or, Bool.and_true, Bool.and_false, Bool.false_eq_true, if_true, if_false]

theorem szc_1 (l : List UInt8) (g1 : unb l 0 ≥ 128) (g2 : unb l 0 ≤ 193) : sizeL l = 0 := by
  unfold sizeL
  generalize unb l 0 = c at *
  have xa : (c < 128) = False := eq_false (by omega)
  have xb : (c ≥ 194) = False := eq_false (by omega)
  have xd : (c ≤ 223) = True := eq_true (by omega)
  have xe : (c == 224) = false := by simp <;> omega
  have xf : (c ≥ 225) = False := eq_false (by omega)
  have xh : (c ≤ 239) = True := eq_true (by omega)
  have xi : (c != 237) = true := by simp <;> omega
  have xj : (c == 237) = false := by simp <;> omega
  have xk : (c == 240) = false := by simp <;> omega
  have xl : (c ≥ 241) = False := eq_false (by omega)
  have xm : (c ≤ 243) = True := eq_true (by omega)
  have xn : (c == 244) = false := by simp <;> omega
  simp only [xa, xb, xd, xe, xf, xh, xi, xj, xk, xl, xm, xn, decide_true, decide_false, Bool.true_and, Bool.false_and, Bool.or_false, Bool.false_or, Bool.and_true, Bool.and_false, Bool.false_eq_true, if_true, if_false]

theorem szc_2 (l : List UInt8) (g1 : unb l 0 ≥ 194) (g2 : unb l 0 ≤ 223) : sizeL l = if tailL l 1 128 191 then 2 else 0 := by
  unfold sizeL
  generalize unb l 0 = c at *
  have xa : (c < 128) = False := eq_false (by omega)
  have xb : (c ≥ 194) = True := eq_true (by omega)
  have xd : (c ≤ 223) = True := eq_true (by omega)
  have xe : (c == 224) = false := by simp <;> omega
  have xf : (c ≥ 225) = False := eq_false (by omega)
  have xh : (c ≤ 239) = True := eq_true (by omega)
  have xi : (c != 237) = true := by simp <;> omega
  have xj : (c == 237) = false := by simp <;> omega
  have xk : (c == 240) = false := by simp <;> omega
  have xl : (c ≥ 241) = False := eq_false (by omega)
  have xm : (c ≤ 243) = True := eq_true (by omega)
  have xn : (c == 244) = false := by simp <;> omega
  simp only [xa, xb, xd, xe, xf, xh, xi, xj, xk, xl, xm, xn, decide_true, decide_false, Bool.true_and, Bool.false_and, Bool.or_false, Bool.false_or, Bool.and_true, Bool.and_false, Bool.false_eq_true, if_true, if_false]

theorem szc_3 (l : List UInt8) (g1 : unb l 0 ≥ 224) (g2 : unb l 0 ≤ 224) : sizeL l = if tailL l 2 160 191 then 3 else 0 := by
  unfold sizeL
  generalize unb l 0 = c at *
  have xa : (c < 128) = False := eq_false (by omega)
  have xb : (c ≥ 194) = True := eq_true (by omega)
  have xd : (c ≤ 223) = False := eq_false (by omega)
  have xe : (c == 224) = true := by simp <;> omega
  have xf : (c ≥ 225) = False := eq_false (by omega)
  have xh : (c ≤ 239) = True := eq_true (by omega)
  have xi : (c != 237) = true := by simp <;> omega
  have xj : (c == 237) = false := by simp <;> omega
  have xk : (c == 240) = false := by simp <;> omega
  have xl : (c ≥ 241) = False := eq_false (by omega)
  have xm : (c ≤ 243) = True := eq_true (by omega)
  have xn : (c == 244) = false := by simp <;> omega
  simp only [xa, xb, xd, xe, xf, xh, xi, xj, xk, xl, xm, xn, decide_true, decide_false, Bool.true_and, Bool.false_and, Bool.or_false, Bool.false_or, Bool.and_true, Bool.and_false, Bool.false_eq_true, if_true, if_false]

theorem szc_4 (l : List UInt8) (g1 : unb l 0 ≥ 225) (g2 : unb l 0 ≤ 236) : sizeL l = if tailL l 2 128 191 then 3 else 0 := by
  unfold sizeL
  generalize unb l 0 = c at *
  have xa : (c < 128) = False := eq_false (by omega)
  have xb : (c ≥ 194) = True := eq_true (by omega)
  have xd : (c ≤ 223) = False := eq_false (by omega)
  have xe : (c == 224) = false := by simp <;> omega
  have xf : (c ≥ 225) = True := eq_true (by omega)
  have xh : (c ≤ 239) = True := eq_true (by omega)
  have xi : (c != 237) = true := by simp <;> omega
  have xj : (c == 237) = false := by simp <;> omega
  have xk : (c == 240) = false := by simp <;> omega
  have xl : (c ≥ 241) = False := eq_false (by omega)
  have xm : (c ≤ 243) = True := eq_true (by omega)
  have xn : (c == 244) = false := by simp <;> omega
  simp only [xa, xb, xd, xe, xf, xh, xi, xj, xk, xl, xm, xn, decide_true, decide_false, Bool.true_and, Bool.false_and, Bool.or_false, Bool.false_or, Bool.and_true, Bool.and_false, Bool.false_eq_true, if_true, if_false]

theorem szc_5 (l : List UInt8) (g1 : unb l 0 ≥ 237) (g2 : unb l 0 ≤ 237) : sizeL l = if tailL l 2 128 159 then 3 else 0 := by
  unfold sizeL
  generalize unb l 0 = c at *
  have xa : (c < 128) = False := eq_false (by omega)
  have xb : (c ≥ 194) = True := eq_true (by omega)
  have xd : (c ≤ 223) = False := eq_false (by omega)
  have xe : (c == 224) = false := by simp <;> omega
  have xf : (c ≥ 225) = True := eq_true (by omega)
  have xh : (c ≤ 239) = True := eq_true (by omega)
  have xi : (c != 237) = false := by simp <;> omega
  have xj : (c == 237) = true := by simp <;> omega
  have xk : (c == 240) = false := by simp <;> omega
  have xl : (c ≥ 241) = False := eq_false (by omega)
  have xm : (c ≤ 243) = True := eq_true (by omega)
  have xn : (c == 244) = false := by simp <;> omega
  simp only [xa, xb, xd, xe, xf, xh, xi, xj, xk, xl, xm, xn, decide_true, decide_false, Bool.true_and, Bool.false_and, Bool.or_false, Bool.false_or, Bool.and_true, Bool.and_false, Bool.false_eq_true, if_true, if_false]

theorem szc_6 (l : List UInt8) (g1 : unb l 0 ≥ 238) (g2 : unb l 0 ≤ 239) : sizeL l = if tailL l 2 128 191 then 3 else 0 := by
  unfold sizeL
  generalize unb l 0 = c at *
  have xa : (c < 128) = False := eq_false (by omega)
  have xb : (c ≥ 194) = True := eq_true (by omega)
  have xd : (c ≤ 223) = False := eq_false (by omega)
  have xe : (c == 224) = false := by simp <;> omega
  have xf : (c ≥ 225) = True := eq_true (by omega)
  have xh : (c ≤ 239) = True := eq_true (by omega)
  have xi : (c != 237) = true := by simp <;> omega
  have xj : (c == 237) = false := by simp <;> omega
  have xk : (c == 240) = false := by simp <;> omega
  have xl : (c ≥ 241) = False := eq_false (by omega)
  have xm : (c ≤ 243) = True := eq_true (by omega)
  have xn : (c == 244) = false := by simp <;> omega
  simp only [xa, xb, xd, xe, xf, xh, xi, xj, xk, xl, xm, xn, decide_true, decide_false, Bool.true_and, Bool.false_and, Bool.or_false, Bool.false_or, Bool.and_true, Bool.and_false, Bool.false_eq_true, if_true, if_false]

theorem szc_7 (l : List UInt8) (g1 : unb l 0 ≥ 240) (g2 : unb l 0 ≤ 240) : sizeL l = if tailL l 3 144 191 then 4 else 0 := by
  unfold sizeL
  generalize unb l 0 = c at *
  have xa : (c < 128) = False := eq_false (by omega)
  have xb : (c ≥ 194) = True := eq_true (by omega)
  have xd : (c ≤ 223) = False := eq_false (by omega)
  have xe : (c == 224) = false := by simp <;> omega
  have xf : (c ≥ 225) = True := eq_true (by omega)
  have xh : (c ≤ 239) = False := eq_false (by omega)
  have xi : (c != 237) = true := by simp <;> omega
  have xj : (c == 237) = false := by simp <;> omega
  have xk : (c == 240) = true := by simp <;> omega
  have xl : (c ≥ 241) = False := eq_false (by omega)
  have xm : (c ≤ 243) = True := eq_true (by omega)
  have xn : (c == 244) = false := by simp <;> omega
  simp only [xa, xb, xd, xe, xf, xh, xi, xj, xk, xl, xm, xn, decide_true, decide_false, Bool.true_and, Bool.false_and, Bool.or_false, Bool.false_or, Bool.and_true, Bool.and_false, Bool.false_eq_true, if_true, if_false]

theorem szc_8 (l : List UInt8) (g1 : unb l 0 ≥ 241) (g2 : unb l 0 ≤ 243) : sizeL l = if tailL l 3 128 191 then 4 else 0 := by
  unfold sizeL
  generalize unb l 0 = c at *
  have xa : (c < 128) = False := eq_false (by omega)
  have xb : (c ≥ 194) = True := eq_true (by omega)
  have xd : (c ≤ 223) = False := eq_false (by omega)
  have xe : (c == 224) = false := by simp <;> omega
  have xf : (c ≥ 225) = True := eq_true (by omega)
  have xh : (c ≤ 239) = False := eq_false (by omega)
  have xi : (c != 237) = true := by simp <;> omega
  have xj : (c == 237) = false := by simp <;> omega
  have xk : (c == 240) = false := by simp <;> omega
  have xl : (c ≥ 241) = True := eq_true (by omega)
  have xm : (c ≤ 243) = True := eq_true (by omega)
  have xn : (c == 244) = false := by simp <;> omega
  simp only [xa, xb, xd, xe, xf, xh, xi, xj, xk, xl, xm, xn, decide_true, decide_false, Bool.true_and, Bool.false_and, Bool.or_false, Bool.false_or, Bool.and_true, Bool.and_false, Bool.false_eq_true, if_true, if_false]

theorem szc_9 (l : List UInt8) (g1 : unb l 0 ≥ 244) (g2 : unb l 0 ≤ 244) : sizeL l = if tailL l 3 128 143 then 4 else 0 := by
  unfold sizeL
  generalize unb l 0 = c at *
  have xa : (c < 128) = False := eq_false (by omega)
  have xb : (c ≥ 194) = True := eq_true (by omega)
  have xd : (c ≤ 223) = False := eq_false (by omega)
  have xe : (c == 224) = false := by simp <;> omega
  have xf : (c ≥ 225) = True := eq_true (by omega)
  have xh : (c ≤ 239) = False := eq_false (by omega)
  have xi : (c != 237) = true := by simp <;> omega
  have xj : (c == 237) = false := by simp <;> omega
  have xk : (c == 240) = false := by simp <;> omega
  have xl : (c ≥ 241) = True := eq_true (by omega)
  have xm : (c ≤ 243) = False := eq_false (by omega)
  have xn : (c == 244) = true := by simp <;> omega
  simp only [xa, xb, xd, xe, xf, xh, xi, xj, xk, xl, xm, xn, decide_true, decide_false, Bool.true_and, Bool.false_and, Bool.or_false, Bool.false_or, Bool.and_true, Bool.and_false, Bool.false_eq_true, if_true, if_false]

theorem szc_10 (l : List UInt8) (g1 : unb l 0 ≥ 245) (g2 : unb l 0 ≤ 255) : sizeL l = 0 := by
  unfold sizeL
  generalize unb l 0 = c at *
  have xa : (c < 128) = False := eq_false (by omega)
  have xb : (c ≥ 194) = True := eq_true (by omega)
  have xd : (c ≤ 223) = False := eq_false (by omega)
  have xe : (c == 224) = false := by simp <;> omega
  have xf : (c ≥ 225) = True := eq_true (by omega)
  have xh : (c ≤ 239) = False := eq_false (by omega)
  have xi : (c != 237) = true := by simp <;> omega
  have xj : (c == 237) = false := by simp <;> omega
  have xk : (c == 240) = false := by simp <;> omega
  have xl : (c ≥ 241) = True := eq_true (by omega)
  have xm : (c ≤ 243) = False := eq_false (by omega)
  have xn : (c == 244) = false := by simp <;> omega
  simp only [xa, xb, xd, xe, xf, xh, xi, xj, xk, xl, xm, xn, decide_true, decide_false, Bool.true_and, Bool.false_and, Bool.or_false, Bool.false_or, Bool.and_true, Bool.and_false, Bool.false_eq_true, if_true, if_false]

theorem nb0 (x : UInt8) (r : List UInt8) : unb (x :: r) 0 = ((x.toNat : Nat) : Int) := rfl
theorem nb1 (x y : UInt8) (r : List UInt8) : unb (x :: y :: r) 1 = ((y.toNat : Nat) : Int) := rfl

theorem m1 (x : UInt8) (r : List UInt8) (h : ((x.toNat : Nat) : Int) ≤ 127) : okL (x :: r) 1 ((x.toNat : Nat) : Int) = true ∧ sizeL (x :: r) = 1 := by
  refine ⟨?_, szc_0 _ (by rw [nb0]; omega) (by rw [nb0]; omega)⟩
  have h1 : ¬ ((x.toNat : Nat) : Int) > 1114111 := by omega
  have h2 : ¬ ((x.toNat : Nat) : Int) ≥ 55296 := by omega
  have h3 : ((x.toNat : Nat) : Int) < 128 := by omega
  simp [okL, putI, h1, h2, h3, ub_nat]

theorem m2 (x : UInt8) (r : List UInt8) (h1 : 192 ≤ ((x.toNat : Nat) : Int)) (h2 : ((x.toNat : Nat) : Int) ≤ 223) :
    (decide (2 ≤ (x :: r).length) && (conts r 1 && okL (x :: r) 2 (cdec (((x.toNat : Nat) : Int) - 192) r 1))) = (sizeL (x :: r) == 2) ∧ (sizeL (x :: r) = 2 ∨ sizeL (x :: r) = 0) := by
  match r with
  | [] =>
    have : sizeL [x] = 0 := by
      by_cases g : unb [x] 0 ≤ 193
      · exact szc_1 _ (by rw [nb0]; omega) g
      · rw [szc_2 _ (by omega) (by rw [nb0]; omega)]; simp [tailL]
    simp [this]
  | y :: r =>
    have hy : y.toNat < 256 := UInt8.toNat_lt _
    simp only [conts, contB, Bool.and_true, cdec]
    by_cases g1 : ((y.toNat : Nat) : Int) < 128
    · have : sizeL (x :: y :: r) = 0 := by
        by_cases g : unb (x :: y :: r) 0 ≤ 193
        · exact szc_1 _ (by rw [nb0]; omega) g
        · rw [szc_2 _ (by omega) (by rw [nb0]; omega)]; simp [tailL, nb1, g1]
      simp [this, g1]
    · by_cases g2 : ((y.toNat : Nat) : Int) > 191
      · have : sizeL (x :: y :: r) = 0 := by
          by_cases g : unb (x :: y :: r) 0 ≤ 193
          · exact szc_1 _ (by rw [nb0]; omega) g
          · rw [szc_2 _ (by omega) (by rw [nb0]; omega)]; simp [tailL, nb1, g2]
        simp [this, g2]
      · generalize hc : 64 * (((x.toNat : Nat) : Int) - 192) + ((y.toNat : Nat) : Int) - 128 = c
        have k1 : ¬ c > 1114111 := by omega
        have k2 : ¬ c ≥ 55296 := by omega
        by_cases g : ((x.toNat : Nat) : Int) ≤ 193
        · have e : sizeL (x :: y :: r) = 0 := szc_1 _ (by rw [nb0]; omega) (by rw [nb0]; omega)
          have k3 : c < 128 := by omega
          simp [e, okL, putI, k3]
        · have e : sizeL (x :: y :: r) = 2 := by
            rw [szc_2 _ (by rw [nb0]; omega) (by rw [nb0]; omega)]; simp [tailL, nb1, g1, g2, conts]
          have k3 : ¬ c < 128 := by omega
          have k4 : c < 2048 := by omega
          have e1 : 192 + c / 64 = ((x.toNat : Nat) : Int) := by omega
          have e2 : 128 + c % 64 = ((y.toNat : Nat) : Int) := by omega
          simp [e, okL, putI, k1, k2, k3, k4, e1, e2, ub_nat, g1, g2]

theorem sz3 (x : UInt8) (r : List UInt8) (h1 : 224 ≤ ((x.toNat : Nat) : Int)) (h2 : ((x.toNat : Nat) : Int) ≤ 239) :
    sizeL (x :: r) = if tailL (x :: r) 2 (if ((x.toNat : Nat) : Int) = 224 then 160 else 128) (if ((x.toNat : Nat) : Int) = 237 then 159 else 191) then 3 else 0 := by
  by_cases a : ((x.toNat : Nat) : Int) = 224
  · have b : ¬ ((x.toNat : Nat) : Int) = 237 := by omega
    rw [szc_3 _ (by rw [nb0]; omega) (by rw [nb0]; omega), if_pos a, if_neg b]
  · by_cases b : ((x.toNat : Nat) : Int) = 237
    · rw [szc_5 _ (by rw [nb0]; omega) (by rw [nb0]; omega), if_neg a, if_pos b]
    · rw [if_neg a, if_neg b]
      by_cases c : ((x.toNat : Nat) : Int) ≤ 236
      · exact szc_4 _ (by rw [nb0]; omega) (by rw [nb0]; omega)
      · exact szc_6 _ (by rw [nb0]; omega) (by rw [nb0]; omega)
theorem sz4 (x : UInt8) (r : List UInt8) (h1 : 240 ≤ ((x.toNat : Nat) : Int)) (h2 : ((x.toNat : Nat) : Int) ≤ 247) :
    sizeL (x :: r) = if (decide (((x.toNat : Nat) : Int) ≤ 244) && tailL (x :: r) 3 (if ((x.toNat : Nat) : Int) = 240 then 144 else 128) (if ((x.toNat : Nat) : Int) = 244 then 143 else 191)) then 4 else 0 := by
  by_cases a : ((x.toNat : Nat) : Int) = 240
  · have q : ((x.toNat : Nat) : Int) ≤ 244 := by omega
    have b : ¬ ((x.toNat : Nat) : Int) = 244 := by omega
    rw [szc_7 _ (by rw [nb0]; omega) (by rw [nb0]; omega), if_pos a, if_neg b, decide_eq_true q, Bool.true_and]
  · by_cases b : ((x.toNat : Nat) : Int) = 244
    · have q : ((x.toNat : Nat) : Int) ≤ 244 := by omega
      rw [szc_9 _ (by rw [nb0]; omega) (by rw [nb0]; omega), if_neg a, if_pos b, decide_eq_true q, Bool.true_and]
    · rw [if_neg a, if_neg b]
      by_cases c : ((x.toNat : Nat) : Int) ≤ 243
      · have q : ((x.toNat : Nat) : Int) ≤ 244 := by omega
        rw [szc_8 _ (by rw [nb0]; omega) (by rw [nb0]; omega), decide_eq_true q, Bool.true_and]
      · have q : ¬ ((x.toNat : Nat) : Int) ≤ 244 := by omega
        rw [szc_10 _ (by rw [nb0]; omega) (by rw [nb0]; omega), decide_eq_false q, Bool.false_and, if_neg (by simp)]

theorem m3 (x : UInt8) (r : List UInt8) (h1 : 224 ≤ ((x.toNat : Nat) : Int)) (h2 : ((x.toNat : Nat) : Int) ≤ 239) :
    (decide (3 ≤ (x :: r).length) && (conts r 2 && okL (x :: r) 3 (cdec (((x.toNat : Nat) : Int) - 224) r 2))) = (sizeL (x :: r) == 3) ∧ (sizeL (x :: r) = 3 ∨ sizeL (x :: r) = 0) := by
  refine ⟨?_, by rw [sz3 x r h1 h2]; split <;> simp⟩
  rw [sz3 x r h1 h2]
  match r with
  | [] => simp [tailL]
  | [y] => simp [tailL, conts]
  | y :: z :: r =>
    have hy : y.toNat < 256 := UInt8.toNat_lt _
    have hz : z.toNat < 256 := UInt8.toNat_lt _
    have el : decide (3 ≤ (x :: y :: z :: r).length) = true := by simp
    have et : ∀ lo hi, tailL (x :: y :: z :: r) 2 lo hi = ((!decide (((y.toNat : Nat) : Int) < lo) && !decide (((y.toNat : Nat) : Int) > hi)) && contB z.toNat) := by
      intro lo hi; simp [tailL, nb1, conts] <;> rfl
    rw [el, et]
    simp only [conts, Bool.and_true, Bool.true_and, cdec, contB]
    generalize hX : ((x.toNat : Nat) : Int) = X at *
    generalize hY : ((y.toNat : Nat) : Int) = Y at *
    generalize hZ : ((z.toNat : Nat) : Int) = Z at *
    generalize hc : 64 * (64 * (X - 224) + Y - 128) + Z - 128 = c
    have ux : ub X = x := by rw [← hX]; exact ub_nat x
    have uy : ub Y = y := by rw [← hY]; exact ub_nat y
    have uz : ub Z = z := by rw [← hZ]; exact ub_nat z
    by_cases z1 : Z < 128
    · simp [z1]
    by_cases z2 : Z > 191
    · simp [z2]
    by_cases y1 : Y < 128
    · have : Y < (if X = 224 then 160 else 128) := by split <;> omega
      simp [y1, this]
    by_cases y2 : Y > 191
    · have : Y > (if X = 237 then 159 else 191) := by split <;> omega
      simp [y2, this]
    have k1 : ¬ c > 1114111 := by omega
    simp only [z1, z2, y1, y2, k1, okL, decide_false, decide_true, Bool.not_false, Bool.not_true, Bool.true_and, Bool.and_true, Bool.false_or]
    by_cases a : X = 224
    · have b : ¬ X = 237 := by omega
      have s1 : ¬ c ≥ 55296 := by omega
      simp only [if_pos a, if_neg b, y2, s1, decide_false, Bool.not_false, Bool.and_true, Bool.false_and, Bool.true_and]
      by_cases q : Y < 160
      · have p1 : c < 2048 := by omega
        by_cases p0 : c < 128
        · simp [putI, p0, q]
        · simp [putI, p0, p1, q]
      · have p1 : ¬ c < 2048 := by omega
        have p0 : ¬ c < 128 := by omega
        have p2 : c < 65536 := by omega
        have e1 : 224 + c / 4096 = X := by omega
        have e2 : 128 + c / 64 % 64 = Y := by omega
        have e3 : 128 + c % 64 = Z := by omega
        simp [putI, p0, p1, p2, e1, e2, e3, q, ux, uy, uz]
    · have p1 : ¬ c < 2048 := by omega
      have p0 : ¬ c < 128 := by omega
      have p2 : c < 65536 := by omega
      have e1 : 224 + c / 4096 = X := by omega
      have e2 : 128 + c / 64 % 64 = Y := by omega
      have e3 : 128 + c % 64 = Z := by omega
      have ep : ((putI c).map ub == (x :: y :: z :: r).take 3) = true := by simp [putI, p0, p1, p2, e1, e2, e3, ux, uy, uz]
      rw [ep]
      by_cases b : X = 237
      · simp only [if_neg a, if_pos b, y1, decide_false, Bool.not_false, Bool.and_true, Bool.true_and]
        by_cases q : Y > 159
        · have s1 : c ≥ 55296 := by omega
          have s2 : c < 57344 := by omega
          simp [s1, s2, q]
        · have s1 : ¬ c ≥ 55296 := by omega
          simp [s1, q]
      · simp only [if_neg a, if_neg b, y1, y2, decide_false, Bool.not_false, Bool.and_true, Bool.true_and]
        by_cases s1 : c ≥ 55296
        · have s2 : ¬ c < 57344 := by omega
          simp [s1, s2]
        · simp [s1]

theorem m4 (x : UInt8) (r : List UInt8) (h1 : 240 ≤ ((x.toNat : Nat) : Int)) (h2 : ((x.toNat : Nat) : Int) ≤ 247) :
    (decide (4 ≤ (x :: r).length) && (conts r 3 && okL (x :: r) 4 (cdec (((x.toNat : Nat) : Int) - 240) r 3))) = (sizeL (x :: r) == 4) ∧ (sizeL (x :: r) = 4 ∨ sizeL (x :: r) = 0) := by
  refine ⟨?_, by rw [sz4 x r h1 h2]; split <;> simp⟩
  rw [sz4 x r h1 h2]
  match r with
  | [] => simp [tailL]
  | [y] => simp [tailL, conts]
  | [y, z] => simp [tailL, conts]
  | y :: z :: w :: r =>
    have hy : y.toNat < 256 := UInt8.toNat_lt _
    have hz : z.toNat < 256 := UInt8.toNat_lt _
    have hw : w.toNat < 256 := UInt8.toNat_lt _
    have el : decide (4 ≤ (x :: y :: z :: w :: r).length) = true := by simp
    have et : ∀ lo hi, tailL (x :: y :: z :: w :: r) 3 lo hi = ((!decide (((y.toNat : Nat) : Int) < lo) && !decide (((y.toNat : Nat) : Int) > hi)) && (contB z.toNat && contB w.toNat)) := by
      intro lo hi; simp [tailL, nb1, conts] <;> rfl
    rw [el, et]
    simp only [conts, Bool.and_true, Bool.true_and, cdec, contB]
    generalize hX : ((x.toNat : Nat) : Int) = X at *
    generalize hY : ((y.toNat : Nat) : Int) = Y at *
    generalize hZ : ((z.toNat : Nat) : Int) = Z at *
    generalize hW : ((w.toNat : Nat) : Int) = W at *
    generalize hc : 64 * (64 * (64 * (X - 240) + Y - 128) + Z - 128) + W - 128 = c
    have ux : ub X = x := by rw [← hX]; exact ub_nat x
    have uy : ub Y = y := by rw [← hY]; exact ub_nat y
    have uz : ub Z = z := by rw [← hZ]; exact ub_nat z
    have uw : ub W = w := by rw [← hW]; exact ub_nat w
    by_cases w1 : W < 128
    · simp [w1]
    by_cases w2 : W > 191
    · simp [w2]
    by_cases z1 : Z < 128
    · simp [z1]
    by_cases z2 : Z > 191
    · simp [z2]
    by_cases y1 : Y < 128
    · have : Y < (if X = 240 then 144 else 128) := by split <;> omega
      simp [y1, this]
    by_cases y2 : Y > 191
    · have : Y > (if X = 244 then 143 else 191) := by split <;> omega
      simp [y2, this]
    simp only [w1, w2, z1, z2, y1, y2, okL, decide_false, decide_true, Bool.not_false, Bool.not_true, Bool.true_and, Bool.and_true, Bool.false_or]
    by_cases a : X = 240
    · have b : ¬ X = 244 := by omega
      have k1 : ¬ c > 1114111 := by omega
      have xl : X ≤ 244 := by omega
      simp only [if_pos a, if_neg b, y2, k1, xl, decide_true, decide_false, Bool.not_false, Bool.and_true, Bool.true_and, Bool.false_or]
      by_cases q : Y < 144
      · have p2 : c < 65536 := by omega
        by_cases p0 : c < 128
        · simp [putI, p0, q]
        · by_cases p1 : c < 2048
          · simp [putI, p0, p1, q]
          · simp [putI, p0, p1, p2, q]
      · have p2 : ¬ c < 65536 := by omega
        have p1 : ¬ c < 2048 := by omega
        have p0 : ¬ c < 128 := by omega
        have s2 : ¬ c < 57344 := by omega
        have e1 : 240 + c / 262144 = X := by omega
        have e2 : 128 + c / 4096 % 64 = Y := by omega
        have e3 : 128 + c / 64 % 64 = Z := by omega
        have e4 : 128 + c % 64 = W := by omega
        simp [putI, p0, p1, p2, e1, e2, e3, e4, q, ux, uy, uz, uw, s2]
    · have p2 : ¬ c < 65536 := by omega
      have p1 : ¬ c < 2048 := by omega
      have p0 : ¬ c < 128 := by omega
      have s2 : ¬ c < 57344 := by omega
      have e1 : 240 + c / 262144 = X := by omega
      have e2 : 128 + c / 4096 % 64 = Y := by omega
      have e3 : 128 + c / 64 % 64 = Z := by omega
      have e4 : 128 + c % 64 = W := by omega
      have ep : ((putI c).map ub == (x :: y :: z :: w :: r).take 4) = true := by simp [putI, p0, p1, p2, e1, e2, e3, e4, ux, uy, uz, uw]
      rw [ep]
      by_cases b : X = 244
      · have xl : X ≤ 244 := by omega
        simp only [if_neg a, if_pos b, y1, xl, decide_true, decide_false, Bool.not_false, Bool.and_true, Bool.true_and]
        by_cases q : Y > 143
        · have k1 : c > 1114111 := by omega
          simp [k1, q]
        · have k1 : ¬ c > 1114111 := by omega
          simp [k1, q, s2]
      · simp only [if_neg a, if_neg b, y1, y2, decide_false, Bool.not_false, Bool.and_true, Bool.true_and]
        by_cases xl : X ≤ 244
        · have k1 : ¬ c > 1114111 := by omega
          simp [k1, xl, s2]
        · have k1 : c > 1114111 := by omega
          simp [k1, xl]
end Go.Pe.T

namespace Go.Pe.T

theorem sg_bad1 (s : ByteArray) (hs : s.size ≤ 2097152) (l : List Int) (i : Nat) (hi : i < s.size) (h1 : ((s[i].toNat : Nat) : Int) ≥ 128) (h2 : ((s[i].toNat : Nat) : Int) ≤ 191) : V (F tab) r33_B0 (r33_S0 (.d (.str s)) (.own 3 (l.map iv)) (.d (iv i)) []) = some (.ret, r33_R (.d (.sl [])) (.d (.bool false)) []) := by
  have q1 : ((i : Int) < (s.size : Int)) = True := eq_true (by omega)
  have hi0 : (0 ≤ (i : Int)) = True := eq_true (by omega)
  obtain ⟨va, vd⟩ := bs_get hi
  have xa : (((s[i].toNat : Nat) : Int) ≥ 240) = False := eq_false (by omega)
  have xd : (((s[i].toNat : Nat) : Int) ≥ 224) = False := eq_false (by omega)
  have xe : (((s[i].toNat : Nat) : Int) ≥ 192) = False := eq_false (by omega)
  have xg : (((s[i].toNat : Nat) : Int) ≥ 248) = False := eq_false (by omega)
  have xh : (((s[i].toNat : Nat) : Int) ≥ 128) = True := eq_true (by omega)
  have xm : (((s[i].toNat : Nat) : Int) < 192) = True := eq_true (by omega)
  rw [r33_B0_eq]
  simp (disch := omega) only [go_sem, r33_C0, q1, hi0, va, xa, xd, xe, xg, xh, xm, w64]

theorem sg_bad2 (s : ByteArray) (hs : s.size ≤ 2097152) (l : List Int) (i : Nat) (hi : i < s.size) (h1 : ((s[i].toNat : Nat) : Int) ≥ 248) (h2 : ((s[i].toNat : Nat) : Int) ≤ 255) : V (F tab) r33_B0 (r33_S0 (.d (.str s)) (.own 3 (l.map iv)) (.d (iv i)) []) = some (.ret, r33_R (.d (.sl [])) (.d (.bool false)) []) := by
  have q1 : ((i : Int) < (s.size : Int)) = True := eq_true (by omega)
  have hi0 : (0 ≤ (i : Int)) = True := eq_true (by omega)
  obtain ⟨va, vd⟩ := bs_get hi
  have xa : (((s[i].toNat : Nat) : Int) ≥ 240) = True := eq_true (by omega)
  have xb : (((s[i].toNat : Nat) : Int) < 248) = False := eq_false (by omega)
  have xd : (((s[i].toNat : Nat) : Int) ≥ 224) = True := eq_true (by omega)
  have xe : (((s[i].toNat : Nat) : Int) ≥ 192) = True := eq_true (by omega)
  have xg : (((s[i].toNat : Nat) : Int) ≥ 248) = True := eq_true (by omega)
  have xh : (((s[i].toNat : Nat) : Int) ≥ 128) = True := eq_true (by omega)
  have xm : (((s[i].toNat : Nat) : Int) < 192) = False := eq_false (by omega)
  rw [r33_B0_eq]
  simp (disch := omega) only [go_sem, r33_C0, q1, hi0, va, xa, xb, xd, xe, xg, xh, xm, w64]

def SgIs (s : ByteArray) (l : List Int) (i k : Nat) : Prop :=
  if validF k ((bs s).drop i) = true then ∃ l' : List Int, V (F tab) r33_B0 (r33_S0 (.d (.str s)) (.own 3 (l.map iv)) (.d (iv i)) []) = some (.norm, r33_E0 (.own 3 (l'.map iv)) [])
  else V (F tab) r33_B0 (r33_S0 (.d (.str s)) (.own 3 (l.map iv)) (.d (iv i)) []) = some (.ret, r33_R (.d (.sl [])) (.d (.bool false)) [])
theorem sgis_end (s : ByteArray) (l : List Int) (i k : Nat) (hi : s.size ≤ i) : SgIs s l i k := by
  have h1 : ((i : Int) < (s.size : Int)) = False := eq_false (by omega)
  have e : validF k ((bs s).drop i) = true := by rw [bs_end hi]; cases k <;> rfl
  unfold SgIs
  rw [if_pos e]
  refine ⟨l, ?_⟩
  rw [r33_B0_eq]
  simp (disch := omega) only [go_sem, r33_C0, h1]
theorem sgis_of (s : ByteArray) (l : List Int) (i k n : Nat) (c : Int) (C : Bool) (hi : i < s.size) (hn : 0 < n)
    (hV : V (F tab) r33_B0 (r33_S0 (.d (.str s)) (.own 3 (l.map iv)) (.d (iv i)) []) = if C then V (F tab) r33_B0 (r33_S0 (.d (.str s)) (.own 3 ((l ++ [c]).map iv)) (.d (iv (i + n : Nat))) []) else some (.ret, r33_R (.d (.sl [])) (.d (.bool false)) []))
    (hC : C = (sizeL ((bs s).drop i) == n)) (h0 : sizeL ((bs s).drop i) = n ∨ sizeL ((bs s).drop i) = 0) (ih : SgIs s (l ++ [c]) (i + n) k) : SgIs s l i (k + 1) := by
  obtain ⟨va, vd⟩ := bs_get hi
  have ev : validF (k + 1) ((bs s).drop i) = if sizeL ((bs s).drop i) = 0 then false else validF k (((bs s).drop i).drop (sizeL ((bs s).drop i))) := by rw [vd]; rfl
  unfold SgIs at ih ⊢
  rcases h0 with h0 | h0
  · have e : C = true := by rw [hC, h0]; simp
    have e2 : validF (k + 1) ((bs s).drop i) = validF k ((bs s).drop (i + n)) := by
      rw [ev, h0, if_neg (show ¬ n = 0 by omega), List.drop_drop]
    rw [e2, hV, e]
    simp only [if_true]
    exact ih
  · have e : C = false := by rw [hC, h0]; simp; omega
    have e2 : validF (k + 1) ((bs s).drop i) = false := by rw [ev, h0, if_pos rfl]
    rw [e2, hV, e]
    simp
theorem sgis_bad (s : ByteArray) (l : List Int) (i k : Nat) (hi : i < s.size) (hV : V (F tab) r33_B0 (r33_S0 (.d (.str s)) (.own 3 (l.map iv)) (.d (iv i)) []) = some (.ret, r33_R (.d (.sl [])) (.d (.bool false)) [])) (h0 : sizeL ((bs s).drop i) = 0) : SgIs s l i (k + 1) := by
  obtain ⟨va, vd⟩ := bs_get hi
  have ev : validF (k + 1) ((bs s).drop i) = if sizeL ((bs s).drop i) = 0 then false else validF k (((bs s).drop i).drop (sizeL ((bs s).drop i))) := by rw [vd]; rfl
  unfold SgIs
  rw [ev, h0]
  simpa using hV
theorem sgis_step (s : ByteArray) (hs : s.size ≤ 2097152) (l : List Int) (i k : Nat) (hi : i < s.size) (hl : l.length ≤ i) (ih : ∀ (c : Int) (n : Nat), 0 < n → n ≤ 4 → SgIs s (l ++ [c]) (i + n) k) : SgIs s l i (k + 1) := by
  obtain ⟨va, vd⟩ := bs_get hi
  have hlen : (s[i] :: (bs s).drop (i + 1)).length = s.size - i := by rw [← vd, List.length_drop, bs_len]
  have hx : s[i].toNat < 256 := UInt8.toNat_lt _
  have dn : ∀ n, decide (i + n ≤ s.size) = decide (n ≤ (s[i] :: (bs s).drop (i + 1)).length) := by
    intro n; rw [hlen]; apply decide_eq_decide.2; omega
  have okE : ∀ n c, okC s i n c = okL (s[i] :: (bs s).drop (i + 1)) n c := by
    intro n c; unfold okC okL; rw [vd]
  by_cases h1 : ((s[i].toNat : Nat) : Int) ≤ 127
  · obtain ⟨a1, a2⟩ := m1 s[i] ((bs s).drop (i + 1)) h1
    refine sgis_of s l i k 1 _ _ hi (by omega) (sg_1 s hs l (by omega) i hi (by omega) h1) ?_ (by rw [vd, a2]; simp) (ih _ 1 (by omega) (by omega))
    rw [vd, a2, okE, conts, cdec, a1]
    simp; omega
  by_cases h2 : ((s[i].toNat : Nat) : Int) ≤ 191
  · exact sgis_bad s l i k hi (sg_bad1 s hs l i hi (by omega) h2) (by rw [vd]; exact szc_1 _ (by rw [nb0]; omega) (by rw [nb0]; omega))
  by_cases h3 : ((s[i].toNat : Nat) : Int) ≤ 223
  · obtain ⟨a1, a2⟩ := m2 s[i] ((bs s).drop (i + 1)) (by omega) h3
    refine sgis_of s l i k 2 _ _ hi (by omega) (sg_2 s hs l (by omega) i hi (by omega) h3) ?_ (by rw [vd]; exact a2) (ih _ 2 (by omega) (by omega))
    rw [vd, okE, dn]; exact a1
  by_cases h4 : ((s[i].toNat : Nat) : Int) ≤ 239
  · obtain ⟨a1, a2⟩ := m3 s[i] ((bs s).drop (i + 1)) (by omega) h4
    refine sgis_of s l i k 3 _ _ hi (by omega) (sg_3 s hs l (by omega) i hi (by omega) h4) ?_ (by rw [vd]; exact a2) (ih _ 3 (by omega) (by omega))
    rw [vd, okE, dn]; exact a1
  by_cases h5 : ((s[i].toNat : Nat) : Int) ≤ 247
  · obtain ⟨a1, a2⟩ := m4 s[i] ((bs s).drop (i + 1)) (by omega) h5
    refine sgis_of s l i k 4 _ _ hi (by omega) (sg_4 s hs l (by omega) i hi (by omega) h5) ?_ (by rw [vd]; exact a2) (ih _ 4 (by omega) (by omega))
    rw [vd, okE, dn]; exact a1
  · exact sgis_bad s l i k hi (sg_bad2 s hs l i hi (by omega) (by omega)) (by rw [vd]; exact szc_10 _ (by rw [nb0]; omega) (by rw [nb0]; omega))
theorem sgis_all (s : ByteArray) (hs : s.size ≤ 2097152) : ∀ (k i : Nat) (l : List Int), s.size ≤ i + k → l.length ≤ i → SgIs s l i k
  | 0, i, l, h, hl => sgis_end s l i 0 (by omega)
  | k + 1, i, l, h, hl => by
    by_cases hi : s.size ≤ i
    · exact sgis_end s l i _ hi
    · exact sgis_step s hs l i k (by omega) hl fun c n h1 h2 => sgis_all s hs k (i + n) (l ++ [c]) (by omega) (by simp; omega)

theorem rsigns_bool (s : ByteArray) (hs : s.size ≤ 2097152) : ∃ x : D, ∀ hp, F tab 33 [.d (.str s)] hp = some (.ret (.tup [.d x, .d (.bool (validB s))]) hp) := by
  have hL := sgis_all s hs s.size 0 [] (by omega) (by simp)
  unfold SgIs at hL
  rw [List.drop_zero] at hL
  unfold validB
  rcases Bool.eq_false_or_eq_true (validF s.size (bs s)) with g | g
  · rw [if_pos g] at hL
    obtain ⟨l', hL⟩ := hL
    refine ⟨.sl (l'.map iv), fun hp => f33 rfl ?_⟩
    rw [g]
    simp (disch := omega) only [go_sem, r33_T, r33]
    rw [r33_B0_n, r33_B0_z4]
    erw [hL]
    simp (disch := omega) only [go_sem]
  · rw [if_neg (by simp [g])] at hL
    refine ⟨.sl [], fun hp => f33 rfl ?_⟩
    rw [g]
    simp (disch := omega) only [go_sem, r33_T, r33]
    rw [r33_B0_n, r33_B0_z4]
    erw [hL]
    simp (disch := omega) only [go_sem]
end Go.Pe.T

namespace Go.Pe.T
theorem put_enc (c : Nat) (h1 : c ≤ 1114111) (h2 : ¬ (55296 ≤ c ∧ c ≤ 57343)) : (putI (c : Int)).map (D.int .u8) = bytesD (encL (c : Int)) := by
  have hv : Utf8.valid (c : Int) = true := by
    unfold Utf8.valid
    simp
    omega
  have ub : ∀ n : Nat, n < 256 → (UInt8.ofNat n).toNat = n := fun n hn => by
    rw [UInt8.toNat_ofNat']
    exact Nat.mod_eq_of_lt hn
  have hd : ∀ n : Nat, n < 256 → D.int .u8 ((UInt8.ofNat n).toNat : Int) = D.int .u8 (n : Int) := fun n hn => by rw [ub n hn]
  unfold encL Utf8.encode putI
  simp only [hv, if_true, Int.toNat_natCast]
  by_cases g1 : c < 128
  · have a1 : ((c : Int) < 128) = True := eq_true (by omega)
    have b1 : (c < 128) = True := eq_true g1
    simp only [a1, b1, if_true, bytesD, List.map_cons, List.map_nil]
    rw [hd _ (by omega)]
  · have a1 : ((c : Int) < 128) = False := eq_false (by omega)
    have b1 : (c < 128) = False := eq_false g1
    by_cases g2 : c < 2048
    · have a2 : ((c : Int) < 2048) = True := eq_true (by omega)
      have b2 : (c < 2048) = True := eq_true g2
      simp only [a1, b1, a2, b2, if_true, if_false, bytesD, List.map_cons, List.map_nil]
      rw [hd (192 + c / 64) (by omega), hd (128 + c % 64) (by omega)]
      rfl
    · have a2 : ((c : Int) < 2048) = False := eq_false (by omega)
      have b2 : (c < 2048) = False := eq_false g2
      by_cases g3 : c < 65536
      · have a3 : ((c : Int) < 65536) = True := eq_true (by omega)
        have b3 : (c < 65536) = True := eq_true g3
        simp only [a1, b1, a2, b2, a3, b3, if_true, if_false, bytesD, List.map_cons, List.map_nil]
        rw [hd (224 + c / 4096) (by omega), hd (128 + c / 64 % 64) (by omega), hd (128 + c % 64) (by omega)]
        rfl
      · have a3 : ((c : Int) < 65536) = False := eq_false (by omega)
        have b3 : (c < 65536) = False := eq_false g3
        simp only [a1, b1, a2, b2, a3, b3, if_true, if_false, bytesD, List.map_cons, List.map_nil]
        rw [hd (240 + c / 262144) (by omega), hd (128 + c / 4096 % 64) (by omega), hd (128 + c / 64 % 64) (by omega), hd (128 + c % 64) (by omega)]
        rfl
theorem rput_ok (c : Nat) (h1 : c ≤ 1114111) (h2 : ¬ (55296 ≤ c ∧ c ≤ 57343)) (hp : List Ent) : F tab 32 [.d (iv (c : Int))] hp = some (.ret (.d (.sl (bytesD (encL (c : Int))))) hp) := by
  rw [put_ok (c : Int) (by omega) (by omega), put_enc c h1 h2]
theorem surr_eq (a b : Nat) (ha : 55296 ≤ a ∧ a ≤ 56319) (hb : 56320 ≤ b ∧ b ≤ 57343) : surr (a : Int) (b : Int) = ((65536 + 1024 * (a - 55296) + (b - 56320) : Nat) : Int) := by
  have w : ∀ n : Int, 0 ≤ n → n < 2147483648 → IntKind.i32.wrap n = n := by
    intro n h1 h2
    simp only [IntKind.wrap, IntKind.bits, IntKind.signed, Bool.true_and, ge_iff_le, decide_eq_true_eq]
    have e1 : (2 : Int) ^ 32 = 4294967296 := by decide
    have e2 : (2 : Int) ^ (32 - 1) = 2147483648 := by decide
    rw [e1, e2, Int.emod_eq_of_lt h1 (by omega), if_neg (by omega)]
  have hs : shlI (IntKind.i32.wrap ((a : Int) - 55296)) 10 = ((a : Int) - 55296) * 1024 := by
    unfold shlI
    have e : min 10 IntKind.i32.bits = 10 := rfl
    have e2 : (2 : Int) ^ 10 = 1024 := by decide
    rw [w ((a : Int) - 55296) (by omega) (by omega), e, e2, w _ (by omega) (by omega)]
  unfold surr
  rw [hs, w ((b : Int) - 56320) (by omega) (by omega), w (65536 + _) (by omega) (by omega), w _ (by omega) (by omega)]
  omega
theorem all_w1 (l : List UInt8) : (bytesD l).all (fun y => y.width == 1) = true := by
  unfold bytesD
  rw [List.all_map]
  exact List.all_eq_true.2 fun x _ => rfl
abbrev ruS (T out : List UInt8) (lone : Bool) (i : Nat) : St := r18_S0 (.d (.str (bt T))) (.own 5 (bytesD out)) (.d (.bool lone)) (.d (iv i)) []
abbrev ruB (x : Option (Ex × St)) : Option (Ex × St) := blockK 1 [.keep, .kill, .kill, .kill, .norm 5, .keep, .keep] x
theorem ru_k5 (T out : List UInt8) (ho : out.length ≤ 10000000) (lone : Bool) (i a : Nat) (ha : a ≤ 65535) : ruB (V (F tab) (r18_K5 ()) (r18_J5 (.d (.str (bt T))) (.own 5 (bytesD out)) (.d (.bool lone)) (.d (iv i)) (.d (iv (a : Int))) [])) = some (.norm, if 55296 ≤ a ∧ a ≤ 57343 then ruS T out true i else ruS T (out ++ encL (a : Int)) lone i) := by
  by_cases h1 : 55296 ≤ a
  · have g1 : ((a : Int) ≥ 55296) = True := eq_true (by omega)
    by_cases h2 : a ≤ 57343
    · have g2 : ((a : Int) < 57344) = True := eq_true (by omega)
      rw [if_pos ⟨h1, h2⟩]
      simp (disch := omega) only [go_sem, r18_K5, g1, g2]
    · have g2 : ((a : Int) < 57344) = False := eq_false (by omega)
      have hpt := rput_ok a (by omega) (by omega)
      rw [if_neg (by omega)]
      have hl1 := bytesD_len out
      have hl2 := bytesD_len (encL (a : Int))
      have hle := encL_len (a : Int)
      have hrow : ((out.length + (encL (a : Int)).length) * 1 ≤ maxRow) = True := eq_true (by unfold maxRow; omega)
      have hall := all_w1 (encL (a : Int))
      have happ := bytesD_app out (encL (a : Int))
      simp (disch := omega) only [go_sem, r18_K5, g1, g2, hpt, hl1, hl2, hrow, hall, happ]
  · have g1 : ((a : Int) ≥ 55296) = False := eq_false (by omega)
    have hpt := rput_ok a (by omega) (by omega)
    rw [if_neg (by omega)]
    have hl1 := bytesD_len out
    have hl2 := bytesD_len (encL (a : Int))
    have hle := encL_len (a : Int)
    have hrow : ((out.length + (encL (a : Int)).length) * 1 ≤ maxRow) = True := eq_true (by unfold maxRow; omega)
    have hall := all_w1 (encL (a : Int))
    have happ := bytesD_app out (encL (a : Int))
    simp (disch := omega) only [go_sem, r18_K5, g1, hpt, hl1, hl2, hrow, hall, happ]
end Go.Pe.T

namespace Go.Pe.T
theorem fourF_nat : ∀ (m : Nat) (R : List UInt8) (a : Nat) (n : Int), (a + 1) * 16 ^ m ≤ 65536 → m ≤ 4 → fourF m R (a : Int) = some n → ∃ b : Nat, n = (b : Int) ∧ b < 65536
  | 0, R, a, n, h, _, e => by
    simp only [fourF, Option.some.injEq] at e
    exact ⟨a, e.symm, by simp at h; omega⟩
  | m + 1, [], a, n, h, _, e => by simp [fourF] at e
  | m + 1, c :: r, a, n, h, hm, e => by
    rw [fourF] at e
    cases hp : hexP c with
    | none => rw [hp] at e; cases e
    | some d =>
      rw [hp] at e
      obtain ⟨d0, d1⟩ := (hex_same c).2 d hp
      obtain ⟨k, rfl⟩ : ∃ k : Nat, d = (k : Int) := ⟨d.toNat, by omega⟩
      have hpow : 1 ≤ 16 ^ m := Nat.one_le_pow _ _ (by decide)
      have h2 : (a + 1) * 16 * 16 ^ m ≤ 65536 := by rw [Nat.pow_succ, Nat.mul_comm (16 ^ m) 16, ← Nat.mul_assoc] at h; exact h
      have h3 : (a + 1) * 16 ≤ 65536 := Nat.le_trans (Nat.le_mul_of_pos_right _ hpow) h2
      have e2 : fourF m r (stR (a : Int) (k : Int)) = some n := e
      rw [stR_add a k (by omega) (by omega)] at e2
      refine fourF_nat m r (16 * a + k) n (Nat.le_trans (Nat.mul_le_mul_right _ ?_) h2) (by omega) e2
      omega
theorem fourP_nat {R R' : List UInt8} {n : Int} (h : fourP R = some (n, R')) : ∃ b : Nat, n = (b : Int) ∧ b < 65536 := by
  have hf := fourF_eq R
  rw [h] at hf
  exact fourF_nat 4 R 0 n (by decide) (by omega) hf.symm
def pairQ (a : Int) (R1 out : List UInt8) (lone : Bool) : Option (List UInt8 × List UInt8 × Bool) :=
  if a < 55296 ∨ a > 57343 then some (R1, out ++ encL a, lone)
  else if a > 56319 ∨ preU R1 = false then some (R1, out, true)
  else match fourP (R1.drop 2) with
    | none => none
    | some (b, R2) => if b < 56320 ∨ b > 57343 then some (R1, out, true) else some (R2, out ++ encL (surr a b), lone)
theorem pairP_eq (R out : List UInt8) (lone : Bool) : pairP R out lone = match fourP R with | none => none | some (a, R1) => pairQ a R1 out lone := rfl
attribute [irreducible] pairQ
def RuOut (T : List UInt8) (o : Option (List UInt8 × List UInt8 × Bool)) (x : Option (Ex × St)) : Prop :=
  match o with
  | some (R', out', lone') => ∃ i', i' ≤ T.length ∧ T.drop i' = R' ∧ x = some (.norm, ruS T out' lone' i')
  | none => x = some (.ret, r18_R (.d (.str ⟨#[]⟩)) (.d (iv 3)) [])
theorem preU_get (T : List UInt8) (i : Nat) : preU (T.drop i) = (T[i]? == some 92 && T[i + 1]? == some 117) := by
  unfold preU
  have h0 : (T.drop i)[0]? = T[i]? := by rw [List.getElem?_drop]; rfl
  have h1 : (T.drop i)[1]? = T[i + 1]? := by rw [List.getElem?_drop]
  generalize T.drop i = R at *
  rw [← h0, ← h1]
  match R with
  | [] => rfl
  | [a] => simp
  | a :: b :: r => simp
set_option maxHeartbeats 1000000 in
theorem ru_k7 (T out : List UInt8) (ho : out.length ≤ 10000000) (hT : T.length ≤ 100000) (lone : Bool) (i a : Nat) (hi : i + 6 ≤ T.length) (ha : a < 65536) :
    RuOut T (pairQ (a : Int) (T.drop (i + 6)) out lone) (ruB (V (F tab) (r18_K7 ()) (r18_J7 (.d (.str (bt T))) (.own 5 (bytesD out)) (.d (.bool lone)) (.d (iv i)) (.d (iv (a : Int))) []))) := by
  have hz := bt_size T
  have e6 : (i : Int) + 6 = ((i + 6 : Nat) : Int) := rfl
  have e7 : ((i + 6 : Nat) : Int) + 1 = ((i + 7 : Nat) : Int) := rfl
  have e8 : ((i + 6 : Nat) : Int) + 2 = ((i + 8 : Nat) : Int) := rfl
  have e12 : ((i + 6 : Nat) : Int) + 6 = ((i + 12 : Nat) : Int) := rfl
  have k5 := ru_k5 T out ho lone (i + 6) a (by omega)
  have p6 : (0 ≤ ((i + 6 : Nat) : Int)) = True := eq_true (by omega)
  have p7 : (0 ≤ ((i + 7 : Nat) : Int)) = True := eq_true (by omega)
  unfold ruB at k5 ⊢
  have toK5 : V (F tab) (r18_K7 ()) (r18_J7 (.d (.str (bt T))) (.own 5 (bytesD out)) (.d (.bool lone)) (.d (iv i)) (.d (iv (a : Int))) []) = V (F tab) (r18_K5 ()) (r18_J5 (.d (.str (bt T))) (.own 5 (bytesD out)) (.d (.bool lone)) (.d (iv (i + 6 : Nat))) (.d (iv (a : Int))) []) →
      (if a < 55296 ∨ a > 57343 then True else pairQ (a : Int) (T.drop (i + 6)) out lone = some (T.drop (i + 6), out, true)) →
      RuOut T (pairQ (a : Int) (T.drop (i + 6)) out lone) (blockK 1 [.keep, .kill, .kill, .kill, .norm 5, .keep, .keep] (V (F tab) (r18_K7 ()) (r18_J7 (.d (.str (bt T))) (.own 5 (bytesD out)) (.d (.bool lone)) (.d (iv i)) (.d (iv (a : Int))) []))) := by
    intro hv hq
    rw [hv, k5]
    by_cases hr : a < 55296 ∨ a > 57343
    · have e : pairQ (a : Int) (T.drop (i + 6)) out lone = some (T.drop (i + 6), out ++ encL (a : Int), lone) := by
        unfold pairQ
        rw [if_pos (by omega)]
      rw [e, if_neg (by omega)]
      exact ⟨i + 6, hi, rfl, rfl⟩
    · rw [if_neg hr] at hq
      rw [hq, if_pos (by omega)]
      exact ⟨i + 6, hi, rfl, rfl⟩
  by_cases h1 : 55296 ≤ a
  · have g1 : ((a : Int) ≥ 55296) = True := eq_true (by omega)
    by_cases h2 : a ≤ 56319
    · have g2 : ((a : Int) < 56320) = True := eq_true (by omega)
      have npq : preU (T.drop (i + 6)) = false → pairQ (a : Int) (T.drop (i + 6)) out lone = some (T.drop (i + 6), out, true) := fun hp => by
        unfold pairQ
        rw [if_neg (by omega), if_pos (.inr hp)]
      have hpre := preU_get T (i + 6)
      by_cases h3 : i + 7 < T.length
      · have g3 : (((i + 7 : Nat) : Int) < (T.length : Int)) = True := eq_true (by omega)
        have hx6 : T[i + 6]? = some T[i + 6] := List.getElem?_eq_getElem (by omega)
        have hx7 : T[i + 7]? = some T[i + 7] := List.getElem?_eq_getElem (by omega)
        have hg6 := bt_get T (i + 6)
        have hg7 := bt_get T (i + 7)
        rw [hx6] at hg6
        rw [hx7] at hg7
        rw [hx6, show i + 6 + 1 = i + 7 from rfl, hx7] at hpre
        have u6 : (((T[i + 6].toNat : Nat) : Int) == 92) = (T[i + 6] == 92) := u8_eq _ 92
        have u7 : (((T[i + 7].toNat : Nat) : Int) == 117) = (T[i + 7] == 117) := u8_eq _ 117
        generalize T[i + 6] = c6 at *
        generalize T[i + 7] = c7 at *
        rcases Bool.eq_false_or_eq_true (c6 == 92) with q6 | q6
        · rw [q6] at u6
          rcases Bool.eq_false_or_eq_true (c7 == 117) with q7 | q7
          · rw [q7] at u7
            have hpt : preU (T.drop (i + 6)) = true := by
              have r6 : c6 = 92 := by simpa using q6
              have r7 : c7 = 117 := by simpa using q7
              rw [hpre, r6, r7]; rfl
            have hfo := rfour_ok T hT (i + 8) (by omega)
            have hdd : (T.drop (i + 6)).drop 2 = T.drop (i + 8) := by rw [List.drop_drop]
            have hun : pairQ (a : Int) (T.drop (i + 6)) out lone = match fourP (T.drop (i + 8)) with
                | none => none
                | some (b, R2) => if b < 56320 ∨ b > 57343 then some (T.drop (i + 6), out, true) else some (R2, out ++ encL (surr a b), lone) := by
              unfold pairQ
              rw [if_neg (by omega), if_neg (by rw [hpt]; simp; omega), hdd]
            unfold fourI at hfo
            cases hq : fourP (T.drop (i + 8)) with
            | none =>
              rw [hq] at hfo hun
              rw [hun]
              have gm : ((-1 : Int) < 0) = True := eq_true (by decide)
              show _ = _
              simp (disch := omega) only [go_sem, r18_K7, r18_K3, hz, e6, e7, e8, g1, g2, g3, p6, p7, hg6, hg7, u6, u7, w64, hfo, gm]
            | some p =>
              obtain ⟨b, R2⟩ := p
              obtain ⟨k, rfl, hk⟩ := fourP_nat hq
              obtain ⟨hln, hR2⟩ := fourP_len hq
              rw [List.length_drop] at hln
              rw [hq] at hfo hun
              have gm : ((k : Int) < 0) = False := eq_false (by omega)
              by_cases b1 : 56320 ≤ k
              · have c1 : ((k : Int) ≥ 56320) = True := eq_true (by omega)
                by_cases b2 : k ≤ 57343
                · have c2 : ((k : Int) < 57344) = True := eq_true (by omega)
                  have hun2 : pairQ (a : Int) (T.drop (i + 6)) out lone = some (R2, out ++ encL (surr a k), lone) := by rw [hun]; simp only []; rw [if_neg (by omega)]
                  rw [hun2]
                  have hsu := surr_eq a k ⟨h1, h2⟩ ⟨b1, b2⟩
                  obtain ⟨s, hs⟩ : ∃ s, s = 65536 + 1024 * (a - 55296) + (k - 56320) := ⟨_, rfl⟩
                  rw [← hs] at hsu
                  have hpt2 := rput_ok s (by omega) (by omega)
                  have esum : 65536 + 1024 * ((a : Int) - 55296) + (k : Int) - 56320 = ((s : Nat) : Int) := by omega
                  have hl1 := bytesD_len out
                  have hl2 := bytesD_len (encL (s : Int))
                  have hle := encL_len (s : Int)
                  have hrow : ((out.length + (encL (s : Int)).length) * 1 ≤ maxRow) = True := eq_true (by unfold maxRow; omega)
                  have hall := all_w1 (encL (s : Int))
                  have happ := bytesD_app out (encL (s : Int))
                  refine ⟨i + 12, by omega, by rw [hR2, List.drop_drop], ?_⟩
                  rw [hsu]
                  simp (disch := omega) only [go_sem, r18_K7, r18_K3, hz, e6, e7, e8, e12, g1, g2, g3, p6, p7, hg6, hg7, u6, u7, w64, hfo, gm, c1, c2, esum, hpt2, hl1, hl2, hrow, hall, happ]
                · have c2 : ((k : Int) < 57344) = False := eq_false (by omega)
                  refine toK5 ?_ ?_
                  · simp (disch := omega) only [go_sem, r18_K7, r18_K3, hz, e6, e7, e8, g1, g2, g3, p6, p7, hg6, hg7, u6, u7, w64, hfo, gm, c1, c2]
                  · rw [if_neg (by omega), hun]; simp only []; rw [if_pos (by omega)]
              · have c1 : ((k : Int) ≥ 56320) = False := eq_false (by omega)
                refine toK5 ?_ ?_
                · simp (disch := omega) only [go_sem, r18_K7, r18_K3, hz, e6, e7, e8, g1, g2, g3, p6, p7, hg6, hg7, u6, u7, w64, hfo, gm, c1]
                · rw [if_neg (by omega), hun]; simp only []; rw [if_pos (by omega)]
          · rw [q7] at u7
            refine toK5 ?_ ?_
            · simp (disch := omega) only [go_sem, r18_K7, r18_K3, hz, e6, e7, g1, g2, g3, p6, p7, hg6, hg7, u6, u7, w64]
            · rw [if_neg (by omega)]
              refine npq ?_
              have r7 : c7 ≠ 117 := by simpa using q7
              rw [hpre]; simp [r7]
        · rw [q6] at u6
          refine toK5 ?_ ?_
          · simp (disch := omega) only [go_sem, r18_K7, r18_K3, hz, e6, e7, g1, g2, g3, p6, p7, hg6, hg7, u6, w64]
          · rw [if_neg (by omega)]
            refine npq ?_
            have r6 : c6 ≠ 92 := by simpa using q6
            rw [hpre]; simp [r6]
      · have g3 : (((i + 7 : Nat) : Int) < (T.length : Int)) = False := eq_false (by omega)
        have hx7 : T[i + 7]? = none := List.getElem?_eq_none (by omega)
        refine toK5 ?_ ?_
        · simp (disch := omega) only [go_sem, r18_K7, r18_K3, hz, e6, e7, g1, g2, g3, w64]
        · rw [if_neg (by omega)]
          refine npq ?_
          rw [hpre, show i + 6 + 1 = i + 7 from rfl, hx7]; simp
    · have g2 : ((a : Int) < 56320) = False := eq_false (by omega)
      refine toK5 ?_ ?_
      · simp (disch := omega) only [go_sem, r18_K7, r18_K3, hz, e6, e7, g1, g2, w64]
      · split
        · trivial
        · unfold pairQ
          rw [if_neg (by omega), if_pos (.inl (by omega))]
  · have g1 : ((a : Int) ≥ 55296) = False := eq_false (by omega)
    refine toK5 ?_ ?_
    · simp (disch := omega) only [go_sem, r18_K7, r18_K3, hz, e6, e7, g1, w64]
    · rw [if_pos (by omega)]; trivial
end Go.Pe.T

namespace Go.Pe.T
theorem ru_k8 (T out : List UInt8) (ho : out.length ≤ 10000000) (hT : T.length ≤ 100000) (lone : Bool) (i : Nat) (hi : i + 2 ≤ T.length) :
    RuOut T (pairP (T.drop (i + 2)) out lone) (ruB (V (F tab) (r18_K8 ()) (r18_J8 (.d (.str (bt T))) (.own 5 (bytesD out)) (.d (.bool lone)) (.d (iv i)) []))) := by
  have e2 : (i : Int) + 2 = ((i + 2 : Nat) : Int) := rfl
  have hfo := rfour_ok T hT (i + 2) (by omega)
  unfold fourI at hfo
  rw [pairP_eq]
  cases hq : fourP (T.drop (i + 2)) with
  | none =>
    rw [hq] at hfo
    have gm : ((-1 : Int) < 0) = True := eq_true (by decide)
    show ruB _ = _
    unfold ruB
    simp (disch := omega) only [go_sem, r18_K8, e2, w64, hfo, gm]
  | some p =>
    obtain ⟨b, R2⟩ := p
    obtain ⟨k, rfl, hk⟩ := fourP_nat hq
    obtain ⟨hln, hR2⟩ := fourP_len hq
    rw [List.length_drop] at hln
    rw [hq] at hfo
    have gm : ((k : Int) < 0) = False := eq_false (by omega)
    have k7 := ru_k7 T out ho hT lone i k (by omega) hk
    have hR : R2 = T.drop (i + 6) := by rw [hR2, List.drop_drop]
    subst hR
    have hv : V (F tab) (r18_K8 ()) (r18_J8 (.d (.str (bt T))) (.own 5 (bytesD out)) (.d (.bool lone)) (.d (iv i)) []) = V (F tab) (r18_K7 ()) (r18_J7 (.d (.str (bt T))) (.own 5 (bytesD out)) (.d (.bool lone)) (.d (iv i)) (.d (iv (k : Int))) []) := by
      simp (disch := omega) only [go_sem, r18_K8, e2, w64, hfo, gm]
    rw [hv]
    exact k7
theorem ru_k10 (T out : List UInt8) (ho : out.length ≤ 10000000) (hT : T.length ≤ 100000) (lone : Bool) (i : Nat) (hi : i < T.length) :
    RuOut T (escP (T.drop (i + 1)) out lone) (ruB (V (F tab) (r18_K10 ()) (r18_J10 (.d (.str (bt T))) (.own 5 (bytesD out)) (.d (.bool lone)) (.d (iv i)) []))) := by
  have hz := bt_size T
  have e1 : (i : Int) + 1 = ((i + 1 : Nat) : Int) := rfl
  have e2 : (i : Int) + 2 = ((i + 2 : Nat) : Int) := rfl
  have p1 : (0 ≤ ((i + 1 : Nat) : Int)) = True := eq_true (by omega)
  by_cases h : i + 1 < T.length
  · have g1 : (((i + 1 : Nat) : Int) ≥ (T.length : Int)) = False := eq_false (by omega)
    have hx : T[i + 1]? = some T[i + 1] := List.getElem?_eq_getElem h
    have hd : T.drop (i + 1) = T[i + 1] :: T.drop (i + 2) := List.drop_eq_getElem_cons h
    have hg := bt_get T (i + 1)
    rw [hx] at hg
    have u1 : (((T[i + 1].toNat : Nat) : Int) == 117) = (T[i + 1] == 117) := u8_eq _ 117
    have hlt := T[i + 1].toNat_lt
    have hsm := rsimple_ok (T[i + 1].toNat : Int) (by omega) (by omega)
    have hss := smp_same T[i + 1]
    rw [hd, escP]
    generalize T[i + 1] = c at *
    rcases Bool.eq_false_or_eq_true (c == 117) with q | q
    · rw [q] at u1
      rw [q, if_pos rfl]
      have k8 := ru_k8 T out ho hT lone i (by omega)
      have nu : ((((c.toNat : Nat) : Int)) != 117) = false := by rw [bne, u1]; rfl
      have hv : V (F tab) (r18_K10 ()) (r18_J10 (.d (.str (bt T))) (.own 5 (bytesD out)) (.d (.bool lone)) (.d (iv i)) []) = V (F tab) (r18_K8 ()) (r18_J8 (.d (.str (bt T))) (.own 5 (bytesD out)) (.d (.bool lone)) (.d (iv i)) []) := by
        simp (disch := omega) only [go_sem, r18_K10, r18_K9, hz, e1, g1, p1, hg, nu, w64]
      rw [hv]
      exact k8
    · rw [q] at u1
      rw [q, if_neg (by simp)]
      have nu : ((((c.toNat : Nat) : Int)) != 117) = true := by rw [bne, u1]; rfl
      obtain ⟨d, hd0⟩ := esc_some c
      unfold smpP at hss
      rw [hd0] at hss ⊢
      by_cases hn : Lib.indexByte escI c < 0
      · simp only [if_pos hn] at hss
        have hss : smpI (c.toNat : Int) = -1 := hss
        rw [hss] at hsm
        have gm : ((-1 : Int) < 0) = True := eq_true (by decide)
        simp only [if_pos hn]
        show ruB _ = _
        unfold ruB
        simp (disch := omega) only [go_sem, r18_K10, r18_K9, hz, e1, g1, p1, hg, nu, w64, hsm, gm]
      · simp only [if_neg hn] at hss
        have hss : smpI (c.toNat : Int) = (d.toNat : Int) := hss
        rw [hss] at hsm
        have hdl : d.toNat < 256 := d.toNat_lt
        have gm : ((d.toNat : Int) < 0) = False := eq_false (Int.not_lt.2 (Int.natCast_nonneg _))
        have hd8 : 0 ≤ (d.toNat : Int) ∧ (d.toNat : Int) ≤ 255 := ⟨Int.natCast_nonneg _, by have := Int.ofNat_lt.2 hdl; exact Int.le_of_lt_add_one this⟩
        simp only [if_neg hn]
        refine ⟨i + 2, by omega, rfl, ?_⟩
        unfold ruB
        have hl1 := bytesD_len out
        have hrow : ((out.length + 1) * 1 ≤ maxRow) = True := eq_true (by unfold maxRow; omega)
        have hap1 : bytesD out ++ [D.int .u8 (d.toNat : Int)] = bytesD (out ++ [d]) := bytesD_app out [d]
        have hw8 : IntKind.u8.wrap (d.toNat : Int) = (d.toNat : Int) := wu8 hd8
        simp (disch := omega) only [go_sem, r18_K10, r18_K9, r18_K0, hz, e1, e2, g1, p1, hg, nu, w64, hsm, gm, hl1, hrow, hap1, hw8]
  · have g1 : (((i + 1 : Nat) : Int) ≥ (T.length : Int)) = True := eq_true (by omega)
    rw [List.drop_of_length_le (by omega), escP]
    show ruB _ = _
    unfold ruB
    simp (disch := omega) only [go_sem, r18_K10, hz, e1, g1, w64]
end Go.Pe.T

namespace Go.Pe.T
def ruR : Option (List UInt8 × Bool) → Option (Ex × St)
  | some (out', lone') => some (.norm, r18_E0 (.own 5 (bytesD out')) (.d (.bool lone')) [])
  | none => some (.ret, r18_R (.d (.str ⟨#[]⟩)) (.d (iv 3)) [])
def RuL (T : List UInt8) (f i : Nat) (out : List UInt8) (lone : Bool) : Prop := V (F tab) r18_B0 (ruS T out lone i) = ruR (allP f (T.drop i) out lone)
theorem rul_end (T : List UInt8) (f i : Nat) (out : List UInt8) (lone : Bool) (hi : T.length ≤ i) : RuL T f i out lone := by
  have hz := bt_size T
  have h1 : ((i : Int) < (T.length : Int)) = False := eq_false (by omega)
  have e : allP f [] out lone = some (out, lone) := by cases f <;> rfl
  unfold RuL
  rw [List.drop_of_length_le hi, e, r18_B0_eq]
  simp (disch := omega) only [go_sem, r18_C0, hz, h1, ruR]
theorem rul_step (T : List UInt8) (hT : T.length ≤ 100000) (f i : Nat) (out : List UInt8) (lone : Bool) (hi : i < T.length) (hf : T.length ≤ i + (f + 1)) (ho : out.length + 4 * (f + 1) ≤ 9000000)
    (ih : ∀ (i' : Nat) (out' : List UInt8) (lone' : Bool), i' ≤ T.length → T.length ≤ i' + f → out'.length + 4 * f ≤ 9000000 → RuL T f i' out' lone') : RuL T (f + 1) i out lone := by
  have hz := bt_size T
  have h1 : ((i : Int) < (T.length : Int)) = True := eq_true (by omega)
  have i0 : (0 ≤ (i : Int)) = True := eq_true (by omega)
  have e1 : (i : Int) + 1 = ((i + 1 : Nat) : Int) := rfl
  have hx : T[i]? = some T[i] := List.getElem?_eq_getElem hi
  have hd : T.drop i = T[i] :: T.drop (i + 1) := List.drop_eq_getElem_cons hi
  have hg := bt_get T i
  rw [hx] at hg
  have hk := ru_k10 T out (by omega) hT lone i hi
  have u1 : (((T[i].toNat : Nat) : Int) == 34) = (T[i] == 34) := u8_eq _ 34
  have u2 : (((T[i].toNat : Nat) : Int) == 92) = (T[i] == 92) := u8_eq _ 92
  unfold RuL
  rw [hd, allP]
  generalize T[i] = c at *
  rcases Bool.eq_false_or_eq_true (c == 34) with q1 | q1
  · rw [q1] at u1
    rw [q1, Bool.true_or, if_pos rfl, r18_B0_eq]
    simp (disch := omega) only [go_sem, r18_C0, r18_K13, hz, h1, i0, hg, u1, ruR]
  · rw [q1] at u1
    by_cases q3 : c.toNat < 32
    · have g3 : ((c.toNat : Int) < 32) = True := eq_true (by omega)
      rw [decide_eq_true q3, Bool.or_true, if_pos rfl, r18_B0_eq]
      simp (disch := omega) only [go_sem, r18_C0, r18_K13, hz, h1, i0, hg, u1, g3, ruR]
    · have g3 : ((c.toNat : Int) < 32) = False := eq_false (by omega)
      rw [q1, decide_eq_false q3, Bool.or_false, if_neg (by simp)]
      rcases Bool.eq_false_or_eq_true (c == 92) with q2 | q2
      · rw [q2] at u2
        have nu : ((((c.toNat : Nat) : Int)) != 92) = false := by rw [bne, u2]; rfl
        rw [q2, if_pos rfl]
        cases he : escP (T.drop (i + 1)) out lone with
        | none =>
          rw [he] at hk
          have hk : ruB _ = _ := hk
          unfold ruB at hk
          rw [r18_B0_eq]
          simp (disch := omega) only [go_sem, r18_C0, r18_K13, r18_K11, hz, h1, i0, hg, u1, g3, nu, hk, ruR]
        | some p =>
          obtain ⟨R', out', lone'⟩ := p
          obtain ⟨l1, l2⟩ := escP_len he
          rw [he] at hk
          obtain ⟨i', hi', hR', hk⟩ := hk
          unfold ruB at hk
          rw [List.length_drop] at l1
          have hlen := congrArg List.length hR'
          rw [List.length_drop] at hlen
          have k := ih i' out' lone' hi' (by omega) (by omega)
          unfold RuL at k
          rw [hR'] at k
          simp only []
          rw [r18_B0_eq]
          simp (disch := omega) only [go_sem, r18_C0, r18_K13, r18_K11, hz, h1, i0, hg, u1, g3, nu, hk]
          exact k
      · rw [q2] at u2
        have nu : ((((c.toNat : Nat) : Int)) != 92) = true := by rw [bne, u2]; rfl
        rw [q2, if_neg (by simp)]
        have k := ih (i + 1) (out ++ [c]) lone (by omega) (by omega) (by simp; omega)
        unfold RuL at k
        have hl1 := bytesD_len out
        have hrow : ((out.length + 1) * 1 ≤ maxRow) = True := eq_true (by unfold maxRow; omega)
        have hap1 : bytesD out ++ [D.int .u8 (c.toNat : Int)] = bytesD (out ++ [c]) := bytesD_app out [c]
        rw [r18_B0_eq]
        simp (disch := omega) only [go_sem, r18_C0, r18_K13, r18_K11, hz, h1, i0, hg, u1, g3, nu, w64, hl1, hrow, hap1, e1]
        exact k
theorem rul_loop (T : List UInt8) (hT : T.length ≤ 100000) : ∀ (f i : Nat) (out : List UInt8) (lone : Bool), T.length ≤ i + f → out.length + 4 * f ≤ 9000000 → RuL T f i out lone
  | 0, i, out, lone, hf, ho => rul_end T 0 i out lone (by omega)
  | f + 1, i, out, lone, hf, ho => by
    by_cases hi : i < T.length
    · exact rul_step T hT f i out lone hi hf ho fun i' out' lone' _ h1 h2 => rul_loop T hT f i' out' lone' h1 h2
    · exact rul_end T (f + 1) i out lone (by omega)
end Go.Pe.T

namespace Go.Pe.T
theorem ru_k15 (out : List UInt8) (ho : out.length ≤ 2000000) (lone : Bool) : V (F tab) (r18_K15 ()) (r18_J15 (.own 5 (bytesD out)) (.d (.bool lone)) []) = some (.ret, if (lone || !validB (bt out)) = true then r18_R (.d (.str ⟨#[]⟩)) (.d (iv 7)) [] else r18_R (.d (.str (bt out))) (.d (iv 0)) []) := by
  obtain ⟨x, hs⟩ := rsigns_bool (bt out) (by have := bt_size out; omega)
  have hop : ∀ L : List UInt8, optAll ((bytesD L).map asByte) = some L := by
    intro L
    induction L with
    | nil => rfl
    | cons c r ih =>
      have h : asByte (.int .u8 c.toNat) = some c := by
        simp only [asByte, Int.toNat_natCast, Option.some.injEq]
        exact UInt8.ofNat_toNat
      show optAll (asByte (.int .u8 c.toNat) :: (bytesD r).map asByte) = _
      rw [h]
      simp [optAll, ih]
  have hcv := hop out
  have hfo : (⟨out.toArray⟩ : ByteArray) = bt out := rfl
  cases lone with
  | true =>
    simp (disch := omega) only [go_sem, r18_K15, hcv, hfo, hs, Bool.true_or]
  | false =>
    rcases Bool.eq_false_or_eq_true (validB (bt out)) with g | g
    · rw [g] at hs
      rw [g]
      simp (disch := omega) only [go_sem, r18_K15, hcv, hfo, hs, Bool.false_or, Bool.not_true]
    · rw [g] at hs
      rw [g]
      simp (disch := omega) only [go_sem, r18_K15, hcv, hfo, hs, Bool.false_or, Bool.not_false]
theorem ru_k16 (t : List UInt8) (ht : t.length ≤ 100000) (h2 : 2 ≤ t.length) : V (F tab) (r18_K16 ()) (r18_J16 (.d (.str (bt t))) []) = some (.ret, match allP (t.length - 2) ((t.take (t.length - 1)).drop 1) [] false with
    | none => r18_R (.d (.str ⟨#[]⟩)) (.d (iv 3)) []
    | some (out, lone) => if (lone || !validB (bt out)) = true then r18_R (.d (.str ⟨#[]⟩)) (.d (iv 7)) [] else r18_R (.d (.str (bt out))) (.d (iv 0)) []) := by
  obtain ⟨n, hn⟩ : ∃ n, n = t.length := ⟨_, rfl⟩
  have hz : (bt t).size = n := hn ▸ bt_size t
  have hcut : (bt t).extract 1 (n - 1) = bt ((t.take (n - 1)).drop 1) := bt_ext t 1 (n - 1)
  have hlT : ((t.take (n - 1)).drop 1).length = n - 2 := by simp; omega
  have hl := rul_loop ((t.take (n - 1)).drop 1) (by omega) (n - 2) 0 [] false (by omega) (by simp; omega)
  unfold RuL at hl
  rw [List.drop_zero] at hl
  have en : (n : Int) - 1 = ((n - 1 : Nat) : Int) := by omega
  have p1 : (1 ≤ ((n - 1 : Nat) : Int)) = True := eq_true (by omega)
  have p2 : (((n - 1 : Nat) : Int) ≤ (n : Int)) = True := eq_true (by omega)
  have p0 : ((0 : Int) ≤ 1) = True := eq_true (by decide)
  rw [← hn] at h2 ht ⊢
  have hol : ∀ {out' : List UInt8} {lone' : Bool}, allP (n - 2) ((t.take (n - 1)).drop 1) [] false = some (out', lone') → out'.length ≤ 2000000 := fun h => by
    have := allP_len _ _ _ _ h
    simp only [List.length_nil] at this
    omega
  generalize (t.take (n - 1)).drop 1 = T at *
  have hl : V (F tab) r18_B0 (r18_S0 (.d (.str (bt T))) (.own 5 []) (.d (.bool false)) (.d (iv 0)) []) = ruR (allP (n - 2) T [] false) := hl
  clear hn
  cases ha : allP (n - 2) T [] false with
  | none =>
    rw [ha] at hl
    unfold ruR at hl
    simp (disch := omega) only [go_sem, r18_K16, hz, en, hcut, p0, p1, p2, w64]
    rw [r18_B0_n, r18_B0_z4]
    erw [hl]
    simp only [go_sem]
  | some p =>
    obtain ⟨out, lone⟩ := p
    have k15 := ru_k15 out (hol ha) lone
    rw [ha] at hl
    unfold ruR at hl
    simp (disch := omega) only [go_sem, r18_K16, hz, en, hcut, p0, p1, p2, w64]
    rw [r18_B0_n, r18_B0_z4]
    erw [hl]
    simp only [go_sem, k15]
theorem runquote_ok (t : List UInt8) (ht : t.length ≤ 100000) (hp : List Ent) : F tab 18 [.d (.str (bt t))] hp = some (.ret (.tup [.d (.str (bt (unqP t).1)), .d (iv (unqP t).2)]) hp) := by
  have hz := bt_size t
  have hbn : bt [] = ⟨#[]⟩ := rfl
  refine f18 rfl ?_
  by_cases h2 : t.length < 2
  · have g : ((t.length : Int) < 2) = True := eq_true (by omega)
    have e : unqP t = ([], 3) := by
      unfold unqP
      split
      · rw [if_pos (.inl h2)]
      · rfl
    rw [e]
    simp (disch := omega) only [go_sem, r18_T, r18, hz, g, hbn]
  · have g : ((t.length : Int) < 2) = False := eq_false (by omega)
    have hx0 : t[0]? = some t[0] := List.getElem?_eq_getElem (by omega)
    have hx1 : t[t.length - 1]? = some t[t.length - 1] := List.getElem?_eq_getElem (by omega)
    have hg0 := bt_get t 0
    have hg1 := bt_get t (t.length - 1)
    rw [hx0] at hg0
    rw [hx1] at hg1
    have k16 := ru_k16 t ht (by omega)
    have en : (t.length : Int) - 1 = ((t.length - 1 : Nat) : Int) := by omega
    have p1 : (0 ≤ ((t.length - 1 : Nat) : Int)) = True := eq_true (by omega)
    have u0 : (((t[0].toNat : Nat) : Int) == 34) = (t[0] == 34) := u8_eq _ 34
    have u1 : (((t[t.length - 1].toNat : Nat) : Int) == 34) = (t[t.length - 1] == 34) := u8_eq _ 34
    unfold unqP
    rw [hx0, hx1]
    simp only []
    generalize t[0] = a at *
    generalize t[t.length - 1] = b at *
    rcases Bool.eq_false_or_eq_true (a == 34) with q | q
    · rw [q] at u0
      have n0 : ((((a.toNat : Nat) : Int)) != 34) = false := by rw [bne, u0]; rfl
      rcases Bool.eq_false_or_eq_true (b == 34) with q2 | q2
      · rw [q2] at u1
        have n1 : ((((b.toNat : Nat) : Int)) != 34) = false := by rw [bne, u1]; rfl
        have r1 : a = 34 := by simpa using q
        have r2 : b = 34 := by simpa using q2
        rw [if_neg (by simp [r1, r2]; omega)]
        cases ha : allP (t.length - 2) ((t.take (t.length - 1)).drop 1) [] false with
        | none =>
          rw [ha] at k16
          simp (disch := omega) only [go_sem, r18_T, r18, hz, g, hg0, hg1, n0, n1, en, p1, w64, k16, hbn]
        | some p =>
          obtain ⟨out, lone⟩ := p
          rw [ha] at k16
          rcases Bool.eq_false_or_eq_true (lone || !validB (bt out)) with q5 | q5
          · simp only [q5, if_true] at k16 ⊢
            simp (disch := omega) only [go_sem, r18_T, r18, hz, g, hg0, hg1, n0, n1, en, p1, w64, k16, hbn]
          · simp only [q5, Bool.false_eq_true, if_false] at k16 ⊢
            simp (disch := omega) only [go_sem, r18_T, r18, hz, g, hg0, hg1, n0, n1, en, p1, w64, k16, hbn]
      · rw [q2] at u1
        have n1 : ((((b.toNat : Nat) : Int)) != 34) = true := by rw [bne, u1]; rfl
        have r2 : b ≠ 34 := by simpa using q2
        rw [if_pos (.inr (.inr r2))]
        simp (disch := omega) only [go_sem, r18_T, r18, hz, g, hg0, hg1, n0, n1, en, p1, w64, hbn]
    · rw [q] at u0
      have n0 : ((((a.toNat : Nat) : Int)) != 34) = true := by rw [bne, u0]; rfl
      have r1 : a ≠ 34 := by simpa using q
      rw [if_pos (.inr (.inl r1))]
      simp (disch := omega) only [go_sem, r18_T, r18, hz, g, hg0, n0, hbn]
end Go.Pe.T

namespace Go.Pe.T
def atC (r : TkR) (i : Nat) : List PV := if r.2.2 = 0 then [.d (iv r.1.k), .d (.str (bt r.1.t)), .d (iv r.1.c), .d (iv r.1.s), .d (iv (i : Int)), .d (iv (r.2.1 : Int)), .d (iv 0)] else [.d (iv 0), .d (.str ⟨#[]⟩), .d (iv 0), .d (iv 0), .d (iv 0), .d (iv 0), .d (iv r.2.2)]
abbrev at0 : PV := .ibox [.d (iv 0), .d (.str ⟨#[]⟩), .d (iv 0), .d (iv 0), .d (iv 0), .d (iv 0), .d (iv 0)]
theorem at_k2 (Q : List UInt8) (hl : Q.length ≤ 10000) (i m k : Nat) (hm : m ≤ Q.length) (hi : i ≤ m) (hk : k ≤ 10) :
    V (F tab) (r9_K2 ()) (r9_J2 (.d (.str (bt Q))) (.d (iv i)) at0 (.d (iv m)) (.d (iv k)) []) = some (.ret, r9_R (.ibox (atC (nmR k ((Q.drop m).take (runL 0 (Q.drop m))) (m - i)) i)) []) := by
  have hz := bt_size Q
  have hn := rname_ok Q (by omega) m hm
  have hrl := runL_le (Q.drop m) 0
  have hcut : (bt Q).extract m (m + runL 0 (Q.drop m)) = bt ((Q.drop m).take (runL 0 (Q.drop m))) := by
    rw [bt_ext, List.drop_take, show m + runL 0 (Q.drop m) - m = runL 0 (Q.drop m) by omega]
  have hwl : ((Q.drop m).take (runL 0 (Q.drop m))).length = runL 0 (Q.drop m) := by rw [List.length_take]; omega
  rw [List.length_drop] at hrl
  obtain ⟨W, hW⟩ : ∃ W, W = (Q.drop m).take (runL 0 (Q.drop m)) := ⟨_, rfl⟩
  rw [← hW] at hwl hcut ⊢
  generalize runL 0 (Q.drop m) = n at *
  have em : ((m + n : Nat) : Int) - (m : Int) = (n : Int) := by omega
  by_cases h0 : n = 0
  · have g0 : (((m + n : Nat) : Int) == (m : Int)) = true := by simp; omega
    have e : nmR k W (m - i) = (tk0, 0, 14) := by unfold nmR; rw [if_pos (.inl (List.eq_nil_of_length_eq_zero (by omega)))]
    have e2 : atC (tk0, 0, 14) i = [.d (iv 0), .d (.str ⟨#[]⟩), .d (iv 0), .d (iv 0), .d (iv 0), .d (iv 0), .d (iv 14)] := rfl
    rw [e, e2]
    simp (disch := omega) only [go_sem, r9_K2, hn, g0]
  · have g0 : (((m + n : Nat) : Int) == (m : Int)) = false := by simp; omega
    by_cases h1 : 16 < n
    · have g1 : ((n : Int) > 16) = True := eq_true (by omega)
      have e : nmR k W (m - i) = (tk0, 0, 14) := by unfold nmR; rw [if_pos (.inr (by omega))]
      have e2 : atC (tk0, 0, 14) i = [.d (iv 0), .d (.str ⟨#[]⟩), .d (iv 0), .d (iv 0), .d (iv 0), .d (iv 0), .d (iv 14)] := rfl
      rw [e, e2]
      simp (disch := omega) only [go_sem, r9_K2, hn, g0, em, g1, w64]
    · have g1 : ((n : Int) > 16) = False := eq_false (by omega)
      have e : nmR k W (m - i) = (⟨k, W, 0, 0⟩, n + (m - i), 0) := by
        unfold nmR
        rw [if_neg, hwl]
        intro h
        rcases h with h | h
        · rw [h] at hwl; simp at hwl; omega
        · omega
      have e2 : atC (⟨k, W, 0, 0⟩, n + (m - i), 0) i = [.d (iv k), .d (.str (bt W)), .d (iv 0), .d (iv 0), .d (iv (i : Int)), .d (iv ((n + (m - i) : Nat) : Int)), .d (iv 0)] := rfl
      have p0 : (0 ≤ (m : Int)) = True := eq_true (by omega)
      have p1 : ((m : Int) ≤ ((m + n : Nat) : Int)) = True := eq_true (by omega)
      have p2 : (((m + n : Nat) : Int) ≤ (Q.length : Int)) = True := eq_true (by omega)
      have en : ((m + n : Nat) : Int) - (i : Int) = ((n + (m - i) : Nat) : Int) := by omega
      rw [e, e2]
      simp (disch := omega) only [go_sem, r9_K2, r9_K0, hn, hz, g0, em, g1, w64, p0, p1, p2, hcut, en]
end Go.Pe.T

namespace Go.Pe.T
end Go.Pe.T

namespace Go.Pe.T
def sgC (neg : Bool) (h : Int × Int × Int) : Int × Int × Int := (if neg then -h.1 else h.1, h.2.1, h.2.2)
theorem numIs_sv (neg : Bool) (c s : Int) : numIs (sv neg c) s = numIs c s := by
  cases neg with
  | false => rfl
  | true =>
    simp only [sv, if_true]
    unfold numIs
    have e1 : decide (-1000000000000000 < -c) = decide (c < 1000000000000000) := by rw [decide_eq_decide]; omega
    have e2 : decide (-c < 1000000000000000) = decide (-1000000000000000 < c) := by rw [decide_eq_decide]; omega
    have e3 : ((-c).tmod 10 != 0) = (c.tmod 10 != 0) := by
      rw [Int.neg_tmod]
      by_cases h : c.tmod 10 = 0
      · simp [h]
      · have h2 : (-c.tmod 10 != 0) = true := by
          rw [bne_iff_ne]; omega
        have h3 : (c.tmod 10 != 0) = true := by
          rw [bne_iff_ne]; exact h
        rw [h2, h3]
    rw [e1, e2, e3]
    cases decide (0 ≤ s) <;> cases decide (s ≤ 9) <;> cases decide (c < 1000000000000000) <;> cases decide (-1000000000000000 < c) <;> rfl
theorem makeC_sv (neg : Bool) (c : Int) (k : Nat) : makeC (sv neg c) k = sgC neg (makeC c k) := by
  unfold makeC makeOk
  simp only [strip_sv, numIs_sv]
  rcases Bool.eq_false_or_eq_true (numIs (stripN c k).1 (stripN c k).2) with g | g
  · rw [g]; cases neg <;> rfl
  · rw [g]; cases neg <;> rfl
theorem told_make (v : Int) (k : Nat) : (if (toldR v k).2.2 then ((toldR v k).1, (toldR v k).2.1, (0 : Int)) else (0, 0, 8)) = makeC v k := by
  unfold toldR makeC
  rcases Bool.eq_false_or_eq_true (makeOk v k) with g | g
  · rw [g]; rfl
  · rw [g]; rfl
theorem trimN_top {l : List Int} (h : ∀ d, l.getLast? = some d → d ≠ 0) : trimN l l.length = l.length := by
  cases hl : l.length with
  | zero => rfl
  | succ n =>
    unfold trimN
    rw [if_neg]
    intro e
    rw [List.getLast?_eq_getElem?, hl] at h
    exact h 0 (by simpa using e) rfl
theorem trimL_self {l : List Int} (h : ∀ d, l.getLast? = some d → d ≠ 0) : trimL l = l := by
  unfold trimL
  rw [trimN_top h, List.take_length]
theorem zeros_last {t : List Int} {m : Nat} (hn : t ≠ []) (h : ∀ d, t.getLast? = some d → d ≠ 0) : ∀ d, (List.replicate m 0 ++ t).getLast? = some d → d ≠ 0 := by
  intro d hd
  apply h d
  rw [List.getLast?_append] at hd
  cases hq : t.getLast? with
  | none => exact absurd (List.getLast?_eq_none_iff.1 hq) hn
  | some x => rw [hq] at hd; simpa using hd

set_option maxHeartbeats 1000000 in
theorem num4_neg (neg : Bool) (t : List Int) (ht : Top t) (hne : t ≠ []) (hl : t.length ≤ 9000) (m : Nat) (hm : 0 < m) (hm2 : m ≤ 9000) (hp : List Ent) :
    ∃ c k ok, F tab 29 [.d (longD neg t), .d (iv (-(m : Int)))] hp = some (.ret (.tup [.d (.agg [iv c, iv k]), .d (.bool ok)]) hp) ∧ (if ok then (c, k, (0 : Int)) else (0, 0, 8)) = sgC neg (heldC (val t) (-(m : Int))) := by
  have hlp : 0 < t.length := List.length_pos_iff.2 hne
  have htr := trim_ok' neg t (by omega)
  simp only [trimmed_shape] at htr
  have hn0 : (neg && trimN t t.length != 0) = neg := by
    rw [trimN_top ht.2]
    have : (t.length != 0) = true := by simp; omega
    rw [this, Bool.and_true]
  rw [trimL_self ht.2, hn0] at htr
  have hz := zeros_last (m := m) hne ht.2
  have hsl : (List.replicate m (0 : Int) ++ t).length = m + t.length := by simp
  have hsh := shift_ok neg t (by omega) m (by omega)
  have hn1 : (neg && trimN (List.replicate m 0 ++ t) (m + t.length) != 0) = neg := by
    rw [← hsl, trimN_top hz, hsl]
    have : (m + t.length != 0) = true := by simp; omega
    rw [this, Bool.and_true]
  have hsd : shiftL t m = List.replicate m 0 ++ t := trimL_self hz
  rw [hn1, hsd] at hsh
  have hvs : val (List.replicate m 0 ++ t) = 10 ^ m * val t := val_zeros m t
  have hds : Digs (List.replicate m 0 ++ t) := fun d hd => by
    rcases List.mem_append.1 hd with h | h
    · obtain ⟨_, rfl⟩ := List.mem_replicate.1 h
      exact ⟨by omega, by omega⟩
    · exact ht.1 d h
  have hb1 := top_bound ht hne
  have e1 : heldC (val t) (-(m : Int)) = makeC (10 ^ m * val t) 0 := by
    unfold heldC
    rw [if_neg (by omega), show (-(-(m : Int))).toNat = m by omega, Int.mul_comm]
  rw [e1]
  have e15 : (10 : Int) ^ 15 = 1000000000000000 := by decide
  have bigm : m + t.length > 15 → 1000000000000000 ≤ 10 ^ m * val t := by
    intro h
    have h1 : (10 : Int) ^ 15 ≤ 10 ^ (m + (t.length - 1)) := p10_mono (by omega)
    have h2 : (10 : Int) ^ (m + (t.length - 1)) ≤ 10 ^ m * val t := by
      rw [Int.pow_add]
      exact Int.mul_le_mul_of_nonneg_left hb1 (Int.le_of_lt (p10_pos m))
    omega
  have k0 : (-(m : Int) > 0) = False := eq_false (by omega)
  have k1 : (-(m : Int) < 0) = True := eq_true (by omega)
  have k2 : ((t.length : Int) == 0) = false := by simp; omega
  have e4 : 0 - (-(m : Int)) = (m : Int) := by omega
  rw [← hvs]
  generalize hS : List.replicate m (0 : Int) ++ t = S at *
  simp only [longD] at hsh
  by_cases h15 : S.length > 15
  · have k3 : ((S.length : Int) > 15) = True := eq_true (by omega)
    refine ⟨0, 0, false, ?_, ?_⟩
    · refine f29 rfl ?_
      simp (disch := omega) only [go_sem, r29_T, r29, htr]
      rw [r29_B0_n, r29_B0_eq]
      simp (disch := omega) only [go_sem, r29_C0, k0, k1, k2, k3, e4, hsh, List.length_map, w64]
    · rw [makeC_big (by rw [hvs]; exact bigm (by omega))]
      cases neg <;> rfl
  · have k3 : ((S.length : Int) > 15) = False := eq_false (by omega)
    have k4 : ((0 : Int) > 9) = False := eq_false (by omega)
    have hc := nc_loop neg S hds (by omega) 0 [.d (iv 0), .d (iv 0)] S.length (Nat.le_refl _)
    unfold NcLoop at hc
    rw [List.drop_of_length_le (Nat.le_refl _)] at hc
    have v0 : val [] = 0 := rfl
    rw [v0] at hc
    obtain ⟨b1, b2⟩ := val_bound hds
    have hp10 : (10 : Int) ^ S.length ≤ 10 ^ 15 := p10_mono (by omega)
    refine ⟨sv neg (val S), 0, true, ?_, ?_⟩
    · refine f29 rfl ?_
      simp (disch := omega) only [go_sem, r29_T, r29, htr]
      rw [r29_B0_n, r29_B0_eq]
      simp (disch := omega) only [go_sem, r29_C0, k0, k1, k2, k3, k4, e4, hsh, List.length_map, w64]
      rw [r29_B1_n]
      erw [hc]
      cases neg with
      | true => simp (disch := omega) only [go_sem, w64, Int.zero_sub, sv]
      | false => simp (disch := omega) only [go_sem, sv]
    · have hm2 : makeC (val S) 0 = (val S, 0, 0) := by
        have hn : numIs (val S) ((0 : Nat) : Int) = true := by
          unfold numIs
          have g1 : -1000000000000000 < val S := by omega
          have g2 : val S < 1000000000000000 := by omega
          simp [g1, g2]
        unfold makeC makeOk
        rw [show stripN (val S) 0 = (val S, 0) from rfl, hn]
        rfl
      rw [hm2]
      cases neg <;> rfl

theorem num_any (neg : Bool) (t : List Int) (ht : Top t) (hne : t ≠ []) (hl : t.length ≤ 9000) (sc : Int) (hs : -9000 ≤ sc ∧ sc ≤ 2000000) (hp : List Ent) :
    ∃ c k ok, F tab 29 [.d (.agg [.bool neg, .sl (t.map iv)]), .d (iv sc)] hp = some (.ret (.tup [.d (.agg [iv c, iv k]), .d (.bool ok)]) hp) ∧ (if ok then (c, k, (0 : Int)) else (0, 0, 8)) = sgC neg (heldC (val t) sc) := by
  by_cases h : 0 ≤ sc
  · obtain ⟨k, rfl⟩ : ∃ k : Nat, sc = k := ⟨sc.toNat, by omega⟩
    refine ⟨_, _, _, num4_ok neg t ht.1 (by omega) k (by omega) hp, ?_⟩
    rw [numR_told neg t ht.1 k, told_make, makeC_sv]
    unfold heldC
    rw [if_pos h, Int.toNat_natCast]
  · obtain ⟨m, rfl⟩ : ∃ m : Nat, sc = -(m : Int) := ⟨(-sc).toNat, by omega⟩
    exact num4_neg neg t ht hne hl m (by omega) (by omega) hp
theorem heldC_zero (sc : Int) : heldC 0 sc = (0, 0, 0) := by
  unfold heldC
  split
  · exact makeC_zero _
  · rw [Int.zero_mul]; exact makeC_zero _
theorem heldC_low {V : Int} (hV : 0 < V) {sc : Int} (h : sc < -20) : heldC V sc = (0, 0, 8) := by
  obtain ⟨m, rfl⟩ : ∃ m : Nat, sc = -(m : Int) := ⟨(-sc).toNat, by omega⟩
  unfold heldC
  rw [if_neg (by omega), show (-(-(m : Int))).toNat = m by omega, makeC_big]
  have h1 : (10 : Int) ^ 15 ≤ 10 ^ m := p10_mono (by omega)
  have e15 : (10 : Int) ^ 15 = 1000000000000000 := by decide
  have h2 : 1 * (10 : Int) ^ m ≤ V * 10 ^ m := Int.mul_le_mul_of_nonneg_right (by omega) (Int.le_of_lt (p10_pos m))
  omega
theorem heldC_high {V : Int} (hV : 0 < V) {n : Nat} (hn : V < 10 ^ n) {sc : Int} (h : (n : Int) + 9 < sc) : heldC V sc = (0, 0, 8) := by
  obtain ⟨k, rfl⟩ : ∃ k : Nat, sc = k := ⟨sc.toNat, by omega⟩
  unfold heldC
  rw [if_pos (by omega), Int.toNat_natCast]
  obtain ⟨s1, s2, s3⟩ := strip_val k V
  have hpos := p10_pos (k - (stripN V k).2)
  have hst : 9 < (stripN V k).2 := by
    apply Classical.byContradiction
    intro hc
    have h1 : (10 : Int) ^ n ≤ 10 ^ (k - (stripN V k).2) := p10_mono (by omega)
    generalize (10 : Int) ^ (k - (stripN V k).2) = P at *
    have h2 : 0 < (stripN V k).1 := by
      apply Classical.byContradiction
      intro hc2
      have : (stripN V k).1 * P ≤ 0 := Int.mul_nonpos_of_nonpos_of_nonneg (by omega) (by omega)
      omega
    have h3 : 1 * P ≤ (stripN V k).1 * P := Int.mul_le_mul_of_nonneg_right (by omega) (by omega)
    omega
  have hf : numIs (stripN V k).1 ((stripN V k).2 : Int) = false := by
    unfold numIs
    have : ¬ (((stripN V k).2 : Int) ≤ 9) := by omega
    simp [this]
  unfold makeC makeOk
  rw [hf]
  rfl
end Go.Pe.T

namespace Go.Pe.T
theorem drop_cons' {L : List UInt8} {i : Nat} {c : UInt8} {r : List UInt8} (h : L.drop i = c :: r) : i < L.length ∧ (bt L)[i]? = some c ∧ L.drop (i + 1) = r := by
  have hi : i < L.length := by
    apply Classical.byContradiction
    intro hc
    rw [List.drop_of_length_le (by omega)] at h
    simp at h
  rw [List.drop_eq_getElem_cons hi, List.cons.injEq] at h
  refine ⟨hi, ?_, h.2⟩
  rw [bt_get, List.getElem?_eq_getElem hi, h.1]
theorem drop_nil' {L : List UInt8} {i : Nat} (h : L.drop i = []) (hi : i ≤ L.length) : i = L.length := by
  have := congrArg List.length h
  simp at this
  omega
abbrev PR (p : Int × Int × Int) : St := r16_R (.ibox [.d (iv p.1), .d (iv p.2.1)]) (.d (iv p.2.2)) []
def RvIs (neg : Bool) (sc : Int) (D out : List Int) (n : Nat) : Prop :=
  V (F tab) r16_B3 (r16_S3 (.ibox [.d (iv 0), .d (iv 0)]) (.ibox [.d (.bool neg), rowP out]) (.d (iv sc)) (.own 3 (D.map iv)) (.d (iv ((n : Int) - 1))) []) =
    some (.norm, r16_E3 (.ibox [.d (iv 0), .d (iv 0)]) (.ibox [.d (.bool neg), rowP (out ++ (D.take n).reverse)]) (.d (iv sc)) [])
theorem rv_end (neg : Bool) (sc : Int) (D out : List Int) : RvIs neg sc D out 0 := by
  have h1 : (((0 : Nat) : Int) - 1 ≥ 0) = False := eq_false (by omega)
  have h3 : ((0 : Int) - 1 ≥ 0) = False := eq_false (by omega)
  unfold RvIs
  rw [List.take_zero, List.reverse_nil, List.append_nil, r16_B3_eq]
  simp (disch := omega) only [go_sem, r16_C3, h1, h3]
theorem rv_step (neg : Bool) (sc : Int) (D out : List Int) (n : Nat) (hn : n < D.length) (hD : D.length ≤ 20000) (ho : out.length ≤ 20000) (d : Int) (hd : D[n]? = some d) (ih : RvIs neg sc D (out ++ [d]) n) : RvIs neg sc D out (n + 1) := by
  have h1 : (((n + 1 : Nat) : Int) - 1 ≥ 0) = True := eq_true (by omega)
  have e1 : ((n + 1 : Nat) : Int) - 1 = (n : Int) := by omega
  have h2 : ((n : Int) ≥ 0) = True := eq_true (by omega)
  have i0 : (0 ≤ (n : Int)) = True := eq_true (by omega)
  have va : (D.map iv)[n]? = some (iv d) := dl_get hd
  have htk : (D.take (n + 1)).reverse = d :: (D.take n).reverse := by
    rw [List.take_add_one, hd]; simp
  have h8 : (8 ≤ maxRow) = True := eq_true (by unfold maxRow; omega)
  have q3 : ((0 + 1) * 8 ≤ maxRow) = True := eq_true (by simp [maxRow])
  unfold RvIs at ih ⊢
  rw [htk]
  have e2 : out ++ [d] ++ (D.take n).reverse = out ++ d :: (D.take n).reverse := by simp
  rw [e2] at ih
  rw [r16_B3_eq, e1]
  generalize out ++ d :: (D.take n).reverse = F' at *
  cases out with
  | nil =>
    simp only [List.nil_append, rowP, List.map_nil] at ih
    simp (disch := omega) only [go_sem, r16_C3, r16_K8, rowP, h2, i0, va, h8, q3, w64]
    exact ih
  | cons x l =>
    simp only [List.length_cons] at ho
    have h9 : ((l.length + 1 + 1) * 8 ≤ maxRow) = True := eq_true (by unfold maxRow; omega)
    simp only [List.cons_append, rowP, List.map_append, List.map_cons, List.map_nil] at ih
    simp (disch := omega) only [go_sem, r16_C3, r16_K8, rowP, h2, i0, va, h9, List.length_map, w64]
    exact ih
theorem rv_loop (neg : Bool) (sc : Int) (D : List Int) (hD : D.length ≤ 6000) : ∀ (n : Nat) (out : List Int), n ≤ D.length → out.length + n = D.length → RvIs neg sc D out n
  | 0, out, _, _ => rv_end neg sc D out
  | n + 1, out, h, ho => by
    have hx : D[n]? = some D[n] := List.getElem?_eq_getElem (by omega)
    exact rv_step neg sc D out n (by omega) (by omega) (by omega) _ hx (rv_loop neg sc D hD n _ (by omega) (by simp; omega))

set_option maxHeartbeats 2000000 in
theorem rp_k11 (neg : Bool) (t : List Int) (ht : Top t) (hne : t ≠ []) (hl : t.length ≤ 6000) (sc : Int) (hs : -2000000 ≤ sc ∧ sc ≤ 2000000) :
    V (F tab) (r16_K11 ()) (r16_J11 (.ibox [.d (iv 0), .d (iv 0)]) (.ibox [.d (.bool neg), .d (.sl (t.map iv))]) (.d (iv sc)) []) = some (.ret, PR (sgC neg (heldC (val t) sc))) := by
  have hlp : 0 < t.length := List.length_pos_iff.2 hne
  have hb1 := top_bound ht hne
  have hpp := p10_pos (t.length - 1)
  have k5 : ((t.length : Int) > 0) = True := eq_true (by omega)
  have low : sc < -20 → sgC neg (heldC (val t) sc) = (0, 0, 8) := fun h => by rw [heldC_low (by omega) h]; cases neg <;> rfl
  by_cases h20 : sc < -20
  · have k1 : (sc < -20) = True := eq_true h20
    rw [low h20]
    by_cases h21 : sc < -20 - (t.length : Int)
    · have k2 : (sc < -20 - (t.length : Int)) = True := eq_true h21
      simp (disch := omega) only [go_sem, r16_K11, k1, k2, k5, List.length_map, w64]
    · have k2 : (sc < -20 - (t.length : Int)) = False := eq_false h21
      by_cases h100 : sc < -100
      · have k3 : (sc < -100) = True := eq_true h100
        simp (disch := omega) only [go_sem, r16_K11, k1, k2, k3, k5, List.length_map, w64]
      · have k3 : (sc < -100) = False := eq_false h100
        obtain ⟨c, k, ok, o1, o2⟩ := num_any neg t ht hne (by omega) sc (by omega) []
        rw [low h20] at o2
        cases ok with
        | true =>
          simp only [if_true, Prod.mk.injEq] at o2
          exact absurd o2.2.2 (by decide)
        | false =>
          simp (disch := omega) only [go_sem, r16_K11, k1, k2, k3, k5, List.length_map, w64]
          simp (disch := omega) only [go_sem, r16_K10, o1]
  · have k1 : (sc < -20) = False := eq_false h20
    have k3 : (sc < -100) = False := eq_false (by omega)
    obtain ⟨c, k, ok, o1, o2⟩ := num_any neg t ht hne (by omega) sc (by omega) []
    rw [← o2]
    cases ok with
    | true =>
      simp (disch := omega) only [go_sem, r16_K11, k1, k3, k5, List.length_map, w64]
      simp (disch := omega) only [go_sem, r16_K10, o1]
    | false =>
      simp (disch := omega) only [go_sem, r16_K11, k1, k3, k5, List.length_map, w64]
      simp (disch := omega) only [go_sem, r16_K10, o1]

set_option maxHeartbeats 2000000 in
theorem rp_k13 (neg : Bool) (l : List Int) (hd : Digs l) (hne : l ≠ []) (hl : l.length ≤ 6000) (sc : Int) (hs : -2000000 ≤ sc ∧ sc ≤ 2000000) :
    V (F tab) (r16_K13 ()) (r16_J13 (.ibox [.d (iv 0), .d (iv 0)]) (.ibox [.d (.bool neg), rowP l]) (.d (iv sc)) []) = some (.ret, PR (sgC neg (heldC (val l) sc))) := by
  have htr := trim_ok' neg l (by omega)
  simp only [trimmed_shape] at htr
  have hv := trimL_val l
  have htop : Top (trimL l) := ⟨trimL_digs hd, trimL_top l⟩
  have htl := trimL_len l
  have hle := trimN_le l l.length
  rw [← hv]
  generalize trimL l = t at *
  obtain ⟨x, l', rfl⟩ := List.exists_cons_of_ne_nil hne
  rw [List.map_cons] at htr
  by_cases h0 : t = []
  · subst h0
    have v0 : val [] = 0 := rfl
    have z3 : ((0 : Int) == 0) = true := rfl
    have z4 : (((0 : Nat) : Int) == 0) = true := rfl
    rw [v0, heldC_zero, show sgC neg (0, 0, 0) = (0, 0, 0) by cases neg <;> rfl]
    simp (disch := omega) only [go_sem, r16_K13, rowP, htr, z3, z4, List.map_nil, List.length_nil]
  · have hlp : 0 < t.length := List.length_pos_iff.2 h0
    have z3 : ((t.length : Int) == 0) = false := by simp; omega
    have hng : (neg && trimN (x :: l') (x :: l').length != 0) = neg := by
      rw [← htl]
      have : (t.length != 0) = true := by simp; omega
      rw [this, Bool.and_true]
    rw [hng] at htr
    have h11 := rp_k11 neg t htop h0 (by omega) sc hs
    simp (disch := omega) only [go_sem, r16_K13, rowP, htr, z3, List.length_map]
    exact h11

set_option maxHeartbeats 2000000 in
theorem rp_k14 (neg : Bool) (D : List Int) (hd : Digs D) (hne : D ≠ []) (hl : D.length ≤ 6000) (sc : Int) (hs : -2000000 ≤ sc ∧ sc ≤ 2000000) :
    V (F tab) (r16_K14 ()) (r16_J14 (.ibox [.d (iv 0), .d (iv 0)]) (.ibox [.d (.bool neg), .nilsl]) (.d (iv sc)) (.own 3 (D.map iv)) []) = some (.ret, PR (sgC neg (heldC (val D.reverse) sc))) := by
  have hL := rv_loop neg sc D hl D.length [] (Nat.le_refl _) (by simp)
  have h13 := rp_k13 neg D.reverse (fun d h => hd d (List.mem_reverse.1 h)) (by simpa using hne) (by rw [List.length_reverse]; omega) sc hs
  unfold RvIs at hL
  rw [List.take_length, List.nil_append] at hL
  have r0 : rowP [] = .nilsl := rfl
  rw [r0] at hL
  simp (disch := omega) only [go_sem, r16_K14, List.length_map, w64]
  rw [r16_B3_n]
  erw [hL]
  generalize hR : rowP D.reverse = R at *
  have hR2 : ∀ t o, R ≠ .ref t o := by
    intro t o
    rw [← hR]
    cases D.reverse <;> simp [rowP]
  simp (disch := omega) only [go_sem]
  exact h13
end Go.Pe.T

namespace Go.Pe.T
abbrev LV15 : List LM := [.keep, .kill, .keep, .kill, .keep, .keep, .keep, .kill, .kill, .norm 3]
theorem rp_k15 (L : List UInt8) (neg : Bool) (D : List Int) (hd : Digs D) (hne : D ≠ []) (hl : D.length ≤ 6000) (sc : Int) (hs : -2000000 ≤ sc ∧ sc ≤ 2000000) (i : Nat) :
    V (F tab) (r16_K15 ()) (r16_J15 (.d (.str (bt L))) (.ibox [.d (iv 0), .d (iv 0)]) (.ibox [.d (.bool neg), .nilsl]) (.d (iv i)) (.d (iv sc)) (.own 3 (D.map iv)) []) = some (.ret, PR (if i < L.length then (0, 0, 3) else sgC neg (heldC (val D.reverse) sc))) := by
  have h14 := rp_k14 neg D hd hne hl sc hs
  have hz := bt_size L
  by_cases h : i < L.length
  · have k : ((i : Int) < (L.length : Int)) = True := eq_true (by omega)
    rw [if_pos h]
    simp (disch := omega) only [go_sem, r16_K15, hz, k]
  · have k : ((i : Int) < (L.length : Int)) = False := eq_false (by omega)
    rw [if_neg h]
    simp (disch := omega) only [go_sem, r16_K15, hz, k]
    exact h14

def refN : List UInt8 → Nat → Nat
  | [], n => n
  | b :: r, n => refN r (if n < 100000 then 10 * n + (b.toNat - 48) else n)
theorem refN_le : ∀ (d : List UInt8) (n : Nat), DgL d → n ≤ 1000000 → refN d n ≤ 1000000
  | [], n, _, h => h
  | b :: r, n, hd, h => by
    have := isDg_iff.1 (hd b (by simp))
    exact refN_le r _ (fun x hx => hd x (by simp [hx])) (by split <;> omega)

def PrIs (L : List UInt8) (neg : Bool) (D : List Int) (sc : Int) (up : Bool) (R : List UInt8) (i n k : Nat) : Prop :=
  V (F tab) r16_B2 (r16_S2 (.d (.str (bt L))) (.ibox [.d (iv 0), .d (iv 0)]) (.ibox [.d (.bool neg), .nilsl]) (.d (iv i)) (.d (iv sc)) (.own 3 (D.map iv)) (.d (.bool up)) (.d (iv n)) (.d (iv k)) []) =
    some (.norm, r16_E2 (.d (.str (bt L))) (.ibox [.d (iv 0), .d (iv 0)]) (.ibox [.d (.bool neg), .nilsl]) (.d (iv ((i + (R.takeWhile isDg).length : Nat) : Int))) (.d (iv sc)) (.own 3 (D.map iv)) (.d (.bool up)) (.d (iv (refN (R.takeWhile isDg) n : Nat))) (.d (iv ((k + (R.takeWhile isDg).length : Nat) : Int))) [])
theorem pr_nil (L : List UInt8) (neg : Bool) (D : List Int) (sc : Int) (up : Bool) (n k : Nat) : PrIs L neg D sc up [] L.length n k := by
  have h1 : ((L.length : Int) < (L.length : Int)) = False := eq_false (by omega)
  have hz := bt_size L
  unfold PrIs
  rw [List.takeWhile_nil, refN, List.length_nil, Nat.add_zero, Nat.add_zero, r16_B2_eq]
  simp (disch := omega) only [go_sem, r16_C2, hz, h1]
set_option maxHeartbeats 1000000 in
theorem pr_step (L : List UInt8) (hL : L.length ≤ 20000) (neg : Bool) (D : List Int) (sc : Int) (up : Bool) (c : UInt8) (r : List UInt8) (i n k : Nat) (hi : i < L.length) (hg : (bt L)[i]? = some c) (hn : n ≤ 1000000) (hk : k ≤ 20000)
    (ih : isDg c = true → ∀ m, m ≤ 1000000 → PrIs L neg D sc up r (i + 1) m (k + 1)) : PrIs L neg D sc up (c :: r) i n k := by
  have h1 : ((i : Int) < (L.length : Int)) = True := eq_true (by omega)
  have i0 : (0 ≤ (i : Int)) = True := eq_true (by omega)
  have hz := bt_size L
  have e1 : (i : Int) + 1 = ((i + 1 : Nat) : Int) := rfl
  have e2 : (k : Int) + 1 = ((k + 1 : Nat) : Int) := rfl
  unfold PrIs at ih ⊢
  rw [List.takeWhile_cons]
  by_cases g1 : 48 ≤ c.toNat
  · have k1 : ((c.toNat : Int) ≥ 48) = True := eq_true (by omega)
    by_cases g2 : c.toNat ≤ 57
    · have k2 : ((c.toNat : Int) ≤ 57) = True := eq_true (by omega)
      have hdg := isDg_iff.2 ⟨g1, g2⟩
      rw [hdg, if_pos rfl, List.length_cons, refN, show i + (((r).takeWhile isDg).length + 1) = i + 1 + (r.takeWhile isDg).length by omega, show k + (((r).takeWhile isDg).length + 1) = k + 1 + (r.takeWhile isDg).length by omega]
      by_cases hc : n < 100000
      · have k3 : ((n : Int) < 100000) = True := eq_true (by omega)
        have ih' := ih hdg (10 * n + (c.toNat - 48)) (by omega)
        have z : ((10 * n + (c.toNat - 48) : Nat) : Int) = 10 * (n : Int) + (c.toNat : Int) - 48 := by omega
        rw [if_pos hc]
        rw [z] at ih'
        rw [r16_B2_eq]
        simp (disch := omega) only [go_sem, r16_C2, r16_K3, hz, h1, i0, hg, k1, k2, k3, e1, e2, w64]
        exact ih'
      · have k3 : ((n : Int) < 100000) = False := eq_false (by omega)
        have ih' := ih hdg n hn
        rw [if_neg hc]
        rw [r16_B2_eq]
        simp (disch := omega) only [go_sem, r16_C2, r16_K3, hz, h1, i0, hg, k1, k2, k3, e1, e2, w64]
        exact ih'
    · have k2 : ((c.toNat : Int) ≤ 57) = False := eq_false (by omega)
      have hn : isDg c = false := by simp [isDg, g2]
      rw [hn, if_neg (by simp), refN, List.length_nil, Nat.add_zero, Nat.add_zero, r16_B2_eq]
      simp (disch := omega) only [go_sem, r16_C2, hz, h1, i0, hg, k1, k2]
  · have k1 : ((c.toNat : Int) ≥ 48) = False := eq_false (by omega)
    have hn : isDg c = false := by simp [isDg, g1]
    rw [hn, if_neg (by simp), refN, List.length_nil, Nat.add_zero, Nat.add_zero, r16_B2_eq]
    simp (disch := omega) only [go_sem, r16_C2, hz, h1, i0, hg, k1]
theorem pr_loop (L : List UInt8) (hL : L.length ≤ 20000) (neg : Bool) (D : List Int) (sc : Int) (up : Bool) : ∀ (R : List UInt8) (i n k : Nat), L.drop i = R → i ≤ L.length → n ≤ 1000000 → k + R.length ≤ 20000 → PrIs L neg D sc up R i n k
  | [], i, n, k, h, hi, hn, hk => by
    obtain rfl := drop_nil' h hi
    exact pr_nil L neg D sc up n k
  | c :: r, i, n, k, h, hi, hn, hk => by
    obtain ⟨h1, h2, h3⟩ := drop_cons' h
    simp only [List.length_cons] at hk
    exact pr_step L hL neg D sc up c r i n k h1 h2 hn (by omega) fun _ m hm => pr_loop L hL neg D sc up r (i + 1) m (k + 1) h3 (by omega) hm (by omega)

theorem rp_k4 (f : St → Option (Ex × St)) (L : List UInt8) (neg : Bool) (D : List Int) (sc : Int) (hs : -20000 ≤ sc ∧ sc ≤ 20000) (up : Bool) (i n : Nat) (hn : n ≤ 1000000) :
    seqK (fun s' => f (s'.head LV15)) (V (F tab) (r16_K4 ()) (r16_J4 (.d (.str (bt L))) (.ibox [.d (iv 0), .d (iv 0)]) (.ibox [.d (.bool neg), .nilsl]) (.d (iv i)) (.d (iv sc)) (.own 3 (D.map iv)) (.d (.bool up)) (.d (iv n)) [])) =
      f (r16_J15 (.d (.str (bt L))) (.ibox [.d (iv 0), .d (iv 0)]) (.ibox [.d (.bool neg), .nilsl]) (.d (iv i)) (.d (iv (sc - (if up then 1 else -1) * (n : Int)))) (.own 3 (D.map iv)) []) := by
  cases up with
  | true =>
    have e : sc - (if true = true then 1 else -1) * (n : Int) = sc - n := by simp
    rw [e]
    simp (disch := omega) only [go_sem, r16_K4, w64]
  | false =>
    have e : sc - (if false = true then 1 else -1) * (n : Int) = sc + n := by simp
    rw [e]
    simp (disch := omega) only [go_sem, r16_K4, w64]
theorem rp_k6 (f : St → Option (Ex × St)) (L : List UInt8) (hL : L.length ≤ 20000) (neg : Bool) (D : List Int) (sc : Int) (hs : -20000 ≤ sc ∧ sc ≤ 20000) (up : Bool) (R : List UInt8) (i : Nat) (h : L.drop i = R) (hi : i ≤ L.length) :
    seqK (fun s' => f (s'.head LV15)) (V (F tab) (r16_K6 ()) (r16_J6 (.d (.str (bt L))) (.ibox [.d (iv 0), .d (iv 0)]) (.ibox [.d (.bool neg), .nilsl]) (.d (iv i)) (.d (iv sc)) (.own 3 (D.map iv)) (.d (.bool up)) [])) =
      if (R.takeWhile isDg).isEmpty then some (.ret, PR (0, 0, 3)) else f (r16_J15 (.d (.str (bt L))) (.ibox [.d (iv 0), .d (iv 0)]) (.ibox [.d (.bool neg), .nilsl]) (.d (iv ((i + (R.takeWhile isDg).length : Nat) : Int))) (.d (iv (sc - (if up then 1 else -1) * ((refN (R.takeWhile isDg) 0 : Nat) : Int)))) (.own 3 (D.map iv)) []) := by
  have hRl : R.length ≤ 20000 := by rw [← h, List.length_drop]; omega
  have hl := pr_loop L hL neg D sc up R i 0 0 h hi (by omega) (by omega)
  have hr := refN_le (R.takeWhile isDg) 0 (tw_dgl R) (by omega)
  have h4 := rp_k4 f L neg D sc hs up (i + (R.takeWhile isDg).length) (refN (R.takeWhile isDg) 0) hr
  unfold PrIs at hl
  have z : ((0 : Nat) : Int) = 0 := rfl
  rw [z] at hl
  simp (disch := omega) only [go_sem, r16_K6]
  rw [r16_B2_n]
  erw [hl]
  generalize refN (R.takeWhile isDg) 0 = n at *
  generalize R.takeWhile isDg = B at *
  cases B with
  | nil =>
    have k : (((0 + 0 : Nat) : Int) == 0) = true := rfl
    have k2 : (((0 : Nat) : Int) == 0) = true := rfl
    have k3 : ((0 : Int) == 0) = true := rfl
    simp (disch := omega) only [go_sem, r16_K5, List.length_nil, List.isEmpty_nil, k, k2, k3]
  | cons c r =>
    have k : (((0 + (r.length + 1) : Nat) : Int) == 0) = false := by simp; omega
    simp (disch := omega) only [go_sem, r16_K5, List.length_cons, List.isEmpty_cons, k]
    exact h4
end Go.Pe.T

namespace Go.Pe.T
def endR (neg : Bool) (D : List Int) (sc s : Int) (R : List UInt8) : Int × Int × Int :=
  if (R.takeWhile isDg).isEmpty then (0, 0, 3) else if (R.dropWhile isDg).isEmpty then sgC neg (heldC (val D.reverse) (sc - s * ((refN (R.takeWhile isDg) 0 : Nat) : Int))) else (0, 0, 3)
def finR (neg : Bool) (D : List Int) (sc : Int) : List UInt8 → Int × Int × Int
  | [] => sgC neg (heldC (val D.reverse) sc)
  | c :: r => if isE c then endR neg D sc (sgnP r).1 (sgnP r).2 else (0, 0, 3)
theorem drop_tw {L R : List UInt8} {i : Nat} (h : L.drop i = R) : L.drop (i + (R.takeWhile isDg).length) = R.dropWhile isDg := by
  rw [← List.drop_drop, h]
  exact (take_tw R).2
theorem lt_iff_drop {L R : List UInt8} {i : Nat} (h : L.drop i = R) (hi : i ≤ L.length) : i < L.length ↔ R.isEmpty = false := by
  constructor
  · intro hlt
    cases R with
    | nil => have := drop_nil' h hi; omega
    | cons c r => rfl
  · intro hne
    cases R with
    | nil => simp at hne
    | cons c r => exact (drop_cons' h).1
theorem rp_after (L : List UInt8) (hL : L.length ≤ 5000) (neg : Bool) (D : List Int) (hd : Digs D) (hne : D ≠ []) (hl : D.length ≤ 5000) (sc : Int) (hs : -20000 ≤ sc ∧ sc ≤ 20000) (up : Bool) (R : List UInt8) (i : Nat) (h : L.drop i = R) (hi : i ≤ L.length) :
    seqK (fun s' => V (F tab) (r16_K15 ()) (s'.head LV15)) (V (F tab) (r16_K6 ()) (r16_J6 (.d (.str (bt L))) (.ibox [.d (iv 0), .d (iv 0)]) (.ibox [.d (.bool neg), .nilsl]) (.d (iv i)) (.d (iv sc)) (.own 3 (D.map iv)) (.d (.bool up)) [])) =
      some (.ret, PR (endR neg D sc (if up then 1 else -1) R)) := by
  refine (rp_k6 _ L (by omega) neg D sc hs up R i h hi).trans ?_
  unfold endR
  have hsg : (if up = true then (1 : Int) else -1) = 1 ∨ (if up = true then (1 : Int) else -1) = -1 := by cases up <;> simp
  generalize (if up = true then (1 : Int) else -1) = s at *
  have hr := refN_le (R.takeWhile isDg) 0 (tw_dgl R) (by omega)
  have hsum := congrArg List.length (List.takeWhile_append_dropWhile (p := isDg) (l := R))
  rw [List.length_append] at hsum
  have hRl : R.length = L.length - i := by rw [← h, List.length_drop]
  rcases Bool.eq_false_or_eq_true (R.takeWhile isDg).isEmpty with g | g
  · rw [g]; rfl
  · rw [g, if_neg (by simp), if_neg (by simp)]
    rw [rp_k15 L neg D hd hne (by omega) _ (by rcases hsg with rfl | rfl <;> omega) _]
    have hlt := lt_iff_drop (drop_tw h) (by omega)
    rcases Bool.eq_false_or_eq_true (R.dropWhile isDg).isEmpty with g2 | g2
    · rw [g2] at hlt ⊢
      rw [if_neg (by simp at hlt; omega), if_pos rfl]
    · rw [g2] at hlt ⊢
      rw [if_pos (hlt.2 rfl), if_neg (by simp)]

set_option maxHeartbeats 4000000 in
theorem rp_k16e (L : List UInt8) (hL : L.length ≤ 5000) (neg : Bool) (D : List Int) (hd : Digs D) (hne : D ≠ []) (hl : D.length ≤ 5000) (sc : Int) (hs : -20000 ≤ sc ∧ sc ≤ 20000) (c : UInt8) (r : List UInt8) (i : Nat) (h : L.drop i = c :: r) (b1 b2 : Bool) (h1 : ((c.toNat : Int) == 101) = b1) (h2 : ((c.toNat : Int) == 69) = b2) (hb : (b1 || b2) = true) :
    V (F tab) (r16_K16 ()) (r16_J16 (.d (.str (bt L))) (.ibox [.d (iv 0), .d (iv 0)]) (.ibox [.d (.bool neg), .nilsl]) (.d (iv i)) (.d (iv sc)) (.own 3 (D.map iv)) []) = some (.ret, PR (endR neg D sc (sgnP r).1 (sgnP r).2)) := by
  obtain ⟨hi, hg, hr⟩ := drop_cons' h
  have hz := bt_size L
  have k1 : ((i : Int) < (L.length : Int)) = True := eq_true (by omega)
  have i0 : (0 ≤ (i : Int)) = True := eq_true (by omega)
  have i1 : (0 ≤ ((i + 1 : Nat) : Int)) = True := eq_true (by omega)
  have e1 : (i : Int) + 1 = ((i + 1 : Nat) : Int) := rfl
  have e2 : ((i + 1 : Nat) : Int) + 1 = ((i + 1 + 1 : Nat) : Int) := rfl
  have hb' : b1 = true ∨ (b1 = false ∧ b2 = true) := by cases b1 <;> cases b2 <;> simp at hb ⊢
  cases r with
  | nil =>
    have hle := drop_nil' hr (by omega)
    have k2 : (((i + 1 : Nat) : Int) < (L.length : Int)) = False := eq_false (by omega)
    have hf := rp_after L hL neg D hd hne hl sc hs true [] (i + 1) hr (by omega)
    rw [show sgnP [] = (1, []) from rfl]
    rcases hb' with rfl | ⟨rfl, rfl⟩
    · simp (disch := omega) only [go_sem, r16_K16, hz, k1, i0, hg, h1, e1, k2, w64]
      exact hf
    · simp (disch := omega) only [go_sem, r16_K16, hz, k1, i0, hg, h1, h2, e1, k2, w64]
      exact hf
  | cons c2 r2 =>
    obtain ⟨hi2, hg2, hr2⟩ := drop_cons' hr
    have k2 : (((i + 1 : Nat) : Int) < (L.length : Int)) = True := eq_true (by omega)
    by_cases h43 : c2.toNat = 43
    · have q1 : ((c2.toNat : Int) == 43) = true := by simp; omega
      have hf := rp_after L hL neg D hd hne hl sc hs true r2 (i + 1 + 1) hr2 (by omega)
      rw [show sgnP (c2 :: r2) = (1, r2) by simp only [sgnP, if_pos h43]]
      rcases hb' with rfl | ⟨rfl, rfl⟩
      · simp (disch := omega) only [go_sem, r16_K16, hz, k1, i0, hg, h1, e1, k2, i1, hg2, q1, e2, w64]
        exact hf
      · simp (disch := omega) only [go_sem, r16_K16, hz, k1, i0, hg, h1, h2, e1, k2, i1, hg2, q1, e2, w64]
        exact hf
    · have q1 : ((c2.toNat : Int) == 43) = false := by simp; omega
      by_cases h45 : c2.toNat = 45
      · have q2 : ((c2.toNat : Int) == 45) = true := by simp; omega
        have hf := rp_after L hL neg D hd hne hl sc hs false r2 (i + 1 + 1) hr2 (by omega)
        rw [show sgnP (c2 :: r2) = (-1, r2) by simp only [sgnP, if_neg h43, if_pos h45]]
        rcases hb' with rfl | ⟨rfl, rfl⟩
        · simp (disch := omega) only [go_sem, r16_K16, hz, k1, i0, hg, h1, e1, k2, i1, hg2, q1, q2, e2, w64]
          exact hf
        · simp (disch := omega) only [go_sem, r16_K16, hz, k1, i0, hg, h1, h2, e1, k2, i1, hg2, q1, q2, e2, w64]
          exact hf
      · have q2 : ((c2.toNat : Int) == 45) = false := by simp; omega
        have hf := rp_after L hL neg D hd hne hl sc hs true (c2 :: r2) (i + 1) hr (by omega)
        rw [show sgnP (c2 :: r2) = (1, c2 :: r2) by simp only [sgnP, if_neg h43, if_neg h45]]
        rcases hb' with rfl | ⟨rfl, rfl⟩
        · simp (disch := omega) only [go_sem, r16_K16, hz, k1, i0, hg, h1, e1, k2, i1, hg2, q1, q2, e2, w64]
          exact hf
        · simp (disch := omega) only [go_sem, r16_K16, hz, k1, i0, hg, h1, h2, e1, k2, i1, hg2, q1, q2, e2, w64]
          exact hf

set_option maxHeartbeats 1000000 in
theorem rp_k16 (L : List UInt8) (hL : L.length ≤ 5000) (neg : Bool) (D : List Int) (hd : Digs D) (hne : D ≠ []) (hl : D.length ≤ 5000) (sc : Int) (hs : -20000 ≤ sc ∧ sc ≤ 20000) (R : List UInt8) (i : Nat) (h : L.drop i = R) (hi : i ≤ L.length) :
    V (F tab) (r16_K16 ()) (r16_J16 (.d (.str (bt L))) (.ibox [.d (iv 0), .d (iv 0)]) (.ibox [.d (.bool neg), .nilsl]) (.d (iv i)) (.d (iv sc)) (.own 3 (D.map iv)) []) = some (.ret, PR (finR neg D sc R)) := by
  have hz := bt_size L
  cases R with
  | nil =>
    obtain rfl := drop_nil' h hi
    have k1 : ((L.length : Int) < (L.length : Int)) = False := eq_false (by omega)
    have h15 := rp_k15 L neg D hd hne (by omega) sc (by omega) L.length
    rw [if_neg (by omega)] at h15
    simp (disch := omega) only [go_sem, r16_K16, hz, k1, finR]
    exact h15
  | cons c r =>
    obtain ⟨hi, hg, hr⟩ := drop_cons' h
    rw [finR]
    have e1 : ((c.toNat : Int) == 101) = (c.toNat == 101) := by
      rw [Bool.eq_iff_iff]; simp; omega
    have e2 : ((c.toNat : Int) == 69) = (c.toNat == 69) := by
      rw [Bool.eq_iff_iff]; simp; omega
    rcases Bool.eq_false_or_eq_true (isE c) with g | g
    · rw [g, if_pos rfl]
      refine rp_k16e L hL neg D hd hne hl sc hs c r i h _ _ e1 e2 ?_
      unfold isE at g
      rw [Bool.or_comm]; exact g
    · rw [g, if_neg (by simp)]
      unfold isE at g
      rw [Bool.or_eq_false_iff] at g
      rw [g.2] at e1
      rw [g.1] at e2
      have k1 : ((i : Int) < (L.length : Int)) = True := eq_true (by omega)
      have i0 : (0 ≤ (i : Int)) = True := eq_true (by omega)
      have h15 := rp_k15 L neg D hd hne (by omega) sc (by omega) i
      rw [if_pos hi] at h15
      simp (disch := omega) only [go_sem, r16_K16, hz, k1, i0, hg, e1, e2]
      exact h15
end Go.Pe.T

namespace Go.Pe.T
def FrIs (L : List UInt8) (neg : Bool) (R : List UInt8) (i sc : Nat) (D : List Int) : Prop :=
  V (F tab) r16_B1 (r16_S1 (.d (.str (bt L))) (.ibox [.d (iv 0), .d (iv 0)]) (.ibox [.d (.bool neg), .nilsl]) (.d (iv i)) (.d (iv sc)) (.own 3 (D.map iv)) []) =
    some (.norm, r16_E1 (.d (.str (bt L))) (.ibox [.d (iv 0), .d (iv 0)]) (.ibox [.d (.bool neg), .nilsl]) (.d (iv ((i + (R.takeWhile isDg).length : Nat) : Int))) (.d (iv ((sc + (R.takeWhile isDg).length : Nat) : Int))) (.own 3 ((D ++ (R.takeWhile isDg).map dgI).map iv)) [])
theorem fr_nil (L : List UInt8) (neg : Bool) (sc : Nat) (D : List Int) : FrIs L neg [] L.length sc D := by
  have h1 : ((L.length : Int) < (L.length : Int)) = False := eq_false (by omega)
  have hz := bt_size L
  unfold FrIs
  rw [List.takeWhile_nil, List.length_nil, List.map_nil, List.append_nil, Nat.add_zero, Nat.add_zero, r16_B1_eq]
  simp (disch := omega) only [go_sem, r16_C1, hz, h1]
set_option maxHeartbeats 1000000 in
theorem fr_step (L : List UInt8) (hL : L.length ≤ 20000) (neg : Bool) (D : List Int) (hD : D.length ≤ 20000) (c : UInt8) (r : List UInt8) (i sc : Nat) (hi : i < L.length) (hg : (bt L)[i]? = some c) (hk : sc ≤ 20000)
    (ih : isDg c = true → FrIs L neg r (i + 1) (sc + 1) (D ++ [dgI c])) : FrIs L neg (c :: r) i sc D := by
  have h1 : ((i : Int) < (L.length : Int)) = True := eq_true (by omega)
  have i0 : (0 ≤ (i : Int)) = True := eq_true (by omega)
  have hz := bt_size L
  have e1 : (i : Int) + 1 = ((i + 1 : Nat) : Int) := rfl
  have e2 : (sc : Int) + 1 = ((sc + 1 : Nat) : Int) := rfl
  have h9 : ((D.length + 1) * 8 ≤ maxRow) = True := eq_true (by unfold maxRow; omega)
  unfold FrIs at ih ⊢
  rw [List.takeWhile_cons]
  by_cases g1 : 48 ≤ c.toNat
  · have k1 : ((c.toNat : Int) ≥ 48) = True := eq_true (by omega)
    by_cases g2 : c.toNat ≤ 57
    · have k2 : ((c.toNat : Int) ≤ 57) = True := eq_true (by omega)
      have hdg := isDg_iff.2 ⟨g1, g2⟩
      have ih' := ih hdg
      have e3 : D ++ (c :: r.takeWhile isDg).map dgI = D ++ [dgI c] ++ (r.takeWhile isDg).map dgI := by simp
      rw [hdg, if_pos rfl, List.length_cons, e3, show i + ((r.takeWhile isDg).length + 1) = i + 1 + (r.takeWhile isDg).length by omega, show sc + ((r.takeWhile isDg).length + 1) = sc + 1 + (r.takeWhile isDg).length by omega]
      generalize (D ++ [dgI c] ++ (r.takeWhile isDg).map dgI).map iv = W at *
      simp only [List.map_append, List.map_cons, List.map_nil, dgI] at ih'
      rw [r16_B1_eq]
      simp (disch := omega) only [go_sem, r16_C1, r16_K1, hz, h1, i0, hg, k1, k2, e1, e2, h9, List.length_map, w64]
      exact ih'
    · have k2 : ((c.toNat : Int) ≤ 57) = False := eq_false (by omega)
      have hn : isDg c = false := by simp [isDg, g2]
      rw [hn, if_neg (by simp), List.length_nil, List.map_nil, List.append_nil, Nat.add_zero, Nat.add_zero, r16_B1_eq]
      simp (disch := omega) only [go_sem, r16_C1, hz, h1, i0, hg, k1, k2]
  · have k1 : ((c.toNat : Int) ≥ 48) = False := eq_false (by omega)
    have hn : isDg c = false := by simp [isDg, g1]
    rw [hn, if_neg (by simp), List.length_nil, List.map_nil, List.append_nil, Nat.add_zero, Nat.add_zero, r16_B1_eq]
    simp (disch := omega) only [go_sem, r16_C1, hz, h1, i0, hg, k1]
theorem fr_loop (L : List UInt8) (hL : L.length ≤ 5000) (neg : Bool) : ∀ (R : List UInt8) (i sc : Nat) (D : List Int), L.drop i = R → i ≤ L.length → sc + R.length ≤ 20000 → D.length + R.length ≤ 20000 → FrIs L neg R i sc D
  | [], i, sc, D, h, hi, hk, hD => by
    obtain rfl := drop_nil' h hi
    exact fr_nil L neg sc D
  | c :: r, i, sc, D, h, hi, hk, hD => by
    obtain ⟨h1, h2, h3⟩ := drop_cons' h
    simp only [List.length_cons] at hk hD
    exact fr_step L (by omega) neg D (by omega) c r i sc h1 h2 (by omega) fun _ => fr_loop L hL neg r (i + 1) (sc + 1) _ h3 (by omega) (by omega) (by simp; omega)

def WhIs (L : List UInt8) (neg : Bool) (R : List UInt8) (i w fr : Nat) (D : List Int) : Prop :=
  V (F tab) r16_B0 (r16_S0 (.d (.str (bt L))) (.ibox [.d (iv 0), .d (iv 0)]) (.ibox [.d (.bool neg), .nilsl]) (.d (iv i)) (.d (iv 0)) (.d (iv w)) (.d (iv fr)) (.own 3 (D.map iv)) []) =
    some (.norm, r16_E0 (.d (.str (bt L))) (.ibox [.d (iv 0), .d (iv 0)]) (.ibox [.d (.bool neg), .nilsl]) (.d (iv ((i + (R.takeWhile isDg).length : Nat) : Int))) (.d (iv 0)) (.d (iv ((w + (R.takeWhile isDg).length : Nat) : Int))) (.d (iv fr)) (.own 3 ((D ++ (R.takeWhile isDg).map dgI).map iv)) [])
theorem wh_nil (L : List UInt8) (neg : Bool) (w fr : Nat) (D : List Int) : WhIs L neg [] L.length w fr D := by
  have h1 : ((L.length : Int) < (L.length : Int)) = False := eq_false (by omega)
  have hz := bt_size L
  unfold WhIs
  rw [List.takeWhile_nil, List.length_nil, List.map_nil, List.append_nil, Nat.add_zero, Nat.add_zero, r16_B0_eq]
  simp (disch := omega) only [go_sem, r16_C0, hz, h1]
set_option maxHeartbeats 1000000 in
theorem wh_step (L : List UInt8) (hL : L.length ≤ 20000) (neg : Bool) (D : List Int) (hD : D.length ≤ 20000) (c : UInt8) (r : List UInt8) (i w fr : Nat) (hi : i < L.length) (hg : (bt L)[i]? = some c) (hk : w ≤ 20000)
    (ih : isDg c = true → WhIs L neg r (i + 1) (w + 1) fr (D ++ [dgI c])) : WhIs L neg (c :: r) i w fr D := by
  have h1 : ((i : Int) < (L.length : Int)) = True := eq_true (by omega)
  have i0 : (0 ≤ (i : Int)) = True := eq_true (by omega)
  have hz := bt_size L
  have e1 : (i : Int) + 1 = ((i + 1 : Nat) : Int) := rfl
  have e2 : (w : Int) + 1 = ((w + 1 : Nat) : Int) := rfl
  have h9 : ((D.length + 1) * 8 ≤ maxRow) = True := eq_true (by unfold maxRow; omega)
  unfold WhIs at ih ⊢
  rw [List.takeWhile_cons]
  by_cases g1 : 48 ≤ c.toNat
  · have k1 : ((c.toNat : Int) ≥ 48) = True := eq_true (by omega)
    by_cases g2 : c.toNat ≤ 57
    · have k2 : ((c.toNat : Int) ≤ 57) = True := eq_true (by omega)
      have hdg := isDg_iff.2 ⟨g1, g2⟩
      have ih' := ih hdg
      have e3 : D ++ (c :: r.takeWhile isDg).map dgI = D ++ [dgI c] ++ (r.takeWhile isDg).map dgI := by simp
      rw [hdg, if_pos rfl, List.length_cons, e3, show i + ((r.takeWhile isDg).length + 1) = i + 1 + (r.takeWhile isDg).length by omega, show w + ((r.takeWhile isDg).length + 1) = w + 1 + (r.takeWhile isDg).length by omega]
      generalize (D ++ [dgI c] ++ (r.takeWhile isDg).map dgI).map iv = W at *
      simp only [List.map_append, List.map_cons, List.map_nil, dgI] at ih'
      rw [r16_B0_eq]
      simp (disch := omega) only [go_sem, r16_C0, r16_K0, hz, h1, i0, hg, k1, k2, e1, e2, h9, List.length_map, w64]
      exact ih'
    · have k2 : ((c.toNat : Int) ≤ 57) = False := eq_false (by omega)
      have hn : isDg c = false := by simp [isDg, g2]
      rw [hn, if_neg (by simp), List.length_nil, List.map_nil, List.append_nil, Nat.add_zero, Nat.add_zero, r16_B0_eq]
      simp (disch := omega) only [go_sem, r16_C0, hz, h1, i0, hg, k1, k2]
  · have k1 : ((c.toNat : Int) ≥ 48) = False := eq_false (by omega)
    have hn : isDg c = false := by simp [isDg, g1]
    rw [hn, if_neg (by simp), List.length_nil, List.map_nil, List.append_nil, Nat.add_zero, Nat.add_zero, r16_B0_eq]
    simp (disch := omega) only [go_sem, r16_C0, hz, h1, i0, hg, k1]
theorem wh_loop (L : List UInt8) (hL : L.length ≤ 5000) (neg : Bool) (fr : Nat) : ∀ (R : List UInt8) (i w : Nat) (D : List Int), L.drop i = R → i ≤ L.length → w + R.length ≤ 20000 → D.length + R.length ≤ 20000 → WhIs L neg R i w fr D
  | [], i, w, D, h, hi, hk, hD => by
    obtain rfl := drop_nil' h hi
    exact wh_nil L neg w fr D
  | c :: r, i, w, D, h, hi, hk, hD => by
    obtain ⟨h1, h2, h3⟩ := drop_cons' h
    simp only [List.length_cons] at hk hD
    exact wh_step L (by omega) neg D (by omega) c r i w fr h1 h2 (by omega) fun _ => wh_loop L hL neg fr r (i + 1) (w + 1) _ h3 (by omega) (by omega) (by simp; omega)

def fracR (neg : Bool) (A : List Int) : List UInt8 → Int × Int × Int
  | [] => finR neg A 0 []
  | c :: r => if c.toNat = 46 then (if (r.takeWhile isDg).isEmpty then (0, 0, 3) else finR neg (A ++ (r.takeWhile isDg).map dgI) ((r.takeWhile isDg).length : Int) (r.dropWhile isDg)) else finR neg A 0 (c :: r)
theorem map_digs {l : List UInt8} (h : DgL l) : Digs (l.map dgI) := fun d hd => by
  obtain ⟨b, hb, rfl⟩ := List.mem_map.1 hd
  have := isDg_iff.1 (h b hb)
  unfold digit dgI
  omega
set_option maxHeartbeats 1000000 in
theorem rp_k17 (L : List UInt8) (hL : L.length ≤ 5000) (neg : Bool) (A : List UInt8) (hA : DgL A) (hne : A ≠ []) (R : List UInt8) (i : Nat) (h : L.drop i = R) (hi : i ≤ L.length) (hAi : A.length ≤ i) :
    V (F tab) (r16_K17 ()) (r16_J17 (.d (.str (bt L))) (.ibox [.d (iv 0), .d (iv 0)]) (.ibox [.d (.bool neg), .nilsl]) (.d (iv i)) (.d (iv 0)) (.own 3 ((A.map dgI).map iv)) []) = some (.ret, PR (fracR neg (A.map dgI) R)) := by
  have hz := bt_size L
  have hA2 : A.map dgI ≠ [] := by simpa using hne
  cases R with
  | nil =>
    have hf := rp_k16 L hL neg (A.map dgI) (map_digs hA) hA2 (by rw [List.length_map]; omega) 0 (by omega) [] i h hi
    obtain rfl := drop_nil' h hi
    have k1 : ((L.length : Int) < (L.length : Int)) = False := eq_false (by omega)
    simp (disch := omega) only [go_sem, r16_K17, hz, k1, fracR]
    exact hf
  | cons c r =>
    obtain ⟨hi2, hg, hr⟩ := drop_cons' h
    have k1 : ((i : Int) < (L.length : Int)) = True := eq_true (by omega)
    have i0 : (0 ≤ (i : Int)) = True := eq_true (by omega)
    have e1 : (i : Int) + 1 = ((i + 1 : Nat) : Int) := rfl
    rw [fracR]
    by_cases h46 : c.toNat = 46
    · have q1 : ((c.toNat : Int) == 46) = true := by simp; omega
      have hrl : r.length ≤ 5000 := by rw [← hr, List.length_drop]; omega
      have hl := fr_loop L hL neg r (i + 1) 0 (A.map dgI) hr (by omega) (by omega) (by rw [List.length_map]; omega)
      have hsum := congrArg List.length (List.takeWhile_append_dropWhile (p := isDg) (l := r))
      rw [List.length_append] at hsum
      have hrl2 : r.length = L.length - (i + 1) := by rw [← hr, List.length_drop]
      have hdr := drop_tw hr
      have htd := tw_dgl r
      unfold FrIs at hl
      have z : ((0 : Nat) : Int) = 0 := rfl
      rw [z, Nat.zero_add] at hl
      rw [if_pos h46]
      generalize r.takeWhile isDg = B at *
      generalize r.dropWhile isDg = Q at *
      have hf := fun hs => rp_k16 L hL neg (A.map dgI ++ B.map dgI) (fun d hd => (List.mem_append.1 hd).elim (map_digs hA d) (map_digs htd d)) (by simp [hne]) (by simp; omega) (B.length : Int) hs Q (i + 1 + B.length) hdr (by omega)
      have hf2 := hf (by omega)
      generalize A.map dgI ++ B.map dgI = W at *
      simp (disch := omega) only [go_sem, r16_K17, hz, k1, i0, hg, q1, e1, w64]
      rw [r16_B1_n]
      erw [hl]
      cases B with
      | nil =>
        have k : (((0 : Nat) : Int) == 0) = true := rfl
        have k3 : ((0 : Int) == 0) = true := rfl
        simp (disch := omega) only [go_sem, List.length_nil, List.isEmpty_nil, k, k3]
      | cons b t =>
        have k : (((t.length + 1 : Nat) : Int) == 0) = false := by simp; omega
        simp (disch := omega) only [go_sem, List.length_cons, List.isEmpty_cons, k]
        exact hf2
    · have q1 : ((c.toNat : Int) == 46) = false := by simp; omega
      have hf := rp_k16 L hL neg (A.map dgI) (map_digs hA) hA2 (by rw [List.length_map]; omega) 0 (by omega) (c :: r) i h hi
      rw [if_neg h46]
      simp (disch := omega) only [go_sem, r16_K17, hz, k1, i0, hg, q1]
      exact hf

def refP (neg : Bool) (T : List UInt8) : Int × Int × Int := if lead0 (T.takeWhile isDg) then (0, 0, 3) else fracR neg ((T.takeWhile isDg).map dgI) (T.dropWhile isDg)
set_option maxHeartbeats 1000000 in
theorem rp_k19 (L : List UInt8) (hL : L.length ≤ 5000) (neg : Bool) (T : List UInt8) (i : Nat) (h : L.drop i = T) (hi : i ≤ L.length) :
    V (F tab) (r16_K19 ()) (r16_J19 (.d (.str (bt L))) (.ibox [.d (iv 0), .d (iv 0)]) (.ibox [.d (.bool neg), .nilsl]) (.d (iv i)) (.d (iv 0)) (.d (iv 0)) []) = some (.ret, PR (refP neg T)) := by
  have hz := bt_size L
  have hTl : T.length = L.length - i := by rw [← h, List.length_drop]
  have hl := wh_loop L hL neg i T i 0 [] h hi (by omega) (by simp; omega)
  have hsum := congrArg List.length (List.takeWhile_append_dropWhile (p := isDg) (l := T))
  rw [List.length_append] at hsum
  have hdr := drop_tw h
  have htd := tw_dgl T
  have hap := List.takeWhile_append_dropWhile (p := isDg) (l := T)
  unfold WhIs at hl
  have z : ((0 : Nat) : Int) = 0 := rfl
  rw [z, Nat.zero_add, List.nil_append] at hl
  unfold refP
  generalize T.takeWhile isDg = A at *
  generalize T.dropWhile isDg = Q at *
  simp (disch := omega) only [go_sem, r16_K19]
  rw [r16_B0_n, r16_B0_z9]
  erw [hl]
  have i0 : (0 ≤ (i : Int)) = True := eq_true (by omega)
  cases A with
  | nil =>
    have k : (((0 : Nat) : Int) == 0) = true := rfl
    have k3 : ((0 : Int) == 0) = true := rfl
    rw [show lead0 [] = true from rfl, if_pos rfl]
    simp (disch := omega) only [go_sem, r16_K18, List.length_nil, k, k3]
  | cons c t =>
    simp only [List.length_cons] at hsum hdr
    have hf := rp_k17 L hL neg (c :: t) htd (by simp) Q (i + (t.length + 1)) hdr (by omega) (by simp only [List.length_cons]; omega)
    have hg : (bt L)[i]? = some c := by
      rw [← hap, List.cons_append] at h
      exact (drop_cons' h).2.1
    have k : (((t.length + 1 : Nat) : Int) == 0) = false := by simp; omega
    by_cases h1 : t = []
    · have k1 : (((t.length + 1 : Nat) : Int) > 1) = False := eq_false (by subst h1; simp)
      have e : lead0 (c :: t) = false := by subst h1; rfl
      rw [e, if_neg (by simp)]
      simp (disch := omega) only [go_sem, r16_K18, List.length_cons, k, k1]
      exact hf
    · have hlt : 0 < t.length := List.length_pos_iff.2 h1
      have k1 : (((t.length + 1 : Nat) : Int) > 1) = True := eq_true (by omega)
      by_cases h2 : c.toNat = 48
      · have k2 : ((c.toNat : Int) == 48) = true := by simp; omega
        have e : lead0 (c :: t) = true := by simp [lead0, h2]; omega
        rw [e, if_pos rfl]
        simp (disch := omega) only [go_sem, r16_K18, List.length_cons, k, k1, i0, hg, k2]
      · have k2 : ((c.toNat : Int) == 48) = false := by simp; omega
        have e : lead0 (c :: t) = false := by simp [lead0, h2]
        rw [e, if_neg (by simp)]
        simp (disch := omega) only [go_sem, r16_K18, List.length_cons, k, k1, i0, hg, k2]
        exact hf
set_option maxHeartbeats 1000000 in
theorem rparse_ok (L : List UInt8) (hL : L.length ≤ 5000) (hp : List Ent) : F tab 16 [.d (.str (bt L))] hp = some (.ret (tupC (refP (isNeg L) (absT L))) hp) := by
  have hz := bt_size L
  refine f16 rfl ?_
  cases L with
  | nil =>
    have hf := rp_k19 [] (by simp) false [] 0 rfl (by simp)
    have k1 : ((0 : Int) < ((0 : Nat) : Int)) = False := eq_false (by omega)
    have k2 : ((0 : Int) < (0 : Int)) = False := eq_false (by omega)
    have z : ((0 : Nat) : Int) = 0 := rfl
    rw [z] at hf
    rw [show isNeg [] = false from rfl, show absT [] = [] from rfl]
    generalize refP false [] = p at *
    obtain ⟨a, b, e⟩ := p
    simp (disch := omega) only [go_sem, r16_T, r16, hz, k1, k2, List.length_nil]
    erw [hf]
    simp (disch := omega) only [go_sem, tupC]
  | cons c r =>
    have k1 : ((0 : Int) < ((r.length + 1 : Nat) : Int)) = True := eq_true (by omega)
    have i0 : (0 ≤ (0 : Int)) = True := eq_true (by omega)
    have hg := bt_zero c r
    rw [List.length_cons] at hz
    have e45 : ((c.toNat : Int) == 45) = (c.toNat == 45) := by
      rw [Bool.eq_iff_iff]; simp; omega
    rcases Bool.eq_false_or_eq_true (c.toNat == 45) with g | g
    · have hf := rp_k19 (c :: r) hL true r 1 rfl (by simp)
      rw [g] at e45
      rw [show isNeg (c :: r) = true from g, absT, g, if_pos rfl]
      generalize refP true r = p at *
      obtain ⟨a, b, e⟩ := p
      have z : ((1 : Nat) : Int) = 1 := rfl
      rw [z] at hf
      simp (disch := omega) only [go_sem, r16_T, r16, hz, k1, i0, hg, e45, w64]
      erw [hf]
      simp (disch := omega) only [go_sem, tupC]
    · have hf := rp_k19 (c :: r) hL false (c :: r) 0 rfl (by simp)
      rw [g] at e45
      rw [show isNeg (c :: r) = false from g, absT, g, if_neg (by simp)]
      generalize refP false (c :: r) = p at *
      obtain ⟨a, b, e⟩ := p
      have z : ((0 : Nat) : Int) = 0 := rfl
      rw [z] at hf
      simp (disch := omega) only [go_sem, r16_T, r16, hz, k1, i0, hg, e45, w64]
      erw [hf]
      simp (disch := omega) only [go_sem, tupC]
end Go.Pe.T

namespace Go.Pe.T
theorem pow_rel : ∀ (t : List UInt8) (n m : Nat), DgL t → (n = m ∨ (100000 ≤ n ∧ 100000 ≤ m)) → refN t n = capN t m ∨ (100000 ≤ refN t n ∧ 100000 ≤ capN t m)
  | [], n, m, _, h => h
  | b :: r, n, m, hd, h => by
    have hb := isDg_iff.1 (hd b (by simp))
    have hr : DgL r := fun x hx => hd x (by simp [hx])
    rw [refN, capN]
    refine pow_rel r _ _ hr ?_
    by_cases hn : n < 100000
    · rw [if_pos hn]
      rcases h with rfl | h
      · left
        rw [Nat.min_eq_left (by omega)]
      · omega
    · rw [if_neg hn]
      right
      refine ⟨by omega, ?_⟩
      have : 100000 ≤ m := by rcases h with h | h <;> omega
      exact Nat.le_min.2 ⟨by omega, by omega⟩
theorem pow_same (l : List Int) (hd : Digs l) (hl : l.length ≤ 5000) (b s : Int) (hb : 0 ≤ b ∧ b ≤ 5000) (hs : s = 1 ∨ s = -1) (t : List UInt8) (ht : DgL t) :
    heldC (val l) (b - s * ((refN t 0 : Nat) : Int)) = heldC (val l) (b - s * ((capN t 0 : Nat) : Int)) := by
  rcases pow_rel t 0 0 ht (.inl rfl) with h | ⟨h1, h2⟩
  · rw [h]
  · obtain ⟨v1, v2⟩ := val_bound hd
    by_cases hv : val l = 0
    · rw [hv, heldC_zero, heldC_zero]
    · rcases hs with rfl | rfl
      · rw [heldC_low (by omega) (by omega), heldC_low (by omega) (by omega)]
      · rw [heldC_high (n := l.length) (by omega) v2 (by omega), heldC_high (n := l.length) (by omega) v2 (by omega)]
def ansP (neg : Bool) (p : List UInt8 × List UInt8 × Int × Bool) : Int × Int × Int :=
  if p.2.2.2 then sgC neg (heldC (val (lowD (p.1 ++ p.2.1))) ((p.2.1.length : Int) - p.2.2.1)) else (0, 0, 3)
theorem fin_same (neg : Bool) (A B R : List UInt8) (hA : DgL A) (hB : DgL B) (hl : (A ++ B).length ≤ 5000) : finR neg ((A ++ B).map dgI) (B.length : Int) R = ansP neg (finP A B R) := by
  have hrev : ((A ++ B).map dgI).reverse = lowD (A ++ B) := by simp [lowD, ← List.map_reverse]
  have hll := lowD_len (A ++ B)
  cases R with
  | nil =>
    simp only [finR, ansP, finP, powP, hrev, List.isEmpty_nil, Bool.and_self, if_true, Int.sub_zero]
  | cons c r =>
    rw [finR]
    rcases Bool.eq_false_or_eq_true (isE c) with g | g
    · rw [g, if_pos rfl]
      have hp := pow_same (lowD (A ++ B)) (lowD_digs (hA.app hB)) (by omega) (B.length : Int) (sgnP r).1 (by rw [List.length_append] at hl; omega) (sgnP_one r) ((sgnP r).2.takeWhile isDg) (tw_dgl _)
      simp only [ansP, finP, powP, g, if_true, endR, hrev]
      rw [hp]
      rcases Bool.eq_false_or_eq_true ((sgnP r).2.takeWhile isDg).isEmpty with g2 | g2
      · rw [g2]; rfl
      · rw [g2]
        rcases Bool.eq_false_or_eq_true ((sgnP r).2.dropWhile isDg).isEmpty with g3 | g3
        · rw [g3]; rfl
        · rw [g3]; rfl
    · rw [g, if_neg (by simp)]
      simp only [ansP, finP, powP, g, Bool.false_eq_true, if_false, List.isEmpty_cons, Bool.and_false]
theorem ansP_no (neg : Bool) : ansP neg noP = (0, 0, 3) := rfl
theorem ref_same (L : List UInt8) (hl : L.length ≤ 5000) : refP (isNeg L) (absT L) = parseC L := by
  have e : parseC L = ansP (isNeg L) (partsP (absT L)) := rfl
  have hal := (abs_len L).1
  rw [e]
  generalize isNeg L = neg at *
  generalize absT L = T at *
  unfold refP partsP
  have htw := tw_le T
  have hdg := tw_dgl T
  have hsum := congrArg List.length (List.takeWhile_append_dropWhile (p := isDg) (l := T))
  rw [List.length_append] at hsum
  generalize T.takeWhile isDg = A at *
  generalize T.dropWhile isDg = R at *
  rcases Bool.eq_false_or_eq_true (lead0 A) with g | g
  · rw [g, if_pos rfl, if_pos rfl, ansP_no]
  · rw [g, if_neg (by simp), if_neg (by simp)]
    have hn : DgL [] := fun b hb => by simp at hb
    have hTl : T.length ≤ 5000 := by rw [hal]; omega
    have z : ((([] : List UInt8).length : Nat) : Int) = 0 := rfl
    cases R with
    | nil =>
      have := fin_same neg A [] [] hdg hn (by simp; omega)
      rw [List.append_nil, z] at this
      exact this
    | cons c r =>
      rw [fracR, fracP]
      by_cases h : c.toNat = 46
      · rw [if_pos h, if_pos h]
        have h2 := tw_le r
        simp only [List.length_cons] at hsum
        rcases Bool.eq_false_or_eq_true (r.takeWhile isDg).isEmpty with g2 | g2
        · rw [g2, if_pos rfl, if_pos rfl, ansP_no]
        · rw [g2, if_neg (by simp), if_neg (by simp), ← List.map_append]
          exact fin_same neg A (r.takeWhile isDg) (r.dropWhile isDg) hdg (tw_dgl r) (by rw [List.length_append]; omega)
      · rw [if_neg h, if_neg h]
        have := fin_same neg A [] (c :: r) hdg hn (by simp; omega)
        rw [List.append_nil, z] at this
        exact this
end Go.Pe.T

namespace Go.Pe.T
theorem at_num (Q : List UInt8) (hl : Q.length ≤ 4096) (i : Nat) (hi : i < Q.length) (c : UInt8) (hc : isDg c = true) :
    V (F tab) (r9_K19 ()) (r9_J19 (.d (.str (bt Q))) (.d (iv i)) at0 (.d (.int .u8 (c.toNat : Int))) []) = some (.ret, r9_R (.ibox (atC (numTk (Q.drop i)) i)) []) := by
  have hz := bt_size Q
  have hdg := rdigit_ok (c.toNat : Int)
  rw [dig_is, hc] at hdg
  have hn := rnumber_ok Q (by omega) i (by omega)
  have hle := lng_le (Q.drop i)
  rw [List.length_drop] at hle
  have hcut : (bt Q).extract i (i + lngN (Q.drop i)) = bt ((Q.drop i).take (lngN (Q.drop i))) := by
    rw [bt_ext, List.drop_take, show i + lngN (Q.drop i) - i = lngN (Q.drop i) by omega]
  obtain ⟨W, hW⟩ : ∃ W, W = (Q.drop i).take (lngN (Q.drop i)) := ⟨_, rfl⟩
  have hwl : W.length ≤ 5000 := by rw [hW, List.length_take]; omega
  have hp := rparse_ok W hwl
  rw [ref_same W hwl] at hp
  unfold numTk
  rw [← hW] at hcut ⊢
  generalize lngN (Q.drop i) = n at *
  obtain ⟨pc, ps, pe, hpq⟩ : ∃ a b e, parseC W = (a, b, e) := ⟨_, _, _, rfl⟩
  rw [hpq] at hp ⊢
  unfold tupC at hp
  simp only at hp ⊢
  have p0 : (0 ≤ (i : Int)) = True := eq_true (by omega)
  have p1 : ((i : Int) ≤ ((i + n : Nat) : Int)) = True := eq_true (by omega)
  have p2 : (((i + n : Nat) : Int) ≤ (Q.length : Int)) = True := eq_true (by omega)
  have en : ((i + n : Nat) : Int) - (i : Int) = (n : Int) := by omega
  by_cases h0 : pe = 0
  · subst h0
    have z0 : ((0 : Int) != 0) = false := rfl
    rw [if_pos rfl]
    have e2 : atC (⟨3, W, pc, ps⟩, n, 0) i = [.d (iv 3), .d (.str (bt W)), .d (iv pc), .d (iv ps), .d (iv (i : Int)), .d (iv (n : Int)), .d (iv 0)] := rfl
    rw [e2]
    simp (disch := omega) only [go_sem, r9_K19, r9_K4, hdg, hn, hz, p0, p1, p2, hcut, hp, z0, en, w64]
  · have z0 : (pe != 0) = true := by simpa using h0
    rw [if_neg h0]
    have e2 : atC (tk0, 0, pe) i = [.d (iv 0), .d (.str ⟨#[]⟩), .d (iv 0), .d (iv 0), .d (iv 0), .d (iv 0), .d (iv pe)] := by unfold atC; rw [if_neg h0]
    rw [e2]
    simp (disch := omega) only [go_sem, r9_K19, r9_K4, hdg, hn, hz, p0, p1, p2, hcut, hp, z0, en, w64]
end Go.Pe.T

namespace Go.Pe.T
theorem at_str (Q : List UInt8) (hl : Q.length ≤ 4096) (i : Nat) (hi : i < Q.length) :
    V (F tab) (r9_K18 ()) (r9_J18 (.d (.str (bt Q))) (.d (iv i)) at0 (.d (.int .u8 34)) []) = some (.ret, r9_R (.ibox (atC (txtR (Q.drop i)) i)) []) := by
  have hz := bt_size Q
  have z34 : ((34 : Int) == 34) = true := rfl
  have hn := rtext_ok Q (by omega) i hi
  have e14 : atC (tk0, 0, 14) i = [.d (iv 0), .d (.str ⟨#[]⟩), .d (iv 0), .d (iv 0), .d (iv 0), .d (iv 0), .d (iv 14)] := rfl
  have hle : qtN (Q.drop i) ≤ Q.length - i := by
    have := List.length_drop (i := i) (l := Q)
    unfold qtN
    cases hq : qtA false ((Q.drop i).drop 1) with
    | none => simp
    | some n =>
      have h2 := (qtA_le _ _ _ hq).2
      rw [List.length_drop, List.length_drop] at h2
      simp only []
      omega
  have hcut : (bt Q).extract i (i + qtN (Q.drop i)) = bt ((Q.drop i).take (qtN (Q.drop i))) := by
    rw [bt_ext, List.drop_take, show i + qtN (Q.drop i) - i = qtN (Q.drop i) by omega]
  have hu := runquote_ok ((Q.drop i).take (qtN (Q.drop i))) (by rw [List.length_take, List.length_drop]; omega)
  unfold txtR
  generalize unqP ((Q.drop i).take (qtN (Q.drop i))) = u at *
  generalize (Q.drop i).take (qtN (Q.drop i)) = W at *
  generalize qtN (Q.drop i) = n at *
  obtain ⟨ut, ue⟩ := u
  simp only at hu ⊢
  by_cases h0 : n = 0
  · have g : ((-1 : Int) < 0) = True := eq_true (by decide)
    rw [if_pos h0] at hn
    rw [if_pos (.inl h0), e14]
    simp (disch := omega) only [go_sem, r9_K18, hn, z34, g]
  · rw [if_neg h0] at hn
    have g : (((i + n : Nat) : Int) < 0) = False := eq_false (by omega)
    have p0 : (0 ≤ (i : Int)) = True := eq_true (by omega)
    have p1 : ((i : Int) ≤ ((i + n : Nat) : Int)) = True := eq_true (by omega)
    have p2 : (((i + n : Nat) : Int) ≤ (Q.length : Int)) = True := eq_true (by omega)
    have en : ((i + n : Nat) : Int) - (i : Int) = (n : Int) := by omega
    by_cases h3 : ue = 3
    · have q3 : (ue == 3) = true := by simpa using h3
      rw [if_pos (.inr h3), e14]
      simp (disch := omega) only [go_sem, r9_K18, r9_K10, hn, hz, z34, g, p0, p1, p2, hcut, hu, q3]
    · have q3 : (ue == 3) = false := by simpa using h3
      rw [if_neg (by omega)]
      by_cases h4 : ue = 0
      · subst h4
        have z0 : ((0 : Int) != 0) = false := rfl
        rw [if_pos rfl]
        have e2 : atC (⟨4, ut, 0, 0⟩, n, 0) i = [.d (iv 4), .d (.str (bt ut)), .d (iv 0), .d (iv 0), .d (iv (i : Int)), .d (iv (n : Int)), .d (iv 0)] := rfl
        rw [e2]
        simp (disch := omega) only [go_sem, r9_K18, r9_K10, r9_K8, r9_K7, hn, hz, z34, g, p0, p1, p2, hcut, hu, q3, z0, en, w64]
      · have z0 : (ue != 0) = true := by simpa using h4
        rw [if_neg h4]
        have e2 : atC (tk0, 0, ue) i = [.d (iv 0), .d (.str ⟨#[]⟩), .d (iv 0), .d (iv 0), .d (iv 0), .d (iv 0), .d (iv ue)] := by unfold atC; rw [if_neg h4]
        rw [e2]
        simp (disch := omega) only [go_sem, r9_K18, r9_K10, r9_K8, r9_K7, hn, hz, z34, g, p0, p1, p2, hcut, hu, q3, z0, en, w64]
end Go.Pe.T

namespace Go.Pe.T
def twoL : List (List UInt8) := [[47, 47], [61, 61], [33, 61], [60, 61], [62, 61]]
def twoD : List D := [.str ⟨#[47, 47]⟩, .str ⟨#[61, 61]⟩, .str ⟨#[33, 61]⟩, .str ⟨#[60, 61]⟩, .str ⟨#[62, 61]⟩]
theorem twoD_get {k : Nat} {w : List UInt8} (h : twoL[k]? = some w) : twoD[k]? = some (.str (bt w)) := by
  have e : twoD = twoL.map fun w => .str (bt w) := rfl
  rw [e, List.getElem?_map, h]
  rfl
def hasT (Q : List UInt8) (i : Nat) (w : List UInt8) : Bool := decide (i + 2 ≤ Q.length) && ((Q.drop i).take 2 == w)
def TwoIs (Q : List UInt8) (i : Nat) (c : Int) (k : Nat) (X : Option (Ex × St)) : Prop := V (F tab) r9_B0 (r9_S0 (.d (.str (bt Q))) (.d (iv i)) at0 (.d (.int .u8 c)) (.d (.sl twoD)) (.d (iv k)) []) = X
theorem two_end (Q : List UInt8) (i : Nat) (c : Int) : TwoIs Q i c 5 (some (.norm, r9_E0 (.d (iv i)) at0 (.d (.int .u8 c)) [])) := by
  have h1 : ((5 : Int) < (5 : Int)) = False := eq_false (by omega)
  have hl : twoD.length = 5 := rfl
  have e5 : ((5 : Nat) : Int) = 5 := rfl
  unfold TwoIs
  generalize twoD = T at *
  rw [e5, r9_B0_eq]
  simp (disch := omega) only [go_sem, r9_C0, hl, e5, h1]
theorem two_step (Q : List UInt8) (hl : Q.length ≤ 10000) (i : Nat) (hi : i ≤ Q.length) (c : Int) (k : Nat) (w : List UInt8) (hw : twoL[k]? = some w) (X : Option (Ex × St)) (hX : TwoIs Q i c (k + 1) X) :
    TwoIs Q i c k (if hasT Q i w then some (.ret, r9_R (.ibox (atC (⟨5, w, 0, 0⟩, 2, 0) i)) []) else X) := by
  have hz := bt_size Q
  have hk : k < 5 := (List.getElem?_eq_some_iff.1 hw).1
  have h1 : ((k : Int) < ((5 : Nat) : Int)) = True := eq_true (by omega)
  have hlen : twoD.length = 5 := rfl
  have hg := twoD_get hw
  have i0 : (0 ≤ (i : Int)) = True := eq_true (by omega)
  have k0 : (0 ≤ (k : Int)) = True := eq_true (by omega)
  have e2 : (i : Int) + 2 = ((i + 2 : Nat) : Int) := rfl
  have e1 : (k : Int) + 1 = ((k + 1 : Nat) : Int) := rfl
  have p1 : ((i : Int) ≤ ((i + 2 : Nat) : Int)) = True := eq_true (by omega)
  have hcut : (bt Q).extract i (i + 2) = bt ((Q.drop i).take 2) := by rw [bt_ext, List.drop_take, show i + 2 - i = 2 by omega]
  have ea : atC (⟨5, w, 0, 0⟩, 2, 0) i = [.d (iv 5), .d (.str (bt w)), .d (iv 0), .d (iv 0), .d (iv (i : Int)), .d (iv 2), .d (iv 0)] := rfl
  have hq : ((bt ((Q.drop i).take 2)).toList == (bt w).toList) = ((Q.drop i).take 2 == w) := by rw [bt_list, bt_list]
  rw [ea]
  unfold hasT
  unfold TwoIs at hX ⊢
  generalize (Q.drop i).take 2 = P at *
  generalize twoD = T at *
  by_cases h2 : i + 2 ≤ Q.length
  · have q2 : (((i + 2 : Nat) : Int) ≤ (Q.length : Int)) = True := eq_true (by omega)
    rw [decide_eq_true h2, Bool.true_and, r9_B0_eq]
    rcases Bool.eq_false_or_eq_true (P == w) with g | g
    · rw [g] at hq
      rw [g, if_pos rfl]
      simp (disch := omega) only [go_sem, strD_eql, r9_C0, r9_K13, hlen, h1, hz, e2, q2, i0, p1, hcut, k0, hg, hq, w64]
    · rw [g] at hq
      rw [g, if_neg (by simp)]
      simp (disch := omega) only [go_sem, strD_eql, r9_C0, r9_K13, hlen, h1, hz, e2, e1, q2, i0, p1, hcut, k0, hg, hq, w64]
      exact hX
  · have q2 : (((i + 2 : Nat) : Int) ≤ (Q.length : Int)) = False := eq_false (by omega)
    rw [decide_eq_false h2, Bool.false_and, if_neg (by simp), r9_B0_eq]
    simp (disch := omega) only [go_sem, r9_C0, r9_K13, hlen, h1, hz, e2, e1, q2, w64]
    exact hX
theorem two_all (Q : List UInt8) (hl : Q.length ≤ 10000) (i : Nat) (hi : i < Q.length) (c : Int) :
    TwoIs Q i c 0 (if twoB (Q.drop i) then some (.ret, r9_R (.ibox (atC (⟨5, (Q.drop i).take 2, 0, 0⟩, 2, 0) i)) []) else some (.norm, r9_E0 (.d (iv i)) at0 (.d (.int .u8 c)) [])) := by
  have hS := two_step Q hl i (by omega) c 0 _ rfl _ (two_step Q hl i (by omega) c 1 _ rfl _ (two_step Q hl i (by omega) c 2 _ rfl _ (two_step Q hl i (by omega) c 3 _ rfl _ (two_step Q hl i (by omega) c 4 _ rfl _ (two_end Q i c)))))
  have cast : ∀ X Y, TwoIs Q i c 0 X → X = Y → TwoIs Q i c 0 Y := fun X Y h e => e ▸ h
  refine cast _ _ hS ?_
  clear hS cast
  have hd : (Q.drop i).length = Q.length - i := List.length_drop
  unfold hasT
  rcases hD : Q.drop i with _ | ⟨a, _ | ⟨b, r⟩⟩
  · rw [hD] at hd; simp at hd; omega
  · have h2 : ¬ i + 2 ≤ Q.length := by rw [hD] at hd; simp at hd; omega
    simp only [decide_eq_false h2, Bool.false_and, Bool.false_eq_true, if_false, twoB]
  · have h2 : i + 2 ≤ Q.length := by rw [hD] at hd; simp at hd; omega
    have ht : ∀ x y : UInt8, ((a :: b :: r).take 2 == [x, y]) = (a == x && b == y) := by intro x y; simp
    simp only [decide_eq_true h2, Bool.true_and, ht, twoB]
    have ht2 : (a :: b :: r).take 2 = [a, b] := rfl
    rw [ht2]
    rcases Bool.eq_false_or_eq_true (a == 47 && b == 47) with g | g
    · simp only [Bool.and_eq_true, beq_iff_eq] at g; obtain ⟨g1, g2⟩ := g; subst g1 g2; rfl
    simp only [g, Bool.false_or, Bool.false_eq_true, if_false]
    rcases Bool.eq_false_or_eq_true (a == 61 && b == 61) with g | g
    · simp only [Bool.and_eq_true, beq_iff_eq] at g; obtain ⟨g1, g2⟩ := g; subst g1 g2; rfl
    simp only [g, Bool.false_or, Bool.false_eq_true, if_false]
    rcases Bool.eq_false_or_eq_true (a == 33 && b == 61) with g | g
    · simp only [Bool.and_eq_true, beq_iff_eq] at g; obtain ⟨g1, g2⟩ := g; subst g1 g2; rfl
    simp only [g, Bool.false_or, Bool.false_eq_true, if_false]
    rcases Bool.eq_false_or_eq_true (a == 60 && b == 61) with g | g
    · simp only [Bool.and_eq_true, beq_iff_eq] at g; obtain ⟨g1, g2⟩ := g; subst g1 g2; rfl
    simp only [g, Bool.false_or, Bool.false_eq_true, if_false]
    rcases Bool.eq_false_or_eq_true (a == 62 && b == 61) with g | g
    · simp only [Bool.and_eq_true, beq_iff_eq] at g; obtain ⟨g1, g2⟩ := g; subst g1 g2; rfl
    simp only [g, Bool.false_eq_true, if_false]
def OneIs (i : Nat) (c : UInt8) (k : Nat) (X : Option (Ex × St)) : Prop := V (F tab) r9_B1 (r9_S1 (.d (iv i)) at0 (.d (.int .u8 (c.toNat : Int))) (.d (.str (bt sgnL))) (.d (iv k)) []) = X
theorem one_end (i : Nat) (c : UInt8) : OneIs i c 18 (some (.norm, r9_E1 at0 [])) := by
  have h1 : ((18 : Int) < (18 : Int)) = False := eq_false (by omega)
  have hz : (bt sgnL).size = 18 := bt_size sgnL
  have e5 : ((18 : Nat) : Int) = 18 := rfl
  unfold OneIs
  generalize sgnL = T at *
  rw [e5, r9_B1_eq]
  simp (disch := omega) only [go_sem, r9_C1, hz, e5, h1]
theorem one_step (i : Nat) (c : UInt8) (k : Nat) (d : UInt8) (hd : sgnL[k]? = some d) (X : Option (Ex × St)) (hX : OneIs i c (k + 1) X) :
    OneIs i c k (if d == c then some (.ret, r9_R (.ibox (atC (⟨5, [c], 0, 0⟩, 1, 0) i)) []) else X) := by
  obtain ⟨n, hn⟩ : ∃ n : Nat, n = 18 := ⟨_, rfl⟩
  have hz : (bt sgnL).size = n := by rw [hn]; exact bt_size sgnL
  have hk : k < 18 := (List.getElem?_eq_some_iff.1 hd).1
  have h1 : ((k : Int) < (n : Int)) = True := eq_true (by omega)
  have hg := bt_get sgnL k
  rw [hd] at hg
  have k0 : (0 ≤ (k : Int)) = True := eq_true (by omega)
  have e1 : (k : Int) + 1 = ((k + 1 : Nat) : Int) := rfl
  have p1 : ((k : Int) ≤ ((k + 1 : Nat) : Int)) = True := eq_true (by omega)
  have p2 : (((k + 1 : Nat) : Int) ≤ (n : Int)) = True := eq_true (by omega)
  have hcut : (bt sgnL).extract k (k + 1) = bt [d] := by
    rw [bt_ext, List.drop_take, show k + 1 - k = 1 by omega]
    have : sgnL.drop k = d :: sgnL.drop (k + 1) := by
      obtain ⟨h3, h4⟩ := List.getElem?_eq_some_iff.1 hd
      rw [← h4]; exact List.drop_eq_getElem_cons h3
    rw [this]; rfl
  have ea : atC (⟨5, [c], 0, 0⟩, 1, 0) i = [.d (iv 5), .d (.str (bt [c])), .d (iv 0), .d (iv 0), .d (iv (i : Int)), .d (iv 1), .d (iv 0)] := rfl
  have u := u8_eq d c
  rw [ea]
  clear hn
  unfold OneIs at hX ⊢
  generalize sgnL = T at *
  rw [r9_B1_eq]
  rcases Bool.eq_false_or_eq_true (d == c) with g | g
  · rw [g] at u
    rw [g, if_pos rfl]
    have e : d = c := by simpa using g
    subst e
    simp (disch := omega) only [go_sem, r9_C1, r9_K15, hz, h1, k0, hg, u, e1, p1, p2, hcut, w64]
  · rw [g] at u
    rw [g, if_neg (by simp)]
    simp (disch := omega) only [go_sem, r9_C1, r9_K15, hz, h1, k0, hg, u, e1, w64]
    exact hX
theorem one_all (i : Nat) (c : UInt8) : ∀ (f k : Nat), k + f = 18 → OneIs i c k (if (sgnL.drop k).contains c then some (.ret, r9_R (.ibox (atC (⟨5, [c], 0, 0⟩, 1, 0) i)) []) else some (.norm, r9_E1 at0 []))
  | 0, k, h => by
    have : k = 18 := by omega
    subst this
    exact one_end i c
  | f + 1, k, h => by
    have hk : k < sgnL.length := by show k < 18; omega
    have hg : sgnL[k]? = some sgnL[k] := List.getElem?_eq_getElem hk
    have hS := one_step i c k _ hg _ (one_all i c f (k + 1) (by omega))
    have cast : ∀ X Y, OneIs i c k X → X = Y → OneIs i c k Y := fun X Y h e => e ▸ h
    refine cast _ _ hS ?_
    rw [List.drop_eq_getElem_cons hk, List.contains_cons]
    rw [show (c == sgnL[k]) = (sgnL[k] == c) from Bool.eq_iff_iff.2 (by rw [beq_iff_eq, beq_iff_eq]; exact ⟨Eq.symm, Eq.symm⟩)]
    cases sgnL[k] == c <;> simp
theorem at_sgn (Q : List UInt8) (hl : Q.length ≤ 10000) (i : Nat) (hi : i < Q.length) (c : UInt8) (r : List UInt8) (hd : Q.drop i = c :: r) :
    V (F tab) (r9_K17 ()) (r9_J17 (.d (.str (bt Q))) (.d (iv i)) at0 (.d (.int .u8 (c.toNat : Int))) []) = some (.ret, r9_R (.ibox (atC (sgR (c :: r)) i)) []) := by
  have h2 := two_all Q hl i hi (c.toNat : Int)
  have h1 := one_all i c 18 0 rfl
  rw [List.drop_zero] at h1
  rw [hd] at h2
  unfold sgR sgnN
  unfold TwoIs at h2
  unfold OneIs at h1
  rcases Bool.eq_false_or_eq_true (twoB (c :: r)) with g | g
  · simp only [g, if_true] at h2 ⊢
    rw [if_neg (by decide)]
    simp (disch := omega) only [go_sem, r9_K17]
    rw [r9_B0_n]
    erw [h2]
    simp only [go_sem]
  · simp only [g, Bool.false_eq_true, if_false] at h2 ⊢
    rcases Bool.eq_false_or_eq_true (sgnL.contains c) with g2 | g2
    · simp only [g2, if_true] at h1 ⊢
      rw [if_neg (by decide)]
      simp (disch := omega) only [go_sem, r9_K17]
      rw [r9_B0_n]
      erw [h2]
      simp (disch := omega) only [go_sem, r9_K16]
      rw [r9_B1_n]
      erw [h1]
      simp only [go_sem]
    · simp only [g2, Bool.false_eq_true, if_false] at h1 ⊢
      have e14 : atC (tk0, 0, 14) i = [.d (iv 0), .d (.str ⟨#[]⟩), .d (iv 0), .d (iv 0), .d (iv 0), .d (iv 0), .d (iv 14)] := rfl
      rw [if_pos trivial, e14]
      simp (disch := omega) only [go_sem, r9_K17]
      rw [r9_B0_n]
      erw [h2]
      simp (disch := omega) only [go_sem, r9_K16]
      rw [r9_B1_n]
      erw [h1]
      simp only [go_sem]
end Go.Pe.T

namespace Go.Pe.T
def atD (r : TkR) (i : Nat) : List D := if r.2.2 = 0 then [iv r.1.k, .str (bt r.1.t), iv r.1.c, iv r.1.s, iv (i : Int), iv (r.2.1 : Int), iv 0] else [iv 0, .str ⟨#[]⟩, iv 0, iv 0, iv 0, iv 0, iv r.2.2]
theorem atC_is (r : TkR) (i : Nat) : ∃ k t c s a n e, atC r i = [.d (iv k), .d (.str t), .d (iv c), .d (iv s), .d (iv a), .d (iv n), .d (iv e)] ∧ atD r i = [iv k, .str t, iv c, iv s, iv a, iv n, iv e] := by
  unfold atC atD
  split
  · exact ⟨_, _, _, _, _, _, _, rfl, rfl⟩
  · exact ⟨_, _, _, _, _, _, _, rfl, rfl⟩
theorem at_k19 (Q : List UInt8) (hl : Q.length ≤ 4096) (i : Nat) (hi : i < Q.length) (c : UInt8) (r : List UInt8) (hd : Q.drop i = c :: r) (h1 : letB (c.toNat : Int) = false) (h2 : (c == 36) = false) :
    V (F tab) (r9_K19 ()) (r9_J19 (.d (.str (bt Q))) (.d (iv i)) at0 (.d (.int .u8 (c.toNat : Int))) []) = some (.ret, r9_R (.ibox (atC (oneR (c :: r)) i)) []) := by
  have e1 : oneR (c :: r) = if isDg c then numTk (c :: r) else if c == 34 then txtR (c :: r) else sgR (c :: r) := by
    unfold oneR
    simp only [h1, h2, Bool.false_eq_true, if_false]
  rw [e1]
  rcases Bool.eq_false_or_eq_true (isDg c) with g | g
  · rw [if_pos g, ← hd]
    exact at_num Q hl i hi c g
  · have hdg := rdigit_ok (c.toNat : Int)
    rw [dig_is, g] at hdg
    rw [g, if_neg (by simp)]
    have k18 : V (F tab) (r9_K18 ()) (r9_J18 (.d (.str (bt Q))) (.d (iv i)) at0 (.d (.int .u8 (c.toNat : Int))) []) = some (.ret, r9_R (.ibox (atC (if c == 34 then txtR (c :: r) else sgR (c :: r)) i)) []) := by
      rcases Bool.eq_false_or_eq_true (c == 34) with g2 | g2
      · have e : c = 34 := by simpa using g2
        rw [if_pos g2, ← hd, e]
        exact at_str Q hl i hi
      · have u := u8_eq c 34
        rw [g2] at u
        have u : ((c.toNat : Int) == 34) = false := u
        have k17 := at_sgn Q (by omega) i hi c r hd
        rw [g2, if_neg (by simp)]
        generalize atC (sgR (c :: r)) i = Z at *
        simp (disch := omega) only [go_sem, r9_K18, u, k17]
    generalize atC (if c == 34 then txtR (c :: r) else sgR (c :: r)) i = Z at *
    simp (disch := omega) only [go_sem, r9_K19, hdg, k18]
theorem rat_ok (Q : List UInt8) (hl : Q.length ≤ 4096) (i : Nat) (hi : i < Q.length) (hp : List Ent) : F tab 9 [.d (.str (bt Q)), .d (iv i)] hp = some (.ret (.d (.agg (atD (oneR (Q.drop i)) i))) hp) := by
  have hz := bt_size Q
  have i0 : (0 ≤ (i : Int)) = True := eq_true (by omega)
  have hx : Q[i]? = some Q[i] := List.getElem?_eq_getElem hi
  have hd : Q.drop i = Q[i] :: Q.drop (i + 1) := List.drop_eq_getElem_cons hi
  have hg := bt_get Q i
  rw [hx] at hg
  obtain ⟨c, hc⟩ : ∃ c, c = Q[i] := ⟨_, rfl⟩
  obtain ⟨r, hr⟩ : ∃ r, r = Q.drop (i + 1) := ⟨_, rfl⟩
  have hlt := rletter_ok (c.toNat : Int)
  have hk := at_k19 Q hl i hi c r
  have ha := at_k2 Q (by omega) i i 1 (by omega) (Nat.le_refl _) (by omega)
  have hb := at_k2 Q (by omega) i (i + 1) 2 (by omega) (by omega) (by omega)
  have e1 : (i : Int) + 1 = ((i + 1 : Nat) : Int) := rfl
  rw [← hr] at hb
  rw [← hc, ← hr] at hd
  rw [← hc] at hg
  rw [hd] at ha ⊢
  rw [Nat.sub_self] at ha
  rw [show i + 1 - i = 1 by omega] at hb
  rw [show ((1 : Nat) : Int) = 1 from rfl] at ha
  rw [show ((2 : Nat) : Int) = 2 from rfl] at hb
  refine f9 rfl ?_
  rcases Bool.eq_false_or_eq_true (letB (c.toNat : Int)) with g | g
  · rw [g] at hlt
    have u : (((c.toNat : Nat) : Int) == 36) = false := by
      have := u8_eq c 36
      have h36 : c ≠ 36 := fun e => by rw [e] at g; exact absurd g (by decide)
      rw [show (c == 36) = false by simpa using h36] at this
      exact this
    have e : oneR (c :: r) = nmR 1 ((c :: r).take (runL 0 (c :: r))) 0 := by unfold oneR; simp only [g, if_true]
    rw [e]
    obtain ⟨k', t', c', s', a', n', e', q1, q2⟩ := atC_is (nmR 1 ((c :: r).take (runL 0 (c :: r))) 0) i
    rw [q2]
    rw [q1] at ha
    clear hk hb hx hc hr q1 q2
    simp (disch := omega) only [go_sem, r9_T, r9, hz, i0, hg, hlt, u, ha]
  · rw [g] at hlt
    rcases Bool.eq_false_or_eq_true (c == 36) with g2 | g2
    · have u : (((c.toNat : Nat) : Int) == 36) = true := by
        have := u8_eq c 36
        rw [g2] at this
        exact this
      have e : oneR (c :: r) = nmR 2 (r.take (runL 0 r)) 1 := by unfold oneR; simp only [g, g2, if_true, Bool.false_eq_true, if_false]
      rw [e]
      obtain ⟨k', t', c', s', a', n', e', q1, q2⟩ := atC_is (nmR 2 (r.take (runL 0 r)) 1) i
      rw [q2]
      rw [q1] at hb
      clear hk ha hx hc hr q1 q2
      simp (disch := omega) only [go_sem, r9_T, r9, hz, i0, hg, hlt, u, hb, e1, w64]
    · have u : (((c.toNat : Nat) : Int) == 36) = false := by
        have := u8_eq c 36
        rw [g2] at this
        exact this
      have hk := hk hd g g2
      obtain ⟨k', t', c', s', a', n', e', q1, q2⟩ := atC_is (oneR (c :: r)) i
      rw [q2]
      rw [q1] at hk
      clear ha hb hx hc hr q1 q2
      simp (disch := omega) only [go_sem, r9_T, r9, hz, i0, hg, hlt, u, hk]
end Go.Pe.T
