/- A part of the proof of: BasicStays: nothing put ahead or behind turns nothing; sides may be turned about. -/
import Derived.Test.YtlkeaffppdeghaaGreatBs3
import Derived.Test.YtlkeaffppdeghaaGreatPe3
import Derived.Laws.Strings
set_option linter.unusedSimpArgs false
set_option linter.unusedVariables false
set_option maxRecDepth 10000

namespace Go.Pe.T

def okL (l : List UInt8) (n : Nat) (c : Int) : Bool := !(decide (c > 1114111) || (decide (c ≥ 55296) && decide (c < 57344))) && ((putI c).map ub == l.take n)
theorem ub_nat (x : UInt8) : ub ((x.toNat : Nat) : Int) = x := by simp [ub]

theorem szc_0 (l : List UInt8) (g1 : nb l 0 ≥ 0) (g2 : nb l 0 ≤ 127) : sizeL l = 1 := by
  unfold sizeL
  generalize nb l 0 = c at *
  have xa : (c < 128) = True := eq_true (by omega)
  have xb : (c ≥ 194) = False := eq_false (by omega)
  have xd : (c ≤ 223) = True := eq_true (by omega)
  have xe : (c == 224) = false := by simp <;> omega
  have xf : (c ≥ 225) = False := eq_false (by omega)
  have xh : (c ≤ 239) = True := eq_true (by omega)
  have xi : (c != 237) = true := by simp <;> omega
  have xj : (c == 237) = false := by simp <;> omega
  have xk : (c == 240) = false := by simp <;> omega
  have xl : (c ≥ 241) = False := eq_false (by omega)
  have xm : (c ≤ 243) = True := eq_true (by omega)
  have xn : (c == 244) = false := by simp <;> omega
  simp only [xa, xb, xd, xe, xf, xh, xi, xj, xk, xl, xm, xn, decide_true, decide_false, Bool.true_and, Bool.false_and, Bool.or_false, Bool.false_or, Bool.and_true, Bool.and_false, Bool.false_eq_true, if_true, if_false]

theorem szc_1 (l : List UInt8) (g1 : nb l 0 ≥ 128) (g2 : nb l 0 ≤ 193) : sizeL l = 0 := by
  unfold sizeL
  generalize nb l 0 = c at *
  have xa : (c < 128) = False := eq_false (by omega)
  have xb : (c ≥ 194) = False := eq_false (by omega)
  have xd : (c ≤ 223) = True := eq_true (by omega)
  have xe : (c == 224) = false := by simp <;> omega
  have xf : (c ≥ 225) = False := eq_false (by omega)
  have xh : (c ≤ 239) = True := eq_true (by omega)
  have xi : (c != 237) = true := by simp <;> omega
  have xj : (c == 237) = false := by simp <;> omega
  have xk : (c == 240) = false := by simp <;> omega
  have xl : (c ≥ 241) = False := eq_false (by omega)
  have xm : (c ≤ 243) = True := eq_true (by omega)
  have xn : (c == 244) = false := by simp <;> omega
  simp only [xa, xb, xd, xe, xf, xh, xi, xj, xk, xl, xm, xn, decide_true, decide_false, Bool.true_and, Bool.false_and, Bool.or_false, Bool.false_or, Bool.and_true, Bool.and_false, Bool.false_eq_true, if_true, if_false]

theorem szc_2 (l : List UInt8) (g1 : nb l 0 ≥ 194) (g2 : nb l 0 ≤ 223) : sizeL l = if tailL l 1 128 191 then 2 else 0 := by
  unfold sizeL
  generalize nb l 0 = c at *
  have xa : (c < 128) = False := eq_false (by omega)
  have xb : (c ≥ 194) = True := eq_true (by omega)
  have xd : (c ≤ 223) = True := eq_true (by omega)
  have xe : (c == 224) = false := by simp <;> omega
  have xf : (c ≥ 225) = False := eq_false (by omega)
  have xh : (c ≤ 239) = True := eq_true (by omega)
  have xi : (c != 237) = true := by simp <;> omega
  have xj : (c == 237) = false := by simp <;> omega
  have xk : (c == 240) = false := by simp <;> omega
  have xl : (c ≥ 241) = False := eq_false (by omega)
  have xm : (c ≤ 243) = True := eq_true (by omega)
  have xn : (c == 244) = false := by simp <;> omega
  simp only [xa, xb, xd, xe, xf, xh, xi, xj, xk, xl, xm, xn, decide_true, decide_false, Bool.true_and, Bool.false_and, Bool.or_false, Bool.false_or, Bool.and_true, Bool.and_false, Bool.false_eq_true, if_true, if_false]

theorem szc_3 (l : List UInt8) (g1 : nb l 0 ≥ 224) (g2 : nb l 0 ≤ 224) : sizeL l = if tailL l 2 160 191 then 3 else 0 := by
  unfold sizeL
  generalize nb l 0 = c at *
  have xa : (c < 128) = False := eq_false (by omega)
  have xb : (c ≥ 194) = True := eq_true (by omega)
  have xd : (c ≤ 223) = False := eq_false (by omega)
  have xe : (c == 224) = true := by simp <;> omega
  have xf : (c ≥ 225) = False := eq_false (by omega)
  have xh : (c ≤ 239) = True := eq_true (by omega)
  have xi : (c != 237) = true := by simp <;> omega
  have xj : (c == 237) = false := by simp <;> omega
  have xk : (c == 240) = false := by simp <;> omega
  have xl : (c ≥ 241) = False := eq_false (by omega)
  have xm : (c ≤ 243) = True := eq_true (by omega)
  have xn : (c == 244) = false := by simp <;> omega
  simp only [xa, xb, xd, xe, xf, xh, xi, xj, xk, xl, xm, xn, decide_true, decide_false, Bool.true_and, Bool.false_and, Bool.or_false, Bool.false_or, Bool.and_true, Bool.and_false, Bool.false_eq_true, if_true, if_false]

theorem szc_4 (l : List UInt8) (g1 : nb l 0 ≥ 225) (g2 : nb l 0 ≤ 236) : sizeL l = if tailL l 2 128 191 then 3 else 0 := by
  unfold sizeL
  generalize nb l 0 = c at *
  have xa : (c < 128) = False := eq_false (by omega)
  have xb : (c ≥ 194) = True := eq_true (by omega)
  have xd : (c ≤ 223) = False := eq_false (by omega)
  have xe : (c == 224) = false := by simp <;> omega
  have xf : (c ≥ 225) = True := eq_true (by omega)
  have xh : (c ≤ 239) = True := eq_true (by omega)
  have xi : (c != 237) = true := by simp <;> omega
  have xj : (c == 237) = false := by simp <;> omega
  have xk : (c == 240) = false := by simp <;> omega
  have xl : (c ≥ 241) = False := eq_false (by omega)
  have xm : (c ≤ 243) = True := eq_true (by omega)
  have xn : (c == 244) = false := by simp <;> omega
  simp only [xa, xb, xd, xe, xf, xh, xi, xj, xk, xl, xm, xn, decide_true, decide_false, Bool.true_and, Bool.false_and, Bool.or_false, Bool.false_or, Bool.and_true, Bool.and_false, Bool.false_eq_true, if_true, if_false]

theorem szc_5 (l : List UInt8) (g1 : nb l 0 ≥ 237) (g2 : nb l 0 ≤ 237) : sizeL l = if tailL l 2 128 159 then 3 else 0 := by
  unfold sizeL
  generalize nb l 0 = c at *
  have xa : (c < 128) = False := eq_false (by omega)
  have xb : (c ≥ 194) = True := eq_true (by omega)
  have xd : (c ≤ 223) = False := eq_false (by omega)
  have xe : (c == 224) = false := by simp <;> omega
  have xf : (c ≥ 225) = True := eq_true (by omega)
  have xh : (c ≤ 239) = True := eq_true (by omega)
  have xi : (c != 237) = false := by simp <;> omega
  have xj : (c == 237) = true := by simp <;> omega
  have xk : (c == 240) = false := by simp <;> omega
  have xl : (c ≥ 241) = False := eq_false (by omega)
  have xm : (c ≤ 243) = True := eq_true (by omega)
  have xn : (c == 244) = false := by simp <;> omega
  simp only [xa, xb, xd, xe, xf, xh, xi, xj, xk, xl, xm, xn, decide_true, decide_false, Bool.true_and, Bool.false_and, Bool.or_false, Bool.false_or, Bool.and_true, Bool.and_false, Bool.false_eq_true, if_true, if_false]

theorem szc_6 (l : List UInt8) (g1 : nb l 0 ≥ 238) (g2 : nb l 0 ≤ 239) : sizeL l = if tailL l 2 128 191 then 3 else 0 := by
  unfold sizeL
  generalize nb l 0 = c at *
  have xa : (c < 128) = False := eq_false (by omega)
  have xb : (c ≥ 194) = True := eq_true (by omega)
  have xd : (c ≤ 223) = False := eq_false (by omega)
  have xe : (c == 224) = false := by simp <;> omega
  have xf : (c ≥ 225) = True := eq_true (by omega)
  have xh : (c ≤ 239) = True := eq_true (by omega)
  have xi : (c != 237) = true := by simp <;> omega
  have xj : (c == 237) = false := by simp <;> omega
  have xk : (c == 240) = false := by simp <;> omega
  have xl : (c ≥ 241) = False := eq_false (by omega)
  have xm : (c ≤ 243) = True := eq_true (by omega)
  have xn : (c == 244) = false := by simp <;> omega
  simp only [xa, xb, xd, xe, xf, xh, xi, xj, xk, xl, xm, xn, decide_true, decide_false, Bool.true_and, Bool.false_and, Bool.or_false, Bool.false_or, Bool.and_true, Bool.and_false, Bool.false_eq_true, if_true, if_false]

theorem szc_7 (l : List UInt8) (g1 : nb l 0 ≥ 240) (g2 : nb l 0 ≤ 240) : sizeL l = if tailL l 3 144 191 then 4 else 0 := by
  unfold sizeL
  generalize nb l 0 = c at *
  have xa : (c < 128) = False := eq_false (by omega)
  have xb : (c ≥ 194) = True := eq_true (by omega)
  have xd : (c ≤ 223) = False := eq_false (by omega)
  have xe : (c == 224) = false := by simp <;> omega
  have xf : (c ≥ 225) = True := eq_true (by omega)
  have xh : (c ≤ 239) = False := eq_false (by omega)
  have xi : (c != 237) = true := by simp <;> omega
  have xj : (c == 237) = false := by simp <;> omega
  have xk : (c == 240) = true := by simp <;> omega
  have xl : (c ≥ 241) = False := eq_false (by omega)
  have xm : (c ≤ 243) = True := eq_true (by omega)
  have xn : (c == 244) = false := by simp <;> omega
  simp only [xa, xb, xd, xe, xf, xh, xi, xj, xk, xl, xm, xn, decide_true, decide_false, Bool.true_and, Bool.false_and, Bool.or_false, Bool.false_or, Bool.and_true, Bool.and_false, Bool.false_eq_true, if_true, if_false]

theorem szc_8 (l : List UInt8) (g1 : nb l 0 ≥ 241) (g2 : nb l 0 ≤ 243) : sizeL l = if tailL l 3 128 191 then 4 else 0 := by
  unfold sizeL
  generalize nb l 0 = c at *
  have xa : (c < 128) = False := eq_false (by omega)
  have xb : (c ≥ 194) = True := eq_true (by omega)
  have xd : (c ≤ 223) = False := eq_false (by omega)
  have xe : (c == 224) = false := by simp <;> omega
  have xf : (c ≥ 225) = True := eq_true (by omega)
  have xh : (c ≤ 239) = False := eq_false (by omega)
  have xi : (c != 237) = true := by simp <;> omega
  have xj : (c == 237) = false := by simp <;> omega
  have xk : (c == 240) = false := by simp <;> omega
  have xl : (c ≥ 241) = True := eq_true (by omega)
  have xm : (c ≤ 243) = True := eq_true (by omega)
  have xn : (c == 244) = false := by simp <;> omega
  simp only [xa, xb, xd, xe, xf, xh, xi, xj, xk, xl, xm, xn, decide_true, decide_false, Bool.true_and, Bool.false_and, Bool.or_false, Bool.false_or, Bool.and_true, Bool.and_false, Bool.false_eq_true, if_true, if_false]

theorem szc_9 (l : List UInt8) (g1 : nb l 0 ≥ 244) (g2 : nb l 0 ≤ 244) : sizeL l = if tailL l 3 128 143 then 4 else 0 := by
  unfold sizeL
  generalize nb l 0 = c at *
  have xa : (c < 128) = False := eq_false (by omega)
  have xb : (c ≥ 194) = True := eq_true (by omega)
  have xd : (c ≤ 223) = False := eq_false (by omega)
  have xe : (c == 224) = false := by simp <;> omega
  have xf : (c ≥ 225) = True := eq_true (by omega)
  have xh : (c ≤ 239) = False := eq_false (by omega)
  have xi : (c != 237) = true := by simp <;> omega
  have xj : (c == 237) = false := by simp <;> omega
  have xk : (c == 240) = false := by simp <;> omega
  have xl : (c ≥ 241) = True := eq_true (by omega)
  have xm : (c ≤ 243) = False := eq_false (by omega)
  have xn : (c == 244) = true := by simp <;> omega
  simp only [xa, xb, xd, xe, xf, xh, xi, xj, xk, xl, xm, xn, decide_true, decide_false, Bool.true_and, Bool.false_and, Bool.or_false, Bool.false_or, Bool.and_true, Bool.and_false, Bool.false_eq_true, if_true, if_false]

theorem szc_10 (l : List UInt8) (g1 : nb l 0 ≥ 245) (g2 : nb l 0 ≤ 255) : sizeL l = 0 := by
  unfold sizeL
  generalize nb l 0 = c at *
  have xa : (c < 128) = False := eq_false (by omega)
  have xb : (c ≥ 194) = True := eq_true (by omega)
  have xd : (c ≤ 223) = False := eq_false (by omega)
  have xe : (c == 224) = false := by simp <;> omega
  have xf : (c ≥ 225) = True := eq_true (by omega)
  have xh : (c ≤ 239) = False := eq_false (by omega)
  have xi : (c != 237) = true := by simp <;> omega
  have xj : (c == 237) = false := by simp <;> omega
  have xk : (c == 240) = false := by simp <;> omega
  have xl : (c ≥ 241) = True := eq_true (by omega)
  have xm : (c ≤ 243) = False := eq_false (by omega)
  have xn : (c == 244) = false := by simp <;> omega
  simp only [xa, xb, xd, xe, xf, xh, xi, xj, xk, xl, xm, xn, decide_true, decide_false, Bool.true_and, Bool.false_and, Bool.or_false, Bool.false_or, Bool.and_true, Bool.and_false, Bool.false_eq_true, if_true, if_false]

theorem nb0 (x : UInt8) (r : List UInt8) : nb (x :: r) 0 = ((x.toNat : Nat) : Int) := rfl
theorem nb1 (x y : UInt8) (r : List UInt8) : nb (x :: y :: r) 1 = ((y.toNat : Nat) : Int) := rfl

theorem m1 (x : UInt8) (r : List UInt8) (h : ((x.toNat : Nat) : Int) ≤ 127) : okL (x :: r) 1 ((x.toNat : Nat) : Int) = true ∧ sizeL (x :: r) = 1 := by
  refine ⟨?_, szc_0 _ (by rw [nb0]; omega) (by rw [nb0]; omega)⟩
  have h1 : ¬ ((x.toNat : Nat) : Int) > 1114111 := by omega
  have h2 : ¬ ((x.toNat : Nat) : Int) ≥ 55296 := by omega
  have h3 : ((x.toNat : Nat) : Int) < 128 := by omega
  simp [okL, putI, h1, h2, h3, ub_nat]

theorem m2 (x : UInt8) (r : List UInt8) (h1 : 192 ≤ ((x.toNat : Nat) : Int)) (h2 : ((x.toNat : Nat) : Int) ≤ 223) :
    (decide (2 ≤ (x :: r).length) && (conts r 1 && okL (x :: r) 2 (cdec (((x.toNat : Nat) : Int) - 192) r 1))) = (sizeL (x :: r) == 2) ∧ (sizeL (x :: r) = 2 ∨ sizeL (x :: r) = 0) := by
  match r with
  | [] =>
    have : sizeL [x] = 0 := by
      by_cases g : nb [x] 0 ≤ 193
      · exact szc_1 _ (by rw [nb0]; omega) g
      · rw [szc_2 _ (by omega) (by rw [nb0]; omega)]; simp [tailL]
    simp [this]
  | y :: r =>
    have hy : y.toNat < 256 := UInt8.toNat_lt _
    simp only [conts, contB, Bool.and_true, cdec]
    by_cases g1 : ((y.toNat : Nat) : Int) < 128
    · have : sizeL (x :: y :: r) = 0 := by
        by_cases g : nb (x :: y :: r) 0 ≤ 193
        · exact szc_1 _ (by rw [nb0]; omega) g
        · rw [szc_2 _ (by omega) (by rw [nb0]; omega)]; simp [tailL, nb1, g1]
      simp [this, g1]
    · by_cases g2 : ((y.toNat : Nat) : Int) > 191
      · have : sizeL (x :: y :: r) = 0 := by
          by_cases g : nb (x :: y :: r) 0 ≤ 193
          · exact szc_1 _ (by rw [nb0]; omega) g
          · rw [szc_2 _ (by omega) (by rw [nb0]; omega)]; simp [tailL, nb1, g2]
        simp [this, g2]
      · generalize hc : 64 * (((x.toNat : Nat) : Int) - 192) + ((y.toNat : Nat) : Int) - 128 = c
        have k1 : ¬ c > 1114111 := by omega
        have k2 : ¬ c ≥ 55296 := by omega
        by_cases g : ((x.toNat : Nat) : Int) ≤ 193
        · have e : sizeL (x :: y :: r) = 0 := szc_1 _ (by rw [nb0]; omega) (by rw [nb0]; omega)
          have k3 : c < 128 := by omega
          simp [e, okL, putI, k3]
        · have e : sizeL (x :: y :: r) = 2 := by
            rw [szc_2 _ (by rw [nb0]; omega) (by rw [nb0]; omega)]; simp [tailL, nb1, g1, g2, conts]
          have k3 : ¬ c < 128 := by omega
          have k4 : c < 2048 := by omega
          have e1 : 192 + c / 64 = ((x.toNat : Nat) : Int) := by omega
          have e2 : 128 + c % 64 = ((y.toNat : Nat) : Int) := by omega
          simp [e, okL, putI, k1, k2, k3, k4, e1, e2, ub_nat, g1, g2]

theorem sz3 (x : UInt8) (r : List UInt8) (h1 : 224 ≤ ((x.toNat : Nat) : Int)) (h2 : ((x.toNat : Nat) : Int) ≤ 239) :
    sizeL (x :: r) = if tailL (x :: r) 2 (if ((x.toNat : Nat) : Int) = 224 then 160 else 128) (if ((x.toNat : Nat) : Int) = 237 then 159 else 191) then 3 else 0 := by
  by_cases a : ((x.toNat : Nat) : Int) = 224
  · have b : ¬ ((x.toNat : Nat) : Int) = 237 := by omega
    rw [szc_3 _ (by rw [nb0]; omega) (by rw [nb0]; omega), if_pos a, if_neg b]
  · by_cases b : ((x.toNat : Nat) : Int) = 237
    · rw [szc_5 _ (by rw [nb0]; omega) (by rw [nb0]; omega), if_neg a, if_pos b]
    · rw [if_neg a, if_neg b]
      by_cases c : ((x.toNat : Nat) : Int) ≤ 236
      · exact szc_4 _ (by rw [nb0]; omega) (by rw [nb0]; omega)
      · exact szc_6 _ (by rw [nb0]; omega) (by rw [nb0]; omega)
theorem sz4 (x : UInt8) (r : List UInt8) (h1 : 240 ≤ ((x.toNat : Nat) : Int)) (h2 : ((x.toNat : Nat) : Int) ≤ 247) :
    sizeL (x :: r) = if (decide (((x.toNat : Nat) : Int) ≤ 244) && tailL (x :: r) 3 (if ((x.toNat : Nat) : Int) = 240 then 144 else 128) (if ((x.toNat : Nat) : Int) = 244 then 143 else 191)) then 4 else 0 := by
  by_cases a : ((x.toNat : Nat) : Int) = 240
  · have q : ((x.toNat : Nat) : Int) ≤ 244 := by omega
    have b : ¬ ((x.toNat : Nat) : Int) = 244 := by omega
    rw [szc_7 _ (by rw [nb0]; omega) (by rw [nb0]; omega), if_pos a, if_neg b, decide_eq_true q, Bool.true_and]
  · by_cases b : ((x.toNat : Nat) : Int) = 244
    · have q : ((x.toNat : Nat) : Int) ≤ 244 := by omega
      rw [szc_9 _ (by rw [nb0]; omega) (by rw [nb0]; omega), if_neg a, if_pos b, decide_eq_true q, Bool.true_and]
    · rw [if_neg a, if_neg b]
      by_cases c : ((x.toNat : Nat) : Int) ≤ 243
      · have q : ((x.toNat : Nat) : Int) ≤ 244 := by omega
        rw [szc_8 _ (by rw [nb0]; omega) (by rw [nb0]; omega), decide_eq_true q, Bool.true_and]
      · have q : ¬ ((x.toNat : Nat) : Int) ≤ 244 := by omega
        rw [szc_10 _ (by rw [nb0]; omega) (by rw [nb0]; omega), decide_eq_false q, Bool.false_and, if_neg (by simp)]

theorem m3 (x : UInt8) (r : List UInt8) (h1 : 224 ≤ ((x.toNat : Nat) : Int)) (h2 : ((x.toNat : Nat) : Int) ≤ 239) :
    (decide (3 ≤ (x :: r).length) && (conts r 2 && okL (x :: r) 3 (cdec (((x.toNat : Nat) : Int) - 224) r 2))) = (sizeL (x :: r) == 3) ∧ (sizeL (x :: r) = 3 ∨ sizeL (x :: r) = 0) := by
  refine ⟨?_, by rw [sz3 x r h1 h2]; split <;> simp⟩
  rw [sz3 x r h1 h2]
  match r with
  | [] => simp [tailL]
  | [y] => simp [tailL, conts]
  | y :: z :: r =>
    have hy : y.toNat < 256 := UInt8.toNat_lt _
    have hz : z.toNat < 256 := UInt8.toNat_lt _
    have el : decide (3 ≤ (x :: y :: z :: r).length) = true := by simp
    have et : ∀ lo hi, tailL (x :: y :: z :: r) 2 lo hi = ((!decide (((y.toNat : Nat) : Int) < lo) && !decide (((y.toNat : Nat) : Int) > hi)) && contB z.toNat) := by
      intro lo hi; simp [tailL, nb1, conts] <;> rfl
    rw [el, et]
    simp only [conts, Bool.and_true, Bool.true_and, cdec, contB]
    generalize hX : ((x.toNat : Nat) : Int) = X at *
    generalize hY : ((y.toNat : Nat) : Int) = Y at *
    generalize hZ : ((z.toNat : Nat) : Int) = Z at *
    generalize hc : 64 * (64 * (X - 224) + Y - 128) + Z - 128 = c
    have ux : ub X = x := by rw [← hX]; exact ub_nat x
    have uy : ub Y = y := by rw [← hY]; exact ub_nat y
    have uz : ub Z = z := by rw [← hZ]; exact ub_nat z
    by_cases z1 : Z < 128
    · simp [z1]
    by_cases z2 : Z > 191
    · simp [z2]
    by_cases y1 : Y < 128
    · have : Y < (if X = 224 then 160 else 128) := by split <;> omega
      simp [y1, this]
    by_cases y2 : Y > 191
    · have : Y > (if X = 237 then 159 else 191) := by split <;> omega
      simp [y2, this]
    have k1 : ¬ c > 1114111 := by omega
    simp only [z1, z2, y1, y2, k1, okL, decide_false, decide_true, Bool.not_false, Bool.not_true, Bool.true_and, Bool.and_true, Bool.false_or]
    by_cases a : X = 224
    · have b : ¬ X = 237 := by omega
      have s1 : ¬ c ≥ 55296 := by omega
      simp only [if_pos a, if_neg b, y2, s1, decide_false, Bool.not_false, Bool.and_true, Bool.false_and, Bool.true_and]
      by_cases q : Y < 160
      · have p1 : c < 2048 := by omega
        by_cases p0 : c < 128
        · simp [putI, p0, q]
        · simp [putI, p0, p1, q]
      · have p1 : ¬ c < 2048 := by omega
        have p0 : ¬ c < 128 := by omega
        have p2 : c < 65536 := by omega
        have e1 : 224 + c / 4096 = X := by omega
        have e2 : 128 + c / 64 % 64 = Y := by omega
        have e3 : 128 + c % 64 = Z := by omega
        simp [putI, p0, p1, p2, e1, e2, e3, q, ux, uy, uz]
    · have p1 : ¬ c < 2048 := by omega
      have p0 : ¬ c < 128 := by omega
      have p2 : c < 65536 := by omega
      have e1 : 224 + c / 4096 = X := by omega
      have e2 : 128 + c / 64 % 64 = Y := by omega
      have e3 : 128 + c % 64 = Z := by omega
      have ep : ((putI c).map ub == (x :: y :: z :: r).take 3) = true := by simp [putI, p0, p1, p2, e1, e2, e3, ux, uy, uz]
      rw [ep]
      by_cases b : X = 237
      · simp only [if_neg a, if_pos b, y1, decide_false, Bool.not_false, Bool.and_true, Bool.true_and]
        by_cases q : Y > 159
        · have s1 : c ≥ 55296 := by omega
          have s2 : c < 57344 := by omega
          simp [s1, s2, q]
        · have s1 : ¬ c ≥ 55296 := by omega
          simp [s1, q]
      · simp only [if_neg a, if_neg b, y1, y2, decide_false, Bool.not_false, Bool.and_true, Bool.true_and]
        by_cases s1 : c ≥ 55296
        · have s2 : ¬ c < 57344 := by omega
          simp [s1, s2]
        · simp [s1]

theorem m4 (x : UInt8) (r : List UInt8) (h1 : 240 ≤ ((x.toNat : Nat) : Int)) (h2 : ((x.toNat : Nat) : Int) ≤ 247) :
    (decide (4 ≤ (x :: r).length) && (conts r 3 && okL (x :: r) 4 (cdec (((x.toNat : Nat) : Int) - 240) r 3))) = (sizeL (x :: r) == 4) ∧ (sizeL (x :: r) = 4 ∨ sizeL (x :: r) = 0) := by
  refine ⟨?_, by rw [sz4 x r h1 h2]; split <;> simp⟩
  rw [sz4 x r h1 h2]
  match r with
  | [] => simp [tailL]
  | [y] => simp [tailL, conts]
  | [y, z] => simp [tailL, conts]
  | y :: z :: w :: r =>
    have hy : y.toNat < 256 := UInt8.toNat_lt _
    have hz : z.toNat < 256 := UInt8.toNat_lt _
    have hw : w.toNat < 256 := UInt8.toNat_lt _
    have el : decide (4 ≤ (x :: y :: z :: w :: r).length) = true := by simp
    have et : ∀ lo hi, tailL (x :: y :: z :: w :: r) 3 lo hi = ((!decide (((y.toNat : Nat) : Int) < lo) && !decide (((y.toNat : Nat) : Int) > hi)) && (contB z.toNat && contB w.toNat)) := by
      intro lo hi; simp [tailL, nb1, conts] <;> rfl
    rw [el, et]
    simp only [conts, Bool.and_true, Bool.true_and, cdec, contB]
    generalize hX : ((x.toNat : Nat) : Int) = X at *
    generalize hY : ((y.toNat : Nat) : Int) = Y at *
    generalize hZ : ((z.toNat : Nat) : Int) = Z at *
    generalize hW : ((w.toNat : Nat) : Int) = W at *
    generalize hc : 64 * (64 * (64 * (X - 240) + Y - 128) + Z - 128) + W - 128 = c
    have ux : ub X = x := by rw [← hX]; exact ub_nat x
    have uy : ub Y = y := by rw [← hY]; exact ub_nat y
    have uz : ub Z = z := by rw [← hZ]; exact ub_nat z
    have uw : ub W = w := by rw [← hW]; exact ub_nat w
    by_cases w1 : W < 128
    · simp [w1]
    by_cases w2 : W > 191
    · simp [w2]
    by_cases z1 : Z < 128
    · simp [z1]
    by_cases z2 : Z > 191
    · simp [z2]
    by_cases y1 : Y < 128
    · have : Y < (if X = 240 then 144 else 128) := by split <;> omega
      simp [y1, this]
    by_cases y2 : Y > 191
    · have : Y > (if X = 244 then 143 else 191) := by split <;> omega
      simp [y2, this]
    simp only [w1, w2, z1, z2, y1, y2, okL, decide_false, decide_true, Bool.not_false, Bool.not_true, Bool.true_and, Bool.and_true, Bool.false_or]
    by_cases a : X = 240
    · have b : ¬ X = 244 := by omega
      have k1 : ¬ c > 1114111 := by omega
      have xl : X ≤ 244 := by omega
      simp only [if_pos a, if_neg b, y2, k1, xl, decide_true, decide_false, Bool.not_false, Bool.and_true, Bool.true_and, Bool.false_or]
      by_cases q : Y < 144
      · have p2 : c < 65536 := by omega
        by_cases p0 : c < 128
        · simp [putI, p0, q]
        · by_cases p1 : c < 2048
          · simp [putI, p0, p1, q]
          · simp [putI, p0, p1, p2, q]
      · have p2 : ¬ c < 65536 := by omega
        have p1 : ¬ c < 2048 := by omega
        have p0 : ¬ c < 128 := by omega
        have s2 : ¬ c < 57344 := by omega
        have e1 : 240 + c / 262144 = X := by omega
        have e2 : 128 + c / 4096 % 64 = Y := by omega
        have e3 : 128 + c / 64 % 64 = Z := by omega
        have e4 : 128 + c % 64 = W := by omega
        simp [putI, p0, p1, p2, e1, e2, e3, e4, q, ux, uy, uz, uw, s2]
    · have p2 : ¬ c < 65536 := by omega
      have p1 : ¬ c < 2048 := by omega
      have p0 : ¬ c < 128 := by omega
      have s2 : ¬ c < 57344 := by omega
      have e1 : 240 + c / 262144 = X := by omega
      have e2 : 128 + c / 4096 % 64 = Y := by omega
      have e3 : 128 + c / 64 % 64 = Z := by omega
      have e4 : 128 + c % 64 = W := by omega
      have ep : ((putI c).map ub == (x :: y :: z :: w :: r).take 4) = true := by simp [putI, p0, p1, p2, e1, e2, e3, e4, ux, uy, uz, uw]
      rw [ep]
      by_cases b : X = 244
      · have xl : X ≤ 244 := by omega
        simp only [if_neg a, if_pos b, y1, xl, decide_true, decide_false, Bool.not_false, Bool.and_true, Bool.true_and]
        by_cases q : Y > 143
        · have k1 : c > 1114111 := by omega
          simp [k1, q]
        · have k1 : ¬ c > 1114111 := by omega
          simp [k1, q, s2]
      · simp only [if_neg a, if_neg b, y1, y2, decide_false, Bool.not_false, Bool.and_true, Bool.true_and]
        by_cases xl : X ≤ 244
        · have k1 : ¬ c > 1114111 := by omega
          simp [k1, xl, s2]
        · have k1 : c > 1114111 := by omega
          simp [k1, xl]
end Go.Pe.T

namespace Go.Pe.T

theorem sg_bad1 (s : ByteArray) (hs : s.size ≤ 2097152) (l : List Int) (i : Nat) (hi : i < s.size) (h1 : ((s[i].toNat : Nat) : Int) ≥ 128) (h2 : ((s[i].toNat : Nat) : Int) ≤ 191) : V (F tab) r29_B0 (r29_S0 (.d (.str s)) (.own 3 (l.map iv)) (.d (iv i)) []) = some (.ret, r29_R (.d (.sl [])) (.d (.bool false)) []) := by
  have q1 : ((i : Int) < (s.size : Int)) = True := eq_true (by omega)
  have hi0 : (0 ≤ (i : Int)) = True := eq_true (by omega)
  obtain ⟨va, vd⟩ := bs_get hi
  have xa : (((s[i].toNat : Nat) : Int) ≥ 240) = False := eq_false (by omega)
  have xd : (((s[i].toNat : Nat) : Int) ≥ 224) = False := eq_false (by omega)
  have xe : (((s[i].toNat : Nat) : Int) ≥ 192) = False := eq_false (by omega)
  have xg : (((s[i].toNat : Nat) : Int) ≥ 248) = False := eq_false (by omega)
  have xh : (((s[i].toNat : Nat) : Int) ≥ 128) = True := eq_true (by omega)
  have xm : (((s[i].toNat : Nat) : Int) < 192) = True := eq_true (by omega)
  rw [r29_B0_eq]
  simp (disch := omega) only [go_sem, and_self, and_true, true_and, false_and, and_false, Nat.reduceAdd, Nat.reduceMul, Nat.reduceSub, Nat.reduceLeDiff, Nat.reduceLT, Nat.reduceGT, Nat.reduceEqDiff, Nat.reduceBEq, Int.reduceNeg, Int.reduceEq, Int.reduceLT, Int.reduceLE, Int.reduceBEq, Int.reduceToNat, Int.toNat_natCast, Int.natCast_zero, r29_C0, q1, hi0, va, xa, xd, xe, xg, xh, xm, w64]

theorem sg_bad2 (s : ByteArray) (hs : s.size ≤ 2097152) (l : List Int) (i : Nat) (hi : i < s.size) (h1 : ((s[i].toNat : Nat) : Int) ≥ 248) (h2 : ((s[i].toNat : Nat) : Int) ≤ 255) : V (F tab) r29_B0 (r29_S0 (.d (.str s)) (.own 3 (l.map iv)) (.d (iv i)) []) = some (.ret, r29_R (.d (.sl [])) (.d (.bool false)) []) := by
  have q1 : ((i : Int) < (s.size : Int)) = True := eq_true (by omega)
  have hi0 : (0 ≤ (i : Int)) = True := eq_true (by omega)
  obtain ⟨va, vd⟩ := bs_get hi
  have xa : (((s[i].toNat : Nat) : Int) ≥ 240) = True := eq_true (by omega)
  have xb : (((s[i].toNat : Nat) : Int) < 248) = False := eq_false (by omega)
  have xd : (((s[i].toNat : Nat) : Int) ≥ 224) = True := eq_true (by omega)
  have xe : (((s[i].toNat : Nat) : Int) ≥ 192) = True := eq_true (by omega)
  have xg : (((s[i].toNat : Nat) : Int) ≥ 248) = True := eq_true (by omega)
  have xh : (((s[i].toNat : Nat) : Int) ≥ 128) = True := eq_true (by omega)
  have xm : (((s[i].toNat : Nat) : Int) < 192) = False := eq_false (by omega)
  rw [r29_B0_eq]
  simp (disch := omega) only [go_sem, and_self, and_true, true_and, false_and, and_false, Nat.reduceAdd, Nat.reduceMul, Nat.reduceSub, Nat.reduceLeDiff, Nat.reduceLT, Nat.reduceGT, Nat.reduceEqDiff, Nat.reduceBEq, Int.reduceNeg, Int.reduceEq, Int.reduceLT, Int.reduceLE, Int.reduceBEq, Int.reduceToNat, Int.toNat_natCast, Int.natCast_zero, r29_C0, q1, hi0, va, xa, xb, xd, xe, xg, xh, xm, w64]

def SgIs (s : ByteArray) (l : List Int) (i k : Nat) : Prop :=
  if validF k ((bs s).drop i) = true then ∃ l' : List Int, V (F tab) r29_B0 (r29_S0 (.d (.str s)) (.own 3 (l.map iv)) (.d (iv i)) []) = some (.norm, r29_E0 (.own 3 (l'.map iv)) [])
  else V (F tab) r29_B0 (r29_S0 (.d (.str s)) (.own 3 (l.map iv)) (.d (iv i)) []) = some (.ret, r29_R (.d (.sl [])) (.d (.bool false)) [])
theorem sgis_end (s : ByteArray) (l : List Int) (i k : Nat) (hi : s.size ≤ i) : SgIs s l i k := by
  have h1 : ((i : Int) < (s.size : Int)) = False := eq_false (by omega)
  have e : validF k ((bs s).drop i) = true := by rw [bs_end hi]; cases k <;> rfl
  unfold SgIs
  rw [if_pos e]
  refine ⟨l, ?_⟩
  rw [r29_B0_eq]
  simp (disch := omega) only [go_sem, and_self, and_true, true_and, false_and, and_false, Nat.reduceAdd, Nat.reduceMul, Nat.reduceSub, Nat.reduceLeDiff, Nat.reduceLT, Nat.reduceGT, Nat.reduceEqDiff, Nat.reduceBEq, Int.reduceNeg, Int.reduceEq, Int.reduceLT, Int.reduceLE, Int.reduceBEq, Int.reduceToNat, Int.toNat_natCast, Int.natCast_zero, r29_C0, h1]
theorem sgis_of (s : ByteArray) (l : List Int) (i k n : Nat) (c : Int) (C : Bool) (hi : i < s.size) (hn : 0 < n)
    (hV : V (F tab) r29_B0 (r29_S0 (.d (.str s)) (.own 3 (l.map iv)) (.d (iv i)) []) = if C then V (F tab) r29_B0 (r29_S0 (.d (.str s)) (.own 3 ((l ++ [c]).map iv)) (.d (iv (i + n : Nat))) []) else some (.ret, r29_R (.d (.sl [])) (.d (.bool false)) []))
    (hC : C = (sizeL ((bs s).drop i) == n)) (h0 : sizeL ((bs s).drop i) = n ∨ sizeL ((bs s).drop i) = 0) (ih : SgIs s (l ++ [c]) (i + n) k) : SgIs s l i (k + 1) := by
  obtain ⟨va, vd⟩ := bs_get hi
  have ev : validF (k + 1) ((bs s).drop i) = if sizeL ((bs s).drop i) = 0 then false else validF k (((bs s).drop i).drop (sizeL ((bs s).drop i))) := by rw [vd]; rfl
  unfold SgIs at ih ⊢
  rcases h0 with h0 | h0
  · have e : C = true := by rw [hC, h0]; simp
    have e2 : validF (k + 1) ((bs s).drop i) = validF k ((bs s).drop (i + n)) := by
      rw [ev, h0, if_neg (show ¬ n = 0 by omega), List.drop_drop]
    rw [e2, hV, e]
    simp only [if_true]
    exact ih
  · have e : C = false := by rw [hC, h0]; simp; omega
    have e2 : validF (k + 1) ((bs s).drop i) = false := by rw [ev, h0, if_pos rfl]
    rw [e2, hV, e]
    simp
theorem sgis_bad (s : ByteArray) (l : List Int) (i k : Nat) (hi : i < s.size) (hV : V (F tab) r29_B0 (r29_S0 (.d (.str s)) (.own 3 (l.map iv)) (.d (iv i)) []) = some (.ret, r29_R (.d (.sl [])) (.d (.bool false)) [])) (h0 : sizeL ((bs s).drop i) = 0) : SgIs s l i (k + 1) := by
  obtain ⟨va, vd⟩ := bs_get hi
  have ev : validF (k + 1) ((bs s).drop i) = if sizeL ((bs s).drop i) = 0 then false else validF k (((bs s).drop i).drop (sizeL ((bs s).drop i))) := by rw [vd]; rfl
  unfold SgIs
  rw [ev, h0]
  simpa using hV
theorem sgis_step (s : ByteArray) (hs : s.size ≤ 2097152) (l : List Int) (i k : Nat) (hi : i < s.size) (hl : l.length ≤ i) (ih : ∀ (c : Int) (n : Nat), 0 < n → n ≤ 4 → SgIs s (l ++ [c]) (i + n) k) : SgIs s l i (k + 1) := by
  obtain ⟨va, vd⟩ := bs_get hi
  have hlen : (s[i] :: (bs s).drop (i + 1)).length = s.size - i := by rw [← vd, List.length_drop, bs_len]
  have hx : s[i].toNat < 256 := UInt8.toNat_lt _
  have dn : ∀ n, decide (i + n ≤ s.size) = decide (n ≤ (s[i] :: (bs s).drop (i + 1)).length) := by
    intro n; rw [hlen]; apply decide_eq_decide.2; omega
  have okE : ∀ n c, okC s i n c = okL (s[i] :: (bs s).drop (i + 1)) n c := by
    intro n c; unfold okC okL; rw [vd]
  by_cases h1 : ((s[i].toNat : Nat) : Int) ≤ 127
  · obtain ⟨a1, a2⟩ := m1 s[i] ((bs s).drop (i + 1)) h1
    refine sgis_of s l i k 1 _ _ hi (by omega) (sg_1 s hs l (by omega) i hi (by omega) h1) ?_ (by rw [vd, a2]; simp) (ih _ 1 (by omega) (by omega))
    rw [vd, a2, okE, conts, cdec, a1]
    simp; omega
  by_cases h2 : ((s[i].toNat : Nat) : Int) ≤ 191
  · exact sgis_bad s l i k hi (sg_bad1 s hs l i hi (by omega) h2) (by rw [vd]; exact szc_1 _ (by rw [nb0]; omega) (by rw [nb0]; omega))
  by_cases h3 : ((s[i].toNat : Nat) : Int) ≤ 223
  · obtain ⟨a1, a2⟩ := m2 s[i] ((bs s).drop (i + 1)) (by omega) h3
    refine sgis_of s l i k 2 _ _ hi (by omega) (sg_2 s hs l (by omega) i hi (by omega) h3) ?_ (by rw [vd]; exact a2) (ih _ 2 (by omega) (by omega))
    rw [vd, okE, dn]; exact a1
  by_cases h4 : ((s[i].toNat : Nat) : Int) ≤ 239
  · obtain ⟨a1, a2⟩ := m3 s[i] ((bs s).drop (i + 1)) (by omega) h4
    refine sgis_of s l i k 3 _ _ hi (by omega) (sg_3 s hs l (by omega) i hi (by omega) h4) ?_ (by rw [vd]; exact a2) (ih _ 3 (by omega) (by omega))
    rw [vd, okE, dn]; exact a1
  by_cases h5 : ((s[i].toNat : Nat) : Int) ≤ 247
  · obtain ⟨a1, a2⟩ := m4 s[i] ((bs s).drop (i + 1)) (by omega) h5
    refine sgis_of s l i k 4 _ _ hi (by omega) (sg_4 s hs l (by omega) i hi (by omega) h5) ?_ (by rw [vd]; exact a2) (ih _ 4 (by omega) (by omega))
    rw [vd, okE, dn]; exact a1
  · exact sgis_bad s l i k hi (sg_bad2 s hs l i hi (by omega) (by omega)) (by rw [vd]; exact szc_10 _ (by rw [nb0]; omega) (by rw [nb0]; omega))
theorem sgis_all (s : ByteArray) (hs : s.size ≤ 2097152) : ∀ (k i : Nat) (l : List Int), s.size ≤ i + k → l.length ≤ i → SgIs s l i k
  | 0, i, l, h, hl => sgis_end s l i 0 (by omega)
  | k + 1, i, l, h, hl => by
    by_cases hi : s.size ≤ i
    · exact sgis_end s l i _ hi
    · exact sgis_step s hs l i k (by omega) hl fun c n h1 h2 => sgis_all s hs k (i + n) (l ++ [c]) (by omega) (by simp; omega)

theorem rsigns_bool (s : ByteArray) (hs : s.size ≤ 2097152) : ∃ x : D, ∀ hp, F tab 29 [.d (.str s)] hp = some (.ret (.tup [.d x, .d (.bool (validB s))]) hp) := by
  have hL := sgis_all s hs s.size 0 [] (by omega) (by simp)
  unfold SgIs at hL
  rw [List.drop_zero] at hL
  unfold validB
  rcases Bool.eq_false_or_eq_true (validF s.size (bs s)) with g | g
  · rw [if_pos g] at hL
    obtain ⟨l', hL⟩ := hL
    refine ⟨.sl (l'.map iv), fun hp => f29 rfl ?_⟩
    rw [g]
    simp (disch := omega) only [go_sem, and_self, and_true, true_and, false_and, and_false, Nat.reduceAdd, Nat.reduceMul, Nat.reduceSub, Nat.reduceLeDiff, Nat.reduceLT, Nat.reduceGT, Nat.reduceEqDiff, Nat.reduceBEq, Int.reduceNeg, Int.reduceEq, Int.reduceLT, Int.reduceLE, Int.reduceBEq, Int.reduceToNat, Int.toNat_natCast, Int.natCast_zero, r29_T, r29]
    rw [r29_B0_n, r29_B0_z4]
    erw [hL]
    simp (disch := omega) only [go_sem, and_self, and_true, true_and, false_and, and_false, Nat.reduceAdd, Nat.reduceMul, Nat.reduceSub, Nat.reduceLeDiff, Nat.reduceLT, Nat.reduceGT, Nat.reduceEqDiff, Nat.reduceBEq, Int.reduceNeg, Int.reduceEq, Int.reduceLT, Int.reduceLE, Int.reduceBEq, Int.reduceToNat, Int.toNat_natCast, Int.natCast_zero]
  · rw [if_neg (by simp [g])] at hL
    refine ⟨.sl [], fun hp => f29 rfl ?_⟩
    rw [g]
    simp (disch := omega) only [go_sem, and_self, and_true, true_and, false_and, and_false, Nat.reduceAdd, Nat.reduceMul, Nat.reduceSub, Nat.reduceLeDiff, Nat.reduceLT, Nat.reduceGT, Nat.reduceEqDiff, Nat.reduceBEq, Int.reduceNeg, Int.reduceEq, Int.reduceLT, Int.reduceLE, Int.reduceBEq, Int.reduceToNat, Int.toNat_natCast, Int.natCast_zero, r29_T, r29]
    rw [r29_B0_n, r29_B0_z4]
    erw [hL]
    simp (disch := omega) only [go_sem, and_self, and_true, true_and, false_and, and_false, Nat.reduceAdd, Nat.reduceMul, Nat.reduceSub, Nat.reduceLeDiff, Nat.reduceLT, Nat.reduceGT, Nat.reduceEqDiff, Nat.reduceBEq, Int.reduceNeg, Int.reduceEq, Int.reduceLT, Int.reduceLE, Int.reduceBEq, Int.reduceToNat, Int.toNat_natCast, Int.natCast_zero]
end Go.Pe.T

namespace Go.Pe.T

mutual
def sizeV : Val → Int → Int → Int
  | .mk _ _ _ _ xs _, n, most => if n ≥ most then n else sizes xs (n + 1) most
def sizes : List Val → Int → Int → Int
  | [], n, _ => n
  | v :: r, n, most => sizes r (sizeV v n most) most
end

theorem size_loop (most : Int) (hm : most ≤ 9223372036854775807) (k c s : Int) (t : ByteArray) (items : List Val) (hl : items.length ≤ maxLen) (keys : List D)
    (ih : ∀ v ∈ items, ∀ n, 0 ≤ n → 0 ≤ sizeV v n most ∧ ∀ hp, F tab 18 [.d v.enc, .d (iv n), .d (iv most)] hp = some (.ret (.d (iv (sizeV v n most))) hp)) : ∀ (j i : Nat) (n : Int), i + j = items.length → 0 ≤ n →
  V (F tab) r18_B0 (r18_S0 (.d (iv n)) (.d (iv most)) (.ibox [.d (iv k), .d (iv c), .d (iv s), .d (.str t), .d (.sl (Val.encs items)), .d (.sl keys)]) (.d (iv i)) []) =
    some (.norm, r18_E0 (.d (iv (sizes (items.drop i) n most))) []) ∧ 0 ≤ sizes (items.drop i) n most
  | 0, i, n, hi, h0 => by
    rw [r18_B0_eq, List.drop_of_length_le (by omega)]
    have h1 : ((i : Int) < (items.length : Int)) = False := by simp; omega
    refine ⟨?_, h0⟩
    simp only [go_sem, r18_C0, encs_len, h1, sizes]
  | j + 1, i, n, hi, h0 => by
    have hlt : i < items.length := by omega
    have hmx : maxLen ≤ 9223372036854775807 := by decide
    have h1 : ((i : Int) < (items.length : Int)) = True := by simp [hlt]
    have h2 : (0 ≤ (i : Int)) = True := by simp
    have h3 : (Val.encs items)[i]? = some (items[i].enc) := by rw [encs_get]; simp [hlt]
    obtain ⟨e2, e3⟩ := ih items[i] (List.getElem_mem hlt) n h0
    have ihj := size_loop most hm k c s t items hl keys ih j (i + 1) _ (by omega) e2
    rw [List.drop_eq_getElem_cons hlt]
    simp only [sizes]
    refine ⟨?_, ihj.2⟩
    rw [r18_B0_eq]
    simp (disch := omega) only [go_sem, r18_C0, encs_len, h1, h2, h3, Int.toNat_natCast, enc_w, enc_a, e3, w64]
    exact ihj.1

theorem size_ok {most : Int} (hm : most ≤ 9223372036854775807) : ∀ (v : Val) (n : Int), v.ok → 0 ≤ n → 0 ≤ sizeV v n most ∧ ∀ hp, F tab 18 [.d v.enc, .d (iv n), .d (iv most)] hp = some (.ret (.d (iv (sizeV v n most))) hp)
  | .mk k c s t xs ks, n, hv, h0 => by
    simp only [Val.ok] at hv
    have ih : ∀ v ∈ xs, ∀ n, 0 ≤ n → 0 ≤ sizeV v n most ∧ ∀ hp, F tab 18 [.d v.enc, .d (iv n), .d (iv most)] hp = some (.ret (.d (iv (sizeV v n most))) hp) := by
      intro v hv' n h0
      exact size_ok hm v n (oks_mem hv.2.2.2.2.2.2.2 hv') h0
    by_cases h : n ≥ most
    · refine ⟨by simp only [sizeV, h, if_true]; exact h0, fun hp => f18 rfl ?_⟩
      simp only [go_sem, r18_T, r18, Val.enc, h, sizeV]
    · have hL := size_loop most hm k c s t xs hv.2.2.2.2.1 (ks.map .str) ih xs.length 0 (n + 1) (by omega) (by omega)
      refine ⟨by simp only [sizeV, h, if_false]; exact hL.2, fun hp => f18 rfl ?_⟩
      simp (disch := omega) only [go_sem, r18_T, r18, Val.enc, h, sizeV, w64]
      rw [r18_B0_n]
      erw [hL.1]
      simp only [go_sem, List.drop_zero]

mutual
def flatV : Val → Int → Bool
  | .mk _ _ _ _ xs _, d => if d < 0 then false else flats xs (d - 1)
def flats : List Val → Int → Bool
  | [], _ => true
  | v :: r, d => if flatV v d then flats r d else false
end

theorem flat_loop (d : Int) (hd : 0 ≤ d ∧ d ≤ 9223372036854775807) (k c s : Int) (t : ByteArray) (items : List Val) (hl : items.length ≤ maxLen) (keys : List D)
    (ih : ∀ v ∈ items, ∀ hp, F tab 19 [.d v.enc, .d (iv (d - 1))] hp = some (.ret (.d (.bool (flatV v (d - 1)))) hp)) : ∀ (j i : Nat), i + j = items.length →
  V (F tab) r19_B0 (r19_S0 (.d (iv d)) (.ibox [.d (iv k), .d (iv c), .d (iv s), .d (.str t), .d (.sl (Val.encs items)), .d (.sl keys)]) (.d (iv i)) []) =
     if flats (items.drop i) (d - 1) then some (.norm, r19_E0 []) else some (.ret, r19_R (.d (.bool false)) [])
  | 0, i, hi => by
    rw [r19_B0_eq, List.drop_of_length_le (by omega)]
    have h1 : ((i : Int) < (items.length : Int)) = False := by simp; omega
    simp only [go_sem, r19_C0, encs_len, h1, flats]
  | j + 1, i, hi => by
    have hlt : i < items.length := by omega
    have hmx : maxLen ≤ 9223372036854775807 := by decide
    have h1 : ((i : Int) < (items.length : Int)) = True := by simp [hlt]
    have h2 : (0 ≤ (i : Int)) = True := by simp
    have h3 : (Val.encs items)[i]? = some (items[i].enc) := by rw [encs_get]; simp [hlt]
    have e3 := ih items[i] (List.getElem_mem hlt)
    have ihj := flat_loop d hd k c s t items hl keys ih j (i + 1) (by omega)
    rw [List.drop_eq_getElem_cons hlt]
    simp only [flats]
    rw [r19_B0_eq]
    rcases Bool.eq_false_or_eq_true (flatV items[i] (d - 1)) with hf | hf
    · simp (disch := omega) only [go_sem, and_self, and_true, true_and, false_and, and_false, Nat.reduceAdd, Nat.reduceMul, Nat.reduceSub, Nat.reduceLeDiff, Nat.reduceLT, Nat.reduceGT, Nat.reduceEqDiff, Nat.reduceBEq, Int.reduceNeg, Int.reduceEq, Int.reduceLT, Int.reduceLE, Int.reduceBEq, Int.reduceToNat, Int.toNat_natCast, Int.natCast_zero, r19_C0, encs_len, h1, h2, h3, enc_w, enc_a, e3, hf, w64]
      exact ihj
    · simp (disch := omega) only [go_sem, and_self, and_true, true_and, false_and, and_false, Nat.reduceAdd, Nat.reduceMul, Nat.reduceSub, Nat.reduceLeDiff, Nat.reduceLT, Nat.reduceGT, Nat.reduceEqDiff, Nat.reduceBEq, Int.reduceNeg, Int.reduceEq, Int.reduceLT, Int.reduceLE, Int.reduceBEq, Int.reduceToNat, Int.toNat_natCast, Int.natCast_zero, r19_C0, encs_len, h1, h2, h3, enc_w, enc_a, e3, hf, w64]

theorem flat_ok : ∀ (v : Val) (d : Int), v.ok → i64 d → ∀ hp, F tab 19 [.d v.enc, .d (iv d)] hp = some (.ret (.d (.bool (flatV v d))) hp)
  | .mk k c s t xs ks, d, hv, h0, hp => by
    simp only [Val.ok] at hv
    refine f19 rfl ?_
    by_cases h : d < 0
    · simp only [go_sem, r19_T, r19, Val.enc, h, flatV]
    · have h1 : i64 (d - 1) := by unfold i64 at *; omega
      have hL := flat_loop d (by unfold i64 at *; omega) k c s t xs hv.2.2.2.2.1 (ks.map .str) (fun v hv' hp => flat_ok v (d - 1) (oks_mem hv.2.2.2.2.2.2.2 hv') h1 hp) xs.length 0 (by omega)
      simp (disch := omega) only [go_sem, r19_T, r19, Val.enc, h, flatV, w64]
      rw [r19_B0_n]
      erw [hL]
      rw [List.drop_zero]
      cases flats xs (d - 1) <;> simp only [go_sem]

def lightV (v : Val) (most : Int) : Bool := decide (sizeV v 0 (most + 1) ≤ most) && flatV v 60

theorem light_ok {v : Val} {most : Int} (hv : v.ok) (hm : 0 ≤ most ∧ most < 9223372036854775807) (hp : List Ent) : F tab 12 [.d v.enc, .d (iv most)] hp = some (.ret (.d (.bool (lightV v most))) hp) := by
  refine f12 rfl ?_
  have h1 := (size_ok (most := most + 1) (by omega) v 0 hv (by omega)).2
  have h2 := flat_ok v 60 hv (by unfold i64; omega)
  cases v with
  | mk k c s t xs ks =>
    by_cases h : sizeV (Val.mk k c s t xs ks) 0 (most + 1) ≤ most
    · simp only [Val.enc] at h1 h2
      simp (disch := omega) only [go_sem, and_self, and_true, true_and, false_and, and_false, Nat.reduceAdd, Nat.reduceMul, Nat.reduceSub, Nat.reduceLeDiff, Nat.reduceLT, Nat.reduceGT, Nat.reduceEqDiff, Nat.reduceBEq, Int.reduceNeg, Int.reduceEq, Int.reduceLT, Int.reduceLE, Int.reduceBEq, Int.reduceToNat, Int.toNat_natCast, Int.natCast_zero, r12_T, r12, Val.enc, lightV, w64, h1, h2, h]
    · simp only [Val.enc] at h1 h2
      simp (disch := omega) only [go_sem, and_self, and_true, true_and, false_and, and_false, Nat.reduceAdd, Nat.reduceMul, Nat.reduceSub, Nat.reduceLeDiff, Nat.reduceLT, Nat.reduceGT, Nat.reduceEqDiff, Nat.reduceBEq, Int.reduceNeg, Int.reduceEq, Int.reduceLT, Int.reduceLE, Int.reduceBEq, Int.reduceToNat, Int.toNat_natCast, Int.natCast_zero, r12_T, r12, Val.enc, lightV, w64, h1, h2, h]
end Go.Pe.T

namespace Go.Pe.T
def sgn (a b : Int) : Int := if a < b then -1 else if a > b then 1 else 0

theorem numorder_ok (a b : Int) (hp : List Ent) : F tab 84 [.d (iv a), .d (iv b)] hp = some (.ret (.d (iv (sgn a b))) hp) := by
  refine f84 rfl ?_
  by_cases ha : a < b
  · simp only [go_sem, and_self, and_true, true_and, false_and, and_false, Nat.reduceAdd, Nat.reduceMul, Nat.reduceSub, Nat.reduceLeDiff, Nat.reduceLT, Nat.reduceGT, Nat.reduceEqDiff, Nat.reduceBEq, Int.reduceNeg, Int.reduceEq, Int.reduceLT, Int.reduceLE, Int.reduceBEq, Int.reduceToNat, Int.toNat_natCast, Int.natCast_zero, r84_T, r84, ha, sgn]
  · by_cases hb : a > b
    · simp only [go_sem, and_self, and_true, true_and, false_and, and_false, Nat.reduceAdd, Nat.reduceMul, Nat.reduceSub, Nat.reduceLeDiff, Nat.reduceLT, Nat.reduceGT, Nat.reduceEqDiff, Nat.reduceBEq, Int.reduceNeg, Int.reduceEq, Int.reduceLT, Int.reduceLE, Int.reduceBEq, Int.reduceToNat, Int.toNat_natCast, Int.natCast_zero, r84_T, r84, ha, hb, sgn]
    · simp only [go_sem, and_self, and_true, true_and, false_and, and_false, Nat.reduceAdd, Nat.reduceMul, Nat.reduceSub, Nat.reduceLeDiff, Nat.reduceLT, Nat.reduceGT, Nat.reduceEqDiff, Nat.reduceBEq, Int.reduceNeg, Int.reduceEq, Int.reduceLT, Int.reduceLE, Int.reduceBEq, Int.reduceToNat, Int.toNat_natCast, Int.natCast_zero, r84_T, r84, ha, hb, sgn]

abbrev numD (c s : Int) : D := .agg [iv c, iv s]

def numIs (c s : Int) : Bool := decide (0 ≤ s) && decide (s ≤ 9) && decide (-1000000000000000 < c) && decide (c < 1000000000000000) && (s == 0 || c.tmod 10 != 0)

theorem numIs_ok (c s : Int) (hp : List Ent) : F tab 73 [.d (numD c s)] hp = some (.ret (.d (.bool (numIs c s))) hp) := by
  refine f73 rfl ?_
  by_cases h1 : s < 0
  · have g1 : ¬ (0 ≤ s) := by omega
    simp only [go_sem, and_self, and_true, true_and, false_and, and_false, Nat.reduceAdd, Nat.reduceMul, Nat.reduceSub, Nat.reduceLeDiff, Nat.reduceLT, Nat.reduceGT, Nat.reduceEqDiff, Nat.reduceBEq, Int.reduceNeg, Int.reduceEq, Int.reduceLT, Int.reduceLE, Int.reduceBEq, Int.reduceToNat, Int.toNat_natCast, Int.natCast_zero, r73_T, r73, numIs, h1, g1]
  · have g1 : 0 ≤ s := by omega
    by_cases h2 : s > 9
    · have g2 : ¬ (s ≤ 9) := by omega
      simp only [go_sem, and_self, and_true, true_and, false_and, and_false, Nat.reduceAdd, Nat.reduceMul, Nat.reduceSub, Nat.reduceLeDiff, Nat.reduceLT, Nat.reduceGT, Nat.reduceEqDiff, Nat.reduceBEq, Int.reduceNeg, Int.reduceEq, Int.reduceLT, Int.reduceLE, Int.reduceBEq, Int.reduceToNat, Int.toNat_natCast, Int.natCast_zero, r73_T, r73, numIs, h1, g1, h2, g2]
    · have g2 : s ≤ 9 := by omega
      by_cases h3 : c ≤ -1000000000000000
      · have g3 : ¬ (-1000000000000000 < c) := by omega
        simp only [go_sem, and_self, and_true, true_and, false_and, and_false, Nat.reduceAdd, Nat.reduceMul, Nat.reduceSub, Nat.reduceLeDiff, Nat.reduceLT, Nat.reduceGT, Nat.reduceEqDiff, Nat.reduceBEq, Int.reduceNeg, Int.reduceEq, Int.reduceLT, Int.reduceLE, Int.reduceBEq, Int.reduceToNat, Int.toNat_natCast, Int.natCast_zero, r73_T, r73, numIs, h1, g1, h2, g2, h3, g3]
      · have g3 : -1000000000000000 < c := by omega
        by_cases h4 : c ≥ 1000000000000000
        · have g4 : ¬ (c < 1000000000000000) := by omega
          simp only [go_sem, and_self, and_true, true_and, false_and, and_false, Nat.reduceAdd, Nat.reduceMul, Nat.reduceSub, Nat.reduceLeDiff, Nat.reduceLT, Nat.reduceGT, Nat.reduceEqDiff, Nat.reduceBEq, Int.reduceNeg, Int.reduceEq, Int.reduceLT, Int.reduceLE, Int.reduceBEq, Int.reduceToNat, Int.toNat_natCast, Int.natCast_zero, r73_T, r73, numIs, h1, g1, h2, g2, h3, g3, h4, g4]
        · have g4 : c < 1000000000000000 := by omega
          by_cases h5 : s = 0
          · subst h5
            simp only [go_sem, and_self, and_true, true_and, false_and, and_false, Nat.reduceAdd, Nat.reduceMul, Nat.reduceSub, Nat.reduceLeDiff, Nat.reduceLT, Nat.reduceGT, Nat.reduceEqDiff, Nat.reduceBEq, Int.reduceNeg, Int.reduceEq, Int.reduceLT, Int.reduceLE, Int.reduceBEq, Int.reduceToNat, Int.toNat_natCast, Int.natCast_zero, r73_T, r73, numIs, h1, g1, h2, g2, h3, g3, h4, g4, Bool.true_or]
          · have g5 : (s == 0) = false := by simpa using h5
            simp only [go_sem, and_self, and_true, true_and, false_and, and_false, Nat.reduceAdd, Nat.reduceMul, Nat.reduceSub, Nat.reduceLeDiff, Nat.reduceLT, Nat.reduceGT, Nat.reduceEqDiff, Nat.reduceBEq, Int.reduceNeg, Int.reduceEq, Int.reduceLT, Int.reduceLE, Int.reduceBEq, Int.reduceToNat, Int.toNat_natCast, Int.natCast_zero, r73_T, r73, numIs, h1, g1, h2, g2, h3, g3, h4, g4, g5, Bool.false_or]

theorem both_ok (c s c' s' : Int) (hp : List Ent) : F tab 49 [.d (numD c s), .d (numD c' s')] hp = some (.ret (.d (.bool (numIs c s && numIs c' s'))) hp) := by
  refine f49 rfl ?_
  have h1 := numIs_ok c s
  have h2 := numIs_ok c' s'
  rcases Bool.eq_false_or_eq_true (numIs c s) with h | h
  · simp only [go_sem, and_self, and_true, true_and, false_and, and_false, Nat.reduceAdd, Nat.reduceMul, Nat.reduceSub, Nat.reduceLeDiff, Nat.reduceLT, Nat.reduceGT, Nat.reduceEqDiff, Nat.reduceBEq, Int.reduceNeg, Int.reduceEq, Int.reduceLT, Int.reduceLE, Int.reduceBEq, Int.reduceToNat, Int.toNat_natCast, Int.natCast_zero, r49_T, r49, h1, h2, h]
  · simp only [go_sem, and_self, and_true, true_and, false_and, and_false, Nat.reduceAdd, Nat.reduceMul, Nat.reduceSub, Nat.reduceLeDiff, Nat.reduceLT, Nat.reduceGT, Nat.reduceEqDiff, Nat.reduceBEq, Int.reduceNeg, Int.reduceEq, Int.reduceLT, Int.reduceLE, Int.reduceBEq, Int.reduceToNat, Int.toNat_natCast, Int.natCast_zero, r49_T, r49, h1, h2, h]


theorem p10_pos (n : Nat) : 0 < (10 : Int) ^ n := Int.pow_pos (by omega)
theorem p10_mono {a b : Nat} (h : a ≤ b) : (10 : Int) ^ a ≤ 10 ^ b := by
  have h1 : (10 : Nat) ^ a ≤ 10 ^ b := Nat.pow_le_pow_right (by omega) h
  have h2 : ((10 ^ a : Nat) : Int) ≤ ((10 ^ b : Nat) : Int) := by exact_mod_cast h1
  simpa using h2

theorem pow_loop (n : Nat) (hn : n ≤ 18) : ∀ (j i : Nat), i + j = n →
    V (F tab) r74_B0 (r74_S0 (.d (iv (10 ^ i))) (.d (iv n)) (.d (iv i)) []) = some (.norm, r74_E0 (.d (iv (10 ^ n))) [])
  | 0, i, hi => by
    obtain rfl : i = n := by omega
    rw [r74_B0_eq]
    have h1 : ((i : Int) < (i : Int)) = False := by simp
    simp only [go_sem, and_self, and_true, true_and, false_and, and_false, Nat.reduceAdd, Nat.reduceMul, Nat.reduceSub, Nat.reduceLeDiff, Nat.reduceLT, Nat.reduceGT, Nat.reduceEqDiff, Nat.reduceBEq, Int.reduceNeg, Int.reduceEq, Int.reduceLT, Int.reduceLE, Int.reduceBEq, Int.reduceToNat, Int.toNat_natCast, Int.natCast_zero, r74_C0, h1]
  | j + 1, i, hi => by
    have h1 : ((i : Int) < (n : Int)) = True := by simp; omega
    have h3 := p10_mono (show i + 1 ≤ 18 by omega)
    have h4 := p10_pos (i + 1)
    have e : (10 : Int) ^ (i + 1) = 10 ^ i * 10 := Int.pow_succ 10 i
    have e18 : (10 : Int) ^ 18 = 1000000000000000000 := by decide
    have ih := pow_loop n hn j (i + 1) (by omega)
    rw [r74_B0_eq]
    simp (disch := omega) only [go_sem, and_self, and_true, true_and, false_and, and_false, Nat.reduceAdd, Nat.reduceMul, Nat.reduceSub, Nat.reduceLeDiff, Nat.reduceLT, Nat.reduceGT, Nat.reduceEqDiff, Nat.reduceBEq, Int.reduceNeg, Int.reduceEq, Int.reduceLT, Int.reduceLE, Int.reduceBEq, Int.reduceToNat, Int.toNat_natCast, Int.natCast_zero, r74_C0, h1, w64]
    rw [e] at ih
    exact ih

theorem pow_ok (n : Nat) (hn : n ≤ 18) (hp : List Ent) : F tab 74 [.d (iv n)] hp = some (.ret (.d (iv (10 ^ n))) hp) := by
  refine f74 rfl ?_
  have hL := pow_loop n hn n 0 (by omega)
  simp (disch := omega) only [go_sem, and_self, and_true, true_and, false_and, and_false, Nat.reduceAdd, Nat.reduceMul, Nat.reduceSub, Nat.reduceLeDiff, Nat.reduceLT, Nat.reduceGT, Nat.reduceEqDiff, Nat.reduceBEq, Int.reduceNeg, Int.reduceEq, Int.reduceLT, Int.reduceLE, Int.reduceBEq, Int.reduceToNat, Int.toNat_natCast, Int.natCast_zero, r74_T, r74]
  rw [r74_B0_n]
  erw [hL]
  simp only [go_sem, and_self, and_true, true_and, false_and, and_false, Nat.reduceAdd, Nat.reduceMul, Nat.reduceSub, Nat.reduceLeDiff, Nat.reduceLT, Nat.reduceGT, Nat.reduceEqDiff, Nat.reduceBEq, Int.reduceNeg, Int.reduceEq, Int.reduceLT, Int.reduceLE, Int.reduceBEq, Int.reduceToNat, Int.toNat_natCast, Int.natCast_zero]

def cutU (c : Int) (k : Nat) : Int := c.tdiv (10 ^ k)
def cutV (c : Int) (k : Nat) : Int := c.tmod (10 ^ k) * 10 ^ (9 - k)

theorem cut_bounds {c : Int} {k : Nat} (hk : k ≤ 9) (hc : -1000000000000000 < c ∧ c < 1000000000000000) :
    cutU c k * 1000000000 + cutV c k = c * 10 ^ (9 - k) ∧ -1000000000000000 < cutU c k ∧ cutU c k < 1000000000000000 ∧ -1000000000 < cutV c k ∧ cutV c k < 1000000000 ∧ (0 ≤ c → 0 ≤ cutU c k ∧ 0 ≤ cutV c k) ∧ (c ≤ 0 → cutU c k ≤ 0 ∧ cutV c k ≤ 0) ∧ -10 ^ k < c.tmod (10 ^ k) ∧ c.tmod (10 ^ k) < 10 ^ k := by
  have hp := p10_pos k
  have hq := p10_pos (9 - k)
  have hpq : (10 : Int) ^ k * 10 ^ (9 - k) = 1000000000 := by
    rw [← Int.pow_add, show k + (9 - k) = 9 by omega]; decide
  have hdm := Int.mul_tdiv_add_tmod c (10 ^ k)
  generalize hP : (10 : Int) ^ k = p at *
  generalize hQ : (10 : Int) ^ (9 - k) = q at *
  have hm1 : c.tmod p < p := Int.tmod_lt_of_pos c hp
  have hm2 : -p < c.tmod p := by
    have := Int.lt_tmod_of_pos c hp
    omega
  have hu : cutU c k = c.tdiv p := by unfold cutU; rw [hP]
  have hv : cutV c k = c.tmod p * q := by unfold cutV; rw [hP, hQ]
  rw [hu, hv]
  have hnat : (c.tdiv p).natAbs ≤ c.natAbs := Int.natAbs_tdiv_le_natAbs c p
  refine ⟨?_, by omega, by omega, ?_, ?_, ?_, ?_, hm2, hm1⟩
  · rw [← hpq]
    calc c.tdiv p * (p * q) + c.tmod p * q = (p * c.tdiv p + c.tmod p) * q := by rw [Int.add_mul]; congr 1; rw [Int.mul_comm p (c.tdiv p), Int.mul_assoc]
      _ = c * q := by rw [hdm]
  · have : -p * q < c.tmod p * q := Int.mul_lt_mul_of_pos_right hm2 hq
    rw [Int.neg_mul, hpq] at this
    exact this
  · have : c.tmod p * q < p * q := Int.mul_lt_mul_of_pos_right hm1 hq
    rw [hpq] at this
    exact this
  · intro h0
    exact ⟨Int.tdiv_nonneg h0 (by omega), Int.mul_nonneg (Int.tmod_nonneg p h0) (by omega)⟩
  · intro h0
    have h1 : c.tdiv p ≤ 0 := by
      have := Int.tdiv_nonneg (show 0 ≤ -c by omega) (show 0 ≤ p by omega)
      rw [Int.neg_tdiv] at this
      omega
    have h2 : c.tmod p ≤ 0 := by
      have := Int.tmod_nonneg p (show 0 ≤ -c by omega)
      rw [Int.neg_tmod] at this
      omega
    exact ⟨h1, Int.mul_nonpos_of_nonpos_of_nonneg h2 (by omega)⟩

theorem cut_ok (c : Int) (k : Nat) (hk : k ≤ 9) (hc : -1000000000000000 < c ∧ c < 1000000000000000) (hp : List Ent) :
    F tab 50 [.d (numD c k)] hp = some (.ret (.tup [.d (iv (cutU c k)), .d (iv (cutV c k))]) hp) := by
  refine f50 rfl ?_
  have h1 := pow_ok k (by omega)
  have h2 := pow_ok (9 - k) (by omega)
  have e : ((9 - k : Nat) : Int) = 9 - (k : Int) := by omega
  rw [e] at h2
  have hne : ((10 : Int) ^ k = 0) = False := by have := p10_pos k; simp; omega
  obtain ⟨b1, b2, b3, b4, b5, _⟩ := cut_bounds hk hc
  have w1 : IntKind.i64.wrap (c.tdiv (10 ^ k)) = cutU c k := by rw [← cutU, w64 (by omega)]
  have w2 : IntKind.i64.wrap (c.tmod (10 ^ k) * 10 ^ (9 - k)) = cutV c k := by rw [← cutV, w64 (by omega)]
  simp (disch := omega) only [go_sem, and_self, and_true, true_and, false_and, and_false, Nat.reduceAdd, Nat.reduceMul, Nat.reduceSub, Nat.reduceLeDiff, Nat.reduceLT, Nat.reduceGT, Nat.reduceEqDiff, Nat.reduceBEq, Int.reduceNeg, Int.reduceEq, Int.reduceLT, Int.reduceLE, Int.reduceBEq, Int.reduceToNat, Int.toNat_natCast, Int.natCast_zero, r50_T, r50, w64, h1, h2, hne, w1, w2]

def flatN (c : Int) (k : Nat) : Int := c * 10 ^ (9 - k)

theorem cmp_math {c c' : Int} {k k' : Nat} (hk : k ≤ 9) (hk' : k' ≤ 9) (hc : -1000000000000000 < c ∧ c < 1000000000000000) (hc' : -1000000000000000 < c' ∧ c' < 1000000000000000) :
    (if cutU c k ≠ cutU c' k' then sgn (cutU c k) (cutU c' k') else sgn (cutV c k) (cutV c' k')) = sgn (flatN c k) (flatN c' k') := by
  obtain ⟨b1, b2, b3, b4, b5, b6, b7, _⟩ := cut_bounds hk hc
  obtain ⟨d1, d2, d3, d4, d5, d6, d7, _⟩ := cut_bounds hk' hc'
  unfold flatN
  rw [← b1, ← d1]
  unfold sgn
  split
  · rename_i hne
    by_cases h0 : 0 ≤ c
    · have := b6 h0
      by_cases h1 : 0 ≤ c'
      · have := d6 h1
        split <;> split <;> (try split) <;> omega
      · have := d7 (by omega)
        split <;> split <;> (try split) <;> omega
    · have := b7 (by omega)
      by_cases h1 : 0 ≤ c'
      · have := d6 h1
        split <;> split <;> (try split) <;> omega
      · have := d7 (by omega)
        split <;> split <;> (try split) <;> omega
  · rename_i hne
    have : cutU c k = cutU c' k' := by simpa using hne
    rw [this]
    split <;> split <;> (try split) <;> omega

theorem numIs_inv {c s : Int} (h : numIs c s = true) : ∃ k : Nat, s = k ∧ k ≤ 9 ∧ (-1000000000000000 < c ∧ c < 1000000000000000) := by
  simp only [numIs, Bool.and_eq_true, decide_eq_true_eq] at h
  exact ⟨s.toNat, by omega, by omega, by omega⟩

theorem numcmp_ok (c c' : Int) (k k' : Nat) (h : numIs c k = true) (h' : numIs c' k' = true) (hp : List Ent) :
    F tab 68 [.d (numD c k), .d (numD c' k')] hp = some (.ret (.d (iv (sgn (flatN c k) (flatN c' k')))) hp) := by
  obtain ⟨k1, e1, hk, hc⟩ := numIs_inv h
  obtain ⟨k2, e2, hk', hc'⟩ := numIs_inv h'
  obtain rfl : k = k1 := by omega
  obtain rfl : k' = k2 := by omega
  refine f68 rfl ?_
  have h1 := both_ok c k c' k'
  rw [h, h'] at h1
  have h2 := cut_ok c k hk hc
  have h3 := cut_ok c' k' hk' hc'
  have h4 := numorder_ok (cutU c k) (cutU c' k')
  have h5 := numorder_ok (cutV c k) (cutV c' k')
  rw [← cmp_math hk hk' hc hc']
  by_cases hu : cutU c k = cutU c' k'
  · have hu1 : (cutU c k != cutU c' k') = false := by simp [hu]
    have hu2 : (cutU c k ≠ cutU c' k') = False := by simp [hu]
    simp (disch := omega) only [go_sem, and_self, and_true, true_and, false_and, and_false, Nat.reduceAdd, Nat.reduceMul, Nat.reduceSub, Nat.reduceLeDiff, Nat.reduceLT, Nat.reduceGT, Nat.reduceEqDiff, Nat.reduceBEq, Int.reduceNeg, Int.reduceEq, Int.reduceLT, Int.reduceLE, Int.reduceBEq, Int.reduceToNat, Int.toNat_natCast, Int.natCast_zero, r68_T, r68, h1, h2, h3, h4, h5, hu1, hu2]
  · have hu1 : (cutU c k != cutU c' k') = true := by simp [hu]
    have hu2 : (cutU c k ≠ cutU c' k') = True := by simp [hu]
    simp (disch := omega) only [go_sem, and_self, and_true, true_and, false_and, and_false, Nat.reduceAdd, Nat.reduceMul, Nat.reduceSub, Nat.reduceLeDiff, Nat.reduceLT, Nat.reduceGT, Nat.reduceEqDiff, Nat.reduceBEq, Int.reduceNeg, Int.reduceEq, Int.reduceLT, Int.reduceLE, Int.reduceBEq, Int.reduceToNat, Int.toNat_natCast, Int.natCast_zero, r68_T, r68, h1, h2, h3, h4, h5, hu1, hu2]
end Go.Pe.T

namespace Go.Pe.T
theorem isNaNi_ok (a : Int) (hp : List Ent) : F tab 83 [.d (iv a)] hp = some (.ret (.d (.bool false)) hp) := by
  refine f83 rfl ?_
  have h : (a != a) = false := by simp
  simp only [go_sem, and_self, and_true, true_and, false_and, and_false, Nat.reduceAdd, Nat.reduceMul, Nat.reduceSub, Nat.reduceLeDiff, Nat.reduceLT, Nat.reduceGT, Nat.reduceEqDiff, Nat.reduceBEq, Int.reduceNeg, Int.reduceEq, Int.reduceLT, Int.reduceLE, Int.reduceBEq, Int.reduceToNat, Int.toNat_natCast, Int.natCast_zero, r83_T, r83, h]

theorem cmpi_ok (a b : Int) (hp : List Ent) : F tab 66 [.d (iv a), .d (iv b)] hp = some (.ret (.d (iv (sgn a b))) hp) := by
  refine f66 rfl ?_
  have h1 := isNaNi_ok a
  have h2 := isNaNi_ok b
  by_cases ha : a < b
  · simp only [go_sem, and_self, and_true, true_and, false_and, and_false, Nat.reduceAdd, Nat.reduceMul, Nat.reduceSub, Nat.reduceLeDiff, Nat.reduceLT, Nat.reduceGT, Nat.reduceEqDiff, Nat.reduceBEq, Int.reduceNeg, Int.reduceEq, Int.reduceLT, Int.reduceLE, Int.reduceBEq, Int.reduceToNat, Int.toNat_natCast, Int.natCast_zero, r66_T, r66, h1, h2, ha, sgn]
  · by_cases hb : a > b
    · simp only [go_sem, and_self, and_true, true_and, false_and, and_false, Nat.reduceAdd, Nat.reduceMul, Nat.reduceSub, Nat.reduceLeDiff, Nat.reduceLT, Nat.reduceGT, Nat.reduceEqDiff, Nat.reduceBEq, Int.reduceNeg, Int.reduceEq, Int.reduceLT, Int.reduceLE, Int.reduceBEq, Int.reduceToNat, Int.toNat_natCast, Int.natCast_zero, r66_T, r66, h1, h2, ha, hb, sgn]
    · simp only [go_sem, and_self, and_true, true_and, false_and, and_false, Nat.reduceAdd, Nat.reduceMul, Nat.reduceSub, Nat.reduceLeDiff, Nat.reduceLT, Nat.reduceGT, Nat.reduceEqDiff, Nat.reduceBEq, Int.reduceNeg, Int.reduceEq, Int.reduceLT, Int.reduceLE, Int.reduceBEq, Int.reduceToNat, Int.toNat_natCast, Int.natCast_zero, r66_T, r66, h1, h2, ha, hb, sgn]

def rankOf (k : Int) : Int := if k < 0 then 8 else if k > 7 then 8 else k

theorem rank_ok (k : Int) (hp : List Ent) : F tab 67 [.d (iv k)] hp = some (.ret (.d (iv (rankOf k))) hp) := by
  refine f67 rfl ?_
  by_cases h1 : k < 0
  · simp only [go_sem, and_self, and_true, true_and, false_and, and_false, Nat.reduceAdd, Nat.reduceMul, Nat.reduceSub, Nat.reduceLeDiff, Nat.reduceLT, Nat.reduceGT, Nat.reduceEqDiff, Nat.reduceBEq, Int.reduceNeg, Int.reduceEq, Int.reduceLT, Int.reduceLE, Int.reduceBEq, Int.reduceToNat, Int.toNat_natCast, Int.natCast_zero, r67_T, r67, h1, rankOf]
  · by_cases h2 : k > 7
    · simp only [go_sem, and_self, and_true, true_and, false_and, and_false, Nat.reduceAdd, Nat.reduceMul, Nat.reduceSub, Nat.reduceLeDiff, Nat.reduceLT, Nat.reduceGT, Nat.reduceEqDiff, Nat.reduceBEq, Int.reduceNeg, Int.reduceEq, Int.reduceLT, Int.reduceLE, Int.reduceBEq, Int.reduceToNat, Int.toNat_natCast, Int.natCast_zero, r67_T, r67, h1, h2, rankOf]
    · simp only [go_sem, and_self, and_true, true_and, false_and, and_false, Nat.reduceAdd, Nat.reduceMul, Nat.reduceSub, Nat.reduceLeDiff, Nat.reduceLT, Nat.reduceGT, Nat.reduceEqDiff, Nat.reduceBEq, Int.reduceNeg, Int.reduceEq, Int.reduceLT, Int.reduceLE, Int.reduceBEq, Int.reduceToNat, Int.toNat_natCast, Int.natCast_zero, r67_T, r67, h1, h2, rankOf]

theorem clean_ok (c s : Int) (hp : List Ent) : F tab 69 [.d (numD c s)] hp = some (.ret (.d (if numIs c s then numD c s else numD 0 0)) hp) := by
  refine f69 rfl ?_
  have h1 := numIs_ok c s
  rcases Bool.eq_false_or_eq_true (numIs c s) with h | h
  · simp only [go_sem, and_self, and_true, true_and, false_and, and_false, Nat.reduceAdd, Nat.reduceMul, Nat.reduceSub, Nat.reduceLeDiff, Nat.reduceLT, Nat.reduceGT, Nat.reduceEqDiff, Nat.reduceBEq, Int.reduceNeg, Int.reduceEq, Int.reduceLT, Int.reduceLE, Int.reduceBEq, Int.reduceToNat, Int.toNat_natCast, Int.natCast_zero, r69_T, r69, h1, h]
  · simp only [go_sem, and_self, and_true, true_and, false_and, and_false, Nat.reduceAdd, Nat.reduceMul, Nat.reduceSub, Nat.reduceLeDiff, Nat.reduceLT, Nat.reduceGT, Nat.reduceEqDiff, Nat.reduceBEq, Int.reduceNeg, Int.reduceEq, Int.reduceLT, Int.reduceLE, Int.reduceBEq, Int.reduceToNat, Int.toNat_natCast, Int.natCast_zero, r69_T, r69, h1, h]

end Go.Pe.T

namespace Go.Pe.T


def mism : List UInt8 → List UInt8 → Option Int
  | x :: a, y :: b => if x = y then mism a b else some (sgn x.toNat y.toNat)
  | _, _ => none
def txtL (a b : List UInt8) : Int := (mism a b).getD (sgn a.length b.length)
def txt (a b : ByteArray) : Int := txtL a.data.toList b.data.toList

theorem txtL_less : ∀ (a b : List UInt8), Op.bytesLess a b = decide (txtL a b = -1) ∧ (a == b) = decide (txtL a b = 0) ∧ (txtL a b = -1 ∨ txtL a b = 0 ∨ txtL a b = 1)
  | [], [] => by simp [Op.bytesLess, txtL, mism, sgn]
  | [], y :: b => by
    have : sgn 0 ((b.length : Int) + 1) = -1 := by unfold sgn; split <;> omega
    simp [Op.bytesLess, txtL, mism, this]
  | x :: a, [] => by
    have : sgn ((a.length : Int) + 1) 0 = 1 := by unfold sgn; split <;> (try split) <;> omega
    simp [Op.bytesLess, txtL, mism, this]
  | x :: a, y :: b => by
    obtain ⟨i1, i2, i3⟩ := txtL_less a b
    have hl : sgn ((x :: a).length : Int) ((y :: b).length : Int) = sgn a.length b.length := by
      unfold sgn; simp
    by_cases h : x = y
    · subst h
      have e : txtL (x :: a) (x :: b) = txtL a b := by simp only [txtL, mism, if_true, hl]
      rw [e]
      have hx : ¬ x < x := by simp
      refine ⟨?_, ?_, i3⟩
      · simp only [Op.bytesLess, hx, decide_false, Bool.false_or, beq_self_eq_true, Bool.true_and, i1]
      · simpa using i2
    · have e : txtL (x :: a) (y :: b) = sgn x.toNat y.toNat := by simp only [txtL, mism, if_neg h, Option.getD_some]
      rw [e]
      have hne : x.toNat ≠ y.toNat := fun hh => h (UInt8.toNat_inj.1 hh)
      have hb : (x == y) = false := by simpa using h
      have hlt : x < y ↔ x.toNat < y.toNat := UInt8.lt_iff_toNat_lt
      unfold sgn
      by_cases h2 : x.toNat < y.toNat
      · have h3 : (x.toNat : Int) < y.toNat := by omega
        simp [Op.bytesLess, hb, hlt.2 h2, h3, h]
      · have h3 : ¬ (x.toNat : Int) < y.toNat := by omega
        have h4 : (x.toNat : Int) > y.toNat := by omega
        have h5 : ¬ x < y := fun hh => h2 (hlt.1 hh)
        simp [Op.bytesLess, hb, h5, h3, h4, h]

theorem isNaNs_ok (a : ByteArray) (hp : List Ent) : F tab 85 [.d (.str a)] hp = some (.ret (.d (.bool false)) hp) := by
  refine f85 rfl ?_
  have h : (!(a.toList == a.toList)) = false := by simp
  simp only [go_sem, and_self, and_true, true_and, false_and, and_false, Nat.reduceAdd, Nat.reduceMul, Nat.reduceSub, Nat.reduceLeDiff, Nat.reduceLT, Nat.reduceGT, Nat.reduceEqDiff, Nat.reduceBEq, Int.reduceNeg, Int.reduceEq, Int.reduceLT, Int.reduceLE, Int.reduceBEq, Int.reduceToNat, Int.toNat_natCast, Int.natCast_zero, r85_T, r85, strD, h]

theorem cmps_ok (a b : ByteArray) (hp : List Ent) : F tab 70 [.d (.str a), .d (.str b)] hp = some (.ret (.d (iv (txt a b))) hp) := by
  refine f70 rfl ?_
  have h1 := isNaNs_ok a
  have h2 := isNaNs_ok b
  obtain ⟨i1, i2, i3⟩ := txtL_less a.data.toList b.data.toList
  have e1 := ByteArray.toList_eq a
  have e2 := ByteArray.toList_eq b
  have e3 : txt a b = txtL a.data.toList b.data.toList := rfl
  rw [← e3] at i1 i2 i3
  rcases i3 with h | h | h
  · have g1 : decide (txt a b = -1) = true := by simp [h]
    simp only [go_sem, and_self, and_true, true_and, false_and, and_false, Nat.reduceAdd, Nat.reduceMul, Nat.reduceSub, Nat.reduceLeDiff, Nat.reduceLT, Nat.reduceGT, Nat.reduceEqDiff, Nat.reduceBEq, Int.reduceNeg, Int.reduceEq, Int.reduceLT, Int.reduceLE, Int.reduceBEq, Int.reduceToNat, Int.toNat_natCast, Int.natCast_zero, r70_T, r70, strD, h1, h2, e1, e2, i1, i2, g1, h]
  · have g1 : decide (txt a b = -1) = false := by simp [h]
    have g2 : decide (txt a b = 0) = true := by simp [h]
    simp only [go_sem, and_self, and_true, true_and, false_and, and_false, Nat.reduceAdd, Nat.reduceMul, Nat.reduceSub, Nat.reduceLeDiff, Nat.reduceLT, Nat.reduceGT, Nat.reduceEqDiff, Nat.reduceBEq, Int.reduceNeg, Int.reduceEq, Int.reduceLT, Int.reduceLE, Int.reduceBEq, Int.reduceToNat, Int.toNat_natCast, Int.natCast_zero, r70_T, r70, strD, h1, h2, e1, e2, i1, i2, g1, g2, h, Bool.false_or, Bool.true_or]
  · have g1 : decide (txt a b = -1) = false := by simp [h]
    have g2 : decide (txt a b = 0) = false := by simp [h]
    simp only [go_sem, and_self, and_true, true_and, false_and, and_false, Nat.reduceAdd, Nat.reduceMul, Nat.reduceSub, Nat.reduceLeDiff, Nat.reduceLT, Nat.reduceGT, Nat.reduceEqDiff, Nat.reduceBEq, Int.reduceNeg, Int.reduceEq, Int.reduceLT, Int.reduceLE, Int.reduceBEq, Int.reduceToNat, Int.toNat_natCast, Int.natCast_zero, r70_T, r70, strD, h1, h2, e1, e2, i1, i2, g1, g2, h, Bool.false_or, Bool.true_or]
end Go.Pe.T

namespace Go.Pe.T
def keysO : List ByteArray → List ByteArray → Option Int
  | x :: a, y :: b => if txt x y = 0 then keysO a b else some (txt x y)
  | _, _ => none
def keysC (a b : List ByteArray) : Int := (keysO a b).getD (sgn a.length b.length)

theorem str_get {l : List ByteArray} {i : Nat} (h : i < l.length) : (l.map D.str)[i]? = some (.str l[i]) := by simp [h]

end Go.Pe.T

namespace Go.Pe.T


theorem scmp_loop (a b : List ByteArray) (hla : a.length ≤ maxLen) : ∀ (j i : Nat), i + j = a.length → i ≤ b.length →
    V (F tab) r72_B0 (r72_S0 (.d (.sl (a.map D.str))) (.d (.sl (b.map D.str))) (.d (.sl (a.map D.str))) (.d (iv a.length)) (.d (iv i)) []) =
      match keysO (a.drop i) (b.drop i) with
      | some r => some (.ret, r72_R (.d (iv r)) [])
      | none => if a.length ≤ b.length then some (.norm, r72_E0 (.d (.sl (a.map D.str))) (.d (.sl (b.map D.str))) []) else some (.ret, r72_R (.d (iv 1)) [])
  | 0, i, hi, hib => by
    have h1 : ((i : Int) < (a.length : Int)) = False := eq_false (by omega)
    rw [r72_B0_eq, List.drop_of_length_le (by omega : a.length ≤ i)]
    have e : keysO [] (b.drop i) = none := by simp [keysO]
    rw [e]
    simp only [if_pos (show a.length ≤ b.length by omega)]
    simp only [go_sem, and_self, and_true, true_and, false_and, and_false, Nat.reduceAdd, Nat.reduceMul, Nat.reduceSub, Nat.reduceLeDiff, Nat.reduceLT, Nat.reduceGT, Nat.reduceEqDiff, Nat.reduceBEq, Int.reduceNeg, Int.reduceEq, Int.reduceLT, Int.reduceLE, Int.reduceBEq, Int.reduceToNat, Int.toNat_natCast, Int.natCast_zero, r72_C0, List.length_map, h1]
  | j + 1, i, hi, hib => by
    have hmx : maxLen = 9223372036854775807 := by decide
    have hlt : i < a.length := by omega
    have h1 : ((i : Int) < (a.length : Int)) = True := eq_true (by omega)
    have h0 : (0 ≤ (i : Int)) = True := eq_true (by omega)
    rw [r72_B0_eq, List.drop_eq_getElem_cons hlt]
    by_cases hb : i < b.length
    · have h2 : ((i : Int) ≥ (b.length : Int)) = False := eq_false (by omega)
      have ht := cmps_ok a[i] b[i]
      rw [List.drop_eq_getElem_cons hb]
      by_cases he : txt a[i] b[i] = 0
      · have g1 : (txt a[i] b[i] != 0) = false := by simp [he]
        have ih := scmp_loop a b hla j (i + 1) (by omega) (by omega)
        simp only [keysO, if_pos he]
        simp (disch := omega) only [go_sem, and_self, and_true, true_and, false_and, and_false, Nat.reduceAdd, Nat.reduceMul, Nat.reduceSub, Nat.reduceLeDiff, Nat.reduceLT, Nat.reduceGT, Nat.reduceEqDiff, Nat.reduceBEq, Int.reduceNeg, Int.reduceEq, Int.reduceLT, Int.reduceLE, Int.reduceBEq, Int.reduceToNat, Int.toNat_natCast, Int.natCast_zero, r72_C0, List.length_map, h0, h1, h2, str_get hlt, str_get hb, ht, g1, w64]
        exact ih
      · have g1 : (txt a[i] b[i] != 0) = true := by simp [he]
        simp only [keysO, if_neg he]
        simp (disch := omega) only [go_sem, and_self, and_true, true_and, false_and, and_false, Nat.reduceAdd, Nat.reduceMul, Nat.reduceSub, Nat.reduceLeDiff, Nat.reduceLT, Nat.reduceGT, Nat.reduceEqDiff, Nat.reduceBEq, Int.reduceNeg, Int.reduceEq, Int.reduceLT, Int.reduceLE, Int.reduceBEq, Int.reduceToNat, Int.toNat_natCast, Int.natCast_zero, r72_C0, List.length_map, h0, h1, h2, str_get hlt, str_get hb, ht, g1, w64]
    · have h2 : ((i : Int) ≥ (b.length : Int)) = True := eq_true (by omega)
      rw [List.drop_of_length_le (by omega : b.length ≤ i)]
      simp only [keysO, if_neg (show ¬ a.length ≤ b.length by omega)]
      simp (disch := omega) only [go_sem, and_self, and_true, true_and, false_and, and_false, Nat.reduceAdd, Nat.reduceMul, Nat.reduceSub, Nat.reduceLeDiff, Nat.reduceLT, Nat.reduceGT, Nat.reduceEqDiff, Nat.reduceBEq, Int.reduceNeg, Int.reduceEq, Int.reduceLT, Int.reduceLE, Int.reduceBEq, Int.reduceToNat, Int.toNat_natCast, Int.natCast_zero, r72_C0, List.length_map, h0, h1, h2, str_get hlt]

theorem scmp_ok (a b : List ByteArray) (hla : a.length ≤ maxLen) (hp : List Ent) : F tab 72 [.d (.sl (a.map D.str)), .d (.sl (b.map D.str))] hp = some (.ret (.d (iv (keysC a b))) hp) := by
  refine f72 rfl ?_
  have hL := scmp_loop a b hla a.length 0 (by omega) (by omega)
  simp (disch := omega) only [go_sem, and_self, and_true, true_and, false_and, and_false, Nat.reduceAdd, Nat.reduceMul, Nat.reduceSub, Nat.reduceLeDiff, Nat.reduceLT, Nat.reduceGT, Nat.reduceEqDiff, Nat.reduceBEq, Int.reduceNeg, Int.reduceEq, Int.reduceLT, Int.reduceLE, Int.reduceBEq, Int.reduceToNat, Int.toNat_natCast, Int.natCast_zero, r72_T, r72, List.length_map]
  rw [r72_B0_n]
  erw [hL]
  simp only [List.drop_zero]
  unfold keysC
  cases keysO a b with
  | some r => simp (disch := omega) only [go_sem, and_self, and_true, true_and, false_and, and_false, Nat.reduceAdd, Nat.reduceMul, Nat.reduceSub, Nat.reduceLeDiff, Nat.reduceLT, Nat.reduceGT, Nat.reduceEqDiff, Nat.reduceBEq, Int.reduceNeg, Int.reduceEq, Int.reduceLT, Int.reduceLE, Int.reduceBEq, Int.reduceToNat, Int.toNat_natCast, Int.natCast_zero, Option.getD_some]
  | none =>
    simp only [Option.getD_none]
    by_cases h : a.length ≤ b.length
    · rw [if_pos h]
      by_cases h2 : a.length < b.length
      · have g : ((a.length : Int) < (b.length : Int)) = True := eq_true (by omega)
        have e : sgn (a.length : Int) b.length = -1 := by unfold sgn; rw [if_pos (by omega)]
        simp (disch := omega) only [go_sem, and_self, and_true, true_and, false_and, and_false, Nat.reduceAdd, Nat.reduceMul, Nat.reduceSub, Nat.reduceLeDiff, Nat.reduceLT, Nat.reduceGT, Nat.reduceEqDiff, Nat.reduceBEq, Int.reduceNeg, Int.reduceEq, Int.reduceLT, Int.reduceLE, Int.reduceBEq, Int.reduceToNat, Int.toNat_natCast, Int.natCast_zero, List.length_map, g, e]
      · have g : ((a.length : Int) < (b.length : Int)) = False := eq_false (by omega)
        have e : sgn (a.length : Int) b.length = 0 := by unfold sgn; rw [if_neg (by omega), if_neg (by omega)]
        simp (disch := omega) only [go_sem, and_self, and_true, true_and, false_and, and_false, Nat.reduceAdd, Nat.reduceMul, Nat.reduceSub, Nat.reduceLeDiff, Nat.reduceLT, Nat.reduceGT, Nat.reduceEqDiff, Nat.reduceBEq, Int.reduceNeg, Int.reduceEq, Int.reduceLT, Int.reduceLE, Int.reduceBEq, Int.reduceToNat, Int.toNat_natCast, Int.natCast_zero, List.length_map, g, e]
    · rw [if_neg h]
      have e : sgn (a.length : Int) b.length = 1 := by unfold sgn; rw [if_neg (by omega), if_pos (by omega)]
      simp (disch := omega) only [go_sem, and_self, and_true, true_and, false_and, and_false, Nat.reduceAdd, Nat.reduceMul, Nat.reduceSub, Nat.reduceLeDiff, Nat.reduceLT, Nat.reduceGT, Nat.reduceEqDiff, Nat.reduceBEq, Int.reduceNeg, Int.reduceEq, Int.reduceLT, Int.reduceLE, Int.reduceBEq, Int.reduceToNat, Int.toNat_natCast, Int.natCast_zero, e]
end Go.Pe.T

namespace Go.Pe.T


def cleanN (c s : Int) : Int × Int := if numIs c s then (c, s) else (0, 0)
def flatS (c s : Int) : Int := flatN (cleanN c s).1 (cleanN c s).2.toNat

mutual
def cmpV : Val → Val → Int → Int × Int
  | .mk k c s t xs ks, .mk k' c' s' t' ys ks', left =>
    if left - 1 < 0 then (0, left - 1)
    else if sgn (rankOf k) (rankOf k') ≠ 0 then (sgn (rankOf k) (rankOf k'), left - 1)
    else if k = 3 then (sgn (flatS c s) (flatS c' s'), left - 1)
    else if k = 4 ∨ k = 7 then (txt t t', left - 1)
    else if k = 5 then cmpVs xs ys (left - 1)
    else if k = 6 then (if keysC ks ks' ≠ 0 then (keysC ks ks', left - 1) else cmpVs xs ys (left - 1))
    else (0, left - 1)
def cmpVs : List Val → List Val → Int → Int × Int
  | x :: a, y :: b, left => if (cmpV x y left).1 ≠ 0 ∨ (cmpV x y left).2 < 0 then cmpV x y left else cmpVs a b (cmpV x y left).2
  | a, b, left => (sgn a.length b.length, left)
end

theorem items_loop (a b : List Val) (hla : a.length ≤ maxLen) (left0 : Int)
    (ih : ∀ x ∈ a, ∀ y ∈ b, ∀ left, 0 ≤ left → left ≤ 5000 → -1 ≤ (cmpV x y left).2 ∧ (cmpV x y left).2 ≤ 5000 ∧ F tab 48 [.ptr 0 0, .d x.enc, .d y.enc] [.box [.d (iv left)]] = some (.ret (.d (iv (cmpV x y left).1)) [.box [.d (iv (cmpV x y left).2)]])) :
    ∀ (j i : Nat) (left : Int), i + j = min a.length b.length → 0 ≤ left → left ≤ 5000 →
    -1 ≤ (cmpVs (a.drop i) (b.drop i) left).2 ∧ (cmpVs (a.drop i) (b.drop i) left).2 ≤ 5000 ∧
    (V (F tab) r71_B0 (r71_S0 (.ptr 0 0) (.d (.sl (Val.encs a))) (.d (.sl (Val.encs b))) (.d (iv (min a.length b.length : Nat))) (.d (iv i)) [.box [.d (iv left)]]) =
      some (.norm, r71_E0 (.d (.sl (Val.encs a))) (.d (.sl (Val.encs b))) [.box [.d (iv (cmpVs (a.drop i) (b.drop i) left).2)]]) ∧ (cmpVs (a.drop i) (b.drop i) left).1 = sgn a.length b.length ∨
     V (F tab) r71_B0 (r71_S0 (.ptr 0 0) (.d (.sl (Val.encs a))) (.d (.sl (Val.encs b))) (.d (iv (min a.length b.length : Nat))) (.d (iv i)) [.box [.d (iv left)]]) =
      some (.ret, r71_R (.d (iv (cmpVs (a.drop i) (b.drop i) left).1)) [.box [.d (iv (cmpVs (a.drop i) (b.drop i) left).2)]]))
  | 0, i, left, hi, h0, h5 => by
    have h1 : ((i : Int) < ((min a.length b.length : Nat) : Int)) = False := eq_false (by omega)
    have e : cmpVs (a.drop i) (b.drop i) left = (sgn (a.drop i).length (b.drop i).length, left) := by
      rcases Nat.le_total a.length b.length with h | h
      · rw [List.drop_of_length_le (by omega : a.length ≤ i)]; simp [cmpVs]
      · rw [List.drop_of_length_le (by omega : b.length ≤ i)]; cases a.drop i <;> simp [cmpVs]
    rw [e]
    refine ⟨by simp; omega, h5, .inl ⟨?_, ?_⟩⟩
    · rw [r71_B0_eq]
      simp only [go_sem, and_self, and_true, true_and, false_and, and_false, Nat.reduceAdd, Nat.reduceMul, Nat.reduceSub, Nat.reduceLeDiff, Nat.reduceLT, Nat.reduceGT, Nat.reduceEqDiff, Nat.reduceBEq, Int.reduceNeg, Int.reduceEq, Int.reduceLT, Int.reduceLE, Int.reduceBEq, Int.reduceToNat, Int.toNat_natCast, Int.natCast_zero, r71_C0, h1]
    · simp only [List.length_drop]
      unfold sgn
      split <;> split <;> (try split) <;> omega
  | j + 1, i, left, hi, h0, h5 => by
    have hmx : maxLen = 9223372036854775807 := by decide
    have ga : i < a.length := by omega
    have gb : i < b.length := by omega
    have h1 : ((i : Int) < ((min a.length b.length : Nat) : Int)) = True := eq_true (by omega)
    have hi0 : (0 ≤ (i : Int)) = True := eq_true (by omega)
    have va : (Val.encs a)[i]? = some (a[i].enc) := by rw [encs_get]; simp [ga]
    have vb : (Val.encs b)[i]? = some (b[i].enc) := by rw [encs_get]; simp [gb]
    obtain ⟨c1, c2, c3⟩ := ih a[i] (List.getElem_mem ga) b[i] (List.getElem_mem gb) left h0 h5
    rw [List.drop_eq_getElem_cons ga, List.drop_eq_getElem_cons gb]
    simp only [cmpVs]
    generalize cmpV a[i] b[i] left = r at *
    obtain ⟨c, l⟩ := r
    simp only at c1 c2 c3 ⊢
    rw [r71_B0_eq]
    by_cases hc : c = 0
    · have g1 : (c != 0) = false := by simp [hc]
      by_cases hl : l < 0
      · rw [if_pos (Or.inr hl)]
        refine ⟨c1, c2, .inr ?_⟩
        simp (disch := omega) only [go_sem, and_self, and_true, true_and, false_and, and_false, Nat.reduceAdd, Nat.reduceMul, Nat.reduceSub, Nat.reduceLeDiff, Nat.reduceLT, Nat.reduceGT, Nat.reduceEqDiff, Nat.reduceBEq, Int.reduceNeg, Int.reduceEq, Int.reduceLT, Int.reduceLE, Int.reduceBEq, Int.reduceToNat, Int.toNat_natCast, Int.natCast_zero, r71_C0, h1, hi0, va, vb, enc_w, enc_a, c3, g1, hl, w64]
      · rw [if_neg (by omega)]
        have hx := items_loop a b hla left0 ih j (i + 1) l (by omega) (by omega) c2
        refine ⟨hx.1, hx.2.1, ?_⟩
        simp (disch := omega) only [go_sem, and_self, and_true, true_and, false_and, and_false, Nat.reduceAdd, Nat.reduceMul, Nat.reduceSub, Nat.reduceLeDiff, Nat.reduceLT, Nat.reduceGT, Nat.reduceEqDiff, Nat.reduceBEq, Int.reduceNeg, Int.reduceEq, Int.reduceLT, Int.reduceLE, Int.reduceBEq, Int.reduceToNat, Int.toNat_natCast, Int.natCast_zero, r71_C0, h1, hi0, va, vb, enc_w, enc_a, c3, g1, hl, w64]
        exact hx.2.2
    · have g1 : (c != 0) = true := by simp [hc]
      rw [if_pos (Or.inl hc)]
      refine ⟨c1, c2, .inr ?_⟩
      simp (disch := omega) only [go_sem, and_self, and_true, true_and, false_and, and_false, Nat.reduceAdd, Nat.reduceMul, Nat.reduceSub, Nat.reduceLeDiff, Nat.reduceLT, Nat.reduceGT, Nat.reduceEqDiff, Nat.reduceBEq, Int.reduceNeg, Int.reduceEq, Int.reduceLT, Int.reduceLE, Int.reduceBEq, Int.reduceToNat, Int.toNat_natCast, Int.natCast_zero, r71_C0, h1, hi0, va, vb, enc_w, enc_a, c3, g1, w64]
end Go.Pe.T

namespace Go.Pe.T

theorem items_ok (a b : List Val) (hla : a.length ≤ maxLen)
    (ih : ∀ x ∈ a, ∀ y ∈ b, ∀ left, 0 ≤ left → left ≤ 5000 → -1 ≤ (cmpV x y left).2 ∧ (cmpV x y left).2 ≤ 5000 ∧ F tab 48 [.ptr 0 0, .d x.enc, .d y.enc] [.box [.d (iv left)]] = some (.ret (.d (iv (cmpV x y left).1)) [.box [.d (iv (cmpV x y left).2)]]))
    (left : Int) (h0 : 0 ≤ left) (h5 : left ≤ 5000) :
    -1 ≤ (cmpVs a b left).2 ∧ (cmpVs a b left).2 ≤ 5000 ∧ F tab 71 [.ptr 0 0, .d (.sl (Val.encs a)), .d (.sl (Val.encs b))] [.box [.d (iv left)]] = some (.ret (.d (iv (cmpVs a b left).1)) [.box [.d (iv (cmpVs a b left).2)]]) := by
  obtain ⟨b1, b2, hL⟩ := items_loop a b hla left ih (min a.length b.length) 0 left (by omega) h0 h5
  rw [List.drop_zero, List.drop_zero] at b1 b2 hL
  refine ⟨b1, b2, f71 ?_⟩
  have hs := cmpi_ok a.length b.length
  have hm : (if (b.length : Int) < (a.length : Int) then (b.length : Int) else (a.length : Int)) = ((min a.length b.length : Nat) : Int) := by
    split <;> omega
  simp (disch := omega) only [go_sem, and_self, and_true, true_and, false_and, and_false, Nat.reduceAdd, Nat.reduceMul, Nat.reduceSub, Nat.reduceLeDiff, Nat.reduceLT, Nat.reduceGT, Nat.reduceEqDiff, Nat.reduceBEq, Int.reduceNeg, Int.reduceEq, Int.reduceLT, Int.reduceLE, Int.reduceBEq, Int.reduceToNat, Int.toNat_natCast, Int.natCast_zero, r71_T, r71, encs_len, hm]
  rw [r71_B0_n]
  rcases hL with ⟨hL, e⟩ | hL
  · erw [hL]
    rw [e]
    simp (disch := omega) only [go_sem, and_self, and_true, true_and, false_and, and_false, Nat.reduceAdd, Nat.reduceMul, Nat.reduceSub, Nat.reduceLeDiff, Nat.reduceLT, Nat.reduceGT, Nat.reduceEqDiff, Nat.reduceBEq, Int.reduceNeg, Int.reduceEq, Int.reduceLT, Int.reduceLE, Int.reduceBEq, Int.reduceToNat, Int.toNat_natCast, Int.natCast_zero, encs_len, hs]
  · erw [hL]
    simp (disch := omega) only [go_sem, and_self, and_true, true_and, false_and, and_false, Nat.reduceAdd, Nat.reduceMul, Nat.reduceSub, Nat.reduceLeDiff, Nat.reduceLT, Nat.reduceGT, Nat.reduceEqDiff, Nat.reduceBEq, Int.reduceNeg, Int.reduceEq, Int.reduceLT, Int.reduceLE, Int.reduceBEq, Int.reduceToNat, Int.toNat_natCast, Int.natCast_zero]
theorem cleanN_is (c s : Int) : numIs (cleanN c s).1 (cleanN c s).2 = true ∧ (cleanN c s).2 = ((cleanN c s).2.toNat : Int) := by
  unfold cleanN
  split
  · rename_i h
    obtain ⟨k, e, _⟩ := numIs_inv h
    exact ⟨h, by simp only; omega⟩
  · exact ⟨by decide, rfl⟩

theorem clean_ok2 (c s : Int) (hp : List Ent) : F tab 69 [.d (.agg [iv c, iv s])] hp = some (.ret (.d (.agg [iv (cleanN c s).1, iv (cleanN c s).2])) hp) := by
  have h := clean_ok c s hp
  unfold cleanN
  split at h <;> (rename_i hx; simp only [hx, if_true, if_false, Bool.false_eq_true]; exact h)

theorem numcmp_ok2 (c s c' s' : Int) (hp : List Ent) : F tab 68 [.d (.agg [iv (cleanN c s).1, iv (cleanN c s).2]), .d (.agg [iv (cleanN c' s').1, iv (cleanN c' s').2])] hp = some (.ret (.d (iv (sgn (flatS c s) (flatS c' s')))) hp) := by
  obtain ⟨h1, e1⟩ := cleanN_is c s
  obtain ⟨h2, e2⟩ := cleanN_is c' s'
  rw [e1] at h1
  rw [e2] at h2
  have h := numcmp_ok _ _ _ _ h1 h2 hp
  rw [← e1, ← e2] at h
  exact h

def WalkIs (x y : Val) (left : Int) : Prop :=
    -1 ≤ (cmpV x y left).2 ∧ (cmpV x y left).2 ≤ 5000 ∧ F tab 48 [.ptr 0 0, .d x.enc, .d y.enc] [.box [.d (iv left)]] = some (.ret (.d (iv (cmpV x y left).1)) [.box [.d (iv (cmpV x y left).2)]])

theorem walk_low (k c s t xs ks k' c' s' t' ys ks') (left : Int) (h0 : 0 ≤ left) (h5 : left ≤ 5000) (hl : left - 1 < 0)
    : WalkIs (.mk k c s t xs ks) (.mk k' c' s' t' ys ks') left := by

  refine ⟨by simp only [cmpV, if_pos hl, hl, if_true]; omega, by simp only [cmpV, if_pos hl, hl, if_true]; omega, f48 ?_⟩
  simp (disch := omega) only [go_sem, and_self, and_true, true_and, false_and, and_false, Nat.reduceAdd, Nat.reduceMul, Nat.reduceSub, Nat.reduceLeDiff, Nat.reduceLT, Nat.reduceGT, Nat.reduceEqDiff, Nat.reduceBEq, Int.reduceNeg, Int.reduceEq, Int.reduceLT, Int.reduceLE, Int.reduceBEq, Int.reduceToNat, Int.toNat_natCast, Int.natCast_zero, r48_T, r48, Val.enc, w64, cmpV, if_pos hl, hl, if_true]

theorem walk_rank (k c s t xs ks k' c' s' t' ys ks') (left : Int) (h0 : 0 ≤ left) (h5 : left ≤ 5000) (hl : ¬ (left - 1 < 0)) (hr : sgn (rankOf k) (rankOf k') ≠ 0)
    : WalkIs (.mk k c s t xs ks) (.mk k' c' s' t' ys ks') left := by
  have r1 := rank_ok k
  have r2 := rank_ok k'
  have r3 := cmpi_ok (rankOf k) (rankOf k')
  have g1 : (sgn (rankOf k) (rankOf k') != 0) = true := by simp [hr]
  have g1' : (sgn (rankOf k) (rankOf k') ≠ 0) = True := by simp [hr]

  refine ⟨by simp only [cmpV, hl, g1', if_false, if_true]; omega, by simp only [cmpV, hl, g1', if_false, if_true]; omega, f48 ?_⟩
  simp (disch := omega) only [go_sem, and_self, and_true, true_and, false_and, and_false, Nat.reduceAdd, Nat.reduceMul, Nat.reduceSub, Nat.reduceLeDiff, Nat.reduceLT, Nat.reduceGT, Nat.reduceEqDiff, Nat.reduceBEq, Int.reduceNeg, Int.reduceEq, Int.reduceLT, Int.reduceLE, Int.reduceBEq, Int.reduceToNat, Int.toNat_natCast, Int.natCast_zero, r48_T, r48, Val.enc, w64, cmpV, hl, g1', if_false, if_true, r1, r2, r3, g1]

theorem walk_3 (c s t xs ks k' c' s' t' ys ks') (left : Int) (h0 : 0 ≤ left) (h5 : left ≤ 5000) (hl : ¬ (left - 1 < 0)) (hr : sgn (rankOf 3) (rankOf k') = 0)
    : WalkIs (.mk 3 c s t xs ks) (.mk k' c' s' t' ys ks') left := by
  have r1 := rank_ok 3
  have r2 := rank_ok k'
  have r3 := cmpi_ok (rankOf 3) (rankOf k')
  have g1 : (sgn (rankOf 3) (rankOf k') != 0) = false := by simp [hr]
  have g1' : (sgn (rankOf 3) (rankOf k') ≠ 0) = False := by simp [hr]
  have q1 := clean_ok2 c s
  have q2 := clean_ok2 c' s'
  have q3 := numcmp_ok2 c s c' s'

  refine ⟨by simp only [cmpV, hl, g1', if_false, if_true]; omega, by simp only [cmpV, hl, g1', if_false, if_true]; omega, f48 ?_⟩
  simp (disch := omega) only [go_sem, and_self, and_true, true_and, false_and, and_false, Nat.reduceAdd, Nat.reduceMul, Nat.reduceSub, Nat.reduceLeDiff, Nat.reduceLT, Nat.reduceGT, Nat.reduceEqDiff, Nat.reduceBEq, Int.reduceNeg, Int.reduceEq, Int.reduceLT, Int.reduceLE, Int.reduceBEq, Int.reduceToNat, Int.toNat_natCast, Int.natCast_zero, r48_T, r48, Val.enc, w64, cmpV, hl, g1', if_false, if_true, r1, r2, r3, g1, q1, q2, q3]

theorem walk_4 (c s t xs ks k' c' s' t' ys ks') (left : Int) (h0 : 0 ≤ left) (h5 : left ≤ 5000) (hl : ¬ (left - 1 < 0)) (hr : sgn (rankOf 4) (rankOf k') = 0)
    : WalkIs (.mk 4 c s t xs ks) (.mk k' c' s' t' ys ks') left := by
  have r1 := rank_ok 4
  have r2 := rank_ok k'
  have r3 := cmpi_ok (rankOf 4) (rankOf k')
  have g1 : (sgn (rankOf 4) (rankOf k') != 0) = false := by simp [hr]
  have g1' : (sgn (rankOf 4) (rankOf k') ≠ 0) = False := by simp [hr]
  have p1 := cmps_ok t t'
  have k3 : ((4 : Int) = 3) = False := by simp
  have k4 : ((4 : Int) = 4) = True := by simp

  refine ⟨by simp only [cmpV, hl, g1', if_false, if_true, k3, true_or, or_true]; omega, by simp only [cmpV, hl, g1', if_false, if_true, k3, true_or, or_true]; omega, f48 ?_⟩
  simp (disch := omega) only [go_sem, and_self, and_true, true_and, false_and, and_false, Nat.reduceAdd, Nat.reduceMul, Nat.reduceSub, Nat.reduceLeDiff, Nat.reduceLT, Nat.reduceGT, Nat.reduceEqDiff, Nat.reduceBEq, Int.reduceNeg, Int.reduceEq, Int.reduceLT, Int.reduceLE, Int.reduceBEq, Int.reduceToNat, Int.toNat_natCast, Int.natCast_zero, r48_T, r48, Val.enc, w64, cmpV, hl, g1', if_false, if_true, k3, true_or, or_true, r1, r2, r3, g1, p1, k4]

theorem walk_7 (c s t xs ks k' c' s' t' ys ks') (left : Int) (h0 : 0 ≤ left) (h5 : left ≤ 5000) (hl : ¬ (left - 1 < 0)) (hr : sgn (rankOf 7) (rankOf k') = 0)
    : WalkIs (.mk 7 c s t xs ks) (.mk k' c' s' t' ys ks') left := by
  have r1 := rank_ok 7
  have r2 := rank_ok k'
  have r3 := cmpi_ok (rankOf 7) (rankOf k')
  have g1 : (sgn (rankOf 7) (rankOf k') != 0) = false := by simp [hr]
  have g1' : (sgn (rankOf 7) (rankOf k') ≠ 0) = False := by simp [hr]
  have p1 := cmps_ok t t'
  have k3 : ((7 : Int) = 3) = False := by simp
  have k4 : ((7 : Int) = 7) = True := by simp

  refine ⟨by simp only [cmpV, hl, g1', if_false, if_true, k3, true_or, or_true]; omega, by simp only [cmpV, hl, g1', if_false, if_true, k3, true_or, or_true]; omega, f48 ?_⟩
  simp (disch := omega) only [go_sem, and_self, and_true, true_and, false_and, and_false, Nat.reduceAdd, Nat.reduceMul, Nat.reduceSub, Nat.reduceLeDiff, Nat.reduceLT, Nat.reduceGT, Nat.reduceEqDiff, Nat.reduceBEq, Int.reduceNeg, Int.reduceEq, Int.reduceLT, Int.reduceLE, Int.reduceBEq, Int.reduceToNat, Int.toNat_natCast, Int.natCast_zero, r48_T, r48, Val.enc, w64, cmpV, hl, g1', if_false, if_true, k3, true_or, or_true, r1, r2, r3, g1, p1, k4]

theorem walk_5 (c s t xs ks k' c' s' t' ys ks') (left : Int) (h0 : 0 ≤ left) (h5 : left ≤ 5000) (hl : ¬ (left - 1 < 0)) (hr : sgn (rankOf 5) (rankOf k') = 0) (i1 : -1 ≤ (cmpVs xs ys (left - 1)).2 ∧ (cmpVs xs ys (left - 1)).2 ≤ 5000) (i3 : F tab 71 [.ptr 0 0, .d (.sl (Val.encs xs)), .d (.sl (Val.encs ys))] [.box [.d (iv (left - 1))]] = some (.ret (.d (iv (cmpVs xs ys (left - 1)).1)) [.box [.d (iv (cmpVs xs ys (left - 1)).2)]]))
    : WalkIs (.mk 5 c s t xs ks) (.mk k' c' s' t' ys ks') left := by
  have r1 := rank_ok 5
  have r2 := rank_ok k'
  have r3 := cmpi_ok (rankOf 5) (rankOf k')
  have g1 : (sgn (rankOf 5) (rankOf k') != 0) = false := by simp [hr]
  have g1' : (sgn (rankOf 5) (rankOf k') ≠ 0) = False := by simp [hr]
  have k3 : ((5 : Int) = 3) = False := by simp
  have k4 : ((5 : Int) = 4) = False := by simp
  have k5 : ((5 : Int) = 5) = True := by simp
  have k7 : ((5 : Int) = 7) = False := by simp

  refine ⟨by simp only [cmpV, hl, g1', if_false, if_true, k3, k4, k5, k7, or_self]; omega, by simp only [cmpV, hl, g1', if_false, if_true, k3, k4, k5, k7, or_self]; omega, f48 ?_⟩
  simp (disch := omega) only [go_sem, and_self, and_true, true_and, false_and, and_false, Nat.reduceAdd, Nat.reduceMul, Nat.reduceSub, Nat.reduceLeDiff, Nat.reduceLT, Nat.reduceGT, Nat.reduceEqDiff, Nat.reduceBEq, Int.reduceNeg, Int.reduceEq, Int.reduceLT, Int.reduceLE, Int.reduceBEq, Int.reduceToNat, Int.toNat_natCast, Int.natCast_zero, r48_T, r48, Val.enc, w64, cmpV, hl, g1', if_false, if_true, k3, k4, k5, k7, or_self, r1, r2, r3, g1, i3]

theorem walk_6a (c s t xs ks k' c' s' t' ys ks') (left : Int) (h0 : 0 ≤ left) (h5 : left ≤ 5000) (hl : ¬ (left - 1 < 0)) (hr : sgn (rankOf 6) (rankOf k') = 0) (i1 : -1 ≤ (cmpVs xs ys (left - 1)).2 ∧ (cmpVs xs ys (left - 1)).2 ≤ 5000) (i3 : F tab 71 [.ptr 0 0, .d (.sl (Val.encs xs)), .d (.sl (Val.encs ys))] [.box [.d (iv (left - 1))]] = some (.ret (.d (iv (cmpVs xs ys (left - 1)).1)) [.box [.d (iv (cmpVs xs ys (left - 1)).2)]])) (hks : ks.length ≤ maxLen) (hk : keysC ks ks' = 0)
    : WalkIs (.mk 6 c s t xs ks) (.mk k' c' s' t' ys ks') left := by
  have r1 := rank_ok 6
  have r2 := rank_ok k'
  have r3 := cmpi_ok (rankOf 6) (rankOf k')
  have g1 : (sgn (rankOf 6) (rankOf k') != 0) = false := by simp [hr]
  have g1' : (sgn (rankOf 6) (rankOf k') ≠ 0) = False := by simp [hr]
  have k3 : ((6 : Int) = 3) = False := by simp
  have k4 : ((6 : Int) = 4) = False := by simp
  have k5 : ((6 : Int) = 5) = False := by simp
  have k6 : ((6 : Int) = 6) = True := by simp
  have k7 : ((6 : Int) = 7) = False := by simp
  have p2 := scmp_ok ks ks' hks
  have f1 : (keysC ks ks' != 0) = false := by simp [hk]
  have f1' : (keysC ks ks' ≠ 0) = False := by simp [hk]

  refine ⟨by simp only [cmpV, hl, g1', if_false, if_true, k3, k4, k5, k6, k7, f1', or_self]; omega, by simp only [cmpV, hl, g1', if_false, if_true, k3, k4, k5, k6, k7, f1', or_self]; omega, f48 ?_⟩
  simp (disch := omega) only [go_sem, and_self, and_true, true_and, false_and, and_false, Nat.reduceAdd, Nat.reduceMul, Nat.reduceSub, Nat.reduceLeDiff, Nat.reduceLT, Nat.reduceGT, Nat.reduceEqDiff, Nat.reduceBEq, Int.reduceNeg, Int.reduceEq, Int.reduceLT, Int.reduceLE, Int.reduceBEq, Int.reduceToNat, Int.toNat_natCast, Int.natCast_zero, r48_T, r48, Val.enc, w64, cmpV, hl, g1', if_false, if_true, k3, k4, k5, k6, k7, f1', or_self, r1, r2, r3, g1, i3, p2, f1]

theorem walk_6b (c s t xs ks k' c' s' t' ys ks') (left : Int) (h0 : 0 ≤ left) (h5 : left ≤ 5000) (hl : ¬ (left - 1 < 0)) (hr : sgn (rankOf 6) (rankOf k') = 0) (hks : ks.length ≤ maxLen) (hk : keysC ks ks' ≠ 0)
    : WalkIs (.mk 6 c s t xs ks) (.mk k' c' s' t' ys ks') left := by
  have r1 := rank_ok 6
  have r2 := rank_ok k'
  have r3 := cmpi_ok (rankOf 6) (rankOf k')
  have g1 : (sgn (rankOf 6) (rankOf k') != 0) = false := by simp [hr]
  have g1' : (sgn (rankOf 6) (rankOf k') ≠ 0) = False := by simp [hr]
  have k3 : ((6 : Int) = 3) = False := by simp
  have k4 : ((6 : Int) = 4) = False := by simp
  have k5 : ((6 : Int) = 5) = False := by simp
  have k6 : ((6 : Int) = 6) = True := by simp
  have k7 : ((6 : Int) = 7) = False := by simp
  have p2 := scmp_ok ks ks' hks
  have f1 : (keysC ks ks' != 0) = true := by simp [hk]
  have f1' : (keysC ks ks' ≠ 0) = True := by simp [hk]

  refine ⟨by simp only [cmpV, hl, g1', if_false, if_true, k3, k4, k5, k6, k7, f1', or_self]; omega, by simp only [cmpV, hl, g1', if_false, if_true, k3, k4, k5, k6, k7, f1', or_self]; omega, f48 ?_⟩
  simp (disch := omega) only [go_sem, and_self, and_true, true_and, false_and, and_false, Nat.reduceAdd, Nat.reduceMul, Nat.reduceSub, Nat.reduceLeDiff, Nat.reduceLT, Nat.reduceGT, Nat.reduceEqDiff, Nat.reduceBEq, Int.reduceNeg, Int.reduceEq, Int.reduceLT, Int.reduceLE, Int.reduceBEq, Int.reduceToNat, Int.toNat_natCast, Int.natCast_zero, r48_T, r48, Val.enc, w64, cmpV, hl, g1', if_false, if_true, k3, k4, k5, k6, k7, f1', or_self, r1, r2, r3, g1, p2, f1]

theorem walk_no (k c s t xs ks k' c' s' t' ys ks') (left : Int) (h0 : 0 ≤ left) (h5 : left ≤ 5000) (hl : ¬ (left - 1 < 0)) (hr : sgn (rankOf k) (rankOf k') = 0) (k3 : ¬ k = 3) (k4 : ¬ k = 4) (k5 : ¬ k = 5) (k6 : ¬ k = 6) (k7 : ¬ k = 7)
    : WalkIs (.mk k c s t xs ks) (.mk k' c' s' t' ys ks') left := by
  have r1 := rank_ok k
  have r2 := rank_ok k'
  have r3 := cmpi_ok (rankOf k) (rankOf k')
  have g1 : (sgn (rankOf k) (rankOf k') != 0) = false := by simp [hr]
  have g1' : (sgn (rankOf k) (rankOf k') ≠ 0) = False := by simp [hr]
  have e3 : (k == 3) = false := by simpa using k3
  have e4 : (k == 4) = false := by simpa using k4
  have e5 : (k == 5) = false := by simpa using k5
  have e6 : (k == 6) = false := by simpa using k6
  have e7 : (k == 7) = false := by simpa using k7

  refine ⟨by simp only [cmpV, hl, g1', if_false, if_true, k3, k4, k5, k6, k7, or_self]; omega, by simp only [cmpV, hl, g1', if_false, if_true, k3, k4, k5, k6, k7, or_self]; omega, f48 ?_⟩
  simp (disch := omega) only [go_sem, and_self, and_true, true_and, false_and, and_false, Nat.reduceAdd, Nat.reduceMul, Nat.reduceSub, Nat.reduceLeDiff, Nat.reduceLT, Nat.reduceGT, Nat.reduceEqDiff, Nat.reduceBEq, Int.reduceNeg, Int.reduceEq, Int.reduceLT, Int.reduceLE, Int.reduceBEq, Int.reduceToNat, Int.toNat_natCast, Int.natCast_zero, r48_T, r48, Val.enc, w64, cmpV, hl, g1', if_false, if_true, k3, k4, k5, k6, k7, or_self, r1, r2, r3, g1, e3, e4, e5, e6, e7]

theorem walk_ok : ∀ (x y : Val) (left : Int), x.ok → y.ok → 0 ≤ left → left ≤ 5000 → WalkIs x y left
  | .mk k c s t xs ks, .mk k' c' s' t' ys ks', left, hx, hy, h0, h5 => by
    simp only [Val.ok] at hx hy
    have ih : ∀ x ∈ xs, ∀ y ∈ ys, ∀ left, 0 ≤ left → left ≤ 5000 → WalkIs x y left :=
      fun x hx' y hy' left h0 h5 => walk_ok x y left (oks_mem hx.2.2.2.2.2.2.2 hx') (oks_mem hy.2.2.2.2.2.2.2 hy') h0 h5
    by_cases hl : left - 1 < 0
    · exact walk_low _ _ _ _ _ _ _ _ _ _ _ _ left h0 h5 hl
    · obtain ⟨i1, i2, i3⟩ := items_ok xs ys hx.2.2.2.2.1 ih (left - 1) (by omega) (by omega)
      by_cases hr : sgn (rankOf k) (rankOf k') = 0
      · by_cases k3 : k = 3
        · subst k3; exact walk_3 _ _ _ _ _ _ _ _ _ _ _ left h0 h5 hl hr
        by_cases k4 : k = 4
        · subst k4; exact walk_4 _ _ _ _ _ _ _ _ _ _ _ left h0 h5 hl hr
        by_cases k7 : k = 7
        · subst k7; exact walk_7 _ _ _ _ _ _ _ _ _ _ _ left h0 h5 hl hr
        by_cases k5 : k = 5
        · subst k5; exact walk_5 _ _ _ _ _ _ _ _ _ _ _ left h0 h5 hl hr ⟨i1, i2⟩ i3
        by_cases k6 : k = 6
        · subst k6
          by_cases hk : keysC ks ks' = 0
          · exact walk_6a _ _ _ _ _ _ _ _ _ _ _ left h0 h5 hl hr ⟨i1, i2⟩ i3 hx.2.2.2.2.2.1 hk
          · exact walk_6b _ _ _ _ _ _ _ _ _ _ _ left h0 h5 hl hr hx.2.2.2.2.2.1 hk
        exact walk_no _ _ _ _ _ _ _ _ _ _ _ _ left h0 h5 hl hr k3 k4 k5 k6 k7
      · exact walk_rank _ _ _ _ _ _ _ _ _ _ _ _ left h0 h5 hl hr
end Go.Pe.T

namespace Go.Pe.T
def cmpR (x y : Val) : Int × Bool := if (cmpV x y 4096).2 < 0 then (0, false) else ((cmpV x y 4096).1, true)

theorem enc_as (v : Val) : ∃ k c s t xs ks, v.enc = .agg [iv k, iv c, iv s, .str t, .sl xs, .sl ks] := by
  cases v; exact ⟨_, _, _, _, _, _, rfl⟩

theorem ocmp_ok (x y : Val) (hx : x.ok) (hy : y.ok) (hp : List Ent) : F tab 31 [.d x.enc, .d y.enc] hp = some (.ret (.tup [.d (iv (cmpR x y).1), .d (.bool (cmpR x y).2)]) hp) := by
  obtain ⟨b1, b2, h⟩ := walk_ok x y 4096 hx hy (by omega) (by omega)
  refine f31 rfl ?_
  unfold cmpR
  obtain ⟨k, c, s, t, xs, ks, ex⟩ := enc_as x
  obtain ⟨k', c', s', t', ys, ks', ey⟩ := enc_as y
  rw [ex, ey] at h ⊢
  by_cases hl : (cmpV x y 4096).2 < 0
  · simp (disch := omega) only [go_sem, and_self, and_true, true_and, false_and, and_false, Nat.reduceAdd, Nat.reduceMul, Nat.reduceSub, Nat.reduceLeDiff, Nat.reduceLT, Nat.reduceGT, Nat.reduceEqDiff, Nat.reduceBEq, Int.reduceNeg, Int.reduceEq, Int.reduceLT, Int.reduceLE, Int.reduceBEq, Int.reduceToNat, Int.toNat_natCast, Int.natCast_zero, r31_T, r31, enc_w, enc_a, h, hl]
  · simp (disch := omega) only [go_sem, and_self, and_true, true_and, false_and, and_false, Nat.reduceAdd, Nat.reduceMul, Nat.reduceSub, Nat.reduceLeDiff, Nat.reduceLT, Nat.reduceGT, Nat.reduceEqDiff, Nat.reduceBEq, Int.reduceNeg, Int.reduceEq, Int.reduceLT, Int.reduceLE, Int.reduceBEq, Int.reduceToNat, Int.toNat_natCast, Int.natCast_zero, r31_T, r31, enc_w, enc_a, h, hl]

end Go.Pe.T

namespace Go.Pe.T
theorem sgn_swap (a b : Int) : sgn b a = -sgn a b := by
  unfold sgn; split <;> split <;> (try split) <;> (try split) <;> omega

theorem sgn_zero' {a b : Int} : sgn a b = 0 ↔ a = b := by
  unfold sgn; split
  · omega
  · split <;> omega
theorem rank_inj {k k' : Int} (h : rankOf k = rankOf k') {m : Int} (a : 0 ≤ m) (b : m ≤ 7) : k = m ↔ k' = m := by
  unfold rankOf at h
  split at h <;> split at h <;> (try split at h) <;> (try split at h) <;> omega

theorem mism_swap : ∀ (a b : List UInt8), mism b a = (mism a b).map (fun c => -c)
  | [], [] => rfl
  | [], _ :: _ => rfl
  | _ :: _, [] => rfl
  | x :: a, y :: b => by
    have ih := mism_swap a b
    simp only [mism] at ih ⊢
    by_cases h : x = y
    · subst h
      simp only [if_true]
      exact ih
    · have h' : ¬ y = x := fun e => h e.symm
      simp only [h, h', if_false, Option.map_some, Option.some.injEq]
      exact sgn_swap _ _

theorem txt_swap (a b : ByteArray) : txt b a = -txt a b := by
  unfold txt txtL
  rw [mism_swap]
  cases mism a.data.toList b.data.toList with
  | none => simp only [Option.map_none, Option.getD_none]; exact sgn_swap _ _
  | some c => rfl

theorem keysO_swap : ∀ (a b : List ByteArray), keysO b a = (keysO a b).map (fun c => -c)
  | [], [] => rfl
  | [], _ :: _ => rfl
  | _ :: _, [] => rfl
  | x :: a, y :: b => by
    have ih := keysO_swap a b
    have ht := txt_swap x y
    simp only [keysO] at ih ⊢
    by_cases h : txt x y = 0
    · have h' : txt y x = 0 := by rw [ht, h]; rfl
      simp only [h, h', if_true]
      exact ih
    · have h' : ¬ txt y x = 0 := by rw [ht]; omega
      have h'' : ¬ -txt x y = 0 := by omega
      simp only [h, h', h'', if_false, Option.map_some, ht]

theorem keysC_swap (a b : List ByteArray) : keysC b a = -keysC a b := by
  unfold keysC
  rw [keysO_swap]
  cases keysO a b with
  | none => simp only [Option.map_none, Option.getD_none]; exact sgn_swap _ _
  | some c => rfl

mutual
theorem cmpV_swap : ∀ (x y : Val) (left : Int), cmpV y x left = (-(cmpV x y left).1, (cmpV x y left).2)
  | .mk k c s t xs ks, .mk k' c' s' t' ys ks', left => by
    have ih := cmpVs_swap xs ys (left - 1)
    simp only [cmpV]
    by_cases h1 : left - 1 < 0
    · simp only [h1, if_true]; rfl
    · simp only [h1, if_false]
      have e := sgn_swap (rankOf k) (rankOf k')
      by_cases h2 : sgn (rankOf k) (rankOf k') = 0
      · have h2' : sgn (rankOf k') (rankOf k) = 0 := by rw [e, h2]; rfl
        have hr : rankOf k = rankOf k' := sgn_zero'.1 h2
        simp only [h2, h2', ne_eq, not_true, if_false]
        have q : ∀ m : Int, 0 ≤ m → m ≤ 7 → (k = m ↔ k' = m) := fun m a b => rank_inj hr a b
        by_cases h3 : k = 3
        · have h3' := (q 3 (by omega) (by omega)).1 h3
          simp only [h3, h3', if_true, sgn_swap (flatS c s) (flatS c' s')]
        · have h3' : ¬ k' = 3 := fun g => h3 ((q 3 (by omega) (by omega)).2 g)
          simp only [h3, h3', if_false]
          by_cases h4 : k = 4 ∨ k = 7
          · have h4' : k' = 4 ∨ k' = 7 := h4.elim (fun g => .inl ((q 4 (by omega) (by omega)).1 g)) (fun g => .inr ((q 7 (by omega) (by omega)).1 g))
            simp only [h4, h4', if_true, txt_swap t t']
          · have h4' : ¬ (k' = 4 ∨ k' = 7) := fun g => h4 (g.elim (fun g => .inl ((q 4 (by omega) (by omega)).2 g)) (fun g => .inr ((q 7 (by omega) (by omega)).2 g)))
            simp only [h4, h4', if_false]
            by_cases h5 : k = 5
            · have h5' := (q 5 (by omega) (by omega)).1 h5
              simp only [h5, h5', if_true, ih]
            · have h5' : ¬ k' = 5 := fun g => h5 ((q 5 (by omega) (by omega)).2 g)
              simp only [h5, h5', if_false]
              by_cases h6 : k = 6
              · have h6' := (q 6 (by omega) (by omega)).1 h6
                have ek := keysC_swap ks ks'
                simp only [h6, h6', if_true]
                by_cases h7 : keysC ks ks' = 0
                · have h7' : keysC ks' ks = 0 := by rw [ek, h7]; rfl
                  simp only [h7, h7', ne_eq, not_true, if_false, ih]
                · have h7' : ¬ keysC ks' ks = 0 := by rw [ek]; omega
                  have h7'' : ¬ -keysC ks ks' = 0 := by omega
                  simp only [h7, h7', h7'', ne_eq, not_false_eq_true, if_true, ek]
              · have h6' : ¬ k' = 6 := fun g => h6 ((q 6 (by omega) (by omega)).2 g)
                simp only [h6, h6', if_false]
                rfl
      · have h2' : ¬ sgn (rankOf k') (rankOf k) = 0 := by rw [e]; omega
        have h2'' : ¬ -sgn (rankOf k) (rankOf k') = 0 := by omega
        simp only [h2, h2', h2'', ne_eq, not_false_eq_true, if_true, e]
theorem cmpVs_swap : ∀ (a b : List Val) (left : Int), cmpVs b a left = (-(cmpVs a b left).1, (cmpVs a b left).2)
  | [], [], left => by simp [cmpVs, sgn]
  | [], _ :: b, left => by simp only [cmpVs]; rw [sgn_swap]
  | _ :: a, [], left => by simp only [cmpVs]; rw [sgn_swap]
  | x :: a, y :: b, left => by
    have i1 := cmpV_swap x y left
    have i2 := cmpVs_swap a b (cmpV x y left).2
    simp only [cmpVs, i1]
    by_cases h : (cmpV x y left).1 ≠ 0 ∨ (cmpV x y left).2 < 0
    · have h' : -(cmpV x y left).1 ≠ 0 ∨ (cmpV x y left).2 < 0 := h.elim (fun g => .inl (by omega)) .inr
      simp only [h, h', if_true]
    · have h' : ¬ (-(cmpV x y left).1 ≠ 0 ∨ (cmpV x y left).2 < 0) := fun g => h (g.elim (fun g => .inl (by omega)) .inr)
      simp only [h, h', if_false, i2]
end

theorem cmpR_swap (x y : Val) : cmpR y x = (-(cmpR x y).1, (cmpR x y).2) := by
  unfold cmpR
  rw [cmpV_swap x y]
  by_cases h : (cmpV x y 4096).2 < 0 <;> simp [h]
end Go.Pe.T

namespace Go.Pe.T
theorem isE (s : ByteArray) : (s.toList == (⟨#[]⟩ : ByteArray).toList) = !decide (s.size ≠ 0) := by
  rw [bs_toList, bs_toList]
  by_cases h : s.size = 0
  · have : bs s = [] := List.eq_nil_of_length_eq_zero (by rw [bs_len]; exact h)
    rw [this]
    simp [h, bs]
  · have : bs s ≠ [] := fun e => h (by rw [← bs_len, e]; rfl)
    rw [beq_eq_false_iff_ne.2 (by simpa [bs] using this)]
    simp [h]
def ZeroEx (k c s : Int) (t : ByteArray) (xs ks : List D) : Prop :=
  ∃ b, (∀ hp, F tab 28 [.d (.agg [iv k, iv c, iv s, .str t, .sl xs, .sl ks])] hp = some (.ret (.d (.bool b)) hp)) ∧ (b = true → k = 0 → c = 0 ∧ s = 0 ∧ t.size = 0 ∧ xs.length = 0 ∧ ks.length = 0)

theorem z_k3_t (k c s : Int) (t : ByteArray) (xs ks : List D) (h0 : k = 3) (h1 : t.size ≠ 0) : ZeroEx k c s t xs ks := by
  have f0 : (k != 3) = false := by rw [bne_eq_false_iff_eq]; omega
  have f1 : (k != 4) = true := by rw [bne_iff_ne]; omega
  have f2 : (k != 7) = true := by rw [bne_iff_ne]; omega
  have f3 : (k == 5) = false := by rw [beq_eq_false_iff_ne]; omega
  have f4 : (k == 6) = false := by rw [beq_eq_false_iff_ne]; omega
  have f5 : decide (t.size ≠ 0) = true := by exact decide_eq_true (by omega)
  refine ⟨false, fun hp => f28 rfl ?_, fun h => absurd h (by simp)⟩
  simp (disch := omega) only [go_sem, and_self, and_true, true_and, false_and, and_false, Nat.reduceAdd, Nat.reduceMul, Nat.reduceSub, Nat.reduceLeDiff, Nat.reduceLT, Nat.reduceGT, Nat.reduceEqDiff, Nat.reduceBEq, Int.reduceNeg, Int.reduceEq, Int.reduceLT, Int.reduceLE, Int.reduceBEq, Int.reduceToNat, Int.toNat_natCast, Int.natCast_zero, strD, isE, Bool.not_not, r28_T, r28, f0, f1, f2, f3, f4, f5]
theorem z_k3_a (k c s : Int) (t : ByteArray) (xs ks : List D) (h0 : k = 3) (h1 : t.size = 0) (h2 : xs.length = 0) (h3 : ks.length = 0) : ZeroEx k c s t xs ks := by
  have f0 : (k != 3) = false := by rw [bne_eq_false_iff_eq]; omega
  have f1 : (k != 4) = true := by rw [bne_iff_ne]; omega
  have f2 : (k != 7) = true := by rw [bne_iff_ne]; omega
  have f3 : (k == 5) = false := by rw [beq_eq_false_iff_ne]; omega
  have f4 : (k == 6) = false := by rw [beq_eq_false_iff_ne]; omega
  have f5 : decide (t.size ≠ 0) = false := by exact decide_eq_false (by omega)
  have f6 : ((xs.length : Int) == 0) = true := by rw [beq_iff_eq]; omega
  have f7 : ((ks.length : Int) == 0) = true := by rw [beq_iff_eq]; omega
  refine ⟨true, fun hp => f28 rfl ?_, fun _ hk => by omega⟩
  simp (disch := omega) only [go_sem, and_self, and_true, true_and, false_and, and_false, Nat.reduceAdd, Nat.reduceMul, Nat.reduceSub, Nat.reduceLeDiff, Nat.reduceLT, Nat.reduceGT, Nat.reduceEqDiff, Nat.reduceBEq, Int.reduceNeg, Int.reduceEq, Int.reduceLT, Int.reduceLE, Int.reduceBEq, Int.reduceToNat, Int.toNat_natCast, Int.natCast_zero, strD, isE, Bool.not_not, r28_T, r28, f0, f1, f2, f3, f4, f5, f6, f7]
theorem z_k3_b (k c s : Int) (t : ByteArray) (xs ks : List D) (h0 : k = 3) (h1 : t.size = 0) (h2 : xs.length = 0) (h3 : ks.length ≠ 0) : ZeroEx k c s t xs ks := by
  have f0 : (k != 3) = false := by rw [bne_eq_false_iff_eq]; omega
  have f1 : (k != 4) = true := by rw [bne_iff_ne]; omega
  have f2 : (k != 7) = true := by rw [bne_iff_ne]; omega
  have f3 : (k == 5) = false := by rw [beq_eq_false_iff_ne]; omega
  have f4 : (k == 6) = false := by rw [beq_eq_false_iff_ne]; omega
  have f5 : decide (t.size ≠ 0) = false := by exact decide_eq_false (by omega)
  have f6 : ((xs.length : Int) == 0) = true := by rw [beq_iff_eq]; omega
  have f7 : ((ks.length : Int) == 0) = false := by rw [beq_eq_false_iff_ne]; omega
  refine ⟨false, fun hp => f28 rfl ?_, fun h => absurd h (by simp)⟩
  simp (disch := omega) only [go_sem, and_self, and_true, true_and, false_and, and_false, Nat.reduceAdd, Nat.reduceMul, Nat.reduceSub, Nat.reduceLeDiff, Nat.reduceLT, Nat.reduceGT, Nat.reduceEqDiff, Nat.reduceBEq, Int.reduceNeg, Int.reduceEq, Int.reduceLT, Int.reduceLE, Int.reduceBEq, Int.reduceToNat, Int.toNat_natCast, Int.natCast_zero, strD, isE, Bool.not_not, r28_T, r28, f0, f1, f2, f3, f4, f5, f6, f7]
theorem z_k3_c (k c s : Int) (t : ByteArray) (xs ks : List D) (h0 : k = 3) (h1 : t.size = 0) (h2 : xs.length ≠ 0) : ZeroEx k c s t xs ks := by
  have f0 : (k != 3) = false := by rw [bne_eq_false_iff_eq]; omega
  have f1 : (k != 4) = true := by rw [bne_iff_ne]; omega
  have f2 : (k != 7) = true := by rw [bne_iff_ne]; omega
  have f3 : (k == 5) = false := by rw [beq_eq_false_iff_ne]; omega
  have f4 : (k == 6) = false := by rw [beq_eq_false_iff_ne]; omega
  have f5 : decide (t.size ≠ 0) = false := by exact decide_eq_false (by omega)
  have f6 : ((xs.length : Int) == 0) = false := by rw [beq_eq_false_iff_ne]; omega
  refine ⟨false, fun hp => f28 rfl ?_, fun h => absurd h (by simp)⟩
  simp (disch := omega) only [go_sem, and_self, and_true, true_and, false_and, and_false, Nat.reduceAdd, Nat.reduceMul, Nat.reduceSub, Nat.reduceLeDiff, Nat.reduceLT, Nat.reduceGT, Nat.reduceEqDiff, Nat.reduceBEq, Int.reduceNeg, Int.reduceEq, Int.reduceLT, Int.reduceLE, Int.reduceBEq, Int.reduceToNat, Int.toNat_natCast, Int.natCast_zero, strD, isE, Bool.not_not, r28_T, r28, f0, f1, f2, f3, f4, f5, f6]
theorem z_k4_cc (k c s : Int) (t : ByteArray) (xs ks : List D) (h0 : k = 4) (h1 : c ≠ 0) : ZeroEx k c s t xs ks := by
  have f0 : (k != 3) = true := by rw [bne_iff_ne]; omega
  have f1 : (k != 4) = false := by rw [bne_eq_false_iff_eq]; omega
  have f2 : (k != 7) = true := by rw [bne_iff_ne]; omega
  have f3 : (k == 5) = false := by rw [beq_eq_false_iff_ne]; omega
  have f4 : (k == 6) = false := by rw [beq_eq_false_iff_ne]; omega
  have f5 : (c != 0) = true := by rw [bne_iff_ne]; omega
  refine ⟨false, fun hp => f28 rfl ?_, fun h => absurd h (by simp)⟩
  simp (disch := omega) only [go_sem, and_self, and_true, true_and, false_and, and_false, Nat.reduceAdd, Nat.reduceMul, Nat.reduceSub, Nat.reduceLeDiff, Nat.reduceLT, Nat.reduceGT, Nat.reduceEqDiff, Nat.reduceBEq, Int.reduceNeg, Int.reduceEq, Int.reduceLT, Int.reduceLE, Int.reduceBEq, Int.reduceToNat, Int.toNat_natCast, Int.natCast_zero, strD, isE, Bool.not_not, r28_T, r28, f0, f1, f2, f3, f4, f5]
theorem z_k4_s (k c s : Int) (t : ByteArray) (xs ks : List D) (h0 : k = 4) (h1 : c = 0) (h2 : s ≠ 0) : ZeroEx k c s t xs ks := by
  have f0 : (k != 3) = true := by rw [bne_iff_ne]; omega
  have f1 : (k != 4) = false := by rw [bne_eq_false_iff_eq]; omega
  have f2 : (k != 7) = true := by rw [bne_iff_ne]; omega
  have f3 : (k == 5) = false := by rw [beq_eq_false_iff_ne]; omega
  have f4 : (k == 6) = false := by rw [beq_eq_false_iff_ne]; omega
  have f5 : (c != 0) = false := by rw [bne_eq_false_iff_eq]; omega
  have f6 : (s != 0) = true := by rw [bne_iff_ne]; omega
  refine ⟨false, fun hp => f28 rfl ?_, fun h => absurd h (by simp)⟩
  simp (disch := omega) only [go_sem, and_self, and_true, true_and, false_and, and_false, Nat.reduceAdd, Nat.reduceMul, Nat.reduceSub, Nat.reduceLeDiff, Nat.reduceLT, Nat.reduceGT, Nat.reduceEqDiff, Nat.reduceBEq, Int.reduceNeg, Int.reduceEq, Int.reduceLT, Int.reduceLE, Int.reduceBEq, Int.reduceToNat, Int.toNat_natCast, Int.natCast_zero, strD, isE, Bool.not_not, r28_T, r28, f0, f1, f2, f3, f4, f5, f6]
theorem z_k4_a (k c s : Int) (t : ByteArray) (xs ks : List D) (h0 : k = 4) (h1 : c = 0) (h2 : s = 0) (h3 : xs.length = 0) (h4 : ks.length = 0) : ZeroEx k c s t xs ks := by
  have f0 : (k != 3) = true := by rw [bne_iff_ne]; omega
  have f1 : (k != 4) = false := by rw [bne_eq_false_iff_eq]; omega
  have f2 : (k != 7) = true := by rw [bne_iff_ne]; omega
  have f3 : (k == 5) = false := by rw [beq_eq_false_iff_ne]; omega
  have f4 : (k == 6) = false := by rw [beq_eq_false_iff_ne]; omega
  have f5 : (c != 0) = false := by rw [bne_eq_false_iff_eq]; omega
  have f6 : (s != 0) = false := by rw [bne_eq_false_iff_eq]; omega
  have f7 : ((xs.length : Int) == 0) = true := by rw [beq_iff_eq]; omega
  have f8 : ((ks.length : Int) == 0) = true := by rw [beq_iff_eq]; omega
  refine ⟨true, fun hp => f28 rfl ?_, fun _ hk => by omega⟩
  simp (disch := omega) only [go_sem, and_self, and_true, true_and, false_and, and_false, Nat.reduceAdd, Nat.reduceMul, Nat.reduceSub, Nat.reduceLeDiff, Nat.reduceLT, Nat.reduceGT, Nat.reduceEqDiff, Nat.reduceBEq, Int.reduceNeg, Int.reduceEq, Int.reduceLT, Int.reduceLE, Int.reduceBEq, Int.reduceToNat, Int.toNat_natCast, Int.natCast_zero, strD, isE, Bool.not_not, r28_T, r28, f0, f1, f2, f3, f4, f5, f6, f7, f8]
theorem z_k4_b (k c s : Int) (t : ByteArray) (xs ks : List D) (h0 : k = 4) (h1 : c = 0) (h2 : s = 0) (h3 : xs.length = 0) (h4 : ks.length ≠ 0) : ZeroEx k c s t xs ks := by
  have f0 : (k != 3) = true := by rw [bne_iff_ne]; omega
  have f1 : (k != 4) = false := by rw [bne_eq_false_iff_eq]; omega
  have f2 : (k != 7) = true := by rw [bne_iff_ne]; omega
  have f3 : (k == 5) = false := by rw [beq_eq_false_iff_ne]; omega
  have f4 : (k == 6) = false := by rw [beq_eq_false_iff_ne]; omega
  have f5 : (c != 0) = false := by rw [bne_eq_false_iff_eq]; omega
  have f6 : (s != 0) = false := by rw [bne_eq_false_iff_eq]; omega
  have f7 : ((xs.length : Int) == 0) = true := by rw [beq_iff_eq]; omega
  have f8 : ((ks.length : Int) == 0) = false := by rw [beq_eq_false_iff_ne]; omega
  refine ⟨false, fun hp => f28 rfl ?_, fun h => absurd h (by simp)⟩
  simp (disch := omega) only [go_sem, and_self, and_true, true_and, false_and, and_false, Nat.reduceAdd, Nat.reduceMul, Nat.reduceSub, Nat.reduceLeDiff, Nat.reduceLT, Nat.reduceGT, Nat.reduceEqDiff, Nat.reduceBEq, Int.reduceNeg, Int.reduceEq, Int.reduceLT, Int.reduceLE, Int.reduceBEq, Int.reduceToNat, Int.toNat_natCast, Int.natCast_zero, strD, isE, Bool.not_not, r28_T, r28, f0, f1, f2, f3, f4, f5, f6, f7, f8]
theorem z_k4_c (k c s : Int) (t : ByteArray) (xs ks : List D) (h0 : k = 4) (h1 : c = 0) (h2 : s = 0) (h3 : xs.length ≠ 0) : ZeroEx k c s t xs ks := by
  have f0 : (k != 3) = true := by rw [bne_iff_ne]; omega
  have f1 : (k != 4) = false := by rw [bne_eq_false_iff_eq]; omega
  have f2 : (k != 7) = true := by rw [bne_iff_ne]; omega
  have f3 : (k == 5) = false := by rw [beq_eq_false_iff_ne]; omega
  have f4 : (k == 6) = false := by rw [beq_eq_false_iff_ne]; omega
  have f5 : (c != 0) = false := by rw [bne_eq_false_iff_eq]; omega
  have f6 : (s != 0) = false := by rw [bne_eq_false_iff_eq]; omega
  have f7 : ((xs.length : Int) == 0) = false := by rw [beq_eq_false_iff_ne]; omega
  refine ⟨false, fun hp => f28 rfl ?_, fun h => absurd h (by simp)⟩
  simp (disch := omega) only [go_sem, and_self, and_true, true_and, false_and, and_false, Nat.reduceAdd, Nat.reduceMul, Nat.reduceSub, Nat.reduceLeDiff, Nat.reduceLT, Nat.reduceGT, Nat.reduceEqDiff, Nat.reduceBEq, Int.reduceNeg, Int.reduceEq, Int.reduceLT, Int.reduceLE, Int.reduceBEq, Int.reduceToNat, Int.toNat_natCast, Int.natCast_zero, strD, isE, Bool.not_not, r28_T, r28, f0, f1, f2, f3, f4, f5, f6, f7]
theorem z_k7_cc (k c s : Int) (t : ByteArray) (xs ks : List D) (h0 : k = 7) (h1 : c ≠ 0) : ZeroEx k c s t xs ks := by
  have f0 : (k != 3) = true := by rw [bne_iff_ne]; omega
  have f1 : (k != 4) = true := by rw [bne_iff_ne]; omega
  have f2 : (k != 7) = false := by rw [bne_eq_false_iff_eq]; omega
  have f3 : (k == 5) = false := by rw [beq_eq_false_iff_ne]; omega
  have f4 : (k == 6) = false := by rw [beq_eq_false_iff_ne]; omega
  have f5 : (c != 0) = true := by rw [bne_iff_ne]; omega
  refine ⟨false, fun hp => f28 rfl ?_, fun h => absurd h (by simp)⟩
  simp (disch := omega) only [go_sem, and_self, and_true, true_and, false_and, and_false, Nat.reduceAdd, Nat.reduceMul, Nat.reduceSub, Nat.reduceLeDiff, Nat.reduceLT, Nat.reduceGT, Nat.reduceEqDiff, Nat.reduceBEq, Int.reduceNeg, Int.reduceEq, Int.reduceLT, Int.reduceLE, Int.reduceBEq, Int.reduceToNat, Int.toNat_natCast, Int.natCast_zero, strD, isE, Bool.not_not, r28_T, r28, f0, f1, f2, f3, f4, f5]
theorem z_k7_s (k c s : Int) (t : ByteArray) (xs ks : List D) (h0 : k = 7) (h1 : c = 0) (h2 : s ≠ 0) : ZeroEx k c s t xs ks := by
  have f0 : (k != 3) = true := by rw [bne_iff_ne]; omega
  have f1 : (k != 4) = true := by rw [bne_iff_ne]; omega
  have f2 : (k != 7) = false := by rw [bne_eq_false_iff_eq]; omega
  have f3 : (k == 5) = false := by rw [beq_eq_false_iff_ne]; omega
  have f4 : (k == 6) = false := by rw [beq_eq_false_iff_ne]; omega
  have f5 : (c != 0) = false := by rw [bne_eq_false_iff_eq]; omega
  have f6 : (s != 0) = true := by rw [bne_iff_ne]; omega
  refine ⟨false, fun hp => f28 rfl ?_, fun h => absurd h (by simp)⟩
  simp (disch := omega) only [go_sem, and_self, and_true, true_and, false_and, and_false, Nat.reduceAdd, Nat.reduceMul, Nat.reduceSub, Nat.reduceLeDiff, Nat.reduceLT, Nat.reduceGT, Nat.reduceEqDiff, Nat.reduceBEq, Int.reduceNeg, Int.reduceEq, Int.reduceLT, Int.reduceLE, Int.reduceBEq, Int.reduceToNat, Int.toNat_natCast, Int.natCast_zero, strD, isE, Bool.not_not, r28_T, r28, f0, f1, f2, f3, f4, f5, f6]
theorem z_k7_a (k c s : Int) (t : ByteArray) (xs ks : List D) (h0 : k = 7) (h1 : c = 0) (h2 : s = 0) (h3 : xs.length = 0) (h4 : ks.length = 0) : ZeroEx k c s t xs ks := by
  have f0 : (k != 3) = true := by rw [bne_iff_ne]; omega
  have f1 : (k != 4) = true := by rw [bne_iff_ne]; omega
  have f2 : (k != 7) = false := by rw [bne_eq_false_iff_eq]; omega
  have f3 : (k == 5) = false := by rw [beq_eq_false_iff_ne]; omega
  have f4 : (k == 6) = false := by rw [beq_eq_false_iff_ne]; omega
  have f5 : (c != 0) = false := by rw [bne_eq_false_iff_eq]; omega
  have f6 : (s != 0) = false := by rw [bne_eq_false_iff_eq]; omega
  have f7 : ((xs.length : Int) == 0) = true := by rw [beq_iff_eq]; omega
  have f8 : ((ks.length : Int) == 0) = true := by rw [beq_iff_eq]; omega
  refine ⟨true, fun hp => f28 rfl ?_, fun _ hk => by omega⟩
  simp (disch := omega) only [go_sem, and_self, and_true, true_and, false_and, and_false, Nat.reduceAdd, Nat.reduceMul, Nat.reduceSub, Nat.reduceLeDiff, Nat.reduceLT, Nat.reduceGT, Nat.reduceEqDiff, Nat.reduceBEq, Int.reduceNeg, Int.reduceEq, Int.reduceLT, Int.reduceLE, Int.reduceBEq, Int.reduceToNat, Int.toNat_natCast, Int.natCast_zero, strD, isE, Bool.not_not, r28_T, r28, f0, f1, f2, f3, f4, f5, f6, f7, f8]
theorem z_k7_b (k c s : Int) (t : ByteArray) (xs ks : List D) (h0 : k = 7) (h1 : c = 0) (h2 : s = 0) (h3 : xs.length = 0) (h4 : ks.length ≠ 0) : ZeroEx k c s t xs ks := by
  have f0 : (k != 3) = true := by rw [bne_iff_ne]; omega
  have f1 : (k != 4) = true := by rw [bne_iff_ne]; omega
  have f2 : (k != 7) = false := by rw [bne_eq_false_iff_eq]; omega
  have f3 : (k == 5) = false := by rw [beq_eq_false_iff_ne]; omega
  have f4 : (k == 6) = false := by rw [beq_eq_false_iff_ne]; omega
  have f5 : (c != 0) = false := by rw [bne_eq_false_iff_eq]; omega
  have f6 : (s != 0) = false := by rw [bne_eq_false_iff_eq]; omega
  have f7 : ((xs.length : Int) == 0) = true := by rw [beq_iff_eq]; omega
  have f8 : ((ks.length : Int) == 0) = false := by rw [beq_eq_false_iff_ne]; omega
  refine ⟨false, fun hp => f28 rfl ?_, fun h => absurd h (by simp)⟩
  simp (disch := omega) only [go_sem, and_self, and_true, true_and, false_and, and_false, Nat.reduceAdd, Nat.reduceMul, Nat.reduceSub, Nat.reduceLeDiff, Nat.reduceLT, Nat.reduceGT, Nat.reduceEqDiff, Nat.reduceBEq, Int.reduceNeg, Int.reduceEq, Int.reduceLT, Int.reduceLE, Int.reduceBEq, Int.reduceToNat, Int.toNat_natCast, Int.natCast_zero, strD, isE, Bool.not_not, r28_T, r28, f0, f1, f2, f3, f4, f5, f6, f7, f8]
theorem z_k7_c (k c s : Int) (t : ByteArray) (xs ks : List D) (h0 : k = 7) (h1 : c = 0) (h2 : s = 0) (h3 : xs.length ≠ 0) : ZeroEx k c s t xs ks := by
  have f0 : (k != 3) = true := by rw [bne_iff_ne]; omega
  have f1 : (k != 4) = true := by rw [bne_iff_ne]; omega
  have f2 : (k != 7) = false := by rw [bne_eq_false_iff_eq]; omega
  have f3 : (k == 5) = false := by rw [beq_eq_false_iff_ne]; omega
  have f4 : (k == 6) = false := by rw [beq_eq_false_iff_ne]; omega
  have f5 : (c != 0) = false := by rw [bne_eq_false_iff_eq]; omega
  have f6 : (s != 0) = false := by rw [bne_eq_false_iff_eq]; omega
  have f7 : ((xs.length : Int) == 0) = false := by rw [beq_eq_false_iff_ne]; omega
  refine ⟨false, fun hp => f28 rfl ?_, fun h => absurd h (by simp)⟩
  simp (disch := omega) only [go_sem, and_self, and_true, true_and, false_and, and_false, Nat.reduceAdd, Nat.reduceMul, Nat.reduceSub, Nat.reduceLeDiff, Nat.reduceLT, Nat.reduceGT, Nat.reduceEqDiff, Nat.reduceBEq, Int.reduceNeg, Int.reduceEq, Int.reduceLT, Int.reduceLE, Int.reduceBEq, Int.reduceToNat, Int.toNat_natCast, Int.natCast_zero, strD, isE, Bool.not_not, r28_T, r28, f0, f1, f2, f3, f4, f5, f6, f7]
theorem z_k5_cc (k c s : Int) (t : ByteArray) (xs ks : List D) (h0 : k = 5) (h1 : c ≠ 0) : ZeroEx k c s t xs ks := by
  have f0 : (k != 3) = true := by rw [bne_iff_ne]; omega
  have f1 : (k != 4) = true := by rw [bne_iff_ne]; omega
  have f2 : (k != 7) = true := by rw [bne_iff_ne]; omega
  have f3 : (k == 5) = true := by rw [beq_iff_eq]; omega
  have f4 : (k == 6) = false := by rw [beq_eq_false_iff_ne]; omega
  have f5 : (c != 0) = true := by rw [bne_iff_ne]; omega
  refine ⟨false, fun hp => f28 rfl ?_, fun h => absurd h (by simp)⟩
  simp (disch := omega) only [go_sem, and_self, and_true, true_and, false_and, and_false, Nat.reduceAdd, Nat.reduceMul, Nat.reduceSub, Nat.reduceLeDiff, Nat.reduceLT, Nat.reduceGT, Nat.reduceEqDiff, Nat.reduceBEq, Int.reduceNeg, Int.reduceEq, Int.reduceLT, Int.reduceLE, Int.reduceBEq, Int.reduceToNat, Int.toNat_natCast, Int.natCast_zero, strD, isE, Bool.not_not, r28_T, r28, f0, f1, f2, f3, f4, f5]
theorem z_k5_s (k c s : Int) (t : ByteArray) (xs ks : List D) (h0 : k = 5) (h1 : c = 0) (h2 : s ≠ 0) : ZeroEx k c s t xs ks := by
  have f0 : (k != 3) = true := by rw [bne_iff_ne]; omega
  have f1 : (k != 4) = true := by rw [bne_iff_ne]; omega
  have f2 : (k != 7) = true := by rw [bne_iff_ne]; omega
  have f3 : (k == 5) = true := by rw [beq_iff_eq]; omega
  have f4 : (k == 6) = false := by rw [beq_eq_false_iff_ne]; omega
  have f5 : (c != 0) = false := by rw [bne_eq_false_iff_eq]; omega
  have f6 : (s != 0) = true := by rw [bne_iff_ne]; omega
  refine ⟨false, fun hp => f28 rfl ?_, fun h => absurd h (by simp)⟩
  simp (disch := omega) only [go_sem, and_self, and_true, true_and, false_and, and_false, Nat.reduceAdd, Nat.reduceMul, Nat.reduceSub, Nat.reduceLeDiff, Nat.reduceLT, Nat.reduceGT, Nat.reduceEqDiff, Nat.reduceBEq, Int.reduceNeg, Int.reduceEq, Int.reduceLT, Int.reduceLE, Int.reduceBEq, Int.reduceToNat, Int.toNat_natCast, Int.natCast_zero, strD, isE, Bool.not_not, r28_T, r28, f0, f1, f2, f3, f4, f5, f6]
theorem z_k5_t (k c s : Int) (t : ByteArray) (xs ks : List D) (h0 : k = 5) (h1 : c = 0) (h2 : s = 0) (h3 : t.size ≠ 0) : ZeroEx k c s t xs ks := by
  have f0 : (k != 3) = true := by rw [bne_iff_ne]; omega
  have f1 : (k != 4) = true := by rw [bne_iff_ne]; omega
  have f2 : (k != 7) = true := by rw [bne_iff_ne]; omega
  have f3 : (k == 5) = true := by rw [beq_iff_eq]; omega
  have f4 : (k == 6) = false := by rw [beq_eq_false_iff_ne]; omega
  have f5 : (c != 0) = false := by rw [bne_eq_false_iff_eq]; omega
  have f6 : (s != 0) = false := by rw [bne_eq_false_iff_eq]; omega
  have f7 : decide (t.size ≠ 0) = true := by exact decide_eq_true (by omega)
  refine ⟨false, fun hp => f28 rfl ?_, fun h => absurd h (by simp)⟩
  simp (disch := omega) only [go_sem, and_self, and_true, true_and, false_and, and_false, Nat.reduceAdd, Nat.reduceMul, Nat.reduceSub, Nat.reduceLeDiff, Nat.reduceLT, Nat.reduceGT, Nat.reduceEqDiff, Nat.reduceBEq, Int.reduceNeg, Int.reduceEq, Int.reduceLT, Int.reduceLE, Int.reduceBEq, Int.reduceToNat, Int.toNat_natCast, Int.natCast_zero, strD, isE, Bool.not_not, r28_T, r28, f0, f1, f2, f3, f4, f5, f6, f7]
theorem z_k5_a (k c s : Int) (t : ByteArray) (xs ks : List D) (h0 : k = 5) (h1 : c = 0) (h2 : s = 0) (h3 : t.size = 0) (h4 : ks.length = 0) : ZeroEx k c s t xs ks := by
  have f0 : (k != 3) = true := by rw [bne_iff_ne]; omega
  have f1 : (k != 4) = true := by rw [bne_iff_ne]; omega
  have f2 : (k != 7) = true := by rw [bne_iff_ne]; omega
  have f3 : (k == 5) = true := by rw [beq_iff_eq]; omega
  have f4 : (k == 6) = false := by rw [beq_eq_false_iff_ne]; omega
  have f5 : (c != 0) = false := by rw [bne_eq_false_iff_eq]; omega
  have f6 : (s != 0) = false := by rw [bne_eq_false_iff_eq]; omega
  have f7 : decide (t.size ≠ 0) = false := by exact decide_eq_false (by omega)
  have f8 : ((ks.length : Int) == 0) = true := by rw [beq_iff_eq]; omega
  refine ⟨true, fun hp => f28 rfl ?_, fun _ hk => by omega⟩
  simp (disch := omega) only [go_sem, and_self, and_true, true_and, false_and, and_false, Nat.reduceAdd, Nat.reduceMul, Nat.reduceSub, Nat.reduceLeDiff, Nat.reduceLT, Nat.reduceGT, Nat.reduceEqDiff, Nat.reduceBEq, Int.reduceNeg, Int.reduceEq, Int.reduceLT, Int.reduceLE, Int.reduceBEq, Int.reduceToNat, Int.toNat_natCast, Int.natCast_zero, strD, isE, Bool.not_not, r28_T, r28, f0, f1, f2, f3, f4, f5, f6, f7, f8]
theorem z_k5_b (k c s : Int) (t : ByteArray) (xs ks : List D) (h0 : k = 5) (h1 : c = 0) (h2 : s = 0) (h3 : t.size = 0) (h4 : ks.length ≠ 0) : ZeroEx k c s t xs ks := by
  have f0 : (k != 3) = true := by rw [bne_iff_ne]; omega
  have f1 : (k != 4) = true := by rw [bne_iff_ne]; omega
  have f2 : (k != 7) = true := by rw [bne_iff_ne]; omega
  have f3 : (k == 5) = true := by rw [beq_iff_eq]; omega
  have f4 : (k == 6) = false := by rw [beq_eq_false_iff_ne]; omega
  have f5 : (c != 0) = false := by rw [bne_eq_false_iff_eq]; omega
  have f6 : (s != 0) = false := by rw [bne_eq_false_iff_eq]; omega
  have f7 : decide (t.size ≠ 0) = false := by exact decide_eq_false (by omega)
  have f8 : ((ks.length : Int) == 0) = false := by rw [beq_eq_false_iff_ne]; omega
  refine ⟨false, fun hp => f28 rfl ?_, fun h => absurd h (by simp)⟩
  simp (disch := omega) only [go_sem, and_self, and_true, true_and, false_and, and_false, Nat.reduceAdd, Nat.reduceMul, Nat.reduceSub, Nat.reduceLeDiff, Nat.reduceLT, Nat.reduceGT, Nat.reduceEqDiff, Nat.reduceBEq, Int.reduceNeg, Int.reduceEq, Int.reduceLT, Int.reduceLE, Int.reduceBEq, Int.reduceToNat, Int.toNat_natCast, Int.natCast_zero, strD, isE, Bool.not_not, r28_T, r28, f0, f1, f2, f3, f4, f5, f6, f7, f8]
theorem z_k6_cc (k c s : Int) (t : ByteArray) (xs ks : List D) (h0 : k = 6) (h1 : c ≠ 0) : ZeroEx k c s t xs ks := by
  have f0 : (k != 3) = true := by rw [bne_iff_ne]; omega
  have f1 : (k != 4) = true := by rw [bne_iff_ne]; omega
  have f2 : (k != 7) = true := by rw [bne_iff_ne]; omega
  have f3 : (k == 5) = false := by rw [beq_eq_false_iff_ne]; omega
  have f4 : (k == 6) = true := by rw [beq_iff_eq]; omega
  have f5 : (c != 0) = true := by rw [bne_iff_ne]; omega
  refine ⟨false, fun hp => f28 rfl ?_, fun h => absurd h (by simp)⟩
  simp (disch := omega) only [go_sem, and_self, and_true, true_and, false_and, and_false, Nat.reduceAdd, Nat.reduceMul, Nat.reduceSub, Nat.reduceLeDiff, Nat.reduceLT, Nat.reduceGT, Nat.reduceEqDiff, Nat.reduceBEq, Int.reduceNeg, Int.reduceEq, Int.reduceLT, Int.reduceLE, Int.reduceBEq, Int.reduceToNat, Int.toNat_natCast, Int.natCast_zero, strD, isE, Bool.not_not, r28_T, r28, f0, f1, f2, f3, f4, f5]
theorem z_k6_s (k c s : Int) (t : ByteArray) (xs ks : List D) (h0 : k = 6) (h1 : c = 0) (h2 : s ≠ 0) : ZeroEx k c s t xs ks := by
  have f0 : (k != 3) = true := by rw [bne_iff_ne]; omega
  have f1 : (k != 4) = true := by rw [bne_iff_ne]; omega
  have f2 : (k != 7) = true := by rw [bne_iff_ne]; omega
  have f3 : (k == 5) = false := by rw [beq_eq_false_iff_ne]; omega
  have f4 : (k == 6) = true := by rw [beq_iff_eq]; omega
  have f5 : (c != 0) = false := by rw [bne_eq_false_iff_eq]; omega
  have f6 : (s != 0) = true := by rw [bne_iff_ne]; omega
  refine ⟨false, fun hp => f28 rfl ?_, fun h => absurd h (by simp)⟩
  simp (disch := omega) only [go_sem, and_self, and_true, true_and, false_and, and_false, Nat.reduceAdd, Nat.reduceMul, Nat.reduceSub, Nat.reduceLeDiff, Nat.reduceLT, Nat.reduceGT, Nat.reduceEqDiff, Nat.reduceBEq, Int.reduceNeg, Int.reduceEq, Int.reduceLT, Int.reduceLE, Int.reduceBEq, Int.reduceToNat, Int.toNat_natCast, Int.natCast_zero, strD, isE, Bool.not_not, r28_T, r28, f0, f1, f2, f3, f4, f5, f6]
theorem z_k6_t (k c s : Int) (t : ByteArray) (xs ks : List D) (h0 : k = 6) (h1 : c = 0) (h2 : s = 0) (h3 : t.size ≠ 0) : ZeroEx k c s t xs ks := by
  have f0 : (k != 3) = true := by rw [bne_iff_ne]; omega
  have f1 : (k != 4) = true := by rw [bne_iff_ne]; omega
  have f2 : (k != 7) = true := by rw [bne_iff_ne]; omega
  have f3 : (k == 5) = false := by rw [beq_eq_false_iff_ne]; omega
  have f4 : (k == 6) = true := by rw [beq_iff_eq]; omega
  have f5 : (c != 0) = false := by rw [bne_eq_false_iff_eq]; omega
  have f6 : (s != 0) = false := by rw [bne_eq_false_iff_eq]; omega
  have f7 : decide (t.size ≠ 0) = true := by exact decide_eq_true (by omega)
  refine ⟨false, fun hp => f28 rfl ?_, fun h => absurd h (by simp)⟩
  simp (disch := omega) only [go_sem, and_self, and_true, true_and, false_and, and_false, Nat.reduceAdd, Nat.reduceMul, Nat.reduceSub, Nat.reduceLeDiff, Nat.reduceLT, Nat.reduceGT, Nat.reduceEqDiff, Nat.reduceBEq, Int.reduceNeg, Int.reduceEq, Int.reduceLT, Int.reduceLE, Int.reduceBEq, Int.reduceToNat, Int.toNat_natCast, Int.natCast_zero, strD, isE, Bool.not_not, r28_T, r28, f0, f1, f2, f3, f4, f5, f6, f7]
theorem z_k6 (k c s : Int) (t : ByteArray) (xs ks : List D) (h0 : k = 6) (h1 : c = 0) (h2 : s = 0) (h3 : t.size = 0) : ZeroEx k c s t xs ks := by
  have f0 : (k != 3) = true := by rw [bne_iff_ne]; omega
  have f1 : (k != 4) = true := by rw [bne_iff_ne]; omega
  have f2 : (k != 7) = true := by rw [bne_iff_ne]; omega
  have f3 : (k == 5) = false := by rw [beq_eq_false_iff_ne]; omega
  have f4 : (k == 6) = true := by rw [beq_iff_eq]; omega
  have f5 : (c != 0) = false := by rw [bne_eq_false_iff_eq]; omega
  have f6 : (s != 0) = false := by rw [bne_eq_false_iff_eq]; omega
  have f7 : decide (t.size ≠ 0) = false := by exact decide_eq_false (by omega)
  refine ⟨true, fun hp => f28 rfl ?_, fun _ hk => by omega⟩
  simp (disch := omega) only [go_sem, and_self, and_true, true_and, false_and, and_false, Nat.reduceAdd, Nat.reduceMul, Nat.reduceSub, Nat.reduceLeDiff, Nat.reduceLT, Nat.reduceGT, Nat.reduceEqDiff, Nat.reduceBEq, Int.reduceNeg, Int.reduceEq, Int.reduceLT, Int.reduceLE, Int.reduceBEq, Int.reduceToNat, Int.toNat_natCast, Int.natCast_zero, strD, isE, Bool.not_not, r28_T, r28, f0, f1, f2, f3, f4, f5, f6, f7]
theorem z_kx_cc (k c s : Int) (t : ByteArray) (xs ks : List D) (h0 : k ≠ 3 ∧ k ≠ 4 ∧ k ≠ 7 ∧ k ≠ 5 ∧ k ≠ 6) (h1 : c ≠ 0) : ZeroEx k c s t xs ks := by
  have f0 : (k != 3) = true := by rw [bne_iff_ne]; omega
  have f1 : (k != 4) = true := by rw [bne_iff_ne]; omega
  have f2 : (k != 7) = true := by rw [bne_iff_ne]; omega
  have f3 : (k == 5) = false := by rw [beq_eq_false_iff_ne]; omega
  have f4 : (k == 6) = false := by rw [beq_eq_false_iff_ne]; omega
  have f5 : (c != 0) = true := by rw [bne_iff_ne]; omega
  refine ⟨false, fun hp => f28 rfl ?_, fun h => absurd h (by simp)⟩
  simp (disch := omega) only [go_sem, and_self, and_true, true_and, false_and, and_false, Nat.reduceAdd, Nat.reduceMul, Nat.reduceSub, Nat.reduceLeDiff, Nat.reduceLT, Nat.reduceGT, Nat.reduceEqDiff, Nat.reduceBEq, Int.reduceNeg, Int.reduceEq, Int.reduceLT, Int.reduceLE, Int.reduceBEq, Int.reduceToNat, Int.toNat_natCast, Int.natCast_zero, strD, isE, Bool.not_not, r28_T, r28, f0, f1, f2, f3, f4, f5]
theorem z_kx_s (k c s : Int) (t : ByteArray) (xs ks : List D) (h0 : k ≠ 3 ∧ k ≠ 4 ∧ k ≠ 7 ∧ k ≠ 5 ∧ k ≠ 6) (h1 : c = 0) (h2 : s ≠ 0) : ZeroEx k c s t xs ks := by
  have f0 : (k != 3) = true := by rw [bne_iff_ne]; omega
  have f1 : (k != 4) = true := by rw [bne_iff_ne]; omega
  have f2 : (k != 7) = true := by rw [bne_iff_ne]; omega
  have f3 : (k == 5) = false := by rw [beq_eq_false_iff_ne]; omega
  have f4 : (k == 6) = false := by rw [beq_eq_false_iff_ne]; omega
  have f5 : (c != 0) = false := by rw [bne_eq_false_iff_eq]; omega
  have f6 : (s != 0) = true := by rw [bne_iff_ne]; omega
  refine ⟨false, fun hp => f28 rfl ?_, fun h => absurd h (by simp)⟩
  simp (disch := omega) only [go_sem, and_self, and_true, true_and, false_and, and_false, Nat.reduceAdd, Nat.reduceMul, Nat.reduceSub, Nat.reduceLeDiff, Nat.reduceLT, Nat.reduceGT, Nat.reduceEqDiff, Nat.reduceBEq, Int.reduceNeg, Int.reduceEq, Int.reduceLT, Int.reduceLE, Int.reduceBEq, Int.reduceToNat, Int.toNat_natCast, Int.natCast_zero, strD, isE, Bool.not_not, r28_T, r28, f0, f1, f2, f3, f4, f5, f6]
theorem z_kx_t (k c s : Int) (t : ByteArray) (xs ks : List D) (h0 : k ≠ 3 ∧ k ≠ 4 ∧ k ≠ 7 ∧ k ≠ 5 ∧ k ≠ 6) (h1 : c = 0) (h2 : s = 0) (h3 : t.size ≠ 0) : ZeroEx k c s t xs ks := by
  have f0 : (k != 3) = true := by rw [bne_iff_ne]; omega
  have f1 : (k != 4) = true := by rw [bne_iff_ne]; omega
  have f2 : (k != 7) = true := by rw [bne_iff_ne]; omega
  have f3 : (k == 5) = false := by rw [beq_eq_false_iff_ne]; omega
  have f4 : (k == 6) = false := by rw [beq_eq_false_iff_ne]; omega
  have f5 : (c != 0) = false := by rw [bne_eq_false_iff_eq]; omega
  have f6 : (s != 0) = false := by rw [bne_eq_false_iff_eq]; omega
  have f7 : decide (t.size ≠ 0) = true := by exact decide_eq_true (by omega)
  refine ⟨false, fun hp => f28 rfl ?_, fun h => absurd h (by simp)⟩
  simp (disch := omega) only [go_sem, and_self, and_true, true_and, false_and, and_false, Nat.reduceAdd, Nat.reduceMul, Nat.reduceSub, Nat.reduceLeDiff, Nat.reduceLT, Nat.reduceGT, Nat.reduceEqDiff, Nat.reduceBEq, Int.reduceNeg, Int.reduceEq, Int.reduceLT, Int.reduceLE, Int.reduceBEq, Int.reduceToNat, Int.toNat_natCast, Int.natCast_zero, strD, isE, Bool.not_not, r28_T, r28, f0, f1, f2, f3, f4, f5, f6, f7]
theorem z_kx_a (k c s : Int) (t : ByteArray) (xs ks : List D) (h0 : k ≠ 3 ∧ k ≠ 4 ∧ k ≠ 7 ∧ k ≠ 5 ∧ k ≠ 6) (h1 : c = 0) (h2 : s = 0) (h3 : t.size = 0) (h4 : xs.length = 0) (h5 : ks.length = 0) : ZeroEx k c s t xs ks := by
  have f0 : (k != 3) = true := by rw [bne_iff_ne]; omega
  have f1 : (k != 4) = true := by rw [bne_iff_ne]; omega
  have f2 : (k != 7) = true := by rw [bne_iff_ne]; omega
  have f3 : (k == 5) = false := by rw [beq_eq_false_iff_ne]; omega
  have f4 : (k == 6) = false := by rw [beq_eq_false_iff_ne]; omega
  have f5 : (c != 0) = false := by rw [bne_eq_false_iff_eq]; omega
  have f6 : (s != 0) = false := by rw [bne_eq_false_iff_eq]; omega
  have f7 : decide (t.size ≠ 0) = false := by exact decide_eq_false (by omega)
  have f8 : ((xs.length : Int) == 0) = true := by rw [beq_iff_eq]; omega
  have f9 : ((ks.length : Int) == 0) = true := by rw [beq_iff_eq]; omega
  refine ⟨true, fun hp => f28 rfl ?_, fun _ hk => by omega⟩
  simp (disch := omega) only [go_sem, and_self, and_true, true_and, false_and, and_false, Nat.reduceAdd, Nat.reduceMul, Nat.reduceSub, Nat.reduceLeDiff, Nat.reduceLT, Nat.reduceGT, Nat.reduceEqDiff, Nat.reduceBEq, Int.reduceNeg, Int.reduceEq, Int.reduceLT, Int.reduceLE, Int.reduceBEq, Int.reduceToNat, Int.toNat_natCast, Int.natCast_zero, strD, isE, Bool.not_not, r28_T, r28, f0, f1, f2, f3, f4, f5, f6, f7, f8, f9]
theorem z_kx_b (k c s : Int) (t : ByteArray) (xs ks : List D) (h0 : k ≠ 3 ∧ k ≠ 4 ∧ k ≠ 7 ∧ k ≠ 5 ∧ k ≠ 6) (h1 : c = 0) (h2 : s = 0) (h3 : t.size = 0) (h4 : xs.length = 0) (h5 : ks.length ≠ 0) : ZeroEx k c s t xs ks := by
  have f0 : (k != 3) = true := by rw [bne_iff_ne]; omega
  have f1 : (k != 4) = true := by rw [bne_iff_ne]; omega
  have f2 : (k != 7) = true := by rw [bne_iff_ne]; omega
  have f3 : (k == 5) = false := by rw [beq_eq_false_iff_ne]; omega
  have f4 : (k == 6) = false := by rw [beq_eq_false_iff_ne]; omega
  have f5 : (c != 0) = false := by rw [bne_eq_false_iff_eq]; omega
  have f6 : (s != 0) = false := by rw [bne_eq_false_iff_eq]; omega
  have f7 : decide (t.size ≠ 0) = false := by exact decide_eq_false (by omega)
  have f8 : ((xs.length : Int) == 0) = true := by rw [beq_iff_eq]; omega
  have f9 : ((ks.length : Int) == 0) = false := by rw [beq_eq_false_iff_ne]; omega
  refine ⟨false, fun hp => f28 rfl ?_, fun h => absurd h (by simp)⟩
  simp (disch := omega) only [go_sem, and_self, and_true, true_and, false_and, and_false, Nat.reduceAdd, Nat.reduceMul, Nat.reduceSub, Nat.reduceLeDiff, Nat.reduceLT, Nat.reduceGT, Nat.reduceEqDiff, Nat.reduceBEq, Int.reduceNeg, Int.reduceEq, Int.reduceLT, Int.reduceLE, Int.reduceBEq, Int.reduceToNat, Int.toNat_natCast, Int.natCast_zero, strD, isE, Bool.not_not, r28_T, r28, f0, f1, f2, f3, f4, f5, f6, f7, f8, f9]
theorem z_kx_c (k c s : Int) (t : ByteArray) (xs ks : List D) (h0 : k ≠ 3 ∧ k ≠ 4 ∧ k ≠ 7 ∧ k ≠ 5 ∧ k ≠ 6) (h1 : c = 0) (h2 : s = 0) (h3 : t.size = 0) (h4 : xs.length ≠ 0) : ZeroEx k c s t xs ks := by
  have f0 : (k != 3) = true := by rw [bne_iff_ne]; omega
  have f1 : (k != 4) = true := by rw [bne_iff_ne]; omega
  have f2 : (k != 7) = true := by rw [bne_iff_ne]; omega
  have f3 : (k == 5) = false := by rw [beq_eq_false_iff_ne]; omega
  have f4 : (k == 6) = false := by rw [beq_eq_false_iff_ne]; omega
  have f5 : (c != 0) = false := by rw [bne_eq_false_iff_eq]; omega
  have f6 : (s != 0) = false := by rw [bne_eq_false_iff_eq]; omega
  have f7 : decide (t.size ≠ 0) = false := by exact decide_eq_false (by omega)
  have f8 : ((xs.length : Int) == 0) = false := by rw [beq_eq_false_iff_ne]; omega
  refine ⟨false, fun hp => f28 rfl ?_, fun h => absurd h (by simp)⟩
  simp (disch := omega) only [go_sem, and_self, and_true, true_and, false_and, and_false, Nat.reduceAdd, Nat.reduceMul, Nat.reduceSub, Nat.reduceLeDiff, Nat.reduceLT, Nat.reduceGT, Nat.reduceEqDiff, Nat.reduceBEq, Int.reduceNeg, Int.reduceEq, Int.reduceLT, Int.reduceLE, Int.reduceBEq, Int.reduceToNat, Int.toNat_natCast, Int.natCast_zero, strD, isE, Bool.not_not, r28_T, r28, f0, f1, f2, f3, f4, f5, f6, f7, f8]
theorem zero_ex (k c s : Int) (t : ByteArray) (xs ks : List D) : ZeroEx k c s t xs ks := by
  have hk : (k = 3 ∨ k = 4 ∨ k = 7 ∨ k = 5 ∨ k = 6) ∨ (k ≠ 3 ∧ k ≠ 4 ∧ k ≠ 7 ∧ k ≠ 5 ∧ k ≠ 6) := by omega
  by_cases hc : c = 0 <;> by_cases hs : s = 0 <;> by_cases ht : t.size = 0 <;> by_cases hx : xs.length = 0 <;> by_cases hy : ks.length = 0 <;> rcases hk with (hk | hk | hk | hk | hk) | hk <;>
    first
    | (apply z_k3_t <;> assumption)
    | (apply z_k3_a <;> assumption)
    | (apply z_k3_b <;> assumption)
    | (apply z_k3_c <;> assumption)
    | (apply z_k4_cc <;> assumption)
    | (apply z_k4_s <;> assumption)
    | (apply z_k4_a <;> assumption)
    | (apply z_k4_b <;> assumption)
    | (apply z_k4_c <;> assumption)
    | (apply z_k7_cc <;> assumption)
    | (apply z_k7_s <;> assumption)
    | (apply z_k7_a <;> assumption)
    | (apply z_k7_b <;> assumption)
    | (apply z_k7_c <;> assumption)
    | (apply z_k5_cc <;> assumption)
    | (apply z_k5_s <;> assumption)
    | (apply z_k5_t <;> assumption)
    | (apply z_k5_a <;> assumption)
    | (apply z_k5_b <;> assumption)
    | (apply z_k6_cc <;> assumption)
    | (apply z_k6_s <;> assumption)
    | (apply z_k6_t <;> assumption)
    | (apply z_k6 <;> assumption)
    | (apply z_kx_cc <;> assumption)
    | (apply z_kx_s <;> assumption)
    | (apply z_kx_t <;> assumption)
    | (apply z_kx_a <;> assumption)
    | (apply z_kx_b <;> assumption)
    | (apply z_kx_c <;> assumption)
end Go.Pe.T

namespace Go.Pe.T
theorem num4Is_ok (c s : Int) (hp : List Ent) : F tab 30 [.d (numD c s)] hp = some (.ret (.d (.bool (numIs c s))) hp) := by
  refine f30 rfl ?_
  by_cases h1 : s < 0
  · have g1 : ¬ (0 ≤ s) := by omega
    simp only [go_sem, and_self, and_true, true_and, false_and, and_false, Nat.reduceAdd, Nat.reduceMul, Nat.reduceSub, Nat.reduceLeDiff, Nat.reduceLT, Nat.reduceGT, Nat.reduceEqDiff, Nat.reduceBEq, Int.reduceNeg, Int.reduceEq, Int.reduceLT, Int.reduceLE, Int.reduceBEq, Int.reduceToNat, Int.toNat_natCast, Int.natCast_zero, r30_T, r30, numIs, h1, g1]
  · have g1 : 0 ≤ s := by omega
    by_cases h2 : s > 9
    · have g2 : ¬ (s ≤ 9) := by omega
      simp only [go_sem, and_self, and_true, true_and, false_and, and_false, Nat.reduceAdd, Nat.reduceMul, Nat.reduceSub, Nat.reduceLeDiff, Nat.reduceLT, Nat.reduceGT, Nat.reduceEqDiff, Nat.reduceBEq, Int.reduceNeg, Int.reduceEq, Int.reduceLT, Int.reduceLE, Int.reduceBEq, Int.reduceToNat, Int.toNat_natCast, Int.natCast_zero, r30_T, r30, numIs, h1, g1, h2, g2]
    · have g2 : s ≤ 9 := by omega
      by_cases h3 : c ≤ -1000000000000000
      · have g3 : ¬ (-1000000000000000 < c) := by omega
        have g4 : c < 1000000000000000 := by omega
        have h4 : ¬ c ≥ 1000000000000000 := by omega
        simp only [go_sem, and_self, and_true, true_and, false_and, and_false, Nat.reduceAdd, Nat.reduceMul, Nat.reduceSub, Nat.reduceLeDiff, Nat.reduceLT, Nat.reduceGT, Nat.reduceEqDiff, Nat.reduceBEq, Int.reduceNeg, Int.reduceEq, Int.reduceLT, Int.reduceLE, Int.reduceBEq, Int.reduceToNat, Int.toNat_natCast, Int.natCast_zero, r30_T, r30, numIs, h1, g1, h2, g2, h3, g3, h4, g4]
      · have g3 : -1000000000000000 < c := by omega
        by_cases h4 : c ≥ 1000000000000000
        · have g4 : ¬ (c < 1000000000000000) := by omega
          simp only [go_sem, and_self, and_true, true_and, false_and, and_false, Nat.reduceAdd, Nat.reduceMul, Nat.reduceSub, Nat.reduceLeDiff, Nat.reduceLT, Nat.reduceGT, Nat.reduceEqDiff, Nat.reduceBEq, Int.reduceNeg, Int.reduceEq, Int.reduceLT, Int.reduceLE, Int.reduceBEq, Int.reduceToNat, Int.toNat_natCast, Int.natCast_zero, r30_T, r30, numIs, h1, g1, h2, g2, h3, g3, h4, g4]
        · have g4 : c < 1000000000000000 := by omega
          by_cases h5 : s = 0
          · subst h5
            simp only [go_sem, and_self, and_true, true_and, false_and, and_false, Nat.reduceAdd, Nat.reduceMul, Nat.reduceSub, Nat.reduceLeDiff, Nat.reduceLT, Nat.reduceGT, Nat.reduceEqDiff, Nat.reduceBEq, Int.reduceNeg, Int.reduceEq, Int.reduceLT, Int.reduceLE, Int.reduceBEq, Int.reduceToNat, Int.toNat_natCast, Int.natCast_zero, r30_T, r30, numIs, h1, g1, h2, g2, h3, g3, h4, g4, Bool.true_or]
          · have g5 : (s == 0) = false := by simpa using h5
            simp only [go_sem, and_self, and_true, true_and, false_and, and_false, Nat.reduceAdd, Nat.reduceMul, Nat.reduceSub, Nat.reduceLeDiff, Nat.reduceLT, Nat.reduceGT, Nat.reduceEqDiff, Nat.reduceBEq, Int.reduceNeg, Int.reduceEq, Int.reduceLT, Int.reduceLE, Int.reduceBEq, Int.reduceToNat, Int.toNat_natCast, Int.natCast_zero, r30_T, r30, numIs, h1, g1, h2, g2, h3, g3, h4, g4, g5, Bool.false_or]
abbrev vB (k c s : Int) (t : ByteArray) (xs : List Val) (ks : List ByteArray) : PV := .ibox [.d (iv k), .d (iv c), .d (iv s), .d (.str t), .d (.sl (Val.encs xs)), .d (.sl (ks.map .str))]
def IkEx (d : Int) (k c s : Int) (t : ByteArray) (xs : List Val) (ks : List ByteArray) (i : Nat) : Prop :=
  ∃ b : Bool, V (F tab) r17_B0 (r17_S0 (.d (iv d)) (vB k c s t xs ks) (.d (iv i)) []) = if b then some (.norm, r17_E0 (.d (iv d)) (vB k c s t xs ks) []) else some (.ret, r17_R (.d (.bool false)) [])
set_option maxHeartbeats 1000000 in
theorem ik_loop (d : Int) (k c s : Int) (t : ByteArray) (xs : List Val) (ks : List ByteArray) (hl : ks.length ≤ 1048576) (hs : ∀ x ∈ ks, x.size ≤ 1048576) : ∀ (m i : Nat), i + m = ks.length → IkEx d k c s t xs ks i
  | 0, i, hi => by
    have h1 : ((i : Int) < (ks.length : Int)) = False := eq_false (by omega)
    refine ⟨true, ?_⟩
    rw [if_pos rfl, r17_B0_eq]
    simp (disch := omega) only [go_sem, and_self, and_true, true_and, false_and, and_false, Nat.reduceAdd, Nat.reduceMul, Nat.reduceSub, Nat.reduceLeDiff, Nat.reduceLT, Nat.reduceGT, Nat.reduceEqDiff, Nat.reduceBEq, Int.reduceNeg, Int.reduceEq, Int.reduceLT, Int.reduceLE, Int.reduceBEq, Int.reduceToNat, Int.toNat_natCast, Int.natCast_zero, r17_C0, h1, List.length_map]
  | m + 1, i, hi => by
    obtain ⟨b, ih⟩ := ik_loop d k c s t xs ks hl hs m (i + 1) (by omega)
    have hi1 : i < ks.length := by omega
    have h1 : ((i : Int) < (ks.length : Int)) = True := eq_true (by omega)
    have i0 : (0 ≤ (i : Int)) = True := eq_true (by omega)
    have va : (ks.map D.str)[i]? = some (.str ks[i]) := by simp [hi1]
    obtain ⟨x, hx⟩ := rsigns_bool ks[i] (by have := hs _ (List.getElem_mem hi1); omega)
    rw [Int.natCast_add, Int.natCast_one] at ih
    rcases Bool.eq_false_or_eq_true (validB ks[i]) with g | g
    · rw [g] at hx
      by_cases h0 : i = 0
      · have g0 : ((i : Int) > 0) = False := eq_false (by omega)
        refine ⟨b, ?_⟩
        rw [r17_B0_eq]
        simp (disch := omega) only [go_sem, and_self, and_true, true_and, false_and, and_false, Nat.reduceAdd, Nat.reduceMul, Nat.reduceSub, Nat.reduceLeDiff, Nat.reduceLT, Nat.reduceGT, Nat.reduceEqDiff, Nat.reduceBEq, Int.reduceNeg, Int.reduceEq, Int.reduceLT, Int.reduceLE, Int.reduceBEq, Int.reduceToNat, Int.toNat_natCast, Int.natCast_zero, r17_C0, h1, i0, va, hx, g0, List.length_map, w64]
        exact ih
      · have g0 : ((i : Int) > 0) = True := eq_true (by omega)
        have i1 : (0 ≤ (i : Int) - 1) = True := eq_true (by omega)
        have e1 : ((i : Int) - 1).toNat = i - 1 := by omega
        have vb : (ks.map D.str)[i - 1]? = some (.str ks[i - 1]) := by
          rw [List.getElem?_map, List.getElem?_eq_getElem (by omega)]; rfl
        rcases Bool.eq_false_or_eq_true (Op.bytesLess ks[i].toList ks[i - 1].toList || ks[i].toList == ks[i - 1].toList) with q | q
        · refine ⟨false, ?_⟩
          rw [if_neg (by simp), r17_B0_eq]
          simp (disch := omega) only [go_sem, and_self, and_true, true_and, false_and, and_false, Nat.reduceAdd, Nat.reduceMul, Nat.reduceSub, Nat.reduceLeDiff, Nat.reduceLT, Nat.reduceGT, Nat.reduceEqDiff, Nat.reduceBEq, Int.reduceNeg, Int.reduceEq, Int.reduceLT, Int.reduceLE, Int.reduceBEq, Int.reduceToNat, Int.toNat_natCast, Int.natCast_zero, strD, r17_C0, h1, i0, va, hx, g0, i1, e1, vb, q, List.length_map, w64]
        · refine ⟨b, ?_⟩
          rw [r17_B0_eq]
          simp (disch := omega) only [go_sem, and_self, and_true, true_and, false_and, and_false, Nat.reduceAdd, Nat.reduceMul, Nat.reduceSub, Nat.reduceLeDiff, Nat.reduceLT, Nat.reduceGT, Nat.reduceEqDiff, Nat.reduceBEq, Int.reduceNeg, Int.reduceEq, Int.reduceLT, Int.reduceLE, Int.reduceBEq, Int.reduceToNat, Int.toNat_natCast, Int.natCast_zero, strD, r17_C0, h1, i0, va, hx, g0, i1, e1, vb, q, List.length_map, w64]
          exact ih
    · rw [g] at hx
      refine ⟨false, ?_⟩
      rw [if_neg (by simp), r17_B0_eq]
      simp (disch := omega) only [go_sem, and_self, and_true, true_and, false_and, and_false, Nat.reduceAdd, Nat.reduceMul, Nat.reduceSub, Nat.reduceLeDiff, Nat.reduceLT, Nat.reduceGT, Nat.reduceEqDiff, Nat.reduceBEq, Int.reduceNeg, Int.reduceEq, Int.reduceLT, Int.reduceLE, Int.reduceBEq, Int.reduceToNat, Int.toNat_natCast, Int.natCast_zero, r17_C0, h1, i0, va, hx, List.length_map, w64]
def IsEx (v : Val) (d : Int) : Prop := ∃ b : Bool, (∀ hp, F tab 17 [.d v.enc, .d (iv d)] hp = some (.ret (.d (.bool b)) hp)) ∧ (b = true → ∀ k c s t xs ks, v = .mk k c s t xs ks → k = 0 → c = 0 ∧ s = 0 ∧ t.size = 0 ∧ xs.length = 0 ∧ ks.length = 0)
def IiEx (d : Int) (k c s : Int) (t : ByteArray) (xs : List Val) (ks : List ByteArray) (i : Nat) : Prop :=
  ∃ b : Bool, V (F tab) r17_B1 (r17_S1 (.d (iv d)) (vB k c s t xs ks) (.d (iv i)) []) = if b then some (.norm, r17_E1 []) else some (.ret, r17_R (.d (.bool false)) [])
set_option maxHeartbeats 1000000 in
theorem ii_loop (d : Int) (hd : 0 ≤ d ∧ d ≤ 100) (k c s : Int) (t : ByteArray) (xs : List Val) (ks : List ByteArray) (hl : xs.length ≤ 1048576) (hx : ∀ x ∈ xs, IsEx x (d + 1)) : ∀ (m i : Nat), i + m = xs.length → IiEx d k c s t xs ks i
  | 0, i, hi => by
    have h1 : ((i : Int) < (xs.length : Int)) = False := eq_false (by omega)
    refine ⟨true, ?_⟩
    rw [if_pos rfl, r17_B1_eq]
    simp (disch := omega) only [go_sem, and_self, and_true, true_and, false_and, and_false, Nat.reduceAdd, Nat.reduceMul, Nat.reduceSub, Nat.reduceLeDiff, Nat.reduceLT, Nat.reduceGT, Nat.reduceEqDiff, Nat.reduceBEq, Int.reduceNeg, Int.reduceEq, Int.reduceLT, Int.reduceLE, Int.reduceBEq, Int.reduceToNat, Int.toNat_natCast, Int.natCast_zero, r17_C1, h1, encs_len]
  | m + 1, i, hi => by
    obtain ⟨b, ih⟩ := ii_loop d hd k c s t xs ks hl hx m (i + 1) (by omega)
    have hi1 : i < xs.length := by omega
    have h1 : ((i : Int) < (xs.length : Int)) = True := eq_true (by omega)
    have i0 : (0 ≤ (i : Int)) = True := eq_true (by omega)
    have va : (Val.encs xs)[i]? = some xs[i].enc := by rw [encs_get, List.getElem?_eq_getElem hi1]; rfl
    obtain ⟨b2, hb2, _⟩ := hx xs[i] (List.getElem_mem hi1)
    obtain ⟨k', c', s', t', ys, ks', ev⟩ := enc_as xs[i]
    rw [ev] at va hb2
    rw [Int.natCast_add, Int.natCast_one] at ih
    rcases Bool.eq_false_or_eq_true (k' == 7) with g | g
    · refine ⟨false, ?_⟩
      rw [if_neg (by simp), r17_B1_eq]
      simp (disch := omega) only [go_sem, and_self, and_true, true_and, false_and, and_false, Nat.reduceAdd, Nat.reduceMul, Nat.reduceSub, Nat.reduceLeDiff, Nat.reduceLT, Nat.reduceGT, Nat.reduceEqDiff, Nat.reduceBEq, Int.reduceNeg, Int.reduceEq, Int.reduceLT, Int.reduceLE, Int.reduceBEq, Int.reduceToNat, Int.toNat_natCast, Int.natCast_zero, r17_C1, h1, i0, va, g, encs_len, w64]
    · cases b2 with
      | true =>
        refine ⟨b, ?_⟩
        rw [r17_B1_eq]
        simp (disch := omega) only [go_sem, and_self, and_true, true_and, false_and, and_false, Nat.reduceAdd, Nat.reduceMul, Nat.reduceSub, Nat.reduceLeDiff, Nat.reduceLT, Nat.reduceGT, Nat.reduceEqDiff, Nat.reduceBEq, Int.reduceNeg, Int.reduceEq, Int.reduceLT, Int.reduceLE, Int.reduceBEq, Int.reduceToNat, Int.toNat_natCast, Int.natCast_zero, r17_C1, h1, i0, va, g, hb2, encs_len, w64]
        exact ih
      | false =>
        refine ⟨false, ?_⟩
        rw [if_neg (by simp), r17_B1_eq]
        simp (disch := omega) only [go_sem, and_self, and_true, true_and, false_and, and_false, Nat.reduceAdd, Nat.reduceMul, Nat.reduceSub, Nat.reduceLeDiff, Nat.reduceLT, Nat.reduceGT, Nat.reduceEqDiff, Nat.reduceBEq, Int.reduceNeg, Int.reduceEq, Int.reduceLT, Int.reduceLE, Int.reduceBEq, Int.reduceToNat, Int.toNat_natCast, Int.natCast_zero, r17_C1, h1, i0, va, g, hb2, encs_len, w64]
end Go.Pe.T

namespace Go.Pe.T
set_option maxHeartbeats 4000000 in
theorem is_top (d : Int) (hd : 0 ≤ d ∧ d ≤ 33) (k c s : Int) (t : ByteArray) (xs : List Val) (ks : List ByteArray) (ht : t.size ≤ 1048576)
    (hK : IkEx d k c s t xs ks 0) (hI : d ≤ 32 → IiEx d k c s t xs ks 0) : IsEx (.mk k c s t xs ks) d := by
  obtain ⟨bz, hz1, hz2⟩ := zero_ex k c s t (Val.encs xs) (ks.map .str)
  rw [encs_len, List.length_map] at hz2
  have no : (∀ hp, F tab 17 [.d (.agg [iv k, iv c, iv s, .str t, .sl (Val.encs xs), .sl (ks.map .str)]), .d (iv d)] hp = some (.ret (.d (.bool false)) hp)) → IsEx (.mk k c s t xs ks) d := fun h => ⟨false, h, fun h => absurd h (by simp)⟩
  by_cases k0 : k < 0
  · refine no fun hp => f17 rfl ?_
    simp (disch := omega) only [go_sem, and_self, and_true, true_and, false_and, and_false, Nat.reduceAdd, Nat.reduceMul, Nat.reduceSub, Nat.reduceLeDiff, Nat.reduceLT, Nat.reduceGT, Nat.reduceEqDiff, Nat.reduceBEq, Int.reduceNeg, Int.reduceEq, Int.reduceLT, Int.reduceLE, Int.reduceBEq, Int.reduceToNat, Int.toNat_natCast, Int.natCast_zero, r17_T, r17, k0]
  by_cases k7 : k > 7
  · refine no fun hp => f17 rfl ?_
    simp (disch := omega) only [go_sem, and_self, and_true, true_and, false_and, and_false, Nat.reduceAdd, Nat.reduceMul, Nat.reduceSub, Nat.reduceLeDiff, Nat.reduceLT, Nat.reduceGT, Nat.reduceEqDiff, Nat.reduceBEq, Int.reduceNeg, Int.reduceEq, Int.reduceLT, Int.reduceLE, Int.reduceBEq, Int.reduceToNat, Int.toNat_natCast, Int.natCast_zero, r17_T, r17, k0, k7]
  cases bz with
  | false =>
    refine no fun hp => f17 rfl ?_
    simp (disch := omega) only [go_sem, and_self, and_true, true_and, false_and, and_false, Nat.reduceAdd, Nat.reduceMul, Nat.reduceSub, Nat.reduceLeDiff, Nat.reduceLT, Nat.reduceGT, Nat.reduceEqDiff, Nat.reduceBEq, Int.reduceNeg, Int.reduceEq, Int.reduceLT, Int.reduceLE, Int.reduceBEq, Int.reduceToNat, Int.toNat_natCast, Int.natCast_zero, r17_T, r17, k0, k7, hz1]
  | true =>
    by_cases d32 : d > 32
    · refine no fun hp => f17 rfl ?_
      simp (disch := omega) only [go_sem, and_self, and_true, true_and, false_and, and_false, Nat.reduceAdd, Nat.reduceMul, Nat.reduceSub, Nat.reduceLeDiff, Nat.reduceLT, Nat.reduceGT, Nat.reduceEqDiff, Nat.reduceBEq, Int.reduceNeg, Int.reduceEq, Int.reduceLT, Int.reduceLE, Int.reduceBEq, Int.reduceToNat, Int.toNat_natCast, Int.natCast_zero, r17_T, r17, k0, k7, hz1, d32]
    obtain ⟨x, hx⟩ := rsigns_bool t (by omega)
    have hn := num4Is_ok c s
    have hz3 := hz2 rfl
    have fin : ∀ b : Bool, (∀ hp, F tab 17 [.d (.agg [iv k, iv c, iv s, .str t, .sl (Val.encs xs), .sl (ks.map .str)]), .d (iv d)] hp = some (.ret (.d (.bool b)) hp)) → IsEx (.mk k c s t xs ks) d := by
      intro b h
      refine ⟨b, h, fun _ k' c' s' t' xs' ks' e hk' => ?_⟩
      cases e
      exact hz3 hk'
    obtain ⟨b1, hK⟩ := hK
    obtain ⟨b2, hI⟩ := hI (by omega)
    rw [Int.natCast_zero] at hK hI
    -- what comes behind the tests
    have go : ∀ (q3 q6 : Bool), (k == 3) = q3 → (q3 = true → numIs c s = true) → (k == 6) = q6 → (q6 = true → ((ks.length : Int) != (xs.length : Int)) = false) → validB t = true → IsEx (.mk k c s t xs ks) d := by
      intro q3 q6 h3 h3' h6 h6' hv
      rw [hv] at hx
      refine fin (b1 && b2) fun hp => f17 rfl ?_
      cases q3 with
      | true =>
        rw [h3' rfl] at hn
        have h6 : (k == 6) = false := by rw [beq_iff_eq] at h3; rw [beq_eq_false_iff_ne]; omega
        simp (disch := omega) only [go_sem, and_self, and_true, true_and, false_and, and_false, Nat.reduceAdd, Nat.reduceMul, Nat.reduceSub, Nat.reduceLeDiff, Nat.reduceLT, Nat.reduceGT, Nat.reduceEqDiff, Nat.reduceBEq, Int.reduceNeg, Int.reduceEq, Int.reduceLT, Int.reduceLE, Int.reduceBEq, Int.reduceToNat, Int.toNat_natCast, Int.natCast_zero, r17_T, k0, k7, hz1, d32, hx, h3, h6, hn, encs_len, List.length_map]
        rw [r17_B0_n]
        erw [hK]
        cases b1 with
        | false => simp (disch := omega) only [go_sem, and_self, and_true, true_and, false_and, and_false, Nat.reduceAdd, Nat.reduceMul, Nat.reduceSub, Nat.reduceLeDiff, Nat.reduceLT, Nat.reduceGT, Nat.reduceEqDiff, Nat.reduceBEq, Int.reduceNeg, Int.reduceEq, Int.reduceLT, Int.reduceLE, Int.reduceBEq, Int.reduceToNat, Int.toNat_natCast, Int.natCast_zero, r17, Bool.false_and]
        | true =>
          simp (disch := omega) only [go_sem, and_self, and_true, true_and, false_and, and_false, Nat.reduceAdd, Nat.reduceMul, Nat.reduceSub, Nat.reduceLeDiff, Nat.reduceLT, Nat.reduceGT, Nat.reduceEqDiff, Nat.reduceBEq, Int.reduceNeg, Int.reduceEq, Int.reduceLT, Int.reduceLE, Int.reduceBEq, Int.reduceToNat, Int.toNat_natCast, Int.natCast_zero]
          rw [r17_B1_n]
          erw [hI]
          cases b2 <;> simp (disch := omega) only [go_sem, and_self, and_true, true_and, false_and, and_false, Nat.reduceAdd, Nat.reduceMul, Nat.reduceSub, Nat.reduceLeDiff, Nat.reduceLT, Nat.reduceGT, Nat.reduceEqDiff, Nat.reduceBEq, Int.reduceNeg, Int.reduceEq, Int.reduceLT, Int.reduceLE, Int.reduceBEq, Int.reduceToNat, Int.toNat_natCast, Int.natCast_zero, r17, Bool.true_and]
      | false =>
        cases q6 with
        | true =>
          have h6'' := h6' rfl
          simp (disch := omega) only [go_sem, and_self, and_true, true_and, false_and, and_false, Nat.reduceAdd, Nat.reduceMul, Nat.reduceSub, Nat.reduceLeDiff, Nat.reduceLT, Nat.reduceGT, Nat.reduceEqDiff, Nat.reduceBEq, Int.reduceNeg, Int.reduceEq, Int.reduceLT, Int.reduceLE, Int.reduceBEq, Int.reduceToNat, Int.toNat_natCast, Int.natCast_zero, r17_T, k0, k7, hz1, d32, hx, h3, h6, h6'', encs_len, List.length_map]
          rw [r17_B0_n]
          erw [hK]
          cases b1 with
          | false => simp (disch := omega) only [go_sem, and_self, and_true, true_and, false_and, and_false, Nat.reduceAdd, Nat.reduceMul, Nat.reduceSub, Nat.reduceLeDiff, Nat.reduceLT, Nat.reduceGT, Nat.reduceEqDiff, Nat.reduceBEq, Int.reduceNeg, Int.reduceEq, Int.reduceLT, Int.reduceLE, Int.reduceBEq, Int.reduceToNat, Int.toNat_natCast, Int.natCast_zero, r17, Bool.false_and]
          | true =>
            simp (disch := omega) only [go_sem, and_self, and_true, true_and, false_and, and_false, Nat.reduceAdd, Nat.reduceMul, Nat.reduceSub, Nat.reduceLeDiff, Nat.reduceLT, Nat.reduceGT, Nat.reduceEqDiff, Nat.reduceBEq, Int.reduceNeg, Int.reduceEq, Int.reduceLT, Int.reduceLE, Int.reduceBEq, Int.reduceToNat, Int.toNat_natCast, Int.natCast_zero]
            rw [r17_B1_n]
            erw [hI]
            cases b2 <;> simp (disch := omega) only [go_sem, and_self, and_true, true_and, false_and, and_false, Nat.reduceAdd, Nat.reduceMul, Nat.reduceSub, Nat.reduceLeDiff, Nat.reduceLT, Nat.reduceGT, Nat.reduceEqDiff, Nat.reduceBEq, Int.reduceNeg, Int.reduceEq, Int.reduceLT, Int.reduceLE, Int.reduceBEq, Int.reduceToNat, Int.toNat_natCast, Int.natCast_zero, r17, Bool.true_and]
        | false =>
          simp (disch := omega) only [go_sem, and_self, and_true, true_and, false_and, and_false, Nat.reduceAdd, Nat.reduceMul, Nat.reduceSub, Nat.reduceLeDiff, Nat.reduceLT, Nat.reduceGT, Nat.reduceEqDiff, Nat.reduceBEq, Int.reduceNeg, Int.reduceEq, Int.reduceLT, Int.reduceLE, Int.reduceBEq, Int.reduceToNat, Int.toNat_natCast, Int.natCast_zero, r17_T, k0, k7, hz1, d32, hx, h3, h6, encs_len, List.length_map]
          rw [r17_B0_n]
          erw [hK]
          cases b1 with
          | false => simp (disch := omega) only [go_sem, and_self, and_true, true_and, false_and, and_false, Nat.reduceAdd, Nat.reduceMul, Nat.reduceSub, Nat.reduceLeDiff, Nat.reduceLT, Nat.reduceGT, Nat.reduceEqDiff, Nat.reduceBEq, Int.reduceNeg, Int.reduceEq, Int.reduceLT, Int.reduceLE, Int.reduceBEq, Int.reduceToNat, Int.toNat_natCast, Int.natCast_zero, r17, Bool.false_and]
          | true =>
            simp (disch := omega) only [go_sem, and_self, and_true, true_and, false_and, and_false, Nat.reduceAdd, Nat.reduceMul, Nat.reduceSub, Nat.reduceLeDiff, Nat.reduceLT, Nat.reduceGT, Nat.reduceEqDiff, Nat.reduceBEq, Int.reduceNeg, Int.reduceEq, Int.reduceLT, Int.reduceLE, Int.reduceBEq, Int.reduceToNat, Int.toNat_natCast, Int.natCast_zero]
            rw [r17_B1_n]
            erw [hI]
            cases b2 <;> simp (disch := omega) only [go_sem, and_self, and_true, true_and, false_and, and_false, Nat.reduceAdd, Nat.reduceMul, Nat.reduceSub, Nat.reduceLeDiff, Nat.reduceLT, Nat.reduceGT, Nat.reduceEqDiff, Nat.reduceBEq, Int.reduceNeg, Int.reduceEq, Int.reduceLT, Int.reduceLE, Int.reduceBEq, Int.reduceToNat, Int.toNat_natCast, Int.natCast_zero, r17, Bool.true_and]
    rcases Bool.eq_false_or_eq_true (validB t) with hv | hv
    · rcases Bool.eq_false_or_eq_true (k == 3) with h3 | h3
      · rcases Bool.eq_false_or_eq_true (numIs c s) with h4 | h4
        · exact go true false h3 (fun _ => h4) (by rw [beq_iff_eq] at h3; rw [beq_eq_false_iff_ne]; omega) (fun h => absurd h (by simp)) hv
        · rw [hv] at hx
          rw [h4] at hn
          refine no fun hp => f17 rfl ?_
          simp (disch := omega) only [go_sem, and_self, and_true, true_and, false_and, and_false, Nat.reduceAdd, Nat.reduceMul, Nat.reduceSub, Nat.reduceLeDiff, Nat.reduceLT, Nat.reduceGT, Nat.reduceEqDiff, Nat.reduceBEq, Int.reduceNeg, Int.reduceEq, Int.reduceLT, Int.reduceLE, Int.reduceBEq, Int.reduceToNat, Int.toNat_natCast, Int.natCast_zero, r17_T, r17, k0, k7, hz1, d32, hx, h3, hn]
      · rcases Bool.eq_false_or_eq_true (k == 6) with h6 | h6
        · rcases Bool.eq_false_or_eq_true ((ks.length : Int) != (xs.length : Int)) with h5 | h5
          · rw [hv] at hx
            refine no fun hp => f17 rfl ?_
            simp (disch := omega) only [go_sem, and_self, and_true, true_and, false_and, and_false, Nat.reduceAdd, Nat.reduceMul, Nat.reduceSub, Nat.reduceLeDiff, Nat.reduceLT, Nat.reduceGT, Nat.reduceEqDiff, Nat.reduceBEq, Int.reduceNeg, Int.reduceEq, Int.reduceLT, Int.reduceLE, Int.reduceBEq, Int.reduceToNat, Int.toNat_natCast, Int.natCast_zero, r17_T, r17, k0, k7, hz1, d32, hx, h3, h6, h5, encs_len, List.length_map]
          · exact go false true h3 (fun h => absurd h (by simp)) h6 (fun _ => h5) hv
        · exact go false false h3 (fun h => absurd h (by simp)) h6 (fun h => absurd h (by simp)) hv
    · rw [hv] at hx
      refine no fun hp => f17 rfl ?_
      simp (disch := omega) only [go_sem, and_self, and_true, true_and, false_and, and_false, Nat.reduceAdd, Nat.reduceMul, Nat.reduceSub, Nat.reduceLeDiff, Nat.reduceLT, Nat.reduceGT, Nat.reduceEqDiff, Nat.reduceBEq, Int.reduceNeg, Int.reduceEq, Int.reduceLT, Int.reduceLE, Int.reduceBEq, Int.reduceToNat, Int.toNat_natCast, Int.natCast_zero, r17_T, r17, k0, k7, hz1, d32, hx]
theorem is_ex : ∀ (n : Nat) (v : Val) (d : Int), SizeOf.sizeOf v ≤ n → v.lim 1048576 → 0 ≤ d ∧ d ≤ 33 → IsEx v d
  | 0, v, d, h, _, _ => by cases v; simp at h
  | n + 1, .mk k c s t xs ks, d, h, hm, hd => by
    rw [Val.lim] at hm
    obtain ⟨m1, m2, m3, m4, m5⟩ := hm
    refine is_top d hd k c s t xs ks m1 (ik_loop d k c s t xs ks m3 m4 ks.length 0 (by omega)) fun hd2 => ii_loop d (by omega) k c s t xs ks m2 (fun x hx => is_ex n x (d + 1) ?_ (vlims_mem m5 hx) (by omega)) xs.length 0 (by omega)
    have := List.sizeOf_lt_of_mem hx
    simp at h
    omega
end Go.Pe.T
