/- A part of the proof of: FlatTame: a calm expression, whose parts that must be calm are, has nothing wild in it, and costs at most as much as it has parts. -/
import Derived.Test.YthifmmkefongnaaGreatDoorFt3
import Derived.Test.YthifmmkefongnaaGreatDoorPe4
import Derived.Test.YthifmmkefongnaaGreatDoorFt1
set_option linter.unusedSimpArgs false
set_option linter.unusedVariables false
set_option maxRecDepth 10000

namespace Go.Pe.T

def nb (l : List UInt8) (i : Nat) : Int := ((l.getD i 0).toNat : Int)
def contB (c : Int) : Bool := !decide (c < 128) && !decide (c > 191)
def conts : List UInt8 → Nat → Bool
  | _, 0 => true
  | [], _ + 1 => false
  | c :: r, k + 1 => contB c.toNat && conts r k
def tailL (l : List UInt8) (n : Nat) (lo hi : Int) : Bool := !decide (l.length ≤ n) && ((!decide (nb l 1 < lo) && !decide (nb l 1 > hi)) && conts (l.drop 2) (n - 1))
def sizeL (l : List UInt8) : Nat :=
  if nb l 0 < 128 then 1
  else if (decide (nb l 0 ≥ 194) && decide (nb l 0 ≤ 223)) && tailL l 1 128 191 then 2
  else if (nb l 0 == 224 && tailL l 2 160 191) || (((decide (nb l 0 ≥ 225) && decide (nb l 0 ≤ 239)) && nb l 0 != 237) && tailL l 2 128 191 || nb l 0 == 237 && tailL l 2 128 159) then 3
  else if (nb l 0 == 240 && tailL l 3 144 191) || ((decide (nb l 0 ≥ 241) && decide (nb l 0 ≤ 243)) && tailL l 3 128 191 || nb l 0 == 244 && tailL l 3 128 143) then 4
  else 0
def validF : Nat → List UInt8 → Bool
  | _, [] => true
  | 0, _ :: _ => false
  | k + 1, c :: r => if sizeL (c :: r) = 0 then false else validF k ((c :: r).drop (sizeL (c :: r)))
def validB (s : ByteArray) : Bool := validF s.size (bs s)

theorem tail_len {l : List UInt8} {n : Nat} {lo hi : Int} (h : tailL l n lo hi = true) : n < l.length := by
  simp only [tailL, Bool.and_eq_true, Bool.not_eq_true', decide_eq_false_iff_not] at h
  omega
theorem sizeL_le (l : List UInt8) (hl : l ≠ []) : sizeL l ≤ l.length := by
  have h0 : 0 < l.length := List.length_pos_iff.2 hl
  unfold sizeL
  split
  · omega
  · split
    · rename_i h; simp only [Bool.and_eq_true] at h; have := tail_len h.2; omega
    · split
      · rename_i h; simp only [Bool.or_eq_true, Bool.and_eq_true] at h
        rcases h with h | h | h <;> (have := tail_len h.2; omega)
      · split
        · rename_i h; simp only [Bool.or_eq_true, Bool.and_eq_true] at h
          rcases h with h | h | h <;> (have := tail_len h.2; omega)
        · omega

theorem bs_nb {s : ByteArray} {i : Nat} (h : i < s.size) : ((s[i].toNat : Nat) : Int) = nb (bs s) i := by
  have e : s[i] = s.data.toList[i]'h := rfl
  simp only [nb, bs, List.getD_eq_getElem?_getD, List.getElem?_eq_getElem (show i < s.data.toList.length from h), Option.getD_some, e]

def TlLoop (s : ByteArray) (n i : Nat) : Prop :=
  V (F tab) r80_B0 (r80_S0 (.d (.str s)) (.d (iv n)) (.d (iv i)) []) = if conts ((bs s).drop i) (n + 1 - i) then some (.norm, r80_E0 []) else some (.ret, r80_R (.d (.bool false)) [])
theorem tl_end (s : ByteArray) (n i : Nat) (hi : n < i) : TlLoop s n i := by
  have h1 : ((i : Int) ≤ (n : Int)) = False := eq_false (by omega)
  unfold TlLoop
  rw [r80_B0_eq, show n + 1 - i = 0 by omega]
  simp (disch := omega) only [go_sem, and_self, and_true, true_and, false_and, and_false, Nat.reduceAdd, Nat.reduceMul, Nat.reduceSub, Nat.reduceLeDiff, Nat.reduceLT, Nat.reduceGT, Nat.reduceEqDiff, Nat.reduceBEq, Int.reduceNeg, Int.reduceEq, Int.reduceLT, Int.reduceLE, Int.reduceBEq, Int.reduceToNat, Int.toNat_natCast, Int.natCast_zero, r80_C0, h1, conts]
theorem tl_step (s : ByteArray) (n i : Nat) (hn : n < s.size) (h4 : n ≤ 4) (hi : i ≤ n) (ih : TlLoop s n (i + 1)) : TlLoop s n i := by
  have h1 : ((i : Int) ≤ (n : Int)) = True := eq_true (by omega)
  have hi0 : (0 ≤ (i : Int)) = True := eq_true (by omega)
  obtain ⟨va, vd⟩ := bs_get (show i < s.size by omega)
  unfold TlLoop at ih ⊢
  rw [Int.natCast_add, Int.natCast_one] at ih
  rw [r80_B0_eq, vd, show n + 1 - i = (n - i) + 1 by omega]
  rw [show n + 1 - (i + 1) = n - i by omega] at ih
  simp only [conts, contB]
  by_cases g1 : ((s[i].toNat : Nat) : Int) < 128
  · simp (disch := omega) only [go_sem, and_self, and_true, true_and, false_and, and_false, Nat.reduceAdd, Nat.reduceMul, Nat.reduceSub, Nat.reduceLeDiff, Nat.reduceLT, Nat.reduceGT, Nat.reduceEqDiff, Nat.reduceBEq, Int.reduceNeg, Int.reduceEq, Int.reduceLT, Int.reduceLE, Int.reduceBEq, Int.reduceToNat, Int.toNat_natCast, Int.natCast_zero, r80_C0, h1, hi0, va, w64, g1, decide_true, Bool.not_true, Bool.false_and]
  · by_cases g2 : ((s[i].toNat : Nat) : Int) > 191
    · simp (disch := omega) only [go_sem, and_self, and_true, true_and, false_and, and_false, Nat.reduceAdd, Nat.reduceMul, Nat.reduceSub, Nat.reduceLeDiff, Nat.reduceLT, Nat.reduceGT, Nat.reduceEqDiff, Nat.reduceBEq, Int.reduceNeg, Int.reduceEq, Int.reduceLT, Int.reduceLE, Int.reduceBEq, Int.reduceToNat, Int.toNat_natCast, Int.natCast_zero, r80_C0, h1, hi0, va, w64, g1, g2, decide_true, decide_false, Bool.not_true, Bool.not_false, Bool.false_and, Bool.true_and]
    · simp (disch := omega) only [go_sem, and_self, and_true, true_and, false_and, and_false, Nat.reduceAdd, Nat.reduceMul, Nat.reduceSub, Nat.reduceLeDiff, Nat.reduceLT, Nat.reduceGT, Nat.reduceEqDiff, Nat.reduceBEq, Int.reduceNeg, Int.reduceEq, Int.reduceLT, Int.reduceLE, Int.reduceBEq, Int.reduceToNat, Int.toNat_natCast, Int.natCast_zero, r80_C0, h1, hi0, va, w64, g1, g2, decide_true, decide_false, Bool.not_true, Bool.not_false, Bool.false_and, Bool.true_and]
      exact ih
theorem tl_loop (s : ByteArray) (n : Nat) (hn : n < s.size) (h4 : n ≤ 4) : ∀ (j i : Nat), i + j = n + 1 → TlLoop s n i
  | 0, i, hi => tl_end s n i (by omega)
  | j + 1, i, hi => tl_step s n i hn h4 (by omega) (tl_loop s n hn h4 j (i + 1) (by omega))
theorem tail_ok (s : ByteArray) (n : Nat) (lo hi : Int) (h1 : 1 ≤ n) (h4 : n ≤ 4) (hp : List Ent) : F tab 80 [.d (.str s), .d (iv n), .d (.int .u8 lo), .d (.int .u8 hi)] hp = some (.ret (.d (.bool (tailL (bs s) n lo hi))) hp) := by
  refine f80 rfl ?_
  unfold tailL
  rw [bs_len]
  by_cases g : s.size ≤ n
  · have g' : ((s.size : Int) ≤ (n : Int)) = True := eq_true (by omega)
    simp (disch := omega) only [go_sem, and_self, and_true, true_and, false_and, and_false, Nat.reduceAdd, Nat.reduceMul, Nat.reduceSub, Nat.reduceLeDiff, Nat.reduceLT, Nat.reduceGT, Nat.reduceEqDiff, Nat.reduceBEq, Int.reduceNeg, Int.reduceEq, Int.reduceLT, Int.reduceLE, Int.reduceBEq, Int.reduceToNat, Int.toNat_natCast, Int.natCast_zero, r80_T, r80, g, g', decide_true, Bool.not_true, Bool.false_and]
  · have g' : ((s.size : Int) ≤ (n : Int)) = False := eq_false (by omega)
    have hL := tl_loop s n (by omega) h4 (n - 1) 2 (by omega)
    unfold TlLoop at hL
    rw [show n + 1 - 2 = n - 1 by omega] at hL
    have hlt : 1 < s.size := by omega
    obtain ⟨va, vd⟩ := bs_get hlt
    have e := bs_nb hlt
    rw [← e]
    by_cases g1 : ((s[1].toNat : Nat) : Int) < lo
    · simp (disch := omega) only [go_sem, and_self, and_true, true_and, false_and, and_false, Nat.reduceAdd, Nat.reduceMul, Nat.reduceSub, Nat.reduceLeDiff, Nat.reduceLT, Nat.reduceGT, Nat.reduceEqDiff, Nat.reduceBEq, Int.reduceNeg, Int.reduceEq, Int.reduceLT, Int.reduceLE, Int.reduceBEq, Int.reduceToNat, Int.toNat_natCast, Int.natCast_zero, r80_T, r80, g, g', va, g1, decide_true, decide_false, Bool.not_true, Bool.not_false, Bool.false_and, Bool.true_and]
    · by_cases g2 : ((s[1].toNat : Nat) : Int) > hi
      · simp (disch := omega) only [go_sem, and_self, and_true, true_and, false_and, and_false, Nat.reduceAdd, Nat.reduceMul, Nat.reduceSub, Nat.reduceLeDiff, Nat.reduceLT, Nat.reduceGT, Nat.reduceEqDiff, Nat.reduceBEq, Int.reduceNeg, Int.reduceEq, Int.reduceLT, Int.reduceLE, Int.reduceBEq, Int.reduceToNat, Int.toNat_natCast, Int.natCast_zero, r80_T, r80, g, g', va, g1, g2, decide_true, decide_false, Bool.not_true, Bool.not_false, Bool.false_and, Bool.true_and]
      · simp (disch := omega) only [go_sem, and_self, and_true, true_and, false_and, and_false, Nat.reduceAdd, Nat.reduceMul, Nat.reduceSub, Nat.reduceLeDiff, Nat.reduceLT, Nat.reduceGT, Nat.reduceEqDiff, Nat.reduceBEq, Int.reduceNeg, Int.reduceEq, Int.reduceLT, Int.reduceLE, Int.reduceBEq, Int.reduceToNat, Int.toNat_natCast, Int.natCast_zero, r80_T, r80, g, g', va, g1, g2, decide_true, decide_false, Bool.not_true, Bool.not_false, Bool.false_and, Bool.true_and]
        rw [r80_B0_n]
        erw [hL]
        rcases Bool.eq_false_or_eq_true (conts ((bs s).drop 2) (n - 1)) with g3 | g3 <;> rw [g3] <;> simp only [go_sem, and_self, and_true, true_and, false_and, and_false, Nat.reduceAdd, Nat.reduceMul, Nat.reduceSub, Nat.reduceLeDiff, Nat.reduceLT, Nat.reduceGT, Nat.reduceEqDiff, Nat.reduceBEq, Int.reduceNeg, Int.reduceEq, Int.reduceLT, Int.reduceLE, Int.reduceBEq, Int.reduceToNat, Int.toNat_natCast, Int.natCast_zero]

theorem size_0 (s : ByteArray) (c : Int) (h0 : 0 < s.size) (hc : ((s[0].toNat : Nat) : Int) = c) (g1 : c ≥ 0) (g2 : c ≤ 127) (hp : List Ent) : F tab 72 [.d (.str s)] hp = some (.ret (.d (iv (sizeL (bs s)))) hp) := by
  obtain ⟨va, vd⟩ := bs_get h0
  have e := bs_nb h0
  rw [hc] at e
  have xa : (c < 128) = True := eq_true (by omega)
  have xb : (c ≥ 194) = False := eq_false (by omega)
  have xd : (c ≤ 223) = True := eq_true (by omega)
  have xe : (c == 224) = false := by simp <;> omega
  have xf : (c ≥ 225) = False := eq_false (by omega)
  have xh : (c ≤ 239) = True := eq_true (by omega)
  have xi : (c != 237) = true := by simp <;> omega
  have xj : (c == 237) = false := by simp <;> omega
  have xk : (c == 240) = false := by simp <;> omega
  have xl : (c ≥ 241) = False := eq_false (by omega)
  have xm : (c ≤ 243) = True := eq_true (by omega)
  have xn : (c == 244) = false := by simp <;> omega
  refine f72 rfl ?_
  unfold sizeL
  rw [← e]
  simp (disch := omega) only [go_sem, and_self, and_true, true_and, false_and, and_false, Nat.reduceAdd, Nat.reduceMul, Nat.reduceSub, Nat.reduceLeDiff, Nat.reduceLT, Nat.reduceGT, Nat.reduceEqDiff, Nat.reduceBEq, Int.reduceNeg, Int.reduceEq, Int.reduceLT, Int.reduceLE, Int.reduceBEq, Int.reduceToNat, Int.toNat_natCast, Int.natCast_zero, r72_T, r72, va, hc, xa, xb, xd, xe, xf, xh, xi, xj, xk, xl, xm, xn, decide_true, decide_false, Bool.true_and, Bool.false_and, Bool.true_or, Bool.false_or, Bool.and_false, Bool.and_true, Int.natCast_one]
  try rfl

theorem size_1 (s : ByteArray) (c : Int) (h0 : 0 < s.size) (hc : ((s[0].toNat : Nat) : Int) = c) (g1 : c ≥ 128) (g2 : c ≤ 193) (hp : List Ent) : F tab 72 [.d (.str s)] hp = some (.ret (.d (iv (sizeL (bs s)))) hp) := by
  obtain ⟨va, vd⟩ := bs_get h0
  have e := bs_nb h0
  rw [hc] at e
  have xa : (c < 128) = False := eq_false (by omega)
  have xb : (c ≥ 194) = False := eq_false (by omega)
  have xd : (c ≤ 223) = True := eq_true (by omega)
  have xe : (c == 224) = false := by simp <;> omega
  have xf : (c ≥ 225) = False := eq_false (by omega)
  have xh : (c ≤ 239) = True := eq_true (by omega)
  have xi : (c != 237) = true := by simp <;> omega
  have xj : (c == 237) = false := by simp <;> omega
  have xk : (c == 240) = false := by simp <;> omega
  have xl : (c ≥ 241) = False := eq_false (by omega)
  have xm : (c ≤ 243) = True := eq_true (by omega)
  have xn : (c == 244) = false := by simp <;> omega
  refine f72 rfl ?_
  unfold sizeL
  rw [← e]
  simp (disch := omega) only [go_sem, and_self, and_true, true_and, false_and, and_false, Nat.reduceAdd, Nat.reduceMul, Nat.reduceSub, Nat.reduceLeDiff, Nat.reduceLT, Nat.reduceGT, Nat.reduceEqDiff, Nat.reduceBEq, Int.reduceNeg, Int.reduceEq, Int.reduceLT, Int.reduceLE, Int.reduceBEq, Int.reduceToNat, Int.toNat_natCast, Int.natCast_zero, r72_T, r72, va, hc, xa, xb, xd, xe, xf, xh, xi, xj, xk, xl, xm, xn, decide_true, decide_false, Bool.true_and, Bool.false_and, Bool.true_or, Bool.false_or, Bool.and_false, Bool.and_true, Int.natCast_one]
  try rfl

theorem size_2 (s : ByteArray) (c : Int) (h0 : 0 < s.size) (hc : ((s[0].toNat : Nat) : Int) = c) (g1 : c ≥ 194) (g2 : c ≤ 223) (hp : List Ent) : F tab 72 [.d (.str s)] hp = some (.ret (.d (iv (sizeL (bs s)))) hp) := by
  obtain ⟨va, vd⟩ := bs_get h0
  have e := bs_nb h0
  rw [hc] at e
  have xa : (c < 128) = False := eq_false (by omega)
  have xb : (c ≥ 194) = True := eq_true (by omega)
  have xd : (c ≤ 223) = True := eq_true (by omega)
  have xe : (c == 224) = false := by simp <;> omega
  have xf : (c ≥ 225) = False := eq_false (by omega)
  have xh : (c ≤ 239) = True := eq_true (by omega)
  have xi : (c != 237) = true := by simp <;> omega
  have xj : (c == 237) = false := by simp <;> omega
  have xk : (c == 240) = false := by simp <;> omega
  have xl : (c ≥ 241) = False := eq_false (by omega)
  have xm : (c ≤ 243) = True := eq_true (by omega)
  have xn : (c == 244) = false := by simp <;> omega
  have ht : ∀ hp, F tab 80 [.d (.str s), .d (iv 1), .d (.int .u8 128), .d (.int .u8 191)] hp = _ := tail_ok s 1 128 191 (by omega) (by omega)
  refine f72 rfl ?_
  unfold sizeL
  rw [← e]
  rcases Bool.eq_false_or_eq_true (tailL (bs s) 1 128 191) with g | g <;> rw [g] at ht <;>
    simp (disch := omega) only [go_sem, and_self, and_true, true_and, false_and, and_false, Nat.reduceAdd, Nat.reduceMul, Nat.reduceSub, Nat.reduceLeDiff, Nat.reduceLT, Nat.reduceGT, Nat.reduceEqDiff, Nat.reduceBEq, Int.reduceNeg, Int.reduceEq, Int.reduceLT, Int.reduceLE, Int.reduceBEq, Int.reduceToNat, Int.toNat_natCast, Int.natCast_zero, r72_T, r72, va, hc, xa, xb, xd, xe, xf, xh, xi, xj, xk, xl, xm, xn, ht, g, decide_true, decide_false, Bool.true_and, Bool.false_and, Bool.true_or, Bool.false_or, Bool.and_false, Bool.and_true, Int.natCast_one] <;> rfl

theorem size_3 (s : ByteArray) (c : Int) (h0 : 0 < s.size) (hc : ((s[0].toNat : Nat) : Int) = c) (g1 : c ≥ 224) (g2 : c ≤ 224) (hp : List Ent) : F tab 72 [.d (.str s)] hp = some (.ret (.d (iv (sizeL (bs s)))) hp) := by
  obtain ⟨va, vd⟩ := bs_get h0
  have e := bs_nb h0
  rw [hc] at e
  have xa : (c < 128) = False := eq_false (by omega)
  have xb : (c ≥ 194) = True := eq_true (by omega)
  have xd : (c ≤ 223) = False := eq_false (by omega)
  have xe : (c == 224) = true := by simp <;> omega
  have xf : (c ≥ 225) = False := eq_false (by omega)
  have xh : (c ≤ 239) = True := eq_true (by omega)
  have xi : (c != 237) = true := by simp <;> omega
  have xj : (c == 237) = false := by simp <;> omega
  have xk : (c == 240) = false := by simp <;> omega
  have xl : (c ≥ 241) = False := eq_false (by omega)
  have xm : (c ≤ 243) = True := eq_true (by omega)
  have xn : (c == 244) = false := by simp <;> omega
  have ht : ∀ hp, F tab 80 [.d (.str s), .d (iv 2), .d (.int .u8 160), .d (.int .u8 191)] hp = _ := tail_ok s 2 160 191 (by omega) (by omega)
  refine f72 rfl ?_
  unfold sizeL
  rw [← e]
  rcases Bool.eq_false_or_eq_true (tailL (bs s) 2 160 191) with g | g <;> rw [g] at ht <;>
    simp (disch := omega) only [go_sem, and_self, and_true, true_and, false_and, and_false, Nat.reduceAdd, Nat.reduceMul, Nat.reduceSub, Nat.reduceLeDiff, Nat.reduceLT, Nat.reduceGT, Nat.reduceEqDiff, Nat.reduceBEq, Int.reduceNeg, Int.reduceEq, Int.reduceLT, Int.reduceLE, Int.reduceBEq, Int.reduceToNat, Int.toNat_natCast, Int.natCast_zero, r72_T, r72, va, hc, xa, xb, xd, xe, xf, xh, xi, xj, xk, xl, xm, xn, ht, g, decide_true, decide_false, Bool.true_and, Bool.false_and, Bool.true_or, Bool.false_or, Bool.and_false, Bool.and_true, Int.natCast_one] <;> rfl

theorem size_4 (s : ByteArray) (c : Int) (h0 : 0 < s.size) (hc : ((s[0].toNat : Nat) : Int) = c) (g1 : c ≥ 225) (g2 : c ≤ 236) (hp : List Ent) : F tab 72 [.d (.str s)] hp = some (.ret (.d (iv (sizeL (bs s)))) hp) := by
  obtain ⟨va, vd⟩ := bs_get h0
  have e := bs_nb h0
  rw [hc] at e
  have xa : (c < 128) = False := eq_false (by omega)
  have xb : (c ≥ 194) = True := eq_true (by omega)
  have xd : (c ≤ 223) = False := eq_false (by omega)
  have xe : (c == 224) = false := by simp <;> omega
  have xf : (c ≥ 225) = True := eq_true (by omega)
  have xh : (c ≤ 239) = True := eq_true (by omega)
  have xi : (c != 237) = true := by simp <;> omega
  have xj : (c == 237) = false := by simp <;> omega
  have xk : (c == 240) = false := by simp <;> omega
  have xl : (c ≥ 241) = False := eq_false (by omega)
  have xm : (c ≤ 243) = True := eq_true (by omega)
  have xn : (c == 244) = false := by simp <;> omega
  have ht : ∀ hp, F tab 80 [.d (.str s), .d (iv 2), .d (.int .u8 128), .d (.int .u8 191)] hp = _ := tail_ok s 2 128 191 (by omega) (by omega)
  refine f72 rfl ?_
  unfold sizeL
  rw [← e]
  rcases Bool.eq_false_or_eq_true (tailL (bs s) 2 128 191) with g | g <;> rw [g] at ht <;>
    simp (disch := omega) only [go_sem, and_self, and_true, true_and, false_and, and_false, Nat.reduceAdd, Nat.reduceMul, Nat.reduceSub, Nat.reduceLeDiff, Nat.reduceLT, Nat.reduceGT, Nat.reduceEqDiff, Nat.reduceBEq, Int.reduceNeg, Int.reduceEq, Int.reduceLT, Int.reduceLE, Int.reduceBEq, Int.reduceToNat, Int.toNat_natCast, Int.natCast_zero, r72_T, r72, va, hc, xa, xb, xd, xe, xf, xh, xi, xj, xk, xl, xm, xn, ht, g, decide_true, decide_false, Bool.true_and, Bool.false_and, Bool.true_or, Bool.false_or, Bool.and_false, Bool.and_true, Int.natCast_one] <;> rfl

theorem size_5 (s : ByteArray) (c : Int) (h0 : 0 < s.size) (hc : ((s[0].toNat : Nat) : Int) = c) (g1 : c ≥ 237) (g2 : c ≤ 237) (hp : List Ent) : F tab 72 [.d (.str s)] hp = some (.ret (.d (iv (sizeL (bs s)))) hp) := by
  obtain ⟨va, vd⟩ := bs_get h0
  have e := bs_nb h0
  rw [hc] at e
  have xa : (c < 128) = False := eq_false (by omega)
  have xb : (c ≥ 194) = True := eq_true (by omega)
  have xd : (c ≤ 223) = False := eq_false (by omega)
  have xe : (c == 224) = false := by simp <;> omega
  have xf : (c ≥ 225) = True := eq_true (by omega)
  have xh : (c ≤ 239) = True := eq_true (by omega)
  have xi : (c != 237) = false := by simp <;> omega
  have xj : (c == 237) = true := by simp <;> omega
  have xk : (c == 240) = false := by simp <;> omega
  have xl : (c ≥ 241) = False := eq_false (by omega)
  have xm : (c ≤ 243) = True := eq_true (by omega)
  have xn : (c == 244) = false := by simp <;> omega
  have ht : ∀ hp, F tab 80 [.d (.str s), .d (iv 2), .d (.int .u8 128), .d (.int .u8 159)] hp = _ := tail_ok s 2 128 159 (by omega) (by omega)
  refine f72 rfl ?_
  unfold sizeL
  rw [← e]
  rcases Bool.eq_false_or_eq_true (tailL (bs s) 2 128 159) with g | g <;> rw [g] at ht <;>
    simp (disch := omega) only [go_sem, and_self, and_true, true_and, false_and, and_false, Nat.reduceAdd, Nat.reduceMul, Nat.reduceSub, Nat.reduceLeDiff, Nat.reduceLT, Nat.reduceGT, Nat.reduceEqDiff, Nat.reduceBEq, Int.reduceNeg, Int.reduceEq, Int.reduceLT, Int.reduceLE, Int.reduceBEq, Int.reduceToNat, Int.toNat_natCast, Int.natCast_zero, r72_T, r72, va, hc, xa, xb, xd, xe, xf, xh, xi, xj, xk, xl, xm, xn, ht, g, decide_true, decide_false, Bool.true_and, Bool.false_and, Bool.true_or, Bool.false_or, Bool.and_false, Bool.and_true, Int.natCast_one] <;> rfl

theorem size_6 (s : ByteArray) (c : Int) (h0 : 0 < s.size) (hc : ((s[0].toNat : Nat) : Int) = c) (g1 : c ≥ 238) (g2 : c ≤ 239) (hp : List Ent) : F tab 72 [.d (.str s)] hp = some (.ret (.d (iv (sizeL (bs s)))) hp) := by
  obtain ⟨va, vd⟩ := bs_get h0
  have e := bs_nb h0
  rw [hc] at e
  have xa : (c < 128) = False := eq_false (by omega)
  have xb : (c ≥ 194) = True := eq_true (by omega)
  have xd : (c ≤ 223) = False := eq_false (by omega)
  have xe : (c == 224) = false := by simp <;> omega
  have xf : (c ≥ 225) = True := eq_true (by omega)
  have xh : (c ≤ 239) = True := eq_true (by omega)
  have xi : (c != 237) = true := by simp <;> omega
  have xj : (c == 237) = false := by simp <;> omega
  have xk : (c == 240) = false := by simp <;> omega
  have xl : (c ≥ 241) = False := eq_false (by omega)
  have xm : (c ≤ 243) = True := eq_true (by omega)
  have xn : (c == 244) = false := by simp <;> omega
  have ht : ∀ hp, F tab 80 [.d (.str s), .d (iv 2), .d (.int .u8 128), .d (.int .u8 191)] hp = _ := tail_ok s 2 128 191 (by omega) (by omega)
  refine f72 rfl ?_
  unfold sizeL
  rw [← e]
  rcases Bool.eq_false_or_eq_true (tailL (bs s) 2 128 191) with g | g <;> rw [g] at ht <;>
    simp (disch := omega) only [go_sem, and_self, and_true, true_and, false_and, and_false, Nat.reduceAdd, Nat.reduceMul, Nat.reduceSub, Nat.reduceLeDiff, Nat.reduceLT, Nat.reduceGT, Nat.reduceEqDiff, Nat.reduceBEq, Int.reduceNeg, Int.reduceEq, Int.reduceLT, Int.reduceLE, Int.reduceBEq, Int.reduceToNat, Int.toNat_natCast, Int.natCast_zero, r72_T, r72, va, hc, xa, xb, xd, xe, xf, xh, xi, xj, xk, xl, xm, xn, ht, g, decide_true, decide_false, Bool.true_and, Bool.false_and, Bool.true_or, Bool.false_or, Bool.and_false, Bool.and_true, Int.natCast_one] <;> rfl

theorem size_7 (s : ByteArray) (c : Int) (h0 : 0 < s.size) (hc : ((s[0].toNat : Nat) : Int) = c) (g1 : c ≥ 240) (g2 : c ≤ 240) (hp : List Ent) : F tab 72 [.d (.str s)] hp = some (.ret (.d (iv (sizeL (bs s)))) hp) := by
  obtain ⟨va, vd⟩ := bs_get h0
  have e := bs_nb h0
  rw [hc] at e
  have xa : (c < 128) = False := eq_false (by omega)
  have xb : (c ≥ 194) = True := eq_true (by omega)
  have xd : (c ≤ 223) = False := eq_false (by omega)
  have xe : (c == 224) = false := by simp <;> omega
  have xf : (c ≥ 225) = True := eq_true (by omega)
  have xh : (c ≤ 239) = False := eq_false (by omega)
  have xi : (c != 237) = true := by simp <;> omega
  have xj : (c == 237) = false := by simp <;> omega
  have xk : (c == 240) = true := by simp <;> omega
  have xl : (c ≥ 241) = False := eq_false (by omega)
  have xm : (c ≤ 243) = True := eq_true (by omega)
  have xn : (c == 244) = false := by simp <;> omega
  have ht : ∀ hp, F tab 80 [.d (.str s), .d (iv 3), .d (.int .u8 144), .d (.int .u8 191)] hp = _ := tail_ok s 3 144 191 (by omega) (by omega)
  refine f72 rfl ?_
  unfold sizeL
  rw [← e]
  rcases Bool.eq_false_or_eq_true (tailL (bs s) 3 144 191) with g | g <;> rw [g] at ht <;>
    simp (disch := omega) only [go_sem, and_self, and_true, true_and, false_and, and_false, Nat.reduceAdd, Nat.reduceMul, Nat.reduceSub, Nat.reduceLeDiff, Nat.reduceLT, Nat.reduceGT, Nat.reduceEqDiff, Nat.reduceBEq, Int.reduceNeg, Int.reduceEq, Int.reduceLT, Int.reduceLE, Int.reduceBEq, Int.reduceToNat, Int.toNat_natCast, Int.natCast_zero, r72_T, r72, va, hc, xa, xb, xd, xe, xf, xh, xi, xj, xk, xl, xm, xn, ht, g, decide_true, decide_false, Bool.true_and, Bool.false_and, Bool.true_or, Bool.false_or, Bool.and_false, Bool.and_true, Int.natCast_one] <;> rfl

theorem size_8 (s : ByteArray) (c : Int) (h0 : 0 < s.size) (hc : ((s[0].toNat : Nat) : Int) = c) (g1 : c ≥ 241) (g2 : c ≤ 243) (hp : List Ent) : F tab 72 [.d (.str s)] hp = some (.ret (.d (iv (sizeL (bs s)))) hp) := by
  obtain ⟨va, vd⟩ := bs_get h0
  have e := bs_nb h0
  rw [hc] at e
  have xa : (c < 128) = False := eq_false (by omega)
  have xb : (c ≥ 194) = True := eq_true (by omega)
  have xd : (c ≤ 223) = False := eq_false (by omega)
  have xe : (c == 224) = false := by simp <;> omega
  have xf : (c ≥ 225) = True := eq_true (by omega)
  have xh : (c ≤ 239) = False := eq_false (by omega)
  have xi : (c != 237) = true := by simp <;> omega
  have xj : (c == 237) = false := by simp <;> omega
  have xk : (c == 240) = false := by simp <;> omega
  have xl : (c ≥ 241) = True := eq_true (by omega)
  have xm : (c ≤ 243) = True := eq_true (by omega)
  have xn : (c == 244) = false := by simp <;> omega
  have ht : ∀ hp, F tab 80 [.d (.str s), .d (iv 3), .d (.int .u8 128), .d (.int .u8 191)] hp = _ := tail_ok s 3 128 191 (by omega) (by omega)
  refine f72 rfl ?_
  unfold sizeL
  rw [← e]
  rcases Bool.eq_false_or_eq_true (tailL (bs s) 3 128 191) with g | g <;> rw [g] at ht <;>
    simp (disch := omega) only [go_sem, and_self, and_true, true_and, false_and, and_false, Nat.reduceAdd, Nat.reduceMul, Nat.reduceSub, Nat.reduceLeDiff, Nat.reduceLT, Nat.reduceGT, Nat.reduceEqDiff, Nat.reduceBEq, Int.reduceNeg, Int.reduceEq, Int.reduceLT, Int.reduceLE, Int.reduceBEq, Int.reduceToNat, Int.toNat_natCast, Int.natCast_zero, r72_T, r72, va, hc, xa, xb, xd, xe, xf, xh, xi, xj, xk, xl, xm, xn, ht, g, decide_true, decide_false, Bool.true_and, Bool.false_and, Bool.true_or, Bool.false_or, Bool.and_false, Bool.and_true, Int.natCast_one] <;> rfl

theorem size_9 (s : ByteArray) (c : Int) (h0 : 0 < s.size) (hc : ((s[0].toNat : Nat) : Int) = c) (g1 : c ≥ 244) (g2 : c ≤ 244) (hp : List Ent) : F tab 72 [.d (.str s)] hp = some (.ret (.d (iv (sizeL (bs s)))) hp) := by
  obtain ⟨va, vd⟩ := bs_get h0
  have e := bs_nb h0
  rw [hc] at e
  have xa : (c < 128) = False := eq_false (by omega)
  have xb : (c ≥ 194) = True := eq_true (by omega)
  have xd : (c ≤ 223) = False := eq_false (by omega)
  have xe : (c == 224) = false := by simp <;> omega
  have xf : (c ≥ 225) = True := eq_true (by omega)
  have xh : (c ≤ 239) = False := eq_false (by omega)
  have xi : (c != 237) = true := by simp <;> omega
  have xj : (c == 237) = false := by simp <;> omega
  have xk : (c == 240) = false := by simp <;> omega
  have xl : (c ≥ 241) = True := eq_true (by omega)
  have xm : (c ≤ 243) = False := eq_false (by omega)
  have xn : (c == 244) = true := by simp <;> omega
  have ht : ∀ hp, F tab 80 [.d (.str s), .d (iv 3), .d (.int .u8 128), .d (.int .u8 143)] hp = _ := tail_ok s 3 128 143 (by omega) (by omega)
  refine f72 rfl ?_
  unfold sizeL
  rw [← e]
  rcases Bool.eq_false_or_eq_true (tailL (bs s) 3 128 143) with g | g <;> rw [g] at ht <;>
    simp (disch := omega) only [go_sem, and_self, and_true, true_and, false_and, and_false, Nat.reduceAdd, Nat.reduceMul, Nat.reduceSub, Nat.reduceLeDiff, Nat.reduceLT, Nat.reduceGT, Nat.reduceEqDiff, Nat.reduceBEq, Int.reduceNeg, Int.reduceEq, Int.reduceLT, Int.reduceLE, Int.reduceBEq, Int.reduceToNat, Int.toNat_natCast, Int.natCast_zero, r72_T, r72, va, hc, xa, xb, xd, xe, xf, xh, xi, xj, xk, xl, xm, xn, ht, g, decide_true, decide_false, Bool.true_and, Bool.false_and, Bool.true_or, Bool.false_or, Bool.and_false, Bool.and_true, Int.natCast_one] <;> rfl

theorem size_10 (s : ByteArray) (c : Int) (h0 : 0 < s.size) (hc : ((s[0].toNat : Nat) : Int) = c) (g1 : c ≥ 245) (g2 : c ≤ 255) (hp : List Ent) : F tab 72 [.d (.str s)] hp = some (.ret (.d (iv (sizeL (bs s)))) hp) := by
  obtain ⟨va, vd⟩ := bs_get h0
  have e := bs_nb h0
  rw [hc] at e
  have xa : (c < 128) = False := eq_false (by omega)
  have xb : (c ≥ 194) = True := eq_true (by omega)
  have xd : (c ≤ 223) = False := eq_false (by omega)
  have xe : (c == 224) = false := by simp <;> omega
  have xf : (c ≥ 225) = True := eq_true (by omega)
  have xh : (c ≤ 239) = False := eq_false (by omega)
  have xi : (c != 237) = true := by simp <;> omega
  have xj : (c == 237) = false := by simp <;> omega
  have xk : (c == 240) = false := by simp <;> omega
  have xl : (c ≥ 241) = True := eq_true (by omega)
  have xm : (c ≤ 243) = False := eq_false (by omega)
  have xn : (c == 244) = false := by simp <;> omega
  refine f72 rfl ?_
  unfold sizeL
  rw [← e]
  simp (disch := omega) only [go_sem, and_self, and_true, true_and, false_and, and_false, Nat.reduceAdd, Nat.reduceMul, Nat.reduceSub, Nat.reduceLeDiff, Nat.reduceLT, Nat.reduceGT, Nat.reduceEqDiff, Nat.reduceBEq, Int.reduceNeg, Int.reduceEq, Int.reduceLT, Int.reduceLE, Int.reduceBEq, Int.reduceToNat, Int.toNat_natCast, Int.natCast_zero, r72_T, r72, va, hc, xa, xb, xd, xe, xf, xh, xi, xj, xk, xl, xm, xn, decide_true, decide_false, Bool.true_and, Bool.false_and, Bool.true_or, Bool.false_or, Bool.and_false, Bool.and_true, Int.natCast_one]
  try rfl

theorem usize_ok (s : ByteArray) (h0 : 0 < s.size) (hp : List Ent) : F tab 72 [.d (.str s)] hp = some (.ret (.d (iv (sizeL (bs s)))) hp) := by
  have hb : s[0].toNat < 256 := UInt8.toNat_lt _
  by_cases c0 : ((s[0].toNat : Nat) : Int) ≤ 127
  · exact size_0 s _ h0 rfl (by omega) (by omega) hp
  by_cases c1 : ((s[0].toNat : Nat) : Int) ≤ 193
  · exact size_1 s _ h0 rfl (by omega) (by omega) hp
  by_cases c2 : ((s[0].toNat : Nat) : Int) ≤ 223
  · exact size_2 s _ h0 rfl (by omega) (by omega) hp
  by_cases c3 : ((s[0].toNat : Nat) : Int) ≤ 224
  · exact size_3 s _ h0 rfl (by omega) (by omega) hp
  by_cases c4 : ((s[0].toNat : Nat) : Int) ≤ 236
  · exact size_4 s _ h0 rfl (by omega) (by omega) hp
  by_cases c5 : ((s[0].toNat : Nat) : Int) ≤ 237
  · exact size_5 s _ h0 rfl (by omega) (by omega) hp
  by_cases c6 : ((s[0].toNat : Nat) : Int) ≤ 239
  · exact size_6 s _ h0 rfl (by omega) (by omega) hp
  by_cases c7 : ((s[0].toNat : Nat) : Int) ≤ 240
  · exact size_7 s _ h0 rfl (by omega) (by omega) hp
  by_cases c8 : ((s[0].toNat : Nat) : Int) ≤ 243
  · exact size_8 s _ h0 rfl (by omega) (by omega) hp
  by_cases c9 : ((s[0].toNat : Nat) : Int) ≤ 244
  · exact size_9 s _ h0 rfl (by omega) (by omega) hp
  exact size_10 s _ h0 rfl (by omega) (by omega) hp
end Go.Pe.T

namespace Go.Pe.T

abbrev numD (c s : Int) : D := .agg [iv c, iv s]

def numIs (c s : Int) : Bool := decide (0 ≤ s) && decide (s ≤ 9) && decide (-1000000000000000 < c) && decide (c < 1000000000000000) && (s == 0 || c.tmod 10 != 0)

theorem numIs_ok (c s : Int) (hp : List Ent) : F tab 71 [.d (numD c s)] hp = some (.ret (.d (.bool (numIs c s))) hp) := by
  refine f71 rfl ?_
  by_cases h1 : s < 0
  · have g1 : ¬ (0 ≤ s) := by omega
    simp only [go_sem, and_self, and_true, true_and, false_and, and_false, Nat.reduceAdd, Nat.reduceMul, Nat.reduceSub, Nat.reduceLeDiff, Nat.reduceLT, Nat.reduceGT, Nat.reduceEqDiff, Nat.reduceBEq, Int.reduceNeg, Int.reduceEq, Int.reduceLT, Int.reduceLE, Int.reduceBEq, Int.reduceToNat, Int.toNat_natCast, Int.natCast_zero, r71_T, r71, numIs, h1, g1]
  · have g1 : 0 ≤ s := by omega
    by_cases h2 : s > 9
    · have g2 : ¬ (s ≤ 9) := by omega
      simp only [go_sem, and_self, and_true, true_and, false_and, and_false, Nat.reduceAdd, Nat.reduceMul, Nat.reduceSub, Nat.reduceLeDiff, Nat.reduceLT, Nat.reduceGT, Nat.reduceEqDiff, Nat.reduceBEq, Int.reduceNeg, Int.reduceEq, Int.reduceLT, Int.reduceLE, Int.reduceBEq, Int.reduceToNat, Int.toNat_natCast, Int.natCast_zero, r71_T, r71, numIs, h1, g1, h2, g2]
    · have g2 : s ≤ 9 := by omega
      by_cases h3 : c ≤ -1000000000000000
      · have g3 : ¬ (-1000000000000000 < c) := by omega
        simp only [go_sem, and_self, and_true, true_and, false_and, and_false, Nat.reduceAdd, Nat.reduceMul, Nat.reduceSub, Nat.reduceLeDiff, Nat.reduceLT, Nat.reduceGT, Nat.reduceEqDiff, Nat.reduceBEq, Int.reduceNeg, Int.reduceEq, Int.reduceLT, Int.reduceLE, Int.reduceBEq, Int.reduceToNat, Int.toNat_natCast, Int.natCast_zero, r71_T, r71, numIs, h1, g1, h2, g2, h3, g3]
      · have g3 : -1000000000000000 < c := by omega
        by_cases h4 : c ≥ 1000000000000000
        · have g4 : ¬ (c < 1000000000000000) := by omega
          simp only [go_sem, and_self, and_true, true_and, false_and, and_false, Nat.reduceAdd, Nat.reduceMul, Nat.reduceSub, Nat.reduceLeDiff, Nat.reduceLT, Nat.reduceGT, Nat.reduceEqDiff, Nat.reduceBEq, Int.reduceNeg, Int.reduceEq, Int.reduceLT, Int.reduceLE, Int.reduceBEq, Int.reduceToNat, Int.toNat_natCast, Int.natCast_zero, r71_T, r71, numIs, h1, g1, h2, g2, h3, g3, h4, g4]
        · have g4 : c < 1000000000000000 := by omega
          by_cases h5 : s = 0
          · subst h5
            simp only [go_sem, and_self, and_true, true_and, false_and, and_false, Nat.reduceAdd, Nat.reduceMul, Nat.reduceSub, Nat.reduceLeDiff, Nat.reduceLT, Nat.reduceGT, Nat.reduceEqDiff, Nat.reduceBEq, Int.reduceNeg, Int.reduceEq, Int.reduceLT, Int.reduceLE, Int.reduceBEq, Int.reduceToNat, Int.toNat_natCast, Int.natCast_zero, r71_T, r71, numIs, h1, g1, h2, g2, h3, g3, h4, g4, Bool.true_or]
          · have g5 : (s == 0) = false := by simpa using h5
            simp only [go_sem, and_self, and_true, true_and, false_and, and_false, Nat.reduceAdd, Nat.reduceMul, Nat.reduceSub, Nat.reduceLeDiff, Nat.reduceLT, Nat.reduceGT, Nat.reduceEqDiff, Nat.reduceBEq, Int.reduceNeg, Int.reduceEq, Int.reduceLT, Int.reduceLE, Int.reduceBEq, Int.reduceToNat, Int.toNat_natCast, Int.natCast_zero, r71_T, r71, numIs, h1, g1, h2, g2, h3, g3, h4, g4, g5, Bool.false_or]

theorem bs_drop (s : ByteArray) (k : Nat) : bs (s.extract k s.size) = (bs s).drop k := by
  simp [bs, ByteArray.data_extract]
  rw [List.take_of_length_le]
  simp
theorem size_drop (s : ByteArray) (k : Nat) : (s.extract k s.size).size = s.size - k := by
  rw [← bs_len, bs_drop, List.length_drop, bs_len]

def VdIs (k : Nat) (s : ByteArray) : Prop :=
  V (F tab) r52_B0 (r52_S0 (.d (.str s)) []) = if validF k (bs s) then some (.norm, r52_E0 []) else some (.ret, r52_R (.d (.bool false)) [])
theorem vd_end (k : Nat) (s : ByteArray) (h : s.size = 0) : VdIs k s := by
  have e := isE s
  have g : decide (s.size ≠ 0) = false := decide_eq_false (by omega)
  have hb : bs s = [] := List.eq_nil_of_length_eq_zero h
  unfold VdIs
  rw [r52_B0_eq, hb]
  cases k <;> simp (disch := omega) only [go_sem, and_self, and_true, true_and, false_and, and_false, Nat.reduceAdd, Nat.reduceMul, Nat.reduceSub, Nat.reduceLeDiff, Nat.reduceLT, Nat.reduceGT, Nat.reduceEqDiff, Nat.reduceBEq, Int.reduceNeg, Int.reduceEq, Int.reduceLT, Int.reduceLE, Int.reduceBEq, Int.reduceToNat, Int.toNat_natCast, Int.natCast_zero, r52_C0, strD_neq, e, g, Bool.not_true, Bool.not_false, validF]
theorem vd_step (k : Nat) (s : ByteArray) (h : 0 < s.size) (hs : s.size ≤ maxLen) (ih : 0 < sizeL (bs s) → VdIs k (s.extract (sizeL (bs s)) s.size)) : VdIs (k + 1) s := by
  have hmx : maxLen = 9223372036854775807 := by decide
  have e := isE s
  have g : decide (s.size ≠ 0) = true := decide_eq_true (by omega)
  have hz := usize_ok s h
  have hne : bs s ≠ [] := by
    intro e0
    have := bs_len s
    rw [e0, List.length_nil] at this
    omega
  have hle := sizeL_le (bs s) hne
  rw [bs_len] at hle
  unfold VdIs at ih ⊢
  rw [r52_B0_eq]
  obtain ⟨c, r, hcr⟩ : ∃ c r, bs s = c :: r := by cases hb : bs s with | nil => exact absurd hb hne | cons c r => exact ⟨c, r, rfl⟩
  by_cases h0 : sizeL (bs s) = 0
  · have g0 : validF (k + 1) (bs s) = false := by rw [hcr] at h0 ⊢; simp [validF, h0]
    have g1 : ((sizeL (bs s) : Int) == 0) = true := by simp [h0]
    rw [g0]
    simp (disch := omega) only [go_sem, and_self, and_true, true_and, false_and, and_false, Nat.reduceAdd, Nat.reduceMul, Nat.reduceSub, Nat.reduceLeDiff, Nat.reduceLT, Nat.reduceGT, Nat.reduceEqDiff, Nat.reduceBEq, Int.reduceNeg, Int.reduceEq, Int.reduceLT, Int.reduceLE, Int.reduceBEq, Int.reduceToNat, Int.toNat_natCast, Int.natCast_zero, r52_C0, strD_neq, e, g, Bool.not_true, Bool.not_false, hz, g1]
  · have g0 : validF (k + 1) (bs s) = validF k ((bs s).drop (sizeL (bs s))) := by rw [hcr] at h0 ⊢; simp [validF, h0]
    have g1 : ((sizeL (bs s) : Int) == 0) = false := by simp [h0]
    have ih := ih (by omega)
    rw [bs_drop] at ih
    have h1 : ((sizeL (bs s) : Int) ≤ (s.size : Int)) = True := eq_true (by omega)
    have h2 : (0 ≤ (sizeL (bs s) : Int)) = True := eq_true (by omega)
    have h3 : ((s.size : Int) ≤ (s.size : Int)) = True := eq_true (by omega)
    rw [g0]
    simp (disch := omega) only [go_sem, and_self, and_true, true_and, false_and, and_false, Nat.reduceAdd, Nat.reduceMul, Nat.reduceSub, Nat.reduceLeDiff, Nat.reduceLT, Nat.reduceGT, Nat.reduceEqDiff, Nat.reduceBEq, Int.reduceNeg, Int.reduceEq, Int.reduceLT, Int.reduceLE, Int.reduceBEq, Int.reduceToNat, Int.toNat_natCast, Int.natCast_zero, r52_C0, strD_neq, e, g, Bool.not_true, Bool.not_false, hz, g1, h1, h2, h3, decide_true]
    exact ih
theorem vd_all : ∀ (k : Nat) (s : ByteArray), s.size ≤ k → s.size ≤ maxLen → VdIs k s
  | 0, s, h, _ => vd_end 0 s (by omega)
  | k + 1, s, h, hs => by
    by_cases h0 : s.size = 0
    · exact vd_end _ s h0
    · exact vd_step k s (by omega) hs fun hp => vd_all k _ (by rw [size_drop]; omega) (by rw [size_drop]; omega)
theorem valid_ok (s : ByteArray) (hs : s.size ≤ maxLen) (hp : List Ent) : F tab 52 [.d (.str s)] hp = some (.ret (.d (.bool (validB s))) hp) := by
  have hL := vd_all s.size s (Nat.le_refl _) hs
  unfold VdIs at hL
  refine f52 rfl ?_
  unfold validB
  simp (disch := omega) only [go_sem, and_self, and_true, true_and, false_and, and_false, Nat.reduceAdd, Nat.reduceMul, Nat.reduceSub, Nat.reduceLeDiff, Nat.reduceLT, Nat.reduceGT, Nat.reduceEqDiff, Nat.reduceBEq, Int.reduceNeg, Int.reduceEq, Int.reduceLT, Int.reduceLE, Int.reduceBEq, Int.reduceToNat, Int.toNat_natCast, Int.natCast_zero, r52_T, r52]
  rw [r52_B0_n]
  erw [hL]
  rcases Bool.eq_false_or_eq_true (validF s.size (bs s)) with g | g <;> rw [g] <;> simp only [go_sem, and_self, and_true, true_and, false_and, and_false, Nat.reduceAdd, Nat.reduceMul, Nat.reduceSub, Nat.reduceLeDiff, Nat.reduceLT, Nat.reduceGT, Nat.reduceEqDiff, Nat.reduceBEq, Int.reduceNeg, Int.reduceEq, Int.reduceLT, Int.reduceLE, Int.reduceBEq, Int.reduceToNat, Int.toNat_natCast, Int.natCast_zero]
end Go.Pe.T

namespace Go.Pe.T

def hasB (l : List ByteArray) (s : ByteArray) : Bool := l.any fun x => x.toList == s.toList

theorem hasB_drop {l : List ByteArray} {s : ByteArray} {i : Nat} (hi : i < l.length) : hasB (l.drop i) s = ((l[i].toList == s.toList) || hasB (l.drop (i + 1)) s) := by
  rw [List.drop_eq_getElem_cons hi]; rfl

def IdxLoop (l : List ByteArray) (s : ByteArray) (i : Nat) : Prop :=
  ∃ k : Nat, V (F tab) r73_B0 (r73_S0 (.d (.sl (l.map .str))) (.d (.str s)) (.d (iv l.length)) (.d (iv i)) []) = if hasB (l.drop i) s then some (.ret, r73_R (.d (iv k)) []) else some (.norm, r73_E0 [])

theorem idx_end (l : List ByteArray) (s : ByteArray) (i : Nat) (hi : l.length ≤ i) : IdxLoop l s i := by
  have h1 : ((i : Int) < (l.length : Int)) = False := eq_false (by omega)
  refine ⟨0, ?_⟩
  rw [r73_B0_eq, List.drop_of_length_le hi]
  simp (disch := omega) only [go_sem, and_self, and_true, true_and, false_and, and_false, Nat.reduceAdd, Nat.reduceMul, Nat.reduceSub, Nat.reduceLeDiff, Nat.reduceLT, Nat.reduceGT, Nat.reduceEqDiff, Nat.reduceBEq, Int.reduceNeg, Int.reduceEq, Int.reduceLT, Int.reduceLE, Int.reduceBEq, Int.reduceToNat, Int.toNat_natCast, Int.natCast_zero, r73_C0, h1, List.length_map, hasB, List.any_nil]
theorem idx_step (l : List ByteArray) (s : ByteArray) (i : Nat) (hi : i < l.length) (hl : l.length ≤ maxLen) (ih : IdxLoop l s (i + 1)) : IdxLoop l s i := by
  have hmx : maxLen = 9223372036854775807 := by decide
  have h1 : ((i : Int) < (l.length : Int)) = True := eq_true (by omega)
  have hi0 : (0 ≤ (i : Int)) = True := eq_true (by omega)
  have va : (l.map D.str)[i]? = some (.str l[i]) := by simp [hi]
  obtain ⟨k, ih⟩ := ih
  rw [Int.natCast_add, Int.natCast_one] at ih
  rcases Bool.eq_false_or_eq_true (l[i].toList == s.toList) with g | g
  · refine ⟨i, ?_⟩
    have g' : (s.toList == l[i].toList) = true := by rw [BEq.comm]; exact g
    rw [r73_B0_eq, hasB_drop hi]
    simp (disch := omega) only [go_sem, and_self, and_true, true_and, false_and, and_false, Nat.reduceAdd, Nat.reduceMul, Nat.reduceSub, Nat.reduceLeDiff, Nat.reduceLT, Nat.reduceGT, Nat.reduceEqDiff, Nat.reduceBEq, Int.reduceNeg, Int.reduceEq, Int.reduceLT, Int.reduceLE, Int.reduceBEq, Int.reduceToNat, Int.toNat_natCast, Int.natCast_zero, r73_C0, h1, hi0, va, g, g', strD_eql, List.length_map, w64, Bool.true_or]
  · refine ⟨k, ?_⟩
    have g' : (s.toList == l[i].toList) = false := by rw [BEq.comm]; exact g
    rw [r73_B0_eq, hasB_drop hi]
    simp (disch := omega) only [go_sem, and_self, and_true, true_and, false_and, and_false, Nat.reduceAdd, Nat.reduceMul, Nat.reduceSub, Nat.reduceLeDiff, Nat.reduceLT, Nat.reduceGT, Nat.reduceEqDiff, Nat.reduceBEq, Int.reduceNeg, Int.reduceEq, Int.reduceLT, Int.reduceLE, Int.reduceBEq, Int.reduceToNat, Int.toNat_natCast, Int.natCast_zero, r73_C0, h1, hi0, va, g, g', strD_eql, List.length_map, w64, Bool.false_or]
    exact ih
theorem idx_loop (l : List ByteArray) (s : ByteArray) (hl : l.length ≤ maxLen) : ∀ (j i : Nat), i + j = l.length → IdxLoop l s i
  | 0, i, hi => idx_end l s i (by omega)
  | j + 1, i, hi => idx_step l s i (by omega) hl (idx_loop l s hl j (i + 1) (by omega))

theorem idx_ok (l : List ByteArray) (s : ByteArray) (hl : l.length ≤ maxLen) : ∃ k : Int, (decide (k ≥ 0) = hasB l s) ∧ ∀ hp, F tab 73 [.d (.sl (l.map .str)), .d (.str s)] hp = some (.ret (.d (iv k)) hp) := by
  obtain ⟨k, hL⟩ := idx_loop l s hl l.length 0 (by omega)
  rw [List.drop_zero] at hL
  rcases Bool.eq_false_or_eq_true (hasB l s) with g | g
  · refine ⟨k, by rw [g]; simp, fun hp => f73 rfl ?_⟩
    simp (disch := omega) only [go_sem, and_self, and_true, true_and, false_and, and_false, Nat.reduceAdd, Nat.reduceMul, Nat.reduceSub, Nat.reduceLeDiff, Nat.reduceLT, Nat.reduceGT, Nat.reduceEqDiff, Nat.reduceBEq, Int.reduceNeg, Int.reduceEq, Int.reduceLT, Int.reduceLE, Int.reduceBEq, Int.reduceToNat, Int.toNat_natCast, Int.natCast_zero, r73_T, r73, List.length_map]
    rw [r73_B0_n]
    erw [hL]
    rw [g]
    simp only [go_sem, and_self, and_true, true_and, false_and, and_false, Nat.reduceAdd, Nat.reduceMul, Nat.reduceSub, Nat.reduceLeDiff, Nat.reduceLT, Nat.reduceGT, Nat.reduceEqDiff, Nat.reduceBEq, Int.reduceNeg, Int.reduceEq, Int.reduceLT, Int.reduceLE, Int.reduceBEq, Int.reduceToNat, Int.toNat_natCast, Int.natCast_zero]
  · refine ⟨-1, by rw [g]; simp, fun hp => f73 rfl ?_⟩
    simp (disch := omega) only [go_sem, and_self, and_true, true_and, false_and, and_false, Nat.reduceAdd, Nat.reduceMul, Nat.reduceSub, Nat.reduceLeDiff, Nat.reduceLT, Nat.reduceGT, Nat.reduceEqDiff, Nat.reduceBEq, Int.reduceNeg, Int.reduceEq, Int.reduceLT, Int.reduceLE, Int.reduceBEq, Int.reduceToNat, Int.toNat_natCast, Int.natCast_zero, r73_T, r73, List.length_map]
    rw [r73_B0_n]
    erw [hL]
    rw [g]
    simp only [go_sem, and_self, and_true, true_and, false_and, and_false, Nat.reduceAdd, Nat.reduceMul, Nat.reduceSub, Nat.reduceLeDiff, Nat.reduceLT, Nat.reduceGT, Nat.reduceEqDiff, Nat.reduceBEq, Int.reduceNeg, Int.reduceEq, Int.reduceLT, Int.reduceLE, Int.reduceBEq, Int.reduceToNat, Int.toNat_natCast, Int.natCast_zero]

theorem con_ok (l : List ByteArray) (s : ByteArray) (hl : l.length ≤ maxLen) (hp : List Ent) : F tab 53 [.d (.sl (l.map .str)), .d (.str s)] hp = some (.ret (.d (.bool (hasB l s))) hp) := by
  obtain ⟨k, h1, h2⟩ := idx_ok l s hl
  refine f53 rfl ?_
  simp only [go_sem, and_self, and_true, true_and, false_and, and_false, Nat.reduceAdd, Nat.reduceMul, Nat.reduceSub, Nat.reduceLeDiff, Nat.reduceLT, Nat.reduceGT, Nat.reduceEqDiff, Nat.reduceBEq, Int.reduceNeg, Int.reduceEq, Int.reduceLT, Int.reduceLE, Int.reduceBEq, Int.reduceToNat, Int.toNat_natCast, Int.natCast_zero, r53_T, r53, h2, h1]

theorem con_nil (s : ByteArray) (hp : List Ent) : F tab 53 [.nilsl, .d (.str s)] hp = some (.ret (.d (.bool false)) hp) := by
  have h : ∀ hp, F tab 73 [.nilsl, .d (.str s)] hp = some (.ret (.d (iv (-1))) hp) := by
    intro hp
    refine f73 rfl ?_
    simp (disch := omega) only [go_sem, and_self, and_true, true_and, false_and, and_false, Nat.reduceAdd, Nat.reduceMul, Nat.reduceSub, Nat.reduceLeDiff, Nat.reduceLT, Nat.reduceGT, Nat.reduceEqDiff, Nat.reduceBEq, Int.reduceNeg, Int.reduceEq, Int.reduceLT, Int.reduceLE, Int.reduceBEq, Int.reduceToNat, Int.toNat_natCast, Int.natCast_zero, r73_T, r73, List.length_nil]
    rw [r73_B0_n, r73_B0_eq]
    simp (disch := omega) only [go_sem, and_self, and_true, true_and, false_and, and_false, Nat.reduceAdd, Nat.reduceMul, Nat.reduceSub, Nat.reduceLeDiff, Nat.reduceLT, Nat.reduceGT, Nat.reduceEqDiff, Nat.reduceBEq, Int.reduceNeg, Int.reduceEq, Int.reduceLT, Int.reduceLE, Int.reduceBEq, Int.reduceToNat, Int.toNat_natCast, Int.natCast_zero, r73_C0, List.length_nil]
  refine f53 rfl ?_
  simp only [go_sem, and_self, and_true, true_and, false_and, and_false, Nat.reduceAdd, Nat.reduceMul, Nat.reduceSub, Nat.reduceLeDiff, Nat.reduceLT, Nat.reduceGT, Nat.reduceEqDiff, Nat.reduceBEq, Int.reduceNeg, Int.reduceEq, Int.reduceLT, Int.reduceLE, Int.reduceBEq, Int.reduceToNat, Int.toNat_natCast, Int.natCast_zero, r53_T, r53, h]
  rfl

end Go.Pe.T

namespace Go.Pe.T

def keysL : List ByteArray := [⟨#[100, 101, 102]⟩, ⟨#[105, 102]⟩, ⟨#[116, 104, 101, 110]⟩, ⟨#[101, 108, 115, 101]⟩, ⟨#[101, 110, 100]⟩, ⟨#[116, 114, 121]⟩, ⟨#[99, 97, 116, 99, 104]⟩, ⟨#[114, 101, 100, 117, 99, 101]⟩, ⟨#[102, 111, 114, 101, 97, 99, 104]⟩, ⟨#[97, 115]⟩, ⟨#[108, 97, 98, 101, 108]⟩, ⟨#[98, 114, 101, 97, 107]⟩, ⟨#[97, 110, 100]⟩, ⟨#[111, 114]⟩, ⟨#[116, 114, 117, 101]⟩, ⟨#[102, 97, 108, 115, 101]⟩, ⟨#[110, 117, 108, 108]⟩, ⟨#[101, 109, 112, 116, 121]⟩, ⟨#[114, 101, 108, 101, 97, 115, 101]⟩, ⟨#[114, 97, 110, 103, 101]⟩]
def keyB (s : ByteArray) : Bool := keysL.any fun k => s.toList == k.toList
def okI (i : Nat) (c : UInt8) : Bool := letB c.toNat || (decide (i > 0) && digB c.toNat)
def runL : Nat → List UInt8 → Nat
  | _, [] => 0
  | i, c :: r => if okI i c then runL (i + 1) r + 1 else 0
theorem runL_le : ∀ (l : List UInt8) (i : Nat), runL i l ≤ l.length
  | [], i => Nat.le_refl _
  | c :: r, i => by
    have := runL_le r (i + 1)
    simp only [runL, List.length_cons]
    split <;> omega
def identB (s : ByteArray) : Bool := decide (s.size ≠ 0) && (decide (s.size ≤ 16) && (decide (runL 0 (bs s) = s.size) && !keyB s))

def WdLoop (s : ByteArray) (i : Nat) : Prop :=
  V (F tab) r60_B0 (r60_S0 (.d (.str s)) (.d (iv i)) []) = some (.norm, r60_E0 (.d (.str s)) (.d (iv (i + runL i ((bs s).drop i) : Nat))) [])
theorem wd_end (s : ByteArray) (i : Nat) (hi : s.size ≤ i) : WdLoop s i := by
  have h1 : ((i : Int) < (s.size : Int)) = False := eq_false (by omega)
  unfold WdLoop
  rw [r60_B0_eq, bs_end hi]
  simp (disch := omega) only [go_sem, and_self, and_true, true_and, false_and, and_false, Nat.reduceAdd, Nat.reduceMul, Nat.reduceSub, Nat.reduceLeDiff, Nat.reduceLT, Nat.reduceGT, Nat.reduceEqDiff, Nat.reduceBEq, Int.reduceNeg, Int.reduceEq, Int.reduceLT, Int.reduceLE, Int.reduceBEq, Int.reduceToNat, Int.toNat_natCast, Int.natCast_zero, r60_C0, h1, runL, Nat.add_zero]
theorem wd_step (s : ByteArray) (hs : s.size ≤ maxLen) (i : Nat) (hi : i < s.size) (ih : WdLoop s (i + 1)) : WdLoop s i := by
  have hmx : maxLen = 9223372036854775807 := by decide
  have h1 : ((i : Int) < (s.size : Int)) = True := eq_true (by omega)
  have hi0 : (0 ≤ (i : Int)) = True := eq_true (by omega)
  obtain ⟨va, vd⟩ := bs_get hi
  have hl := letter_ok s[i].toNat
  have hd := digit_ok s[i].toNat
  unfold WdLoop at ih ⊢
  have e1 : ((i + 1 : Nat) : Int) = (i : Int) + 1 := rfl
  have e0 : decide ((i : Int) > 0) = decide (i > 0) := by by_cases h : i = 0 <;> simp [h] <;> omega
  rw [r60_B0_eq, vd]
  simp only [runL, okI]
  rcases Bool.eq_false_or_eq_true (letB s[i].toNat) with g1 | g1
  · rw [g1] at hl
    have e2 : i + (runL (i + 1) ((bs s).drop (i + 1)) + 1) = i + 1 + runL (i + 1) ((bs s).drop (i + 1)) := by omega
    simp (disch := omega) only [go_sem, and_self, and_true, true_and, false_and, and_false, Nat.reduceAdd, Nat.reduceMul, Nat.reduceSub, Nat.reduceLeDiff, Nat.reduceLT, Nat.reduceGT, Nat.reduceEqDiff, Nat.reduceBEq, Int.reduceNeg, Int.reduceEq, Int.reduceLT, Int.reduceLE, Int.reduceBEq, Int.reduceToNat, Int.toNat_natCast, Int.natCast_zero, r60_C0, h1, hi0, va, w64, hl, g1, Bool.true_or, e2]
    rw [e1] at ih
    exact ih
  · rw [g1] at hl
    rcases Bool.eq_false_or_eq_true (decide (i > 0)) with g2 | g2
    · rcases Bool.eq_false_or_eq_true (digB s[i].toNat) with g3 | g3
      · rw [g3] at hd
        have e2 : i + (runL (i + 1) ((bs s).drop (i + 1)) + 1) = i + 1 + runL (i + 1) ((bs s).drop (i + 1)) := by omega
        simp (disch := omega) only [go_sem, and_self, and_true, true_and, false_and, and_false, Nat.reduceAdd, Nat.reduceMul, Nat.reduceSub, Nat.reduceLeDiff, Nat.reduceLT, Nat.reduceGT, Nat.reduceEqDiff, Nat.reduceBEq, Int.reduceNeg, Int.reduceEq, Int.reduceLT, Int.reduceLE, Int.reduceBEq, Int.reduceToNat, Int.toNat_natCast, Int.natCast_zero, r60_C0, h1, hi0, va, w64, hl, hd, g1, g2, g3, e0, Bool.false_or, Bool.true_and, e2]
        rw [e1] at ih
        exact ih
      · rw [g3] at hd
        simp (disch := omega) only [go_sem, and_self, and_true, true_and, false_and, and_false, Nat.reduceAdd, Nat.reduceMul, Nat.reduceSub, Nat.reduceLeDiff, Nat.reduceLT, Nat.reduceGT, Nat.reduceEqDiff, Nat.reduceBEq, Int.reduceNeg, Int.reduceEq, Int.reduceLT, Int.reduceLE, Int.reduceBEq, Int.reduceToNat, Int.toNat_natCast, Int.natCast_zero, r60_C0, h1, hi0, va, w64, hl, hd, g1, g2, g3, e0, Bool.false_or, Bool.true_and, Nat.add_zero]
    · simp (disch := omega) only [go_sem, and_self, and_true, true_and, false_and, and_false, Nat.reduceAdd, Nat.reduceMul, Nat.reduceSub, Nat.reduceLeDiff, Nat.reduceLT, Nat.reduceGT, Nat.reduceEqDiff, Nat.reduceBEq, Int.reduceNeg, Int.reduceEq, Int.reduceLT, Int.reduceLE, Int.reduceBEq, Int.reduceToNat, Int.toNat_natCast, Int.natCast_zero, r60_C0, h1, hi0, va, w64, hl, g1, g2, e0, Bool.false_or, Bool.false_and, Nat.add_zero]
theorem wd_loop (s : ByteArray) (hs : s.size ≤ maxLen) : ∀ (j i : Nat), i + j = s.size → WdLoop s i
  | 0, i, hi => wd_end s i (by omega)
  | j + 1, i, hi => wd_step s hs i (by omega) (wd_loop s hs j (i + 1) (by omega))
theorem word_ok (s : ByteArray) (hs : s.size ≤ maxLen) (hp : List Ent) : F tab 60 [.d (.str s)] hp = some (.ret (.d (.str (s.extract 0 (runL 0 (bs s))))) hp) := by
  have hL := wd_loop s hs s.size 0 (by omega)
  unfold WdLoop at hL
  rw [List.drop_zero, Nat.zero_add] at hL
  have hle := runL_le (bs s) 0
  rw [bs_len] at hle
  have h1 : ((runL 0 (bs s) : Int) ≤ (s.size : Int)) = True := eq_true (by omega)
  refine f60 rfl ?_
  simp (disch := omega) only [go_sem, and_self, and_true, true_and, false_and, and_false, Nat.reduceAdd, Nat.reduceMul, Nat.reduceSub, Nat.reduceLeDiff, Nat.reduceLT, Nat.reduceGT, Nat.reduceEqDiff, Nat.reduceBEq, Int.reduceNeg, Int.reduceEq, Int.reduceLT, Int.reduceLE, Int.reduceBEq, Int.reduceToNat, Int.toNat_natCast, Int.natCast_zero, r60_T, r60]
  rw [r60_B0_n]
  erw [hL]
  have h0 : (0 ≤ (runL 0 (bs s) : Int)) = True := eq_true (by omega)
  simp (disch := omega) only [go_sem, and_self, and_true, true_and, false_and, and_false, Nat.reduceAdd, Nat.reduceMul, Nat.reduceSub, Nat.reduceLeDiff, Nat.reduceLT, Nat.reduceGT, Nat.reduceEqDiff, Nat.reduceBEq, Int.reduceNeg, Int.reduceEq, Int.reduceLT, Int.reduceLE, Int.reduceBEq, Int.reduceToNat, Int.toNat_natCast, Int.natCast_zero, h0, h1, decide_true]
theorem bs_take (s : ByteArray) (k : Nat) : bs (s.extract 0 k) = (bs s).take k := by
  simp [bs, ByteArray.data_extract]
theorem word_eq (s : ByteArray) (k : Nat) (hk : k ≤ s.size) : ((s.extract 0 k).toList == s.toList) = decide (k = s.size) := by
  rw [bs_toList, bs_toList, bs_take]
  by_cases h : k = s.size
  · subst h
    rw [List.take_of_length_le (Nat.le_of_eq (bs_len s))]
    simp
  · have : (bs s).take k ≠ bs s := fun e => h (by have := congrArg List.length e; rw [List.length_take, bs_len] at this; omega)
    simp [h, this]

theorem key_ok (s : ByteArray) (hp : List Ent) : F tab 67 [.d (.str s)] hp = some (.ret (.d (.bool (keyB s))) hp) := by
  refine f67 rfl ?_
  simp only [keyB, keysL, List.any_cons, List.any_nil]
  rcases Bool.eq_false_or_eq_true (s.toList == (⟨#[100, 101, 102]⟩ : ByteArray).toList) with g0 | g0
  · simp only [go_sem, and_self, and_true, true_and, false_and, and_false, Nat.reduceAdd, Nat.reduceMul, Nat.reduceSub, Nat.reduceLeDiff, Nat.reduceLT, Nat.reduceGT, Nat.reduceEqDiff, Nat.reduceBEq, Int.reduceNeg, Int.reduceEq, Int.reduceLT, Int.reduceLE, Int.reduceBEq, Int.reduceToNat, Int.toNat_natCast, Int.natCast_zero, r67_T, r67, strD_eql, g0, Bool.true_or, Bool.false_or]
  rcases Bool.eq_false_or_eq_true (s.toList == (⟨#[105, 102]⟩ : ByteArray).toList) with g1 | g1
  · simp only [go_sem, and_self, and_true, true_and, false_and, and_false, Nat.reduceAdd, Nat.reduceMul, Nat.reduceSub, Nat.reduceLeDiff, Nat.reduceLT, Nat.reduceGT, Nat.reduceEqDiff, Nat.reduceBEq, Int.reduceNeg, Int.reduceEq, Int.reduceLT, Int.reduceLE, Int.reduceBEq, Int.reduceToNat, Int.toNat_natCast, Int.natCast_zero, r67_T, r67, strD_eql, g0, g1, Bool.true_or, Bool.false_or]
  rcases Bool.eq_false_or_eq_true (s.toList == (⟨#[116, 104, 101, 110]⟩ : ByteArray).toList) with g2 | g2
  · simp only [go_sem, and_self, and_true, true_and, false_and, and_false, Nat.reduceAdd, Nat.reduceMul, Nat.reduceSub, Nat.reduceLeDiff, Nat.reduceLT, Nat.reduceGT, Nat.reduceEqDiff, Nat.reduceBEq, Int.reduceNeg, Int.reduceEq, Int.reduceLT, Int.reduceLE, Int.reduceBEq, Int.reduceToNat, Int.toNat_natCast, Int.natCast_zero, r67_T, r67, strD_eql, g0, g1, g2, Bool.true_or, Bool.false_or]
  rcases Bool.eq_false_or_eq_true (s.toList == (⟨#[101, 108, 115, 101]⟩ : ByteArray).toList) with g3 | g3
  · simp only [go_sem, and_self, and_true, true_and, false_and, and_false, Nat.reduceAdd, Nat.reduceMul, Nat.reduceSub, Nat.reduceLeDiff, Nat.reduceLT, Nat.reduceGT, Nat.reduceEqDiff, Nat.reduceBEq, Int.reduceNeg, Int.reduceEq, Int.reduceLT, Int.reduceLE, Int.reduceBEq, Int.reduceToNat, Int.toNat_natCast, Int.natCast_zero, r67_T, r67, strD_eql, g0, g1, g2, g3, Bool.true_or, Bool.false_or]
  rcases Bool.eq_false_or_eq_true (s.toList == (⟨#[101, 110, 100]⟩ : ByteArray).toList) with g4 | g4
  · simp only [go_sem, and_self, and_true, true_and, false_and, and_false, Nat.reduceAdd, Nat.reduceMul, Nat.reduceSub, Nat.reduceLeDiff, Nat.reduceLT, Nat.reduceGT, Nat.reduceEqDiff, Nat.reduceBEq, Int.reduceNeg, Int.reduceEq, Int.reduceLT, Int.reduceLE, Int.reduceBEq, Int.reduceToNat, Int.toNat_natCast, Int.natCast_zero, r67_T, r67, strD_eql, g0, g1, g2, g3, g4, Bool.true_or, Bool.false_or]
  rcases Bool.eq_false_or_eq_true (s.toList == (⟨#[116, 114, 121]⟩ : ByteArray).toList) with g5 | g5
  · simp only [go_sem, and_self, and_true, true_and, false_and, and_false, Nat.reduceAdd, Nat.reduceMul, Nat.reduceSub, Nat.reduceLeDiff, Nat.reduceLT, Nat.reduceGT, Nat.reduceEqDiff, Nat.reduceBEq, Int.reduceNeg, Int.reduceEq, Int.reduceLT, Int.reduceLE, Int.reduceBEq, Int.reduceToNat, Int.toNat_natCast, Int.natCast_zero, r67_T, r67, strD_eql, g0, g1, g2, g3, g4, g5, Bool.true_or, Bool.false_or]
  rcases Bool.eq_false_or_eq_true (s.toList == (⟨#[99, 97, 116, 99, 104]⟩ : ByteArray).toList) with g6 | g6
  · simp only [go_sem, and_self, and_true, true_and, false_and, and_false, Nat.reduceAdd, Nat.reduceMul, Nat.reduceSub, Nat.reduceLeDiff, Nat.reduceLT, Nat.reduceGT, Nat.reduceEqDiff, Nat.reduceBEq, Int.reduceNeg, Int.reduceEq, Int.reduceLT, Int.reduceLE, Int.reduceBEq, Int.reduceToNat, Int.toNat_natCast, Int.natCast_zero, r67_T, r67, strD_eql, g0, g1, g2, g3, g4, g5, g6, Bool.true_or, Bool.false_or]
  rcases Bool.eq_false_or_eq_true (s.toList == (⟨#[114, 101, 100, 117, 99, 101]⟩ : ByteArray).toList) with g7 | g7
  · simp only [go_sem, and_self, and_true, true_and, false_and, and_false, Nat.reduceAdd, Nat.reduceMul, Nat.reduceSub, Nat.reduceLeDiff, Nat.reduceLT, Nat.reduceGT, Nat.reduceEqDiff, Nat.reduceBEq, Int.reduceNeg, Int.reduceEq, Int.reduceLT, Int.reduceLE, Int.reduceBEq, Int.reduceToNat, Int.toNat_natCast, Int.natCast_zero, r67_T, r67, strD_eql, g0, g1, g2, g3, g4, g5, g6, g7, Bool.true_or, Bool.false_or]
  rcases Bool.eq_false_or_eq_true (s.toList == (⟨#[102, 111, 114, 101, 97, 99, 104]⟩ : ByteArray).toList) with g8 | g8
  · simp only [go_sem, and_self, and_true, true_and, false_and, and_false, Nat.reduceAdd, Nat.reduceMul, Nat.reduceSub, Nat.reduceLeDiff, Nat.reduceLT, Nat.reduceGT, Nat.reduceEqDiff, Nat.reduceBEq, Int.reduceNeg, Int.reduceEq, Int.reduceLT, Int.reduceLE, Int.reduceBEq, Int.reduceToNat, Int.toNat_natCast, Int.natCast_zero, r67_T, r67, strD_eql, g0, g1, g2, g3, g4, g5, g6, g7, g8, Bool.true_or, Bool.false_or]
  rcases Bool.eq_false_or_eq_true (s.toList == (⟨#[97, 115]⟩ : ByteArray).toList) with g9 | g9
  · simp only [go_sem, and_self, and_true, true_and, false_and, and_false, Nat.reduceAdd, Nat.reduceMul, Nat.reduceSub, Nat.reduceLeDiff, Nat.reduceLT, Nat.reduceGT, Nat.reduceEqDiff, Nat.reduceBEq, Int.reduceNeg, Int.reduceEq, Int.reduceLT, Int.reduceLE, Int.reduceBEq, Int.reduceToNat, Int.toNat_natCast, Int.natCast_zero, r67_T, r67, strD_eql, g0, g1, g2, g3, g4, g5, g6, g7, g8, g9, Bool.true_or, Bool.false_or]
  rcases Bool.eq_false_or_eq_true (s.toList == (⟨#[108, 97, 98, 101, 108]⟩ : ByteArray).toList) with g10 | g10
  · simp only [go_sem, and_self, and_true, true_and, false_and, and_false, Nat.reduceAdd, Nat.reduceMul, Nat.reduceSub, Nat.reduceLeDiff, Nat.reduceLT, Nat.reduceGT, Nat.reduceEqDiff, Nat.reduceBEq, Int.reduceNeg, Int.reduceEq, Int.reduceLT, Int.reduceLE, Int.reduceBEq, Int.reduceToNat, Int.toNat_natCast, Int.natCast_zero, r67_T, r67, strD_eql, g0, g1, g2, g3, g4, g5, g6, g7, g8, g9, g10, Bool.true_or, Bool.false_or]
  rcases Bool.eq_false_or_eq_true (s.toList == (⟨#[98, 114, 101, 97, 107]⟩ : ByteArray).toList) with g11 | g11
  · simp only [go_sem, and_self, and_true, true_and, false_and, and_false, Nat.reduceAdd, Nat.reduceMul, Nat.reduceSub, Nat.reduceLeDiff, Nat.reduceLT, Nat.reduceGT, Nat.reduceEqDiff, Nat.reduceBEq, Int.reduceNeg, Int.reduceEq, Int.reduceLT, Int.reduceLE, Int.reduceBEq, Int.reduceToNat, Int.toNat_natCast, Int.natCast_zero, r67_T, r67, strD_eql, g0, g1, g2, g3, g4, g5, g6, g7, g8, g9, g10, g11, Bool.true_or, Bool.false_or]
  rcases Bool.eq_false_or_eq_true (s.toList == (⟨#[97, 110, 100]⟩ : ByteArray).toList) with g12 | g12
  · simp only [go_sem, and_self, and_true, true_and, false_and, and_false, Nat.reduceAdd, Nat.reduceMul, Nat.reduceSub, Nat.reduceLeDiff, Nat.reduceLT, Nat.reduceGT, Nat.reduceEqDiff, Nat.reduceBEq, Int.reduceNeg, Int.reduceEq, Int.reduceLT, Int.reduceLE, Int.reduceBEq, Int.reduceToNat, Int.toNat_natCast, Int.natCast_zero, r67_T, r67, strD_eql, g0, g1, g2, g3, g4, g5, g6, g7, g8, g9, g10, g11, g12, Bool.true_or, Bool.false_or]
  rcases Bool.eq_false_or_eq_true (s.toList == (⟨#[111, 114]⟩ : ByteArray).toList) with g13 | g13
  · simp only [go_sem, and_self, and_true, true_and, false_and, and_false, Nat.reduceAdd, Nat.reduceMul, Nat.reduceSub, Nat.reduceLeDiff, Nat.reduceLT, Nat.reduceGT, Nat.reduceEqDiff, Nat.reduceBEq, Int.reduceNeg, Int.reduceEq, Int.reduceLT, Int.reduceLE, Int.reduceBEq, Int.reduceToNat, Int.toNat_natCast, Int.natCast_zero, r67_T, r67, strD_eql, g0, g1, g2, g3, g4, g5, g6, g7, g8, g9, g10, g11, g12, g13, Bool.true_or, Bool.false_or]
  rcases Bool.eq_false_or_eq_true (s.toList == (⟨#[116, 114, 117, 101]⟩ : ByteArray).toList) with g14 | g14
  · simp only [go_sem, and_self, and_true, true_and, false_and, and_false, Nat.reduceAdd, Nat.reduceMul, Nat.reduceSub, Nat.reduceLeDiff, Nat.reduceLT, Nat.reduceGT, Nat.reduceEqDiff, Nat.reduceBEq, Int.reduceNeg, Int.reduceEq, Int.reduceLT, Int.reduceLE, Int.reduceBEq, Int.reduceToNat, Int.toNat_natCast, Int.natCast_zero, r67_T, r67, strD_eql, g0, g1, g2, g3, g4, g5, g6, g7, g8, g9, g10, g11, g12, g13, g14, Bool.true_or, Bool.false_or]
  rcases Bool.eq_false_or_eq_true (s.toList == (⟨#[102, 97, 108, 115, 101]⟩ : ByteArray).toList) with g15 | g15
  · simp only [go_sem, and_self, and_true, true_and, false_and, and_false, Nat.reduceAdd, Nat.reduceMul, Nat.reduceSub, Nat.reduceLeDiff, Nat.reduceLT, Nat.reduceGT, Nat.reduceEqDiff, Nat.reduceBEq, Int.reduceNeg, Int.reduceEq, Int.reduceLT, Int.reduceLE, Int.reduceBEq, Int.reduceToNat, Int.toNat_natCast, Int.natCast_zero, r67_T, r67, strD_eql, g0, g1, g2, g3, g4, g5, g6, g7, g8, g9, g10, g11, g12, g13, g14, g15, Bool.true_or, Bool.false_or]
  rcases Bool.eq_false_or_eq_true (s.toList == (⟨#[110, 117, 108, 108]⟩ : ByteArray).toList) with g16 | g16
  · simp only [go_sem, and_self, and_true, true_and, false_and, and_false, Nat.reduceAdd, Nat.reduceMul, Nat.reduceSub, Nat.reduceLeDiff, Nat.reduceLT, Nat.reduceGT, Nat.reduceEqDiff, Nat.reduceBEq, Int.reduceNeg, Int.reduceEq, Int.reduceLT, Int.reduceLE, Int.reduceBEq, Int.reduceToNat, Int.toNat_natCast, Int.natCast_zero, r67_T, r67, strD_eql, g0, g1, g2, g3, g4, g5, g6, g7, g8, g9, g10, g11, g12, g13, g14, g15, g16, Bool.true_or, Bool.false_or]
  rcases Bool.eq_false_or_eq_true (s.toList == (⟨#[101, 109, 112, 116, 121]⟩ : ByteArray).toList) with g17 | g17
  · simp only [go_sem, and_self, and_true, true_and, false_and, and_false, Nat.reduceAdd, Nat.reduceMul, Nat.reduceSub, Nat.reduceLeDiff, Nat.reduceLT, Nat.reduceGT, Nat.reduceEqDiff, Nat.reduceBEq, Int.reduceNeg, Int.reduceEq, Int.reduceLT, Int.reduceLE, Int.reduceBEq, Int.reduceToNat, Int.toNat_natCast, Int.natCast_zero, r67_T, r67, strD_eql, g0, g1, g2, g3, g4, g5, g6, g7, g8, g9, g10, g11, g12, g13, g14, g15, g16, g17, Bool.true_or, Bool.false_or]
  rcases Bool.eq_false_or_eq_true (s.toList == (⟨#[114, 101, 108, 101, 97, 115, 101]⟩ : ByteArray).toList) with g18 | g18
  · simp only [go_sem, and_self, and_true, true_and, false_and, and_false, Nat.reduceAdd, Nat.reduceMul, Nat.reduceSub, Nat.reduceLeDiff, Nat.reduceLT, Nat.reduceGT, Nat.reduceEqDiff, Nat.reduceBEq, Int.reduceNeg, Int.reduceEq, Int.reduceLT, Int.reduceLE, Int.reduceBEq, Int.reduceToNat, Int.toNat_natCast, Int.natCast_zero, r67_T, r67, strD_eql, g0, g1, g2, g3, g4, g5, g6, g7, g8, g9, g10, g11, g12, g13, g14, g15, g16, g17, g18, Bool.true_or, Bool.false_or]
  rcases Bool.eq_false_or_eq_true (s.toList == (⟨#[114, 97, 110, 103, 101]⟩ : ByteArray).toList) with g19 | g19
  · simp only [go_sem, and_self, and_true, true_and, false_and, and_false, Nat.reduceAdd, Nat.reduceMul, Nat.reduceSub, Nat.reduceLeDiff, Nat.reduceLT, Nat.reduceGT, Nat.reduceEqDiff, Nat.reduceBEq, Int.reduceNeg, Int.reduceEq, Int.reduceLT, Int.reduceLE, Int.reduceBEq, Int.reduceToNat, Int.toNat_natCast, Int.natCast_zero, r67_T, r67, strD_eql, g0, g1, g2, g3, g4, g5, g6, g7, g8, g9, g10, g11, g12, g13, g14, g15, g16, g17, g18, g19, Bool.true_or, Bool.false_or]
  simp only [go_sem, and_self, and_true, true_and, false_and, and_false, Nat.reduceAdd, Nat.reduceMul, Nat.reduceSub, Nat.reduceLeDiff, Nat.reduceLT, Nat.reduceGT, Nat.reduceEqDiff, Nat.reduceBEq, Int.reduceNeg, Int.reduceEq, Int.reduceLT, Int.reduceLE, Int.reduceBEq, Int.reduceToNat, Int.toNat_natCast, Int.natCast_zero, r67_T, r67, strD_eql, g0, g1, g2, g3, g4, g5, g6, g7, g8, g9, g10, g11, g12, g13, g14, g15, g16, g17, g18, g19, Bool.true_or, Bool.false_or]

theorem ident_ok (s : ByteArray) (hs : s.size ≤ maxLen) (hp : List Ent) : F tab 51 [.d (.str s)] hp = some (.ret (.d (.bool (identB s))) hp) := by
  have e := isE s
  have hw := word_ok s hs
  have hk := key_ok s
  have hle := runL_le (bs s) 0
  rw [bs_len] at hle
  have e1 := word_eq s _ hle
  have e2 : decide ((s.size : Int) ≤ 16) = decide (s.size ≤ 16) := by by_cases h : s.size ≤ 16 <;> simp [h] <;> omega
  refine f51 rfl ?_
  unfold identB
  rcases Bool.eq_false_or_eq_true (decide (s.size ≠ 0)) with g1 | g1
  · rcases Bool.eq_false_or_eq_true (decide (s.size ≤ 16)) with g2 | g2
    · rcases Bool.eq_false_or_eq_true (decide (runL 0 (bs s) = s.size)) with g3 | g3
      · simp (disch := omega) only [go_sem, and_self, and_true, true_and, false_and, and_false, Nat.reduceAdd, Nat.reduceMul, Nat.reduceSub, Nat.reduceLeDiff, Nat.reduceLT, Nat.reduceGT, Nat.reduceEqDiff, Nat.reduceBEq, Int.reduceNeg, Int.reduceEq, Int.reduceLT, Int.reduceLE, Int.reduceBEq, Int.reduceToNat, Int.toNat_natCast, Int.natCast_zero, r51_T, r51, strD_eql, strD_neq, e, e2, g1, g2, g3, hw, e1, hk, Bool.not_true, Bool.not_false, Bool.true_and]
      · simp (disch := omega) only [go_sem, and_self, and_true, true_and, false_and, and_false, Nat.reduceAdd, Nat.reduceMul, Nat.reduceSub, Nat.reduceLeDiff, Nat.reduceLT, Nat.reduceGT, Nat.reduceEqDiff, Nat.reduceBEq, Int.reduceNeg, Int.reduceEq, Int.reduceLT, Int.reduceLE, Int.reduceBEq, Int.reduceToNat, Int.toNat_natCast, Int.natCast_zero, r51_T, r51, strD_eql, strD_neq, e, e2, g1, g2, g3, hw, e1, hk, Bool.not_true, Bool.not_false, Bool.true_and, Bool.false_and]
    · simp (disch := omega) only [go_sem, and_self, and_true, true_and, false_and, and_false, Nat.reduceAdd, Nat.reduceMul, Nat.reduceSub, Nat.reduceLeDiff, Nat.reduceLT, Nat.reduceGT, Nat.reduceEqDiff, Nat.reduceBEq, Int.reduceNeg, Int.reduceEq, Int.reduceLT, Int.reduceLE, Int.reduceBEq, Int.reduceToNat, Int.toNat_natCast, Int.natCast_zero, r51_T, r51, strD_eql, strD_neq, e, e2, g1, g2, Bool.not_true, Bool.not_false, Bool.true_and, Bool.false_and]
  · simp (disch := omega) only [go_sem, and_self, and_true, true_and, false_and, and_false, Nat.reduceAdd, Nat.reduceMul, Nat.reduceSub, Nat.reduceLeDiff, Nat.reduceLT, Nat.reduceGT, Nat.reduceEqDiff, Nat.reduceBEq, Int.reduceNeg, Int.reduceEq, Int.reduceLT, Int.reduceLE, Int.reduceBEq, Int.reduceToNat, Int.toNat_natCast, Int.natCast_zero, r51_T, r51, strD_eql, strD_neq, e, e2, g1, Bool.not_true, Bool.not_false, Bool.true_and, Bool.false_and]
end Go.Pe.T

namespace Go.Pe.T


theorem take_more {α : Type} (a b : List α) (n : Nat) (h : a.length < n) : a ++ b.take (n - a.length) = (a ++ b).take n := by
  rw [List.take_append, List.take_of_length_le (Nat.le_of_lt h)]
theorem take_app {α : Type} (a b : List α) (n : Nat) : (a.take n ++ b).take n = (a ++ b).take n := by
  simp only [List.take_append, List.take_take, Nat.min_self, List.length_take]
  congr 2
  omega

theorem xencs_all (a : List Xp) : ((Xp.encs a).all fun y => y.width == 8) = true := by
  simp only [List.all_eq_true, beq_iff_eq]
  intro y hy
  rw [xencs_eq, List.mem_map] at hy
  obtain ⟨x, _, rfl⟩ := hy
  exact xenc_w x
theorem row_len {a b k : Nat} (hk : k ≤ 1000) (h : a + b ≤ 1000000) : ((a + b) * k ≤ maxRow) = True :=
  eq_true (by
    have := Nat.mul_le_mul h hk
    simp only [maxRow]
    omega)

def AllIs (e : Xp) (m : Nat) : Prop := ∀ hp : List Ent, F tab 10 [.d e.enc, .d (iv m)] hp = some (.ret (.d (.sl (Xp.encs (e.pre.take m)))) hp)

def AllLoop (o : Int) (t : ByteArray) (p k c s : Int) (ns : List D) (xs : List Xp) (m i : Nat) (l : List Xp) : Prop :=
    V (F tab) r10_B0 (r10_S0 (.d (iv m)) (.ibox [.d (iv o), .d (.str t), .d (iv p), .d (iv k), .d (iv c), .d (iv s), .d (.sl ns), .d (.sl (Xp.encs xs))]) (.own 27 (Xp.encs l)) (.d (iv i)) []) =
      some (.norm, r10_E0 (.own 27 (Xp.encs ((l ++ Xp.pres (xs.drop i)).take m))) [])

theorem all_end (o : Int) (t : ByteArray) (p k c s : Int) (ns : List D) (xs : List Xp) (m i : Nat) (l : List Xp) (hlm : l.length ≤ m) (hi : xs.length ≤ i) : AllLoop o t p k c s ns xs m i l := by
  have h1 : ((i : Int) < (xs.length : Int)) = False := eq_false (by omega)
  unfold AllLoop
  rw [r10_B0_eq, List.drop_of_length_le hi, Xp.pres, List.append_nil, List.take_of_length_le hlm]
  simp (disch := omega) only [go_sem, and_self, and_true, true_and, false_and, and_false, Nat.reduceAdd, Nat.reduceMul, Nat.reduceSub, Nat.reduceLeDiff, Nat.reduceLT, Nat.reduceGT, Nat.reduceEqDiff, Nat.reduceBEq, Int.reduceNeg, Int.reduceEq, Int.reduceLT, Int.reduceLE, Int.reduceBEq, Int.reduceToNat, Int.toNat_natCast, Int.natCast_zero, r10_C0, h1, xencs_len]

theorem all_full (o : Int) (t : ByteArray) (p k c s : Int) (ns : List D) (xs : List Xp) (m i : Nat) (l : List Xp) (hlm : l.length = m) (hi : i < xs.length) : AllLoop o t p k c s ns xs m i l := by
  have h1 : ((i : Int) < (xs.length : Int)) = True := eq_true (by omega)
  have h2 : ((l.length : Int) < (m : Int)) = False := eq_false (by omega)
  unfold AllLoop
  rw [r10_B0_eq, show (l ++ Xp.pres (xs.drop i)).take m = l by rw [← hlm, List.take_left]]
  simp (disch := omega) only [go_sem, and_self, and_true, true_and, false_and, and_false, Nat.reduceAdd, Nat.reduceMul, Nat.reduceSub, Nat.reduceLeDiff, Nat.reduceLT, Nat.reduceGT, Nat.reduceEqDiff, Nat.reduceBEq, Int.reduceNeg, Int.reduceEq, Int.reduceLT, Int.reduceLE, Int.reduceBEq, Int.reduceToNat, Int.toNat_natCast, Int.natCast_zero, r10_C0, h1, h2, xencs_len]

theorem all_step (o : Int) (t : ByteArray) (p k c s : Int) (ns : List D) (xs : List Xp) (hl : xs.length ≤ maxLen) (m i : Nat) (l : List Xp) (hlm : l.length < m) (hm : m ≤ 100000) (hi : i < xs.length)
    (ih : AllIs xs[i] (m - l.length)) (hn : AllLoop o t p k c s ns xs m (i + 1) ((l ++ xs[i].pre).take m)) : AllLoop o t p k c s ns xs m i l := by
  have hmx : maxLen = 9223372036854775807 := by decide
  have h1 : ((i : Int) < (xs.length : Int)) = True := eq_true (by omega)
  have h2 : ((l.length : Int) < (m : Int)) = True := eq_true (by omega)
  have hi0 : (0 ≤ (i : Int)) = True := eq_true (by omega)
  have va : (Xp.encs xs)[i]? = some (xs[i].enc) := by rw [xencs_get]; simp [hi]
  have hd : (m : Int) - (l.length : Int) = ((m - l.length : Nat) : Int) := by omega
  have hr : (l.length + (xs[i].pre.take (m - l.length)).length) * 104 ≤ maxRow := of_eq_true (row_len (by omega) (by rw [List.length_take]; omega))
  have e1 : (l ++ Xp.pres (xs.drop i)).take m = ((l ++ xs[i].pre).take m ++ Xp.pres (xs.drop (i + 1))).take m := by
    rw [take_app, List.drop_eq_getElem_cons hi, Xp.pres, List.append_assoc]
  have e2 : Xp.encs l ++ Xp.encs (xs[i].pre.take (m - l.length)) = Xp.encs ((l ++ xs[i].pre).take m) := by rw [← xencs_app, take_more _ _ _ hlm]
  unfold AllIs at ih
  unfold AllLoop at hn ⊢
  rw [r10_B0_eq, e1]
  simp (disch := omega) only [go_sem, and_self, and_true, true_and, false_and, and_false, Nat.reduceAdd, Nat.reduceMul, Nat.reduceSub, Nat.reduceLeDiff, Nat.reduceLT, Nat.reduceGT, Nat.reduceEqDiff, Nat.reduceBEq, Int.reduceNeg, Int.reduceEq, Int.reduceLT, Int.reduceLE, Int.reduceBEq, Int.reduceToNat, Int.toNat_natCast, Int.natCast_zero, r10_C0, h1, h2, hi0, va, xenc_w, xenc_a, xencs_len, w64, hd, ih, hr, e2, xencs_all, decide_true, and_self, if_true]
  rw [Int.natCast_add, Int.natCast_one] at hn
  exact hn

theorem all_loop (o : Int) (t : ByteArray) (p k c s : Int) (ns : List D) (xs : List Xp) (hl : xs.length ≤ maxLen) (m : Nat) (hm : m ≤ 100000) (ih : ∀ x ∈ xs, ∀ n : Nat, 1 ≤ n → n ≤ 100000 → AllIs x n) :
    ∀ (j i : Nat) (l : List Xp), i + j = xs.length → l.length ≤ m → AllLoop o t p k c s ns xs m i l
  | 0, i, l, hi, hlm => all_end o t p k c s ns xs m i l hlm (by omega)
  | j + 1, i, l, hi, hlm => by
    by_cases h : l.length = m
    · exact all_full o t p k c s ns xs m i l h (by omega)
    · exact all_step o t p k c s ns xs hl m i l (by omega) hm (by omega) (ih _ (List.getElem_mem _) _ (by omega) (by omega)) (all_loop o t p k c s ns xs hl m hm ih j (i + 1) _ (by omega) (by rw [List.length_take]; omega))

theorem all_fn (o : Int) (t : ByteArray) (p k c s : Int) (ns : List ByteArray) (xs : List Xp) (m : Nat) (h1 : 1 ≤ m) (hL : AllLoop o t p k c s (ns.map .str) xs m 0 [.mk o t p k c s ns xs]) : AllIs (.mk o t p k c s ns xs) m := by
  intro hp
  unfold AllLoop at hL
  rw [List.drop_zero] at hL
  have e1 : [Xp.mk o t p k c s ns xs] ++ Xp.pres xs = (Xp.mk o t p k c s ns xs).pre := rfl
  rw [e1] at hL
  simp only [Xp.encs, Xp.enc] at hL
  refine f10 rfl ?_
  simp (disch := omega) only [go_sem, and_self, and_true, true_and, false_and, and_false, Nat.reduceAdd, Nat.reduceMul, Nat.reduceSub, Nat.reduceLeDiff, Nat.reduceLT, Nat.reduceGT, Nat.reduceEqDiff, Nat.reduceBEq, Int.reduceNeg, Int.reduceEq, Int.reduceLT, Int.reduceLE, Int.reduceBEq, Int.reduceToNat, Int.toNat_natCast, Int.natCast_zero, r10_T, r10, Xp.enc]
  rw [r10_B0_n]
  erw [hL]
  simp (disch := omega) only [go_sem, and_self, and_true, true_and, false_and, and_false, Nat.reduceAdd, Nat.reduceMul, Nat.reduceSub, Nat.reduceLeDiff, Nat.reduceLT, Nat.reduceGT, Nat.reduceEqDiff, Nat.reduceBEq, Int.reduceNeg, Int.reduceEq, Int.reduceLT, Int.reduceLE, Int.reduceBEq, Int.reduceToNat, Int.toNat_natCast, Int.natCast_zero]

theorem rall_ok : ∀ (e : Xp), e.ok → ∀ m : Nat, 1 ≤ m → m ≤ 100000 → AllIs e m
  | .mk o t p k c s ns xs, h, m, h1, h2 => by
    simp only [Xp.ok] at h
    exact all_fn o t p k c s ns xs m h1 (all_loop o t p k c s _ xs h.2.2.2.2.2.2.2.2.1 m h2 (fun x hx n n1 n2 => rall_ok x (xoks_mem h.2.2.2.2.2.2.2.2.2 hx) n n1 n2) xs.length 0 _ (by omega) (by simpa using h1))

theorem light_ok (e : Xp) (he : e.ok) (m : Nat) (hm : m < 100000) (hp : List Ent) : F tab 5 [.d e.enc, .d (iv m)] hp = some (.ret (.d (.bool (decide (e.pre.length ≤ m)))) hp) := by
  have h := rall_ok e he (m + 1) (by omega) (by omega)
  unfold AllIs at h
  rw [Int.natCast_add, Int.natCast_one] at h
  obtain ⟨o, t, p, k, c, s, ns, xs, ex⟩ := xenc_as e
  rw [ex] at h ⊢
  have e1 : (((e.pre.take (m + 1)).length : Int) ≤ (m : Int)) = (e.pre.length ≤ m) := by rw [List.length_take]; apply propext; omega
  refine f5 rfl ?_
  simp (disch := omega) only [go_sem, and_self, and_true, true_and, false_and, and_false, Nat.reduceAdd, Nat.reduceMul, Nat.reduceSub, Nat.reduceLeDiff, Nat.reduceLT, Nat.reduceGT, Nat.reduceEqDiff, Nat.reduceBEq, Int.reduceNeg, Int.reduceEq, Int.reduceLT, Int.reduceLE, Int.reduceBEq, Int.reduceToNat, Int.toNat_natCast, Int.natCast_zero, r5_T, r5, w64, h, xencs_len, e1]
end Go.Pe.T

namespace Go.Pe.T


inductive Runs (f : Nat) (caps : List PV) : List Ent → List Xp → List Ent → Bool → Prop where
  | nil {hp} : Runs f caps hp [] hp true
  | stop {hp x l hp'} : F tab f (.d x.enc :: caps) hp = some (.ret (.d (.bool false)) hp') → Runs f caps hp (x :: l) hp' false
  | step {hp x l hp' hp'' b} : F tab f (.d x.enc :: caps) hp = some (.ret (.d (.bool true)) hp') → Runs f caps hp' l hp'' b → Runs f caps hp (x :: l) hp'' b

theorem runs_app {f : Nat} {caps : List PV} : ∀ {a b : List Xp} {hp hp'' : List Ent} {r : Bool}, Runs f caps hp (a ++ b) hp'' r →
    (Runs f caps hp a hp'' false ∧ r = false) ∨ ∃ hp', Runs f caps hp a hp' true ∧ Runs f caps hp' b hp'' r
  | [], b, hp, hp'', r, h => .inr ⟨hp, .nil, h⟩
  | x :: a, b, hp, hp'', r, h => by
    cases h with
    | stop h => exact .inl ⟨.stop h, rfl⟩
    | step h k =>
      rcases runs_app k with ⟨k1, k2⟩ | ⟨hp', k1, k2⟩
      · exact .inl ⟨.step h k1, k2⟩
      · exact .inr ⟨hp', .step h k1, k2⟩

def GoIs (f : Nat) (caps : List PV) (e : Xp) : Prop := ∀ hp hp' b, Runs f caps hp e.pre hp' b → F tab 27 [.d e.enc, .fn f caps] hp = some (.ret (.d (.bool b)) hp')

def GoLoop (f : Nat) (caps : List PV) (xs : List Xp) (i : Nat) : Prop := ∀ hp hp' b, Runs f caps hp (Xp.pres (xs.drop i)) hp' b →
    V (F tab) r27_B0 (r27_S0 (.fn f caps) (.d (.sl (Xp.encs xs))) (.d (iv xs.length)) (.d (iv i)) hp) =
      if b then some (.norm, r27_E0 hp') else some (.ret, r27_R (.d (.bool false)) hp')

theorem go_end (f : Nat) (caps : List PV) (xs : List Xp) (i : Nat) (hi : xs.length ≤ i) : GoLoop f caps xs i := by
  intro hp hp' b h
  rw [List.drop_of_length_le hi, Xp.pres] at h
  cases h
  have h1 : ((i : Int) < (xs.length : Int)) = False := eq_false (by omega)
  rw [r27_B0_eq]
  simp (disch := omega) only [go_sem, and_self, and_true, true_and, false_and, and_false, Nat.reduceAdd, Nat.reduceMul, Nat.reduceSub, Nat.reduceLeDiff, Nat.reduceLT, Nat.reduceGT, Nat.reduceEqDiff, Nat.reduceBEq, Int.reduceNeg, Int.reduceEq, Int.reduceLT, Int.reduceLE, Int.reduceBEq, Int.reduceToNat, Int.toNat_natCast, Int.natCast_zero, r27_C0, h1]

theorem go_step (f : Nat) (caps : List PV) (xs : List Xp) (hl : xs.length ≤ maxLen) (i : Nat) (hi : i < xs.length) (ih : GoIs f caps xs[i]) (hn : GoLoop f caps xs (i + 1)) : GoLoop f caps xs i := by
  intro hp hp'' b h
  have hmx : maxLen = 9223372036854775807 := by decide
  have h1 : ((i : Int) < (xs.length : Int)) = True := eq_true (by omega)
  have hi0 : (0 ≤ (i : Int)) = True := eq_true (by omega)
  have va : (Xp.encs xs)[i]? = some (xs[i].enc) := by rw [xencs_get]; simp [hi]
  rw [List.drop_eq_getElem_cons hi, Xp.pres] at h
  obtain ⟨o, t, p, k, c, s, ns, ys, ex⟩ := xenc_as xs[i]
  rw [r27_B0_eq]
  unfold GoIs at ih
  rw [ex] at ih va
  rcases runs_app h with ⟨k1, rfl⟩ | ⟨hp', k1, k2⟩
  · have ih := ih _ _ _ k1
    simp (disch := omega) only [go_sem, and_self, and_true, true_and, false_and, and_false, Nat.reduceAdd, Nat.reduceMul, Nat.reduceSub, Nat.reduceLeDiff, Nat.reduceLT, Nat.reduceGT, Nat.reduceEqDiff, Nat.reduceBEq, Int.reduceNeg, Int.reduceEq, Int.reduceLT, Int.reduceLE, Int.reduceBEq, Int.reduceToNat, Int.toNat_natCast, Int.natCast_zero, r27_C0, h1, hi0, va, xencs_len, w64, ih]
  · have ih := ih _ _ _ k1
    have hn := hn _ _ _ k2
    rw [Int.natCast_add, Int.natCast_one] at hn
    simp (disch := omega) only [go_sem, and_self, and_true, true_and, false_and, and_false, Nat.reduceAdd, Nat.reduceMul, Nat.reduceSub, Nat.reduceLeDiff, Nat.reduceLT, Nat.reduceGT, Nat.reduceEqDiff, Nat.reduceBEq, Int.reduceNeg, Int.reduceEq, Int.reduceLT, Int.reduceLE, Int.reduceBEq, Int.reduceToNat, Int.toNat_natCast, Int.natCast_zero, r27_C0, h1, hi0, va, xencs_len, w64, ih]
    exact hn

theorem go_loop (f : Nat) (caps : List PV) (xs : List Xp) (hl : xs.length ≤ maxLen) (ih : ∀ x ∈ xs, GoIs f caps x) : ∀ (j i : Nat), i + j = xs.length → GoLoop f caps xs i
  | 0, i, hi => go_end f caps xs i (by omega)
  | j + 1, i, hi => go_step f caps xs hl i (by omega) (ih _ (List.getElem_mem _)) (go_loop f caps xs hl ih j (i + 1) (by omega))

theorem go_fn (f : Nat) (caps : List PV) (o : Int) (t : ByteArray) (p k c s : Int) (ns : List ByteArray) (xs : List Xp) (hL : GoLoop f caps xs 0) : GoIs f caps (.mk o t p k c s ns xs) := by
  intro hp hp'' b h
  unfold GoLoop at hL
  rw [List.drop_zero] at hL
  refine f27 ?_
  simp only [Xp.pre] at h
  cases h with
  | stop h =>
    simp only [Xp.enc] at h
    simp (disch := omega) only [go_sem, and_self, and_true, true_and, false_and, and_false, Nat.reduceAdd, Nat.reduceMul, Nat.reduceSub, Nat.reduceLeDiff, Nat.reduceLT, Nat.reduceGT, Nat.reduceEqDiff, Nat.reduceBEq, Int.reduceNeg, Int.reduceEq, Int.reduceLT, Int.reduceLE, Int.reduceBEq, Int.reduceToNat, Int.toNat_natCast, Int.natCast_zero, r27_T, r27, Xp.enc, h]
  | step h hr =>
    have hL := hL _ _ _ hr
    simp only [Xp.enc] at h
    simp (disch := omega) only [go_sem, and_self, and_true, true_and, false_and, and_false, Nat.reduceAdd, Nat.reduceMul, Nat.reduceSub, Nat.reduceLeDiff, Nat.reduceLT, Nat.reduceGT, Nat.reduceEqDiff, Nat.reduceBEq, Int.reduceNeg, Int.reduceEq, Int.reduceLT, Int.reduceLE, Int.reduceBEq, Int.reduceToNat, Int.toNat_natCast, Int.natCast_zero, r27_T, r27, Xp.enc, h, xencs_len]
    rw [r27_B0_n]
    erw [hL]
    cases b <;> simp (disch := omega) only [go_sem, and_self, and_true, true_and, false_and, and_false, Nat.reduceAdd, Nat.reduceMul, Nat.reduceSub, Nat.reduceLeDiff, Nat.reduceLT, Nat.reduceGT, Nat.reduceEqDiff, Nat.reduceBEq, Int.reduceNeg, Int.reduceEq, Int.reduceLT, Int.reduceLE, Int.reduceBEq, Int.reduceToNat, Int.toNat_natCast, Int.natCast_zero]

theorem go_ok (f : Nat) (caps : List PV) : ∀ (e : Xp), e.ok → GoIs f caps e
  | .mk o t p k c s ns xs, h => by
    simp only [Xp.ok] at h
    exact go_fn f caps o t p k c s ns xs (go_loop f caps xs h.2.2.2.2.2.2.2.2.1 (fun x hx => go_ok f caps x (xoks_mem h.2.2.2.2.2.2.2.2.2 hx)) xs.length 0 (by omega))
end Go.Pe.T

namespace Go.Pe.T

def signsL : List ByteArray := [⟨#[43]⟩, ⟨#[45]⟩, ⟨#[42]⟩, ⟨#[47]⟩, ⟨#[37]⟩, ⟨#[61, 61]⟩, ⟨#[33, 61]⟩, ⟨#[60]⟩, ⟨#[60, 61]⟩, ⟨#[62]⟩, ⟨#[62, 61]⟩, ⟨#[97, 110, 100]⟩, ⟨#[111, 114]⟩, ⟨#[47, 47]⟩]

theorem signs_ok (hp : List Ent) : F tab 54 [] hp = some (.ret (.d (.sl (signsL.map .str))) hp) := by
  refine f54 rfl ?_
  simp only [go_sem, and_self, and_true, true_and, false_and, and_false, Nat.reduceAdd, Nat.reduceMul, Nat.reduceSub, Nat.reduceLeDiff, Nat.reduceLT, Nat.reduceGT, Nat.reduceEqDiff, Nat.reduceBEq, Int.reduceNeg, Int.reduceEq, Int.reduceLT, Int.reduceLE, Int.reduceBEq, Int.reduceToNat, Int.toNat_natCast, Int.natCast_zero, r54_T, r54, signsL, List.map_cons, List.map_nil]

def shapeV (o : Int) : Int × Int × Bool × Bool × Bool :=
  if o = 0 ∨ o = 1 ∨ o = 8 then (0, 0, false, false, true) else
  if o = 2 ∨ o = 19 then (0, 0, true, false, true) else
  if o = 3 ∨ o = 5 ∨ o = 21 then (1, 1, false, false, true) else
  if o = 4 ∨ o = 6 ∨ o = 7 ∨ o = 10 ∨ o = 15 then (2, 2, false, false, true) else
  if o = 9 then (3, 3, false, false, true) else
  if o = 11 then (0, 1, false, false, true) else
  if o = 12 then (0, 512, false, true, true) else
  if o = 13 ∨ o = 14 then (3, 3, true, false, true) else
  if o = 16 then (0, 4, true, false, true) else
  if o = 17 then (2, 2, true, false, true) else
  if o = 18 then (1, 1, true, false, true) else
  if o = 20 then (1, 1, false, true, true) else
  (0, 0, false, false, false)
def shD (r : Int × Int × Bool × Bool × Bool) : D := .agg [iv r.1, iv r.2.1, .bool r.2.2.1, .bool r.2.2.2.1]
set_option maxHeartbeats 4000000 in
theorem shape_ok (o : Int) (hp : List Ent) : F tab 38 [.d (iv o)] hp = some (.ret (.tup [.d (shD (shapeV o)), .d (.bool (shapeV o).2.2.2.2)]) hp) := by
  refine f38 rfl ?_
  by_cases x0 : o = 0
  · have e : shapeV o = (0, 0, false, false, true) := by subst x0; rfl
    rw [e]
    simp only [go_sem, and_self, and_true, true_and, false_and, and_false, Nat.reduceAdd, Nat.reduceMul, Nat.reduceSub, Nat.reduceLeDiff, Nat.reduceLT, Nat.reduceGT, Nat.reduceEqDiff, Nat.reduceBEq, Int.reduceNeg, Int.reduceEq, Int.reduceLT, Int.reduceLE, Int.reduceBEq, Int.reduceToNat, Int.toNat_natCast, Int.natCast_zero, r38_T, r38, shD, x0]
  have g0 : (o == 0) = false := by simpa using x0
  by_cases x1 : o = 1
  · have e : shapeV o = (0, 0, false, false, true) := by subst x1; rfl
    rw [e]
    simp only [go_sem, and_self, and_true, true_and, false_and, and_false, Nat.reduceAdd, Nat.reduceMul, Nat.reduceSub, Nat.reduceLeDiff, Nat.reduceLT, Nat.reduceGT, Nat.reduceEqDiff, Nat.reduceBEq, Int.reduceNeg, Int.reduceEq, Int.reduceLT, Int.reduceLE, Int.reduceBEq, Int.reduceToNat, Int.toNat_natCast, Int.natCast_zero, r38_T, r38, shD, x1]
  have g1 : (o == 1) = false := by simpa using x1
  by_cases x8 : o = 8
  · have e : shapeV o = (0, 0, false, false, true) := by subst x8; rfl
    rw [e]
    simp only [go_sem, and_self, and_true, true_and, false_and, and_false, Nat.reduceAdd, Nat.reduceMul, Nat.reduceSub, Nat.reduceLeDiff, Nat.reduceLT, Nat.reduceGT, Nat.reduceEqDiff, Nat.reduceBEq, Int.reduceNeg, Int.reduceEq, Int.reduceLT, Int.reduceLE, Int.reduceBEq, Int.reduceToNat, Int.toNat_natCast, Int.natCast_zero, r38_T, r38, shD, x8]
  have g8 : (o == 8) = false := by simpa using x8
  by_cases x2 : o = 2
  · have e : shapeV o = (0, 0, true, false, true) := by subst x2; rfl
    rw [e]
    simp only [go_sem, and_self, and_true, true_and, false_and, and_false, Nat.reduceAdd, Nat.reduceMul, Nat.reduceSub, Nat.reduceLeDiff, Nat.reduceLT, Nat.reduceGT, Nat.reduceEqDiff, Nat.reduceBEq, Int.reduceNeg, Int.reduceEq, Int.reduceLT, Int.reduceLE, Int.reduceBEq, Int.reduceToNat, Int.toNat_natCast, Int.natCast_zero, r38_T, r38, shD, x2]
  have g2 : (o == 2) = false := by simpa using x2
  by_cases x19 : o = 19
  · have e : shapeV o = (0, 0, true, false, true) := by subst x19; rfl
    rw [e]
    simp only [go_sem, and_self, and_true, true_and, false_and, and_false, Nat.reduceAdd, Nat.reduceMul, Nat.reduceSub, Nat.reduceLeDiff, Nat.reduceLT, Nat.reduceGT, Nat.reduceEqDiff, Nat.reduceBEq, Int.reduceNeg, Int.reduceEq, Int.reduceLT, Int.reduceLE, Int.reduceBEq, Int.reduceToNat, Int.toNat_natCast, Int.natCast_zero, r38_T, r38, shD, x19]
  have g19 : (o == 19) = false := by simpa using x19
  by_cases x3 : o = 3
  · have e : shapeV o = (1, 1, false, false, true) := by subst x3; rfl
    rw [e]
    simp only [go_sem, and_self, and_true, true_and, false_and, and_false, Nat.reduceAdd, Nat.reduceMul, Nat.reduceSub, Nat.reduceLeDiff, Nat.reduceLT, Nat.reduceGT, Nat.reduceEqDiff, Nat.reduceBEq, Int.reduceNeg, Int.reduceEq, Int.reduceLT, Int.reduceLE, Int.reduceBEq, Int.reduceToNat, Int.toNat_natCast, Int.natCast_zero, r38_T, r38, shD, x3]
  have g3 : (o == 3) = false := by simpa using x3
  by_cases x5 : o = 5
  · have e : shapeV o = (1, 1, false, false, true) := by subst x5; rfl
    rw [e]
    simp only [go_sem, and_self, and_true, true_and, false_and, and_false, Nat.reduceAdd, Nat.reduceMul, Nat.reduceSub, Nat.reduceLeDiff, Nat.reduceLT, Nat.reduceGT, Nat.reduceEqDiff, Nat.reduceBEq, Int.reduceNeg, Int.reduceEq, Int.reduceLT, Int.reduceLE, Int.reduceBEq, Int.reduceToNat, Int.toNat_natCast, Int.natCast_zero, r38_T, r38, shD, x5]
  have g5 : (o == 5) = false := by simpa using x5
  by_cases x21 : o = 21
  · have e : shapeV o = (1, 1, false, false, true) := by subst x21; rfl
    rw [e]
    simp only [go_sem, and_self, and_true, true_and, false_and, and_false, Nat.reduceAdd, Nat.reduceMul, Nat.reduceSub, Nat.reduceLeDiff, Nat.reduceLT, Nat.reduceGT, Nat.reduceEqDiff, Nat.reduceBEq, Int.reduceNeg, Int.reduceEq, Int.reduceLT, Int.reduceLE, Int.reduceBEq, Int.reduceToNat, Int.toNat_natCast, Int.natCast_zero, r38_T, r38, shD, x21]
  have g21 : (o == 21) = false := by simpa using x21
  by_cases x4 : o = 4
  · have e : shapeV o = (2, 2, false, false, true) := by subst x4; rfl
    rw [e]
    simp only [go_sem, and_self, and_true, true_and, false_and, and_false, Nat.reduceAdd, Nat.reduceMul, Nat.reduceSub, Nat.reduceLeDiff, Nat.reduceLT, Nat.reduceGT, Nat.reduceEqDiff, Nat.reduceBEq, Int.reduceNeg, Int.reduceEq, Int.reduceLT, Int.reduceLE, Int.reduceBEq, Int.reduceToNat, Int.toNat_natCast, Int.natCast_zero, r38_T, r38, shD, x4]
  have g4 : (o == 4) = false := by simpa using x4
  by_cases x6 : o = 6
  · have e : shapeV o = (2, 2, false, false, true) := by subst x6; rfl
    rw [e]
    simp only [go_sem, and_self, and_true, true_and, false_and, and_false, Nat.reduceAdd, Nat.reduceMul, Nat.reduceSub, Nat.reduceLeDiff, Nat.reduceLT, Nat.reduceGT, Nat.reduceEqDiff, Nat.reduceBEq, Int.reduceNeg, Int.reduceEq, Int.reduceLT, Int.reduceLE, Int.reduceBEq, Int.reduceToNat, Int.toNat_natCast, Int.natCast_zero, r38_T, r38, shD, x6]
  have g6 : (o == 6) = false := by simpa using x6
  by_cases x7 : o = 7
  · have e : shapeV o = (2, 2, false, false, true) := by subst x7; rfl
    rw [e]
    simp only [go_sem, and_self, and_true, true_and, false_and, and_false, Nat.reduceAdd, Nat.reduceMul, Nat.reduceSub, Nat.reduceLeDiff, Nat.reduceLT, Nat.reduceGT, Nat.reduceEqDiff, Nat.reduceBEq, Int.reduceNeg, Int.reduceEq, Int.reduceLT, Int.reduceLE, Int.reduceBEq, Int.reduceToNat, Int.toNat_natCast, Int.natCast_zero, r38_T, r38, shD, x7]
  have g7 : (o == 7) = false := by simpa using x7
  by_cases x10 : o = 10
  · have e : shapeV o = (2, 2, false, false, true) := by subst x10; rfl
    rw [e]
    simp only [go_sem, and_self, and_true, true_and, false_and, and_false, Nat.reduceAdd, Nat.reduceMul, Nat.reduceSub, Nat.reduceLeDiff, Nat.reduceLT, Nat.reduceGT, Nat.reduceEqDiff, Nat.reduceBEq, Int.reduceNeg, Int.reduceEq, Int.reduceLT, Int.reduceLE, Int.reduceBEq, Int.reduceToNat, Int.toNat_natCast, Int.natCast_zero, r38_T, r38, shD, x10]
  have g10 : (o == 10) = false := by simpa using x10
  by_cases x15 : o = 15
  · have e : shapeV o = (2, 2, false, false, true) := by subst x15; rfl
    rw [e]
    simp only [go_sem, and_self, and_true, true_and, false_and, and_false, Nat.reduceAdd, Nat.reduceMul, Nat.reduceSub, Nat.reduceLeDiff, Nat.reduceLT, Nat.reduceGT, Nat.reduceEqDiff, Nat.reduceBEq, Int.reduceNeg, Int.reduceEq, Int.reduceLT, Int.reduceLE, Int.reduceBEq, Int.reduceToNat, Int.toNat_natCast, Int.natCast_zero, r38_T, r38, shD, x15]
  have g15 : (o == 15) = false := by simpa using x15
  by_cases x9 : o = 9
  · have e : shapeV o = (3, 3, false, false, true) := by subst x9; rfl
    rw [e]
    simp only [go_sem, and_self, and_true, true_and, false_and, and_false, Nat.reduceAdd, Nat.reduceMul, Nat.reduceSub, Nat.reduceLeDiff, Nat.reduceLT, Nat.reduceGT, Nat.reduceEqDiff, Nat.reduceBEq, Int.reduceNeg, Int.reduceEq, Int.reduceLT, Int.reduceLE, Int.reduceBEq, Int.reduceToNat, Int.toNat_natCast, Int.natCast_zero, r38_T, r38, shD, x9]
  have g9 : (o == 9) = false := by simpa using x9
  by_cases x11 : o = 11
  · have e : shapeV o = (0, 1, false, false, true) := by subst x11; rfl
    rw [e]
    simp only [go_sem, and_self, and_true, true_and, false_and, and_false, Nat.reduceAdd, Nat.reduceMul, Nat.reduceSub, Nat.reduceLeDiff, Nat.reduceLT, Nat.reduceGT, Nat.reduceEqDiff, Nat.reduceBEq, Int.reduceNeg, Int.reduceEq, Int.reduceLT, Int.reduceLE, Int.reduceBEq, Int.reduceToNat, Int.toNat_natCast, Int.natCast_zero, r38_T, r38, shD, x11]
  have g11 : (o == 11) = false := by simpa using x11
  by_cases x12 : o = 12
  · have e : shapeV o = (0, 512, false, true, true) := by subst x12; rfl
    rw [e]
    simp only [go_sem, and_self, and_true, true_and, false_and, and_false, Nat.reduceAdd, Nat.reduceMul, Nat.reduceSub, Nat.reduceLeDiff, Nat.reduceLT, Nat.reduceGT, Nat.reduceEqDiff, Nat.reduceBEq, Int.reduceNeg, Int.reduceEq, Int.reduceLT, Int.reduceLE, Int.reduceBEq, Int.reduceToNat, Int.toNat_natCast, Int.natCast_zero, r38_T, r38, shD, x12]
  have g12 : (o == 12) = false := by simpa using x12
  by_cases x13 : o = 13
  · have e : shapeV o = (3, 3, true, false, true) := by subst x13; rfl
    rw [e]
    simp only [go_sem, and_self, and_true, true_and, false_and, and_false, Nat.reduceAdd, Nat.reduceMul, Nat.reduceSub, Nat.reduceLeDiff, Nat.reduceLT, Nat.reduceGT, Nat.reduceEqDiff, Nat.reduceBEq, Int.reduceNeg, Int.reduceEq, Int.reduceLT, Int.reduceLE, Int.reduceBEq, Int.reduceToNat, Int.toNat_natCast, Int.natCast_zero, r38_T, r38, shD, x13]
  have g13 : (o == 13) = false := by simpa using x13
  by_cases x14 : o = 14
  · have e : shapeV o = (3, 3, true, false, true) := by subst x14; rfl
    rw [e]
    simp only [go_sem, and_self, and_true, true_and, false_and, and_false, Nat.reduceAdd, Nat.reduceMul, Nat.reduceSub, Nat.reduceLeDiff, Nat.reduceLT, Nat.reduceGT, Nat.reduceEqDiff, Nat.reduceBEq, Int.reduceNeg, Int.reduceEq, Int.reduceLT, Int.reduceLE, Int.reduceBEq, Int.reduceToNat, Int.toNat_natCast, Int.natCast_zero, r38_T, r38, shD, x14]
  have g14 : (o == 14) = false := by simpa using x14
  by_cases x16 : o = 16
  · have e : shapeV o = (0, 4, true, false, true) := by subst x16; rfl
    rw [e]
    simp only [go_sem, and_self, and_true, true_and, false_and, and_false, Nat.reduceAdd, Nat.reduceMul, Nat.reduceSub, Nat.reduceLeDiff, Nat.reduceLT, Nat.reduceGT, Nat.reduceEqDiff, Nat.reduceBEq, Int.reduceNeg, Int.reduceEq, Int.reduceLT, Int.reduceLE, Int.reduceBEq, Int.reduceToNat, Int.toNat_natCast, Int.natCast_zero, r38_T, r38, shD, x16]
  have g16 : (o == 16) = false := by simpa using x16
  by_cases x17 : o = 17
  · have e : shapeV o = (2, 2, true, false, true) := by subst x17; rfl
    rw [e]
    simp only [go_sem, and_self, and_true, true_and, false_and, and_false, Nat.reduceAdd, Nat.reduceMul, Nat.reduceSub, Nat.reduceLeDiff, Nat.reduceLT, Nat.reduceGT, Nat.reduceEqDiff, Nat.reduceBEq, Int.reduceNeg, Int.reduceEq, Int.reduceLT, Int.reduceLE, Int.reduceBEq, Int.reduceToNat, Int.toNat_natCast, Int.natCast_zero, r38_T, r38, shD, x17]
  have g17 : (o == 17) = false := by simpa using x17
  by_cases x18 : o = 18
  · have e : shapeV o = (1, 1, true, false, true) := by subst x18; rfl
    rw [e]
    simp only [go_sem, and_self, and_true, true_and, false_and, and_false, Nat.reduceAdd, Nat.reduceMul, Nat.reduceSub, Nat.reduceLeDiff, Nat.reduceLT, Nat.reduceGT, Nat.reduceEqDiff, Nat.reduceBEq, Int.reduceNeg, Int.reduceEq, Int.reduceLT, Int.reduceLE, Int.reduceBEq, Int.reduceToNat, Int.toNat_natCast, Int.natCast_zero, r38_T, r38, shD, x18]
  have g18 : (o == 18) = false := by simpa using x18
  by_cases x20 : o = 20
  · have e : shapeV o = (1, 1, false, true, true) := by subst x20; rfl
    rw [e]
    simp only [go_sem, and_self, and_true, true_and, false_and, and_false, Nat.reduceAdd, Nat.reduceMul, Nat.reduceSub, Nat.reduceLeDiff, Nat.reduceLT, Nat.reduceGT, Nat.reduceEqDiff, Nat.reduceBEq, Int.reduceNeg, Int.reduceEq, Int.reduceLT, Int.reduceLE, Int.reduceBEq, Int.reduceToNat, Int.toNat_natCast, Int.natCast_zero, r38_T, r38, shD, x20]
  have g20 : (o == 20) = false := by simpa using x20
  have e : shapeV o = (0, 0, false, false, false) := by unfold shapeV; simp only [x0, x1, x8, x2, x19, x3, x5, x21, x4, x6, x7, x10, x15, x9, x11, x12, x13, x14, x16, x17, x18, x20, or_self, if_false]
  rw [e]
  simp only [go_sem, and_self, and_true, true_and, false_and, and_false, Nat.reduceAdd, Nat.reduceMul, Nat.reduceSub, Nat.reduceLeDiff, Nat.reduceLT, Nat.reduceGT, Nat.reduceEqDiff, Nat.reduceBEq, Int.reduceNeg, Int.reduceEq, Int.reduceLT, Int.reduceLE, Int.reduceBEq, Int.reduceToNat, Int.toNat_natCast, Int.natCast_zero, r38_T, r38, shD, g0, g1, g8, g2, g19, g3, g5, g21, g4, g6, g7, g10, g15, g9, g11, g12, g13, g14, g16, g17, g18, g20]

def litV (t : ByteArray) (k c s : Int) : Bool :=
  if k = 0 ∨ k = 1 ∨ k = 2 then (c == 0 && s == 0) && !decide (t.size ≠ 0)
  else if k = 3 then numIs c s && !decide (t.size ≠ 0)
  else if k = 4 then (c == 0 && s == 0) && validB t else false
theorem lit_ok (o : Int) (t : ByteArray) (p k c s : Int) (ns xs : D) (ht : t.size ≤ maxLen) (hp : List Ent) : F tab 50 [.d (.agg [iv o, .str t, iv p, iv k, iv c, iv s, ns, xs])] hp = some (.ret (.d (.bool (litV t k c s))) hp) := by
  have e := isE t
  have hv := valid_ok t ht
  have hn := numIs_ok c s
  refine f50 rfl ?_
  unfold litV
  have low : ∀ k0, k = k0 → (k0 = 0 ∨ k0 = 1 ∨ k0 = 2) → (k = 0 ∨ k = 1 ∨ k = 2) := fun k0 h h2 => h ▸ h2
  by_cases k0 : k = 0
  · rw [if_pos (low 0 k0 (by omega))]
    rcases Bool.eq_false_or_eq_true (c == 0 && s == 0) with g | g <;>
      simp only [go_sem, and_self, and_true, true_and, false_and, and_false, Nat.reduceAdd, Nat.reduceMul, Nat.reduceSub, Nat.reduceLeDiff, Nat.reduceLT, Nat.reduceGT, Nat.reduceEqDiff, Nat.reduceBEq, Int.reduceNeg, Int.reduceEq, Int.reduceLT, Int.reduceLE, Int.reduceBEq, Int.reduceToNat, Int.toNat_natCast, Int.natCast_zero, r50_T, r50, k0, eqD_num, strD_eql, e, g, Bool.true_and, Bool.false_and]
  have q0 : (k == 0) = false := by simpa using k0
  by_cases k1 : k = 1
  · rw [if_pos (low 1 k1 (by omega))]
    rcases Bool.eq_false_or_eq_true (c == 0 && s == 0) with g | g <;>
      simp only [go_sem, and_self, and_true, true_and, false_and, and_false, Nat.reduceAdd, Nat.reduceMul, Nat.reduceSub, Nat.reduceLeDiff, Nat.reduceLT, Nat.reduceGT, Nat.reduceEqDiff, Nat.reduceBEq, Int.reduceNeg, Int.reduceEq, Int.reduceLT, Int.reduceLE, Int.reduceBEq, Int.reduceToNat, Int.toNat_natCast, Int.natCast_zero, r50_T, r50, k1, eqD_num, strD_eql, e, g, Bool.true_and, Bool.false_and]
  have q1 : (k == 1) = false := by simpa using k1
  by_cases k2 : k = 2
  · rw [if_pos (low 2 k2 (by omega))]
    rcases Bool.eq_false_or_eq_true (c == 0 && s == 0) with g | g <;>
      simp only [go_sem, and_self, and_true, true_and, false_and, and_false, Nat.reduceAdd, Nat.reduceMul, Nat.reduceSub, Nat.reduceLeDiff, Nat.reduceLT, Nat.reduceGT, Nat.reduceEqDiff, Nat.reduceBEq, Int.reduceNeg, Int.reduceEq, Int.reduceLT, Int.reduceLE, Int.reduceBEq, Int.reduceToNat, Int.toNat_natCast, Int.natCast_zero, r50_T, r50, k2, eqD_num, strD_eql, e, g, Bool.true_and, Bool.false_and]
  have q2 : (k == 2) = false := by simpa using k2
  have kn : ¬ (k = 0 ∨ k = 1 ∨ k = 2) := by omega
  rw [if_neg kn]
  by_cases k3 : k = 3
  · rw [if_pos k3]
    rcases Bool.eq_false_or_eq_true (numIs c s) with g | g <;>
      simp only [go_sem, and_self, and_true, true_and, false_and, and_false, Nat.reduceAdd, Nat.reduceMul, Nat.reduceSub, Nat.reduceLeDiff, Nat.reduceLT, Nat.reduceGT, Nat.reduceEqDiff, Nat.reduceBEq, Int.reduceNeg, Int.reduceEq, Int.reduceLT, Int.reduceLE, Int.reduceBEq, Int.reduceToNat, Int.toNat_natCast, Int.natCast_zero, r50_T, r50, k3, hn, strD_eql, e, g, Bool.true_and, Bool.false_and]
  have q3 : (k == 3) = false := by simpa using k3
  rw [if_neg k3]
  by_cases k4 : k = 4
  · rw [if_pos k4]
    rcases Bool.eq_false_or_eq_true (c == 0 && s == 0) with g | g <;>
      simp only [go_sem, and_self, and_true, true_and, false_and, and_false, Nat.reduceAdd, Nat.reduceMul, Nat.reduceSub, Nat.reduceLeDiff, Nat.reduceLT, Nat.reduceGT, Nat.reduceEqDiff, Nat.reduceBEq, Int.reduceNeg, Int.reduceEq, Int.reduceLT, Int.reduceLE, Int.reduceBEq, Int.reduceToNat, Int.toNat_natCast, Int.natCast_zero, r50_T, r50, k4, eqD_num, hv, g, Bool.true_and, Bool.false_and]
  have q4 : (k == 4) = false := by simpa using k4
  rw [if_neg k4]
  simp only [go_sem, and_self, and_true, true_and, false_and, and_false, Nat.reduceAdd, Nat.reduceMul, Nat.reduceSub, Nat.reduceLeDiff, Nat.reduceLT, Nat.reduceGT, Nat.reduceEqDiff, Nat.reduceBEq, Int.reduceNeg, Int.reduceEq, Int.reduceLT, Int.reduceLE, Int.reduceBEq, Int.reduceToNat, Int.toNat_natCast, Int.natCast_zero, r50_T, r50, q0, q1, q2, q3, q4]

def textV (o : Int) (t : ByteArray) (k c s : Int) (nm : Bool) : Bool :=
  if o = 1 then litV t k c s
  else if (!(c == 0 && s == 0) || k != 0) = true then false
  else if nm = true then identB t
  else if o = 3 then validB t
  else if o = 10 then hasB signsL t
  else !decide (t.size ≠ 0)
theorem text_ok (o : Int) (t : ByteArray) (p k c s : Int) (ns xs : D) (ht : t.size ≤ maxLen) (l m : Int) (nm nn : Bool) (hp : List Ent) : F tab 39 [.d (.agg [iv o, .str t, iv p, iv k, iv c, iv s, ns, xs]), .d (.agg [iv l, iv m, .bool nm, .bool nn])] hp = some (.ret (.d (.bool (textV o t k c s nm))) hp) := by
  have e := isE t
  have hv := valid_ok t ht
  have hi := ident_ok t ht
  have hl := lit_ok o t p k c s ns xs ht
  have hsg := signs_ok
  have hc := con_ok signsL t (by decide)
  refine f39 rfl ?_
  unfold textV
  by_cases o1 : o = 1
  · subst o1
    rw [if_pos rfl]
    simp only [go_sem, and_self, and_true, true_and, false_and, and_false, Nat.reduceAdd, Nat.reduceMul, Nat.reduceSub, Nat.reduceLeDiff, Nat.reduceLT, Nat.reduceGT, Nat.reduceEqDiff, Nat.reduceBEq, Int.reduceNeg, Int.reduceEq, Int.reduceLT, Int.reduceLE, Int.reduceBEq, Int.reduceToNat, Int.toNat_natCast, Int.natCast_zero, r39_T, r39, hl]
  have q1 : (o == 1) = false := by simpa using o1
  rw [if_neg o1]
  rcases Bool.eq_false_or_eq_true (c == 0 && s == 0) with g1 | g1
  rotate_left
  · simp only [go_sem, and_self, and_true, true_and, false_and, and_false, Nat.reduceAdd, Nat.reduceMul, Nat.reduceSub, Nat.reduceLeDiff, Nat.reduceLT, Nat.reduceGT, Nat.reduceEqDiff, Nat.reduceBEq, Int.reduceNeg, Int.reduceEq, Int.reduceLT, Int.reduceLE, Int.reduceBEq, Int.reduceToNat, Int.toNat_natCast, Int.natCast_zero, r39_T, r39, q1, eqD_num, g1, Bool.not_false, Bool.true_or]
  rcases Bool.eq_false_or_eq_true (k != 0) with g2 | g2
  · simp only [go_sem, and_self, and_true, true_and, false_and, and_false, Nat.reduceAdd, Nat.reduceMul, Nat.reduceSub, Nat.reduceLeDiff, Nat.reduceLT, Nat.reduceGT, Nat.reduceEqDiff, Nat.reduceBEq, Int.reduceNeg, Int.reduceEq, Int.reduceLT, Int.reduceLE, Int.reduceBEq, Int.reduceToNat, Int.toNat_natCast, Int.natCast_zero, r39_T, r39, q1, eqD_num, g1, g2, Bool.not_true, Bool.false_or]
  simp only [g1, g2, Bool.not_true, Bool.or_self, Bool.false_eq_true, if_false]
  cases nm
  rotate_left
  · simp only [go_sem, and_self, and_true, true_and, false_and, and_false, Nat.reduceAdd, Nat.reduceMul, Nat.reduceSub, Nat.reduceLeDiff, Nat.reduceLT, Nat.reduceGT, Nat.reduceEqDiff, Nat.reduceBEq, Int.reduceNeg, Int.reduceEq, Int.reduceLT, Int.reduceLE, Int.reduceBEq, Int.reduceToNat, Int.toNat_natCast, Int.natCast_zero, r39_T, r39, q1, eqD_num, g1, g2, Bool.not_true, Bool.false_or, hi]
  simp only [Bool.false_eq_true, if_false]
  by_cases o3 : o = 3
  · subst o3
    rw [if_pos rfl]
    simp only [go_sem, and_self, and_true, true_and, false_and, and_false, Nat.reduceAdd, Nat.reduceMul, Nat.reduceSub, Nat.reduceLeDiff, Nat.reduceLT, Nat.reduceGT, Nat.reduceEqDiff, Nat.reduceBEq, Int.reduceNeg, Int.reduceEq, Int.reduceLT, Int.reduceLE, Int.reduceBEq, Int.reduceToNat, Int.toNat_natCast, Int.natCast_zero, r39_T, r39, eqD_num, g1, g2, Bool.not_true, Bool.false_or, hv]
  have q3 : (o == 3) = false := by simpa using o3
  rw [if_neg o3]
  by_cases o10 : o = 10
  · subst o10
    rw [if_pos rfl]
    simp only [go_sem, and_self, and_true, true_and, false_and, and_false, Nat.reduceAdd, Nat.reduceMul, Nat.reduceSub, Nat.reduceLeDiff, Nat.reduceLT, Nat.reduceGT, Nat.reduceEqDiff, Nat.reduceBEq, Int.reduceNeg, Int.reduceEq, Int.reduceLT, Int.reduceLE, Int.reduceBEq, Int.reduceToNat, Int.toNat_natCast, Int.natCast_zero, r39_T, r39, eqD_num, g1, g2, Bool.not_true, Bool.false_or, hsg, hc]
  have q10 : (o == 10) = false := by simpa using o10
  rw [if_neg o10]
  simp only [go_sem, and_self, and_true, true_and, false_and, and_false, Nat.reduceAdd, Nat.reduceMul, Nat.reduceSub, Nat.reduceLeDiff, Nat.reduceLT, Nat.reduceGT, Nat.reduceEqDiff, Nat.reduceBEq, Int.reduceNeg, Int.reduceEq, Int.reduceLT, Int.reduceLE, Int.reduceBEq, Int.reduceToNat, Int.toNat_natCast, Int.natCast_zero, r39_T, r39, q1, q3, q10, eqD_num, g1, g2, Bool.not_true, Bool.false_or, strD_eql, e]
end Go.Pe.T

namespace Go.Pe.T

theorem strs_w (a : List ByteArray) : ((a.map D.str).all fun y => y.width == 1) = true := by
  simp [List.all_eq_true, D.width, D.cells]
theorem cut0 (xs : List D) (i : Nat) : cutD xs 0 (i : Int) = xs.take i := by
  simp [cutD]
def unF : List ByteArray → List ByteArray → Bool
  | _, [] => true
  | pre, x :: r => (validB x && !hasB pre x) && unF (pre ++ [x]) r

def UnLoop (l : List ByteArray) (i : Nat) : Prop :=
  V (F tab) r55_B0 (r55_S0 (.d (.sl (l.map .str))) (.d (.sl (l.map .str))) (.d (iv l.length)) (.d (iv i)) []) = if unF (l.take i) (l.drop i) then some (.norm, r55_E0 []) else some (.ret, r55_R (.d (.bool false)) [])
theorem un_end (l : List ByteArray) (i : Nat) (hi : l.length ≤ i) : UnLoop l i := by
  have h1 : ((i : Int) < (l.length : Int)) = False := eq_false (by omega)
  unfold UnLoop
  rw [r55_B0_eq, List.drop_of_length_le hi]
  simp (disch := omega) only [go_sem, and_self, and_true, true_and, false_and, and_false, Nat.reduceAdd, Nat.reduceMul, Nat.reduceSub, Nat.reduceLeDiff, Nat.reduceLT, Nat.reduceGT, Nat.reduceEqDiff, Nat.reduceBEq, Int.reduceNeg, Int.reduceEq, Int.reduceLT, Int.reduceLE, Int.reduceBEq, Int.reduceToNat, Int.toNat_natCast, Int.natCast_zero, r55_C0, h1, unF]
theorem un_step (l : List ByteArray) (i : Nat) (hi : i < l.length) (hl : l.length ≤ maxLen) (hs : ∀ x ∈ l, x.size ≤ maxLen) (ih : UnLoop l (i + 1)) : UnLoop l i := by
  have hmx : maxLen = 9223372036854775807 := by decide
  have h1 : ((i : Int) < (l.length : Int)) = True := eq_true (by omega)
  have hi0 : (0 ≤ (i : Int)) = True := eq_true (by omega)
  have hil : ((i : Int) ≤ (l.length : Int)) = True := eq_true (by omega)
  have va : (l.map D.str)[i]? = some (.str l[i]) := by simp [hi]
  have hv := valid_ok l[i] (hs _ (List.getElem_mem hi))
  have hc := con_ok (l.take i) l[i] (by rw [List.length_take]; omega)
  rw [List.map_take] at hc
  unfold UnLoop at ih ⊢
  rw [Int.natCast_add, Int.natCast_one] at ih
  rw [r55_B0_eq, List.drop_eq_getElem_cons hi]
  simp only [unF, List.take_append_getElem]
  rcases Bool.eq_false_or_eq_true (validB l[i]) with g1 | g1
  · rcases Bool.eq_false_or_eq_true (hasB (l.take i) l[i]) with g2 | g2
    · simp (disch := omega) only [go_sem, and_self, and_true, true_and, false_and, and_false, Nat.reduceAdd, Nat.reduceMul, Nat.reduceSub, Nat.reduceLeDiff, Nat.reduceLT, Nat.reduceGT, Nat.reduceEqDiff, Nat.reduceBEq, Int.reduceNeg, Int.reduceEq, Int.reduceLT, Int.reduceLE, Int.reduceBEq, Int.reduceToNat, Int.toNat_natCast, Int.natCast_zero, r55_C0, h1, hi0, hil, va, List.length_map, w64, hv, hc, g1, g2, strs_w, cut0, decide_true, Bool.not_true, Bool.not_false, Bool.true_and, Bool.and_false, Bool.false_and, List.drop_zero, Nat.sub_zero]
    · simp (disch := omega) only [go_sem, and_self, and_true, true_and, false_and, and_false, Nat.reduceAdd, Nat.reduceMul, Nat.reduceSub, Nat.reduceLeDiff, Nat.reduceLT, Nat.reduceGT, Nat.reduceEqDiff, Nat.reduceBEq, Int.reduceNeg, Int.reduceEq, Int.reduceLT, Int.reduceLE, Int.reduceBEq, Int.reduceToNat, Int.toNat_natCast, Int.natCast_zero, r55_C0, h1, hi0, hil, va, List.length_map, w64, hv, hc, g1, g2, strs_w, cut0, decide_true, Bool.not_true, Bool.not_false, Bool.true_and, Bool.and_false, Bool.false_and, List.drop_zero, Nat.sub_zero]
      exact ih
  · simp (disch := omega) only [go_sem, and_self, and_true, true_and, false_and, and_false, Nat.reduceAdd, Nat.reduceMul, Nat.reduceSub, Nat.reduceLeDiff, Nat.reduceLT, Nat.reduceGT, Nat.reduceEqDiff, Nat.reduceBEq, Int.reduceNeg, Int.reduceEq, Int.reduceLT, Int.reduceLE, Int.reduceBEq, Int.reduceToNat, Int.toNat_natCast, Int.natCast_zero, r55_C0, h1, hi0, hil, va, List.length_map, w64, hv, g1, decide_true, Bool.not_true, Bool.not_false, Bool.true_and, Bool.and_false, Bool.false_and]
theorem un_loop (l : List ByteArray) (hl : l.length ≤ maxLen) (hs : ∀ x ∈ l, x.size ≤ maxLen) : ∀ (j i : Nat), i + j = l.length → UnLoop l i
  | 0, i, hi => un_end l i (by omega)
  | j + 1, i, hi => un_step l i (by omega) hl hs (un_loop l hl hs j (i + 1) (by omega))
theorem unlike_ok (l : List ByteArray) (hl : l.length ≤ maxLen) (hs : ∀ x ∈ l, x.size ≤ maxLen) (hp : List Ent) : F tab 55 [.d (.sl (l.map .str))] hp = some (.ret (.d (.bool (unF [] l))) hp) := by
  have hL := un_loop l hl hs l.length 0 (by omega)
  unfold UnLoop at hL
  rw [List.drop_zero, List.take_zero] at hL
  refine f55 rfl ?_
  simp (disch := omega) only [go_sem, and_self, and_true, true_and, false_and, and_false, Nat.reduceAdd, Nat.reduceMul, Nat.reduceSub, Nat.reduceLeDiff, Nat.reduceLT, Nat.reduceGT, Nat.reduceEqDiff, Nat.reduceBEq, Int.reduceNeg, Int.reduceEq, Int.reduceLT, Int.reduceLE, Int.reduceBEq, Int.reduceToNat, Int.toNat_natCast, Int.natCast_zero, r55_T, r55, List.length_map]
  rw [r55_B0_n]
  erw [hL]
  rcases Bool.eq_false_or_eq_true (unF [] l) with g | g <;> rw [g] <;> simp only [go_sem, and_self, and_true, true_and, false_and, and_false, Nat.reduceAdd, Nat.reduceMul, Nat.reduceSub, Nat.reduceLeDiff, Nat.reduceLT, Nat.reduceGT, Nat.reduceEqDiff, Nat.reduceBEq, Int.reduceNeg, Int.reduceEq, Int.reduceLT, Int.reduceLE, Int.reduceBEq, Int.reduceToNat, Int.toNat_natCast, Int.natCast_zero]

def name2 : List ByteArray → Bool
  | [a, b] => nameB a && nameB b
  | _ => false
def namesV (o : Int) (ns : List ByteArray) (n : Nat) (nn : Bool) : Bool :=
  if nn = false then ((ns.length : Int) == 0)
  else if o = 12 then ((ns.length : Int) == (n : Int)) && unF [] ns
  else name2 ns
set_option maxHeartbeats 2000000 in
theorem names_ok (o : Int) (t p k c s : D) (ns : List ByteArray) (xs : List Xp) (hl : ns.length ≤ maxLen) (hs : ∀ x ∈ ns, x.size ≤ maxLen) (l m : Int) (nm nn : Bool) (hp : List Ent) :
    F tab 40 [.d (.agg [iv o, t, p, k, c, s, .sl (ns.map .str), .sl (Xp.encs xs)]), .d (.agg [iv l, iv m, .bool nm, .bool nn])] hp = some (.ret (.d (.bool (namesV o ns xs.length nn))) hp) := by
  have hu := unlike_ok ns hl hs
  refine f40 rfl ?_
  unfold namesV
  cases nn
  · simp only [go_sem, and_self, and_true, true_and, false_and, and_false, Nat.reduceAdd, Nat.reduceMul, Nat.reduceSub, Nat.reduceLeDiff, Nat.reduceLT, Nat.reduceGT, Nat.reduceEqDiff, Nat.reduceBEq, Int.reduceNeg, Int.reduceEq, Int.reduceLT, Int.reduceLE, Int.reduceBEq, Int.reduceToNat, Int.toNat_natCast, Int.natCast_zero, r40_T, r40, List.length_map]
  · simp only [Bool.true_eq_false, if_false]
    by_cases o12 : o = 12
    · rw [if_pos o12]
      rcases Bool.eq_false_or_eq_true ((ns.length : Int) == (xs.length : Int)) with g | g <;>
        simp only [go_sem, and_self, and_true, true_and, false_and, and_false, Nat.reduceAdd, Nat.reduceMul, Nat.reduceSub, Nat.reduceLeDiff, Nat.reduceLT, Nat.reduceGT, Nat.reduceEqDiff, Nat.reduceBEq, Int.reduceNeg, Int.reduceEq, Int.reduceLT, Int.reduceLE, Int.reduceBEq, Int.reduceToNat, Int.toNat_natCast, Int.natCast_zero, r40_T, r40, o12, List.length_map, xencs_len, hu, g, Bool.true_and, Bool.false_and]
    · have q12 : (o == 12) = false := by simpa using o12
      rw [if_neg o12]
      have n0 : ((0 : Nat) : Int) = 0 := rfl
      have n1 : ((1 : Nat) : Int) = 1 := rfl
      have n2 : ((2 : Nat) : Int) = 2 := rfl
      match ns, hs with
      | [], _ => simp only [go_sem, and_self, and_true, true_and, false_and, and_false, Nat.reduceAdd, Nat.reduceMul, Nat.reduceSub, Nat.reduceLeDiff, Nat.reduceLT, Nat.reduceGT, Nat.reduceEqDiff, Nat.reduceBEq, Int.reduceNeg, Int.reduceEq, Int.reduceLT, Int.reduceLE, Int.reduceBEq, Int.reduceToNat, Int.toNat_natCast, Int.natCast_zero, r40_T, r40, q12, List.length_nil, List.map_nil, name2, n0]
      | [a], _ => simp only [go_sem, and_self, and_true, true_and, false_and, and_false, Nat.reduceAdd, Nat.reduceMul, Nat.reduceSub, Nat.reduceLeDiff, Nat.reduceLT, Nat.reduceGT, Nat.reduceEqDiff, Nat.reduceBEq, Int.reduceNeg, Int.reduceEq, Int.reduceLT, Int.reduceLE, Int.reduceBEq, Int.reduceToNat, Int.toNat_natCast, Int.natCast_zero, r40_T, r40, q12, List.length_nil, List.length_cons, List.map_cons, List.map_nil, name2, n1]
      | [a, b], hs =>
        have h1 := name_ok a (hs a (by simp))
        have h2 := name_ok b (hs b (by simp))
        rcases Bool.eq_false_or_eq_true (nameB a) with g | g <;>
          simp only [go_sem, and_self, and_true, true_and, false_and, and_false, Nat.reduceAdd, Nat.reduceMul, Nat.reduceSub, Nat.reduceLeDiff, Nat.reduceLT, Nat.reduceGT, Nat.reduceEqDiff, Nat.reduceBEq, Int.reduceNeg, Int.reduceEq, Int.reduceLT, Int.reduceLE, Int.reduceBEq, Int.reduceToNat, Int.toNat_natCast, Int.natCast_zero, r40_T, r40, q12, List.length_nil, List.length_cons, List.map_cons, List.map_nil, name2, h1, h2, g, n2, Bool.true_and, Bool.false_and]
      | a :: b :: c :: r, _ =>
        have g : (((a :: b :: c :: r).length : Int) == 2) = false := by simp only [List.length_cons, beq_eq_false_iff_ne]; omega
        have hn : name2 (a :: b :: c :: r) = false := rfl
        generalize a :: b :: c :: r = w at g hn ⊢
        simp only [go_sem, and_self, and_true, true_and, false_and, and_false, Nat.reduceAdd, Nat.reduceMul, Nat.reduceSub, Nat.reduceLeDiff, Nat.reduceLT, Nat.reduceGT, Nat.reduceEqDiff, Nat.reduceBEq, Int.reduceNeg, Int.reduceEq, Int.reduceLT, Int.reduceLE, Int.reduceBEq, Int.reduceToNat, Int.toNat_natCast, Int.natCast_zero, r40_T, r40, q12, List.length_map, hn, g]

def fitsV : Xp → Bool
  | .mk o t p k c s ns xs => ((shapeV o).2.2.2.2 && (p == 0 && (decide ((xs.length : Int) ≥ (shapeV o).1) && (decide ((xs.length : Int) ≤ (shapeV o).2.1) && (textV o t k c s (shapeV o).2.2.1 && namesV o ns xs.length (shapeV o).2.2.2.1)))))
theorem fits_ok (x : Xp) (hx : x.ok) (hp : List Ent) : F tab 32 [.d x.enc] hp = some (.ret (.d (.bool (fitsV x))) hp) := by
  obtain ⟨o, t, p, k, c, s, ns, xs⟩ := x
  simp only [Xp.ok] at hx
  have h1 := shape_ok o
  have h2 := text_ok o t p k c s (.sl (ns.map .str)) (.sl (Xp.encs xs)) hx.2.1
  have h3 := names_ok o (.str t) (iv p) (iv k) (iv c) (iv s) ns xs hx.2.2.2.2.2.2.1 hx.2.2.2.2.2.2.2.1
  simp only [Xp.enc, fitsV]
  refine f32 rfl ?_
  generalize shapeV o = sh at *
  obtain ⟨l, m, nm, nn, ok⟩ := sh
  simp only [shD] at h1 h2 h3 ⊢
  cases ok
  · simp only [go_sem, and_self, and_true, true_and, false_and, and_false, Nat.reduceAdd, Nat.reduceMul, Nat.reduceSub, Nat.reduceLeDiff, Nat.reduceLT, Nat.reduceGT, Nat.reduceEqDiff, Nat.reduceBEq, Int.reduceNeg, Int.reduceEq, Int.reduceLT, Int.reduceLE, Int.reduceBEq, Int.reduceToNat, Int.toNat_natCast, Int.natCast_zero, r32_T, r32, h1, Bool.false_and]
  rcases Bool.eq_false_or_eq_true (p == 0) with g1 | g1
  rotate_left
  · simp only [go_sem, and_self, and_true, true_and, false_and, and_false, Nat.reduceAdd, Nat.reduceMul, Nat.reduceSub, Nat.reduceLeDiff, Nat.reduceLT, Nat.reduceGT, Nat.reduceEqDiff, Nat.reduceBEq, Int.reduceNeg, Int.reduceEq, Int.reduceLT, Int.reduceLE, Int.reduceBEq, Int.reduceToNat, Int.toNat_natCast, Int.natCast_zero, r32_T, r32, h1, g1, Bool.true_and, Bool.false_and]
  rcases Bool.eq_false_or_eq_true (decide ((xs.length : Int) ≥ l)) with g2 | g2
  rotate_left
  · simp only [go_sem, and_self, and_true, true_and, false_and, and_false, Nat.reduceAdd, Nat.reduceMul, Nat.reduceSub, Nat.reduceLeDiff, Nat.reduceLT, Nat.reduceGT, Nat.reduceEqDiff, Nat.reduceBEq, Int.reduceNeg, Int.reduceEq, Int.reduceLT, Int.reduceLE, Int.reduceBEq, Int.reduceToNat, Int.toNat_natCast, Int.natCast_zero, r32_T, r32, h1, g1, g2, xencs_len, Bool.true_and, Bool.false_and]
  rcases Bool.eq_false_or_eq_true (decide ((xs.length : Int) ≤ m)) with g3 | g3
  rotate_left
  · simp only [go_sem, and_self, and_true, true_and, false_and, and_false, Nat.reduceAdd, Nat.reduceMul, Nat.reduceSub, Nat.reduceLeDiff, Nat.reduceLT, Nat.reduceGT, Nat.reduceEqDiff, Nat.reduceBEq, Int.reduceNeg, Int.reduceEq, Int.reduceLT, Int.reduceLE, Int.reduceBEq, Int.reduceToNat, Int.toNat_natCast, Int.natCast_zero, r32_T, r32, h1, g1, g2, g3, xencs_len, Bool.true_and, Bool.false_and]
  have h2 := h2 l m nm nn
  have h3 := h3 l m nm nn
  rcases Bool.eq_false_or_eq_true (textV o t k c s nm) with g4 | g4 <;>
    simp only [go_sem, and_self, and_true, true_and, false_and, and_false, Nat.reduceAdd, Nat.reduceMul, Nat.reduceSub, Nat.reduceLeDiff, Nat.reduceLT, Nat.reduceGT, Nat.reduceEqDiff, Nat.reduceBEq, Int.reduceNeg, Int.reduceEq, Int.reduceLT, Int.reduceLE, Int.reduceBEq, Int.reduceToNat, Int.toNat_natCast, Int.natCast_zero, r32_T, r32, h1, g1, g2, g3, g4, h2, h3, xencs_len, Bool.true_and, Bool.false_and]

theorem is_step (x : Xp) (hx : x.ok) (left : Int) (h0 : 0 ≤ left) (h5 : left ≤ 1000) : F tab 31 [.d x.enc, .ptr 0 0] [.box [.d (iv left)]] = some (.ret (.d (.bool (decide (left - 1 ≥ 0) && fitsV x))) [.box [.d (iv (left - 1))]]) := by
  have hf := fits_ok x hx
  obtain ⟨o, t, p, k, c, s, ns, ys, ex⟩ := xenc_as x
  rw [ex] at hf ⊢
  refine f31 ?_
  rcases Bool.eq_false_or_eq_true (decide (left - 1 ≥ 0)) with g | g <;>
    simp (disch := omega) only [go_sem, and_self, and_true, true_and, false_and, and_false, Nat.reduceAdd, Nat.reduceMul, Nat.reduceSub, Nat.reduceLeDiff, Nat.reduceLT, Nat.reduceGT, Nat.reduceEqDiff, Nat.reduceBEq, Int.reduceNeg, Int.reduceEq, Int.reduceLT, Int.reduceLE, Int.reduceBEq, Int.reduceToNat, Int.toNat_natCast, Int.natCast_zero, r31_T, r31, hf, g, w64, Bool.true_and, Bool.false_and]

theorem is_runs : ∀ (l : List Xp) (left : Int), (∀ x ∈ l, x.ok) → 0 ≤ left → left ≤ 1000 → ∃ hp', Runs 31 [.ptr 0 0] [.box [.d (iv left)]] l hp' (decide ((l.length : Int) ≤ left) && l.all fitsV)
  | [], left, _, h0, h5 => by
    have e : (decide ((([] : List Xp).length : Int) ≤ left) && ([] : List Xp).all fitsV) = true := by simp; omega
    rw [e]
    exact ⟨_, .nil⟩
  | x :: l, left, hk, h0, h5 => by
    have hs := is_step x (hk x (by simp)) left h0 h5
    by_cases g : (decide (left - 1 ≥ 0) && fitsV x) = true
    · rw [g] at hs
      simp only [Bool.and_eq_true, decide_eq_true_eq] at g
      obtain ⟨hp', hr⟩ := is_runs l (left - 1) (fun y hy => hk y (by simp [hy])) (by omega) (by omega)
      have e : (decide (((x :: l).length : Int) ≤ left) && (x :: l).all fitsV) = (decide ((l.length : Int) ≤ left - 1) && l.all fitsV) := by
        simp only [List.all_cons, g.2, Bool.true_and, List.length_cons]
        congr 1
        apply decide_eq_decide.2
        omega
      rw [e]
      exact ⟨hp', .step hs hr⟩
    · have g' : (decide (left - 1 ≥ 0) && fitsV x) = false := by simpa using g
      rw [g'] at hs
      have e : (decide (((x :: l).length : Int) ≤ left) && (x :: l).all fitsV) = false := by
        simp only [List.all_cons, List.length_cons]
        simp only [Bool.and_eq_false_iff, decide_eq_false_iff_not] at g' ⊢
        rcases g' with h | h
        · left; omega
        · right; left; exact h
      rw [e]
      exact ⟨_, .stop hs⟩

def isV (e : Xp) : Bool := decide (e.pre.length ≤ 512) && e.pre.all fitsV
theorem is_ok (e : Xp) (he : e.ok) (hp : List Ent) : F tab 20 [.d e.enc] hp = some (.ret (.d (.bool (isV e))) hp) := by
  obtain ⟨hp', hr⟩ := is_runs e.pre 512 (pre_ok e he) (by omega) (by omega)
  have hw := go_ok _ _ e he _ _ _ hr
  have e1 : (decide ((e.pre.length : Int) ≤ 512) && e.pre.all fitsV) = isV e := by unfold isV; congr 1; apply decide_eq_decide.2; omega
  rw [e1] at hw
  obtain ⟨o, t, p, k, c, s, ns, ys, ex⟩ := xenc_as e
  rw [ex] at hw ⊢
  refine f20 rfl ?_
  simp (disch := omega) only [go_sem, and_self, and_true, true_and, false_and, and_false, Nat.reduceAdd, Nat.reduceMul, Nat.reduceSub, Nat.reduceLeDiff, Nat.reduceLT, Nat.reduceGT, Nat.reduceEqDiff, Nat.reduceBEq, Int.reduceNeg, Int.reduceEq, Int.reduceLT, Int.reduceLE, Int.reduceBEq, Int.reduceToNat, Int.toNat_natCast, Int.natCast_zero, r20_T, r20, hw]
end Go.Pe.T

namespace Go.Pe.T
def isB (e : Xp) : Bool := decide (e.pre.length ≤ 512) && isV (bareX e)
def calmA (e : Xp) : Bool := isB e && calmV e
def costA (e : Xp) : Int := if calmA e then costV e else 0
abbrev mkX (o : Int) (xs : List Xp) : Xp := .mk o ⟨#[]⟩ 0 0 0 0 [] xs
theorem isV_bare {e : Xp} (h : isV (bareX e) = true) : (bareX e).pre.all fitsV = true := by
  unfold isV at h
  rw [Bool.and_eq_true] at h
  exact h.2
theorem bares_all : ∀ {xs : List Xp}, (∀ x ∈ xs, (bareX x).pre.all fitsV = true) → (Xp.pres (bares xs)).all fitsV = true
  | [], _ => rfl
  | x :: r, h => by
    rw [bares, Xp.pres, List.all_append, Bool.and_eq_true]
    exact ⟨h x (by simp), bares_all fun y hy => h y (by simp [hy])⟩
theorem isB_mk (o : Int) (xs : List Xp) (hl : (mkX o xs).pre.length ≤ 512) (hf : fitsV (mkX o (bares xs)) = true) (hx : ∀ x ∈ xs, (bareX x).pre.all fitsV = true) : isB (mkX o xs) = true ∧ (bareX (mkX o xs)).pre.all fitsV = true := by
  have h2 : (bareX (mkX o xs)).pre.all fitsV = true := by
    rw [bareX, Xp.pre, List.all_cons, Bool.and_eq_true]
    exact ⟨hf, bares_all hx⟩
  refine ⟨?_, h2⟩
  unfold isB isV
  rw [bare_pre, h2, decide_eq_true hl]
  rfl
theorem fits2 (o : Int) (ho : o = 6 ∨ o = 7) (a b : Xp) : fitsV (mkX o (bares [a, b])) = true := by
  rcases ho with rfl | rfl <;> rfl
theorem fits3 (a b c : Xp) : fitsV (mkX 9 (bares [a, b, c])) = true := rfl
theorem fits1 (a : Xp) : fitsV (mkX 11 (bares [a])) = true := rfl
section
variable {a b c : Xp} (ha : calmA a = true) (hb : calmA b = true) (hc : calmA c = true)
  (la : a.pre.length ≤ 150) (lb : b.pre.length ≤ 150) (lc : c.pre.length ≤ 150) (xa : costV a ≤ 1000) (xb : costV b ≤ 1000) (xc : costV c ≤ 1000)
theorem calmA_p (h : calmA a = true) : (bareX a).pre.all fitsV = true ∧ calmV a = true := by
  unfold calmA isB at h
  rw [Bool.and_eq_true, Bool.and_eq_true] at h
  exact ⟨isV_bare h.1.2, h.2⟩
include ha hb la lb in
theorem pipe_calm : calmA (mkX 6 [a, b]) = true := by
  obtain ⟨a1, a2⟩ := calmA_p ha
  obtain ⟨b1, b2⟩ := calmA_p hb
  have h := isB_mk 6 [a, b] (by simp only [Xp.pre, Xp.pres, List.length_cons, List.length_append, List.length_nil]; omega) (fits2 6 (.inl rfl) a b) (by intro x hx; simp at hx; rcases hx with rfl | rfl <;> assumption)
  unfold calmA
  rw [h.1, Bool.true_and]
  unfold calmV at a2 b2 ⊢
  simp [crV, crs, calmO, allC, a2, b2]
include xa xb in
theorem pipe_cost : costV (mkX 6 [a, b]) = 1 + costV a + costV b := by
  have := cost_rng a
  have := cost_rng b
  simp only [costV, costs, costO, List.foldl_cons, List.foldl_nil, ssum]
  rw [if_neg (by omega)]
  omega
include ha hb hc la lb lc in
theorem if_calm : calmA (mkX 9 [a, b, c]) = true := by
  obtain ⟨a1, a2⟩ := calmA_p ha
  obtain ⟨b1, b2⟩ := calmA_p hb
  obtain ⟨c1, c2⟩ := calmA_p hc
  have h := isB_mk 9 [a, b, c] (by simp only [Xp.pre, Xp.pres, List.length_cons, List.length_append, List.length_nil]; omega) (fits3 a b c) (by intro x hx; simp at hx; rcases hx with rfl | rfl | rfl <;> assumption)
  unfold calmA
  rw [h.1, Bool.true_and]
  unfold calmV at a2 b2 c2 ⊢
  simp [crV, crs, calmO, allC, a2, b2, c2]
include xa xb xc in
theorem if_cost : costV (mkX 9 [a, b, c]) = 1 + costV a + max (costV b) (costV c) := by
  have := cost_rng a
  have := cost_rng b
  have := cost_rng c
  simp only [costV, costs, costO, ssum]
  rw [if_pos trivial]
  omega
include ha hb hc la lb lc in
theorem arr_calm : calmA (mkX 11 [mkX 7 [a, mkX 7 [b, c]]]) = true := by
  obtain ⟨a1, a2⟩ := calmA_p ha
  obtain ⟨b1, b2⟩ := calmA_p hb
  obtain ⟨c1, c2⟩ := calmA_p hc
  have h1 := isB_mk 7 [b, c] (by simp only [Xp.pre, Xp.pres, List.length_cons, List.length_append, List.length_nil]; omega) (fits2 7 (.inr rfl) b c) (by intro x hx; simp at hx; rcases hx with rfl | rfl <;> assumption)
  have h2 := isB_mk 7 [a, mkX 7 [b, c]] (by simp only [Xp.pre, Xp.pres, List.length_cons, List.length_append, List.length_nil]; omega) (fits2 7 (.inr rfl) a _) (by intro x hx; simp at hx; rcases hx with rfl | rfl; exact a1; exact h1.2)
  have h := isB_mk 11 [mkX 7 [a, mkX 7 [b, c]]] (by simp only [Xp.pre, Xp.pres, List.length_cons, List.length_append, List.length_nil]; omega) (fits1 _) (by intro x hx; simp at hx; subst hx; exact h2.2)
  unfold calmA
  rw [h.1, Bool.true_and]
  have r1 := row_calm a a2
  have r2 := row_calm b b2
  have r3 := row_calm c c2
  unfold rowV at r1 r2 r3
  unfold calmV
  simp [crV, crs, calmO, rowO, r1, r2, r3]
include xa xb xc in
theorem arr_cost : costV (mkX 11 [mkX 7 [a, mkX 7 [b, c]]]) = 3 + costV a + costV b + costV c := by
  have := cost_rng a
  have := cost_rng b
  have := cost_rng c
  simp only [costV, costs, costO, List.foldl_cons, List.foldl_nil, ssum]
  rw [if_neg (by omega), if_neg (by omega), if_neg (by omega)]
  omega
end
end Go.Pe.T

namespace Go.Pe.T
abbrev nF : PV := .d (.sl [])
theorem called_ok (p : Int) (hp0 : 0 ≤ p) (hp : List Ent) : F tab 24 [nF, .d (iv p)] hp = some (.ret (.d (.bool (decide (p ≥ 1000)))) hp) := by
  have h0 : (p < ((0 : Nat) : Int)) = False := eq_false (by omega)
  have h1 : decide (p < ((0 : Nat) : Int)) = false := decide_eq_false (by omega)
  have h2 : decide (p < (0 : Int)) = false := decide_eq_false (by omega)
  have h3 : (p < 0) = False := eq_false (by omega)
  refine f24 rfl ?_
  rcases Bool.eq_false_or_eq_true (decide (p ≥ 1000)) with q | q <;> simp (disch := omega) only [go_sem, and_self, and_true, true_and, false_and, and_false, Nat.reduceAdd, Nat.reduceMul, Nat.reduceSub, Nat.reduceLeDiff, Nat.reduceLT, Nat.reduceGT, Nat.reduceEqDiff, Nat.reduceBEq, Int.reduceNeg, Int.reduceEq, Int.reduceLT, Int.reduceLE, Int.reduceBEq, Int.reduceToNat, Int.toNat_natCast, Int.natCast_zero, r24_T, r24, q, h0, h1, h2, h3, List.length_nil]
mutual
def okX : Xp → Prop
  | .mk o t p k c s ns xs => (o = 7 → xs.length = 2) ∧ (o = 9 → xs.length = 3) ∧ okXs xs
def okXs : List Xp → Prop
  | [] => True
  | x :: r => okX x ∧ okXs r
end
theorem okXs_mem : ∀ {xs : List Xp}, okXs xs → ∀ x ∈ xs, okX x
  | y :: r, h, x, hx => by
    rw [okXs] at h
    rcases List.mem_cons.1 hx with rfl | hx
    · exact h.1
    · exact okXs_mem h.2 x hx
def CalmIs (e : Xp) : Prop := ∀ hp : List Ent, F tab 13 [nF, .d e.enc] hp = some (.ret (.d (.bool (calmV e))) hp)
def RowIs (e : Xp) : Prop := ∀ hp : List Ent, F tab 23 [nF, .d e.enc] hp = some (.ret (.d (.bool (rowV e))) hp)
def AlLoop (xs : List Xp) (i : Nat) : Prop :=
  V (F tab) r22_B0 (r22_S0 nF (.d (.sl (Xp.encs xs))) (.d (iv xs.length)) (.d (iv i)) []) = if allC (crs (xs.drop i)) then some (.norm, r22_E0 []) else some (.ret, r22_R (.d (.bool false)) [])
theorem al_end (xs : List Xp) (i : Nat) (hi : xs.length ≤ i) : AlLoop xs i := by
  have h1 : ((i : Int) < (xs.length : Int)) = False := eq_false (by omega)
  unfold AlLoop
  rw [List.drop_of_length_le hi, crs, show allC [] = true from rfl, if_pos rfl, r22_B0_eq]
  simp (disch := omega) only [go_sem, and_self, and_true, true_and, false_and, and_false, Nat.reduceAdd, Nat.reduceMul, Nat.reduceSub, Nat.reduceLeDiff, Nat.reduceLT, Nat.reduceGT, Nat.reduceEqDiff, Nat.reduceBEq, Int.reduceNeg, Int.reduceEq, Int.reduceLT, Int.reduceLE, Int.reduceBEq, Int.reduceToNat, Int.toNat_natCast, Int.natCast_zero, r22_C0, h1]
theorem al_step (xs : List Xp) (hl : xs.length ≤ maxLen) (i : Nat) (hi : i < xs.length) (hc : CalmIs xs[i]) (ih : AlLoop xs (i + 1)) : AlLoop xs i := by
  have hmx : maxLen = 9223372036854775807 := by decide
  have h1 : ((i : Int) < (xs.length : Int)) = True := eq_true (by omega)
  have i0 : (0 ≤ (i : Int)) = True := eq_true (by omega)
  have va : (Xp.encs xs)[i]? = some (xs[i].enc) := by rw [xencs_get]; simp [hi]
  unfold CalmIs at hc
  obtain ⟨o, t, p, k, c, s, ns, ys, ex⟩ := xenc_as xs[i]
  rw [ex] at va hc
  have e1 : allC (crs (xs.drop i)) = (calmV xs[i] && allC (crs (xs.drop (i + 1)))) := by rw [List.drop_eq_getElem_cons hi, crs, allC, List.all_cons]; rfl
  unfold AlLoop at ih ⊢
  rw [Int.natCast_add, Int.natCast_one] at ih
  rw [e1, r22_B0_eq]
  rcases Bool.eq_false_or_eq_true (calmV xs[i]) with q | q
  · rw [q] at hc
    rw [q, Bool.true_and]
    simp (disch := omega) only [go_sem, and_self, and_true, true_and, false_and, and_false, Nat.reduceAdd, Nat.reduceMul, Nat.reduceSub, Nat.reduceLeDiff, Nat.reduceLT, Nat.reduceGT, Nat.reduceEqDiff, Nat.reduceBEq, Int.reduceNeg, Int.reduceEq, Int.reduceLT, Int.reduceLE, Int.reduceBEq, Int.reduceToNat, Int.toNat_natCast, Int.natCast_zero, r22_C0, h1, i0, va, hc, w64]
    exact ih
  · rw [q] at hc
    rw [q, Bool.false_and, if_neg (by simp)]
    simp (disch := omega) only [go_sem, and_self, and_true, true_and, false_and, and_false, Nat.reduceAdd, Nat.reduceMul, Nat.reduceSub, Nat.reduceLeDiff, Nat.reduceLT, Nat.reduceGT, Nat.reduceEqDiff, Nat.reduceBEq, Int.reduceNeg, Int.reduceEq, Int.reduceLT, Int.reduceLE, Int.reduceBEq, Int.reduceToNat, Int.toNat_natCast, Int.natCast_zero, r22_C0, h1, i0, va, hc, w64]
theorem al_loop (xs : List Xp) (hl : xs.length ≤ maxLen) (hc : ∀ x ∈ xs, CalmIs x) : ∀ (j i : Nat), i + j = xs.length → AlLoop xs i
  | 0, i, h => al_end xs i (by omega)
  | j + 1, i, h => al_step xs hl i (by omega) (hc _ (List.getElem_mem _)) (al_loop xs hl hc j (i + 1) (by omega))
theorem all_calm (xs : List Xp) (hL : AlLoop xs 0) (hp : List Ent) : F tab 22 [nF, .d (.sl (Xp.encs xs))] hp = some (.ret (.d (.bool (allC (crs xs)))) hp) := by
  unfold AlLoop at hL
  rw [Int.natCast_zero, List.drop_zero] at hL
  refine f22 rfl ?_
  simp (disch := omega) only [go_sem, and_self, and_true, true_and, false_and, and_false, Nat.reduceAdd, Nat.reduceMul, Nat.reduceSub, Nat.reduceLeDiff, Nat.reduceLT, Nat.reduceGT, Nat.reduceEqDiff, Nat.reduceBEq, Int.reduceNeg, Int.reduceEq, Int.reduceLT, Int.reduceLE, Int.reduceBEq, Int.reduceToNat, Int.toNat_natCast, Int.natCast_zero, r22_T, xencs_len]
  rw [r22_B0_n]
  erw [hL]
  rcases Bool.eq_false_or_eq_true (allC (crs xs)) with q | q <;> rw [q] <;> simp (disch := omega) only [go_sem, and_self, and_true, true_and, false_and, and_false, Nat.reduceAdd, Nat.reduceMul, Nat.reduceSub, Nat.reduceLeDiff, Nat.reduceLT, Nat.reduceGT, Nat.reduceEqDiff, Nat.reduceBEq, Int.reduceNeg, Int.reduceEq, Int.reduceLT, Int.reduceLE, Int.reduceBEq, Int.reduceToNat, Int.toNat_natCast, Int.natCast_zero, r22]
set_option maxHeartbeats 4000000 in
theorem calm_fn (o : Int) (t : ByteArray) (p k c s : Int) (ns : List ByteArray) (xs : List Xp) (ha : ∀ hp, F tab 22 [nF, .d (.sl (Xp.encs xs))] hp = some (.ret (.d (.bool (allC (crs xs)))) hp))
    (hr : ∀ x r, xs = x :: r → RowIs x) : CalmIs (.mk o t p k c s ns xs) := by
  intro hp
  have hv : calmV (.mk o t p k c s ns xs) = calmO o p (crs xs) := by unfold calmV; rw [crV]
  rw [hv, Xp.enc]
  refine f13 rfl ?_
  unfold calmO
  by_cases x0 : o = 0
  · subst x0; simp (disch := omega) only [go_sem, and_self, and_true, true_and, false_and, and_false, Nat.reduceAdd, Nat.reduceMul, Nat.reduceSub, Nat.reduceLeDiff, Nat.reduceLT, Nat.reduceGT, Nat.reduceEqDiff, Nat.reduceBEq, Int.reduceNeg, Int.reduceEq, Int.reduceLT, Int.reduceLE, Int.reduceBEq, Int.reduceToNat, Int.toNat_natCast, Int.natCast_zero, r13_T, r13, true_or, if_true]
  by_cases x1 : o = 1
  · subst x1; simp (disch := omega) only [go_sem, and_self, and_true, true_and, false_and, and_false, Nat.reduceAdd, Nat.reduceMul, Nat.reduceSub, Nat.reduceLeDiff, Nat.reduceLT, Nat.reduceGT, Nat.reduceEqDiff, Nat.reduceBEq, Int.reduceNeg, Int.reduceEq, Int.reduceLT, Int.reduceLE, Int.reduceBEq, Int.reduceToNat, Int.toNat_natCast, Int.natCast_zero, r13_T, r13, true_or, or_true, if_true]
  by_cases x2 : o = 2
  · subst x2; simp (disch := omega) only [go_sem, and_self, and_true, true_and, false_and, and_false, Nat.reduceAdd, Nat.reduceMul, Nat.reduceSub, Nat.reduceLeDiff, Nat.reduceLT, Nat.reduceGT, Nat.reduceEqDiff, Nat.reduceBEq, Int.reduceNeg, Int.reduceEq, Int.reduceLT, Int.reduceLE, Int.reduceBEq, Int.reduceToNat, Int.toNat_natCast, Int.natCast_zero, r13_T, r13, true_or, or_true, if_true]
  by_cases x12 : o = 12
  · subst x12; simp (disch := omega) only [go_sem, and_self, and_true, true_and, false_and, and_false, Nat.reduceAdd, Nat.reduceMul, Nat.reduceSub, Nat.reduceLeDiff, Nat.reduceLT, Nat.reduceGT, Nat.reduceEqDiff, Nat.reduceBEq, Int.reduceNeg, Int.reduceEq, Int.reduceLT, Int.reduceLE, Int.reduceBEq, Int.reduceToNat, Int.toNat_natCast, Int.natCast_zero, r13_T, r13, true_or, or_true, if_true]
  by_cases x10 : o = 10
  · subst x10; simp (disch := omega) only [go_sem, and_self, and_true, true_and, false_and, and_false, Nat.reduceAdd, Nat.reduceMul, Nat.reduceSub, Nat.reduceLeDiff, Nat.reduceLT, Nat.reduceGT, Nat.reduceEqDiff, Nat.reduceBEq, Int.reduceNeg, Int.reduceEq, Int.reduceLT, Int.reduceLE, Int.reduceBEq, Int.reduceToNat, Int.toNat_natCast, Int.natCast_zero, r13_T, r13, true_or, or_true, if_true]
  have q0 : (o == 0) = false := by simpa using x0
  have q1 : (o == 1) = false := by simpa using x1
  have q2 : (o == 2) = false := by simpa using x2
  have q12 : (o == 12) = false := by simpa using x12
  have q10 : (o == 10) = false := by simpa using x10
  rw [if_neg (by omega)]
  by_cases x3 : o = 3
  · subst x3; simp (disch := omega) only [go_sem, and_self, and_true, true_and, false_and, and_false, Nat.reduceAdd, Nat.reduceMul, Nat.reduceSub, Nat.reduceLeDiff, Nat.reduceLT, Nat.reduceGT, Nat.reduceEqDiff, Nat.reduceBEq, Int.reduceNeg, Int.reduceEq, Int.reduceLT, Int.reduceLE, Int.reduceBEq, Int.reduceToNat, Int.toNat_natCast, Int.natCast_zero, r13_T, r13, ha, true_or, or_true, if_true]
  by_cases x4 : o = 4
  · subst x4; simp (disch := omega) only [go_sem, and_self, and_true, true_and, false_and, and_false, Nat.reduceAdd, Nat.reduceMul, Nat.reduceSub, Nat.reduceLeDiff, Nat.reduceLT, Nat.reduceGT, Nat.reduceEqDiff, Nat.reduceBEq, Int.reduceNeg, Int.reduceEq, Int.reduceLT, Int.reduceLE, Int.reduceBEq, Int.reduceToNat, Int.toNat_natCast, Int.natCast_zero, r13_T, r13, ha, true_or, or_true, if_true]
  by_cases x6 : o = 6
  · subst x6; simp (disch := omega) only [go_sem, and_self, and_true, true_and, false_and, and_false, Nat.reduceAdd, Nat.reduceMul, Nat.reduceSub, Nat.reduceLeDiff, Nat.reduceLT, Nat.reduceGT, Nat.reduceEqDiff, Nat.reduceBEq, Int.reduceNeg, Int.reduceEq, Int.reduceLT, Int.reduceLE, Int.reduceBEq, Int.reduceToNat, Int.toNat_natCast, Int.natCast_zero, r13_T, r13, ha, true_or, or_true, if_true]
  by_cases x9 : o = 9
  · subst x9; simp (disch := omega) only [go_sem, and_self, and_true, true_and, false_and, and_false, Nat.reduceAdd, Nat.reduceMul, Nat.reduceSub, Nat.reduceLeDiff, Nat.reduceLT, Nat.reduceGT, Nat.reduceEqDiff, Nat.reduceBEq, Int.reduceNeg, Int.reduceEq, Int.reduceLT, Int.reduceLE, Int.reduceBEq, Int.reduceToNat, Int.toNat_natCast, Int.natCast_zero, r13_T, r13, ha, true_or, or_true, if_true]
  by_cases x15 : o = 15
  · subst x15; simp (disch := omega) only [go_sem, and_self, and_true, true_and, false_and, and_false, Nat.reduceAdd, Nat.reduceMul, Nat.reduceSub, Nat.reduceLeDiff, Nat.reduceLT, Nat.reduceGT, Nat.reduceEqDiff, Nat.reduceBEq, Int.reduceNeg, Int.reduceEq, Int.reduceLT, Int.reduceLE, Int.reduceBEq, Int.reduceToNat, Int.toNat_natCast, Int.natCast_zero, r13_T, r13, ha, true_or, or_true, if_true]
  by_cases x17 : o = 17
  · subst x17; simp (disch := omega) only [go_sem, and_self, and_true, true_and, false_and, and_false, Nat.reduceAdd, Nat.reduceMul, Nat.reduceSub, Nat.reduceLeDiff, Nat.reduceLT, Nat.reduceGT, Nat.reduceEqDiff, Nat.reduceBEq, Int.reduceNeg, Int.reduceEq, Int.reduceLT, Int.reduceLE, Int.reduceBEq, Int.reduceToNat, Int.toNat_natCast, Int.natCast_zero, r13_T, r13, ha, true_or, or_true, if_true]
  have q3 : (o == 3) = false := by simpa using x3
  have q4 : (o == 4) = false := by simpa using x4
  have q6 : (o == 6) = false := by simpa using x6
  have q9 : (o == 9) = false := by simpa using x9
  have q15 : (o == 15) = false := by simpa using x15
  have q17 : (o == 17) = false := by simpa using x17
  rw [if_neg (by omega)]
  by_cases x11 : o = 11
  · rw [if_pos x11]
    subst x11
    cases xs with
    | nil =>
      have e : ((0 : Int) == 0) = true := rfl
      simp (disch := omega) only [go_sem, and_self, and_true, true_and, false_and, and_false, Nat.reduceAdd, Nat.reduceMul, Nat.reduceSub, Nat.reduceLeDiff, Nat.reduceLT, Nat.reduceGT, Nat.reduceEqDiff, Nat.reduceBEq, Int.reduceNeg, Int.reduceEq, Int.reduceLT, Int.reduceLE, Int.reduceBEq, Int.reduceToNat, Int.toNat_natCast, Int.natCast_zero, r13_T, r13, Xp.encs, crs, List.length_nil, e]
    | cons x r =>
      have hx := hr x r rfl
      unfold RowIs at hx
      obtain ⟨o', t', p', k', c', s', ns', ys, ex⟩ := xenc_as x
      have e : ((Xp.encs (x :: r)).length : Int) = (r.length : Int) + 1 := by rw [xencs_len, List.length_cons]; omega
      have e0 : (((r.length : Int) + 1) == 0) = false := by rw [beq_eq_false_iff_ne]; omega
      have va : (Xp.encs (x :: r))[0]? = some x.enc := rfl
      rw [ex] at hx va
      show fnEnd _ _ _ = some (Out.ret (PV.d (D.bool (rowV x))) hp)
      generalize Xp.encs (x :: r) = w at *
      simp (disch := omega) only [go_sem, and_self, and_true, true_and, false_and, and_false, Nat.reduceAdd, Nat.reduceMul, Nat.reduceSub, Nat.reduceLeDiff, Nat.reduceLT, Nat.reduceGT, Nat.reduceEqDiff, Nat.reduceBEq, Int.reduceNeg, Int.reduceEq, Int.reduceLT, Int.reduceLE, Int.reduceBEq, Int.reduceToNat, Int.toNat_natCast, Int.natCast_zero, r13_T, r13, e, e0, va, hx]
  rw [if_neg x11]
  have q11 : (o == 11) = false := by simpa using x11
  by_cases x16 : o = 16
  · rw [if_pos x16]
    subst x16
    rcases Bool.eq_false_or_eq_true (decide (p ≥ 0)) with q | q
    · have hc := called_ok p (by simpa using q)
      simp (disch := omega) only [go_sem, and_self, and_true, true_and, false_and, and_false, Nat.reduceAdd, Nat.reduceMul, Nat.reduceSub, Nat.reduceLeDiff, Nat.reduceLT, Nat.reduceGT, Nat.reduceEqDiff, Nat.reduceBEq, Int.reduceNeg, Int.reduceEq, Int.reduceLT, Int.reduceLE, Int.reduceBEq, Int.reduceToNat, Int.toNat_natCast, Int.natCast_zero, r13_T, r13, q, hc, Bool.true_and]
    · simp (disch := omega) only [go_sem, and_self, and_true, true_and, false_and, and_false, Nat.reduceAdd, Nat.reduceMul, Nat.reduceSub, Nat.reduceLeDiff, Nat.reduceLT, Nat.reduceGT, Nat.reduceEqDiff, Nat.reduceBEq, Int.reduceNeg, Int.reduceEq, Int.reduceLT, Int.reduceLE, Int.reduceBEq, Int.reduceToNat, Int.toNat_natCast, Int.natCast_zero, r13_T, r13, q, Bool.false_and]
  rw [if_neg x16]
  have q16 : (o == 16) = false := by simpa using x16
  simp (disch := omega) only [go_sem, and_self, and_true, true_and, false_and, and_false, Nat.reduceAdd, Nat.reduceMul, Nat.reduceSub, Nat.reduceLeDiff, Nat.reduceLT, Nat.reduceGT, Nat.reduceEqDiff, Nat.reduceBEq, Int.reduceNeg, Int.reduceEq, Int.reduceLT, Int.reduceLE, Int.reduceBEq, Int.reduceToNat, Int.toNat_natCast, Int.natCast_zero, r13_T, r13, q0, q1, q2, q12, q10, q3, q4, q6, q9, q15, q17, q11, q16]
theorem row_fn (o : Int) (t : ByteArray) (p k c s : Int) (ns : List ByteArray) (xs : List Xp) (hc : CalmIs (.mk o t p k c s ns xs)) (hl : o = 7 → xs.length = 2) (hr : ∀ x ∈ xs, RowIs x) : RowIs (.mk o t p k c s ns xs) := by
  intro hp
  unfold CalmIs at hc
  have hv : rowV (.mk o t p k c s ns xs) = rowO o (crs xs) (calmV (.mk o t p k c s ns xs)) := by unfold rowV calmV; rw [crV]
  rw [hv]
  rw [Xp.enc] at hc ⊢
  refine f23 rfl ?_
  unfold rowO
  by_cases x7 : o = 7
  · rw [if_pos x7]
    match xs, hl x7, hr with
    | [x, y], _, hr =>
      have hx := hr x (by simp)
      have hy := hr y (by simp)
      unfold RowIs at hx hy
      obtain ⟨o', t', p', k', c', s', ns', ys, ex⟩ := xenc_as x
      obtain ⟨o2, t2, p2, k2, c2, s2, ns2, zs, ey⟩ := xenc_as y
      have va : (Xp.encs [x, y])[0]? = some x.enc := rfl
      have vb : (Xp.encs [x, y])[1]? = some y.enc := rfl
      rw [ex] at hx va
      rw [ey] at hy vb
      show fnEnd _ _ _ = some (Out.ret (PV.d (D.bool (rowV x && rowV y))) hp)
      generalize Xp.encs [x, y] = w at *
      subst x7
      rcases Bool.eq_false_or_eq_true (rowV x) with q | q
      · rw [q] at hx
        rw [q, Bool.true_and]
        simp (disch := omega) only [go_sem, and_self, and_true, true_and, false_and, and_false, Nat.reduceAdd, Nat.reduceMul, Nat.reduceSub, Nat.reduceLeDiff, Nat.reduceLT, Nat.reduceGT, Nat.reduceEqDiff, Nat.reduceBEq, Int.reduceNeg, Int.reduceEq, Int.reduceLT, Int.reduceLE, Int.reduceBEq, Int.reduceToNat, Int.toNat_natCast, Int.natCast_zero, r23_T, r23, va, vb, hx, hy]
      · rw [q] at hx
        rw [q, Bool.false_and]
        simp (disch := omega) only [go_sem, and_self, and_true, true_and, false_and, and_false, Nat.reduceAdd, Nat.reduceMul, Nat.reduceSub, Nat.reduceLeDiff, Nat.reduceLT, Nat.reduceGT, Nat.reduceEqDiff, Nat.reduceBEq, Int.reduceNeg, Int.reduceEq, Int.reduceLT, Int.reduceLE, Int.reduceBEq, Int.reduceToNat, Int.toNat_natCast, Int.natCast_zero, r23_T, r23, va, vb, hx, hy]
  · rw [if_neg x7]
    have q7 : (o == 7) = false := by simpa using x7
    simp (disch := omega) only [go_sem, and_self, and_true, true_and, false_and, and_false, Nat.reduceAdd, Nat.reduceMul, Nat.reduceSub, Nat.reduceLeDiff, Nat.reduceLT, Nat.reduceGT, Nat.reduceEqDiff, Nat.reduceBEq, Int.reduceNeg, Int.reduceEq, Int.reduceLT, Int.reduceLE, Int.reduceBEq, Int.reduceToNat, Int.toNat_natCast, Int.natCast_zero, r23_T, r23, q7, hc]
theorem cr_ok : ∀ (n : Nat) (e : Xp), SizeOf.sizeOf e ≤ n → e.ok → okX e → CalmIs e ∧ RowIs e
  | 0, e, h, _, _ => by cases e; simp at h
  | n + 1, .mk o t p k c s ns xs, h, ho, hx => by
    simp only [Xp.ok] at ho
    rw [okX] at hx
    have ih : ∀ x ∈ xs, CalmIs x ∧ RowIs x := fun x hm => by
      have := List.sizeOf_lt_of_mem hm
      simp at h
      exact cr_ok n x (by omega) (xoks_mem ho.2.2.2.2.2.2.2.2.2 hm) (okXs_mem hx.2.2 x hm)
    have hc := calm_fn o t p k c s ns xs (all_calm xs (al_loop xs ho.2.2.2.2.2.2.2.2.1 (fun x hm => (ih x hm).1) xs.length 0 (by omega))) (fun x r e => (ih x (by rw [e]; simp)).2)
    exact ⟨hc, row_fn o t p k c s ns xs hc hx.1 fun x hm => (ih x hm).2⟩
end Go.Pe.T

namespace Go.Pe.T
def SmLoop (xs : List Int) (i : Nat) (n r : Int) : Prop :=
  V (F tab) r25_B0 (r25_S0 (.d (iv n)) (.d (.sl (xs.map iv))) (.d (iv xs.length)) (.d (iv i)) []) = some (.norm, r25_E0 (.d (iv r)) [])
theorem sm_end (xs : List Int) (i : Nat) (hi : xs.length ≤ i) (n : Int) : SmLoop xs i n n := by
  have h1 : ((i : Int) < (xs.length : Int)) = False := eq_false (by omega)
  unfold SmLoop
  rw [r25_B0_eq]
  simp (disch := omega) only [go_sem, and_self, and_true, true_and, false_and, and_false, Nat.reduceAdd, Nat.reduceMul, Nat.reduceSub, Nat.reduceLeDiff, Nat.reduceLT, Nat.reduceGT, Nat.reduceEqDiff, Nat.reduceBEq, Int.reduceNeg, Int.reduceEq, Int.reduceLT, Int.reduceLE, Int.reduceBEq, Int.reduceToNat, Int.toNat_natCast, Int.natCast_zero, r25_C0, h1]
theorem sm_step (xs : List Int) (hl : xs.length ≤ 100) (i : Nat) (hi : i < xs.length) (n r : Int) (hn : 0 ≤ n ∧ n ≤ 1000000) (hx : 0 ≤ xs[i] ∧ xs[i] ≤ 1000000) (ih : SmLoop xs (i + 1) (ssum n xs[i]) r) : SmLoop xs i n r := by
  have h1 : ((i : Int) < (xs.length : Int)) = True := eq_true (by omega)
  have i0 : (0 ≤ (i : Int)) = True := eq_true (by omega)
  have va : (xs.map iv)[i]? = some (iv xs[i]) := by simp [hi]
  generalize xs[i] = x at *
  unfold SmLoop at ih ⊢
  rw [Int.natCast_add, Int.natCast_one] at ih
  rw [r25_B0_eq]
  have e : (if n + x < 1000000 then n + x else 1000000) = ssum n x := by unfold ssum; omega
  simp (disch := omega) only [go_sem, and_self, and_true, true_and, false_and, and_false, Nat.reduceAdd, Nat.reduceMul, Nat.reduceSub, Nat.reduceLeDiff, Nat.reduceLT, Nat.reduceGT, Nat.reduceEqDiff, Nat.reduceBEq, Int.reduceNeg, Int.reduceEq, Int.reduceLT, Int.reduceLE, Int.reduceBEq, Int.reduceToNat, Int.toNat_natCast, Int.natCast_zero, r25_C0, h1, i0, va, w64, e]
  exact ih
theorem sum2_ok (a b : Int) (ha : 1 ≤ a ∧ a ≤ 1000000) (hb : 1 ≤ b ∧ b ≤ 1000000) (hp : List Ent) : F tab 25 [.d (.sl [iv a, iv b])] hp = some (.ret (.d (iv (ssum a b))) hp) := by
  have e : ssum (ssum 0 a) b = ssum a b := by unfold ssum; omega
  have r0 : 0 ≤ ssum 0 a ∧ ssum 0 a ≤ 1000000 := by unfold ssum; omega
  have hL : SmLoop [a, b] 0 0 (ssum (ssum 0 a) b) := sm_step [a, b] (by simp) 0 (by simp) 0 _ (by omega) (by simp; omega) (sm_step [a, b] (by simp) 1 (by simp) _ _ r0 (by simp; omega) (sm_end [a, b] 2 (by simp) _))
  unfold SmLoop at hL
  rw [e, Int.natCast_zero] at hL
  refine f25 rfl ?_
  simp (disch := omega) only [go_sem, and_self, and_true, true_and, false_and, and_false, Nat.reduceAdd, Nat.reduceMul, Nat.reduceSub, Nat.reduceLeDiff, Nat.reduceLT, Nat.reduceGT, Nat.reduceEqDiff, Nat.reduceBEq, Int.reduceNeg, Int.reduceEq, Int.reduceLT, Int.reduceLE, Int.reduceBEq, Int.reduceToNat, Int.toNat_natCast, Int.natCast_zero, r25_T, List.length_cons, List.length_nil]
  rw [r25_B0_n]
  erw [hL]
  simp (disch := omega) only [go_sem, and_self, and_true, true_and, false_and, and_false, Nat.reduceAdd, Nat.reduceMul, Nat.reduceSub, Nat.reduceLeDiff, Nat.reduceLT, Nat.reduceGT, Nat.reduceEqDiff, Nat.reduceBEq, Int.reduceNeg, Int.reduceEq, Int.reduceLT, Int.reduceLE, Int.reduceBEq, Int.reduceToNat, Int.toNat_natCast, Int.natCast_zero, r25]
def CostIs (e : Xp) : Prop := ∀ hp : List Ent, F tab 14 [nF, .d e.enc] hp = some (.ret (.d (iv (costV e))) hp)
abbrev xB (o : Int) (t : ByteArray) (p k c s : Int) (ns : List ByteArray) (xs : List Xp) : PV := .ibox [.d (iv o), .d (.str t), .d (iv p), .d (iv k), .d (iv c), .d (iv s), .d (.sl (ns.map .str)), .d (.sl (Xp.encs xs))]
section
variable (o : Int) (t : ByteArray) (p k c s : Int) (ns : List ByteArray) (xs : List Xp)
def CoLoop (i : Nat) (n r : Int) : Prop :=
  V (F tab) r14_B0 (r14_S0 nF (xB o t p k c s ns xs) (.d (iv n)) (.d (.sl (Xp.encs xs))) (.d (iv xs.length)) (.d (iv i)) []) = some (.norm, r14_E0 nF (xB o t p k c s ns xs) (.d (iv r)) [])
theorem co_end (i : Nat) (hi : xs.length ≤ i) (n : Int) : CoLoop o t p k c s ns xs i n n := by
  have h1 : ((i : Int) < (xs.length : Int)) = False := eq_false (by omega)
  unfold CoLoop
  rw [r14_B0_eq]
  simp (disch := omega) only [go_sem, and_self, and_true, true_and, false_and, and_false, Nat.reduceAdd, Nat.reduceMul, Nat.reduceSub, Nat.reduceLeDiff, Nat.reduceLT, Nat.reduceGT, Nat.reduceEqDiff, Nat.reduceBEq, Int.reduceNeg, Int.reduceEq, Int.reduceLT, Int.reduceLE, Int.reduceBEq, Int.reduceToNat, Int.toNat_natCast, Int.natCast_zero, r14_C0, h1]
theorem co_skip (hl : xs.length ≤ maxLen) (i : Nat) (hi : i < xs.length) (hi0 : 0 < i) (ho : o = 9) (n r : Int) (ih : CoLoop o t p k c s ns xs (i + 1) n r) : CoLoop o t p k c s ns xs i n r := by
  have hmx : maxLen = 9223372036854775807 := by decide
  have h1 : ((i : Int) < (xs.length : Int)) = True := eq_true (by omega)
  have i0 : (0 ≤ (i : Int)) = True := eq_true (by omega)
  have g0 : decide ((i : Int) > 0) = true := decide_eq_true (by omega)
  have g1 : ((i : Int) > 0) = True := eq_true (by omega)
  have q9 : (o == 9) = true := by simpa using ho
  have va : (Xp.encs xs)[i]? = some (xs[i].enc) := by rw [xencs_get]; simp [hi]
  obtain ⟨o', t', p', k', c', s', ns', ys, ex⟩ := xenc_as xs[i]
  rw [ex] at va
  unfold CoLoop at ih ⊢
  rw [Int.natCast_add, Int.natCast_one] at ih
  rw [r14_B0_eq]
  simp (disch := omega) only [go_sem, and_self, and_true, true_and, false_and, and_false, Nat.reduceAdd, Nat.reduceMul, Nat.reduceSub, Nat.reduceLeDiff, Nat.reduceLT, Nat.reduceGT, Nat.reduceEqDiff, Nat.reduceBEq, Int.reduceNeg, Int.reduceEq, Int.reduceLT, Int.reduceLE, Int.reduceBEq, Int.reduceToNat, Int.toNat_natCast, Int.natCast_zero, r14_C0, h1, i0, g0, g1, q9, va, w64]
  exact ih
theorem co_step (hl : xs.length ≤ maxLen) (i : Nat) (hi : i < xs.length) (hq : o ≠ 9 ∨ i = 0) (n r : Int) (hn : 1 ≤ n ∧ n ≤ 1000000) (hc : CostIs xs[i]) (ih : CoLoop o t p k c s ns xs (i + 1) (ssum n (costV xs[i])) r) : CoLoop o t p k c s ns xs i n r := by
  have hmx : maxLen = 9223372036854775807 := by decide
  have h1 : ((i : Int) < (xs.length : Int)) = True := eq_true (by omega)
  have i0 : (0 ≤ (i : Int)) = True := eq_true (by omega)
  have va : (Xp.encs xs)[i]? = some (xs[i].enc) := by rw [xencs_get]; simp [hi]
  have hs := sum2_ok n (costV xs[i]) hn (cost_rng xs[i])
  unfold CostIs at hc
  obtain ⟨o', t', p', k', c', s', ns', ys, ex⟩ := xenc_as xs[i]
  rw [ex] at va hc
  unfold CoLoop at ih ⊢
  rw [Int.natCast_add, Int.natCast_one] at ih
  rw [r14_B0_eq]
  generalize costV xs[i] = x at *
  rcases Bool.eq_false_or_eq_true (o == 9) with q9 | q9
  · have hi0 : i = 0 := by
      rcases hq with h | h
      · exact absurd (by simpa using q9) h
      · exact h
    have g0 : decide ((i : Int) > 0) = false := decide_eq_false (by omega)
    have g1 : ((i : Int) > 0) = False := eq_false (by omega)
    simp (disch := omega) only [go_sem, and_self, and_true, true_and, false_and, and_false, Nat.reduceAdd, Nat.reduceMul, Nat.reduceSub, Nat.reduceLeDiff, Nat.reduceLT, Nat.reduceGT, Nat.reduceEqDiff, Nat.reduceBEq, Int.reduceNeg, Int.reduceEq, Int.reduceLT, Int.reduceLE, Int.reduceBEq, Int.reduceToNat, Int.toNat_natCast, Int.natCast_zero, r14_C0, h1, i0, g0, g1, q9, va, hc, hs, w64]
    exact ih
  · simp (disch := omega) only [go_sem, and_self, and_true, true_and, false_and, and_false, Nat.reduceAdd, Nat.reduceMul, Nat.reduceSub, Nat.reduceLeDiff, Nat.reduceLT, Nat.reduceGT, Nat.reduceEqDiff, Nat.reduceBEq, Int.reduceNeg, Int.reduceEq, Int.reduceLT, Int.reduceLE, Int.reduceBEq, Int.reduceToNat, Int.toNat_natCast, Int.natCast_zero, r14_C0, h1, i0, q9, va, hc, hs, w64]
    exact ih
theorem co_loop (hl : xs.length ≤ maxLen) (ho : o ≠ 9) (hc : ∀ x ∈ xs, CostIs x) : ∀ (j i : Nat) (n : Int), i + j = xs.length → 1 ≤ n ∧ n ≤ 1000000 → CoLoop o t p k c s ns xs i n ((costs (xs.drop i)).foldl ssum n)
  | 0, i, n, h, hn => by
    rw [List.drop_of_length_le (by omega), costs, List.foldl_nil]
    exact co_end o t p k c s ns xs i (by omega) n
  | j + 1, i, n, h, hn => by
    have hi : i < xs.length := by omega
    rw [List.drop_eq_getElem_cons hi, costs, List.foldl_cons]
    exact co_step o t p k c s ns xs hl i hi (.inl ho) n _ hn (hc _ (List.getElem_mem _)) (co_loop hl ho hc j (i + 1) _ (by omega) (ssum_rng hn (cost_rng _)))
end
set_option maxHeartbeats 2000000 in
theorem cost_if (t : ByteArray) (p k c s : Int) (ns : List ByteArray) (x y z : Xp) (hx : CostIs x) (hy : CostIs y) (hz : CostIs z) : CostIs (.mk 9 t p k c s ns [x, y, z]) := by
  intro hp
  have rx := cost_rng x
  have ry := cost_rng y
  have rz := cost_rng z
  have hL : CoLoop 9 t p k c s ns [x, y, z] 0 1 (ssum 1 (costV x)) :=
    co_step 9 t p k c s ns [x, y, z] (by simp [maxLen]) 0 (by simp) (.inr rfl) 1 _ (by omega) hx (co_skip 9 t p k c s ns [x, y, z] (by simp [maxLen]) 1 (by simp) (by omega) rfl _ _ (co_skip 9 t p k c s ns [x, y, z] (by simp [maxLen]) 2 (by simp) (by omega) rfl _ _ (co_end 9 t p k c s ns [x, y, z] 3 (by simp) _)))
  have hs := sum2_ok (ssum 1 (costV x)) (max (costV y) (costV z)) (ssum_rng (by omega) rx) (by omega)
  have hv : costV (.mk 9 t p k c s ns [x, y, z]) = ssum (ssum 1 (costV x)) (max (costV y) (costV z)) := rfl
  unfold CoLoop xB at hL
  unfold CostIs at hx hy hz
  rw [Int.natCast_zero] at hL
  rw [hv, Xp.enc]
  obtain ⟨o2, t2, p2, k2, c2, s2, ns2, ys, ey⟩ := xenc_as y
  obtain ⟨o3, t3, p3, k3, c3, s3, ns3, zs, ez⟩ := xenc_as z
  have va : (Xp.encs [x, y, z])[1]? = some y.enc := rfl
  have vb : (Xp.encs [x, y, z])[2]? = some z.enc := rfl
  have e : (Xp.encs [x, y, z]).length = [x, y, z].length := rfl
  rw [ey] at hy va
  rw [ez] at hz vb
  generalize costV x = cx at *
  generalize costV y = cy at *
  generalize costV z = cz at *
  generalize ssum 1 cx = c1 at *
  have q9 : ((9 : Int) == 9) = true := rfl
  generalize [x, y, z].length = ln at *
  generalize Xp.encs [x, y, z] = w at *
  refine f14 rfl ?_
  simp (disch := omega) only [go_sem, and_self, and_true, true_and, false_and, and_false, Nat.reduceAdd, Nat.reduceMul, Nat.reduceSub, Nat.reduceLeDiff, Nat.reduceLT, Nat.reduceGT, Nat.reduceEqDiff, Nat.reduceBEq, Int.reduceNeg, Int.reduceEq, Int.reduceLT, Int.reduceLE, Int.reduceBEq, Int.reduceToNat, Int.toNat_natCast, Int.natCast_zero, r14_T, e]
  rw [r14_B0_n]
  erw [hL]
  have em : (if cy ≥ cz then cy else cz) = max cy cz := by omega
  have em2 : (if cz > cy then cz else cy) = max cy cz := by omega
  simp (disch := omega) only [go_sem, and_self, and_true, true_and, false_and, and_false, Nat.reduceAdd, Nat.reduceMul, Nat.reduceSub, Nat.reduceLeDiff, Nat.reduceLT, Nat.reduceGT, Nat.reduceEqDiff, Nat.reduceBEq, Int.reduceNeg, Int.reduceEq, Int.reduceLT, Int.reduceLE, Int.reduceBEq, Int.reduceToNat, Int.toNat_natCast, Int.natCast_zero, r14, q9, va, vb, hy, hz, hs, em, em2]
set_option maxHeartbeats 2000000 in
theorem cost_fn (o : Int) (t : ByteArray) (p k c s : Int) (ns : List ByteArray) (xs : List Xp) (ho : o ≠ 9) (hL : CoLoop o t p k c s ns xs 0 1 ((costs (xs.drop 0)).foldl ssum 1)) : CostIs (.mk o t p k c s ns xs) := by
  intro hp
  have hv : costV (.mk o t p k c s ns xs) = (costs xs).foldl ssum 1 := by
    rw [costV]
    unfold costO
    rw [if_neg ho]
  unfold CoLoop at hL
  rw [Int.natCast_zero, List.drop_zero] at hL
  rw [hv, Xp.enc]
  generalize (costs xs).foldl ssum 1 = r at *
  have q9 : (o == 9) = false := by simpa using ho
  have z0 : decide (p < ((0 : Nat) : Int)) = decide (p < 0) := rfl
  refine f14 rfl ?_
  simp (disch := omega) only [go_sem, and_self, and_true, true_and, false_and, and_false, Nat.reduceAdd, Nat.reduceMul, Nat.reduceSub, Nat.reduceLeDiff, Nat.reduceLT, Nat.reduceGT, Nat.reduceEqDiff, Nat.reduceBEq, Int.reduceNeg, Int.reduceEq, Int.reduceLT, Int.reduceLE, Int.reduceBEq, Int.reduceToNat, Int.toNat_natCast, Int.natCast_zero, r14_T, xencs_len]
  rw [r14_B0_n]
  erw [hL]
  rcases Bool.eq_false_or_eq_true (o == 16) with q16 | q16
  · rcases Bool.eq_false_or_eq_true (decide (p ≥ 0)) with qp | qp
    · have qn : decide (p < 0) = false := by simp only [decide_eq_true_eq] at qp; exact decide_eq_false (by omega)
      have qn' : (p < 0) = False := eq_false (by simp only [decide_eq_true_eq] at qp; omega)
      simp (disch := omega) only [go_sem, and_self, and_true, true_and, false_and, and_false, Nat.reduceAdd, Nat.reduceMul, Nat.reduceSub, Nat.reduceLeDiff, Nat.reduceLT, Nat.reduceGT, Nat.reduceEqDiff, Nat.reduceBEq, Int.reduceNeg, Int.reduceEq, Int.reduceLT, Int.reduceLE, Int.reduceBEq, Int.reduceToNat, Int.toNat_natCast, Int.natCast_zero, r14, q9, q16, qp, qn, qn', List.length_nil, Bool.true_and, Bool.false_and]
    · simp (disch := omega) only [go_sem, and_self, and_true, true_and, false_and, and_false, Nat.reduceAdd, Nat.reduceMul, Nat.reduceSub, Nat.reduceLeDiff, Nat.reduceLT, Nat.reduceGT, Nat.reduceEqDiff, Nat.reduceBEq, Int.reduceNeg, Int.reduceEq, Int.reduceLT, Int.reduceLE, Int.reduceBEq, Int.reduceToNat, Int.toNat_natCast, Int.natCast_zero, r14, q9, q16, qp, List.length_nil, Bool.true_and, Bool.false_and]
  · simp (disch := omega) only [go_sem, and_self, and_true, true_and, false_and, and_false, Nat.reduceAdd, Nat.reduceMul, Nat.reduceSub, Nat.reduceLeDiff, Nat.reduceLT, Nat.reduceGT, Nat.reduceEqDiff, Nat.reduceBEq, Int.reduceNeg, Int.reduceEq, Int.reduceLT, Int.reduceLE, Int.reduceBEq, Int.reduceToNat, Int.toNat_natCast, Int.natCast_zero, r14, q9, q16]
theorem cost_ok : ∀ (n : Nat) (e : Xp), SizeOf.sizeOf e ≤ n → e.ok → okX e → CostIs e
  | 0, e, h, _, _ => by cases e; simp at h
  | n + 1, .mk o t p k c s ns xs, h, ho, hx => by
    simp only [Xp.ok] at ho
    rw [okX] at hx
    have ih : ∀ x ∈ xs, CostIs x := fun x hm => by
      have := List.sizeOf_lt_of_mem hm
      simp at h
      exact cost_ok n x (by omega) (xoks_mem ho.2.2.2.2.2.2.2.2.2 hm) (okXs_mem hx.2.2 x hm)
    by_cases h9 : o = 9
    · match xs, hx.2.1 h9, ih with
      | [x, y, z], _, ih =>
        subst h9
        exact cost_if t p k c s ns x y z (ih x (by simp)) (ih y (by simp)) (ih z (by simp))
    · exact cost_fn o t p k c s ns xs h9 (co_loop o t p k c s ns xs ho.2.2.2.2.2.2.2.2.1 h9 ih xs.length 0 1 (by omega) (by omega))
end Go.Pe.T

namespace Go.Pe.T


theorem see_up (x : Xp) (most n : Int) (h : n < most) (h0 : 0 ≤ n) (hm : most ≤ 9223372036854775807) :
    F tab 30 [.d x.enc, .ptr 1 0, .ptr 0 0] [.box [.d (iv most)], .box [.d (iv n)]] = some (.ret (.d (.bool (decide (n + 1 < most)))) [.box [.d (iv most)], .box [.d (iv (n + 1))]]) := by
  obtain ⟨o, t, p, k, c, s, ns, ys, ex⟩ := xenc_as x
  rw [ex]
  refine f30 ?_
  simp (disch := omega) only [go_sem, and_self, and_true, true_and, false_and, and_false, Nat.reduceAdd, Nat.reduceMul, Nat.reduceSub, Nat.reduceLeDiff, Nat.reduceLT, Nat.reduceGT, Nat.reduceEqDiff, Nat.reduceBEq, Int.reduceNeg, Int.reduceEq, Int.reduceLT, Int.reduceLE, Int.reduceBEq, Int.reduceToNat, Int.toNat_natCast, Int.natCast_zero, r30_T, r30, h, w64]

theorem see_no (x : Xp) (most n : Int) (h : ¬ n < most) :
    F tab 30 [.d x.enc, .ptr 1 0, .ptr 0 0] [.box [.d (iv most)], .box [.d (iv n)]] = some (.ret (.d (.bool false)) [.box [.d (iv most)], .box [.d (iv n)]]) := by
  obtain ⟨o, t, p, k, c, s, ns, ys, ex⟩ := xenc_as x
  rw [ex]
  refine f30 ?_
  simp (disch := omega) only [go_sem, and_self, and_true, true_and, false_and, and_false, Nat.reduceAdd, Nat.reduceMul, Nat.reduceSub, Nat.reduceLeDiff, Nat.reduceLT, Nat.reduceGT, Nat.reduceEqDiff, Nat.reduceBEq, Int.reduceNeg, Int.reduceEq, Int.reduceLT, Int.reduceLE, Int.reduceBEq, Int.reduceToNat, Int.toNat_natCast, Int.natCast_zero, r30_T, r30, h, w64]

theorem size_runs (most : Int) (hm : most ≤ 9223372036854775807) : ∀ (l : List Xp) (n : Int), 0 ≤ n → n < most →
    ∃ b, Runs 30 [.ptr 1 0, .ptr 0 0] [.box [.d (iv most)], .box [.d (iv n)]] l [.box [.d (iv most)], .box [.d (iv (min most (n + l.length)))]] b
  | [], n, h0, h => ⟨true, by
      have : min most (n + (([] : List Xp).length : Int)) = n := by simp only [List.length_nil]; omega
      rw [this]
      exact .nil⟩
  | x :: l, n, h0, h => by
    have hs := see_up x most n h h0 hm
    by_cases h1 : n + 1 < most
    · obtain ⟨b, hb⟩ := size_runs most hm l (n + 1) (by omega) h1
      rw [decide_eq_true h1] at hs
      have : min most (n + ((x :: l).length : Int)) = min most (n + 1 + (l.length : Int)) := by simp only [List.length_cons]; omega
      rw [this]
      exact ⟨b, .step hs hb⟩
    · rw [decide_eq_false h1] at hs
      have : min most (n + ((x :: l).length : Int)) = n + 1 := by simp only [List.length_cons]; omega
      rw [this]
      exact ⟨false, .stop hs⟩

def sizeV (e : Xp) (most : Int) : Int := max 0 (min most e.pre.length)

theorem size_fn (e : Xp) (most : Int) (b : Bool)
    (h : F tab 27 [.d e.enc, .fn 30 [.ptr 1 0, .ptr 0 0]] [.box [.d (iv most)], .box [.d (iv 0)]] = some (.ret (.d (.bool b)) [.box [.d (iv most)], .box [.d (iv (sizeV e most))]])) (hp : List Ent) :
    F tab 19 [.d e.enc, .d (iv most)] hp = some (.ret (.d (iv (sizeV e most))) hp) := by
  obtain ⟨o, t, p, k, c, s, ns, ys, ex⟩ := xenc_as e
  rw [ex] at h ⊢
  refine f19 rfl ?_
  simp (disch := omega) only [go_sem, and_self, and_true, true_and, false_and, and_false, Nat.reduceAdd, Nat.reduceMul, Nat.reduceSub, Nat.reduceLeDiff, Nat.reduceLT, Nat.reduceGT, Nat.reduceEqDiff, Nat.reduceBEq, Int.reduceNeg, Int.reduceEq, Int.reduceLT, Int.reduceLE, Int.reduceBEq, Int.reduceToNat, Int.toNat_natCast, Int.natCast_zero, r19_T, r19, h]

theorem size_ok (e : Xp) (he : e.ok) (most : Int) (hm : most ≤ 9223372036854775807) (hp : List Ent) : F tab 19 [.d e.enc, .d (iv most)] hp = some (.ret (.d (iv (sizeV e most))) hp) := by
  have hpos := pre_pos e
  by_cases h : 0 < most
  · obtain ⟨b, hb⟩ := size_runs most hm e.pre 0 (by omega) h
    have e1 : min most (0 + (e.pre.length : Int)) = sizeV e most := by unfold sizeV; omega
    rw [e1] at hb
    exact size_fn e most b (go_ok _ _ e he _ _ _ hb) hp
  · have e1 : sizeV e most = 0 := by unfold sizeV; omega
    refine size_fn e most false ?_ hp
    rw [e1]
    refine go_ok _ _ e he _ _ _ ?_
    rw [pre_eq]
    exact .stop (see_no e most 0 h)
end Go.Pe.T

namespace Go.Pe.T
def zx : D := .agg [.int .i64 0, .str ⟨#[]⟩, .int .i64 0, .int .i64 0, .int .i64 0, .int .i64 0, .sl [], .sl []]
theorem flat_zero : ∀ (n : Nat), (zeroDs [.int .i64 0, .str ⟨#[]⟩, .int .i64 0, .int .i64 0, .int .i64 0, .int .i64 0, .sl [], .sl []] n).map PV.d = flatD (List.replicate n zx) := by
  intro n
  unfold flatD
  congr 1
  unfold zeroDs
  induction n with
  | zero => rfl
  | succ n ih =>
    rw [List.replicate_succ', List.flatMap_append, ← ih]
    have e : (n + 1) * 8 = n * 8 + 8 := by omega
    simp only [List.length_cons, List.length_nil, Nat.zero_add, Nat.reduceAdd, e, List.range_add, List.map_append, List.map_map]
    congr 1
    have hr : List.range 8 = [0, 1, 2, 3, 4, 5, 6, 7] := by decide
    simp [hr, zx, D.cells, Nat.add_mod]
theorem row_agg (done : List Xp) (m : Nat) : AggRow 8 (Xp.encs done ++ List.replicate m zx) := by
  have key : ∀ y ∈ Xp.encs done ++ List.replicate m zx, (∃ v : Xp, y = v.enc) ∨ y = zx := by
    intro y hy
    rcases List.mem_append.1 hy with h | h
    · rw [xencs_eq, List.mem_map] at h
      obtain ⟨v, _, rfl⟩ := h
      exact .inl ⟨v, rfl⟩
    · exact .inr (List.eq_of_mem_replicate h)
  refine ⟨fun y hy => ?_, fun y hy => ?_, fun y hy c hc => ?_⟩
  · rcases key y hy with ⟨v, rfl⟩ | rfl
    · exact xenc_a v
    · rfl
  · rcases key y hy with ⟨v, rfl⟩ | rfl
    · exact xenc_w v
    · rfl
  · rcases key y hy with ⟨v, rfl⟩ | rfl
    · obtain ⟨o, t, p, k, c', s, ns, xs, ex⟩ := xenc_as v
      rw [ex] at hc
      simp [D.cells] at hc
      rcases hc with rfl | rfl | rfl | rfl | rfl | rfl | rfl | rfl <;> rfl
    · simp [zx, D.cells] at hc
      rcases hc with rfl | rfl | rfl | rfl <;> rfl
theorem row_set (done : List Xp) (m : Nat) (y : Xp) : storeIn (some 8) (flatD (Xp.encs done ++ List.replicate (m + 1) zx)) (done.length * 8) (.d y.enc) = some (flatD (Xp.encs (done ++ [y]) ++ List.replicate m zx)) := by
  have hl : (Xp.encs done).length = done.length := xencs_len done
  rw [storeIn_row (row_agg done (m + 1)) (i := done.length) (by simp [hl]) (xenc_a y) (xenc_w y)]
  congr 2
  rw [List.set_append, if_neg (by omega), hl, Nat.sub_self, List.replicate_succ, List.set_cons_zero, xencs_app]
  simp [Xp.encs]
theorem xenc_cl (y : Xp) : y.enc = .agg y.enc.cells ∧ y.enc.cells.length = 8 := by cases y; exact ⟨rfl, rfl⟩
theorem row_sc (done : List Xp) (m : Nat) (y : Xp) : setCells (flatD (Xp.encs done ++ List.replicate (m + 1) zx)) (0 + done.length * 8) y.enc.cells = flatD (Xp.encs (done ++ [y]) ++ List.replicate m zx) ∧ 0 + done.length * 8 + 8 ≤ (flatD (Xp.encs done ++ List.replicate (m + 1) zx)).length := by
  have h := row_set done m y
  rw [(xenc_cl y).1] at h
  simp only [storeIn] at h
  split at h
  · rename_i hc
    simp only [Bool.and_eq_true, decide_eq_true_eq] at hc
    rw [Nat.zero_add]
    exact ⟨by simpa using h, hc.2⟩
  · simp at h
def exHp (ys : List Xp) : List Ent := if ys.length = 0 then [.box []] else [.gone]
theorem frz_x (ys : List Xp) (n : Nat) (hn : n = ys.length) (tm : List PV) (m : Nat) (h : tm.getD m .dead = .rowh 0 0 n) : frzOp ⟨tm, [.box (flatD (Xp.encs ys))]⟩ 8 true (.t m) = some (.d (.sl (Xp.encs ys)), ⟨tm, exHp ys⟩) := by
  subst hn
  by_cases h0 : ys.length = 0
  · obtain rfl := List.eq_nil_of_length_eq_zero h0
    unfold frzOp exHp
    simp only [St.x]
    rw [h]
    simp [Xp.encs, flatD]
  · have hr : rowEnt (Xp.encs ys) = .box (flatD (Xp.encs ys)) := by
      unfold rowEnt
      cases ys with
      | nil => simp at h0
      | cons y r => rfl
    have hag : AggRow 8 (Xp.encs ys) := by
      have := row_agg ys 0
      simpa using this
    have := frz_row (s := ⟨tm, [.box (flatD (Xp.encs ys))]⟩) (x := .t m) (id := 0) hag (by rw [xencs_len]; exact h) (by rw [hr]; rfl)
    rw [this]
    simp [exHp, h0]
abbrev x2Z : PV := .ibox [.d (.int .i64 0), .d (.str ⟨#[]⟩), .d (.int .i64 0), .d (.int .i64 0), .d (.int .i64 0), .d (.int .i64 0), .nilsl, .nilsl]
def BareIs (e : Xp) : Prop := ∀ hp : List Ent, F tab 21 [.d e.enc] hp = some (.ret (.d (bareX e).enc) hp)
section
variable (o : Int) (t : ByteArray) (k c s : Int) (ns : List ByteArray) (xs : List Xp)
def BaLoop (done rest : List Xp) : Prop :=
  V (F tab) r21_B0 (r21_S0 (xB o t 0 k c s ns xs) x2Z (.rowh 0 0 xs.length) (.d (.sl (Xp.encs xs))) (.d (iv xs.length)) (.d (iv done.length)) [.box (flatD (Xp.encs done ++ List.replicate rest.length zx))]) =
    some (.norm, r21_E0 (xB o t 0 k c s ns xs) x2Z (.rowh 0 0 xs.length) [.box (flatD (Xp.encs (done ++ bares rest)))])
theorem ba_nil (done : List Xp) (hn : done.length = xs.length) : BaLoop o t k c s ns xs done [] := by
  have h1 : ((done.length : Int) < (xs.length : Int)) = False := eq_false (by omega)
  unfold BaLoop
  rw [r21_B0_eq]
  simp (disch := omega) only [go_sem, and_self, and_true, true_and, false_and, and_false, Nat.reduceAdd, Nat.reduceMul, Nat.reduceSub, Nat.reduceLeDiff, Nat.reduceLT, Nat.reduceGT, Nat.reduceEqDiff, Nat.reduceBEq, Int.reduceNeg, Int.reduceEq, Int.reduceLT, Int.reduceLE, Int.reduceBEq, Int.reduceToNat, Int.toNat_natCast, Int.natCast_zero, r21_C0, h1, bares, List.append_nil, List.length_nil, List.replicate_zero]
theorem ba_step (done : List Xp) (x : Xp) (rest : List Xp) (hx : xs[done.length]? = some x) (hn : done.length + (rest.length + 1) = xs.length) (hxl : xs.length ≤ 1000000) (hb : BareIs x)
    (ih : BaLoop o t k c s ns xs (done ++ [bareX x]) rest) : BaLoop o t k c s ns xs done (x :: rest) := by
  have h1 : ((done.length : Int) < (xs.length : Int)) = True := eq_true (by omega)
  have i0 : (0 ≤ (done.length : Int)) = True := eq_true (by omega)
  have va : (Xp.encs xs)[done.length]? = some x.enc := by rw [xencs_get, hx]; rfl
  unfold BareIs at hb
  obtain ⟨o', t', p', k', c', s', ns', xs', ex⟩ := xenc_as x
  rw [ex] at va hb
  unfold BaLoop at ih ⊢
  have hdl : (done ++ [bareX x]).length = done.length + 1 := by simp
  rw [hdl, Int.natCast_add, Int.natCast_one] at ih
  obtain ⟨s1, s2⟩ := row_sc done rest.length (bareX x)
  obtain ⟨q1, q2⟩ := xenc_cl (bareX x)
  rw [q1] at hb
  rw [r21_B0_eq]
  simp only [List.length_cons, bares, List.append_assoc, List.cons_append, List.nil_append] at ih ⊢
  simp (disch := omega) only [go_sem, and_self, and_true, true_and, false_and, and_false, Nat.reduceAdd, Nat.reduceMul, Nat.reduceSub, Nat.reduceLeDiff, Nat.reduceLT, Nat.reduceGT, Nat.reduceEqDiff, Nat.reduceBEq, Int.reduceNeg, Int.reduceEq, Int.reduceLT, Int.reduceLE, Int.reduceBEq, Int.reduceToNat, Int.toNat_natCast, Int.natCast_zero, r21_C0, h1, i0, va, hb, w64, q2, s1, s2, decide_true, Bool.and_true]
  exact ih
theorem ba_loop (hxl : xs.length ≤ 1000000) (hall : ∀ x ∈ xs, BareIs x) : ∀ (rest done pre : List Xp), xs = pre ++ rest → pre.length = done.length → BaLoop o t k c s ns xs done rest
  | [], done, pre, h, hd => ba_nil o t k c s ns xs done (by rw [h, ← hd]; simp)
  | x :: rest, done, pre, h, hd =>
    ba_step o t k c s ns xs done x rest (by rw [h, ← hd]; simp) (by rw [h, ← hd]; simp) hxl (hall x (by rw [h]; simp)) (ba_loop hxl hall rest (done ++ [bareX x]) (pre ++ [x]) (by rw [h]; simp) (by simp [hd]))
set_option maxHeartbeats 2000000 in
theorem bare_fn (p : Int) (hxl : xs.length ≤ 1000000) (hL : BaLoop o t k c s ns xs [] xs) : BareIs (.mk o t p k c s ns xs) := by
  intro hp
  have k1 : (0 ≤ (xs.length : Int)) = True := eq_true (by omega)
  have k2 : ((xs.length : Int) * ((104 : Nat) : Int) ≤ 140737488355328) = True := eq_true (by omega)
  have hz := flat_zero xs.length
  have hfz := fun tm m h => frz_x (bares xs) xs.length (by rw [bares_eq, List.length_map]) tm m h
  unfold BaLoop xB at hL
  rw [List.length_nil] at hL
  simp only [Xp.encs, List.nil_append, Int.natCast_zero] at hL
  rw [bareX, Xp.enc, Xp.enc]
  refine f21 rfl ?_
  simp (disch := omega) only [go_sem, and_self, and_true, true_and, false_and, and_false, Nat.reduceAdd, Nat.reduceMul, Nat.reduceSub, Nat.reduceLeDiff, Nat.reduceLT, Nat.reduceGT, Nat.reduceEqDiff, Nat.reduceBEq, Int.reduceNeg, Int.reduceEq, Int.reduceLT, Int.reduceLE, Int.reduceBEq, Int.reduceToNat, Int.toNat_natCast, Int.natCast_zero, r21_T, mksOp, k1, k2, xencs_len, hz]
  rw [r21_B0_n]
  erw [hL]
  simp (disch := omega) only [go_sem, and_self, and_true, true_and, false_and, and_false, Nat.reduceAdd, Nat.reduceMul, Nat.reduceSub, Nat.reduceLeDiff, Nat.reduceLT, Nat.reduceGT, Nat.reduceEqDiff, Nat.reduceBEq, Int.reduceNeg, Int.reduceEq, Int.reduceLT, Int.reduceLE, Int.reduceBEq, Int.reduceToNat, Int.toNat_natCast, Int.natCast_zero, r21]
  rw [hfz _ _ rfl]
  simp (disch := omega) only [go_sem, and_self, and_true, true_and, false_and, and_false, Nat.reduceAdd, Nat.reduceMul, Nat.reduceSub, Nat.reduceLeDiff, Nat.reduceLT, Nat.reduceGT, Nat.reduceEqDiff, Nat.reduceBEq, Int.reduceNeg, Int.reduceEq, Int.reduceLT, Int.reduceLE, Int.reduceBEq, Int.reduceToNat, Int.toNat_natCast, Int.natCast_zero, r21]
end
theorem subs_len {xs : List Xp} {x : Xp} (h : x ∈ xs) : x.pre.length ≤ (Xp.pres xs).length := by
  induction xs with
  | nil => simp at h
  | cons y r ih =>
    rw [Xp.pres, List.length_append]
    rcases List.mem_cons.1 h with rfl | h
    · omega
    · have := ih h
      omega
theorem pres_len (xs : List Xp) : xs.length ≤ (Xp.pres xs).length := by
  induction xs with
  | nil => simp
  | cons y r ih =>
    have := pre_pos y
    rw [Xp.pres, List.length_append, List.length_cons]
    omega
theorem bare_is : ∀ (n : Nat) (e : Xp), SizeOf.sizeOf e ≤ n → e.pre.length ≤ 1000000 → BareIs e
  | 0, e, h, _ => by cases e; simp at h
  | n + 1, .mk o t p k c s ns xs, h, hl => by
    rw [Xp.pre, List.length_cons] at hl
    have h1 := pres_len xs
    refine bare_fn o t k c s ns xs p (by omega) (ba_loop o t k c s ns xs (by omega) (fun x hm => ?_) xs [] [] rfl rfl)
    have h2 := List.sizeOf_lt_of_mem hm
    have h3 := subs_len hm
    simp at h
    exact bare_is n x (by omega) (by omega)
theorem is18_ok (e : Xp) (he : e.ok) (hp : List Ent) : F tab 12 [.d e.enc] hp = some (.ret (.d (.bool (isB e))) hp) := by
  have h1 := size_ok e he 513 (by omega)
  have hpos := pre_pos e
  have h3 := is_ok (bareX e) (bare_ok e he)
  have es : isB e = (decide (sizeV e 513 ≤ 512) && isV (bareX e)) := by
    unfold isB sizeV
    congr 1
    apply decide_eq_decide.2
    omega
  obtain ⟨o, t, p, k, c, s, ns, xs, ex⟩ := xenc_as e
  obtain ⟨o2, t2, p2, k2, c2, s2, ns2, xs2, ey⟩ := xenc_as (bareX e)
  rw [es]
  rcases Bool.eq_false_or_eq_true (decide (sizeV e 513 ≤ 512)) with q | q
  · have h2 := bare_is _ e (Nat.le_refl _) (by unfold sizeV at q; simp only [decide_eq_true_eq] at q; omega)
    unfold BareIs at h2
    rw [ey] at h2 h3
    rw [ex] at h1 h2 ⊢
    rw [q, Bool.true_and]
    generalize sizeV e 513 = z at *
    refine f12 rfl ?_
    simp (disch := omega) only [go_sem, and_self, and_true, true_and, false_and, and_false, Nat.reduceAdd, Nat.reduceMul, Nat.reduceSub, Nat.reduceLeDiff, Nat.reduceLT, Nat.reduceGT, Nat.reduceEqDiff, Nat.reduceBEq, Int.reduceNeg, Int.reduceEq, Int.reduceLT, Int.reduceLE, Int.reduceBEq, Int.reduceToNat, Int.toNat_natCast, Int.natCast_zero, r12_T, r12, h1, h2, h3, q]
  · rw [ex] at h1 ⊢
    rw [q, Bool.false_and]
    generalize sizeV e 513 = z at *
    refine f12 rfl ?_
    simp (disch := omega) only [go_sem, and_self, and_true, true_and, false_and, and_false, Nat.reduceAdd, Nat.reduceMul, Nat.reduceSub, Nat.reduceLeDiff, Nat.reduceLT, Nat.reduceGT, Nat.reduceEqDiff, Nat.reduceBEq, Int.reduceNeg, Int.reduceEq, Int.reduceLT, Int.reduceLE, Int.reduceBEq, Int.reduceToNat, Int.toNat_natCast, Int.natCast_zero, r12_T, r12, h1, q]
theorem fits_ok7 (o : Int) (t : ByteArray) (p k c s : Int) (ns : List ByteArray) (xs : List Xp) (h : fitsV (.mk o t p k c s ns xs) = true) : (o = 7 → xs.length = 2) ∧ (o = 9 → xs.length = 3) := by
  unfold fitsV at h
  simp only [Bool.and_eq_true, decide_eq_true_eq] at h
  obtain ⟨_, _, h1, h2, _⟩ := h
  constructor
  · rintro rfl
    have e : shapeV 7 = (2, 2, false, false, true) := rfl
    rw [e] at h1 h2
    simp only at h1 h2
    omega
  · rintro rfl
    have e : shapeV 9 = (3, 3, false, false, true) := rfl
    rw [e] at h1 h2
    simp only at h1 h2
    omega
mutual
theorem okX_of : ∀ (e : Xp), (bareX e).pre.all fitsV = true → okX e
  | .mk o t p k c s ns xs, h => by
    rw [bareX, Xp.pre, List.all_cons, Bool.and_eq_true] at h
    have h1 := fits_ok7 o t 0 k c s ns (bares xs) h.1
    rw [bares_eq, List.length_map] at h1
    rw [okX]
    exact ⟨h1.1, h1.2, okXs_of xs h.2⟩
theorem okXs_of : ∀ (xs : List Xp), (Xp.pres (bares xs)).all fitsV = true → okXs xs
  | [], _ => trivial
  | x :: r, h => by
    rw [bares, Xp.pres, List.all_append, Bool.and_eq_true] at h
    rw [okXs]
    exact ⟨okX_of x h.1, okXs_of r h.2⟩
end
theorem Calm_ok (e : Xp) (he : e.ok) (hp : List Ent) : F tab 6 [nF, .d e.enc] hp = some (.ret (.d (.bool (calmA e))) hp) := by
  have h1 := is18_ok e he
  unfold calmA
  obtain ⟨o, t, p, k, c, s, ns, xs, ex⟩ := xenc_as e
  rcases Bool.eq_false_or_eq_true (isB e) with q | q
  · have h2 := (cr_ok _ e (Nat.le_refl _) he (okX_of e (isV_bare (by unfold isB at q; rw [Bool.and_eq_true] at q; exact q.2)))).1
    unfold CalmIs at h2
    rw [q] at h1 ⊢
    rw [ex] at h1 h2 ⊢
    rw [Bool.true_and]
    refine f6 rfl ?_
    simp (disch := omega) only [go_sem, and_self, and_true, true_and, false_and, and_false, Nat.reduceAdd, Nat.reduceMul, Nat.reduceSub, Nat.reduceLeDiff, Nat.reduceLT, Nat.reduceGT, Nat.reduceEqDiff, Nat.reduceBEq, Int.reduceNeg, Int.reduceEq, Int.reduceLT, Int.reduceLE, Int.reduceBEq, Int.reduceToNat, Int.toNat_natCast, Int.natCast_zero, r6_T, r6, h1, h2]
  · rw [q] at h1 ⊢
    rw [ex] at h1 ⊢
    rw [Bool.false_and]
    refine f6 rfl ?_
    simp (disch := omega) only [go_sem, and_self, and_true, true_and, false_and, and_false, Nat.reduceAdd, Nat.reduceMul, Nat.reduceSub, Nat.reduceLeDiff, Nat.reduceLT, Nat.reduceGT, Nat.reduceEqDiff, Nat.reduceBEq, Int.reduceNeg, Int.reduceEq, Int.reduceLT, Int.reduceLE, Int.reduceBEq, Int.reduceToNat, Int.toNat_natCast, Int.natCast_zero, r6_T, r6, h1]
theorem Cost_ok (e : Xp) (he : e.ok) (hp : List Ent) : F tab 7 [nF, .d e.enc] hp = some (.ret (.d (iv (costA e))) hp) := by
  have h1 := Calm_ok e he
  unfold costA
  obtain ⟨o, t, p, k, c, s, ns, xs, ex⟩ := xenc_as e
  rcases Bool.eq_false_or_eq_true (calmA e) with q | q
  · have h2 := cost_ok _ e (Nat.le_refl _) he (okX_of e (by unfold calmA isB at q; rw [Bool.and_eq_true, Bool.and_eq_true] at q; exact isV_bare q.1.2))
    unfold CostIs at h2
    rw [q] at h1
    rw [q, if_pos rfl]
    rw [ex] at h1 h2 ⊢
    refine f7 rfl ?_
    simp (disch := omega) only [go_sem, and_self, and_true, true_and, false_and, and_false, Nat.reduceAdd, Nat.reduceMul, Nat.reduceSub, Nat.reduceLeDiff, Nat.reduceLT, Nat.reduceGT, Nat.reduceEqDiff, Nat.reduceBEq, Int.reduceNeg, Int.reduceEq, Int.reduceLT, Int.reduceLE, Int.reduceBEq, Int.reduceToNat, Int.toNat_natCast, Int.natCast_zero, r7_T, r7, h1, h2]
  · rw [q] at h1
    rw [q, if_neg (by simp)]
    rw [ex] at h1 ⊢
    refine f7 rfl ?_
    simp (disch := omega) only [go_sem, and_self, and_true, true_and, false_and, and_false, Nat.reduceAdd, Nat.reduceMul, Nat.reduceSub, Nat.reduceLeDiff, Nat.reduceLT, Nat.reduceGT, Nat.reduceEqDiff, Nat.reduceBEq, Int.reduceNeg, Int.reduceEq, Int.reduceLT, Int.reduceLE, Int.reduceBEq, Int.reduceToNat, Int.toNat_natCast, Int.natCast_zero, r7_T, r7, h1]
end Go.Pe.T
