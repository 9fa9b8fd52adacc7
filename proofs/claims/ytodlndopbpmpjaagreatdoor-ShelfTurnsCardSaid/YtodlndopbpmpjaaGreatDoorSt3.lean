/- A part of the proof of: A text that is turned round twice stands as it did and is as long; great letters of small ones and trimming twice turn nothing more; each text begins and ends with nothing and has itself in it (keyholelaw21.ShelfTurns answers true for every input). -/
import Derived.Test.YtodlndopbpmpjaaGreatDoorSt2
import Derived.Test.YtodlndopbpmpjaaGreatDoorPe3
import Derived.Lib.MapLaws
import Derived.Lib.ValidLaws
import Derived.Test.YtodlndopbpmpjaaGreatDoorSt1
set_option linter.unusedSimpArgs false
set_option linter.unusedVariables false
set_option maxRecDepth 10000
set_option maxRecDepth 100000

namespace Go.Pe.T
def bs (s : ByteArray) : List UInt8 := s.data.toList
theorem bs_len (s : ByteArray) : (bs s).length = s.size := rfl
theorem bs_toList (s : ByteArray) : s.toList = bs s := ByteArray.toList_eq s
theorem bs_get {s : ByteArray} {i : Nat} (h : i < s.size) : s[i]? = some s[i] ∧ (bs s).drop i = s[i] :: (bs s).drop (i + 1) := by
  have e : s[i] = s.data.toList[i]'h := rfl
  refine ⟨getElem?_pos s i h, ?_⟩
  unfold bs
  rw [e]; exact List.drop_eq_getElem_cons h
theorem bs_end {s : ByteArray} {i : Nat} (h : s.size ≤ i) : (bs s).drop i = [] := List.drop_of_length_le h

end Go.Pe.T

namespace Go.Pe.T

def nb (l : List UInt8) (i : Nat) : Int := ((l.getD i 0).toNat : Int)
def contB (c : Int) : Bool := !decide (c < 128) && !decide (c > 191)
def conts : List UInt8 → Nat → Bool
  | _, 0 => true
  | [], _ + 1 => false
  | c :: r, k + 1 => contB c.toNat && conts r k
def tailL (l : List UInt8) (n : Nat) (lo hi : Int) : Bool := !decide (l.length ≤ n) && ((!decide (nb l 1 < lo) && !decide (nb l 1 > hi)) && conts (l.drop 2) (n - 1))
def sizeL (l : List UInt8) : Nat :=
  if nb l 0 < 128 then 1
  else if (decide (nb l 0 ≥ 194) && decide (nb l 0 ≤ 223)) && tailL l 1 128 191 then 2
  else if (nb l 0 == 224 && tailL l 2 160 191) || (((decide (nb l 0 ≥ 225) && decide (nb l 0 ≤ 239)) && nb l 0 != 237) && tailL l 2 128 191 || nb l 0 == 237 && tailL l 2 128 159) then 3
  else if (nb l 0 == 240 && tailL l 3 144 191) || ((decide (nb l 0 ≥ 241) && decide (nb l 0 ≤ 243)) && tailL l 3 128 191 || nb l 0 == 244 && tailL l 3 128 143) then 4
  else 0
def validF : Nat → List UInt8 → Bool
  | _, [] => true
  | 0, _ :: _ => false
  | k + 1, c :: r => if sizeL (c :: r) = 0 then false else validF k ((c :: r).drop (sizeL (c :: r)))
def validB (s : ByteArray) : Bool := validF s.size (bs s)

theorem tail_len {l : List UInt8} {n : Nat} {lo hi : Int} (h : tailL l n lo hi = true) : n < l.length := by
  simp only [tailL, Bool.and_eq_true, Bool.not_eq_true', decide_eq_false_iff_not] at h
  omega
theorem sizeL_le (l : List UInt8) (hl : l ≠ []) : sizeL l ≤ l.length := by
  have h0 : 0 < l.length := List.length_pos_iff.2 hl
  unfold sizeL
  split
  · omega
  · split
    · rename_i h; simp only [Bool.and_eq_true] at h; have := tail_len h.2; omega
    · split
      · rename_i h; simp only [Bool.or_eq_true, Bool.and_eq_true] at h
        rcases h with h | h | h <;> (have := tail_len h.2; omega)
      · split
        · rename_i h; simp only [Bool.or_eq_true, Bool.and_eq_true] at h
          rcases h with h | h | h <;> (have := tail_len h.2; omega)
        · omega

theorem bs_nb {s : ByteArray} {i : Nat} (h : i < s.size) : ((s[i].toNat : Nat) : Int) = nb (bs s) i := by
  have e : s[i] = s.data.toList[i]'h := rfl
  simp only [nb, bs, List.getD_eq_getElem?_getD, List.getElem?_eq_getElem (show i < s.data.toList.length from h), Option.getD_some, e]

def TlLoop (s : ByteArray) (n i : Nat) : Prop :=
  V (F tab) r154_B0 (r154_S0 (.d (.str s)) (.d (iv n)) (.d (iv i)) []) = if conts ((bs s).drop i) (n + 1 - i) then some (.norm, r154_E0 []) else some (.ret, r154_R (.d (.bool false)) [])
theorem tl_end (s : ByteArray) (n i : Nat) (hi : n < i) : TlLoop s n i := by
  have h1 : ((i : Int) ≤ (n : Int)) = False := eq_false (by omega)
  unfold TlLoop
  rw [r154_B0_eq, show n + 1 - i = 0 by omega]
  simp (disch := omega) only [go_sem, r154_C0, h1, conts]
theorem tl_step (s : ByteArray) (n i : Nat) (hn : n < s.size) (h4 : n ≤ 4) (hi : i ≤ n) (ih : TlLoop s n (i + 1)) : TlLoop s n i := by
  have h1 : ((i : Int) ≤ (n : Int)) = True := eq_true (by omega)
  have hi0 : (0 ≤ (i : Int)) = True := eq_true (by omega)
  obtain ⟨va, vd⟩ := bs_get (show i < s.size by omega)
  unfold TlLoop at ih ⊢
  rw [Int.natCast_add, Int.natCast_one] at ih
  rw [r154_B0_eq, vd, show n + 1 - i = (n - i) + 1 by omega]
  rw [show n + 1 - (i + 1) = n - i by omega] at ih
  simp only [conts, contB]
  by_cases g1 : ((s[i].toNat : Nat) : Int) < 128
  · simp (disch := omega) only [go_sem, r154_C0, h1, hi0, va, w64, g1, decide_true, Bool.not_true, Bool.false_and]
  · by_cases g2 : ((s[i].toNat : Nat) : Int) > 191
    · simp (disch := omega) only [go_sem, r154_C0, h1, hi0, va, w64, g1, g2, decide_true, decide_false, Bool.not_true, Bool.not_false, Bool.false_and, Bool.true_and]
    · simp (disch := omega) only [go_sem, r154_C0, h1, hi0, va, w64, g1, g2, decide_true, decide_false, Bool.not_true, Bool.not_false, Bool.false_and, Bool.true_and]
      exact ih
theorem tl_loop (s : ByteArray) (n : Nat) (hn : n < s.size) (h4 : n ≤ 4) : ∀ (j i : Nat), i + j = n + 1 → TlLoop s n i
  | 0, i, hi => tl_end s n i (by omega)
  | j + 1, i, hi => tl_step s n i hn h4 (by omega) (tl_loop s n hn h4 j (i + 1) (by omega))
theorem tail_ok (s : ByteArray) (n : Nat) (lo hi : Int) (h1 : 1 ≤ n) (h4 : n ≤ 4) (hp : List Ent) : F tab 154 [.d (.str s), .d (iv n), .d (.int .u8 lo), .d (.int .u8 hi)] hp = some (.ret (.d (.bool (tailL (bs s) n lo hi))) hp) := by
  refine f154 rfl ?_
  unfold tailL
  rw [bs_len]
  by_cases g : s.size ≤ n
  · have g' : ((s.size : Int) ≤ (n : Int)) = True := eq_true (by omega)
    simp (disch := omega) only [go_sem, r154_T, r154, g, g', decide_true, Bool.not_true, Bool.false_and]
  · have g' : ((s.size : Int) ≤ (n : Int)) = False := eq_false (by omega)
    have hL := tl_loop s n (by omega) h4 (n - 1) 2 (by omega)
    unfold TlLoop at hL
    rw [show n + 1 - 2 = n - 1 by omega] at hL
    have hlt : 1 < s.size := by omega
    obtain ⟨va, vd⟩ := bs_get hlt
    have e := bs_nb hlt
    rw [← e]
    by_cases g1 : ((s[1].toNat : Nat) : Int) < lo
    · simp (disch := omega) only [go_sem, r154_T, r154, g, g', va, g1, decide_true, decide_false, Bool.not_true, Bool.not_false, Bool.false_and, Bool.true_and]
    · by_cases g2 : ((s[1].toNat : Nat) : Int) > hi
      · simp (disch := omega) only [go_sem, r154_T, r154, g, g', va, g1, g2, decide_true, decide_false, Bool.not_true, Bool.not_false, Bool.false_and, Bool.true_and]
      · simp (disch := omega) only [go_sem, r154_T, r154, g, g', va, g1, g2, decide_true, decide_false, Bool.not_true, Bool.not_false, Bool.false_and, Bool.true_and]
        rw [r154_B0_n]
        erw [hL]
        rcases Bool.eq_false_or_eq_true (conts ((bs s).drop 2) (n - 1)) with g3 | g3 <;> rw [g3] <;> simp only [go_sem]

theorem size_0 (s : ByteArray) (c : Int) (h0 : 0 < s.size) (hc : ((s[0].toNat : Nat) : Int) = c) (g1 : c ≥ 0) (g2 : c ≤ 127) (hp : List Ent) : F tab 117 [.d (.str s)] hp = some (.ret (.d (iv (sizeL (bs s)))) hp) := by
  obtain ⟨va, vd⟩ := bs_get h0
  have e := bs_nb h0
  rw [hc] at e
  have xa : (c < 128) = True := eq_true (by omega)
  have xb : (c ≥ 194) = False := eq_false (by omega)
  have xd : (c ≤ 223) = True := eq_true (by omega)
  have xe : (c == 224) = false := by simp <;> omega
  have xf : (c ≥ 225) = False := eq_false (by omega)
  have xh : (c ≤ 239) = True := eq_true (by omega)
  have xi : (c != 237) = true := by simp <;> omega
  have xj : (c == 237) = false := by simp <;> omega
  have xk : (c == 240) = false := by simp <;> omega
  have xl : (c ≥ 241) = False := eq_false (by omega)
  have xm : (c ≤ 243) = True := eq_true (by omega)
  have xn : (c == 244) = false := by simp <;> omega
  refine f117 rfl ?_
  unfold sizeL
  rw [← e]
  simp (disch := omega) only [go_sem, r117_T, r117, va, hc, xa, xb, xd, xe, xf, xh, xi, xj, xk, xl, xm, xn, decide_true, decide_false, Bool.true_and, Bool.false_and, Bool.true_or, Bool.false_or, Bool.and_false, Bool.and_true, Int.natCast_one]
  try rfl

theorem size_1 (s : ByteArray) (c : Int) (h0 : 0 < s.size) (hc : ((s[0].toNat : Nat) : Int) = c) (g1 : c ≥ 128) (g2 : c ≤ 193) (hp : List Ent) : F tab 117 [.d (.str s)] hp = some (.ret (.d (iv (sizeL (bs s)))) hp) := by
  obtain ⟨va, vd⟩ := bs_get h0
  have e := bs_nb h0
  rw [hc] at e
  have xa : (c < 128) = False := eq_false (by omega)
  have xb : (c ≥ 194) = False := eq_false (by omega)
  have xd : (c ≤ 223) = True := eq_true (by omega)
  have xe : (c == 224) = false := by simp <;> omega
  have xf : (c ≥ 225) = False := eq_false (by omega)
  have xh : (c ≤ 239) = True := eq_true (by omega)
  have xi : (c != 237) = true := by simp <;> omega
  have xj : (c == 237) = false := by simp <;> omega
  have xk : (c == 240) = false := by simp <;> omega
  have xl : (c ≥ 241) = False := eq_false (by omega)
  have xm : (c ≤ 243) = True := eq_true (by omega)
  have xn : (c == 244) = false := by simp <;> omega
  refine f117 rfl ?_
  unfold sizeL
  rw [← e]
  simp (disch := omega) only [go_sem, r117_T, r117, va, hc, xa, xb, xd, xe, xf, xh, xi, xj, xk, xl, xm, xn, decide_true, decide_false, Bool.true_and, Bool.false_and, Bool.true_or, Bool.false_or, Bool.and_false, Bool.and_true, Int.natCast_one]
  try rfl

theorem size_2 (s : ByteArray) (c : Int) (h0 : 0 < s.size) (hc : ((s[0].toNat : Nat) : Int) = c) (g1 : c ≥ 194) (g2 : c ≤ 223) (hp : List Ent) : F tab 117 [.d (.str s)] hp = some (.ret (.d (iv (sizeL (bs s)))) hp) := by
  obtain ⟨va, vd⟩ := bs_get h0
  have e := bs_nb h0
  rw [hc] at e
  have xa : (c < 128) = False := eq_false (by omega)
  have xb : (c ≥ 194) = True := eq_true (by omega)
  have xd : (c ≤ 223) = True := eq_true (by omega)
  have xe : (c == 224) = false := by simp <;> omega
  have xf : (c ≥ 225) = False := eq_false (by omega)
  have xh : (c ≤ 239) = True := eq_true (by omega)
  have xi : (c != 237) = true := by simp <;> omega
  have xj : (c == 237) = false := by simp <;> omega
  have xk : (c == 240) = false := by simp <;> omega
  have xl : (c ≥ 241) = False := eq_false (by omega)
  have xm : (c ≤ 243) = True := eq_true (by omega)
  have xn : (c == 244) = false := by simp <;> omega
  have ht : ∀ hp, F tab 154 [.d (.str s), .d (iv 1), .d (.int .u8 128), .d (.int .u8 191)] hp = _ := tail_ok s 1 128 191 (by omega) (by omega)
  refine f117 rfl ?_
  unfold sizeL
  rw [← e]
  rcases Bool.eq_false_or_eq_true (tailL (bs s) 1 128 191) with g | g <;> rw [g] at ht <;>
    simp (disch := omega) only [go_sem, r117_T, r117, va, hc, xa, xb, xd, xe, xf, xh, xi, xj, xk, xl, xm, xn, ht, g, decide_true, decide_false, Bool.true_and, Bool.false_and, Bool.true_or, Bool.false_or, Bool.and_false, Bool.and_true, Int.natCast_one] <;> rfl

theorem size_3 (s : ByteArray) (c : Int) (h0 : 0 < s.size) (hc : ((s[0].toNat : Nat) : Int) = c) (g1 : c ≥ 224) (g2 : c ≤ 224) (hp : List Ent) : F tab 117 [.d (.str s)] hp = some (.ret (.d (iv (sizeL (bs s)))) hp) := by
  obtain ⟨va, vd⟩ := bs_get h0
  have e := bs_nb h0
  rw [hc] at e
  have xa : (c < 128) = False := eq_false (by omega)
  have xb : (c ≥ 194) = True := eq_true (by omega)
  have xd : (c ≤ 223) = False := eq_false (by omega)
  have xe : (c == 224) = true := by simp <;> omega
  have xf : (c ≥ 225) = False := eq_false (by omega)
  have xh : (c ≤ 239) = True := eq_true (by omega)
  have xi : (c != 237) = true := by simp <;> omega
  have xj : (c == 237) = false := by simp <;> omega
  have xk : (c == 240) = false := by simp <;> omega
  have xl : (c ≥ 241) = False := eq_false (by omega)
  have xm : (c ≤ 243) = True := eq_true (by omega)
  have xn : (c == 244) = false := by simp <;> omega
  have ht : ∀ hp, F tab 154 [.d (.str s), .d (iv 2), .d (.int .u8 160), .d (.int .u8 191)] hp = _ := tail_ok s 2 160 191 (by omega) (by omega)
  refine f117 rfl ?_
  unfold sizeL
  rw [← e]
  rcases Bool.eq_false_or_eq_true (tailL (bs s) 2 160 191) with g | g <;> rw [g] at ht <;>
    simp (disch := omega) only [go_sem, r117_T, r117, va, hc, xa, xb, xd, xe, xf, xh, xi, xj, xk, xl, xm, xn, ht, g, decide_true, decide_false, Bool.true_and, Bool.false_and, Bool.true_or, Bool.false_or, Bool.and_false, Bool.and_true, Int.natCast_one] <;> rfl

theorem size_4 (s : ByteArray) (c : Int) (h0 : 0 < s.size) (hc : ((s[0].toNat : Nat) : Int) = c) (g1 : c ≥ 225) (g2 : c ≤ 236) (hp : List Ent) : F tab 117 [.d (.str s)] hp = some (.ret (.d (iv (sizeL (bs s)))) hp) := by
  obtain ⟨va, vd⟩ := bs_get h0
  have e := bs_nb h0
  rw [hc] at e
  have xa : (c < 128) = False := eq_false (by omega)
  have xb : (c ≥ 194) = True := eq_true (by omega)
  have xd : (c ≤ 223) = False := eq_false (by omega)
  have xe : (c == 224) = false := by simp <;> omega
  have xf : (c ≥ 225) = True := eq_true (by omega)
  have xh : (c ≤ 239) = True := eq_true (by omega)
  have xi : (c != 237) = true := by simp <;> omega
  have xj : (c == 237) = false := by simp <;> omega
  have xk : (c == 240) = false := by simp <;> omega
  have xl : (c ≥ 241) = False := eq_false (by omega)
  have xm : (c ≤ 243) = True := eq_true (by omega)
  have xn : (c == 244) = false := by simp <;> omega
  have ht : ∀ hp, F tab 154 [.d (.str s), .d (iv 2), .d (.int .u8 128), .d (.int .u8 191)] hp = _ := tail_ok s 2 128 191 (by omega) (by omega)
  refine f117 rfl ?_
  unfold sizeL
  rw [← e]
  rcases Bool.eq_false_or_eq_true (tailL (bs s) 2 128 191) with g | g <;> rw [g] at ht <;>
    simp (disch := omega) only [go_sem, r117_T, r117, va, hc, xa, xb, xd, xe, xf, xh, xi, xj, xk, xl, xm, xn, ht, g, decide_true, decide_false, Bool.true_and, Bool.false_and, Bool.true_or, Bool.false_or, Bool.and_false, Bool.and_true, Int.natCast_one] <;> rfl

theorem size_5 (s : ByteArray) (c : Int) (h0 : 0 < s.size) (hc : ((s[0].toNat : Nat) : Int) = c) (g1 : c ≥ 237) (g2 : c ≤ 237) (hp : List Ent) : F tab 117 [.d (.str s)] hp = some (.ret (.d (iv (sizeL (bs s)))) hp) := by
  obtain ⟨va, vd⟩ := bs_get h0
  have e := bs_nb h0
  rw [hc] at e
  have xa : (c < 128) = False := eq_false (by omega)
  have xb : (c ≥ 194) = True := eq_true (by omega)
  have xd : (c ≤ 223) = False := eq_false (by omega)
  have xe : (c == 224) = false := by simp <;> omega
  have xf : (c ≥ 225) = True := eq_true (by omega)
  have xh : (c ≤ 239) = True := eq_true (by omega)
  have xi : (c != 237) = false := by simp <;> omega
  have xj : (c == 237) = true := by simp <;> omega
  have xk : (c == 240) = false := by simp <;> omega
  have xl : (c ≥ 241) = False := eq_false (by omega)
  have xm : (c ≤ 243) = True := eq_true (by omega)
  have xn : (c == 244) = false := by simp <;> omega
  have ht : ∀ hp, F tab 154 [.d (.str s), .d (iv 2), .d (.int .u8 128), .d (.int .u8 159)] hp = _ := tail_ok s 2 128 159 (by omega) (by omega)
  refine f117 rfl ?_
  unfold sizeL
  rw [← e]
  rcases Bool.eq_false_or_eq_true (tailL (bs s) 2 128 159) with g | g <;> rw [g] at ht <;>
    simp (disch := omega) only [go_sem, r117_T, r117, va, hc, xa, xb, xd, xe, xf, xh, xi, xj, xk, xl, xm, xn, ht, g, decide_true, decide_false, Bool.true_and, Bool.false_and, Bool.true_or, Bool.false_or, Bool.and_false, Bool.and_true, Int.natCast_one] <;> rfl

theorem size_6 (s : ByteArray) (c : Int) (h0 : 0 < s.size) (hc : ((s[0].toNat : Nat) : Int) = c) (g1 : c ≥ 238) (g2 : c ≤ 239) (hp : List Ent) : F tab 117 [.d (.str s)] hp = some (.ret (.d (iv (sizeL (bs s)))) hp) := by
  obtain ⟨va, vd⟩ := bs_get h0
  have e := bs_nb h0
  rw [hc] at e
  have xa : (c < 128) = False := eq_false (by omega)
  have xb : (c ≥ 194) = True := eq_true (by omega)
  have xd : (c ≤ 223) = False := eq_false (by omega)
  have xe : (c == 224) = false := by simp <;> omega
  have xf : (c ≥ 225) = True := eq_true (by omega)
  have xh : (c ≤ 239) = True := eq_true (by omega)
  have xi : (c != 237) = true := by simp <;> omega
  have xj : (c == 237) = false := by simp <;> omega
  have xk : (c == 240) = false := by simp <;> omega
  have xl : (c ≥ 241) = False := eq_false (by omega)
  have xm : (c ≤ 243) = True := eq_true (by omega)
  have xn : (c == 244) = false := by simp <;> omega
  have ht : ∀ hp, F tab 154 [.d (.str s), .d (iv 2), .d (.int .u8 128), .d (.int .u8 191)] hp = _ := tail_ok s 2 128 191 (by omega) (by omega)
  refine f117 rfl ?_
  unfold sizeL
  rw [← e]
  rcases Bool.eq_false_or_eq_true (tailL (bs s) 2 128 191) with g | g <;> rw [g] at ht <;>
    simp (disch := omega) only [go_sem, r117_T, r117, va, hc, xa, xb, xd, xe, xf, xh, xi, xj, xk, xl, xm, xn, ht, g, decide_true, decide_false, Bool.true_and, Bool.false_and, Bool.true_or, Bool.false_or, Bool.and_false, Bool.and_true, Int.natCast_one] <;> rfl

theorem size_7 (s : ByteArray) (c : Int) (h0 : 0 < s.size) (hc : ((s[0].toNat : Nat) : Int) = c) (g1 : c ≥ 240) (g2 : c ≤ 240) (hp : List Ent) : F tab 117 [.d (.str s)] hp = some (.ret (.d (iv (sizeL (bs s)))) hp) := by
  obtain ⟨va, vd⟩ := bs_get h0
  have e := bs_nb h0
  rw [hc] at e
  have xa : (c < 128) = False := eq_false (by omega)
  have xb : (c ≥ 194) = True := eq_true (by omega)
  have xd : (c ≤ 223) = False := eq_false (by omega)
  have xe : (c == 224) = false := by simp <;> omega
  have xf : (c ≥ 225) = True := eq_true (by omega)
  have xh : (c ≤ 239) = False := eq_false (by omega)
  have xi : (c != 237) = true := by simp <;> omega
  have xj : (c == 237) = false := by simp <;> omega
  have xk : (c == 240) = true := by simp <;> omega
  have xl : (c ≥ 241) = False := eq_false (by omega)
  have xm : (c ≤ 243) = True := eq_true (by omega)
  have xn : (c == 244) = false := by simp <;> omega
  have ht : ∀ hp, F tab 154 [.d (.str s), .d (iv 3), .d (.int .u8 144), .d (.int .u8 191)] hp = _ := tail_ok s 3 144 191 (by omega) (by omega)
  refine f117 rfl ?_
  unfold sizeL
  rw [← e]
  rcases Bool.eq_false_or_eq_true (tailL (bs s) 3 144 191) with g | g <;> rw [g] at ht <;>
    simp (disch := omega) only [go_sem, r117_T, r117, va, hc, xa, xb, xd, xe, xf, xh, xi, xj, xk, xl, xm, xn, ht, g, decide_true, decide_false, Bool.true_and, Bool.false_and, Bool.true_or, Bool.false_or, Bool.and_false, Bool.and_true, Int.natCast_one] <;> rfl

theorem size_8 (s : ByteArray) (c : Int) (h0 : 0 < s.size) (hc : ((s[0].toNat : Nat) : Int) = c) (g1 : c ≥ 241) (g2 : c ≤ 243) (hp : List Ent) : F tab 117 [.d (.str s)] hp = some (.ret (.d (iv (sizeL (bs s)))) hp) := by
  obtain ⟨va, vd⟩ := bs_get h0
  have e := bs_nb h0
  rw [hc] at e
  have xa : (c < 128) = False := eq_false (by omega)
  have xb : (c ≥ 194) = True := eq_true (by omega)
  have xd : (c ≤ 223) = False := eq_false (by omega)
  have xe : (c == 224) = false := by simp <;> omega
  have xf : (c ≥ 225) = True := eq_true (by omega)
  have xh : (c ≤ 239) = False := eq_false (by omega)
  have xi : (c != 237) = true := by simp <;> omega
  have xj : (c == 237) = false := by simp <;> omega
  have xk : (c == 240) = false := by simp <;> omega
  have xl : (c ≥ 241) = True := eq_true (by omega)
  have xm : (c ≤ 243) = True := eq_true (by omega)
  have xn : (c == 244) = false := by simp <;> omega
  have ht : ∀ hp, F tab 154 [.d (.str s), .d (iv 3), .d (.int .u8 128), .d (.int .u8 191)] hp = _ := tail_ok s 3 128 191 (by omega) (by omega)
  refine f117 rfl ?_
  unfold sizeL
  rw [← e]
  rcases Bool.eq_false_or_eq_true (tailL (bs s) 3 128 191) with g | g <;> rw [g] at ht <;>
    simp (disch := omega) only [go_sem, r117_T, r117, va, hc, xa, xb, xd, xe, xf, xh, xi, xj, xk, xl, xm, xn, ht, g, decide_true, decide_false, Bool.true_and, Bool.false_and, Bool.true_or, Bool.false_or, Bool.and_false, Bool.and_true, Int.natCast_one] <;> rfl

theorem size_9 (s : ByteArray) (c : Int) (h0 : 0 < s.size) (hc : ((s[0].toNat : Nat) : Int) = c) (g1 : c ≥ 244) (g2 : c ≤ 244) (hp : List Ent) : F tab 117 [.d (.str s)] hp = some (.ret (.d (iv (sizeL (bs s)))) hp) := by
  obtain ⟨va, vd⟩ := bs_get h0
  have e := bs_nb h0
  rw [hc] at e
  have xa : (c < 128) = False := eq_false (by omega)
  have xb : (c ≥ 194) = True := eq_true (by omega)
  have xd : (c ≤ 223) = False := eq_false (by omega)
  have xe : (c == 224) = false := by simp <;> omega
  have xf : (c ≥ 225) = True := eq_true (by omega)
  have xh : (c ≤ 239) = False := eq_false (by omega)
  have xi : (c != 237) = true := by simp <;> omega
  have xj : (c == 237) = false := by simp <;> omega
  have xk : (c == 240) = false := by simp <;> omega
  have xl : (c ≥ 241) = True := eq_true (by omega)
  have xm : (c ≤ 243) = False := eq_false (by omega)
  have xn : (c == 244) = true := by simp <;> omega
  have ht : ∀ hp, F tab 154 [.d (.str s), .d (iv 3), .d (.int .u8 128), .d (.int .u8 143)] hp = _ := tail_ok s 3 128 143 (by omega) (by omega)
  refine f117 rfl ?_
  unfold sizeL
  rw [← e]
  rcases Bool.eq_false_or_eq_true (tailL (bs s) 3 128 143) with g | g <;> rw [g] at ht <;>
    simp (disch := omega) only [go_sem, r117_T, r117, va, hc, xa, xb, xd, xe, xf, xh, xi, xj, xk, xl, xm, xn, ht, g, decide_true, decide_false, Bool.true_and, Bool.false_and, Bool.true_or, Bool.false_or, Bool.and_false, Bool.and_true, Int.natCast_one] <;> rfl

theorem size_10 (s : ByteArray) (c : Int) (h0 : 0 < s.size) (hc : ((s[0].toNat : Nat) : Int) = c) (g1 : c ≥ 245) (g2 : c ≤ 255) (hp : List Ent) : F tab 117 [.d (.str s)] hp = some (.ret (.d (iv (sizeL (bs s)))) hp) := by
  obtain ⟨va, vd⟩ := bs_get h0
  have e := bs_nb h0
  rw [hc] at e
  have xa : (c < 128) = False := eq_false (by omega)
  have xb : (c ≥ 194) = True := eq_true (by omega)
  have xd : (c ≤ 223) = False := eq_false (by omega)
  have xe : (c == 224) = false := by simp <;> omega
  have xf : (c ≥ 225) = True := eq_true (by omega)
  have xh : (c ≤ 239) = False := eq_false (by omega)
  have xi : (c != 237) = true := by simp <;> omega
  have xj : (c == 237) = false := by simp <;> omega
  have xk : (c == 240) = false := by simp <;> omega
  have xl : (c ≥ 241) = True := eq_true (by omega)
  have xm : (c ≤ 243) = False := eq_false (by omega)
  have xn : (c == 244) = false := by simp <;> omega
  refine f117 rfl ?_
  unfold sizeL
  rw [← e]
  simp (disch := omega) only [go_sem, r117_T, r117, va, hc, xa, xb, xd, xe, xf, xh, xi, xj, xk, xl, xm, xn, decide_true, decide_false, Bool.true_and, Bool.false_and, Bool.true_or, Bool.false_or, Bool.and_false, Bool.and_true, Int.natCast_one]
  try rfl

theorem usize_ok (s : ByteArray) (h0 : 0 < s.size) (hp : List Ent) : F tab 117 [.d (.str s)] hp = some (.ret (.d (iv (sizeL (bs s)))) hp) := by
  have hb : s[0].toNat < 256 := UInt8.toNat_lt _
  by_cases c0 : ((s[0].toNat : Nat) : Int) ≤ 127
  · exact size_0 s _ h0 rfl (by omega) (by omega) hp
  by_cases c1 : ((s[0].toNat : Nat) : Int) ≤ 193
  · exact size_1 s _ h0 rfl (by omega) (by omega) hp
  by_cases c2 : ((s[0].toNat : Nat) : Int) ≤ 223
  · exact size_2 s _ h0 rfl (by omega) (by omega) hp
  by_cases c3 : ((s[0].toNat : Nat) : Int) ≤ 224
  · exact size_3 s _ h0 rfl (by omega) (by omega) hp
  by_cases c4 : ((s[0].toNat : Nat) : Int) ≤ 236
  · exact size_4 s _ h0 rfl (by omega) (by omega) hp
  by_cases c5 : ((s[0].toNat : Nat) : Int) ≤ 237
  · exact size_5 s _ h0 rfl (by omega) (by omega) hp
  by_cases c6 : ((s[0].toNat : Nat) : Int) ≤ 239
  · exact size_6 s _ h0 rfl (by omega) (by omega) hp
  by_cases c7 : ((s[0].toNat : Nat) : Int) ≤ 240
  · exact size_7 s _ h0 rfl (by omega) (by omega) hp
  by_cases c8 : ((s[0].toNat : Nat) : Int) ≤ 243
  · exact size_8 s _ h0 rfl (by omega) (by omega) hp
  by_cases c9 : ((s[0].toNat : Nat) : Int) ≤ 244
  · exact size_9 s _ h0 rfl (by omega) (by omega) hp
  exact size_10 s _ h0 rfl (by omega) (by omega) hp
end Go.Pe.T

namespace Go.Pe
open Go.Lib
abbrev sgW (l : List UInt8) : Nat := (decodeL l).2
structure Ck (q : List UInt8) : Prop where
  ne : q ≠ []
  w : sgW q = q.length
  ok : ¬ ((decodeL q).1 = 65533 ∧ (decodeL q).2 = 1)
theorem getD_app {q t : List UInt8} {i : Nat} (h : i < q.length) : (q ++ t).getD i 0 = q.getD i 0 := by
  simp only [List.getD, List.getElem?_append_left h]
theorem ck_app {q : List UInt8} (h : Ck q) (t : List UInt8) : decodeL (q ++ t) = decodeL q := by
  have hl : 0 < q.length := List.length_pos_iff.2 h.ne
  have hw := h.w
  have hok := h.ok
  unfold sgW at hw
  rw [decodeL_N] at hw hok
  rw [decodeL_N, decodeL_N, List.length_append, getD_app hl]
  have k0 := (q.getD 0 0).toNat_lt
  rcases decodeN_shape q.length (q.getD 0 0).toNat (q.getD 1 0).toNat (q.getD 2 0).toNat (q.getD 3 0).toNat with ⟨c, e⟩ | ⟨c1, c2, c3, cv, e⟩ | ⟨c1, c2, c3, c4, cv, cs, e⟩ | ⟨c1, c2, c3, c4, c5, cv, cw, e⟩ | e
  · rw [e]
    unfold decodeN
    rw [if_pos c]
  · rw [e] at hw ⊢
    rw [getD_app c2]
    unfold decodeN
    rw [if_neg (by omega), if_pos ⟨c1, by omega, c3⟩, if_pos cv]
  · rw [e] at hw ⊢
    simp only at hw
    rw [getD_app (by omega : 1 < q.length), getD_app (by omega : 2 < q.length)]
    unfold decodeN
    rw [if_neg (by omega), if_neg (by omega), if_pos ⟨c1, ⟨by omega, c3⟩, by omega, c4⟩, if_pos ⟨cv, by omega⟩]
  · rw [e] at hw ⊢
    simp only at hw
    rw [getD_app (by omega : 1 < q.length), getD_app (by omega : 2 < q.length), getD_app (by omega : 3 < q.length)]
    unfold decodeN
    rw [if_neg (by omega), if_neg (by omega), if_neg (by omega), if_pos ⟨c1, ⟨by omega, c3⟩, ⟨by omega, c4⟩, by omega, c5⟩, if_pos ⟨cv, by omega⟩]
  · rw [e] at hok
    exact absurd ⟨rfl, rfl⟩ hok
theorem ck_take {l : List UInt8} (hne : l ≠ []) (hok : ¬ ((decodeL l).1 = 65533 ∧ (decodeL l).2 = 1)) : decodeL (l.take (sgW l)) = decodeL l := by
  have hl : 0 < l.length := List.length_pos_iff.2 hne
  have hle := decodeL_le l hne
  have g : ∀ i n, i < n → (l.take n).getD i 0 = l.getD i 0 := by
    intro i n h
    simp only [List.getD, List.getElem?_take, if_pos h]
  unfold sgW
  rw [decodeL_N] at hok hle ⊢
  rw [decodeL_N l]
  rcases decodeN_shape l.length (l.getD 0 0).toNat (l.getD 1 0).toNat (l.getD 2 0).toNat (l.getD 3 0).toNat with ⟨c, e⟩ | ⟨c1, c2, c3, cv, e⟩ | ⟨c1, c2, c3, c4, cv, cs, e⟩ | ⟨c1, c2, c3, c4, c5, cv, cw, e⟩ | e
  · rw [e] at hle ⊢
    simp only at hle ⊢
    rw [g 0 1 (by omega)]
    unfold decodeN
    rw [if_pos c]
  · rw [e] at hle ⊢
    simp only at hle ⊢
    have hlen : (l.take 2).length = 2 := by rw [List.length_take]; omega
    rw [g 0 2 (by omega), g 1 2 (by omega), hlen]
    unfold decodeN
    rw [if_neg (by omega), if_pos ⟨c1, by omega, c3⟩, if_pos cv]
  · rw [e] at hle ⊢
    simp only at hle ⊢
    have hlen : (l.take 3).length = 3 := by rw [List.length_take]; omega
    rw [g 0 3 (by omega), g 1 3 (by omega), g 2 3 (by omega), hlen]
    unfold decodeN
    rw [if_neg (by omega), if_neg (by omega), if_pos ⟨c1, ⟨by omega, c3⟩, by omega, c4⟩, if_pos ⟨cv, by omega⟩]
  · rw [e] at hle ⊢
    simp only at hle ⊢
    have hlen : (l.take 4).length = 4 := by rw [List.length_take]; omega
    rw [g 0 4 (by omega), g 1 4 (by omega), g 2 4 (by omega), g 3 4 (by omega), hlen]
    unfold decodeN
    rw [if_neg (by omega), if_neg (by omega), if_neg (by omega), if_pos ⟨c1, ⟨by omega, c3⟩, ⟨by omega, c4⟩, by omega, c5⟩, if_pos ⟨cv, by omega⟩]
  · rw [e] at hok
    exact absurd ⟨rfl, rfl⟩ hok
theorem ck_first {l : List UInt8} (hne : l ≠ []) (hok : ¬ ((decodeL l).1 = 65533 ∧ (decodeL l).2 = 1)) : Ck (l.take (sgW l)) := by
  have h := ck_take hne hok
  have hw := decodeL_width l
  have hle := decodeL_le l hne
  have hl : (l.take (sgW l)).length = sgW l := by rw [List.length_take]; unfold sgW; omega
  refine ⟨fun e => ?_, ?_, by rw [h]; exact hok⟩
  · rw [e] at hl
    simp only [List.length_nil] at hl
    unfold sgW at hl
    omega
  · rw [hl]
    unfold sgW
    rw [h]
inductive Sgs : List (List UInt8) → List UInt8 → Prop where
  | nil : Sgs [] []
  | cons {q : List UInt8} {qs : List (List UInt8)} {l : List UInt8} : Ck q → Sgs qs l → Sgs (q :: qs) (q ++ l)
theorem Sgs.flat {qs : List (List UInt8)} {l : List UInt8} (h : Sgs qs l) : l = qs.flatten := by
  induction h with
  | nil => rfl
  | cons _ _ ih => rw [ih]; rfl
theorem Sgs.all {qs : List (List UInt8)} {l : List UInt8} (h : Sgs qs l) : ∀ q ∈ qs, Ck q := by
  induction h with
  | nil => simp
  | cons h1 _ ih =>
    intro q hq
    rcases List.mem_cons.1 hq with rfl | hq
    · exact h1
    · exact ih q hq
theorem Sgs.of : ∀ {qs : List (List UInt8)}, (∀ q ∈ qs, Ck q) → Sgs qs qs.flatten
  | [], _ => .nil
  | q :: qs, h => .cons (h q (by simp)) (Sgs.of fun q hq => h q (by simp [hq]))
theorem Sgs.len {qs : List (List UInt8)} {l : List UInt8} (h : Sgs qs l) : qs.length ≤ l.length := by
  induction h with
  | nil => simp
  | cons h1 _ ih =>
    have := List.length_pos_iff.2 h1.ne
    simp only [List.length_cons, List.length_append]
    omega
theorem Sgs.step {q : List UInt8} {qs : List (List UInt8)} {l : List UInt8} (h : Sgs (q :: qs) l) : Ck q ∧ ∃ r, l = q ++ r ∧ Sgs qs r ∧ decodeL l = decodeL q ∧ sgW l = q.length ∧ l ≠ [] := by
  cases h with
  | cons h1 h2 =>
    refine ⟨h1, _, rfl, h2, ck_app h1 _, ?_, ?_⟩
    · unfold sgW
      rw [ck_app h1]
      exact h1.w
    · intro e
      exact h1.ne (List.append_eq_nil_iff.1 e).1
theorem ck_enc {q : List UInt8} (h : Ck q) : encodeRune ((decodeL q).1 : Int) = q := by
  rw [encode_decode q h.ne h.ok]
  have := h.w
  unfold sgW at this
  rw [this, List.take_length]
theorem sgs_rev {qs : List (List UInt8)} {l : List UInt8} (h : Sgs qs l) : Sgs qs.reverse qs.reverse.flatten :=
  Sgs.of fun q hq => h.all q (List.mem_reverse.1 hq)
end Go.Pe

namespace Go.Pe.T
open Go.Lib
theorem conts1 (l : List UInt8) (i : Nat) : conts (l.drop i) 1 = true ↔ i < l.length ∧ 128 ≤ (l.getD i 0).toNat ∧ (l.getD i 0).toNat ≤ 191 := by
  by_cases h : i < l.length
  · rw [List.drop_eq_getElem_cons h]
    have e : l.getD i 0 = l[i] := by simp [List.getD, List.getElem?_eq_getElem h]
    rw [e]
    simp only [conts, contB, Bool.and_true, Bool.and_eq_true, Bool.not_eq_true', decide_eq_false_iff_not, h, true_and]
    omega
  · rw [List.drop_of_length_le (by omega)]
    simp only [conts, Bool.false_eq_true, false_iff]
    omega
theorem conts2 (l : List UInt8) (i : Nat) : conts (l.drop i) 2 = true ↔ i + 1 < l.length ∧ (128 ≤ (l.getD i 0).toNat ∧ (l.getD i 0).toNat ≤ 191) ∧ 128 ≤ (l.getD (i + 1) 0).toNat ∧ (l.getD (i + 1) 0).toNat ≤ 191 := by
  by_cases h : i < l.length
  · have h1 := conts1 l (i + 1)
    rw [List.drop_eq_getElem_cons h]
    have e : l.getD i 0 = l[i] := by simp [List.getD, List.getElem?_eq_getElem h]
    rw [e, conts, Bool.and_eq_true, h1]
    simp only [contB, Bool.and_eq_true, Bool.not_eq_true', decide_eq_false_iff_not]
    omega
  · rw [List.drop_of_length_le (by omega)]
    simp only [conts, Bool.false_eq_true, false_iff]
    omega
theorem tail1 (l : List UInt8) (lo hi : Int) : tailL l 1 lo hi = true ↔ 1 < l.length ∧ lo ≤ ((l.getD 1 0).toNat : Int) ∧ ((l.getD 1 0).toNat : Int) ≤ hi := by
  unfold tailL
  simp only [Nat.sub_self, conts, Bool.and_true, Bool.and_eq_true, Bool.not_eq_true', decide_eq_false_iff_not]
  unfold nb
  omega
theorem tail2 (l : List UInt8) (lo hi : Int) : tailL l 2 lo hi = true ↔ 2 < l.length ∧ (lo ≤ ((l.getD 1 0).toNat : Int) ∧ ((l.getD 1 0).toNat : Int) ≤ hi) ∧ 128 ≤ (l.getD 2 0).toNat ∧ (l.getD 2 0).toNat ≤ 191 := by
  have h := conts1 l 2
  unfold tailL
  simp only [Nat.add_sub_cancel, Bool.and_eq_true, Bool.not_eq_true', decide_eq_false_iff_not, h]
  unfold nb
  omega
theorem tail3 (l : List UInt8) (lo hi : Int) : tailL l 3 lo hi = true ↔ 3 < l.length ∧ (lo ≤ ((l.getD 1 0).toNat : Int) ∧ ((l.getD 1 0).toNat : Int) ≤ hi) ∧ (128 ≤ (l.getD 2 0).toNat ∧ (l.getD 2 0).toNat ≤ 191) ∧ 128 ≤ (l.getD 3 0).toNat ∧ (l.getD 3 0).toNat ≤ 191 := by
  have h : conts (l.drop 2) 2 = true ↔ 3 < l.length ∧ (128 ≤ (l.getD 2 0).toNat ∧ (l.getD 2 0).toNat ≤ 191) ∧ 128 ≤ (l.getD 3 0).toNat ∧ (l.getD 3 0).toNat ≤ 191 := conts2 l 2
  unfold tailL
  simp only [Nat.add_sub_cancel, Bool.and_eq_true, Bool.not_eq_true', decide_eq_false_iff_not, h]
  unfold nb
  omega
theorem beqI_t {a b : Int} (h : a = b) : (a == b) = true := by simp [h]
theorem beqI_f {a b : Int} (h : a ≠ b) : (a == b) = false := by simp [h]
set_option maxHeartbeats 4000000 in
theorem size_dec (l : List UInt8) : (sizeL l = 0 ∧ decodeL l = (65533, 1)) ∨ (sizeL l ≠ 0 ∧ sgW l = sizeL l ∧ ¬ ((decodeL l).1 = 65533 ∧ (decodeL l).2 = 1)) := by
  have k0 := (l.getD 0 0).toNat_lt
  have k1 := (l.getD 1 0).toNat_lt
  have k2 := (l.getD 2 0).toNat_lt
  have k3 := (l.getD 3 0).toNat_lt
  unfold sgW
  rw [decodeL_N]
  unfold sizeL
  have hc : nb l 0 = ((l.getD 0 0).toNat : Int) := rfl
  generalize nb l 0 = c at *
  generalize (l.getD 0 0).toNat = b0 at *
  rcases (show c < 128 ∨ (128 ≤ c ∧ c < 194) ∨ (194 ≤ c ∧ c ≤ 223) ∨ c = 224 ∨ (225 ≤ c ∧ c ≤ 236) ∨ c = 237 ∨ (238 ≤ c ∧ c ≤ 239) ∨ c = 240 ∨ (241 ≤ c ∧ c ≤ 243) ∨ c = 244 ∨ 245 ≤ c by omega) with h | h | h | h | h | h | h | h | h | h | h
  all_goals simp (disch := omega) only [if_pos, if_neg, decide_eq_true, decide_eq_false, beqI_t, beqI_f, bne, Bool.not_true, Bool.not_false, Bool.true_and, Bool.false_and, Bool.and_true, Bool.and_false, Bool.or_false, Bool.false_or, Bool.or_self, Bool.false_eq_true, reduceIte]
  all_goals first
    | (by_cases q : tailL l 1 128 191 = true <;> first | (rw [if_pos q]; rw [tail1] at q) | (rw [if_neg q]; rw [tail1] at q))
    | (by_cases q : tailL l 2 160 191 = true <;> first | (rw [if_pos q]; rw [tail2] at q) | (rw [if_neg q]; rw [tail2] at q))
    | (by_cases q : tailL l 2 128 191 = true <;> first | (rw [if_pos q]; rw [tail2] at q) | (rw [if_neg q]; rw [tail2] at q))
    | (by_cases q : tailL l 2 128 159 = true <;> first | (rw [if_pos q]; rw [tail2] at q) | (rw [if_neg q]; rw [tail2] at q))
    | (by_cases q : tailL l 3 144 191 = true <;> first | (rw [if_pos q]; rw [tail3] at q) | (rw [if_neg q]; rw [tail3] at q))
    | (by_cases q : tailL l 3 128 191 = true <;> first | (rw [if_pos q]; rw [tail3] at q) | (rw [if_neg q]; rw [tail3] at q))
    | (by_cases q : tailL l 3 128 143 = true <;> first | (rw [if_pos q]; rw [tail3] at q) | (rw [if_neg q]; rw [tail3] at q))
    | skip
  all_goals
    generalize (l.getD 1 0).toNat = b1 at *
    generalize (l.getD 2 0).toNat = b2 at *
    generalize (l.getD 3 0).toNat = b3 at *
    generalize l.length = n at *
    unfold decodeN
    repeat' split
  all_goals first | (exfalso; omega) | (left; exact ⟨by first | trivial | rfl, rfl⟩) | (right; refine ⟨by decide, rfl, ?_⟩; simp only; omega)
theorem sgs_validF : ∀ (k : Nat) (l : List UInt8), l.length ≤ k → validF k l = true → ∃ qs, Sgs qs l
  | k, [], _, _ => ⟨[], .nil⟩
  | 0, c :: r, h, _ => by simp at h
  | k + 1, c :: r, h, hv => by
    have hs := sizeL_le (c :: r) (by simp)
    rw [validF] at hv
    split at hv
    · cases hv
    · rename_i h0
      rcases size_dec (c :: r) with ⟨h1, _⟩ | ⟨_, h2, h3⟩
      · exact absurd h1 h0
      · rw [← h2] at hv
        have hw := decodeL_width (c :: r)
        obtain ⟨qs, hq⟩ := sgs_validF k ((c :: r).drop (sgW (c :: r))) (by rw [List.length_drop]; unfold sgW; simp only [List.length_cons] at *; omega) hv
        have := Sgs.cons (ck_first (by simp) h3) hq
        rw [List.take_append_drop] at this
        exact ⟨_, this⟩
theorem validF_sgs {qs : List (List UInt8)} {l : List UInt8} (h : Sgs qs l) : ∀ k, l.length ≤ k → validF k l = true := by
  induction h with
  | nil => intro k _; cases k <;> rfl
  | cons h1 h2 ih =>
    rename_i q qs l
    intro k hk
    have hq : 0 < q.length := List.length_pos_iff.2 h1.ne
    have hw : sgW (q ++ l) = q.length := by unfold sgW; rw [ck_app h1]; exact h1.w
    have hok : ¬ ((decodeL (q ++ l)).1 = 65533 ∧ (decodeL (q ++ l)).2 = 1) := by rw [ck_app h1]; exact h1.ok
    rw [List.length_append] at hk
    cases k with
    | zero => omega
    | succ k =>
      rcases size_dec (q ++ l) with ⟨_, h4⟩ | ⟨h3, h4, _⟩
      · exact absurd (by rw [h4]; exact ⟨rfl, rfl⟩) hok
      · have e : sizeL (q ++ l) = q.length := by rw [← h4, hw]
        have ev : validF (k + 1) (q ++ l) = if sizeL (q ++ l) = 0 then false else validF k ((q ++ l).drop (sizeL (q ++ l))) := by
          cases hx : q ++ l with
          | nil => exact absurd (List.append_eq_nil_iff.1 hx).1 h1.ne
          | cons c r => rfl
        rw [ev, if_neg h3, e, List.drop_left]
        exact ih k (by omega)
end Go.Pe.T

namespace Go.Pe.T
theorem isEb (s : ByteArray) : (s.toList == (⟨#[]⟩ : ByteArray).toList) = !decide (s.size ≠ 0) := by
  rw [bs_toList, bs_toList]
  by_cases h : s.size = 0
  · have : bs s = [] := List.eq_nil_of_length_eq_zero (by rw [bs_len]; exact h)
    rw [this]
    simp [h, bs]
  · have : bs s ≠ [] := fun e => h (by rw [← bs_len, e]; rfl)
    rw [beq_eq_false_iff_ne.2 (by simpa [bs] using this)]
    simp [h]
theorem bs_drop (s : ByteArray) (k : Nat) : bs (s.extract k s.size) = (bs s).drop k := by
  simp [bs, ByteArray.data_extract]
  rw [List.take_of_length_le]
  simp
theorem size_drop (s : ByteArray) (k : Nat) : (s.extract k s.size).size = s.size - k := by
  rw [← bs_len, bs_drop, List.length_drop, bs_len]

def VdIs (k : Nat) (s : ByteArray) : Prop :=
  V (F tab) r88_B0 (r88_S0 (.d (.str s)) []) = if validF k (bs s) then some (.norm, r88_E0 []) else some (.ret, r88_R (.d (.bool false)) [])
theorem vd_end (k : Nat) (s : ByteArray) (h : s.size = 0) : VdIs k s := by
  have e := isEb s
  have g : decide (s.size ≠ 0) = false := decide_eq_false (by omega)
  have hb : bs s = [] := List.eq_nil_of_length_eq_zero h
  unfold VdIs
  rw [r88_B0_eq, hb]
  cases k <;> simp (disch := omega) only [go_sem, r88_C0, strD_neq, e, g, Bool.not_true, Bool.not_false, validF]
theorem vd_step (k : Nat) (s : ByteArray) (h : 0 < s.size) (hs : s.size ≤ maxLen) (ih : 0 < sizeL (bs s) → VdIs k (s.extract (sizeL (bs s)) s.size)) : VdIs (k + 1) s := by
  have hmx : maxLen = 9223372036854775807 := by decide
  have e := isEb s
  have g : decide (s.size ≠ 0) = true := decide_eq_true (by omega)
  have hz := usize_ok s h
  have hne : bs s ≠ [] := by
    intro e0
    have := bs_len s
    rw [e0, List.length_nil] at this
    omega
  have hle := sizeL_le (bs s) hne
  rw [bs_len] at hle
  unfold VdIs at ih ⊢
  rw [r88_B0_eq]
  obtain ⟨c, r, hcr⟩ : ∃ c r, bs s = c :: r := by cases hb : bs s with | nil => exact absurd hb hne | cons c r => exact ⟨c, r, rfl⟩
  by_cases h0 : sizeL (bs s) = 0
  · have g0 : validF (k + 1) (bs s) = false := by rw [hcr] at h0 ⊢; simp [validF, h0]
    have g1 : ((sizeL (bs s) : Int) == 0) = true := by simp [h0]
    rw [g0]
    simp (disch := omega) only [go_sem, r88_C0, strD_neq, e, g, Bool.not_true, Bool.not_false, hz, g1]
  · have g0 : validF (k + 1) (bs s) = validF k ((bs s).drop (sizeL (bs s))) := by rw [hcr] at h0 ⊢; simp [validF, h0]
    have g1 : ((sizeL (bs s) : Int) == 0) = false := by simp [h0]
    have ih := ih (by omega)
    rw [bs_drop] at ih
    have h1 : ((sizeL (bs s) : Int) ≤ (s.size : Int)) = True := eq_true (by omega)
    have h2 : (0 ≤ (sizeL (bs s) : Int)) = True := eq_true (by omega)
    have h3 : ((s.size : Int) ≤ (s.size : Int)) = True := eq_true (by omega)
    rw [g0]
    simp (disch := omega) only [go_sem, r88_C0, strD_neq, e, g, Bool.not_true, Bool.not_false, hz, g1, h1, h2, h3, decide_true]
    exact ih
theorem vd_all : ∀ (k : Nat) (s : ByteArray), s.size ≤ k → s.size ≤ maxLen → VdIs k s
  | 0, s, h, _ => vd_end 0 s (by omega)
  | k + 1, s, h, hs => by
    by_cases h0 : s.size = 0
    · exact vd_end _ s h0
    · exact vd_step k s (by omega) hs fun hp => vd_all k _ (by rw [size_drop]; omega) (by rw [size_drop]; omega)
theorem valid_ok (s : ByteArray) (hs : s.size ≤ maxLen) (hp : List Ent) : F tab 88 [.d (.str s)] hp = some (.ret (.d (.bool (validB s))) hp) := by
  have hL := vd_all s.size s (Nat.le_refl _) hs
  unfold VdIs at hL
  refine f88 rfl ?_
  unfold validB
  simp (disch := omega) only [go_sem, r88_T, r88]
  rw [r88_B0_n]
  erw [hL]
  rcases Bool.eq_false_or_eq_true (validF s.size (bs s)) with g | g <;> rw [g] <;> simp only [go_sem]
end Go.Pe.T

namespace Go.Pe.T
open Go.Lib
def bw (l : List UInt8) : ByteArray := ⟨l.toArray⟩
theorem bs_bw (l : List UInt8) : bs (bw l) = l := by simp [bs, bw]
theorem bw_bs (b : ByteArray) : bw (bs b) = b := by simp [bs, bw]
theorem bw_app (a b : List UInt8) : bw a ++ bw b = bw (a ++ b) := by
  apply ByteArray.ext
  rw [ByteArray.data_append]
  simp [bw]
theorem bw_size (l : List UInt8) : (bw l).size = l.length := by rw [← bs_len, bs_bw]
theorem ue1 (r : Nat) (c1 : r < 128) : (Utf8.encode (r : Int)).data.toList = [UInt8.ofNat r] := by
  have v : Utf8.valid (r : Int) = true := by simp [Utf8.valid]; omega
  simp [Utf8.encode, v, c1]
theorem ue2 (r : Nat) (c1 : ¬ r < 128) (c2 : r < 2048) : (Utf8.encode (r : Int)).data.toList = [UInt8.ofNat (192 + r / 64), UInt8.ofNat (128 + r % 64)] := by
  have v : Utf8.valid (r : Int) = true := by simp [Utf8.valid]; omega
  simp [Utf8.encode, v, c1, c2]
theorem ue3 (r : Nat) (c2 : ¬ r < 2048) (c3 : r < 65536) (hv : r < 55296 ∨ 57344 ≤ r) : (Utf8.encode (r : Int)).data.toList = [UInt8.ofNat (224 + r / 4096), UInt8.ofNat (128 + r / 64 % 64), UInt8.ofNat (128 + r % 64)] := by
  have v : Utf8.valid (r : Int) = true := by simp [Utf8.valid]; omega
  have c1 : ¬ r < 128 := by omega
  simp [Utf8.encode, v, c1, c2, c3]
theorem ue4 (r : Nat) (c3 : ¬ r < 65536) (c4 : r ≤ 1114111) : (Utf8.encode (r : Int)).data.toList = [UInt8.ofNat (240 + r / 262144), UInt8.ofNat (128 + r / 4096 % 64), UInt8.ofNat (128 + r / 64 % 64), UInt8.ofNat (128 + r % 64)] := by
  have v : Utf8.valid (r : Int) = true := by simp [Utf8.valid]; omega
  have c1 : ¬ r < 128 := by omega
  have c2 : ¬ r < 2048 := by omega
  simp [Utf8.encode, v, c1, c2, c3]
theorem ueBad (r : Nat) (h : (55296 ≤ r ∧ r ≤ 57343) ∨ 1114111 < r) : (Utf8.encode (r : Int)).data.toList = [239, 191, 189] := by
  have v : Utf8.valid (r : Int) = false := by simp [Utf8.valid]; omega
  simp [Utf8.encode, v, Utf8.runeError]
theorem enc_eq (r : Nat) : (Utf8.encode (r : Int)).data.toList = encodeRune (r : Int) := by
  unfold encodeRune
  by_cases c1 : r < 128
  · rw [ue1 r c1, encodeRuneZ_one (by omega) (by omega)]; rfl
  by_cases c2 : r < 2048
  · rw [ue2 r c1 c2, encodeRuneZ_two (by omega) (by omega)]; rfl
  by_cases hb : (55296 ≤ r ∧ r ≤ 57343) ∨ 1114111 < r
  · rw [ueBad r hb, encodeRuneZ_bad (by omega)]; rfl
  by_cases c3 : r < 65536
  · rw [ue3 r c2 c3 (by omega), encodeRuneZ_three (by omega)]; rfl
  · rw [ue4 r c3 (by omega), encodeRuneZ_four (by omega) (by omega)]; rfl
theorem ck_uenc {q : List UInt8} (h : Ck q) : Utf8.encode ((decodeL q).1 : Int) = bw q := by
  have := enc_eq (decodeL q).1
  rw [ck_enc h] at this
  rw [← bw_bs (Utf8.encode ((decodeL q).1 : Int))]
  exact congrArg bw this
theorem sg_at {b : ByteArray} {pos : Nat} {q : List UInt8} {qs : List (List UInt8)} (h : Sgs (q :: qs) ((bs b).drop pos)) : Ck q ∧ pos < b.size ∧ Utf8.decode b pos = decodeL q ∧ (decodeL q).2 = q.length ∧ Sgs qs ((bs b).drop (pos + q.length)) ∧ pos + q.length ≤ b.size := by
  obtain ⟨h1, r, e, h2, h3, h4, h5⟩ := h.step
  have hl := congrArg List.length e
  rw [List.length_drop, List.length_append, bs_len] at hl
  have hq : 0 < q.length := List.length_pos_iff.2 h1.ne
  refine ⟨h1, by omega, ?_, h1.w, ?_, by omega⟩
  · rw [← decodeL_drop, ← h3]; rfl
  · rw [← List.drop_drop, e, List.drop_left]
    exact h2
theorem sg_end {b : ByteArray} {pos : Nat} (h : Sgs [] ((bs b).drop pos)) : b.size ≤ pos := by
  have := h.flat
  have hl := congrArg List.length this
  rw [List.length_drop, bs_len] at hl
  simp at hl
  omega
theorem sg_loop (b : ByteArray) (hb : b.size ≤ 1000000) : ∀ (qs : List (List UInt8)) (pos n : Nat), Sgs qs ((bs b).drop pos) → n ≤ pos → 
    V (F tab) r50_B0 (r50_S0 (.d (iv n)) (.iter b pos) []) = some (.norm, r50_E0 (.d (iv (n + qs.length : Nat))) [])
  | [], pos, n, h, hn => by
    have h1 : (pos < b.size) = False := eq_false (by have := sg_end h; omega)
    rw [r50_B0_eq]
    simp (disch := omega) only [go_sem, r50_C0, h1, List.length_nil, Nat.add_zero]
  | q :: qs, pos, n, h, hn => by
    obtain ⟨h1, h2, h3, h4, h5, h6⟩ := sg_at h
    have ih := sg_loop b hb qs (pos + q.length) (n + 1) h5 (by have := List.length_pos_iff.2 h1.ne; omega)
    have p1 : (pos < b.size) = True := eq_true h2
    have e1 : (n : Int) + 1 = ((n + 1 : Nat) : Int) := rfl
    rw [r50_B0_eq]
    simp (disch := omega) only [go_sem, r50_C0, p1, h3, h4, e1, w64]
    rw [ih, show n + 1 + qs.length = n + (qs.length + 1) by omega]
theorem rev_loop (cs : List PV) (b : ByteArray) (hb : b.size ≤ 1000000) : ∀ (qs : List (List UInt8)) (pos : Nat) (A : List UInt8), Sgs qs ((bs b).drop pos) → A.length ≤ pos →
    V (F tab) r34_B0 (r34_S0 (.ibox cs) (.d (.str (bw A))) (.iter b pos) []) = some (.norm, r34_E0 (.ibox cs) (.d (.str (bw (qs.reverse.flatten ++ A)))) [])
  | [], pos, A, h, hn => by
    have h1 : (pos < b.size) = False := eq_false (by have := sg_end h; omega)
    rw [r34_B0_eq]
    simp (disch := omega) only [go_sem, r34_C0, h1, List.reverse_nil, List.flatten_nil, List.nil_append]
  | q :: qs, pos, A, h, hn => by
    obtain ⟨h1, h2, h3, h4, h5, h6⟩ := sg_at h
    have hq := ck_uenc h1
    have ih := rev_loop cs b hb qs (pos + q.length) (q ++ A) h5 (by rw [List.length_append]; omega)
    have p1 : (pos < b.size) = True := eq_true h2
    have p2 : ((bw q).size + (bw A).size ≤ 140737488355328) = True := eq_true (by rw [bw_size, bw_size]; omega)
    rw [r34_B0_eq]
    simp (disch := omega) only [go_sem, r34_C0, p1, h3, h4, hq, strD, p2, bw_app]
    rw [ih, List.reverse_cons, List.flatten_append]
    simp
theorem signs_ok {L : List UInt8} {qs : List (List UInt8)} (hs : Sgs qs L) (hl : L.length ≤ 100000) (hp : List Ent) : F tab 50 [.d (.str (bw L))] hp = some (.ret (.d (iv qs.length)) hp) := by
  have hv : validB (bw L) = true := by unfold validB; rw [bs_bw]; exact validF_sgs hs _ (by rw [bw_size]; omega)
  have hm : maxLen = 9223372036854775807 := by decide
  have h1 := valid_ok (bw L) (by rw [bw_size, hm]; omega)
  rw [hv] at h1
  have h2 := sg_loop (bw L) (by rw [bw_size]; omega) qs 0 0 (by rw [bs_bw]; exact hs) (by omega)
  rw [Nat.zero_add] at h2
  refine f50 rfl ?_
  simp (disch := omega) only [go_sem, r50_T, r50, h1]
  rw [r50_B0_n]
  erw [h2]
  simp (disch := omega) only [go_sem, r50]
abbrev tx (b : ByteArray) : D := .agg [iv 4, iv 0, iv 0, .str b, .sl [], .sl []]
theorem text_ok (b : ByteArray) (hp : List Ent) : F tab 15 [.d (.str b)] hp = some (.ret (.d (tx b)) hp) := by
  refine f15 rfl ?_
  simp (disch := omega) only [go_sem, r15_T, r15]
theorem rtext_ok (b : ByteArray) (hp : List Ent) : F tab 4 [.d (.str b)] hp = some (.ret (.d (tx b)) hp) := by
  refine f4 rfl ?_
  simp (disch := omega) only [go_sem, r4_T, r4]
theorem reverse_ok {L : List UInt8} {qs : List (List UInt8)} (hs : Sgs qs L) (hl : L.length ≤ 100000) (hp : List Ent) : F tab 34 [.d (tx (bw L))] hp = some (.ret (.d (tx (bw qs.reverse.flatten))) hp) := by
  have h1 := text_ok (bw qs.reverse.flatten)
  have h2 := fun cs => rev_loop cs (bw L) (by rw [bw_size]; omega) qs 0 [] (by rw [bs_bw]; exact hs) (by simp)
  have e0 : bw [] = ⟨#[]⟩ := rfl
  rw [e0] at h2
  simp only [List.append_nil] at h2
  generalize bw qs.reverse.flatten = R at *
  generalize bw L = Q at *
  refine f34 rfl ?_
  simp (disch := omega) only [go_sem, r34_T, r34]
  rw [r34_B0_n]
  erw [h2 _]
  simp (disch := omega) only [go_sem, r34, h1]
end Go.Pe.T

namespace Go.Pe.T
def upC (c : UInt8) : UInt8 := if 97 ≤ c.toNat ∧ c.toNat ≤ 122 then c - 32 else c
def loC (c : UInt8) : UInt8 := if 65 ≤ c.toNat ∧ c.toNat ≤ 90 then c + 32 else c
theorem up_lo : ∀ c : UInt8, upC (loC c) = upC c := by
  intro c
  have h := c.toNat_lt
  unfold upC loC
  by_cases h1 : 65 ≤ c.toNat ∧ c.toNat ≤ 90
  · have e : (c + 32).toNat = c.toNat + 32 := by
      rw [UInt8.toNat_add]
      have : (32 : UInt8).toNat = 32 := rfl
      omega
    rw [if_pos h1, if_pos (by omega), if_neg (by omega)]
    apply UInt8.toNat_inj.1
    rw [UInt8.toNat_sub_of_le _ _ (by rw [UInt8.le_iff_toNat_le, e]; have : (32 : UInt8).toNat = 32 := rfl
                                      omega), e]
    have : (32 : UInt8).toNat = 32 := rfl
    omega
  · rw [if_neg h1]
theorem btw_ok (c l h : Int) (hp : List Ent) : F tab 104 [.d (.int .u8 c), .d (.int .u8 l), .d (.int .u8 h)] hp = some (.ret (.d (.bool (decide (c ≥ l) && decide (c ≤ h)))) hp) := by
  refine f104 rfl ?_
  by_cases g : c ≥ l <;> simp (disch := omega) only [go_sem, r104_T, r104, g, decide_true, decide_false, Bool.true_and, Bool.false_and]
def TurnsBy (k : Nat) (t : UInt8 → UInt8) : Prop := ∀ (c : UInt8) (hp : List Ent), F tab k [.d (.int .u8 c.toNat)] hp = some (.ret (.d (.int .u8 (t c).toNat)) hp)
theorem up1_ok : TurnsBy 103 upC := by
  intro c hp
  have h := c.toNat_lt
  have h1 := fun hp => btw_ok (c.toNat : Int) 97 122 hp
  refine f103 rfl ?_
  unfold upC
  by_cases g : 97 ≤ c.toNat ∧ c.toNat ≤ 122
  · have e1 : decide ((c.toNat : Int) ≥ 97) = true := decide_eq_true (by omega)
    have e2 : decide ((c.toNat : Int) ≤ 122) = true := decide_eq_true (by omega)
    have e3 : ((c - 32).toNat : Int) = (c.toNat : Int) - 32 := by
      rw [UInt8.toNat_sub_of_le _ _ (by rw [UInt8.le_iff_toNat_le]; have : (32 : UInt8).toNat = 32 := rfl
                                        omega)]
      have : (32 : UInt8).toNat = 32 := rfl
      omega
    have e4 : (c.toNat : Int) - 97 + 65 = (c.toNat : Int) - 32 := by omega
    have e5 : (IntKind.u8.wrap ((IntKind.u8.wrap ((c.toNat : Int) - 97)) + 65)) = (c.toNat : Int) - 32 := by rw [wu8 (n := (c.toNat : Int) - 97) (by omega), wu8 (by omega)]; exact e4
    rw [e1, e2] at h1
    rw [if_pos g, e3]
    simp (disch := omega) only [go_sem, r103_T, r103, h1, e5]
  · have e1 : (decide ((c.toNat : Int) ≥ 97) && decide ((c.toNat : Int) ≤ 122)) = false := by
      rw [Bool.and_eq_false_iff, decide_eq_false_iff_not, decide_eq_false_iff_not]
      omega
    rw [e1] at h1
    rw [if_neg g]
    simp (disch := omega) only [go_sem, r103_T, r103, h1]
theorem lo1_ok : TurnsBy 105 loC := by
  intro c hp
  have h := c.toNat_lt
  have h1 := fun hp => btw_ok (c.toNat : Int) 65 90 hp
  refine f105 rfl ?_
  unfold loC
  by_cases g : 65 ≤ c.toNat ∧ c.toNat ≤ 90
  · have e1 : decide ((c.toNat : Int) ≥ 65) = true := decide_eq_true (by omega)
    have e2 : decide ((c.toNat : Int) ≤ 90) = true := decide_eq_true (by omega)
    have e3 : ((c + 32).toNat : Int) = (c.toNat : Int) + 32 := by
      rw [UInt8.toNat_add]
      have : (32 : UInt8).toNat = 32 := rfl
      omega
    have e5 : (IntKind.u8.wrap ((IntKind.u8.wrap ((c.toNat : Int) - 65)) + 97)) = (c.toNat : Int) + 32 := by rw [wu8 (n := (c.toNat : Int) - 65) (by omega), wu8 (by omega)]; omega
    rw [e1, e2] at h1
    rw [if_pos g, e3]
    simp (disch := omega) only [go_sem, r105_T, r105, h1, e5]
  · have e1 : (decide ((c.toNat : Int) ≥ 65) && decide ((c.toNat : Int) ≤ 90)) = false := by
      rw [Bool.and_eq_false_iff, decide_eq_false_iff_not, decide_eq_false_iff_not]
      omega
    rw [e1] at h1
    rw [if_neg g]
    simp (disch := omega) only [go_sem, r105_T, r105, h1]
def cB (l : List UInt8) : List PV := l.map fun c => .d (.int .u8 c.toNat)
theorem cB_len (l : List UInt8) : (cB l).length = l.length := List.length_map _
theorem cB_get {l : List UInt8} {i : Nat} (h : i < l.length) : (cB l)[i]? = some (.d (.int .u8 l[i].toNat)) := by simp [cB, h]
theorem cB_set (l : List UInt8) (i : Nat) (c : UInt8) : (cB l).set i (.d (.int .u8 c.toNat)) = cB (l.set i c) := by unfold cB; rw [List.map_set]
theorem optAll_map {α β : Type} (f : α → Option β) (g : α → β) : ∀ (l : List α), (∀ x ∈ l, f x = some (g x)) → optAll (l.map f) = some (l.map g)
  | [], _ => rfl
  | x :: r, h => by
    rw [List.map_cons, h x (by simp), optAll_some, optAll_map f g r fun y hy => h y (by simp [hy])]
    rfl
def dB (l : List UInt8) : List D := l.map fun c => .int .u8 c.toNat
theorem cB_D (l : List UInt8) (n : Nat) (hn : n = l.length) : optAll (((cB l).take (n * 1)).map PV.toD) = some (dB l) := by
  subst hn
  rw [List.take_of_length_le (by rw [cB_len]; omega)]
  unfold cB dB
  rw [List.map_map, optAll_map _ (fun c : UInt8 => D.int .u8 c.toNat)]
  intro x _
  rfl
theorem dB_len (l : List UInt8) : (dB l).length = l.length := List.length_map _
theorem dB_agg (l : List UInt8) : ((dB l).all fun d => !d.isAgg) = true := by
  rw [List.all_eq_true]
  intro d hd
  obtain ⟨c, _, rfl⟩ := List.mem_map.1 hd
  rfl
theorem dB_str (l : List UInt8) : optAll ((dB l).map asByte) = some l := by
  unfold dB
  rw [List.map_map, optAll_map _ id]
  · rw [List.map_id]
  · intro x _
    show some (UInt8.ofNat ((x.toNat : Int)).toNat) = some x
    rw [Int.toNat_natCast, UInt8.ofNat_toNat]
theorem bsD_ent (b : ByteArray) : rowEnt (bsD b) = if b.size = 0 then .gone else .box (cB (bs b)) := by
  have e : bsD b = dB (bs b) := rfl
  unfold rowEnt
  by_cases h : b.size = 0
  · have : bs b = [] := List.eq_nil_of_length_eq_zero h
    rw [if_pos h, e, this]
    rfl
  · have h1 : (bsD b).isEmpty = false := by
      rw [e, List.isEmpty_eq_false_iff]
      intro hh
      exact h (by rw [← bs_len, ← dB_len, hh]; rfl)
    rw [if_neg h, h1, e]
    have : ∀ l : List UInt8, flatD (dB l) = cB l := by
      intro l
      unfold flatD dB cB
      induction l with
      | nil => rfl
      | cons c r ih =>
        rw [List.map_cons, List.flatMap_cons, List.map_append, ih]
        rfl
    rw [this]
    rfl
def tw (t : UInt8 → UInt8) (l : List UInt8) (i : Nat) : List UInt8 := (l.take i).map t ++ l.drop i
theorem tw_len (t : UInt8 → UInt8) (l : List UInt8) (i : Nat) : (tw t l i).length = l.length := by simp [tw]; omega
theorem tw_get {t : UInt8 → UInt8} {l : List UInt8} {i : Nat} (h : i < l.length) : (tw t l i)[i]? = some l[i] := by
  unfold tw
  rw [List.getElem?_append_right (by simp; omega)]
  simp [Nat.min_eq_left (Nat.le_of_lt h), h]
theorem tw_set {t : UInt8 → UInt8} {l : List UInt8} {i : Nat} (h : i < l.length) : (tw t l i).set i (t l[i]) = tw t l (i + 1) := by
  unfold tw
  rw [List.set_append_right _ _ (by simp; omega)]
  have e : i - ((l.take i).map t).length = 0 := by simp; omega
  rw [e, List.drop_eq_getElem_cons h, List.set_cons_zero, List.take_add_one, List.getElem?_eq_getElem h, List.map_append, List.append_assoc]
  rfl
theorem tw_0 (t : UInt8 → UInt8) (l : List UInt8) : tw t l 0 = l := by simp [tw]
theorem tw_n (t : UInt8 → UInt8) (l : List UInt8) : tw t l l.length = l.map t := by simp [tw]
theorem tu_loop (k : Nat) (t : UInt8 → UInt8) (hk : TurnsBy k t) (l : List UInt8) (hl : l.length ≤ 1000000) : ∀ (d i : Nat), i + d = l.length →
    V (F tab) r102_B0 (r102_S0 (.fn k []) (.rowh 0 0 l.length) (.rowh 0 0 l.length) (.d (iv l.length)) (.d (iv i)) [.box (cB (tw t l i))]) = some (.norm, r102_E0 (.rowh 0 0 l.length) [.box (cB (tw t l l.length))])
  | 0, i, h => by
    obtain rfl : i = l.length := by omega
    have h1 : ((l.length : Int) < (l.length : Int)) = False := eq_false (by omega)
    rw [r102_B0_eq]
    simp (disch := omega) only [go_sem, r102_C0, h1]
  | d + 1, i, h => by
    have ih := tu_loop k t hk l hl d (i + 1) (by omega)
    have hi : i < l.length := by omega
    have h1 : ((i : Int) < (l.length : Int)) = True := eq_true (by omega)
    have i0 : (0 ≤ (i : Int)) = True := eq_true (by omega)
    have hlen : (tw t l i).length = l.length := tw_len t l i
    have va : (cB (tw t l i))[i]? = some (.d (.int .u8 l[i].toNat)) := by
      rw [cB_get (by omega)]
      have := tw_get (t := t) hi
      rw [List.getElem?_eq_getElem (by omega)] at this
      rw [Option.some.inj this]
    have vs : (cB (tw t l i)).set i (.d (.int .u8 (t l[i]).toNat)) = cB (tw t l (i + 1)) := by rw [cB_set, tw_set hi]
    have hlt : (i < (cB (tw t l i)).length) = True := eq_true (by rw [cB_len]; omega)
    have e1 : (i : Int) + 1 = ((i + 1 : Nat) : Int) := rfl
    have hc := hk l[i]
    rw [r102_B0_eq]
    simp (disch := omega) only [go_sem, r102_C0, h1, i0, va, vs, hlt, hc, e1, Nat.mul_one, Nat.zero_add, Nat.add_zero, w64]
    exact ih
theorem turned_ok (k : Nat) (t : UInt8 → UInt8) (hk : TurnsBy k t) (l : List UInt8) (hl : l.length ≤ 1000000) : ∃ hp', F tab 102 [.d (.str (bw l)), .fn k []] [] = some (.ret (.d (.str (bw (l.map t)))) hp') := by
  have he := bsD_ent (bw l)
  rw [bw_size, bs_bw] at he
  have hz := bw_size l
  have hL := tu_loop k t hk l hl l.length 0 (by omega)
  rw [tw_0, tw_n] at hL
  by_cases h0 : l.length = 0
  · rw [if_pos h0] at he
    have : l = [] := List.eq_nil_of_length_eq_zero h0
    subst this
    refine ⟨[.gone], f102 ?_⟩
    have h1 : ((0 : Int) < ((0 : Nat) : Int)) = False := eq_false (by omega)
    simp (disch := omega) only [go_sem, r102_T, r102, cvbOp, he, hz, List.length_nil]
    rw [r102_B0_n, r102_B0_eq]
    simp (disch := omega) only [go_sem, r102_C0, r102, frzOp, h1]
    rfl
  · rw [if_neg h0] at he
    refine ⟨[.gone], f102 ?_⟩
    have f0 : (l.length = 0) = False := eq_false h0
    have hD := cB_D (l.map t) l.length (by simp)
    have hl1 : (dB (l.map t)).length = l.length * 1 := by rw [dB_len]; simp
    have ha := dB_agg (l.map t)
    have hs := dB_str (l.map t)
    simp (disch := omega) only [go_sem, r102_T, r102, cvbOp, he, hz]
    rw [r102_B0_n]
    erw [hL]
    simp (disch := omega) only [go_sem, r102, frzOp, f0, hD, hl1, ha, hs, rowsD]
    rfl
theorem upper_ok (l : List UInt8) (hl : l.length ≤ 1000000) (hp : List Ent) : F tab 69 [.d (.str (bw l))] hp = some (.ret (.d (.str (bw (l.map upC)))) hp) := by
  obtain ⟨hp', h⟩ := turned_ok _ _ up1_ok l hl
  refine f69 rfl ?_
  simp (disch := omega) only [go_sem, r69_T, r69, h]
theorem lower_ok (l : List UInt8) (hl : l.length ≤ 1000000) (hp : List Ent) : F tab 70 [.d (.str (bw l))] hp = some (.ret (.d (.str (bw (l.map loC)))) hp) := by
  obtain ⟨hp', h⟩ := turned_ok _ _ lo1_ok l hl
  refine f70 rfl ?_
  simp (disch := omega) only [go_sem, r70_T, r70, h]
end Go.Pe.T

namespace Go.Pe.T

def putI (c : Int) : List Int :=
  if c < 128 then [c] else if c < 2048 then [192 + c / 64, 128 + c % 64] else if c < 65536 then [224 + c / 4096, 128 + c / 64 % 64, 128 + c % 64]
  else [240 + c / 262144, 128 + c / 4096 % 64, 128 + c / 64 % 64, 128 + c % 64]
theorem put_ok (c : Int) (h0 : 0 ≤ c) (h1 : c ≤ 2097151) (hp : List Ent) : F tab 89 [.d (iv c)] hp = some (.ret (.d (.sl ((putI c).map (D.int .u8)))) hp) := by
  refine f89 rfl ?_
  unfold putI
  have e1 : c.tdiv 64 = c / 64 := Int.tdiv_eq_ediv_of_nonneg h0
  have e2 : c.tdiv 4096 = c / 4096 := Int.tdiv_eq_ediv_of_nonneg h0
  have e3 : c.tdiv 262144 = c / 262144 := Int.tdiv_eq_ediv_of_nonneg h0
  have e4 : c.tmod 64 = c % 64 := Int.tmod_eq_emod_of_nonneg h0
  have e5 : (c / 64).tmod 64 = c / 64 % 64 := Int.tmod_eq_emod_of_nonneg (by omega)
  have e6 : (c / 4096).tmod 64 = c / 4096 % 64 := Int.tmod_eq_emod_of_nonneg (by omega)
  by_cases g1 : c < 128
  · simp (disch := omega) only [go_sem, r89_T, r89, g1, wu8, List.map_cons, List.map_nil]
  · by_cases g2 : c < 2048
    · simp (disch := omega) only [go_sem, r89_T, r89, g1, g2, w64, wu8, e1, e4, List.map_cons, List.map_nil]
    · by_cases g3 : c < 65536
      · simp (disch := omega) only [go_sem, r89_T, r89, g1, g2, g3, w64, wu8, e1, e2, e4, e5, List.map_cons, List.map_nil]
      · simp (disch := omega) only [go_sem, r89_T, r89, g1, g2, g3, w64, wu8, e1, e2, e3, e4, e5, e6, List.map_cons, List.map_nil]
end Go.Pe.T

namespace Go.Pe.T

def cdec : Int → List UInt8 → Nat → Int
  | c, _, 0 => c
  | c, [], _ + 1 => c
  | c, d :: r, k + 1 => cdec (64 * c + (d.toNat : Int) - 128) r k

def CiLoop (s : ByteArray) (l : List Int) (i n k : Nat) (c : Int) : Prop :=
  V (F tab) r53_B1 (r53_S1 (.d (.str s)) (.own 3 (l.map iv)) (.d (iv i)) (.d (iv n)) (.d (iv c)) (.d (iv k)) []) =
    if conts ((bs s).drop (i + k)) (n - k) then some (.norm, r53_E1 (.d (.str s)) (.own 3 (l.map iv)) (.d (iv i)) (.d (iv n)) (.d (iv (cdec c ((bs s).drop (i + k)) (n - k)))) [])
    else some (.ret, r53_R (.d (.sl [])) (.d (.bool false)) [])
theorem ci_end (s : ByteArray) (l : List Int) (i n k : Nat) (c : Int) (hk : n ≤ k) : CiLoop s l i n k c := by
  have h1 : ((k : Int) < (n : Int)) = False := eq_false (by omega)
  unfold CiLoop
  rw [r53_B1_eq, show n - k = 0 by omega]
  simp (disch := omega) only [go_sem, r53_C1, h1, conts, cdec]
theorem ci_step (s : ByteArray) (hs : s.size ≤ 1000000000) (l : List Int) (i n k : Nat) (c : Int) (hn : i + n ≤ s.size) (hk : k < n) (h4 : n ≤ 4) (hc : 0 ≤ c ∧ c ≤ 100000000) (ih : ∀ c' : Int, 0 ≤ c' → c' ≤ 64 * c + 63 → c' = 64 * c + (((bs s).drop (i + k)).headD 0).toNat - 128 → CiLoop s l i n (k + 1) c') : CiLoop s l i n k c := by
  have h1 : ((k : Int) < (n : Int)) = True := eq_true (by omega)
  have hi0 : (0 ≤ (i : Int) + (k : Int)) = True := eq_true (by omega)
  have ei : ((i : Int) + (k : Int)).toNat = i + k := by omega
  have hlt : i + k < s.size := by omega
  obtain ⟨va, vd⟩ := bs_get hlt
  have hb : s[i + k].toNat < 256 := UInt8.toNat_lt _
  have en : n - k = (n - (k + 1)) + 1 := by omega
  rw [vd] at ih
  simp only [List.headD_cons] at ih
  unfold CiLoop at ih ⊢
  rw [r53_B1_eq, vd, en]
  simp only [conts, cdec, contB]
  by_cases g1 : ((s[i + k].toNat : Nat) : Int) < 128
  · simp (disch := omega) only [go_sem, r53_C1, h1, hi0, ei, va, w64, g1, decide_true, Bool.not_true, Bool.false_and]
  · by_cases g2 : ((s[i + k].toNat : Nat) : Int) > 191
    · simp (disch := omega) only [go_sem, r53_C1, h1, hi0, ei, va, w64, g1, g2, decide_true, decide_false, Bool.not_true, Bool.not_false, Bool.false_and, Bool.true_and]
    · have ih := ih _ (by omega) (by omega) rfl
      rw [Int.natCast_add, Int.natCast_one, ← Nat.add_assoc] at ih
      simp (disch := omega) only [go_sem, r53_C1, h1, hi0, ei, va, w64, g1, g2, decide_true, decide_false, Bool.not_true, Bool.not_false, Bool.false_and, Bool.true_and]
      exact ih
theorem ci_loop (s : ByteArray) (hs : s.size ≤ 1000000000) (l : List Int) (i n : Nat) (hn : i + n ≤ s.size) (h4 : n ≤ 4) : ∀ (j k : Nat) (c : Int), k + j = n → 0 ≤ c → (c + 1) * 64 ^ j ≤ 100000000 → CiLoop s l i n k c
  | 0, k, c, hk, h0, hc => ci_end s l i n k c (by omega)
  | j + 1, k, c, hk, h0, hc => by
    have hp : (1 : Int) ≤ 64 ^ j := by exact_mod_cast Nat.one_le_pow j 64 (by omega)
    have e : (64 : Int) ^ (j + 1) = 64 * 64 ^ j := by rw [Int.pow_succ]; exact Int.mul_comm _ _
    rw [e] at hc
    have hc2 : (c + 1) * 64 * 64 ^ j ≤ 100000000 := by rw [Int.mul_assoc]; exact hc
    have hle : (c + 1) * 64 * 1 ≤ (c + 1) * 64 * 64 ^ j := Int.mul_le_mul_of_nonneg_left hp (by omega)
    refine ci_step s hs l i n k c hn (by omega) h4 ⟨h0, by omega⟩ fun c' h1 h2 _ => ci_loop s hs l i n hn h4 j (k + 1) c' (by omega) h1 ?_
    have : (c' + 1) * 64 ^ j ≤ (c + 1) * 64 * 64 ^ j := Int.mul_le_mul_of_nonneg_right (by omega) (by omega)
    omega

def ub (x : Int) : UInt8 := UInt8.ofNat x.toNat
theorem put_bytes : ∀ (p : List Int), optAll ((p.map (D.int .u8)).map asByte) = some (p.map ub)
  | [] => rfl
  | x :: p => by simp only [List.map_cons, asByte, optAll, put_bytes p]; rfl
def okC (s : ByteArray) (i n : Nat) (c : Int) : Bool := !(decide (c > 1114111) || (decide (c ≥ 55296) && decide (c < 57344))) && ((putI c).map ub == ((bs s).drop i).take n)
theorem bs_cut (s : ByteArray) (i j : Nat) : bs (s.extract i j) = ((bs s).drop i).take (j - i) := by
  simp [bs, ByteArray.data_extract, List.drop_take]
theorem cmp_put (s : ByteArray) (i n : Nat) (p : List UInt8) : ((⟨p.toArray⟩ : ByteArray).toList == (s.extract i (i + n)).toList) = (p == ((bs s).drop i).take n) := by
  have e : bs (⟨p.toArray⟩ : ByteArray) = p := by simp [bs]
  rw [bs_toList, bs_toList, bs_cut, e, show i + n - i = n by omega]
theorem cdec_le : ∀ (r : List UInt8) (j : Nat) (c : Int), 0 ≤ c → conts r j = true → 0 ≤ cdec c r j ∧ cdec c r j + 1 ≤ (c + 1) * 64 ^ j
  | r, 0, c, h0, h => by simp [cdec]; omega
  | [], j + 1, c, h0, h => by simp [conts] at h
  | d :: r, j + 1, c, h0, h => by
    simp only [conts, contB, Bool.and_eq_true, Bool.not_eq_true', decide_eq_false_iff_not] at h
    obtain ⟨i1, i2⟩ := cdec_le r j (64 * c + (d.toNat : Int) - 128) (by omega) h.2
    have e : (64 : Int) ^ (j + 1) = 64 * 64 ^ j := by rw [Int.pow_succ]; exact Int.mul_comm _ _
    have hp : (1 : Int) ≤ 64 ^ j := by exact_mod_cast Nat.one_le_pow j 64 (by omega)
    have h3 : (64 * c + (d.toNat : Int) - 128 + 1) * 64 ^ j ≤ ((c + 1) * 64) * 64 ^ j := Int.mul_le_mul_of_nonneg_right (by omega) (by omega)
    simp only [cdec]
    rw [e, ← Int.mul_assoc]
    omega

theorem sg_1 (s : ByteArray) (hs : s.size ≤ 2097152) (l : List Int) (hl : l.length ≤ 2097152) (i : Nat) (hi : i < s.size) (h1 : ((s[i].toNat : Nat) : Int) ≥ 0) (h2 : ((s[i].toNat : Nat) : Int) ≤ 127) :
    V (F tab) r53_B0 (r53_S0 (.d (.str s)) (.own 3 (l.map iv)) (.d (iv i)) []) =
      if decide (i + 1 ≤ s.size) && (conts ((bs s).drop (i + 1)) 0 && okC s i 1 (cdec ((s[i].toNat : Nat) : Int) ((bs s).drop (i + 1)) 0)) then
        V (F tab) r53_B0 (r53_S0 (.d (.str s)) (.own 3 ((l ++ [(cdec ((s[i].toNat : Nat) : Int) ((bs s).drop (i + 1)) 0)]).map iv)) (.d (iv (i + 1 : Nat))) [])
      else some (.ret, r53_R (.d (.sl [])) (.d (.bool false)) []) := by
  have q1 : ((i : Int) < (s.size : Int)) = True := eq_true (by omega)
  have hi0 : (0 ≤ (i : Int)) = True := eq_true (by omega)
  obtain ⟨va, vd⟩ := bs_get hi
  have xa : (((s[i].toNat : Nat) : Int) ≥ 240) = False := eq_false (by omega)
  have xd : (((s[i].toNat : Nat) : Int) ≥ 224) = False := eq_false (by omega)
  have xe : (((s[i].toNat : Nat) : Int) ≥ 192) = False := eq_false (by omega)
  have xg : (((s[i].toNat : Nat) : Int) ≥ 248) = False := eq_false (by omega)
  have xh : (((s[i].toNat : Nat) : Int) ≥ 128) = False := eq_false (by omega)
  rw [r53_B0_eq]
  by_cases g : i + 1 ≤ s.size
  · have q2 : ((i : Int) + 1 > (s.size : Int)) = False := eq_false (by omega)
    have hL := ci_loop s (by omega) l i 1 g (by omega) 0 1 ((s[i].toNat : Nat) : Int) (by omega) (by omega) (by simp only [Int.reducePow]; omega)
    unfold CiLoop at hL
    rw [show 1 - 1 = 0 from rfl] at hL
    rw [decide_eq_true g, Bool.true_and]
    simp (disch := omega) only [go_sem, r53_C0, q1, hi0, va, xa, xd, xe, xg, xh, w64, q2]
    rw [r53_B1_n]
    erw [hL]
    rcases Bool.eq_false_or_eq_true (conts ((bs s).drop (i + 1)) 0) with g2 | g2
    · obtain ⟨d1, d2⟩ := cdec_le _ _ ((s[i].toNat : Nat) : Int) (by omega) g2
      have d3 : (cdec ((s[i].toNat : Nat) : Int) ((bs s).drop (i + 1)) 0) ≤ 2097151 := by simp only [Int.reducePow] at d2; omega
      have hput := put_ok (cdec ((s[i].toNat : Nat) : Int) ((bs s).drop (i + 1)) 0) d1 d3
      rw [g2]
      simp only [if_true, Bool.true_and, okC]
      generalize (cdec ((s[i].toNat : Nat) : Int) ((bs s).drop (i + 1)) 0) = c at *
      have r1 : ((l.length + 1) * 8 ≤ maxRow) = True := eq_true (by simp only [maxRow]; omega)
      have hcmp := cmp_put s i 1 ((putI c).map ub)
      have et : ((i : Int) + ((1 : Nat) : Int)).toNat = i + 1 := by omega
      have q3 : ((i : Int) ≤ (i : Int) + ((1 : Nat) : Int)) = True := eq_true (by omega)
      have q4 : ((i : Int) + ((1 : Nat) : Int) ≤ (s.size : Int)) = True := eq_true (by omega)
      have ea : l.map iv ++ [iv c] = (l ++ [c]).map iv := by simp
      have all8 : ([iv c].all fun y => y.width == 1) = true := rfl
      rw [Int.natCast_add]
      by_cases k1 : c > 1114111
      · simp (disch := omega) only [go_sem, k1, decide_true, Bool.true_or, Bool.not_true, Bool.false_and]
      · by_cases k2 : c ≥ 55296
        · exfalso
          simp only [Int.reducePow] at d2
          omega
        · rcases Bool.eq_false_or_eq_true ((putI c).map ub == ((bs s).drop i).take 1) with k4 | k4 <;> rw [k4] at hcmp <;>
            simp (disch := omega) only [go_sem, k1, k2, k4, hput, put_bytes, hcmp, strD_neq, et, q3, q4, hi0, w64, r1, all8, ea, List.length_map, decide_true, decide_false, Bool.or_self, Bool.false_and, Bool.and_true, Bool.and_false, Bool.not_false, Bool.not_true, Int.toNat_natCast] <;> rfl
    · rw [g2]
      simp (disch := omega) only [go_sem, Bool.false_and]
  · have q2 : ((i : Int) + 1 > (s.size : Int)) = True := eq_true (by omega)
    rw [decide_eq_false g, Bool.false_and]
    simp (disch := omega) only [go_sem, r53_C0, q1, hi0, va, xa, xd, xe, xg, xh, w64, q2]

theorem sg_2 (s : ByteArray) (hs : s.size ≤ 2097152) (l : List Int) (hl : l.length ≤ 2097152) (i : Nat) (hi : i < s.size) (h1 : ((s[i].toNat : Nat) : Int) ≥ 192) (h2 : ((s[i].toNat : Nat) : Int) ≤ 223) :
    V (F tab) r53_B0 (r53_S0 (.d (.str s)) (.own 3 (l.map iv)) (.d (iv i)) []) =
      if decide (i + 2 ≤ s.size) && (conts ((bs s).drop (i + 1)) 1 && okC s i 2 (cdec (((s[i].toNat : Nat) : Int) - 192) ((bs s).drop (i + 1)) 1)) then
        V (F tab) r53_B0 (r53_S0 (.d (.str s)) (.own 3 ((l ++ [(cdec (((s[i].toNat : Nat) : Int) - 192) ((bs s).drop (i + 1)) 1)]).map iv)) (.d (iv (i + 2 : Nat))) [])
      else some (.ret, r53_R (.d (.sl [])) (.d (.bool false)) []) := by
  have q1 : ((i : Int) < (s.size : Int)) = True := eq_true (by omega)
  have hi0 : (0 ≤ (i : Int)) = True := eq_true (by omega)
  obtain ⟨va, vd⟩ := bs_get hi
  have xa : (((s[i].toNat : Nat) : Int) ≥ 240) = False := eq_false (by omega)
  have xd : (((s[i].toNat : Nat) : Int) ≥ 224) = False := eq_false (by omega)
  have xe : (((s[i].toNat : Nat) : Int) ≥ 192) = True := eq_true (by omega)
  have xg : (((s[i].toNat : Nat) : Int) ≥ 248) = False := eq_false (by omega)
  have xh : (((s[i].toNat : Nat) : Int) ≥ 128) = True := eq_true (by omega)
  have xm : (((s[i].toNat : Nat) : Int) < 192) = False := eq_false (by omega)
  rw [r53_B0_eq]
  by_cases g : i + 2 ≤ s.size
  · have q2 : ((i : Int) + 2 > (s.size : Int)) = False := eq_false (by omega)
    have hL := ci_loop s (by omega) l i 2 g (by omega) 1 1 (((s[i].toNat : Nat) : Int) - 192) (by omega) (by omega) (by simp only [Int.reducePow]; omega)
    unfold CiLoop at hL
    rw [show 2 - 1 = 1 from rfl] at hL
    rw [decide_eq_true g, Bool.true_and]
    simp (disch := omega) only [go_sem, r53_C0, q1, hi0, va, xa, xd, xe, xg, xh, xm, w64, q2]
    rw [r53_B1_n]
    erw [hL]
    rcases Bool.eq_false_or_eq_true (conts ((bs s).drop (i + 1)) 1) with g2 | g2
    · obtain ⟨d1, d2⟩ := cdec_le _ _ (((s[i].toNat : Nat) : Int) - 192) (by omega) g2
      have d3 : (cdec (((s[i].toNat : Nat) : Int) - 192) ((bs s).drop (i + 1)) 1) ≤ 2097151 := by simp only [Int.reducePow] at d2; omega
      have hput := put_ok (cdec (((s[i].toNat : Nat) : Int) - 192) ((bs s).drop (i + 1)) 1) d1 d3
      rw [g2]
      simp only [if_true, Bool.true_and, okC]
      generalize (cdec (((s[i].toNat : Nat) : Int) - 192) ((bs s).drop (i + 1)) 1) = c at *
      have r1 : ((l.length + 1) * 8 ≤ maxRow) = True := eq_true (by simp only [maxRow]; omega)
      have hcmp := cmp_put s i 2 ((putI c).map ub)
      have et : ((i : Int) + ((2 : Nat) : Int)).toNat = i + 2 := by omega
      have q3 : ((i : Int) ≤ (i : Int) + ((2 : Nat) : Int)) = True := eq_true (by omega)
      have q4 : ((i : Int) + ((2 : Nat) : Int) ≤ (s.size : Int)) = True := eq_true (by omega)
      have ea : l.map iv ++ [iv c] = (l ++ [c]).map iv := by simp
      have all8 : ([iv c].all fun y => y.width == 1) = true := rfl
      rw [Int.natCast_add]
      by_cases k1 : c > 1114111
      · simp (disch := omega) only [go_sem, k1, decide_true, Bool.true_or, Bool.not_true, Bool.false_and]
      · by_cases k2 : c ≥ 55296
        · exfalso
          simp only [Int.reducePow] at d2
          omega
        · rcases Bool.eq_false_or_eq_true ((putI c).map ub == ((bs s).drop i).take 2) with k4 | k4 <;> rw [k4] at hcmp <;>
            simp (disch := omega) only [go_sem, k1, k2, k4, hput, put_bytes, hcmp, strD_neq, et, q3, q4, hi0, w64, r1, all8, ea, List.length_map, decide_true, decide_false, Bool.or_self, Bool.false_and, Bool.and_true, Bool.and_false, Bool.not_false, Bool.not_true, Int.toNat_natCast] <;> rfl
    · rw [g2]
      simp (disch := omega) only [go_sem, Bool.false_and]
  · have q2 : ((i : Int) + 2 > (s.size : Int)) = True := eq_true (by omega)
    rw [decide_eq_false g, Bool.false_and]
    simp (disch := omega) only [go_sem, r53_C0, q1, hi0, va, xa, xd, xe, xg, xh, xm, w64, q2]

theorem sg_3 (s : ByteArray) (hs : s.size ≤ 2097152) (l : List Int) (hl : l.length ≤ 2097152) (i : Nat) (hi : i < s.size) (h1 : ((s[i].toNat : Nat) : Int) ≥ 224) (h2 : ((s[i].toNat : Nat) : Int) ≤ 239) :
    V (F tab) r53_B0 (r53_S0 (.d (.str s)) (.own 3 (l.map iv)) (.d (iv i)) []) =
      if decide (i + 3 ≤ s.size) && (conts ((bs s).drop (i + 1)) 2 && okC s i 3 (cdec (((s[i].toNat : Nat) : Int) - 224) ((bs s).drop (i + 1)) 2)) then
        V (F tab) r53_B0 (r53_S0 (.d (.str s)) (.own 3 ((l ++ [(cdec (((s[i].toNat : Nat) : Int) - 224) ((bs s).drop (i + 1)) 2)]).map iv)) (.d (iv (i + 3 : Nat))) [])
      else some (.ret, r53_R (.d (.sl [])) (.d (.bool false)) []) := by
  have q1 : ((i : Int) < (s.size : Int)) = True := eq_true (by omega)
  have hi0 : (0 ≤ (i : Int)) = True := eq_true (by omega)
  obtain ⟨va, vd⟩ := bs_get hi
  have xa : (((s[i].toNat : Nat) : Int) ≥ 240) = False := eq_false (by omega)
  have xd : (((s[i].toNat : Nat) : Int) ≥ 224) = True := eq_true (by omega)
  have xg : (((s[i].toNat : Nat) : Int) ≥ 248) = False := eq_false (by omega)
  have xh : (((s[i].toNat : Nat) : Int) ≥ 128) = True := eq_true (by omega)
  have xm : (((s[i].toNat : Nat) : Int) < 192) = False := eq_false (by omega)
  rw [r53_B0_eq]
  by_cases g : i + 3 ≤ s.size
  · have q2 : ((i : Int) + 3 > (s.size : Int)) = False := eq_false (by omega)
    have hL := ci_loop s (by omega) l i 3 g (by omega) 2 1 (((s[i].toNat : Nat) : Int) - 224) (by omega) (by omega) (by simp only [Int.reducePow]; omega)
    unfold CiLoop at hL
    rw [show 3 - 1 = 2 from rfl] at hL
    rw [decide_eq_true g, Bool.true_and]
    simp (disch := omega) only [go_sem, r53_C0, q1, hi0, va, xa, xd, xg, xh, xm, w64, q2]
    rw [r53_B1_n]
    erw [hL]
    rcases Bool.eq_false_or_eq_true (conts ((bs s).drop (i + 1)) 2) with g2 | g2
    · obtain ⟨d1, d2⟩ := cdec_le _ _ (((s[i].toNat : Nat) : Int) - 224) (by omega) g2
      have d3 : (cdec (((s[i].toNat : Nat) : Int) - 224) ((bs s).drop (i + 1)) 2) ≤ 2097151 := by simp only [Int.reducePow] at d2; omega
      have hput := put_ok (cdec (((s[i].toNat : Nat) : Int) - 224) ((bs s).drop (i + 1)) 2) d1 d3
      rw [g2]
      simp only [if_true, Bool.true_and, okC]
      generalize (cdec (((s[i].toNat : Nat) : Int) - 224) ((bs s).drop (i + 1)) 2) = c at *
      have r1 : ((l.length + 1) * 8 ≤ maxRow) = True := eq_true (by simp only [maxRow]; omega)
      have hcmp := cmp_put s i 3 ((putI c).map ub)
      have et : ((i : Int) + ((3 : Nat) : Int)).toNat = i + 3 := by omega
      have q3 : ((i : Int) ≤ (i : Int) + ((3 : Nat) : Int)) = True := eq_true (by omega)
      have q4 : ((i : Int) + ((3 : Nat) : Int) ≤ (s.size : Int)) = True := eq_true (by omega)
      have ea : l.map iv ++ [iv c] = (l ++ [c]).map iv := by simp
      have all8 : ([iv c].all fun y => y.width == 1) = true := rfl
      rw [Int.natCast_add]
      by_cases k1 : c > 1114111
      · simp (disch := omega) only [go_sem, k1, decide_true, Bool.true_or, Bool.not_true, Bool.false_and]
      · by_cases k2 : c ≥ 55296
        · by_cases k3 : c < 57344
          · simp (disch := omega) only [go_sem, k1, k2, k3, decide_true, decide_false, Bool.true_or, Bool.false_or, Bool.true_and, Bool.not_true, Bool.false_and]
          · rcases Bool.eq_false_or_eq_true ((putI c).map ub == ((bs s).drop i).take 3) with k4 | k4 <;> rw [k4] at hcmp <;>
              simp (disch := omega) only [go_sem, k1, k2, k3, k4, hput, put_bytes, hcmp, strD_neq, et, q3, q4, hi0, w64, r1, all8, ea, List.length_map, decide_true, decide_false, Bool.or_self, Bool.and_self, Bool.and_true, Bool.and_false, Bool.not_false, Bool.not_true, Int.toNat_natCast] <;> rfl
        · rcases Bool.eq_false_or_eq_true ((putI c).map ub == ((bs s).drop i).take 3) with k4 | k4 <;> rw [k4] at hcmp <;>
            simp (disch := omega) only [go_sem, k1, k2, k4, hput, put_bytes, hcmp, strD_neq, et, q3, q4, hi0, w64, r1, all8, ea, List.length_map, decide_true, decide_false, Bool.or_self, Bool.false_and, Bool.and_true, Bool.and_false, Bool.not_false, Bool.not_true, Int.toNat_natCast] <;> rfl
    · rw [g2]
      simp (disch := omega) only [go_sem, Bool.false_and]
  · have q2 : ((i : Int) + 3 > (s.size : Int)) = True := eq_true (by omega)
    rw [decide_eq_false g, Bool.false_and]
    simp (disch := omega) only [go_sem, r53_C0, q1, hi0, va, xa, xd, xg, xh, xm, w64, q2]

theorem sg_4 (s : ByteArray) (hs : s.size ≤ 2097152) (l : List Int) (hl : l.length ≤ 2097152) (i : Nat) (hi : i < s.size) (h1 : ((s[i].toNat : Nat) : Int) ≥ 240) (h2 : ((s[i].toNat : Nat) : Int) ≤ 247) :
    V (F tab) r53_B0 (r53_S0 (.d (.str s)) (.own 3 (l.map iv)) (.d (iv i)) []) =
      if decide (i + 4 ≤ s.size) && (conts ((bs s).drop (i + 1)) 3 && okC s i 4 (cdec (((s[i].toNat : Nat) : Int) - 240) ((bs s).drop (i + 1)) 3)) then
        V (F tab) r53_B0 (r53_S0 (.d (.str s)) (.own 3 ((l ++ [(cdec (((s[i].toNat : Nat) : Int) - 240) ((bs s).drop (i + 1)) 3)]).map iv)) (.d (iv (i + 4 : Nat))) [])
      else some (.ret, r53_R (.d (.sl [])) (.d (.bool false)) []) := by
  have q1 : ((i : Int) < (s.size : Int)) = True := eq_true (by omega)
  have hi0 : (0 ≤ (i : Int)) = True := eq_true (by omega)
  obtain ⟨va, vd⟩ := bs_get hi
  have xa : (((s[i].toNat : Nat) : Int) ≥ 240) = True := eq_true (by omega)
  have xb : (((s[i].toNat : Nat) : Int) < 248) = True := eq_true (by omega)
  have xg : (((s[i].toNat : Nat) : Int) ≥ 248) = False := eq_false (by omega)
  have xh : (((s[i].toNat : Nat) : Int) ≥ 128) = True := eq_true (by omega)
  have xm : (((s[i].toNat : Nat) : Int) < 192) = False := eq_false (by omega)
  rw [r53_B0_eq]
  by_cases g : i + 4 ≤ s.size
  · have q2 : ((i : Int) + 4 > (s.size : Int)) = False := eq_false (by omega)
    have hL := ci_loop s (by omega) l i 4 g (by omega) 3 1 (((s[i].toNat : Nat) : Int) - 240) (by omega) (by omega) (by simp only [Int.reducePow]; omega)
    unfold CiLoop at hL
    rw [show 4 - 1 = 3 from rfl] at hL
    rw [decide_eq_true g, Bool.true_and]
    simp (disch := omega) only [go_sem, r53_C0, q1, hi0, va, xa, xb, xg, xh, xm, w64, q2]
    rw [r53_B1_n]
    erw [hL]
    rcases Bool.eq_false_or_eq_true (conts ((bs s).drop (i + 1)) 3) with g2 | g2
    · obtain ⟨d1, d2⟩ := cdec_le _ _ (((s[i].toNat : Nat) : Int) - 240) (by omega) g2
      have d3 : (cdec (((s[i].toNat : Nat) : Int) - 240) ((bs s).drop (i + 1)) 3) ≤ 2097151 := by simp only [Int.reducePow] at d2; omega
      have hput := put_ok (cdec (((s[i].toNat : Nat) : Int) - 240) ((bs s).drop (i + 1)) 3) d1 d3
      rw [g2]
      simp only [if_true, Bool.true_and, okC]
      generalize (cdec (((s[i].toNat : Nat) : Int) - 240) ((bs s).drop (i + 1)) 3) = c at *
      have r1 : ((l.length + 1) * 8 ≤ maxRow) = True := eq_true (by simp only [maxRow]; omega)
      have hcmp := cmp_put s i 4 ((putI c).map ub)
      have et : ((i : Int) + ((4 : Nat) : Int)).toNat = i + 4 := by omega
      have q3 : ((i : Int) ≤ (i : Int) + ((4 : Nat) : Int)) = True := eq_true (by omega)
      have q4 : ((i : Int) + ((4 : Nat) : Int) ≤ (s.size : Int)) = True := eq_true (by omega)
      have ea : l.map iv ++ [iv c] = (l ++ [c]).map iv := by simp
      have all8 : ([iv c].all fun y => y.width == 1) = true := rfl
      rw [Int.natCast_add]
      by_cases k1 : c > 1114111
      · simp (disch := omega) only [go_sem, k1, decide_true, Bool.true_or, Bool.not_true, Bool.false_and]
      · by_cases k2 : c ≥ 55296
        · by_cases k3 : c < 57344
          · simp (disch := omega) only [go_sem, k1, k2, k3, decide_true, decide_false, Bool.true_or, Bool.false_or, Bool.true_and, Bool.not_true, Bool.false_and]
          · rcases Bool.eq_false_or_eq_true ((putI c).map ub == ((bs s).drop i).take 4) with k4 | k4 <;> rw [k4] at hcmp <;>
              simp (disch := omega) only [go_sem, k1, k2, k3, k4, hput, put_bytes, hcmp, strD_neq, et, q3, q4, hi0, w64, r1, all8, ea, List.length_map, decide_true, decide_false, Bool.or_self, Bool.and_self, Bool.and_true, Bool.and_false, Bool.not_false, Bool.not_true, Int.toNat_natCast] <;> rfl
        · rcases Bool.eq_false_or_eq_true ((putI c).map ub == ((bs s).drop i).take 4) with k4 | k4 <;> rw [k4] at hcmp <;>
            simp (disch := omega) only [go_sem, k1, k2, k4, hput, put_bytes, hcmp, strD_neq, et, q3, q4, hi0, w64, r1, all8, ea, List.length_map, decide_true, decide_false, Bool.or_self, Bool.false_and, Bool.and_true, Bool.and_false, Bool.not_false, Bool.not_true, Int.toNat_natCast] <;> rfl
    · rw [g2]
      simp (disch := omega) only [go_sem, Bool.false_and]
  · have q2 : ((i : Int) + 4 > (s.size : Int)) = True := eq_true (by omega)
    rw [decide_eq_false g, Bool.false_and]
    simp (disch := omega) only [go_sem, r53_C0, q1, hi0, va, xa, xb, xg, xh, xm, w64, q2]

end Go.Pe.T

namespace Go.Pe.T

def okL (l : List UInt8) (n : Nat) (c : Int) : Bool := !(decide (c > 1114111) || (decide (c ≥ 55296) && decide (c < 57344))) && ((putI c).map ub == l.take n)
theorem ub_nat (x : UInt8) : ub ((x.toNat : Nat) : Int) = x := by simp [ub]

theorem szc_0 (l : List UInt8) (g1 : nb l 0 ≥ 0) (g2 : nb l 0 ≤ 127) : sizeL l = 1 := by
  unfold sizeL
  generalize nb l 0 = c at *
  have xa : (c < 128) = True := eq_true (by omega)
  have xb : (c ≥ 194) = False := eq_false (by omega)
  have xd : (c ≤ 223) = True := eq_true (by omega)
  have xe : (c == 224) = false := by simp <;> omega
  have xf : (c ≥ 225) = False := eq_false (by omega)
  have xh : (c ≤ 239) = True := eq_true (by omega)
  have xi : (c != 237) = true := by simp <;> omega
  have xj : (c == 237) = false := by simp <;> omega
  have xk : (c == 240) = false := by simp <;> omega
  have xl : (c ≥ 241) = False := eq_false (by omega)
  have xm : (c ≤ 243) = True := eq_true (by omega)
  have xn : (c == 244) = false := by simp <;> omega
  simp only [xa, xb, xd, xe, xf, xh, xi, xj, xk, xl, xm, xn, decide_true, decide_false, Bool.true_and, Bool.false_and, Bool.or_false, Bool.false_or, Bool.and_true, Bool.and_false, Bool.false_eq_true, if_true, if_false]

theorem szc_1 (l : List UInt8) (g1 : nb l 0 ≥ 128) (g2 : nb l 0 ≤ 193) : sizeL l = 0 := by
  unfold sizeL
  generalize nb l 0 = c at *
  have xa : (c < 128) = False := eq_false (by omega)
  have xb : (c ≥ 194) = False := eq_false (by omega)
  have xd : (c ≤ 223) = True := eq_true (by omega)
  have xe : (c == 224) = false := by simp <;> omega
  have xf : (c ≥ 225) = False := eq_false (by omega)
  have xh : (c ≤ 239) = True := eq_true (by omega)
  have xi : (c != 237) = true := by simp <;> omega
  have xj : (c == 237) = false := by simp <;> omega
  have xk : (c == 240) = false := by simp <;> omega
  have xl : (c ≥ 241) = False := eq_false (by omega)
  have xm : (c ≤ 243) = True := eq_true (by omega)
  have xn : (c == 244) = false := by simp <;> omega
  simp only [xa, xb, xd, xe, xf, xh, xi, xj, xk, xl, xm, xn, decide_true, decide_false, Bool.true_and, Bool.false_and, Bool.or_false, Bool.false_or, Bool.and_true, Bool.and_false, Bool.false_eq_true, if_true, if_false]

theorem szc_2 (l : List UInt8) (g1 : nb l 0 ≥ 194) (g2 : nb l 0 ≤ 223) : sizeL l = if tailL l 1 128 191 then 2 else 0 := by
  unfold sizeL
  generalize nb l 0 = c at *
  have xa : (c < 128) = False := eq_false (by omega)
  have xb : (c ≥ 194) = True := eq_true (by omega)
  have xd : (c ≤ 223) = True := eq_true (by omega)
  have xe : (c == 224) = false := by simp <;> omega
  have xf : (c ≥ 225) = False := eq_false (by omega)
  have xh : (c ≤ 239) = True := eq_true (by omega)
  have xi : (c != 237) = true := by simp <;> omega
  have xj : (c == 237) = false := by simp <;> omega
  have xk : (c == 240) = false := by simp <;> omega
  have xl : (c ≥ 241) = False := eq_false (by omega)
  have xm : (c ≤ 243) = True := eq_true (by omega)
  have xn : (c == 244) = false := by simp <;> omega
  simp only [xa, xb, xd, xe, xf, xh, xi, xj, xk, xl, xm, xn, decide_true, decide_false, Bool.true_and, Bool.false_and, Bool.or_false, Bool.false_or, Bool.and_true, Bool.and_false, Bool.false_eq_true, if_true, if_false]

theorem szc_3 (l : List UInt8) (g1 : nb l 0 ≥ 224) (g2 : nb l 0 ≤ 224) : sizeL l = if tailL l 2 160 191 then 3 else 0 := by
  unfold sizeL
  generalize nb l 0 = c at *
  have xa : (c < 128) = False := eq_false (by omega)
  have xb : (c ≥ 194) = True := eq_true (by omega)
  have xd : (c ≤ 223) = False := eq_false (by omega)
  have xe : (c == 224) = true := by simp <;> omega
  have xf : (c ≥ 225) = False := eq_false (by omega)
  have xh : (c ≤ 239) = True := eq_true (by omega)
  have xi : (c != 237) = true := by simp <;> omega
  have xj : (c == 237) = false := by simp <;> omega
  have xk : (c == 240) = false := by simp <;> omega
  have xl : (c ≥ 241) = False := eq_false (by omega)
  have xm : (c ≤ 243) = True := eq_true (by omega)
  have xn : (c == 244) = false := by simp <;> omega
  simp only [xa, xb, xd, xe, xf, xh, xi, xj, xk, xl, xm, xn, decide_true, decide_false, Bool.true_and, Bool.false_and, Bool.or_false, Bool.false_or, Bool.and_true, Bool.and_false, Bool.false_eq_true, if_true, if_false]

theorem szc_4 (l : List UInt8) (g1 : nb l 0 ≥ 225) (g2 : nb l 0 ≤ 236) : sizeL l = if tailL l 2 128 191 then 3 else 0 := by
  unfold sizeL
  generalize nb l 0 = c at *
  have xa : (c < 128) = False := eq_false (by omega)
  have xb : (c ≥ 194) = True := eq_true (by omega)
  have xd : (c ≤ 223) = False := eq_false (by omega)
  have xe : (c == 224) = false := by simp <;> omega
  have xf : (c ≥ 225) = True := eq_true (by omega)
  have xh : (c ≤ 239) = True := eq_true (by omega)
  have xi : (c != 237) = true := by simp <;> omega
  have xj : (c == 237) = false := by simp <;> omega
  have xk : (c == 240) = false := by simp <;> omega
  have xl : (c ≥ 241) = False := eq_false (by omega)
  have xm : (c ≤ 243) = True := eq_true (by omega)
  have xn : (c == 244) = false := by simp <;> omega
  simp only [xa, xb, xd, xe, xf, xh, xi, xj, xk, xl, xm, xn, decide_true, decide_false, Bool.true_and, Bool.false_and, Bool.or_false, Bool.false_or, Bool.and_true, Bool.and_false, Bool.false_eq_true, if_true, if_false]

theorem szc_5 (l : List UInt8) (g1 : nb l 0 ≥ 237) (g2 : nb l 0 ≤ 237) : sizeL l = if tailL l 2 128 159 then 3 else 0 := by
  unfold sizeL
  generalize nb l 0 = c at *
  have xa : (c < 128) = False := eq_false (by omega)
  have xb : (c ≥ 194) = True := eq_true (by omega)
  have xd : (c ≤ 223) = False := eq_false (by omega)
  have xe : (c == 224) = false := by simp <;> omega
  have xf : (c ≥ 225) = True := eq_true (by omega)
  have xh : (c ≤ 239) = True := eq_true (by omega)
  have xi : (c != 237) = false := by simp <;> omega
  have xj : (c == 237) = true := by simp <;> omega
  have xk : (c == 240) = false := by simp <;> omega
  have xl : (c ≥ 241) = False := eq_false (by omega)
  have xm : (c ≤ 243) = True := eq_true (by omega)
  have xn : (c == 244) = false := by simp <;> omega
  simp only [xa, xb, xd, xe, xf, xh, xi, xj, xk, xl, xm, xn, decide_true, decide_false, Bool.true_and, Bool.false_and, Bool.or_false, Bool.false_or, Bool.and_true, Bool.and_false, Bool.false_eq_true, if_true, if_false]

theorem szc_6 (l : List UInt8) (g1 : nb l 0 ≥ 238) (g2 : nb l 0 ≤ 239) : sizeL l = if tailL l 2 128 191 then 3 else 0 := by
  unfold sizeL
  generalize nb l 0 = c at *
  have xa : (c < 128) = False := eq_false (by omega)
  have xb : (c ≥ 194) = True := eq_true (by omega)
  have xd : (c ≤ 223) = False := eq_false (by omega)
  have xe : (c == 224) = false := by simp <;> omega
  have xf : (c ≥ 225) = True := eq_true (by omega)
  have xh : (c ≤ 239) = True := eq_true (by omega)
  have xi : (c != 237) = true := by simp <;> omega
  have xj : (c == 237) = false := by simp <;> omega
  have xk : (c == 240) = false := by simp <;> omega
  have xl : (c ≥ 241) = False := eq_false (by omega)
  have xm : (c ≤ 243) = True := eq_true (by omega)
  have xn : (c == 244) = false := by simp <;> omega
  simp only [xa, xb, xd, xe, xf, xh, xi, xj, xk, xl, xm, xn, decide_true, decide_false, Bool.true_and, Bool.false_and, Bool.or_false, Bool.false_or, Bool.and_true, Bool.and_false, Bool.false_eq_true, if_true, if_false]

theorem szc_7 (l : List UInt8) (g1 : nb l 0 ≥ 240) (g2 : nb l 0 ≤ 240) : sizeL l = if tailL l 3 144 191 then 4 else 0 := by
  unfold sizeL
  generalize nb l 0 = c at *
  have xa : (c < 128) = False := eq_false (by omega)
  have xb : (c ≥ 194) = True := eq_true (by omega)
  have xd : (c ≤ 223) = False := eq_false (by omega)
  have xe : (c == 224) = false := by simp <;> omega
  have xf : (c ≥ 225) = True := eq_true (by omega)
  have xh : (c ≤ 239) = False := eq_false (by omega)
  have xi : (c != 237) = true := by simp <;> omega
  have xj : (c == 237) = false := by simp <;> omega
  have xk : (c == 240) = true := by simp <;> omega
  have xl : (c ≥ 241) = False := eq_false (by omega)
  have xm : (c ≤ 243) = True := eq_true (by omega)
  have xn : (c == 244) = false := by simp <;> omega
  simp only [xa, xb, xd, xe, xf, xh, xi, xj, xk, xl, xm, xn, decide_true, decide_false, Bool.true_and, Bool.false_and, Bool.or_false, Bool.false_or, Bool.and_true, Bool.and_false, Bool.false_eq_true, if_true, if_false]

theorem szc_8 (l : List UInt8) (g1 : nb l 0 ≥ 241) (g2 : nb l 0 ≤ 243) : sizeL l = if tailL l 3 128 191 then 4 else 0 := by
  unfold sizeL
  generalize nb l 0 = c at *
  have xa : (c < 128) = False := eq_false (by omega)
  have xb : (c ≥ 194) = True := eq_true (by omega)
  have xd : (c ≤ 223) = False := eq_false (by omega)
  have xe : (c == 224) = false := by simp <;> omega
  have xf : (c ≥ 225) = True := eq_true (by omega)
  have xh : (c ≤ 239) = False := eq_false (by omega)
  have xi : (c != 237) = true := by simp <;> omega
  have xj : (c == 237) = false := by simp <;> omega
  have xk : (c == 240) = false := by simp <;> omega
  have xl : (c ≥ 241) = True := eq_true (by omega)
  have xm : (c ≤ 243) = True := eq_true (by omega)
  have xn : (c == 244) = false := by simp <;> omega
  simp only [xa, xb, xd, xe, xf, xh, xi, xj, xk, xl, xm, xn, decide_true, decide_false, Bool.true_and, Bool.false_and, Bool.or_false, Bool.false_or, Bool.and_true, Bool.and_false, Bool.false_eq_true, if_true, if_false]

theorem szc_9 (l : List UInt8) (g1 : nb l 0 ≥ 244) (g2 : nb l 0 ≤ 244) : sizeL l = if tailL l 3 128 143 then 4 else 0 := by
  unfold sizeL
  generalize nb l 0 = c at *
  have xa : (c < 128) = False := eq_false (by omega)
  have xb : (c ≥ 194) = True := eq_true (by omega)
  have xd : (c ≤ 223) = False := eq_false (by omega)
  have xe : (c == 224) = false := by simp <;> omega
  have xf : (c ≥ 225) = True := eq_true (by omega)
  have xh : (c ≤ 239) = False := eq_false (by omega)
  have xi : (c != 237) = true := by simp <;> omega
  have xj : (c == 237) = false := by simp <;> omega
  have xk : (c == 240) = false := by simp <;> omega
  have xl : (c ≥ 241) = True := eq_true (by omega)
  have xm : (c ≤ 243) = False := eq_false (by omega)
  have xn : (c == 244) = true := by simp <;> omega
  simp only [xa, xb, xd, xe, xf, xh, xi, xj, xk, xl, xm, xn, decide_true, decide_false, Bool.true_and, Bool.false_and, Bool.or_false, Bool.false_or, Bool.and_true, Bool.and_false, Bool.false_eq_true, if_true, if_false]

theorem szc_10 (l : List UInt8) (g1 : nb l 0 ≥ 245) (g2 : nb l 0 ≤ 255) : sizeL l = 0 := by
  unfold sizeL
  generalize nb l 0 = c at *
  have xa : (c < 128) = False := eq_false (by omega)
  have xb : (c ≥ 194) = True := eq_true (by omega)
  have xd : (c ≤ 223) = False := eq_false (by omega)
  have xe : (c == 224) = false := by simp <;> omega
  have xf : (c ≥ 225) = True := eq_true (by omega)
  have xh : (c ≤ 239) = False := eq_false (by omega)
  have xi : (c != 237) = true := by simp <;> omega
  have xj : (c == 237) = false := by simp <;> omega
  have xk : (c == 240) = false := by simp <;> omega
  have xl : (c ≥ 241) = True := eq_true (by omega)
  have xm : (c ≤ 243) = False := eq_false (by omega)
  have xn : (c == 244) = false := by simp <;> omega
  simp only [xa, xb, xd, xe, xf, xh, xi, xj, xk, xl, xm, xn, decide_true, decide_false, Bool.true_and, Bool.false_and, Bool.or_false, Bool.false_or, Bool.and_true, Bool.and_false, Bool.false_eq_true, if_true, if_false]

theorem nb0 (x : UInt8) (r : List UInt8) : nb (x :: r) 0 = ((x.toNat : Nat) : Int) := rfl
theorem nb1 (x y : UInt8) (r : List UInt8) : nb (x :: y :: r) 1 = ((y.toNat : Nat) : Int) := rfl

theorem m1 (x : UInt8) (r : List UInt8) (h : ((x.toNat : Nat) : Int) ≤ 127) : okL (x :: r) 1 ((x.toNat : Nat) : Int) = true ∧ sizeL (x :: r) = 1 := by
  refine ⟨?_, szc_0 _ (by rw [nb0]; omega) (by rw [nb0]; omega)⟩
  have h1 : ¬ ((x.toNat : Nat) : Int) > 1114111 := by omega
  have h2 : ¬ ((x.toNat : Nat) : Int) ≥ 55296 := by omega
  have h3 : ((x.toNat : Nat) : Int) < 128 := by omega
  simp [okL, putI, h1, h2, h3, ub_nat]

theorem m2 (x : UInt8) (r : List UInt8) (h1 : 192 ≤ ((x.toNat : Nat) : Int)) (h2 : ((x.toNat : Nat) : Int) ≤ 223) :
    (decide (2 ≤ (x :: r).length) && (conts r 1 && okL (x :: r) 2 (cdec (((x.toNat : Nat) : Int) - 192) r 1))) = (sizeL (x :: r) == 2) ∧ (sizeL (x :: r) = 2 ∨ sizeL (x :: r) = 0) := by
  match r with
  | [] =>
    have : sizeL [x] = 0 := by
      by_cases g : nb [x] 0 ≤ 193
      · exact szc_1 _ (by rw [nb0]; omega) g
      · rw [szc_2 _ (by omega) (by rw [nb0]; omega)]; simp [tailL]
    simp [this]
  | y :: r =>
    have hy : y.toNat < 256 := UInt8.toNat_lt _
    simp only [conts, contB, Bool.and_true, cdec]
    by_cases g1 : ((y.toNat : Nat) : Int) < 128
    · have : sizeL (x :: y :: r) = 0 := by
        by_cases g : nb (x :: y :: r) 0 ≤ 193
        · exact szc_1 _ (by rw [nb0]; omega) g
        · rw [szc_2 _ (by omega) (by rw [nb0]; omega)]; simp [tailL, nb1, g1]
      simp [this, g1]
    · by_cases g2 : ((y.toNat : Nat) : Int) > 191
      · have : sizeL (x :: y :: r) = 0 := by
          by_cases g : nb (x :: y :: r) 0 ≤ 193
          · exact szc_1 _ (by rw [nb0]; omega) g
          · rw [szc_2 _ (by omega) (by rw [nb0]; omega)]; simp [tailL, nb1, g2]
        simp [this, g2]
      · generalize hc : 64 * (((x.toNat : Nat) : Int) - 192) + ((y.toNat : Nat) : Int) - 128 = c
        have k1 : ¬ c > 1114111 := by omega
        have k2 : ¬ c ≥ 55296 := by omega
        by_cases g : ((x.toNat : Nat) : Int) ≤ 193
        · have e : sizeL (x :: y :: r) = 0 := szc_1 _ (by rw [nb0]; omega) (by rw [nb0]; omega)
          have k3 : c < 128 := by omega
          simp [e, okL, putI, k3]
        · have e : sizeL (x :: y :: r) = 2 := by
            rw [szc_2 _ (by rw [nb0]; omega) (by rw [nb0]; omega)]; simp [tailL, nb1, g1, g2, conts]
          have k3 : ¬ c < 128 := by omega
          have k4 : c < 2048 := by omega
          have e1 : 192 + c / 64 = ((x.toNat : Nat) : Int) := by omega
          have e2 : 128 + c % 64 = ((y.toNat : Nat) : Int) := by omega
          simp [e, okL, putI, k1, k2, k3, k4, e1, e2, ub_nat, g1, g2]

theorem sz3 (x : UInt8) (r : List UInt8) (h1 : 224 ≤ ((x.toNat : Nat) : Int)) (h2 : ((x.toNat : Nat) : Int) ≤ 239) :
    sizeL (x :: r) = if tailL (x :: r) 2 (if ((x.toNat : Nat) : Int) = 224 then 160 else 128) (if ((x.toNat : Nat) : Int) = 237 then 159 else 191) then 3 else 0 := by
  by_cases a : ((x.toNat : Nat) : Int) = 224
  · have b : ¬ ((x.toNat : Nat) : Int) = 237 := by omega
    rw [szc_3 _ (by rw [nb0]; omega) (by rw [nb0]; omega), if_pos a, if_neg b]
  · by_cases b : ((x.toNat : Nat) : Int) = 237
    · rw [szc_5 _ (by rw [nb0]; omega) (by rw [nb0]; omega), if_neg a, if_pos b]
    · rw [if_neg a, if_neg b]
      by_cases c : ((x.toNat : Nat) : Int) ≤ 236
      · exact szc_4 _ (by rw [nb0]; omega) (by rw [nb0]; omega)
      · exact szc_6 _ (by rw [nb0]; omega) (by rw [nb0]; omega)
theorem sz4 (x : UInt8) (r : List UInt8) (h1 : 240 ≤ ((x.toNat : Nat) : Int)) (h2 : ((x.toNat : Nat) : Int) ≤ 247) :
    sizeL (x :: r) = if (decide (((x.toNat : Nat) : Int) ≤ 244) && tailL (x :: r) 3 (if ((x.toNat : Nat) : Int) = 240 then 144 else 128) (if ((x.toNat : Nat) : Int) = 244 then 143 else 191)) then 4 else 0 := by
  by_cases a : ((x.toNat : Nat) : Int) = 240
  · have q : ((x.toNat : Nat) : Int) ≤ 244 := by omega
    have b : ¬ ((x.toNat : Nat) : Int) = 244 := by omega
    rw [szc_7 _ (by rw [nb0]; omega) (by rw [nb0]; omega), if_pos a, if_neg b, decide_eq_true q, Bool.true_and]
  · by_cases b : ((x.toNat : Nat) : Int) = 244
    · have q : ((x.toNat : Nat) : Int) ≤ 244 := by omega
      rw [szc_9 _ (by rw [nb0]; omega) (by rw [nb0]; omega), if_neg a, if_pos b, decide_eq_true q, Bool.true_and]
    · rw [if_neg a, if_neg b]
      by_cases c : ((x.toNat : Nat) : Int) ≤ 243
      · have q : ((x.toNat : Nat) : Int) ≤ 244 := by omega
        rw [szc_8 _ (by rw [nb0]; omega) (by rw [nb0]; omega), decide_eq_true q, Bool.true_and]
      · have q : ¬ ((x.toNat : Nat) : Int) ≤ 244 := by omega
        rw [szc_10 _ (by rw [nb0]; omega) (by rw [nb0]; omega), decide_eq_false q, Bool.false_and, if_neg (by simp)]

theorem m3 (x : UInt8) (r : List UInt8) (h1 : 224 ≤ ((x.toNat : Nat) : Int)) (h2 : ((x.toNat : Nat) : Int) ≤ 239) :
    (decide (3 ≤ (x :: r).length) && (conts r 2 && okL (x :: r) 3 (cdec (((x.toNat : Nat) : Int) - 224) r 2))) = (sizeL (x :: r) == 3) ∧ (sizeL (x :: r) = 3 ∨ sizeL (x :: r) = 0) := by
  refine ⟨?_, by rw [sz3 x r h1 h2]; split <;> simp⟩
  rw [sz3 x r h1 h2]
  match r with
  | [] => simp [tailL]
  | [y] => simp [tailL, conts]
  | y :: z :: r =>
    have hy : y.toNat < 256 := UInt8.toNat_lt _
    have hz : z.toNat < 256 := UInt8.toNat_lt _
    have el : decide (3 ≤ (x :: y :: z :: r).length) = true := by simp
    have et : ∀ lo hi, tailL (x :: y :: z :: r) 2 lo hi = ((!decide (((y.toNat : Nat) : Int) < lo) && !decide (((y.toNat : Nat) : Int) > hi)) && contB z.toNat) := by
      intro lo hi; simp [tailL, nb1, conts] <;> rfl
    rw [el, et]
    simp only [conts, Bool.and_true, Bool.true_and, cdec, contB]
    generalize hX : ((x.toNat : Nat) : Int) = X at *
    generalize hY : ((y.toNat : Nat) : Int) = Y at *
    generalize hZ : ((z.toNat : Nat) : Int) = Z at *
    generalize hc : 64 * (64 * (X - 224) + Y - 128) + Z - 128 = c
    have ux : ub X = x := by rw [← hX]; exact ub_nat x
    have uy : ub Y = y := by rw [← hY]; exact ub_nat y
    have uz : ub Z = z := by rw [← hZ]; exact ub_nat z
    by_cases z1 : Z < 128
    · simp [z1]
    by_cases z2 : Z > 191
    · simp [z2]
    by_cases y1 : Y < 128
    · have : Y < (if X = 224 then 160 else 128) := by split <;> omega
      simp [y1, this]
    by_cases y2 : Y > 191
    · have : Y > (if X = 237 then 159 else 191) := by split <;> omega
      simp [y2, this]
    have k1 : ¬ c > 1114111 := by omega
    simp only [z1, z2, y1, y2, k1, okL, decide_false, decide_true, Bool.not_false, Bool.not_true, Bool.true_and, Bool.and_true, Bool.false_or]
    by_cases a : X = 224
    · have b : ¬ X = 237 := by omega
      have s1 : ¬ c ≥ 55296 := by omega
      simp only [if_pos a, if_neg b, y2, s1, decide_false, Bool.not_false, Bool.and_true, Bool.false_and, Bool.true_and]
      by_cases q : Y < 160
      · have p1 : c < 2048 := by omega
        by_cases p0 : c < 128
        · simp [putI, p0, q]
        · simp [putI, p0, p1, q]
      · have p1 : ¬ c < 2048 := by omega
        have p0 : ¬ c < 128 := by omega
        have p2 : c < 65536 := by omega
        have e1 : 224 + c / 4096 = X := by omega
        have e2 : 128 + c / 64 % 64 = Y := by omega
        have e3 : 128 + c % 64 = Z := by omega
        simp [putI, p0, p1, p2, e1, e2, e3, q, ux, uy, uz]
    · have p1 : ¬ c < 2048 := by omega
      have p0 : ¬ c < 128 := by omega
      have p2 : c < 65536 := by omega
      have e1 : 224 + c / 4096 = X := by omega
      have e2 : 128 + c / 64 % 64 = Y := by omega
      have e3 : 128 + c % 64 = Z := by omega
      have ep : ((putI c).map ub == (x :: y :: z :: r).take 3) = true := by simp [putI, p0, p1, p2, e1, e2, e3, ux, uy, uz]
      rw [ep]
      by_cases b : X = 237
      · simp only [if_neg a, if_pos b, y1, decide_false, Bool.not_false, Bool.and_true, Bool.true_and]
        by_cases q : Y > 159
        · have s1 : c ≥ 55296 := by omega
          have s2 : c < 57344 := by omega
          simp [s1, s2, q]
        · have s1 : ¬ c ≥ 55296 := by omega
          simp [s1, q]
      · simp only [if_neg a, if_neg b, y1, y2, decide_false, Bool.not_false, Bool.and_true, Bool.true_and]
        by_cases s1 : c ≥ 55296
        · have s2 : ¬ c < 57344 := by omega
          simp [s1, s2]
        · simp [s1]

theorem m4 (x : UInt8) (r : List UInt8) (h1 : 240 ≤ ((x.toNat : Nat) : Int)) (h2 : ((x.toNat : Nat) : Int) ≤ 247) :
    (decide (4 ≤ (x :: r).length) && (conts r 3 && okL (x :: r) 4 (cdec (((x.toNat : Nat) : Int) - 240) r 3))) = (sizeL (x :: r) == 4) ∧ (sizeL (x :: r) = 4 ∨ sizeL (x :: r) = 0) := by
  refine ⟨?_, by rw [sz4 x r h1 h2]; split <;> simp⟩
  rw [sz4 x r h1 h2]
  match r with
  | [] => simp [tailL]
  | [y] => simp [tailL, conts]
  | [y, z] => simp [tailL, conts]
  | y :: z :: w :: r =>
    have hy : y.toNat < 256 := UInt8.toNat_lt _
    have hz : z.toNat < 256 := UInt8.toNat_lt _
    have hw : w.toNat < 256 := UInt8.toNat_lt _
    have el : decide (4 ≤ (x :: y :: z :: w :: r).length) = true := by simp
    have et : ∀ lo hi, tailL (x :: y :: z :: w :: r) 3 lo hi = ((!decide (((y.toNat : Nat) : Int) < lo) && !decide (((y.toNat : Nat) : Int) > hi)) && (contB z.toNat && contB w.toNat)) := by
      intro lo hi; simp [tailL, nb1, conts] <;> rfl
    rw [el, et]
    simp only [conts, Bool.and_true, Bool.true_and, cdec, contB]
    generalize hX : ((x.toNat : Nat) : Int) = X at *
    generalize hY : ((y.toNat : Nat) : Int) = Y at *
    generalize hZ : ((z.toNat : Nat) : Int) = Z at *
    generalize hW : ((w.toNat : Nat) : Int) = W at *
    generalize hc : 64 * (64 * (64 * (X - 240) + Y - 128) + Z - 128) + W - 128 = c
    have ux : ub X = x := by rw [← hX]; exact ub_nat x
    have uy : ub Y = y := by rw [← hY]; exact ub_nat y
    have uz : ub Z = z := by rw [← hZ]; exact ub_nat z
    have uw : ub W = w := by rw [← hW]; exact ub_nat w
    by_cases w1 : W < 128
    · simp [w1]
    by_cases w2 : W > 191
    · simp [w2]
    by_cases z1 : Z < 128
    · simp [z1]
    by_cases z2 : Z > 191
    · simp [z2]
    by_cases y1 : Y < 128
    · have : Y < (if X = 240 then 144 else 128) := by split <;> omega
      simp [y1, this]
    by_cases y2 : Y > 191
    · have : Y > (if X = 244 then 143 else 191) := by split <;> omega
      simp [y2, this]
    simp only [w1, w2, z1, z2, y1, y2, okL, decide_false, decide_true, Bool.not_false, Bool.not_true, Bool.true_and, Bool.and_true, Bool.false_or]
    by_cases a : X = 240
    · have b : ¬ X = 244 := by omega
      have k1 : ¬ c > 1114111 := by omega
      have xl : X ≤ 244 := by omega
      simp only [if_pos a, if_neg b, y2, k1, xl, decide_true, decide_false, Bool.not_false, Bool.and_true, Bool.true_and, Bool.false_or]
      by_cases q : Y < 144
      · have p2 : c < 65536 := by omega
        by_cases p0 : c < 128
        · simp [putI, p0, q]
        · by_cases p1 : c < 2048
          · simp [putI, p0, p1, q]
          · simp [putI, p0, p1, p2, q]
      · have p2 : ¬ c < 65536 := by omega
        have p1 : ¬ c < 2048 := by omega
        have p0 : ¬ c < 128 := by omega
        have s2 : ¬ c < 57344 := by omega
        have e1 : 240 + c / 262144 = X := by omega
        have e2 : 128 + c / 4096 % 64 = Y := by omega
        have e3 : 128 + c / 64 % 64 = Z := by omega
        have e4 : 128 + c % 64 = W := by omega
        simp [putI, p0, p1, p2, e1, e2, e3, e4, q, ux, uy, uz, uw, s2]
    · have p2 : ¬ c < 65536 := by omega
      have p1 : ¬ c < 2048 := by omega
      have p0 : ¬ c < 128 := by omega
      have s2 : ¬ c < 57344 := by omega
      have e1 : 240 + c / 262144 = X := by omega
      have e2 : 128 + c / 4096 % 64 = Y := by omega
      have e3 : 128 + c / 64 % 64 = Z := by omega
      have e4 : 128 + c % 64 = W := by omega
      have ep : ((putI c).map ub == (x :: y :: z :: w :: r).take 4) = true := by simp [putI, p0, p1, p2, e1, e2, e3, e4, ux, uy, uz, uw]
      rw [ep]
      by_cases b : X = 244
      · have xl : X ≤ 244 := by omega
        simp only [if_neg a, if_pos b, y1, xl, decide_true, decide_false, Bool.not_false, Bool.and_true, Bool.true_and]
        by_cases q : Y > 143
        · have k1 : c > 1114111 := by omega
          simp [k1, q]
        · have k1 : ¬ c > 1114111 := by omega
          simp [k1, q, s2]
      · simp only [if_neg a, if_neg b, y1, y2, decide_false, Bool.not_false, Bool.and_true, Bool.true_and]
        by_cases xl : X ≤ 244
        · have k1 : ¬ c > 1114111 := by omega
          simp [k1, xl, s2]
        · have k1 : c > 1114111 := by omega
          simp [k1, xl]
end Go.Pe.T

namespace Go.Pe.T

theorem sg_bad1 (s : ByteArray) (hs : s.size ≤ 2097152) (l : List Int) (i : Nat) (hi : i < s.size) (h1 : ((s[i].toNat : Nat) : Int) ≥ 128) (h2 : ((s[i].toNat : Nat) : Int) ≤ 191) : V (F tab) r53_B0 (r53_S0 (.d (.str s)) (.own 3 (l.map iv)) (.d (iv i)) []) = some (.ret, r53_R (.d (.sl [])) (.d (.bool false)) []) := by
  have q1 : ((i : Int) < (s.size : Int)) = True := eq_true (by omega)
  have hi0 : (0 ≤ (i : Int)) = True := eq_true (by omega)
  obtain ⟨va, vd⟩ := bs_get hi
  have xa : (((s[i].toNat : Nat) : Int) ≥ 240) = False := eq_false (by omega)
  have xd : (((s[i].toNat : Nat) : Int) ≥ 224) = False := eq_false (by omega)
  have xe : (((s[i].toNat : Nat) : Int) ≥ 192) = False := eq_false (by omega)
  have xg : (((s[i].toNat : Nat) : Int) ≥ 248) = False := eq_false (by omega)
  have xh : (((s[i].toNat : Nat) : Int) ≥ 128) = True := eq_true (by omega)
  have xm : (((s[i].toNat : Nat) : Int) < 192) = True := eq_true (by omega)
  rw [r53_B0_eq]
  simp (disch := omega) only [go_sem, r53_C0, q1, hi0, va, xa, xd, xe, xg, xh, xm, w64]

theorem sg_bad2 (s : ByteArray) (hs : s.size ≤ 2097152) (l : List Int) (i : Nat) (hi : i < s.size) (h1 : ((s[i].toNat : Nat) : Int) ≥ 248) (h2 : ((s[i].toNat : Nat) : Int) ≤ 255) : V (F tab) r53_B0 (r53_S0 (.d (.str s)) (.own 3 (l.map iv)) (.d (iv i)) []) = some (.ret, r53_R (.d (.sl [])) (.d (.bool false)) []) := by
  have q1 : ((i : Int) < (s.size : Int)) = True := eq_true (by omega)
  have hi0 : (0 ≤ (i : Int)) = True := eq_true (by omega)
  obtain ⟨va, vd⟩ := bs_get hi
  have xa : (((s[i].toNat : Nat) : Int) ≥ 240) = True := eq_true (by omega)
  have xb : (((s[i].toNat : Nat) : Int) < 248) = False := eq_false (by omega)
  have xd : (((s[i].toNat : Nat) : Int) ≥ 224) = True := eq_true (by omega)
  have xe : (((s[i].toNat : Nat) : Int) ≥ 192) = True := eq_true (by omega)
  have xg : (((s[i].toNat : Nat) : Int) ≥ 248) = True := eq_true (by omega)
  have xh : (((s[i].toNat : Nat) : Int) ≥ 128) = True := eq_true (by omega)
  have xm : (((s[i].toNat : Nat) : Int) < 192) = False := eq_false (by omega)
  rw [r53_B0_eq]
  simp (disch := omega) only [go_sem, r53_C0, q1, hi0, va, xa, xb, xd, xe, xg, xh, xm, w64]

def SgIs (s : ByteArray) (l : List Int) (i k : Nat) : Prop :=
  if validF k ((bs s).drop i) = true then ∃ l' : List Int, V (F tab) r53_B0 (r53_S0 (.d (.str s)) (.own 3 (l.map iv)) (.d (iv i)) []) = some (.norm, r53_E0 (.own 3 (l'.map iv)) [])
  else V (F tab) r53_B0 (r53_S0 (.d (.str s)) (.own 3 (l.map iv)) (.d (iv i)) []) = some (.ret, r53_R (.d (.sl [])) (.d (.bool false)) [])
theorem sgis_end (s : ByteArray) (l : List Int) (i k : Nat) (hi : s.size ≤ i) : SgIs s l i k := by
  have h1 : ((i : Int) < (s.size : Int)) = False := eq_false (by omega)
  have e : validF k ((bs s).drop i) = true := by rw [bs_end hi]; cases k <;> rfl
  unfold SgIs
  rw [if_pos e]
  refine ⟨l, ?_⟩
  rw [r53_B0_eq]
  simp (disch := omega) only [go_sem, r53_C0, h1]
theorem sgis_of (s : ByteArray) (l : List Int) (i k n : Nat) (c : Int) (C : Bool) (hi : i < s.size) (hn : 0 < n)
    (hV : V (F tab) r53_B0 (r53_S0 (.d (.str s)) (.own 3 (l.map iv)) (.d (iv i)) []) = if C then V (F tab) r53_B0 (r53_S0 (.d (.str s)) (.own 3 ((l ++ [c]).map iv)) (.d (iv (i + n : Nat))) []) else some (.ret, r53_R (.d (.sl [])) (.d (.bool false)) []))
    (hC : C = (sizeL ((bs s).drop i) == n)) (h0 : sizeL ((bs s).drop i) = n ∨ sizeL ((bs s).drop i) = 0) (ih : SgIs s (l ++ [c]) (i + n) k) : SgIs s l i (k + 1) := by
  obtain ⟨va, vd⟩ := bs_get hi
  have ev : validF (k + 1) ((bs s).drop i) = if sizeL ((bs s).drop i) = 0 then false else validF k (((bs s).drop i).drop (sizeL ((bs s).drop i))) := by rw [vd]; rfl
  unfold SgIs at ih ⊢
  rcases h0 with h0 | h0
  · have e : C = true := by rw [hC, h0]; simp
    have e2 : validF (k + 1) ((bs s).drop i) = validF k ((bs s).drop (i + n)) := by
      rw [ev, h0, if_neg (show ¬ n = 0 by omega), List.drop_drop]
    rw [e2, hV, e]
    simp only [if_true]
    exact ih
  · have e : C = false := by rw [hC, h0]; simp; omega
    have e2 : validF (k + 1) ((bs s).drop i) = false := by rw [ev, h0, if_pos rfl]
    rw [e2, hV, e]
    simp
theorem sgis_bad (s : ByteArray) (l : List Int) (i k : Nat) (hi : i < s.size) (hV : V (F tab) r53_B0 (r53_S0 (.d (.str s)) (.own 3 (l.map iv)) (.d (iv i)) []) = some (.ret, r53_R (.d (.sl [])) (.d (.bool false)) [])) (h0 : sizeL ((bs s).drop i) = 0) : SgIs s l i (k + 1) := by
  obtain ⟨va, vd⟩ := bs_get hi
  have ev : validF (k + 1) ((bs s).drop i) = if sizeL ((bs s).drop i) = 0 then false else validF k (((bs s).drop i).drop (sizeL ((bs s).drop i))) := by rw [vd]; rfl
  unfold SgIs
  rw [ev, h0]
  simpa using hV
theorem sgis_step (s : ByteArray) (hs : s.size ≤ 2097152) (l : List Int) (i k : Nat) (hi : i < s.size) (hl : l.length ≤ i) (ih : ∀ (c : Int) (n : Nat), 0 < n → n ≤ 4 → SgIs s (l ++ [c]) (i + n) k) : SgIs s l i (k + 1) := by
  obtain ⟨va, vd⟩ := bs_get hi
  have hlen : (s[i] :: (bs s).drop (i + 1)).length = s.size - i := by rw [← vd, List.length_drop, bs_len]
  have hx : s[i].toNat < 256 := UInt8.toNat_lt _
  have dn : ∀ n, decide (i + n ≤ s.size) = decide (n ≤ (s[i] :: (bs s).drop (i + 1)).length) := by
    intro n; rw [hlen]; apply decide_eq_decide.2; omega
  have okE : ∀ n c, okC s i n c = okL (s[i] :: (bs s).drop (i + 1)) n c := by
    intro n c; unfold okC okL; rw [vd]
  by_cases h1 : ((s[i].toNat : Nat) : Int) ≤ 127
  · obtain ⟨a1, a2⟩ := m1 s[i] ((bs s).drop (i + 1)) h1
    refine sgis_of s l i k 1 _ _ hi (by omega) (sg_1 s hs l (by omega) i hi (by omega) h1) ?_ (by rw [vd, a2]; simp) (ih _ 1 (by omega) (by omega))
    rw [vd, a2, okE, conts, cdec, a1]
    simp; omega
  by_cases h2 : ((s[i].toNat : Nat) : Int) ≤ 191
  · exact sgis_bad s l i k hi (sg_bad1 s hs l i hi (by omega) h2) (by rw [vd]; exact szc_1 _ (by rw [nb0]; omega) (by rw [nb0]; omega))
  by_cases h3 : ((s[i].toNat : Nat) : Int) ≤ 223
  · obtain ⟨a1, a2⟩ := m2 s[i] ((bs s).drop (i + 1)) (by omega) h3
    refine sgis_of s l i k 2 _ _ hi (by omega) (sg_2 s hs l (by omega) i hi (by omega) h3) ?_ (by rw [vd]; exact a2) (ih _ 2 (by omega) (by omega))
    rw [vd, okE, dn]; exact a1
  by_cases h4 : ((s[i].toNat : Nat) : Int) ≤ 239
  · obtain ⟨a1, a2⟩ := m3 s[i] ((bs s).drop (i + 1)) (by omega) h4
    refine sgis_of s l i k 3 _ _ hi (by omega) (sg_3 s hs l (by omega) i hi (by omega) h4) ?_ (by rw [vd]; exact a2) (ih _ 3 (by omega) (by omega))
    rw [vd, okE, dn]; exact a1
  by_cases h5 : ((s[i].toNat : Nat) : Int) ≤ 247
  · obtain ⟨a1, a2⟩ := m4 s[i] ((bs s).drop (i + 1)) (by omega) h5
    refine sgis_of s l i k 4 _ _ hi (by omega) (sg_4 s hs l (by omega) i hi (by omega) h5) ?_ (by rw [vd]; exact a2) (ih _ 4 (by omega) (by omega))
    rw [vd, okE, dn]; exact a1
  · exact sgis_bad s l i k hi (sg_bad2 s hs l i hi (by omega) (by omega)) (by rw [vd]; exact szc_10 _ (by rw [nb0]; omega) (by rw [nb0]; omega))
theorem sgis_all (s : ByteArray) (hs : s.size ≤ 2097152) : ∀ (k i : Nat) (l : List Int), s.size ≤ i + k → l.length ≤ i → SgIs s l i k
  | 0, i, l, h, hl => sgis_end s l i 0 (by omega)
  | k + 1, i, l, h, hl => by
    by_cases hi : s.size ≤ i
    · exact sgis_end s l i _ hi
    · exact sgis_step s hs l i k (by omega) hl fun c n h1 h2 => sgis_all s hs k (i + n) (l ++ [c]) (by omega) (by simp; omega)

theorem rsigns_bool (s : ByteArray) (hs : s.size ≤ 2097152) : ∃ x : D, ∀ hp, F tab 53 [.d (.str s)] hp = some (.ret (.tup [.d x, .d (.bool (validB s))]) hp) := by
  have hL := sgis_all s hs s.size 0 [] (by omega) (by simp)
  unfold SgIs at hL
  rw [List.drop_zero] at hL
  unfold validB
  rcases Bool.eq_false_or_eq_true (validF s.size (bs s)) with g | g
  · rw [if_pos g] at hL
    obtain ⟨l', hL⟩ := hL
    refine ⟨.sl (l'.map iv), fun hp => f53 rfl ?_⟩
    rw [g]
    simp (disch := omega) only [go_sem, r53_T, r53]
    rw [r53_B0_n, r53_B0_z4]
    erw [hL]
    simp (disch := omega) only [go_sem]
  · rw [if_neg (by simp [g])] at hL
    refine ⟨.sl [], fun hp => f53 rfl ?_⟩
    rw [g]
    simp (disch := omega) only [go_sem, r53_T, r53]
    rw [r53_B0_n, r53_B0_z4]
    erw [hL]
    simp (disch := omega) only [go_sem]
end Go.Pe.T

namespace Go.Pe.T
def nu (n : Nat) : D := .agg [iv 3, iv n, iv 0, .str ⟨#[]⟩, .sl [], .sl []]
theorem nis_ok (n : Nat) (h : n ≤ 100000) (hp : List Ent) : F tab 67 [.d (.agg [iv n, iv 0])] hp = some (.ret (.d (.bool true)) hp) := by
  have h1 : ((n : Int) ≤ -1000000000000000) = False := eq_false (by omega)
  have h2 : ((n : Int) ≥ 1000000000000000) = False := eq_false (by omega)
  refine f67 rfl ?_
  simp (disch := omega) only [go_sem, Int.reduceGT, Int.reduceGE, Int.reduceBNe, r67_T, r67, h1, h2]
theorem nmake_ok (n : Nat) (h : n ≤ 100000) (hp : List Ent) : F tab 118 [.d (iv n), .d (iv 0)] hp = some (.ret (.tup [.d (.agg [iv n, iv 0]), .d (iv 0)]) hp) := by
  have h1 := nis_ok n h
  refine f118 rfl ?_
  simp (disch := omega) only [go_sem, Int.reduceGT, Int.reduceGE, Int.reduceBNe, r118_T, r118]
  rw [r118_B0_n, r118_B0_eq]
  simp (disch := omega) only [go_sem, Int.reduceGT, Int.reduceGE, Int.reduceBNe, r118_C0, r118, h1]
theorem jint_ok (n : Nat) (h : n ≤ 100000) (hp : List Ent) : F tab 56 [.d (iv n)] hp = some (.ret (.d (nu n)) hp) := by
  have h1 := nmake_ok n h
  have h2 : ∀ hp, F tab 90 [.d (iv n)] hp = some (.ret (.tup [.d (.agg [iv n, iv 0]), .d (iv 0)]) hp) := by
    intro hp
    refine f90 rfl ?_
    simp (disch := omega) only [go_sem, Int.reduceGT, Int.reduceGE, Int.reduceBNe, r90_T, r90, h1]
  unfold nu
  refine f56 rfl ?_
  simp (disch := omega) only [go_sem, Int.reduceGT, Int.reduceGE, Int.reduceBNe, r56_T, r56, h2]
abbrev tru : D := .agg [iv 2, iv 0, iv 0, .str ⟨#[]⟩, .sl [], .sl []]
theorem truth_ok (hp : List Ent) : F tab 17 [.d (.bool true)] hp = some (.ret (.d tru) hp) := by
  refine f17 rfl ?_
  simp (disch := omega) only [go_sem, Int.reduceGT, Int.reduceGE, Int.reduceBNe, r17_T, r17]
theorem trim_ok (l : List UInt8) (h : l.length ≤ 100000) (hp : List Ent) : F tab 71 [.d (.str (bw l))] hp = some (.ret (.d (.str (bw (Lib.trimS l [32, 9, 10, 13])))) hp) := by
  have h1 := fun hp => f106 (s := bw l) (c := ⟨#[32, 9, 10, 13]⟩) (hp := hp) (by rw [bw_size]; omega) (by decide) (by decide)
  have e : (bw l).data.toList = l := bs_bw l
  rw [e] at h1
  refine f71 rfl ?_
  simp (disch := omega) only [go_sem, Int.reduceGT, Int.reduceGE, Int.reduceBNe, r71_T, r71, h1]
  rfl
theorem turned16 (l : List UInt8) (h : l.length ≤ 100000) (hp : List Ent) : F tab 39 [.d (iv 16), .d (tx (bw l))] hp = some (.ret (.d (tx (bw (l.map upC)))) hp) := by
  have h1 := upper_ok l (by omega)
  have h2 := text_ok (bw (l.map upC))
  generalize bw (l.map upC) = R at *
  refine f39 rfl ?_
  simp (disch := omega) only [go_sem, Int.reduceGT, Int.reduceGE, Int.reduceBNe, r39_T, r39, h1, h2]
theorem turned17 (l : List UInt8) (h : l.length ≤ 100000) (hp : List Ent) : F tab 39 [.d (iv 17), .d (tx (bw l))] hp = some (.ret (.d (tx (bw (l.map loC)))) hp) := by
  have h1 := lower_ok l (by omega)
  have h2 := text_ok (bw (l.map loC))
  generalize bw (l.map loC) = R at *
  refine f39 rfl ?_
  simp (disch := omega) only [go_sem, Int.reduceGT, Int.reduceGE, Int.reduceBNe, r39_T, r39, h1, h2]
theorem turned18 (l : List UInt8) (h : l.length ≤ 100000) (hp : List Ent) : F tab 39 [.d (iv 18), .d (tx (bw l))] hp = some (.ret (.d (tx (bw (Lib.trimS l [32, 9, 10, 13])))) hp) := by
  have h1 := trim_ok l h
  have h2 := text_ok (bw (Lib.trimS l [32, 9, 10, 13]))
  generalize bw (Lib.trimS l [32, 9, 10, 13]) = R at *
  refine f39 rfl ?_
  simp (disch := omega) only [go_sem, Int.reduceGT, Int.reduceGE, Int.reduceBNe, r39_T, r39, h1, h2]
theorem length_ok {L : List UInt8} {qs : List (List UInt8)} (hs : Sgs qs L) (hl : L.length ≤ 100000) (hp : List Ent) : F tab 29 [.d (tx (bw L))] hp = some (.ret (.d (nu qs.length)) hp) := by
  have h1 := signs_ok hs hl
  have h2 := jint_ok qs.length (by have := hs.len; omega)
  generalize bw L = R at *
  unfold nu at *
  refine f29 rfl ?_
  simp (disch := omega) only [go_sem, Int.reduceGT, Int.reduceGE, Int.reduceBNe, r29_T, r29, h1, h2]
def BareIs (k : Int) (b : ByteArray) (x : D) : Prop := ∀ hp, F tab 19 [.d (iv k), .d (tx b)] hp = some (.ret (.d x) hp)

theorem bare0 {L : List UInt8} {qs : List (List UInt8)} (hs : Sgs qs L) (hl : L.length ≤ 100000) : BareIs 0 (bw L) (nu qs.length) := by
  intro hp
  have h1 := length_ok hs hl
  generalize bw L = R at *
  unfold nu at *
  refine f19 rfl ?_
  simp (disch := omega) only [go_sem, Int.reduceGT, Int.reduceGE, Int.reduceBNe, r19_T, r19, h1]
theorem bare8 {L : List UInt8} {qs : List (List UInt8)} (hs : Sgs qs L) (hl : L.length ≤ 100000) : BareIs 8 (bw L) (tx (bw qs.reverse.flatten)) := by
  intro hp
  have h1 := reverse_ok hs hl
  generalize bw L = R at *
  generalize bw qs.reverse.flatten = R2 at *
  refine f19 rfl ?_
  simp (disch := omega) only [go_sem, Int.reduceGT, Int.reduceGE, Int.reduceBNe, r19_T, r19, h1]
theorem bare16 (l : List UInt8) (h : l.length ≤ 100000) : BareIs 16 (bw l) (tx (bw (l.map upC))) := by
  intro hp
  have h1 := turned16 l h
  generalize bw l = R at *
  generalize bw (l.map upC) = R2 at *
  refine f19 rfl ?_
  simp (disch := omega) only [go_sem, Int.reduceGT, Int.reduceGE, Int.reduceBNe, r19_T, r19, h1]
theorem bare17 (l : List UInt8) (h : l.length ≤ 100000) : BareIs 17 (bw l) (tx (bw (l.map loC))) := by
  intro hp
  have h1 := turned17 l h
  generalize bw l = R at *
  generalize bw (l.map loC) = R2 at *
  refine f19 rfl ?_
  simp (disch := omega) only [go_sem, Int.reduceGT, Int.reduceGE, Int.reduceBNe, r19_T, r19, h1]
theorem bare18 (l : List UInt8) (h : l.length ≤ 100000) : BareIs 18 (bw l) (tx (bw (Lib.trimS l [32, 9, 10, 13]))) := by
  intro hp
  have h1 := turned18 l h
  generalize bw l = R at *
  generalize bw (Lib.trimS l [32, 9, 10, 13]) = R2 at *
  refine f19 rfl ?_
  simp (disch := omega) only [go_sem, Int.reduceGT, Int.reduceGE, Int.reduceBNe, r19_T, r19, h1]
theorem starts_ok (b : ByteArray) (hb : b.size ≤ 100000) (hp : List Ent) : F tab 83 [.d (.str b), .d (.str ⟨#[]⟩)] hp = some (.ret (.d (.bool true)) hp) := by
  have e0 : (⟨#[]⟩ : ByteArray).size = 0 := rfl
  have h0 : ((b.size : Int) ≥ 0) = True := eq_true (by omega)
  have h1 : (0 ≤ (b.size : Int)) = True := eq_true (by omega)
  have h2 : b.extract 0 0 = ⟨#[]⟩ := by rw [ByteArray.extract_eq_empty_iff.2 (by simp)]; rfl
  generalize (⟨#[]⟩ : ByteArray) = E at *
  have g : ∀ hp, F tab 151 [.d (.str b), .d (.str E)] hp = some (.ret (.d (.bool true)) hp) := by
    intro hp
    refine f151 rfl ?_
    simp (disch := omega) only [go_sem, Int.reduceGT, Int.reduceGE, Int.reduceBNe, r151_T, r151, e0, h0, h1, h2, Int.ofNat_zero, Int.natCast_zero, strD, Int.le_refl, Int.toNat_zero]
  have g2 : ∀ hp, F tab 114 [.d (.str b), .d (.str E)] hp = some (.ret (.d (.bool true)) hp) := by
    intro hp
    refine f114 rfl ?_
    simp (disch := omega) only [go_sem, Int.reduceGT, Int.reduceGE, Int.reduceBNe, r114_T, r114, g]
  refine f83 rfl ?_
  simp (disch := omega) only [go_sem, Int.reduceGT, Int.reduceGE, Int.reduceBNe, r83_T, r83, g2]
theorem ends_ok (b : ByteArray) (hb : b.size ≤ 100000) (hp : List Ent) : F tab 84 [.d (.str b), .d (.str ⟨#[]⟩)] hp = some (.ret (.d (.bool true)) hp) := by
  have e0 : (⟨#[]⟩ : ByteArray).size = 0 := rfl
  have h0 : ((b.size : Int) ≥ 0) = True := eq_true (by omega)
  have h1 : (0 ≤ (b.size : Int)) = True := eq_true (by omega)
  have h2 : b.extract b.size b.size = ⟨#[]⟩ := by rw [ByteArray.extract_eq_empty_iff.2 (by simp)]; rfl
  generalize (⟨#[]⟩ : ByteArray) = E at *
  have g : ∀ hp, F tab 152 [.d (.str b), .d (.str E)] hp = some (.ret (.d (.bool true)) hp) := by
    intro hp
    refine f152 rfl ?_
    simp (disch := omega) only [go_sem, Int.reduceGT, Int.reduceGE, Int.reduceBNe, r152_T, r152, e0, h0, h1, h2, Int.ofNat_zero, Int.natCast_zero, strD, Int.le_refl, Int.sub_zero, w64]
  have g2 : ∀ hp, F tab 115 [.d (.str b), .d (.str E)] hp = some (.ret (.d (.bool true)) hp) := by
    intro hp
    refine f115 rfl ?_
    simp (disch := omega) only [go_sem, Int.reduceGT, Int.reduceGE, Int.reduceBNe, r115_T, r115, g]
  refine f84 rfl ?_
  simp (disch := omega) only [go_sem, Int.reduceGT, Int.reduceGE, Int.reduceBNe, r84_T, r84, g2]
theorem has_ok (b : ByteArray) (hp : List Ent) : F tab 85 [.d (.str b), .d (.str b)] hp = some (.ret (.d (.bool true)) hp) := by
  have g : ∀ hp, F tab 153 [.d (.str b), .d (.str b)] hp = some (.ret (.d (iv 0)) hp) := by
    intro hp
    refine f153 rfl ?_
    rcases Bool.eq_false_or_eq_true ((b.size : Int) == 0) with h | h
    · simp (disch := omega) only [go_sem, Int.reduceGT, Int.reduceGE, Int.reduceBNe, r153_T, r153, h]
    · simp (disch := omega) only [go_sem, Int.reduceGT, Int.reduceGE, Int.reduceBNe, r153_T, r153, h, strD]
  have g2 : ∀ hp, F tab 116 [.d (.str b), .d (.str b)] hp = some (.ret (.d (iv 0)) hp) := by
    intro hp
    refine f116 rfl ?_
    simp (disch := omega) only [go_sem, Int.reduceGT, Int.reduceGE, Int.reduceBNe, r116_T, r116, g]
  refine f85 rfl ?_
  simp (disch := omega) only [go_sem, Int.reduceGT, Int.reduceGE, Int.reduceBNe, r85_T, r85, g2]
def OneIs (k : Int) (b c : ByteArray) : Prop := ∀ hp, F tab 20 [.d (iv k), .d (tx b), .d (tx c)] hp = some (.ret (.d tru) hp)
theorem one23 (b : ByteArray) (hb : b.size ≤ 100000) : OneIs 23 b ⟨#[]⟩ := by
  intro hp
  have h1 := starts_ok b hb
  have h2 := truth_ok
  have g : ∀ hp, F tab 45 [.d (iv 23), .d (tx b), .d (tx ⟨#[]⟩)] hp = some (.ret (.d tru) hp) := by
    intro hp
    refine f45 rfl ?_
    simp (disch := omega) only [go_sem, Int.reduceGT, Int.reduceGE, Int.reduceBNe, r45_T, r45, h1, h2]
  refine f20 rfl ?_
  simp (disch := omega) only [go_sem, Int.reduceGT, Int.reduceGE, Int.reduceBNe, r20_T, r20, g]
theorem one24 (b : ByteArray) (hb : b.size ≤ 100000) : OneIs 24 b ⟨#[]⟩ := by
  intro hp
  have h1 := ends_ok b hb
  have h2 := truth_ok
  have g : ∀ hp, F tab 45 [.d (iv 24), .d (tx b), .d (tx ⟨#[]⟩)] hp = some (.ret (.d tru) hp) := by
    intro hp
    refine f45 rfl ?_
    simp (disch := omega) only [go_sem, Int.reduceGT, Int.reduceGE, Int.reduceBNe, r45_T, r45, h1, h2]
  refine f20 rfl ?_
  simp (disch := omega) only [go_sem, Int.reduceGT, Int.reduceGE, Int.reduceBNe, r20_T, r20, g]
theorem one25 (b : ByteArray) : OneIs 25 b b := by
  intro hp
  have h1 := has_ok b
  have h2 := truth_ok
  have g : ∀ hp, F tab 45 [.d (iv 25), .d (tx b), .d (tx b)] hp = some (.ret (.d tru) hp) := by
    intro hp
    refine f45 rfl ?_
    simp (disch := omega) only [go_sem, Int.reduceGT, Int.reduceGE, Int.reduceBNe, r45_T, r45, h1, h2]
  refine f20 rfl ?_
  simp (disch := omega) only [go_sem, Int.reduceGT, Int.reduceGE, Int.reduceBNe, r20_T, r20, g]
end Go.Pe.T

namespace Go.Pe.T
theorem ok_of {n f : Nat} {args : List PV} {v : PV} (hf : pf f = true) (h : evF tab n f args [] = some (.ret v [])) (hp : List Ent) : F tab f args hp = some (.ret v hp) :=
  F_some.2 ⟨n, ((evF_nice (pf := pf) pf_ok n).2 f hf _ _ _ _ h).2 hp⟩
theorem strict0 (k : Int) (b : ByteArray) (hp : List Ent) : F tab 14 [.d (iv k), .d (tx b), .d (.sl [])] hp = some (.ret (.tup [.d (.agg [iv 0, iv 0, iv 0, .str ⟨#[]⟩, .sl [], .sl []]), .d (.bool false)]) hp) := by
  refine f14 rfl ?_
  simp (disch := omega) only [go_sem, r14_T, r14]
  rw [r14_B0_n, r14_B0_eq]
  simp (disch := omega) only [go_sem, r14_C0, r14]
theorem strict1 (k : Int) (b c : ByteArray) (hp : List Ent) : F tab 14 [.d (iv k), .d (tx b), .d (.sl [tx c])] hp = some (.ret (.tup [.d (.agg [iv 0, iv 0, iv 0, .str ⟨#[]⟩, .sl [], .sl []]), .d (.bool false)]) hp) := by
  have n1 : ((0 : Int) < ((1 : Nat) : Int)) = True := eq_true (by omega)
  have n2 : ((0 : Int) + 1 < ((1 : Nat) : Int)) = False := eq_false (by omega)
  refine f14 rfl ?_
  simp (disch := omega) only [go_sem, r14_T, r14]
  rw [r14_B0_n, r14_B0_eq]
  simp (disch := omega) only [go_sem, n1, n2, r14_C0, r14, w64]
  rw [r14_B0_n, r14_B0_eq]
  simp (disch := omega) only [go_sem, n1, n2, r14_C0, r14]
def CallIs (k : Int) (b : ByteArray) (l : List D) (x : D) : Prop := ∀ hp, F tab 7 [.d (iv k), .d (tx b), .d (.sl l)] hp = some (.ret (.d x) hp)
theorem known0 (hp : List Ent) : F tab 12 [.d (iv 0), .d (iv 0)] hp = some (.ret (.d (.bool true)) hp) := by
  have h : evF tab 70 12 [.d (iv 0), .d (iv 0)] [] = some (.ret (.d (.bool true)) []) := by kernel_rfl
  exact ok_of rfl h hp
theorem known8 (hp : List Ent) : F tab 12 [.d (iv 8), .d (iv 0)] hp = some (.ret (.d (.bool true)) hp) := by
  have h : evF tab 70 12 [.d (iv 8), .d (iv 0)] [] = some (.ret (.d (.bool true)) []) := by kernel_rfl
  exact ok_of rfl h hp
theorem known16 (hp : List Ent) : F tab 12 [.d (iv 16), .d (iv 0)] hp = some (.ret (.d (.bool true)) hp) := by
  have h : evF tab 70 12 [.d (iv 16), .d (iv 0)] [] = some (.ret (.d (.bool true)) []) := by kernel_rfl
  exact ok_of rfl h hp
theorem known17 (hp : List Ent) : F tab 12 [.d (iv 17), .d (iv 0)] hp = some (.ret (.d (.bool true)) hp) := by
  have h : evF tab 70 12 [.d (iv 17), .d (iv 0)] [] = some (.ret (.d (.bool true)) []) := by kernel_rfl
  exact ok_of rfl h hp
theorem known18 (hp : List Ent) : F tab 12 [.d (iv 18), .d (iv 0)] hp = some (.ret (.d (.bool true)) hp) := by
  have h : evF tab 70 12 [.d (iv 18), .d (iv 0)] [] = some (.ret (.d (.bool true)) []) := by kernel_rfl
  exact ok_of rfl h hp
theorem known23 (hp : List Ent) : F tab 12 [.d (iv 23), .d (iv 1)] hp = some (.ret (.d (.bool true)) hp) := by
  have h : evF tab 70 12 [.d (iv 23), .d (iv 1)] [] = some (.ret (.d (.bool true)) []) := by kernel_rfl
  exact ok_of rfl h hp
theorem known24 (hp : List Ent) : F tab 12 [.d (iv 24), .d (iv 1)] hp = some (.ret (.d (.bool true)) hp) := by
  have h : evF tab 70 12 [.d (iv 24), .d (iv 1)] [] = some (.ret (.d (.bool true)) []) := by kernel_rfl
  exact ok_of rfl h hp
theorem known25 (hp : List Ent) : F tab 12 [.d (iv 25), .d (iv 1)] hp = some (.ret (.d (.bool true)) hp) := by
  have h : evF tab 70 12 [.d (iv 25), .d (iv 1)] [] = some (.ret (.d (.bool true)) []) := by kernel_rfl
  exact ok_of rfl h hp
theorem call0 {b : ByteArray} {n1 n2 n3 : Int} {s : ByteArray} {l1 l2 : List D} (h : BareIs 0 b (.agg [iv n1, iv n2, iv n3, .str s, .sl l1, .sl l2])) : CallIs 0 b [] (.agg [iv n1, iv n2, iv n3, .str s, .sl l1, .sl l2]) := by
  intro hp
  unfold BareIs at h
  have h1 := known0
  have h2 := strict0 0 b
  have e1 : ((1 : Nat) : Int) = 1 := rfl
  refine f7 rfl ?_
  simp (disch := omega) only [go_sem, Int.reduceGT, Int.reduceGE, Int.reduceBNe, r7_T, r7, h, h1, h2, e1, stbS]
theorem call8 {b : ByteArray} {n1 n2 n3 : Int} {s : ByteArray} {l1 l2 : List D} (h : BareIs 8 b (.agg [iv n1, iv n2, iv n3, .str s, .sl l1, .sl l2])) : CallIs 8 b [] (.agg [iv n1, iv n2, iv n3, .str s, .sl l1, .sl l2]) := by
  intro hp
  unfold BareIs at h
  have h1 := known8
  have h2 := strict0 8 b
  have e1 : ((1 : Nat) : Int) = 1 := rfl
  refine f7 rfl ?_
  simp (disch := omega) only [go_sem, Int.reduceGT, Int.reduceGE, Int.reduceBNe, r7_T, r7, h, h1, h2, e1, stbS]
theorem call16 {b : ByteArray} {n1 n2 n3 : Int} {s : ByteArray} {l1 l2 : List D} (h : BareIs 16 b (.agg [iv n1, iv n2, iv n3, .str s, .sl l1, .sl l2])) : CallIs 16 b [] (.agg [iv n1, iv n2, iv n3, .str s, .sl l1, .sl l2]) := by
  intro hp
  unfold BareIs at h
  have h1 := known16
  have h2 := strict0 16 b
  have e1 : ((1 : Nat) : Int) = 1 := rfl
  refine f7 rfl ?_
  simp (disch := omega) only [go_sem, Int.reduceGT, Int.reduceGE, Int.reduceBNe, r7_T, r7, h, h1, h2, e1, stbS]
theorem call17 {b : ByteArray} {n1 n2 n3 : Int} {s : ByteArray} {l1 l2 : List D} (h : BareIs 17 b (.agg [iv n1, iv n2, iv n3, .str s, .sl l1, .sl l2])) : CallIs 17 b [] (.agg [iv n1, iv n2, iv n3, .str s, .sl l1, .sl l2]) := by
  intro hp
  unfold BareIs at h
  have h1 := known17
  have h2 := strict0 17 b
  have e1 : ((1 : Nat) : Int) = 1 := rfl
  refine f7 rfl ?_
  simp (disch := omega) only [go_sem, Int.reduceGT, Int.reduceGE, Int.reduceBNe, r7_T, r7, h, h1, h2, e1, stbS]
theorem call18 {b : ByteArray} {n1 n2 n3 : Int} {s : ByteArray} {l1 l2 : List D} (h : BareIs 18 b (.agg [iv n1, iv n2, iv n3, .str s, .sl l1, .sl l2])) : CallIs 18 b [] (.agg [iv n1, iv n2, iv n3, .str s, .sl l1, .sl l2]) := by
  intro hp
  unfold BareIs at h
  have h1 := known18
  have h2 := strict0 18 b
  have e1 : ((1 : Nat) : Int) = 1 := rfl
  refine f7 rfl ?_
  simp (disch := omega) only [go_sem, Int.reduceGT, Int.reduceGE, Int.reduceBNe, r7_T, r7, h, h1, h2, e1, stbS]
theorem call23 {b c : ByteArray} (h : OneIs 23 b c) : CallIs 23 b [tx c] tru := by
  intro hp
  unfold OneIs at h
  have h1 := known23
  have h2 := strict1 23 b c
  have e1 : ((1 : Nat) : Int) = 1 := rfl
  refine f7 rfl ?_
  simp (disch := omega) only [go_sem, Int.reduceGT, Int.reduceGE, Int.reduceBNe, r7_T, r7, h, h1, h2, e1, stbS]
theorem call24 {b c : ByteArray} (h : OneIs 24 b c) : CallIs 24 b [tx c] tru := by
  intro hp
  unfold OneIs at h
  have h1 := known24
  have h2 := strict1 24 b c
  have e1 : ((1 : Nat) : Int) = 1 := rfl
  refine f7 rfl ?_
  simp (disch := omega) only [go_sem, Int.reduceGT, Int.reduceGE, Int.reduceBNe, r7_T, r7, h, h1, h2, e1, stbS]
theorem call25 {b c : ByteArray} (h : OneIs 25 b c) : CallIs 25 b [tx c] tru := by
  intro hp
  unfold OneIs at h
  have h1 := known25
  have h2 := strict1 25 b c
  have e1 : ((1 : Nat) : Int) = 1 := rfl
  refine f7 rfl ?_
  simp (disch := omega) only [go_sem, Int.reduceGT, Int.reduceGE, Int.reduceBNe, r7_T, r7, h, h1, h2, e1, stbS]
theorem same_ok (k c s : Int) (t : ByteArray) (hp : List Ent) : F tab 8 [.d (.agg [iv k, iv c, iv s, .str t, .sl [], .sl []]), .d (.agg [iv k, iv c, iv s, .str t, .sl [], .sl []])] hp = some (.ret (.d (.bool true)) hp) := by
  have h1 : (k != k) = false := by simp
  have h2 : (c == c) = true := by simp
  have h3 : (s == s) = true := by simp
  have e0 : ((0 : Int) != 0) = false := rfl
  refine f8 rfl ?_
  simp (disch := omega) only [go_sem, Int.reduceGT, Int.reduceGE, Int.reduceBNe, r8_T, r8, h1, h2, h3, eqD, eqDs, strD, Bool.not_true, ETy.part]
  rw [r8_B0_n, r8_B0_eq]
  simp (disch := omega) only [go_sem, r8_C0, r8]
  rw [r8_B1_n, r8_B1_eq]
  simp (disch := omega) only [go_sem, r8_C1, r8]
theorem lives21_ok (hp : List Ent) : F tab 6 [] hp = some (.ret (.d (.bool true)) hp) := by
  have h : evF tab 70 6 [] [] = some (.ret (.d (.bool true)) []) := by kernel_rfl
  exact ok_of rfl h hp
end Go.Pe.T

namespace Go.Pe.T
theorem zero_t (t : ByteArray) (hp : List Ent) : F tab 52 [.d (tx t)] hp = some (.ret (.d (.bool true)) hp) := by
  refine f52 rfl ?_
  simp (disch := omega) only [go_sem, Int.reduceGT, Int.reduceGE, Int.reduceBNe, r52_T, r52, strD, Bool.not_true]
theorem is_t (t : ByteArray) (ht : t.size ≤ 2097152) (hp : List Ent) : F tab 25 [.d (tx t), .d (iv 0)] hp = some (.ret (.d (.bool (validB t))) hp) := by
  have h1 := zero_t t
  obtain ⟨x, h2⟩ := rsigns_bool t ht
  refine f25 rfl ?_
  cases h : validB t <;> rw [h] at h2
  · simp (disch := omega) only [go_sem, Int.reduceGT, Int.reduceGE, Int.reduceBNe, r25_T, r25, h1, h2]
  · simp (disch := omega) only [go_sem, Int.reduceGT, Int.reduceGE, Int.reduceBNe, r25_T, r25, h1, h2]
    rw [r25_B0_n, r25_B0_eq]
    simp (disch := omega) only [go_sem, r25_C0]
    rw [r25_B1_n, r25_B1_eq]
    simp (disch := omega) only [go_sem, r25_C1, r25]
theorem sound_t (t : ByteArray) (ht : t.size ≤ 2097152) (hp : List Ent) : F tab 10 [.d (tx t)] hp = some (.ret (.d (.bool (validB t))) hp) := by
  have h1 := is_t t ht
  refine f10 rfl ?_
  simp (disch := omega) only [go_sem, Int.reduceGT, Int.reduceGE, Int.reduceBNe, r10_T, r10]
  rw [r10_B0_n, r10_B0_eq]
  cases h : validB t
  · rw [h] at h1
    simp (disch := omega) only [go_sem, r10_C0, h1]
  · rw [h] at h1
    simp (disch := omega) only [go_sem, r10_C0, h1]
    rw [r10_B1_n, r10_B1_eq]
    simp (disch := omega) only [go_sem, r10_C1, r10]
theorem size_t (t : ByteArray) (hp : List Ent) : F tab 23 [.d (tx t), .d (iv 0), .d (iv 5001)] hp = some (.ret (.d (iv 1)) hp) := by
  refine f23 rfl ?_
  simp (disch := omega) only [go_sem, Int.reduceGT, Int.reduceGE, Int.reduceBNe, r23_T, r23, w64]
  rw [r23_B0_n, r23_B0_eq]
  simp (disch := omega) only [go_sem, r23_C0, r23]
  rfl
theorem flat_t (t : ByteArray) (hp : List Ent) : F tab 24 [.d (tx t), .d (iv 60)] hp = some (.ret (.d (.bool true)) hp) := by
  refine f24 rfl ?_
  simp (disch := omega) only [go_sem, Int.reduceGT, Int.reduceGE, Int.reduceBNe, r24_T, r24]
  rw [r24_B0_n, r24_B0_eq]
  simp (disch := omega) only [go_sem, r24_C0, r24]
theorem light_t (t : ByteArray) (hp : List Ent) : F tab 9 [.d (tx t), .d (iv 5000)] hp = some (.ret (.d (.bool true)) hp) := by
  have h1 := size_t t
  have h2 := flat_t t
  have e1 : IntKind.i64.wrap (5000 + 1) = 5001 := by decide
  refine f9 rfl ?_
  simp (disch := omega) only [go_sem, Int.reduceGT, Int.reduceGE, Int.reduceBNe, r9_T, r9, e1, h1, h2]
theorem light21_t (t : ByteArray) (ht : t.size ≤ 2097152) (hp : List Ent) : F tab 5 [.d (.sl [tx t])] hp = some (.ret (.d (.bool (validB t))) hp) := by
  have h1 := light_t t
  have h2 := sound_t t ht
  have e1 : ((1 : Nat) : Int) = 1 := rfl
  have e2 : (0 : Int) + 1 = 1 := rfl
  refine f5 rfl ?_
  simp (disch := omega) only [go_sem, Int.reduceGT, Int.reduceGE, Int.reduceBNe, r5_T, r5]
  rw [r5_B0_n, r5_B0_eq]
  cases h : validB t
  · rw [h] at h2
    simp (disch := omega) only [go_sem, r5_C0, h1, h2, e1]
  · rw [h] at h2
    simp (disch := omega) only [go_sem, r5_C0, h1, h2, e1, w64]
    rw [r5_B0_n, r5_B0_eq]
    simp (disch := omega) only [go_sem, r5_C0, e1, e2, r5]
end Go.Pe.T

namespace Go.Pe.T
theorem trimS_len (l cs : List UInt8) : (Lib.trimS l cs).length ≤ l.length := by
  have h1 : ∀ (m : List UInt8), (Lib.trimLeftS m cs).length ≤ m.length := fun m => dw_len _ m
  have h2 : ∀ (m : List UInt8), (Lib.trimRightS m cs).length ≤ m.length := by
    intro m
    have := dw_len (fun b => cs.contains b) m.reverse
    unfold Lib.trimRightS
    simp only [List.length_reverse] at this ⊢
    exact this
  exact Nat.le_trans (h1 _) (h2 _)
theorem st_valid (L : List UInt8) (hl : L.length ≤ 2000) (hv : validB (bw L) = true) (hp : List Ent) : F tab 3 [.d (.str (bw L))] hp = some (.ret (.d (.bool true)) hp) := by
  have hlight := light21_t (bw L) (by rw [bw_size]; omega)
  rw [hv] at hlight
  obtain ⟨qs, hs⟩ : ∃ qs, Sgs qs L := by
    unfold validB at hv
    rw [bs_bw] at hv
    exact sgs_validF _ L (by rw [bw_size]; omega) hv
  have hr := sgs_rev hs
  have hrl : qs.reverse.flatten.length = L.length := by
    rw [hs.flat, List.length_flatten, List.length_flatten, List.map_reverse, List.sum_reverse]
  have hsize := bw_size L
  have c8 := call8 (bare8 hs (by omega))
  have c8' := call8 (bare8 hr (by omega))
  rw [List.reverse_reverse, ← hs.flat] at c8'
  have c0 := call0 (bare0 hs (by omega))
  have c0' := call0 (bare0 hr (by omega))
  rw [List.length_reverse] at c0'
  have c16 := call16 (bare16 L (by omega))
  have c17 := call17 (bare17 L (by omega))
  have c16' := call16 (bare16 (L.map loC) (by rw [List.length_map]; omega))
  have e16 : (L.map loC).map upC = L.map upC := by
    rw [List.map_map]
    exact List.map_congr_left fun c _ => up_lo c
  rw [e16] at c16'
  have c18 := call18 (bare18 L (by omega))
  have c18' := call18 (bare18 (Lib.trimS L [32, 9, 10, 13]) (by have := trimS_len L [32, 9, 10, 13]; omega))
  rw [trim_twice] at c18'
  have c23 := call23 (one23 (bw L) (by omega))
  have c24 := call24 (one24 (bw L) (by omega))
  have c25 := call25 (one25 (bw L))
  have t1 := rtext_ok (bw L)
  have t0 := rtext_ok ⟨#[]⟩
  have hz := lives21_ok
  have s1 := same_ok
  unfold CallIs at *
  clear hs hr hrl e16
  generalize bw qs.reverse.flatten = A1 at *
  generalize bw (L.map loC) = A2 at *
  generalize bw (L.map upC) = A3 at *
  generalize bw (Lib.trimS L [32, 9, 10, 13]) = A4 at *
  generalize qs.length = n at *
  have hlen : (((bw L).size : Int) > 2000) = False := eq_false (by omega)
  generalize bw L = B at *
  refine f3 rfl ?_
  simp (maxSteps := 2000000) (disch := omega) only [go_sem, Int.reduceGT, Int.reduceGE, Int.reduceBNe, r3_T, r3, t1, t0, hlen, hlight, hz, s1, c8, c8', c0, c0', c16, c16', c17, c18, c18', c23, c24, c25, Bool.not_true]
theorem st_bad (L : List UInt8) (hl : L.length ≤ 2000) (hv : validB (bw L) = false) (hp : List Ent) : F tab 3 [.d (.str (bw L))] hp = some (.ret (.d (.bool true)) hp) := by
  have hlight := light21_t (bw L) (by rw [bw_size]; omega)
  rw [hv] at hlight
  have hsize := bw_size L
  have t1 := rtext_ok (bw L)
  have hz := lives21_ok
  have hlen : (((bw L).size : Int) > 2000) = False := eq_false (by omega)
  generalize bw L = B at *
  refine f3 rfl ?_
  simp (maxSteps := 2000000) (disch := omega) only [go_sem, Int.reduceGT, Int.reduceGE, Int.reduceBNe, r3_T, r3, t1, hlen, hlight, hz, Bool.not_false]
theorem st_long (L : List UInt8) (hl : 2000 < L.length) (hp : List Ent) : F tab 3 [.d (.str (bw L))] hp = some (.ret (.d (.bool true)) hp) := by
  have hsize := bw_size L
  have t1 := rtext_ok (bw L)
  have hz := lives21_ok
  have hlen : (((bw L).size : Int) > 2000) = True := eq_true (by omega)
  generalize bw L = B at *
  refine f3 rfl ?_
  simp (maxSteps := 2000000) (disch := omega) only [go_sem, Int.reduceGT, Int.reduceGE, Int.reduceBNe, r3_T, r3, t1, hlen, hz]
theorem ShelfTurns_ok (s : ByteArray) (_ : s.size ≤ maxLen) (hp : List Ent) : F tab 3 [.d (.str s)] hp = some (.ret (.d (.bool true)) hp) := by
  rw [← bw_bs s]
  by_cases h : (bs s).length ≤ 2000
  · rcases Bool.eq_false_or_eq_true (validB (bw (bs s))) with g | g
    · exact st_valid _ h g hp
    · exact st_bad _ h g hp
  · exact st_long _ (by omega) hp
end Go.Pe.T
