/- A part of the proof of: The tokens of any query, or where it is wrong, and how, are the document's, one by one (LexTokens); no condition beyond the statement's own. -/
import Derived.Test.YtgcpkhhopjhpiaaDoorLt3
set_option linter.unusedSimpArgs false
set_option linter.unusedVariables false
set_option maxRecDepth 10000
set_option maxRecDepth 100000

namespace Go.Pe.T
theorem u8_of (b : UInt8) : ((b.toNat : Int)).toNat.toUInt8 = b := by simp
theorem bs_bt (L : List UInt8) : bs (bt L) = L := by simp [bs, bt]
theorem bt_from (L : List UInt8) (i n : Nat) (h : n = L.length) : (bt L).extract i n = bt (L.drop i) := by
  subst h
  rw [bt_ext, List.take_of_length_le (Nat.le_refl _)]
theorem bt_to (L : List UInt8) (j : Nat) : (bt L).extract 0 j = bt (L.take j) := by rw [bt_ext]; rfl
theorem sib_ok (L : List UInt8) (b : UInt8) (hp : List Ent) : F tab 34 [.d (.str (bt L)), .d (.int .u8 (b.toNat : Int))] hp = some (.ret (.d (iv (Lib.indexByte L b))) hp) := by
  have h := f34 (s := bt L) (c := (b.toNat : Int)) (hp := hp)
  rw [u8_of] at h
  have e : (bt L).data.toList = L := by simp [bt]
  rw [e] at h
  exact h
theorem ib_ok (L : List UInt8) (b : UInt8) (hp : List Ent) : F tab 19 [.d (.str (bt L)), .d (.int .u8 (b.toNat : Int))] hp = some (.ret (.d (iv (Lib.indexByte L b))) hp) := by
  have h := sib_ok L b
  refine f19 rfl ?_
  simp only [go_sem, r19_T, r19, h]
theorem ib_iff : ∀ (l : List UInt8) (c : UInt8), 0 ≤ Lib.indexByte l c ↔ c ∈ l
  | [], c => by simp [Lib.indexByte]
  | b :: l, c => by
    have ih := ib_iff l c
    have hg := Lib.indexByte_ge l c
    unfold Lib.indexByte
    by_cases h : b = c
    · subst h; simp
    · have h' : (b == c) = false := by simpa using h
      rw [h']
      simp only [Bool.false_eq_true, if_false]
      by_cases h1 : Lib.indexByte l c = -1
      · rw [if_pos (by simp [h1])]
        constructor
        · intro h2; omega
        · intro h2
          rcases List.mem_cons.1 h2 with h3 | h3
          · exact absurd h3.symm h
          · have := ih.2 h3; omega
      · rw [if_neg (by simp [h1])]
        constructor
        · intro _; exact List.mem_cons_of_mem _ (ih.1 (by omega))
        · intro _; omega
def isWs (c : UInt8) : Bool := [32, 9, 10, 13].contains c
def blkA : Bool → List UInt8 → Nat
  | _, [] => 0
  | false, c :: r => if isWs c then blkA false r + 1 else if c == 35 then blkA true r + 1 else 0
  | true, c :: r => if c == 10 then blkA false r + 1 else blkA true r + 1
theorem blkA_le : ∀ (m : Bool) (l : List UInt8), blkA m l ≤ l.length
  | _, [] => by simp [blkA]
  | false, c :: r => by
    have h1 := blkA_le false r
    have h2 := blkA_le true r
    simp only [blkA, List.length_cons]
    split
    · omega
    · split <;> omega
  | true, c :: r => by
    have h1 := blkA_le false r
    have h2 := blkA_le true r
    simp only [blkA, List.length_cons]
    split <;> omega
theorem blk_nl (r : List UInt8) : blkA false (10 :: r) = blkA false r + 1 := by
  have : isWs 10 = true := by decide
  simp [blkA, this]
theorem blk_cm : ∀ (r : List UInt8), (Lib.indexByte r 10 < 0 → blkA true r = r.length) ∧ (0 ≤ Lib.indexByte r 10 → ∃ k : Nat, Lib.indexByte r 10 = k ∧ k < r.length ∧ blkA true r = k + blkA false (r.drop k))
  | [] => by simp [Lib.indexByte, blkA]
  | c :: r => by
    obtain ⟨h1, h2⟩ := blk_cm r
    have hg := Lib.indexByte_ge r 10
    unfold Lib.indexByte
    by_cases h : c = 10
    · subst h
      simp only [beq_self_eq_true, if_true]
      refine ⟨fun h => absurd h (by decide), fun _ => ⟨0, rfl, by simp, ?_⟩⟩
      rw [List.drop_zero, blk_nl]
      simp [blkA]
    · have h' : (c == 10) = false := by simpa using h
      rw [h']
      simp only [Bool.false_eq_true, if_false]
      by_cases h3 : Lib.indexByte r 10 = -1
      · rw [if_pos (by simp [h3])]
        refine ⟨fun _ => ?_, fun h => absurd h (by decide)⟩
        simp only [blkA, h', Bool.false_eq_true, if_false, List.length_cons]
        rw [h1 (by omega)]
      · rw [if_neg (by simp [h3])]
        refine ⟨fun h => absurd h (by omega), fun _ => ?_⟩
        obtain ⟨k, k1, k2, k3⟩ := h2 (by omega)
        refine ⟨k + 1, by rw [k1]; rfl, by simp; omega, ?_⟩
        simp only [blkA, h', Bool.false_eq_true, if_false, List.drop_succ_cons]
        omega
def BlIs (L : List UInt8) (i : Nat) : Prop :=
  V (F tab) r10_B0 (r10_S0 (.d (.str (bt L))) (.d (iv i)) []) = some (.norm, r10_E0 (.d (iv ((i + blkA false (L.drop i) : Nat) : Int))) []) ∨
  V (F tab) r10_B0 (r10_S0 (.d (.str (bt L))) (.d (iv i)) []) = some (.ret, r10_R (.d (iv ((i + blkA false (L.drop i) : Nat) : Int))) [])
theorem bl_end (L : List UInt8) : BlIs L L.length := by
  have h1 : ((L.length : Int) < (L.length : Int)) = False := eq_false (by omega)
  have hz := bt_size L
  refine .inl ?_
  rw [List.drop_of_length_le (Nat.le_refl _), r10_B0_eq]
  simp (disch := omega) only [go_sem, r10_C0, hz, h1, blkA, Nat.add_zero]
theorem bl_step (L : List UInt8) (hl : L.length ≤ 100000) (i : Nat) (hi : i < L.length) (ih : ∀ k : Nat, 0 < k → i + k ≤ L.length → BlIs L (i + k)) : BlIs L i := by
  have h1 : ((i : Int) < (L.length : Int)) = True := eq_true (by omega)
  have i0 : (0 ≤ (i : Int)) = True := eq_true (by omega)
  have hz := bt_size L
  have hx : L[i]? = some L[i] := List.getElem?_eq_getElem hi
  have hd : L.drop i = L[i] :: L.drop (i + 1) := List.drop_eq_getElem_cons hi
  have hg := bt_get L i
  rw [hx] at hg
  have hws := ib_ok [32, 9, 10, 13] L[i]
  have hcm : ∀ hp : List Ent, F tab 19 [.d (.str (bt (L.drop i))), .d (.int .u8 10)] hp = some (.ret (.d (iv (Lib.indexByte (L.drop i) 10))) hp) := ib_ok (L.drop i) 10
  have h6 : ((L.length : Int) ≤ (L.length : Int)) = True := eq_true (by omega)
  have hm := ib_iff [32, 9, 10, 13] L[i]
  have e1 : (i : Int) + 1 = ((i + 1 : Nat) : Int) := rfl
  have hbd := blkA_le false (L.drop (i + 1))
  rcases Bool.eq_false_or_eq_true (isWs L[i]) with g | g
  · have k1 : (Lib.indexByte [32, 9, 10, 13] L[i] ≥ 0) = True := eq_true (hm.2 (by simpa [isWs] using g))
    have hb : blkA false (L.drop i) = blkA false (L.drop (i + 1)) + 1 := by rw [hd]; simp only [blkA, g, if_true]
    have ih1 := ih 1 (by omega) (by omega)
    unfold BlIs at ih1 ⊢
    rw [hb, show i + (blkA false (L.drop (i + 1)) + 1) = i + 1 + blkA false (L.drop (i + 1)) by omega]
    rcases ih1 with ih1 | ih1
    · refine .inl ?_
      rw [r10_B0_eq]
      simp (disch := omega) only [go_sem, r10_C0, hz, h1, i0, hg, hws, k1, e1, w64]
      exact ih1
    · refine .inr ?_
      rw [r10_B0_eq]
      simp (disch := omega) only [go_sem, r10_C0, hz, h1, i0, hg, hws, k1, e1, w64]
      exact ih1
  · have k1 : (Lib.indexByte [32, 9, 10, 13] L[i] ≥ 0) = False := eq_false (fun h => by have h' := hm.1 h; rw [isWs, List.contains_eq_mem, decide_eq_false_iff_not] at g; exact g h')
    rcases Bool.eq_false_or_eq_true (L[i] == 35) with g2 | g2
    · have k2 : (((L[i].toNat : Nat) : Int) == 35) = true := by have := (beq_iff_eq.1 g2); rw [this]; rfl
      have hb : blkA false (L.drop i) = blkA true (L.drop (i + 1)) + 1 := by rw [hd]; simp only [blkA, g, g2, Bool.false_eq_true, if_false, if_true]
      have hne : (L[i] == 10) = false := by have := (beq_iff_eq.1 g2); rw [this]; decide
      obtain ⟨c1, c2⟩ := blk_cm (L.drop (i + 1))
      have hi' : Lib.indexByte (L.drop i) 10 = if Lib.indexByte (L.drop (i + 1)) 10 == -1 then -1 else Lib.indexByte (L.drop (i + 1)) 10 + 1 := by
        rw [hd, Lib.indexByte, hne]
        simp only [Bool.false_eq_true, if_false]
      have hge := Lib.indexByte_ge (L.drop (i + 1)) 10
      by_cases g3 : Lib.indexByte (L.drop (i + 1)) 10 = -1
      · rw [if_pos (by simp [g3])] at hi'
        have k3 : (Lib.indexByte (L.drop i) 10 < 0) = True := eq_true (by omega)
        have hlen : i + blkA false (L.drop i) = L.length := by rw [hb, c1 (by omega)]; simp; omega
        unfold BlIs
        rw [hlen]
        refine .inr ?_
        have hcut : (bt L).extract i L.length = bt (L.drop i) := bt_from L i _ rfl
        have h5 : ((i : Int) ≤ (L.length : Int)) = True := eq_true (by omega)
        rw [r10_B0_eq]
        simp (disch := omega) only [go_sem, r10_C0, hz, h1, h5, h6, i0, hg, hws, k1, k2, hcut, hcm, k3]
      · rw [if_neg (by simp [g3])] at hi'
        obtain ⟨k, q1, q2, q3⟩ := c2 (by omega)
        have k3 : (Lib.indexByte (L.drop i) 10 < 0) = False := eq_false (by omega)
        have hq2 : k < L.length - (i + 1) := by simpa using q2
        have ih1 := ih (k + 1) (by omega) (by omega)
        have hdd : (L.drop (i + 1)).drop k = L.drop (i + (k + 1)) := by rw [List.drop_drop]; congr 1; omega
        have hcut : (bt L).extract i L.length = bt (L.drop i) := bt_from L i _ rfl
        have h5 : ((i : Int) ≤ (L.length : Int)) = True := eq_true (by omega)
        have e2 : (i : Int) + Lib.indexByte (L.drop i) 10 = ((i + (k + 1) : Nat) : Int) := by rw [hi', q1]; omega
        unfold BlIs at ih1 ⊢
        rw [hb, q3, hdd, show i + (k + blkA false (L.drop (i + (k + 1))) + 1) = i + (k + 1) + blkA false (L.drop (i + (k + 1))) by omega]
        rcases ih1 with ih1 | ih1
        · refine .inl ?_
          rw [r10_B0_eq]
          simp (disch := omega) only [go_sem, r10_C0, hz, h1, h5, h6, i0, hg, hws, k1, k2, hcut, hcm, k3, e2, w64]
          exact ih1
        · refine .inr ?_
          rw [r10_B0_eq]
          simp (disch := omega) only [go_sem, r10_C0, hz, h1, h5, h6, i0, hg, hws, k1, k2, hcut, hcm, k3, e2, w64]
          exact ih1
    · have k2 : (((L[i].toNat : Nat) : Int) == 35) = false := by
        have h3 : L[i] ≠ 35 := by simpa using g2
        have h4 : L[i].toNat ≠ 35 := fun h => h3 (UInt8.toNat_inj.1 h)
        simp; omega
      have hb : blkA false (L.drop i) = 0 := by rw [hd]; simp only [blkA, g, g2, Bool.false_eq_true, if_false]
      unfold BlIs
      rw [hb, Nat.add_zero]
      refine .inr ?_
      rw [r10_B0_eq]
      simp (disch := omega) only [go_sem, r10_C0, hz, h1, i0, hg, hws, k1, k2]
theorem bl_loop (L : List UInt8) (hl : L.length ≤ 100000) : ∀ (n i : Nat), L.length - i ≤ n → i ≤ L.length → BlIs L i
  | 0, i, h, hi => by rw [show i = L.length by omega]; exact bl_end L
  | n + 1, i, h, hi => by
    by_cases e : i = L.length
    · subst e; exact bl_end L
    · exact bl_step L hl i (by omega) fun k hk hle => bl_loop L hl n (i + k) (by omega) hle
theorem blanks_ok (L : List UInt8) (hl : L.length ≤ 100000) (hp : List Ent) : F tab 10 [.d (.str (bt L))] hp = some (.ret (.d (iv ((blkA false L : Nat) : Int))) hp) := by
  have h := bl_loop L hl L.length 0 (by omega) (by omega)
  unfold BlIs at h
  rw [List.drop_zero, Nat.zero_add] at h
  refine f10 rfl ?_
  rcases h with h | h
  · simp (disch := omega) only [go_sem, r10_T, r10]
    rw [r10_B0_n]
    erw [h]
    simp only [go_sem]
  · simp (disch := omega) only [go_sem, r10_T, r10]
    rw [r10_B0_n]
    erw [h]
    simp only [go_sem]
def dgN (L : List UInt8) (i : Nat) : Nat := ((L.drop i).takeWhile isDg).length
theorem digB_dg (b : UInt8) : digB ((b.toNat : Nat) : Int) = isDg b := by
  unfold digB isDg
  have h1 : decide (((b.toNat : Nat) : Int) ≥ 48) = decide (48 ≤ b.toNat) := by by_cases h : 48 ≤ b.toNat <;> simp [h] <;> omega
  have h2 : decide (((b.toNat : Nat) : Int) ≤ 57) = decide (b.toNat ≤ 57) := by by_cases h : b.toNat ≤ 57 <;> simp [h] <;> omega
  rw [h1, h2]
theorem dgN_le (L : List UInt8) (i : Nat) : dgN L i ≤ L.length - i := by
  have := tw_le (L.drop i)
  unfold dgN
  simpa using this
def RwIs (L : List UInt8) (i n : Nat) : Prop :=
  V (F tab) r42_B0 (r42_S0 (.d (.str (bt L))) (.d (iv i)) (.d (iv n)) []) = some (.norm, r42_E0 (.d (iv ((n + ((L.drop (i + n)).takeWhile isDg).length : Nat) : Int))) [])
theorem rw_end (L : List UInt8) (i n : Nat) (h : L.length ≤ i + n) (hb : i + n ≤ 1000000) : RwIs L i n := by
  have h1 : (((i + n : Nat) : Int) < (L.length : Int)) = False := eq_false (by omega)
  have e1 : (i : Int) + (n : Int) = ((i + n : Nat) : Int) := rfl
  have hz := bt_size L
  unfold RwIs
  rw [List.drop_of_length_le h, r42_B0_eq]
  simp (disch := omega) only [go_sem, r42_C0, hz, w64, e1, h1, List.takeWhile_nil, List.length_nil, Nat.add_zero]
theorem rw_step (L : List UInt8) (hl : L.length ≤ 100000) (i n : Nat) (h : i + n < L.length) (ih : RwIs L i (n + 1)) : RwIs L i n := by
  have h1 : (((i + n : Nat) : Int) < (L.length : Int)) = True := eq_true (by omega)
  have e1 : (i : Int) + (n : Int) = ((i + n : Nat) : Int) := rfl
  have e2 : (n : Int) + 1 = ((n + 1 : Nat) : Int) := rfl
  have i0 : (0 ≤ ((i + n : Nat) : Int)) = True := eq_true (by omega)
  have hz := bt_size L
  have hx : L[i + n]? = some L[i + n] := List.getElem?_eq_getElem h
  have hd : L.drop (i + n) = L[i + n] :: L.drop (i + n + 1) := List.drop_eq_getElem_cons h
  have hg := bt_get L (i + n)
  rw [hx] at hg
  have hdig := digit_ok ((L[i + n].toNat : Nat) : Int)
  rw [digB_dg] at hdig
  unfold RwIs at ih ⊢
  rw [hd, List.takeWhile_cons]
  rcases Bool.eq_false_or_eq_true (isDg L[i + n]) with g | g
  · rw [g] at hdig ⊢
    rw [if_pos rfl, List.length_cons, show n + (((L.drop (i + n + 1)).takeWhile isDg).length + 1) = n + 1 + ((L.drop (i + n + 1)).takeWhile isDg).length by omega]
    rw [show i + (n + 1) = i + n + 1 by omega] at ih
    rw [r42_B0_eq]
    simp (disch := omega) only [go_sem, r42_C0, hz, w64, e1, e2, h1, i0, hg, hdig]
    exact ih
  · rw [g] at hdig ⊢
    rw [if_neg (by simp), List.length_nil, Nat.add_zero, r42_B0_eq]
    simp (disch := omega) only [go_sem, r42_C0, hz, w64, e1, h1, i0, hg, hdig]
theorem rw_loop (L : List UInt8) (hl : L.length ≤ 100000) (i : Nat) (hi : i ≤ 100001) : ∀ (d n : Nat), L.length - (i + n) ≤ d → i + n ≤ 200002 → RwIs L i n
  | 0, n, h, hb => rw_end L i n (by omega) (by omega)
  | d + 1, n, h, hb => by
    by_cases e : L.length ≤ i + n
    · exact rw_end L i n e (by omega)
    · exact rw_step L hl i n (by omega) (rw_loop L hl i hi d (n + 1) (by omega) (by omega))
theorem lrow_ok (L : List UInt8) (hl : L.length ≤ 100000) (i : Nat) (hi : i ≤ 100001) (hp : List Ent) : F tab 42 [.d (.str (bt L)), .d (iv i)] hp = some (.ret (.d (iv ((dgN L i : Nat) : Int))) hp) := by
  have h := rw_loop L hl i hi (L.length - i) 0 (by omega) (by omega)
  unfold RwIs at h
  rw [Nat.add_zero, Nat.zero_add] at h
  have h : V (F tab) r42_B0 (r42_S0 (.d (.str (bt L))) (.d (iv i)) (.d (iv 0)) []) = _ := h
  refine f42 rfl ?_
  simp (disch := omega) only [go_sem, r42_T, r42]
  rw [r42_B0_n]
  erw [h]
  simp only [go_sem, dgN]
end Go.Pe.T

namespace Go.Pe.T
def dotAt (L : List UInt8) (i : Nat) : Bool := match L[i]? with | some c => c == 46 | none => false
def eAt (L : List UInt8) (i : Nat) : Bool := match L[i]? with | some c => isE c | none => false
def pmAt (L : List UInt8) (i : Nat) : Bool := match L[i]? with | some c => c == 43 || c == 45 | none => false
def lg0 (L : List UInt8) (i j : Nat) : Nat := if dgN L j = 0 then i else j + dgN L j
def lg2 (L : List UInt8) (i : Nat) : Nat := lg0 L i (if pmAt L (i + 1) then i + 2 else i + 1)
def lg3 (L : List UInt8) (i : Nat) : Nat := if eAt L i then lg2 L i else i
def lg4 (L : List UInt8) : Nat := if dotAt L (dgN L 0) && decide (0 < dgN L (dgN L 0 + 1)) then dgN L 0 + (1 + dgN L (dgN L 0 + 1)) else dgN L 0
def lngN (L : List UInt8) : Nat := lg3 L (lg4 L)
theorem lg4_le (L : List UInt8) : lg4 L ≤ L.length := by
  have h1 := dgN_le L 0
  have h2 := dgN_le L (dgN L 0 + 1)
  unfold lg4
  split
  · rename_i h
    simp only [Bool.and_eq_true, decide_eq_true_eq] at h
    omega
  · omega
theorem eAt_lt {L : List UInt8} {i : Nat} (h : eAt L i = true) : i < L.length := by
  unfold eAt at h
  split at h
  · rename_i c hc; exact (List.getElem?_eq_some_iff.1 hc).1
  · simp at h
theorem pmAt_lt {L : List UInt8} {i : Nat} (h : pmAt L i = true) : i < L.length := by
  unfold pmAt at h
  split at h
  · rename_i c hc; exact (List.getElem?_eq_some_iff.1 hc).1
  · simp at h
theorem lg0_le {L : List UInt8} {i j : Nat} (hi : i ≤ L.length) (hj : j ≤ L.length) : lg0 L i j ≤ L.length := by
  have := dgN_le L j
  unfold lg0
  split <;> omega
theorem lng_le (L : List UInt8) : lngN L ≤ L.length := by
  have h1 := lg4_le L
  unfold lngN lg3
  split
  · rename_i h
    have h2 := eAt_lt h
    unfold lg2
    refine lg0_le h1 ?_
    split
    · rename_i h3; have := pmAt_lt h3; omega
    · omega
  · exact h1
theorem lg_k0 (L : List UInt8) (hl : L.length ≤ 100000) (i j : Nat) (hi : i ≤ L.length) (hj : j ≤ L.length + 1) : V (F tab) (r35_K0 ()) (r35_J0 (.d (.str (bt L))) (.d (iv i)) (.d (iv j)) []) = some (.ret, r35_R (.d (iv ((lg0 L i j : Nat) : Int))) []) := by
  have hr := lrow_ok L hl j (by omega)
  have hd := dgN_le L j
  have e1 : (j : Int) + ((dgN L j : Nat) : Int) = ((j + dgN L j : Nat) : Int) := rfl
  unfold lg0
  by_cases h : dgN L j = 0
  · have k1 : (((dgN L j : Nat) : Int) == 0) = true := by simp [h]
    rw [if_pos h]
    simp (disch := omega) only [go_sem, r35_K0, hr, k1]
  · have k1 : (((dgN L j : Nat) : Int) == 0) = false := by simp; omega
    rw [if_neg h]
    simp (disch := omega) only [go_sem, r35_K0, hr, k1, e1, w64]
theorem u8_eq (c d : UInt8) : (((c.toNat : Nat) : Int) == ((d.toNat : Nat) : Int)) = (c == d) := by
  by_cases h : c = d
  · subst h; simp
  · have h4 : c.toNat ≠ d.toNat := fun h' => h (UInt8.toNat_inj.1 h')
    have : (c == d) = false := by simpa using h
    rw [this]; simp; omega
theorem lg_k2 (L : List UInt8) (hl : L.length ≤ 100000) (i : Nat) (hi : i < L.length) : V (F tab) (r35_K2 ()) (r35_J2 (.d (.str (bt L))) (.d (iv i)) []) = some (.ret, r35_R (.d (iv ((lg2 L i : Nat) : Int))) []) := by
  have hz := bt_size L
  have e1 : (i : Int) + 1 = ((i + 1 : Nat) : Int) := rfl
  have e2 : ((i + 1 : Nat) : Int) + 1 = ((i + 2 : Nat) : Int) := rfl
  have i0 : (0 ≤ ((i + 1 : Nat) : Int)) = True := eq_true (by omega)
  by_cases h : i + 1 < L.length
  · have h1 : (((i + 1 : Nat) : Int) < (L.length : Int)) = True := eq_true (by omega)
    have hx : L[i + 1]? = some L[i + 1] := List.getElem?_eq_getElem h
    have hg := bt_get L (i + 1)
    rw [hx] at hg
    have u1 : (((L[i + 1].toNat : Nat) : Int) == 43) = (L[i + 1] == 43) := u8_eq _ 43
    have u2 : (((L[i + 1].toNat : Nat) : Int) == 45) = (L[i + 1] == 45) := u8_eq _ 45
    have k := lg_k0 L hl i (i + 2) (by omega) (by omega)
    have k' := lg_k0 L hl i (i + 1) (by omega) (by omega)
    generalize L[i + 1] = c at *
    rcases Bool.eq_false_or_eq_true (c == 43) with g1 | g1
    · rw [g1] at u1
      have e : lg2 L i = lg0 L i (i + 2) := by simp only [lg2, pmAt, hx, g1, Bool.true_or, if_true]
      rw [e]
      simp (disch := omega) only [go_sem, r35_K2, hz, h1, i0, hg, e1, e2, u1, w64, Bool.true_or, k]
    · rw [g1] at u1
      rcases Bool.eq_false_or_eq_true (c == 45) with g2 | g2
      · rw [g2] at u2
        have e : lg2 L i = lg0 L i (i + 2) := by simp only [lg2, pmAt, hx, g1, g2, Bool.or_true, if_true]
        rw [e]
        simp (disch := omega) only [go_sem, r35_K2, hz, h1, i0, hg, e1, e2, u1, u2, w64, Bool.true_or, Bool.false_or, k]
      · rw [g2] at u2
        have e : lg2 L i = lg0 L i (i + 1) := by simp only [lg2, pmAt, hx, g1, g2, Bool.or_false, Bool.false_eq_true, if_false]
        rw [e]
        simp (disch := omega) only [go_sem, r35_K2, hz, h1, i0, hg, e1, e2, u1, u2, w64, Bool.true_or, Bool.false_or, k']
  · have h1 : (((i + 1 : Nat) : Int) < (L.length : Int)) = False := eq_false (by omega)
    have hx : L[i + 1]? = none := List.getElem?_eq_none (by omega)
    have k' := lg_k0 L hl i (i + 1) (by omega) (by omega)
    have e : lg2 L i = lg0 L i (i + 1) := by simp only [lg2, pmAt, hx, Bool.false_eq_true, if_false]
    rw [e]
    simp (disch := omega) only [go_sem, r35_K2, hz, h1, e1, w64, k']
theorem lg_k3 (L : List UInt8) (hl : L.length ≤ 100000) (i : Nat) (hi : i ≤ L.length) : V (F tab) (r35_K3 ()) (r35_J3 (.d (.str (bt L))) (.d (iv i)) []) = some (.ret, r35_R (.d (iv ((lg3 L i : Nat) : Int))) []) := by
  have hz := bt_size L
  have i0 : (0 ≤ (i : Int)) = True := eq_true (by omega)
  by_cases h : i < L.length
  · have h1 : ((i : Int) ≥ (L.length : Int)) = False := eq_false (by omega)
    have hx : L[i]? = some L[i] := List.getElem?_eq_getElem h
    have hg := bt_get L i
    rw [hx] at hg
    obtain ⟨m, hb, hm⟩ := or32 L[i]
    have k := lg_k2 L hl i h
    generalize L[i] = c at *
    rcases Bool.eq_false_or_eq_true (isE c) with g | g
    · have u : (m != 101) = false := by rw [bne, hm, g]; rfl
      have e : lg3 L i = lg2 L i := by simp only [lg3, eAt, hx, g, if_true]
      rw [e]
      simp (disch := omega) only [go_sem, r35_K3, hz, h1, i0, hg, hb, u, k]
    · have u : (m != 101) = true := by rw [bne, hm, g]; rfl
      have e : lg3 L i = i := by simp only [lg3, eAt, hx, g, Bool.false_eq_true, if_false]
      rw [e]
      simp (disch := omega) only [go_sem, r35_K3, hz, h1, i0, hg, hb, u]
  · have h1 : ((i : Int) ≥ (L.length : Int)) = True := eq_true (by omega)
    have hx : L[i]? = none := List.getElem?_eq_none (by omega)
    have e : lg3 L i = i := by simp only [lg3, eAt, hx, Bool.false_eq_true, if_false]
    rw [e]
    simp (disch := omega) only [go_sem, r35_K3, hz, h1]
theorem long_ok (L : List UInt8) (hl : L.length ≤ 100000) (hp : List Ent) : F tab 35 [.d (.str (bt L))] hp = some (.ret (.d (iv ((lngN L : Nat) : Int))) hp) := by
  have hz := bt_size L
  have hr0 := lrow_ok L hl 0 (by omega)
  have hd0 := dgN_le L 0
  have i0 : (0 ≤ ((dgN L 0 : Nat) : Int)) = True := eq_true (by omega)
  have hr1 := lrow_ok L hl (dgN L 0 + 1) (by omega)
  have hd1 := dgN_le L (dgN L 0 + 1)
  have e0 : (iv ((0 : Nat) : Int)) = iv 0 := rfl
  rw [e0] at hr0
  have e1 : ((dgN L 0 : Nat) : Int) + 1 = ((dgN L 0 + 1 : Nat) : Int) := rfl
  have hle := lg4_le L
  unfold lngN
  refine f35 rfl ?_
  by_cases h : dgN L 0 < L.length
  · have h1 : (((dgN L 0 : Nat) : Int) < (L.length : Int)) = True := eq_true (by omega)
    have hx : L[dgN L 0]? = some L[dgN L 0] := List.getElem?_eq_getElem h
    have hg := bt_get L (dgN L 0)
    rw [hx] at hg
    have u1 : (((L[dgN L 0].toNat : Nat) : Int) == 46) = (L[dgN L 0] == 46) := u8_eq _ 46
    generalize L[dgN L 0] = c at *
    rcases Bool.eq_false_or_eq_true (c == 46) with g1 | g1
    · rw [g1] at u1
      by_cases g2 : 0 < dgN L (dgN L 0 + 1)
      · have k2 : (((dgN L (dgN L 0 + 1) : Nat) : Int) > 0) = True := eq_true (by omega)
        have e3 : ((dgN L 0 : Nat) : Int) + (1 + ((dgN L (dgN L 0 + 1) : Nat) : Int)) = ((dgN L 0 + (1 + dgN L (dgN L 0 + 1)) : Nat) : Int) := by omega
        have e : lg4 L = dgN L 0 + (1 + dgN L (dgN L 0 + 1)) := by simp only [lg4, dotAt, hx, g1, decide_eq_true g2, Bool.and_self, if_true]
        have k := lg_k3 L hl (lg4 L) hle
        rw [e] at k ⊢
        generalize dgN L (dgN L 0 + 1) = d1 at *
        generalize dgN L 0 = d0 at *
        simp (disch := omega) only [go_sem, r35_T, r35, hr0, hz, h1, i0, hg, u1, e1, hr1, k2, w64, e3, k]
      · have k2 : (((dgN L (dgN L 0 + 1) : Nat) : Int) > 0) = False := eq_false (by omega)
        have e : lg4 L = dgN L 0 := by simp only [lg4, dotAt, hx, g1, decide_eq_false g2, Bool.and_false, Bool.false_eq_true, if_false]
        have k := lg_k3 L hl (lg4 L) hle
        rw [e] at k ⊢
        generalize dgN L (dgN L 0 + 1) = d1 at *
        generalize dgN L 0 = d0 at *
        simp (disch := omega) only [go_sem, r35_T, r35, hr0, hz, h1, i0, hg, u1, e1, hr1, k2, w64, k]
    · rw [g1] at u1
      have e : lg4 L = dgN L 0 := by simp only [lg4, dotAt, hx, g1, Bool.false_and, Bool.false_eq_true, if_false]
      have k := lg_k3 L hl (lg4 L) hle
      rw [e] at k ⊢
      generalize dgN L 0 = d0 at *
      simp (disch := omega) only [go_sem, r35_T, r35, hr0, hz, h1, i0, hg, u1, w64, k]
  · have h1 : (((dgN L 0 : Nat) : Int) < (L.length : Int)) = False := eq_false (by omega)
    have hx : L[dgN L 0]? = none := List.getElem?_eq_none (by omega)
    have e : lg4 L = dgN L 0 := by simp only [lg4, dotAt, hx, Bool.false_and, Bool.false_eq_true, if_false]
    have k := lg_k3 L hl (lg4 L) hle
    rw [e] at k ⊢
    generalize dgN L 0 = d0 at *
    simp (disch := omega) only [go_sem, r35_T, r35, hr0, hz, h1, w64, k]
def qtA : Bool → List UInt8 → Option Nat
  | _, [] => none
  | true, _ :: r => (qtA false r).map (· + 1)
  | false, c :: r => if c == 92 then (qtA true r).map (· + 1) else if c == 34 then some 1 else (qtA false r).map (· + 1)
def qtR (i : Nat) : Option Nat → Option (Ex × St)
  | some n => some (.ret, r37_R (.d (iv ((i + n : Nat) : Int))) [])
  | none => some (.norm, r37_E0 [])
theorem qtR_map (i : Nat) (o : Option Nat) : qtR i (o.map (· + 1)) = qtR (i + 1) o := by
  cases o with
  | none => rfl
  | some n => simp only [Option.map_some, qtR]; rw [show i + (n + 1) = i + 1 + n by omega]
def QtIs (L : List UInt8) (i : Nat) : Prop := V (F tab) r37_B0 (r37_S0 (.d (.str (bt L))) (.d (iv i)) []) = qtR i (qtA false (L.drop i))
theorem qt_end (L : List UInt8) (i : Nat) (h : L.length ≤ i) : QtIs L i := by
  have h1 : ((i : Int) < (L.length : Int)) = False := eq_false (by omega)
  have hz := bt_size L
  unfold QtIs
  rw [List.drop_of_length_le h, r37_B0_eq]
  simp (disch := omega) only [go_sem, r37_C0, hz, h1, qtA, qtR]
theorem qt_step (L : List UInt8) (hl : L.length ≤ 100000) (i : Nat) (h : i < L.length) (ih1 : QtIs L (i + 1)) (ih2 : QtIs L (i + 2)) : QtIs L i := by
  have h1 : ((i : Int) < (L.length : Int)) = True := eq_true (by omega)
  have i0 : (0 ≤ (i : Int)) = True := eq_true (by omega)
  have hz := bt_size L
  have hx : L[i]? = some L[i] := List.getElem?_eq_getElem h
  have hd : L.drop i = L[i] :: L.drop (i + 1) := List.drop_eq_getElem_cons h
  have hg := bt_get L i
  rw [hx] at hg
  have e1 : (i : Int) + 1 = ((i + 1 : Nat) : Int) := rfl
  have e2 : ((i + 1 : Nat) : Int) + 1 = ((i + 2 : Nat) : Int) := rfl
  have u1 : (((L[i].toNat : Nat) : Int) == 92) = (L[i] == 92) := u8_eq _ 92
  have u2 : (((L[i].toNat : Nat) : Int) == 34) = (L[i] == 34) := u8_eq _ 34
  unfold QtIs at ih1 ih2 ⊢
  rw [hd]
  rcases Bool.eq_false_or_eq_true (L[i] == 92) with g1 | g1
  · rw [g1] at u1
    have hq : qtA true (L.drop (i + 1)) = (qtA false (L.drop (i + 2))).map (· + 1) := by
      cases hr : L.drop (i + 1) with
      | nil => have : L.drop (i + 2) = [] := by rw [← List.drop_drop (j := i + 1) (i := 1), hr]; rfl
               rw [this]; rfl
      | cons c r => have : L.drop (i + 2) = r := by rw [← List.drop_drop (j := i + 1) (i := 1), hr]; rfl
                    rw [this]; rfl
    rw [qtA, g1, if_pos rfl, hq, qtR_map, qtR_map]
    rw [r37_B0_eq]
    simp (disch := omega) only [go_sem, r37_C0, hz, h1, i0, hg, u1, e1, e2, w64]
    exact ih2
  · rw [g1] at u1
    rcases Bool.eq_false_or_eq_true (L[i] == 34) with g2 | g2
    · rw [g2] at u2
      rw [qtA, g1, if_neg (by simp), g2, if_pos rfl, qtR, r37_B0_eq]
      simp (disch := omega) only [go_sem, r37_C0, hz, h1, i0, hg, u1, u2, e1, w64]
    · rw [g2] at u2
      rw [qtA, g1, if_neg (by simp), g2, if_neg (by simp), qtR_map, r37_B0_eq]
      simp (disch := omega) only [go_sem, r37_C0, hz, h1, i0, hg, u1, u2, e1, w64]
      exact ih1
theorem qt_loop (L : List UInt8) (hl : L.length ≤ 100000) : ∀ (d i : Nat), L.length - i ≤ d → QtIs L i
  | 0, i, h => qt_end L i (by omega)
  | d + 1, i, h => by
    by_cases e : L.length ≤ i
    · exact qt_end L i e
    · exact qt_step L hl i (by omega) (qt_loop L hl d (i + 1) (by omega)) (qt_loop L hl d (i + 2) (by omega))
def qtN (L : List UInt8) : Nat := match qtA false (L.drop 1) with | some n => n + 1 | none => 0
theorem quoted_ok (L : List UInt8) (hl : L.length ≤ 100000) (hp : List Ent) : F tab 37 [.d (.str (bt L))] hp = some (.ret (.d (iv ((qtN L : Nat) : Int))) hp) := by
  have h := qt_loop L hl L.length 1 (by omega)
  unfold QtIs at h
  unfold qtN
  refine f37 rfl ?_
  simp (disch := omega) only [go_sem, r37_T, r37]
  rw [r37_B0_n]
  have h : V (F tab) r37_B0 (r37_S0 (.d (.str (bt L))) (.d (iv 1)) []) = _ := h
  erw [h]
  cases qtA false (L.drop 1) with
  | none => simp only [go_sem, qtR]
  | some n =>
    simp only [go_sem, qtR]
    rw [show 1 + n = n + 1 by omega]
def twoB (L : List UInt8) : Bool := match L with
  | a :: b :: _ => (a == 47 && b == 47) || ((a == 61 && b == 61) || ((a == 33 && b == 61) || ((a == 60 && b == 61) || (a == 62 && b == 61))))
  | _ => false
def sgnL : List UInt8 := [46, 124, 44, 60, 62, 43, 45, 42, 47, 37, 40, 41, 91, 93, 123, 125, 58, 59]
def sgnN (L : List UInt8) : Nat := if twoB L then 2 else match L with
  | c :: _ => if sgnL.contains c then 1 else 0
  | [] => 0
theorem bt_list (l : List UInt8) : (bt l).toList = l := by rw [bs_toList, bs_bt]
theorem two_eq (a b c d : UInt8) : ((bt [a, b]).toList == (⟨#[c, d]⟩ : ByteArray).toList) = (a == c && b == d) := by
  have e : (⟨#[c, d]⟩ : ByteArray) = bt [c, d] := rfl
  rw [e, bt_list, bt_list]
  simp
theorem sign_ok (c : UInt8) (r : List UInt8) (hl : r.length ≤ 100000) (hp : List Ent) : F tab 26 [.d (.str (bt (c :: r)))] hp = some (.ret (.d (.str (bt ((c :: r).take (sgnN (c :: r)))))) hp) := by
  obtain ⟨n, hn⟩ : ∃ n, n = (c :: r).length := ⟨_, rfl⟩
  have hz : (bt (c :: r)).size = n := hn ▸ bt_size (c :: r)
  have hg : (bt (c :: r))[0]? = some c := bt_get (c :: r) 0
  have hs := ib_ok sgnL c
  have hm := ib_iff sgnL c
  unfold sgnL at hs
  have hc1 : (bt (c :: r)).extract 0 1 = bt [c] := bt_to _ 1
  have hle1 : ((1 : Int) ≤ (n : Int)) = True := eq_true (by rw [hn]; simp; omega)
  have hone : twoB (c :: r) = false → (c :: r).take (sgnN (c :: r)) = if sgnL.contains c then [c] else [] := by
    intro h
    unfold sgnN
    rw [h, if_neg (by simp)]
    simp only
    split <;> rfl
  have fin : ∀ q : Bool, sgnL.contains c = q → (Lib.indexByte sgnL c ≥ 0) = (q = true) := by
    intro q hq
    apply propext
    rw [← hq]
    simp only [List.contains_eq_mem, decide_eq_true_eq]
    exact hm
  refine f26 rfl ?_
  cases r with
  | nil =>
    have h1 : ((n : Int) > 1) = False := eq_false (by rw [hn]; simp)
    rw [hone rfl]
    rcases Bool.eq_false_or_eq_true (sgnL.contains c) with g | g
    · have k := fin _ g
      unfold sgnL at k
      rw [g, if_pos rfl]
      simp (disch := omega) only [go_sem, r26_T, r26, hz, h1, hg, hs, k, hc1, hle1]
    · have k := fin _ g
      unfold sgnL at k
      rw [g, if_neg (by simp)]
      simp (disch := omega) only [go_sem, r26_T, r26, hz, h1, hg, hs, k]
  | cons d r =>
    have h1 : ((n : Int) > 1) = True := eq_true (by rw [hn]; simp; omega)
    have hle2 : ((2 : Int) ≤ (n : Int)) = True := eq_true (by rw [hn]; simp; omega)
    clear hn
    have hc2 : (bt (c :: d :: r)).extract 0 2 = bt [c, d] := bt_to _ 2
    have q1 := two_eq c d 47 47
    have q2 := two_eq c d 61 61
    have q3 := two_eq c d 33 61
    have q4 := two_eq c d 60 61
    have q5 := two_eq c d 62 61
    rcases Bool.eq_false_or_eq_true (twoB (c :: d :: r)) with g | g
    · have ht : (c :: d :: r).take (sgnN (c :: d :: r)) = [c, d] := by unfold sgnN; rw [g]; rfl
      rw [ht]
      simp only [twoB] at g
      generalize (c == 47 && d == 47) = p1 at *
      generalize (c == 61 && d == 61) = p2 at *
      generalize (c == 33 && d == 61) = p3 at *
      generalize (c == 60 && d == 61) = p4 at *
      generalize (c == 62 && d == 61) = p5 at *
      cases p1 <;> cases p2 <;> cases p3 <;> cases p4 <;> cases p5 <;> first | (simp at g; done) | simp (disch := omega) only [go_sem, r26_T, r26, hz, h1, hle2, hc2, strD_eql, q1, q2, q3, q4, q5]
    · rw [hone g]
      simp only [twoB, Bool.or_eq_false_iff] at g
      obtain ⟨g1, g2, g3, g4, g5⟩ := g
      rw [g1] at q1
      rw [g2] at q2
      rw [g3] at q3
      rw [g4] at q4
      rw [g5] at q5
      rcases Bool.eq_false_or_eq_true (sgnL.contains c) with g | g
      · have k := fin _ g
        unfold sgnL at k
        rw [g, if_pos rfl]
        simp (disch := omega) only [go_sem, r26_T, r26, hz, h1, hle2, hc2, strD_eql, q1, q2, q3, q4, q5, hg, hs, k, hc1, hle1]
      · have k := fin _ g
        unfold sgnL at k
        rw [g, if_neg (by simp)]
        simp (disch := omega) only [go_sem, r26_T, r26, hz, h1, hle2, hc2, strD_eql, q1, q2, q3, q4, q5, hg, hs, k]
end Go.Pe.T

namespace Go.Pe.T

def unb (l : List UInt8) (i : Nat) : Int := ((l.getD i 0).toNat : Int)
def contB (c : Int) : Bool := !decide (c < 128) && !decide (c > 191)
def conts : List UInt8 → Nat → Bool
  | _, 0 => true
  | [], _ + 1 => false
  | c :: r, k + 1 => contB c.toNat && conts r k
def tailL (l : List UInt8) (n : Nat) (lo hi : Int) : Bool := !decide (l.length ≤ n) && ((!decide (unb l 1 < lo) && !decide (unb l 1 > hi)) && conts (l.drop 2) (n - 1))
def sizeL (l : List UInt8) : Nat :=
  if unb l 0 < 128 then 1
  else if (decide (unb l 0 ≥ 194) && decide (unb l 0 ≤ 223)) && tailL l 1 128 191 then 2
  else if (unb l 0 == 224 && tailL l 2 160 191) || (((decide (unb l 0 ≥ 225) && decide (unb l 0 ≤ 239)) && unb l 0 != 237) && tailL l 2 128 191 || unb l 0 == 237 && tailL l 2 128 159) then 3
  else if (unb l 0 == 240 && tailL l 3 144 191) || ((decide (unb l 0 ≥ 241) && decide (unb l 0 ≤ 243)) && tailL l 3 128 191 || unb l 0 == 244 && tailL l 3 128 143) then 4
  else 0
def validF : Nat → List UInt8 → Bool
  | _, [] => true
  | 0, _ :: _ => false
  | k + 1, c :: r => if sizeL (c :: r) = 0 then false else validF k ((c :: r).drop (sizeL (c :: r)))
def validB (s : ByteArray) : Bool := validF s.size (bs s)

theorem tail_len {l : List UInt8} {n : Nat} {lo hi : Int} (h : tailL l n lo hi = true) : n < l.length := by
  simp only [tailL, Bool.and_eq_true, Bool.not_eq_true', decide_eq_false_iff_not] at h
  omega
theorem sizeL_le (l : List UInt8) (hl : l ≠ []) : sizeL l ≤ l.length := by
  have h0 : 0 < l.length := List.length_pos_iff.2 hl
  unfold sizeL
  split
  · omega
  · split
    · rename_i h; simp only [Bool.and_eq_true] at h; have := tail_len h.2; omega
    · split
      · rename_i h; simp only [Bool.or_eq_true, Bool.and_eq_true] at h
        rcases h with h | h | h <;> (have := tail_len h.2; omega)
      · split
        · rename_i h; simp only [Bool.or_eq_true, Bool.and_eq_true] at h
          rcases h with h | h | h <;> (have := tail_len h.2; omega)
        · omega

theorem bs_nb {s : ByteArray} {i : Nat} (h : i < s.size) : ((s[i].toNat : Nat) : Int) = unb (bs s) i := by
  have e : s[i] = s.data.toList[i]'h := rfl
  simp only [unb, bs, List.getD_eq_getElem?_getD, List.getElem?_eq_getElem (show i < s.data.toList.length from h), Option.getD_some, e]

def uTlLoop (s : ByteArray) (n i : Nat) : Prop :=
  V (F tab) r71_B0 (r71_S0 (.d (.str s)) (.d (iv n)) (.d (iv i)) []) = if conts ((bs s).drop i) (n + 1 - i) then some (.norm, r71_E0 []) else some (.ret, r71_R (.d (.bool false)) [])
theorem utl_end (s : ByteArray) (n i : Nat) (hi : n < i) : uTlLoop s n i := by
  have h1 : ((i : Int) ≤ (n : Int)) = False := eq_false (by omega)
  unfold uTlLoop
  rw [r71_B0_eq, show n + 1 - i = 0 by omega]
  simp (disch := omega) only [go_sem, r71_C0, h1, conts]
theorem utl_step (s : ByteArray) (n i : Nat) (hn : n < s.size) (h4 : n ≤ 4) (hi : i ≤ n) (ih : uTlLoop s n (i + 1)) : uTlLoop s n i := by
  have h1 : ((i : Int) ≤ (n : Int)) = True := eq_true (by omega)
  have hi0 : (0 ≤ (i : Int)) = True := eq_true (by omega)
  obtain ⟨va, vd⟩ := bs_get (show i < s.size by omega)
  unfold uTlLoop at ih ⊢
  rw [Int.natCast_add, Int.natCast_one] at ih
  rw [r71_B0_eq, vd, show n + 1 - i = (n - i) + 1 by omega]
  rw [show n + 1 - (i + 1) = n - i by omega] at ih
  simp only [conts, contB]
  by_cases g1 : ((s[i].toNat : Nat) : Int) < 128
  · simp (disch := omega) only [go_sem, r71_C0, h1, hi0, va, w64, g1, decide_true, Bool.not_true, Bool.false_and]
  · by_cases g2 : ((s[i].toNat : Nat) : Int) > 191
    · simp (disch := omega) only [go_sem, r71_C0, h1, hi0, va, w64, g1, g2, decide_true, decide_false, Bool.not_true, Bool.not_false, Bool.false_and, Bool.true_and]
    · simp (disch := omega) only [go_sem, r71_C0, h1, hi0, va, w64, g1, g2, decide_true, decide_false, Bool.not_true, Bool.not_false, Bool.false_and, Bool.true_and]
      exact ih
theorem utl_loop (s : ByteArray) (n : Nat) (hn : n < s.size) (h4 : n ≤ 4) : ∀ (j i : Nat), i + j = n + 1 → uTlLoop s n i
  | 0, i, hi => utl_end s n i (by omega)
  | j + 1, i, hi => utl_step s n i hn h4 (by omega) (utl_loop s n hn h4 j (i + 1) (by omega))
theorem tail_ok (s : ByteArray) (n : Nat) (lo hi : Int) (h1 : 1 ≤ n) (h4 : n ≤ 4) (hp : List Ent) : F tab 71 [.d (.str s), .d (iv n), .d (.int .u8 lo), .d (.int .u8 hi)] hp = some (.ret (.d (.bool (tailL (bs s) n lo hi))) hp) := by
  refine f71 rfl ?_
  unfold tailL
  rw [bs_len]
  by_cases g : s.size ≤ n
  · have g' : ((s.size : Int) ≤ (n : Int)) = True := eq_true (by omega)
    simp (disch := omega) only [go_sem, r71_T, r71, g, g', decide_true, Bool.not_true, Bool.false_and]
  · have g' : ((s.size : Int) ≤ (n : Int)) = False := eq_false (by omega)
    have hL := utl_loop s n (by omega) h4 (n - 1) 2 (by omega)
    unfold uTlLoop at hL
    rw [show n + 1 - 2 = n - 1 by omega] at hL
    have hlt : 1 < s.size := by omega
    obtain ⟨va, vd⟩ := bs_get hlt
    have e := bs_nb hlt
    rw [← e]
    by_cases g1 : ((s[1].toNat : Nat) : Int) < lo
    · simp (disch := omega) only [go_sem, r71_T, r71, g, g', va, g1, decide_true, decide_false, Bool.not_true, Bool.not_false, Bool.false_and, Bool.true_and]
    · by_cases g2 : ((s[1].toNat : Nat) : Int) > hi
      · simp (disch := omega) only [go_sem, r71_T, r71, g, g', va, g1, g2, decide_true, decide_false, Bool.not_true, Bool.not_false, Bool.false_and, Bool.true_and]
      · simp (disch := omega) only [go_sem, r71_T, r71, g, g', va, g1, g2, decide_true, decide_false, Bool.not_true, Bool.not_false, Bool.false_and, Bool.true_and]
        rw [r71_B0_n]
        erw [hL]
        rcases Bool.eq_false_or_eq_true (conts ((bs s).drop 2) (n - 1)) with g3 | g3 <;> rw [g3] <;> simp only [go_sem]

theorem size_0 (s : ByteArray) (c : Int) (h0 : 0 < s.size) (hc : ((s[0].toNat : Nat) : Int) = c) (g1 : c ≥ 0) (g2 : c ≤ 127) (hp : List Ent) : F tab 57 [.d (.str s)] hp = some (.ret (.d (iv (sizeL (bs s)))) hp) := by
  obtain ⟨va, vd⟩ := bs_get h0
  have e := bs_nb h0
  rw [hc] at e
  have xa : (c < 128) = True := eq_true (by omega)
  have xb : (c ≥ 194) = False := eq_false (by omega)
  have xd : (c ≤ 223) = True := eq_true (by omega)
  have xe : (c == 224) = false := by simp <;> omega
  have xf : (c ≥ 225) = False := eq_false (by omega)
  have xh : (c ≤ 239) = True := eq_true (by omega)
  have xi : (c != 237) = true := by simp <;> omega
  have xj : (c == 237) = false := by simp <;> omega
  have xk : (c == 240) = false := by simp <;> omega
  have xl : (c ≥ 241) = False := eq_false (by omega)
  have xm : (c ≤ 243) = True := eq_true (by omega)
  have xn : (c == 244) = false := by simp <;> omega
  refine f57 rfl ?_
  unfold sizeL
  rw [← e]
  simp (disch := omega) only [go_sem, r57_T, r57, va, hc, xa, xb, xd, xe, xf, xh, xi, xj, xk, xl, xm, xn, decide_true, decide_false, Bool.true_and, Bool.false_and, Bool.true_or, Bool.false_or, Bool.and_false, Bool.and_true, Int.natCast_one]
  try rfl

theorem size_1 (s : ByteArray) (c : Int) (h0 : 0 < s.size) (hc : ((s[0].toNat : Nat) : Int) = c) (g1 : c ≥ 128) (g2 : c ≤ 193) (hp : List Ent) : F tab 57 [.d (.str s)] hp = some (.ret (.d (iv (sizeL (bs s)))) hp) := by
  obtain ⟨va, vd⟩ := bs_get h0
  have e := bs_nb h0
  rw [hc] at e
  have xa : (c < 128) = False := eq_false (by omega)
  have xb : (c ≥ 194) = False := eq_false (by omega)
  have xd : (c ≤ 223) = True := eq_true (by omega)
  have xe : (c == 224) = false := by simp <;> omega
  have xf : (c ≥ 225) = False := eq_false (by omega)
  have xh : (c ≤ 239) = True := eq_true (by omega)
  have xi : (c != 237) = true := by simp <;> omega
  have xj : (c == 237) = false := by simp <;> omega
  have xk : (c == 240) = false := by simp <;> omega
  have xl : (c ≥ 241) = False := eq_false (by omega)
  have xm : (c ≤ 243) = True := eq_true (by omega)
  have xn : (c == 244) = false := by simp <;> omega
  refine f57 rfl ?_
  unfold sizeL
  rw [← e]
  simp (disch := omega) only [go_sem, r57_T, r57, va, hc, xa, xb, xd, xe, xf, xh, xi, xj, xk, xl, xm, xn, decide_true, decide_false, Bool.true_and, Bool.false_and, Bool.true_or, Bool.false_or, Bool.and_false, Bool.and_true, Int.natCast_one]
  try rfl

theorem size_2 (s : ByteArray) (c : Int) (h0 : 0 < s.size) (hc : ((s[0].toNat : Nat) : Int) = c) (g1 : c ≥ 194) (g2 : c ≤ 223) (hp : List Ent) : F tab 57 [.d (.str s)] hp = some (.ret (.d (iv (sizeL (bs s)))) hp) := by
  obtain ⟨va, vd⟩ := bs_get h0
  have e := bs_nb h0
  rw [hc] at e
  have xa : (c < 128) = False := eq_false (by omega)
  have xb : (c ≥ 194) = True := eq_true (by omega)
  have xd : (c ≤ 223) = True := eq_true (by omega)
  have xe : (c == 224) = false := by simp <;> omega
  have xf : (c ≥ 225) = False := eq_false (by omega)
  have xh : (c ≤ 239) = True := eq_true (by omega)
  have xi : (c != 237) = true := by simp <;> omega
  have xj : (c == 237) = false := by simp <;> omega
  have xk : (c == 240) = false := by simp <;> omega
  have xl : (c ≥ 241) = False := eq_false (by omega)
  have xm : (c ≤ 243) = True := eq_true (by omega)
  have xn : (c == 244) = false := by simp <;> omega
  have ht : ∀ hp, F tab 71 [.d (.str s), .d (iv 1), .d (.int .u8 128), .d (.int .u8 191)] hp = _ := tail_ok s 1 128 191 (by omega) (by omega)
  refine f57 rfl ?_
  unfold sizeL
  rw [← e]
  rcases Bool.eq_false_or_eq_true (tailL (bs s) 1 128 191) with g | g <;> rw [g] at ht <;>
    simp (disch := omega) only [go_sem, r57_T, r57, va, hc, xa, xb, xd, xe, xf, xh, xi, xj, xk, xl, xm, xn, ht, g, decide_true, decide_false, Bool.true_and, Bool.false_and, Bool.true_or, Bool.false_or, Bool.and_false, Bool.and_true, Int.natCast_one] <;> rfl

theorem size_3 (s : ByteArray) (c : Int) (h0 : 0 < s.size) (hc : ((s[0].toNat : Nat) : Int) = c) (g1 : c ≥ 224) (g2 : c ≤ 224) (hp : List Ent) : F tab 57 [.d (.str s)] hp = some (.ret (.d (iv (sizeL (bs s)))) hp) := by
  obtain ⟨va, vd⟩ := bs_get h0
  have e := bs_nb h0
  rw [hc] at e
  have xa : (c < 128) = False := eq_false (by omega)
  have xb : (c ≥ 194) = True := eq_true (by omega)
  have xd : (c ≤ 223) = False := eq_false (by omega)
  have xe : (c == 224) = true := by simp <;> omega
  have xf : (c ≥ 225) = False := eq_false (by omega)
  have xh : (c ≤ 239) = True := eq_true (by omega)
  have xi : (c != 237) = true := by simp <;> omega
  have xj : (c == 237) = false := by simp <;> omega
  have xk : (c == 240) = false := by simp <;> omega
  have xl : (c ≥ 241) = False := eq_false (by omega)
  have xm : (c ≤ 243) = True := eq_true (by omega)
  have xn : (c == 244) = false := by simp <;> omega
  have ht : ∀ hp, F tab 71 [.d (.str s), .d (iv 2), .d (.int .u8 160), .d (.int .u8 191)] hp = _ := tail_ok s 2 160 191 (by omega) (by omega)
  refine f57 rfl ?_
  unfold sizeL
  rw [← e]
  rcases Bool.eq_false_or_eq_true (tailL (bs s) 2 160 191) with g | g <;> rw [g] at ht <;>
    simp (disch := omega) only [go_sem, r57_T, r57, va, hc, xa, xb, xd, xe, xf, xh, xi, xj, xk, xl, xm, xn, ht, g, decide_true, decide_false, Bool.true_and, Bool.false_and, Bool.true_or, Bool.false_or, Bool.and_false, Bool.and_true, Int.natCast_one] <;> rfl

theorem size_4 (s : ByteArray) (c : Int) (h0 : 0 < s.size) (hc : ((s[0].toNat : Nat) : Int) = c) (g1 : c ≥ 225) (g2 : c ≤ 236) (hp : List Ent) : F tab 57 [.d (.str s)] hp = some (.ret (.d (iv (sizeL (bs s)))) hp) := by
  obtain ⟨va, vd⟩ := bs_get h0
  have e := bs_nb h0
  rw [hc] at e
  have xa : (c < 128) = False := eq_false (by omega)
  have xb : (c ≥ 194) = True := eq_true (by omega)
  have xd : (c ≤ 223) = False := eq_false (by omega)
  have xe : (c == 224) = false := by simp <;> omega
  have xf : (c ≥ 225) = True := eq_true (by omega)
  have xh : (c ≤ 239) = True := eq_true (by omega)
  have xi : (c != 237) = true := by simp <;> omega
  have xj : (c == 237) = false := by simp <;> omega
  have xk : (c == 240) = false := by simp <;> omega
  have xl : (c ≥ 241) = False := eq_false (by omega)
  have xm : (c ≤ 243) = True := eq_true (by omega)
  have xn : (c == 244) = false := by simp <;> omega
  have ht : ∀ hp, F tab 71 [.d (.str s), .d (iv 2), .d (.int .u8 128), .d (.int .u8 191)] hp = _ := tail_ok s 2 128 191 (by omega) (by omega)
  refine f57 rfl ?_
  unfold sizeL
  rw [← e]
  rcases Bool.eq_false_or_eq_true (tailL (bs s) 2 128 191) with g | g <;> rw [g] at ht <;>
    simp (disch := omega) only [go_sem, r57_T, r57, va, hc, xa, xb, xd, xe, xf, xh, xi, xj, xk, xl, xm, xn, ht, g, decide_true, decide_false, Bool.true_and, Bool.false_and, Bool.true_or, Bool.false_or, Bool.and_false, Bool.and_true, Int.natCast_one] <;> rfl

theorem size_5 (s : ByteArray) (c : Int) (h0 : 0 < s.size) (hc : ((s[0].toNat : Nat) : Int) = c) (g1 : c ≥ 237) (g2 : c ≤ 237) (hp : List Ent) : F tab 57 [.d (.str s)] hp = some (.ret (.d (iv (sizeL (bs s)))) hp) := by
  obtain ⟨va, vd⟩ := bs_get h0
  have e := bs_nb h0
  rw [hc] at e
  have xa : (c < 128) = False := eq_false (by omega)
  have xb : (c ≥ 194) = True := eq_true (by omega)
  have xd : (c ≤ 223) = False := eq_false (by omega)
  have xe : (c == 224) = false := by simp <;> omega
  have xf : (c ≥ 225) = True := eq_true (by omega)
  have xh : (c ≤ 239) = True := eq_true (by omega)
  have xi : (c != 237) = false := by simp <;> omega
  have xj : (c == 237) = true := by simp <;> omega
  have xk : (c == 240) = false := by simp <;> omega
  have xl : (c ≥ 241) = False := eq_false (by omega)
  have xm : (c ≤ 243) = True := eq_true (by omega)
  have xn : (c == 244) = false := by simp <;> omega
  have ht : ∀ hp, F tab 71 [.d (.str s), .d (iv 2), .d (.int .u8 128), .d (.int .u8 159)] hp = _ := tail_ok s 2 128 159 (by omega) (by omega)
  refine f57 rfl ?_
  unfold sizeL
  rw [← e]
  rcases Bool.eq_false_or_eq_true (tailL (bs s) 2 128 159) with g | g <;> rw [g] at ht <;>
    simp (disch := omega) only [go_sem, r57_T, r57, va, hc, xa, xb, xd, xe, xf, xh, xi, xj, xk, xl, xm, xn, ht, g, decide_true, decide_false, Bool.true_and, Bool.false_and, Bool.true_or, Bool.false_or, Bool.and_false, Bool.and_true, Int.natCast_one] <;> rfl

theorem size_6 (s : ByteArray) (c : Int) (h0 : 0 < s.size) (hc : ((s[0].toNat : Nat) : Int) = c) (g1 : c ≥ 238) (g2 : c ≤ 239) (hp : List Ent) : F tab 57 [.d (.str s)] hp = some (.ret (.d (iv (sizeL (bs s)))) hp) := by
  obtain ⟨va, vd⟩ := bs_get h0
  have e := bs_nb h0
  rw [hc] at e
  have xa : (c < 128) = False := eq_false (by omega)
  have xb : (c ≥ 194) = True := eq_true (by omega)
  have xd : (c ≤ 223) = False := eq_false (by omega)
  have xe : (c == 224) = false := by simp <;> omega
  have xf : (c ≥ 225) = True := eq_true (by omega)
  have xh : (c ≤ 239) = True := eq_true (by omega)
  have xi : (c != 237) = true := by simp <;> omega
  have xj : (c == 237) = false := by simp <;> omega
  have xk : (c == 240) = false := by simp <;> omega
  have xl : (c ≥ 241) = False := eq_false (by omega)
  have xm : (c ≤ 243) = True := eq_true (by omega)
  have xn : (c == 244) = false := by simp <;> omega
  have ht : ∀ hp, F tab 71 [.d (.str s), .d (iv 2), .d (.int .u8 128), .d (.int .u8 191)] hp = _ := tail_ok s 2 128 191 (by omega) (by omega)
  refine f57 rfl ?_
  unfold sizeL
  rw [← e]
  rcases Bool.eq_false_or_eq_true (tailL (bs s) 2 128 191) with g | g <;> rw [g] at ht <;>
    simp (disch := omega) only [go_sem, r57_T, r57, va, hc, xa, xb, xd, xe, xf, xh, xi, xj, xk, xl, xm, xn, ht, g, decide_true, decide_false, Bool.true_and, Bool.false_and, Bool.true_or, Bool.false_or, Bool.and_false, Bool.and_true, Int.natCast_one] <;> rfl

theorem size_7 (s : ByteArray) (c : Int) (h0 : 0 < s.size) (hc : ((s[0].toNat : Nat) : Int) = c) (g1 : c ≥ 240) (g2 : c ≤ 240) (hp : List Ent) : F tab 57 [.d (.str s)] hp = some (.ret (.d (iv (sizeL (bs s)))) hp) := by
  obtain ⟨va, vd⟩ := bs_get h0
  have e := bs_nb h0
  rw [hc] at e
  have xa : (c < 128) = False := eq_false (by omega)
  have xb : (c ≥ 194) = True := eq_true (by omega)
  have xd : (c ≤ 223) = False := eq_false (by omega)
  have xe : (c == 224) = false := by simp <;> omega
  have xf : (c ≥ 225) = True := eq_true (by omega)
  have xh : (c ≤ 239) = False := eq_false (by omega)
  have xi : (c != 237) = true := by simp <;> omega
  have xj : (c == 237) = false := by simp <;> omega
  have xk : (c == 240) = true := by simp <;> omega
  have xl : (c ≥ 241) = False := eq_false (by omega)
  have xm : (c ≤ 243) = True := eq_true (by omega)
  have xn : (c == 244) = false := by simp <;> omega
  have ht : ∀ hp, F tab 71 [.d (.str s), .d (iv 3), .d (.int .u8 144), .d (.int .u8 191)] hp = _ := tail_ok s 3 144 191 (by omega) (by omega)
  refine f57 rfl ?_
  unfold sizeL
  rw [← e]
  rcases Bool.eq_false_or_eq_true (tailL (bs s) 3 144 191) with g | g <;> rw [g] at ht <;>
    simp (disch := omega) only [go_sem, r57_T, r57, va, hc, xa, xb, xd, xe, xf, xh, xi, xj, xk, xl, xm, xn, ht, g, decide_true, decide_false, Bool.true_and, Bool.false_and, Bool.true_or, Bool.false_or, Bool.and_false, Bool.and_true, Int.natCast_one] <;> rfl

theorem size_8 (s : ByteArray) (c : Int) (h0 : 0 < s.size) (hc : ((s[0].toNat : Nat) : Int) = c) (g1 : c ≥ 241) (g2 : c ≤ 243) (hp : List Ent) : F tab 57 [.d (.str s)] hp = some (.ret (.d (iv (sizeL (bs s)))) hp) := by
  obtain ⟨va, vd⟩ := bs_get h0
  have e := bs_nb h0
  rw [hc] at e
  have xa : (c < 128) = False := eq_false (by omega)
  have xb : (c ≥ 194) = True := eq_true (by omega)
  have xd : (c ≤ 223) = False := eq_false (by omega)
  have xe : (c == 224) = false := by simp <;> omega
  have xf : (c ≥ 225) = True := eq_true (by omega)
  have xh : (c ≤ 239) = False := eq_false (by omega)
  have xi : (c != 237) = true := by simp <;> omega
  have xj : (c == 237) = false := by simp <;> omega
  have xk : (c == 240) = false := by simp <;> omega
  have xl : (c ≥ 241) = True := eq_true (by omega)
  have xm : (c ≤ 243) = True := eq_true (by omega)
  have xn : (c == 244) = false := by simp <;> omega
  have ht : ∀ hp, F tab 71 [.d (.str s), .d (iv 3), .d (.int .u8 128), .d (.int .u8 191)] hp = _ := tail_ok s 3 128 191 (by omega) (by omega)
  refine f57 rfl ?_
  unfold sizeL
  rw [← e]
  rcases Bool.eq_false_or_eq_true (tailL (bs s) 3 128 191) with g | g <;> rw [g] at ht <;>
    simp (disch := omega) only [go_sem, r57_T, r57, va, hc, xa, xb, xd, xe, xf, xh, xi, xj, xk, xl, xm, xn, ht, g, decide_true, decide_false, Bool.true_and, Bool.false_and, Bool.true_or, Bool.false_or, Bool.and_false, Bool.and_true, Int.natCast_one] <;> rfl

theorem size_9 (s : ByteArray) (c : Int) (h0 : 0 < s.size) (hc : ((s[0].toNat : Nat) : Int) = c) (g1 : c ≥ 244) (g2 : c ≤ 244) (hp : List Ent) : F tab 57 [.d (.str s)] hp = some (.ret (.d (iv (sizeL (bs s)))) hp) := by
  obtain ⟨va, vd⟩ := bs_get h0
  have e := bs_nb h0
  rw [hc] at e
  have xa : (c < 128) = False := eq_false (by omega)
  have xb : (c ≥ 194) = True := eq_true (by omega)
  have xd : (c ≤ 223) = False := eq_false (by omega)
  have xe : (c == 224) = false := by simp <;> omega
  have xf : (c ≥ 225) = True := eq_true (by omega)
  have xh : (c ≤ 239) = False := eq_false (by omega)
  have xi : (c != 237) = true := by simp <;> omega
  have xj : (c == 237) = false := by simp <;> omega
  have xk : (c == 240) = false := by simp <;> omega
  have xl : (c ≥ 241) = True := eq_true (by omega)
  have xm : (c ≤ 243) = False := eq_false (by omega)
  have xn : (c == 244) = true := by simp <;> omega
  have ht : ∀ hp, F tab 71 [.d (.str s), .d (iv 3), .d (.int .u8 128), .d (.int .u8 143)] hp = _ := tail_ok s 3 128 143 (by omega) (by omega)
  refine f57 rfl ?_
  unfold sizeL
  rw [← e]
  rcases Bool.eq_false_or_eq_true (tailL (bs s) 3 128 143) with g | g <;> rw [g] at ht <;>
    simp (disch := omega) only [go_sem, r57_T, r57, va, hc, xa, xb, xd, xe, xf, xh, xi, xj, xk, xl, xm, xn, ht, g, decide_true, decide_false, Bool.true_and, Bool.false_and, Bool.true_or, Bool.false_or, Bool.and_false, Bool.and_true, Int.natCast_one] <;> rfl

theorem size_10 (s : ByteArray) (c : Int) (h0 : 0 < s.size) (hc : ((s[0].toNat : Nat) : Int) = c) (g1 : c ≥ 245) (g2 : c ≤ 255) (hp : List Ent) : F tab 57 [.d (.str s)] hp = some (.ret (.d (iv (sizeL (bs s)))) hp) := by
  obtain ⟨va, vd⟩ := bs_get h0
  have e := bs_nb h0
  rw [hc] at e
  have xa : (c < 128) = False := eq_false (by omega)
  have xb : (c ≥ 194) = True := eq_true (by omega)
  have xd : (c ≤ 223) = False := eq_false (by omega)
  have xe : (c == 224) = false := by simp <;> omega
  have xf : (c ≥ 225) = True := eq_true (by omega)
  have xh : (c ≤ 239) = False := eq_false (by omega)
  have xi : (c != 237) = true := by simp <;> omega
  have xj : (c == 237) = false := by simp <;> omega
  have xk : (c == 240) = false := by simp <;> omega
  have xl : (c ≥ 241) = True := eq_true (by omega)
  have xm : (c ≤ 243) = False := eq_false (by omega)
  have xn : (c == 244) = false := by simp <;> omega
  refine f57 rfl ?_
  unfold sizeL
  rw [← e]
  simp (disch := omega) only [go_sem, r57_T, r57, va, hc, xa, xb, xd, xe, xf, xh, xi, xj, xk, xl, xm, xn, decide_true, decide_false, Bool.true_and, Bool.false_and, Bool.true_or, Bool.false_or, Bool.and_false, Bool.and_true, Int.natCast_one]
  try rfl

theorem usize_ok (s : ByteArray) (h0 : 0 < s.size) (hp : List Ent) : F tab 57 [.d (.str s)] hp = some (.ret (.d (iv (sizeL (bs s)))) hp) := by
  have hb : s[0].toNat < 256 := UInt8.toNat_lt _
  by_cases c0 : ((s[0].toNat : Nat) : Int) ≤ 127
  · exact size_0 s _ h0 rfl (by omega) (by omega) hp
  by_cases c1 : ((s[0].toNat : Nat) : Int) ≤ 193
  · exact size_1 s _ h0 rfl (by omega) (by omega) hp
  by_cases c2 : ((s[0].toNat : Nat) : Int) ≤ 223
  · exact size_2 s _ h0 rfl (by omega) (by omega) hp
  by_cases c3 : ((s[0].toNat : Nat) : Int) ≤ 224
  · exact size_3 s _ h0 rfl (by omega) (by omega) hp
  by_cases c4 : ((s[0].toNat : Nat) : Int) ≤ 236
  · exact size_4 s _ h0 rfl (by omega) (by omega) hp
  by_cases c5 : ((s[0].toNat : Nat) : Int) ≤ 237
  · exact size_5 s _ h0 rfl (by omega) (by omega) hp
  by_cases c6 : ((s[0].toNat : Nat) : Int) ≤ 239
  · exact size_6 s _ h0 rfl (by omega) (by omega) hp
  by_cases c7 : ((s[0].toNat : Nat) : Int) ≤ 240
  · exact size_7 s _ h0 rfl (by omega) (by omega) hp
  by_cases c8 : ((s[0].toNat : Nat) : Int) ≤ 243
  · exact size_8 s _ h0 rfl (by omega) (by omega) hp
  by_cases c9 : ((s[0].toNat : Nat) : Int) ≤ 244
  · exact size_9 s _ h0 rfl (by omega) (by omega) hp
  exact size_10 s _ h0 rfl (by omega) (by omega) hp
end Go.Pe.T

namespace Go.Pe.T
inductive BS : PV → PV → List UInt8 → Prop
  | fresh : BS (.bnil bldT) .nilsl []
  | used (out : List UInt8) : BS (.ptr 0 1) (.own bldE (bytesD out)) out
theorem bs_at {A B r lo : PV} {out : List UInt8} (h : BS A B out) : bldAt bldT bldE 0 1 [.box [r, A, B, lo]] = some ([r, A, B, lo], bytesD out) := by
  cases h <;> rfl
theorem bytesD_len (l : List UInt8) : (bytesD l).length = l.length := by simp [bytesD]
theorem bytesD_app (a b : List UInt8) : bytesD a ++ bytesD b = bytesD (a ++ b) := by simp [bytesD]
theorem ws_ok {A B r lo : PV} {out : List UInt8} (h : BS A B out) (s : ByteArray) (hs : out.length + s.size ≤ 140737488355328) : F tab 66 [.ptr 0 1, .d (.str s)] [.box [r, A, B, lo]] = some (.ret (.tup [.d (.int .i64 s.size), .d .nili]) [.box [r, .ptr 0 1, .own bldE (bytesD (out ++ bs s)), lo]]) := by
  have := f66 (bs_at (r := r) (lo := lo) h) (s := s) (by rw [bytesD_len]; exact hs)
  rw [this, show bytesD out ++ bytesD s.data.toList = bytesD (out ++ bs s) from bytesD_app _ _]
  rfl
theorem wb_ok {A B r lo : PV} {out : List UInt8} (h : BS A B out) (c : UInt8) (hs : out.length + 1 ≤ 140737488355328) : F tab 56 [.ptr 0 1, .d (.int .u8 ((c.toNat : Nat) : Int))] [.box [r, A, B, lo]] = some (.ret (.d .nili) [.box [r, .ptr 0 1, .own bldE (bytesD (out ++ [c])), lo]]) := by
  have := f56 (bs_at (r := r) (lo := lo) h) (c := ((c.toNat : Nat) : Int)) (by rw [bytesD_len]; exact hs)
  rw [this, show bytesD out ++ [D.int .u8 ((c.toNat : Nat) : Int)] = bytesD (out ++ [c]) from bytesD_app _ [c]]
  rfl
abbrev rdH (R : List UInt8) (A B lo : PV) : List Ent := [.box [.d (.str (bt R)), A, B, lo]]
def or32B (c : UInt8) : UInt8 := c ||| 32
theorem or32B_all : ∀ n : Fin 256, bitsD .or .u8 (n.val : Int) 32 = some (.int .u8 (((UInt8.ofNat n.val) ||| 32).toNat : Int)) := by
  intro n
  have h : ∀ n : Fin 256, IntKind.u8.wrap ((BitVec.ofInt IntKind.u8.bits (n.val : Int) ||| BitVec.ofInt IntKind.u8.bits 32).toNat : Int) = (((UInt8.ofNat n.val) ||| 32).toNat : Int) := by decide +kernel
  show some (D.int .u8 _) = _
  rw [h n]
theorem or32B_ok (c : UInt8) : bitsD .or .u8 ((c.toNat : Nat) : Int) 32 = some (.int .u8 (((or32B c).toNat : Nat) : Int)) := by
  have := or32B_all ⟨c.toNat, c.toNat_lt⟩
  simpa [or32B] using this
def hexL : List UInt8 := [48, 49, 50, 51, 52, 53, 54, 55, 56, 57, 97, 98, 99, 100, 101, 102]
def hexP (c : UInt8) : Option Int := if Lib.indexByte hexL (or32B c) < 0 ∨ c.toNat < 48 then none else some (Lib.indexByte hexL (or32B c))
def shlI (n : Int) (k : Nat) : Int := IntKind.i32.wrap (n * 2 ^ min k IntKind.i32.bits)
theorem shl4_ok (n : Int) : shiftD .shl .i32 n 4 = some (.int .i32 (shlI n 4)) := rfl
theorem shl10_ok (n : Int) : shiftD .shl .i32 n 10 = some (.int .i32 (shlI n 10)) := rfl
def orI (a b : Int) : Int := IntKind.i32.wrap ((BitVec.ofInt IntKind.i32.bits a ||| BitVec.ofInt IntKind.i32.bits b).toNat : Int)
theorem orI_ok (a b : Int) : bitsD .or .i32 a b = some (.int .i32 (orI a b)) := rfl
def stR (n k : Int) : Int := orI (shlI n 4) (IntKind.i32.wrap k)
def fourF : Nat → List UInt8 → Int → Option Int
  | 0, _, n => some n
  | _ + 1, [], _ => none
  | k + 1, c :: r, n => match hexP c with
    | some d => fourF k r (stR n d)
    | none => none
def fourP (R : List UInt8) : Option (Int × List UInt8) := if R.length < 4 then none else (fourF 4 R 0).map (·, R.drop 4)
def foR (hp : List Ent) : Option Int → Option (Ex × St)
  | some m => some (.norm, r78_E0 (.ptr 0 0) (.d (.int .i32 m)) hp)
  | none => some (.ret, r78_R (.d (.int .i32 0)) (.d (.bool false)) hp)
def FoIs (R : List UInt8) (A B lo : PV) (i : Nat) (n : Int) : Prop :=
  V (F tab) r78_B0 (r78_S0 (.ptr 0 0) (.d (.int .i32 n)) (.d (iv i)) (rdH R A B lo)) = foR (rdH R A B lo) (fourF (4 - i) (R.drop i) n)
theorem fo_end (R : List UInt8) (A B lo : PV) (n : Int) : FoIs R A B lo 4 n := by
  unfold FoIs
  have h1 : (((4 : Nat) : Int) < 4) = False := eq_false (by decide)
  rw [r78_B0_eq]
  simp (disch := omega) only [go_sem, r78_C0, h1, foR, fourF, Nat.sub_self]
theorem fo_step (R : List UInt8) (A B lo : PV) (i : Nat) (n : Int) (hi : i < 4) (hR : 4 ≤ R.length) (ih : ∀ m, FoIs R A B lo (i + 1) m) : FoIs R A B lo i n := by
  have h1 : ((i : Int) < 4) = True := eq_true (by omega)
  have i0 : (0 ≤ (i : Int)) = True := eq_true (by omega)
  have e1 : (i : Int) + 1 = ((i + 1 : Nat) : Int) := rfl
  have hx : R[i]? = some R[i] := List.getElem?_eq_getElem (by omega)
  have hd : R.drop i = R[i] :: R.drop (i + 1) := List.drop_eq_getElem_cons (by omega)
  have hg := bt_get R i
  rw [hx] at hg
  have hb := or32B_ok R[i]
  have hib := ib_ok hexL (or32B R[i])
  unfold hexL at hib
  have hs := shl4_ok n
  have hor := orI_ok
  unfold FoIs
  rw [hd, show 4 - i = (4 - (i + 1)) + 1 by omega, fourF]
  rw [r78_B0_eq]
  generalize R[i] = c at *
  unfold hexP
  by_cases g1 : Lib.indexByte hexL (or32B c) < 0
  · have k1 : (Lib.indexByte hexL (or32B c) < 0) = True := eq_true g1
    unfold hexL at k1
    rw [if_pos (.inl g1)]
    simp (disch := omega) only [go_sem, r78_C0, h1, i0, hg, hb, hib, k1, foR]
  · have k1 : (Lib.indexByte hexL (or32B c) < 0) = False := eq_false g1
    by_cases g2 : c.toNat < 48
    · have k2 : (((c.toNat : Nat) : Int) < 48) = True := eq_true (by omega)
      unfold hexL at k1
      rw [if_pos (.inr g2)]
      simp (disch := omega) only [go_sem, r78_C0, h1, i0, hg, hb, hib, k1, k2, foR]
    · have k2 : (((c.toNat : Nat) : Int) < 48) = False := eq_false (by omega)
      have ih1 := ih (stR n (Lib.indexByte hexL (or32B c)))
      rw [if_neg (by rintro (h | h) <;> contradiction)]
      unfold FoIs stR at ih1
      unfold stR
      unfold hexL at k1 ih1 ⊢
      simp (disch := omega) only [go_sem, r78_C0, h1, i0, hg, hb, hib, k1, k2, hs, hor, e1, w64]
      exact ih1
theorem fo_loop (R : List UInt8) (A B lo : PV) (hR : 4 ≤ R.length) : ∀ (d i : Nat) (n : Int), i + d = 4 → FoIs R A B lo i n
  | 0, i, n, h => by rw [show i = 4 by omega]; exact fo_end R A B lo n
  | d + 1, i, n, h => fo_step R A B lo i n (by omega) hR fun m => fo_loop R A B lo hR d (i + 1) m (by omega)
theorem four_ok (R : List UInt8) (A B lo : PV) (hl : R.length ≤ 100000) : F tab 78 [.ptr 0 0] (rdH R A B lo) = some (match fourP R with
    | some (n, R') => .ret (.tup [.d (.int .i32 n), .d (.bool true)]) (rdH R' A B lo)
    | none => .ret (.tup [.d (.int .i32 0), .d (.bool false)]) (rdH R A B lo)) := by
  have hz := bt_size R
  refine f78 ?_
  unfold fourP
  by_cases h : R.length < 4
  · have h1 : ((R.length : Int) < 4) = True := eq_true (by omega)
    rw [if_pos h]
    simp (disch := omega) only [go_sem, r78_T, r78, hz, h1]
  · have h1 : ((R.length : Int) < 4) = False := eq_false (by omega)
    have hL := fo_loop R A B lo (by omega) 4 0 0 rfl
    unfold FoIs at hL
    rw [List.drop_zero, Nat.sub_zero] at hL
    have hL : V (F tab) r78_B0 (r78_S0 (.ptr 0 0) (.d (.int .i32 0)) (.d (iv 0)) (rdH R A B lo)) = _ := hL
    rw [if_neg h]
    have hcut : (bt R).extract 4 R.length = bt (R.drop 4) := bt_from R 4 _ rfl
    have h5 : ((4 : Int) ≤ (R.length : Int)) = True := eq_true (by omega)
    have h6 : ((R.length : Int) ≤ (R.length : Int)) = True := eq_true (by omega)
    simp (disch := omega) only [go_sem, r78_T, r78, hz, h1]
    rw [r78_B0_n]
    erw [hL]
    cases fourF 4 R 0 with
    | none => simp (disch := omega) only [go_sem, foR, Option.map_none]
    | some m => simp (disch := omega) only [go_sem, foR, Option.map_some, hz, hcut, h5, h6]
def encL (n : Int) : List UInt8 := (Utf8.encode n).data.toList
theorem encL_le (n : Int) : (Utf8.encode n).size ≤ 4 := by
  unfold Utf8.encode
  simp only
  repeat' split
  all_goals (show (Array.size _) ≤ 4; simp)
def preU (R : List UInt8) : Bool := R.take 2 == [92, 117]
theorem hasPreU_ok (L : List UInt8) (hp : List Ent) : F tab 64 [.d (.str (bt L)), .d (.str ⟨#[92, 117]⟩)] hp = some (.ret (.d (.bool (preU L))) hp) := by
  have e2 : (⟨#[92, 117]⟩ : ByteArray).size = 2 := rfl
  obtain ⟨n, hn⟩ : ∃ n, n = L.length := ⟨_, rfl⟩
  have hz : (bt L).size = n := hn ▸ bt_size L
  have h0 : ∀ hp : List Ent, F tab 58 [.d (.str (bt L)), .d (.str ⟨#[92, 117]⟩)] hp = some (.ret (.d (.bool (preU L))) hp) := by
    intro hp
    refine f58 rfl ?_
    unfold preU
    by_cases h : 2 ≤ n
    · have k : ((n : Int) ≥ ((2 : Nat) : Int)) = True := eq_true (by omega)
      have k1 : (((2 : Nat) : Int) ≤ (n : Int)) = True := eq_true (by omega)
      have k2 : (0 ≤ ((2 : Nat) : Int)) = True := eq_true (by omega)
      have hx : (bt L).extract 0 2 = bt (L.take 2) := bt_to L 2
      have hq : ((bt (L.take 2)).toList == (⟨#[92, 117]⟩ : ByteArray).toList) = (L.take 2 == [92, 117]) := by
        rw [show (⟨#[92, 117]⟩ : ByteArray) = bt [92, 117] from rfl, bt_list, bt_list]
      simp (disch := omega) only [go_sem, strD_eql, r58_T, r58, hz, e2, k, k1, k2, hx, hq]
    · have k : ((n : Int) ≥ ((2 : Nat) : Int)) = False := eq_false (by omega)
      have hq : (L.take 2 == [92, 117]) = false := by
        have : L.take 2 ≠ [92, 117] := fun e => by have := congrArg List.length e; simp at this; omega
        simpa using this
      rw [hq]
      simp (disch := omega) only [go_sem, r58_T, r58, hz, e2, k]
  refine f64 rfl ?_
  simp only [go_sem, r64_T, r64, h0]
def surr (a b : Int) : Int := IntKind.i32.wrap (IntKind.i32.wrap (65536 + shlI (IntKind.i32.wrap (a - 55296)) 10) + IntKind.i32.wrap (b - 56320))
def pairP (R out : List UInt8) (lone : Bool) : Option (List UInt8 × List UInt8 × Bool) :=
  match fourP R with
  | none => none
  | some (a, R1) =>
    if a < 55296 ∨ a > 57343 then some (R1, out ++ encL a, lone)
    else if a > 56319 ∨ preU R1 = false then some (R1, out, true)
    else match fourP (R1.drop 2) with
      | none => none
      | some (b, R2) => if b < 56320 ∨ b > 57343 then some (R1, out, true) else some (R2, out ++ encL (surr a b), lone)
theorem pr_k1 (R : List UInt8) {A B : PV} {out : List UInt8} (h : BS A B out) (ho : out.length ≤ 10000000) (lo : PV) (a b : Int) : V (F tab) (r69_K1 ()) (r69_J1 (.ptr 0 0) (.d (.int .i32 a)) (.d (.int .i32 b)) (rdH R A B lo)) = some (.ret, r69_R (.d (.bool true)) (rdH R (.ptr 0 1) (.own bldE (bytesD (out ++ encL (surr a b)))) lo)) := by
  have hw := ws_ok (r := .d (.str (bt R))) (lo := lo) h (Utf8.encode (surr a b)) (by have := encL_le (surr a b); omega)
  unfold surr at hw ⊢
  have hs := shl10_ok
  simp (disch := omega) only [go_sem, r69_K1, hs, hw]
  rfl
end Go.Pe.T

namespace Go.Pe.T
abbrev bP (b : Bool) : PV := .d (.bool b)
def PrRes (f : PV → List Ent → St) (o : Option (List UInt8 × List UInt8 × Bool)) (r : Option (Ex × St)) : Prop :=
  match o with
  | some (R', out', lone') => ∃ A' B', BS A' B' out' ∧ r = some (.ret, f (.d (.bool true)) (rdH R' A' B' (bP lone')))
  | none => ∃ hp', r = some (.ret, f (.d (.bool false)) hp')
theorem pr_k2 (R1 R2 : List UInt8) {A B : PV} {out : List UInt8} (h : BS A B out) (ho : out.length ≤ 10000000) (lone : Bool) (a b : Int) :
    PrRes r69_R (if b < 56320 ∨ b > 57343 then some (R1, out, true) else some (R2, out ++ encL (surr a b), lone)) (V (F tab) (r69_K2 ()) (r69_J2 (.ptr 0 0) (.d (.int .i32 a)) (.d (.str (bt R1))) (.d (.int .i32 b)) (rdH R2 A B (bP lone)))) := by
  have k1 := pr_k1 R2 h ho (bP lone) a b
  by_cases g1 : b < 56320
  · have q1 : (b < 56320) = True := eq_true g1
    rw [if_pos (.inl g1)]
    refine ⟨A, B, h, ?_⟩
    simp (disch := omega) only [go_sem, r69_K2, q1]
  · have q1 : (b < 56320) = False := eq_false g1
    by_cases g2 : b > 57343
    · have q2 : (b > 57343) = True := eq_true g2
      rw [if_pos (.inr g2)]
      refine ⟨A, B, h, ?_⟩
      simp (disch := omega) only [go_sem, r69_K2, q1, q2]
    · have q2 : (b > 57343) = False := eq_false g2
      rw [if_neg (by rintro (h | h) <;> contradiction)]
      refine ⟨_, _, .used _, ?_⟩
      simp (disch := omega) only [go_sem, r69_K2, q1, q2, k1]
theorem fourP_len {R R' : List UInt8} {n : Int} (h : fourP R = some (n, R')) : R'.length + 4 ≤ R.length ∧ R' = R.drop 4 := by
  unfold fourP at h
  split at h
  · simp at h
  · obtain ⟨m, h1, h2⟩ := Option.map_eq_some_iff.1 h
    simp only [Prod.mk.injEq] at h2
    refine ⟨?_, h2.2.symm⟩
    rw [← h2.2]
    simp
    omega
theorem pr_k4 (R1 : List UInt8) (hR : R1.length ≤ 100000) (h2 : 2 ≤ R1.length) {A B : PV} {out : List UInt8} (h : BS A B out) (ho : out.length ≤ 10000000) (lone : Bool) (a : Int) :
    PrRes r69_R (match fourP (R1.drop 2) with
      | none => none
      | some (b, R2) => if b < 56320 ∨ b > 57343 then some (R1, out, true) else some (R2, out ++ encL (surr a b), lone)) (V (F tab) (r69_K4 ()) (r69_J4 (.ptr 0 0) (.d (.int .i32 a)) (rdH R1 A B (bP lone)))) := by
  obtain ⟨n, hn⟩ : ∃ n, n = R1.length := ⟨_, rfl⟩
  have hz : (bt R1).size = n := hn ▸ bt_size R1
  have hcut : (bt R1).extract 2 n = bt (R1.drop 2) := bt_from R1 2 n hn
  have h5 : ((2 : Int) ≤ (n : Int)) = True := eq_true (by omega)
  have h6 : ((n : Int) ≤ (n : Int)) = True := eq_true (by omega)
  have hf := four_ok (R1.drop 2) A B (bP lone) (by simp; omega)
  cases hq : fourP (R1.drop 2) with
  | none =>
    rw [hq] at hf
    refine ⟨rdH (R1.drop 2) A B (bP lone), ?_⟩
    simp (disch := omega) only [go_sem, r69_K4, hz, hcut, h5, h6, hf]
  | some p =>
    obtain ⟨b, R2⟩ := p
    rw [hq] at hf
    have k2 := pr_k2 R1 R2 h ho lone a b
    simp (disch := omega) only [go_sem, r69_K4, hz, hcut, h5, h6, hf]
    exact k2
theorem pr_k5 (R1 : List UInt8) (hR : R1.length ≤ 100000) {A B : PV} {out : List UInt8} (h : BS A B out) (ho : out.length ≤ 10000000) (lone : Bool) (a : Int) :
    PrRes r69_R (if a > 56319 ∨ preU R1 = false then some (R1, out, true) else match fourP (R1.drop 2) with
      | none => none
      | some (b, R2) => if b < 56320 ∨ b > 57343 then some (R1, out, true) else some (R2, out ++ encL (surr a b), lone)) (V (F tab) (r69_K5 ()) (r69_J5 (.ptr 0 0) (.d (.int .i32 a)) (rdH R1 A B (bP lone)))) := by
  have hp := hasPreU_ok R1
  by_cases g1 : a > 56319
  · have q1 : (a > 56319) = True := eq_true g1
    rw [if_pos (.inl g1)]
    refine ⟨A, B, h, ?_⟩
    simp (disch := omega) only [go_sem, r69_K5, q1]
  · have q1 : (a > 56319) = False := eq_false g1
    rcases Bool.eq_false_or_eq_true (preU R1) with g2 | g2
    · have h2 : 2 ≤ R1.length := by
        unfold preU at g2
        have := congrArg List.length (beq_iff_eq.1 g2)
        simp at this
        omega
      have k4 := pr_k4 R1 hR h2 h ho lone a
      rw [if_neg (by rintro (h | h); exact g1 h; rw [g2] at h; simp at h)]
      rw [g2] at hp
      simp (disch := omega) only [go_sem, r69_K5, q1, hp]
      exact k4
    · rw [if_pos (.inr g2)]
      rw [g2] at hp
      refine ⟨A, B, h, ?_⟩
      simp (disch := omega) only [go_sem, r69_K5, q1, hp]
theorem pr_k6 (R1 : List UInt8) (hR : R1.length ≤ 100000) {A B : PV} {out : List UInt8} (h : BS A B out) (ho : out.length ≤ 10000000) (lone : Bool) (a : Int) :
    PrRes r69_R (if a < 55296 ∨ a > 57343 then some (R1, out ++ encL a, lone) else if a > 56319 ∨ preU R1 = false then some (R1, out, true) else match fourP (R1.drop 2) with
      | none => none
      | some (b, R2) => if b < 56320 ∨ b > 57343 then some (R1, out, true) else some (R2, out ++ encL (surr a b), lone)) (V (F tab) (r69_K6 ()) (r69_J6 (.ptr 0 0) (.d (.int .i32 a)) (rdH R1 A B (bP lone)))) := by
  have hw := ws_ok (r := .d (.str (bt R1))) (lo := bP lone) h (Utf8.encode a) (by have := encL_le a; omega)
  have k5 := pr_k5 R1 hR h ho lone a
  by_cases g1 : a < 55296
  · have q1 : (a < 55296) = True := eq_true g1
    rw [if_pos (.inl g1)]
    refine ⟨_, _, .used _, ?_⟩
    simp (disch := omega) only [go_sem, r69_K6, q1, hw]
    rfl
  · have q1 : (a < 55296) = False := eq_false g1
    by_cases g2 : a > 57343
    · have q2 : (a > 57343) = True := eq_true g2
      rw [if_pos (.inr g2)]
      refine ⟨_, _, .used _, ?_⟩
      simp (disch := omega) only [go_sem, r69_K6, q1, q2, hw]
      rfl
    · have q2 : (a > 57343) = False := eq_false g2
      rw [if_neg (by rintro (h | h) <;> contradiction)]
      simp (disch := omega) only [go_sem, r69_K6, q1, q2]
      exact k5
def RdRes (o : Option (List UInt8 × List UInt8 × Bool)) (r : Option Out) : Prop :=
  match o with
  | some (R', out', lone') => ∃ A' B', BS A' B' out' ∧ r = some (.ret (.d (.bool true)) (rdH R' A' B' (bP lone')))
  | none => ∃ hp', r = some (.ret (.d (.bool false)) hp')
theorem pair_ok (R : List UInt8) (hR : R.length ≤ 100000) {A B : PV} {out : List UInt8} (h : BS A B out) (ho : out.length ≤ 10000000) (lone : Bool) : RdRes (pairP R out lone) (F tab 69 [.ptr 0 0] (rdH R A B (bP lone))) := by
  have hf := four_ok R A B (bP lone) hR
  unfold pairP
  cases hq : fourP R with
  | none =>
    rw [hq] at hf
    refine ⟨rdH R A B (bP lone), f69 ?_⟩
    simp (disch := omega) only [go_sem, r69_T, r69, hf]
  | some p =>
    obtain ⟨a, R1⟩ := p
    rw [hq] at hf
    obtain ⟨hl, _⟩ := fourP_len hq
    have k6 := pr_k6 R1 (by omega) h ho lone a
    simp only
    generalize (if a < 55296 ∨ a > 57343 then some (R1, out ++ encL a, lone) else if a > 56319 ∨ preU R1 = false then some (R1, out, true) else match fourP (R1.drop 2) with
      | none => none
      | some (b, R2) => if b < 56320 ∨ b > 57343 then some (R1, out, true) else some (R2, out ++ encL (surr a b), lone)) = o at *
    cases o with
    | none =>
      obtain ⟨hp', e⟩ := k6
      refine ⟨hp', f69 ?_⟩
      simp (disch := omega) only [go_sem, r69_T, r69, hf, e]
    | some p =>
      obtain ⟨R', out', lone'⟩ := p
      obtain ⟨A', B', hb, e⟩ := k6
      refine ⟨A', B', hb, f69 ?_⟩
      simp (disch := omega) only [go_sem, r69_T, r69, hf, e]
def escI : List UInt8 := [34, 92, 47, 98, 102, 110, 114, 116]
def escO : List UInt8 := [34, 92, 47, 8, 12, 10, 13, 9]
def escP (R out : List UInt8) (lone : Bool) : Option (List UInt8 × List UInt8 × Bool) :=
  match R with
  | [] => none
  | c :: r => if c == 117 then pairP r out lone else match escO[(Lib.indexByte escI c).toNat]? with
    | some d => if Lib.indexByte escI c < 0 then none else some (r, out ++ [d], lone)
    | none => none
theorem ib_lt : ∀ (l : List UInt8) (c : UInt8), Lib.indexByte l c < (l.length : Int) ∨ l = []
  | [], c => .inr rfl
  | b :: l, c => by
    refine .inl ?_
    unfold Lib.indexByte
    split
    · simp <;> omega
    · split
      · simp <;> omega
      · rcases ib_lt l c with h | h
        · simp only [List.length_cons]; omega
        · subst h; rename_i h1 h2; simp [Lib.indexByte] at h2
theorem esc_some (c : UInt8) : ∃ d, escO[(Lib.indexByte escI c).toNat]? = some d := by
  have h := ib_lt escI c
  have : (Lib.indexByte escI c).toNat < escO.length := by
    rcases h with h | h
    · have e : (escI.length : Int) = 8 := rfl
      have e2 : escO.length = 8 := rfl
      omega
    · simp [escI] at h
  exact ⟨_, List.getElem?_eq_getElem this⟩
theorem escape_ok (R : List UInt8) (hR : R.length ≤ 100000) {A B : PV} {out : List UInt8} (h : BS A B out) (ho : out.length ≤ 10000000) (lone : Bool) : RdRes (escP R out lone) (F tab 55 [.ptr 0 0] (rdH R A B (bP lone))) := by
  cases R with
  | nil =>
    have hq : ((bt ([] : List UInt8)).toList == (⟨#[]⟩ : ByteArray).toList) = true := by rw [show (⟨#[]⟩ : ByteArray) = bt [] from rfl, bt_list]; rfl
    refine ⟨rdH [] A B (bP lone), f55 ?_⟩
    simp (disch := omega) only [go_sem, strD_eql, r55_T, r55, hq]
  | cons c r =>
    obtain ⟨n, hn⟩ : ∃ n, n = (c :: r).length := ⟨_, rfl⟩
    have hz : (bt (c :: r)).size = n := hn ▸ bt_size (c :: r)
    have hg : (bt (c :: r))[0]? = some c := bt_get (c :: r) 0
    have hq : ((bt (c :: r)).toList == (⟨#[]⟩ : ByteArray).toList) = false := by
      rw [show (⟨#[]⟩ : ByteArray) = bt [] from rfl, bt_list, bt_list]; rfl
    have hcut : (bt (c :: r)).extract 1 n = bt r := bt_from (c :: r) 1 n hn
    have h5 : ((1 : Int) ≤ (n : Int)) = True := eq_true (by rw [hn]; simp; omega)
    have h6 : ((n : Int) ≤ (n : Int)) = True := eq_true (by omega)
    have u1 : (((c.toNat : Nat) : Int) == 117) = (c == 117) := u8_eq _ 117
    have hlr : r.length ≤ 100000 := by simp at hR; omega
    clear hn
    unfold escP
    rcases Bool.eq_false_or_eq_true (c == 117) with g | g
    · rw [g] at u1
      have hp := pair_ok r hlr h ho lone
      simp only [g, if_true]
      generalize pairP r out lone = o at *
      cases o with
      | none =>
        obtain ⟨hp', e⟩ := hp
        refine ⟨hp', f55 ?_⟩
        simp (disch := omega) only [go_sem, strD_eql, r55_T, r55, hq, hz, hg, hcut, h5, h6, u1, e]
      | some p =>
        obtain ⟨R', out', lone'⟩ := p
        obtain ⟨A', B', hb, e⟩ := hp
        refine ⟨A', B', hb, f55 ?_⟩
        simp (disch := omega) only [go_sem, strD_eql, r55_T, r55, hq, hz, hg, hcut, h5, h6, u1, e]
    · rw [g] at u1
      obtain ⟨d, hd⟩ := esc_some c
      have hib := ib_ok escI c
      simp only [g, Bool.false_eq_true, if_false, hd]
      have hgd := bt_get escO (Lib.indexByte escI c).toNat
      rw [hd] at hgd
      by_cases g2 : Lib.indexByte escI c < 0
      · have q2 : (Lib.indexByte escI c < 0) = True := eq_true g2
        rw [if_pos g2]
        unfold escI at hib q2
        refine ⟨rdH r A B (bP lone), f55 ?_⟩
        simp (disch := omega) only [go_sem, strD_eql, r55_T, r55, hq, hz, hg, hcut, h5, h6, u1, hib, q2]
      · have q2 : (Lib.indexByte escI c < 0) = False := eq_false g2
        have q3 : (0 ≤ Lib.indexByte escI c) = True := eq_true (by omega)
        have hw := wb_ok (r := .d (.str (bt r))) (lo := bP lone) h d (by omega)
        rw [if_neg g2]
        unfold escI at hib q2 q3 hgd
        unfold escO at hgd
        refine ⟨_, _, .used _, f55 ?_⟩
        simp (disch := omega) only [go_sem, strD_eql, r55_T, r55, hq, hz, hg, hcut, h5, h6, u1, hib, q2, q3, hgd, hw]
end Go.Pe.T

namespace Go.Pe.T
theorem bs_drop (s : ByteArray) (k : Nat) : bs (s.extract k s.size) = (bs s).drop k := by
  simp [bs, ByteArray.data_extract]
  rw [List.take_of_length_le]
  simp
theorem size_drop (s : ByteArray) (k : Nat) : (s.extract k s.size).size = s.size - k := by
  rw [← bs_len, bs_drop, List.length_drop, bs_len]

def VdIs (k : Nat) (s : ByteArray) : Prop :=
  V (F tab) r48_B0 (r48_S0 (.d (.str s)) []) = if validF k (bs s) then some (.norm, r48_E0 []) else some (.ret, r48_R (.d (.bool false)) [])
theorem vd_end (k : Nat) (s : ByteArray) (h : s.size = 0) : VdIs k s := by
  have e := isEb s
  have g : decide (s.size ≠ 0) = false := decide_eq_false (by omega)
  have hb : bs s = [] := List.eq_nil_of_length_eq_zero h
  unfold VdIs
  rw [r48_B0_eq, hb]
  cases k <;> simp (disch := omega) only [go_sem, r48_C0, strD_neq, e, g, Bool.not_true, Bool.not_false, validF]
theorem vd_step (k : Nat) (s : ByteArray) (h : 0 < s.size) (hs : s.size ≤ maxLen) (ih : 0 < sizeL (bs s) → VdIs k (s.extract (sizeL (bs s)) s.size)) : VdIs (k + 1) s := by
  have hmx : maxLen = 9223372036854775807 := by decide
  have e := isEb s
  have g : decide (s.size ≠ 0) = true := decide_eq_true (by omega)
  have hz := usize_ok s h
  have hne : bs s ≠ [] := by
    intro e0
    have := bs_len s
    rw [e0, List.length_nil] at this
    omega
  have hle := sizeL_le (bs s) hne
  rw [bs_len] at hle
  unfold VdIs at ih ⊢
  rw [r48_B0_eq]
  obtain ⟨c, r, hcr⟩ : ∃ c r, bs s = c :: r := by cases hb : bs s with | nil => exact absurd hb hne | cons c r => exact ⟨c, r, rfl⟩
  by_cases h0 : sizeL (bs s) = 0
  · have g0 : validF (k + 1) (bs s) = false := by rw [hcr] at h0 ⊢; simp [validF, h0]
    have g1 : ((sizeL (bs s) : Int) == 0) = true := by simp [h0]
    rw [g0]
    simp (disch := omega) only [go_sem, r48_C0, strD_neq, e, g, Bool.not_true, Bool.not_false, hz, g1]
  · have g0 : validF (k + 1) (bs s) = validF k ((bs s).drop (sizeL (bs s))) := by rw [hcr] at h0 ⊢; simp [validF, h0]
    have g1 : ((sizeL (bs s) : Int) == 0) = false := by simp [h0]
    have ih := ih (by omega)
    rw [bs_drop] at ih
    have h1 : ((sizeL (bs s) : Int) ≤ (s.size : Int)) = True := eq_true (by omega)
    have h2 : (0 ≤ (sizeL (bs s) : Int)) = True := eq_true (by omega)
    have h3 : ((s.size : Int) ≤ (s.size : Int)) = True := eq_true (by omega)
    rw [g0]
    simp (disch := omega) only [go_sem, r48_C0, strD_neq, e, g, Bool.not_true, Bool.not_false, hz, g1, h1, h2, h3, decide_true]
    exact ih
theorem vd_all : ∀ (k : Nat) (s : ByteArray), s.size ≤ k → s.size ≤ maxLen → VdIs k s
  | 0, s, h, _ => vd_end 0 s (by omega)
  | k + 1, s, h, hs => by
    by_cases h0 : s.size = 0
    · exact vd_end _ s h0
    · exact vd_step k s (by omega) hs fun hp => vd_all k _ (by rw [size_drop]; omega) (by rw [size_drop]; omega)
theorem valid_ok (s : ByteArray) (hs : s.size ≤ maxLen) (hp : List Ent) : F tab 48 [.d (.str s)] hp = some (.ret (.d (.bool (validB s))) hp) := by
  have hL := vd_all s.size s (Nat.le_refl _) hs
  unfold VdIs at hL
  refine f48 rfl ?_
  unfold validB
  simp (disch := omega) only [go_sem, r48_T, r48]
  rw [r48_B0_n]
  erw [hL]
  rcases Bool.eq_false_or_eq_true (validF s.size (bs s)) with g | g <;> rw [g] <;> simp only [go_sem]
end Go.Pe.T

namespace Go.Pe.T
theorem encL_len (n : Int) : (encL n).length ≤ 4 := encL_le n
theorem pairP_len {R R' out out' : List UInt8} {lone lone' : Bool} (h : pairP R out lone = some (R', out', lone')) : R'.length ≤ R.length ∧ out'.length ≤ out.length + 4 := by
  unfold pairP at h
  split at h
  · simp at h
  · rename_i a R1 hq
    obtain ⟨h1, _⟩ := fourP_len hq
    split at h
    · simp only [Option.some.injEq, Prod.mk.injEq] at h
      obtain ⟨rfl, rfl, _⟩ := h
      have := encL_len a
      exact ⟨by omega, by simp; omega⟩
    · split at h
      · simp only [Option.some.injEq, Prod.mk.injEq] at h
        obtain ⟨rfl, rfl, _⟩ := h
        exact ⟨by omega, by omega⟩
      · split at h
        · simp at h
        · rename_i b R2 hq2
          obtain ⟨h2, _⟩ := fourP_len hq2
          rw [List.length_drop] at h2
          split at h
          · simp only [Option.some.injEq, Prod.mk.injEq] at h
            obtain ⟨rfl, rfl, _⟩ := h
            exact ⟨by omega, by omega⟩
          · simp only [Option.some.injEq, Prod.mk.injEq] at h
            obtain ⟨rfl, rfl, _⟩ := h
            have := encL_len (surr a b)
            exact ⟨by omega, by simp; omega⟩
theorem escP_len {R R' out out' : List UInt8} {lone lone' : Bool} (h : escP R out lone = some (R', out', lone')) : R'.length ≤ R.length ∧ out'.length ≤ out.length + 4 := by
  unfold escP at h
  split at h
  · simp at h
  · rename_i c r
    split at h
    · have := pairP_len h
      simp only [List.length_cons]
      omega
    · split at h
      · split at h
        · simp at h
        · simp only [Option.some.injEq, Prod.mk.injEq] at h
          obtain ⟨rfl, rfl, _⟩ := h
          exact ⟨by simp, by simp⟩
      · simp at h
def allP : Nat → List UInt8 → List UInt8 → Bool → Option (List UInt8 × Bool)
  | _, [], out, lone => some (out, lone)
  | 0, _ :: _, _, _ => none
  | f + 1, c :: r, out, lone => if c == 34 || decide (c.toNat < 32) then none else if c == 92 then (match escP r out lone with
    | some (R', out', lone') => allP f R' out' lone'
    | none => none) else allP f r (out ++ [c]) lone
def AllRes (o : Option (List UInt8 × Bool)) (r : Option (Ex × St)) : Prop :=
  match o with
  | some (out', lone') => ∃ A' B', BS A' B' out' ∧ r = some (.norm, r46_E0 (rdH [] A' B' (bP lone')))
  | none => ∃ hp', r = some (.ret, r46_R (.d (.bool false)) hp')
theorem al_nil {A B : PV} {out : List UInt8} (h : BS A B out) (lone : Bool) : AllRes (some (out, lone)) (V (F tab) r46_B0 (r46_S0 (.ptr 0 0) (rdH [] A B (bP lone)))) := by
  have hq : ((bt ([] : List UInt8)).toList == (⟨#[]⟩ : ByteArray).toList) = true := by rw [show (⟨#[]⟩ : ByteArray) = bt [] from rfl, bt_list]; rfl
  refine ⟨A, B, h, ?_⟩
  rw [r46_B0_eq]
  simp (disch := omega) only [go_sem, strD_neq, r46_C0, hq, Bool.not_true]
theorem al_step (f : Nat) (c : UInt8) (r : List UInt8) (hr : r.length ≤ 100000) {A B : PV} {out : List UInt8} (h : BS A B out) (ho : out.length ≤ 9000000) (lone : Bool)
    (ih1 : ∀ {A B : PV}, BS A B (out ++ [c]) → AllRes (allP f r (out ++ [c]) lone) (V (F tab) r46_B0 (r46_S0 (.ptr 0 0) (rdH r A B (bP lone)))))
    (ih2 : ∀ R' out' lone', escP r out lone = some (R', out', lone') → ∀ {A B : PV}, BS A B out' → AllRes (allP f R' out' lone') (V (F tab) r46_B0 (r46_S0 (.ptr 0 0) (rdH R' A B (bP lone'))))) :
    AllRes (allP (f + 1) (c :: r) out lone) (V (F tab) r46_B0 (r46_S0 (.ptr 0 0) (rdH (c :: r) A B (bP lone)))) := by
  obtain ⟨n, hn⟩ : ∃ n, n = (c :: r).length := ⟨_, rfl⟩
  have hz : (bt (c :: r)).size = n := hn ▸ bt_size (c :: r)
  have hg : (bt (c :: r))[0]? = some c := bt_get (c :: r) 0
  have hq : ((bt (c :: r)).toList == (⟨#[]⟩ : ByteArray).toList) = false := by
    rw [show (⟨#[]⟩ : ByteArray) = bt [] from rfl, bt_list, bt_list]; rfl
  have hcut : (bt (c :: r)).extract 1 n = bt r := bt_from (c :: r) 1 n hn
  have h5 : ((1 : Int) ≤ (n : Int)) = True := eq_true (by rw [hn]; simp; omega)
  have h6 : ((n : Int) ≤ (n : Int)) = True := eq_true (by omega)
  have u1 : (((c.toNat : Nat) : Int) == 34) = (c == 34) := u8_eq _ 34
  have u2 : (((c.toNat : Nat) : Int) == 92) = (c == 92) := u8_eq _ 92
  clear hn
  unfold allP
  rcases Bool.eq_false_or_eq_true (c == 34) with g1 | g1
  · rw [g1] at u1
    simp only [g1, Bool.true_or, if_true]
    refine ⟨rdH r A B (bP lone), ?_⟩
    rw [r46_B0_eq]
    simp (disch := omega) only [go_sem, strD_neq, r46_C0, hq, Bool.not_false, hz, hg, hcut, h5, h6, u1]
  · rw [g1] at u1
    by_cases g2 : c.toNat < 32
    · have q2 : (((c.toNat : Nat) : Int) < 32) = True := eq_true (by omega)
      simp only [g1, decide_eq_true g2, Bool.or_true, if_true]
      refine ⟨rdH r A B (bP lone), ?_⟩
      rw [r46_B0_eq]
      simp (disch := omega) only [go_sem, strD_neq, r46_C0, hq, Bool.not_false, hz, hg, hcut, h5, h6, u1, q2]
    · have q2 : (((c.toNat : Nat) : Int) < 32) = False := eq_false (by omega)
      simp only [g1, decide_eq_false g2, Bool.or_false, Bool.false_eq_true, if_false]
      rcases Bool.eq_false_or_eq_true (c == 92) with g3 | g3
      · rw [g3] at u2
        simp only [g3, if_true]
        have he := escape_ok r hr h (by omega) lone
        cases hx : escP r out lone with
        | none =>
          rw [hx] at he
          obtain ⟨hp', e⟩ := he
          refine ⟨hp', ?_⟩
          rw [r46_B0_eq]
          simp (disch := omega) only [go_sem, strD_neq, r46_C0, hq, Bool.not_false, hz, hg, hcut, h5, h6, u1, q2, u2, e]
        | some p =>
          obtain ⟨R', out', lone'⟩ := p
          rw [hx] at he
          obtain ⟨A', B', hb, e⟩ := he
          have k := ih2 R' out' lone' hx hb
          simp only
          rw [r46_B0_eq]
          simp (disch := omega) only [go_sem, strD_neq, r46_C0, hq, Bool.not_false, hz, hg, hcut, h5, h6, u1, q2, u2, e]
          exact k
      · rw [g3] at u2
        simp only [g3, Bool.false_eq_true, if_false]
        have hw := wb_ok (r := .d (.str (bt r))) (lo := bP lone) h c (by omega)
        have k := ih1 (.used _)
        rw [r46_B0_eq]
        simp (disch := omega) only [go_sem, strD_neq, r46_C0, hq, Bool.not_false, hz, hg, hcut, h5, h6, u1, q2, u2, hw]
        exact k
theorem al_loop : ∀ (f : Nat) (R : List UInt8) {A B : PV} {out : List UInt8} (lone : Bool), BS A B out → R.length ≤ f → R.length ≤ 100000 → out.length + 4 * f ≤ 9000000 → AllRes (allP f R out lone) (V (F tab) r46_B0 (r46_S0 (.ptr 0 0) (rdH R A B (bP lone))))
  | f, [], A, B, out, lone, h, _, _, _ => by cases f <;> exact al_nil h lone
  | 0, c :: r, A, B, out, lone, h, hf, _, _ => by simp at hf
  | f + 1, c :: r, A, B, out, lone, h, hf, hl, ho => by
    simp only [List.length_cons] at hf hl
    refine al_step f c r (by omega) h (by omega) lone (fun hb => al_loop f r lone hb (by omega) (by omega) (by simp; omega)) ?_
    intro R' out' lone' he A' B' hb
    obtain ⟨h1, h2⟩ := escP_len he
    exact al_loop f R' lone' hb (by omega) (by omega) (by omega)
def AlRes (o : Option (List UInt8 × Bool)) (r : Option Out) : Prop :=
  match o with
  | some (out', lone') => ∃ A' B', BS A' B' out' ∧ r = some (.ret (.d (.bool true)) (rdH [] A' B' (bP lone')))
  | none => ∃ hp', r = some (.ret (.d (.bool false)) hp')
theorem rall_ok (R : List UInt8) (hR : R.length ≤ 100000) {A B : PV} (h : BS A B []) : AlRes (allP R.length R [] false) (F tab 46 [.ptr 0 0] (rdH R A B (bP false))) := by
  have hl := al_loop R.length R false h (Nat.le_refl _) hR (by simp; omega)
  generalize allP R.length R [] false = o at *
  cases o with
  | none =>
    obtain ⟨hp', e⟩ := hl
    refine ⟨hp', f46 ?_⟩
    simp (disch := omega) only [go_sem, r46_T, r46]
    rw [r46_B0_n]
    erw [e]
    simp only [go_sem]
  | some p =>
    obtain ⟨out', lone'⟩ := p
    obtain ⟨A', B', hb, e⟩ := hl
    refine ⟨A', B', hb, f46 ?_⟩
    simp (disch := omega) only [go_sem, r46_T, r46]
    rw [r46_B0_n]
    erw [e]
    simp only [go_sem]
theorem st_ok {A B r lo : PV} {out : List UInt8} (h : BS A B out) : F tab 47 [.ptr 0 1] [.box [r, A, B, lo]] = some (.ret (.d (.str (bt out))) [.box [r, A, .d (.sl (bytesD out)), lo]]) := by
  have := f47 (bs_at (r := r) (lo := lo) h)
  rw [this]
  rfl
def unqP (t : List UInt8) : List UInt8 × Int :=
  match t[0]?, t[t.length - 1]? with
  | some a, some b => if t.length < 2 ∨ a ≠ 34 ∨ b ≠ 34 then ([], 3) else match allP (t.length - 2) ((t.take (t.length - 1)).drop 1) [] false with
    | none => ([], 3)
    | some (out, lone) => if (lone || !validB (bt out)) = true then ([], 7) else (out, 0)
  | _, _ => ([], 3)
theorem bxn_rd (s : ByteArray) : bxnCells [(1, bldT)] 0 [.str s, .nilp, .nils, .bool false] = [.d (.str s), .bnil bldT, .nilsl, .d (.bool false)] := rfl
theorem allP_len : ∀ (f : Nat) (R out : List UInt8) (lone : Bool) {out' : List UInt8} {lone' : Bool}, allP f R out lone = some (out', lone') → out'.length ≤ out.length + 4 * f
  | f, [], out, lone, out', lone', h => by
    cases f <;> (simp only [allP, Option.some.injEq, Prod.mk.injEq] at h; rw [← h.1]; omega)
  | 0, c :: r, out, lone, out', lone', h => by simp [allP] at h
  | f + 1, c :: r, out, lone, out', lone', h => by
    unfold allP at h
    split at h
    · simp at h
    · split at h
      · split at h
        · rename_i R2 out2 lone2 he
          have h1 := allP_len f _ _ _ h
          obtain ⟨_, h2⟩ := escP_len he
          omega
        · simp at h
      · have h1 := allP_len f _ _ _ h
        simp at h1
        omega
theorem unquote_ok (t : List UInt8) (ht : t.length ≤ 100000) (hp : List Ent) : F tab 38 [.d (.str (bt t))] hp = some (.ret (.tup [.d (.str (bt (unqP t).1)), .d (iv (unqP t).2)]) hp) := by
  obtain ⟨n, hn⟩ : ∃ n, n = t.length := ⟨_, rfl⟩
  have hz : (bt t).size = n := hn ▸ bt_size t
  refine f38 rfl ?_
  have hm : maxLen = 9223372036854775807 := by decide
  by_cases h2 : n < 2
  · have q : ((n : Int) < 2) = True := eq_true (by omega)
    have e : unqP t = ([], 3) := by
      unfold unqP
      split
      · rw [if_pos (.inl (by omega))]
      · rfl
    rw [e]
    simp (disch := omega) only [go_sem, r38_T, r38, hz, q]
  · have q : ((n : Int) < 2) = False := eq_false (by omega)
    have ha : t[0]? = some t[0] := List.getElem?_eq_getElem (by omega)
    have hb : t[t.length - 1]? = some t[t.length - 1] := List.getElem?_eq_getElem (by omega)
    have ga := bt_get t 0
    have gb : (bt t)[n - 1]? = some t[t.length - 1] := by
      rw [bt_get, show n - 1 = t.length - 1 by omega]
      exact hb
    rw [ha] at ga
    have e1 : (n : Int) - 1 = ((n - 1 : Nat) : Int) := by omega
    have i1 : (0 ≤ ((n - 1 : Nat) : Int)) = True := eq_true (by omega)
    have c1 : ((1 : Int) ≤ ((n - 1 : Nat) : Int)) = True := eq_true (by omega)
    have c2 : (((n - 1 : Nat) : Int) ≤ (n : Int)) = True := eq_true (by omega)
    have hcut : (bt t).extract 1 (n - 1) = bt ((t.take (n - 1)).drop 1) := bt_ext t 1 (n - 1)
    have u1 : (((t[0].toNat : Nat) : Int) == 34) = (t[0] == 34) := u8_eq _ 34
    have u2 : (((t[t.length - 1].toNat : Nat) : Int) == 34) = (t[t.length - 1] == 34) := u8_eq _ 34
    have eu : unqP t = if t.length < 2 ∨ t[0] ≠ 34 ∨ t[t.length - 1] ≠ 34 then (([], 3) : List UInt8 × Int) else match allP (t.length - 2) ((t.take (t.length - 1)).drop 1) [] false with
      | none => (([], 3) : List UInt8 × Int)
      | some (out, lone) => if (lone || !validB (bt out)) = true then ([], 7) else (out, 0) := by
      unfold unqP
      simp only [ha, hb]
    rw [eu]
    have v1 : (((t[0].toNat : Nat) : Int) != 34) = !(t[0] == 34) := by rw [bne, u1]
    have v2 : (((t[t.length - 1].toNat : Nat) : Int) != 34) = !(t[t.length - 1] == 34) := by rw [bne, u2]
    generalize t[0] = a at *
    generalize t[t.length - 1] = b at *
    rcases Bool.eq_false_or_eq_true (a == 34) with g1 | g1
    · rw [g1] at v1
      rcases Bool.eq_false_or_eq_true (b == 34) with g2 | g2
      · rw [g2] at v2
        rw [if_neg (by rintro (h | h | h); omega; exact h (by simpa using g1); exact h (by simpa using g2))]
        have hlen : ((t.take (n - 1)).drop 1).length = n - 2 := by simp; omega
        have hal := rall_ok ((t.take (n - 1)).drop 1) (by omega) .fresh
        rw [hlen] at hal
        rw [← hn]
        have hbx := bxn_rd (bt ((t.take (n - 1)).drop 1))
        cases hx : allP (n - 2) ((t.take (n - 1)).drop 1) [] false with
        | none =>
          rw [hx] at hal
          obtain ⟨hp', e⟩ := hal
          simp (disch := omega) only [go_sem, r38_T, r38, hz, q, ga, gb, e1, i1, c1, c2, hcut, v1, v2, Bool.not_true, w64, hbx, e]
        | some p =>
          obtain ⟨out', lone'⟩ := p
          rw [hx] at hal
          obtain ⟨A', B', hb', e⟩ := hal
          have hs := st_ok (r := .d (.str (bt []))) (lo := bP lone') hb'
          have hvl : out'.length ≤ 4 * (n - 2) := by
            have := allP_len _ _ _ _ hx
            simpa using this
          have hv := valid_ok (bt out') (by rw [bt_size, hm]; omega)
          simp only
          cases lone' with
          | true =>
            simp (disch := omega) only [go_sem, r38_T, r38, hz, q, ga, gb, e1, i1, c1, c2, hcut, v1, v2, Bool.not_true, w64, hbx, e, hs, Bool.true_or]
          | false =>
            rcases Bool.eq_false_or_eq_true (validB (bt out')) with g3 | g3
            · rw [g3] at hv
              simp (disch := omega) only [go_sem, r38_T, r38, hz, q, ga, gb, e1, i1, c1, c2, hcut, v1, v2, Bool.not_true, w64, hbx, e, hs, hv, g3, Bool.or_false, Bool.false_or]
            · rw [g3] at hv
              simp (disch := omega) only [go_sem, r38_T, r38, hz, q, ga, gb, e1, i1, c1, c2, hcut, v1, v2, Bool.not_true, Bool.not_false, w64, hbx, e, hs, hv, g3, Bool.or_true, Bool.false_or]
      · rw [g2] at v2
        rw [if_pos (.inr (.inr (by simpa using g2)))]
        simp (disch := omega) only [go_sem, r38_T, r38, hz, q, ga, gb, e1, i1, v1, v2, Bool.not_true, Bool.not_false, w64]
    · rw [g1] at v1
      rw [if_pos (.inr (.inl (by simpa using g1)))]
      simp (disch := omega) only [go_sem, r38_T, r38, hz, q, ga, gb, e1, i1, v1, Bool.not_false, w64]
end Go.Pe.T

namespace Go.Pe.T
structure Tk where
  k : Int
  t : List UInt8
  c : Int
  s : Int
def tkD (x : Tk) (at' : Int) : D := .agg [iv x.k, .str (bt x.t), iv x.c, iv x.s, iv at']
def tk0 : Tk := ⟨0, [], 0, 0⟩
abbrev TkR := Tk × Nat × Int
def tkV (r : TkR) (hp : List Ent) : Out := .ret (.tup [.d (tkD r.1 0), .d (iv (r.2.1 : Int)), .d (iv r.2.2)]) hp
def nmR (k : Int) (w : List UInt8) (more : Nat) : TkR := if w = [] ∨ 16 < w.length then (tk0, 0, 14) else (⟨k, w, 0, 0⟩, w.length + more, 0)
theorem isE_bt (L : List UInt8) : ((bt L).toList == (⟨#[]⟩ : ByteArray).toList) = decide (L = []) := by
  rw [show (⟨#[]⟩ : ByteArray) = bt [] from rfl, bt_list, bt_list]
  cases L <;> simp
theorem named_ok (k : Int) (w : List UInt8) (hw : w.length ≤ 100000) (more : Nat) (hm : more ≤ 10) (hp : List Ent) : F tab 21 [.d (iv k), .d (.str (bt w)), .d (iv (more : Int))] hp = some (tkV (nmR k w more) hp) := by
  obtain ⟨n, hn⟩ : ∃ n, n = w.length := ⟨_, rfl⟩
  have hz : (bt w).size = n := hn ▸ bt_size w
  have hq := isE_bt w
  have e1 : (n : Int) + (more : Int) = ((n + more : Nat) : Int) := rfl
  refine f21 rfl ?_
  unfold nmR
  by_cases h1 : w = []
  · rw [decide_eq_true h1] at hq
    rw [if_pos (.inl h1)]
    simp (disch := omega) only [go_sem, strD_eql, r21_T, r21, hq]
    rfl
  · rw [decide_eq_false h1] at hq
    by_cases h2 : 16 < w.length
    · have q : ((n : Int) > 16) = True := eq_true (by omega)
      rw [if_pos (.inr h2)]
      simp (disch := omega) only [go_sem, strD_eql, r21_T, r21, hq, hz, q]
      rfl
    · have q : ((n : Int) > 16) = False := eq_false (by omega)
      rw [if_neg (by rintro (h | h) <;> contradiction), ← hn]
      simp (disch := omega) only [go_sem, strD_eql, r21_T, r21, hq, hz, q, e1, w64]
      rfl
def numTk (L : List UInt8) : TkR := if (parseC (L.take (lngN L))).2.2 = 0 then (⟨3, L.take (lngN L), (parseC (L.take (lngN L))).1, (parseC (L.take (lngN L))).2.1⟩, lngN L, 0) else (tk0, 0, (parseC (L.take (lngN L))).2.2)
theorem number_ok (L : List UInt8) (hl : L.length ≤ 10000) (hp : List Ent) : F tab 24 [.d (.str (bt L))] hp = some (tkV (numTk L) hp) := by
  obtain ⟨n, hn⟩ : ∃ n, n = L.length := ⟨_, rfl⟩
  have hz : (bt L).size = n := hn ▸ bt_size L
  have hlg := long_ok L (by omega)
  have hle := lng_le L
  have hcut : (bt L).extract 0 (lngN L) = bt (L.take (lngN L)) := bt_to L _
  have hpa := parse_ok (L.take (lngN L)) (by simp; omega)
  have c1 : (0 ≤ ((lngN L : Nat) : Int)) = True := eq_true (by omega)
  have c2 : (((lngN L : Nat) : Int) ≤ (n : Int)) = True := eq_true (by omega)
  refine f24 rfl ?_
  unfold numTk
  unfold tupC at hpa
  generalize parseC (L.take (lngN L)) = p at *
  obtain ⟨c, s, e⟩ := p
  simp only at hpa ⊢
  generalize hm : lngN L = m at *
  by_cases h : e = 0
  · subst h
    rw [if_pos rfl]
    have q : ((0 : Int) != 0) = false := rfl
    simp (disch := omega) only [go_sem, r24_T, r24, hlg, hz, hcut, c1, c2, hpa, q]
    rfl
  · have q : (e != 0) = true := by simpa using h
    rw [if_neg h]
    simp (disch := omega) only [go_sem, r24_T, r24, hlg, hz, hcut, c1, c2, hpa, q]
    rfl
def txtR (L : List UInt8) : TkR := if qtN L = 0 ∨ (unqP (L.take (qtN L))).2 = 3 then (tk0, 0, 14) else if (unqP (L.take (qtN L))).2 = 0 then (⟨4, (unqP (L.take (qtN L))).1, 0, 0⟩, qtN L, 0) else (tk0, 0, (unqP (L.take (qtN L))).2)
theorem qtA_le : ∀ (m : Bool) (L : List UInt8) (n : Nat), qtA m L = some n → 1 ≤ n ∧ n ≤ L.length
  | _, [], n, h => by simp [qtA] at h
  | true, c :: r, n, h => by
    simp only [qtA, Option.map_eq_some_iff] at h
    obtain ⟨a, h1, h2⟩ := h
    have := qtA_le false r a h1
    simp; omega
  | false, c :: r, n, h => by
    simp only [qtA] at h
    split at h
    · simp only [Option.map_eq_some_iff] at h
      obtain ⟨a, h1, h2⟩ := h
      have := qtA_le true r a h1
      simp; omega
    · split at h
      · simp at h; simp; omega
      · simp only [Option.map_eq_some_iff] at h
        obtain ⟨a, h1, h2⟩ := h
        have := qtA_le false r a h1
        simp; omega
theorem qtN_le (L : List UInt8) : qtN L ≤ L.length := by
  unfold qtN
  split
  · rename_i n h
    have := qtA_le _ _ _ h
    rw [List.length_drop] at this
    omega
  · omega
theorem text_ok' (L : List UInt8) (hl : L.length ≤ 10000) (hp : List Ent) : F tab 25 [.d (.str (bt L))] hp = some (tkV (txtR L) hp) := by
  obtain ⟨n, hn⟩ : ∃ n, n = L.length := ⟨_, rfl⟩
  have hz : (bt L).size = n := hn ▸ bt_size L
  have hlg := quoted_ok L (by omega)
  have hle := qtN_le L
  have hcut : (bt L).extract 0 (qtN L) = bt (L.take (qtN L)) := bt_to L _
  have hun := unquote_ok (L.take (qtN L)) (by simp; omega)
  have c1 : (0 ≤ ((qtN L : Nat) : Int)) = True := eq_true (by omega)
  have c2 : (((qtN L : Nat) : Int) ≤ (n : Int)) = True := eq_true (by omega)
  refine f25 rfl ?_
  unfold txtR
  generalize unqP (L.take (qtN L)) = p at *
  obtain ⟨t, e⟩ := p
  simp only at hun ⊢
  generalize hm : qtN L = m at *
  by_cases h0 : m = 0
  · have q0 : ((m : Int) == 0) = true := by simp [h0]
    rw [if_pos (.inl h0)]
    simp (disch := omega) only [go_sem, r25_T, r25, hlg, hz, hcut, c1, c2, hun, q0]
    rfl
  · have q0 : ((m : Int) == 0) = false := by simp; omega
    by_cases h3 : e = 3
    · have q3 : (e == 3) = true := by simp [h3]
      rw [if_pos (.inr h3)]
      simp (disch := omega) only [go_sem, r25_T, r25, hlg, hz, hcut, c1, c2, hun, q0, q3]
      rfl
    · have q3 : (e == 3) = false := by simpa using h3
      rw [if_neg (by rintro (h | h) <;> contradiction)]
      by_cases h : e = 0
      · have q : (e != 0) = false := by simp [h]
        rw [if_pos h]
        simp (disch := omega) only [go_sem, r25_T, r25, hlg, hz, hcut, c1, c2, hun, q0, q3, q]
        rfl
      · have q : (e != 0) = true := by simpa using h
        rw [if_neg h]
        simp (disch := omega) only [go_sem, r25_T, r25, hlg, hz, hcut, c1, c2, hun, q0, q3, q]
        rfl
def sgR (L : List UInt8) : TkR := if sgnN L = 0 then (tk0, 0, 14) else (⟨5, L.take (sgnN L), 0, 0⟩, sgnN L, 0)
def oneR (L : List UInt8) : TkR :=
  match L with
  | [] => (tk0, 0, 14)
  | c :: r => if letB c.toNat then nmR 1 ((c :: r).take (runL 0 (c :: r))) 0 else if c == 36 then nmR 2 (r.take (runL 0 r)) 1 else if isDg c then numTk (c :: r) else if c == 34 then txtR (c :: r) else sgR (c :: r)
theorem sgnN_le (L : List UInt8) : sgnN L ≤ L.length := by
  unfold sgnN
  split
  · rename_i h
    unfold twoB at h
    split at h
    · simp
    · simp at h
  · split
    · split <;> simp
    · simp
theorem wordL_ok (L : List UInt8) (hl : L.length ≤ 100000) (hp : List Ent) : F tab 22 [.d (.str (bt L))] hp = some (.ret (.d (.str (bt (L.take (runL 0 L))))) hp) := by
  have hm : maxLen = 9223372036854775807 := by decide
  have h := word_ok (bt L) (by rw [bt_size, hm]; omega) hp
  rw [bs_bt] at h
  rw [h, bt_to]
theorem one_ok (L : List UInt8) (h0 : L ≠ []) (hl : L.length ≤ 10000) (hp : List Ent) : F tab 11 [.d (.str (bt L))] hp = some (tkV (oneR L) hp) := by
  cases L with
  | nil => exact absurd rfl h0
  | cons c r =>
    obtain ⟨n, hn⟩ : ∃ n, n = (c :: r).length := ⟨_, rfl⟩
    have hz : (bt (c :: r)).size = n := hn ▸ bt_size (c :: r)
    have hg : (bt (c :: r))[0]? = some c := bt_get (c :: r) 0
    have hlt := letter_ok ((c.toNat : Nat) : Int)
    have hdg := digit_ok ((c.toNat : Nat) : Int)
    rw [digB_dg] at hdg
    have hlr : r.length ≤ 10000 := by simp at hl; omega
    have u1 : (((c.toNat : Nat) : Int) == 36) = (c == 36) := u8_eq _ 36
    have u2 : (((c.toNat : Nat) : Int) == 34) = (c == 34) := u8_eq _ 34
    have hcut : (bt (c :: r)).extract 1 n = bt r := bt_from (c :: r) 1 n hn
    have h5 : ((1 : Int) ≤ (n : Int)) = True := eq_true (by rw [hn]; simp; omega)
    have h6 : ((n : Int) ≤ (n : Int)) = True := eq_true (by omega)
    refine f11 rfl ?_
    unfold oneR
    simp only
    rcases Bool.eq_false_or_eq_true (letB ((c.toNat : Nat) : Int)) with g1 | g1
    · rw [g1] at hlt
      have hw := wordL_ok (c :: r) (by omega)
      have hnm : ∀ hp : List Ent, F tab 21 [.d (iv 1), .d (.str (bt ((c :: r).take (runL 0 (c :: r))))), .d (iv 0)] hp = _ := named_ok 1 ((c :: r).take (runL 0 (c :: r))) (by simp at hl ⊢; omega) 0 (by omega)
      simp only [g1, if_true]
      clear hn
      generalize nmR 1 ((c :: r).take (runL 0 (c :: r))) 0 = q at *
      unfold tkV tkD at hnm ⊢
      simp (disch := omega) only [go_sem, r11_T, r11, hz, hg, hlt, hw, hnm]
    · rw [g1] at hlt
      simp only [g1, Bool.false_eq_true, if_false]
      rcases Bool.eq_false_or_eq_true (c == 36) with g2 | g2
      · rw [g2] at u1
        have hw := wordL_ok r (by omega)
        have hnm : ∀ hp : List Ent, F tab 21 [.d (iv 2), .d (.str (bt (r.take (runL 0 r)))), .d (iv 1)] hp = _ := named_ok 2 (r.take (runL 0 r)) (by simp; omega) 1 (by omega)
        simp only [g2, if_true]
        clear hn
        generalize nmR 2 (r.take (runL 0 r)) 1 = q at *
        unfold tkV tkD at hnm ⊢
        simp (disch := omega) only [go_sem, r11_T, r11, hz, hg, hlt, u1, hcut, h5, h6, hw, hnm]
      · rw [g2] at u1
        simp only [g2, Bool.false_eq_true, if_false]
        rcases Bool.eq_false_or_eq_true (isDg c) with g3 | g3
        · rw [g3] at hdg
          have hnm := number_ok (c :: r) hl
          simp only [g3, if_true]
          clear hn
          generalize numTk (c :: r) = q at *
          unfold tkV tkD at hnm ⊢
          simp (disch := omega) only [go_sem, r11_T, r11, hz, hg, hlt, u1, hdg, hnm]
        · rw [g3] at hdg
          simp only [g3, Bool.false_eq_true, if_false]
          rcases Bool.eq_false_or_eq_true (c == 34) with g4 | g4
          · rw [g4] at u2
            have hnm := text_ok' (c :: r) hl
            simp only [g4, if_true]
            clear hn
            generalize txtR (c :: r) = q at *
            unfold tkV tkD at hnm ⊢
            simp (disch := omega) only [go_sem, r11_T, r11, hz, hg, hlt, u1, hdg, u2, hnm]
          · rw [g4] at u2
            simp only [g4, Bool.false_eq_true, if_false]
            have hs := sign_ok c r (by omega)
            have hsl := sgnN_le (c :: r)
            have hq := isE_bt ((c :: r).take (sgnN (c :: r)))
            obtain ⟨m, hm⟩ : ∃ m, m = sgnN (c :: r) := ⟨_, rfl⟩
            unfold sgR
            rw [← hm] at hs hsl hq ⊢
            have hz2 : (bt ((c :: r).take m)).size = m := by rw [bt_size, List.length_take]; omega
            by_cases h : m = 0
            · have e : decide ((c :: r).take m = []) = true := by simp [h]
              rw [e] at hq
              rw [if_pos h]
              clear hn
              simp (disch := omega) only [go_sem, strD_eql, r11_T, r11, hz, hg, hlt, u1, hdg, u2, hs, hq]
              rfl
            · have e : decide ((c :: r).take m = []) = false := decide_eq_false fun e => by
                have := congrArg List.length e
                rw [List.length_take] at this
                simp at this
                omega
              rw [e] at hq
              rw [if_neg h]
              clear hn
              generalize hT : (c :: r).take m = T at *
              simp (disch := omega) only [go_sem, strD_eql, r11_T, r11, hz, hg, hlt, u1, hdg, u2, hs, hq, hz2]
              rfl
end Go.Pe.T

namespace Go.Pe.T
abbrev TL := List (Tk × Nat)
def endT : Tk := ⟨6, [], 0, 0⟩
def consT (x : Tk × Nat) : TL ⊕ (Nat × Int) → TL ⊕ (Nat × Int)
  | .inl l => .inl (x :: l)
  | .inr y => .inr y
def tkP : Nat → List UInt8 → Nat → TL ⊕ (Nat × Int)
  | 0, _, _ => .inr (0, 0)
  | f + 1, R, at' => if R.drop (blkA false R) = [] then .inl [(endT, at' + blkA false R)]
    else if (oneR (R.drop (blkA false R))).2.2 = 0 then consT ((oneR (R.drop (blkA false R))).1, at' + blkA false R) (tkP f ((R.drop (blkA false R)).drop (oneR (R.drop (blkA false R))).2.1) (at' + blkA false R + (oneR (R.drop (blkA false R))).2.1))
    else .inr (at' + blkA false R, (oneR (R.drop (blkA false R))).2.2)
def tkDs (l : TL) : List D := l.map fun x => tkD x.1 (x.2 : Int)
theorem dg_pos {c : UInt8} {r : List UInt8} (h : isDg c = true) : 1 ≤ lngN (c :: r) := by
  have h1 : 1 ≤ dgN (c :: r) 0 := by unfold dgN; rw [List.drop_zero, List.takeWhile_cons, h]; simp
  have h2 : 1 ≤ lg4 (c :: r) := by unfold lg4; split <;> omega
  unfold lngN lg3
  split
  · have h3 : ∀ i j, 1 ≤ i → 1 ≤ j → 1 ≤ lg0 (c :: r) i j := by intro i j hi hj; unfold lg0; split <;> omega
    exact h3 _ _ h2 (by split <;> omega)
  · exact h2
theorem oneR_len {R : List UInt8} (h0 : R ≠ []) (h : (oneR R).2.2 = 0) : 1 ≤ (oneR R).2.1 ∧ (oneR R).2.1 ≤ R.length := by
  have nm : ∀ (k : Int) (w : List UInt8) (more : Nat), (nmR k w more).2.2 = 0 → (nmR k w more).2.1 = w.length + more ∧ 1 ≤ w.length := by
    intro k w more hh
    unfold nmR at hh ⊢
    split at hh
    · simp at hh
    · rename_i hn
      rw [if_neg hn]
      refine ⟨rfl, ?_⟩
      cases w with
      | nil => exact absurd (.inl rfl) hn
      | cons _ _ => simp
  cases R with
  | nil => exact absurd rfl h0
  | cons c r =>
    unfold oneR at h ⊢
    simp only at h ⊢
    split at h
    · rename_i g
      obtain ⟨h1, h2⟩ := nm _ _ _ h
      simp only [g, if_true]
      have := runL_le (c :: r) 0
      rw [List.length_take] at h1 h2
      omega
    · rename_i g
      have g' : letB ((c.toNat : Nat) : Int) = false := by simpa using g
      simp only [g', Bool.false_eq_true, if_false]
      split at h
      · rename_i g2
        obtain ⟨h1, h2⟩ := nm _ _ _ h
        simp only [g2, if_true]
        rw [List.length_take] at h1 h2
        simp only [List.length_cons]
        omega
      · rename_i g2
        have g2' : (c == 36) = false := by simpa using g2
        simp only [g2', Bool.false_eq_true, if_false]
        split at h
        · rename_i g3
          simp only [g3, if_true]
          unfold numTk at h ⊢
          split at h
          · rename_i g4
            rw [if_pos g4]
            exact ⟨dg_pos g3, lng_le _⟩
          · rename_i g4
            exact absurd h g4
        · rename_i g3
          have g3' : isDg c = false := by simpa using g3
          simp only [g3', Bool.false_eq_true, if_false]
          split at h
          · rename_i g4
            simp only [g4, if_true]
            unfold txtR at h ⊢
            split at h
            · simp at h
            · rename_i g5
              rw [if_neg g5]
              split at h
              · rename_i g6
                rw [if_pos g6]
                have : qtN (c :: r) ≠ 0 := fun e => g5 (.inl e)
                exact ⟨by show 1 ≤ qtN (c :: r); omega, qtN_le _⟩
              · rename_i g6; exact absurd h g6
          · rename_i g4
            have g4' : (c == 34) = false := by simpa using g4
            simp only [g4', Bool.false_eq_true, if_false]
            unfold sgR at h ⊢
            split at h
            · simp at h
            · rename_i g5
              rw [if_neg g5]
              exact ⟨by show 1 ≤ sgnN (c :: r); omega, sgnN_le _⟩
def tkQ (acc : TL) : TL ⊕ (Nat × Int) → Option (Ex × St)
  | .inl l => some (.ret, r6_R (.d (.sl (tkDs (acc ++ l)))) (.d (iv 0)) (.d (iv 0)) [])
  | .inr (p, e) => some (.ret, r6_R (.d (.sl [])) (.d (iv (p : Int))) (.d (iv e)) [])
theorem tkQ_cons (acc : TL) (x : Tk × Nat) (o : TL ⊕ (Nat × Int)) : tkQ acc (consT x o) = tkQ (acc ++ [x]) o := by
  cases o with
  | inl l => simp [consT, tkQ]
  | inr y => rfl
def TkIs (L : List UInt8) (acc : TL) (i f : Nat) : Prop :=
  V (F tab) r6_B0 (r6_S0 (.d (.str (bt L))) (.own 31 (tkDs acc)) (.d (iv i)) []) = tkQ acc (tkP f (L.drop i) i)
theorem tkDs_app (a b : TL) : tkDs (a ++ b) = tkDs a ++ tkDs b := by simp [tkDs]
theorem tkDs_len (a : TL) : (tkDs a).length = a.length := by simp [tkDs]
set_option maxHeartbeats 1000000 in
theorem tk_step (L : List UInt8) (hl : L.length ≤ 10000) (acc : TL) (ha : acc.length ≤ 10000) (i f : Nat) (hi : i ≤ L.length) (ih : ∀ (j : Nat) (acc' : TL), i < j → j ≤ L.length → acc'.length = acc.length + 1 → TkIs L acc' j f) : TkIs L acc i (f + 1) := by
  obtain ⟨n, hn⟩ : ∃ n, n = L.length := ⟨_, rfl⟩
  have hz : (bt L).size = n := hn ▸ bt_size L
  have hbl := blanks_ok (L.drop i) (by simp; omega)
  have hbd := blkA_le false (L.drop i)
  rw [List.length_drop] at hbd
  obtain ⟨b, hb⟩ : ∃ b, b = blkA false (L.drop i) := ⟨_, rfl⟩
  have hdd : (L.drop i).drop b = L.drop (i + b) := by rw [List.drop_drop]
  have hcut : (bt L).extract i n = bt (L.drop i) := bt_from L i n hn
  have hcut2 : (bt L).extract (i + b) n = bt (L.drop (i + b)) := bt_from L (i + b) n hn
  have e1 : (i : Int) + (b : Int) = ((i + b : Nat) : Int) := rfl
  have c1 : (0 ≤ (i : Int)) = True := eq_true (by omega)
  have c2 : ((i : Int) ≤ (n : Int)) = True := eq_true (by omega)
  have c3 : ((n : Int) ≤ (n : Int)) = True := eq_true (by omega)
  have c4 : (0 ≤ ((i + b : Nat) : Int)) = True := eq_true (by omega)
  have c5 : (((i + b : Nat) : Int) ≤ (n : Int)) = True := eq_true (by omega)
  have hrow : ((acc.length + 1) * 48 ≤ maxRow) = True := eq_true (by unfold maxRow; omega)
  have hal := tkDs_len acc
  unfold TkIs
  unfold tkP
  rw [← hb] at hbl hbd ⊢
  rw [hdd]
  by_cases he : L.drop (i + b) = []
  · have hib : i + b = n := by
      have := congrArg List.length he
      rw [List.length_drop] at this
      simp at this
      omega
    have q : (((i + b : Nat) : Int) == (n : Int)) = true := by simp; omega
    rw [if_pos he]
    have hend : tkDs [(endT, i + b)] = [.agg [iv 6, .str ⟨#[]⟩, iv 0, iv 0, iv ((i + b : Nat) : Int)]] := rfl
    simp only [tkQ, tkDs_app, hend]
    clear hn
    generalize tkDs acc = W at *
    rw [r6_B0_eq]
    simp (disch := omega) only [go_sem, r6_C0, hz, hbl, hcut, e1, c1, c2, c3, q, w64, hal, hrow]
  · have hib : i + b ≠ n := fun e => he (List.drop_of_length_le (by omega))
    have q : (((i + b : Nat) : Int) == (n : Int)) = false := by simp; omega
    have hone := one_ok (L.drop (i + b)) he (by simp; omega)
    have hlen := oneR_len he
    rw [List.length_drop] at hlen
    rw [if_neg he]
    obtain ⟨tk, m, e, ho⟩ : ∃ tk m e, oneR (L.drop (i + b)) = (tk, m, e) := ⟨_, _, _, rfl⟩
    rw [ho] at hone hlen ⊢
    unfold tkV tkD at hone
    simp only at hone hlen ⊢
    by_cases h0 : e = 0
    · subst h0
      obtain ⟨m1, m2⟩ := hlen rfl
      have q2 : ((0 : Int) != 0) = false := rfl
      have e2 : ((i + b : Nat) : Int) + (m : Int) = ((i + b + m : Nat) : Int) := rfl
      have k := ih (i + b + m) (acc ++ [(tk, i + b)]) (by omega) (by omega) (by simp)
      rw [if_pos rfl, tkQ_cons, List.drop_drop]
      unfold TkIs at k
      rw [tkDs_app] at k
      have hsing : tkDs [(tk, i + b)] = [.agg [iv tk.k, .str (bt tk.t), iv tk.c, iv tk.s, iv ((i + b : Nat) : Int)]] := rfl
      rw [hsing] at k
      generalize tkQ (acc ++ [(tk, i + b)]) (tkP f (L.drop (i + b + m)) (i + b + m)) = Z at *
      clear hn
      generalize tkDs acc = W at *
      rw [r6_B0_eq]
      simp (disch := omega) only [go_sem, r6_C0, hz, hbl, hcut, hcut2, e1, e2, c1, c2, c3, c4, c5, q, q2, w64, hal, hrow, hone]
      exact k
    · have q2 : (e != 0) = true := by simpa using h0
      rw [if_neg h0]
      unfold tkQ
      clear hn
      generalize tkDs acc = W at *
      rw [r6_B0_eq]
      simp (disch := omega) only [go_sem, r6_C0, hz, hbl, hcut, hcut2, e1, c1, c2, c3, c4, c5, q, q2, w64, hone]
theorem tk_loop (L : List UInt8) (hl : L.length ≤ 10000) : ∀ (f i : Nat) (acc : TL), L.length < i + f → i ≤ L.length → acc.length ≤ i → TkIs L acc i f
  | 0, i, acc, h, hi, ha => by omega
  | f + 1, i, acc, h, hi, ha => tk_step L hl acc (by omega) i f hi fun j acc' h1 h2 h3 => tk_loop L hl f j acc' (by omega) h2 (by omega)
def tkR (L : List UInt8) : TL ⊕ (Nat × Int) := tkP (L.length + 1) L 0
def tkO (hp : List Ent) : TL ⊕ (Nat × Int) → Out
  | .inl l => .ret (.tup [.d (.sl (tkDs l)), .d (iv 0), .d (iv 0)]) hp
  | .inr (p, e) => .ret (.tup [.d (.sl []), .d (iv (p : Int)), .d (iv e)]) hp
theorem tokens_ok (L : List UInt8) (hl : L.length ≤ 4096) (hp : List Ent) : F tab 6 [.d (.str (bt L))] hp = some (tkO hp (tkR L)) := by
  have hz := bt_size L
  have h := tk_loop L (by omega) (L.length + 1) 0 [] (by omega) (by omega) (by simp)
  unfold TkIs at h
  rw [List.drop_zero] at h
  have q : ((L.length : Int) > 4096) = False := eq_false (by omega)
  have h : V (F tab) r6_B0 (r6_S0 (.d (.str (bt L))) (.own 31 []) (.d (iv 0)) []) = tkQ [] (tkR L) := h
  refine f6 rfl ?_
  simp (disch := omega) only [go_sem, r6_T, r6, hz, q]
  rw [r6_B0_n, r6_B0_z5]
  erw [h]
  cases tkR L with
  | inl l => simp only [go_sem, tkQ, tkO]
  | inr p => obtain ⟨p, e⟩ := p; simp only [go_sem, tkQ, tkO]
end Go.Pe.T

namespace Go.Pe.T
end Go.Pe.T

namespace Go.Pe.T
def cmN : List UInt8 → Nat
  | [] => 0
  | c :: r => if c == 10 then 0 else cmN r + 1
theorem cmN_le : ∀ l : List UInt8, cmN l ≤ l.length
  | [] => by simp [cmN]
  | c :: r => by
    have := cmN_le r
    simp only [cmN, List.length_cons]
    split <;> omega
theorem blk_cmN : ∀ r : List UInt8, blkA true r = cmN r + blkA false (r.drop (cmN r))
  | [] => by simp [blkA, cmN]
  | c :: r => by
    have ih := blk_cmN r
    by_cases h : c = 10
    · subst h
      have : isWs 10 = true := by decide
      simp [blkA, cmN, this]
    · have h' : (c == 10) = false := by simpa using h
      simp only [blkA, cmN, h', Bool.false_eq_true, if_false, List.drop_succ_cons]
      omega
def RcIs (L : List UInt8) (i : Nat) : Prop :=
  V (F tab) r8_B1 (r8_S1 (.d (.str (bt L))) (.d (iv i)) []) = some (.norm, r8_E1 (.d (.str (bt L))) (.d (iv ((i + cmN (L.drop i) : Nat) : Int))) [])
theorem rc_loop (L : List UInt8) (hl : L.length ≤ 100000) : ∀ (f i : Nat), i + f = L.length → RcIs L i
  | 0, i, hi => by
    have h1 : ((i : Int) < (L.length : Int)) = False := eq_false (by omega)
    have hz := bt_size L
    unfold RcIs
    rw [List.drop_of_length_le (by omega), r8_B1_eq]
    simp (disch := omega) only [go_sem, r8_C1, hz, h1, cmN, Nat.add_zero]
  | f + 1, i, hi => by
    have ih := rc_loop L hl f (i + 1) (by omega)
    have h1 : ((i : Int) < (L.length : Int)) = True := eq_true (by omega)
    have i0 : (0 ≤ (i : Int)) = True := eq_true (by omega)
    have hz := bt_size L
    have hx : L[i]? = some L[i] := List.getElem?_eq_getElem (by omega)
    have hd : L.drop i = L[i] :: L.drop (i + 1) := List.drop_eq_getElem_cons (by omega)
    have hg := bt_get L i
    rw [hx] at hg
    have e1 : (i : Int) + 1 = ((i + 1 : Nat) : Int) := rfl
    unfold RcIs at ih ⊢
    rw [hd, cmN]
    by_cases h : L[i] = 10
    · have h' : (L[i] == 10) = true := by simpa using h
      have h2 : ((L[i].toNat : Int) != 10) = false := by rw [h]; rfl
      rw [h', if_pos rfl, r8_B1_eq]
      simp (disch := omega) only [go_sem, r8_C1, hz, h1, i0, hg, h2, Nat.add_zero]
    · have h' : (L[i] == 10) = false := by simpa using h
      have h2 : ((L[i].toNat : Int) != 10) = true := by
        have : L[i].toNat ≠ 10 := fun e => h (UInt8.toNat_inj.1 e)
        simp; omega
      rw [h', if_neg (by simp), show i + (cmN (L.drop (i + 1)) + 1) = i + 1 + cmN (L.drop (i + 1)) by omega, r8_B1_eq]
      simp (disch := omega) only [go_sem, r8_C1, hz, h1, i0, hg, h2, w64, e1]
      exact ih
def RbIs (L : List UInt8) (i : Nat) : Prop :=
  V (F tab) r8_B0 (r8_S0 (.d (.str (bt L))) (.d (iv i)) []) = some (.norm, r8_E0 (.d (iv ((i + blkA false (L.drop i) : Nat) : Int))) []) ∨
  V (F tab) r8_B0 (r8_S0 (.d (.str (bt L))) (.d (iv i)) []) = some (.ret, r8_R (.d (iv ((i + blkA false (L.drop i) : Nat) : Int))) [])
theorem rb_end (L : List UInt8) (i : Nat) (hi : L.length ≤ i) : RbIs L i := by
  have h1 : ((i : Int) < (L.length : Int)) = False := eq_false (by omega)
  have hz := bt_size L
  refine .inl ?_
  rw [List.drop_of_length_le (by omega), r8_B0_eq]
  simp (disch := omega) only [go_sem, r8_C0, hz, h1, blkA, Nat.add_zero]
theorem rb_step (L : List UInt8) (hl : L.length ≤ 100000) (i : Nat) (hi : i < L.length) (ih : ∀ k : Nat, 0 < k → i + k ≤ L.length → RbIs L (i + k)) : RbIs L i := by
  have h1 : ((i : Int) < (L.length : Int)) = True := eq_true (by omega)
  have i0 : (0 ≤ (i : Int)) = True := eq_true (by omega)
  have hz := bt_size L
  have hx : L[i]? = some L[i] := List.getElem?_eq_getElem (by omega)
  have hd : L.drop i = L[i] :: L.drop (i + 1) := List.drop_eq_getElem_cons (by omega)
  have hg := bt_get L i
  rw [hx] at hg
  have e1 : (i : Int) + 1 = ((i + 1 : Nat) : Int) := rfl
  have tn : ∀ n : Nat, n < 256 → L[i] ≠ UInt8.ofNat n → ((L[i].toNat : Int) == (n : Int)) = false := fun n hn hne => by
    have : L[i].toNat ≠ n := fun e => hne (by rw [← e]; exact UInt8.ofNat_toNat.symm)
    simp; omega
  by_cases g : L[i] = 35
  · have h2 : ((L[i].toNat : Int) == 35) = true := by rw [g]; rfl
    have hc := rc_loop L hl (L.length - i) i (by omega)
    have hcl := cmN_le (L.drop i)
    have hc0 : 0 < cmN (L.drop i) := by rw [hd, cmN, g]; simp
    rw [List.length_drop] at hcl
    have hb : blkA false (L.drop i) = cmN (L.drop i) + blkA false (L.drop (i + cmN (L.drop i))) := by
      have q1 : isWs 35 = false := by decide
      have q2 : ((35 : UInt8) == 10) = false := by decide
      have q3 := blk_cmN (L.drop (i + 1))
      have q4 : cmN (L.drop i) = cmN (L.drop (i + 1)) + 1 := by rw [hd, cmN, g, q2]; rfl
      rw [q4, hd, blkA, g, q1]
      simp only [Bool.false_eq_true, if_false, beq_self_eq_true, if_true]
      rw [q3, List.drop_drop, show i + 1 + cmN (L.drop (i + 1)) = i + (cmN (L.drop (i + 1)) + 1) by omega]
      omega
    have k := ih (cmN (L.drop i)) hc0 (by omega)
    unfold RbIs at k ⊢
    unfold RcIs at hc
    rw [hb, ← Nat.add_assoc]
    rw [r8_B0_eq]
    simp (disch := omega) only [go_sem, r8_C0, hz, h1, i0, hg, h2]
    rw [r8_B1_n]
    erw [hc]
    simp (disch := omega) only [go_sem]
    exact k
  · have h2 : ((L[i].toNat : Int) == 35) = false := tn 35 (by omega) g
    by_cases w : isWs L[i] = true
    · have hb : blkA false (L.drop i) = 1 + blkA false (L.drop (i + 1)) := by rw [hd, blkA, w, if_pos rfl, Nat.add_comm]
      have k := ih 1 (by omega) (by omega)
      unfold RbIs at k ⊢
      rw [hb, ← Nat.add_assoc]
      have h4 : L[i] = 32 ∨ L[i] = 9 ∨ L[i] = 10 ∨ L[i] = 13 := by simpa [isWs] using w
      rw [r8_B0_eq]
      rcases h4 with h4 | h4 | h4 | h4
      · have k1 : ((L[i].toNat : Int) != 32) = false := by rw [h4]; rfl
        simp (disch := omega) only [go_sem, r8_C0, hz, h1, i0, hg, h2, k1, w64, e1]
        exact k
      · have k1 : ((L[i].toNat : Int) != 32) = true := by rw [h4]; rfl
        have k2 : ((L[i].toNat : Int) != 9) = false := by rw [h4]; rfl
        simp (disch := omega) only [go_sem, r8_C0, hz, h1, i0, hg, h2, k1, k2, w64, e1]
        exact k
      · have k1 : ((L[i].toNat : Int) != 32) = true := by rw [h4]; rfl
        have k2 : ((L[i].toNat : Int) != 9) = true := by rw [h4]; rfl
        have k3 : ((L[i].toNat : Int) != 10) = false := by rw [h4]; rfl
        simp (disch := omega) only [go_sem, r8_C0, hz, h1, i0, hg, h2, k1, k2, k3, w64, e1]
        exact k
      · have k1 : ((L[i].toNat : Int) != 32) = true := by rw [h4]; rfl
        have k2 : ((L[i].toNat : Int) != 9) = true := by rw [h4]; rfl
        have k3 : ((L[i].toNat : Int) != 10) = true := by rw [h4]; rfl
        have k4 : ((L[i].toNat : Int) != 13) = false := by rw [h4]; rfl
        simp (disch := omega) only [go_sem, r8_C0, hz, h1, i0, hg, h2, k1, k2, k3, k4, w64, e1]
        exact k
    · have w' : isWs L[i] = false := by simpa using w
      have h4 : L[i] ≠ 32 ∧ L[i] ≠ 9 ∧ L[i] ≠ 10 ∧ L[i] ≠ 13 := by
        simp only [isWs, List.contains_cons, List.contains_nil, Bool.or_false, Bool.or_eq_false_iff, beq_eq_false_iff_ne] at w'
        exact w'
      obtain ⟨n1, n2, n3, n4⟩ := h4
      have g' : (L[i] == 35) = false := by simpa using g
      have hb : blkA false (L.drop i) = 0 := by rw [hd, blkA, w', g']; rfl
      have k1 : ((L[i].toNat : Int) != 32) = true := by have := tn 32 (by omega) n1; simpa using this
      have k2 : ((L[i].toNat : Int) != 9) = true := by have := tn 9 (by omega) n2; simpa using this
      have k3 : ((L[i].toNat : Int) != 10) = true := by have := tn 10 (by omega) n3; simpa using this
      have k4 : ((L[i].toNat : Int) != 13) = true := by have := tn 13 (by omega) n4; simpa using this
      refine .inr ?_
      rw [hb, Nat.add_zero, r8_B0_eq]
      simp (disch := omega) only [go_sem, r8_C0, hz, h1, i0, hg, h2, k1, k2, k3, k4]
theorem rb_loop (L : List UInt8) (hl : L.length ≤ 100000) : ∀ (f i : Nat), L.length ≤ i + f → RbIs L i
  | 0, i, hi => rb_end L i (by omega)
  | f + 1, i, hi => by
    by_cases h : i < L.length
    · exact rb_step L hl i h fun k hk _ => rb_loop L hl f (i + k) (by omega)
    · exact rb_end L i (by omega)
theorem rblank_ok (L : List UInt8) (hl : L.length ≤ 100000) (i : Nat) (hp : List Ent) : F tab 8 [.d (.str (bt L)), .d (iv i)] hp = some (.ret (.d (iv ((i + blkA false (L.drop i) : Nat) : Int))) hp) := by
  have h := rb_loop L hl L.length i (by omega)
  refine f8 rfl ?_
  simp (disch := omega) only [go_sem, r8_T, r8]
  rw [r8_B0_n]
  rcases h with h | h
  · erw [h]
    simp only [go_sem]
  · erw [h]
    simp only [go_sem]
theorem dig_is (c : UInt8) : digB (c.toNat : Int) = isDg c := by
  unfold digB
  rcases Bool.eq_false_or_eq_true (isDg c) with h | h
  · have := isDg_iff.1 h
    rw [h]
    simp; omega
  · rw [h]
    have : ¬ (48 ≤ c.toNat ∧ c.toNat ≤ 57) := fun e => by rw [isDg_iff.2 e] at h; cases h
    simp; omega
def RdIs (L : List UInt8) (i : Nat) : Prop :=
  V (F tab) r27_B0 (r27_S0 (.d (.str (bt L))) (.d (iv i)) []) = some (.norm, r27_E0 (.d (iv ((i + ((L.drop i).takeWhile isDg).length : Nat) : Int))) [])
theorem rd_loop (L : List UInt8) (hl : L.length ≤ 100000) : ∀ (f i : Nat), L.length ≤ i + f → i ≤ 100001 → RdIs L i
  | 0, i, hi, h2 => by
    have h1 : ((i : Int) < (L.length : Int)) = False := eq_false (by omega)
    have hz := bt_size L
    unfold RdIs
    rw [List.drop_of_length_le (by omega), r27_B0_eq]
    simp (disch := omega) only [go_sem, r27_C0, hz, h1, List.takeWhile_nil, List.length_nil, Nat.add_zero]
  | f + 1, i, hi, h2 => by
    have hz := bt_size L
    by_cases h : i < L.length
    · have ih := rd_loop L hl f (i + 1) (by omega) (by omega)
      have h1 : ((i : Int) < (L.length : Int)) = True := eq_true (by omega)
      have i0 : (0 ≤ (i : Int)) = True := eq_true (by omega)
      have hx : L[i]? = some L[i] := List.getElem?_eq_getElem (by omega)
      have hd : L.drop i = L[i] :: L.drop (i + 1) := List.drop_eq_getElem_cons (by omega)
      have hg := bt_get L i
      rw [hx] at hg
      have e1 : (i : Int) + 1 = ((i + 1 : Nat) : Int) := rfl
      have hdg := rdigit_ok (L[i].toNat : Int)
      rw [dig_is] at hdg
      unfold RdIs at ih ⊢
      rw [hd, List.takeWhile_cons]
      rcases Bool.eq_false_or_eq_true (isDg L[i]) with g | g
      · rw [g] at hdg
        rw [g, if_pos rfl, List.length_cons, show i + (((L.drop (i + 1)).takeWhile isDg).length + 1) = i + 1 + ((L.drop (i + 1)).takeWhile isDg).length by omega, r27_B0_eq]
        simp (disch := omega) only [go_sem, r27_C0, hz, h1, i0, hg, hdg, w64, e1]
        exact ih
      · rw [g] at hdg
        rw [g, if_neg (by simp), r27_B0_eq]
        simp (disch := omega) only [go_sem, r27_C0, hz, h1, i0, hg, hdg, List.length_nil, Nat.add_zero]
    · have h1 : ((i : Int) < (L.length : Int)) = False := eq_false (by omega)
      unfold RdIs
      rw [List.drop_of_length_le (by omega), r27_B0_eq]
      simp (disch := omega) only [go_sem, r27_C0, hz, h1, List.takeWhile_nil, List.length_nil, Nat.add_zero]
theorem rdigits_ok (L : List UInt8) (hl : L.length ≤ 100000) (i : Nat) (hi : i ≤ 100001) (hp : List Ent) : F tab 27 [.d (.str (bt L)), .d (iv i)] hp = some (.ret (.d (iv ((i + ((L.drop i).takeWhile isDg).length : Nat) : Int))) hp) := by
  have h := rd_loop L hl L.length i (by omega) hi
  unfold RdIs at h
  refine f27 rfl ?_
  simp (disch := omega) only [go_sem, r27_T, r27]
  rw [r27_B0_n]
  erw [h]
  simp only [go_sem]
end Go.Pe.T

namespace Go.Pe.T
theorem rdg_ok (L : List UInt8) (hl : L.length ≤ 100000) (i : Nat) (hi : i ≤ 100001) (hp : List Ent) : F tab 27 [.d (.str (bt L)), .d (iv i)] hp = some (.ret (.d (iv ((i + dgN L i : Nat) : Int))) hp) := rdigits_ok L hl i hi hp
theorem isE_or (c : UInt8) : isE c = (c == 101 || c == 69) := by
  revert c
  have : ∀ n : Fin 256, isE (UInt8.ofNat n.val) = (UInt8.ofNat n.val == 101 || UInt8.ofNat n.val == 69) := by decide
  intro c
  have h := this ⟨c.toNat, c.toNat_lt⟩
  rw [UInt8.ofNat_toNat] at h
  exact h
theorem rn_k0 (L : List UInt8) (hl : L.length ≤ 100000) (i j : Nat) (hi : i ≤ L.length) (hj : j ≤ L.length + 1) :
    seqK (fun s => V (F tab) (.seq (.reg [mo 76 1, mo 4 76] [] false) (.ret [.kill, .kill, .kill, .kill, .keep])) s) (V (F tab) (r15_K0 ()) (r15_J0 (.d (.str (bt L))) (.d (iv i)) (.d (iv j)) [])) = some (.ret, r15_R (.d (iv ((lg0 L i j : Nat) : Int))) []) := by
  have hr := rdg_ok L hl j (by omega)
  unfold lg0
  by_cases h : dgN L j = 0
  · have k1 : (((j + dgN L j : Nat) : Int) > (j : Int)) = False := eq_false (by omega)
    rw [if_pos h]
    simp (disch := omega) only [go_sem, r15_K0, hr, k1]
  · have k1 : (((j + dgN L j : Nat) : Int) > (j : Int)) = True := eq_true (by omega)
    rw [if_neg h]
    simp (disch := omega) only [go_sem, r15_K0, hr, k1]
theorem rn_k2 (L : List UInt8) (hl : L.length ≤ 100000) (i : Nat) (hi : i ≤ L.length) : V (F tab) (r15_K2 ()) (r15_J2 (.d (.str (bt L))) (.d (iv i)) []) = some (.ret, r15_R (.d (iv ((lg3 L i : Nat) : Int))) []) := by
  have hz := bt_size L
  have i0 : (0 ≤ (i : Int)) = True := eq_true (by omega)
  by_cases h : i < L.length
  · have h1 : ((i : Int) < (L.length : Int)) = True := eq_true (by omega)
    have hx : L[i]? = some L[i] := List.getElem?_eq_getElem h
    have hg := bt_get L i
    rw [hx] at hg
    have u1 : (((L[i].toNat : Nat) : Int) == 101) = (L[i] == 101) := u8_eq _ 101
    have u2 : (((L[i].toNat : Nat) : Int) == 69) = (L[i] == 69) := u8_eq _ 69
    have ho := isE_or L[i]
    have e1 : (i : Int) + 1 = ((i + 1 : Nat) : Int) := rfl
    have e2 : ((i + 1 : Nat) : Int) + 1 = ((i + 2 : Nat) : Int) := rfl
    have j0 : (0 ≤ ((i + 1 : Nat) : Int)) = True := eq_true (by omega)
    have he3 : isE L[i] = true → lg3 L i = lg2 L i := fun g => by simp only [lg3, eAt, hx, g, if_true]
    have hn3 : isE L[i] = false → lg3 L i = i := fun g => by simp only [lg3, eAt, hx, g, Bool.false_eq_true, if_false]
    generalize L[i] = c at *
    have key : isE c = true → ∀ b1 b2, (c == 101) = b1 → (c == 69) = b2 → (b1 || b2) = true → V (F tab) (r15_K2 ()) (r15_J2 (.d (.str (bt L))) (.d (iv i)) []) = some (.ret, r15_R (.d (iv ((lg3 L i : Nat) : Int))) []) := by
      intro g b1 b2 hb1 hb2 hor
      rw [hb1] at u1
      rw [hb2] at u2
      rw [he3 g]
      by_cases hn : i + 1 < L.length
      · have h2 : (((i + 1 : Nat) : Int) < (L.length : Int)) = True := eq_true (by omega)
        have hx1 : L[i + 1]? = some L[i + 1] := List.getElem?_eq_getElem hn
        have hg1 := bt_get L (i + 1)
        rw [hx1] at hg1
        have v1 : (((L[i + 1].toNat : Nat) : Int) == 43) = (L[i + 1] == 43) := u8_eq _ 43
        have v2 : (((L[i + 1].toNat : Nat) : Int) == 45) = (L[i + 1] == 45) := u8_eq _ 45
        have k := rn_k0 L hl i (i + 2) (by omega) (by omega)
        have k' := rn_k0 L hl i (i + 1) (by omega) (by omega)
        have p1 : (L[i + 1] == 43 || L[i + 1] == 45) = true → lg2 L i = lg0 L i (i + 2) := fun q => by simp only [lg2, pmAt, hx1, q, if_true]
        have p2 : (L[i + 1] == 43 || L[i + 1] == 45) = false → lg2 L i = lg0 L i (i + 1) := fun q => by simp only [lg2, pmAt, hx1, q, Bool.false_eq_true, if_false]
        generalize L[i + 1] = d at *
        rcases Bool.eq_false_or_eq_true (d == 43) with q1 | q1
        · rw [q1] at v1
          rw [p1 (by rw [q1]; rfl)]
          cases b1 <;> cases b2 <;> simp at hor <;> (simp (disch := omega) only [go_sem, r15_K2, hz, h1, i0, hg, u1, u2, e1, e2, h2, j0, hg1, v1, w64, Bool.true_or, Bool.or_true, Bool.false_or]; exact k)
        · rw [q1] at v1
          rcases Bool.eq_false_or_eq_true (d == 45) with q2 | q2
          · rw [q2] at v2
            rw [p1 (by rw [q1, q2]; rfl)]
            cases b1 <;> cases b2 <;> simp at hor <;> (simp (disch := omega) only [go_sem, r15_K2, hz, h1, i0, hg, u1, u2, e1, e2, h2, j0, hg1, v1, v2, w64, Bool.true_or, Bool.or_true, Bool.false_or]; exact k)
          · rw [q2] at v2
            rw [p2 (by rw [q1, q2]; rfl)]
            cases b1 <;> cases b2 <;> simp at hor <;> (simp (disch := omega) only [go_sem, r15_K2, hz, h1, i0, hg, u1, u2, e1, e2, h2, j0, hg1, v1, v2, w64, Bool.true_or, Bool.or_true, Bool.false_or]; exact k')
      · have h2 : (((i + 1 : Nat) : Int) < (L.length : Int)) = False := eq_false (by omega)
        have hx1 : L[i + 1]? = none := List.getElem?_eq_none (by omega)
        have k' := rn_k0 L hl i (i + 1) (by omega) (by omega)
        have p2 : lg2 L i = lg0 L i (i + 1) := by simp only [lg2, pmAt, hx1, Bool.false_eq_true, if_false]
        rw [p2]
        cases b1 <;> cases b2 <;> simp at hor <;> (simp (disch := omega) only [go_sem, r15_K2, hz, h1, i0, hg, u1, u2, e1, e2, h2, j0, w64, Bool.true_or, Bool.or_true, Bool.false_or]; exact k')
    rcases Bool.eq_false_or_eq_true (isE c) with g | g
    · rw [ho] at g
      exact key (by rw [ho]; exact g) _ _ rfl rfl g
    · rw [hn3 g]
      rw [ho] at g
      obtain ⟨g1, g2⟩ := Bool.or_eq_false_iff.1 g
      rw [g1] at u1
      rw [g2] at u2
      simp (disch := omega) only [go_sem, r15_K2, hz, h1, i0, hg, u1, u2]
  · have h1 : ((i : Int) < (L.length : Int)) = False := eq_false (by omega)
    have hx : L[i]? = none := List.getElem?_eq_none (by omega)
    have e : lg3 L i = i := by simp only [lg3, eAt, hx, Bool.false_eq_true, if_false]
    rw [e]
    simp (disch := omega) only [go_sem, r15_K2, hz, h1]
def lgB (L : List UInt8) (b : Nat) : Nat := if dotAt L (b + dgN L b) && decide (0 < dgN L (b + dgN L b + 1)) then b + dgN L b + 1 + dgN L (b + dgN L b + 1) else b + dgN L b
theorem rnumA_ok (L : List UInt8) (hl : L.length ≤ 100000) (b : Nat) (hb : b ≤ L.length) (hp : List Ent) : F tab 15 [.d (.str (bt L)), .d (iv b)] hp = some (.ret (.d (iv ((lg3 L (lgB L b) : Nat) : Int))) hp) := by
  have hz := bt_size L
  have hr0 := rdg_ok L hl b (by omega)
  have hd0 := dgN_le L b
  have i0 : (0 ≤ ((b + dgN L b : Nat) : Int)) = True := eq_true (by omega)
  have hdd : dgN L b ≤ L.length - b := by
    unfold dgN
    have := tw_le (L.drop b)
    rw [List.length_drop] at this
    exact this
  have hr1 := rdg_ok L hl (b + dgN L b + 1) (by omega)
  have e1 : ((b + dgN L b : Nat) : Int) + 1 = ((b + dgN L b + 1 : Nat) : Int) := rfl
  refine f15 rfl ?_
  by_cases h : b + dgN L b < L.length
  · have h1 : (((b + dgN L b : Nat) : Int) < (L.length : Int)) = True := eq_true (by omega)
    have hx : L[b + dgN L b]? = some L[b + dgN L b] := List.getElem?_eq_getElem h
    have hg := bt_get L (b + dgN L b)
    rw [hx] at hg
    have u1 : (((L[b + dgN L b].toNat : Nat) : Int) == 46) = (L[b + dgN L b] == 46) := u8_eq _ 46
    have hd1 : dgN L (b + dgN L b + 1) ≤ L.length - (b + dgN L b + 1) := by
      unfold dgN
      have := tw_le (L.drop (b + dgN L b + 1))
      rw [List.length_drop] at this
      exact this
    generalize L[b + dgN L b] = c at *
    rcases Bool.eq_false_or_eq_true (c == 46) with g1 | g1
    · rw [g1] at u1
      by_cases g2 : 0 < dgN L (b + dgN L b + 1)
      · have k2 : (((b + dgN L b + 1 + dgN L (b + dgN L b + 1) : Nat) : Int) > ((b + dgN L b + 1 : Nat) : Int)) = True := eq_true (by omega)
        have e : lgB L b = b + dgN L b + 1 + dgN L (b + dgN L b + 1) := by simp only [lgB, dotAt, hx, g1, decide_eq_true g2, Bool.and_self, if_true]
        have k := rn_k2 L hl (lgB L b) (by omega)
        rw [e] at k ⊢
        generalize dgN L (b + dgN L b + 1) = d1 at *
        generalize b + dgN L b = d0 at *
        simp (disch := omega) only [go_sem, r15_T, r15, hr0, hz, h1, i0, hg, u1, e1, hr1, k2, w64, k]
      · have k2 : (((b + dgN L b + 1 + dgN L (b + dgN L b + 1) : Nat) : Int) > ((b + dgN L b + 1 : Nat) : Int)) = False := eq_false (by omega)
        have e : lgB L b = b + dgN L b := by simp only [lgB, dotAt, hx, g1, decide_eq_false g2, Bool.and_false, Bool.false_eq_true, if_false]
        have k := rn_k2 L hl (lgB L b) (by omega)
        rw [e] at k ⊢
        generalize dgN L (b + dgN L b + 1) = d1 at *
        generalize b + dgN L b = d0 at *
        simp (disch := omega) only [go_sem, r15_T, r15, hr0, hz, h1, i0, hg, u1, e1, hr1, k2, w64, k]
    · rw [g1] at u1
      have e : lgB L b = b + dgN L b := by simp only [lgB, dotAt, hx, g1, Bool.false_and, Bool.false_eq_true, if_false]
      have k := rn_k2 L hl (lgB L b) (by omega)
      rw [e] at k ⊢
      generalize b + dgN L b = d0 at *
      simp (disch := omega) only [go_sem, r15_T, r15, hr0, hz, h1, i0, hg, u1, w64, k]
  · have h1 : (((b + dgN L b : Nat) : Int) < (L.length : Int)) = False := eq_false (by omega)
    have hx : L[b + dgN L b]? = none := List.getElem?_eq_none (by omega)
    have e : lgB L b = b + dgN L b := by simp only [lgB, dotAt, hx, Bool.false_and, Bool.false_eq_true, if_false]
    have k := rn_k2 L hl (lgB L b) (by omega)
    rw [e] at k ⊢
    generalize b + dgN L b = d0 at *
    simp (disch := omega) only [go_sem, r15_T, r15, hr0, hz, h1, w64, k]
theorem dgN_drop (L : List UInt8) (b j : Nat) : dgN L (b + j) = dgN (L.drop b) j := by unfold dgN; rw [List.drop_drop]
theorem dotAt_drop (L : List UInt8) (b j : Nat) : dotAt L (b + j) = dotAt (L.drop b) j := by unfold dotAt; rw [List.getElem?_drop]
theorem eAt_drop (L : List UInt8) (b j : Nat) : eAt L (b + j) = eAt (L.drop b) j := by unfold eAt; rw [List.getElem?_drop]
theorem pmAt_drop (L : List UInt8) (b j : Nat) : pmAt L (b + j) = pmAt (L.drop b) j := by unfold pmAt; rw [List.getElem?_drop]
theorem lgB_drop (L : List UInt8) (b : Nat) : lgB L b = b + lg4 (L.drop b) := by
  have e0 : dgN L b = dgN (L.drop b) 0 := dgN_drop L b 0
  unfold lgB lg4
  rw [e0, dotAt_drop, Nat.add_assoc b, dgN_drop]
  split <;> omega
theorem lg3_drop (L : List UInt8) (b i : Nat) : lg3 L (b + i) = b + lg3 (L.drop b) i := by
  unfold lg3
  rw [eAt_drop]
  split
  · unfold lg2
    rw [Nat.add_assoc b, pmAt_drop]
    split
    · unfold lg0
      rw [Nat.add_assoc b, dgN_drop]
      split <;> omega
    · unfold lg0
      rw [dgN_drop]
      split <;> omega
  · rfl
theorem rnumber_ok (L : List UInt8) (hl : L.length ≤ 100000) (b : Nat) (hb : b ≤ L.length) (hp : List Ent) : F tab 15 [.d (.str (bt L)), .d (iv b)] hp = some (.ret (.d (iv ((b + lngN (L.drop b) : Nat) : Int))) hp) := by
  have h := rnumA_ok L hl b hb hp
  rw [lgB_drop, lg3_drop] at h
  exact h
end Go.Pe.T

namespace Go.Pe.T
theorem runL_pos : ∀ (l : List UInt8) (j : Nat), 0 < j → runL j l = runL 1 l
  | [], j, h => rfl
  | c :: r, j, h => by
    have e : okI j c = okI 1 c := by
      unfold okI
      have h1 : decide (j > 0) = true := decide_eq_true (by omega)
      have h2 : decide (1 > 0) = true := rfl
      rw [h1, h2]
    rw [runL, runL, e, runL_pos r (j + 1) (by omega), runL_pos r (1 + 1) (by omega)]
def RnIs (L : List UInt8) (i : Nat) : Prop :=
  V (F tab) r13_B0 (r13_S0 (.d (.str (bt L))) (.d (iv i)) []) = some (.norm, r13_E0 (.d (iv ((i + runL 1 (L.drop i) : Nat) : Int))) [])
theorem rnm_loop (L : List UInt8) (hl : L.length ≤ 100000) : ∀ (f i : Nat), i + f = L.length → RnIs L i
  | 0, i, hi => by
    have h1 : ((i : Int) < (L.length : Int)) = False := eq_false (by omega)
    have hz := bt_size L
    unfold RnIs
    rw [List.drop_of_length_le (by omega), r13_B0_eq]
    simp (disch := omega) only [go_sem, r13_C0, hz, h1, runL, Nat.add_zero]
  | f + 1, i, hi => by
    have ih := rnm_loop L hl f (i + 1) (by omega)
    have h1 : ((i : Int) < (L.length : Int)) = True := eq_true (by omega)
    have i0 : (0 ≤ (i : Int)) = True := eq_true (by omega)
    have hz := bt_size L
    have hx : L[i]? = some L[i] := List.getElem?_eq_getElem (by omega)
    have hd : L.drop i = L[i] :: L.drop (i + 1) := List.drop_eq_getElem_cons (by omega)
    have hg := bt_get L i
    rw [hx] at hg
    have e1 : (i : Int) + 1 = ((i + 1 : Nat) : Int) := rfl
    have hlt := rletter_ok (L[i].toNat : Int)
    have hdg := rdigit_ok (L[i].toNat : Int)
    have ho : okI 1 L[i] = (letB (L[i].toNat : Int) || digB (L[i].toNat : Int)) := by unfold okI; simp
    unfold RnIs at ih ⊢
    rw [hd, runL, ho, runL_pos _ (1 + 1) (by omega)]
    rcases Bool.eq_false_or_eq_true (letB (L[i].toNat : Int)) with g | g
    · rw [g] at hlt
      rw [g, Bool.true_or, if_pos rfl, show i + (runL 1 (L.drop (i + 1)) + 1) = i + 1 + runL 1 (L.drop (i + 1)) by omega, r13_B0_eq]
      simp (disch := omega) only [go_sem, r13_C0, hz, h1, i0, hg, hlt, w64, e1]
      exact ih
    · rw [g] at hlt
      rcases Bool.eq_false_or_eq_true (digB (L[i].toNat : Int)) with g2 | g2
      · rw [g2] at hdg
        rw [g, g2, Bool.false_or, if_pos rfl, show i + (runL 1 (L.drop (i + 1)) + 1) = i + 1 + runL 1 (L.drop (i + 1)) by omega, r13_B0_eq]
        simp (disch := omega) only [go_sem, r13_C0, hz, h1, i0, hg, hlt, hdg, w64, e1]
        exact ih
      · rw [g2] at hdg
        rw [g, g2, Bool.false_or, if_neg (by simp), r13_B0_eq]
        simp (disch := omega) only [go_sem, r13_C0, hz, h1, i0, hg, hlt, hdg, Nat.add_zero]
theorem rname_ok (L : List UInt8) (hl : L.length ≤ 100000) (i : Nat) (hi : i ≤ L.length) (hp : List Ent) : F tab 13 [.d (.str (bt L)), .d (iv i)] hp = some (.ret (.d (iv ((i + runL 0 (L.drop i) : Nat) : Int))) hp) := by
  have hz := bt_size L
  have i0 : (0 ≤ (i : Int)) = True := eq_true (by omega)
  refine f13 rfl ?_
  by_cases h : i < L.length
  · have h1 : ((i : Int) ≥ (L.length : Int)) = False := eq_false (by omega)
    have hx : L[i]? = some L[i] := List.getElem?_eq_getElem (by omega)
    have hd : L.drop i = L[i] :: L.drop (i + 1) := List.drop_eq_getElem_cons (by omega)
    have hg := bt_get L i
    rw [hx] at hg
    have hlt := rletter_ok (L[i].toNat : Int)
    have ho : okI 0 L[i] = letB (L[i].toNat : Int) := by unfold okI; simp
    have ho1 : okI 1 L[i] = (letB (L[i].toNat : Int) || digB (L[i].toNat : Int)) := by unfold okI; simp
    rcases Bool.eq_false_or_eq_true (letB (L[i].toNat : Int)) with g | g
    · have hlp := rnm_loop L hl (L.length - i) i (by omega)
      unfold RnIs at hlp
      have e : runL 0 (L.drop i) = runL 1 (L.drop i) := by
        rw [hd, runL, runL, ho, ho1, g, Bool.true_or, runL_pos _ (0 + 1) (by omega), runL_pos _ (1 + 1) (by omega)]
      rw [g] at hlt
      rw [e]
      simp (disch := omega) only [go_sem, r13_T, r13, hz, h1, i0, hg, hlt]
      rw [r13_B0_n]
      erw [hlp]
      simp only [go_sem]
    · rw [g] at hlt
      have e : runL 0 (L.drop i) = 0 := by rw [hd, runL, ho, g]; rfl
      rw [e, Nat.add_zero]
      simp (disch := omega) only [go_sem, r13_T, r13, hz, h1, i0, hg, hlt]
  · have h1 : ((i : Int) ≥ (L.length : Int)) = True := eq_true (by omega)
    rw [List.drop_of_length_le (by omega), runL, Nat.add_zero]
    simp (disch := omega) only [go_sem, r13_T, r13, hz, h1]
def rtR (i : Nat) : Option Nat → Option (Ex × St)
  | some n => some (.ret, r17_R (.d (iv ((i + n : Nat) : Int))) [])
  | none => some (.norm, r17_E0 [])
theorem rtR_map (i : Nat) (o : Option Nat) : rtR i (o.map (· + 1)) = rtR (i + 1) o := by
  cases o with
  | none => rfl
  | some n => simp only [Option.map_some, rtR]; rw [show i + (n + 1) = i + 1 + n by omega]
def RtIs (L : List UInt8) (i : Nat) : Prop := V (F tab) r17_B0 (r17_S0 (.d (.str (bt L))) (.d (iv i)) []) = rtR i (qtA false (L.drop i))
theorem rt_end (L : List UInt8) (i : Nat) (h : L.length ≤ i) : RtIs L i := by
  have h1 : ((i : Int) < (L.length : Int)) = False := eq_false (by omega)
  have hz := bt_size L
  unfold RtIs
  rw [List.drop_of_length_le h, r17_B0_eq]
  simp (disch := omega) only [go_sem, r17_C0, hz, h1, qtA, rtR]
theorem rt_step (L : List UInt8) (hl : L.length ≤ 100000) (i : Nat) (h : i < L.length) (ih1 : RtIs L (i + 1)) (ih2 : RtIs L (i + 2)) : RtIs L i := by
  have h1 : ((i : Int) < (L.length : Int)) = True := eq_true (by omega)
  have i0 : (0 ≤ (i : Int)) = True := eq_true (by omega)
  have hz := bt_size L
  have hx : L[i]? = some L[i] := List.getElem?_eq_getElem (by omega)
  have hd : L.drop i = L[i] :: L.drop (i + 1) := List.drop_eq_getElem_cons (by omega)
  have hg := bt_get L i
  rw [hx] at hg
  have e1 : (i : Int) + 1 = ((i + 1 : Nat) : Int) := rfl
  have e2 : ((i + 1 : Nat) : Int) + 1 = ((i + 2 : Nat) : Int) := rfl
  have u1 : (((L[i].toNat : Nat) : Int) == 92) = (L[i] == 92) := u8_eq _ 92
  have u2 : (((L[i].toNat : Nat) : Int) == 34) = (L[i] == 34) := u8_eq _ 34
  unfold RtIs at ih1 ih2 ⊢
  rw [hd, qtA]
  rcases Bool.eq_false_or_eq_true (L[i] == 92) with g | g
  · rw [g] at u1
    rw [g, if_pos rfl, rtR_map]
    have hq : rtR (i + 1) (qtA true (L.drop (i + 1))) = rtR (i + 2) (qtA false (L.drop (i + 2))) := by
      by_cases hn : i + 1 < L.length
      · rw [List.drop_eq_getElem_cons hn, qtA, rtR_map]
      · rw [List.drop_of_length_le (by omega), List.drop_of_length_le (by omega)]; rfl
    rw [hq, r17_B0_eq]
    simp (disch := omega) only [go_sem, r17_C0, hz, h1, i0, hg, u1, w64, e1, e2]
    exact ih2
  · rw [g] at u1
    rw [g, if_neg (by simp)]
    rcases Bool.eq_false_or_eq_true (L[i] == 34) with g2 | g2
    · rw [g2] at u2
      rw [g2, if_pos rfl, r17_B0_eq]
      simp (disch := omega) only [go_sem, r17_C0, hz, h1, i0, hg, u1, u2, w64, e1, rtR]
    · rw [g2] at u2
      rw [g2, if_neg (by simp), rtR_map, r17_B0_eq]
      simp (disch := omega) only [go_sem, r17_C0, hz, h1, i0, hg, u1, u2, w64, e1]
      exact ih1
theorem rt_loop (L : List UInt8) (hl : L.length ≤ 100000) : ∀ (f i : Nat), L.length ≤ i + f → RtIs L i
  | 0, i, hi => rt_end L i (by omega)
  | f + 1, i, hi => by
    by_cases h : i < L.length
    · exact rt_step L hl i h (rt_loop L hl f (i + 1) (by omega)) (rt_loop L hl f (i + 2) (by omega))
    · exact rt_end L i (by omega)
theorem rtext_ok (L : List UInt8) (hl : L.length ≤ 100000) (i : Nat) (hi : i < L.length) (hp : List Ent) : F tab 17 [.d (.str (bt L)), .d (iv i)] hp = some (.ret (.d (iv (if qtN (L.drop i) = 0 then -1 else ((i + qtN (L.drop i) : Nat) : Int)))) hp) := by
  have h := rt_loop L hl L.length (i + 1) (by omega)
  unfold RtIs at h
  have e1 : (i : Int) + 1 = ((i + 1 : Nat) : Int) := rfl
  unfold qtN
  rw [List.drop_drop]
  refine f17 rfl ?_
  simp (disch := omega) only [go_sem, r17_T, r17, w64, e1]
  rw [r17_B0_n]
  cases hq : qtA false (L.drop (i + 1)) with
  | none =>
    rw [hq] at h
    unfold rtR at h
    erw [h]
    simp only [go_sem]
  | some n =>
    rw [hq] at h
    unfold rtR at h
    erw [h]
    have e : i + (n + 1) = i + 1 + n := by omega
    simp only [go_sem, if_neg (Nat.succ_ne_zero n), e]
end Go.Pe.T

namespace Go.Pe.T
def hexI (c : Int) : Int := if 48 ≤ c ∧ c ≤ 57 then c - 48 else if 97 ≤ c ∧ c ≤ 102 then c - 87 else if 65 ≤ c ∧ c ≤ 70 then c - 55 else -1
theorem hex_same (c : UInt8) : hexI (c.toNat : Int) = (hexP c).getD (-1) ∧ ∀ d, hexP c = some d → 0 ≤ d ∧ d < 16 := by
  have : ∀ n : Fin 256, hexI ((UInt8.ofNat n.val).toNat : Int) = (hexP (UInt8.ofNat n.val)).getD (-1) ∧ ((hexP (UInt8.ofNat n.val)).all fun d => decide (0 ≤ d) && decide (d < 16)) = true := by decide +kernel
  have h := this ⟨c.toNat, c.toNat_lt⟩
  rw [UInt8.ofNat_toNat] at h
  refine ⟨h.1, fun d hd => ?_⟩
  have h2 := h.2
  rw [hd] at h2
  simpa using h2
theorem rhex_ok (c : Int) (h0 : 0 ≤ c) (h1 : c < 256) (hp : List Ent) : F tab 40 [.d (.int .u8 c)] hp = some (.ret (.d (iv (hexI c))) hp) := by
  refine f40 rfl ?_
  have hr : (c ≤ 47) ∨ (48 ≤ c ∧ c ≤ 57) ∨ (58 ≤ c ∧ c ≤ 64) ∨ (65 ≤ c ∧ c ≤ 70) ∨ (71 ≤ c ∧ c ≤ 96) ∨ (97 ≤ c ∧ c ≤ 102) ∨ (103 ≤ c) := by omega
  rcases hr with hr | hr | hr | hr | hr | hr | hr
  · have e : hexI c = -1 := by unfold hexI; (repeat split) <;> omega
    have g1 : (c ≥ 48) = False := eq_false (by omega)
    have g2 : (c ≤ 57) = True := eq_true (by omega)
    have g3 : (c ≥ 97) = False := eq_false (by omega)
    have g4 : (c ≤ 102) = True := eq_true (by omega)
    have g5 : (c ≥ 65) = False := eq_false (by omega)
    have g6 : (c ≤ 70) = True := eq_true (by omega)
    rw [e]
    simp (disch := omega) only [go_sem, r40_T, r40, g1, g2, g3, g4, g5, g6, w64]
  · have e : hexI c = c - 48 := by unfold hexI; (repeat split) <;> omega
    have g1 : (c ≥ 48) = True := eq_true (by omega)
    have g2 : (c ≤ 57) = True := eq_true (by omega)
    have g3 : (c ≥ 97) = False := eq_false (by omega)
    have g4 : (c ≤ 102) = True := eq_true (by omega)
    have g5 : (c ≥ 65) = False := eq_false (by omega)
    have g6 : (c ≤ 70) = True := eq_true (by omega)
    rw [e]
    simp (disch := omega) only [go_sem, r40_T, r40, g1, g2, g3, g4, g5, g6, w64]
  · have e : hexI c = -1 := by unfold hexI; (repeat split) <;> omega
    have g1 : (c ≥ 48) = True := eq_true (by omega)
    have g2 : (c ≤ 57) = False := eq_false (by omega)
    have g3 : (c ≥ 97) = False := eq_false (by omega)
    have g4 : (c ≤ 102) = True := eq_true (by omega)
    have g5 : (c ≥ 65) = False := eq_false (by omega)
    have g6 : (c ≤ 70) = True := eq_true (by omega)
    rw [e]
    simp (disch := omega) only [go_sem, r40_T, r40, g1, g2, g3, g4, g5, g6, w64]
  · have e : hexI c = c - 55 := by unfold hexI; (repeat split) <;> omega
    have g1 : (c ≥ 48) = True := eq_true (by omega)
    have g2 : (c ≤ 57) = False := eq_false (by omega)
    have g3 : (c ≥ 97) = False := eq_false (by omega)
    have g4 : (c ≤ 102) = True := eq_true (by omega)
    have g5 : (c ≥ 65) = True := eq_true (by omega)
    have g6 : (c ≤ 70) = True := eq_true (by omega)
    rw [e]
    simp (disch := omega) only [go_sem, r40_T, r40, g1, g2, g3, g4, g5, g6, w64]
  · have e : hexI c = -1 := by unfold hexI; (repeat split) <;> omega
    have g1 : (c ≥ 48) = True := eq_true (by omega)
    have g2 : (c ≤ 57) = False := eq_false (by omega)
    have g3 : (c ≥ 97) = False := eq_false (by omega)
    have g4 : (c ≤ 102) = True := eq_true (by omega)
    have g5 : (c ≥ 65) = True := eq_true (by omega)
    have g6 : (c ≤ 70) = False := eq_false (by omega)
    rw [e]
    simp (disch := omega) only [go_sem, r40_T, r40, g1, g2, g3, g4, g5, g6, w64]
  · have e : hexI c = c - 87 := by unfold hexI; (repeat split) <;> omega
    have g1 : (c ≥ 48) = True := eq_true (by omega)
    have g2 : (c ≤ 57) = False := eq_false (by omega)
    have g3 : (c ≥ 97) = True := eq_true (by omega)
    have g4 : (c ≤ 102) = True := eq_true (by omega)
    have g5 : (c ≥ 65) = True := eq_true (by omega)
    have g6 : (c ≤ 70) = False := eq_false (by omega)
    rw [e]
    simp (disch := omega) only [go_sem, r40_T, r40, g1, g2, g3, g4, g5, g6, w64]
  · have e : hexI c = -1 := by unfold hexI; (repeat split) <;> omega
    have g1 : (c ≥ 48) = True := eq_true (by omega)
    have g2 : (c ≤ 57) = False := eq_false (by omega)
    have g3 : (c ≥ 97) = True := eq_true (by omega)
    have g4 : (c ≤ 102) = False := eq_false (by omega)
    have g5 : (c ≥ 65) = True := eq_true (by omega)
    have g6 : (c ≤ 70) = False := eq_false (by omega)
    rw [e]
    simp (disch := omega) only [go_sem, r40_T, r40, g1, g2, g3, g4, g5, g6, w64]
def smpI (c : Int) : Int := if c = 34 ∨ c = 92 ∨ c = 47 then c else if c = 98 then 8 else if c = 102 then 12 else if c = 110 then 10 else if c = 114 then 13 else if c = 116 then 9 else -1
def smpP (c : UInt8) : Option UInt8 := match escO[(Lib.indexByte escI c).toNat]? with | some d => if Lib.indexByte escI c < 0 then none else some d | none => none
theorem smp_same (c : UInt8) : smpI (c.toNat : Int) = match smpP c with | some d => (d.toNat : Int) | none => -1 := by
  have : ∀ n : Fin 256, smpI ((UInt8.ofNat n.val).toNat : Int) = match smpP (UInt8.ofNat n.val) with | some d => (d.toNat : Int) | none => -1 := by decide +kernel
  have h := this ⟨c.toNat, c.toNat_lt⟩
  rw [UInt8.ofNat_toNat] at h
  exact h
theorem rsimple_ok (c : Int) (h0 : 0 ≤ c) (h1 : c < 256) (hp : List Ent) : F tab 30 [.d (.int .u8 c)] hp = some (.ret (.d (iv (smpI c))) hp) := by
  refine f30 rfl ?_
  by_cases q34 : c = 34
  · have e : smpI c = c := by unfold smpI; (repeat split) <;> omega
    have g34 : (c == 34) = true := by simpa using q34
    rw [e]
    simp (disch := omega) only [go_sem, r30_T, r30, g34, w64]
  by_cases q92 : c = 92
  · have e : smpI c = c := by unfold smpI; (repeat split) <;> omega
    have g34 : (c == 34) = false := by simpa using q34
    have g92 : (c == 92) = true := by simpa using q92
    rw [e]
    simp (disch := omega) only [go_sem, r30_T, r30, g34, g92, w64]
  by_cases q47 : c = 47
  · have e : smpI c = c := by unfold smpI; (repeat split) <;> omega
    have g34 : (c == 34) = false := by simpa using q34
    have g92 : (c == 92) = false := by simpa using q92
    have g47 : (c == 47) = true := by simpa using q47
    rw [e]
    simp (disch := omega) only [go_sem, r30_T, r30, g34, g92, g47, w64]
  by_cases q98 : c = 98
  · have e : smpI c = 8 := by unfold smpI; (repeat split) <;> omega
    have g34 : (c == 34) = false := by simpa using q34
    have g92 : (c == 92) = false := by simpa using q92
    have g47 : (c == 47) = false := by simpa using q47
    have g98 : (c == 98) = true := by simpa using q98
    rw [e]
    simp (disch := omega) only [go_sem, r30_T, r30, g34, g92, g47, g98, w64]
  by_cases q102 : c = 102
  · have e : smpI c = 12 := by unfold smpI; (repeat split) <;> omega
    have g34 : (c == 34) = false := by simpa using q34
    have g92 : (c == 92) = false := by simpa using q92
    have g47 : (c == 47) = false := by simpa using q47
    have g98 : (c == 98) = false := by simpa using q98
    have g102 : (c == 102) = true := by simpa using q102
    rw [e]
    simp (disch := omega) only [go_sem, r30_T, r30, g34, g92, g47, g98, g102, w64]
  by_cases q110 : c = 110
  · have e : smpI c = 10 := by unfold smpI; (repeat split) <;> omega
    have g34 : (c == 34) = false := by simpa using q34
    have g92 : (c == 92) = false := by simpa using q92
    have g47 : (c == 47) = false := by simpa using q47
    have g98 : (c == 98) = false := by simpa using q98
    have g102 : (c == 102) = false := by simpa using q102
    have g110 : (c == 110) = true := by simpa using q110
    rw [e]
    simp (disch := omega) only [go_sem, r30_T, r30, g34, g92, g47, g98, g102, g110, w64]
  by_cases q114 : c = 114
  · have e : smpI c = 13 := by unfold smpI; (repeat split) <;> omega
    have g34 : (c == 34) = false := by simpa using q34
    have g92 : (c == 92) = false := by simpa using q92
    have g47 : (c == 47) = false := by simpa using q47
    have g98 : (c == 98) = false := by simpa using q98
    have g102 : (c == 102) = false := by simpa using q102
    have g110 : (c == 110) = false := by simpa using q110
    have g114 : (c == 114) = true := by simpa using q114
    rw [e]
    simp (disch := omega) only [go_sem, r30_T, r30, g34, g92, g47, g98, g102, g110, g114, w64]
  by_cases q116 : c = 116
  · have e : smpI c = 9 := by unfold smpI; (repeat split) <;> omega
    have g34 : (c == 34) = false := by simpa using q34
    have g92 : (c == 92) = false := by simpa using q92
    have g47 : (c == 47) = false := by simpa using q47
    have g98 : (c == 98) = false := by simpa using q98
    have g102 : (c == 102) = false := by simpa using q102
    have g110 : (c == 110) = false := by simpa using q110
    have g114 : (c == 114) = false := by simpa using q114
    have g116 : (c == 116) = true := by simpa using q116
    rw [e]
    simp (disch := omega) only [go_sem, r30_T, r30, g34, g92, g47, g98, g102, g110, g114, g116, w64]
  have e : smpI c = -1 := by unfold smpI; (repeat split) <;> omega
  have g34 : (c == 34) = false := by simpa using q34
  have g92 : (c == 92) = false := by simpa using q92
  have g47 : (c == 47) = false := by simpa using q47
  have g98 : (c == 98) = false := by simpa using q98
  have g102 : (c == 102) = false := by simpa using q102
  have g110 : (c == 110) = false := by simpa using q110
  have g114 : (c == 114) = false := by simpa using q114
  have g116 : (c == 116) = false := by simpa using q116
  rw [e]
  simp (disch := omega) only [go_sem, r30_T, r30, g34, g92, g47, g98, g102, g110, g114, g116, w64]
theorem stR_add (a k : Nat) (ha : a < 4096) (hk : k < 16) : stR (a : Int) (k : Int) = ((16 * a + k : Nat) : Int) := by
  have w : ∀ n : Int, 0 ≤ n → n < 2147483648 → IntKind.i32.wrap n = n := by
    intro n h1 h2
    simp only [IntKind.wrap, IntKind.bits, IntKind.signed, Bool.true_and, ge_iff_le, decide_eq_true_eq]
    have e1 : (2 : Int) ^ 32 = 4294967296 := by decide
    have e2 : (2 : Int) ^ (32 - 1) = 2147483648 := by decide
    rw [e1, e2, Int.emod_eq_of_lt h1 (by omega), if_neg (by omega)]
  have hs : shlI (a : Int) 4 = ((a * 16 : Nat) : Int) := by
    unfold shlI
    have e : min 4 IntKind.i32.bits = 4 := rfl
    have e2 : (a : Int) * 2 ^ 4 = ((a * 16 : Nat) : Int) := by omega
    rw [e, e2, w _ (by omega) (by omega)]
  unfold stR orI
  rw [hs, w (k : Int) (by omega) (by omega)]
  have hb : (BitVec.ofInt IntKind.i32.bits ((a * 16 : Nat) : Int) ||| BitVec.ofInt IntKind.i32.bits (k : Int)).toNat = 16 * a + k := by
    have e1 : IntKind.i32.bits = 32 := rfl
    rw [e1, BitVec.ofInt_natCast, BitVec.ofInt_natCast, BitVec.toNat_or, BitVec.toNat_ofNat, BitVec.toNat_ofNat, Nat.mod_eq_of_lt (by omega), Nat.mod_eq_of_lt (by omega)]
    have := Nat.two_pow_add_eq_or_of_lt (i := 4) (b := k) (by omega) a
    rw [Nat.mul_comm a 16]
    exact this.symm
  rw [hb, w _ (by omega) (by omega)]
end Go.Pe.T

namespace Go.Pe.T
def fvR : Option Int → Option (Ex × St)
  | some m => some (.norm, r31_E0 (.d (iv m)) [])
  | none => some (.ret, r31_R (.d (iv (-1))) [])
def FvIs (L : List UInt8) (i k : Nat) (n : Int) : Prop :=
  V (F tab) r31_B0 (r31_S0 (.d (.str (bt L))) (.d (iv i)) (.d (iv n)) (.d (iv k)) []) = fvR (fourF (4 - k) (L.drop (i + k)) n)
theorem fv_end (L : List UInt8) (i : Nat) (n : Int) : FvIs L i 4 n := by
  have h1 : (((4 : Nat) : Int) < 4) = False := eq_false (by decide)
  unfold FvIs
  rw [r31_B0_eq]
  simp (disch := omega) only [go_sem, r31_C0, h1, fvR, fourF, Nat.sub_self]
theorem fv_step (L : List UInt8) (hl : L.length ≤ 100000) (i k a : Nat) (hi : i ≤ 200000) (hk : k < 4) (ha : a < 4096) (ih : ∀ d : Nat, d < 16 → FvIs L i (k + 1) ((16 * a + d : Nat) : Int)) : FvIs L i k (a : Int) := by
  have hz := bt_size L
  have h1 : ((k : Int) < 4) = True := eq_true (by omega)
  have e1 : (i : Int) + (k : Int) = ((i + k : Nat) : Int) := rfl
  have ek : (k : Int) + 1 = ((k + 1 : Nat) : Int) := rfl
  have i0 : (0 ≤ ((i + k : Nat) : Int)) = True := eq_true (by omega)
  have e4 : 4 - k = (4 - (k + 1)) + 1 := by omega
  unfold FvIs at ih ⊢
  by_cases h : i + k < L.length
  · have h2 : (((i + k : Nat) : Int) ≥ (L.length : Int)) = False := eq_false (by omega)
    have hx : L[i + k]? = some L[i + k] := List.getElem?_eq_getElem h
    have hd : L.drop (i + k) = L[i + k] :: L.drop (i + k + 1) := List.drop_eq_getElem_cons h
    have hg := bt_get L (i + k)
    rw [hx] at hg
    have hlt := L[i + k].toNat_lt
    have hh := rhex_ok (L[i + k].toNat : Int) (by omega) (by omega)
    obtain ⟨s1, s2⟩ := hex_same L[i + k]
    rw [hd, e4, fourF]
    cases hp : hexP L[i + k] with
    | none =>
      rw [hp] at s1
      have s1 : hexI (L[i + k].toNat : Int) = -1 := s1
      have q : ((-1 : Int) < 0) = True := eq_true (by decide)
      rw [s1] at hh
      simp only [fvR]
      rw [r31_B0_eq]
      simp (disch := omega) only [go_sem, r31_C0, hz, h1, e1, h2, i0, hg, hh, q, w64]
    | some d =>
      rw [hp] at s1
      have s1 : hexI (L[i + k].toNat : Int) = d := s1
      obtain ⟨d0, d1⟩ := s2 d hp
      obtain ⟨m, rfl⟩ : ∃ m : Nat, d = (m : Int) := ⟨d.toNat, by omega⟩
      have q : ((m : Int) < 0) = False := eq_false (by omega)
      rw [s1] at hh
      have key := ih m (by omega)
      have hst := stR_add a m ha (by omega)
      have em : 16 * (a : Int) + (m : Int) = ((16 * a + m : Nat) : Int) := by omega
      simp only []
      rw [hst]
      rw [← Nat.add_assoc] at key
      rw [r31_B0_eq]
      simp (disch := omega) only [go_sem, r31_C0, hz, h1, e1, h2, i0, hg, hh, q, w64, em, ek]
      exact key
  · have h2 : (((i + k : Nat) : Int) ≥ (L.length : Int)) = True := eq_true (by omega)
    rw [List.drop_of_length_le (by omega), e4, fourF]
    simp only [fvR]
    rw [r31_B0_eq]
    simp (disch := omega) only [go_sem, r31_C0, hz, h1, e1, h2, w64]
theorem fourF_short : ∀ (m : Nat) (R : List UInt8) (n : Int), R.length < m → fourF m R n = none
  | 0, R, n, h => by omega
  | m + 1, [], n, h => rfl
  | m + 1, c :: r, n, h => by
    rw [fourF]
    cases hexP c with
    | none => rfl
    | some d => exact fourF_short m r _ (by simp only [List.length_cons] at h; omega)
theorem fourF_eq (R : List UInt8) : (fourP R).map (·.1) = fourF 4 R 0 := by
  unfold fourP
  split
  · rename_i h; rw [fourF_short 4 R 0 h]; rfl
  · cases fourF 4 R 0 <;> rfl
def fourI (R : List UInt8) : Int := match fourP R with | some (n, _) => n | none => -1
theorem rfour_ok (L : List UInt8) (hl : L.length ≤ 100000) (i : Nat) (hi : i ≤ 200000) (hp : List Ent) : F tab 31 [.d (.str (bt L)), .d (iv i)] hp = some (.ret (.d (iv (fourI (L.drop i)))) hp) := by
  have h3 : ∀ a : Nat, a < 4096 → FvIs L i 3 (a : Int) := fun a ha => fv_step L hl i 3 a hi (by omega) ha fun d hd => fv_end L i _
  have h2 : ∀ a : Nat, a < 256 → FvIs L i 2 (a : Int) := fun a ha => fv_step L hl i 2 a hi (by omega) (by omega) fun d hd => h3 _ (by omega)
  have h1 : ∀ a : Nat, a < 16 → FvIs L i 1 (a : Int) := fun a ha => fv_step L hl i 1 a hi (by omega) (by omega) fun d hd => h2 _ (by omega)
  have h0 : FvIs L i 0 ((0 : Nat) : Int) := fv_step L hl i 0 0 hi (by omega) (by omega) fun d hd => h1 _ (by omega)
  unfold FvIs at h0
  rw [Nat.add_zero] at h0
  have h0 : V (F tab) r31_B0 (r31_S0 (.d (.str (bt L))) (.d (iv i)) (.d (iv 0)) (.d (iv 0)) []) = fvR (fourF 4 (L.drop i) 0) := h0
  have hf := fourF_eq (L.drop i)
  refine f31 rfl ?_
  simp (disch := omega) only [go_sem, r31_T, r31]
  rw [r31_B0_n]
  unfold fourI
  cases hq : fourP (L.drop i) with
  | none =>
    rw [hq] at hf
    rw [← hf] at h0
    simp only [Option.map_none, fvR] at h0
    erw [h0]
    simp only [go_sem]
  | some p =>
    obtain ⟨n, R'⟩ := p
    rw [hq] at hf
    rw [← hf] at h0
    simp only [Option.map_some, fvR] at h0
    erw [h0]
    simp only [go_sem]
end Go.Pe.T

namespace Go.Pe.T

def putI (c : Int) : List Int :=
  if c < 128 then [c] else if c < 2048 then [192 + c / 64, 128 + c % 64] else if c < 65536 then [224 + c / 4096, 128 + c / 64 % 64, 128 + c % 64]
  else [240 + c / 262144, 128 + c / 4096 % 64, 128 + c / 64 % 64, 128 + c % 64]
theorem put_ok (c : Int) (h0 : 0 ≤ c) (h1 : c ≤ 2097151) (hp : List Ent) : F tab 32 [.d (iv c)] hp = some (.ret (.d (.sl ((putI c).map (D.int .u8)))) hp) := by
  refine f32 rfl ?_
  unfold putI
  have e1 : c.tdiv 64 = c / 64 := Int.tdiv_eq_ediv_of_nonneg h0
  have e2 : c.tdiv 4096 = c / 4096 := Int.tdiv_eq_ediv_of_nonneg h0
  have e3 : c.tdiv 262144 = c / 262144 := Int.tdiv_eq_ediv_of_nonneg h0
  have e4 : c.tmod 64 = c % 64 := Int.tmod_eq_emod_of_nonneg h0
  have e5 : (c / 64).tmod 64 = c / 64 % 64 := Int.tmod_eq_emod_of_nonneg (by omega)
  have e6 : (c / 4096).tmod 64 = c / 4096 % 64 := Int.tmod_eq_emod_of_nonneg (by omega)
  by_cases g1 : c < 128
  · simp (disch := omega) only [go_sem, r32_T, r32, g1, wu8, List.map_cons, List.map_nil]
  · by_cases g2 : c < 2048
    · simp (disch := omega) only [go_sem, r32_T, r32, g1, g2, w64, wu8, e1, e4, List.map_cons, List.map_nil]
    · by_cases g3 : c < 65536
      · simp (disch := omega) only [go_sem, r32_T, r32, g1, g2, g3, w64, wu8, e1, e2, e4, e5, List.map_cons, List.map_nil]
      · simp (disch := omega) only [go_sem, r32_T, r32, g1, g2, g3, w64, wu8, e1, e2, e3, e4, e5, e6, List.map_cons, List.map_nil]
end Go.Pe.T
