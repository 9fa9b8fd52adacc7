/- A part of the proof of: The tokens of any query, or where it is wrong, and how, are the document's, one by one (LexTokens); no condition beyond the statement's own. -/
import Derived.Test.YtgcpkhhopjhpiaaDoorLt5
set_option linter.unusedSimpArgs false
set_option linter.unusedVariables false
set_option maxRecDepth 100000

namespace Go.Pe.T
theorem ok_of13 {n f : Nat} {args : List PV} {v : PV} (hf : pf f = true) (h : evF tab n f args [] = some (.ret v [])) (hp : List Ent) : F tab f args hp = some (.ret v hp) :=
  F_some.2 ⟨n, ((evF_nice (pf := pf) pf_ok n).2 f hf _ _ _ _ h).2 hp⟩
theorem lives13_ok (hp : List Ent) : F tab 7 [] hp = some (.ret (.d (.bool true)) hp) := by
  have h : evF tab 70 7 [] [] = some (.ret (.d (.bool true)) []) := by kernel_rfl
  exact ok_of13 rfl h hp
theorem eqD_tk (k c s a : Int) (t : ByteArray) : eqD (.st [(0, 1, .i), (1, 1, .s), (2, 2, (.st [(0, 1, .i), (1, 1, .i)])), (4, 1, .i)]) (.agg [iv k, .str t, iv c, iv s, iv a]) (.agg [iv k, .str t, iv c, iv s, iv a]) = some true := by
  have e : eqD (.st [(0, 1, .i), (1, 1, .s), (2, 2, (.st [(0, 1, .i), (1, 1, .i)])), (4, 1, .i)]) (.agg [iv k, .str t, iv c, iv s, iv a]) (.agg [iv k, .str t, iv c, iv s, iv a])
    = (match some (k == k) with
      | some true => (match some (t.toList == t.toList) with
        | some true => (match (match some (c == c) with | some true => (match some (s == s) with | some true => some true | some false => some false | none => none) | some false => some false | none => none) with
          | some true => (match some (a == a) with | some true => some true | some false => some false | none => none)
          | some false => some false | none => none)
        | some false => some false | none => none)
      | some false => some false | none => none) := rfl
  rw [e]
  simp
theorem tkP_err : ∀ (f : Nat) (R : List UInt8) (at' p : Nat) (e : Int), R.length < f → tkP f R at' = .inr (p, e) → e ≠ 0
  | 0, R, at', p, e, hf, h => by omega
  | f + 1, R, at', p, e, hf, h => by
    unfold tkP at h
    split at h
    · cases h
    · rename_i hne
      split at h
      · rename_i h0
        obtain ⟨m1, m2⟩ := oneR_len hne h0
        cases hh : tkP f ((R.drop (blkA false R)).drop (oneR (R.drop (blkA false R))).2.1) (at' + blkA false R + (oneR (R.drop (blkA false R))).2.1) with
        | inl l' => rw [hh] at h; cases h
        | inr y =>
          obtain ⟨p', e'⟩ := y
          rw [hh] at h
          cases h
          refine tkP_err f _ _ p e ?_ hh
          rw [List.length_drop, List.length_drop] at *
          omega
      · rename_i h0
        cases h
        exact h0
theorem tkDs_get {l : TL} {i : Nat} {x : Tk × Nat} (h : l[i]? = some x) : (tkDs l)[i]? = some (.agg [iv x.1.k, .str (bt x.1.t), iv x.1.c, iv x.1.s, iv (x.2 : Int)]) := by
  unfold tkDs
  rw [List.getElem?_map, h]
  rfl
def GdIs (L : List UInt8) (l : TL) (i k : Nat) : Prop :=
  V (F tab) r3_B0 (r3_S0 (.d (.str (bt L))) (.d (.sl (tkDs l))) (.d (iv 0)) (.d (iv 0)) (.d (iv i)) (.d (iv k)) []) = some (.ret, r3_R (.d (.bool true)) [])
def BdIs (L : List UInt8) (p : Nat) (e : Int) (i k : Nat) : Prop :=
  V (F tab) r3_B0 (r3_S0 (.d (.str (bt L))) (.d (.sl [])) (.d (iv (p : Int))) (.d (iv e)) (.d (iv i)) (.d (iv k)) []) = some (.ret, r3_R (.d (.bool true)) [])
theorem emp_eq : ((bt []).toList == (⟨#[]⟩ : ByteArray).toList) = true := by
  rw [show (⟨#[]⟩ : ByteArray) = bt [] from rfl, bt_list]; rfl
set_option maxHeartbeats 1000000 in
theorem gd_step (L : List UInt8) (hl : L.length ≤ 4096) (l : TL) (hll : l.length ≤ 5000) (f i k : Nat) (hk : k ≤ i) (hi : i ≤ L.length) (l2 : TL) (h : tkP (f + 1) (L.drop i) i = .inl l2) (hl2 : l.drop k = l2)
    (ih : ∀ (j : Nat) (l3 : TL), i < j → j ≤ L.length → tkP f (L.drop j) j = .inl l3 → l.drop (k + 1) = l3 → GdIs L l j (k + 1)) : GdIs L l i k := by
  obtain ⟨n, hn⟩ : ∃ n, n = L.length := ⟨_, rfl⟩
  have hz : (bt L).size = n := hn ▸ bt_size L
  have hbl := rblank_ok L (by omega) i
  have hbd := blkA_le false (L.drop i)
  have hL := lives13_ok
  have hal := tkDs_len l
  have k0 : (0 ≤ (k : Int)) = True := eq_true (by omega)
  have h1 : ((k : Int) ≤ (n : Int)) = True := eq_true (by omega)
  have z0 : ((0 : Int) == 0) = true := rfl
  have z0' : ((0 : Int) != 0) = false := rfl
  have em := emp_eq
  have ek : (k : Int) + 1 = ((k + 1 : Nat) : Int) := rfl
  rw [List.length_drop] at hbd
  unfold tkP at h
  obtain ⟨b, hb⟩ : ∃ b, b = blkA false (L.drop i) := ⟨_, rfl⟩
  rw [← hb] at hbl hbd h
  have hdd : (L.drop i).drop b = L.drop (i + b) := by rw [List.drop_drop]
  rw [hdd] at h
  unfold GdIs
  by_cases he : L.drop (i + b) = []
  · have hib : i + b = n := by
      have := congrArg List.length he
      rw [List.length_drop] at this
      simp at this
      omega
    have q : (((i + b : Nat) : Int) == (n : Int)) = true := by simp; omega
    rw [if_pos he] at h
    cases h
    have hlen : l.length = k + 1 := by
      have := congrArg List.length hl2
      rw [List.length_drop] at this
      simp at this
      omega
    have hg : l[k]? = some (endT, i + b) := by rw [← List.head?_drop, hl2]; rfl
    have v := tkDs_get hg
    simp only [endT] at v
    have q2 : (((l.length : Nat) : Int) != (k : Int) + 1) = false := by rw [hlen]; simp
    have k1 : (k : Int) < (l.length : Int) := by omega
    have z6 : ((6 : Int) == 6) = true := rfl
    have zi : (((i + b : Nat) : Int) == ((i + b : Nat) : Int)) = true := by simp
    clear hn
    generalize tkDs l = W at *
    rw [r3_B0_eq]
    simp (disch := omega) only [go_sem, strD_eql, r3_C0, hz, h1, hbl, q, z0', hal, q2, k0, v, z6, zi, em, hL, w64]
  · have hib : i + b < n := by
      rcases Nat.lt_or_ge (i + b) n with h | h
      · exact h
      · exact absurd (List.drop_of_length_le (by omega)) he
    have q : (((i + b : Nat) : Int) == (n : Int)) = false := by simp; omega
    have hone := rat_ok L hl (i + b) (by omega)
    have hlen := oneR_len he
    rw [List.length_drop] at hlen
    rw [if_neg he] at h
    obtain ⟨tk, m, e, ho⟩ : ∃ tk m e, oneR (L.drop (i + b)) = (tk, m, e) := ⟨_, _, _, rfl⟩
    rw [ho] at hone hlen h
    simp only at hlen h
    by_cases h0 : e = 0
    · subst h0
      obtain ⟨m1, m2⟩ := hlen rfl
      rw [if_pos rfl, List.drop_drop] at h
      cases hh : tkP f (L.drop (i + b + m)) (i + b + m) with
      | inr y => rw [hh] at h; cases h
      | inl l3 =>
        rw [hh] at h
        cases h
        have hd3 : l.drop (k + 1) = l3 := by rw [← List.drop_drop (i := 1) (j := k), hl2]; rfl
        have ih := ih (i + b + m) l3 (by omega) (by omega) hh hd3
        have hg : l[k]? = some (tk, i + b) := by rw [← List.head?_drop, hl2]; rfl
        have hkl : k < l.length := (List.getElem?_eq_some_iff.1 hg).1
        have v := tkDs_get hg
        have hge : ((k : Int) ≥ (l.length : Int)) = False := eq_false (by omega)
        have e2 : ((i + b : Nat) : Int) + (m : Int) = ((i + b + m : Nat) : Int) := rfl
        have e0 := eqD_tk tk.k tk.c tk.s ((i + b : Nat) : Int) (bt tk.t)
        have ea : atD (tk, m, 0) (i + b) = [iv tk.k, .str (bt tk.t), iv tk.c, iv tk.s, iv ((i + b : Nat) : Int), iv (m : Int), iv 0] := rfl
        rw [ea] at hone
        have nq : (!true) = false := rfl
        unfold GdIs at ih
        generalize tk.k = tk1 at *
        generalize tk.c = tk2 at *
        generalize tk.s = tk3 at *
        generalize bt tk.t = tk4 at *
        clear hn
        generalize tkDs l = W at *
        rw [r3_B0_eq]
        simp (disch := omega) only [go_sem, r3_C0, hz, h1, hbl, q, hone, z0, z0', hal, hge, k0, v, e0, e2, ek, nq, w64]
        exact ih
    · rw [if_neg h0] at h
      cases h
set_option maxHeartbeats 1000000 in
theorem bd_step (L : List UInt8) (hl : L.length ≤ 4096) (p : Nat) (err : Int) (herr : err ≠ 0) (f i k : Nat) (hk : k ≤ i) (hi : i ≤ L.length) (h : tkP (f + 1) (L.drop i) i = .inr (p, err))
    (ih : ∀ (j : Nat), i < j → j ≤ L.length → tkP f (L.drop j) j = .inr (p, err) → BdIs L p err j (k + 1)) : BdIs L p err i k := by
  obtain ⟨n, hn⟩ : ∃ n, n = L.length := ⟨_, rfl⟩
  have hz : (bt L).size = n := hn ▸ bt_size L
  have hbl := rblank_ok L (by omega) i
  have hbd := blkA_le false (L.drop i)
  have hL := lives13_ok
  have h1 : ((k : Int) ≤ (n : Int)) = True := eq_true (by omega)
  have z0 : ((0 : Int) == 0) = true := rfl
  have z0' : ((0 : Int) != 0) = false := rfl
  have ek : (k : Int) + 1 = ((k + 1 : Nat) : Int) := rfl
  have ze : (err == 0) = false := by simpa using herr
  have ze' : (err != 0) = true := by simpa using herr
  have zz : (err == err) = true := by simp
  rw [List.length_drop] at hbd
  unfold tkP at h
  obtain ⟨b, hb⟩ : ∃ b, b = blkA false (L.drop i) := ⟨_, rfl⟩
  rw [← hb] at hbl hbd h
  have hdd : (L.drop i).drop b = L.drop (i + b) := by rw [List.drop_drop]
  rw [hdd] at h
  unfold BdIs
  by_cases he : L.drop (i + b) = []
  · rw [if_pos he] at h
    cases h
  · have hib : i + b < n := by
      rcases Nat.lt_or_ge (i + b) n with h | h
      · exact h
      · exact absurd (List.drop_of_length_le (by omega)) he
    have q : (((i + b : Nat) : Int) == (n : Int)) = false := by simp; omega
    have hone := rat_ok L hl (i + b) (by omega)
    have hlen := oneR_len he
    rw [List.length_drop] at hlen
    rw [if_neg he] at h
    obtain ⟨tk, m, e, ho⟩ : ∃ tk m e, oneR (L.drop (i + b)) = (tk, m, e) := ⟨_, _, _, rfl⟩
    rw [ho] at hone hlen h
    simp only at hlen h
    by_cases h0 : e = 0
    · subst h0
      obtain ⟨m1, m2⟩ := hlen rfl
      rw [if_pos rfl, List.drop_drop] at h
      cases hh : tkP f (L.drop (i + b + m)) (i + b + m) with
      | inl l3 => rw [hh] at h; cases h
      | inr y =>
        rw [hh] at h
        have hy : y = (p, err) := by cases h; rfl
        rw [hy] at hh
        have ih := ih (i + b + m) (by omega) (by omega) hh
        have e2 : ((i + b : Nat) : Int) + (m : Int) = ((i + b + m : Nat) : Int) := rfl
        have ea : atD (tk, m, 0) (i + b) = [iv tk.k, .str (bt tk.t), iv tk.c, iv tk.s, iv ((i + b : Nat) : Int), iv (m : Int), iv 0] := rfl
        rw [ea] at hone
        unfold BdIs at ih
        generalize tk.k = tk1 at *
        generalize tk.c = tk2 at *
        generalize tk.s = tk3 at *
        generalize bt tk.t = tk4 at *
        clear hn
        rw [r3_B0_eq]
        simp (disch := omega) only [go_sem, r3_C0, hz, h1, hbl, q, hone, z0, z0', ze, e2, ek, w64]
        exact ih
    · rw [if_neg h0] at h
      cases h
      have ea : atD (tk, m, err) (i + b) = [iv 0, .str ⟨#[]⟩, iv 0, iv 0, iv 0, iv 0, iv err] := by unfold atD; rw [if_neg herr]
      rw [ea] at hone
      have zi : (((i + b : Nat) : Int) == ((i + b : Nat) : Int)) = true := by simp
      clear hn
      rw [r3_B0_eq]
      simp (disch := omega) only [go_sem, r3_C0, hz, h1, hbl, q, hone, ze', zz, zi, hL, List.length_nil, z0]
theorem gd_loop (L : List UInt8) (hl : L.length ≤ 4096) (l : TL) (hll : l.length ≤ 5000) : ∀ (f i k : Nat) (l2 : TL), L.length < i + f → k ≤ i → i ≤ L.length → tkP f (L.drop i) i = .inl l2 → l.drop k = l2 → GdIs L l i k
  | 0, i, k, l2, h, _, _, _, _ => by omega
  | f + 1, i, k, l2, h, hk, hi, h2, h3 => gd_step L hl l hll f i k hk hi l2 h2 h3 fun j l3 h4 h5 h6 h7 => gd_loop L hl l hll f j (k + 1) l3 (by omega) (by omega) h5 h6 h7
theorem bd_loop (L : List UInt8) (hl : L.length ≤ 4096) (p : Nat) (err : Int) (herr : err ≠ 0) : ∀ (f i k : Nat), L.length < i + f → k ≤ i → i ≤ L.length → tkP f (L.drop i) i = .inr (p, err) → BdIs L p err i k
  | 0, i, k, h, _, _, _ => by omega
  | f + 1, i, k, h, hk, hi, h2 => bd_step L hl p err herr f i k hk hi h2 fun j h4 h5 h6 => bd_loop L hl p err herr f j (k + 1) (by omega) (by omega) h5 h6
theorem tkP_len : ∀ (f : Nat) (R : List UInt8) (at' : Nat) (l : TL), tkP f R at' = .inl l → l.length ≤ f
  | 0, R, at', l, h => by simp [tkP] at h
  | f + 1, R, at', l, h => by
    unfold tkP at h
    split at h
    · cases h; simp
    · split at h
      · cases hh : tkP f ((R.drop (blkA false R)).drop (oneR (R.drop (blkA false R))).2.1) (at' + blkA false R + (oneR (R.drop (blkA false R))).2.1) with
        | inl l' =>
          have ih := tkP_len f _ _ l' hh
          rw [hh] at h
          cases h
          simp; omega
        | inr y => rw [hh] at h; cases h
      · cases h
theorem long_tk (L : List UInt8) (hl : (L.length : Int) > 4096) (hp : List Ent) : F tab 6 [.d (.str (bt L))] hp = some (.ret (.tup [.d (.sl []), .d (iv 0), .d (iv 5)]) hp) := by
  have hz := bt_size L
  refine f6 rfl ?_
  simp (disch := omega) only [go_sem, r6_T, r6, hz, hl]
theorem LexTokens_bt (L : List UInt8) (hm : L.length ≤ maxLen) (hp : List Ent) : F tab 3 [.d (.str (bt L))] hp = some (.ret (.d (.bool true)) hp) := by
  have hz := bt_size L
  have hL := lives13_ok
  have z0 : ((0 : Int) == 0) = true := rfl
  by_cases hA : (L.length : Int) > 4096
  · have ht := long_tk L hA
    have z5 : ((5 : Int) == 5) = true := rfl
    refine f3 rfl ?_
    simp (disch := omega) only [go_sem, r3_T, r3, hz, hA, hL, ht, z0, z5, List.length_nil]
  have ht := tokens_ok L (by omega)
  cases h1 : tkR L with
  | inr y =>
    obtain ⟨p, e⟩ := y
    have he := tkP_err _ _ _ _ _ (by omega) h1
    have hl := bd_loop L (by omega) p e he (L.length + 1) 0 0 (by omega) (by omega) (by omega) h1
    rw [h1] at ht
    unfold tkO at ht
    unfold BdIs at hl
    simp only at ht
    refine f3 rfl ?_
    simp (disch := omega) only [go_sem, r3_T, r3, hz, hA, ht]
    rw [r3_B0_n]
    erw [hl]
    simp only [go_sem]
  | inl l =>
    have hl2 := tkP_len _ _ _ _ h1
    have hl := gd_loop L (by omega) l (by omega) (L.length + 1) 0 0 l (by omega) (by omega) (by omega) h1 rfl
    rw [h1] at ht
    unfold tkO at ht
    unfold GdIs at hl
    simp only at ht
    generalize tkDs l = W at *
    refine f3 rfl ?_
    simp (disch := omega) only [go_sem, r3_T, r3, hz, hA, ht]
    rw [r3_B0_n]
    erw [hl]
    simp only [go_sem]
theorem LexTokens_ok (a : ByteArray) (h : a.size ≤ maxLen) (hp : List Ent) : F tab 3 [.d (.str a)] hp = some (.ret (.d (.bool true)) hp) :=
  LexTokens_bt a.data.toList (by simpa using h) hp
end Go.Pe.T
