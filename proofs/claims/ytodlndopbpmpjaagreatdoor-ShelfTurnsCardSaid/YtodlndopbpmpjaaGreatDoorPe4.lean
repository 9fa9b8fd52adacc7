/- A part of the proof of: A text that is turned round twice stands as it did and is as long; great letters of small ones and trimming twice turn nothing more; each text begins and ends with nothing and has itself in it (keyholelaw21.ShelfTurns answers true for every input). -/
import Derived.Test.YtodlndopbpmpjaaGreatDoorPe3
import Derived.Lib.Bytealg
import Derived.Laws.Externs
set_option linter.unusedSimpArgs false
set_option linter.unusedVariables false
set_option maxRecDepth 20000

namespace Go.Pe
section
variable {P : Program} {g : G} {w : World} {a : Act} {s s' : St}

def IdxEnt (P : Program) (k : Nat) : Prop :=
  ∃ fn, P.funcs[k]? = some fn ∧ (fn.name == "runtime.NumGoroutine") = false ∧ fn.body.isNone = true ∧ Extern.findNext fn = none ∧ Extern.find fn = some Extern.BytealgIndexByte.indexByte

def idxA : RCode := .reg [⟨some 4, none, .mv false (.c (.d (.int .i64 0)))⟩] [] false

def idxOps (k : Nat) : List Oper → Bool
  | [o1, o2, o3, o4] => o1.dst == some 5 && o2.dst == some 6 && o3.dst == some 7 && o4.dst == some 4 && o1.guard.isNone && o2.guard.isNone && o3.guard.isNone && o4.guard.isNone &&
      (match o1.op with | .move (.tmp 0) => true | _ => false) && (match o2.op with | .move (.tmp 1) => true | _ => false) &&
      (match o3.op with | .call ⟨.value (.func k'), ⟨[.tmp 5, .tmp 6]⟩, _⟩ => k' == k | _ => false) && (match o4.op with | .assign (.tmp 7) => true | _ => false)
  | _ => false

def idxOk (P : Program) (f k : Nat) : Bool :=
  match P.funcs[f]? with
  | some fn => fn.ntmps == 8 && (fn.name != "runtime.NumGoroutine") && resOk P fn.results.toList [.t 4] &&
    (match fn.body with
    | some (.seq c0 (.seq (.region _ ops false) .ret)) => codeOk P (fun _ => false) c0 idxA && idxOps k ops.toList
    | _ => false)
  | none => false

def idxP : List PV → Option PV
  | [.d (.str s), .d (.int .u8 c)] => some (.d (.int .i64 (Lib.indexByte s.data.toList c.toNat.toUInt8)))
  | _ => none

theorem idx_run {f k : Nat} (hX : IdxEnt P k) (hk : idxOk P f k = true) {s : ByteArray} {c : Int} {g : G} {w : World} :
    Calls P f #[.string s, .int .u8 c] w fun en w' => ∃ u g', en = .returned u ∧ Chg (fun _ => False) g w g' w' ∧ g'.nb = g.nb ∧ RepR P g' w' (.d (.int .i64 (Lib.indexByte s.data.toList c.toNat.toUInt8))) u := by
  obtain ⟨fx, x1, x2, x3, x4, x5⟩ := hX
  unfold idxOk at hk
  split at hk
  · rename_i fn hf
    simp only [Bool.and_eq_true, beq_iff_eq] at hk
    obtain ⟨⟨⟨hnt, _⟩, hres⟩, hbody⟩ := hk
    split at hbody
    · rename_i c0 i1 ops hc
      simp only [Bool.and_eq_true] at hbody
      obtain ⟨k0, k1⟩ := hbody
      unfold idxOps at k1
      split at k1
      · rename_i o1 o2 o3 o4 hops
        simp only [Bool.and_eq_true, beq_iff_eq, Option.isNone_iff_eq_none] at k1
        obtain ⟨⟨⟨⟨⟨⟨⟨⟨⟨⟨⟨d1, d2⟩, d3⟩, d4⟩, g1⟩, g2⟩, g3⟩, g4⟩, m1⟩, m2⟩, m3⟩, m4⟩ := k1
        split at m1
        · rename_i p1
          split at m2
          · rename_i p2
            split at m3
            · rename_i k' ts p3
              simp only [beq_iff_eq] at m3
              subst m3
              split at m4
              · rename_i p4
                refine calls_of_wp hf hc ?_
                rw [hnt]
                have hargs : RepFs P g.bare w (.ret 0) [.d (.str s), .d (.int .u8 c)] [.string s, .int .u8 c] :=
                  RepFs.bare (l := .ret 0) rfl rfl (by simp only [RepFs, RepF, and_true]; exact ⟨.str _, .int _ _⟩)
                have hI := Inv.enter (P := P) (w := w) (g := g.bare) (hp := []) (l := .ret 0) (args := [.d (.str s), .d (.int .u8 c)]) rfl hargs ⟨rfl, by simp, fun _ _ h => by simp at h⟩ 8
                refine wp_seq (code_sound cf0_sound (pf := fun _ => false) cf0_nice 0 c0 idxA k0 (s' := ⟨[.d (.str s), .d (.int .u8 c), .dead, .dead, .d (.int .i64 0), .dead, .dead, .dead], []⟩) (ex := .norm) rfl hI ?_)
                intro gA wA aA hIA hcA hdA
                refine wp_seq (wp_region ?_)
                have hoa : ops = #[o1, o2, o3, o4] := by apply Array.toList_inj.1; rw [hops]
                subst hoa
                have hrg : List.range (#[o1, o2, o3, o4] : Array Oper).size = [0, 1, 2, 3] := rfl
                rw [hrg]
                simp only [wpOps]
                have w1 : ∀ y, Region.wanted o1 y = true := fun y => by simp [Region.wanted, g1]
                have w2 : ∀ y, Region.wanted o2 y = true := fun y => by simp [Region.wanted, g2]
                have w3 : ∀ y, Region.wanted o3 y = true := fun y => by simp [Region.wanted, g3]
                have w4 : ∀ y, Region.wanted o4 y = true := fun y => by simp [Region.wanted, g4]
                have e1 : (#[o1, o2, o3, o4] : Array Oper)[0]? = some o1 := rfl
                have e2 : (#[o1, o2, o3, o4] : Array Oper)[1]? = some o2 := rfl
                have e3 : (#[o1, o2, o3, o4] : Array Oper)[2]? = some o3 := rfl
                have e4 : (#[o1, o2, o3, o4] : Array Oper)[3]? = some o4 := rfl
                simp only [e1, e2, e3, e4, w1, w2, w3, w4, if_true]
                refine .inl ((op_mv (m := false) (x' := .t 0) hIA (.inl p1) rfl (s1 := ⟨[.d (.str s), .d (.int .u8 c), .dead, .dead, .d (.int .i64 0), .dead, .dead, .dead], []⟩) (v := .d (.str s)) rfl d1 (s' := ⟨[.d (.str s), .d (.int .u8 c), .dead, .dead, .d (.int .i64 0), .d (.str s), .dead, .dead], []⟩) (by rw [d1]; rfl)).wp ?_)
                intro gB wB aB hIB hcB hdB
                have hAB := hcA.trans hcB
                have hdAB := hdB.trans hdA
                refine .inl ((op_mv (m := false) (x' := .t 1) hIB (.inl p2) rfl (s1 := ⟨[.d (.str s), .d (.int .u8 c), .dead, .dead, .d (.int .i64 0), .d (.str s), .dead, .dead], []⟩) (v := .d (.int .u8 c)) rfl d2 (s' := ⟨[.d (.str s), .d (.int .u8 c), .dead, .dead, .d (.int .i64 0), .d (.str s), .d (.int .u8 c), .dead], []⟩) (by rw [d2]; rfl)).wp ?_)
                intro gC wC aC hIC hcC hdC
                have hAC := hAB.trans hcC
                have hdAC := hdC.trans hdAB
                have v5 := (x_toD hIC (x := .tmp 5) (y := .t 5) rfl (d := .str s) rfl).str_inv
                have v6 := (x_toD hIC (x := .tmp 6) (y := .t 6) rfl (d := .int .u8 c) rfl).int_inv
                have hex : (execOp aC.eval o3).run P wC = .ok (.value (.int .i64 (Lib.indexByte s.data.toList c.toNat.toUInt8))) wC := by
                  have ef : aC.eval (.func k') = .func (.func k') #[] #[] := rfl
                  unfold execOp
                  simp only [p3, resolve, ef, Deferred.ofValue, Sem.run_bind, Sem.run_pure, Result.andThen_ok, invoke, run_callFunc_extern x1 x2 x3 x4 x5]
                  have ea : (#[Operand.tmp 5, Operand.tmp 6].map aC.eval ++ #[] : Array Value) = #[.string s, .int .u8 c] := by
                    simp [v5, v6]
                  first
                  | (rw [ea, Lib.run_indexByteString]; rfl)
                  | (simp [v5, v6, Lib.run_indexByteString])
                refine .inl ((OpRes.value (l := .ret 0) hIC hex (v := .d (.int .i64 (Lib.indexByte s.data.toList c.toNat.toUInt8))) (s' := ⟨[.d (.str s), .d (.int .u8 c), .dead, .dead, .d (.int .i64 0), .d (.str s), .d (.int .u8 c), .d (.int .i64 (Lib.indexByte s.data.toList c.toNat.toUInt8))], []⟩) (by rw [d3]; rfl) rfl (by simp only [RepF]; exact .int _ _)).wp ?_)
                intro gD wD aD hID hcD hdD
                have hAD := hAC.trans hcD
                have hdAD := hdD.trans hdAC
                refine .inl ((op_mv (m := false) (x' := .t 7) hID (.inr p4) rfl (s1 := ⟨[.d (.str s), .d (.int .u8 c), .dead, .dead, .d (.int .i64 0), .d (.str s), .d (.int .u8 c), .d (.int .i64 (Lib.indexByte s.data.toList c.toNat.toUInt8))], []⟩) (v := .d (.int .i64 (Lib.indexByte s.data.toList c.toNat.toUInt8))) rfl d4 (s' := ⟨[.d (.str s), .d (.int .u8 c), .dead, .dead, .d (.int .i64 (Lib.indexByte s.data.toList c.toNat.toUInt8)), .d (.str s), .d (.int .u8 c), .d (.int .i64 (Lib.indexByte s.data.toList c.toNat.toUInt8))], []⟩) (by rw [d4]; rfl)).wp ?_)
                intro gE wE aE hIE hcE hdE
                have hAE := hAD.trans hcE
                have hdAE := hdE.trans hdAD
                refine wp_ret ?_
                obtain ⟨u, gF, r1, r2, r3, r4⟩ := results_ok hIE hres (by simp) (v := .d (.int .i64 (Lib.indexByte s.data.toList c.toNat.toUInt8))) rfl
                exact ⟨hdAE, u, r1, u, gF.dress g, rfl, (hAE.trans r2).dress, rfl, RepR.dress (g := g) rfl r3⟩
              · simp at m4
            · simp at m3
          · simp at m2
        · simp at m1
      · simp at k1
    · simp at hbody
  · simp at hk

theorem idx_prim {f k : Nat} (hX : IdxEnt P k) (hk : idxOk P f k = true) : PrimSound P f idxP where
  ent := by
    unfold idxOk at hk
    unfold entered
    split at hk
    · rename_i fn hf
      rw [hf]
      simp only [Bool.and_eq_true, beq_iff_eq] at hk ⊢
      obtain ⟨⟨⟨hnt, h2⟩, hres⟩, hbody⟩ := hk
      split at hbody
      · rename_i c0 i1 ops hc
        exact ⟨by rw [hc]; rfl, h2⟩
      · simp at hbody
    · simp at hk
  calls := by
    intro args v hv hfl hpl g w vals l ha
    unfold idxP at hv
    split at hv
    · rename_i s c
      simp only [Option.some.injEq] at hv
      subst hv
      match vals, ha with
      | [u1, u2], ha =>
        simp only [RepFs, RepF, and_true] at ha
        obtain ⟨h1, h2⟩ := ha
        have e1 := h1.str_inv
        have e2 := h2.int_inv
        subst e1; subst e2
        exact idx_run hX hk
    · simp at hv
end
end Go.Pe

namespace Go.Pe
inductive Xp where
  | mk (op : Int) (text : ByteArray) (pos kind coef scale : Int) (names : List ByteArray) (subs : List Xp)

mutual
def Xp.enc : Xp → D
  | .mk o t p k c s ns xs => .agg [iv o, .str t, iv p, iv k, iv c, iv s, .sl (ns.map .str), .sl (Xp.encs xs)]
def Xp.encs : List Xp → List D
  | [] => []
  | v :: r => v.enc :: Xp.encs r
end
mutual
def Xp.ok : Xp → Prop
  | .mk o t p k c s ns xs => i64 o ∧ t.size ≤ maxLen ∧ i64 p ∧ i64 k ∧ i64 c ∧ i64 s ∧ ns.length ≤ maxLen ∧ (∀ x ∈ ns, x.size ≤ maxLen) ∧ xs.length ≤ maxLen ∧ Xp.oks xs
def Xp.oks : List Xp → Prop
  | [] => True
  | v :: r => v.ok ∧ Xp.oks r
end
mutual
def Xp.pre : Xp → List Xp
  | .mk o t p k c s ns xs => .mk o t p k c s ns xs :: Xp.pres xs
def Xp.pres : List Xp → List Xp
  | [] => []
  | x :: r => x.pre ++ Xp.pres r
end
def Xp.subs : Xp → List Xp
  | .mk _ _ _ _ _ _ _ xs => xs
mutual
theorem pre_ok : ∀ (e : Xp), e.ok → ∀ x ∈ e.pre, x.ok
  | .mk o t p k c s ns xs, h, x, hx => by
    simp only [Xp.pre, List.mem_cons] at hx
    rcases hx with rfl | hx
    · exact h
    · simp only [Xp.ok] at h
      exact pres_ok xs h.2.2.2.2.2.2.2.2.2 x hx
theorem pres_ok : ∀ (xs : List Xp), Xp.oks xs → ∀ x ∈ Xp.pres xs, x.ok
  | [], h, x, hx => by simp [Xp.pres] at hx
  | e :: xs, h, x, hx => by
    simp only [Xp.pres, List.mem_append] at hx
    rcases hx with hx | hx
    · exact pre_ok e h.1 x hx
    · exact pres_ok xs h.2 x hx
end

section
variable {H : Type} {P : Program}
structure XpT (P : Program) (tV : TypeId) : Prop where
  is : ∃ (fV fN : Array Field) (tO tX tP tK tN tT tU tC tE tEs : TypeId), P.underlying tV = some (.struct fV) ∧ fV.toList.map (·.type) = [tO, tX, tP, tK, tN, tT, tU] ∧
    P.underlying tO = some (.int .i64) ∧ P.underlying tX = some .string ∧ P.underlying tP = some (.int .i64) ∧ P.underlying tK = some (.int .i64) ∧
    P.underlying tN = some (.struct fN) ∧ fN.toList.map (·.type) = [tC, tE] ∧ P.underlying tC = some (.int .i64) ∧ P.underlying tE = some (.int .i64) ∧
    P.underlying tT = some (.slice tEs) ∧ P.underlying tEs = some .string ∧ P.underlying tU = some (.slice tV)

end
end Go.Pe

namespace Go.Pe

structure AggRow (sz : Nat) (ys : List D) : Prop where
  agg : ∀ y ∈ ys, y.isAgg = true
  wid : ∀ y ∈ ys, y.width = sz
  one : ∀ y ∈ ys, ∀ c ∈ y.cells, c.isAgg = false

theorem AggRow.set {sz : Nat} {ys : List D} (h : AggRow sz ys) {i : Nat} {y : D} (ha : y.isAgg = true) (hw : y.width = sz) (ho : ∀ c ∈ y.cells, c.isAgg = false) : AggRow sz (ys.set i y) := by
  have key : ∀ z ∈ ys.set i y, z ∈ ys ∨ z = y := fun z hz => List.mem_or_eq_of_mem_set hz
  exact ⟨fun z hz => (key z hz).elim (h.agg z) (fun e => e ▸ ha), fun z hz => (key z hz).elim (h.wid z) (fun e => e ▸ hw), fun z hz => (key z hz).elim (h.one z) (fun e => e ▸ ho)⟩

end Go.Pe

namespace Go.Pe
end Go.Pe
