/- A part of the proof of: A text that is turned round twice stands as it did and is as long; great letters of small ones and trimming twice turn nothing more; each text begins and ends with nothing and has itself in it (keyholelaw21.ShelfTurns answers true for every input). -/
import Derived.Test.YtodlndopbpmpjaaGreatDoorPe1
import Derived.Laws.StructEq
import Derived.ChangeKeysEq
set_option linter.unusedSimpArgs false
set_option linter.unusedVariables false

namespace Go.Pe
section
variable {P : Program} {g : G} {w : World} {a : Act} {s s' : St} {S : Nat → Nat → Prop}

mutual
def etyOk (P : Program) : ETy → TypeId → Bool
  | .i, t => match P.underlying t with
    | some (.int _) => true
    | _ => false
  | .b, t => match P.underlying t with
    | some .bool => true
    | _ => false
  | .s, t => match P.underlying t with
    | some .string => true
    | _ => false
  | .st fs, t => match P.underlying t with
    | some (.struct fields) => !P.stoodInHeld t && fldsOk P fs fields.toList
    | some (.array n e) => (P.info? e).isSome && itsOk P e fs (List.range n)
    | _ => false
def itsOk (P : Program) (el : TypeId) : List (Nat × Nat × ETy) → List Nat → Bool
  | [], [] => true
  | (o, n, e) :: r, i :: is => o == i * P.cellsOf el && aggOk P el (e.part n) && etyOk P e el && itsOk P el r is
  | _, _ => false
def fldsOk (P : Program) : List (Nat × Nat × ETy) → List Field → Bool
  | [], [] => true
  | (o, n, e) :: r, f :: fs => (f.name != "_") && f.offset == o && aggOk P f.type (e.part n) && etyOk P e f.type && fldsOk P r fs
  | _, _ => false
end

mutual
def ETy.depth : ETy → Nat
  | .st fs => ETy.depths fs + 1
  | _ => 1
def ETy.depths : List (Nat × Nat × ETy) → Nat
  | [] => 0
  | (_, _, e) :: r => max e.depth (ETy.depths r)
end

mutual
theorem eqD_run : ∀ (e : ETy) {t : TypeId}, etyOk P e t = true → ∀ {d : Nat}, e.depth ≤ d → ∀ {x y : D} {r : Bool}, eqD e x y = some r → ∀ {u v : Value}, DRep S w x u → DRep S w y v → (Op.equalIn d t u v).run P w = .ok r w
  | .i, t, he, d, hd, x, y, r, h, u, v, hu, hv => by
    obtain ⟨d', rfl⟩ : ∃ d', d = d' + 1 := ⟨d - 1, by simp only [ETy.depth] at hd; omega⟩
    simp only [etyOk] at he
    simp only [eqD] at h
    split at h
    · split at h
      · rename_i hk
        subst hk
        rw [hu.int_inv, hv.int_inv]
        simp only [Option.some.injEq] at h
        subst h
        split at he
        · rename_i k hu1; exact run_equalIn_int w d' t _ k _ _ hu1
        · simp at he
      · simp at h
    · simp at h
  | .b, t, he, d, hd, x, y, r, h, u, v, hu, hv => by
    obtain ⟨d', rfl⟩ : ∃ d', d = d' + 1 := ⟨d - 1, by simp only [ETy.depth] at hd; omega⟩
    simp only [etyOk] at he
    simp only [eqD] at h
    split at h
    · rw [hu.bool_inv, hv.bool_inv]
      simp only [Option.some.injEq] at h
      subst h
      split at he
      · rename_i hu1; exact run_equalIn_bool d' hu1 _ _ w
      · simp at he
    · simp at h
  | .s, t, he, d, hd, x, y, r, h, u, v, hu, hv => by
    obtain ⟨d', rfl⟩ : ∃ d', d = d' + 1 := ⟨d - 1, by simp only [ETy.depth] at hd; omega⟩
    simp only [etyOk] at he
    simp only [eqD] at h
    split at h
    · rw [hu.str_inv, hv.str_inv]
      simp only [Option.some.injEq] at h
      subst h
      split at he
      · rename_i hu1; exact run_equalIn_string w d' t _ _ hu1
      · simp at he
    · simp at h
  | .st fs, t, he, d, hd, x, y, r, h, u, v, hu, hv => by
    obtain ⟨d', rfl⟩ : ∃ d', d = d' + 1 := ⟨d - 1, by simp only [ETy.depth] at hd; omega⟩
    simp only [ETy.depth] at hd
    simp only [etyOk] at he
    simp only [eqD] at h
    split at h
    · rename_i xs ys
      obtain ⟨us, rfl, _⟩ := hu.agg_inv
      obtain ⟨vs, rfl, _⟩ := hv.agg_inv
      split at he
      · rename_i fields hu1
        simp only [Bool.and_eq_true, Bool.not_eq_true'] at he
        have hf : P.fieldsOf t = fields := by simp [Program.fieldsOf, hu1]
        rw [run_equalIn_struct w d' t us vs (by rw [hf]; exact hu1) he.1, hf]
        exact eqDs_run fs he.2 (by omega) h hu hv
      · rename_i n el hu1
        simp only [Bool.and_eq_true] at he
        obtain ⟨i, hi⟩ := Option.isSome_iff_exists.1 he.1
        rw [run_equalIn_array w d' us vs hu1 hi]
        exact eqIts_run fs he.2 (by omega) h hu hv
      · simp at he
    · simp at h
theorem eqIts_run : ∀ (fs : List (Nat × Nat × ETy)) {el : TypeId} {is : List Nat}, itsOk P el fs is = true → ∀ {d : Nat}, ETy.depths fs ≤ d → ∀ {xs ys : List D} {r : Bool}, eqDs fs xs ys = some r → ∀ {us vs : Array Value}, DRep S w (.agg xs) (.agg us) → DRep S w (.agg ys) (.agg vs) →
    (Op.eqItems d el (P.cellsOf el) us vs is).run P w = .ok r w
  | [], el, [], _, d, _, xs, ys, r, h, us, vs, hu, hv => by
    simp only [eqDs, Option.some.injEq] at h
    subst h
    simp [Op.eqItems]
  | (o, n, e) :: fs, el, i :: is, he, d, hd, xs, ys, r, h, us, vs, hu, hv => by
    simp only [itsOk, Bool.and_eq_true, beq_iff_eq] at he
    obtain ⟨⟨⟨h2, h3⟩, h4⟩, h5⟩ := he
    subst h2
    simp only [ETy.depths] at hd
    simp only [eqDs] at h
    obtain ⟨us', e1, e2, e3, e4⟩ := hu.agg_inv
    obtain ⟨vs', f1, f2, f3, f4⟩ := hv.agg_inv
    injection e1 with e1
    injection f1 with f1
    subst e1
    subst f1
    split at h
    · rename_i p q hp hq
      obtain ⟨pu, a1, a2⟩ := part_run (P := P) e2 e3 e4 h3 hp
      obtain ⟨qv, b1, b2⟩ := part_run (P := P) f2 f3 f4 h3 hq
      split at h
      · rename_i hr
        have hrun := eqD_run e h4 (d := d) (by omega) hr a2 b2
        have ih := eqIts_run fs h5 (d := d) (by omega) h hu hv
        simp only [Op.eqItems, Sem.run_bind, a1, b1, hrun, Result.andThen_ok, Bool.not_true, Bool.false_eq_true, if_false, ih]
      · rename_i hr
        have hrun := eqD_run e h4 (d := d) (by omega) hr a2 b2
        simp only [Option.some.injEq] at h
        subst h
        simp only [Op.eqItems, Sem.run_bind, a1, b1, hrun, Result.andThen_ok, Bool.not_false, if_true, Sem.run_pure]
      · simp at h
    · simp at h
  | [], _, _ :: _, he, _, _, _, _, _, _, _, _, _, _ => by simp [itsOk] at he
  | _ :: _, _, [], he, _, _, _, _, _, _, _, _, _, _ => by simp [itsOk] at he
theorem eqDs_run : ∀ (fs : List (Nat × Nat × ETy)) {fields : List Field}, fldsOk P fs fields = true → ∀ {d : Nat}, ETy.depths fs ≤ d → ∀ {xs ys : List D} {r : Bool}, eqDs fs xs ys = some r → ∀ {us vs : Array Value}, DRep S w (.agg xs) (.agg us) → DRep S w (.agg ys) (.agg vs) →
    (Op.eqFields d us vs fields).run P w = .ok r w
  | [], [], _, d, _, xs, ys, r, h, us, vs, hu, hv => by
    simp only [eqDs, Option.some.injEq] at h
    subst h
    simp [Op.eqFields]
  | (o, n, e) :: fs, f :: fields, he, d, hd, xs, ys, r, h, us, vs, hu, hv => by
    simp only [fldsOk, Bool.and_eq_true, bne_iff_ne, beq_iff_eq] at he
    obtain ⟨⟨⟨⟨h1, h2⟩, h3⟩, h4⟩, h5⟩ := he
    subst h2
    simp only [ETy.depths] at hd
    simp only [eqDs] at h
    obtain ⟨us', e1, e2, e3, e4⟩ := hu.agg_inv
    obtain ⟨vs', f1, f2, f3, f4⟩ := hv.agg_inv
    injection e1 with e1
    injection f1 with f1
    subst e1
    subst f1
    split at h
    · rename_i p q hp hq
      obtain ⟨pu, a1, a2⟩ := part_run (P := P) e2 e3 e4 h3 hp
      obtain ⟨qv, b1, b2⟩ := part_run (P := P) f2 f3 f4 h3 hq
      split at h
      · rename_i hr
        have hrun := eqD_run e h4 (d := d) (by omega) hr a2 b2
        have ih := eqDs_run fs h5 (d := d) (by omega) h hu hv
        simp only [Op.eqFields, if_pos h1, Sem.run_bind, a1, b1, hrun, Result.andThen_ok, Bool.not_true, Bool.false_eq_true, if_false, ih]
      · rename_i hr
        have hrun := eqD_run e h4 (d := d) (by omega) hr a2 b2
        simp only [Option.some.injEq] at h
        subst h
        simp only [Op.eqFields, if_pos h1, Sem.run_bind, a1, b1, hrun, Result.andThen_ok, Bool.not_false, if_true, Sem.run_pure]
      · simp at h
    · simp at h
  | [], _ :: _, he, _, _, _, _, _, _, _, _, _, _ => by simp [fldsOk] at he
  | _ :: _, [], he, _, _, _, _, _, _, _, _, _, _ => by simp [fldsOk] at he
end

theorem op_eqv {o : Oper} {neg : Bool} {t yt : TypeId} {e : ETy} {x y : Operand} {x' y' : X} (h : Inv P g w a s) (ho : o.op = .binOp (if neg then .neq else .eql) t x y yt) (he : etyOk P e t = true) (hst : ∃ fs, e = .st fs) (hgu : P.eqGuardType P.depth t = false) (hdep : e.depth ≤ 10000)
    (hx : xOk x x' = true) (hy : xOk y y' = true) {p q : D} (h1 : (s.x x').toD = some p) (h2 : (s.x y').toD = some q) {r : Bool} (hr : eqD e p q = some r) (hp : s.put o.dst (.d (.bool (if neg then !r else r))) = some s') : OpRes P g w a o s' := by
  have r1 := x_toD h hx h1
  have r2 := x_toD h hy h2
  have hrun := eqD_run (P := P) e he hdep hr r1 r2
  obtain ⟨fs, rfl⟩ := hst
  simp only [eqD] at hr
  split at hr
  · rename_i xs ys
    obtain ⟨us, e1, _⟩ := r1.agg_inv
    obtain ⟨vs, e2, _⟩ := r2.agg_inv
    rw [e1, e2] at hrun
    refine OpRes.value (l := .ret 0) h (u := .bool (if neg then !r else r)) ?_ hp rfl (by simp only [RepF]; exact .bool _)
    unfold execOp
    cases neg
    · simp only [ho, e1, e2, Sem.run_bind, run_eqGuard_agg w _ t _ _ us vs hgu, Result.andThen_ok, Sem.run_pure, Bool.false_eq_true, if_false, run_eql_struct, hrun]
    · simp only [ho, e1, e2, Sem.run_bind, run_eqGuard_agg w _ t _ _ us vs hgu, Result.andThen_ok, Sem.run_pure, if_true, run_neq_struct, hrun]
  · simp at hr


theorem fill_seq {sz : Nat} : ∀ (vs : List Value) (k : Nat) (cells : Array Value), (∀ v ∈ vs, v.cells.size = sz) → (k + vs.length) * sz ≤ cells.size →
    ∃ cells', Instr.fill (fun i => some (i * sz, sz)) cells ((vs.zipIdx k).map fun (v, i) => (i, v)) = some cells' ∧ cells'.size = cells.size ∧ (∀ p, p < k * sz → cells'[p]? = cells[p]?) ∧
      ∀ (i : Nat) (v : Value) (j : Nat) (u : Value), vs[i]? = some v → v.cells[j]? = some u → cells'[(k + i) * sz + j]? = some u
  | [], k, cells, _, _ => ⟨cells, rfl, rfl, fun _ _ => rfl, by simp⟩
  | v :: vs, k, cells, hw, hle => by
    simp only [List.length_cons] at hle
    have hv := hw v (by simp)
    have hle1 : k * sz + sz ≤ cells.size := by
      have : (k + 1) * sz ≤ (k + (vs.length + 1)) * sz := Nat.mul_le_mul_right _ (by omega)
      rw [Nat.succ_mul] at this
      omega
    obtain ⟨cells', q1, q2, q3, q4⟩ := fill_seq vs (k + 1) (setFold (k * sz) cells (v.cells.toList.zipIdx 0)) (fun x hx => hw x (by simp [hx])) (by rw [setFold_size]; rw [show k + 1 + vs.length = k + (vs.length + 1) by omega]; exact hle)
    refine ⟨cells', ?_, q2.trans (setFold_size _ _ _), ?_, ?_⟩
    · rw [List.zipIdx_cons, List.map_cons, fill_step (fun i => some (i * sz, sz)) cells k v _ (off := k * sz) (size := sz) rfl hv hle1]
      exact q1
    · intro p hp
      rw [q3 p (by rw [Nat.succ_mul]; omega), setFold_get _ _ _ _ _ (by simp [hv]; omega), if_neg (by omega)]
    · intro i x j u hi hj
      cases i with
      | zero =>
        simp at hi
        subst hi
        have hjl : j < sz := by
          have := (Array.getElem?_eq_some_iff.1 hj).1
          omega
        rw [Nat.add_zero, q3 _ (by rw [Nat.succ_mul]; omega), setFold_get _ _ _ _ _ (by simp [hv]; omega), if_pos (by simp [hv]; omega)]
        simpa using hj
      | succ i =>
        have := q4 i x j u (by simpa using hi) hj
        rwa [show k + 1 + i = k + (i + 1) by omega] at this

def bslOk (P : Program) (t : TypeId) (e sz len : Nat) (parts : List (Nat × Operand)) (elems : List X) : Bool :=
  appOk P t e sz ((P.info? e).map (·.bytes) |>.getD 0) && len == elems.length && decide (len * sz ≤ 16777216) && (parts.map (·.1) == List.range len) && valsOk (parts.map (·.2)) elems

theorem vals_toD (h : Inv P g w a s) : ∀ {xs : List Operand} {ys : List X}, valsOk xs ys = true → ∀ {ds : List D}, optAll (ys.map fun x => (s.x x).toD) = some ds → ds.length = xs.length ∧ ∀ (i : Nat) (d : D), ds[i]? = some d → ∃ v, (xs.map a.eval)[i]? = some v ∧ DRep g.stab w d v
  | [], [], _, ds, hv => by
    simp only [List.map_nil, optAll, Option.some.injEq] at hv
    subst hv
    exact ⟨rfl, by simp⟩
  | x :: xs, y :: ys, hx, ds, hv => by
    simp only [valsOk, Bool.and_eq_true] at hx
    simp only [List.map_cons] at hv
    cases hq : (s.x y).toD with
    | none => rw [hq] at hv; simp [optAll] at hv
    | some q =>
      rw [hq] at hv
      simp only [optAll, Option.map_eq_some_iff] at hv
      obtain ⟨r, hr, rfl⟩ := hv
      have k := x_toD h hx.1 hq
      obtain ⟨i1, i2⟩ := vals_toD h hx.2 hr
      refine ⟨by simp [i1], ?_⟩
      intro i d hi
      cases i with
      | zero => simp at hi; subst hi; exact ⟨a.eval x, rfl, k⟩
      | succ i => exact i2 i d (by simpa using hi)
  | [], _ :: _, hx, _, _ => by simp [valsOk] at hx
  | _ :: _, [], hx, _, _ => by simp [valsOk] at hx

theorem zip_of_range : ∀ (parts : List (Nat × Operand)) (k n : Nat), parts.map (·.1) = List.range' k n → parts.map (fun (i, x) => (i, a.eval x)) = ((parts.map fun p => a.eval p.2).zipIdx k).map fun (v, i) => (i, v)
  | [], k, n, _ => rfl
  | (i, x) :: parts, k, n, h => by
    cases n with
    | zero => simp at h
    | succ n =>
      simp only [List.map_cons, List.range'_succ, List.cons.injEq] at h
      obtain ⟨rfl, h⟩ := h
      simp only [List.map_cons, List.zipIdx_cons]
      rw [zip_of_range parts (i + 1) n h]

theorem op_bslE {o : Oper} {t : TypeId} {e sz : Nat} {parts : Array (Nat × Operand)} (h : Inv P g w a s) (ho : o.op = .buildSlice t 0 parts) (hk : bslOk P t e sz 0 parts.toList [] = true) {d : Nat} (hd : o.dst = some d) (hp : s.put o.dst (.d .fe) = some s') : OpRes P g w a o s' := by
  simp only [bslOk, Bool.and_eq_true, beq_iff_eq, decide_eq_true_eq] at hk
  obtain ⟨⟨⟨⟨k1, _⟩, _⟩, k4⟩, _⟩ := hk
  obtain ⟨i, z, hok⟩ := appOk_ok k1
  have hp0 : parts = #[] := by
    apply Array.toList_inj.1
    have := congrArg List.length k4
    simp at this
    simp [this]
  subst hp0
  have hrun : (execOp a.eval o).run P w = .ok (.value (.slice (some ⟨w.heap.size, 0, none⟩) 0 0)) (w.alloc (.cells #[] e)) := by
    unfold execOp
    simp only [ho, Instr.buildSlice, Sem.run_bind, run_underlying hok.und, Result.andThen_ok, sizeOf, typeInfo, run_program, hok.inf, Sem.run_pure, hok.size]
    rw [if_neg (by omega)]
    rw [if_pos (by omega)]
    simp [newRow, Instr.fill]
    congr 2
    apply Array.ext <;> simp
  have hch : ∀ M, Chg M g w g (w.alloc (.cells #[] e)) := fun M => Chg.alloc M _ (fun _ _ => ⟨rfl, rfl⟩) (Nat.le_refl _) (fun _ _ => rfl)
  rw [hd] at hp
  refine ⟨_, _, g, _, hrun, .inl rfl, ?_, hch _⟩
  rw [hd]
  exact h.put_chg (hch (fun _ => False)) (fun _ _ _ hf => hf) (h.heap.mono (hch (fun _ => False)) (fun _ => ⟨fun hf => hf, fun _ hf => hf⟩) rfl) hp (fun ts va => by simp only [RepS, RepF]; exact .fe _)

theorem op_bsl {o : Oper} {t : TypeId} {e sz len : Nat} {parts : Array (Nat × Operand)} {elems : List X} (h : Inv P g w a s) (ho : o.op = .buildSlice t len parts) (hk : bslOk P t e sz len parts.toList elems = true)
    {es : List D} (hes : optAll (elems.map fun x => (s.x x).toD) = some es) (hw : es.all (fun y => y.width == sz) = true) {d : Nat} (hd : o.dst = some d) (hp : s.put o.dst (.own e es) = some s') : OpRes P g w a o s' := by
  simp only [bslOk, Bool.and_eq_true, beq_iff_eq, decide_eq_true_eq] at hk
  obtain ⟨⟨⟨⟨k1, k2⟩, k3⟩, k4⟩, k5⟩ := hk
  obtain ⟨i, z, hok⟩ := appOk_ok k1
  have hcells := hok.cells
  obtain ⟨m1, m2⟩ := vals_toD h k5 hes
  have hlen : parts.toList.length = len := by
    have := congrArg List.length k4
    simpa using this
  have hesl : es.length = len := by rw [m1]; simp [hlen]
  have hwid : ∀ y ∈ es, y.width = sz := by simpa [List.all_eq_true] using hw
  -- the values of the elements
  have hvals : ∀ v ∈ parts.toList.map (fun p => a.eval p.2), v.cells.size = sz := by
    intro v hv
    obtain ⟨j, hj⟩ := List.mem_iff_getElem?.1 hv
    have hjl : j < es.length := by
      have := (List.getElem?_eq_some_iff.1 hj).1
      simp at this
      rw [hesl, ← hlen]
      simpa using this
    obtain ⟨v', q1, q2⟩ := m2 j _ (List.getElem?_eq_getElem hjl)
    have hvv : v' = v := by
      simp only [List.map_map] at q1
      have : (parts.toList.map (fun p => a.eval p.2))[j]? = some v' := q1
      rw [hj] at this
      exact (Option.some.inj this).symm
    subst hvv
    have := (RowRel.of_val q2).size
    rw [this]
    exact hwid _ (List.getElem_mem hjl)
  have hrange : parts.toList.map (·.1) = List.range' 0 len := by rw [k4, List.range_eq_range']
  have hzip := zip_of_range (a := a) parts.toList 0 len hrange
  obtain ⟨zz, hzz⟩ : ∃ zz : Array Value, zz = if len * sz = 0 then #[] else z.cells := ⟨_, rfl⟩
  obtain ⟨zc, hzc⟩ : ∃ zc : Array Value, zc = (Array.range (len * sz)).map (zz[· % zz.size]!) := ⟨_, rfl⟩
  have hzs : zc.size = len * sz := by rw [hzc]; simp
  obtain ⟨cells', q1, q2, q3, q4⟩ := fill_seq (parts.toList.map fun p => a.eval p.2) 0 zc hvals (by rw [hzs]; simp only [List.length_map, hlen, Nat.zero_add]; exact Nat.le_refl _)
  have hrun : (execOp a.eval o).run P w = .ok (.value (.slice (some ⟨w.heap.size, 0, none⟩) len len)) (w.alloc (.cells cells' e)) := by
    unfold execOp
    have hfill : Instr.fill (fun i => some (i * sz, sz)) zc (parts.map fun (i, x) => (i, a.eval x)).toList = some cells' := by
      rw [Array.toList_map, hzip]
      exact q1
    simp only [ho, Instr.buildSlice, Sem.run_bind, run_underlying hok.und, Result.andThen_ok, sizeOf, typeInfo, run_program, hok.inf, Sem.run_pure, hok.size]
    rw [if_neg (by omega)]
    by_cases h0 : len * sz = 0
    · rw [if_pos h0] at hzz ⊢
      subst hzz
      simp only [Sem.run_bind, Sem.run_pure, Result.andThen_ok]
      rw [← hzc, hfill]
      simp [newRow]
    · rw [if_neg h0] at hzz ⊢
      subst hzz
      simp only [Sem.run_bind, Sem.run_pure, Result.andThen_ok, zeroValue, typeInfo, run_program, hok.inf, hok.zero]
      rw [← hzc, hfill]
      simp [newRow]
  have hch := Chg.new (g := g) (w := w) (fun _ => False) (.cells cells' e) (some (.tm d 0)) (len * sz)
  refine OpRes.own (e := e) h (idle_none s) (fun _ hf => hf.elim) hrun hch rfl ?_ hd hp
  simp only [RepF]
  rw [hcells]
  have hsz : cells'.size = len * sz := q2.trans hzs
  have hlenle : len ≤ 16777216 := Nat.le_trans (Nat.le_mul_of_pos_right _ hok.pos) k3
  refine ⟨cells'.toList, ⟨by simp [hsz, hesl], .inr ⟨w.heap.size, len, cells', by rw [hesl], Nat.zero_le _, heap_alloc_new w _, by omega, by simp only [maxLen]; omega, hsz, ?_⟩⟩, ⟨by simp [hsz, hesl], hwid, ?_, ?_⟩, ?_⟩
  · rw [hesl, List.take_of_length_le (by simp [hsz])]
  · intro x hx c hc
    obtain ⟨j, hj⟩ := List.mem_iff_getElem?.1 hx
    obtain ⟨v', r1, r2⟩ := m2 j _ hj
    exact (RowRel.of_val r2).one c hc
  · intro ix x j c hi hj
    obtain ⟨v', r1, r2⟩ := m2 ix _ hi
    have hr := RowRel.of_val r2
    have hjl : j < v'.cells.size := by rw [hr.size]; exact (List.getElem?_eq_some_iff.1 hj).1
    have hu : v'.cells[j]? = some v'.cells[j] := Array.getElem?_eq_getElem hjl
    have r1' : (parts.toList.map fun p => a.eval p.2)[ix]? = some v' := by
      simp only [List.map_map] at r1
      exact r1
    have := q4 ix v' j _ r1' hu
    rw [Nat.zero_add] at this
    exact ⟨v'.cells[j], by simpa using this, (hr.rep j c _ hj hu).mono hch.stab⟩
  · intro b hb
    simp only [Value.ownBlock, Option.some.injEq] at hb
    subst hb
    simp [G.own, hesl]

end
end Go.Pe

namespace Go.Pe
section
variable {P : Program} {g : G} {w : World} {a : Act} {s s' : St} {S : Nat → Nat → Prop}

mutual
theorem RepF.reg {g g' : G} {l l' : Loc} (hs : ∀ b i, g.stab b i → g'.stab b i) (hn : g.nb ≤ g'.nb) (hb : ∀ id, id < g.nb → g'.bb id = g.bb id) (hk : ∀ b, g.κ b = some l → g'.κ b = some l' ∧ g'.tip b = g.tip b) :
    ∀ {p : PV} {v : Value}, RepF P g w l p v → RepF P g' w l' p v
  | .d x, v, h => by
    simp only [RepF] at h ⊢
    exact h.mono fun b i u hc hs' => ⟨hc, hs b i hs'⟩
  | .own e xs, v, h => by
    simp only [RepF] at h ⊢
    obtain ⟨us, h1, h2, h3⟩ := h
    exact ⟨us, h1, h2.mono fun b i u hc hs' => ⟨hc, hs b i hs'⟩, fun b hv => ⟨(hk b (h3 b hv).1).1, (hk b (h3 b hv).1).2.trans (h3 b hv).2⟩⟩
  | .full xs, v, h => by
    simp only [RepF] at h ⊢
    obtain ⟨a, h1, h2⟩ := h
    exact ⟨a, h1, h2.mono fun b i u hc hs' => ⟨hc, hs b i hs'⟩⟩
  | .nilsl, v, h => by
    simp only [RepF] at h ⊢
    exact h
  | .eptr x off, v, h => by
    simp only [RepF] at h ⊢
    obtain ⟨b, o, h1, h2, h3⟩ := h
    refine ⟨b, o, h1, h2, fun j c hj => ?_⟩
    obtain ⟨u, h4, h5, h6⟩ := h3 j c hj
    exact ⟨u, h4, hs _ _ h5, h6.mono fun b i u hc hs' => ⟨hc, hs b i hs'⟩⟩
  | .ptr id off, v, h => by
    simp only [RepF] at h ⊢
    exact ⟨Nat.lt_of_lt_of_le h.1 hn, by rw [hb id h.1]; exact h.2⟩
  | .fn f caps, v, h => by
    simp only [RepF] at h ⊢
    obtain ⟨h0, vs, h1, h2⟩ := h
    exact ⟨h0, vs, h1, RepFs.reg hs hn hb hk h2⟩
  | .fnm f caps, v, h => by
    simp only [RepF] at h ⊢
    obtain ⟨h0, vs, h1, h2⟩ := h
    exact ⟨h0, vs, h1, RepFs.reg hs hn hb hk h2⟩
  | .gone, v, h => by simp only [RepF]
  | .und, v, h => by simp only [RepF] at h ⊢; exact h
  | .dead, v, h => by simp only [RepF]
  | .bnil _, v, h => by simp only [RepF] at h ⊢; exact h
  | .ibox _, v, h => by simp only [RepF] at h
  | .ref _ _, v, h => by simp only [RepF] at h
  | .rowh id lo len, v, h => by
    simp only [RepF] at h ⊢
    exact ⟨Nat.lt_of_lt_of_le h.1 hn, by rw [hb id h.1]; exact h.2⟩
  | .rptr _ _ _, v, h => by simp only [RepF] at h
  | .tup _, v, h => by simp only [RepF] at h
theorem RepFs.reg {g g' : G} {l l' : Loc} (hs : ∀ b i, g.stab b i → g'.stab b i) (hn : g.nb ≤ g'.nb) (hb : ∀ id, id < g.nb → g'.bb id = g.bb id) (hk : ∀ b, g.κ b = some l → g'.κ b = some l' ∧ g'.tip b = g.tip b) :
    ∀ {ps : List PV} {vs : List Value}, RepFs P g w l ps vs → RepFs P g' w l' ps vs
  | [], [], _ => by simp only [RepFs]
  | p :: ps, v :: vs, h => by
    simp only [RepFs] at h ⊢
    exact ⟨RepF.reg hs hn hb hk h.1, RepFs.reg hs hn hb hk h.2⟩
  | [], _ :: _, h => by simp only [RepFs] at h
  | _ :: _, [], h => by simp only [RepFs] at h
end

def RepR (P : Program) (g : G) (w : World) (p : PV) (v : Value) : Prop :=
  match p with
  | .tup ps => ∃ us : List Value, v = .tuple us.toArray ∧ us.length = ps.length ∧ ∀ (j : Nat) (p : PV) (u : Value), ps[j]? = some p → us[j]? = some u → RepF P g w (.ret (j + 1)) p u
  | p => RepF P g w (.ret 0) p v

def CallPost (P : Program) (g : G) (w : World) (out : Out) (e : Ending) (w' : World) : Prop :=
  ∃ g', Chg Mine g w g' w' ∧ match out with
    | .ret v hp' => ∃ u, e = .returned u ∧ RepR P g' w' v u ∧ HeapInv P g' w' hp'
    | .pan x hp' => ∃ u, e = .panicked [{ v := u, recovered := false }] ∧ DRep g'.stab w' x u ∧ HeapInv P g' w' hp'

def entered (P : Program) (f : Nat) : Bool :=
  match P.funcs[f]? with
  | some fn => fn.body.isSome && (fn.name != "runtime.NumGoroutine")
  | none => false

structure CFSound (P : Program) (cf : CF) : Prop where
  ent : ∀ f args hp out, cf f args hp = some out → entered P f = true
  calls : ∀ f args hp out, cf f args hp = some out → PV.plains args = true → ∀ (g : G) (w : World) (vals : List Value) (l : Loc), RepFs P g w l args vals → HeapInv P g w hp → Calls P f vals.toArray w (CallPost P g w out)

theorem run_callFunc {f : Nat} (h : entered P f = true) (vals : Array Value) : (callFunc f vals).run P w = .ok (.enter f vals) w := by
  unfold entered at h
  split at h
  · rename_i fn hf
    simp only [Bool.and_eq_true, bne_iff_ne, ne_eq] at h
    obtain ⟨h1, h2⟩ := h
    have h4 : fn.body ≠ none := by
      intro hb
      rw [hb] at h1
      simp at h1
    simp [callFunc, hf, h2, h4]
  · simp at h

def rc : Loc → Loc
  | .bx i => .bx i
  | .cell i j => .cell i j
  | l => .oth l

def unl (dl : Nat → Option Loc) : Option Loc → Option Loc
  | some (.oth l) => some l
  | some (.ret j) => dl j
  | x => x

def G.back (g : G) (dl : Nat → Option Loc) : G := { g with κ := fun b => unl dl (g.κ b) }

theorem back_stab {dl : Nat → Option Loc} {b i : Nat} (h : g.stab b i) : (g.back dl).stab b i := by
  rcases h with h | h
  · exact .inl (by simp [G.back, h, unl])
  · exact .inr h

def OnHeap (l : Loc) : Prop := (∃ i, l = .bx i) ∨ ∃ i j, l = .cell i j

theorem onHeap_mine : ∀ l, OnHeap l → Mine l := fun l h => by
  rcases h with ⟨i, rfl⟩ | ⟨i, j, rfl⟩
  · exact mine_bx i
  · exact mine_cell i j

theorem rc_oth {l : Loc} (h : ¬ OnHeap l) : rc l = .oth l := by
  cases l <;> first | rfl | exact absurd (.inl ⟨_, rfl⟩) h | exact absurd (.inr ⟨_, _, rfl⟩) h

theorem Chg.back {g' : G} {w' : World} (h : Chg Mine (g.relab rc) w g' w') (dl : Nat → Option Loc) : Chg OnHeap g w (g'.back dl) w' where
  os := h.os
  tape := h.tape
  output := h.output
  size := h.size
  stab := fun b i u hc hs => let ⟨k1, k2⟩ := h.stab b i u hc (G.relab_stab.2 hs); ⟨k1, back_stab k2⟩
  own := fun b l hlt hl hn => by
    have h1 : (g.relab rc).κ b = some (.oth l) := by simp [G.relab, hl, rc_oth hn]
    obtain ⟨k1, k2, k3⟩ := h.own b _ hlt h1 (fun hm => hm l rfl)
    exact ⟨by simp [G.back, k1, unl], k2, k3⟩
  free := fun b hlt hl => by
    obtain ⟨k1, k2⟩ := h.free b hlt (by simp [G.relab, hl])
    exact ⟨by simp [G.back, k1, unl], k2⟩
  nb := h.nb
  bb := h.bb

theorem HeapInv.back {hp : List Ent} (h : HeapInv P g w hp) (dl : Nat → Option Loc) : HeapInv P (g.back dl) w hp :=
  ⟨h.nb, fun id e he => by
    have := h.ent id e he
    cases e with
    | box cs =>
      obtain ⟨c, e, zz, hz, h1, h2, h3, h4, h5⟩ := this
      exact ⟨c, e, zz, hz, by simp [G.back, h1, unl], h2, h3, h4, fun j p hj => let ⟨u, k1, k2, k3⟩ := h5 j p hj; ⟨u, k1, k2, k3.reg (fun _ _ => back_stab) (Nat.le_refl _) (fun _ _ => rfl) fun b hb => ⟨by simp [G.back, hb, unl], rfl⟩⟩⟩
    | row _ _ => exact this
    | gone => trivial, h.lies⟩

theorem HeapInv.callee {hp : List Ent} (h : HeapInv P g w hp) : HeapInv P (g.relab rc) w hp :=
  ⟨h.nb, fun id e he => by
    have := h.ent id e he
    cases e with
    | box cs =>
      obtain ⟨c, e, zz, hz, h1, h2, h3, h4, h5⟩ := this
      exact ⟨c, e, zz, hz, by simp [G.relab, h1, rc], h2, h3, h4, fun j p hj => let ⟨u, k1, k2, k3⟩ := h5 j p hj; ⟨u, k1, k2, k3.reg (fun _ _ => G.relab_stab.2) (Nat.le_refl _) (fun _ _ => rfl) fun b hb => ⟨by simp [G.relab, hb, rc], rfl⟩⟩⟩
    | row _ _ => exact this
    | gone => trivial, h.lies⟩

theorem Inv.put_call {g' : G} {w' : World} {hp' : List Ent} {dst : Option Nat} {v : PV} {u : Value} (h : Inv P g w a s) (hc : Chg OnHeap g w g' w') (hH : HeapInv P g' w' hp') (hp : St.put { s with hp := hp' } dst v = some s')
    (hv : ∀ d, dst = some d → ∀ ts va, RepS P g' w' ts va d v u) : Inv P g' w' (a.put dst u) s' := by
  have h0 : Inv P g' w' a { s with hp := hp' } := by
    refine ⟨h.size, fun t p ht => ?_, hH⟩
    refine (h.slot t p ht).mono hc (fun j hm => ?_) (fun t' cs ht' => ⟨⟨cs, ht'⟩, rfl⟩)
    rcases hm with ⟨i, hm⟩ | ⟨i, j', hm⟩ <;> cases hm
  cases dst with
  | none =>
    simp only [St.put, Option.some.injEq] at hp
    subst hp
    exact h0
  | some d => exact h0.put_chg (Chg.refl (fun _ => False) g' w') (fun _ _ _ hf => hf) hH hp (hv d rfl)

theorem RepFs.append {l : Loc} : ∀ {ps qs : List PV} {us vs : List Value}, RepFs P g w l ps us → RepFs P g w l qs vs → RepFs P g w l (ps ++ qs) (us ++ vs)
  | [], _, [], _, _, h => h
  | p :: ps, _, u :: us, _, h, k => by
    simp only [RepFs] at h
    simp only [List.cons_append, RepFs]
    exact ⟨h.1, RepFs.append h.2 k⟩
  | [], _, _ :: _, _, h, _ => by simp only [RepFs] at h
  | _ :: _, _, [], _, h, _ => by simp only [RepFs] at h

theorem plains_append : ∀ {ps qs : List PV}, PV.plains ps = true → PV.plains qs = true → PV.plains (ps ++ qs) = true
  | [], _, _, h => h
  | p :: ps, _, h, k => by
    simp only [PV.plains, Bool.and_eq_true] at h
    simp only [List.cons_append, PV.plains, Bool.and_eq_true]
    exact ⟨h.1, plains_append h.2 k⟩

def OpPost (P : Program) (g : G) (w : World) (a : Act) (next : Act → World → Prop) (Q : Exit → Act → World → Prop) : OR → Prop
  | .ok s' => ∀ g' w' a', Inv P g' w' a' s' → Chg Mine g w g' w' → a'.defers = a.defers → next a' w'
  | .pan x s' => ∀ g' w' u, DRep g'.stab w' x u → Inv P g' w' a s' → Chg Mine g w g' w' → Q (.panic [{ v := u, recovered := false }]) a w'

theorem put_defers {dst : Option Nat} {v : Value} : (a.put dst v).defers = a.defers := by cases dst <;> rfl

theorem OpRes.wp {o : Oper} (h : OpRes P g w a o s') {next : Act → World → Prop} {Q : Exit → Act → World → Prop} (hk : OpPost P g w a next Q (.ok s')) : o.wp P a w next Q := by
  obtain ⟨n, v, g', w', hr, hn, hI, hc⟩ := h
  unfold Oper.wp
  rw [hr]
  rcases hn with rfl | ⟨rfl, rfl⟩
  · exact hk g' w' _ hI hc put_defers
  · exact hk g' w' _ hI hc put_defers

theorem fn_val (h : Inv P g w a s) {x : Operand} {x' : X} (hx : xOk x x' = true) {f : Nat} {caps : List PV} (hf : s.x x' = .fn f caps) : PV.plains caps = true ∧ ∃ vs : List Value, a.eval x = .func (.func f) #[] vs.toArray ∧ RepFs P g w (.ret 0) caps vs := by
  obtain ⟨k1, k2⟩ := x_cp h hx (q := .fn f caps) (by rw [hf]; rfl)
  have k3 := k2 (.ret 0)
  simp only [RepF] at k3
  exact k3

theorem op_call {cf : CF} (hcf : CFSound P cf) {o : Oper} {m : Bool} {x : Operand} {x' : X} {args : Array Operand} {args' : List X} {ts : Array TypeId} (h : Inv P g w a s) (ho : o.op = .call { callee := .value x, args, argTypes := ts }) (hx : xOk x x' = true) (ha : valsOk args.toList args' = true)
    {f : Nat} {caps vs : List PV} (hf : s.x x' = .fn f caps) (hvs : optAll (args'.map fun x => (s.x x).cp) = some vs) {out : Out} (hout : cf f (vs ++ caps) s.hp = some out) {r : OR}
    (hr : (match out with | .ret v hp => okPut { s with hp } o.dst (if m then v else v.demote) | .pan v hp => some (.pan v { s with hp })) = some r) {next : Act → World → Prop} {Q : Exit → Act → World → Prop} (hk : OpPost P g w a next Q r) : o.wp P a w next Q := by
  obtain ⟨f1, cvs, f2, f3⟩ := fn_val h hx hf
  obtain ⟨a1, a2⟩ := vals_cp h ha hvs
  have hargs := (a2 (.ret 0)).append f3
  have hpl := plains_append a1 f1
  have hent := hcf.ent _ _ _ _ hout
  have hexec : (execOp a.eval o).run P w = .ok (.enter f (args.toList.map a.eval ++ cvs).toArray) w := by
    unfold execOp
    simp only [ho, resolve, f2, Deferred.ofValue, Sem.run_bind, Sem.run_pure, Result.andThen_ok, invoke, run_callFunc hent]
    congr 2
    apply Array.ext'
    simp
  have hcalls := hcf.calls _ _ _ _ hout hpl (g.relab rc) w _ (.ret 0) (RepFs.move (fun _ _ => G.relab_stab.2) (Nat.le_refl _) (fun _ _ => rfl) hpl hargs) h.heap.callee
  unfold Oper.wp
  rw [hexec, Oper.upon_enter]
  refine hcalls.mono ?_
  intro e w' hpost
  obtain ⟨g', hch, hout'⟩ := hpost
  cases out with
  | ret v hp' =>
    obtain ⟨u, rfl, hR, hH⟩ := hout'
    simp only [okPut, Option.map_eq_some_iff] at hr
    obtain ⟨s2, hput, rfl⟩ := hr
    simp only
    refine hk (g'.back fun j => match o.dst with | some d => if j = 0 ∧ m = false then none else some (.tm d j) | none => none) w' _ ?_ ((hch.back _).mono onHeap_mine) put_defers
    refine h.put_call (hch.back _) (hH.back _) hput ?_
    intro d hd ts va
    rw [hd]
    cases v with
    | tup ps =>
      have hdem : (if m then PV.tup ps else (PV.tup ps).demote) = .tup ps := by cases m <;> rfl
      rw [hdem]
      obtain ⟨us, r1, r2, r3⟩ := hR
      refine ⟨us, r1, r2, fun j p u hj hu => ?_⟩
      refine (r3 j p u hj hu).reg (fun _ _ => back_stab) (Nat.le_refl _) (fun _ _ => rfl) fun b hb => ⟨?_, rfl⟩
      simp [G.back, hb, unl]
    | own e xs =>
      have hR' : RepF P g' w' (.ret 0) (.own e xs) u := hR
      cases m with
      | true =>
        simp only [if_true]
        refine (show RepF P _ w' (.tm d 0) (.own e xs) u from hR'.reg (fun _ _ => back_stab) (Nat.le_refl _) (fun _ _ => rfl) fun b hb => ⟨?_, rfl⟩)
        simp [G.back, hb, unl]
      | false =>
        simp only [Bool.false_eq_true, if_false, PV.demote]
        show RepF P _ w' (.tm d 0) (.d (.sl xs)) u
        simp only [RepF]
        exact (DRep_of_own hR').mono fun b i u hc hs => ⟨hc, back_stab hs⟩
    | nilsl =>
      have hR' : RepF P g' w' (.ret 0) .nilsl u := hR
      simp only [RepF] at hR'
      subst hR'
      cases m with
      | true =>
        simp only [if_true]
        refine RepS.of_plain (l := .tm d 0) rfl ?_
        simp only [RepF]
      | false =>
        simp only [Bool.false_eq_true, if_false, PV.demote]
        refine RepS.of_plain (l := .tm d 0) rfl ?_
        simp only [RepF]
        exact .sl0 none 0
    | _ =>
      have hR' : RepF P g' w' (.ret 0) _ u := hR
      have hR2 := hR'
      have hdem : ∀ q : PV, (∀ e xs, q ≠ .own e xs) → q ≠ .nilsl → (if m then q else q.demote) = q := fun q hq hn => by cases m <;> cases q <;> first | rfl | exact absurd rfl (hq _ _) | exact absurd rfl hn
      rw [hdem _ (by intro e xs h; cases h) (by intro h; cases h)]
      first
      | (simp only [RepF] at hR2; done)
      | (exact RepS.of_plain (l := .tm d 0) rfl (RepF.move (l' := .tm d 0) (fun _ _ => back_stab) (Nat.le_refl _) (fun _ _ => rfl) rfl hR'))
      | (simp only [RepF] at hR2
         have hpl2 := hR2.1
         exact RepS.of_plain (l := .tm d 0) (by simpa [PV.plain] using hpl2) (RepF.move (l' := .tm d 0) (fun _ _ => back_stab) (Nat.le_refl _) (fun _ _ => rfl) (by simpa [PV.plain] using hpl2) hR'))
  | pan x hp' =>
    obtain ⟨u, rfl, hR, hH⟩ := hout'
    simp only [Option.some.injEq] at hr
    subst hr
    simp only
    exact hk (g'.back fun _ => none) w' u (hR.mono fun b i u hc hs => ⟨hc, back_stab hs⟩) (h.put_call (dst := none) (v := .dead) (u := undef) (hch.back _) (hH.back _) rfl (fun d hd => by cases hd)) ((hch.back _).mono onHeap_mine)

theorem fnm_val (h : Inv P g w a s) {x : Operand} {x' : X} (hx : xOk x x' = true) {f : Nat} {caps : List PV} (hf : s.x x' = .fnm f caps) : PV.plains caps = true ∧ ∃ vs : List Value, a.eval x = .func (.func f) vs.toArray #[] ∧ RepFs P g w (.ret 0) caps vs := by
  obtain ⟨k1, k2⟩ := x_cp h hx (q := .fnm f caps) (by rw [hf]; rfl)
  have k3 := k2 (.ret 0)
  simp only [RepF] at k3
  exact k3

theorem op_callm {cf : CF} (hcf : CFSound P cf) {o : Oper} {m : Bool} {x : Operand} {x' : X} {args : Array Operand} {args' : List X} {ts : Array TypeId} (h : Inv P g w a s) (ho : o.op = .call { callee := .value x, args, argTypes := ts }) (hx : xOk x x' = true) (ha : valsOk args.toList args' = true)
    {f : Nat} {caps vs : List PV} (hf : s.x x' = .fnm f caps) (hvs : optAll (args'.map fun x => (s.x x).cp) = some vs) {out : Out} (hout : cf f (caps ++ vs) s.hp = some out) {r : OR}
    (hr : (match out with | .ret v hp => okPut { s with hp } o.dst (if m then v else v.demote) | .pan v hp => some (.pan v { s with hp })) = some r) {next : Act → World → Prop} {Q : Exit → Act → World → Prop} (hk : OpPost P g w a next Q r) : o.wp P a w next Q := by
  obtain ⟨f1, cvs, f2, f3⟩ := fnm_val h hx hf
  obtain ⟨a1, a2⟩ := vals_cp h ha hvs
  have hargs := f3.append (a2 (.ret 0))
  have hpl := plains_append f1 a1
  have hent := hcf.ent _ _ _ _ hout
  have hexec : (execOp a.eval o).run P w = .ok (.enter f (cvs ++ args.toList.map a.eval).toArray) w := by
    unfold execOp
    simp only [ho, resolve, f2, Deferred.ofValue, Sem.run_bind, Sem.run_pure, Result.andThen_ok, invoke, run_callFunc hent]
    congr 2
    apply Array.ext'
    simp
  have hcalls := hcf.calls _ _ _ _ hout hpl (g.relab rc) w _ (.ret 0) (RepFs.move (fun _ _ => G.relab_stab.2) (Nat.le_refl _) (fun _ _ => rfl) hpl hargs) h.heap.callee
  unfold Oper.wp
  rw [hexec, Oper.upon_enter]
  refine hcalls.mono ?_
  intro e w' hpost
  obtain ⟨g', hch, hout'⟩ := hpost
  cases out with
  | ret v hp' =>
    obtain ⟨u, rfl, hR, hH⟩ := hout'
    simp only [okPut, Option.map_eq_some_iff] at hr
    obtain ⟨s2, hput, rfl⟩ := hr
    simp only
    refine hk (g'.back fun j => match o.dst with | some d => if j = 0 ∧ m = false then none else some (.tm d j) | none => none) w' _ ?_ ((hch.back _).mono onHeap_mine) put_defers
    refine h.put_call (hch.back _) (hH.back _) hput ?_
    intro d hd ts va
    rw [hd]
    cases v with
    | tup ps =>
      have hdem : (if m then PV.tup ps else (PV.tup ps).demote) = .tup ps := by cases m <;> rfl
      rw [hdem]
      obtain ⟨us, r1, r2, r3⟩ := hR
      refine ⟨us, r1, r2, fun j p u hj hu => ?_⟩
      refine (r3 j p u hj hu).reg (fun _ _ => back_stab) (Nat.le_refl _) (fun _ _ => rfl) fun b hb => ⟨?_, rfl⟩
      simp [G.back, hb, unl]
    | own e xs =>
      have hR' : RepF P g' w' (.ret 0) (.own e xs) u := hR
      cases m with
      | true =>
        simp only [if_true]
        refine (show RepF P _ w' (.tm d 0) (.own e xs) u from hR'.reg (fun _ _ => back_stab) (Nat.le_refl _) (fun _ _ => rfl) fun b hb => ⟨?_, rfl⟩)
        simp [G.back, hb, unl]
      | false =>
        simp only [Bool.false_eq_true, if_false, PV.demote]
        show RepF P _ w' (.tm d 0) (.d (.sl xs)) u
        simp only [RepF]
        exact (DRep_of_own hR').mono fun b i u hc hs => ⟨hc, back_stab hs⟩
    | nilsl =>
      have hR' : RepF P g' w' (.ret 0) .nilsl u := hR
      simp only [RepF] at hR'
      subst hR'
      cases m with
      | true =>
        simp only [if_true]
        refine RepS.of_plain (l := .tm d 0) rfl ?_
        simp only [RepF]
      | false =>
        simp only [Bool.false_eq_true, if_false, PV.demote]
        refine RepS.of_plain (l := .tm d 0) rfl ?_
        simp only [RepF]
        exact .sl0 none 0
    | _ =>
      have hR' : RepF P g' w' (.ret 0) _ u := hR
      have hR2 := hR'
      have hdem : ∀ q : PV, (∀ e xs, q ≠ .own e xs) → q ≠ .nilsl → (if m then q else q.demote) = q := fun q hq hn => by cases m <;> cases q <;> first | rfl | exact absurd rfl (hq _ _) | exact absurd rfl hn
      rw [hdem _ (by intro e xs h; cases h) (by intro h; cases h)]
      first
      | (simp only [RepF] at hR2; done)
      | (exact RepS.of_plain (l := .tm d 0) rfl (RepF.move (l' := .tm d 0) (fun _ _ => back_stab) (Nat.le_refl _) (fun _ _ => rfl) rfl hR'))
      | (simp only [RepF] at hR2
         have hpl2 := hR2.1
         exact RepS.of_plain (l := .tm d 0) (by simpa [PV.plain] using hpl2) (RepF.move (l' := .tm d 0) (fun _ _ => back_stab) (Nat.le_refl _) (fun _ _ => rfl) (by simpa [PV.plain] using hpl2) hR'))
  | pan x hp' =>
    obtain ⟨u, rfl, hR, hH⟩ := hout'
    simp only [Option.some.injEq] at hr
    subst hr
    simp only
    exact hk (g'.back fun _ => none) w' u (hR.mono fun b i u hc hs => ⟨hc, back_stab hs⟩) (h.put_call (dst := none) (v := .dead) (u := undef) (hch.back _) (hH.back _) rfl (fun d hd => by cases hd)) ((hch.back _).mono onHeap_mine)

end
end Go.Pe

namespace Go.Pe
section
variable {P : Program} {g : G} {w : World} {a : Act} {s s' : St} {S : Nat → Nat → Prop}

def G.box (g : G) (b : Nat) : G :=
  { κ := fun x => if x = b then some (.bx g.nb) else g.κ x, tip := fun x => if x = b then 0 else g.tip x, bb := fun i => if i = g.nb then b else g.bb i, nb := g.nb + 1 }

theorem Chg.box (M : Loc → Prop) (o : Obj) : Chg M g w (g.box w.heap.size) (w.alloc o) :=
  Chg.alloc M o (fun b hb => by simp [G.box, Nat.ne_of_lt hb]) (Nat.le_succ _) (fun id hid => by simp [G.box, Nat.ne_of_lt hid])

theorem Inv.heap_box (h : Inv P g w a s) {dst : Option Nat} {cs : List PV} {c : Array Value} {e : TypeId} (hc : ∀ (j : Nat) (p : PV), cs[j]? = some p → ∃ u, c[j]? = some u ∧ u.oneCell' = true ∧ p.plain = true ∧ RepF P g w (.ret 0) p u) (hs : c.size = cs.length)
    (hls : ∀ (j u : Nat), cs[j]? = some (PV.bnil u) → liesAt P P.depth e (c.size / P.cellsOf e) j u 1 = true)
    (hp : St.put { s with hp := s.hp ++ [.box cs] } dst (.ptr s.hp.length 0) = some s') :
    Inv P (g.box w.heap.size) (w.alloc (.cells c e)) (a.put dst (.pointer (some ⟨w.heap.size, 0, none⟩))) s' ∧ Chg Mine g w (g.box w.heap.size) (w.alloc (.cells c e)) := by
  have hch : ∀ M, Chg M g w (g.box w.heap.size) (w.alloc (.cells c e)) := fun M => Chg.box M _
  have hnb := h.heap.nb
  have hH : HeapInv P (g.box w.heap.size) (w.alloc (.cells c e)) (s.hp ++ [.box cs]) := by
    refine ⟨by simp [G.box, hnb], ?_, ?_⟩
    rotate_left
    · intro i cs2 hi
      by_cases hid : i < s.hp.length
      · rw [List.getElem?_append_left hid] at hi
        obtain ⟨c0, e0, z0, hz, k1, _, k3, _⟩ := h.heap.ent i _ hi
        have hb : (g.box w.heap.size).bb i = g.bb i := by simp only [G.box]; rw [if_neg (by omega)]
        rw [hb]
        exact LiesAll.of (h.heap.lies i cs2 hi) (fun e' n hs' => shape_of_block (heap_alloc_old w _ _ (lt_of_heap k3)) hs') (fun _ _ h => h)
      · rw [List.getElem?_append_right (by omega)] at hi
        have hlt := (List.getElem?_eq_some_iff.1 hi).1
        simp at hlt
        have hid' : i = s.hp.length := by omega
        subst hid'
        simp at hi
        subst hi
        intro j u hj
        have hb : (g.box w.heap.size).bb s.hp.length = w.heap.size := by simp [G.box, hnb]
        rw [hb]
        refine ⟨e, c.size, ?_, hls j u hj⟩
        simp only [World.shape?, heap_alloc_new w]
    intro id en hen
    by_cases hid : id < s.hp.length
    · rw [List.getElem?_append_left hid] at hen
      exact (h.heap.ent id en hen).mono (hch (fun _ => False)) (by rw [hnb]; exact hid) ⟨fun hf => hf, fun _ hf => hf⟩
    · rw [List.getElem?_append_right (by omega)] at hen
      have hlt := (List.getElem?_eq_some_iff.1 hen).1
      simp at hlt
      have hid' : id = s.hp.length := by omega
      subst hid'
      simp at hen
      subst hen
      refine ⟨c, e, _, .inl rfl, by simp [G.box, hnb], by simp [G.box, hnb], by simp only [G.box, hnb, if_true]; exact heap_alloc_new w _, Nat.le_of_eq hs.symm, fun j p hj => ?_⟩
      obtain ⟨u, h1, h2, h3, h4⟩ := hc j p hj
      exact ⟨u, h1, h2, RepF.move (l := .ret 0) (fun _ _ h => h) (Nat.le_refl _) (fun _ _ => rfl) h3 (RepF.mono (hch (fun _ => False)) (fun hf => hf) h4)⟩
  have h0 : Inv P (g.box w.heap.size) (w.alloc (.cells c e)) a { s with hp := s.hp ++ [.box cs] } :=
    ⟨h.size, fun t p ht => (h.slot t p ht).mono (hch (fun _ => False)) (fun _ hf => hf) (fun t' cs ht' => ⟨⟨cs, ht'⟩, rfl⟩), hH⟩
  refine ⟨h0.put (l := .ret 0) hp rfl ?_, hch _⟩
  simp only [RepF]
  exact ⟨by simp [G.box, hnb], by simp [G.box, hnb]⟩

theorem op_zal_heap {o : Oper} {t : TypeId} {cs : List PV} {z : Value} {i : TypeInfo} (h : Inv P g w a s) (ho : o.op = .alloc t) (hi : P.info? t = some i) (hz : i.zero = some z) (hc : zcOk z.cells.toList cs = true) (hls : ∀ (j u : Nat), cs[j]? = some (PV.bnil u) → liesAt P P.depth t (cs.length / P.cellsOf t) j u 1 = true)
    (hp : St.put { s with hp := s.hp ++ [.box cs] } o.dst (.ptr s.hp.length 0) = some s') : OpRes P g w a o s' := by
  obtain ⟨h1, h2⟩ := zcOk_ok (P := P) hc g w
  obtain ⟨k1, k2⟩ := h.heap_box (e := t) (c := z.cells) (fun j p hj => by obtain ⟨u, h3, h4⟩ := h2 j p hj; exact ⟨u, by simpa using h3, h4⟩) (by simpa using h1) (fun j u hj => by rw [show z.cells.size = cs.length by simpa using h1]; exact hls j u hj) hp
  refine ⟨_, _, _, _, ?_, .inl rfl, k1, k2⟩
  unfold execOp
  simp [ho, Instr.alloc, zeroValue, typeInfo, hi, hz, newVar, newRow]

theorem box_cells (h : Inv P g w a s) {x : Operand} {x' : X} {agg : Bool} {cs : List PV} (hx : xOk x x' = true)
    (hc : (if agg then match (s.x x').toD with | some (.agg ds) => some (ds.map PV.d) | _ => none else (s.x x').cp.map ([·])) = some cs) (hone : agg = false → (a.eval x).oneCell' = true) :
    (a.eval x).cells.size = cs.length ∧ ∀ (j : Nat) (p : PV), cs[j]? = some p → ∃ u, (a.eval x).cells[j]? = some u ∧ u.oneCell' = true ∧ p.plain = true ∧ RepF P g w (.ret 0) p u := by
  cases agg with
  | true =>
    simp only [if_true] at hc
    split at hc
    · rename_i ds hds
      simp only [Option.some.injEq] at hc
      subst hc
      obtain ⟨vs, e1, e2, e3, e4⟩ := (x_toD h hx hds).agg_inv
      rw [e1]
      refine ⟨by simpa [Value.cells] using e2, ?_⟩
      intro j p hj
      rw [List.getElem?_map, Option.map_eq_some_iff] at hj
      obtain ⟨c, hc, rfl⟩ := hj
      have hlt := (List.getElem?_eq_some_iff.1 hc).1
      have hv : vs[j]? = some vs[j] := Array.getElem?_eq_getElem (by omega)
      have hr := e4 j c _ hc hv
      exact ⟨vs[j], hv, hr.oneCell (e3 c (List.mem_of_getElem? hc)), rfl, by simp only [RepF]; exact hr⟩
    · simp at hc
  | false =>
    simp only [Bool.false_eq_true, if_false, Option.map_eq_some_iff] at hc
    obtain ⟨q, hq, rfl⟩ := hc
    obtain ⟨k1, k2⟩ := x_cp h hx hq
    have ho1 := hone rfl
    have hcells : (a.eval x).cells = #[a.eval x] := by cases hv : a.eval x <;> first | rfl | (rw [hv] at ho1; simp [Value.oneCell'] at ho1)
    rw [hcells]
    refine ⟨rfl, ?_⟩
    intro j p hj
    cases j with
    | zero => simp at hj; subst hj; exact ⟨a.eval x, rfl, ho1, k1, k2 _⟩
    | succ j => simp at hj

theorem op_bx_heap {o : Oper} {t : TypeId} {x : Operand} {x' : X} {agg : Bool} {cs : List PV} (h : Inv P g w a s) (ho : o.op = .box t x) (hx : xOk x x' = true)
    (hc : (if agg then match (s.x x').toD with | some (.agg ds) => some (ds.map PV.d) | _ => none else (s.x x').cp.map ([·])) = some cs) (hone : agg = false → (a.eval x).oneCell' = true)
    (hp : St.put { s with hp := s.hp ++ [.box cs] } o.dst (.ptr s.hp.length 0) = some s') : OpRes P g w a o s' := by
  obtain ⟨h1, h2⟩ := box_cells h hx hc hone
  have hnb : ∀ (j u : Nat), cs[j]? ≠ some (PV.bnil u) := by
    intro j u hj
    cases agg with
    | true =>
      simp only [if_true] at hc
      split at hc
      · simp only [Option.some.injEq] at hc
        subst hc
        rw [List.getElem?_map, Option.map_eq_some_iff] at hj
        obtain ⟨c, _, hc⟩ := hj
        cases hc
      · simp at hc
    | false =>
      simp only [Bool.false_eq_true, if_false, Option.map_eq_some_iff] at hc
      obtain ⟨q, hq, rfl⟩ := hc
      cases j with
      | zero =>
        simp at hj
        subst hj
        cases hv : s.x x' <;> rw [hv] at hq <;> simp [PV.cp] at hq
      | succ j => simp at hj
  obtain ⟨k1, k2⟩ := h.heap_box (e := t) (c := (a.eval x).cells) h2 h1 (fun j u hj => absurd hj (hnb j u)) hp
  refine ⟨_, _, _, _, ?_, .inl rfl, k1, k2⟩
  unfold execOp
  simp [ho, Instr.box, newVar, newRow]

theorem bxn_get (us : List (Nat × Nat)) : ∀ (ds : List D) (k j : Nat), (bxnCells us k ds)[j]? = (ds[j]?).map (bxnCell us (k + j))
  | [], k, j => by simp [bxnCells]
  | d :: ds, k, 0 => by simp [bxnCells]
  | d :: ds, k, j + 1 => by
    simp only [bxnCells, List.getElem?_cons_succ, bxn_get us ds (k + 1) j]
    rw [show k + 1 + j = k + (j + 1) by omega]
theorem bxn_len (us : List (Nat × Nat)) : ∀ (ds : List D) (k : Nat), (bxnCells us k ds).length = ds.length
  | [], k => rfl
  | d :: ds, k => by simp [bxnCells, bxn_len us ds (k + 1)]
theorem op_bxn {o : Oper} {t : TypeId} {x : Operand} {x' : X} {n : Nat} {us : List (Nat × Nat)} {ds : List D} (h : Inv P g w a s) (ho : o.op = .box t x) (hx : xOk x x' = true) (hds : (s.x x').toD = some (.agg ds)) (hn : ds.length = n)
    (hus : (us.all fun p => liesAt P P.depth t (n / P.cellsOf t) p.1 p.2 1) = true)
    (hp : St.put { s with hp := s.hp ++ [.box (bxnCells us 0 ds)] } o.dst (.ptr s.hp.length 0) = some s') : OpRes P g w a o s' := by
  obtain ⟨vs, e1, e2, e3, e4⟩ := (x_toD h hx hds).agg_inv
  have hsz : (a.eval x).cells.size = (bxnCells us 0 ds).length := by rw [e1, bxn_len]; simpa [Value.cells] using e2
  have hc : ∀ (j : Nat) (p : PV), (bxnCells us 0 ds)[j]? = some p → ∃ u, (a.eval x).cells[j]? = some u ∧ u.oneCell' = true ∧ p.plain = true ∧ RepF P g w (.ret 0) p u := by
    intro j p hj
    rw [bxn_get, Option.map_eq_some_iff] at hj
    obtain ⟨c, hc, rfl⟩ := hj
    have hlt := (List.getElem?_eq_some_iff.1 hc).1
    have hv : vs[j]? = some vs[j] := Array.getElem?_eq_getElem (by omega)
    have hr := e4 j c _ hc hv
    refine ⟨vs[j], by rw [e1]; exact hv, hr.oneCell (e3 c (List.mem_of_getElem? hc)), ?_⟩
    unfold bxnCell
    split
    · generalize vs[j] = v at hr
      cases hr
      exact ⟨rfl, by simp only [RepF]⟩
    · split
      · generalize vs[j] = v at hr
        cases hr
        exact ⟨rfl, by simp only [RepF]⟩
      · exact ⟨rfl, by simp only [RepF]; exact hr⟩
    · exact ⟨rfl, by simp only [RepF]; exact hr⟩
  have hl : ∀ (j u : Nat), (bxnCells us 0 ds)[j]? = some (PV.bnil u) → liesAt P P.depth t ((a.eval x).cells.size / P.cellsOf t) j u 1 = true := by
    intro j u hj
    rw [bxn_get, Option.map_eq_some_iff] at hj
    obtain ⟨c, hc, hj⟩ := hj
    rw [hsz, bxn_len, hn]
    unfold bxnCell at hj
    split at hj
    · cases hj
    · split at hj
      · rename_i p hf
        injection hj with hj
        have h1 := List.find?_some hf
        have h2 := List.mem_of_find?_eq_some hf
        have h3 := List.all_eq_true.1 hus p h2
        simp only [Nat.zero_add, beq_iff_eq] at h1
        rw [← hj, ← h1]
        exact h3
      · cases hj
    · cases hj
  obtain ⟨k1, k2⟩ := h.heap_box (e := t) (c := (a.eval x).cells) hc hsz hl hp
  refine ⟨_, _, _, _, ?_, .inl rfl, k1, k2⟩
  unfold execOp
  simp [ho, Instr.box, newVar, newRow]

theorem op_ext_own {o : Oper} {n i e : Nat} {xs : List D} (h : Inv P g w a s) (ho : o.op = .extract (.tmp n) i) {vs : List PV} (ht : s.tm.getD n .dead = .tup vs) (hi : vs[i]? = some (.own e xs)) {d : Nat} (hd : o.dst = some d)
    (hp : St.put { s with tm := s.tm.set n (.tup (vs.set i .dead)) } o.dst (.own e xs) = some s') : OpRes P g w a o s' := by
  obtain ⟨h1, us, e1, e2, e3⟩ := tup_slot h ht
  have hlt := (List.getElem?_eq_some_iff.1 hi).1
  have hn : n < s.tm.length := (List.getElem?_eq_some_iff.1 h1).1
  have hu : us[i]? = some us[i] := List.getElem?_eq_getElem (by omega)
  have hown := e3 i _ _ hi hu
  have e1' : a.tmps.getD n undef = .tuple us.toArray := e1
  have hr : (execOp a.eval o).run P w = .ok (.value us[i]) w := by
    unfold execOp
    simp [ho, Act.eval, e1', Instr.extract, hu]
  rw [hd] at hp
  obtain ⟨rfl, hne⟩ := put_some hp
  simp only at hne
  refine ⟨_, us[i], g.relab (mvLoc (.tm n (i + 1)) (.tm d 0)), w, hr, .inl rfl, ?_, (Chg.mv (g := g) (w := w) _ _).mono (mine_of_eq (mine_tm n (i + 1)))⟩
  rw [hd]
  refine ⟨by simp [Act.put, h.size], ?_, h.heap.mv (by intro id; exact ⟨fun e => (by cases e), fun j e => (by cases e)⟩)⟩
  intro t p htp
  simp only at htp
  by_cases ed : t = d
  · subst ed
    have hl : t < s.tm.length := by
      have := (List.getElem?_eq_some_iff.1 htp).1
      simpa using this
    rw [List.getElem?_set_self (by simpa using hl)] at htp
    simp only [Option.some.injEq] at htp
    subst htp
    rw [va_put_same (by rw [h.size]; exact hl)]
    exact hown.mv
  · rw [List.getElem?_set_ne (Ne.symm ed)] at htp
    rw [va_put_other ed]
    by_cases en : t = n
    · subst en
      rw [List.getElem?_set_self hn] at htp
      simp only [Option.some.injEq] at htp
      subst htp
      refine ⟨us, e1, by simpa using e2, ?_⟩
      intro j p u hj hu'
      by_cases ej : j = i
      · subst ej
        rw [List.getElem?_set_self hlt] at hj
        simp only [Option.some.injEq] at hj
        subst hj
        simp only [RepF]
      · rw [List.getElem?_set_ne (Ne.symm ej)] at hj
        exact (e3 j p u hj hu').mono (Chg.mv _ _) (fun hm => by injection hm; omega)
    · rw [List.getElem?_set_ne (Ne.symm en)] at htp
      refine (h.slot t p htp).mono (Chg.mv _ _) (fun j hj => en (by injection hj)) ?_
      intro t' cs ht'
      have q1 : t' ≠ n := fun e1 => by rw [e1, h1] at ht'; simp at ht'
      have q2 : t' ≠ d := fun e2 => hne cs (by rw [← e2, List.getElem?_set_ne (Ne.symm q1)]; exact ht')
      exact ⟨⟨cs, by rw [List.getElem?_set_ne (Ne.symm q2), List.getElem?_set_ne (Ne.symm q1)]; exact ht'⟩, va_put_other q2⟩

def mvtLoc (n d : Nat) : Loc → Loc
  | .tm t (j + 1) => if t = n then .tm d (j + 1) else .tm t (j + 1)
  | l => l

theorem RepF.relab {f : Loc → Loc} {l : Loc} {p : PV} {v : Value} (h : RepF P g w l p v) : RepF P (g.relab f) w (f l) p v := by
  have mv : p.plain = true → RepF P (g.relab f) w (f l) p v := fun hp => RepF.move (fun _ _ => G.relab_stab.2) (Nat.le_refl _) (fun _ _ => rfl) hp h
  cases p with
  | own e xs => exact h.relab_own
  | fn f' caps => exact mv (by simp only [RepF] at h; simpa [PV.plain] using h.1)
  | fnm f' caps => exact mv (by simp only [RepF] at h; simpa [PV.plain] using h.1)
  | ibox _ => simp only [RepF] at h
  | ref _ _ => simp only [RepF] at h
  | tup _ => simp only [RepF] at h
  | rptr _ _ _ => simp only [RepF] at h
  | iter _ _ => simp only [RepF] at h
  | _ => exact mv rfl

theorem op_mvt {o : Oper} {n : Nat} (h : Inv P g w a s) (ho : o.op = .move (.tmp n) ∨ o.op = .assign (.tmp n)) {vs : List PV} (ht : s.tm.getD n .dead = .tup vs) {d : Nat} (hd : o.dst = some d)
    (hp : St.put { s with tm := s.tm.set n .dead } o.dst (.tup vs) = some s') : OpRes P g w a o s' := by
  obtain ⟨h1, us, e1, e2, e3⟩ := tup_slot h ht
  have hn : n < s.tm.length := (List.getElem?_eq_some_iff.1 h1).1
  have hr : (execOp a.eval o).run P w = .ok (.value (a.va n)) w := by
    unfold execOp
    rcases ho with ho | ho <;> simp [ho] <;> rfl
  rw [hd] at hp
  obtain ⟨rfl, hne⟩ := put_some hp
  simp only at hne
  have hch : Chg (fun x => ∃ j, x = .tm n (j + 1)) g w (g.relab (mvtLoc n d)) w := Chg.relab _ fun l hl => by
    unfold mvtLoc
    split
    · rename_i t j
      split
      · rename_i e; subst e; exact absurd ⟨j, rfl⟩ hl
      · rfl
    · rfl
  refine ⟨_, a.va n, g.relab (mvtLoc n d), w, hr, .inl rfl, ?_, hch.mono fun l hl => by obtain ⟨j, rfl⟩ := hl; exact mine_of_eq (mine_tm n (j + 1)) _ rfl⟩
  rw [hd]
  refine ⟨by simp [Act.put, h.size], ?_, h.heap.mono hch (fun id => ⟨fun hl => (by obtain ⟨j, hl⟩ := hl; cases hl), fun j hl => (by obtain ⟨j, hl⟩ := hl; cases hl)⟩) rfl⟩
  intro t p htp
  simp only at htp
  by_cases ed : t = d
  · subst ed
    have hl : t < s.tm.length := by
      have := (List.getElem?_eq_some_iff.1 htp).1
      simpa using this
    rw [List.getElem?_set_self (by simpa using hl)] at htp
    simp only [Option.some.injEq] at htp
    subst htp
    rw [va_put_same (by rw [h.size]; exact hl)]
    refine ⟨us, e1, e2, fun j p u hj hu => ?_⟩
    have := (e3 j p u hj hu).relab (f := mvtLoc n t)
    simpa [mvtLoc] using this
  · rw [List.getElem?_set_ne (Ne.symm ed)] at htp
    rw [va_put_other ed]
    by_cases en : t = n
    · subst en
      rw [List.getElem?_set_self hn] at htp
      simp only [Option.some.injEq] at htp
      subst htp
      exact RepS.dead'
    · rw [List.getElem?_set_ne (Ne.symm en)] at htp
      refine (h.slot t p htp).mono hch (fun j hj => by obtain ⟨i, hj⟩ := hj; injection hj with q; exact en q) ?_
      intro t' cs ht'
      have q1 : t' ≠ n := fun e1 => by rw [e1, h1] at ht'; simp at ht'
      have q2 : t' ≠ d := fun e2 => hne cs (by rw [← e2, List.getElem?_set_ne (Ne.symm q1)]; exact ht')
      exact ⟨⟨cs, by rw [List.getElem?_set_ne (Ne.symm q2), List.getElem?_set_ne (Ne.symm q1)]; exact ht'⟩, va_put_other q2⟩

theorem op_pan {o : Oper} {x : Operand} {x' : X} (h : Inv P g w a s) (ho : o.op = .panic x) (hx : xOk x x' = true) {t : Nat} {y : D} (hy : (s.x x').toD = some (.ifc t y)) {next : Act → World → Prop} {Q : Exit → Act → World → Prop}
    (hk : OpPost P g w a next Q (.pan (.ifc t y) s)) : o.wp P a w next Q := by
  have r1 := x_toD h hx hy
  generalize hv : a.eval x = v at r1
  cases r1 with
  | ifc _ _ u hu =>
    have hr : (execOp a.eval o).run P w = .halt (.panic (.iface t u)) w := by
      unfold execOp
      simp [ho, hv, Instr.panic]
    unfold Oper.wp
    rw [hr, Oper.upon_panic]
    exact hk g w _ (.ifc _ _ _ hu) h (Chg.refl _ _ _)

end
end Go.Pe

namespace Go.Pe
section
variable {P : Program} {g : G} {w : World} {a : Act} {s s' : St} {S : Nat → Nat → Prop}


theorem optAll_get {α : Type} : ∀ {l : List (Option α)} {ds : List α}, optAll l = some ds → ds.length = l.length ∧ ∀ (j : Nat) (d : α), ds[j]? = some d → l[j]? = some (some d)
  | [], ds, h => by
    simp only [optAll, Option.some.injEq] at h
    subst h
    exact ⟨rfl, by simp⟩
  | none :: l, ds, h => by simp [optAll] at h
  | some x :: l, ds, h => by
    simp only [optAll, Option.map_eq_some_iff] at h
    obtain ⟨es, he, rfl⟩ := h
    obtain ⟨i1, i2⟩ := optAll_get he
    refine ⟨by simp [i1], fun j d hj => ?_⟩
    cases j with
    | zero => simpa using hj
    | succ j => exact i2 j d (by simpa using hj)

theorem Inv.open_ (h : Inv P g w a s) {n : Nat} {cs : List PV} {ds : List D} (hn : s.tm[n]? = some (.ibox cs)) (hds : optAll (cs.map PV.toD) = some ds) (hag : ∀ d ∈ ds, d.isAgg = false) (hr : s.tm.any (PV.isRef n) = false) :
    ∃ (b : Nat) (g' : G), a.va n = .pointer (some ⟨b, 0, none⟩) ∧ Chg Mine g w g' w ∧ Inv P g' w a { s with tm := s.tm.set n (.eptr (.agg ds) 0) } ∧
      ∀ (j : Nat) (d : D), ds[j]? = some d → ∃ u, w.cell? ⟨b, j, none⟩ = some u ∧ g'.stab b j ∧ DRep g'.stab w d u := by
  obtain ⟨b, c, e, e1, e2, e3, e4, e5⟩ := box_slot h hn
  obtain ⟨o1, o2⟩ := optAll_get hds
  have hst : ∀ b' i, g.stab b' i → G.stab { g with κ := fun x => if x = b then none else g.κ x } b' i := by
    intro b' i hs
    by_cases hb : b' = b
    · exact .inl (by simp [hb])
    · rcases hs with hs | hs
      · exact .inl (by simp [hb, hs])
      · exact .inr hs
  have hc : Chg (fun l => l = .tm n 0) g w { g with κ := fun x => if x = b then none else g.κ x } w := by
    refine ⟨rfl, rfl, rfl, Nat.le_refl _, fun b' i u hc hs => ⟨hc, hst b' i hs⟩, ?_, ?_, Nat.le_refl _, fun _ _ => rfl⟩
    · intro b' l _ hl hM
      have hb : b' ≠ b := by
        intro hb
        subst hb
        rw [e2] at hl
        exact hM (Option.some.inj hl).symm
      exact ⟨by simp [hb, hl], rfl, rfl⟩
    · intro b' _ hl
      exact ⟨by simp [hl], rfl⟩
  have cells : ∀ (j : Nat) (d : D), ds[j]? = some d → ∃ u, w.cell? ⟨b, j, none⟩ = some u ∧ G.stab { g with κ := fun x => if x = b then none else g.κ x } b j ∧ DRep (G.stab { g with κ := fun x => if x = b then none else g.κ x }) w d u := by
    intro j d hj
    have hj' := o2 j d hj
    rw [List.getElem?_map, Option.map_eq_some_iff] at hj'
    obtain ⟨p, hp, hpd⟩ := hj'
    obtain ⟨u, u1, _, u3⟩ := e5.2 j p hp
    refine ⟨u, ?_, .inl (by simp), (u3.toD hpd).mono fun b' i v hc hs => ⟨hc, hst b' i hs⟩⟩
    rw [cell_of_row w b j c e (0, 0) e4]
    exact u1
  refine ⟨b, _, e1, hc.mono (mine_of_eq (mine_tm n 0)), ?_, cells⟩
  have hlt : n < s.tm.length := (List.getElem?_eq_some_iff.1 hn).1
  refine ⟨by simp [h.size], ?_, h.heap.mono hc (fun id => ⟨by simp, by simp⟩) rfl⟩
  intro t p ht
  simp only at ht
  by_cases et : t = n
  · subst et
    rw [List.getElem?_set_self hlt] at ht
    simp only [Option.some.injEq] at ht
    subst ht
    show RepF P _ w (.tm t 0) (.eptr (.agg ds) 0) (a.va t)
    simp only [RepF]
    exact ⟨b, 0, e1, fun c hc => hag c hc, fun j c hj => by simpa using cells j c hj⟩
  · rw [List.getElem?_set_ne (Ne.symm et)] at ht
    have hold := h.slot t p ht
    have hM : ∀ j, ¬ (Loc.tm t j = .tm n 0) := by
      intro j hj
      injection hj with h1 h2
      exact et h1
    cases p with
    | ref t' off =>
      obtain ⟨b', cs', k1, k2, k3⟩ := hold
      have hne : t' ≠ n := by
        intro e'
        subst e'
        have := List.any_eq_false.1 hr _ (List.mem_of_getElem? ht)
        simp [PV.isRef] at this
      exact ⟨b', cs', k1, k2, by simp only; rw [List.getElem?_set_ne (Ne.symm hne)]; exact k3⟩
    | _ => exact RepS.mono (ts' := s.tm) (va' := a.va) hc hM (fun t' cs' h' => ⟨⟨cs', h'⟩, rfl⟩) hold

theorem chunkD_length (sz : Nat) : ∀ (n : Nat) (ds : List D), (chunkD sz n ds).length = n
  | 0, _ => rfl
  | n + 1, ds => by simp [chunkD, chunkD_length sz n]

theorem chunkD_get (sz : Nat) : ∀ (n : Nat) (ds : List D) (i : Nat) (x : D), (chunkD sz n ds)[i]? = some x → i < n ∧ x = .agg ((ds.drop (i * sz)).take sz)
  | 0, ds, i, x, h => by simp [chunkD] at h
  | n + 1, ds, 0, x, h => by
    simp only [chunkD, List.getElem?_cons_zero, Option.some.injEq] at h
    exact ⟨by omega, by simp [h]⟩
  | n + 1, ds, i + 1, x, h => by
    simp only [chunkD, List.getElem?_cons_succ] at h
    obtain ⟨h1, h2⟩ := chunkD_get sz n (ds.drop sz) i x h
    refine ⟨by omega, ?_⟩
    rw [h2, List.drop_drop, Nat.succ_mul, Nat.add_comm sz]

theorem rowsD_ok {sz len : Nat} {ag : Bool} {ds : List D} (hl : ds.length = len * sz) (ha : ∀ d ∈ ds, d.isAgg = false) (hg : ag = true ∨ sz = 1) :
    (rowsD sz ag len ds).length = len ∧ ∀ (i : Nat) (x : D), (rowsD sz ag len ds)[i]? = some x → x.width = sz ∧ (∀ c ∈ x.cells, c.isAgg = false) ∧ ∀ (j : Nat) (c : D), x.cells[j]? = some c → ds[i * sz + j]? = some c := by
  cases ag with
  | true =>
    refine ⟨by simp [rowsD, chunkD_length], ?_⟩
    intro i x hx
    simp only [rowsD, if_true] at hx
    obtain ⟨h1, rfl⟩ := chunkD_get sz len ds i x hx
    have hi : (i + 1) * sz ≤ len * sz := Nat.mul_le_mul_right _ h1
    rw [Nat.succ_mul] at hi
    refine ⟨?_, ?_, ?_⟩
    · simp only [D.width, D.cells, List.length_take, List.length_drop]; omega
    · intro c hc
      exact ha c (List.mem_of_mem_drop (List.mem_of_mem_take hc))
    · intro j c hj
      simp only [D.cells, List.getElem?_take] at hj
      split at hj
      · rw [List.getElem?_drop] at hj; exact hj
      · simp at hj
  | false =>
    obtain rfl : sz = 1 := by simpa using hg
    refine ⟨by simp [rowsD, hl], ?_⟩
    intro i x hx
    simp only [rowsD, Bool.false_eq_true, if_false] at hx
    have hna := ha x (List.mem_of_getElem? hx)
    have hc : x.cells = [x] := by cases x <;> first | rfl | simp [D.isAgg] at hna
    refine ⟨by simp [D.width, hc], by rw [hc]; simpa using hna, ?_⟩
    intro j c hj
    rw [hc] at hj
    cases j with
    | zero => simp at hj; subst hj; simpa using hx
    | succ j => simp at hj

def slaOk (P : Program) (t : TypeId) (sz len : Nat) : Bool :=
  match P.underlying t with
  | some (.array n e) => n == len && (match P.info? e with | some i => i.size == sz | none => false)
  | _ => false

theorem op_sla {o : Oper} {t : TypeId} {sz len : Nat} {ag : Bool} {x : Operand} {x' : X} {lo hi : Option Operand} {lo' hi' : Option X} (h : Inv P g w a s) (ho : o.op = .slice t x lo hi none) (ht : slaOk P t sz len = true) (hx : xOk x x' = true)
    (hlo : oxOk lo lo' = true) (hhi : oxOk hi hi' = true) {p : PV} {s1 : St} (hs : slaOp s sz ag len x' lo' hi' = some (p, s1)) (hp : s1.put o.dst p = some s') : OpRes P g w a o s' := by
  unfold slaOp at hs
  split at hs
  · rename_i n cs hbox
    split at hs
    · rename_i ds hds
      split at hs
      · rename_i hc
        simp only [Bool.and_eq_true, beq_iff_eq, List.all_eq_true, Bool.not_eq_true', Bool.or_eq_true, decide_eq_true_eq] at hc
        obtain ⟨⟨⟨hlen, hag⟩, hsz⟩, href⟩ := hc
        split at hs
        · rename_i l u h1 h2
          split at hs
          · rename_i hbo
            simp only [Option.some.injEq, Prod.mk.injEq] at hs
            obtain ⟨rfl, rfl⟩ := hs
            have hxn : x = .tmp n := by
              cases x <;> simp [xOk] at hx
              subst hx
              rfl
            subst hxn
            obtain ⟨hn, _⟩ := h.slot' (t := n) hbox (by simp)
            obtain ⟨b, g', v1, v2, v3, v4⟩ := h.open_ hn hds hag href
            obtain ⟨r1, r2⟩ := rowsD_ok (ag := ag) hlen hag hsz
            have hrow : DRep g'.stab w (.sl (rowsD sz ag len ds)) (.slice (some ⟨b, 0, none⟩) len len) := by
              have key := DRep.sl (S := g'.stab) (w := w) (rowsD sz ag len ds) b 0 sz len (fun i j => (w.cell? ⟨b, 0 + i * sz + j, none⟩).getD undef) (by omega)
                (fun y hy => by obtain ⟨i, hi⟩ := List.mem_iff_getElem?.1 hy; exact (r2 i y hi).1) (fun y hy => by obtain ⟨i, hi⟩ := List.mem_iff_getElem?.1 hy; exact (r2 i y hi).2.1)
                (fun i y j c hi hj => by
                  obtain ⟨q, q1, q2, q3⟩ := v4 _ _ ((r2 i y hi).2.2 j c hj)
                  rw [Nat.zero_add, q1]
                  exact ⟨rfl, q2⟩)
                (fun i y j c hi hj => by
                  obtain ⟨q, q1, q2, q3⟩ := v4 _ _ ((r2 i y hi).2.2 j c hj)
                  simp only [Nat.zero_add, q1, Option.getD_some]
                  exact q3)
              rw [r1] at key
              exact key
            have hall : (rowsD sz ag len ds).all (fun y => y.width == sz) = true := by
              simp only [List.all_eq_true, beq_iff_eq]
              intro y hy
              obtain ⟨i, hi⟩ := List.mem_iff_getElem?.1 hy
              exact (r2 i y hi).1
            have hbo' : boundsOk l u (rowsD sz ag len ds).length = true := by rw [r1]; exact hbo
            have hu : u.toNat ≤ len := by
              simp only [boundsOk, Bool.and_eq_true, decide_eq_true_eq] at hbo
              omega
            have hcut := hrow.cut (m := len) hbo' hall hu
            have hb2 := bounds_run (P := P) (isS := false) (cap := len) h hlo hhi h1 h2 hbo (Nat.le_refl _)
            unfold slaOk at ht
            split at ht
            · rename_i n' e hun
              simp only [Bool.and_eq_true, beq_iff_eq] at ht
              obtain ⟨rfl, ht⟩ := ht
              split at ht
              · rename_i i hinf
                simp only [beq_iff_eq] at ht
                have hI := v3.put (l := .ret 0) hp (u := .slice (if n' = l.toNat then some ⟨b, 0, none⟩ else (some (⟨b, 0, none⟩ : Addr)).map (·.add (l.toNat * sz))) (u.toNat - l.toNat) (n' - l.toNat)) rfl (by simp only [RepF]; exact hcut)
                refine ⟨_, _, g', w, ?_, .inl rfl, hI, v2⟩
                have hva : a.eval (.tmp n) = .pointer (some ⟨b, 0, none⟩) := v1
                unfold execOp
                simp only [ho, Instr.sliceAt, Sem.run_bind, run_underlying hun, Result.andThen_ok, hva, Instr.sureAddr, Sem.run_pure, hb2, Option.map_none, sizeOf, typeInfo]
                simp [hinf, ht]
                split <;> rfl
              · simp at ht
            · simp at ht
          · simp at hs
        · simp at hs
      · simp at hs
    · simp at hs
  · simp at hs

end
end Go.Pe

namespace Go.Pe
section
variable {P : Program} {g : G} {w : World} {a : Act} {s s' : St} {S : Nat → Nat → Prop}


theorem op_iad_row {o : Oper} {t : TypeId} {sz : Nat} {x i : Operand} {x' i' : X} (h : Inv P g w a s) (ho : o.op = .indexAddr t x i) (hf : iadOk P t sz none = true) (hx : xOk x x' = true) (hi : xOk i i' = true)
    {k : IntKind} {n : Int} (hn : (s.x i').toD = some (.int k n)) {id lo len : Nat} (hv : s.x x' = .rowh id lo len) (hb : 0 ≤ n ∧ n < len)
    (hp : s.put o.dst (.ptr id (lo + n.toNat * sz)) = some s') : OpRes P g w a o s' := by
  have e3 := (x_toD h hi hn).int_inv
  obtain ⟨_, k2⟩ := x_cp h hx (q := .rowh id lo len) (by rw [hv]; rfl)
  have k3 := k2 (.ret 0)
  simp only [RepF] at k3
  obtain ⟨kid, ad, cap, e1, e2, e4⟩ := k3
  have e4 := e4 (by omega)
  subst e4
  unfold iadOk at hf
  simp only at hf
  split at hf
  · rename_i el hu
    split at hf
    · rename_i inf hinf
      simp only [beq_iff_eq] at hf
      refine OpRes.value (l := .ret 0) h (u := .pointer (some ⟨g.bb id, lo + n.toNat * sz, none⟩)) ?_ hp rfl ?_
      · unfold execOp
        simp [ho, e1, e3, Instr.indexAt, run_underlying hu, asIntOf, sizeOf, typeInfo, hinf, hf, hb.1, Addr.add_lit, show n < (len : Int) by omega]
      · simp only [RepF]
        exact ⟨kid, trivial⟩
    · simp at hf
  · simp at hf

theorem Inv.frz (h : Inv P g w a s) {id : Nat} {cs : List PV} (hid : s.hp[id]? = some (.box cs)) :
    ∃ g' : G, Chg Mine g w g' w ∧ Inv P g' w a { s with hp := s.hp.set id .gone } ∧
      ∀ (j : Nat) (p : PV) (d : D), cs[j]? = some p → p.toD = some d → ∃ u, w.cell? ⟨g.bb id, j, none⟩ = some u ∧ g'.stab (g.bb id) j ∧ DRep g'.stab w d u := by
  obtain ⟨c, e, z, hz, e2, e3, e4, e5⟩ := h.heap.ent id _ hid
  have hlt : id < s.hp.length := (List.getElem?_eq_some_iff.1 hid).1
  have hst : ∀ b' i, g.stab b' i → G.stab { g with κ := fun x => if x = g.bb id then none else g.κ x } b' i := by
    intro b' i hs
    by_cases hb : b' = g.bb id
    · exact .inl (by simp [hb])
    · rcases hs with hs | hs
      · exact .inl (by simp [hb, hs])
      · exact .inr hs
  have hc : Chg (fun l => l = .bx id) g w { g with κ := fun x => if x = g.bb id then none else g.κ x } w := by
    refine ⟨rfl, rfl, rfl, Nat.le_refl _, fun b' i u hc hs => ⟨hc, hst b' i hs⟩, ?_, ?_, Nat.le_refl _, fun _ _ => rfl⟩
    · intro b' l _ hl hM
      have hb : b' ≠ g.bb id := by
        intro hb
        subst hb
        rw [e2] at hl
        exact hM (Option.some.inj hl).symm
      exact ⟨by simp [hb, hl], rfl, rfl⟩
    · intro b' _ hl
      exact ⟨by simp [hl], rfl⟩
  refine ⟨_, hc.mono (mine_of_eq (mine_bx id)), ?_, ?_⟩
  · refine ⟨h.size, fun t p ht => (h.slot t p ht).mono hc (fun j hj => by cases hj) (fun t' cs ht' => ⟨⟨cs, ht'⟩, rfl⟩), ⟨by simp [h.heap.nb], ?_, lies_gone h.heap.lies (fun _ _ => rfl) (fun _ _ _ _ h => h)⟩⟩
    intro id' en hen
    simp only at hen
    by_cases e1 : id' = id
    · subst e1
      rw [List.getElem?_set_self hlt] at hen
      simp only [Option.some.injEq] at hen
      subst hen
      trivial
    · rw [List.getElem?_set_ne (Ne.symm e1)] at hen
      exact (h.heap.ent id' en hen).mono hc (by rw [h.heap.nb]; exact (List.getElem?_eq_some_iff.1 hen).1) ⟨fun hm => by injection hm with hm; exact e1 hm, fun j hm => by cases hm⟩
  · intro j p d hj hd
    obtain ⟨u, u1, _, u3⟩ := e5.2 j p hj
    refine ⟨u, ?_, .inl (by simp), (u3.toD hd).mono fun b' i v hc hs => ⟨hc, hst b' i hs⟩⟩
    rw [cell_of_row w (g.bb id) j c e z e4]
    exact u1

theorem op_frz {o : Oper} {sz : Nat} {ag : Bool} {x : Operand} {x' : X} (h : Inv P g w a s) (ho : o.op = .move x ∨ o.op = .assign x) (hx : xOk x x' = true) {p : PV} {s1 : St} (hs : frzOp s sz ag x' = some (p, s1))
    (hp : s1.put o.dst p = some s') : OpRes P g w a o s' := by
  have hrun : (execOp a.eval o).run P w = .ok (.value (a.eval x)) w := by
    unfold execOp
    rcases ho with ho | ho <;> simp only [ho, Sem.run_pure]
  unfold frzOp at hs
  split at hs
  · rename_i id lo len hv
    obtain ⟨_, k2⟩ := x_cp h hx (q := .rowh id lo len) (by rw [hv]; rfl)
    have k3 := k2 (.ret 0)
    simp only [RepF] at k3
    obtain ⟨kid, ad, cap, e1, e2, e4⟩ := k3
    split at hs
    · rename_i h0
      subst h0
      simp only [Option.some.injEq, Prod.mk.injEq] at hs
      obtain ⟨rfl, rfl⟩ := hs
      exact OpRes.value (l := .ret 0) h hrun hp rfl (by simp only [RepF]; rw [e1]; exact .sl0 _ _)
    · rename_i h0
      have e4 := e4 h0
      subst e4
      split at hs
      · rename_i cs hcs
        split at hs
        · rename_i ds hds
          split at hs
          · rename_i hc
            simp only [Bool.and_eq_true, beq_iff_eq, List.all_eq_true, Bool.not_eq_true', Bool.or_eq_true, decide_eq_true_eq] at hc
            obtain ⟨⟨hlen, hag⟩, hsz⟩ := hc
            simp only [Option.some.injEq, Prod.mk.injEq] at hs
            obtain ⟨rfl, rfl⟩ := hs
            obtain ⟨g', v2, v3, v4⟩ := h.frz hcs
            obtain ⟨r1, r2⟩ := rowsD_ok (ag := ag) hlen hag hsz
            obtain ⟨o1, o2⟩ := optAll_get hds
            have cell : ∀ (j : Nat) (d : D), ds[j]? = some d → ∃ u, w.cell? ⟨g.bb id, lo + j, none⟩ = some u ∧ g'.stab (g.bb id) (lo + j) ∧ DRep g'.stab w d u := by
              intro j d hj
              have hj' := o2 j d hj
              rw [List.getElem?_map, Option.map_eq_some_iff] at hj'
              obtain ⟨q, hq, hqd⟩ := hj'
              rw [List.getElem?_take] at hq
              split at hq
              · rw [List.getElem?_drop] at hq
                exact v4 _ q d hq hqd
              · simp at hq
            have hrow : DRep g'.stab w (.sl (rowsD sz ag len ds)) (.slice (some ⟨g.bb id, lo, none⟩) len cap) := by
              have key := DRep.sl (S := g'.stab) (w := w) (rowsD sz ag len ds) (g.bb id) lo sz cap (fun i j => (w.cell? ⟨g.bb id, lo + i * sz + j, none⟩).getD undef) (by omega)
                (fun y hy => by obtain ⟨i, hi⟩ := List.mem_iff_getElem?.1 hy; exact (r2 i y hi).1) (fun y hy => by obtain ⟨i, hi⟩ := List.mem_iff_getElem?.1 hy; exact (r2 i y hi).2.1)
                (fun i y j c hi hj => by
                  obtain ⟨q, q1, q2, q3⟩ := cell _ _ ((r2 i y hi).2.2 j c hj)
                  rw [← Nat.add_assoc] at q1 q2
                  rw [q1]
                  exact ⟨rfl, q2⟩)
                (fun i y j c hi hj => by
                  obtain ⟨q, q1, q2, q3⟩ := cell _ _ ((r2 i y hi).2.2 j c hj)
                  rw [← Nat.add_assoc] at q1
                  simp only [q1, Option.getD_some]
                  exact q3)
              rw [r1] at key
              exact key
            exact ⟨_, _, g', w, hrun, .inl rfl, v3.put (l := .ret 0) hp rfl (by simp only [RepF]; rw [e1]; exact hrow), v2⟩
          · simp at hs
        · simp at hs
      · simp at hs
  · rw [Option.map_eq_some_iff] at hs
    obtain ⟨q, hq, he⟩ := hs
    simp only [Prod.mk.injEq] at he
    obtain ⟨rfl, rfl⟩ := he
    obtain ⟨k1, k2⟩ := x_cp h hx hq
    exact OpRes.value (l := .ret 0) h hrun hp k1 (k2 _)

theorem Chg.append0 {l : Loc} {v v' : Value} {w' : World} (hk : ∀ b, v.ownBlock = some b → g.κ b = some l ∧ g.tip b = 0)
    (hcase : (∃ b, v.ownBlock = some b ∧ v'.ownBlock = some b ∧ w.grownBy w' (some b)) ∨ (v'.ownBlock = some w.heap.size ∧ ∀ k, k < w.heap.size → w'.heap[k]? = w.heap[k]?) ∧ w.heap.size ≤ w'.heap.size ∧ w'.os = w.os ∧ w'.tape = w.tape ∧ w'.output = w.output) :
    ∃ b', v'.ownBlock = some b' ∧ Chg (fun x => x = l) g w (g.box b') w' := by
  rcases hcase with ⟨b, e1, e2, hg⟩ | ⟨⟨e2, hheap⟩, hsize, hos, htape, hout⟩
  · refine ⟨b, e2, hg.os, hg.tape, hg.output, hg.size, ?_, ?_, ?_, Nat.le_succ _, fun id hid => by simp [G.box, Nat.ne_of_lt hid]⟩
    · intro b1 i u hc hs
      obtain ⟨k1, k2⟩ := hk b e1
      have hlt : b1 < w.heap.size := World.block_lt_of_cell? w _ hc
      by_cases eb : b1 = b
      · subst eb
        exfalso
        rcases hs with hs | hs
        · rw [k1] at hs; simp at hs
        · omega
      · refine ⟨?_, by simpa [G.stab, G.box, eb] using hs⟩
        have := hg.block b1 hlt (by simpa using eb)
        simp only [World.cell?, this]
        exact hc
    · intro b1 l1 hlt hl1 hne
      obtain ⟨k1, k2⟩ := hk b e1
      have eb : b1 ≠ b := fun eb => by subst eb; rw [k1] at hl1; injection hl1 with hl1; exact hne hl1.symm
      exact ⟨by simpa [G.box, eb] using hl1, by simp [G.box, eb], hg.block b1 hlt (by simpa using eb)⟩
    · intro b1 hlt hl1
      obtain ⟨k1, k2⟩ := hk b e1
      have eb : b1 ≠ b := fun eb => by subst eb; rw [k1] at hl1; simp at hl1
      exact ⟨by simpa [G.box, eb] using hl1, hg.block b1 hlt (by simpa using eb)⟩
  · refine ⟨_, e2, hos, htape, hout, hsize, ?_, ?_, ?_, Nat.le_succ _, fun id hid => by simp [G.box, Nat.ne_of_lt hid]⟩
    · intro b1 i u hc hs
      have hlt : b1 < w.heap.size := World.block_lt_of_cell? w _ hc
      refine ⟨?_, by simpa [G.stab, G.box, Nat.ne_of_lt hlt] using hs⟩
      simp only [World.cell?, hheap b1 hlt]
      exact hc
    · intro b1 l1 hlt hl1 hne
      exact ⟨by simpa [G.box, Nat.ne_of_lt hlt] using hl1, by simp [G.box, Nat.ne_of_lt hlt], hheap b1 hlt⟩
    · intro b1 hlt hl1
      exact ⟨by simpa [G.box, Nat.ne_of_lt hlt] using hl1, hheap b1 hlt⟩

theorem flatMap_get {sz : Nat} : ∀ {ys : List D}, (∀ y ∈ ys, y.width = sz) → ∀ (k : Nat) (c : D), (ys.flatMap D.cells)[k]? = some c → ∃ (i j : Nat) (x : D), k = i * sz + j ∧ ys[i]? = some x ∧ x.cells[j]? = some c
  | [], _, k, c, h => by simp at h
  | y :: ys, hw, k, c, h => by
    have hy : y.cells.length = sz := hw y (by simp)
    rw [List.flatMap_cons] at h
    by_cases hk : k < y.cells.length
    · rw [List.getElem?_append_left hk] at h
      exact ⟨0, k, y, by simp, rfl, h⟩
    · rw [List.getElem?_append_right (by omega)] at h
      obtain ⟨i, j, x, e1, e2, e3⟩ := flatMap_get (fun z hz => hw z (by simp [hz])) _ c h
      exact ⟨i + 1, j, x, by rw [Nat.succ_mul]; omega, e2, e3⟩

theorem flatMap_len {sz : Nat} : ∀ {ys : List D}, (∀ y ∈ ys, y.width = sz) → (ys.flatMap D.cells).length = ys.length * sz
  | [], _ => by simp
  | y :: ys, hw => by
    have hy : y.cells.length = sz := hw y (by simp)
    rw [List.flatMap_cons, List.length_append, flatMap_len (fun z hz => hw z (by simp [hz])), hy, List.length_cons, Nat.succ_mul, Nat.add_comm]

theorem HeapInv.push {g' : G} {w' : World} {M : Loc → Prop} {hp : List Ent} (h : HeapInv P g w hp) (hc : Chg M g w g' w') (hM : ∀ id, ¬ M (.bx id) ∧ ∀ j, ¬ M (.cell id j)) (hn : g'.nb = g.nb + 1) {en : Ent} (he : EntRep P g' w' hp.length en) (hen0 : ∀ cs, en = .box cs → ∀ p ∈ cs, p.isBn = false) : HeapInv P g' w' (hp ++ [en]) := by
  have hnb := h.nb
  refine ⟨by simp [hn, hnb], ?_, ?_⟩
  rotate_left
  · intro i cs2 hi
    by_cases hid : i < hp.length
    · rw [List.getElem?_append_left hid] at hi
      obtain ⟨c0, e0, z0, hz, k1, _, k3, _⟩ := h.ent i _ hi
      rw [hc.bb i (by rw [hnb]; exact hid)]
      exact LiesAll.of (h.lies i cs2 hi) (fun e' n hs' => shape_of_block (hc.own _ _ (lt_of_heap k3) k1 (hM i).1).2.2 hs') (fun _ _ h => h)
    · rw [List.getElem?_append_right (by omega)] at hi
      have hlt := (List.getElem?_eq_some_iff.1 hi).1
      simp at hlt
      have hid' : i = hp.length := by omega
      subst hid'
      simp at hi
      exact LiesAll.none (hen0 cs2 hi)
  intro id e hen
  by_cases hid : id < hp.length
  · rw [List.getElem?_append_left hid] at hen
    exact (h.ent id e hen).mono hc (by rw [hnb]; exact hid) (hM id)
  · rw [List.getElem?_append_right (by omega)] at hen
    have hlt := (List.getElem?_eq_some_iff.1 hen).1
    simp at hlt
    have hid' : id = hp.length := by omega
    subst hid'
    simp at hen
    subst hen
    exact he

theorem rowEnt_bn (ys : List D) : ∀ cs, rowEnt ys = .box cs → ∀ p ∈ cs, p.isBn = false := by
  intro cs h p hp
  unfold rowEnt at h
  split at h
  · cases h
  · simp only [Ent.box.injEq] at h
    subst h
    unfold flatD at hp
    rw [List.mem_map] at hp
    obtain ⟨x, _, rfl⟩ := hp
    rfl

theorem flatD_len {sz : Nat} {ys : List D} (hw : ∀ y ∈ ys, y.width = sz) : (flatD ys).length = ys.length * sz := by
  unfold flatD; rw [List.length_map, flatMap_len hw]

theorem EntRep.row {z : Nat × Nat} {g' : G} {w' : World} {id e sz cap : Nat} {ys : List D} {news : List Value} {cur : Array Value} (hk : g'.κ (g'.bb id) = some (.bx id)) (ht : g'.tip (g'.bb id) = 0)
    (hb : w'.heap[g'.bb id]? = some (.cells cur e z)) (hfz : FrzOk cur z) (hc : cur.size = cap * sz) (hn : ys.length ≤ cap) (htk : cur.toList.take (ys.length * sz) = news) (hf : Flat g'.stab w' sz ys news) (hne : ys ≠ []) : EntRep P g' w' id (rowEnt ys) := by
  have e1 : rowEnt ys = .box (flatD ys) := by unfold rowEnt; cases ys with | nil => exact absurd rfl hne | cons _ _ => rfl
  rw [e1]
  refine ⟨cur, e, z, hfz, hk, ht, hb, ?_, ?_⟩
  · rw [flatD_len hf.wid, hc]; exact Nat.mul_le_mul_right _ hn
  · intro k p hkp
    unfold flatD at hkp
    rw [List.getElem?_map, Option.map_eq_some_iff] at hkp
    obtain ⟨c, hc1, rfl⟩ := hkp
    obtain ⟨i, j, x, rfl, h2, h3⟩ := flatMap_get hf.wid k c hc1
    obtain ⟨u, h4, h5⟩ := hf.rep i x j c h2 h3
    have h6 := getElem?_of_take htk h4
    exact ⟨u, by simpa using h6, h5.oneCell (hf.one x (List.mem_of_getElem? h2) c (List.mem_of_getElem? h3)), by simp only [RepF]; exact h5⟩

theorem op_apr {o : Oper} {t : TypeId} {e sz bytes : Nat} {x y : Operand} {x' y' : X} {p : PV} {s1 : St} (h : Inv P g w a s) (ho : o.op = .call { callee := .builtin .append, args := #[x, y], argTypes := #[t, t] }) (hk : appOk P t e sz bytes = true)
    (hx : xOk x x' = true) (hy : xOk y y' = true) (ha : aprOp s e sz bytes x' y' = some (p, s1)) (hp : s1.put o.dst p = some s') : OpRes P g w a o s' := by
  obtain ⟨i, z, hok⟩ := appOk_ok hk
  have hcells := hok.cells
  have exec : ∀ v w', (Builtin.append_ #[t, t] o.type #[a.eval x, a.eval y]).run P w = .ok v w' → (execOp a.eval o).run P w = .ok (.value v) w' := by
    intro v w' hr
    unfold execOp
    simp only [ho, resolve, invoke, builtin, Sem.run_bind, Sem.run_pure, Result.andThen_ok, List.map_toArray, List.map_cons, List.map_nil, hr]
  unfold aprOp at ha
  split at ha
  · rename_i ys hys
    have ry := x_toD h hy hys
    obtain ⟨ay, cy, ey, _⟩ := ry.sl_inv
    rw [ey] at ry
    split at ha
    · rename_i n e' hn
      split at ha
      · rename_i he
        subst he
        split at ha
        · rename_i hro
          obtain ⟨hb, hwid⟩ := rowOk_ok hro
          simp only [Option.some.injEq, Prod.mk.injEq] at ha
          obtain ⟨rfl, rfl⟩ := ha
          have hxn : x = .tmp n := by
            cases x <;> simp [xOk] at hx
            subst hx
            rfl
          subst hxn
          obtain ⟨k1, k2⟩ := h.slot' (t := n) hn (by simp)
          have hlt : n < s.tm.length := (List.getElem?_eq_some_iff.1 k1).1
          have hown : RepF P g w (.tm n 0) (.own e' []) (a.eval (.tmp n)) := k2
          have h0 : Inv P g w a { s with tm := s.tm.set n .dead } := h.kill (fun cs hc => by rw [k1] at hc; simp at hc)
          have hnb := h.heap.nb
          simp only [RepF] at hown
          obtain ⟨us, q1, q2, q3⟩ := hown
          rw [hcells] at q1 q2 q3
          have hus : us = [] := List.eq_nil_of_length_eq_zero (by have := q1.1; simpa using this)
          subst hus
          have idle : ∀ (u : Nat) (q : PV) (j : Nat), (s.tm.set n .dead)[u]? = some q → q ≠ .dead → ¬ Loc.tm u j = .tm n 0 := by
            intro u q j hu hq he
            injection he with he1 he2
            subst he1
            rw [List.getElem?_set_self hlt] at hu
            simp only [Option.some.injEq] at hu
            exact hq hu.symm
          by_cases hnil : ys = []
          · subst hnil
            have hrun : (Builtin.append_ #[t, t] o.type #[a.eval (.tmp n), a.eval y]).run P w = .ok (a.eval (.tmp n)) w := by
              rw [ey]
              rcases q1.2 with ⟨hv, _⟩ | ⟨b, cap, cur, hv, _, _, hle, _⟩
              · rw [hv]; exact run_append_zero hok o.type none ay 0 0 cy (Nat.le_refl _)
              · rw [hv]; exact run_append_zero hok o.type _ ay _ cap cy hle
            have hch : ∀ M, Chg M g w { g with nb := g.nb + 1 } w := fun M => ⟨rfl, rfl, rfl, Nat.le_refl _, fun _ _ _ h k => ⟨h, k⟩, fun _ _ _ h _ => ⟨h, rfl, rfl⟩, fun _ _ h => ⟨h, rfl⟩, Nat.le_succ _, fun _ _ => rfl⟩
            have hI : Inv P { g with nb := g.nb + 1 } w a ⟨s.tm.set n .dead, s.hp ++ [rowEnt []]⟩ :=
              ⟨h0.size, fun t p ht => (h0.slot t p ht).mono (hch (fun _ => False)) (fun _ hf => hf) (fun t' cs ht' => ⟨⟨cs, ht'⟩, rfl⟩), h.heap.push (hch (fun _ => False)) (fun _ => ⟨fun hf => hf, fun _ hf => hf⟩) rfl (en := rowEnt []) trivial (rowEnt_bn [])⟩
            refine ⟨_, _, _, w, exec _ _ hrun, .inl rfl, hI.put (l := .ret 0) hp rfl ?_, hch _⟩
            simp only [RepF]
            rcases q1.2 with ⟨hv, _⟩ | ⟨b, cap, cur, hv, _, _, hle, _⟩
            · exact ⟨by rw [hnb]; exact Nat.lt_succ_self _, none, 0, hv, Nat.le_refl _, fun hf => absurd rfl hf⟩
            · exact ⟨by rw [hnb]; exact Nat.lt_succ_self _, _, cap, hv, hle, fun hf => absurd rfl hf⟩
          · obtain ⟨_, b, off, news, rfl, n1, n2, n3⟩ := ry.flat hnil hwid
            have hpos : 0 < ys.length := List.length_pos_iff.2 hnil
            obtain ⟨v', w', r1, r2, r3⟩ := run_append_any (P := P) hok o.type (c := cy) q1 ⟨b, off, none⟩ n1 (fun j u hj => by rw [Addr.add_lit]; exact (n2 j u hj).1) n3.oneCell hpos (by simpa using hb)
            obtain ⟨b', e1, hch⟩ := Chg.append0 (g := g) (l := .tm n 0) (fun b hb => ⟨(q3 b hb).1, by have := (q3 b hb).2; simpa using this⟩) r3
            simp only [List.nil_append] at r2
            rcases r2.2 with ⟨hv, hz⟩ | ⟨b2, cap, cur, rfl, _, u1, u2, u3, u4, u5⟩
            · simp only [List.length_nil] at hz; omega
            · have hbb : b2 = b' := by simpa [Value.ownBlock] using e1
              subst hbb
              simp only [List.length_nil, Nat.zero_add] at u2 u5
              have hE : EntRep P (g.box b2) w' s.hp.length (rowEnt ys) := EntRep.row (cap := cap) (sz := sz) (e := e') (cur := cur) (news := news) (by simp [G.box, hnb]) (by simp [G.box, hnb]) (by simp only [G.box, hnb, if_true]; exact u1) (.inl rfl) u4 u2 u5 (n3.mono hch.stab) hnil
              have hI : Inv P (g.box b2) w' a ⟨s.tm.set n .dead, s.hp ++ [rowEnt ys]⟩ := by
                refine ⟨h0.size, fun t p ht => ?_, h.heap.push hch (fun _ => ⟨fun hf => (by cases hf), fun _ hf => (by cases hf)⟩) rfl hE (rowEnt_bn ys)⟩
                by_cases ed : p = .dead
                · subst ed; exact RepS.dead'
                · exact (h0.slot t p ht).mono hch (fun j => idle t p j ht ed) (fun t' cs ht' => ⟨⟨cs, ht'⟩, rfl⟩)
              refine ⟨_, _, _, w', exec _ _ (by rw [ey]; exact r1), .inl rfl, hI.put (l := .ret 0) hp rfl ?_, hch.mono (mine_of_eq (mine_tm n 0))⟩
              simp only [RepF, List.length_nil, Nat.zero_add]
              exact ⟨by simp [G.box, hnb], _, _, rfl, u2, fun _ => by simp [G.box, hnb]⟩
        · simp at ha
      · simp at ha
    · simp at ha
  · simp at ha
end
end Go.Pe

namespace Go.Pe
section
variable {P : Program} {g : G} {w : World} {a : Act} {s s' : St} {S : Nat → Nat → Prop}

def clrOk (P : Program) (t : TypeId) (zs : List D) : Bool :=
  match P.underlying t with
  | some (.slice e) => (match P.info? e with | some i => (match i.zero with | some z => constDs z.cells.toList zs | none => false) | none => false)
  | _ => false

theorem zero_rep {z : Value} {zs : List D} (hk : constDs z.cells.toList zs = true) (S : Nat → Nat → Prop) (w : World) (n : Nat) :
    DRep S w (.agg (zeroDs zs n)) (.agg (Builtin.zeroCells z.cells n)) ∧ (zeroDs zs n).length = n * zs.length ∧ ∀ u ∈ (Builtin.zeroCells z.cells n).toList, u.oneCell' = true := by
  obtain ⟨h1, h2, h3⟩ := constDs_ok hk S w
  have hsz : z.cells.size = zs.length := by rw [← h1]; simp
  have get : ∀ (j : Nat) (c : D), (zeroDs zs n)[j]? = some c → 0 < zs.length ∧ zs[j % zs.length]? = some c := by
    intro j c hj
    simp only [zeroDs, List.getElem?_map, Option.map_eq_some_iff] at hj
    obtain ⟨i, hi, rfl⟩ := hj
    obtain ⟨hlt, he⟩ := List.getElem?_eq_some_iff.1 hi
    simp only [List.length_range] at hlt
    simp only [List.getElem_range] at he
    subst he
    have hp : 0 < zs.length := Nat.pos_of_ne_zero fun e0 => by rw [e0] at hlt; simp at hlt
    refine ⟨hp, ?_⟩
    have hm := Nat.mod_lt j hp
    rw [List.getElem?_eq_getElem hm, List.getD_eq_getElem?_getD, List.getElem?_eq_getElem hm]
    rfl
  have rep : ∀ (j : Nat) (c : D) (v : Value), (zeroDs zs n)[j]? = some c → (Builtin.zeroCells z.cells n)[j]? = some v → DRep S w c v := by
    intro j c v hj hv
    obtain ⟨hp, g1⟩ := get j c hj
    simp only [Builtin.zeroCells, Array.getElem?_map, Option.map_eq_some_iff] at hv
    obtain ⟨i, hi, rfl⟩ := hv
    have he : i = j := by
      obtain ⟨hlt, he⟩ := Array.getElem?_eq_some_iff.1 hi
      simpa using he.symm
    subst he
    refine h3 _ _ _ g1 ?_
    have hm : i % zs.length < z.cells.size := by rw [hsz]; exact Nat.mod_lt i hp
    rw [hsz, Array.getElem!_eq_getD, Array.getD_eq_getD_getElem?, Array.getElem?_eq_getElem hm]
    simp
  have hlen : (zeroDs zs n).length = n * zs.length := by simp [zeroDs]
  have hsize : (Builtin.zeroCells z.cells n).size = n * zs.length := by simp [Builtin.zeroCells, hsz]
  have hag : ∀ c ∈ zeroDs zs n, c.isAgg = false := by
    intro c hc
    obtain ⟨j, hj⟩ := List.mem_iff_getElem?.1 hc
    exact h2 c (List.mem_of_getElem? (get j c hj).2)
  refine ⟨.agg _ _ (by rw [hsize, hlen]) hag rep, hlen, ?_⟩
  intro u hu
  obtain ⟨j, hj⟩ := List.mem_iff_getElem?.1 hu
  have hj' : (Builtin.zeroCells z.cells n)[j]? = some u := by simpa using hj
  have hlt : j < (zeroDs zs n).length := by rw [hlen, ← hsize]; exact (Array.getElem?_eq_some_iff.1 hj').1
  exact (rep j _ u (List.getElem?_eq_getElem hlt) hj').oneCell (hag _ (List.getElem_mem hlt))

theorem op_clr {o : Oper} {t : TypeId} {zs : List D} {x : Operand} {x' : X} (h : Inv P g w a s) (ho : o.op = .call { callee := .builtin .clear, args := #[x], argTypes := #[t] }) (hk : clrOk P t zs = true)
    (hx : xOk x x' = true) (hs : clrOp s zs x' = some s') (hd : o.dst = none) : OpRes P g w a o s' := by
  unfold clrOp at hs
  split at hs
  · rename_i id lo len hv
    obtain ⟨_, k2⟩ := x_cp h hx (q := .rowh id lo len) (by rw [hv]; rfl)
    have k3 := k2 (.ret 0)
    simp only [RepF] at k3
    obtain ⟨kid, ad, cap, e1, e2, e4⟩ := k3
    unfold clrOk at hk
    split at hk
    · rename_i el hu
      split at hk
      · rename_i i hi
        split at hk
        · rename_i z hz
          have exec : ∀ w', (Builtin.clear_ #[t] o.type #[a.eval x]).run P w = .ok (.tuple #[]) w' → (execOp a.eval o).run P w = .ok (.value (.tuple #[])) w' := by
            intro w' hr
            unfold execOp
            simp only [ho, resolve, invoke, builtin, Sem.run_bind, Sem.run_pure, Result.andThen_ok, List.map_toArray, List.map_cons, List.map_nil, hr]
          split at hs
          · rename_i h0
            simp only [Option.some.injEq] at hs
            subst hs
            subst h0
            refine ⟨_, _, g, w, exec w ?_, .inl rfl, by rw [hd]; exact h, Chg.refl _ _ _⟩
            rw [e1]
            cases ad <;> simp [Builtin.clear_, run_underlying hu]
          · rename_i h0
            have e4 := e4 h0
            subst e4
            split at hs
            · rename_i cs hn
              rw [Option.map_eq_some_iff] at hs
              obtain ⟨cs', hcs, rfl⟩ := hs
              obtain ⟨c, e, zz, hfz, q2, q3, q4, q5⟩ := h.heap.ent id _ hn
              obtain ⟨z1, z2, z3⟩ := zero_rep hk g.stab w len
              have hset : ∀ c', Chg (fun l => l = .bx id) g w g (w.setRow (g.bb id) c') := fun c' => Chg.setRow q4 q2 rfl q3
              rw [← z2] at hcs
              obtain ⟨r1, r2⟩ := q5.store hcs (val := .agg (Builtin.zeroCells z.cells len)) (hset (c.toList.take lo ++ (Value.agg (Builtin.zeroCells z.cells len)).cells.toList ++ c.toList.drop (lo + (Value.agg (Builtin.zeroCells z.cells len)).cells.toList.length)).toArray)
                (fun j _ hm => by cases hm) (.inl ⟨_, rfl, rfl, z1.mono (hset _).stab⟩)
              have hrun := run_store_row (P := P) (vs := (Builtin.zeroCells z.cells len).toList) q4 hfz (by simpa [Value.cells] using r1) z3
              refine ⟨_, _, g, w.setRow (g.bb id) ((c.toList.take lo ++ (Value.agg (Builtin.zeroCells z.cells len)).cells.toList ++ c.toList.drop (lo + (Value.agg (Builtin.zeroCells z.cells len)).cells.toList.length)).toArray), exec _ ?_, .inl rfl, ?_, (hset _).mono ?_⟩
              · rw [e1]
                have hlen : ∃ m, len = m + 1 := ⟨len - 1, by omega⟩
                obtain ⟨m, rfl⟩ := hlen
                simp [Builtin.clear_, run_underlying hu, zeroValue, typeInfo, hi, hz, hrun]
                rfl
              · rw [hd]
                exact h.set_heap (N := fun _ => False) ⟨fun _ _ _ _ _ hf => hf, fun _ => ⟨fun hf => hf, fun _ hf => hf⟩⟩ hn ((hset _).mono fun l hl => .inr (.inl hl)) rfl q2 q3 (setRow_heap w _ c _ e _ q4) (by unfold FrzOk at *; rw [store_size (by simpa [Value.cells] using r1)]; exact hfz) r2 (storeIn_bn hcs) (shape_setRow q4 (store_size (by simpa using r1)))
              · intro l hl
                subst hl
                exact mine_bx id
            · simp at hs
        · simp at hk
      · simp at hk
    · simp at hk
  · simp at hs
end
end Go.Pe

namespace Go.Pe
section
variable {P : Program} {g : G} {w : World} {a : Act} {s s' : St} {S : Nat → Nat → Prop}

def mksOk (P : Program) (t : TypeId) (zs : List D) (bytes : Nat) : Bool :=
  clrOk P t zs && (match P.underlying t with
  | some (.slice e) => (match P.info? e with | some i => i.bytes == bytes && decide (0 < bytes) && i.size == zs.length | none => false)
  | _ => false)

theorem op_mks {o : Oper} {t : TypeId} {zs : List D} {bytes : Nat} {x y : Operand} {x' y' : X} {v : PV} {s1 : St} (h : Inv P g w a s) (ho : o.op = .makeSlice t x y) (hk : mksOk P t zs bytes = true)
    (hx : xOk x x' = true) (hy : xOk y y' = true) (hs : mksOp s zs bytes x' y' = some (v, s1)) (hp : s1.put o.dst v = some s') : OpRes P g w a o s' := by
  unfold mksOp at hs
  split at hs
  · rename_i k n k2 m h1 h2
    split at hs
    · rename_i hc
      obtain ⟨c1, c2, c3⟩ := hc
      subst c2
      simp only [Option.some.injEq, Prod.mk.injEq] at hs
      obtain ⟨rfl, rfl⟩ := hs
      obtain ⟨n', rfl⟩ : ∃ n' : Nat, n = n' := ⟨n.toNat, by omega⟩
      have e1 := (x_toD h hx h1).int_inv
      have e2 := (x_toD h hy h2).int_inv
      unfold mksOk at hk
      simp only [Bool.and_eq_true] at hk
      obtain ⟨hk1, hk2⟩ := hk
      unfold clrOk at hk1
      split at hk2
      · rename_i e hu
        rw [hu] at hk1
        simp only at hk1
        split at hk2
        · rename_i i hi
          rw [hi] at hk1
          simp only at hk1
          simp only [Bool.and_eq_true, beq_iff_eq, decide_eq_true_eq] at hk2
          obtain ⟨⟨b1, b2⟩, b3⟩ := hk2
          split at hk1
          · rename_i z hz
            obtain ⟨z1, z2, z3⟩ := zero_rep hk1 g.stab w n'
            have hzs : z.cells.size = zs.length := by
              have := (constDs_ok hk1 g.stab w).1
              simpa using this
            have hcs : (Builtin.zeroCells z.cells n').size = n' * zs.length := by simp [Builtin.zeroCells, hzs]
            rw [Int.toNat_natCast] at hp
            have hwr : IntKind.i64.wrap (n' : Int) = n' := by
              have e1 : (2 : Int) ^ 64 = 18446744073709551616 := by decide
              have e2 : (2 : Int) ^ (64 - 1) = 9223372036854775808 := by decide
              have hb : (n' : Int) * 1 ≤ (n' : Int) * (bytes : Int) := Int.mul_le_mul_of_nonneg_left (by omega) (by omega)
              simp only [IntKind.wrap, IntKind.bits, IntKind.signed, Bool.true_and, ge_iff_le, decide_eq_true_eq]
              rw [e1, e2]
              split <;> omega
            have hn' : n' * bytes ≤ 140737488355328 := by
              have : ((n' * bytes : Nat) : Int) ≤ 140737488355328 := by rw [Int.natCast_mul]; exact c3
              omega
            have hrun : (execOp a.eval o).run P w = .ok (.value (.slice (some ⟨w.heap.size, 0, none⟩) n' n')) (w.alloc (.cells (Builtin.zeroCells z.cells n') e)) := by
              have htl : (decide ((n' : Int) < 0) || decide ((bytes : Int) * (n' : Int) > 2 ^ 48)) = false := by
                have e3 : (2 : Int) ^ 48 = 281474976710656 := by decide
                rw [e3, Int.mul_comm]
                simp
                omega
              have hroom : ¬ (n' * bytes > roomBytes) := by unfold roomBytes; omega
              have hcells : (Array.range (n' * i.size)).map ((if n' * i.size = 0 then #[] else z.cells)[· % (if n' * i.size = 0 then #[] else z.cells : Array Value).size]!) = Builtin.zeroCells z.cells n' := by
                by_cases h0 : n' * i.size = 0
                · have : (Builtin.zeroCells z.cells n') = #[] := by
                    apply Array.eq_empty_of_size_eq_zero
                    rw [hcs, ← b3, h0]
                  rw [this, h0]
                  simp
                · rw [if_neg h0]
                  unfold Builtin.zeroCells
                  rw [hzs, b3]
              unfold execOp
              simp only [ho, Instr.makeSlice, Sem.run_bind, run_underlying hu, Result.andThen_ok, e1, e2, asInt, asIntOf, Sem.run_pure, typeInfo, run_program, hi, hwr, b1]
              have ht2 : ((decide ((n' : Int) < 0) || decide ((bytes : Int) * (n' : Int) > 2 ^ 48) || decide ((n' : Int) < 0) || decide ((n' : Int) > (n' : Int))) = true) = False := by
                rw [htl]
                simp
              simp only [Bool.or_eq_true, decide_eq_true_eq] at ht2 htl ⊢
              rw [if_neg (by
                intro hc
                have : ¬ ((bytes : Int) * (n' : Int) > 2 ^ 48) := by
                  have e3 : (2 : Int) ^ 48 = 281474976710656 := by decide
                  rw [e3, Int.mul_comm]; omega
                rcases hc with (hc | hc) | hc
                · rcases hc with hc | hc
                  · omega
                  · exact this hc
                · omega
                · omega)]
              simp only [askRoom, Int.toNat_natCast, if_neg hroom, Sem.run_bind, Sem.run_pure, Result.andThen_ok, sizeOf, typeInfo, run_program, hi]
              by_cases h0 : n' * i.size = 0
              · rw [if_pos h0] at hcells ⊢
                simp only [Sem.run_bind, Sem.run_pure, Result.andThen_ok]
                rw [hcells]
                simp [newRow]
              · rw [if_neg h0] at hcells ⊢
                simp only [Sem.run_bind, Sem.run_pure, Result.andThen_ok, zeroValue, typeInfo, run_program, hi, hz]
                rw [hcells]
                simp [newRow]
            have hcells : ∀ (j : Nat) (p : PV), ((zeroDs zs n').map PV.d)[j]? = some p → ∃ u, (Builtin.zeroCells z.cells n')[j]? = some u ∧ u.oneCell' = true ∧ p.plain = true ∧ RepF P g w (.ret 0) p u := by
              intro j p hj
              rw [List.getElem?_map, Option.map_eq_some_iff] at hj
              obtain ⟨d, hd, rfl⟩ := hj
              have hlt : j < (Builtin.zeroCells z.cells n').size := by
                have := (List.getElem?_eq_some_iff.1 hd).1
                rw [hcs, ← z2]; exact this
              have hget : (Builtin.zeroCells z.cells n')[j]? = some (Builtin.zeroCells z.cells n')[j] := Array.getElem?_eq_getElem hlt
              refine ⟨_, hget, z3 _ (by simp), rfl, ?_⟩
              obtain ⟨vs, q1, q2, q3, q4⟩ := z1.agg_inv
              injection q1 with q1
              subst q1
              simp only [RepF]
              exact q4 j d _ hd hget
            obtain ⟨k1, k2⟩ := h.heap_box (dst := none) (e := e) (c := Builtin.zeroCells z.cells n') (cs := (zeroDs zs n').map PV.d) hcells (by rw [hcs, List.length_map, z2]) (fun j u hj => by rw [List.getElem?_map, Option.map_eq_some_iff] at hj; obtain ⟨c, _, hc⟩ := hj; cases hc) rfl
            have hnb := h.heap.nb
            refine ⟨_, _, _, _, hrun, .inl rfl, k1.put (l := .ret 0) hp rfl ?_, k2⟩
            simp only [RepF]
            refine ⟨by simp [G.box, hnb], some ⟨w.heap.size, 0, none⟩, n', rfl, Nat.le_refl _, fun _ => ?_⟩
            simp [G.box, hnb]
          · simp at hk1
        · simp at hk2
      · simp at hk2
    · simp at hs
  · simp at hs

def tasOk (P : Program) (t : TypeId) (z : D) : Bool :=
  (match P.underlying t with | some (.interface _) => false | some _ => true | none => false) && (match P.info? t with | some i => (match i.zero with | some v => constOk v (.d z) | none => false) | none => false)

theorem op_tas {o : Oper} {xt t : TypeId} {z d : D} {x : Operand} {x' : X} {v : PV} (h : Inv P g w a s) (ho : o.op = .typeAssert x xt t true) (hk : tasOk P t z = true) (hx : xOk x x' = true) (hd : (s.x x').toD = some d) (hv : tasD t z d = some v)
    {dd : Nat} (hdst : o.dst = some dd) (hp : s.put o.dst v = some s') : OpRes P g w a o s' := by
  unfold tasOk at hk
  simp only [Bool.and_eq_true] at hk
  obtain ⟨hk1, hk2⟩ := hk
  split at hk2
  · rename_i i hi
    split at hk2
    · rename_i zv hz
      have hzr : DRep g.stab w z zv := by
        have := (x_cp h (x := .const zv) (y := .c (.d z)) hk2 (q := .d z) rfl).2 (.ret 0)
        simp only [RepF] at this
        exact this
      have hzero : (zeroValue t).run P w = .ok zv w := by simp [zeroValue, typeInfo, hi, hz]
      have r1 := x_toD h hx hd
      have fin : ∀ (y : D) (u : Value) (b : Bool), DRep g.stab w y u → v = .tup [.d y, .d (.bool b)] → (execOp a.eval o).run P w = .ok (.value (.tuple #[u, .bool b])) w → OpRes P g w a o s' := by
        intro y u b hy hv hr
        subst hv
        rw [hdst] at hp
        refine ⟨_, .tuple #[u, .bool b], g, w, hr, .inl rfl, ?_, Chg.refl _ _ _⟩
        rw [hdst]
        refine h.put_chg (Chg.refl (fun _ => False) g w) (fun _ _ _ hf => hf) h.heap hp ?_
        intro ts va
        refine ⟨[u, .bool b], rfl, rfl, fun j p x hj hx => ?_⟩
        match j with
        | 0 => simp at hj hx; subst hj hx; simp only [RepF]; exact hy
        | 1 => simp at hj hx; subst hj hx; simp only [RepF]; exact .bool _
        | j + 2 => simp at hj
      generalize hav : a.eval x = av at r1
      cases r1 with
      | ifc t' y u hu =>
        simp only [tasD, Option.some.injEq] at hv
        by_cases e : t' = t
        · subst e
          rw [if_pos rfl] at hv
          refine fin y u true hu hv.symm ?_
          unfold execOp
          simp only [ho, Instr.typeAssert, Sem.run_bind, hav]
          split at hk1
          · simp at hk1
          · rename_i q hq1 hq
            rw [run_underlying hq]
            simp only [Result.andThen_ok]
            cases q <;> first | (exact absurd rfl (hq1 _)) | (simp; done) | simp
          · simp at hk1
        · rw [if_neg e] at hv
          refine fin z zv false hzr hv.symm ?_
          unfold execOp
          simp only [ho, Instr.typeAssert, Sem.run_bind, hav]
          split at hk1
          · simp at hk1
          · rename_i q hq1 hq
            rw [run_underlying hq]
            simp only [Result.andThen_ok]
            cases q <;> first | (exact absurd rfl (hq1 _)) | (simp [e, hzero]; done)
          · simp at hk1
      | nili =>
        simp only [tasD, Option.some.injEq] at hv
        refine fin z zv false hzr hv.symm ?_
        unfold execOp
        simp only [ho, Instr.typeAssert, Sem.run_bind, hav]
        split at hk1
        · simp at hk1
        · rename_i q hq1 hq
          rw [run_underlying hq]
          simp only [Result.andThen_ok]
          cases q <;> first | (exact absurd rfl (hq1 _)) | (simp [hzero]; done)
        · simp at hk1
      | _ => simp [tasD] at hv
    · simp at hk2
  · simp at hk2

def ifcT (P : Program) (t : TypeId) : Bool := match P.underlying t with | some (.interface _) => true | _ => false

theorem op_isn {o : Oper} {t rt : TypeId} {neg : Bool} {d r : D} {x : Operand} {x' : X} (h : Inv P g w a s) (ho : o.op = .binOp (if neg then .neq else .eql) t x (.const .nilIface) rt) (hk : ifcT P t = true) (hx : xOk x x' = true) (hd : (s.x x').toD = some d) (hv : isnD neg d = some r)
    (hp : s.put o.dst (.d r) = some s') : OpRes P g w a o s' := by
  unfold ifcT at hk
  split at hk
  · rename_i ms hu
    have r1 := x_toD h hx hd
    have e2 : a.eval (.const .nilIface) = .nilIface := rfl
    generalize hav : a.eval x = av at r1
    cases r1 with
    | ifc t' y u hu' =>
      simp only [isnD, Option.some.injEq] at hv
      subst hv
      refine OpRes.value (l := .ret 0) h (u := .bool neg) ?_ hp rfl (by simp only [RepF]; exact .bool _)
      have hq : ∀ op, (op = .eql ∨ op = .neq) → (eqGuard op t x (.const .nilIface) (.iface t' u) .nilIface).run P w = .ok () w := fun op hop => by
        unfold eqGuard; rcases hop with rfl | rfl <;> rfl
      have he : (Op.equal t (.iface t' u) .nilIface).run P w = .ok false w := by
        have : ∀ d : Nat, (Op.equalIn (d + 1) t (.iface t' u) .nilIface).run P w = .ok false w := fun d => by simp [Op.equalIn, run_underlying hu]
        simp [Op.equal, Op.maxDepth, this 9999]
      unfold execOp
      cases neg with
      | true => simp only [ho, if_true, hav, e2, Sem.run_bind, hq .neq (.inr rfl), Result.andThen_ok, binOp, he, Sem.run_pure]; rfl
      | false => simp only [ho, Bool.false_eq_true, if_false, hav, e2, Sem.run_bind, hq .eql (.inl rfl), Result.andThen_ok, binOp, he, Sem.run_pure]
    | nili =>
      simp only [isnD, Option.some.injEq] at hv
      subst hv
      refine OpRes.value (l := .ret 0) h (u := .bool !neg) ?_ hp rfl (by simp only [RepF]; exact .bool _)
      have hq : ∀ op, (op = .eql ∨ op = .neq) → (eqGuard op t x (.const .nilIface) .nilIface .nilIface).run P w = .ok () w := fun op hop => by
        unfold eqGuard; rcases hop with rfl | rfl <;> simp
      have he : (Op.equal t .nilIface .nilIface).run P w = .ok true w := by
        have : ∀ d : Nat, (Op.equalIn (d + 1) t .nilIface .nilIface).run P w = .ok true w := fun d => by simp [Op.equalIn, run_underlying hu]
        simp [Op.equal, Op.maxDepth, this 9999]
      unfold execOp
      cases neg with
      | true => simp only [ho, if_true, hav, e2, Sem.run_bind, hq .neq (.inr rfl), Result.andThen_ok, binOp, he, Sem.run_pure]
      | false => simp only [ho, Bool.false_eq_true, if_false, hav, e2, Sem.run_bind, hq .eql (.inl rfl), Result.andThen_ok, binOp, he, Sem.run_pure]; rfl
    | _ => simp [isnD] at hv
  · simp at hk
def ptrT (P : Program) (t : TypeId) : Bool :=
  match P.underlying t with
  | some (.pointer _) => true
  | _ => false
theorem op_isp {o : Oper} {t rt : TypeId} {neg : Bool} {r : PV} {x : Operand} {x' : X} (h : Inv P g w a s) (ho : o.op = .binOp (if neg then .neq else .eql) t x (.const (.pointer none)) rt) (hk : ptrT P t = true) (hx : xOk x x' = true) (hv : ispV neg (s.x x') = some r)
    (hp : s.put o.dst r = some s') : OpRes P g w a o s' := by
  unfold ptrT at hk
  split at hk
  · rename_i el hu
    have e2 : a.eval (.const (.pointer none)) = .pointer none := rfl
    have some_ : ∀ ad, a.eval x = .pointer (some ad) → r = .d (.bool neg) → OpRes P g w a o s' := by
      rintro ad hav rfl
      refine OpRes.value (l := .ret 0) h (u := .bool neg) ?_ hp rfl (by simp only [RepF]; exact .bool _)
      have hq : ∀ op, (op = .eql ∨ op = .neq) → (eqGuard op t x (.const (.pointer none)) (.pointer (some ad)) (.pointer none)).run P w = .ok () w := fun op hop => by
        unfold eqGuard; rcases hop with rfl | rfl <;> rfl
      have he : (Op.equal t (.pointer (some ad)) (.pointer none)).run P w = .ok false w := by
        have : ∀ d : Nat, (Op.equalIn (d + 1) t (.pointer (some ad)) (.pointer none)).run P w = .ok false w := fun d => by simp [Op.equalIn, run_underlying hu]
        simp [Op.equal, Op.maxDepth, this 9999]
      unfold execOp
      cases neg with
      | true => simp only [ho, if_true, hav, e2, Sem.run_bind, hq .neq (.inr rfl), Result.andThen_ok, binOp, he, Sem.run_pure]; rfl
      | false => simp only [ho, Bool.false_eq_true, if_false, hav, e2, Sem.run_bind, hq .eql (.inl rfl), Result.andThen_ok, binOp, he, Sem.run_pure]
    have none_ : a.eval x = .pointer none → r = .d (.bool !neg) → OpRes P g w a o s' := by
      rintro hav rfl
      refine OpRes.value (l := .ret 0) h (u := .bool !neg) ?_ hp rfl (by simp only [RepF]; exact .bool _)
      have hq : ∀ op, (op = .eql ∨ op = .neq) → (eqGuard op t x (.const (.pointer none)) (.pointer none) (.pointer none)).run P w = .ok () w := fun op hop => by
        unfold eqGuard; rcases hop with rfl | rfl <;> rfl
      have he : (Op.equal t (.pointer none) (.pointer none)).run P w = .ok true w := by
        have : ∀ d : Nat, (Op.equalIn (d + 1) t (.pointer none) (.pointer none)).run P w = .ok true w := fun d => by simp [Op.equalIn, run_underlying hu]
        simp [Op.equal, Op.maxDepth, this 9999]
      unfold execOp
      cases neg with
      | true => simp only [ho, if_true, hav, e2, Sem.run_bind, hq .neq (.inr rfl), Result.andThen_ok, binOp, he, Sem.run_pure]
      | false => simp only [ho, Bool.false_eq_true, if_false, hav, e2, Sem.run_bind, hq .eql (.inl rfl), Result.andThen_ok, binOp, he, Sem.run_pure]; rfl
    unfold ispV at hv
    split at hv
    · rename_i id off hq
      simp only [Option.some.injEq] at hv
      obtain ⟨n, rfl, rfl, k1, k2⟩ := x_slot h hx hq rfl (by simp) (by simp) (by simp)
      have k3 : RepF P g w (.tm n 0) (.ptr id off) (a.va n) := k2
      simp only [RepF] at k3
      exact some_ _ k3.2 hv.symm
    · rename_i y off hq
      simp only [Option.some.injEq] at hv
      obtain ⟨n, rfl, rfl, k1, k2⟩ := x_slot h hx hq rfl (by simp) (by simp) (by simp)
      have k3 : RepF P g w (.tm n 0) (.eptr y off) (a.va n) := k2
      simp only [RepF] at k3
      obtain ⟨b, o2, e1, _⟩ := k3
      exact some_ _ e1 hv.symm
    · rename_i y off hq
      simp only [Option.some.injEq] at hv
      have k := x_toD h hx (d := .ptr y off) (by rw [hq]; rfl)
      obtain ⟨b, o2, e1, _⟩ := k.ptr_inv
      exact some_ _ e1 hv.symm
    · rename_i hq
      simp only [Option.some.injEq] at hv
      have k := x_toD h hx (d := .nilp) (by rw [hq]; rfl)
      cases hav : a.eval x <;> rw [hav] at k <;> cases k
      exact none_ hav hv.symm
    · rename_i u hq
      simp only [Option.some.injEq] at hv
      have k := x_toD h hx (d := .nilp) (by rw [hq]; rfl)
      cases hav : a.eval x <;> rw [hav] at k <;> cases k
      exact none_ hav hv.symm
    · simp at hv
  · simp at hk
end
end Go.Pe

namespace Go.Pe
section
variable {P : Program} {g : G} {w : World} {a : Act} {s s' : St} {S : Nat → Nat → Prop}
def itSet (w : World) (b : Nat) (o : Obj) : World := { w with heap := w.heap.setIfInBounds b o }
theorem itSet_other (w : World) (b b' : Nat) (o : Obj) (h : b' ≠ b) : (itSet w b o).heap[b']? = w.heap[b']? := by
  simp only [itSet, Array.getElem?_setIfInBounds, if_neg (Ne.symm h)]
theorem itSet_same (w : World) (b : Nat) (o o' : Obj) (h : w.heap[b]? = some o') : (itSet w b o).heap[b]? = some o := by
  have := lt_of_heap h
  simp only [itSet, Array.getElem?_setIfInBounds, if_pos this, if_true]
theorem Chg.iter {M : Loc → Prop} {b : Nat} {l : Loc} {s : ByteArray} {p : Nat} (o : Obj) (hb : w.heap[b]? = some (.stringIter s p)) (hk : g.κ b = some l) (hM : M l) (ht : g.tip b = 0) : Chg M g w g (itSet w b o) where
  os := rfl
  tape := rfl
  output := rfl
  size := by simp [itSet]
  stab := fun b' i u hc hs => by
    by_cases e1 : b' = b
    · subst e1
      rcases hs with hs | hs
      · rw [hk] at hs; simp at hs
      · rw [ht] at hs; omega
    · refine ⟨?_, hs⟩
      simp only [World.cell?, itSet_other w b b' o e1]
      exact hc
  own := fun b' l' hlt hl hn => ⟨hl, rfl, itSet_other w b b' o fun e1 => hn (by subst e1; rw [hk] at hl; injection hl with hl; rw [← hl]; exact hM)⟩
  free := fun b' hlt hl => ⟨hl, itSet_other w b b' o fun e1 => by subst e1; rw [hk] at hl; simp at hl⟩
  nb := Nat.le_refl _
  bb := fun _ _ => rfl
theorem run_getI {k pos : Nat} {b : ByteArray} (h : w.heap[k]? = some (.stringIter b pos)) : (getObj k).run P w = .ok (.stringIter b pos) w := by simp [getObj, Sem.run, h]
theorem run_setI {k pos : Nat} {b : ByteArray} (o : Obj) (h : w.heap[k]? = some (.stringIter b pos)) : (setObj k o).run P w = .ok () (itSet w k o) := by simp [setObj, Sem.run, h, itSet]
theorem op_rng {o : Oper} {t : TypeId} {x : Operand} {x' : X} {b : ByteArray} (h : Inv P g w a s) (ho : o.op = .range t x) (hk : P.underlying t = some .string) (hx : xOk x x' = true) (hd : (s.x x').toD = some (.str b)) {dd : Nat} (hdst : o.dst = some dd)
    (hp : s.put o.dst (.iter b 0) = some s') : OpRes P g w a o s' := by
  have hr := x_toD h hx hd
  have hv : a.eval x = .string b := by
    generalize a.eval x = v at hr
    cases hr
    rfl
  have hch := Chg.new (g := g) (w := w) (fun _ => False) (.stringIter b 0) (some (.tm dd 0)) 0
  rw [hdst] at hp
  refine ⟨_, .pointer (some ⟨w.heap.size, 0, none⟩), g.own w.heap.size (some (.tm dd 0)) 0, w.alloc (.stringIter b 0), ?_, .inl rfl, ?_, hch.mono fun _ hf => hf.elim⟩
  · unfold execOp
    simp [ho, Instr.range, hv, run_underlying hk]
  · rw [hdst]
    refine h.put_chg hch (fun _ _ _ hf => hf) (h.heap.mono hch (fun _ => ⟨fun hf => hf, fun _ hf => hf⟩) rfl) hp ?_
    intro ts va
    exact ⟨w.heap.size, rfl, by simp [G.own], by simp [G.own], heap_alloc_new w _⟩
theorem Inv.iter_on (h : Inv P g w a s) {n : Nat} {b : ByteArray} {pos : Nat} (hn : s.tm.getD n .dead = .iter b pos) (pos' : Nat) : ∃ k, a.va n = .pointer (some ⟨k, 0, none⟩) ∧ w.heap[k]? = some (.stringIter b pos) ∧
    Inv P g (itSet w k (.stringIter b pos')) a { s with tm := s.tm.set n (.iter b pos') } ∧ Chg (fun l => l = .tm n 0) g w g (itSet w k (.stringIter b pos')) := by
  obtain ⟨h1, h2⟩ := h.slot' hn (by simp)
  obtain ⟨k, e1, e2, e3, e4⟩ := h2
  have hch : Chg (fun l => l = .tm n 0) g w g (itSet w k (.stringIter b pos')) := Chg.iter _ e4 e2 rfl e3
  refine ⟨k, e1, e4, ⟨by simp [h.size], ?_, h.heap.mono hch (fun id => ⟨fun e => (by cases e), fun j e => (by cases e)⟩) rfl⟩, hch⟩
  intro t p ht
  simp only at ht
  have hl : n < s.tm.length := (List.getElem?_eq_some_iff.1 h1).1
  by_cases en : t = n
  · subst en
    rw [List.getElem?_set_self hl] at ht
    simp only [Option.some.injEq] at ht
    subst ht
    exact ⟨k, e1, e2, e3, itSet_same w k _ _ e4⟩
  · rw [List.getElem?_set_ne (Ne.symm en)] at ht
    refine (h.slot t p ht).mono hch (fun j hj => en (by injection hj)) ?_
    intro t' cs ht'
    have q1 : t' ≠ n := fun e1 => by rw [e1, h1] at ht'; simp at ht'
    exact ⟨⟨cs, by simp only [List.getElem?_set_ne (Ne.symm q1)]; exact ht'⟩, rfl⟩
theorem op_nxt {o : Oper} {n : Nat} {b : ByteArray} {pos : Nat} (h : Inv P g w a s) (ho : o.op = .next (.tmp n) true) (hn : s.tm.getD n .dead = .iter b pos) {dd : Nat} (hdst : o.dst = some dd)
    (hp : (if pos < b.size then St.put { s with tm := s.tm.set n (.iter b (pos + (Utf8.decode b pos).2)) } o.dst (.tup [.d (.bool true), .d (.int .i64 pos), .d (.int .i32 (Utf8.decode b pos).1)]) else s.put o.dst (.tup [.d (.bool false)])) = some s') : OpRes P g w a o s' := by
  rw [hdst] at hp
  by_cases hlt : pos < b.size
  · rw [if_pos hlt] at hp
    obtain ⟨k, e1, e2, hI, hch⟩ := h.iter_on hn (pos + (Utf8.decode b pos).2)
    have e1' : a.eval (.tmp n) = .pointer (some ⟨k, 0, none⟩) := e1
    refine ⟨_, .tuple #[.bool true, .int .i64 pos, .int .i32 (Utf8.decode b pos).1], g, itSet w k (.stringIter b (pos + (Utf8.decode b pos).2)), ?_, .inl rfl, ?_, hch.mono (mine_of_eq (mine_tm n 0))⟩
    · unfold execOp
      simp [ho, Instr.next, e1', run_getI e2, run_setI _ e2, hlt, goInt]
    · rw [hdst]
      refine hI.put_chg (Chg.refl (fun _ => False) g _) (fun _ _ _ hf => hf) hI.heap hp ?_
      intro ts va
      refine ⟨[.bool true, .int .i64 pos, .int .i32 (Utf8.decode b pos).1], rfl, rfl, fun j p x hj hx => ?_⟩
      match j with
      | 0 => simp at hj hx; subst hj hx; simp only [RepF]; exact .bool _
      | 1 => simp at hj hx; subst hj hx; simp only [RepF]; exact .int _ _
      | 2 => simp at hj hx; subst hj hx; simp only [RepF]; exact .int _ _
      | j + 3 => simp at hj
  · rw [if_neg hlt] at hp
    obtain ⟨h1, h2⟩ := h.slot' hn (by simp)
    obtain ⟨k, e1, e2, e3, e4⟩ := h2
    have e1' : a.eval (.tmp n) = .pointer (some ⟨k, 0, none⟩) := e1
    refine ⟨_, .tuple #[.bool false], g, w, ?_, .inl rfl, ?_, Chg.refl _ _ _⟩
    · unfold execOp
      simp [ho, Instr.next, e1', run_getI e4, hlt]
    · rw [hdst]
      refine h.put_chg (Chg.refl (fun _ => False) g w) (fun _ _ _ hf => hf) h.heap hp ?_
      intro ts va
      refine ⟨[.bool false], rfl, rfl, fun j p x hj hx => ?_⟩
      match j with
      | 0 => simp at hj hx; subst hj hx; simp only [RepF]; exact .bool _
      | j + 1 => simp at hj
end
end Go.Pe

namespace Go.Pe
section
variable {P : Program} {g : G} {w : World} {a : Act} {s s' : St} {S : Nat → Nat → Prop}
theorem bytes_flat (S : Nat → Nat → Prop) (w : World) (b : ByteArray) : Flat S w 1 (bsD b) (b.data.toList.map fun c => Value.int .u8 c.toNat) where
  len := by simp [bsD]
  wid := by
    intro x hx
    obtain ⟨y, _, rfl⟩ := List.mem_map.1 hx
    rfl
  one := by
    intro x hx c hc
    obtain ⟨y, _, rfl⟩ := List.mem_map.1 hx
    simp [D.cells] at hc
    subst hc
    rfl
  rep := by
    intro i x j c hi hj
    unfold bsD at hi
    rw [List.getElem?_map, Option.map_eq_some_iff] at hi
    obtain ⟨y, hy, rfl⟩ := hi
    cases j with
    | zero =>
      simp [D.cells] at hj
      subst hj
      refine ⟨.int .u8 y.toNat, ?_, .int _ _⟩
      rw [Nat.mul_one, Nat.add_zero, List.getElem?_map, hy]
      rfl
    | succ j => simp [D.cells] at hj
theorem op_cvb {o : Oper} {src dst : TypeId} {x : Operand} {x' : X} {p : PV} {s1 : St} (h : Inv P g w a s) (ho : o.op = .convert src dst x) (hk : convOk P src dst .toBytes = true) (hx : xOk x x' = true) (hq : cvbOp s x' = some (p, s1))
    (hp : s1.put o.dst p = some s') : OpRes P g w a o s' := by
  unfold cvbOp at hq
  split at hq
  · rename_i b hd
    have e1 := (x_toD h hx hd).str_inv
    simp only [Option.some.injEq, Prod.mk.injEq] at hq
    obtain ⟨rfl, rfl⟩ := hq
    simp only [convOk, Bool.and_eq_true] at hk
    obtain ⟨h1, h2⟩ := hk
    split at h1
    · rename_i hu
      split at h2
      · rename_i e hv
        simp only [Bool.and_eq_true] at h2
        obtain ⟨h2, h3⟩ := h2
        split at h2
        · rename_i he
          have hrun := run_bytes_of_string (P := P) w src dst e b hu hv he
          have hnb := h.heap.nb
          have hge := grownCap_ge w b.size 0 e
          generalize hw' : w.drew.alloc (.cells (bytesRow b (grownCap w b.size 0 e)) e ((bytesRow b (grownCap w b.size 0 e)).size, (bytesRow b (grownCap w b.size 0 e)).size + 1)) = w' at hrun
          have hch : ∀ M, Chg M g w (g.box w.heap.size) w' := fun M => hw' ▸ (Chg.drew M).trans (Chg.box (w := w.drew) M _)
          have hblk : w'.heap[w.heap.size]? = some (.cells (bytesRow b (grownCap w b.size 0 e)) e ((bytesRow b (grownCap w b.size 0 e)).size, (bytesRow b (grownCap w b.size 0 e)).size + 1)) := hw' ▸ heap_alloc_new w.drew _
          have hsz : (bytesRow b (grownCap w b.size 0 e)).size = grownCap w b.size 0 e := by
            have : b.data.size = b.size := rfl
            simp only [bytesRow, Array.size_append, Array.size_map, Array.size_replicate]
            omega
          have hE : EntRep P (g.box w.heap.size) w' s.hp.length (rowEnt (bsD b)) := by
            by_cases hnil : bsD b = []
            · rw [hnil]; trivial
            · refine EntRep.row (cap := grownCap w b.size 0 e) (sz := 1) (e := e) (news := b.data.toList.map fun c => Value.int .u8 c.toNat) (by simp [G.box, hnb]) (by simp [G.box, hnb]) (by simp only [G.box, hnb, if_true]; exact hblk) (.inr (Nat.le_refl _)) (by rw [hsz, Nat.mul_one]) ?_ ?_ (bytes_flat _ _ b) hnil
              · have : (bsD b).length = b.size := by simp [bsD]
                omega
              · have : (bsD b).length * 1 = (b.data.toList.map fun c => Value.int .u8 c.toNat).length := by simp [bsD]
                rw [this]
                simp only [bytesRow, Array.toList_append, Array.toList_map]
                exact List.take_left
          have hI : Inv P (g.box w.heap.size) w' a { s with hp := s.hp ++ [rowEnt (bsD b)] } :=
            ⟨h.size, fun t p ht => (h.slot t p ht).mono (hch (fun _ => False)) (fun _ hf => hf) (fun t' cs ht' => ⟨⟨cs, ht'⟩, rfl⟩), h.heap.push (hch (fun _ => False)) (fun _ => ⟨fun hf => hf, fun _ hf => hf⟩) rfl hE (rowEnt_bn _)⟩
          refine ⟨_, .slice (some ⟨w.heap.size, 0, none⟩) b.size (grownCap w b.size 0 e), _, w', ?_, .inl rfl, hI.put (l := .ret 0) hp rfl ?_, hch _⟩
          · unfold execOp
            simp only [ho, e1, Sem.run_bind, hrun, Result.andThen_ok, Sem.run_pure]
          · simp only [RepF]
            exact ⟨by simp [G.box, hnb], some ⟨w.heap.size, 0, none⟩, _, rfl, hge, fun _ => by simp [G.box, hnb]⟩
        · simp at h2
      · simp at h2
    · simp at h1
  · simp at hq
end
end Go.Pe

namespace Go.Pe
section
variable {P : Program} {g : G} {w : World} {a : Act} {s s' : St} {S : Nat → Nat → Prop}

theorem RepF.one {l : Loc} {p : PV} {v : Value} (h : RepF P g w l p v) (ho : p.one = true) : v.oneCell' = true := by
  cases p with
  | d x =>
    simp only [RepF] at h
    simp only [PV.one, Bool.not_eq_true'] at ho
    exact h.oneCell ho
  | own e xs =>
    simp only [RepF] at h
    obtain ⟨us, h1, _⟩ := h
    rcases h1.2 with ⟨rfl, _⟩ | ⟨b, cap, cur, rfl, _⟩ <;> rfl
  | full xs =>
    simp only [RepF] at h
    obtain ⟨a, rfl, _⟩ := h
    rfl
  | nilsl => simp only [RepF] at h; subst h; rfl
  | eptr x off => simp only [RepF] at h; obtain ⟨b, o, rfl, _⟩ := h; rfl
  | ptr id off => simp only [RepF] at h; obtain ⟨_, rfl⟩ := h; rfl
  | fn f caps => simp only [RepF] at h; obtain ⟨_, vs, rfl, _⟩ := h; rfl
  | _ => simp [PV.one] at ho

theorem ldb_ld {s : St} {agg : Option Nat} {n : Nat} {v : PV} (h : ldbV agg (s.tm.getD n .dead) = some v) : s.load false agg (s.x (.t n)) (X.t n).self = some (v, s) := by
  unfold ldbV at h
  split at h
  · rename_i cs hcs
    show s.load false agg (s.tm.getD n .dead) (some n) = _
    rw [hcs]
    cases agg with
    | some k => simp only [St.load, h, Option.map_some]
    | none =>
      obtain ⟨⟨w, cs'⟩, h1, rfl⟩ := Option.map_eq_some_iff.1 h
      have e : cs' = cs := by
        unfold cellTake at h1
        cases hc0 : cs[0]? with
        | none => rw [hc0] at h1; simp at h1
        | some v0 =>
          rw [hc0] at h1
          simp only at h1
          obtain ⟨_, _, h2⟩ := Option.map_eq_some_iff.1 h1
          simp only [Prod.mk.injEq] at h2
          exact h2.2.symm
      subst e
      simp only [St.load, h1, Option.map_some]
      congr 2
      show (⟨s.tm.set n (.ibox cs'), s.hp⟩ : St) = s
      have hn : n < s.tm.length := by
        apply Nat.lt_of_not_le
        intro hle
        rw [List.getD_eq_getElem?_getD, List.getElem?_eq_none hle] at hcs
        simp at hcs
      have : s.tm.set n (.ibox cs') = s.tm := by
        rw [List.getD_eq_getElem?_getD, List.getElem?_eq_getElem hn] at hcs
        simp only [Option.getD_some] at hcs
        rw [← hcs]
        exact List.set_getElem_self hn
      rw [this]
  · simp at h

def boolT (P : Program) (t : TypeId) : Bool := match P.underlying t with | some .bool => true | _ => false
def strT (P : Program) (t : TypeId) : Bool := match P.underlying t with | some .string => true | _ => false
def slT (P : Program) (t : TypeId) : Bool := match P.underlying t with | some (.slice _) => true | _ => false
def conT (P : Program) (t : TypeId) : Bool := match P.underlying t with | some (.interface _) => false | some _ => true | none => false
def bnOk (P : Program) (t : TypeId) (n : Nat) : Nat → List PV → Bool
  | _, [] => true
  | j, p :: r => (match p with | .bnil u => liesAt P P.depth t (n / P.cellsOf t) j u 1 | _ => true) && bnOk P t n (j + 1) r
theorem bnOk_ok {P : Program} {t : TypeId} {n : Nat} : ∀ (cs : List PV) (k : Nat), bnOk P t n k cs = true → ∀ (j u : Nat), cs[j]? = some (PV.bnil u) → liesAt P P.depth t (n / P.cellsOf t) (k + j) u 1 = true
  | [], k, _, j, u, hj => by simp at hj
  | p :: r, k, h, j, u, hj => by
    simp only [bnOk, Bool.and_eq_true] at h
    cases j with
    | zero =>
      simp only [List.getElem?_cons_zero, Option.some.injEq] at hj
      subst hj
      exact h.1
    | succ j =>
      have := bnOk_ok r (k + 1) h.2 j u (by simpa using hj)
      rw [show k + (j + 1) = k + 1 + j by omega]
      exact this
def zalOk (P : Program) (t : TypeId) (cs : List PV) : Bool := match P.info? t with | some i => (match i.zero with | some z => zcOk z.cells.toList cs && bnOk P t cs.length 0 cs | none => false) | none => false
def fldOk (P : Program) (t : TypeId) (f off : Nat) (agg : Option Nat) : Bool :=
  match P.underlying t with
  | some (.struct fs) => match fs[f]? with
    | some fd => fd.offset == off && aggOk P fd.type agg
    | none => false
  | _ => false
def ETy.isSt : ETy → Bool | .st _ => true | _ => false

def callOk (P : Program) (dst : Option Nat) (ro : RO) (c : Call) : Bool :=
  match ro, c.callee with
  | .len str y, .builtin .len => (match c.args.toList, c.argTypes.toList with | [x], [t] => xOk x y && (if str then strT P t else slT P t) | _, _ => false)
  | .app e sz bytes y z, .builtin .append => dst.isSome && (match c.args.toList, c.argTypes.toList with | [x, x2], [t, t2] => (if bytes = 0 then apsOk P t t2 e else t == t2 && appOk P t e sz bytes) && xOk x y && xOk x2 z | _, _ => false)
  | .apr e sz bytes y z, .builtin .append => (match c.args.toList, c.argTypes.toList with | [x, x2], [t, t2] => t == t2 && appOk P t e sz bytes && xOk x y && xOk x2 z | _, _ => false)
  | .clr zs y, .builtin .clear => dst.isNone && (match c.args.toList, c.argTypes.toList with | [x], [t] => clrOk P t zs && xOk x y | _, _ => false)
  | .minmax mx y ys, .builtin b => b == (if mx then .max else .min) && valsOk c.args.toList (y :: ys)
  | .call _ f args, .value x => xOk x f && valsOk c.args.toList args
  | _, _ => false

def opOk0 (P : Program) (dst : Option Nat) (ro : RO) (op : Op) : Bool :=
  match op with
  | .move x | .assign x => (match ro with | .mv _ y => xOk x y && dst.isSome | .mvt y => xOk x y && dst.isSome | .frz _ _ y => xOk x y | _ => false)
  | .pick c x y => (match ro with | .pick c' x' y' => xOk c c' && xOk x x' && xOk y y' | _ => false)
  | .alloc t => (match ro with | .zal _ cs => dst.isSome && zalOk P t cs | _ => false)
  | .box t x => (match ro with | .bx _ _ y => xOk x y && dst.isSome | .bxn n us y => xOk x y && dst.isSome && us.all (fun p => liesAt P P.depth t (n / P.cellsOf t) p.1 p.2 1) | _ => false)
  | .load t x => (match ro with | .ld _ agg y => aggOk P t agg && xOk x y && dst.isSome | .lde agg y => aggOk P t agg && xOk x y && dst.isSome | .ldb agg n => aggOk P t agg && xOk x (.t n) && dst.isSome | _ => false)
  | .store t x v => (match ro with | .sto agg y z => aggOk P t agg && xOk x y && xOk v z && dst.isNone | _ => false)
  | .nilCheck x => (match ro with | .nchk y => xOk x y | _ => false)
  | .binOp op t x y _ => (match ro with
    | .bin op' x' y' => op == op' && xOk x x' && xOk y y'
    | .isp neg x' => op == (if neg then .neq else .eql) && ptrT P t && xOk x x' && (match y with | .const (.pointer none) => true | _ => false)
    | .isn neg x' => op == (if neg then .neq else .eql) && ifcT P t && xOk x x' && (match y with | .const .nilIface => true | _ => false)
    | .beq neg x' y' => op == (if neg then .neq else .eql) && boolT P t && xOk x x' && xOk y y'
    | .eqv neg e x' y' => op == (if neg then .neq else .eql) && etyOk P e t && e.isSt && !P.eqGuardType P.depth t && decide (e.depth ≤ 10000) && xOk x x' && xOk y y'
    | _ => false)
  | .unOp op _ x => (match ro with | .un op' y => op == op' && xOk x y | _ => false)
  | .convert src dt x => (match ro with | .conv c y => convOk P src dt c && xOk x y | .cvb y => convOk P src dt .toBytes && xOk x y | _ => false)
  | .build t parts => (match ro with | .bld zero parts' => bldOk P t zero parts.toList parts' | _ => false)
  | .buildSlice t len parts => (match ro with | .bsl e sz elems => bslOk P t e sz len parts.toList elems && dst.isSome | .mv false (.c (.d .fe)) => len == 0 && (match P.underlying t with | some (.slice e) => bslOk P t e (P.cellsOf e) 0 parts.toList [] | _ => false) && dst.isSome | _ => false)
  | .fieldAddr t x f => (match ro with | .fad off y => fadOk P t f off && xOk x y && dst.isSome | _ => false)
  | .field t x f => (match ro with | .fld off agg y => fldOk P t f off agg && xOk x y | _ => false)
  | .indexAddr t x i => (match ro with | .iad arr sz y j => iadOk P t sz arr && xOk x y && xOk i j && dst.isSome | _ => false)
  | .index t x i => (match ro with | .six y j => strT P t && xOk x y && xOk i j | _ => false)
  | .slice t x lo hi mx => (match ro with | .slc kind y lo' hi' mx' => slcOk P t kind && xOk x y && oxOk lo lo' && oxOk hi hi' && oxOk mx mx' && (mx.isNone || hi.isSome) | .sla sz _ len y lo' hi' => slaOk P t sz len && xOk x y && oxOk lo lo' && oxOk hi hi' && mx.isNone | _ => false)
  | .extract x i => (match ro with | .ext _ y j => xOk x y && i == j && dst.isSome | _ => false)
  | .makeFunc f first xs => (match ro, f with | .mkf n ys, .func m => m == n && first.isEmpty && valsOk xs.toList ys | .mkm n ys, .func m => m == n && xs.isEmpty && valsOk first.toList ys | _, _ => false)
  | .makeSlice t x y => (match ro with | .mks zs bytes x' y' => mksOk P t zs bytes && xOk x x' && xOk y y' | _ => false)
  | .typeAssert x _ t ck => (match ro with | .tas t' z x' => ck && t == t' && tasOk P t z && xOk x x' && dst.isSome | _ => false)
  | .makeInterface t x => (match ro with | .mki t' y => t == t' && conT P t && xOk x y | _ => false)
  | .range t x => (match ro with | .rng y => strT P t && xOk x y && dst.isSome | _ => false)
  | .next x st => (match ro with | .nxt n => st && xOk x (.t n) && dst.isSome | _ => false)
  | .panic x => (match ro with | .pan y => xOk x y | _ => false)
  | .call c => callOk P dst ro c
  | _ => false

def opOk (P : Program) (dst : Option Nat) (ro : RO) (op : Op) : Bool :=
  match ro with
  | .bad => true
  | .ldr agg n => opOk0 P dst (.ld false agg (.t n)) op
  | .ldh agg a => opOk0 P dst (.ld false agg a) op
  | .stb agg n x => opOk0 P dst (.sto agg (.t n) x) op
  | _ => opOk0 P dst ro op

def RO.base : RO → RO
  | .ldr agg n => .ld false agg (.t n)
  | .ldh agg a => .ld false agg a
  | .stb agg n x => .sto agg (.t n) x
  | o => o
theorem opOk_or {dst : Option Nat} {ro : RO} {op : Op} (h : opOk P dst ro op = true) : ro = .bad ∨ opOk0 P dst ro.base op = true := by
  cases ro <;> first | exact .inl rfl | exact .inr h
theorem cellV_take {agg : Option Nat} {cs : List PV} {off : Nat} {v : PV} (h : cellV agg cs off = some v) : match agg with | some n => cellsAgg cs off n = some v | none => cellTake false cs off = some (v, cs) := by
  cases agg with
  | some n => exact h
  | none =>
    obtain ⟨⟨w, cs'⟩, h1, rfl⟩ := Option.map_eq_some_iff.1 h
    have e : cs' = cs := by
      unfold cellTake at h1
      cases hc0 : cs[off]? with
      | none => rw [hc0] at h1; simp at h1
      | some v0 =>
        rw [hc0] at h1
        simp only at h1
        obtain ⟨_, _, h2⟩ := Option.map_eq_some_iff.1 h1
        simp only [Prod.mk.injEq] at h2
        exact h2.2.symm
    subst e
    exact h1
theorem set_self {l : List PV} {t : Nat} {v : PV} (h : l.getD t .dead = v) : l.set t v = l := by
  by_cases ht : t < l.length
  · have : l[t] = v := by simpa [List.getD_eq_getElem?_getD, ht] using h
    subst this
    exact List.set_getElem_self ht
  · exact List.set_eq_of_length_le (by omega)
theorem hset_self {l : List Ent} {t : Nat} {v : Ent} (h : l[t]? = some v) : l.set t v = l := by
  obtain ⟨ht, rfl⟩ := List.getElem?_eq_some_iff.1 h
  exact List.set_getElem_self ht
theorem evOp_base {cf : CF} {dst : Option Nat} {ro : RO} {s : St} {r : OR} (he : evOp cf dst ro s = some r) : evOp cf dst ro.base s = some r := by
  cases ro with
  | ldr agg n =>
    simp only [evOp, Option.bind_eq_some_iff] at he
    obtain ⟨v, hv, he⟩ := he
    have hl : s.load false agg (s.x (.t n)) (X.t n).self = some (v, s) := by
      unfold ldrV at hv
      split at hv
      · rename_i t off hs
        split at hv
        · rename_i cs hc
          have := cellV_take hv
          show s.load false agg (s.tm.getD n .dead) (some n) = _
          rw [hs]
          cases agg with
          | some k => simp only at this; simp only [St.load, hc, this, Option.map_some]
          | none => simp only at this; simp only [St.load, hc, this, Option.map_some, set_self hc]
        · simp at hv
      · simp at hv
    simp only [RO.base, evOp, hl, Option.bind_some]
    exact he
  | ldh agg a =>
    simp only [evOp, Option.bind_eq_some_iff] at he
    obtain ⟨v, hv, he⟩ := he
    have hl : s.load false agg (s.x a) a.self = some (v, s) := by
      unfold ldhV at hv
      split at hv
      · rename_i id off hs
        split at hv
        · rename_i cs hc
          have := cellV_take hv
          rw [hs]
          cases agg with
          | some k => simp only at this; simp only [St.load, hc, this, Option.map_some]
          | none => simp only at this; simp only [St.load, hc, this, Option.map_some, hset_self hc]
        · simp at hv
      · rename_i x off hs
        obtain ⟨d, hd, rfl⟩ := Option.map_eq_some_iff.1 hv
        rw [hs]
        simp only [St.load, hd, Option.map_some]
      · simp at hv
    simp only [RO.base, evOp, hl, Option.bind_some]
    exact he
  | stb agg n x =>
    simp only [evOp, Option.map_eq_some_iff] at he
    obtain ⟨s1, h1, rfl⟩ := he
    unfold stbS at h1
    split at h1
    · obtain ⟨⟨v, s2⟩, h2, h3⟩ := Option.bind_eq_some_iff.1 h1
      simp only [RO.base, evOp, h2, Option.bind_some]
      show Option.map OR.ok (s2.store agg (s2.tm.getD n .dead) (some n) v) = _
      have h3 : s2.store agg (s2.tm.getD n .dead) (some n) v = some s1 := h3
      rw [h3]; rfl
    · simp at h1
  | _ => exact he

theorem boolT_ok {t : TypeId} (h : boolT P t = true) : P.underlying t = some .bool := by
  unfold boolT at h; split at h <;> first | assumption | simp at h
theorem strT_ok {t : TypeId} (h : strT P t = true) : P.underlying t = some .string := by
  unfold strT at h; split at h <;> first | assumption | simp at h
theorem slT_ok {t : TypeId} (h : slT P t = true) : ∃ e, P.underlying t = some (.slice e) := by
  unfold slT at h; split at h <;> first | exact ⟨_, by assumption⟩ | simp at h
theorem conT_ok {t : TypeId} (h : conT P t = true) : ∃ d, P.underlying t = some d ∧ ∀ ms, d ≠ .interface ms := by
  unfold conT at h
  split at h
  · simp at h
  · rename_i d hn hu
    exact ⟨d, hu, fun ms e => hn ms e⟩
  · simp at h
theorem some_of {α : Type} {d : Option α} (h : d.isSome = true) : ∃ x, d = some x := Option.isSome_iff_exists.1 h

theorem okPut_some {dst : Option Nat} {v : PV} {r : OR} (h : okPut s dst v = some r) : ∃ s', s.put dst v = some s' ∧ r = .ok s' := by
  simp only [okPut, Option.map_eq_some_iff] at h
  obtain ⟨s', h1, rfl⟩ := h
  exact ⟨s', h1, rfl⟩

theorem evOp_sound0 {cf : CF} (hcf : CFSound P cf) {o : Oper} {ro : RO} (h : Inv P g w a s) (hk : opOk0 P o.dst ro o.op = true) {r : OR} (he : evOp cf o.dst ro s = some r) {next : Act → World → Prop} {Q : Exit → Act → World → Prop} (hpost : OpPost P g w a next Q r) : o.wp P a w next Q := by
  have fin : ∀ s', r = .ok s' → OpRes P g w a o s' → o.wp P a w next Q := fun s' hr hres => hres.wp (hr ▸ hpost)
  cases hop : o.op with
  | move x =>
    rw [hop] at hk
    simp only [opOk0] at hk
    split at hk
    · rename_i m y
      simp only [Bool.and_eq_true] at hk
      obtain ⟨hx, hd⟩ := hk
      obtain ⟨d, hd⟩ := some_of hd
      simp only [evOp, Option.bind_eq_some_iff, Prod.exists] at he
      obtain ⟨v, s1, ht, he⟩ := he
      obtain ⟨s', hp, rfl⟩ := okPut_some he
      exact fin s' rfl (op_mv h (.inl hop) hx ht hd hp)
    · rename_i y
      simp only [Bool.and_eq_true] at hk
      obtain ⟨hx, hd⟩ := hk
      obtain ⟨d, hd⟩ := some_of hd
      simp only [evOp] at he
      split at he
      · rename_i vs n hq
        obtain ⟨s', hp, rfl⟩ := okPut_some he
        have hxn : x = .tmp n := by
          cases x <;> simp [xOk] at hx
          subst hx
          rfl
        subst hxn
        exact fin s' rfl (op_mvt h (.inl hop) hq hd hp)
      · simp at he
    · rename_i sz ag y
      simp only [evOp, Option.bind_eq_some_iff, Prod.exists] at he
      obtain ⟨v, s1, ht, he⟩ := he
      obtain ⟨s', hp, rfl⟩ := okPut_some he
      exact fin s' rfl (op_frz h (.inl hop) hk ht hp)
    · simp at hk
  | assign x =>
    rw [hop] at hk
    simp only [opOk0] at hk
    split at hk
    · rename_i m y
      simp only [Bool.and_eq_true] at hk
      obtain ⟨hx, hd⟩ := hk
      obtain ⟨d, hd⟩ := some_of hd
      simp only [evOp, Option.bind_eq_some_iff, Prod.exists] at he
      obtain ⟨v, s1, ht, he⟩ := he
      obtain ⟨s', hp, rfl⟩ := okPut_some he
      exact fin s' rfl (op_mv h (.inr hop) hx ht hd hp)
    · rename_i y
      simp only [Bool.and_eq_true] at hk
      obtain ⟨hx, hd⟩ := hk
      obtain ⟨d, hd⟩ := some_of hd
      simp only [evOp] at he
      split at he
      · rename_i vs n hq
        obtain ⟨s', hp, rfl⟩ := okPut_some he
        have hxn : x = .tmp n := by
          cases x <;> simp [xOk] at hx
          subst hx
          rfl
        subst hxn
        exact fin s' rfl (op_mvt h (.inr hop) hq hd hp)
      · simp at he
    · rename_i sz ag y
      simp only [evOp, Option.bind_eq_some_iff, Prod.exists] at he
      obtain ⟨v, s1, ht, he⟩ := he
      obtain ⟨s', hp, rfl⟩ := okPut_some he
      exact fin s' rfl (op_frz h (.inr hop) hk ht hp)
    · simp at hk
  | pick c x y =>
    rw [hop] at hk
    simp only [opOk0] at hk
    split at hk
    · simp only [Bool.and_eq_true] at hk
      obtain ⟨⟨h1, h2⟩, h3⟩ := hk
      simp only [evOp] at he
      split at he
      · rename_i t hc
        rw [Option.bind_eq_some_iff] at he
        obtain ⟨q, hq, he⟩ := he
        obtain ⟨s', hp, rfl⟩ := okPut_some he
        exact fin s' rfl (op_pick h hop h1 h2 h3 hc hq hp)
      · simp at he
    · simp at hk
  | alloc t =>
    rw [hop] at hk
    simp only [opOk0] at hk
    split at hk
    · rename_i heap cs
      simp only [Bool.and_eq_true] at hk
      obtain ⟨hd, hz⟩ := hk
      obtain ⟨d, hd⟩ := some_of hd
      unfold zalOk at hz
      split at hz
      · rename_i i hi
        split at hz
        · rename_i z hzz
          rw [Bool.and_eq_true] at hz
          obtain ⟨hz, hbn⟩ := hz
          simp only [evOp] at he
          split at he
          · obtain ⟨s', hp, rfl⟩ := okPut_some he
            exact fin s' rfl (op_zal_heap h hop hi hzz hz (fun j u hj => by have := bnOk_ok cs 0 hbn j u hj; rwa [Nat.zero_add] at this) hp)
          · obtain ⟨s', hp, rfl⟩ := okPut_some he
            exact fin s' rfl (op_zal h hop hi hzz hz hd hp)
        · simp at hz
      · simp at hz
    · simp at hk
  | box t x =>
    rw [hop] at hk
    simp only [opOk0] at hk
    split at hk
    · rename_i heap agg y
      simp only [Bool.and_eq_true] at hk
      obtain ⟨hx, hd⟩ := hk
      obtain ⟨d, hd⟩ := some_of hd
      simp only [evOp, Option.bind_eq_some_iff] at he
      obtain ⟨cs, hcs, he⟩ := he
      have hcs' : (if agg then match (s.x y).toD with | some (.agg ds) => some (ds.map PV.d) | _ => none else (s.x y).cp.map ([·])) = some cs ∧ (agg = false → (a.eval x).oneCell' = true) := by
        cases agg with
        | true => exact ⟨hcs, fun e => by simp at e⟩
        | false =>
          simp only [Bool.false_eq_true, if_false, Option.bind_eq_some_iff] at hcs ⊢
          obtain ⟨q, hq, hcs⟩ := hcs
          split at hcs
          · rename_i hone
            simp only [Option.some.injEq] at hcs
            subst hcs
            exact ⟨by rw [hq]; rfl, fun _ => ((x_cp h hx hq).2 (.ret 0)).one hone⟩
          · simp at hcs
      split at he
      · obtain ⟨s', hp, rfl⟩ := okPut_some he
        exact fin s' rfl (op_bx_heap h hop hx hcs'.1 hcs'.2 hp)
      · obtain ⟨s', hp, rfl⟩ := okPut_some he
        exact fin s' rfl (op_bx h hop hx hcs'.1 hcs'.2 hd hp)
    · rename_i n us y
      simp only [Bool.and_eq_true] at hk
      obtain ⟨⟨hx, hd⟩, hus⟩ := hk
      simp only [evOp] at he
      split at he
      · rename_i ds hds
        split at he
        · rename_i hn
          obtain ⟨s', hp, rfl⟩ := okPut_some he
          exact fin s' rfl (op_bxn h hop hx hds hn hus hp)
        · simp at he
      · simp at he
    · simp at hk
  | load t x =>
    rw [hop] at hk
    simp only [opOk0] at hk
    split at hk
    · simp only [Bool.and_eq_true] at hk
      obtain ⟨⟨h1, h2⟩, hd⟩ := hk
      obtain ⟨d, hd⟩ := some_of hd
      simp only [evOp, Option.bind_eq_some_iff, Prod.exists] at he
      obtain ⟨v, s1, hl, he⟩ := he
      obtain ⟨s', hp, rfl⟩ := okPut_some he
      exact fin s' rfl (op_ld h hop h2 h1 hl hd hp)
    · simp only [Bool.and_eq_true] at hk
      obtain ⟨⟨h1, h2⟩, hd⟩ := hk
      obtain ⟨d, hd⟩ := some_of hd
      simp only [evOp, Option.bind_eq_some_iff, Option.map_eq_some_iff] at he
      obtain ⟨v, ⟨q, hq, rfl⟩, he⟩ := he
      obtain ⟨s', hp, rfl⟩ := okPut_some he
      refine fin s' rfl (op_ld (m := false) h hop h2 h1 (s1 := s) (v := .d q) ?_ hd hp)
      unfold elV at hq
      split at hq
      · rename_i e off hv
        rw [hv]
        simp only [St.load, hq, Option.map_some]
      · simp at hq
    · rename_i agg n
      simp only [Bool.and_eq_true] at hk
      obtain ⟨⟨h1, h2⟩, hd⟩ := hk
      obtain ⟨d, hd⟩ := some_of hd
      simp only [evOp, Option.bind_eq_some_iff] at he
      obtain ⟨v, hv, he⟩ := he
      obtain ⟨s', hp, rfl⟩ := okPut_some he
      refine fin s' rfl (op_ld (m := false) (x' := .t n) h hop h2 h1 (s1 := s) (v := v) ?_ hd hp)
      exact ldb_ld hv
    · simp at hk
  | store t x v =>
    rw [hop] at hk
    simp only [opOk0] at hk
    split at hk
    · rename_i agg y z
      simp only [Bool.and_eq_true] at hk
      obtain ⟨⟨⟨h1, h2⟩, h3⟩, hd⟩ := hk
      have hd : o.dst = none := by simpa using hd
      simp only [evOp, Option.bind_eq_some_iff, Prod.exists] at he
      obtain ⟨pv, s1, hl, he⟩ := he
      rw [Option.map_eq_some_iff] at he
      obtain ⟨s', hs, rfl⟩ := he
      refine fin s' rfl (op_sto h hop h1 h2 h3 hl hs ?_ hd)
      intro hagg
      subst hagg
      obtain ⟨g', N, _, _, _, _, _, hr, _⟩ := take_any h h3 hl (.ret 0) (fun _ e => by cases e)
      have hone : pv.one = true := by
        unfold St.store at hs
        split at hs
        · simp only [Option.map_eq_some_iff, storeIn] at hs
          obtain ⟨_, hs, _⟩ := hs
          split at hs
          · rename_i hc; simp only [Bool.and_eq_true] at hc; exact hc.2
          · simp at hs
        · split at hs
          · simp only [Option.map_eq_some_iff, storeIn] at hs
            obtain ⟨_, hs, _⟩ := hs
            split at hs
            · rename_i hc; simp only [Bool.and_eq_true] at hc; exact hc.2
            · simp at hs
          · simp at hs
        · split at hs
          · simp only [Option.map_eq_some_iff, storeIn] at hs
            obtain ⟨_, hs, _⟩ := hs
            split at hs
            · rename_i hc; simp only [Bool.and_eq_true] at hc; exact hc.2
            · simp at hs
          · simp at hs
        · rename_i id i off hv
          have h1' : Inv P g w a s1 := by
            obtain ⟨_, _, _, _, _, _, k, _⟩ := take_any h h3 hl (.ret 0) (fun _ e => by cases e)
            exact k
          obtain ⟨n, _, _, _, k2⟩ := x_slot h1' h2 hv rfl (by simp) (by simp) (by simp)
          have k3 : RepF P g w (.tm n 0) (.rptr id i off) (a.va n) := k2
          simp only [RepF] at k3
        · simp at hs
      exact hr.one hone
    · simp at hk
  | nilCheck x =>
    rw [hop] at hk
    simp only [opOk0] at hk
    split at hk
    · simp only [evOp] at he
      split at he
      · rename_i id off hq
        obtain ⟨s', hp, rfl⟩ := okPut_some he
        exact fin s' rfl (op_nchk h hop hk hq (.inl ⟨_, _, rfl⟩) hp)
      · rename_i y off hq
        obtain ⟨s', hp, rfl⟩ := okPut_some he
        exact fin s' rfl (op_nchk h hop hk hq (.inr ⟨_, _, rfl⟩) hp)
      · rename_i y off hq
        obtain ⟨s', hp, rfl⟩ := okPut_some he
        exact fin s' rfl (op_nchk_d h hop hk hq hp)
      · rename_i id i off hv
        obtain ⟨n, _, _, _, k2⟩ := x_slot h hk hv rfl (by simp) (by simp) (by simp)
        have k3 : RepF P g w (.tm n 0) (.rptr id i off) (a.va n) := k2
        simp only [RepF] at k3
      · simp at he
    · simp at hk
  | binOp op t x y yt =>
    rw [hop] at hk
    simp only [opOk0] at hk
    split at hk
    · simp only [Bool.and_eq_true, beq_iff_eq] at hk
      obtain ⟨⟨rfl, h1⟩, h2⟩ := hk
      simp only [evOp] at he
      split at he
      · rename_i p q hp1 hq1
        rw [Option.bind_eq_some_iff] at he
        obtain ⟨d, hb, he⟩ := he
        obtain ⟨s', hp, rfl⟩ := okPut_some he
        exact fin s' rfl (op_bin h hop h1 h2 hp1 hq1 hb hp)
      · simp at he
    · rename_i neg x'
      simp only [Bool.and_eq_true, beq_iff_eq] at hk
      obtain ⟨⟨⟨rfl, h0⟩, h1⟩, h2⟩ := hk
      split at h2
      · simp only [evOp] at he
        rw [Option.bind_eq_some_iff] at he
        obtain ⟨r, hr, he⟩ := he
        obtain ⟨s', hp, rfl⟩ := okPut_some he
        exact fin s' rfl (op_isp h hop h0 h1 hr hp)
      · simp at h2
    · rename_i neg x'
      simp only [Bool.and_eq_true, beq_iff_eq] at hk
      obtain ⟨⟨⟨rfl, h0⟩, h1⟩, h2⟩ := hk
      split at h2
      · simp only [evOp] at he
        rw [Option.bind_eq_some_iff] at he
        obtain ⟨r, hr, he⟩ := he
        rw [Option.bind_eq_some_iff] at hr
        obtain ⟨d, hd, hr⟩ := hr
        obtain ⟨s', hp, rfl⟩ := okPut_some he
        exact fin s' rfl (op_isn h hop h0 h1 hd hr hp)
      · simp at h2
    · simp only [Bool.and_eq_true, beq_iff_eq] at hk
      obtain ⟨⟨⟨rfl, h0⟩, h1⟩, h2⟩ := hk
      simp only [evOp] at he
      split at he
      · rename_i p q hp1 hq1
        obtain ⟨s', hp, rfl⟩ := okPut_some he
        exact fin s' rfl (op_beq h hop h1 h2 (boolT_ok h0) hp1 hq1 hp)
      · simp at he
    · rename_i neg e x' y'
      simp only [Bool.and_eq_true, beq_iff_eq, Bool.not_eq_true', decide_eq_true_eq] at hk
      obtain ⟨⟨⟨⟨⟨⟨rfl, h0⟩, h3⟩, h4⟩, h5⟩, h1⟩, h2⟩ := hk
      simp only [evOp] at he
      split at he
      · rename_i p q hp1 hq1
        rw [Option.bind_eq_some_iff] at he
        obtain ⟨d, hb, he⟩ := he
        obtain ⟨s', hp, rfl⟩ := okPut_some he
        exact fin s' rfl (op_eqv h hop h0 (by cases e <;> first | exact ⟨_, rfl⟩ | simp [ETy.isSt] at h3) h4 h5 h1 h2 hp1 hq1 hb hp)
      · simp at he
    · simp at hk
  | unOp op t x =>
    rw [hop] at hk
    simp only [opOk0] at hk
    split at hk
    · simp only [Bool.and_eq_true, beq_iff_eq] at hk
      obtain ⟨rfl, h1⟩ := hk
      simp only [evOp] at he
      split at he
      · rename_i p hp1
        rw [Option.bind_eq_some_iff] at he
        obtain ⟨d, hb, he⟩ := he
        obtain ⟨s', hp, rfl⟩ := okPut_some he
        exact fin s' rfl (op_un h hop h1 hp1 hb hp)
      · simp at he
    · simp at hk
  | convert src dt x =>
    rw [hop] at hk
    simp only [opOk0] at hk
    split at hk
    · simp only [Bool.and_eq_true] at hk
      obtain ⟨h0, h1⟩ := hk
      simp only [evOp, Option.bind_eq_some_iff] at he
      obtain ⟨q, hq, he⟩ := he
      obtain ⟨s', hp, rfl⟩ := okPut_some he
      exact fin s' rfl (op_conv h hop h0 h1 hq hp)
    · simp only [Bool.and_eq_true] at hk
      obtain ⟨h0, h1⟩ := hk
      simp only [evOp, Option.bind_eq_some_iff] at he
      obtain ⟨⟨v, s1⟩, hq, he⟩ := he
      obtain ⟨s', hp, rfl⟩ := okPut_some he
      exact fin s' rfl (op_cvb h hop h0 h1 hq hp)
    · simp at hk
  | build t parts =>
    rw [hop] at hk
    simp only [opOk0] at hk
    split at hk
    · simp only [evOp, Option.bind_eq_some_iff] at he
      obtain ⟨q, hq, he⟩ := he
      obtain ⟨s', hp, rfl⟩ := okPut_some he
      exact fin s' rfl (op_bld h hop hk hq hp)
    · simp at hk
  | buildSlice t len parts =>
    rw [hop] at hk
    simp only [opOk0] at hk
    split at hk
    · simp only [Bool.and_eq_true] at hk
      obtain ⟨h0, hd⟩ := hk
      obtain ⟨d, hd⟩ := some_of hd
      simp only [evOp, Option.bind_eq_some_iff] at he
      obtain ⟨es, hes, he⟩ := he
      split at he
      · rename_i hw
        obtain ⟨s', hp, rfl⟩ := okPut_some he
        exact fin s' rfl (op_bsl h hop h0 hes hw hd hp)
      · simp at he
    · simp only [Bool.and_eq_true, beq_iff_eq] at hk
      obtain ⟨⟨rfl, h0⟩, hd⟩ := hk
      obtain ⟨d, hd⟩ := some_of hd
      split at h0
      · simp only [evOp, St.tkc, St.x, PV.cp, Option.map_some, Option.bind_some] at he
        obtain ⟨s', hp, rfl⟩ := okPut_some he
        exact fin s' rfl (op_bslE h hop h0 hd hp)
      · simp at h0
    · simp at hk
  | fieldAddr t x f =>
    rw [hop] at hk
    simp only [opOk0] at hk
    split at hk
    · simp only [Bool.and_eq_true] at hk
      obtain ⟨⟨h0, h1⟩, hd⟩ := hk
      obtain ⟨d, hd⟩ := some_of hd
      simp only [evOp, Option.bind_eq_some_iff] at he
      obtain ⟨q, hq, he⟩ := he
      obtain ⟨s', hp, rfl⟩ := okPut_some he
      exact fin s' rfl (op_fad h hop h0 h1 hq hd hp)
    · simp at hk
  | field t x f =>
    rw [hop] at hk
    simp only [opOk0] at hk
    split at hk
    · simp only [Bool.and_eq_true] at hk
      obtain ⟨h0, h1⟩ := hk
      unfold fldOk at h0
      split at h0
      · rename_i fs hu
        split at h0
        · rename_i fd hfd
          simp only [Bool.and_eq_true, beq_iff_eq] at h0
          simp only [evOp] at he
          split at he
          · rename_i cs hcs
            rw [Option.bind_eq_some_iff] at he
            obtain ⟨q, hq, he⟩ := he
            obtain ⟨s', hp, rfl⟩ := okPut_some he
            exact fin s' rfl (op_fld h hop hu hfd h0.1 h0.2 h1 hcs hq hp)
          · simp at he
        · simp at h0
      · simp at h0
    · simp at hk
  | indexAddr t x i =>
    rw [hop] at hk
    simp only [opOk0] at hk
    split at hk
    · rename_i arr sz y j
      simp only [Bool.and_eq_true] at hk
      obtain ⟨⟨⟨h0, h1⟩, h2⟩, hd⟩ := hk
      obtain ⟨d, hd⟩ := some_of hd
      simp only [evOp] at he
      split at he
      · rename_i k n hn
        split at he
        · rename_i len
          split at he
          · rename_i hb
            rw [Option.bind_eq_some_iff] at he
            obtain ⟨q, hq, he⟩ := he
            obtain ⟨s', hp, rfl⟩ := okPut_some he
            exact fin s' rfl (op_iad_arr h hop h0 h1 h2 hn hb hq hd hp)
          · simp at he
        · split at he
          · rename_i id lo len hv
            split at he
            · rename_i hb
              obtain ⟨s', hp, rfl⟩ := okPut_some he
              exact fin s' rfl (op_iad_row h hop h0 h1 h2 hn hv hb hp)
            · simp at he
          · split at he
            · rename_i xs hxs
              split at he
              · rename_i hb
                split at he
                · rename_i e hxe
                  split at he
                  · rename_i hw
                    obtain ⟨s', hp, rfl⟩ := okPut_some he
                    exact fin s' rfl (op_iad_sl h hop h0 h1 h2 hn hxs hb hxe hw hp)
                  · simp at he
                · simp at he
              · simp at he
            · simp at he
      · simp at he
    · simp at hk
  | index t x i =>
    rw [hop] at hk
    simp only [opOk0] at hk
    split at hk
    · simp only [Bool.and_eq_true] at hk
      obtain ⟨⟨h0, h1⟩, h2⟩ := hk
      simp only [evOp] at he
      split at he
      · rename_i b k n hb hn
        split at he
        · rename_i hlt
          split at he
          · rename_i u hu
            obtain ⟨s', hp, rfl⟩ := okPut_some he
            exact fin s' rfl (op_six h hop (strT_ok h0) h1 h2 hb hn hlt hu hp)
          · simp at he
        · simp at he
      · simp at he
    · simp at hk
  | slice t x lo hi mx =>
    rw [hop] at hk
    simp only [opOk0] at hk
    split at hk
    · simp only [Bool.and_eq_true, Bool.or_eq_true] at hk
      obtain ⟨⟨⟨⟨⟨h0, h1⟩, h2⟩, h3⟩, h4⟩, h5⟩ := hk
      simp only [evOp, Option.bind_eq_some_iff] at he
      obtain ⟨q, hq, he⟩ := he
      obtain ⟨s', hp, rfl⟩ := okPut_some he
      have h5' : mx.isSome = true → hi.isSome = true := by
        intro hm
        rcases h5 with h5 | h5
        · rw [Option.isNone_iff_eq_none] at h5
          rw [h5] at hm
          simp at hm
        · exact h5
      exact fin s' rfl (op_slc h hop h0 h1 h2 h3 h4 h5' hq hp)
    · simp only [Bool.and_eq_true, Option.isNone_iff_eq_none] at hk
      obtain ⟨⟨⟨⟨h0, h1⟩, h2⟩, h3⟩, h4⟩ := hk
      simp only [evOp, Option.bind_eq_some_iff, Prod.exists] at he
      obtain ⟨q, s1, hq, he⟩ := he
      obtain ⟨s', hp, rfl⟩ := okPut_some he
      exact fin s' rfl (op_sla h (h4 ▸ hop) h0 h1 h2 h3 hq hp)
    · simp at hk
  | extract x i =>
    rw [hop] at hk
    simp only [opOk0] at hk
    split at hk
    · rename_i m y j
      simp only [Bool.and_eq_true, beq_iff_eq] at hk
      obtain ⟨⟨h1, rfl⟩, hd⟩ := hk
      obtain ⟨d, hd⟩ := some_of hd
      simp only [evOp] at he
      split at he
      · rename_i vs n hv
        have hxn : x = .tmp n := by
          cases x <;> simp [xOk] at h1
          subst h1
          rfl
        subst hxn
        split at he
        · rename_i v hvi
          split at he
          · split at he
            · rename_i e xs
              obtain ⟨s', hp, rfl⟩ := okPut_some he
              exact fin s' rfl (op_ext_own h hop hv hvi hd hp)
            · rw [Option.bind_eq_some_iff] at he
              obtain ⟨q, hq, he⟩ := he
              obtain ⟨s', hp, rfl⟩ := okPut_some he
              exact fin s' rfl (op_ext h hop hv hvi hq hp)
          · rw [Option.bind_eq_some_iff] at he
            obtain ⟨q, hq, he⟩ := he
            obtain ⟨s', hp, rfl⟩ := okPut_some he
            exact fin s' rfl (op_ext h hop hv hvi hq hp)
        · simp at he
      · simp at he
    · simp at hk
  | makeFunc f first xs =>
    rw [hop] at hk
    simp only [opOk0] at hk
    split at hk
    · simp only [Bool.and_eq_true, beq_iff_eq] at hk
      obtain ⟨⟨rfl, h1⟩, h2⟩ := hk
      have hfirst : first = #[] := by simpa using h1
      subst hfirst
      simp only [evOp, Option.bind_eq_some_iff] at he
      obtain ⟨vs, hvs, he⟩ := he
      obtain ⟨s', hp, rfl⟩ := okPut_some he
      obtain ⟨k1, k2⟩ := vals_cp h h2 hvs
      exact fin s' rfl (op_mkf (xs' := []) h hop ⟨k1, k2 _⟩ hp)
    · simp only [Bool.and_eq_true, beq_iff_eq] at hk
      obtain ⟨⟨rfl, h1⟩, h2⟩ := hk
      have hfirst : xs = #[] := by simpa using h1
      subst hfirst
      simp only [evOp, Option.bind_eq_some_iff] at he
      obtain ⟨vs, hvs, he⟩ := he
      obtain ⟨s', hp, rfl⟩ := okPut_some he
      obtain ⟨k1, k2⟩ := vals_cp h h2 hvs
      exact fin s' rfl (op_mkm (xs' := []) h hop ⟨k1, k2 _⟩ hp)
    · simp at hk
  | makeSlice t x y =>
    rw [hop] at hk
    simp only [opOk0] at hk
    split at hk
    · simp only [Bool.and_eq_true] at hk
      obtain ⟨⟨h0, h1⟩, h2⟩ := hk
      simp only [evOp] at he
      rw [Option.bind_eq_some_iff] at he
      obtain ⟨⟨v, s1⟩, hv, he⟩ := he
      obtain ⟨s', hp, rfl⟩ := okPut_some he
      exact fin s' rfl (op_mks h hop h0 h1 h2 hv hp)
    · simp at hk
  | typeAssert x xt t ck =>
    rw [hop] at hk
    simp only [opOk0] at hk
    split at hk
    · simp only [Bool.and_eq_true, beq_iff_eq] at hk
      obtain ⟨⟨⟨⟨rfl, rfl⟩, h0⟩, h1⟩, hd⟩ := hk
      obtain ⟨dd, hd⟩ := some_of hd
      simp only [evOp] at he
      rw [Option.bind_eq_some_iff] at he
      obtain ⟨r, hr, he⟩ := he
      rw [Option.bind_eq_some_iff] at hr
      obtain ⟨d, hd2, hr⟩ := hr
      obtain ⟨s', hp, rfl⟩ := okPut_some he
      exact fin s' rfl (op_tas h hop h0 h1 hd2 hr hd hp)
    · simp at hk
  | makeInterface t x =>
    rw [hop] at hk
    simp only [opOk0] at hk
    split at hk
    · simp only [Bool.and_eq_true, beq_iff_eq] at hk
      obtain ⟨⟨rfl, h1⟩, h2⟩ := hk
      simp only [evOp] at he
      split at he
      · rename_i y hy
        obtain ⟨s', hp, rfl⟩ := okPut_some he
        exact fin s' rfl (op_mki h hop (conT_ok h1) h2 hy hp)
      · simp at he
    · simp at hk
  | panic x =>
    rw [hop] at hk
    simp only [opOk0] at hk
    split at hk
    · simp only [evOp] at he
      split at he
      · rename_i t y hy
        simp only [Option.some.injEq] at he
        subst he
        exact op_pan h hop hk hy hpost
      · simp at he
    · simp at hk
  | call c =>
    rw [hop] at hk
    simp only [opOk0] at hk
    obtain ⟨callee, ⟨args⟩, ⟨ts⟩⟩ := c
    unfold callOk at hk
    split at hk
    · rename_i str y hcal
      simp only at hcal hk
      subst hcal
      split at hk
      · rename_i x t
        simp only [Bool.and_eq_true] at hk
        obtain ⟨h1, h2⟩ := hk
        simp only [evOp, Option.bind_eq_some_iff] at he
        obtain ⟨d, hl, he⟩ := he
        obtain ⟨s', hp, rfl⟩ := okPut_some he
        have h2' : if str then P.underlying t = some .string else ∃ e, P.underlying t = some (.slice e) := by
          cases str with
          | true => exact strT_ok h2
          | false => exact slT_ok h2
        exact fin s' rfl (op_len h hop (t := t) rfl h2' h1 hl hp)
      · simp at hk
    · rename_i e sz bytes y z hcal
      simp only at hcal hk
      subst hcal
      simp only [Bool.and_eq_true] at hk
      obtain ⟨hd, hk⟩ := hk
      obtain ⟨d, hd⟩ := some_of hd
      split at hk
      · rename_i x x2 t t2
        simp only [Bool.and_eq_true] at hk
        obtain ⟨⟨h0, h1⟩, h2⟩ := hk
        simp only [evOp, Option.bind_eq_some_iff, Prod.exists] at he
        obtain ⟨p, s1, ha, he⟩ := he
        obtain ⟨s', hp, rfl⟩ := okPut_some he
        unfold appOp at ha
        by_cases hb0 : bytes = 0
        · rw [if_pos hb0] at h0 ha
          exact fin s' rfl (op_aps h hop h0 h1 h2 ha hd hp)
        · rw [if_neg hb0] at h0 ha
          simp only [Bool.and_eq_true, beq_iff_eq] at h0
          obtain ⟨rfl, h0⟩ := h0
          exact fin s' rfl (op_app h hop h0 h1 h2 ha hd hp)
      · simp at hk
    · rename_i e sz bytes y z hcal
      simp only at hcal hk
      subst hcal
      split at hk
      · rename_i x x2 t t2
        simp only [Bool.and_eq_true, beq_iff_eq] at hk
        obtain ⟨⟨⟨rfl, h0⟩, h1⟩, h2⟩ := hk
        simp only [evOp, Option.bind_eq_some_iff, Prod.exists] at he
        obtain ⟨p, s1, ha, he⟩ := he
        obtain ⟨s', hp, rfl⟩ := okPut_some he
        exact fin s' rfl (op_apr h hop h0 h1 h2 ha hp)
      · simp at hk
    · rename_i zs y hcal
      simp only at hcal hk
      subst hcal
      simp only [Bool.and_eq_true] at hk
      obtain ⟨hd, hk⟩ := hk
      have hd : o.dst = none := by simpa using hd
      split at hk
      · rename_i x t
        simp only [Bool.and_eq_true] at hk
        obtain ⟨h0, h1⟩ := hk
        simp only [evOp, Option.map_eq_some_iff] at he
        obtain ⟨s', hs, rfl⟩ := he
        exact fin s' rfl (op_clr h hop h0 h1 hs hd)
      · simp at hk
    · rename_i mx y ys b hcal
      simp only at hcal hk
      subst hcal
      simp only [Bool.and_eq_true, beq_iff_eq] at hk
      obtain ⟨rfl, h1⟩ := hk
      simp only [evOp] at he
      split at he
      · rename_i p hp1
        rw [Option.bind_eq_some_iff] at he
        obtain ⟨q, hq, he⟩ := he
        obtain ⟨s', hp, rfl⟩ := okPut_some he
        exact fin s' rfl (op_minmax h hop h1 hp1 hq hp)
      · simp at he
    · rename_i m f args' x hcal
      simp only at hcal hk
      subst hcal
      simp only [Bool.and_eq_true] at hk
      obtain ⟨h1, h2⟩ := hk
      simp only [evOp] at he
      split at he
      · rename_i f' caps hf
        simp only [Option.bind_eq_some_iff] at he
        obtain ⟨vs, hvs, out, hout, he⟩ := he
        exact op_call hcf h hop h1 h2 hf hvs hout (by cases out <;> exact he) hpost
      · rename_i f' caps hf
        simp only [Option.bind_eq_some_iff] at he
        obtain ⟨vs, hvs, out, hout, he⟩ := he
        exact op_callm hcf h hop h1 h2 hf hvs hout (by cases out <;> exact he) hpost
      · simp at he
    · simp at hk
  | range t x =>
    rw [hop] at hk
    simp only [opOk0] at hk
    split at hk
    · rename_i y
      simp only [Bool.and_eq_true] at hk
      obtain ⟨⟨hk1, hx⟩, hd⟩ := hk
      obtain ⟨d, hd⟩ := some_of hd
      simp only [evOp] at he
      split at he
      · rename_i b hb
        obtain ⟨s', hp, rfl⟩ := okPut_some he
        exact fin s' rfl (op_rng h hop (strT_ok hk1) hx hb hd hp)
      · simp at he
    · simp at hk
  | next x st =>
    rw [hop] at hk
    simp only [opOk0] at hk
    split at hk
    · rename_i n
      simp only [Bool.and_eq_true] at hk
      obtain ⟨⟨hk1, hx⟩, hd⟩ := hk
      obtain ⟨d, hd⟩ := some_of hd
      subst hk1
      have hxn : x = .tmp n := by
        cases x <;> simp [xOk] at hx
        subst hx
        rfl
      subst hxn
      simp only [evOp] at he
      split at he
      · rename_i b pos hb
        by_cases hlt : pos < b.size
        · rw [if_pos hlt] at he
          obtain ⟨s', hp, rfl⟩ := okPut_some he
          exact fin s' rfl (op_nxt h hop hb hd (by rw [if_pos hlt]; exact hp))
        · rw [if_neg hlt] at he
          obtain ⟨s', hp, rfl⟩ := okPut_some he
          exact fin s' rfl (op_nxt h hop hb hd (by rw [if_neg hlt]; exact hp))
      · simp at he
    · simp at hk
  | _ => rw [hop] at hk; simp [opOk0] at hk

theorem evOp_sound {cf : CF} (hcf : CFSound P cf) {o : Oper} {ro : RO} (h : Inv P g w a s) (hk : opOk P o.dst ro o.op = true) {r : OR} (he : evOp cf o.dst ro s = some r) {next : Act → World → Prop} {Q : Exit → Act → World → Prop} (hpost : OpPost P g w a next Q r) : o.wp P a w next Q := by
  rcases opOk_or hk with rfl | hk
  · simp [evOp] at he
  · exact evOp_sound0 hcf h hk (evOp_base he) hpost

end
end Go.Pe

namespace Go.Pe
section
variable {P : Program} {g : G} {w : World} {a : Act} {s s' : St} {S : Nat → Nat → Prop}


def evIdx (cf : CF) (ros : List ROper) : List Nat → St → Option OR
  | [], s => some (.ok s)
  | i :: l, s => match ros[i]? with
    | none => evIdx cf ros l s
    | some o => match wanted s o.g with
      | some true => match evOp cf o.dst o.op s with
        | some (.ok s') => evIdx cf ros l s'
        | x => x
      | some false => match s.put o.dst .und with
        | some s' => evIdx cf ros l s'
        | none => none
      | none => none

theorem evIdx_range' (cf : CF) (ros : List ROper) : ∀ (n : Nat) (l : List ROper) (k : Nat) (s : St), (∀ i, i < n → ros[k + i]? = l[i]?) → l.length = n → evIdx cf ros (List.range' k n) s = evOps cf l s
  | 0, l, k, s, _, hl => by
    have : l = [] := List.eq_nil_of_length_eq_zero hl
    subst this
    rfl
  | n + 1, l, k, s, h, hl => by
    cases l with
    | nil => simp at hl
    | cons o l =>
      have h0 := h 0 (by omega)
      simp only [Nat.add_zero, List.getElem?_cons_zero] at h0
      have ih := fun s => evIdx_range' cf ros n l (k + 1) s (fun i hi => by have := h (i + 1) (by omega); rwa [show k + (i + 1) = k + 1 + i by omega, List.getElem?_cons_succ] at this) (by simpa using hl)
      rw [List.range'_succ]
      simp only [evIdx, evOps, h0]
      cases wanted s o.g with
      | none => rfl
      | some b =>
        cases b with
        | true =>
          simp only
          cases evOp cf o.dst o.op s with
          | none => rfl
          | some r =>
            cases r with
            | ok s' => simp only; exact ih s'
            | pan v hp => rfl
        | false =>
          simp only
          cases s.put o.dst .und with
          | none => rfl
          | some s' => simp only; exact ih s'

theorem evIdx_range (cf : CF) (ros : List ROper) (s : St) : evIdx cf ros (List.range ros.length) s = evOps cf ros s := by
  rw [List.range_eq_range']
  exact evIdx_range' cf ros ros.length ros 0 s (fun i _ => by simp) rfl

def gOk (ops : List Oper) : Option (Nat × Bool) → Option (Nat × Bool) → Bool
  | none, none => true
  | some (j, b), some (t, b') => b == b' && ((ops[j]?).bind (·.dst)) == some t
  | _, _ => false

def regOk (P : Program) (all : List Oper) : List Oper → List ROper → Bool
  | [], [] => true
  | o :: os, r :: rs => o.dst == r.dst && opOk P o.dst r.op o.op && gOk all o.guard r.g && regOk P all os rs
  | _, _ => false

theorem regOk_get {all : List Oper} : ∀ {ops : List Oper} {ros : List ROper}, regOk P all ops ros = true → ops.length = ros.length ∧ ∀ (i : Nat) (o : Oper), ops[i]? = some o → ∃ r, ros[i]? = some r ∧ o.dst = r.dst ∧ opOk P o.dst r.op o.op = true ∧ gOk all o.guard r.g = true
  | [], [], _ => ⟨rfl, by simp⟩
  | o :: os, r :: rs, h => by
    simp only [regOk, Bool.and_eq_true, beq_iff_eq] at h
    obtain ⟨⟨⟨h1, h2⟩, h3⟩, h4⟩ := h
    obtain ⟨i1, i2⟩ := regOk_get h4
    refine ⟨by simp [i1], ?_⟩
    intro i o' hi
    cases i with
    | zero => simp at hi; subst hi; exact ⟨r, rfl, h1, h2, h3⟩
    | succ i => exact i2 i o' (by simpa using hi)
  | [], _ :: _, h => by simp [regOk] at h
  | _ :: _, [], h => by simp [regOk] at h

def RegPost (P : Program) (g : G) (w : World) (a : Act) (Q : Exit → Act → World → Prop) : OR → Prop
  | .ok s' => ∀ g' w' a', Inv P g' w' a' s' → Chg Mine g w g' w' → a'.defers = a.defers → Q .normal a' w'
  | .pan x s' => ∀ g' w' a' u, DRep g'.stab w' x u → Inv P g' w' a' s' → Chg Mine g w g' w' → a'.defers = a.defers → Q (.panic [{ v := u, recovered := false }]) a' w'

theorem RegPost.step {g' : G} {w' : World} {a' : Act} {Q : Exit → Act → World → Prop} {r : OR} (h : RegPost P g w a Q r) (hc : Chg Mine g w g' w') (hd : a'.defers = a.defers) : RegPost P g' w' a' Q r := by
  cases r with
  | ok s' => exact fun g2 w2 a2 hI hc2 hd2 => h g2 w2 a2 hI (hc.trans hc2) (hd2.trans hd)
  | pan x hp => exact fun g2 w2 a2 u hx hH hc2 hd2 => h g2 w2 a2 u hx hH (hc.trans hc2) (hd2.trans hd)

theorem wanted_ok (h : Inv P g w a s) {ops : Array Oper} {o : Oper} {r : ROper} (hg : gOk ops.toList o.guard r.g = true) {b : Bool} (hw : wanted s r.g = some b) : Region.wanted o (yielded ops a.tmps) = b := by
  unfold Region.wanted
  cases hgd : o.guard with
  | none =>
    rw [hgd] at hg
    cases hr : r.g with
    | none => rw [hr] at hw; simp [wanted] at hw; simpa using hw
    | some x => rw [hr] at hg; simp [gOk] at hg
  | some jb =>
    obtain ⟨j, want⟩ := jb
    rw [hgd] at hg
    cases hr : r.g with
    | none => rw [hr] at hg; simp [gOk] at hg
    | some tb =>
      obtain ⟨t, want'⟩ := tb
      rw [hr] at hg hw
      simp only [gOk, Bool.and_eq_true, beq_iff_eq] at hg
      obtain ⟨rfl, hdst⟩ := hg
      have hdst' : (ops[j]?).bind (·.dst) = some t := by simpa using hdst
      simp only [wanted] at hw
      have hy : yielded ops a.tmps j = match a.tmps[t]? with | some (.bool b) => some b | _ => none := by
        simp only [yielded, hdst', Option.bind_some]
        rfl
      split at hw
      · rename_i bb hbb
        simp only [Option.some.injEq] at hw
        obtain ⟨h1, h2⟩ := h.slot' hbb (by simp)
        have h3 : RepF P g w (.tm t 0) (.d (.bool bb)) (a.va t) := h2
        simp only [RepF] at h3
        have h4 := h3.bool_inv
        have h5 : a.tmps[t]? = some (.bool bb) := by
          simp only [Act.va, Array.getD_eq_getD_getElem?] at h4
          cases hq : a.tmps[t]? with
          | none => rw [hq] at h4; simp [undef] at h4
          | some v => rw [hq] at h4; simp at h4; rw [h4]
        simp only [hy, h5]
        rw [← hw]
        cases bb <;> cases want <;> rfl
      · rename_i hbb
        simp only [Option.some.injEq] at hw
        obtain ⟨h1, h2⟩ := h.slot' hbb (by simp)
        have h3 : RepF P g w (.tm t 0) .und (a.va t) := h2
        simp only [RepF] at h3
        simp only [hy]
        rw [← hw]
        simp only [Act.va, Array.getD_eq_getD_getElem?] at h3
        cases hq : a.tmps[t]? with
        | none => rfl
        | some v =>
          rw [hq] at h3
          simp only [Option.getD_some] at h3
          rw [h3]
          rfl
      · simp at hw

theorem idx_sound {cf : CF} (hcf : CFSound P cf) {ops : Array Oper} {ros : List ROper} (hk : regOk P ops.toList ops.toList ros = true) {Q : Exit → Act → World → Prop} : ∀ (l : List Nat) {g : G} {w : World} {a : Act} {s : St} {r : OR},
    evIdx cf ros l s = some r → Inv P g w a s → RegPost P g w a Q r → wpOps P ops Q l a w
  | [], g, w, a, s, r, he, h, hp => by
    simp only [evIdx, Option.some.injEq] at he
    subst he
    exact hp g w a h (Chg.refl _ _ _) rfl
  | i :: l, g, w, a, s, r, he, h, hp => by
    obtain ⟨hlen, hget⟩ := regOk_get hk
    simp only [evIdx] at he
    simp only [wpOps]
    cases ho : ops[i]? with
    | none =>
      have hr : ros[i]? = none := by
        rw [List.getElem?_eq_none_iff]
        rw [Array.getElem?_eq_none_iff] at ho
        rw [← hlen]
        simpa using ho
      rw [hr] at he
      simp only at he ⊢
      exact idx_sound hcf hk l he h hp
    | some o =>
      obtain ⟨ro, hro, hd, hok, hg⟩ := hget i o (by simpa using ho)
      rw [hro] at he
      simp only at he ⊢
      split at he
      · rename_i hw
        rw [wanted_ok h hg hw]
        simp only [if_true]
        refine .inl ?_
        rw [← hd] at he
        cases hev : evOp cf o.dst ro.op s with
        | none => rw [hev] at he; simp at he
        | some r1 =>
          rw [hev] at he
          refine evOp_sound hcf h hok hev ?_
          cases r1 with
          | ok s' =>
            simp only at he
            exact fun g' w' a' hI hc hdf => idx_sound hcf hk l he hI (hp.step hc hdf)
          | pan x hp' =>
            simp only [Option.some.injEq] at he
            subst he
            exact fun g' w' u hx hH hc => hp g' w' a u hx hH hc rfl
      · rename_i hw
        rw [wanted_ok h hg hw]
        simp only [Bool.false_eq_true, if_false]
        split at he
        · rename_i s' hput
          rw [← hd] at hput
          have hI : Inv P g w (a.put o.dst undef) s' := h.put (l := .ret 0) hput rfl (by simp only [RepF])
          exact idx_sound hcf hk l he hI (hp.step (Chg.refl _ _ _) put_defers)
        · simp at he
      · simp at he

end
end Go.Pe

namespace Go.Pe

def isIb : PV → Bool
  | .ibox _ => true
  | _ => false
def nrm : PV → PV
  | .ibox _ => .ibox []
  | p => p

def setAll (tm : List PV) : List (Nat × PV) → List PV
  | [] => tm
  | (t, v) :: r => setAll (tm.set t v) r

def X.tmps : X → List Nat
  | .t n => [n]
  | _ => []

def RO.xs : RO → List X
  | .mv _ x => [x]
  | .mvt x => [x]
  | .pick c a b => [c, a, b]
  | .zal _ _ => []
  | .bx _ _ x => [x]
  | .ld _ _ a => [a]
  | .sto _ a x => [a, x]
  | .nchk x => [x]
  | .bin _ x y => [x, y]
  | .beq _ x y => [x, y]
  | .eqv _ _ x y => [x, y]
  | .un _ x => [x]
  | .conv _ x => [x]
  | .bld _ ps => ps.map (·.2.2)
  | .bsl _ _ es => es
  | .fad _ x => [x]
  | .fld _ _ x => [x]
  | .iad _ _ x i => [x, i]
  | .six x i => [x, i]
  | .slc _ x lo hi mx => x :: (lo.toList ++ (hi.toList ++ mx.toList))
  | .sla _ _ _ x lo hi => x :: (lo.toList ++ hi.toList)
  | .frz _ _ x => [x]
  | .clr _ x => [x]
  | .bad => []
  | .lde _ x => [x]
  | .apr _ _ _ x y => [x, y]
  | .mks _ _ x y => [x, y]
  | .cvb x => [x]
  | .tas _ _ x => [x]
  | .isn _ x => [x]
  | .isp _ x => [x]
  | .bxn _ _ x => [x]
  | .rng x => [x]
  | .nxt n => [.t n]
  | .ext _ x _ => [x]
  | .len _ x => [x]
  | .app _ _ _ x y => [x, y]
  | .minmax _ x xs => x :: xs
  | .call _ f args => f :: args
  | .mkf _ caps => caps
  | .mkm _ caps => caps
  | .ldb _ n => [.t n]
  | .ldr _ n => [.t n]
  | .ldh _ a => [a]
  | .stb _ n x => [.t n, x]
  | .mki _ x => [x]
  | .pan x => [x]

def pv0 (o : RO) (s : St) : Option PV :=
  match o with
  | .mv _ x => (s.x x).cp
  | .pick c a b => match (s.x c).toD with
    | some (.bool t) => if t then (s.x a).cp else (s.x b).cp
    | _ => none
  | .nchk x => match s.x x with
    | .ptr id o => some (.ptr id o)
    | .eptr y o => some (.eptr y o)
    | .d (.ptr y o) => some (.eptr y o)
    | .rptr id i o => some (.rptr id i o)
    | _ => none
  | .bin op x y => match (s.x x).toD, (s.x y).toD with
    | some a, some b => (binD op a b).map .d
    | _, _ => none
  | .beq neg x y => match (s.x x).toD, (s.x y).toD with
    | some (.bool a), some (.bool b) => some (.d (.bool (if neg then !(a == b) else (a == b))))
    | _, _ => none
  | .eqv neg t x y => match (s.x x).toD, (s.x y).toD with
    | some a, some b => (eqD t a b).map fun r => .d (.bool (if neg then !r else r))
    | _, _ => none
  | .un op x => match (s.x x).toD with
    | some a => (unD op a).map .d
    | _ => none
  | .conv c x => convD c (s.x x)
  | .bld zero parts => (fillD s zero parts).map fun cs => .d (.agg cs)
  | .bsl e sz elems => (optAll (elems.map fun x => (s.x x).toD)).bind fun es => if es.all (fun y => y.width == sz) then some (.own e es) else none
  | .fad off x => addrOff off (s.x x) x.self
  | .fld off agg x => match (s.x x).toD with
    | some (.agg cs) => (partD cs off agg).map .d
    | _ => none
  | .iad arr sz x i => match (s.x i).toD with
    | some (.int _ n) => match arr with
      | some len => if 0 ≤ n ∧ n < len then addrOff (n.toNat * sz) (s.x x) x.self else none
      | none => match s.x x with
        | .rowh id lo len => if 0 ≤ n ∧ n < len then some (.ptr id (lo + n.toNat * sz)) else none
        | v => match v.toD with
          | some (.sl xs) => if 0 ≤ n then match xs[n.toNat]? with
            | some e => if e.width = sz then some (.eptr e 0) else none
            | none => none else none
          | _ => none
    | _ => none
  | .six x i => match (s.x x).toD, (s.x i).toD with
    | some (.str b), some (.int _ n) => if 0 ≤ n then match b[n.toNat]? with
      | some u => some (.d (.int .u8 u.toNat))
      | none => none else none
    | _, _ => none
  | .slc kind x lo hi mx => sliceOp s kind x lo hi mx
  | .lde agg a => (elV agg (s.x a)).map .d
  | .len str x => (lenOp str (s.x x)).map .d
  | .isp neg x => ispV neg (s.x x)
  | .minmax mx x xs => match (s.x x).toD with
    | some a => (minMaxs s mx a xs).map .d
    | _ => none
  | .mkf f caps => (optAll (caps.map fun x => (s.x x).cp)).map fun vs => .fn f vs
  | .mkm f caps => (optAll (caps.map fun x => (s.x x).cp)).map fun vs => .fnm f vs
  | .mki t x => match (s.x x).toD with
    | some y => some (.d (.ifc t y))
    | none => none
  | _ => none

def RO.plain : RO → Bool
  | .mv m _ => !m
  | .pick .. | .nchk .. | .bin .. | .beq .. | .eqv .. | .un .. | .conv .. | .bld .. | .bsl .. | .fad .. | .fld .. | .iad .. | .six .. | .lde .. | .slc .. | .len .. | .minmax .. | .mkf .. | .mkm .. | .mki .. | .isp .. => true
  | _ => false

theorem iad_aux {s : St} {dst : Option Nat} {sz : Nat} {xs : List D} {n : Int} :
    (if 0 ≤ n then match xs[n.toNat]? with
      | some e => if e.width = sz then okPut s dst (.eptr e 0) else none
      | none => none else none) =
    (if 0 ≤ n then match xs[n.toNat]? with
      | some e => if e.width = sz then some (.eptr e 0) else none
      | none => none else none : Option PV).bind (okPut s dst) := by
  cases xs[n.toNat]? with
  | none => simp only []; split <;> rfl
  | some e =>
    simp only []
    split
    · split <;> rfl
    · rfl

theorem evOp_plain (cf : CF) (dst : Option Nat) (o : RO) (s : St) (h : o.plain = true) : evOp cf dst o s = (pv0 o s).bind (okPut s dst) := by
  cases o <;> simp only [RO.plain, Bool.false_eq_true, Bool.not_eq_true'] at h <;> simp only [evOp, pv0]
  case mv m x =>
    subst h
    simp only [St.tkc]
    cases (s.x x).cp <;> rfl
  case pick c a b =>
    cases (s.x c).toD with
    | none => rfl
    | some d => cases d <;> rfl
  case nchk x => cases s.x x <;> first | rfl | (rename_i d; cases d <;> rfl)
  case bin op x y =>
    cases (s.x x).toD with
    | none => rfl
    | some a =>
      cases (s.x y).toD with
      | none => rfl
      | some b => simp only []; cases binD op a b <;> rfl
  case beq neg x y =>
    cases (s.x x).toD with
    | none => rfl
    | some a =>
      cases (s.x y).toD with
      | none => cases a <;> rfl
      | some b => cases a <;> cases b <;> rfl
  case eqv neg t x y =>
    cases (s.x x).toD with
    | none => rfl
    | some a =>
      cases (s.x y).toD with
      | none => rfl
      | some b => simp only []; cases eqD t a b <;> rfl
  case un op x =>
    cases (s.x x).toD with
    | none => rfl
    | some a => simp only []; cases unD op a <;> rfl
  case bld zero parts => cases fillD s zero parts <;> rfl
  case bsl e sz elems =>
    cases optAll (elems.map fun x => (s.x x).toD) with
    | none => rfl
    | some es => simp only [Option.bind_some]; split <;> rfl
  case fld off agg x =>
    cases (s.x x).toD with
    | none => rfl
    | some a => cases a <;> first | rfl | (simp only []; cases partD _ off agg <;> rfl)
  case iad arr sz x i =>
    cases (s.x i).toD with
    | none => rfl
    | some a =>
      cases a <;> first | rfl | skip
      simp only []
      cases arr with
      | some len => simp only []; split <;> rfl
      | none =>
        simp only []
        cases s.x x <;> simp only [PV.toD] <;> first | rfl | skip
        case d y =>
          cases y <;> simp only [] <;> first | rfl | skip
          exact iad_aux
        case rowh => split <;> rfl
        case nilsl => simp only [List.getElem?_nil]; split <;> rfl
        all_goals exact iad_aux
  case six x i =>
    cases (s.x x).toD with
    | none => rfl
    | some a =>
      cases (s.x i).toD with
      | none => cases a <;> rfl
      | some b =>
        cases a <;> cases b <;> first | rfl | skip
        rename_i bs k n
        simp only []
        generalize bs[n.toNat]? = o
        split
        · cases o <;> rfl
        · rfl
  case len str x => cases lenOp str (s.x x) <;> rfl
  case minmax mx x xs =>
    cases (s.x x).toD with
    | none => rfl
    | some a => simp only []; cases minMaxs s mx a xs <;> rfl
  case mkf f caps => cases optAll (caps.map fun x => (s.x x).cp) <;> rfl
  case mkm f caps => cases optAll (caps.map fun x => (s.x x).cp) <;> rfl
  case mki t x => cases (s.x x).toD <;> rfl

theorem nrm_toD {p q : PV} (h : nrm p = nrm q) : p.toD = q.toD := by
  cases p <;> cases q <;> simp only [nrm, reduceCtorEq, PV.d.injEq, PV.own.injEq, PV.full.injEq] at h <;> first | rfl | (obtain ⟨rfl, rfl⟩ := h; rfl) | (subst h; rfl)
theorem nrm_cp {p q : PV} (h : nrm p = nrm q) : p.cp = q.cp := by
  cases p <;> cases q <;> simp only [nrm, reduceCtorEq] at h <;> first | rfl | (injection h; subst_vars; rfl)
theorem nrm_addr {off : Nat} {p q : PV} {self : Option Nat} (h : nrm p = nrm q) : addrOff off p self = addrOff off q self := by
  cases p <;> cases q <;> simp only [nrm, reduceCtorEq] at h <;> first | rfl | (injection h; subst_vars; rfl) | (cases self <;> rfl)
theorem nrm_eq {p q : PV} (h : nrm p = nrm q) (hp : isIb p = false) : p = q := by
  cases p <;> cases q <;> simp only [nrm, reduceCtorEq] at h <;> first | (simp [isIb] at hp; done) | rfl | exact h
theorem nrm_ib {p q : PV} (h : nrm p = nrm q) : isIb p = isIb q := by
  cases p <;> cases q <;> simp only [nrm, reduceCtorEq] at h <;> rfl

theorem optAll_congr {α : Type} {f g : X → Option α} : ∀ (l : List X), (∀ x ∈ l, f x = g x) → optAll (l.map f) = optAll (l.map g)
  | [], _ => rfl
  | x :: l, h => by
    rw [List.map_cons, List.map_cons, h x (by simp)]
    cases g x with
    | none => rfl
    | some v => simp only [optAll, optAll_congr l fun y hy => h y (by simp [hy])]

theorem fillD_congr {s r : St} : ∀ (ps : List (Nat × Nat × X)) (zs : List D), (∀ x ∈ ps.map (·.2.2), nrm (s.x x) = nrm (r.x x)) → fillD s zs ps = fillD r zs ps
  | [], zs, _ => rfl
  | (o, n, x) :: ps, zs, h => by
    simp only [fillD]
    rw [nrm_toD (h x (by simp))]
    split
    · split
      · exact fillD_congr ps _ fun y hy => h y (by simp at hy ⊢; exact .inr hy)
      · rfl
    · rfl

theorem minMaxs_congr {s r : St} {mx : Bool} : ∀ (xs : List X) (a : D), (∀ x ∈ xs, nrm (s.x x) = nrm (r.x x)) → minMaxs s mx a xs = minMaxs r mx a xs
  | [], a, _ => rfl
  | x :: xs, a, h => by
    simp only [minMaxs]
    rw [nrm_toD (h x (by simp))]
    split
    · split
      · exact minMaxs_congr xs _ fun y hy => h y (by simp [hy])
      · rfl
    · rfl

theorem optInt_congr {s r : St} {x : Option X} {d : Int} (h : ∀ y ∈ x.toList, nrm (s.x y) = nrm (r.x y)) : optInt s x d = optInt r x d := by
  cases x with
  | none => rfl
  | some y => simp only [optInt]; rw [nrm_toD (h y (by simp))]

theorem pv0_congr {o : RO} {s r : St} (h : ∀ x ∈ o.xs, nrm (s.x x) = nrm (r.x x)) : pv0 o s = pv0 o r := by
  cases o <;> simp only [pv0]
  case mv m x => exact nrm_cp (h x (by simp [RO.xs]))
  case pick c a b => rw [nrm_toD (h c (by simp [RO.xs])), nrm_cp (h a (by simp [RO.xs])), nrm_cp (h b (by simp [RO.xs]))]
  case nchk x =>
    have hx := h x (by simp [RO.xs])
    cases hp : isIb (s.x x) with
    | false => rw [nrm_eq hx hp]
    | true =>
      have hq := (nrm_ib hx).symm.trans hp
      cases h1 : s.x x <;> rw [h1] at hp <;> simp [isIb] at hp
      cases h2 : r.x x <;> rw [h2] at hq <;> simp [isIb] at hq
  case isp neg x =>
    have hx := h x (by simp [RO.xs])
    cases hp : isIb (s.x x) with
    | false => rw [nrm_eq hx hp]
    | true =>
      have hq := (nrm_ib hx).symm.trans hp
      cases h1 : s.x x <;> rw [h1] at hp <;> simp [isIb] at hp
      cases h2 : r.x x <;> rw [h2] at hq <;> simp [isIb] at hq
      rfl
  case bin op x y => rw [nrm_toD (h x (by simp [RO.xs])), nrm_toD (h y (by simp [RO.xs]))]
  case beq neg x y => rw [nrm_toD (h x (by simp [RO.xs])), nrm_toD (h y (by simp [RO.xs]))]
  case eqv neg t x y => rw [nrm_toD (h x (by simp [RO.xs])), nrm_toD (h y (by simp [RO.xs]))]
  case un op x => rw [nrm_toD (h x (by simp [RO.xs]))]
  case conv c x => unfold convD; rw [nrm_toD (h x (by simp [RO.xs]))]
  case bld zero parts => rw [fillD_congr parts zero (by simpa [RO.xs] using h)]
  case bsl e sz elems => rw [optAll_congr elems fun x hx => nrm_toD (h x (by simpa [RO.xs] using hx))]
  case fad off x => exact nrm_addr (h x (by simp [RO.xs]))
  case fld off agg x => rw [nrm_toD (h x (by simp [RO.xs]))]
  case iad arr sz x i =>
    have hx := h x (by simp [RO.xs])
    have ha : ∀ o, addrOff o (s.x x) x.self = addrOff o (r.x x) x.self := fun o => nrm_addr hx
    rw [nrm_toD (h i (by simp [RO.xs]))]
    simp only [ha]
    cases hp : isIb (s.x x) with
    | false => rw [nrm_eq hx hp]
    | true =>
      have hq := (nrm_ib hx).symm.trans hp
      cases h1 : s.x x <;> rw [h1] at hp <;> simp [isIb] at hp
      cases h2 : r.x x <;> rw [h2] at hq <;> simp [isIb] at hq
      rfl
  case six x i => rw [nrm_toD (h x (by simp [RO.xs])), nrm_toD (h i (by simp [RO.xs]))]
  case slc kind x lo hi mx =>
    have hl : ∀ d, optInt s lo d = optInt r lo d := fun d => optInt_congr fun y hy => h y (by simp only [RO.xs, List.mem_cons, List.mem_append]; exact .inr (.inl hy))
    have hh : ∀ d, optInt s hi d = optInt r hi d := fun d => optInt_congr fun y hy => h y (by simp only [RO.xs, List.mem_cons, List.mem_append]; exact .inr (.inr (.inl hy)))
    have hx := h x (by simp [RO.xs])
    cases hp : isIb (s.x x) with
    | false =>
      unfold sliceOp
      rw [nrm_eq hx hp]
      simp only [hl, hh]
      cases mx with
      | none => rfl
      | some m =>
        have hm : optInt s (some m) 0 = optInt r (some m) 0 := optInt_congr fun y hy => h y (by simp only [RO.xs, List.mem_cons, List.mem_append]; exact .inr (.inr (.inr hy)))
        simp only [hm]
    | true =>
      have hq := (nrm_ib hx).symm.trans hp
      unfold sliceOp
      cases h1 : s.x x <;> rw [h1] at hp <;> simp [isIb] at hp
      cases h2 : r.x x <;> rw [h2] at hq <;> simp [isIb] at hq
      simp only [PV.toD]
      cases kind <;> rfl
  case len str x =>
    have hx := h x (by simp [RO.xs])
    cases hp : isIb (s.x x) with
    | false => rw [nrm_eq hx hp]
    | true =>
      have hq := (nrm_ib hx).symm.trans hp
      cases h1 : s.x x <;> rw [h1] at hp <;> simp [isIb] at hp
      cases h2 : r.x x <;> rw [h2] at hq <;> simp [isIb] at hq
      rfl
  case lde agg x =>
    have hx := h x (by simp [RO.xs])
    cases hp : isIb (s.x x) with
    | false => rw [nrm_eq hx hp]
    | true =>
      have hq := (nrm_ib hx).symm.trans hp
      cases h1 : s.x x <;> rw [h1] at hp <;> simp [isIb] at hp
      cases h2 : r.x x <;> rw [h2] at hq <;> simp [isIb] at hq
      rfl
  case minmax mx x xs =>
    rw [nrm_toD (h x (by simp [RO.xs]))]
    split
    · rw [minMaxs_congr xs _ fun y hy => h y (by simp [RO.xs, hy])]
    · rfl
  case mkf f caps => rw [optAll_congr caps fun x hx => nrm_cp (h x (by simpa [RO.xs] using hx))]
  case mkm f caps => rw [optAll_congr caps fun x hx => nrm_cp (h x (by simpa [RO.xs] using hx))]
  case mki t x => rw [nrm_toD (h x (by simp [RO.xs]))]

end Go.Pe

namespace Go.Pe

abbrev St.at (s : St) (t : Nat) : PV := s.tm.getD t .dead

theorem getD_set {l : List PV} {a t : Nat} {v : PV} : (l.set a v).getD t .dead = if a = t ∧ a < l.length then v else l.getD t .dead := by
  simp only [List.getD_eq_getElem?_getD, List.getElem?_set]
  by_cases h : a = t
  · subst h
    by_cases h2 : a < l.length
    · simp [h2]
    · simp [h2]
  · simp [h]

theorem set_getD {l : List PV} {t : Nat} {v : PV} (h : l.getD t .dead = v) : l.set t v = l := by
  by_cases ht : t < l.length
  · have : l[t] = v := by simpa [List.getD_eq_getElem?_getD, ht] using h
    subst this
    exact List.set_getElem_self ht
  · exact List.set_eq_of_length_le (by omega)

theorem setAll_get : ∀ (ups : List (Nat × PV)) (l : List PV) (t : Nat), (setAll l ups).getD t .dead = l.getD t .dead ∨ ∃ v, (t, v) ∈ ups ∧ (setAll l ups).getD t .dead = v
  | [], l, t => .inl rfl
  | (a, v) :: r, l, t => by
    simp only [setAll]
    rcases setAll_get r (l.set a v) t with h | ⟨w, h1, h2⟩
    · rw [h, getD_set]
      split
      · rename_i hc
        obtain ⟨rfl, _⟩ := hc
        exact .inr ⟨v, by simp, rfl⟩
      · exact .inl rfl
    · exact .inr ⟨w, by simp [h1], h2⟩

theorem setAll_append (l : List PV) : ∀ (a b : List (Nat × PV)), setAll l (a ++ b) = setAll (setAll l a) b := by
  intro a
  induction a generalizing l with
  | nil => intro b; rfl
  | cons u a ih => intro b; simp only [List.cons_append, setAll]; exact ih _ b

theorem setAll_set {l : List PV} {t : Nat} {v : PV} : ∀ (b : List (Nat × PV)), (∀ u ∈ b, t ≠ u.1) → setAll (l.set t v) b = (setAll l b).set t v := by
  intro b
  induction b generalizing l with
  | nil => intro _; rfl
  | cons u b ih =>
    intro h
    simp only [setAll]
    rw [List.set_comm _ _ (h u (by simp))]
    exact ih fun w hw => h w (by simp [hw])

theorem setAll_comm {l : List PV} : ∀ (a b : List (Nat × PV)), (∀ u ∈ a, ∀ v ∈ b, u.1 ≠ v.1) → setAll (setAll l a) b = setAll (setAll l b) a := by
  intro a
  induction a generalizing l with
  | nil => intro b _; rfl
  | cons u a ih =>
    intro b h
    simp only [setAll]
    rw [ih b fun w hw => h w (by simp [hw]), setAll_set b fun v hv => h u (by simp) v hv]

def Agr (c : Nat) (U : List Nat) (s r : St) : Prop :=
  (∀ t ∈ U, nrm (r.at t) = nrm (s.at t)) ∧
  (c = 1 ∨ c = 3 → r.hp = s.hp ∧ ∀ t, isIb (s.at t) = true → r.at t = s.at t)

def UpOk (c : Nat) (W : List Nat) (s : St) (u : Nat × PV) : Prop :=
  (u.1 ∈ W ∧ isIb (s.at u.1) = false ∧ (c ≠ 2 → isIb u.2 = false)) ∨ (c = 3 ∧ isIb (s.at u.1) = true ∧ isIb u.2 = true)

def Fr (c : Nat) (U W : List Nat) (f : St → Option St) : Prop :=
  ∀ s s1, f s = some s1 → ∃ ups h, s1 = ⟨setAll s.tm ups, h.getD s.hp⟩ ∧ (c ≠ 3 → h = none) ∧ (∀ u ∈ ups, UpOk c W s u) ∧ ∀ r, Agr c U s r → f r = some ⟨setAll r.tm ups, h.getD r.hp⟩

def pairOk : Nat → Nat → Bool
  | 0, _ => true
  | _, 0 => true
  | 1, 1 => true
  | 1, 2 => true
  | 2, 2 => true
  | _, _ => false

theorem pairOk_cases {a b : Nat} (h : pairOk a b = true) : a = 0 ∨ b = 0 ∨ (a = 1 ∧ b = 1) ∨ (a = 1 ∧ b = 2) ∨ (a = 2 ∧ b = 2) := by
  unfold pairOk at h
  split at h <;> simp_all

theorem isIb_of_nrm {p q : PV} (h : nrm p = nrm q) : isIb p = isIb q := nrm_ib h

theorem up_at {c : Nat} {W : List Nat} {s : St} {ups : List (Nat × PV)} (h : ∀ u ∈ ups, UpOk c W s u) {t : Nat} (ht : t ∉ W) : nrm ((setAll s.tm ups).getD t .dead) = nrm (s.at t) := by
  rcases setAll_get ups s.tm t with e | ⟨v, hv, e⟩
  · rw [e]
  · rcases h _ hv with ⟨h1, _⟩ | ⟨_, h2, h3⟩
    · exact absurd h1 ht
    · rw [e]
      simp only at h2 h3
      cases h4 : s.at t <;> rw [h4] at h2 <;> simp [isIb] at h2
      cases v <;> simp [isIb] at h3
      rfl

theorem up_ib {c : Nat} {W : List Nat} {s : St} {ups : List (Nat × PV)} (hc : c = 0 ∨ c = 1) (h : ∀ u ∈ ups, UpOk c W s u) {t : Nat} (ht : isIb (s.at t) = true ∨ isIb ((setAll s.tm ups).getD t .dead) = true) : (setAll s.tm ups).getD t .dead = s.at t := by
  rcases setAll_get ups s.tm t with e | ⟨v, hv, e⟩
  · exact e
  · rcases h _ hv with ⟨_, h1, h2⟩ | ⟨h0, _⟩
    · simp only at h1 h2
      rw [e] at ht ⊢
      rw [h1, h2 (by omega)] at ht
      simp at ht
    · omega

theorem up_ib1 {c : Nat} {W : List Nat} {s : St} {ups : List (Nat × PV)} (hc : c ≠ 3) (h : ∀ u ∈ ups, UpOk c W s u) {t : Nat} (ht : isIb (s.at t) = true) : (setAll s.tm ups).getD t .dead = s.at t := by
  rcases setAll_get ups s.tm t with e | ⟨v, hv, e⟩
  · exact e
  · rcases h _ hv with ⟨_, h1, _⟩ | ⟨h0, _⟩
    · simp only at h1
      rw [h1] at ht
      simp at ht
    · exact absurd h0 hc

theorem swap {c1 c2 : Nat} {U1 W1 U2 W2 : List Nat} {f1 f2 : St → Option St} (h1 : Fr c1 U1 W1 f1) (h2 : Fr c2 U2 W2 f2) (hW1 : ∀ t ∈ W1, t ∈ U1) (hW2 : ∀ t ∈ W2, t ∈ U2)
    (d12 : ∀ t ∈ W1, t ∉ U2) (d21 : ∀ t ∈ W2, t ∉ U1) (hc : pairOk c1 c2 = true) {s s1 s2 : St} (e1 : f1 s = some s1) (e2 : f2 s1 = some s2) : ∃ s1', f2 s = some s1' ∧ f1 s1' = some s2 := by
  obtain ⟨ups1, k1, rfl, n1, o1, r1⟩ := h1 s s1 e1
  obtain ⟨ups2, k2, rfl, n2, o2, r2⟩ := h2 _ s2 e2
  have hcc := pairOk_cases hc
  have a2 : Agr c2 U2 ⟨setAll s.tm ups1, k1.getD s.hp⟩ s := by
    refine ⟨fun t ht => (up_at o1 fun hw => d12 t hw ht).symm, fun h => ?_⟩
    have hc1 : c1 = 0 ∨ c1 = 1 := by omega
    refine ⟨by rw [n1 (by omega)]; rfl, fun t ht => (up_ib hc1 o1 (.inr ht)).symm⟩
  have b2 := r2 s a2
  refine ⟨_, b2, ?_⟩
  have o2' : ∀ u ∈ ups2, UpOk c2 W2 s u := by
    intro u hu
    rcases o2 u hu with ⟨p1, p2, p3⟩ | ⟨p1, p2, p3⟩
    · refine .inl ⟨p1, ?_, p3⟩
      rw [isIb_of_nrm (a2.1 u.1 (hW2 _ p1))]
      exact p2
    · refine .inr ⟨p1, ?_, p3⟩
      rw [(a2.2 (.inr p1)).2 u.1 p2]
      exact p2
  have a1 : Agr c1 U1 s ⟨setAll s.tm ups2, k2.getD s.hp⟩ := by
    refine ⟨fun t ht => up_at o2' fun hw => d21 t hw ht, fun h => ?_⟩
    have hc2 : c2 ≠ 3 := by omega
    refine ⟨by rw [n2 (by omega)]; rfl, fun t ht => up_ib1 hc2 o2' ht⟩
  rw [r1 _ a1]
  have hcomm : setAll (setAll s.tm ups2) ups1 = setAll (setAll s.tm ups1) ups2 := by
    refine setAll_comm ups2 ups1 ?_
    intro u hu v hv e
    rcases o2' u hu with ⟨p1, p2, p3⟩ | ⟨p1, p2, p3⟩ <;> rcases o1 v hv with ⟨q1, q2, q3⟩ | ⟨q1, q2, q3⟩
    · exact d21 _ p1 (e ▸ hW1 _ q1)
    · rw [e] at p2; rw [p2] at q2; simp at q2
    · rw [e] at p2; rw [p2] at q2; simp at q2
    · omega
  have hh : k1.getD (k2.getD s.hp) = k2.getD (k1.getD s.hp) := by
    by_cases e : c1 = 3
    · rw [n2 (by omega)]; rfl
    · rw [n1 e]; rfl
  simp only [hcomm, hh]

end Go.Pe

namespace Go.Pe

def FrV (c : Nat) (U W : List Nat) (f : St → Option (PV × St)) : Prop :=
  ∀ s v s1, f s = some (v, s1) → ∃ ups h, s1 = ⟨setAll s.tm ups, h.getD s.hp⟩ ∧ (c ≠ 3 → h = none) ∧ (∀ u ∈ ups, UpOk c W s u ∧ isIb (s.at u.1) = isIb u.2) ∧ (c ≠ 2 → isIb v = false) ∧
    ∀ r, Agr c U s r → f r = some (v, ⟨setAll r.tm ups, h.getD r.hp⟩)

theorem put_fr {s s1 : St} {dst : Option Nat} {v : PV} (h : s.put dst v = some s1) : s1 = ⟨setAll s.tm (dst.toList.map (·, v)), s.hp⟩ ∧ ∀ d ∈ dst.toList, isIb (s.at d) = false := by
  cases dst with
  | none =>
    simp only [St.put, Option.some.injEq] at h
    subst h
    exact ⟨rfl, by simp⟩
  | some d =>
    simp only [St.put] at h
    split at h
    · simp at h
    · rename_i hne
      simp only [Option.some.injEq] at h
      subst h
      refine ⟨rfl, ?_⟩
      intro d' hd
      obtain rfl : d' = d := by simpa using hd
      cases hq : s.at d' with
      | ibox cs => exact absurd hq (hne cs)
      | _ => rfl

theorem put_of {r : St} {dst : Option Nat} {v : PV} (h : ∀ d ∈ dst.toList, isIb (r.at d) = false) : r.put dst v = some ⟨setAll r.tm (dst.toList.map (·, v)), r.hp⟩ := by
  cases dst with
  | none => rfl
  | some d =>
    have hd := h d (by simp)
    simp only [St.put]
    split
    · rename_i cs hq
      have : isIb (r.at d) = true := by
        show isIb (r.tm.getD d .dead) = true
        rw [hq]; rfl
      rw [this] at hd
      simp at hd
    · rfl

theorem setAll_ib {ups : List (Nat × PV)} {s : St} (h : ∀ u ∈ ups, isIb (s.at u.1) = isIb u.2) (t : Nat) : isIb ((setAll s.tm ups).getD t .dead) = isIb (s.at t) := by
  rcases setAll_get ups s.tm t with e | ⟨v, hv, e⟩
  · rw [e]
  · rw [e]; exact (h _ hv).symm

theorem FrV.put {c : Nat} {U W : List Nat} {f : St → Option (PV × St)} (h : FrV c U W f) (hW : ∀ t ∈ W, t ∈ U) (dst : Option Nat) : Fr c (dst.toList ++ U) (dst.toList ++ W) (fun s => (f s).bind fun p => p.2.put dst p.1) := by
  intro s s1 e
  simp only [Option.bind_eq_some_iff] at e
  obtain ⟨⟨v, s2⟩, e1, e2⟩ := e
  obtain ⟨ups, k, rfl, h1, h2, h3, h4⟩ := h s v s2 e1
  obtain ⟨rfl, p2⟩ := put_fr e2
  have hb : ∀ u ∈ ups, isIb (s.at u.1) = isIb u.2 := fun u hu => (h2 u hu).2
  have hd : ∀ d ∈ dst.toList, isIb (s.at d) = false := fun d hd => by
    have := p2 d hd
    rwa [show St.at ⟨setAll s.tm ups, k.getD s.hp⟩ d = (setAll s.tm ups).getD d .dead from rfl, setAll_ib hb] at this
  refine ⟨ups ++ dst.toList.map (·, v), k, by simp only [setAll_append], h1, ?_, ?_⟩
  · intro u hu
    rcases List.mem_append.1 hu with hu | hu
    · rcases (h2 u hu).1 with ⟨q1, q2, q3⟩ | q
      · exact .inl ⟨by simp [q1], q2, q3⟩
      · exact .inr q
    · obtain ⟨d, hd', rfl⟩ := List.mem_map.1 hu
      exact .inl ⟨List.mem_append.2 (.inl hd'), hd d hd', h3⟩
  · intro r hr
    have hr' : Agr c U s r := ⟨fun t ht => hr.1 t (by simp [ht]), hr.2⟩
    have hrb : ∀ u ∈ ups, isIb (r.at u.1) = isIb u.2 := by
      intro u hu
      rw [← hb u hu]
      rcases (h2 u hu).1 with ⟨w1, w2, w3⟩ | ⟨w1, w2, w3⟩
      · exact isIb_of_nrm (hr.1 u.1 (by simp [hW _ w1]))
      · rw [(hr.2 (.inr w1)).2 u.1 w2]
    simp only [h4 r hr', Option.bind_some]
    rw [put_of (r := ⟨setAll r.tm ups, k.getD r.hp⟩) (v := v)]
    · simp only [setAll_append]
    · intro d hd'
      show isIb ((setAll r.tm ups).getD d .dead) = false
      rw [setAll_ib hrb, isIb_of_nrm (hr.1 d (by simp [hd']))]
      exact hd d hd'

end Go.Pe

namespace Go.Pe

def RO.kl : RO → List Nat
  | .mv m x => if m then x.tmps else []
  | .mvt x => x.tmps
  | .sto _ _ x => x.tmps
  | .ext m x _ => if m then x.tmps else []
  | .app _ _ _ x _ => x.tmps
  | .stb _ _ x => x.tmps
  | _ => []

def RO.cls (pf : Nat → Bool) : RO → Nat
  | .zal heap _ => if heap then 3 else 2
  | .bx heap _ _ => if heap then 3 else 2
  | .ld m _ _ => if m then 3 else 1
  | .ldb .. => 1
  | .ldr .. => 1
  | .ldh .. => 1
  | .stb .. => 3
  | .sto .. => 3
  | .sla .. => 3
  | .frz .. => 3
  | .clr .. => 3
  | .bad => 3
  | .apr .. => 3
  | .mks .. => 3
  | .cvb .. => 3
  | .tas .. => 3
  | .isn .. => 3
  | .bxn .. => 3
  | .rng .. => 3
  | .nxt .. => 3
  | .call _ f _ => match f with
    | .f n => if pf n then 0 else 3
    | _ => 3
  | .pan _ => 3
  | _ => 0

def bxCells (agg : Bool) (v : PV) : Option (List PV) :=
  if agg then match v.toD with | some (.agg ds) => some (ds.map PV.d) | _ => none
      else v.cp.bind fun q => if q.one then some [q] else none

def newBox (heap : Bool) (cs : List PV) (s : St) : PV × St := if heap then (.ptr s.hp.length 0, { s with hp := s.hp ++ [.box cs] }) else (.ibox cs, s)

def extV (m : Bool) (x : X) (i : Nat) (s : St) : Option (PV × St) :=
  match s.x x, x with
    | .tup vs, .t n => match vs[i]? with
      | some v => if m then match v with
          | .own e xs => some (.own e xs, { s with tm := s.tm.set n (.tup (vs.set i .dead)) })
          | v => v.cp.map (·, s)
        else v.cp.map (·, s)
      | none => none
    | _, _ => none

def mvtV (x : X) (s : St) : Option (PV × St) :=
  match s.x x, x with
    | .tup vs, .t n => some (.tup vs, { s with tm := s.tm.set n .dead })
    | _, _ => none

def callV (cf : CF) (m : Bool) (f : X) (args : List X) (s : St) : Option (PV × St) :=
  match s.x f with
    | .fn g caps => (optAll (args.map fun x => (s.x x).cp)).bind fun vs =>
      (cf g (vs ++ caps) s.hp).bind fun
        | .ret v hp => some (if m then v else v.demote, { s with hp })
        | .pan v hp => none
    | .fnm g fst => (optAll (args.map fun x => (s.x x).cp)).bind fun vs =>
      (cf g (fst ++ vs) s.hp).bind fun
        | .ret v hp => some (if m then v else v.demote, { s with hp })
        | .pan v hp => none
    | _ => none

def evV (cf : CF) (o : RO) (s : St) : Option (PV × St) :=
  match o with
  | .mv m x => s.tkc m x
  | .mvt x => mvtV x s
  | .zal heap cs => some (newBox heap cs s)
  | .bx heap agg x => (bxCells agg (s.x x)).map fun cs => newBox heap cs s
  | .ld m agg a => s.load m agg (s.x a) a.self
  | .ldb agg n => (ldbV agg (s.tm.getD n .dead)).map (·, s)
  | .ldr agg n => (ldrV agg s n).map (·, s)
  | .ldh agg a => (ldhV agg s.hp (s.x a)).map (·, s)
  | .stb .. => none
  | .ext m x i => extV m x i s
  | .app e sz bytes x y => appOp s e sz bytes x y
  | .call m f args => callV cf m f args s
  | .sto .. => none
  | .sla .. => none
  | .frz .. => none
  | .clr .. => none
  | .bad => none
  | .apr .. => none
  | .mks .. => none
  | .cvb .. => none
  | .tas .. => none
  | .isn .. => none
  | .bxn .. => none
  | .rng .. => none
  | .nxt .. => none
  | .pan _ => none
  | o => (pv0 o s).map (·, s)

def RO.isSla : RO → Bool
  | .sla .. => true
  | .frz .. => true
  | .clr .. => true
  | .bad => true
  | .apr .. => true
  | .mks .. => true
  | .cvb .. => true
  | .tas .. => true
  | .isn .. => true
  | .bxn .. => true
  | .rng .. => true
  | .nxt .. => true
  | _ => false

def okOf : Option OR → Option St
  | some (.ok s) => some s
  | _ => none

def stoS (agg : Option Nat) (a x : X) (s : St) : Option St := (s.tk true x).bind fun p => p.2.store agg (p.2.x a) a.self p.1

theorem okOf_put {s : St} {dst : Option Nat} {v : PV} : okOf (okPut s dst v) = s.put dst v := by
  unfold okPut
  cases s.put dst v <;> rfl

theorem ok_evV (cf : CF) (dst : Option Nat) (o : RO) (s : St) (hs : ∀ agg a x, o ≠ .sto agg a x) (hs2 : ∀ agg n x, o ≠ .stb agg n x) (hl : o.isSla = false) : okOf (evOp cf dst o s) = (evV cf o s).bind fun p => p.2.put dst p.1 := by
  have plain : o.plain = true → evV cf o s = (pv0 o s).map (·, s) → okOf (evOp cf dst o s) = (evV cf o s).bind fun p => p.2.put dst p.1 := by
    intro h e
    rw [evOp_plain cf dst o s h, e]
    cases pv0 o s with
    | none => rfl
    | some v => simp only [Option.bind_some, Option.map_some, okOf_put]
  cases o
  case mv m x =>
    simp only [evOp, evV]
    cases s.tkc m x with
    | none => rfl
    | some p => simp only [Option.bind_some, okOf_put]
  case mvt x =>
    simp only [evOp, evV, mvtV]
    cases x with
    | t n => cases s.x (.t n) <;> first | rfl | simp only [Option.bind_some, okOf_put]
    | c v => cases s.x (.c v) <;> rfl
    | f n => rfl
  case zal heap cs =>
    simp only [evOp, evV, newBox]
    cases heap <;> simp only [Bool.false_eq_true, if_true, if_false, Option.bind_some, okOf_put]
  case bx heap agg x =>
    simp only [evOp, evV]
    show okOf ((bxCells agg (s.x x)).bind _) = _
    cases bxCells agg (s.x x) with
    | none => rfl
    | some cs =>
      simp only [newBox, Option.bind_some, Option.map_some]
      cases heap <;> simp only [Bool.false_eq_true, if_true, if_false, Option.bind_some, okOf_put]
  case ld m agg a =>
    simp only [evOp, evV]
    cases s.load m agg (s.x a) a.self with
    | none => rfl
    | some p => simp only [Option.bind_some, okOf_put]
  case sto agg a x => exact absurd rfl (hs agg a x)
  case stb agg n x => exact absurd rfl (hs2 agg n x)
  case ldr agg n =>
    simp only [evOp, evV]
    cases ldrV agg s n with
    | none => rfl
    | some v => simp only [Option.bind_some, Option.map_some, okOf_put]
  case ldh agg a =>
    simp only [evOp, evV]
    cases ldhV agg s.hp (s.x a) with
    | none => rfl
    | some v => simp only [Option.bind_some, Option.map_some, okOf_put]
  case sla => simp [RO.isSla] at hl
  case frz => simp [RO.isSla] at hl
  case clr => simp [RO.isSla] at hl
  case bad => simp [RO.isSla] at hl
  case apr => simp [RO.isSla] at hl
  case mks => simp [RO.isSla] at hl
  case cvb => simp [RO.isSla] at hl
  case tas => simp [RO.isSla] at hl
  case isn => simp [RO.isSla] at hl
  case bxn => simp [RO.isSla] at hl
  case rng => simp [RO.isSla] at hl
  case nxt => simp [RO.isSla] at hl
  case ext m x i =>
    simp only [evOp, evV, extV]
    cases x with
    | t n =>
      cases s.x (.t n) <;> try rfl
      rename_i vs
      simp only []
      cases vs[i]? with
      | none => rfl
      | some v =>
        simp only []
        cases m with
        | false =>
          simp only [Bool.false_eq_true, if_false]
          cases v.cp <;> simp only [Option.bind_some, Option.map_some, okOf_put, Option.bind_none, Option.map_none] <;> rfl
        | true =>
          simp only [if_true]
          cases v <;> simp only [PV.cp, Option.bind_some, Option.map_some, okOf_put, Option.bind_none, Option.map_none] <;> rfl
    | c v => cases s.x (.c v) <;> rfl
    | f n => rfl
  case app e sz bytes x y =>
    simp only [evOp, evV]
    cases appOp s e sz bytes x y with
    | none => rfl
    | some p => simp only [Option.bind_some, okOf_put]
  case call m f args =>
    simp only [evOp, evV, callV]
    cases s.x f <;> try rfl
    · rename_i g caps
      simp only []
      cases optAll (args.map fun x => (s.x x).cp) with
      | none => rfl
      | some vs =>
        simp only [Option.bind_some]
        cases cf g (vs ++ caps) s.hp with
        | none => rfl
        | some o => cases o <;> simp only [Option.bind_some, okOf_put] <;> rfl
    · rename_i g caps
      simp only []
      cases optAll (args.map fun x => (s.x x).cp) with
      | none => rfl
      | some vs =>
        simp only [Option.bind_some]
        cases cf g (caps ++ vs) s.hp with
        | none => rfl
        | some o => cases o <;> simp only [Option.bind_some, okOf_put] <;> rfl
  case ldb agg n =>
    simp only [evOp, evV]
    cases ldbV agg (s.tm.getD n .dead) with
    | none => rfl
    | some v => simp only [Option.bind_some, Option.map_some, okOf_put]
  case pan x =>
    simp only [evOp, evV]
    cases (s.x x).toD with
    | none => rfl
    | some d => cases d <;> rfl
  all_goals exact plain rfl rfl

theorem ok_sto (cf : CF) (dst : Option Nat) (agg : Option Nat) (a x : X) (s : St) : okOf (evOp cf dst (.sto agg a x) s) = stoS agg a x s := by
  simp only [evOp, stoS]
  cases s.tk true x with
  | none => rfl
  | some p =>
    simp only [Option.bind_some]
    cases p.2.store agg (p.2.x a) a.self p.1 <;> rfl

theorem cp_ib {p q : PV} (h : p.cp = some q) : isIb q = false := by
  cases p <;> simp only [PV.cp, Option.some.injEq, reduceCtorEq] at h <;> subst h <;> rfl

theorem addr_ib {off : Nat} {p q : PV} {self : Option Nat} (h : addrOff off p self = some q) : isIb q = false := by
  unfold addrOff at h
  split at h <;> simp only [Option.some.injEq, reduceCtorEq] at h <;> subst h <;> rfl

theorem conv_ib {c : Cv} {p q : PV} (h : convD c p = some q) : isIb q = false := by
  unfold convD at h
  split at h <;> simp only [Option.some.injEq, reduceCtorEq, Option.map_eq_some_iff] at h <;> first | (subst h; rfl) | (obtain ⟨_, _, rfl⟩ := h; rfl)

theorem slice_ib {s : St} {kind : Option Nat} {x : X} {lo hi mx : Option X} {q : PV} (h : sliceOp s kind x lo hi mx = some q) : isIb q = false := by
  unfold sliceOp at h
  repeat' split at h
  all_goals first | (simp at h; done) | (simp only [Option.some.injEq] at h; subst h; rfl)

theorem pv0_ib {o : RO} {s : St} {v : PV} (h : pv0 o s = some v) : isIb v = false := by
  cases o <;> simp only [pv0, reduceCtorEq] at h
  case mv => exact cp_ib h
  case pick =>
    repeat' split at h
    all_goals first | exact cp_ib h | (simp at h; done)
  case conv => exact conv_ib h
  case isp =>
    unfold ispV at h
    split at h <;> first | (simp at h; done) | (simp only [Option.some.injEq] at h; subst h; rfl)
  case fad => exact addr_ib h
  case slc => exact slice_ib h
  case bld => obtain ⟨_, _, rfl⟩ := Option.map_eq_some_iff.1 h; rfl
  case len => obtain ⟨_, _, rfl⟩ := Option.map_eq_some_iff.1 h; rfl
  case mkf => obtain ⟨_, _, rfl⟩ := Option.map_eq_some_iff.1 h; rfl
  case mkm => obtain ⟨_, _, rfl⟩ := Option.map_eq_some_iff.1 h; rfl
  case bsl =>
    rw [Option.bind_eq_some_iff] at h
    obtain ⟨_, _, h⟩ := h
    split at h
    · simp only [Option.some.injEq] at h; subst h; rfl
    · simp at h
  case iad =>
    repeat' split at h
    all_goals first | exact addr_ib h | (simp at h; done) | (simp only [Option.some.injEq] at h; subst h; rfl)
  all_goals
    repeat' split at h
    all_goals first | (simp at h; done) | (simp only [Option.some.injEq] at h; subst h; rfl) | (obtain ⟨_, _, rfl⟩ := Option.map_eq_some_iff.1 h; rfl)

end Go.Pe

namespace Go.Pe

structure CFNice (pf : Nat → Bool) (cf : CF) : Prop where
  nib : ∀ f args hp v hp', cf f args hp = some (.ret v hp') → isIb v = false
  pure : ∀ f, pf f = true → ∀ args hp v hp1, cf f args hp = some (.ret v hp1) → hp1 = hp ∧ ∀ hp', cf f args hp' = some (.ret v hp')
  ppan : ∀ f, pf f = true → ∀ args hp v hp1, cf f args hp = some (.pan v hp1) → hp1 = hp ∧ ∀ hp', cf f args hp' = some (.pan v hp')

def xsT (xs : List X) : List Nat := xs.flatMap X.tmps

theorem x_nrm {s r : St} {x : X} (h : ∀ t ∈ x.tmps, nrm (r.at t) = nrm (s.at t)) : nrm (s.x x) = nrm (r.x x) := by
  cases x with
  | t n => exact (h n (by simp [X.tmps])).symm
  | c v => rfl
  | f n => rfl

theorem xs_nrm {c : Nat} {s r : St} {xs : List X} {U : List Nat} (h : Agr c U s r) (hU : ∀ t ∈ xsT xs, t ∈ U) {x : X} (hx : x ∈ xs) : nrm (s.x x) = nrm (r.x x) :=
  x_nrm fun t ht => h.1 t (hU t (List.mem_flatMap.2 ⟨x, hx, ht⟩))

theorem x_same {c : Nat} {s r : St} {x : X} {U : List Nat} (h : Agr c U s r) (hc : c = 1 ∨ c = 3) (hU : ∀ t ∈ x.tmps, t ∈ U) : s.x x = r.x x := by
  cases x with
  | t n =>
    have hn := h.1 n (hU n (by simp [X.tmps]))
    show s.at n = r.at n
    cases e : isIb (s.at n) with
    | true => exact ((h.2 hc).2 n e).symm
    | false => exact nrm_eq hn.symm e
  | c v => rfl
  | f n => rfl

theorem fr_plain (o : RO) : FrV 0 (xsT o.xs) [] (fun s => (pv0 o s).map (·, s)) := by
  intro s v s1 h
  simp only [Option.map_eq_some_iff, Prod.mk.injEq] at h
  obtain ⟨w, hw, rfl, rfl⟩ := h
  refine ⟨[], none, rfl, fun _ => rfl, by simp, fun _ => pv0_ib hw, ?_⟩
  intro r hr
  show (pv0 o r).map (·, r) = _
  rw [← pv0_congr (s := s) (r := r) fun x hx => xs_nrm hr (fun t ht => ht) hx, hw]
  rfl

theorem fr_tkc (m : Bool) (x : X) : FrV 0 x.tmps (if m then x.tmps else []) (fun s => s.tkc m x) := by
  intro s v s1 h
  have hcp : ∀ (s r : St) (m : Bool) (x : X), (∀ e xs, s.x x ≠ .own e xs) ∨ m = false ∨ x.tmps = [] → s.tkc m x = (s.x x).cp.map (·, s) := by
    intro s r m x hh
    unfold St.tkc
    split
    · rename_i n e xs hq
      rcases hh with hh | hh | hh
      · exact absurd hq (hh e xs)
      · simp at hh
      · simp [X.tmps] at hh
    · rfl
  by_cases hh : (∀ e xs, s.x x ≠ .own e xs) ∨ m = false ∨ x.tmps = []
  · simp only [hcp s s m x hh, Option.map_eq_some_iff, Prod.mk.injEq] at h
    obtain ⟨w, hw, rfl, rfl⟩ := h
    refine ⟨[], none, rfl, fun _ => rfl, by simp, fun _ => cp_ib hw, ?_⟩
    intro r hr
    have hn := x_nrm hr.1
    have hh' : (∀ e xs, r.x x ≠ .own e xs) ∨ m = false ∨ x.tmps = [] := by
      rcases hh with hh | hh | hh
      · refine .inl fun e xs he => ?_
        rw [he] at hn
        exact hh e xs (nrm_eq hn.symm rfl).symm
      · exact .inr (.inl hh)
      · exact .inr (.inr hh)
    simp only [hcp r r m x hh']
    rw [← nrm_cp hn, hw]
    rfl
  · have h1 : ∃ e xs, s.x x = .own e xs := Classical.byContradiction fun hn => hh (.inl fun e xs he => hn ⟨e, xs, he⟩)
    obtain ⟨e, xs, hq⟩ := h1
    have hm : m = true := by cases m <;> simp at hh ⊢
    subst hm
    cases x with
    | t n =>
      simp only [St.tkc, hq, Option.some.injEq, Prod.mk.injEq] at h
      obtain ⟨rfl, rfl⟩ := h
      have hat : s.at n = .own e xs := hq
      refine ⟨[(n, .d (.sl xs))], none, rfl, fun _ => rfl, ?_, fun _ => rfl, ?_⟩
      · intro u hu
        simp only [List.mem_singleton] at hu
        subst hu
        simp only [hat]
        exact ⟨.inl ⟨by simp [X.tmps], by rw [hat]; rfl, fun _ => rfl⟩, rfl⟩
      · intro r hr
        have hn := x_nrm (s := s) (r := r) (x := .t n) hr.1
        rw [hq] at hn
        have hq' := (nrm_eq hn rfl).symm
        simp only [St.tkc, hq']
        rfl
    | c v => simp [X.tmps] at hh
    | f n => simp [X.tmps] at hh

theorem fr_mvt (x : X) : FrV 0 x.tmps x.tmps (mvtV x) := by
  intro s v s1 h
  cases x with
  | c w => simp only [mvtV] at h; split at h <;> simp_all
  | f n => simp only [mvtV, St.x] at h; simp at h
  | t n =>
    simp only [mvtV] at h
    split at h
    · rename_i vs n' hq hn'
      simp only [X.t.injEq] at hn'
      subst hn'
      have hat : s.at n = .tup vs := hq
      simp only [Option.some.injEq, Prod.mk.injEq] at h
      obtain ⟨rfl, rfl⟩ := h
      refine ⟨[(n, .dead)], none, rfl, fun _ => rfl, ?_, fun _ => rfl, ?_⟩
      · intro u hu
        simp only [List.mem_singleton] at hu
        subst hu
        simp only [hat]
        exact ⟨.inl ⟨by simp [X.tmps], by rw [hat]; rfl, fun _ => rfl⟩, rfl⟩
      · intro r hr
        have hn := x_nrm (s := s) (r := r) (x := .t n) hr.1
        rw [hq] at hn
        simp only [mvtV, ← nrm_eq hn rfl]
        rfl
    · simp at h

theorem fr_box (heap : Bool) (cs : List PV) : FrV (if heap then 3 else 2) [] [] (fun s => some (newBox heap cs s)) := by
  intro s v s1 h
  simp only [Option.some.injEq] at h
  cases heap with
  | false =>
    simp only [newBox, Bool.false_eq_true, if_false, Prod.mk.injEq] at h
    obtain ⟨rfl, rfl⟩ := h
    exact ⟨[], none, rfl, fun _ => rfl, by simp, fun hc => absurd rfl hc, fun r hr => rfl⟩
  | true =>
    simp only [newBox, if_true, Prod.mk.injEq] at h
    obtain ⟨rfl, rfl⟩ := h
    refine ⟨[], some (s.hp ++ [.box cs]), rfl, fun hc => absurd rfl hc, by simp, fun _ => rfl, ?_⟩
    intro r hr
    have : r.hp = s.hp := (hr.2 (.inr rfl)).1
    simp only [newBox, if_true, this]
    rfl

theorem FrV.weaken {c : Nat} {U W U' W' : List Nat} {f : St → Option (PV × St)} (h : FrV c U W f) (hU : ∀ t ∈ U, t ∈ U') (hW : ∀ t ∈ W, t ∈ W') : FrV c U' W' f := by
  intro s v s1 e
  obtain ⟨ups, k, h1, h2, h3, h4, h5⟩ := h s v s1 e
  refine ⟨ups, k, h1, h2, fun u hu => ⟨?_, (h3 u hu).2⟩, h4, fun r hr => h5 r ⟨fun t ht => hr.1 t (hU t ht), hr.2⟩⟩
  rcases (h3 u hu).1 with ⟨a, b⟩ | a
  · exact .inl ⟨hW _ a, b⟩
  · exact .inr a

theorem fr_bx (heap agg : Bool) (x : X) : FrV (if heap then 3 else 2) x.tmps [] (fun s => (bxCells agg (s.x x)).map fun cs => newBox heap cs s) := by
  intro s v s1 h
  simp only [Option.map_eq_some_iff] at h
  obtain ⟨cs, hcs, he⟩ := h
  obtain ⟨ups, k, h1, h2, h3, h4, h5⟩ := fr_box heap cs s v s1 (congrArg some he)
  refine ⟨ups, k, h1, h2, h3, h4, ?_⟩
  intro r hr
  have hb : bxCells agg (r.x x) = some cs := by
    rw [← hcs]
    have hn := x_nrm hr.1
    unfold bxCells
    rw [nrm_toD hn, nrm_cp hn]
  have := h5 r ⟨by simp, hr.2⟩
  simp only [hb, Option.map_some]
  exact this

theorem fr_ext (m : Bool) (x : X) (i : Nat) : FrV 0 x.tmps (if m then x.tmps else []) (extV m x i) := by
  intro s v s1 h
  cases x with
  | c w => simp only [extV] at h; split at h <;> simp_all
  | f n => simp only [extV, St.x] at h; simp at h
  | t n =>
    simp only [extV] at h
    split at h
    · rename_i vs n' hq hn'
      simp only [X.t.injEq] at hn'
      subst hn'
      have hat : s.at n = .tup vs := hq
      have same : ∀ r, Agr 0 (X.t n).tmps s r → r.x (.t n) = .tup vs := by
        intro r hr
        have hn := x_nrm (s := s) (r := r) (x := .t n) hr.1
        rw [hq] at hn
        exact (nrm_eq hn rfl).symm
      split at h
      · rename_i w hw
        have cpc : ∀ (m : Bool), (m = false ∨ ∀ e xs, w ≠ .own e xs) → w.cp.map (·, s) = some (v, s1) → ∃ ups h, s1 = ⟨setAll s.tm ups, h.getD s.hp⟩ ∧ ((0 : Nat) ≠ 3 → h = none) ∧ (∀ u ∈ ups, UpOk 0 (if m then (X.t n).tmps else []) s u ∧ isIb (s.at u.1) = isIb u.2) ∧ ((0 : Nat) ≠ 2 → isIb v = false) ∧
            ∀ r, Agr 0 (X.t n).tmps s r → extV m (.t n) i r = some (v, ⟨setAll r.tm ups, h.getD r.hp⟩) := by
          intro m hm h
          simp only [Option.map_eq_some_iff, Prod.mk.injEq] at h
          obtain ⟨w', hw', rfl, rfl⟩ := h
          refine ⟨[], none, rfl, fun _ => rfl, by simp, fun _ => cp_ib hw', ?_⟩
          intro r hr
          simp only [extV, same r hr, hw]
          cases m with
          | false => simp only [Bool.false_eq_true, if_false, hw']; rfl
          | true =>
            simp only [if_true]
            split
            · rename_i e xs
              rcases hm with hm | hm
              · simp at hm
              · exact absurd rfl (hm e xs)
            · rw [hw']; rfl
        cases m with
        | false => simp only [Bool.false_eq_true, if_false] at h; exact cpc false (.inl rfl) h
        | true =>
          simp only [if_true] at h
          split at h
          · rename_i e xs
            simp only [Option.some.injEq, Prod.mk.injEq] at h
            obtain ⟨rfl, rfl⟩ := h
            refine ⟨[(n, .tup (vs.set i .dead))], none, rfl, fun _ => rfl, ?_, fun _ => rfl, ?_⟩
            · intro u hu
              simp only [List.mem_singleton] at hu
              subst hu
              simp only [hat]
              exact ⟨.inl ⟨by simp [X.tmps], by rw [hat]; rfl, fun _ => rfl⟩, rfl⟩
            · intro r hr
              simp only [extV, same r hr, hw, if_true]
              rfl
          · rename_i hne
            exact cpc true (.inr fun e xs he => hne e xs he) h
      · simp at h
    · simp at h

theorem fr_apq (e sz bytes : Nat) (x y : X) : FrV 0 (x.tmps ++ y.tmps) x.tmps (fun s => apqOp s e sz bytes x y) := by
  intro s v s1 h
  simp only [apqOp] at h
  split at h
  · rename_i ys hy
    have agy : ∀ r, Agr 0 (x.tmps ++ y.tmps) s r → (r.x y).toD = some (.sl ys) := fun r hr => by
      rw [← hy]; exact (nrm_toD (x_nrm fun t ht => hr.1 t (by simp [ht]))).symm
    have agx : ∀ r, Agr 0 (x.tmps ++ y.tmps) s r → nrm (s.x x) = nrm (r.x x) := fun r hr => x_nrm fun t ht => hr.1 t (by simp [ht])
    split at h
    · rename_i n e' xs hq
      have hat : s.at n = .own e' xs := hq
      split at h
      · rename_i he
        split at h
        · rename_i hr0
          simp only [Option.some.injEq, Prod.mk.injEq] at h
          obtain ⟨rfl, rfl⟩ := h
          refine ⟨[(n, .dead)], none, rfl, fun _ => rfl, ?_, fun _ => rfl, ?_⟩
          · intro u hu
            simp only [List.mem_singleton] at hu
            subst hu
            simp only [hat]
            exact ⟨.inl ⟨by simp [X.tmps], by rw [hat]; rfl, fun _ => rfl⟩, rfl⟩
          · intro r hr
            have hn := agx r hr
            rw [hq] at hn
            simp only [apqOp, agy r hr, ← nrm_eq hn rfl, he, if_true, hr0]
            rfl
        · simp at h
      · simp at h
    · rename_i xs hne hq
      split at h
      · rename_i hc
        simp only [Option.some.injEq, Prod.mk.injEq] at h
        obtain ⟨rfl, rfl⟩ := h
        refine ⟨[], none, rfl, fun _ => rfl, by simp, fun _ => rfl, ?_⟩
        intro r hr
        have hn := agx r hr
        rw [hq] at hn
        simp only [apqOp, agy r hr, ← nrm_eq hn rfl, hc, if_true]
        rfl
      · simp at h
    · rename_i hne hq
      split at h
      · rename_i hc
        simp only [Option.some.injEq, Prod.mk.injEq] at h
        obtain ⟨rfl, rfl⟩ := h
        refine ⟨[], none, rfl, fun _ => rfl, by simp, fun _ => rfl, ?_⟩
        intro r hr
        have hn := agx r hr
        rw [hq] at hn
        simp only [apqOp, agy r hr, ← nrm_eq hn rfl, hc, if_true]
        rfl
      · simp at h
    · rename_i hne hq
      split at h
      · rename_i hc
        split at h
        · rename_i hem
          simp only [Option.some.injEq, Prod.mk.injEq] at h
          obtain ⟨rfl, rfl⟩ := h
          refine ⟨[], none, rfl, fun _ => rfl, by simp, fun _ => rfl, ?_⟩
          intro r hr
          have hn := agx r hr
          rw [hq] at hn
          simp only [apqOp, agy r hr, ← nrm_eq hn rfl, hc, hem, if_true]
          rfl
        · rename_i hem
          simp only [Option.some.injEq, Prod.mk.injEq] at h
          obtain ⟨rfl, rfl⟩ := h
          refine ⟨[], none, rfl, fun _ => rfl, by simp, fun _ => rfl, ?_⟩
          intro r hr
          have hn := agx r hr
          rw [hq] at hn
          simp only [apqOp, agy r hr, ← nrm_eq hn rfl, hc, hem, if_true]
          rfl
      · simp at h
    · simp at h
  · simp at h

theorem fr_aps (e : Nat) (x y : X) : FrV 0 (x.tmps ++ y.tmps) x.tmps (fun s => apsOp s e x y) := by
  intro s v s1 h
  simp only [apsOp] at h
  split at h
  · rename_i b hy
    have agy : ∀ r, Agr 0 (x.tmps ++ y.tmps) s r → (r.x y).toD = some (.str b) := fun r hr => by
      rw [← hy]; exact (nrm_toD (x_nrm fun t ht => hr.1 t (by simp [ht]))).symm
    have agx : ∀ r, Agr 0 (x.tmps ++ y.tmps) s r → nrm (s.x x) = nrm (r.x x) := fun r hr => x_nrm fun t ht => hr.1 t (by simp [ht])
    split at h
    · rename_i n e' xs hq
      have hat : s.at n = .own e' xs := hq
      split at h
      · rename_i he
        split at h
        · rename_i hr0
          simp only [Option.some.injEq, Prod.mk.injEq] at h
          obtain ⟨rfl, rfl⟩ := h
          refine ⟨[(n, .dead)], none, rfl, fun _ => rfl, ?_, fun _ => rfl, ?_⟩
          · intro u hu
            simp only [List.mem_singleton] at hu
            subst hu
            simp only [hat]
            exact ⟨.inl ⟨by simp [X.tmps], by rw [hat]; rfl, fun _ => rfl⟩, rfl⟩
          · intro r hr
            have hn := agx r hr
            rw [hq] at hn
            simp only [apsOp, agy r hr, ← nrm_eq hn rfl, he, if_true, if_pos hr0]
            rfl
        · simp at h
      · simp at h
    · rename_i hne hq
      split at h
      · rename_i hc
        simp only [Option.some.injEq, Prod.mk.injEq] at h
        obtain ⟨rfl, rfl⟩ := h
        refine ⟨[], none, rfl, fun _ => rfl, by simp, fun _ => rfl, ?_⟩
        intro r hr
        have hn := agx r hr
        rw [hq] at hn
        simp only [apsOp, agy r hr, ← nrm_eq hn rfl, if_pos hc]
        rfl
      · simp at h
    · simp at h
  · simp at h
theorem fr_app (e sz bytes : Nat) (x y : X) : FrV 0 (x.tmps ++ y.tmps) x.tmps (fun s => appOp s e sz bytes x y) := by
  unfold appOp
  by_cases h : bytes = 0
  · simp only [if_pos h]
    exact fr_aps e x y
  · simp only [if_neg h]
    exact fr_apq e sz bytes x y

theorem demote_ib {v : PV} (h : isIb v = false) (m : Bool) : isIb (if m then v else v.demote) = false := by
  cases m <;> cases v <;> first | rfl | (simp [isIb] at h)

theorem fr_call {cf : CF} {pf : Nat → Bool} (hcf : CFNice pf cf) (m : Bool) (f : X) (args : List X) : FrV ((RO.call m f args).cls pf) (xsT (f :: args)) [] (callV cf m f args) := by
  intro s v s1 h
  simp only [callV] at h
  split at h
  · rename_i g caps hf
    simp only [Option.bind_eq_some_iff] at h
    obtain ⟨vs, hvs, o, ho, h⟩ := h
    have agf : ∀ c r, Agr c (xsT (f :: args)) s r → r.x f = .fn g caps := by
      intro c r hr
      have hn := xs_nrm hr (fun t ht => ht) (x := f) (by simp)
      rw [hf] at hn
      exact (nrm_eq hn rfl).symm
    have aga : ∀ c r, Agr c (xsT (f :: args)) s r → optAll (args.map fun x => (r.x x).cp) = some vs := by
      intro c r hr
      rw [← hvs]
      exact optAll_congr args fun x hx => (nrm_cp (xs_nrm hr (fun t ht => ht) (x := x) (by simp [hx]))).symm
    cases o with
    | pan v hp => simp at h
    | ret w hp =>
      simp only [Option.some.injEq, Prod.mk.injEq] at h
      obtain ⟨rfl, rfl⟩ := h
      have hib := hcf.nib _ _ _ _ _ ho
      have heavy : FrV 3 (xsT (f :: args)) [] (callV cf m f args) → True := fun _ => trivial
      by_cases hc : (RO.call m f args).cls pf = 0
      · have hpg : pf g = true := by
          cases f with
          | f n =>
            simp only [St.x, PV.fn.injEq] at hf
            obtain ⟨rfl, _⟩ := hf
            simp only [RO.cls] at hc
            split at hc
            · assumption
            · simp at hc
          | t n => simp [RO.cls] at hc
          | c v => simp [RO.cls] at hc
        obtain ⟨hph, hall⟩ := hcf.pure g hpg _ _ _ _ ho
        subst hph
        rw [hc]
        refine ⟨[], none, rfl, fun _ => rfl, by simp, fun _ => demote_ib hib m, ?_⟩
        intro r hr
        simp only [callV, agf _ r hr, aga _ r hr, Option.bind_some, hall r.hp]
        rfl
      · have hc3 : (RO.call m f args).cls pf = 3 := by
          simp only [RO.cls] at hc ⊢
          split at hc
          · split at hc
            · exact absurd rfl hc
            · rename_i hn; simp [hn]
          · rfl
        rw [hc3]
        refine ⟨[], some hp, rfl, fun hn => absurd rfl hn, by simp, fun _ => demote_ib hib m, ?_⟩
        intro r hr
        have hh : r.hp = s.hp := (hr.2 (.inr rfl)).1
        simp only [callV, agf _ r hr, aga _ r hr, Option.bind_some, hh, ho]
        rfl
  · rename_i g caps hf
    simp only [Option.bind_eq_some_iff] at h
    obtain ⟨vs, hvs, o, ho, h⟩ := h
    have agf : ∀ c r, Agr c (xsT (f :: args)) s r → r.x f = .fnm g caps := by
      intro c r hr
      have hn := xs_nrm hr (fun t ht => ht) (x := f) (by simp)
      rw [hf] at hn
      exact (nrm_eq hn rfl).symm
    have aga : ∀ c r, Agr c (xsT (f :: args)) s r → optAll (args.map fun x => (r.x x).cp) = some vs := by
      intro c r hr
      rw [← hvs]
      exact optAll_congr args fun x hx => (nrm_cp (xs_nrm hr (fun t ht => ht) (x := x) (by simp [hx]))).symm
    cases o with
    | pan v hp => simp at h
    | ret w hp =>
      simp only [Option.some.injEq, Prod.mk.injEq] at h
      obtain ⟨rfl, rfl⟩ := h
      have hib := hcf.nib _ _ _ _ _ ho
      have heavy : FrV 3 (xsT (f :: args)) [] (callV cf m f args) → True := fun _ => trivial
      by_cases hc : (RO.call m f args).cls pf = 0
      · exfalso
        cases f with
        | f n => simp [St.x] at hf
        | t n => simp [RO.cls] at hc
        | c v => simp [RO.cls] at hc
      · have hc3 : (RO.call m f args).cls pf = 3 := by
          simp only [RO.cls] at hc ⊢
          split at hc
          · split at hc
            · exact absurd rfl hc
            · rename_i hn; simp [hn]
          · rfl
        rw [hc3]
        refine ⟨[], some hp, rfl, fun hn => absurd rfl hn, by simp, fun _ => demote_ib hib m, ?_⟩
        intro r hr
        have hh : r.hp = s.hp := (hr.2 (.inr rfl)).1
        simp only [callV, agf _ r hr, aga _ r hr, Option.bind_some, hh, ho]
        rfl
  · simp at h

theorem cellTake_false {cs cs' : List PV} {off : Nat} {v : PV} {m : Bool} (h : cellTake m cs off = some (v, cs')) : (m = false → cs' = cs) ∧ isIb v = false := by
  unfold cellTake at h
  split at h
  · simp only [Option.some.injEq, Prod.mk.injEq] at h
    obtain ⟨rfl, rfl⟩ := h
    exact ⟨fun e => by simp at e, rfl⟩
  · simp only [Option.map_eq_some_iff, Prod.mk.injEq] at h
    obtain ⟨w, hw, rfl, rfl⟩ := h
    exact ⟨fun _ => rfl, cp_ib hw⟩
  · simp at h

theorem cellsAgg_ib {cs : List PV} {off n : Nat} {v : PV} (h : cellsAgg cs off n = some v) : isIb v = false := by
  unfold cellsAgg at h
  split at h
  · obtain ⟨_, _, rfl⟩ := Option.map_eq_some_iff.1 h; rfl
  · simp at h

def loadC (m : Bool) (agg : Option Nat) (cs : List PV) (off : Nat) : Option (PV × List PV) :=
  match agg with
  | some n => (cellsAgg cs off n).map (·, cs)
  | none => cellTake m cs off

theorem loadC_ok {m : Bool} {agg : Option Nat} {cs cs' : List PV} {off : Nat} {v : PV} (h : loadC m agg cs off = some (v, cs')) : (m = false → cs' = cs) ∧ isIb v = false := by
  unfold loadC at h
  split at h
  · simp only [Option.map_eq_some_iff, Prod.mk.injEq] at h
    obtain ⟨w, hw, rfl, rfl⟩ := h
    exact ⟨fun _ => rfl, cellsAgg_ib hw⟩
  · exact cellTake_false h

def boxOf (s : St) (a : PV) (self : Option Nat) : Option (Nat × Nat) :=
  match a, self with
  | .ibox _, some t => some (t, 0)
  | .ref t off, _ => some (t, off)
  | _, _ => none

def St.load' (s : St) (m : Bool) (agg : Option Nat) (a : PV) (self : Option Nat) : Option (PV × St) :=
  match boxOf s a self with
  | some (t, off) => match s.at t with
    | .ibox cs => (loadC m agg cs off).map fun (v, cs') => (v, { s with tm := s.tm.set t (.ibox cs') })
    | _ => none
  | none => match a with
    | .ptr id off => match s.hp[id]? with
      | some (.box cs) => (loadC m agg cs off).map fun (v, cs') => (v, { s with hp := s.hp.set id (.box cs') })
      | _ => none
    | .eptr x off => (elemD x off agg).map fun d => (.d d, s)
    | .rptr id i off => match s.hp[id]? with
      | some (.row _ xs) => match xs[i]? with
        | some x => (elemD x off agg).map fun d => (.d d, s)
        | none => none
      | _ => none
    | _ => none

theorem hp_set {hp : List Ent} {id : Nat} {e : Ent} (h : hp[id]? = some e) : hp.set id e = hp := by
  obtain ⟨hlt, rfl⟩ := List.getElem?_eq_some_iff.1 h
  exact List.set_getElem_self hlt

theorem load_eq (s : St) (m : Bool) (agg : Option Nat) (x : X) : s.load m agg (s.x x) x.self = s.load' m agg (s.x x) x.self := by
  unfold St.load'
  cases hx : s.x x with
  | ibox cs =>
    cases x with
    | t n =>
      have hat : s.at n = .ibox cs := hx
      simp only [X.self, boxOf, St.load, hat]
      cases agg with
      | none => rfl
      | some k =>
        simp only [loadC, Option.map_map]
        cases cellsAgg cs 0 k <;> simp [set_getD hat]
    | c v => rfl
    | f n => rfl
  | ref t off =>
    simp only [boxOf, St.load]
    cases hq : s.tm.getD t .dead <;> simp only [St.at, hq]
    rename_i cs
    cases agg with
    | none => rfl
    | some k =>
      simp only [loadC, Option.map_map]
      cases cellsAgg cs off k <;> simp [set_getD hq]
  | ptr id off =>
    simp only [boxOf, St.load]
    cases hq : s.hp[id]? with
    | none => rfl
    | some e =>
      cases e <;> try rfl
      rename_i cs
      cases agg with
      | none => rfl
      | some k =>
        simp only [loadC, Option.map_map]
        cases cellsAgg cs off k <;> simp [hp_set hq]
  | _ => rfl

theorem fr_ld (m : Bool) (agg : Option Nat) (x : X) : FrV (if m then 3 else 1) x.tmps [] (fun s => s.load m agg (s.x x) x.self) := by
  intro s v s1 h
  simp only [load_eq] at h ⊢
  have hc13 : (if m then 3 else 1) = 1 ∨ (if m then 3 else 1) = 3 := by cases m <;> simp
  have agx : ∀ r, Agr (if m then 3 else 1) x.tmps s r → r.x x = s.x x := fun r hr => (x_same hr hc13 fun t ht => ht).symm
  have agh : ∀ r, Agr (if m then 3 else 1) x.tmps s r → r.hp = s.hp := fun r hr => (hr.2 hc13).1
  have agb : ∀ r, Agr (if m then 3 else 1) x.tmps s r → ∀ t cs, s.at t = .ibox cs → r.at t = .ibox cs := fun r hr t cs ht => ((hr.2 hc13).2 t (by rw [ht]; rfl)).trans ht
  unfold St.load' at h
  split at h
  · rename_i t off hb
    split at h
    · rename_i cs hat
      simp only [Option.map_eq_some_iff, Prod.mk.injEq] at h
      obtain ⟨⟨w, cs'⟩, hl, rfl, rfl⟩ := h
      obtain ⟨k1, k2⟩ := loadC_ok hl
      have run : ∀ r, Agr (if m then 3 else 1) x.tmps s r → r.load' m agg (r.x x) x.self = some (w, { r with tm := r.tm.set t (.ibox cs') }) := by
        intro r hr
        unfold St.load'
        rw [agx r hr, show boxOf r (s.x x) x.self = some (t, off) from hb]
        simp only [agb r hr t cs hat, hl, Option.map_some]
      cases m with
      | false =>
        obtain rfl := k1 rfl
        refine ⟨[], none, ?_, fun _ => rfl, by simp, fun _ => k2, ?_⟩
        · rw [set_getD hat]; rfl
        · intro r hr
          rw [run r hr, set_getD (agb r hr t _ hat)]
          rfl
      | true =>
        refine ⟨[(t, .ibox cs')], none, rfl, fun hn => absurd rfl hn, ?_, fun _ => k2, fun r hr => run r hr⟩
        intro u hu
        simp only [List.mem_singleton] at hu
        subst hu
        simp only [hat]
        exact ⟨.inr ⟨rfl, by rw [hat]; rfl, rfl⟩, rfl⟩
    · simp at h
  · rename_i hb
    split at h
    · rename_i id off hx
      split at h
      · rename_i cs hid
        simp only [Option.map_eq_some_iff, Prod.mk.injEq] at h
        obtain ⟨⟨w, cs'⟩, hl, rfl, rfl⟩ := h
        obtain ⟨k1, k2⟩ := loadC_ok hl
        have run : ∀ r, Agr (if m then 3 else 1) x.tmps s r → r.load' m agg (r.x x) x.self = some (w, { r with hp := r.hp.set id (.box cs') }) := by
          intro r hr
          unfold St.load'
          rw [agx r hr, show boxOf r (s.x x) x.self = none from hb, hx]
          simp only [agh r hr, hid, hl, Option.map_some]
        cases m with
        | false =>
          obtain rfl := k1 rfl
          refine ⟨[], none, ?_, fun _ => rfl, by simp, fun _ => k2, ?_⟩
          · rw [hp_set hid]; rfl
          · intro r hr
            rw [run r hr, agh r hr, hp_set hid, ← agh r hr]
            rfl
        | true =>
          refine ⟨[], some (s.hp.set id (.box cs')), rfl, fun hn => absurd rfl hn, by simp, fun _ => k2, ?_⟩
          intro r hr
          rw [run r hr, agh r hr]
          rfl
      · simp at h
    · rename_i y off hx
      simp only [Option.map_eq_some_iff, Prod.mk.injEq] at h
      obtain ⟨d, hd, rfl, rfl⟩ := h
      refine ⟨[], none, rfl, fun _ => rfl, by simp, fun _ => rfl, ?_⟩
      intro r hr
      unfold St.load'
      rw [agx r hr, show boxOf r (s.x x) x.self = none from hb, hx]
      simp only [hd, Option.map_some]
      rfl
    · rename_i id i off hx
      split at h
      · rename_i sz xs hid
        split at h
        · rename_i y hy
          simp only [Option.map_eq_some_iff, Prod.mk.injEq] at h
          obtain ⟨d, hd, rfl, rfl⟩ := h
          refine ⟨[], none, rfl, fun _ => rfl, by simp, fun _ => rfl, ?_⟩
          intro r hr
          unfold St.load'
          rw [agx r hr, show boxOf r (s.x x) x.self = none from hb, hx]
          simp only [agh r hr, hid, hy, hd, Option.map_some]
          rw [← agh r hr]
          rfl
        · simp at h
      · simp at h
    · simp at h

end Go.Pe
