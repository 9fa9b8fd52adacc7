/- A part of the proof of: The tokens of any query, or where it is wrong, and how, are the document's, one by one (LexTokens); no condition beyond the statement's own. -/
import Derived.Test.YtgcpkhhopjhpiaaDoorPe3
import Derived.Shelf.Strings.BuilderX
import Derived.Shelf.RegionOpenPlain
import Derived.Lib.Strings
import Derived.Lib.Slices
import Derived.Lib.Walk
import Derived.Lib.Builder
import Derived.Lib.AppendStr
import Derived.Lib.UnsafeStr
import Derived.WalkKit
import Derived.Laws.Externs
import Derived.Laws.CopyRow
import Derived.Test.YtgcpkhhopjhpiaaDoorProg
set_option linter.unusedSimpArgs false
set_option linter.unusedVariables false

namespace Go.Pe
open Go.Shelf Go.RowKit Go.Proofs
section
variable {P : Program} {ρ : Ren}
def ccX (x : Code) : Code → Code
  | .seq a (.cond t b (.seq r (.cond u _ d))) => .seq a (.cond t b (.seq r (.cond u x d)))
  | c => c
noncomputable def ccF (ρ : Ren) (x : Code) : Func := { Body.n240 ρ with body := (Body.n240 ρ).body.map (ccX x) }
theorem ccF_ntmps (ρ : Ren) (x : Code) : (ccF ρ x).ntmps = 20 := Body.n240_ntmps ρ
def leafOf (f : Func) : Code :=
  match f.body with
  | some (.seq _ (.cond _ _ (.seq _ (.cond _ x _)))) => x
  | _ => .skip
structure BldT (P : Program) (ρ : Ren) (x : Code) : Prop where
  mixed : P.follows .mixedOrders = true
  f240 : P.funcs[ρ.f 240]? = some (ccF ρ x)
  f276 : P.funcs[ρ.f 276]? = some (Body.n276 ρ)
  t3 : P.underlying (ρ.t 3) = some (TypeDesc.int IntKind.i64)
  a3 : ∀ w, (isAgg (ρ.t 3)).run P w = .ok false w
  z3 : ∀ w, (Go.sizeOf (ρ.t 3)).run P w = .ok 1 w
  v3 : ∀ w, (zeroValue (ρ.t 3)).run P w = .ok (Value.int IntKind.i64 0) w
  t4 : P.underlying (ρ.t 4) = some (TypeDesc.bool)
  a4 : ∀ w, (isAgg (ρ.t 4)).run P w = .ok false w
  z4 : ∀ w, (Go.sizeOf (ρ.t 4)).run P w = .ok 1 w
  v4 : ∀ w, (zeroValue (ρ.t 4)).run P w = .ok (Value.bool false) w
  t9 : P.underlying (ρ.t 9) = some (TypeDesc.string)
  a9 : ∀ w, (isAgg (ρ.t 9)).run P w = .ok false w
  z9 : ∀ w, (Go.sizeOf (ρ.t 9)).run P w = .ok 1 w
  v9 : ∀ w, (zeroValue (ρ.t 9)).run P w = .ok (Value.string { data := #[] }) w
  t37 : P.underlying (ρ.t 37) = some (TypeDesc.slice (ρ.t 5))
  a37 : ∀ w, (isAgg (ρ.t 37)).run P w = .ok false w
  z37 : ∀ w, (Go.sizeOf (ρ.t 37)).run P w = .ok 1 w
  v37 : ∀ w, (zeroValue (ρ.t 37)).run P w = .ok (Value.slice none 0 0) w
  t70 : P.underlying (ρ.t 70) = some (TypeDesc.pointer (ρ.t 72))
  a70 : ∀ w, (isAgg (ρ.t 70)).run P w = .ok false w
  z70 : ∀ w, (Go.sizeOf (ρ.t 70)).run P w = .ok 1 w
  v70 : ∀ w, (zeroValue (ρ.t 70)).run P w = .ok (Value.pointer none) w
  t72 : P.underlying (ρ.t 72) = some (TypeDesc.struct #[{ name := "addr", type := ρ.t 70, offset := 0, embedded := false, tag := "", pkgPath := "strings", byteOffset := 0 }, { name := "buf", type := ρ.t 37, offset := 1, embedded := false, tag := "", pkgPath := "strings", byteOffset := 8 }])
  a72 : ∀ w, (isAgg (ρ.t 72)).run P w = .ok true w
  z72 : ∀ w, (Go.sizeOf (ρ.t 72)).run P w = .ok 2 w
  v72 : ∀ w, (zeroValue (ρ.t 72)).run P w = .ok (Value.agg #[Value.pointer none, Value.slice none 0 0]) w
  t164 : P.underlying (ρ.t 164) = some (TypeDesc.unsafePointer)
  a164 : ∀ w, (isAgg (ρ.t 164)).run P w = .ok false w
  z164 : ∀ w, (Go.sizeOf (ρ.t 164)).run P w = .ok 1 w
  v164 : ∀ w, (zeroValue (ρ.t 164)).run P w = .ok (Value.pointer none) w
set_option maxHeartbeats 1000000 in
set_option maxRecDepth 100000 in
theorem cc_used {x : Code} (L : BldT P ρ x) (X : Builder.X72 P ρ) (b o : Nat) (w : World) (h0 : w.cell? ⟨b, o, none⟩ = some (.pointer (some ⟨b, o, none⟩))) :
    Calls P (ρ.f 240) #[.pointer (some ⟨b, o, none⟩)] w fun e w' => e = .returned (.tuple #[]) ∧ w' = w := by
  obtain ⟨j, hj, _⟩ := Option.map_eq_some_iff.1 X.sizeBuilder
  have mixed := L.mixed
  have t72 := L.t72; have a72 := L.a72; have z72 := L.z72; have v72 := L.v72; have u72 := run_underlying L.t72
  have t70 := L.t70; have a70 := L.a70; have z70 := L.z70; have v70 := L.v70; have u70 := run_underlying L.t70
  have t9 := L.t9; have a9 := L.a9; have z9 := L.z9; have v9 := L.v9; have u9 := run_underlying L.t9
  have t4 := L.t4; have a4 := L.a4; have z4 := L.z4; have v4 := L.v4; have u4 := run_underlying L.t4
  have t164 := L.t164; have a164 := L.a164; have z164 := L.z164; have v164 := L.v164; have u164 := run_underlying L.t164
  go_enter L.f240, ccF_ntmps ρ x
  simp only [ccX]
  go_wp2
  rw [Lib.run_neq_ptr_same w _ L.t70 hj]
  go_wp2
  go_end0
  exact ⟨rfl, rfl⟩
set_option maxHeartbeats 1000000 in
set_option maxRecDepth 100000 in
theorem cc_fresh {x : Code} (L : BldT P ρ x) (X : Builder.X72 P ρ) (b o n : Nat) (T : TypeId) (w : World) (h0 : w.cell? ⟨b, o, none⟩ = some (.pointer none)) (hsh : w.shape? b = some (T, n)) (ho : o < n)
    (hl : liesAt P P.depth T (n / P.cellsOf T) o (ρ.t 72) 1 = true) (hfz : w.frozen? ⟨b, o, none⟩ = false) :
    Calls P (ρ.f 240) #[.pointer (some ⟨b, o, none⟩)] w fun e w' => e = .returned (.tuple #[]) ∧ w' = w.setCell ⟨b, o, none⟩ (.pointer (some ⟨b, o, none⟩)) := by
  obtain ⟨j, hj, hjs⟩ := Option.map_eq_some_iff.1 X.sizeBuilder
  have mixed := L.mixed
  have t72 := L.t72; have a72 := L.a72; have z72 := L.z72; have v72 := L.v72; have u72 := run_underlying L.t72
  have t70 := L.t70; have a70 := L.a70; have z70 := L.z70; have v70 := L.v70; have u70 := run_underlying L.t70
  have t9 := L.t9; have a9 := L.a9; have z9 := L.z9; have v9 := L.v9; have u9 := run_underlying L.t9
  have t4 := L.t4; have a4 := L.a4; have z4 := L.z4; have v4 := L.v4; have u4 := run_underlying L.t4
  have t164 := L.t164; have a164 := L.a164; have z164 := L.z164; have v164 := L.v164; have u164 := run_underlying L.t164
  go_enter L.f240, ccF_ntmps ρ x
  simp only [ccX]
  go_wp2
  rw [Lib.run_to_unsafe w ⟨b, o, none⟩ L.t70 L.t164 hj (by rw [hjs]; decide) hsh ho]
  simp only [Result.andThen]
  rw [Oper.upon_value]
  go_wp2
  rw [run_callFunc_extern L.f276 (by kernel_rfl) (by kernel_rfl) (by kernel_rfl) (e := Extern.AbiNoEscape.same) (by kernel_rfl)]
  rw [Lib.run_noEscape]
  simp only [Result.andThen]
  rw [Oper.upon_value]
  go_wp2
  rw [Lib.run_from_unsafe w ⟨b, o, none⟩ L.t164 L.t70 hj hsh hl]
  simp only [Result.andThen]
  rw [Oper.upon_value]
  go_wp2
  go_end0
  exact ⟨rfl, rfl⟩
structure InBox (P : Program) (ρ : Ren) (b o : Nat) (c : Array Value) (T : TypeId) (w : World) : Prop where
  heap : w.heap[b]? = some (.cells c T (0, 0))
  room : o + 1 < c.size
  addr : c[o]? = some (.pointer (some ⟨b, o, none⟩)) ∨ (c[o]? = some (.pointer none) ∧ liesAt P P.depth T (c.size / P.cellsOf T) o (ρ.t 72) 1 = true)
theorem cc_any {x : Code} (L : BldT P ρ x) (X : Builder.X72 P ρ) {b o : Nat} {c : Array Value} {T : TypeId} {w : World} (h : InBox P ρ b o c T w) :
    Calls P (ρ.f 240) #[.pointer (some ⟨b, o, none⟩)] w fun e w' => e = .returned (.tuple #[]) ∧ w' = w.setRow b (c.setIfInBounds o (.pointer (some ⟨b, o, none⟩))) := by
  have hcell : ∀ i, w.cell? ⟨b, i, none⟩ = c[i]? := fun i => Lib.cell_of_heap h.heap i
  have hr := h.room
  rcases h.addr with h1 | ⟨h1, h2⟩
  · refine (cc_used L X b o w (by rw [hcell]; exact h1)).mono ?_
    rintro e w' ⟨rfl, rfl⟩
    refine ⟨rfl, ?_⟩
    have e1 : c.setIfInBounds o (.pointer (some ⟨b, o, none⟩)) = c := by
      apply Array.ext (by simp)
      intro i hi1 hi2
      rw [Array.getElem_setIfInBounds]
      split
      · rename_i e; subst e
        have := (Array.getElem?_eq_some_iff.1 h1).2
        exact this.symm
      · rfl
    rw [e1, setRow_self _ b c T (0, 0) h.heap]
  · refine (cc_fresh L X b o c.size T w (by rw [hcell]; exact h1) (by simp [World.shape?, h.heap]) (by omega) h2 (Lib.frozen_of_heap h.heap o)).mono ?_
    rintro e w' ⟨rfl, rfl⟩
    exact ⟨rfl, setCell_eq_setRow w b o c T (0, 0) _ h.heap⟩
theorem wp_append_str {w : World} {ops : Array Oper} {rest : List Oper} {o : Oper} {a : Act} {Q : Exit → Act → World → Prop} (hgd : o.guard = none) (sl x : Operand) (t u : TypeId)
    (ho : o.op = .call { callee := .builtin .append, args := #[sl, x], argTypes := #[t, u] })
    (e : TypeId) (i : TypeInfo) (ht : P.underlying t = some (.slice e)) (hu : P.underlying u = some .string) (hi : P.info? e = some i) (hz : i.zero = some (.int .u8 0)) (hsize : i.size = 1) (hby : i.bytes = 1)
    (v : Value) (n : Nat) (xs : List Value) (hs : a.eval sl = v) (hown : w.ownsRow 0 e 1 v n xs) (s : ByteArray) (hx : a.eval x = .string s) (hbytes : n + s.size ≤ 140737488355328)
    (h : ∀ v' w', w'.ownsRow 0 e 1 v' (n + s.size) (xs ++ Lib.strCells s) → GrowCase w v v' w' → wpList P ops Q rest (a.put o.dst v') w') : wpList P ops Q (o :: rest) a w := by
  refine wpList_plain hgd fun K hK => ?_
  obtain ⟨v', w', hr, h2, h3⟩ := run_append_str (P := P) t u o.type e i ht hu hi hz hsize hby v n xs hown s hbytes
  unfold Oper.wp execOp
  simp only [ho, resolve, invoke, builtin, Sem.run_bind, Sem.run_pure, Result.andThen_ok, List.map_toArray, List.map_cons, List.map_nil, hs, hx, hr]
  exact hK _ _ (h v' w' h2 h3)
def Wrote (P : Program) (ρ : Ren) (b o : Nat) (c : Array Value) (w : World) (v : Value) (n : Nat) (us : List Value) (w' : World) : Prop :=
  ∃ v' w2, w2.ownsRow 0 (ρ.t 5) 1 v' n us ∧ GrowCase (w.setRow b (c.setIfInBounds o (.pointer (some ⟨b, o, none⟩)))) v v' w2 ∧ w' = w2.setRow b ((c.setIfInBounds o (.pointer (some ⟨b, o, none⟩))).setIfInBounds (o + 1) v')
set_option maxHeartbeats 2000000 in
set_option maxRecDepth 100000 in
theorem ws_run {x : Code} (L : BldT P ρ x) (hf : P.funcs[ρ.f 166]? = some (Body.n166 ρ)) (X : Builder.Extra P ρ) {b o : Nat} {c : Array Value} {T : TypeId} {w : World} (h : InBox P ρ b o c T w) {v : Value} {n : Nat} {us : List Value} (hv : c[o + 1]? = some v)
    (hown : w.ownsRow 0 (ρ.t 5) 1 v n us) (hne : v.ownBlock ≠ some b) (s : ByteArray) (hlen : n + s.size ≤ 140737488355328) :
    Calls P (ρ.f 166) #[.pointer (some ⟨b, o, none⟩), .string s] w fun e w' => e = .returned (.tuple #[.int .i64 s.size, .nilIface]) ∧ Wrote P ρ b o c w v (n + s.size) (us ++ Lib.strCells s) w' := by
  obtain ⟨i0, hi, hz0, hz1, hz2⟩ := info_parts X.infoByte
  have mixed := L.mixed
  have t72 := L.t72; have a72 := L.a72; have z72 := L.z72; have v72 := L.v72; have u72 := run_underlying L.t72
  have t70 := L.t70; have a70 := L.a70; have z70 := L.z70; have v70 := L.v70; have u70 := run_underlying L.t70
  have t37 := L.t37; have a37 := L.a37; have z37 := L.z37; have v37 := L.v37; have u37 := run_underlying L.t37
  have t3 := L.t3; have a3 := L.a3; have z3 := L.z3; have v3 := L.v3; have u3 := run_underlying L.t3
  have t9 := L.t9; have a9 := L.a9; have z9 := L.z9; have v9 := L.v9; have u9 := run_underlying L.t9
  have t4 := L.t4; have a4 := L.a4; have z4 := L.z4; have v4 := L.v4; have u4 := run_underlying L.t4
  have t164 := L.t164; have a164 := L.a164; have z164 := L.z164; have v164 := L.v164; have u164 := run_underlying L.t164
  have t5 := X.t5; have a5 := X.a5; have z5 := X.z5; have v5 := X.v5; have u5 := run_underlying X.t5
  have e240 : ∀ args w, (callFunc (ρ.f 240) args).run P w = .ok (.enter (ρ.f 240) args) w := enters_of L.f240 (by kernel_rfl) rfl
  go_enter hf, Body.n166_ntmps ρ
  go_wp2_with (go_at_fn (ρ.f 240); refine (cc_any L X.toX72 h).mono ?_)
  rintro e w1 ⟨rfl, hw1⟩
  have hr := h.room
  have hb1 : w1.heap[b]? = some (.cells (c.setIfInBounds o (.pointer (some ⟨b, o, none⟩))) T (0, 0)) := by rw [hw1]; exact setRow_heap w b c _ T _ h.heap
  have c1 : w1.cell? ⟨b, o + 1, none⟩ = some v := by
    rw [Lib.cell_of_heap hb1, Array.getElem?_setIfInBounds_ne (by omega)]
    exact hv
  have hown1 : w1.ownsRow 0 (ρ.t 5) 1 v n us := ownsRow_same hown fun k hk _ => by rw [hw1]; exact setRow_other w b k _ (fun e => hne (e ▸ hk))
  have HW : Hid (w1 = w.setRow b (c.setIfInBounds o (.pointer (some ⟨b, o, none⟩)))) := hw1
  clear hw1
  go_wp2_with (at_builtin; refine wp_append_str rfl _ _ (ρ.t 37) (ρ.t 9) rfl (ρ.t 5) i0 L.t37 L.t9 hi hz0 hz1 hz2 _ _ _ rfl hown1 s rfl hlen ?_)
  intro v' w2 hown' hgrow
  have hb2 : w2.heap[b]? = some (.cells (c.setIfInBounds o (.pointer (some ⟨b, o, none⟩))) T (0, 0)) := by
    have hlt : b < w1.heap.size := lt_of_heap hb1
    rcases hgrow with ⟨b', e1, _, hg⟩ | ⟨⟨_, hg⟩, _⟩ | ⟨_, rfl⟩
    · rw [hg.block b hlt (fun e => by injection e with e; exact hne (e ▸ e1))]
      exact hb1
    · rw [hg b hlt]
      exact hb1
    · exact hb1
  have d1 : w2.cell? ⟨b, o + 1, none⟩ = some v := by
    rw [Lib.cell_of_heap hb2, Array.getElem?_setIfInBounds_ne (by omega)]
    exact hv
  have f1 : w2.frozen? ⟨b, o + 1, none⟩ = false := Lib.frozen_of_heap hb2 (o + 1)
  obtain ⟨ao, n', cap, rfl⟩ : ∃ ao n' cap, v' = .slice ao n' cap := by
    rcases hown'.2 with ⟨hv, _⟩ | ⟨g, cap, cur, hv, _⟩
    · exact ⟨_, _, _, hv⟩
    · exact ⟨_, _, _, hv⟩
  have hset : w2.setCell ⟨b, o + 1, none⟩ (.slice ao n' cap) = w2.setRow b ((c.setIfInBounds o (.pointer (some ⟨b, o, none⟩))).setIfInBounds (o + 1) (.slice ao n' cap)) := setCell_eq_setRow w2 b (o + 1) _ T (0, 0) _ hb2
  have HG : Hid (GrowCase w1 v (.slice ao n' cap) w2) := hgrow
  have HS : Hid _ := hset
  clear hgrow hset
  go_wp2
  go_ret2
  exact ⟨rfl, _, w2, hown', HW.out ▸ HG.out, HS.out⟩
structure Took (w : World) (v : Value) (w' : World) : Prop where
  os : w'.os = w.os
  tape : w'.tape = w.tape
  output : w'.output = w.output
  size : w.heap.size ≤ w'.heap.size
  cell : ∀ k i u, w.cell? ⟨k, i, none⟩ = some u → w'.cell? ⟨k, i, none⟩ = some u
  block : ∀ k, k < w.heap.size → v.ownBlock ≠ some k → w'.heap[k]? = w.heap[k]?
theorem Took.same (w : World) (v : Value) : Took w v w.drew := ⟨rfl, rfl, rfl, Nat.le_refl _, fun _ _ _ h => h, fun _ _ _ => rfl⟩
theorem Took.view (w : World) (v : Value) (o : Obj) : Took w v (w.drew.alloc o) where
  os := rfl
  tape := rfl
  output := rfl
  size := by simp
  cell := fun k i u h => by
    have hk : k < w.heap.size := World.block_lt_of_cell? w _ h
    simp only [World.cell?] at h ⊢
    rw [show (w.drew.alloc o).heap[k]? = w.heap[k]? from Lib.alloc_old w.drew o k hk]
    exact h
  block := fun k hk _ => Lib.alloc_old w.drew o k hk
def frzO (g n : Nat) : Obj → Obj
  | .cells c elem (lo, hi) => .cells c elem (if lo == hi then ((⟨g, 0, none⟩ : Addr).off, (⟨g, 0, none⟩ : Addr).off + n) else (min lo (⟨g, 0, none⟩ : Addr).off, max hi ((⟨g, 0, none⟩ : Addr).off + n)))
  | o => o
theorem freeze_heap (w : World) (g n k : Nat) (hn : n ≠ 0) : (w.freeze ⟨g, 0, none⟩ n).heap[k]? = if g = k then (w.heap[k]?).map (frzO g n) else w.heap[k]? := by
  unfold World.freeze
  rw [if_neg hn]
  simp only [Array.getElem?_modify]
  rfl
theorem freeze_cell (w : World) (g n k i : Nat) : (w.freeze ⟨g, 0, none⟩ n).cell? ⟨k, i, none⟩ = w.cell? ⟨k, i, none⟩ := by
  by_cases hn : n = 0
  · unfold World.freeze; rw [if_pos hn]
  · simp only [World.cell?]
    rw [freeze_heap w g n k hn]
    by_cases hgk : g = k
    · rw [if_pos hgk]
      cases w.heap[k]? with
      | none => rfl
      | some ob => cases ob <;> rfl
    · rw [if_neg hgk]
theorem Took.froze (w : World) (g n m cap : Nat) : Took w (.slice (some ⟨g, 0, none⟩) m cap) (w.drew.freeze ⟨g, 0, none⟩ n) where
  os := by unfold World.freeze; split <;> rfl
  tape := by unfold World.freeze; split <;> rfl
  output := by unfold World.freeze; split <;> rfl
  size := by
    have e : w.drew.heap.size = w.heap.size := rfl
    unfold World.freeze
    split
    · exact Nat.le_refl _
    · simp only [Array.size_modify, e, Nat.le_refl]
  cell := fun k i u h => by rw [freeze_cell]; exact h
  block := fun k hk hne => by
    by_cases hn : n = 0
    · unfold World.freeze; rw [if_pos hn]; rfl
    · rw [freeze_heap _ g n k hn, if_neg (fun e => hne (by simp [Value.ownBlock]; exact e))]; rfl
set_option maxHeartbeats 2000000 in
set_option maxRecDepth 100000 in
theorem str_some (L : Lays.n169 P ρ) (X : Builder.Extra P ρ) (b o g cap : Nat) (cur : Array Value) (l : List UInt8) (w : World) (h0 : l ≠ []) (c1 : w.drew.cell? ⟨b, o + 1, none⟩ = some (.slice (some ⟨g, 0, none⟩) l.length cap))
    (hg : w.heap[g]? = some (.cells cur (ρ.t 5) (0, 0))) (hnc : l.length ≤ cap) (hcm : cap ≤ maxLen) (hcs : cur.size = cap * 1) (htake : cur.toList.take (l.length * 1) = Lib.byteCells l) :
    Calls P (ρ.f 169) #[.pointer (some ⟨b, o, none⟩)] w fun e w' => e = .returned (.string ⟨l.toArray⟩) ∧ Took w (.slice (some ⟨g, 0, none⟩) l.length cap) w' := by
  have hl0 : l.length ≠ 0 := by simpa using h0
  have hSD : (Builtin.unsafeSliceData_ #[(ρ.t 37)] (ρ.t 127) #[.slice (some ⟨g, 0, none⟩) l.length cap]).run P w.drew = .ok (.pointer (some ⟨g, 0, none⟩)) w.drew :=
    Lib.run_unsafeSliceData_row _ _ _ _ _ _ (by omega)
  have hUS : (Builtin.unsafeString_ #[(ρ.t 127), (ρ.t 3)] (ρ.t 9) #[.pointer (some ⟨g, 0, none⟩), .int .i64 l.length]).run P w.drew = .ok (.string ⟨l.toArray⟩) (w.drew.freeze ⟨g, 0, none⟩ l.length) := by
    refine Lib.run_unsafeString_row w.drew (ρ.t 127) (ρ.t 3) (ρ.t 9) (ρ.t 5) L.t127 X.cellsByte g cur.size (by have hg' : w.drew.heap[g]? = some (.cells cur (ρ.t 5) (0, 0)) := hg; simp [World.shape?, hg']) l h0 (by omega) (by unfold maxLen at hcm; omega) ?_
    intro j x hx
    have hj : (Lib.byteCells l)[j]? = some (.int .u8 x.toNat) := by simp [Lib.byteCells, hx]
    rw [← htake] at hj
    have hc := getElem?_of_take (l := cur.toList) rfl hj
    rw [Addr.add_lit, Nat.zero_add]
    show w.cell? ⟨g, j, none⟩ = _
    rw [Lib.cell_of_heap hg]
    simpa using hc
  have mixed := L.mixed
  have t72 := L.t72; have a72 := L.a72; have z72 := L.z72; have v72 := L.v72; have u72 := run_underlying L.t72
  have t70 := L.t70; have a70 := L.a70; have z70 := L.z70; have v70 := L.v70; have u70 := run_underlying L.t70
  have t37 := L.t37; have a37 := L.a37; have z37 := L.z37; have v37 := L.v37; have u37 := run_underlying L.t37
  have t127 := L.t127; have a127 := L.a127; have z127 := L.z127; have v127 := L.v127; have u127 := run_underlying L.t127
  have t3 := L.t3; have a3 := L.a3; have z3 := L.z3; have v3 := L.v3; have u3 := run_underlying L.t3
  have t9 := L.t9; have a9 := L.a9; have z9 := L.z9; have v9 := L.v9; have u9 := run_underlying L.t9
  have t5 := X.t5; have a5 := X.a5; have z5 := X.z5; have v5 := X.v5; have u5 := run_underlying X.t5
  go_enter L.f169, Body.n169_ntmps ρ
  go_wp2
  go_region_o
  all_goals (go_wp2; go_ret; exact ⟨rfl, Took.froze w g _ _ _⟩)
set_option maxHeartbeats 2000000 in
set_option maxRecDepth 100000 in
theorem str_nil (L : Lays.n169 P ρ) (X : Builder.Extra P ρ) (b o : Nat) (w : World) (c1 : w.drew.cell? ⟨b, o + 1, none⟩ = some (.slice none 0 0)) :
    Calls P (ρ.f 169) #[.pointer (some ⟨b, o, none⟩)] w fun e w' => e = .returned (.string ⟨#[]⟩) ∧ Took w (.slice none 0 0) w' := by
  have hUS : ∀ W q, (Builtin.unsafeString_ #[(ρ.t 127), (ρ.t 3)] (ρ.t 9) #[.pointer q, .int .i64 0]).run P W = .ok (.string .empty) W := fun W q => Lib.run_unsafeString_none W _ _ _ q
  have hSD : (Builtin.unsafeSliceData_ #[(ρ.t 37)] (ρ.t 127) #[.slice none 0 0]).run P w.drew = .ok (.pointer none) w.drew := rfl
  have mixed := L.mixed
  have t72 := L.t72; have a72 := L.a72; have z72 := L.z72; have v72 := L.v72; have u72 := run_underlying L.t72
  have t70 := L.t70; have a70 := L.a70; have z70 := L.z70; have v70 := L.v70; have u70 := run_underlying L.t70
  have t37 := L.t37; have a37 := L.a37; have z37 := L.z37; have v37 := L.v37; have u37 := run_underlying L.t37
  have t127 := L.t127; have a127 := L.a127; have z127 := L.z127; have v127 := L.v127; have u127 := run_underlying L.t127
  have t3 := L.t3; have a3 := L.a3; have z3 := L.z3; have v3 := L.v3; have u3 := run_underlying L.t3
  have t9 := L.t9; have a9 := L.a9; have z9 := L.z9; have v9 := L.v9; have u9 := run_underlying L.t9
  have t5 := X.t5; have a5 := X.a5; have z5 := X.z5; have v5 := X.v5; have u5 := run_underlying X.t5
  go_enter L.f169, Body.n169_ntmps ρ
  go_wp2
  go_region_o
  all_goals (go_wp2; go_ret; exact ⟨rfl, Took.same w _⟩)
set_option maxHeartbeats 2000000 in
set_option maxRecDepth 100000 in
theorem str_noroom (L : Lays.n169 P ρ) (X : Builder.Extra P ρ) (b o g : Nat) (cb cur : Array Value) (T : TypeId) (w : World) (hb : w.heap[b]? = some (.cells cb T (0, 0))) (c0 : cb[o + 1]? = some (.slice (some ⟨g, 0, none⟩) 0 0)) (hg : w.heap[g]? = some (.cells cur (ρ.t 5) (0, 0))) :
    Calls P (ρ.f 169) #[.pointer (some ⟨b, o, none⟩)] w fun e w' => e = .returned (.string ⟨#[]⟩) ∧ Took w (.slice (some ⟨g, 0, none⟩) 0 0) w' := by
  have hUS : ∀ W q, (Builtin.unsafeString_ #[(ρ.t 127), (ρ.t 3)] (ρ.t 9) #[.pointer q, .int .i64 0]).run P W = .ok (.string .empty) W := fun W q => Lib.run_unsafeString_none W _ _ _ q
  have c1 : w.drew.cell? ⟨b, o + 1, none⟩ = some (.slice (some ⟨g, 0, none⟩) 0 0) := by
    have : w.drew.heap[b]? = some (.cells cb T (0, 0)) := hb
    rw [Lib.cell_of_heap this]; exact c0
  have hSD : (Builtin.unsafeSliceData_ #[(ρ.t 37)] (ρ.t 127) #[.slice (some ⟨g, 0, none⟩) 0 0]).run P w.drew = .ok (.pointer (some ⟨w.drew.heap.size, 0, none⟩)) (w.drew.alloc (.view ⟨g, 0, none⟩ (ρ.t 5))) :=
    Lib.run_unsafeSliceData_zero w.drew _ _ (ρ.t 5) L.t127 ⟨g, 0, none⟩ 0 ((ρ.t 5), cur.size) (by have hg' : w.drew.heap[g]? = some (.cells cur (ρ.t 5) (0, 0)) := hg; simp [World.shape?, hg'])
  have c2 : (w.drew.alloc (.view ⟨g, 0, none⟩ (ρ.t 5))).cell? ⟨b, o + 1, none⟩ = some (.slice (some ⟨g, 0, none⟩) 0 0) := by
    have : (w.drew.alloc (.view ⟨g, 0, none⟩ (ρ.t 5))).heap[b]? = _ := (Lib.alloc_old w.drew _ b (lt_of_heap hb)).trans hb
    rw [Lib.cell_of_heap this]; exact c0
  have c3 : (w.alloc (.view ⟨g, 0, none⟩ (ρ.t 5))).drew.cell? ⟨b, o + 1, none⟩ = some (.slice (some ⟨g, 0, none⟩) 0 0) := c2
  have c4 : w.cell? ⟨b, o + 1, none⟩ = some (.slice (some ⟨g, 0, none⟩) 0 0) := c1
  have mixed := L.mixed
  have t72 := L.t72; have a72 := L.a72; have z72 := L.z72; have v72 := L.v72; have u72 := run_underlying L.t72
  have t70 := L.t70; have a70 := L.a70; have z70 := L.z70; have v70 := L.v70; have u70 := run_underlying L.t70
  have t37 := L.t37; have a37 := L.a37; have z37 := L.z37; have v37 := L.v37; have u37 := run_underlying L.t37
  have t127 := L.t127; have a127 := L.a127; have z127 := L.z127; have v127 := L.v127; have u127 := run_underlying L.t127
  have t3 := L.t3; have a3 := L.a3; have z3 := L.z3; have v3 := L.v3; have u3 := run_underlying L.t3
  have t9 := L.t9; have a9 := L.a9; have z9 := L.z9; have v9 := L.v9; have u9 := run_underlying L.t9
  have t5 := X.t5; have a5 := X.a5; have z5 := X.z5; have v5 := X.v5; have u5 := run_underlying X.t5
  go_enter L.f169, Body.n169_ntmps ρ
  go_wp2
  go_region_o
  all_goals (go_wp2; go_ret; exact ⟨rfl, Took.view w _ _⟩)
set_option maxHeartbeats 2000000 in
set_option maxRecDepth 100000 in
theorem str_room (L : Lays.n169 P ρ) (X : Builder.Extra P ρ) (b o g cap : Nat) (w : World) (hc0 : cap ≠ 0) (c1 : w.drew.cell? ⟨b, o + 1, none⟩ = some (.slice (some ⟨g, 0, none⟩) 0 cap)) :
    Calls P (ρ.f 169) #[.pointer (some ⟨b, o, none⟩)] w fun e w' => e = .returned (.string ⟨#[]⟩) ∧ Took w (.slice (some ⟨g, 0, none⟩) 0 cap) w' := by
  have hUS : ∀ W q, (Builtin.unsafeString_ #[(ρ.t 127), (ρ.t 3)] (ρ.t 9) #[.pointer q, .int .i64 0]).run P W = .ok (.string .empty) W := fun W q => Lib.run_unsafeString_none W _ _ _ q
  have hSD : (Builtin.unsafeSliceData_ #[(ρ.t 37)] (ρ.t 127) #[.slice (some ⟨g, 0, none⟩) 0 cap]).run P w.drew = .ok (.pointer (some ⟨g, 0, none⟩)) w.drew :=
    Lib.run_unsafeSliceData_row _ _ _ _ _ _ hc0
  clear hc0
  have mixed := L.mixed
  have t72 := L.t72; have a72 := L.a72; have z72 := L.z72; have v72 := L.v72; have u72 := run_underlying L.t72
  have t70 := L.t70; have a70 := L.a70; have z70 := L.z70; have v70 := L.v70; have u70 := run_underlying L.t70
  have t37 := L.t37; have a37 := L.a37; have z37 := L.z37; have v37 := L.v37; have u37 := run_underlying L.t37
  have t127 := L.t127; have a127 := L.a127; have z127 := L.z127; have v127 := L.v127; have u127 := run_underlying L.t127
  have t3 := L.t3; have a3 := L.a3; have z3 := L.z3; have v3 := L.v3; have u3 := run_underlying L.t3
  have t9 := L.t9; have a9 := L.a9; have z9 := L.z9; have v9 := L.v9; have u9 := run_underlying L.t9
  have t5 := X.t5; have a5 := X.a5; have z5 := X.z5; have v5 := X.v5; have u5 := run_underlying X.t5
  go_enter L.f169, Body.n169_ntmps ρ
  go_wp2
  go_region_o
  all_goals (go_wp2; go_ret; exact ⟨rfl, Took.same w _⟩)
theorem str_run (L : Lays.n169 P ρ) (X : Builder.Extra P ρ) {b o : Nat} {c : Array Value} {T : TypeId} {w : World} (hb : w.heap[b]? = some (.cells c T (0, 0))) {v : Value} {l : List UInt8} (hv : c[o + 1]? = some v)
    (hown : w.ownsRow 0 (ρ.t 5) 1 v l.length (Lib.byteCells l)) :
    Calls P (ρ.f 169) #[.pointer (some ⟨b, o, none⟩)] w fun e w' => e = .returned (.string ⟨l.toArray⟩) ∧ Took w v w' := by
  have c1 : w.drew.cell? ⟨b, o + 1, none⟩ = some v := by
    have : w.drew.heap[b]? = some (.cells c T (0, 0)) := hb
    rw [Lib.cell_of_heap this]; exact hv
  rcases hown.2 with ⟨rfl, h0⟩ | ⟨g, cap, cur, rfl, _, hg, hnc, hcm, hcs, htake⟩
  · obtain rfl := List.eq_nil_of_length_eq_zero h0
    exact str_nil L X b o w c1
  · by_cases h0 : l = []
    · subst h0
      by_cases hc : cap = 0
      · subst hc
        exact str_noroom L X b o g c cur T w hb hv hg
      · exact str_room L X b o g cap w hc c1
    · exact str_some L X b o g cap cur l w h0 c1 hg hnc hcm hcs htake
end
end Go.Pe

namespace Go.Pe
open Go.Shelf Go.RowKit Go.Proofs
section
variable {P : Program} {ρ : Ren} {g : G} {w : World}
theorem HeapInv.set {g' : G} {w' : World} {hp : List Ent} (h : HeapInv P g w hp) {id : Nat} {cs cs' : List PV} {c' : Array Value} {e : TypeId} (ht : hp[id]? = some (.box cs))
    (hc : Chg (fun l => l = .bx id ∨ ∃ j, l = .cell id j) g w g' w') (hn : g'.nb = g.nb) (hk : g'.κ (g'.bb id) = some (.bx id)) (htip : g'.tip (g'.bb id) = 0) (hb : w'.heap[g'.bb id]? = some (.cells c' e (0, 0))) (hr : CellsRep P g' w' (fun j => .cell id j) c' cs')
    (hbn : ∀ (j u : Nat), cs'[j]? = some (PV.bnil u) → cs[j]? = some (PV.bnil u)) (hsh : w'.shape? (g.bb id) = w.shape? (g.bb id)) : HeapInv P g' w' (hp.set id (.box cs')) := by
  have hI : Inv P g w { tmps := #[], defers := [] } ⟨[], hp⟩ := ⟨rfl, fun t p ht => by simp at ht, h⟩
  exact (hI.set_heap (N := fun _ => False) (idle_none _) (id := id) ht (hc.mono fun l hl => .inr hl) hn hk htip hb hr hbn hsh).heap

theorem flat_bytes_inv {S : Nat → Nat → Prop} {w : World} {l : List UInt8} {us : List Value} (h : Flat S w 1 (bytesD l) us) : us = Lib.byteCells l := by
  apply List.ext_getElem?
  intro i
  by_cases hi : i < l.length
  · obtain ⟨u, h1, h2⟩ := h.rep i (.int .u8 l[i].toNat) 0 (.int .u8 l[i].toNat) (by simp [bytesD, hi]) rfl
    rw [Nat.mul_one, Nat.add_zero] at h1
    cases h2
    rw [h1]
    simp [Lib.byteCells, hi]
  · have := h.len
    rw [List.getElem?_eq_none (by simp [bytesD] at this; omega), List.getElem?_eq_none (by simp [Lib.byteCells]; omega)]

def bldA (tB id off : Nat) : PV → Bool
  | .bnil u => u == tB
  | .ptr i o => i == id && o == off
  | _ => false
def bldR (e : Nat) : PV → Option (List D)
  | .own e' xs => if e' = e then some xs else none
  | .nilsl => some []
  | _ => none
def bldAt (tB e : Nat) (id off : Nat) (hp : List Ent) : Option (List PV × List D) :=
  match hp[id]? with
  | some (.box cs) => match cs[off]?, cs[off + 1]? with
    | some a, some b => if bldA tB id off a then (bldR e b).map (cs, ·) else none
    | _, _ => none
  | _ => none
def bldPut (e id off : Nat) (cs : List PV) (xs : List D) : Ent := .box ((cs.set off (.ptr id off)).set (off + 1) (.own e xs))
def wsP (tB e : Nat) : List PV → List Ent → Option (PV × List Ent)
  | [.ptr id off, .d (.str s)], hp => match bldAt tB e id off hp with
    | some (cs, xs) => if xs.length + s.size ≤ 140737488355328 then some (.tup [.d (.int .i64 s.size), .d .nili], hp.set id (bldPut e id off cs (xs ++ bytesD s.data.toList))) else none
    | none => none
  | _, _ => none
def wbP (tB e : Nat) : List PV → List Ent → Option (PV × List Ent)
  | [.ptr id off, .d (.int .u8 c)], hp => match bldAt tB e id off hp with
    | some (cs, xs) => if xs.length + 1 ≤ 140737488355328 then some (.d .nili, hp.set id (bldPut e id off cs (xs ++ [.int .u8 c]))) else none
    | none => none
  | _, _ => none
structure BldAt (P : Program) (ρ : Ren) (g : G) (w : World) (hp : List Ent) (id off : Nat) (cs : List PV) (xs : List D) (c : Array Value) (T : TypeId) (v : Value) (us : List Value) : Prop where
  box : hp[id]? = some (.box cs)
  lt : id < g.nb
  inb : InBox P ρ (g.bb id) off c T w
  kap : g.κ (g.bb id) = some (.bx id)
  tip : g.tip (g.bb id) = 0
  rep : CellsRep P g w (fun j => .cell id j) c cs
  at1 : c[off + 1]? = some v
  len : off + 1 < cs.length
  own : w.ownsRow 0 (ρ.t 5) 1 v xs.length us
  flt : Flat g.stab w 1 xs us
  blk : ∀ b, v.ownBlock = some b → g.κ b = some (.cell id (off + 1)) ∧ g.tip b = xs.length * 1
theorem bldAt_ok (hcell : P.cellsOf (ρ.t 5) = 1) {hp : List Ent} (hH : HeapInv P g w hp) {id off : Nat} {cs : List PV} {xs : List D} (h : bldAt (ρ.t 72) (ρ.t 5) id off hp = some (cs, xs)) :
    ∃ c T v us, BldAt P ρ g w hp id off cs xs c T v us := by
  unfold bldAt at h
  split at h
  · rename_i cs0 hbox
    split at h
    · rename_i a b ha hb
      split at h
      · rename_i hA
        obtain ⟨xs0, hR, h2⟩ := Option.map_eq_some_iff.1 h
        simp only [Prod.mk.injEq] at h2
        obtain ⟨rfl, rfl⟩ := h2
        obtain ⟨c, T, k1, k2, k3, k4⟩ := hH.ent id _ hbox
        have hid : id < g.nb := by rw [hH.nb]; exact (List.getElem?_eq_some_iff.1 hbox).1
        obtain ⟨u0, c0, _, r0⟩ := k4.2 off a ha
        obtain ⟨u1, c1, _, r1⟩ := k4.2 (off + 1) b hb
        have hl : off + 1 < cs0.length := (List.getElem?_eq_some_iff.1 hb).1
        have hroom : off + 1 < c.size := Nat.lt_of_lt_of_le hl k4.1
        have haddr : c[off]? = some (.pointer (some ⟨g.bb id, off, none⟩)) ∨ (c[off]? = some (.pointer none) ∧ liesAt P P.depth T (c.size / P.cellsOf T) off (ρ.t 72) 1 = true) := by
          unfold bldA at hA
          split at hA
          · rename_i u
            have e : u = ρ.t 72 := by simpa using hA
            subst e
            simp only [RepF] at r0
            subst r0
            obtain ⟨e1, n1, s1, s2⟩ := hH.lies id cs0 hbox off _ ha
            have hs : w.shape? (g.bb id) = some (T, c.size) := by simp [World.shape?, k3]
            rw [hs] at s1
            simp only [Option.some.injEq, Prod.mk.injEq] at s1
            obtain ⟨rfl, rfl⟩ := s1
            exact .inr ⟨c0, s2⟩
          · rename_i i o
            simp only [Bool.and_eq_true, beq_iff_eq] at hA
            obtain ⟨rfl, rfl⟩ := hA
            simp only [RepF] at r0
            rw [r0.2] at c0
            exact .inl c0
          · simp at hA
        have hrow : ∃ us, w.ownsRow 0 (ρ.t 5) 1 u1 xs0.length us ∧ Flat g.stab w 1 xs0 us ∧ ∀ b, u1.ownBlock = some b → g.κ b = some (.cell id (off + 1)) ∧ g.tip b = xs0.length * 1 := by
          unfold bldR at hR
          split at hR
          · rename_i e' ys
            split at hR
            · rename_i he
              subst he
              simp only [Option.some.injEq] at hR
              subst hR
              simp only [RepF, hcell] at r1
              exact r1
            · simp at hR
          · simp only [Option.some.injEq] at hR
            subst hR
            simp only [RepF] at r1
            subst r1
            exact ⟨[], World.ownsRow_nil w 0 _ 1, Flat.nil _ _ _, by simp [Value.ownBlock]⟩
          · simp at hR
        obtain ⟨us, q1, q2, q3⟩ := hrow
        exact ⟨c, T, u1, us, hbox, hid, ⟨k3, hroom, haddr⟩, k1, k2, k4, c1, hl, q1, q2, q3⟩
      · simp at h
    · simp at h
  · simp at h
theorem bld_grown {hp : List Ent} (hcell : P.cellsOf (ρ.t 5) = 1) (hH : HeapInv P g w hp) {id off : Nat} {cs : List PV} {xs ys : List D} {c : Array Value} {T : TypeId} {v : Value} {us news : List Value} (h : BldAt P ρ g w hp id off cs xs c T v us)
    (hfl : ∀ (S : Nat → Nat → Prop) (w : World), Flat S w 1 ys news) {wq w2 w' : World} {v' : Value} (hq : wq = w.setRow (g.bb id) (c.setIfInBounds off (.pointer (some ⟨g.bb id, off, none⟩))) ∨ ∃ o, wq = (w.setRow (g.bb id) (c.setIfInBounds off (.pointer (some ⟨g.bb id, off, none⟩)))).alloc o)
    (hown' : w2.ownsRow 0 (ρ.t 5) 1 v' (xs.length + ys.length) (us ++ news)) (hgc : GrowCase wq v v' w2) (hw' : w' = w2.setRow (g.bb id) ((c.setIfInBounds off (.pointer (some ⟨g.bb id, off, none⟩))).setIfInBounds (off + 1) v')) :
    ∃ g', Chg Mine g w g' w' ∧ HeapInv P g' w' (hp.set id (bldPut (ρ.t 5) id off cs (xs ++ ys))) := by
  have hblt : g.bb id < w.heap.size := lt_of_heap h.inb.heap
  have hne : ∀ b, v.ownBlock = some b → b ≠ g.bb id := fun b hb e => by
    have := (h.blk b hb).1
    rw [e, h.kap] at this
    simp at this
  have hb0 : (w.setRow (g.bb id) (c.setIfInBounds off (.pointer (some ⟨g.bb id, off, none⟩)))).heap[g.bb id]? = some (.cells (c.setIfInBounds off (.pointer (some ⟨g.bb id, off, none⟩))) T (0, 0)) := setRow_heap w _ c _ T _ h.inb.heap
  have hc0 : Chg (fun l => l = .bx id) g w g (w.setRow (g.bb id) (c.setIfInBounds off (.pointer (some ⟨g.bb id, off, none⟩)))) := Chg.setRow h.inb.heap h.kap rfl h.tip
  have hs0 : (w.setRow (g.bb id) (c.setIfInBounds off (.pointer (some ⟨g.bb id, off, none⟩)))).heap.size = w.heap.size := by simp [World.setRow]
  have hcq : Chg (fun l => l = .bx id) g w g wq := by
    rcases hq with rfl | ⟨o, rfl⟩
    · exact hc0
    · exact hc0.trans (Chg.alloc _ o (fun _ _ => ⟨rfl, rfl⟩) (Nat.le_refl _) (fun _ _ => rfl))
  have hbq : wq.heap[g.bb id]? = some (.cells (c.setIfInBounds off (.pointer (some ⟨g.bb id, off, none⟩))) T (0, 0)) := by
    rcases hq with rfl | ⟨o, rfl⟩
    · exact hb0
    · rw [Lib.alloc_old _ o _ (by rw [hs0]; exact hblt)]
      exact hb0
  have hownq : wq.ownsRow 0 (ρ.t 5) 1 v xs.length us := ownsRow_same h.own fun k hk hlt => (hcq.own k _ hlt (h.blk k hk).1 (by simp)).2.2
  have hsq : g.bb id < wq.heap.size := lt_of_heap hbq
  obtain ⟨g2, hc2, hn2, hbb2, hblk2, hne2⟩ : ∃ g2, Chg (fun l => l = .cell id (off + 1)) g wq g2 w2 ∧ g2.nb = g.nb ∧ g2.bb = g.bb ∧ (∀ b, v'.ownBlock = some b → g2.κ b = some (.cell id (off + 1)) ∧ g2.tip b = (xs.length + ys.length) * 1) ∧ ∀ b, v'.ownBlock = some b → b ≠ g.bb id := by
    rcases hgc with hg | hg | ⟨rfl, rfl⟩
    · obtain ⟨b', e1, hch⟩ := Chg.append (g := g) (d := .cell id (off + 1)) hownq h.blk hown' (.inl hg)
      obtain ⟨b, k1, k2, _⟩ := hg
      refine ⟨_, hch, rfl, rfl, fun b1 hb1 => ?_, fun b1 hb1 => ?_⟩
      · rw [e1] at hb1
        simp only [Option.some.injEq] at hb1
        subst hb1
        simp [G.own]
      · rw [k2] at hb1
        simp only [Option.some.injEq] at hb1
        subst hb1
        exact hne _ k1
    · obtain ⟨b', e1, hch⟩ := Chg.append (g := g) (d := .cell id (off + 1)) hownq h.blk hown' (.inr hg)
      refine ⟨_, hch, rfl, rfl, fun b1 hb1 => ?_, fun b1 hb1 => ?_⟩
      · rw [e1] at hb1
        simp only [Option.some.injEq] at hb1
        subst hb1
        simp [G.own]
      · rw [hg.1.1] at hb1
        simp only [Option.some.injEq] at hb1
        omega
    · refine ⟨g, Chg.refl _ _ _, rfl, rfl, fun b hb => ?_, hne⟩
      have hz : ys.length = 0 := by
        rcases hown'.2 with ⟨rfl, h0⟩ | ⟨g1, cap, cur, rfl, _⟩
        · omega
        · rcases hownq.2 with ⟨hv, _⟩ | ⟨g3, cap3, cur3, hv, _⟩
          · simp at hv
          · simp only [Value.slice.injEq] at hv
            omega
      rw [hz, Nat.add_zero]
      exact h.blk b hb
  have hk2 : g2.κ (g.bb id) = some (.bx id) ∧ g2.tip (g.bb id) = 0 ∧ w2.heap[g.bb id]? = some (.cells (c.setIfInBounds off (.pointer (some ⟨g.bb id, off, none⟩))) T (0, 0)) := by
    obtain ⟨k1, k2, k3⟩ := hc2.own (g.bb id) (.bx id) hsq h.kap (by simp)
    exact ⟨k1, k2.trans h.tip, k3.trans hbq⟩
  have hc3 : Chg (fun l => l = .bx id) g2 w2 g2 w' := by rw [hw']; exact Chg.setRow hk2.2.2 hk2.1 rfl hk2.2.1
  have hct : Chg (fun l => l = .bx id ∨ l = .cell id (off + 1)) g w g2 w' := ((hcq.mono fun l hl => .inl hl).trans (hc2.mono fun l hl => .inr hl)).trans (hc3.mono fun l hl => .inl hl)
  have hbw : w'.heap[g.bb id]? = some (.cells ((c.setIfInBounds off (.pointer (some ⟨g.bb id, off, none⟩))).setIfInBounds (off + 1) v') T (0, 0)) := by rw [hw']; exact setRow_heap w2 _ _ _ T _ hk2.2.2
  have hroom := h.inb.room
  have hlen := h.len
  refine ⟨g2, hct.mono ?_, HeapInv.set (c' := (c.setIfInBounds off (.pointer (some ⟨g.bb id, off, none⟩))).setIfInBounds (off + 1) v') (e := T) hH h.box (hct.mono ?_) hn2 (by rw [hbb2]; exact hk2.1) (by rw [hbb2]; exact hk2.2.1) (by rw [hbb2]; exact hbw) ⟨?_, ?_⟩ ?_ ?_⟩
  · rintro l (rfl | rfl)
    · exact mine_bx id
    · exact mine_cell _ _
  · rintro l (rfl | rfl)
    · exact .inl rfl
    · exact .inr ⟨_, rfl⟩
  · simpa using h.rep.1
  · intro j p hj
    by_cases e1 : j = off + 1
    · subst e1
      rw [List.getElem?_set_self (by simpa using hlen)] at hj
      simp only [Option.some.injEq] at hj
      subst hj
      refine ⟨v', Array.getElem?_setIfInBounds_self_of_lt (by simpa using hroom), ?_, ?_⟩
      · rcases hown'.2 with ⟨rfl, _⟩ | ⟨_, _, _, rfl, _⟩ <;> rfl
      · simp only [RepF, hcell]
        refine ⟨us ++ news, ?_, (h.flt.mono hct.stab).append (hfl _ _), by rw [List.length_append]; exact hblk2⟩
        rw [List.length_append]
        refine ownsRow_same hown' fun k hk hlt => ?_
        rw [hw']
        exact setRow_other w2 _ k _ (hne2 k hk)
    · rw [List.getElem?_set_ne (by omega)] at hj
      by_cases e2 : j = off
      · subst e2
        rw [List.getElem?_set_self (by omega)] at hj
        simp only [Option.some.injEq] at hj
        subst hj
        refine ⟨.pointer (some ⟨g.bb id, j, none⟩), by rw [Array.getElem?_setIfInBounds_ne (by omega)]; exact Array.getElem?_setIfInBounds_self_of_lt (by omega), rfl, ?_⟩
        simp only [RepF]
        rw [hbb2, hn2]
        exact ⟨h.lt, rfl⟩
      · rw [List.getElem?_set_ne (by omega)] at hj
        obtain ⟨u, k1, k2, k3⟩ := h.rep.2 j p hj
        refine ⟨u, by rw [Array.getElem?_setIfInBounds_ne (by omega), Array.getElem?_setIfInBounds_ne (by omega)]; exact k1, k2, k3.mono hct ?_⟩
        rintro (hm | hm)
        · cases hm
        · injection hm with _ hm; omega
  · intro j u hj
    by_cases e1 : j = off + 1
    · subst e1
      rw [List.getElem?_set_self (by simpa using hlen)] at hj
      simp at hj
    · rw [List.getElem?_set_ne (by omega)] at hj
      by_cases e2 : j = off
      · subst e2
        rw [List.getElem?_set_self (by omega)] at hj
        simp at hj
      · rw [List.getElem?_set_ne (by omega)] at hj
        exact hj
  · simp [World.shape?, hbw, h.inb.heap]
theorem ws_hp {x : Code} (he : entered P (ρ.f 166) = true) (L : BldT P ρ x) (hf : P.funcs[ρ.f 166]? = some (Body.n166 ρ)) (X : Builder.Extra P ρ) : HpSound P (ρ.f 166) (wsP (ρ.t 72) (ρ.t 5)) where
  ent := he
  calls := by
    intro args hp v hp' hv hfl hpl g w vals l ha hH
    unfold wsP at hv
    split at hv
    · rename_i id off s
      split at hv
      · rename_i cs xs hat
        split at hv
        · rename_i hlen
          simp only [Option.some.injEq, Prod.mk.injEq] at hv
          obtain ⟨rfl, rfl⟩ := hv
          match vals, ha with
          | [a1, a2], ha =>
            simp only [RepFs, RepF, and_true] at ha
            obtain ⟨⟨hid, rfl⟩, ha2⟩ := ha
            cases ha2
            obtain ⟨c, T, u, us, hb⟩ := bldAt_ok (ρ := ρ) X.cellsByte hH hat
            refine (ws_run L hf X hb.inb hb.at1 hb.own (fun e => by have := (hb.blk _ e).1; rw [hb.kap] at this; simp at this) s hlen).mono ?_
            rintro e w' ⟨rfl, v', w2, k1, k2, k3⟩
            have hsz : s.size = (bytesD s.data.toList).length := by simp [bytesD]
            rw [hsz] at k1
            obtain ⟨g', hc, hI⟩ := bld_grown X.cellsByte hH hb (ys := bytesD s.data.toList) (news := Lib.strCells s) (fun S w => flat_bytes S w s.data.toList) (.inl rfl) k1 k2 k3
            exact ⟨g', hc, _, rfl, ⟨[.int .i64 s.size, .nilIface], rfl, rfl, fun j p u hj hu => by
              match j, hj, hu with
              | 0, hj, hu => simp at hj hu; subst hj; subst hu; simp only [RepF]; exact .int _ _
              | 1, hj, hu => simp at hj hu; subst hj; subst hu; simp only [RepF]; exact .nili⟩, hI⟩
        · simp at hv
      · simp at hv
    · simp at hv
theorem wp_append_any {w : World} {ops : Array Oper} {rest : List Oper} {o : Oper} {a : Act} {Q : Exit → Act → World → Prop} (hgd : o.guard = none) (sl x : Operand) (t : TypeId)
    (ho : o.op = .call { callee := .builtin .append, args := #[sl, x], argTypes := #[t, t] }) {e sz bytes : Nat} {i : TypeInfo} {z : Value} (hok : AppOk P t e sz bytes i z) (v : Value) (n : Nat) (us : List Value) (hs : a.eval sl = v) (hown : w.ownsRow 0 e sz v n us)
    (ad : Addr) (m c : Nat) (news : List Value) (hx : a.eval x = .slice (some ad) m c) (hl : news.length = m * sz) (hnews : ∀ j u, news[j]? = some u → w.cell? (ad.add j) = some u) (h1 : ∀ u ∈ news, u.oneCell' = true) (hm : 0 < m) (hb : (n + m) * bytes ≤ 140737488355328)
    (h : ∀ v' w', w'.ownsRow 0 e sz v' (n + m) (us ++ news) → GrowCase w v v' w' → wpList P ops Q rest (a.put o.dst v') w') : wpList P ops Q (o :: rest) a w := by
  refine wpList_plain hgd fun K hK => ?_
  obtain ⟨v', w', hr, h2, h3⟩ := run_append_any (P := P) hok o.type (c := c) hown ad hl hnews h1 hm hb
  unfold Oper.wp execOp
  simp only [ho, resolve, invoke, builtin, Sem.run_bind, Sem.run_pure, Result.andThen_ok, List.map_toArray, List.map_cons, List.map_nil, hs, hx, hr]
  exact hK _ _ (h v' w' h2 (h3.elim .inl fun h => .inr (.inl h)))
def WroteB (P : Program) (ρ : Ren) (b o : Nat) (c : Array Value) (w : World) (v : Value) (n : Nat) (us : List Value) (w' : World) : Prop :=
  ∃ ob v' w2, w2.ownsRow 0 (ρ.t 5) 1 v' n us ∧ GrowCase ((w.setRow b (c.setIfInBounds o (.pointer (some ⟨b, o, none⟩)))).alloc ob) v v' w2 ∧ w' = w2.setRow b ((c.setIfInBounds o (.pointer (some ⟨b, o, none⟩))).setIfInBounds (o + 1) v')
set_option maxHeartbeats 2000000 in
set_option maxRecDepth 100000 in
theorem wb_run {x : Code} (L : BldT P ρ x) (hf : P.funcs[ρ.f 167]? = some (Body.n167 ρ)) (X : Builder.Extra P ρ) {b o : Nat} {c : Array Value} {T : TypeId} {w : World} (h : InBox P ρ b o c T w) {v : Value} {n : Nat} {us : List Value} (hv : c[o + 1]? = some v)
    (hown : w.ownsRow 0 (ρ.t 5) 1 v n us) (hne : v.ownBlock ≠ some b) (d : Int) (hlen : n + 1 ≤ 140737488355328) :
    Calls P (ρ.f 167) #[.pointer (some ⟨b, o, none⟩), .int .u8 d] w fun e w' => e = .returned .nilIface ∧ WroteB P ρ b o c w v (n + 1) (us ++ [.int .u8 d]) w' := by
  obtain ⟨i0, hi, hz0, hz1, hz2⟩ := info_parts X.infoByte
  have mixed := L.mixed
  have t72 := L.t72; have a72 := L.a72; have z72 := L.z72; have v72 := L.v72; have u72 := run_underlying L.t72
  have t70 := L.t70; have a70 := L.a70; have z70 := L.z70; have v70 := L.v70; have u70 := run_underlying L.t70
  have t5 := X.t5; have a5 := X.a5; have z5 := X.z5; have v5 := X.v5; have u5 := run_underlying X.t5
  have t37 := L.t37; have a37 := L.a37; have z37 := L.z37; have v37 := L.v37; have u37 := run_underlying L.t37
  have t9 := L.t9; have a9 := L.a9; have z9 := L.z9; have v9 := L.v9; have u9 := run_underlying L.t9
  have t4 := L.t4; have a4 := L.a4; have z4 := L.z4; have v4 := L.v4; have u4 := run_underlying L.t4
  have t164 := L.t164; have a164 := L.a164; have z164 := L.z164; have v164 := L.v164; have u164 := run_underlying L.t164
  have e240 : ∀ args w, (callFunc (ρ.f 240) args).run P w = .ok (.enter (ρ.f 240) args) w := enters_of L.f240 (by kernel_rfl) rfl
  go_enter hf, Body.n167_ntmps ρ
  go_wp2_with (go_at_fn (ρ.f 240); refine (cc_any L X.toX72 h).mono ?_)
  rintro e w1 ⟨rfl, hw1⟩
  have hr := h.room
  have hb1 : w1.heap[b]? = some (.cells (c.setIfInBounds o (.pointer (some ⟨b, o, none⟩))) T (0, 0)) := by rw [hw1]; exact setRow_heap w b c _ T _ h.heap
  have c1 : w1.cell? ⟨b, o + 1, none⟩ = some v := by
    rw [Lib.cell_of_heap hb1, Array.getElem?_setIfInBounds_ne (by omega)]
    exact hv
  have hown1 : w1.ownsRow 0 (ρ.t 5) 1 v n us := ownsRow_same hown fun k hk _ => by rw [hw1]; exact setRow_other w b k _ (fun e => hne (e ▸ hk))
  have HW : Hid (w1 = w.setRow b (c.setIfInBounds o (.pointer (some ⟨b, o, none⟩)))) := hw1
  clear hw1
  have hlt1 : b < w1.heap.size := lt_of_heap hb1
  have hal : ∀ ob, (w1.alloc ob).ownsRow 0 (ρ.t 5) 1 v n us := fun ob => hown1.alloc _
  go_wp2_with (at_builtin; refine wp_append_any rfl _ _ (ρ.t 37) rfl (e := ρ.t 5) (sz := 1) (bytes := 1) (i := i0) (z := .int .u8 0) ⟨L.t37, hi, hz0, hz1, hz2, rfl, by decide, by decide⟩ _ _ _ rfl (hal _) ⟨w1.heap.size, 0, none⟩ 1 1 [.int .u8 d] rfl rfl ?c1 ?c2 (by decide) (by omega) ?_)
  case c1 =>
    intro j u hj
    match j, hj with
    | 0, hj => simp at hj; subst hj; simp [Addr.add]
  case c2 => intro u hu; simp at hu; subst hu; rfl
  intro v' w2 hown' hgrow
  have hb1' : ∀ ob, (w1.alloc ob).heap[b]? = some (.cells (c.setIfInBounds o (.pointer (some ⟨b, o, none⟩))) T (0, 0)) := fun ob => (Lib.alloc_old w1 ob b hlt1).trans hb1
  have hb2 : w2.heap[b]? = some (.cells (c.setIfInBounds o (.pointer (some ⟨b, o, none⟩))) T (0, 0)) := by
    have hlt := lt_of_heap (hb1' (.cells #[.int .u8 d] (ρ.t 5) (0, 0)))
    rcases hgrow with ⟨b', e1, _, hg⟩ | ⟨⟨_, hg⟩, _⟩ | ⟨_, rfl⟩
    · rw [hg.block b hlt (fun e => by injection e with e; exact hne (e ▸ e1))]
      exact hb1' _
    · rw [hg b hlt]
      exact hb1' _
    · exact hb1' _
  have d1 : w2.cell? ⟨b, o + 1, none⟩ = some v := by
    rw [Lib.cell_of_heap hb2, Array.getElem?_setIfInBounds_ne (by omega)]
    exact hv
  have f1 : w2.frozen? ⟨b, o + 1, none⟩ = false := Lib.frozen_of_heap hb2 (o + 1)
  obtain ⟨ao, n', cap, rfl⟩ : ∃ ao n' cap, v' = .slice ao n' cap := by
    rcases hown'.2 with ⟨hv, _⟩ | ⟨g, cap, cur, hv, _⟩
    · exact ⟨_, _, _, hv⟩
    · exact ⟨_, _, _, hv⟩
  have hset : w2.setCell ⟨b, o + 1, none⟩ (.slice ao n' cap) = w2.setRow b ((c.setIfInBounds o (.pointer (some ⟨b, o, none⟩))).setIfInBounds (o + 1) (.slice ao n' cap)) := setCell_eq_setRow w2 b (o + 1) _ T (0, 0) _ hb2
  have HG : Hid (∃ ob, GrowCase (w1.alloc ob) v (.slice ao n' cap) w2) := ⟨_, hgrow⟩
  have HS : Hid _ := hset
  clear hgrow hset
  go_wp2
  go_ret
  obtain ⟨ob, hg⟩ := HG.out
  exact ⟨rfl, ob, _, w2, hown', HW.out ▸ hg, HS.out⟩
theorem wb_hp {x : Code} (he : entered P (ρ.f 167) = true) (L : BldT P ρ x) (hf : P.funcs[ρ.f 167]? = some (Body.n167 ρ)) (X : Builder.Extra P ρ) : HpSound P (ρ.f 167) (wbP (ρ.t 72) (ρ.t 5)) where
  ent := he
  calls := by
    intro args hp v hp' hv hfl hpl g w vals l ha hH
    unfold wbP at hv
    split at hv
    · rename_i id off d
      split at hv
      · rename_i cs xs hat
        split at hv
        · rename_i hlen
          simp only [Option.some.injEq, Prod.mk.injEq] at hv
          obtain ⟨rfl, rfl⟩ := hv
          match vals, ha with
          | [a1, a2], ha =>
            simp only [RepFs, RepF, and_true] at ha
            obtain ⟨⟨hid, rfl⟩, ha2⟩ := ha
            cases ha2
            obtain ⟨c, T, u, us, hb⟩ := bldAt_ok (ρ := ρ) X.cellsByte hH hat
            refine (wb_run L hf X hb.inb hb.at1 hb.own (fun e => by have := (hb.blk _ e).1; rw [hb.kap] at this; simp at this) d hlen).mono ?_
            rintro e w' ⟨rfl, ob, v', w2, k1, k2, k3⟩
            have hf : ∀ (S : Nat → Nat → Prop) (w : World), Flat S w 1 [D.int .u8 d] [Value.int .u8 d] := fun S w => ⟨rfl, by simp [D.width, D.cells], by simp [D.cells, D.isAgg], fun i x j c hi hj => by
              match i, hi with
              | 0, hi =>
                simp at hi; subst hi
                match j, hj with
                | 0, hj => simp [D.cells] at hj; subst hj; exact ⟨_, rfl, .int _ _⟩⟩
            obtain ⟨g', hc, hI⟩ := bld_grown X.cellsByte hH hb (ys := [.int .u8 d]) (news := [.int .u8 d]) hf (.inr ⟨ob, rfl⟩) k1 k2 k3
            exact ⟨g', hc, _, rfl, (show RepF P g' w' (.ret 0) (.d .nili) .nilIface by simp only [RepF]; exact .nili), hI⟩
        · simp at hv
      · simp at hv
    · simp at hv

def byteOf : D → Option UInt8
  | .int .u8 n => if 0 ≤ n ∧ n < 256 then some (UInt8.ofNat n.toNat) else none
  | _ => none
def bytesOf : List D → Option (List UInt8)
  | [] => some []
  | x :: xs => match byteOf x, bytesOf xs with
    | some b, some l => some (b :: l)
    | _, _ => none
theorem bytesOf_eq : ∀ {xs : List D} {l : List UInt8}, bytesOf xs = some l → xs = bytesD l
  | [], l, h => by simp only [bytesOf, Option.some.injEq] at h; subst h; rfl
  | x :: xs, l, h => by
    simp only [bytesOf] at h
    split at h
    · rename_i b l' hb hl
      simp only [Option.some.injEq] at h
      subst h
      rw [bytesOf_eq hl]
      unfold byteOf at hb
      split at hb
      · rename_i n
        split at hb
        · rename_i hn
          simp only [Option.some.injEq] at hb
          subst hb
          simp only [bytesD, List.map_cons, List.cons.injEq, D.int.injEq, true_and, and_true]
          have : (UInt8.ofNat n.toNat).toNat = n.toNat := by simp [UInt8.toNat_ofNat]; omega
          rw [this]
          omega
        · simp at hb
      · simp at hb
    · simp at h
theorem bytesOf_bytesD : ∀ (l : List UInt8), bytesOf (bytesD l) = some l
  | [] => rfl
  | b :: l => by
    have h1 : byteOf (.int .u8 b.toNat) = some b := by
      have := b.toNat_lt
      simp only [byteOf]
      rw [if_pos (by omega)]
      simp
    have h2 : bytesD (b :: l) = .int .u8 b.toNat :: bytesD l := rfl
    rw [h2]
    simp only [bytesOf, h1, bytesOf_bytesD l]
def strP (tB e : Nat) : List PV → List Ent → Option (PV × List Ent)
  | [.ptr id off], hp => match bldAt tB e id off hp with
    | some (cs, xs) => match bytesOf xs with
      | some l => some (.d (.str ⟨l.toArray⟩), hp.set id (.box (cs.set (off + 1) (.d (.sl xs)))))
      | none => none
    | none => none
  | _, _ => none
theorem str_hp (he : entered P (ρ.f 169) = true) (L : Lays.n169 P ρ) (X : Builder.Extra P ρ) : HpSound P (ρ.f 169) (strP (ρ.t 72) (ρ.t 5)) where
  ent := he
  calls := by
    intro args hp v hp' hv hfl hpl g w vals l ha hH
    unfold strP at hv
    split at hv
    · rename_i id off
      split at hv
      · rename_i cs xs hat
        split at hv
        · rename_i bs hbs
          simp only [Option.some.injEq, Prod.mk.injEq] at hv
          obtain ⟨rfl, rfl⟩ := hv
          have hxs := bytesOf_eq hbs
          match vals, ha with
          | [a1], ha =>
            simp only [RepFs, RepF, and_true] at ha
            obtain ⟨hid, rfl⟩ := ha
            obtain ⟨c, T, u, us, hb⟩ := bldAt_ok (ρ := ρ) X.cellsByte hH hat
            have hus : us = Lib.byteCells bs := flat_bytes_inv (hxs ▸ hb.flt)
            have hlen : xs.length = bs.length := by rw [hxs]; simp [bytesD]
            have hne : ∀ b, u.ownBlock = some b → b ≠ g.bb id := fun b hb' e => by
              have := (hb.blk b hb').1
              rw [e, hb.kap] at this
              simp at this
            refine (str_run L X hb.inb.heap hb.at1 (l := bs) (by rw [← hlen, ← hus]; exact hb.own)).mono ?_
            rintro e w' ⟨rfl, ht⟩
            have hc : Chg (fun l => l = .cell id (off + 1)) g w g w' := by
              refine ⟨ht.os, ht.tape, ht.output, ht.size, fun b i u hc hs => ⟨ht.cell b i u hc, hs⟩, fun b l hlt hl hm => ⟨hl, rfl, ht.block b hlt fun e => ?_⟩, fun b hlt hl => ⟨hl, ht.block b hlt fun e => ?_⟩, Nat.le_refl _, fun _ _ => rfl⟩
              · have := (hb.blk b e).1
                rw [hl] at this
                simp only [Option.some.injEq] at this
                exact hm this
              · have := (hb.blk b e).1
                rw [hl] at this
                simp at this
            have hbw : w'.heap[g.bb id]? = w.heap[g.bb id]? := ht.block _ (lt_of_heap hb.inb.heap) fun e => hne _ e rfl
            have hdr : DRep g.stab w' (.sl xs) u := by
              have : RepF P g w (.cell id (off + 1)) (.own (ρ.t 5) xs) u := by
                simp only [RepF, X.cellsByte]
                exact ⟨us, hb.own, hb.flt, hb.blk⟩
              exact (DRep_of_own this).mono fun b i u hc hs => ⟨ht.cell b i u hc, hs⟩
            refine ⟨g, hc.mono (by rintro l rfl; exact mine_cell _ _), _, rfl, (show RepF P g w' (.ret 0) (.d (.str ⟨bs.toArray⟩)) (.string ⟨bs.toArray⟩) by simp only [RepF]; exact .str _), ?_⟩
            refine HeapInv.set hH hb.box (c' := c) (e := T) (hc.mono fun l hl => .inr ⟨_, hl⟩) rfl hb.kap hb.tip (hbw.trans hb.inb.heap) ⟨by simpa using hb.rep.1, fun j p hj => ?_⟩ (fun j q hj => ?_) (by simp only [World.shape?, hbw])
            · by_cases e1 : j = off + 1
              · subst e1
                rw [List.getElem?_set_self hb.len] at hj
                simp only [Option.some.injEq] at hj
                subst hj
                obtain ⟨u', k1, k2, _⟩ := hb.rep.2 (off + 1) (cs[off + 1]'hb.len) (List.getElem?_eq_getElem hb.len)
                rw [hb.at1] at k1
                simp only [Option.some.injEq] at k1
                subst k1
                exact ⟨u, hb.at1, k2, by simp only [RepF]; exact hdr⟩
              · rw [List.getElem?_set_ne (Ne.symm e1)] at hj
                obtain ⟨u', k1, k2, k3⟩ := hb.rep.2 j p hj
                exact ⟨u', k1, k2, k3.mono hc (fun hm => by injection hm with _ hm; exact e1 hm)⟩
            · by_cases e1 : j = off + 1
              · subst e1
                rw [List.getElem?_set_self hb.len] at hj
                simp at hj
              · rw [List.getElem?_set_ne (Ne.symm e1)] at hj
                exact hj
        · simp at hv
      · simp at hv
    · simp at hv
end
end Go.Pe

namespace Go.Proofs
open Go.Shelf Go.Pe
def Tryd.bld_ren : Go.Shelf.Ren := ⟨fun | 240 => 70 | 276 => 79 | 166 => 66 | 167 => 56 | 169 => 47 | n => n, fun | 0 => 0 | 3 => 3 | 4 => 4 | 5 => 5 | 9 => 9 | 37 => 36 | 70 => 67 | 72 => 69 | 75 => 80 | 127 => 82 | 164 => 110 | n => n, fun | n => n⟩
theorem Tryd.bldT : BldT Tryd.prog Tryd.bld_ren (leafOf Tryd.f70) := {
  mixed := by kernel_rfl
  f240 := Tryd.func70.trans (congrArg some (by kernel_rfl))
  f276 := Tryd.func79.trans (congrArg some (by kernel_rfl))
  t3 := Tryd.underlying3
  a3 := Tryd.isAgg3
  z3 := Tryd.sizeOf3
  v3 := Tryd.zeroValue3
  t4 := Tryd.underlying4
  a4 := Tryd.isAgg4
  z4 := Tryd.sizeOf4
  v4 := Tryd.zeroValue4
  t9 := Tryd.underlying9
  a9 := Tryd.isAgg9
  z9 := Tryd.sizeOf9
  v9 := Tryd.zeroValue9
  t37 := Tryd.underlying36
  a37 := Tryd.isAgg36
  z37 := Tryd.sizeOf36
  v37 := Tryd.zeroValue36
  t70 := Tryd.underlying67
  a70 := Tryd.isAgg67
  z70 := Tryd.sizeOf67
  v70 := Tryd.zeroValue67
  t72 := Tryd.underlying69
  a72 := Tryd.isAgg69
  z72 := Tryd.sizeOf69
  v72 := Tryd.zeroValue69
  t164 := Tryd.underlying110
  a164 := Tryd.isAgg110
  z164 := Tryd.sizeOf110
  v164 := Tryd.zeroValue110 }
theorem Tryd.bld166 : Tryd.prog.funcs[Tryd.bld_ren.f 166]? = some (Body.n166 Tryd.bld_ren) := Tryd.func66.trans (congrArg some (by kernel_rfl))
theorem Tryd.bld167 : Tryd.prog.funcs[Tryd.bld_ren.f 167]? = some (Body.n167 Tryd.bld_ren) := Tryd.func56.trans (congrArg some (by kernel_rfl))
theorem Tryd.bld169 : Go.Proofs.Lays.n169 Tryd.prog Tryd.bld_ren := {
  mixed := by kernel_rfl
  f169 := Tryd.func47.trans (congrArg some (by kernel_rfl))
  t0 := Tryd.underlying0
  a0 := Tryd.isAgg0
  z0 := Tryd.sizeOf0
  v0 := Tryd.zeroValue0
  t3 := Tryd.underlying3
  a3 := Tryd.isAgg3
  z3 := Tryd.sizeOf3
  v3 := Tryd.zeroValue3
  t9 := Tryd.underlying9
  a9 := Tryd.isAgg9
  z9 := Tryd.sizeOf9
  v9 := Tryd.zeroValue9
  t37 := Tryd.underlying36
  a37 := Tryd.isAgg36
  z37 := Tryd.sizeOf36
  v37 := Tryd.zeroValue36
  t70 := Tryd.underlying67
  a70 := Tryd.isAgg67
  z70 := Tryd.sizeOf67
  v70 := Tryd.zeroValue67
  t72 := Tryd.underlying69
  a72 := Tryd.isAgg69
  z72 := Tryd.sizeOf69
  v72 := Tryd.zeroValue69
  t127 := Tryd.underlying82
  a127 := Tryd.isAgg82
  z127 := Tryd.sizeOf82
  v127 := Tryd.zeroValue82 }
theorem Tryd.bldX : Builder.Extra Tryd.prog Tryd.bld_ren := {
  sizeBuilder := by kernel_rfl
  liesBuilder := by kernel_rfl
  t5 := Tryd.underlying5
  a5 := Tryd.isAgg5
  z5 := Tryd.sizeOf5
  v5 := Tryd.zeroValue5
  infoByte := by kernel_rfl
  cellsByte := by kernel_rfl
  sizeByte := by kernel_rfl
  neB5 := by decide }
end Go.Proofs
