/- A part of the proof of: A text that is turned round twice stands as it did and is as long; great letters of small ones and trimming twice turn nothing more; each text begins and ends with nothing and has itself in it (keyholelaw21.ShelfTurns answers true for every input). -/
import Derived.Test.YtodlndopbpmpjaaGreatDoorPe4
import Derived.Test.YtodlndopbpmpjaaGreatDoorPe3
import Derived.Shelf.Strings.SlTrimAscii
import Derived.Shelf.Lays
import Derived.Test.YtodlndopbpmpjaaGreatDoorProg
set_option linter.unusedSimpArgs false
set_option linter.unusedVariables false

namespace Go.Pe
section
variable {P : Program}
theorem Chg.below1 {g : G} {w w' : World} (h : Go.RowKit.Below w.heap.size w w') (M : Loc → Prop) : Chg M g w g w' where
  os := h.os
  tape := h.tape
  output := h.output
  size := h.size
  stab := fun b i u hc hs => by
    refine ⟨?_, hs⟩
    have hb : b < w.heap.size := by
      simp only [World.cell?] at hc
      split at hc
      · rename_i o ho
        exact lt_of_heap ho
      · simp at hc
    rw [h.cell (p := ⟨b, i, none⟩) hb]
    exact hc
  own := fun b l hb hk _ => ⟨hk, rfl, h.block b hb⟩
  free := fun b hb hk => ⟨hk, h.block b hb⟩
  nb := Nat.le_refl _
  bb := fun _ _ => rfl
def trimP : List PV → Option PV
  | [.d (.str s), .d (.str c)] => if s.size ≤ 9223372036854775807 ∧ c.size < 4294967281 ∧ c.data.toList.all (fun b => decide (b.toNat < 128)) = true then some (.d (.str ⟨(Lib.trimS s.data.toList c.data.toList).toArray⟩)) else none
  | _ => none
theorem trim_prim {f : Nat} (hent : entered P f = true)
    (h : ∀ (s c : ByteArray) (w : World), s.size ≤ 9223372036854775807 → c.size < 4294967281 → (∀ (j : Nat) b, c.data.toList[j]? = some b → b.toNat < 128) → Calls P f #[.string s, .string c] w fun e w' => e = .returned (.string ⟨(Lib.trimS s.data.toList c.data.toList).toArray⟩) ∧ Go.RowKit.Below w.heap.size w w') : PrimSound P f trimP where
  ent := hent
  calls := by
    intro args v hv hfl hpl g w vals l ha
    unfold trimP at hv
    split at hv
    · rename_i s n
      split at hv
      · rename_i hc
        simp only [Option.some.injEq] at hv
        subst hv
        match vals, ha with
        | [u1, u2], ha =>
          simp only [RepFs, RepF, and_true] at ha
          have e1 := ha.1.str_inv
          have e2 := ha.2.str_inv
          subst e1; subst e2
          refine (h s n w hc.1 hc.2.1 (Go.Proofs.ascii_of_all hc.2.2)).mono ?_
          rintro e w' ⟨rfl, hb⟩
          refine ⟨_, g, rfl, Chg.below1 hb _, rfl, ?_⟩
          simp only [RepR, RepF]
          exact .str _
      · simp at hv
    · simp at hv
end
end Go.Pe

namespace Go.Pe.T
open Go.Lib
theorem dw_dw {α : Type} (p : α → Bool) (l : List α) : (l.dropWhile p).dropWhile p = l.dropWhile p := by
  induction l with
  | nil => rfl
  | cons a t ih => by_cases h : p a = true <;> simp [List.dropWhile, h, ih]
theorem dw_len {α : Type} (p : α → Bool) (l : List α) : (l.dropWhile p).length ≤ l.length := by
  induction l with
  | nil => exact Nat.le_refl _
  | cons a t ih =>
    by_cases h : p a = true
    · simp only [List.dropWhile, h, List.length_cons]; omega
    · simp [List.dropWhile, h]
theorem dw_app {α : Type} (p : α → Bool) (b a : List α) (h : (b ++ a).dropWhile p = b ++ a) : b.dropWhile p = b := by
  cases b with
  | nil => rfl
  | cons x t =>
    by_cases hp : p x = true
    · rw [List.cons_append, List.dropWhile_cons, if_pos hp] at h
      have h1 := dw_len p (t ++ a)
      rw [h] at h1
      simp only [List.length_cons] at h1
      omega
    · simp [List.dropWhile, hp]
theorem dw_suf {α : Type} (p : α → Bool) (m : List α) : ∃ a, m = a ++ m.dropWhile p := by
  induction m with
  | nil => exact ⟨[], rfl⟩
  | cons x t ih =>
    by_cases hp : p x = true
    · obtain ⟨a, ha⟩ := ih
      refine ⟨x :: a, ?_⟩
      rw [List.dropWhile_cons, if_pos hp, List.cons_append, ← ha]
    · exact ⟨[], by simp [List.dropWhile, hp]⟩
theorem trim_twice (l cs : List UInt8) : trimS (trimS l cs) cs = trimS l cs := by
  unfold trimS trimLeftS trimRightS
  obtain ⟨a, ha⟩ := dw_suf (cs.contains ·) (l.reverse.dropWhile (cs.contains ·)).reverse
  have h1 : ((l.reverse.dropWhile (cs.contains ·)).reverse.dropWhile (cs.contains ·)).reverse.dropWhile (cs.contains ·) = ((l.reverse.dropWhile (cs.contains ·)).reverse.dropWhile (cs.contains ·)).reverse := by
    apply dw_app _ _ a.reverse
    rw [← List.reverse_append, ← ha, List.reverse_reverse, dw_dw]
  rw [h1, List.reverse_reverse, dw_dw]
end Go.Pe.T

namespace Go.Proofs
open Go.Shelf
def Tryz.lays160_ren : Go.Shelf.Ren := ⟨fun | 160 => 106 | 232 => 130 | 231 => 129 | 227 => 131 | 234 => 133 | 233 => 132 | 236 => 135 | 235 => 134 | 228 => 171 | 271 => 174 | 151 => 173 | 197 => 172 | 120 => 203 | 152 => 202 | 260 => 201 | 137 => 213 | 119 => 214 | 224 => 189 | 225 => 188 | 217 => 187 | 266 => 209 | n => n, fun | 9 => 9 | 4 => 4 | 3 => 3 | 5 => 5 | 117 => 131 | 116 => 130 | 0 => 0 | 124 => 134 | 21 => 21 | 105 => 163 | 46 => 158 | 119 => 205 | 139 => 208 | 138 => 207 | n => n, fun | 3 => 1 | 4 => 2 | n => n⟩
theorem Tryz.lays160 : Go.Proofs.Lays.n160 Tryz.prog Tryz.lays160_ren := {
  mixed := by kernel_rfl
  f119 := Tryz.func214.trans (congrArg some (by kernel_rfl))
  f120 := Tryz.func203.trans (congrArg some (by kernel_rfl))
  f137 := Tryz.func213.trans (congrArg some (by kernel_rfl))
  f151 := Tryz.func173.trans (congrArg some (by kernel_rfl))
  f152 := Tryz.func202.trans (congrArg some (by kernel_rfl))
  f160 := Tryz.func106.trans (congrArg some (by kernel_rfl))
  f197 := Tryz.func172.trans (congrArg some (by kernel_rfl))
  f217 := Tryz.func187.trans (congrArg some (by kernel_rfl))
  f224 := Tryz.func189.trans (congrArg some (by kernel_rfl))
  f225 := Tryz.func188.trans (congrArg some (by kernel_rfl))
  f227 := Tryz.func131.trans (congrArg some (by kernel_rfl))
  f228 := Tryz.func171.trans (congrArg some (by kernel_rfl))
  f231 := Tryz.func129.trans (congrArg some (by kernel_rfl))
  f232 := Tryz.func130.trans (congrArg some (by kernel_rfl))
  f233 := Tryz.func132.trans (congrArg some (by kernel_rfl))
  f234 := Tryz.func133.trans (congrArg some (by kernel_rfl))
  f235 := Tryz.func134.trans (congrArg some (by kernel_rfl))
  f236 := Tryz.func135.trans (congrArg some (by kernel_rfl))
  f260 := Tryz.func201.trans (congrArg some (by kernel_rfl))
  f266 := Tryz.func209.trans (congrArg some (by kernel_rfl))
  f271 := Tryz.func174.trans (congrArg some (by kernel_rfl))
  t0 := Tryz.underlying0
  a0 := Tryz.isAgg0
  z0 := Tryz.sizeOf0
  v0 := Tryz.zeroValue0
  t3 := Tryz.underlying3
  a3 := Tryz.isAgg3
  z3 := Tryz.sizeOf3
  v3 := Tryz.zeroValue3
  t4 := Tryz.underlying4
  a4 := Tryz.isAgg4
  z4 := Tryz.sizeOf4
  v4 := Tryz.zeroValue4
  t5 := Tryz.underlying5
  a5 := Tryz.isAgg5
  z5 := Tryz.sizeOf5
  v5 := Tryz.zeroValue5
  t9 := Tryz.underlying9
  a9 := Tryz.isAgg9
  z9 := Tryz.sizeOf9
  v9 := Tryz.zeroValue9
  t21 := Tryz.underlying21
  a21 := Tryz.isAgg21
  z21 := Tryz.sizeOf21
  v21 := Tryz.zeroValue21
  t46 := Tryz.underlying158
  a46 := Tryz.isAgg158
  z46 := Tryz.sizeOf158
  v46 := Tryz.zeroValue158
  t105 := Tryz.underlying163
  a105 := Tryz.isAgg163
  z105 := Tryz.sizeOf163
  v105 := Tryz.zeroValue163
  t116 := Tryz.underlying130
  a116 := Tryz.isAgg130
  z116 := Tryz.sizeOf130
  t117 := Tryz.underlying131
  a117 := Tryz.isAgg131
  z117 := Tryz.sizeOf131
  v117 := Tryz.zeroValue131
  t119 := Tryz.underlying205
  a119 := Tryz.isAgg205
  z119 := Tryz.sizeOf205
  t124 := Tryz.underlying134
  a124 := Tryz.isAgg134
  z124 := Tryz.sizeOf134
  v124 := Tryz.zeroValue134
  t138 := Tryz.underlying207
  a138 := Tryz.isAgg207
  z138 := Tryz.sizeOf207
  v138 := Tryz.zeroValue207
  t139 := Tryz.underlying208
  a139 := Tryz.isAgg208
  z139 := Tryz.sizeOf208
  v139 := Tryz.zeroValue208
  g3 := by kernel_rfl
  g4 := by kernel_rfl }
end Go.Proofs
