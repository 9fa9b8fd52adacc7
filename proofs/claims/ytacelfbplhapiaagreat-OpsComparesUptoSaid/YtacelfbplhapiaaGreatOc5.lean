/- Which of two nodes comes first, without labels, or that there is no answer, is the document's; and whether one is true (OpsCompares, of arguments that are not too large for any machine, the second form); no condition beyond the statement's own. -/
import Derived.Test.YtacelfbplhapiaaGreatOc4
import Derived.Test.YtacelfbplhapiaaGreatPe3
import Derived.Test.YtacelfbplhapiaaGreatRows
import Derived.ProofKit
import Derived.ChangeOld
import Derived.Below
import Derived.SizedLaws
import Derived.JoinedCond
import Derived.Test.YtacelfbplhapiaaGreatOc2
set_option linter.unusedSimpArgs false
set_option linter.unusedVariables false

namespace Go.Proofs.YtacelfbplhapiaaGreat
open Go.Pe Go.Pe.T Go.ChangeShapes Go.WideShapes Go.ChangeAt Go.RowKit

theorem ndT : NdT Tryz.prog 27 := ⟨_, _, _, _, _, _, _, _, _, _, _, _, Tryz.underlying27, rfl, Tryz.underlying3, Tryz.underlying3, Tryz.underlying3, Tryz.underlying23, rfl, Tryz.underlying2, Tryz.underlying3, Tryz.underlying9, Tryz.underlying24, Tryz.underlying25, Tryz.underlying9⟩
abbrev tys : List TypeId := [3, 28, 27, 23, 2, 9, 24, 25]
theorem ownT : ownKnob Tryz.prog.godebug = none := by kernel_rfl
theorem laidT : laidOutB Tryz.prog = true := by kernel_rfl
theorem tabT : TabOk Tryz.prog pf tab := tab_ok

theorem bulkFn (H : Type) : BulkFn (H := H) Rows.uptoBulk Rows.uptoBulkAll :=
  ⟨fun s => rfl, fun e s => rfl, fun p => rfl, rfl, fun d r => rfl⟩
theorem bulk_app {H : Type} : ∀ (l r : List (DataW H)), Rows.uptoBulkAll (l ++ r) = Rows.uptoBulkAll l + Rows.uptoBulkAll r
  | [], r => by simp [Rows.uptoBulkAll]
  | x :: l, r => by simp only [List.cons_append, Rows.uptoBulkAll, bulk_app l r]; omega

theorem bulk_pos {H : Type} (d : DataW H) : 1 ≤ Rows.uptoBulk d := by
  unfold Rows.uptoBulk
  split <;> omega
set_option maxRecDepth 100000 in
theorem lifted (os : Os) (started : os.Started) (H : Type) (enc : TypeId × Value → H) (F : Stop.Interp) :
    ReturnsInHanded {} Tryz.checked os 3 .any ((Rows.OpenSpec.upto Rows.opsComparesSpec).pre6 enc Tryz.prog Tryz.f3 Rows.opsComparesUptoRow.domain false) (((Rows.OpenSpec.upto Rows.opsComparesSpec).at F).post enc Tryz.prog Tryz.f3 false true false false) := by
  refine returnsInHanded_of_cond (C := Tryz.checked) (s := Rows.OpenSpec.upto Rows.opsComparesSpec) (k := Rows.uptoSmall) rfl ownT started (by kernel_rfl) Tryz.func3
    (OpenSpec.witness (enc := enc) (C := Tryz.checked) (s := Rows.OpenSpec.upto Rows.opsComparesSpec) (k := Rows.uptoSmall) rfl false ⟨#[], #[.int .i64 0, .agg #[.int .i64 0, .int .i64 0, .int .i64 0, .int .i64 0, .int .i64 0, .string ByteArray.empty, .slice none 0 0, .slice none 0 0, .int .i64 0, .int .i64 0, .int .i64 0, .int .i64 0, .int .i64 0, .string ByteArray.empty, .slice none 0 0, .slice none 0 0]], []⟩ 8 (by kernel_rfl) (by kernel_rfl) (by kernel_rfl)
      (x := ([.lit (.int .i64 0), .agg [.agg [.lit (.int .i64 0), .lit (.int .i64 0), .lit (.int .i64 0), .agg [.lit (.int .i64 0), .lit (.int .i64 0)], .lit (.string []), .nil, .nil], .agg [.lit (.int .i64 0), .lit (.int .i64 0), .lit (.int .i64 0), .agg [.lit (.int .i64 0), .lit (.int .i64 0)], .lit (.string []), .nil, .nil]]], [], [])) (by kernel_rfl) rfl (by kernel_rfl)) ?_
  intro W base args ds gs before hval0 hW _ hk _
  have hbk : Rows.uptoBulkAll ds ≤ 1048576 := by
    have h1 : Rows.uptoBulkAll (ds ++ gs) ≤ 1048576 := of_decide_eq_true hk
    rw [bulk_app] at h1
    omega
  refine law_contract (s := Rows.opsComparesSpec) (L := tys) (tb := 4) pf_ok tabT laidT rfl (by decide +kernel) (by decide +kernel) rfl Tryz.underlying4 ?_ hval0 hW ?_
  · intro ds h
    match ds, h with
    | [a0, a1], _ => rfl
  · intro xs h
    have e : Tryz.f3.params.toList = [3, 28] := by rw [Tryz.params3]
    have hsm := liftArgs_small (bulkFn H) h hbk
    have hsv := liftArgs_smallR (bulkFn H) bulk_pos h hbk
    rw [e] at h
    obtain ⟨_, _, x0, _, rfl, h0, g0, h⟩ := liftArgs_cons h
    obtain ⟨_, _, x1, _, rfl, h1, g1, h⟩ := liftArgs_cons h
    obtain rfl := liftArgs_nil h
    obtain ⟨v0, o0, rfl⟩ := lift_i Tryz.underlying3 h0 g0
    obtain ⟨a1, b1, o1, rfl⟩ := lift_nd2 (N := 1048576) ndT Tryz.underlying28 h1 g1 (hsv _ (by simp))
    exact ⟨_, OpsCompares_ok v0 a1 b1 o0 o1  []⟩

theorem over : Rows.opsComparesUptoRow.holds Tryz.pinned (Rows.OpenSpec.upto Rows.opsComparesSpec) :=
  OpenClaim.holds_of_cond 3 Tryz.f3 rfl rfl rfl rfl rfl rfl rfl ⟨rfl, rfl, rfl, rfl, rfl⟩ rfl rfl rfl rfl rfl (by kernel_rfl) Tryz.func3 (by kernel_rfl)
    (of_decide_eq_true (by kernel_rfl)) (by unfold Func.isWrapper; first | (rw [if_pos (by decide +kernel)]; kernel_rfl) | (rw [if_neg (by decide +kernel)]; exact ⟨rfl, rfl⟩))
    (fun os started H enc _ F => lifted os started H enc F)

theorem opsComparesUpto_holds : Rows.OpsComparesUptoSaid := over
end Go.Proofs.YtacelfbplhapiaaGreat
