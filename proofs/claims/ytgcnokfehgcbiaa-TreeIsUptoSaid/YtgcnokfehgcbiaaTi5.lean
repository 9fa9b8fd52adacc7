/- The law TreeIs holds, in its second form: of whatever two expressions come in, tree.Is and tree.Same answer as the document's answer does, so the law returns true and leaves its arguments as they were; the condition is that what comes in is of bulk at most 1048576. -/
import Derived.Test.YtgcnokfehgcbiaaTi4
import Derived.Test.YtgcnokfehgcbiaaPe2
import Derived.Test.YtgcnokfehgcbiaaPe3
import Derived.Test.YtgcnokfehgcbiaaRows
import Derived.ProofKit
import Derived.ChangeOld
import Derived.Below
import Derived.SizedLaws
import Derived.JoinedCond
set_option linter.unusedSimpArgs false
set_option linter.unusedVariables false

namespace Go.Proofs.Ytgcnokfehgcbiaa
open Go.Pe Go.Pe.T Go.ChangeShapes Go.WideShapes Go.ChangeAt Go.RowKit

theorem xpT : XpT Try.prog 35 := ⟨_, _, _, _, _, _, _, _, _, _, _, _, Try.underlying35, rfl, Try.underlying3, Try.underlying9, Try.underlying3, Try.underlying3, Try.underlying23, rfl, Try.underlying2, Try.underlying3, Try.underlying25, Try.underlying9, Try.underlying33⟩
abbrev tys : List TypeId := [35, 3, 9, 23, 2, 25, 33]
theorem ownT : ownKnob Try.prog.godebug = none := by kernel_rfl
theorem laidT : laidOutB Try.prog = true := by kernel_rfl
theorem tabT : TabOk Try.prog pf tab := tabOf_ok all_ok pl_ok

theorem bulkFn (H : Type) : BulkFn (H := H) Rows.uptoBulk Rows.uptoBulkAll :=
  ⟨fun s => rfl, fun e s => rfl, fun p => rfl, rfl, fun d r => rfl⟩
theorem bulk_app {H : Type} : ∀ (l r : List (DataW H)), Rows.uptoBulkAll (l ++ r) = Rows.uptoBulkAll l + Rows.uptoBulkAll r
  | [], r => by simp [Rows.uptoBulkAll]
  | x :: l, r => by simp only [List.cons_append, Rows.uptoBulkAll, bulk_app l r]; omega

set_option maxRecDepth 100000 in
theorem lifted (os : Os) (started : os.Started) (H : Type) (enc : TypeId × Value → H) (F : Stop.Interp) :
    ReturnsInHanded {} Try.checked os 7 .any ((Rows.OpenSpec.upto Rows.treeIsSpec).pre6 enc Try.prog Try.f7 Rows.treeIsUptoRow.domain false) (((Rows.OpenSpec.upto Rows.treeIsSpec).at F).post enc Try.prog Try.f7 false true false false) := by
  refine returnsInHanded_of_cond (C := Try.checked) (s := Rows.OpenSpec.upto Rows.treeIsSpec) (k := Rows.uptoSmall) rfl ownT started (by kernel_rfl) Try.func7
    (OpenSpec.witness (enc := enc) (C := Try.checked) (s := Rows.OpenSpec.upto Rows.treeIsSpec) (k := Rows.uptoSmall) rfl false ⟨#[], #[.agg #[.int .i64 0, .string ByteArray.empty, .int .i64 0, .int .i64 0, .int .i64 0, .int .i64 0, .slice none 0 0, .slice none 0 0], .agg #[.int .i64 0, .string ByteArray.empty, .int .i64 0, .int .i64 0, .int .i64 0, .int .i64 0, .slice none 0 0, .slice none 0 0]], []⟩ 8 (by kernel_rfl) (by kernel_rfl) (by kernel_rfl)
      (x := ([.agg [.lit (.int .i64 0), .lit (.string []), .lit (.int .i64 0), .lit (.int .i64 0), .agg [.lit (.int .i64 0), .lit (.int .i64 0)], .nil, .nil], .agg [.lit (.int .i64 0), .lit (.string []), .lit (.int .i64 0), .lit (.int .i64 0), .agg [.lit (.int .i64 0), .lit (.int .i64 0)], .nil, .nil]], [], [])) (by kernel_rfl) rfl (by kernel_rfl)) ?_
  intro W base args ds gs before hval0 hW _ hk _
  have hbk : Rows.uptoBulkAll ds ≤ 1048576 := by
    have h1 : Rows.uptoBulkAll (ds ++ gs) ≤ 1048576 := of_decide_eq_true hk
    rw [bulk_app] at h1
    omega
  refine law_contract (s := Rows.treeIsSpec) (L := tys) (tb := 4) (tabOf_pf _ _ _) tabT laidT rfl (by decide +kernel) (by decide +kernel) rfl Try.underlying4 ?_ hval0 hW ?_
  · intro ds h
    match ds, h with
    | [a0, a1], _ => rfl
  · intro xs h
    have e : Try.f7.params.toList = [35, 35] := by rw [Try.params7]
    have hsm := liftArgs_small (bulkFn H) h hbk
    rw [e] at h
    obtain ⟨_, _, x0, _, rfl, h0, g0, h⟩ := liftArgs_cons h
    obtain ⟨_, _, x1, _, rfl, h1, g1, h⟩ := liftArgs_cons h
    obtain rfl := liftArgs_nil h
    obtain ⟨v0, o0, rfl⟩ := lift_xp' xpT h0 g0
    obtain ⟨v1, o1, rfl⟩ := lift_xp' xpT h1 g1
    exact ⟨_, TreeIs_ok v0 v1 o0 o1 (lim_small v0 (hsm _ (by simp))) (lim_small v1 (hsm _ (by simp))) []⟩

theorem over : Rows.treeIsUptoRow.holds Try.pinned (Rows.OpenSpec.upto Rows.treeIsSpec) :=
  OpenClaim.holds_of_cond 7 Try.f7 rfl rfl rfl rfl rfl rfl rfl ⟨rfl, rfl, rfl, rfl, rfl⟩ rfl rfl rfl rfl rfl (by kernel_rfl) Try.func7 (by kernel_rfl)
    (of_decide_eq_true (by kernel_rfl)) (by unfold Func.isWrapper; first | (rw [if_pos (by decide +kernel)]; kernel_rfl) | (rw [if_neg (by decide +kernel)]; exact ⟨rfl, rfl⟩))
    (fun os started H enc _ F => lifted os started H enc F)

/-- The row, under a short name, for the claim. -/
theorem treeIsUpto_holds : Rows.TreeIsUptoSaid := over
end Go.Proofs.Ytgcnokfehgcbiaa
