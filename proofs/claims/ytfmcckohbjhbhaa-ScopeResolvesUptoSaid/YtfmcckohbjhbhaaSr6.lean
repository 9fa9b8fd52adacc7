/- Any program, resolved, or the first name in it that leads nowhere, is what the document says, where what comes in has at most 1048576 values and letters. -/
import Derived.Test.YtfmcckohbjhbhaaSr5
import Derived.Test.YtfmcckohbjhbhaaPe3
import Derived.Test.YtfmcckohbjhbhaaRows
import Derived.ProofKit
import Derived.ChangeOld
import Derived.Below
import Derived.SizedLaws
import Derived.JoinedCond
set_option linter.unusedSimpArgs false
set_option linter.unusedVariables false

namespace Go.Proofs.Ytfmcckohbjhbhaa
open Go.Pe Go.Pe.T Go.ChangeShapes Go.WideShapes Go.ChangeAt Go.RowKit

theorem xpT : XpT Try.prog 34 := ⟨_, _, _, _, _, _, _, _, _, _, _, _, Try.underlying34, rfl, Try.underlying3, Try.underlying9, Try.underlying3, Try.underlying3, Try.underlying31, rfl, Try.underlying2, Try.underlying3, Try.underlying22, Try.underlying9, Try.underlying32⟩
abbrev tys : List TypeId := [36, 29, 44, 9, 22, 34, 3, 31, 2, 32]
theorem ownT : ownKnob Try.prog.godebug = none := by kernel_rfl
theorem laidT : laidOutB Try.prog = true := by kernel_rfl
theorem tabT : TabOk Try.prog pf tab := tab_ok

theorem bulkFn (H : Type) : BulkFn (H := H) Rows.uptoBulk Rows.uptoBulkAll :=
  ⟨fun s => rfl, fun e s => rfl, fun p => rfl, rfl, fun d r => rfl⟩
theorem bulk_app {H : Type} : ∀ (l r : List (DataW H)), Rows.uptoBulkAll (l ++ r) = Rows.uptoBulkAll l + Rows.uptoBulkAll r
  | [], r => by simp [Rows.uptoBulkAll]
  | x :: l, r => by simp only [List.cons_append, Rows.uptoBulkAll, bulk_app l r]; omega

set_option maxRecDepth 100000 in
theorem lifted (os : Os) (started : os.Started) (H : Type) (enc : TypeId × Value → H) (F : Stop.Interp) :
    ReturnsInHanded {} Try.checked os 6 .any ((Rows.OpenSpec.upto Rows.scopeResolvesSpec).pre6 enc Try.prog Try.f6 Rows.scopeResolvesUptoRow.domain false) (((Rows.OpenSpec.upto Rows.scopeResolvesSpec).at F).post enc Try.prog Try.f6 false true false false) := by
  refine returnsInHanded_of_cond (C := Try.checked) (s := Rows.OpenSpec.upto Rows.scopeResolvesSpec) (k := Rows.uptoSmall) rfl ownT started (by kernel_rfl) Try.func6
    (OpenSpec.witness (enc := enc) (C := Try.checked) (s := Rows.OpenSpec.upto Rows.scopeResolvesSpec) (k := Rows.uptoSmall) rfl false ⟨#[], #[.agg #[.slice none 0 0, .int .i64 0, .string ByteArray.empty, .int .i64 0, .int .i64 0, .int .i64 0, .int .i64 0, .slice none 0 0, .slice none 0 0]], []⟩ 8 (by kernel_rfl) (by kernel_rfl) (by kernel_rfl)
      (x := ([.agg [.nil, .agg [.lit (.int .i64 0), .lit (.string []), .lit (.int .i64 0), .lit (.int .i64 0), .agg [.lit (.int .i64 0), .lit (.int .i64 0)], .nil, .nil]]], [], [])) (by kernel_rfl) rfl (by kernel_rfl)) ?_
  intro W base args ds gs before hval0 hW _ hk _
  have hbk : Rows.uptoBulkAll ds ≤ 1048576 := by
    have h1 : Rows.uptoBulkAll (ds ++ gs) ≤ 1048576 := of_decide_eq_true hk
    rw [bulk_app] at h1
    omega
  refine law_contract (s := Rows.scopeResolvesSpec) (L := tys) (tb := 4) pf_ok tabT laidT rfl (by decide +kernel) (by decide +kernel) rfl Try.underlying4 ?_ hval0 hW ?_
  · intro ds h
    match ds, h with
    | [a0], _ => rfl
  · intro xs h
    have e : Try.f6.params.toList = [36] := by rw [Try.params6]
    have hsm := liftArgs_small (bulkFn H) h hbk
    rw [e] at h
    obtain ⟨_, _, x0, _, rfl, h0, g0, h⟩ := liftArgs_cons h
    obtain rfl := liftArgs_nil h
    obtain ⟨a0, v0, o0, rfl⟩ := lift_prog xpT Try.underlying36 rfl Try.underlying29 Try.underlying44 rfl Try.underlying9 Try.underlying22 Try.underlying9 h0 g0
    exact ⟨_, ScopeResolves_ok a0 v0 o0 (prog_small a0 v0 (hsm _ (by simp))) []⟩

theorem over : Rows.scopeResolvesUptoRow.holds Try.pinned (Rows.OpenSpec.upto Rows.scopeResolvesSpec) :=
  OpenClaim.holds_of_cond 6 Try.f6 rfl rfl rfl rfl rfl rfl rfl ⟨rfl, rfl, rfl, rfl, rfl⟩ rfl rfl rfl rfl rfl (by kernel_rfl) Try.func6 (by kernel_rfl)
    (of_decide_eq_true (by kernel_rfl)) (by unfold Func.isWrapper; first | (rw [if_pos (by decide +kernel)]; kernel_rfl) | (rw [if_neg (by decide +kernel)]; exact ⟨rfl, rfl⟩))
    (fun os started H enc _ F => lifted os started H enc F)

theorem scopeResolvesUpto_holds : Rows.ScopeResolvesUptoSaid := over
end Go.Proofs.Ytfmcckohbjhbhaa
