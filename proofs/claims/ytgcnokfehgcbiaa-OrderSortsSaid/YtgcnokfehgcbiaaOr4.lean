/- Values in order, each once, and the place of one among them: what the code sorts is what the document's insertion sorts, where each two have an answer, and both tell the same where two have none; each one once, and the first place, too. -/
import Derived.Test.YtgcnokfehgcbiaaOr3
import Derived.Test.YtgcnokfehgcbiaaPe3
import Derived.Test.YtgcnokfehgcbiaaRows
import Derived.ProofKit
import Derived.ChangeOld
import Derived.Below
import Derived.SizedLaws
set_option linter.unusedSimpArgs false
set_option linter.unusedVariables false

namespace Go.Proofs.Ytgcnokfehgcbiaa
open Go.Pe Go.Pe.T Go.ChangeShapes Go.WideShapes Go.ChangeAt Go.RowKit

theorem valT : ValT Try.prog 27 := ⟨_, _, _, _, _, _, _, _, _, _, Try.underlying27, rfl, Try.underlying3, Try.underlying23, rfl, Try.underlying2, Try.underlying3, Try.underlying9, Try.underlying24, Try.underlying25, Try.underlying9⟩
abbrev tys : List TypeId := [24, 27, 3, 23, 2, 9, 25]
theorem ownT : ownKnob Try.prog.godebug = none := by kernel_rfl
theorem laidT : laidOutB Try.prog = true := by kernel_rfl
theorem tabT : TabOk Try.prog pf tab := tabOf_ok all_ok pl_ok ml_ok

set_option maxRecDepth 100000 in
theorem lifted (os : Os) (started : os.Started) (H : Type) (enc : TypeId × Value → H) :
    ReturnsInHanded {} Try.checked os 14 .any (Rows.orderSortsSpec.pre6 enc Try.prog Try.f14 Rows.orderSortsRow.domain false) (Rows.orderSortsSpec.post enc Try.prog Try.f14 false true false false) := by
  refine returnsInHanded_of_change_sized (C := Try.checked) ownT started (by kernel_rfl) Try.func14
    (ChangeSpec.witness6 (enc := enc) (C := Try.checked) false ⟨#[], #[.slice none 0 0, .agg #[.int .i64 0, .int .i64 0, .int .i64 0, .string ByteArray.empty, .slice none 0 0, .slice none 0 0]], []⟩ 8 (by kernel_rfl) (by kernel_rfl) (by kernel_rfl) (by kernel_rfl)) ?_
  intro W base args ds gs before hval0 hW hcnd hsz0 _
  refine law_contract (L := tys) (tb := 4) pf_ok tabT laidT rfl (by decide +kernel) (by decide +kernel) rfl Try.underlying4 ?_ hval0 hW ?_
  · intro ds h
    match ds, h with
    | [a0, a1], _ => rfl
  · intro xs h
    have e : Try.f14.params.toList = [24, 27] := by rw [Try.params14]
    rw [e] at h
    obtain ⟨_, _, x0, _, rfl, h0, g0, h⟩ := liftArgs_cons h
    obtain ⟨_, _, x1, _, rfl, h1, g1, h⟩ := liftArgs_cons h
    obtain rfl := liftArgs_nil h
    obtain ⟨v0, o0, q0, rfl⟩ := lift_vals valT Try.underlying24 h0 g0
    obtain ⟨v1, o1, rfl⟩ := lift_val' valT h1 g1
    exact ⟨_, OrderSorts_ok v0 v1 q0 o0 o1 []⟩

theorem over : Rows.orderSortsRow.holds Try.pinned (OpenSpec.ofChange Rows.orderSortsSpec) :=
  OpenClaim.holds_of_wide 14 Try.f14 rfl rfl rfl rfl rfl rfl rfl ⟨rfl, rfl, rfl, rfl, rfl⟩ rfl rfl rfl rfl rfl (by kernel_rfl) Try.func14 (by kernel_rfl)
    (of_decide_eq_true (by kernel_rfl)) (by unfold Func.isWrapper; first | (rw [if_pos (by decide +kernel)]; kernel_rfl) | (rw [if_neg (by decide +kernel)]; exact ⟨rfl, rfl⟩))
    (fun os started H enc _ => lifted os started H enc)

/-- The row, under a short name, for the claim. -/
theorem orderSorts_holds : Rows.OrderSortsSaid := over
end Go.Proofs.Ytgcnokfehgcbiaa
