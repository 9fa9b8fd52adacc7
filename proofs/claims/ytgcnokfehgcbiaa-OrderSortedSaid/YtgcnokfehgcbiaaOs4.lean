/- The law OrderSorted holds: of any values that come in, those that are sorted by order.Sort rise, each stands there as often as it stood, and they are as many, so the law returns true and leaves its argument as it was; there is no condition. -/
import Derived.Test.YtgcnokfehgcbiaaOs3
import Derived.Test.YtgcnokfehgcbiaaPe3
import Derived.Test.YtgcnokfehgcbiaaRows
import Derived.ProofKit
import Derived.ChangeOld
import Derived.Below
import Derived.SizedLaws
set_option linter.unusedSimpArgs false
set_option linter.unusedVariables false

namespace Go.Proofs.Ytgcnokfehgcbiaa
open Go.Pe Go.Pe.T Go.ChangeShapes Go.WideShapes Go.ChangeAt Go.RowKit

theorem valT : ValT Try.prog 27 := ⟨_, _, _, _, _, _, _, _, _, _, Try.underlying27, rfl, Try.underlying3, Try.underlying23, rfl, Try.underlying2, Try.underlying3, Try.underlying9, Try.underlying24, Try.underlying25, Try.underlying9⟩
abbrev tys : List TypeId := [24, 27, 3, 23, 2, 9, 25]
theorem ownT : ownKnob Try.prog.godebug = none := by kernel_rfl
theorem laidT : laidOutB Try.prog = true := by kernel_rfl
theorem tabT : TabOk Try.prog pf tab := tabOf_ok all_ok pl_ok ml_ok

set_option maxRecDepth 100000 in
theorem lifted (os : Os) (started : os.Started) (H : Type) (enc : TypeId × Value → H) :
    ReturnsInHanded {} Try.checked os 9 .any (Rows.orderSortedSpec.pre6 enc Try.prog Try.f9 Rows.orderSortedRow.domain false) (Rows.orderSortedSpec.post enc Try.prog Try.f9 false true false false) := by
  refine returnsInHanded_of_change_sized (C := Try.checked) ownT started (by kernel_rfl) Try.func9
    (ChangeSpec.witness6 (enc := enc) (C := Try.checked) false ⟨#[], #[.slice none 0 0], []⟩ 8 (by kernel_rfl) (by kernel_rfl) (by kernel_rfl) (by kernel_rfl)) ?_
  intro W base args ds gs before hval0 hW hcnd hsz0 _
  refine law_contract (L := tys) (tb := 4) pf_ok tabT laidT rfl (by decide +kernel) (by decide +kernel) rfl Try.underlying4 ?_ hval0 hW ?_
  · intro ds h
    match ds, h with
    | [a0], _ => rfl
  · intro xs h
    have e : Try.f9.params.toList = [24] := by rw [Try.params9]
    rw [e] at h
    obtain ⟨_, _, x0, _, rfl, h0, g0, h⟩ := liftArgs_cons h
    obtain rfl := liftArgs_nil h
    obtain ⟨v0, o0, q0, rfl⟩ := lift_vals valT Try.underlying24 h0 g0
    exact ⟨_, OrderSorted_ok v0 q0 o0 []⟩

theorem over : Rows.orderSortedRow.holds Try.pinned (OpenSpec.ofChange Rows.orderSortedSpec) :=
  OpenClaim.holds_of_wide 9 Try.f9 rfl rfl rfl rfl rfl rfl rfl ⟨rfl, rfl, rfl, rfl, rfl⟩ rfl rfl rfl rfl rfl (by kernel_rfl) Try.func9 (by kernel_rfl)
    (of_decide_eq_true (by kernel_rfl)) (by unfold Func.isWrapper; first | (rw [if_pos (by decide +kernel)]; kernel_rfl) | (rw [if_neg (by decide +kernel)]; exact ⟨rfl, rfl⟩))
    (fun os started H enc _ => lifted os started H enc)

/-- The row, under a short name, for the claim. -/
theorem orderSorted_holds : Rows.OrderSortedSaid := over
end Go.Proofs.Ytgcnokfehgcbiaa
