/- The law OrderCompares holds: whatever two values come in, order.Compare answers as the document's answer does, so the law returns true and leaves its arguments as they were; there is no condition. -/
import Derived.Test.YtgcnokfehgcbiaaOc2
import Derived.Test.YtgcnokfehgcbiaaPe2
import Derived.Test.YtgcnokfehgcbiaaRows
import Derived.ProofKit
import Derived.ChangeOld
import Derived.Below
import Derived.SizedLaws
set_option linter.unusedSimpArgs false
set_option linter.unusedVariables false

namespace Go.Proofs.Ytgcnokfehgcbiaa
open Go.Pe Go.Pe.T Go.ChangeShapes Go.WideShapes Go.ChangeAt Go.RowKit

theorem valT : ValT Try.prog 27 := ⟨_, _, _, _, _, _, _, _, _, _, Try.underlying27, rfl, Try.underlying3, Try.underlying23, rfl, Try.underlying2, Try.underlying3, Try.underlying9, Try.underlying24, Try.underlying25, Try.underlying9⟩

abbrev tys : List TypeId := [27, 3, 23, 2, 9, 24, 25]
theorem ownT : ownKnob Try.prog.godebug = none := by kernel_rfl
theorem laidT : laidOutB Try.prog = true := by kernel_rfl
theorem tabT : TabOk Try.prog pf tab := tabOf_ok all_ok (by intro p hp; cases hp)

set_option maxRecDepth 100000 in
theorem ocLifted (os : Os) (started : os.Started) (H : Type) (enc : TypeId × Value → H) :
    ReturnsInHanded {} Try.checked os 3 .any (Rows.orderComparesSpec.pre6 enc Try.prog Try.f3 Rows.orderComparesRow.domain false) (Rows.orderComparesSpec.post enc Try.prog Try.f3 false true false false) := by
  refine returnsInHanded_of_change_sized (C := Try.checked) ownT started (by kernel_rfl) Try.func3
    (ChangeSpec.witness6 (enc := enc) (C := Try.checked) false ⟨#[], #[.agg #[.int .i64 0, .int .i64 0, .int .i64 0, .string ByteArray.empty, .slice none 0 0, .slice none 0 0], .agg #[.int .i64 0, .int .i64 0, .int .i64 0, .string ByteArray.empty, .slice none 0 0, .slice none 0 0]], []⟩ 8 (by kernel_rfl) (by kernel_rfl) (by kernel_rfl) (by kernel_rfl)) ?_
  intro W base args ds gs before hval0 hW hcnd hsz0 _
  refine law_contract (L := tys) (tb := 4) (tabOf_pf _ _ _) tabT laidT rfl (by decide +kernel) (by decide +kernel) rfl Try.underlying4 ?_ hval0 hW ?_
  · intro ds h
    match ds, h with
    | [a, b], _ => rfl
  · intro xs h
    have e : Try.f3.params.toList = [27, 27] := by rw [Try.params3]
    rw [e] at h
    obtain ⟨_, _, x1, _, rfl, h1, g1, h⟩ := liftArgs_cons h
    obtain ⟨_, _, x2, _, rfl, h2, g2, h⟩ := liftArgs_cons h
    obtain rfl := liftArgs_nil h
    obtain ⟨v1, o1, rfl⟩ := lift_val' valT h1 g1
    obtain ⟨v2, o2, rfl⟩ := lift_val' valT h2 g2
    exact ⟨_, OrderCompares_ok v1 v2 o1 o2 []⟩

theorem ocOver : Rows.orderComparesRow.holds Try.pinned (OpenSpec.ofChange Rows.orderComparesSpec) :=
  OpenClaim.holds_of_wide 3 Try.f3 rfl rfl rfl rfl rfl rfl rfl ⟨rfl, rfl, rfl, rfl, rfl⟩ rfl rfl rfl rfl rfl (by kernel_rfl) Try.func3 (by kernel_rfl)
    (of_decide_eq_true (by kernel_rfl)) (by unfold Func.isWrapper; first | (rw [if_pos (by decide +kernel)]; kernel_rfl) | (rw [if_neg (by decide +kernel)]; exact ⟨rfl, rfl⟩))
    (fun os started H enc _ => ocLifted os started H enc)

/-- The row, under a short name, for the claim. -/
theorem orderCompares_holds : Rows.OrderComparesSaid := ocOver
end Go.Proofs.Ytgcnokfehgcbiaa
