/- The law TreeParts holds: of whatever expression comes in, if it may be, each part may be and is smaller, and what a part uses the whole uses or binds, so the law returns true and leaves its argument as it was; there is no condition. -/
import Derived.Test.YtgcnokfehgcbiaaTp3
import Derived.Test.YtgcnokfehgcbiaaPe2
import Derived.Test.YtgcnokfehgcbiaaRows
import Derived.ProofKit
import Derived.ChangeOld
import Derived.Below
import Derived.SizedLaws
set_option linter.unusedSimpArgs false
set_option linter.unusedVariables false

namespace Go.Proofs.Ytgcnokfehgcbiaa
open Go.Pe Go.Pe.T Go.ChangeShapes Go.WideShapes Go.ChangeAt Go.RowKit

theorem xpT : XpT Try.prog 35 := ⟨_, _, _, _, _, _, _, _, _, _, _, _, Try.underlying35, rfl, Try.underlying3, Try.underlying9, Try.underlying3, Try.underlying3, Try.underlying23, rfl, Try.underlying2, Try.underlying3, Try.underlying25, Try.underlying9, Try.underlying33⟩
abbrev tys : List TypeId := [35, 3, 9, 23, 2, 25, 33]
theorem ownT : ownKnob Try.prog.godebug = none := by kernel_rfl
theorem laidT : laidOutB Try.prog = true := by kernel_rfl
theorem tabT : TabOk Try.prog pf tab := tabOf_ok all_ok pl_ok

set_option maxRecDepth 100000 in
theorem lifted (os : Os) (started : os.Started) (H : Type) (enc : TypeId × Value → H) :
    ReturnsInHanded {} Try.checked os 6 .any (Rows.treePartsSpec.pre6 enc Try.prog Try.f6 Rows.treePartsRow.domain false) (Rows.treePartsSpec.post enc Try.prog Try.f6 false true false false) := by
  refine returnsInHanded_of_change_sized (C := Try.checked) ownT started (by kernel_rfl) Try.func6
    (ChangeSpec.witness6 (enc := enc) (C := Try.checked) false ⟨#[], #[.agg #[.int .i64 0, .string ByteArray.empty, .int .i64 0, .int .i64 0, .int .i64 0, .int .i64 0, .slice none 0 0, .slice none 0 0]], []⟩ 8 (by kernel_rfl) (by kernel_rfl) (by kernel_rfl) (by kernel_rfl)) ?_
  intro W base args ds gs before hval0 hW hcnd hsz0 _
  refine law_contract (L := tys) (tb := 4) (tabOf_pf _ _ _) tabT laidT rfl (by decide +kernel) (by decide +kernel) rfl Try.underlying4 ?_ hval0 hW ?_
  · intro ds h
    match ds, h with
    | [a0], _ => rfl
  · intro xs h
    have e : Try.f6.params.toList = [35] := by rw [Try.params6]
    rw [e] at h
    obtain ⟨_, _, x0, _, rfl, h0, g0, h⟩ := liftArgs_cons h
    obtain rfl := liftArgs_nil h
    obtain ⟨v0, o0, rfl⟩ := lift_xp' xpT h0 g0
    exact ⟨_, TreeParts_ok v0 o0 []⟩

theorem over : Rows.treePartsRow.holds Try.pinned (OpenSpec.ofChange Rows.treePartsSpec) :=
  OpenClaim.holds_of_wide 6 Try.f6 rfl rfl rfl rfl rfl rfl rfl ⟨rfl, rfl, rfl, rfl, rfl⟩ rfl rfl rfl rfl rfl (by kernel_rfl) Try.func6 (by kernel_rfl)
    (of_decide_eq_true (by kernel_rfl)) (by unfold Func.isWrapper; first | (rw [if_pos (by decide +kernel)]; kernel_rfl) | (rw [if_neg (by decide +kernel)]; exact ⟨rfl, rfl⟩))
    (fun os started H enc _ => lifted os started H enc)

/-- The row, under a short name, for the claim. -/
theorem treeParts_holds : Rows.TreePartsSaid := over
end Go.Proofs.Ytgcnokfehgcbiaa
