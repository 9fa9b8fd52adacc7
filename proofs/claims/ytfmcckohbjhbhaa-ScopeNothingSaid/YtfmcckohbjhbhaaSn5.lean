/- Resolving a program sets nothing but places, and a main part whose variables have other names, all alike, is resolved to the same places, or leads nowhere just so. -/
import Derived.Test.YtfmcckohbjhbhaaSn4
import Derived.Test.YtfmcckohbjhbhaaPe3
import Derived.Test.YtfmcckohbjhbhaaRows
import Derived.ProofKit
import Derived.ChangeOld
import Derived.Below
import Derived.SizedLaws
set_option linter.unusedSimpArgs false
set_option linter.unusedVariables false

namespace Go.Proofs.Ytfmcckohbjhbhaa
open Go.Pe Go.Pe.T Go.ChangeShapes Go.WideShapes Go.ChangeAt Go.RowKit

theorem xpT : XpT Try.prog 34 := ⟨_, _, _, _, _, _, _, _, _, _, _, _, Try.underlying34, rfl, Try.underlying3, Try.underlying9, Try.underlying3, Try.underlying3, Try.underlying31, rfl, Try.underlying2, Try.underlying3, Try.underlying22, Try.underlying9, Try.underlying32⟩
abbrev tys : List TypeId := [36, 29, 44, 9, 22, 34, 3, 31, 2, 32]
theorem ownT : ownKnob Try.prog.godebug = none := by kernel_rfl
theorem laidT : laidOutB Try.prog = true := by kernel_rfl
theorem tabT : TabOk Try.prog pf tab := tab_ok

set_option maxRecDepth 100000 in
theorem lifted (os : Os) (started : os.Started) (H : Type) (enc : TypeId × Value → H) :
    ReturnsInHanded {} Try.checked os 4 .any (Rows.scopeNothingSpec.pre6 enc Try.prog Try.f4 Rows.scopeNothingRow.domain false) (Rows.scopeNothingSpec.post enc Try.prog Try.f4 false true false false) := by
  refine returnsInHanded_of_change_sized (C := Try.checked) ownT started (by kernel_rfl) Try.func4
    (ChangeSpec.witness6 (enc := enc) (C := Try.checked) false ⟨#[], #[.agg #[.slice none 0 0, .int .i64 0, .string ByteArray.empty, .int .i64 0, .int .i64 0, .int .i64 0, .int .i64 0, .slice none 0 0, .slice none 0 0]], []⟩ 8 (by kernel_rfl) (by kernel_rfl) (by kernel_rfl) (by kernel_rfl)) ?_
  intro W base args ds gs before hval0 hW hcnd hsz0 _
  refine law_contract (L := tys) (tb := 4) pf_ok tabT laidT rfl (by decide +kernel) (by decide +kernel) rfl Try.underlying4 ?_ hval0 hW ?_
  · intro ds h
    match ds, h with
    | [a0], _ => rfl
  · intro xs h
    have e : Try.f4.params.toList = [36] := by rw [Try.params4]
    rw [e] at h
    obtain ⟨_, _, x0, _, rfl, h0, g0, h⟩ := liftArgs_cons h
    obtain rfl := liftArgs_nil h
    obtain ⟨a0, v0, o0, rfl⟩ := lift_prog xpT Try.underlying36 rfl Try.underlying29 Try.underlying44 rfl Try.underlying9 Try.underlying22 Try.underlying9 h0 g0
    exact ⟨_, ScopeNothing_ok a0 v0 o0 []⟩

theorem over : Rows.scopeNothingRow.holds Try.pinned (OpenSpec.ofChange Rows.scopeNothingSpec) :=
  OpenClaim.holds_of_wide 4 Try.f4 rfl rfl rfl rfl rfl rfl rfl ⟨rfl, rfl, rfl, rfl, rfl⟩ rfl rfl rfl rfl rfl (by kernel_rfl) Try.func4 (by kernel_rfl)
    (of_decide_eq_true (by kernel_rfl)) (by unfold Func.isWrapper; first | (rw [if_pos (by decide +kernel)]; kernel_rfl) | (rw [if_neg (by decide +kernel)]; exact ⟨rfl, rfl⟩))
    (fun os started H enc _ => lifted os started H enc)

/-- The row, under a short name, for the claim. -/
theorem scopeNothing_holds : Rows.ScopeNothingSaid := over
end Go.Proofs.Ytfmcckohbjhbhaa
