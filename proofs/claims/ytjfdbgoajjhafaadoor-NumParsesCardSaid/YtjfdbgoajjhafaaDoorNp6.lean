/- The number of any text of at most 300 bytes, or why there is none, is the document's: digits, a point, a power, of any length. -/
import Derived.Test.YtjfdbgoajjhafaaDoorNp5
import Derived.Test.YtjfdbgoajjhafaaDoorPe3
import Derived.Test.YtjfdbgoajjhafaaDoorRows
import Derived.ProofKit
import Derived.ChangeOld
import Derived.Below
import Derived.SizedLaws
import Derived.Lay
import Derived.LaidOnce
import Derived.SevenTiedAt
import Derived.Stop.Joined
import Derived.Test.YtjfdbgoajjhafaaDoorTie
import Derived.Test.YtjfdbgoajjhafaaDoorCards
set_option linter.unusedSimpArgs false
set_option linter.unusedVariables false

namespace Go.Proofs.YtjfdbgoajjhafaaDoor
open Go.Pe Go.Pe.T Go.ChangeShapes Go.WideShapes Go.ChangeAt Go.RowKit


abbrev tys : List TypeId := [9]
theorem ownT : ownKnob Tryd.prog.godebug = none := by kernel_rfl
theorem laidT : laidOutB Tryd.prog = true := by kernel_rfl
theorem tabT : TabOk Tryd.prog pf tab := tabOf_ok all_ok pl_ok ml_ok

set_option maxRecDepth 100000 in
theorem lifted (os : Os) (started : os.Started) (H : Type) (enc : TypeId × Value → H) :
    ReturnsInHanded {} Tryd.checked os 5 .any (fun w args => (Rows.numParsesSpec.pre enc Tryd.prog Tryd.f5 [] false w args ∧ laidMetH Tryd.prog Rows.numParsesRow.laid w) ∧ sizedMet enc Tryd.prog Tryd.f5 (OpenSpec.ofChange Rows.numParsesSpec) false w args)
      (Rows.numParsesSpec.post enc Tryd.prog Tryd.f5 false true false false) := by
  refine returnsInHanded_of_change_and (C := Tryd.checked) (X := fun w _ => laidMetH Tryd.prog Rows.numParsesRow.laid w) (fun _ _ _ hh h => h.of_heap hh) ownT started (by kernel_rfl) Tryd.func5
    (ChangeSpec.witness_shaped (enc := enc) (C := Tryd.checked) (os := os) (X := fun w _ => laidMetH Tryd.prog Rows.numParsesRow.laid w) false (World.laidAll Tryd.prog os Rows.numParsesRow.laid) #[.string ByteArray.empty] 8 (World.laidAll_os _ _ _)
      (World.shaped_of_ZipB (by kernel_rfl) (by kernel_rfl)) (by kernel_rfl) (by kernel_rfl) (by kernel_rfl)
      (by rw [MakeChecks.laidMetH_plain _ _ _ (by kernel_rfl)]; exact laidMet_laidAll _ (by kernel_rfl) (by kernel_rfl))) ?_
  intro W base args ds gs before hval0 hW _ _ hL _
  refine law_contract (L := tys) (tb := 4) pf_ok tabT laidT rfl (by decide +kernel) (by decide +kernel) rfl Tryd.underlying4 ?_ hval0 hW ?_
  · intro ds h
    match ds, h with
    | [a0], _ => rfl
  · intro xs h
    have e : Tryd.f5.params.toList = [9] := by rw [Tryd.params5]
    rw [e] at h
    obtain ⟨_, _, x0, _, rfl, h0, g0, h⟩ := liftArgs_cons h
    obtain rfl := liftArgs_nil h
    obtain ⟨v0, o0, rfl⟩ := lift_s Tryd.underlying9 h0 g0
    exact ⟨_, NumParses_ok v0 o0 []⟩

theorem over : Rows.numParsesRow.holds Tryd.pinned (OpenSpec.ofChange Rows.numParsesSpec) :=
  OpenClaim.holds_of_wide 5 Tryd.f5 rfl rfl rfl rfl rfl rfl rfl ⟨rfl, rfl, rfl, rfl, rfl⟩ rfl rfl rfl rfl rfl (by kernel_rfl) Tryd.func5 (by kernel_rfl)
    (of_decide_eq_true (by kernel_rfl)) (by unfold Func.isWrapper; first | (rw [if_pos (by decide +kernel)]; kernel_rfl) | (rw [if_neg (by decide +kernel)]; exact ⟨rfl, rfl⟩))
    (fun os started H enc _ => lifted os started H enc)

/-- The row, under a short name, for the claim. -/
theorem numParses_holds : Rows.NumParsesSaid := over

/-- The tied card. -/
theorem numParsesCard_holds : Rows.NumParsesCardSaid :=
  Claim7.holds_tied_plain_at .later [] [.data, .pinned] true (true, "a90d3d25281d0aed352b255ad166b9bd201aa4a71ac018ac065fdc8d1b6f96a9") false numParses_holds (fun _ h => by cases h) (by kernel_rfl) (fun _ h => by cases h) numParses_row_tie rfl ⟨rfl, rfl⟩ (by kernel_rfl) rfl
    (fun f fn hf hfn => by
      obtain rfl : f = 5 := Option.some.inj ((show Tryd.prog.funcNamed "keyhole/keyholelaw04.NumParses" = some 5 by kernel_rfl).symm.trans hf) |>.symm
      obtain rfl : fn = Tryd.f5 := (Option.some.inj (Tryd.func5.symm.trans hfn)).symm
      exact ⟨by kernel_rfl, fun j t ht => by
        rw [Tryd.params5] at ht
        have hm : t ∈ [9] := by simpa using Array.mem_of_getElem? ht
        have hall : ([9].all fun u => !Tryd.prog.wantsStandIn u) = true := by kernel_rfl
        exact (show Tryd.prog.wantsStandIn t = false by simpa using List.all_eq_true.1 hall t hm)⟩)
    (by kernel_rfl)
end Go.Proofs.YtjfdbgoajjhafaaDoor
