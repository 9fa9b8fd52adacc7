/- A number's text is parsed as it; sums and products are the same whichever way round; a sum less one of both is the other, a product by one of both is the other. -/
import Derived.Test.YtjfdbgoajjhafaaDoorNb5
import Derived.Test.YtjfdbgoajjhafaaDoorPe3
import Derived.Test.YtjfdbgoajjhafaaDoorRows
import Derived.ProofKit
import Derived.ChangeOld
import Derived.Below
import Derived.SizedLaws
import Derived.Lay
import Derived.LaidOnce
import Derived.SevenTiedAt
import Derived.Stop.Joined
import Derived.Test.YtjfdbgoajjhafaaDoorTie
import Derived.Test.YtjfdbgoajjhafaaDoorCards
set_option linter.unusedSimpArgs false
set_option linter.unusedVariables false

namespace Go.Proofs.YtjfdbgoajjhafaaDoor
open Go.Pe Go.Pe.T Go.ChangeShapes Go.WideShapes Go.ChangeAt Go.RowKit

theorem numT : NumT Tryd.prog 27 := ⟨_, _, _, Tryd.underlying27, rfl, Tryd.underlying2, Tryd.underlying3⟩
abbrev tys : List TypeId := [27, 2, 3]
theorem ownT : ownKnob Tryd.prog.godebug = none := by kernel_rfl
theorem laidT : laidOutB Tryd.prog = true := by kernel_rfl
theorem tabT : TabOk Tryd.prog pf tab := tabOf_ok all_ok pl_ok ml_ok

set_option maxRecDepth 100000 in
theorem lifted (os : Os) (started : os.Started) (H : Type) (enc : TypeId × Value → H) :
    ReturnsInHanded {} Tryd.checked os 9 .any (fun w args => (Rows.numBackSpec.pre enc Tryd.prog Tryd.f9 [] false w args ∧ laidMetH Tryd.prog Rows.numBackRow.laid w) ∧ sizedMet enc Tryd.prog Tryd.f9 (OpenSpec.ofChange Rows.numBackSpec) false w args)
      (Rows.numBackSpec.post enc Tryd.prog Tryd.f9 false true false false) := by
  refine returnsInHanded_of_change_and (C := Tryd.checked) (X := fun w _ => laidMetH Tryd.prog Rows.numBackRow.laid w) (fun _ _ _ hh h => h.of_heap hh) ownT started (by kernel_rfl) Tryd.func9
    (ChangeSpec.witness_shaped (enc := enc) (C := Tryd.checked) (os := os) (X := fun w _ => laidMetH Tryd.prog Rows.numBackRow.laid w) false (World.laidAll Tryd.prog os Rows.numBackRow.laid) #[.agg #[.int .i64 0, .int .i64 0], .agg #[.int .i64 0, .int .i64 0]] 8 (World.laidAll_os _ _ _)
      (World.shaped_of_ZipB (by kernel_rfl) (by kernel_rfl)) (by kernel_rfl) (by kernel_rfl) (by kernel_rfl)
      (by rw [MakeChecks.laidMetH_plain _ _ _ (by kernel_rfl)]; exact laidMet_laidAll _ (by kernel_rfl) (by kernel_rfl))) ?_
  intro W base args ds gs before hval0 hW _ _ hL _
  refine law_contract (L := tys) (tb := 4) pf_ok tabT laidT rfl (by decide +kernel) (by decide +kernel) rfl Tryd.underlying4 ?_ hval0 hW ?_
  · intro ds h
    match ds, h with
    | [a0, a1], _ => rfl
  · intro xs h
    have e : Tryd.f9.params.toList = [27, 27] := by rw [Tryd.params9]
    rw [e] at h
    obtain ⟨_, _, x0, _, rfl, h0, g0, h⟩ := liftArgs_cons h
    obtain ⟨_, _, x1, _, rfl, h1, g1, h⟩ := liftArgs_cons h
    obtain rfl := liftArgs_nil h
    obtain ⟨c0, v0, o0, rfl⟩ := lift_num numT h0 g0
    obtain ⟨c1, v1, o1, rfl⟩ := lift_num numT h1 g1
    exact ⟨_, NumBack_ok c0 v0 c1 v1 o0 o1 []⟩

theorem over : Rows.numBackRow.holds Tryd.pinned (OpenSpec.ofChange Rows.numBackSpec) :=
  OpenClaim.holds_of_wide 9 Tryd.f9 rfl rfl rfl rfl rfl rfl rfl ⟨rfl, rfl, rfl, rfl, rfl⟩ rfl rfl rfl rfl rfl (by kernel_rfl) Tryd.func9 (by kernel_rfl)
    (of_decide_eq_true (by kernel_rfl)) (by unfold Func.isWrapper; first | (rw [if_pos (by decide +kernel)]; kernel_rfl) | (rw [if_neg (by decide +kernel)]; exact ⟨rfl, rfl⟩))
    (fun os started H enc _ => lifted os started H enc)

/-- The row, under a short name, for the claim. -/
theorem numBack_holds : Rows.NumBackSaid := over

/-- The tied card. -/
theorem numBackCard_holds : Rows.NumBackCardSaid :=
  Claim7.holds_tied_plain_at .later [] [.data, .pinned] true (true, "a90d3d25281d0aed352b255ad166b9bd201aa4a71ac018ac065fdc8d1b6f96a9") false numBack_holds (fun _ h => by cases h) (by kernel_rfl) (fun _ h => by cases h) numBack_row_tie rfl ⟨rfl, rfl⟩ (by kernel_rfl) rfl
    (fun f fn hf hfn => by
      obtain rfl : f = 9 := Option.some.inj ((show Tryd.prog.funcNamed "keyhole/keyholelaw04.NumBack" = some 9 by kernel_rfl).symm.trans hf) |>.symm
      obtain rfl : fn = Tryd.f9 := (Option.some.inj (Tryd.func9.symm.trans hfn)).symm
      exact ⟨by kernel_rfl, fun j t ht => by
        rw [Tryd.params9] at ht
        have hm : t ∈ [27, 27] := by simpa using Array.mem_of_getElem? ht
        have hall : ([27, 27].all fun u => !Tryd.prog.wantsStandIn u) = true := by kernel_rfl
        exact (show Tryd.prog.wantsStandIn t = false by simpa using List.all_eq_true.1 hall t hm)⟩)
    (by kernel_rfl)
end Go.Proofs.YtjfdbgoajjhafaaDoor
