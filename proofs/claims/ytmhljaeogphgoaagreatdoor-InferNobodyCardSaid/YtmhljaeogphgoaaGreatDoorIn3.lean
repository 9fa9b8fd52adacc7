/- Of no environment nothing is inferred, and nothing is static: true of the given program for every type and guard. -/
import Derived.Test.YtmhljaeogphgoaaGreatDoorIn2
import Derived.Test.YtmhljaeogphgoaaGreatDoorPe3
import Derived.Test.YtmhljaeogphgoaaGreatDoorPe4
import Derived.Test.YtmhljaeogphgoaaGreatDoorRows
import Derived.ProofKit
import Derived.ChangeOld
import Derived.Below
import Derived.SizedLaws
import Derived.Lay
import Derived.LaidOnce
import Derived.SevenTiedAt
import Derived.Stop.Joined
import Derived.Test.YtmhljaeogphgoaaGreatDoorTie
import Derived.Test.YtmhljaeogphgoaaGreatDoorCards
set_option linter.unusedSimpArgs false
set_option linter.unusedVariables false

namespace Go.Proofs.YtmhljaeogphgoaaGreatDoor
open Go.Pe Go.Pe.T Go.ChangeShapes Go.WideShapes Go.ChangeAt Go.RowKit


abbrev tys : List TypeId := [25, 3, 22, 9, 23]
theorem ownT : ownKnob Tryz.prog.godebug = none := by kernel_rfl
theorem laidT : laidOutB Tryz.prog = true := by kernel_rfl
theorem tabT : TabOk Tryz.prog pf tab := tab_ok

set_option maxRecDepth 100000 in
theorem lifted (os : Os) (started : os.Started) (H : Type) (enc : TypeId × Value → H) :
    ReturnsInHanded {} Tryz.checked os 3 .any (fun w args => (Rows.inferNobodySpec.pre enc Tryz.prog Tryz.f3 [] false w args ∧ laidMetH Tryz.prog Rows.inferNobodyRow.laid w) ∧ sizedMet enc Tryz.prog Tryz.f3 (OpenSpec.ofChange Rows.inferNobodySpec) false w args)
      (Rows.inferNobodySpec.post enc Tryz.prog Tryz.f3 false true false false) := by
  refine returnsInHanded_of_change_and (C := Tryz.checked) (X := fun w _ => laidMetH Tryz.prog Rows.inferNobodyRow.laid w) (fun _ _ _ hh h => h.of_heap hh) ownT started (by kernel_rfl) Tryz.func3
    (ChangeSpec.witness_shaped (enc := enc) (C := Tryz.checked) (os := os) (X := fun w _ => laidMetH Tryz.prog Rows.inferNobodyRow.laid w) false (World.laidAll Tryz.prog os Rows.inferNobodyRow.laid) #[.agg #[.int .i64 0, .slice none 0 0, .slice none 0 0, .int .i64 0], .int .i64 0] 8 (World.laidAll_os _ _ _)
      (World.shaped_of_ZipB (by kernel_rfl) (by kernel_rfl)) (by kernel_rfl) (by kernel_rfl) (by kernel_rfl)
      (by rw [MakeChecks.laidMetH_plain _ _ _ (by kernel_rfl)]; exact laidMet_laidAll _ (by kernel_rfl) (by kernel_rfl))) ?_
  intro W base args ds gs before hval0 hW _ _ hL _
  refine law_contract (L := tys) (tb := 4) pf_ok tabT laidT rfl (by decide +kernel) (by decide +kernel) rfl Tryz.underlying4 ?_ hval0 hW ?_
  · intro ds h
    match ds, h with
    | [a0, a1], _ => rfl
  · intro xs h
    have e : Tryz.f3.params.toList = [25, 3] := by rw [Tryz.params3]
    rw [e] at h
    obtain ⟨_, _, x0, _, rfl, h0, g0, h⟩ := liftArgs_cons h
    obtain ⟨_, _, x1, _, rfl, h1, g1, h⟩ := liftArgs_cons h
    obtain rfl := liftArgs_nil h
    obtain ⟨a0, b0, c0, d0, rfl⟩ := lift_ty4 Tryz.underlying25 rfl Tryz.underlying3 Tryz.underlying22 Tryz.underlying23 Tryz.underlying3 h0 g0
    obtain ⟨v1, o1, rfl⟩ := lift_i Tryz.underlying3 h1 g1
    exact ⟨_, InferNobody_ok a0 b0 c0 d0 v1 o1 []⟩

theorem over : Rows.inferNobodyRow.holds Tryz.pinned (OpenSpec.ofChange Rows.inferNobodySpec) :=
  OpenClaim.holds_of_wide 3 Tryz.f3 rfl rfl rfl rfl rfl rfl rfl ⟨rfl, rfl, rfl, rfl, rfl⟩ rfl rfl rfl rfl rfl (by kernel_rfl) Tryz.func3 (by kernel_rfl)
    (of_decide_eq_true (by kernel_rfl)) (by unfold Func.isWrapper; first | (rw [if_pos (by decide +kernel)]; kernel_rfl) | (rw [if_neg (by decide +kernel)]; exact ⟨rfl, rfl⟩))
    (fun os started H enc _ => lifted os started H enc)

theorem inferNobody_holds : Rows.InferNobodySaid := over

theorem inferNobodyCard_holds : Rows.InferNobodyCardSaid :=
  Claim7.holds_tied_plain_at .later [] [.data, .pinned] true (true, "489df007e70f8b0c1069a0daaba48d5ff42feb72040c752e77cf01acf797bec7") true inferNobody_holds (fun _ h => by cases h) (by kernel_rfl) (fun _ h => by cases h) inferNobody_row_tie rfl ⟨rfl, rfl⟩ (by kernel_rfl) rfl
    (fun f fn hf hfn => by
      obtain rfl : f = 3 := Option.some.inj ((show Tryz.prog.funcNamed "keyhole/keyholelaw26.InferNobody" = some 3 by kernel_rfl).symm.trans hf) |>.symm
      obtain rfl : fn = Tryz.f3 := (Option.some.inj (Tryz.func3.symm.trans hfn)).symm
      exact ⟨by kernel_rfl, fun j t ht => by
        rw [Tryz.params3] at ht
        have hm : t ∈ [25, 3] := by simpa using Array.mem_of_getElem? ht
        have hall : ([25, 3].all fun u => !Tryz.prog.wantsStandIn u) = true := by kernel_rfl
        exact (show Tryz.prog.wantsStandIn t = false by simpa using List.all_eq_true.1 hall t hm)⟩)
    (by kernel_rfl)
end Go.Proofs.YtmhljaeogphgoaaGreatDoor
