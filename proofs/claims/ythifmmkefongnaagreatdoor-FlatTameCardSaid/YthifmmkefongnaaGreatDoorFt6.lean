/- FlatTame: a calm expression, whose parts that must be calm are, has nothing wild in it, and costs at most as much as it has parts. -/
import Derived.Test.YthifmmkefongnaaGreatDoorFt5
import Derived.Test.YthifmmkefongnaaGreatDoorPe3
import Derived.Test.YthifmmkefongnaaGreatDoorPe4
import Derived.Test.YthifmmkefongnaaGreatDoorRows
import Derived.ProofKit
import Derived.ChangeOld
import Derived.Below
import Derived.SizedLaws
import Derived.Lay
import Derived.LaidOnce
import Derived.SevenTiedAt
import Derived.Stop.Joined
import Derived.Test.YthifmmkefongnaaGreatDoorTie
import Derived.Test.YthifmmkefongnaaGreatDoorCards
set_option linter.unusedSimpArgs false
set_option linter.unusedVariables false

namespace Go.Proofs.YthifmmkefongnaaGreatDoor
open Go.Pe Go.Pe.T Go.ChangeShapes Go.WideShapes Go.ChangeAt Go.RowKit

theorem xpT : XpT Tryz.prog 27 := ⟨_, _, _, _, _, _, _, _, _, _, _, _, Tryz.underlying27, rfl, Tryz.underlying3, Tryz.underlying9, Tryz.underlying3, Tryz.underlying3, Tryz.underlying23, rfl, Tryz.underlying2, Tryz.underlying3, Tryz.underlying24, Tryz.underlying9, Tryz.underlying25⟩
abbrev tys : List TypeId := [27, 3, 9, 23, 2, 24, 25]
theorem ownT : ownKnob Tryz.prog.godebug = none := by kernel_rfl
theorem laidT : laidOutB Tryz.prog = true := by kernel_rfl
theorem tabT : TabOk Tryz.prog pf tab := tab_ok

set_option maxRecDepth 100000 in
theorem lifted (os : Os) (started : os.Started) (H : Type) (enc : TypeId × Value → H) :
    ReturnsInHanded {} Tryz.checked os 4 .any (fun w args => (Rows.flatTameSpec.pre enc Tryz.prog Tryz.f4 [] false w args ∧ laidMetH Tryz.prog Rows.flatTameRow.laid w) ∧ sizedMet enc Tryz.prog Tryz.f4 (OpenSpec.ofChange Rows.flatTameSpec) false w args)
      (Rows.flatTameSpec.post enc Tryz.prog Tryz.f4 false true false false) := by
  refine returnsInHanded_of_change_and (C := Tryz.checked) (X := fun w _ => laidMetH Tryz.prog Rows.flatTameRow.laid w) (fun _ _ _ hh h => h.of_heap hh) ownT started (by kernel_rfl) Tryz.func4
    (ChangeSpec.witness_shaped (enc := enc) (C := Tryz.checked) (os := os) (X := fun w _ => laidMetH Tryz.prog Rows.flatTameRow.laid w) false (World.laidAll Tryz.prog os Rows.flatTameRow.laid) #[.agg #[.int .i64 0, .string ByteArray.empty, .int .i64 0, .int .i64 0, .int .i64 0, .int .i64 0, .slice none 0 0, .slice none 0 0]] 8 (World.laidAll_os _ _ _)
      (World.shaped_of_ZipB (by kernel_rfl) (by kernel_rfl)) (by kernel_rfl) (by kernel_rfl) (by kernel_rfl)
      (by rw [MakeChecks.laidMetH_plain _ _ _ (by kernel_rfl)]; exact laidMet_laidAll _ (by kernel_rfl) (by kernel_rfl))) ?_
  intro W base args ds gs before hval0 hW _ _ hL _
  refine law_contract (L := tys) (tb := 4) pf_ok tabT laidT rfl (by decide +kernel) (by decide +kernel) rfl Tryz.underlying4 ?_ hval0 hW ?_
  · intro ds h
    match ds, h with
    | [a0], _ => rfl
  · intro xs h
    have e : Tryz.f4.params.toList = [27] := by rw [Tryz.params4]
    rw [e] at h
    obtain ⟨_, _, x0, _, rfl, h0, g0, h⟩ := liftArgs_cons h
    obtain rfl := liftArgs_nil h
    obtain ⟨v0, o0, rfl⟩ := lift_xp' xpT h0 g0
    exact ⟨_, FlatTame_ok v0 o0 []⟩

theorem over : Rows.flatTameRow.holds Tryz.pinned (OpenSpec.ofChange Rows.flatTameSpec) :=
  OpenClaim.holds_of_wide 4 Tryz.f4 rfl rfl rfl rfl rfl rfl rfl ⟨rfl, rfl, rfl, rfl, rfl⟩ rfl rfl rfl rfl rfl (by kernel_rfl) Tryz.func4 (by kernel_rfl)
    (of_decide_eq_true (by kernel_rfl)) (by unfold Func.isWrapper; first | (rw [if_pos (by decide +kernel)]; kernel_rfl) | (rw [if_neg (by decide +kernel)]; exact ⟨rfl, rfl⟩))
    (fun os started H enc _ => lifted os started H enc)

theorem flatTame_holds : Rows.FlatTameSaid := over

theorem flatTameCard_holds : Rows.FlatTameCardSaid :=
  Claim7.holds_tied_plain_at .later [] [.data, .pinned] true (true, "c53d272688184e70708b827ca28288de3e216b78d2c2ae4e94e93e07d0be36e7") true flatTame_holds (fun _ h => by cases h) (by kernel_rfl) (fun _ h => by cases h) flatTame_row_tie rfl ⟨rfl, rfl⟩ (by kernel_rfl) rfl
    (fun f fn hf hfn => by
      obtain rfl : f = 4 := Option.some.inj ((show Tryz.prog.funcNamed "keyhole/keyholelaw18.FlatTame" = some 4 by kernel_rfl).symm.trans hf) |>.symm
      obtain rfl : fn = Tryz.f4 := (Option.some.inj (Tryz.func4.symm.trans hfn)).symm
      exact ⟨by kernel_rfl, fun j t ht => by
        rw [Tryz.params4] at ht
        have hm : t ∈ [27] := by simpa using Array.mem_of_getElem? ht
        have hall : ([27].all fun u => !Tryz.prog.wantsStandIn u) = true := by kernel_rfl
        exact (show Tryz.prog.wantsStandIn t = false by simpa using List.all_eq_true.1 hall t hm)⟩)
    (by kernel_rfl)
end Go.Proofs.YthifmmkefongnaaGreatDoor
