/- A text that is turned round twice stands as it did and is as long; great letters of small ones and trimming twice turn nothing more; each text begins and ends with nothing and has itself in it (keyholelaw21.ShelfTurns answers true for every input). -/
import Derived.Test.YtodlndopbpmpjaaGreatDoorSt3
import Derived.Test.YtodlndopbpmpjaaGreatDoorPe3
import Derived.Test.YtodlndopbpmpjaaGreatDoorPe4
import Derived.Test.YtodlndopbpmpjaaGreatDoorRows
import Derived.ProofKit
import Derived.ChangeOld
import Derived.Below
import Derived.SizedLaws
import Derived.Lay
import Derived.LaidOnce
import Derived.SevenTiedAt
import Derived.Stop.Joined
import Derived.Test.YtodlndopbpmpjaaGreatDoorTie
import Derived.Test.YtodlndopbpmpjaaGreatDoorCards
set_option linter.unusedSimpArgs false
set_option linter.unusedVariables false

namespace Go.Proofs.YtodlndopbpmpjaaGreatDoor
open Go.Pe Go.Pe.T Go.ChangeShapes Go.WideShapes Go.ChangeAt Go.RowKit


abbrev tys : List TypeId := [9]
theorem ownT : ownKnob Tryz.prog.godebug = none := by kernel_rfl
theorem laidT : laidOutB Tryz.prog = true := by kernel_rfl
theorem tabT : TabOk Tryz.prog pf tab := tab_ok

set_option maxRecDepth 100000 in
theorem lifted (os : Os) (started : os.Started) (H : Type) (enc : TypeId × Value → H) :
    ReturnsInHanded {} Tryz.checked os 3 .any (fun w args => (Rows.shelfTurnsSpec.pre enc Tryz.prog Tryz.f3 [] false w args ∧ laidMetH Tryz.prog Rows.shelfTurnsRow.laid w) ∧ sizedMet enc Tryz.prog Tryz.f3 (OpenSpec.ofChange Rows.shelfTurnsSpec) false w args)
      (Rows.shelfTurnsSpec.post enc Tryz.prog Tryz.f3 false true false false) := by
  refine returnsInHanded_of_change_and (C := Tryz.checked) (X := fun w _ => laidMetH Tryz.prog Rows.shelfTurnsRow.laid w) (fun _ _ _ hh h => h.of_heap hh) ownT started (by kernel_rfl) Tryz.func3
    (ChangeSpec.witness_shaped (enc := enc) (C := Tryz.checked) (os := os) (X := fun w _ => laidMetH Tryz.prog Rows.shelfTurnsRow.laid w) false (World.laidAll Tryz.prog os Rows.shelfTurnsRow.laid) #[.string ByteArray.empty] 8 (World.laidAll_os _ _ _)
      (World.shaped_of_ZipB (by kernel_rfl) (by kernel_rfl)) (by kernel_rfl) (by kernel_rfl) (by kernel_rfl)
      (by rw [MakeChecks.laidMetH_plain _ _ _ (by kernel_rfl)]; exact laidMet_laidAll _ (by kernel_rfl) (by kernel_rfl))) ?_
  intro W base args ds gs before hval0 hW _ _ hL _
  refine law_contract (L := tys) (tb := 4) pf_ok tabT laidT rfl (by decide +kernel) (by decide +kernel) rfl Tryz.underlying4 ?_ hval0 hW ?_
  · intro ds h
    match ds, h with
    | [a0], _ => rfl
  · intro xs h
    have e : Tryz.f3.params.toList = [9] := by rw [Tryz.params3]
    rw [e] at h
    obtain ⟨_, _, x0, _, rfl, h0, g0, h⟩ := liftArgs_cons h
    obtain rfl := liftArgs_nil h
    obtain ⟨v0, o0, rfl⟩ := lift_s Tryz.underlying9 h0 g0
    exact ⟨_, ShelfTurns_ok v0 o0 []⟩

theorem over : Rows.shelfTurnsRow.holds Tryz.pinned (OpenSpec.ofChange Rows.shelfTurnsSpec) :=
  OpenClaim.holds_of_wide 3 Tryz.f3 rfl rfl rfl rfl rfl rfl rfl ⟨rfl, rfl, rfl, rfl, rfl⟩ rfl rfl rfl rfl rfl (by kernel_rfl) Tryz.func3 (by kernel_rfl)
    (of_decide_eq_true (by kernel_rfl)) (by unfold Func.isWrapper; first | (rw [if_pos (by decide +kernel)]; kernel_rfl) | (rw [if_neg (by decide +kernel)]; exact ⟨rfl, rfl⟩))
    (fun os started H enc _ => lifted os started H enc)

theorem shelfTurns_holds : Rows.ShelfTurnsSaid := over

theorem shelfTurnsCard_holds : Rows.ShelfTurnsCardSaid :=
  Claim7.holds_tied_plain_at .later [] [.data, .pinned] true (true, "75dcfb856be30c01757e1f82f007a0d079292bb8ca75e6f2a593940b8078e3f2") false shelfTurns_holds (fun _ h => by cases h) (by kernel_rfl) (fun _ h => by cases h) shelfTurns_row_tie rfl ⟨rfl, rfl⟩ (by kernel_rfl) rfl
    (fun f fn hf hfn => by
      obtain rfl : f = 3 := Option.some.inj ((show Tryz.prog.funcNamed "keyhole/keyholelaw21.ShelfTurns" = some 3 by kernel_rfl).symm.trans hf) |>.symm
      obtain rfl : fn = Tryz.f3 := (Option.some.inj (Tryz.func3.symm.trans hfn)).symm
      exact ⟨by kernel_rfl, fun j t ht => by
        rw [Tryz.params3] at ht
        have hm : t ∈ [9] := by simpa using Array.mem_of_getElem? ht
        have hall : ([9].all fun u => !Tryz.prog.wantsStandIn u) = true := by kernel_rfl
        exact (show Tryz.prog.wantsStandIn t = false by simpa using List.all_eq_true.1 hall t hm)⟩)
    (by kernel_rfl)
end Go.Proofs.YtodlndopbpmpjaaGreatDoor
