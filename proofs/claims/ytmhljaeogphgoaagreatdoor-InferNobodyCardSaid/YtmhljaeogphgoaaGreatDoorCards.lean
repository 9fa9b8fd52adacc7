/-
  DERIVED. GIVEN WITH THE SEED: THE CARDS: each row of YtmhljaeogphgoaaGreatDoorRows.lean that lists a variable, with what it lists TIED to the program's text (the seventh form; the later family's looks); each row that meets fmt, with fmt's text TOLD by the authors' own Lean function (tested against real Go, not proved from fmt's source: count such statements apart). THE CARD IS WHAT COUNTS. Prove the row's statement (the work); the ties are given (YtmhljaeogphgoaaGreatDoorTie.lean); close each card by the builder's one call (the guide's Derived/Test/ToyasCard.lean, 'card_holds'). Laid BY PROGRAM, IN A SANDBOX (cutbox-door.mjs). By AI agents, Wed Nov 11 2026. No macro, syntax, notation, axiom, sorry.
-/
import Derived.Test.YtmhljaeogphgoaaGreatDoorRows
import GoSem.ClaimSeven
namespace Go.Proofs.YtmhljaeogphgoaaGreatDoor
namespace Rows

/-- THE TIED CARD OF 'keyholelaw26.InferNobody'. -/
def inferNobodyCard : Claim7 := { stood := { row := inferNobodyRow, standIns := [], harness := (true, "489df007e70f8b0c1069a0daaba48d5ff42feb72040c752e77cf01acf797bec7"), looks := true }, kinds := [], alts := [], laidByText := true, laidKinds := [.data, .pinned], laidTests := true, laidLooks := .later }
def InferNobodyCardSaid : Prop := Claim7.holds Tryz.pinned (.plain (OpenSpec.ofChange inferNobodySpec)) inferNobodyCard

/-- THE SECOND FORM's CARD OF 'keyholelaw26.InferNobody'. -/
def inferNobodyUptoCard : Claim7 := { stood := { row := inferNobodyUptoRow, standIns := [], harness := (true, "489df007e70f8b0c1069a0daaba48d5ff42feb72040c752e77cf01acf797bec7"), looks := true }, kinds := [], alts := [], laidByText := true, laidKinds := [.data, .pinned], laidTests := true, laidLooks := .later }
def InferNobodyUptoCardSaid : Prop := Claim7.holds Tryz.pinned (.plain (OpenSpec.upto inferNobodySpec)) inferNobodyUptoCard
end Rows
end Go.Proofs.YtmhljaeogphgoaaGreatDoor
