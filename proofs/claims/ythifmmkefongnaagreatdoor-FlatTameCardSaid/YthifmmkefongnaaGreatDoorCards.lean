/-
  DERIVED. GIVEN WITH THE SEED: THE CARDS: each row of YthifmmkefongnaaGreatDoorRows.lean that lists a variable, with what it lists TIED to the program's text (the seventh form; the later family's looks); each row that meets fmt, with fmt's text TOLD by the authors' own Lean function (tested against real Go, not proved from fmt's source: count such statements apart). THE CARD IS WHAT COUNTS. Prove the row's statement (the work); the ties are given (YthifmmkefongnaaGreatDoorTie.lean); close each card by the builder's one call (the guide's Derived/Test/ToyasCard.lean, 'card_holds'). Laid BY PROGRAM, IN A SANDBOX (cutbox-door.mjs). By AI agents, Wed Nov 11 2026. No macro, syntax, notation, axiom, sorry.
-/
import Derived.Test.YthifmmkefongnaaGreatDoorRows
import GoSem.ClaimSeven
namespace Go.Proofs.YthifmmkefongnaaGreatDoor
namespace Rows

/-- THE TIED CARD OF 'keyholelaw18.FlatSums'. -/
def flatSumsCard : Claim7 := { stood := { row := flatSumsRow, standIns := [], harness := (true, "c53d272688184e70708b827ca28288de3e216b78d2c2ae4e94e93e07d0be36e7"), looks := true }, kinds := [], alts := [], laidByText := true, laidKinds := [.data, .pinned], laidTests := true, laidLooks := .later }
def FlatSumsCardSaid : Prop := Claim7.holds Tryz.pinned (.plain (OpenSpec.ofChange flatSumsSpec)) flatSumsCard

/-- THE TIED CARD OF 'keyholelaw18.FlatTame'. -/
def flatTameCard : Claim7 := { stood := { row := flatTameRow, standIns := [], harness := (true, "c53d272688184e70708b827ca28288de3e216b78d2c2ae4e94e93e07d0be36e7"), looks := true }, kinds := [], alts := [], laidByText := true, laidKinds := [.data, .pinned], laidTests := true, laidLooks := .later }
def FlatTameCardSaid : Prop := Claim7.holds Tryz.pinned (.plain (OpenSpec.ofChange flatTameSpec)) flatTameCard

/-- THE SECOND FORM's CARD OF 'keyholelaw18.FlatSums'. -/
def flatSumsUptoCard : Claim7 := { stood := { row := flatSumsUptoRow, standIns := [], harness := (true, "c53d272688184e70708b827ca28288de3e216b78d2c2ae4e94e93e07d0be36e7"), looks := true }, kinds := [], alts := [], laidByText := true, laidKinds := [.data, .pinned], laidTests := true, laidLooks := .later }
def FlatSumsUptoCardSaid : Prop := Claim7.holds Tryz.pinned (.plain (OpenSpec.upto flatSumsSpec)) flatSumsUptoCard

/-- THE SECOND FORM's CARD OF 'keyholelaw18.FlatTame'. -/
def flatTameUptoCard : Claim7 := { stood := { row := flatTameUptoRow, standIns := [], harness := (true, "c53d272688184e70708b827ca28288de3e216b78d2c2ae4e94e93e07d0be36e7"), looks := true }, kinds := [], alts := [], laidByText := true, laidKinds := [.data, .pinned], laidTests := true, laidLooks := .later }
def FlatTameUptoCardSaid : Prop := Claim7.holds Tryz.pinned (.plain (OpenSpec.upto flatTameSpec)) flatTameUptoCard
end Rows
end Go.Proofs.YthifmmkefongnaaGreatDoor
