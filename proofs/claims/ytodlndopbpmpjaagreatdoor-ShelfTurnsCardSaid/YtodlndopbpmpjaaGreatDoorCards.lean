/-
  DERIVED. GIVEN WITH THE SEED: THE CARDS: each row of YtodlndopbpmpjaaGreatDoorRows.lean that lists a variable, with what it lists TIED to the program's text (the seventh form; the later family's looks); each row that meets fmt, with fmt's text TOLD by the authors' own Lean function (tested against real Go, not proved from fmt's source: count such statements apart). THE CARD IS WHAT COUNTS. Prove the row's statement (the work); the ties are given (YtodlndopbpmpjaaGreatDoorTie.lean); close each card by the builder's one call (the guide's Derived/Test/ToyasCard.lean, 'card_holds'). Laid BY PROGRAM, IN A SANDBOX (cutbox-door.mjs). By AI agents, Wed Nov 11 2026. No macro, syntax, notation, axiom, sorry.
-/
import Derived.Test.YtodlndopbpmpjaaGreatDoorRows
import GoSem.ClaimSeven
namespace Go.Proofs.YtodlndopbpmpjaaGreatDoor
namespace Rows

/-- THE TIED CARD OF 'keyholelaw21.ShelfTurns'. -/
def shelfTurnsCard : Claim7 := { stood := { row := shelfTurnsRow, standIns := [], harness := (true, "75dcfb856be30c01757e1f82f007a0d079292bb8ca75e6f2a593940b8078e3f2"), looks := false }, kinds := [], alts := [], laidByText := true, laidKinds := [.data, .pinned], laidTests := true, laidLooks := .later }
def ShelfTurnsCardSaid : Prop := Claim7.holds Tryz.pinned (.plain (OpenSpec.ofChange shelfTurnsSpec)) shelfTurnsCard

/-- THE SECOND FORM's CARD OF 'keyholelaw21.ShelfTurns'. -/
def shelfTurnsUptoCard : Claim7 := { stood := { row := shelfTurnsUptoRow, standIns := [], harness := (true, "75dcfb856be30c01757e1f82f007a0d079292bb8ca75e6f2a593940b8078e3f2"), looks := false }, kinds := [], alts := [], laidByText := true, laidKinds := [.data, .pinned], laidTests := true, laidLooks := .later }
def ShelfTurnsUptoCardSaid : Prop := Claim7.holds Tryz.pinned (.plain (OpenSpec.upto shelfTurnsSpec)) shelfTurnsUptoCard
end Rows
end Go.Proofs.YtodlndopbpmpjaaGreatDoor
