/-
  DERIVED. GIVEN WITH THE SEED: THE CARDS: each row of YtphgabghcedphaaGreatDoorRows.lean that lists a variable, with what it lists TIED to the program's text (the seventh form; the later family's looks); each row that meets fmt, with fmt's text TOLD by the authors' own Lean function (tested against real Go, not proved from fmt's source: count such statements apart). THE CARD IS WHAT COUNTS. Prove the row's statement (the work); the ties are given (YtphgabghcedphaaGreatDoorTie.lean); close each card by the builder's one call (the guide's Derived/Test/ToyasCard.lean, 'card_holds'). Laid BY PROGRAM, IN A SANDBOX (cutbox-door.mjs). By AI agents, Wed Nov 11 2026. No macro, syntax, notation, axiom, sorry.
-/
import Derived.Test.YtphgabghcedphaaGreatDoorRows
import GoSem.ClaimSeven
namespace Go.Proofs.YtphgabghcedphaaGreatDoor
namespace Rows

/-- THE TIED CARD OF 'isochronelaw18.RenameMoves'. -/
def renameMovesCard : Claim7 := { stood := { row := renameMovesRow, standIns := [], harness := (true, "397c81242406fbb61333c887e4f3777fc5f2d2af86a23133e24e3d9fdb3e96f1"), looks := false }, kinds := [], alts := [], laidByText := true, laidKinds := [.data, .data, .data], laidTests := true, laidLooks := .later }
def RenameMovesCardSaid : Prop := Claim7.holds Tryz.pinned (.plain (OpenSpec.ofChange renameMovesSpec)) renameMovesCard

/-- THE SECOND FORM's CARD OF 'isochronelaw18.RenameMoves'. -/
def renameMovesUptoCard : Claim7 := { stood := { row := renameMovesUptoRow, standIns := [], harness := (true, "397c81242406fbb61333c887e4f3777fc5f2d2af86a23133e24e3d9fdb3e96f1"), looks := false }, kinds := [], alts := [], laidByText := true, laidKinds := [.data, .data, .data], laidTests := true, laidLooks := .later }
def RenameMovesUptoCardSaid : Prop := Claim7.holds Tryz.pinned (.plain (OpenSpec.upto renameMovesSpec)) renameMovesUptoCard
end Rows
end Go.Proofs.YtphgabghcedphaaGreatDoor
