/-
  DERIVED. GIVEN WITH THE SEED: THE CARDS: each row of YtngmfimpaembnaaGreatDoorRows.lean that lists a variable, with what it lists TIED to the program's text (the seventh form; the later family's looks); each row that meets fmt, with fmt's text TOLD by the authors' own Lean function (tested against real Go, not proved from fmt's source: count such statements apart). THE CARD IS WHAT COUNTS. Prove the row's statement (the work); the ties are given (YtngmfimpaembnaaGreatDoorTie.lean); close each card by the builder's one call (the guide's Derived/Test/ToyasCard.lean, 'card_holds'). Laid BY PROGRAM, IN A SANDBOX (cutbox-door.mjs). By AI agents, Wed Nov 11 2026. No macro, syntax, notation, axiom, sorry.
-/
import Derived.Test.YtngmfimpaembnaaGreatDoorRows
import GoSem.ClaimSeven
namespace Go.Proofs.YtngmfimpaembnaaGreatDoor
namespace Rows

/-- THE TIED CARD OF 'isochronelaw18.RenameBound'. -/
def renameBoundCard : Claim7 := { stood := { row := renameBoundRow, standIns := [], harness := (true, "65593434ff565f1afed020442197cb06588db5867e9324dae0e181669f52a0b0"), looks := false }, kinds := [], alts := [], laidByText := true, laidKinds := [.data, .data, .data], laidTests := true, laidLooks := .later }
def RenameBoundCardSaid : Prop := Claim7.holds Tryz.pinned (.plain (OpenSpec.ofChange renameBoundSpec)) renameBoundCard

/-- THE TIED CARD OF 'isochronelaw18.RenameUniform'. -/
def renameUniformCard : Claim7 := { stood := { row := renameUniformRow, standIns := [], harness := (true, "65593434ff565f1afed020442197cb06588db5867e9324dae0e181669f52a0b0"), looks := false }, kinds := [], alts := [], laidByText := true, laidKinds := [.data, .data, .data], laidTests := true, laidLooks := .later }
def RenameUniformCardSaid : Prop := Claim7.holds Tryz.pinned (.plain (OpenSpec.ofChange renameUniformSpec)) renameUniformCard

/-- THE TIED CARD OF 'isochronelaw18.RenameSets'. -/
def renameSetsCard : Claim7 := { stood := { row := renameSetsRow, standIns := [], harness := (true, "65593434ff565f1afed020442197cb06588db5867e9324dae0e181669f52a0b0"), looks := false }, kinds := [], alts := [], laidByText := true, laidKinds := [.data, .data, .data], laidTests := true, laidLooks := .later }
def RenameSetsCardSaid : Prop := Claim7.holds Tryz.pinned (.plain (OpenSpec.ofChange renameSetsSpec)) renameSetsCard

/-- THE TIED CARD OF 'isochronelaw18.RenameFresh'. -/
def renameFreshCard : Claim7 := { stood := { row := renameFreshRow, standIns := [], harness := (true, "65593434ff565f1afed020442197cb06588db5867e9324dae0e181669f52a0b0"), looks := false }, kinds := [], alts := [], laidByText := true, laidKinds := [.data, .data, .data], laidTests := true, laidLooks := .later }
def RenameFreshCardSaid : Prop := Claim7.holds Tryz.pinned (.plain (OpenSpec.ofChange renameFreshSpec)) renameFreshCard

/-- THE SECOND FORM's CARD OF 'isochronelaw18.RenameBound'. -/
def renameBoundUptoCard : Claim7 := { stood := { row := renameBoundUptoRow, standIns := [], harness := (true, "65593434ff565f1afed020442197cb06588db5867e9324dae0e181669f52a0b0"), looks := false }, kinds := [], alts := [], laidByText := true, laidKinds := [.data, .data, .data], laidTests := true, laidLooks := .later }
def RenameBoundUptoCardSaid : Prop := Claim7.holds Tryz.pinned (.plain (OpenSpec.upto renameBoundSpec)) renameBoundUptoCard

/-- THE SECOND FORM's CARD OF 'isochronelaw18.RenameUniform'. -/
def renameUniformUptoCard : Claim7 := { stood := { row := renameUniformUptoRow, standIns := [], harness := (true, "65593434ff565f1afed020442197cb06588db5867e9324dae0e181669f52a0b0"), looks := false }, kinds := [], alts := [], laidByText := true, laidKinds := [.data, .data, .data], laidTests := true, laidLooks := .later }
def RenameUniformUptoCardSaid : Prop := Claim7.holds Tryz.pinned (.plain (OpenSpec.upto renameUniformSpec)) renameUniformUptoCard

/-- THE SECOND FORM's CARD OF 'isochronelaw18.RenameSets'. -/
def renameSetsUptoCard : Claim7 := { stood := { row := renameSetsUptoRow, standIns := [], harness := (true, "65593434ff565f1afed020442197cb06588db5867e9324dae0e181669f52a0b0"), looks := false }, kinds := [], alts := [], laidByText := true, laidKinds := [.data, .data, .data], laidTests := true, laidLooks := .later }
def RenameSetsUptoCardSaid : Prop := Claim7.holds Tryz.pinned (.plain (OpenSpec.upto renameSetsSpec)) renameSetsUptoCard

/-- THE SECOND FORM's CARD OF 'isochronelaw18.RenameFresh'. -/
def renameFreshUptoCard : Claim7 := { stood := { row := renameFreshUptoRow, standIns := [], harness := (true, "65593434ff565f1afed020442197cb06588db5867e9324dae0e181669f52a0b0"), looks := false }, kinds := [], alts := [], laidByText := true, laidKinds := [.data, .data, .data], laidTests := true, laidLooks := .later }
def RenameFreshUptoCardSaid : Prop := Claim7.holds Tryz.pinned (.plain (OpenSpec.upto renameFreshSpec)) renameFreshUptoCard
end Rows
end Go.Proofs.YtngmfimpaembnaaGreatDoor
