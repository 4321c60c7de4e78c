/-
  DERIVED. GIVEN WITH THE SEED: THE CARDS: each row of YtafipfdohicfbaaGreatDoorRows.lean that lists a variable, with what it lists TIED to the program's text (the seventh form; the later family's looks); each row that meets fmt, with fmt's text TOLD by the authors' own Lean function (tested against real Go, not proved from fmt's source: count such statements apart). THE CARD IS WHAT COUNTS. Prove the row's statement (the work); the ties are given (YtafipfdohicfbaaGreatDoorTie.lean); close each card by the builder's one call (the guide's Derived/Test/ToyasCard.lean, 'card_holds'). Laid BY PROGRAM, IN A SANDBOX (cutbox-door.mjs). By AI agents, Wed Nov 11 2026. No macro, syntax, notation, axiom, sorry.
-/
import Derived.Test.YtafipfdohicfbaaGreatDoorRows
import GoSem.ClaimSeven
namespace Go.Proofs.YtafipfdohicfbaaGreatDoor
namespace Rows

/-- THE TIED CARD OF 'isochronelaw20.ProofTaut'. -/
def proofTautCard : Claim7 := { stood := { row := proofTautRow, standIns := [], harness := (true, "60833b459fa7bb51f5f57e1531775e6b734b36487743087b95f9d8948f3ec2ba"), looks := true }, kinds := [], alts := [], laidByText := true, laidKinds := [.data, .data, .data], laidTests := true, laidLooks := .later }
def ProofTautCardSaid : Prop := Claim7.holds Tryz.pinned (.plain (OpenSpec.ofChange proofTautSpec)) proofTautCard

/-- THE SECOND FORM's CARD OF 'isochronelaw20.ProofTaut'. -/
def proofTautUptoCard : Claim7 := { stood := { row := proofTautUptoRow, standIns := [], harness := (true, "60833b459fa7bb51f5f57e1531775e6b734b36487743087b95f9d8948f3ec2ba"), looks := true }, kinds := [], alts := [], laidByText := true, laidKinds := [.data, .data, .data], laidTests := true, laidLooks := .later }
def ProofTautUptoCardSaid : Prop := Claim7.holds Tryz.pinned (.plain (OpenSpec.upto proofTautSpec)) proofTautUptoCard
end Rows
end Go.Proofs.YtafipfdohicfbaaGreatDoor
