/-
  NARROWER THAN 'FOR EVERY INPUT', by the rows' own cells (each row's printed sentence says how): TextPrints: loops.
  DERIVED. THE GIVEN ROWS OF THIS SEAT. 3 by the template 'for every input the law returns true; each argument reads behind the call as it read before'; 0 by the template 'total and deterministic' (their statements: YtemjeommnpocnaaGreatTotals.lean).
  GIVEN WITH THE SEED: the statements are not yours to turn. If you find one false, say at which input.
  Laid BY PROGRAM, IN A SANDBOX (cutbox-rows.mjs): the forced cells as the released guide's own fill.sh prints them over the translation 1fcf12854ded5728… (all of the seat's roots in one cut). By AI agents, Wed Nov 11 2026. No macro, syntax, notation, axiom, sorry.
-/
import Derived.Test.YtemjeommnpocnaaGreatChecked
import GoSem.Claim
import GoSem.ClaimJoined
import GoSem.ClaimMapViews
import Derived.JoinedTies
import Derived.KernelRfl
namespace Go.Proofs.YtemjeommnpocnaaGreat
/- THE CELL 'sum', in the pinned program and in every row, IS THE sha256 OF THE DUMP (.gsa) THAT YtemjeommnpocnaaGreatProg.lean LOADS. Nothing in Lean hashes anything: it is a label: what it is worth is what the hold of that sum in a sandbox is worth. -/
noncomputable def Tryz.pinned : Pinned := { name := "ytemjeommnpocnaagreat", sum := "1fcf12854ded5728def1c4f16645c606c66b5bd95291ae3da81f200170e49600", checked := Tryz.checked }
namespace Rows
def none {H : Type} : Left H := { results := [], args := [] }

/-- 'isochronelaw09.TextPrints': WHATEVER THE INPUT: true; the input reads as it did. -/
def textPrintsSpec : ChangeSpec := { name := "textPrints", fn := fun _ => fun
  | [d] => { results := [.lit (.bool true)], args := [d] }
  | _ => none }
def textPrintsRow : OpenClaim := { program := "ytemjeommnpocnaagreat", sum := "1fcf12854ded5728def1c4f16645c606c66b5bd95291ae3da81f200170e49600", func := "isochrone/isochronelaw09.TextPrints", spec := "textPrints", unfollowed := true, recurses := true, loops := true, apart := false }
def TextPrintsSaid : Prop := textPrintsRow.holds Tryz.pinned (OpenSpec.ofChange textPrintsSpec)

/-- ITS FALSE NEIGHBOUR: 'it returns false'. Refute it at one input. -/
def textPrintsWrong : ChangeSpec := { name := "textPrints", fn := fun _ => fun
  | [d] => { results := [.lit (.bool false)], args := [d] }
  | _ => none }
def TextPrintsWrongFalsely : Prop := textPrintsRow.holds Tryz.pinned (OpenSpec.ofChange textPrintsWrong)

/-- 'isochronelaw09.TextParses': WHATEVER THE INPUT: true; the input reads as it did. -/
def textParsesSpec : ChangeSpec := { name := "textParses", fn := fun _ => fun
  | [d1, d2] => { results := [.lit (.bool true)], args := [d1, d2] }
  | _ => none }
def textParsesRow : OpenClaim := { program := "ytemjeommnpocnaagreat", sum := "1fcf12854ded5728def1c4f16645c606c66b5bd95291ae3da81f200170e49600", func := "isochrone/isochronelaw09.TextParses", spec := "textParses", unfollowed := true, recurses := true, apart := false }
def TextParsesSaid : Prop := textParsesRow.holds Tryz.pinned (OpenSpec.ofChange textParsesSpec)

/-- ITS FALSE NEIGHBOUR: 'it returns false'. Refute it at one input. -/
def textParsesWrong : ChangeSpec := { name := "textParses", fn := fun _ => fun
  | [d1, d2] => { results := [.lit (.bool false)], args := [d1, d2] }
  | _ => none }
def TextParsesWrongFalsely : Prop := textParsesRow.holds Tryz.pinned (OpenSpec.ofChange textParsesWrong)

/-- 'isochronelaw09.TextCleans': WHATEVER THE INPUT: true; the input reads as it did. -/
def textCleansSpec : ChangeSpec := { name := "textCleans", fn := fun _ => fun
  | [d1, d2] => { results := [.lit (.bool true)], args := [d1, d2] }
  | _ => none }
def textCleansRow : OpenClaim := { program := "ytemjeommnpocnaagreat", sum := "1fcf12854ded5728def1c4f16645c606c66b5bd95291ae3da81f200170e49600", func := "isochrone/isochronelaw09.TextCleans", spec := "textCleans", unfollowed := true, recurses := true, apart := false }
def TextCleansSaid : Prop := textCleansRow.holds Tryz.pinned (OpenSpec.ofChange textCleansSpec)

/-- ITS FALSE NEIGHBOUR: 'it returns false'. Refute it at one input. -/
def textCleansWrong : ChangeSpec := { name := "textCleans", fn := fun _ => fun
  | [d1, d2] => { results := [.lit (.bool false)], args := [d1, d2] }
  | _ => none }
def TextCleansWrongFalsely : Prop := textCleansRow.holds Tryz.pinned (OpenSpec.ofChange textCleansWrong)

/- THE SECOND FORM. 'bulk': how many values and letters a reading holds, each counted each time it is reached (what is shared counts as often as it is met; a slice's spare places count too). A statement '..UptoSaid' is the law's where the arguments, and the package variables that the reading takes, are together of bulk at most 1048576: NARROWER than '..Said'. Prove '..Said' where nothing that the law and all that it calls make is longer than what came in: it says more and counts as full. Else prove '..UptoSaid'. A law counts once. -/
mutual
def uptoBulk {H : Type} : DataW H → Nat
  | .lit (.string bytes) => bytes.length + 1
  | .lit _ => 1
  | .nil => 1
  | .ptr d => uptoBulk d + 1
  | .slice elems spare => uptoBulkAll elems + uptoBulkAll spare + 1
  | .agg parts => uptoBulkAll parts + 1
  | .iface _ d => uptoBulk d + 1
  | .map entries => uptoBulkEntries entries + 1
  | .held _ => 1
def uptoBulkAll {H : Type} : List (DataW H) → Nat
  | [] => 0
  | d :: r => uptoBulk d + uptoBulkAll r
def uptoBulkEntries {H : Type} : List (Lit × DataW H) → Nat
  | [] => 0
  | x :: r => uptoBulkEntry x + uptoBulkEntries r
def uptoBulkEntry {H : Type} : Lit × DataW H → Nat
  | (.string bytes, d) => bytes.length + uptoBulk d + 1
  | (_, d) => uptoBulk d + 1
 end
def uptoSmall : (H : Type) → List (DataW H) → Bool := fun _ ds => decide (uptoBulkAll ds ≤ 1048576)
def OpenSpec.upto (s : _root_.Go.ChangeSpec) : _root_.Go.OpenSpec := { _root_.Go.OpenSpec.ofChange s with cond := some uptoSmall }

/-- 'isochronelaw09.TextPrints', WHERE WHAT IT READS IS OF BULK AT MOST 1048576: true; the input reads as it did. -/
def textPrintsUptoRow : OpenClaim := { program := "ytemjeommnpocnaagreat", sum := "1fcf12854ded5728def1c4f16645c606c66b5bd95291ae3da81f200170e49600", func := "isochrone/isochronelaw09.TextPrints", spec := "textPrints", unfollowed := true, recurses := true, loops := true, apart := false, narrowed := true }
def TextPrintsUptoSaid : Prop := textPrintsUptoRow.holds Tryz.pinned (OpenSpec.upto textPrintsSpec)

/-- 'isochronelaw09.TextParses', WHERE WHAT IT READS IS OF BULK AT MOST 1048576: true; the input reads as it did. -/
def textParsesUptoRow : OpenClaim := { program := "ytemjeommnpocnaagreat", sum := "1fcf12854ded5728def1c4f16645c606c66b5bd95291ae3da81f200170e49600", func := "isochrone/isochronelaw09.TextParses", spec := "textParses", unfollowed := true, recurses := true, apart := false, narrowed := true }
def TextParsesUptoSaid : Prop := textParsesUptoRow.holds Tryz.pinned (OpenSpec.upto textParsesSpec)

/-- 'isochronelaw09.TextCleans', WHERE WHAT IT READS IS OF BULK AT MOST 1048576: true; the input reads as it did. -/
def textCleansUptoRow : OpenClaim := { program := "ytemjeommnpocnaagreat", sum := "1fcf12854ded5728def1c4f16645c606c66b5bd95291ae3da81f200170e49600", func := "isochrone/isochronelaw09.TextCleans", spec := "textCleans", unfollowed := true, recurses := true, apart := false, narrowed := true }
def TextCleansUptoSaid : Prop := textCleansUptoRow.holds Tryz.pinned (OpenSpec.upto textCleansSpec)

end Rows
end Go.Proofs.YtemjeommnpocnaaGreat
