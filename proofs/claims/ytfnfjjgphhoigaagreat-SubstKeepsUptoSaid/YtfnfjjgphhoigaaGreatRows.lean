/-
  NARROWER THAN 'FOR EVERY INPUT', by the rows' own cells (each row's printed sentence says how): SubstKeeps: loops · SubstMatches: loops.
  DERIVED. THE GIVEN ROWS OF THIS SEAT. 2 by the template 'for every input the law returns true; each argument reads behind the call as it read before'; 0 by the template 'total and deterministic' (their statements: YtfnfjjgphhoigaaGreatTotals.lean).
  GIVEN WITH THE SEED: the statements are not yours to turn. If you find one false, say at which input.
  Laid BY PROGRAM, IN A SANDBOX (cutbox-rows.mjs): the forced cells as the released guide's own fill.sh prints them over the translation 5670366b26425944… (all of the seat's roots in one cut). By AI agents, Wed Nov 11 2026. No macro, syntax, notation, axiom, sorry.
-/
import Derived.Test.YtfnfjjgphhoigaaGreatChecked
import GoSem.Claim
import GoSem.ClaimJoined
import GoSem.ClaimMapViews
import Derived.JoinedTies
import Derived.KernelRfl
namespace Go.Proofs.YtfnfjjgphhoigaaGreat
/- THE CELL 'sum', in the pinned program and in every row, IS THE sha256 OF THE DUMP (.gsa) THAT YtfnfjjgphhoigaaGreatProg.lean LOADS. Nothing in Lean hashes anything: it is a label: what it is worth is what the hold of that sum in a sandbox is worth. -/
noncomputable def Tryz.pinned : Pinned := { name := "ytfnfjjgphhoigaagreat", sum := "5670366b2642594439f2cbc473a56ffd786e00331e9ce31ad3d36dd8cf46eb22", checked := Tryz.checked }
namespace Rows
def none {H : Type} : Left H := { results := [], args := [] }

/-- 'isochronelaw17.SubstKeeps': WHATEVER THE INPUT: true; the input reads as it did. -/
def substKeepsSpec : ChangeSpec := { name := "substKeeps", fn := fun _ => fun
  | [d1, d2] => { results := [.lit (.bool true)], args := [d1, d2] }
  | _ => none }
def substKeepsRow : OpenClaim := { program := "ytfnfjjgphhoigaagreat", sum := "5670366b2642594439f2cbc473a56ffd786e00331e9ce31ad3d36dd8cf46eb22", func := "isochrone/isochronelaw17.SubstKeeps", spec := "substKeeps", unfollowed := true, recurses := true, loops := true, apart := false }
def SubstKeepsSaid : Prop := substKeepsRow.holds Tryz.pinned (OpenSpec.ofChange substKeepsSpec)

/-- ITS FALSE NEIGHBOUR: 'it returns false'. Refute it at one input. -/
def substKeepsWrong : ChangeSpec := { name := "substKeeps", fn := fun _ => fun
  | [d1, d2] => { results := [.lit (.bool false)], args := [d1, d2] }
  | _ => none }
def SubstKeepsWrongFalsely : Prop := substKeepsRow.holds Tryz.pinned (OpenSpec.ofChange substKeepsWrong)

/-- 'isochronelaw17.SubstMatches': WHATEVER THE INPUT: true; the input reads as it did. -/
def substMatchesSpec : ChangeSpec := { name := "substMatches", fn := fun _ => fun
  | [d1, d2] => { results := [.lit (.bool true)], args := [d1, d2] }
  | _ => none }
def substMatchesRow : OpenClaim := { program := "ytfnfjjgphhoigaagreat", sum := "5670366b2642594439f2cbc473a56ffd786e00331e9ce31ad3d36dd8cf46eb22", func := "isochrone/isochronelaw17.SubstMatches", spec := "substMatches", inPlace := ["internal/reflectlite.ValueOf", "internal/reflectlite.Swapper", "(internal/reflectlite.Value).Len"], unfollowed := true, recurses := true, loops := true, apart := false }
def SubstMatchesSaid : Prop := substMatchesRow.holds Tryz.pinned (OpenSpec.ofChange substMatchesSpec)

/-- ITS FALSE NEIGHBOUR: 'it returns false'. Refute it at one input. -/
def substMatchesWrong : ChangeSpec := { name := "substMatches", fn := fun _ => fun
  | [d1, d2] => { results := [.lit (.bool false)], args := [d1, d2] }
  | _ => none }
def SubstMatchesWrongFalsely : Prop := substMatchesRow.holds Tryz.pinned (OpenSpec.ofChange substMatchesWrong)

/- THE SECOND FORM. 'bulk': how many values and letters a reading holds, each counted each time it is reached (what is shared counts as often as it is met; a slice's spare places count too). A statement '..UptoSaid' is the law's where the arguments, and the package variables that the reading takes, are together of bulk at most 1048576: NARROWER than '..Said'. Prove '..Said' where nothing that the law and all that it calls make is longer than what came in: it says more and counts as full. Else prove '..UptoSaid'. A law counts once. -/
mutual
def uptoBulk {H : Type} : DataW H → Nat
  | .lit (.string bytes) => bytes.length + 1
  | .lit _ => 1
  | .nil => 1
  | .ptr d => uptoBulk d + 1
  | .slice elems spare => uptoBulkAll elems + uptoBulkAll spare + 1
  | .agg parts => uptoBulkAll parts + 1
  | .iface _ d => uptoBulk d + 1
  | .map entries => uptoBulkEntries entries + 1
  | .held _ => 1
def uptoBulkAll {H : Type} : List (DataW H) → Nat
  | [] => 0
  | d :: r => uptoBulk d + uptoBulkAll r
def uptoBulkEntries {H : Type} : List (Lit × DataW H) → Nat
  | [] => 0
  | x :: r => uptoBulkEntry x + uptoBulkEntries r
def uptoBulkEntry {H : Type} : Lit × DataW H → Nat
  | (.string bytes, d) => bytes.length + uptoBulk d + 1
  | (_, d) => uptoBulk d + 1
 end
def uptoSmall : (H : Type) → List (DataW H) → Bool := fun _ ds => decide (uptoBulkAll ds ≤ 1048576)
def OpenSpec.upto (s : _root_.Go.ChangeSpec) : _root_.Go.OpenSpec := { _root_.Go.OpenSpec.ofChange s with cond := some uptoSmall }

/-- 'isochronelaw17.SubstKeeps', WHERE WHAT IT READS IS OF BULK AT MOST 1048576: true; the input reads as it did. -/
def substKeepsUptoRow : OpenClaim := { program := "ytfnfjjgphhoigaagreat", sum := "5670366b2642594439f2cbc473a56ffd786e00331e9ce31ad3d36dd8cf46eb22", func := "isochrone/isochronelaw17.SubstKeeps", spec := "substKeeps", unfollowed := true, recurses := true, loops := true, apart := false, narrowed := true }
def SubstKeepsUptoSaid : Prop := substKeepsUptoRow.holds Tryz.pinned (OpenSpec.upto substKeepsSpec)

/-- 'isochronelaw17.SubstMatches', WHERE WHAT IT READS IS OF BULK AT MOST 1048576: true; the input reads as it did. -/
def substMatchesUptoRow : OpenClaim := { program := "ytfnfjjgphhoigaagreat", sum := "5670366b2642594439f2cbc473a56ffd786e00331e9ce31ad3d36dd8cf46eb22", func := "isochrone/isochronelaw17.SubstMatches", spec := "substMatches", inPlace := ["internal/reflectlite.ValueOf", "internal/reflectlite.Swapper", "(internal/reflectlite.Value).Len"], unfollowed := true, recurses := true, loops := true, apart := false, narrowed := true }
def SubstMatchesUptoSaid : Prop := substMatchesUptoRow.holds Tryz.pinned (OpenSpec.upto substMatchesSpec)

end Rows
end Go.Proofs.YtfnfjjgphhoigaaGreat
