/-
  NARROWER THAN 'FOR EVERY INPUT', by the rows' own cells (each row's printed sentence says how): DiffOf: loops · DiffPush: loops · DiffLie: loops.
  DERIVED. THE GIVEN ROWS OF THIS SEAT. 3 by the template 'for every input the law returns true; each argument reads behind the call as it read before'; 0 by the template 'total and deterministic' (their statements: YtphmckfokdkecaaGreatTotals.lean).
  GIVEN WITH THE SEED: the statements are not yours to turn. If you find one false, say at which input.
  Laid BY PROGRAM, IN A SANDBOX (cutbox-rows.mjs): the forced cells as the released guide's own fill.sh prints them over the translation ac9b5c6d4ee9b34c… (all of the seat's roots in one cut). By AI agents, Wed Nov 11 2026. No macro, syntax, notation, axiom, sorry.
-/
import Derived.Test.YtphmckfokdkecaaGreatChecked
import GoSem.Claim
import GoSem.ClaimJoined
import GoSem.ClaimMapViews
import Derived.JoinedTies
import Derived.KernelRfl
namespace Go.Proofs.YtphmckfokdkecaaGreat
/- THE CELL 'sum', in the pinned program and in every row, IS THE sha256 OF THE DUMP (.gsa) THAT YtphmckfokdkecaaGreatProg.lean LOADS. Nothing in Lean hashes anything: it is a label: what it is worth is what the hold of that sum in a sandbox is worth. -/
noncomputable def Tryz.pinned : Pinned := { name := "ytphmckfokdkecaagreat", sum := "ac9b5c6d4ee9b34c6afc23aca1a6cb964781bd0412d4b0531cc8a007429006c3", checked := Tryz.checked }
namespace Rows
def none {H : Type} : Left H := { results := [], args := [] }

/-- 'isochronelaw13.DiffOf': WHATEVER THE INPUT: true; the input reads as it did. -/
def diffOfSpec : ChangeSpec := { name := "diffOf", fn := fun _ => fun
  | [d] => { results := [.lit (.bool true)], args := [d] }
  | _ => none }
def diffOfRow : OpenClaim := { program := "ytphmckfokdkecaagreat", sum := "ac9b5c6d4ee9b34c6afc23aca1a6cb964781bd0412d4b0531cc8a007429006c3", func := "isochrone/isochronelaw13.DiffOf", spec := "diffOf", inPlace := ["internal/reflectlite.ValueOf", "internal/reflectlite.Swapper", "(internal/reflectlite.Value).Len"], unfollowed := true, recurses := true, loops := true, apart := false }
def DiffOfSaid : Prop := diffOfRow.holds Tryz.pinned (OpenSpec.ofChange diffOfSpec)

/-- ITS FALSE NEIGHBOUR: 'it returns false'. Refute it at one input. -/
def diffOfWrong : ChangeSpec := { name := "diffOf", fn := fun _ => fun
  | [d] => { results := [.lit (.bool false)], args := [d] }
  | _ => none }
def DiffOfWrongFalsely : Prop := diffOfRow.holds Tryz.pinned (OpenSpec.ofChange diffOfWrong)

/-- 'isochronelaw13.DiffPush': WHATEVER THE INPUT: true; the input reads as it did. -/
def diffPushSpec : ChangeSpec := { name := "diffPush", fn := fun _ => fun
  | [d] => { results := [.lit (.bool true)], args := [d] }
  | _ => none }
def diffPushRow : OpenClaim := { program := "ytphmckfokdkecaagreat", sum := "ac9b5c6d4ee9b34c6afc23aca1a6cb964781bd0412d4b0531cc8a007429006c3", func := "isochrone/isochronelaw13.DiffPush", spec := "diffPush", inPlace := ["internal/reflectlite.ValueOf", "internal/reflectlite.Swapper", "(internal/reflectlite.Value).Len"], unfollowed := true, recurses := true, loops := true, apart := false }
def DiffPushSaid : Prop := diffPushRow.holds Tryz.pinned (OpenSpec.ofChange diffPushSpec)

/-- ITS FALSE NEIGHBOUR: 'it returns false'. Refute it at one input. -/
def diffPushWrong : ChangeSpec := { name := "diffPush", fn := fun _ => fun
  | [d] => { results := [.lit (.bool false)], args := [d] }
  | _ => none }
def DiffPushWrongFalsely : Prop := diffPushRow.holds Tryz.pinned (OpenSpec.ofChange diffPushWrong)

/-- 'isochronelaw13.DiffLie': WHATEVER THE INPUT: true; the input reads as it did. -/
def diffLieSpec : ChangeSpec := { name := "diffLie", fn := fun _ => fun
  | [d1, d2] => { results := [.lit (.bool true)], args := [d1, d2] }
  | _ => none }
def diffLieRow : OpenClaim := { program := "ytphmckfokdkecaagreat", sum := "ac9b5c6d4ee9b34c6afc23aca1a6cb964781bd0412d4b0531cc8a007429006c3", func := "isochrone/isochronelaw13.DiffLie", spec := "diffLie", inPlace := ["internal/reflectlite.ValueOf", "internal/reflectlite.Swapper", "(internal/reflectlite.Value).Len"], unfollowed := true, recurses := true, loops := true, apart := false }
def DiffLieSaid : Prop := diffLieRow.holds Tryz.pinned (OpenSpec.ofChange diffLieSpec)

/-- ITS FALSE NEIGHBOUR: 'it returns false'. Refute it at one input. -/
def diffLieWrong : ChangeSpec := { name := "diffLie", fn := fun _ => fun
  | [d1, d2] => { results := [.lit (.bool false)], args := [d1, d2] }
  | _ => none }
def DiffLieWrongFalsely : Prop := diffLieRow.holds Tryz.pinned (OpenSpec.ofChange diffLieWrong)

/- THE SECOND FORM. 'bulk': how many values and letters a reading holds, each counted each time it is reached (what is shared counts as often as it is met; a slice's spare places count too). A statement '..UptoSaid' is the law's where the arguments, and the package variables that the reading takes, are together of bulk at most 1048576: NARROWER than '..Said'. Prove '..Said' where nothing that the law and all that it calls make is longer than what came in: it says more and counts as full. Else prove '..UptoSaid'. A law counts once. -/
mutual
def uptoBulk {H : Type} : DataW H → Nat
  | .lit (.string bytes) => bytes.length + 1
  | .lit _ => 1
  | .nil => 1
  | .ptr d => uptoBulk d + 1
  | .slice elems spare => uptoBulkAll elems + uptoBulkAll spare + 1
  | .agg parts => uptoBulkAll parts + 1
  | .iface _ d => uptoBulk d + 1
  | .map entries => uptoBulkEntries entries + 1
  | .held _ => 1
def uptoBulkAll {H : Type} : List (DataW H) → Nat
  | [] => 0
  | d :: r => uptoBulk d + uptoBulkAll r
def uptoBulkEntries {H : Type} : List (Lit × DataW H) → Nat
  | [] => 0
  | x :: r => uptoBulkEntry x + uptoBulkEntries r
def uptoBulkEntry {H : Type} : Lit × DataW H → Nat
  | (.string bytes, d) => bytes.length + uptoBulk d + 1
  | (_, d) => uptoBulk d + 1
 end
def uptoSmall : (H : Type) → List (DataW H) → Bool := fun _ ds => decide (uptoBulkAll ds ≤ 1048576)
def OpenSpec.upto (s : _root_.Go.ChangeSpec) : _root_.Go.OpenSpec := { _root_.Go.OpenSpec.ofChange s with cond := some uptoSmall }

/-- 'isochronelaw13.DiffOf', WHERE WHAT IT READS IS OF BULK AT MOST 1048576: true; the input reads as it did. -/
def diffOfUptoRow : OpenClaim := { program := "ytphmckfokdkecaagreat", sum := "ac9b5c6d4ee9b34c6afc23aca1a6cb964781bd0412d4b0531cc8a007429006c3", func := "isochrone/isochronelaw13.DiffOf", spec := "diffOf", inPlace := ["internal/reflectlite.ValueOf", "internal/reflectlite.Swapper", "(internal/reflectlite.Value).Len"], unfollowed := true, recurses := true, loops := true, apart := false, narrowed := true }
def DiffOfUptoSaid : Prop := diffOfUptoRow.holds Tryz.pinned (OpenSpec.upto diffOfSpec)

/-- 'isochronelaw13.DiffPush', WHERE WHAT IT READS IS OF BULK AT MOST 1048576: true; the input reads as it did. -/
def diffPushUptoRow : OpenClaim := { program := "ytphmckfokdkecaagreat", sum := "ac9b5c6d4ee9b34c6afc23aca1a6cb964781bd0412d4b0531cc8a007429006c3", func := "isochrone/isochronelaw13.DiffPush", spec := "diffPush", inPlace := ["internal/reflectlite.ValueOf", "internal/reflectlite.Swapper", "(internal/reflectlite.Value).Len"], unfollowed := true, recurses := true, loops := true, apart := false, narrowed := true }
def DiffPushUptoSaid : Prop := diffPushUptoRow.holds Tryz.pinned (OpenSpec.upto diffPushSpec)

/-- 'isochronelaw13.DiffLie', WHERE WHAT IT READS IS OF BULK AT MOST 1048576: true; the input reads as it did. -/
def diffLieUptoRow : OpenClaim := { program := "ytphmckfokdkecaagreat", sum := "ac9b5c6d4ee9b34c6afc23aca1a6cb964781bd0412d4b0531cc8a007429006c3", func := "isochrone/isochronelaw13.DiffLie", spec := "diffLie", inPlace := ["internal/reflectlite.ValueOf", "internal/reflectlite.Swapper", "(internal/reflectlite.Value).Len"], unfollowed := true, recurses := true, loops := true, apart := false, narrowed := true }
def DiffLieUptoSaid : Prop := diffLieUptoRow.holds Tryz.pinned (OpenSpec.upto diffLieSpec)

end Rows
end Go.Proofs.YtphmckfokdkecaaGreat
