/-
  NARROWER THAN 'FOR EVERY INPUT', by the rows' own cells (each row's printed sentence says how): StaticBinds: loops · StaticPolarity: loops.
  DERIVED. THE GIVEN ROWS OF THIS SEAT. 4 by the template 'for every input the law returns true; each argument reads behind the call as it read before'; 0 by the template 'total and deterministic' (their statements: YtcgphoghmgeecaaTotals.lean).
  GIVEN WITH THE SEED: the statements are not yours to turn. If you find one false, say at which input.
  Laid BY PROGRAM, IN A SANDBOX (cutbox-rows.mjs): the forced cells as the released guide's own fill.sh prints them over the translation a85c6fd0ecbf177d… (all of the seat's roots in one cut). By AI agents, Wed Nov 11 2026. No macro, syntax, notation, axiom, sorry.
-/
import Derived.Test.YtcgphoghmgeecaaChecked
import GoSem.Claim
import GoSem.ClaimJoined
import GoSem.ClaimMapViews
import Derived.JoinedTies
import Derived.KernelRfl
namespace Go.Proofs.Ytcgphoghmgeecaa
/- THE CELL 'sum', in the pinned program and in every row, IS THE sha256 OF THE DUMP (.gsa) THAT YtcgphoghmgeecaaProg.lean LOADS. Nothing in Lean hashes anything: it is a label: what it is worth is what the hold of that sum in a sandbox is worth. -/
noncomputable def Try.pinned : Pinned := { name := "ytcgphoghmgeecaa", sum := "a85c6fd0ecbf177d370f2b9c83e1ecb3ddb9bbf2718a49e10613c190c126cfd7", checked := Try.checked }
namespace Rows
def none {H : Type} : Left H := { results := [], args := [] }

/-- 'isochronelaw10.StaticSets': WHATEVER THE INPUT: true; the input reads as it did. -/
def staticSetsSpec : ChangeSpec := { name := "staticSets", fn := fun _ => fun
  | [d1, d2, d3] => { results := [.lit (.bool true)], args := [d1, d2, d3] }
  | _ => none }
def staticSetsRow : OpenClaim := { program := "ytcgphoghmgeecaa", sum := "a85c6fd0ecbf177d370f2b9c83e1ecb3ddb9bbf2718a49e10613c190c126cfd7", func := "isochrone/isochronelaw10.StaticSets", spec := "staticSets", unfollowed := true, recurses := true, apart := false }
def StaticSetsSaid : Prop := staticSetsRow.holds Try.pinned (OpenSpec.ofChange staticSetsSpec)

/-- ITS FALSE NEIGHBOUR: 'it returns false'. Refute it at one input. -/
def staticSetsWrong : ChangeSpec := { name := "staticSets", fn := fun _ => fun
  | [d1, d2, d3] => { results := [.lit (.bool false)], args := [d1, d2, d3] }
  | _ => none }
def StaticSetsWrongFalsely : Prop := staticSetsRow.holds Try.pinned (OpenSpec.ofChange staticSetsWrong)

/-- 'isochronelaw10.StaticBoolean': WHATEVER THE INPUT: true; the input reads as it did. -/
def staticBooleanSpec : ChangeSpec := { name := "staticBoolean", fn := fun _ => fun
  | [d1, d2, d3, d4] => { results := [.lit (.bool true)], args := [d1, d2, d3, d4] }
  | _ => none }
def staticBooleanRow : OpenClaim := { program := "ytcgphoghmgeecaa", sum := "a85c6fd0ecbf177d370f2b9c83e1ecb3ddb9bbf2718a49e10613c190c126cfd7", func := "isochrone/isochronelaw10.StaticBoolean", spec := "staticBoolean", unfollowed := true, recurses := true, apart := false }
def StaticBooleanSaid : Prop := staticBooleanRow.holds Try.pinned (OpenSpec.ofChange staticBooleanSpec)

/-- ITS FALSE NEIGHBOUR: 'it returns false'. Refute it at one input. -/
def staticBooleanWrong : ChangeSpec := { name := "staticBoolean", fn := fun _ => fun
  | [d1, d2, d3, d4] => { results := [.lit (.bool false)], args := [d1, d2, d3, d4] }
  | _ => none }
def StaticBooleanWrongFalsely : Prop := staticBooleanRow.holds Try.pinned (OpenSpec.ofChange staticBooleanWrong)

/-- 'isochronelaw10.StaticBinds': WHATEVER THE INPUT: true; the input reads as it did. -/
def staticBindsSpec : ChangeSpec := { name := "staticBinds", fn := fun _ => fun
  | [d1, d2] => { results := [.lit (.bool true)], args := [d1, d2] }
  | _ => none }
def staticBindsRow : OpenClaim := { program := "ytcgphoghmgeecaa", sum := "a85c6fd0ecbf177d370f2b9c83e1ecb3ddb9bbf2718a49e10613c190c126cfd7", func := "isochrone/isochronelaw10.StaticBinds", spec := "staticBinds", unfollowed := true, recurses := true, loops := true, apart := false }
def StaticBindsSaid : Prop := staticBindsRow.holds Try.pinned (OpenSpec.ofChange staticBindsSpec)

/-- ITS FALSE NEIGHBOUR: 'it returns false'. Refute it at one input. -/
def staticBindsWrong : ChangeSpec := { name := "staticBinds", fn := fun _ => fun
  | [d1, d2] => { results := [.lit (.bool false)], args := [d1, d2] }
  | _ => none }
def StaticBindsWrongFalsely : Prop := staticBindsRow.holds Try.pinned (OpenSpec.ofChange staticBindsWrong)

/-- 'isochronelaw10.StaticPolarity': WHATEVER THE INPUT: true; the input reads as it did. -/
def staticPolaritySpec : ChangeSpec := { name := "staticPolarity", fn := fun _ => fun
  | [d1, d2] => { results := [.lit (.bool true)], args := [d1, d2] }
  | _ => none }
def staticPolarityRow : OpenClaim := { program := "ytcgphoghmgeecaa", sum := "a85c6fd0ecbf177d370f2b9c83e1ecb3ddb9bbf2718a49e10613c190c126cfd7", func := "isochrone/isochronelaw10.StaticPolarity", spec := "staticPolarity", unfollowed := true, recurses := true, loops := true, apart := false }
def StaticPolaritySaid : Prop := staticPolarityRow.holds Try.pinned (OpenSpec.ofChange staticPolaritySpec)

/-- ITS FALSE NEIGHBOUR: 'it returns false'. Refute it at one input. -/
def staticPolarityWrong : ChangeSpec := { name := "staticPolarity", fn := fun _ => fun
  | [d1, d2] => { results := [.lit (.bool false)], args := [d1, d2] }
  | _ => none }
def StaticPolarityWrongFalsely : Prop := staticPolarityRow.holds Try.pinned (OpenSpec.ofChange staticPolarityWrong)

/- THE SECOND FORM. 'bulk': how many values and letters a reading holds, each counted each time it is reached (what is shared counts as often as it is met; a slice's spare places count too). A statement '..UptoSaid' is the law's where the arguments, and the package variables that the reading takes, are together of bulk at most 1048576: NARROWER than '..Said'. Prove '..Said' where nothing that the law and all that it calls make is longer than what came in: it says more and counts as full. Else prove '..UptoSaid'. A law counts once. -/
mutual
def uptoBulk {H : Type} : DataW H → Nat
  | .lit (.string bytes) => bytes.length + 1
  | .lit _ => 1
  | .nil => 1
  | .ptr d => uptoBulk d + 1
  | .slice elems spare => uptoBulkAll elems + uptoBulkAll spare + 1
  | .agg parts => uptoBulkAll parts + 1
  | .iface _ d => uptoBulk d + 1
  | .map entries => uptoBulkEntries entries + 1
  | .held _ => 1
def uptoBulkAll {H : Type} : List (DataW H) → Nat
  | [] => 0
  | d :: r => uptoBulk d + uptoBulkAll r
def uptoBulkEntries {H : Type} : List (Lit × DataW H) → Nat
  | [] => 0
  | x :: r => uptoBulkEntry x + uptoBulkEntries r
def uptoBulkEntry {H : Type} : Lit × DataW H → Nat
  | (.string bytes, d) => bytes.length + uptoBulk d + 1
  | (_, d) => uptoBulk d + 1
 end
def uptoSmall : (H : Type) → List (DataW H) → Bool := fun _ ds => decide (uptoBulkAll ds ≤ 1048576)
def OpenSpec.upto (s : _root_.Go.ChangeSpec) : _root_.Go.OpenSpec := { _root_.Go.OpenSpec.ofChange s with cond := some uptoSmall }

/-- 'isochronelaw10.StaticSets', WHERE WHAT IT READS IS OF BULK AT MOST 1048576: true; the input reads as it did. -/
def staticSetsUptoRow : OpenClaim := { program := "ytcgphoghmgeecaa", sum := "a85c6fd0ecbf177d370f2b9c83e1ecb3ddb9bbf2718a49e10613c190c126cfd7", func := "isochrone/isochronelaw10.StaticSets", spec := "staticSets", unfollowed := true, recurses := true, apart := false, narrowed := true }
def StaticSetsUptoSaid : Prop := staticSetsUptoRow.holds Try.pinned (OpenSpec.upto staticSetsSpec)

/-- 'isochronelaw10.StaticBoolean', WHERE WHAT IT READS IS OF BULK AT MOST 1048576: true; the input reads as it did. -/
def staticBooleanUptoRow : OpenClaim := { program := "ytcgphoghmgeecaa", sum := "a85c6fd0ecbf177d370f2b9c83e1ecb3ddb9bbf2718a49e10613c190c126cfd7", func := "isochrone/isochronelaw10.StaticBoolean", spec := "staticBoolean", unfollowed := true, recurses := true, apart := false, narrowed := true }
def StaticBooleanUptoSaid : Prop := staticBooleanUptoRow.holds Try.pinned (OpenSpec.upto staticBooleanSpec)

/-- 'isochronelaw10.StaticBinds', WHERE WHAT IT READS IS OF BULK AT MOST 1048576: true; the input reads as it did. -/
def staticBindsUptoRow : OpenClaim := { program := "ytcgphoghmgeecaa", sum := "a85c6fd0ecbf177d370f2b9c83e1ecb3ddb9bbf2718a49e10613c190c126cfd7", func := "isochrone/isochronelaw10.StaticBinds", spec := "staticBinds", unfollowed := true, recurses := true, loops := true, apart := false, narrowed := true }
def StaticBindsUptoSaid : Prop := staticBindsUptoRow.holds Try.pinned (OpenSpec.upto staticBindsSpec)

/-- 'isochronelaw10.StaticPolarity', WHERE WHAT IT READS IS OF BULK AT MOST 1048576: true; the input reads as it did. -/
def staticPolarityUptoRow : OpenClaim := { program := "ytcgphoghmgeecaa", sum := "a85c6fd0ecbf177d370f2b9c83e1ecb3ddb9bbf2718a49e10613c190c126cfd7", func := "isochrone/isochronelaw10.StaticPolarity", spec := "staticPolarity", unfollowed := true, recurses := true, loops := true, apart := false, narrowed := true }
def StaticPolarityUptoSaid : Prop := staticPolarityUptoRow.holds Try.pinned (OpenSpec.upto staticPolaritySpec)

end Rows
end Go.Proofs.Ytcgphoghmgeecaa
