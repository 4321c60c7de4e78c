/- The abstract layer, part W: values of Go's types as the layer has them, and plain laws of lists for loops. -/
import Derived.Test.YtngmfimpaembnaaGreatDoorIsoL
namespace Go.Iso
open Go Go.RowKit
abbrev u32V (x : Int) : List D := [.val (.int .u32 x)]
abbrev i64V (x : Int) : List D := [.val (.int .i64 x)]
abbrev strV (s : ByteArray) : List D := [.val (.string s)]
abbrev slD {α : Type} (f : α → List D) (l : List α) : D := .sl (l.map f)
abbrev slV {α : Type} (f : α → List D) (l : List α) : V := .d (.sl (l.map f))
end Go.Iso
