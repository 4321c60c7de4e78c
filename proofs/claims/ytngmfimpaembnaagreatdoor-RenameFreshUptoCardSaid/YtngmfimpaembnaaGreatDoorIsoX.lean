/- The abstract layer, part X: plain laws of lists of strings in order. -/
import Derived.Test.YtngmfimpaembnaaGreatDoorIsoU
import Derived.Test.YtngmfimpaembnaaGreatDoorIsoY
import Derived.Test.YtngmfimpaembnaaGreatDoorIsoN
namespace Go.Iso
open Go Go.RowKit
set_option linter.unusedSimpArgs false
set_option linter.unusedVariables false
/-! ### Sorting -/
end Go.Iso
