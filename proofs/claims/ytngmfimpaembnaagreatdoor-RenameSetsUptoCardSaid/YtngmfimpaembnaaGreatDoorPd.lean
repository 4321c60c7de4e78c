/- Part of the proof of a law: contracts of the functions that the law reaches, or plain laws of them, out of the abstract layer (the texts YtngmfimpaembnaaGreatDoorIso..). No condition. -/
import Derived.Test.YtngmfimpaembnaaGreatDoorW
import Derived.Test.YtngmfimpaembnaaGreatDoorIsoI
import Derived.Test.YtngmfimpaembnaaGreatDoorLman
import Derived.Test.YtngmfimpaembnaaGreatDoorShelf
import Derived.Test.YtngmfimpaembnaaGreatDoorIsoU
import Derived.Test.YtngmfimpaembnaaGreatDoorIsoQ
import Derived.Test.YtngmfimpaembnaaGreatDoorPc
open Nat (reduceEqDiff reduceAdd reduceSub reduceMul reduceLeDiff reduceLT)
namespace Go.Proofs.YtngmfimpaembnaaGreatDoor
open Go Go.Iso Go.Proofs
set_option linter.unusedSimpArgs false
set_option linter.unusedVariables false
set_option maxRecDepth 100000
/-! ### isochrone/isochroneref08.well -/
/-! ### isochrone/isochroneref08.flow -/
/-! ### isochrone/isochroneref08.Check -/
/-! ### isochrone/isochroneref18.check -/
/-! ### isochrone/isochroneref10.Occurs -/
/-! ### isochrone/isochroneref18.renamable -/
/-! ### isochrone/isochroneref18.Uniform -/
/-! ### isochrone/isochronelaw18.RenameUniform -/
end Go.Proofs.YtngmfimpaembnaaGreatDoor
