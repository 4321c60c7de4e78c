/- Part of the proof of a law: contracts of the functions that the law reaches, or plain laws of them, out of the abstract layer (the texts YtngmfimpaembnaaGreatDoorIso..). No condition. -/
import Derived.Test.YtngmfimpaembnaaGreatDoorLroot
import Derived.Test.YtngmfimpaembnaaGreatDoorPc
namespace Go.Proofs.YtngmfimpaembnaaGreatDoor
open Go Go.Iso Go.Proofs
set_option linter.unusedSimpArgs false
set_option linter.unusedVariables false
set_option maxRecDepth 100000
/-! ### Exchanged names -/
section
variable {x y : ByteArray}
/-! ### Form is kept -/
/-! ### Symbols -/
end
end Go.Proofs.YtngmfimpaembnaaGreatDoor
