/- Part of the proof of a law: contracts of the functions that the law reaches, or plain laws of them, out of the abstract layer (the texts YtafipfdohicfbaaGreatDoorIso..). No condition. -/
import Derived.Test.YtafipfdohicfbaaGreatDoorW
import Derived.Test.YtafipfdohicfbaaGreatDoorIsoQ
import Derived.KernelRfl
namespace Go.Proofs.YtafipfdohicfbaaGreatDoor
open Go Go.Iso Go.Proofs
set_option linter.unusedVariables false
def law20_awake (K : Nat) : Option Bool := some true
theorem awake_run : isTrue (evTop Tryz.prog noOrc 100000 4 []) = true := by kernel_rfl
theorem law20_awake_ok {K : Nat} {r : Bool} (h : law20_awake K = some r) : Cn Tryz.prog 4 [] (.d (.val (.bool r))) := by
 obtain rfl := Option.some.inj h
 exact Cn.ofTrue mixed noOrc_ok awake_run
end Go.Proofs.YtafipfdohicfbaaGreatDoor
