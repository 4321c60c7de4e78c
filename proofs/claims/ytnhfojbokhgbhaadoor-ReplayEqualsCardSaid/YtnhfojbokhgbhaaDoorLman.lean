/- Part of the proof of a law: contracts of the functions that the law reaches, or plain laws of them, out of the abstract layer (the texts YtnhfojbokhgbhaaDoorIso..). No condition. -/
import Derived.Test.YtnhfojbokhgbhaaDoorW
import Derived.Test.YtnhfojbokhgbhaaDoorIsoEB
import Derived.KernelRfl
namespace Go.Proofs.YtnhfojbokhgbhaaDoor
open Go Go.Iso Go.Proofs
set_option linter.unusedVariables false
def law22_awake (K : Nat) : Option Bool := some true
theorem awake_run : isTrue (evTop Tryd.prog noOrc 100000 6 []) = true := by kernel_rfl
theorem law22_awake_ok {K : Nat} {r : Bool} (h : law22_awake K = some r) : Cn Tryd.prog 6 [] (.d (.val (.bool r))) := by
 obtain rfl := Option.some.inj h
 exact Cn.ofTrue mixed noOrc_ok awake_run
end Go.Proofs.YtnhfojbokhgbhaaDoor
