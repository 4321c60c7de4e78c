/- Part of the proof of a law: contracts of the functions that the law reaches, or plain laws of them, out of the abstract layer (the texts YtcgphoghmgeecaaIso..). No condition. -/
import Derived.Test.YtcgphoghmgeecaaW
import Derived.Test.YtcgphoghmgeecaaQh
namespace Go.Proofs.Ytcgphoghmgeecaa
open Go Go.Iso Go.Proofs
set_option linter.unusedVariables false
/-- The check ahead of the laws is proved apart (fn7): it returns true. -/
def law10_awake (K : Nat) : Option Bool := some true
theorem law10_awake_ok {K : Nat} {r : Bool} (h : law10_awake K = some r) : Cn Try.prog 7 [] (.d (.val (.bool r))) := by
  obtain rfl := Option.some.inj h
  exact fn7
end Go.Proofs.Ytcgphoghmgeecaa
