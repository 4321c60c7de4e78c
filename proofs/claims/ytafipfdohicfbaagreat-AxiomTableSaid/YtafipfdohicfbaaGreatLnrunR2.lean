/- Part of the proof of a law: contracts of the functions that the law reaches, or plain laws of them, out of the abstract layer (the texts YtafipfdohicfbaaGreatIso..). No condition. -/
import Derived.Test.YtafipfdohicfbaaGreatLntab
namespace Go.Proofs.YtafipfdohicfbaaGreat
open Go Go.Iso Go.Proofs
set_option maxRecDepth 100000
theorem runR11 : runB orcR 29 tx11 nd11 = true := by kernel_rfl
theorem runR12 : runB orcR 29 tx12 nd12 = true := by kernel_rfl
theorem runR14 : runB orcR 29 tx14 nd14 = true := by kernel_rfl
end Go.Proofs.YtafipfdohicfbaaGreat
