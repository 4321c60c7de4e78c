/- Part of the proof of a law: contracts of the functions that the law reaches, or plain laws of them, out of the abstract layer (the texts YtafipfdohicfbaaGreatIso..). No condition. -/
import Derived.Test.YtafipfdohicfbaaGreatLntab
namespace Go.Proofs.YtafipfdohicfbaaGreat
open Go Go.Iso Go.Proofs
set_option maxRecDepth 100000
theorem runR0 : runB orcR 29 tx0 nd0 = true := by kernel_rfl
theorem runR1 : runB orcR 29 tx1 nd1 = true := by kernel_rfl
theorem runR2 : runB orcR 29 tx2 nd2 = true := by kernel_rfl
theorem runR3 : runB orcR 29 tx3 nd3 = true := by kernel_rfl
theorem runR4 : runB orcR 29 tx4 nd4 = true := by kernel_rfl
end Go.Proofs.YtafipfdohicfbaaGreat
