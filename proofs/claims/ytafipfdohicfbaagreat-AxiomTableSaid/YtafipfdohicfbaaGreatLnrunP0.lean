/- Part of the proof of a law: contracts of the functions that the law reaches, or plain laws of them, out of the abstract layer (the texts YtafipfdohicfbaaGreatIso..). No condition. -/
import Derived.Test.YtafipfdohicfbaaGreatLntab
namespace Go.Proofs.YtafipfdohicfbaaGreat
open Go Go.Iso Go.Proofs
set_option maxRecDepth 100000
theorem runP0 : runB orcP 23 tx0 nd0 = true := by kernel_rfl
theorem runP1 : runB orcP 23 tx1 nd1 = true := by kernel_rfl
theorem runP2 : runB orcP 23 tx2 nd2 = true := by kernel_rfl
theorem runP3 : runB orcP 23 tx3 nd3 = true := by kernel_rfl
theorem runP4 : runB orcP 23 tx4 nd4 = true := by kernel_rfl
end Go.Proofs.YtafipfdohicfbaaGreat
