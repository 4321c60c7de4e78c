/- Part of the proof of a law: contracts of the functions that the law reaches, or plain laws of them, out of the abstract layer (the texts YtafipfdohicfbaaGreatIso..). No condition. -/
import Derived.Test.YtafipfdohicfbaaGreatLntab
namespace Go.Proofs.YtafipfdohicfbaaGreat
open Go Go.Iso Go.Proofs
set_option maxRecDepth 100000
theorem runP5 : runB orcP 23 tx5 nd5 = true := by kernel_rfl
theorem runP6 : runB orcP 23 tx6 nd6 = true := by kernel_rfl
theorem runP7 : runB orcP 23 tx7 nd7 = true := by kernel_rfl
theorem runP8 : runB orcP 23 tx8 nd8 = true := by kernel_rfl
theorem runP9 : runB orcP 23 tx9 nd9 = true := by kernel_rfl
theorem runP10 : runB orcP 23 tx10 nd10 = true := by kernel_rfl
end Go.Proofs.YtafipfdohicfbaaGreat
