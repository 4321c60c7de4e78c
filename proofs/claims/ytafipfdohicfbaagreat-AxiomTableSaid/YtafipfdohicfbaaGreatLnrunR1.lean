/- Part of the proof of a law: contracts of the functions that the law reaches, or plain laws of them, out of the abstract layer (the texts YtafipfdohicfbaaGreatIso..). No condition. -/
import Derived.Test.YtafipfdohicfbaaGreatLntab
namespace Go.Proofs.YtafipfdohicfbaaGreat
open Go Go.Iso Go.Proofs
set_option maxRecDepth 100000
theorem runR5 : runB orcR 29 tx5 nd5 = true := by kernel_rfl
theorem runR6 : runB orcR 29 tx6 nd6 = true := by kernel_rfl
theorem runR7 : runB orcR 29 tx7 nd7 = true := by kernel_rfl
theorem runR8 : runB orcR 29 tx8 nd8 = true := by kernel_rfl
theorem runR9 : runB orcR 29 tx9 nd9 = true := by kernel_rfl
theorem runR10 : runB orcR 29 tx10 nd10 = true := by kernel_rfl
end Go.Proofs.YtafipfdohicfbaaGreat
