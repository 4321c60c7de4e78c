/- Part of the proof of a law: contracts of the functions that the law reaches, or plain laws of them, out of the abstract layer (the texts YtafipfdohicfbaaGreatIso..). No condition. -/
import Derived.Test.YtafipfdohicfbaaGreatLntab
namespace Go.Proofs.YtafipfdohicfbaaGreat
open Go Go.Iso Go.Proofs
set_option maxRecDepth 100000
theorem runP17 : runB orcP 23 tx17 nd17 = true := by kernel_rfl
theorem runP18 : runB orcP 23 tx18 nd18 = true := by kernel_rfl
theorem runP19 : runB orcP 23 tx19 nd19 = true := by kernel_rfl
theorem runP20 : runB orcP 23 tx20 nd20 = true := by kernel_rfl
end Go.Proofs.YtafipfdohicfbaaGreat
