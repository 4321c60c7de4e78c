/- Part of the proof of a law: contracts of the functions that the law reaches, or plain laws of them, out of the abstract layer (the texts YtafipfdohicfbaaGreatIso..). No condition. -/
import Derived.Test.YtafipfdohicfbaaGreatLntab
namespace Go.Proofs.YtafipfdohicfbaaGreat
open Go Go.Iso Go.Proofs
set_option maxRecDepth 100000
theorem runR17 : runB orcR 29 tx17 nd17 = true := by kernel_rfl
theorem runR18 : runB orcR 29 tx18 nd18 = true := by kernel_rfl
theorem runR19 : runB orcR 29 tx19 nd19 = true := by kernel_rfl
theorem runR20 : runB orcR 29 tx20 nd20 = true := by kernel_rfl
end Go.Proofs.YtafipfdohicfbaaGreat
