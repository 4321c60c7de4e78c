/- Part of the proof of a law: contracts of the functions that the law reaches, or plain laws of them, out of the abstract layer (the texts YtafipfdohicfbaaGreatIso..). No condition. -/
import Derived.Test.YtafipfdohicfbaaGreatLntab
namespace Go.Proofs.YtafipfdohicfbaaGreat
open Go Go.Iso Go.Proofs
set_option maxRecDepth 100000
theorem runP13 : runB orcP 23 tx13 nd13 = true := by kernel_rfl
theorem runP15 : runB orcP 23 tx15 nd15 = true := by kernel_rfl
theorem runP16 : runB orcP 23 tx16 nd16 = true := by kernel_rfl
end Go.Proofs.YtafipfdohicfbaaGreat
