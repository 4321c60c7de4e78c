/- What the printed walks use, tagged, and what is known of the program's own variables. No condition. -/
import Derived.Test.YtngmfimpaembnaaGreatDoorV
import Derived.Test.YtngmfimpaembnaaGreatDoorIsoS
import Derived.Lib.ItoaNum
import Derived.Lib.LaidTab
import Derived.KernelRfl
namespace Go.Proofs.YtngmfimpaembnaaGreatDoor
open Go Go.Iso Go.Proofs
instance mx : Mixed Tryz.prog := ⟨mixed⟩
def pow10V : Array Value := (Lib.pow10Tab.map fun z => Value.int .u64 z).toArray
instance glb : Glb := ⟨fun g => if g = 0 then some pow10V else none⟩
theorem glb_pow10 {I : Nat → Prop} {w : World} (h : Known I w) : Lib.TabIs Tryz.prog w "internal/strconv.uint64pow10" .u64 Lib.pow10Tab := by
  obtain ⟨_, e, p, h1⟩ := h 0 pow10V (if_pos rfl)
  unfold Lib.TabIs World.var?
  rw [show Tryz.prog.globalNamed "internal/strconv.uint64pow10" = some 0 from by kernel_rfl, Option.bind_some, h1]; rfl
theorem glb_known {I : Nat → Prop} {w : World} (hI : ∀ b, b < w.heap.size → I b) (h : Lib.TabIs Tryz.prog w "internal/strconv.uint64pow10" .u64 Lib.pow10Tab) : Known I w := by
  intro g cs hg
  simp only [Glb.val] at hg
  split at hg
  · next e =>
    subst e; cases hg
    unfold Lib.TabIs World.var? at h
    rw [show Tryz.prog.globalNamed "internal/strconv.uint64pow10" = some 0 from by kernel_rfl, Option.bind_some] at h
    split at h
    · next e p h1 => cases h; exact ⟨hI _ (Array.getElem?_eq_some_iff.1 h1).1, e, p, h1⟩
    · cases h
  · cases hg
attribute [go_sem high] inO_accD
attribute [go_sem] NodeA.enc_eta RatA.enc_eta NodeA.op_mk NodeA.name_mk NodeA.num_mk NodeA.kids_mk i64V u32V
attribute [go_sem] strV accO_eq map_ne imp_self implies_true List.map_cons List.map_nil ne_eq
attribute [go_sem] not_true_eq_false aggV keepH_at dropH_at putL_nil putL_cons nilV_none refs_nilV
attribute [go_sem] renV_nilV srcRows_sl bop_and bop_or bop_xor putH_nil putH_cons
end Go.Proofs.YtngmfimpaembnaaGreatDoor
