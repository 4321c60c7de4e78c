/- What the printed walks use, tagged, and what is known of the program's own variables. No condition. -/
import Derived.Test.YtphgabghcedphaaGreatDoorV
import Derived.Test.YtphgabghcedphaaGreatDoorIsoV
import Derived.Lib.ItoaNum
import Derived.Lib.LaidTab
import Derived.KernelRfl
namespace Go.Proofs.YtphgabghcedphaaGreatDoor
open Go Go.Iso Go.Proofs
instance mx : Mixed Tryz.prog := ⟨mixed⟩
def pow10V : Array Value := (Lib.pow10Tab.map fun z => Value.int .u64 z).toArray
instance glb : Glb := ⟨fun g => if g = 0 then some pow10V else none⟩
theorem glb_pow10 {I : Nat → Prop} {w : World} (h : Known I w) : Lib.TabIs Tryz.prog w "internal/strconv.uint64pow10" .u64 Lib.pow10Tab := by
 obtain ⟨_, e, p, h1⟩ := h 0 pow10V (if_pos rfl)
 unfold Lib.TabIs World.var?
 rw [show Tryz.prog.globalNamed "internal/strconv.uint64pow10" = some 0 from by kernel_rfl, Option.bind_some, h1]; rfl
theorem glb_known {I : Nat → Prop} {w : World} (hI : ∀ b, b < w.heap.size → I b) (h : Lib.TabIs Tryz.prog w "internal/strconv.uint64pow10" .u64 Lib.pow10Tab) : Known I w := by
 intro g cs hg
 simp only [Glb.val] at hg
 split at hg
 ·next e =>
  subst e; cases hg
  unfold Lib.TabIs World.var? at h
  rw [show Tryz.prog.globalNamed "internal/strconv.uint64pow10" = some 0 from by kernel_rfl, Option.bind_some] at h
  split at h
  ·next e p h1 => cases h; exact ⟨hI _ (Array.getElem?_eq_some_iff.1 h1).1, e, p, h1⟩
  ·cases h
 ·cases hg
theorem lg22 {α : Type} {o n : Nat} {x : Option (List α)} {K : V → Prop} : lenK Tryz.prog 22 (gV o n x) K = K (.d (.val (.int .i64 ((x.getD []).length : Int)))) := lenK_g el22
theorem lg25 {α : Type} {o n : Nat} {x : Option (List α)} {K : V → Prop} : lenK Tryz.prog 25 (gV o n x) K = K (.d (.val (.int .i64 ((x.getD []).length : Int)))) := lenK_g el25
theorem lg28 {α : Type} {o n : Nat} {x : Option (List α)} {K : V → Prop} : lenK Tryz.prog 28 (gV o n x) K = K (.d (.val (.int .i64 ((x.getD []).length : Int)))) := lenK_g el28
theorem lg29 {α : Type} {o n : Nat} {x : Option (List α)} {K : V → Prop} : lenK Tryz.prog 29 (gV o n x) K = K (.d (.val (.int .i64 ((x.getD []).length : Int)))) := lenK_g el29
theorem lg36 {α : Type} {o n : Nat} {x : Option (List α)} {K : V → Prop} : lenK Tryz.prog 36 (gV o n x) K = K (.d (.val (.int .i64 ((x.getD []).length : Int)))) := lenK_g el36
theorem lg58 {α : Type} {o n : Nat} {x : Option (List α)} {K : V → Prop} : lenK Tryz.prog 58 (gV o n x) K = K (.d (.val (.int .i64 ((x.getD []).length : Int)))) := lenK_g el58
theorem lg61 {α : Type} {o n : Nat} {x : Option (List α)} {K : V → Prop} : lenK Tryz.prog 61 (gV o n x) K = K (.d (.val (.int .i64 ((x.getD []).length : Int)))) := lenK_g el61
theorem lg62 {α : Type} {o n : Nat} {x : Option (List α)} {K : V → Prop} : lenK Tryz.prog 62 (gV o n x) K = K (.d (.val (.int .i64 ((x.getD []).length : Int)))) := lenK_g el62
theorem lg164 {α : Type} {o n : Nat} {x : Option (List α)} {K : V → Prop} : lenK Tryz.prog 164 (gV o n x) K = K (.d (.val (.int .i64 ((x.getD []).length : Int)))) := lenK_g el164
attribute [go_sem] lg22 lg25 lg28 lg29 lg36 lg58 lg61 lg62
attribute [go_sem] lg164
attribute [go_sem high] inO_accD
attribute [go_sem] NodeA.enc_eta RatA.enc_eta NodeA.op_mk NodeA.name_mk NodeA.num_mk NodeA.kids_mk i64V u32V
attribute [go_sem] strV accO_eq map_ne imp_self implies_true List.map_cons List.map_nil ne_eq
attribute [go_sem] not_true_eq_false aggV keepH_at dropH_at putL_nil putL_cons nilV_none refs_nilV
attribute [go_sem] renV_nilV srcRows_sl bop_and bop_or bop_xor putH_nil putH_cons
end Go.Proofs.YtphgabghcedphaaGreatDoor
