/- What the printed walks use, tagged, and what is known of the program's own variables. No condition. -/
import Derived.Test.YtnhfojbokhgbhaaDoorV
import Derived.Test.YtnhfojbokhgbhaaDoorIsoF
import Derived.Lib.ItoaNum
import Derived.Lib.LaidTab
import Derived.KernelRfl
namespace Go.Proofs.YtnhfojbokhgbhaaDoor
open Go Go.Iso Go.Proofs
instance mx : Mixed Tryd.prog := ⟨mixed⟩
def pow10V : Array Value := (Lib.pow10Tab.map fun z => Value.int .u64 z).toArray
instance glb : Glb := ⟨fun g => if g = 0 then some pow10V else none⟩
theorem glb_known {I : Nat → Prop} {w : World} (hI : ∀ b, b < w.heap.size → I b) (h : Lib.TabIs Tryd.prog w "internal/strconv.uint64pow10" .u64 Lib.pow10Tab) : Known I w := by
 intro g cs hg
 simp only [Glb.val] at hg
 split at hg
 ·next e =>
  subst e; cases hg
  unfold Lib.TabIs World.var? at h
  rw [show Tryd.prog.globalNamed "internal/strconv.uint64pow10" = some 0 from by kernel_rfl, Option.bind_some] at h
  split at h
  ·next e p h1 => cases h; exact ⟨hI _ (Array.getElem?_eq_some_iff.1 h1).1, e, p, h1⟩
  ·cases h
 ·cases hg
theorem lg22 {α : Type} {o n : Nat} {x : Option (List α)} {K : V → Prop} : lenK Tryd.prog 22 (gV o n x) K = K (.d (.val (.int .i64 ((x.getD []).length : Int)))) := lenK_g el22
theorem lg23 {α : Type} {o n : Nat} {x : Option (List α)} {K : V → Prop} : lenK Tryd.prog 23 (gV o n x) K = K (.d (.val (.int .i64 ((x.getD []).length : Int)))) := lenK_g el23
theorem lg24 {α : Type} {o n : Nat} {x : Option (List α)} {K : V → Prop} : lenK Tryd.prog 24 (gV o n x) K = K (.d (.val (.int .i64 ((x.getD []).length : Int)))) := lenK_g el24
theorem lg25 {α : Type} {o n : Nat} {x : Option (List α)} {K : V → Prop} : lenK Tryd.prog 25 (gV o n x) K = K (.d (.val (.int .i64 ((x.getD []).length : Int)))) := lenK_g el25
theorem lg26 {α : Type} {o n : Nat} {x : Option (List α)} {K : V → Prop} : lenK Tryd.prog 26 (gV o n x) K = K (.d (.val (.int .i64 ((x.getD []).length : Int)))) := lenK_g el26
theorem lg27 {α : Type} {o n : Nat} {x : Option (List α)} {K : V → Prop} : lenK Tryd.prog 27 (gV o n x) K = K (.d (.val (.int .i64 ((x.getD []).length : Int)))) := lenK_g el27
theorem lg28 {α : Type} {o n : Nat} {x : Option (List α)} {K : V → Prop} : lenK Tryd.prog 28 (gV o n x) K = K (.d (.val (.int .i64 ((x.getD []).length : Int)))) := lenK_g el28
theorem lg29 {α : Type} {o n : Nat} {x : Option (List α)} {K : V → Prop} : lenK Tryd.prog 29 (gV o n x) K = K (.d (.val (.int .i64 ((x.getD []).length : Int)))) := lenK_g el29
theorem lg32 {α : Type} {o n : Nat} {x : Option (List α)} {K : V → Prop} : lenK Tryd.prog 32 (gV o n x) K = K (.d (.val (.int .i64 ((x.getD []).length : Int)))) := lenK_g el32
theorem lg35 {α : Type} {o n : Nat} {x : Option (List α)} {K : V → Prop} : lenK Tryd.prog 35 (gV o n x) K = K (.d (.val (.int .i64 ((x.getD []).length : Int)))) := lenK_g el35
theorem lg53 {α : Type} {o n : Nat} {x : Option (List α)} {K : V → Prop} : lenK Tryd.prog 53 (gV o n x) K = K (.d (.val (.int .i64 ((x.getD []).length : Int)))) := lenK_g el53
theorem lg76 {α : Type} {o n : Nat} {x : Option (List α)} {K : V → Prop} : lenK Tryd.prog 76 (gV o n x) K = K (.d (.val (.int .i64 ((x.getD []).length : Int)))) := lenK_g el76
theorem lg121 {α : Type} {o n : Nat} {x : Option (List α)} {K : V → Prop} : lenK Tryd.prog 121 (gV o n x) K = K (.d (.val (.int .i64 ((x.getD []).length : Int)))) := lenK_g el121
attribute [go_sem] lg22 lg23 lg24 lg25 lg26 lg27 lg28 lg29
attribute [go_sem] lg32 lg35 lg53 lg76 lg121
attribute [go_sem high] inO_accD
attribute [go_sem] NodeA.enc_eta RatA.enc_eta NodeA.op_mk NodeA.name_mk NodeA.num_mk NodeA.kids_mk i64V u32V
attribute [go_sem] strV accO_eq map_ne imp_self implies_true List.map_cons List.map_nil ne_eq
attribute [go_sem] not_true_eq_false aggV keepH_at dropH_at putL_nil putL_cons nilV_none refs_nilV
attribute [go_sem] renV_nilV srcRows_sl bop_and bop_or bop_xor putH_nil putH_cons
end Go.Proofs.YtnhfojbokhgbhaaDoor
