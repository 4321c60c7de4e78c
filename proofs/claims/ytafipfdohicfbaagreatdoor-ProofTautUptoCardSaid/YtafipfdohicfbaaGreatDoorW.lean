/- What the printed walks use, tagged, and what is known of the program's own variables. No condition. -/
import Derived.Test.YtafipfdohicfbaaGreatDoorV
import Derived.Test.YtafipfdohicfbaaGreatDoorIsoQ
import Derived.Lib.ItoaNum
import Derived.Lib.LaidTab
import Derived.KernelRfl
namespace Go.Proofs.YtafipfdohicfbaaGreatDoor
open Go Go.Iso Go.Proofs
instance mx : Mixed Tryz.prog := ⟨mixed⟩
def pow10V : Array Value := (Lib.pow10Tab.map fun z => Value.int .u64 z).toArray
instance glb : Glb := ⟨fun g => if g = 0 then some pow10V else none⟩
theorem glb_known {I : Nat → Prop} {w : World} (hI : ∀ b, b < w.heap.size → I b) (h : Lib.TabIs Tryz.prog w "internal/strconv.uint64pow10" .u64 Lib.pow10Tab) : Known I w := by
 intro g cs hg
 simp only [Glb.val] at hg
 split at hg
 ·next e =>
  subst e; cases hg
  unfold Lib.TabIs World.var? at h
  rw [show Tryz.prog.globalNamed "internal/strconv.uint64pow10" = some 0 from by kernel_rfl, Option.bind_some] at h
  split at h
  ·next e p h1 => cases h; exact ⟨hI _ (Array.getElem?_eq_some_iff.1 h1).1, e, p, h1⟩
  ·cases h
 ·cases hg
theorem lg22 {α : Type} {o n : Nat} {x : Option (List α)} {K : V → Prop} : lenK Tryz.prog 22 (gV o n x) K = K (.d (.val (.int .i64 ((x.getD []).length : Int)))) := lenK_g el22
theorem lg25 {α : Type} {o n : Nat} {x : Option (List α)} {K : V → Prop} : lenK Tryz.prog 25 (gV o n x) K = K (.d (.val (.int .i64 ((x.getD []).length : Int)))) := lenK_g el25
theorem lg36 {α : Type} {o n : Nat} {x : Option (List α)} {K : V → Prop} : lenK Tryz.prog 36 (gV o n x) K = K (.d (.val (.int .i64 ((x.getD []).length : Int)))) := lenK_g el36
theorem lg37 {α : Type} {o n : Nat} {x : Option (List α)} {K : V → Prop} : lenK Tryz.prog 37 (gV o n x) K = K (.d (.val (.int .i64 ((x.getD []).length : Int)))) := lenK_g el37
theorem lg38 {α : Type} {o n : Nat} {x : Option (List α)} {K : V → Prop} : lenK Tryz.prog 38 (gV o n x) K = K (.d (.val (.int .i64 ((x.getD []).length : Int)))) := lenK_g el38
theorem lg39 {α : Type} {o n : Nat} {x : Option (List α)} {K : V → Prop} : lenK Tryz.prog 39 (gV o n x) K = K (.d (.val (.int .i64 ((x.getD []).length : Int)))) := lenK_g el39
theorem lg40 {α : Type} {o n : Nat} {x : Option (List α)} {K : V → Prop} : lenK Tryz.prog 40 (gV o n x) K = K (.d (.val (.int .i64 ((x.getD []).length : Int)))) := lenK_g el40
theorem lg41 {α : Type} {o n : Nat} {x : Option (List α)} {K : V → Prop} : lenK Tryz.prog 41 (gV o n x) K = K (.d (.val (.int .i64 ((x.getD []).length : Int)))) := lenK_g el41
theorem lg42 {α : Type} {o n : Nat} {x : Option (List α)} {K : V → Prop} : lenK Tryz.prog 42 (gV o n x) K = K (.d (.val (.int .i64 ((x.getD []).length : Int)))) := lenK_g el42
theorem lg45 {α : Type} {o n : Nat} {x : Option (List α)} {K : V → Prop} : lenK Tryz.prog 45 (gV o n x) K = K (.d (.val (.int .i64 ((x.getD []).length : Int)))) := lenK_g el45
theorem lg56 {α : Type} {o n : Nat} {x : Option (List α)} {K : V → Prop} : lenK Tryz.prog 56 (gV o n x) K = K (.d (.val (.int .i64 ((x.getD []).length : Int)))) := lenK_g el56
theorem lg70 {α : Type} {o n : Nat} {x : Option (List α)} {K : V → Prop} : lenK Tryz.prog 70 (gV o n x) K = K (.d (.val (.int .i64 ((x.getD []).length : Int)))) := lenK_g el70
theorem lg79 {α : Type} {o n : Nat} {x : Option (List α)} {K : V → Prop} : lenK Tryz.prog 79 (gV o n x) K = K (.d (.val (.int .i64 ((x.getD []).length : Int)))) := lenK_g el79
theorem lg115 {α : Type} {o n : Nat} {x : Option (List α)} {K : V → Prop} : lenK Tryz.prog 115 (gV o n x) K = K (.d (.val (.int .i64 ((x.getD []).length : Int)))) := lenK_g el115
theorem lg136 {α : Type} {o n : Nat} {x : Option (List α)} {K : V → Prop} : lenK Tryz.prog 136 (gV o n x) K = K (.d (.val (.int .i64 ((x.getD []).length : Int)))) := lenK_g el136
theorem lg186 {α : Type} {o n : Nat} {x : Option (List α)} {K : V → Prop} : lenK Tryz.prog 186 (gV o n x) K = K (.d (.val (.int .i64 ((x.getD []).length : Int)))) := lenK_g el186
theorem lg273 {α : Type} {o n : Nat} {x : Option (List α)} {K : V → Prop} : lenK Tryz.prog 273 (gV o n x) K = K (.d (.val (.int .i64 ((x.getD []).length : Int)))) := lenK_g el273
theorem lg317 {α : Type} {o n : Nat} {x : Option (List α)} {K : V → Prop} : lenK Tryz.prog 317 (gV o n x) K = K (.d (.val (.int .i64 ((x.getD []).length : Int)))) := lenK_g el317
theorem lg322 {α : Type} {o n : Nat} {x : Option (List α)} {K : V → Prop} : lenK Tryz.prog 322 (gV o n x) K = K (.d (.val (.int .i64 ((x.getD []).length : Int)))) := lenK_g el322
theorem lg323 {α : Type} {o n : Nat} {x : Option (List α)} {K : V → Prop} : lenK Tryz.prog 323 (gV o n x) K = K (.d (.val (.int .i64 ((x.getD []).length : Int)))) := lenK_g el323
theorem lg437 {α : Type} {o n : Nat} {x : Option (List α)} {K : V → Prop} : lenK Tryz.prog 437 (gV o n x) K = K (.d (.val (.int .i64 ((x.getD []).length : Int)))) := lenK_g el437
theorem lg449 {α : Type} {o n : Nat} {x : Option (List α)} {K : V → Prop} : lenK Tryz.prog 449 (gV o n x) K = K (.d (.val (.int .i64 ((x.getD []).length : Int)))) := lenK_g el449
attribute [go_sem] lg22 lg25 lg36 lg37 lg38 lg39 lg40 lg41
attribute [go_sem] lg42 lg45 lg56 lg70 lg79 lg115 lg136 lg186
attribute [go_sem] lg273 lg317 lg322 lg323 lg437 lg449
attribute [go_sem high] inO_accD
attribute [go_sem] NodeA.enc_eta RatA.enc_eta NodeA.op_mk NodeA.name_mk NodeA.num_mk NodeA.kids_mk i64V u32V
attribute [go_sem] strV accO_eq map_ne imp_self implies_true List.map_cons List.map_nil ne_eq
attribute [go_sem] not_true_eq_false aggV keepH_at dropH_at putL_nil putL_cons nilV_none refs_nilV
attribute [go_sem] renV_nilV srcRows_sl bop_and bop_or bop_xor putH_nil putH_cons
end Go.Proofs.YtafipfdohicfbaaGreatDoor
