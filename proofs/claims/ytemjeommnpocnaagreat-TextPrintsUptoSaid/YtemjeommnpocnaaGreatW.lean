/- What the printed walks use, tagged, and what is known of the program's own variables. No condition. -/
import Derived.Test.YtemjeommnpocnaaGreatV
import Derived.Test.YtemjeommnpocnaaGreatIsoU
namespace Go.Proofs.YtemjeommnpocnaaGreat
open Go Go.Iso Go.Proofs
instance mx : Mixed Tryz.prog := ⟨mixed⟩
instance glb : Glb := ⟨fun _ => none⟩
theorem lg22 {α : Type} {o n : Nat} {x : Option (List α)} {K : V → Prop} : lenK Tryz.prog 22 (gV o n x) K = K (.d (.val (.int .i64 ((x.getD []).length : Int)))) := lenK_g el22
theorem lg25 {α : Type} {o n : Nat} {x : Option (List α)} {K : V → Prop} : lenK Tryz.prog 25 (gV o n x) K = K (.d (.val (.int .i64 ((x.getD []).length : Int)))) := lenK_g el25
theorem lg41 {α : Type} {o n : Nat} {x : Option (List α)} {K : V → Prop} : lenK Tryz.prog 41 (gV o n x) K = K (.d (.val (.int .i64 ((x.getD []).length : Int)))) := lenK_g el41
theorem lg63 {α : Type} {o n : Nat} {x : Option (List α)} {K : V → Prop} : lenK Tryz.prog 63 (gV o n x) K = K (.d (.val (.int .i64 ((x.getD []).length : Int)))) := lenK_g el63
theorem lg64 {α : Type} {o n : Nat} {x : Option (List α)} {K : V → Prop} : lenK Tryz.prog 64 (gV o n x) K = K (.d (.val (.int .i64 ((x.getD []).length : Int)))) := lenK_g el64
theorem lg77 {α : Type} {o n : Nat} {x : Option (List α)} {K : V → Prop} : lenK Tryz.prog 77 (gV o n x) K = K (.d (.val (.int .i64 ((x.getD []).length : Int)))) := lenK_g el77
theorem lg105 {α : Type} {o n : Nat} {x : Option (List α)} {K : V → Prop} : lenK Tryz.prog 105 (gV o n x) K = K (.d (.val (.int .i64 ((x.getD []).length : Int)))) := lenK_g el105
attribute [go_sem] lg22 lg25 lg41 lg63 lg64 lg77 lg105
attribute [go_sem high] inO_accD
attribute [go_sem] NodeA.enc_eta RatA.enc_eta NodeA.op_mk NodeA.name_mk NodeA.num_mk NodeA.kids_mk i64V u32V
attribute [go_sem] strV accO_eq map_ne imp_self implies_true List.map_cons List.map_nil ne_eq
attribute [go_sem] not_true_eq_false aggV keepH_at dropH_at putL_nil putL_cons nilV_none refs_nilV
attribute [go_sem] renV_nilV srcRows_sl bop_and bop_or bop_xor putH_nil putH_cons
end Go.Proofs.YtemjeommnpocnaaGreat
