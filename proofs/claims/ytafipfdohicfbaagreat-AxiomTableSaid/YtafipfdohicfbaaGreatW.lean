/- What the printed walks use, tagged, and what is known of the program's own variables. No condition. -/
import Derived.Test.YtafipfdohicfbaaGreatV
import Derived.Test.YtafipfdohicfbaaGreatIsoV
namespace Go.Proofs.YtafipfdohicfbaaGreat
open Go Go.Iso Go.Proofs
instance mx : Mixed Tryz.prog := ⟨mixed⟩
instance glb : Glb := ⟨fun _ => none⟩
theorem lg23 {α : Type} {o n : Nat} {x : Option (List α)} {K : V → Prop} : lenK Tryz.prog 23 (gV o n x) K = K (.d (.val (.int .i64 ((x.getD []).length : Int)))) := lenK_g el23
theorem lg26 {α : Type} {o n : Nat} {x : Option (List α)} {K : V → Prop} : lenK Tryz.prog 26 (gV o n x) K = K (.d (.val (.int .i64 ((x.getD []).length : Int)))) := lenK_g el26
theorem lg29 {α : Type} {o n : Nat} {x : Option (List α)} {K : V → Prop} : lenK Tryz.prog 29 (gV o n x) K = K (.d (.val (.int .i64 ((x.getD []).length : Int)))) := lenK_g el29
theorem lg49 {α : Type} {o n : Nat} {x : Option (List α)} {K : V → Prop} : lenK Tryz.prog 49 (gV o n x) K = K (.d (.val (.int .i64 ((x.getD []).length : Int)))) := lenK_g el49
theorem lg65 {α : Type} {o n : Nat} {x : Option (List α)} {K : V → Prop} : lenK Tryz.prog 65 (gV o n x) K = K (.d (.val (.int .i64 ((x.getD []).length : Int)))) := lenK_g el65
theorem lg66 {α : Type} {o n : Nat} {x : Option (List α)} {K : V → Prop} : lenK Tryz.prog 66 (gV o n x) K = K (.d (.val (.int .i64 ((x.getD []).length : Int)))) := lenK_g el66
theorem lg117 {α : Type} {o n : Nat} {x : Option (List α)} {K : V → Prop} : lenK Tryz.prog 117 (gV o n x) K = K (.d (.val (.int .i64 ((x.getD []).length : Int)))) := lenK_g el117
attribute [go_sem] lg23 lg26 lg29 lg49 lg65 lg66 lg117
attribute [go_sem high] inO_accD
attribute [go_sem] NodeA.enc_eta RatA.enc_eta NodeA.op_mk NodeA.name_mk NodeA.num_mk NodeA.kids_mk i64V u32V
attribute [go_sem] strV accO_eq map_ne imp_self implies_true List.map_cons List.map_nil ne_eq
attribute [go_sem] not_true_eq_false aggV keepH_at dropH_at putL_nil putL_cons nilV_none refs_nilV
attribute [go_sem] renV_nilV srcRows_sl bop_and bop_or bop_xor putH_nil putH_cons
end Go.Proofs.YtafipfdohicfbaaGreat
