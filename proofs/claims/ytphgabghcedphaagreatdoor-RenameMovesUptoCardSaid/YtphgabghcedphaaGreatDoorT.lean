/- The table facts of the program (printed by wip/tools/types.py). -/
import Derived.Test.YtphgabghcedphaaGreatDoorProg
import Derived.Test.YtphgabghcedphaaGreatDoorIsoF
namespace Go.Proofs.YtphgabghcedphaaGreatDoor
open Go Go.Iso Go.Proofs
set_option maxRecDepth 100000
set_option linter.unusedVariables false
theorem sz3 : szOf Tryz.prog 3 = some 1 := by kernel_rfl
theorem ag3 : aggOf Tryz.prog 3 = some false := by kernel_rfl
theorem zo3 : zOf Tryz.prog 3 = some (Go.Value.int Go.IntKind.i64 0) := by kernel_rfl
theorem sz4 : szOf Tryz.prog 4 = some 1 := by kernel_rfl
theorem ag4 : aggOf Tryz.prog 4 = some false := by kernel_rfl
theorem bo4 : boolT Tryz.prog 4 = true := by kernel_rfl
theorem sz9 : szOf Tryz.prog 9 = some 1 := by kernel_rfl
theorem ag9 : aggOf Tryz.prog 9 = some false := by kernel_rfl
theorem us9 : Tryz.prog.underlying 9 = some .string := Tryz.underlying9
theorem sz22 : szOf Tryz.prog 22 = some 1 := by kernel_rfl
theorem ag22 : aggOf Tryz.prog 22 = some false := by kernel_rfl
theorem sq22 : seqT Tryz.prog 22 = true := by kernel_rfl
theorem el22 : elOf Tryz.prog 22 = some 120 := by kernel_rfl
theorem es22 : esOf Tryz.prog 22 = some 1 := by kernel_rfl
theorem et22 : elT Tryz.prog 22 = some (1, 4, [V.d (D.val (Go.Value.int Go.IntKind.u32 0))]) := by kernel_rfl
theorem sz24 : szOf Tryz.prog 24 = some 3 := by kernel_rfl
theorem ag24 : aggOf Tryz.prog 24 = some true := by kernel_rfl
theorem zo24 : zOf Tryz.prog 24 = some (Go.Value.agg #[Go.Value.bool false, Go.Value.slice none 0 0, Go.Value.slice none 0 0]) := by kernel_rfl
theorem st24 : stOk Tryz.prog 24 = true := by kernel_rfl
theorem pl24_0 : plOf Tryz.prog 24 0 = some (0, 1) := by kernel_rfl
theorem fd24_0 : fdOf Tryz.prog 24 0 = some (0, 4) := by kernel_rfl
theorem pl24_1 : plOf Tryz.prog 24 1 = some (1, 1) := by kernel_rfl
theorem fd24_1 : fdOf Tryz.prog 24 1 = some (1, 22) := by kernel_rfl
theorem pl24_2 : plOf Tryz.prog 24 2 = some (2, 1) := by kernel_rfl
theorem fd24_2 : fdOf Tryz.prog 24 2 = some (2, 22) := by kernel_rfl
theorem sz25 : szOf Tryz.prog 25 = some 1 := by kernel_rfl
theorem ag25 : aggOf Tryz.prog 25 = some false := by kernel_rfl
theorem sq25 : seqT Tryz.prog 25 = true := by kernel_rfl
theorem el25 : elOf Tryz.prog 25 = some 27 := by kernel_rfl
theorem es25 : esOf Tryz.prog 25 = some 6 := by kernel_rfl
theorem et25 : elT Tryz.prog 25 = some (6, 104, [V.d (D.val (Go.Value.int Go.IntKind.i64 0)), V.d (D.val (Go.Value.string { data := #[] })), V.d (D.val (Go.Value.bool false)), V.d (D.val (Go.Value.slice none 0 0)), V.d (D.val (Go.Value.slice none 0 0)), V.d (D.val (Go.Value.slice none 0 0))]) := by kernel_rfl
theorem sz27 : szOf Tryz.prog 27 = some 6 := by kernel_rfl
theorem ag27 : aggOf Tryz.prog 27 = some true := by kernel_rfl
theorem zo27 : zOf Tryz.prog 27 = some (Go.Value.agg #[Go.Value.int Go.IntKind.i64 0, Go.Value.string { data := #[] }, Go.Value.bool false, Go.Value.slice none 0 0, Go.Value.slice none 0 0, Go.Value.slice none 0 0]) := by kernel_rfl
theorem st27 : stOk Tryz.prog 27 = true := by kernel_rfl
theorem pl27_0 : plOf Tryz.prog 27 0 = some (0, 1) := by kernel_rfl
theorem fd27_0 : fdOf Tryz.prog 27 0 = some (0, 3) := by kernel_rfl
theorem pl27_1 : plOf Tryz.prog 27 1 = some (1, 1) := by kernel_rfl
theorem fd27_1 : fdOf Tryz.prog 27 1 = some (1, 9) := by kernel_rfl
theorem pl27_2 : plOf Tryz.prog 27 2 = some (2, 3) := by kernel_rfl
theorem fd27_2 : fdOf Tryz.prog 27 2 = some (2, 24) := by kernel_rfl
theorem pt27_2 : ptOf Tryz.prog 27 2 = some (2, 3, true) := by kernel_rfl
theorem pl27_3 : plOf Tryz.prog 27 3 = some (5, 1) := by kernel_rfl
theorem fd27_3 : fdOf Tryz.prog 27 3 = some (5, 25) := by kernel_rfl
theorem el28 : elOf Tryz.prog 28 = some 91 := by kernel_rfl
theorem sq29 : seqT Tryz.prog 29 = true := by kernel_rfl
theorem el29 : elOf Tryz.prog 29 = some 91 := by kernel_rfl
theorem es29 : esOf Tryz.prog 29 = some 4 := by kernel_rfl
theorem et29 : elT Tryz.prog 29 = some (4, 72, [V.d (D.val (Go.Value.string { data := #[] })), V.d (D.val (Go.Value.bool false)), V.d (D.val (Go.Value.slice none 0 0)), V.d (D.val (Go.Value.slice none 0 0))]) := by kernel_rfl
theorem sz36 : szOf Tryz.prog 36 = some 1 := by kernel_rfl
theorem ag36 : aggOf Tryz.prog 36 = some false := by kernel_rfl
theorem sq36 : seqT Tryz.prog 36 = true := by kernel_rfl
theorem el36 : elOf Tryz.prog 36 = some 9 := by kernel_rfl
theorem es36 : esOf Tryz.prog 36 = some 1 := by kernel_rfl
theorem et36 : elT Tryz.prog 36 = some (1, 16, [V.d (D.val (Go.Value.string { data := #[] }))]) := by kernel_rfl
theorem el58 : elOf Tryz.prog 58 = some 94 := by kernel_rfl
theorem es58 : esOf Tryz.prog 58 = some 13 := by kernel_rfl
theorem sq61 : seqT Tryz.prog 61 = true := by kernel_rfl
theorem el61 : elOf Tryz.prog 61 = some 3 := by kernel_rfl
theorem es61 : esOf Tryz.prog 61 = some 1 := by kernel_rfl
theorem et61 : elT Tryz.prog 61 = some (1, 8, [V.d (D.val (Go.Value.int Go.IntKind.i64 0))]) := by kernel_rfl
theorem sz62 : szOf Tryz.prog 62 = some 1 := by kernel_rfl
theorem ag62 : aggOf Tryz.prog 62 = some false := by kernel_rfl
theorem sq62 : seqT Tryz.prog 62 = true := by kernel_rfl
theorem el62 : elOf Tryz.prog 62 = some 3 := by kernel_rfl
theorem es62 : esOf Tryz.prog 62 = some 1 := by kernel_rfl
theorem et62 : elT Tryz.prog 62 = some (1, 8, [V.d (D.val (Go.Value.int Go.IntKind.i64 0))]) := by kernel_rfl
theorem sz64 : szOf Tryz.prog 64 = some 3 := by kernel_rfl
theorem ag64 : aggOf Tryz.prog 64 = some true := by kernel_rfl
theorem zo64 : zOf Tryz.prog 64 = some (Go.Value.agg #[Go.Value.bool false, Go.Value.slice none 0 0, Go.Value.slice none 0 0]) := by kernel_rfl
theorem st64 : stOk Tryz.prog 64 = true := by kernel_rfl
theorem pl64_0 : plOf Tryz.prog 64 0 = some (0, 1) := by kernel_rfl
theorem fd64_0 : fdOf Tryz.prog 64 0 = some (0, 4) := by kernel_rfl
theorem pl64_1 : plOf Tryz.prog 64 1 = some (1, 1) := by kernel_rfl
theorem fd64_1 : fdOf Tryz.prog 64 1 = some (1, 62) := by kernel_rfl
theorem pl64_2 : plOf Tryz.prog 64 2 = some (2, 1) := by kernel_rfl
theorem fd64_2 : fdOf Tryz.prog 64 2 = some (2, 62) := by kernel_rfl
theorem sz66 : szOf Tryz.prog 66 = some 8 := by kernel_rfl
theorem ag66 : aggOf Tryz.prog 66 = some true := by kernel_rfl
theorem zo66 : zOf Tryz.prog 66 = some (Go.Value.agg #[Go.Value.bool false, Go.Value.slice none 0 0, Go.Value.slice none 0 0, Go.Value.bool false, Go.Value.slice none 0 0, Go.Value.slice none 0 0, Go.Value.int Go.IntKind.i64 0, Go.Value.bool false]) := by kernel_rfl
theorem st66 : stOk Tryz.prog 66 = true := by kernel_rfl
theorem pl66_0 : plOf Tryz.prog 66 0 = some (0, 3) := by kernel_rfl
theorem fd66_0 : fdOf Tryz.prog 66 0 = some (0, 64) := by kernel_rfl
theorem pl66_1 : plOf Tryz.prog 66 1 = some (3, 3) := by kernel_rfl
theorem fd66_1 : fdOf Tryz.prog 66 1 = some (3, 64) := by kernel_rfl
theorem pl66_2 : plOf Tryz.prog 66 2 = some (6, 1) := by kernel_rfl
theorem fd66_2 : fdOf Tryz.prog 66 2 = some (6, 3) := by kernel_rfl
theorem pl66_3 : plOf Tryz.prog 66 3 = some (7, 1) := by kernel_rfl
theorem fd66_3 : fdOf Tryz.prog 66 3 = some (7, 4) := by kernel_rfl
theorem pt66_3 : ptOf Tryz.prog 66 3 = some (7, 1, false) := by kernel_rfl
theorem sz76 : szOf Tryz.prog 76 = some 2 := by kernel_rfl
theorem ag76 : aggOf Tryz.prog 76 = some true := by kernel_rfl
theorem zo76 : zOf Tryz.prog 76 = some (Go.Value.agg #[Go.Value.bool false, Go.Value.slice none 0 0]) := by kernel_rfl
theorem st76 : stOk Tryz.prog 76 = true := by kernel_rfl
theorem pl76_0 : plOf Tryz.prog 76 0 = some (0, 1) := by kernel_rfl
theorem fd76_0 : fdOf Tryz.prog 76 0 = some (0, 4) := by kernel_rfl
theorem pl76_1 : plOf Tryz.prog 76 1 = some (1, 1) := by kernel_rfl
theorem fd76_1 : fdOf Tryz.prog 76 1 = some (1, 36) := by kernel_rfl
theorem sz88 : szOf Tryz.prog 88 = some 1 := by kernel_rfl
theorem ag88 : aggOf Tryz.prog 88 = some false := by kernel_rfl
theorem zo88 : zOf Tryz.prog 88 = some Go.Value.nilFunc := by kernel_rfl
theorem sz89 : szOf Tryz.prog 89 = some 1 := by kernel_rfl
theorem ag89 : aggOf Tryz.prog 89 = some false := by kernel_rfl
theorem zo89 : zOf Tryz.prog 89 = some Go.Value.nilFunc := by kernel_rfl
theorem sz91 : szOf Tryz.prog 91 = some 4 := by kernel_rfl
theorem ag91 : aggOf Tryz.prog 91 = some true := by kernel_rfl
theorem zo91 : zOf Tryz.prog 91 = some (Go.Value.agg #[Go.Value.string { data := #[] }, Go.Value.bool false, Go.Value.slice none 0 0, Go.Value.slice none 0 0]) := by kernel_rfl
theorem st91 : stOk Tryz.prog 91 = true := by kernel_rfl
theorem pl91_0 : plOf Tryz.prog 91 0 = some (0, 1) := by kernel_rfl
theorem fd91_0 : fdOf Tryz.prog 91 0 = some (0, 9) := by kernel_rfl
theorem pl91_1 : plOf Tryz.prog 91 1 = some (1, 3) := by kernel_rfl
theorem fd91_1 : fdOf Tryz.prog 91 1 = some (1, 24) := by kernel_rfl
theorem sz94 : szOf Tryz.prog 94 = some 13 := by kernel_rfl
theorem ag94 : aggOf Tryz.prog 94 = some true := by kernel_rfl
theorem zo94 : zOf Tryz.prog 94 = some (Go.Value.agg #[Go.Value.int Go.IntKind.i64 0, Go.Value.string { data := #[] }, Go.Value.bool false, Go.Value.slice none 0 0, Go.Value.slice none 0 0, Go.Value.slice none 0 0, Go.Value.int Go.IntKind.i64 0, Go.Value.string { data := #[] }, Go.Value.bool false, Go.Value.slice none 0 0, Go.Value.slice none 0 0, Go.Value.slice none 0 0, Go.Value.slice none 0 0]) := by kernel_rfl
theorem fd94_0 : fdOf Tryz.prog 94 0 = some (0, 27) := by kernel_rfl
theorem fd94_1 : fdOf Tryz.prog 94 1 = some (6, 27) := by kernel_rfl
theorem fd94_2 : fdOf Tryz.prog 94 2 = some (12, 25) := by kernel_rfl
theorem sz115 : szOf Tryz.prog 115 = some 3 := by kernel_rfl
theorem ag115 : aggOf Tryz.prog 115 = some true := by kernel_rfl
theorem zo115 : zOf Tryz.prog 115 = some (Go.Value.agg #[Go.Value.bool false, Go.Value.bool false, Go.Value.bool false]) := by kernel_rfl
theorem st115 : stOk Tryz.prog 115 = true := by kernel_rfl
theorem fd115_0 : fdOf Tryz.prog 115 0 = some (0, 4) := by kernel_rfl
theorem fd115_1 : fdOf Tryz.prog 115 1 = some (1, 4) := by kernel_rfl
theorem fd115_2 : fdOf Tryz.prog 115 2 = some (2, 4) := by kernel_rfl
theorem sz120 : szOf Tryz.prog 120 = some 1 := by kernel_rfl
theorem ag120 : aggOf Tryz.prog 120 = some false := by kernel_rfl
theorem el164 : elOf Tryz.prog 164 = some 5 := by kernel_rfl
theorem mixed : Tryz.prog.follows .mixedOrders = true := by kernel_rfl
theorem ls9 {s : ByteArray} {K : V → Prop} : lenK Tryz.prog 9 (.d (.val (.string s))) K = K (.d (.val (.int .i64 s.size))) := lenK_str Tryz.underlying9
theorem ln22 {xs : List (List D)} {K : V → Prop} : lenK Tryz.prog 22 (.d (.sl xs)) K = K (.d (.val (.int .i64 xs.length))) := lenK_sl el22
theorem ln25 {xs : List (List D)} {K : V → Prop} : lenK Tryz.prog 25 (.d (.sl xs)) K = K (.d (.val (.int .i64 xs.length))) := lenK_sl el25
theorem ln29 {xs : List (List D)} {K : V → Prop} : lenK Tryz.prog 29 (.d (.sl xs)) K = K (.d (.val (.int .i64 xs.length))) := lenK_sl el29
theorem ln36 {xs : List (List D)} {K : V → Prop} : lenK Tryz.prog 36 (.d (.sl xs)) K = K (.d (.val (.int .i64 xs.length))) := lenK_sl el36
theorem ln58 {xs : List (List D)} {K : V → Prop} : lenK Tryz.prog 58 (.d (.sl xs)) K = K (.d (.val (.int .i64 xs.length))) := lenK_sl el58
theorem ln61 {xs : List (List D)} {K : V → Prop} : lenK Tryz.prog 61 (.d (.sl xs)) K = K (.d (.val (.int .i64 xs.length))) := lenK_sl el61
theorem lm61 {o k off len : Nat} {K : V → Prop} : lenK Tryz.prog 61 (.msl o k off len) K = K (.d (.val (.int .i64 len))) := lenK_msl el61
theorem la61 {o m : Nat} {out : List (List V)} {K : V → Prop} : lenK Tryz.prog 61 (accV o m out) K = K (.d (.val (.int .i64 out.length))) := lenK_acc el61
theorem ln62 {xs : List (List D)} {K : V → Prop} : lenK Tryz.prog 62 (.d (.sl xs)) K = K (.d (.val (.int .i64 xs.length))) := lenK_sl el62
theorem lm62 {o k off len : Nat} {K : V → Prop} : lenK Tryz.prog 62 (.msl o k off len) K = K (.d (.val (.int .i64 len))) := lenK_msl el62
end Go.Proofs.YtphgabghcedphaaGreatDoor
