/- The table facts of the program (printed by wip/tools/types.py). -/
import Derived.Test.YtemjeommnpocnaaGreatProg
import Derived.Test.YtemjeommnpocnaaGreatIsoF
namespace Go.Proofs.YtemjeommnpocnaaGreat
open Go Go.Iso Go.Proofs
set_option maxRecDepth 100000
set_option linter.unusedVariables false
theorem sz3 : szOf Tryz.prog 3 = some 1 := by kernel_rfl
theorem ag3 : aggOf Tryz.prog 3 = some false := by kernel_rfl
theorem zo3 : zOf Tryz.prog 3 = some (Go.Value.int Go.IntKind.i64 0) := by kernel_rfl
theorem sz4 : szOf Tryz.prog 4 = some 1 := by kernel_rfl
theorem ag4 : aggOf Tryz.prog 4 = some false := by kernel_rfl
theorem bo4 : boolT Tryz.prog 4 = true := by kernel_rfl
theorem sz5 : szOf Tryz.prog 5 = some 1 := by kernel_rfl
theorem ag5 : aggOf Tryz.prog 5 = some false := by kernel_rfl
theorem sz9 : szOf Tryz.prog 9 = some 1 := by kernel_rfl
theorem ag9 : aggOf Tryz.prog 9 = some false := by kernel_rfl
theorem sq9 : seqT Tryz.prog 9 = true := by kernel_rfl
theorem us9 : Tryz.prog.underlying 9 = some .string := Tryz.underlying9
theorem sz22 : szOf Tryz.prog 22 = some 1 := by kernel_rfl
theorem ag22 : aggOf Tryz.prog 22 = some false := by kernel_rfl
theorem sq22 : seqT Tryz.prog 22 = true := by kernel_rfl
theorem el22 : elOf Tryz.prog 22 = some 86 := by kernel_rfl
theorem es22 : esOf Tryz.prog 22 = some 1 := by kernel_rfl
theorem et22 : elT Tryz.prog 22 = some (1, 4, [V.d (D.val (Go.Value.int Go.IntKind.u32 0))]) := by kernel_rfl
theorem sz24 : szOf Tryz.prog 24 = some 3 := by kernel_rfl
theorem ag24 : aggOf Tryz.prog 24 = some true := by kernel_rfl
theorem fd24_0 : fdOf Tryz.prog 24 0 = some (0, 4) := by kernel_rfl
theorem fd24_1 : fdOf Tryz.prog 24 1 = some (1, 22) := by kernel_rfl
theorem fd24_2 : fdOf Tryz.prog 24 2 = some (2, 22) := by kernel_rfl
theorem sz25 : szOf Tryz.prog 25 = some 1 := by kernel_rfl
theorem ag25 : aggOf Tryz.prog 25 = some false := by kernel_rfl
theorem el25 : elOf Tryz.prog 25 = some 27 := by kernel_rfl
theorem es25 : esOf Tryz.prog 25 = some 6 := by kernel_rfl
theorem sz27 : szOf Tryz.prog 27 = some 6 := by kernel_rfl
theorem ag27 : aggOf Tryz.prog 27 = some true := by kernel_rfl
theorem zo27 : zOf Tryz.prog 27 = some (Go.Value.agg #[Go.Value.int Go.IntKind.i64 0, Go.Value.string { data := #[] }, Go.Value.bool false, Go.Value.slice none 0 0, Go.Value.slice none 0 0, Go.Value.slice none 0 0]) := by kernel_rfl
theorem fd27_0 : fdOf Tryz.prog 27 0 = some (0, 3) := by kernel_rfl
theorem fd27_1 : fdOf Tryz.prog 27 1 = some (1, 9) := by kernel_rfl
theorem fd27_2 : fdOf Tryz.prog 27 2 = some (2, 24) := by kernel_rfl
theorem fd27_3 : fdOf Tryz.prog 27 3 = some (5, 25) := by kernel_rfl
theorem sz41 : szOf Tryz.prog 41 = some 1 := by kernel_rfl
theorem ag41 : aggOf Tryz.prog 41 = some false := by kernel_rfl
theorem sq41 : seqT Tryz.prog 41 = true := by kernel_rfl
theorem el41 : elOf Tryz.prog 41 = some 5 := by kernel_rfl
theorem es41 : esOf Tryz.prog 41 = some 1 := by kernel_rfl
theorem et41 : elT Tryz.prog 41 = some (1, 1, [V.d (D.val (Go.Value.int Go.IntKind.u8 0))]) := by kernel_rfl
theorem sz56 : szOf Tryz.prog 56 = some 3 := by kernel_rfl
theorem ag56 : aggOf Tryz.prog 56 = some true := by kernel_rfl
theorem zo56 : zOf Tryz.prog 56 = some (Go.Value.agg #[Go.Value.bool false, Go.Value.bool false, Go.Value.bool false]) := by kernel_rfl
theorem st56 : stOk Tryz.prog 56 = true := by kernel_rfl
theorem fd56_0 : fdOf Tryz.prog 56 0 = some (0, 4) := by kernel_rfl
theorem fd56_1 : fdOf Tryz.prog 56 1 = some (1, 4) := by kernel_rfl
theorem fd56_2 : fdOf Tryz.prog 56 2 = some (2, 4) := by kernel_rfl
theorem zo59 : zOf Tryz.prog 59 = some (Go.Value.agg #[Go.Value.slice none 0 0]) := by kernel_rfl
theorem st59 : stOk Tryz.prog 59 = true := by kernel_rfl
theorem pl59_0 : plOf Tryz.prog 59 0 = some (0, 1) := by kernel_rfl
theorem fd59_0 : fdOf Tryz.prog 59 0 = some (0, 41) := by kernel_rfl
theorem sq63 : seqT Tryz.prog 63 = true := by kernel_rfl
theorem el63 : elOf Tryz.prog 63 = some 3 := by kernel_rfl
theorem es63 : esOf Tryz.prog 63 = some 1 := by kernel_rfl
theorem et63 : elT Tryz.prog 63 = some (1, 8, [V.d (D.val (Go.Value.int Go.IntKind.i64 0))]) := by kernel_rfl
theorem sz64 : szOf Tryz.prog 64 = some 1 := by kernel_rfl
theorem ag64 : aggOf Tryz.prog 64 = some false := by kernel_rfl
theorem sq64 : seqT Tryz.prog 64 = true := by kernel_rfl
theorem el64 : elOf Tryz.prog 64 = some 3 := by kernel_rfl
theorem es64 : esOf Tryz.prog 64 = some 1 := by kernel_rfl
theorem et64 : elT Tryz.prog 64 = some (1, 8, [V.d (D.val (Go.Value.int Go.IntKind.i64 0))]) := by kernel_rfl
theorem sz66 : szOf Tryz.prog 66 = some 3 := by kernel_rfl
theorem ag66 : aggOf Tryz.prog 66 = some true := by kernel_rfl
theorem zo66 : zOf Tryz.prog 66 = some (Go.Value.agg #[Go.Value.bool false, Go.Value.slice none 0 0, Go.Value.slice none 0 0]) := by kernel_rfl
theorem st66 : stOk Tryz.prog 66 = true := by kernel_rfl
theorem pl66_0 : plOf Tryz.prog 66 0 = some (0, 1) := by kernel_rfl
theorem fd66_0 : fdOf Tryz.prog 66 0 = some (0, 4) := by kernel_rfl
theorem pl66_1 : plOf Tryz.prog 66 1 = some (1, 1) := by kernel_rfl
theorem fd66_1 : fdOf Tryz.prog 66 1 = some (1, 64) := by kernel_rfl
theorem pl66_2 : plOf Tryz.prog 66 2 = some (2, 1) := by kernel_rfl
theorem fd66_2 : fdOf Tryz.prog 66 2 = some (2, 64) := by kernel_rfl
theorem el77 : elOf Tryz.prog 77 = some 9 := by kernel_rfl
theorem es77 : esOf Tryz.prog 77 = some 1 := by kernel_rfl
theorem et77 : elT Tryz.prog 77 = some (1, 16, [V.d (D.val (Go.Value.string { data := #[] }))]) := by kernel_rfl
theorem sz86 : szOf Tryz.prog 86 = some 1 := by kernel_rfl
theorem ag86 : aggOf Tryz.prog 86 = some false := by kernel_rfl
theorem sq105 : seqT Tryz.prog 105 = true := by kernel_rfl
theorem el105 : elOf Tryz.prog 105 = some 107 := by kernel_rfl
theorem es105 : esOf Tryz.prog 105 = some 1 := by kernel_rfl
theorem et105 : elT Tryz.prog 105 = some (1, 8, [V.d (D.val (Go.Value.int Go.IntKind.u64 0))]) := by kernel_rfl
theorem sz107 : szOf Tryz.prog 107 = some 1 := by kernel_rfl
theorem ag107 : aggOf Tryz.prog 107 = some false := by kernel_rfl
theorem mixed : Tryz.prog.follows .mixedOrders = true := by kernel_rfl
theorem ls9 {s : ByteArray} {K : V → Prop} : lenK Tryz.prog 9 (.d (.val (.string s))) K = K (.d (.val (.int .i64 s.size))) := lenK_str Tryz.underlying9
theorem ln22 {xs : List (List D)} {K : V → Prop} : lenK Tryz.prog 22 (.d (.sl xs)) K = K (.d (.val (.int .i64 xs.length))) := lenK_sl el22
theorem ln25 {xs : List (List D)} {K : V → Prop} : lenK Tryz.prog 25 (.d (.sl xs)) K = K (.d (.val (.int .i64 xs.length))) := lenK_sl el25
theorem ln41 {xs : List (List D)} {K : V → Prop} : lenK Tryz.prog 41 (.d (.sl xs)) K = K (.d (.val (.int .i64 xs.length))) := lenK_sl el41
theorem la41 {o m : Nat} {out : List (List V)} {K : V → Prop} : lenK Tryz.prog 41 (accV o m out) K = K (.d (.val (.int .i64 out.length))) := lenK_acc el41
theorem ln63 {xs : List (List D)} {K : V → Prop} : lenK Tryz.prog 63 (.d (.sl xs)) K = K (.d (.val (.int .i64 xs.length))) := lenK_sl el63
theorem ln64 {xs : List (List D)} {K : V → Prop} : lenK Tryz.prog 64 (.d (.sl xs)) K = K (.d (.val (.int .i64 xs.length))) := lenK_sl el64
theorem ln77 {xs : List (List D)} {K : V → Prop} : lenK Tryz.prog 77 (.d (.sl xs)) K = K (.d (.val (.int .i64 xs.length))) := lenK_sl el77
theorem la105 {o m : Nat} {out : List (List V)} {K : V → Prop} : lenK Tryz.prog 105 (accV o m out) K = K (.d (.val (.int .i64 out.length))) := lenK_acc el105
end Go.Proofs.YtemjeommnpocnaaGreat
