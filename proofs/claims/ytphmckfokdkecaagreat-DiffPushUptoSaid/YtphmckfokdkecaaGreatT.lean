/- The table facts of the program (printed by wip/tools/types.py). -/
import Derived.Test.YtphmckfokdkecaaGreatProg
import Derived.Test.YtphmckfokdkecaaGreatIsoF
namespace Go.Proofs.YtphmckfokdkecaaGreat
open Go Go.Iso Go.Proofs
set_option maxRecDepth 100000
set_option linter.unusedVariables false
theorem sz1 : szOf Tryz.prog 1 = some 1 := by kernel_rfl
theorem ag1 : aggOf Tryz.prog 1 = some false := by kernel_rfl
theorem zo1 : zOf Tryz.prog 1 = some Go.Value.nilFunc := by kernel_rfl
theorem sz2 : szOf Tryz.prog 2 = some 1 := by kernel_rfl
theorem ag2 : aggOf Tryz.prog 2 = some false := by kernel_rfl
theorem zo2 : zOf Tryz.prog 2 = some (Go.Value.int Go.IntKind.i64 0) := by kernel_rfl
theorem sz3 : szOf Tryz.prog 3 = some 1 := by kernel_rfl
theorem ag3 : aggOf Tryz.prog 3 = some false := by kernel_rfl
theorem zo3 : zOf Tryz.prog 3 = some (Go.Value.int Go.IntKind.i64 0) := by kernel_rfl
theorem sz4 : szOf Tryz.prog 4 = some 1 := by kernel_rfl
theorem ag4 : aggOf Tryz.prog 4 = some false := by kernel_rfl
theorem zo4 : zOf Tryz.prog 4 = some (Go.Value.bool false) := by kernel_rfl
theorem bo4 : boolT Tryz.prog 4 = true := by kernel_rfl
theorem sz5 : szOf Tryz.prog 5 = some 1 := by kernel_rfl
theorem ag5 : aggOf Tryz.prog 5 = some false := by kernel_rfl
theorem zo5 : zOf Tryz.prog 5 = some (Go.Value.int Go.IntKind.u8 0) := by kernel_rfl
theorem sz6 : szOf Tryz.prog 6 = some 1 := by kernel_rfl
theorem ag6 : aggOf Tryz.prog 6 = some false := by kernel_rfl
theorem zo6 : zOf Tryz.prog 6 = some (Go.Value.int Go.IntKind.u8 0) := by kernel_rfl
theorem sz7 : szOf Tryz.prog 7 = some 4 := by kernel_rfl
theorem ag7 : aggOf Tryz.prog 7 = some true := by kernel_rfl
theorem zo7 : zOf Tryz.prog 7 = some (Go.Value.agg #[Go.Value.int Go.IntKind.i64 0, Go.Value.int Go.IntKind.i64 0, Go.Value.bool false, Go.Value.int Go.IntKind.u8 0]) := by kernel_rfl
theorem st7 : stOk Tryz.prog 7 = true := by kernel_rfl
theorem pl7_0 : plOf Tryz.prog 7 0 = some (0, 1) := by kernel_rfl
theorem fd7_0 : fdOf Tryz.prog 7 0 = some (0, 2) := by kernel_rfl
theorem pt7_0 : ptOf Tryz.prog 7 0 = some (0, 1, false) := by kernel_rfl
theorem pl7_1 : plOf Tryz.prog 7 1 = some (1, 1) := by kernel_rfl
theorem fd7_1 : fdOf Tryz.prog 7 1 = some (1, 3) := by kernel_rfl
theorem pt7_1 : ptOf Tryz.prog 7 1 = some (1, 1, false) := by kernel_rfl
theorem pl7_2 : plOf Tryz.prog 7 2 = some (2, 1) := by kernel_rfl
theorem fd7_2 : fdOf Tryz.prog 7 2 = some (2, 4) := by kernel_rfl
theorem pt7_2 : ptOf Tryz.prog 7 2 = some (2, 1, false) := by kernel_rfl
theorem pl7_3 : plOf Tryz.prog 7 3 = some (3, 1) := by kernel_rfl
theorem fd7_3 : fdOf Tryz.prog 7 3 = some (3, 6) := by kernel_rfl
theorem pt7_3 : ptOf Tryz.prog 7 3 = some (3, 1, false) := by kernel_rfl
theorem sz8 : szOf Tryz.prog 8 = some 4 := by kernel_rfl
theorem ag8 : aggOf Tryz.prog 8 = some true := by kernel_rfl
theorem zo8 : zOf Tryz.prog 8 = some (Go.Value.agg #[Go.Value.int Go.IntKind.i64 0, Go.Value.int Go.IntKind.i64 0, Go.Value.bool false, Go.Value.int Go.IntKind.u8 0]) := by kernel_rfl
theorem st8 : stOk Tryz.prog 8 = true := by kernel_rfl
theorem pl8_0 : plOf Tryz.prog 8 0 = some (0, 1) := by kernel_rfl
theorem fd8_0 : fdOf Tryz.prog 8 0 = some (0, 2) := by kernel_rfl
theorem pt8_0 : ptOf Tryz.prog 8 0 = some (0, 1, false) := by kernel_rfl
theorem pl8_1 : plOf Tryz.prog 8 1 = some (1, 1) := by kernel_rfl
theorem fd8_1 : fdOf Tryz.prog 8 1 = some (1, 3) := by kernel_rfl
theorem pt8_1 : ptOf Tryz.prog 8 1 = some (1, 1, false) := by kernel_rfl
theorem pl8_2 : plOf Tryz.prog 8 2 = some (2, 1) := by kernel_rfl
theorem fd8_2 : fdOf Tryz.prog 8 2 = some (2, 4) := by kernel_rfl
theorem pt8_2 : ptOf Tryz.prog 8 2 = some (2, 1, false) := by kernel_rfl
theorem pl8_3 : plOf Tryz.prog 8 3 = some (3, 1) := by kernel_rfl
theorem fd8_3 : fdOf Tryz.prog 8 3 = some (3, 6) := by kernel_rfl
theorem pt8_3 : ptOf Tryz.prog 8 3 = some (3, 1, false) := by kernel_rfl
theorem sz9 : szOf Tryz.prog 9 = some 1 := by kernel_rfl
theorem ag9 : aggOf Tryz.prog 9 = some false := by kernel_rfl
theorem zo9 : zOf Tryz.prog 9 = some (Go.Value.string { data := #[] }) := by kernel_rfl
theorem sq9 : seqT Tryz.prog 9 = true := by kernel_rfl
theorem us9 : Tryz.prog.underlying 9 = some .string := Tryz.underlying9
theorem sz10 : szOf Tryz.prog 10 = some 1 := by kernel_rfl
theorem ag10 : aggOf Tryz.prog 10 = some false := by kernel_rfl
theorem zo10 : zOf Tryz.prog 10 = some (Go.Value.string { data := #[] }) := by kernel_rfl
theorem sq10 : seqT Tryz.prog 10 = true := by kernel_rfl
theorem us10 : Tryz.prog.underlying 10 = some .string := Tryz.underlying10
theorem sz11 : szOf Tryz.prog 11 = some 1 := by kernel_rfl
theorem ag11 : aggOf Tryz.prog 11 = some false := by kernel_rfl
theorem zo11 : zOf Tryz.prog 11 = some (Go.Value.string { data := #[] }) := by kernel_rfl
theorem sq11 : seqT Tryz.prog 11 = true := by kernel_rfl
theorem us11 : Tryz.prog.underlying 11 = some .string := Tryz.underlying11
theorem sz12 : szOf Tryz.prog 12 = some 1 := by kernel_rfl
theorem ag12 : aggOf Tryz.prog 12 = some false := by kernel_rfl
theorem zo12 : zOf Tryz.prog 12 = some (Go.Value.int Go.IntKind.u64 0) := by kernel_rfl
theorem sz13 : szOf Tryz.prog 13 = some 2 := by kernel_rfl
theorem ag13 : aggOf Tryz.prog 13 = some true := by kernel_rfl
theorem zo13 : zOf Tryz.prog 13 = some (Go.Value.agg #[Go.Value.string { data := #[] }, Go.Value.int Go.IntKind.u64 0]) := by kernel_rfl
theorem st13 : stOk Tryz.prog 13 = true := by kernel_rfl
theorem pl13_0 : plOf Tryz.prog 13 0 = some (0, 1) := by kernel_rfl
theorem fd13_0 : fdOf Tryz.prog 13 0 = some (0, 9) := by kernel_rfl
theorem pt13_0 : ptOf Tryz.prog 13 0 = some (0, 1, false) := by kernel_rfl
theorem pl13_1 : plOf Tryz.prog 13 1 = some (1, 1) := by kernel_rfl
theorem fd13_1 : fdOf Tryz.prog 13 1 = some (1, 12) := by kernel_rfl
theorem pt13_1 : ptOf Tryz.prog 13 1 = some (1, 1, false) := by kernel_rfl
theorem sz14 : szOf Tryz.prog 14 = some 2 := by kernel_rfl
theorem ag14 : aggOf Tryz.prog 14 = some true := by kernel_rfl
theorem zo14 : zOf Tryz.prog 14 = some (Go.Value.agg #[Go.Value.string { data := #[] }, Go.Value.int Go.IntKind.u64 0]) := by kernel_rfl
theorem st14 : stOk Tryz.prog 14 = true := by kernel_rfl
theorem pl14_0 : plOf Tryz.prog 14 0 = some (0, 1) := by kernel_rfl
theorem fd14_0 : fdOf Tryz.prog 14 0 = some (0, 9) := by kernel_rfl
theorem pt14_0 : ptOf Tryz.prog 14 0 = some (0, 1, false) := by kernel_rfl
theorem pl14_1 : plOf Tryz.prog 14 1 = some (1, 1) := by kernel_rfl
theorem fd14_1 : fdOf Tryz.prog 14 1 = some (1, 12) := by kernel_rfl
theorem pt14_1 : ptOf Tryz.prog 14 1 = some (1, 1, false) := by kernel_rfl
theorem sz15 : szOf Tryz.prog 15 = some 1 := by kernel_rfl
theorem ag15 : aggOf Tryz.prog 15 = some false := by kernel_rfl
theorem zo15 : zOf Tryz.prog 15 = some (Go.Value.pointer none) := by kernel_rfl
theorem sz16 : szOf Tryz.prog 16 = some 1 := by kernel_rfl
theorem ag16 : aggOf Tryz.prog 16 = some false := by kernel_rfl
theorem zo16 : zOf Tryz.prog 16 = some (Go.Value.pointer none) := by kernel_rfl
theorem sz17 : szOf Tryz.prog 17 = some 1 := by kernel_rfl
theorem ag17 : aggOf Tryz.prog 17 = some false := by kernel_rfl
theorem zo17 : zOf Tryz.prog 17 = some (Go.Value.pointer none) := by kernel_rfl
theorem sz18 : szOf Tryz.prog 18 = some 1 := by kernel_rfl
theorem ag18 : aggOf Tryz.prog 18 = some true := by kernel_rfl
theorem zo18 : zOf Tryz.prog 18 = some (Go.Value.agg #[Go.Value.pointer none]) := by kernel_rfl
theorem st18 : stOk Tryz.prog 18 = true := by kernel_rfl
theorem pl18_0 : plOf Tryz.prog 18 0 = some (0, 1) := by kernel_rfl
theorem fd18_0 : fdOf Tryz.prog 18 0 = some (0, 17) := by kernel_rfl
theorem pt18_0 : ptOf Tryz.prog 18 0 = some (0, 1, false) := by kernel_rfl
theorem sz19 : szOf Tryz.prog 19 = some 1 := by kernel_rfl
theorem ag19 : aggOf Tryz.prog 19 = some true := by kernel_rfl
theorem zo19 : zOf Tryz.prog 19 = some (Go.Value.agg #[Go.Value.pointer none]) := by kernel_rfl
theorem st19 : stOk Tryz.prog 19 = true := by kernel_rfl
theorem pl19_0 : plOf Tryz.prog 19 0 = some (0, 1) := by kernel_rfl
theorem fd19_0 : fdOf Tryz.prog 19 0 = some (0, 17) := by kernel_rfl
theorem pt19_0 : ptOf Tryz.prog 19 0 = some (0, 1, false) := by kernel_rfl
theorem sz21 : szOf Tryz.prog 21 = some 1 := by kernel_rfl
theorem ag21 : aggOf Tryz.prog 21 = some false := by kernel_rfl
theorem zo21 : zOf Tryz.prog 21 = some (Go.Value.int Go.IntKind.i32 0) := by kernel_rfl
theorem sz22 : szOf Tryz.prog 22 = some 1 := by kernel_rfl
theorem ag22 : aggOf Tryz.prog 22 = some false := by kernel_rfl
theorem zo22 : zOf Tryz.prog 22 = some (Go.Value.slice none 0 0) := by kernel_rfl
theorem sq22 : seqT Tryz.prog 22 = true := by kernel_rfl
theorem el22 : elOf Tryz.prog 22 = some 64 := by kernel_rfl
theorem es22 : esOf Tryz.prog 22 = some 1 := by kernel_rfl
theorem et22 : elT Tryz.prog 22 = some (1, 4, [V.d (D.val (Go.Value.int Go.IntKind.u32 0))]) := by kernel_rfl
theorem sz23 : szOf Tryz.prog 23 = some 3 := by kernel_rfl
theorem ag23 : aggOf Tryz.prog 23 = some true := by kernel_rfl
theorem zo23 : zOf Tryz.prog 23 = some (Go.Value.agg #[Go.Value.bool false, Go.Value.slice none 0 0, Go.Value.slice none 0 0]) := by kernel_rfl
theorem st23 : stOk Tryz.prog 23 = true := by kernel_rfl
theorem pl23_0 : plOf Tryz.prog 23 0 = some (0, 1) := by kernel_rfl
theorem fd23_0 : fdOf Tryz.prog 23 0 = some (0, 4) := by kernel_rfl
theorem pt23_0 : ptOf Tryz.prog 23 0 = some (0, 1, false) := by kernel_rfl
theorem pl23_1 : plOf Tryz.prog 23 1 = some (1, 1) := by kernel_rfl
theorem fd23_1 : fdOf Tryz.prog 23 1 = some (1, 22) := by kernel_rfl
theorem pt23_1 : ptOf Tryz.prog 23 1 = some (1, 1, false) := by kernel_rfl
theorem pl23_2 : plOf Tryz.prog 23 2 = some (2, 1) := by kernel_rfl
theorem fd23_2 : fdOf Tryz.prog 23 2 = some (2, 22) := by kernel_rfl
theorem pt23_2 : ptOf Tryz.prog 23 2 = some (2, 1, false) := by kernel_rfl
theorem sz24 : szOf Tryz.prog 24 = some 3 := by kernel_rfl
theorem ag24 : aggOf Tryz.prog 24 = some true := by kernel_rfl
theorem zo24 : zOf Tryz.prog 24 = some (Go.Value.agg #[Go.Value.bool false, Go.Value.slice none 0 0, Go.Value.slice none 0 0]) := by kernel_rfl
theorem st24 : stOk Tryz.prog 24 = true := by kernel_rfl
theorem pl24_0 : plOf Tryz.prog 24 0 = some (0, 1) := by kernel_rfl
theorem fd24_0 : fdOf Tryz.prog 24 0 = some (0, 4) := by kernel_rfl
theorem pt24_0 : ptOf Tryz.prog 24 0 = some (0, 1, false) := by kernel_rfl
theorem pl24_1 : plOf Tryz.prog 24 1 = some (1, 1) := by kernel_rfl
theorem fd24_1 : fdOf Tryz.prog 24 1 = some (1, 22) := by kernel_rfl
theorem pt24_1 : ptOf Tryz.prog 24 1 = some (1, 1, false) := by kernel_rfl
theorem pl24_2 : plOf Tryz.prog 24 2 = some (2, 1) := by kernel_rfl
theorem fd24_2 : fdOf Tryz.prog 24 2 = some (2, 22) := by kernel_rfl
theorem pt24_2 : ptOf Tryz.prog 24 2 = some (2, 1, false) := by kernel_rfl
theorem sz25 : szOf Tryz.prog 25 = some 1 := by kernel_rfl
theorem ag25 : aggOf Tryz.prog 25 = some false := by kernel_rfl
theorem zo25 : zOf Tryz.prog 25 = some (Go.Value.slice none 0 0) := by kernel_rfl
theorem sq25 : seqT Tryz.prog 25 = true := by kernel_rfl
theorem el25 : elOf Tryz.prog 25 = some 27 := by kernel_rfl
theorem es25 : esOf Tryz.prog 25 = some 6 := by kernel_rfl
theorem et25 : elT Tryz.prog 25 = some (6, 104, [V.d (D.val (Go.Value.int Go.IntKind.i64 0)), V.d (D.val (Go.Value.string { data := #[] })), V.d (D.val (Go.Value.bool false)), V.d (D.val (Go.Value.slice none 0 0)), V.d (D.val (Go.Value.slice none 0 0)), V.d (D.val (Go.Value.slice none 0 0))]) := by kernel_rfl
theorem sz26 : szOf Tryz.prog 26 = some 6 := by kernel_rfl
theorem ag26 : aggOf Tryz.prog 26 = some true := by kernel_rfl
theorem zo26 : zOf Tryz.prog 26 = some (Go.Value.agg #[Go.Value.int Go.IntKind.i64 0, Go.Value.string { data := #[] }, Go.Value.bool false, Go.Value.slice none 0 0, Go.Value.slice none 0 0, Go.Value.slice none 0 0]) := by kernel_rfl
theorem st26 : stOk Tryz.prog 26 = true := by kernel_rfl
theorem pl26_0 : plOf Tryz.prog 26 0 = some (0, 1) := by kernel_rfl
theorem fd26_0 : fdOf Tryz.prog 26 0 = some (0, 3) := by kernel_rfl
theorem pt26_0 : ptOf Tryz.prog 26 0 = some (0, 1, false) := by kernel_rfl
theorem pl26_1 : plOf Tryz.prog 26 1 = some (1, 1) := by kernel_rfl
theorem fd26_1 : fdOf Tryz.prog 26 1 = some (1, 9) := by kernel_rfl
theorem pt26_1 : ptOf Tryz.prog 26 1 = some (1, 1, false) := by kernel_rfl
theorem pl26_2 : plOf Tryz.prog 26 2 = some (2, 3) := by kernel_rfl
theorem fd26_2 : fdOf Tryz.prog 26 2 = some (2, 24) := by kernel_rfl
theorem pt26_2 : ptOf Tryz.prog 26 2 = some (2, 3, true) := by kernel_rfl
theorem pl26_3 : plOf Tryz.prog 26 3 = some (5, 1) := by kernel_rfl
theorem fd26_3 : fdOf Tryz.prog 26 3 = some (5, 25) := by kernel_rfl
theorem pt26_3 : ptOf Tryz.prog 26 3 = some (5, 1, false) := by kernel_rfl
theorem sz27 : szOf Tryz.prog 27 = some 6 := by kernel_rfl
theorem ag27 : aggOf Tryz.prog 27 = some true := by kernel_rfl
theorem zo27 : zOf Tryz.prog 27 = some (Go.Value.agg #[Go.Value.int Go.IntKind.i64 0, Go.Value.string { data := #[] }, Go.Value.bool false, Go.Value.slice none 0 0, Go.Value.slice none 0 0, Go.Value.slice none 0 0]) := by kernel_rfl
theorem st27 : stOk Tryz.prog 27 = true := by kernel_rfl
theorem pl27_0 : plOf Tryz.prog 27 0 = some (0, 1) := by kernel_rfl
theorem fd27_0 : fdOf Tryz.prog 27 0 = some (0, 3) := by kernel_rfl
theorem pt27_0 : ptOf Tryz.prog 27 0 = some (0, 1, false) := by kernel_rfl
theorem pl27_1 : plOf Tryz.prog 27 1 = some (1, 1) := by kernel_rfl
theorem fd27_1 : fdOf Tryz.prog 27 1 = some (1, 9) := by kernel_rfl
theorem pt27_1 : ptOf Tryz.prog 27 1 = some (1, 1, false) := by kernel_rfl
theorem pl27_2 : plOf Tryz.prog 27 2 = some (2, 3) := by kernel_rfl
theorem fd27_2 : fdOf Tryz.prog 27 2 = some (2, 24) := by kernel_rfl
theorem pt27_2 : ptOf Tryz.prog 27 2 = some (2, 3, true) := by kernel_rfl
theorem pl27_3 : plOf Tryz.prog 27 3 = some (5, 1) := by kernel_rfl
theorem fd27_3 : fdOf Tryz.prog 27 3 = some (5, 25) := by kernel_rfl
theorem pt27_3 : ptOf Tryz.prog 27 3 = some (5, 1, false) := by kernel_rfl
theorem sz28 : szOf Tryz.prog 28 = some 1 := by kernel_rfl
theorem ag28 : aggOf Tryz.prog 28 = some false := by kernel_rfl
theorem zo28 : zOf Tryz.prog 28 = some Go.Value.nilFunc := by kernel_rfl
theorem sz29 : szOf Tryz.prog 29 = some 1 := by kernel_rfl
theorem ag29 : aggOf Tryz.prog 29 = some false := by kernel_rfl
theorem zo29 : zOf Tryz.prog 29 = some Go.Value.nilFunc := by kernel_rfl
theorem sz30 : szOf Tryz.prog 30 = some 1 := by kernel_rfl
theorem ag30 : aggOf Tryz.prog 30 = some false := by kernel_rfl
theorem zo30 : zOf Tryz.prog 30 = some (Go.Value.int Go.IntKind.i64 0) := by kernel_rfl
theorem sz32 : szOf Tryz.prog 32 = some 1 := by kernel_rfl
theorem ag32 : aggOf Tryz.prog 32 = some false := by kernel_rfl
theorem zo32 : zOf Tryz.prog 32 = some Go.Value.nilFunc := by kernel_rfl
theorem sz33 : szOf Tryz.prog 33 = some 1 := by kernel_rfl
theorem ag33 : aggOf Tryz.prog 33 = some false := by kernel_rfl
theorem zo33 : zOf Tryz.prog 33 = some Go.Value.nilFunc := by kernel_rfl
theorem sz34 : szOf Tryz.prog 34 = some 1 := by kernel_rfl
theorem ag34 : aggOf Tryz.prog 34 = some false := by kernel_rfl
theorem zo34 : zOf Tryz.prog 34 = some Go.Value.nilFunc := by kernel_rfl
theorem sz35 : szOf Tryz.prog 35 = some 1 := by kernel_rfl
theorem ag35 : aggOf Tryz.prog 35 = some false := by kernel_rfl
theorem zo35 : zOf Tryz.prog 35 = some Go.Value.nilFunc := by kernel_rfl
theorem sz36 : szOf Tryz.prog 36 = some 1 := by kernel_rfl
theorem ag36 : aggOf Tryz.prog 36 = some false := by kernel_rfl
theorem zo36 : zOf Tryz.prog 36 = some Go.Value.nilFunc := by kernel_rfl
theorem sz37 : szOf Tryz.prog 37 = some 1 := by kernel_rfl
theorem ag37 : aggOf Tryz.prog 37 = some false := by kernel_rfl
theorem zo37 : zOf Tryz.prog 37 = some (Go.Value.slice none 0 0) := by kernel_rfl
theorem sq37 : seqT Tryz.prog 37 = true := by kernel_rfl
theorem el37 : elOf Tryz.prog 37 = some 46 := by kernel_rfl
theorem es37 : esOf Tryz.prog 37 = some 4 := by kernel_rfl
theorem et37 : elT Tryz.prog 37 = some (4, 80, [V.d (D.val (Go.Value.slice none 0 0)), V.d (D.val (Go.Value.bool false)), V.d (D.val (Go.Value.slice none 0 0)), V.d (D.val (Go.Value.slice none 0 0))]) := by kernel_rfl
theorem sz38 : szOf Tryz.prog 38 = some 2 := by kernel_rfl
theorem ag38 : aggOf Tryz.prog 38 = some true := by kernel_rfl
theorem zo38 : zOf Tryz.prog 38 = some (Go.Value.agg #[Go.Value.int Go.IntKind.i64 0, Go.Value.slice none 0 0]) := by kernel_rfl
theorem st38 : stOk Tryz.prog 38 = true := by kernel_rfl
theorem pl38_0 : plOf Tryz.prog 38 0 = some (0, 1) := by kernel_rfl
theorem fd38_0 : fdOf Tryz.prog 38 0 = some (0, 3) := by kernel_rfl
theorem pt38_0 : ptOf Tryz.prog 38 0 = some (0, 1, false) := by kernel_rfl
theorem pl38_1 : plOf Tryz.prog 38 1 = some (1, 1) := by kernel_rfl
theorem fd38_1 : fdOf Tryz.prog 38 1 = some (1, 37) := by kernel_rfl
theorem pt38_1 : ptOf Tryz.prog 38 1 = some (1, 1, false) := by kernel_rfl
theorem sz39 : szOf Tryz.prog 39 = some 2 := by kernel_rfl
theorem ag39 : aggOf Tryz.prog 39 = some true := by kernel_rfl
theorem zo39 : zOf Tryz.prog 39 = some (Go.Value.agg #[Go.Value.int Go.IntKind.i64 0, Go.Value.slice none 0 0]) := by kernel_rfl
theorem st39 : stOk Tryz.prog 39 = true := by kernel_rfl
theorem pl39_0 : plOf Tryz.prog 39 0 = some (0, 1) := by kernel_rfl
theorem fd39_0 : fdOf Tryz.prog 39 0 = some (0, 3) := by kernel_rfl
theorem pt39_0 : ptOf Tryz.prog 39 0 = some (0, 1, false) := by kernel_rfl
theorem pl39_1 : plOf Tryz.prog 39 1 = some (1, 1) := by kernel_rfl
theorem fd39_1 : fdOf Tryz.prog 39 1 = some (1, 37) := by kernel_rfl
theorem pt39_1 : ptOf Tryz.prog 39 1 = some (1, 1, false) := by kernel_rfl
theorem sz41 : szOf Tryz.prog 41 = some 1 := by kernel_rfl
theorem ag41 : aggOf Tryz.prog 41 = some false := by kernel_rfl
theorem zo41 : zOf Tryz.prog 41 = some Go.Value.nilFunc := by kernel_rfl
theorem sz42 : szOf Tryz.prog 42 = some 1 := by kernel_rfl
theorem ag42 : aggOf Tryz.prog 42 = some false := by kernel_rfl
theorem zo42 : zOf Tryz.prog 42 = some (Go.Value.slice none 0 0) := by kernel_rfl
theorem sq42 : seqT Tryz.prog 42 = true := by kernel_rfl
theorem el42 : elOf Tryz.prog 42 = some 9 := by kernel_rfl
theorem es42 : esOf Tryz.prog 42 = some 1 := by kernel_rfl
theorem et42 : elT Tryz.prog 42 = some (1, 16, [V.d (D.val (Go.Value.string { data := #[] }))]) := by kernel_rfl
theorem sz43 : szOf Tryz.prog 43 = some 1 := by kernel_rfl
theorem ag43 : aggOf Tryz.prog 43 = some false := by kernel_rfl
theorem zo43 : zOf Tryz.prog 43 = some Go.Value.nilFunc := by kernel_rfl
theorem sz44 : szOf Tryz.prog 44 = some 1 := by kernel_rfl
theorem ag44 : aggOf Tryz.prog 44 = some false := by kernel_rfl
theorem zo44 : zOf Tryz.prog 44 = some (Go.Value.slice none 0 0) := by kernel_rfl
theorem sq44 : seqT Tryz.prog 44 = true := by kernel_rfl
theorem el44 : elOf Tryz.prog 44 = some 3 := by kernel_rfl
theorem es44 : esOf Tryz.prog 44 = some 1 := by kernel_rfl
theorem et44 : elT Tryz.prog 44 = some (1, 8, [V.d (D.val (Go.Value.int Go.IntKind.i64 0))]) := by kernel_rfl
theorem sz45 : szOf Tryz.prog 45 = some 4 := by kernel_rfl
theorem ag45 : aggOf Tryz.prog 45 = some true := by kernel_rfl
theorem zo45 : zOf Tryz.prog 45 = some (Go.Value.agg #[Go.Value.slice none 0 0, Go.Value.bool false, Go.Value.slice none 0 0, Go.Value.slice none 0 0]) := by kernel_rfl
theorem st45 : stOk Tryz.prog 45 = true := by kernel_rfl
theorem pl45_0 : plOf Tryz.prog 45 0 = some (0, 1) := by kernel_rfl
theorem fd45_0 : fdOf Tryz.prog 45 0 = some (0, 44) := by kernel_rfl
theorem pt45_0 : ptOf Tryz.prog 45 0 = some (0, 1, false) := by kernel_rfl
theorem pl45_1 : plOf Tryz.prog 45 1 = some (1, 3) := by kernel_rfl
theorem fd45_1 : fdOf Tryz.prog 45 1 = some (1, 24) := by kernel_rfl
theorem pt45_1 : ptOf Tryz.prog 45 1 = some (1, 3, true) := by kernel_rfl
theorem sz46 : szOf Tryz.prog 46 = some 4 := by kernel_rfl
theorem ag46 : aggOf Tryz.prog 46 = some true := by kernel_rfl
theorem zo46 : zOf Tryz.prog 46 = some (Go.Value.agg #[Go.Value.slice none 0 0, Go.Value.bool false, Go.Value.slice none 0 0, Go.Value.slice none 0 0]) := by kernel_rfl
theorem st46 : stOk Tryz.prog 46 = true := by kernel_rfl
theorem pl46_0 : plOf Tryz.prog 46 0 = some (0, 1) := by kernel_rfl
theorem fd46_0 : fdOf Tryz.prog 46 0 = some (0, 44) := by kernel_rfl
theorem pt46_0 : ptOf Tryz.prog 46 0 = some (0, 1, false) := by kernel_rfl
theorem pl46_1 : plOf Tryz.prog 46 1 = some (1, 3) := by kernel_rfl
theorem fd46_1 : fdOf Tryz.prog 46 1 = some (1, 24) := by kernel_rfl
theorem pt46_1 : ptOf Tryz.prog 46 1 = some (1, 3, true) := by kernel_rfl
theorem sz47 : szOf Tryz.prog 47 = some 1 := by kernel_rfl
theorem ag47 : aggOf Tryz.prog 47 = some false := by kernel_rfl
theorem zo47 : zOf Tryz.prog 47 = some (Go.Value.slice none 0 0) := by kernel_rfl
theorem sq47 : seqT Tryz.prog 47 = true := by kernel_rfl
theorem el47 : elOf Tryz.prog 47 = some 3 := by kernel_rfl
theorem es47 : esOf Tryz.prog 47 = some 1 := by kernel_rfl
theorem et47 : elT Tryz.prog 47 = some (1, 8, [V.d (D.val (Go.Value.int Go.IntKind.i64 0))]) := by kernel_rfl
theorem sz48 : szOf Tryz.prog 48 = some 3 := by kernel_rfl
theorem ag48 : aggOf Tryz.prog 48 = some true := by kernel_rfl
theorem zo48 : zOf Tryz.prog 48 = some (Go.Value.agg #[Go.Value.bool false, Go.Value.slice none 0 0, Go.Value.slice none 0 0]) := by kernel_rfl
theorem st48 : stOk Tryz.prog 48 = true := by kernel_rfl
theorem pl48_0 : plOf Tryz.prog 48 0 = some (0, 1) := by kernel_rfl
theorem fd48_0 : fdOf Tryz.prog 48 0 = some (0, 4) := by kernel_rfl
theorem pt48_0 : ptOf Tryz.prog 48 0 = some (0, 1, false) := by kernel_rfl
theorem pl48_1 : plOf Tryz.prog 48 1 = some (1, 1) := by kernel_rfl
theorem fd48_1 : fdOf Tryz.prog 48 1 = some (1, 47) := by kernel_rfl
theorem pt48_1 : ptOf Tryz.prog 48 1 = some (1, 1, false) := by kernel_rfl
theorem pl48_2 : plOf Tryz.prog 48 2 = some (2, 1) := by kernel_rfl
theorem fd48_2 : fdOf Tryz.prog 48 2 = some (2, 47) := by kernel_rfl
theorem pt48_2 : ptOf Tryz.prog 48 2 = some (2, 1, false) := by kernel_rfl
theorem sz49 : szOf Tryz.prog 49 = some 3 := by kernel_rfl
theorem ag49 : aggOf Tryz.prog 49 = some true := by kernel_rfl
theorem zo49 : zOf Tryz.prog 49 = some (Go.Value.agg #[Go.Value.bool false, Go.Value.slice none 0 0, Go.Value.slice none 0 0]) := by kernel_rfl
theorem st49 : stOk Tryz.prog 49 = true := by kernel_rfl
theorem pl49_0 : plOf Tryz.prog 49 0 = some (0, 1) := by kernel_rfl
theorem fd49_0 : fdOf Tryz.prog 49 0 = some (0, 4) := by kernel_rfl
theorem pt49_0 : ptOf Tryz.prog 49 0 = some (0, 1, false) := by kernel_rfl
theorem pl49_1 : plOf Tryz.prog 49 1 = some (1, 1) := by kernel_rfl
theorem fd49_1 : fdOf Tryz.prog 49 1 = some (1, 47) := by kernel_rfl
theorem pt49_1 : ptOf Tryz.prog 49 1 = some (1, 1, false) := by kernel_rfl
theorem pl49_2 : plOf Tryz.prog 49 2 = some (2, 1) := by kernel_rfl
theorem fd49_2 : fdOf Tryz.prog 49 2 = some (2, 47) := by kernel_rfl
theorem pt49_2 : ptOf Tryz.prog 49 2 = some (2, 1, false) := by kernel_rfl
theorem sz50 : szOf Tryz.prog 50 = some 1 := by kernel_rfl
theorem ag50 : aggOf Tryz.prog 50 = some false := by kernel_rfl
theorem zo50 : zOf Tryz.prog 50 = some Go.Value.nilFunc := by kernel_rfl
theorem sz51 : szOf Tryz.prog 51 = some 1 := by kernel_rfl
theorem ag51 : aggOf Tryz.prog 51 = some false := by kernel_rfl
theorem zo51 : zOf Tryz.prog 51 = some Go.Value.nilFunc := by kernel_rfl
theorem sz52 : szOf Tryz.prog 52 = some 1 := by kernel_rfl
theorem ag52 : aggOf Tryz.prog 52 = some false := by kernel_rfl
theorem zo52 : zOf Tryz.prog 52 = some Go.Value.nilFunc := by kernel_rfl
theorem sz54 : szOf Tryz.prog 54 = some 1 := by kernel_rfl
theorem ag54 : aggOf Tryz.prog 54 = some false := by kernel_rfl
theorem zo54 : zOf Tryz.prog 54 = some Go.Value.nilFunc := by kernel_rfl
theorem sz56 : szOf Tryz.prog 56 = some 1 := by kernel_rfl
theorem ag56 : aggOf Tryz.prog 56 = some false := by kernel_rfl
theorem zo56 : zOf Tryz.prog 56 = some Go.Value.nilFunc := by kernel_rfl
theorem sz57 : szOf Tryz.prog 57 = some 1 := by kernel_rfl
theorem ag57 : aggOf Tryz.prog 57 = some false := by kernel_rfl
theorem zo57 : zOf Tryz.prog 57 = some Go.Value.nilFunc := by kernel_rfl
theorem sz58 : szOf Tryz.prog 58 = some 1 := by kernel_rfl
theorem ag58 : aggOf Tryz.prog 58 = some false := by kernel_rfl
theorem zo58 : zOf Tryz.prog 58 = some Go.Value.nilFunc := by kernel_rfl
theorem sz59 : szOf Tryz.prog 59 = some 1 := by kernel_rfl
theorem ag59 : aggOf Tryz.prog 59 = some false := by kernel_rfl
theorem zo59 : zOf Tryz.prog 59 = some Go.Value.nilFunc := by kernel_rfl
theorem sz60 : szOf Tryz.prog 60 = some 1 := by kernel_rfl
theorem ag60 : aggOf Tryz.prog 60 = some false := by kernel_rfl
theorem zo60 : zOf Tryz.prog 60 = some Go.Value.nilFunc := by kernel_rfl
theorem sz61 : szOf Tryz.prog 61 = some 1 := by kernel_rfl
theorem ag61 : aggOf Tryz.prog 61 = some false := by kernel_rfl
theorem zo61 : zOf Tryz.prog 61 = some Go.Value.nilFunc := by kernel_rfl
theorem sz62 : szOf Tryz.prog 62 = some 1 := by kernel_rfl
theorem ag62 : aggOf Tryz.prog 62 = some false := by kernel_rfl
theorem zo62 : zOf Tryz.prog 62 = some Go.Value.nilFunc := by kernel_rfl
theorem sz63 : szOf Tryz.prog 63 = some 1 := by kernel_rfl
theorem ag63 : aggOf Tryz.prog 63 = some false := by kernel_rfl
theorem zo63 : zOf Tryz.prog 63 = some Go.Value.nilFunc := by kernel_rfl
theorem sz64 : szOf Tryz.prog 64 = some 1 := by kernel_rfl
theorem ag64 : aggOf Tryz.prog 64 = some false := by kernel_rfl
theorem zo64 : zOf Tryz.prog 64 = some (Go.Value.int Go.IntKind.u32 0) := by kernel_rfl
theorem sz65 : szOf Tryz.prog 65 = some 1 := by kernel_rfl
theorem ag65 : aggOf Tryz.prog 65 = some false := by kernel_rfl
theorem zo65 : zOf Tryz.prog 65 = some Go.Value.nilFunc := by kernel_rfl
theorem sz66 : szOf Tryz.prog 66 = some 1 := by kernel_rfl
theorem ag66 : aggOf Tryz.prog 66 = some false := by kernel_rfl
theorem zo66 : zOf Tryz.prog 66 = some Go.Value.nilFunc := by kernel_rfl
theorem sz67 : szOf Tryz.prog 67 = some 1 := by kernel_rfl
theorem ag67 : aggOf Tryz.prog 67 = some false := by kernel_rfl
theorem zo67 : zOf Tryz.prog 67 = some Go.Value.nilFunc := by kernel_rfl
theorem sz68 : szOf Tryz.prog 68 = some 1 := by kernel_rfl
theorem ag68 : aggOf Tryz.prog 68 = some false := by kernel_rfl
theorem zo68 : zOf Tryz.prog 68 = some Go.Value.nilFunc := by kernel_rfl
theorem sz69 : szOf Tryz.prog 69 = some 2 := by kernel_rfl
theorem ag69 : aggOf Tryz.prog 69 = some true := by kernel_rfl
theorem zo69 : zOf Tryz.prog 69 = some (Go.Value.agg #[Go.Value.bool false, Go.Value.slice none 0 0]) := by kernel_rfl
theorem st69 : stOk Tryz.prog 69 = true := by kernel_rfl
theorem pl69_0 : plOf Tryz.prog 69 0 = some (0, 1) := by kernel_rfl
theorem fd69_0 : fdOf Tryz.prog 69 0 = some (0, 4) := by kernel_rfl
theorem pt69_0 : ptOf Tryz.prog 69 0 = some (0, 1, false) := by kernel_rfl
theorem pl69_1 : plOf Tryz.prog 69 1 = some (1, 1) := by kernel_rfl
theorem fd69_1 : fdOf Tryz.prog 69 1 = some (1, 42) := by kernel_rfl
theorem pt69_1 : ptOf Tryz.prog 69 1 = some (1, 1, false) := by kernel_rfl
theorem sz70 : szOf Tryz.prog 70 = some 2 := by kernel_rfl
theorem ag70 : aggOf Tryz.prog 70 = some true := by kernel_rfl
theorem zo70 : zOf Tryz.prog 70 = some (Go.Value.agg #[Go.Value.bool false, Go.Value.slice none 0 0]) := by kernel_rfl
theorem st70 : stOk Tryz.prog 70 = true := by kernel_rfl
theorem pl70_0 : plOf Tryz.prog 70 0 = some (0, 1) := by kernel_rfl
theorem fd70_0 : fdOf Tryz.prog 70 0 = some (0, 4) := by kernel_rfl
theorem pt70_0 : ptOf Tryz.prog 70 0 = some (0, 1, false) := by kernel_rfl
theorem pl70_1 : plOf Tryz.prog 70 1 = some (1, 1) := by kernel_rfl
theorem fd70_1 : fdOf Tryz.prog 70 1 = some (1, 42) := by kernel_rfl
theorem pt70_1 : ptOf Tryz.prog 70 1 = some (1, 1, false) := by kernel_rfl
theorem sz71 : szOf Tryz.prog 71 = some 1 := by kernel_rfl
theorem ag71 : aggOf Tryz.prog 71 = some false := by kernel_rfl
theorem zo71 : zOf Tryz.prog 71 = some Go.Value.nilFunc := by kernel_rfl
theorem sz72 : szOf Tryz.prog 72 = some 1 := by kernel_rfl
theorem ag72 : aggOf Tryz.prog 72 = some false := by kernel_rfl
theorem zo72 : zOf Tryz.prog 72 = some Go.Value.nilFunc := by kernel_rfl
theorem sz73 : szOf Tryz.prog 73 = some 1 := by kernel_rfl
theorem ag73 : aggOf Tryz.prog 73 = some false := by kernel_rfl
theorem zo73 : zOf Tryz.prog 73 = some (Go.Value.pointer none) := by kernel_rfl
theorem sz74 : szOf Tryz.prog 74 = some 2 := by kernel_rfl
theorem ag74 : aggOf Tryz.prog 74 = some true := by kernel_rfl
theorem zo74 : zOf Tryz.prog 74 = some (Go.Value.agg #[Go.Value.slice none 0 0, Go.Value.int Go.IntKind.i64 0]) := by kernel_rfl
theorem st74 : stOk Tryz.prog 74 = true := by kernel_rfl
theorem pl74_0 : plOf Tryz.prog 74 0 = some (0, 1) := by kernel_rfl
theorem fd74_0 : fdOf Tryz.prog 74 0 = some (0, 42) := by kernel_rfl
theorem pt74_0 : ptOf Tryz.prog 74 0 = some (0, 1, false) := by kernel_rfl
theorem pl74_1 : plOf Tryz.prog 74 1 = some (1, 1) := by kernel_rfl
theorem fd74_1 : fdOf Tryz.prog 74 1 = some (1, 30) := by kernel_rfl
theorem pt74_1 : ptOf Tryz.prog 74 1 = some (1, 1, false) := by kernel_rfl
theorem sz75 : szOf Tryz.prog 75 = some 2 := by kernel_rfl
theorem ag75 : aggOf Tryz.prog 75 = some true := by kernel_rfl
theorem zo75 : zOf Tryz.prog 75 = some (Go.Value.agg #[Go.Value.slice none 0 0, Go.Value.int Go.IntKind.i64 0]) := by kernel_rfl
theorem st75 : stOk Tryz.prog 75 = true := by kernel_rfl
theorem pl75_0 : plOf Tryz.prog 75 0 = some (0, 1) := by kernel_rfl
theorem fd75_0 : fdOf Tryz.prog 75 0 = some (0, 42) := by kernel_rfl
theorem pt75_0 : ptOf Tryz.prog 75 0 = some (0, 1, false) := by kernel_rfl
theorem pl75_1 : plOf Tryz.prog 75 1 = some (1, 1) := by kernel_rfl
theorem fd75_1 : fdOf Tryz.prog 75 1 = some (1, 30) := by kernel_rfl
theorem pt75_1 : ptOf Tryz.prog 75 1 = some (1, 1, false) := by kernel_rfl
theorem sz76 : szOf Tryz.prog 76 = some 1 := by kernel_rfl
theorem ag76 : aggOf Tryz.prog 76 = some false := by kernel_rfl
theorem zo76 : zOf Tryz.prog 76 = some Go.Value.nilFunc := by kernel_rfl
theorem sz77 : szOf Tryz.prog 77 = some 1 := by kernel_rfl
theorem ag77 : aggOf Tryz.prog 77 = some false := by kernel_rfl
theorem zo77 : zOf Tryz.prog 77 = some Go.Value.nilFunc := by kernel_rfl
theorem sz78 : szOf Tryz.prog 78 = some 1 := by kernel_rfl
theorem ag78 : aggOf Tryz.prog 78 = some false := by kernel_rfl
theorem zo78 : zOf Tryz.prog 78 = some Go.Value.nilFunc := by kernel_rfl
theorem sz79 : szOf Tryz.prog 79 = some 1 := by kernel_rfl
theorem ag79 : aggOf Tryz.prog 79 = some false := by kernel_rfl
theorem zo79 : zOf Tryz.prog 79 = some Go.Value.nilFunc := by kernel_rfl
theorem sz80 : szOf Tryz.prog 80 = some 1 := by kernel_rfl
theorem ag80 : aggOf Tryz.prog 80 = some false := by kernel_rfl
theorem zo80 : zOf Tryz.prog 80 = some Go.Value.nilFunc := by kernel_rfl
theorem sz81 : szOf Tryz.prog 81 = some 1 := by kernel_rfl
theorem ag81 : aggOf Tryz.prog 81 = some false := by kernel_rfl
theorem zo81 : zOf Tryz.prog 81 = some Go.Value.nilFunc := by kernel_rfl
theorem sz82 : szOf Tryz.prog 82 = some 1 := by kernel_rfl
theorem ag82 : aggOf Tryz.prog 82 = some false := by kernel_rfl
theorem zo82 : zOf Tryz.prog 82 = some Go.Value.nilFunc := by kernel_rfl
theorem sz83 : szOf Tryz.prog 83 = some 1 := by kernel_rfl
theorem ag83 : aggOf Tryz.prog 83 = some false := by kernel_rfl
theorem zo83 : zOf Tryz.prog 83 = some (Go.Value.pointer none) := by kernel_rfl
theorem sz84 : szOf Tryz.prog 84 = some 1 := by kernel_rfl
theorem ag84 : aggOf Tryz.prog 84 = some false := by kernel_rfl
theorem zo84 : zOf Tryz.prog 84 = some Go.Value.nilFunc := by kernel_rfl
theorem sz85 : szOf Tryz.prog 85 = some 3 := by kernel_rfl
theorem ag85 : aggOf Tryz.prog 85 = some true := by kernel_rfl
theorem zo85 : zOf Tryz.prog 85 = some (Go.Value.agg #[Go.Value.bool false, Go.Value.bool false, Go.Value.bool false]) := by kernel_rfl
theorem st85 : stOk Tryz.prog 85 = true := by kernel_rfl
theorem pl85_0 : plOf Tryz.prog 85 0 = some (0, 1) := by kernel_rfl
theorem fd85_0 : fdOf Tryz.prog 85 0 = some (0, 4) := by kernel_rfl
theorem pt85_0 : ptOf Tryz.prog 85 0 = some (0, 1, false) := by kernel_rfl
theorem pl85_1 : plOf Tryz.prog 85 1 = some (1, 1) := by kernel_rfl
theorem fd85_1 : fdOf Tryz.prog 85 1 = some (1, 4) := by kernel_rfl
theorem pt85_1 : ptOf Tryz.prog 85 1 = some (1, 1, false) := by kernel_rfl
theorem pl85_2 : plOf Tryz.prog 85 2 = some (2, 1) := by kernel_rfl
theorem fd85_2 : fdOf Tryz.prog 85 2 = some (2, 4) := by kernel_rfl
theorem pt85_2 : ptOf Tryz.prog 85 2 = some (2, 1, false) := by kernel_rfl
theorem sz86 : szOf Tryz.prog 86 = some 3 := by kernel_rfl
theorem ag86 : aggOf Tryz.prog 86 = some true := by kernel_rfl
theorem zo86 : zOf Tryz.prog 86 = some (Go.Value.agg #[Go.Value.bool false, Go.Value.bool false, Go.Value.bool false]) := by kernel_rfl
theorem st86 : stOk Tryz.prog 86 = true := by kernel_rfl
theorem pl86_0 : plOf Tryz.prog 86 0 = some (0, 1) := by kernel_rfl
theorem fd86_0 : fdOf Tryz.prog 86 0 = some (0, 4) := by kernel_rfl
theorem pt86_0 : ptOf Tryz.prog 86 0 = some (0, 1, false) := by kernel_rfl
theorem pl86_1 : plOf Tryz.prog 86 1 = some (1, 1) := by kernel_rfl
theorem fd86_1 : fdOf Tryz.prog 86 1 = some (1, 4) := by kernel_rfl
theorem pt86_1 : ptOf Tryz.prog 86 1 = some (1, 1, false) := by kernel_rfl
theorem pl86_2 : plOf Tryz.prog 86 2 = some (2, 1) := by kernel_rfl
theorem fd86_2 : fdOf Tryz.prog 86 2 = some (2, 4) := by kernel_rfl
theorem pt86_2 : ptOf Tryz.prog 86 2 = some (2, 1, false) := by kernel_rfl
theorem sz87 : szOf Tryz.prog 87 = some 1 := by kernel_rfl
theorem ag87 : aggOf Tryz.prog 87 = some false := by kernel_rfl
theorem zo87 : zOf Tryz.prog 87 = some Go.Value.nilFunc := by kernel_rfl
theorem sz88 : szOf Tryz.prog 88 = some 1 := by kernel_rfl
theorem ag88 : aggOf Tryz.prog 88 = some false := by kernel_rfl
theorem zo88 : zOf Tryz.prog 88 = some Go.Value.nilFunc := by kernel_rfl
theorem sz89 : szOf Tryz.prog 89 = some 1 := by kernel_rfl
theorem ag89 : aggOf Tryz.prog 89 = some false := by kernel_rfl
theorem zo89 : zOf Tryz.prog 89 = some Go.Value.nilFunc := by kernel_rfl
theorem sz90 : szOf Tryz.prog 90 = some 1 := by kernel_rfl
theorem ag90 : aggOf Tryz.prog 90 = some false := by kernel_rfl
theorem zo90 : zOf Tryz.prog 90 = some Go.Value.nilFunc := by kernel_rfl
theorem sz91 : szOf Tryz.prog 91 = some 1 := by kernel_rfl
theorem ag91 : aggOf Tryz.prog 91 = some false := by kernel_rfl
theorem zo91 : zOf Tryz.prog 91 = some Go.Value.nilFunc := by kernel_rfl
theorem sz92 : szOf Tryz.prog 92 = some 1 := by kernel_rfl
theorem ag92 : aggOf Tryz.prog 92 = some false := by kernel_rfl
theorem zo92 : zOf Tryz.prog 92 = some Go.Value.nilFunc := by kernel_rfl
theorem sz93 : szOf Tryz.prog 93 = some 1 := by kernel_rfl
theorem ag93 : aggOf Tryz.prog 93 = some false := by kernel_rfl
theorem zo93 : zOf Tryz.prog 93 = some Go.Value.nilFunc := by kernel_rfl
theorem sz94 : szOf Tryz.prog 94 = some 1 := by kernel_rfl
theorem ag94 : aggOf Tryz.prog 94 = some false := by kernel_rfl
theorem zo94 : zOf Tryz.prog 94 = some Go.Value.nilFunc := by kernel_rfl
theorem sz95 : szOf Tryz.prog 95 = some 1 := by kernel_rfl
theorem ag95 : aggOf Tryz.prog 95 = some false := by kernel_rfl
theorem zo95 : zOf Tryz.prog 95 = some Go.Value.nilFunc := by kernel_rfl
theorem sz96 : szOf Tryz.prog 96 = some 1 := by kernel_rfl
theorem ag96 : aggOf Tryz.prog 96 = some false := by kernel_rfl
theorem zo96 : zOf Tryz.prog 96 = some Go.Value.nilFunc := by kernel_rfl
theorem sz97 : szOf Tryz.prog 97 = some 1 := by kernel_rfl
theorem ag97 : aggOf Tryz.prog 97 = some false := by kernel_rfl
theorem zo97 : zOf Tryz.prog 97 = some Go.Value.nilFunc := by kernel_rfl
theorem sz98 : szOf Tryz.prog 98 = some 1 := by kernel_rfl
theorem ag98 : aggOf Tryz.prog 98 = some false := by kernel_rfl
theorem zo98 : zOf Tryz.prog 98 = some Go.Value.nilFunc := by kernel_rfl
theorem sz99 : szOf Tryz.prog 99 = some 1 := by kernel_rfl
theorem ag99 : aggOf Tryz.prog 99 = some false := by kernel_rfl
theorem zo99 : zOf Tryz.prog 99 = some Go.Value.nilFunc := by kernel_rfl
theorem sz100 : szOf Tryz.prog 100 = some 1 := by kernel_rfl
theorem ag100 : aggOf Tryz.prog 100 = some false := by kernel_rfl
theorem zo100 : zOf Tryz.prog 100 = some Go.Value.nilFunc := by kernel_rfl
theorem sz101 : szOf Tryz.prog 101 = some 1 := by kernel_rfl
theorem ag101 : aggOf Tryz.prog 101 = some false := by kernel_rfl
theorem zo101 : zOf Tryz.prog 101 = some Go.Value.nilFunc := by kernel_rfl
theorem sz102 : szOf Tryz.prog 102 = some 1 := by kernel_rfl
theorem ag102 : aggOf Tryz.prog 102 = some false := by kernel_rfl
theorem zo102 : zOf Tryz.prog 102 = some Go.Value.nilFunc := by kernel_rfl
theorem sz103 : szOf Tryz.prog 103 = some 1 := by kernel_rfl
theorem ag103 : aggOf Tryz.prog 103 = some false := by kernel_rfl
theorem zo103 : zOf Tryz.prog 103 = some Go.Value.nilFunc := by kernel_rfl
theorem sz104 : szOf Tryz.prog 104 = some 1 := by kernel_rfl
theorem ag104 : aggOf Tryz.prog 104 = some false := by kernel_rfl
theorem zo104 : zOf Tryz.prog 104 = some Go.Value.nilFunc := by kernel_rfl
theorem sz105 : szOf Tryz.prog 105 = some 1 := by kernel_rfl
theorem ag105 : aggOf Tryz.prog 105 = some false := by kernel_rfl
theorem zo105 : zOf Tryz.prog 105 = some Go.Value.nilFunc := by kernel_rfl
theorem sz106 : szOf Tryz.prog 106 = some 1 := by kernel_rfl
theorem ag106 : aggOf Tryz.prog 106 = some false := by kernel_rfl
theorem zo106 : zOf Tryz.prog 106 = some Go.Value.nilFunc := by kernel_rfl
theorem sz107 : szOf Tryz.prog 107 = some 1 := by kernel_rfl
theorem ag107 : aggOf Tryz.prog 107 = some false := by kernel_rfl
theorem zo107 : zOf Tryz.prog 107 = some Go.Value.nilFunc := by kernel_rfl
theorem sz108 : szOf Tryz.prog 108 = some 1 := by kernel_rfl
theorem ag108 : aggOf Tryz.prog 108 = some false := by kernel_rfl
theorem zo108 : zOf Tryz.prog 108 = some Go.Value.nilFunc := by kernel_rfl
theorem sz109 : szOf Tryz.prog 109 = some 1 := by kernel_rfl
theorem ag109 : aggOf Tryz.prog 109 = some false := by kernel_rfl
theorem zo109 : zOf Tryz.prog 109 = some Go.Value.nilFunc := by kernel_rfl
theorem sz110 : szOf Tryz.prog 110 = some 1 := by kernel_rfl
theorem ag110 : aggOf Tryz.prog 110 = some false := by kernel_rfl
theorem zo110 : zOf Tryz.prog 110 = some Go.Value.nilFunc := by kernel_rfl
theorem sz111 : szOf Tryz.prog 111 = some 1 := by kernel_rfl
theorem ag111 : aggOf Tryz.prog 111 = some false := by kernel_rfl
theorem zo111 : zOf Tryz.prog 111 = some Go.Value.nilFunc := by kernel_rfl
theorem sz113 : szOf Tryz.prog 113 = some 1 := by kernel_rfl
theorem ag113 : aggOf Tryz.prog 113 = some false := by kernel_rfl
theorem zo113 : zOf Tryz.prog 113 = some Go.Value.nilFunc := by kernel_rfl
theorem sz114 : szOf Tryz.prog 114 = some 1 := by kernel_rfl
theorem ag114 : aggOf Tryz.prog 114 = some false := by kernel_rfl
theorem zo114 : zOf Tryz.prog 114 = some Go.Value.nilFunc := by kernel_rfl
theorem sz115 : szOf Tryz.prog 115 = some 1 := by kernel_rfl
theorem ag115 : aggOf Tryz.prog 115 = some false := by kernel_rfl
theorem zo115 : zOf Tryz.prog 115 = some Go.Value.nilFunc := by kernel_rfl
theorem sz116 : szOf Tryz.prog 116 = some 1 := by kernel_rfl
theorem ag116 : aggOf Tryz.prog 116 = some false := by kernel_rfl
theorem zo116 : zOf Tryz.prog 116 = some Go.Value.nilFunc := by kernel_rfl
theorem sz117 : szOf Tryz.prog 117 = some 1 := by kernel_rfl
theorem ag117 : aggOf Tryz.prog 117 = some false := by kernel_rfl
theorem zo117 : zOf Tryz.prog 117 = some Go.Value.nilFunc := by kernel_rfl
theorem sz118 : szOf Tryz.prog 118 = some 1 := by kernel_rfl
theorem ag118 : aggOf Tryz.prog 118 = some false := by kernel_rfl
theorem zo118 : zOf Tryz.prog 118 = some (Go.Value.int Go.IntKind.u64 0) := by kernel_rfl
theorem sz119 : szOf Tryz.prog 119 = some 1 := by kernel_rfl
theorem ag119 : aggOf Tryz.prog 119 = some false := by kernel_rfl
theorem zo119 : zOf Tryz.prog 119 = some Go.Value.nilFunc := by kernel_rfl
theorem sz120 : szOf Tryz.prog 120 = some 1 := by kernel_rfl
theorem ag120 : aggOf Tryz.prog 120 = some false := by kernel_rfl
theorem zo120 : zOf Tryz.prog 120 = some Go.Value.nilFunc := by kernel_rfl
theorem sz121 : szOf Tryz.prog 121 = some 1 := by kernel_rfl
theorem ag121 : aggOf Tryz.prog 121 = some false := by kernel_rfl
theorem zo121 : zOf Tryz.prog 121 = some Go.Value.nilFunc := by kernel_rfl
theorem sz122 : szOf Tryz.prog 122 = some 1 := by kernel_rfl
theorem ag122 : aggOf Tryz.prog 122 = some false := by kernel_rfl
theorem zo122 : zOf Tryz.prog 122 = some Go.Value.nilFunc := by kernel_rfl
theorem sz123 : szOf Tryz.prog 123 = some 1 := by kernel_rfl
theorem ag123 : aggOf Tryz.prog 123 = some false := by kernel_rfl
theorem zo123 : zOf Tryz.prog 123 = some Go.Value.nilFunc := by kernel_rfl
theorem sz124 : szOf Tryz.prog 124 = some 1 := by kernel_rfl
theorem ag124 : aggOf Tryz.prog 124 = some false := by kernel_rfl
theorem zo124 : zOf Tryz.prog 124 = some Go.Value.nilFunc := by kernel_rfl
theorem sz125 : szOf Tryz.prog 125 = some 1 := by kernel_rfl
theorem ag125 : aggOf Tryz.prog 125 = some false := by kernel_rfl
theorem zo125 : zOf Tryz.prog 125 = some Go.Value.nilFunc := by kernel_rfl
theorem sz126 : szOf Tryz.prog 126 = some 1 := by kernel_rfl
theorem ag126 : aggOf Tryz.prog 126 = some false := by kernel_rfl
theorem zo126 : zOf Tryz.prog 126 = some Go.Value.nilFunc := by kernel_rfl
theorem sz127 : szOf Tryz.prog 127 = some 1 := by kernel_rfl
theorem ag127 : aggOf Tryz.prog 127 = some false := by kernel_rfl
theorem zo127 : zOf Tryz.prog 127 = some Go.Value.nilFunc := by kernel_rfl
theorem sz128 : szOf Tryz.prog 128 = some 1 := by kernel_rfl
theorem ag128 : aggOf Tryz.prog 128 = some false := by kernel_rfl
theorem zo128 : zOf Tryz.prog 128 = some Go.Value.nilFunc := by kernel_rfl
theorem sz129 : szOf Tryz.prog 129 = some 1 := by kernel_rfl
theorem ag129 : aggOf Tryz.prog 129 = some false := by kernel_rfl
theorem zo129 : zOf Tryz.prog 129 = some (Go.Value.int Go.IntKind.u64 0) := by kernel_rfl
theorem sz130 : szOf Tryz.prog 130 = some 1 := by kernel_rfl
theorem ag130 : aggOf Tryz.prog 130 = some false := by kernel_rfl
theorem zo130 : zOf Tryz.prog 130 = some Go.Value.nilFunc := by kernel_rfl
theorem sz131 : szOf Tryz.prog 131 = some 1 := by kernel_rfl
theorem ag131 : aggOf Tryz.prog 131 = some false := by kernel_rfl
theorem zo131 : zOf Tryz.prog 131 = some Go.Value.nilFunc := by kernel_rfl
theorem sz132 : szOf Tryz.prog 132 = some 1 := by kernel_rfl
theorem ag132 : aggOf Tryz.prog 132 = some false := by kernel_rfl
theorem zo132 : zOf Tryz.prog 132 = some Go.Value.nilFunc := by kernel_rfl
theorem sz133 : szOf Tryz.prog 133 = some 1 := by kernel_rfl
theorem ag133 : aggOf Tryz.prog 133 = some false := by kernel_rfl
theorem zo133 : zOf Tryz.prog 133 = some Go.Value.nilFunc := by kernel_rfl
theorem sz134 : szOf Tryz.prog 134 = some 1 := by kernel_rfl
theorem ag134 : aggOf Tryz.prog 134 = some false := by kernel_rfl
theorem zo134 : zOf Tryz.prog 134 = some Go.Value.nilFunc := by kernel_rfl
theorem sz135 : szOf Tryz.prog 135 = some 1 := by kernel_rfl
theorem ag135 : aggOf Tryz.prog 135 = some false := by kernel_rfl
theorem zo135 : zOf Tryz.prog 135 = some Go.Value.nilFunc := by kernel_rfl
theorem sz136 : szOf Tryz.prog 136 = some 1 := by kernel_rfl
theorem ag136 : aggOf Tryz.prog 136 = some false := by kernel_rfl
theorem zo136 : zOf Tryz.prog 136 = some Go.Value.nilFunc := by kernel_rfl
theorem sz137 : szOf Tryz.prog 137 = some 1 := by kernel_rfl
theorem ag137 : aggOf Tryz.prog 137 = some false := by kernel_rfl
theorem zo137 : zOf Tryz.prog 137 = some Go.Value.nilFunc := by kernel_rfl
theorem sz139 : szOf Tryz.prog 139 = some 1 := by kernel_rfl
theorem ag139 : aggOf Tryz.prog 139 = some false := by kernel_rfl
theorem zo139 : zOf Tryz.prog 139 = some Go.Value.nilFunc := by kernel_rfl
theorem sz140 : szOf Tryz.prog 140 = some 1 := by kernel_rfl
theorem ag140 : aggOf Tryz.prog 140 = some false := by kernel_rfl
theorem zo140 : zOf Tryz.prog 140 = some Go.Value.nilFunc := by kernel_rfl
theorem sz141 : szOf Tryz.prog 141 = some 1 := by kernel_rfl
theorem ag141 : aggOf Tryz.prog 141 = some false := by kernel_rfl
theorem zo141 : zOf Tryz.prog 141 = some Go.Value.nilFunc := by kernel_rfl
theorem sz142 : szOf Tryz.prog 142 = some 1 := by kernel_rfl
theorem ag142 : aggOf Tryz.prog 142 = some false := by kernel_rfl
theorem zo142 : zOf Tryz.prog 142 = some Go.Value.nilFunc := by kernel_rfl
theorem sz143 : szOf Tryz.prog 143 = some 1 := by kernel_rfl
theorem ag143 : aggOf Tryz.prog 143 = some false := by kernel_rfl
theorem zo143 : zOf Tryz.prog 143 = some Go.Value.nilFunc := by kernel_rfl
theorem sz144 : szOf Tryz.prog 144 = some 1 := by kernel_rfl
theorem ag144 : aggOf Tryz.prog 144 = some false := by kernel_rfl
theorem zo144 : zOf Tryz.prog 144 = some Go.Value.nilFunc := by kernel_rfl
theorem sz145 : szOf Tryz.prog 145 = some 1 := by kernel_rfl
theorem ag145 : aggOf Tryz.prog 145 = some false := by kernel_rfl
theorem zo145 : zOf Tryz.prog 145 = some Go.Value.nilFunc := by kernel_rfl
theorem sz147 : szOf Tryz.prog 147 = some 1 := by kernel_rfl
theorem ag147 : aggOf Tryz.prog 147 = some false := by kernel_rfl
theorem zo147 : zOf Tryz.prog 147 = some Go.Value.nilFunc := by kernel_rfl
theorem sz148 : szOf Tryz.prog 148 = some 1 := by kernel_rfl
theorem ag148 : aggOf Tryz.prog 148 = some false := by kernel_rfl
theorem zo148 : zOf Tryz.prog 148 = some Go.Value.nilFunc := by kernel_rfl
theorem sz150 : szOf Tryz.prog 150 = some 1 := by kernel_rfl
theorem ag150 : aggOf Tryz.prog 150 = some false := by kernel_rfl
theorem zo150 : zOf Tryz.prog 150 = some Go.Value.nilFunc := by kernel_rfl
theorem sz151 : szOf Tryz.prog 151 = some 1 := by kernel_rfl
theorem ag151 : aggOf Tryz.prog 151 = some false := by kernel_rfl
theorem zo151 : zOf Tryz.prog 151 = some Go.Value.nilFunc := by kernel_rfl
theorem sz152 : szOf Tryz.prog 152 = some 1 := by kernel_rfl
theorem ag152 : aggOf Tryz.prog 152 = some false := by kernel_rfl
theorem zo152 : zOf Tryz.prog 152 = some Go.Value.nilFunc := by kernel_rfl
theorem sz153 : szOf Tryz.prog 153 = some 1 := by kernel_rfl
theorem ag153 : aggOf Tryz.prog 153 = some false := by kernel_rfl
theorem zo153 : zOf Tryz.prog 153 = some Go.Value.nilFunc := by kernel_rfl
theorem sz154 : szOf Tryz.prog 154 = some 1 := by kernel_rfl
theorem ag154 : aggOf Tryz.prog 154 = some false := by kernel_rfl
theorem zo154 : zOf Tryz.prog 154 = some Go.Value.nilFunc := by kernel_rfl
theorem sz156 : szOf Tryz.prog 156 = some 1 := by kernel_rfl
theorem ag156 : aggOf Tryz.prog 156 = some false := by kernel_rfl
theorem zo156 : zOf Tryz.prog 156 = some Go.Value.nilFunc := by kernel_rfl
theorem sz158 : szOf Tryz.prog 158 = some 1 := by kernel_rfl
theorem ag158 : aggOf Tryz.prog 158 = some false := by kernel_rfl
theorem zo158 : zOf Tryz.prog 158 = some Go.Value.nilFunc := by kernel_rfl
theorem sz160 : szOf Tryz.prog 160 = some 1 := by kernel_rfl
theorem ag160 : aggOf Tryz.prog 160 = some false := by kernel_rfl
theorem zo160 : zOf Tryz.prog 160 = some Go.Value.nilFunc := by kernel_rfl
theorem sz161 : szOf Tryz.prog 161 = some 1 := by kernel_rfl
theorem ag161 : aggOf Tryz.prog 161 = some false := by kernel_rfl
theorem zo161 : zOf Tryz.prog 161 = some Go.Value.nilFunc := by kernel_rfl
theorem sz162 : szOf Tryz.prog 162 = some 1 := by kernel_rfl
theorem ag162 : aggOf Tryz.prog 162 = some false := by kernel_rfl
theorem zo162 : zOf Tryz.prog 162 = some Go.Value.nilFunc := by kernel_rfl
theorem sz163 : szOf Tryz.prog 163 = some 1 := by kernel_rfl
theorem ag163 : aggOf Tryz.prog 163 = some false := by kernel_rfl
theorem zo163 : zOf Tryz.prog 163 = some Go.Value.nilFunc := by kernel_rfl
theorem sz164 : szOf Tryz.prog 164 = some 1 := by kernel_rfl
theorem ag164 : aggOf Tryz.prog 164 = some false := by kernel_rfl
theorem zo164 : zOf Tryz.prog 164 = some Go.Value.nilFunc := by kernel_rfl
theorem sz165 : szOf Tryz.prog 165 = some 1 := by kernel_rfl
theorem ag165 : aggOf Tryz.prog 165 = some false := by kernel_rfl
theorem zo165 : zOf Tryz.prog 165 = some Go.Value.nilFunc := by kernel_rfl
theorem sz166 : szOf Tryz.prog 166 = some 1 := by kernel_rfl
theorem ag166 : aggOf Tryz.prog 166 = some false := by kernel_rfl
theorem zo166 : zOf Tryz.prog 166 = some Go.Value.nilFunc := by kernel_rfl
theorem sz167 : szOf Tryz.prog 167 = some 1 := by kernel_rfl
theorem ag167 : aggOf Tryz.prog 167 = some false := by kernel_rfl
theorem zo167 : zOf Tryz.prog 167 = some Go.Value.nilFunc := by kernel_rfl
theorem sz168 : szOf Tryz.prog 168 = some 1 := by kernel_rfl
theorem ag168 : aggOf Tryz.prog 168 = some false := by kernel_rfl
theorem zo168 : zOf Tryz.prog 168 = some Go.Value.nilFunc := by kernel_rfl
theorem sz169 : szOf Tryz.prog 169 = some 1 := by kernel_rfl
theorem ag169 : aggOf Tryz.prog 169 = some false := by kernel_rfl
theorem zo169 : zOf Tryz.prog 169 = some (Go.Value.int Go.IntKind.i64 0) := by kernel_rfl
theorem sz171 : szOf Tryz.prog 171 = some 1 := by kernel_rfl
theorem ag171 : aggOf Tryz.prog 171 = some false := by kernel_rfl
theorem zo171 : zOf Tryz.prog 171 = some Go.Value.nilFunc := by kernel_rfl
theorem sz172 : szOf Tryz.prog 172 = some 1 := by kernel_rfl
theorem ag172 : aggOf Tryz.prog 172 = some false := by kernel_rfl
theorem zo172 : zOf Tryz.prog 172 = some Go.Value.nilFunc := by kernel_rfl
theorem sz173 : szOf Tryz.prog 173 = some 1 := by kernel_rfl
theorem ag173 : aggOf Tryz.prog 173 = some false := by kernel_rfl
theorem zo173 : zOf Tryz.prog 173 = some Go.Value.nilFunc := by kernel_rfl
theorem sz174 : szOf Tryz.prog 174 = some 1 := by kernel_rfl
theorem ag174 : aggOf Tryz.prog 174 = some false := by kernel_rfl
theorem zo174 : zOf Tryz.prog 174 = some Go.Value.nilFunc := by kernel_rfl
theorem sz176 : szOf Tryz.prog 176 = some 1 := by kernel_rfl
theorem ag176 : aggOf Tryz.prog 176 = some false := by kernel_rfl
theorem zo176 : zOf Tryz.prog 176 = some Go.Value.nilFunc := by kernel_rfl
theorem sz177 : szOf Tryz.prog 177 = some 1 := by kernel_rfl
theorem ag177 : aggOf Tryz.prog 177 = some false := by kernel_rfl
theorem zo177 : zOf Tryz.prog 177 = some Go.Value.nilFunc := by kernel_rfl
theorem sz178 : szOf Tryz.prog 178 = some 1 := by kernel_rfl
theorem ag178 : aggOf Tryz.prog 178 = some false := by kernel_rfl
theorem zo178 : zOf Tryz.prog 178 = some Go.Value.nilFunc := by kernel_rfl
theorem sz179 : szOf Tryz.prog 179 = some 1 := by kernel_rfl
theorem ag179 : aggOf Tryz.prog 179 = some false := by kernel_rfl
theorem zo179 : zOf Tryz.prog 179 = some Go.Value.nilFunc := by kernel_rfl
theorem sz180 : szOf Tryz.prog 180 = some 1 := by kernel_rfl
theorem ag180 : aggOf Tryz.prog 180 = some false := by kernel_rfl
theorem zo180 : zOf Tryz.prog 180 = some (Go.Value.map none) := by kernel_rfl
theorem sz181 : szOf Tryz.prog 181 = some 1 := by kernel_rfl
theorem ag181 : aggOf Tryz.prog 181 = some false := by kernel_rfl
theorem zo181 : zOf Tryz.prog 181 = some Go.Value.nilFunc := by kernel_rfl
theorem sz182 : szOf Tryz.prog 182 = some 1 := by kernel_rfl
theorem ag182 : aggOf Tryz.prog 182 = some false := by kernel_rfl
theorem zo182 : zOf Tryz.prog 182 = some Go.Value.nilFunc := by kernel_rfl
theorem sz183 : szOf Tryz.prog 183 = some 1 := by kernel_rfl
theorem ag183 : aggOf Tryz.prog 183 = some false := by kernel_rfl
theorem zo183 : zOf Tryz.prog 183 = some Go.Value.nilFunc := by kernel_rfl
theorem sz184 : szOf Tryz.prog 184 = some 1 := by kernel_rfl
theorem ag184 : aggOf Tryz.prog 184 = some false := by kernel_rfl
theorem zo184 : zOf Tryz.prog 184 = some (Go.Value.int Go.IntKind.u64 0) := by kernel_rfl
theorem sz185 : szOf Tryz.prog 185 = some 1 := by kernel_rfl
theorem ag185 : aggOf Tryz.prog 185 = some false := by kernel_rfl
theorem zo185 : zOf Tryz.prog 185 = some Go.Value.nilFunc := by kernel_rfl
theorem sz186 : szOf Tryz.prog 186 = some 1 := by kernel_rfl
theorem ag186 : aggOf Tryz.prog 186 = some false := by kernel_rfl
theorem zo186 : zOf Tryz.prog 186 = some Go.Value.nilFunc := by kernel_rfl
theorem sz187 : szOf Tryz.prog 187 = some 1 := by kernel_rfl
theorem ag187 : aggOf Tryz.prog 187 = some false := by kernel_rfl
theorem zo187 : zOf Tryz.prog 187 = some Go.Value.nilFunc := by kernel_rfl
theorem sz188 : szOf Tryz.prog 188 = some 1 := by kernel_rfl
theorem ag188 : aggOf Tryz.prog 188 = some false := by kernel_rfl
theorem zo188 : zOf Tryz.prog 188 = some Go.Value.nilFunc := by kernel_rfl
theorem sz189 : szOf Tryz.prog 189 = some 1 := by kernel_rfl
theorem ag189 : aggOf Tryz.prog 189 = some false := by kernel_rfl
theorem zo189 : zOf Tryz.prog 189 = some (Go.Value.slice none 0 0) := by kernel_rfl
theorem sq189 : seqT Tryz.prog 189 = true := by kernel_rfl
theorem el189 : elOf Tryz.prog 189 = some 5 := by kernel_rfl
theorem es189 : esOf Tryz.prog 189 = some 1 := by kernel_rfl
theorem et189 : elT Tryz.prog 189 = some (1, 1, [V.d (D.val (Go.Value.int Go.IntKind.u8 0))]) := by kernel_rfl
theorem sz190 : szOf Tryz.prog 190 = some 1 := by kernel_rfl
theorem ag190 : aggOf Tryz.prog 190 = some false := by kernel_rfl
theorem zo190 : zOf Tryz.prog 190 = some (Go.Value.pointer none) := by kernel_rfl
theorem sz191 : szOf Tryz.prog 191 = some 1 := by kernel_rfl
theorem ag191 : aggOf Tryz.prog 191 = some false := by kernel_rfl
theorem zo191 : zOf Tryz.prog 191 = some (Go.Value.int Go.IntKind.u64 0) := by kernel_rfl
theorem sz192 : szOf Tryz.prog 192 = some 3 := by kernel_rfl
theorem ag192 : aggOf Tryz.prog 192 = some true := by kernel_rfl
theorem zo192 : zOf Tryz.prog 192 = some (Go.Value.agg #[Go.Value.pointer none, Go.Value.pointer none, Go.Value.int Go.IntKind.u64 0]) := by kernel_rfl
theorem st192 : stOk Tryz.prog 192 = true := by kernel_rfl
theorem pl192_0 : plOf Tryz.prog 192 0 = some (0, 1) := by kernel_rfl
theorem fd192_0 : fdOf Tryz.prog 192 0 = some (0, 17) := by kernel_rfl
theorem pt192_0 : ptOf Tryz.prog 192 0 = some (0, 1, false) := by kernel_rfl
theorem pl192_1 : plOf Tryz.prog 192 1 = some (1, 1) := by kernel_rfl
theorem fd192_1 : fdOf Tryz.prog 192 1 = some (1, 190) := by kernel_rfl
theorem pt192_1 : ptOf Tryz.prog 192 1 = some (1, 1, false) := by kernel_rfl
theorem pl192_2 : plOf Tryz.prog 192 2 = some (2, 1) := by kernel_rfl
theorem fd192_2 : fdOf Tryz.prog 192 2 = some (2, 191) := by kernel_rfl
theorem pt192_2 : ptOf Tryz.prog 192 2 = some (2, 1, false) := by kernel_rfl
theorem sz193 : szOf Tryz.prog 193 = some 3 := by kernel_rfl
theorem ag193 : aggOf Tryz.prog 193 = some true := by kernel_rfl
theorem zo193 : zOf Tryz.prog 193 = some (Go.Value.agg #[Go.Value.pointer none, Go.Value.pointer none, Go.Value.int Go.IntKind.u64 0]) := by kernel_rfl
theorem st193 : stOk Tryz.prog 193 = true := by kernel_rfl
theorem pl193_0 : plOf Tryz.prog 193 0 = some (0, 1) := by kernel_rfl
theorem fd193_0 : fdOf Tryz.prog 193 0 = some (0, 17) := by kernel_rfl
theorem pt193_0 : ptOf Tryz.prog 193 0 = some (0, 1, false) := by kernel_rfl
theorem pl193_1 : plOf Tryz.prog 193 1 = some (1, 1) := by kernel_rfl
theorem fd193_1 : fdOf Tryz.prog 193 1 = some (1, 190) := by kernel_rfl
theorem pt193_1 : ptOf Tryz.prog 193 1 = some (1, 1, false) := by kernel_rfl
theorem pl193_2 : plOf Tryz.prog 193 2 = some (2, 1) := by kernel_rfl
theorem fd193_2 : fdOf Tryz.prog 193 2 = some (2, 191) := by kernel_rfl
theorem pt193_2 : ptOf Tryz.prog 193 2 = some (2, 1, false) := by kernel_rfl
theorem sz194 : szOf Tryz.prog 194 = some 1 := by kernel_rfl
theorem ag194 : aggOf Tryz.prog 194 = some false := by kernel_rfl
theorem zo194 : zOf Tryz.prog 194 = some Go.Value.nilFunc := by kernel_rfl
theorem sz195 : szOf Tryz.prog 195 = some 1 := by kernel_rfl
theorem ag195 : aggOf Tryz.prog 195 = some false := by kernel_rfl
theorem zo195 : zOf Tryz.prog 195 = some Go.Value.nilFunc := by kernel_rfl
theorem sz196 : szOf Tryz.prog 196 = some 1 := by kernel_rfl
theorem ag196 : aggOf Tryz.prog 196 = some false := by kernel_rfl
theorem zo196 : zOf Tryz.prog 196 = some Go.Value.nilFunc := by kernel_rfl
theorem sz197 : szOf Tryz.prog 197 = some 1 := by kernel_rfl
theorem ag197 : aggOf Tryz.prog 197 = some false := by kernel_rfl
theorem zo197 : zOf Tryz.prog 197 = some Go.Value.nilFunc := by kernel_rfl
theorem sz198 : szOf Tryz.prog 198 = some 1 := by kernel_rfl
theorem ag198 : aggOf Tryz.prog 198 = some false := by kernel_rfl
theorem zo198 : zOf Tryz.prog 198 = some Go.Value.nilFunc := by kernel_rfl
theorem sz199 : szOf Tryz.prog 199 = some 2 := by kernel_rfl
theorem ag199 : aggOf Tryz.prog 199 = some true := by kernel_rfl
theorem zo199 : zOf Tryz.prog 199 = some (Go.Value.agg #[Go.Value.nilFunc, Go.Value.nilFunc]) := by kernel_rfl
theorem st199 : stOk Tryz.prog 199 = true := by kernel_rfl
theorem pl199_0 : plOf Tryz.prog 199 0 = some (0, 1) := by kernel_rfl
theorem fd199_0 : fdOf Tryz.prog 199 0 = some (0, 183) := by kernel_rfl
theorem pt199_0 : ptOf Tryz.prog 199 0 = some (0, 1, false) := by kernel_rfl
theorem pl199_1 : plOf Tryz.prog 199 1 = some (1, 1) := by kernel_rfl
theorem fd199_1 : fdOf Tryz.prog 199 1 = some (1, 195) := by kernel_rfl
theorem pt199_1 : ptOf Tryz.prog 199 1 = some (1, 1, false) := by kernel_rfl
theorem sz200 : szOf Tryz.prog 200 = some 2 := by kernel_rfl
theorem ag200 : aggOf Tryz.prog 200 = some true := by kernel_rfl
theorem zo200 : zOf Tryz.prog 200 = some (Go.Value.agg #[Go.Value.nilFunc, Go.Value.nilFunc]) := by kernel_rfl
theorem st200 : stOk Tryz.prog 200 = true := by kernel_rfl
theorem pl200_0 : plOf Tryz.prog 200 0 = some (0, 1) := by kernel_rfl
theorem fd200_0 : fdOf Tryz.prog 200 0 = some (0, 183) := by kernel_rfl
theorem pt200_0 : ptOf Tryz.prog 200 0 = some (0, 1, false) := by kernel_rfl
theorem pl200_1 : plOf Tryz.prog 200 1 = some (1, 1) := by kernel_rfl
theorem fd200_1 : fdOf Tryz.prog 200 1 = some (1, 195) := by kernel_rfl
theorem pt200_1 : ptOf Tryz.prog 200 1 = some (1, 1, false) := by kernel_rfl
theorem sz201 : szOf Tryz.prog 201 = some 1 := by kernel_rfl
theorem ag201 : aggOf Tryz.prog 201 = some false := by kernel_rfl
theorem zo201 : zOf Tryz.prog 201 = some (Go.Value.pointer none) := by kernel_rfl
theorem sz203 : szOf Tryz.prog 203 = some 1 := by kernel_rfl
theorem ag203 : aggOf Tryz.prog 203 = some false := by kernel_rfl
theorem zo203 : zOf Tryz.prog 203 = some Go.Value.nilFunc := by kernel_rfl
theorem sz204 : szOf Tryz.prog 204 = some 1 := by kernel_rfl
theorem ag204 : aggOf Tryz.prog 204 = some true := by kernel_rfl
theorem zo204 : zOf Tryz.prog 204 = some (Go.Value.agg #[Go.Value.pointer none]) := by kernel_rfl
theorem st204 : stOk Tryz.prog 204 = true := by kernel_rfl
theorem pl204_0 : plOf Tryz.prog 204 0 = some (0, 1) := by kernel_rfl
theorem fd204_0 : fdOf Tryz.prog 204 0 = some (0, 17) := by kernel_rfl
theorem pt204_0 : ptOf Tryz.prog 204 0 = some (0, 1, false) := by kernel_rfl
theorem sz205 : szOf Tryz.prog 205 = some 1 := by kernel_rfl
theorem ag205 : aggOf Tryz.prog 205 = some true := by kernel_rfl
theorem zo205 : zOf Tryz.prog 205 = some (Go.Value.agg #[Go.Value.pointer none]) := by kernel_rfl
theorem st205 : stOk Tryz.prog 205 = true := by kernel_rfl
theorem pl205_0 : plOf Tryz.prog 205 0 = some (0, 1) := by kernel_rfl
theorem fd205_0 : fdOf Tryz.prog 205 0 = some (0, 17) := by kernel_rfl
theorem pt205_0 : ptOf Tryz.prog 205 0 = some (0, 1, false) := by kernel_rfl
theorem sz206 : szOf Tryz.prog 206 = some 1 := by kernel_rfl
theorem ag206 : aggOf Tryz.prog 206 = some false := by kernel_rfl
theorem zo206 : zOf Tryz.prog 206 = some (Go.Value.pointer none) := by kernel_rfl
theorem sz207 : szOf Tryz.prog 207 = some 1 := by kernel_rfl
theorem ag207 : aggOf Tryz.prog 207 = some false := by kernel_rfl
theorem zo207 : zOf Tryz.prog 207 = some Go.Value.nilFunc := by kernel_rfl
theorem sz208 : szOf Tryz.prog 208 = some 1 := by kernel_rfl
theorem ag208 : aggOf Tryz.prog 208 = some false := by kernel_rfl
theorem zo208 : zOf Tryz.prog 208 = some (Go.Value.int Go.IntKind.i64 0) := by kernel_rfl
theorem sz210 : szOf Tryz.prog 210 = some 1 := by kernel_rfl
theorem ag210 : aggOf Tryz.prog 210 = some false := by kernel_rfl
theorem zo210 : zOf Tryz.prog 210 = some Go.Value.nilFunc := by kernel_rfl
theorem sz211 : szOf Tryz.prog 211 = some 1 := by kernel_rfl
theorem ag211 : aggOf Tryz.prog 211 = some false := by kernel_rfl
theorem zo211 : zOf Tryz.prog 211 = some Go.Value.nilFunc := by kernel_rfl
theorem sz212 : szOf Tryz.prog 212 = some 1 := by kernel_rfl
theorem ag212 : aggOf Tryz.prog 212 = some false := by kernel_rfl
theorem zo212 : zOf Tryz.prog 212 = some Go.Value.nilFunc := by kernel_rfl
theorem sz213 : szOf Tryz.prog 213 = some 1 := by kernel_rfl
theorem ag213 : aggOf Tryz.prog 213 = some false := by kernel_rfl
theorem zo213 : zOf Tryz.prog 213 = some Go.Value.nilFunc := by kernel_rfl
theorem sz214 : szOf Tryz.prog 214 = some 1 := by kernel_rfl
theorem ag214 : aggOf Tryz.prog 214 = some false := by kernel_rfl
theorem zo214 : zOf Tryz.prog 214 = some (Go.Value.int Go.IntKind.u64 0) := by kernel_rfl
theorem sz215 : szOf Tryz.prog 215 = some 1 := by kernel_rfl
theorem ag215 : aggOf Tryz.prog 215 = some false := by kernel_rfl
theorem zo215 : zOf Tryz.prog 215 = some Go.Value.nilFunc := by kernel_rfl
theorem sz216 : szOf Tryz.prog 216 = some 1 := by kernel_rfl
theorem ag216 : aggOf Tryz.prog 216 = some false := by kernel_rfl
theorem zo216 : zOf Tryz.prog 216 = some Go.Value.nilFunc := by kernel_rfl
theorem sz217 : szOf Tryz.prog 217 = some 1 := by kernel_rfl
theorem ag217 : aggOf Tryz.prog 217 = some false := by kernel_rfl
theorem zo217 : zOf Tryz.prog 217 = some (Go.Value.pointer none) := by kernel_rfl
theorem sz218 : szOf Tryz.prog 218 = some 1 := by kernel_rfl
theorem ag218 : aggOf Tryz.prog 218 = some false := by kernel_rfl
theorem zo218 : zOf Tryz.prog 218 = some Go.Value.nilFunc := by kernel_rfl
theorem sz219 : szOf Tryz.prog 219 = some 1 := by kernel_rfl
theorem ag219 : aggOf Tryz.prog 219 = some false := by kernel_rfl
theorem zo219 : zOf Tryz.prog 219 = some Go.Value.nilFunc := by kernel_rfl
theorem sz220 : szOf Tryz.prog 220 = some 4 := by kernel_rfl
theorem ag220 : aggOf Tryz.prog 220 = some true := by kernel_rfl
theorem zo220 : zOf Tryz.prog 220 = some (Go.Value.agg #[Go.Value.pointer none, Go.Value.pointer none, Go.Value.pointer none, Go.Value.string { data := #[] }]) := by kernel_rfl
theorem st220 : stOk Tryz.prog 220 = true := by kernel_rfl
theorem pl220_0 : plOf Tryz.prog 220 0 = some (0, 1) := by kernel_rfl
theorem fd220_0 : fdOf Tryz.prog 220 0 = some (0, 17) := by kernel_rfl
theorem pt220_0 : ptOf Tryz.prog 220 0 = some (0, 1, false) := by kernel_rfl
theorem pl220_1 : plOf Tryz.prog 220 1 = some (1, 1) := by kernel_rfl
theorem fd220_1 : fdOf Tryz.prog 220 1 = some (1, 17) := by kernel_rfl
theorem pt220_1 : ptOf Tryz.prog 220 1 = some (1, 1, false) := by kernel_rfl
theorem pl220_2 : plOf Tryz.prog 220 2 = some (2, 1) := by kernel_rfl
theorem fd220_2 : fdOf Tryz.prog 220 2 = some (2, 17) := by kernel_rfl
theorem pt220_2 : ptOf Tryz.prog 220 2 = some (2, 1, false) := by kernel_rfl
theorem pl220_3 : plOf Tryz.prog 220 3 = some (3, 1) := by kernel_rfl
theorem fd220_3 : fdOf Tryz.prog 220 3 = some (3, 9) := by kernel_rfl
theorem pt220_3 : ptOf Tryz.prog 220 3 = some (3, 1, false) := by kernel_rfl
theorem sz221 : szOf Tryz.prog 221 = some 4 := by kernel_rfl
theorem ag221 : aggOf Tryz.prog 221 = some true := by kernel_rfl
theorem zo221 : zOf Tryz.prog 221 = some (Go.Value.agg #[Go.Value.pointer none, Go.Value.pointer none, Go.Value.pointer none, Go.Value.string { data := #[] }]) := by kernel_rfl
theorem st221 : stOk Tryz.prog 221 = true := by kernel_rfl
theorem pl221_0 : plOf Tryz.prog 221 0 = some (0, 1) := by kernel_rfl
theorem fd221_0 : fdOf Tryz.prog 221 0 = some (0, 17) := by kernel_rfl
theorem pt221_0 : ptOf Tryz.prog 221 0 = some (0, 1, false) := by kernel_rfl
theorem pl221_1 : plOf Tryz.prog 221 1 = some (1, 1) := by kernel_rfl
theorem fd221_1 : fdOf Tryz.prog 221 1 = some (1, 17) := by kernel_rfl
theorem pt221_1 : ptOf Tryz.prog 221 1 = some (1, 1, false) := by kernel_rfl
theorem pl221_2 : plOf Tryz.prog 221 2 = some (2, 1) := by kernel_rfl
theorem fd221_2 : fdOf Tryz.prog 221 2 = some (2, 17) := by kernel_rfl
theorem pt221_2 : ptOf Tryz.prog 221 2 = some (2, 1, false) := by kernel_rfl
theorem pl221_3 : plOf Tryz.prog 221 3 = some (3, 1) := by kernel_rfl
theorem fd221_3 : fdOf Tryz.prog 221 3 = some (3, 9) := by kernel_rfl
theorem pt221_3 : ptOf Tryz.prog 221 3 = some (3, 1, false) := by kernel_rfl
theorem sz222 : szOf Tryz.prog 222 = some 0 := by kernel_rfl
theorem ag222 : aggOf Tryz.prog 222 = some true := by kernel_rfl
theorem sz223 : szOf Tryz.prog 223 = some 0 := by kernel_rfl
theorem ag223 : aggOf Tryz.prog 223 = some true := by kernel_rfl
theorem st223 : stOk Tryz.prog 223 = true := by kernel_rfl
theorem pl223_0 : plOf Tryz.prog 223 0 = some (0, 0) := by kernel_rfl
theorem sz224 : szOf Tryz.prog 224 = some 0 := by kernel_rfl
theorem ag224 : aggOf Tryz.prog 224 = some true := by kernel_rfl
theorem st224 : stOk Tryz.prog 224 = true := by kernel_rfl
theorem pl224_0 : plOf Tryz.prog 224 0 = some (0, 0) := by kernel_rfl
theorem sz225 : szOf Tryz.prog 225 = some 1 := by kernel_rfl
theorem ag225 : aggOf Tryz.prog 225 = some false := by kernel_rfl
theorem zo225 : zOf Tryz.prog 225 = some (Go.Value.int Go.IntKind.u8 0) := by kernel_rfl
theorem sz226 : szOf Tryz.prog 226 = some 1 := by kernel_rfl
theorem ag226 : aggOf Tryz.prog 226 = some false := by kernel_rfl
theorem zo226 : zOf Tryz.prog 226 = some (Go.Value.int Go.IntKind.u8 0) := by kernel_rfl
theorem sz227 : szOf Tryz.prog 227 = some 1 := by kernel_rfl
theorem ag227 : aggOf Tryz.prog 227 = some false := by kernel_rfl
theorem zo227 : zOf Tryz.prog 227 = some Go.Value.nilFunc := by kernel_rfl
theorem sz228 : szOf Tryz.prog 228 = some 1 := by kernel_rfl
theorem ag228 : aggOf Tryz.prog 228 = some false := by kernel_rfl
theorem zo228 : zOf Tryz.prog 228 = some (Go.Value.pointer none) := by kernel_rfl
theorem sz229 : szOf Tryz.prog 229 = some 1 := by kernel_rfl
theorem ag229 : aggOf Tryz.prog 229 = some false := by kernel_rfl
theorem zo229 : zOf Tryz.prog 229 = some (Go.Value.int Go.IntKind.i32 0) := by kernel_rfl
theorem sz230 : szOf Tryz.prog 230 = some 1 := by kernel_rfl
theorem ag230 : aggOf Tryz.prog 230 = some false := by kernel_rfl
theorem zo230 : zOf Tryz.prog 230 = some (Go.Value.int Go.IntKind.i32 0) := by kernel_rfl
theorem sz231 : szOf Tryz.prog 231 = some 11 := by kernel_rfl
theorem ag231 : aggOf Tryz.prog 231 = some true := by kernel_rfl
theorem zo231 : zOf Tryz.prog 231 = some (Go.Value.agg #[Go.Value.int Go.IntKind.u64 0, Go.Value.int Go.IntKind.u64 0, Go.Value.int Go.IntKind.u32 0, Go.Value.int Go.IntKind.u8 0, Go.Value.int Go.IntKind.u8 0, Go.Value.int Go.IntKind.u8 0, Go.Value.int Go.IntKind.u8 0, Go.Value.nilFunc, Go.Value.pointer none, Go.Value.int Go.IntKind.i32 0, Go.Value.int Go.IntKind.i32 0]) := by kernel_rfl
theorem st231 : stOk Tryz.prog 231 = true := by kernel_rfl
theorem pl231_0 : plOf Tryz.prog 231 0 = some (0, 1) := by kernel_rfl
theorem fd231_0 : fdOf Tryz.prog 231 0 = some (0, 12) := by kernel_rfl
theorem pt231_0 : ptOf Tryz.prog 231 0 = some (0, 1, false) := by kernel_rfl
theorem pl231_1 : plOf Tryz.prog 231 1 = some (1, 1) := by kernel_rfl
theorem fd231_1 : fdOf Tryz.prog 231 1 = some (1, 12) := by kernel_rfl
theorem pt231_1 : ptOf Tryz.prog 231 1 = some (1, 1, false) := by kernel_rfl
theorem pl231_2 : plOf Tryz.prog 231 2 = some (2, 1) := by kernel_rfl
theorem fd231_2 : fdOf Tryz.prog 231 2 = some (2, 64) := by kernel_rfl
theorem pt231_2 : ptOf Tryz.prog 231 2 = some (2, 1, false) := by kernel_rfl
theorem pl231_3 : plOf Tryz.prog 231 3 = some (3, 1) := by kernel_rfl
theorem fd231_3 : fdOf Tryz.prog 231 3 = some (3, 225) := by kernel_rfl
theorem pt231_3 : ptOf Tryz.prog 231 3 = some (3, 1, false) := by kernel_rfl
theorem pl231_4 : plOf Tryz.prog 231 4 = some (4, 1) := by kernel_rfl
theorem fd231_4 : fdOf Tryz.prog 231 4 = some (4, 5) := by kernel_rfl
theorem pt231_4 : ptOf Tryz.prog 231 4 = some (4, 1, false) := by kernel_rfl
theorem pl231_5 : plOf Tryz.prog 231 5 = some (5, 1) := by kernel_rfl
theorem fd231_5 : fdOf Tryz.prog 231 5 = some (5, 5) := by kernel_rfl
theorem pt231_5 : ptOf Tryz.prog 231 5 = some (5, 1, false) := by kernel_rfl
theorem pl231_6 : plOf Tryz.prog 231 6 = some (6, 1) := by kernel_rfl
theorem fd231_6 : fdOf Tryz.prog 231 6 = some (6, 226) := by kernel_rfl
theorem pt231_6 : ptOf Tryz.prog 231 6 = some (6, 1, false) := by kernel_rfl
theorem pl231_7 : plOf Tryz.prog 231 7 = some (7, 1) := by kernel_rfl
theorem fd231_7 : fdOf Tryz.prog 231 7 = some (7, 227) := by kernel_rfl
theorem pt231_7 : ptOf Tryz.prog 231 7 = some (7, 1, false) := by kernel_rfl
theorem pl231_8 : plOf Tryz.prog 231 8 = some (8, 1) := by kernel_rfl
theorem fd231_8 : fdOf Tryz.prog 231 8 = some (8, 228) := by kernel_rfl
theorem pt231_8 : ptOf Tryz.prog 231 8 = some (8, 1, false) := by kernel_rfl
theorem pl231_9 : plOf Tryz.prog 231 9 = some (9, 1) := by kernel_rfl
theorem fd231_9 : fdOf Tryz.prog 231 9 = some (9, 229) := by kernel_rfl
theorem pt231_9 : ptOf Tryz.prog 231 9 = some (9, 1, false) := by kernel_rfl
theorem pl231_10 : plOf Tryz.prog 231 10 = some (10, 1) := by kernel_rfl
theorem fd231_10 : fdOf Tryz.prog 231 10 = some (10, 230) := by kernel_rfl
theorem pt231_10 : ptOf Tryz.prog 231 10 = some (10, 1, false) := by kernel_rfl
theorem sz232 : szOf Tryz.prog 232 = some 11 := by kernel_rfl
theorem ag232 : aggOf Tryz.prog 232 = some true := by kernel_rfl
theorem zo232 : zOf Tryz.prog 232 = some (Go.Value.agg #[Go.Value.int Go.IntKind.u64 0, Go.Value.int Go.IntKind.u64 0, Go.Value.int Go.IntKind.u32 0, Go.Value.int Go.IntKind.u8 0, Go.Value.int Go.IntKind.u8 0, Go.Value.int Go.IntKind.u8 0, Go.Value.int Go.IntKind.u8 0, Go.Value.nilFunc, Go.Value.pointer none, Go.Value.int Go.IntKind.i32 0, Go.Value.int Go.IntKind.i32 0]) := by kernel_rfl
theorem st232 : stOk Tryz.prog 232 = true := by kernel_rfl
theorem pl232_0 : plOf Tryz.prog 232 0 = some (0, 1) := by kernel_rfl
theorem fd232_0 : fdOf Tryz.prog 232 0 = some (0, 12) := by kernel_rfl
theorem pt232_0 : ptOf Tryz.prog 232 0 = some (0, 1, false) := by kernel_rfl
theorem pl232_1 : plOf Tryz.prog 232 1 = some (1, 1) := by kernel_rfl
theorem fd232_1 : fdOf Tryz.prog 232 1 = some (1, 12) := by kernel_rfl
theorem pt232_1 : ptOf Tryz.prog 232 1 = some (1, 1, false) := by kernel_rfl
theorem pl232_2 : plOf Tryz.prog 232 2 = some (2, 1) := by kernel_rfl
theorem fd232_2 : fdOf Tryz.prog 232 2 = some (2, 64) := by kernel_rfl
theorem pt232_2 : ptOf Tryz.prog 232 2 = some (2, 1, false) := by kernel_rfl
theorem pl232_3 : plOf Tryz.prog 232 3 = some (3, 1) := by kernel_rfl
theorem fd232_3 : fdOf Tryz.prog 232 3 = some (3, 225) := by kernel_rfl
theorem pt232_3 : ptOf Tryz.prog 232 3 = some (3, 1, false) := by kernel_rfl
theorem pl232_4 : plOf Tryz.prog 232 4 = some (4, 1) := by kernel_rfl
theorem fd232_4 : fdOf Tryz.prog 232 4 = some (4, 5) := by kernel_rfl
theorem pt232_4 : ptOf Tryz.prog 232 4 = some (4, 1, false) := by kernel_rfl
theorem pl232_5 : plOf Tryz.prog 232 5 = some (5, 1) := by kernel_rfl
theorem fd232_5 : fdOf Tryz.prog 232 5 = some (5, 5) := by kernel_rfl
theorem pt232_5 : ptOf Tryz.prog 232 5 = some (5, 1, false) := by kernel_rfl
theorem pl232_6 : plOf Tryz.prog 232 6 = some (6, 1) := by kernel_rfl
theorem fd232_6 : fdOf Tryz.prog 232 6 = some (6, 226) := by kernel_rfl
theorem pt232_6 : ptOf Tryz.prog 232 6 = some (6, 1, false) := by kernel_rfl
theorem pl232_7 : plOf Tryz.prog 232 7 = some (7, 1) := by kernel_rfl
theorem fd232_7 : fdOf Tryz.prog 232 7 = some (7, 227) := by kernel_rfl
theorem pt232_7 : ptOf Tryz.prog 232 7 = some (7, 1, false) := by kernel_rfl
theorem pl232_8 : plOf Tryz.prog 232 8 = some (8, 1) := by kernel_rfl
theorem fd232_8 : fdOf Tryz.prog 232 8 = some (8, 228) := by kernel_rfl
theorem pt232_8 : ptOf Tryz.prog 232 8 = some (8, 1, false) := by kernel_rfl
theorem pl232_9 : plOf Tryz.prog 232 9 = some (9, 1) := by kernel_rfl
theorem fd232_9 : fdOf Tryz.prog 232 9 = some (9, 229) := by kernel_rfl
theorem pt232_9 : ptOf Tryz.prog 232 9 = some (9, 1, false) := by kernel_rfl
theorem pl232_10 : plOf Tryz.prog 232 10 = some (10, 1) := by kernel_rfl
theorem fd232_10 : fdOf Tryz.prog 232 10 = some (10, 230) := by kernel_rfl
theorem pt232_10 : ptOf Tryz.prog 232 10 = some (10, 1, false) := by kernel_rfl
theorem sz233 : szOf Tryz.prog 233 = some 2 := by kernel_rfl
theorem ag233 : aggOf Tryz.prog 233 = some true := by kernel_rfl
theorem zo233 : zOf Tryz.prog 233 = some (Go.Value.agg #[Go.Value.string { data := #[] }, Go.Value.int Go.IntKind.u8 0]) := by kernel_rfl
theorem st233 : stOk Tryz.prog 233 = true := by kernel_rfl
theorem pl233_0 : plOf Tryz.prog 233 0 = some (0, 1) := by kernel_rfl
theorem fd233_0 : fdOf Tryz.prog 233 0 = some (0, 9) := by kernel_rfl
theorem pt233_0 : ptOf Tryz.prog 233 0 = some (0, 1, false) := by kernel_rfl
theorem pl233_1 : plOf Tryz.prog 233 1 = some (1, 1) := by kernel_rfl
theorem fd233_1 : fdOf Tryz.prog 233 1 = some (1, 226) := by kernel_rfl
theorem pt233_1 : ptOf Tryz.prog 233 1 = some (1, 1, false) := by kernel_rfl
theorem sz234 : szOf Tryz.prog 234 = some 2 := by kernel_rfl
theorem ag234 : aggOf Tryz.prog 234 = some true := by kernel_rfl
theorem zo234 : zOf Tryz.prog 234 = some (Go.Value.agg #[Go.Value.string { data := #[] }, Go.Value.int Go.IntKind.u8 0]) := by kernel_rfl
theorem st234 : stOk Tryz.prog 234 = true := by kernel_rfl
theorem pl234_0 : plOf Tryz.prog 234 0 = some (0, 1) := by kernel_rfl
theorem fd234_0 : fdOf Tryz.prog 234 0 = some (0, 9) := by kernel_rfl
theorem pt234_0 : ptOf Tryz.prog 234 0 = some (0, 1, false) := by kernel_rfl
theorem pl234_1 : plOf Tryz.prog 234 1 = some (1, 1) := by kernel_rfl
theorem fd234_1 : fdOf Tryz.prog 234 1 = some (1, 226) := by kernel_rfl
theorem pt234_1 : ptOf Tryz.prog 234 1 = some (1, 1, false) := by kernel_rfl
theorem mixed : Tryz.prog.follows .mixedOrders = true := by kernel_rfl
theorem ls9 {s : ByteArray} {K : V → Prop} : lenK Tryz.prog 9 (.d (.val (.string s))) K = K (.d (.val (.int .i64 s.size))) := lenK_str Tryz.underlying9
theorem ls10 {s : ByteArray} {K : V → Prop} : lenK Tryz.prog 10 (.d (.val (.string s))) K = K (.d (.val (.int .i64 s.size))) := lenK_str Tryz.underlying10
theorem ls11 {s : ByteArray} {K : V → Prop} : lenK Tryz.prog 11 (.d (.val (.string s))) K = K (.d (.val (.int .i64 s.size))) := lenK_str Tryz.underlying11
theorem ln22 {xs : List (List D)} {K : V → Prop} : lenK Tryz.prog 22 (.d (.sl xs)) K = K (.d (.val (.int .i64 xs.length))) := lenK_sl el22
theorem lz22 {a : Option Addr} {m k : Nat} {K : V → Prop} : lenK Tryz.prog 22 (.d (.val (.slice a m k))) K = K (.d (.val (.int .i64 m))) := lenK_nil el22
theorem lm22 {o k off len : Nat} {K : V → Prop} : lenK Tryz.prog 22 (.msl o k off len) K = K (.d (.val (.int .i64 len))) := lenK_msl el22
theorem la22 {o m : Nat} {out : List (List V)} {K : V → Prop} : lenK Tryz.prog 22 (accV o m out) K = K (.d (.val (.int .i64 out.length))) := lenK_acc el22
theorem ln25 {xs : List (List D)} {K : V → Prop} : lenK Tryz.prog 25 (.d (.sl xs)) K = K (.d (.val (.int .i64 xs.length))) := lenK_sl el25
theorem lz25 {a : Option Addr} {m k : Nat} {K : V → Prop} : lenK Tryz.prog 25 (.d (.val (.slice a m k))) K = K (.d (.val (.int .i64 m))) := lenK_nil el25
theorem lm25 {o k off len : Nat} {K : V → Prop} : lenK Tryz.prog 25 (.msl o k off len) K = K (.d (.val (.int .i64 len))) := lenK_msl el25
theorem la25 {o m : Nat} {out : List (List V)} {K : V → Prop} : lenK Tryz.prog 25 (accV o m out) K = K (.d (.val (.int .i64 out.length))) := lenK_acc el25
theorem ln37 {xs : List (List D)} {K : V → Prop} : lenK Tryz.prog 37 (.d (.sl xs)) K = K (.d (.val (.int .i64 xs.length))) := lenK_sl el37
theorem lz37 {a : Option Addr} {m k : Nat} {K : V → Prop} : lenK Tryz.prog 37 (.d (.val (.slice a m k))) K = K (.d (.val (.int .i64 m))) := lenK_nil el37
theorem lm37 {o k off len : Nat} {K : V → Prop} : lenK Tryz.prog 37 (.msl o k off len) K = K (.d (.val (.int .i64 len))) := lenK_msl el37
theorem la37 {o m : Nat} {out : List (List V)} {K : V → Prop} : lenK Tryz.prog 37 (accV o m out) K = K (.d (.val (.int .i64 out.length))) := lenK_acc el37
theorem ln42 {xs : List (List D)} {K : V → Prop} : lenK Tryz.prog 42 (.d (.sl xs)) K = K (.d (.val (.int .i64 xs.length))) := lenK_sl el42
theorem lz42 {a : Option Addr} {m k : Nat} {K : V → Prop} : lenK Tryz.prog 42 (.d (.val (.slice a m k))) K = K (.d (.val (.int .i64 m))) := lenK_nil el42
theorem lm42 {o k off len : Nat} {K : V → Prop} : lenK Tryz.prog 42 (.msl o k off len) K = K (.d (.val (.int .i64 len))) := lenK_msl el42
theorem la42 {o m : Nat} {out : List (List V)} {K : V → Prop} : lenK Tryz.prog 42 (accV o m out) K = K (.d (.val (.int .i64 out.length))) := lenK_acc el42
theorem ln44 {xs : List (List D)} {K : V → Prop} : lenK Tryz.prog 44 (.d (.sl xs)) K = K (.d (.val (.int .i64 xs.length))) := lenK_sl el44
theorem lz44 {a : Option Addr} {m k : Nat} {K : V → Prop} : lenK Tryz.prog 44 (.d (.val (.slice a m k))) K = K (.d (.val (.int .i64 m))) := lenK_nil el44
theorem lm44 {o k off len : Nat} {K : V → Prop} : lenK Tryz.prog 44 (.msl o k off len) K = K (.d (.val (.int .i64 len))) := lenK_msl el44
theorem la44 {o m : Nat} {out : List (List V)} {K : V → Prop} : lenK Tryz.prog 44 (accV o m out) K = K (.d (.val (.int .i64 out.length))) := lenK_acc el44
theorem ln47 {xs : List (List D)} {K : V → Prop} : lenK Tryz.prog 47 (.d (.sl xs)) K = K (.d (.val (.int .i64 xs.length))) := lenK_sl el47
theorem lz47 {a : Option Addr} {m k : Nat} {K : V → Prop} : lenK Tryz.prog 47 (.d (.val (.slice a m k))) K = K (.d (.val (.int .i64 m))) := lenK_nil el47
theorem lm47 {o k off len : Nat} {K : V → Prop} : lenK Tryz.prog 47 (.msl o k off len) K = K (.d (.val (.int .i64 len))) := lenK_msl el47
theorem la47 {o m : Nat} {out : List (List V)} {K : V → Prop} : lenK Tryz.prog 47 (accV o m out) K = K (.d (.val (.int .i64 out.length))) := lenK_acc el47
theorem ln189 {xs : List (List D)} {K : V → Prop} : lenK Tryz.prog 189 (.d (.sl xs)) K = K (.d (.val (.int .i64 xs.length))) := lenK_sl el189
theorem lz189 {a : Option Addr} {m k : Nat} {K : V → Prop} : lenK Tryz.prog 189 (.d (.val (.slice a m k))) K = K (.d (.val (.int .i64 m))) := lenK_nil el189
theorem lm189 {o k off len : Nat} {K : V → Prop} : lenK Tryz.prog 189 (.msl o k off len) K = K (.d (.val (.int .i64 len))) := lenK_msl el189
theorem la189 {o m : Nat} {out : List (List V)} {K : V → Prop} : lenK Tryz.prog 189 (accV o m out) K = K (.d (.val (.int .i64 out.length))) := lenK_acc el189
end Go.Proofs.YtphmckfokdkecaaGreat
