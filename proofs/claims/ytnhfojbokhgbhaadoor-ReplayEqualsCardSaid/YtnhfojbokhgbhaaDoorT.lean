/- The table facts of the program (printed by wip/tools/types.py). -/
import Derived.Test.YtnhfojbokhgbhaaDoorProg
import Derived.Test.YtnhfojbokhgbhaaDoorIsoF
namespace Go.Proofs.YtnhfojbokhgbhaaDoor
open Go Go.Iso Go.Proofs
set_option maxRecDepth 100000
set_option linter.unusedVariables false
theorem sz1 : szOf Tryd.prog 1 = some 1 := by kernel_rfl
theorem ag1 : aggOf Tryd.prog 1 = some false := by kernel_rfl
theorem zo1 : zOf Tryd.prog 1 = some Go.Value.nilFunc := by kernel_rfl
theorem sz2 : szOf Tryd.prog 2 = some 1 := by kernel_rfl
theorem ag2 : aggOf Tryd.prog 2 = some false := by kernel_rfl
theorem zo2 : zOf Tryd.prog 2 = some (Go.Value.int Go.IntKind.i64 0) := by kernel_rfl
theorem sz3 : szOf Tryd.prog 3 = some 1 := by kernel_rfl
theorem ag3 : aggOf Tryd.prog 3 = some false := by kernel_rfl
theorem zo3 : zOf Tryd.prog 3 = some (Go.Value.int Go.IntKind.i64 0) := by kernel_rfl
theorem sz4 : szOf Tryd.prog 4 = some 1 := by kernel_rfl
theorem ag4 : aggOf Tryd.prog 4 = some false := by kernel_rfl
theorem zo4 : zOf Tryd.prog 4 = some (Go.Value.bool false) := by kernel_rfl
theorem bo4 : boolT Tryd.prog 4 = true := by kernel_rfl
theorem sz5 : szOf Tryd.prog 5 = some 1 := by kernel_rfl
theorem ag5 : aggOf Tryd.prog 5 = some false := by kernel_rfl
theorem zo5 : zOf Tryd.prog 5 = some (Go.Value.int Go.IntKind.u8 0) := by kernel_rfl
theorem sz6 : szOf Tryd.prog 6 = some 1 := by kernel_rfl
theorem ag6 : aggOf Tryd.prog 6 = some false := by kernel_rfl
theorem zo6 : zOf Tryd.prog 6 = some (Go.Value.int Go.IntKind.u8 0) := by kernel_rfl
theorem sz7 : szOf Tryd.prog 7 = some 4 := by kernel_rfl
theorem ag7 : aggOf Tryd.prog 7 = some true := by kernel_rfl
theorem zo7 : zOf Tryd.prog 7 = some (Go.Value.agg #[Go.Value.int Go.IntKind.i64 0, Go.Value.int Go.IntKind.i64 0, Go.Value.bool false, Go.Value.int Go.IntKind.u8 0]) := by kernel_rfl
theorem st7 : stOk Tryd.prog 7 = true := by kernel_rfl
theorem pl7_0 : plOf Tryd.prog 7 0 = some (0, 1) := by kernel_rfl
theorem fd7_0 : fdOf Tryd.prog 7 0 = some (0, 2) := by kernel_rfl
theorem pt7_0 : ptOf Tryd.prog 7 0 = some (0, 1, false) := by kernel_rfl
theorem pl7_1 : plOf Tryd.prog 7 1 = some (1, 1) := by kernel_rfl
theorem fd7_1 : fdOf Tryd.prog 7 1 = some (1, 3) := by kernel_rfl
theorem pt7_1 : ptOf Tryd.prog 7 1 = some (1, 1, false) := by kernel_rfl
theorem pl7_2 : plOf Tryd.prog 7 2 = some (2, 1) := by kernel_rfl
theorem fd7_2 : fdOf Tryd.prog 7 2 = some (2, 4) := by kernel_rfl
theorem pt7_2 : ptOf Tryd.prog 7 2 = some (2, 1, false) := by kernel_rfl
theorem pl7_3 : plOf Tryd.prog 7 3 = some (3, 1) := by kernel_rfl
theorem fd7_3 : fdOf Tryd.prog 7 3 = some (3, 6) := by kernel_rfl
theorem pt7_3 : ptOf Tryd.prog 7 3 = some (3, 1, false) := by kernel_rfl
theorem sz8 : szOf Tryd.prog 8 = some 4 := by kernel_rfl
theorem ag8 : aggOf Tryd.prog 8 = some true := by kernel_rfl
theorem zo8 : zOf Tryd.prog 8 = some (Go.Value.agg #[Go.Value.int Go.IntKind.i64 0, Go.Value.int Go.IntKind.i64 0, Go.Value.bool false, Go.Value.int Go.IntKind.u8 0]) := by kernel_rfl
theorem st8 : stOk Tryd.prog 8 = true := by kernel_rfl
theorem pl8_0 : plOf Tryd.prog 8 0 = some (0, 1) := by kernel_rfl
theorem fd8_0 : fdOf Tryd.prog 8 0 = some (0, 2) := by kernel_rfl
theorem pt8_0 : ptOf Tryd.prog 8 0 = some (0, 1, false) := by kernel_rfl
theorem pl8_1 : plOf Tryd.prog 8 1 = some (1, 1) := by kernel_rfl
theorem fd8_1 : fdOf Tryd.prog 8 1 = some (1, 3) := by kernel_rfl
theorem pt8_1 : ptOf Tryd.prog 8 1 = some (1, 1, false) := by kernel_rfl
theorem pl8_2 : plOf Tryd.prog 8 2 = some (2, 1) := by kernel_rfl
theorem fd8_2 : fdOf Tryd.prog 8 2 = some (2, 4) := by kernel_rfl
theorem pt8_2 : ptOf Tryd.prog 8 2 = some (2, 1, false) := by kernel_rfl
theorem pl8_3 : plOf Tryd.prog 8 3 = some (3, 1) := by kernel_rfl
theorem fd8_3 : fdOf Tryd.prog 8 3 = some (3, 6) := by kernel_rfl
theorem pt8_3 : ptOf Tryd.prog 8 3 = some (3, 1, false) := by kernel_rfl
theorem sz9 : szOf Tryd.prog 9 = some 1 := by kernel_rfl
theorem ag9 : aggOf Tryd.prog 9 = some false := by kernel_rfl
theorem zo9 : zOf Tryd.prog 9 = some (Go.Value.string { data := #[] }) := by kernel_rfl
theorem sq9 : seqT Tryd.prog 9 = true := by kernel_rfl
theorem us9 : Tryd.prog.underlying 9 = some .string := Tryd.underlying9
theorem sz10 : szOf Tryd.prog 10 = some 1 := by kernel_rfl
theorem ag10 : aggOf Tryd.prog 10 = some false := by kernel_rfl
theorem zo10 : zOf Tryd.prog 10 = some (Go.Value.string { data := #[] }) := by kernel_rfl
theorem sq10 : seqT Tryd.prog 10 = true := by kernel_rfl
theorem us10 : Tryd.prog.underlying 10 = some .string := Tryd.underlying10
theorem sz11 : szOf Tryd.prog 11 = some 1 := by kernel_rfl
theorem ag11 : aggOf Tryd.prog 11 = some false := by kernel_rfl
theorem zo11 : zOf Tryd.prog 11 = some (Go.Value.string { data := #[] }) := by kernel_rfl
theorem sq11 : seqT Tryd.prog 11 = true := by kernel_rfl
theorem us11 : Tryd.prog.underlying 11 = some .string := Tryd.underlying11
theorem sz12 : szOf Tryd.prog 12 = some 1 := by kernel_rfl
theorem ag12 : aggOf Tryd.prog 12 = some false := by kernel_rfl
theorem zo12 : zOf Tryd.prog 12 = some (Go.Value.int Go.IntKind.u64 0) := by kernel_rfl
theorem sz13 : szOf Tryd.prog 13 = some 2 := by kernel_rfl
theorem ag13 : aggOf Tryd.prog 13 = some true := by kernel_rfl
theorem zo13 : zOf Tryd.prog 13 = some (Go.Value.agg #[Go.Value.string { data := #[] }, Go.Value.int Go.IntKind.u64 0]) := by kernel_rfl
theorem st13 : stOk Tryd.prog 13 = true := by kernel_rfl
theorem pl13_0 : plOf Tryd.prog 13 0 = some (0, 1) := by kernel_rfl
theorem fd13_0 : fdOf Tryd.prog 13 0 = some (0, 9) := by kernel_rfl
theorem pt13_0 : ptOf Tryd.prog 13 0 = some (0, 1, false) := by kernel_rfl
theorem pl13_1 : plOf Tryd.prog 13 1 = some (1, 1) := by kernel_rfl
theorem fd13_1 : fdOf Tryd.prog 13 1 = some (1, 12) := by kernel_rfl
theorem pt13_1 : ptOf Tryd.prog 13 1 = some (1, 1, false) := by kernel_rfl
theorem sz14 : szOf Tryd.prog 14 = some 2 := by kernel_rfl
theorem ag14 : aggOf Tryd.prog 14 = some true := by kernel_rfl
theorem zo14 : zOf Tryd.prog 14 = some (Go.Value.agg #[Go.Value.string { data := #[] }, Go.Value.int Go.IntKind.u64 0]) := by kernel_rfl
theorem st14 : stOk Tryd.prog 14 = true := by kernel_rfl
theorem pl14_0 : plOf Tryd.prog 14 0 = some (0, 1) := by kernel_rfl
theorem fd14_0 : fdOf Tryd.prog 14 0 = some (0, 9) := by kernel_rfl
theorem pt14_0 : ptOf Tryd.prog 14 0 = some (0, 1, false) := by kernel_rfl
theorem pl14_1 : plOf Tryd.prog 14 1 = some (1, 1) := by kernel_rfl
theorem fd14_1 : fdOf Tryd.prog 14 1 = some (1, 12) := by kernel_rfl
theorem pt14_1 : ptOf Tryd.prog 14 1 = some (1, 1, false) := by kernel_rfl
theorem sz15 : szOf Tryd.prog 15 = some 1 := by kernel_rfl
theorem ag15 : aggOf Tryd.prog 15 = some false := by kernel_rfl
theorem zo15 : zOf Tryd.prog 15 = some (Go.Value.pointer none) := by kernel_rfl
theorem sz16 : szOf Tryd.prog 16 = some 1 := by kernel_rfl
theorem ag16 : aggOf Tryd.prog 16 = some false := by kernel_rfl
theorem zo16 : zOf Tryd.prog 16 = some (Go.Value.pointer none) := by kernel_rfl
theorem sz17 : szOf Tryd.prog 17 = some 1 := by kernel_rfl
theorem ag17 : aggOf Tryd.prog 17 = some false := by kernel_rfl
theorem zo17 : zOf Tryd.prog 17 = some (Go.Value.pointer none) := by kernel_rfl
theorem sz18 : szOf Tryd.prog 18 = some 1 := by kernel_rfl
theorem ag18 : aggOf Tryd.prog 18 = some true := by kernel_rfl
theorem zo18 : zOf Tryd.prog 18 = some (Go.Value.agg #[Go.Value.pointer none]) := by kernel_rfl
theorem st18 : stOk Tryd.prog 18 = true := by kernel_rfl
theorem pl18_0 : plOf Tryd.prog 18 0 = some (0, 1) := by kernel_rfl
theorem fd18_0 : fdOf Tryd.prog 18 0 = some (0, 17) := by kernel_rfl
theorem pt18_0 : ptOf Tryd.prog 18 0 = some (0, 1, false) := by kernel_rfl
theorem sz19 : szOf Tryd.prog 19 = some 1 := by kernel_rfl
theorem ag19 : aggOf Tryd.prog 19 = some true := by kernel_rfl
theorem zo19 : zOf Tryd.prog 19 = some (Go.Value.agg #[Go.Value.pointer none]) := by kernel_rfl
theorem st19 : stOk Tryd.prog 19 = true := by kernel_rfl
theorem pl19_0 : plOf Tryd.prog 19 0 = some (0, 1) := by kernel_rfl
theorem fd19_0 : fdOf Tryd.prog 19 0 = some (0, 17) := by kernel_rfl
theorem pt19_0 : ptOf Tryd.prog 19 0 = some (0, 1, false) := by kernel_rfl
theorem sz21 : szOf Tryd.prog 21 = some 1 := by kernel_rfl
theorem ag21 : aggOf Tryd.prog 21 = some false := by kernel_rfl
theorem zo21 : zOf Tryd.prog 21 = some (Go.Value.int Go.IntKind.i32 0) := by kernel_rfl
theorem sz22 : szOf Tryd.prog 22 = some 1 := by kernel_rfl
theorem ag22 : aggOf Tryd.prog 22 = some false := by kernel_rfl
theorem zo22 : zOf Tryd.prog 22 = some (Go.Value.slice none 0 0) := by kernel_rfl
theorem sq22 : seqT Tryd.prog 22 = true := by kernel_rfl
theorem el22 : elOf Tryd.prog 22 = some 57 := by kernel_rfl
theorem es22 : esOf Tryd.prog 22 = some 6 := by kernel_rfl
theorem et22 : elT Tryd.prog 22 = some (6, 104, [V.d (D.val (Go.Value.int Go.IntKind.i64 0)), V.d (D.val (Go.Value.string { data := #[] })), V.d (D.val (Go.Value.bool false)), V.d (D.val (Go.Value.slice none 0 0)), V.d (D.val (Go.Value.slice none 0 0)), V.d (D.val (Go.Value.slice none 0 0))]) := by kernel_rfl
theorem sz23 : szOf Tryd.prog 23 = some 1 := by kernel_rfl
theorem ag23 : aggOf Tryd.prog 23 = some false := by kernel_rfl
theorem zo23 : zOf Tryd.prog 23 = some (Go.Value.slice none 0 0) := by kernel_rfl
theorem sq23 : seqT Tryd.prog 23 = true := by kernel_rfl
theorem el23 : elOf Tryd.prog 23 = some 59 := by kernel_rfl
theorem es23 : esOf Tryd.prog 23 = some 13 := by kernel_rfl
theorem et23 : elT Tryd.prog 23 = some (13, 232, [V.d (D.val (Go.Value.int Go.IntKind.i64 0)), V.d (D.val (Go.Value.string { data := #[] })), V.d (D.val (Go.Value.bool false)), V.d (D.val (Go.Value.slice none 0 0)), V.d (D.val (Go.Value.slice none 0 0)), V.d (D.val (Go.Value.slice none 0 0)), V.d (D.val (Go.Value.int Go.IntKind.i64 0)), V.d (D.val (Go.Value.string { data := #[] })), V.d (D.val (Go.Value.bool false)), V.d (D.val (Go.Value.slice none 0 0)), V.d (D.val (Go.Value.slice none 0 0)), V.d (D.val (Go.Value.slice none 0 0)), V.d (D.val (Go.Value.slice none 0 0))]) := by kernel_rfl
theorem sz24 : szOf Tryd.prog 24 = some 1 := by kernel_rfl
theorem ag24 : aggOf Tryd.prog 24 = some false := by kernel_rfl
theorem zo24 : zOf Tryd.prog 24 = some (Go.Value.slice none 0 0) := by kernel_rfl
theorem sq24 : seqT Tryd.prog 24 = true := by kernel_rfl
theorem el24 : elOf Tryd.prog 24 = some 3 := by kernel_rfl
theorem es24 : esOf Tryd.prog 24 = some 1 := by kernel_rfl
theorem et24 : elT Tryd.prog 24 = some (1, 8, [V.d (D.val (Go.Value.int Go.IntKind.i64 0))]) := by kernel_rfl
theorem sz25 : szOf Tryd.prog 25 = some 1 := by kernel_rfl
theorem ag25 : aggOf Tryd.prog 25 = some false := by kernel_rfl
theorem zo25 : zOf Tryd.prog 25 = some (Go.Value.slice none 0 0) := by kernel_rfl
theorem sq25 : seqT Tryd.prog 25 = true := by kernel_rfl
theorem el25 : elOf Tryd.prog 25 = some 9 := by kernel_rfl
theorem es25 : esOf Tryd.prog 25 = some 1 := by kernel_rfl
theorem et25 : elT Tryd.prog 25 = some (1, 16, [V.d (D.val (Go.Value.string { data := #[] }))]) := by kernel_rfl
theorem sz26 : szOf Tryd.prog 26 = some 1 := by kernel_rfl
theorem ag26 : aggOf Tryd.prog 26 = some false := by kernel_rfl
theorem zo26 : zOf Tryd.prog 26 = some (Go.Value.slice none 0 0) := by kernel_rfl
theorem sq26 : seqT Tryd.prog 26 = true := by kernel_rfl
theorem el26 : elOf Tryd.prog 26 = some 55 := by kernel_rfl
theorem es26 : esOf Tryd.prog 26 = some 3 := by kernel_rfl
theorem et26 : elT Tryd.prog 26 = some (3, 56, [V.d (D.val (Go.Value.bool false)), V.d (D.val (Go.Value.slice none 0 0)), V.d (D.val (Go.Value.slice none 0 0))]) := by kernel_rfl
theorem sz27 : szOf Tryd.prog 27 = some 1 := by kernel_rfl
theorem ag27 : aggOf Tryd.prog 27 = some false := by kernel_rfl
theorem zo27 : zOf Tryd.prog 27 = some (Go.Value.slice none 0 0) := by kernel_rfl
theorem sq27 : seqT Tryd.prog 27 = true := by kernel_rfl
theorem el27 : elOf Tryd.prog 27 = some 78 := by kernel_rfl
theorem es27 : esOf Tryd.prog 27 = some 2 := by kernel_rfl
theorem et27 : elT Tryd.prog 27 = some (2, 32, [V.d (D.val (Go.Value.int Go.IntKind.i64 0)), V.d (D.val (Go.Value.slice none 0 0))]) := by kernel_rfl
theorem sz28 : szOf Tryd.prog 28 = some 1 := by kernel_rfl
theorem ag28 : aggOf Tryd.prog 28 = some false := by kernel_rfl
theorem zo28 : zOf Tryd.prog 28 = some (Go.Value.slice none 0 0) := by kernel_rfl
theorem sq28 : seqT Tryd.prog 28 = true := by kernel_rfl
theorem el28 : elOf Tryd.prog 28 = some 80 := by kernel_rfl
theorem es28 : esOf Tryd.prog 28 = some 5 := by kernel_rfl
theorem et28 : elT Tryd.prog 28 = some (5, 88, [V.d (D.val (Go.Value.bool false)), V.d (D.val (Go.Value.slice none 0 0)), V.d (D.val (Go.Value.slice none 0 0)), V.d (D.val (Go.Value.int Go.IntKind.i64 0)), V.d (D.val (Go.Value.slice none 0 0))]) := by kernel_rfl
theorem sz29 : szOf Tryd.prog 29 = some 1 := by kernel_rfl
theorem ag29 : aggOf Tryd.prog 29 = some false := by kernel_rfl
theorem zo29 : zOf Tryd.prog 29 = some (Go.Value.slice none 0 0) := by kernel_rfl
theorem sq29 : seqT Tryd.prog 29 = true := by kernel_rfl
theorem el29 : elOf Tryd.prog 29 = some 31 := by kernel_rfl
theorem es29 : esOf Tryd.prog 29 = some 5 := by kernel_rfl
theorem et29 : elT Tryd.prog 29 = some (5, 104, [V.d (D.val (Go.Value.int Go.IntKind.i64 0)), V.d (D.val (Go.Value.slice none 0 0)), V.d (D.val (Go.Value.slice none 0 0)), V.d (D.val (Go.Value.slice none 0 0)), V.d (D.val (Go.Value.slice none 0 0))]) := by kernel_rfl
theorem sz30 : szOf Tryd.prog 30 = some 5 := by kernel_rfl
theorem ag30 : aggOf Tryd.prog 30 = some true := by kernel_rfl
theorem zo30 : zOf Tryd.prog 30 = some (Go.Value.agg #[Go.Value.int Go.IntKind.i64 0, Go.Value.slice none 0 0, Go.Value.slice none 0 0, Go.Value.slice none 0 0, Go.Value.slice none 0 0]) := by kernel_rfl
theorem st30 : stOk Tryd.prog 30 = true := by kernel_rfl
theorem pl30_0 : plOf Tryd.prog 30 0 = some (0, 1) := by kernel_rfl
theorem fd30_0 : fdOf Tryd.prog 30 0 = some (0, 3) := by kernel_rfl
theorem pt30_0 : ptOf Tryd.prog 30 0 = some (0, 1, false) := by kernel_rfl
theorem pl30_1 : plOf Tryd.prog 30 1 = some (1, 1) := by kernel_rfl
theorem fd30_1 : fdOf Tryd.prog 30 1 = some (1, 26) := by kernel_rfl
theorem pt30_1 : ptOf Tryd.prog 30 1 = some (1, 1, false) := by kernel_rfl
theorem pl30_2 : plOf Tryd.prog 30 2 = some (2, 1) := by kernel_rfl
theorem fd30_2 : fdOf Tryd.prog 30 2 = some (2, 27) := by kernel_rfl
theorem pt30_2 : ptOf Tryd.prog 30 2 = some (2, 1, false) := by kernel_rfl
theorem pl30_3 : plOf Tryd.prog 30 3 = some (3, 1) := by kernel_rfl
theorem fd30_3 : fdOf Tryd.prog 30 3 = some (3, 28) := by kernel_rfl
theorem pt30_3 : ptOf Tryd.prog 30 3 = some (3, 1, false) := by kernel_rfl
theorem pl30_4 : plOf Tryd.prog 30 4 = some (4, 1) := by kernel_rfl
theorem fd30_4 : fdOf Tryd.prog 30 4 = some (4, 29) := by kernel_rfl
theorem pt30_4 : ptOf Tryd.prog 30 4 = some (4, 1, false) := by kernel_rfl
theorem sz31 : szOf Tryd.prog 31 = some 5 := by kernel_rfl
theorem ag31 : aggOf Tryd.prog 31 = some true := by kernel_rfl
theorem zo31 : zOf Tryd.prog 31 = some (Go.Value.agg #[Go.Value.int Go.IntKind.i64 0, Go.Value.slice none 0 0, Go.Value.slice none 0 0, Go.Value.slice none 0 0, Go.Value.slice none 0 0]) := by kernel_rfl
theorem st31 : stOk Tryd.prog 31 = true := by kernel_rfl
theorem pl31_0 : plOf Tryd.prog 31 0 = some (0, 1) := by kernel_rfl
theorem fd31_0 : fdOf Tryd.prog 31 0 = some (0, 3) := by kernel_rfl
theorem pt31_0 : ptOf Tryd.prog 31 0 = some (0, 1, false) := by kernel_rfl
theorem pl31_1 : plOf Tryd.prog 31 1 = some (1, 1) := by kernel_rfl
theorem fd31_1 : fdOf Tryd.prog 31 1 = some (1, 26) := by kernel_rfl
theorem pt31_1 : ptOf Tryd.prog 31 1 = some (1, 1, false) := by kernel_rfl
theorem pl31_2 : plOf Tryd.prog 31 2 = some (2, 1) := by kernel_rfl
theorem fd31_2 : fdOf Tryd.prog 31 2 = some (2, 27) := by kernel_rfl
theorem pt31_2 : ptOf Tryd.prog 31 2 = some (2, 1, false) := by kernel_rfl
theorem pl31_3 : plOf Tryd.prog 31 3 = some (3, 1) := by kernel_rfl
theorem fd31_3 : fdOf Tryd.prog 31 3 = some (3, 28) := by kernel_rfl
theorem pt31_3 : ptOf Tryd.prog 31 3 = some (3, 1, false) := by kernel_rfl
theorem pl31_4 : plOf Tryd.prog 31 4 = some (4, 1) := by kernel_rfl
theorem fd31_4 : fdOf Tryd.prog 31 4 = some (4, 29) := by kernel_rfl
theorem pt31_4 : ptOf Tryd.prog 31 4 = some (4, 1, false) := by kernel_rfl
theorem sz32 : szOf Tryd.prog 32 = some 1 := by kernel_rfl
theorem ag32 : aggOf Tryd.prog 32 = some false := by kernel_rfl
theorem zo32 : zOf Tryd.prog 32 = some (Go.Value.slice none 0 0) := by kernel_rfl
theorem sq32 : seqT Tryd.prog 32 = true := by kernel_rfl
theorem el32 : elOf Tryd.prog 32 = some 34 := by kernel_rfl
theorem es32 : esOf Tryd.prog 32 = some 12 := by kernel_rfl
theorem et32 : elT Tryd.prog 32 = some (12, 256, [V.d (D.val (Go.Value.string { data := #[] })), V.d (D.val (Go.Value.string { data := #[] })), V.d (D.val (Go.Value.slice none 0 0)), V.d (D.val (Go.Value.slice none 0 0)), V.d (D.val (Go.Value.slice none 0 0)), V.d (D.val (Go.Value.slice none 0 0)), V.d (D.val (Go.Value.int Go.IntKind.i64 0)), V.d (D.val (Go.Value.slice none 0 0)), V.d (D.val (Go.Value.slice none 0 0)), V.d (D.val (Go.Value.slice none 0 0)), V.d (D.val (Go.Value.slice none 0 0)), V.d (D.val (Go.Value.slice none 0 0))]) := by kernel_rfl
theorem sz33 : szOf Tryd.prog 33 = some 12 := by kernel_rfl
theorem ag33 : aggOf Tryd.prog 33 = some true := by kernel_rfl
theorem zo33 : zOf Tryd.prog 33 = some (Go.Value.agg #[Go.Value.string { data := #[] }, Go.Value.string { data := #[] }, Go.Value.slice none 0 0, Go.Value.slice none 0 0, Go.Value.slice none 0 0, Go.Value.slice none 0 0, Go.Value.int Go.IntKind.i64 0, Go.Value.slice none 0 0, Go.Value.slice none 0 0, Go.Value.slice none 0 0, Go.Value.slice none 0 0, Go.Value.slice none 0 0]) := by kernel_rfl
theorem st33 : stOk Tryd.prog 33 = true := by kernel_rfl
theorem pl33_0 : plOf Tryd.prog 33 0 = some (0, 1) := by kernel_rfl
theorem fd33_0 : fdOf Tryd.prog 33 0 = some (0, 9) := by kernel_rfl
theorem pt33_0 : ptOf Tryd.prog 33 0 = some (0, 1, false) := by kernel_rfl
theorem pl33_1 : plOf Tryd.prog 33 1 = some (1, 1) := by kernel_rfl
theorem fd33_1 : fdOf Tryd.prog 33 1 = some (1, 9) := by kernel_rfl
theorem pt33_1 : ptOf Tryd.prog 33 1 = some (1, 1, false) := by kernel_rfl
theorem pl33_2 : plOf Tryd.prog 33 2 = some (2, 1) := by kernel_rfl
theorem fd33_2 : fdOf Tryd.prog 33 2 = some (2, 22) := by kernel_rfl
theorem pt33_2 : ptOf Tryd.prog 33 2 = some (2, 1, false) := by kernel_rfl
theorem pl33_3 : plOf Tryd.prog 33 3 = some (3, 1) := by kernel_rfl
theorem fd33_3 : fdOf Tryd.prog 33 3 = some (3, 23) := by kernel_rfl
theorem pt33_3 : ptOf Tryd.prog 33 3 = some (3, 1, false) := by kernel_rfl
theorem pl33_4 : plOf Tryd.prog 33 4 = some (4, 1) := by kernel_rfl
theorem fd33_4 : fdOf Tryd.prog 33 4 = some (4, 24) := by kernel_rfl
theorem pt33_4 : ptOf Tryd.prog 33 4 = some (4, 1, false) := by kernel_rfl
theorem pl33_5 : plOf Tryd.prog 33 5 = some (5, 1) := by kernel_rfl
theorem fd33_5 : fdOf Tryd.prog 33 5 = some (5, 25) := by kernel_rfl
theorem pt33_5 : ptOf Tryd.prog 33 5 = some (5, 1, false) := by kernel_rfl
theorem pl33_6 : plOf Tryd.prog 33 6 = some (6, 5) := by kernel_rfl
theorem fd33_6 : fdOf Tryd.prog 33 6 = some (6, 31) := by kernel_rfl
theorem pt33_6 : ptOf Tryd.prog 33 6 = some (6, 5, true) := by kernel_rfl
theorem pl33_7 : plOf Tryd.prog 33 7 = some (11, 1) := by kernel_rfl
theorem fd33_7 : fdOf Tryd.prog 33 7 = some (11, 32) := by kernel_rfl
theorem pt33_7 : ptOf Tryd.prog 33 7 = some (11, 1, false) := by kernel_rfl
theorem sz34 : szOf Tryd.prog 34 = some 12 := by kernel_rfl
theorem ag34 : aggOf Tryd.prog 34 = some true := by kernel_rfl
theorem zo34 : zOf Tryd.prog 34 = some (Go.Value.agg #[Go.Value.string { data := #[] }, Go.Value.string { data := #[] }, Go.Value.slice none 0 0, Go.Value.slice none 0 0, Go.Value.slice none 0 0, Go.Value.slice none 0 0, Go.Value.int Go.IntKind.i64 0, Go.Value.slice none 0 0, Go.Value.slice none 0 0, Go.Value.slice none 0 0, Go.Value.slice none 0 0, Go.Value.slice none 0 0]) := by kernel_rfl
theorem st34 : stOk Tryd.prog 34 = true := by kernel_rfl
theorem pl34_0 : plOf Tryd.prog 34 0 = some (0, 1) := by kernel_rfl
theorem fd34_0 : fdOf Tryd.prog 34 0 = some (0, 9) := by kernel_rfl
theorem pt34_0 : ptOf Tryd.prog 34 0 = some (0, 1, false) := by kernel_rfl
theorem pl34_1 : plOf Tryd.prog 34 1 = some (1, 1) := by kernel_rfl
theorem fd34_1 : fdOf Tryd.prog 34 1 = some (1, 9) := by kernel_rfl
theorem pt34_1 : ptOf Tryd.prog 34 1 = some (1, 1, false) := by kernel_rfl
theorem pl34_2 : plOf Tryd.prog 34 2 = some (2, 1) := by kernel_rfl
theorem fd34_2 : fdOf Tryd.prog 34 2 = some (2, 22) := by kernel_rfl
theorem pt34_2 : ptOf Tryd.prog 34 2 = some (2, 1, false) := by kernel_rfl
theorem pl34_3 : plOf Tryd.prog 34 3 = some (3, 1) := by kernel_rfl
theorem fd34_3 : fdOf Tryd.prog 34 3 = some (3, 23) := by kernel_rfl
theorem pt34_3 : ptOf Tryd.prog 34 3 = some (3, 1, false) := by kernel_rfl
theorem pl34_4 : plOf Tryd.prog 34 4 = some (4, 1) := by kernel_rfl
theorem fd34_4 : fdOf Tryd.prog 34 4 = some (4, 24) := by kernel_rfl
theorem pt34_4 : ptOf Tryd.prog 34 4 = some (4, 1, false) := by kernel_rfl
theorem pl34_5 : plOf Tryd.prog 34 5 = some (5, 1) := by kernel_rfl
theorem fd34_5 : fdOf Tryd.prog 34 5 = some (5, 25) := by kernel_rfl
theorem pt34_5 : ptOf Tryd.prog 34 5 = some (5, 1, false) := by kernel_rfl
theorem pl34_6 : plOf Tryd.prog 34 6 = some (6, 5) := by kernel_rfl
theorem fd34_6 : fdOf Tryd.prog 34 6 = some (6, 31) := by kernel_rfl
theorem pt34_6 : ptOf Tryd.prog 34 6 = some (6, 5, true) := by kernel_rfl
theorem pl34_7 : plOf Tryd.prog 34 7 = some (11, 1) := by kernel_rfl
theorem fd34_7 : fdOf Tryd.prog 34 7 = some (11, 32) := by kernel_rfl
theorem pt34_7 : ptOf Tryd.prog 34 7 = some (11, 1, false) := by kernel_rfl
theorem sz35 : szOf Tryd.prog 35 = some 1 := by kernel_rfl
theorem ag35 : aggOf Tryd.prog 35 = some false := by kernel_rfl
theorem zo35 : zOf Tryd.prog 35 = some (Go.Value.slice none 0 0) := by kernel_rfl
theorem sq35 : seqT Tryd.prog 35 = true := by kernel_rfl
theorem el35 : elOf Tryd.prog 35 = some 61 := by kernel_rfl
theorem es35 : esOf Tryd.prog 35 = some 13 := by kernel_rfl
theorem et35 : elT Tryd.prog 35 = some (13, 280, [V.d (D.val (Go.Value.string { data := #[] })), V.d (D.val (Go.Value.string { data := #[] })), V.d (D.val (Go.Value.slice none 0 0)), V.d (D.val (Go.Value.slice none 0 0)), V.d (D.val (Go.Value.slice none 0 0)), V.d (D.val (Go.Value.slice none 0 0)), V.d (D.val (Go.Value.int Go.IntKind.i64 0)), V.d (D.val (Go.Value.slice none 0 0)), V.d (D.val (Go.Value.slice none 0 0)), V.d (D.val (Go.Value.slice none 0 0)), V.d (D.val (Go.Value.slice none 0 0)), V.d (D.val (Go.Value.slice none 0 0)), V.d (D.val (Go.Value.slice none 0 0))]) := by kernel_rfl
theorem sz36 : szOf Tryd.prog 36 = some 1 := by kernel_rfl
theorem ag36 : aggOf Tryd.prog 36 = some false := by kernel_rfl
theorem zo36 : zOf Tryd.prog 36 = some Go.Value.nilFunc := by kernel_rfl
theorem sz37 : szOf Tryd.prog 37 = some 1 := by kernel_rfl
theorem ag37 : aggOf Tryd.prog 37 = some false := by kernel_rfl
theorem zo37 : zOf Tryd.prog 37 = some Go.Value.nilFunc := by kernel_rfl
theorem sz38 : szOf Tryd.prog 38 = some 1 := by kernel_rfl
theorem ag38 : aggOf Tryd.prog 38 = some false := by kernel_rfl
theorem zo38 : zOf Tryd.prog 38 = some Go.Value.nilFunc := by kernel_rfl
theorem sz39 : szOf Tryd.prog 39 = some 1 := by kernel_rfl
theorem ag39 : aggOf Tryd.prog 39 = some false := by kernel_rfl
theorem zo39 : zOf Tryd.prog 39 = some (Go.Value.int Go.IntKind.i64 0) := by kernel_rfl
theorem sz41 : szOf Tryd.prog 41 = some 1 := by kernel_rfl
theorem ag41 : aggOf Tryd.prog 41 = some false := by kernel_rfl
theorem zo41 : zOf Tryd.prog 41 = some Go.Value.nilFunc := by kernel_rfl
theorem sz42 : szOf Tryd.prog 42 = some 1 := by kernel_rfl
theorem ag42 : aggOf Tryd.prog 42 = some false := by kernel_rfl
theorem zo42 : zOf Tryd.prog 42 = some Go.Value.nilFunc := by kernel_rfl
theorem sz44 : szOf Tryd.prog 44 = some 1 := by kernel_rfl
theorem ag44 : aggOf Tryd.prog 44 = some false := by kernel_rfl
theorem zo44 : zOf Tryd.prog 44 = some Go.Value.nilFunc := by kernel_rfl
theorem sz45 : szOf Tryd.prog 45 = some 1 := by kernel_rfl
theorem ag45 : aggOf Tryd.prog 45 = some false := by kernel_rfl
theorem zo45 : zOf Tryd.prog 45 = some Go.Value.nilFunc := by kernel_rfl
theorem sz46 : szOf Tryd.prog 46 = some 1 := by kernel_rfl
theorem ag46 : aggOf Tryd.prog 46 = some false := by kernel_rfl
theorem zo46 : zOf Tryd.prog 46 = some Go.Value.nilFunc := by kernel_rfl
theorem sz48 : szOf Tryd.prog 48 = some 1 := by kernel_rfl
theorem ag48 : aggOf Tryd.prog 48 = some false := by kernel_rfl
theorem zo48 : zOf Tryd.prog 48 = some Go.Value.nilFunc := by kernel_rfl
theorem sz49 : szOf Tryd.prog 49 = some 1 := by kernel_rfl
theorem ag49 : aggOf Tryd.prog 49 = some false := by kernel_rfl
theorem zo49 : zOf Tryd.prog 49 = some Go.Value.nilFunc := by kernel_rfl
theorem sz50 : szOf Tryd.prog 50 = some 1 := by kernel_rfl
theorem ag50 : aggOf Tryd.prog 50 = some false := by kernel_rfl
theorem zo50 : zOf Tryd.prog 50 = some Go.Value.nilFunc := by kernel_rfl
theorem sz51 : szOf Tryd.prog 51 = some 1 := by kernel_rfl
theorem ag51 : aggOf Tryd.prog 51 = some false := by kernel_rfl
theorem zo51 : zOf Tryd.prog 51 = some Go.Value.nilFunc := by kernel_rfl
theorem sz52 : szOf Tryd.prog 52 = some 1 := by kernel_rfl
theorem ag52 : aggOf Tryd.prog 52 = some false := by kernel_rfl
theorem zo52 : zOf Tryd.prog 52 = some Go.Value.nilFunc := by kernel_rfl
theorem sz53 : szOf Tryd.prog 53 = some 1 := by kernel_rfl
theorem ag53 : aggOf Tryd.prog 53 = some false := by kernel_rfl
theorem zo53 : zOf Tryd.prog 53 = some (Go.Value.slice none 0 0) := by kernel_rfl
theorem sq53 : seqT Tryd.prog 53 = true := by kernel_rfl
theorem el53 : elOf Tryd.prog 53 = some 106 := by kernel_rfl
theorem es53 : esOf Tryd.prog 53 = some 1 := by kernel_rfl
theorem et53 : elT Tryd.prog 53 = some (1, 4, [V.d (D.val (Go.Value.int Go.IntKind.u32 0))]) := by kernel_rfl
theorem sz54 : szOf Tryd.prog 54 = some 3 := by kernel_rfl
theorem ag54 : aggOf Tryd.prog 54 = some true := by kernel_rfl
theorem zo54 : zOf Tryd.prog 54 = some (Go.Value.agg #[Go.Value.bool false, Go.Value.slice none 0 0, Go.Value.slice none 0 0]) := by kernel_rfl
theorem st54 : stOk Tryd.prog 54 = true := by kernel_rfl
theorem pl54_0 : plOf Tryd.prog 54 0 = some (0, 1) := by kernel_rfl
theorem fd54_0 : fdOf Tryd.prog 54 0 = some (0, 4) := by kernel_rfl
theorem pt54_0 : ptOf Tryd.prog 54 0 = some (0, 1, false) := by kernel_rfl
theorem pl54_1 : plOf Tryd.prog 54 1 = some (1, 1) := by kernel_rfl
theorem fd54_1 : fdOf Tryd.prog 54 1 = some (1, 53) := by kernel_rfl
theorem pt54_1 : ptOf Tryd.prog 54 1 = some (1, 1, false) := by kernel_rfl
theorem pl54_2 : plOf Tryd.prog 54 2 = some (2, 1) := by kernel_rfl
theorem fd54_2 : fdOf Tryd.prog 54 2 = some (2, 53) := by kernel_rfl
theorem pt54_2 : ptOf Tryd.prog 54 2 = some (2, 1, false) := by kernel_rfl
theorem sz55 : szOf Tryd.prog 55 = some 3 := by kernel_rfl
theorem ag55 : aggOf Tryd.prog 55 = some true := by kernel_rfl
theorem zo55 : zOf Tryd.prog 55 = some (Go.Value.agg #[Go.Value.bool false, Go.Value.slice none 0 0, Go.Value.slice none 0 0]) := by kernel_rfl
theorem st55 : stOk Tryd.prog 55 = true := by kernel_rfl
theorem pl55_0 : plOf Tryd.prog 55 0 = some (0, 1) := by kernel_rfl
theorem fd55_0 : fdOf Tryd.prog 55 0 = some (0, 4) := by kernel_rfl
theorem pt55_0 : ptOf Tryd.prog 55 0 = some (0, 1, false) := by kernel_rfl
theorem pl55_1 : plOf Tryd.prog 55 1 = some (1, 1) := by kernel_rfl
theorem fd55_1 : fdOf Tryd.prog 55 1 = some (1, 53) := by kernel_rfl
theorem pt55_1 : ptOf Tryd.prog 55 1 = some (1, 1, false) := by kernel_rfl
theorem pl55_2 : plOf Tryd.prog 55 2 = some (2, 1) := by kernel_rfl
theorem fd55_2 : fdOf Tryd.prog 55 2 = some (2, 53) := by kernel_rfl
theorem pt55_2 : ptOf Tryd.prog 55 2 = some (2, 1, false) := by kernel_rfl
theorem sz56 : szOf Tryd.prog 56 = some 6 := by kernel_rfl
theorem ag56 : aggOf Tryd.prog 56 = some true := by kernel_rfl
theorem zo56 : zOf Tryd.prog 56 = some (Go.Value.agg #[Go.Value.int Go.IntKind.i64 0, Go.Value.string { data := #[] }, Go.Value.bool false, Go.Value.slice none 0 0, Go.Value.slice none 0 0, Go.Value.slice none 0 0]) := by kernel_rfl
theorem st56 : stOk Tryd.prog 56 = true := by kernel_rfl
theorem pl56_0 : plOf Tryd.prog 56 0 = some (0, 1) := by kernel_rfl
theorem fd56_0 : fdOf Tryd.prog 56 0 = some (0, 3) := by kernel_rfl
theorem pt56_0 : ptOf Tryd.prog 56 0 = some (0, 1, false) := by kernel_rfl
theorem pl56_1 : plOf Tryd.prog 56 1 = some (1, 1) := by kernel_rfl
theorem fd56_1 : fdOf Tryd.prog 56 1 = some (1, 9) := by kernel_rfl
theorem pt56_1 : ptOf Tryd.prog 56 1 = some (1, 1, false) := by kernel_rfl
theorem pl56_2 : plOf Tryd.prog 56 2 = some (2, 3) := by kernel_rfl
theorem fd56_2 : fdOf Tryd.prog 56 2 = some (2, 55) := by kernel_rfl
theorem pt56_2 : ptOf Tryd.prog 56 2 = some (2, 3, true) := by kernel_rfl
theorem pl56_3 : plOf Tryd.prog 56 3 = some (5, 1) := by kernel_rfl
theorem fd56_3 : fdOf Tryd.prog 56 3 = some (5, 22) := by kernel_rfl
theorem pt56_3 : ptOf Tryd.prog 56 3 = some (5, 1, false) := by kernel_rfl
theorem sz57 : szOf Tryd.prog 57 = some 6 := by kernel_rfl
theorem ag57 : aggOf Tryd.prog 57 = some true := by kernel_rfl
theorem zo57 : zOf Tryd.prog 57 = some (Go.Value.agg #[Go.Value.int Go.IntKind.i64 0, Go.Value.string { data := #[] }, Go.Value.bool false, Go.Value.slice none 0 0, Go.Value.slice none 0 0, Go.Value.slice none 0 0]) := by kernel_rfl
theorem st57 : stOk Tryd.prog 57 = true := by kernel_rfl
theorem pl57_0 : plOf Tryd.prog 57 0 = some (0, 1) := by kernel_rfl
theorem fd57_0 : fdOf Tryd.prog 57 0 = some (0, 3) := by kernel_rfl
theorem pt57_0 : ptOf Tryd.prog 57 0 = some (0, 1, false) := by kernel_rfl
theorem pl57_1 : plOf Tryd.prog 57 1 = some (1, 1) := by kernel_rfl
theorem fd57_1 : fdOf Tryd.prog 57 1 = some (1, 9) := by kernel_rfl
theorem pt57_1 : ptOf Tryd.prog 57 1 = some (1, 1, false) := by kernel_rfl
theorem pl57_2 : plOf Tryd.prog 57 2 = some (2, 3) := by kernel_rfl
theorem fd57_2 : fdOf Tryd.prog 57 2 = some (2, 55) := by kernel_rfl
theorem pt57_2 : ptOf Tryd.prog 57 2 = some (2, 3, true) := by kernel_rfl
theorem pl57_3 : plOf Tryd.prog 57 3 = some (5, 1) := by kernel_rfl
theorem fd57_3 : fdOf Tryd.prog 57 3 = some (5, 22) := by kernel_rfl
theorem pt57_3 : ptOf Tryd.prog 57 3 = some (5, 1, false) := by kernel_rfl
theorem sz58 : szOf Tryd.prog 58 = some 13 := by kernel_rfl
theorem ag58 : aggOf Tryd.prog 58 = some true := by kernel_rfl
theorem zo58 : zOf Tryd.prog 58 = some (Go.Value.agg #[Go.Value.int Go.IntKind.i64 0, Go.Value.string { data := #[] }, Go.Value.bool false, Go.Value.slice none 0 0, Go.Value.slice none 0 0, Go.Value.slice none 0 0, Go.Value.int Go.IntKind.i64 0, Go.Value.string { data := #[] }, Go.Value.bool false, Go.Value.slice none 0 0, Go.Value.slice none 0 0, Go.Value.slice none 0 0, Go.Value.slice none 0 0]) := by kernel_rfl
theorem st58 : stOk Tryd.prog 58 = true := by kernel_rfl
theorem pl58_0 : plOf Tryd.prog 58 0 = some (0, 6) := by kernel_rfl
theorem fd58_0 : fdOf Tryd.prog 58 0 = some (0, 57) := by kernel_rfl
theorem pt58_0 : ptOf Tryd.prog 58 0 = some (0, 6, true) := by kernel_rfl
theorem pl58_1 : plOf Tryd.prog 58 1 = some (6, 6) := by kernel_rfl
theorem fd58_1 : fdOf Tryd.prog 58 1 = some (6, 57) := by kernel_rfl
theorem pt58_1 : ptOf Tryd.prog 58 1 = some (6, 6, true) := by kernel_rfl
theorem pl58_2 : plOf Tryd.prog 58 2 = some (12, 1) := by kernel_rfl
theorem fd58_2 : fdOf Tryd.prog 58 2 = some (12, 22) := by kernel_rfl
theorem pt58_2 : ptOf Tryd.prog 58 2 = some (12, 1, false) := by kernel_rfl
theorem sz59 : szOf Tryd.prog 59 = some 13 := by kernel_rfl
theorem ag59 : aggOf Tryd.prog 59 = some true := by kernel_rfl
theorem zo59 : zOf Tryd.prog 59 = some (Go.Value.agg #[Go.Value.int Go.IntKind.i64 0, Go.Value.string { data := #[] }, Go.Value.bool false, Go.Value.slice none 0 0, Go.Value.slice none 0 0, Go.Value.slice none 0 0, Go.Value.int Go.IntKind.i64 0, Go.Value.string { data := #[] }, Go.Value.bool false, Go.Value.slice none 0 0, Go.Value.slice none 0 0, Go.Value.slice none 0 0, Go.Value.slice none 0 0]) := by kernel_rfl
theorem st59 : stOk Tryd.prog 59 = true := by kernel_rfl
theorem pl59_0 : plOf Tryd.prog 59 0 = some (0, 6) := by kernel_rfl
theorem fd59_0 : fdOf Tryd.prog 59 0 = some (0, 57) := by kernel_rfl
theorem pt59_0 : ptOf Tryd.prog 59 0 = some (0, 6, true) := by kernel_rfl
theorem pl59_1 : plOf Tryd.prog 59 1 = some (6, 6) := by kernel_rfl
theorem fd59_1 : fdOf Tryd.prog 59 1 = some (6, 57) := by kernel_rfl
theorem pt59_1 : ptOf Tryd.prog 59 1 = some (6, 6, true) := by kernel_rfl
theorem pl59_2 : plOf Tryd.prog 59 2 = some (12, 1) := by kernel_rfl
theorem fd59_2 : fdOf Tryd.prog 59 2 = some (12, 22) := by kernel_rfl
theorem pt59_2 : ptOf Tryd.prog 59 2 = some (12, 1, false) := by kernel_rfl
theorem sz60 : szOf Tryd.prog 60 = some 13 := by kernel_rfl
theorem ag60 : aggOf Tryd.prog 60 = some true := by kernel_rfl
theorem zo60 : zOf Tryd.prog 60 = some (Go.Value.agg #[Go.Value.string { data := #[] }, Go.Value.string { data := #[] }, Go.Value.slice none 0 0, Go.Value.slice none 0 0, Go.Value.slice none 0 0, Go.Value.slice none 0 0, Go.Value.int Go.IntKind.i64 0, Go.Value.slice none 0 0, Go.Value.slice none 0 0, Go.Value.slice none 0 0, Go.Value.slice none 0 0, Go.Value.slice none 0 0, Go.Value.slice none 0 0]) := by kernel_rfl
theorem st60 : stOk Tryd.prog 60 = true := by kernel_rfl
theorem pl60_0 : plOf Tryd.prog 60 0 = some (0, 12) := by kernel_rfl
theorem fd60_0 : fdOf Tryd.prog 60 0 = some (0, 34) := by kernel_rfl
theorem pt60_0 : ptOf Tryd.prog 60 0 = some (0, 12, true) := by kernel_rfl
theorem pl60_1 : plOf Tryd.prog 60 1 = some (12, 1) := by kernel_rfl
theorem fd60_1 : fdOf Tryd.prog 60 1 = some (12, 24) := by kernel_rfl
theorem pt60_1 : ptOf Tryd.prog 60 1 = some (12, 1, false) := by kernel_rfl
theorem sz61 : szOf Tryd.prog 61 = some 13 := by kernel_rfl
theorem ag61 : aggOf Tryd.prog 61 = some true := by kernel_rfl
theorem zo61 : zOf Tryd.prog 61 = some (Go.Value.agg #[Go.Value.string { data := #[] }, Go.Value.string { data := #[] }, Go.Value.slice none 0 0, Go.Value.slice none 0 0, Go.Value.slice none 0 0, Go.Value.slice none 0 0, Go.Value.int Go.IntKind.i64 0, Go.Value.slice none 0 0, Go.Value.slice none 0 0, Go.Value.slice none 0 0, Go.Value.slice none 0 0, Go.Value.slice none 0 0, Go.Value.slice none 0 0]) := by kernel_rfl
theorem st61 : stOk Tryd.prog 61 = true := by kernel_rfl
theorem pl61_0 : plOf Tryd.prog 61 0 = some (0, 12) := by kernel_rfl
theorem fd61_0 : fdOf Tryd.prog 61 0 = some (0, 34) := by kernel_rfl
theorem pt61_0 : ptOf Tryd.prog 61 0 = some (0, 12, true) := by kernel_rfl
theorem pl61_1 : plOf Tryd.prog 61 1 = some (12, 1) := by kernel_rfl
theorem fd61_1 : fdOf Tryd.prog 61 1 = some (12, 24) := by kernel_rfl
theorem pt61_1 : ptOf Tryd.prog 61 1 = some (12, 1, false) := by kernel_rfl
theorem sz62 : szOf Tryd.prog 62 = some 1 := by kernel_rfl
theorem ag62 : aggOf Tryd.prog 62 = some false := by kernel_rfl
theorem zo62 : zOf Tryd.prog 62 = some (Go.Value.map none) := by kernel_rfl
theorem sz63 : szOf Tryd.prog 63 = some 1 := by kernel_rfl
theorem ag63 : aggOf Tryd.prog 63 = some false := by kernel_rfl
theorem zo63 : zOf Tryd.prog 63 = some Go.Value.nilFunc := by kernel_rfl
theorem sz64 : szOf Tryd.prog 64 = some 1 := by kernel_rfl
theorem ag64 : aggOf Tryd.prog 64 = some false := by kernel_rfl
theorem zo64 : zOf Tryd.prog 64 = some Go.Value.nilFunc := by kernel_rfl
theorem sz65 : szOf Tryd.prog 65 = some 1 := by kernel_rfl
theorem ag65 : aggOf Tryd.prog 65 = some false := by kernel_rfl
theorem zo65 : zOf Tryd.prog 65 = some Go.Value.nilFunc := by kernel_rfl
theorem sz67 : szOf Tryd.prog 67 = some 1 := by kernel_rfl
theorem ag67 : aggOf Tryd.prog 67 = some false := by kernel_rfl
theorem zo67 : zOf Tryd.prog 67 = some Go.Value.nilFunc := by kernel_rfl
theorem sz68 : szOf Tryd.prog 68 = some 1 := by kernel_rfl
theorem ag68 : aggOf Tryd.prog 68 = some false := by kernel_rfl
theorem zo68 : zOf Tryd.prog 68 = some Go.Value.nilFunc := by kernel_rfl
theorem sz69 : szOf Tryd.prog 69 = some 1 := by kernel_rfl
theorem ag69 : aggOf Tryd.prog 69 = some false := by kernel_rfl
theorem zo69 : zOf Tryd.prog 69 = some Go.Value.nilFunc := by kernel_rfl
theorem sz70 : szOf Tryd.prog 70 = some 1 := by kernel_rfl
theorem ag70 : aggOf Tryd.prog 70 = some false := by kernel_rfl
theorem zo70 : zOf Tryd.prog 70 = some Go.Value.nilFunc := by kernel_rfl
theorem sz71 : szOf Tryd.prog 71 = some 1 := by kernel_rfl
theorem ag71 : aggOf Tryd.prog 71 = some false := by kernel_rfl
theorem zo71 : zOf Tryd.prog 71 = some (Go.Value.map none) := by kernel_rfl
theorem sz72 : szOf Tryd.prog 72 = some 1 := by kernel_rfl
theorem ag72 : aggOf Tryd.prog 72 = some false := by kernel_rfl
theorem zo72 : zOf Tryd.prog 72 = some Go.Value.nilFunc := by kernel_rfl
theorem sz73 : szOf Tryd.prog 73 = some 1 := by kernel_rfl
theorem ag73 : aggOf Tryd.prog 73 = some false := by kernel_rfl
theorem zo73 : zOf Tryd.prog 73 = some Go.Value.nilFunc := by kernel_rfl
theorem sz74 : szOf Tryd.prog 74 = some 1 := by kernel_rfl
theorem ag74 : aggOf Tryd.prog 74 = some false := by kernel_rfl
theorem zo74 : zOf Tryd.prog 74 = some Go.Value.nilFunc := by kernel_rfl
theorem sz75 : szOf Tryd.prog 75 = some 1 := by kernel_rfl
theorem ag75 : aggOf Tryd.prog 75 = some false := by kernel_rfl
theorem zo75 : zOf Tryd.prog 75 = some Go.Value.nilFunc := by kernel_rfl
theorem sz76 : szOf Tryd.prog 76 = some 1 := by kernel_rfl
theorem ag76 : aggOf Tryd.prog 76 = some false := by kernel_rfl
theorem zo76 : zOf Tryd.prog 76 = some (Go.Value.slice none 0 0) := by kernel_rfl
theorem sq76 : seqT Tryd.prog 76 = true := by kernel_rfl
theorem el76 : elOf Tryd.prog 76 = some 91 := by kernel_rfl
theorem es76 : esOf Tryd.prog 76 = some 4 := by kernel_rfl
theorem et76 : elT Tryd.prog 76 = some (4, 80, [V.d (D.val (Go.Value.slice none 0 0)), V.d (D.val (Go.Value.bool false)), V.d (D.val (Go.Value.slice none 0 0)), V.d (D.val (Go.Value.slice none 0 0))]) := by kernel_rfl
theorem sz77 : szOf Tryd.prog 77 = some 2 := by kernel_rfl
theorem ag77 : aggOf Tryd.prog 77 = some true := by kernel_rfl
theorem zo77 : zOf Tryd.prog 77 = some (Go.Value.agg #[Go.Value.int Go.IntKind.i64 0, Go.Value.slice none 0 0]) := by kernel_rfl
theorem st77 : stOk Tryd.prog 77 = true := by kernel_rfl
theorem pl77_0 : plOf Tryd.prog 77 0 = some (0, 1) := by kernel_rfl
theorem fd77_0 : fdOf Tryd.prog 77 0 = some (0, 3) := by kernel_rfl
theorem pt77_0 : ptOf Tryd.prog 77 0 = some (0, 1, false) := by kernel_rfl
theorem pl77_1 : plOf Tryd.prog 77 1 = some (1, 1) := by kernel_rfl
theorem fd77_1 : fdOf Tryd.prog 77 1 = some (1, 76) := by kernel_rfl
theorem pt77_1 : ptOf Tryd.prog 77 1 = some (1, 1, false) := by kernel_rfl
theorem sz78 : szOf Tryd.prog 78 = some 2 := by kernel_rfl
theorem ag78 : aggOf Tryd.prog 78 = some true := by kernel_rfl
theorem zo78 : zOf Tryd.prog 78 = some (Go.Value.agg #[Go.Value.int Go.IntKind.i64 0, Go.Value.slice none 0 0]) := by kernel_rfl
theorem st78 : stOk Tryd.prog 78 = true := by kernel_rfl
theorem pl78_0 : plOf Tryd.prog 78 0 = some (0, 1) := by kernel_rfl
theorem fd78_0 : fdOf Tryd.prog 78 0 = some (0, 3) := by kernel_rfl
theorem pt78_0 : ptOf Tryd.prog 78 0 = some (0, 1, false) := by kernel_rfl
theorem pl78_1 : plOf Tryd.prog 78 1 = some (1, 1) := by kernel_rfl
theorem fd78_1 : fdOf Tryd.prog 78 1 = some (1, 76) := by kernel_rfl
theorem pt78_1 : ptOf Tryd.prog 78 1 = some (1, 1, false) := by kernel_rfl
theorem sz79 : szOf Tryd.prog 79 = some 5 := by kernel_rfl
theorem ag79 : aggOf Tryd.prog 79 = some true := by kernel_rfl
theorem zo79 : zOf Tryd.prog 79 = some (Go.Value.agg #[Go.Value.bool false, Go.Value.slice none 0 0, Go.Value.slice none 0 0, Go.Value.int Go.IntKind.i64 0, Go.Value.slice none 0 0]) := by kernel_rfl
theorem st79 : stOk Tryd.prog 79 = true := by kernel_rfl
theorem pl79_0 : plOf Tryd.prog 79 0 = some (0, 3) := by kernel_rfl
theorem fd79_0 : fdOf Tryd.prog 79 0 = some (0, 55) := by kernel_rfl
theorem pt79_0 : ptOf Tryd.prog 79 0 = some (0, 3, true) := by kernel_rfl
theorem pl79_1 : plOf Tryd.prog 79 1 = some (3, 2) := by kernel_rfl
theorem fd79_1 : fdOf Tryd.prog 79 1 = some (3, 78) := by kernel_rfl
theorem pt79_1 : ptOf Tryd.prog 79 1 = some (3, 2, true) := by kernel_rfl
theorem sz80 : szOf Tryd.prog 80 = some 5 := by kernel_rfl
theorem ag80 : aggOf Tryd.prog 80 = some true := by kernel_rfl
theorem zo80 : zOf Tryd.prog 80 = some (Go.Value.agg #[Go.Value.bool false, Go.Value.slice none 0 0, Go.Value.slice none 0 0, Go.Value.int Go.IntKind.i64 0, Go.Value.slice none 0 0]) := by kernel_rfl
theorem st80 : stOk Tryd.prog 80 = true := by kernel_rfl
theorem pl80_0 : plOf Tryd.prog 80 0 = some (0, 3) := by kernel_rfl
theorem fd80_0 : fdOf Tryd.prog 80 0 = some (0, 55) := by kernel_rfl
theorem pt80_0 : ptOf Tryd.prog 80 0 = some (0, 3, true) := by kernel_rfl
theorem pl80_1 : plOf Tryd.prog 80 1 = some (3, 2) := by kernel_rfl
theorem fd80_1 : fdOf Tryd.prog 80 1 = some (3, 78) := by kernel_rfl
theorem pt80_1 : ptOf Tryd.prog 80 1 = some (3, 2, true) := by kernel_rfl
theorem sz81 : szOf Tryd.prog 81 = some 1 := by kernel_rfl
theorem ag81 : aggOf Tryd.prog 81 = some false := by kernel_rfl
theorem zo81 : zOf Tryd.prog 81 = some Go.Value.nilFunc := by kernel_rfl
theorem sz82 : szOf Tryd.prog 82 = some 1 := by kernel_rfl
theorem ag82 : aggOf Tryd.prog 82 = some false := by kernel_rfl
theorem zo82 : zOf Tryd.prog 82 = some Go.Value.nilFunc := by kernel_rfl
theorem sz83 : szOf Tryd.prog 83 = some 1 := by kernel_rfl
theorem ag83 : aggOf Tryd.prog 83 = some false := by kernel_rfl
theorem zo83 : zOf Tryd.prog 83 = some (Go.Value.pointer none) := by kernel_rfl
theorem sz84 : szOf Tryd.prog 84 = some 1 := by kernel_rfl
theorem ag84 : aggOf Tryd.prog 84 = some false := by kernel_rfl
theorem zo84 : zOf Tryd.prog 84 = some Go.Value.nilFunc := by kernel_rfl
theorem sz85 : szOf Tryd.prog 85 = some 1 := by kernel_rfl
theorem ag85 : aggOf Tryd.prog 85 = some false := by kernel_rfl
theorem zo85 : zOf Tryd.prog 85 = some Go.Value.nilFunc := by kernel_rfl
theorem sz86 : szOf Tryd.prog 86 = some 1 := by kernel_rfl
theorem ag86 : aggOf Tryd.prog 86 = some false := by kernel_rfl
theorem zo86 : zOf Tryd.prog 86 = some Go.Value.nilFunc := by kernel_rfl
theorem sz87 : szOf Tryd.prog 87 = some 1 := by kernel_rfl
theorem ag87 : aggOf Tryd.prog 87 = some false := by kernel_rfl
theorem zo87 : zOf Tryd.prog 87 = some Go.Value.nilFunc := by kernel_rfl
theorem sz88 : szOf Tryd.prog 88 = some 1 := by kernel_rfl
theorem ag88 : aggOf Tryd.prog 88 = some false := by kernel_rfl
theorem zo88 : zOf Tryd.prog 88 = some Go.Value.nilFunc := by kernel_rfl
theorem sz89 : szOf Tryd.prog 89 = some 1 := by kernel_rfl
theorem ag89 : aggOf Tryd.prog 89 = some false := by kernel_rfl
theorem zo89 : zOf Tryd.prog 89 = some Go.Value.nilFunc := by kernel_rfl
theorem sz90 : szOf Tryd.prog 90 = some 4 := by kernel_rfl
theorem ag90 : aggOf Tryd.prog 90 = some true := by kernel_rfl
theorem zo90 : zOf Tryd.prog 90 = some (Go.Value.agg #[Go.Value.slice none 0 0, Go.Value.bool false, Go.Value.slice none 0 0, Go.Value.slice none 0 0]) := by kernel_rfl
theorem st90 : stOk Tryd.prog 90 = true := by kernel_rfl
theorem pl90_0 : plOf Tryd.prog 90 0 = some (0, 1) := by kernel_rfl
theorem fd90_0 : fdOf Tryd.prog 90 0 = some (0, 24) := by kernel_rfl
theorem pt90_0 : ptOf Tryd.prog 90 0 = some (0, 1, false) := by kernel_rfl
theorem pl90_1 : plOf Tryd.prog 90 1 = some (1, 3) := by kernel_rfl
theorem fd90_1 : fdOf Tryd.prog 90 1 = some (1, 55) := by kernel_rfl
theorem pt90_1 : ptOf Tryd.prog 90 1 = some (1, 3, true) := by kernel_rfl
theorem sz91 : szOf Tryd.prog 91 = some 4 := by kernel_rfl
theorem ag91 : aggOf Tryd.prog 91 = some true := by kernel_rfl
theorem zo91 : zOf Tryd.prog 91 = some (Go.Value.agg #[Go.Value.slice none 0 0, Go.Value.bool false, Go.Value.slice none 0 0, Go.Value.slice none 0 0]) := by kernel_rfl
theorem st91 : stOk Tryd.prog 91 = true := by kernel_rfl
theorem pl91_0 : plOf Tryd.prog 91 0 = some (0, 1) := by kernel_rfl
theorem fd91_0 : fdOf Tryd.prog 91 0 = some (0, 24) := by kernel_rfl
theorem pt91_0 : ptOf Tryd.prog 91 0 = some (0, 1, false) := by kernel_rfl
theorem pl91_1 : plOf Tryd.prog 91 1 = some (1, 3) := by kernel_rfl
theorem fd91_1 : fdOf Tryd.prog 91 1 = some (1, 55) := by kernel_rfl
theorem pt91_1 : ptOf Tryd.prog 91 1 = some (1, 3, true) := by kernel_rfl
theorem sz92 : szOf Tryd.prog 92 = some 1 := by kernel_rfl
theorem ag92 : aggOf Tryd.prog 92 = some false := by kernel_rfl
theorem zo92 : zOf Tryd.prog 92 = some Go.Value.nilFunc := by kernel_rfl
theorem sz93 : szOf Tryd.prog 93 = some 1 := by kernel_rfl
theorem ag93 : aggOf Tryd.prog 93 = some false := by kernel_rfl
theorem zo93 : zOf Tryd.prog 93 = some Go.Value.nilFunc := by kernel_rfl
theorem sz94 : szOf Tryd.prog 94 = some 1 := by kernel_rfl
theorem ag94 : aggOf Tryd.prog 94 = some false := by kernel_rfl
theorem zo94 : zOf Tryd.prog 94 = some Go.Value.nilFunc := by kernel_rfl
theorem sz95 : szOf Tryd.prog 95 = some 1 := by kernel_rfl
theorem ag95 : aggOf Tryd.prog 95 = some false := by kernel_rfl
theorem zo95 : zOf Tryd.prog 95 = some Go.Value.nilFunc := by kernel_rfl
theorem sz96 : szOf Tryd.prog 96 = some 1 := by kernel_rfl
theorem ag96 : aggOf Tryd.prog 96 = some false := by kernel_rfl
theorem zo96 : zOf Tryd.prog 96 = some Go.Value.nilFunc := by kernel_rfl
theorem sz97 : szOf Tryd.prog 97 = some 1 := by kernel_rfl
theorem ag97 : aggOf Tryd.prog 97 = some false := by kernel_rfl
theorem zo97 : zOf Tryd.prog 97 = some Go.Value.nilFunc := by kernel_rfl
theorem sz98 : szOf Tryd.prog 98 = some 1 := by kernel_rfl
theorem ag98 : aggOf Tryd.prog 98 = some false := by kernel_rfl
theorem zo98 : zOf Tryd.prog 98 = some Go.Value.nilFunc := by kernel_rfl
theorem sz99 : szOf Tryd.prog 99 = some 1 := by kernel_rfl
theorem ag99 : aggOf Tryd.prog 99 = some false := by kernel_rfl
theorem zo99 : zOf Tryd.prog 99 = some Go.Value.nilFunc := by kernel_rfl
theorem sz100 : szOf Tryd.prog 100 = some 1 := by kernel_rfl
theorem ag100 : aggOf Tryd.prog 100 = some false := by kernel_rfl
theorem zo100 : zOf Tryd.prog 100 = some Go.Value.nilFunc := by kernel_rfl
theorem sz101 : szOf Tryd.prog 101 = some 1 := by kernel_rfl
theorem ag101 : aggOf Tryd.prog 101 = some false := by kernel_rfl
theorem zo101 : zOf Tryd.prog 101 = some (Go.Value.int Go.IntKind.u64 0) := by kernel_rfl
theorem sz102 : szOf Tryd.prog 102 = some 1 := by kernel_rfl
theorem ag102 : aggOf Tryd.prog 102 = some false := by kernel_rfl
theorem zo102 : zOf Tryd.prog 102 = some Go.Value.nilFunc := by kernel_rfl
theorem sz103 : szOf Tryd.prog 103 = some 1 := by kernel_rfl
theorem ag103 : aggOf Tryd.prog 103 = some false := by kernel_rfl
theorem zo103 : zOf Tryd.prog 103 = some Go.Value.nilFunc := by kernel_rfl
theorem sz104 : szOf Tryd.prog 104 = some 1 := by kernel_rfl
theorem ag104 : aggOf Tryd.prog 104 = some false := by kernel_rfl
theorem zo104 : zOf Tryd.prog 104 = some Go.Value.nilFunc := by kernel_rfl
theorem sz105 : szOf Tryd.prog 105 = some 1 := by kernel_rfl
theorem ag105 : aggOf Tryd.prog 105 = some false := by kernel_rfl
theorem zo105 : zOf Tryd.prog 105 = some Go.Value.nilFunc := by kernel_rfl
theorem sz106 : szOf Tryd.prog 106 = some 1 := by kernel_rfl
theorem ag106 : aggOf Tryd.prog 106 = some false := by kernel_rfl
theorem zo106 : zOf Tryd.prog 106 = some (Go.Value.int Go.IntKind.u32 0) := by kernel_rfl
theorem sz107 : szOf Tryd.prog 107 = some 1 := by kernel_rfl
theorem ag107 : aggOf Tryd.prog 107 = some false := by kernel_rfl
theorem zo107 : zOf Tryd.prog 107 = some Go.Value.nilFunc := by kernel_rfl
theorem sz108 : szOf Tryd.prog 108 = some 1 := by kernel_rfl
theorem ag108 : aggOf Tryd.prog 108 = some false := by kernel_rfl
theorem zo108 : zOf Tryd.prog 108 = some (Go.Value.int Go.IntKind.i64 0) := by kernel_rfl
theorem sz110 : szOf Tryd.prog 110 = some 1 := by kernel_rfl
theorem ag110 : aggOf Tryd.prog 110 = some false := by kernel_rfl
theorem zo110 : zOf Tryd.prog 110 = some Go.Value.nilFunc := by kernel_rfl
theorem sz111 : szOf Tryd.prog 111 = some 1 := by kernel_rfl
theorem ag111 : aggOf Tryd.prog 111 = some false := by kernel_rfl
theorem zo111 : zOf Tryd.prog 111 = some Go.Value.nilFunc := by kernel_rfl
theorem sz112 : szOf Tryd.prog 112 = some 1 := by kernel_rfl
theorem ag112 : aggOf Tryd.prog 112 = some false := by kernel_rfl
theorem zo112 : zOf Tryd.prog 112 = some Go.Value.nilFunc := by kernel_rfl
theorem sz113 : szOf Tryd.prog 113 = some 1 := by kernel_rfl
theorem ag113 : aggOf Tryd.prog 113 = some false := by kernel_rfl
theorem zo113 : zOf Tryd.prog 113 = some Go.Value.nilFunc := by kernel_rfl
theorem sz115 : szOf Tryd.prog 115 = some 1 := by kernel_rfl
theorem ag115 : aggOf Tryd.prog 115 = some false := by kernel_rfl
theorem zo115 : zOf Tryd.prog 115 = some Go.Value.nilFunc := by kernel_rfl
theorem sz116 : szOf Tryd.prog 116 = some 1 := by kernel_rfl
theorem ag116 : aggOf Tryd.prog 116 = some false := by kernel_rfl
theorem zo116 : zOf Tryd.prog 116 = some Go.Value.nilFunc := by kernel_rfl
theorem sz117 : szOf Tryd.prog 117 = some 1 := by kernel_rfl
theorem ag117 : aggOf Tryd.prog 117 = some false := by kernel_rfl
theorem zo117 : zOf Tryd.prog 117 = some Go.Value.nilFunc := by kernel_rfl
theorem sz118 : szOf Tryd.prog 118 = some 1 := by kernel_rfl
theorem ag118 : aggOf Tryd.prog 118 = some false := by kernel_rfl
theorem zo118 : zOf Tryd.prog 118 = some (Go.Value.int Go.IntKind.u64 0) := by kernel_rfl
theorem sz119 : szOf Tryd.prog 119 = some 24 := by kernel_rfl
theorem ag119 : aggOf Tryd.prog 119 = some true := by kernel_rfl
theorem zo119 : zOf Tryd.prog 119 = some (Go.Value.agg #[Go.Value.int Go.IntKind.u8 0, Go.Value.int Go.IntKind.u8 0, Go.Value.int Go.IntKind.u8 0, Go.Value.int Go.IntKind.u8 0, Go.Value.int Go.IntKind.u8 0, Go.Value.int Go.IntKind.u8 0, Go.Value.int Go.IntKind.u8 0, Go.Value.int Go.IntKind.u8 0, Go.Value.int Go.IntKind.u8 0, Go.Value.int Go.IntKind.u8 0, Go.Value.int Go.IntKind.u8 0, Go.Value.int Go.IntKind.u8 0, Go.Value.int Go.IntKind.u8 0, Go.Value.int Go.IntKind.u8 0, Go.Value.int Go.IntKind.u8 0, Go.Value.int Go.IntKind.u8 0, Go.Value.int Go.IntKind.u8 0, Go.Value.int Go.IntKind.u8 0, Go.Value.int Go.IntKind.u8 0, Go.Value.int Go.IntKind.u8 0, Go.Value.int Go.IntKind.u8 0, Go.Value.int Go.IntKind.u8 0, Go.Value.int Go.IntKind.u8 0, Go.Value.int Go.IntKind.u8 0]) := by kernel_rfl
theorem sz120 : szOf Tryd.prog 120 = some 1 := by kernel_rfl
theorem ag120 : aggOf Tryd.prog 120 = some false := by kernel_rfl
theorem zo120 : zOf Tryd.prog 120 = some Go.Value.nilFunc := by kernel_rfl
theorem sz121 : szOf Tryd.prog 121 = some 1 := by kernel_rfl
theorem ag121 : aggOf Tryd.prog 121 = some false := by kernel_rfl
theorem zo121 : zOf Tryd.prog 121 = some (Go.Value.slice none 0 0) := by kernel_rfl
theorem sq121 : seqT Tryd.prog 121 = true := by kernel_rfl
theorem el121 : elOf Tryd.prog 121 = some 5 := by kernel_rfl
theorem es121 : esOf Tryd.prog 121 = some 1 := by kernel_rfl
theorem et121 : elT Tryd.prog 121 = some (1, 1, [V.d (D.val (Go.Value.int Go.IntKind.u8 0))]) := by kernel_rfl
theorem sz123 : szOf Tryd.prog 123 = some 1 := by kernel_rfl
theorem ag123 : aggOf Tryd.prog 123 = some false := by kernel_rfl
theorem zo123 : zOf Tryd.prog 123 = some Go.Value.nilFunc := by kernel_rfl
theorem sz124 : szOf Tryd.prog 124 = some 1 := by kernel_rfl
theorem ag124 : aggOf Tryd.prog 124 = some false := by kernel_rfl
theorem zo124 : zOf Tryd.prog 124 = some Go.Value.nilFunc := by kernel_rfl
theorem sz125 : szOf Tryd.prog 125 = some 1 := by kernel_rfl
theorem ag125 : aggOf Tryd.prog 125 = some false := by kernel_rfl
theorem zo125 : zOf Tryd.prog 125 = some Go.Value.nilFunc := by kernel_rfl
theorem sz126 : szOf Tryd.prog 126 = some 1 := by kernel_rfl
theorem ag126 : aggOf Tryd.prog 126 = some false := by kernel_rfl
theorem zo126 : zOf Tryd.prog 126 = some Go.Value.nilFunc := by kernel_rfl
theorem sz127 : szOf Tryd.prog 127 = some 1 := by kernel_rfl
theorem ag127 : aggOf Tryd.prog 127 = some false := by kernel_rfl
theorem zo127 : zOf Tryd.prog 127 = some (Go.Value.int Go.IntKind.u64 0) := by kernel_rfl
theorem sz128 : szOf Tryd.prog 128 = some 1 := by kernel_rfl
theorem ag128 : aggOf Tryd.prog 128 = some false := by kernel_rfl
theorem zo128 : zOf Tryd.prog 128 = some Go.Value.nilFunc := by kernel_rfl
theorem sz129 : szOf Tryd.prog 129 = some 1 := by kernel_rfl
theorem ag129 : aggOf Tryd.prog 129 = some false := by kernel_rfl
theorem zo129 : zOf Tryd.prog 129 = some Go.Value.nilFunc := by kernel_rfl
theorem sz130 : szOf Tryd.prog 130 = some 1 := by kernel_rfl
theorem ag130 : aggOf Tryd.prog 130 = some false := by kernel_rfl
theorem zo130 : zOf Tryd.prog 130 = some Go.Value.nilFunc := by kernel_rfl
theorem sz131 : szOf Tryd.prog 131 = some 1 := by kernel_rfl
theorem ag131 : aggOf Tryd.prog 131 = some false := by kernel_rfl
theorem zo131 : zOf Tryd.prog 131 = some Go.Value.nilFunc := by kernel_rfl
theorem sz132 : szOf Tryd.prog 132 = some 1 := by kernel_rfl
theorem ag132 : aggOf Tryd.prog 132 = some false := by kernel_rfl
theorem zo132 : zOf Tryd.prog 132 = some Go.Value.nilFunc := by kernel_rfl
theorem sz133 : szOf Tryd.prog 133 = some 20 := by kernel_rfl
theorem ag133 : aggOf Tryd.prog 133 = some true := by kernel_rfl
theorem zo133 : zOf Tryd.prog 133 = some (Go.Value.agg #[Go.Value.int Go.IntKind.u64 0, Go.Value.int Go.IntKind.u64 0, Go.Value.int Go.IntKind.u64 0, Go.Value.int Go.IntKind.u64 0, Go.Value.int Go.IntKind.u64 0, Go.Value.int Go.IntKind.u64 0, Go.Value.int Go.IntKind.u64 0, Go.Value.int Go.IntKind.u64 0, Go.Value.int Go.IntKind.u64 0, Go.Value.int Go.IntKind.u64 0, Go.Value.int Go.IntKind.u64 0, Go.Value.int Go.IntKind.u64 0, Go.Value.int Go.IntKind.u64 0, Go.Value.int Go.IntKind.u64 0, Go.Value.int Go.IntKind.u64 0, Go.Value.int Go.IntKind.u64 0, Go.Value.int Go.IntKind.u64 0, Go.Value.int Go.IntKind.u64 0, Go.Value.int Go.IntKind.u64 0, Go.Value.int Go.IntKind.u64 0]) := by kernel_rfl
theorem sz134 : szOf Tryd.prog 134 = some 65 := by kernel_rfl
theorem ag134 : aggOf Tryd.prog 134 = some true := by kernel_rfl
theorem sz135 : szOf Tryd.prog 135 = some 1 := by kernel_rfl
theorem ag135 : aggOf Tryd.prog 135 = some false := by kernel_rfl
theorem zo135 : zOf Tryd.prog 135 = some Go.Value.nilFunc := by kernel_rfl
theorem sz136 : szOf Tryd.prog 136 = some 1 := by kernel_rfl
theorem ag136 : aggOf Tryd.prog 136 = some false := by kernel_rfl
theorem zo136 : zOf Tryd.prog 136 = some (Go.Value.pointer none) := by kernel_rfl
theorem sz138 : szOf Tryd.prog 138 = some 1 := by kernel_rfl
theorem ag138 : aggOf Tryd.prog 138 = some false := by kernel_rfl
theorem zo138 : zOf Tryd.prog 138 = some Go.Value.nilFunc := by kernel_rfl
theorem sz139 : szOf Tryd.prog 139 = some 32 := by kernel_rfl
theorem ag139 : aggOf Tryd.prog 139 = some true := by kernel_rfl
theorem zo139 : zOf Tryd.prog 139 = some (Go.Value.agg #[Go.Value.int Go.IntKind.u8 0, Go.Value.int Go.IntKind.u8 0, Go.Value.int Go.IntKind.u8 0, Go.Value.int Go.IntKind.u8 0, Go.Value.int Go.IntKind.u8 0, Go.Value.int Go.IntKind.u8 0, Go.Value.int Go.IntKind.u8 0, Go.Value.int Go.IntKind.u8 0, Go.Value.int Go.IntKind.u8 0, Go.Value.int Go.IntKind.u8 0, Go.Value.int Go.IntKind.u8 0, Go.Value.int Go.IntKind.u8 0, Go.Value.int Go.IntKind.u8 0, Go.Value.int Go.IntKind.u8 0, Go.Value.int Go.IntKind.u8 0, Go.Value.int Go.IntKind.u8 0, Go.Value.int Go.IntKind.u8 0, Go.Value.int Go.IntKind.u8 0, Go.Value.int Go.IntKind.u8 0, Go.Value.int Go.IntKind.u8 0, Go.Value.int Go.IntKind.u8 0, Go.Value.int Go.IntKind.u8 0, Go.Value.int Go.IntKind.u8 0, Go.Value.int Go.IntKind.u8 0, Go.Value.int Go.IntKind.u8 0, Go.Value.int Go.IntKind.u8 0, Go.Value.int Go.IntKind.u8 0, Go.Value.int Go.IntKind.u8 0, Go.Value.int Go.IntKind.u8 0, Go.Value.int Go.IntKind.u8 0, Go.Value.int Go.IntKind.u8 0, Go.Value.int Go.IntKind.u8 0]) := by kernel_rfl
theorem sz140 : szOf Tryd.prog 140 = some 64 := by kernel_rfl
theorem ag140 : aggOf Tryd.prog 140 = some true := by kernel_rfl
theorem zo140 : zOf Tryd.prog 140 = some (Go.Value.agg #[Go.Value.int Go.IntKind.u8 0, Go.Value.int Go.IntKind.u8 0, Go.Value.int Go.IntKind.u8 0, Go.Value.int Go.IntKind.u8 0, Go.Value.int Go.IntKind.u8 0, Go.Value.int Go.IntKind.u8 0, Go.Value.int Go.IntKind.u8 0, Go.Value.int Go.IntKind.u8 0, Go.Value.int Go.IntKind.u8 0, Go.Value.int Go.IntKind.u8 0, Go.Value.int Go.IntKind.u8 0, Go.Value.int Go.IntKind.u8 0, Go.Value.int Go.IntKind.u8 0, Go.Value.int Go.IntKind.u8 0, Go.Value.int Go.IntKind.u8 0, Go.Value.int Go.IntKind.u8 0, Go.Value.int Go.IntKind.u8 0, Go.Value.int Go.IntKind.u8 0, Go.Value.int Go.IntKind.u8 0, Go.Value.int Go.IntKind.u8 0, Go.Value.int Go.IntKind.u8 0, Go.Value.int Go.IntKind.u8 0, Go.Value.int Go.IntKind.u8 0, Go.Value.int Go.IntKind.u8 0, Go.Value.int Go.IntKind.u8 0, Go.Value.int Go.IntKind.u8 0, Go.Value.int Go.IntKind.u8 0, Go.Value.int Go.IntKind.u8 0, Go.Value.int Go.IntKind.u8 0, Go.Value.int Go.IntKind.u8 0, Go.Value.int Go.IntKind.u8 0, Go.Value.int Go.IntKind.u8 0, Go.Value.int Go.IntKind.u8 0, Go.Value.int Go.IntKind.u8 0, Go.Value.int Go.IntKind.u8 0, Go.Value.int Go.IntKind.u8 0, Go.Value.int Go.IntKind.u8 0, Go.Value.int Go.IntKind.u8 0, Go.Value.int Go.IntKind.u8 0, Go.Value.int Go.IntKind.u8 0, Go.Value.int Go.IntKind.u8 0, Go.Value.int Go.IntKind.u8 0, Go.Value.int Go.IntKind.u8 0, Go.Value.int Go.IntKind.u8 0, Go.Value.int Go.IntKind.u8 0, Go.Value.int Go.IntKind.u8 0, Go.Value.int Go.IntKind.u8 0, Go.Value.int Go.IntKind.u8 0, Go.Value.int Go.IntKind.u8 0, Go.Value.int Go.IntKind.u8 0, Go.Value.int Go.IntKind.u8 0, Go.Value.int Go.IntKind.u8 0, Go.Value.int Go.IntKind.u8 0, Go.Value.int Go.IntKind.u8 0, Go.Value.int Go.IntKind.u8 0, Go.Value.int Go.IntKind.u8 0, Go.Value.int Go.IntKind.u8 0, Go.Value.int Go.IntKind.u8 0, Go.Value.int Go.IntKind.u8 0, Go.Value.int Go.IntKind.u8 0, Go.Value.int Go.IntKind.u8 0, Go.Value.int Go.IntKind.u8 0, Go.Value.int Go.IntKind.u8 0, Go.Value.int Go.IntKind.u8 0]) := by kernel_rfl
theorem sz141 : szOf Tryd.prog 141 = some 1 := by kernel_rfl
theorem ag141 : aggOf Tryd.prog 141 = some false := by kernel_rfl
theorem zo141 : zOf Tryd.prog 141 = some Go.Value.nilFunc := by kernel_rfl
theorem sz142 : szOf Tryd.prog 142 = some 4 := by kernel_rfl
theorem ag142 : aggOf Tryd.prog 142 = some true := by kernel_rfl
theorem zo142 : zOf Tryd.prog 142 = some (Go.Value.agg #[Go.Value.pointer none, Go.Value.pointer none, Go.Value.pointer none, Go.Value.string { data := #[] }]) := by kernel_rfl
theorem st142 : stOk Tryd.prog 142 = true := by kernel_rfl
theorem pl142_0 : plOf Tryd.prog 142 0 = some (0, 1) := by kernel_rfl
theorem fd142_0 : fdOf Tryd.prog 142 0 = some (0, 17) := by kernel_rfl
theorem pt142_0 : ptOf Tryd.prog 142 0 = some (0, 1, false) := by kernel_rfl
theorem pl142_1 : plOf Tryd.prog 142 1 = some (1, 1) := by kernel_rfl
theorem fd142_1 : fdOf Tryd.prog 142 1 = some (1, 17) := by kernel_rfl
theorem pt142_1 : ptOf Tryd.prog 142 1 = some (1, 1, false) := by kernel_rfl
theorem pl142_2 : plOf Tryd.prog 142 2 = some (2, 1) := by kernel_rfl
theorem fd142_2 : fdOf Tryd.prog 142 2 = some (2, 17) := by kernel_rfl
theorem pt142_2 : ptOf Tryd.prog 142 2 = some (2, 1, false) := by kernel_rfl
theorem pl142_3 : plOf Tryd.prog 142 3 = some (3, 1) := by kernel_rfl
theorem fd142_3 : fdOf Tryd.prog 142 3 = some (3, 9) := by kernel_rfl
theorem pt142_3 : ptOf Tryd.prog 142 3 = some (3, 1, false) := by kernel_rfl
theorem sz143 : szOf Tryd.prog 143 = some 4 := by kernel_rfl
theorem ag143 : aggOf Tryd.prog 143 = some true := by kernel_rfl
theorem zo143 : zOf Tryd.prog 143 = some (Go.Value.agg #[Go.Value.pointer none, Go.Value.pointer none, Go.Value.pointer none, Go.Value.string { data := #[] }]) := by kernel_rfl
theorem st143 : stOk Tryd.prog 143 = true := by kernel_rfl
theorem pl143_0 : plOf Tryd.prog 143 0 = some (0, 1) := by kernel_rfl
theorem fd143_0 : fdOf Tryd.prog 143 0 = some (0, 17) := by kernel_rfl
theorem pt143_0 : ptOf Tryd.prog 143 0 = some (0, 1, false) := by kernel_rfl
theorem pl143_1 : plOf Tryd.prog 143 1 = some (1, 1) := by kernel_rfl
theorem fd143_1 : fdOf Tryd.prog 143 1 = some (1, 17) := by kernel_rfl
theorem pt143_1 : ptOf Tryd.prog 143 1 = some (1, 1, false) := by kernel_rfl
theorem pl143_2 : plOf Tryd.prog 143 2 = some (2, 1) := by kernel_rfl
theorem fd143_2 : fdOf Tryd.prog 143 2 = some (2, 17) := by kernel_rfl
theorem pt143_2 : ptOf Tryd.prog 143 2 = some (2, 1, false) := by kernel_rfl
theorem pl143_3 : plOf Tryd.prog 143 3 = some (3, 1) := by kernel_rfl
theorem fd143_3 : fdOf Tryd.prog 143 3 = some (3, 9) := by kernel_rfl
theorem pt143_3 : ptOf Tryd.prog 143 3 = some (3, 1, false) := by kernel_rfl
theorem sz144 : szOf Tryd.prog 144 = some 0 := by kernel_rfl
theorem ag144 : aggOf Tryd.prog 144 = some true := by kernel_rfl
theorem sz145 : szOf Tryd.prog 145 = some 0 := by kernel_rfl
theorem ag145 : aggOf Tryd.prog 145 = some true := by kernel_rfl
theorem st145 : stOk Tryd.prog 145 = true := by kernel_rfl
theorem pl145_0 : plOf Tryd.prog 145 0 = some (0, 0) := by kernel_rfl
theorem sz146 : szOf Tryd.prog 146 = some 0 := by kernel_rfl
theorem ag146 : aggOf Tryd.prog 146 = some true := by kernel_rfl
theorem st146 : stOk Tryd.prog 146 = true := by kernel_rfl
theorem pl146_0 : plOf Tryd.prog 146 0 = some (0, 0) := by kernel_rfl
theorem sz147 : szOf Tryd.prog 147 = some 1 := by kernel_rfl
theorem ag147 : aggOf Tryd.prog 147 = some false := by kernel_rfl
theorem zo147 : zOf Tryd.prog 147 = some Go.Value.nilFunc := by kernel_rfl
theorem sz148 : szOf Tryd.prog 148 = some 1 := by kernel_rfl
theorem ag148 : aggOf Tryd.prog 148 = some false := by kernel_rfl
theorem zo148 : zOf Tryd.prog 148 = some (Go.Value.int Go.IntKind.u8 0) := by kernel_rfl
theorem sz149 : szOf Tryd.prog 149 = some 1 := by kernel_rfl
theorem ag149 : aggOf Tryd.prog 149 = some false := by kernel_rfl
theorem zo149 : zOf Tryd.prog 149 = some (Go.Value.int Go.IntKind.u8 0) := by kernel_rfl
theorem sz150 : szOf Tryd.prog 150 = some 1 := by kernel_rfl
theorem ag150 : aggOf Tryd.prog 150 = some false := by kernel_rfl
theorem zo150 : zOf Tryd.prog 150 = some Go.Value.nilFunc := by kernel_rfl
theorem sz151 : szOf Tryd.prog 151 = some 1 := by kernel_rfl
theorem ag151 : aggOf Tryd.prog 151 = some false := by kernel_rfl
theorem zo151 : zOf Tryd.prog 151 = some (Go.Value.pointer none) := by kernel_rfl
theorem sz152 : szOf Tryd.prog 152 = some 1 := by kernel_rfl
theorem ag152 : aggOf Tryd.prog 152 = some false := by kernel_rfl
theorem zo152 : zOf Tryd.prog 152 = some (Go.Value.int Go.IntKind.i32 0) := by kernel_rfl
theorem sz153 : szOf Tryd.prog 153 = some 1 := by kernel_rfl
theorem ag153 : aggOf Tryd.prog 153 = some false := by kernel_rfl
theorem zo153 : zOf Tryd.prog 153 = some (Go.Value.int Go.IntKind.i32 0) := by kernel_rfl
theorem sz154 : szOf Tryd.prog 154 = some 11 := by kernel_rfl
theorem ag154 : aggOf Tryd.prog 154 = some true := by kernel_rfl
theorem zo154 : zOf Tryd.prog 154 = some (Go.Value.agg #[Go.Value.int Go.IntKind.u64 0, Go.Value.int Go.IntKind.u64 0, Go.Value.int Go.IntKind.u32 0, Go.Value.int Go.IntKind.u8 0, Go.Value.int Go.IntKind.u8 0, Go.Value.int Go.IntKind.u8 0, Go.Value.int Go.IntKind.u8 0, Go.Value.nilFunc, Go.Value.pointer none, Go.Value.int Go.IntKind.i32 0, Go.Value.int Go.IntKind.i32 0]) := by kernel_rfl
theorem st154 : stOk Tryd.prog 154 = true := by kernel_rfl
theorem pl154_0 : plOf Tryd.prog 154 0 = some (0, 1) := by kernel_rfl
theorem fd154_0 : fdOf Tryd.prog 154 0 = some (0, 12) := by kernel_rfl
theorem pt154_0 : ptOf Tryd.prog 154 0 = some (0, 1, false) := by kernel_rfl
theorem pl154_1 : plOf Tryd.prog 154 1 = some (1, 1) := by kernel_rfl
theorem fd154_1 : fdOf Tryd.prog 154 1 = some (1, 12) := by kernel_rfl
theorem pt154_1 : ptOf Tryd.prog 154 1 = some (1, 1, false) := by kernel_rfl
theorem pl154_2 : plOf Tryd.prog 154 2 = some (2, 1) := by kernel_rfl
theorem fd154_2 : fdOf Tryd.prog 154 2 = some (2, 106) := by kernel_rfl
theorem pt154_2 : ptOf Tryd.prog 154 2 = some (2, 1, false) := by kernel_rfl
theorem pl154_3 : plOf Tryd.prog 154 3 = some (3, 1) := by kernel_rfl
theorem fd154_3 : fdOf Tryd.prog 154 3 = some (3, 148) := by kernel_rfl
theorem pt154_3 : ptOf Tryd.prog 154 3 = some (3, 1, false) := by kernel_rfl
theorem pl154_4 : plOf Tryd.prog 154 4 = some (4, 1) := by kernel_rfl
theorem fd154_4 : fdOf Tryd.prog 154 4 = some (4, 5) := by kernel_rfl
theorem pt154_4 : ptOf Tryd.prog 154 4 = some (4, 1, false) := by kernel_rfl
theorem pl154_5 : plOf Tryd.prog 154 5 = some (5, 1) := by kernel_rfl
theorem fd154_5 : fdOf Tryd.prog 154 5 = some (5, 5) := by kernel_rfl
theorem pt154_5 : ptOf Tryd.prog 154 5 = some (5, 1, false) := by kernel_rfl
theorem pl154_6 : plOf Tryd.prog 154 6 = some (6, 1) := by kernel_rfl
theorem fd154_6 : fdOf Tryd.prog 154 6 = some (6, 149) := by kernel_rfl
theorem pt154_6 : ptOf Tryd.prog 154 6 = some (6, 1, false) := by kernel_rfl
theorem pl154_7 : plOf Tryd.prog 154 7 = some (7, 1) := by kernel_rfl
theorem fd154_7 : fdOf Tryd.prog 154 7 = some (7, 150) := by kernel_rfl
theorem pt154_7 : ptOf Tryd.prog 154 7 = some (7, 1, false) := by kernel_rfl
theorem pl154_8 : plOf Tryd.prog 154 8 = some (8, 1) := by kernel_rfl
theorem fd154_8 : fdOf Tryd.prog 154 8 = some (8, 151) := by kernel_rfl
theorem pt154_8 : ptOf Tryd.prog 154 8 = some (8, 1, false) := by kernel_rfl
theorem pl154_9 : plOf Tryd.prog 154 9 = some (9, 1) := by kernel_rfl
theorem fd154_9 : fdOf Tryd.prog 154 9 = some (9, 152) := by kernel_rfl
theorem pt154_9 : ptOf Tryd.prog 154 9 = some (9, 1, false) := by kernel_rfl
theorem pl154_10 : plOf Tryd.prog 154 10 = some (10, 1) := by kernel_rfl
theorem fd154_10 : fdOf Tryd.prog 154 10 = some (10, 153) := by kernel_rfl
theorem pt154_10 : ptOf Tryd.prog 154 10 = some (10, 1, false) := by kernel_rfl
theorem sz155 : szOf Tryd.prog 155 = some 11 := by kernel_rfl
theorem ag155 : aggOf Tryd.prog 155 = some true := by kernel_rfl
theorem zo155 : zOf Tryd.prog 155 = some (Go.Value.agg #[Go.Value.int Go.IntKind.u64 0, Go.Value.int Go.IntKind.u64 0, Go.Value.int Go.IntKind.u32 0, Go.Value.int Go.IntKind.u8 0, Go.Value.int Go.IntKind.u8 0, Go.Value.int Go.IntKind.u8 0, Go.Value.int Go.IntKind.u8 0, Go.Value.nilFunc, Go.Value.pointer none, Go.Value.int Go.IntKind.i32 0, Go.Value.int Go.IntKind.i32 0]) := by kernel_rfl
theorem st155 : stOk Tryd.prog 155 = true := by kernel_rfl
theorem pl155_0 : plOf Tryd.prog 155 0 = some (0, 1) := by kernel_rfl
theorem fd155_0 : fdOf Tryd.prog 155 0 = some (0, 12) := by kernel_rfl
theorem pt155_0 : ptOf Tryd.prog 155 0 = some (0, 1, false) := by kernel_rfl
theorem pl155_1 : plOf Tryd.prog 155 1 = some (1, 1) := by kernel_rfl
theorem fd155_1 : fdOf Tryd.prog 155 1 = some (1, 12) := by kernel_rfl
theorem pt155_1 : ptOf Tryd.prog 155 1 = some (1, 1, false) := by kernel_rfl
theorem pl155_2 : plOf Tryd.prog 155 2 = some (2, 1) := by kernel_rfl
theorem fd155_2 : fdOf Tryd.prog 155 2 = some (2, 106) := by kernel_rfl
theorem pt155_2 : ptOf Tryd.prog 155 2 = some (2, 1, false) := by kernel_rfl
theorem pl155_3 : plOf Tryd.prog 155 3 = some (3, 1) := by kernel_rfl
theorem fd155_3 : fdOf Tryd.prog 155 3 = some (3, 148) := by kernel_rfl
theorem pt155_3 : ptOf Tryd.prog 155 3 = some (3, 1, false) := by kernel_rfl
theorem pl155_4 : plOf Tryd.prog 155 4 = some (4, 1) := by kernel_rfl
theorem fd155_4 : fdOf Tryd.prog 155 4 = some (4, 5) := by kernel_rfl
theorem pt155_4 : ptOf Tryd.prog 155 4 = some (4, 1, false) := by kernel_rfl
theorem pl155_5 : plOf Tryd.prog 155 5 = some (5, 1) := by kernel_rfl
theorem fd155_5 : fdOf Tryd.prog 155 5 = some (5, 5) := by kernel_rfl
theorem pt155_5 : ptOf Tryd.prog 155 5 = some (5, 1, false) := by kernel_rfl
theorem pl155_6 : plOf Tryd.prog 155 6 = some (6, 1) := by kernel_rfl
theorem fd155_6 : fdOf Tryd.prog 155 6 = some (6, 149) := by kernel_rfl
theorem pt155_6 : ptOf Tryd.prog 155 6 = some (6, 1, false) := by kernel_rfl
theorem pl155_7 : plOf Tryd.prog 155 7 = some (7, 1) := by kernel_rfl
theorem fd155_7 : fdOf Tryd.prog 155 7 = some (7, 150) := by kernel_rfl
theorem pt155_7 : ptOf Tryd.prog 155 7 = some (7, 1, false) := by kernel_rfl
theorem pl155_8 : plOf Tryd.prog 155 8 = some (8, 1) := by kernel_rfl
theorem fd155_8 : fdOf Tryd.prog 155 8 = some (8, 151) := by kernel_rfl
theorem pt155_8 : ptOf Tryd.prog 155 8 = some (8, 1, false) := by kernel_rfl
theorem pl155_9 : plOf Tryd.prog 155 9 = some (9, 1) := by kernel_rfl
theorem fd155_9 : fdOf Tryd.prog 155 9 = some (9, 152) := by kernel_rfl
theorem pt155_9 : ptOf Tryd.prog 155 9 = some (9, 1, false) := by kernel_rfl
theorem pl155_10 : plOf Tryd.prog 155 10 = some (10, 1) := by kernel_rfl
theorem fd155_10 : fdOf Tryd.prog 155 10 = some (10, 153) := by kernel_rfl
theorem pt155_10 : ptOf Tryd.prog 155 10 = some (10, 1, false) := by kernel_rfl
theorem sz156 : szOf Tryd.prog 156 = some 1 := by kernel_rfl
theorem ag156 : aggOf Tryd.prog 156 = some false := by kernel_rfl
theorem zo156 : zOf Tryd.prog 156 = some (Go.Value.pointer none) := by kernel_rfl
theorem mixed : Tryd.prog.follows .mixedOrders = true := by kernel_rfl
theorem ls9 {s : ByteArray} {K : V → Prop} : lenK Tryd.prog 9 (.d (.val (.string s))) K = K (.d (.val (.int .i64 s.size))) := lenK_str Tryd.underlying9
theorem ls10 {s : ByteArray} {K : V → Prop} : lenK Tryd.prog 10 (.d (.val (.string s))) K = K (.d (.val (.int .i64 s.size))) := lenK_str Tryd.underlying10
theorem ls11 {s : ByteArray} {K : V → Prop} : lenK Tryd.prog 11 (.d (.val (.string s))) K = K (.d (.val (.int .i64 s.size))) := lenK_str Tryd.underlying11
theorem ln22 {xs : List (List D)} {K : V → Prop} : lenK Tryd.prog 22 (.d (.sl xs)) K = K (.d (.val (.int .i64 xs.length))) := lenK_sl el22
theorem lz22 {a : Option Addr} {m k : Nat} {K : V → Prop} : lenK Tryd.prog 22 (.d (.val (.slice a m k))) K = K (.d (.val (.int .i64 m))) := lenK_nil el22
theorem lm22 {o k off len : Nat} {K : V → Prop} : lenK Tryd.prog 22 (.msl o k off len) K = K (.d (.val (.int .i64 len))) := lenK_msl el22
theorem la22 {o m : Nat} {out : List (List V)} {K : V → Prop} : lenK Tryd.prog 22 (accV o m out) K = K (.d (.val (.int .i64 out.length))) := lenK_acc el22
theorem ln23 {xs : List (List D)} {K : V → Prop} : lenK Tryd.prog 23 (.d (.sl xs)) K = K (.d (.val (.int .i64 xs.length))) := lenK_sl el23
theorem lz23 {a : Option Addr} {m k : Nat} {K : V → Prop} : lenK Tryd.prog 23 (.d (.val (.slice a m k))) K = K (.d (.val (.int .i64 m))) := lenK_nil el23
theorem lm23 {o k off len : Nat} {K : V → Prop} : lenK Tryd.prog 23 (.msl o k off len) K = K (.d (.val (.int .i64 len))) := lenK_msl el23
theorem la23 {o m : Nat} {out : List (List V)} {K : V → Prop} : lenK Tryd.prog 23 (accV o m out) K = K (.d (.val (.int .i64 out.length))) := lenK_acc el23
theorem ln24 {xs : List (List D)} {K : V → Prop} : lenK Tryd.prog 24 (.d (.sl xs)) K = K (.d (.val (.int .i64 xs.length))) := lenK_sl el24
theorem lz24 {a : Option Addr} {m k : Nat} {K : V → Prop} : lenK Tryd.prog 24 (.d (.val (.slice a m k))) K = K (.d (.val (.int .i64 m))) := lenK_nil el24
theorem lm24 {o k off len : Nat} {K : V → Prop} : lenK Tryd.prog 24 (.msl o k off len) K = K (.d (.val (.int .i64 len))) := lenK_msl el24
theorem la24 {o m : Nat} {out : List (List V)} {K : V → Prop} : lenK Tryd.prog 24 (accV o m out) K = K (.d (.val (.int .i64 out.length))) := lenK_acc el24
theorem ln25 {xs : List (List D)} {K : V → Prop} : lenK Tryd.prog 25 (.d (.sl xs)) K = K (.d (.val (.int .i64 xs.length))) := lenK_sl el25
theorem lz25 {a : Option Addr} {m k : Nat} {K : V → Prop} : lenK Tryd.prog 25 (.d (.val (.slice a m k))) K = K (.d (.val (.int .i64 m))) := lenK_nil el25
theorem lm25 {o k off len : Nat} {K : V → Prop} : lenK Tryd.prog 25 (.msl o k off len) K = K (.d (.val (.int .i64 len))) := lenK_msl el25
theorem la25 {o m : Nat} {out : List (List V)} {K : V → Prop} : lenK Tryd.prog 25 (accV o m out) K = K (.d (.val (.int .i64 out.length))) := lenK_acc el25
theorem ln26 {xs : List (List D)} {K : V → Prop} : lenK Tryd.prog 26 (.d (.sl xs)) K = K (.d (.val (.int .i64 xs.length))) := lenK_sl el26
theorem lz26 {a : Option Addr} {m k : Nat} {K : V → Prop} : lenK Tryd.prog 26 (.d (.val (.slice a m k))) K = K (.d (.val (.int .i64 m))) := lenK_nil el26
theorem lm26 {o k off len : Nat} {K : V → Prop} : lenK Tryd.prog 26 (.msl o k off len) K = K (.d (.val (.int .i64 len))) := lenK_msl el26
theorem la26 {o m : Nat} {out : List (List V)} {K : V → Prop} : lenK Tryd.prog 26 (accV o m out) K = K (.d (.val (.int .i64 out.length))) := lenK_acc el26
theorem ln27 {xs : List (List D)} {K : V → Prop} : lenK Tryd.prog 27 (.d (.sl xs)) K = K (.d (.val (.int .i64 xs.length))) := lenK_sl el27
theorem lz27 {a : Option Addr} {m k : Nat} {K : V → Prop} : lenK Tryd.prog 27 (.d (.val (.slice a m k))) K = K (.d (.val (.int .i64 m))) := lenK_nil el27
theorem lm27 {o k off len : Nat} {K : V → Prop} : lenK Tryd.prog 27 (.msl o k off len) K = K (.d (.val (.int .i64 len))) := lenK_msl el27
theorem la27 {o m : Nat} {out : List (List V)} {K : V → Prop} : lenK Tryd.prog 27 (accV o m out) K = K (.d (.val (.int .i64 out.length))) := lenK_acc el27
theorem ln28 {xs : List (List D)} {K : V → Prop} : lenK Tryd.prog 28 (.d (.sl xs)) K = K (.d (.val (.int .i64 xs.length))) := lenK_sl el28
theorem lz28 {a : Option Addr} {m k : Nat} {K : V → Prop} : lenK Tryd.prog 28 (.d (.val (.slice a m k))) K = K (.d (.val (.int .i64 m))) := lenK_nil el28
theorem lm28 {o k off len : Nat} {K : V → Prop} : lenK Tryd.prog 28 (.msl o k off len) K = K (.d (.val (.int .i64 len))) := lenK_msl el28
theorem la28 {o m : Nat} {out : List (List V)} {K : V → Prop} : lenK Tryd.prog 28 (accV o m out) K = K (.d (.val (.int .i64 out.length))) := lenK_acc el28
theorem ln29 {xs : List (List D)} {K : V → Prop} : lenK Tryd.prog 29 (.d (.sl xs)) K = K (.d (.val (.int .i64 xs.length))) := lenK_sl el29
theorem lz29 {a : Option Addr} {m k : Nat} {K : V → Prop} : lenK Tryd.prog 29 (.d (.val (.slice a m k))) K = K (.d (.val (.int .i64 m))) := lenK_nil el29
theorem lm29 {o k off len : Nat} {K : V → Prop} : lenK Tryd.prog 29 (.msl o k off len) K = K (.d (.val (.int .i64 len))) := lenK_msl el29
theorem la29 {o m : Nat} {out : List (List V)} {K : V → Prop} : lenK Tryd.prog 29 (accV o m out) K = K (.d (.val (.int .i64 out.length))) := lenK_acc el29
theorem ln32 {xs : List (List D)} {K : V → Prop} : lenK Tryd.prog 32 (.d (.sl xs)) K = K (.d (.val (.int .i64 xs.length))) := lenK_sl el32
theorem lz32 {a : Option Addr} {m k : Nat} {K : V → Prop} : lenK Tryd.prog 32 (.d (.val (.slice a m k))) K = K (.d (.val (.int .i64 m))) := lenK_nil el32
theorem lm32 {o k off len : Nat} {K : V → Prop} : lenK Tryd.prog 32 (.msl o k off len) K = K (.d (.val (.int .i64 len))) := lenK_msl el32
theorem la32 {o m : Nat} {out : List (List V)} {K : V → Prop} : lenK Tryd.prog 32 (accV o m out) K = K (.d (.val (.int .i64 out.length))) := lenK_acc el32
theorem ln35 {xs : List (List D)} {K : V → Prop} : lenK Tryd.prog 35 (.d (.sl xs)) K = K (.d (.val (.int .i64 xs.length))) := lenK_sl el35
theorem lz35 {a : Option Addr} {m k : Nat} {K : V → Prop} : lenK Tryd.prog 35 (.d (.val (.slice a m k))) K = K (.d (.val (.int .i64 m))) := lenK_nil el35
theorem lm35 {o k off len : Nat} {K : V → Prop} : lenK Tryd.prog 35 (.msl o k off len) K = K (.d (.val (.int .i64 len))) := lenK_msl el35
theorem la35 {o m : Nat} {out : List (List V)} {K : V → Prop} : lenK Tryd.prog 35 (accV o m out) K = K (.d (.val (.int .i64 out.length))) := lenK_acc el35
theorem ln53 {xs : List (List D)} {K : V → Prop} : lenK Tryd.prog 53 (.d (.sl xs)) K = K (.d (.val (.int .i64 xs.length))) := lenK_sl el53
theorem lz53 {a : Option Addr} {m k : Nat} {K : V → Prop} : lenK Tryd.prog 53 (.d (.val (.slice a m k))) K = K (.d (.val (.int .i64 m))) := lenK_nil el53
theorem lm53 {o k off len : Nat} {K : V → Prop} : lenK Tryd.prog 53 (.msl o k off len) K = K (.d (.val (.int .i64 len))) := lenK_msl el53
theorem la53 {o m : Nat} {out : List (List V)} {K : V → Prop} : lenK Tryd.prog 53 (accV o m out) K = K (.d (.val (.int .i64 out.length))) := lenK_acc el53
theorem ln76 {xs : List (List D)} {K : V → Prop} : lenK Tryd.prog 76 (.d (.sl xs)) K = K (.d (.val (.int .i64 xs.length))) := lenK_sl el76
theorem lz76 {a : Option Addr} {m k : Nat} {K : V → Prop} : lenK Tryd.prog 76 (.d (.val (.slice a m k))) K = K (.d (.val (.int .i64 m))) := lenK_nil el76
theorem lm76 {o k off len : Nat} {K : V → Prop} : lenK Tryd.prog 76 (.msl o k off len) K = K (.d (.val (.int .i64 len))) := lenK_msl el76
theorem la76 {o m : Nat} {out : List (List V)} {K : V → Prop} : lenK Tryd.prog 76 (accV o m out) K = K (.d (.val (.int .i64 out.length))) := lenK_acc el76
theorem ln121 {xs : List (List D)} {K : V → Prop} : lenK Tryd.prog 121 (.d (.sl xs)) K = K (.d (.val (.int .i64 xs.length))) := lenK_sl el121
theorem lz121 {a : Option Addr} {m k : Nat} {K : V → Prop} : lenK Tryd.prog 121 (.d (.val (.slice a m k))) K = K (.d (.val (.int .i64 m))) := lenK_nil el121
theorem lm121 {o k off len : Nat} {K : V → Prop} : lenK Tryd.prog 121 (.msl o k off len) K = K (.d (.val (.int .i64 len))) := lenK_msl el121
theorem la121 {o m : Nat} {out : List (List V)} {K : V → Prop} : lenK Tryd.prog 121 (accV o m out) K = K (.d (.val (.int .i64 out.length))) := lenK_acc el121
end Go.Proofs.YtnhfojbokhgbhaaDoor
