/- The table facts of the program (printed by wip/tools/types.py). -/
import Derived.Test.YtafipfdohicfbaaGreatProg
import Derived.Test.YtafipfdohicfbaaGreatIsoF
namespace Go.Proofs.YtafipfdohicfbaaGreat
open Go Go.Iso Go.Proofs
set_option maxRecDepth 100000
set_option linter.unusedVariables false
theorem sz1 : szOf Tryz.prog 1 = some 1 := by kernel_rfl
theorem ag1 : aggOf Tryz.prog 1 = some false := by kernel_rfl
theorem zo1 : zOf Tryz.prog 1 = some Go.Value.nilFunc := by kernel_rfl
theorem sz2 : szOf Tryz.prog 2 = some 1 := by kernel_rfl
theorem ag2 : aggOf Tryz.prog 2 = some false := by kernel_rfl
theorem zo2 : zOf Tryz.prog 2 = some (Go.Value.int Go.IntKind.i64 0) := by kernel_rfl
theorem sz3 : szOf Tryz.prog 3 = some 1 := by kernel_rfl
theorem ag3 : aggOf Tryz.prog 3 = some false := by kernel_rfl
theorem zo3 : zOf Tryz.prog 3 = some (Go.Value.int Go.IntKind.i64 0) := by kernel_rfl
theorem sz4 : szOf Tryz.prog 4 = some 1 := by kernel_rfl
theorem ag4 : aggOf Tryz.prog 4 = some false := by kernel_rfl
theorem zo4 : zOf Tryz.prog 4 = some (Go.Value.bool false) := by kernel_rfl
theorem bo4 : boolT Tryz.prog 4 = true := by kernel_rfl
theorem sz5 : szOf Tryz.prog 5 = some 1 := by kernel_rfl
theorem ag5 : aggOf Tryz.prog 5 = some false := by kernel_rfl
theorem zo5 : zOf Tryz.prog 5 = some (Go.Value.int Go.IntKind.u8 0) := by kernel_rfl
theorem sz6 : szOf Tryz.prog 6 = some 1 := by kernel_rfl
theorem ag6 : aggOf Tryz.prog 6 = some false := by kernel_rfl
theorem zo6 : zOf Tryz.prog 6 = some (Go.Value.int Go.IntKind.u8 0) := by kernel_rfl
theorem sz7 : szOf Tryz.prog 7 = some 4 := by kernel_rfl
theorem ag7 : aggOf Tryz.prog 7 = some true := by kernel_rfl
theorem zo7 : zOf Tryz.prog 7 = some (Go.Value.agg #[Go.Value.int Go.IntKind.i64 0, Go.Value.int Go.IntKind.i64 0, Go.Value.bool false, Go.Value.int Go.IntKind.u8 0]) := by kernel_rfl
theorem st7 : stOk Tryz.prog 7 = true := by kernel_rfl
theorem pl7_0 : plOf Tryz.prog 7 0 = some (0, 1) := by kernel_rfl
theorem fd7_0 : fdOf Tryz.prog 7 0 = some (0, 2) := by kernel_rfl
theorem pt7_0 : ptOf Tryz.prog 7 0 = some (0, 1, false) := by kernel_rfl
theorem pl7_1 : plOf Tryz.prog 7 1 = some (1, 1) := by kernel_rfl
theorem fd7_1 : fdOf Tryz.prog 7 1 = some (1, 3) := by kernel_rfl
theorem pt7_1 : ptOf Tryz.prog 7 1 = some (1, 1, false) := by kernel_rfl
theorem pl7_2 : plOf Tryz.prog 7 2 = some (2, 1) := by kernel_rfl
theorem fd7_2 : fdOf Tryz.prog 7 2 = some (2, 4) := by kernel_rfl
theorem pt7_2 : ptOf Tryz.prog 7 2 = some (2, 1, false) := by kernel_rfl
theorem pl7_3 : plOf Tryz.prog 7 3 = some (3, 1) := by kernel_rfl
theorem fd7_3 : fdOf Tryz.prog 7 3 = some (3, 6) := by kernel_rfl
theorem pt7_3 : ptOf Tryz.prog 7 3 = some (3, 1, false) := by kernel_rfl
theorem sz8 : szOf Tryz.prog 8 = some 4 := by kernel_rfl
theorem ag8 : aggOf Tryz.prog 8 = some true := by kernel_rfl
theorem zo8 : zOf Tryz.prog 8 = some (Go.Value.agg #[Go.Value.int Go.IntKind.i64 0, Go.Value.int Go.IntKind.i64 0, Go.Value.bool false, Go.Value.int Go.IntKind.u8 0]) := by kernel_rfl
theorem st8 : stOk Tryz.prog 8 = true := by kernel_rfl
theorem pl8_0 : plOf Tryz.prog 8 0 = some (0, 1) := by kernel_rfl
theorem fd8_0 : fdOf Tryz.prog 8 0 = some (0, 2) := by kernel_rfl
theorem pt8_0 : ptOf Tryz.prog 8 0 = some (0, 1, false) := by kernel_rfl
theorem pl8_1 : plOf Tryz.prog 8 1 = some (1, 1) := by kernel_rfl
theorem fd8_1 : fdOf Tryz.prog 8 1 = some (1, 3) := by kernel_rfl
theorem pt8_1 : ptOf Tryz.prog 8 1 = some (1, 1, false) := by kernel_rfl
theorem pl8_2 : plOf Tryz.prog 8 2 = some (2, 1) := by kernel_rfl
theorem fd8_2 : fdOf Tryz.prog 8 2 = some (2, 4) := by kernel_rfl
theorem pt8_2 : ptOf Tryz.prog 8 2 = some (2, 1, false) := by kernel_rfl
theorem pl8_3 : plOf Tryz.prog 8 3 = some (3, 1) := by kernel_rfl
theorem fd8_3 : fdOf Tryz.prog 8 3 = some (3, 6) := by kernel_rfl
theorem pt8_3 : ptOf Tryz.prog 8 3 = some (3, 1, false) := by kernel_rfl
theorem sz9 : szOf Tryz.prog 9 = some 1 := by kernel_rfl
theorem ag9 : aggOf Tryz.prog 9 = some false := by kernel_rfl
theorem zo9 : zOf Tryz.prog 9 = some (Go.Value.string { data := #[] }) := by kernel_rfl
theorem sq9 : seqT Tryz.prog 9 = true := by kernel_rfl
theorem us9 : Tryz.prog.underlying 9 = some .string := Tryz.underlying9
theorem sz10 : szOf Tryz.prog 10 = some 1 := by kernel_rfl
theorem ag10 : aggOf Tryz.prog 10 = some false := by kernel_rfl
theorem zo10 : zOf Tryz.prog 10 = some (Go.Value.string { data := #[] }) := by kernel_rfl
theorem sq10 : seqT Tryz.prog 10 = true := by kernel_rfl
theorem us10 : Tryz.prog.underlying 10 = some .string := Tryz.underlying10
theorem sz11 : szOf Tryz.prog 11 = some 1 := by kernel_rfl
theorem ag11 : aggOf Tryz.prog 11 = some false := by kernel_rfl
theorem zo11 : zOf Tryz.prog 11 = some (Go.Value.string { data := #[] }) := by kernel_rfl
theorem sq11 : seqT Tryz.prog 11 = true := by kernel_rfl
theorem us11 : Tryz.prog.underlying 11 = some .string := Tryz.underlying11
theorem sz12 : szOf Tryz.prog 12 = some 1 := by kernel_rfl
theorem ag12 : aggOf Tryz.prog 12 = some false := by kernel_rfl
theorem zo12 : zOf Tryz.prog 12 = some (Go.Value.int Go.IntKind.u64 0) := by kernel_rfl
theorem sz13 : szOf Tryz.prog 13 = some 2 := by kernel_rfl
theorem ag13 : aggOf Tryz.prog 13 = some true := by kernel_rfl
theorem zo13 : zOf Tryz.prog 13 = some (Go.Value.agg #[Go.Value.string { data := #[] }, Go.Value.int Go.IntKind.u64 0]) := by kernel_rfl
theorem st13 : stOk Tryz.prog 13 = true := by kernel_rfl
theorem pl13_0 : plOf Tryz.prog 13 0 = some (0, 1) := by kernel_rfl
theorem fd13_0 : fdOf Tryz.prog 13 0 = some (0, 9) := by kernel_rfl
theorem pt13_0 : ptOf Tryz.prog 13 0 = some (0, 1, false) := by kernel_rfl
theorem pl13_1 : plOf Tryz.prog 13 1 = some (1, 1) := by kernel_rfl
theorem fd13_1 : fdOf Tryz.prog 13 1 = some (1, 12) := by kernel_rfl
theorem pt13_1 : ptOf Tryz.prog 13 1 = some (1, 1, false) := by kernel_rfl
theorem sz14 : szOf Tryz.prog 14 = some 2 := by kernel_rfl
theorem ag14 : aggOf Tryz.prog 14 = some true := by kernel_rfl
theorem zo14 : zOf Tryz.prog 14 = some (Go.Value.agg #[Go.Value.string { data := #[] }, Go.Value.int Go.IntKind.u64 0]) := by kernel_rfl
theorem st14 : stOk Tryz.prog 14 = true := by kernel_rfl
theorem pl14_0 : plOf Tryz.prog 14 0 = some (0, 1) := by kernel_rfl
theorem fd14_0 : fdOf Tryz.prog 14 0 = some (0, 9) := by kernel_rfl
theorem pt14_0 : ptOf Tryz.prog 14 0 = some (0, 1, false) := by kernel_rfl
theorem pl14_1 : plOf Tryz.prog 14 1 = some (1, 1) := by kernel_rfl
theorem fd14_1 : fdOf Tryz.prog 14 1 = some (1, 12) := by kernel_rfl
theorem pt14_1 : ptOf Tryz.prog 14 1 = some (1, 1, false) := by kernel_rfl
theorem sz15 : szOf Tryz.prog 15 = some 1 := by kernel_rfl
theorem ag15 : aggOf Tryz.prog 15 = some false := by kernel_rfl
theorem zo15 : zOf Tryz.prog 15 = some (Go.Value.pointer none) := by kernel_rfl
theorem sz16 : szOf Tryz.prog 16 = some 1 := by kernel_rfl
theorem ag16 : aggOf Tryz.prog 16 = some false := by kernel_rfl
theorem zo16 : zOf Tryz.prog 16 = some (Go.Value.pointer none) := by kernel_rfl
theorem sz17 : szOf Tryz.prog 17 = some 1 := by kernel_rfl
theorem ag17 : aggOf Tryz.prog 17 = some false := by kernel_rfl
theorem zo17 : zOf Tryz.prog 17 = some (Go.Value.pointer none) := by kernel_rfl
theorem sz18 : szOf Tryz.prog 18 = some 1 := by kernel_rfl
theorem ag18 : aggOf Tryz.prog 18 = some true := by kernel_rfl
theorem zo18 : zOf Tryz.prog 18 = some (Go.Value.agg #[Go.Value.pointer none]) := by kernel_rfl
theorem st18 : stOk Tryz.prog 18 = true := by kernel_rfl
theorem pl18_0 : plOf Tryz.prog 18 0 = some (0, 1) := by kernel_rfl
theorem fd18_0 : fdOf Tryz.prog 18 0 = some (0, 17) := by kernel_rfl
theorem pt18_0 : ptOf Tryz.prog 18 0 = some (0, 1, false) := by kernel_rfl
theorem sz19 : szOf Tryz.prog 19 = some 1 := by kernel_rfl
theorem ag19 : aggOf Tryz.prog 19 = some true := by kernel_rfl
theorem zo19 : zOf Tryz.prog 19 = some (Go.Value.agg #[Go.Value.pointer none]) := by kernel_rfl
theorem st19 : stOk Tryz.prog 19 = true := by kernel_rfl
theorem pl19_0 : plOf Tryz.prog 19 0 = some (0, 1) := by kernel_rfl
theorem fd19_0 : fdOf Tryz.prog 19 0 = some (0, 17) := by kernel_rfl
theorem pt19_0 : ptOf Tryz.prog 19 0 = some (0, 1, false) := by kernel_rfl
theorem sz21 : szOf Tryz.prog 21 = some 1 := by kernel_rfl
theorem ag21 : aggOf Tryz.prog 21 = some false := by kernel_rfl
theorem zo21 : zOf Tryz.prog 21 = some (Go.Value.int Go.IntKind.i32 0) := by kernel_rfl
theorem sz22 : szOf Tryz.prog 22 = some 1 := by kernel_rfl
theorem ag22 : aggOf Tryz.prog 22 = some false := by kernel_rfl
theorem zo22 : zOf Tryz.prog 22 = some Go.Value.nilFunc := by kernel_rfl
theorem sz23 : szOf Tryz.prog 23 = some 1 := by kernel_rfl
theorem ag23 : aggOf Tryz.prog 23 = some false := by kernel_rfl
theorem zo23 : zOf Tryz.prog 23 = some (Go.Value.slice none 0 0) := by kernel_rfl
theorem sq23 : seqT Tryz.prog 23 = true := by kernel_rfl
theorem el23 : elOf Tryz.prog 23 = some 9 := by kernel_rfl
theorem es23 : esOf Tryz.prog 23 = some 1 := by kernel_rfl
theorem et23 : elT Tryz.prog 23 = some (1, 16, [V.d (D.val (Go.Value.string { data := #[] }))]) := by kernel_rfl
theorem sz24 : szOf Tryz.prog 24 = some 1 := by kernel_rfl
theorem ag24 : aggOf Tryz.prog 24 = some false := by kernel_rfl
theorem zo24 : zOf Tryz.prog 24 = some Go.Value.nilFunc := by kernel_rfl
theorem sz25 : szOf Tryz.prog 25 = some 1 := by kernel_rfl
theorem ag25 : aggOf Tryz.prog 25 = some false := by kernel_rfl
theorem zo25 : zOf Tryz.prog 25 = some Go.Value.nilFunc := by kernel_rfl
theorem sz26 : szOf Tryz.prog 26 = some 1 := by kernel_rfl
theorem ag26 : aggOf Tryz.prog 26 = some false := by kernel_rfl
theorem zo26 : zOf Tryz.prog 26 = some (Go.Value.slice none 0 0) := by kernel_rfl
theorem sq26 : seqT Tryz.prog 26 = true := by kernel_rfl
theorem el26 : elOf Tryz.prog 26 = some 96 := by kernel_rfl
theorem es26 : esOf Tryz.prog 26 = some 1 := by kernel_rfl
theorem et26 : elT Tryz.prog 26 = some (1, 4, [V.d (D.val (Go.Value.int Go.IntKind.u32 0))]) := by kernel_rfl
theorem sz27 : szOf Tryz.prog 27 = some 3 := by kernel_rfl
theorem ag27 : aggOf Tryz.prog 27 = some true := by kernel_rfl
theorem zo27 : zOf Tryz.prog 27 = some (Go.Value.agg #[Go.Value.bool false, Go.Value.slice none 0 0, Go.Value.slice none 0 0]) := by kernel_rfl
theorem st27 : stOk Tryz.prog 27 = true := by kernel_rfl
theorem pl27_0 : plOf Tryz.prog 27 0 = some (0, 1) := by kernel_rfl
theorem fd27_0 : fdOf Tryz.prog 27 0 = some (0, 4) := by kernel_rfl
theorem pt27_0 : ptOf Tryz.prog 27 0 = some (0, 1, false) := by kernel_rfl
theorem pl27_1 : plOf Tryz.prog 27 1 = some (1, 1) := by kernel_rfl
theorem fd27_1 : fdOf Tryz.prog 27 1 = some (1, 26) := by kernel_rfl
theorem pt27_1 : ptOf Tryz.prog 27 1 = some (1, 1, false) := by kernel_rfl
theorem pl27_2 : plOf Tryz.prog 27 2 = some (2, 1) := by kernel_rfl
theorem fd27_2 : fdOf Tryz.prog 27 2 = some (2, 26) := by kernel_rfl
theorem pt27_2 : ptOf Tryz.prog 27 2 = some (2, 1, false) := by kernel_rfl
theorem sz28 : szOf Tryz.prog 28 = some 3 := by kernel_rfl
theorem ag28 : aggOf Tryz.prog 28 = some true := by kernel_rfl
theorem zo28 : zOf Tryz.prog 28 = some (Go.Value.agg #[Go.Value.bool false, Go.Value.slice none 0 0, Go.Value.slice none 0 0]) := by kernel_rfl
theorem st28 : stOk Tryz.prog 28 = true := by kernel_rfl
theorem pl28_0 : plOf Tryz.prog 28 0 = some (0, 1) := by kernel_rfl
theorem fd28_0 : fdOf Tryz.prog 28 0 = some (0, 4) := by kernel_rfl
theorem pt28_0 : ptOf Tryz.prog 28 0 = some (0, 1, false) := by kernel_rfl
theorem pl28_1 : plOf Tryz.prog 28 1 = some (1, 1) := by kernel_rfl
theorem fd28_1 : fdOf Tryz.prog 28 1 = some (1, 26) := by kernel_rfl
theorem pt28_1 : ptOf Tryz.prog 28 1 = some (1, 1, false) := by kernel_rfl
theorem pl28_2 : plOf Tryz.prog 28 2 = some (2, 1) := by kernel_rfl
theorem fd28_2 : fdOf Tryz.prog 28 2 = some (2, 26) := by kernel_rfl
theorem pt28_2 : ptOf Tryz.prog 28 2 = some (2, 1, false) := by kernel_rfl
theorem sz29 : szOf Tryz.prog 29 = some 1 := by kernel_rfl
theorem ag29 : aggOf Tryz.prog 29 = some false := by kernel_rfl
theorem zo29 : zOf Tryz.prog 29 = some (Go.Value.slice none 0 0) := by kernel_rfl
theorem sq29 : seqT Tryz.prog 29 = true := by kernel_rfl
theorem el29 : elOf Tryz.prog 29 = some 31 := by kernel_rfl
theorem es29 : esOf Tryz.prog 29 = some 6 := by kernel_rfl
theorem et29 : elT Tryz.prog 29 = some (6, 104, [V.d (D.val (Go.Value.int Go.IntKind.i64 0)), V.d (D.val (Go.Value.string { data := #[] })), V.d (D.val (Go.Value.bool false)), V.d (D.val (Go.Value.slice none 0 0)), V.d (D.val (Go.Value.slice none 0 0)), V.d (D.val (Go.Value.slice none 0 0))]) := by kernel_rfl
theorem sz30 : szOf Tryz.prog 30 = some 6 := by kernel_rfl
theorem ag30 : aggOf Tryz.prog 30 = some true := by kernel_rfl
theorem zo30 : zOf Tryz.prog 30 = some (Go.Value.agg #[Go.Value.int Go.IntKind.i64 0, Go.Value.string { data := #[] }, Go.Value.bool false, Go.Value.slice none 0 0, Go.Value.slice none 0 0, Go.Value.slice none 0 0]) := by kernel_rfl
theorem st30 : stOk Tryz.prog 30 = true := by kernel_rfl
theorem pl30_0 : plOf Tryz.prog 30 0 = some (0, 1) := by kernel_rfl
theorem fd30_0 : fdOf Tryz.prog 30 0 = some (0, 3) := by kernel_rfl
theorem pt30_0 : ptOf Tryz.prog 30 0 = some (0, 1, false) := by kernel_rfl
theorem pl30_1 : plOf Tryz.prog 30 1 = some (1, 1) := by kernel_rfl
theorem fd30_1 : fdOf Tryz.prog 30 1 = some (1, 9) := by kernel_rfl
theorem pt30_1 : ptOf Tryz.prog 30 1 = some (1, 1, false) := by kernel_rfl
theorem pl30_2 : plOf Tryz.prog 30 2 = some (2, 3) := by kernel_rfl
theorem fd30_2 : fdOf Tryz.prog 30 2 = some (2, 28) := by kernel_rfl
theorem pt30_2 : ptOf Tryz.prog 30 2 = some (2, 3, true) := by kernel_rfl
theorem pl30_3 : plOf Tryz.prog 30 3 = some (5, 1) := by kernel_rfl
theorem fd30_3 : fdOf Tryz.prog 30 3 = some (5, 29) := by kernel_rfl
theorem pt30_3 : ptOf Tryz.prog 30 3 = some (5, 1, false) := by kernel_rfl
theorem sz31 : szOf Tryz.prog 31 = some 6 := by kernel_rfl
theorem ag31 : aggOf Tryz.prog 31 = some true := by kernel_rfl
theorem zo31 : zOf Tryz.prog 31 = some (Go.Value.agg #[Go.Value.int Go.IntKind.i64 0, Go.Value.string { data := #[] }, Go.Value.bool false, Go.Value.slice none 0 0, Go.Value.slice none 0 0, Go.Value.slice none 0 0]) := by kernel_rfl
theorem st31 : stOk Tryz.prog 31 = true := by kernel_rfl
theorem pl31_0 : plOf Tryz.prog 31 0 = some (0, 1) := by kernel_rfl
theorem fd31_0 : fdOf Tryz.prog 31 0 = some (0, 3) := by kernel_rfl
theorem pt31_0 : ptOf Tryz.prog 31 0 = some (0, 1, false) := by kernel_rfl
theorem pl31_1 : plOf Tryz.prog 31 1 = some (1, 1) := by kernel_rfl
theorem fd31_1 : fdOf Tryz.prog 31 1 = some (1, 9) := by kernel_rfl
theorem pt31_1 : ptOf Tryz.prog 31 1 = some (1, 1, false) := by kernel_rfl
theorem pl31_2 : plOf Tryz.prog 31 2 = some (2, 3) := by kernel_rfl
theorem fd31_2 : fdOf Tryz.prog 31 2 = some (2, 28) := by kernel_rfl
theorem pt31_2 : ptOf Tryz.prog 31 2 = some (2, 3, true) := by kernel_rfl
theorem pl31_3 : plOf Tryz.prog 31 3 = some (5, 1) := by kernel_rfl
theorem fd31_3 : fdOf Tryz.prog 31 3 = some (5, 29) := by kernel_rfl
theorem pt31_3 : ptOf Tryz.prog 31 3 = some (5, 1, false) := by kernel_rfl
theorem sz32 : szOf Tryz.prog 32 = some 1 := by kernel_rfl
theorem ag32 : aggOf Tryz.prog 32 = some false := by kernel_rfl
theorem zo32 : zOf Tryz.prog 32 = some Go.Value.nilFunc := by kernel_rfl
theorem sz33 : szOf Tryz.prog 33 = some 1 := by kernel_rfl
theorem ag33 : aggOf Tryz.prog 33 = some false := by kernel_rfl
theorem zo33 : zOf Tryz.prog 33 = some (Go.Value.int Go.IntKind.i64 0) := by kernel_rfl
theorem sz35 : szOf Tryz.prog 35 = some 1 := by kernel_rfl
theorem ag35 : aggOf Tryz.prog 35 = some false := by kernel_rfl
theorem zo35 : zOf Tryz.prog 35 = some Go.Value.nilFunc := by kernel_rfl
theorem sz36 : szOf Tryz.prog 36 = some 1 := by kernel_rfl
theorem ag36 : aggOf Tryz.prog 36 = some false := by kernel_rfl
theorem zo36 : zOf Tryz.prog 36 = some Go.Value.nilFunc := by kernel_rfl
theorem sz37 : szOf Tryz.prog 37 = some 1 := by kernel_rfl
theorem ag37 : aggOf Tryz.prog 37 = some false := by kernel_rfl
theorem zo37 : zOf Tryz.prog 37 = some Go.Value.nilFunc := by kernel_rfl
theorem sz39 : szOf Tryz.prog 39 = some 1 := by kernel_rfl
theorem ag39 : aggOf Tryz.prog 39 = some false := by kernel_rfl
theorem zo39 : zOf Tryz.prog 39 = some Go.Value.nilFunc := by kernel_rfl
theorem sz40 : szOf Tryz.prog 40 = some 21 := by kernel_rfl
theorem ag40 : aggOf Tryz.prog 40 = some true := by kernel_rfl
theorem zo40 : zOf Tryz.prog 40 = some (Go.Value.agg #[Go.Value.string { data := #[] }, Go.Value.string { data := #[] }, Go.Value.string { data := #[] }, Go.Value.string { data := #[] }, Go.Value.string { data := #[] }, Go.Value.string { data := #[] }, Go.Value.string { data := #[] }, Go.Value.string { data := #[] }, Go.Value.string { data := #[] }, Go.Value.string { data := #[] }, Go.Value.string { data := #[] }, Go.Value.string { data := #[] }, Go.Value.string { data := #[] }, Go.Value.string { data := #[] }, Go.Value.string { data := #[] }, Go.Value.string { data := #[] }, Go.Value.string { data := #[] }, Go.Value.string { data := #[] }, Go.Value.string { data := #[] }, Go.Value.string { data := #[] }, Go.Value.string { data := #[] }]) := by kernel_rfl
theorem sz42 : szOf Tryz.prog 42 = some 1 := by kernel_rfl
theorem ag42 : aggOf Tryz.prog 42 = some false := by kernel_rfl
theorem zo42 : zOf Tryz.prog 42 = some Go.Value.nilFunc := by kernel_rfl
theorem sz43 : szOf Tryz.prog 43 = some 1 := by kernel_rfl
theorem ag43 : aggOf Tryz.prog 43 = some false := by kernel_rfl
theorem zo43 : zOf Tryz.prog 43 = some Go.Value.nilFunc := by kernel_rfl
theorem sz44 : szOf Tryz.prog 44 = some 1 := by kernel_rfl
theorem ag44 : aggOf Tryz.prog 44 = some false := by kernel_rfl
theorem zo44 : zOf Tryz.prog 44 = some Go.Value.nilFunc := by kernel_rfl
theorem sz45 : szOf Tryz.prog 45 = some 1 := by kernel_rfl
theorem ag45 : aggOf Tryz.prog 45 = some false := by kernel_rfl
theorem zo45 : zOf Tryz.prog 45 = some Go.Value.nilFunc := by kernel_rfl
theorem sz47 : szOf Tryz.prog 47 = some 1 := by kernel_rfl
theorem ag47 : aggOf Tryz.prog 47 = some false := by kernel_rfl
theorem zo47 : zOf Tryz.prog 47 = some Go.Value.nilFunc := by kernel_rfl
theorem sz48 : szOf Tryz.prog 48 = some 1 := by kernel_rfl
theorem ag48 : aggOf Tryz.prog 48 = some false := by kernel_rfl
theorem zo48 : zOf Tryz.prog 48 = some Go.Value.nilFunc := by kernel_rfl
theorem sz49 : szOf Tryz.prog 49 = some 1 := by kernel_rfl
theorem ag49 : aggOf Tryz.prog 49 = some false := by kernel_rfl
theorem zo49 : zOf Tryz.prog 49 = some (Go.Value.slice none 0 0) := by kernel_rfl
theorem sq49 : seqT Tryz.prog 49 = true := by kernel_rfl
theorem el49 : elOf Tryz.prog 49 = some 5 := by kernel_rfl
theorem es49 : esOf Tryz.prog 49 = some 1 := by kernel_rfl
theorem et49 : elT Tryz.prog 49 = some (1, 1, [V.d (D.val (Go.Value.int Go.IntKind.u8 0))]) := by kernel_rfl
theorem sz50 : szOf Tryz.prog 50 = some 1 := by kernel_rfl
theorem ag50 : aggOf Tryz.prog 50 = some false := by kernel_rfl
theorem zo50 : zOf Tryz.prog 50 = some Go.Value.nilFunc := by kernel_rfl
theorem sz51 : szOf Tryz.prog 51 = some 1 := by kernel_rfl
theorem ag51 : aggOf Tryz.prog 51 = some false := by kernel_rfl
theorem zo51 : zOf Tryz.prog 51 = some Go.Value.nilFunc := by kernel_rfl
theorem sz52 : szOf Tryz.prog 52 = some 1 := by kernel_rfl
theorem ag52 : aggOf Tryz.prog 52 = some false := by kernel_rfl
theorem zo52 : zOf Tryz.prog 52 = some Go.Value.nilFunc := by kernel_rfl
theorem sz53 : szOf Tryz.prog 53 = some 1 := by kernel_rfl
theorem ag53 : aggOf Tryz.prog 53 = some false := by kernel_rfl
theorem zo53 : zOf Tryz.prog 53 = some Go.Value.nilFunc := by kernel_rfl
theorem sz54 : szOf Tryz.prog 54 = some 1 := by kernel_rfl
theorem ag54 : aggOf Tryz.prog 54 = some false := by kernel_rfl
theorem zo54 : zOf Tryz.prog 54 = some Go.Value.nilFunc := by kernel_rfl
theorem sz55 : szOf Tryz.prog 55 = some 1 := by kernel_rfl
theorem ag55 : aggOf Tryz.prog 55 = some false := by kernel_rfl
theorem zo55 : zOf Tryz.prog 55 = some Go.Value.nilFunc := by kernel_rfl
theorem sz56 : szOf Tryz.prog 56 = some 1 := by kernel_rfl
theorem ag56 : aggOf Tryz.prog 56 = some false := by kernel_rfl
theorem zo56 : zOf Tryz.prog 56 = some (Go.Value.pointer none) := by kernel_rfl
theorem sz57 : szOf Tryz.prog 57 = some 1 := by kernel_rfl
theorem ag57 : aggOf Tryz.prog 57 = some false := by kernel_rfl
theorem zo57 : zOf Tryz.prog 57 = some Go.Value.nilFunc := by kernel_rfl
theorem sz58 : szOf Tryz.prog 58 = some 3 := by kernel_rfl
theorem ag58 : aggOf Tryz.prog 58 = some true := by kernel_rfl
theorem zo58 : zOf Tryz.prog 58 = some (Go.Value.agg #[Go.Value.bool false, Go.Value.bool false, Go.Value.bool false]) := by kernel_rfl
theorem st58 : stOk Tryz.prog 58 = true := by kernel_rfl
theorem pl58_0 : plOf Tryz.prog 58 0 = some (0, 1) := by kernel_rfl
theorem fd58_0 : fdOf Tryz.prog 58 0 = some (0, 4) := by kernel_rfl
theorem pt58_0 : ptOf Tryz.prog 58 0 = some (0, 1, false) := by kernel_rfl
theorem pl58_1 : plOf Tryz.prog 58 1 = some (1, 1) := by kernel_rfl
theorem fd58_1 : fdOf Tryz.prog 58 1 = some (1, 4) := by kernel_rfl
theorem pt58_1 : ptOf Tryz.prog 58 1 = some (1, 1, false) := by kernel_rfl
theorem pl58_2 : plOf Tryz.prog 58 2 = some (2, 1) := by kernel_rfl
theorem fd58_2 : fdOf Tryz.prog 58 2 = some (2, 4) := by kernel_rfl
theorem pt58_2 : ptOf Tryz.prog 58 2 = some (2, 1, false) := by kernel_rfl
theorem sz59 : szOf Tryz.prog 59 = some 3 := by kernel_rfl
theorem ag59 : aggOf Tryz.prog 59 = some true := by kernel_rfl
theorem zo59 : zOf Tryz.prog 59 = some (Go.Value.agg #[Go.Value.bool false, Go.Value.bool false, Go.Value.bool false]) := by kernel_rfl
theorem st59 : stOk Tryz.prog 59 = true := by kernel_rfl
theorem pl59_0 : plOf Tryz.prog 59 0 = some (0, 1) := by kernel_rfl
theorem fd59_0 : fdOf Tryz.prog 59 0 = some (0, 4) := by kernel_rfl
theorem pt59_0 : ptOf Tryz.prog 59 0 = some (0, 1, false) := by kernel_rfl
theorem pl59_1 : plOf Tryz.prog 59 1 = some (1, 1) := by kernel_rfl
theorem fd59_1 : fdOf Tryz.prog 59 1 = some (1, 4) := by kernel_rfl
theorem pt59_1 : ptOf Tryz.prog 59 1 = some (1, 1, false) := by kernel_rfl
theorem pl59_2 : plOf Tryz.prog 59 2 = some (2, 1) := by kernel_rfl
theorem fd59_2 : fdOf Tryz.prog 59 2 = some (2, 4) := by kernel_rfl
theorem pt59_2 : ptOf Tryz.prog 59 2 = some (2, 1, false) := by kernel_rfl
theorem sz60 : szOf Tryz.prog 60 = some 1 := by kernel_rfl
theorem ag60 : aggOf Tryz.prog 60 = some false := by kernel_rfl
theorem zo60 : zOf Tryz.prog 60 = some (Go.Value.pointer none) := by kernel_rfl
theorem sz61 : szOf Tryz.prog 61 = some 1 := by kernel_rfl
theorem ag61 : aggOf Tryz.prog 61 = some true := by kernel_rfl
theorem zo61 : zOf Tryz.prog 61 = some (Go.Value.agg #[Go.Value.slice none 0 0]) := by kernel_rfl
theorem st61 : stOk Tryz.prog 61 = true := by kernel_rfl
theorem pl61_0 : plOf Tryz.prog 61 0 = some (0, 1) := by kernel_rfl
theorem fd61_0 : fdOf Tryz.prog 61 0 = some (0, 49) := by kernel_rfl
theorem pt61_0 : ptOf Tryz.prog 61 0 = some (0, 1, false) := by kernel_rfl
theorem sz62 : szOf Tryz.prog 62 = some 1 := by kernel_rfl
theorem ag62 : aggOf Tryz.prog 62 = some true := by kernel_rfl
theorem zo62 : zOf Tryz.prog 62 = some (Go.Value.agg #[Go.Value.slice none 0 0]) := by kernel_rfl
theorem st62 : stOk Tryz.prog 62 = true := by kernel_rfl
theorem pl62_0 : plOf Tryz.prog 62 0 = some (0, 1) := by kernel_rfl
theorem fd62_0 : fdOf Tryz.prog 62 0 = some (0, 49) := by kernel_rfl
theorem pt62_0 : ptOf Tryz.prog 62 0 = some (0, 1, false) := by kernel_rfl
theorem sz63 : szOf Tryz.prog 63 = some 1 := by kernel_rfl
theorem ag63 : aggOf Tryz.prog 63 = some false := by kernel_rfl
theorem zo63 : zOf Tryz.prog 63 = some Go.Value.nilFunc := by kernel_rfl
theorem sz64 : szOf Tryz.prog 64 = some 1 := by kernel_rfl
theorem ag64 : aggOf Tryz.prog 64 = some false := by kernel_rfl
theorem zo64 : zOf Tryz.prog 64 = some Go.Value.nilFunc := by kernel_rfl
theorem sz65 : szOf Tryz.prog 65 = some 1 := by kernel_rfl
theorem ag65 : aggOf Tryz.prog 65 = some false := by kernel_rfl
theorem zo65 : zOf Tryz.prog 65 = some (Go.Value.slice none 0 0) := by kernel_rfl
theorem sq65 : seqT Tryz.prog 65 = true := by kernel_rfl
theorem el65 : elOf Tryz.prog 65 = some 3 := by kernel_rfl
theorem es65 : esOf Tryz.prog 65 = some 1 := by kernel_rfl
theorem et65 : elT Tryz.prog 65 = some (1, 8, [V.d (D.val (Go.Value.int Go.IntKind.i64 0))]) := by kernel_rfl
theorem sz66 : szOf Tryz.prog 66 = some 1 := by kernel_rfl
theorem ag66 : aggOf Tryz.prog 66 = some false := by kernel_rfl
theorem zo66 : zOf Tryz.prog 66 = some (Go.Value.slice none 0 0) := by kernel_rfl
theorem sq66 : seqT Tryz.prog 66 = true := by kernel_rfl
theorem el66 : elOf Tryz.prog 66 = some 3 := by kernel_rfl
theorem es66 : esOf Tryz.prog 66 = some 1 := by kernel_rfl
theorem et66 : elT Tryz.prog 66 = some (1, 8, [V.d (D.val (Go.Value.int Go.IntKind.i64 0))]) := by kernel_rfl
theorem sz67 : szOf Tryz.prog 67 = some 3 := by kernel_rfl
theorem ag67 : aggOf Tryz.prog 67 = some true := by kernel_rfl
theorem zo67 : zOf Tryz.prog 67 = some (Go.Value.agg #[Go.Value.bool false, Go.Value.slice none 0 0, Go.Value.slice none 0 0]) := by kernel_rfl
theorem st67 : stOk Tryz.prog 67 = true := by kernel_rfl
theorem pl67_0 : plOf Tryz.prog 67 0 = some (0, 1) := by kernel_rfl
theorem fd67_0 : fdOf Tryz.prog 67 0 = some (0, 4) := by kernel_rfl
theorem pt67_0 : ptOf Tryz.prog 67 0 = some (0, 1, false) := by kernel_rfl
theorem pl67_1 : plOf Tryz.prog 67 1 = some (1, 1) := by kernel_rfl
theorem fd67_1 : fdOf Tryz.prog 67 1 = some (1, 66) := by kernel_rfl
theorem pt67_1 : ptOf Tryz.prog 67 1 = some (1, 1, false) := by kernel_rfl
theorem pl67_2 : plOf Tryz.prog 67 2 = some (2, 1) := by kernel_rfl
theorem fd67_2 : fdOf Tryz.prog 67 2 = some (2, 66) := by kernel_rfl
theorem pt67_2 : ptOf Tryz.prog 67 2 = some (2, 1, false) := by kernel_rfl
theorem sz68 : szOf Tryz.prog 68 = some 3 := by kernel_rfl
theorem ag68 : aggOf Tryz.prog 68 = some true := by kernel_rfl
theorem zo68 : zOf Tryz.prog 68 = some (Go.Value.agg #[Go.Value.bool false, Go.Value.slice none 0 0, Go.Value.slice none 0 0]) := by kernel_rfl
theorem st68 : stOk Tryz.prog 68 = true := by kernel_rfl
theorem pl68_0 : plOf Tryz.prog 68 0 = some (0, 1) := by kernel_rfl
theorem fd68_0 : fdOf Tryz.prog 68 0 = some (0, 4) := by kernel_rfl
theorem pt68_0 : ptOf Tryz.prog 68 0 = some (0, 1, false) := by kernel_rfl
theorem pl68_1 : plOf Tryz.prog 68 1 = some (1, 1) := by kernel_rfl
theorem fd68_1 : fdOf Tryz.prog 68 1 = some (1, 66) := by kernel_rfl
theorem pt68_1 : ptOf Tryz.prog 68 1 = some (1, 1, false) := by kernel_rfl
theorem pl68_2 : plOf Tryz.prog 68 2 = some (2, 1) := by kernel_rfl
theorem fd68_2 : fdOf Tryz.prog 68 2 = some (2, 66) := by kernel_rfl
theorem pt68_2 : ptOf Tryz.prog 68 2 = some (2, 1, false) := by kernel_rfl
theorem sz69 : szOf Tryz.prog 69 = some 1 := by kernel_rfl
theorem ag69 : aggOf Tryz.prog 69 = some false := by kernel_rfl
theorem zo69 : zOf Tryz.prog 69 = some Go.Value.nilFunc := by kernel_rfl
theorem sz70 : szOf Tryz.prog 70 = some 1 := by kernel_rfl
theorem ag70 : aggOf Tryz.prog 70 = some false := by kernel_rfl
theorem zo70 : zOf Tryz.prog 70 = some Go.Value.nilFunc := by kernel_rfl
theorem sz71 : szOf Tryz.prog 71 = some 1 := by kernel_rfl
theorem ag71 : aggOf Tryz.prog 71 = some false := by kernel_rfl
theorem zo71 : zOf Tryz.prog 71 = some (Go.Value.pointer none) := by kernel_rfl
theorem sz72 : szOf Tryz.prog 72 = some 4 := by kernel_rfl
theorem ag72 : aggOf Tryz.prog 72 = some true := by kernel_rfl
theorem zo72 : zOf Tryz.prog 72 = some (Go.Value.agg #[Go.Value.int Go.IntKind.i64 0, Go.Value.string { data := #[] }, Go.Value.int Go.IntKind.i64 0, Go.Value.int Go.IntKind.i64 0]) := by kernel_rfl
theorem st72 : stOk Tryz.prog 72 = true := by kernel_rfl
theorem pl72_0 : plOf Tryz.prog 72 0 = some (0, 1) := by kernel_rfl
theorem fd72_0 : fdOf Tryz.prog 72 0 = some (0, 3) := by kernel_rfl
theorem pt72_0 : ptOf Tryz.prog 72 0 = some (0, 1, false) := by kernel_rfl
theorem pl72_1 : plOf Tryz.prog 72 1 = some (1, 1) := by kernel_rfl
theorem fd72_1 : fdOf Tryz.prog 72 1 = some (1, 9) := by kernel_rfl
theorem pt72_1 : ptOf Tryz.prog 72 1 = some (1, 1, false) := by kernel_rfl
theorem pl72_2 : plOf Tryz.prog 72 2 = some (2, 1) := by kernel_rfl
theorem fd72_2 : fdOf Tryz.prog 72 2 = some (2, 3) := by kernel_rfl
theorem pt72_2 : ptOf Tryz.prog 72 2 = some (2, 1, false) := by kernel_rfl
theorem pl72_3 : plOf Tryz.prog 72 3 = some (3, 1) := by kernel_rfl
theorem fd72_3 : fdOf Tryz.prog 72 3 = some (3, 3) := by kernel_rfl
theorem pt72_3 : ptOf Tryz.prog 72 3 = some (3, 1, false) := by kernel_rfl
theorem sz73 : szOf Tryz.prog 73 = some 4 := by kernel_rfl
theorem ag73 : aggOf Tryz.prog 73 = some true := by kernel_rfl
theorem zo73 : zOf Tryz.prog 73 = some (Go.Value.agg #[Go.Value.int Go.IntKind.i64 0, Go.Value.string { data := #[] }, Go.Value.int Go.IntKind.i64 0, Go.Value.int Go.IntKind.i64 0]) := by kernel_rfl
theorem st73 : stOk Tryz.prog 73 = true := by kernel_rfl
theorem pl73_0 : plOf Tryz.prog 73 0 = some (0, 1) := by kernel_rfl
theorem fd73_0 : fdOf Tryz.prog 73 0 = some (0, 3) := by kernel_rfl
theorem pt73_0 : ptOf Tryz.prog 73 0 = some (0, 1, false) := by kernel_rfl
theorem pl73_1 : plOf Tryz.prog 73 1 = some (1, 1) := by kernel_rfl
theorem fd73_1 : fdOf Tryz.prog 73 1 = some (1, 9) := by kernel_rfl
theorem pt73_1 : ptOf Tryz.prog 73 1 = some (1, 1, false) := by kernel_rfl
theorem pl73_2 : plOf Tryz.prog 73 2 = some (2, 1) := by kernel_rfl
theorem fd73_2 : fdOf Tryz.prog 73 2 = some (2, 3) := by kernel_rfl
theorem pt73_2 : ptOf Tryz.prog 73 2 = some (2, 1, false) := by kernel_rfl
theorem pl73_3 : plOf Tryz.prog 73 3 = some (3, 1) := by kernel_rfl
theorem fd73_3 : fdOf Tryz.prog 73 3 = some (3, 3) := by kernel_rfl
theorem pt73_3 : ptOf Tryz.prog 73 3 = some (3, 1, false) := by kernel_rfl
theorem sz74 : szOf Tryz.prog 74 = some 8 := by kernel_rfl
theorem ag74 : aggOf Tryz.prog 74 = some true := by kernel_rfl
theorem zo74 : zOf Tryz.prog 74 = some (Go.Value.agg #[Go.Value.string { data := #[] }, Go.Value.int Go.IntKind.i64 0, Go.Value.string { data := #[] }, Go.Value.int Go.IntKind.i64 0, Go.Value.int Go.IntKind.i64 0, Go.Value.int Go.IntKind.i64 0, Go.Value.int Go.IntKind.i64 0, Go.Value.int Go.IntKind.i64 0]) := by kernel_rfl
theorem st74 : stOk Tryz.prog 74 = true := by kernel_rfl
theorem pl74_0 : plOf Tryz.prog 74 0 = some (0, 1) := by kernel_rfl
theorem fd74_0 : fdOf Tryz.prog 74 0 = some (0, 9) := by kernel_rfl
theorem pt74_0 : ptOf Tryz.prog 74 0 = some (0, 1, false) := by kernel_rfl
theorem pl74_1 : plOf Tryz.prog 74 1 = some (1, 4) := by kernel_rfl
theorem fd74_1 : fdOf Tryz.prog 74 1 = some (1, 73) := by kernel_rfl
theorem pt74_1 : ptOf Tryz.prog 74 1 = some (1, 4, true) := by kernel_rfl
theorem pl74_2 : plOf Tryz.prog 74 2 = some (5, 1) := by kernel_rfl
theorem fd74_2 : fdOf Tryz.prog 74 2 = some (5, 3) := by kernel_rfl
theorem pt74_2 : ptOf Tryz.prog 74 2 = some (5, 1, false) := by kernel_rfl
theorem pl74_3 : plOf Tryz.prog 74 3 = some (6, 1) := by kernel_rfl
theorem fd74_3 : fdOf Tryz.prog 74 3 = some (6, 33) := by kernel_rfl
theorem pt74_3 : ptOf Tryz.prog 74 3 = some (6, 1, false) := by kernel_rfl
theorem pl74_4 : plOf Tryz.prog 74 4 = some (7, 1) := by kernel_rfl
theorem fd74_4 : fdOf Tryz.prog 74 4 = some (7, 3) := by kernel_rfl
theorem pt74_4 : ptOf Tryz.prog 74 4 = some (7, 1, false) := by kernel_rfl
theorem sz75 : szOf Tryz.prog 75 = some 8 := by kernel_rfl
theorem ag75 : aggOf Tryz.prog 75 = some true := by kernel_rfl
theorem zo75 : zOf Tryz.prog 75 = some (Go.Value.agg #[Go.Value.string { data := #[] }, Go.Value.int Go.IntKind.i64 0, Go.Value.string { data := #[] }, Go.Value.int Go.IntKind.i64 0, Go.Value.int Go.IntKind.i64 0, Go.Value.int Go.IntKind.i64 0, Go.Value.int Go.IntKind.i64 0, Go.Value.int Go.IntKind.i64 0]) := by kernel_rfl
theorem st75 : stOk Tryz.prog 75 = true := by kernel_rfl
theorem pl75_0 : plOf Tryz.prog 75 0 = some (0, 1) := by kernel_rfl
theorem fd75_0 : fdOf Tryz.prog 75 0 = some (0, 9) := by kernel_rfl
theorem pt75_0 : ptOf Tryz.prog 75 0 = some (0, 1, false) := by kernel_rfl
theorem pl75_1 : plOf Tryz.prog 75 1 = some (1, 4) := by kernel_rfl
theorem fd75_1 : fdOf Tryz.prog 75 1 = some (1, 73) := by kernel_rfl
theorem pt75_1 : ptOf Tryz.prog 75 1 = some (1, 4, true) := by kernel_rfl
theorem pl75_2 : plOf Tryz.prog 75 2 = some (5, 1) := by kernel_rfl
theorem fd75_2 : fdOf Tryz.prog 75 2 = some (5, 3) := by kernel_rfl
theorem pt75_2 : ptOf Tryz.prog 75 2 = some (5, 1, false) := by kernel_rfl
theorem pl75_3 : plOf Tryz.prog 75 3 = some (6, 1) := by kernel_rfl
theorem fd75_3 : fdOf Tryz.prog 75 3 = some (6, 33) := by kernel_rfl
theorem pt75_3 : ptOf Tryz.prog 75 3 = some (6, 1, false) := by kernel_rfl
theorem pl75_4 : plOf Tryz.prog 75 4 = some (7, 1) := by kernel_rfl
theorem fd75_4 : fdOf Tryz.prog 75 4 = some (7, 3) := by kernel_rfl
theorem pt75_4 : ptOf Tryz.prog 75 4 = some (7, 1, false) := by kernel_rfl
theorem sz76 : szOf Tryz.prog 76 = some 1 := by kernel_rfl
theorem ag76 : aggOf Tryz.prog 76 = some false := by kernel_rfl
theorem zo76 : zOf Tryz.prog 76 = some Go.Value.nilFunc := by kernel_rfl
theorem sz77 : szOf Tryz.prog 77 = some 1 := by kernel_rfl
theorem ag77 : aggOf Tryz.prog 77 = some false := by kernel_rfl
theorem zo77 : zOf Tryz.prog 77 = some Go.Value.nilFunc := by kernel_rfl
theorem sz78 : szOf Tryz.prog 78 = some 1 := by kernel_rfl
theorem ag78 : aggOf Tryz.prog 78 = some false := by kernel_rfl
theorem zo78 : zOf Tryz.prog 78 = some Go.Value.nilFunc := by kernel_rfl
theorem sz79 : szOf Tryz.prog 79 = some 1 := by kernel_rfl
theorem ag79 : aggOf Tryz.prog 79 = some false := by kernel_rfl
theorem zo79 : zOf Tryz.prog 79 = some Go.Value.nilFunc := by kernel_rfl
theorem sz80 : szOf Tryz.prog 80 = some 1 := by kernel_rfl
theorem ag80 : aggOf Tryz.prog 80 = some false := by kernel_rfl
theorem zo80 : zOf Tryz.prog 80 = some Go.Value.nilFunc := by kernel_rfl
theorem sz81 : szOf Tryz.prog 81 = some 1 := by kernel_rfl
theorem ag81 : aggOf Tryz.prog 81 = some false := by kernel_rfl
theorem zo81 : zOf Tryz.prog 81 = some Go.Value.nilFunc := by kernel_rfl
theorem sz82 : szOf Tryz.prog 82 = some 1 := by kernel_rfl
theorem ag82 : aggOf Tryz.prog 82 = some false := by kernel_rfl
theorem zo82 : zOf Tryz.prog 82 = some Go.Value.nilFunc := by kernel_rfl
theorem sz83 : szOf Tryz.prog 83 = some 1 := by kernel_rfl
theorem ag83 : aggOf Tryz.prog 83 = some false := by kernel_rfl
theorem zo83 : zOf Tryz.prog 83 = some Go.Value.nilFunc := by kernel_rfl
theorem sz84 : szOf Tryz.prog 84 = some 1 := by kernel_rfl
theorem ag84 : aggOf Tryz.prog 84 = some false := by kernel_rfl
theorem zo84 : zOf Tryz.prog 84 = some Go.Value.nilFunc := by kernel_rfl
theorem sz85 : szOf Tryz.prog 85 = some 1 := by kernel_rfl
theorem ag85 : aggOf Tryz.prog 85 = some false := by kernel_rfl
theorem zo85 : zOf Tryz.prog 85 = some Go.Value.nilFunc := by kernel_rfl
theorem sz86 : szOf Tryz.prog 86 = some 1 := by kernel_rfl
theorem ag86 : aggOf Tryz.prog 86 = some false := by kernel_rfl
theorem zo86 : zOf Tryz.prog 86 = some Go.Value.nilFunc := by kernel_rfl
theorem sz87 : szOf Tryz.prog 87 = some 2 := by kernel_rfl
theorem ag87 : aggOf Tryz.prog 87 = some true := by kernel_rfl
theorem zo87 : zOf Tryz.prog 87 = some (Go.Value.agg #[Go.Value.int Go.IntKind.i64 0, Go.Value.int Go.IntKind.i64 0]) := by kernel_rfl
theorem st87 : stOk Tryz.prog 87 = true := by kernel_rfl
theorem pl87_0 : plOf Tryz.prog 87 0 = some (0, 1) := by kernel_rfl
theorem fd87_0 : fdOf Tryz.prog 87 0 = some (0, 3) := by kernel_rfl
theorem pt87_0 : ptOf Tryz.prog 87 0 = some (0, 1, false) := by kernel_rfl
theorem pl87_1 : plOf Tryz.prog 87 1 = some (1, 1) := by kernel_rfl
theorem fd87_1 : fdOf Tryz.prog 87 1 = some (1, 33) := by kernel_rfl
theorem pt87_1 : ptOf Tryz.prog 87 1 = some (1, 1, false) := by kernel_rfl
theorem sz88 : szOf Tryz.prog 88 = some 2 := by kernel_rfl
theorem ag88 : aggOf Tryz.prog 88 = some true := by kernel_rfl
theorem zo88 : zOf Tryz.prog 88 = some (Go.Value.agg #[Go.Value.int Go.IntKind.i64 0, Go.Value.int Go.IntKind.i64 0]) := by kernel_rfl
theorem st88 : stOk Tryz.prog 88 = true := by kernel_rfl
theorem pl88_0 : plOf Tryz.prog 88 0 = some (0, 1) := by kernel_rfl
theorem fd88_0 : fdOf Tryz.prog 88 0 = some (0, 3) := by kernel_rfl
theorem pt88_0 : ptOf Tryz.prog 88 0 = some (0, 1, false) := by kernel_rfl
theorem pl88_1 : plOf Tryz.prog 88 1 = some (1, 1) := by kernel_rfl
theorem fd88_1 : fdOf Tryz.prog 88 1 = some (1, 33) := by kernel_rfl
theorem pt88_1 : ptOf Tryz.prog 88 1 = some (1, 1, false) := by kernel_rfl
theorem sz90 : szOf Tryz.prog 90 = some 1 := by kernel_rfl
theorem ag90 : aggOf Tryz.prog 90 = some false := by kernel_rfl
theorem zo90 : zOf Tryz.prog 90 = some (Go.Value.pointer none) := by kernel_rfl
theorem sz91 : szOf Tryz.prog 91 = some 1 := by kernel_rfl
theorem ag91 : aggOf Tryz.prog 91 = some false := by kernel_rfl
theorem zo91 : zOf Tryz.prog 91 = some Go.Value.nilFunc := by kernel_rfl
theorem sz92 : szOf Tryz.prog 92 = some 3 := by kernel_rfl
theorem ag92 : aggOf Tryz.prog 92 = some true := by kernel_rfl
theorem zo92 : zOf Tryz.prog 92 = some (Go.Value.agg #[Go.Value.string { data := #[] }, Go.Value.int Go.IntKind.i64 0, Go.Value.int Go.IntKind.i64 0]) := by kernel_rfl
theorem st92 : stOk Tryz.prog 92 = true := by kernel_rfl
theorem pl92_0 : plOf Tryz.prog 92 0 = some (0, 1) := by kernel_rfl
theorem fd92_0 : fdOf Tryz.prog 92 0 = some (0, 9) := by kernel_rfl
theorem pt92_0 : ptOf Tryz.prog 92 0 = some (0, 1, false) := by kernel_rfl
theorem pl92_1 : plOf Tryz.prog 92 1 = some (1, 1) := by kernel_rfl
theorem fd92_1 : fdOf Tryz.prog 92 1 = some (1, 3) := by kernel_rfl
theorem pt92_1 : ptOf Tryz.prog 92 1 = some (1, 1, false) := by kernel_rfl
theorem pl92_2 : plOf Tryz.prog 92 2 = some (2, 1) := by kernel_rfl
theorem fd92_2 : fdOf Tryz.prog 92 2 = some (2, 3) := by kernel_rfl
theorem pt92_2 : ptOf Tryz.prog 92 2 = some (2, 1, false) := by kernel_rfl
theorem sz93 : szOf Tryz.prog 93 = some 3 := by kernel_rfl
theorem ag93 : aggOf Tryz.prog 93 = some true := by kernel_rfl
theorem zo93 : zOf Tryz.prog 93 = some (Go.Value.agg #[Go.Value.string { data := #[] }, Go.Value.int Go.IntKind.i64 0, Go.Value.int Go.IntKind.i64 0]) := by kernel_rfl
theorem st93 : stOk Tryz.prog 93 = true := by kernel_rfl
theorem pl93_0 : plOf Tryz.prog 93 0 = some (0, 1) := by kernel_rfl
theorem fd93_0 : fdOf Tryz.prog 93 0 = some (0, 9) := by kernel_rfl
theorem pt93_0 : ptOf Tryz.prog 93 0 = some (0, 1, false) := by kernel_rfl
theorem pl93_1 : plOf Tryz.prog 93 1 = some (1, 1) := by kernel_rfl
theorem fd93_1 : fdOf Tryz.prog 93 1 = some (1, 3) := by kernel_rfl
theorem pt93_1 : ptOf Tryz.prog 93 1 = some (1, 1, false) := by kernel_rfl
theorem pl93_2 : plOf Tryz.prog 93 2 = some (2, 1) := by kernel_rfl
theorem fd93_2 : fdOf Tryz.prog 93 2 = some (2, 3) := by kernel_rfl
theorem pt93_2 : ptOf Tryz.prog 93 2 = some (2, 1, false) := by kernel_rfl
theorem sz95 : szOf Tryz.prog 95 = some 1 := by kernel_rfl
theorem ag95 : aggOf Tryz.prog 95 = some false := by kernel_rfl
theorem zo95 : zOf Tryz.prog 95 = some Go.Value.nilFunc := by kernel_rfl
theorem sz96 : szOf Tryz.prog 96 = some 1 := by kernel_rfl
theorem ag96 : aggOf Tryz.prog 96 = some false := by kernel_rfl
theorem zo96 : zOf Tryz.prog 96 = some (Go.Value.int Go.IntKind.u32 0) := by kernel_rfl
theorem sz97 : szOf Tryz.prog 97 = some 1 := by kernel_rfl
theorem ag97 : aggOf Tryz.prog 97 = some false := by kernel_rfl
theorem zo97 : zOf Tryz.prog 97 = some Go.Value.nilFunc := by kernel_rfl
theorem sz98 : szOf Tryz.prog 98 = some 1 := by kernel_rfl
theorem ag98 : aggOf Tryz.prog 98 = some false := by kernel_rfl
theorem zo98 : zOf Tryz.prog 98 = some Go.Value.nilFunc := by kernel_rfl
theorem sz99 : szOf Tryz.prog 99 = some 1 := by kernel_rfl
theorem ag99 : aggOf Tryz.prog 99 = some false := by kernel_rfl
theorem zo99 : zOf Tryz.prog 99 = some Go.Value.nilFunc := by kernel_rfl
theorem sz100 : szOf Tryz.prog 100 = some 1 := by kernel_rfl
theorem ag100 : aggOf Tryz.prog 100 = some false := by kernel_rfl
theorem zo100 : zOf Tryz.prog 100 = some Go.Value.nilFunc := by kernel_rfl
theorem sz101 : szOf Tryz.prog 101 = some 1 := by kernel_rfl
theorem ag101 : aggOf Tryz.prog 101 = some false := by kernel_rfl
theorem zo101 : zOf Tryz.prog 101 = some Go.Value.nilFunc := by kernel_rfl
theorem sz102 : szOf Tryz.prog 102 = some 1 := by kernel_rfl
theorem ag102 : aggOf Tryz.prog 102 = some false := by kernel_rfl
theorem zo102 : zOf Tryz.prog 102 = some Go.Value.nilFunc := by kernel_rfl
theorem sz104 : szOf Tryz.prog 104 = some 1 := by kernel_rfl
theorem ag104 : aggOf Tryz.prog 104 = some false := by kernel_rfl
theorem zo104 : zOf Tryz.prog 104 = some Go.Value.nilFunc := by kernel_rfl
theorem sz105 : szOf Tryz.prog 105 = some 1 := by kernel_rfl
theorem ag105 : aggOf Tryz.prog 105 = some false := by kernel_rfl
theorem zo105 : zOf Tryz.prog 105 = some Go.Value.nilFunc := by kernel_rfl
theorem sz106 : szOf Tryz.prog 106 = some 1 := by kernel_rfl
theorem ag106 : aggOf Tryz.prog 106 = some false := by kernel_rfl
theorem zo106 : zOf Tryz.prog 106 = some Go.Value.nilFunc := by kernel_rfl
theorem sz107 : szOf Tryz.prog 107 = some 1 := by kernel_rfl
theorem ag107 : aggOf Tryz.prog 107 = some false := by kernel_rfl
theorem zo107 : zOf Tryz.prog 107 = some Go.Value.nilFunc := by kernel_rfl
theorem sz108 : szOf Tryz.prog 108 = some 1 := by kernel_rfl
theorem ag108 : aggOf Tryz.prog 108 = some false := by kernel_rfl
theorem zo108 : zOf Tryz.prog 108 = some Go.Value.nilFunc := by kernel_rfl
theorem sz109 : szOf Tryz.prog 109 = some 1 := by kernel_rfl
theorem ag109 : aggOf Tryz.prog 109 = some false := by kernel_rfl
theorem zo109 : zOf Tryz.prog 109 = some Go.Value.nilFunc := by kernel_rfl
theorem sz110 : szOf Tryz.prog 110 = some 1 := by kernel_rfl
theorem ag110 : aggOf Tryz.prog 110 = some false := by kernel_rfl
theorem zo110 : zOf Tryz.prog 110 = some Go.Value.nilFunc := by kernel_rfl
theorem sz111 : szOf Tryz.prog 111 = some 1 := by kernel_rfl
theorem ag111 : aggOf Tryz.prog 111 = some false := by kernel_rfl
theorem zo111 : zOf Tryz.prog 111 = some Go.Value.nilFunc := by kernel_rfl
theorem sz112 : szOf Tryz.prog 112 = some 1 := by kernel_rfl
theorem ag112 : aggOf Tryz.prog 112 = some false := by kernel_rfl
theorem zo112 : zOf Tryz.prog 112 = some (Go.Value.int Go.IntKind.u64 0) := by kernel_rfl
theorem sz113 : szOf Tryz.prog 113 = some 1 := by kernel_rfl
theorem ag113 : aggOf Tryz.prog 113 = some false := by kernel_rfl
theorem zo113 : zOf Tryz.prog 113 = some Go.Value.nilFunc := by kernel_rfl
theorem sz114 : szOf Tryz.prog 114 = some 1 := by kernel_rfl
theorem ag114 : aggOf Tryz.prog 114 = some false := by kernel_rfl
theorem zo114 : zOf Tryz.prog 114 = some Go.Value.nilFunc := by kernel_rfl
theorem sz115 : szOf Tryz.prog 115 = some 1 := by kernel_rfl
theorem ag115 : aggOf Tryz.prog 115 = some false := by kernel_rfl
theorem zo115 : zOf Tryz.prog 115 = some Go.Value.nilFunc := by kernel_rfl
theorem sz116 : szOf Tryz.prog 116 = some 1 := by kernel_rfl
theorem ag116 : aggOf Tryz.prog 116 = some false := by kernel_rfl
theorem zo116 : zOf Tryz.prog 116 = some Go.Value.nilFunc := by kernel_rfl
theorem sz117 : szOf Tryz.prog 117 = some 1 := by kernel_rfl
theorem ag117 : aggOf Tryz.prog 117 = some false := by kernel_rfl
theorem zo117 : zOf Tryz.prog 117 = some (Go.Value.slice none 0 0) := by kernel_rfl
theorem sq117 : seqT Tryz.prog 117 = true := by kernel_rfl
theorem el117 : elOf Tryz.prog 117 = some 119 := by kernel_rfl
theorem es117 : esOf Tryz.prog 117 = some 1 := by kernel_rfl
theorem et117 : elT Tryz.prog 117 = some (1, 8, [V.d (D.val (Go.Value.int Go.IntKind.u64 0))]) := by kernel_rfl
theorem sz118 : szOf Tryz.prog 118 = some 1 := by kernel_rfl
theorem ag118 : aggOf Tryz.prog 118 = some false := by kernel_rfl
theorem zo118 : zOf Tryz.prog 118 = some Go.Value.nilFunc := by kernel_rfl
theorem sz119 : szOf Tryz.prog 119 = some 1 := by kernel_rfl
theorem ag119 : aggOf Tryz.prog 119 = some false := by kernel_rfl
theorem zo119 : zOf Tryz.prog 119 = some (Go.Value.int Go.IntKind.u64 0) := by kernel_rfl
theorem sz121 : szOf Tryz.prog 121 = some 1 := by kernel_rfl
theorem ag121 : aggOf Tryz.prog 121 = some false := by kernel_rfl
theorem zo121 : zOf Tryz.prog 121 = some Go.Value.nilFunc := by kernel_rfl
theorem sz123 : szOf Tryz.prog 123 = some 1 := by kernel_rfl
theorem ag123 : aggOf Tryz.prog 123 = some false := by kernel_rfl
theorem zo123 : zOf Tryz.prog 123 = some Go.Value.nilFunc := by kernel_rfl
theorem sz124 : szOf Tryz.prog 124 = some 1 := by kernel_rfl
theorem ag124 : aggOf Tryz.prog 124 = some false := by kernel_rfl
theorem zo124 : zOf Tryz.prog 124 = some Go.Value.nilFunc := by kernel_rfl
theorem sz125 : szOf Tryz.prog 125 = some 6 := by kernel_rfl
theorem ag125 : aggOf Tryz.prog 125 = some true := by kernel_rfl
theorem zo125 : zOf Tryz.prog 125 = some (Go.Value.agg #[Go.Value.string { data := #[] }, Go.Value.string { data := #[] }, Go.Value.string { data := #[] }, Go.Value.string { data := #[] }, Go.Value.string { data := #[] }, Go.Value.string { data := #[] }]) := by kernel_rfl
theorem sz126 : szOf Tryz.prog 126 = some 1 := by kernel_rfl
theorem ag126 : aggOf Tryz.prog 126 = some false := by kernel_rfl
theorem zo126 : zOf Tryz.prog 126 = some Go.Value.nilFunc := by kernel_rfl
theorem sz127 : szOf Tryz.prog 127 = some 1 := by kernel_rfl
theorem ag127 : aggOf Tryz.prog 127 = some false := by kernel_rfl
theorem zo127 : zOf Tryz.prog 127 = some Go.Value.nilFunc := by kernel_rfl
theorem sz128 : szOf Tryz.prog 128 = some 1 := by kernel_rfl
theorem ag128 : aggOf Tryz.prog 128 = some false := by kernel_rfl
theorem zo128 : zOf Tryz.prog 128 = some Go.Value.nilFunc := by kernel_rfl
theorem sz129 : szOf Tryz.prog 129 = some 1 := by kernel_rfl
theorem ag129 : aggOf Tryz.prog 129 = some false := by kernel_rfl
theorem zo129 : zOf Tryz.prog 129 = some Go.Value.nilFunc := by kernel_rfl
theorem sz130 : szOf Tryz.prog 130 = some 1 := by kernel_rfl
theorem ag130 : aggOf Tryz.prog 130 = some false := by kernel_rfl
theorem zo130 : zOf Tryz.prog 130 = some Go.Value.nilFunc := by kernel_rfl
theorem sz131 : szOf Tryz.prog 131 = some 1 := by kernel_rfl
theorem ag131 : aggOf Tryz.prog 131 = some false := by kernel_rfl
theorem zo131 : zOf Tryz.prog 131 = some Go.Value.nilFunc := by kernel_rfl
theorem sz132 : szOf Tryz.prog 132 = some 1 := by kernel_rfl
theorem ag132 : aggOf Tryz.prog 132 = some false := by kernel_rfl
theorem zo132 : zOf Tryz.prog 132 = some Go.Value.nilFunc := by kernel_rfl
theorem sz134 : szOf Tryz.prog 134 = some 1 := by kernel_rfl
theorem ag134 : aggOf Tryz.prog 134 = some false := by kernel_rfl
theorem zo134 : zOf Tryz.prog 134 = some Go.Value.nilFunc := by kernel_rfl
theorem sz135 : szOf Tryz.prog 135 = some 1 := by kernel_rfl
theorem ag135 : aggOf Tryz.prog 135 = some false := by kernel_rfl
theorem zo135 : zOf Tryz.prog 135 = some Go.Value.nilFunc := by kernel_rfl
theorem sz136 : szOf Tryz.prog 136 = some 1 := by kernel_rfl
theorem ag136 : aggOf Tryz.prog 136 = some false := by kernel_rfl
theorem zo136 : zOf Tryz.prog 136 = some Go.Value.nilFunc := by kernel_rfl
theorem sz137 : szOf Tryz.prog 137 = some 1 := by kernel_rfl
theorem ag137 : aggOf Tryz.prog 137 = some false := by kernel_rfl
theorem zo137 : zOf Tryz.prog 137 = some Go.Value.nilFunc := by kernel_rfl
theorem sz138 : szOf Tryz.prog 138 = some 1 := by kernel_rfl
theorem ag138 : aggOf Tryz.prog 138 = some false := by kernel_rfl
theorem zo138 : zOf Tryz.prog 138 = some Go.Value.nilFunc := by kernel_rfl
theorem sz139 : szOf Tryz.prog 139 = some 1 := by kernel_rfl
theorem ag139 : aggOf Tryz.prog 139 = some false := by kernel_rfl
theorem zo139 : zOf Tryz.prog 139 = some Go.Value.nilFunc := by kernel_rfl
theorem sz141 : szOf Tryz.prog 141 = some 1 := by kernel_rfl
theorem ag141 : aggOf Tryz.prog 141 = some false := by kernel_rfl
theorem zo141 : zOf Tryz.prog 141 = some Go.Value.nilFunc := by kernel_rfl
theorem sz142 : szOf Tryz.prog 142 = some 1 := by kernel_rfl
theorem ag142 : aggOf Tryz.prog 142 = some false := by kernel_rfl
theorem zo142 : zOf Tryz.prog 142 = some Go.Value.nilFunc := by kernel_rfl
theorem sz144 : szOf Tryz.prog 144 = some 1 := by kernel_rfl
theorem ag144 : aggOf Tryz.prog 144 = some false := by kernel_rfl
theorem zo144 : zOf Tryz.prog 144 = some Go.Value.nilFunc := by kernel_rfl
theorem sz146 : szOf Tryz.prog 146 = some 1 := by kernel_rfl
theorem ag146 : aggOf Tryz.prog 146 = some false := by kernel_rfl
theorem zo146 : zOf Tryz.prog 146 = some Go.Value.nilFunc := by kernel_rfl
theorem sz147 : szOf Tryz.prog 147 = some 1 := by kernel_rfl
theorem ag147 : aggOf Tryz.prog 147 = some false := by kernel_rfl
theorem zo147 : zOf Tryz.prog 147 = some Go.Value.nilFunc := by kernel_rfl
theorem sz148 : szOf Tryz.prog 148 = some 1 := by kernel_rfl
theorem ag148 : aggOf Tryz.prog 148 = some false := by kernel_rfl
theorem zo148 : zOf Tryz.prog 148 = some Go.Value.nilFunc := by kernel_rfl
theorem sz149 : szOf Tryz.prog 149 = some 1 := by kernel_rfl
theorem ag149 : aggOf Tryz.prog 149 = some false := by kernel_rfl
theorem zo149 : zOf Tryz.prog 149 = some Go.Value.nilFunc := by kernel_rfl
theorem sz150 : szOf Tryz.prog 150 = some 1 := by kernel_rfl
theorem ag150 : aggOf Tryz.prog 150 = some false := by kernel_rfl
theorem zo150 : zOf Tryz.prog 150 = some Go.Value.nilFunc := by kernel_rfl
theorem sz151 : szOf Tryz.prog 151 = some 1 := by kernel_rfl
theorem ag151 : aggOf Tryz.prog 151 = some false := by kernel_rfl
theorem zo151 : zOf Tryz.prog 151 = some Go.Value.nilFunc := by kernel_rfl
theorem sz152 : szOf Tryz.prog 152 = some 1 := by kernel_rfl
theorem ag152 : aggOf Tryz.prog 152 = some false := by kernel_rfl
theorem zo152 : zOf Tryz.prog 152 = some Go.Value.nilFunc := by kernel_rfl
theorem sz153 : szOf Tryz.prog 153 = some 1 := by kernel_rfl
theorem ag153 : aggOf Tryz.prog 153 = some false := by kernel_rfl
theorem zo153 : zOf Tryz.prog 153 = some Go.Value.nilFunc := by kernel_rfl
theorem sz154 : szOf Tryz.prog 154 = some 1 := by kernel_rfl
theorem ag154 : aggOf Tryz.prog 154 = some false := by kernel_rfl
theorem zo154 : zOf Tryz.prog 154 = some Go.Value.nilFunc := by kernel_rfl
theorem sz155 : szOf Tryz.prog 155 = some 1 := by kernel_rfl
theorem ag155 : aggOf Tryz.prog 155 = some false := by kernel_rfl
theorem zo155 : zOf Tryz.prog 155 = some Go.Value.nilFunc := by kernel_rfl
theorem sz157 : szOf Tryz.prog 157 = some 1 := by kernel_rfl
theorem ag157 : aggOf Tryz.prog 157 = some false := by kernel_rfl
theorem zo157 : zOf Tryz.prog 157 = some Go.Value.nilFunc := by kernel_rfl
theorem sz159 : szOf Tryz.prog 159 = some 1 := by kernel_rfl
theorem ag159 : aggOf Tryz.prog 159 = some false := by kernel_rfl
theorem zo159 : zOf Tryz.prog 159 = some Go.Value.nilFunc := by kernel_rfl
theorem sz161 : szOf Tryz.prog 161 = some 1 := by kernel_rfl
theorem ag161 : aggOf Tryz.prog 161 = some false := by kernel_rfl
theorem zo161 : zOf Tryz.prog 161 = some Go.Value.nilFunc := by kernel_rfl
theorem sz163 : szOf Tryz.prog 163 = some 1 := by kernel_rfl
theorem ag163 : aggOf Tryz.prog 163 = some false := by kernel_rfl
theorem zo163 : zOf Tryz.prog 163 = some Go.Value.nilFunc := by kernel_rfl
theorem sz164 : szOf Tryz.prog 164 = some 1 := by kernel_rfl
theorem ag164 : aggOf Tryz.prog 164 = some false := by kernel_rfl
theorem zo164 : zOf Tryz.prog 164 = some (Go.Value.map none) := by kernel_rfl
theorem sz166 : szOf Tryz.prog 166 = some 1 := by kernel_rfl
theorem ag166 : aggOf Tryz.prog 166 = some false := by kernel_rfl
theorem zo166 : zOf Tryz.prog 166 = some Go.Value.nilFunc := by kernel_rfl
theorem sz167 : szOf Tryz.prog 167 = some 1 := by kernel_rfl
theorem ag167 : aggOf Tryz.prog 167 = some false := by kernel_rfl
theorem zo167 : zOf Tryz.prog 167 = some Go.Value.nilFunc := by kernel_rfl
theorem sz168 : szOf Tryz.prog 168 = some 1 := by kernel_rfl
theorem ag168 : aggOf Tryz.prog 168 = some false := by kernel_rfl
theorem zo168 : zOf Tryz.prog 168 = some (Go.Value.map none) := by kernel_rfl
theorem sz169 : szOf Tryz.prog 169 = some 4 := by kernel_rfl
theorem ag169 : aggOf Tryz.prog 169 = some true := by kernel_rfl
theorem zo169 : zOf Tryz.prog 169 = some (Go.Value.agg #[Go.Value.pointer none, Go.Value.pointer none, Go.Value.pointer none, Go.Value.string { data := #[] }]) := by kernel_rfl
theorem st169 : stOk Tryz.prog 169 = true := by kernel_rfl
theorem pl169_0 : plOf Tryz.prog 169 0 = some (0, 1) := by kernel_rfl
theorem fd169_0 : fdOf Tryz.prog 169 0 = some (0, 17) := by kernel_rfl
theorem pt169_0 : ptOf Tryz.prog 169 0 = some (0, 1, false) := by kernel_rfl
theorem pl169_1 : plOf Tryz.prog 169 1 = some (1, 1) := by kernel_rfl
theorem fd169_1 : fdOf Tryz.prog 169 1 = some (1, 17) := by kernel_rfl
theorem pt169_1 : ptOf Tryz.prog 169 1 = some (1, 1, false) := by kernel_rfl
theorem pl169_2 : plOf Tryz.prog 169 2 = some (2, 1) := by kernel_rfl
theorem fd169_2 : fdOf Tryz.prog 169 2 = some (2, 17) := by kernel_rfl
theorem pt169_2 : ptOf Tryz.prog 169 2 = some (2, 1, false) := by kernel_rfl
theorem pl169_3 : plOf Tryz.prog 169 3 = some (3, 1) := by kernel_rfl
theorem fd169_3 : fdOf Tryz.prog 169 3 = some (3, 9) := by kernel_rfl
theorem pt169_3 : ptOf Tryz.prog 169 3 = some (3, 1, false) := by kernel_rfl
theorem sz170 : szOf Tryz.prog 170 = some 4 := by kernel_rfl
theorem ag170 : aggOf Tryz.prog 170 = some true := by kernel_rfl
theorem zo170 : zOf Tryz.prog 170 = some (Go.Value.agg #[Go.Value.pointer none, Go.Value.pointer none, Go.Value.pointer none, Go.Value.string { data := #[] }]) := by kernel_rfl
theorem st170 : stOk Tryz.prog 170 = true := by kernel_rfl
theorem pl170_0 : plOf Tryz.prog 170 0 = some (0, 1) := by kernel_rfl
theorem fd170_0 : fdOf Tryz.prog 170 0 = some (0, 17) := by kernel_rfl
theorem pt170_0 : ptOf Tryz.prog 170 0 = some (0, 1, false) := by kernel_rfl
theorem pl170_1 : plOf Tryz.prog 170 1 = some (1, 1) := by kernel_rfl
theorem fd170_1 : fdOf Tryz.prog 170 1 = some (1, 17) := by kernel_rfl
theorem pt170_1 : ptOf Tryz.prog 170 1 = some (1, 1, false) := by kernel_rfl
theorem pl170_2 : plOf Tryz.prog 170 2 = some (2, 1) := by kernel_rfl
theorem fd170_2 : fdOf Tryz.prog 170 2 = some (2, 17) := by kernel_rfl
theorem pt170_2 : ptOf Tryz.prog 170 2 = some (2, 1, false) := by kernel_rfl
theorem pl170_3 : plOf Tryz.prog 170 3 = some (3, 1) := by kernel_rfl
theorem fd170_3 : fdOf Tryz.prog 170 3 = some (3, 9) := by kernel_rfl
theorem pt170_3 : ptOf Tryz.prog 170 3 = some (3, 1, false) := by kernel_rfl
theorem sz171 : szOf Tryz.prog 171 = some 0 := by kernel_rfl
theorem ag171 : aggOf Tryz.prog 171 = some true := by kernel_rfl
theorem sz172 : szOf Tryz.prog 172 = some 0 := by kernel_rfl
theorem ag172 : aggOf Tryz.prog 172 = some true := by kernel_rfl
theorem st172 : stOk Tryz.prog 172 = true := by kernel_rfl
theorem pl172_0 : plOf Tryz.prog 172 0 = some (0, 0) := by kernel_rfl
theorem sz173 : szOf Tryz.prog 173 = some 0 := by kernel_rfl
theorem ag173 : aggOf Tryz.prog 173 = some true := by kernel_rfl
theorem st173 : stOk Tryz.prog 173 = true := by kernel_rfl
theorem pl173_0 : plOf Tryz.prog 173 0 = some (0, 0) := by kernel_rfl
theorem sz174 : szOf Tryz.prog 174 = some 1 := by kernel_rfl
theorem ag174 : aggOf Tryz.prog 174 = some false := by kernel_rfl
theorem zo174 : zOf Tryz.prog 174 = some Go.Value.nilFunc := by kernel_rfl
theorem sz175 : szOf Tryz.prog 175 = some 1 := by kernel_rfl
theorem ag175 : aggOf Tryz.prog 175 = some false := by kernel_rfl
theorem zo175 : zOf Tryz.prog 175 = some (Go.Value.int Go.IntKind.u8 0) := by kernel_rfl
theorem sz176 : szOf Tryz.prog 176 = some 1 := by kernel_rfl
theorem ag176 : aggOf Tryz.prog 176 = some false := by kernel_rfl
theorem zo176 : zOf Tryz.prog 176 = some (Go.Value.int Go.IntKind.u8 0) := by kernel_rfl
theorem sz177 : szOf Tryz.prog 177 = some 1 := by kernel_rfl
theorem ag177 : aggOf Tryz.prog 177 = some false := by kernel_rfl
theorem zo177 : zOf Tryz.prog 177 = some Go.Value.nilFunc := by kernel_rfl
theorem sz178 : szOf Tryz.prog 178 = some 1 := by kernel_rfl
theorem ag178 : aggOf Tryz.prog 178 = some false := by kernel_rfl
theorem zo178 : zOf Tryz.prog 178 = some (Go.Value.pointer none) := by kernel_rfl
theorem sz179 : szOf Tryz.prog 179 = some 1 := by kernel_rfl
theorem ag179 : aggOf Tryz.prog 179 = some false := by kernel_rfl
theorem zo179 : zOf Tryz.prog 179 = some (Go.Value.int Go.IntKind.i32 0) := by kernel_rfl
theorem sz180 : szOf Tryz.prog 180 = some 1 := by kernel_rfl
theorem ag180 : aggOf Tryz.prog 180 = some false := by kernel_rfl
theorem zo180 : zOf Tryz.prog 180 = some (Go.Value.int Go.IntKind.i32 0) := by kernel_rfl
theorem sz181 : szOf Tryz.prog 181 = some 11 := by kernel_rfl
theorem ag181 : aggOf Tryz.prog 181 = some true := by kernel_rfl
theorem zo181 : zOf Tryz.prog 181 = some (Go.Value.agg #[Go.Value.int Go.IntKind.u64 0, Go.Value.int Go.IntKind.u64 0, Go.Value.int Go.IntKind.u32 0, Go.Value.int Go.IntKind.u8 0, Go.Value.int Go.IntKind.u8 0, Go.Value.int Go.IntKind.u8 0, Go.Value.int Go.IntKind.u8 0, Go.Value.nilFunc, Go.Value.pointer none, Go.Value.int Go.IntKind.i32 0, Go.Value.int Go.IntKind.i32 0]) := by kernel_rfl
theorem st181 : stOk Tryz.prog 181 = true := by kernel_rfl
theorem pl181_0 : plOf Tryz.prog 181 0 = some (0, 1) := by kernel_rfl
theorem fd181_0 : fdOf Tryz.prog 181 0 = some (0, 12) := by kernel_rfl
theorem pt181_0 : ptOf Tryz.prog 181 0 = some (0, 1, false) := by kernel_rfl
theorem pl181_1 : plOf Tryz.prog 181 1 = some (1, 1) := by kernel_rfl
theorem fd181_1 : fdOf Tryz.prog 181 1 = some (1, 12) := by kernel_rfl
theorem pt181_1 : ptOf Tryz.prog 181 1 = some (1, 1, false) := by kernel_rfl
theorem pl181_2 : plOf Tryz.prog 181 2 = some (2, 1) := by kernel_rfl
theorem fd181_2 : fdOf Tryz.prog 181 2 = some (2, 96) := by kernel_rfl
theorem pt181_2 : ptOf Tryz.prog 181 2 = some (2, 1, false) := by kernel_rfl
theorem pl181_3 : plOf Tryz.prog 181 3 = some (3, 1) := by kernel_rfl
theorem fd181_3 : fdOf Tryz.prog 181 3 = some (3, 175) := by kernel_rfl
theorem pt181_3 : ptOf Tryz.prog 181 3 = some (3, 1, false) := by kernel_rfl
theorem pl181_4 : plOf Tryz.prog 181 4 = some (4, 1) := by kernel_rfl
theorem fd181_4 : fdOf Tryz.prog 181 4 = some (4, 5) := by kernel_rfl
theorem pt181_4 : ptOf Tryz.prog 181 4 = some (4, 1, false) := by kernel_rfl
theorem pl181_5 : plOf Tryz.prog 181 5 = some (5, 1) := by kernel_rfl
theorem fd181_5 : fdOf Tryz.prog 181 5 = some (5, 5) := by kernel_rfl
theorem pt181_5 : ptOf Tryz.prog 181 5 = some (5, 1, false) := by kernel_rfl
theorem pl181_6 : plOf Tryz.prog 181 6 = some (6, 1) := by kernel_rfl
theorem fd181_6 : fdOf Tryz.prog 181 6 = some (6, 176) := by kernel_rfl
theorem pt181_6 : ptOf Tryz.prog 181 6 = some (6, 1, false) := by kernel_rfl
theorem pl181_7 : plOf Tryz.prog 181 7 = some (7, 1) := by kernel_rfl
theorem fd181_7 : fdOf Tryz.prog 181 7 = some (7, 177) := by kernel_rfl
theorem pt181_7 : ptOf Tryz.prog 181 7 = some (7, 1, false) := by kernel_rfl
theorem pl181_8 : plOf Tryz.prog 181 8 = some (8, 1) := by kernel_rfl
theorem fd181_8 : fdOf Tryz.prog 181 8 = some (8, 178) := by kernel_rfl
theorem pt181_8 : ptOf Tryz.prog 181 8 = some (8, 1, false) := by kernel_rfl
theorem pl181_9 : plOf Tryz.prog 181 9 = some (9, 1) := by kernel_rfl
theorem fd181_9 : fdOf Tryz.prog 181 9 = some (9, 179) := by kernel_rfl
theorem pt181_9 : ptOf Tryz.prog 181 9 = some (9, 1, false) := by kernel_rfl
theorem pl181_10 : plOf Tryz.prog 181 10 = some (10, 1) := by kernel_rfl
theorem fd181_10 : fdOf Tryz.prog 181 10 = some (10, 180) := by kernel_rfl
theorem pt181_10 : ptOf Tryz.prog 181 10 = some (10, 1, false) := by kernel_rfl
theorem sz182 : szOf Tryz.prog 182 = some 11 := by kernel_rfl
theorem ag182 : aggOf Tryz.prog 182 = some true := by kernel_rfl
theorem zo182 : zOf Tryz.prog 182 = some (Go.Value.agg #[Go.Value.int Go.IntKind.u64 0, Go.Value.int Go.IntKind.u64 0, Go.Value.int Go.IntKind.u32 0, Go.Value.int Go.IntKind.u8 0, Go.Value.int Go.IntKind.u8 0, Go.Value.int Go.IntKind.u8 0, Go.Value.int Go.IntKind.u8 0, Go.Value.nilFunc, Go.Value.pointer none, Go.Value.int Go.IntKind.i32 0, Go.Value.int Go.IntKind.i32 0]) := by kernel_rfl
theorem st182 : stOk Tryz.prog 182 = true := by kernel_rfl
theorem pl182_0 : plOf Tryz.prog 182 0 = some (0, 1) := by kernel_rfl
theorem fd182_0 : fdOf Tryz.prog 182 0 = some (0, 12) := by kernel_rfl
theorem pt182_0 : ptOf Tryz.prog 182 0 = some (0, 1, false) := by kernel_rfl
theorem pl182_1 : plOf Tryz.prog 182 1 = some (1, 1) := by kernel_rfl
theorem fd182_1 : fdOf Tryz.prog 182 1 = some (1, 12) := by kernel_rfl
theorem pt182_1 : ptOf Tryz.prog 182 1 = some (1, 1, false) := by kernel_rfl
theorem pl182_2 : plOf Tryz.prog 182 2 = some (2, 1) := by kernel_rfl
theorem fd182_2 : fdOf Tryz.prog 182 2 = some (2, 96) := by kernel_rfl
theorem pt182_2 : ptOf Tryz.prog 182 2 = some (2, 1, false) := by kernel_rfl
theorem pl182_3 : plOf Tryz.prog 182 3 = some (3, 1) := by kernel_rfl
theorem fd182_3 : fdOf Tryz.prog 182 3 = some (3, 175) := by kernel_rfl
theorem pt182_3 : ptOf Tryz.prog 182 3 = some (3, 1, false) := by kernel_rfl
theorem pl182_4 : plOf Tryz.prog 182 4 = some (4, 1) := by kernel_rfl
theorem fd182_4 : fdOf Tryz.prog 182 4 = some (4, 5) := by kernel_rfl
theorem pt182_4 : ptOf Tryz.prog 182 4 = some (4, 1, false) := by kernel_rfl
theorem pl182_5 : plOf Tryz.prog 182 5 = some (5, 1) := by kernel_rfl
theorem fd182_5 : fdOf Tryz.prog 182 5 = some (5, 5) := by kernel_rfl
theorem pt182_5 : ptOf Tryz.prog 182 5 = some (5, 1, false) := by kernel_rfl
theorem pl182_6 : plOf Tryz.prog 182 6 = some (6, 1) := by kernel_rfl
theorem fd182_6 : fdOf Tryz.prog 182 6 = some (6, 176) := by kernel_rfl
theorem pt182_6 : ptOf Tryz.prog 182 6 = some (6, 1, false) := by kernel_rfl
theorem pl182_7 : plOf Tryz.prog 182 7 = some (7, 1) := by kernel_rfl
theorem fd182_7 : fdOf Tryz.prog 182 7 = some (7, 177) := by kernel_rfl
theorem pt182_7 : ptOf Tryz.prog 182 7 = some (7, 1, false) := by kernel_rfl
theorem pl182_8 : plOf Tryz.prog 182 8 = some (8, 1) := by kernel_rfl
theorem fd182_8 : fdOf Tryz.prog 182 8 = some (8, 178) := by kernel_rfl
theorem pt182_8 : ptOf Tryz.prog 182 8 = some (8, 1, false) := by kernel_rfl
theorem pl182_9 : plOf Tryz.prog 182 9 = some (9, 1) := by kernel_rfl
theorem fd182_9 : fdOf Tryz.prog 182 9 = some (9, 179) := by kernel_rfl
theorem pt182_9 : ptOf Tryz.prog 182 9 = some (9, 1, false) := by kernel_rfl
theorem pl182_10 : plOf Tryz.prog 182 10 = some (10, 1) := by kernel_rfl
theorem fd182_10 : fdOf Tryz.prog 182 10 = some (10, 180) := by kernel_rfl
theorem pt182_10 : ptOf Tryz.prog 182 10 = some (10, 1, false) := by kernel_rfl
theorem sz183 : szOf Tryz.prog 183 = some 1 := by kernel_rfl
theorem ag183 : aggOf Tryz.prog 183 = some false := by kernel_rfl
theorem zo183 : zOf Tryz.prog 183 = some (Go.Value.pointer none) := by kernel_rfl
theorem mixed : Tryz.prog.follows .mixedOrders = true := by kernel_rfl
theorem ls9 {s : ByteArray} {K : V → Prop} : lenK Tryz.prog 9 (.d (.val (.string s))) K = K (.d (.val (.int .i64 s.size))) := lenK_str Tryz.underlying9
theorem ls10 {s : ByteArray} {K : V → Prop} : lenK Tryz.prog 10 (.d (.val (.string s))) K = K (.d (.val (.int .i64 s.size))) := lenK_str Tryz.underlying10
theorem ls11 {s : ByteArray} {K : V → Prop} : lenK Tryz.prog 11 (.d (.val (.string s))) K = K (.d (.val (.int .i64 s.size))) := lenK_str Tryz.underlying11
theorem ln23 {xs : List (List D)} {K : V → Prop} : lenK Tryz.prog 23 (.d (.sl xs)) K = K (.d (.val (.int .i64 xs.length))) := lenK_sl el23
theorem lz23 {a : Option Addr} {m k : Nat} {K : V → Prop} : lenK Tryz.prog 23 (.d (.val (.slice a m k))) K = K (.d (.val (.int .i64 m))) := lenK_nil el23
theorem lm23 {o k off len : Nat} {K : V → Prop} : lenK Tryz.prog 23 (.msl o k off len) K = K (.d (.val (.int .i64 len))) := lenK_msl el23
theorem la23 {o m : Nat} {out : List (List V)} {K : V → Prop} : lenK Tryz.prog 23 (accV o m out) K = K (.d (.val (.int .i64 out.length))) := lenK_acc el23
theorem ln26 {xs : List (List D)} {K : V → Prop} : lenK Tryz.prog 26 (.d (.sl xs)) K = K (.d (.val (.int .i64 xs.length))) := lenK_sl el26
theorem lz26 {a : Option Addr} {m k : Nat} {K : V → Prop} : lenK Tryz.prog 26 (.d (.val (.slice a m k))) K = K (.d (.val (.int .i64 m))) := lenK_nil el26
theorem lm26 {o k off len : Nat} {K : V → Prop} : lenK Tryz.prog 26 (.msl o k off len) K = K (.d (.val (.int .i64 len))) := lenK_msl el26
theorem la26 {o m : Nat} {out : List (List V)} {K : V → Prop} : lenK Tryz.prog 26 (accV o m out) K = K (.d (.val (.int .i64 out.length))) := lenK_acc el26
theorem ln29 {xs : List (List D)} {K : V → Prop} : lenK Tryz.prog 29 (.d (.sl xs)) K = K (.d (.val (.int .i64 xs.length))) := lenK_sl el29
theorem lz29 {a : Option Addr} {m k : Nat} {K : V → Prop} : lenK Tryz.prog 29 (.d (.val (.slice a m k))) K = K (.d (.val (.int .i64 m))) := lenK_nil el29
theorem lm29 {o k off len : Nat} {K : V → Prop} : lenK Tryz.prog 29 (.msl o k off len) K = K (.d (.val (.int .i64 len))) := lenK_msl el29
theorem la29 {o m : Nat} {out : List (List V)} {K : V → Prop} : lenK Tryz.prog 29 (accV o m out) K = K (.d (.val (.int .i64 out.length))) := lenK_acc el29
theorem ln49 {xs : List (List D)} {K : V → Prop} : lenK Tryz.prog 49 (.d (.sl xs)) K = K (.d (.val (.int .i64 xs.length))) := lenK_sl el49
theorem lz49 {a : Option Addr} {m k : Nat} {K : V → Prop} : lenK Tryz.prog 49 (.d (.val (.slice a m k))) K = K (.d (.val (.int .i64 m))) := lenK_nil el49
theorem lm49 {o k off len : Nat} {K : V → Prop} : lenK Tryz.prog 49 (.msl o k off len) K = K (.d (.val (.int .i64 len))) := lenK_msl el49
theorem la49 {o m : Nat} {out : List (List V)} {K : V → Prop} : lenK Tryz.prog 49 (accV o m out) K = K (.d (.val (.int .i64 out.length))) := lenK_acc el49
theorem ln65 {xs : List (List D)} {K : V → Prop} : lenK Tryz.prog 65 (.d (.sl xs)) K = K (.d (.val (.int .i64 xs.length))) := lenK_sl el65
theorem lz65 {a : Option Addr} {m k : Nat} {K : V → Prop} : lenK Tryz.prog 65 (.d (.val (.slice a m k))) K = K (.d (.val (.int .i64 m))) := lenK_nil el65
theorem lm65 {o k off len : Nat} {K : V → Prop} : lenK Tryz.prog 65 (.msl o k off len) K = K (.d (.val (.int .i64 len))) := lenK_msl el65
theorem la65 {o m : Nat} {out : List (List V)} {K : V → Prop} : lenK Tryz.prog 65 (accV o m out) K = K (.d (.val (.int .i64 out.length))) := lenK_acc el65
theorem ln66 {xs : List (List D)} {K : V → Prop} : lenK Tryz.prog 66 (.d (.sl xs)) K = K (.d (.val (.int .i64 xs.length))) := lenK_sl el66
theorem lz66 {a : Option Addr} {m k : Nat} {K : V → Prop} : lenK Tryz.prog 66 (.d (.val (.slice a m k))) K = K (.d (.val (.int .i64 m))) := lenK_nil el66
theorem lm66 {o k off len : Nat} {K : V → Prop} : lenK Tryz.prog 66 (.msl o k off len) K = K (.d (.val (.int .i64 len))) := lenK_msl el66
theorem la66 {o m : Nat} {out : List (List V)} {K : V → Prop} : lenK Tryz.prog 66 (accV o m out) K = K (.d (.val (.int .i64 out.length))) := lenK_acc el66
theorem ln117 {xs : List (List D)} {K : V → Prop} : lenK Tryz.prog 117 (.d (.sl xs)) K = K (.d (.val (.int .i64 xs.length))) := lenK_sl el117
theorem lz117 {a : Option Addr} {m k : Nat} {K : V → Prop} : lenK Tryz.prog 117 (.d (.val (.slice a m k))) K = K (.d (.val (.int .i64 m))) := lenK_nil el117
theorem lm117 {o k off len : Nat} {K : V → Prop} : lenK Tryz.prog 117 (.msl o k off len) K = K (.d (.val (.int .i64 len))) := lenK_msl el117
theorem la117 {o m : Nat} {out : List (List V)} {K : V → Prop} : lenK Tryz.prog 117 (accV o m out) K = K (.d (.val (.int .i64 out.length))) := lenK_acc el117
end Go.Proofs.YtafipfdohicfbaaGreat
