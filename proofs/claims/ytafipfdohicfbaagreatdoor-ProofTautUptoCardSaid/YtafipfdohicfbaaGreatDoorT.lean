/- The table facts of the program (printed by wip/tools/types.py). -/
import Derived.Test.YtafipfdohicfbaaGreatDoorProg
import Derived.Test.YtafipfdohicfbaaGreatDoorIsoF
namespace Go.Proofs.YtafipfdohicfbaaGreatDoor
open Go Go.Iso Go.Proofs
set_option maxRecDepth 100000
set_option linter.unusedVariables false
theorem sz1 : szOf Tryz.prog 1 = some 1 := by kernel_rfl
theorem ag1 : aggOf Tryz.prog 1 = some false := by kernel_rfl
theorem zo1 : zOf Tryz.prog 1 = some Go.Value.nilFunc := by kernel_rfl
theorem sz2 : szOf Tryz.prog 2 = some 1 := by kernel_rfl
theorem ag2 : aggOf Tryz.prog 2 = some false := by kernel_rfl
theorem zo2 : zOf Tryz.prog 2 = some (Go.Value.int Go.IntKind.i64 0) := by kernel_rfl
theorem sz3 : szOf Tryz.prog 3 = some 1 := by kernel_rfl
theorem ag3 : aggOf Tryz.prog 3 = some false := by kernel_rfl
theorem zo3 : zOf Tryz.prog 3 = some (Go.Value.int Go.IntKind.i64 0) := by kernel_rfl
theorem sz4 : szOf Tryz.prog 4 = some 1 := by kernel_rfl
theorem ag4 : aggOf Tryz.prog 4 = some false := by kernel_rfl
theorem zo4 : zOf Tryz.prog 4 = some (Go.Value.bool false) := by kernel_rfl
theorem bo4 : boolT Tryz.prog 4 = true := by kernel_rfl
theorem sz5 : szOf Tryz.prog 5 = some 1 := by kernel_rfl
theorem ag5 : aggOf Tryz.prog 5 = some false := by kernel_rfl
theorem zo5 : zOf Tryz.prog 5 = some (Go.Value.int Go.IntKind.u8 0) := by kernel_rfl
theorem sz6 : szOf Tryz.prog 6 = some 1 := by kernel_rfl
theorem ag6 : aggOf Tryz.prog 6 = some false := by kernel_rfl
theorem zo6 : zOf Tryz.prog 6 = some (Go.Value.int Go.IntKind.u8 0) := by kernel_rfl
theorem sz7 : szOf Tryz.prog 7 = some 4 := by kernel_rfl
theorem ag7 : aggOf Tryz.prog 7 = some true := by kernel_rfl
theorem zo7 : zOf Tryz.prog 7 = some (Go.Value.agg #[Go.Value.int Go.IntKind.i64 0, Go.Value.int Go.IntKind.i64 0, Go.Value.bool false, Go.Value.int Go.IntKind.u8 0]) := by kernel_rfl
theorem st7 : stOk Tryz.prog 7 = true := by kernel_rfl
theorem pl7_0 : plOf Tryz.prog 7 0 = some (0, 1) := by kernel_rfl
theorem fd7_0 : fdOf Tryz.prog 7 0 = some (0, 2) := by kernel_rfl
theorem pt7_0 : ptOf Tryz.prog 7 0 = some (0, 1, false) := by kernel_rfl
theorem pl7_1 : plOf Tryz.prog 7 1 = some (1, 1) := by kernel_rfl
theorem fd7_1 : fdOf Tryz.prog 7 1 = some (1, 3) := by kernel_rfl
theorem pt7_1 : ptOf Tryz.prog 7 1 = some (1, 1, false) := by kernel_rfl
theorem pl7_2 : plOf Tryz.prog 7 2 = some (2, 1) := by kernel_rfl
theorem fd7_2 : fdOf Tryz.prog 7 2 = some (2, 4) := by kernel_rfl
theorem pt7_2 : ptOf Tryz.prog 7 2 = some (2, 1, false) := by kernel_rfl
theorem pl7_3 : plOf Tryz.prog 7 3 = some (3, 1) := by kernel_rfl
theorem fd7_3 : fdOf Tryz.prog 7 3 = some (3, 6) := by kernel_rfl
theorem pt7_3 : ptOf Tryz.prog 7 3 = some (3, 1, false) := by kernel_rfl
theorem sz8 : szOf Tryz.prog 8 = some 4 := by kernel_rfl
theorem ag8 : aggOf Tryz.prog 8 = some true := by kernel_rfl
theorem zo8 : zOf Tryz.prog 8 = some (Go.Value.agg #[Go.Value.int Go.IntKind.i64 0, Go.Value.int Go.IntKind.i64 0, Go.Value.bool false, Go.Value.int Go.IntKind.u8 0]) := by kernel_rfl
theorem st8 : stOk Tryz.prog 8 = true := by kernel_rfl
theorem pl8_0 : plOf Tryz.prog 8 0 = some (0, 1) := by kernel_rfl
theorem fd8_0 : fdOf Tryz.prog 8 0 = some (0, 2) := by kernel_rfl
theorem pt8_0 : ptOf Tryz.prog 8 0 = some (0, 1, false) := by kernel_rfl
theorem pl8_1 : plOf Tryz.prog 8 1 = some (1, 1) := by kernel_rfl
theorem fd8_1 : fdOf Tryz.prog 8 1 = some (1, 3) := by kernel_rfl
theorem pt8_1 : ptOf Tryz.prog 8 1 = some (1, 1, false) := by kernel_rfl
theorem pl8_2 : plOf Tryz.prog 8 2 = some (2, 1) := by kernel_rfl
theorem fd8_2 : fdOf Tryz.prog 8 2 = some (2, 4) := by kernel_rfl
theorem pt8_2 : ptOf Tryz.prog 8 2 = some (2, 1, false) := by kernel_rfl
theorem pl8_3 : plOf Tryz.prog 8 3 = some (3, 1) := by kernel_rfl
theorem fd8_3 : fdOf Tryz.prog 8 3 = some (3, 6) := by kernel_rfl
theorem pt8_3 : ptOf Tryz.prog 8 3 = some (3, 1, false) := by kernel_rfl
theorem sz9 : szOf Tryz.prog 9 = some 1 := by kernel_rfl
theorem ag9 : aggOf Tryz.prog 9 = some false := by kernel_rfl
theorem zo9 : zOf Tryz.prog 9 = some (Go.Value.string { data := #[] }) := by kernel_rfl
theorem sq9 : seqT Tryz.prog 9 = true := by kernel_rfl
theorem us9 : Tryz.prog.underlying 9 = some .string := Tryz.underlying9
theorem sz10 : szOf Tryz.prog 10 = some 1 := by kernel_rfl
theorem ag10 : aggOf Tryz.prog 10 = some false := by kernel_rfl
theorem zo10 : zOf Tryz.prog 10 = some (Go.Value.string { data := #[] }) := by kernel_rfl
theorem sq10 : seqT Tryz.prog 10 = true := by kernel_rfl
theorem us10 : Tryz.prog.underlying 10 = some .string := Tryz.underlying10
theorem sz11 : szOf Tryz.prog 11 = some 1 := by kernel_rfl
theorem ag11 : aggOf Tryz.prog 11 = some false := by kernel_rfl
theorem zo11 : zOf Tryz.prog 11 = some (Go.Value.string { data := #[] }) := by kernel_rfl
theorem sq11 : seqT Tryz.prog 11 = true := by kernel_rfl
theorem us11 : Tryz.prog.underlying 11 = some .string := Tryz.underlying11
theorem sz12 : szOf Tryz.prog 12 = some 1 := by kernel_rfl
theorem ag12 : aggOf Tryz.prog 12 = some false := by kernel_rfl
theorem zo12 : zOf Tryz.prog 12 = some (Go.Value.int Go.IntKind.u64 0) := by kernel_rfl
theorem sz13 : szOf Tryz.prog 13 = some 2 := by kernel_rfl
theorem ag13 : aggOf Tryz.prog 13 = some true := by kernel_rfl
theorem zo13 : zOf Tryz.prog 13 = some (Go.Value.agg #[Go.Value.string { data := #[] }, Go.Value.int Go.IntKind.u64 0]) := by kernel_rfl
theorem st13 : stOk Tryz.prog 13 = true := by kernel_rfl
theorem pl13_0 : plOf Tryz.prog 13 0 = some (0, 1) := by kernel_rfl
theorem fd13_0 : fdOf Tryz.prog 13 0 = some (0, 9) := by kernel_rfl
theorem pt13_0 : ptOf Tryz.prog 13 0 = some (0, 1, false) := by kernel_rfl
theorem pl13_1 : plOf Tryz.prog 13 1 = some (1, 1) := by kernel_rfl
theorem fd13_1 : fdOf Tryz.prog 13 1 = some (1, 12) := by kernel_rfl
theorem pt13_1 : ptOf Tryz.prog 13 1 = some (1, 1, false) := by kernel_rfl
theorem sz14 : szOf Tryz.prog 14 = some 2 := by kernel_rfl
theorem ag14 : aggOf Tryz.prog 14 = some true := by kernel_rfl
theorem zo14 : zOf Tryz.prog 14 = some (Go.Value.agg #[Go.Value.string { data := #[] }, Go.Value.int Go.IntKind.u64 0]) := by kernel_rfl
theorem st14 : stOk Tryz.prog 14 = true := by kernel_rfl
theorem pl14_0 : plOf Tryz.prog 14 0 = some (0, 1) := by kernel_rfl
theorem fd14_0 : fdOf Tryz.prog 14 0 = some (0, 9) := by kernel_rfl
theorem pt14_0 : ptOf Tryz.prog 14 0 = some (0, 1, false) := by kernel_rfl
theorem pl14_1 : plOf Tryz.prog 14 1 = some (1, 1) := by kernel_rfl
theorem fd14_1 : fdOf Tryz.prog 14 1 = some (1, 12) := by kernel_rfl
theorem pt14_1 : ptOf Tryz.prog 14 1 = some (1, 1, false) := by kernel_rfl
theorem sz15 : szOf Tryz.prog 15 = some 1 := by kernel_rfl
theorem ag15 : aggOf Tryz.prog 15 = some false := by kernel_rfl
theorem zo15 : zOf Tryz.prog 15 = some (Go.Value.pointer none) := by kernel_rfl
theorem sz16 : szOf Tryz.prog 16 = some 1 := by kernel_rfl
theorem ag16 : aggOf Tryz.prog 16 = some false := by kernel_rfl
theorem zo16 : zOf Tryz.prog 16 = some (Go.Value.pointer none) := by kernel_rfl
theorem sz17 : szOf Tryz.prog 17 = some 1 := by kernel_rfl
theorem ag17 : aggOf Tryz.prog 17 = some false := by kernel_rfl
theorem zo17 : zOf Tryz.prog 17 = some (Go.Value.pointer none) := by kernel_rfl
theorem sz18 : szOf Tryz.prog 18 = some 1 := by kernel_rfl
theorem ag18 : aggOf Tryz.prog 18 = some true := by kernel_rfl
theorem zo18 : zOf Tryz.prog 18 = some (Go.Value.agg #[Go.Value.pointer none]) := by kernel_rfl
theorem st18 : stOk Tryz.prog 18 = true := by kernel_rfl
theorem pl18_0 : plOf Tryz.prog 18 0 = some (0, 1) := by kernel_rfl
theorem fd18_0 : fdOf Tryz.prog 18 0 = some (0, 17) := by kernel_rfl
theorem pt18_0 : ptOf Tryz.prog 18 0 = some (0, 1, false) := by kernel_rfl
theorem sz19 : szOf Tryz.prog 19 = some 1 := by kernel_rfl
theorem ag19 : aggOf Tryz.prog 19 = some true := by kernel_rfl
theorem zo19 : zOf Tryz.prog 19 = some (Go.Value.agg #[Go.Value.pointer none]) := by kernel_rfl
theorem st19 : stOk Tryz.prog 19 = true := by kernel_rfl
theorem pl19_0 : plOf Tryz.prog 19 0 = some (0, 1) := by kernel_rfl
theorem fd19_0 : fdOf Tryz.prog 19 0 = some (0, 17) := by kernel_rfl
theorem pt19_0 : ptOf Tryz.prog 19 0 = some (0, 1, false) := by kernel_rfl
theorem sz21 : szOf Tryz.prog 21 = some 1 := by kernel_rfl
theorem ag21 : aggOf Tryz.prog 21 = some false := by kernel_rfl
theorem zo21 : zOf Tryz.prog 21 = some (Go.Value.int Go.IntKind.i32 0) := by kernel_rfl
theorem sz22 : szOf Tryz.prog 22 = some 1 := by kernel_rfl
theorem ag22 : aggOf Tryz.prog 22 = some false := by kernel_rfl
theorem zo22 : zOf Tryz.prog 22 = some (Go.Value.slice none 0 0) := by kernel_rfl
theorem sq22 : seqT Tryz.prog 22 = true := by kernel_rfl
theorem el22 : elOf Tryz.prog 22 = some 123 := by kernel_rfl
theorem es22 : esOf Tryz.prog 22 = some 1 := by kernel_rfl
theorem et22 : elT Tryz.prog 22 = some (1, 4, [V.d (D.val (Go.Value.int Go.IntKind.u32 0))]) := by kernel_rfl
theorem sz23 : szOf Tryz.prog 23 = some 3 := by kernel_rfl
theorem ag23 : aggOf Tryz.prog 23 = some true := by kernel_rfl
theorem zo23 : zOf Tryz.prog 23 = some (Go.Value.agg #[Go.Value.bool false, Go.Value.slice none 0 0, Go.Value.slice none 0 0]) := by kernel_rfl
theorem st23 : stOk Tryz.prog 23 = true := by kernel_rfl
theorem pl23_0 : plOf Tryz.prog 23 0 = some (0, 1) := by kernel_rfl
theorem fd23_0 : fdOf Tryz.prog 23 0 = some (0, 4) := by kernel_rfl
theorem pt23_0 : ptOf Tryz.prog 23 0 = some (0, 1, false) := by kernel_rfl
theorem pl23_1 : plOf Tryz.prog 23 1 = some (1, 1) := by kernel_rfl
theorem fd23_1 : fdOf Tryz.prog 23 1 = some (1, 22) := by kernel_rfl
theorem pt23_1 : ptOf Tryz.prog 23 1 = some (1, 1, false) := by kernel_rfl
theorem pl23_2 : plOf Tryz.prog 23 2 = some (2, 1) := by kernel_rfl
theorem fd23_2 : fdOf Tryz.prog 23 2 = some (2, 22) := by kernel_rfl
theorem pt23_2 : ptOf Tryz.prog 23 2 = some (2, 1, false) := by kernel_rfl
theorem sz24 : szOf Tryz.prog 24 = some 3 := by kernel_rfl
theorem ag24 : aggOf Tryz.prog 24 = some true := by kernel_rfl
theorem zo24 : zOf Tryz.prog 24 = some (Go.Value.agg #[Go.Value.bool false, Go.Value.slice none 0 0, Go.Value.slice none 0 0]) := by kernel_rfl
theorem st24 : stOk Tryz.prog 24 = true := by kernel_rfl
theorem pl24_0 : plOf Tryz.prog 24 0 = some (0, 1) := by kernel_rfl
theorem fd24_0 : fdOf Tryz.prog 24 0 = some (0, 4) := by kernel_rfl
theorem pt24_0 : ptOf Tryz.prog 24 0 = some (0, 1, false) := by kernel_rfl
theorem pl24_1 : plOf Tryz.prog 24 1 = some (1, 1) := by kernel_rfl
theorem fd24_1 : fdOf Tryz.prog 24 1 = some (1, 22) := by kernel_rfl
theorem pt24_1 : ptOf Tryz.prog 24 1 = some (1, 1, false) := by kernel_rfl
theorem pl24_2 : plOf Tryz.prog 24 2 = some (2, 1) := by kernel_rfl
theorem fd24_2 : fdOf Tryz.prog 24 2 = some (2, 22) := by kernel_rfl
theorem pt24_2 : ptOf Tryz.prog 24 2 = some (2, 1, false) := by kernel_rfl
theorem sz25 : szOf Tryz.prog 25 = some 1 := by kernel_rfl
theorem ag25 : aggOf Tryz.prog 25 = some false := by kernel_rfl
theorem zo25 : zOf Tryz.prog 25 = some (Go.Value.slice none 0 0) := by kernel_rfl
theorem sq25 : seqT Tryz.prog 25 = true := by kernel_rfl
theorem el25 : elOf Tryz.prog 25 = some 27 := by kernel_rfl
theorem es25 : esOf Tryz.prog 25 = some 6 := by kernel_rfl
theorem et25 : elT Tryz.prog 25 = some (6, 104, [V.d (D.val (Go.Value.int Go.IntKind.i64 0)), V.d (D.val (Go.Value.string { data := #[] })), V.d (D.val (Go.Value.bool false)), V.d (D.val (Go.Value.slice none 0 0)), V.d (D.val (Go.Value.slice none 0 0)), V.d (D.val (Go.Value.slice none 0 0))]) := by kernel_rfl
theorem sz26 : szOf Tryz.prog 26 = some 6 := by kernel_rfl
theorem ag26 : aggOf Tryz.prog 26 = some true := by kernel_rfl
theorem zo26 : zOf Tryz.prog 26 = some (Go.Value.agg #[Go.Value.int Go.IntKind.i64 0, Go.Value.string { data := #[] }, Go.Value.bool false, Go.Value.slice none 0 0, Go.Value.slice none 0 0, Go.Value.slice none 0 0]) := by kernel_rfl
theorem st26 : stOk Tryz.prog 26 = true := by kernel_rfl
theorem pl26_0 : plOf Tryz.prog 26 0 = some (0, 1) := by kernel_rfl
theorem fd26_0 : fdOf Tryz.prog 26 0 = some (0, 3) := by kernel_rfl
theorem pt26_0 : ptOf Tryz.prog 26 0 = some (0, 1, false) := by kernel_rfl
theorem pl26_1 : plOf Tryz.prog 26 1 = some (1, 1) := by kernel_rfl
theorem fd26_1 : fdOf Tryz.prog 26 1 = some (1, 9) := by kernel_rfl
theorem pt26_1 : ptOf Tryz.prog 26 1 = some (1, 1, false) := by kernel_rfl
theorem pl26_2 : plOf Tryz.prog 26 2 = some (2, 3) := by kernel_rfl
theorem fd26_2 : fdOf Tryz.prog 26 2 = some (2, 24) := by kernel_rfl
theorem pt26_2 : ptOf Tryz.prog 26 2 = some (2, 3, true) := by kernel_rfl
theorem pl26_3 : plOf Tryz.prog 26 3 = some (5, 1) := by kernel_rfl
theorem fd26_3 : fdOf Tryz.prog 26 3 = some (5, 25) := by kernel_rfl
theorem pt26_3 : ptOf Tryz.prog 26 3 = some (5, 1, false) := by kernel_rfl
theorem sz27 : szOf Tryz.prog 27 = some 6 := by kernel_rfl
theorem ag27 : aggOf Tryz.prog 27 = some true := by kernel_rfl
theorem zo27 : zOf Tryz.prog 27 = some (Go.Value.agg #[Go.Value.int Go.IntKind.i64 0, Go.Value.string { data := #[] }, Go.Value.bool false, Go.Value.slice none 0 0, Go.Value.slice none 0 0, Go.Value.slice none 0 0]) := by kernel_rfl
theorem st27 : stOk Tryz.prog 27 = true := by kernel_rfl
theorem pl27_0 : plOf Tryz.prog 27 0 = some (0, 1) := by kernel_rfl
theorem fd27_0 : fdOf Tryz.prog 27 0 = some (0, 3) := by kernel_rfl
theorem pt27_0 : ptOf Tryz.prog 27 0 = some (0, 1, false) := by kernel_rfl
theorem pl27_1 : plOf Tryz.prog 27 1 = some (1, 1) := by kernel_rfl
theorem fd27_1 : fdOf Tryz.prog 27 1 = some (1, 9) := by kernel_rfl
theorem pt27_1 : ptOf Tryz.prog 27 1 = some (1, 1, false) := by kernel_rfl
theorem pl27_2 : plOf Tryz.prog 27 2 = some (2, 3) := by kernel_rfl
theorem fd27_2 : fdOf Tryz.prog 27 2 = some (2, 24) := by kernel_rfl
theorem pt27_2 : ptOf Tryz.prog 27 2 = some (2, 3, true) := by kernel_rfl
theorem pl27_3 : plOf Tryz.prog 27 3 = some (5, 1) := by kernel_rfl
theorem fd27_3 : fdOf Tryz.prog 27 3 = some (5, 25) := by kernel_rfl
theorem pt27_3 : ptOf Tryz.prog 27 3 = some (5, 1, false) := by kernel_rfl
theorem sz28 : szOf Tryz.prog 28 = some 1 := by kernel_rfl
theorem ag28 : aggOf Tryz.prog 28 = some false := by kernel_rfl
theorem zo28 : zOf Tryz.prog 28 = some Go.Value.nilFunc := by kernel_rfl
theorem sz29 : szOf Tryz.prog 29 = some 1 := by kernel_rfl
theorem ag29 : aggOf Tryz.prog 29 = some false := by kernel_rfl
theorem zo29 : zOf Tryz.prog 29 = some Go.Value.nilFunc := by kernel_rfl
theorem sz30 : szOf Tryz.prog 30 = some 1 := by kernel_rfl
theorem ag30 : aggOf Tryz.prog 30 = some false := by kernel_rfl
theorem zo30 : zOf Tryz.prog 30 = some (Go.Value.int Go.IntKind.i64 0) := by kernel_rfl
theorem sz32 : szOf Tryz.prog 32 = some 1 := by kernel_rfl
theorem ag32 : aggOf Tryz.prog 32 = some false := by kernel_rfl
theorem zo32 : zOf Tryz.prog 32 = some Go.Value.nilFunc := by kernel_rfl
theorem sz33 : szOf Tryz.prog 33 = some 1 := by kernel_rfl
theorem ag33 : aggOf Tryz.prog 33 = some false := by kernel_rfl
theorem zo33 : zOf Tryz.prog 33 = some Go.Value.nilFunc := by kernel_rfl
theorem sz35 : szOf Tryz.prog 35 = some 1 := by kernel_rfl
theorem ag35 : aggOf Tryz.prog 35 = some false := by kernel_rfl
theorem zo35 : zOf Tryz.prog 35 = some Go.Value.nilFunc := by kernel_rfl
theorem sz36 : szOf Tryz.prog 36 = some 1 := by kernel_rfl
theorem ag36 : aggOf Tryz.prog 36 = some false := by kernel_rfl
theorem zo36 : zOf Tryz.prog 36 = some (Go.Value.slice none 0 0) := by kernel_rfl
theorem sq36 : seqT Tryz.prog 36 = true := by kernel_rfl
theorem el36 : elOf Tryz.prog 36 = some 109 := by kernel_rfl
theorem es36 : esOf Tryz.prog 36 = some 13 := by kernel_rfl
theorem et36 : elT Tryz.prog 36 = some (13, 232, [V.d (D.val (Go.Value.int Go.IntKind.i64 0)), V.d (D.val (Go.Value.string { data := #[] })), V.d (D.val (Go.Value.bool false)), V.d (D.val (Go.Value.slice none 0 0)), V.d (D.val (Go.Value.slice none 0 0)), V.d (D.val (Go.Value.slice none 0 0)), V.d (D.val (Go.Value.int Go.IntKind.i64 0)), V.d (D.val (Go.Value.string { data := #[] })), V.d (D.val (Go.Value.bool false)), V.d (D.val (Go.Value.slice none 0 0)), V.d (D.val (Go.Value.slice none 0 0)), V.d (D.val (Go.Value.slice none 0 0)), V.d (D.val (Go.Value.slice none 0 0))]) := by kernel_rfl
theorem sz37 : szOf Tryz.prog 37 = some 1 := by kernel_rfl
theorem ag37 : aggOf Tryz.prog 37 = some false := by kernel_rfl
theorem zo37 : zOf Tryz.prog 37 = some (Go.Value.slice none 0 0) := by kernel_rfl
theorem sq37 : seqT Tryz.prog 37 = true := by kernel_rfl
theorem el37 : elOf Tryz.prog 37 = some 3 := by kernel_rfl
theorem es37 : esOf Tryz.prog 37 = some 1 := by kernel_rfl
theorem et37 : elT Tryz.prog 37 = some (1, 8, [V.d (D.val (Go.Value.int Go.IntKind.i64 0))]) := by kernel_rfl
theorem sz38 : szOf Tryz.prog 38 = some 1 := by kernel_rfl
theorem ag38 : aggOf Tryz.prog 38 = some false := by kernel_rfl
theorem zo38 : zOf Tryz.prog 38 = some (Go.Value.slice none 0 0) := by kernel_rfl
theorem sq38 : seqT Tryz.prog 38 = true := by kernel_rfl
theorem el38 : elOf Tryz.prog 38 = some 9 := by kernel_rfl
theorem es38 : esOf Tryz.prog 38 = some 1 := by kernel_rfl
theorem et38 : elT Tryz.prog 38 = some (1, 16, [V.d (D.val (Go.Value.string { data := #[] }))]) := by kernel_rfl
theorem sz39 : szOf Tryz.prog 39 = some 1 := by kernel_rfl
theorem ag39 : aggOf Tryz.prog 39 = some false := by kernel_rfl
theorem zo39 : zOf Tryz.prog 39 = some (Go.Value.slice none 0 0) := by kernel_rfl
theorem sq39 : seqT Tryz.prog 39 = true := by kernel_rfl
theorem el39 : elOf Tryz.prog 39 = some 24 := by kernel_rfl
theorem es39 : esOf Tryz.prog 39 = some 3 := by kernel_rfl
theorem et39 : elT Tryz.prog 39 = some (3, 56, [V.d (D.val (Go.Value.bool false)), V.d (D.val (Go.Value.slice none 0 0)), V.d (D.val (Go.Value.slice none 0 0))]) := by kernel_rfl
theorem sz40 : szOf Tryz.prog 40 = some 1 := by kernel_rfl
theorem ag40 : aggOf Tryz.prog 40 = some false := by kernel_rfl
theorem zo40 : zOf Tryz.prog 40 = some (Go.Value.slice none 0 0) := by kernel_rfl
theorem sq40 : seqT Tryz.prog 40 = true := by kernel_rfl
theorem el40 : elOf Tryz.prog 40 = some 138 := by kernel_rfl
theorem es40 : esOf Tryz.prog 40 = some 2 := by kernel_rfl
theorem et40 : elT Tryz.prog 40 = some (2, 32, [V.d (D.val (Go.Value.int Go.IntKind.i64 0)), V.d (D.val (Go.Value.slice none 0 0))]) := by kernel_rfl
theorem sz41 : szOf Tryz.prog 41 = some 1 := by kernel_rfl
theorem ag41 : aggOf Tryz.prog 41 = some false := by kernel_rfl
theorem zo41 : zOf Tryz.prog 41 = some (Go.Value.slice none 0 0) := by kernel_rfl
theorem sq41 : seqT Tryz.prog 41 = true := by kernel_rfl
theorem el41 : elOf Tryz.prog 41 = some 141 := by kernel_rfl
theorem es41 : esOf Tryz.prog 41 = some 5 := by kernel_rfl
theorem et41 : elT Tryz.prog 41 = some (5, 88, [V.d (D.val (Go.Value.bool false)), V.d (D.val (Go.Value.slice none 0 0)), V.d (D.val (Go.Value.slice none 0 0)), V.d (D.val (Go.Value.int Go.IntKind.i64 0)), V.d (D.val (Go.Value.slice none 0 0))]) := by kernel_rfl
theorem sz42 : szOf Tryz.prog 42 = some 1 := by kernel_rfl
theorem ag42 : aggOf Tryz.prog 42 = some false := by kernel_rfl
theorem zo42 : zOf Tryz.prog 42 = some (Go.Value.slice none 0 0) := by kernel_rfl
theorem sq42 : seqT Tryz.prog 42 = true := by kernel_rfl
theorem el42 : elOf Tryz.prog 42 = some 44 := by kernel_rfl
theorem es42 : esOf Tryz.prog 42 = some 5 := by kernel_rfl
theorem et42 : elT Tryz.prog 42 = some (5, 104, [V.d (D.val (Go.Value.int Go.IntKind.i64 0)), V.d (D.val (Go.Value.slice none 0 0)), V.d (D.val (Go.Value.slice none 0 0)), V.d (D.val (Go.Value.slice none 0 0)), V.d (D.val (Go.Value.slice none 0 0))]) := by kernel_rfl
theorem sz43 : szOf Tryz.prog 43 = some 5 := by kernel_rfl
theorem ag43 : aggOf Tryz.prog 43 = some true := by kernel_rfl
theorem zo43 : zOf Tryz.prog 43 = some (Go.Value.agg #[Go.Value.int Go.IntKind.i64 0, Go.Value.slice none 0 0, Go.Value.slice none 0 0, Go.Value.slice none 0 0, Go.Value.slice none 0 0]) := by kernel_rfl
theorem st43 : stOk Tryz.prog 43 = true := by kernel_rfl
theorem pl43_0 : plOf Tryz.prog 43 0 = some (0, 1) := by kernel_rfl
theorem fd43_0 : fdOf Tryz.prog 43 0 = some (0, 3) := by kernel_rfl
theorem pt43_0 : ptOf Tryz.prog 43 0 = some (0, 1, false) := by kernel_rfl
theorem pl43_1 : plOf Tryz.prog 43 1 = some (1, 1) := by kernel_rfl
theorem fd43_1 : fdOf Tryz.prog 43 1 = some (1, 39) := by kernel_rfl
theorem pt43_1 : ptOf Tryz.prog 43 1 = some (1, 1, false) := by kernel_rfl
theorem pl43_2 : plOf Tryz.prog 43 2 = some (2, 1) := by kernel_rfl
theorem fd43_2 : fdOf Tryz.prog 43 2 = some (2, 40) := by kernel_rfl
theorem pt43_2 : ptOf Tryz.prog 43 2 = some (2, 1, false) := by kernel_rfl
theorem pl43_3 : plOf Tryz.prog 43 3 = some (3, 1) := by kernel_rfl
theorem fd43_3 : fdOf Tryz.prog 43 3 = some (3, 41) := by kernel_rfl
theorem pt43_3 : ptOf Tryz.prog 43 3 = some (3, 1, false) := by kernel_rfl
theorem pl43_4 : plOf Tryz.prog 43 4 = some (4, 1) := by kernel_rfl
theorem fd43_4 : fdOf Tryz.prog 43 4 = some (4, 42) := by kernel_rfl
theorem pt43_4 : ptOf Tryz.prog 43 4 = some (4, 1, false) := by kernel_rfl
theorem sz44 : szOf Tryz.prog 44 = some 5 := by kernel_rfl
theorem ag44 : aggOf Tryz.prog 44 = some true := by kernel_rfl
theorem zo44 : zOf Tryz.prog 44 = some (Go.Value.agg #[Go.Value.int Go.IntKind.i64 0, Go.Value.slice none 0 0, Go.Value.slice none 0 0, Go.Value.slice none 0 0, Go.Value.slice none 0 0]) := by kernel_rfl
theorem st44 : stOk Tryz.prog 44 = true := by kernel_rfl
theorem pl44_0 : plOf Tryz.prog 44 0 = some (0, 1) := by kernel_rfl
theorem fd44_0 : fdOf Tryz.prog 44 0 = some (0, 3) := by kernel_rfl
theorem pt44_0 : ptOf Tryz.prog 44 0 = some (0, 1, false) := by kernel_rfl
theorem pl44_1 : plOf Tryz.prog 44 1 = some (1, 1) := by kernel_rfl
theorem fd44_1 : fdOf Tryz.prog 44 1 = some (1, 39) := by kernel_rfl
theorem pt44_1 : ptOf Tryz.prog 44 1 = some (1, 1, false) := by kernel_rfl
theorem pl44_2 : plOf Tryz.prog 44 2 = some (2, 1) := by kernel_rfl
theorem fd44_2 : fdOf Tryz.prog 44 2 = some (2, 40) := by kernel_rfl
theorem pt44_2 : ptOf Tryz.prog 44 2 = some (2, 1, false) := by kernel_rfl
theorem pl44_3 : plOf Tryz.prog 44 3 = some (3, 1) := by kernel_rfl
theorem fd44_3 : fdOf Tryz.prog 44 3 = some (3, 41) := by kernel_rfl
theorem pt44_3 : ptOf Tryz.prog 44 3 = some (3, 1, false) := by kernel_rfl
theorem pl44_4 : plOf Tryz.prog 44 4 = some (4, 1) := by kernel_rfl
theorem fd44_4 : fdOf Tryz.prog 44 4 = some (4, 42) := by kernel_rfl
theorem pt44_4 : ptOf Tryz.prog 44 4 = some (4, 1, false) := by kernel_rfl
theorem sz45 : szOf Tryz.prog 45 = some 1 := by kernel_rfl
theorem ag45 : aggOf Tryz.prog 45 = some false := by kernel_rfl
theorem zo45 : zOf Tryz.prog 45 = some (Go.Value.slice none 0 0) := by kernel_rfl
theorem sq45 : seqT Tryz.prog 45 = true := by kernel_rfl
theorem el45 : elOf Tryz.prog 45 = some 47 := by kernel_rfl
theorem es45 : esOf Tryz.prog 45 = some 12 := by kernel_rfl
theorem et45 : elT Tryz.prog 45 = some (12, 256, [V.d (D.val (Go.Value.string { data := #[] })), V.d (D.val (Go.Value.string { data := #[] })), V.d (D.val (Go.Value.slice none 0 0)), V.d (D.val (Go.Value.slice none 0 0)), V.d (D.val (Go.Value.slice none 0 0)), V.d (D.val (Go.Value.slice none 0 0)), V.d (D.val (Go.Value.int Go.IntKind.i64 0)), V.d (D.val (Go.Value.slice none 0 0)), V.d (D.val (Go.Value.slice none 0 0)), V.d (D.val (Go.Value.slice none 0 0)), V.d (D.val (Go.Value.slice none 0 0)), V.d (D.val (Go.Value.slice none 0 0))]) := by kernel_rfl
theorem sz46 : szOf Tryz.prog 46 = some 12 := by kernel_rfl
theorem ag46 : aggOf Tryz.prog 46 = some true := by kernel_rfl
theorem zo46 : zOf Tryz.prog 46 = some (Go.Value.agg #[Go.Value.string { data := #[] }, Go.Value.string { data := #[] }, Go.Value.slice none 0 0, Go.Value.slice none 0 0, Go.Value.slice none 0 0, Go.Value.slice none 0 0, Go.Value.int Go.IntKind.i64 0, Go.Value.slice none 0 0, Go.Value.slice none 0 0, Go.Value.slice none 0 0, Go.Value.slice none 0 0, Go.Value.slice none 0 0]) := by kernel_rfl
theorem st46 : stOk Tryz.prog 46 = true := by kernel_rfl
theorem pl46_0 : plOf Tryz.prog 46 0 = some (0, 1) := by kernel_rfl
theorem fd46_0 : fdOf Tryz.prog 46 0 = some (0, 9) := by kernel_rfl
theorem pt46_0 : ptOf Tryz.prog 46 0 = some (0, 1, false) := by kernel_rfl
theorem pl46_1 : plOf Tryz.prog 46 1 = some (1, 1) := by kernel_rfl
theorem fd46_1 : fdOf Tryz.prog 46 1 = some (1, 9) := by kernel_rfl
theorem pt46_1 : ptOf Tryz.prog 46 1 = some (1, 1, false) := by kernel_rfl
theorem pl46_2 : plOf Tryz.prog 46 2 = some (2, 1) := by kernel_rfl
theorem fd46_2 : fdOf Tryz.prog 46 2 = some (2, 25) := by kernel_rfl
theorem pt46_2 : ptOf Tryz.prog 46 2 = some (2, 1, false) := by kernel_rfl
theorem pl46_3 : plOf Tryz.prog 46 3 = some (3, 1) := by kernel_rfl
theorem fd46_3 : fdOf Tryz.prog 46 3 = some (3, 36) := by kernel_rfl
theorem pt46_3 : ptOf Tryz.prog 46 3 = some (3, 1, false) := by kernel_rfl
theorem pl46_4 : plOf Tryz.prog 46 4 = some (4, 1) := by kernel_rfl
theorem fd46_4 : fdOf Tryz.prog 46 4 = some (4, 37) := by kernel_rfl
theorem pt46_4 : ptOf Tryz.prog 46 4 = some (4, 1, false) := by kernel_rfl
theorem pl46_5 : plOf Tryz.prog 46 5 = some (5, 1) := by kernel_rfl
theorem fd46_5 : fdOf Tryz.prog 46 5 = some (5, 38) := by kernel_rfl
theorem pt46_5 : ptOf Tryz.prog 46 5 = some (5, 1, false) := by kernel_rfl
theorem pl46_6 : plOf Tryz.prog 46 6 = some (6, 5) := by kernel_rfl
theorem fd46_6 : fdOf Tryz.prog 46 6 = some (6, 44) := by kernel_rfl
theorem pt46_6 : ptOf Tryz.prog 46 6 = some (6, 5, true) := by kernel_rfl
theorem pl46_7 : plOf Tryz.prog 46 7 = some (11, 1) := by kernel_rfl
theorem fd46_7 : fdOf Tryz.prog 46 7 = some (11, 45) := by kernel_rfl
theorem pt46_7 : ptOf Tryz.prog 46 7 = some (11, 1, false) := by kernel_rfl
theorem sz47 : szOf Tryz.prog 47 = some 12 := by kernel_rfl
theorem ag47 : aggOf Tryz.prog 47 = some true := by kernel_rfl
theorem zo47 : zOf Tryz.prog 47 = some (Go.Value.agg #[Go.Value.string { data := #[] }, Go.Value.string { data := #[] }, Go.Value.slice none 0 0, Go.Value.slice none 0 0, Go.Value.slice none 0 0, Go.Value.slice none 0 0, Go.Value.int Go.IntKind.i64 0, Go.Value.slice none 0 0, Go.Value.slice none 0 0, Go.Value.slice none 0 0, Go.Value.slice none 0 0, Go.Value.slice none 0 0]) := by kernel_rfl
theorem st47 : stOk Tryz.prog 47 = true := by kernel_rfl
theorem pl47_0 : plOf Tryz.prog 47 0 = some (0, 1) := by kernel_rfl
theorem fd47_0 : fdOf Tryz.prog 47 0 = some (0, 9) := by kernel_rfl
theorem pt47_0 : ptOf Tryz.prog 47 0 = some (0, 1, false) := by kernel_rfl
theorem pl47_1 : plOf Tryz.prog 47 1 = some (1, 1) := by kernel_rfl
theorem fd47_1 : fdOf Tryz.prog 47 1 = some (1, 9) := by kernel_rfl
theorem pt47_1 : ptOf Tryz.prog 47 1 = some (1, 1, false) := by kernel_rfl
theorem pl47_2 : plOf Tryz.prog 47 2 = some (2, 1) := by kernel_rfl
theorem fd47_2 : fdOf Tryz.prog 47 2 = some (2, 25) := by kernel_rfl
theorem pt47_2 : ptOf Tryz.prog 47 2 = some (2, 1, false) := by kernel_rfl
theorem pl47_3 : plOf Tryz.prog 47 3 = some (3, 1) := by kernel_rfl
theorem fd47_3 : fdOf Tryz.prog 47 3 = some (3, 36) := by kernel_rfl
theorem pt47_3 : ptOf Tryz.prog 47 3 = some (3, 1, false) := by kernel_rfl
theorem pl47_4 : plOf Tryz.prog 47 4 = some (4, 1) := by kernel_rfl
theorem fd47_4 : fdOf Tryz.prog 47 4 = some (4, 37) := by kernel_rfl
theorem pt47_4 : ptOf Tryz.prog 47 4 = some (4, 1, false) := by kernel_rfl
theorem pl47_5 : plOf Tryz.prog 47 5 = some (5, 1) := by kernel_rfl
theorem fd47_5 : fdOf Tryz.prog 47 5 = some (5, 38) := by kernel_rfl
theorem pt47_5 : ptOf Tryz.prog 47 5 = some (5, 1, false) := by kernel_rfl
theorem pl47_6 : plOf Tryz.prog 47 6 = some (6, 5) := by kernel_rfl
theorem fd47_6 : fdOf Tryz.prog 47 6 = some (6, 44) := by kernel_rfl
theorem pt47_6 : ptOf Tryz.prog 47 6 = some (6, 5, true) := by kernel_rfl
theorem pl47_7 : plOf Tryz.prog 47 7 = some (11, 1) := by kernel_rfl
theorem fd47_7 : fdOf Tryz.prog 47 7 = some (11, 45) := by kernel_rfl
theorem pt47_7 : ptOf Tryz.prog 47 7 = some (11, 1, false) := by kernel_rfl
theorem sz49 : szOf Tryz.prog 49 = some 1 := by kernel_rfl
theorem ag49 : aggOf Tryz.prog 49 = some false := by kernel_rfl
theorem zo49 : zOf Tryz.prog 49 = some Go.Value.nilFunc := by kernel_rfl
theorem sz51 : szOf Tryz.prog 51 = some 1 := by kernel_rfl
theorem ag51 : aggOf Tryz.prog 51 = some false := by kernel_rfl
theorem zo51 : zOf Tryz.prog 51 = some Go.Value.nilFunc := by kernel_rfl
theorem sz52 : szOf Tryz.prog 52 = some 1 := by kernel_rfl
theorem ag52 : aggOf Tryz.prog 52 = some false := by kernel_rfl
theorem zo52 : zOf Tryz.prog 52 = some Go.Value.nilFunc := by kernel_rfl
theorem sz53 : szOf Tryz.prog 53 = some 1 := by kernel_rfl
theorem ag53 : aggOf Tryz.prog 53 = some false := by kernel_rfl
theorem zo53 : zOf Tryz.prog 53 = some Go.Value.nilFunc := by kernel_rfl
theorem sz54 : szOf Tryz.prog 54 = some 1 := by kernel_rfl
theorem ag54 : aggOf Tryz.prog 54 = some false := by kernel_rfl
theorem zo54 : zOf Tryz.prog 54 = some Go.Value.nilFunc := by kernel_rfl
theorem sz55 : szOf Tryz.prog 55 = some 1 := by kernel_rfl
theorem ag55 : aggOf Tryz.prog 55 = some false := by kernel_rfl
theorem zo55 : zOf Tryz.prog 55 = some Go.Value.nilFunc := by kernel_rfl
theorem sz56 : szOf Tryz.prog 56 = some 1 := by kernel_rfl
theorem ag56 : aggOf Tryz.prog 56 = some false := by kernel_rfl
theorem zo56 : zOf Tryz.prog 56 = some (Go.Value.slice none 0 0) := by kernel_rfl
theorem sq56 : seqT Tryz.prog 56 = true := by kernel_rfl
theorem el56 : elOf Tryz.prog 56 = some 58 := by kernel_rfl
theorem es56 : esOf Tryz.prog 56 = some 3 := by kernel_rfl
theorem et56 : elT Tryz.prog 56 = some (3, 40, [V.d (D.val (Go.Value.int Go.IntKind.i64 0)), V.d (D.val (Go.Value.int Go.IntKind.i64 0)), V.d (D.val (Go.Value.slice none 0 0))]) := by kernel_rfl
theorem sz57 : szOf Tryz.prog 57 = some 3 := by kernel_rfl
theorem ag57 : aggOf Tryz.prog 57 = some true := by kernel_rfl
theorem zo57 : zOf Tryz.prog 57 = some (Go.Value.agg #[Go.Value.int Go.IntKind.i64 0, Go.Value.int Go.IntKind.i64 0, Go.Value.slice none 0 0]) := by kernel_rfl
theorem st57 : stOk Tryz.prog 57 = true := by kernel_rfl
theorem pl57_0 : plOf Tryz.prog 57 0 = some (0, 1) := by kernel_rfl
theorem fd57_0 : fdOf Tryz.prog 57 0 = some (0, 3) := by kernel_rfl
theorem pt57_0 : ptOf Tryz.prog 57 0 = some (0, 1, false) := by kernel_rfl
theorem pl57_1 : plOf Tryz.prog 57 1 = some (1, 1) := by kernel_rfl
theorem fd57_1 : fdOf Tryz.prog 57 1 = some (1, 3) := by kernel_rfl
theorem pt57_1 : ptOf Tryz.prog 57 1 = some (1, 1, false) := by kernel_rfl
theorem pl57_2 : plOf Tryz.prog 57 2 = some (2, 1) := by kernel_rfl
theorem fd57_2 : fdOf Tryz.prog 57 2 = some (2, 56) := by kernel_rfl
theorem pt57_2 : ptOf Tryz.prog 57 2 = some (2, 1, false) := by kernel_rfl
theorem sz58 : szOf Tryz.prog 58 = some 3 := by kernel_rfl
theorem ag58 : aggOf Tryz.prog 58 = some true := by kernel_rfl
theorem zo58 : zOf Tryz.prog 58 = some (Go.Value.agg #[Go.Value.int Go.IntKind.i64 0, Go.Value.int Go.IntKind.i64 0, Go.Value.slice none 0 0]) := by kernel_rfl
theorem st58 : stOk Tryz.prog 58 = true := by kernel_rfl
theorem pl58_0 : plOf Tryz.prog 58 0 = some (0, 1) := by kernel_rfl
theorem fd58_0 : fdOf Tryz.prog 58 0 = some (0, 3) := by kernel_rfl
theorem pt58_0 : ptOf Tryz.prog 58 0 = some (0, 1, false) := by kernel_rfl
theorem pl58_1 : plOf Tryz.prog 58 1 = some (1, 1) := by kernel_rfl
theorem fd58_1 : fdOf Tryz.prog 58 1 = some (1, 3) := by kernel_rfl
theorem pt58_1 : ptOf Tryz.prog 58 1 = some (1, 1, false) := by kernel_rfl
theorem pl58_2 : plOf Tryz.prog 58 2 = some (2, 1) := by kernel_rfl
theorem fd58_2 : fdOf Tryz.prog 58 2 = some (2, 56) := by kernel_rfl
theorem pt58_2 : ptOf Tryz.prog 58 2 = some (2, 1, false) := by kernel_rfl
theorem sz59 : szOf Tryz.prog 59 = some 1 := by kernel_rfl
theorem ag59 : aggOf Tryz.prog 59 = some false := by kernel_rfl
theorem zo59 : zOf Tryz.prog 59 = some Go.Value.nilFunc := by kernel_rfl
theorem sz60 : szOf Tryz.prog 60 = some 1 := by kernel_rfl
theorem ag60 : aggOf Tryz.prog 60 = some false := by kernel_rfl
theorem zo60 : zOf Tryz.prog 60 = some Go.Value.nilFunc := by kernel_rfl
theorem sz61 : szOf Tryz.prog 61 = some 1 := by kernel_rfl
theorem ag61 : aggOf Tryz.prog 61 = some false := by kernel_rfl
theorem zo61 : zOf Tryz.prog 61 = some Go.Value.nilFunc := by kernel_rfl
theorem sz62 : szOf Tryz.prog 62 = some 1 := by kernel_rfl
theorem ag62 : aggOf Tryz.prog 62 = some false := by kernel_rfl
theorem zo62 : zOf Tryz.prog 62 = some Go.Value.nilFunc := by kernel_rfl
theorem sz63 : szOf Tryz.prog 63 = some 1 := by kernel_rfl
theorem ag63 : aggOf Tryz.prog 63 = some false := by kernel_rfl
theorem zo63 : zOf Tryz.prog 63 = some (Go.Value.pointer none) := by kernel_rfl
theorem sz64 : szOf Tryz.prog 64 = some 4 := by kernel_rfl
theorem ag64 : aggOf Tryz.prog 64 = some true := by kernel_rfl
theorem zo64 : zOf Tryz.prog 64 = some (Go.Value.agg #[Go.Value.int Go.IntKind.i64 0, Go.Value.string { data := #[] }, Go.Value.int Go.IntKind.i64 0, Go.Value.int Go.IntKind.i64 0]) := by kernel_rfl
theorem st64 : stOk Tryz.prog 64 = true := by kernel_rfl
theorem pl64_0 : plOf Tryz.prog 64 0 = some (0, 1) := by kernel_rfl
theorem fd64_0 : fdOf Tryz.prog 64 0 = some (0, 3) := by kernel_rfl
theorem pt64_0 : ptOf Tryz.prog 64 0 = some (0, 1, false) := by kernel_rfl
theorem pl64_1 : plOf Tryz.prog 64 1 = some (1, 1) := by kernel_rfl
theorem fd64_1 : fdOf Tryz.prog 64 1 = some (1, 9) := by kernel_rfl
theorem pt64_1 : ptOf Tryz.prog 64 1 = some (1, 1, false) := by kernel_rfl
theorem pl64_2 : plOf Tryz.prog 64 2 = some (2, 1) := by kernel_rfl
theorem fd64_2 : fdOf Tryz.prog 64 2 = some (2, 3) := by kernel_rfl
theorem pt64_2 : ptOf Tryz.prog 64 2 = some (2, 1, false) := by kernel_rfl
theorem pl64_3 : plOf Tryz.prog 64 3 = some (3, 1) := by kernel_rfl
theorem fd64_3 : fdOf Tryz.prog 64 3 = some (3, 3) := by kernel_rfl
theorem pt64_3 : ptOf Tryz.prog 64 3 = some (3, 1, false) := by kernel_rfl
theorem sz65 : szOf Tryz.prog 65 = some 4 := by kernel_rfl
theorem ag65 : aggOf Tryz.prog 65 = some true := by kernel_rfl
theorem zo65 : zOf Tryz.prog 65 = some (Go.Value.agg #[Go.Value.int Go.IntKind.i64 0, Go.Value.string { data := #[] }, Go.Value.int Go.IntKind.i64 0, Go.Value.int Go.IntKind.i64 0]) := by kernel_rfl
theorem st65 : stOk Tryz.prog 65 = true := by kernel_rfl
theorem pl65_0 : plOf Tryz.prog 65 0 = some (0, 1) := by kernel_rfl
theorem fd65_0 : fdOf Tryz.prog 65 0 = some (0, 3) := by kernel_rfl
theorem pt65_0 : ptOf Tryz.prog 65 0 = some (0, 1, false) := by kernel_rfl
theorem pl65_1 : plOf Tryz.prog 65 1 = some (1, 1) := by kernel_rfl
theorem fd65_1 : fdOf Tryz.prog 65 1 = some (1, 9) := by kernel_rfl
theorem pt65_1 : ptOf Tryz.prog 65 1 = some (1, 1, false) := by kernel_rfl
theorem pl65_2 : plOf Tryz.prog 65 2 = some (2, 1) := by kernel_rfl
theorem fd65_2 : fdOf Tryz.prog 65 2 = some (2, 3) := by kernel_rfl
theorem pt65_2 : ptOf Tryz.prog 65 2 = some (2, 1, false) := by kernel_rfl
theorem pl65_3 : plOf Tryz.prog 65 3 = some (3, 1) := by kernel_rfl
theorem fd65_3 : fdOf Tryz.prog 65 3 = some (3, 3) := by kernel_rfl
theorem pt65_3 : ptOf Tryz.prog 65 3 = some (3, 1, false) := by kernel_rfl
theorem sz66 : szOf Tryz.prog 66 = some 8 := by kernel_rfl
theorem ag66 : aggOf Tryz.prog 66 = some true := by kernel_rfl
theorem zo66 : zOf Tryz.prog 66 = some (Go.Value.agg #[Go.Value.string { data := #[] }, Go.Value.int Go.IntKind.i64 0, Go.Value.string { data := #[] }, Go.Value.int Go.IntKind.i64 0, Go.Value.int Go.IntKind.i64 0, Go.Value.int Go.IntKind.i64 0, Go.Value.int Go.IntKind.i64 0, Go.Value.int Go.IntKind.i64 0]) := by kernel_rfl
theorem st66 : stOk Tryz.prog 66 = true := by kernel_rfl
theorem pl66_0 : plOf Tryz.prog 66 0 = some (0, 1) := by kernel_rfl
theorem fd66_0 : fdOf Tryz.prog 66 0 = some (0, 9) := by kernel_rfl
theorem pt66_0 : ptOf Tryz.prog 66 0 = some (0, 1, false) := by kernel_rfl
theorem pl66_1 : plOf Tryz.prog 66 1 = some (1, 4) := by kernel_rfl
theorem fd66_1 : fdOf Tryz.prog 66 1 = some (1, 65) := by kernel_rfl
theorem pt66_1 : ptOf Tryz.prog 66 1 = some (1, 4, true) := by kernel_rfl
theorem pl66_2 : plOf Tryz.prog 66 2 = some (5, 1) := by kernel_rfl
theorem fd66_2 : fdOf Tryz.prog 66 2 = some (5, 3) := by kernel_rfl
theorem pt66_2 : ptOf Tryz.prog 66 2 = some (5, 1, false) := by kernel_rfl
theorem pl66_3 : plOf Tryz.prog 66 3 = some (6, 1) := by kernel_rfl
theorem fd66_3 : fdOf Tryz.prog 66 3 = some (6, 30) := by kernel_rfl
theorem pt66_3 : ptOf Tryz.prog 66 3 = some (6, 1, false) := by kernel_rfl
theorem pl66_4 : plOf Tryz.prog 66 4 = some (7, 1) := by kernel_rfl
theorem fd66_4 : fdOf Tryz.prog 66 4 = some (7, 3) := by kernel_rfl
theorem pt66_4 : ptOf Tryz.prog 66 4 = some (7, 1, false) := by kernel_rfl
theorem sz67 : szOf Tryz.prog 67 = some 8 := by kernel_rfl
theorem ag67 : aggOf Tryz.prog 67 = some true := by kernel_rfl
theorem zo67 : zOf Tryz.prog 67 = some (Go.Value.agg #[Go.Value.string { data := #[] }, Go.Value.int Go.IntKind.i64 0, Go.Value.string { data := #[] }, Go.Value.int Go.IntKind.i64 0, Go.Value.int Go.IntKind.i64 0, Go.Value.int Go.IntKind.i64 0, Go.Value.int Go.IntKind.i64 0, Go.Value.int Go.IntKind.i64 0]) := by kernel_rfl
theorem st67 : stOk Tryz.prog 67 = true := by kernel_rfl
theorem pl67_0 : plOf Tryz.prog 67 0 = some (0, 1) := by kernel_rfl
theorem fd67_0 : fdOf Tryz.prog 67 0 = some (0, 9) := by kernel_rfl
theorem pt67_0 : ptOf Tryz.prog 67 0 = some (0, 1, false) := by kernel_rfl
theorem pl67_1 : plOf Tryz.prog 67 1 = some (1, 4) := by kernel_rfl
theorem fd67_1 : fdOf Tryz.prog 67 1 = some (1, 65) := by kernel_rfl
theorem pt67_1 : ptOf Tryz.prog 67 1 = some (1, 4, true) := by kernel_rfl
theorem pl67_2 : plOf Tryz.prog 67 2 = some (5, 1) := by kernel_rfl
theorem fd67_2 : fdOf Tryz.prog 67 2 = some (5, 3) := by kernel_rfl
theorem pt67_2 : ptOf Tryz.prog 67 2 = some (5, 1, false) := by kernel_rfl
theorem pl67_3 : plOf Tryz.prog 67 3 = some (6, 1) := by kernel_rfl
theorem fd67_3 : fdOf Tryz.prog 67 3 = some (6, 30) := by kernel_rfl
theorem pt67_3 : ptOf Tryz.prog 67 3 = some (6, 1, false) := by kernel_rfl
theorem pl67_4 : plOf Tryz.prog 67 4 = some (7, 1) := by kernel_rfl
theorem fd67_4 : fdOf Tryz.prog 67 4 = some (7, 3) := by kernel_rfl
theorem pt67_4 : ptOf Tryz.prog 67 4 = some (7, 1, false) := by kernel_rfl
theorem sz68 : szOf Tryz.prog 68 = some 1 := by kernel_rfl
theorem ag68 : aggOf Tryz.prog 68 = some false := by kernel_rfl
theorem zo68 : zOf Tryz.prog 68 = some Go.Value.nilFunc := by kernel_rfl
theorem sz69 : szOf Tryz.prog 69 = some 1 := by kernel_rfl
theorem ag69 : aggOf Tryz.prog 69 = some false := by kernel_rfl
theorem zo69 : zOf Tryz.prog 69 = some Go.Value.nilFunc := by kernel_rfl
theorem sz70 : szOf Tryz.prog 70 = some 1 := by kernel_rfl
theorem ag70 : aggOf Tryz.prog 70 = some false := by kernel_rfl
theorem zo70 : zOf Tryz.prog 70 = some (Go.Value.slice none 0 0) := by kernel_rfl
theorem sq70 : seqT Tryz.prog 70 = true := by kernel_rfl
theorem el70 : elOf Tryz.prog 70 = some 99 := by kernel_rfl
theorem es70 : esOf Tryz.prog 70 = some 7 := by kernel_rfl
theorem et70 : elT Tryz.prog 70 = some (7, 120, [V.d (D.val (Go.Value.string { data := #[] })), V.d (D.val (Go.Value.int Go.IntKind.i64 0)), V.d (D.val (Go.Value.string { data := #[] })), V.d (D.val (Go.Value.bool false)), V.d (D.val (Go.Value.slice none 0 0)), V.d (D.val (Go.Value.slice none 0 0)), V.d (D.val (Go.Value.slice none 0 0))]) := by kernel_rfl
theorem sz71 : szOf Tryz.prog 71 = some 1 := by kernel_rfl
theorem ag71 : aggOf Tryz.prog 71 = some false := by kernel_rfl
theorem zo71 : zOf Tryz.prog 71 = some Go.Value.nilFunc := by kernel_rfl
theorem sz72 : szOf Tryz.prog 72 = some 1 := by kernel_rfl
theorem ag72 : aggOf Tryz.prog 72 = some false := by kernel_rfl
theorem zo72 : zOf Tryz.prog 72 = some Go.Value.nilFunc := by kernel_rfl
theorem sz73 : szOf Tryz.prog 73 = some 1 := by kernel_rfl
theorem ag73 : aggOf Tryz.prog 73 = some false := by kernel_rfl
theorem zo73 : zOf Tryz.prog 73 = some (Go.Value.pointer none) := by kernel_rfl
theorem sz74 : szOf Tryz.prog 74 = some 3 := by kernel_rfl
theorem ag74 : aggOf Tryz.prog 74 = some true := by kernel_rfl
theorem zo74 : zOf Tryz.prog 74 = some (Go.Value.agg #[Go.Value.slice none 0 0, Go.Value.slice none 0 0, Go.Value.slice none 0 0]) := by kernel_rfl
theorem st74 : stOk Tryz.prog 74 = true := by kernel_rfl
theorem pl74_0 : plOf Tryz.prog 74 0 = some (0, 1) := by kernel_rfl
theorem fd74_0 : fdOf Tryz.prog 74 0 = some (0, 70) := by kernel_rfl
theorem pt74_0 : ptOf Tryz.prog 74 0 = some (0, 1, false) := by kernel_rfl
theorem pl74_1 : plOf Tryz.prog 74 1 = some (1, 1) := by kernel_rfl
theorem fd74_1 : fdOf Tryz.prog 74 1 = some (1, 37) := by kernel_rfl
theorem pt74_1 : ptOf Tryz.prog 74 1 = some (1, 1, false) := by kernel_rfl
theorem pl74_2 : plOf Tryz.prog 74 2 = some (2, 1) := by kernel_rfl
theorem fd74_2 : fdOf Tryz.prog 74 2 = some (2, 37) := by kernel_rfl
theorem pt74_2 : ptOf Tryz.prog 74 2 = some (2, 1, false) := by kernel_rfl
theorem sz75 : szOf Tryz.prog 75 = some 3 := by kernel_rfl
theorem ag75 : aggOf Tryz.prog 75 = some true := by kernel_rfl
theorem zo75 : zOf Tryz.prog 75 = some (Go.Value.agg #[Go.Value.slice none 0 0, Go.Value.slice none 0 0, Go.Value.slice none 0 0]) := by kernel_rfl
theorem st75 : stOk Tryz.prog 75 = true := by kernel_rfl
theorem pl75_0 : plOf Tryz.prog 75 0 = some (0, 1) := by kernel_rfl
theorem fd75_0 : fdOf Tryz.prog 75 0 = some (0, 70) := by kernel_rfl
theorem pt75_0 : ptOf Tryz.prog 75 0 = some (0, 1, false) := by kernel_rfl
theorem pl75_1 : plOf Tryz.prog 75 1 = some (1, 1) := by kernel_rfl
theorem fd75_1 : fdOf Tryz.prog 75 1 = some (1, 37) := by kernel_rfl
theorem pt75_1 : ptOf Tryz.prog 75 1 = some (1, 1, false) := by kernel_rfl
theorem pl75_2 : plOf Tryz.prog 75 2 = some (2, 1) := by kernel_rfl
theorem fd75_2 : fdOf Tryz.prog 75 2 = some (2, 37) := by kernel_rfl
theorem pt75_2 : ptOf Tryz.prog 75 2 = some (2, 1, false) := by kernel_rfl
theorem sz77 : szOf Tryz.prog 77 = some 1 := by kernel_rfl
theorem ag77 : aggOf Tryz.prog 77 = some false := by kernel_rfl
theorem zo77 : zOf Tryz.prog 77 = some Go.Value.nilFunc := by kernel_rfl
theorem sz78 : szOf Tryz.prog 78 = some 1 := by kernel_rfl
theorem ag78 : aggOf Tryz.prog 78 = some false := by kernel_rfl
theorem zo78 : zOf Tryz.prog 78 = some (Go.Value.pointer none) := by kernel_rfl
theorem sz79 : szOf Tryz.prog 79 = some 1 := by kernel_rfl
theorem ag79 : aggOf Tryz.prog 79 = some false := by kernel_rfl
theorem zo79 : zOf Tryz.prog 79 = some (Go.Value.slice none 0 0) := by kernel_rfl
theorem sq79 : seqT Tryz.prog 79 = true := by kernel_rfl
theorem el79 : elOf Tryz.prog 79 = some 5 := by kernel_rfl
theorem es79 : esOf Tryz.prog 79 = some 1 := by kernel_rfl
theorem et79 : elT Tryz.prog 79 = some (1, 1, [V.d (D.val (Go.Value.int Go.IntKind.u8 0))]) := by kernel_rfl
theorem sz80 : szOf Tryz.prog 80 = some 2 := by kernel_rfl
theorem ag80 : aggOf Tryz.prog 80 = some true := by kernel_rfl
theorem zo80 : zOf Tryz.prog 80 = some (Go.Value.agg #[Go.Value.slice none 0 0, Go.Value.bool false]) := by kernel_rfl
theorem st80 : stOk Tryz.prog 80 = true := by kernel_rfl
theorem pl80_0 : plOf Tryz.prog 80 0 = some (0, 1) := by kernel_rfl
theorem fd80_0 : fdOf Tryz.prog 80 0 = some (0, 79) := by kernel_rfl
theorem pt80_0 : ptOf Tryz.prog 80 0 = some (0, 1, false) := by kernel_rfl
theorem pl80_1 : plOf Tryz.prog 80 1 = some (1, 1) := by kernel_rfl
theorem fd80_1 : fdOf Tryz.prog 80 1 = some (1, 4) := by kernel_rfl
theorem pt80_1 : ptOf Tryz.prog 80 1 = some (1, 1, false) := by kernel_rfl
theorem sz81 : szOf Tryz.prog 81 = some 2 := by kernel_rfl
theorem ag81 : aggOf Tryz.prog 81 = some true := by kernel_rfl
theorem zo81 : zOf Tryz.prog 81 = some (Go.Value.agg #[Go.Value.slice none 0 0, Go.Value.bool false]) := by kernel_rfl
theorem st81 : stOk Tryz.prog 81 = true := by kernel_rfl
theorem pl81_0 : plOf Tryz.prog 81 0 = some (0, 1) := by kernel_rfl
theorem fd81_0 : fdOf Tryz.prog 81 0 = some (0, 79) := by kernel_rfl
theorem pt81_0 : ptOf Tryz.prog 81 0 = some (0, 1, false) := by kernel_rfl
theorem pl81_1 : plOf Tryz.prog 81 1 = some (1, 1) := by kernel_rfl
theorem fd81_1 : fdOf Tryz.prog 81 1 = some (1, 4) := by kernel_rfl
theorem pt81_1 : ptOf Tryz.prog 81 1 = some (1, 1, false) := by kernel_rfl
theorem sz82 : szOf Tryz.prog 82 = some 1 := by kernel_rfl
theorem ag82 : aggOf Tryz.prog 82 = some false := by kernel_rfl
theorem zo82 : zOf Tryz.prog 82 = some Go.Value.nilFunc := by kernel_rfl
theorem sz83 : szOf Tryz.prog 83 = some 1 := by kernel_rfl
theorem ag83 : aggOf Tryz.prog 83 = some false := by kernel_rfl
theorem zo83 : zOf Tryz.prog 83 = some Go.Value.nilFunc := by kernel_rfl
theorem sz84 : szOf Tryz.prog 84 = some 1 := by kernel_rfl
theorem ag84 : aggOf Tryz.prog 84 = some false := by kernel_rfl
theorem zo84 : zOf Tryz.prog 84 = some (Go.Value.pointer none) := by kernel_rfl
theorem sz85 : szOf Tryz.prog 85 = some 1 := by kernel_rfl
theorem ag85 : aggOf Tryz.prog 85 = some false := by kernel_rfl
theorem zo85 : zOf Tryz.prog 85 = some Go.Value.nilFunc := by kernel_rfl
theorem sz86 : szOf Tryz.prog 86 = some 1 := by kernel_rfl
theorem ag86 : aggOf Tryz.prog 86 = some false := by kernel_rfl
theorem zo86 : zOf Tryz.prog 86 = some Go.Value.nilFunc := by kernel_rfl
theorem sz87 : szOf Tryz.prog 87 = some 3 := by kernel_rfl
theorem ag87 : aggOf Tryz.prog 87 = some true := by kernel_rfl
theorem zo87 : zOf Tryz.prog 87 = some (Go.Value.agg #[Go.Value.bool false, Go.Value.bool false, Go.Value.bool false]) := by kernel_rfl
theorem st87 : stOk Tryz.prog 87 = true := by kernel_rfl
theorem pl87_0 : plOf Tryz.prog 87 0 = some (0, 1) := by kernel_rfl
theorem fd87_0 : fdOf Tryz.prog 87 0 = some (0, 4) := by kernel_rfl
theorem pt87_0 : ptOf Tryz.prog 87 0 = some (0, 1, false) := by kernel_rfl
theorem pl87_1 : plOf Tryz.prog 87 1 = some (1, 1) := by kernel_rfl
theorem fd87_1 : fdOf Tryz.prog 87 1 = some (1, 4) := by kernel_rfl
theorem pt87_1 : ptOf Tryz.prog 87 1 = some (1, 1, false) := by kernel_rfl
theorem pl87_2 : plOf Tryz.prog 87 2 = some (2, 1) := by kernel_rfl
theorem fd87_2 : fdOf Tryz.prog 87 2 = some (2, 4) := by kernel_rfl
theorem pt87_2 : ptOf Tryz.prog 87 2 = some (2, 1, false) := by kernel_rfl
theorem sz88 : szOf Tryz.prog 88 = some 3 := by kernel_rfl
theorem ag88 : aggOf Tryz.prog 88 = some true := by kernel_rfl
theorem zo88 : zOf Tryz.prog 88 = some (Go.Value.agg #[Go.Value.bool false, Go.Value.bool false, Go.Value.bool false]) := by kernel_rfl
theorem st88 : stOk Tryz.prog 88 = true := by kernel_rfl
theorem pl88_0 : plOf Tryz.prog 88 0 = some (0, 1) := by kernel_rfl
theorem fd88_0 : fdOf Tryz.prog 88 0 = some (0, 4) := by kernel_rfl
theorem pt88_0 : ptOf Tryz.prog 88 0 = some (0, 1, false) := by kernel_rfl
theorem pl88_1 : plOf Tryz.prog 88 1 = some (1, 1) := by kernel_rfl
theorem fd88_1 : fdOf Tryz.prog 88 1 = some (1, 4) := by kernel_rfl
theorem pt88_1 : ptOf Tryz.prog 88 1 = some (1, 1, false) := by kernel_rfl
theorem pl88_2 : plOf Tryz.prog 88 2 = some (2, 1) := by kernel_rfl
theorem fd88_2 : fdOf Tryz.prog 88 2 = some (2, 4) := by kernel_rfl
theorem pt88_2 : ptOf Tryz.prog 88 2 = some (2, 1, false) := by kernel_rfl
theorem sz89 : szOf Tryz.prog 89 = some 1 := by kernel_rfl
theorem ag89 : aggOf Tryz.prog 89 = some false := by kernel_rfl
theorem zo89 : zOf Tryz.prog 89 = some Go.Value.nilFunc := by kernel_rfl
theorem sz90 : szOf Tryz.prog 90 = some 1 := by kernel_rfl
theorem ag90 : aggOf Tryz.prog 90 = some false := by kernel_rfl
theorem zo90 : zOf Tryz.prog 90 = some Go.Value.nilFunc := by kernel_rfl
theorem sz91 : szOf Tryz.prog 91 = some 1 := by kernel_rfl
theorem ag91 : aggOf Tryz.prog 91 = some false := by kernel_rfl
theorem zo91 : zOf Tryz.prog 91 = some Go.Value.nilFunc := by kernel_rfl
theorem sz92 : szOf Tryz.prog 92 = some 1 := by kernel_rfl
theorem ag92 : aggOf Tryz.prog 92 = some false := by kernel_rfl
theorem zo92 : zOf Tryz.prog 92 = some Go.Value.nilFunc := by kernel_rfl
theorem sz93 : szOf Tryz.prog 93 = some 1 := by kernel_rfl
theorem ag93 : aggOf Tryz.prog 93 = some false := by kernel_rfl
theorem zo93 : zOf Tryz.prog 93 = some Go.Value.nilFunc := by kernel_rfl
theorem sz94 : szOf Tryz.prog 94 = some 1 := by kernel_rfl
theorem ag94 : aggOf Tryz.prog 94 = some false := by kernel_rfl
theorem zo94 : zOf Tryz.prog 94 = some Go.Value.nilFunc := by kernel_rfl
theorem sz95 : szOf Tryz.prog 95 = some 1 := by kernel_rfl
theorem ag95 : aggOf Tryz.prog 95 = some false := by kernel_rfl
theorem zo95 : zOf Tryz.prog 95 = some Go.Value.nilFunc := by kernel_rfl
theorem sz96 : szOf Tryz.prog 96 = some 1 := by kernel_rfl
theorem ag96 : aggOf Tryz.prog 96 = some false := by kernel_rfl
theorem zo96 : zOf Tryz.prog 96 = some Go.Value.nilFunc := by kernel_rfl
theorem sz97 : szOf Tryz.prog 97 = some 1 := by kernel_rfl
theorem ag97 : aggOf Tryz.prog 97 = some false := by kernel_rfl
theorem zo97 : zOf Tryz.prog 97 = some (Go.Value.map none) := by kernel_rfl
theorem sz98 : szOf Tryz.prog 98 = some 7 := by kernel_rfl
theorem ag98 : aggOf Tryz.prog 98 = some true := by kernel_rfl
theorem zo98 : zOf Tryz.prog 98 = some (Go.Value.agg #[Go.Value.string { data := #[] }, Go.Value.int Go.IntKind.i64 0, Go.Value.string { data := #[] }, Go.Value.bool false, Go.Value.slice none 0 0, Go.Value.slice none 0 0, Go.Value.slice none 0 0]) := by kernel_rfl
theorem st98 : stOk Tryz.prog 98 = true := by kernel_rfl
theorem pl98_0 : plOf Tryz.prog 98 0 = some (0, 1) := by kernel_rfl
theorem fd98_0 : fdOf Tryz.prog 98 0 = some (0, 9) := by kernel_rfl
theorem pt98_0 : ptOf Tryz.prog 98 0 = some (0, 1, false) := by kernel_rfl
theorem pl98_1 : plOf Tryz.prog 98 1 = some (1, 6) := by kernel_rfl
theorem fd98_1 : fdOf Tryz.prog 98 1 = some (1, 27) := by kernel_rfl
theorem pt98_1 : ptOf Tryz.prog 98 1 = some (1, 6, true) := by kernel_rfl
theorem sz99 : szOf Tryz.prog 99 = some 7 := by kernel_rfl
theorem ag99 : aggOf Tryz.prog 99 = some true := by kernel_rfl
theorem zo99 : zOf Tryz.prog 99 = some (Go.Value.agg #[Go.Value.string { data := #[] }, Go.Value.int Go.IntKind.i64 0, Go.Value.string { data := #[] }, Go.Value.bool false, Go.Value.slice none 0 0, Go.Value.slice none 0 0, Go.Value.slice none 0 0]) := by kernel_rfl
theorem st99 : stOk Tryz.prog 99 = true := by kernel_rfl
theorem pl99_0 : plOf Tryz.prog 99 0 = some (0, 1) := by kernel_rfl
theorem fd99_0 : fdOf Tryz.prog 99 0 = some (0, 9) := by kernel_rfl
theorem pt99_0 : ptOf Tryz.prog 99 0 = some (0, 1, false) := by kernel_rfl
theorem pl99_1 : plOf Tryz.prog 99 1 = some (1, 6) := by kernel_rfl
theorem fd99_1 : fdOf Tryz.prog 99 1 = some (1, 27) := by kernel_rfl
theorem pt99_1 : ptOf Tryz.prog 99 1 = some (1, 6, true) := by kernel_rfl
theorem sz100 : szOf Tryz.prog 100 = some 1 := by kernel_rfl
theorem ag100 : aggOf Tryz.prog 100 = some false := by kernel_rfl
theorem zo100 : zOf Tryz.prog 100 = some Go.Value.nilFunc := by kernel_rfl
theorem sz101 : szOf Tryz.prog 101 = some 1 := by kernel_rfl
theorem ag101 : aggOf Tryz.prog 101 = some false := by kernel_rfl
theorem zo101 : zOf Tryz.prog 101 = some Go.Value.nilFunc := by kernel_rfl
theorem sz102 : szOf Tryz.prog 102 = some 8 := by kernel_rfl
theorem ag102 : aggOf Tryz.prog 102 = some true := by kernel_rfl
theorem zo102 : zOf Tryz.prog 102 = some (Go.Value.agg #[Go.Value.int Go.IntKind.i64 0, Go.Value.bool false, Go.Value.int Go.IntKind.i64 0, Go.Value.int Go.IntKind.i64 0, Go.Value.bool false, Go.Value.bool false, Go.Value.bool false, Go.Value.slice none 0 0]) := by kernel_rfl
theorem st102 : stOk Tryz.prog 102 = true := by kernel_rfl
theorem pl102_0 : plOf Tryz.prog 102 0 = some (0, 1) := by kernel_rfl
theorem fd102_0 : fdOf Tryz.prog 102 0 = some (0, 3) := by kernel_rfl
theorem pt102_0 : ptOf Tryz.prog 102 0 = some (0, 1, false) := by kernel_rfl
theorem pl102_1 : plOf Tryz.prog 102 1 = some (1, 1) := by kernel_rfl
theorem fd102_1 : fdOf Tryz.prog 102 1 = some (1, 4) := by kernel_rfl
theorem pt102_1 : ptOf Tryz.prog 102 1 = some (1, 1, false) := by kernel_rfl
theorem pl102_2 : plOf Tryz.prog 102 2 = some (2, 1) := by kernel_rfl
theorem fd102_2 : fdOf Tryz.prog 102 2 = some (2, 3) := by kernel_rfl
theorem pt102_2 : ptOf Tryz.prog 102 2 = some (2, 1, false) := by kernel_rfl
theorem pl102_3 : plOf Tryz.prog 102 3 = some (3, 1) := by kernel_rfl
theorem fd102_3 : fdOf Tryz.prog 102 3 = some (3, 3) := by kernel_rfl
theorem pt102_3 : ptOf Tryz.prog 102 3 = some (3, 1, false) := by kernel_rfl
theorem pl102_4 : plOf Tryz.prog 102 4 = some (4, 1) := by kernel_rfl
theorem fd102_4 : fdOf Tryz.prog 102 4 = some (4, 4) := by kernel_rfl
theorem pt102_4 : ptOf Tryz.prog 102 4 = some (4, 1, false) := by kernel_rfl
theorem pl102_5 : plOf Tryz.prog 102 5 = some (5, 1) := by kernel_rfl
theorem fd102_5 : fdOf Tryz.prog 102 5 = some (5, 4) := by kernel_rfl
theorem pt102_5 : ptOf Tryz.prog 102 5 = some (5, 1, false) := by kernel_rfl
theorem pl102_6 : plOf Tryz.prog 102 6 = some (6, 1) := by kernel_rfl
theorem fd102_6 : fdOf Tryz.prog 102 6 = some (6, 4) := by kernel_rfl
theorem pt102_6 : ptOf Tryz.prog 102 6 = some (6, 1, false) := by kernel_rfl
theorem pl102_7 : plOf Tryz.prog 102 7 = some (7, 1) := by kernel_rfl
theorem fd102_7 : fdOf Tryz.prog 102 7 = some (7, 37) := by kernel_rfl
theorem pt102_7 : ptOf Tryz.prog 102 7 = some (7, 1, false) := by kernel_rfl
theorem sz103 : szOf Tryz.prog 103 = some 8 := by kernel_rfl
theorem ag103 : aggOf Tryz.prog 103 = some true := by kernel_rfl
theorem zo103 : zOf Tryz.prog 103 = some (Go.Value.agg #[Go.Value.int Go.IntKind.i64 0, Go.Value.bool false, Go.Value.int Go.IntKind.i64 0, Go.Value.int Go.IntKind.i64 0, Go.Value.bool false, Go.Value.bool false, Go.Value.bool false, Go.Value.slice none 0 0]) := by kernel_rfl
theorem st103 : stOk Tryz.prog 103 = true := by kernel_rfl
theorem pl103_0 : plOf Tryz.prog 103 0 = some (0, 1) := by kernel_rfl
theorem fd103_0 : fdOf Tryz.prog 103 0 = some (0, 3) := by kernel_rfl
theorem pt103_0 : ptOf Tryz.prog 103 0 = some (0, 1, false) := by kernel_rfl
theorem pl103_1 : plOf Tryz.prog 103 1 = some (1, 1) := by kernel_rfl
theorem fd103_1 : fdOf Tryz.prog 103 1 = some (1, 4) := by kernel_rfl
theorem pt103_1 : ptOf Tryz.prog 103 1 = some (1, 1, false) := by kernel_rfl
theorem pl103_2 : plOf Tryz.prog 103 2 = some (2, 1) := by kernel_rfl
theorem fd103_2 : fdOf Tryz.prog 103 2 = some (2, 3) := by kernel_rfl
theorem pt103_2 : ptOf Tryz.prog 103 2 = some (2, 1, false) := by kernel_rfl
theorem pl103_3 : plOf Tryz.prog 103 3 = some (3, 1) := by kernel_rfl
theorem fd103_3 : fdOf Tryz.prog 103 3 = some (3, 3) := by kernel_rfl
theorem pt103_3 : ptOf Tryz.prog 103 3 = some (3, 1, false) := by kernel_rfl
theorem pl103_4 : plOf Tryz.prog 103 4 = some (4, 1) := by kernel_rfl
theorem fd103_4 : fdOf Tryz.prog 103 4 = some (4, 4) := by kernel_rfl
theorem pt103_4 : ptOf Tryz.prog 103 4 = some (4, 1, false) := by kernel_rfl
theorem pl103_5 : plOf Tryz.prog 103 5 = some (5, 1) := by kernel_rfl
theorem fd103_5 : fdOf Tryz.prog 103 5 = some (5, 4) := by kernel_rfl
theorem pt103_5 : ptOf Tryz.prog 103 5 = some (5, 1, false) := by kernel_rfl
theorem pl103_6 : plOf Tryz.prog 103 6 = some (6, 1) := by kernel_rfl
theorem fd103_6 : fdOf Tryz.prog 103 6 = some (6, 4) := by kernel_rfl
theorem pt103_6 : ptOf Tryz.prog 103 6 = some (6, 1, false) := by kernel_rfl
theorem pl103_7 : plOf Tryz.prog 103 7 = some (7, 1) := by kernel_rfl
theorem fd103_7 : fdOf Tryz.prog 103 7 = some (7, 37) := by kernel_rfl
theorem pt103_7 : ptOf Tryz.prog 103 7 = some (7, 1, false) := by kernel_rfl
theorem sz105 : szOf Tryz.prog 105 = some 1 := by kernel_rfl
theorem ag105 : aggOf Tryz.prog 105 = some false := by kernel_rfl
theorem zo105 : zOf Tryz.prog 105 = some Go.Value.nilFunc := by kernel_rfl
theorem sz106 : szOf Tryz.prog 106 = some 1 := by kernel_rfl
theorem ag106 : aggOf Tryz.prog 106 = some false := by kernel_rfl
theorem zo106 : zOf Tryz.prog 106 = some Go.Value.nilFunc := by kernel_rfl
theorem sz107 : szOf Tryz.prog 107 = some 1 := by kernel_rfl
theorem ag107 : aggOf Tryz.prog 107 = some false := by kernel_rfl
theorem zo107 : zOf Tryz.prog 107 = some Go.Value.nilFunc := by kernel_rfl
theorem sz108 : szOf Tryz.prog 108 = some 13 := by kernel_rfl
theorem ag108 : aggOf Tryz.prog 108 = some true := by kernel_rfl
theorem zo108 : zOf Tryz.prog 108 = some (Go.Value.agg #[Go.Value.int Go.IntKind.i64 0, Go.Value.string { data := #[] }, Go.Value.bool false, Go.Value.slice none 0 0, Go.Value.slice none 0 0, Go.Value.slice none 0 0, Go.Value.int Go.IntKind.i64 0, Go.Value.string { data := #[] }, Go.Value.bool false, Go.Value.slice none 0 0, Go.Value.slice none 0 0, Go.Value.slice none 0 0, Go.Value.slice none 0 0]) := by kernel_rfl
theorem st108 : stOk Tryz.prog 108 = true := by kernel_rfl
theorem pl108_0 : plOf Tryz.prog 108 0 = some (0, 6) := by kernel_rfl
theorem fd108_0 : fdOf Tryz.prog 108 0 = some (0, 27) := by kernel_rfl
theorem pt108_0 : ptOf Tryz.prog 108 0 = some (0, 6, true) := by kernel_rfl
theorem pl108_1 : plOf Tryz.prog 108 1 = some (6, 6) := by kernel_rfl
theorem fd108_1 : fdOf Tryz.prog 108 1 = some (6, 27) := by kernel_rfl
theorem pt108_1 : ptOf Tryz.prog 108 1 = some (6, 6, true) := by kernel_rfl
theorem pl108_2 : plOf Tryz.prog 108 2 = some (12, 1) := by kernel_rfl
theorem fd108_2 : fdOf Tryz.prog 108 2 = some (12, 25) := by kernel_rfl
theorem pt108_2 : ptOf Tryz.prog 108 2 = some (12, 1, false) := by kernel_rfl
theorem sz109 : szOf Tryz.prog 109 = some 13 := by kernel_rfl
theorem ag109 : aggOf Tryz.prog 109 = some true := by kernel_rfl
theorem zo109 : zOf Tryz.prog 109 = some (Go.Value.agg #[Go.Value.int Go.IntKind.i64 0, Go.Value.string { data := #[] }, Go.Value.bool false, Go.Value.slice none 0 0, Go.Value.slice none 0 0, Go.Value.slice none 0 0, Go.Value.int Go.IntKind.i64 0, Go.Value.string { data := #[] }, Go.Value.bool false, Go.Value.slice none 0 0, Go.Value.slice none 0 0, Go.Value.slice none 0 0, Go.Value.slice none 0 0]) := by kernel_rfl
theorem st109 : stOk Tryz.prog 109 = true := by kernel_rfl
theorem pl109_0 : plOf Tryz.prog 109 0 = some (0, 6) := by kernel_rfl
theorem fd109_0 : fdOf Tryz.prog 109 0 = some (0, 27) := by kernel_rfl
theorem pt109_0 : ptOf Tryz.prog 109 0 = some (0, 6, true) := by kernel_rfl
theorem pl109_1 : plOf Tryz.prog 109 1 = some (6, 6) := by kernel_rfl
theorem fd109_1 : fdOf Tryz.prog 109 1 = some (6, 27) := by kernel_rfl
theorem pt109_1 : ptOf Tryz.prog 109 1 = some (6, 6, true) := by kernel_rfl
theorem pl109_2 : plOf Tryz.prog 109 2 = some (12, 1) := by kernel_rfl
theorem fd109_2 : fdOf Tryz.prog 109 2 = some (12, 25) := by kernel_rfl
theorem pt109_2 : ptOf Tryz.prog 109 2 = some (12, 1, false) := by kernel_rfl
theorem sz110 : szOf Tryz.prog 110 = some 1 := by kernel_rfl
theorem ag110 : aggOf Tryz.prog 110 = some false := by kernel_rfl
theorem zo110 : zOf Tryz.prog 110 = some Go.Value.nilFunc := by kernel_rfl
theorem sz111 : szOf Tryz.prog 111 = some 1 := by kernel_rfl
theorem ag111 : aggOf Tryz.prog 111 = some false := by kernel_rfl
theorem zo111 : zOf Tryz.prog 111 = some Go.Value.nilFunc := by kernel_rfl
theorem sz112 : szOf Tryz.prog 112 = some 1 := by kernel_rfl
theorem ag112 : aggOf Tryz.prog 112 = some false := by kernel_rfl
theorem zo112 : zOf Tryz.prog 112 = some Go.Value.nilFunc := by kernel_rfl
theorem sz113 : szOf Tryz.prog 113 = some 1 := by kernel_rfl
theorem ag113 : aggOf Tryz.prog 113 = some false := by kernel_rfl
theorem zo113 : zOf Tryz.prog 113 = some Go.Value.nilFunc := by kernel_rfl
theorem sz114 : szOf Tryz.prog 114 = some 1 := by kernel_rfl
theorem ag114 : aggOf Tryz.prog 114 = some false := by kernel_rfl
theorem zo114 : zOf Tryz.prog 114 = some Go.Value.nilFunc := by kernel_rfl
theorem sz115 : szOf Tryz.prog 115 = some 1 := by kernel_rfl
theorem ag115 : aggOf Tryz.prog 115 = some false := by kernel_rfl
theorem zo115 : zOf Tryz.prog 115 = some (Go.Value.slice none 0 0) := by kernel_rfl
theorem sq115 : seqT Tryz.prog 115 = true := by kernel_rfl
theorem el115 : elOf Tryz.prog 115 = some 3 := by kernel_rfl
theorem es115 : esOf Tryz.prog 115 = some 1 := by kernel_rfl
theorem et115 : elT Tryz.prog 115 = some (1, 8, [V.d (D.val (Go.Value.int Go.IntKind.i64 0))]) := by kernel_rfl
theorem sz116 : szOf Tryz.prog 116 = some 3 := by kernel_rfl
theorem ag116 : aggOf Tryz.prog 116 = some true := by kernel_rfl
theorem zo116 : zOf Tryz.prog 116 = some (Go.Value.agg #[Go.Value.bool false, Go.Value.slice none 0 0, Go.Value.slice none 0 0]) := by kernel_rfl
theorem st116 : stOk Tryz.prog 116 = true := by kernel_rfl
theorem pl116_0 : plOf Tryz.prog 116 0 = some (0, 1) := by kernel_rfl
theorem fd116_0 : fdOf Tryz.prog 116 0 = some (0, 4) := by kernel_rfl
theorem pt116_0 : ptOf Tryz.prog 116 0 = some (0, 1, false) := by kernel_rfl
theorem pl116_1 : plOf Tryz.prog 116 1 = some (1, 1) := by kernel_rfl
theorem fd116_1 : fdOf Tryz.prog 116 1 = some (1, 115) := by kernel_rfl
theorem pt116_1 : ptOf Tryz.prog 116 1 = some (1, 1, false) := by kernel_rfl
theorem pl116_2 : plOf Tryz.prog 116 2 = some (2, 1) := by kernel_rfl
theorem fd116_2 : fdOf Tryz.prog 116 2 = some (2, 115) := by kernel_rfl
theorem pt116_2 : ptOf Tryz.prog 116 2 = some (2, 1, false) := by kernel_rfl
theorem sz117 : szOf Tryz.prog 117 = some 3 := by kernel_rfl
theorem ag117 : aggOf Tryz.prog 117 = some true := by kernel_rfl
theorem zo117 : zOf Tryz.prog 117 = some (Go.Value.agg #[Go.Value.bool false, Go.Value.slice none 0 0, Go.Value.slice none 0 0]) := by kernel_rfl
theorem st117 : stOk Tryz.prog 117 = true := by kernel_rfl
theorem pl117_0 : plOf Tryz.prog 117 0 = some (0, 1) := by kernel_rfl
theorem fd117_0 : fdOf Tryz.prog 117 0 = some (0, 4) := by kernel_rfl
theorem pt117_0 : ptOf Tryz.prog 117 0 = some (0, 1, false) := by kernel_rfl
theorem pl117_1 : plOf Tryz.prog 117 1 = some (1, 1) := by kernel_rfl
theorem fd117_1 : fdOf Tryz.prog 117 1 = some (1, 115) := by kernel_rfl
theorem pt117_1 : ptOf Tryz.prog 117 1 = some (1, 1, false) := by kernel_rfl
theorem pl117_2 : plOf Tryz.prog 117 2 = some (2, 1) := by kernel_rfl
theorem fd117_2 : fdOf Tryz.prog 117 2 = some (2, 115) := by kernel_rfl
theorem pt117_2 : ptOf Tryz.prog 117 2 = some (2, 1, false) := by kernel_rfl
theorem sz118 : szOf Tryz.prog 118 = some 1 := by kernel_rfl
theorem ag118 : aggOf Tryz.prog 118 = some false := by kernel_rfl
theorem zo118 : zOf Tryz.prog 118 = some Go.Value.nilFunc := by kernel_rfl
theorem sz119 : szOf Tryz.prog 119 = some 1 := by kernel_rfl
theorem ag119 : aggOf Tryz.prog 119 = some false := by kernel_rfl
theorem zo119 : zOf Tryz.prog 119 = some Go.Value.nilFunc := by kernel_rfl
theorem sz120 : szOf Tryz.prog 120 = some 1 := by kernel_rfl
theorem ag120 : aggOf Tryz.prog 120 = some false := by kernel_rfl
theorem zo120 : zOf Tryz.prog 120 = some Go.Value.nilFunc := by kernel_rfl
theorem sz122 : szOf Tryz.prog 122 = some 1 := by kernel_rfl
theorem ag122 : aggOf Tryz.prog 122 = some false := by kernel_rfl
theorem zo122 : zOf Tryz.prog 122 = some Go.Value.nilFunc := by kernel_rfl
theorem sz123 : szOf Tryz.prog 123 = some 1 := by kernel_rfl
theorem ag123 : aggOf Tryz.prog 123 = some false := by kernel_rfl
theorem zo123 : zOf Tryz.prog 123 = some (Go.Value.int Go.IntKind.u32 0) := by kernel_rfl
theorem sz124 : szOf Tryz.prog 124 = some 1 := by kernel_rfl
theorem ag124 : aggOf Tryz.prog 124 = some false := by kernel_rfl
theorem zo124 : zOf Tryz.prog 124 = some Go.Value.nilFunc := by kernel_rfl
theorem sz125 : szOf Tryz.prog 125 = some 1 := by kernel_rfl
theorem ag125 : aggOf Tryz.prog 125 = some false := by kernel_rfl
theorem zo125 : zOf Tryz.prog 125 = some Go.Value.nilFunc := by kernel_rfl
theorem sz126 : szOf Tryz.prog 126 = some 1 := by kernel_rfl
theorem ag126 : aggOf Tryz.prog 126 = some false := by kernel_rfl
theorem zo126 : zOf Tryz.prog 126 = some Go.Value.nilFunc := by kernel_rfl
theorem sz127 : szOf Tryz.prog 127 = some 1 := by kernel_rfl
theorem ag127 : aggOf Tryz.prog 127 = some false := by kernel_rfl
theorem zo127 : zOf Tryz.prog 127 = some Go.Value.nilFunc := by kernel_rfl
theorem sz128 : szOf Tryz.prog 128 = some 1 := by kernel_rfl
theorem ag128 : aggOf Tryz.prog 128 = some false := by kernel_rfl
theorem zo128 : zOf Tryz.prog 128 = some Go.Value.nilFunc := by kernel_rfl
theorem sz129 : szOf Tryz.prog 129 = some 1 := by kernel_rfl
theorem ag129 : aggOf Tryz.prog 129 = some false := by kernel_rfl
theorem zo129 : zOf Tryz.prog 129 = some Go.Value.nilFunc := by kernel_rfl
theorem sz130 : szOf Tryz.prog 130 = some 1 := by kernel_rfl
theorem ag130 : aggOf Tryz.prog 130 = some false := by kernel_rfl
theorem zo130 : zOf Tryz.prog 130 = some Go.Value.nilFunc := by kernel_rfl
theorem sz131 : szOf Tryz.prog 131 = some 1 := by kernel_rfl
theorem ag131 : aggOf Tryz.prog 131 = some false := by kernel_rfl
theorem zo131 : zOf Tryz.prog 131 = some Go.Value.nilFunc := by kernel_rfl
theorem sz132 : szOf Tryz.prog 132 = some 1 := by kernel_rfl
theorem ag132 : aggOf Tryz.prog 132 = some false := by kernel_rfl
theorem zo132 : zOf Tryz.prog 132 = some Go.Value.nilFunc := by kernel_rfl
theorem sz134 : szOf Tryz.prog 134 = some 1 := by kernel_rfl
theorem ag134 : aggOf Tryz.prog 134 = some false := by kernel_rfl
theorem zo134 : zOf Tryz.prog 134 = some Go.Value.nilFunc := by kernel_rfl
theorem sz135 : szOf Tryz.prog 135 = some 1 := by kernel_rfl
theorem ag135 : aggOf Tryz.prog 135 = some false := by kernel_rfl
theorem zo135 : zOf Tryz.prog 135 = some Go.Value.nilFunc := by kernel_rfl
theorem sz136 : szOf Tryz.prog 136 = some 1 := by kernel_rfl
theorem ag136 : aggOf Tryz.prog 136 = some false := by kernel_rfl
theorem zo136 : zOf Tryz.prog 136 = some (Go.Value.slice none 0 0) := by kernel_rfl
theorem sq136 : seqT Tryz.prog 136 = true := by kernel_rfl
theorem el136 : elOf Tryz.prog 136 = some 215 := by kernel_rfl
theorem es136 : esOf Tryz.prog 136 = some 4 := by kernel_rfl
theorem et136 : elT Tryz.prog 136 = some (4, 80, [V.d (D.val (Go.Value.slice none 0 0)), V.d (D.val (Go.Value.bool false)), V.d (D.val (Go.Value.slice none 0 0)), V.d (D.val (Go.Value.slice none 0 0))]) := by kernel_rfl
theorem sz137 : szOf Tryz.prog 137 = some 2 := by kernel_rfl
theorem ag137 : aggOf Tryz.prog 137 = some true := by kernel_rfl
theorem zo137 : zOf Tryz.prog 137 = some (Go.Value.agg #[Go.Value.int Go.IntKind.i64 0, Go.Value.slice none 0 0]) := by kernel_rfl
theorem st137 : stOk Tryz.prog 137 = true := by kernel_rfl
theorem pl137_0 : plOf Tryz.prog 137 0 = some (0, 1) := by kernel_rfl
theorem fd137_0 : fdOf Tryz.prog 137 0 = some (0, 3) := by kernel_rfl
theorem pt137_0 : ptOf Tryz.prog 137 0 = some (0, 1, false) := by kernel_rfl
theorem pl137_1 : plOf Tryz.prog 137 1 = some (1, 1) := by kernel_rfl
theorem fd137_1 : fdOf Tryz.prog 137 1 = some (1, 136) := by kernel_rfl
theorem pt137_1 : ptOf Tryz.prog 137 1 = some (1, 1, false) := by kernel_rfl
theorem sz138 : szOf Tryz.prog 138 = some 2 := by kernel_rfl
theorem ag138 : aggOf Tryz.prog 138 = some true := by kernel_rfl
theorem zo138 : zOf Tryz.prog 138 = some (Go.Value.agg #[Go.Value.int Go.IntKind.i64 0, Go.Value.slice none 0 0]) := by kernel_rfl
theorem st138 : stOk Tryz.prog 138 = true := by kernel_rfl
theorem pl138_0 : plOf Tryz.prog 138 0 = some (0, 1) := by kernel_rfl
theorem fd138_0 : fdOf Tryz.prog 138 0 = some (0, 3) := by kernel_rfl
theorem pt138_0 : ptOf Tryz.prog 138 0 = some (0, 1, false) := by kernel_rfl
theorem pl138_1 : plOf Tryz.prog 138 1 = some (1, 1) := by kernel_rfl
theorem fd138_1 : fdOf Tryz.prog 138 1 = some (1, 136) := by kernel_rfl
theorem pt138_1 : ptOf Tryz.prog 138 1 = some (1, 1, false) := by kernel_rfl
theorem sz139 : szOf Tryz.prog 139 = some 1 := by kernel_rfl
theorem ag139 : aggOf Tryz.prog 139 = some false := by kernel_rfl
theorem zo139 : zOf Tryz.prog 139 = some Go.Value.nilFunc := by kernel_rfl
theorem sz140 : szOf Tryz.prog 140 = some 5 := by kernel_rfl
theorem ag140 : aggOf Tryz.prog 140 = some true := by kernel_rfl
theorem zo140 : zOf Tryz.prog 140 = some (Go.Value.agg #[Go.Value.bool false, Go.Value.slice none 0 0, Go.Value.slice none 0 0, Go.Value.int Go.IntKind.i64 0, Go.Value.slice none 0 0]) := by kernel_rfl
theorem st140 : stOk Tryz.prog 140 = true := by kernel_rfl
theorem pl140_0 : plOf Tryz.prog 140 0 = some (0, 3) := by kernel_rfl
theorem fd140_0 : fdOf Tryz.prog 140 0 = some (0, 24) := by kernel_rfl
theorem pt140_0 : ptOf Tryz.prog 140 0 = some (0, 3, true) := by kernel_rfl
theorem pl140_1 : plOf Tryz.prog 140 1 = some (3, 2) := by kernel_rfl
theorem fd140_1 : fdOf Tryz.prog 140 1 = some (3, 138) := by kernel_rfl
theorem pt140_1 : ptOf Tryz.prog 140 1 = some (3, 2, true) := by kernel_rfl
theorem sz141 : szOf Tryz.prog 141 = some 5 := by kernel_rfl
theorem ag141 : aggOf Tryz.prog 141 = some true := by kernel_rfl
theorem zo141 : zOf Tryz.prog 141 = some (Go.Value.agg #[Go.Value.bool false, Go.Value.slice none 0 0, Go.Value.slice none 0 0, Go.Value.int Go.IntKind.i64 0, Go.Value.slice none 0 0]) := by kernel_rfl
theorem st141 : stOk Tryz.prog 141 = true := by kernel_rfl
theorem pl141_0 : plOf Tryz.prog 141 0 = some (0, 3) := by kernel_rfl
theorem fd141_0 : fdOf Tryz.prog 141 0 = some (0, 24) := by kernel_rfl
theorem pt141_0 : ptOf Tryz.prog 141 0 = some (0, 3, true) := by kernel_rfl
theorem pl141_1 : plOf Tryz.prog 141 1 = some (3, 2) := by kernel_rfl
theorem fd141_1 : fdOf Tryz.prog 141 1 = some (3, 138) := by kernel_rfl
theorem pt141_1 : ptOf Tryz.prog 141 1 = some (3, 2, true) := by kernel_rfl
theorem sz142 : szOf Tryz.prog 142 = some 1 := by kernel_rfl
theorem ag142 : aggOf Tryz.prog 142 = some false := by kernel_rfl
theorem zo142 : zOf Tryz.prog 142 = some Go.Value.nilFunc := by kernel_rfl
theorem sz143 : szOf Tryz.prog 143 = some 1 := by kernel_rfl
theorem ag143 : aggOf Tryz.prog 143 = some false := by kernel_rfl
theorem zo143 : zOf Tryz.prog 143 = some Go.Value.nilFunc := by kernel_rfl
theorem sz144 : szOf Tryz.prog 144 = some 1 := by kernel_rfl
theorem ag144 : aggOf Tryz.prog 144 = some false := by kernel_rfl
theorem zo144 : zOf Tryz.prog 144 = some Go.Value.nilFunc := by kernel_rfl
theorem sz145 : szOf Tryz.prog 145 = some 1 := by kernel_rfl
theorem ag145 : aggOf Tryz.prog 145 = some false := by kernel_rfl
theorem zo145 : zOf Tryz.prog 145 = some Go.Value.nilFunc := by kernel_rfl
theorem sz146 : szOf Tryz.prog 146 = some 1 := by kernel_rfl
theorem ag146 : aggOf Tryz.prog 146 = some false := by kernel_rfl
theorem zo146 : zOf Tryz.prog 146 = some Go.Value.nilFunc := by kernel_rfl
theorem sz147 : szOf Tryz.prog 147 = some 1 := by kernel_rfl
theorem ag147 : aggOf Tryz.prog 147 = some false := by kernel_rfl
theorem zo147 : zOf Tryz.prog 147 = some Go.Value.nilFunc := by kernel_rfl
theorem sz148 : szOf Tryz.prog 148 = some 1 := by kernel_rfl
theorem ag148 : aggOf Tryz.prog 148 = some false := by kernel_rfl
theorem zo148 : zOf Tryz.prog 148 = some Go.Value.nilFunc := by kernel_rfl
theorem sz149 : szOf Tryz.prog 149 = some 1 := by kernel_rfl
theorem ag149 : aggOf Tryz.prog 149 = some false := by kernel_rfl
theorem zo149 : zOf Tryz.prog 149 = some Go.Value.nilFunc := by kernel_rfl
theorem sz150 : szOf Tryz.prog 150 = some 1 := by kernel_rfl
theorem ag150 : aggOf Tryz.prog 150 = some false := by kernel_rfl
theorem zo150 : zOf Tryz.prog 150 = some Go.Value.nilFunc := by kernel_rfl
theorem sz151 : szOf Tryz.prog 151 = some 1 := by kernel_rfl
theorem ag151 : aggOf Tryz.prog 151 = some false := by kernel_rfl
theorem zo151 : zOf Tryz.prog 151 = some Go.Value.nilFunc := by kernel_rfl
theorem sz152 : szOf Tryz.prog 152 = some 1 := by kernel_rfl
theorem ag152 : aggOf Tryz.prog 152 = some false := by kernel_rfl
theorem zo152 : zOf Tryz.prog 152 = some Go.Value.nilFunc := by kernel_rfl
theorem sz153 : szOf Tryz.prog 153 = some 1 := by kernel_rfl
theorem ag153 : aggOf Tryz.prog 153 = some false := by kernel_rfl
theorem zo153 : zOf Tryz.prog 153 = some Go.Value.nilFunc := by kernel_rfl
theorem sz154 : szOf Tryz.prog 154 = some 1 := by kernel_rfl
theorem ag154 : aggOf Tryz.prog 154 = some false := by kernel_rfl
theorem zo154 : zOf Tryz.prog 154 = some Go.Value.nilFunc := by kernel_rfl
theorem sz155 : szOf Tryz.prog 155 = some 1 := by kernel_rfl
theorem ag155 : aggOf Tryz.prog 155 = some false := by kernel_rfl
theorem zo155 : zOf Tryz.prog 155 = some Go.Value.nilFunc := by kernel_rfl
theorem sz156 : szOf Tryz.prog 156 = some 1 := by kernel_rfl
theorem ag156 : aggOf Tryz.prog 156 = some false := by kernel_rfl
theorem zo156 : zOf Tryz.prog 156 = some Go.Value.nilFunc := by kernel_rfl
theorem sz157 : szOf Tryz.prog 157 = some 1 := by kernel_rfl
theorem ag157 : aggOf Tryz.prog 157 = some false := by kernel_rfl
theorem zo157 : zOf Tryz.prog 157 = some Go.Value.nilFunc := by kernel_rfl
theorem sz158 : szOf Tryz.prog 158 = some 1 := by kernel_rfl
theorem ag158 : aggOf Tryz.prog 158 = some false := by kernel_rfl
theorem zo158 : zOf Tryz.prog 158 = some Go.Value.nilFunc := by kernel_rfl
theorem sz159 : szOf Tryz.prog 159 = some 1 := by kernel_rfl
theorem ag159 : aggOf Tryz.prog 159 = some false := by kernel_rfl
theorem zo159 : zOf Tryz.prog 159 = some Go.Value.nilFunc := by kernel_rfl
theorem sz160 : szOf Tryz.prog 160 = some 1 := by kernel_rfl
theorem ag160 : aggOf Tryz.prog 160 = some false := by kernel_rfl
theorem zo160 : zOf Tryz.prog 160 = some (Go.Value.int Go.IntKind.u64 0) := by kernel_rfl
theorem sz161 : szOf Tryz.prog 161 = some 1 := by kernel_rfl
theorem ag161 : aggOf Tryz.prog 161 = some false := by kernel_rfl
theorem zo161 : zOf Tryz.prog 161 = some Go.Value.nilFunc := by kernel_rfl
theorem sz162 : szOf Tryz.prog 162 = some 1 := by kernel_rfl
theorem ag162 : aggOf Tryz.prog 162 = some false := by kernel_rfl
theorem zo162 : zOf Tryz.prog 162 = some Go.Value.nilFunc := by kernel_rfl
theorem sz164 : szOf Tryz.prog 164 = some 1 := by kernel_rfl
theorem ag164 : aggOf Tryz.prog 164 = some false := by kernel_rfl
theorem zo164 : zOf Tryz.prog 164 = some Go.Value.nilFunc := by kernel_rfl
theorem sz165 : szOf Tryz.prog 165 = some 1 := by kernel_rfl
theorem ag165 : aggOf Tryz.prog 165 = some false := by kernel_rfl
theorem zo165 : zOf Tryz.prog 165 = some Go.Value.nilFunc := by kernel_rfl
theorem sz166 : szOf Tryz.prog 166 = some 1 := by kernel_rfl
theorem ag166 : aggOf Tryz.prog 166 = some false := by kernel_rfl
theorem zo166 : zOf Tryz.prog 166 = some Go.Value.nilFunc := by kernel_rfl
theorem sz167 : szOf Tryz.prog 167 = some 1 := by kernel_rfl
theorem ag167 : aggOf Tryz.prog 167 = some false := by kernel_rfl
theorem zo167 : zOf Tryz.prog 167 = some (Go.Value.pointer none) := by kernel_rfl
theorem sz168 : szOf Tryz.prog 168 = some 5 := by kernel_rfl
theorem ag168 : aggOf Tryz.prog 168 = some true := by kernel_rfl
theorem zo168 : zOf Tryz.prog 168 = some (Go.Value.agg #[Go.Value.slice none 0 0, Go.Value.slice none 0 0, Go.Value.slice none 0 0, Go.Value.bool false, Go.Value.bool false]) := by kernel_rfl
theorem st168 : stOk Tryz.prog 168 = true := by kernel_rfl
theorem pl168_0 : plOf Tryz.prog 168 0 = some (0, 1) := by kernel_rfl
theorem fd168_0 : fdOf Tryz.prog 168 0 = some (0, 36) := by kernel_rfl
theorem pt168_0 : ptOf Tryz.prog 168 0 = some (0, 1, false) := by kernel_rfl
theorem pl168_1 : plOf Tryz.prog 168 1 = some (1, 1) := by kernel_rfl
theorem fd168_1 : fdOf Tryz.prog 168 1 = some (1, 37) := by kernel_rfl
theorem pt168_1 : ptOf Tryz.prog 168 1 = some (1, 1, false) := by kernel_rfl
theorem pl168_2 : plOf Tryz.prog 168 2 = some (2, 1) := by kernel_rfl
theorem fd168_2 : fdOf Tryz.prog 168 2 = some (2, 37) := by kernel_rfl
theorem pt168_2 : ptOf Tryz.prog 168 2 = some (2, 1, false) := by kernel_rfl
theorem pl168_3 : plOf Tryz.prog 168 3 = some (3, 1) := by kernel_rfl
theorem fd168_3 : fdOf Tryz.prog 168 3 = some (3, 4) := by kernel_rfl
theorem pt168_3 : ptOf Tryz.prog 168 3 = some (3, 1, false) := by kernel_rfl
theorem pl168_4 : plOf Tryz.prog 168 4 = some (4, 1) := by kernel_rfl
theorem fd168_4 : fdOf Tryz.prog 168 4 = some (4, 4) := by kernel_rfl
theorem pt168_4 : ptOf Tryz.prog 168 4 = some (4, 1, false) := by kernel_rfl
theorem sz169 : szOf Tryz.prog 169 = some 5 := by kernel_rfl
theorem ag169 : aggOf Tryz.prog 169 = some true := by kernel_rfl
theorem zo169 : zOf Tryz.prog 169 = some (Go.Value.agg #[Go.Value.slice none 0 0, Go.Value.slice none 0 0, Go.Value.slice none 0 0, Go.Value.bool false, Go.Value.bool false]) := by kernel_rfl
theorem st169 : stOk Tryz.prog 169 = true := by kernel_rfl
theorem pl169_0 : plOf Tryz.prog 169 0 = some (0, 1) := by kernel_rfl
theorem fd169_0 : fdOf Tryz.prog 169 0 = some (0, 36) := by kernel_rfl
theorem pt169_0 : ptOf Tryz.prog 169 0 = some (0, 1, false) := by kernel_rfl
theorem pl169_1 : plOf Tryz.prog 169 1 = some (1, 1) := by kernel_rfl
theorem fd169_1 : fdOf Tryz.prog 169 1 = some (1, 37) := by kernel_rfl
theorem pt169_1 : ptOf Tryz.prog 169 1 = some (1, 1, false) := by kernel_rfl
theorem pl169_2 : plOf Tryz.prog 169 2 = some (2, 1) := by kernel_rfl
theorem fd169_2 : fdOf Tryz.prog 169 2 = some (2, 37) := by kernel_rfl
theorem pt169_2 : ptOf Tryz.prog 169 2 = some (2, 1, false) := by kernel_rfl
theorem pl169_3 : plOf Tryz.prog 169 3 = some (3, 1) := by kernel_rfl
theorem fd169_3 : fdOf Tryz.prog 169 3 = some (3, 4) := by kernel_rfl
theorem pt169_3 : ptOf Tryz.prog 169 3 = some (3, 1, false) := by kernel_rfl
theorem pl169_4 : plOf Tryz.prog 169 4 = some (4, 1) := by kernel_rfl
theorem fd169_4 : fdOf Tryz.prog 169 4 = some (4, 4) := by kernel_rfl
theorem pt169_4 : ptOf Tryz.prog 169 4 = some (4, 1, false) := by kernel_rfl
theorem sz170 : szOf Tryz.prog 170 = some 1 := by kernel_rfl
theorem ag170 : aggOf Tryz.prog 170 = some false := by kernel_rfl
theorem zo170 : zOf Tryz.prog 170 = some Go.Value.nilFunc := by kernel_rfl
theorem sz171 : szOf Tryz.prog 171 = some 1 := by kernel_rfl
theorem ag171 : aggOf Tryz.prog 171 = some false := by kernel_rfl
theorem zo171 : zOf Tryz.prog 171 = some Go.Value.nilFunc := by kernel_rfl
theorem sz172 : szOf Tryz.prog 172 = some 1 := by kernel_rfl
theorem ag172 : aggOf Tryz.prog 172 = some false := by kernel_rfl
theorem zo172 : zOf Tryz.prog 172 = some Go.Value.nilFunc := by kernel_rfl
theorem sz174 : szOf Tryz.prog 174 = some 1 := by kernel_rfl
theorem ag174 : aggOf Tryz.prog 174 = some false := by kernel_rfl
theorem zo174 : zOf Tryz.prog 174 = some Go.Value.nilFunc := by kernel_rfl
theorem sz175 : szOf Tryz.prog 175 = some 2 := by kernel_rfl
theorem ag175 : aggOf Tryz.prog 175 = some true := by kernel_rfl
theorem zo175 : zOf Tryz.prog 175 = some (Go.Value.agg #[Go.Value.bool false, Go.Value.slice none 0 0]) := by kernel_rfl
theorem st175 : stOk Tryz.prog 175 = true := by kernel_rfl
theorem pl175_0 : plOf Tryz.prog 175 0 = some (0, 1) := by kernel_rfl
theorem fd175_0 : fdOf Tryz.prog 175 0 = some (0, 4) := by kernel_rfl
theorem pt175_0 : ptOf Tryz.prog 175 0 = some (0, 1, false) := by kernel_rfl
theorem pl175_1 : plOf Tryz.prog 175 1 = some (1, 1) := by kernel_rfl
theorem fd175_1 : fdOf Tryz.prog 175 1 = some (1, 38) := by kernel_rfl
theorem pt175_1 : ptOf Tryz.prog 175 1 = some (1, 1, false) := by kernel_rfl
theorem sz176 : szOf Tryz.prog 176 = some 2 := by kernel_rfl
theorem ag176 : aggOf Tryz.prog 176 = some true := by kernel_rfl
theorem zo176 : zOf Tryz.prog 176 = some (Go.Value.agg #[Go.Value.bool false, Go.Value.slice none 0 0]) := by kernel_rfl
theorem st176 : stOk Tryz.prog 176 = true := by kernel_rfl
theorem pl176_0 : plOf Tryz.prog 176 0 = some (0, 1) := by kernel_rfl
theorem fd176_0 : fdOf Tryz.prog 176 0 = some (0, 4) := by kernel_rfl
theorem pt176_0 : ptOf Tryz.prog 176 0 = some (0, 1, false) := by kernel_rfl
theorem pl176_1 : plOf Tryz.prog 176 1 = some (1, 1) := by kernel_rfl
theorem fd176_1 : fdOf Tryz.prog 176 1 = some (1, 38) := by kernel_rfl
theorem pt176_1 : ptOf Tryz.prog 176 1 = some (1, 1, false) := by kernel_rfl
theorem sz177 : szOf Tryz.prog 177 = some 1 := by kernel_rfl
theorem ag177 : aggOf Tryz.prog 177 = some false := by kernel_rfl
theorem zo177 : zOf Tryz.prog 177 = some Go.Value.nilFunc := by kernel_rfl
theorem sz178 : szOf Tryz.prog 178 = some 1 := by kernel_rfl
theorem ag178 : aggOf Tryz.prog 178 = some false := by kernel_rfl
theorem zo178 : zOf Tryz.prog 178 = some Go.Value.nilFunc := by kernel_rfl
theorem sz179 : szOf Tryz.prog 179 = some 1 := by kernel_rfl
theorem ag179 : aggOf Tryz.prog 179 = some false := by kernel_rfl
theorem zo179 : zOf Tryz.prog 179 = some Go.Value.nilFunc := by kernel_rfl
theorem sz180 : szOf Tryz.prog 180 = some 1 := by kernel_rfl
theorem ag180 : aggOf Tryz.prog 180 = some false := by kernel_rfl
theorem zo180 : zOf Tryz.prog 180 = some Go.Value.nilFunc := by kernel_rfl
theorem sz181 : szOf Tryz.prog 181 = some 1 := by kernel_rfl
theorem ag181 : aggOf Tryz.prog 181 = some false := by kernel_rfl
theorem zo181 : zOf Tryz.prog 181 = some Go.Value.nilFunc := by kernel_rfl
theorem sz182 : szOf Tryz.prog 182 = some 1 := by kernel_rfl
theorem ag182 : aggOf Tryz.prog 182 = some false := by kernel_rfl
theorem zo182 : zOf Tryz.prog 182 = some Go.Value.nilFunc := by kernel_rfl
theorem sz183 : szOf Tryz.prog 183 = some 1 := by kernel_rfl
theorem ag183 : aggOf Tryz.prog 183 = some false := by kernel_rfl
theorem zo183 : zOf Tryz.prog 183 = some Go.Value.nilFunc := by kernel_rfl
theorem sz184 : szOf Tryz.prog 184 = some 1 := by kernel_rfl
theorem ag184 : aggOf Tryz.prog 184 = some false := by kernel_rfl
theorem zo184 : zOf Tryz.prog 184 = some Go.Value.nilFunc := by kernel_rfl
theorem sz185 : szOf Tryz.prog 185 = some 1 := by kernel_rfl
theorem ag185 : aggOf Tryz.prog 185 = some false := by kernel_rfl
theorem zo185 : zOf Tryz.prog 185 = some Go.Value.nilFunc := by kernel_rfl
theorem sz186 : szOf Tryz.prog 186 = some 1 := by kernel_rfl
theorem ag186 : aggOf Tryz.prog 186 = some false := by kernel_rfl
theorem zo186 : zOf Tryz.prog 186 = some (Go.Value.slice none 0 0) := by kernel_rfl
theorem sq186 : seqT Tryz.prog 186 = true := by kernel_rfl
theorem el186 : elOf Tryz.prog 186 = some 188 := by kernel_rfl
theorem es186 : esOf Tryz.prog 186 = some 3 := by kernel_rfl
theorem et186 : elT Tryz.prog 186 = some (3, 40, [V.d (D.val (Go.Value.int Go.IntKind.i64 0)), V.d (D.val (Go.Value.slice none 0 0)), V.d (D.val (Go.Value.int Go.IntKind.i64 0))]) := by kernel_rfl
theorem sz187 : szOf Tryz.prog 187 = some 3 := by kernel_rfl
theorem ag187 : aggOf Tryz.prog 187 = some true := by kernel_rfl
theorem zo187 : zOf Tryz.prog 187 = some (Go.Value.agg #[Go.Value.int Go.IntKind.i64 0, Go.Value.slice none 0 0, Go.Value.int Go.IntKind.i64 0]) := by kernel_rfl
theorem st187 : stOk Tryz.prog 187 = true := by kernel_rfl
theorem pl187_0 : plOf Tryz.prog 187 0 = some (0, 2) := by kernel_rfl
theorem fd187_0 : fdOf Tryz.prog 187 0 = some (0, 138) := by kernel_rfl
theorem pt187_0 : ptOf Tryz.prog 187 0 = some (0, 2, true) := by kernel_rfl
theorem pl187_1 : plOf Tryz.prog 187 1 = some (2, 1) := by kernel_rfl
theorem fd187_1 : fdOf Tryz.prog 187 1 = some (2, 3) := by kernel_rfl
theorem pt187_1 : ptOf Tryz.prog 187 1 = some (2, 1, false) := by kernel_rfl
theorem sz188 : szOf Tryz.prog 188 = some 3 := by kernel_rfl
theorem ag188 : aggOf Tryz.prog 188 = some true := by kernel_rfl
theorem zo188 : zOf Tryz.prog 188 = some (Go.Value.agg #[Go.Value.int Go.IntKind.i64 0, Go.Value.slice none 0 0, Go.Value.int Go.IntKind.i64 0]) := by kernel_rfl
theorem st188 : stOk Tryz.prog 188 = true := by kernel_rfl
theorem pl188_0 : plOf Tryz.prog 188 0 = some (0, 2) := by kernel_rfl
theorem fd188_0 : fdOf Tryz.prog 188 0 = some (0, 138) := by kernel_rfl
theorem pt188_0 : ptOf Tryz.prog 188 0 = some (0, 2, true) := by kernel_rfl
theorem pl188_1 : plOf Tryz.prog 188 1 = some (2, 1) := by kernel_rfl
theorem fd188_1 : fdOf Tryz.prog 188 1 = some (2, 3) := by kernel_rfl
theorem pt188_1 : ptOf Tryz.prog 188 1 = some (2, 1, false) := by kernel_rfl
theorem sz190 : szOf Tryz.prog 190 = some 1 := by kernel_rfl
theorem ag190 : aggOf Tryz.prog 190 = some false := by kernel_rfl
theorem zo190 : zOf Tryz.prog 190 = some Go.Value.nilFunc := by kernel_rfl
theorem sz191 : szOf Tryz.prog 191 = some 1 := by kernel_rfl
theorem ag191 : aggOf Tryz.prog 191 = some false := by kernel_rfl
theorem zo191 : zOf Tryz.prog 191 = some Go.Value.nilFunc := by kernel_rfl
theorem sz192 : szOf Tryz.prog 192 = some 7 := by kernel_rfl
theorem ag192 : aggOf Tryz.prog 192 = some true := by kernel_rfl
theorem zo192 : zOf Tryz.prog 192 = some (Go.Value.agg #[Go.Value.slice none 0 0, Go.Value.bool false, Go.Value.slice none 0 0, Go.Value.slice none 0 0, Go.Value.bool false, Go.Value.slice none 0 0, Go.Value.slice none 0 0]) := by kernel_rfl
theorem st192 : stOk Tryz.prog 192 = true := by kernel_rfl
theorem pl192_0 : plOf Tryz.prog 192 0 = some (0, 1) := by kernel_rfl
theorem fd192_0 : fdOf Tryz.prog 192 0 = some (0, 39) := by kernel_rfl
theorem pt192_0 : ptOf Tryz.prog 192 0 = some (0, 1, false) := by kernel_rfl
theorem pl192_1 : plOf Tryz.prog 192 1 = some (1, 3) := by kernel_rfl
theorem fd192_1 : fdOf Tryz.prog 192 1 = some (1, 24) := by kernel_rfl
theorem pt192_1 : ptOf Tryz.prog 192 1 = some (1, 3, true) := by kernel_rfl
theorem pl192_2 : plOf Tryz.prog 192 2 = some (4, 3) := by kernel_rfl
theorem fd192_2 : fdOf Tryz.prog 192 2 = some (4, 24) := by kernel_rfl
theorem pt192_2 : ptOf Tryz.prog 192 2 = some (4, 3, true) := by kernel_rfl
theorem sz193 : szOf Tryz.prog 193 = some 7 := by kernel_rfl
theorem ag193 : aggOf Tryz.prog 193 = some true := by kernel_rfl
theorem zo193 : zOf Tryz.prog 193 = some (Go.Value.agg #[Go.Value.slice none 0 0, Go.Value.bool false, Go.Value.slice none 0 0, Go.Value.slice none 0 0, Go.Value.bool false, Go.Value.slice none 0 0, Go.Value.slice none 0 0]) := by kernel_rfl
theorem st193 : stOk Tryz.prog 193 = true := by kernel_rfl
theorem pl193_0 : plOf Tryz.prog 193 0 = some (0, 1) := by kernel_rfl
theorem fd193_0 : fdOf Tryz.prog 193 0 = some (0, 39) := by kernel_rfl
theorem pt193_0 : ptOf Tryz.prog 193 0 = some (0, 1, false) := by kernel_rfl
theorem pl193_1 : plOf Tryz.prog 193 1 = some (1, 3) := by kernel_rfl
theorem fd193_1 : fdOf Tryz.prog 193 1 = some (1, 24) := by kernel_rfl
theorem pt193_1 : ptOf Tryz.prog 193 1 = some (1, 3, true) := by kernel_rfl
theorem pl193_2 : plOf Tryz.prog 193 2 = some (4, 3) := by kernel_rfl
theorem fd193_2 : fdOf Tryz.prog 193 2 = some (4, 24) := by kernel_rfl
theorem pt193_2 : ptOf Tryz.prog 193 2 = some (4, 3, true) := by kernel_rfl
theorem sz195 : szOf Tryz.prog 195 = some 1 := by kernel_rfl
theorem ag195 : aggOf Tryz.prog 195 = some false := by kernel_rfl
theorem zo195 : zOf Tryz.prog 195 = some Go.Value.nilFunc := by kernel_rfl
theorem sz196 : szOf Tryz.prog 196 = some 1 := by kernel_rfl
theorem ag196 : aggOf Tryz.prog 196 = some false := by kernel_rfl
theorem zo196 : zOf Tryz.prog 196 = some Go.Value.nilFunc := by kernel_rfl
theorem sz197 : szOf Tryz.prog 197 = some 1 := by kernel_rfl
theorem ag197 : aggOf Tryz.prog 197 = some false := by kernel_rfl
theorem zo197 : zOf Tryz.prog 197 = some (Go.Value.pointer none) := by kernel_rfl
theorem sz198 : szOf Tryz.prog 198 = some 1 := by kernel_rfl
theorem ag198 : aggOf Tryz.prog 198 = some true := by kernel_rfl
theorem zo198 : zOf Tryz.prog 198 = some (Go.Value.agg #[Go.Value.slice none 0 0]) := by kernel_rfl
theorem st198 : stOk Tryz.prog 198 = true := by kernel_rfl
theorem pl198_0 : plOf Tryz.prog 198 0 = some (0, 1) := by kernel_rfl
theorem fd198_0 : fdOf Tryz.prog 198 0 = some (0, 79) := by kernel_rfl
theorem pt198_0 : ptOf Tryz.prog 198 0 = some (0, 1, false) := by kernel_rfl
theorem sz199 : szOf Tryz.prog 199 = some 1 := by kernel_rfl
theorem ag199 : aggOf Tryz.prog 199 = some true := by kernel_rfl
theorem zo199 : zOf Tryz.prog 199 = some (Go.Value.agg #[Go.Value.slice none 0 0]) := by kernel_rfl
theorem st199 : stOk Tryz.prog 199 = true := by kernel_rfl
theorem pl199_0 : plOf Tryz.prog 199 0 = some (0, 1) := by kernel_rfl
theorem fd199_0 : fdOf Tryz.prog 199 0 = some (0, 79) := by kernel_rfl
theorem pt199_0 : ptOf Tryz.prog 199 0 = some (0, 1, false) := by kernel_rfl
theorem sz201 : szOf Tryz.prog 201 = some 1 := by kernel_rfl
theorem ag201 : aggOf Tryz.prog 201 = some false := by kernel_rfl
theorem zo201 : zOf Tryz.prog 201 = some Go.Value.nilFunc := by kernel_rfl
theorem sz202 : szOf Tryz.prog 202 = some 1 := by kernel_rfl
theorem ag202 : aggOf Tryz.prog 202 = some false := by kernel_rfl
theorem zo202 : zOf Tryz.prog 202 = some Go.Value.nilFunc := by kernel_rfl
theorem sz203 : szOf Tryz.prog 203 = some 1 := by kernel_rfl
theorem ag203 : aggOf Tryz.prog 203 = some false := by kernel_rfl
theorem zo203 : zOf Tryz.prog 203 = some Go.Value.nilFunc := by kernel_rfl
theorem sz204 : szOf Tryz.prog 204 = some 1 := by kernel_rfl
theorem ag204 : aggOf Tryz.prog 204 = some false := by kernel_rfl
theorem zo204 : zOf Tryz.prog 204 = some (Go.Value.pointer none) := by kernel_rfl
theorem sz205 : szOf Tryz.prog 205 = some 2 := by kernel_rfl
theorem ag205 : aggOf Tryz.prog 205 = some true := by kernel_rfl
theorem zo205 : zOf Tryz.prog 205 = some (Go.Value.agg #[Go.Value.pointer none, Go.Value.slice none 0 0]) := by kernel_rfl
theorem st205 : stOk Tryz.prog 205 = true := by kernel_rfl
theorem pl205_0 : plOf Tryz.prog 205 0 = some (0, 1) := by kernel_rfl
theorem fd205_0 : fdOf Tryz.prog 205 0 = some (0, 204) := by kernel_rfl
theorem pt205_0 : ptOf Tryz.prog 205 0 = some (0, 1, false) := by kernel_rfl
theorem pl205_1 : plOf Tryz.prog 205 1 = some (1, 1) := by kernel_rfl
theorem fd205_1 : fdOf Tryz.prog 205 1 = some (1, 79) := by kernel_rfl
theorem pt205_1 : ptOf Tryz.prog 205 1 = some (1, 1, false) := by kernel_rfl
theorem sz206 : szOf Tryz.prog 206 = some 2 := by kernel_rfl
theorem ag206 : aggOf Tryz.prog 206 = some true := by kernel_rfl
theorem zo206 : zOf Tryz.prog 206 = some (Go.Value.agg #[Go.Value.pointer none, Go.Value.slice none 0 0]) := by kernel_rfl
theorem st206 : stOk Tryz.prog 206 = true := by kernel_rfl
theorem pl206_0 : plOf Tryz.prog 206 0 = some (0, 1) := by kernel_rfl
theorem fd206_0 : fdOf Tryz.prog 206 0 = some (0, 204) := by kernel_rfl
theorem pt206_0 : ptOf Tryz.prog 206 0 = some (0, 1, false) := by kernel_rfl
theorem pl206_1 : plOf Tryz.prog 206 1 = some (1, 1) := by kernel_rfl
theorem fd206_1 : fdOf Tryz.prog 206 1 = some (1, 79) := by kernel_rfl
theorem pt206_1 : ptOf Tryz.prog 206 1 = some (1, 1, false) := by kernel_rfl
theorem sz208 : szOf Tryz.prog 208 = some 1 := by kernel_rfl
theorem ag208 : aggOf Tryz.prog 208 = some false := by kernel_rfl
theorem zo208 : zOf Tryz.prog 208 = some Go.Value.nilIface := by kernel_rfl
theorem sz209 : szOf Tryz.prog 209 = some 1 := by kernel_rfl
theorem ag209 : aggOf Tryz.prog 209 = some false := by kernel_rfl
theorem zo209 : zOf Tryz.prog 209 = some Go.Value.nilFunc := by kernel_rfl
theorem sz210 : szOf Tryz.prog 210 = some 1 := by kernel_rfl
theorem ag210 : aggOf Tryz.prog 210 = some false := by kernel_rfl
theorem zo210 : zOf Tryz.prog 210 = some Go.Value.nilFunc := by kernel_rfl
theorem sz212 : szOf Tryz.prog 212 = some 1 := by kernel_rfl
theorem ag212 : aggOf Tryz.prog 212 = some false := by kernel_rfl
theorem zo212 : zOf Tryz.prog 212 = some Go.Value.nilFunc := by kernel_rfl
theorem sz213 : szOf Tryz.prog 213 = some 1 := by kernel_rfl
theorem ag213 : aggOf Tryz.prog 213 = some false := by kernel_rfl
theorem zo213 : zOf Tryz.prog 213 = some Go.Value.nilFunc := by kernel_rfl
theorem sz214 : szOf Tryz.prog 214 = some 4 := by kernel_rfl
theorem ag214 : aggOf Tryz.prog 214 = some true := by kernel_rfl
theorem zo214 : zOf Tryz.prog 214 = some (Go.Value.agg #[Go.Value.slice none 0 0, Go.Value.bool false, Go.Value.slice none 0 0, Go.Value.slice none 0 0]) := by kernel_rfl
theorem st214 : stOk Tryz.prog 214 = true := by kernel_rfl
theorem pl214_0 : plOf Tryz.prog 214 0 = some (0, 1) := by kernel_rfl
theorem fd214_0 : fdOf Tryz.prog 214 0 = some (0, 37) := by kernel_rfl
theorem pt214_0 : ptOf Tryz.prog 214 0 = some (0, 1, false) := by kernel_rfl
theorem pl214_1 : plOf Tryz.prog 214 1 = some (1, 3) := by kernel_rfl
theorem fd214_1 : fdOf Tryz.prog 214 1 = some (1, 24) := by kernel_rfl
theorem pt214_1 : ptOf Tryz.prog 214 1 = some (1, 3, true) := by kernel_rfl
theorem sz215 : szOf Tryz.prog 215 = some 4 := by kernel_rfl
theorem ag215 : aggOf Tryz.prog 215 = some true := by kernel_rfl
theorem zo215 : zOf Tryz.prog 215 = some (Go.Value.agg #[Go.Value.slice none 0 0, Go.Value.bool false, Go.Value.slice none 0 0, Go.Value.slice none 0 0]) := by kernel_rfl
theorem st215 : stOk Tryz.prog 215 = true := by kernel_rfl
theorem pl215_0 : plOf Tryz.prog 215 0 = some (0, 1) := by kernel_rfl
theorem fd215_0 : fdOf Tryz.prog 215 0 = some (0, 37) := by kernel_rfl
theorem pt215_0 : ptOf Tryz.prog 215 0 = some (0, 1, false) := by kernel_rfl
theorem pl215_1 : plOf Tryz.prog 215 1 = some (1, 3) := by kernel_rfl
theorem fd215_1 : fdOf Tryz.prog 215 1 = some (1, 24) := by kernel_rfl
theorem pt215_1 : ptOf Tryz.prog 215 1 = some (1, 3, true) := by kernel_rfl
theorem sz216 : szOf Tryz.prog 216 = some 1 := by kernel_rfl
theorem ag216 : aggOf Tryz.prog 216 = some false := by kernel_rfl
theorem zo216 : zOf Tryz.prog 216 = some Go.Value.nilFunc := by kernel_rfl
theorem sz217 : szOf Tryz.prog 217 = some 1 := by kernel_rfl
theorem ag217 : aggOf Tryz.prog 217 = some false := by kernel_rfl
theorem zo217 : zOf Tryz.prog 217 = some Go.Value.nilFunc := by kernel_rfl
theorem sz218 : szOf Tryz.prog 218 = some 1 := by kernel_rfl
theorem ag218 : aggOf Tryz.prog 218 = some false := by kernel_rfl
theorem zo218 : zOf Tryz.prog 218 = some Go.Value.nilFunc := by kernel_rfl
theorem sz219 : szOf Tryz.prog 219 = some 1 := by kernel_rfl
theorem ag219 : aggOf Tryz.prog 219 = some false := by kernel_rfl
theorem zo219 : zOf Tryz.prog 219 = some Go.Value.nilFunc := by kernel_rfl
theorem sz220 : szOf Tryz.prog 220 = some 1 := by kernel_rfl
theorem ag220 : aggOf Tryz.prog 220 = some false := by kernel_rfl
theorem zo220 : zOf Tryz.prog 220 = some Go.Value.nilFunc := by kernel_rfl
theorem sz221 : szOf Tryz.prog 221 = some 1 := by kernel_rfl
theorem ag221 : aggOf Tryz.prog 221 = some false := by kernel_rfl
theorem zo221 : zOf Tryz.prog 221 = some Go.Value.nilFunc := by kernel_rfl
theorem sz222 : szOf Tryz.prog 222 = some 1 := by kernel_rfl
theorem ag222 : aggOf Tryz.prog 222 = some false := by kernel_rfl
theorem zo222 : zOf Tryz.prog 222 = some Go.Value.nilFunc := by kernel_rfl
theorem sz223 : szOf Tryz.prog 223 = some 1 := by kernel_rfl
theorem ag223 : aggOf Tryz.prog 223 = some false := by kernel_rfl
theorem zo223 : zOf Tryz.prog 223 = some Go.Value.nilFunc := by kernel_rfl
theorem sz224 : szOf Tryz.prog 224 = some 1 := by kernel_rfl
theorem ag224 : aggOf Tryz.prog 224 = some false := by kernel_rfl
theorem zo224 : zOf Tryz.prog 224 = some Go.Value.nilFunc := by kernel_rfl
theorem sz225 : szOf Tryz.prog 225 = some 1 := by kernel_rfl
theorem ag225 : aggOf Tryz.prog 225 = some false := by kernel_rfl
theorem zo225 : zOf Tryz.prog 225 = some Go.Value.nilFunc := by kernel_rfl
theorem sz226 : szOf Tryz.prog 226 = some 1 := by kernel_rfl
theorem ag226 : aggOf Tryz.prog 226 = some false := by kernel_rfl
theorem zo226 : zOf Tryz.prog 226 = some Go.Value.nilFunc := by kernel_rfl
theorem sz228 : szOf Tryz.prog 228 = some 1 := by kernel_rfl
theorem ag228 : aggOf Tryz.prog 228 = some false := by kernel_rfl
theorem zo228 : zOf Tryz.prog 228 = some Go.Value.nilFunc := by kernel_rfl
theorem sz229 : szOf Tryz.prog 229 = some 1 := by kernel_rfl
theorem ag229 : aggOf Tryz.prog 229 = some false := by kernel_rfl
theorem zo229 : zOf Tryz.prog 229 = some Go.Value.nilFunc := by kernel_rfl
theorem sz230 : szOf Tryz.prog 230 = some 1 := by kernel_rfl
theorem ag230 : aggOf Tryz.prog 230 = some false := by kernel_rfl
theorem zo230 : zOf Tryz.prog 230 = some Go.Value.nilFunc := by kernel_rfl
theorem sz231 : szOf Tryz.prog 231 = some 1 := by kernel_rfl
theorem ag231 : aggOf Tryz.prog 231 = some false := by kernel_rfl
theorem zo231 : zOf Tryz.prog 231 = some Go.Value.nilFunc := by kernel_rfl
theorem sz232 : szOf Tryz.prog 232 = some 1 := by kernel_rfl
theorem ag232 : aggOf Tryz.prog 232 = some false := by kernel_rfl
theorem zo232 : zOf Tryz.prog 232 = some Go.Value.nilFunc := by kernel_rfl
theorem sz233 : szOf Tryz.prog 233 = some 1 := by kernel_rfl
theorem ag233 : aggOf Tryz.prog 233 = some false := by kernel_rfl
theorem zo233 : zOf Tryz.prog 233 = some Go.Value.nilFunc := by kernel_rfl
theorem sz234 : szOf Tryz.prog 234 = some 1 := by kernel_rfl
theorem ag234 : aggOf Tryz.prog 234 = some false := by kernel_rfl
theorem zo234 : zOf Tryz.prog 234 = some Go.Value.nilFunc := by kernel_rfl
theorem sz235 : szOf Tryz.prog 235 = some 1 := by kernel_rfl
theorem ag235 : aggOf Tryz.prog 235 = some false := by kernel_rfl
theorem zo235 : zOf Tryz.prog 235 = some Go.Value.nilFunc := by kernel_rfl
theorem sz236 : szOf Tryz.prog 236 = some 1 := by kernel_rfl
theorem ag236 : aggOf Tryz.prog 236 = some false := by kernel_rfl
theorem zo236 : zOf Tryz.prog 236 = some Go.Value.nilFunc := by kernel_rfl
theorem sz237 : szOf Tryz.prog 237 = some 1 := by kernel_rfl
theorem ag237 : aggOf Tryz.prog 237 = some false := by kernel_rfl
theorem zo237 : zOf Tryz.prog 237 = some Go.Value.nilFunc := by kernel_rfl
theorem sz238 : szOf Tryz.prog 238 = some 1 := by kernel_rfl
theorem ag238 : aggOf Tryz.prog 238 = some false := by kernel_rfl
theorem zo238 : zOf Tryz.prog 238 = some Go.Value.nilFunc := by kernel_rfl
theorem sz240 : szOf Tryz.prog 240 = some 1 := by kernel_rfl
theorem ag240 : aggOf Tryz.prog 240 = some false := by kernel_rfl
theorem zo240 : zOf Tryz.prog 240 = some Go.Value.nilFunc := by kernel_rfl
theorem sz241 : szOf Tryz.prog 241 = some 1 := by kernel_rfl
theorem ag241 : aggOf Tryz.prog 241 = some false := by kernel_rfl
theorem zo241 : zOf Tryz.prog 241 = some Go.Value.nilFunc := by kernel_rfl
theorem sz242 : szOf Tryz.prog 242 = some 1 := by kernel_rfl
theorem ag242 : aggOf Tryz.prog 242 = some false := by kernel_rfl
theorem zo242 : zOf Tryz.prog 242 = some Go.Value.nilFunc := by kernel_rfl
theorem sz243 : szOf Tryz.prog 243 = some 1 := by kernel_rfl
theorem ag243 : aggOf Tryz.prog 243 = some false := by kernel_rfl
theorem zo243 : zOf Tryz.prog 243 = some Go.Value.nilFunc := by kernel_rfl
theorem sz244 : szOf Tryz.prog 244 = some 1 := by kernel_rfl
theorem ag244 : aggOf Tryz.prog 244 = some false := by kernel_rfl
theorem zo244 : zOf Tryz.prog 244 = some Go.Value.nilFunc := by kernel_rfl
theorem sz246 : szOf Tryz.prog 246 = some 1 := by kernel_rfl
theorem ag246 : aggOf Tryz.prog 246 = some false := by kernel_rfl
theorem zo246 : zOf Tryz.prog 246 = some Go.Value.nilFunc := by kernel_rfl
theorem sz247 : szOf Tryz.prog 247 = some 1 := by kernel_rfl
theorem ag247 : aggOf Tryz.prog 247 = some false := by kernel_rfl
theorem zo247 : zOf Tryz.prog 247 = some Go.Value.nilFunc := by kernel_rfl
theorem sz249 : szOf Tryz.prog 249 = some 1 := by kernel_rfl
theorem ag249 : aggOf Tryz.prog 249 = some false := by kernel_rfl
theorem zo249 : zOf Tryz.prog 249 = some Go.Value.nilFunc := by kernel_rfl
theorem sz251 : szOf Tryz.prog 251 = some 1 := by kernel_rfl
theorem ag251 : aggOf Tryz.prog 251 = some false := by kernel_rfl
theorem zo251 : zOf Tryz.prog 251 = some Go.Value.nilFunc := by kernel_rfl
theorem sz253 : szOf Tryz.prog 253 = some 1 := by kernel_rfl
theorem ag253 : aggOf Tryz.prog 253 = some false := by kernel_rfl
theorem zo253 : zOf Tryz.prog 253 = some Go.Value.nilFunc := by kernel_rfl
theorem sz254 : szOf Tryz.prog 254 = some 1 := by kernel_rfl
theorem ag254 : aggOf Tryz.prog 254 = some false := by kernel_rfl
theorem zo254 : zOf Tryz.prog 254 = some Go.Value.nilFunc := by kernel_rfl
theorem sz255 : szOf Tryz.prog 255 = some 1 := by kernel_rfl
theorem ag255 : aggOf Tryz.prog 255 = some false := by kernel_rfl
theorem zo255 : zOf Tryz.prog 255 = some Go.Value.nilFunc := by kernel_rfl
theorem sz256 : szOf Tryz.prog 256 = some 1 := by kernel_rfl
theorem ag256 : aggOf Tryz.prog 256 = some false := by kernel_rfl
theorem zo256 : zOf Tryz.prog 256 = some Go.Value.nilFunc := by kernel_rfl
theorem sz257 : szOf Tryz.prog 257 = some 5 := by kernel_rfl
theorem ag257 : aggOf Tryz.prog 257 = some true := by kernel_rfl
theorem zo257 : zOf Tryz.prog 257 = some (Go.Value.agg #[Go.Value.slice none 0 0, Go.Value.slice none 0 0, Go.Value.slice none 0 0, Go.Value.slice none 0 0, Go.Value.bool false]) := by kernel_rfl
theorem st257 : stOk Tryz.prog 257 = true := by kernel_rfl
theorem pl257_0 : plOf Tryz.prog 257 0 = some (0, 1) := by kernel_rfl
theorem fd257_0 : fdOf Tryz.prog 257 0 = some (0, 40) := by kernel_rfl
theorem pt257_0 : ptOf Tryz.prog 257 0 = some (0, 1, false) := by kernel_rfl
theorem pl257_1 : plOf Tryz.prog 257 1 = some (1, 1) := by kernel_rfl
theorem fd257_1 : fdOf Tryz.prog 257 1 = some (1, 186) := by kernel_rfl
theorem pt257_1 : ptOf Tryz.prog 257 1 = some (1, 1, false) := by kernel_rfl
theorem pl257_2 : plOf Tryz.prog 257 2 = some (2, 1) := by kernel_rfl
theorem fd257_2 : fdOf Tryz.prog 257 2 = some (2, 186) := by kernel_rfl
theorem pt257_2 : ptOf Tryz.prog 257 2 = some (2, 1, false) := by kernel_rfl
theorem pl257_3 : plOf Tryz.prog 257 3 = some (3, 1) := by kernel_rfl
theorem fd257_3 : fdOf Tryz.prog 257 3 = some (3, 186) := by kernel_rfl
theorem pt257_3 : ptOf Tryz.prog 257 3 = some (3, 1, false) := by kernel_rfl
theorem pl257_4 : plOf Tryz.prog 257 4 = some (4, 1) := by kernel_rfl
theorem fd257_4 : fdOf Tryz.prog 257 4 = some (4, 4) := by kernel_rfl
theorem pt257_4 : ptOf Tryz.prog 257 4 = some (4, 1, false) := by kernel_rfl
theorem sz258 : szOf Tryz.prog 258 = some 5 := by kernel_rfl
theorem ag258 : aggOf Tryz.prog 258 = some true := by kernel_rfl
theorem zo258 : zOf Tryz.prog 258 = some (Go.Value.agg #[Go.Value.slice none 0 0, Go.Value.slice none 0 0, Go.Value.slice none 0 0, Go.Value.slice none 0 0, Go.Value.bool false]) := by kernel_rfl
theorem st258 : stOk Tryz.prog 258 = true := by kernel_rfl
theorem pl258_0 : plOf Tryz.prog 258 0 = some (0, 1) := by kernel_rfl
theorem fd258_0 : fdOf Tryz.prog 258 0 = some (0, 40) := by kernel_rfl
theorem pt258_0 : ptOf Tryz.prog 258 0 = some (0, 1, false) := by kernel_rfl
theorem pl258_1 : plOf Tryz.prog 258 1 = some (1, 1) := by kernel_rfl
theorem fd258_1 : fdOf Tryz.prog 258 1 = some (1, 186) := by kernel_rfl
theorem pt258_1 : ptOf Tryz.prog 258 1 = some (1, 1, false) := by kernel_rfl
theorem pl258_2 : plOf Tryz.prog 258 2 = some (2, 1) := by kernel_rfl
theorem fd258_2 : fdOf Tryz.prog 258 2 = some (2, 186) := by kernel_rfl
theorem pt258_2 : ptOf Tryz.prog 258 2 = some (2, 1, false) := by kernel_rfl
theorem pl258_3 : plOf Tryz.prog 258 3 = some (3, 1) := by kernel_rfl
theorem fd258_3 : fdOf Tryz.prog 258 3 = some (3, 186) := by kernel_rfl
theorem pt258_3 : ptOf Tryz.prog 258 3 = some (3, 1, false) := by kernel_rfl
theorem pl258_4 : plOf Tryz.prog 258 4 = some (4, 1) := by kernel_rfl
theorem fd258_4 : fdOf Tryz.prog 258 4 = some (4, 4) := by kernel_rfl
theorem pt258_4 : ptOf Tryz.prog 258 4 = some (4, 1, false) := by kernel_rfl
theorem sz260 : szOf Tryz.prog 260 = some 1 := by kernel_rfl
theorem ag260 : aggOf Tryz.prog 260 = some false := by kernel_rfl
theorem zo260 : zOf Tryz.prog 260 = some Go.Value.nilFunc := by kernel_rfl
theorem sz261 : szOf Tryz.prog 261 = some 1 := by kernel_rfl
theorem ag261 : aggOf Tryz.prog 261 = some false := by kernel_rfl
theorem zo261 : zOf Tryz.prog 261 = some Go.Value.nilFunc := by kernel_rfl
theorem sz262 : szOf Tryz.prog 262 = some 1 := by kernel_rfl
theorem ag262 : aggOf Tryz.prog 262 = some false := by kernel_rfl
theorem zo262 : zOf Tryz.prog 262 = some Go.Value.nilFunc := by kernel_rfl
theorem sz263 : szOf Tryz.prog 263 = some 1 := by kernel_rfl
theorem ag263 : aggOf Tryz.prog 263 = some false := by kernel_rfl
theorem zo263 : zOf Tryz.prog 263 = some Go.Value.nilFunc := by kernel_rfl
theorem sz264 : szOf Tryz.prog 264 = some 1 := by kernel_rfl
theorem ag264 : aggOf Tryz.prog 264 = some false := by kernel_rfl
theorem zo264 : zOf Tryz.prog 264 = some Go.Value.nilFunc := by kernel_rfl
theorem sz265 : szOf Tryz.prog 265 = some 1 := by kernel_rfl
theorem ag265 : aggOf Tryz.prog 265 = some false := by kernel_rfl
theorem zo265 : zOf Tryz.prog 265 = some Go.Value.nilFunc := by kernel_rfl
theorem sz266 : szOf Tryz.prog 266 = some 24 := by kernel_rfl
theorem ag266 : aggOf Tryz.prog 266 = some true := by kernel_rfl
theorem zo266 : zOf Tryz.prog 266 = some (Go.Value.agg #[Go.Value.int Go.IntKind.u8 0, Go.Value.int Go.IntKind.u8 0, Go.Value.int Go.IntKind.u8 0, Go.Value.int Go.IntKind.u8 0, Go.Value.int Go.IntKind.u8 0, Go.Value.int Go.IntKind.u8 0, Go.Value.int Go.IntKind.u8 0, Go.Value.int Go.IntKind.u8 0, Go.Value.int Go.IntKind.u8 0, Go.Value.int Go.IntKind.u8 0, Go.Value.int Go.IntKind.u8 0, Go.Value.int Go.IntKind.u8 0, Go.Value.int Go.IntKind.u8 0, Go.Value.int Go.IntKind.u8 0, Go.Value.int Go.IntKind.u8 0, Go.Value.int Go.IntKind.u8 0, Go.Value.int Go.IntKind.u8 0, Go.Value.int Go.IntKind.u8 0, Go.Value.int Go.IntKind.u8 0, Go.Value.int Go.IntKind.u8 0, Go.Value.int Go.IntKind.u8 0, Go.Value.int Go.IntKind.u8 0, Go.Value.int Go.IntKind.u8 0, Go.Value.int Go.IntKind.u8 0]) := by kernel_rfl
theorem sz267 : szOf Tryz.prog 267 = some 1 := by kernel_rfl
theorem ag267 : aggOf Tryz.prog 267 = some false := by kernel_rfl
theorem zo267 : zOf Tryz.prog 267 = some (Go.Value.int Go.IntKind.u64 0) := by kernel_rfl
theorem sz268 : szOf Tryz.prog 268 = some 1 := by kernel_rfl
theorem ag268 : aggOf Tryz.prog 268 = some false := by kernel_rfl
theorem zo268 : zOf Tryz.prog 268 = some Go.Value.nilFunc := by kernel_rfl
theorem sz269 : szOf Tryz.prog 269 = some 1 := by kernel_rfl
theorem ag269 : aggOf Tryz.prog 269 = some false := by kernel_rfl
theorem zo269 : zOf Tryz.prog 269 = some Go.Value.nilFunc := by kernel_rfl
theorem sz271 : szOf Tryz.prog 271 = some 1 := by kernel_rfl
theorem ag271 : aggOf Tryz.prog 271 = some false := by kernel_rfl
theorem zo271 : zOf Tryz.prog 271 = some Go.Value.nilFunc := by kernel_rfl
theorem sz272 : szOf Tryz.prog 272 = some 1 := by kernel_rfl
theorem ag272 : aggOf Tryz.prog 272 = some false := by kernel_rfl
theorem zo272 : zOf Tryz.prog 272 = some Go.Value.nilFunc := by kernel_rfl
theorem sz273 : szOf Tryz.prog 273 = some 1 := by kernel_rfl
theorem ag273 : aggOf Tryz.prog 273 = some false := by kernel_rfl
theorem zo273 : zOf Tryz.prog 273 = some (Go.Value.slice none 0 0) := by kernel_rfl
theorem sq273 : seqT Tryz.prog 273 = true := by kernel_rfl
theorem el273 : elOf Tryz.prog 273 = some 267 := by kernel_rfl
theorem es273 : esOf Tryz.prog 273 = some 1 := by kernel_rfl
theorem et273 : elT Tryz.prog 273 = some (1, 8, [V.d (D.val (Go.Value.int Go.IntKind.u64 0))]) := by kernel_rfl
theorem sz274 : szOf Tryz.prog 274 = some 1 := by kernel_rfl
theorem ag274 : aggOf Tryz.prog 274 = some false := by kernel_rfl
theorem zo274 : zOf Tryz.prog 274 = some Go.Value.nilFunc := by kernel_rfl
theorem sz276 : szOf Tryz.prog 276 = some 1 := by kernel_rfl
theorem ag276 : aggOf Tryz.prog 276 = some false := by kernel_rfl
theorem zo276 : zOf Tryz.prog 276 = some Go.Value.nilFunc := by kernel_rfl
theorem sz278 : szOf Tryz.prog 278 = some 1 := by kernel_rfl
theorem ag278 : aggOf Tryz.prog 278 = some false := by kernel_rfl
theorem zo278 : zOf Tryz.prog 278 = some Go.Value.nilFunc := by kernel_rfl
theorem sz279 : szOf Tryz.prog 279 = some 1 := by kernel_rfl
theorem ag279 : aggOf Tryz.prog 279 = some false := by kernel_rfl
theorem zo279 : zOf Tryz.prog 279 = some Go.Value.nilFunc := by kernel_rfl
theorem sz280 : szOf Tryz.prog 280 = some 1 := by kernel_rfl
theorem ag280 : aggOf Tryz.prog 280 = some false := by kernel_rfl
theorem zo280 : zOf Tryz.prog 280 = some (Go.Value.pointer none) := by kernel_rfl
theorem sz281 : szOf Tryz.prog 281 = some 1 := by kernel_rfl
theorem ag281 : aggOf Tryz.prog 281 = some false := by kernel_rfl
theorem zo281 : zOf Tryz.prog 281 = some Go.Value.nilFunc := by kernel_rfl
theorem sz282 : szOf Tryz.prog 282 = some 1 := by kernel_rfl
theorem ag282 : aggOf Tryz.prog 282 = some false := by kernel_rfl
theorem zo282 : zOf Tryz.prog 282 = some Go.Value.nilFunc := by kernel_rfl
theorem sz283 : szOf Tryz.prog 283 = some 1 := by kernel_rfl
theorem ag283 : aggOf Tryz.prog 283 = some false := by kernel_rfl
theorem zo283 : zOf Tryz.prog 283 = some Go.Value.nilFunc := by kernel_rfl
theorem sz285 : szOf Tryz.prog 285 = some 1 := by kernel_rfl
theorem ag285 : aggOf Tryz.prog 285 = some false := by kernel_rfl
theorem zo285 : zOf Tryz.prog 285 = some Go.Value.nilFunc := by kernel_rfl
theorem sz286 : szOf Tryz.prog 286 = some 1 := by kernel_rfl
theorem ag286 : aggOf Tryz.prog 286 = some false := by kernel_rfl
theorem zo286 : zOf Tryz.prog 286 = some Go.Value.nilFunc := by kernel_rfl
theorem sz287 : szOf Tryz.prog 287 = some 1 := by kernel_rfl
theorem ag287 : aggOf Tryz.prog 287 = some false := by kernel_rfl
theorem zo287 : zOf Tryz.prog 287 = some Go.Value.nilFunc := by kernel_rfl
theorem sz289 : szOf Tryz.prog 289 = some 1 := by kernel_rfl
theorem ag289 : aggOf Tryz.prog 289 = some false := by kernel_rfl
theorem zo289 : zOf Tryz.prog 289 = some Go.Value.nilFunc := by kernel_rfl
theorem sz291 : szOf Tryz.prog 291 = some 1 := by kernel_rfl
theorem ag291 : aggOf Tryz.prog 291 = some false := by kernel_rfl
theorem zo291 : zOf Tryz.prog 291 = some Go.Value.nilFunc := by kernel_rfl
theorem sz293 : szOf Tryz.prog 293 = some 1 := by kernel_rfl
theorem ag293 : aggOf Tryz.prog 293 = some false := by kernel_rfl
theorem zo293 : zOf Tryz.prog 293 = some Go.Value.nilFunc := by kernel_rfl
theorem sz294 : szOf Tryz.prog 294 = some 2 := by kernel_rfl
theorem ag294 : aggOf Tryz.prog 294 = some true := by kernel_rfl
theorem zo294 : zOf Tryz.prog 294 = some (Go.Value.agg #[Go.Value.int Go.IntKind.i64 0, Go.Value.int Go.IntKind.i64 0]) := by kernel_rfl
theorem st294 : stOk Tryz.prog 294 = true := by kernel_rfl
theorem pl294_0 : plOf Tryz.prog 294 0 = some (0, 1) := by kernel_rfl
theorem fd294_0 : fdOf Tryz.prog 294 0 = some (0, 3) := by kernel_rfl
theorem pt294_0 : ptOf Tryz.prog 294 0 = some (0, 1, false) := by kernel_rfl
theorem pl294_1 : plOf Tryz.prog 294 1 = some (1, 1) := by kernel_rfl
theorem fd294_1 : fdOf Tryz.prog 294 1 = some (1, 30) := by kernel_rfl
theorem pt294_1 : ptOf Tryz.prog 294 1 = some (1, 1, false) := by kernel_rfl
theorem sz295 : szOf Tryz.prog 295 = some 2 := by kernel_rfl
theorem ag295 : aggOf Tryz.prog 295 = some true := by kernel_rfl
theorem zo295 : zOf Tryz.prog 295 = some (Go.Value.agg #[Go.Value.int Go.IntKind.i64 0, Go.Value.int Go.IntKind.i64 0]) := by kernel_rfl
theorem st295 : stOk Tryz.prog 295 = true := by kernel_rfl
theorem pl295_0 : plOf Tryz.prog 295 0 = some (0, 1) := by kernel_rfl
theorem fd295_0 : fdOf Tryz.prog 295 0 = some (0, 3) := by kernel_rfl
theorem pt295_0 : ptOf Tryz.prog 295 0 = some (0, 1, false) := by kernel_rfl
theorem pl295_1 : plOf Tryz.prog 295 1 = some (1, 1) := by kernel_rfl
theorem fd295_1 : fdOf Tryz.prog 295 1 = some (1, 30) := by kernel_rfl
theorem pt295_1 : ptOf Tryz.prog 295 1 = some (1, 1, false) := by kernel_rfl
theorem sz297 : szOf Tryz.prog 297 = some 1 := by kernel_rfl
theorem ag297 : aggOf Tryz.prog 297 = some false := by kernel_rfl
theorem zo297 : zOf Tryz.prog 297 = some (Go.Value.pointer none) := by kernel_rfl
theorem sz298 : szOf Tryz.prog 298 = some 3 := by kernel_rfl
theorem ag298 : aggOf Tryz.prog 298 = some true := by kernel_rfl
theorem zo298 : zOf Tryz.prog 298 = some (Go.Value.agg #[Go.Value.string { data := #[] }, Go.Value.int Go.IntKind.i64 0, Go.Value.int Go.IntKind.i64 0]) := by kernel_rfl
theorem st298 : stOk Tryz.prog 298 = true := by kernel_rfl
theorem pl298_0 : plOf Tryz.prog 298 0 = some (0, 1) := by kernel_rfl
theorem fd298_0 : fdOf Tryz.prog 298 0 = some (0, 9) := by kernel_rfl
theorem pt298_0 : ptOf Tryz.prog 298 0 = some (0, 1, false) := by kernel_rfl
theorem pl298_1 : plOf Tryz.prog 298 1 = some (1, 1) := by kernel_rfl
theorem fd298_1 : fdOf Tryz.prog 298 1 = some (1, 3) := by kernel_rfl
theorem pt298_1 : ptOf Tryz.prog 298 1 = some (1, 1, false) := by kernel_rfl
theorem pl298_2 : plOf Tryz.prog 298 2 = some (2, 1) := by kernel_rfl
theorem fd298_2 : fdOf Tryz.prog 298 2 = some (2, 3) := by kernel_rfl
theorem pt298_2 : ptOf Tryz.prog 298 2 = some (2, 1, false) := by kernel_rfl
theorem sz299 : szOf Tryz.prog 299 = some 3 := by kernel_rfl
theorem ag299 : aggOf Tryz.prog 299 = some true := by kernel_rfl
theorem zo299 : zOf Tryz.prog 299 = some (Go.Value.agg #[Go.Value.string { data := #[] }, Go.Value.int Go.IntKind.i64 0, Go.Value.int Go.IntKind.i64 0]) := by kernel_rfl
theorem st299 : stOk Tryz.prog 299 = true := by kernel_rfl
theorem pl299_0 : plOf Tryz.prog 299 0 = some (0, 1) := by kernel_rfl
theorem fd299_0 : fdOf Tryz.prog 299 0 = some (0, 9) := by kernel_rfl
theorem pt299_0 : ptOf Tryz.prog 299 0 = some (0, 1, false) := by kernel_rfl
theorem pl299_1 : plOf Tryz.prog 299 1 = some (1, 1) := by kernel_rfl
theorem fd299_1 : fdOf Tryz.prog 299 1 = some (1, 3) := by kernel_rfl
theorem pt299_1 : ptOf Tryz.prog 299 1 = some (1, 1, false) := by kernel_rfl
theorem pl299_2 : plOf Tryz.prog 299 2 = some (2, 1) := by kernel_rfl
theorem fd299_2 : fdOf Tryz.prog 299 2 = some (2, 3) := by kernel_rfl
theorem pt299_2 : ptOf Tryz.prog 299 2 = some (2, 1, false) := by kernel_rfl
theorem sz300 : szOf Tryz.prog 300 = some 1 := by kernel_rfl
theorem ag300 : aggOf Tryz.prog 300 = some false := by kernel_rfl
theorem zo300 : zOf Tryz.prog 300 = some Go.Value.nilFunc := by kernel_rfl
theorem sz301 : szOf Tryz.prog 301 = some 1 := by kernel_rfl
theorem ag301 : aggOf Tryz.prog 301 = some false := by kernel_rfl
theorem zo301 : zOf Tryz.prog 301 = some Go.Value.nilFunc := by kernel_rfl
theorem sz302 : szOf Tryz.prog 302 = some 1 := by kernel_rfl
theorem ag302 : aggOf Tryz.prog 302 = some false := by kernel_rfl
theorem zo302 : zOf Tryz.prog 302 = some Go.Value.nilFunc := by kernel_rfl
theorem sz303 : szOf Tryz.prog 303 = some 1 := by kernel_rfl
theorem ag303 : aggOf Tryz.prog 303 = some false := by kernel_rfl
theorem zo303 : zOf Tryz.prog 303 = some Go.Value.nilFunc := by kernel_rfl
theorem sz304 : szOf Tryz.prog 304 = some 1 := by kernel_rfl
theorem ag304 : aggOf Tryz.prog 304 = some false := by kernel_rfl
theorem zo304 : zOf Tryz.prog 304 = some Go.Value.nilFunc := by kernel_rfl
theorem sz305 : szOf Tryz.prog 305 = some 1 := by kernel_rfl
theorem ag305 : aggOf Tryz.prog 305 = some false := by kernel_rfl
theorem zo305 : zOf Tryz.prog 305 = some Go.Value.nilFunc := by kernel_rfl
theorem sz306 : szOf Tryz.prog 306 = some 1 := by kernel_rfl
theorem ag306 : aggOf Tryz.prog 306 = some false := by kernel_rfl
theorem zo306 : zOf Tryz.prog 306 = some (Go.Value.pointer none) := by kernel_rfl
theorem sz307 : szOf Tryz.prog 307 = some 2 := by kernel_rfl
theorem ag307 : aggOf Tryz.prog 307 = some true := by kernel_rfl
theorem zo307 : zOf Tryz.prog 307 = some (Go.Value.agg #[Go.Value.slice none 0 0, Go.Value.int Go.IntKind.i64 0]) := by kernel_rfl
theorem st307 : stOk Tryz.prog 307 = true := by kernel_rfl
theorem pl307_0 : plOf Tryz.prog 307 0 = some (0, 1) := by kernel_rfl
theorem fd307_0 : fdOf Tryz.prog 307 0 = some (0, 38) := by kernel_rfl
theorem pt307_0 : ptOf Tryz.prog 307 0 = some (0, 1, false) := by kernel_rfl
theorem pl307_1 : plOf Tryz.prog 307 1 = some (1, 1) := by kernel_rfl
theorem fd307_1 : fdOf Tryz.prog 307 1 = some (1, 30) := by kernel_rfl
theorem pt307_1 : ptOf Tryz.prog 307 1 = some (1, 1, false) := by kernel_rfl
theorem sz308 : szOf Tryz.prog 308 = some 2 := by kernel_rfl
theorem ag308 : aggOf Tryz.prog 308 = some true := by kernel_rfl
theorem zo308 : zOf Tryz.prog 308 = some (Go.Value.agg #[Go.Value.slice none 0 0, Go.Value.int Go.IntKind.i64 0]) := by kernel_rfl
theorem st308 : stOk Tryz.prog 308 = true := by kernel_rfl
theorem pl308_0 : plOf Tryz.prog 308 0 = some (0, 1) := by kernel_rfl
theorem fd308_0 : fdOf Tryz.prog 308 0 = some (0, 38) := by kernel_rfl
theorem pt308_0 : ptOf Tryz.prog 308 0 = some (0, 1, false) := by kernel_rfl
theorem pl308_1 : plOf Tryz.prog 308 1 = some (1, 1) := by kernel_rfl
theorem fd308_1 : fdOf Tryz.prog 308 1 = some (1, 30) := by kernel_rfl
theorem pt308_1 : ptOf Tryz.prog 308 1 = some (1, 1, false) := by kernel_rfl
theorem sz309 : szOf Tryz.prog 309 = some 1 := by kernel_rfl
theorem ag309 : aggOf Tryz.prog 309 = some false := by kernel_rfl
theorem zo309 : zOf Tryz.prog 309 = some Go.Value.nilFunc := by kernel_rfl
theorem sz310 : szOf Tryz.prog 310 = some 1 := by kernel_rfl
theorem ag310 : aggOf Tryz.prog 310 = some false := by kernel_rfl
theorem zo310 : zOf Tryz.prog 310 = some Go.Value.nilFunc := by kernel_rfl
theorem sz311 : szOf Tryz.prog 311 = some 1 := by kernel_rfl
theorem ag311 : aggOf Tryz.prog 311 = some false := by kernel_rfl
theorem zo311 : zOf Tryz.prog 311 = some Go.Value.nilFunc := by kernel_rfl
theorem sz312 : szOf Tryz.prog 312 = some 1 := by kernel_rfl
theorem ag312 : aggOf Tryz.prog 312 = some false := by kernel_rfl
theorem zo312 : zOf Tryz.prog 312 = some Go.Value.nilFunc := by kernel_rfl
theorem sz313 : szOf Tryz.prog 313 = some 1 := by kernel_rfl
theorem ag313 : aggOf Tryz.prog 313 = some false := by kernel_rfl
theorem zo313 : zOf Tryz.prog 313 = some Go.Value.nilFunc := by kernel_rfl
theorem sz314 : szOf Tryz.prog 314 = some 1 := by kernel_rfl
theorem ag314 : aggOf Tryz.prog 314 = some false := by kernel_rfl
theorem zo314 : zOf Tryz.prog 314 = some Go.Value.nilFunc := by kernel_rfl
theorem sz315 : szOf Tryz.prog 315 = some 1 := by kernel_rfl
theorem ag315 : aggOf Tryz.prog 315 = some false := by kernel_rfl
theorem zo315 : zOf Tryz.prog 315 = some Go.Value.nilFunc := by kernel_rfl
theorem sz316 : szOf Tryz.prog 316 = some 1 := by kernel_rfl
theorem ag316 : aggOf Tryz.prog 316 = some false := by kernel_rfl
theorem zo316 : zOf Tryz.prog 316 = some Go.Value.nilFunc := by kernel_rfl
theorem sz317 : szOf Tryz.prog 317 = some 1 := by kernel_rfl
theorem ag317 : aggOf Tryz.prog 317 = some false := by kernel_rfl
theorem zo317 : zOf Tryz.prog 317 = some (Go.Value.slice none 0 0) := by kernel_rfl
theorem sq317 : seqT Tryz.prog 317 = true := by kernel_rfl
theorem el317 : elOf Tryz.prog 317 = some 412 := by kernel_rfl
theorem es317 : esOf Tryz.prog 317 = some 2 := by kernel_rfl
theorem et317 : elT Tryz.prog 317 = some (2, 32, [V.d (D.val (Go.Value.int Go.IntKind.i64 0)), V.d (D.val (Go.Value.slice none 0 0))]) := by kernel_rfl
theorem sz318 : szOf Tryz.prog 318 = some 7 := by kernel_rfl
theorem ag318 : aggOf Tryz.prog 318 = some true := by kernel_rfl
theorem zo318 : zOf Tryz.prog 318 = some (Go.Value.agg #[Go.Value.int Go.IntKind.i64 0, Go.Value.string { data := #[] }, Go.Value.bool false, Go.Value.slice none 0 0, Go.Value.slice none 0 0, Go.Value.slice none 0 0, Go.Value.slice none 0 0]) := by kernel_rfl
theorem st318 : stOk Tryz.prog 318 = true := by kernel_rfl
theorem pl318_0 : plOf Tryz.prog 318 0 = some (0, 6) := by kernel_rfl
theorem fd318_0 : fdOf Tryz.prog 318 0 = some (0, 27) := by kernel_rfl
theorem pt318_0 : ptOf Tryz.prog 318 0 = some (0, 6, true) := by kernel_rfl
theorem pl318_1 : plOf Tryz.prog 318 1 = some (6, 1) := by kernel_rfl
theorem fd318_1 : fdOf Tryz.prog 318 1 = some (6, 317) := by kernel_rfl
theorem pt318_1 : ptOf Tryz.prog 318 1 = some (6, 1, false) := by kernel_rfl
theorem sz319 : szOf Tryz.prog 319 = some 7 := by kernel_rfl
theorem ag319 : aggOf Tryz.prog 319 = some true := by kernel_rfl
theorem zo319 : zOf Tryz.prog 319 = some (Go.Value.agg #[Go.Value.int Go.IntKind.i64 0, Go.Value.string { data := #[] }, Go.Value.bool false, Go.Value.slice none 0 0, Go.Value.slice none 0 0, Go.Value.slice none 0 0, Go.Value.slice none 0 0]) := by kernel_rfl
theorem st319 : stOk Tryz.prog 319 = true := by kernel_rfl
theorem pl319_0 : plOf Tryz.prog 319 0 = some (0, 6) := by kernel_rfl
theorem fd319_0 : fdOf Tryz.prog 319 0 = some (0, 27) := by kernel_rfl
theorem pt319_0 : ptOf Tryz.prog 319 0 = some (0, 6, true) := by kernel_rfl
theorem pl319_1 : plOf Tryz.prog 319 1 = some (6, 1) := by kernel_rfl
theorem fd319_1 : fdOf Tryz.prog 319 1 = some (6, 317) := by kernel_rfl
theorem pt319_1 : ptOf Tryz.prog 319 1 = some (6, 1, false) := by kernel_rfl
theorem sz321 : szOf Tryz.prog 321 = some 1 := by kernel_rfl
theorem ag321 : aggOf Tryz.prog 321 = some false := by kernel_rfl
theorem zo321 : zOf Tryz.prog 321 = some Go.Value.nilFunc := by kernel_rfl
theorem sz322 : szOf Tryz.prog 322 = some 1 := by kernel_rfl
theorem ag322 : aggOf Tryz.prog 322 = some false := by kernel_rfl
theorem zo322 : zOf Tryz.prog 322 = some (Go.Value.slice none 0 0) := by kernel_rfl
theorem sq322 : seqT Tryz.prog 322 = true := by kernel_rfl
theorem el322 : elOf Tryz.prog 322 = some 193 := by kernel_rfl
theorem es322 : esOf Tryz.prog 322 = some 7 := by kernel_rfl
theorem et322 : elT Tryz.prog 322 = some (7, 136, [V.d (D.val (Go.Value.slice none 0 0)), V.d (D.val (Go.Value.bool false)), V.d (D.val (Go.Value.slice none 0 0)), V.d (D.val (Go.Value.slice none 0 0)), V.d (D.val (Go.Value.bool false)), V.d (D.val (Go.Value.slice none 0 0)), V.d (D.val (Go.Value.slice none 0 0))]) := by kernel_rfl
theorem sz323 : szOf Tryz.prog 323 = some 1 := by kernel_rfl
theorem ag323 : aggOf Tryz.prog 323 = some false := by kernel_rfl
theorem zo323 : zOf Tryz.prog 323 = some (Go.Value.slice none 0 0) := by kernel_rfl
theorem sq323 : seqT Tryz.prog 323 = true := by kernel_rfl
theorem el323 : elOf Tryz.prog 323 = some 4 := by kernel_rfl
theorem es323 : esOf Tryz.prog 323 = some 1 := by kernel_rfl
theorem et323 : elT Tryz.prog 323 = some (1, 1, [V.d (D.val (Go.Value.bool false))]) := by kernel_rfl
theorem sz325 : szOf Tryz.prog 325 = some 1 := by kernel_rfl
theorem ag325 : aggOf Tryz.prog 325 = some false := by kernel_rfl
theorem zo325 : zOf Tryz.prog 325 = some Go.Value.nilFunc := by kernel_rfl
theorem sz326 : szOf Tryz.prog 326 = some 1 := by kernel_rfl
theorem ag326 : aggOf Tryz.prog 326 = some false := by kernel_rfl
theorem zo326 : zOf Tryz.prog 326 = some Go.Value.nilFunc := by kernel_rfl
theorem sz328 : szOf Tryz.prog 328 = some 1 := by kernel_rfl
theorem ag328 : aggOf Tryz.prog 328 = some false := by kernel_rfl
theorem zo328 : zOf Tryz.prog 328 = some Go.Value.nilFunc := by kernel_rfl
theorem sz329 : szOf Tryz.prog 329 = some 1 := by kernel_rfl
theorem ag329 : aggOf Tryz.prog 329 = some false := by kernel_rfl
theorem zo329 : zOf Tryz.prog 329 = some Go.Value.nilFunc := by kernel_rfl
theorem sz330 : szOf Tryz.prog 330 = some 1 := by kernel_rfl
theorem ag330 : aggOf Tryz.prog 330 = some false := by kernel_rfl
theorem zo330 : zOf Tryz.prog 330 = some Go.Value.nilFunc := by kernel_rfl
theorem sz331 : szOf Tryz.prog 331 = some 1 := by kernel_rfl
theorem ag331 : aggOf Tryz.prog 331 = some false := by kernel_rfl
theorem zo331 : zOf Tryz.prog 331 = some Go.Value.nilFunc := by kernel_rfl
theorem sz332 : szOf Tryz.prog 332 = some 1 := by kernel_rfl
theorem ag332 : aggOf Tryz.prog 332 = some false := by kernel_rfl
theorem zo332 : zOf Tryz.prog 332 = some Go.Value.nilFunc := by kernel_rfl
theorem sz333 : szOf Tryz.prog 333 = some 1 := by kernel_rfl
theorem ag333 : aggOf Tryz.prog 333 = some false := by kernel_rfl
theorem zo333 : zOf Tryz.prog 333 = some (Go.Value.pointer none) := by kernel_rfl
theorem sz334 : szOf Tryz.prog 334 = some 2 := by kernel_rfl
theorem ag334 : aggOf Tryz.prog 334 = some true := by kernel_rfl
theorem zo334 : zOf Tryz.prog 334 = some (Go.Value.agg #[Go.Value.slice none 0 0, Go.Value.slice none 0 0]) := by kernel_rfl
theorem st334 : stOk Tryz.prog 334 = true := by kernel_rfl
theorem pl334_0 : plOf Tryz.prog 334 0 = some (0, 1) := by kernel_rfl
theorem fd334_0 : fdOf Tryz.prog 334 0 = some (0, 40) := by kernel_rfl
theorem pt334_0 : ptOf Tryz.prog 334 0 = some (0, 1, false) := by kernel_rfl
theorem pl334_1 : plOf Tryz.prog 334 1 = some (1, 1) := by kernel_rfl
theorem fd334_1 : fdOf Tryz.prog 334 1 = some (1, 186) := by kernel_rfl
theorem pt334_1 : ptOf Tryz.prog 334 1 = some (1, 1, false) := by kernel_rfl
theorem sz335 : szOf Tryz.prog 335 = some 2 := by kernel_rfl
theorem ag335 : aggOf Tryz.prog 335 = some true := by kernel_rfl
theorem zo335 : zOf Tryz.prog 335 = some (Go.Value.agg #[Go.Value.slice none 0 0, Go.Value.slice none 0 0]) := by kernel_rfl
theorem st335 : stOk Tryz.prog 335 = true := by kernel_rfl
theorem pl335_0 : plOf Tryz.prog 335 0 = some (0, 1) := by kernel_rfl
theorem fd335_0 : fdOf Tryz.prog 335 0 = some (0, 40) := by kernel_rfl
theorem pt335_0 : ptOf Tryz.prog 335 0 = some (0, 1, false) := by kernel_rfl
theorem pl335_1 : plOf Tryz.prog 335 1 = some (1, 1) := by kernel_rfl
theorem fd335_1 : fdOf Tryz.prog 335 1 = some (1, 186) := by kernel_rfl
theorem pt335_1 : ptOf Tryz.prog 335 1 = some (1, 1, false) := by kernel_rfl
theorem sz336 : szOf Tryz.prog 336 = some 1 := by kernel_rfl
theorem ag336 : aggOf Tryz.prog 336 = some false := by kernel_rfl
theorem zo336 : zOf Tryz.prog 336 = some Go.Value.nilFunc := by kernel_rfl
theorem sz338 : szOf Tryz.prog 338 = some 1 := by kernel_rfl
theorem ag338 : aggOf Tryz.prog 338 = some false := by kernel_rfl
theorem zo338 : zOf Tryz.prog 338 = some Go.Value.nilFunc := by kernel_rfl
theorem sz339 : szOf Tryz.prog 339 = some 1 := by kernel_rfl
theorem ag339 : aggOf Tryz.prog 339 = some false := by kernel_rfl
theorem zo339 : zOf Tryz.prog 339 = some Go.Value.nilFunc := by kernel_rfl
theorem sz340 : szOf Tryz.prog 340 = some 20 := by kernel_rfl
theorem ag340 : aggOf Tryz.prog 340 = some true := by kernel_rfl
theorem zo340 : zOf Tryz.prog 340 = some (Go.Value.agg #[Go.Value.int Go.IntKind.u64 0, Go.Value.int Go.IntKind.u64 0, Go.Value.int Go.IntKind.u64 0, Go.Value.int Go.IntKind.u64 0, Go.Value.int Go.IntKind.u64 0, Go.Value.int Go.IntKind.u64 0, Go.Value.int Go.IntKind.u64 0, Go.Value.int Go.IntKind.u64 0, Go.Value.int Go.IntKind.u64 0, Go.Value.int Go.IntKind.u64 0, Go.Value.int Go.IntKind.u64 0, Go.Value.int Go.IntKind.u64 0, Go.Value.int Go.IntKind.u64 0, Go.Value.int Go.IntKind.u64 0, Go.Value.int Go.IntKind.u64 0, Go.Value.int Go.IntKind.u64 0, Go.Value.int Go.IntKind.u64 0, Go.Value.int Go.IntKind.u64 0, Go.Value.int Go.IntKind.u64 0, Go.Value.int Go.IntKind.u64 0]) := by kernel_rfl
theorem sz341 : szOf Tryz.prog 341 = some 65 := by kernel_rfl
theorem ag341 : aggOf Tryz.prog 341 = some true := by kernel_rfl
theorem sz342 : szOf Tryz.prog 342 = some 1 := by kernel_rfl
theorem ag342 : aggOf Tryz.prog 342 = some false := by kernel_rfl
theorem zo342 : zOf Tryz.prog 342 = some Go.Value.nilFunc := by kernel_rfl
theorem sz343 : szOf Tryz.prog 343 = some 1 := by kernel_rfl
theorem ag343 : aggOf Tryz.prog 343 = some false := by kernel_rfl
theorem zo343 : zOf Tryz.prog 343 = some (Go.Value.pointer none) := by kernel_rfl
theorem sz344 : szOf Tryz.prog 344 = some 1 := by kernel_rfl
theorem ag344 : aggOf Tryz.prog 344 = some false := by kernel_rfl
theorem zo344 : zOf Tryz.prog 344 = some Go.Value.nilFunc := by kernel_rfl
theorem sz345 : szOf Tryz.prog 345 = some 1 := by kernel_rfl
theorem ag345 : aggOf Tryz.prog 345 = some false := by kernel_rfl
theorem zo345 : zOf Tryz.prog 345 = some Go.Value.nilFunc := by kernel_rfl
theorem sz347 : szOf Tryz.prog 347 = some 1 := by kernel_rfl
theorem ag347 : aggOf Tryz.prog 347 = some false := by kernel_rfl
theorem zo347 : zOf Tryz.prog 347 = some Go.Value.nilFunc := by kernel_rfl
theorem sz348 : szOf Tryz.prog 348 = some 1 := by kernel_rfl
theorem ag348 : aggOf Tryz.prog 348 = some false := by kernel_rfl
theorem zo348 : zOf Tryz.prog 348 = some Go.Value.nilFunc := by kernel_rfl
theorem sz349 : szOf Tryz.prog 349 = some 1 := by kernel_rfl
theorem ag349 : aggOf Tryz.prog 349 = some false := by kernel_rfl
theorem zo349 : zOf Tryz.prog 349 = some Go.Value.nilFunc := by kernel_rfl
theorem sz350 : szOf Tryz.prog 350 = some 1 := by kernel_rfl
theorem ag350 : aggOf Tryz.prog 350 = some false := by kernel_rfl
theorem zo350 : zOf Tryz.prog 350 = some Go.Value.nilFunc := by kernel_rfl
theorem sz351 : szOf Tryz.prog 351 = some 1 := by kernel_rfl
theorem ag351 : aggOf Tryz.prog 351 = some false := by kernel_rfl
theorem zo351 : zOf Tryz.prog 351 = some Go.Value.nilFunc := by kernel_rfl
theorem sz352 : szOf Tryz.prog 352 = some 1 := by kernel_rfl
theorem ag352 : aggOf Tryz.prog 352 = some false := by kernel_rfl
theorem zo352 : zOf Tryz.prog 352 = some Go.Value.nilFunc := by kernel_rfl
theorem sz353 : szOf Tryz.prog 353 = some 1 := by kernel_rfl
theorem ag353 : aggOf Tryz.prog 353 = some false := by kernel_rfl
theorem zo353 : zOf Tryz.prog 353 = some Go.Value.nilFunc := by kernel_rfl
theorem sz355 : szOf Tryz.prog 355 = some 1 := by kernel_rfl
theorem ag355 : aggOf Tryz.prog 355 = some false := by kernel_rfl
theorem zo355 : zOf Tryz.prog 355 = some Go.Value.nilFunc := by kernel_rfl
theorem sz356 : szOf Tryz.prog 356 = some 1 := by kernel_rfl
theorem ag356 : aggOf Tryz.prog 356 = some false := by kernel_rfl
theorem zo356 : zOf Tryz.prog 356 = some Go.Value.nilFunc := by kernel_rfl
theorem sz357 : szOf Tryz.prog 357 = some 1 := by kernel_rfl
theorem ag357 : aggOf Tryz.prog 357 = some false := by kernel_rfl
theorem zo357 : zOf Tryz.prog 357 = some Go.Value.nilFunc := by kernel_rfl
theorem sz358 : szOf Tryz.prog 358 = some 1 := by kernel_rfl
theorem ag358 : aggOf Tryz.prog 358 = some false := by kernel_rfl
theorem zo358 : zOf Tryz.prog 358 = some Go.Value.nilFunc := by kernel_rfl
theorem sz359 : szOf Tryz.prog 359 = some 1 := by kernel_rfl
theorem ag359 : aggOf Tryz.prog 359 = some false := by kernel_rfl
theorem zo359 : zOf Tryz.prog 359 = some Go.Value.nilFunc := by kernel_rfl
theorem sz360 : szOf Tryz.prog 360 = some 1 := by kernel_rfl
theorem ag360 : aggOf Tryz.prog 360 = some false := by kernel_rfl
theorem zo360 : zOf Tryz.prog 360 = some Go.Value.nilFunc := by kernel_rfl
theorem sz361 : szOf Tryz.prog 361 = some 1 := by kernel_rfl
theorem ag361 : aggOf Tryz.prog 361 = some false := by kernel_rfl
theorem zo361 : zOf Tryz.prog 361 = some Go.Value.nilFunc := by kernel_rfl
theorem sz362 : szOf Tryz.prog 362 = some 1 := by kernel_rfl
theorem ag362 : aggOf Tryz.prog 362 = some false := by kernel_rfl
theorem zo362 : zOf Tryz.prog 362 = some Go.Value.nilFunc := by kernel_rfl
theorem sz363 : szOf Tryz.prog 363 = some 1 := by kernel_rfl
theorem ag363 : aggOf Tryz.prog 363 = some false := by kernel_rfl
theorem zo363 : zOf Tryz.prog 363 = some Go.Value.nilFunc := by kernel_rfl
theorem sz364 : szOf Tryz.prog 364 = some 1 := by kernel_rfl
theorem ag364 : aggOf Tryz.prog 364 = some false := by kernel_rfl
theorem zo364 : zOf Tryz.prog 364 = some Go.Value.nilFunc := by kernel_rfl
theorem sz365 : szOf Tryz.prog 365 = some 1 := by kernel_rfl
theorem ag365 : aggOf Tryz.prog 365 = some false := by kernel_rfl
theorem zo365 : zOf Tryz.prog 365 = some Go.Value.nilFunc := by kernel_rfl
theorem sz366 : szOf Tryz.prog 366 = some 1 := by kernel_rfl
theorem ag366 : aggOf Tryz.prog 366 = some false := by kernel_rfl
theorem zo366 : zOf Tryz.prog 366 = some Go.Value.nilFunc := by kernel_rfl
theorem sz367 : szOf Tryz.prog 367 = some 1 := by kernel_rfl
theorem ag367 : aggOf Tryz.prog 367 = some false := by kernel_rfl
theorem zo367 : zOf Tryz.prog 367 = some Go.Value.nilFunc := by kernel_rfl
theorem sz368 : szOf Tryz.prog 368 = some 1 := by kernel_rfl
theorem ag368 : aggOf Tryz.prog 368 = some false := by kernel_rfl
theorem zo368 : zOf Tryz.prog 368 = some Go.Value.nilFunc := by kernel_rfl
theorem sz369 : szOf Tryz.prog 369 = some 1 := by kernel_rfl
theorem ag369 : aggOf Tryz.prog 369 = some false := by kernel_rfl
theorem zo369 : zOf Tryz.prog 369 = some Go.Value.nilFunc := by kernel_rfl
theorem sz370 : szOf Tryz.prog 370 = some 1 := by kernel_rfl
theorem ag370 : aggOf Tryz.prog 370 = some false := by kernel_rfl
theorem zo370 : zOf Tryz.prog 370 = some Go.Value.nilFunc := by kernel_rfl
theorem sz371 : szOf Tryz.prog 371 = some 1 := by kernel_rfl
theorem ag371 : aggOf Tryz.prog 371 = some false := by kernel_rfl
theorem zo371 : zOf Tryz.prog 371 = some Go.Value.nilFunc := by kernel_rfl
theorem sz373 : szOf Tryz.prog 373 = some 1 := by kernel_rfl
theorem ag373 : aggOf Tryz.prog 373 = some false := by kernel_rfl
theorem zo373 : zOf Tryz.prog 373 = some Go.Value.nilFunc := by kernel_rfl
theorem sz374 : szOf Tryz.prog 374 = some 1 := by kernel_rfl
theorem ag374 : aggOf Tryz.prog 374 = some false := by kernel_rfl
theorem zo374 : zOf Tryz.prog 374 = some Go.Value.nilFunc := by kernel_rfl
theorem sz375 : szOf Tryz.prog 375 = some 1 := by kernel_rfl
theorem ag375 : aggOf Tryz.prog 375 = some false := by kernel_rfl
theorem zo375 : zOf Tryz.prog 375 = some Go.Value.nilFunc := by kernel_rfl
theorem sz376 : szOf Tryz.prog 376 = some 1 := by kernel_rfl
theorem ag376 : aggOf Tryz.prog 376 = some false := by kernel_rfl
theorem zo376 : zOf Tryz.prog 376 = some Go.Value.nilFunc := by kernel_rfl
theorem sz377 : szOf Tryz.prog 377 = some 1 := by kernel_rfl
theorem ag377 : aggOf Tryz.prog 377 = some false := by kernel_rfl
theorem zo377 : zOf Tryz.prog 377 = some Go.Value.nilFunc := by kernel_rfl
theorem sz379 : szOf Tryz.prog 379 = some 1 := by kernel_rfl
theorem ag379 : aggOf Tryz.prog 379 = some false := by kernel_rfl
theorem zo379 : zOf Tryz.prog 379 = some Go.Value.nilFunc := by kernel_rfl
theorem sz381 : szOf Tryz.prog 381 = some 1 := by kernel_rfl
theorem ag381 : aggOf Tryz.prog 381 = some false := by kernel_rfl
theorem zo381 : zOf Tryz.prog 381 = some Go.Value.nilFunc := by kernel_rfl
theorem sz382 : szOf Tryz.prog 382 = some 1 := by kernel_rfl
theorem ag382 : aggOf Tryz.prog 382 = some false := by kernel_rfl
theorem zo382 : zOf Tryz.prog 382 = some Go.Value.nilFunc := by kernel_rfl
theorem sz383 : szOf Tryz.prog 383 = some 1 := by kernel_rfl
theorem ag383 : aggOf Tryz.prog 383 = some false := by kernel_rfl
theorem zo383 : zOf Tryz.prog 383 = some Go.Value.nilFunc := by kernel_rfl
theorem sz384 : szOf Tryz.prog 384 = some 1 := by kernel_rfl
theorem ag384 : aggOf Tryz.prog 384 = some false := by kernel_rfl
theorem zo384 : zOf Tryz.prog 384 = some Go.Value.nilFunc := by kernel_rfl
theorem sz385 : szOf Tryz.prog 385 = some 1 := by kernel_rfl
theorem ag385 : aggOf Tryz.prog 385 = some false := by kernel_rfl
theorem zo385 : zOf Tryz.prog 385 = some Go.Value.nilFunc := by kernel_rfl
theorem sz386 : szOf Tryz.prog 386 = some 1 := by kernel_rfl
theorem ag386 : aggOf Tryz.prog 386 = some false := by kernel_rfl
theorem zo386 : zOf Tryz.prog 386 = some Go.Value.nilFunc := by kernel_rfl
theorem sz387 : szOf Tryz.prog 387 = some 1 := by kernel_rfl
theorem ag387 : aggOf Tryz.prog 387 = some false := by kernel_rfl
theorem zo387 : zOf Tryz.prog 387 = some Go.Value.nilFunc := by kernel_rfl
theorem sz388 : szOf Tryz.prog 388 = some 1 := by kernel_rfl
theorem ag388 : aggOf Tryz.prog 388 = some false := by kernel_rfl
theorem zo388 : zOf Tryz.prog 388 = some Go.Value.nilFunc := by kernel_rfl
theorem sz389 : szOf Tryz.prog 389 = some 1 := by kernel_rfl
theorem ag389 : aggOf Tryz.prog 389 = some false := by kernel_rfl
theorem zo389 : zOf Tryz.prog 389 = some Go.Value.nilFunc := by kernel_rfl
theorem sz391 : szOf Tryz.prog 391 = some 1 := by kernel_rfl
theorem ag391 : aggOf Tryz.prog 391 = some false := by kernel_rfl
theorem zo391 : zOf Tryz.prog 391 = some (Go.Value.map none) := by kernel_rfl
theorem sz392 : szOf Tryz.prog 392 = some 1 := by kernel_rfl
theorem ag392 : aggOf Tryz.prog 392 = some false := by kernel_rfl
theorem zo392 : zOf Tryz.prog 392 = some Go.Value.nilFunc := by kernel_rfl
theorem sz394 : szOf Tryz.prog 394 = some 1 := by kernel_rfl
theorem ag394 : aggOf Tryz.prog 394 = some false := by kernel_rfl
theorem zo394 : zOf Tryz.prog 394 = some Go.Value.nilFunc := by kernel_rfl
theorem sz395 : szOf Tryz.prog 395 = some 6 := by kernel_rfl
theorem ag395 : aggOf Tryz.prog 395 = some true := by kernel_rfl
theorem zo395 : zOf Tryz.prog 395 = some (Go.Value.agg #[Go.Value.string { data := #[] }, Go.Value.string { data := #[] }, Go.Value.string { data := #[] }, Go.Value.string { data := #[] }, Go.Value.string { data := #[] }, Go.Value.string { data := #[] }]) := by kernel_rfl
theorem sz396 : szOf Tryz.prog 396 = some 1 := by kernel_rfl
theorem ag396 : aggOf Tryz.prog 396 = some false := by kernel_rfl
theorem zo396 : zOf Tryz.prog 396 = some Go.Value.nilFunc := by kernel_rfl
theorem sz397 : szOf Tryz.prog 397 = some 1 := by kernel_rfl
theorem ag397 : aggOf Tryz.prog 397 = some false := by kernel_rfl
theorem zo397 : zOf Tryz.prog 397 = some Go.Value.nilFunc := by kernel_rfl
theorem sz398 : szOf Tryz.prog 398 = some 1 := by kernel_rfl
theorem ag398 : aggOf Tryz.prog 398 = some false := by kernel_rfl
theorem zo398 : zOf Tryz.prog 398 = some (Go.Value.int Go.IntKind.i64 0) := by kernel_rfl
theorem sz400 : szOf Tryz.prog 400 = some 1 := by kernel_rfl
theorem ag400 : aggOf Tryz.prog 400 = some false := by kernel_rfl
theorem zo400 : zOf Tryz.prog 400 = some Go.Value.nilFunc := by kernel_rfl
theorem sz401 : szOf Tryz.prog 401 = some 1 := by kernel_rfl
theorem ag401 : aggOf Tryz.prog 401 = some false := by kernel_rfl
theorem zo401 : zOf Tryz.prog 401 = some Go.Value.nilFunc := by kernel_rfl
theorem sz402 : szOf Tryz.prog 402 = some 1 := by kernel_rfl
theorem ag402 : aggOf Tryz.prog 402 = some false := by kernel_rfl
theorem zo402 : zOf Tryz.prog 402 = some Go.Value.nilFunc := by kernel_rfl
theorem sz403 : szOf Tryz.prog 403 = some 1 := by kernel_rfl
theorem ag403 : aggOf Tryz.prog 403 = some false := by kernel_rfl
theorem zo403 : zOf Tryz.prog 403 = some Go.Value.nilFunc := by kernel_rfl
theorem sz404 : szOf Tryz.prog 404 = some 1 := by kernel_rfl
theorem ag404 : aggOf Tryz.prog 404 = some false := by kernel_rfl
theorem zo404 : zOf Tryz.prog 404 = some Go.Value.nilFunc := by kernel_rfl
theorem sz405 : szOf Tryz.prog 405 = some 1 := by kernel_rfl
theorem ag405 : aggOf Tryz.prog 405 = some false := by kernel_rfl
theorem zo405 : zOf Tryz.prog 405 = some Go.Value.nilFunc := by kernel_rfl
theorem sz406 : szOf Tryz.prog 406 = some 1 := by kernel_rfl
theorem ag406 : aggOf Tryz.prog 406 = some false := by kernel_rfl
theorem zo406 : zOf Tryz.prog 406 = some Go.Value.nilFunc := by kernel_rfl
theorem sz407 : szOf Tryz.prog 407 = some 1 := by kernel_rfl
theorem ag407 : aggOf Tryz.prog 407 = some false := by kernel_rfl
theorem zo407 : zOf Tryz.prog 407 = some Go.Value.nilFunc := by kernel_rfl
theorem sz409 : szOf Tryz.prog 409 = some 1 := by kernel_rfl
theorem ag409 : aggOf Tryz.prog 409 = some false := by kernel_rfl
theorem zo409 : zOf Tryz.prog 409 = some Go.Value.nilFunc := by kernel_rfl
theorem sz410 : szOf Tryz.prog 410 = some 1 := by kernel_rfl
theorem ag410 : aggOf Tryz.prog 410 = some false := by kernel_rfl
theorem zo410 : zOf Tryz.prog 410 = some Go.Value.nilFunc := by kernel_rfl
theorem sz411 : szOf Tryz.prog 411 = some 2 := by kernel_rfl
theorem ag411 : aggOf Tryz.prog 411 = some true := by kernel_rfl
theorem zo411 : zOf Tryz.prog 411 = some (Go.Value.agg #[Go.Value.int Go.IntKind.i64 0, Go.Value.slice none 0 0]) := by kernel_rfl
theorem st411 : stOk Tryz.prog 411 = true := by kernel_rfl
theorem pl411_0 : plOf Tryz.prog 411 0 = some (0, 1) := by kernel_rfl
theorem fd411_0 : fdOf Tryz.prog 411 0 = some (0, 3) := by kernel_rfl
theorem pt411_0 : ptOf Tryz.prog 411 0 = some (0, 1, false) := by kernel_rfl
theorem pl411_1 : plOf Tryz.prog 411 1 = some (1, 1) := by kernel_rfl
theorem fd411_1 : fdOf Tryz.prog 411 1 = some (1, 39) := by kernel_rfl
theorem pt411_1 : ptOf Tryz.prog 411 1 = some (1, 1, false) := by kernel_rfl
theorem sz412 : szOf Tryz.prog 412 = some 2 := by kernel_rfl
theorem ag412 : aggOf Tryz.prog 412 = some true := by kernel_rfl
theorem zo412 : zOf Tryz.prog 412 = some (Go.Value.agg #[Go.Value.int Go.IntKind.i64 0, Go.Value.slice none 0 0]) := by kernel_rfl
theorem st412 : stOk Tryz.prog 412 = true := by kernel_rfl
theorem pl412_0 : plOf Tryz.prog 412 0 = some (0, 1) := by kernel_rfl
theorem fd412_0 : fdOf Tryz.prog 412 0 = some (0, 3) := by kernel_rfl
theorem pt412_0 : ptOf Tryz.prog 412 0 = some (0, 1, false) := by kernel_rfl
theorem pl412_1 : plOf Tryz.prog 412 1 = some (1, 1) := by kernel_rfl
theorem fd412_1 : fdOf Tryz.prog 412 1 = some (1, 39) := by kernel_rfl
theorem pt412_1 : ptOf Tryz.prog 412 1 = some (1, 1, false) := by kernel_rfl
theorem sz413 : szOf Tryz.prog 413 = some 1 := by kernel_rfl
theorem ag413 : aggOf Tryz.prog 413 = some false := by kernel_rfl
theorem zo413 : zOf Tryz.prog 413 = some Go.Value.nilFunc := by kernel_rfl
theorem sz414 : szOf Tryz.prog 414 = some 1 := by kernel_rfl
theorem ag414 : aggOf Tryz.prog 414 = some false := by kernel_rfl
theorem zo414 : zOf Tryz.prog 414 = some Go.Value.nilFunc := by kernel_rfl
theorem sz415 : szOf Tryz.prog 415 = some 1 := by kernel_rfl
theorem ag415 : aggOf Tryz.prog 415 = some false := by kernel_rfl
theorem zo415 : zOf Tryz.prog 415 = some Go.Value.nilFunc := by kernel_rfl
theorem sz416 : szOf Tryz.prog 416 = some 1 := by kernel_rfl
theorem ag416 : aggOf Tryz.prog 416 = some false := by kernel_rfl
theorem zo416 : zOf Tryz.prog 416 = some Go.Value.nilFunc := by kernel_rfl
theorem sz417 : szOf Tryz.prog 417 = some 1 := by kernel_rfl
theorem ag417 : aggOf Tryz.prog 417 = some false := by kernel_rfl
theorem zo417 : zOf Tryz.prog 417 = some Go.Value.nilFunc := by kernel_rfl
theorem sz418 : szOf Tryz.prog 418 = some 1 := by kernel_rfl
theorem ag418 : aggOf Tryz.prog 418 = some false := by kernel_rfl
theorem zo418 : zOf Tryz.prog 418 = some (Go.Value.map none) := by kernel_rfl
theorem sz419 : szOf Tryz.prog 419 = some 1 := by kernel_rfl
theorem ag419 : aggOf Tryz.prog 419 = some false := by kernel_rfl
theorem zo419 : zOf Tryz.prog 419 = some Go.Value.nilFunc := by kernel_rfl
theorem sz420 : szOf Tryz.prog 420 = some 2 := by kernel_rfl
theorem ag420 : aggOf Tryz.prog 420 = some true := by kernel_rfl
theorem zo420 : zOf Tryz.prog 420 = some (Go.Value.agg #[Go.Value.int Go.IntKind.i64 0, Go.Value.int Go.IntKind.i64 0]) := by kernel_rfl
theorem st420 : stOk Tryz.prog 420 = true := by kernel_rfl
theorem pl420_0 : plOf Tryz.prog 420 0 = some (0, 1) := by kernel_rfl
theorem fd420_0 : fdOf Tryz.prog 420 0 = some (0, 3) := by kernel_rfl
theorem pt420_0 : ptOf Tryz.prog 420 0 = some (0, 1, false) := by kernel_rfl
theorem pl420_1 : plOf Tryz.prog 420 1 = some (1, 1) := by kernel_rfl
theorem fd420_1 : fdOf Tryz.prog 420 1 = some (1, 3) := by kernel_rfl
theorem pt420_1 : ptOf Tryz.prog 420 1 = some (1, 1, false) := by kernel_rfl
theorem sz421 : szOf Tryz.prog 421 = some 2 := by kernel_rfl
theorem ag421 : aggOf Tryz.prog 421 = some true := by kernel_rfl
theorem zo421 : zOf Tryz.prog 421 = some (Go.Value.agg #[Go.Value.int Go.IntKind.i64 0, Go.Value.int Go.IntKind.i64 0]) := by kernel_rfl
theorem st421 : stOk Tryz.prog 421 = true := by kernel_rfl
theorem pl421_0 : plOf Tryz.prog 421 0 = some (0, 1) := by kernel_rfl
theorem fd421_0 : fdOf Tryz.prog 421 0 = some (0, 3) := by kernel_rfl
theorem pt421_0 : ptOf Tryz.prog 421 0 = some (0, 1, false) := by kernel_rfl
theorem pl421_1 : plOf Tryz.prog 421 1 = some (1, 1) := by kernel_rfl
theorem fd421_1 : fdOf Tryz.prog 421 1 = some (1, 3) := by kernel_rfl
theorem pt421_1 : ptOf Tryz.prog 421 1 = some (1, 1, false) := by kernel_rfl
theorem sz422 : szOf Tryz.prog 422 = some 1 := by kernel_rfl
theorem ag422 : aggOf Tryz.prog 422 = some false := by kernel_rfl
theorem zo422 : zOf Tryz.prog 422 = some Go.Value.nilFunc := by kernel_rfl
theorem sz424 : szOf Tryz.prog 424 = some 1 := by kernel_rfl
theorem ag424 : aggOf Tryz.prog 424 = some false := by kernel_rfl
theorem zo424 : zOf Tryz.prog 424 = some Go.Value.nilFunc := by kernel_rfl
theorem sz425 : szOf Tryz.prog 425 = some 1 := by kernel_rfl
theorem ag425 : aggOf Tryz.prog 425 = some false := by kernel_rfl
theorem zo425 : zOf Tryz.prog 425 = some Go.Value.nilFunc := by kernel_rfl
theorem sz426 : szOf Tryz.prog 426 = some 1 := by kernel_rfl
theorem ag426 : aggOf Tryz.prog 426 = some false := by kernel_rfl
theorem zo426 : zOf Tryz.prog 426 = some Go.Value.nilFunc := by kernel_rfl
theorem sz428 : szOf Tryz.prog 428 = some 32 := by kernel_rfl
theorem ag428 : aggOf Tryz.prog 428 = some true := by kernel_rfl
theorem zo428 : zOf Tryz.prog 428 = some (Go.Value.agg #[Go.Value.int Go.IntKind.u8 0, Go.Value.int Go.IntKind.u8 0, Go.Value.int Go.IntKind.u8 0, Go.Value.int Go.IntKind.u8 0, Go.Value.int Go.IntKind.u8 0, Go.Value.int Go.IntKind.u8 0, Go.Value.int Go.IntKind.u8 0, Go.Value.int Go.IntKind.u8 0, Go.Value.int Go.IntKind.u8 0, Go.Value.int Go.IntKind.u8 0, Go.Value.int Go.IntKind.u8 0, Go.Value.int Go.IntKind.u8 0, Go.Value.int Go.IntKind.u8 0, Go.Value.int Go.IntKind.u8 0, Go.Value.int Go.IntKind.u8 0, Go.Value.int Go.IntKind.u8 0, Go.Value.int Go.IntKind.u8 0, Go.Value.int Go.IntKind.u8 0, Go.Value.int Go.IntKind.u8 0, Go.Value.int Go.IntKind.u8 0, Go.Value.int Go.IntKind.u8 0, Go.Value.int Go.IntKind.u8 0, Go.Value.int Go.IntKind.u8 0, Go.Value.int Go.IntKind.u8 0, Go.Value.int Go.IntKind.u8 0, Go.Value.int Go.IntKind.u8 0, Go.Value.int Go.IntKind.u8 0, Go.Value.int Go.IntKind.u8 0, Go.Value.int Go.IntKind.u8 0, Go.Value.int Go.IntKind.u8 0, Go.Value.int Go.IntKind.u8 0, Go.Value.int Go.IntKind.u8 0]) := by kernel_rfl
theorem sz429 : szOf Tryz.prog 429 = some 64 := by kernel_rfl
theorem ag429 : aggOf Tryz.prog 429 = some true := by kernel_rfl
theorem zo429 : zOf Tryz.prog 429 = some (Go.Value.agg #[Go.Value.int Go.IntKind.u8 0, Go.Value.int Go.IntKind.u8 0, Go.Value.int Go.IntKind.u8 0, Go.Value.int Go.IntKind.u8 0, Go.Value.int Go.IntKind.u8 0, Go.Value.int Go.IntKind.u8 0, Go.Value.int Go.IntKind.u8 0, Go.Value.int Go.IntKind.u8 0, Go.Value.int Go.IntKind.u8 0, Go.Value.int Go.IntKind.u8 0, Go.Value.int Go.IntKind.u8 0, Go.Value.int Go.IntKind.u8 0, Go.Value.int Go.IntKind.u8 0, Go.Value.int Go.IntKind.u8 0, Go.Value.int Go.IntKind.u8 0, Go.Value.int Go.IntKind.u8 0, Go.Value.int Go.IntKind.u8 0, Go.Value.int Go.IntKind.u8 0, Go.Value.int Go.IntKind.u8 0, Go.Value.int Go.IntKind.u8 0, Go.Value.int Go.IntKind.u8 0, Go.Value.int Go.IntKind.u8 0, Go.Value.int Go.IntKind.u8 0, Go.Value.int Go.IntKind.u8 0, Go.Value.int Go.IntKind.u8 0, Go.Value.int Go.IntKind.u8 0, Go.Value.int Go.IntKind.u8 0, Go.Value.int Go.IntKind.u8 0, Go.Value.int Go.IntKind.u8 0, Go.Value.int Go.IntKind.u8 0, Go.Value.int Go.IntKind.u8 0, Go.Value.int Go.IntKind.u8 0, Go.Value.int Go.IntKind.u8 0, Go.Value.int Go.IntKind.u8 0, Go.Value.int Go.IntKind.u8 0, Go.Value.int Go.IntKind.u8 0, Go.Value.int Go.IntKind.u8 0, Go.Value.int Go.IntKind.u8 0, Go.Value.int Go.IntKind.u8 0, Go.Value.int Go.IntKind.u8 0, Go.Value.int Go.IntKind.u8 0, Go.Value.int Go.IntKind.u8 0, Go.Value.int Go.IntKind.u8 0, Go.Value.int Go.IntKind.u8 0, Go.Value.int Go.IntKind.u8 0, Go.Value.int Go.IntKind.u8 0, Go.Value.int Go.IntKind.u8 0, Go.Value.int Go.IntKind.u8 0, Go.Value.int Go.IntKind.u8 0, Go.Value.int Go.IntKind.u8 0, Go.Value.int Go.IntKind.u8 0, Go.Value.int Go.IntKind.u8 0, Go.Value.int Go.IntKind.u8 0, Go.Value.int Go.IntKind.u8 0, Go.Value.int Go.IntKind.u8 0, Go.Value.int Go.IntKind.u8 0, Go.Value.int Go.IntKind.u8 0, Go.Value.int Go.IntKind.u8 0, Go.Value.int Go.IntKind.u8 0, Go.Value.int Go.IntKind.u8 0, Go.Value.int Go.IntKind.u8 0, Go.Value.int Go.IntKind.u8 0, Go.Value.int Go.IntKind.u8 0, Go.Value.int Go.IntKind.u8 0]) := by kernel_rfl
theorem sz430 : szOf Tryz.prog 430 = some 1 := by kernel_rfl
theorem ag430 : aggOf Tryz.prog 430 = some false := by kernel_rfl
theorem zo430 : zOf Tryz.prog 430 = some Go.Value.nilFunc := by kernel_rfl
theorem sz431 : szOf Tryz.prog 431 = some 1 := by kernel_rfl
theorem ag431 : aggOf Tryz.prog 431 = some false := by kernel_rfl
theorem zo431 : zOf Tryz.prog 431 = some (Go.Value.int Go.IntKind.u64 0) := by kernel_rfl
theorem sz432 : szOf Tryz.prog 432 = some 1 := by kernel_rfl
theorem ag432 : aggOf Tryz.prog 432 = some false := by kernel_rfl
theorem zo432 : zOf Tryz.prog 432 = some Go.Value.nilFunc := by kernel_rfl
theorem sz433 : szOf Tryz.prog 433 = some 1 := by kernel_rfl
theorem ag433 : aggOf Tryz.prog 433 = some false := by kernel_rfl
theorem zo433 : zOf Tryz.prog 433 = some Go.Value.nilFunc := by kernel_rfl
theorem sz434 : szOf Tryz.prog 434 = some 1 := by kernel_rfl
theorem ag434 : aggOf Tryz.prog 434 = some false := by kernel_rfl
theorem zo434 : zOf Tryz.prog 434 = some Go.Value.nilFunc := by kernel_rfl
theorem sz435 : szOf Tryz.prog 435 = some 1 := by kernel_rfl
theorem ag435 : aggOf Tryz.prog 435 = some false := by kernel_rfl
theorem zo435 : zOf Tryz.prog 435 = some Go.Value.nilFunc := by kernel_rfl
theorem sz436 : szOf Tryz.prog 436 = some 1 := by kernel_rfl
theorem ag436 : aggOf Tryz.prog 436 = some false := by kernel_rfl
theorem zo436 : zOf Tryz.prog 436 = some Go.Value.nilFunc := by kernel_rfl
theorem sz437 : szOf Tryz.prog 437 = some 1 := by kernel_rfl
theorem ag437 : aggOf Tryz.prog 437 = some false := by kernel_rfl
theorem zo437 : zOf Tryz.prog 437 = some (Go.Value.slice none 0 0) := by kernel_rfl
theorem sq437 : seqT Tryz.prog 437 = true := by kernel_rfl
theorem el437 : elOf Tryz.prog 437 = some 39 := by kernel_rfl
theorem es437 : esOf Tryz.prog 437 = some 1 := by kernel_rfl
theorem et437 : elT Tryz.prog 437 = some (1, 24, [V.d (D.val (Go.Value.slice none 0 0))]) := by kernel_rfl
theorem sz438 : szOf Tryz.prog 438 = some 1 := by kernel_rfl
theorem ag438 : aggOf Tryz.prog 438 = some false := by kernel_rfl
theorem zo438 : zOf Tryz.prog 438 = some Go.Value.nilFunc := by kernel_rfl
theorem sz439 : szOf Tryz.prog 439 = some 1 := by kernel_rfl
theorem ag439 : aggOf Tryz.prog 439 = some false := by kernel_rfl
theorem zo439 : zOf Tryz.prog 439 = some Go.Value.nilFunc := by kernel_rfl
theorem sz440 : szOf Tryz.prog 440 = some 1 := by kernel_rfl
theorem ag440 : aggOf Tryz.prog 440 = some false := by kernel_rfl
theorem zo440 : zOf Tryz.prog 440 = some Go.Value.nilFunc := by kernel_rfl
theorem sz441 : szOf Tryz.prog 441 = some 1 := by kernel_rfl
theorem ag441 : aggOf Tryz.prog 441 = some false := by kernel_rfl
theorem zo441 : zOf Tryz.prog 441 = some Go.Value.nilFunc := by kernel_rfl
theorem sz443 : szOf Tryz.prog 443 = some 1 := by kernel_rfl
theorem ag443 : aggOf Tryz.prog 443 = some false := by kernel_rfl
theorem zo443 : zOf Tryz.prog 443 = some Go.Value.nilFunc := by kernel_rfl
theorem sz444 : szOf Tryz.prog 444 = some 1 := by kernel_rfl
theorem ag444 : aggOf Tryz.prog 444 = some false := by kernel_rfl
theorem zo444 : zOf Tryz.prog 444 = some Go.Value.nilFunc := by kernel_rfl
theorem sz445 : szOf Tryz.prog 445 = some 1 := by kernel_rfl
theorem ag445 : aggOf Tryz.prog 445 = some false := by kernel_rfl
theorem zo445 : zOf Tryz.prog 445 = some Go.Value.nilFunc := by kernel_rfl
theorem sz446 : szOf Tryz.prog 446 = some 1 := by kernel_rfl
theorem ag446 : aggOf Tryz.prog 446 = some false := by kernel_rfl
theorem zo446 : zOf Tryz.prog 446 = some Go.Value.nilFunc := by kernel_rfl
theorem sz447 : szOf Tryz.prog 447 = some 1 := by kernel_rfl
theorem ag447 : aggOf Tryz.prog 447 = some false := by kernel_rfl
theorem zo447 : zOf Tryz.prog 447 = some Go.Value.nilFunc := by kernel_rfl
theorem sz448 : szOf Tryz.prog 448 = some 1 := by kernel_rfl
theorem ag448 : aggOf Tryz.prog 448 = some false := by kernel_rfl
theorem zo448 : zOf Tryz.prog 448 = some Go.Value.nilFunc := by kernel_rfl
theorem sz449 : szOf Tryz.prog 449 = some 1 := by kernel_rfl
theorem ag449 : aggOf Tryz.prog 449 = some false := by kernel_rfl
theorem zo449 : zOf Tryz.prog 449 = some (Go.Value.slice none 0 0) := by kernel_rfl
theorem sq449 : seqT Tryz.prog 449 = true := by kernel_rfl
theorem el449 : elOf Tryz.prog 449 = some 39 := by kernel_rfl
theorem es449 : esOf Tryz.prog 449 = some 1 := by kernel_rfl
theorem et449 : elT Tryz.prog 449 = some (1, 24, [V.d (D.val (Go.Value.slice none 0 0))]) := by kernel_rfl
theorem sz450 : szOf Tryz.prog 450 = some 1 := by kernel_rfl
theorem ag450 : aggOf Tryz.prog 450 = some false := by kernel_rfl
theorem zo450 : zOf Tryz.prog 450 = some Go.Value.nilFunc := by kernel_rfl
theorem sz451 : szOf Tryz.prog 451 = some 1 := by kernel_rfl
theorem ag451 : aggOf Tryz.prog 451 = some false := by kernel_rfl
theorem zo451 : zOf Tryz.prog 451 = some Go.Value.nilFunc := by kernel_rfl
theorem sz452 : szOf Tryz.prog 452 = some 1 := by kernel_rfl
theorem ag452 : aggOf Tryz.prog 452 = some false := by kernel_rfl
theorem zo452 : zOf Tryz.prog 452 = some Go.Value.nilFunc := by kernel_rfl
theorem sz453 : szOf Tryz.prog 453 = some 1 := by kernel_rfl
theorem ag453 : aggOf Tryz.prog 453 = some false := by kernel_rfl
theorem zo453 : zOf Tryz.prog 453 = some Go.Value.nilFunc := by kernel_rfl
theorem sz454 : szOf Tryz.prog 454 = some 1 := by kernel_rfl
theorem ag454 : aggOf Tryz.prog 454 = some false := by kernel_rfl
theorem zo454 : zOf Tryz.prog 454 = some Go.Value.nilFunc := by kernel_rfl
theorem sz455 : szOf Tryz.prog 455 = some 1 := by kernel_rfl
theorem ag455 : aggOf Tryz.prog 455 = some false := by kernel_rfl
theorem zo455 : zOf Tryz.prog 455 = some Go.Value.nilFunc := by kernel_rfl
theorem sz457 : szOf Tryz.prog 457 = some 1 := by kernel_rfl
theorem ag457 : aggOf Tryz.prog 457 = some false := by kernel_rfl
theorem zo457 : zOf Tryz.prog 457 = some Go.Value.nilFunc := by kernel_rfl
theorem sz458 : szOf Tryz.prog 458 = some 1 := by kernel_rfl
theorem ag458 : aggOf Tryz.prog 458 = some false := by kernel_rfl
theorem zo458 : zOf Tryz.prog 458 = some (Go.Value.pointer none) := by kernel_rfl
theorem sz460 : szOf Tryz.prog 460 = some 1 := by kernel_rfl
theorem ag460 : aggOf Tryz.prog 460 = some false := by kernel_rfl
theorem zo460 : zOf Tryz.prog 460 = some Go.Value.nilFunc := by kernel_rfl
theorem sz461 : szOf Tryz.prog 461 = some 1 := by kernel_rfl
theorem ag461 : aggOf Tryz.prog 461 = some false := by kernel_rfl
theorem zo461 : zOf Tryz.prog 461 = some Go.Value.nilFunc := by kernel_rfl
theorem sz462 : szOf Tryz.prog 462 = some 1 := by kernel_rfl
theorem ag462 : aggOf Tryz.prog 462 = some false := by kernel_rfl
theorem zo462 : zOf Tryz.prog 462 = some Go.Value.nilFunc := by kernel_rfl
theorem sz464 : szOf Tryz.prog 464 = some 1 := by kernel_rfl
theorem ag464 : aggOf Tryz.prog 464 = some false := by kernel_rfl
theorem zo464 : zOf Tryz.prog 464 = some Go.Value.nilFunc := by kernel_rfl
theorem sz466 : szOf Tryz.prog 466 = some 1 := by kernel_rfl
theorem ag466 : aggOf Tryz.prog 466 = some false := by kernel_rfl
theorem zo466 : zOf Tryz.prog 466 = some Go.Value.nilFunc := by kernel_rfl
theorem sz467 : szOf Tryz.prog 467 = some 1 := by kernel_rfl
theorem ag467 : aggOf Tryz.prog 467 = some false := by kernel_rfl
theorem zo467 : zOf Tryz.prog 467 = some (Go.Value.map none) := by kernel_rfl
theorem sz468 : szOf Tryz.prog 468 = some 1 := by kernel_rfl
theorem ag468 : aggOf Tryz.prog 468 = some false := by kernel_rfl
theorem zo468 : zOf Tryz.prog 468 = some Go.Value.nilFunc := by kernel_rfl
theorem sz469 : szOf Tryz.prog 469 = some 1 := by kernel_rfl
theorem ag469 : aggOf Tryz.prog 469 = some false := by kernel_rfl
theorem zo469 : zOf Tryz.prog 469 = some Go.Value.nilFunc := by kernel_rfl
theorem sz470 : szOf Tryz.prog 470 = some 1 := by kernel_rfl
theorem ag470 : aggOf Tryz.prog 470 = some false := by kernel_rfl
theorem zo470 : zOf Tryz.prog 470 = some (Go.Value.int Go.IntKind.u64 0) := by kernel_rfl
theorem sz471 : szOf Tryz.prog 471 = some 3 := by kernel_rfl
theorem ag471 : aggOf Tryz.prog 471 = some true := by kernel_rfl
theorem zo471 : zOf Tryz.prog 471 = some (Go.Value.agg #[Go.Value.pointer none, Go.Value.pointer none, Go.Value.int Go.IntKind.u64 0]) := by kernel_rfl
theorem st471 : stOk Tryz.prog 471 = true := by kernel_rfl
theorem pl471_0 : plOf Tryz.prog 471 0 = some (0, 1) := by kernel_rfl
theorem fd471_0 : fdOf Tryz.prog 471 0 = some (0, 17) := by kernel_rfl
theorem pt471_0 : ptOf Tryz.prog 471 0 = some (0, 1, false) := by kernel_rfl
theorem pl471_1 : plOf Tryz.prog 471 1 = some (1, 1) := by kernel_rfl
theorem fd471_1 : fdOf Tryz.prog 471 1 = some (1, 343) := by kernel_rfl
theorem pt471_1 : ptOf Tryz.prog 471 1 = some (1, 1, false) := by kernel_rfl
theorem pl471_2 : plOf Tryz.prog 471 2 = some (2, 1) := by kernel_rfl
theorem fd471_2 : fdOf Tryz.prog 471 2 = some (2, 470) := by kernel_rfl
theorem pt471_2 : ptOf Tryz.prog 471 2 = some (2, 1, false) := by kernel_rfl
theorem sz472 : szOf Tryz.prog 472 = some 3 := by kernel_rfl
theorem ag472 : aggOf Tryz.prog 472 = some true := by kernel_rfl
theorem zo472 : zOf Tryz.prog 472 = some (Go.Value.agg #[Go.Value.pointer none, Go.Value.pointer none, Go.Value.int Go.IntKind.u64 0]) := by kernel_rfl
theorem st472 : stOk Tryz.prog 472 = true := by kernel_rfl
theorem pl472_0 : plOf Tryz.prog 472 0 = some (0, 1) := by kernel_rfl
theorem fd472_0 : fdOf Tryz.prog 472 0 = some (0, 17) := by kernel_rfl
theorem pt472_0 : ptOf Tryz.prog 472 0 = some (0, 1, false) := by kernel_rfl
theorem pl472_1 : plOf Tryz.prog 472 1 = some (1, 1) := by kernel_rfl
theorem fd472_1 : fdOf Tryz.prog 472 1 = some (1, 343) := by kernel_rfl
theorem pt472_1 : ptOf Tryz.prog 472 1 = some (1, 1, false) := by kernel_rfl
theorem pl472_2 : plOf Tryz.prog 472 2 = some (2, 1) := by kernel_rfl
theorem fd472_2 : fdOf Tryz.prog 472 2 = some (2, 470) := by kernel_rfl
theorem pt472_2 : ptOf Tryz.prog 472 2 = some (2, 1, false) := by kernel_rfl
theorem sz473 : szOf Tryz.prog 473 = some 1 := by kernel_rfl
theorem ag473 : aggOf Tryz.prog 473 = some false := by kernel_rfl
theorem zo473 : zOf Tryz.prog 473 = some Go.Value.nilFunc := by kernel_rfl
theorem sz474 : szOf Tryz.prog 474 = some 1 := by kernel_rfl
theorem ag474 : aggOf Tryz.prog 474 = some false := by kernel_rfl
theorem zo474 : zOf Tryz.prog 474 = some Go.Value.nilFunc := by kernel_rfl
theorem sz475 : szOf Tryz.prog 475 = some 1 := by kernel_rfl
theorem ag475 : aggOf Tryz.prog 475 = some false := by kernel_rfl
theorem zo475 : zOf Tryz.prog 475 = some Go.Value.nilFunc := by kernel_rfl
theorem sz476 : szOf Tryz.prog 476 = some 1 := by kernel_rfl
theorem ag476 : aggOf Tryz.prog 476 = some false := by kernel_rfl
theorem zo476 : zOf Tryz.prog 476 = some Go.Value.nilFunc := by kernel_rfl
theorem sz477 : szOf Tryz.prog 477 = some 1 := by kernel_rfl
theorem ag477 : aggOf Tryz.prog 477 = some false := by kernel_rfl
theorem zo477 : zOf Tryz.prog 477 = some Go.Value.nilFunc := by kernel_rfl
theorem sz478 : szOf Tryz.prog 478 = some 2 := by kernel_rfl
theorem ag478 : aggOf Tryz.prog 478 = some true := by kernel_rfl
theorem zo478 : zOf Tryz.prog 478 = some (Go.Value.agg #[Go.Value.nilFunc, Go.Value.nilFunc]) := by kernel_rfl
theorem st478 : stOk Tryz.prog 478 = true := by kernel_rfl
theorem pl478_0 : plOf Tryz.prog 478 0 = some (0, 1) := by kernel_rfl
theorem fd478_0 : fdOf Tryz.prog 478 0 = some (0, 422) := by kernel_rfl
theorem pt478_0 : ptOf Tryz.prog 478 0 = some (0, 1, false) := by kernel_rfl
theorem pl478_1 : plOf Tryz.prog 478 1 = some (1, 1) := by kernel_rfl
theorem fd478_1 : fdOf Tryz.prog 478 1 = some (1, 474) := by kernel_rfl
theorem pt478_1 : ptOf Tryz.prog 478 1 = some (1, 1, false) := by kernel_rfl
theorem sz479 : szOf Tryz.prog 479 = some 2 := by kernel_rfl
theorem ag479 : aggOf Tryz.prog 479 = some true := by kernel_rfl
theorem zo479 : zOf Tryz.prog 479 = some (Go.Value.agg #[Go.Value.nilFunc, Go.Value.nilFunc]) := by kernel_rfl
theorem st479 : stOk Tryz.prog 479 = true := by kernel_rfl
theorem pl479_0 : plOf Tryz.prog 479 0 = some (0, 1) := by kernel_rfl
theorem fd479_0 : fdOf Tryz.prog 479 0 = some (0, 422) := by kernel_rfl
theorem pt479_0 : ptOf Tryz.prog 479 0 = some (0, 1, false) := by kernel_rfl
theorem pl479_1 : plOf Tryz.prog 479 1 = some (1, 1) := by kernel_rfl
theorem fd479_1 : fdOf Tryz.prog 479 1 = some (1, 474) := by kernel_rfl
theorem pt479_1 : ptOf Tryz.prog 479 1 = some (1, 1, false) := by kernel_rfl
theorem sz481 : szOf Tryz.prog 481 = some 1 := by kernel_rfl
theorem ag481 : aggOf Tryz.prog 481 = some false := by kernel_rfl
theorem zo481 : zOf Tryz.prog 481 = some Go.Value.nilFunc := by kernel_rfl
theorem sz482 : szOf Tryz.prog 482 = some 1 := by kernel_rfl
theorem ag482 : aggOf Tryz.prog 482 = some true := by kernel_rfl
theorem zo482 : zOf Tryz.prog 482 = some (Go.Value.agg #[Go.Value.pointer none]) := by kernel_rfl
theorem st482 : stOk Tryz.prog 482 = true := by kernel_rfl
theorem pl482_0 : plOf Tryz.prog 482 0 = some (0, 1) := by kernel_rfl
theorem fd482_0 : fdOf Tryz.prog 482 0 = some (0, 17) := by kernel_rfl
theorem pt482_0 : ptOf Tryz.prog 482 0 = some (0, 1, false) := by kernel_rfl
theorem sz483 : szOf Tryz.prog 483 = some 1 := by kernel_rfl
theorem ag483 : aggOf Tryz.prog 483 = some true := by kernel_rfl
theorem zo483 : zOf Tryz.prog 483 = some (Go.Value.agg #[Go.Value.pointer none]) := by kernel_rfl
theorem st483 : stOk Tryz.prog 483 = true := by kernel_rfl
theorem pl483_0 : plOf Tryz.prog 483 0 = some (0, 1) := by kernel_rfl
theorem fd483_0 : fdOf Tryz.prog 483 0 = some (0, 17) := by kernel_rfl
theorem pt483_0 : ptOf Tryz.prog 483 0 = some (0, 1, false) := by kernel_rfl
theorem sz484 : szOf Tryz.prog 484 = some 1 := by kernel_rfl
theorem ag484 : aggOf Tryz.prog 484 = some false := by kernel_rfl
theorem zo484 : zOf Tryz.prog 484 = some (Go.Value.pointer none) := by kernel_rfl
theorem sz485 : szOf Tryz.prog 485 = some 1 := by kernel_rfl
theorem ag485 : aggOf Tryz.prog 485 = some false := by kernel_rfl
theorem zo485 : zOf Tryz.prog 485 = some Go.Value.nilFunc := by kernel_rfl
theorem sz486 : szOf Tryz.prog 486 = some 1 := by kernel_rfl
theorem ag486 : aggOf Tryz.prog 486 = some false := by kernel_rfl
theorem zo486 : zOf Tryz.prog 486 = some (Go.Value.int Go.IntKind.i64 0) := by kernel_rfl
theorem sz488 : szOf Tryz.prog 488 = some 1 := by kernel_rfl
theorem ag488 : aggOf Tryz.prog 488 = some false := by kernel_rfl
theorem zo488 : zOf Tryz.prog 488 = some Go.Value.nilFunc := by kernel_rfl
theorem sz489 : szOf Tryz.prog 489 = some 1 := by kernel_rfl
theorem ag489 : aggOf Tryz.prog 489 = some false := by kernel_rfl
theorem zo489 : zOf Tryz.prog 489 = some Go.Value.nilFunc := by kernel_rfl
theorem sz490 : szOf Tryz.prog 490 = some 1 := by kernel_rfl
theorem ag490 : aggOf Tryz.prog 490 = some false := by kernel_rfl
theorem zo490 : zOf Tryz.prog 490 = some Go.Value.nilFunc := by kernel_rfl
theorem sz491 : szOf Tryz.prog 491 = some 1 := by kernel_rfl
theorem ag491 : aggOf Tryz.prog 491 = some false := by kernel_rfl
theorem zo491 : zOf Tryz.prog 491 = some Go.Value.nilFunc := by kernel_rfl
theorem sz492 : szOf Tryz.prog 492 = some 1 := by kernel_rfl
theorem ag492 : aggOf Tryz.prog 492 = some false := by kernel_rfl
theorem zo492 : zOf Tryz.prog 492 = some (Go.Value.map none) := by kernel_rfl
theorem sz493 : szOf Tryz.prog 493 = some 1 := by kernel_rfl
theorem ag493 : aggOf Tryz.prog 493 = some false := by kernel_rfl
theorem zo493 : zOf Tryz.prog 493 = some (Go.Value.int Go.IntKind.u64 0) := by kernel_rfl
theorem sz494 : szOf Tryz.prog 494 = some 1 := by kernel_rfl
theorem ag494 : aggOf Tryz.prog 494 = some false := by kernel_rfl
theorem zo494 : zOf Tryz.prog 494 = some Go.Value.nilFunc := by kernel_rfl
theorem sz495 : szOf Tryz.prog 495 = some 1 := by kernel_rfl
theorem ag495 : aggOf Tryz.prog 495 = some false := by kernel_rfl
theorem zo495 : zOf Tryz.prog 495 = some Go.Value.nilFunc := by kernel_rfl
theorem sz496 : szOf Tryz.prog 496 = some 1 := by kernel_rfl
theorem ag496 : aggOf Tryz.prog 496 = some false := by kernel_rfl
theorem zo496 : zOf Tryz.prog 496 = some (Go.Value.pointer none) := by kernel_rfl
theorem sz497 : szOf Tryz.prog 497 = some 1 := by kernel_rfl
theorem ag497 : aggOf Tryz.prog 497 = some false := by kernel_rfl
theorem zo497 : zOf Tryz.prog 497 = some Go.Value.nilFunc := by kernel_rfl
theorem sz498 : szOf Tryz.prog 498 = some 4 := by kernel_rfl
theorem ag498 : aggOf Tryz.prog 498 = some true := by kernel_rfl
theorem zo498 : zOf Tryz.prog 498 = some (Go.Value.agg #[Go.Value.pointer none, Go.Value.pointer none, Go.Value.pointer none, Go.Value.string { data := #[] }]) := by kernel_rfl
theorem st498 : stOk Tryz.prog 498 = true := by kernel_rfl
theorem pl498_0 : plOf Tryz.prog 498 0 = some (0, 1) := by kernel_rfl
theorem fd498_0 : fdOf Tryz.prog 498 0 = some (0, 17) := by kernel_rfl
theorem pt498_0 : ptOf Tryz.prog 498 0 = some (0, 1, false) := by kernel_rfl
theorem pl498_1 : plOf Tryz.prog 498 1 = some (1, 1) := by kernel_rfl
theorem fd498_1 : fdOf Tryz.prog 498 1 = some (1, 17) := by kernel_rfl
theorem pt498_1 : ptOf Tryz.prog 498 1 = some (1, 1, false) := by kernel_rfl
theorem pl498_2 : plOf Tryz.prog 498 2 = some (2, 1) := by kernel_rfl
theorem fd498_2 : fdOf Tryz.prog 498 2 = some (2, 17) := by kernel_rfl
theorem pt498_2 : ptOf Tryz.prog 498 2 = some (2, 1, false) := by kernel_rfl
theorem pl498_3 : plOf Tryz.prog 498 3 = some (3, 1) := by kernel_rfl
theorem fd498_3 : fdOf Tryz.prog 498 3 = some (3, 9) := by kernel_rfl
theorem pt498_3 : ptOf Tryz.prog 498 3 = some (3, 1, false) := by kernel_rfl
theorem sz499 : szOf Tryz.prog 499 = some 4 := by kernel_rfl
theorem ag499 : aggOf Tryz.prog 499 = some true := by kernel_rfl
theorem zo499 : zOf Tryz.prog 499 = some (Go.Value.agg #[Go.Value.pointer none, Go.Value.pointer none, Go.Value.pointer none, Go.Value.string { data := #[] }]) := by kernel_rfl
theorem st499 : stOk Tryz.prog 499 = true := by kernel_rfl
theorem pl499_0 : plOf Tryz.prog 499 0 = some (0, 1) := by kernel_rfl
theorem fd499_0 : fdOf Tryz.prog 499 0 = some (0, 17) := by kernel_rfl
theorem pt499_0 : ptOf Tryz.prog 499 0 = some (0, 1, false) := by kernel_rfl
theorem pl499_1 : plOf Tryz.prog 499 1 = some (1, 1) := by kernel_rfl
theorem fd499_1 : fdOf Tryz.prog 499 1 = some (1, 17) := by kernel_rfl
theorem pt499_1 : ptOf Tryz.prog 499 1 = some (1, 1, false) := by kernel_rfl
theorem pl499_2 : plOf Tryz.prog 499 2 = some (2, 1) := by kernel_rfl
theorem fd499_2 : fdOf Tryz.prog 499 2 = some (2, 17) := by kernel_rfl
theorem pt499_2 : ptOf Tryz.prog 499 2 = some (2, 1, false) := by kernel_rfl
theorem pl499_3 : plOf Tryz.prog 499 3 = some (3, 1) := by kernel_rfl
theorem fd499_3 : fdOf Tryz.prog 499 3 = some (3, 9) := by kernel_rfl
theorem pt499_3 : ptOf Tryz.prog 499 3 = some (3, 1, false) := by kernel_rfl
theorem sz500 : szOf Tryz.prog 500 = some 0 := by kernel_rfl
theorem ag500 : aggOf Tryz.prog 500 = some true := by kernel_rfl
theorem sz501 : szOf Tryz.prog 501 = some 0 := by kernel_rfl
theorem ag501 : aggOf Tryz.prog 501 = some true := by kernel_rfl
theorem st501 : stOk Tryz.prog 501 = true := by kernel_rfl
theorem pl501_0 : plOf Tryz.prog 501 0 = some (0, 0) := by kernel_rfl
theorem sz502 : szOf Tryz.prog 502 = some 0 := by kernel_rfl
theorem ag502 : aggOf Tryz.prog 502 = some true := by kernel_rfl
theorem st502 : stOk Tryz.prog 502 = true := by kernel_rfl
theorem pl502_0 : plOf Tryz.prog 502 0 = some (0, 0) := by kernel_rfl
theorem sz503 : szOf Tryz.prog 503 = some 1 := by kernel_rfl
theorem ag503 : aggOf Tryz.prog 503 = some false := by kernel_rfl
theorem zo503 : zOf Tryz.prog 503 = some (Go.Value.int Go.IntKind.u8 0) := by kernel_rfl
theorem sz504 : szOf Tryz.prog 504 = some 1 := by kernel_rfl
theorem ag504 : aggOf Tryz.prog 504 = some false := by kernel_rfl
theorem zo504 : zOf Tryz.prog 504 = some (Go.Value.int Go.IntKind.u8 0) := by kernel_rfl
theorem sz505 : szOf Tryz.prog 505 = some 1 := by kernel_rfl
theorem ag505 : aggOf Tryz.prog 505 = some false := by kernel_rfl
theorem zo505 : zOf Tryz.prog 505 = some Go.Value.nilFunc := by kernel_rfl
theorem sz506 : szOf Tryz.prog 506 = some 1 := by kernel_rfl
theorem ag506 : aggOf Tryz.prog 506 = some false := by kernel_rfl
theorem zo506 : zOf Tryz.prog 506 = some (Go.Value.int Go.IntKind.i32 0) := by kernel_rfl
theorem sz507 : szOf Tryz.prog 507 = some 1 := by kernel_rfl
theorem ag507 : aggOf Tryz.prog 507 = some false := by kernel_rfl
theorem zo507 : zOf Tryz.prog 507 = some (Go.Value.int Go.IntKind.i32 0) := by kernel_rfl
theorem sz508 : szOf Tryz.prog 508 = some 11 := by kernel_rfl
theorem ag508 : aggOf Tryz.prog 508 = some true := by kernel_rfl
theorem zo508 : zOf Tryz.prog 508 = some (Go.Value.agg #[Go.Value.int Go.IntKind.u64 0, Go.Value.int Go.IntKind.u64 0, Go.Value.int Go.IntKind.u32 0, Go.Value.int Go.IntKind.u8 0, Go.Value.int Go.IntKind.u8 0, Go.Value.int Go.IntKind.u8 0, Go.Value.int Go.IntKind.u8 0, Go.Value.nilFunc, Go.Value.pointer none, Go.Value.int Go.IntKind.i32 0, Go.Value.int Go.IntKind.i32 0]) := by kernel_rfl
theorem st508 : stOk Tryz.prog 508 = true := by kernel_rfl
theorem pl508_0 : plOf Tryz.prog 508 0 = some (0, 1) := by kernel_rfl
theorem fd508_0 : fdOf Tryz.prog 508 0 = some (0, 12) := by kernel_rfl
theorem pt508_0 : ptOf Tryz.prog 508 0 = some (0, 1, false) := by kernel_rfl
theorem pl508_1 : plOf Tryz.prog 508 1 = some (1, 1) := by kernel_rfl
theorem fd508_1 : fdOf Tryz.prog 508 1 = some (1, 12) := by kernel_rfl
theorem pt508_1 : ptOf Tryz.prog 508 1 = some (1, 1, false) := by kernel_rfl
theorem pl508_2 : plOf Tryz.prog 508 2 = some (2, 1) := by kernel_rfl
theorem fd508_2 : fdOf Tryz.prog 508 2 = some (2, 123) := by kernel_rfl
theorem pt508_2 : ptOf Tryz.prog 508 2 = some (2, 1, false) := by kernel_rfl
theorem pl508_3 : plOf Tryz.prog 508 3 = some (3, 1) := by kernel_rfl
theorem fd508_3 : fdOf Tryz.prog 508 3 = some (3, 503) := by kernel_rfl
theorem pt508_3 : ptOf Tryz.prog 508 3 = some (3, 1, false) := by kernel_rfl
theorem pl508_4 : plOf Tryz.prog 508 4 = some (4, 1) := by kernel_rfl
theorem fd508_4 : fdOf Tryz.prog 508 4 = some (4, 5) := by kernel_rfl
theorem pt508_4 : ptOf Tryz.prog 508 4 = some (4, 1, false) := by kernel_rfl
theorem pl508_5 : plOf Tryz.prog 508 5 = some (5, 1) := by kernel_rfl
theorem fd508_5 : fdOf Tryz.prog 508 5 = some (5, 5) := by kernel_rfl
theorem pt508_5 : ptOf Tryz.prog 508 5 = some (5, 1, false) := by kernel_rfl
theorem pl508_6 : plOf Tryz.prog 508 6 = some (6, 1) := by kernel_rfl
theorem fd508_6 : fdOf Tryz.prog 508 6 = some (6, 504) := by kernel_rfl
theorem pt508_6 : ptOf Tryz.prog 508 6 = some (6, 1, false) := by kernel_rfl
theorem pl508_7 : plOf Tryz.prog 508 7 = some (7, 1) := by kernel_rfl
theorem fd508_7 : fdOf Tryz.prog 508 7 = some (7, 505) := by kernel_rfl
theorem pt508_7 : ptOf Tryz.prog 508 7 = some (7, 1, false) := by kernel_rfl
theorem pl508_8 : plOf Tryz.prog 508 8 = some (8, 1) := by kernel_rfl
theorem fd508_8 : fdOf Tryz.prog 508 8 = some (8, 280) := by kernel_rfl
theorem pt508_8 : ptOf Tryz.prog 508 8 = some (8, 1, false) := by kernel_rfl
theorem pl508_9 : plOf Tryz.prog 508 9 = some (9, 1) := by kernel_rfl
theorem fd508_9 : fdOf Tryz.prog 508 9 = some (9, 506) := by kernel_rfl
theorem pt508_9 : ptOf Tryz.prog 508 9 = some (9, 1, false) := by kernel_rfl
theorem pl508_10 : plOf Tryz.prog 508 10 = some (10, 1) := by kernel_rfl
theorem fd508_10 : fdOf Tryz.prog 508 10 = some (10, 507) := by kernel_rfl
theorem pt508_10 : ptOf Tryz.prog 508 10 = some (10, 1, false) := by kernel_rfl
theorem sz509 : szOf Tryz.prog 509 = some 11 := by kernel_rfl
theorem ag509 : aggOf Tryz.prog 509 = some true := by kernel_rfl
theorem zo509 : zOf Tryz.prog 509 = some (Go.Value.agg #[Go.Value.int Go.IntKind.u64 0, Go.Value.int Go.IntKind.u64 0, Go.Value.int Go.IntKind.u32 0, Go.Value.int Go.IntKind.u8 0, Go.Value.int Go.IntKind.u8 0, Go.Value.int Go.IntKind.u8 0, Go.Value.int Go.IntKind.u8 0, Go.Value.nilFunc, Go.Value.pointer none, Go.Value.int Go.IntKind.i32 0, Go.Value.int Go.IntKind.i32 0]) := by kernel_rfl
theorem st509 : stOk Tryz.prog 509 = true := by kernel_rfl
theorem pl509_0 : plOf Tryz.prog 509 0 = some (0, 1) := by kernel_rfl
theorem fd509_0 : fdOf Tryz.prog 509 0 = some (0, 12) := by kernel_rfl
theorem pt509_0 : ptOf Tryz.prog 509 0 = some (0, 1, false) := by kernel_rfl
theorem pl509_1 : plOf Tryz.prog 509 1 = some (1, 1) := by kernel_rfl
theorem fd509_1 : fdOf Tryz.prog 509 1 = some (1, 12) := by kernel_rfl
theorem pt509_1 : ptOf Tryz.prog 509 1 = some (1, 1, false) := by kernel_rfl
theorem pl509_2 : plOf Tryz.prog 509 2 = some (2, 1) := by kernel_rfl
theorem fd509_2 : fdOf Tryz.prog 509 2 = some (2, 123) := by kernel_rfl
theorem pt509_2 : ptOf Tryz.prog 509 2 = some (2, 1, false) := by kernel_rfl
theorem pl509_3 : plOf Tryz.prog 509 3 = some (3, 1) := by kernel_rfl
theorem fd509_3 : fdOf Tryz.prog 509 3 = some (3, 503) := by kernel_rfl
theorem pt509_3 : ptOf Tryz.prog 509 3 = some (3, 1, false) := by kernel_rfl
theorem pl509_4 : plOf Tryz.prog 509 4 = some (4, 1) := by kernel_rfl
theorem fd509_4 : fdOf Tryz.prog 509 4 = some (4, 5) := by kernel_rfl
theorem pt509_4 : ptOf Tryz.prog 509 4 = some (4, 1, false) := by kernel_rfl
theorem pl509_5 : plOf Tryz.prog 509 5 = some (5, 1) := by kernel_rfl
theorem fd509_5 : fdOf Tryz.prog 509 5 = some (5, 5) := by kernel_rfl
theorem pt509_5 : ptOf Tryz.prog 509 5 = some (5, 1, false) := by kernel_rfl
theorem pl509_6 : plOf Tryz.prog 509 6 = some (6, 1) := by kernel_rfl
theorem fd509_6 : fdOf Tryz.prog 509 6 = some (6, 504) := by kernel_rfl
theorem pt509_6 : ptOf Tryz.prog 509 6 = some (6, 1, false) := by kernel_rfl
theorem pl509_7 : plOf Tryz.prog 509 7 = some (7, 1) := by kernel_rfl
theorem fd509_7 : fdOf Tryz.prog 509 7 = some (7, 505) := by kernel_rfl
theorem pt509_7 : ptOf Tryz.prog 509 7 = some (7, 1, false) := by kernel_rfl
theorem pl509_8 : plOf Tryz.prog 509 8 = some (8, 1) := by kernel_rfl
theorem fd509_8 : fdOf Tryz.prog 509 8 = some (8, 280) := by kernel_rfl
theorem pt509_8 : ptOf Tryz.prog 509 8 = some (8, 1, false) := by kernel_rfl
theorem pl509_9 : plOf Tryz.prog 509 9 = some (9, 1) := by kernel_rfl
theorem fd509_9 : fdOf Tryz.prog 509 9 = some (9, 506) := by kernel_rfl
theorem pt509_9 : ptOf Tryz.prog 509 9 = some (9, 1, false) := by kernel_rfl
theorem pl509_10 : plOf Tryz.prog 509 10 = some (10, 1) := by kernel_rfl
theorem fd509_10 : fdOf Tryz.prog 509 10 = some (10, 507) := by kernel_rfl
theorem pt509_10 : ptOf Tryz.prog 509 10 = some (10, 1, false) := by kernel_rfl
theorem sz510 : szOf Tryz.prog 510 = some 2 := by kernel_rfl
theorem ag510 : aggOf Tryz.prog 510 = some true := by kernel_rfl
theorem zo510 : zOf Tryz.prog 510 = some (Go.Value.agg #[Go.Value.string { data := #[] }, Go.Value.int Go.IntKind.u8 0]) := by kernel_rfl
theorem st510 : stOk Tryz.prog 510 = true := by kernel_rfl
theorem pl510_0 : plOf Tryz.prog 510 0 = some (0, 1) := by kernel_rfl
theorem fd510_0 : fdOf Tryz.prog 510 0 = some (0, 9) := by kernel_rfl
theorem pt510_0 : ptOf Tryz.prog 510 0 = some (0, 1, false) := by kernel_rfl
theorem pl510_1 : plOf Tryz.prog 510 1 = some (1, 1) := by kernel_rfl
theorem fd510_1 : fdOf Tryz.prog 510 1 = some (1, 504) := by kernel_rfl
theorem pt510_1 : ptOf Tryz.prog 510 1 = some (1, 1, false) := by kernel_rfl
theorem sz511 : szOf Tryz.prog 511 = some 2 := by kernel_rfl
theorem ag511 : aggOf Tryz.prog 511 = some true := by kernel_rfl
theorem zo511 : zOf Tryz.prog 511 = some (Go.Value.agg #[Go.Value.string { data := #[] }, Go.Value.int Go.IntKind.u8 0]) := by kernel_rfl
theorem st511 : stOk Tryz.prog 511 = true := by kernel_rfl
theorem pl511_0 : plOf Tryz.prog 511 0 = some (0, 1) := by kernel_rfl
theorem fd511_0 : fdOf Tryz.prog 511 0 = some (0, 9) := by kernel_rfl
theorem pt511_0 : ptOf Tryz.prog 511 0 = some (0, 1, false) := by kernel_rfl
theorem pl511_1 : plOf Tryz.prog 511 1 = some (1, 1) := by kernel_rfl
theorem fd511_1 : fdOf Tryz.prog 511 1 = some (1, 504) := by kernel_rfl
theorem pt511_1 : ptOf Tryz.prog 511 1 = some (1, 1, false) := by kernel_rfl
theorem mixed : Tryz.prog.follows .mixedOrders = true := by kernel_rfl
theorem ls9 {s : ByteArray} {K : V → Prop} : lenK Tryz.prog 9 (.d (.val (.string s))) K = K (.d (.val (.int .i64 s.size))) := lenK_str Tryz.underlying9
theorem ls10 {s : ByteArray} {K : V → Prop} : lenK Tryz.prog 10 (.d (.val (.string s))) K = K (.d (.val (.int .i64 s.size))) := lenK_str Tryz.underlying10
theorem ls11 {s : ByteArray} {K : V → Prop} : lenK Tryz.prog 11 (.d (.val (.string s))) K = K (.d (.val (.int .i64 s.size))) := lenK_str Tryz.underlying11
theorem ln22 {xs : List (List D)} {K : V → Prop} : lenK Tryz.prog 22 (.d (.sl xs)) K = K (.d (.val (.int .i64 xs.length))) := lenK_sl el22
theorem lz22 {a : Option Addr} {m k : Nat} {K : V → Prop} : lenK Tryz.prog 22 (.d (.val (.slice a m k))) K = K (.d (.val (.int .i64 m))) := lenK_nil el22
theorem lm22 {o k off len : Nat} {K : V → Prop} : lenK Tryz.prog 22 (.msl o k off len) K = K (.d (.val (.int .i64 len))) := lenK_msl el22
theorem la22 {o m : Nat} {out : List (List V)} {K : V → Prop} : lenK Tryz.prog 22 (accV o m out) K = K (.d (.val (.int .i64 out.length))) := lenK_acc el22
theorem ln25 {xs : List (List D)} {K : V → Prop} : lenK Tryz.prog 25 (.d (.sl xs)) K = K (.d (.val (.int .i64 xs.length))) := lenK_sl el25
theorem lz25 {a : Option Addr} {m k : Nat} {K : V → Prop} : lenK Tryz.prog 25 (.d (.val (.slice a m k))) K = K (.d (.val (.int .i64 m))) := lenK_nil el25
theorem lm25 {o k off len : Nat} {K : V → Prop} : lenK Tryz.prog 25 (.msl o k off len) K = K (.d (.val (.int .i64 len))) := lenK_msl el25
theorem la25 {o m : Nat} {out : List (List V)} {K : V → Prop} : lenK Tryz.prog 25 (accV o m out) K = K (.d (.val (.int .i64 out.length))) := lenK_acc el25
theorem ln36 {xs : List (List D)} {K : V → Prop} : lenK Tryz.prog 36 (.d (.sl xs)) K = K (.d (.val (.int .i64 xs.length))) := lenK_sl el36
theorem lz36 {a : Option Addr} {m k : Nat} {K : V → Prop} : lenK Tryz.prog 36 (.d (.val (.slice a m k))) K = K (.d (.val (.int .i64 m))) := lenK_nil el36
theorem lm36 {o k off len : Nat} {K : V → Prop} : lenK Tryz.prog 36 (.msl o k off len) K = K (.d (.val (.int .i64 len))) := lenK_msl el36
theorem la36 {o m : Nat} {out : List (List V)} {K : V → Prop} : lenK Tryz.prog 36 (accV o m out) K = K (.d (.val (.int .i64 out.length))) := lenK_acc el36
theorem ln37 {xs : List (List D)} {K : V → Prop} : lenK Tryz.prog 37 (.d (.sl xs)) K = K (.d (.val (.int .i64 xs.length))) := lenK_sl el37
theorem lz37 {a : Option Addr} {m k : Nat} {K : V → Prop} : lenK Tryz.prog 37 (.d (.val (.slice a m k))) K = K (.d (.val (.int .i64 m))) := lenK_nil el37
theorem lm37 {o k off len : Nat} {K : V → Prop} : lenK Tryz.prog 37 (.msl o k off len) K = K (.d (.val (.int .i64 len))) := lenK_msl el37
theorem la37 {o m : Nat} {out : List (List V)} {K : V → Prop} : lenK Tryz.prog 37 (accV o m out) K = K (.d (.val (.int .i64 out.length))) := lenK_acc el37
theorem ln38 {xs : List (List D)} {K : V → Prop} : lenK Tryz.prog 38 (.d (.sl xs)) K = K (.d (.val (.int .i64 xs.length))) := lenK_sl el38
theorem lz38 {a : Option Addr} {m k : Nat} {K : V → Prop} : lenK Tryz.prog 38 (.d (.val (.slice a m k))) K = K (.d (.val (.int .i64 m))) := lenK_nil el38
theorem lm38 {o k off len : Nat} {K : V → Prop} : lenK Tryz.prog 38 (.msl o k off len) K = K (.d (.val (.int .i64 len))) := lenK_msl el38
theorem la38 {o m : Nat} {out : List (List V)} {K : V → Prop} : lenK Tryz.prog 38 (accV o m out) K = K (.d (.val (.int .i64 out.length))) := lenK_acc el38
theorem ln39 {xs : List (List D)} {K : V → Prop} : lenK Tryz.prog 39 (.d (.sl xs)) K = K (.d (.val (.int .i64 xs.length))) := lenK_sl el39
theorem lz39 {a : Option Addr} {m k : Nat} {K : V → Prop} : lenK Tryz.prog 39 (.d (.val (.slice a m k))) K = K (.d (.val (.int .i64 m))) := lenK_nil el39
theorem lm39 {o k off len : Nat} {K : V → Prop} : lenK Tryz.prog 39 (.msl o k off len) K = K (.d (.val (.int .i64 len))) := lenK_msl el39
theorem la39 {o m : Nat} {out : List (List V)} {K : V → Prop} : lenK Tryz.prog 39 (accV o m out) K = K (.d (.val (.int .i64 out.length))) := lenK_acc el39
theorem ln40 {xs : List (List D)} {K : V → Prop} : lenK Tryz.prog 40 (.d (.sl xs)) K = K (.d (.val (.int .i64 xs.length))) := lenK_sl el40
theorem lz40 {a : Option Addr} {m k : Nat} {K : V → Prop} : lenK Tryz.prog 40 (.d (.val (.slice a m k))) K = K (.d (.val (.int .i64 m))) := lenK_nil el40
theorem lm40 {o k off len : Nat} {K : V → Prop} : lenK Tryz.prog 40 (.msl o k off len) K = K (.d (.val (.int .i64 len))) := lenK_msl el40
theorem la40 {o m : Nat} {out : List (List V)} {K : V → Prop} : lenK Tryz.prog 40 (accV o m out) K = K (.d (.val (.int .i64 out.length))) := lenK_acc el40
theorem ln41 {xs : List (List D)} {K : V → Prop} : lenK Tryz.prog 41 (.d (.sl xs)) K = K (.d (.val (.int .i64 xs.length))) := lenK_sl el41
theorem lz41 {a : Option Addr} {m k : Nat} {K : V → Prop} : lenK Tryz.prog 41 (.d (.val (.slice a m k))) K = K (.d (.val (.int .i64 m))) := lenK_nil el41
theorem lm41 {o k off len : Nat} {K : V → Prop} : lenK Tryz.prog 41 (.msl o k off len) K = K (.d (.val (.int .i64 len))) := lenK_msl el41
theorem la41 {o m : Nat} {out : List (List V)} {K : V → Prop} : lenK Tryz.prog 41 (accV o m out) K = K (.d (.val (.int .i64 out.length))) := lenK_acc el41
theorem ln42 {xs : List (List D)} {K : V → Prop} : lenK Tryz.prog 42 (.d (.sl xs)) K = K (.d (.val (.int .i64 xs.length))) := lenK_sl el42
theorem lz42 {a : Option Addr} {m k : Nat} {K : V → Prop} : lenK Tryz.prog 42 (.d (.val (.slice a m k))) K = K (.d (.val (.int .i64 m))) := lenK_nil el42
theorem lm42 {o k off len : Nat} {K : V → Prop} : lenK Tryz.prog 42 (.msl o k off len) K = K (.d (.val (.int .i64 len))) := lenK_msl el42
theorem la42 {o m : Nat} {out : List (List V)} {K : V → Prop} : lenK Tryz.prog 42 (accV o m out) K = K (.d (.val (.int .i64 out.length))) := lenK_acc el42
theorem ln45 {xs : List (List D)} {K : V → Prop} : lenK Tryz.prog 45 (.d (.sl xs)) K = K (.d (.val (.int .i64 xs.length))) := lenK_sl el45
theorem lz45 {a : Option Addr} {m k : Nat} {K : V → Prop} : lenK Tryz.prog 45 (.d (.val (.slice a m k))) K = K (.d (.val (.int .i64 m))) := lenK_nil el45
theorem lm45 {o k off len : Nat} {K : V → Prop} : lenK Tryz.prog 45 (.msl o k off len) K = K (.d (.val (.int .i64 len))) := lenK_msl el45
theorem la45 {o m : Nat} {out : List (List V)} {K : V → Prop} : lenK Tryz.prog 45 (accV o m out) K = K (.d (.val (.int .i64 out.length))) := lenK_acc el45
theorem ln56 {xs : List (List D)} {K : V → Prop} : lenK Tryz.prog 56 (.d (.sl xs)) K = K (.d (.val (.int .i64 xs.length))) := lenK_sl el56
theorem lz56 {a : Option Addr} {m k : Nat} {K : V → Prop} : lenK Tryz.prog 56 (.d (.val (.slice a m k))) K = K (.d (.val (.int .i64 m))) := lenK_nil el56
theorem lm56 {o k off len : Nat} {K : V → Prop} : lenK Tryz.prog 56 (.msl o k off len) K = K (.d (.val (.int .i64 len))) := lenK_msl el56
theorem la56 {o m : Nat} {out : List (List V)} {K : V → Prop} : lenK Tryz.prog 56 (accV o m out) K = K (.d (.val (.int .i64 out.length))) := lenK_acc el56
theorem ln70 {xs : List (List D)} {K : V → Prop} : lenK Tryz.prog 70 (.d (.sl xs)) K = K (.d (.val (.int .i64 xs.length))) := lenK_sl el70
theorem lz70 {a : Option Addr} {m k : Nat} {K : V → Prop} : lenK Tryz.prog 70 (.d (.val (.slice a m k))) K = K (.d (.val (.int .i64 m))) := lenK_nil el70
theorem lm70 {o k off len : Nat} {K : V → Prop} : lenK Tryz.prog 70 (.msl o k off len) K = K (.d (.val (.int .i64 len))) := lenK_msl el70
theorem la70 {o m : Nat} {out : List (List V)} {K : V → Prop} : lenK Tryz.prog 70 (accV o m out) K = K (.d (.val (.int .i64 out.length))) := lenK_acc el70
theorem ln79 {xs : List (List D)} {K : V → Prop} : lenK Tryz.prog 79 (.d (.sl xs)) K = K (.d (.val (.int .i64 xs.length))) := lenK_sl el79
theorem lz79 {a : Option Addr} {m k : Nat} {K : V → Prop} : lenK Tryz.prog 79 (.d (.val (.slice a m k))) K = K (.d (.val (.int .i64 m))) := lenK_nil el79
theorem lm79 {o k off len : Nat} {K : V → Prop} : lenK Tryz.prog 79 (.msl o k off len) K = K (.d (.val (.int .i64 len))) := lenK_msl el79
theorem la79 {o m : Nat} {out : List (List V)} {K : V → Prop} : lenK Tryz.prog 79 (accV o m out) K = K (.d (.val (.int .i64 out.length))) := lenK_acc el79
theorem ln115 {xs : List (List D)} {K : V → Prop} : lenK Tryz.prog 115 (.d (.sl xs)) K = K (.d (.val (.int .i64 xs.length))) := lenK_sl el115
theorem lz115 {a : Option Addr} {m k : Nat} {K : V → Prop} : lenK Tryz.prog 115 (.d (.val (.slice a m k))) K = K (.d (.val (.int .i64 m))) := lenK_nil el115
theorem lm115 {o k off len : Nat} {K : V → Prop} : lenK Tryz.prog 115 (.msl o k off len) K = K (.d (.val (.int .i64 len))) := lenK_msl el115
theorem la115 {o m : Nat} {out : List (List V)} {K : V → Prop} : lenK Tryz.prog 115 (accV o m out) K = K (.d (.val (.int .i64 out.length))) := lenK_acc el115
theorem ln136 {xs : List (List D)} {K : V → Prop} : lenK Tryz.prog 136 (.d (.sl xs)) K = K (.d (.val (.int .i64 xs.length))) := lenK_sl el136
theorem lz136 {a : Option Addr} {m k : Nat} {K : V → Prop} : lenK Tryz.prog 136 (.d (.val (.slice a m k))) K = K (.d (.val (.int .i64 m))) := lenK_nil el136
theorem lm136 {o k off len : Nat} {K : V → Prop} : lenK Tryz.prog 136 (.msl o k off len) K = K (.d (.val (.int .i64 len))) := lenK_msl el136
theorem la136 {o m : Nat} {out : List (List V)} {K : V → Prop} : lenK Tryz.prog 136 (accV o m out) K = K (.d (.val (.int .i64 out.length))) := lenK_acc el136
theorem ln186 {xs : List (List D)} {K : V → Prop} : lenK Tryz.prog 186 (.d (.sl xs)) K = K (.d (.val (.int .i64 xs.length))) := lenK_sl el186
theorem lz186 {a : Option Addr} {m k : Nat} {K : V → Prop} : lenK Tryz.prog 186 (.d (.val (.slice a m k))) K = K (.d (.val (.int .i64 m))) := lenK_nil el186
theorem lm186 {o k off len : Nat} {K : V → Prop} : lenK Tryz.prog 186 (.msl o k off len) K = K (.d (.val (.int .i64 len))) := lenK_msl el186
theorem la186 {o m : Nat} {out : List (List V)} {K : V → Prop} : lenK Tryz.prog 186 (accV o m out) K = K (.d (.val (.int .i64 out.length))) := lenK_acc el186
theorem ln273 {xs : List (List D)} {K : V → Prop} : lenK Tryz.prog 273 (.d (.sl xs)) K = K (.d (.val (.int .i64 xs.length))) := lenK_sl el273
theorem lz273 {a : Option Addr} {m k : Nat} {K : V → Prop} : lenK Tryz.prog 273 (.d (.val (.slice a m k))) K = K (.d (.val (.int .i64 m))) := lenK_nil el273
theorem lm273 {o k off len : Nat} {K : V → Prop} : lenK Tryz.prog 273 (.msl o k off len) K = K (.d (.val (.int .i64 len))) := lenK_msl el273
theorem la273 {o m : Nat} {out : List (List V)} {K : V → Prop} : lenK Tryz.prog 273 (accV o m out) K = K (.d (.val (.int .i64 out.length))) := lenK_acc el273
theorem ln317 {xs : List (List D)} {K : V → Prop} : lenK Tryz.prog 317 (.d (.sl xs)) K = K (.d (.val (.int .i64 xs.length))) := lenK_sl el317
theorem lz317 {a : Option Addr} {m k : Nat} {K : V → Prop} : lenK Tryz.prog 317 (.d (.val (.slice a m k))) K = K (.d (.val (.int .i64 m))) := lenK_nil el317
theorem lm317 {o k off len : Nat} {K : V → Prop} : lenK Tryz.prog 317 (.msl o k off len) K = K (.d (.val (.int .i64 len))) := lenK_msl el317
theorem la317 {o m : Nat} {out : List (List V)} {K : V → Prop} : lenK Tryz.prog 317 (accV o m out) K = K (.d (.val (.int .i64 out.length))) := lenK_acc el317
theorem ln322 {xs : List (List D)} {K : V → Prop} : lenK Tryz.prog 322 (.d (.sl xs)) K = K (.d (.val (.int .i64 xs.length))) := lenK_sl el322
theorem lz322 {a : Option Addr} {m k : Nat} {K : V → Prop} : lenK Tryz.prog 322 (.d (.val (.slice a m k))) K = K (.d (.val (.int .i64 m))) := lenK_nil el322
theorem lm322 {o k off len : Nat} {K : V → Prop} : lenK Tryz.prog 322 (.msl o k off len) K = K (.d (.val (.int .i64 len))) := lenK_msl el322
theorem la322 {o m : Nat} {out : List (List V)} {K : V → Prop} : lenK Tryz.prog 322 (accV o m out) K = K (.d (.val (.int .i64 out.length))) := lenK_acc el322
theorem ln323 {xs : List (List D)} {K : V → Prop} : lenK Tryz.prog 323 (.d (.sl xs)) K = K (.d (.val (.int .i64 xs.length))) := lenK_sl el323
theorem lz323 {a : Option Addr} {m k : Nat} {K : V → Prop} : lenK Tryz.prog 323 (.d (.val (.slice a m k))) K = K (.d (.val (.int .i64 m))) := lenK_nil el323
theorem lm323 {o k off len : Nat} {K : V → Prop} : lenK Tryz.prog 323 (.msl o k off len) K = K (.d (.val (.int .i64 len))) := lenK_msl el323
theorem la323 {o m : Nat} {out : List (List V)} {K : V → Prop} : lenK Tryz.prog 323 (accV o m out) K = K (.d (.val (.int .i64 out.length))) := lenK_acc el323
theorem ln437 {xs : List (List D)} {K : V → Prop} : lenK Tryz.prog 437 (.d (.sl xs)) K = K (.d (.val (.int .i64 xs.length))) := lenK_sl el437
theorem lz437 {a : Option Addr} {m k : Nat} {K : V → Prop} : lenK Tryz.prog 437 (.d (.val (.slice a m k))) K = K (.d (.val (.int .i64 m))) := lenK_nil el437
theorem lm437 {o k off len : Nat} {K : V → Prop} : lenK Tryz.prog 437 (.msl o k off len) K = K (.d (.val (.int .i64 len))) := lenK_msl el437
theorem la437 {o m : Nat} {out : List (List V)} {K : V → Prop} : lenK Tryz.prog 437 (accV o m out) K = K (.d (.val (.int .i64 out.length))) := lenK_acc el437
theorem ln449 {xs : List (List D)} {K : V → Prop} : lenK Tryz.prog 449 (.d (.sl xs)) K = K (.d (.val (.int .i64 xs.length))) := lenK_sl el449
theorem lz449 {a : Option Addr} {m k : Nat} {K : V → Prop} : lenK Tryz.prog 449 (.d (.val (.slice a m k))) K = K (.d (.val (.int .i64 m))) := lenK_nil el449
theorem lm449 {o k off len : Nat} {K : V → Prop} : lenK Tryz.prog 449 (.msl o k off len) K = K (.d (.val (.int .i64 len))) := lenK_msl el449
theorem la449 {o m : Nat} {out : List (List V)} {K : V → Prop} : lenK Tryz.prog 449 (accV o m out) K = K (.d (.val (.int .i64 out.length))) := lenK_acc el449
end Go.Proofs.YtafipfdohicfbaaGreatDoor
