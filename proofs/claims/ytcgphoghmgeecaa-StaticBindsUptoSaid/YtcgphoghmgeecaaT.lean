/- The table facts of the program (printed by wip/tools/types.py). -/
import Derived.Test.YtcgphoghmgeecaaProg
import Derived.Test.YtcgphoghmgeecaaIsoR
namespace Go.Proofs.Ytcgphoghmgeecaa
open Go Go.Iso Go.Proofs
set_option maxRecDepth 100000
set_option linter.unusedVariables false
theorem sz1 : szOf Try.prog 1 = some 1 := by kernel_rfl
theorem ag1 : aggOf Try.prog 1 = some false := by kernel_rfl
theorem zo1 : zOf Try.prog 1 = some Go.Value.nilFunc := by kernel_rfl
theorem sz2 : szOf Try.prog 2 = some 1 := by kernel_rfl
theorem ag2 : aggOf Try.prog 2 = some false := by kernel_rfl
theorem zo2 : zOf Try.prog 2 = some (Go.Value.int Go.IntKind.i64 0) := by kernel_rfl
theorem sz3 : szOf Try.prog 3 = some 1 := by kernel_rfl
theorem ag3 : aggOf Try.prog 3 = some false := by kernel_rfl
theorem zo3 : zOf Try.prog 3 = some (Go.Value.int Go.IntKind.i64 0) := by kernel_rfl
theorem sz4 : szOf Try.prog 4 = some 1 := by kernel_rfl
theorem ag4 : aggOf Try.prog 4 = some false := by kernel_rfl
theorem zo4 : zOf Try.prog 4 = some (Go.Value.bool false) := by kernel_rfl
theorem bo4 : boolT Try.prog 4 = true := by kernel_rfl
theorem sz5 : szOf Try.prog 5 = some 1 := by kernel_rfl
theorem ag5 : aggOf Try.prog 5 = some false := by kernel_rfl
theorem zo5 : zOf Try.prog 5 = some (Go.Value.int Go.IntKind.u8 0) := by kernel_rfl
theorem sz6 : szOf Try.prog 6 = some 1 := by kernel_rfl
theorem ag6 : aggOf Try.prog 6 = some false := by kernel_rfl
theorem zo6 : zOf Try.prog 6 = some (Go.Value.int Go.IntKind.u8 0) := by kernel_rfl
theorem sz7 : szOf Try.prog 7 = some 4 := by kernel_rfl
theorem ag7 : aggOf Try.prog 7 = some true := by kernel_rfl
theorem zo7 : zOf Try.prog 7 = some (Go.Value.agg #[Go.Value.int Go.IntKind.i64 0, Go.Value.int Go.IntKind.i64 0, Go.Value.bool false, Go.Value.int Go.IntKind.u8 0]) := by kernel_rfl
theorem st7 : stOk Try.prog 7 = true := by kernel_rfl
theorem pl7_0 : plOf Try.prog 7 0 = some (0, 1) := by kernel_rfl
theorem fd7_0 : fdOf Try.prog 7 0 = some (0, 2) := by kernel_rfl
theorem pt7_0 : ptOf Try.prog 7 0 = some (0, 1, false) := by kernel_rfl
theorem pl7_1 : plOf Try.prog 7 1 = some (1, 1) := by kernel_rfl
theorem fd7_1 : fdOf Try.prog 7 1 = some (1, 3) := by kernel_rfl
theorem pt7_1 : ptOf Try.prog 7 1 = some (1, 1, false) := by kernel_rfl
theorem pl7_2 : plOf Try.prog 7 2 = some (2, 1) := by kernel_rfl
theorem fd7_2 : fdOf Try.prog 7 2 = some (2, 4) := by kernel_rfl
theorem pt7_2 : ptOf Try.prog 7 2 = some (2, 1, false) := by kernel_rfl
theorem pl7_3 : plOf Try.prog 7 3 = some (3, 1) := by kernel_rfl
theorem fd7_3 : fdOf Try.prog 7 3 = some (3, 6) := by kernel_rfl
theorem pt7_3 : ptOf Try.prog 7 3 = some (3, 1, false) := by kernel_rfl
theorem sz8 : szOf Try.prog 8 = some 4 := by kernel_rfl
theorem ag8 : aggOf Try.prog 8 = some true := by kernel_rfl
theorem zo8 : zOf Try.prog 8 = some (Go.Value.agg #[Go.Value.int Go.IntKind.i64 0, Go.Value.int Go.IntKind.i64 0, Go.Value.bool false, Go.Value.int Go.IntKind.u8 0]) := by kernel_rfl
theorem st8 : stOk Try.prog 8 = true := by kernel_rfl
theorem pl8_0 : plOf Try.prog 8 0 = some (0, 1) := by kernel_rfl
theorem fd8_0 : fdOf Try.prog 8 0 = some (0, 2) := by kernel_rfl
theorem pt8_0 : ptOf Try.prog 8 0 = some (0, 1, false) := by kernel_rfl
theorem pl8_1 : plOf Try.prog 8 1 = some (1, 1) := by kernel_rfl
theorem fd8_1 : fdOf Try.prog 8 1 = some (1, 3) := by kernel_rfl
theorem pt8_1 : ptOf Try.prog 8 1 = some (1, 1, false) := by kernel_rfl
theorem pl8_2 : plOf Try.prog 8 2 = some (2, 1) := by kernel_rfl
theorem fd8_2 : fdOf Try.prog 8 2 = some (2, 4) := by kernel_rfl
theorem pt8_2 : ptOf Try.prog 8 2 = some (2, 1, false) := by kernel_rfl
theorem pl8_3 : plOf Try.prog 8 3 = some (3, 1) := by kernel_rfl
theorem fd8_3 : fdOf Try.prog 8 3 = some (3, 6) := by kernel_rfl
theorem pt8_3 : ptOf Try.prog 8 3 = some (3, 1, false) := by kernel_rfl
theorem sz9 : szOf Try.prog 9 = some 1 := by kernel_rfl
theorem ag9 : aggOf Try.prog 9 = some false := by kernel_rfl
theorem zo9 : zOf Try.prog 9 = some (Go.Value.string { data := #[] }) := by kernel_rfl
theorem sq9 : seqT Try.prog 9 = true := by kernel_rfl
theorem ls9 {s : ByteArray} {K : V → Prop} : lenK Try.prog 9 (.d (.val (.string s))) K = K (.d (.val (.int .i64 s.size))) := lenK_str Try.underlying9
theorem us9 : Try.prog.underlying 9 = some .string := Try.underlying9
theorem sz10 : szOf Try.prog 10 = some 1 := by kernel_rfl
theorem ag10 : aggOf Try.prog 10 = some false := by kernel_rfl
theorem zo10 : zOf Try.prog 10 = some (Go.Value.string { data := #[] }) := by kernel_rfl
theorem sq10 : seqT Try.prog 10 = true := by kernel_rfl
theorem ls10 {s : ByteArray} {K : V → Prop} : lenK Try.prog 10 (.d (.val (.string s))) K = K (.d (.val (.int .i64 s.size))) := lenK_str Try.underlying10
theorem us10 : Try.prog.underlying 10 = some .string := Try.underlying10
theorem sz11 : szOf Try.prog 11 = some 1 := by kernel_rfl
theorem ag11 : aggOf Try.prog 11 = some false := by kernel_rfl
theorem zo11 : zOf Try.prog 11 = some (Go.Value.string { data := #[] }) := by kernel_rfl
theorem sq11 : seqT Try.prog 11 = true := by kernel_rfl
theorem ls11 {s : ByteArray} {K : V → Prop} : lenK Try.prog 11 (.d (.val (.string s))) K = K (.d (.val (.int .i64 s.size))) := lenK_str Try.underlying11
theorem us11 : Try.prog.underlying 11 = some .string := Try.underlying11
theorem sz12 : szOf Try.prog 12 = some 1 := by kernel_rfl
theorem ag12 : aggOf Try.prog 12 = some false := by kernel_rfl
theorem zo12 : zOf Try.prog 12 = some (Go.Value.int Go.IntKind.u64 0) := by kernel_rfl
theorem sz13 : szOf Try.prog 13 = some 2 := by kernel_rfl
theorem ag13 : aggOf Try.prog 13 = some true := by kernel_rfl
theorem zo13 : zOf Try.prog 13 = some (Go.Value.agg #[Go.Value.string { data := #[] }, Go.Value.int Go.IntKind.u64 0]) := by kernel_rfl
theorem st13 : stOk Try.prog 13 = true := by kernel_rfl
theorem pl13_0 : plOf Try.prog 13 0 = some (0, 1) := by kernel_rfl
theorem fd13_0 : fdOf Try.prog 13 0 = some (0, 9) := by kernel_rfl
theorem pt13_0 : ptOf Try.prog 13 0 = some (0, 1, false) := by kernel_rfl
theorem pl13_1 : plOf Try.prog 13 1 = some (1, 1) := by kernel_rfl
theorem fd13_1 : fdOf Try.prog 13 1 = some (1, 12) := by kernel_rfl
theorem pt13_1 : ptOf Try.prog 13 1 = some (1, 1, false) := by kernel_rfl
theorem sz14 : szOf Try.prog 14 = some 2 := by kernel_rfl
theorem ag14 : aggOf Try.prog 14 = some true := by kernel_rfl
theorem zo14 : zOf Try.prog 14 = some (Go.Value.agg #[Go.Value.string { data := #[] }, Go.Value.int Go.IntKind.u64 0]) := by kernel_rfl
theorem st14 : stOk Try.prog 14 = true := by kernel_rfl
theorem pl14_0 : plOf Try.prog 14 0 = some (0, 1) := by kernel_rfl
theorem fd14_0 : fdOf Try.prog 14 0 = some (0, 9) := by kernel_rfl
theorem pt14_0 : ptOf Try.prog 14 0 = some (0, 1, false) := by kernel_rfl
theorem pl14_1 : plOf Try.prog 14 1 = some (1, 1) := by kernel_rfl
theorem fd14_1 : fdOf Try.prog 14 1 = some (1, 12) := by kernel_rfl
theorem pt14_1 : ptOf Try.prog 14 1 = some (1, 1, false) := by kernel_rfl
theorem sz15 : szOf Try.prog 15 = some 1 := by kernel_rfl
theorem ag15 : aggOf Try.prog 15 = some false := by kernel_rfl
theorem zo15 : zOf Try.prog 15 = some (Go.Value.pointer none) := by kernel_rfl
theorem sz16 : szOf Try.prog 16 = some 1 := by kernel_rfl
theorem ag16 : aggOf Try.prog 16 = some false := by kernel_rfl
theorem zo16 : zOf Try.prog 16 = some (Go.Value.pointer none) := by kernel_rfl
theorem sz17 : szOf Try.prog 17 = some 1 := by kernel_rfl
theorem ag17 : aggOf Try.prog 17 = some false := by kernel_rfl
theorem zo17 : zOf Try.prog 17 = some (Go.Value.pointer none) := by kernel_rfl
theorem sz18 : szOf Try.prog 18 = some 1 := by kernel_rfl
theorem ag18 : aggOf Try.prog 18 = some true := by kernel_rfl
theorem zo18 : zOf Try.prog 18 = some (Go.Value.agg #[Go.Value.pointer none]) := by kernel_rfl
theorem st18 : stOk Try.prog 18 = true := by kernel_rfl
theorem pl18_0 : plOf Try.prog 18 0 = some (0, 1) := by kernel_rfl
theorem fd18_0 : fdOf Try.prog 18 0 = some (0, 17) := by kernel_rfl
theorem pt18_0 : ptOf Try.prog 18 0 = some (0, 1, false) := by kernel_rfl
theorem sz19 : szOf Try.prog 19 = some 1 := by kernel_rfl
theorem ag19 : aggOf Try.prog 19 = some true := by kernel_rfl
theorem zo19 : zOf Try.prog 19 = some (Go.Value.agg #[Go.Value.pointer none]) := by kernel_rfl
theorem st19 : stOk Try.prog 19 = true := by kernel_rfl
theorem pl19_0 : plOf Try.prog 19 0 = some (0, 1) := by kernel_rfl
theorem fd19_0 : fdOf Try.prog 19 0 = some (0, 17) := by kernel_rfl
theorem pt19_0 : ptOf Try.prog 19 0 = some (0, 1, false) := by kernel_rfl
theorem sz21 : szOf Try.prog 21 = some 1 := by kernel_rfl
theorem ag21 : aggOf Try.prog 21 = some false := by kernel_rfl
theorem zo21 : zOf Try.prog 21 = some (Go.Value.int Go.IntKind.i32 0) := by kernel_rfl
theorem sz22 : szOf Try.prog 22 = some 1 := by kernel_rfl
theorem ag22 : aggOf Try.prog 22 = some false := by kernel_rfl
theorem zo22 : zOf Try.prog 22 = some (Go.Value.slice none 0 0) := by kernel_rfl
theorem sq22 : seqT Try.prog 22 = true := by kernel_rfl
theorem el22 : elOf Try.prog 22 = some 9 := by kernel_rfl
theorem es22 : esOf Try.prog 22 = some 1 := by kernel_rfl
theorem et22 : elT Try.prog 22 = some (1, 16, [V.d (D.val (Go.Value.string { data := #[] }))]) := by kernel_rfl
theorem ln22 {xs : List (List D)} {K : V → Prop} : lenK Try.prog 22 (.d (.sl xs)) K = K (.d (.val (.int .i64 xs.length))) := lenK_sl el22
theorem lz22 {a : Option Addr} {m k : Nat} {K : V → Prop} : lenK Try.prog 22 (.d (.val (.slice a m k))) K = K (.d (.val (.int .i64 m))) := lenK_nil el22
theorem lm22 {o k off len : Nat} {K : V → Prop} : lenK Try.prog 22 (.msl o k off len) K = K (.d (.val (.int .i64 len))) := lenK_msl el22
theorem sz23 : szOf Try.prog 23 = some 2 := by kernel_rfl
theorem ag23 : aggOf Try.prog 23 = some true := by kernel_rfl
theorem zo23 : zOf Try.prog 23 = some (Go.Value.agg #[Go.Value.bool false, Go.Value.slice none 0 0]) := by kernel_rfl
theorem st23 : stOk Try.prog 23 = true := by kernel_rfl
theorem pl23_0 : plOf Try.prog 23 0 = some (0, 1) := by kernel_rfl
theorem fd23_0 : fdOf Try.prog 23 0 = some (0, 4) := by kernel_rfl
theorem pt23_0 : ptOf Try.prog 23 0 = some (0, 1, false) := by kernel_rfl
theorem pl23_1 : plOf Try.prog 23 1 = some (1, 1) := by kernel_rfl
theorem fd23_1 : fdOf Try.prog 23 1 = some (1, 22) := by kernel_rfl
theorem pt23_1 : ptOf Try.prog 23 1 = some (1, 1, false) := by kernel_rfl
theorem sz24 : szOf Try.prog 24 = some 2 := by kernel_rfl
theorem ag24 : aggOf Try.prog 24 = some true := by kernel_rfl
theorem zo24 : zOf Try.prog 24 = some (Go.Value.agg #[Go.Value.bool false, Go.Value.slice none 0 0]) := by kernel_rfl
theorem st24 : stOk Try.prog 24 = true := by kernel_rfl
theorem pl24_0 : plOf Try.prog 24 0 = some (0, 1) := by kernel_rfl
theorem fd24_0 : fdOf Try.prog 24 0 = some (0, 4) := by kernel_rfl
theorem pt24_0 : ptOf Try.prog 24 0 = some (0, 1, false) := by kernel_rfl
theorem pl24_1 : plOf Try.prog 24 1 = some (1, 1) := by kernel_rfl
theorem fd24_1 : fdOf Try.prog 24 1 = some (1, 22) := by kernel_rfl
theorem pt24_1 : ptOf Try.prog 24 1 = some (1, 1, false) := by kernel_rfl
theorem sz25 : szOf Try.prog 25 = some 1 := by kernel_rfl
theorem ag25 : aggOf Try.prog 25 = some false := by kernel_rfl
theorem zo25 : zOf Try.prog 25 = some Go.Value.nilFunc := by kernel_rfl
theorem sz26 : szOf Try.prog 26 = some 1 := by kernel_rfl
theorem ag26 : aggOf Try.prog 26 = some false := by kernel_rfl
theorem zo26 : zOf Try.prog 26 = some Go.Value.nilFunc := by kernel_rfl
theorem sz27 : szOf Try.prog 27 = some 1 := by kernel_rfl
theorem ag27 : aggOf Try.prog 27 = some false := by kernel_rfl
theorem zo27 : zOf Try.prog 27 = some Go.Value.nilFunc := by kernel_rfl
theorem sz28 : szOf Try.prog 28 = some 1 := by kernel_rfl
theorem ag28 : aggOf Try.prog 28 = some false := by kernel_rfl
theorem zo28 : zOf Try.prog 28 = some (Go.Value.int Go.IntKind.i64 0) := by kernel_rfl
theorem sz30 : szOf Try.prog 30 = some 1 := by kernel_rfl
theorem ag30 : aggOf Try.prog 30 = some false := by kernel_rfl
theorem zo30 : zOf Try.prog 30 = some Go.Value.nilFunc := by kernel_rfl
theorem sz31 : szOf Try.prog 31 = some 1 := by kernel_rfl
theorem ag31 : aggOf Try.prog 31 = some false := by kernel_rfl
theorem zo31 : zOf Try.prog 31 = some Go.Value.nilFunc := by kernel_rfl
theorem sz33 : szOf Try.prog 33 = some 1 := by kernel_rfl
theorem ag33 : aggOf Try.prog 33 = some false := by kernel_rfl
theorem zo33 : zOf Try.prog 33 = some Go.Value.nilFunc := by kernel_rfl
theorem sz34 : szOf Try.prog 34 = some 1 := by kernel_rfl
theorem ag34 : aggOf Try.prog 34 = some false := by kernel_rfl
theorem zo34 : zOf Try.prog 34 = some Go.Value.nilFunc := by kernel_rfl
theorem sz35 : szOf Try.prog 35 = some 1 := by kernel_rfl
theorem ag35 : aggOf Try.prog 35 = some false := by kernel_rfl
theorem zo35 : zOf Try.prog 35 = some Go.Value.nilFunc := by kernel_rfl
theorem sz36 : szOf Try.prog 36 = some 1 := by kernel_rfl
theorem ag36 : aggOf Try.prog 36 = some false := by kernel_rfl
theorem zo36 : zOf Try.prog 36 = some (Go.Value.slice none 0 0) := by kernel_rfl
theorem sq36 : seqT Try.prog 36 = true := by kernel_rfl
theorem el36 : elOf Try.prog 36 = some 75 := by kernel_rfl
theorem es36 : esOf Try.prog 36 = some 1 := by kernel_rfl
theorem et36 : elT Try.prog 36 = some (1, 4, [V.d (D.val (Go.Value.int Go.IntKind.u32 0))]) := by kernel_rfl
theorem ln36 {xs : List (List D)} {K : V → Prop} : lenK Try.prog 36 (.d (.sl xs)) K = K (.d (.val (.int .i64 xs.length))) := lenK_sl el36
theorem lz36 {a : Option Addr} {m k : Nat} {K : V → Prop} : lenK Try.prog 36 (.d (.val (.slice a m k))) K = K (.d (.val (.int .i64 m))) := lenK_nil el36
theorem lm36 {o k off len : Nat} {K : V → Prop} : lenK Try.prog 36 (.msl o k off len) K = K (.d (.val (.int .i64 len))) := lenK_msl el36
theorem sz37 : szOf Try.prog 37 = some 3 := by kernel_rfl
theorem ag37 : aggOf Try.prog 37 = some true := by kernel_rfl
theorem zo37 : zOf Try.prog 37 = some (Go.Value.agg #[Go.Value.bool false, Go.Value.slice none 0 0, Go.Value.slice none 0 0]) := by kernel_rfl
theorem st37 : stOk Try.prog 37 = true := by kernel_rfl
theorem pl37_0 : plOf Try.prog 37 0 = some (0, 1) := by kernel_rfl
theorem fd37_0 : fdOf Try.prog 37 0 = some (0, 4) := by kernel_rfl
theorem pt37_0 : ptOf Try.prog 37 0 = some (0, 1, false) := by kernel_rfl
theorem pl37_1 : plOf Try.prog 37 1 = some (1, 1) := by kernel_rfl
theorem fd37_1 : fdOf Try.prog 37 1 = some (1, 36) := by kernel_rfl
theorem pt37_1 : ptOf Try.prog 37 1 = some (1, 1, false) := by kernel_rfl
theorem pl37_2 : plOf Try.prog 37 2 = some (2, 1) := by kernel_rfl
theorem fd37_2 : fdOf Try.prog 37 2 = some (2, 36) := by kernel_rfl
theorem pt37_2 : ptOf Try.prog 37 2 = some (2, 1, false) := by kernel_rfl
theorem sz38 : szOf Try.prog 38 = some 3 := by kernel_rfl
theorem ag38 : aggOf Try.prog 38 = some true := by kernel_rfl
theorem zo38 : zOf Try.prog 38 = some (Go.Value.agg #[Go.Value.bool false, Go.Value.slice none 0 0, Go.Value.slice none 0 0]) := by kernel_rfl
theorem st38 : stOk Try.prog 38 = true := by kernel_rfl
theorem pl38_0 : plOf Try.prog 38 0 = some (0, 1) := by kernel_rfl
theorem fd38_0 : fdOf Try.prog 38 0 = some (0, 4) := by kernel_rfl
theorem pt38_0 : ptOf Try.prog 38 0 = some (0, 1, false) := by kernel_rfl
theorem pl38_1 : plOf Try.prog 38 1 = some (1, 1) := by kernel_rfl
theorem fd38_1 : fdOf Try.prog 38 1 = some (1, 36) := by kernel_rfl
theorem pt38_1 : ptOf Try.prog 38 1 = some (1, 1, false) := by kernel_rfl
theorem pl38_2 : plOf Try.prog 38 2 = some (2, 1) := by kernel_rfl
theorem fd38_2 : fdOf Try.prog 38 2 = some (2, 36) := by kernel_rfl
theorem pt38_2 : ptOf Try.prog 38 2 = some (2, 1, false) := by kernel_rfl
theorem sz39 : szOf Try.prog 39 = some 1 := by kernel_rfl
theorem ag39 : aggOf Try.prog 39 = some false := by kernel_rfl
theorem zo39 : zOf Try.prog 39 = some (Go.Value.slice none 0 0) := by kernel_rfl
theorem sq39 : seqT Try.prog 39 = true := by kernel_rfl
theorem el39 : elOf Try.prog 39 = some 41 := by kernel_rfl
theorem es39 : esOf Try.prog 39 = some 6 := by kernel_rfl
theorem et39 : elT Try.prog 39 = some (6, 104, [V.d (D.val (Go.Value.int Go.IntKind.i64 0)), V.d (D.val (Go.Value.string { data := #[] })), V.d (D.val (Go.Value.bool false)), V.d (D.val (Go.Value.slice none 0 0)), V.d (D.val (Go.Value.slice none 0 0)), V.d (D.val (Go.Value.slice none 0 0))]) := by kernel_rfl
theorem ln39 {xs : List (List D)} {K : V → Prop} : lenK Try.prog 39 (.d (.sl xs)) K = K (.d (.val (.int .i64 xs.length))) := lenK_sl el39
theorem lz39 {a : Option Addr} {m k : Nat} {K : V → Prop} : lenK Try.prog 39 (.d (.val (.slice a m k))) K = K (.d (.val (.int .i64 m))) := lenK_nil el39
theorem lm39 {o k off len : Nat} {K : V → Prop} : lenK Try.prog 39 (.msl o k off len) K = K (.d (.val (.int .i64 len))) := lenK_msl el39
theorem sz40 : szOf Try.prog 40 = some 6 := by kernel_rfl
theorem ag40 : aggOf Try.prog 40 = some true := by kernel_rfl
theorem zo40 : zOf Try.prog 40 = some (Go.Value.agg #[Go.Value.int Go.IntKind.i64 0, Go.Value.string { data := #[] }, Go.Value.bool false, Go.Value.slice none 0 0, Go.Value.slice none 0 0, Go.Value.slice none 0 0]) := by kernel_rfl
theorem st40 : stOk Try.prog 40 = true := by kernel_rfl
theorem pl40_0 : plOf Try.prog 40 0 = some (0, 1) := by kernel_rfl
theorem fd40_0 : fdOf Try.prog 40 0 = some (0, 3) := by kernel_rfl
theorem pt40_0 : ptOf Try.prog 40 0 = some (0, 1, false) := by kernel_rfl
theorem pl40_1 : plOf Try.prog 40 1 = some (1, 1) := by kernel_rfl
theorem fd40_1 : fdOf Try.prog 40 1 = some (1, 9) := by kernel_rfl
theorem pt40_1 : ptOf Try.prog 40 1 = some (1, 1, false) := by kernel_rfl
theorem pl40_2 : plOf Try.prog 40 2 = some (2, 3) := by kernel_rfl
theorem fd40_2 : fdOf Try.prog 40 2 = some (2, 38) := by kernel_rfl
theorem pt40_2 : ptOf Try.prog 40 2 = some (2, 3, true) := by kernel_rfl
theorem pl40_3 : plOf Try.prog 40 3 = some (5, 1) := by kernel_rfl
theorem fd40_3 : fdOf Try.prog 40 3 = some (5, 39) := by kernel_rfl
theorem pt40_3 : ptOf Try.prog 40 3 = some (5, 1, false) := by kernel_rfl
theorem sz41 : szOf Try.prog 41 = some 6 := by kernel_rfl
theorem ag41 : aggOf Try.prog 41 = some true := by kernel_rfl
theorem zo41 : zOf Try.prog 41 = some (Go.Value.agg #[Go.Value.int Go.IntKind.i64 0, Go.Value.string { data := #[] }, Go.Value.bool false, Go.Value.slice none 0 0, Go.Value.slice none 0 0, Go.Value.slice none 0 0]) := by kernel_rfl
theorem st41 : stOk Try.prog 41 = true := by kernel_rfl
theorem pl41_0 : plOf Try.prog 41 0 = some (0, 1) := by kernel_rfl
theorem fd41_0 : fdOf Try.prog 41 0 = some (0, 3) := by kernel_rfl
theorem pt41_0 : ptOf Try.prog 41 0 = some (0, 1, false) := by kernel_rfl
theorem pl41_1 : plOf Try.prog 41 1 = some (1, 1) := by kernel_rfl
theorem fd41_1 : fdOf Try.prog 41 1 = some (1, 9) := by kernel_rfl
theorem pt41_1 : ptOf Try.prog 41 1 = some (1, 1, false) := by kernel_rfl
theorem pl41_2 : plOf Try.prog 41 2 = some (2, 3) := by kernel_rfl
theorem fd41_2 : fdOf Try.prog 41 2 = some (2, 38) := by kernel_rfl
theorem pt41_2 : ptOf Try.prog 41 2 = some (2, 3, true) := by kernel_rfl
theorem pl41_3 : plOf Try.prog 41 3 = some (5, 1) := by kernel_rfl
theorem fd41_3 : fdOf Try.prog 41 3 = some (5, 39) := by kernel_rfl
theorem pt41_3 : ptOf Try.prog 41 3 = some (5, 1, false) := by kernel_rfl
theorem sz42 : szOf Try.prog 42 = some 1 := by kernel_rfl
theorem ag42 : aggOf Try.prog 42 = some false := by kernel_rfl
theorem zo42 : zOf Try.prog 42 = some Go.Value.nilFunc := by kernel_rfl
theorem sz43 : szOf Try.prog 43 = some 1 := by kernel_rfl
theorem ag43 : aggOf Try.prog 43 = some false := by kernel_rfl
theorem zo43 : zOf Try.prog 43 = some Go.Value.nilFunc := by kernel_rfl
theorem sz44 : szOf Try.prog 44 = some 1 := by kernel_rfl
theorem ag44 : aggOf Try.prog 44 = some false := by kernel_rfl
theorem zo44 : zOf Try.prog 44 = some Go.Value.nilFunc := by kernel_rfl
theorem sz45 : szOf Try.prog 45 = some 1 := by kernel_rfl
theorem ag45 : aggOf Try.prog 45 = some false := by kernel_rfl
theorem zo45 : zOf Try.prog 45 = some Go.Value.nilFunc := by kernel_rfl
theorem sz46 : szOf Try.prog 46 = some 1 := by kernel_rfl
theorem ag46 : aggOf Try.prog 46 = some false := by kernel_rfl
theorem zo46 : zOf Try.prog 46 = some (Go.Value.slice none 0 0) := by kernel_rfl
theorem sq46 : seqT Try.prog 46 = true := by kernel_rfl
theorem el46 : elOf Try.prog 46 = some 3 := by kernel_rfl
theorem es46 : esOf Try.prog 46 = some 1 := by kernel_rfl
theorem et46 : elT Try.prog 46 = some (1, 8, [V.d (D.val (Go.Value.int Go.IntKind.i64 0))]) := by kernel_rfl
theorem ln46 {xs : List (List D)} {K : V → Prop} : lenK Try.prog 46 (.d (.sl xs)) K = K (.d (.val (.int .i64 xs.length))) := lenK_sl el46
theorem lz46 {a : Option Addr} {m k : Nat} {K : V → Prop} : lenK Try.prog 46 (.d (.val (.slice a m k))) K = K (.d (.val (.int .i64 m))) := lenK_nil el46
theorem lm46 {o k off len : Nat} {K : V → Prop} : lenK Try.prog 46 (.msl o k off len) K = K (.d (.val (.int .i64 len))) := lenK_msl el46
theorem sz48 : szOf Try.prog 48 = some 1 := by kernel_rfl
theorem ag48 : aggOf Try.prog 48 = some false := by kernel_rfl
theorem zo48 : zOf Try.prog 48 = some Go.Value.nilFunc := by kernel_rfl
theorem sz49 : szOf Try.prog 49 = some 1 := by kernel_rfl
theorem ag49 : aggOf Try.prog 49 = some false := by kernel_rfl
theorem zo49 : zOf Try.prog 49 = some Go.Value.nilFunc := by kernel_rfl
theorem sz50 : szOf Try.prog 50 = some 1 := by kernel_rfl
theorem ag50 : aggOf Try.prog 50 = some false := by kernel_rfl
theorem zo50 : zOf Try.prog 50 = some Go.Value.nilFunc := by kernel_rfl
theorem sz51 : szOf Try.prog 51 = some 1 := by kernel_rfl
theorem ag51 : aggOf Try.prog 51 = some false := by kernel_rfl
theorem zo51 : zOf Try.prog 51 = some Go.Value.nilFunc := by kernel_rfl
theorem sz52 : szOf Try.prog 52 = some 1 := by kernel_rfl
theorem ag52 : aggOf Try.prog 52 = some false := by kernel_rfl
theorem zo52 : zOf Try.prog 52 = some Go.Value.nilFunc := by kernel_rfl
theorem sz53 : szOf Try.prog 53 = some 1 := by kernel_rfl
theorem ag53 : aggOf Try.prog 53 = some false := by kernel_rfl
theorem zo53 : zOf Try.prog 53 = some Go.Value.nilFunc := by kernel_rfl
theorem sz54 : szOf Try.prog 54 = some 1 := by kernel_rfl
theorem ag54 : aggOf Try.prog 54 = some false := by kernel_rfl
theorem zo54 : zOf Try.prog 54 = some Go.Value.nilFunc := by kernel_rfl
theorem sz55 : szOf Try.prog 55 = some 1 := by kernel_rfl
theorem ag55 : aggOf Try.prog 55 = some false := by kernel_rfl
theorem zo55 : zOf Try.prog 55 = some Go.Value.nilFunc := by kernel_rfl
theorem sz56 : szOf Try.prog 56 = some 1 := by kernel_rfl
theorem ag56 : aggOf Try.prog 56 = some false := by kernel_rfl
theorem zo56 : zOf Try.prog 56 = some Go.Value.nilFunc := by kernel_rfl
theorem sz57 : szOf Try.prog 57 = some 1 := by kernel_rfl
theorem ag57 : aggOf Try.prog 57 = some false := by kernel_rfl
theorem zo57 : zOf Try.prog 57 = some Go.Value.nilFunc := by kernel_rfl
theorem sz58 : szOf Try.prog 58 = some 1 := by kernel_rfl
theorem ag58 : aggOf Try.prog 58 = some false := by kernel_rfl
theorem zo58 : zOf Try.prog 58 = some Go.Value.nilFunc := by kernel_rfl
theorem sz59 : szOf Try.prog 59 = some 1 := by kernel_rfl
theorem ag59 : aggOf Try.prog 59 = some false := by kernel_rfl
theorem zo59 : zOf Try.prog 59 = some Go.Value.nilFunc := by kernel_rfl
theorem sz60 : szOf Try.prog 60 = some 1 := by kernel_rfl
theorem ag60 : aggOf Try.prog 60 = some false := by kernel_rfl
theorem zo60 : zOf Try.prog 60 = some Go.Value.nilFunc := by kernel_rfl
theorem sz61 : szOf Try.prog 61 = some 1 := by kernel_rfl
theorem ag61 : aggOf Try.prog 61 = some false := by kernel_rfl
theorem zo61 : zOf Try.prog 61 = some Go.Value.nilFunc := by kernel_rfl
theorem sz62 : szOf Try.prog 62 = some 1 := by kernel_rfl
theorem ag62 : aggOf Try.prog 62 = some false := by kernel_rfl
theorem zo62 : zOf Try.prog 62 = some Go.Value.nilFunc := by kernel_rfl
theorem sz63 : szOf Try.prog 63 = some 1 := by kernel_rfl
theorem ag63 : aggOf Try.prog 63 = some false := by kernel_rfl
theorem zo63 : zOf Try.prog 63 = some Go.Value.nilFunc := by kernel_rfl
theorem sz64 : szOf Try.prog 64 = some 1 := by kernel_rfl
theorem ag64 : aggOf Try.prog 64 = some false := by kernel_rfl
theorem zo64 : zOf Try.prog 64 = some Go.Value.nilFunc := by kernel_rfl
theorem sz65 : szOf Try.prog 65 = some 1 := by kernel_rfl
theorem ag65 : aggOf Try.prog 65 = some false := by kernel_rfl
theorem zo65 : zOf Try.prog 65 = some Go.Value.nilFunc := by kernel_rfl
theorem sz66 : szOf Try.prog 66 = some 1 := by kernel_rfl
theorem ag66 : aggOf Try.prog 66 = some false := by kernel_rfl
theorem zo66 : zOf Try.prog 66 = some Go.Value.nilFunc := by kernel_rfl
theorem sz67 : szOf Try.prog 67 = some 1 := by kernel_rfl
theorem ag67 : aggOf Try.prog 67 = some false := by kernel_rfl
theorem zo67 : zOf Try.prog 67 = some Go.Value.nilFunc := by kernel_rfl
theorem sz68 : szOf Try.prog 68 = some 1 := by kernel_rfl
theorem ag68 : aggOf Try.prog 68 = some false := by kernel_rfl
theorem zo68 : zOf Try.prog 68 = some Go.Value.nilFunc := by kernel_rfl
theorem sz69 : szOf Try.prog 69 = some 1 := by kernel_rfl
theorem ag69 : aggOf Try.prog 69 = some false := by kernel_rfl
theorem zo69 : zOf Try.prog 69 = some Go.Value.nilFunc := by kernel_rfl
theorem sz70 : szOf Try.prog 70 = some 1 := by kernel_rfl
theorem ag70 : aggOf Try.prog 70 = some false := by kernel_rfl
theorem zo70 : zOf Try.prog 70 = some Go.Value.nilFunc := by kernel_rfl
theorem sz71 : szOf Try.prog 71 = some 1 := by kernel_rfl
theorem ag71 : aggOf Try.prog 71 = some false := by kernel_rfl
theorem zo71 : zOf Try.prog 71 = some Go.Value.nilFunc := by kernel_rfl
theorem sz72 : szOf Try.prog 72 = some 1 := by kernel_rfl
theorem ag72 : aggOf Try.prog 72 = some false := by kernel_rfl
theorem zo72 : zOf Try.prog 72 = some Go.Value.nilFunc := by kernel_rfl
theorem sz73 : szOf Try.prog 73 = some 1 := by kernel_rfl
theorem ag73 : aggOf Try.prog 73 = some false := by kernel_rfl
theorem zo73 : zOf Try.prog 73 = some (Go.Value.int Go.IntKind.u64 0) := by kernel_rfl
theorem sz74 : szOf Try.prog 74 = some 1 := by kernel_rfl
theorem ag74 : aggOf Try.prog 74 = some false := by kernel_rfl
theorem zo74 : zOf Try.prog 74 = some Go.Value.nilFunc := by kernel_rfl
theorem sz75 : szOf Try.prog 75 = some 1 := by kernel_rfl
theorem ag75 : aggOf Try.prog 75 = some false := by kernel_rfl
theorem zo75 : zOf Try.prog 75 = some (Go.Value.int Go.IntKind.u32 0) := by kernel_rfl
theorem sz76 : szOf Try.prog 76 = some 1 := by kernel_rfl
theorem ag76 : aggOf Try.prog 76 = some false := by kernel_rfl
theorem zo76 : zOf Try.prog 76 = some Go.Value.nilFunc := by kernel_rfl
theorem sz77 : szOf Try.prog 77 = some 1 := by kernel_rfl
theorem ag77 : aggOf Try.prog 77 = some false := by kernel_rfl
theorem zo77 : zOf Try.prog 77 = some (Go.Value.pointer none) := by kernel_rfl
theorem sz78 : szOf Try.prog 78 = some 1 := by kernel_rfl
theorem ag78 : aggOf Try.prog 78 = some false := by kernel_rfl
theorem zo78 : zOf Try.prog 78 = some Go.Value.nilFunc := by kernel_rfl
theorem sz79 : szOf Try.prog 79 = some 3 := by kernel_rfl
theorem ag79 : aggOf Try.prog 79 = some true := by kernel_rfl
theorem zo79 : zOf Try.prog 79 = some (Go.Value.agg #[Go.Value.bool false, Go.Value.bool false, Go.Value.bool false]) := by kernel_rfl
theorem st79 : stOk Try.prog 79 = true := by kernel_rfl
theorem pl79_0 : plOf Try.prog 79 0 = some (0, 1) := by kernel_rfl
theorem fd79_0 : fdOf Try.prog 79 0 = some (0, 4) := by kernel_rfl
theorem pt79_0 : ptOf Try.prog 79 0 = some (0, 1, false) := by kernel_rfl
theorem pl79_1 : plOf Try.prog 79 1 = some (1, 1) := by kernel_rfl
theorem fd79_1 : fdOf Try.prog 79 1 = some (1, 4) := by kernel_rfl
theorem pt79_1 : ptOf Try.prog 79 1 = some (1, 1, false) := by kernel_rfl
theorem pl79_2 : plOf Try.prog 79 2 = some (2, 1) := by kernel_rfl
theorem fd79_2 : fdOf Try.prog 79 2 = some (2, 4) := by kernel_rfl
theorem pt79_2 : ptOf Try.prog 79 2 = some (2, 1, false) := by kernel_rfl
theorem sz80 : szOf Try.prog 80 = some 3 := by kernel_rfl
theorem ag80 : aggOf Try.prog 80 = some true := by kernel_rfl
theorem zo80 : zOf Try.prog 80 = some (Go.Value.agg #[Go.Value.bool false, Go.Value.bool false, Go.Value.bool false]) := by kernel_rfl
theorem st80 : stOk Try.prog 80 = true := by kernel_rfl
theorem pl80_0 : plOf Try.prog 80 0 = some (0, 1) := by kernel_rfl
theorem fd80_0 : fdOf Try.prog 80 0 = some (0, 4) := by kernel_rfl
theorem pt80_0 : ptOf Try.prog 80 0 = some (0, 1, false) := by kernel_rfl
theorem pl80_1 : plOf Try.prog 80 1 = some (1, 1) := by kernel_rfl
theorem fd80_1 : fdOf Try.prog 80 1 = some (1, 4) := by kernel_rfl
theorem pt80_1 : ptOf Try.prog 80 1 = some (1, 1, false) := by kernel_rfl
theorem pl80_2 : plOf Try.prog 80 2 = some (2, 1) := by kernel_rfl
theorem fd80_2 : fdOf Try.prog 80 2 = some (2, 4) := by kernel_rfl
theorem pt80_2 : ptOf Try.prog 80 2 = some (2, 1, false) := by kernel_rfl
theorem sz81 : szOf Try.prog 81 = some 1 := by kernel_rfl
theorem ag81 : aggOf Try.prog 81 = some false := by kernel_rfl
theorem zo81 : zOf Try.prog 81 = some Go.Value.nilFunc := by kernel_rfl
theorem sz83 : szOf Try.prog 83 = some 1 := by kernel_rfl
theorem ag83 : aggOf Try.prog 83 = some false := by kernel_rfl
theorem zo83 : zOf Try.prog 83 = some Go.Value.nilFunc := by kernel_rfl
theorem sz84 : szOf Try.prog 84 = some 1 := by kernel_rfl
theorem ag84 : aggOf Try.prog 84 = some false := by kernel_rfl
theorem zo84 : zOf Try.prog 84 = some Go.Value.nilFunc := by kernel_rfl
theorem sz85 : szOf Try.prog 85 = some 1 := by kernel_rfl
theorem ag85 : aggOf Try.prog 85 = some false := by kernel_rfl
theorem zo85 : zOf Try.prog 85 = some Go.Value.nilFunc := by kernel_rfl
theorem sz86 : szOf Try.prog 86 = some 1 := by kernel_rfl
theorem ag86 : aggOf Try.prog 86 = some false := by kernel_rfl
theorem zo86 : zOf Try.prog 86 = some Go.Value.nilFunc := by kernel_rfl
theorem sz87 : szOf Try.prog 87 = some 1 := by kernel_rfl
theorem ag87 : aggOf Try.prog 87 = some false := by kernel_rfl
theorem zo87 : zOf Try.prog 87 = some Go.Value.nilFunc := by kernel_rfl
theorem sz88 : szOf Try.prog 88 = some 1 := by kernel_rfl
theorem ag88 : aggOf Try.prog 88 = some false := by kernel_rfl
theorem zo88 : zOf Try.prog 88 = some (Go.Value.int Go.IntKind.i64 0) := by kernel_rfl
theorem sz90 : szOf Try.prog 90 = some 1 := by kernel_rfl
theorem ag90 : aggOf Try.prog 90 = some false := by kernel_rfl
theorem zo90 : zOf Try.prog 90 = some Go.Value.nilFunc := by kernel_rfl
theorem sz91 : szOf Try.prog 91 = some 1 := by kernel_rfl
theorem ag91 : aggOf Try.prog 91 = some false := by kernel_rfl
theorem zo91 : zOf Try.prog 91 = some Go.Value.nilFunc := by kernel_rfl
theorem sz92 : szOf Try.prog 92 = some 1 := by kernel_rfl
theorem ag92 : aggOf Try.prog 92 = some false := by kernel_rfl
theorem zo92 : zOf Try.prog 92 = some Go.Value.nilFunc := by kernel_rfl
theorem sz93 : szOf Try.prog 93 = some 1 := by kernel_rfl
theorem ag93 : aggOf Try.prog 93 = some false := by kernel_rfl
theorem zo93 : zOf Try.prog 93 = some Go.Value.nilFunc := by kernel_rfl
theorem sz95 : szOf Try.prog 95 = some 1 := by kernel_rfl
theorem ag95 : aggOf Try.prog 95 = some false := by kernel_rfl
theorem zo95 : zOf Try.prog 95 = some Go.Value.nilFunc := by kernel_rfl
theorem sz96 : szOf Try.prog 96 = some 1 := by kernel_rfl
theorem ag96 : aggOf Try.prog 96 = some false := by kernel_rfl
theorem zo96 : zOf Try.prog 96 = some Go.Value.nilFunc := by kernel_rfl
theorem sz97 : szOf Try.prog 97 = some 1 := by kernel_rfl
theorem ag97 : aggOf Try.prog 97 = some false := by kernel_rfl
theorem zo97 : zOf Try.prog 97 = some Go.Value.nilFunc := by kernel_rfl
theorem sz98 : szOf Try.prog 98 = some 1 := by kernel_rfl
theorem ag98 : aggOf Try.prog 98 = some false := by kernel_rfl
theorem zo98 : zOf Try.prog 98 = some (Go.Value.int Go.IntKind.u64 0) := by kernel_rfl
theorem sz99 : szOf Try.prog 99 = some 1 := by kernel_rfl
theorem ag99 : aggOf Try.prog 99 = some false := by kernel_rfl
theorem zo99 : zOf Try.prog 99 = some Go.Value.nilFunc := by kernel_rfl
theorem sz100 : szOf Try.prog 100 = some 1 := by kernel_rfl
theorem ag100 : aggOf Try.prog 100 = some false := by kernel_rfl
theorem zo100 : zOf Try.prog 100 = some Go.Value.nilFunc := by kernel_rfl
theorem sz101 : szOf Try.prog 101 = some 1 := by kernel_rfl
theorem ag101 : aggOf Try.prog 101 = some false := by kernel_rfl
theorem zo101 : zOf Try.prog 101 = some (Go.Value.int Go.IntKind.u64 0) := by kernel_rfl
theorem sz102 : szOf Try.prog 102 = some 1 := by kernel_rfl
theorem ag102 : aggOf Try.prog 102 = some false := by kernel_rfl
theorem zo102 : zOf Try.prog 102 = some Go.Value.nilFunc := by kernel_rfl
theorem sz103 : szOf Try.prog 103 = some 1 := by kernel_rfl
theorem ag103 : aggOf Try.prog 103 = some false := by kernel_rfl
theorem zo103 : zOf Try.prog 103 = some Go.Value.nilFunc := by kernel_rfl
theorem sz104 : szOf Try.prog 104 = some 1 := by kernel_rfl
theorem ag104 : aggOf Try.prog 104 = some false := by kernel_rfl
theorem zo104 : zOf Try.prog 104 = some Go.Value.nilFunc := by kernel_rfl
theorem sz105 : szOf Try.prog 105 = some 1 := by kernel_rfl
theorem ag105 : aggOf Try.prog 105 = some false := by kernel_rfl
theorem zo105 : zOf Try.prog 105 = some Go.Value.nilFunc := by kernel_rfl
theorem sz106 : szOf Try.prog 106 = some 1 := by kernel_rfl
theorem ag106 : aggOf Try.prog 106 = some false := by kernel_rfl
theorem zo106 : zOf Try.prog 106 = some Go.Value.nilFunc := by kernel_rfl
theorem sz108 : szOf Try.prog 108 = some 1 := by kernel_rfl
theorem ag108 : aggOf Try.prog 108 = some false := by kernel_rfl
theorem zo108 : zOf Try.prog 108 = some Go.Value.nilFunc := by kernel_rfl
theorem sz110 : szOf Try.prog 110 = some 1 := by kernel_rfl
theorem ag110 : aggOf Try.prog 110 = some false := by kernel_rfl
theorem zo110 : zOf Try.prog 110 = some Go.Value.nilFunc := by kernel_rfl
theorem sz112 : szOf Try.prog 112 = some 1 := by kernel_rfl
theorem ag112 : aggOf Try.prog 112 = some false := by kernel_rfl
theorem zo112 : zOf Try.prog 112 = some Go.Value.nilFunc := by kernel_rfl
theorem sz113 : szOf Try.prog 113 = some 1 := by kernel_rfl
theorem ag113 : aggOf Try.prog 113 = some false := by kernel_rfl
theorem zo113 : zOf Try.prog 113 = some Go.Value.nilFunc := by kernel_rfl
theorem sz114 : szOf Try.prog 114 = some 1 := by kernel_rfl
theorem ag114 : aggOf Try.prog 114 = some false := by kernel_rfl
theorem zo114 : zOf Try.prog 114 = some (Go.Value.pointer none) := by kernel_rfl
theorem sz116 : szOf Try.prog 116 = some 1 := by kernel_rfl
theorem ag116 : aggOf Try.prog 116 = some false := by kernel_rfl
theorem zo116 : zOf Try.prog 116 = some Go.Value.nilFunc := by kernel_rfl
theorem sz117 : szOf Try.prog 117 = some 1 := by kernel_rfl
theorem ag117 : aggOf Try.prog 117 = some false := by kernel_rfl
theorem zo117 : zOf Try.prog 117 = some Go.Value.nilFunc := by kernel_rfl
theorem sz118 : szOf Try.prog 118 = some 1 := by kernel_rfl
theorem ag118 : aggOf Try.prog 118 = some false := by kernel_rfl
theorem zo118 : zOf Try.prog 118 = some Go.Value.nilFunc := by kernel_rfl
theorem sz119 : szOf Try.prog 119 = some 1 := by kernel_rfl
theorem ag119 : aggOf Try.prog 119 = some false := by kernel_rfl
theorem zo119 : zOf Try.prog 119 = some Go.Value.nilFunc := by kernel_rfl
theorem sz121 : szOf Try.prog 121 = some 1 := by kernel_rfl
theorem ag121 : aggOf Try.prog 121 = some false := by kernel_rfl
theorem zo121 : zOf Try.prog 121 = some Go.Value.nilFunc := by kernel_rfl
theorem sz122 : szOf Try.prog 122 = some 1 := by kernel_rfl
theorem ag122 : aggOf Try.prog 122 = some false := by kernel_rfl
theorem zo122 : zOf Try.prog 122 = some Go.Value.nilFunc := by kernel_rfl
theorem sz123 : szOf Try.prog 123 = some 1 := by kernel_rfl
theorem ag123 : aggOf Try.prog 123 = some false := by kernel_rfl
theorem zo123 : zOf Try.prog 123 = some Go.Value.nilFunc := by kernel_rfl
theorem sz124 : szOf Try.prog 124 = some 1 := by kernel_rfl
theorem ag124 : aggOf Try.prog 124 = some false := by kernel_rfl
theorem zo124 : zOf Try.prog 124 = some Go.Value.nilFunc := by kernel_rfl
theorem mixed : Try.prog.follows .mixedOrders = true := by kernel_rfl
end Go.Proofs.Ytcgphoghmgeecaa
