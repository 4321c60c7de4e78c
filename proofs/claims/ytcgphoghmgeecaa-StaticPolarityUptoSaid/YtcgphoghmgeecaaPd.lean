/- Part of the proof of a law: contracts of the functions that the law reaches, or plain laws of them, out of the abstract layer (the texts YtcgphoghmgeecaaIso..). No condition. -/
import Derived.Test.YtcgphoghmgeecaaW
import Derived.Test.YtcgphoghmgeecaaIsoJ
import Derived.Test.YtcgphoghmgeecaaLman
import Derived.Test.YtcgphoghmgeecaaPc
namespace Go.Proofs.Ytcgphoghmgeecaa
open Go Go.Iso Go.Proofs
set_option linter.unusedSimpArgs false
set_option linter.unusedVariables false
set_option maxRecDepth 100000

/-! ### isochrone/static.Polarity -/
def static_Polarity (K : Nat) (p0 : NodeA) (p1 : List Int) : Option (Int × Int) := (static_check K p0).bind fun r1 => 
  if (r1 != (0 : Int)) then
    some ((0 : Int), r1)
  else
    (tree_Sort K p0.op).bind fun r4 => 
    if (r4 != (2 : Int)) then
      some ((0 : Int), (80 : Int))
    else
      ((iter (S := Int × Int × NodeA) (R := Out (Int × NodeA) _) K (fun again (i7_0, i7_1, i7_2) => 
        if (decide (i7_1 < (p1.length : Int))) then
          ((
            (idx p1 i7_1).bind fun x14 => 
            ((
              ((
                if (decide (x14 < (0 : Int))) then
                  some true
                else
                  some (decide ((i7_2.kids.length : Int) ≤ x14))) : Option Bool).bind (fun v18_0 => 
              if v18_0 then
                outM (
                  outM (
                    outM (
                      some ((0 : Int), (1 : Int)))))
              else
                some (.go ()))) : Option (Out Unit _)).bind (Out.fin fun _ => 
            ((
              ((
                if (i7_2.op == (28 : Int)) then
                  some true
                else
                  if (i7_2.op == (31 : Int)) then
                    some (x14 == (0 : Int))
                  else
                    some false) : Option Bool).bind (fun v24_0 => 
              if v24_0 then
                some (IntKind.wrap .i64 (0 - i7_0))
              else
                ((
                  if (i7_2.op == (29 : Int)) then
                    some true
                  else
                    if (i7_2.op == (30 : Int)) then
                      some true
                    else
                      if (i7_2.op == (31 : Int)) then
                        some true
                      else
                        if (i7_2.op == (33 : Int)) then
                          some true
                        else
                          some (i7_2.op == (34 : Int))) : Option Bool).bind (fun v29_0 => 
                if v29_0 then
                  some i7_0
                else
                  ((
                    if (i7_2.op == (35 : Int)) then
                      some (x14 == (1 : Int))
                    else
                      if (i7_2.op == (36 : Int)) then
                        some (x14 == (1 : Int))
                      else
                        some false) : Option Bool).bind (fun v36_0 => 
                  if v36_0 then
                    some i7_0
                  else
                    some (0 : Int))))) : Option Int).bind (fun v22_0 => 
            (idx i7_2.kids x14).bind fun x41 => 
            some (.go (v22_0, x41))))) : Option (Out (Int × NodeA) _)).bind (Out.fin fun (v12_0, v12_1) => 
          again (v12_0, IntKind.wrap .i64 (i7_1 + (1 : Int)), v12_1))
        else
          some (.go (i7_0, i7_2))) ((1 : Int), (0 : Int), p0)) : Option (Out (Int × NodeA) _)).bind (Out.fin fun (e8_0, e8_1) => 
      (tree_Sort K e8_1.op).bind fun r43 => 
      if (r43 != (2 : Int)) then
        some ((0 : Int), (80 : Int))
      else
        some (e8_0, (0 : Int)))
set_option maxHeartbeats 4000000 in
theorem static_Polarity_ok {K : Nat} {p0 : NodeA} {p1 : List Int} {r : Int × Int} (h : static_Polarity K p0 p1 = some r) : Cn Try.prog 27 [aggV p0.enc, .d (slD i64V p1)] (.tup [.d (.val (.int .i64 r.1)), .d (.val (.int .i64 r.2))]) := by
  refine Cn.ofA mixed Try.func27 rfl Try.call27 Try.ntmps27 Try.results27 (by simp) (by simp only [go_sem, Nat.reduceEqDiff, Nat.reduceAdd, Nat.reduceSub, Nat.reduceMul, Nat.reduceLeDiff, Nat.reduceLT, Nat.reduceBEq, reduceIte]) fun hfit => ?_
  unfold static_Polarity at h
  refine AW.cut [] [(0, .agg [.d (.val (.int .i64 p0.op)), .d (.val (.string p0.name)), .d (.val (.bool p0.num.neg)), .d (slD u32V p0.num.num), .d (slD u32V p0.num.den), .d (slD NodeA.enc p0.kids)]), (1, .d (slD i64V p1))] [] (by simp only [go_sem, Nat.reduceEqDiff, Nat.reduceAdd, Nat.reduceSub, Nat.reduceMul, Nat.reduceLeDiff, Nat.reduceLT, Nat.reduceBEq, reduceIte]) ?_
  refine AW.one ?_
  refine AW.reg mixed (by kernel_rfl) ?_
  try simp only [go_sem, Nat.reduceEqDiff, Nat.reduceAdd, Nat.reduceSub, Nat.reduceMul, Nat.reduceLeDiff, Nat.reduceLT, Nat.reduceBEq, reduceIte]
  refine AW.cut [0] [(1, .d (slD i64V p1)), (2, .ptr 0 6 0 0)] [some ⟨6, [[.d (.val (.int .i64 p0.op)), .d (.val (.string p0.name)), .d (.val (.bool p0.num.neg)), .d (slD u32V p0.num.num), .d (slD u32V p0.num.den), .d (slD NodeA.enc p0.kids)]]⟩] (by simp only [go_sem, Nat.reduceEqDiff, Nat.reduceAdd, Nat.reduceSub, Nat.reduceMul, Nat.reduceLeDiff, Nat.reduceLT, Nat.reduceBEq, reduceIte]) ?_
  refine AW.one ?_
  refine AW.one ?_
  refine AW.reg mixed (by kernel_rfl) ?_
  try simp only [go_sem, Nat.reduceEqDiff, Nat.reduceAdd, Nat.reduceSub, Nat.reduceMul, Nat.reduceLeDiff, Nat.reduceLT, Nat.reduceBEq, reduceIte]
  obtain ⟨r1, hx2, h⟩ := obind h
  have hc := static_check_ok (h := hx2)
  try simp only [NodeA.enc_eta, RatA.enc_eta, aggV, i64V, u32V, strV, List.map_cons, List.map_nil] at hc
  refine callK_pure hc (by simp only [go_sem, Nat.reduceEqDiff, Nat.reduceAdd, Nat.reduceSub, Nat.reduceMul, Nat.reduceLeDiff, Nat.reduceLT, Nat.reduceBEq, reduceIte]) ?_
  try simp only [go_sem, Nat.reduceEqDiff, Nat.reduceAdd, Nat.reduceSub, Nat.reduceMul, Nat.reduceLeDiff, Nat.reduceLT, Nat.reduceBEq, reduceIte]
  refine AW.cut [0] [(1, .d (slD i64V p1)), (2, .ptr 0 6 0 0), (6, .d (.val (.int .i64 r1)))] [some ⟨6, [[.d (.val (.int .i64 p0.op)), .d (.val (.string p0.name)), .d (.val (.bool p0.num.neg)), .d (slD u32V p0.num.num), .d (slD u32V p0.num.den), .d (slD NodeA.enc p0.kids)]]⟩] (by simp only [go_sem, Nat.reduceEqDiff, Nat.reduceAdd, Nat.reduceSub, Nat.reduceMul, Nat.reduceLeDiff, Nat.reduceLT, Nat.reduceBEq, reduceIte]) ?_
  refine AW.one ?_
  refine AW.reg mixed (by kernel_rfl) ?_
  try simp only [go_sem, Nat.reduceEqDiff, Nat.reduceAdd, Nat.reduceSub, Nat.reduceMul, Nat.reduceLeDiff, Nat.reduceLT, Nat.reduceBEq, reduceIte]
  refine AW.cut [0] [(1, .d (slD i64V p1)), (2, .ptr 0 6 0 0), (6, .d (.val (.int .i64 r1))), (13, .d (.val (.bool (r1 != (0 : Int)))))] [some ⟨6, [[.d (.val (.int .i64 p0.op)), .d (.val (.string p0.name)), .d (.val (.bool p0.num.neg)), .d (slD u32V p0.num.num), .d (slD u32V p0.num.den), .d (slD NodeA.enc p0.kids)]]⟩] (by simp only [go_sem, Nat.reduceEqDiff, Nat.reduceAdd, Nat.reduceSub, Nat.reduceMul, Nat.reduceLeDiff, Nat.reduceLT, Nat.reduceBEq, reduceIte]) ?_
  refine AW.test (t := (r1 != (0 : Int))) (by simp only [go_sem, Nat.reduceEqDiff, Nat.reduceAdd, Nat.reduceSub, Nat.reduceMul, Nat.reduceLeDiff, Nat.reduceLT, Nat.reduceBEq, reduceIte]) (fun hb3 => ?_) (fun hb3 => ?_)
  · have h := ifT hb3 h
    refine AW.one ?_
    refine AW.reg mixed (by kernel_rfl) ?_
    try simp only [go_sem, Nat.reduceEqDiff, Nat.reduceAdd, Nat.reduceSub, Nat.reduceMul, Nat.reduceLeDiff, Nat.reduceLT, Nat.reduceBEq, reduceIte]
    refine AW.ret ?_
    obtain rfl := Option.some.inj h
    simp only [go_sem, Nat.reduceEqDiff, Nat.reduceAdd, Nat.reduceSub, Nat.reduceMul, Nat.reduceLeDiff, Nat.reduceLT, Nat.reduceBEq, reduceIte]
    exact .same _
  · have h := ifF hb3 h
    refine AW.skip ?_
    try simp only [go_sem, Nat.reduceEqDiff, Nat.reduceAdd, Nat.reduceSub, Nat.reduceMul, Nat.reduceLeDiff, Nat.reduceLT, Nat.reduceBEq, reduceIte]
    refine AW.cut [0] [(1, .d (slD i64V p1)), (2, .ptr 0 6 0 0)] [some ⟨6, [[.d (.val (.int .i64 p0.op)), .d (.val (.string p0.name)), .d (.val (.bool p0.num.neg)), .d (slD u32V p0.num.num), .d (slD u32V p0.num.den), .d (slD NodeA.enc p0.kids)]]⟩] (by simp only [go_sem, Nat.reduceEqDiff, Nat.reduceAdd, Nat.reduceSub, Nat.reduceMul, Nat.reduceLeDiff, Nat.reduceLT, Nat.reduceBEq, reduceIte]) ?_
    refine AW.one ?_
    refine AW.one ?_
    refine AW.reg mixed (by kernel_rfl) ?_
    try simp only [go_sem, Nat.reduceEqDiff, Nat.reduceAdd, Nat.reduceSub, Nat.reduceMul, Nat.reduceLeDiff, Nat.reduceLT, Nat.reduceBEq, reduceIte]
    obtain ⟨r4, hx5, h⟩ := obind h
    have hc := tree_Sort_ok (h := hx5)
    try simp only [NodeA.enc_eta, RatA.enc_eta, aggV, i64V, u32V, strV, List.map_cons, List.map_nil] at hc
    refine callK_pure hc (by simp only [go_sem, Nat.reduceEqDiff, Nat.reduceAdd, Nat.reduceSub, Nat.reduceMul, Nat.reduceLeDiff, Nat.reduceLT, Nat.reduceBEq, reduceIte]) ?_
    try simp only [go_sem, Nat.reduceEqDiff, Nat.reduceAdd, Nat.reduceSub, Nat.reduceMul, Nat.reduceLeDiff, Nat.reduceLT, Nat.reduceBEq, reduceIte]
    refine AW.cut [0] [(1, .d (slD i64V p1)), (2, .ptr 0 6 0 0), (18, .d (.val (.bool (r4 != (2 : Int)))))] [some ⟨6, [[.d (.val (.int .i64 p0.op)), .d (.val (.string p0.name)), .d (.val (.bool p0.num.neg)), .d (slD u32V p0.num.num), .d (slD u32V p0.num.den), .d (slD NodeA.enc p0.kids)]]⟩] (by simp only [go_sem, Nat.reduceEqDiff, Nat.reduceAdd, Nat.reduceSub, Nat.reduceMul, Nat.reduceLeDiff, Nat.reduceLT, Nat.reduceBEq, reduceIte]) ?_
    refine AW.test (t := (r4 != (2 : Int))) (by simp only [go_sem, Nat.reduceEqDiff, Nat.reduceAdd, Nat.reduceSub, Nat.reduceMul, Nat.reduceLeDiff, Nat.reduceLT, Nat.reduceBEq, reduceIte]) (fun hb6 => ?_) (fun hb6 => ?_)
    · have h := ifT hb6 h
      refine AW.one ?_
      refine AW.reg mixed (by kernel_rfl) ?_
      try simp only [go_sem, Nat.reduceEqDiff, Nat.reduceAdd, Nat.reduceSub, Nat.reduceMul, Nat.reduceLeDiff, Nat.reduceLT, Nat.reduceBEq, reduceIte]
      refine AW.ret ?_
      obtain rfl := Option.some.inj h
      simp only [go_sem, Nat.reduceEqDiff, Nat.reduceAdd, Nat.reduceSub, Nat.reduceMul, Nat.reduceLeDiff, Nat.reduceLT, Nat.reduceBEq, reduceIte]
      exact .same _
    · have h := ifF hb6 h
      refine AW.skip ?_
      try simp only [go_sem, Nat.reduceEqDiff, Nat.reduceAdd, Nat.reduceSub, Nat.reduceMul, Nat.reduceLeDiff, Nat.reduceLT, Nat.reduceBEq, reduceIte]
      refine AW.cut [0] [(1, .d (slD i64V p1)), (2, .ptr 0 6 0 0)] [some ⟨6, [[.d (.val (.int .i64 p0.op)), .d (.val (.string p0.name)), .d (.val (.bool p0.num.neg)), .d (slD u32V p0.num.num), .d (slD u32V p0.num.den), .d (slD NodeA.enc p0.kids)]]⟩] (by simp only [go_sem, Nat.reduceEqDiff, Nat.reduceAdd, Nat.reduceSub, Nat.reduceMul, Nat.reduceLeDiff, Nat.reduceLT, Nat.reduceBEq, reduceIte]) ?_
      refine AW.one ?_
      refine AW.reg mixed (by kernel_rfl) ?_
      try simp only [go_sem, Nat.reduceEqDiff, Nat.reduceAdd, Nat.reduceSub, Nat.reduceMul, Nat.reduceLeDiff, Nat.reduceLT, Nat.reduceBEq, reduceIte]
      refine AW.cut [0] [(1, .d (slD i64V p1)), (2, .ptr 0 6 0 0), (7, .d (.val (.int .i64 (1 : Int))))] [some ⟨6, [[.d (.val (.int .i64 p0.op)), .d (.val (.string p0.name)), .d (.val (.bool p0.num.neg)), .d (slD u32V p0.num.num), .d (slD u32V p0.num.den), .d (slD NodeA.enc p0.kids)]]⟩] (by simp only [go_sem, Nat.reduceEqDiff, Nat.reduceAdd, Nat.reduceSub, Nat.reduceMul, Nat.reduceLeDiff, Nat.reduceLT, Nat.reduceBEq, reduceIte]) ?_
      refine AW.one ?_
      refine AW.one ?_
      refine AW.reg mixed (by kernel_rfl) ?_
      try simp only [go_sem, Nat.reduceEqDiff, Nat.reduceAdd, Nat.reduceSub, Nat.reduceMul, Nat.reduceLeDiff, Nat.reduceLT, Nat.reduceBEq, reduceIte]
      refine AW.cut [0] [(2, .ptr 0 6 0 0), (7, .d (.val (.int .i64 (1 : Int)))), (19, .d (slD i64V p1)), (20, .d (.val (.int .i64 (p1.length : Int)))), (21, .d (.val (.int .i64 (0 : Int))))] [some ⟨6, [[.d (.val (.int .i64 p0.op)), .d (.val (.string p0.name)), .d (.val (.bool p0.num.neg)), .d (slD u32V p0.num.num), .d (slD u32V p0.num.den), .d (slD NodeA.enc p0.kids)]]⟩] (by simp only [go_sem, Nat.reduceEqDiff, Nat.reduceAdd, Nat.reduceSub, Nat.reduceMul, Nat.reduceLeDiff, Nat.reduceLT, Nat.reduceBEq, reduceIte]) ?_
      obtain ⟨oJ10, h, hJ10⟩ := obind h
      refine AW.join (S := Int × NodeA) (fun (e8_0, e8_1) => [(2, .ptr 0 6 0 0), (7, .d (.val (.int .i64 e8_0)))]) (fun (e8_0, e8_1) => [some ⟨6, [[.d (.val (.int .i64 e8_1.op)), .d (.val (.string e8_1.name)), .d (.val (.bool e8_1.num.neg)), .d (slD u32V e8_1.num.num), .d (slD u32V e8_1.num.den), .d (slD NodeA.enc e8_1.kids)]]⟩]) (fun x => oJ10 = .go x) ?_ ?_
      · refine AW.block ?_
        refine AW.iter (S := Int × Int × NodeA) (fun (i7_0, i7_1, i7_2) => [(2, .ptr 0 6 0 0), (7, .d (.val (.int .i64 i7_0))), (19, .d (slD i64V p1)), (20, .d (.val (.int .i64 (p1.length : Int)))), (21, .d (.val (.int .i64 i7_1)))]) (fun (i7_0, i7_1, i7_2) => [some ⟨6, [[.d (.val (.int .i64 i7_2.op)), .d (.val (.string i7_2.name)), .d (.val (.bool i7_2.num.neg)), .d (slD u32V i7_2.num.num), .d (slD u32V i7_2.num.den), .d (slD NodeA.enc i7_2.kids)]]⟩]) [0] h (by simp only [go_sem, Nat.reduceEqDiff, Nat.reduceAdd, Nat.reduceSub, Nat.reduceMul, Nat.reduceLeDiff, Nat.reduceLT, Nat.reduceBEq, reduceIte]) ?_
        rintro again ⟨i7_0, i7_1, i7_2⟩ h
        try dsimp only at h
        refine AW.one ?_
        refine AW.reg mixed (by kernel_rfl) ?_
        try simp only [go_sem, Nat.reduceEqDiff, Nat.reduceAdd, Nat.reduceSub, Nat.reduceMul, Nat.reduceLeDiff, Nat.reduceLT, Nat.reduceBEq, reduceIte]
        refine AW.cut [0] [(2, .ptr 0 6 0 0), (7, .d (.val (.int .i64 i7_0))), (19, .d (slD i64V p1)), (20, .d (.val (.int .i64 (p1.length : Int)))), (21, .d (.val (.int .i64 i7_1))), (22, .d (.val (.bool (decide (i7_1 < (p1.length : Int))))))] [some ⟨6, [[.d (.val (.int .i64 i7_2.op)), .d (.val (.string i7_2.name)), .d (.val (.bool i7_2.num.neg)), .d (slD u32V i7_2.num.num), .d (slD u32V i7_2.num.den), .d (slD NodeA.enc i7_2.kids)]]⟩] (by simp only [go_sem, Nat.reduceEqDiff, Nat.reduceAdd, Nat.reduceSub, Nat.reduceMul, Nat.reduceLeDiff, Nat.reduceLT, Nat.reduceBEq, reduceIte]) ?_
        refine AW.one ?_
        refine AW.test (t := (decide (i7_1 < (p1.length : Int)))) (by simp only [go_sem, Nat.reduceEqDiff, Nat.reduceAdd, Nat.reduceSub, Nat.reduceMul, Nat.reduceLeDiff, Nat.reduceLT, Nat.reduceBEq, reduceIte]) (fun hb11 => ?_) (fun hb11 => ?_)
        · have h := ifT hb11 h
          refine AW.skip ?_
          try simp only [go_sem, Nat.reduceEqDiff, Nat.reduceAdd, Nat.reduceSub, Nat.reduceMul, Nat.reduceLeDiff, Nat.reduceLT, Nat.reduceBEq, reduceIte]
          refine AW.cut [0] [(2, .ptr 0 6 0 0), (7, .d (.val (.int .i64 i7_0))), (19, .d (slD i64V p1)), (20, .d (.val (.int .i64 (p1.length : Int)))), (21, .d (.val (.int .i64 i7_1)))] [some ⟨6, [[.d (.val (.int .i64 i7_2.op)), .d (.val (.string i7_2.name)), .d (.val (.bool i7_2.num.neg)), .d (slD u32V i7_2.num.num), .d (slD u32V i7_2.num.den), .d (slD NodeA.enc i7_2.kids)]]⟩] (by simp only [go_sem, Nat.reduceEqDiff, Nat.reduceAdd, Nat.reduceSub, Nat.reduceMul, Nat.reduceLeDiff, Nat.reduceLT, Nat.reduceBEq, reduceIte]) ?_
          refine AW.one ?_
          obtain ⟨oJ13, h, hJ13⟩ := obind h
          refine AW.join (S := Int × NodeA) (fun (v12_0, v12_1) => [(2, .ptr 0 6 0 0), (7, .d (.val (.int .i64 v12_0))), (19, .d (slD i64V p1)), (20, .d (.val (.int .i64 (p1.length : Int)))), (21, .d (.val (.int .i64 i7_1)))]) (fun (v12_0, v12_1) => [some ⟨6, [[.d (.val (.int .i64 v12_1.op)), .d (.val (.string v12_1.name)), .d (.val (.bool v12_1.num.neg)), .d (slD u32V v12_1.num.num), .d (slD u32V v12_1.num.den), .d (slD NodeA.enc v12_1.kids)]]⟩]) (fun x => oJ13 = .go x) ?_ ?_
          · skip
            refine AW.block ?_
            refine AW.one ?_
            refine AW.reg mixed (by kernel_rfl) ?_
            obtain ⟨x14, hx15, h⟩ := obind h
            try simp only [go_sem, Nat.reduceEqDiff, Nat.reduceAdd, Nat.reduceSub, Nat.reduceMul, Nat.reduceLeDiff, Nat.reduceLT, Nat.reduceBEq, reduceIte, (idx_some hx15).1, (idx_some hx15).2]
            refine AW.cut [0] [(2, .ptr 0 6 0 0), (7, .d (.val (.int .i64 i7_0))), (9, .d (.val (.int .i64 x14))), (19, .d (slD i64V p1)), (20, .d (.val (.int .i64 (p1.length : Int)))), (21, .d (.val (.int .i64 i7_1)))] [some ⟨6, [[.d (.val (.int .i64 i7_2.op)), .d (.val (.string i7_2.name)), .d (.val (.bool i7_2.num.neg)), .d (slD u32V i7_2.num.num), .d (slD u32V i7_2.num.den), .d (slD NodeA.enc i7_2.kids)]]⟩] (by simp only [go_sem, Nat.reduceEqDiff, Nat.reduceAdd, Nat.reduceSub, Nat.reduceMul, Nat.reduceLeDiff, Nat.reduceLT, Nat.reduceBEq, reduceIte, (idx_some hx15).1, (idx_some hx15).2]) ?_
            refine AW.one ?_
            obtain ⟨oJ17, h, hJ17⟩ := obind h
            refine AW.join (S := Unit) (fun _ => [(2, .ptr 0 6 0 0), (7, .d (.val (.int .i64 i7_0))), (9, .d (.val (.int .i64 x14))), (19, .d (slD i64V p1)), (20, .d (.val (.int .i64 (p1.length : Int)))), (21, .d (.val (.int .i64 i7_1)))]) (fun _ => [some ⟨6, [[.d (.val (.int .i64 i7_2.op)), .d (.val (.string i7_2.name)), .d (.val (.bool i7_2.num.neg)), .d (slD u32V i7_2.num.num), .d (slD u32V i7_2.num.den), .d (slD NodeA.enc i7_2.kids)]]⟩]) (fun x => oJ17 = .go x) ?_ ?_
            · skip
              refine AW.one ?_
              obtain ⟨oJ19, h, hJ19⟩ := obind h
              refine AW.join (S := Bool) (fun v18_0 => [(2, .ptr 0 6 0 0), (7, .d (.val (.int .i64 i7_0))), (9, .d (.val (.int .i64 x14))), (19, .d (slD i64V p1)), (20, .d (.val (.int .i64 (p1.length : Int)))), (21, .d (.val (.int .i64 i7_1))), (33, .d (.val (.bool v18_0)))]) (fun v18_0 => [some ⟨6, [[.d (.val (.int .i64 i7_2.op)), .d (.val (.string i7_2.name)), .d (.val (.bool i7_2.num.neg)), .d (slD u32V i7_2.num.num), .d (slD u32V i7_2.num.den), .d (slD NodeA.enc i7_2.kids)]]⟩]) (fun x => x = oJ19) ?_ ?_
              · skip
                refine AW.reg mixed (by kernel_rfl) ?_
                try simp only [go_sem, Nat.reduceEqDiff, Nat.reduceAdd, Nat.reduceSub, Nat.reduceMul, Nat.reduceLeDiff, Nat.reduceLT, Nat.reduceBEq, reduceIte]
                refine splitK_intro (fun hb20 => ?_) (fun hb20 => ?_)
                · have h := ifT hb20 h
                  try simp only [go_sem, Nat.reduceEqDiff, Nat.reduceAdd, Nat.reduceSub, Nat.reduceMul, Nat.reduceLeDiff, Nat.reduceLT, Nat.reduceBEq, reduceIte, hb20]
                  refine JoinQ.mk true [0] (Option.some.inj h) (by simp only [go_sem, Nat.reduceEqDiff, Nat.reduceAdd, Nat.reduceSub, Nat.reduceMul, Nat.reduceLeDiff, Nat.reduceLT, Nat.reduceBEq, reduceIte, hb20])
                · have h := ifF hb20 h
                  try simp only [go_sem, Nat.reduceEqDiff, Nat.reduceAdd, Nat.reduceSub, Nat.reduceMul, Nat.reduceLeDiff, Nat.reduceLT, Nat.reduceBEq, reduceIte, hb20]
                  refine JoinQ.mk (decide ((i7_2.kids.length : Int) ≤ x14)) [0] (Option.some.inj h) (by simp only [go_sem, Nat.reduceEqDiff, Nat.reduceAdd, Nat.reduceSub, Nat.reduceMul, Nat.reduceLeDiff, Nat.reduceLT, Nat.reduceBEq, reduceIte, hb20])
              · rintro v18_0 rfl
                have h := hJ19
                try dsimp only [Out.fin] at h
                simp only [go_sem, Nat.reduceEqDiff, Nat.reduceAdd, Nat.reduceSub, Nat.reduceMul, Nat.reduceLeDiff, Nat.reduceLT, Nat.reduceBEq, reduceIte]
                refine AW.test (t := v18_0) (by simp only [go_sem, Nat.reduceEqDiff, Nat.reduceAdd, Nat.reduceSub, Nat.reduceMul, Nat.reduceLeDiff, Nat.reduceLT, Nat.reduceBEq, reduceIte]) (fun hb21 => ?_) (fun hb21 => ?_)
                · have h := ifT hb21 h
                  refine AW.one ?_
                  refine AW.reg mixed (by kernel_rfl) ?_
                  try simp only [go_sem, Nat.reduceEqDiff, Nat.reduceAdd, Nat.reduceSub, Nat.reduceMul, Nat.reduceLeDiff, Nat.reduceLT, Nat.reduceBEq, reduceIte]
                  refine AW.ret ?_
                  obtain ⟨_, h, ho⟩ := outM_some h
                  rw [ho, Out.fin_out] at hJ17
                  have h := h.trans hJ17
                  obtain ⟨_, h, ho⟩ := outM_some h
                  rw [ho, Out.fin_out] at hJ13
                  have h := h.trans hJ13
                  obtain ⟨_, h, ho⟩ := outM_some h
                  rw [ho, Out.fin_out] at hJ10
                  have h := h.trans hJ10
                  obtain rfl := Option.some.inj h
                  simp only [go_sem, Nat.reduceEqDiff, Nat.reduceAdd, Nat.reduceSub, Nat.reduceMul, Nat.reduceLeDiff, Nat.reduceLT, Nat.reduceBEq, reduceIte]
                  exact .same _
                · have h := ifF hb21 h
                  refine AW.skip ?_
                  try simp only [go_sem, Nat.reduceEqDiff, Nat.reduceAdd, Nat.reduceSub, Nat.reduceMul, Nat.reduceLeDiff, Nat.reduceLT, Nat.reduceBEq, reduceIte]
                  refine JoinQ.mk () [0] (Option.some.inj h).symm (by simp only [go_sem, Nat.reduceEqDiff, Nat.reduceAdd, Nat.reduceSub, Nat.reduceMul, Nat.reduceLeDiff, Nat.reduceLT, Nat.reduceBEq, reduceIte])
            · rintro ⟨⟩ rfl
              have h := hJ17
              try dsimp only [Out.fin] at h
              simp only [go_sem, Nat.reduceEqDiff, Nat.reduceAdd, Nat.reduceSub, Nat.reduceMul, Nat.reduceLeDiff, Nat.reduceLT, Nat.reduceBEq, reduceIte]
              refine AW.one ?_
              obtain ⟨oJ23, h, hJ23⟩ := obind h
              refine AW.join (S := Int) (fun v22_0 => [(2, .ptr 0 6 0 0), (7, .d (.val (.int .i64 v22_0))), (9, .d (.val (.int .i64 x14))), (19, .d (slD i64V p1)), (20, .d (.val (.int .i64 (p1.length : Int)))), (21, .d (.val (.int .i64 i7_1)))]) (fun v22_0 => [some ⟨6, [[.d (.val (.int .i64 i7_2.op)), .d (.val (.string i7_2.name)), .d (.val (.bool i7_2.num.neg)), .d (slD u32V i7_2.num.num), .d (slD u32V i7_2.num.den), .d (slD NodeA.enc i7_2.kids)]]⟩]) (fun x => x = oJ23) ?_ ?_
              · skip
                refine AW.block ?_
                refine AW.one ?_
                obtain ⟨oJ25, h, hJ25⟩ := obind h
                refine AW.join (S := Bool) (fun v24_0 => [(2, .ptr 0 6 0 0), (7, .d (.val (.int .i64 i7_0))), (9, .d (.val (.int .i64 x14))), (19, .d (slD i64V p1)), (20, .d (.val (.int .i64 (p1.length : Int)))), (21, .d (.val (.int .i64 i7_1))), (34, .d (.val (.bool v24_0)))]) (fun v24_0 => [some ⟨6, [[.d (.val (.int .i64 i7_2.op)), .d (.val (.string i7_2.name)), .d (.val (.bool i7_2.num.neg)), .d (slD u32V i7_2.num.num), .d (slD u32V i7_2.num.den), .d (slD NodeA.enc i7_2.kids)]]⟩]) (fun x => x = oJ25) ?_ ?_
                · skip
                  refine AW.reg mixed (by kernel_rfl) ?_
                  try simp only [go_sem, Nat.reduceEqDiff, Nat.reduceAdd, Nat.reduceSub, Nat.reduceMul, Nat.reduceLeDiff, Nat.reduceLT, Nat.reduceBEq, reduceIte]
                  refine splitK_intro (fun hb26 => ?_) (fun hb26 => ?_)
                  · have h := ifT hb26 h
                    try simp only [go_sem, Nat.reduceEqDiff, Nat.reduceAdd, Nat.reduceSub, Nat.reduceMul, Nat.reduceLeDiff, Nat.reduceLT, Nat.reduceBEq, reduceIte, hb26]
                    refine JoinQ.mk true [0] (Option.some.inj h) (by simp only [go_sem, Nat.reduceEqDiff, Nat.reduceAdd, Nat.reduceSub, Nat.reduceMul, Nat.reduceLeDiff, Nat.reduceLT, Nat.reduceBEq, reduceIte, hb26])
                  · have h := ifF hb26 h
                    try simp only [go_sem, Nat.reduceEqDiff, Nat.reduceAdd, Nat.reduceSub, Nat.reduceMul, Nat.reduceLeDiff, Nat.reduceLT, Nat.reduceBEq, reduceIte, hb26]
                    refine splitK_intro (fun hb27 => ?_) (fun hb27 => ?_)
                    · have h := ifT hb27 h
                      try simp only [go_sem, Nat.reduceEqDiff, Nat.reduceAdd, Nat.reduceSub, Nat.reduceMul, Nat.reduceLeDiff, Nat.reduceLT, Nat.reduceBEq, reduceIte, hb26, hb27]
                      refine JoinQ.mk (x14 == (0 : Int)) [0] (Option.some.inj h) (by simp only [go_sem, Nat.reduceEqDiff, Nat.reduceAdd, Nat.reduceSub, Nat.reduceMul, Nat.reduceLeDiff, Nat.reduceLT, Nat.reduceBEq, reduceIte, hb26, hb27])
                    · have h := ifF hb27 h
                      try simp only [go_sem, Nat.reduceEqDiff, Nat.reduceAdd, Nat.reduceSub, Nat.reduceMul, Nat.reduceLeDiff, Nat.reduceLT, Nat.reduceBEq, reduceIte, hb26, hb27]
                      refine JoinQ.mk false [0] (Option.some.inj h) (by simp only [go_sem, Nat.reduceEqDiff, Nat.reduceAdd, Nat.reduceSub, Nat.reduceMul, Nat.reduceLeDiff, Nat.reduceLT, Nat.reduceBEq, reduceIte, hb26, hb27])
                · rintro v24_0 rfl
                  have h := hJ25
                  try dsimp only [Out.fin] at h
                  simp only [go_sem, Nat.reduceEqDiff, Nat.reduceAdd, Nat.reduceSub, Nat.reduceMul, Nat.reduceLeDiff, Nat.reduceLT, Nat.reduceBEq, reduceIte]
                  refine AW.test (t := v24_0) (by simp only [go_sem, Nat.reduceEqDiff, Nat.reduceAdd, Nat.reduceSub, Nat.reduceMul, Nat.reduceLeDiff, Nat.reduceLT, Nat.reduceBEq, reduceIte]) (fun hb28 => ?_) (fun hb28 => ?_)
                  · have h := ifT hb28 h
                    refine AW.reg mixed (by kernel_rfl) ?_
                    try simp only [go_sem, Nat.reduceEqDiff, Nat.reduceAdd, Nat.reduceSub, Nat.reduceMul, Nat.reduceLeDiff, Nat.reduceLT, Nat.reduceBEq, reduceIte]
                    refine JoinQ.mk (IntKind.wrap .i64 (0 - i7_0)) [0] (Option.some.inj h) (by simp only [go_sem, Nat.reduceEqDiff, Nat.reduceAdd, Nat.reduceSub, Nat.reduceMul, Nat.reduceLeDiff, Nat.reduceLT, Nat.reduceBEq, reduceIte])
                  · have h := ifF hb28 h
                    refine AW.one ?_
                    obtain ⟨oJ30, h, hJ30⟩ := obind h
                    refine AW.join (S := Bool) (fun v29_0 => [(2, .ptr 0 6 0 0), (7, .d (.val (.int .i64 i7_0))), (9, .d (.val (.int .i64 x14))), (19, .d (slD i64V p1)), (20, .d (.val (.int .i64 (p1.length : Int)))), (21, .d (.val (.int .i64 i7_1))), (49, .d (.val (.bool v29_0)))]) (fun v29_0 => [some ⟨6, [[.d (.val (.int .i64 i7_2.op)), .d (.val (.string i7_2.name)), .d (.val (.bool i7_2.num.neg)), .d (slD u32V i7_2.num.num), .d (slD u32V i7_2.num.den), .d (slD NodeA.enc i7_2.kids)]]⟩]) (fun x => x = oJ30) ?_ ?_
                    · skip
                      refine AW.reg mixed (by kernel_rfl) ?_
                      try simp only [go_sem, Nat.reduceEqDiff, Nat.reduceAdd, Nat.reduceSub, Nat.reduceMul, Nat.reduceLeDiff, Nat.reduceLT, Nat.reduceBEq, reduceIte]
                      refine splitK_intro (fun hb31 => ?_) (fun hb31 => ?_)
                      · have h := ifT hb31 h
                        try simp only [go_sem, Nat.reduceEqDiff, Nat.reduceAdd, Nat.reduceSub, Nat.reduceMul, Nat.reduceLeDiff, Nat.reduceLT, Nat.reduceBEq, reduceIte, hb31]
                        refine JoinQ.mk true [0] (Option.some.inj h) (by simp only [go_sem, Nat.reduceEqDiff, Nat.reduceAdd, Nat.reduceSub, Nat.reduceMul, Nat.reduceLeDiff, Nat.reduceLT, Nat.reduceBEq, reduceIte, hb31])
                      · have h := ifF hb31 h
                        try simp only [go_sem, Nat.reduceEqDiff, Nat.reduceAdd, Nat.reduceSub, Nat.reduceMul, Nat.reduceLeDiff, Nat.reduceLT, Nat.reduceBEq, reduceIte, hb31]
                        refine splitK_intro (fun hb32 => ?_) (fun hb32 => ?_)
                        · have h := ifT hb32 h
                          try simp only [go_sem, Nat.reduceEqDiff, Nat.reduceAdd, Nat.reduceSub, Nat.reduceMul, Nat.reduceLeDiff, Nat.reduceLT, Nat.reduceBEq, reduceIte, hb31, hb32]
                          refine JoinQ.mk true [0] (Option.some.inj h) (by simp only [go_sem, Nat.reduceEqDiff, Nat.reduceAdd, Nat.reduceSub, Nat.reduceMul, Nat.reduceLeDiff, Nat.reduceLT, Nat.reduceBEq, reduceIte, hb31, hb32])
                        · have h := ifF hb32 h
                          try simp only [go_sem, Nat.reduceEqDiff, Nat.reduceAdd, Nat.reduceSub, Nat.reduceMul, Nat.reduceLeDiff, Nat.reduceLT, Nat.reduceBEq, reduceIte, hb31, hb32]
                          refine splitK_intro (fun hb33 => ?_) (fun hb33 => ?_)
                          · have h := ifT hb33 h
                            try simp only [go_sem, Nat.reduceEqDiff, Nat.reduceAdd, Nat.reduceSub, Nat.reduceMul, Nat.reduceLeDiff, Nat.reduceLT, Nat.reduceBEq, reduceIte, hb31, hb32, hb33]
                            refine JoinQ.mk true [0] (Option.some.inj h) (by simp only [go_sem, Nat.reduceEqDiff, Nat.reduceAdd, Nat.reduceSub, Nat.reduceMul, Nat.reduceLeDiff, Nat.reduceLT, Nat.reduceBEq, reduceIte, hb31, hb32, hb33])
                          · have h := ifF hb33 h
                            try simp only [go_sem, Nat.reduceEqDiff, Nat.reduceAdd, Nat.reduceSub, Nat.reduceMul, Nat.reduceLeDiff, Nat.reduceLT, Nat.reduceBEq, reduceIte, hb31, hb32, hb33]
                            refine splitK_intro (fun hb34 => ?_) (fun hb34 => ?_)
                            · have h := ifT hb34 h
                              try simp only [go_sem, Nat.reduceEqDiff, Nat.reduceAdd, Nat.reduceSub, Nat.reduceMul, Nat.reduceLeDiff, Nat.reduceLT, Nat.reduceBEq, reduceIte, hb31, hb32, hb33, hb34]
                              refine JoinQ.mk true [0] (Option.some.inj h) (by simp only [go_sem, Nat.reduceEqDiff, Nat.reduceAdd, Nat.reduceSub, Nat.reduceMul, Nat.reduceLeDiff, Nat.reduceLT, Nat.reduceBEq, reduceIte, hb31, hb32, hb33, hb34])
                            · have h := ifF hb34 h
                              try simp only [go_sem, Nat.reduceEqDiff, Nat.reduceAdd, Nat.reduceSub, Nat.reduceMul, Nat.reduceLeDiff, Nat.reduceLT, Nat.reduceBEq, reduceIte, hb31, hb32, hb33, hb34]
                              refine JoinQ.mk (i7_2.op == (34 : Int)) [0] (Option.some.inj h) (by simp only [go_sem, Nat.reduceEqDiff, Nat.reduceAdd, Nat.reduceSub, Nat.reduceMul, Nat.reduceLeDiff, Nat.reduceLT, Nat.reduceBEq, reduceIte, hb31, hb32, hb33, hb34])
                    · rintro v29_0 rfl
                      have h := hJ30
                      try dsimp only [Out.fin] at h
                      simp only [go_sem, Nat.reduceEqDiff, Nat.reduceAdd, Nat.reduceSub, Nat.reduceMul, Nat.reduceLeDiff, Nat.reduceLT, Nat.reduceBEq, reduceIte]
                      refine AW.test (t := v29_0) (by simp only [go_sem, Nat.reduceEqDiff, Nat.reduceAdd, Nat.reduceSub, Nat.reduceMul, Nat.reduceLeDiff, Nat.reduceLT, Nat.reduceBEq, reduceIte]) (fun hb35 => ?_) (fun hb35 => ?_)
                      · have h := ifT hb35 h
                        refine AW.skip ?_
                        try simp only [go_sem, Nat.reduceEqDiff, Nat.reduceAdd, Nat.reduceSub, Nat.reduceMul, Nat.reduceLeDiff, Nat.reduceLT, Nat.reduceBEq, reduceIte]
                        refine JoinQ.mk i7_0 [0] (Option.some.inj h) (by simp only [go_sem, Nat.reduceEqDiff, Nat.reduceAdd, Nat.reduceSub, Nat.reduceMul, Nat.reduceLeDiff, Nat.reduceLT, Nat.reduceBEq, reduceIte])
                      · have h := ifF hb35 h
                        refine AW.one ?_
                        obtain ⟨oJ37, h, hJ37⟩ := obind h
                        refine AW.join (S := Bool) (fun v36_0 => [(2, .ptr 0 6 0 0), (7, .d (.val (.int .i64 i7_0))), (9, .d (.val (.int .i64 x14))), (19, .d (slD i64V p1)), (20, .d (.val (.int .i64 (p1.length : Int)))), (21, .d (.val (.int .i64 i7_1))), (73, .d (.val (.bool v36_0)))]) (fun v36_0 => [some ⟨6, [[.d (.val (.int .i64 i7_2.op)), .d (.val (.string i7_2.name)), .d (.val (.bool i7_2.num.neg)), .d (slD u32V i7_2.num.num), .d (slD u32V i7_2.num.den), .d (slD NodeA.enc i7_2.kids)]]⟩]) (fun x => x = oJ37) ?_ ?_
                        · skip
                          refine AW.reg mixed (by kernel_rfl) ?_
                          try simp only [go_sem, Nat.reduceEqDiff, Nat.reduceAdd, Nat.reduceSub, Nat.reduceMul, Nat.reduceLeDiff, Nat.reduceLT, Nat.reduceBEq, reduceIte]
                          refine splitK_intro (fun hb38 => ?_) (fun hb38 => ?_)
                          · have h := ifT hb38 h
                            try simp only [go_sem, Nat.reduceEqDiff, Nat.reduceAdd, Nat.reduceSub, Nat.reduceMul, Nat.reduceLeDiff, Nat.reduceLT, Nat.reduceBEq, reduceIte, hb38]
                            refine JoinQ.mk (x14 == (1 : Int)) [0] (Option.some.inj h) (by simp only [go_sem, Nat.reduceEqDiff, Nat.reduceAdd, Nat.reduceSub, Nat.reduceMul, Nat.reduceLeDiff, Nat.reduceLT, Nat.reduceBEq, reduceIte, hb38])
                          · have h := ifF hb38 h
                            try simp only [go_sem, Nat.reduceEqDiff, Nat.reduceAdd, Nat.reduceSub, Nat.reduceMul, Nat.reduceLeDiff, Nat.reduceLT, Nat.reduceBEq, reduceIte, hb38]
                            refine splitK_intro (fun hb39 => ?_) (fun hb39 => ?_)
                            · have h := ifT hb39 h
                              try simp only [go_sem, Nat.reduceEqDiff, Nat.reduceAdd, Nat.reduceSub, Nat.reduceMul, Nat.reduceLeDiff, Nat.reduceLT, Nat.reduceBEq, reduceIte, hb38, hb39]
                              refine JoinQ.mk (x14 == (1 : Int)) [0] (Option.some.inj h) (by simp only [go_sem, Nat.reduceEqDiff, Nat.reduceAdd, Nat.reduceSub, Nat.reduceMul, Nat.reduceLeDiff, Nat.reduceLT, Nat.reduceBEq, reduceIte, hb38, hb39])
                            · have h := ifF hb39 h
                              try simp only [go_sem, Nat.reduceEqDiff, Nat.reduceAdd, Nat.reduceSub, Nat.reduceMul, Nat.reduceLeDiff, Nat.reduceLT, Nat.reduceBEq, reduceIte, hb38, hb39]
                              refine JoinQ.mk false [0] (Option.some.inj h) (by simp only [go_sem, Nat.reduceEqDiff, Nat.reduceAdd, Nat.reduceSub, Nat.reduceMul, Nat.reduceLeDiff, Nat.reduceLT, Nat.reduceBEq, reduceIte, hb38, hb39])
                        · rintro v36_0 rfl
                          have h := hJ37
                          try dsimp only [Out.fin] at h
                          simp only [go_sem, Nat.reduceEqDiff, Nat.reduceAdd, Nat.reduceSub, Nat.reduceMul, Nat.reduceLeDiff, Nat.reduceLT, Nat.reduceBEq, reduceIte]
                          refine AW.test (t := v36_0) (by simp only [go_sem, Nat.reduceEqDiff, Nat.reduceAdd, Nat.reduceSub, Nat.reduceMul, Nat.reduceLeDiff, Nat.reduceLT, Nat.reduceBEq, reduceIte]) (fun hb40 => ?_) (fun hb40 => ?_)
                          · have h := ifT hb40 h
                            refine AW.skip ?_
                            try simp only [go_sem, Nat.reduceEqDiff, Nat.reduceAdd, Nat.reduceSub, Nat.reduceMul, Nat.reduceLeDiff, Nat.reduceLT, Nat.reduceBEq, reduceIte]
                            refine JoinQ.mk i7_0 [0] (Option.some.inj h) (by simp only [go_sem, Nat.reduceEqDiff, Nat.reduceAdd, Nat.reduceSub, Nat.reduceMul, Nat.reduceLeDiff, Nat.reduceLT, Nat.reduceBEq, reduceIte])
                          · have h := ifF hb40 h
                            refine AW.reg mixed (by kernel_rfl) ?_
                            try simp only [go_sem, Nat.reduceEqDiff, Nat.reduceAdd, Nat.reduceSub, Nat.reduceMul, Nat.reduceLeDiff, Nat.reduceLT, Nat.reduceBEq, reduceIte]
                            refine JoinQ.mk (0 : Int) [0] (Option.some.inj h) (by simp only [go_sem, Nat.reduceEqDiff, Nat.reduceAdd, Nat.reduceSub, Nat.reduceMul, Nat.reduceLeDiff, Nat.reduceLT, Nat.reduceBEq, reduceIte])
              · rintro v22_0 rfl
                have h := hJ23
                try dsimp only [Out.fin] at h
                simp only [go_sem, Nat.reduceEqDiff, Nat.reduceAdd, Nat.reduceSub, Nat.reduceMul, Nat.reduceLeDiff, Nat.reduceLT, Nat.reduceBEq, reduceIte]
                refine AW.reg mixed (by kernel_rfl) ?_
                obtain ⟨x41, hx42, h⟩ := obind h
                try simp only [go_sem, Nat.reduceEqDiff, Nat.reduceAdd, Nat.reduceSub, Nat.reduceMul, Nat.reduceLeDiff, Nat.reduceLT, Nat.reduceBEq, reduceIte, (idx_some hx42).1, (idx_some hx42).2]
                refine JoinQ.mk (v22_0, x41) [0] (Option.some.inj h).symm (by simp only [go_sem, Nat.reduceEqDiff, Nat.reduceAdd, Nat.reduceSub, Nat.reduceMul, Nat.reduceLeDiff, Nat.reduceLT, Nat.reduceBEq, reduceIte, (idx_some hx42).1, (idx_some hx42).2])
          · rintro ⟨v12_0, v12_1⟩ rfl
            have h := hJ13
            try dsimp only [Out.fin] at h
            simp only [go_sem, Nat.reduceEqDiff, Nat.reduceAdd, Nat.reduceSub, Nat.reduceMul, Nat.reduceLeDiff, Nat.reduceLT, Nat.reduceBEq, reduceIte]
            refine AW.reg mixed (by kernel_rfl) ?_
            try simp only [go_sem, Nat.reduceEqDiff, Nat.reduceAdd, Nat.reduceSub, Nat.reduceMul, Nat.reduceLeDiff, Nat.reduceLT, Nat.reduceBEq, reduceIte]
            refine NextQ.mk (v12_0, IntKind.wrap .i64 (i7_1 + (1 : Int)), v12_1) [0] h (by simp only [go_sem, Nat.reduceEqDiff, Nat.reduceAdd, Nat.reduceSub, Nat.reduceMul, Nat.reduceLeDiff, Nat.reduceLT, Nat.reduceBEq, reduceIte])
        · have h := ifF hb11 h
          refine AW.exit ?_
          try simp only [go_sem, Nat.reduceEqDiff, Nat.reduceAdd, Nat.reduceSub, Nat.reduceMul, Nat.reduceLeDiff, Nat.reduceLT, Nat.reduceBEq, reduceIte]
          refine JoinQ.mk (i7_0, i7_2) [0] (Option.some.inj h).symm (by simp only [go_sem, Nat.reduceEqDiff, Nat.reduceAdd, Nat.reduceSub, Nat.reduceMul, Nat.reduceLeDiff, Nat.reduceLT, Nat.reduceBEq, reduceIte])
      · rintro ⟨e8_0, e8_1⟩ rfl
        have h := hJ10
        try dsimp only [Out.fin] at h
        simp only [go_sem, Nat.reduceEqDiff, Nat.reduceAdd, Nat.reduceSub, Nat.reduceMul, Nat.reduceLeDiff, Nat.reduceLT, Nat.reduceBEq, reduceIte]
        refine AW.cut [0] [(2, .ptr 0 6 0 0), (7, .d (.val (.int .i64 e8_0)))] [some ⟨6, [[.d (.val (.int .i64 e8_1.op)), .d (.val (.string e8_1.name)), .d (.val (.bool e8_1.num.neg)), .d (slD u32V e8_1.num.num), .d (slD u32V e8_1.num.den), .d (slD NodeA.enc e8_1.kids)]]⟩] (by simp only [go_sem, Nat.reduceEqDiff, Nat.reduceAdd, Nat.reduceSub, Nat.reduceMul, Nat.reduceLeDiff, Nat.reduceLT, Nat.reduceBEq, reduceIte]) ?_
        refine AW.one ?_
        refine AW.one ?_
        refine AW.reg mixed (by kernel_rfl) ?_
        try simp only [go_sem, Nat.reduceEqDiff, Nat.reduceAdd, Nat.reduceSub, Nat.reduceMul, Nat.reduceLeDiff, Nat.reduceLT, Nat.reduceBEq, reduceIte]
        obtain ⟨r43, hx44, h⟩ := obind h
        have hc := tree_Sort_ok (h := hx44)
        try simp only [NodeA.enc_eta, RatA.enc_eta, aggV, i64V, u32V, strV, List.map_cons, List.map_nil] at hc
        refine callK_pure hc (by simp only [go_sem, Nat.reduceEqDiff, Nat.reduceAdd, Nat.reduceSub, Nat.reduceMul, Nat.reduceLeDiff, Nat.reduceLT, Nat.reduceBEq, reduceIte]) ?_
        try simp only [go_sem, Nat.reduceEqDiff, Nat.reduceAdd, Nat.reduceSub, Nat.reduceMul, Nat.reduceLeDiff, Nat.reduceLT, Nat.reduceBEq, reduceIte]
        refine AW.cut [] [(7, .d (.val (.int .i64 e8_0))), (95, .d (.val (.bool (r43 != (2 : Int)))))] [] (by simp only [go_sem, Nat.reduceEqDiff, Nat.reduceAdd, Nat.reduceSub, Nat.reduceMul, Nat.reduceLeDiff, Nat.reduceLT, Nat.reduceBEq, reduceIte]) ?_
        refine AW.test (t := (r43 != (2 : Int))) (by simp only [go_sem, Nat.reduceEqDiff, Nat.reduceAdd, Nat.reduceSub, Nat.reduceMul, Nat.reduceLeDiff, Nat.reduceLT, Nat.reduceBEq, reduceIte]) (fun hb45 => ?_) (fun hb45 => ?_)
        · have h := ifT hb45 h
          refine AW.one ?_
          refine AW.reg mixed (by kernel_rfl) ?_
          try simp only [go_sem, Nat.reduceEqDiff, Nat.reduceAdd, Nat.reduceSub, Nat.reduceMul, Nat.reduceLeDiff, Nat.reduceLT, Nat.reduceBEq, reduceIte]
          refine AW.ret ?_
          obtain rfl := Option.some.inj h
          simp only [go_sem, Nat.reduceEqDiff, Nat.reduceAdd, Nat.reduceSub, Nat.reduceMul, Nat.reduceLeDiff, Nat.reduceLT, Nat.reduceBEq, reduceIte]
          exact .same _
        · have h := ifF hb45 h
          refine AW.skip ?_
          try simp only [go_sem, Nat.reduceEqDiff, Nat.reduceAdd, Nat.reduceSub, Nat.reduceMul, Nat.reduceLeDiff, Nat.reduceLT, Nat.reduceBEq, reduceIte]
          refine AW.cut [] [(7, .d (.val (.int .i64 e8_0)))] [] (by simp only [go_sem, Nat.reduceEqDiff, Nat.reduceAdd, Nat.reduceSub, Nat.reduceMul, Nat.reduceLeDiff, Nat.reduceLT, Nat.reduceBEq, reduceIte]) ?_
          refine AW.one ?_
          refine AW.reg mixed (by kernel_rfl) ?_
          try simp only [go_sem, Nat.reduceEqDiff, Nat.reduceAdd, Nat.reduceSub, Nat.reduceMul, Nat.reduceLeDiff, Nat.reduceLT, Nat.reduceBEq, reduceIte]
          refine AW.ret ?_
          obtain rfl := Option.some.inj h
          simp only [go_sem, Nat.reduceEqDiff, Nat.reduceAdd, Nat.reduceSub, Nat.reduceMul, Nat.reduceLeDiff, Nat.reduceLT, Nat.reduceBEq, reduceIte]
          exact .same _

end Go.Proofs.Ytcgphoghmgeecaa
namespace Go.Proofs.Ytcgphoghmgeecaa
open Go Go.Iso Go.Proofs
set_option linter.unusedSimpArgs false
set_option linter.unusedVariables false
set_option maxRecDepth 100000

/-! ### isochrone/isochronelaw10.StaticPolarity -/
def law10_StaticPolarity (K : Nat) (p0 : NodeA) (p1 : List Int) : Option Bool := (law10_awake K ).bind fun r1 => 
  if (!r1) then
    some false
  else
    (r08_Size K p0).bind fun r4 => 
    if (decide ((4000 : Int) < r4)) then
      some true
    else
      (static_Polarity K p0 p1).bind fun r7 => 
      (r10_Polarity K p0 p1).bind fun r9 => 
      if (r7.2 == r9.2) then
        some (r7.1 == r9.1)
      else
        some false
set_option maxHeartbeats 4000000 in
theorem law10_StaticPolarity_ok {K : Nat} {p0 : NodeA} {p1 : List Int} {r : Bool} (h : law10_StaticPolarity K p0 p1 = some r) : Cn Try.prog 6 [aggV p0.enc, .d (slD i64V p1)] (.d (.val (.bool r))) := by
  refine Cn.ofA mixed Try.func6 rfl Try.call6 Try.ntmps6 Try.results6 (by simp) (by simp only [go_sem, Nat.reduceEqDiff, Nat.reduceAdd, Nat.reduceSub, Nat.reduceMul, Nat.reduceLeDiff, Nat.reduceLT, Nat.reduceBEq, reduceIte]) fun hfit => ?_
  unfold law10_StaticPolarity at h
  refine AW.cut [] [(0, .agg [.d (.val (.int .i64 p0.op)), .d (.val (.string p0.name)), .d (.val (.bool p0.num.neg)), .d (slD u32V p0.num.num), .d (slD u32V p0.num.den), .d (slD NodeA.enc p0.kids)]), (1, .d (slD i64V p1))] [] (by simp only [go_sem, Nat.reduceEqDiff, Nat.reduceAdd, Nat.reduceSub, Nat.reduceMul, Nat.reduceLeDiff, Nat.reduceLT, Nat.reduceBEq, reduceIte]) ?_
  refine AW.one ?_
  refine AW.reg mixed (by kernel_rfl) ?_
  try simp only [go_sem, Nat.reduceEqDiff, Nat.reduceAdd, Nat.reduceSub, Nat.reduceMul, Nat.reduceLeDiff, Nat.reduceLT, Nat.reduceBEq, reduceIte]
  refine AW.cut [0] [(1, .d (slD i64V p1)), (2, .ptr 0 6 0 0)] [some ⟨6, [[.d (.val (.int .i64 p0.op)), .d (.val (.string p0.name)), .d (.val (.bool p0.num.neg)), .d (slD u32V p0.num.num), .d (slD u32V p0.num.den), .d (slD NodeA.enc p0.kids)]]⟩] (by simp only [go_sem, Nat.reduceEqDiff, Nat.reduceAdd, Nat.reduceSub, Nat.reduceMul, Nat.reduceLeDiff, Nat.reduceLT, Nat.reduceBEq, reduceIte]) ?_
  refine AW.one ?_
  refine AW.one ?_
  refine AW.reg mixed (by kernel_rfl) ?_
  try simp only [go_sem, Nat.reduceEqDiff, Nat.reduceAdd, Nat.reduceSub, Nat.reduceMul, Nat.reduceLeDiff, Nat.reduceLT, Nat.reduceBEq, reduceIte]
  obtain ⟨r1, hx2, h⟩ := obind h
  have hc := law10_awake_ok (h := hx2)
  try simp only [NodeA.enc_eta, RatA.enc_eta, aggV, i64V, u32V, strV, List.map_cons, List.map_nil] at hc
  refine callK_pure hc (by simp only [go_sem, Nat.reduceEqDiff, Nat.reduceAdd, Nat.reduceSub, Nat.reduceMul, Nat.reduceLeDiff, Nat.reduceLT, Nat.reduceBEq, reduceIte]) ?_
  try simp only [go_sem, Nat.reduceEqDiff, Nat.reduceAdd, Nat.reduceSub, Nat.reduceMul, Nat.reduceLeDiff, Nat.reduceLT, Nat.reduceBEq, reduceIte]
  refine AW.cut [0] [(1, .d (slD i64V p1)), (2, .ptr 0 6 0 0), (10, .d (.val (.bool (!r1))))] [some ⟨6, [[.d (.val (.int .i64 p0.op)), .d (.val (.string p0.name)), .d (.val (.bool p0.num.neg)), .d (slD u32V p0.num.num), .d (slD u32V p0.num.den), .d (slD NodeA.enc p0.kids)]]⟩] (by simp only [go_sem, Nat.reduceEqDiff, Nat.reduceAdd, Nat.reduceSub, Nat.reduceMul, Nat.reduceLeDiff, Nat.reduceLT, Nat.reduceBEq, reduceIte]) ?_
  refine AW.test (t := (!r1)) (by simp only [go_sem, Nat.reduceEqDiff, Nat.reduceAdd, Nat.reduceSub, Nat.reduceMul, Nat.reduceLeDiff, Nat.reduceLT, Nat.reduceBEq, reduceIte]) (fun hb3 => ?_) (fun hb3 => ?_)
  · have h := ifT hb3 h
    refine AW.one ?_
    refine AW.reg mixed (by kernel_rfl) ?_
    try simp only [go_sem, Nat.reduceEqDiff, Nat.reduceAdd, Nat.reduceSub, Nat.reduceMul, Nat.reduceLeDiff, Nat.reduceLT, Nat.reduceBEq, reduceIte]
    refine AW.ret ?_
    obtain rfl := Option.some.inj h
    simp only [go_sem, Nat.reduceEqDiff, Nat.reduceAdd, Nat.reduceSub, Nat.reduceMul, Nat.reduceLeDiff, Nat.reduceLT, Nat.reduceBEq, reduceIte]
    exact .same _
  · have h := ifF hb3 h
    refine AW.skip ?_
    try simp only [go_sem, Nat.reduceEqDiff, Nat.reduceAdd, Nat.reduceSub, Nat.reduceMul, Nat.reduceLeDiff, Nat.reduceLT, Nat.reduceBEq, reduceIte]
    refine AW.cut [0] [(1, .d (slD i64V p1)), (2, .ptr 0 6 0 0)] [some ⟨6, [[.d (.val (.int .i64 p0.op)), .d (.val (.string p0.name)), .d (.val (.bool p0.num.neg)), .d (slD u32V p0.num.num), .d (slD u32V p0.num.den), .d (slD NodeA.enc p0.kids)]]⟩] (by simp only [go_sem, Nat.reduceEqDiff, Nat.reduceAdd, Nat.reduceSub, Nat.reduceMul, Nat.reduceLeDiff, Nat.reduceLT, Nat.reduceBEq, reduceIte]) ?_
    refine AW.one ?_
    refine AW.one ?_
    refine AW.reg mixed (by kernel_rfl) ?_
    try simp only [go_sem, Nat.reduceEqDiff, Nat.reduceAdd, Nat.reduceSub, Nat.reduceMul, Nat.reduceLeDiff, Nat.reduceLT, Nat.reduceBEq, reduceIte]
    obtain ⟨r4, hx5, h⟩ := obind h
    have hc := r08_Size_ok (h := hx5)
    try simp only [NodeA.enc_eta, RatA.enc_eta, aggV, i64V, u32V, strV, List.map_cons, List.map_nil] at hc
    refine callK_pure hc (by simp only [go_sem, Nat.reduceEqDiff, Nat.reduceAdd, Nat.reduceSub, Nat.reduceMul, Nat.reduceLeDiff, Nat.reduceLT, Nat.reduceBEq, reduceIte]) ?_
    try simp only [go_sem, Nat.reduceEqDiff, Nat.reduceAdd, Nat.reduceSub, Nat.reduceMul, Nat.reduceLeDiff, Nat.reduceLT, Nat.reduceBEq, reduceIte]
    refine AW.cut [0] [(1, .d (slD i64V p1)), (2, .ptr 0 6 0 0), (13, .d (.val (.bool (decide ((4000 : Int) < r4)))))] [some ⟨6, [[.d (.val (.int .i64 p0.op)), .d (.val (.string p0.name)), .d (.val (.bool p0.num.neg)), .d (slD u32V p0.num.num), .d (slD u32V p0.num.den), .d (slD NodeA.enc p0.kids)]]⟩] (by simp only [go_sem, Nat.reduceEqDiff, Nat.reduceAdd, Nat.reduceSub, Nat.reduceMul, Nat.reduceLeDiff, Nat.reduceLT, Nat.reduceBEq, reduceIte]) ?_
    refine AW.test (t := (decide ((4000 : Int) < r4))) (by simp only [go_sem, Nat.reduceEqDiff, Nat.reduceAdd, Nat.reduceSub, Nat.reduceMul, Nat.reduceLeDiff, Nat.reduceLT, Nat.reduceBEq, reduceIte]) (fun hb6 => ?_) (fun hb6 => ?_)
    · have h := ifT hb6 h
      refine AW.one ?_
      refine AW.reg mixed (by kernel_rfl) ?_
      try simp only [go_sem, Nat.reduceEqDiff, Nat.reduceAdd, Nat.reduceSub, Nat.reduceMul, Nat.reduceLeDiff, Nat.reduceLT, Nat.reduceBEq, reduceIte]
      refine AW.ret ?_
      obtain rfl := Option.some.inj h
      simp only [go_sem, Nat.reduceEqDiff, Nat.reduceAdd, Nat.reduceSub, Nat.reduceMul, Nat.reduceLeDiff, Nat.reduceLT, Nat.reduceBEq, reduceIte]
      exact .same _
    · have h := ifF hb6 h
      refine AW.skip ?_
      try simp only [go_sem, Nat.reduceEqDiff, Nat.reduceAdd, Nat.reduceSub, Nat.reduceMul, Nat.reduceLeDiff, Nat.reduceLT, Nat.reduceBEq, reduceIte]
      refine AW.cut [0] [(1, .d (slD i64V p1)), (2, .ptr 0 6 0 0)] [some ⟨6, [[.d (.val (.int .i64 p0.op)), .d (.val (.string p0.name)), .d (.val (.bool p0.num.neg)), .d (slD u32V p0.num.num), .d (slD u32V p0.num.den), .d (slD NodeA.enc p0.kids)]]⟩] (by simp only [go_sem, Nat.reduceEqDiff, Nat.reduceAdd, Nat.reduceSub, Nat.reduceMul, Nat.reduceLeDiff, Nat.reduceLT, Nat.reduceBEq, reduceIte]) ?_
      refine AW.one ?_
      refine AW.reg mixed (by kernel_rfl) ?_
      try simp only [go_sem, Nat.reduceEqDiff, Nat.reduceAdd, Nat.reduceSub, Nat.reduceMul, Nat.reduceLeDiff, Nat.reduceLT, Nat.reduceBEq, reduceIte]
      obtain ⟨r7, hx8, h⟩ := obind h
      have hc := static_Polarity_ok (h := hx8)
      try simp only [NodeA.enc_eta, RatA.enc_eta, aggV, i64V, u32V, strV, List.map_cons, List.map_nil] at hc
      refine callK_pure hc (by simp only [go_sem, Nat.reduceEqDiff, Nat.reduceAdd, Nat.reduceSub, Nat.reduceMul, Nat.reduceLeDiff, Nat.reduceLT, Nat.reduceBEq, reduceIte]) ?_
      try simp only [go_sem, Nat.reduceEqDiff, Nat.reduceAdd, Nat.reduceSub, Nat.reduceMul, Nat.reduceLeDiff, Nat.reduceLT, Nat.reduceBEq, reduceIte]
      refine AW.cut [0] [(1, .d (slD i64V p1)), (2, .ptr 0 6 0 0), (5, .d (.val (.int .i64 r7.1))), (6, .d (.val (.int .i64 r7.2)))] [some ⟨6, [[.d (.val (.int .i64 p0.op)), .d (.val (.string p0.name)), .d (.val (.bool p0.num.neg)), .d (slD u32V p0.num.num), .d (slD u32V p0.num.den), .d (slD NodeA.enc p0.kids)]]⟩] (by simp only [go_sem, Nat.reduceEqDiff, Nat.reduceAdd, Nat.reduceSub, Nat.reduceMul, Nat.reduceLeDiff, Nat.reduceLT, Nat.reduceBEq, reduceIte]) ?_
      refine AW.one ?_
      refine AW.reg mixed (by kernel_rfl) ?_
      try simp only [go_sem, Nat.reduceEqDiff, Nat.reduceAdd, Nat.reduceSub, Nat.reduceMul, Nat.reduceLeDiff, Nat.reduceLT, Nat.reduceBEq, reduceIte]
      obtain ⟨r9, hx10, h⟩ := obind h
      have hc := r10_Polarity_ok (h := hx10)
      try simp only [NodeA.enc_eta, RatA.enc_eta, aggV, i64V, u32V, strV, List.map_cons, List.map_nil] at hc
      refine callK_pure hc (by simp only [go_sem, Nat.reduceEqDiff, Nat.reduceAdd, Nat.reduceSub, Nat.reduceMul, Nat.reduceLeDiff, Nat.reduceLT, Nat.reduceBEq, reduceIte]) ?_
      try simp only [go_sem, Nat.reduceEqDiff, Nat.reduceAdd, Nat.reduceSub, Nat.reduceMul, Nat.reduceLeDiff, Nat.reduceLT, Nat.reduceBEq, reduceIte]
      refine AW.cut [] [(5, .d (.val (.int .i64 r7.1))), (6, .d (.val (.int .i64 r7.2))), (7, .d (.val (.int .i64 r9.1))), (8, .d (.val (.int .i64 r9.2)))] [] (by simp only [go_sem, Nat.reduceEqDiff, Nat.reduceAdd, Nat.reduceSub, Nat.reduceMul, Nat.reduceLeDiff, Nat.reduceLT, Nat.reduceBEq, reduceIte]) ?_
      refine AW.one ?_
      refine AW.reg mixed (by kernel_rfl) ?_
      try simp only [go_sem, Nat.reduceEqDiff, Nat.reduceAdd, Nat.reduceSub, Nat.reduceMul, Nat.reduceLeDiff, Nat.reduceLT, Nat.reduceBEq, reduceIte]
      refine splitK_intro (fun hb11 => ?_) (fun hb11 => ?_)
      · have h := ifT hb11 h
        try simp only [go_sem, Nat.reduceEqDiff, Nat.reduceAdd, Nat.reduceSub, Nat.reduceMul, Nat.reduceLeDiff, Nat.reduceLT, Nat.reduceBEq, reduceIte, hb11]
        refine AW.ret ?_
        obtain rfl := Option.some.inj h
        simp only [go_sem, Nat.reduceEqDiff, Nat.reduceAdd, Nat.reduceSub, Nat.reduceMul, Nat.reduceLeDiff, Nat.reduceLT, Nat.reduceBEq, reduceIte]
        exact .same _
      · have h := ifF hb11 h
        try simp only [go_sem, Nat.reduceEqDiff, Nat.reduceAdd, Nat.reduceSub, Nat.reduceMul, Nat.reduceLeDiff, Nat.reduceLT, Nat.reduceBEq, reduceIte, hb11]
        refine AW.ret ?_
        obtain rfl := Option.some.inj h
        simp only [go_sem, Nat.reduceEqDiff, Nat.reduceAdd, Nat.reduceSub, Nat.reduceMul, Nat.reduceLeDiff, Nat.reduceLT, Nat.reduceBEq, reduceIte]
        exact .same _

end Go.Proofs.Ytcgphoghmgeecaa
