/- Part of the proof of a law: contracts of the functions that the law reaches, or plain laws of them, out of the abstract layer (the texts YtcgphoghmgeecaaIso..). No condition. -/
import Derived.Test.YtcgphoghmgeecaaW
import Derived.Test.YtcgphoghmgeecaaIsoJ
import Derived.Test.YtcgphoghmgeecaaLman
namespace Go.Proofs.Ytcgphoghmgeecaa
open Go Go.Iso Go.Proofs
set_option linter.unusedSimpArgs false
set_option linter.unusedVariables false
set_option maxRecDepth 100000

/-! ### isochrone/isochroneref08.Size -/
def r08_Size_body (K : Nat) (self21 : NodeA → Option Int) (p0 : NodeA) : Option Int := ((iter (S := Int × Int) (R := Int) K (fun again (i1_0, i1_1) => 
    if (decide (i1_1 < (p0.kids.length : Int))) then
      (idx p0.kids i1_1).bind fun x6 => 
      (self21 (x6)).bind fun r8 => 
      again (IntKind.wrap .i64 (i1_0 + r8), IntKind.wrap .i64 (i1_1 + (1 : Int)))
    else
      some i1_0) ((1 : Int), (0 : Int))) : Option Int).bind (fun e2_0 => 
  some e2_0)
set_option maxHeartbeats 4000000 in
theorem r08_Size_step (K : Nat) (self21 : NodeA → Option Int) (hself21 : ∀ (q : NodeA) (r : Int), self21 q = some r → Cn Try.prog 21 [aggV q.enc] (.d (.val (.int .i64 r)))) (p0 : NodeA) (r : Int) (h : r08_Size_body K self21 p0 = some r) : Cn Try.prog 21 [aggV p0.enc] (.d (.val (.int .i64 r))) := by
  refine Cn.ofA mixed Try.func21 rfl Try.call21 Try.ntmps21 Try.results21 (by simp) (by simp only [go_sem, Nat.reduceEqDiff, Nat.reduceAdd, Nat.reduceSub, Nat.reduceMul, Nat.reduceLeDiff, Nat.reduceLT, Nat.reduceBEq, reduceIte]) fun hfit => ?_
  unfold r08_Size_body at h
  refine AW.cut [] [(0, .agg [.d (.val (.int .i64 p0.op)), .d (.val (.string p0.name)), .d (.val (.bool p0.num.neg)), .d (slD u32V p0.num.num), .d (slD u32V p0.num.den), .d (slD NodeA.enc p0.kids)])] [] (by simp only [go_sem, Nat.reduceEqDiff, Nat.reduceAdd, Nat.reduceSub, Nat.reduceMul, Nat.reduceLeDiff, Nat.reduceLT, Nat.reduceBEq, reduceIte]) ?_
  refine AW.one ?_
  refine AW.reg mixed (by kernel_rfl) ?_
  try simp only [go_sem, Nat.reduceEqDiff, Nat.reduceAdd, Nat.reduceSub, Nat.reduceMul, Nat.reduceLeDiff, Nat.reduceLT, Nat.reduceBEq, reduceIte]
  refine AW.cut [0] [(1, .ptr 0 6 0 0)] [some ⟨6, [[.d (.val (.int .i64 p0.op)), .d (.val (.string p0.name)), .d (.val (.bool p0.num.neg)), .d (slD u32V p0.num.num), .d (slD u32V p0.num.den), .d (slD NodeA.enc p0.kids)]]⟩] (by simp only [go_sem, Nat.reduceEqDiff, Nat.reduceAdd, Nat.reduceSub, Nat.reduceMul, Nat.reduceLeDiff, Nat.reduceLT, Nat.reduceBEq, reduceIte]) ?_
  refine AW.one ?_
  refine AW.reg mixed (by kernel_rfl) ?_
  try simp only [go_sem, Nat.reduceEqDiff, Nat.reduceAdd, Nat.reduceSub, Nat.reduceMul, Nat.reduceLeDiff, Nat.reduceLT, Nat.reduceBEq, reduceIte]
  refine AW.cut [0] [(1, .ptr 0 6 0 0), (3, .d (.val (.int .i64 (1 : Int))))] [some ⟨6, [[.d (.val (.int .i64 p0.op)), .d (.val (.string p0.name)), .d (.val (.bool p0.num.neg)), .d (slD u32V p0.num.num), .d (slD u32V p0.num.den), .d (slD NodeA.enc p0.kids)]]⟩] (by simp only [go_sem, Nat.reduceEqDiff, Nat.reduceAdd, Nat.reduceSub, Nat.reduceMul, Nat.reduceLeDiff, Nat.reduceLT, Nat.reduceBEq, reduceIte]) ?_
  refine AW.one ?_
  refine AW.one ?_
  refine AW.reg mixed (by kernel_rfl) ?_
  try simp only [go_sem, Nat.reduceEqDiff, Nat.reduceAdd, Nat.reduceSub, Nat.reduceMul, Nat.reduceLeDiff, Nat.reduceLT, Nat.reduceBEq, reduceIte]
  refine AW.cut [0] [(1, .ptr 0 6 0 0), (3, .d (.val (.int .i64 (1 : Int)))), (4, .d (.val (.int .i64 (0 : Int))))] [some ⟨6, [[.d (.val (.int .i64 p0.op)), .d (.val (.string p0.name)), .d (.val (.bool p0.num.neg)), .d (slD u32V p0.num.num), .d (slD u32V p0.num.den), .d (slD NodeA.enc p0.kids)]]⟩] (by simp only [go_sem, Nat.reduceEqDiff, Nat.reduceAdd, Nat.reduceSub, Nat.reduceMul, Nat.reduceLeDiff, Nat.reduceLT, Nat.reduceBEq, reduceIte]) ?_
  obtain ⟨oJ4, h, hJ4⟩ := obind h
  refine AW.join (S := Int) (fun e2_0 => [(3, .d (.val (.int .i64 e2_0)))]) (fun e2_0 => []) (fun x => x = oJ4) ?_ ?_
  · refine AW.block ?_
    refine AW.iter (S := Int × Int) (fun (i1_0, i1_1) => [(1, .ptr 0 6 0 0), (3, .d (.val (.int .i64 i1_0))), (4, .d (.val (.int .i64 i1_1)))]) (fun (i1_0, i1_1) => [some ⟨6, [[.d (.val (.int .i64 p0.op)), .d (.val (.string p0.name)), .d (.val (.bool p0.num.neg)), .d (slD u32V p0.num.num), .d (slD u32V p0.num.den), .d (slD NodeA.enc p0.kids)]]⟩]) [0] h (by simp only [go_sem, Nat.reduceEqDiff, Nat.reduceAdd, Nat.reduceSub, Nat.reduceMul, Nat.reduceLeDiff, Nat.reduceLT, Nat.reduceBEq, reduceIte]) ?_
    rintro again ⟨i1_0, i1_1⟩ h
    try dsimp only at h
    refine AW.one ?_
    refine AW.one ?_
    refine AW.reg mixed (by kernel_rfl) ?_
    try simp only [go_sem, Nat.reduceEqDiff, Nat.reduceAdd, Nat.reduceSub, Nat.reduceMul, Nat.reduceLeDiff, Nat.reduceLT, Nat.reduceBEq, reduceIte]
    refine AW.cut [0] [(1, .ptr 0 6 0 0), (3, .d (.val (.int .i64 i1_0))), (4, .d (.val (.int .i64 i1_1))), (9, .d (.val (.bool (decide (i1_1 < (p0.kids.length : Int))))))] [some ⟨6, [[.d (.val (.int .i64 p0.op)), .d (.val (.string p0.name)), .d (.val (.bool p0.num.neg)), .d (slD u32V p0.num.num), .d (slD u32V p0.num.den), .d (slD NodeA.enc p0.kids)]]⟩] (by simp only [go_sem, Nat.reduceEqDiff, Nat.reduceAdd, Nat.reduceSub, Nat.reduceMul, Nat.reduceLeDiff, Nat.reduceLT, Nat.reduceBEq, reduceIte]) ?_
    refine AW.test (t := (decide (i1_1 < (p0.kids.length : Int)))) (by simp only [go_sem, Nat.reduceEqDiff, Nat.reduceAdd, Nat.reduceSub, Nat.reduceMul, Nat.reduceLeDiff, Nat.reduceLT, Nat.reduceBEq, reduceIte]) (fun hb5 => ?_) (fun hb5 => ?_)
    · have h := ifT hb5 h
      refine AW.skip ?_
      try simp only [go_sem, Nat.reduceEqDiff, Nat.reduceAdd, Nat.reduceSub, Nat.reduceMul, Nat.reduceLeDiff, Nat.reduceLT, Nat.reduceBEq, reduceIte]
      refine AW.cut [0] [(1, .ptr 0 6 0 0), (3, .d (.val (.int .i64 i1_0))), (4, .d (.val (.int .i64 i1_1)))] [some ⟨6, [[.d (.val (.int .i64 p0.op)), .d (.val (.string p0.name)), .d (.val (.bool p0.num.neg)), .d (slD u32V p0.num.num), .d (slD u32V p0.num.den), .d (slD NodeA.enc p0.kids)]]⟩] (by simp only [go_sem, Nat.reduceEqDiff, Nat.reduceAdd, Nat.reduceSub, Nat.reduceMul, Nat.reduceLeDiff, Nat.reduceLT, Nat.reduceBEq, reduceIte]) ?_
      refine AW.one ?_
      refine AW.block ?_
      refine AW.reg mixed (by kernel_rfl) ?_
      obtain ⟨x6, hx7, h⟩ := obind h
      try simp only [go_sem, Nat.reduceEqDiff, Nat.reduceAdd, Nat.reduceSub, Nat.reduceMul, Nat.reduceLeDiff, Nat.reduceLT, Nat.reduceBEq, reduceIte, (idx_some hx7).1, (idx_some hx7).2]
      obtain ⟨r8, hx9, h⟩ := obind h
      have hc := hself21 _ _ hx9
      try simp only [NodeA.enc_eta, RatA.enc_eta, aggV, i64V, u32V, strV, List.map_cons, List.map_nil] at hc
      refine callK_pure hc (by simp only [go_sem, Nat.reduceEqDiff, Nat.reduceAdd, Nat.reduceSub, Nat.reduceMul, Nat.reduceLeDiff, Nat.reduceLT, Nat.reduceBEq, reduceIte]) ?_
      try simp only [go_sem, Nat.reduceEqDiff, Nat.reduceAdd, Nat.reduceSub, Nat.reduceMul, Nat.reduceLeDiff, Nat.reduceLT, Nat.reduceBEq, reduceIte, (idx_some hx7).1, (idx_some hx7).2]
      refine AW.cut [0] [(1, .ptr 0 6 0 0), (3, .d (.val (.int .i64 (IntKind.wrap .i64 (i1_0 + r8))))), (4, .d (.val (.int .i64 i1_1)))] [some ⟨6, [[.d (.val (.int .i64 p0.op)), .d (.val (.string p0.name)), .d (.val (.bool p0.num.neg)), .d (slD u32V p0.num.num), .d (slD u32V p0.num.den), .d (slD NodeA.enc p0.kids)]]⟩] (by simp only [go_sem, Nat.reduceEqDiff, Nat.reduceAdd, Nat.reduceSub, Nat.reduceMul, Nat.reduceLeDiff, Nat.reduceLT, Nat.reduceBEq, reduceIte, (idx_some hx7).1, (idx_some hx7).2]) ?_
      refine AW.reg mixed (by kernel_rfl) ?_
      try simp only [go_sem, Nat.reduceEqDiff, Nat.reduceAdd, Nat.reduceSub, Nat.reduceMul, Nat.reduceLeDiff, Nat.reduceLT, Nat.reduceBEq, reduceIte]
      refine NextQ.mk (IntKind.wrap .i64 (i1_0 + r8), IntKind.wrap .i64 (i1_1 + (1 : Int))) [0] h (by simp only [go_sem, Nat.reduceEqDiff, Nat.reduceAdd, Nat.reduceSub, Nat.reduceMul, Nat.reduceLeDiff, Nat.reduceLT, Nat.reduceBEq, reduceIte])
    · have h := ifF hb5 h
      refine AW.exit ?_
      try simp only [go_sem, Nat.reduceEqDiff, Nat.reduceAdd, Nat.reduceSub, Nat.reduceMul, Nat.reduceLeDiff, Nat.reduceLT, Nat.reduceBEq, reduceIte]
      refine JoinQ.mk i1_0 [] (Option.some.inj h) (by simp only [go_sem, Nat.reduceEqDiff, Nat.reduceAdd, Nat.reduceSub, Nat.reduceMul, Nat.reduceLeDiff, Nat.reduceLT, Nat.reduceBEq, reduceIte])
  · rintro e2_0 rfl
    have h := hJ4
    try dsimp only [Out.fin] at h
    simp only [go_sem, Nat.reduceEqDiff, Nat.reduceAdd, Nat.reduceSub, Nat.reduceMul, Nat.reduceLeDiff, Nat.reduceLT, Nat.reduceBEq, reduceIte]
    refine AW.cut [] [(3, .d (.val (.int .i64 e2_0)))] [] (by simp only [go_sem, Nat.reduceEqDiff, Nat.reduceAdd, Nat.reduceSub, Nat.reduceMul, Nat.reduceLeDiff, Nat.reduceLT, Nat.reduceBEq, reduceIte]) ?_
    refine AW.one ?_
    refine AW.reg mixed (by kernel_rfl) ?_
    try simp only [go_sem, Nat.reduceEqDiff, Nat.reduceAdd, Nat.reduceSub, Nat.reduceMul, Nat.reduceLeDiff, Nat.reduceLT, Nat.reduceBEq, reduceIte]
    refine AW.ret ?_
    obtain rfl := Option.some.inj h
    simp only [go_sem, Nat.reduceEqDiff, Nat.reduceAdd, Nat.reduceSub, Nat.reduceMul, Nat.reduceLeDiff, Nat.reduceLT, Nat.reduceBEq, reduceIte]
    exact .same _
def r08_Size (K : Nat) (p0 : NodeA) : Option Int := iter K (fun self q => r08_Size_body K self q) p0
theorem key_r08_Size {K : Nat} (k : Nat) : (∀ (q : NodeA) (r : Int), iter k (fun self q => r08_Size_body K self q) q = some r → Cn Try.prog 21 [aggV q.enc] (.d (.val (.int .i64 r)))) := by
  induction k with
  | zero => exact fun q r h => by cases h
  | succ k ih => exact fun q r h => r08_Size_step K _ ih q r h
theorem r08_Size_ok {K : Nat} {p0 : NodeA} {r : Int} (h : r08_Size K p0 = some r) : Cn Try.prog 21 [aggV p0.enc] (.d (.val (.int .i64 r))) := (key_r08_Size K) p0 r h

end Go.Proofs.Ytcgphoghmgeecaa
namespace Go.Proofs.Ytcgphoghmgeecaa
open Go Go.Iso Go.Proofs
set_option linter.unusedSimpArgs false
set_option linter.unusedVariables false
set_option maxRecDepth 100000

/-! ### isochrone/isochroneref08.Sort -/
def r08_Sort (K : Nat) (p0 : Int) : Option Int := ((
    if (decide ((1 : Int) ≤ p0)) then
      some (decide (p0 ≤ (13 : Int)))
    else
      some false) : Option Bool).bind (fun v1_0 => 
  if v1_0 then
    some (1 : Int)
  else
    ((
      if (decide ((20 : Int) ≤ p0)) then
        some (decide (p0 ≤ (39 : Int)))
      else
        some false) : Option Bool).bind (fun v5_0 => 
    if v5_0 then
      some (2 : Int)
    else
      ((
        if (p0 == (55 : Int)) then
          some true
        else
          some (p0 == (56 : Int))) : Option Bool).bind (fun v9_0 => 
      if v9_0 then
        some (4 : Int)
      else
        ((
          if (decide ((50 : Int) ≤ p0)) then
            some (decide (p0 ≤ (62 : Int)))
          else
            some false) : Option Bool).bind (fun v13_0 => 
        if v13_0 then
          some (3 : Int)
        else
          some (0 : Int)))))
set_option maxHeartbeats 4000000 in
theorem r08_Sort_ok {K : Nat} {p0 : Int} {r : Int} (h : r08_Sort K p0 = some r) : Cn Try.prog 41 [.d (.val (.int .i64 p0))] (.d (.val (.int .i64 r))) := by
  refine Cn.ofA mixed Try.func41 rfl Try.call41 Try.ntmps41 Try.results41 (by simp) (by simp only [go_sem, Nat.reduceEqDiff, Nat.reduceAdd, Nat.reduceSub, Nat.reduceMul, Nat.reduceLeDiff, Nat.reduceLT, Nat.reduceBEq, reduceIte]) fun hfit => ?_
  unfold r08_Sort at h
  refine AW.cut [] [(0, .d (.val (.int .i64 p0)))] [] (by simp only [go_sem, Nat.reduceEqDiff, Nat.reduceAdd, Nat.reduceSub, Nat.reduceMul, Nat.reduceLeDiff, Nat.reduceLT, Nat.reduceBEq, reduceIte]) ?_
  refine AW.one ?_
  refine AW.reg mixed (by kernel_rfl) ?_
  try simp only [go_sem, Nat.reduceEqDiff, Nat.reduceAdd, Nat.reduceSub, Nat.reduceMul, Nat.reduceLeDiff, Nat.reduceLT, Nat.reduceBEq, reduceIte]
  refine AW.cut [] [(0, .d (.val (.int .i64 p0)))] [] (by simp only [go_sem, Nat.reduceEqDiff, Nat.reduceAdd, Nat.reduceSub, Nat.reduceMul, Nat.reduceLeDiff, Nat.reduceLT, Nat.reduceBEq, reduceIte]) ?_
  refine AW.one ?_
  refine AW.block ?_
  refine AW.one ?_
  obtain ⟨oJ2, h, hJ2⟩ := obind h
  refine AW.join (S := Bool) (fun v1_0 => [(0, .d (.val (.int .i64 p0))), (3, .d (.val (.bool v1_0)))]) (fun v1_0 => []) (fun x => x = oJ2) ?_ ?_
  · skip
    refine AW.reg mixed (by kernel_rfl) ?_
    try simp only [go_sem, Nat.reduceEqDiff, Nat.reduceAdd, Nat.reduceSub, Nat.reduceMul, Nat.reduceLeDiff, Nat.reduceLT, Nat.reduceBEq, reduceIte]
    refine splitK_intro (fun hb3 => ?_) (fun hb3 => ?_)
    · have h := ifT hb3 h
      try simp only [go_sem, Nat.reduceEqDiff, Nat.reduceAdd, Nat.reduceSub, Nat.reduceMul, Nat.reduceLeDiff, Nat.reduceLT, Nat.reduceBEq, reduceIte, hb3]
      refine JoinQ.mk (decide (p0 ≤ (13 : Int))) [] (Option.some.inj h) (by simp only [go_sem, Nat.reduceEqDiff, Nat.reduceAdd, Nat.reduceSub, Nat.reduceMul, Nat.reduceLeDiff, Nat.reduceLT, Nat.reduceBEq, reduceIte, hb3])
    · have h := ifF hb3 h
      try simp only [go_sem, Nat.reduceEqDiff, Nat.reduceAdd, Nat.reduceSub, Nat.reduceMul, Nat.reduceLeDiff, Nat.reduceLT, Nat.reduceBEq, reduceIte, hb3]
      refine JoinQ.mk false [] (Option.some.inj h) (by simp only [go_sem, Nat.reduceEqDiff, Nat.reduceAdd, Nat.reduceSub, Nat.reduceMul, Nat.reduceLeDiff, Nat.reduceLT, Nat.reduceBEq, reduceIte, hb3])
  · rintro v1_0 rfl
    have h := hJ2
    try dsimp only [Out.fin] at h
    simp only [go_sem, Nat.reduceEqDiff, Nat.reduceAdd, Nat.reduceSub, Nat.reduceMul, Nat.reduceLeDiff, Nat.reduceLT, Nat.reduceBEq, reduceIte]
    refine AW.test (t := v1_0) (by simp only [go_sem, Nat.reduceEqDiff, Nat.reduceAdd, Nat.reduceSub, Nat.reduceMul, Nat.reduceLeDiff, Nat.reduceLT, Nat.reduceBEq, reduceIte]) (fun hb4 => ?_) (fun hb4 => ?_)
    · have h := ifT hb4 h
      refine AW.one ?_
      refine AW.reg mixed (by kernel_rfl) ?_
      try simp only [go_sem, Nat.reduceEqDiff, Nat.reduceAdd, Nat.reduceSub, Nat.reduceMul, Nat.reduceLeDiff, Nat.reduceLT, Nat.reduceBEq, reduceIte]
      refine AW.ret ?_
      obtain rfl := Option.some.inj h
      simp only [go_sem, Nat.reduceEqDiff, Nat.reduceAdd, Nat.reduceSub, Nat.reduceMul, Nat.reduceLeDiff, Nat.reduceLT, Nat.reduceBEq, reduceIte]
      exact .same _
    · have h := ifF hb4 h
      refine AW.one ?_
      obtain ⟨oJ6, h, hJ6⟩ := obind h
      refine AW.join (S := Bool) (fun v5_0 => [(0, .d (.val (.int .i64 p0))), (10, .d (.val (.bool v5_0)))]) (fun v5_0 => []) (fun x => x = oJ6) ?_ ?_
      · skip
        refine AW.reg mixed (by kernel_rfl) ?_
        try simp only [go_sem, Nat.reduceEqDiff, Nat.reduceAdd, Nat.reduceSub, Nat.reduceMul, Nat.reduceLeDiff, Nat.reduceLT, Nat.reduceBEq, reduceIte]
        refine splitK_intro (fun hb7 => ?_) (fun hb7 => ?_)
        · have h := ifT hb7 h
          try simp only [go_sem, Nat.reduceEqDiff, Nat.reduceAdd, Nat.reduceSub, Nat.reduceMul, Nat.reduceLeDiff, Nat.reduceLT, Nat.reduceBEq, reduceIte, hb7]
          refine JoinQ.mk (decide (p0 ≤ (39 : Int))) [] (Option.some.inj h) (by simp only [go_sem, Nat.reduceEqDiff, Nat.reduceAdd, Nat.reduceSub, Nat.reduceMul, Nat.reduceLeDiff, Nat.reduceLT, Nat.reduceBEq, reduceIte, hb7])
        · have h := ifF hb7 h
          try simp only [go_sem, Nat.reduceEqDiff, Nat.reduceAdd, Nat.reduceSub, Nat.reduceMul, Nat.reduceLeDiff, Nat.reduceLT, Nat.reduceBEq, reduceIte, hb7]
          refine JoinQ.mk false [] (Option.some.inj h) (by simp only [go_sem, Nat.reduceEqDiff, Nat.reduceAdd, Nat.reduceSub, Nat.reduceMul, Nat.reduceLeDiff, Nat.reduceLT, Nat.reduceBEq, reduceIte, hb7])
      · rintro v5_0 rfl
        have h := hJ6
        try dsimp only [Out.fin] at h
        simp only [go_sem, Nat.reduceEqDiff, Nat.reduceAdd, Nat.reduceSub, Nat.reduceMul, Nat.reduceLeDiff, Nat.reduceLT, Nat.reduceBEq, reduceIte]
        refine AW.test (t := v5_0) (by simp only [go_sem, Nat.reduceEqDiff, Nat.reduceAdd, Nat.reduceSub, Nat.reduceMul, Nat.reduceLeDiff, Nat.reduceLT, Nat.reduceBEq, reduceIte]) (fun hb8 => ?_) (fun hb8 => ?_)
        · have h := ifT hb8 h
          refine AW.one ?_
          refine AW.reg mixed (by kernel_rfl) ?_
          try simp only [go_sem, Nat.reduceEqDiff, Nat.reduceAdd, Nat.reduceSub, Nat.reduceMul, Nat.reduceLeDiff, Nat.reduceLT, Nat.reduceBEq, reduceIte]
          refine AW.ret ?_
          obtain rfl := Option.some.inj h
          simp only [go_sem, Nat.reduceEqDiff, Nat.reduceAdd, Nat.reduceSub, Nat.reduceMul, Nat.reduceLeDiff, Nat.reduceLT, Nat.reduceBEq, reduceIte]
          exact .same _
        · have h := ifF hb8 h
          refine AW.one ?_
          obtain ⟨oJ10, h, hJ10⟩ := obind h
          refine AW.join (S := Bool) (fun v9_0 => [(0, .d (.val (.int .i64 p0))), (17, .d (.val (.bool v9_0)))]) (fun v9_0 => []) (fun x => x = oJ10) ?_ ?_
          · skip
            refine AW.reg mixed (by kernel_rfl) ?_
            try simp only [go_sem, Nat.reduceEqDiff, Nat.reduceAdd, Nat.reduceSub, Nat.reduceMul, Nat.reduceLeDiff, Nat.reduceLT, Nat.reduceBEq, reduceIte]
            refine splitK_intro (fun hb11 => ?_) (fun hb11 => ?_)
            · have h := ifT hb11 h
              try simp only [go_sem, Nat.reduceEqDiff, Nat.reduceAdd, Nat.reduceSub, Nat.reduceMul, Nat.reduceLeDiff, Nat.reduceLT, Nat.reduceBEq, reduceIte, hb11]
              refine JoinQ.mk true [] (Option.some.inj h) (by simp only [go_sem, Nat.reduceEqDiff, Nat.reduceAdd, Nat.reduceSub, Nat.reduceMul, Nat.reduceLeDiff, Nat.reduceLT, Nat.reduceBEq, reduceIte, hb11])
            · have h := ifF hb11 h
              try simp only [go_sem, Nat.reduceEqDiff, Nat.reduceAdd, Nat.reduceSub, Nat.reduceMul, Nat.reduceLeDiff, Nat.reduceLT, Nat.reduceBEq, reduceIte, hb11]
              refine JoinQ.mk (p0 == (56 : Int)) [] (Option.some.inj h) (by simp only [go_sem, Nat.reduceEqDiff, Nat.reduceAdd, Nat.reduceSub, Nat.reduceMul, Nat.reduceLeDiff, Nat.reduceLT, Nat.reduceBEq, reduceIte, hb11])
          · rintro v9_0 rfl
            have h := hJ10
            try dsimp only [Out.fin] at h
            simp only [go_sem, Nat.reduceEqDiff, Nat.reduceAdd, Nat.reduceSub, Nat.reduceMul, Nat.reduceLeDiff, Nat.reduceLT, Nat.reduceBEq, reduceIte]
            refine AW.test (t := v9_0) (by simp only [go_sem, Nat.reduceEqDiff, Nat.reduceAdd, Nat.reduceSub, Nat.reduceMul, Nat.reduceLeDiff, Nat.reduceLT, Nat.reduceBEq, reduceIte]) (fun hb12 => ?_) (fun hb12 => ?_)
            · have h := ifT hb12 h
              refine AW.one ?_
              refine AW.reg mixed (by kernel_rfl) ?_
              try simp only [go_sem, Nat.reduceEqDiff, Nat.reduceAdd, Nat.reduceSub, Nat.reduceMul, Nat.reduceLeDiff, Nat.reduceLT, Nat.reduceBEq, reduceIte]
              refine AW.ret ?_
              obtain rfl := Option.some.inj h
              simp only [go_sem, Nat.reduceEqDiff, Nat.reduceAdd, Nat.reduceSub, Nat.reduceMul, Nat.reduceLeDiff, Nat.reduceLT, Nat.reduceBEq, reduceIte]
              exact .same _
            · have h := ifF hb12 h
              refine AW.one ?_
              obtain ⟨oJ14, h, hJ14⟩ := obind h
              refine AW.join (S := Bool) (fun v13_0 => [(24, .d (.val (.bool v13_0)))]) (fun v13_0 => []) (fun x => x = oJ14) ?_ ?_
              · skip
                refine AW.reg mixed (by kernel_rfl) ?_
                try simp only [go_sem, Nat.reduceEqDiff, Nat.reduceAdd, Nat.reduceSub, Nat.reduceMul, Nat.reduceLeDiff, Nat.reduceLT, Nat.reduceBEq, reduceIte]
                refine splitK_intro (fun hb15 => ?_) (fun hb15 => ?_)
                · have h := ifT hb15 h
                  try simp only [go_sem, Nat.reduceEqDiff, Nat.reduceAdd, Nat.reduceSub, Nat.reduceMul, Nat.reduceLeDiff, Nat.reduceLT, Nat.reduceBEq, reduceIte, hb15]
                  refine JoinQ.mk (decide (p0 ≤ (62 : Int))) [] (Option.some.inj h) (by simp only [go_sem, Nat.reduceEqDiff, Nat.reduceAdd, Nat.reduceSub, Nat.reduceMul, Nat.reduceLeDiff, Nat.reduceLT, Nat.reduceBEq, reduceIte, hb15])
                · have h := ifF hb15 h
                  try simp only [go_sem, Nat.reduceEqDiff, Nat.reduceAdd, Nat.reduceSub, Nat.reduceMul, Nat.reduceLeDiff, Nat.reduceLT, Nat.reduceBEq, reduceIte, hb15]
                  refine JoinQ.mk false [] (Option.some.inj h) (by simp only [go_sem, Nat.reduceEqDiff, Nat.reduceAdd, Nat.reduceSub, Nat.reduceMul, Nat.reduceLeDiff, Nat.reduceLT, Nat.reduceBEq, reduceIte, hb15])
              · rintro v13_0 rfl
                have h := hJ14
                try dsimp only [Out.fin] at h
                simp only [go_sem, Nat.reduceEqDiff, Nat.reduceAdd, Nat.reduceSub, Nat.reduceMul, Nat.reduceLeDiff, Nat.reduceLT, Nat.reduceBEq, reduceIte]
                refine AW.test (t := v13_0) (by simp only [go_sem, Nat.reduceEqDiff, Nat.reduceAdd, Nat.reduceSub, Nat.reduceMul, Nat.reduceLeDiff, Nat.reduceLT, Nat.reduceBEq, reduceIte]) (fun hb16 => ?_) (fun hb16 => ?_)
                · have h := ifT hb16 h
                  refine AW.one ?_
                  refine AW.reg mixed (by kernel_rfl) ?_
                  try simp only [go_sem, Nat.reduceEqDiff, Nat.reduceAdd, Nat.reduceSub, Nat.reduceMul, Nat.reduceLeDiff, Nat.reduceLT, Nat.reduceBEq, reduceIte]
                  refine AW.ret ?_
                  obtain rfl := Option.some.inj h
                  simp only [go_sem, Nat.reduceEqDiff, Nat.reduceAdd, Nat.reduceSub, Nat.reduceMul, Nat.reduceLeDiff, Nat.reduceLT, Nat.reduceBEq, reduceIte]
                  exact .same _
                · have h := ifF hb16 h
                  refine AW.skip ?_
                  try simp only [go_sem, Nat.reduceEqDiff, Nat.reduceAdd, Nat.reduceSub, Nat.reduceMul, Nat.reduceLeDiff, Nat.reduceLT, Nat.reduceBEq, reduceIte]
                  refine AW.cut [] [] [] (by simp only [go_sem, Nat.reduceEqDiff, Nat.reduceAdd, Nat.reduceSub, Nat.reduceMul, Nat.reduceLeDiff, Nat.reduceLT, Nat.reduceBEq, reduceIte]) ?_
                  refine AW.one ?_
                  refine AW.reg mixed (by kernel_rfl) ?_
                  try simp only [go_sem, Nat.reduceEqDiff, Nat.reduceAdd, Nat.reduceSub, Nat.reduceMul, Nat.reduceLeDiff, Nat.reduceLT, Nat.reduceBEq, reduceIte]
                  refine AW.ret ?_
                  obtain rfl := Option.some.inj h
                  simp only [go_sem, Nat.reduceEqDiff, Nat.reduceAdd, Nat.reduceSub, Nat.reduceMul, Nat.reduceLeDiff, Nat.reduceLT, Nat.reduceBEq, reduceIte]
                  exact .same _

end Go.Proofs.Ytcgphoghmgeecaa
namespace Go.Proofs.Ytcgphoghmgeecaa
open Go Go.Iso Go.Proofs
set_option linter.unusedSimpArgs false
set_option linter.unusedVariables false
set_option maxRecDepth 100000

/-! ### isochrone/isochroneref08.Levels -/
def r08_Levels_body (K : Nat) (self40 : NodeA → Option Int) (p0 : NodeA) : Option Int := ((iter (S := Int × Int) (R := Int) K (fun again (i1_0, i1_1) => 
    if (decide (i1_1 < (p0.kids.length : Int))) then
      (idx p0.kids i1_1).bind fun x6 => 
      (self40 (x6)).bind fun r8 => 
      again ((if r8 > i1_0 then r8 else i1_0), IntKind.wrap .i64 (i1_1 + (1 : Int)))
    else
      some i1_0) ((0 : Int), (0 : Int))) : Option Int).bind (fun e2_0 => 
  some (IntKind.wrap .i64 (e2_0 + (1 : Int))))
set_option maxHeartbeats 4000000 in
theorem r08_Levels_step (K : Nat) (self40 : NodeA → Option Int) (hself40 : ∀ (q : NodeA) (r : Int), self40 q = some r → Cn Try.prog 40 [aggV q.enc] (.d (.val (.int .i64 r)))) (p0 : NodeA) (r : Int) (h : r08_Levels_body K self40 p0 = some r) : Cn Try.prog 40 [aggV p0.enc] (.d (.val (.int .i64 r))) := by
  refine Cn.ofA mixed Try.func40 rfl Try.call40 Try.ntmps40 Try.results40 (by simp) (by simp only [go_sem, Nat.reduceEqDiff, Nat.reduceAdd, Nat.reduceSub, Nat.reduceMul, Nat.reduceLeDiff, Nat.reduceLT, Nat.reduceBEq, reduceIte]) fun hfit => ?_
  unfold r08_Levels_body at h
  refine AW.cut [] [(0, .agg [.d (.val (.int .i64 p0.op)), .d (.val (.string p0.name)), .d (.val (.bool p0.num.neg)), .d (slD u32V p0.num.num), .d (slD u32V p0.num.den), .d (slD NodeA.enc p0.kids)])] [] (by simp only [go_sem, Nat.reduceEqDiff, Nat.reduceAdd, Nat.reduceSub, Nat.reduceMul, Nat.reduceLeDiff, Nat.reduceLT, Nat.reduceBEq, reduceIte]) ?_
  refine AW.one ?_
  refine AW.reg mixed (by kernel_rfl) ?_
  try simp only [go_sem, Nat.reduceEqDiff, Nat.reduceAdd, Nat.reduceSub, Nat.reduceMul, Nat.reduceLeDiff, Nat.reduceLT, Nat.reduceBEq, reduceIte]
  refine AW.cut [0] [(1, .ptr 0 6 0 0)] [some ⟨6, [[.d (.val (.int .i64 p0.op)), .d (.val (.string p0.name)), .d (.val (.bool p0.num.neg)), .d (slD u32V p0.num.num), .d (slD u32V p0.num.den), .d (slD NodeA.enc p0.kids)]]⟩] (by simp only [go_sem, Nat.reduceEqDiff, Nat.reduceAdd, Nat.reduceSub, Nat.reduceMul, Nat.reduceLeDiff, Nat.reduceLT, Nat.reduceBEq, reduceIte]) ?_
  refine AW.one ?_
  refine AW.reg mixed (by kernel_rfl) ?_
  try simp only [go_sem, Nat.reduceEqDiff, Nat.reduceAdd, Nat.reduceSub, Nat.reduceMul, Nat.reduceLeDiff, Nat.reduceLT, Nat.reduceBEq, reduceIte]
  refine AW.cut [0] [(1, .ptr 0 6 0 0), (3, .d (.val (.int .i64 (0 : Int))))] [some ⟨6, [[.d (.val (.int .i64 p0.op)), .d (.val (.string p0.name)), .d (.val (.bool p0.num.neg)), .d (slD u32V p0.num.num), .d (slD u32V p0.num.den), .d (slD NodeA.enc p0.kids)]]⟩] (by simp only [go_sem, Nat.reduceEqDiff, Nat.reduceAdd, Nat.reduceSub, Nat.reduceMul, Nat.reduceLeDiff, Nat.reduceLT, Nat.reduceBEq, reduceIte]) ?_
  refine AW.one ?_
  refine AW.one ?_
  refine AW.reg mixed (by kernel_rfl) ?_
  try simp only [go_sem, Nat.reduceEqDiff, Nat.reduceAdd, Nat.reduceSub, Nat.reduceMul, Nat.reduceLeDiff, Nat.reduceLT, Nat.reduceBEq, reduceIte]
  refine AW.cut [0] [(1, .ptr 0 6 0 0), (3, .d (.val (.int .i64 (0 : Int)))), (4, .d (.val (.int .i64 (0 : Int))))] [some ⟨6, [[.d (.val (.int .i64 p0.op)), .d (.val (.string p0.name)), .d (.val (.bool p0.num.neg)), .d (slD u32V p0.num.num), .d (slD u32V p0.num.den), .d (slD NodeA.enc p0.kids)]]⟩] (by simp only [go_sem, Nat.reduceEqDiff, Nat.reduceAdd, Nat.reduceSub, Nat.reduceMul, Nat.reduceLeDiff, Nat.reduceLT, Nat.reduceBEq, reduceIte]) ?_
  obtain ⟨oJ4, h, hJ4⟩ := obind h
  refine AW.join (S := Int) (fun e2_0 => [(3, .d (.val (.int .i64 e2_0)))]) (fun e2_0 => []) (fun x => x = oJ4) ?_ ?_
  · refine AW.block ?_
    refine AW.iter (S := Int × Int) (fun (i1_0, i1_1) => [(1, .ptr 0 6 0 0), (3, .d (.val (.int .i64 i1_0))), (4, .d (.val (.int .i64 i1_1)))]) (fun (i1_0, i1_1) => [some ⟨6, [[.d (.val (.int .i64 p0.op)), .d (.val (.string p0.name)), .d (.val (.bool p0.num.neg)), .d (slD u32V p0.num.num), .d (slD u32V p0.num.den), .d (slD NodeA.enc p0.kids)]]⟩]) [0] h (by simp only [go_sem, Nat.reduceEqDiff, Nat.reduceAdd, Nat.reduceSub, Nat.reduceMul, Nat.reduceLeDiff, Nat.reduceLT, Nat.reduceBEq, reduceIte]) ?_
    rintro again ⟨i1_0, i1_1⟩ h
    try dsimp only at h
    refine AW.one ?_
    refine AW.one ?_
    refine AW.reg mixed (by kernel_rfl) ?_
    try simp only [go_sem, Nat.reduceEqDiff, Nat.reduceAdd, Nat.reduceSub, Nat.reduceMul, Nat.reduceLeDiff, Nat.reduceLT, Nat.reduceBEq, reduceIte]
    refine AW.cut [0] [(1, .ptr 0 6 0 0), (3, .d (.val (.int .i64 i1_0))), (4, .d (.val (.int .i64 i1_1))), (9, .d (.val (.bool (decide (i1_1 < (p0.kids.length : Int))))))] [some ⟨6, [[.d (.val (.int .i64 p0.op)), .d (.val (.string p0.name)), .d (.val (.bool p0.num.neg)), .d (slD u32V p0.num.num), .d (slD u32V p0.num.den), .d (slD NodeA.enc p0.kids)]]⟩] (by simp only [go_sem, Nat.reduceEqDiff, Nat.reduceAdd, Nat.reduceSub, Nat.reduceMul, Nat.reduceLeDiff, Nat.reduceLT, Nat.reduceBEq, reduceIte]) ?_
    refine AW.test (t := (decide (i1_1 < (p0.kids.length : Int)))) (by simp only [go_sem, Nat.reduceEqDiff, Nat.reduceAdd, Nat.reduceSub, Nat.reduceMul, Nat.reduceLeDiff, Nat.reduceLT, Nat.reduceBEq, reduceIte]) (fun hb5 => ?_) (fun hb5 => ?_)
    · have h := ifT hb5 h
      refine AW.skip ?_
      try simp only [go_sem, Nat.reduceEqDiff, Nat.reduceAdd, Nat.reduceSub, Nat.reduceMul, Nat.reduceLeDiff, Nat.reduceLT, Nat.reduceBEq, reduceIte]
      refine AW.cut [0] [(1, .ptr 0 6 0 0), (3, .d (.val (.int .i64 i1_0))), (4, .d (.val (.int .i64 i1_1)))] [some ⟨6, [[.d (.val (.int .i64 p0.op)), .d (.val (.string p0.name)), .d (.val (.bool p0.num.neg)), .d (slD u32V p0.num.num), .d (slD u32V p0.num.den), .d (slD NodeA.enc p0.kids)]]⟩] (by simp only [go_sem, Nat.reduceEqDiff, Nat.reduceAdd, Nat.reduceSub, Nat.reduceMul, Nat.reduceLeDiff, Nat.reduceLT, Nat.reduceBEq, reduceIte]) ?_
      refine AW.one ?_
      refine AW.block ?_
      refine AW.reg mixed (by kernel_rfl) ?_
      obtain ⟨x6, hx7, h⟩ := obind h
      try simp only [go_sem, Nat.reduceEqDiff, Nat.reduceAdd, Nat.reduceSub, Nat.reduceMul, Nat.reduceLeDiff, Nat.reduceLT, Nat.reduceBEq, reduceIte, (idx_some hx7).1, (idx_some hx7).2]
      obtain ⟨r8, hx9, h⟩ := obind h
      have hc := hself40 _ _ hx9
      try simp only [NodeA.enc_eta, RatA.enc_eta, aggV, i64V, u32V, strV, List.map_cons, List.map_nil] at hc
      refine callK_pure hc (by simp only [go_sem, Nat.reduceEqDiff, Nat.reduceAdd, Nat.reduceSub, Nat.reduceMul, Nat.reduceLeDiff, Nat.reduceLT, Nat.reduceBEq, reduceIte]) ?_
      try simp only [go_sem, Nat.reduceEqDiff, Nat.reduceAdd, Nat.reduceSub, Nat.reduceMul, Nat.reduceLeDiff, Nat.reduceLT, Nat.reduceBEq, reduceIte, (idx_some hx7).1, (idx_some hx7).2]
      refine AW.cut [0] [(1, .ptr 0 6 0 0), (3, .d (.val (.int .i64 (if r8 > i1_0 then r8 else i1_0)))), (4, .d (.val (.int .i64 i1_1)))] [some ⟨6, [[.d (.val (.int .i64 p0.op)), .d (.val (.string p0.name)), .d (.val (.bool p0.num.neg)), .d (slD u32V p0.num.num), .d (slD u32V p0.num.den), .d (slD NodeA.enc p0.kids)]]⟩] (by simp only [go_sem, Nat.reduceEqDiff, Nat.reduceAdd, Nat.reduceSub, Nat.reduceMul, Nat.reduceLeDiff, Nat.reduceLT, Nat.reduceBEq, reduceIte, (idx_some hx7).1, (idx_some hx7).2]) ?_
      refine AW.reg mixed (by kernel_rfl) ?_
      try simp only [go_sem, Nat.reduceEqDiff, Nat.reduceAdd, Nat.reduceSub, Nat.reduceMul, Nat.reduceLeDiff, Nat.reduceLT, Nat.reduceBEq, reduceIte]
      refine NextQ.mk ((if r8 > i1_0 then r8 else i1_0), IntKind.wrap .i64 (i1_1 + (1 : Int))) [0] h (by simp only [go_sem, Nat.reduceEqDiff, Nat.reduceAdd, Nat.reduceSub, Nat.reduceMul, Nat.reduceLeDiff, Nat.reduceLT, Nat.reduceBEq, reduceIte])
    · have h := ifF hb5 h
      refine AW.exit ?_
      try simp only [go_sem, Nat.reduceEqDiff, Nat.reduceAdd, Nat.reduceSub, Nat.reduceMul, Nat.reduceLeDiff, Nat.reduceLT, Nat.reduceBEq, reduceIte]
      refine JoinQ.mk i1_0 [] (Option.some.inj h) (by simp only [go_sem, Nat.reduceEqDiff, Nat.reduceAdd, Nat.reduceSub, Nat.reduceMul, Nat.reduceLeDiff, Nat.reduceLT, Nat.reduceBEq, reduceIte])
  · rintro e2_0 rfl
    have h := hJ4
    try dsimp only [Out.fin] at h
    simp only [go_sem, Nat.reduceEqDiff, Nat.reduceAdd, Nat.reduceSub, Nat.reduceMul, Nat.reduceLeDiff, Nat.reduceLT, Nat.reduceBEq, reduceIte]
    refine AW.cut [] [(3, .d (.val (.int .i64 e2_0)))] [] (by simp only [go_sem, Nat.reduceEqDiff, Nat.reduceAdd, Nat.reduceSub, Nat.reduceMul, Nat.reduceLeDiff, Nat.reduceLT, Nat.reduceBEq, reduceIte]) ?_
    refine AW.one ?_
    refine AW.reg mixed (by kernel_rfl) ?_
    try simp only [go_sem, Nat.reduceEqDiff, Nat.reduceAdd, Nat.reduceSub, Nat.reduceMul, Nat.reduceLeDiff, Nat.reduceLT, Nat.reduceBEq, reduceIte]
    refine AW.ret ?_
    obtain rfl := Option.some.inj h
    simp only [go_sem, Nat.reduceEqDiff, Nat.reduceAdd, Nat.reduceSub, Nat.reduceMul, Nat.reduceLeDiff, Nat.reduceLT, Nat.reduceBEq, reduceIte]
    exact .same _
def r08_Levels (K : Nat) (p0 : NodeA) : Option Int := iter K (fun self q => r08_Levels_body K self q) p0
theorem key_r08_Levels {K : Nat} (k : Nat) : (∀ (q : NodeA) (r : Int), iter k (fun self q => r08_Levels_body K self q) q = some r → Cn Try.prog 40 [aggV q.enc] (.d (.val (.int .i64 r)))) := by
  induction k with
  | zero => exact fun q r h => by cases h
  | succ k ih => exact fun q r h => r08_Levels_step K _ ih q r h
theorem r08_Levels_ok {K : Nat} {p0 : NodeA} {r : Int} (h : r08_Levels K p0 = some r) : Cn Try.prog 40 [aggV p0.enc] (.d (.val (.int .i64 r))) := (key_r08_Levels K) p0 r h

end Go.Proofs.Ytcgphoghmgeecaa
namespace Go.Proofs.Ytcgphoghmgeecaa
open Go Go.Iso Go.Proofs
set_option linter.unusedSimpArgs false
set_option linter.unusedVariables false
set_option maxRecDepth 100000

/-! ### isochrone/isochroneref08.letter -/
def r08_letter (K : Nat) (p0 : Int) : Option Bool := if (decide ((97 : Int) ≤ p0)) then
    if (decide (p0 ≤ (122 : Int))) then
      some true
    else
      if (decide ((65 : Int) ≤ p0)) then
        some (decide (p0 ≤ (90 : Int)))
      else
        some false
  else
    if (decide ((65 : Int) ≤ p0)) then
      some (decide (p0 ≤ (90 : Int)))
    else
      some false
set_option maxHeartbeats 4000000 in
theorem r08_letter_ok {K : Nat} {p0 : Int} {r : Bool} (h : r08_letter K p0 = some r) : Cn Try.prog 70 [.d (.val (.int .u8 p0))] (.d (.val (.bool r))) := by
  refine Cn.ofA mixed Try.func70 rfl Try.call70 Try.ntmps70 Try.results70 (by simp) (by simp only [go_sem, Nat.reduceEqDiff, Nat.reduceAdd, Nat.reduceSub, Nat.reduceMul, Nat.reduceLeDiff, Nat.reduceLT, Nat.reduceBEq, reduceIte]) fun hfit => ?_
  unfold r08_letter at h
  refine AW.cut [] [(0, .d (.val (.int .u8 p0)))] [] (by simp only [go_sem, Nat.reduceEqDiff, Nat.reduceAdd, Nat.reduceSub, Nat.reduceMul, Nat.reduceLeDiff, Nat.reduceLT, Nat.reduceBEq, reduceIte]) ?_
  refine AW.one ?_
  refine AW.reg mixed (by kernel_rfl) ?_
  try simp only [go_sem, Nat.reduceEqDiff, Nat.reduceAdd, Nat.reduceSub, Nat.reduceMul, Nat.reduceLeDiff, Nat.reduceLT, Nat.reduceBEq, reduceIte]
  refine AW.cut [] [(0, .d (.val (.int .u8 p0)))] [] (by simp only [go_sem, Nat.reduceEqDiff, Nat.reduceAdd, Nat.reduceSub, Nat.reduceMul, Nat.reduceLeDiff, Nat.reduceLT, Nat.reduceBEq, reduceIte]) ?_
  refine AW.one ?_
  refine AW.reg mixed (by kernel_rfl) ?_
  try simp only [go_sem, Nat.reduceEqDiff, Nat.reduceAdd, Nat.reduceSub, Nat.reduceMul, Nat.reduceLeDiff, Nat.reduceLT, Nat.reduceBEq, reduceIte]
  refine splitK_intro (fun hb1 => ?_) (fun hb1 => ?_)
  · have h := ifT hb1 h
    try simp only [go_sem, Nat.reduceEqDiff, Nat.reduceAdd, Nat.reduceSub, Nat.reduceMul, Nat.reduceLeDiff, Nat.reduceLT, Nat.reduceBEq, reduceIte, hb1]
    refine splitK_intro (fun hb2 => ?_) (fun hb2 => ?_)
    · have h := ifT hb2 h
      try simp only [go_sem, Nat.reduceEqDiff, Nat.reduceAdd, Nat.reduceSub, Nat.reduceMul, Nat.reduceLeDiff, Nat.reduceLT, Nat.reduceBEq, reduceIte, hb1, hb2]
      refine AW.ret ?_
      obtain rfl := Option.some.inj h
      simp only [go_sem, Nat.reduceEqDiff, Nat.reduceAdd, Nat.reduceSub, Nat.reduceMul, Nat.reduceLeDiff, Nat.reduceLT, Nat.reduceBEq, reduceIte]
      exact .same _
    · have h := ifF hb2 h
      try simp only [go_sem, Nat.reduceEqDiff, Nat.reduceAdd, Nat.reduceSub, Nat.reduceMul, Nat.reduceLeDiff, Nat.reduceLT, Nat.reduceBEq, reduceIte, hb1, hb2]
      refine splitK_intro (fun hb3 => ?_) (fun hb3 => ?_)
      · have h := ifT hb3 h
        try simp only [go_sem, Nat.reduceEqDiff, Nat.reduceAdd, Nat.reduceSub, Nat.reduceMul, Nat.reduceLeDiff, Nat.reduceLT, Nat.reduceBEq, reduceIte, hb1, hb2, hb3]
        refine AW.ret ?_
        obtain rfl := Option.some.inj h
        simp only [go_sem, Nat.reduceEqDiff, Nat.reduceAdd, Nat.reduceSub, Nat.reduceMul, Nat.reduceLeDiff, Nat.reduceLT, Nat.reduceBEq, reduceIte]
        exact .same _
      · have h := ifF hb3 h
        try simp only [go_sem, Nat.reduceEqDiff, Nat.reduceAdd, Nat.reduceSub, Nat.reduceMul, Nat.reduceLeDiff, Nat.reduceLT, Nat.reduceBEq, reduceIte, hb1, hb2, hb3]
        refine AW.ret ?_
        obtain rfl := Option.some.inj h
        simp only [go_sem, Nat.reduceEqDiff, Nat.reduceAdd, Nat.reduceSub, Nat.reduceMul, Nat.reduceLeDiff, Nat.reduceLT, Nat.reduceBEq, reduceIte]
        exact .same _
  · have h := ifF hb1 h
    try simp only [go_sem, Nat.reduceEqDiff, Nat.reduceAdd, Nat.reduceSub, Nat.reduceMul, Nat.reduceLeDiff, Nat.reduceLT, Nat.reduceBEq, reduceIte, hb1]
    refine splitK_intro (fun hb4 => ?_) (fun hb4 => ?_)
    · have h := ifT hb4 h
      try simp only [go_sem, Nat.reduceEqDiff, Nat.reduceAdd, Nat.reduceSub, Nat.reduceMul, Nat.reduceLeDiff, Nat.reduceLT, Nat.reduceBEq, reduceIte, hb1, hb4]
      refine AW.ret ?_
      obtain rfl := Option.some.inj h
      simp only [go_sem, Nat.reduceEqDiff, Nat.reduceAdd, Nat.reduceSub, Nat.reduceMul, Nat.reduceLeDiff, Nat.reduceLT, Nat.reduceBEq, reduceIte]
      exact .same _
    · have h := ifF hb4 h
      try simp only [go_sem, Nat.reduceEqDiff, Nat.reduceAdd, Nat.reduceSub, Nat.reduceMul, Nat.reduceLeDiff, Nat.reduceLT, Nat.reduceBEq, reduceIte, hb1, hb4]
      refine AW.ret ?_
      obtain rfl := Option.some.inj h
      simp only [go_sem, Nat.reduceEqDiff, Nat.reduceAdd, Nat.reduceSub, Nat.reduceMul, Nat.reduceLeDiff, Nat.reduceLT, Nat.reduceBEq, reduceIte]
      exact .same _

end Go.Proofs.Ytcgphoghmgeecaa
namespace Go.Proofs.Ytcgphoghmgeecaa
open Go Go.Iso Go.Proofs
set_option linter.unusedSimpArgs false
set_option linter.unusedVariables false
set_option maxRecDepth 100000

/-! ### isochrone/isochroneref08.Name -/
def r08_Name (K : Nat) (p0 : ByteArray) : Option Bool := ((
    ((
      if ((p0.size : Int) == (0 : Int)) then
        some true
      else
        if (decide ((12 : Int) < (p0.size : Int))) then
          some true
        else
          if (p0.toList == (⟨#[116, 114, 117, 101]⟩ : ByteArray).toList) then
            some true
          else
            if (p0.toList == (⟨#[102, 97, 108, 115, 101]⟩ : ByteArray).toList) then
              some true
            else
              if (p0.toList == (⟨#[102, 111, 114, 97, 108, 108]⟩ : ByteArray).toList) then
                some true
              else
                some (p0.toList == (⟨#[101, 120, 105, 115, 116, 115]⟩ : ByteArray).toList)) : Option Bool).bind (fun v3_0 => 
    if v3_0 then
      outM (
        some false)
    else
      some (.go ()))) : Option (Out Unit _)).bind (Out.fin fun _ => 
  ((iter (S := Int) (R := Out Unit _) K (fun again i11_0 => 
    if (decide (i11_0 < (p0.size : Int))) then
      ((
        ((
          (strAt p0 i11_0).bind fun c20 => 
          (r08_letter K (c20.toNat : Int)).bind fun r22 => 
          if (!r22) then
            if (i11_0 == (0 : Int)) then
              some true
            else
              if (decide ((c20.toNat : Int) < (48 : Int))) then
                some true
              else
                some (decide ((57 : Int) < (c20.toNat : Int)))
          else
            some false) : Option Bool).bind (fun v18_0 => 
        if v18_0 then
          outM (
            outM (
              some false))
        else
          some (.go ()))) : Option (Out Unit _)).bind (Out.fin fun _ => 
      again (IntKind.wrap .i64 (i11_0 + (1 : Int))))
    else
      some (.go ())) (0 : Int)) : Option (Out Unit _)).bind (Out.fin fun _ => 
  some true))
set_option maxHeartbeats 4000000 in
theorem r08_Name_ok {K : Nat} {p0 : ByteArray} {r : Bool} (h : r08_Name K p0 = some r) : Cn Try.prog 50 [.d (.val (.string p0))] (.d (.val (.bool r))) := by
  refine Cn.ofA mixed Try.func50 rfl Try.call50 Try.ntmps50 Try.results50 (by simp) (by simp only [go_sem, Nat.reduceEqDiff, Nat.reduceAdd, Nat.reduceSub, Nat.reduceMul, Nat.reduceLeDiff, Nat.reduceLT, Nat.reduceBEq, reduceIte]) fun hfit => ?_
  unfold r08_Name at h
  refine AW.cut [] [(0, .d (.val (.string p0)))] [] (by simp only [go_sem, Nat.reduceEqDiff, Nat.reduceAdd, Nat.reduceSub, Nat.reduceMul, Nat.reduceLeDiff, Nat.reduceLT, Nat.reduceBEq, reduceIte]) ?_
  refine AW.one ?_
  refine AW.reg mixed (by kernel_rfl) ?_
  try simp only [go_sem, Nat.reduceEqDiff, Nat.reduceAdd, Nat.reduceSub, Nat.reduceMul, Nat.reduceLeDiff, Nat.reduceLT, Nat.reduceBEq, reduceIte]
  refine AW.cut [] [(0, .d (.val (.string p0)))] [] (by simp only [go_sem, Nat.reduceEqDiff, Nat.reduceAdd, Nat.reduceSub, Nat.reduceMul, Nat.reduceLeDiff, Nat.reduceLT, Nat.reduceBEq, reduceIte]) ?_
  refine AW.one ?_
  obtain ⟨oJ2, h, hJ2⟩ := obind h
  refine AW.join (S := Unit) (fun _ => [(0, .d (.val (.string p0)))]) (fun _ => []) (fun x => oJ2 = .go x) ?_ ?_
  · skip
    refine AW.one ?_
    obtain ⟨oJ4, h, hJ4⟩ := obind h
    refine AW.join (S := Bool) (fun v3_0 => [(0, .d (.val (.string p0))), (27, .d (.val (.bool v3_0)))]) (fun v3_0 => []) (fun x => x = oJ4) ?_ ?_
    · skip
      refine AW.reg mixed (by kernel_rfl) ?_
      try simp only [go_sem, Nat.reduceEqDiff, Nat.reduceAdd, Nat.reduceSub, Nat.reduceMul, Nat.reduceLeDiff, Nat.reduceLT, Nat.reduceBEq, reduceIte]
      refine splitK_intro (fun hb5 => ?_) (fun hb5 => ?_)
      · have h := ifT hb5 h
        try simp only [go_sem, Nat.reduceEqDiff, Nat.reduceAdd, Nat.reduceSub, Nat.reduceMul, Nat.reduceLeDiff, Nat.reduceLT, Nat.reduceBEq, reduceIte, hb5]
        refine JoinQ.mk true [] (Option.some.inj h) (by simp only [go_sem, Nat.reduceEqDiff, Nat.reduceAdd, Nat.reduceSub, Nat.reduceMul, Nat.reduceLeDiff, Nat.reduceLT, Nat.reduceBEq, reduceIte, hb5])
      · have h := ifF hb5 h
        try simp only [go_sem, Nat.reduceEqDiff, Nat.reduceAdd, Nat.reduceSub, Nat.reduceMul, Nat.reduceLeDiff, Nat.reduceLT, Nat.reduceBEq, reduceIte, hb5]
        refine splitK_intro (fun hb6 => ?_) (fun hb6 => ?_)
        · have h := ifT hb6 h
          try simp only [go_sem, Nat.reduceEqDiff, Nat.reduceAdd, Nat.reduceSub, Nat.reduceMul, Nat.reduceLeDiff, Nat.reduceLT, Nat.reduceBEq, reduceIte, hb5, hb6]
          refine JoinQ.mk true [] (Option.some.inj h) (by simp only [go_sem, Nat.reduceEqDiff, Nat.reduceAdd, Nat.reduceSub, Nat.reduceMul, Nat.reduceLeDiff, Nat.reduceLT, Nat.reduceBEq, reduceIte, hb5, hb6])
        · have h := ifF hb6 h
          try simp only [go_sem, Nat.reduceEqDiff, Nat.reduceAdd, Nat.reduceSub, Nat.reduceMul, Nat.reduceLeDiff, Nat.reduceLT, Nat.reduceBEq, reduceIte, hb5, hb6]
          refine splitK_intro (fun hb7 => ?_) (fun hb7 => ?_)
          · have h := ifT hb7 h
            try simp only [go_sem, Nat.reduceEqDiff, Nat.reduceAdd, Nat.reduceSub, Nat.reduceMul, Nat.reduceLeDiff, Nat.reduceLT, Nat.reduceBEq, reduceIte, hb5, hb6, hb7]
            refine JoinQ.mk true [] (Option.some.inj h) (by simp only [go_sem, Nat.reduceEqDiff, Nat.reduceAdd, Nat.reduceSub, Nat.reduceMul, Nat.reduceLeDiff, Nat.reduceLT, Nat.reduceBEq, reduceIte, hb5, hb6, hb7])
          · have h := ifF hb7 h
            try simp only [go_sem, Nat.reduceEqDiff, Nat.reduceAdd, Nat.reduceSub, Nat.reduceMul, Nat.reduceLeDiff, Nat.reduceLT, Nat.reduceBEq, reduceIte, hb5, hb6, hb7]
            refine splitK_intro (fun hb8 => ?_) (fun hb8 => ?_)
            · have h := ifT hb8 h
              try simp only [go_sem, Nat.reduceEqDiff, Nat.reduceAdd, Nat.reduceSub, Nat.reduceMul, Nat.reduceLeDiff, Nat.reduceLT, Nat.reduceBEq, reduceIte, hb5, hb6, hb7, hb8]
              refine JoinQ.mk true [] (Option.some.inj h) (by simp only [go_sem, Nat.reduceEqDiff, Nat.reduceAdd, Nat.reduceSub, Nat.reduceMul, Nat.reduceLeDiff, Nat.reduceLT, Nat.reduceBEq, reduceIte, hb5, hb6, hb7, hb8])
            · have h := ifF hb8 h
              try simp only [go_sem, Nat.reduceEqDiff, Nat.reduceAdd, Nat.reduceSub, Nat.reduceMul, Nat.reduceLeDiff, Nat.reduceLT, Nat.reduceBEq, reduceIte, hb5, hb6, hb7, hb8]
              refine splitK_intro (fun hb9 => ?_) (fun hb9 => ?_)
              · have h := ifT hb9 h
                try simp only [go_sem, Nat.reduceEqDiff, Nat.reduceAdd, Nat.reduceSub, Nat.reduceMul, Nat.reduceLeDiff, Nat.reduceLT, Nat.reduceBEq, reduceIte, hb5, hb6, hb7, hb8, hb9]
                refine JoinQ.mk true [] (Option.some.inj h) (by simp only [go_sem, Nat.reduceEqDiff, Nat.reduceAdd, Nat.reduceSub, Nat.reduceMul, Nat.reduceLeDiff, Nat.reduceLT, Nat.reduceBEq, reduceIte, hb5, hb6, hb7, hb8, hb9])
              · have h := ifF hb9 h
                try simp only [go_sem, Nat.reduceEqDiff, Nat.reduceAdd, Nat.reduceSub, Nat.reduceMul, Nat.reduceLeDiff, Nat.reduceLT, Nat.reduceBEq, reduceIte, hb5, hb6, hb7, hb8, hb9]
                refine JoinQ.mk (p0.toList == (⟨#[101, 120, 105, 115, 116, 115]⟩ : ByteArray).toList) [] (Option.some.inj h) (by simp only [go_sem, Nat.reduceEqDiff, Nat.reduceAdd, Nat.reduceSub, Nat.reduceMul, Nat.reduceLeDiff, Nat.reduceLT, Nat.reduceBEq, reduceIte, hb5, hb6, hb7, hb8, hb9])
    · rintro v3_0 rfl
      have h := hJ4
      try dsimp only [Out.fin] at h
      simp only [go_sem, Nat.reduceEqDiff, Nat.reduceAdd, Nat.reduceSub, Nat.reduceMul, Nat.reduceLeDiff, Nat.reduceLT, Nat.reduceBEq, reduceIte]
      refine AW.test (t := v3_0) (by simp only [go_sem, Nat.reduceEqDiff, Nat.reduceAdd, Nat.reduceSub, Nat.reduceMul, Nat.reduceLeDiff, Nat.reduceLT, Nat.reduceBEq, reduceIte]) (fun hb10 => ?_) (fun hb10 => ?_)
      · have h := ifT hb10 h
        refine AW.one ?_
        refine AW.reg mixed (by kernel_rfl) ?_
        try simp only [go_sem, Nat.reduceEqDiff, Nat.reduceAdd, Nat.reduceSub, Nat.reduceMul, Nat.reduceLeDiff, Nat.reduceLT, Nat.reduceBEq, reduceIte]
        refine AW.ret ?_
        obtain ⟨_, h, ho⟩ := outM_some h
        rw [ho, Out.fin_out] at hJ2
        have h := h.trans hJ2
        obtain rfl := Option.some.inj h
        simp only [go_sem, Nat.reduceEqDiff, Nat.reduceAdd, Nat.reduceSub, Nat.reduceMul, Nat.reduceLeDiff, Nat.reduceLT, Nat.reduceBEq, reduceIte]
        exact .same _
      · have h := ifF hb10 h
        refine AW.skip ?_
        try simp only [go_sem, Nat.reduceEqDiff, Nat.reduceAdd, Nat.reduceSub, Nat.reduceMul, Nat.reduceLeDiff, Nat.reduceLT, Nat.reduceBEq, reduceIte]
        refine JoinQ.mk () [] (Option.some.inj h).symm (by simp only [go_sem, Nat.reduceEqDiff, Nat.reduceAdd, Nat.reduceSub, Nat.reduceMul, Nat.reduceLeDiff, Nat.reduceLT, Nat.reduceBEq, reduceIte])
  · rintro ⟨⟩ rfl
    have h := hJ2
    try dsimp only [Out.fin] at h
    simp only [go_sem, Nat.reduceEqDiff, Nat.reduceAdd, Nat.reduceSub, Nat.reduceMul, Nat.reduceLeDiff, Nat.reduceLT, Nat.reduceBEq, reduceIte]
    refine AW.one ?_
    refine AW.one ?_
    refine AW.reg mixed (by kernel_rfl) ?_
    try simp only [go_sem, Nat.reduceEqDiff, Nat.reduceAdd, Nat.reduceSub, Nat.reduceMul, Nat.reduceLeDiff, Nat.reduceLT, Nat.reduceBEq, reduceIte]
    refine AW.cut [] [(0, .d (.val (.string p0))), (3, .d (.val (.int .i64 (0 : Int))))] [] (by simp only [go_sem, Nat.reduceEqDiff, Nat.reduceAdd, Nat.reduceSub, Nat.reduceMul, Nat.reduceLeDiff, Nat.reduceLT, Nat.reduceBEq, reduceIte]) ?_
    obtain ⟨oJ14, h, hJ14⟩ := obind h
    refine AW.join (S := Unit) (fun _ => []) (fun _ => []) (fun x => oJ14 = .go x) ?_ ?_
    · refine AW.block ?_
      refine AW.iter (S := Int) (fun i11_0 => [(0, .d (.val (.string p0))), (3, .d (.val (.int .i64 i11_0)))]) (fun i11_0 => []) [] h (by simp only [go_sem, Nat.reduceEqDiff, Nat.reduceAdd, Nat.reduceSub, Nat.reduceMul, Nat.reduceLeDiff, Nat.reduceLT, Nat.reduceBEq, reduceIte]) ?_
      rintro again i11_0 h
      try dsimp only at h
      refine AW.one ?_
      refine AW.one ?_
      refine AW.reg mixed (by kernel_rfl) ?_
      try simp only [go_sem, Nat.reduceEqDiff, Nat.reduceAdd, Nat.reduceSub, Nat.reduceMul, Nat.reduceLeDiff, Nat.reduceLT, Nat.reduceBEq, reduceIte]
      refine AW.cut [] [(0, .d (.val (.string p0))), (3, .d (.val (.int .i64 i11_0))), (31, .d (.val (.bool (decide (i11_0 < (p0.size : Int))))))] [] (by simp only [go_sem, Nat.reduceEqDiff, Nat.reduceAdd, Nat.reduceSub, Nat.reduceMul, Nat.reduceLeDiff, Nat.reduceLT, Nat.reduceBEq, reduceIte]) ?_
      refine AW.test (t := (decide (i11_0 < (p0.size : Int)))) (by simp only [go_sem, Nat.reduceEqDiff, Nat.reduceAdd, Nat.reduceSub, Nat.reduceMul, Nat.reduceLeDiff, Nat.reduceLT, Nat.reduceBEq, reduceIte]) (fun hb15 => ?_) (fun hb15 => ?_)
      · have h := ifT hb15 h
        refine AW.skip ?_
        try simp only [go_sem, Nat.reduceEqDiff, Nat.reduceAdd, Nat.reduceSub, Nat.reduceMul, Nat.reduceLeDiff, Nat.reduceLT, Nat.reduceBEq, reduceIte]
        refine AW.cut [] [(0, .d (.val (.string p0))), (3, .d (.val (.int .i64 i11_0)))] [] (by simp only [go_sem, Nat.reduceEqDiff, Nat.reduceAdd, Nat.reduceSub, Nat.reduceMul, Nat.reduceLeDiff, Nat.reduceLT, Nat.reduceBEq, reduceIte]) ?_
        refine AW.one ?_
        obtain ⟨oJ17, h, hJ17⟩ := obind h
        refine AW.join (S := Unit) (fun _ => [(0, .d (.val (.string p0))), (3, .d (.val (.int .i64 i11_0)))]) (fun _ => []) (fun x => oJ17 = .go x) ?_ ?_
        · skip
          refine AW.block ?_
          refine AW.one ?_
          obtain ⟨oJ19, h, hJ19⟩ := obind h
          refine AW.join (S := Bool) (fun v18_0 => [(0, .d (.val (.string p0))), (3, .d (.val (.int .i64 i11_0))), (54, .d (.val (.bool v18_0)))]) (fun v18_0 => []) (fun x => x = oJ19) ?_ ?_
          · skip
            refine AW.reg mixed (by kernel_rfl) ?_
            obtain ⟨c20, hx21, h⟩ := obind h
            try simp only [go_sem, Nat.reduceEqDiff, Nat.reduceAdd, Nat.reduceSub, Nat.reduceMul, Nat.reduceLeDiff, Nat.reduceLT, Nat.reduceBEq, reduceIte, hx21]
            obtain ⟨r22, hx23, h⟩ := obind h
            have hc := r08_letter_ok (h := hx23)
            try simp only [NodeA.enc_eta, RatA.enc_eta, aggV, i64V, u32V, strV, List.map_cons, List.map_nil] at hc
            refine callK_pure hc (by simp only [go_sem, Nat.reduceEqDiff, Nat.reduceAdd, Nat.reduceSub, Nat.reduceMul, Nat.reduceLeDiff, Nat.reduceLT, Nat.reduceBEq, reduceIte]) ?_
            try simp only [go_sem, Nat.reduceEqDiff, Nat.reduceAdd, Nat.reduceSub, Nat.reduceMul, Nat.reduceLeDiff, Nat.reduceLT, Nat.reduceBEq, reduceIte, hx21]
            refine splitK_intro (fun hb24 => ?_) (fun hb24 => ?_)
            · have h := ifT hb24 h
              try simp only [go_sem, Nat.reduceEqDiff, Nat.reduceAdd, Nat.reduceSub, Nat.reduceMul, Nat.reduceLeDiff, Nat.reduceLT, Nat.reduceBEq, reduceIte, hx21, hb24]
              refine splitK_intro (fun hb25 => ?_) (fun hb25 => ?_)
              · have h := ifT hb25 h
                try simp only [go_sem, Nat.reduceEqDiff, Nat.reduceAdd, Nat.reduceSub, Nat.reduceMul, Nat.reduceLeDiff, Nat.reduceLT, Nat.reduceBEq, reduceIte, hx21, hb24, hb25]
                refine JoinQ.mk true [] (Option.some.inj h) (by simp only [go_sem, Nat.reduceEqDiff, Nat.reduceAdd, Nat.reduceSub, Nat.reduceMul, Nat.reduceLeDiff, Nat.reduceLT, Nat.reduceBEq, reduceIte, hx21, hb24, hb25])
              · have h := ifF hb25 h
                try simp only [go_sem, Nat.reduceEqDiff, Nat.reduceAdd, Nat.reduceSub, Nat.reduceMul, Nat.reduceLeDiff, Nat.reduceLT, Nat.reduceBEq, reduceIte, hx21, hb24, hb25]
                refine splitK_intro (fun hb26 => ?_) (fun hb26 => ?_)
                · have h := ifT hb26 h
                  try simp only [go_sem, Nat.reduceEqDiff, Nat.reduceAdd, Nat.reduceSub, Nat.reduceMul, Nat.reduceLeDiff, Nat.reduceLT, Nat.reduceBEq, reduceIte, hx21, hb24, hb25, hb26]
                  refine JoinQ.mk true [] (Option.some.inj h) (by simp only [go_sem, Nat.reduceEqDiff, Nat.reduceAdd, Nat.reduceSub, Nat.reduceMul, Nat.reduceLeDiff, Nat.reduceLT, Nat.reduceBEq, reduceIte, hx21, hb24, hb25, hb26])
                · have h := ifF hb26 h
                  try simp only [go_sem, Nat.reduceEqDiff, Nat.reduceAdd, Nat.reduceSub, Nat.reduceMul, Nat.reduceLeDiff, Nat.reduceLT, Nat.reduceBEq, reduceIte, hx21, hb24, hb25, hb26]
                  refine JoinQ.mk (decide ((57 : Int) < (c20.toNat : Int))) [] (Option.some.inj h) (by simp only [go_sem, Nat.reduceEqDiff, Nat.reduceAdd, Nat.reduceSub, Nat.reduceMul, Nat.reduceLeDiff, Nat.reduceLT, Nat.reduceBEq, reduceIte, hx21, hb24, hb25, hb26])
            · have h := ifF hb24 h
              try simp only [go_sem, Nat.reduceEqDiff, Nat.reduceAdd, Nat.reduceSub, Nat.reduceMul, Nat.reduceLeDiff, Nat.reduceLT, Nat.reduceBEq, reduceIte, hx21, hb24]
              refine JoinQ.mk false [] (Option.some.inj h) (by simp only [go_sem, Nat.reduceEqDiff, Nat.reduceAdd, Nat.reduceSub, Nat.reduceMul, Nat.reduceLeDiff, Nat.reduceLT, Nat.reduceBEq, reduceIte, hx21, hb24])
          · rintro v18_0 rfl
            have h := hJ19
            try dsimp only [Out.fin] at h
            simp only [go_sem, Nat.reduceEqDiff, Nat.reduceAdd, Nat.reduceSub, Nat.reduceMul, Nat.reduceLeDiff, Nat.reduceLT, Nat.reduceBEq, reduceIte]
            refine AW.test (t := v18_0) (by simp only [go_sem, Nat.reduceEqDiff, Nat.reduceAdd, Nat.reduceSub, Nat.reduceMul, Nat.reduceLeDiff, Nat.reduceLT, Nat.reduceBEq, reduceIte]) (fun hb27 => ?_) (fun hb27 => ?_)
            · have h := ifT hb27 h
              refine AW.one ?_
              refine AW.reg mixed (by kernel_rfl) ?_
              try simp only [go_sem, Nat.reduceEqDiff, Nat.reduceAdd, Nat.reduceSub, Nat.reduceMul, Nat.reduceLeDiff, Nat.reduceLT, Nat.reduceBEq, reduceIte]
              refine AW.ret ?_
              obtain ⟨_, h, ho⟩ := outM_some h
              rw [ho, Out.fin_out] at hJ17
              have h := h.trans hJ17
              obtain ⟨_, h, ho⟩ := outM_some h
              rw [ho, Out.fin_out] at hJ14
              have h := h.trans hJ14
              obtain rfl := Option.some.inj h
              simp only [go_sem, Nat.reduceEqDiff, Nat.reduceAdd, Nat.reduceSub, Nat.reduceMul, Nat.reduceLeDiff, Nat.reduceLT, Nat.reduceBEq, reduceIte]
              exact .same _
            · have h := ifF hb27 h
              refine AW.skip ?_
              try simp only [go_sem, Nat.reduceEqDiff, Nat.reduceAdd, Nat.reduceSub, Nat.reduceMul, Nat.reduceLeDiff, Nat.reduceLT, Nat.reduceBEq, reduceIte]
              refine JoinQ.mk () [] (Option.some.inj h).symm (by simp only [go_sem, Nat.reduceEqDiff, Nat.reduceAdd, Nat.reduceSub, Nat.reduceMul, Nat.reduceLeDiff, Nat.reduceLT, Nat.reduceBEq, reduceIte])
        · rintro ⟨⟩ rfl
          have h := hJ17
          try dsimp only [Out.fin] at h
          simp only [go_sem, Nat.reduceEqDiff, Nat.reduceAdd, Nat.reduceSub, Nat.reduceMul, Nat.reduceLeDiff, Nat.reduceLT, Nat.reduceBEq, reduceIte]
          refine AW.reg mixed (by kernel_rfl) ?_
          try simp only [go_sem, Nat.reduceEqDiff, Nat.reduceAdd, Nat.reduceSub, Nat.reduceMul, Nat.reduceLeDiff, Nat.reduceLT, Nat.reduceBEq, reduceIte]
          refine NextQ.mk (IntKind.wrap .i64 (i11_0 + (1 : Int))) [] h (by simp only [go_sem, Nat.reduceEqDiff, Nat.reduceAdd, Nat.reduceSub, Nat.reduceMul, Nat.reduceLeDiff, Nat.reduceLT, Nat.reduceBEq, reduceIte])
      · have h := ifF hb15 h
        refine AW.exit ?_
        try simp only [go_sem, Nat.reduceEqDiff, Nat.reduceAdd, Nat.reduceSub, Nat.reduceMul, Nat.reduceLeDiff, Nat.reduceLT, Nat.reduceBEq, reduceIte]
        refine JoinQ.mk () [] (Option.some.inj h).symm (by simp only [go_sem, Nat.reduceEqDiff, Nat.reduceAdd, Nat.reduceSub, Nat.reduceMul, Nat.reduceLeDiff, Nat.reduceLT, Nat.reduceBEq, reduceIte])
    · rintro ⟨⟩ rfl
      have h := hJ14
      try dsimp only [Out.fin] at h
      simp only [go_sem, Nat.reduceEqDiff, Nat.reduceAdd, Nat.reduceSub, Nat.reduceMul, Nat.reduceLeDiff, Nat.reduceLT, Nat.reduceBEq, reduceIte]
      refine AW.cut [] [] [] (by simp only [go_sem, Nat.reduceEqDiff, Nat.reduceAdd, Nat.reduceSub, Nat.reduceMul, Nat.reduceLeDiff, Nat.reduceLT, Nat.reduceBEq, reduceIte]) ?_
      refine AW.one ?_
      refine AW.reg mixed (by kernel_rfl) ?_
      try simp only [go_sem, Nat.reduceEqDiff, Nat.reduceAdd, Nat.reduceSub, Nat.reduceMul, Nat.reduceLeDiff, Nat.reduceLT, Nat.reduceBEq, reduceIte]
      refine AW.ret ?_
      obtain rfl := Option.some.inj h
      simp only [go_sem, Nat.reduceEqDiff, Nat.reduceAdd, Nat.reduceSub, Nat.reduceMul, Nat.reduceLeDiff, Nat.reduceLT, Nat.reduceBEq, reduceIte]
      exact .same _

end Go.Proofs.Ytcgphoghmgeecaa
namespace Go.Proofs.Ytcgphoghmgeecaa
open Go Go.Iso Go.Proofs
set_option linter.unusedSimpArgs false
set_option linter.unusedVariables false
set_option maxRecDepth 100000

/-! ### isochrone/isochroneref08.Natural -/
def r08_Natural (K : Nat) (p0 : RatA) (p1 : Int) : Option Int := if ((p0.num.length : Int) == (0 : Int)) then
    some (0 : Int)
  else
    ((
      ((
        if (decide ((1 : Int) < (p0.num.length : Int))) then
          some true
        else
          (idx p0.num (0 : Int)).bind fun x7 => 
          some (decide (p1 < (IntKind.wrap .i64 x7)))) : Option Bool).bind (fun v4_0 => 
      if v4_0 then
        outM (
          some (-1 : Int))
      else
        some (.go ()))) : Option (Out Unit _)).bind (Out.fin fun _ => 
    (idx p0.num (0 : Int)).bind fun x10 => 
    some (IntKind.wrap .i64 x10))
set_option maxHeartbeats 4000000 in
theorem r08_Natural_ok {K : Nat} {p0 : RatA} {p1 : Int} {r : Int} (h : r08_Natural K p0 p1 = some r) : Cn Try.prog 62 [aggV p0.enc, .d (.val (.int .i64 p1))] (.d (.val (.int .i64 r))) := by
  refine Cn.ofA mixed Try.func62 rfl Try.call62 Try.ntmps62 Try.results62 (by simp) (by simp only [go_sem, Nat.reduceEqDiff, Nat.reduceAdd, Nat.reduceSub, Nat.reduceMul, Nat.reduceLeDiff, Nat.reduceLT, Nat.reduceBEq, reduceIte]) fun hfit => ?_
  unfold r08_Natural at h
  refine AW.cut [] [(0, .agg [.d (.val (.bool p0.neg)), .d (slD u32V p0.num), .d (slD u32V p0.den)]), (1, .d (.val (.int .i64 p1)))] [] (by simp only [go_sem, Nat.reduceEqDiff, Nat.reduceAdd, Nat.reduceSub, Nat.reduceMul, Nat.reduceLeDiff, Nat.reduceLT, Nat.reduceBEq, reduceIte]) ?_
  refine AW.one ?_
  refine AW.reg mixed (by kernel_rfl) ?_
  try simp only [go_sem, Nat.reduceEqDiff, Nat.reduceAdd, Nat.reduceSub, Nat.reduceMul, Nat.reduceLeDiff, Nat.reduceLT, Nat.reduceBEq, reduceIte]
  refine AW.cut [0] [(1, .d (.val (.int .i64 p1))), (2, .ptr 0 3 0 0)] [some ⟨3, [[.d (.val (.bool p0.neg)), .d (slD u32V p0.num), .d (slD u32V p0.den)]]⟩] (by simp only [go_sem, Nat.reduceEqDiff, Nat.reduceAdd, Nat.reduceSub, Nat.reduceMul, Nat.reduceLeDiff, Nat.reduceLT, Nat.reduceBEq, reduceIte]) ?_
  refine AW.one ?_
  refine AW.one ?_
  refine AW.reg mixed (by kernel_rfl) ?_
  try simp only [go_sem, Nat.reduceEqDiff, Nat.reduceAdd, Nat.reduceSub, Nat.reduceMul, Nat.reduceLeDiff, Nat.reduceLT, Nat.reduceBEq, reduceIte]
  refine AW.cut [0] [(1, .d (.val (.int .i64 p1))), (2, .ptr 0 3 0 0), (8, .d (.val (.bool ((p0.num.length : Int) == (0 : Int)))))] [some ⟨3, [[.d (.val (.bool p0.neg)), .d (slD u32V p0.num), .d (slD u32V p0.den)]]⟩] (by simp only [go_sem, Nat.reduceEqDiff, Nat.reduceAdd, Nat.reduceSub, Nat.reduceMul, Nat.reduceLeDiff, Nat.reduceLT, Nat.reduceBEq, reduceIte]) ?_
  refine AW.test (t := ((p0.num.length : Int) == (0 : Int))) (by simp only [go_sem, Nat.reduceEqDiff, Nat.reduceAdd, Nat.reduceSub, Nat.reduceMul, Nat.reduceLeDiff, Nat.reduceLT, Nat.reduceBEq, reduceIte]) (fun hb1 => ?_) (fun hb1 => ?_)
  · have h := ifT hb1 h
    refine AW.one ?_
    refine AW.reg mixed (by kernel_rfl) ?_
    try simp only [go_sem, Nat.reduceEqDiff, Nat.reduceAdd, Nat.reduceSub, Nat.reduceMul, Nat.reduceLeDiff, Nat.reduceLT, Nat.reduceBEq, reduceIte]
    refine AW.ret ?_
    obtain rfl := Option.some.inj h
    simp only [go_sem, Nat.reduceEqDiff, Nat.reduceAdd, Nat.reduceSub, Nat.reduceMul, Nat.reduceLeDiff, Nat.reduceLT, Nat.reduceBEq, reduceIte]
    exact .same _
  · have h := ifF hb1 h
    refine AW.skip ?_
    try simp only [go_sem, Nat.reduceEqDiff, Nat.reduceAdd, Nat.reduceSub, Nat.reduceMul, Nat.reduceLeDiff, Nat.reduceLT, Nat.reduceBEq, reduceIte]
    refine AW.cut [0] [(1, .d (.val (.int .i64 p1))), (2, .ptr 0 3 0 0)] [some ⟨3, [[.d (.val (.bool p0.neg)), .d (slD u32V p0.num), .d (slD u32V p0.den)]]⟩] (by simp only [go_sem, Nat.reduceEqDiff, Nat.reduceAdd, Nat.reduceSub, Nat.reduceMul, Nat.reduceLeDiff, Nat.reduceLT, Nat.reduceBEq, reduceIte]) ?_
    refine AW.one ?_
    obtain ⟨oJ3, h, hJ3⟩ := obind h
    refine AW.join (S := Unit) (fun _ => [(2, .ptr 0 3 0 0)]) (fun _ => [some ⟨3, [[.d (.val (.bool p0.neg)), .d (slD u32V p0.num), .d (slD u32V p0.den)]]⟩]) (fun x => oJ3 = .go x) ?_ ?_
    · skip
      refine AW.one ?_
      obtain ⟨oJ5, h, hJ5⟩ := obind h
      refine AW.join (S := Bool) (fun v4_0 => [(2, .ptr 0 3 0 0), (21, .d (.val (.bool v4_0)))]) (fun v4_0 => [some ⟨3, [[.d (.val (.bool p0.neg)), .d (slD u32V p0.num), .d (slD u32V p0.den)]]⟩]) (fun x => x = oJ5) ?_ ?_
      · skip
        refine AW.reg mixed (by kernel_rfl) ?_
        try simp only [go_sem, Nat.reduceEqDiff, Nat.reduceAdd, Nat.reduceSub, Nat.reduceMul, Nat.reduceLeDiff, Nat.reduceLT, Nat.reduceBEq, reduceIte]
        refine splitK_intro (fun hb6 => ?_) (fun hb6 => ?_)
        · have h := ifT hb6 h
          try simp only [go_sem, Nat.reduceEqDiff, Nat.reduceAdd, Nat.reduceSub, Nat.reduceMul, Nat.reduceLeDiff, Nat.reduceLT, Nat.reduceBEq, reduceIte, hb6]
          refine JoinQ.mk true [0] (Option.some.inj h) (by simp only [go_sem, Nat.reduceEqDiff, Nat.reduceAdd, Nat.reduceSub, Nat.reduceMul, Nat.reduceLeDiff, Nat.reduceLT, Nat.reduceBEq, reduceIte, hb6])
        · have h := ifF hb6 h
          obtain ⟨x7, hx8, h⟩ := obind h
          try simp only [go_sem, Nat.reduceEqDiff, Nat.reduceAdd, Nat.reduceSub, Nat.reduceMul, Nat.reduceLeDiff, Nat.reduceLT, Nat.reduceBEq, reduceIte, hb6, (idx_some hx8).1, (idx_some hx8).2, cv_int (P := Try.prog) Try.underlying75 Try.underlying2]
          refine JoinQ.mk (decide (p1 < (IntKind.wrap .i64 x7))) [0] (Option.some.inj h) (by simp only [go_sem, Nat.reduceEqDiff, Nat.reduceAdd, Nat.reduceSub, Nat.reduceMul, Nat.reduceLeDiff, Nat.reduceLT, Nat.reduceBEq, reduceIte, hb6, (idx_some hx8).1, (idx_some hx8).2, cv_int (P := Try.prog) Try.underlying75 Try.underlying2])
      · rintro v4_0 rfl
        have h := hJ5
        try dsimp only [Out.fin] at h
        simp only [go_sem, Nat.reduceEqDiff, Nat.reduceAdd, Nat.reduceSub, Nat.reduceMul, Nat.reduceLeDiff, Nat.reduceLT, Nat.reduceBEq, reduceIte]
        refine AW.test (t := v4_0) (by simp only [go_sem, Nat.reduceEqDiff, Nat.reduceAdd, Nat.reduceSub, Nat.reduceMul, Nat.reduceLeDiff, Nat.reduceLT, Nat.reduceBEq, reduceIte]) (fun hb9 => ?_) (fun hb9 => ?_)
        · have h := ifT hb9 h
          refine AW.one ?_
          refine AW.reg mixed (by kernel_rfl) ?_
          try simp only [go_sem, Nat.reduceEqDiff, Nat.reduceAdd, Nat.reduceSub, Nat.reduceMul, Nat.reduceLeDiff, Nat.reduceLT, Nat.reduceBEq, reduceIte]
          refine AW.ret ?_
          obtain ⟨_, h, ho⟩ := outM_some h
          rw [ho, Out.fin_out] at hJ3
          have h := h.trans hJ3
          obtain rfl := Option.some.inj h
          simp only [go_sem, Nat.reduceEqDiff, Nat.reduceAdd, Nat.reduceSub, Nat.reduceMul, Nat.reduceLeDiff, Nat.reduceLT, Nat.reduceBEq, reduceIte]
          exact .same _
        · have h := ifF hb9 h
          refine AW.skip ?_
          try simp only [go_sem, Nat.reduceEqDiff, Nat.reduceAdd, Nat.reduceSub, Nat.reduceMul, Nat.reduceLeDiff, Nat.reduceLT, Nat.reduceBEq, reduceIte]
          refine JoinQ.mk () [0] (Option.some.inj h).symm (by simp only [go_sem, Nat.reduceEqDiff, Nat.reduceAdd, Nat.reduceSub, Nat.reduceMul, Nat.reduceLeDiff, Nat.reduceLT, Nat.reduceBEq, reduceIte])
    · rintro ⟨⟩ rfl
      have h := hJ3
      try dsimp only [Out.fin] at h
      simp only [go_sem, Nat.reduceEqDiff, Nat.reduceAdd, Nat.reduceSub, Nat.reduceMul, Nat.reduceLeDiff, Nat.reduceLT, Nat.reduceBEq, reduceIte]
      refine AW.one ?_
      refine AW.reg mixed (by kernel_rfl) ?_
      obtain ⟨x10, hx11, h⟩ := obind h
      try simp only [go_sem, Nat.reduceEqDiff, Nat.reduceAdd, Nat.reduceSub, Nat.reduceMul, Nat.reduceLeDiff, Nat.reduceLT, Nat.reduceBEq, reduceIte, (idx_some hx11).1, (idx_some hx11).2, cv_int (P := Try.prog) Try.underlying75 Try.underlying3]
      refine AW.ret ?_
      obtain rfl := Option.some.inj h
      simp only [go_sem, Nat.reduceEqDiff, Nat.reduceAdd, Nat.reduceSub, Nat.reduceMul, Nat.reduceLeDiff, Nat.reduceLT, Nat.reduceBEq, reduceIte]
      exact .same _

end Go.Proofs.Ytcgphoghmgeecaa
namespace Go.Proofs.Ytcgphoghmgeecaa
open Go Go.Iso Go.Proofs
set_option linter.unusedSimpArgs false
set_option linter.unusedVariables false
set_option maxRecDepth 100000

/-! ### isochrone/isochroneref08.differential -/
def r08_differential_body (K : Nat) (self63 : NodeA → Option Bool) (p0 : NodeA) : Option Bool := ((
    if (p0.op == (20 : Int)) then
      some true
    else
      if (p0.op == (21 : Int)) then
        some true
      else
        if (decide ((22 : Int) ≤ p0.op)) then
          if (decide (p0.op ≤ (27 : Int))) then
            some true
          else
            if (p0.op == (37 : Int)) then
              some true
            else
              some (p0.op == (38 : Int))
        else
          if (p0.op == (37 : Int)) then
            some true
          else
            some (p0.op == (38 : Int))) : Option Bool).bind (fun v1_0 => 
  if v1_0 then
    some true
  else
    ((
      if (p0.op == (29 : Int)) then
        some true
      else
        some (p0.op == (30 : Int))) : Option Bool).bind (fun v10_0 => 
    if v10_0 then
      ((iter (S := Int) (R := Out Unit _) K (fun again i14_0 => 
        if (decide (i14_0 < (p0.kids.length : Int))) then
          (idx p0.kids i14_0).bind fun x19 => 
          (self63 (x19)).bind fun r21 => 
          if (!r21) then
            outM (
              some false)
          else
            again (IntKind.wrap .i64 (i14_0 + (1 : Int)))
        else
          some (.go ())) (0 : Int)) : Option (Out Unit _)).bind (Out.fin fun _ => 
      some true)
    else
      some false))
set_option maxHeartbeats 4000000 in
theorem r08_differential_step (K : Nat) (self63 : NodeA → Option Bool) (hself63 : ∀ (q : NodeA) (r : Bool), self63 q = some r → Cn Try.prog 63 [aggV q.enc] (.d (.val (.bool r)))) (p0 : NodeA) (r : Bool) (h : r08_differential_body K self63 p0 = some r) : Cn Try.prog 63 [aggV p0.enc] (.d (.val (.bool r))) := by
  refine Cn.ofA mixed Try.func63 rfl Try.call63 Try.ntmps63 Try.results63 (by simp) (by simp only [go_sem, Nat.reduceEqDiff, Nat.reduceAdd, Nat.reduceSub, Nat.reduceMul, Nat.reduceLeDiff, Nat.reduceLT, Nat.reduceBEq, reduceIte]) fun hfit => ?_
  unfold r08_differential_body at h
  refine AW.cut [] [(0, .agg [.d (.val (.int .i64 p0.op)), .d (.val (.string p0.name)), .d (.val (.bool p0.num.neg)), .d (slD u32V p0.num.num), .d (slD u32V p0.num.den), .d (slD NodeA.enc p0.kids)])] [] (by simp only [go_sem, Nat.reduceEqDiff, Nat.reduceAdd, Nat.reduceSub, Nat.reduceMul, Nat.reduceLeDiff, Nat.reduceLT, Nat.reduceBEq, reduceIte]) ?_
  refine AW.one ?_
  refine AW.reg mixed (by kernel_rfl) ?_
  try simp only [go_sem, Nat.reduceEqDiff, Nat.reduceAdd, Nat.reduceSub, Nat.reduceMul, Nat.reduceLeDiff, Nat.reduceLT, Nat.reduceBEq, reduceIte]
  refine AW.cut [0] [(1, .ptr 0 6 0 0)] [some ⟨6, [[.d (.val (.int .i64 p0.op)), .d (.val (.string p0.name)), .d (.val (.bool p0.num.neg)), .d (slD u32V p0.num.num), .d (slD u32V p0.num.den), .d (slD NodeA.enc p0.kids)]]⟩] (by simp only [go_sem, Nat.reduceEqDiff, Nat.reduceAdd, Nat.reduceSub, Nat.reduceMul, Nat.reduceLeDiff, Nat.reduceLT, Nat.reduceBEq, reduceIte]) ?_
  refine AW.one ?_
  refine AW.block ?_
  refine AW.one ?_
  obtain ⟨oJ2, h, hJ2⟩ := obind h
  refine AW.join (S := Bool) (fun v1_0 => [(1, .ptr 0 6 0 0), (4, .d (.val (.bool v1_0)))]) (fun v1_0 => [some ⟨6, [[.d (.val (.int .i64 p0.op)), .d (.val (.string p0.name)), .d (.val (.bool p0.num.neg)), .d (slD u32V p0.num.num), .d (slD u32V p0.num.den), .d (slD NodeA.enc p0.kids)]]⟩]) (fun x => x = oJ2) ?_ ?_
  · skip
    refine AW.reg mixed (by kernel_rfl) ?_
    try simp only [go_sem, Nat.reduceEqDiff, Nat.reduceAdd, Nat.reduceSub, Nat.reduceMul, Nat.reduceLeDiff, Nat.reduceLT, Nat.reduceBEq, reduceIte]
    refine splitK_intro (fun hb3 => ?_) (fun hb3 => ?_)
    · have h := ifT hb3 h
      try simp only [go_sem, Nat.reduceEqDiff, Nat.reduceAdd, Nat.reduceSub, Nat.reduceMul, Nat.reduceLeDiff, Nat.reduceLT, Nat.reduceBEq, reduceIte, hb3]
      refine JoinQ.mk true [0] (Option.some.inj h) (by simp only [go_sem, Nat.reduceEqDiff, Nat.reduceAdd, Nat.reduceSub, Nat.reduceMul, Nat.reduceLeDiff, Nat.reduceLT, Nat.reduceBEq, reduceIte, hb3])
    · have h := ifF hb3 h
      try simp only [go_sem, Nat.reduceEqDiff, Nat.reduceAdd, Nat.reduceSub, Nat.reduceMul, Nat.reduceLeDiff, Nat.reduceLT, Nat.reduceBEq, reduceIte, hb3]
      refine splitK_intro (fun hb4 => ?_) (fun hb4 => ?_)
      · have h := ifT hb4 h
        try simp only [go_sem, Nat.reduceEqDiff, Nat.reduceAdd, Nat.reduceSub, Nat.reduceMul, Nat.reduceLeDiff, Nat.reduceLT, Nat.reduceBEq, reduceIte, hb3, hb4]
        refine JoinQ.mk true [0] (Option.some.inj h) (by simp only [go_sem, Nat.reduceEqDiff, Nat.reduceAdd, Nat.reduceSub, Nat.reduceMul, Nat.reduceLeDiff, Nat.reduceLT, Nat.reduceBEq, reduceIte, hb3, hb4])
      · have h := ifF hb4 h
        try simp only [go_sem, Nat.reduceEqDiff, Nat.reduceAdd, Nat.reduceSub, Nat.reduceMul, Nat.reduceLeDiff, Nat.reduceLT, Nat.reduceBEq, reduceIte, hb3, hb4]
        refine splitK_intro (fun hb5 => ?_) (fun hb5 => ?_)
        · have h := ifT hb5 h
          try simp only [go_sem, Nat.reduceEqDiff, Nat.reduceAdd, Nat.reduceSub, Nat.reduceMul, Nat.reduceLeDiff, Nat.reduceLT, Nat.reduceBEq, reduceIte, hb3, hb4, hb5]
          refine splitK_intro (fun hb6 => ?_) (fun hb6 => ?_)
          · have h := ifT hb6 h
            try simp only [go_sem, Nat.reduceEqDiff, Nat.reduceAdd, Nat.reduceSub, Nat.reduceMul, Nat.reduceLeDiff, Nat.reduceLT, Nat.reduceBEq, reduceIte, hb3, hb4, hb5, hb6]
            refine JoinQ.mk true [0] (Option.some.inj h) (by simp only [go_sem, Nat.reduceEqDiff, Nat.reduceAdd, Nat.reduceSub, Nat.reduceMul, Nat.reduceLeDiff, Nat.reduceLT, Nat.reduceBEq, reduceIte, hb3, hb4, hb5, hb6])
          · have h := ifF hb6 h
            try simp only [go_sem, Nat.reduceEqDiff, Nat.reduceAdd, Nat.reduceSub, Nat.reduceMul, Nat.reduceLeDiff, Nat.reduceLT, Nat.reduceBEq, reduceIte, hb3, hb4, hb5, hb6]
            refine splitK_intro (fun hb7 => ?_) (fun hb7 => ?_)
            · have h := ifT hb7 h
              try simp only [go_sem, Nat.reduceEqDiff, Nat.reduceAdd, Nat.reduceSub, Nat.reduceMul, Nat.reduceLeDiff, Nat.reduceLT, Nat.reduceBEq, reduceIte, hb3, hb4, hb5, hb6, hb7]
              refine JoinQ.mk true [0] (Option.some.inj h) (by simp only [go_sem, Nat.reduceEqDiff, Nat.reduceAdd, Nat.reduceSub, Nat.reduceMul, Nat.reduceLeDiff, Nat.reduceLT, Nat.reduceBEq, reduceIte, hb3, hb4, hb5, hb6, hb7])
            · have h := ifF hb7 h
              try simp only [go_sem, Nat.reduceEqDiff, Nat.reduceAdd, Nat.reduceSub, Nat.reduceMul, Nat.reduceLeDiff, Nat.reduceLT, Nat.reduceBEq, reduceIte, hb3, hb4, hb5, hb6, hb7]
              refine JoinQ.mk (p0.op == (38 : Int)) [0] (Option.some.inj h) (by simp only [go_sem, Nat.reduceEqDiff, Nat.reduceAdd, Nat.reduceSub, Nat.reduceMul, Nat.reduceLeDiff, Nat.reduceLT, Nat.reduceBEq, reduceIte, hb3, hb4, hb5, hb6, hb7])
        · have h := ifF hb5 h
          try simp only [go_sem, Nat.reduceEqDiff, Nat.reduceAdd, Nat.reduceSub, Nat.reduceMul, Nat.reduceLeDiff, Nat.reduceLT, Nat.reduceBEq, reduceIte, hb3, hb4, hb5]
          refine splitK_intro (fun hb8 => ?_) (fun hb8 => ?_)
          · have h := ifT hb8 h
            try simp only [go_sem, Nat.reduceEqDiff, Nat.reduceAdd, Nat.reduceSub, Nat.reduceMul, Nat.reduceLeDiff, Nat.reduceLT, Nat.reduceBEq, reduceIte, hb3, hb4, hb5, hb8]
            refine JoinQ.mk true [0] (Option.some.inj h) (by simp only [go_sem, Nat.reduceEqDiff, Nat.reduceAdd, Nat.reduceSub, Nat.reduceMul, Nat.reduceLeDiff, Nat.reduceLT, Nat.reduceBEq, reduceIte, hb3, hb4, hb5, hb8])
          · have h := ifF hb8 h
            try simp only [go_sem, Nat.reduceEqDiff, Nat.reduceAdd, Nat.reduceSub, Nat.reduceMul, Nat.reduceLeDiff, Nat.reduceLT, Nat.reduceBEq, reduceIte, hb3, hb4, hb5, hb8]
            refine JoinQ.mk (p0.op == (38 : Int)) [0] (Option.some.inj h) (by simp only [go_sem, Nat.reduceEqDiff, Nat.reduceAdd, Nat.reduceSub, Nat.reduceMul, Nat.reduceLeDiff, Nat.reduceLT, Nat.reduceBEq, reduceIte, hb3, hb4, hb5, hb8])
  · rintro v1_0 rfl
    have h := hJ2
    try dsimp only [Out.fin] at h
    simp only [go_sem, Nat.reduceEqDiff, Nat.reduceAdd, Nat.reduceSub, Nat.reduceMul, Nat.reduceLeDiff, Nat.reduceLT, Nat.reduceBEq, reduceIte]
    refine AW.test (t := v1_0) (by simp only [go_sem, Nat.reduceEqDiff, Nat.reduceAdd, Nat.reduceSub, Nat.reduceMul, Nat.reduceLeDiff, Nat.reduceLT, Nat.reduceBEq, reduceIte]) (fun hb9 => ?_) (fun hb9 => ?_)
    · have h := ifT hb9 h
      refine AW.one ?_
      refine AW.reg mixed (by kernel_rfl) ?_
      try simp only [go_sem, Nat.reduceEqDiff, Nat.reduceAdd, Nat.reduceSub, Nat.reduceMul, Nat.reduceLeDiff, Nat.reduceLT, Nat.reduceBEq, reduceIte]
      refine AW.ret ?_
      obtain rfl := Option.some.inj h
      simp only [go_sem, Nat.reduceEqDiff, Nat.reduceAdd, Nat.reduceSub, Nat.reduceMul, Nat.reduceLeDiff, Nat.reduceLT, Nat.reduceBEq, reduceIte]
      exact .same _
    · have h := ifF hb9 h
      refine AW.one ?_
      obtain ⟨oJ11, h, hJ11⟩ := obind h
      refine AW.join (S := Bool) (fun v10_0 => [(1, .ptr 0 6 0 0), (33, .d (.val (.bool v10_0)))]) (fun v10_0 => [some ⟨6, [[.d (.val (.int .i64 p0.op)), .d (.val (.string p0.name)), .d (.val (.bool p0.num.neg)), .d (slD u32V p0.num.num), .d (slD u32V p0.num.den), .d (slD NodeA.enc p0.kids)]]⟩]) (fun x => x = oJ11) ?_ ?_
      · skip
        refine AW.reg mixed (by kernel_rfl) ?_
        try simp only [go_sem, Nat.reduceEqDiff, Nat.reduceAdd, Nat.reduceSub, Nat.reduceMul, Nat.reduceLeDiff, Nat.reduceLT, Nat.reduceBEq, reduceIte]
        refine splitK_intro (fun hb12 => ?_) (fun hb12 => ?_)
        · have h := ifT hb12 h
          try simp only [go_sem, Nat.reduceEqDiff, Nat.reduceAdd, Nat.reduceSub, Nat.reduceMul, Nat.reduceLeDiff, Nat.reduceLT, Nat.reduceBEq, reduceIte, hb12]
          refine JoinQ.mk true [0] (Option.some.inj h) (by simp only [go_sem, Nat.reduceEqDiff, Nat.reduceAdd, Nat.reduceSub, Nat.reduceMul, Nat.reduceLeDiff, Nat.reduceLT, Nat.reduceBEq, reduceIte, hb12])
        · have h := ifF hb12 h
          try simp only [go_sem, Nat.reduceEqDiff, Nat.reduceAdd, Nat.reduceSub, Nat.reduceMul, Nat.reduceLeDiff, Nat.reduceLT, Nat.reduceBEq, reduceIte, hb12]
          refine JoinQ.mk (p0.op == (30 : Int)) [0] (Option.some.inj h) (by simp only [go_sem, Nat.reduceEqDiff, Nat.reduceAdd, Nat.reduceSub, Nat.reduceMul, Nat.reduceLeDiff, Nat.reduceLT, Nat.reduceBEq, reduceIte, hb12])
      · rintro v10_0 rfl
        have h := hJ11
        try dsimp only [Out.fin] at h
        simp only [go_sem, Nat.reduceEqDiff, Nat.reduceAdd, Nat.reduceSub, Nat.reduceMul, Nat.reduceLeDiff, Nat.reduceLT, Nat.reduceBEq, reduceIte]
        refine AW.test (t := v10_0) (by simp only [go_sem, Nat.reduceEqDiff, Nat.reduceAdd, Nat.reduceSub, Nat.reduceMul, Nat.reduceLeDiff, Nat.reduceLT, Nat.reduceBEq, reduceIte]) (fun hb13 => ?_) (fun hb13 => ?_)
        · have h := ifT hb13 h
          refine AW.one ?_
          refine AW.one ?_
          refine AW.reg mixed (by kernel_rfl) ?_
          try simp only [go_sem, Nat.reduceEqDiff, Nat.reduceAdd, Nat.reduceSub, Nat.reduceMul, Nat.reduceLeDiff, Nat.reduceLT, Nat.reduceBEq, reduceIte]
          refine AW.cut [0] [(1, .ptr 0 6 0 0), (3, .d (.val (.int .i64 (0 : Int))))] [some ⟨6, [[.d (.val (.int .i64 p0.op)), .d (.val (.string p0.name)), .d (.val (.bool p0.num.neg)), .d (slD u32V p0.num.num), .d (slD u32V p0.num.den), .d (slD NodeA.enc p0.kids)]]⟩] (by simp only [go_sem, Nat.reduceEqDiff, Nat.reduceAdd, Nat.reduceSub, Nat.reduceMul, Nat.reduceLeDiff, Nat.reduceLT, Nat.reduceBEq, reduceIte]) ?_
          obtain ⟨oJ17, h, hJ17⟩ := obind h
          refine AW.join (S := Unit) (fun _ => []) (fun _ => []) (fun x => oJ17 = .go x) ?_ ?_
          · refine AW.block ?_
            refine AW.iter (S := Int) (fun i14_0 => [(1, .ptr 0 6 0 0), (3, .d (.val (.int .i64 i14_0)))]) (fun i14_0 => [some ⟨6, [[.d (.val (.int .i64 p0.op)), .d (.val (.string p0.name)), .d (.val (.bool p0.num.neg)), .d (slD u32V p0.num.num), .d (slD u32V p0.num.den), .d (slD NodeA.enc p0.kids)]]⟩]) [0] h (by simp only [go_sem, Nat.reduceEqDiff, Nat.reduceAdd, Nat.reduceSub, Nat.reduceMul, Nat.reduceLeDiff, Nat.reduceLT, Nat.reduceBEq, reduceIte]) ?_
            rintro again i14_0 h
            try dsimp only at h
            refine AW.one ?_
            refine AW.one ?_
            refine AW.reg mixed (by kernel_rfl) ?_
            try simp only [go_sem, Nat.reduceEqDiff, Nat.reduceAdd, Nat.reduceSub, Nat.reduceMul, Nat.reduceLeDiff, Nat.reduceLT, Nat.reduceBEq, reduceIte]
            refine AW.cut [0] [(1, .ptr 0 6 0 0), (3, .d (.val (.int .i64 i14_0))), (46, .d (.val (.bool (decide (i14_0 < (p0.kids.length : Int))))))] [some ⟨6, [[.d (.val (.int .i64 p0.op)), .d (.val (.string p0.name)), .d (.val (.bool p0.num.neg)), .d (slD u32V p0.num.num), .d (slD u32V p0.num.den), .d (slD NodeA.enc p0.kids)]]⟩] (by simp only [go_sem, Nat.reduceEqDiff, Nat.reduceAdd, Nat.reduceSub, Nat.reduceMul, Nat.reduceLeDiff, Nat.reduceLT, Nat.reduceBEq, reduceIte]) ?_
            refine AW.test (t := (decide (i14_0 < (p0.kids.length : Int)))) (by simp only [go_sem, Nat.reduceEqDiff, Nat.reduceAdd, Nat.reduceSub, Nat.reduceMul, Nat.reduceLeDiff, Nat.reduceLT, Nat.reduceBEq, reduceIte]) (fun hb18 => ?_) (fun hb18 => ?_)
            · have h := ifT hb18 h
              refine AW.skip ?_
              try simp only [go_sem, Nat.reduceEqDiff, Nat.reduceAdd, Nat.reduceSub, Nat.reduceMul, Nat.reduceLeDiff, Nat.reduceLT, Nat.reduceBEq, reduceIte]
              refine AW.cut [0] [(1, .ptr 0 6 0 0), (3, .d (.val (.int .i64 i14_0)))] [some ⟨6, [[.d (.val (.int .i64 p0.op)), .d (.val (.string p0.name)), .d (.val (.bool p0.num.neg)), .d (slD u32V p0.num.num), .d (slD u32V p0.num.den), .d (slD NodeA.enc p0.kids)]]⟩] (by simp only [go_sem, Nat.reduceEqDiff, Nat.reduceAdd, Nat.reduceSub, Nat.reduceMul, Nat.reduceLeDiff, Nat.reduceLT, Nat.reduceBEq, reduceIte]) ?_
              refine AW.one ?_
              refine AW.block ?_
              refine AW.one ?_
              refine AW.reg mixed (by kernel_rfl) ?_
              obtain ⟨x19, hx20, h⟩ := obind h
              try simp only [go_sem, Nat.reduceEqDiff, Nat.reduceAdd, Nat.reduceSub, Nat.reduceMul, Nat.reduceLeDiff, Nat.reduceLT, Nat.reduceBEq, reduceIte, (idx_some hx20).1, (idx_some hx20).2]
              obtain ⟨r21, hx22, h⟩ := obind h
              have hc := hself63 _ _ hx22
              try simp only [NodeA.enc_eta, RatA.enc_eta, aggV, i64V, u32V, strV, List.map_cons, List.map_nil] at hc
              refine callK_pure hc (by simp only [go_sem, Nat.reduceEqDiff, Nat.reduceAdd, Nat.reduceSub, Nat.reduceMul, Nat.reduceLeDiff, Nat.reduceLT, Nat.reduceBEq, reduceIte]) ?_
              try simp only [go_sem, Nat.reduceEqDiff, Nat.reduceAdd, Nat.reduceSub, Nat.reduceMul, Nat.reduceLeDiff, Nat.reduceLT, Nat.reduceBEq, reduceIte, (idx_some hx20).1, (idx_some hx20).2]
              refine AW.cut [0] [(1, .ptr 0 6 0 0), (3, .d (.val (.int .i64 i14_0))), (55, .d (.val (.bool (!r21))))] [some ⟨6, [[.d (.val (.int .i64 p0.op)), .d (.val (.string p0.name)), .d (.val (.bool p0.num.neg)), .d (slD u32V p0.num.num), .d (slD u32V p0.num.den), .d (slD NodeA.enc p0.kids)]]⟩] (by simp only [go_sem, Nat.reduceEqDiff, Nat.reduceAdd, Nat.reduceSub, Nat.reduceMul, Nat.reduceLeDiff, Nat.reduceLT, Nat.reduceBEq, reduceIte, (idx_some hx20).1, (idx_some hx20).2]) ?_
              refine AW.test (t := (!r21)) (by simp only [go_sem, Nat.reduceEqDiff, Nat.reduceAdd, Nat.reduceSub, Nat.reduceMul, Nat.reduceLeDiff, Nat.reduceLT, Nat.reduceBEq, reduceIte]) (fun hb23 => ?_) (fun hb23 => ?_)
              · have h := ifT hb23 h
                refine AW.one ?_
                refine AW.reg mixed (by kernel_rfl) ?_
                try simp only [go_sem, Nat.reduceEqDiff, Nat.reduceAdd, Nat.reduceSub, Nat.reduceMul, Nat.reduceLeDiff, Nat.reduceLT, Nat.reduceBEq, reduceIte]
                refine AW.ret ?_
                obtain ⟨_, h, ho⟩ := outM_some h
                rw [ho, Out.fin_out] at hJ17
                have h := h.trans hJ17
                obtain rfl := Option.some.inj h
                simp only [go_sem, Nat.reduceEqDiff, Nat.reduceAdd, Nat.reduceSub, Nat.reduceMul, Nat.reduceLeDiff, Nat.reduceLT, Nat.reduceBEq, reduceIte]
                exact .same _
              · have h := ifF hb23 h
                refine AW.skip ?_
                try simp only [go_sem, Nat.reduceEqDiff, Nat.reduceAdd, Nat.reduceSub, Nat.reduceMul, Nat.reduceLeDiff, Nat.reduceLT, Nat.reduceBEq, reduceIte]
                refine AW.cut [0] [(1, .ptr 0 6 0 0), (3, .d (.val (.int .i64 i14_0)))] [some ⟨6, [[.d (.val (.int .i64 p0.op)), .d (.val (.string p0.name)), .d (.val (.bool p0.num.neg)), .d (slD u32V p0.num.num), .d (slD u32V p0.num.den), .d (slD NodeA.enc p0.kids)]]⟩] (by simp only [go_sem, Nat.reduceEqDiff, Nat.reduceAdd, Nat.reduceSub, Nat.reduceMul, Nat.reduceLeDiff, Nat.reduceLT, Nat.reduceBEq, reduceIte]) ?_
                refine AW.reg mixed (by kernel_rfl) ?_
                try simp only [go_sem, Nat.reduceEqDiff, Nat.reduceAdd, Nat.reduceSub, Nat.reduceMul, Nat.reduceLeDiff, Nat.reduceLT, Nat.reduceBEq, reduceIte]
                refine NextQ.mk (IntKind.wrap .i64 (i14_0 + (1 : Int))) [0] h (by simp only [go_sem, Nat.reduceEqDiff, Nat.reduceAdd, Nat.reduceSub, Nat.reduceMul, Nat.reduceLeDiff, Nat.reduceLT, Nat.reduceBEq, reduceIte])
            · have h := ifF hb18 h
              refine AW.exit ?_
              try simp only [go_sem, Nat.reduceEqDiff, Nat.reduceAdd, Nat.reduceSub, Nat.reduceMul, Nat.reduceLeDiff, Nat.reduceLT, Nat.reduceBEq, reduceIte]
              refine JoinQ.mk () [] (Option.some.inj h).symm (by simp only [go_sem, Nat.reduceEqDiff, Nat.reduceAdd, Nat.reduceSub, Nat.reduceMul, Nat.reduceLeDiff, Nat.reduceLT, Nat.reduceBEq, reduceIte])
          · rintro ⟨⟩ rfl
            have h := hJ17
            try dsimp only [Out.fin] at h
            simp only [go_sem, Nat.reduceEqDiff, Nat.reduceAdd, Nat.reduceSub, Nat.reduceMul, Nat.reduceLeDiff, Nat.reduceLT, Nat.reduceBEq, reduceIte]
            refine AW.cut [] [] [] (by simp only [go_sem, Nat.reduceEqDiff, Nat.reduceAdd, Nat.reduceSub, Nat.reduceMul, Nat.reduceLeDiff, Nat.reduceLT, Nat.reduceBEq, reduceIte]) ?_
            refine AW.one ?_
            refine AW.reg mixed (by kernel_rfl) ?_
            try simp only [go_sem, Nat.reduceEqDiff, Nat.reduceAdd, Nat.reduceSub, Nat.reduceMul, Nat.reduceLeDiff, Nat.reduceLT, Nat.reduceBEq, reduceIte]
            refine AW.ret ?_
            obtain rfl := Option.some.inj h
            simp only [go_sem, Nat.reduceEqDiff, Nat.reduceAdd, Nat.reduceSub, Nat.reduceMul, Nat.reduceLeDiff, Nat.reduceLT, Nat.reduceBEq, reduceIte]
            exact .same _
        · have h := ifF hb13 h
          refine AW.skip ?_
          try simp only [go_sem, Nat.reduceEqDiff, Nat.reduceAdd, Nat.reduceSub, Nat.reduceMul, Nat.reduceLeDiff, Nat.reduceLT, Nat.reduceBEq, reduceIte]
          refine AW.cut [] [] [] (by simp only [go_sem, Nat.reduceEqDiff, Nat.reduceAdd, Nat.reduceSub, Nat.reduceMul, Nat.reduceLeDiff, Nat.reduceLT, Nat.reduceBEq, reduceIte]) ?_
          refine AW.one ?_
          refine AW.reg mixed (by kernel_rfl) ?_
          try simp only [go_sem, Nat.reduceEqDiff, Nat.reduceAdd, Nat.reduceSub, Nat.reduceMul, Nat.reduceLeDiff, Nat.reduceLT, Nat.reduceBEq, reduceIte]
          refine AW.ret ?_
          obtain rfl := Option.some.inj h
          simp only [go_sem, Nat.reduceEqDiff, Nat.reduceAdd, Nat.reduceSub, Nat.reduceMul, Nat.reduceLeDiff, Nat.reduceLT, Nat.reduceBEq, reduceIte]
          exact .same _
def r08_differential (K : Nat) (p0 : NodeA) : Option Bool := iter K (fun self q => r08_differential_body K self q) p0
theorem key_r08_differential {K : Nat} (k : Nat) : (∀ (q : NodeA) (r : Bool), iter k (fun self q => r08_differential_body K self q) q = some r → Cn Try.prog 63 [aggV q.enc] (.d (.val (.bool r)))) := by
  induction k with
  | zero => exact fun q r h => by cases h
  | succ k ih => exact fun q r h => r08_differential_step K _ ih q r h
theorem r08_differential_ok {K : Nat} {p0 : NodeA} {r : Bool} (h : r08_differential K p0 = some r) : Cn Try.prog 63 [aggV p0.enc] (.d (.val (.bool r))) := (key_r08_differential K) p0 r h

end Go.Proofs.Ytcgphoghmgeecaa
namespace Go.Proofs.Ytcgphoghmgeecaa
open Go Go.Iso Go.Proofs
set_option linter.unusedSimpArgs false
set_option linter.unusedVariables false
set_option maxRecDepth 100000

/-! ### isochrone/isochroneref08.kids -/
def r08_kids (K : Nat) (p0 : Int) : Option ByteArray := ((
    if (p0 == (4 : Int)) then
      some (p0 == (4 : Int))
    else
      if (p0 == (12 : Int)) then
        some (p0 == (12 : Int))
      else
        if (p0 == (50 : Int)) then
          some (p0 == (50 : Int))
        else
          if (p0 == (51 : Int)) then
            some (p0 == (51 : Int))
          else
            some (p0 == (55 : Int))) : Option Bool).bind (fun v1_0 => 
  if v1_0 then
    some (⟨#[49]⟩ : ByteArray)
  else
    ((
      if (p0 == (5 : Int)) then
        some (p0 == (5 : Int))
      else
        if (p0 == (6 : Int)) then
          some (p0 == (6 : Int))
        else
          if (p0 == (7 : Int)) then
            some (p0 == (7 : Int))
          else
            if (p0 == (8 : Int)) then
              some (p0 == (8 : Int))
            else
              if (p0 == (9 : Int)) then
                some (p0 == (9 : Int))
              else
                if (p0 == (22 : Int)) then
                  some (p0 == (22 : Int))
                else
                  if (p0 == (23 : Int)) then
                    some (p0 == (23 : Int))
                  else
                    if (p0 == (24 : Int)) then
                      some (p0 == (24 : Int))
                    else
                      if (p0 == (25 : Int)) then
                        some (p0 == (25 : Int))
                      else
                        if (p0 == (26 : Int)) then
                          some (p0 == (26 : Int))
                        else
                          some (p0 == (27 : Int))) : Option Bool).bind (fun v8_0 => 
    if v8_0 then
      some (⟨#[49, 49]⟩ : ByteArray)
    else
      ((
        if (p0 == (28 : Int)) then
          some (p0 == (28 : Int))
        else
          if (p0 == (33 : Int)) then
            some (p0 == (33 : Int))
          else
            if (p0 == (34 : Int)) then
              some (p0 == (34 : Int))
            else
              if (p0 == (39 : Int)) then
                some (p0 == (39 : Int))
              else
                some (p0 == (53 : Int))) : Option Bool).bind (fun v21_0 => 
      if v21_0 then
        some (⟨#[50]⟩ : ByteArray)
      else
        ((
          if (p0 == (29 : Int)) then
            some (p0 == (29 : Int))
          else
            if (p0 == (30 : Int)) then
              some (p0 == (30 : Int))
            else
              if (p0 == (31 : Int)) then
                some (p0 == (31 : Int))
              else
                some (p0 == (32 : Int))) : Option Bool).bind (fun v28_0 => 
        if v28_0 then
          some (⟨#[50, 50]⟩ : ByteArray)
        else
          ((
            if (p0 == (35 : Int)) then
              some (p0 == (35 : Int))
            else
              some (p0 == (36 : Int))) : Option Bool).bind (fun v34_0 => 
          if v34_0 then
            some (⟨#[51, 50]⟩ : ByteArray)
          else
            ((
              if (p0 == (57 : Int)) then
                some (p0 == (57 : Int))
              else
                some (p0 == (58 : Int))) : Option Bool).bind (fun v38_0 => 
            if v38_0 then
              some (⟨#[51, 51]⟩ : ByteArray)
            else
              ((
                if (p0 == (59 : Int)) then
                  some (p0 == (59 : Int))
                else
                  some (p0 == (60 : Int))) : Option Bool).bind (fun v42_0 => 
              if v42_0 then
                some (⟨#[51]⟩ : ByteArray)
              else
                some (⟨#[]⟩ : ByteArray))))))))
set_option maxHeartbeats 4000000 in
theorem r08_kids_ok {K : Nat} {p0 : Int} {r : ByteArray} (h : r08_kids K p0 = some r) : Cn Try.prog 61 [.d (.val (.int .i64 p0))] (.d (.val (.string r))) := by
  refine Cn.ofA mixed Try.func61 rfl Try.call61 Try.ntmps61 Try.results61 (by simp) (by simp only [go_sem, Nat.reduceEqDiff, Nat.reduceAdd, Nat.reduceSub, Nat.reduceMul, Nat.reduceLeDiff, Nat.reduceLT, Nat.reduceBEq, reduceIte]) fun hfit => ?_
  unfold r08_kids at h
  refine AW.cut [] [(0, .d (.val (.int .i64 p0)))] [] (by simp only [go_sem, Nat.reduceEqDiff, Nat.reduceAdd, Nat.reduceSub, Nat.reduceMul, Nat.reduceLeDiff, Nat.reduceLT, Nat.reduceBEq, reduceIte]) ?_
  refine AW.one ?_
  refine AW.reg mixed (by kernel_rfl) ?_
  try simp only [go_sem, Nat.reduceEqDiff, Nat.reduceAdd, Nat.reduceSub, Nat.reduceMul, Nat.reduceLeDiff, Nat.reduceLT, Nat.reduceBEq, reduceIte]
  refine AW.cut [] [(0, .d (.val (.int .i64 p0)))] [] (by simp only [go_sem, Nat.reduceEqDiff, Nat.reduceAdd, Nat.reduceSub, Nat.reduceMul, Nat.reduceLeDiff, Nat.reduceLT, Nat.reduceBEq, reduceIte]) ?_
  refine AW.one ?_
  refine AW.one ?_
  refine AW.reg mixed (by kernel_rfl) ?_
  try simp only [go_sem, Nat.reduceEqDiff, Nat.reduceAdd, Nat.reduceSub, Nat.reduceMul, Nat.reduceLeDiff, Nat.reduceLT, Nat.reduceBEq, reduceIte]
  refine AW.cut [] [(3, .d (.val (.int .i64 p0)))] [] (by simp only [go_sem, Nat.reduceEqDiff, Nat.reduceAdd, Nat.reduceSub, Nat.reduceMul, Nat.reduceLeDiff, Nat.reduceLT, Nat.reduceBEq, reduceIte]) ?_
  refine AW.block ?_
  refine AW.one ?_
  obtain ⟨oJ2, h, hJ2⟩ := obind h
  refine AW.join (S := Bool) (fun v1_0 => [(3, .d (.val (.int .i64 p0))), (4, .d (.val (.bool v1_0)))]) (fun v1_0 => []) (fun x => x = oJ2) ?_ ?_
  · skip
    refine AW.one ?_
    refine AW.reg mixed (by kernel_rfl) ?_
    try simp only [go_sem, Nat.reduceEqDiff, Nat.reduceAdd, Nat.reduceSub, Nat.reduceMul, Nat.reduceLeDiff, Nat.reduceLT, Nat.reduceBEq, reduceIte]
    refine AW.cut [] [(3, .d (.val (.int .i64 p0))), (4, .d (.val (.bool (p0 == (4 : Int)))))] [] (by simp only [go_sem, Nat.reduceEqDiff, Nat.reduceAdd, Nat.reduceSub, Nat.reduceMul, Nat.reduceLeDiff, Nat.reduceLT, Nat.reduceBEq, reduceIte]) ?_
    refine AW.test (t := (p0 == (4 : Int))) (by simp only [go_sem, Nat.reduceEqDiff, Nat.reduceAdd, Nat.reduceSub, Nat.reduceMul, Nat.reduceLeDiff, Nat.reduceLT, Nat.reduceBEq, reduceIte]) (fun hb3 => ?_) (fun hb3 => ?_)
    · have h := ifT hb3 h
      refine AW.skip ?_
      try simp only [go_sem, Nat.reduceEqDiff, Nat.reduceAdd, Nat.reduceSub, Nat.reduceMul, Nat.reduceLeDiff, Nat.reduceLT, Nat.reduceBEq, reduceIte]
      refine JoinQ.mk (p0 == (4 : Int)) [] (Option.some.inj h) (by simp only [go_sem, Nat.reduceEqDiff, Nat.reduceAdd, Nat.reduceSub, Nat.reduceMul, Nat.reduceLeDiff, Nat.reduceLT, Nat.reduceBEq, reduceIte])
    · have h := ifF hb3 h
      refine AW.one ?_
      refine AW.reg mixed (by kernel_rfl) ?_
      try simp only [go_sem, Nat.reduceEqDiff, Nat.reduceAdd, Nat.reduceSub, Nat.reduceMul, Nat.reduceLeDiff, Nat.reduceLT, Nat.reduceBEq, reduceIte]
      refine AW.cut [] [(3, .d (.val (.int .i64 p0))), (4, .d (.val (.bool (p0 == (12 : Int)))))] [] (by simp only [go_sem, Nat.reduceEqDiff, Nat.reduceAdd, Nat.reduceSub, Nat.reduceMul, Nat.reduceLeDiff, Nat.reduceLT, Nat.reduceBEq, reduceIte]) ?_
      refine AW.test (t := (p0 == (12 : Int))) (by simp only [go_sem, Nat.reduceEqDiff, Nat.reduceAdd, Nat.reduceSub, Nat.reduceMul, Nat.reduceLeDiff, Nat.reduceLT, Nat.reduceBEq, reduceIte]) (fun hb4 => ?_) (fun hb4 => ?_)
      · have h := ifT hb4 h
        refine AW.skip ?_
        try simp only [go_sem, Nat.reduceEqDiff, Nat.reduceAdd, Nat.reduceSub, Nat.reduceMul, Nat.reduceLeDiff, Nat.reduceLT, Nat.reduceBEq, reduceIte]
        refine JoinQ.mk (p0 == (12 : Int)) [] (Option.some.inj h) (by simp only [go_sem, Nat.reduceEqDiff, Nat.reduceAdd, Nat.reduceSub, Nat.reduceMul, Nat.reduceLeDiff, Nat.reduceLT, Nat.reduceBEq, reduceIte])
      · have h := ifF hb4 h
        refine AW.one ?_
        refine AW.reg mixed (by kernel_rfl) ?_
        try simp only [go_sem, Nat.reduceEqDiff, Nat.reduceAdd, Nat.reduceSub, Nat.reduceMul, Nat.reduceLeDiff, Nat.reduceLT, Nat.reduceBEq, reduceIte]
        refine AW.cut [] [(3, .d (.val (.int .i64 p0))), (4, .d (.val (.bool (p0 == (50 : Int)))))] [] (by simp only [go_sem, Nat.reduceEqDiff, Nat.reduceAdd, Nat.reduceSub, Nat.reduceMul, Nat.reduceLeDiff, Nat.reduceLT, Nat.reduceBEq, reduceIte]) ?_
        refine AW.test (t := (p0 == (50 : Int))) (by simp only [go_sem, Nat.reduceEqDiff, Nat.reduceAdd, Nat.reduceSub, Nat.reduceMul, Nat.reduceLeDiff, Nat.reduceLT, Nat.reduceBEq, reduceIte]) (fun hb5 => ?_) (fun hb5 => ?_)
        · have h := ifT hb5 h
          refine AW.skip ?_
          try simp only [go_sem, Nat.reduceEqDiff, Nat.reduceAdd, Nat.reduceSub, Nat.reduceMul, Nat.reduceLeDiff, Nat.reduceLT, Nat.reduceBEq, reduceIte]
          refine JoinQ.mk (p0 == (50 : Int)) [] (Option.some.inj h) (by simp only [go_sem, Nat.reduceEqDiff, Nat.reduceAdd, Nat.reduceSub, Nat.reduceMul, Nat.reduceLeDiff, Nat.reduceLT, Nat.reduceBEq, reduceIte])
        · have h := ifF hb5 h
          refine AW.one ?_
          refine AW.reg mixed (by kernel_rfl) ?_
          try simp only [go_sem, Nat.reduceEqDiff, Nat.reduceAdd, Nat.reduceSub, Nat.reduceMul, Nat.reduceLeDiff, Nat.reduceLT, Nat.reduceBEq, reduceIte]
          refine AW.cut [] [(3, .d (.val (.int .i64 p0))), (4, .d (.val (.bool (p0 == (51 : Int)))))] [] (by simp only [go_sem, Nat.reduceEqDiff, Nat.reduceAdd, Nat.reduceSub, Nat.reduceMul, Nat.reduceLeDiff, Nat.reduceLT, Nat.reduceBEq, reduceIte]) ?_
          refine AW.test (t := (p0 == (51 : Int))) (by simp only [go_sem, Nat.reduceEqDiff, Nat.reduceAdd, Nat.reduceSub, Nat.reduceMul, Nat.reduceLeDiff, Nat.reduceLT, Nat.reduceBEq, reduceIte]) (fun hb6 => ?_) (fun hb6 => ?_)
          · have h := ifT hb6 h
            refine AW.skip ?_
            try simp only [go_sem, Nat.reduceEqDiff, Nat.reduceAdd, Nat.reduceSub, Nat.reduceMul, Nat.reduceLeDiff, Nat.reduceLT, Nat.reduceBEq, reduceIte]
            refine JoinQ.mk (p0 == (51 : Int)) [] (Option.some.inj h) (by simp only [go_sem, Nat.reduceEqDiff, Nat.reduceAdd, Nat.reduceSub, Nat.reduceMul, Nat.reduceLeDiff, Nat.reduceLT, Nat.reduceBEq, reduceIte])
          · have h := ifF hb6 h
            refine AW.reg mixed (by kernel_rfl) ?_
            try simp only [go_sem, Nat.reduceEqDiff, Nat.reduceAdd, Nat.reduceSub, Nat.reduceMul, Nat.reduceLeDiff, Nat.reduceLT, Nat.reduceBEq, reduceIte]
            refine JoinQ.mk (p0 == (55 : Int)) [] (Option.some.inj h) (by simp only [go_sem, Nat.reduceEqDiff, Nat.reduceAdd, Nat.reduceSub, Nat.reduceMul, Nat.reduceLeDiff, Nat.reduceLT, Nat.reduceBEq, reduceIte])
  · rintro v1_0 rfl
    have h := hJ2
    try dsimp only [Out.fin] at h
    simp only [go_sem, Nat.reduceEqDiff, Nat.reduceAdd, Nat.reduceSub, Nat.reduceMul, Nat.reduceLeDiff, Nat.reduceLT, Nat.reduceBEq, reduceIte]
    refine AW.test (t := v1_0) (by simp only [go_sem, Nat.reduceEqDiff, Nat.reduceAdd, Nat.reduceSub, Nat.reduceMul, Nat.reduceLeDiff, Nat.reduceLT, Nat.reduceBEq, reduceIte]) (fun hb7 => ?_) (fun hb7 => ?_)
    · have h := ifT hb7 h
      refine AW.one ?_
      refine AW.reg mixed (by kernel_rfl) ?_
      try simp only [go_sem, Nat.reduceEqDiff, Nat.reduceAdd, Nat.reduceSub, Nat.reduceMul, Nat.reduceLeDiff, Nat.reduceLT, Nat.reduceBEq, reduceIte]
      refine AW.ret ?_
      obtain rfl := Option.some.inj h
      simp only [go_sem, Nat.reduceEqDiff, Nat.reduceAdd, Nat.reduceSub, Nat.reduceMul, Nat.reduceLeDiff, Nat.reduceLT, Nat.reduceBEq, reduceIte]
      exact .same _
    · have h := ifF hb7 h
      refine AW.one ?_
      obtain ⟨oJ9, h, hJ9⟩ := obind h
      refine AW.join (S := Bool) (fun v8_0 => [(3, .d (.val (.int .i64 p0))), (10, .d (.val (.bool v8_0)))]) (fun v8_0 => []) (fun x => x = oJ9) ?_ ?_
      · skip
        refine AW.one ?_
        refine AW.reg mixed (by kernel_rfl) ?_
        try simp only [go_sem, Nat.reduceEqDiff, Nat.reduceAdd, Nat.reduceSub, Nat.reduceMul, Nat.reduceLeDiff, Nat.reduceLT, Nat.reduceBEq, reduceIte]
        refine AW.cut [] [(3, .d (.val (.int .i64 p0))), (10, .d (.val (.bool (p0 == (5 : Int)))))] [] (by simp only [go_sem, Nat.reduceEqDiff, Nat.reduceAdd, Nat.reduceSub, Nat.reduceMul, Nat.reduceLeDiff, Nat.reduceLT, Nat.reduceBEq, reduceIte]) ?_
        refine AW.test (t := (p0 == (5 : Int))) (by simp only [go_sem, Nat.reduceEqDiff, Nat.reduceAdd, Nat.reduceSub, Nat.reduceMul, Nat.reduceLeDiff, Nat.reduceLT, Nat.reduceBEq, reduceIte]) (fun hb10 => ?_) (fun hb10 => ?_)
        · have h := ifT hb10 h
          refine AW.skip ?_
          try simp only [go_sem, Nat.reduceEqDiff, Nat.reduceAdd, Nat.reduceSub, Nat.reduceMul, Nat.reduceLeDiff, Nat.reduceLT, Nat.reduceBEq, reduceIte]
          refine JoinQ.mk (p0 == (5 : Int)) [] (Option.some.inj h) (by simp only [go_sem, Nat.reduceEqDiff, Nat.reduceAdd, Nat.reduceSub, Nat.reduceMul, Nat.reduceLeDiff, Nat.reduceLT, Nat.reduceBEq, reduceIte])
        · have h := ifF hb10 h
          refine AW.one ?_
          refine AW.reg mixed (by kernel_rfl) ?_
          try simp only [go_sem, Nat.reduceEqDiff, Nat.reduceAdd, Nat.reduceSub, Nat.reduceMul, Nat.reduceLeDiff, Nat.reduceLT, Nat.reduceBEq, reduceIte]
          refine AW.cut [] [(3, .d (.val (.int .i64 p0))), (10, .d (.val (.bool (p0 == (6 : Int)))))] [] (by simp only [go_sem, Nat.reduceEqDiff, Nat.reduceAdd, Nat.reduceSub, Nat.reduceMul, Nat.reduceLeDiff, Nat.reduceLT, Nat.reduceBEq, reduceIte]) ?_
          refine AW.test (t := (p0 == (6 : Int))) (by simp only [go_sem, Nat.reduceEqDiff, Nat.reduceAdd, Nat.reduceSub, Nat.reduceMul, Nat.reduceLeDiff, Nat.reduceLT, Nat.reduceBEq, reduceIte]) (fun hb11 => ?_) (fun hb11 => ?_)
          · have h := ifT hb11 h
            refine AW.skip ?_
            try simp only [go_sem, Nat.reduceEqDiff, Nat.reduceAdd, Nat.reduceSub, Nat.reduceMul, Nat.reduceLeDiff, Nat.reduceLT, Nat.reduceBEq, reduceIte]
            refine JoinQ.mk (p0 == (6 : Int)) [] (Option.some.inj h) (by simp only [go_sem, Nat.reduceEqDiff, Nat.reduceAdd, Nat.reduceSub, Nat.reduceMul, Nat.reduceLeDiff, Nat.reduceLT, Nat.reduceBEq, reduceIte])
          · have h := ifF hb11 h
            refine AW.one ?_
            refine AW.reg mixed (by kernel_rfl) ?_
            try simp only [go_sem, Nat.reduceEqDiff, Nat.reduceAdd, Nat.reduceSub, Nat.reduceMul, Nat.reduceLeDiff, Nat.reduceLT, Nat.reduceBEq, reduceIte]
            refine AW.cut [] [(3, .d (.val (.int .i64 p0))), (10, .d (.val (.bool (p0 == (7 : Int)))))] [] (by simp only [go_sem, Nat.reduceEqDiff, Nat.reduceAdd, Nat.reduceSub, Nat.reduceMul, Nat.reduceLeDiff, Nat.reduceLT, Nat.reduceBEq, reduceIte]) ?_
            refine AW.test (t := (p0 == (7 : Int))) (by simp only [go_sem, Nat.reduceEqDiff, Nat.reduceAdd, Nat.reduceSub, Nat.reduceMul, Nat.reduceLeDiff, Nat.reduceLT, Nat.reduceBEq, reduceIte]) (fun hb12 => ?_) (fun hb12 => ?_)
            · have h := ifT hb12 h
              refine AW.skip ?_
              try simp only [go_sem, Nat.reduceEqDiff, Nat.reduceAdd, Nat.reduceSub, Nat.reduceMul, Nat.reduceLeDiff, Nat.reduceLT, Nat.reduceBEq, reduceIte]
              refine JoinQ.mk (p0 == (7 : Int)) [] (Option.some.inj h) (by simp only [go_sem, Nat.reduceEqDiff, Nat.reduceAdd, Nat.reduceSub, Nat.reduceMul, Nat.reduceLeDiff, Nat.reduceLT, Nat.reduceBEq, reduceIte])
            · have h := ifF hb12 h
              refine AW.one ?_
              refine AW.reg mixed (by kernel_rfl) ?_
              try simp only [go_sem, Nat.reduceEqDiff, Nat.reduceAdd, Nat.reduceSub, Nat.reduceMul, Nat.reduceLeDiff, Nat.reduceLT, Nat.reduceBEq, reduceIte]
              refine AW.cut [] [(3, .d (.val (.int .i64 p0))), (10, .d (.val (.bool (p0 == (8 : Int)))))] [] (by simp only [go_sem, Nat.reduceEqDiff, Nat.reduceAdd, Nat.reduceSub, Nat.reduceMul, Nat.reduceLeDiff, Nat.reduceLT, Nat.reduceBEq, reduceIte]) ?_
              refine AW.test (t := (p0 == (8 : Int))) (by simp only [go_sem, Nat.reduceEqDiff, Nat.reduceAdd, Nat.reduceSub, Nat.reduceMul, Nat.reduceLeDiff, Nat.reduceLT, Nat.reduceBEq, reduceIte]) (fun hb13 => ?_) (fun hb13 => ?_)
              · have h := ifT hb13 h
                refine AW.skip ?_
                try simp only [go_sem, Nat.reduceEqDiff, Nat.reduceAdd, Nat.reduceSub, Nat.reduceMul, Nat.reduceLeDiff, Nat.reduceLT, Nat.reduceBEq, reduceIte]
                refine JoinQ.mk (p0 == (8 : Int)) [] (Option.some.inj h) (by simp only [go_sem, Nat.reduceEqDiff, Nat.reduceAdd, Nat.reduceSub, Nat.reduceMul, Nat.reduceLeDiff, Nat.reduceLT, Nat.reduceBEq, reduceIte])
              · have h := ifF hb13 h
                refine AW.one ?_
                refine AW.reg mixed (by kernel_rfl) ?_
                try simp only [go_sem, Nat.reduceEqDiff, Nat.reduceAdd, Nat.reduceSub, Nat.reduceMul, Nat.reduceLeDiff, Nat.reduceLT, Nat.reduceBEq, reduceIte]
                refine AW.cut [] [(3, .d (.val (.int .i64 p0))), (10, .d (.val (.bool (p0 == (9 : Int)))))] [] (by simp only [go_sem, Nat.reduceEqDiff, Nat.reduceAdd, Nat.reduceSub, Nat.reduceMul, Nat.reduceLeDiff, Nat.reduceLT, Nat.reduceBEq, reduceIte]) ?_
                refine AW.test (t := (p0 == (9 : Int))) (by simp only [go_sem, Nat.reduceEqDiff, Nat.reduceAdd, Nat.reduceSub, Nat.reduceMul, Nat.reduceLeDiff, Nat.reduceLT, Nat.reduceBEq, reduceIte]) (fun hb14 => ?_) (fun hb14 => ?_)
                · have h := ifT hb14 h
                  refine AW.skip ?_
                  try simp only [go_sem, Nat.reduceEqDiff, Nat.reduceAdd, Nat.reduceSub, Nat.reduceMul, Nat.reduceLeDiff, Nat.reduceLT, Nat.reduceBEq, reduceIte]
                  refine JoinQ.mk (p0 == (9 : Int)) [] (Option.some.inj h) (by simp only [go_sem, Nat.reduceEqDiff, Nat.reduceAdd, Nat.reduceSub, Nat.reduceMul, Nat.reduceLeDiff, Nat.reduceLT, Nat.reduceBEq, reduceIte])
                · have h := ifF hb14 h
                  refine AW.one ?_
                  refine AW.reg mixed (by kernel_rfl) ?_
                  try simp only [go_sem, Nat.reduceEqDiff, Nat.reduceAdd, Nat.reduceSub, Nat.reduceMul, Nat.reduceLeDiff, Nat.reduceLT, Nat.reduceBEq, reduceIte]
                  refine AW.cut [] [(3, .d (.val (.int .i64 p0))), (10, .d (.val (.bool (p0 == (22 : Int)))))] [] (by simp only [go_sem, Nat.reduceEqDiff, Nat.reduceAdd, Nat.reduceSub, Nat.reduceMul, Nat.reduceLeDiff, Nat.reduceLT, Nat.reduceBEq, reduceIte]) ?_
                  refine AW.test (t := (p0 == (22 : Int))) (by simp only [go_sem, Nat.reduceEqDiff, Nat.reduceAdd, Nat.reduceSub, Nat.reduceMul, Nat.reduceLeDiff, Nat.reduceLT, Nat.reduceBEq, reduceIte]) (fun hb15 => ?_) (fun hb15 => ?_)
                  · have h := ifT hb15 h
                    refine AW.skip ?_
                    try simp only [go_sem, Nat.reduceEqDiff, Nat.reduceAdd, Nat.reduceSub, Nat.reduceMul, Nat.reduceLeDiff, Nat.reduceLT, Nat.reduceBEq, reduceIte]
                    refine JoinQ.mk (p0 == (22 : Int)) [] (Option.some.inj h) (by simp only [go_sem, Nat.reduceEqDiff, Nat.reduceAdd, Nat.reduceSub, Nat.reduceMul, Nat.reduceLeDiff, Nat.reduceLT, Nat.reduceBEq, reduceIte])
                  · have h := ifF hb15 h
                    refine AW.one ?_
                    refine AW.reg mixed (by kernel_rfl) ?_
                    try simp only [go_sem, Nat.reduceEqDiff, Nat.reduceAdd, Nat.reduceSub, Nat.reduceMul, Nat.reduceLeDiff, Nat.reduceLT, Nat.reduceBEq, reduceIte]
                    refine AW.cut [] [(3, .d (.val (.int .i64 p0))), (10, .d (.val (.bool (p0 == (23 : Int)))))] [] (by simp only [go_sem, Nat.reduceEqDiff, Nat.reduceAdd, Nat.reduceSub, Nat.reduceMul, Nat.reduceLeDiff, Nat.reduceLT, Nat.reduceBEq, reduceIte]) ?_
                    refine AW.test (t := (p0 == (23 : Int))) (by simp only [go_sem, Nat.reduceEqDiff, Nat.reduceAdd, Nat.reduceSub, Nat.reduceMul, Nat.reduceLeDiff, Nat.reduceLT, Nat.reduceBEq, reduceIte]) (fun hb16 => ?_) (fun hb16 => ?_)
                    · have h := ifT hb16 h
                      refine AW.skip ?_
                      try simp only [go_sem, Nat.reduceEqDiff, Nat.reduceAdd, Nat.reduceSub, Nat.reduceMul, Nat.reduceLeDiff, Nat.reduceLT, Nat.reduceBEq, reduceIte]
                      refine JoinQ.mk (p0 == (23 : Int)) [] (Option.some.inj h) (by simp only [go_sem, Nat.reduceEqDiff, Nat.reduceAdd, Nat.reduceSub, Nat.reduceMul, Nat.reduceLeDiff, Nat.reduceLT, Nat.reduceBEq, reduceIte])
                    · have h := ifF hb16 h
                      refine AW.one ?_
                      refine AW.reg mixed (by kernel_rfl) ?_
                      try simp only [go_sem, Nat.reduceEqDiff, Nat.reduceAdd, Nat.reduceSub, Nat.reduceMul, Nat.reduceLeDiff, Nat.reduceLT, Nat.reduceBEq, reduceIte]
                      refine AW.cut [] [(3, .d (.val (.int .i64 p0))), (10, .d (.val (.bool (p0 == (24 : Int)))))] [] (by simp only [go_sem, Nat.reduceEqDiff, Nat.reduceAdd, Nat.reduceSub, Nat.reduceMul, Nat.reduceLeDiff, Nat.reduceLT, Nat.reduceBEq, reduceIte]) ?_
                      refine AW.test (t := (p0 == (24 : Int))) (by simp only [go_sem, Nat.reduceEqDiff, Nat.reduceAdd, Nat.reduceSub, Nat.reduceMul, Nat.reduceLeDiff, Nat.reduceLT, Nat.reduceBEq, reduceIte]) (fun hb17 => ?_) (fun hb17 => ?_)
                      · have h := ifT hb17 h
                        refine AW.skip ?_
                        try simp only [go_sem, Nat.reduceEqDiff, Nat.reduceAdd, Nat.reduceSub, Nat.reduceMul, Nat.reduceLeDiff, Nat.reduceLT, Nat.reduceBEq, reduceIte]
                        refine JoinQ.mk (p0 == (24 : Int)) [] (Option.some.inj h) (by simp only [go_sem, Nat.reduceEqDiff, Nat.reduceAdd, Nat.reduceSub, Nat.reduceMul, Nat.reduceLeDiff, Nat.reduceLT, Nat.reduceBEq, reduceIte])
                      · have h := ifF hb17 h
                        refine AW.one ?_
                        refine AW.reg mixed (by kernel_rfl) ?_
                        try simp only [go_sem, Nat.reduceEqDiff, Nat.reduceAdd, Nat.reduceSub, Nat.reduceMul, Nat.reduceLeDiff, Nat.reduceLT, Nat.reduceBEq, reduceIte]
                        refine AW.cut [] [(3, .d (.val (.int .i64 p0))), (10, .d (.val (.bool (p0 == (25 : Int)))))] [] (by simp only [go_sem, Nat.reduceEqDiff, Nat.reduceAdd, Nat.reduceSub, Nat.reduceMul, Nat.reduceLeDiff, Nat.reduceLT, Nat.reduceBEq, reduceIte]) ?_
                        refine AW.test (t := (p0 == (25 : Int))) (by simp only [go_sem, Nat.reduceEqDiff, Nat.reduceAdd, Nat.reduceSub, Nat.reduceMul, Nat.reduceLeDiff, Nat.reduceLT, Nat.reduceBEq, reduceIte]) (fun hb18 => ?_) (fun hb18 => ?_)
                        · have h := ifT hb18 h
                          refine AW.skip ?_
                          try simp only [go_sem, Nat.reduceEqDiff, Nat.reduceAdd, Nat.reduceSub, Nat.reduceMul, Nat.reduceLeDiff, Nat.reduceLT, Nat.reduceBEq, reduceIte]
                          refine JoinQ.mk (p0 == (25 : Int)) [] (Option.some.inj h) (by simp only [go_sem, Nat.reduceEqDiff, Nat.reduceAdd, Nat.reduceSub, Nat.reduceMul, Nat.reduceLeDiff, Nat.reduceLT, Nat.reduceBEq, reduceIte])
                        · have h := ifF hb18 h
                          refine AW.one ?_
                          refine AW.reg mixed (by kernel_rfl) ?_
                          try simp only [go_sem, Nat.reduceEqDiff, Nat.reduceAdd, Nat.reduceSub, Nat.reduceMul, Nat.reduceLeDiff, Nat.reduceLT, Nat.reduceBEq, reduceIte]
                          refine AW.cut [] [(3, .d (.val (.int .i64 p0))), (10, .d (.val (.bool (p0 == (26 : Int)))))] [] (by simp only [go_sem, Nat.reduceEqDiff, Nat.reduceAdd, Nat.reduceSub, Nat.reduceMul, Nat.reduceLeDiff, Nat.reduceLT, Nat.reduceBEq, reduceIte]) ?_
                          refine AW.test (t := (p0 == (26 : Int))) (by simp only [go_sem, Nat.reduceEqDiff, Nat.reduceAdd, Nat.reduceSub, Nat.reduceMul, Nat.reduceLeDiff, Nat.reduceLT, Nat.reduceBEq, reduceIte]) (fun hb19 => ?_) (fun hb19 => ?_)
                          · have h := ifT hb19 h
                            refine AW.skip ?_
                            try simp only [go_sem, Nat.reduceEqDiff, Nat.reduceAdd, Nat.reduceSub, Nat.reduceMul, Nat.reduceLeDiff, Nat.reduceLT, Nat.reduceBEq, reduceIte]
                            refine JoinQ.mk (p0 == (26 : Int)) [] (Option.some.inj h) (by simp only [go_sem, Nat.reduceEqDiff, Nat.reduceAdd, Nat.reduceSub, Nat.reduceMul, Nat.reduceLeDiff, Nat.reduceLT, Nat.reduceBEq, reduceIte])
                          · have h := ifF hb19 h
                            refine AW.reg mixed (by kernel_rfl) ?_
                            try simp only [go_sem, Nat.reduceEqDiff, Nat.reduceAdd, Nat.reduceSub, Nat.reduceMul, Nat.reduceLeDiff, Nat.reduceLT, Nat.reduceBEq, reduceIte]
                            refine JoinQ.mk (p0 == (27 : Int)) [] (Option.some.inj h) (by simp only [go_sem, Nat.reduceEqDiff, Nat.reduceAdd, Nat.reduceSub, Nat.reduceMul, Nat.reduceLeDiff, Nat.reduceLT, Nat.reduceBEq, reduceIte])
      · rintro v8_0 rfl
        have h := hJ9
        try dsimp only [Out.fin] at h
        simp only [go_sem, Nat.reduceEqDiff, Nat.reduceAdd, Nat.reduceSub, Nat.reduceMul, Nat.reduceLeDiff, Nat.reduceLT, Nat.reduceBEq, reduceIte]
        refine AW.test (t := v8_0) (by simp only [go_sem, Nat.reduceEqDiff, Nat.reduceAdd, Nat.reduceSub, Nat.reduceMul, Nat.reduceLeDiff, Nat.reduceLT, Nat.reduceBEq, reduceIte]) (fun hb20 => ?_) (fun hb20 => ?_)
        · have h := ifT hb20 h
          refine AW.one ?_
          refine AW.reg mixed (by kernel_rfl) ?_
          try simp only [go_sem, Nat.reduceEqDiff, Nat.reduceAdd, Nat.reduceSub, Nat.reduceMul, Nat.reduceLeDiff, Nat.reduceLT, Nat.reduceBEq, reduceIte]
          refine AW.ret ?_
          obtain rfl := Option.some.inj h
          simp only [go_sem, Nat.reduceEqDiff, Nat.reduceAdd, Nat.reduceSub, Nat.reduceMul, Nat.reduceLeDiff, Nat.reduceLT, Nat.reduceBEq, reduceIte]
          exact .same _
        · have h := ifF hb20 h
          refine AW.one ?_
          obtain ⟨oJ22, h, hJ22⟩ := obind h
          refine AW.join (S := Bool) (fun v21_0 => [(3, .d (.val (.int .i64 p0))), (22, .d (.val (.bool v21_0)))]) (fun v21_0 => []) (fun x => x = oJ22) ?_ ?_
          · skip
            refine AW.one ?_
            refine AW.reg mixed (by kernel_rfl) ?_
            try simp only [go_sem, Nat.reduceEqDiff, Nat.reduceAdd, Nat.reduceSub, Nat.reduceMul, Nat.reduceLeDiff, Nat.reduceLT, Nat.reduceBEq, reduceIte]
            refine AW.cut [] [(3, .d (.val (.int .i64 p0))), (22, .d (.val (.bool (p0 == (28 : Int)))))] [] (by simp only [go_sem, Nat.reduceEqDiff, Nat.reduceAdd, Nat.reduceSub, Nat.reduceMul, Nat.reduceLeDiff, Nat.reduceLT, Nat.reduceBEq, reduceIte]) ?_
            refine AW.test (t := (p0 == (28 : Int))) (by simp only [go_sem, Nat.reduceEqDiff, Nat.reduceAdd, Nat.reduceSub, Nat.reduceMul, Nat.reduceLeDiff, Nat.reduceLT, Nat.reduceBEq, reduceIte]) (fun hb23 => ?_) (fun hb23 => ?_)
            · have h := ifT hb23 h
              refine AW.skip ?_
              try simp only [go_sem, Nat.reduceEqDiff, Nat.reduceAdd, Nat.reduceSub, Nat.reduceMul, Nat.reduceLeDiff, Nat.reduceLT, Nat.reduceBEq, reduceIte]
              refine JoinQ.mk (p0 == (28 : Int)) [] (Option.some.inj h) (by simp only [go_sem, Nat.reduceEqDiff, Nat.reduceAdd, Nat.reduceSub, Nat.reduceMul, Nat.reduceLeDiff, Nat.reduceLT, Nat.reduceBEq, reduceIte])
            · have h := ifF hb23 h
              refine AW.one ?_
              refine AW.reg mixed (by kernel_rfl) ?_
              try simp only [go_sem, Nat.reduceEqDiff, Nat.reduceAdd, Nat.reduceSub, Nat.reduceMul, Nat.reduceLeDiff, Nat.reduceLT, Nat.reduceBEq, reduceIte]
              refine AW.cut [] [(3, .d (.val (.int .i64 p0))), (22, .d (.val (.bool (p0 == (33 : Int)))))] [] (by simp only [go_sem, Nat.reduceEqDiff, Nat.reduceAdd, Nat.reduceSub, Nat.reduceMul, Nat.reduceLeDiff, Nat.reduceLT, Nat.reduceBEq, reduceIte]) ?_
              refine AW.test (t := (p0 == (33 : Int))) (by simp only [go_sem, Nat.reduceEqDiff, Nat.reduceAdd, Nat.reduceSub, Nat.reduceMul, Nat.reduceLeDiff, Nat.reduceLT, Nat.reduceBEq, reduceIte]) (fun hb24 => ?_) (fun hb24 => ?_)
              · have h := ifT hb24 h
                refine AW.skip ?_
                try simp only [go_sem, Nat.reduceEqDiff, Nat.reduceAdd, Nat.reduceSub, Nat.reduceMul, Nat.reduceLeDiff, Nat.reduceLT, Nat.reduceBEq, reduceIte]
                refine JoinQ.mk (p0 == (33 : Int)) [] (Option.some.inj h) (by simp only [go_sem, Nat.reduceEqDiff, Nat.reduceAdd, Nat.reduceSub, Nat.reduceMul, Nat.reduceLeDiff, Nat.reduceLT, Nat.reduceBEq, reduceIte])
              · have h := ifF hb24 h
                refine AW.one ?_
                refine AW.reg mixed (by kernel_rfl) ?_
                try simp only [go_sem, Nat.reduceEqDiff, Nat.reduceAdd, Nat.reduceSub, Nat.reduceMul, Nat.reduceLeDiff, Nat.reduceLT, Nat.reduceBEq, reduceIte]
                refine AW.cut [] [(3, .d (.val (.int .i64 p0))), (22, .d (.val (.bool (p0 == (34 : Int)))))] [] (by simp only [go_sem, Nat.reduceEqDiff, Nat.reduceAdd, Nat.reduceSub, Nat.reduceMul, Nat.reduceLeDiff, Nat.reduceLT, Nat.reduceBEq, reduceIte]) ?_
                refine AW.test (t := (p0 == (34 : Int))) (by simp only [go_sem, Nat.reduceEqDiff, Nat.reduceAdd, Nat.reduceSub, Nat.reduceMul, Nat.reduceLeDiff, Nat.reduceLT, Nat.reduceBEq, reduceIte]) (fun hb25 => ?_) (fun hb25 => ?_)
                · have h := ifT hb25 h
                  refine AW.skip ?_
                  try simp only [go_sem, Nat.reduceEqDiff, Nat.reduceAdd, Nat.reduceSub, Nat.reduceMul, Nat.reduceLeDiff, Nat.reduceLT, Nat.reduceBEq, reduceIte]
                  refine JoinQ.mk (p0 == (34 : Int)) [] (Option.some.inj h) (by simp only [go_sem, Nat.reduceEqDiff, Nat.reduceAdd, Nat.reduceSub, Nat.reduceMul, Nat.reduceLeDiff, Nat.reduceLT, Nat.reduceBEq, reduceIte])
                · have h := ifF hb25 h
                  refine AW.one ?_
                  refine AW.reg mixed (by kernel_rfl) ?_
                  try simp only [go_sem, Nat.reduceEqDiff, Nat.reduceAdd, Nat.reduceSub, Nat.reduceMul, Nat.reduceLeDiff, Nat.reduceLT, Nat.reduceBEq, reduceIte]
                  refine AW.cut [] [(3, .d (.val (.int .i64 p0))), (22, .d (.val (.bool (p0 == (39 : Int)))))] [] (by simp only [go_sem, Nat.reduceEqDiff, Nat.reduceAdd, Nat.reduceSub, Nat.reduceMul, Nat.reduceLeDiff, Nat.reduceLT, Nat.reduceBEq, reduceIte]) ?_
                  refine AW.test (t := (p0 == (39 : Int))) (by simp only [go_sem, Nat.reduceEqDiff, Nat.reduceAdd, Nat.reduceSub, Nat.reduceMul, Nat.reduceLeDiff, Nat.reduceLT, Nat.reduceBEq, reduceIte]) (fun hb26 => ?_) (fun hb26 => ?_)
                  · have h := ifT hb26 h
                    refine AW.skip ?_
                    try simp only [go_sem, Nat.reduceEqDiff, Nat.reduceAdd, Nat.reduceSub, Nat.reduceMul, Nat.reduceLeDiff, Nat.reduceLT, Nat.reduceBEq, reduceIte]
                    refine JoinQ.mk (p0 == (39 : Int)) [] (Option.some.inj h) (by simp only [go_sem, Nat.reduceEqDiff, Nat.reduceAdd, Nat.reduceSub, Nat.reduceMul, Nat.reduceLeDiff, Nat.reduceLT, Nat.reduceBEq, reduceIte])
                  · have h := ifF hb26 h
                    refine AW.reg mixed (by kernel_rfl) ?_
                    try simp only [go_sem, Nat.reduceEqDiff, Nat.reduceAdd, Nat.reduceSub, Nat.reduceMul, Nat.reduceLeDiff, Nat.reduceLT, Nat.reduceBEq, reduceIte]
                    refine JoinQ.mk (p0 == (53 : Int)) [] (Option.some.inj h) (by simp only [go_sem, Nat.reduceEqDiff, Nat.reduceAdd, Nat.reduceSub, Nat.reduceMul, Nat.reduceLeDiff, Nat.reduceLT, Nat.reduceBEq, reduceIte])
          · rintro v21_0 rfl
            have h := hJ22
            try dsimp only [Out.fin] at h
            simp only [go_sem, Nat.reduceEqDiff, Nat.reduceAdd, Nat.reduceSub, Nat.reduceMul, Nat.reduceLeDiff, Nat.reduceLT, Nat.reduceBEq, reduceIte]
            refine AW.test (t := v21_0) (by simp only [go_sem, Nat.reduceEqDiff, Nat.reduceAdd, Nat.reduceSub, Nat.reduceMul, Nat.reduceLeDiff, Nat.reduceLT, Nat.reduceBEq, reduceIte]) (fun hb27 => ?_) (fun hb27 => ?_)
            · have h := ifT hb27 h
              refine AW.one ?_
              refine AW.reg mixed (by kernel_rfl) ?_
              try simp only [go_sem, Nat.reduceEqDiff, Nat.reduceAdd, Nat.reduceSub, Nat.reduceMul, Nat.reduceLeDiff, Nat.reduceLT, Nat.reduceBEq, reduceIte]
              refine AW.ret ?_
              obtain rfl := Option.some.inj h
              simp only [go_sem, Nat.reduceEqDiff, Nat.reduceAdd, Nat.reduceSub, Nat.reduceMul, Nat.reduceLeDiff, Nat.reduceLT, Nat.reduceBEq, reduceIte]
              exact .same _
            · have h := ifF hb27 h
              refine AW.one ?_
              obtain ⟨oJ29, h, hJ29⟩ := obind h
              refine AW.join (S := Bool) (fun v28_0 => [(3, .d (.val (.int .i64 p0))), (28, .d (.val (.bool v28_0)))]) (fun v28_0 => []) (fun x => x = oJ29) ?_ ?_
              · skip
                refine AW.one ?_
                refine AW.reg mixed (by kernel_rfl) ?_
                try simp only [go_sem, Nat.reduceEqDiff, Nat.reduceAdd, Nat.reduceSub, Nat.reduceMul, Nat.reduceLeDiff, Nat.reduceLT, Nat.reduceBEq, reduceIte]
                refine AW.cut [] [(3, .d (.val (.int .i64 p0))), (28, .d (.val (.bool (p0 == (29 : Int)))))] [] (by simp only [go_sem, Nat.reduceEqDiff, Nat.reduceAdd, Nat.reduceSub, Nat.reduceMul, Nat.reduceLeDiff, Nat.reduceLT, Nat.reduceBEq, reduceIte]) ?_
                refine AW.test (t := (p0 == (29 : Int))) (by simp only [go_sem, Nat.reduceEqDiff, Nat.reduceAdd, Nat.reduceSub, Nat.reduceMul, Nat.reduceLeDiff, Nat.reduceLT, Nat.reduceBEq, reduceIte]) (fun hb30 => ?_) (fun hb30 => ?_)
                · have h := ifT hb30 h
                  refine AW.skip ?_
                  try simp only [go_sem, Nat.reduceEqDiff, Nat.reduceAdd, Nat.reduceSub, Nat.reduceMul, Nat.reduceLeDiff, Nat.reduceLT, Nat.reduceBEq, reduceIte]
                  refine JoinQ.mk (p0 == (29 : Int)) [] (Option.some.inj h) (by simp only [go_sem, Nat.reduceEqDiff, Nat.reduceAdd, Nat.reduceSub, Nat.reduceMul, Nat.reduceLeDiff, Nat.reduceLT, Nat.reduceBEq, reduceIte])
                · have h := ifF hb30 h
                  refine AW.one ?_
                  refine AW.reg mixed (by kernel_rfl) ?_
                  try simp only [go_sem, Nat.reduceEqDiff, Nat.reduceAdd, Nat.reduceSub, Nat.reduceMul, Nat.reduceLeDiff, Nat.reduceLT, Nat.reduceBEq, reduceIte]
                  refine AW.cut [] [(3, .d (.val (.int .i64 p0))), (28, .d (.val (.bool (p0 == (30 : Int)))))] [] (by simp only [go_sem, Nat.reduceEqDiff, Nat.reduceAdd, Nat.reduceSub, Nat.reduceMul, Nat.reduceLeDiff, Nat.reduceLT, Nat.reduceBEq, reduceIte]) ?_
                  refine AW.test (t := (p0 == (30 : Int))) (by simp only [go_sem, Nat.reduceEqDiff, Nat.reduceAdd, Nat.reduceSub, Nat.reduceMul, Nat.reduceLeDiff, Nat.reduceLT, Nat.reduceBEq, reduceIte]) (fun hb31 => ?_) (fun hb31 => ?_)
                  · have h := ifT hb31 h
                    refine AW.skip ?_
                    try simp only [go_sem, Nat.reduceEqDiff, Nat.reduceAdd, Nat.reduceSub, Nat.reduceMul, Nat.reduceLeDiff, Nat.reduceLT, Nat.reduceBEq, reduceIte]
                    refine JoinQ.mk (p0 == (30 : Int)) [] (Option.some.inj h) (by simp only [go_sem, Nat.reduceEqDiff, Nat.reduceAdd, Nat.reduceSub, Nat.reduceMul, Nat.reduceLeDiff, Nat.reduceLT, Nat.reduceBEq, reduceIte])
                  · have h := ifF hb31 h
                    refine AW.one ?_
                    refine AW.reg mixed (by kernel_rfl) ?_
                    try simp only [go_sem, Nat.reduceEqDiff, Nat.reduceAdd, Nat.reduceSub, Nat.reduceMul, Nat.reduceLeDiff, Nat.reduceLT, Nat.reduceBEq, reduceIte]
                    refine AW.cut [] [(3, .d (.val (.int .i64 p0))), (28, .d (.val (.bool (p0 == (31 : Int)))))] [] (by simp only [go_sem, Nat.reduceEqDiff, Nat.reduceAdd, Nat.reduceSub, Nat.reduceMul, Nat.reduceLeDiff, Nat.reduceLT, Nat.reduceBEq, reduceIte]) ?_
                    refine AW.test (t := (p0 == (31 : Int))) (by simp only [go_sem, Nat.reduceEqDiff, Nat.reduceAdd, Nat.reduceSub, Nat.reduceMul, Nat.reduceLeDiff, Nat.reduceLT, Nat.reduceBEq, reduceIte]) (fun hb32 => ?_) (fun hb32 => ?_)
                    · have h := ifT hb32 h
                      refine AW.skip ?_
                      try simp only [go_sem, Nat.reduceEqDiff, Nat.reduceAdd, Nat.reduceSub, Nat.reduceMul, Nat.reduceLeDiff, Nat.reduceLT, Nat.reduceBEq, reduceIte]
                      refine JoinQ.mk (p0 == (31 : Int)) [] (Option.some.inj h) (by simp only [go_sem, Nat.reduceEqDiff, Nat.reduceAdd, Nat.reduceSub, Nat.reduceMul, Nat.reduceLeDiff, Nat.reduceLT, Nat.reduceBEq, reduceIte])
                    · have h := ifF hb32 h
                      refine AW.reg mixed (by kernel_rfl) ?_
                      try simp only [go_sem, Nat.reduceEqDiff, Nat.reduceAdd, Nat.reduceSub, Nat.reduceMul, Nat.reduceLeDiff, Nat.reduceLT, Nat.reduceBEq, reduceIte]
                      refine JoinQ.mk (p0 == (32 : Int)) [] (Option.some.inj h) (by simp only [go_sem, Nat.reduceEqDiff, Nat.reduceAdd, Nat.reduceSub, Nat.reduceMul, Nat.reduceLeDiff, Nat.reduceLT, Nat.reduceBEq, reduceIte])
              · rintro v28_0 rfl
                have h := hJ29
                try dsimp only [Out.fin] at h
                simp only [go_sem, Nat.reduceEqDiff, Nat.reduceAdd, Nat.reduceSub, Nat.reduceMul, Nat.reduceLeDiff, Nat.reduceLT, Nat.reduceBEq, reduceIte]
                refine AW.test (t := v28_0) (by simp only [go_sem, Nat.reduceEqDiff, Nat.reduceAdd, Nat.reduceSub, Nat.reduceMul, Nat.reduceLeDiff, Nat.reduceLT, Nat.reduceBEq, reduceIte]) (fun hb33 => ?_) (fun hb33 => ?_)
                · have h := ifT hb33 h
                  refine AW.one ?_
                  refine AW.reg mixed (by kernel_rfl) ?_
                  try simp only [go_sem, Nat.reduceEqDiff, Nat.reduceAdd, Nat.reduceSub, Nat.reduceMul, Nat.reduceLeDiff, Nat.reduceLT, Nat.reduceBEq, reduceIte]
                  refine AW.ret ?_
                  obtain rfl := Option.some.inj h
                  simp only [go_sem, Nat.reduceEqDiff, Nat.reduceAdd, Nat.reduceSub, Nat.reduceMul, Nat.reduceLeDiff, Nat.reduceLT, Nat.reduceBEq, reduceIte]
                  exact .same _
                · have h := ifF hb33 h
                  refine AW.one ?_
                  obtain ⟨oJ35, h, hJ35⟩ := obind h
                  refine AW.join (S := Bool) (fun v34_0 => [(3, .d (.val (.int .i64 p0))), (33, .d (.val (.bool v34_0)))]) (fun v34_0 => []) (fun x => x = oJ35) ?_ ?_
                  · skip
                    refine AW.one ?_
                    refine AW.reg mixed (by kernel_rfl) ?_
                    try simp only [go_sem, Nat.reduceEqDiff, Nat.reduceAdd, Nat.reduceSub, Nat.reduceMul, Nat.reduceLeDiff, Nat.reduceLT, Nat.reduceBEq, reduceIte]
                    refine AW.cut [] [(3, .d (.val (.int .i64 p0))), (33, .d (.val (.bool (p0 == (35 : Int)))))] [] (by simp only [go_sem, Nat.reduceEqDiff, Nat.reduceAdd, Nat.reduceSub, Nat.reduceMul, Nat.reduceLeDiff, Nat.reduceLT, Nat.reduceBEq, reduceIte]) ?_
                    refine AW.test (t := (p0 == (35 : Int))) (by simp only [go_sem, Nat.reduceEqDiff, Nat.reduceAdd, Nat.reduceSub, Nat.reduceMul, Nat.reduceLeDiff, Nat.reduceLT, Nat.reduceBEq, reduceIte]) (fun hb36 => ?_) (fun hb36 => ?_)
                    · have h := ifT hb36 h
                      refine AW.skip ?_
                      try simp only [go_sem, Nat.reduceEqDiff, Nat.reduceAdd, Nat.reduceSub, Nat.reduceMul, Nat.reduceLeDiff, Nat.reduceLT, Nat.reduceBEq, reduceIte]
                      refine JoinQ.mk (p0 == (35 : Int)) [] (Option.some.inj h) (by simp only [go_sem, Nat.reduceEqDiff, Nat.reduceAdd, Nat.reduceSub, Nat.reduceMul, Nat.reduceLeDiff, Nat.reduceLT, Nat.reduceBEq, reduceIte])
                    · have h := ifF hb36 h
                      refine AW.reg mixed (by kernel_rfl) ?_
                      try simp only [go_sem, Nat.reduceEqDiff, Nat.reduceAdd, Nat.reduceSub, Nat.reduceMul, Nat.reduceLeDiff, Nat.reduceLT, Nat.reduceBEq, reduceIte]
                      refine JoinQ.mk (p0 == (36 : Int)) [] (Option.some.inj h) (by simp only [go_sem, Nat.reduceEqDiff, Nat.reduceAdd, Nat.reduceSub, Nat.reduceMul, Nat.reduceLeDiff, Nat.reduceLT, Nat.reduceBEq, reduceIte])
                  · rintro v34_0 rfl
                    have h := hJ35
                    try dsimp only [Out.fin] at h
                    simp only [go_sem, Nat.reduceEqDiff, Nat.reduceAdd, Nat.reduceSub, Nat.reduceMul, Nat.reduceLeDiff, Nat.reduceLT, Nat.reduceBEq, reduceIte]
                    refine AW.test (t := v34_0) (by simp only [go_sem, Nat.reduceEqDiff, Nat.reduceAdd, Nat.reduceSub, Nat.reduceMul, Nat.reduceLeDiff, Nat.reduceLT, Nat.reduceBEq, reduceIte]) (fun hb37 => ?_) (fun hb37 => ?_)
                    · have h := ifT hb37 h
                      refine AW.one ?_
                      refine AW.reg mixed (by kernel_rfl) ?_
                      try simp only [go_sem, Nat.reduceEqDiff, Nat.reduceAdd, Nat.reduceSub, Nat.reduceMul, Nat.reduceLeDiff, Nat.reduceLT, Nat.reduceBEq, reduceIte]
                      refine AW.ret ?_
                      obtain rfl := Option.some.inj h
                      simp only [go_sem, Nat.reduceEqDiff, Nat.reduceAdd, Nat.reduceSub, Nat.reduceMul, Nat.reduceLeDiff, Nat.reduceLT, Nat.reduceBEq, reduceIte]
                      exact .same _
                    · have h := ifF hb37 h
                      refine AW.one ?_
                      obtain ⟨oJ39, h, hJ39⟩ := obind h
                      refine AW.join (S := Bool) (fun v38_0 => [(3, .d (.val (.int .i64 p0))), (36, .d (.val (.bool v38_0)))]) (fun v38_0 => []) (fun x => x = oJ39) ?_ ?_
                      · skip
                        refine AW.one ?_
                        refine AW.reg mixed (by kernel_rfl) ?_
                        try simp only [go_sem, Nat.reduceEqDiff, Nat.reduceAdd, Nat.reduceSub, Nat.reduceMul, Nat.reduceLeDiff, Nat.reduceLT, Nat.reduceBEq, reduceIte]
                        refine AW.cut [] [(3, .d (.val (.int .i64 p0))), (36, .d (.val (.bool (p0 == (57 : Int)))))] [] (by simp only [go_sem, Nat.reduceEqDiff, Nat.reduceAdd, Nat.reduceSub, Nat.reduceMul, Nat.reduceLeDiff, Nat.reduceLT, Nat.reduceBEq, reduceIte]) ?_
                        refine AW.test (t := (p0 == (57 : Int))) (by simp only [go_sem, Nat.reduceEqDiff, Nat.reduceAdd, Nat.reduceSub, Nat.reduceMul, Nat.reduceLeDiff, Nat.reduceLT, Nat.reduceBEq, reduceIte]) (fun hb40 => ?_) (fun hb40 => ?_)
                        · have h := ifT hb40 h
                          refine AW.skip ?_
                          try simp only [go_sem, Nat.reduceEqDiff, Nat.reduceAdd, Nat.reduceSub, Nat.reduceMul, Nat.reduceLeDiff, Nat.reduceLT, Nat.reduceBEq, reduceIte]
                          refine JoinQ.mk (p0 == (57 : Int)) [] (Option.some.inj h) (by simp only [go_sem, Nat.reduceEqDiff, Nat.reduceAdd, Nat.reduceSub, Nat.reduceMul, Nat.reduceLeDiff, Nat.reduceLT, Nat.reduceBEq, reduceIte])
                        · have h := ifF hb40 h
                          refine AW.reg mixed (by kernel_rfl) ?_
                          try simp only [go_sem, Nat.reduceEqDiff, Nat.reduceAdd, Nat.reduceSub, Nat.reduceMul, Nat.reduceLeDiff, Nat.reduceLT, Nat.reduceBEq, reduceIte]
                          refine JoinQ.mk (p0 == (58 : Int)) [] (Option.some.inj h) (by simp only [go_sem, Nat.reduceEqDiff, Nat.reduceAdd, Nat.reduceSub, Nat.reduceMul, Nat.reduceLeDiff, Nat.reduceLT, Nat.reduceBEq, reduceIte])
                      · rintro v38_0 rfl
                        have h := hJ39
                        try dsimp only [Out.fin] at h
                        simp only [go_sem, Nat.reduceEqDiff, Nat.reduceAdd, Nat.reduceSub, Nat.reduceMul, Nat.reduceLeDiff, Nat.reduceLT, Nat.reduceBEq, reduceIte]
                        refine AW.test (t := v38_0) (by simp only [go_sem, Nat.reduceEqDiff, Nat.reduceAdd, Nat.reduceSub, Nat.reduceMul, Nat.reduceLeDiff, Nat.reduceLT, Nat.reduceBEq, reduceIte]) (fun hb41 => ?_) (fun hb41 => ?_)
                        · have h := ifT hb41 h
                          refine AW.one ?_
                          refine AW.reg mixed (by kernel_rfl) ?_
                          try simp only [go_sem, Nat.reduceEqDiff, Nat.reduceAdd, Nat.reduceSub, Nat.reduceMul, Nat.reduceLeDiff, Nat.reduceLT, Nat.reduceBEq, reduceIte]
                          refine AW.ret ?_
                          obtain rfl := Option.some.inj h
                          simp only [go_sem, Nat.reduceEqDiff, Nat.reduceAdd, Nat.reduceSub, Nat.reduceMul, Nat.reduceLeDiff, Nat.reduceLT, Nat.reduceBEq, reduceIte]
                          exact .same _
                        · have h := ifF hb41 h
                          refine AW.one ?_
                          obtain ⟨oJ43, h, hJ43⟩ := obind h
                          refine AW.join (S := Bool) (fun v42_0 => [(39, .d (.val (.bool v42_0)))]) (fun v42_0 => []) (fun x => x = oJ43) ?_ ?_
                          · skip
                            refine AW.one ?_
                            refine AW.reg mixed (by kernel_rfl) ?_
                            try simp only [go_sem, Nat.reduceEqDiff, Nat.reduceAdd, Nat.reduceSub, Nat.reduceMul, Nat.reduceLeDiff, Nat.reduceLT, Nat.reduceBEq, reduceIte]
                            refine AW.cut [] [(3, .d (.val (.int .i64 p0))), (39, .d (.val (.bool (p0 == (59 : Int)))))] [] (by simp only [go_sem, Nat.reduceEqDiff, Nat.reduceAdd, Nat.reduceSub, Nat.reduceMul, Nat.reduceLeDiff, Nat.reduceLT, Nat.reduceBEq, reduceIte]) ?_
                            refine AW.test (t := (p0 == (59 : Int))) (by simp only [go_sem, Nat.reduceEqDiff, Nat.reduceAdd, Nat.reduceSub, Nat.reduceMul, Nat.reduceLeDiff, Nat.reduceLT, Nat.reduceBEq, reduceIte]) (fun hb44 => ?_) (fun hb44 => ?_)
                            · have h := ifT hb44 h
                              refine AW.skip ?_
                              try simp only [go_sem, Nat.reduceEqDiff, Nat.reduceAdd, Nat.reduceSub, Nat.reduceMul, Nat.reduceLeDiff, Nat.reduceLT, Nat.reduceBEq, reduceIte]
                              refine JoinQ.mk (p0 == (59 : Int)) [] (Option.some.inj h) (by simp only [go_sem, Nat.reduceEqDiff, Nat.reduceAdd, Nat.reduceSub, Nat.reduceMul, Nat.reduceLeDiff, Nat.reduceLT, Nat.reduceBEq, reduceIte])
                            · have h := ifF hb44 h
                              refine AW.reg mixed (by kernel_rfl) ?_
                              try simp only [go_sem, Nat.reduceEqDiff, Nat.reduceAdd, Nat.reduceSub, Nat.reduceMul, Nat.reduceLeDiff, Nat.reduceLT, Nat.reduceBEq, reduceIte]
                              refine JoinQ.mk (p0 == (60 : Int)) [] (Option.some.inj h) (by simp only [go_sem, Nat.reduceEqDiff, Nat.reduceAdd, Nat.reduceSub, Nat.reduceMul, Nat.reduceLeDiff, Nat.reduceLT, Nat.reduceBEq, reduceIte])
                          · rintro v42_0 rfl
                            have h := hJ43
                            try dsimp only [Out.fin] at h
                            simp only [go_sem, Nat.reduceEqDiff, Nat.reduceAdd, Nat.reduceSub, Nat.reduceMul, Nat.reduceLeDiff, Nat.reduceLT, Nat.reduceBEq, reduceIte]
                            refine AW.test (t := v42_0) (by simp only [go_sem, Nat.reduceEqDiff, Nat.reduceAdd, Nat.reduceSub, Nat.reduceMul, Nat.reduceLeDiff, Nat.reduceLT, Nat.reduceBEq, reduceIte]) (fun hb45 => ?_) (fun hb45 => ?_)
                            · have h := ifT hb45 h
                              refine AW.one ?_
                              refine AW.reg mixed (by kernel_rfl) ?_
                              try simp only [go_sem, Nat.reduceEqDiff, Nat.reduceAdd, Nat.reduceSub, Nat.reduceMul, Nat.reduceLeDiff, Nat.reduceLT, Nat.reduceBEq, reduceIte]
                              refine AW.ret ?_
                              obtain rfl := Option.some.inj h
                              simp only [go_sem, Nat.reduceEqDiff, Nat.reduceAdd, Nat.reduceSub, Nat.reduceMul, Nat.reduceLeDiff, Nat.reduceLT, Nat.reduceBEq, reduceIte]
                              exact .same _
                            · have h := ifF hb45 h
                              refine AW.skip ?_
                              try simp only [go_sem, Nat.reduceEqDiff, Nat.reduceAdd, Nat.reduceSub, Nat.reduceMul, Nat.reduceLeDiff, Nat.reduceLT, Nat.reduceBEq, reduceIte]
                              refine AW.cut [] [] [] (by simp only [go_sem, Nat.reduceEqDiff, Nat.reduceAdd, Nat.reduceSub, Nat.reduceMul, Nat.reduceLeDiff, Nat.reduceLT, Nat.reduceBEq, reduceIte]) ?_
                              refine AW.one ?_
                              refine AW.reg mixed (by kernel_rfl) ?_
                              try simp only [go_sem, Nat.reduceEqDiff, Nat.reduceAdd, Nat.reduceSub, Nat.reduceMul, Nat.reduceLeDiff, Nat.reduceLT, Nat.reduceBEq, reduceIte]
                              refine AW.ret ?_
                              obtain rfl := Option.some.inj h
                              simp only [go_sem, Nat.reduceEqDiff, Nat.reduceAdd, Nat.reduceSub, Nat.reduceMul, Nat.reduceLeDiff, Nat.reduceLT, Nat.reduceBEq, reduceIte]
                              exact .same _

end Go.Proofs.Ytcgphoghmgeecaa
namespace Go.Proofs.Ytcgphoghmgeecaa
open Go Go.Iso Go.Proofs
set_option linter.unusedSimpArgs false
set_option linter.unusedVariables false
set_option maxRecDepth 100000

/-! ### isochrone/isochroneref08.named -/
def r08_named (K : Nat) (p0 : Int) : Option Bool := ((
    if (p0 == (2 : Int)) then
      some (p0 == (2 : Int))
    else
      if (p0 == (3 : Int)) then
        some (p0 == (3 : Int))
      else
        if (p0 == (10 : Int)) then
          some (p0 == (10 : Int))
        else
          if (p0 == (11 : Int)) then
            some (p0 == (11 : Int))
          else
            if (p0 == (33 : Int)) then
              some (p0 == (33 : Int))
            else
              if (p0 == (34 : Int)) then
                some (p0 == (34 : Int))
              else
                if (p0 == (37 : Int)) then
                  some (p0 == (37 : Int))
                else
                  if (p0 == (38 : Int)) then
                    some (p0 == (38 : Int))
                  else
                    if (p0 == (50 : Int)) then
                      some (p0 == (50 : Int))
                    else
                      if (p0 == (51 : Int)) then
                        some (p0 == (51 : Int))
                      else
                        if (p0 == (52 : Int)) then
                          some (p0 == (52 : Int))
                        else
                          if (p0 == (55 : Int)) then
                            some (p0 == (55 : Int))
                          else
                            if (p0 == (56 : Int)) then
                              some (p0 == (56 : Int))
                            else
                              if (p0 == (61 : Int)) then
                                some (p0 == (61 : Int))
                              else
                                some (p0 == (62 : Int))) : Option Bool).bind (fun v1_0 => 
  if v1_0 then
    some true
  else
    some false)
set_option maxHeartbeats 4000000 in
theorem r08_named_ok {K : Nat} {p0 : Int} {r : Bool} (h : r08_named K p0 = some r) : Cn Try.prog 58 [.d (.val (.int .i64 p0))] (.d (.val (.bool r))) := by
  refine Cn.ofA mixed Try.func58 rfl Try.call58 Try.ntmps58 Try.results58 (by simp) (by simp only [go_sem, Nat.reduceEqDiff, Nat.reduceAdd, Nat.reduceSub, Nat.reduceMul, Nat.reduceLeDiff, Nat.reduceLT, Nat.reduceBEq, reduceIte]) fun hfit => ?_
  unfold r08_named at h
  refine AW.cut [] [(0, .d (.val (.int .i64 p0)))] [] (by simp only [go_sem, Nat.reduceEqDiff, Nat.reduceAdd, Nat.reduceSub, Nat.reduceMul, Nat.reduceLeDiff, Nat.reduceLT, Nat.reduceBEq, reduceIte]) ?_
  refine AW.one ?_
  refine AW.reg mixed (by kernel_rfl) ?_
  try simp only [go_sem, Nat.reduceEqDiff, Nat.reduceAdd, Nat.reduceSub, Nat.reduceMul, Nat.reduceLeDiff, Nat.reduceLT, Nat.reduceBEq, reduceIte]
  refine AW.cut [] [(0, .d (.val (.int .i64 p0)))] [] (by simp only [go_sem, Nat.reduceEqDiff, Nat.reduceAdd, Nat.reduceSub, Nat.reduceMul, Nat.reduceLeDiff, Nat.reduceLT, Nat.reduceBEq, reduceIte]) ?_
  refine AW.one ?_
  refine AW.one ?_
  refine AW.reg mixed (by kernel_rfl) ?_
  try simp only [go_sem, Nat.reduceEqDiff, Nat.reduceAdd, Nat.reduceSub, Nat.reduceMul, Nat.reduceLeDiff, Nat.reduceLT, Nat.reduceBEq, reduceIte]
  refine AW.cut [] [(3, .d (.val (.int .i64 p0)))] [] (by simp only [go_sem, Nat.reduceEqDiff, Nat.reduceAdd, Nat.reduceSub, Nat.reduceMul, Nat.reduceLeDiff, Nat.reduceLT, Nat.reduceBEq, reduceIte]) ?_
  refine AW.block ?_
  refine AW.one ?_
  obtain ⟨oJ2, h, hJ2⟩ := obind h
  refine AW.join (S := Bool) (fun v1_0 => [(4, .d (.val (.bool v1_0)))]) (fun v1_0 => []) (fun x => x = oJ2) ?_ ?_
  · skip
    refine AW.one ?_
    refine AW.reg mixed (by kernel_rfl) ?_
    try simp only [go_sem, Nat.reduceEqDiff, Nat.reduceAdd, Nat.reduceSub, Nat.reduceMul, Nat.reduceLeDiff, Nat.reduceLT, Nat.reduceBEq, reduceIte]
    refine AW.cut [] [(3, .d (.val (.int .i64 p0))), (4, .d (.val (.bool (p0 == (2 : Int)))))] [] (by simp only [go_sem, Nat.reduceEqDiff, Nat.reduceAdd, Nat.reduceSub, Nat.reduceMul, Nat.reduceLeDiff, Nat.reduceLT, Nat.reduceBEq, reduceIte]) ?_
    refine AW.test (t := (p0 == (2 : Int))) (by simp only [go_sem, Nat.reduceEqDiff, Nat.reduceAdd, Nat.reduceSub, Nat.reduceMul, Nat.reduceLeDiff, Nat.reduceLT, Nat.reduceBEq, reduceIte]) (fun hb3 => ?_) (fun hb3 => ?_)
    · have h := ifT hb3 h
      refine AW.skip ?_
      try simp only [go_sem, Nat.reduceEqDiff, Nat.reduceAdd, Nat.reduceSub, Nat.reduceMul, Nat.reduceLeDiff, Nat.reduceLT, Nat.reduceBEq, reduceIte]
      refine JoinQ.mk (p0 == (2 : Int)) [] (Option.some.inj h) (by simp only [go_sem, Nat.reduceEqDiff, Nat.reduceAdd, Nat.reduceSub, Nat.reduceMul, Nat.reduceLeDiff, Nat.reduceLT, Nat.reduceBEq, reduceIte])
    · have h := ifF hb3 h
      refine AW.one ?_
      refine AW.reg mixed (by kernel_rfl) ?_
      try simp only [go_sem, Nat.reduceEqDiff, Nat.reduceAdd, Nat.reduceSub, Nat.reduceMul, Nat.reduceLeDiff, Nat.reduceLT, Nat.reduceBEq, reduceIte]
      refine AW.cut [] [(3, .d (.val (.int .i64 p0))), (4, .d (.val (.bool (p0 == (3 : Int)))))] [] (by simp only [go_sem, Nat.reduceEqDiff, Nat.reduceAdd, Nat.reduceSub, Nat.reduceMul, Nat.reduceLeDiff, Nat.reduceLT, Nat.reduceBEq, reduceIte]) ?_
      refine AW.test (t := (p0 == (3 : Int))) (by simp only [go_sem, Nat.reduceEqDiff, Nat.reduceAdd, Nat.reduceSub, Nat.reduceMul, Nat.reduceLeDiff, Nat.reduceLT, Nat.reduceBEq, reduceIte]) (fun hb4 => ?_) (fun hb4 => ?_)
      · have h := ifT hb4 h
        refine AW.skip ?_
        try simp only [go_sem, Nat.reduceEqDiff, Nat.reduceAdd, Nat.reduceSub, Nat.reduceMul, Nat.reduceLeDiff, Nat.reduceLT, Nat.reduceBEq, reduceIte]
        refine JoinQ.mk (p0 == (3 : Int)) [] (Option.some.inj h) (by simp only [go_sem, Nat.reduceEqDiff, Nat.reduceAdd, Nat.reduceSub, Nat.reduceMul, Nat.reduceLeDiff, Nat.reduceLT, Nat.reduceBEq, reduceIte])
      · have h := ifF hb4 h
        refine AW.one ?_
        refine AW.reg mixed (by kernel_rfl) ?_
        try simp only [go_sem, Nat.reduceEqDiff, Nat.reduceAdd, Nat.reduceSub, Nat.reduceMul, Nat.reduceLeDiff, Nat.reduceLT, Nat.reduceBEq, reduceIte]
        refine AW.cut [] [(3, .d (.val (.int .i64 p0))), (4, .d (.val (.bool (p0 == (10 : Int)))))] [] (by simp only [go_sem, Nat.reduceEqDiff, Nat.reduceAdd, Nat.reduceSub, Nat.reduceMul, Nat.reduceLeDiff, Nat.reduceLT, Nat.reduceBEq, reduceIte]) ?_
        refine AW.test (t := (p0 == (10 : Int))) (by simp only [go_sem, Nat.reduceEqDiff, Nat.reduceAdd, Nat.reduceSub, Nat.reduceMul, Nat.reduceLeDiff, Nat.reduceLT, Nat.reduceBEq, reduceIte]) (fun hb5 => ?_) (fun hb5 => ?_)
        · have h := ifT hb5 h
          refine AW.skip ?_
          try simp only [go_sem, Nat.reduceEqDiff, Nat.reduceAdd, Nat.reduceSub, Nat.reduceMul, Nat.reduceLeDiff, Nat.reduceLT, Nat.reduceBEq, reduceIte]
          refine JoinQ.mk (p0 == (10 : Int)) [] (Option.some.inj h) (by simp only [go_sem, Nat.reduceEqDiff, Nat.reduceAdd, Nat.reduceSub, Nat.reduceMul, Nat.reduceLeDiff, Nat.reduceLT, Nat.reduceBEq, reduceIte])
        · have h := ifF hb5 h
          refine AW.one ?_
          refine AW.reg mixed (by kernel_rfl) ?_
          try simp only [go_sem, Nat.reduceEqDiff, Nat.reduceAdd, Nat.reduceSub, Nat.reduceMul, Nat.reduceLeDiff, Nat.reduceLT, Nat.reduceBEq, reduceIte]
          refine AW.cut [] [(3, .d (.val (.int .i64 p0))), (4, .d (.val (.bool (p0 == (11 : Int)))))] [] (by simp only [go_sem, Nat.reduceEqDiff, Nat.reduceAdd, Nat.reduceSub, Nat.reduceMul, Nat.reduceLeDiff, Nat.reduceLT, Nat.reduceBEq, reduceIte]) ?_
          refine AW.test (t := (p0 == (11 : Int))) (by simp only [go_sem, Nat.reduceEqDiff, Nat.reduceAdd, Nat.reduceSub, Nat.reduceMul, Nat.reduceLeDiff, Nat.reduceLT, Nat.reduceBEq, reduceIte]) (fun hb6 => ?_) (fun hb6 => ?_)
          · have h := ifT hb6 h
            refine AW.skip ?_
            try simp only [go_sem, Nat.reduceEqDiff, Nat.reduceAdd, Nat.reduceSub, Nat.reduceMul, Nat.reduceLeDiff, Nat.reduceLT, Nat.reduceBEq, reduceIte]
            refine JoinQ.mk (p0 == (11 : Int)) [] (Option.some.inj h) (by simp only [go_sem, Nat.reduceEqDiff, Nat.reduceAdd, Nat.reduceSub, Nat.reduceMul, Nat.reduceLeDiff, Nat.reduceLT, Nat.reduceBEq, reduceIte])
          · have h := ifF hb6 h
            refine AW.one ?_
            refine AW.reg mixed (by kernel_rfl) ?_
            try simp only [go_sem, Nat.reduceEqDiff, Nat.reduceAdd, Nat.reduceSub, Nat.reduceMul, Nat.reduceLeDiff, Nat.reduceLT, Nat.reduceBEq, reduceIte]
            refine AW.cut [] [(3, .d (.val (.int .i64 p0))), (4, .d (.val (.bool (p0 == (33 : Int)))))] [] (by simp only [go_sem, Nat.reduceEqDiff, Nat.reduceAdd, Nat.reduceSub, Nat.reduceMul, Nat.reduceLeDiff, Nat.reduceLT, Nat.reduceBEq, reduceIte]) ?_
            refine AW.test (t := (p0 == (33 : Int))) (by simp only [go_sem, Nat.reduceEqDiff, Nat.reduceAdd, Nat.reduceSub, Nat.reduceMul, Nat.reduceLeDiff, Nat.reduceLT, Nat.reduceBEq, reduceIte]) (fun hb7 => ?_) (fun hb7 => ?_)
            · have h := ifT hb7 h
              refine AW.skip ?_
              try simp only [go_sem, Nat.reduceEqDiff, Nat.reduceAdd, Nat.reduceSub, Nat.reduceMul, Nat.reduceLeDiff, Nat.reduceLT, Nat.reduceBEq, reduceIte]
              refine JoinQ.mk (p0 == (33 : Int)) [] (Option.some.inj h) (by simp only [go_sem, Nat.reduceEqDiff, Nat.reduceAdd, Nat.reduceSub, Nat.reduceMul, Nat.reduceLeDiff, Nat.reduceLT, Nat.reduceBEq, reduceIte])
            · have h := ifF hb7 h
              refine AW.one ?_
              refine AW.reg mixed (by kernel_rfl) ?_
              try simp only [go_sem, Nat.reduceEqDiff, Nat.reduceAdd, Nat.reduceSub, Nat.reduceMul, Nat.reduceLeDiff, Nat.reduceLT, Nat.reduceBEq, reduceIte]
              refine AW.cut [] [(3, .d (.val (.int .i64 p0))), (4, .d (.val (.bool (p0 == (34 : Int)))))] [] (by simp only [go_sem, Nat.reduceEqDiff, Nat.reduceAdd, Nat.reduceSub, Nat.reduceMul, Nat.reduceLeDiff, Nat.reduceLT, Nat.reduceBEq, reduceIte]) ?_
              refine AW.test (t := (p0 == (34 : Int))) (by simp only [go_sem, Nat.reduceEqDiff, Nat.reduceAdd, Nat.reduceSub, Nat.reduceMul, Nat.reduceLeDiff, Nat.reduceLT, Nat.reduceBEq, reduceIte]) (fun hb8 => ?_) (fun hb8 => ?_)
              · have h := ifT hb8 h
                refine AW.skip ?_
                try simp only [go_sem, Nat.reduceEqDiff, Nat.reduceAdd, Nat.reduceSub, Nat.reduceMul, Nat.reduceLeDiff, Nat.reduceLT, Nat.reduceBEq, reduceIte]
                refine JoinQ.mk (p0 == (34 : Int)) [] (Option.some.inj h) (by simp only [go_sem, Nat.reduceEqDiff, Nat.reduceAdd, Nat.reduceSub, Nat.reduceMul, Nat.reduceLeDiff, Nat.reduceLT, Nat.reduceBEq, reduceIte])
              · have h := ifF hb8 h
                refine AW.one ?_
                refine AW.reg mixed (by kernel_rfl) ?_
                try simp only [go_sem, Nat.reduceEqDiff, Nat.reduceAdd, Nat.reduceSub, Nat.reduceMul, Nat.reduceLeDiff, Nat.reduceLT, Nat.reduceBEq, reduceIte]
                refine AW.cut [] [(3, .d (.val (.int .i64 p0))), (4, .d (.val (.bool (p0 == (37 : Int)))))] [] (by simp only [go_sem, Nat.reduceEqDiff, Nat.reduceAdd, Nat.reduceSub, Nat.reduceMul, Nat.reduceLeDiff, Nat.reduceLT, Nat.reduceBEq, reduceIte]) ?_
                refine AW.test (t := (p0 == (37 : Int))) (by simp only [go_sem, Nat.reduceEqDiff, Nat.reduceAdd, Nat.reduceSub, Nat.reduceMul, Nat.reduceLeDiff, Nat.reduceLT, Nat.reduceBEq, reduceIte]) (fun hb9 => ?_) (fun hb9 => ?_)
                · have h := ifT hb9 h
                  refine AW.skip ?_
                  try simp only [go_sem, Nat.reduceEqDiff, Nat.reduceAdd, Nat.reduceSub, Nat.reduceMul, Nat.reduceLeDiff, Nat.reduceLT, Nat.reduceBEq, reduceIte]
                  refine JoinQ.mk (p0 == (37 : Int)) [] (Option.some.inj h) (by simp only [go_sem, Nat.reduceEqDiff, Nat.reduceAdd, Nat.reduceSub, Nat.reduceMul, Nat.reduceLeDiff, Nat.reduceLT, Nat.reduceBEq, reduceIte])
                · have h := ifF hb9 h
                  refine AW.one ?_
                  refine AW.reg mixed (by kernel_rfl) ?_
                  try simp only [go_sem, Nat.reduceEqDiff, Nat.reduceAdd, Nat.reduceSub, Nat.reduceMul, Nat.reduceLeDiff, Nat.reduceLT, Nat.reduceBEq, reduceIte]
                  refine AW.cut [] [(3, .d (.val (.int .i64 p0))), (4, .d (.val (.bool (p0 == (38 : Int)))))] [] (by simp only [go_sem, Nat.reduceEqDiff, Nat.reduceAdd, Nat.reduceSub, Nat.reduceMul, Nat.reduceLeDiff, Nat.reduceLT, Nat.reduceBEq, reduceIte]) ?_
                  refine AW.test (t := (p0 == (38 : Int))) (by simp only [go_sem, Nat.reduceEqDiff, Nat.reduceAdd, Nat.reduceSub, Nat.reduceMul, Nat.reduceLeDiff, Nat.reduceLT, Nat.reduceBEq, reduceIte]) (fun hb10 => ?_) (fun hb10 => ?_)
                  · have h := ifT hb10 h
                    refine AW.skip ?_
                    try simp only [go_sem, Nat.reduceEqDiff, Nat.reduceAdd, Nat.reduceSub, Nat.reduceMul, Nat.reduceLeDiff, Nat.reduceLT, Nat.reduceBEq, reduceIte]
                    refine JoinQ.mk (p0 == (38 : Int)) [] (Option.some.inj h) (by simp only [go_sem, Nat.reduceEqDiff, Nat.reduceAdd, Nat.reduceSub, Nat.reduceMul, Nat.reduceLeDiff, Nat.reduceLT, Nat.reduceBEq, reduceIte])
                  · have h := ifF hb10 h
                    refine AW.one ?_
                    refine AW.reg mixed (by kernel_rfl) ?_
                    try simp only [go_sem, Nat.reduceEqDiff, Nat.reduceAdd, Nat.reduceSub, Nat.reduceMul, Nat.reduceLeDiff, Nat.reduceLT, Nat.reduceBEq, reduceIte]
                    refine AW.cut [] [(3, .d (.val (.int .i64 p0))), (4, .d (.val (.bool (p0 == (50 : Int)))))] [] (by simp only [go_sem, Nat.reduceEqDiff, Nat.reduceAdd, Nat.reduceSub, Nat.reduceMul, Nat.reduceLeDiff, Nat.reduceLT, Nat.reduceBEq, reduceIte]) ?_
                    refine AW.test (t := (p0 == (50 : Int))) (by simp only [go_sem, Nat.reduceEqDiff, Nat.reduceAdd, Nat.reduceSub, Nat.reduceMul, Nat.reduceLeDiff, Nat.reduceLT, Nat.reduceBEq, reduceIte]) (fun hb11 => ?_) (fun hb11 => ?_)
                    · have h := ifT hb11 h
                      refine AW.skip ?_
                      try simp only [go_sem, Nat.reduceEqDiff, Nat.reduceAdd, Nat.reduceSub, Nat.reduceMul, Nat.reduceLeDiff, Nat.reduceLT, Nat.reduceBEq, reduceIte]
                      refine JoinQ.mk (p0 == (50 : Int)) [] (Option.some.inj h) (by simp only [go_sem, Nat.reduceEqDiff, Nat.reduceAdd, Nat.reduceSub, Nat.reduceMul, Nat.reduceLeDiff, Nat.reduceLT, Nat.reduceBEq, reduceIte])
                    · have h := ifF hb11 h
                      refine AW.one ?_
                      refine AW.reg mixed (by kernel_rfl) ?_
                      try simp only [go_sem, Nat.reduceEqDiff, Nat.reduceAdd, Nat.reduceSub, Nat.reduceMul, Nat.reduceLeDiff, Nat.reduceLT, Nat.reduceBEq, reduceIte]
                      refine AW.cut [] [(3, .d (.val (.int .i64 p0))), (4, .d (.val (.bool (p0 == (51 : Int)))))] [] (by simp only [go_sem, Nat.reduceEqDiff, Nat.reduceAdd, Nat.reduceSub, Nat.reduceMul, Nat.reduceLeDiff, Nat.reduceLT, Nat.reduceBEq, reduceIte]) ?_
                      refine AW.test (t := (p0 == (51 : Int))) (by simp only [go_sem, Nat.reduceEqDiff, Nat.reduceAdd, Nat.reduceSub, Nat.reduceMul, Nat.reduceLeDiff, Nat.reduceLT, Nat.reduceBEq, reduceIte]) (fun hb12 => ?_) (fun hb12 => ?_)
                      · have h := ifT hb12 h
                        refine AW.skip ?_
                        try simp only [go_sem, Nat.reduceEqDiff, Nat.reduceAdd, Nat.reduceSub, Nat.reduceMul, Nat.reduceLeDiff, Nat.reduceLT, Nat.reduceBEq, reduceIte]
                        refine JoinQ.mk (p0 == (51 : Int)) [] (Option.some.inj h) (by simp only [go_sem, Nat.reduceEqDiff, Nat.reduceAdd, Nat.reduceSub, Nat.reduceMul, Nat.reduceLeDiff, Nat.reduceLT, Nat.reduceBEq, reduceIte])
                      · have h := ifF hb12 h
                        refine AW.one ?_
                        refine AW.reg mixed (by kernel_rfl) ?_
                        try simp only [go_sem, Nat.reduceEqDiff, Nat.reduceAdd, Nat.reduceSub, Nat.reduceMul, Nat.reduceLeDiff, Nat.reduceLT, Nat.reduceBEq, reduceIte]
                        refine AW.cut [] [(3, .d (.val (.int .i64 p0))), (4, .d (.val (.bool (p0 == (52 : Int)))))] [] (by simp only [go_sem, Nat.reduceEqDiff, Nat.reduceAdd, Nat.reduceSub, Nat.reduceMul, Nat.reduceLeDiff, Nat.reduceLT, Nat.reduceBEq, reduceIte]) ?_
                        refine AW.test (t := (p0 == (52 : Int))) (by simp only [go_sem, Nat.reduceEqDiff, Nat.reduceAdd, Nat.reduceSub, Nat.reduceMul, Nat.reduceLeDiff, Nat.reduceLT, Nat.reduceBEq, reduceIte]) (fun hb13 => ?_) (fun hb13 => ?_)
                        · have h := ifT hb13 h
                          refine AW.skip ?_
                          try simp only [go_sem, Nat.reduceEqDiff, Nat.reduceAdd, Nat.reduceSub, Nat.reduceMul, Nat.reduceLeDiff, Nat.reduceLT, Nat.reduceBEq, reduceIte]
                          refine JoinQ.mk (p0 == (52 : Int)) [] (Option.some.inj h) (by simp only [go_sem, Nat.reduceEqDiff, Nat.reduceAdd, Nat.reduceSub, Nat.reduceMul, Nat.reduceLeDiff, Nat.reduceLT, Nat.reduceBEq, reduceIte])
                        · have h := ifF hb13 h
                          refine AW.one ?_
                          refine AW.reg mixed (by kernel_rfl) ?_
                          try simp only [go_sem, Nat.reduceEqDiff, Nat.reduceAdd, Nat.reduceSub, Nat.reduceMul, Nat.reduceLeDiff, Nat.reduceLT, Nat.reduceBEq, reduceIte]
                          refine AW.cut [] [(3, .d (.val (.int .i64 p0))), (4, .d (.val (.bool (p0 == (55 : Int)))))] [] (by simp only [go_sem, Nat.reduceEqDiff, Nat.reduceAdd, Nat.reduceSub, Nat.reduceMul, Nat.reduceLeDiff, Nat.reduceLT, Nat.reduceBEq, reduceIte]) ?_
                          refine AW.test (t := (p0 == (55 : Int))) (by simp only [go_sem, Nat.reduceEqDiff, Nat.reduceAdd, Nat.reduceSub, Nat.reduceMul, Nat.reduceLeDiff, Nat.reduceLT, Nat.reduceBEq, reduceIte]) (fun hb14 => ?_) (fun hb14 => ?_)
                          · have h := ifT hb14 h
                            refine AW.skip ?_
                            try simp only [go_sem, Nat.reduceEqDiff, Nat.reduceAdd, Nat.reduceSub, Nat.reduceMul, Nat.reduceLeDiff, Nat.reduceLT, Nat.reduceBEq, reduceIte]
                            refine JoinQ.mk (p0 == (55 : Int)) [] (Option.some.inj h) (by simp only [go_sem, Nat.reduceEqDiff, Nat.reduceAdd, Nat.reduceSub, Nat.reduceMul, Nat.reduceLeDiff, Nat.reduceLT, Nat.reduceBEq, reduceIte])
                          · have h := ifF hb14 h
                            refine AW.one ?_
                            refine AW.reg mixed (by kernel_rfl) ?_
                            try simp only [go_sem, Nat.reduceEqDiff, Nat.reduceAdd, Nat.reduceSub, Nat.reduceMul, Nat.reduceLeDiff, Nat.reduceLT, Nat.reduceBEq, reduceIte]
                            refine AW.cut [] [(3, .d (.val (.int .i64 p0))), (4, .d (.val (.bool (p0 == (56 : Int)))))] [] (by simp only [go_sem, Nat.reduceEqDiff, Nat.reduceAdd, Nat.reduceSub, Nat.reduceMul, Nat.reduceLeDiff, Nat.reduceLT, Nat.reduceBEq, reduceIte]) ?_
                            refine AW.test (t := (p0 == (56 : Int))) (by simp only [go_sem, Nat.reduceEqDiff, Nat.reduceAdd, Nat.reduceSub, Nat.reduceMul, Nat.reduceLeDiff, Nat.reduceLT, Nat.reduceBEq, reduceIte]) (fun hb15 => ?_) (fun hb15 => ?_)
                            · have h := ifT hb15 h
                              refine AW.skip ?_
                              try simp only [go_sem, Nat.reduceEqDiff, Nat.reduceAdd, Nat.reduceSub, Nat.reduceMul, Nat.reduceLeDiff, Nat.reduceLT, Nat.reduceBEq, reduceIte]
                              refine JoinQ.mk (p0 == (56 : Int)) [] (Option.some.inj h) (by simp only [go_sem, Nat.reduceEqDiff, Nat.reduceAdd, Nat.reduceSub, Nat.reduceMul, Nat.reduceLeDiff, Nat.reduceLT, Nat.reduceBEq, reduceIte])
                            · have h := ifF hb15 h
                              refine AW.one ?_
                              refine AW.reg mixed (by kernel_rfl) ?_
                              try simp only [go_sem, Nat.reduceEqDiff, Nat.reduceAdd, Nat.reduceSub, Nat.reduceMul, Nat.reduceLeDiff, Nat.reduceLT, Nat.reduceBEq, reduceIte]
                              refine AW.cut [] [(3, .d (.val (.int .i64 p0))), (4, .d (.val (.bool (p0 == (61 : Int)))))] [] (by simp only [go_sem, Nat.reduceEqDiff, Nat.reduceAdd, Nat.reduceSub, Nat.reduceMul, Nat.reduceLeDiff, Nat.reduceLT, Nat.reduceBEq, reduceIte]) ?_
                              refine AW.test (t := (p0 == (61 : Int))) (by simp only [go_sem, Nat.reduceEqDiff, Nat.reduceAdd, Nat.reduceSub, Nat.reduceMul, Nat.reduceLeDiff, Nat.reduceLT, Nat.reduceBEq, reduceIte]) (fun hb16 => ?_) (fun hb16 => ?_)
                              · have h := ifT hb16 h
                                refine AW.skip ?_
                                try simp only [go_sem, Nat.reduceEqDiff, Nat.reduceAdd, Nat.reduceSub, Nat.reduceMul, Nat.reduceLeDiff, Nat.reduceLT, Nat.reduceBEq, reduceIte]
                                refine JoinQ.mk (p0 == (61 : Int)) [] (Option.some.inj h) (by simp only [go_sem, Nat.reduceEqDiff, Nat.reduceAdd, Nat.reduceSub, Nat.reduceMul, Nat.reduceLeDiff, Nat.reduceLT, Nat.reduceBEq, reduceIte])
                              · have h := ifF hb16 h
                                refine AW.reg mixed (by kernel_rfl) ?_
                                try simp only [go_sem, Nat.reduceEqDiff, Nat.reduceAdd, Nat.reduceSub, Nat.reduceMul, Nat.reduceLeDiff, Nat.reduceLT, Nat.reduceBEq, reduceIte]
                                refine JoinQ.mk (p0 == (62 : Int)) [] (Option.some.inj h) (by simp only [go_sem, Nat.reduceEqDiff, Nat.reduceAdd, Nat.reduceSub, Nat.reduceMul, Nat.reduceLeDiff, Nat.reduceLT, Nat.reduceBEq, reduceIte])
  · rintro v1_0 rfl
    have h := hJ2
    try dsimp only [Out.fin] at h
    simp only [go_sem, Nat.reduceEqDiff, Nat.reduceAdd, Nat.reduceSub, Nat.reduceMul, Nat.reduceLeDiff, Nat.reduceLT, Nat.reduceBEq, reduceIte]
    refine AW.test (t := v1_0) (by simp only [go_sem, Nat.reduceEqDiff, Nat.reduceAdd, Nat.reduceSub, Nat.reduceMul, Nat.reduceLeDiff, Nat.reduceLT, Nat.reduceBEq, reduceIte]) (fun hb17 => ?_) (fun hb17 => ?_)
    · have h := ifT hb17 h
      refine AW.one ?_
      refine AW.reg mixed (by kernel_rfl) ?_
      try simp only [go_sem, Nat.reduceEqDiff, Nat.reduceAdd, Nat.reduceSub, Nat.reduceMul, Nat.reduceLeDiff, Nat.reduceLT, Nat.reduceBEq, reduceIte]
      refine AW.ret ?_
      obtain rfl := Option.some.inj h
      simp only [go_sem, Nat.reduceEqDiff, Nat.reduceAdd, Nat.reduceSub, Nat.reduceMul, Nat.reduceLeDiff, Nat.reduceLT, Nat.reduceBEq, reduceIte]
      exact .same _
    · have h := ifF hb17 h
      refine AW.skip ?_
      try simp only [go_sem, Nat.reduceEqDiff, Nat.reduceAdd, Nat.reduceSub, Nat.reduceMul, Nat.reduceLeDiff, Nat.reduceLT, Nat.reduceBEq, reduceIte]
      refine AW.cut [] [] [] (by simp only [go_sem, Nat.reduceEqDiff, Nat.reduceAdd, Nat.reduceSub, Nat.reduceMul, Nat.reduceLeDiff, Nat.reduceLT, Nat.reduceBEq, reduceIte]) ?_
      refine AW.one ?_
      refine AW.reg mixed (by kernel_rfl) ?_
      try simp only [go_sem, Nat.reduceEqDiff, Nat.reduceAdd, Nat.reduceSub, Nat.reduceMul, Nat.reduceLeDiff, Nat.reduceLT, Nat.reduceBEq, reduceIte]
      refine AW.ret ?_
      obtain rfl := Option.some.inj h
      simp only [go_sem, Nat.reduceEqDiff, Nat.reduceAdd, Nat.reduceSub, Nat.reduceMul, Nat.reduceLeDiff, Nat.reduceLT, Nat.reduceBEq, reduceIte]
      exact .same _

end Go.Proofs.Ytcgphoghmgeecaa
namespace Go.Proofs.Ytcgphoghmgeecaa
open Go Go.Iso Go.Proofs
set_option linter.unusedSimpArgs false
set_option linter.unusedVariables false
set_option maxRecDepth 100000

/-! ### isochrone/isochroneref08.natural -/
def r08_natural (K : Nat) (p0 : RatA) : Option Bool := ((
    ((
      if p0.neg then
        some true
      else
        if ((p0.den.length : Int) != (1 : Int)) then
          some true
        else
          (idx p0.den (0 : Int)).bind fun x7 => 
          if (x7 != (1 : Int)) then
            some true
          else
            some (decide ((20 : Int) < (p0.num.length : Int)))) : Option Bool).bind (fun v3_0 => 
    if v3_0 then
      outM (
        some false)
    else
      some (.go ()))) : Option (Out Unit _)).bind (Out.fin fun _ => 
  if ((p0.num.length : Int) == (0 : Int)) then
    some true
  else
    (idx p0.num (IntKind.wrap .i64 ((p0.num.length : Int) - (1 : Int)))).bind fun x12 => 
    some (x12 != (0 : Int)))
set_option maxHeartbeats 4000000 in
theorem r08_natural_ok {K : Nat} {p0 : RatA} {r : Bool} (h : r08_natural K p0 = some r) : Cn Try.prog 59 [aggV p0.enc] (.d (.val (.bool r))) := by
  refine Cn.ofA mixed Try.func59 rfl Try.call59 Try.ntmps59 Try.results59 (by simp) (by simp only [go_sem, Nat.reduceEqDiff, Nat.reduceAdd, Nat.reduceSub, Nat.reduceMul, Nat.reduceLeDiff, Nat.reduceLT, Nat.reduceBEq, reduceIte]) fun hfit => ?_
  unfold r08_natural at h
  refine AW.cut [] [(0, .agg [.d (.val (.bool p0.neg)), .d (slD u32V p0.num), .d (slD u32V p0.den)])] [] (by simp only [go_sem, Nat.reduceEqDiff, Nat.reduceAdd, Nat.reduceSub, Nat.reduceMul, Nat.reduceLeDiff, Nat.reduceLT, Nat.reduceBEq, reduceIte]) ?_
  refine AW.one ?_
  refine AW.reg mixed (by kernel_rfl) ?_
  try simp only [go_sem, Nat.reduceEqDiff, Nat.reduceAdd, Nat.reduceSub, Nat.reduceMul, Nat.reduceLeDiff, Nat.reduceLT, Nat.reduceBEq, reduceIte]
  refine AW.cut [0] [(1, .ptr 0 3 0 0)] [some ⟨3, [[.d (.val (.bool p0.neg)), .d (slD u32V p0.num), .d (slD u32V p0.den)]]⟩] (by simp only [go_sem, Nat.reduceEqDiff, Nat.reduceAdd, Nat.reduceSub, Nat.reduceMul, Nat.reduceLeDiff, Nat.reduceLT, Nat.reduceBEq, reduceIte]) ?_
  refine AW.one ?_
  obtain ⟨oJ2, h, hJ2⟩ := obind h
  refine AW.join (S := Unit) (fun _ => [(1, .ptr 0 3 0 0)]) (fun _ => [some ⟨3, [[.d (.val (.bool p0.neg)), .d (slD u32V p0.num), .d (slD u32V p0.den)]]⟩]) (fun x => oJ2 = .go x) ?_ ?_
  · skip
    refine AW.one ?_
    obtain ⟨oJ4, h, hJ4⟩ := obind h
    refine AW.join (S := Bool) (fun v3_0 => [(1, .ptr 0 3 0 0), (23, .d (.val (.bool v3_0)))]) (fun v3_0 => [some ⟨3, [[.d (.val (.bool p0.neg)), .d (slD u32V p0.num), .d (slD u32V p0.den)]]⟩]) (fun x => x = oJ4) ?_ ?_
    · skip
      refine AW.reg mixed (by kernel_rfl) ?_
      try simp only [go_sem, Nat.reduceEqDiff, Nat.reduceAdd, Nat.reduceSub, Nat.reduceMul, Nat.reduceLeDiff, Nat.reduceLT, Nat.reduceBEq, reduceIte]
      refine splitK_intro (fun hb5 => ?_) (fun hb5 => ?_)
      · have h := ifT hb5 h
        try simp only [go_sem, Nat.reduceEqDiff, Nat.reduceAdd, Nat.reduceSub, Nat.reduceMul, Nat.reduceLeDiff, Nat.reduceLT, Nat.reduceBEq, reduceIte, hb5]
        refine JoinQ.mk true [0] (Option.some.inj h) (by simp only [go_sem, Nat.reduceEqDiff, Nat.reduceAdd, Nat.reduceSub, Nat.reduceMul, Nat.reduceLeDiff, Nat.reduceLT, Nat.reduceBEq, reduceIte, hb5])
      · have h := ifF hb5 h
        try simp only [go_sem, Nat.reduceEqDiff, Nat.reduceAdd, Nat.reduceSub, Nat.reduceMul, Nat.reduceLeDiff, Nat.reduceLT, Nat.reduceBEq, reduceIte, hb5]
        refine splitK_intro (fun hb6 => ?_) (fun hb6 => ?_)
        · have h := ifT hb6 h
          try simp only [go_sem, Nat.reduceEqDiff, Nat.reduceAdd, Nat.reduceSub, Nat.reduceMul, Nat.reduceLeDiff, Nat.reduceLT, Nat.reduceBEq, reduceIte, hb5, hb6]
          refine JoinQ.mk true [0] (Option.some.inj h) (by simp only [go_sem, Nat.reduceEqDiff, Nat.reduceAdd, Nat.reduceSub, Nat.reduceMul, Nat.reduceLeDiff, Nat.reduceLT, Nat.reduceBEq, reduceIte, hb5, hb6])
        · have h := ifF hb6 h
          obtain ⟨x7, hx8, h⟩ := obind h
          try simp only [go_sem, Nat.reduceEqDiff, Nat.reduceAdd, Nat.reduceSub, Nat.reduceMul, Nat.reduceLeDiff, Nat.reduceLT, Nat.reduceBEq, reduceIte, hb5, hb6, (idx_some hx8).1, (idx_some hx8).2]
          refine splitK_intro (fun hb9 => ?_) (fun hb9 => ?_)
          · have h := ifT hb9 h
            try simp only [go_sem, Nat.reduceEqDiff, Nat.reduceAdd, Nat.reduceSub, Nat.reduceMul, Nat.reduceLeDiff, Nat.reduceLT, Nat.reduceBEq, reduceIte, hb5, hb6, (idx_some hx8).1, (idx_some hx8).2, hb9]
            refine JoinQ.mk true [0] (Option.some.inj h) (by simp only [go_sem, Nat.reduceEqDiff, Nat.reduceAdd, Nat.reduceSub, Nat.reduceMul, Nat.reduceLeDiff, Nat.reduceLT, Nat.reduceBEq, reduceIte, hb5, hb6, (idx_some hx8).1, (idx_some hx8).2, hb9])
          · have h := ifF hb9 h
            try simp only [go_sem, Nat.reduceEqDiff, Nat.reduceAdd, Nat.reduceSub, Nat.reduceMul, Nat.reduceLeDiff, Nat.reduceLT, Nat.reduceBEq, reduceIte, hb5, hb6, (idx_some hx8).1, (idx_some hx8).2, hb9]
            refine JoinQ.mk (decide ((20 : Int) < (p0.num.length : Int))) [0] (Option.some.inj h) (by simp only [go_sem, Nat.reduceEqDiff, Nat.reduceAdd, Nat.reduceSub, Nat.reduceMul, Nat.reduceLeDiff, Nat.reduceLT, Nat.reduceBEq, reduceIte, hb5, hb6, (idx_some hx8).1, (idx_some hx8).2, hb9])
    · rintro v3_0 rfl
      have h := hJ4
      try dsimp only [Out.fin] at h
      simp only [go_sem, Nat.reduceEqDiff, Nat.reduceAdd, Nat.reduceSub, Nat.reduceMul, Nat.reduceLeDiff, Nat.reduceLT, Nat.reduceBEq, reduceIte]
      refine AW.test (t := v3_0) (by simp only [go_sem, Nat.reduceEqDiff, Nat.reduceAdd, Nat.reduceSub, Nat.reduceMul, Nat.reduceLeDiff, Nat.reduceLT, Nat.reduceBEq, reduceIte]) (fun hb10 => ?_) (fun hb10 => ?_)
      · have h := ifT hb10 h
        refine AW.one ?_
        refine AW.reg mixed (by kernel_rfl) ?_
        try simp only [go_sem, Nat.reduceEqDiff, Nat.reduceAdd, Nat.reduceSub, Nat.reduceMul, Nat.reduceLeDiff, Nat.reduceLT, Nat.reduceBEq, reduceIte]
        refine AW.ret ?_
        obtain ⟨_, h, ho⟩ := outM_some h
        rw [ho, Out.fin_out] at hJ2
        have h := h.trans hJ2
        obtain rfl := Option.some.inj h
        simp only [go_sem, Nat.reduceEqDiff, Nat.reduceAdd, Nat.reduceSub, Nat.reduceMul, Nat.reduceLeDiff, Nat.reduceLT, Nat.reduceBEq, reduceIte]
        exact .same _
      · have h := ifF hb10 h
        refine AW.skip ?_
        try simp only [go_sem, Nat.reduceEqDiff, Nat.reduceAdd, Nat.reduceSub, Nat.reduceMul, Nat.reduceLeDiff, Nat.reduceLT, Nat.reduceBEq, reduceIte]
        refine JoinQ.mk () [0] (Option.some.inj h).symm (by simp only [go_sem, Nat.reduceEqDiff, Nat.reduceAdd, Nat.reduceSub, Nat.reduceMul, Nat.reduceLeDiff, Nat.reduceLT, Nat.reduceBEq, reduceIte])
  · rintro ⟨⟩ rfl
    have h := hJ2
    try dsimp only [Out.fin] at h
    simp only [go_sem, Nat.reduceEqDiff, Nat.reduceAdd, Nat.reduceSub, Nat.reduceMul, Nat.reduceLeDiff, Nat.reduceLT, Nat.reduceBEq, reduceIte]
    refine AW.one ?_
    refine AW.reg mixed (by kernel_rfl) ?_
    try simp only [go_sem, Nat.reduceEqDiff, Nat.reduceAdd, Nat.reduceSub, Nat.reduceMul, Nat.reduceLeDiff, Nat.reduceLT, Nat.reduceBEq, reduceIte]
    refine splitK_intro (fun hb11 => ?_) (fun hb11 => ?_)
    · have h := ifT hb11 h
      try simp only [go_sem, Nat.reduceEqDiff, Nat.reduceAdd, Nat.reduceSub, Nat.reduceMul, Nat.reduceLeDiff, Nat.reduceLT, Nat.reduceBEq, reduceIte, hb11]
      refine AW.ret ?_
      obtain rfl := Option.some.inj h
      simp only [go_sem, Nat.reduceEqDiff, Nat.reduceAdd, Nat.reduceSub, Nat.reduceMul, Nat.reduceLeDiff, Nat.reduceLT, Nat.reduceBEq, reduceIte]
      exact .same _
    · have h := ifF hb11 h
      obtain ⟨x12, hx13, h⟩ := obind h
      try simp only [go_sem, Nat.reduceEqDiff, Nat.reduceAdd, Nat.reduceSub, Nat.reduceMul, Nat.reduceLeDiff, Nat.reduceLT, Nat.reduceBEq, reduceIte, hb11, (idx_some hx13).1, (idx_some hx13).2]
      refine AW.ret ?_
      obtain rfl := Option.some.inj h
      simp only [go_sem, Nat.reduceEqDiff, Nat.reduceAdd, Nat.reduceSub, Nat.reduceMul, Nat.reduceLeDiff, Nat.reduceLT, Nat.reduceBEq, reduceIte]
      exact .same _

end Go.Proofs.Ytcgphoghmgeecaa
namespace Go.Proofs.Ytcgphoghmgeecaa
open Go Go.Iso Go.Proofs
set_option linter.unusedSimpArgs false
set_option linter.unusedVariables false
set_option maxRecDepth 100000

/-! ### isochrone/isochroneref08.primed -/
def r08_primed_body (K : Nat) (self72 : NodeA → Option Bool) (p0 : NodeA) : Option Bool := ((
    ((
      if (p0.op == (3 : Int)) then
        some true
      else
        if (p0.op == (12 : Int)) then
          some true
        else
          some (p0.op == (39 : Int))) : Option Bool).bind (fun v3_0 => 
    if v3_0 then
      outM (
        some true)
    else
      some (.go ()))) : Option (Out Unit _)).bind (Out.fin fun _ => 
  ((iter (S := Int) (R := Out Unit _) K (fun again i8_0 => 
    if (decide (i8_0 < (p0.kids.length : Int))) then
      (idx p0.kids i8_0).bind fun x13 => 
      (self72 (x13)).bind fun r15 => 
      if r15 then
        outM (
          some true)
      else
        again (IntKind.wrap .i64 (i8_0 + (1 : Int)))
    else
      some (.go ())) (0 : Int)) : Option (Out Unit _)).bind (Out.fin fun _ => 
  some false))
set_option maxHeartbeats 4000000 in
theorem r08_primed_step (K : Nat) (self72 : NodeA → Option Bool) (hself72 : ∀ (q : NodeA) (r : Bool), self72 q = some r → Cn Try.prog 72 [aggV q.enc] (.d (.val (.bool r)))) (p0 : NodeA) (r : Bool) (h : r08_primed_body K self72 p0 = some r) : Cn Try.prog 72 [aggV p0.enc] (.d (.val (.bool r))) := by
  refine Cn.ofA mixed Try.func72 rfl Try.call72 Try.ntmps72 Try.results72 (by simp) (by simp only [go_sem, Nat.reduceEqDiff, Nat.reduceAdd, Nat.reduceSub, Nat.reduceMul, Nat.reduceLeDiff, Nat.reduceLT, Nat.reduceBEq, reduceIte]) fun hfit => ?_
  unfold r08_primed_body at h
  refine AW.cut [] [(0, .agg [.d (.val (.int .i64 p0.op)), .d (.val (.string p0.name)), .d (.val (.bool p0.num.neg)), .d (slD u32V p0.num.num), .d (slD u32V p0.num.den), .d (slD NodeA.enc p0.kids)])] [] (by simp only [go_sem, Nat.reduceEqDiff, Nat.reduceAdd, Nat.reduceSub, Nat.reduceMul, Nat.reduceLeDiff, Nat.reduceLT, Nat.reduceBEq, reduceIte]) ?_
  refine AW.one ?_
  refine AW.reg mixed (by kernel_rfl) ?_
  try simp only [go_sem, Nat.reduceEqDiff, Nat.reduceAdd, Nat.reduceSub, Nat.reduceMul, Nat.reduceLeDiff, Nat.reduceLT, Nat.reduceBEq, reduceIte]
  refine AW.cut [0] [(1, .ptr 0 6 0 0)] [some ⟨6, [[.d (.val (.int .i64 p0.op)), .d (.val (.string p0.name)), .d (.val (.bool p0.num.neg)), .d (slD u32V p0.num.num), .d (slD u32V p0.num.den), .d (slD NodeA.enc p0.kids)]]⟩] (by simp only [go_sem, Nat.reduceEqDiff, Nat.reduceAdd, Nat.reduceSub, Nat.reduceMul, Nat.reduceLeDiff, Nat.reduceLT, Nat.reduceBEq, reduceIte]) ?_
  refine AW.one ?_
  obtain ⟨oJ2, h, hJ2⟩ := obind h
  refine AW.join (S := Unit) (fun _ => [(1, .ptr 0 6 0 0)]) (fun _ => [some ⟨6, [[.d (.val (.int .i64 p0.op)), .d (.val (.string p0.name)), .d (.val (.bool p0.num.neg)), .d (slD u32V p0.num.num), .d (slD u32V p0.num.den), .d (slD NodeA.enc p0.kids)]]⟩]) (fun x => oJ2 = .go x) ?_ ?_
  · skip
    refine AW.one ?_
    obtain ⟨oJ4, h, hJ4⟩ := obind h
    refine AW.join (S := Bool) (fun v3_0 => [(1, .ptr 0 6 0 0), (16, .d (.val (.bool v3_0)))]) (fun v3_0 => [some ⟨6, [[.d (.val (.int .i64 p0.op)), .d (.val (.string p0.name)), .d (.val (.bool p0.num.neg)), .d (slD u32V p0.num.num), .d (slD u32V p0.num.den), .d (slD NodeA.enc p0.kids)]]⟩]) (fun x => x = oJ4) ?_ ?_
    · skip
      refine AW.reg mixed (by kernel_rfl) ?_
      try simp only [go_sem, Nat.reduceEqDiff, Nat.reduceAdd, Nat.reduceSub, Nat.reduceMul, Nat.reduceLeDiff, Nat.reduceLT, Nat.reduceBEq, reduceIte]
      refine splitK_intro (fun hb5 => ?_) (fun hb5 => ?_)
      · have h := ifT hb5 h
        try simp only [go_sem, Nat.reduceEqDiff, Nat.reduceAdd, Nat.reduceSub, Nat.reduceMul, Nat.reduceLeDiff, Nat.reduceLT, Nat.reduceBEq, reduceIte, hb5]
        refine JoinQ.mk true [0] (Option.some.inj h) (by simp only [go_sem, Nat.reduceEqDiff, Nat.reduceAdd, Nat.reduceSub, Nat.reduceMul, Nat.reduceLeDiff, Nat.reduceLT, Nat.reduceBEq, reduceIte, hb5])
      · have h := ifF hb5 h
        try simp only [go_sem, Nat.reduceEqDiff, Nat.reduceAdd, Nat.reduceSub, Nat.reduceMul, Nat.reduceLeDiff, Nat.reduceLT, Nat.reduceBEq, reduceIte, hb5]
        refine splitK_intro (fun hb6 => ?_) (fun hb6 => ?_)
        · have h := ifT hb6 h
          try simp only [go_sem, Nat.reduceEqDiff, Nat.reduceAdd, Nat.reduceSub, Nat.reduceMul, Nat.reduceLeDiff, Nat.reduceLT, Nat.reduceBEq, reduceIte, hb5, hb6]
          refine JoinQ.mk true [0] (Option.some.inj h) (by simp only [go_sem, Nat.reduceEqDiff, Nat.reduceAdd, Nat.reduceSub, Nat.reduceMul, Nat.reduceLeDiff, Nat.reduceLT, Nat.reduceBEq, reduceIte, hb5, hb6])
        · have h := ifF hb6 h
          try simp only [go_sem, Nat.reduceEqDiff, Nat.reduceAdd, Nat.reduceSub, Nat.reduceMul, Nat.reduceLeDiff, Nat.reduceLT, Nat.reduceBEq, reduceIte, hb5, hb6]
          refine JoinQ.mk (p0.op == (39 : Int)) [0] (Option.some.inj h) (by simp only [go_sem, Nat.reduceEqDiff, Nat.reduceAdd, Nat.reduceSub, Nat.reduceMul, Nat.reduceLeDiff, Nat.reduceLT, Nat.reduceBEq, reduceIte, hb5, hb6])
    · rintro v3_0 rfl
      have h := hJ4
      try dsimp only [Out.fin] at h
      simp only [go_sem, Nat.reduceEqDiff, Nat.reduceAdd, Nat.reduceSub, Nat.reduceMul, Nat.reduceLeDiff, Nat.reduceLT, Nat.reduceBEq, reduceIte]
      refine AW.test (t := v3_0) (by simp only [go_sem, Nat.reduceEqDiff, Nat.reduceAdd, Nat.reduceSub, Nat.reduceMul, Nat.reduceLeDiff, Nat.reduceLT, Nat.reduceBEq, reduceIte]) (fun hb7 => ?_) (fun hb7 => ?_)
      · have h := ifT hb7 h
        refine AW.one ?_
        refine AW.reg mixed (by kernel_rfl) ?_
        try simp only [go_sem, Nat.reduceEqDiff, Nat.reduceAdd, Nat.reduceSub, Nat.reduceMul, Nat.reduceLeDiff, Nat.reduceLT, Nat.reduceBEq, reduceIte]
        refine AW.ret ?_
        obtain ⟨_, h, ho⟩ := outM_some h
        rw [ho, Out.fin_out] at hJ2
        have h := h.trans hJ2
        obtain rfl := Option.some.inj h
        simp only [go_sem, Nat.reduceEqDiff, Nat.reduceAdd, Nat.reduceSub, Nat.reduceMul, Nat.reduceLeDiff, Nat.reduceLT, Nat.reduceBEq, reduceIte]
        exact .same _
      · have h := ifF hb7 h
        refine AW.skip ?_
        try simp only [go_sem, Nat.reduceEqDiff, Nat.reduceAdd, Nat.reduceSub, Nat.reduceMul, Nat.reduceLeDiff, Nat.reduceLT, Nat.reduceBEq, reduceIte]
        refine JoinQ.mk () [0] (Option.some.inj h).symm (by simp only [go_sem, Nat.reduceEqDiff, Nat.reduceAdd, Nat.reduceSub, Nat.reduceMul, Nat.reduceLeDiff, Nat.reduceLT, Nat.reduceBEq, reduceIte])
  · rintro ⟨⟩ rfl
    have h := hJ2
    try dsimp only [Out.fin] at h
    simp only [go_sem, Nat.reduceEqDiff, Nat.reduceAdd, Nat.reduceSub, Nat.reduceMul, Nat.reduceLeDiff, Nat.reduceLT, Nat.reduceBEq, reduceIte]
    refine AW.one ?_
    refine AW.one ?_
    refine AW.reg mixed (by kernel_rfl) ?_
    try simp only [go_sem, Nat.reduceEqDiff, Nat.reduceAdd, Nat.reduceSub, Nat.reduceMul, Nat.reduceLeDiff, Nat.reduceLT, Nat.reduceBEq, reduceIte]
    refine AW.cut [0] [(1, .ptr 0 6 0 0), (3, .d (.val (.int .i64 (0 : Int))))] [some ⟨6, [[.d (.val (.int .i64 p0.op)), .d (.val (.string p0.name)), .d (.val (.bool p0.num.neg)), .d (slD u32V p0.num.num), .d (slD u32V p0.num.den), .d (slD NodeA.enc p0.kids)]]⟩] (by simp only [go_sem, Nat.reduceEqDiff, Nat.reduceAdd, Nat.reduceSub, Nat.reduceMul, Nat.reduceLeDiff, Nat.reduceLT, Nat.reduceBEq, reduceIte]) ?_
    obtain ⟨oJ11, h, hJ11⟩ := obind h
    refine AW.join (S := Unit) (fun _ => []) (fun _ => []) (fun x => oJ11 = .go x) ?_ ?_
    · refine AW.block ?_
      refine AW.iter (S := Int) (fun i8_0 => [(1, .ptr 0 6 0 0), (3, .d (.val (.int .i64 i8_0)))]) (fun i8_0 => [some ⟨6, [[.d (.val (.int .i64 p0.op)), .d (.val (.string p0.name)), .d (.val (.bool p0.num.neg)), .d (slD u32V p0.num.num), .d (slD u32V p0.num.den), .d (slD NodeA.enc p0.kids)]]⟩]) [0] h (by simp only [go_sem, Nat.reduceEqDiff, Nat.reduceAdd, Nat.reduceSub, Nat.reduceMul, Nat.reduceLeDiff, Nat.reduceLT, Nat.reduceBEq, reduceIte]) ?_
      rintro again i8_0 h
      try dsimp only at h
      refine AW.one ?_
      refine AW.one ?_
      refine AW.reg mixed (by kernel_rfl) ?_
      try simp only [go_sem, Nat.reduceEqDiff, Nat.reduceAdd, Nat.reduceSub, Nat.reduceMul, Nat.reduceLeDiff, Nat.reduceLT, Nat.reduceBEq, reduceIte]
      refine AW.cut [0] [(1, .ptr 0 6 0 0), (3, .d (.val (.int .i64 i8_0))), (21, .d (.val (.bool (decide (i8_0 < (p0.kids.length : Int))))))] [some ⟨6, [[.d (.val (.int .i64 p0.op)), .d (.val (.string p0.name)), .d (.val (.bool p0.num.neg)), .d (slD u32V p0.num.num), .d (slD u32V p0.num.den), .d (slD NodeA.enc p0.kids)]]⟩] (by simp only [go_sem, Nat.reduceEqDiff, Nat.reduceAdd, Nat.reduceSub, Nat.reduceMul, Nat.reduceLeDiff, Nat.reduceLT, Nat.reduceBEq, reduceIte]) ?_
      refine AW.test (t := (decide (i8_0 < (p0.kids.length : Int)))) (by simp only [go_sem, Nat.reduceEqDiff, Nat.reduceAdd, Nat.reduceSub, Nat.reduceMul, Nat.reduceLeDiff, Nat.reduceLT, Nat.reduceBEq, reduceIte]) (fun hb12 => ?_) (fun hb12 => ?_)
      · have h := ifT hb12 h
        refine AW.skip ?_
        try simp only [go_sem, Nat.reduceEqDiff, Nat.reduceAdd, Nat.reduceSub, Nat.reduceMul, Nat.reduceLeDiff, Nat.reduceLT, Nat.reduceBEq, reduceIte]
        refine AW.cut [0] [(1, .ptr 0 6 0 0), (3, .d (.val (.int .i64 i8_0)))] [some ⟨6, [[.d (.val (.int .i64 p0.op)), .d (.val (.string p0.name)), .d (.val (.bool p0.num.neg)), .d (slD u32V p0.num.num), .d (slD u32V p0.num.den), .d (slD NodeA.enc p0.kids)]]⟩] (by simp only [go_sem, Nat.reduceEqDiff, Nat.reduceAdd, Nat.reduceSub, Nat.reduceMul, Nat.reduceLeDiff, Nat.reduceLT, Nat.reduceBEq, reduceIte]) ?_
        refine AW.one ?_
        refine AW.block ?_
        refine AW.one ?_
        refine AW.reg mixed (by kernel_rfl) ?_
        obtain ⟨x13, hx14, h⟩ := obind h
        try simp only [go_sem, Nat.reduceEqDiff, Nat.reduceAdd, Nat.reduceSub, Nat.reduceMul, Nat.reduceLeDiff, Nat.reduceLT, Nat.reduceBEq, reduceIte, (idx_some hx14).1, (idx_some hx14).2]
        obtain ⟨r15, hx16, h⟩ := obind h
        have hc := hself72 _ _ hx16
        try simp only [NodeA.enc_eta, RatA.enc_eta, aggV, i64V, u32V, strV, List.map_cons, List.map_nil] at hc
        refine callK_pure hc (by simp only [go_sem, Nat.reduceEqDiff, Nat.reduceAdd, Nat.reduceSub, Nat.reduceMul, Nat.reduceLeDiff, Nat.reduceLT, Nat.reduceBEq, reduceIte]) ?_
        try simp only [go_sem, Nat.reduceEqDiff, Nat.reduceAdd, Nat.reduceSub, Nat.reduceMul, Nat.reduceLeDiff, Nat.reduceLT, Nat.reduceBEq, reduceIte, (idx_some hx14).1, (idx_some hx14).2]
        refine AW.cut [0] [(1, .ptr 0 6 0 0), (3, .d (.val (.int .i64 i8_0))), (29, .d (.val (.bool r15)))] [some ⟨6, [[.d (.val (.int .i64 p0.op)), .d (.val (.string p0.name)), .d (.val (.bool p0.num.neg)), .d (slD u32V p0.num.num), .d (slD u32V p0.num.den), .d (slD NodeA.enc p0.kids)]]⟩] (by simp only [go_sem, Nat.reduceEqDiff, Nat.reduceAdd, Nat.reduceSub, Nat.reduceMul, Nat.reduceLeDiff, Nat.reduceLT, Nat.reduceBEq, reduceIte, (idx_some hx14).1, (idx_some hx14).2]) ?_
        refine AW.test (t := r15) (by simp only [go_sem, Nat.reduceEqDiff, Nat.reduceAdd, Nat.reduceSub, Nat.reduceMul, Nat.reduceLeDiff, Nat.reduceLT, Nat.reduceBEq, reduceIte]) (fun hb17 => ?_) (fun hb17 => ?_)
        · have h := ifT hb17 h
          refine AW.one ?_
          refine AW.reg mixed (by kernel_rfl) ?_
          try simp only [go_sem, Nat.reduceEqDiff, Nat.reduceAdd, Nat.reduceSub, Nat.reduceMul, Nat.reduceLeDiff, Nat.reduceLT, Nat.reduceBEq, reduceIte]
          refine AW.ret ?_
          obtain ⟨_, h, ho⟩ := outM_some h
          rw [ho, Out.fin_out] at hJ11
          have h := h.trans hJ11
          obtain rfl := Option.some.inj h
          simp only [go_sem, Nat.reduceEqDiff, Nat.reduceAdd, Nat.reduceSub, Nat.reduceMul, Nat.reduceLeDiff, Nat.reduceLT, Nat.reduceBEq, reduceIte]
          exact .same _
        · have h := ifF hb17 h
          refine AW.skip ?_
          try simp only [go_sem, Nat.reduceEqDiff, Nat.reduceAdd, Nat.reduceSub, Nat.reduceMul, Nat.reduceLeDiff, Nat.reduceLT, Nat.reduceBEq, reduceIte]
          refine AW.cut [0] [(1, .ptr 0 6 0 0), (3, .d (.val (.int .i64 i8_0)))] [some ⟨6, [[.d (.val (.int .i64 p0.op)), .d (.val (.string p0.name)), .d (.val (.bool p0.num.neg)), .d (slD u32V p0.num.num), .d (slD u32V p0.num.den), .d (slD NodeA.enc p0.kids)]]⟩] (by simp only [go_sem, Nat.reduceEqDiff, Nat.reduceAdd, Nat.reduceSub, Nat.reduceMul, Nat.reduceLeDiff, Nat.reduceLT, Nat.reduceBEq, reduceIte]) ?_
          refine AW.reg mixed (by kernel_rfl) ?_
          try simp only [go_sem, Nat.reduceEqDiff, Nat.reduceAdd, Nat.reduceSub, Nat.reduceMul, Nat.reduceLeDiff, Nat.reduceLT, Nat.reduceBEq, reduceIte]
          refine NextQ.mk (IntKind.wrap .i64 (i8_0 + (1 : Int))) [0] h (by simp only [go_sem, Nat.reduceEqDiff, Nat.reduceAdd, Nat.reduceSub, Nat.reduceMul, Nat.reduceLeDiff, Nat.reduceLT, Nat.reduceBEq, reduceIte])
      · have h := ifF hb12 h
        refine AW.exit ?_
        try simp only [go_sem, Nat.reduceEqDiff, Nat.reduceAdd, Nat.reduceSub, Nat.reduceMul, Nat.reduceLeDiff, Nat.reduceLT, Nat.reduceBEq, reduceIte]
        refine JoinQ.mk () [] (Option.some.inj h).symm (by simp only [go_sem, Nat.reduceEqDiff, Nat.reduceAdd, Nat.reduceSub, Nat.reduceMul, Nat.reduceLeDiff, Nat.reduceLT, Nat.reduceBEq, reduceIte])
    · rintro ⟨⟩ rfl
      have h := hJ11
      try dsimp only [Out.fin] at h
      simp only [go_sem, Nat.reduceEqDiff, Nat.reduceAdd, Nat.reduceSub, Nat.reduceMul, Nat.reduceLeDiff, Nat.reduceLT, Nat.reduceBEq, reduceIte]
      refine AW.cut [] [] [] (by simp only [go_sem, Nat.reduceEqDiff, Nat.reduceAdd, Nat.reduceSub, Nat.reduceMul, Nat.reduceLeDiff, Nat.reduceLT, Nat.reduceBEq, reduceIte]) ?_
      refine AW.one ?_
      refine AW.reg mixed (by kernel_rfl) ?_
      try simp only [go_sem, Nat.reduceEqDiff, Nat.reduceAdd, Nat.reduceSub, Nat.reduceMul, Nat.reduceLeDiff, Nat.reduceLT, Nat.reduceBEq, reduceIte]
      refine AW.ret ?_
      obtain rfl := Option.some.inj h
      simp only [go_sem, Nat.reduceEqDiff, Nat.reduceAdd, Nat.reduceSub, Nat.reduceMul, Nat.reduceLeDiff, Nat.reduceLT, Nat.reduceBEq, reduceIte]
      exact .same _
def r08_primed (K : Nat) (p0 : NodeA) : Option Bool := iter K (fun self q => r08_primed_body K self q) p0
theorem key_r08_primed {K : Nat} (k : Nat) : (∀ (q : NodeA) (r : Bool), iter k (fun self q => r08_primed_body K self q) q = some r → Cn Try.prog 72 [aggV q.enc] (.d (.val (.bool r)))) := by
  induction k with
  | zero => exact fun q r h => by cases h
  | succ k ih => exact fun q r h => r08_primed_step K _ ih q r h
theorem r08_primed_ok {K : Nat} {p0 : NodeA} {r : Bool} (h : r08_primed K p0 = some r) : Cn Try.prog 72 [aggV p0.enc] (.d (.val (.bool r))) := (key_r08_primed K) p0 r h

end Go.Proofs.Ytcgphoghmgeecaa
