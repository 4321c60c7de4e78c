/- Part of the proof of a law: contracts of the functions that the law reaches, or plain laws of them, out of the abstract layer (the texts YtcgphoghmgeecaaIso..). No condition. -/
import Derived.Test.YtcgphoghmgeecaaW
import Derived.Test.YtcgphoghmgeecaaIsoJ
import Derived.Test.YtcgphoghmgeecaaLman
import Derived.Test.YtcgphoghmgeecaaPa
namespace Go.Proofs.Ytcgphoghmgeecaa
open Go Go.Iso Go.Proofs
set_option linter.unusedSimpArgs false
set_option linter.unusedVariables false
set_option maxRecDepth 100000

/-! ### isochrone/isochroneref08.well -/
def r08_well_body (K : Nat) (self42 : (NodeA × Int × Bool × Bool) → Option Bool) (self60 : (NodeA × Bool × Bool) → Option Bool) (p0 : NodeA) (p1 : Int) (p2 : Bool) (p3 : Bool) : Option Bool := ((
    ((
      (r08_Sort K p0.op).bind fun r5 => 
      if (r5 != p1) then
        some true
      else
        (r08_named K p0.op).bind fun r8 => 
        (r08_Name K p0.name).bind fun r10 => 
        if (!(r8 == r10)) then
          some true
        else
          (r08_named K p0.op).bind fun r13 => 
          if (!r13) then
            some (!(p0.name.toList == (⟨#[]⟩ : ByteArray).toList))
          else
            some false) : Option Bool).bind (fun v3_0 => 
    if v3_0 then
      outM (
        some false)
    else
      some (.go ()))) : Option (Out Unit _)).bind (Out.fin fun _ => 
  ((
    if (p0.op == (1 : Int)) then
      (r08_natural K p0.num).bind fun r20 => 
      if (!r20) then
        outM (
          some false)
      else
        some (.go ())
    else
      ((
        if p0.num.neg then
          some true
        else
          if (decide ((0 : Int) < (p0.num.num.length : Int))) then
            some true
          else
            some (decide ((0 : Int) < (p0.num.den.length : Int)))) : Option Bool).bind (fun v23_0 => 
      if v23_0 then
        outM (
          some false)
      else
        some (.go ()))) : Option (Out Unit _)).bind (Out.fin fun _ => 
  ((
    ((
      if p2 then
        if (p0.op == (12 : Int)) then
          some true
        else
          some (p0.op == (3 : Int))
      else
        if p3 then
          some (p0.op == (3 : Int))
        else
          some false) : Option Bool).bind (fun v30_0 => 
    if v30_0 then
      outM (
        some false)
    else
      some (.go ()))) : Option (Out Unit _)).bind (Out.fin fun _ => 
  if (p0.op == (54 : Int)) then
    (self60 (p0, p2, p3)).bind fun r37 => 
    some r37
  else
    (r08_kids K p0.op).bind fun r39 => 
    ((
      ((
        if (p0.op == (10 : Int)) then
          some true
        else
          some (p0.op == (37 : Int))) : Option Bool).bind (fun v43_0 => 
      if v43_0 then
        if ((p0.kids.length : Int) == (1 : Int)) then
          some (⟨#[49]⟩ : ByteArray)
        else
          some r39
      else
        some r39)) : Option ByteArray).bind (fun v41_0 => 
    if ((v41_0.size : Int) != (p0.kids.length : Int)) then
      some false
    else
      ((iter (S := Int) (R := Out Unit _) K (fun again i49_0 => 
        if (decide (i49_0 < (v41_0.size : Int))) then
          ((
            ((
              (idx p0.kids i49_0).bind fun x58 => 
              (strAt v41_0 i49_0).bind fun c60 => 
              if p2 then
                if p3 then
                  (self42 (x58, IntKind.wrap .i64 (IntKind.wrap .u8 ((c60.toNat : Int) - (48 : Int))), true, true)).bind fun r64 => 
                  some (!r64)
                else
                  (self42 (x58, IntKind.wrap .i64 (IntKind.wrap .u8 ((c60.toNat : Int) - (48 : Int))), true, (p0.op == (39 : Int)))).bind fun r66 => 
                  some (!r66)
              else
                if p3 then
                  (self42 (x58, IntKind.wrap .i64 (IntKind.wrap .u8 ((c60.toNat : Int) - (48 : Int))), (p0.op == (12 : Int)), true)).bind fun r69 => 
                  some (!r69)
                else
                  (self42 (x58, IntKind.wrap .i64 (IntKind.wrap .u8 ((c60.toNat : Int) - (48 : Int))), (p0.op == (12 : Int)), (p0.op == (39 : Int)))).bind fun r71 => 
                  some (!r71)) : Option Bool).bind (fun v56_0 => 
            if v56_0 then
              outM (
                outM (
                  some false))
            else
              some (.go ()))) : Option (Out Unit _)).bind (Out.fin fun _ => 
          again (IntKind.wrap .i64 (i49_0 + (1 : Int))))
        else
          some (.go ())) (0 : Int)) : Option (Out Unit _)).bind (Out.fin fun _ => 
      if (p0.op == (8 : Int)) then
        (idx p0.kids (1 : Int)).bind fun x75 => 
        if (x75.op == (1 : Int)) then
          some (decide ((0 : Int) < (x75.num.num.length : Int)))
        else
          some false
      else
        if (p0.op == (9 : Int)) then
          (idx p0.kids (1 : Int)).bind fun x79 => 
          if (x79.op == (1 : Int)) then
            (r08_Natural K x79.num (20 : Int)).bind fun r82 => 
            some (decide ((0 : Int) ≤ r82))
          else
            some false
        else
          if (p0.op == (39 : Int)) then
            (idx p0.kids (0 : Int)).bind fun x85 => 
            (r08_differential K x85).bind fun r87 => 
            some r87
          else
            some true)))))
set_option maxHeartbeats 4000000 in
theorem r08_well_step (K : Nat) (self42 : (NodeA × Int × Bool × Bool) → Option Bool) (self60 : (NodeA × Bool × Bool) → Option Bool) (hself42 : ∀ (q : NodeA × Int × Bool × Bool) (r : Bool), self42 q = some r → Cn Try.prog 42 [aggV q.1.enc, .d (.val (.int .i64 q.2.1)), .d (.val (.bool q.2.2.1)), .d (.val (.bool q.2.2.2))] (.d (.val (.bool r)))) (hself60 : ∀ (q : NodeA × Bool × Bool) (r : Bool), self60 q = some r → Cn Try.prog 60 [aggV q.1.enc, .d (.val (.bool q.2.1)), .d (.val (.bool q.2.2))] (.d (.val (.bool r)))) (p0 : NodeA) (p1 : Int) (p2 : Bool) (p3 : Bool) (r : Bool) (h : r08_well_body K self42 self60 p0 p1 p2 p3 = some r) : Cn Try.prog 42 [aggV p0.enc, .d (.val (.int .i64 p1)), .d (.val (.bool p2)), .d (.val (.bool p3))] (.d (.val (.bool r))) := by
  refine Cn.ofA mixed Try.func42 rfl Try.call42 Try.ntmps42 Try.results42 (by simp) (by simp only [go_sem, Nat.reduceEqDiff, Nat.reduceAdd, Nat.reduceSub, Nat.reduceMul, Nat.reduceLeDiff, Nat.reduceLT, Nat.reduceBEq, reduceIte]) fun hfit => ?_
  unfold r08_well_body at h
  refine AW.cut [] [(0, .agg [.d (.val (.int .i64 p0.op)), .d (.val (.string p0.name)), .d (.val (.bool p0.num.neg)), .d (slD u32V p0.num.num), .d (slD u32V p0.num.den), .d (slD NodeA.enc p0.kids)]), (1, .d (.val (.int .i64 p1))), (2, .d (.val (.bool p2))), (3, .d (.val (.bool p3)))] [] (by simp only [go_sem, Nat.reduceEqDiff, Nat.reduceAdd, Nat.reduceSub, Nat.reduceMul, Nat.reduceLeDiff, Nat.reduceLT, Nat.reduceBEq, reduceIte]) ?_
  refine AW.one ?_
  refine AW.reg mixed (by kernel_rfl) ?_
  try simp only [go_sem, Nat.reduceEqDiff, Nat.reduceAdd, Nat.reduceSub, Nat.reduceMul, Nat.reduceLeDiff, Nat.reduceLT, Nat.reduceBEq, reduceIte]
  refine AW.cut [0] [(1, .d (.val (.int .i64 p1))), (2, .d (.val (.bool p2))), (3, .d (.val (.bool p3))), (4, .ptr 0 6 0 0)] [some ⟨6, [[.d (.val (.int .i64 p0.op)), .d (.val (.string p0.name)), .d (.val (.bool p0.num.neg)), .d (slD u32V p0.num.num), .d (slD u32V p0.num.den), .d (slD NodeA.enc p0.kids)]]⟩] (by simp only [go_sem, Nat.reduceEqDiff, Nat.reduceAdd, Nat.reduceSub, Nat.reduceMul, Nat.reduceLeDiff, Nat.reduceLT, Nat.reduceBEq, reduceIte]) ?_
  refine AW.one ?_
  obtain ⟨oJ2, h, hJ2⟩ := obind h
  refine AW.join (S := Unit) (fun _ => [(2, .d (.val (.bool p2))), (3, .d (.val (.bool p3))), (4, .ptr 0 6 0 0)]) (fun _ => [some ⟨6, [[.d (.val (.int .i64 p0.op)), .d (.val (.string p0.name)), .d (.val (.bool p0.num.neg)), .d (slD u32V p0.num.num), .d (slD u32V p0.num.den), .d (slD NodeA.enc p0.kids)]]⟩]) (fun x => oJ2 = .go x) ?_ ?_
  · skip
    refine AW.one ?_
    obtain ⟨oJ4, h, hJ4⟩ := obind h
    refine AW.join (S := Bool) (fun v3_0 => [(2, .d (.val (.bool p2))), (3, .d (.val (.bool p3))), (4, .ptr 0 6 0 0), (35, .d (.val (.bool v3_0)))]) (fun v3_0 => [some ⟨6, [[.d (.val (.int .i64 p0.op)), .d (.val (.string p0.name)), .d (.val (.bool p0.num.neg)), .d (slD u32V p0.num.num), .d (slD u32V p0.num.den), .d (slD NodeA.enc p0.kids)]]⟩]) (fun x => x = oJ4) ?_ ?_
    · skip
      refine AW.reg mixed (by kernel_rfl) ?_
      try simp only [go_sem, Nat.reduceEqDiff, Nat.reduceAdd, Nat.reduceSub, Nat.reduceMul, Nat.reduceLeDiff, Nat.reduceLT, Nat.reduceBEq, reduceIte]
      obtain ⟨r5, hx6, h⟩ := obind h
      have hc := r08_Sort_ok (h := hx6)
      try simp only [NodeA.enc_eta, RatA.enc_eta, aggV, i64V, u32V, strV, List.map_cons, List.map_nil] at hc
      refine pcallK_intro hc (by simp only [go_sem, Nat.reduceEqDiff, Nat.reduceAdd, Nat.reduceSub, Nat.reduceMul, Nat.reduceLeDiff, Nat.reduceLT, Nat.reduceBEq, reduceIte]) ?_
      try simp only [go_sem, Nat.reduceEqDiff, Nat.reduceAdd, Nat.reduceSub, Nat.reduceMul, Nat.reduceLeDiff, Nat.reduceLT, Nat.reduceBEq, reduceIte]
      refine splitK_intro (fun hb7 => ?_) (fun hb7 => ?_)
      · have h := ifT hb7 h
        try simp only [go_sem, Nat.reduceEqDiff, Nat.reduceAdd, Nat.reduceSub, Nat.reduceMul, Nat.reduceLeDiff, Nat.reduceLT, Nat.reduceBEq, reduceIte, hb7]
        refine JoinQ.mk true [0] (Option.some.inj h) (by simp only [go_sem, Nat.reduceEqDiff, Nat.reduceAdd, Nat.reduceSub, Nat.reduceMul, Nat.reduceLeDiff, Nat.reduceLT, Nat.reduceBEq, reduceIte, hb7])
      · have h := ifF hb7 h
        try simp only [go_sem, Nat.reduceEqDiff, Nat.reduceAdd, Nat.reduceSub, Nat.reduceMul, Nat.reduceLeDiff, Nat.reduceLT, Nat.reduceBEq, reduceIte, hb7]
        obtain ⟨r8, hx9, h⟩ := obind h
        have hc := r08_named_ok (h := hx9)
        try simp only [NodeA.enc_eta, RatA.enc_eta, aggV, i64V, u32V, strV, List.map_cons, List.map_nil] at hc
        refine pcallK_intro hc (by simp only [go_sem, Nat.reduceEqDiff, Nat.reduceAdd, Nat.reduceSub, Nat.reduceMul, Nat.reduceLeDiff, Nat.reduceLT, Nat.reduceBEq, reduceIte]) ?_
        try simp only [go_sem, Nat.reduceEqDiff, Nat.reduceAdd, Nat.reduceSub, Nat.reduceMul, Nat.reduceLeDiff, Nat.reduceLT, Nat.reduceBEq, reduceIte, hb7]
        obtain ⟨r10, hx11, h⟩ := obind h
        have hc := r08_Name_ok (h := hx11)
        try simp only [NodeA.enc_eta, RatA.enc_eta, aggV, i64V, u32V, strV, List.map_cons, List.map_nil] at hc
        refine pcallK_intro hc (by simp only [go_sem, Nat.reduceEqDiff, Nat.reduceAdd, Nat.reduceSub, Nat.reduceMul, Nat.reduceLeDiff, Nat.reduceLT, Nat.reduceBEq, reduceIte]) ?_
        try simp only [go_sem, Nat.reduceEqDiff, Nat.reduceAdd, Nat.reduceSub, Nat.reduceMul, Nat.reduceLeDiff, Nat.reduceLT, Nat.reduceBEq, reduceIte, hb7]
        refine splitK_intro (fun hb12 => ?_) (fun hb12 => ?_)
        · have h := ifT hb12 h
          try simp only [go_sem, Nat.reduceEqDiff, Nat.reduceAdd, Nat.reduceSub, Nat.reduceMul, Nat.reduceLeDiff, Nat.reduceLT, Nat.reduceBEq, reduceIte, hb7, hb12]
          refine JoinQ.mk true [0] (Option.some.inj h) (by simp only [go_sem, Nat.reduceEqDiff, Nat.reduceAdd, Nat.reduceSub, Nat.reduceMul, Nat.reduceLeDiff, Nat.reduceLT, Nat.reduceBEq, reduceIte, hb7, hb12])
        · have h := ifF hb12 h
          try simp only [go_sem, Nat.reduceEqDiff, Nat.reduceAdd, Nat.reduceSub, Nat.reduceMul, Nat.reduceLeDiff, Nat.reduceLT, Nat.reduceBEq, reduceIte, hb7, hb12]
          obtain ⟨r13, hx14, h⟩ := obind h
          have hc := r08_named_ok (h := hx14)
          try simp only [NodeA.enc_eta, RatA.enc_eta, aggV, i64V, u32V, strV, List.map_cons, List.map_nil] at hc
          refine pcallK_intro hc (by simp only [go_sem, Nat.reduceEqDiff, Nat.reduceAdd, Nat.reduceSub, Nat.reduceMul, Nat.reduceLeDiff, Nat.reduceLT, Nat.reduceBEq, reduceIte]) ?_
          try simp only [go_sem, Nat.reduceEqDiff, Nat.reduceAdd, Nat.reduceSub, Nat.reduceMul, Nat.reduceLeDiff, Nat.reduceLT, Nat.reduceBEq, reduceIte, hb7, hb12]
          refine splitK_intro (fun hb15 => ?_) (fun hb15 => ?_)
          · have h := ifT hb15 h
            try simp only [go_sem, Nat.reduceEqDiff, Nat.reduceAdd, Nat.reduceSub, Nat.reduceMul, Nat.reduceLeDiff, Nat.reduceLT, Nat.reduceBEq, reduceIte, hb7, hb12, hb15]
            refine JoinQ.mk (!(p0.name.toList == (⟨#[]⟩ : ByteArray).toList)) [0] (Option.some.inj h) (by simp only [go_sem, Nat.reduceEqDiff, Nat.reduceAdd, Nat.reduceSub, Nat.reduceMul, Nat.reduceLeDiff, Nat.reduceLT, Nat.reduceBEq, reduceIte, hb7, hb12, hb15])
          · have h := ifF hb15 h
            try simp only [go_sem, Nat.reduceEqDiff, Nat.reduceAdd, Nat.reduceSub, Nat.reduceMul, Nat.reduceLeDiff, Nat.reduceLT, Nat.reduceBEq, reduceIte, hb7, hb12, hb15]
            refine JoinQ.mk false [0] (Option.some.inj h) (by simp only [go_sem, Nat.reduceEqDiff, Nat.reduceAdd, Nat.reduceSub, Nat.reduceMul, Nat.reduceLeDiff, Nat.reduceLT, Nat.reduceBEq, reduceIte, hb7, hb12, hb15])
    · rintro v3_0 rfl
      have h := hJ4
      try dsimp only [Out.fin] at h
      simp only [go_sem, Nat.reduceEqDiff, Nat.reduceAdd, Nat.reduceSub, Nat.reduceMul, Nat.reduceLeDiff, Nat.reduceLT, Nat.reduceBEq, reduceIte]
      refine AW.test (t := v3_0) (by simp only [go_sem, Nat.reduceEqDiff, Nat.reduceAdd, Nat.reduceSub, Nat.reduceMul, Nat.reduceLeDiff, Nat.reduceLT, Nat.reduceBEq, reduceIte]) (fun hb16 => ?_) (fun hb16 => ?_)
      · have h := ifT hb16 h
        refine AW.one ?_
        refine AW.reg mixed (by kernel_rfl) ?_
        try simp only [go_sem, Nat.reduceEqDiff, Nat.reduceAdd, Nat.reduceSub, Nat.reduceMul, Nat.reduceLeDiff, Nat.reduceLT, Nat.reduceBEq, reduceIte]
        refine AW.ret ?_
        obtain ⟨_, h, ho⟩ := outM_some h
        rw [ho, Out.fin_out] at hJ2
        have h := h.trans hJ2
        obtain rfl := Option.some.inj h
        simp only [go_sem, Nat.reduceEqDiff, Nat.reduceAdd, Nat.reduceSub, Nat.reduceMul, Nat.reduceLeDiff, Nat.reduceLT, Nat.reduceBEq, reduceIte]
        exact .same _
      · have h := ifF hb16 h
        refine AW.skip ?_
        try simp only [go_sem, Nat.reduceEqDiff, Nat.reduceAdd, Nat.reduceSub, Nat.reduceMul, Nat.reduceLeDiff, Nat.reduceLT, Nat.reduceBEq, reduceIte]
        refine JoinQ.mk () [0] (Option.some.inj h).symm (by simp only [go_sem, Nat.reduceEqDiff, Nat.reduceAdd, Nat.reduceSub, Nat.reduceMul, Nat.reduceLeDiff, Nat.reduceLT, Nat.reduceBEq, reduceIte])
  · rintro ⟨⟩ rfl
    have h := hJ2
    try dsimp only [Out.fin] at h
    simp only [go_sem, Nat.reduceEqDiff, Nat.reduceAdd, Nat.reduceSub, Nat.reduceMul, Nat.reduceLeDiff, Nat.reduceLT, Nat.reduceBEq, reduceIte]
    refine AW.one ?_
    obtain ⟨oJ18, h, hJ18⟩ := obind h
    refine AW.join (S := Unit) (fun _ => [(2, .d (.val (.bool p2))), (3, .d (.val (.bool p3))), (4, .ptr 0 6 0 0)]) (fun _ => [some ⟨6, [[.d (.val (.int .i64 p0.op)), .d (.val (.string p0.name)), .d (.val (.bool p0.num.neg)), .d (slD u32V p0.num.num), .d (slD u32V p0.num.den), .d (slD NodeA.enc p0.kids)]]⟩]) (fun x => oJ18 = .go x) ?_ ?_
    · skip
      refine AW.one ?_
      refine AW.reg mixed (by kernel_rfl) ?_
      try simp only [go_sem, Nat.reduceEqDiff, Nat.reduceAdd, Nat.reduceSub, Nat.reduceMul, Nat.reduceLeDiff, Nat.reduceLT, Nat.reduceBEq, reduceIte]
      refine AW.cut [0] [(2, .d (.val (.bool p2))), (3, .d (.val (.bool p3))), (4, .ptr 0 6 0 0), (38, .d (.val (.bool (p0.op == (1 : Int)))))] [some ⟨6, [[.d (.val (.int .i64 p0.op)), .d (.val (.string p0.name)), .d (.val (.bool p0.num.neg)), .d (slD u32V p0.num.num), .d (slD u32V p0.num.den), .d (slD NodeA.enc p0.kids)]]⟩] (by simp only [go_sem, Nat.reduceEqDiff, Nat.reduceAdd, Nat.reduceSub, Nat.reduceMul, Nat.reduceLeDiff, Nat.reduceLT, Nat.reduceBEq, reduceIte]) ?_
      refine AW.test (t := (p0.op == (1 : Int))) (by simp only [go_sem, Nat.reduceEqDiff, Nat.reduceAdd, Nat.reduceSub, Nat.reduceMul, Nat.reduceLeDiff, Nat.reduceLT, Nat.reduceBEq, reduceIte]) (fun hb19 => ?_) (fun hb19 => ?_)
      · have h := ifT hb19 h
        refine AW.one ?_
        refine AW.reg mixed (by kernel_rfl) ?_
        try simp only [go_sem, Nat.reduceEqDiff, Nat.reduceAdd, Nat.reduceSub, Nat.reduceMul, Nat.reduceLeDiff, Nat.reduceLT, Nat.reduceBEq, reduceIte]
        obtain ⟨r20, hx21, h⟩ := obind h
        have hc := r08_natural_ok (h := hx21)
        try simp only [NodeA.enc_eta, RatA.enc_eta, aggV, i64V, u32V, strV, List.map_cons, List.map_nil] at hc
        refine callK_pure hc (by simp only [go_sem, Nat.reduceEqDiff, Nat.reduceAdd, Nat.reduceSub, Nat.reduceMul, Nat.reduceLeDiff, Nat.reduceLT, Nat.reduceBEq, reduceIte]) ?_
        try simp only [go_sem, Nat.reduceEqDiff, Nat.reduceAdd, Nat.reduceSub, Nat.reduceMul, Nat.reduceLeDiff, Nat.reduceLT, Nat.reduceBEq, reduceIte]
        refine AW.cut [0] [(2, .d (.val (.bool p2))), (3, .d (.val (.bool p3))), (4, .ptr 0 6 0 0), (42, .d (.val (.bool (!r20))))] [some ⟨6, [[.d (.val (.int .i64 p0.op)), .d (.val (.string p0.name)), .d (.val (.bool p0.num.neg)), .d (slD u32V p0.num.num), .d (slD u32V p0.num.den), .d (slD NodeA.enc p0.kids)]]⟩] (by simp only [go_sem, Nat.reduceEqDiff, Nat.reduceAdd, Nat.reduceSub, Nat.reduceMul, Nat.reduceLeDiff, Nat.reduceLT, Nat.reduceBEq, reduceIte]) ?_
        refine AW.test (t := (!r20)) (by simp only [go_sem, Nat.reduceEqDiff, Nat.reduceAdd, Nat.reduceSub, Nat.reduceMul, Nat.reduceLeDiff, Nat.reduceLT, Nat.reduceBEq, reduceIte]) (fun hb22 => ?_) (fun hb22 => ?_)
        · have h := ifT hb22 h
          refine AW.one ?_
          refine AW.reg mixed (by kernel_rfl) ?_
          try simp only [go_sem, Nat.reduceEqDiff, Nat.reduceAdd, Nat.reduceSub, Nat.reduceMul, Nat.reduceLeDiff, Nat.reduceLT, Nat.reduceBEq, reduceIte]
          refine AW.ret ?_
          obtain ⟨_, h, ho⟩ := outM_some h
          rw [ho, Out.fin_out] at hJ18
          have h := h.trans hJ18
          obtain rfl := Option.some.inj h
          simp only [go_sem, Nat.reduceEqDiff, Nat.reduceAdd, Nat.reduceSub, Nat.reduceMul, Nat.reduceLeDiff, Nat.reduceLT, Nat.reduceBEq, reduceIte]
          exact .same _
        · have h := ifF hb22 h
          refine AW.skip ?_
          try simp only [go_sem, Nat.reduceEqDiff, Nat.reduceAdd, Nat.reduceSub, Nat.reduceMul, Nat.reduceLeDiff, Nat.reduceLT, Nat.reduceBEq, reduceIte]
          refine JoinQ.mk () [0] (Option.some.inj h).symm (by simp only [go_sem, Nat.reduceEqDiff, Nat.reduceAdd, Nat.reduceSub, Nat.reduceMul, Nat.reduceLeDiff, Nat.reduceLT, Nat.reduceBEq, reduceIte])
      · have h := ifF hb19 h
        refine AW.one ?_
        obtain ⟨oJ24, h, hJ24⟩ := obind h
        refine AW.join (S := Bool) (fun v23_0 => [(2, .d (.val (.bool p2))), (3, .d (.val (.bool p3))), (4, .ptr 0 6 0 0), (59, .d (.val (.bool v23_0)))]) (fun v23_0 => [some ⟨6, [[.d (.val (.int .i64 p0.op)), .d (.val (.string p0.name)), .d (.val (.bool p0.num.neg)), .d (slD u32V p0.num.num), .d (slD u32V p0.num.den), .d (slD NodeA.enc p0.kids)]]⟩]) (fun x => x = oJ24) ?_ ?_
        · skip
          refine AW.reg mixed (by kernel_rfl) ?_
          try simp only [go_sem, Nat.reduceEqDiff, Nat.reduceAdd, Nat.reduceSub, Nat.reduceMul, Nat.reduceLeDiff, Nat.reduceLT, Nat.reduceBEq, reduceIte]
          refine splitK_intro (fun hb25 => ?_) (fun hb25 => ?_)
          · have h := ifT hb25 h
            try simp only [go_sem, Nat.reduceEqDiff, Nat.reduceAdd, Nat.reduceSub, Nat.reduceMul, Nat.reduceLeDiff, Nat.reduceLT, Nat.reduceBEq, reduceIte, hb25]
            refine JoinQ.mk true [0] (Option.some.inj h) (by simp only [go_sem, Nat.reduceEqDiff, Nat.reduceAdd, Nat.reduceSub, Nat.reduceMul, Nat.reduceLeDiff, Nat.reduceLT, Nat.reduceBEq, reduceIte, hb25])
          · have h := ifF hb25 h
            try simp only [go_sem, Nat.reduceEqDiff, Nat.reduceAdd, Nat.reduceSub, Nat.reduceMul, Nat.reduceLeDiff, Nat.reduceLT, Nat.reduceBEq, reduceIte, hb25]
            refine splitK_intro (fun hb26 => ?_) (fun hb26 => ?_)
            · have h := ifT hb26 h
              try simp only [go_sem, Nat.reduceEqDiff, Nat.reduceAdd, Nat.reduceSub, Nat.reduceMul, Nat.reduceLeDiff, Nat.reduceLT, Nat.reduceBEq, reduceIte, hb25, hb26]
              refine JoinQ.mk true [0] (Option.some.inj h) (by simp only [go_sem, Nat.reduceEqDiff, Nat.reduceAdd, Nat.reduceSub, Nat.reduceMul, Nat.reduceLeDiff, Nat.reduceLT, Nat.reduceBEq, reduceIte, hb25, hb26])
            · have h := ifF hb26 h
              try simp only [go_sem, Nat.reduceEqDiff, Nat.reduceAdd, Nat.reduceSub, Nat.reduceMul, Nat.reduceLeDiff, Nat.reduceLT, Nat.reduceBEq, reduceIte, hb25, hb26]
              refine JoinQ.mk (decide ((0 : Int) < (p0.num.den.length : Int))) [0] (Option.some.inj h) (by simp only [go_sem, Nat.reduceEqDiff, Nat.reduceAdd, Nat.reduceSub, Nat.reduceMul, Nat.reduceLeDiff, Nat.reduceLT, Nat.reduceBEq, reduceIte, hb25, hb26])
        · rintro v23_0 rfl
          have h := hJ24
          try dsimp only [Out.fin] at h
          simp only [go_sem, Nat.reduceEqDiff, Nat.reduceAdd, Nat.reduceSub, Nat.reduceMul, Nat.reduceLeDiff, Nat.reduceLT, Nat.reduceBEq, reduceIte]
          refine AW.test (t := v23_0) (by simp only [go_sem, Nat.reduceEqDiff, Nat.reduceAdd, Nat.reduceSub, Nat.reduceMul, Nat.reduceLeDiff, Nat.reduceLT, Nat.reduceBEq, reduceIte]) (fun hb27 => ?_) (fun hb27 => ?_)
          · have h := ifT hb27 h
            refine AW.one ?_
            refine AW.reg mixed (by kernel_rfl) ?_
            try simp only [go_sem, Nat.reduceEqDiff, Nat.reduceAdd, Nat.reduceSub, Nat.reduceMul, Nat.reduceLeDiff, Nat.reduceLT, Nat.reduceBEq, reduceIte]
            refine AW.ret ?_
            obtain ⟨_, h, ho⟩ := outM_some h
            rw [ho, Out.fin_out] at hJ18
            have h := h.trans hJ18
            obtain rfl := Option.some.inj h
            simp only [go_sem, Nat.reduceEqDiff, Nat.reduceAdd, Nat.reduceSub, Nat.reduceMul, Nat.reduceLeDiff, Nat.reduceLT, Nat.reduceBEq, reduceIte]
            exact .same _
          · have h := ifF hb27 h
            refine AW.skip ?_
            try simp only [go_sem, Nat.reduceEqDiff, Nat.reduceAdd, Nat.reduceSub, Nat.reduceMul, Nat.reduceLeDiff, Nat.reduceLT, Nat.reduceBEq, reduceIte]
            refine JoinQ.mk () [0] (Option.some.inj h).symm (by simp only [go_sem, Nat.reduceEqDiff, Nat.reduceAdd, Nat.reduceSub, Nat.reduceMul, Nat.reduceLeDiff, Nat.reduceLT, Nat.reduceBEq, reduceIte])
    · rintro ⟨⟩ rfl
      have h := hJ18
      try dsimp only [Out.fin] at h
      simp only [go_sem, Nat.reduceEqDiff, Nat.reduceAdd, Nat.reduceSub, Nat.reduceMul, Nat.reduceLeDiff, Nat.reduceLT, Nat.reduceBEq, reduceIte]
      refine AW.one ?_
      obtain ⟨oJ29, h, hJ29⟩ := obind h
      refine AW.join (S := Unit) (fun _ => [(2, .d (.val (.bool p2))), (3, .d (.val (.bool p3))), (4, .ptr 0 6 0 0)]) (fun _ => [some ⟨6, [[.d (.val (.int .i64 p0.op)), .d (.val (.string p0.name)), .d (.val (.bool p0.num.neg)), .d (slD u32V p0.num.num), .d (slD u32V p0.num.den), .d (slD NodeA.enc p0.kids)]]⟩]) (fun x => oJ29 = .go x) ?_ ?_
      · skip
        refine AW.one ?_
        obtain ⟨oJ31, h, hJ31⟩ := obind h
        refine AW.join (S := Bool) (fun v30_0 => [(2, .d (.val (.bool p2))), (3, .d (.val (.bool p3))), (4, .ptr 0 6 0 0), (76, .d (.val (.bool v30_0)))]) (fun v30_0 => [some ⟨6, [[.d (.val (.int .i64 p0.op)), .d (.val (.string p0.name)), .d (.val (.bool p0.num.neg)), .d (slD u32V p0.num.num), .d (slD u32V p0.num.den), .d (slD NodeA.enc p0.kids)]]⟩]) (fun x => x = oJ31) ?_ ?_
        · skip
          refine AW.reg mixed (by kernel_rfl) ?_
          try simp only [go_sem, Nat.reduceEqDiff, Nat.reduceAdd, Nat.reduceSub, Nat.reduceMul, Nat.reduceLeDiff, Nat.reduceLT, Nat.reduceBEq, reduceIte]
          refine splitK_intro (fun hb32 => ?_) (fun hb32 => ?_)
          · have h := ifT hb32 h
            try simp only [go_sem, Nat.reduceEqDiff, Nat.reduceAdd, Nat.reduceSub, Nat.reduceMul, Nat.reduceLeDiff, Nat.reduceLT, Nat.reduceBEq, reduceIte, hb32]
            refine splitK_intro (fun hb33 => ?_) (fun hb33 => ?_)
            · have h := ifT hb33 h
              try simp only [go_sem, Nat.reduceEqDiff, Nat.reduceAdd, Nat.reduceSub, Nat.reduceMul, Nat.reduceLeDiff, Nat.reduceLT, Nat.reduceBEq, reduceIte, hb32, hb33]
              refine JoinQ.mk true [0] (Option.some.inj h) (by simp only [go_sem, Nat.reduceEqDiff, Nat.reduceAdd, Nat.reduceSub, Nat.reduceMul, Nat.reduceLeDiff, Nat.reduceLT, Nat.reduceBEq, reduceIte, hb32, hb33])
            · have h := ifF hb33 h
              try simp only [go_sem, Nat.reduceEqDiff, Nat.reduceAdd, Nat.reduceSub, Nat.reduceMul, Nat.reduceLeDiff, Nat.reduceLT, Nat.reduceBEq, reduceIte, hb32, hb33]
              refine JoinQ.mk (p0.op == (3 : Int)) [0] (Option.some.inj h) (by simp only [go_sem, Nat.reduceEqDiff, Nat.reduceAdd, Nat.reduceSub, Nat.reduceMul, Nat.reduceLeDiff, Nat.reduceLT, Nat.reduceBEq, reduceIte, hb32, hb33])
          · have h := ifF hb32 h
            try simp only [go_sem, Nat.reduceEqDiff, Nat.reduceAdd, Nat.reduceSub, Nat.reduceMul, Nat.reduceLeDiff, Nat.reduceLT, Nat.reduceBEq, reduceIte, hb32]
            refine splitK_intro (fun hb34 => ?_) (fun hb34 => ?_)
            · have h := ifT hb34 h
              try simp only [go_sem, Nat.reduceEqDiff, Nat.reduceAdd, Nat.reduceSub, Nat.reduceMul, Nat.reduceLeDiff, Nat.reduceLT, Nat.reduceBEq, reduceIte, hb32, hb34]
              refine JoinQ.mk (p0.op == (3 : Int)) [0] (Option.some.inj h) (by simp only [go_sem, Nat.reduceEqDiff, Nat.reduceAdd, Nat.reduceSub, Nat.reduceMul, Nat.reduceLeDiff, Nat.reduceLT, Nat.reduceBEq, reduceIte, hb32, hb34])
            · have h := ifF hb34 h
              try simp only [go_sem, Nat.reduceEqDiff, Nat.reduceAdd, Nat.reduceSub, Nat.reduceMul, Nat.reduceLeDiff, Nat.reduceLT, Nat.reduceBEq, reduceIte, hb32, hb34]
              refine JoinQ.mk false [0] (Option.some.inj h) (by simp only [go_sem, Nat.reduceEqDiff, Nat.reduceAdd, Nat.reduceSub, Nat.reduceMul, Nat.reduceLeDiff, Nat.reduceLT, Nat.reduceBEq, reduceIte, hb32, hb34])
        · rintro v30_0 rfl
          have h := hJ31
          try dsimp only [Out.fin] at h
          simp only [go_sem, Nat.reduceEqDiff, Nat.reduceAdd, Nat.reduceSub, Nat.reduceMul, Nat.reduceLeDiff, Nat.reduceLT, Nat.reduceBEq, reduceIte]
          refine AW.test (t := v30_0) (by simp only [go_sem, Nat.reduceEqDiff, Nat.reduceAdd, Nat.reduceSub, Nat.reduceMul, Nat.reduceLeDiff, Nat.reduceLT, Nat.reduceBEq, reduceIte]) (fun hb35 => ?_) (fun hb35 => ?_)
          · have h := ifT hb35 h
            refine AW.one ?_
            refine AW.reg mixed (by kernel_rfl) ?_
            try simp only [go_sem, Nat.reduceEqDiff, Nat.reduceAdd, Nat.reduceSub, Nat.reduceMul, Nat.reduceLeDiff, Nat.reduceLT, Nat.reduceBEq, reduceIte]
            refine AW.ret ?_
            obtain ⟨_, h, ho⟩ := outM_some h
            rw [ho, Out.fin_out] at hJ29
            have h := h.trans hJ29
            obtain rfl := Option.some.inj h
            simp only [go_sem, Nat.reduceEqDiff, Nat.reduceAdd, Nat.reduceSub, Nat.reduceMul, Nat.reduceLeDiff, Nat.reduceLT, Nat.reduceBEq, reduceIte]
            exact .same _
          · have h := ifF hb35 h
            refine AW.skip ?_
            try simp only [go_sem, Nat.reduceEqDiff, Nat.reduceAdd, Nat.reduceSub, Nat.reduceMul, Nat.reduceLeDiff, Nat.reduceLT, Nat.reduceBEq, reduceIte]
            refine JoinQ.mk () [0] (Option.some.inj h).symm (by simp only [go_sem, Nat.reduceEqDiff, Nat.reduceAdd, Nat.reduceSub, Nat.reduceMul, Nat.reduceLeDiff, Nat.reduceLT, Nat.reduceBEq, reduceIte])
      · rintro ⟨⟩ rfl
        have h := hJ29
        try dsimp only [Out.fin] at h
        simp only [go_sem, Nat.reduceEqDiff, Nat.reduceAdd, Nat.reduceSub, Nat.reduceMul, Nat.reduceLeDiff, Nat.reduceLT, Nat.reduceBEq, reduceIte]
        refine AW.one ?_
        refine AW.one ?_
        refine AW.reg mixed (by kernel_rfl) ?_
        try simp only [go_sem, Nat.reduceEqDiff, Nat.reduceAdd, Nat.reduceSub, Nat.reduceMul, Nat.reduceLeDiff, Nat.reduceLT, Nat.reduceBEq, reduceIte]
        refine AW.cut [0] [(2, .d (.val (.bool p2))), (3, .d (.val (.bool p3))), (4, .ptr 0 6 0 0), (79, .d (.val (.bool (p0.op == (54 : Int)))))] [some ⟨6, [[.d (.val (.int .i64 p0.op)), .d (.val (.string p0.name)), .d (.val (.bool p0.num.neg)), .d (slD u32V p0.num.num), .d (slD u32V p0.num.den), .d (slD NodeA.enc p0.kids)]]⟩] (by simp only [go_sem, Nat.reduceEqDiff, Nat.reduceAdd, Nat.reduceSub, Nat.reduceMul, Nat.reduceLeDiff, Nat.reduceLT, Nat.reduceBEq, reduceIte]) ?_
        refine AW.test (t := (p0.op == (54 : Int))) (by simp only [go_sem, Nat.reduceEqDiff, Nat.reduceAdd, Nat.reduceSub, Nat.reduceMul, Nat.reduceLeDiff, Nat.reduceLT, Nat.reduceBEq, reduceIte]) (fun hb36 => ?_) (fun hb36 => ?_)
        · have h := ifT hb36 h
          refine AW.one ?_
          refine AW.reg mixed (by kernel_rfl) ?_
          try simp only [go_sem, Nat.reduceEqDiff, Nat.reduceAdd, Nat.reduceSub, Nat.reduceMul, Nat.reduceLeDiff, Nat.reduceLT, Nat.reduceBEq, reduceIte]
          obtain ⟨r37, hx38, h⟩ := obind h
          have hc := hself60 _ _ hx38
          try simp only [NodeA.enc_eta, RatA.enc_eta, aggV, i64V, u32V, strV, List.map_cons, List.map_nil] at hc
          refine callK_pure hc (by simp only [go_sem, Nat.reduceEqDiff, Nat.reduceAdd, Nat.reduceSub, Nat.reduceMul, Nat.reduceLeDiff, Nat.reduceLT, Nat.reduceBEq, reduceIte]) ?_
          try simp only [go_sem, Nat.reduceEqDiff, Nat.reduceAdd, Nat.reduceSub, Nat.reduceMul, Nat.reduceLeDiff, Nat.reduceLT, Nat.reduceBEq, reduceIte]
          refine AW.ret ?_
          obtain rfl := Option.some.inj h
          simp only [go_sem, Nat.reduceEqDiff, Nat.reduceAdd, Nat.reduceSub, Nat.reduceMul, Nat.reduceLeDiff, Nat.reduceLT, Nat.reduceBEq, reduceIte]
          exact .same _
        · have h := ifF hb36 h
          refine AW.skip ?_
          try simp only [go_sem, Nat.reduceEqDiff, Nat.reduceAdd, Nat.reduceSub, Nat.reduceMul, Nat.reduceLeDiff, Nat.reduceLT, Nat.reduceBEq, reduceIte]
          refine AW.cut [0] [(2, .d (.val (.bool p2))), (3, .d (.val (.bool p3))), (4, .ptr 0 6 0 0)] [some ⟨6, [[.d (.val (.int .i64 p0.op)), .d (.val (.string p0.name)), .d (.val (.bool p0.num.neg)), .d (slD u32V p0.num.num), .d (slD u32V p0.num.den), .d (slD NodeA.enc p0.kids)]]⟩] (by simp only [go_sem, Nat.reduceEqDiff, Nat.reduceAdd, Nat.reduceSub, Nat.reduceMul, Nat.reduceLeDiff, Nat.reduceLT, Nat.reduceBEq, reduceIte]) ?_
          refine AW.one ?_
          refine AW.reg mixed (by kernel_rfl) ?_
          try simp only [go_sem, Nat.reduceEqDiff, Nat.reduceAdd, Nat.reduceSub, Nat.reduceMul, Nat.reduceLeDiff, Nat.reduceLT, Nat.reduceBEq, reduceIte]
          obtain ⟨r39, hx40, h⟩ := obind h
          have hc := r08_kids_ok (h := hx40)
          try simp only [NodeA.enc_eta, RatA.enc_eta, aggV, i64V, u32V, strV, List.map_cons, List.map_nil] at hc
          refine callK_pure hc (by simp only [go_sem, Nat.reduceEqDiff, Nat.reduceAdd, Nat.reduceSub, Nat.reduceMul, Nat.reduceLeDiff, Nat.reduceLT, Nat.reduceBEq, reduceIte]) ?_
          try simp only [go_sem, Nat.reduceEqDiff, Nat.reduceAdd, Nat.reduceSub, Nat.reduceMul, Nat.reduceLeDiff, Nat.reduceLT, Nat.reduceBEq, reduceIte]
          refine AW.cut [0] [(2, .d (.val (.bool p2))), (3, .d (.val (.bool p3))), (4, .ptr 0 6 0 0), (9, .d (.val (.string r39)))] [some ⟨6, [[.d (.val (.int .i64 p0.op)), .d (.val (.string p0.name)), .d (.val (.bool p0.num.neg)), .d (slD u32V p0.num.num), .d (slD u32V p0.num.den), .d (slD NodeA.enc p0.kids)]]⟩] (by simp only [go_sem, Nat.reduceEqDiff, Nat.reduceAdd, Nat.reduceSub, Nat.reduceMul, Nat.reduceLeDiff, Nat.reduceLT, Nat.reduceBEq, reduceIte]) ?_
          refine AW.one ?_
          obtain ⟨oJ42, h, hJ42⟩ := obind h
          refine AW.join (S := ByteArray) (fun v41_0 => [(2, .d (.val (.bool p2))), (3, .d (.val (.bool p3))), (4, .ptr 0 6 0 0), (9, .d (.val (.string v41_0)))]) (fun v41_0 => [some ⟨6, [[.d (.val (.int .i64 p0.op)), .d (.val (.string p0.name)), .d (.val (.bool p0.num.neg)), .d (slD u32V p0.num.num), .d (slD u32V p0.num.den), .d (slD NodeA.enc p0.kids)]]⟩]) (fun x => x = oJ42) ?_ ?_
          · skip
            refine AW.one ?_
            obtain ⟨oJ44, h, hJ44⟩ := obind h
            refine AW.join (S := Bool) (fun v43_0 => [(2, .d (.val (.bool p2))), (3, .d (.val (.bool p3))), (4, .ptr 0 6 0 0), (9, .d (.val (.string r39))), (94, .d (.val (.bool v43_0)))]) (fun v43_0 => [some ⟨6, [[.d (.val (.int .i64 p0.op)), .d (.val (.string p0.name)), .d (.val (.bool p0.num.neg)), .d (slD u32V p0.num.num), .d (slD u32V p0.num.den), .d (slD NodeA.enc p0.kids)]]⟩]) (fun x => x = oJ44) ?_ ?_
            · skip
              refine AW.reg mixed (by kernel_rfl) ?_
              try simp only [go_sem, Nat.reduceEqDiff, Nat.reduceAdd, Nat.reduceSub, Nat.reduceMul, Nat.reduceLeDiff, Nat.reduceLT, Nat.reduceBEq, reduceIte]
              refine splitK_intro (fun hb45 => ?_) (fun hb45 => ?_)
              · have h := ifT hb45 h
                try simp only [go_sem, Nat.reduceEqDiff, Nat.reduceAdd, Nat.reduceSub, Nat.reduceMul, Nat.reduceLeDiff, Nat.reduceLT, Nat.reduceBEq, reduceIte, hb45]
                refine JoinQ.mk true [0] (Option.some.inj h) (by simp only [go_sem, Nat.reduceEqDiff, Nat.reduceAdd, Nat.reduceSub, Nat.reduceMul, Nat.reduceLeDiff, Nat.reduceLT, Nat.reduceBEq, reduceIte, hb45])
              · have h := ifF hb45 h
                try simp only [go_sem, Nat.reduceEqDiff, Nat.reduceAdd, Nat.reduceSub, Nat.reduceMul, Nat.reduceLeDiff, Nat.reduceLT, Nat.reduceBEq, reduceIte, hb45]
                refine JoinQ.mk (p0.op == (37 : Int)) [0] (Option.some.inj h) (by simp only [go_sem, Nat.reduceEqDiff, Nat.reduceAdd, Nat.reduceSub, Nat.reduceMul, Nat.reduceLeDiff, Nat.reduceLT, Nat.reduceBEq, reduceIte, hb45])
            · rintro v43_0 rfl
              have h := hJ44
              try dsimp only [Out.fin] at h
              simp only [go_sem, Nat.reduceEqDiff, Nat.reduceAdd, Nat.reduceSub, Nat.reduceMul, Nat.reduceLeDiff, Nat.reduceLT, Nat.reduceBEq, reduceIte]
              refine AW.test (t := v43_0) (by simp only [go_sem, Nat.reduceEqDiff, Nat.reduceAdd, Nat.reduceSub, Nat.reduceMul, Nat.reduceLeDiff, Nat.reduceLT, Nat.reduceBEq, reduceIte]) (fun hb46 => ?_) (fun hb46 => ?_)
              · have h := ifT hb46 h
                refine AW.one ?_
                refine AW.reg mixed (by kernel_rfl) ?_
                try simp only [go_sem, Nat.reduceEqDiff, Nat.reduceAdd, Nat.reduceSub, Nat.reduceMul, Nat.reduceLeDiff, Nat.reduceLT, Nat.reduceBEq, reduceIte]
                refine AW.cut [0] [(2, .d (.val (.bool p2))), (3, .d (.val (.bool p3))), (4, .ptr 0 6 0 0), (9, .d (.val (.string r39))), (98, .d (.val (.bool ((p0.kids.length : Int) == (1 : Int)))))] [some ⟨6, [[.d (.val (.int .i64 p0.op)), .d (.val (.string p0.name)), .d (.val (.bool p0.num.neg)), .d (slD u32V p0.num.num), .d (slD u32V p0.num.den), .d (slD NodeA.enc p0.kids)]]⟩] (by simp only [go_sem, Nat.reduceEqDiff, Nat.reduceAdd, Nat.reduceSub, Nat.reduceMul, Nat.reduceLeDiff, Nat.reduceLT, Nat.reduceBEq, reduceIte]) ?_
                refine AW.test (t := ((p0.kids.length : Int) == (1 : Int))) (by simp only [go_sem, Nat.reduceEqDiff, Nat.reduceAdd, Nat.reduceSub, Nat.reduceMul, Nat.reduceLeDiff, Nat.reduceLT, Nat.reduceBEq, reduceIte]) (fun hb47 => ?_) (fun hb47 => ?_)
                · have h := ifT hb47 h
                  refine AW.reg mixed (by kernel_rfl) ?_
                  try simp only [go_sem, Nat.reduceEqDiff, Nat.reduceAdd, Nat.reduceSub, Nat.reduceMul, Nat.reduceLeDiff, Nat.reduceLT, Nat.reduceBEq, reduceIte]
                  refine JoinQ.mk (⟨#[49]⟩ : ByteArray) [0] (Option.some.inj h) (by simp only [go_sem, Nat.reduceEqDiff, Nat.reduceAdd, Nat.reduceSub, Nat.reduceMul, Nat.reduceLeDiff, Nat.reduceLT, Nat.reduceBEq, reduceIte])
                · have h := ifF hb47 h
                  refine AW.skip ?_
                  try simp only [go_sem, Nat.reduceEqDiff, Nat.reduceAdd, Nat.reduceSub, Nat.reduceMul, Nat.reduceLeDiff, Nat.reduceLT, Nat.reduceBEq, reduceIte]
                  refine JoinQ.mk r39 [0] (Option.some.inj h) (by simp only [go_sem, Nat.reduceEqDiff, Nat.reduceAdd, Nat.reduceSub, Nat.reduceMul, Nat.reduceLeDiff, Nat.reduceLT, Nat.reduceBEq, reduceIte])
              · have h := ifF hb46 h
                refine AW.skip ?_
                try simp only [go_sem, Nat.reduceEqDiff, Nat.reduceAdd, Nat.reduceSub, Nat.reduceMul, Nat.reduceLeDiff, Nat.reduceLT, Nat.reduceBEq, reduceIte]
                refine JoinQ.mk r39 [0] (Option.some.inj h) (by simp only [go_sem, Nat.reduceEqDiff, Nat.reduceAdd, Nat.reduceSub, Nat.reduceMul, Nat.reduceLeDiff, Nat.reduceLT, Nat.reduceBEq, reduceIte])
          · rintro v41_0 rfl
            have h := hJ42
            try dsimp only [Out.fin] at h
            simp only [go_sem, Nat.reduceEqDiff, Nat.reduceAdd, Nat.reduceSub, Nat.reduceMul, Nat.reduceLeDiff, Nat.reduceLT, Nat.reduceBEq, reduceIte]
            refine AW.one ?_
            refine AW.one ?_
            refine AW.reg mixed (by kernel_rfl) ?_
            try simp only [go_sem, Nat.reduceEqDiff, Nat.reduceAdd, Nat.reduceSub, Nat.reduceMul, Nat.reduceLeDiff, Nat.reduceLT, Nat.reduceBEq, reduceIte]
            refine AW.cut [0] [(2, .d (.val (.bool p2))), (3, .d (.val (.bool p3))), (4, .ptr 0 6 0 0), (9, .d (.val (.string v41_0))), (104, .d (.val (.bool ((v41_0.size : Int) != (p0.kids.length : Int)))))] [some ⟨6, [[.d (.val (.int .i64 p0.op)), .d (.val (.string p0.name)), .d (.val (.bool p0.num.neg)), .d (slD u32V p0.num.num), .d (slD u32V p0.num.den), .d (slD NodeA.enc p0.kids)]]⟩] (by simp only [go_sem, Nat.reduceEqDiff, Nat.reduceAdd, Nat.reduceSub, Nat.reduceMul, Nat.reduceLeDiff, Nat.reduceLT, Nat.reduceBEq, reduceIte]) ?_
            refine AW.test (t := ((v41_0.size : Int) != (p0.kids.length : Int))) (by simp only [go_sem, Nat.reduceEqDiff, Nat.reduceAdd, Nat.reduceSub, Nat.reduceMul, Nat.reduceLeDiff, Nat.reduceLT, Nat.reduceBEq, reduceIte]) (fun hb48 => ?_) (fun hb48 => ?_)
            · have h := ifT hb48 h
              refine AW.one ?_
              refine AW.reg mixed (by kernel_rfl) ?_
              try simp only [go_sem, Nat.reduceEqDiff, Nat.reduceAdd, Nat.reduceSub, Nat.reduceMul, Nat.reduceLeDiff, Nat.reduceLT, Nat.reduceBEq, reduceIte]
              refine AW.ret ?_
              obtain rfl := Option.some.inj h
              simp only [go_sem, Nat.reduceEqDiff, Nat.reduceAdd, Nat.reduceSub, Nat.reduceMul, Nat.reduceLeDiff, Nat.reduceLT, Nat.reduceBEq, reduceIte]
              exact .same _
            · have h := ifF hb48 h
              refine AW.skip ?_
              try simp only [go_sem, Nat.reduceEqDiff, Nat.reduceAdd, Nat.reduceSub, Nat.reduceMul, Nat.reduceLeDiff, Nat.reduceLT, Nat.reduceBEq, reduceIte]
              refine AW.cut [0] [(2, .d (.val (.bool p2))), (3, .d (.val (.bool p3))), (4, .ptr 0 6 0 0), (9, .d (.val (.string v41_0)))] [some ⟨6, [[.d (.val (.int .i64 p0.op)), .d (.val (.string p0.name)), .d (.val (.bool p0.num.neg)), .d (slD u32V p0.num.num), .d (slD u32V p0.num.den), .d (slD NodeA.enc p0.kids)]]⟩] (by simp only [go_sem, Nat.reduceEqDiff, Nat.reduceAdd, Nat.reduceSub, Nat.reduceMul, Nat.reduceLeDiff, Nat.reduceLT, Nat.reduceBEq, reduceIte]) ?_
              refine AW.one ?_
              refine AW.one ?_
              refine AW.reg mixed (by kernel_rfl) ?_
              try simp only [go_sem, Nat.reduceEqDiff, Nat.reduceAdd, Nat.reduceSub, Nat.reduceMul, Nat.reduceLeDiff, Nat.reduceLT, Nat.reduceBEq, reduceIte]
              refine AW.cut [0] [(2, .d (.val (.bool p2))), (3, .d (.val (.bool p3))), (4, .ptr 0 6 0 0), (9, .d (.val (.string v41_0))), (10, .d (.val (.int .i64 (0 : Int))))] [some ⟨6, [[.d (.val (.int .i64 p0.op)), .d (.val (.string p0.name)), .d (.val (.bool p0.num.neg)), .d (slD u32V p0.num.num), .d (slD u32V p0.num.den), .d (slD NodeA.enc p0.kids)]]⟩] (by simp only [go_sem, Nat.reduceEqDiff, Nat.reduceAdd, Nat.reduceSub, Nat.reduceMul, Nat.reduceLeDiff, Nat.reduceLT, Nat.reduceBEq, reduceIte]) ?_
              obtain ⟨oJ52, h, hJ52⟩ := obind h
              refine AW.join (S := Unit) (fun _ => [(4, .ptr 0 6 0 0)]) (fun _ => [some ⟨6, [[.d (.val (.int .i64 p0.op)), .d (.val (.string p0.name)), .d (.val (.bool p0.num.neg)), .d (slD u32V p0.num.num), .d (slD u32V p0.num.den), .d (slD NodeA.enc p0.kids)]]⟩]) (fun x => oJ52 = .go x) ?_ ?_
              · refine AW.block ?_
                refine AW.iter (S := Int) (fun i49_0 => [(2, .d (.val (.bool p2))), (3, .d (.val (.bool p3))), (4, .ptr 0 6 0 0), (9, .d (.val (.string v41_0))), (10, .d (.val (.int .i64 i49_0)))]) (fun i49_0 => [some ⟨6, [[.d (.val (.int .i64 p0.op)), .d (.val (.string p0.name)), .d (.val (.bool p0.num.neg)), .d (slD u32V p0.num.num), .d (slD u32V p0.num.den), .d (slD NodeA.enc p0.kids)]]⟩]) [0] h (by simp only [go_sem, Nat.reduceEqDiff, Nat.reduceAdd, Nat.reduceSub, Nat.reduceMul, Nat.reduceLeDiff, Nat.reduceLT, Nat.reduceBEq, reduceIte]) ?_
                rintro again i49_0 h
                try dsimp only at h
                refine AW.one ?_
                refine AW.one ?_
                refine AW.reg mixed (by kernel_rfl) ?_
                try simp only [go_sem, Nat.reduceEqDiff, Nat.reduceAdd, Nat.reduceSub, Nat.reduceMul, Nat.reduceLeDiff, Nat.reduceLT, Nat.reduceBEq, reduceIte]
                refine AW.cut [0] [(2, .d (.val (.bool p2))), (3, .d (.val (.bool p3))), (4, .ptr 0 6 0 0), (9, .d (.val (.string v41_0))), (10, .d (.val (.int .i64 i49_0))), (108, .d (.val (.bool (decide (i49_0 < (v41_0.size : Int))))))] [some ⟨6, [[.d (.val (.int .i64 p0.op)), .d (.val (.string p0.name)), .d (.val (.bool p0.num.neg)), .d (slD u32V p0.num.num), .d (slD u32V p0.num.den), .d (slD NodeA.enc p0.kids)]]⟩] (by simp only [go_sem, Nat.reduceEqDiff, Nat.reduceAdd, Nat.reduceSub, Nat.reduceMul, Nat.reduceLeDiff, Nat.reduceLT, Nat.reduceBEq, reduceIte]) ?_
                refine AW.test (t := (decide (i49_0 < (v41_0.size : Int)))) (by simp only [go_sem, Nat.reduceEqDiff, Nat.reduceAdd, Nat.reduceSub, Nat.reduceMul, Nat.reduceLeDiff, Nat.reduceLT, Nat.reduceBEq, reduceIte]) (fun hb53 => ?_) (fun hb53 => ?_)
                · have h := ifT hb53 h
                  refine AW.skip ?_
                  try simp only [go_sem, Nat.reduceEqDiff, Nat.reduceAdd, Nat.reduceSub, Nat.reduceMul, Nat.reduceLeDiff, Nat.reduceLT, Nat.reduceBEq, reduceIte]
                  refine AW.cut [0] [(2, .d (.val (.bool p2))), (3, .d (.val (.bool p3))), (4, .ptr 0 6 0 0), (9, .d (.val (.string v41_0))), (10, .d (.val (.int .i64 i49_0)))] [some ⟨6, [[.d (.val (.int .i64 p0.op)), .d (.val (.string p0.name)), .d (.val (.bool p0.num.neg)), .d (slD u32V p0.num.num), .d (slD u32V p0.num.den), .d (slD NodeA.enc p0.kids)]]⟩] (by simp only [go_sem, Nat.reduceEqDiff, Nat.reduceAdd, Nat.reduceSub, Nat.reduceMul, Nat.reduceLeDiff, Nat.reduceLT, Nat.reduceBEq, reduceIte]) ?_
                  refine AW.one ?_
                  obtain ⟨oJ55, h, hJ55⟩ := obind h
                  refine AW.join (S := Unit) (fun _ => [(2, .d (.val (.bool p2))), (3, .d (.val (.bool p3))), (4, .ptr 0 6 0 0), (9, .d (.val (.string v41_0))), (10, .d (.val (.int .i64 i49_0)))]) (fun _ => [some ⟨6, [[.d (.val (.int .i64 p0.op)), .d (.val (.string p0.name)), .d (.val (.bool p0.num.neg)), .d (slD u32V p0.num.num), .d (slD u32V p0.num.den), .d (slD NodeA.enc p0.kids)]]⟩]) (fun x => oJ55 = .go x) ?_ ?_
                  · skip
                    refine AW.block ?_
                    refine AW.one ?_
                    obtain ⟨oJ57, h, hJ57⟩ := obind h
                    refine AW.join (S := Bool) (fun v56_0 => [(2, .d (.val (.bool p2))), (3, .d (.val (.bool p3))), (4, .ptr 0 6 0 0), (9, .d (.val (.string v41_0))), (10, .d (.val (.int .i64 i49_0))), (134, .d (.val (.bool v56_0)))]) (fun v56_0 => [some ⟨6, [[.d (.val (.int .i64 p0.op)), .d (.val (.string p0.name)), .d (.val (.bool p0.num.neg)), .d (slD u32V p0.num.num), .d (slD u32V p0.num.den), .d (slD NodeA.enc p0.kids)]]⟩]) (fun x => x = oJ57) ?_ ?_
                    · skip
                      refine AW.reg mixed (by kernel_rfl) ?_
                      obtain ⟨x58, hx59, h⟩ := obind h
                      obtain ⟨c60, hx61, h⟩ := obind h
                      try simp only [go_sem, Nat.reduceEqDiff, Nat.reduceAdd, Nat.reduceSub, Nat.reduceMul, Nat.reduceLeDiff, Nat.reduceLT, Nat.reduceBEq, reduceIte, (idx_some hx59).1, (idx_some hx59).2, hx61, cv_int (P := Try.prog) Try.underlying5 Try.underlying3]
                      refine splitK_intro (fun hb62 => ?_) (fun hb62 => ?_)
                      · have h := ifT hb62 h
                        try simp only [go_sem, Nat.reduceEqDiff, Nat.reduceAdd, Nat.reduceSub, Nat.reduceMul, Nat.reduceLeDiff, Nat.reduceLT, Nat.reduceBEq, reduceIte, (idx_some hx59).1, (idx_some hx59).2, hx61, cv_int (P := Try.prog) Try.underlying5 Try.underlying3, hb62]
                        refine splitK_intro (fun hb63 => ?_) (fun hb63 => ?_)
                        · have h := ifT hb63 h
                          try simp only [go_sem, Nat.reduceEqDiff, Nat.reduceAdd, Nat.reduceSub, Nat.reduceMul, Nat.reduceLeDiff, Nat.reduceLT, Nat.reduceBEq, reduceIte, (idx_some hx59).1, (idx_some hx59).2, hx61, cv_int (P := Try.prog) Try.underlying5 Try.underlying3, hb62, hb63]
                          obtain ⟨r64, hx65, h⟩ := obind h
                          have hc := hself42 _ _ hx65
                          try simp only [NodeA.enc_eta, RatA.enc_eta, aggV, i64V, u32V, strV, List.map_cons, List.map_nil] at hc
                          refine pcallK_intro hc (by simp only [go_sem, Nat.reduceEqDiff, Nat.reduceAdd, Nat.reduceSub, Nat.reduceMul, Nat.reduceLeDiff, Nat.reduceLT, Nat.reduceBEq, reduceIte]) ?_
                          try simp only [go_sem, Nat.reduceEqDiff, Nat.reduceAdd, Nat.reduceSub, Nat.reduceMul, Nat.reduceLeDiff, Nat.reduceLT, Nat.reduceBEq, reduceIte, (idx_some hx59).1, (idx_some hx59).2, hx61, cv_int (P := Try.prog) Try.underlying5 Try.underlying3, hb62, hb63]
                          refine JoinQ.mk (!r64) [0] (Option.some.inj h) (by simp only [go_sem, Nat.reduceEqDiff, Nat.reduceAdd, Nat.reduceSub, Nat.reduceMul, Nat.reduceLeDiff, Nat.reduceLT, Nat.reduceBEq, reduceIte, (idx_some hx59).1, (idx_some hx59).2, hx61, cv_int (P := Try.prog) Try.underlying5 Try.underlying3, hb62, hb63])
                        · have h := ifF hb63 h
                          try simp only [go_sem, Nat.reduceEqDiff, Nat.reduceAdd, Nat.reduceSub, Nat.reduceMul, Nat.reduceLeDiff, Nat.reduceLT, Nat.reduceBEq, reduceIte, (idx_some hx59).1, (idx_some hx59).2, hx61, cv_int (P := Try.prog) Try.underlying5 Try.underlying3, hb62, hb63]
                          obtain ⟨r66, hx67, h⟩ := obind h
                          have hc := hself42 _ _ hx67
                          try simp only [NodeA.enc_eta, RatA.enc_eta, aggV, i64V, u32V, strV, List.map_cons, List.map_nil] at hc
                          refine pcallK_intro hc (by simp only [go_sem, Nat.reduceEqDiff, Nat.reduceAdd, Nat.reduceSub, Nat.reduceMul, Nat.reduceLeDiff, Nat.reduceLT, Nat.reduceBEq, reduceIte]) ?_
                          try simp only [go_sem, Nat.reduceEqDiff, Nat.reduceAdd, Nat.reduceSub, Nat.reduceMul, Nat.reduceLeDiff, Nat.reduceLT, Nat.reduceBEq, reduceIte, (idx_some hx59).1, (idx_some hx59).2, hx61, cv_int (P := Try.prog) Try.underlying5 Try.underlying3, hb62, hb63]
                          refine JoinQ.mk (!r66) [0] (Option.some.inj h) (by simp only [go_sem, Nat.reduceEqDiff, Nat.reduceAdd, Nat.reduceSub, Nat.reduceMul, Nat.reduceLeDiff, Nat.reduceLT, Nat.reduceBEq, reduceIte, (idx_some hx59).1, (idx_some hx59).2, hx61, cv_int (P := Try.prog) Try.underlying5 Try.underlying3, hb62, hb63])
                      · have h := ifF hb62 h
                        try simp only [go_sem, Nat.reduceEqDiff, Nat.reduceAdd, Nat.reduceSub, Nat.reduceMul, Nat.reduceLeDiff, Nat.reduceLT, Nat.reduceBEq, reduceIte, (idx_some hx59).1, (idx_some hx59).2, hx61, cv_int (P := Try.prog) Try.underlying5 Try.underlying3, hb62]
                        refine splitK_intro (fun hb68 => ?_) (fun hb68 => ?_)
                        · have h := ifT hb68 h
                          try simp only [go_sem, Nat.reduceEqDiff, Nat.reduceAdd, Nat.reduceSub, Nat.reduceMul, Nat.reduceLeDiff, Nat.reduceLT, Nat.reduceBEq, reduceIte, (idx_some hx59).1, (idx_some hx59).2, hx61, cv_int (P := Try.prog) Try.underlying5 Try.underlying3, hb62, hb68]
                          obtain ⟨r69, hx70, h⟩ := obind h
                          have hc := hself42 _ _ hx70
                          try simp only [NodeA.enc_eta, RatA.enc_eta, aggV, i64V, u32V, strV, List.map_cons, List.map_nil] at hc
                          refine pcallK_intro hc (by simp only [go_sem, Nat.reduceEqDiff, Nat.reduceAdd, Nat.reduceSub, Nat.reduceMul, Nat.reduceLeDiff, Nat.reduceLT, Nat.reduceBEq, reduceIte]) ?_
                          try simp only [go_sem, Nat.reduceEqDiff, Nat.reduceAdd, Nat.reduceSub, Nat.reduceMul, Nat.reduceLeDiff, Nat.reduceLT, Nat.reduceBEq, reduceIte, (idx_some hx59).1, (idx_some hx59).2, hx61, cv_int (P := Try.prog) Try.underlying5 Try.underlying3, hb62, hb68]
                          refine JoinQ.mk (!r69) [0] (Option.some.inj h) (by simp only [go_sem, Nat.reduceEqDiff, Nat.reduceAdd, Nat.reduceSub, Nat.reduceMul, Nat.reduceLeDiff, Nat.reduceLT, Nat.reduceBEq, reduceIte, (idx_some hx59).1, (idx_some hx59).2, hx61, cv_int (P := Try.prog) Try.underlying5 Try.underlying3, hb62, hb68])
                        · have h := ifF hb68 h
                          try simp only [go_sem, Nat.reduceEqDiff, Nat.reduceAdd, Nat.reduceSub, Nat.reduceMul, Nat.reduceLeDiff, Nat.reduceLT, Nat.reduceBEq, reduceIte, (idx_some hx59).1, (idx_some hx59).2, hx61, cv_int (P := Try.prog) Try.underlying5 Try.underlying3, hb62, hb68]
                          obtain ⟨r71, hx72, h⟩ := obind h
                          have hc := hself42 _ _ hx72
                          try simp only [NodeA.enc_eta, RatA.enc_eta, aggV, i64V, u32V, strV, List.map_cons, List.map_nil] at hc
                          refine pcallK_intro hc (by simp only [go_sem, Nat.reduceEqDiff, Nat.reduceAdd, Nat.reduceSub, Nat.reduceMul, Nat.reduceLeDiff, Nat.reduceLT, Nat.reduceBEq, reduceIte]) ?_
                          try simp only [go_sem, Nat.reduceEqDiff, Nat.reduceAdd, Nat.reduceSub, Nat.reduceMul, Nat.reduceLeDiff, Nat.reduceLT, Nat.reduceBEq, reduceIte, (idx_some hx59).1, (idx_some hx59).2, hx61, cv_int (P := Try.prog) Try.underlying5 Try.underlying3, hb62, hb68]
                          refine JoinQ.mk (!r71) [0] (Option.some.inj h) (by simp only [go_sem, Nat.reduceEqDiff, Nat.reduceAdd, Nat.reduceSub, Nat.reduceMul, Nat.reduceLeDiff, Nat.reduceLT, Nat.reduceBEq, reduceIte, (idx_some hx59).1, (idx_some hx59).2, hx61, cv_int (P := Try.prog) Try.underlying5 Try.underlying3, hb62, hb68])
                    · rintro v56_0 rfl
                      have h := hJ57
                      try dsimp only [Out.fin] at h
                      simp only [go_sem, Nat.reduceEqDiff, Nat.reduceAdd, Nat.reduceSub, Nat.reduceMul, Nat.reduceLeDiff, Nat.reduceLT, Nat.reduceBEq, reduceIte]
                      refine AW.test (t := v56_0) (by simp only [go_sem, Nat.reduceEqDiff, Nat.reduceAdd, Nat.reduceSub, Nat.reduceMul, Nat.reduceLeDiff, Nat.reduceLT, Nat.reduceBEq, reduceIte]) (fun hb73 => ?_) (fun hb73 => ?_)
                      · have h := ifT hb73 h
                        refine AW.one ?_
                        refine AW.reg mixed (by kernel_rfl) ?_
                        try simp only [go_sem, Nat.reduceEqDiff, Nat.reduceAdd, Nat.reduceSub, Nat.reduceMul, Nat.reduceLeDiff, Nat.reduceLT, Nat.reduceBEq, reduceIte]
                        refine AW.ret ?_
                        obtain ⟨_, h, ho⟩ := outM_some h
                        rw [ho, Out.fin_out] at hJ55
                        have h := h.trans hJ55
                        obtain ⟨_, h, ho⟩ := outM_some h
                        rw [ho, Out.fin_out] at hJ52
                        have h := h.trans hJ52
                        obtain rfl := Option.some.inj h
                        simp only [go_sem, Nat.reduceEqDiff, Nat.reduceAdd, Nat.reduceSub, Nat.reduceMul, Nat.reduceLeDiff, Nat.reduceLT, Nat.reduceBEq, reduceIte]
                        exact .same _
                      · have h := ifF hb73 h
                        refine AW.skip ?_
                        try simp only [go_sem, Nat.reduceEqDiff, Nat.reduceAdd, Nat.reduceSub, Nat.reduceMul, Nat.reduceLeDiff, Nat.reduceLT, Nat.reduceBEq, reduceIte]
                        refine JoinQ.mk () [0] (Option.some.inj h).symm (by simp only [go_sem, Nat.reduceEqDiff, Nat.reduceAdd, Nat.reduceSub, Nat.reduceMul, Nat.reduceLeDiff, Nat.reduceLT, Nat.reduceBEq, reduceIte])
                  · rintro ⟨⟩ rfl
                    have h := hJ55
                    try dsimp only [Out.fin] at h
                    simp only [go_sem, Nat.reduceEqDiff, Nat.reduceAdd, Nat.reduceSub, Nat.reduceMul, Nat.reduceLeDiff, Nat.reduceLT, Nat.reduceBEq, reduceIte]
                    refine AW.reg mixed (by kernel_rfl) ?_
                    try simp only [go_sem, Nat.reduceEqDiff, Nat.reduceAdd, Nat.reduceSub, Nat.reduceMul, Nat.reduceLeDiff, Nat.reduceLT, Nat.reduceBEq, reduceIte]
                    refine NextQ.mk (IntKind.wrap .i64 (i49_0 + (1 : Int))) [0] h (by simp only [go_sem, Nat.reduceEqDiff, Nat.reduceAdd, Nat.reduceSub, Nat.reduceMul, Nat.reduceLeDiff, Nat.reduceLT, Nat.reduceBEq, reduceIte])
                · have h := ifF hb53 h
                  refine AW.exit ?_
                  try simp only [go_sem, Nat.reduceEqDiff, Nat.reduceAdd, Nat.reduceSub, Nat.reduceMul, Nat.reduceLeDiff, Nat.reduceLT, Nat.reduceBEq, reduceIte]
                  refine JoinQ.mk () [0] (Option.some.inj h).symm (by simp only [go_sem, Nat.reduceEqDiff, Nat.reduceAdd, Nat.reduceSub, Nat.reduceMul, Nat.reduceLeDiff, Nat.reduceLT, Nat.reduceBEq, reduceIte])
              · rintro ⟨⟩ rfl
                have h := hJ52
                try dsimp only [Out.fin] at h
                simp only [go_sem, Nat.reduceEqDiff, Nat.reduceAdd, Nat.reduceSub, Nat.reduceMul, Nat.reduceLeDiff, Nat.reduceLT, Nat.reduceBEq, reduceIte]
                refine AW.cut [0] [(4, .ptr 0 6 0 0)] [some ⟨6, [[.d (.val (.int .i64 p0.op)), .d (.val (.string p0.name)), .d (.val (.bool p0.num.neg)), .d (slD u32V p0.num.num), .d (slD u32V p0.num.den), .d (slD NodeA.enc p0.kids)]]⟩] (by simp only [go_sem, Nat.reduceEqDiff, Nat.reduceAdd, Nat.reduceSub, Nat.reduceMul, Nat.reduceLeDiff, Nat.reduceLT, Nat.reduceBEq, reduceIte]) ?_
                refine AW.one ?_
                refine AW.one ?_
                refine AW.reg mixed (by kernel_rfl) ?_
                try simp only [go_sem, Nat.reduceEqDiff, Nat.reduceAdd, Nat.reduceSub, Nat.reduceMul, Nat.reduceLeDiff, Nat.reduceLT, Nat.reduceBEq, reduceIte]
                refine AW.cut [0] [(4, .ptr 0 6 0 0), (136, .d (.val (.int .i64 p0.op)))] [some ⟨6, [[.d (.val (.int .i64 p0.op)), .d (.val (.string p0.name)), .d (.val (.bool p0.num.neg)), .d (slD u32V p0.num.num), .d (slD u32V p0.num.den), .d (slD NodeA.enc p0.kids)]]⟩] (by simp only [go_sem, Nat.reduceEqDiff, Nat.reduceAdd, Nat.reduceSub, Nat.reduceMul, Nat.reduceLeDiff, Nat.reduceLT, Nat.reduceBEq, reduceIte]) ?_
                refine AW.block ?_
                refine AW.one ?_
                refine AW.reg mixed (by kernel_rfl) ?_
                try simp only [go_sem, Nat.reduceEqDiff, Nat.reduceAdd, Nat.reduceSub, Nat.reduceMul, Nat.reduceLeDiff, Nat.reduceLT, Nat.reduceBEq, reduceIte]
                refine AW.cut [0] [(4, .ptr 0 6 0 0), (136, .d (.val (.int .i64 p0.op))), (137, .d (.val (.bool (p0.op == (8 : Int)))))] [some ⟨6, [[.d (.val (.int .i64 p0.op)), .d (.val (.string p0.name)), .d (.val (.bool p0.num.neg)), .d (slD u32V p0.num.num), .d (slD u32V p0.num.den), .d (slD NodeA.enc p0.kids)]]⟩] (by simp only [go_sem, Nat.reduceEqDiff, Nat.reduceAdd, Nat.reduceSub, Nat.reduceMul, Nat.reduceLeDiff, Nat.reduceLT, Nat.reduceBEq, reduceIte]) ?_
                refine AW.test (t := (p0.op == (8 : Int))) (by simp only [go_sem, Nat.reduceEqDiff, Nat.reduceAdd, Nat.reduceSub, Nat.reduceMul, Nat.reduceLeDiff, Nat.reduceLT, Nat.reduceBEq, reduceIte]) (fun hb74 => ?_) (fun hb74 => ?_)
                · have h := ifT hb74 h
                  refine AW.one ?_
                  refine AW.reg mixed (by kernel_rfl) ?_
                  obtain ⟨x75, hx76, h⟩ := obind h
                  try simp only [go_sem, Nat.reduceEqDiff, Nat.reduceAdd, Nat.reduceSub, Nat.reduceMul, Nat.reduceLeDiff, Nat.reduceLT, Nat.reduceBEq, reduceIte, (idx_some hx76).1, (idx_some hx76).2]
                  refine splitK_intro (fun hb77 => ?_) (fun hb77 => ?_)
                  · have h := ifT hb77 h
                    try simp only [go_sem, Nat.reduceEqDiff, Nat.reduceAdd, Nat.reduceSub, Nat.reduceMul, Nat.reduceLeDiff, Nat.reduceLT, Nat.reduceBEq, reduceIte, (idx_some hx76).1, (idx_some hx76).2, hb77]
                    refine AW.ret ?_
                    obtain rfl := Option.some.inj h
                    simp only [go_sem, Nat.reduceEqDiff, Nat.reduceAdd, Nat.reduceSub, Nat.reduceMul, Nat.reduceLeDiff, Nat.reduceLT, Nat.reduceBEq, reduceIte]
                    exact .same _
                  · have h := ifF hb77 h
                    try simp only [go_sem, Nat.reduceEqDiff, Nat.reduceAdd, Nat.reduceSub, Nat.reduceMul, Nat.reduceLeDiff, Nat.reduceLT, Nat.reduceBEq, reduceIte, (idx_some hx76).1, (idx_some hx76).2, hb77]
                    refine AW.ret ?_
                    obtain rfl := Option.some.inj h
                    simp only [go_sem, Nat.reduceEqDiff, Nat.reduceAdd, Nat.reduceSub, Nat.reduceMul, Nat.reduceLeDiff, Nat.reduceLT, Nat.reduceBEq, reduceIte]
                    exact .same _
                · have h := ifF hb74 h
                  refine AW.one ?_
                  refine AW.reg mixed (by kernel_rfl) ?_
                  try simp only [go_sem, Nat.reduceEqDiff, Nat.reduceAdd, Nat.reduceSub, Nat.reduceMul, Nat.reduceLeDiff, Nat.reduceLT, Nat.reduceBEq, reduceIte]
                  refine AW.cut [0] [(4, .ptr 0 6 0 0), (136, .d (.val (.int .i64 p0.op))), (155, .d (.val (.bool (p0.op == (9 : Int)))))] [some ⟨6, [[.d (.val (.int .i64 p0.op)), .d (.val (.string p0.name)), .d (.val (.bool p0.num.neg)), .d (slD u32V p0.num.num), .d (slD u32V p0.num.den), .d (slD NodeA.enc p0.kids)]]⟩] (by simp only [go_sem, Nat.reduceEqDiff, Nat.reduceAdd, Nat.reduceSub, Nat.reduceMul, Nat.reduceLeDiff, Nat.reduceLT, Nat.reduceBEq, reduceIte]) ?_
                  refine AW.test (t := (p0.op == (9 : Int))) (by simp only [go_sem, Nat.reduceEqDiff, Nat.reduceAdd, Nat.reduceSub, Nat.reduceMul, Nat.reduceLeDiff, Nat.reduceLT, Nat.reduceBEq, reduceIte]) (fun hb78 => ?_) (fun hb78 => ?_)
                  · have h := ifT hb78 h
                    refine AW.one ?_
                    refine AW.reg mixed (by kernel_rfl) ?_
                    obtain ⟨x79, hx80, h⟩ := obind h
                    try simp only [go_sem, Nat.reduceEqDiff, Nat.reduceAdd, Nat.reduceSub, Nat.reduceMul, Nat.reduceLeDiff, Nat.reduceLT, Nat.reduceBEq, reduceIte, (idx_some hx80).1, (idx_some hx80).2]
                    refine splitK_intro (fun hb81 => ?_) (fun hb81 => ?_)
                    · have h := ifT hb81 h
                      try simp only [go_sem, Nat.reduceEqDiff, Nat.reduceAdd, Nat.reduceSub, Nat.reduceMul, Nat.reduceLeDiff, Nat.reduceLT, Nat.reduceBEq, reduceIte, (idx_some hx80).1, (idx_some hx80).2, hb81]
                      obtain ⟨r82, hx83, h⟩ := obind h
                      have hc := r08_Natural_ok (h := hx83)
                      try simp only [NodeA.enc_eta, RatA.enc_eta, aggV, i64V, u32V, strV, List.map_cons, List.map_nil] at hc
                      refine callK_pure hc (by simp only [go_sem, Nat.reduceEqDiff, Nat.reduceAdd, Nat.reduceSub, Nat.reduceMul, Nat.reduceLeDiff, Nat.reduceLT, Nat.reduceBEq, reduceIte]) ?_
                      try simp only [go_sem, Nat.reduceEqDiff, Nat.reduceAdd, Nat.reduceSub, Nat.reduceMul, Nat.reduceLeDiff, Nat.reduceLT, Nat.reduceBEq, reduceIte, (idx_some hx80).1, (idx_some hx80).2, hb81]
                      refine AW.ret ?_
                      obtain rfl := Option.some.inj h
                      simp only [go_sem, Nat.reduceEqDiff, Nat.reduceAdd, Nat.reduceSub, Nat.reduceMul, Nat.reduceLeDiff, Nat.reduceLT, Nat.reduceBEq, reduceIte]
                      exact .same _
                    · have h := ifF hb81 h
                      try simp only [go_sem, Nat.reduceEqDiff, Nat.reduceAdd, Nat.reduceSub, Nat.reduceMul, Nat.reduceLeDiff, Nat.reduceLT, Nat.reduceBEq, reduceIte, (idx_some hx80).1, (idx_some hx80).2, hb81]
                      refine AW.ret ?_
                      obtain rfl := Option.some.inj h
                      simp only [go_sem, Nat.reduceEqDiff, Nat.reduceAdd, Nat.reduceSub, Nat.reduceMul, Nat.reduceLeDiff, Nat.reduceLT, Nat.reduceBEq, reduceIte]
                      exact .same _
                  · have h := ifF hb78 h
                    refine AW.one ?_
                    refine AW.reg mixed (by kernel_rfl) ?_
                    try simp only [go_sem, Nat.reduceEqDiff, Nat.reduceAdd, Nat.reduceSub, Nat.reduceMul, Nat.reduceLeDiff, Nat.reduceLT, Nat.reduceBEq, reduceIte]
                    refine AW.cut [0] [(4, .ptr 0 6 0 0), (172, .d (.val (.bool (p0.op == (39 : Int)))))] [some ⟨6, [[.d (.val (.int .i64 p0.op)), .d (.val (.string p0.name)), .d (.val (.bool p0.num.neg)), .d (slD u32V p0.num.num), .d (slD u32V p0.num.den), .d (slD NodeA.enc p0.kids)]]⟩] (by simp only [go_sem, Nat.reduceEqDiff, Nat.reduceAdd, Nat.reduceSub, Nat.reduceMul, Nat.reduceLeDiff, Nat.reduceLT, Nat.reduceBEq, reduceIte]) ?_
                    refine AW.test (t := (p0.op == (39 : Int))) (by simp only [go_sem, Nat.reduceEqDiff, Nat.reduceAdd, Nat.reduceSub, Nat.reduceMul, Nat.reduceLeDiff, Nat.reduceLT, Nat.reduceBEq, reduceIte]) (fun hb84 => ?_) (fun hb84 => ?_)
                    · have h := ifT hb84 h
                      refine AW.one ?_
                      refine AW.reg mixed (by kernel_rfl) ?_
                      obtain ⟨x85, hx86, h⟩ := obind h
                      try simp only [go_sem, Nat.reduceEqDiff, Nat.reduceAdd, Nat.reduceSub, Nat.reduceMul, Nat.reduceLeDiff, Nat.reduceLT, Nat.reduceBEq, reduceIte, (idx_some hx86).1, (idx_some hx86).2]
                      obtain ⟨r87, hx88, h⟩ := obind h
                      have hc := r08_differential_ok (h := hx88)
                      try simp only [NodeA.enc_eta, RatA.enc_eta, aggV, i64V, u32V, strV, List.map_cons, List.map_nil] at hc
                      refine callK_pure hc (by simp only [go_sem, Nat.reduceEqDiff, Nat.reduceAdd, Nat.reduceSub, Nat.reduceMul, Nat.reduceLeDiff, Nat.reduceLT, Nat.reduceBEq, reduceIte]) ?_
                      try simp only [go_sem, Nat.reduceEqDiff, Nat.reduceAdd, Nat.reduceSub, Nat.reduceMul, Nat.reduceLeDiff, Nat.reduceLT, Nat.reduceBEq, reduceIte, (idx_some hx86).1, (idx_some hx86).2]
                      refine AW.ret ?_
                      obtain rfl := Option.some.inj h
                      simp only [go_sem, Nat.reduceEqDiff, Nat.reduceAdd, Nat.reduceSub, Nat.reduceMul, Nat.reduceLeDiff, Nat.reduceLT, Nat.reduceBEq, reduceIte]
                      exact .same _
                    · have h := ifF hb84 h
                      refine AW.skip ?_
                      try simp only [go_sem, Nat.reduceEqDiff, Nat.reduceAdd, Nat.reduceSub, Nat.reduceMul, Nat.reduceLeDiff, Nat.reduceLT, Nat.reduceBEq, reduceIte]
                      refine AW.cut [] [] [] (by simp only [go_sem, Nat.reduceEqDiff, Nat.reduceAdd, Nat.reduceSub, Nat.reduceMul, Nat.reduceLeDiff, Nat.reduceLT, Nat.reduceBEq, reduceIte]) ?_
                      refine AW.one ?_
                      refine AW.reg mixed (by kernel_rfl) ?_
                      try simp only [go_sem, Nat.reduceEqDiff, Nat.reduceAdd, Nat.reduceSub, Nat.reduceMul, Nat.reduceLeDiff, Nat.reduceLT, Nat.reduceBEq, reduceIte]
                      refine AW.ret ?_
                      obtain rfl := Option.some.inj h
                      simp only [go_sem, Nat.reduceEqDiff, Nat.reduceAdd, Nat.reduceSub, Nat.reduceMul, Nat.reduceLeDiff, Nat.reduceLT, Nat.reduceBEq, reduceIte]
                      exact .same _
/-! ### isochrone/isochroneref08.flow -/
def r08_flow_body (K : Nat) (self42 : (NodeA × Int × Bool × Bool) → Option Bool) (self60 : (NodeA × Bool × Bool) → Option Bool) (p0 : NodeA) (p1 : Bool) (p2 : Bool) : Option Bool := ((
    ((
      if (decide ((p0.kids.length : Int) < (2 : Int))) then
        some true
      else
        (r08_primed K p0).bind fun r6 => 
        if r6 then
          some true
        else
          (idx p0.kids (IntKind.wrap .i64 ((p0.kids.length : Int) - (1 : Int)))).bind fun x9 => 
          (self42 (x9, (2 : Int), p1, p2)).bind fun r11 => 
          some (!r11)) : Option Bool).bind (fun v3_0 => 
    if v3_0 then
      outM (
        some false)
    else
      some (.go ()))) : Option (Out Unit _)).bind (Out.fin fun _ => 
  ((iter (S := Int) (R := Out Unit _) K (fun again i14_0 => 
    if (decide (i14_0 < (IntKind.wrap .i64 ((p0.kids.length : Int) - (1 : Int))))) then
      ((
        (idx p0.kids i14_0).bind fun x21 => 
        ((
          ((
            if (x21.op == (56 : Int)) then
              if (decide (i14_0 < (IntKind.wrap .i64 ((p0.kids.length : Int) - (2 : Int))))) then
                some true
              else
                if (x21.op != (56 : Int)) then
                  if (x21.op != (55 : Int)) then
                    some true
                  else
                    (self42 (x21, (4 : Int), p1, p2)).bind fun r31 => 
                    some (!r31)
                else
                  (self42 (x21, (4 : Int), p1, p2)).bind fun r33 => 
                  some (!r33)
            else
              if (x21.op != (56 : Int)) then
                if (x21.op != (55 : Int)) then
                  some true
                else
                  (self42 (x21, (4 : Int), p1, p2)).bind fun r37 => 
                  some (!r37)
              else
                (self42 (x21, (4 : Int), p1, p2)).bind fun r39 => 
                some (!r39)) : Option Bool).bind (fun v25_0 => 
          if v25_0 then
            outM (
              outM (
                outM (
                  some false)))
          else
            some (.go ()))) : Option (Out Unit _)).bind (Out.fin fun _ => 
        ((iter (S := Int) (R := Out Unit _) K (fun again i42_0 => 
          if (decide (i42_0 < i14_0)) then
            ((
              ((
                if (x21.op == (55 : Int)) then
                  (idx p0.kids i42_0).bind fun x52 => 
                  some (x52.name.toList == x21.name.toList)
                else
                  some false) : Option Bool).bind (fun v49_0 => 
              if v49_0 then
                outM (
                  outM (
                    outM (
                      outM (
                        some false))))
              else
                some (.go ()))) : Option (Out Unit _)).bind (Out.fin fun _ => 
            again (IntKind.wrap .i64 (i42_0 + (1 : Int))))
          else
            some (.go ())) (0 : Int)) : Option (Out Unit _)).bind (Out.fin fun _ => 
        some (.go ())))) : Option (Out Unit _)).bind (Out.fin fun _ => 
      again (IntKind.wrap .i64 (i14_0 + (1 : Int))))
    else
      some (.go ())) (0 : Int)) : Option (Out Unit _)).bind (Out.fin fun _ => 
  some true))
set_option maxHeartbeats 4000000 in
theorem r08_flow_step (K : Nat) (self42 : (NodeA × Int × Bool × Bool) → Option Bool) (self60 : (NodeA × Bool × Bool) → Option Bool) (hself42 : ∀ (q : NodeA × Int × Bool × Bool) (r : Bool), self42 q = some r → Cn Try.prog 42 [aggV q.1.enc, .d (.val (.int .i64 q.2.1)), .d (.val (.bool q.2.2.1)), .d (.val (.bool q.2.2.2))] (.d (.val (.bool r)))) (hself60 : ∀ (q : NodeA × Bool × Bool) (r : Bool), self60 q = some r → Cn Try.prog 60 [aggV q.1.enc, .d (.val (.bool q.2.1)), .d (.val (.bool q.2.2))] (.d (.val (.bool r)))) (p0 : NodeA) (p1 : Bool) (p2 : Bool) (r : Bool) (h : r08_flow_body K self42 self60 p0 p1 p2 = some r) : Cn Try.prog 60 [aggV p0.enc, .d (.val (.bool p1)), .d (.val (.bool p2))] (.d (.val (.bool r))) := by
  refine Cn.ofA mixed Try.func60 rfl Try.call60 Try.ntmps60 Try.results60 (by simp) (by simp only [go_sem, Nat.reduceEqDiff, Nat.reduceAdd, Nat.reduceSub, Nat.reduceMul, Nat.reduceLeDiff, Nat.reduceLT, Nat.reduceBEq, reduceIte]) fun hfit => ?_
  unfold r08_flow_body at h
  refine AW.cut [] [(0, .agg [.d (.val (.int .i64 p0.op)), .d (.val (.string p0.name)), .d (.val (.bool p0.num.neg)), .d (slD u32V p0.num.num), .d (slD u32V p0.num.den), .d (slD NodeA.enc p0.kids)]), (1, .d (.val (.bool p1))), (2, .d (.val (.bool p2)))] [] (by simp only [go_sem, Nat.reduceEqDiff, Nat.reduceAdd, Nat.reduceSub, Nat.reduceMul, Nat.reduceLeDiff, Nat.reduceLT, Nat.reduceBEq, reduceIte]) ?_
  refine AW.one ?_
  refine AW.reg mixed (by kernel_rfl) ?_
  try simp only [go_sem, Nat.reduceEqDiff, Nat.reduceAdd, Nat.reduceSub, Nat.reduceMul, Nat.reduceLeDiff, Nat.reduceLT, Nat.reduceBEq, reduceIte]
  refine AW.cut [0] [(1, .d (.val (.bool p1))), (2, .d (.val (.bool p2))), (3, .ptr 0 6 0 0)] [some ⟨6, [[.d (.val (.int .i64 p0.op)), .d (.val (.string p0.name)), .d (.val (.bool p0.num.neg)), .d (slD u32V p0.num.num), .d (slD u32V p0.num.den), .d (slD NodeA.enc p0.kids)]]⟩] (by simp only [go_sem, Nat.reduceEqDiff, Nat.reduceAdd, Nat.reduceSub, Nat.reduceMul, Nat.reduceLeDiff, Nat.reduceLT, Nat.reduceBEq, reduceIte]) ?_
  refine AW.one ?_
  refine AW.reg mixed (by kernel_rfl) ?_
  try simp only [go_sem, Nat.reduceEqDiff, Nat.reduceAdd, Nat.reduceSub, Nat.reduceMul, Nat.reduceLeDiff, Nat.reduceLT, Nat.reduceBEq, reduceIte]
  refine AW.cut [0] [(1, .d (.val (.bool p1))), (2, .d (.val (.bool p2))), (3, .ptr 0 6 0 0), (7, .d (.val (.int .i64 (p0.kids.length : Int))))] [some ⟨6, [[.d (.val (.int .i64 p0.op)), .d (.val (.string p0.name)), .d (.val (.bool p0.num.neg)), .d (slD u32V p0.num.num), .d (slD u32V p0.num.den), .d (slD NodeA.enc p0.kids)]]⟩] (by simp only [go_sem, Nat.reduceEqDiff, Nat.reduceAdd, Nat.reduceSub, Nat.reduceMul, Nat.reduceLeDiff, Nat.reduceLT, Nat.reduceBEq, reduceIte]) ?_
  refine AW.one ?_
  obtain ⟨oJ2, h, hJ2⟩ := obind h
  refine AW.join (S := Unit) (fun _ => [(1, .d (.val (.bool p1))), (2, .d (.val (.bool p2))), (3, .ptr 0 6 0 0), (7, .d (.val (.int .i64 (p0.kids.length : Int))))]) (fun _ => [some ⟨6, [[.d (.val (.int .i64 p0.op)), .d (.val (.string p0.name)), .d (.val (.bool p0.num.neg)), .d (slD u32V p0.num.num), .d (slD u32V p0.num.den), .d (slD NodeA.enc p0.kids)]]⟩]) (fun x => oJ2 = .go x) ?_ ?_
  · skip
    refine AW.one ?_
    obtain ⟨oJ4, h, hJ4⟩ := obind h
    refine AW.join (S := Bool) (fun v3_0 => [(1, .d (.val (.bool p1))), (2, .d (.val (.bool p2))), (3, .ptr 0 6 0 0), (7, .d (.val (.int .i64 (p0.kids.length : Int)))), (31, .d (.val (.bool v3_0)))]) (fun v3_0 => [some ⟨6, [[.d (.val (.int .i64 p0.op)), .d (.val (.string p0.name)), .d (.val (.bool p0.num.neg)), .d (slD u32V p0.num.num), .d (slD u32V p0.num.den), .d (slD NodeA.enc p0.kids)]]⟩]) (fun x => x = oJ4) ?_ ?_
    · skip
      refine AW.reg mixed (by kernel_rfl) ?_
      try simp only [go_sem, Nat.reduceEqDiff, Nat.reduceAdd, Nat.reduceSub, Nat.reduceMul, Nat.reduceLeDiff, Nat.reduceLT, Nat.reduceBEq, reduceIte]
      refine splitK_intro (fun hb5 => ?_) (fun hb5 => ?_)
      · have h := ifT hb5 h
        try simp only [go_sem, Nat.reduceEqDiff, Nat.reduceAdd, Nat.reduceSub, Nat.reduceMul, Nat.reduceLeDiff, Nat.reduceLT, Nat.reduceBEq, reduceIte, hb5]
        refine JoinQ.mk true [0] (Option.some.inj h) (by simp only [go_sem, Nat.reduceEqDiff, Nat.reduceAdd, Nat.reduceSub, Nat.reduceMul, Nat.reduceLeDiff, Nat.reduceLT, Nat.reduceBEq, reduceIte, hb5])
      · have h := ifF hb5 h
        try simp only [go_sem, Nat.reduceEqDiff, Nat.reduceAdd, Nat.reduceSub, Nat.reduceMul, Nat.reduceLeDiff, Nat.reduceLT, Nat.reduceBEq, reduceIte, hb5]
        obtain ⟨r6, hx7, h⟩ := obind h
        have hc := r08_primed_ok (h := hx7)
        try simp only [NodeA.enc_eta, RatA.enc_eta, aggV, i64V, u32V, strV, List.map_cons, List.map_nil] at hc
        refine callK_pure hc (by simp only [go_sem, Nat.reduceEqDiff, Nat.reduceAdd, Nat.reduceSub, Nat.reduceMul, Nat.reduceLeDiff, Nat.reduceLT, Nat.reduceBEq, reduceIte]) ?_
        try simp only [go_sem, Nat.reduceEqDiff, Nat.reduceAdd, Nat.reduceSub, Nat.reduceMul, Nat.reduceLeDiff, Nat.reduceLT, Nat.reduceBEq, reduceIte, hb5]
        refine splitK_intro (fun hb8 => ?_) (fun hb8 => ?_)
        · have h := ifT hb8 h
          try simp only [go_sem, Nat.reduceEqDiff, Nat.reduceAdd, Nat.reduceSub, Nat.reduceMul, Nat.reduceLeDiff, Nat.reduceLT, Nat.reduceBEq, reduceIte, hb5, hb8]
          refine JoinQ.mk true [0] (Option.some.inj h) (by simp only [go_sem, Nat.reduceEqDiff, Nat.reduceAdd, Nat.reduceSub, Nat.reduceMul, Nat.reduceLeDiff, Nat.reduceLT, Nat.reduceBEq, reduceIte, hb5, hb8])
        · have h := ifF hb8 h
          obtain ⟨x9, hx10, h⟩ := obind h
          try simp only [go_sem, Nat.reduceEqDiff, Nat.reduceAdd, Nat.reduceSub, Nat.reduceMul, Nat.reduceLeDiff, Nat.reduceLT, Nat.reduceBEq, reduceIte, hb5, hb8, (idx_some hx10).1, (idx_some hx10).2]
          obtain ⟨r11, hx12, h⟩ := obind h
          have hc := hself42 _ _ hx12
          try simp only [NodeA.enc_eta, RatA.enc_eta, aggV, i64V, u32V, strV, List.map_cons, List.map_nil] at hc
          refine callK_pure hc (by simp only [go_sem, Nat.reduceEqDiff, Nat.reduceAdd, Nat.reduceSub, Nat.reduceMul, Nat.reduceLeDiff, Nat.reduceLT, Nat.reduceBEq, reduceIte]) ?_
          try simp only [go_sem, Nat.reduceEqDiff, Nat.reduceAdd, Nat.reduceSub, Nat.reduceMul, Nat.reduceLeDiff, Nat.reduceLT, Nat.reduceBEq, reduceIte, hb5, hb8, (idx_some hx10).1, (idx_some hx10).2]
          refine JoinQ.mk (!r11) [0] (Option.some.inj h) (by simp only [go_sem, Nat.reduceEqDiff, Nat.reduceAdd, Nat.reduceSub, Nat.reduceMul, Nat.reduceLeDiff, Nat.reduceLT, Nat.reduceBEq, reduceIte, hb5, hb8, (idx_some hx10).1, (idx_some hx10).2])
    · rintro v3_0 rfl
      have h := hJ4
      try dsimp only [Out.fin] at h
      simp only [go_sem, Nat.reduceEqDiff, Nat.reduceAdd, Nat.reduceSub, Nat.reduceMul, Nat.reduceLeDiff, Nat.reduceLT, Nat.reduceBEq, reduceIte]
      refine AW.test (t := v3_0) (by simp only [go_sem, Nat.reduceEqDiff, Nat.reduceAdd, Nat.reduceSub, Nat.reduceMul, Nat.reduceLeDiff, Nat.reduceLT, Nat.reduceBEq, reduceIte]) (fun hb13 => ?_) (fun hb13 => ?_)
      · have h := ifT hb13 h
        refine AW.one ?_
        refine AW.reg mixed (by kernel_rfl) ?_
        try simp only [go_sem, Nat.reduceEqDiff, Nat.reduceAdd, Nat.reduceSub, Nat.reduceMul, Nat.reduceLeDiff, Nat.reduceLT, Nat.reduceBEq, reduceIte]
        refine AW.ret ?_
        obtain ⟨_, h, ho⟩ := outM_some h
        rw [ho, Out.fin_out] at hJ2
        have h := h.trans hJ2
        obtain rfl := Option.some.inj h
        simp only [go_sem, Nat.reduceEqDiff, Nat.reduceAdd, Nat.reduceSub, Nat.reduceMul, Nat.reduceLeDiff, Nat.reduceLT, Nat.reduceBEq, reduceIte]
        exact .same _
      · have h := ifF hb13 h
        refine AW.skip ?_
        try simp only [go_sem, Nat.reduceEqDiff, Nat.reduceAdd, Nat.reduceSub, Nat.reduceMul, Nat.reduceLeDiff, Nat.reduceLT, Nat.reduceBEq, reduceIte]
        refine JoinQ.mk () [0] (Option.some.inj h).symm (by simp only [go_sem, Nat.reduceEqDiff, Nat.reduceAdd, Nat.reduceSub, Nat.reduceMul, Nat.reduceLeDiff, Nat.reduceLT, Nat.reduceBEq, reduceIte])
  · rintro ⟨⟩ rfl
    have h := hJ2
    try dsimp only [Out.fin] at h
    simp only [go_sem, Nat.reduceEqDiff, Nat.reduceAdd, Nat.reduceSub, Nat.reduceMul, Nat.reduceLeDiff, Nat.reduceLT, Nat.reduceBEq, reduceIte]
    refine AW.one ?_
    refine AW.one ?_
    refine AW.reg mixed (by kernel_rfl) ?_
    try simp only [go_sem, Nat.reduceEqDiff, Nat.reduceAdd, Nat.reduceSub, Nat.reduceMul, Nat.reduceLeDiff, Nat.reduceLT, Nat.reduceBEq, reduceIte]
    refine AW.cut [0] [(1, .d (.val (.bool p1))), (2, .d (.val (.bool p2))), (3, .ptr 0 6 0 0), (7, .d (.val (.int .i64 (p0.kids.length : Int)))), (8, .d (.val (.int .i64 (0 : Int))))] [some ⟨6, [[.d (.val (.int .i64 p0.op)), .d (.val (.string p0.name)), .d (.val (.bool p0.num.neg)), .d (slD u32V p0.num.num), .d (slD u32V p0.num.den), .d (slD NodeA.enc p0.kids)]]⟩] (by simp only [go_sem, Nat.reduceEqDiff, Nat.reduceAdd, Nat.reduceSub, Nat.reduceMul, Nat.reduceLeDiff, Nat.reduceLT, Nat.reduceBEq, reduceIte]) ?_
    obtain ⟨oJ17, h, hJ17⟩ := obind h
    refine AW.join (S := Unit) (fun _ => []) (fun _ => []) (fun x => oJ17 = .go x) ?_ ?_
    · refine AW.block ?_
      refine AW.iter (S := Int) (fun i14_0 => [(1, .d (.val (.bool p1))), (2, .d (.val (.bool p2))), (3, .ptr 0 6 0 0), (7, .d (.val (.int .i64 (p0.kids.length : Int)))), (8, .d (.val (.int .i64 i14_0)))]) (fun i14_0 => [some ⟨6, [[.d (.val (.int .i64 p0.op)), .d (.val (.string p0.name)), .d (.val (.bool p0.num.neg)), .d (slD u32V p0.num.num), .d (slD u32V p0.num.den), .d (slD NodeA.enc p0.kids)]]⟩]) [0] h (by simp only [go_sem, Nat.reduceEqDiff, Nat.reduceAdd, Nat.reduceSub, Nat.reduceMul, Nat.reduceLeDiff, Nat.reduceLT, Nat.reduceBEq, reduceIte]) ?_
      rintro again i14_0 h
      try dsimp only at h
      refine AW.one ?_
      refine AW.one ?_
      refine AW.reg mixed (by kernel_rfl) ?_
      try simp only [go_sem, Nat.reduceEqDiff, Nat.reduceAdd, Nat.reduceSub, Nat.reduceMul, Nat.reduceLeDiff, Nat.reduceLT, Nat.reduceBEq, reduceIte]
      refine AW.cut [0] [(1, .d (.val (.bool p1))), (2, .d (.val (.bool p2))), (3, .ptr 0 6 0 0), (7, .d (.val (.int .i64 (p0.kids.length : Int)))), (8, .d (.val (.int .i64 i14_0))), (35, .d (.val (.bool (decide (i14_0 < (IntKind.wrap .i64 ((p0.kids.length : Int) - (1 : Int))))))))] [some ⟨6, [[.d (.val (.int .i64 p0.op)), .d (.val (.string p0.name)), .d (.val (.bool p0.num.neg)), .d (slD u32V p0.num.num), .d (slD u32V p0.num.den), .d (slD NodeA.enc p0.kids)]]⟩] (by simp only [go_sem, Nat.reduceEqDiff, Nat.reduceAdd, Nat.reduceSub, Nat.reduceMul, Nat.reduceLeDiff, Nat.reduceLT, Nat.reduceBEq, reduceIte]) ?_
      refine AW.test (t := (decide (i14_0 < (IntKind.wrap .i64 ((p0.kids.length : Int) - (1 : Int)))))) (by simp only [go_sem, Nat.reduceEqDiff, Nat.reduceAdd, Nat.reduceSub, Nat.reduceMul, Nat.reduceLeDiff, Nat.reduceLT, Nat.reduceBEq, reduceIte]) (fun hb18 => ?_) (fun hb18 => ?_)
      · have h := ifT hb18 h
        refine AW.skip ?_
        try simp only [go_sem, Nat.reduceEqDiff, Nat.reduceAdd, Nat.reduceSub, Nat.reduceMul, Nat.reduceLeDiff, Nat.reduceLT, Nat.reduceBEq, reduceIte]
        refine AW.cut [0] [(1, .d (.val (.bool p1))), (2, .d (.val (.bool p2))), (3, .ptr 0 6 0 0), (7, .d (.val (.int .i64 (p0.kids.length : Int)))), (8, .d (.val (.int .i64 i14_0)))] [some ⟨6, [[.d (.val (.int .i64 p0.op)), .d (.val (.string p0.name)), .d (.val (.bool p0.num.neg)), .d (slD u32V p0.num.num), .d (slD u32V p0.num.den), .d (slD NodeA.enc p0.kids)]]⟩] (by simp only [go_sem, Nat.reduceEqDiff, Nat.reduceAdd, Nat.reduceSub, Nat.reduceMul, Nat.reduceLeDiff, Nat.reduceLT, Nat.reduceBEq, reduceIte]) ?_
        refine AW.one ?_
        obtain ⟨oJ20, h, hJ20⟩ := obind h
        refine AW.join (S := Unit) (fun _ => [(1, .d (.val (.bool p1))), (2, .d (.val (.bool p2))), (3, .ptr 0 6 0 0), (7, .d (.val (.int .i64 (p0.kids.length : Int)))), (8, .d (.val (.int .i64 i14_0)))]) (fun _ => [some ⟨6, [[.d (.val (.int .i64 p0.op)), .d (.val (.string p0.name)), .d (.val (.bool p0.num.neg)), .d (slD u32V p0.num.num), .d (slD u32V p0.num.den), .d (slD NodeA.enc p0.kids)]]⟩]) (fun x => oJ20 = .go x) ?_ ?_
        · skip
          refine AW.block ?_
          refine AW.one ?_
          refine AW.reg mixed (by kernel_rfl) ?_
          obtain ⟨x21, hx22, h⟩ := obind h
          try simp only [go_sem, Nat.reduceEqDiff, Nat.reduceAdd, Nat.reduceSub, Nat.reduceMul, Nat.reduceLeDiff, Nat.reduceLT, Nat.reduceBEq, reduceIte, (idx_some hx22).1, (idx_some hx22).2]
          refine AW.cut [0, 6] [(1, .d (.val (.bool p1))), (2, .d (.val (.bool p2))), (3, .ptr 0 6 0 0), (7, .d (.val (.int .i64 (p0.kids.length : Int)))), (8, .d (.val (.int .i64 i14_0))), (9, .ptr 1 6 0 0)] [some ⟨6, [[.d (.val (.int .i64 p0.op)), .d (.val (.string p0.name)), .d (.val (.bool p0.num.neg)), .d (slD u32V p0.num.num), .d (slD u32V p0.num.den), .d (slD NodeA.enc p0.kids)]]⟩, some ⟨6, [[.d (.val (.int .i64 x21.op)), .d (.val (.string x21.name)), .d (.val (.bool x21.num.neg)), .d (slD u32V x21.num.num), .d (slD u32V x21.num.den), .d (slD NodeA.enc x21.kids)]]⟩] (by simp only [go_sem, Nat.reduceEqDiff, Nat.reduceAdd, Nat.reduceSub, Nat.reduceMul, Nat.reduceLeDiff, Nat.reduceLT, Nat.reduceBEq, reduceIte, (idx_some hx22).1, (idx_some hx22).2]) ?_
          refine AW.one ?_
          obtain ⟨oJ24, h, hJ24⟩ := obind h
          refine AW.join (S := Unit) (fun _ => [(1, .d (.val (.bool p1))), (2, .d (.val (.bool p2))), (3, .ptr 0 6 0 0), (7, .d (.val (.int .i64 (p0.kids.length : Int)))), (8, .d (.val (.int .i64 i14_0))), (9, .ptr 1 6 0 0)]) (fun _ => [some ⟨6, [[.d (.val (.int .i64 p0.op)), .d (.val (.string p0.name)), .d (.val (.bool p0.num.neg)), .d (slD u32V p0.num.num), .d (slD u32V p0.num.den), .d (slD NodeA.enc p0.kids)]]⟩, some ⟨6, [[.d (.val (.int .i64 x21.op)), .d (.val (.string x21.name)), .d (.val (.bool x21.num.neg)), .d (slD u32V x21.num.num), .d (slD u32V x21.num.den), .d (slD NodeA.enc x21.kids)]]⟩]) (fun x => oJ24 = .go x) ?_ ?_
          · skip
            refine AW.one ?_
            obtain ⟨oJ26, h, hJ26⟩ := obind h
            refine AW.join (S := Bool) (fun v25_0 => [(1, .d (.val (.bool p1))), (2, .d (.val (.bool p2))), (3, .ptr 0 6 0 0), (7, .d (.val (.int .i64 (p0.kids.length : Int)))), (8, .d (.val (.int .i64 i14_0))), (9, .ptr 1 6 0 0), (68, .d (.val (.bool v25_0)))]) (fun v25_0 => [some ⟨6, [[.d (.val (.int .i64 p0.op)), .d (.val (.string p0.name)), .d (.val (.bool p0.num.neg)), .d (slD u32V p0.num.num), .d (slD u32V p0.num.den), .d (slD NodeA.enc p0.kids)]]⟩, some ⟨6, [[.d (.val (.int .i64 x21.op)), .d (.val (.string x21.name)), .d (.val (.bool x21.num.neg)), .d (slD u32V x21.num.num), .d (slD u32V x21.num.den), .d (slD NodeA.enc x21.kids)]]⟩]) (fun x => x = oJ26) ?_ ?_
            · skip
              refine AW.reg mixed (by kernel_rfl) ?_
              try simp only [go_sem, Nat.reduceEqDiff, Nat.reduceAdd, Nat.reduceSub, Nat.reduceMul, Nat.reduceLeDiff, Nat.reduceLT, Nat.reduceBEq, reduceIte]
              refine splitK_intro (fun hb27 => ?_) (fun hb27 => ?_)
              · have h := ifT hb27 h
                try simp only [go_sem, Nat.reduceEqDiff, Nat.reduceAdd, Nat.reduceSub, Nat.reduceMul, Nat.reduceLeDiff, Nat.reduceLT, Nat.reduceBEq, reduceIte, hb27]
                refine splitK_intro (fun hb28 => ?_) (fun hb28 => ?_)
                · have h := ifT hb28 h
                  try simp only [go_sem, Nat.reduceEqDiff, Nat.reduceAdd, Nat.reduceSub, Nat.reduceMul, Nat.reduceLeDiff, Nat.reduceLT, Nat.reduceBEq, reduceIte, hb27, hb28]
                  refine JoinQ.mk true [0, 1] (Option.some.inj h) (by simp only [go_sem, Nat.reduceEqDiff, Nat.reduceAdd, Nat.reduceSub, Nat.reduceMul, Nat.reduceLeDiff, Nat.reduceLT, Nat.reduceBEq, reduceIte, hb27, hb28])
                · have h := ifF hb28 h
                  try simp only [go_sem, Nat.reduceEqDiff, Nat.reduceAdd, Nat.reduceSub, Nat.reduceMul, Nat.reduceLeDiff, Nat.reduceLT, Nat.reduceBEq, reduceIte, hb27, hb28]
                  refine splitK_intro (fun hb29 => ?_) (fun hb29 => ?_)
                  · have h := ifT hb29 h
                    try simp only [go_sem, Nat.reduceEqDiff, Nat.reduceAdd, Nat.reduceSub, Nat.reduceMul, Nat.reduceLeDiff, Nat.reduceLT, Nat.reduceBEq, reduceIte, hb27, hb28, hb29]
                    refine splitK_intro (fun hb30 => ?_) (fun hb30 => ?_)
                    · have h := ifT hb30 h
                      try simp only [go_sem, Nat.reduceEqDiff, Nat.reduceAdd, Nat.reduceSub, Nat.reduceMul, Nat.reduceLeDiff, Nat.reduceLT, Nat.reduceBEq, reduceIte, hb27, hb28, hb29, hb30]
                      refine JoinQ.mk true [0, 1] (Option.some.inj h) (by simp only [go_sem, Nat.reduceEqDiff, Nat.reduceAdd, Nat.reduceSub, Nat.reduceMul, Nat.reduceLeDiff, Nat.reduceLT, Nat.reduceBEq, reduceIte, hb27, hb28, hb29, hb30])
                    · have h := ifF hb30 h
                      try simp only [go_sem, Nat.reduceEqDiff, Nat.reduceAdd, Nat.reduceSub, Nat.reduceMul, Nat.reduceLeDiff, Nat.reduceLT, Nat.reduceBEq, reduceIte, hb27, hb28, hb29, hb30]
                      obtain ⟨r31, hx32, h⟩ := obind h
                      have hc := hself42 _ _ hx32
                      try simp only [NodeA.enc_eta, RatA.enc_eta, aggV, i64V, u32V, strV, List.map_cons, List.map_nil] at hc
                      refine callK_pure hc (by simp only [go_sem, Nat.reduceEqDiff, Nat.reduceAdd, Nat.reduceSub, Nat.reduceMul, Nat.reduceLeDiff, Nat.reduceLT, Nat.reduceBEq, reduceIte]) ?_
                      try simp only [go_sem, Nat.reduceEqDiff, Nat.reduceAdd, Nat.reduceSub, Nat.reduceMul, Nat.reduceLeDiff, Nat.reduceLT, Nat.reduceBEq, reduceIte, hb27, hb28, hb29, hb30]
                      refine JoinQ.mk (!r31) [0, 1] (Option.some.inj h) (by simp only [go_sem, Nat.reduceEqDiff, Nat.reduceAdd, Nat.reduceSub, Nat.reduceMul, Nat.reduceLeDiff, Nat.reduceLT, Nat.reduceBEq, reduceIte, hb27, hb28, hb29, hb30])
                  · have h := ifF hb29 h
                    try simp only [go_sem, Nat.reduceEqDiff, Nat.reduceAdd, Nat.reduceSub, Nat.reduceMul, Nat.reduceLeDiff, Nat.reduceLT, Nat.reduceBEq, reduceIte, hb27, hb28, hb29]
                    obtain ⟨r33, hx34, h⟩ := obind h
                    have hc := hself42 _ _ hx34
                    try simp only [NodeA.enc_eta, RatA.enc_eta, aggV, i64V, u32V, strV, List.map_cons, List.map_nil] at hc
                    refine callK_pure hc (by simp only [go_sem, Nat.reduceEqDiff, Nat.reduceAdd, Nat.reduceSub, Nat.reduceMul, Nat.reduceLeDiff, Nat.reduceLT, Nat.reduceBEq, reduceIte]) ?_
                    try simp only [go_sem, Nat.reduceEqDiff, Nat.reduceAdd, Nat.reduceSub, Nat.reduceMul, Nat.reduceLeDiff, Nat.reduceLT, Nat.reduceBEq, reduceIte, hb27, hb28, hb29]
                    refine JoinQ.mk (!r33) [0, 1] (Option.some.inj h) (by simp only [go_sem, Nat.reduceEqDiff, Nat.reduceAdd, Nat.reduceSub, Nat.reduceMul, Nat.reduceLeDiff, Nat.reduceLT, Nat.reduceBEq, reduceIte, hb27, hb28, hb29])
              · have h := ifF hb27 h
                try simp only [go_sem, Nat.reduceEqDiff, Nat.reduceAdd, Nat.reduceSub, Nat.reduceMul, Nat.reduceLeDiff, Nat.reduceLT, Nat.reduceBEq, reduceIte, hb27]
                refine splitK_intro (fun hb35 => ?_) (fun hb35 => ?_)
                · have h := ifT hb35 h
                  try simp only [go_sem, Nat.reduceEqDiff, Nat.reduceAdd, Nat.reduceSub, Nat.reduceMul, Nat.reduceLeDiff, Nat.reduceLT, Nat.reduceBEq, reduceIte, hb27, hb35]
                  refine splitK_intro (fun hb36 => ?_) (fun hb36 => ?_)
                  · have h := ifT hb36 h
                    try simp only [go_sem, Nat.reduceEqDiff, Nat.reduceAdd, Nat.reduceSub, Nat.reduceMul, Nat.reduceLeDiff, Nat.reduceLT, Nat.reduceBEq, reduceIte, hb27, hb35, hb36]
                    refine JoinQ.mk true [0, 1] (Option.some.inj h) (by simp only [go_sem, Nat.reduceEqDiff, Nat.reduceAdd, Nat.reduceSub, Nat.reduceMul, Nat.reduceLeDiff, Nat.reduceLT, Nat.reduceBEq, reduceIte, hb27, hb35, hb36])
                  · have h := ifF hb36 h
                    try simp only [go_sem, Nat.reduceEqDiff, Nat.reduceAdd, Nat.reduceSub, Nat.reduceMul, Nat.reduceLeDiff, Nat.reduceLT, Nat.reduceBEq, reduceIte, hb27, hb35, hb36]
                    obtain ⟨r37, hx38, h⟩ := obind h
                    have hc := hself42 _ _ hx38
                    try simp only [NodeA.enc_eta, RatA.enc_eta, aggV, i64V, u32V, strV, List.map_cons, List.map_nil] at hc
                    refine callK_pure hc (by simp only [go_sem, Nat.reduceEqDiff, Nat.reduceAdd, Nat.reduceSub, Nat.reduceMul, Nat.reduceLeDiff, Nat.reduceLT, Nat.reduceBEq, reduceIte]) ?_
                    try simp only [go_sem, Nat.reduceEqDiff, Nat.reduceAdd, Nat.reduceSub, Nat.reduceMul, Nat.reduceLeDiff, Nat.reduceLT, Nat.reduceBEq, reduceIte, hb27, hb35, hb36]
                    refine JoinQ.mk (!r37) [0, 1] (Option.some.inj h) (by simp only [go_sem, Nat.reduceEqDiff, Nat.reduceAdd, Nat.reduceSub, Nat.reduceMul, Nat.reduceLeDiff, Nat.reduceLT, Nat.reduceBEq, reduceIte, hb27, hb35, hb36])
                · have h := ifF hb35 h
                  try simp only [go_sem, Nat.reduceEqDiff, Nat.reduceAdd, Nat.reduceSub, Nat.reduceMul, Nat.reduceLeDiff, Nat.reduceLT, Nat.reduceBEq, reduceIte, hb27, hb35]
                  obtain ⟨r39, hx40, h⟩ := obind h
                  have hc := hself42 _ _ hx40
                  try simp only [NodeA.enc_eta, RatA.enc_eta, aggV, i64V, u32V, strV, List.map_cons, List.map_nil] at hc
                  refine callK_pure hc (by simp only [go_sem, Nat.reduceEqDiff, Nat.reduceAdd, Nat.reduceSub, Nat.reduceMul, Nat.reduceLeDiff, Nat.reduceLT, Nat.reduceBEq, reduceIte]) ?_
                  try simp only [go_sem, Nat.reduceEqDiff, Nat.reduceAdd, Nat.reduceSub, Nat.reduceMul, Nat.reduceLeDiff, Nat.reduceLT, Nat.reduceBEq, reduceIte, hb27, hb35]
                  refine JoinQ.mk (!r39) [0, 1] (Option.some.inj h) (by simp only [go_sem, Nat.reduceEqDiff, Nat.reduceAdd, Nat.reduceSub, Nat.reduceMul, Nat.reduceLeDiff, Nat.reduceLT, Nat.reduceBEq, reduceIte, hb27, hb35])
            · rintro v25_0 rfl
              have h := hJ26
              try dsimp only [Out.fin] at h
              simp only [go_sem, Nat.reduceEqDiff, Nat.reduceAdd, Nat.reduceSub, Nat.reduceMul, Nat.reduceLeDiff, Nat.reduceLT, Nat.reduceBEq, reduceIte]
              refine AW.test (t := v25_0) (by simp only [go_sem, Nat.reduceEqDiff, Nat.reduceAdd, Nat.reduceSub, Nat.reduceMul, Nat.reduceLeDiff, Nat.reduceLT, Nat.reduceBEq, reduceIte]) (fun hb41 => ?_) (fun hb41 => ?_)
              · have h := ifT hb41 h
                refine AW.one ?_
                refine AW.reg mixed (by kernel_rfl) ?_
                try simp only [go_sem, Nat.reduceEqDiff, Nat.reduceAdd, Nat.reduceSub, Nat.reduceMul, Nat.reduceLeDiff, Nat.reduceLT, Nat.reduceBEq, reduceIte]
                refine AW.ret ?_
                obtain ⟨_, h, ho⟩ := outM_some h
                rw [ho, Out.fin_out] at hJ24
                have h := h.trans hJ24
                obtain ⟨_, h, ho⟩ := outM_some h
                rw [ho, Out.fin_out] at hJ20
                have h := h.trans hJ20
                obtain ⟨_, h, ho⟩ := outM_some h
                rw [ho, Out.fin_out] at hJ17
                have h := h.trans hJ17
                obtain rfl := Option.some.inj h
                simp only [go_sem, Nat.reduceEqDiff, Nat.reduceAdd, Nat.reduceSub, Nat.reduceMul, Nat.reduceLeDiff, Nat.reduceLT, Nat.reduceBEq, reduceIte]
                exact .same _
              · have h := ifF hb41 h
                refine AW.skip ?_
                try simp only [go_sem, Nat.reduceEqDiff, Nat.reduceAdd, Nat.reduceSub, Nat.reduceMul, Nat.reduceLeDiff, Nat.reduceLT, Nat.reduceBEq, reduceIte]
                refine JoinQ.mk () [0, 1] (Option.some.inj h).symm (by simp only [go_sem, Nat.reduceEqDiff, Nat.reduceAdd, Nat.reduceSub, Nat.reduceMul, Nat.reduceLeDiff, Nat.reduceLT, Nat.reduceBEq, reduceIte])
          · rintro ⟨⟩ rfl
            have h := hJ24
            try dsimp only [Out.fin] at h
            simp only [go_sem, Nat.reduceEqDiff, Nat.reduceAdd, Nat.reduceSub, Nat.reduceMul, Nat.reduceLeDiff, Nat.reduceLT, Nat.reduceBEq, reduceIte]
            refine AW.one ?_
            refine AW.reg mixed (by kernel_rfl) ?_
            try simp only [go_sem, Nat.reduceEqDiff, Nat.reduceAdd, Nat.reduceSub, Nat.reduceMul, Nat.reduceLeDiff, Nat.reduceLT, Nat.reduceBEq, reduceIte]
            refine AW.cut [0, 1] [(1, .d (.val (.bool p1))), (2, .d (.val (.bool p2))), (3, .ptr 0 6 0 0), (7, .d (.val (.int .i64 (p0.kids.length : Int)))), (8, .d (.val (.int .i64 i14_0))), (9, .ptr 1 6 0 0), (10, .d (.val (.int .i64 (0 : Int))))] [some ⟨6, [[.d (.val (.int .i64 p0.op)), .d (.val (.string p0.name)), .d (.val (.bool p0.num.neg)), .d (slD u32V p0.num.num), .d (slD u32V p0.num.den), .d (slD NodeA.enc p0.kids)]]⟩, some ⟨6, [[.d (.val (.int .i64 x21.op)), .d (.val (.string x21.name)), .d (.val (.bool x21.num.neg)), .d (slD u32V x21.num.num), .d (slD u32V x21.num.den), .d (slD NodeA.enc x21.kids)]]⟩] (by simp only [go_sem, Nat.reduceEqDiff, Nat.reduceAdd, Nat.reduceSub, Nat.reduceMul, Nat.reduceLeDiff, Nat.reduceLT, Nat.reduceBEq, reduceIte]) ?_
            obtain ⟨oJ45, h, hJ45⟩ := obind h
            refine AW.join (S := Unit) (fun _ => [(1, .d (.val (.bool p1))), (2, .d (.val (.bool p2))), (3, .ptr 0 6 0 0), (7, .d (.val (.int .i64 (p0.kids.length : Int)))), (8, .d (.val (.int .i64 i14_0)))]) (fun _ => [some ⟨6, [[.d (.val (.int .i64 p0.op)), .d (.val (.string p0.name)), .d (.val (.bool p0.num.neg)), .d (slD u32V p0.num.num), .d (slD u32V p0.num.den), .d (slD NodeA.enc p0.kids)]]⟩]) (fun x => oJ45 = .go x) ?_ ?_
            · refine AW.block ?_
              refine AW.iter (S := Int) (fun i42_0 => [(1, .d (.val (.bool p1))), (2, .d (.val (.bool p2))), (3, .ptr 0 6 0 0), (7, .d (.val (.int .i64 (p0.kids.length : Int)))), (8, .d (.val (.int .i64 i14_0))), (9, .ptr 1 6 0 0), (10, .d (.val (.int .i64 i42_0)))]) (fun i42_0 => [some ⟨6, [[.d (.val (.int .i64 p0.op)), .d (.val (.string p0.name)), .d (.val (.bool p0.num.neg)), .d (slD u32V p0.num.num), .d (slD u32V p0.num.den), .d (slD NodeA.enc p0.kids)]]⟩, some ⟨6, [[.d (.val (.int .i64 x21.op)), .d (.val (.string x21.name)), .d (.val (.bool x21.num.neg)), .d (slD u32V x21.num.num), .d (slD u32V x21.num.den), .d (slD NodeA.enc x21.kids)]]⟩]) [0, 1] h (by simp only [go_sem, Nat.reduceEqDiff, Nat.reduceAdd, Nat.reduceSub, Nat.reduceMul, Nat.reduceLeDiff, Nat.reduceLT, Nat.reduceBEq, reduceIte]) ?_
              rintro again i42_0 h
              try dsimp only at h
              refine AW.one ?_
              refine AW.one ?_
              refine AW.reg mixed (by kernel_rfl) ?_
              try simp only [go_sem, Nat.reduceEqDiff, Nat.reduceAdd, Nat.reduceSub, Nat.reduceMul, Nat.reduceLeDiff, Nat.reduceLT, Nat.reduceBEq, reduceIte]
              refine AW.cut [0, 1] [(1, .d (.val (.bool p1))), (2, .d (.val (.bool p2))), (3, .ptr 0 6 0 0), (7, .d (.val (.int .i64 (p0.kids.length : Int)))), (8, .d (.val (.int .i64 i14_0))), (9, .ptr 1 6 0 0), (10, .d (.val (.int .i64 i42_0))), (71, .d (.val (.bool (decide (i42_0 < i14_0)))))] [some ⟨6, [[.d (.val (.int .i64 p0.op)), .d (.val (.string p0.name)), .d (.val (.bool p0.num.neg)), .d (slD u32V p0.num.num), .d (slD u32V p0.num.den), .d (slD NodeA.enc p0.kids)]]⟩, some ⟨6, [[.d (.val (.int .i64 x21.op)), .d (.val (.string x21.name)), .d (.val (.bool x21.num.neg)), .d (slD u32V x21.num.num), .d (slD u32V x21.num.den), .d (slD NodeA.enc x21.kids)]]⟩] (by simp only [go_sem, Nat.reduceEqDiff, Nat.reduceAdd, Nat.reduceSub, Nat.reduceMul, Nat.reduceLeDiff, Nat.reduceLT, Nat.reduceBEq, reduceIte]) ?_
              refine AW.test (t := (decide (i42_0 < i14_0))) (by simp only [go_sem, Nat.reduceEqDiff, Nat.reduceAdd, Nat.reduceSub, Nat.reduceMul, Nat.reduceLeDiff, Nat.reduceLT, Nat.reduceBEq, reduceIte]) (fun hb46 => ?_) (fun hb46 => ?_)
              · have h := ifT hb46 h
                refine AW.skip ?_
                try simp only [go_sem, Nat.reduceEqDiff, Nat.reduceAdd, Nat.reduceSub, Nat.reduceMul, Nat.reduceLeDiff, Nat.reduceLT, Nat.reduceBEq, reduceIte]
                refine AW.cut [0, 1] [(1, .d (.val (.bool p1))), (2, .d (.val (.bool p2))), (3, .ptr 0 6 0 0), (7, .d (.val (.int .i64 (p0.kids.length : Int)))), (8, .d (.val (.int .i64 i14_0))), (9, .ptr 1 6 0 0), (10, .d (.val (.int .i64 i42_0)))] [some ⟨6, [[.d (.val (.int .i64 p0.op)), .d (.val (.string p0.name)), .d (.val (.bool p0.num.neg)), .d (slD u32V p0.num.num), .d (slD u32V p0.num.den), .d (slD NodeA.enc p0.kids)]]⟩, some ⟨6, [[.d (.val (.int .i64 x21.op)), .d (.val (.string x21.name)), .d (.val (.bool x21.num.neg)), .d (slD u32V x21.num.num), .d (slD u32V x21.num.den), .d (slD NodeA.enc x21.kids)]]⟩] (by simp only [go_sem, Nat.reduceEqDiff, Nat.reduceAdd, Nat.reduceSub, Nat.reduceMul, Nat.reduceLeDiff, Nat.reduceLT, Nat.reduceBEq, reduceIte]) ?_
                refine AW.one ?_
                obtain ⟨oJ48, h, hJ48⟩ := obind h
                refine AW.join (S := Unit) (fun _ => [(1, .d (.val (.bool p1))), (2, .d (.val (.bool p2))), (3, .ptr 0 6 0 0), (7, .d (.val (.int .i64 (p0.kids.length : Int)))), (8, .d (.val (.int .i64 i14_0))), (9, .ptr 1 6 0 0), (10, .d (.val (.int .i64 i42_0)))]) (fun _ => [some ⟨6, [[.d (.val (.int .i64 p0.op)), .d (.val (.string p0.name)), .d (.val (.bool p0.num.neg)), .d (slD u32V p0.num.num), .d (slD u32V p0.num.den), .d (slD NodeA.enc p0.kids)]]⟩, some ⟨6, [[.d (.val (.int .i64 x21.op)), .d (.val (.string x21.name)), .d (.val (.bool x21.num.neg)), .d (slD u32V x21.num.num), .d (slD u32V x21.num.den), .d (slD NodeA.enc x21.kids)]]⟩]) (fun x => oJ48 = .go x) ?_ ?_
                · skip
                  refine AW.block ?_
                  refine AW.one ?_
                  obtain ⟨oJ50, h, hJ50⟩ := obind h
                  refine AW.join (S := Bool) (fun v49_0 => [(1, .d (.val (.bool p1))), (2, .d (.val (.bool p2))), (3, .ptr 0 6 0 0), (7, .d (.val (.int .i64 (p0.kids.length : Int)))), (8, .d (.val (.int .i64 i14_0))), (9, .ptr 1 6 0 0), (10, .d (.val (.int .i64 i42_0))), (87, .d (.val (.bool v49_0)))]) (fun v49_0 => [some ⟨6, [[.d (.val (.int .i64 p0.op)), .d (.val (.string p0.name)), .d (.val (.bool p0.num.neg)), .d (slD u32V p0.num.num), .d (slD u32V p0.num.den), .d (slD NodeA.enc p0.kids)]]⟩, some ⟨6, [[.d (.val (.int .i64 x21.op)), .d (.val (.string x21.name)), .d (.val (.bool x21.num.neg)), .d (slD u32V x21.num.num), .d (slD u32V x21.num.den), .d (slD NodeA.enc x21.kids)]]⟩]) (fun x => x = oJ50) ?_ ?_
                  · skip
                    refine AW.reg mixed (by kernel_rfl) ?_
                    try simp only [go_sem, Nat.reduceEqDiff, Nat.reduceAdd, Nat.reduceSub, Nat.reduceMul, Nat.reduceLeDiff, Nat.reduceLT, Nat.reduceBEq, reduceIte]
                    refine splitK_intro (fun hb51 => ?_) (fun hb51 => ?_)
                    · have h := ifT hb51 h
                      obtain ⟨x52, hx53, h⟩ := obind h
                      try simp only [go_sem, Nat.reduceEqDiff, Nat.reduceAdd, Nat.reduceSub, Nat.reduceMul, Nat.reduceLeDiff, Nat.reduceLT, Nat.reduceBEq, reduceIte, hb51, (idx_some hx53).1, (idx_some hx53).2]
                      refine JoinQ.mk (x52.name.toList == x21.name.toList) [0, 1] (Option.some.inj h) (by simp only [go_sem, Nat.reduceEqDiff, Nat.reduceAdd, Nat.reduceSub, Nat.reduceMul, Nat.reduceLeDiff, Nat.reduceLT, Nat.reduceBEq, reduceIte, hb51, (idx_some hx53).1, (idx_some hx53).2])
                    · have h := ifF hb51 h
                      try simp only [go_sem, Nat.reduceEqDiff, Nat.reduceAdd, Nat.reduceSub, Nat.reduceMul, Nat.reduceLeDiff, Nat.reduceLT, Nat.reduceBEq, reduceIte, hb51]
                      refine JoinQ.mk false [0, 1] (Option.some.inj h) (by simp only [go_sem, Nat.reduceEqDiff, Nat.reduceAdd, Nat.reduceSub, Nat.reduceMul, Nat.reduceLeDiff, Nat.reduceLT, Nat.reduceBEq, reduceIte, hb51])
                  · rintro v49_0 rfl
                    have h := hJ50
                    try dsimp only [Out.fin] at h
                    simp only [go_sem, Nat.reduceEqDiff, Nat.reduceAdd, Nat.reduceSub, Nat.reduceMul, Nat.reduceLeDiff, Nat.reduceLT, Nat.reduceBEq, reduceIte]
                    refine AW.test (t := v49_0) (by simp only [go_sem, Nat.reduceEqDiff, Nat.reduceAdd, Nat.reduceSub, Nat.reduceMul, Nat.reduceLeDiff, Nat.reduceLT, Nat.reduceBEq, reduceIte]) (fun hb54 => ?_) (fun hb54 => ?_)
                    · have h := ifT hb54 h
                      refine AW.one ?_
                      refine AW.reg mixed (by kernel_rfl) ?_
                      try simp only [go_sem, Nat.reduceEqDiff, Nat.reduceAdd, Nat.reduceSub, Nat.reduceMul, Nat.reduceLeDiff, Nat.reduceLT, Nat.reduceBEq, reduceIte]
                      refine AW.ret ?_
                      obtain ⟨_, h, ho⟩ := outM_some h
                      rw [ho, Out.fin_out] at hJ48
                      have h := h.trans hJ48
                      obtain ⟨_, h, ho⟩ := outM_some h
                      rw [ho, Out.fin_out] at hJ45
                      have h := h.trans hJ45
                      obtain ⟨_, h, ho⟩ := outM_some h
                      rw [ho, Out.fin_out] at hJ20
                      have h := h.trans hJ20
                      obtain ⟨_, h, ho⟩ := outM_some h
                      rw [ho, Out.fin_out] at hJ17
                      have h := h.trans hJ17
                      obtain rfl := Option.some.inj h
                      simp only [go_sem, Nat.reduceEqDiff, Nat.reduceAdd, Nat.reduceSub, Nat.reduceMul, Nat.reduceLeDiff, Nat.reduceLT, Nat.reduceBEq, reduceIte]
                      exact .same _
                    · have h := ifF hb54 h
                      refine AW.skip ?_
                      try simp only [go_sem, Nat.reduceEqDiff, Nat.reduceAdd, Nat.reduceSub, Nat.reduceMul, Nat.reduceLeDiff, Nat.reduceLT, Nat.reduceBEq, reduceIte]
                      refine JoinQ.mk () [0, 1] (Option.some.inj h).symm (by simp only [go_sem, Nat.reduceEqDiff, Nat.reduceAdd, Nat.reduceSub, Nat.reduceMul, Nat.reduceLeDiff, Nat.reduceLT, Nat.reduceBEq, reduceIte])
                · rintro ⟨⟩ rfl
                  have h := hJ48
                  try dsimp only [Out.fin] at h
                  simp only [go_sem, Nat.reduceEqDiff, Nat.reduceAdd, Nat.reduceSub, Nat.reduceMul, Nat.reduceLeDiff, Nat.reduceLT, Nat.reduceBEq, reduceIte]
                  refine AW.reg mixed (by kernel_rfl) ?_
                  try simp only [go_sem, Nat.reduceEqDiff, Nat.reduceAdd, Nat.reduceSub, Nat.reduceMul, Nat.reduceLeDiff, Nat.reduceLT, Nat.reduceBEq, reduceIte]
                  refine NextQ.mk (IntKind.wrap .i64 (i42_0 + (1 : Int))) [0, 1] h (by simp only [go_sem, Nat.reduceEqDiff, Nat.reduceAdd, Nat.reduceSub, Nat.reduceMul, Nat.reduceLeDiff, Nat.reduceLT, Nat.reduceBEq, reduceIte])
              · have h := ifF hb46 h
                refine AW.exit ?_
                try simp only [go_sem, Nat.reduceEqDiff, Nat.reduceAdd, Nat.reduceSub, Nat.reduceMul, Nat.reduceLeDiff, Nat.reduceLT, Nat.reduceBEq, reduceIte]
                refine JoinQ.mk () [0] (Option.some.inj h).symm (by simp only [go_sem, Nat.reduceEqDiff, Nat.reduceAdd, Nat.reduceSub, Nat.reduceMul, Nat.reduceLeDiff, Nat.reduceLT, Nat.reduceBEq, reduceIte])
            · rintro ⟨⟩ rfl
              have h := hJ45
              try dsimp only [Out.fin] at h
              simp only [go_sem, Nat.reduceEqDiff, Nat.reduceAdd, Nat.reduceSub, Nat.reduceMul, Nat.reduceLeDiff, Nat.reduceLT, Nat.reduceBEq, reduceIte]
              refine JoinQ.mk () [0] (Option.some.inj h).symm (by simp only [go_sem, Nat.reduceEqDiff, Nat.reduceAdd, Nat.reduceSub, Nat.reduceMul, Nat.reduceLeDiff, Nat.reduceLT, Nat.reduceBEq, reduceIte])
        · rintro ⟨⟩ rfl
          have h := hJ20
          try dsimp only [Out.fin] at h
          simp only [go_sem, Nat.reduceEqDiff, Nat.reduceAdd, Nat.reduceSub, Nat.reduceMul, Nat.reduceLeDiff, Nat.reduceLT, Nat.reduceBEq, reduceIte]
          refine AW.reg mixed (by kernel_rfl) ?_
          try simp only [go_sem, Nat.reduceEqDiff, Nat.reduceAdd, Nat.reduceSub, Nat.reduceMul, Nat.reduceLeDiff, Nat.reduceLT, Nat.reduceBEq, reduceIte]
          refine NextQ.mk (IntKind.wrap .i64 (i14_0 + (1 : Int))) [0] h (by simp only [go_sem, Nat.reduceEqDiff, Nat.reduceAdd, Nat.reduceSub, Nat.reduceMul, Nat.reduceLeDiff, Nat.reduceLT, Nat.reduceBEq, reduceIte])
      · have h := ifF hb18 h
        refine AW.exit ?_
        try simp only [go_sem, Nat.reduceEqDiff, Nat.reduceAdd, Nat.reduceSub, Nat.reduceMul, Nat.reduceLeDiff, Nat.reduceLT, Nat.reduceBEq, reduceIte]
        refine JoinQ.mk () [] (Option.some.inj h).symm (by simp only [go_sem, Nat.reduceEqDiff, Nat.reduceAdd, Nat.reduceSub, Nat.reduceMul, Nat.reduceLeDiff, Nat.reduceLT, Nat.reduceBEq, reduceIte])
    · rintro ⟨⟩ rfl
      have h := hJ17
      try dsimp only [Out.fin] at h
      simp only [go_sem, Nat.reduceEqDiff, Nat.reduceAdd, Nat.reduceSub, Nat.reduceMul, Nat.reduceLeDiff, Nat.reduceLT, Nat.reduceBEq, reduceIte]
      refine AW.cut [] [] [] (by simp only [go_sem, Nat.reduceEqDiff, Nat.reduceAdd, Nat.reduceSub, Nat.reduceMul, Nat.reduceLeDiff, Nat.reduceLT, Nat.reduceBEq, reduceIte]) ?_
      refine AW.one ?_
      refine AW.reg mixed (by kernel_rfl) ?_
      try simp only [go_sem, Nat.reduceEqDiff, Nat.reduceAdd, Nat.reduceSub, Nat.reduceMul, Nat.reduceLeDiff, Nat.reduceLT, Nat.reduceBEq, reduceIte]
      refine AW.ret ?_
      obtain rfl := Option.some.inj h
      simp only [go_sem, Nat.reduceEqDiff, Nat.reduceAdd, Nat.reduceSub, Nat.reduceMul, Nat.reduceLeDiff, Nat.reduceLT, Nat.reduceBEq, reduceIte]
      exact .same _
def grp_r08_well (K : Nat) : Nat → ((NodeA × Int × Bool × Bool) → Option Bool) × ((NodeA × Bool × Bool) → Option Bool)
  | 0 => (fun _ => none, fun _ => none)
  | k + 1 => (fun q => r08_well_body K (grp_r08_well K k).1 (grp_r08_well K k).2 q.1 q.2.1 q.2.2.1 q.2.2.2, fun q => r08_flow_body K (grp_r08_well K k).1 (grp_r08_well K k).2 q.1 q.2.1 q.2.2)
def r08_well (K : Nat) (p0 : NodeA) (p1 : Int) (p2 : Bool) (p3 : Bool) : Option Bool := (grp_r08_well K K).1 (p0, p1, p2, p3)
def r08_flow (K : Nat) (p0 : NodeA) (p1 : Bool) (p2 : Bool) : Option Bool := (grp_r08_well K K).2 (p0, p1, p2)
theorem key_r08_well {K : Nat} (k : Nat) : (∀ (q : NodeA × Int × Bool × Bool) (r : Bool), (grp_r08_well K k).1 q = some r → Cn Try.prog 42 [aggV q.1.enc, .d (.val (.int .i64 q.2.1)), .d (.val (.bool q.2.2.1)), .d (.val (.bool q.2.2.2))] (.d (.val (.bool r)))) ∧ (∀ (q : NodeA × Bool × Bool) (r : Bool), (grp_r08_well K k).2 q = some r → Cn Try.prog 60 [aggV q.1.enc, .d (.val (.bool q.2.1)), .d (.val (.bool q.2.2))] (.d (.val (.bool r)))) := by
  induction k with
  | zero => exact ⟨(fun q r h => nomatch (show (none : Option _) = some r from h)), (fun q r h => nomatch (show (none : Option _) = some r from h))⟩
  | succ k ih => exact ⟨fun q r h => r08_well_step K _ _ ih.1 ih.2 q.1 q.2.1 q.2.2.1 q.2.2.2 r h, fun q r h => r08_flow_step K _ _ ih.1 ih.2 q.1 q.2.1 q.2.2 r h⟩
theorem r08_well_ok {K : Nat} {p0 : NodeA} {p1 : Int} {p2 : Bool} {p3 : Bool} {r : Bool} (h : r08_well K p0 p1 p2 p3 = some r) : Cn Try.prog 42 [aggV p0.enc, .d (.val (.int .i64 p1)), .d (.val (.bool p2)), .d (.val (.bool p3))] (.d (.val (.bool r))) := (key_r08_well K).1 (p0, p1, p2, p3) r h
theorem r08_flow_ok {K : Nat} {p0 : NodeA} {p1 : Bool} {p2 : Bool} {r : Bool} (h : r08_flow K p0 p1 p2 = some r) : Cn Try.prog 60 [aggV p0.enc, .d (.val (.bool p1)), .d (.val (.bool p2))] (.d (.val (.bool r))) := (key_r08_well K).2 (p0, p1, p2) r h

end Go.Proofs.Ytcgphoghmgeecaa
namespace Go.Proofs.Ytcgphoghmgeecaa
open Go Go.Iso Go.Proofs
set_option linter.unusedSimpArgs false
set_option linter.unusedVariables false
set_option maxRecDepth 100000

/-! ### isochrone/isochroneref08.Check -/
def r08_Check (K : Nat) (p0 : NodeA) (p1 : Int) : Option Int := ((
    if (decide (p1 < (1 : Int))) then
      some true
    else
      some (decide ((3 : Int) < p1))) : Option Bool).bind (fun v1_0 => 
  if v1_0 then
    some (1 : Int)
  else
    ((
      (r08_Size K p0).bind fun r7 => 
      if (decide ((4000 : Int) < r7)) then
        some true
      else
        (r08_Levels K p0).bind fun r10 => 
        some (decide ((60 : Int) < r10))) : Option Bool).bind (fun v5_0 => 
    if v5_0 then
      some (2 : Int)
    else
      (r08_Sort K p0.op).bind fun r13 => 
      if (r13 != p1) then
        some (80 : Int)
      else
        (r08_well K p0 p1 false false).bind fun r16 => 
        if (!r16) then
          some (3 : Int)
        else
          some (0 : Int)))
set_option maxHeartbeats 4000000 in
theorem r08_Check_ok {K : Nat} {p0 : NodeA} {p1 : Int} {r : Int} (h : r08_Check K p0 p1 = some r) : Cn Try.prog 22 [aggV p0.enc, .d (.val (.int .i64 p1))] (.d (.val (.int .i64 r))) := by
  refine Cn.ofA mixed Try.func22 rfl Try.call22 Try.ntmps22 Try.results22 (by simp) (by simp only [go_sem, Nat.reduceEqDiff, Nat.reduceAdd, Nat.reduceSub, Nat.reduceMul, Nat.reduceLeDiff, Nat.reduceLT, Nat.reduceBEq, reduceIte]) fun hfit => ?_
  unfold r08_Check at h
  refine AW.cut [] [(0, .agg [.d (.val (.int .i64 p0.op)), .d (.val (.string p0.name)), .d (.val (.bool p0.num.neg)), .d (slD u32V p0.num.num), .d (slD u32V p0.num.den), .d (slD NodeA.enc p0.kids)]), (1, .d (.val (.int .i64 p1)))] [] (by simp only [go_sem, Nat.reduceEqDiff, Nat.reduceAdd, Nat.reduceSub, Nat.reduceMul, Nat.reduceLeDiff, Nat.reduceLT, Nat.reduceBEq, reduceIte]) ?_
  refine AW.one ?_
  refine AW.reg mixed (by kernel_rfl) ?_
  try simp only [go_sem, Nat.reduceEqDiff, Nat.reduceAdd, Nat.reduceSub, Nat.reduceMul, Nat.reduceLeDiff, Nat.reduceLT, Nat.reduceBEq, reduceIte]
  refine AW.cut [0] [(1, .d (.val (.int .i64 p1))), (2, .ptr 0 6 0 0)] [some ⟨6, [[.d (.val (.int .i64 p0.op)), .d (.val (.string p0.name)), .d (.val (.bool p0.num.neg)), .d (slD u32V p0.num.num), .d (slD u32V p0.num.den), .d (slD NodeA.enc p0.kids)]]⟩] (by simp only [go_sem, Nat.reduceEqDiff, Nat.reduceAdd, Nat.reduceSub, Nat.reduceMul, Nat.reduceLeDiff, Nat.reduceLT, Nat.reduceBEq, reduceIte]) ?_
  refine AW.one ?_
  refine AW.block ?_
  refine AW.one ?_
  obtain ⟨oJ2, h, hJ2⟩ := obind h
  refine AW.join (S := Bool) (fun v1_0 => [(1, .d (.val (.int .i64 p1))), (2, .ptr 0 6 0 0), (5, .d (.val (.bool v1_0)))]) (fun v1_0 => [some ⟨6, [[.d (.val (.int .i64 p0.op)), .d (.val (.string p0.name)), .d (.val (.bool p0.num.neg)), .d (slD u32V p0.num.num), .d (slD u32V p0.num.den), .d (slD NodeA.enc p0.kids)]]⟩]) (fun x => x = oJ2) ?_ ?_
  · skip
    refine AW.reg mixed (by kernel_rfl) ?_
    try simp only [go_sem, Nat.reduceEqDiff, Nat.reduceAdd, Nat.reduceSub, Nat.reduceMul, Nat.reduceLeDiff, Nat.reduceLT, Nat.reduceBEq, reduceIte]
    refine splitK_intro (fun hb3 => ?_) (fun hb3 => ?_)
    · have h := ifT hb3 h
      try simp only [go_sem, Nat.reduceEqDiff, Nat.reduceAdd, Nat.reduceSub, Nat.reduceMul, Nat.reduceLeDiff, Nat.reduceLT, Nat.reduceBEq, reduceIte, hb3]
      refine JoinQ.mk true [0] (Option.some.inj h) (by simp only [go_sem, Nat.reduceEqDiff, Nat.reduceAdd, Nat.reduceSub, Nat.reduceMul, Nat.reduceLeDiff, Nat.reduceLT, Nat.reduceBEq, reduceIte, hb3])
    · have h := ifF hb3 h
      try simp only [go_sem, Nat.reduceEqDiff, Nat.reduceAdd, Nat.reduceSub, Nat.reduceMul, Nat.reduceLeDiff, Nat.reduceLT, Nat.reduceBEq, reduceIte, hb3]
      refine JoinQ.mk (decide ((3 : Int) < p1)) [0] (Option.some.inj h) (by simp only [go_sem, Nat.reduceEqDiff, Nat.reduceAdd, Nat.reduceSub, Nat.reduceMul, Nat.reduceLeDiff, Nat.reduceLT, Nat.reduceBEq, reduceIte, hb3])
  · rintro v1_0 rfl
    have h := hJ2
    try dsimp only [Out.fin] at h
    simp only [go_sem, Nat.reduceEqDiff, Nat.reduceAdd, Nat.reduceSub, Nat.reduceMul, Nat.reduceLeDiff, Nat.reduceLT, Nat.reduceBEq, reduceIte]
    refine AW.test (t := v1_0) (by simp only [go_sem, Nat.reduceEqDiff, Nat.reduceAdd, Nat.reduceSub, Nat.reduceMul, Nat.reduceLeDiff, Nat.reduceLT, Nat.reduceBEq, reduceIte]) (fun hb4 => ?_) (fun hb4 => ?_)
    · have h := ifT hb4 h
      refine AW.one ?_
      refine AW.reg mixed (by kernel_rfl) ?_
      try simp only [go_sem, Nat.reduceEqDiff, Nat.reduceAdd, Nat.reduceSub, Nat.reduceMul, Nat.reduceLeDiff, Nat.reduceLT, Nat.reduceBEq, reduceIte]
      refine AW.ret ?_
      obtain rfl := Option.some.inj h
      simp only [go_sem, Nat.reduceEqDiff, Nat.reduceAdd, Nat.reduceSub, Nat.reduceMul, Nat.reduceLeDiff, Nat.reduceLT, Nat.reduceBEq, reduceIte]
      exact .same _
    · have h := ifF hb4 h
      refine AW.one ?_
      obtain ⟨oJ6, h, hJ6⟩ := obind h
      refine AW.join (S := Bool) (fun v5_0 => [(1, .d (.val (.int .i64 p1))), (2, .ptr 0 6 0 0), (12, .d (.val (.bool v5_0)))]) (fun v5_0 => [some ⟨6, [[.d (.val (.int .i64 p0.op)), .d (.val (.string p0.name)), .d (.val (.bool p0.num.neg)), .d (slD u32V p0.num.num), .d (slD u32V p0.num.den), .d (slD NodeA.enc p0.kids)]]⟩]) (fun x => x = oJ6) ?_ ?_
      · skip
        refine AW.reg mixed (by kernel_rfl) ?_
        try simp only [go_sem, Nat.reduceEqDiff, Nat.reduceAdd, Nat.reduceSub, Nat.reduceMul, Nat.reduceLeDiff, Nat.reduceLT, Nat.reduceBEq, reduceIte]
        obtain ⟨r7, hx8, h⟩ := obind h
        have hc := r08_Size_ok (h := hx8)
        try simp only [NodeA.enc_eta, RatA.enc_eta, aggV, i64V, u32V, strV, List.map_cons, List.map_nil] at hc
        refine callK_pure hc (by simp only [go_sem, Nat.reduceEqDiff, Nat.reduceAdd, Nat.reduceSub, Nat.reduceMul, Nat.reduceLeDiff, Nat.reduceLT, Nat.reduceBEq, reduceIte]) ?_
        try simp only [go_sem, Nat.reduceEqDiff, Nat.reduceAdd, Nat.reduceSub, Nat.reduceMul, Nat.reduceLeDiff, Nat.reduceLT, Nat.reduceBEq, reduceIte]
        refine splitK_intro (fun hb9 => ?_) (fun hb9 => ?_)
        · have h := ifT hb9 h
          try simp only [go_sem, Nat.reduceEqDiff, Nat.reduceAdd, Nat.reduceSub, Nat.reduceMul, Nat.reduceLeDiff, Nat.reduceLT, Nat.reduceBEq, reduceIte, hb9]
          refine JoinQ.mk true [0] (Option.some.inj h) (by simp only [go_sem, Nat.reduceEqDiff, Nat.reduceAdd, Nat.reduceSub, Nat.reduceMul, Nat.reduceLeDiff, Nat.reduceLT, Nat.reduceBEq, reduceIte, hb9])
        · have h := ifF hb9 h
          try simp only [go_sem, Nat.reduceEqDiff, Nat.reduceAdd, Nat.reduceSub, Nat.reduceMul, Nat.reduceLeDiff, Nat.reduceLT, Nat.reduceBEq, reduceIte, hb9]
          obtain ⟨r10, hx11, h⟩ := obind h
          have hc := r08_Levels_ok (h := hx11)
          try simp only [NodeA.enc_eta, RatA.enc_eta, aggV, i64V, u32V, strV, List.map_cons, List.map_nil] at hc
          refine callK_pure hc (by simp only [go_sem, Nat.reduceEqDiff, Nat.reduceAdd, Nat.reduceSub, Nat.reduceMul, Nat.reduceLeDiff, Nat.reduceLT, Nat.reduceBEq, reduceIte]) ?_
          try simp only [go_sem, Nat.reduceEqDiff, Nat.reduceAdd, Nat.reduceSub, Nat.reduceMul, Nat.reduceLeDiff, Nat.reduceLT, Nat.reduceBEq, reduceIte, hb9]
          refine JoinQ.mk (decide ((60 : Int) < r10)) [0] (Option.some.inj h) (by simp only [go_sem, Nat.reduceEqDiff, Nat.reduceAdd, Nat.reduceSub, Nat.reduceMul, Nat.reduceLeDiff, Nat.reduceLT, Nat.reduceBEq, reduceIte, hb9])
      · rintro v5_0 rfl
        have h := hJ6
        try dsimp only [Out.fin] at h
        simp only [go_sem, Nat.reduceEqDiff, Nat.reduceAdd, Nat.reduceSub, Nat.reduceMul, Nat.reduceLeDiff, Nat.reduceLT, Nat.reduceBEq, reduceIte]
        refine AW.test (t := v5_0) (by simp only [go_sem, Nat.reduceEqDiff, Nat.reduceAdd, Nat.reduceSub, Nat.reduceMul, Nat.reduceLeDiff, Nat.reduceLT, Nat.reduceBEq, reduceIte]) (fun hb12 => ?_) (fun hb12 => ?_)
        · have h := ifT hb12 h
          refine AW.one ?_
          refine AW.reg mixed (by kernel_rfl) ?_
          try simp only [go_sem, Nat.reduceEqDiff, Nat.reduceAdd, Nat.reduceSub, Nat.reduceMul, Nat.reduceLeDiff, Nat.reduceLT, Nat.reduceBEq, reduceIte]
          refine AW.ret ?_
          obtain rfl := Option.some.inj h
          simp only [go_sem, Nat.reduceEqDiff, Nat.reduceAdd, Nat.reduceSub, Nat.reduceMul, Nat.reduceLeDiff, Nat.reduceLT, Nat.reduceBEq, reduceIte]
          exact .same _
        · have h := ifF hb12 h
          refine AW.one ?_
          refine AW.reg mixed (by kernel_rfl) ?_
          try simp only [go_sem, Nat.reduceEqDiff, Nat.reduceAdd, Nat.reduceSub, Nat.reduceMul, Nat.reduceLeDiff, Nat.reduceLT, Nat.reduceBEq, reduceIte]
          obtain ⟨r13, hx14, h⟩ := obind h
          have hc := r08_Sort_ok (h := hx14)
          try simp only [NodeA.enc_eta, RatA.enc_eta, aggV, i64V, u32V, strV, List.map_cons, List.map_nil] at hc
          refine callK_pure hc (by simp only [go_sem, Nat.reduceEqDiff, Nat.reduceAdd, Nat.reduceSub, Nat.reduceMul, Nat.reduceLeDiff, Nat.reduceLT, Nat.reduceBEq, reduceIte]) ?_
          try simp only [go_sem, Nat.reduceEqDiff, Nat.reduceAdd, Nat.reduceSub, Nat.reduceMul, Nat.reduceLeDiff, Nat.reduceLT, Nat.reduceBEq, reduceIte]
          refine AW.cut [0] [(1, .d (.val (.int .i64 p1))), (2, .ptr 0 6 0 0), (21, .d (.val (.bool (r13 != p1))))] [some ⟨6, [[.d (.val (.int .i64 p0.op)), .d (.val (.string p0.name)), .d (.val (.bool p0.num.neg)), .d (slD u32V p0.num.num), .d (slD u32V p0.num.den), .d (slD NodeA.enc p0.kids)]]⟩] (by simp only [go_sem, Nat.reduceEqDiff, Nat.reduceAdd, Nat.reduceSub, Nat.reduceMul, Nat.reduceLeDiff, Nat.reduceLT, Nat.reduceBEq, reduceIte]) ?_
          refine AW.test (t := (r13 != p1)) (by simp only [go_sem, Nat.reduceEqDiff, Nat.reduceAdd, Nat.reduceSub, Nat.reduceMul, Nat.reduceLeDiff, Nat.reduceLT, Nat.reduceBEq, reduceIte]) (fun hb15 => ?_) (fun hb15 => ?_)
          · have h := ifT hb15 h
            refine AW.one ?_
            refine AW.reg mixed (by kernel_rfl) ?_
            try simp only [go_sem, Nat.reduceEqDiff, Nat.reduceAdd, Nat.reduceSub, Nat.reduceMul, Nat.reduceLeDiff, Nat.reduceLT, Nat.reduceBEq, reduceIte]
            refine AW.ret ?_
            obtain rfl := Option.some.inj h
            simp only [go_sem, Nat.reduceEqDiff, Nat.reduceAdd, Nat.reduceSub, Nat.reduceMul, Nat.reduceLeDiff, Nat.reduceLT, Nat.reduceBEq, reduceIte]
            exact .same _
          · have h := ifF hb15 h
            refine AW.one ?_
            refine AW.reg mixed (by kernel_rfl) ?_
            try simp only [go_sem, Nat.reduceEqDiff, Nat.reduceAdd, Nat.reduceSub, Nat.reduceMul, Nat.reduceLeDiff, Nat.reduceLT, Nat.reduceBEq, reduceIte]
            obtain ⟨r16, hx17, h⟩ := obind h
            have hc := r08_well_ok (h := hx17)
            try simp only [NodeA.enc_eta, RatA.enc_eta, aggV, i64V, u32V, strV, List.map_cons, List.map_nil] at hc
            refine callK_pure hc (by simp only [go_sem, Nat.reduceEqDiff, Nat.reduceAdd, Nat.reduceSub, Nat.reduceMul, Nat.reduceLeDiff, Nat.reduceLT, Nat.reduceBEq, reduceIte]) ?_
            try simp only [go_sem, Nat.reduceEqDiff, Nat.reduceAdd, Nat.reduceSub, Nat.reduceMul, Nat.reduceLeDiff, Nat.reduceLT, Nat.reduceBEq, reduceIte]
            refine AW.cut [] [(27, .d (.val (.bool (!r16))))] [] (by simp only [go_sem, Nat.reduceEqDiff, Nat.reduceAdd, Nat.reduceSub, Nat.reduceMul, Nat.reduceLeDiff, Nat.reduceLT, Nat.reduceBEq, reduceIte]) ?_
            refine AW.test (t := (!r16)) (by simp only [go_sem, Nat.reduceEqDiff, Nat.reduceAdd, Nat.reduceSub, Nat.reduceMul, Nat.reduceLeDiff, Nat.reduceLT, Nat.reduceBEq, reduceIte]) (fun hb18 => ?_) (fun hb18 => ?_)
            · have h := ifT hb18 h
              refine AW.one ?_
              refine AW.reg mixed (by kernel_rfl) ?_
              try simp only [go_sem, Nat.reduceEqDiff, Nat.reduceAdd, Nat.reduceSub, Nat.reduceMul, Nat.reduceLeDiff, Nat.reduceLT, Nat.reduceBEq, reduceIte]
              refine AW.ret ?_
              obtain rfl := Option.some.inj h
              simp only [go_sem, Nat.reduceEqDiff, Nat.reduceAdd, Nat.reduceSub, Nat.reduceMul, Nat.reduceLeDiff, Nat.reduceLT, Nat.reduceBEq, reduceIte]
              exact .same _
            · have h := ifF hb18 h
              refine AW.skip ?_
              try simp only [go_sem, Nat.reduceEqDiff, Nat.reduceAdd, Nat.reduceSub, Nat.reduceMul, Nat.reduceLeDiff, Nat.reduceLT, Nat.reduceBEq, reduceIte]
              refine AW.cut [] [] [] (by simp only [go_sem, Nat.reduceEqDiff, Nat.reduceAdd, Nat.reduceSub, Nat.reduceMul, Nat.reduceLeDiff, Nat.reduceLT, Nat.reduceBEq, reduceIte]) ?_
              refine AW.one ?_
              refine AW.reg mixed (by kernel_rfl) ?_
              try simp only [go_sem, Nat.reduceEqDiff, Nat.reduceAdd, Nat.reduceSub, Nat.reduceMul, Nat.reduceLeDiff, Nat.reduceLT, Nat.reduceBEq, reduceIte]
              refine AW.ret ?_
              obtain rfl := Option.some.inj h
              simp only [go_sem, Nat.reduceEqDiff, Nat.reduceAdd, Nat.reduceSub, Nat.reduceMul, Nat.reduceLeDiff, Nat.reduceLT, Nat.reduceBEq, reduceIte]
              exact .same _

end Go.Proofs.Ytcgphoghmgeecaa
namespace Go.Proofs.Ytcgphoghmgeecaa
open Go Go.Iso Go.Proofs
set_option linter.unusedSimpArgs false
set_option linter.unusedVariables false
set_option maxRecDepth 100000

/-! ### isochrone/isochroneref10.check -/
def r10_check (K : Nat) (p0 : NodeA) : Option Int := (r08_Sort K p0.op).bind fun r1 => 
  ((
    ((
      if (r1 == (0 : Int)) then
        some true
      else
        some (r1 == (4 : Int))) : Option Bool).bind (fun v5_0 => 
    if v5_0 then
      outM (
        some (80 : Int))
    else
      some (.go ()))) : Option (Out Unit _)).bind (Out.fin fun _ => 
  (r08_Check K p0 r1).bind fun r9 => 
  some r9)
set_option maxHeartbeats 4000000 in
theorem r10_check_ok {K : Nat} {p0 : NodeA} {r : Int} (h : r10_check K p0 = some r) : Cn Try.prog 48 [aggV p0.enc] (.d (.val (.int .i64 r))) := by
  refine Cn.ofA mixed Try.func48 rfl Try.call48 Try.ntmps48 Try.results48 (by simp) (by simp only [go_sem, Nat.reduceEqDiff, Nat.reduceAdd, Nat.reduceSub, Nat.reduceMul, Nat.reduceLeDiff, Nat.reduceLT, Nat.reduceBEq, reduceIte]) fun hfit => ?_
  unfold r10_check at h
  refine AW.cut [] [(0, .agg [.d (.val (.int .i64 p0.op)), .d (.val (.string p0.name)), .d (.val (.bool p0.num.neg)), .d (slD u32V p0.num.num), .d (slD u32V p0.num.den), .d (slD NodeA.enc p0.kids)])] [] (by simp only [go_sem, Nat.reduceEqDiff, Nat.reduceAdd, Nat.reduceSub, Nat.reduceMul, Nat.reduceLeDiff, Nat.reduceLT, Nat.reduceBEq, reduceIte]) ?_
  refine AW.one ?_
  refine AW.reg mixed (by kernel_rfl) ?_
  try simp only [go_sem, Nat.reduceEqDiff, Nat.reduceAdd, Nat.reduceSub, Nat.reduceMul, Nat.reduceLeDiff, Nat.reduceLT, Nat.reduceBEq, reduceIte]
  refine AW.cut [0] [(1, .ptr 0 6 0 0)] [some ⟨6, [[.d (.val (.int .i64 p0.op)), .d (.val (.string p0.name)), .d (.val (.bool p0.num.neg)), .d (slD u32V p0.num.num), .d (slD u32V p0.num.den), .d (slD NodeA.enc p0.kids)]]⟩] (by simp only [go_sem, Nat.reduceEqDiff, Nat.reduceAdd, Nat.reduceSub, Nat.reduceMul, Nat.reduceLeDiff, Nat.reduceLT, Nat.reduceBEq, reduceIte]) ?_
  refine AW.one ?_
  refine AW.reg mixed (by kernel_rfl) ?_
  try simp only [go_sem, Nat.reduceEqDiff, Nat.reduceAdd, Nat.reduceSub, Nat.reduceMul, Nat.reduceLeDiff, Nat.reduceLT, Nat.reduceBEq, reduceIte]
  obtain ⟨r1, hx2, h⟩ := obind h
  have hc := r08_Sort_ok (h := hx2)
  try simp only [NodeA.enc_eta, RatA.enc_eta, aggV, i64V, u32V, strV, List.map_cons, List.map_nil] at hc
  refine callK_pure hc (by simp only [go_sem, Nat.reduceEqDiff, Nat.reduceAdd, Nat.reduceSub, Nat.reduceMul, Nat.reduceLeDiff, Nat.reduceLT, Nat.reduceBEq, reduceIte]) ?_
  try simp only [go_sem, Nat.reduceEqDiff, Nat.reduceAdd, Nat.reduceSub, Nat.reduceMul, Nat.reduceLeDiff, Nat.reduceLT, Nat.reduceBEq, reduceIte]
  refine AW.cut [0] [(1, .ptr 0 6 0 0), (3, .d (.val (.int .i64 r1)))] [some ⟨6, [[.d (.val (.int .i64 p0.op)), .d (.val (.string p0.name)), .d (.val (.bool p0.num.neg)), .d (slD u32V p0.num.num), .d (slD u32V p0.num.den), .d (slD NodeA.enc p0.kids)]]⟩] (by simp only [go_sem, Nat.reduceEqDiff, Nat.reduceAdd, Nat.reduceSub, Nat.reduceMul, Nat.reduceLeDiff, Nat.reduceLT, Nat.reduceBEq, reduceIte]) ?_
  refine AW.one ?_
  obtain ⟨oJ4, h, hJ4⟩ := obind h
  refine AW.join (S := Unit) (fun _ => [(1, .ptr 0 6 0 0), (3, .d (.val (.int .i64 r1)))]) (fun _ => [some ⟨6, [[.d (.val (.int .i64 p0.op)), .d (.val (.string p0.name)), .d (.val (.bool p0.num.neg)), .d (slD u32V p0.num.num), .d (slD u32V p0.num.den), .d (slD NodeA.enc p0.kids)]]⟩]) (fun x => oJ4 = .go x) ?_ ?_
  · skip
    refine AW.one ?_
    obtain ⟨oJ6, h, hJ6⟩ := obind h
    refine AW.join (S := Bool) (fun v5_0 => [(1, .ptr 0 6 0 0), (3, .d (.val (.int .i64 r1))), (12, .d (.val (.bool v5_0)))]) (fun v5_0 => [some ⟨6, [[.d (.val (.int .i64 p0.op)), .d (.val (.string p0.name)), .d (.val (.bool p0.num.neg)), .d (slD u32V p0.num.num), .d (slD u32V p0.num.den), .d (slD NodeA.enc p0.kids)]]⟩]) (fun x => x = oJ6) ?_ ?_
    · skip
      refine AW.reg mixed (by kernel_rfl) ?_
      try simp only [go_sem, Nat.reduceEqDiff, Nat.reduceAdd, Nat.reduceSub, Nat.reduceMul, Nat.reduceLeDiff, Nat.reduceLT, Nat.reduceBEq, reduceIte]
      refine splitK_intro (fun hb7 => ?_) (fun hb7 => ?_)
      · have h := ifT hb7 h
        try simp only [go_sem, Nat.reduceEqDiff, Nat.reduceAdd, Nat.reduceSub, Nat.reduceMul, Nat.reduceLeDiff, Nat.reduceLT, Nat.reduceBEq, reduceIte, hb7]
        refine JoinQ.mk true [0] (Option.some.inj h) (by simp only [go_sem, Nat.reduceEqDiff, Nat.reduceAdd, Nat.reduceSub, Nat.reduceMul, Nat.reduceLeDiff, Nat.reduceLT, Nat.reduceBEq, reduceIte, hb7])
      · have h := ifF hb7 h
        try simp only [go_sem, Nat.reduceEqDiff, Nat.reduceAdd, Nat.reduceSub, Nat.reduceMul, Nat.reduceLeDiff, Nat.reduceLT, Nat.reduceBEq, reduceIte, hb7]
        refine JoinQ.mk (r1 == (4 : Int)) [0] (Option.some.inj h) (by simp only [go_sem, Nat.reduceEqDiff, Nat.reduceAdd, Nat.reduceSub, Nat.reduceMul, Nat.reduceLeDiff, Nat.reduceLT, Nat.reduceBEq, reduceIte, hb7])
    · rintro v5_0 rfl
      have h := hJ6
      try dsimp only [Out.fin] at h
      simp only [go_sem, Nat.reduceEqDiff, Nat.reduceAdd, Nat.reduceSub, Nat.reduceMul, Nat.reduceLeDiff, Nat.reduceLT, Nat.reduceBEq, reduceIte]
      refine AW.test (t := v5_0) (by simp only [go_sem, Nat.reduceEqDiff, Nat.reduceAdd, Nat.reduceSub, Nat.reduceMul, Nat.reduceLeDiff, Nat.reduceLT, Nat.reduceBEq, reduceIte]) (fun hb8 => ?_) (fun hb8 => ?_)
      · have h := ifT hb8 h
        refine AW.one ?_
        refine AW.reg mixed (by kernel_rfl) ?_
        try simp only [go_sem, Nat.reduceEqDiff, Nat.reduceAdd, Nat.reduceSub, Nat.reduceMul, Nat.reduceLeDiff, Nat.reduceLT, Nat.reduceBEq, reduceIte]
        refine AW.ret ?_
        obtain ⟨_, h, ho⟩ := outM_some h
        rw [ho, Out.fin_out] at hJ4
        have h := h.trans hJ4
        obtain rfl := Option.some.inj h
        simp only [go_sem, Nat.reduceEqDiff, Nat.reduceAdd, Nat.reduceSub, Nat.reduceMul, Nat.reduceLeDiff, Nat.reduceLT, Nat.reduceBEq, reduceIte]
        exact .same _
      · have h := ifF hb8 h
        refine AW.skip ?_
        try simp only [go_sem, Nat.reduceEqDiff, Nat.reduceAdd, Nat.reduceSub, Nat.reduceMul, Nat.reduceLeDiff, Nat.reduceLT, Nat.reduceBEq, reduceIte]
        refine JoinQ.mk () [0] (Option.some.inj h).symm (by simp only [go_sem, Nat.reduceEqDiff, Nat.reduceAdd, Nat.reduceSub, Nat.reduceMul, Nat.reduceLeDiff, Nat.reduceLT, Nat.reduceBEq, reduceIte])
  · rintro ⟨⟩ rfl
    have h := hJ4
    try dsimp only [Out.fin] at h
    simp only [go_sem, Nat.reduceEqDiff, Nat.reduceAdd, Nat.reduceSub, Nat.reduceMul, Nat.reduceLeDiff, Nat.reduceLT, Nat.reduceBEq, reduceIte]
    refine AW.one ?_
    refine AW.reg mixed (by kernel_rfl) ?_
    try simp only [go_sem, Nat.reduceEqDiff, Nat.reduceAdd, Nat.reduceSub, Nat.reduceMul, Nat.reduceLeDiff, Nat.reduceLT, Nat.reduceBEq, reduceIte]
    obtain ⟨r9, hx10, h⟩ := obind h
    have hc := r08_Check_ok (h := hx10)
    try simp only [NodeA.enc_eta, RatA.enc_eta, aggV, i64V, u32V, strV, List.map_cons, List.map_nil] at hc
    refine callK_pure hc (by simp only [go_sem, Nat.reduceEqDiff, Nat.reduceAdd, Nat.reduceSub, Nat.reduceMul, Nat.reduceLeDiff, Nat.reduceLT, Nat.reduceBEq, reduceIte]) ?_
    try simp only [go_sem, Nat.reduceEqDiff, Nat.reduceAdd, Nat.reduceSub, Nat.reduceMul, Nat.reduceLeDiff, Nat.reduceLT, Nat.reduceBEq, reduceIte]
    refine AW.ret ?_
    obtain rfl := Option.some.inj h
    simp only [go_sem, Nat.reduceEqDiff, Nat.reduceAdd, Nat.reduceSub, Nat.reduceMul, Nat.reduceLeDiff, Nat.reduceLT, Nat.reduceBEq, reduceIte]
    exact .same _

end Go.Proofs.Ytcgphoghmgeecaa
namespace Go.Proofs.Ytcgphoghmgeecaa
open Go Go.Iso Go.Proofs
set_option linter.unusedSimpArgs false
set_option linter.unusedVariables false
set_option maxRecDepth 100000

/-! ### isochrone/isochroneref10.Polarity -/
def r10_Polarity (K : Nat) (p0 : NodeA) (p1 : List Int) : Option (Int × Int) := (r10_check K p0).bind fun r1 => 
  if (r1 != (0 : Int)) then
    some ((0 : Int), r1)
  else
    (r08_Sort K p0.op).bind fun r4 => 
    if (r4 != (2 : Int)) then
      some ((0 : Int), (80 : Int))
    else
      ((iter (S := Int × Int × NodeA) (R := Out (Int × NodeA) _) K (fun again (i7_0, i7_1, i7_2) => 
        if (decide (i7_1 < (p1.length : Int))) then
          ((
            (idx p1 i7_1).bind fun x14 => 
            ((
              ((
                if (decide (x14 < (0 : Int))) then
                  some true
                else
                  some (decide ((i7_2.kids.length : Int) ≤ x14))) : Option Bool).bind (fun v18_0 => 
              if v18_0 then
                outM (
                  outM (
                    outM (
                      some ((0 : Int), (1 : Int)))))
              else
                some (.go ()))) : Option (Out Unit _)).bind (Out.fin fun _ => 
            ((
              ((
                if (i7_2.op == (29 : Int)) then
                  some true
                else
                  if (i7_2.op == (30 : Int)) then
                    some true
                  else
                    if (i7_2.op == (33 : Int)) then
                      some true
                    else
                      if (i7_2.op == (34 : Int)) then
                        some true
                      else
                        if (i7_2.op == (31 : Int)) then
                          some (x14 == (1 : Int))
                        else
                          some false) : Option Bool).bind (fun v24_0 => 
              if v24_0 then
                some i7_0
              else
                ((
                  if (i7_2.op == (35 : Int)) then
                    some (x14 == (1 : Int))
                  else
                    if (i7_2.op == (36 : Int)) then
                      some (x14 == (1 : Int))
                    else
                      some false) : Option Bool).bind (fun v32_0 => 
                if v32_0 then
                  some i7_0
                else
                  ((
                    if (i7_2.op == (28 : Int)) then
                      some true
                    else
                      some (i7_2.op == (31 : Int))) : Option Bool).bind (fun v37_0 => 
                  if v37_0 then
                    some (IntKind.wrap .i64 (0 - i7_0))
                  else
                    some (0 : Int))))) : Option Int).bind (fun v22_0 => 
            (idx i7_2.kids x14).bind fun x41 => 
            some (.go (v22_0, x41))))) : Option (Out (Int × NodeA) _)).bind (Out.fin fun (v12_0, v12_1) => 
          again (v12_0, IntKind.wrap .i64 (i7_1 + (1 : Int)), v12_1))
        else
          some (.go (i7_0, i7_2))) ((1 : Int), (0 : Int), p0)) : Option (Out (Int × NodeA) _)).bind (Out.fin fun (e8_0, e8_1) => 
      (r08_Sort K e8_1.op).bind fun r43 => 
      if (r43 != (2 : Int)) then
        some ((0 : Int), (80 : Int))
      else
        some (e8_0, (0 : Int)))
set_option maxHeartbeats 4000000 in
theorem r10_Polarity_ok {K : Nat} {p0 : NodeA} {p1 : List Int} {r : Int × Int} (h : r10_Polarity K p0 p1 = some r) : Cn Try.prog 28 [aggV p0.enc, .d (slD i64V p1)] (.tup [.d (.val (.int .i64 r.1)), .d (.val (.int .i64 r.2))]) := by
  refine Cn.ofA mixed Try.func28 rfl Try.call28 Try.ntmps28 Try.results28 (by simp) (by simp only [go_sem, Nat.reduceEqDiff, Nat.reduceAdd, Nat.reduceSub, Nat.reduceMul, Nat.reduceLeDiff, Nat.reduceLT, Nat.reduceBEq, reduceIte]) fun hfit => ?_
  unfold r10_Polarity at h
  refine AW.cut [] [(0, .agg [.d (.val (.int .i64 p0.op)), .d (.val (.string p0.name)), .d (.val (.bool p0.num.neg)), .d (slD u32V p0.num.num), .d (slD u32V p0.num.den), .d (slD NodeA.enc p0.kids)]), (1, .d (slD i64V p1))] [] (by simp only [go_sem, Nat.reduceEqDiff, Nat.reduceAdd, Nat.reduceSub, Nat.reduceMul, Nat.reduceLeDiff, Nat.reduceLT, Nat.reduceBEq, reduceIte]) ?_
  refine AW.one ?_
  refine AW.reg mixed (by kernel_rfl) ?_
  try simp only [go_sem, Nat.reduceEqDiff, Nat.reduceAdd, Nat.reduceSub, Nat.reduceMul, Nat.reduceLeDiff, Nat.reduceLT, Nat.reduceBEq, reduceIte]
  refine AW.cut [0] [(1, .d (slD i64V p1)), (2, .ptr 0 6 0 0)] [some ⟨6, [[.d (.val (.int .i64 p0.op)), .d (.val (.string p0.name)), .d (.val (.bool p0.num.neg)), .d (slD u32V p0.num.num), .d (slD u32V p0.num.den), .d (slD NodeA.enc p0.kids)]]⟩] (by simp only [go_sem, Nat.reduceEqDiff, Nat.reduceAdd, Nat.reduceSub, Nat.reduceMul, Nat.reduceLeDiff, Nat.reduceLT, Nat.reduceBEq, reduceIte]) ?_
  refine AW.one ?_
  refine AW.one ?_
  refine AW.reg mixed (by kernel_rfl) ?_
  try simp only [go_sem, Nat.reduceEqDiff, Nat.reduceAdd, Nat.reduceSub, Nat.reduceMul, Nat.reduceLeDiff, Nat.reduceLT, Nat.reduceBEq, reduceIte]
  obtain ⟨r1, hx2, h⟩ := obind h
  have hc := r10_check_ok (h := hx2)
  try simp only [NodeA.enc_eta, RatA.enc_eta, aggV, i64V, u32V, strV, List.map_cons, List.map_nil] at hc
  refine callK_pure hc (by simp only [go_sem, Nat.reduceEqDiff, Nat.reduceAdd, Nat.reduceSub, Nat.reduceMul, Nat.reduceLeDiff, Nat.reduceLT, Nat.reduceBEq, reduceIte]) ?_
  try simp only [go_sem, Nat.reduceEqDiff, Nat.reduceAdd, Nat.reduceSub, Nat.reduceMul, Nat.reduceLeDiff, Nat.reduceLT, Nat.reduceBEq, reduceIte]
  refine AW.cut [0] [(1, .d (slD i64V p1)), (2, .ptr 0 6 0 0), (6, .d (.val (.int .i64 r1)))] [some ⟨6, [[.d (.val (.int .i64 p0.op)), .d (.val (.string p0.name)), .d (.val (.bool p0.num.neg)), .d (slD u32V p0.num.num), .d (slD u32V p0.num.den), .d (slD NodeA.enc p0.kids)]]⟩] (by simp only [go_sem, Nat.reduceEqDiff, Nat.reduceAdd, Nat.reduceSub, Nat.reduceMul, Nat.reduceLeDiff, Nat.reduceLT, Nat.reduceBEq, reduceIte]) ?_
  refine AW.one ?_
  refine AW.reg mixed (by kernel_rfl) ?_
  try simp only [go_sem, Nat.reduceEqDiff, Nat.reduceAdd, Nat.reduceSub, Nat.reduceMul, Nat.reduceLeDiff, Nat.reduceLT, Nat.reduceBEq, reduceIte]
  refine AW.cut [0] [(1, .d (slD i64V p1)), (2, .ptr 0 6 0 0), (6, .d (.val (.int .i64 r1))), (13, .d (.val (.bool (r1 != (0 : Int)))))] [some ⟨6, [[.d (.val (.int .i64 p0.op)), .d (.val (.string p0.name)), .d (.val (.bool p0.num.neg)), .d (slD u32V p0.num.num), .d (slD u32V p0.num.den), .d (slD NodeA.enc p0.kids)]]⟩] (by simp only [go_sem, Nat.reduceEqDiff, Nat.reduceAdd, Nat.reduceSub, Nat.reduceMul, Nat.reduceLeDiff, Nat.reduceLT, Nat.reduceBEq, reduceIte]) ?_
  refine AW.test (t := (r1 != (0 : Int))) (by simp only [go_sem, Nat.reduceEqDiff, Nat.reduceAdd, Nat.reduceSub, Nat.reduceMul, Nat.reduceLeDiff, Nat.reduceLT, Nat.reduceBEq, reduceIte]) (fun hb3 => ?_) (fun hb3 => ?_)
  · have h := ifT hb3 h
    refine AW.one ?_
    refine AW.reg mixed (by kernel_rfl) ?_
    try simp only [go_sem, Nat.reduceEqDiff, Nat.reduceAdd, Nat.reduceSub, Nat.reduceMul, Nat.reduceLeDiff, Nat.reduceLT, Nat.reduceBEq, reduceIte]
    refine AW.ret ?_
    obtain rfl := Option.some.inj h
    simp only [go_sem, Nat.reduceEqDiff, Nat.reduceAdd, Nat.reduceSub, Nat.reduceMul, Nat.reduceLeDiff, Nat.reduceLT, Nat.reduceBEq, reduceIte]
    exact .same _
  · have h := ifF hb3 h
    refine AW.skip ?_
    try simp only [go_sem, Nat.reduceEqDiff, Nat.reduceAdd, Nat.reduceSub, Nat.reduceMul, Nat.reduceLeDiff, Nat.reduceLT, Nat.reduceBEq, reduceIte]
    refine AW.cut [0] [(1, .d (slD i64V p1)), (2, .ptr 0 6 0 0)] [some ⟨6, [[.d (.val (.int .i64 p0.op)), .d (.val (.string p0.name)), .d (.val (.bool p0.num.neg)), .d (slD u32V p0.num.num), .d (slD u32V p0.num.den), .d (slD NodeA.enc p0.kids)]]⟩] (by simp only [go_sem, Nat.reduceEqDiff, Nat.reduceAdd, Nat.reduceSub, Nat.reduceMul, Nat.reduceLeDiff, Nat.reduceLT, Nat.reduceBEq, reduceIte]) ?_
    refine AW.one ?_
    refine AW.one ?_
    refine AW.reg mixed (by kernel_rfl) ?_
    try simp only [go_sem, Nat.reduceEqDiff, Nat.reduceAdd, Nat.reduceSub, Nat.reduceMul, Nat.reduceLeDiff, Nat.reduceLT, Nat.reduceBEq, reduceIte]
    obtain ⟨r4, hx5, h⟩ := obind h
    have hc := r08_Sort_ok (h := hx5)
    try simp only [NodeA.enc_eta, RatA.enc_eta, aggV, i64V, u32V, strV, List.map_cons, List.map_nil] at hc
    refine callK_pure hc (by simp only [go_sem, Nat.reduceEqDiff, Nat.reduceAdd, Nat.reduceSub, Nat.reduceMul, Nat.reduceLeDiff, Nat.reduceLT, Nat.reduceBEq, reduceIte]) ?_
    try simp only [go_sem, Nat.reduceEqDiff, Nat.reduceAdd, Nat.reduceSub, Nat.reduceMul, Nat.reduceLeDiff, Nat.reduceLT, Nat.reduceBEq, reduceIte]
    refine AW.cut [0] [(1, .d (slD i64V p1)), (2, .ptr 0 6 0 0), (18, .d (.val (.bool (r4 != (2 : Int)))))] [some ⟨6, [[.d (.val (.int .i64 p0.op)), .d (.val (.string p0.name)), .d (.val (.bool p0.num.neg)), .d (slD u32V p0.num.num), .d (slD u32V p0.num.den), .d (slD NodeA.enc p0.kids)]]⟩] (by simp only [go_sem, Nat.reduceEqDiff, Nat.reduceAdd, Nat.reduceSub, Nat.reduceMul, Nat.reduceLeDiff, Nat.reduceLT, Nat.reduceBEq, reduceIte]) ?_
    refine AW.test (t := (r4 != (2 : Int))) (by simp only [go_sem, Nat.reduceEqDiff, Nat.reduceAdd, Nat.reduceSub, Nat.reduceMul, Nat.reduceLeDiff, Nat.reduceLT, Nat.reduceBEq, reduceIte]) (fun hb6 => ?_) (fun hb6 => ?_)
    · have h := ifT hb6 h
      refine AW.one ?_
      refine AW.reg mixed (by kernel_rfl) ?_
      try simp only [go_sem, Nat.reduceEqDiff, Nat.reduceAdd, Nat.reduceSub, Nat.reduceMul, Nat.reduceLeDiff, Nat.reduceLT, Nat.reduceBEq, reduceIte]
      refine AW.ret ?_
      obtain rfl := Option.some.inj h
      simp only [go_sem, Nat.reduceEqDiff, Nat.reduceAdd, Nat.reduceSub, Nat.reduceMul, Nat.reduceLeDiff, Nat.reduceLT, Nat.reduceBEq, reduceIte]
      exact .same _
    · have h := ifF hb6 h
      refine AW.skip ?_
      try simp only [go_sem, Nat.reduceEqDiff, Nat.reduceAdd, Nat.reduceSub, Nat.reduceMul, Nat.reduceLeDiff, Nat.reduceLT, Nat.reduceBEq, reduceIte]
      refine AW.cut [0] [(1, .d (slD i64V p1)), (2, .ptr 0 6 0 0)] [some ⟨6, [[.d (.val (.int .i64 p0.op)), .d (.val (.string p0.name)), .d (.val (.bool p0.num.neg)), .d (slD u32V p0.num.num), .d (slD u32V p0.num.den), .d (slD NodeA.enc p0.kids)]]⟩] (by simp only [go_sem, Nat.reduceEqDiff, Nat.reduceAdd, Nat.reduceSub, Nat.reduceMul, Nat.reduceLeDiff, Nat.reduceLT, Nat.reduceBEq, reduceIte]) ?_
      refine AW.one ?_
      refine AW.reg mixed (by kernel_rfl) ?_
      try simp only [go_sem, Nat.reduceEqDiff, Nat.reduceAdd, Nat.reduceSub, Nat.reduceMul, Nat.reduceLeDiff, Nat.reduceLT, Nat.reduceBEq, reduceIte]
      refine AW.cut [0] [(1, .d (slD i64V p1)), (2, .ptr 0 6 0 0), (7, .d (.val (.int .i64 (1 : Int))))] [some ⟨6, [[.d (.val (.int .i64 p0.op)), .d (.val (.string p0.name)), .d (.val (.bool p0.num.neg)), .d (slD u32V p0.num.num), .d (slD u32V p0.num.den), .d (slD NodeA.enc p0.kids)]]⟩] (by simp only [go_sem, Nat.reduceEqDiff, Nat.reduceAdd, Nat.reduceSub, Nat.reduceMul, Nat.reduceLeDiff, Nat.reduceLT, Nat.reduceBEq, reduceIte]) ?_
      refine AW.one ?_
      refine AW.one ?_
      refine AW.reg mixed (by kernel_rfl) ?_
      try simp only [go_sem, Nat.reduceEqDiff, Nat.reduceAdd, Nat.reduceSub, Nat.reduceMul, Nat.reduceLeDiff, Nat.reduceLT, Nat.reduceBEq, reduceIte]
      refine AW.cut [0] [(1, .d (slD i64V p1)), (2, .ptr 0 6 0 0), (7, .d (.val (.int .i64 (1 : Int)))), (8, .d (.val (.int .i64 (0 : Int))))] [some ⟨6, [[.d (.val (.int .i64 p0.op)), .d (.val (.string p0.name)), .d (.val (.bool p0.num.neg)), .d (slD u32V p0.num.num), .d (slD u32V p0.num.den), .d (slD NodeA.enc p0.kids)]]⟩] (by simp only [go_sem, Nat.reduceEqDiff, Nat.reduceAdd, Nat.reduceSub, Nat.reduceMul, Nat.reduceLeDiff, Nat.reduceLT, Nat.reduceBEq, reduceIte]) ?_
      obtain ⟨oJ10, h, hJ10⟩ := obind h
      refine AW.join (S := Int × NodeA) (fun (e8_0, e8_1) => [(2, .ptr 0 6 0 0), (7, .d (.val (.int .i64 e8_0)))]) (fun (e8_0, e8_1) => [some ⟨6, [[.d (.val (.int .i64 e8_1.op)), .d (.val (.string e8_1.name)), .d (.val (.bool e8_1.num.neg)), .d (slD u32V e8_1.num.num), .d (slD u32V e8_1.num.den), .d (slD NodeA.enc e8_1.kids)]]⟩]) (fun x => oJ10 = .go x) ?_ ?_
      · refine AW.block ?_
        refine AW.iter (S := Int × Int × NodeA) (fun (i7_0, i7_1, i7_2) => [(1, .d (slD i64V p1)), (2, .ptr 0 6 0 0), (7, .d (.val (.int .i64 i7_0))), (8, .d (.val (.int .i64 i7_1)))]) (fun (i7_0, i7_1, i7_2) => [some ⟨6, [[.d (.val (.int .i64 i7_2.op)), .d (.val (.string i7_2.name)), .d (.val (.bool i7_2.num.neg)), .d (slD u32V i7_2.num.num), .d (slD u32V i7_2.num.den), .d (slD NodeA.enc i7_2.kids)]]⟩]) [0] h (by simp only [go_sem, Nat.reduceEqDiff, Nat.reduceAdd, Nat.reduceSub, Nat.reduceMul, Nat.reduceLeDiff, Nat.reduceLT, Nat.reduceBEq, reduceIte]) ?_
        rintro again ⟨i7_0, i7_1, i7_2⟩ h
        try dsimp only at h
        refine AW.one ?_
        refine AW.one ?_
        refine AW.reg mixed (by kernel_rfl) ?_
        try simp only [go_sem, Nat.reduceEqDiff, Nat.reduceAdd, Nat.reduceSub, Nat.reduceMul, Nat.reduceLeDiff, Nat.reduceLT, Nat.reduceBEq, reduceIte]
        refine AW.cut [0] [(1, .d (slD i64V p1)), (2, .ptr 0 6 0 0), (7, .d (.val (.int .i64 i7_0))), (8, .d (.val (.int .i64 i7_1))), (22, .d (.val (.bool (decide (i7_1 < (p1.length : Int))))))] [some ⟨6, [[.d (.val (.int .i64 i7_2.op)), .d (.val (.string i7_2.name)), .d (.val (.bool i7_2.num.neg)), .d (slD u32V i7_2.num.num), .d (slD u32V i7_2.num.den), .d (slD NodeA.enc i7_2.kids)]]⟩] (by simp only [go_sem, Nat.reduceEqDiff, Nat.reduceAdd, Nat.reduceSub, Nat.reduceMul, Nat.reduceLeDiff, Nat.reduceLT, Nat.reduceBEq, reduceIte]) ?_
        refine AW.test (t := (decide (i7_1 < (p1.length : Int)))) (by simp only [go_sem, Nat.reduceEqDiff, Nat.reduceAdd, Nat.reduceSub, Nat.reduceMul, Nat.reduceLeDiff, Nat.reduceLT, Nat.reduceBEq, reduceIte]) (fun hb11 => ?_) (fun hb11 => ?_)
        · have h := ifT hb11 h
          refine AW.skip ?_
          try simp only [go_sem, Nat.reduceEqDiff, Nat.reduceAdd, Nat.reduceSub, Nat.reduceMul, Nat.reduceLeDiff, Nat.reduceLT, Nat.reduceBEq, reduceIte]
          refine AW.cut [0] [(1, .d (slD i64V p1)), (2, .ptr 0 6 0 0), (7, .d (.val (.int .i64 i7_0))), (8, .d (.val (.int .i64 i7_1)))] [some ⟨6, [[.d (.val (.int .i64 i7_2.op)), .d (.val (.string i7_2.name)), .d (.val (.bool i7_2.num.neg)), .d (slD u32V i7_2.num.num), .d (slD u32V i7_2.num.den), .d (slD NodeA.enc i7_2.kids)]]⟩] (by simp only [go_sem, Nat.reduceEqDiff, Nat.reduceAdd, Nat.reduceSub, Nat.reduceMul, Nat.reduceLeDiff, Nat.reduceLT, Nat.reduceBEq, reduceIte]) ?_
          refine AW.one ?_
          obtain ⟨oJ13, h, hJ13⟩ := obind h
          refine AW.join (S := Int × NodeA) (fun (v12_0, v12_1) => [(1, .d (slD i64V p1)), (2, .ptr 0 6 0 0), (7, .d (.val (.int .i64 v12_0))), (8, .d (.val (.int .i64 i7_1)))]) (fun (v12_0, v12_1) => [some ⟨6, [[.d (.val (.int .i64 v12_1.op)), .d (.val (.string v12_1.name)), .d (.val (.bool v12_1.num.neg)), .d (slD u32V v12_1.num.num), .d (slD u32V v12_1.num.den), .d (slD NodeA.enc v12_1.kids)]]⟩]) (fun x => oJ13 = .go x) ?_ ?_
          · skip
            refine AW.block ?_
            refine AW.one ?_
            refine AW.reg mixed (by kernel_rfl) ?_
            obtain ⟨x14, hx15, h⟩ := obind h
            try simp only [go_sem, Nat.reduceEqDiff, Nat.reduceAdd, Nat.reduceSub, Nat.reduceMul, Nat.reduceLeDiff, Nat.reduceLT, Nat.reduceBEq, reduceIte, (idx_some hx15).1, (idx_some hx15).2]
            refine AW.cut [0] [(1, .d (slD i64V p1)), (2, .ptr 0 6 0 0), (7, .d (.val (.int .i64 i7_0))), (8, .d (.val (.int .i64 i7_1))), (9, .d (.val (.int .i64 x14)))] [some ⟨6, [[.d (.val (.int .i64 i7_2.op)), .d (.val (.string i7_2.name)), .d (.val (.bool i7_2.num.neg)), .d (slD u32V i7_2.num.num), .d (slD u32V i7_2.num.den), .d (slD NodeA.enc i7_2.kids)]]⟩] (by simp only [go_sem, Nat.reduceEqDiff, Nat.reduceAdd, Nat.reduceSub, Nat.reduceMul, Nat.reduceLeDiff, Nat.reduceLT, Nat.reduceBEq, reduceIte, (idx_some hx15).1, (idx_some hx15).2]) ?_
            refine AW.one ?_
            obtain ⟨oJ17, h, hJ17⟩ := obind h
            refine AW.join (S := Unit) (fun _ => [(1, .d (slD i64V p1)), (2, .ptr 0 6 0 0), (7, .d (.val (.int .i64 i7_0))), (8, .d (.val (.int .i64 i7_1))), (9, .d (.val (.int .i64 x14)))]) (fun _ => [some ⟨6, [[.d (.val (.int .i64 i7_2.op)), .d (.val (.string i7_2.name)), .d (.val (.bool i7_2.num.neg)), .d (slD u32V i7_2.num.num), .d (slD u32V i7_2.num.den), .d (slD NodeA.enc i7_2.kids)]]⟩]) (fun x => oJ17 = .go x) ?_ ?_
            · skip
              refine AW.one ?_
              obtain ⟨oJ19, h, hJ19⟩ := obind h
              refine AW.join (S := Bool) (fun v18_0 => [(1, .d (slD i64V p1)), (2, .ptr 0 6 0 0), (7, .d (.val (.int .i64 i7_0))), (8, .d (.val (.int .i64 i7_1))), (9, .d (.val (.int .i64 x14))), (37, .d (.val (.bool v18_0)))]) (fun v18_0 => [some ⟨6, [[.d (.val (.int .i64 i7_2.op)), .d (.val (.string i7_2.name)), .d (.val (.bool i7_2.num.neg)), .d (slD u32V i7_2.num.num), .d (slD u32V i7_2.num.den), .d (slD NodeA.enc i7_2.kids)]]⟩]) (fun x => x = oJ19) ?_ ?_
              · skip
                refine AW.reg mixed (by kernel_rfl) ?_
                try simp only [go_sem, Nat.reduceEqDiff, Nat.reduceAdd, Nat.reduceSub, Nat.reduceMul, Nat.reduceLeDiff, Nat.reduceLT, Nat.reduceBEq, reduceIte]
                refine splitK_intro (fun hb20 => ?_) (fun hb20 => ?_)
                · have h := ifT hb20 h
                  try simp only [go_sem, Nat.reduceEqDiff, Nat.reduceAdd, Nat.reduceSub, Nat.reduceMul, Nat.reduceLeDiff, Nat.reduceLT, Nat.reduceBEq, reduceIte, hb20]
                  refine JoinQ.mk true [0] (Option.some.inj h) (by simp only [go_sem, Nat.reduceEqDiff, Nat.reduceAdd, Nat.reduceSub, Nat.reduceMul, Nat.reduceLeDiff, Nat.reduceLT, Nat.reduceBEq, reduceIte, hb20])
                · have h := ifF hb20 h
                  try simp only [go_sem, Nat.reduceEqDiff, Nat.reduceAdd, Nat.reduceSub, Nat.reduceMul, Nat.reduceLeDiff, Nat.reduceLT, Nat.reduceBEq, reduceIte, hb20]
                  refine JoinQ.mk (decide ((i7_2.kids.length : Int) ≤ x14)) [0] (Option.some.inj h) (by simp only [go_sem, Nat.reduceEqDiff, Nat.reduceAdd, Nat.reduceSub, Nat.reduceMul, Nat.reduceLeDiff, Nat.reduceLT, Nat.reduceBEq, reduceIte, hb20])
              · rintro v18_0 rfl
                have h := hJ19
                try dsimp only [Out.fin] at h
                simp only [go_sem, Nat.reduceEqDiff, Nat.reduceAdd, Nat.reduceSub, Nat.reduceMul, Nat.reduceLeDiff, Nat.reduceLT, Nat.reduceBEq, reduceIte]
                refine AW.test (t := v18_0) (by simp only [go_sem, Nat.reduceEqDiff, Nat.reduceAdd, Nat.reduceSub, Nat.reduceMul, Nat.reduceLeDiff, Nat.reduceLT, Nat.reduceBEq, reduceIte]) (fun hb21 => ?_) (fun hb21 => ?_)
                · have h := ifT hb21 h
                  refine AW.one ?_
                  refine AW.reg mixed (by kernel_rfl) ?_
                  try simp only [go_sem, Nat.reduceEqDiff, Nat.reduceAdd, Nat.reduceSub, Nat.reduceMul, Nat.reduceLeDiff, Nat.reduceLT, Nat.reduceBEq, reduceIte]
                  refine AW.ret ?_
                  obtain ⟨_, h, ho⟩ := outM_some h
                  rw [ho, Out.fin_out] at hJ17
                  have h := h.trans hJ17
                  obtain ⟨_, h, ho⟩ := outM_some h
                  rw [ho, Out.fin_out] at hJ13
                  have h := h.trans hJ13
                  obtain ⟨_, h, ho⟩ := outM_some h
                  rw [ho, Out.fin_out] at hJ10
                  have h := h.trans hJ10
                  obtain rfl := Option.some.inj h
                  simp only [go_sem, Nat.reduceEqDiff, Nat.reduceAdd, Nat.reduceSub, Nat.reduceMul, Nat.reduceLeDiff, Nat.reduceLT, Nat.reduceBEq, reduceIte]
                  exact .same _
                · have h := ifF hb21 h
                  refine AW.skip ?_
                  try simp only [go_sem, Nat.reduceEqDiff, Nat.reduceAdd, Nat.reduceSub, Nat.reduceMul, Nat.reduceLeDiff, Nat.reduceLT, Nat.reduceBEq, reduceIte]
                  refine JoinQ.mk () [0] (Option.some.inj h).symm (by simp only [go_sem, Nat.reduceEqDiff, Nat.reduceAdd, Nat.reduceSub, Nat.reduceMul, Nat.reduceLeDiff, Nat.reduceLT, Nat.reduceBEq, reduceIte])
            · rintro ⟨⟩ rfl
              have h := hJ17
              try dsimp only [Out.fin] at h
              simp only [go_sem, Nat.reduceEqDiff, Nat.reduceAdd, Nat.reduceSub, Nat.reduceMul, Nat.reduceLeDiff, Nat.reduceLT, Nat.reduceBEq, reduceIte]
              refine AW.one ?_
              obtain ⟨oJ23, h, hJ23⟩ := obind h
              refine AW.join (S := Int) (fun v22_0 => [(1, .d (slD i64V p1)), (2, .ptr 0 6 0 0), (7, .d (.val (.int .i64 v22_0))), (8, .d (.val (.int .i64 i7_1))), (9, .d (.val (.int .i64 x14)))]) (fun v22_0 => [some ⟨6, [[.d (.val (.int .i64 i7_2.op)), .d (.val (.string i7_2.name)), .d (.val (.bool i7_2.num.neg)), .d (slD u32V i7_2.num.num), .d (slD u32V i7_2.num.den), .d (slD NodeA.enc i7_2.kids)]]⟩]) (fun x => x = oJ23) ?_ ?_
              · skip
                refine AW.block ?_
                refine AW.one ?_
                obtain ⟨oJ25, h, hJ25⟩ := obind h
                refine AW.join (S := Bool) (fun v24_0 => [(1, .d (slD i64V p1)), (2, .ptr 0 6 0 0), (7, .d (.val (.int .i64 i7_0))), (8, .d (.val (.int .i64 i7_1))), (9, .d (.val (.int .i64 x14))), (38, .d (.val (.bool v24_0)))]) (fun v24_0 => [some ⟨6, [[.d (.val (.int .i64 i7_2.op)), .d (.val (.string i7_2.name)), .d (.val (.bool i7_2.num.neg)), .d (slD u32V i7_2.num.num), .d (slD u32V i7_2.num.den), .d (slD NodeA.enc i7_2.kids)]]⟩]) (fun x => x = oJ25) ?_ ?_
                · skip
                  refine AW.reg mixed (by kernel_rfl) ?_
                  try simp only [go_sem, Nat.reduceEqDiff, Nat.reduceAdd, Nat.reduceSub, Nat.reduceMul, Nat.reduceLeDiff, Nat.reduceLT, Nat.reduceBEq, reduceIte]
                  refine splitK_intro (fun hb26 => ?_) (fun hb26 => ?_)
                  · have h := ifT hb26 h
                    try simp only [go_sem, Nat.reduceEqDiff, Nat.reduceAdd, Nat.reduceSub, Nat.reduceMul, Nat.reduceLeDiff, Nat.reduceLT, Nat.reduceBEq, reduceIte, hb26]
                    refine JoinQ.mk true [0] (Option.some.inj h) (by simp only [go_sem, Nat.reduceEqDiff, Nat.reduceAdd, Nat.reduceSub, Nat.reduceMul, Nat.reduceLeDiff, Nat.reduceLT, Nat.reduceBEq, reduceIte, hb26])
                  · have h := ifF hb26 h
                    try simp only [go_sem, Nat.reduceEqDiff, Nat.reduceAdd, Nat.reduceSub, Nat.reduceMul, Nat.reduceLeDiff, Nat.reduceLT, Nat.reduceBEq, reduceIte, hb26]
                    refine splitK_intro (fun hb27 => ?_) (fun hb27 => ?_)
                    · have h := ifT hb27 h
                      try simp only [go_sem, Nat.reduceEqDiff, Nat.reduceAdd, Nat.reduceSub, Nat.reduceMul, Nat.reduceLeDiff, Nat.reduceLT, Nat.reduceBEq, reduceIte, hb26, hb27]
                      refine JoinQ.mk true [0] (Option.some.inj h) (by simp only [go_sem, Nat.reduceEqDiff, Nat.reduceAdd, Nat.reduceSub, Nat.reduceMul, Nat.reduceLeDiff, Nat.reduceLT, Nat.reduceBEq, reduceIte, hb26, hb27])
                    · have h := ifF hb27 h
                      try simp only [go_sem, Nat.reduceEqDiff, Nat.reduceAdd, Nat.reduceSub, Nat.reduceMul, Nat.reduceLeDiff, Nat.reduceLT, Nat.reduceBEq, reduceIte, hb26, hb27]
                      refine splitK_intro (fun hb28 => ?_) (fun hb28 => ?_)
                      · have h := ifT hb28 h
                        try simp only [go_sem, Nat.reduceEqDiff, Nat.reduceAdd, Nat.reduceSub, Nat.reduceMul, Nat.reduceLeDiff, Nat.reduceLT, Nat.reduceBEq, reduceIte, hb26, hb27, hb28]
                        refine JoinQ.mk true [0] (Option.some.inj h) (by simp only [go_sem, Nat.reduceEqDiff, Nat.reduceAdd, Nat.reduceSub, Nat.reduceMul, Nat.reduceLeDiff, Nat.reduceLT, Nat.reduceBEq, reduceIte, hb26, hb27, hb28])
                      · have h := ifF hb28 h
                        try simp only [go_sem, Nat.reduceEqDiff, Nat.reduceAdd, Nat.reduceSub, Nat.reduceMul, Nat.reduceLeDiff, Nat.reduceLT, Nat.reduceBEq, reduceIte, hb26, hb27, hb28]
                        refine splitK_intro (fun hb29 => ?_) (fun hb29 => ?_)
                        · have h := ifT hb29 h
                          try simp only [go_sem, Nat.reduceEqDiff, Nat.reduceAdd, Nat.reduceSub, Nat.reduceMul, Nat.reduceLeDiff, Nat.reduceLT, Nat.reduceBEq, reduceIte, hb26, hb27, hb28, hb29]
                          refine JoinQ.mk true [0] (Option.some.inj h) (by simp only [go_sem, Nat.reduceEqDiff, Nat.reduceAdd, Nat.reduceSub, Nat.reduceMul, Nat.reduceLeDiff, Nat.reduceLT, Nat.reduceBEq, reduceIte, hb26, hb27, hb28, hb29])
                        · have h := ifF hb29 h
                          try simp only [go_sem, Nat.reduceEqDiff, Nat.reduceAdd, Nat.reduceSub, Nat.reduceMul, Nat.reduceLeDiff, Nat.reduceLT, Nat.reduceBEq, reduceIte, hb26, hb27, hb28, hb29]
                          refine splitK_intro (fun hb30 => ?_) (fun hb30 => ?_)
                          · have h := ifT hb30 h
                            try simp only [go_sem, Nat.reduceEqDiff, Nat.reduceAdd, Nat.reduceSub, Nat.reduceMul, Nat.reduceLeDiff, Nat.reduceLT, Nat.reduceBEq, reduceIte, hb26, hb27, hb28, hb29, hb30]
                            refine JoinQ.mk (x14 == (1 : Int)) [0] (Option.some.inj h) (by simp only [go_sem, Nat.reduceEqDiff, Nat.reduceAdd, Nat.reduceSub, Nat.reduceMul, Nat.reduceLeDiff, Nat.reduceLT, Nat.reduceBEq, reduceIte, hb26, hb27, hb28, hb29, hb30])
                          · have h := ifF hb30 h
                            try simp only [go_sem, Nat.reduceEqDiff, Nat.reduceAdd, Nat.reduceSub, Nat.reduceMul, Nat.reduceLeDiff, Nat.reduceLT, Nat.reduceBEq, reduceIte, hb26, hb27, hb28, hb29, hb30]
                            refine JoinQ.mk false [0] (Option.some.inj h) (by simp only [go_sem, Nat.reduceEqDiff, Nat.reduceAdd, Nat.reduceSub, Nat.reduceMul, Nat.reduceLeDiff, Nat.reduceLT, Nat.reduceBEq, reduceIte, hb26, hb27, hb28, hb29, hb30])
                · rintro v24_0 rfl
                  have h := hJ25
                  try dsimp only [Out.fin] at h
                  simp only [go_sem, Nat.reduceEqDiff, Nat.reduceAdd, Nat.reduceSub, Nat.reduceMul, Nat.reduceLeDiff, Nat.reduceLT, Nat.reduceBEq, reduceIte]
                  refine AW.test (t := v24_0) (by simp only [go_sem, Nat.reduceEqDiff, Nat.reduceAdd, Nat.reduceSub, Nat.reduceMul, Nat.reduceLeDiff, Nat.reduceLT, Nat.reduceBEq, reduceIte]) (fun hb31 => ?_) (fun hb31 => ?_)
                  · have h := ifT hb31 h
                    refine AW.skip ?_
                    try simp only [go_sem, Nat.reduceEqDiff, Nat.reduceAdd, Nat.reduceSub, Nat.reduceMul, Nat.reduceLeDiff, Nat.reduceLT, Nat.reduceBEq, reduceIte]
                    refine JoinQ.mk i7_0 [0] (Option.some.inj h) (by simp only [go_sem, Nat.reduceEqDiff, Nat.reduceAdd, Nat.reduceSub, Nat.reduceMul, Nat.reduceLeDiff, Nat.reduceLT, Nat.reduceBEq, reduceIte])
                  · have h := ifF hb31 h
                    refine AW.one ?_
                    obtain ⟨oJ33, h, hJ33⟩ := obind h
                    refine AW.join (S := Bool) (fun v32_0 => [(1, .d (slD i64V p1)), (2, .ptr 0 6 0 0), (7, .d (.val (.int .i64 i7_0))), (8, .d (.val (.int .i64 i7_1))), (9, .d (.val (.int .i64 x14))), (66, .d (.val (.bool v32_0)))]) (fun v32_0 => [some ⟨6, [[.d (.val (.int .i64 i7_2.op)), .d (.val (.string i7_2.name)), .d (.val (.bool i7_2.num.neg)), .d (slD u32V i7_2.num.num), .d (slD u32V i7_2.num.den), .d (slD NodeA.enc i7_2.kids)]]⟩]) (fun x => x = oJ33) ?_ ?_
                    · skip
                      refine AW.reg mixed (by kernel_rfl) ?_
                      try simp only [go_sem, Nat.reduceEqDiff, Nat.reduceAdd, Nat.reduceSub, Nat.reduceMul, Nat.reduceLeDiff, Nat.reduceLT, Nat.reduceBEq, reduceIte]
                      refine splitK_intro (fun hb34 => ?_) (fun hb34 => ?_)
                      · have h := ifT hb34 h
                        try simp only [go_sem, Nat.reduceEqDiff, Nat.reduceAdd, Nat.reduceSub, Nat.reduceMul, Nat.reduceLeDiff, Nat.reduceLT, Nat.reduceBEq, reduceIte, hb34]
                        refine JoinQ.mk (x14 == (1 : Int)) [0] (Option.some.inj h) (by simp only [go_sem, Nat.reduceEqDiff, Nat.reduceAdd, Nat.reduceSub, Nat.reduceMul, Nat.reduceLeDiff, Nat.reduceLT, Nat.reduceBEq, reduceIte, hb34])
                      · have h := ifF hb34 h
                        try simp only [go_sem, Nat.reduceEqDiff, Nat.reduceAdd, Nat.reduceSub, Nat.reduceMul, Nat.reduceLeDiff, Nat.reduceLT, Nat.reduceBEq, reduceIte, hb34]
                        refine splitK_intro (fun hb35 => ?_) (fun hb35 => ?_)
                        · have h := ifT hb35 h
                          try simp only [go_sem, Nat.reduceEqDiff, Nat.reduceAdd, Nat.reduceSub, Nat.reduceMul, Nat.reduceLeDiff, Nat.reduceLT, Nat.reduceBEq, reduceIte, hb34, hb35]
                          refine JoinQ.mk (x14 == (1 : Int)) [0] (Option.some.inj h) (by simp only [go_sem, Nat.reduceEqDiff, Nat.reduceAdd, Nat.reduceSub, Nat.reduceMul, Nat.reduceLeDiff, Nat.reduceLT, Nat.reduceBEq, reduceIte, hb34, hb35])
                        · have h := ifF hb35 h
                          try simp only [go_sem, Nat.reduceEqDiff, Nat.reduceAdd, Nat.reduceSub, Nat.reduceMul, Nat.reduceLeDiff, Nat.reduceLT, Nat.reduceBEq, reduceIte, hb34, hb35]
                          refine JoinQ.mk false [0] (Option.some.inj h) (by simp only [go_sem, Nat.reduceEqDiff, Nat.reduceAdd, Nat.reduceSub, Nat.reduceMul, Nat.reduceLeDiff, Nat.reduceLT, Nat.reduceBEq, reduceIte, hb34, hb35])
                    · rintro v32_0 rfl
                      have h := hJ33
                      try dsimp only [Out.fin] at h
                      simp only [go_sem, Nat.reduceEqDiff, Nat.reduceAdd, Nat.reduceSub, Nat.reduceMul, Nat.reduceLeDiff, Nat.reduceLT, Nat.reduceBEq, reduceIte]
                      refine AW.test (t := v32_0) (by simp only [go_sem, Nat.reduceEqDiff, Nat.reduceAdd, Nat.reduceSub, Nat.reduceMul, Nat.reduceLeDiff, Nat.reduceLT, Nat.reduceBEq, reduceIte]) (fun hb36 => ?_) (fun hb36 => ?_)
                      · have h := ifT hb36 h
                        refine AW.skip ?_
                        try simp only [go_sem, Nat.reduceEqDiff, Nat.reduceAdd, Nat.reduceSub, Nat.reduceMul, Nat.reduceLeDiff, Nat.reduceLT, Nat.reduceBEq, reduceIte]
                        refine JoinQ.mk i7_0 [0] (Option.some.inj h) (by simp only [go_sem, Nat.reduceEqDiff, Nat.reduceAdd, Nat.reduceSub, Nat.reduceMul, Nat.reduceLeDiff, Nat.reduceLT, Nat.reduceBEq, reduceIte])
                      · have h := ifF hb36 h
                        refine AW.one ?_
                        obtain ⟨oJ38, h, hJ38⟩ := obind h
                        refine AW.join (S := Bool) (fun v37_0 => [(1, .d (slD i64V p1)), (2, .ptr 0 6 0 0), (7, .d (.val (.int .i64 i7_0))), (8, .d (.val (.int .i64 i7_1))), (9, .d (.val (.int .i64 x14))), (79, .d (.val (.bool v37_0)))]) (fun v37_0 => [some ⟨6, [[.d (.val (.int .i64 i7_2.op)), .d (.val (.string i7_2.name)), .d (.val (.bool i7_2.num.neg)), .d (slD u32V i7_2.num.num), .d (slD u32V i7_2.num.den), .d (slD NodeA.enc i7_2.kids)]]⟩]) (fun x => x = oJ38) ?_ ?_
                        · skip
                          refine AW.reg mixed (by kernel_rfl) ?_
                          try simp only [go_sem, Nat.reduceEqDiff, Nat.reduceAdd, Nat.reduceSub, Nat.reduceMul, Nat.reduceLeDiff, Nat.reduceLT, Nat.reduceBEq, reduceIte]
                          refine splitK_intro (fun hb39 => ?_) (fun hb39 => ?_)
                          · have h := ifT hb39 h
                            try simp only [go_sem, Nat.reduceEqDiff, Nat.reduceAdd, Nat.reduceSub, Nat.reduceMul, Nat.reduceLeDiff, Nat.reduceLT, Nat.reduceBEq, reduceIte, hb39]
                            refine JoinQ.mk true [0] (Option.some.inj h) (by simp only [go_sem, Nat.reduceEqDiff, Nat.reduceAdd, Nat.reduceSub, Nat.reduceMul, Nat.reduceLeDiff, Nat.reduceLT, Nat.reduceBEq, reduceIte, hb39])
                          · have h := ifF hb39 h
                            try simp only [go_sem, Nat.reduceEqDiff, Nat.reduceAdd, Nat.reduceSub, Nat.reduceMul, Nat.reduceLeDiff, Nat.reduceLT, Nat.reduceBEq, reduceIte, hb39]
                            refine JoinQ.mk (i7_2.op == (31 : Int)) [0] (Option.some.inj h) (by simp only [go_sem, Nat.reduceEqDiff, Nat.reduceAdd, Nat.reduceSub, Nat.reduceMul, Nat.reduceLeDiff, Nat.reduceLT, Nat.reduceBEq, reduceIte, hb39])
                        · rintro v37_0 rfl
                          have h := hJ38
                          try dsimp only [Out.fin] at h
                          simp only [go_sem, Nat.reduceEqDiff, Nat.reduceAdd, Nat.reduceSub, Nat.reduceMul, Nat.reduceLeDiff, Nat.reduceLT, Nat.reduceBEq, reduceIte]
                          refine AW.test (t := v37_0) (by simp only [go_sem, Nat.reduceEqDiff, Nat.reduceAdd, Nat.reduceSub, Nat.reduceMul, Nat.reduceLeDiff, Nat.reduceLT, Nat.reduceBEq, reduceIte]) (fun hb40 => ?_) (fun hb40 => ?_)
                          · have h := ifT hb40 h
                            refine AW.reg mixed (by kernel_rfl) ?_
                            try simp only [go_sem, Nat.reduceEqDiff, Nat.reduceAdd, Nat.reduceSub, Nat.reduceMul, Nat.reduceLeDiff, Nat.reduceLT, Nat.reduceBEq, reduceIte]
                            refine JoinQ.mk (IntKind.wrap .i64 (0 - i7_0)) [0] (Option.some.inj h) (by simp only [go_sem, Nat.reduceEqDiff, Nat.reduceAdd, Nat.reduceSub, Nat.reduceMul, Nat.reduceLeDiff, Nat.reduceLT, Nat.reduceBEq, reduceIte])
                          · have h := ifF hb40 h
                            refine AW.reg mixed (by kernel_rfl) ?_
                            try simp only [go_sem, Nat.reduceEqDiff, Nat.reduceAdd, Nat.reduceSub, Nat.reduceMul, Nat.reduceLeDiff, Nat.reduceLT, Nat.reduceBEq, reduceIte]
                            refine JoinQ.mk (0 : Int) [0] (Option.some.inj h) (by simp only [go_sem, Nat.reduceEqDiff, Nat.reduceAdd, Nat.reduceSub, Nat.reduceMul, Nat.reduceLeDiff, Nat.reduceLT, Nat.reduceBEq, reduceIte])
              · rintro v22_0 rfl
                have h := hJ23
                try dsimp only [Out.fin] at h
                simp only [go_sem, Nat.reduceEqDiff, Nat.reduceAdd, Nat.reduceSub, Nat.reduceMul, Nat.reduceLeDiff, Nat.reduceLT, Nat.reduceBEq, reduceIte]
                refine AW.reg mixed (by kernel_rfl) ?_
                obtain ⟨x41, hx42, h⟩ := obind h
                try simp only [go_sem, Nat.reduceEqDiff, Nat.reduceAdd, Nat.reduceSub, Nat.reduceMul, Nat.reduceLeDiff, Nat.reduceLT, Nat.reduceBEq, reduceIte, (idx_some hx42).1, (idx_some hx42).2]
                refine JoinQ.mk (v22_0, x41) [0] (Option.some.inj h).symm (by simp only [go_sem, Nat.reduceEqDiff, Nat.reduceAdd, Nat.reduceSub, Nat.reduceMul, Nat.reduceLeDiff, Nat.reduceLT, Nat.reduceBEq, reduceIte, (idx_some hx42).1, (idx_some hx42).2])
          · rintro ⟨v12_0, v12_1⟩ rfl
            have h := hJ13
            try dsimp only [Out.fin] at h
            simp only [go_sem, Nat.reduceEqDiff, Nat.reduceAdd, Nat.reduceSub, Nat.reduceMul, Nat.reduceLeDiff, Nat.reduceLT, Nat.reduceBEq, reduceIte]
            refine AW.reg mixed (by kernel_rfl) ?_
            try simp only [go_sem, Nat.reduceEqDiff, Nat.reduceAdd, Nat.reduceSub, Nat.reduceMul, Nat.reduceLeDiff, Nat.reduceLT, Nat.reduceBEq, reduceIte]
            refine NextQ.mk (v12_0, IntKind.wrap .i64 (i7_1 + (1 : Int)), v12_1) [0] h (by simp only [go_sem, Nat.reduceEqDiff, Nat.reduceAdd, Nat.reduceSub, Nat.reduceMul, Nat.reduceLeDiff, Nat.reduceLT, Nat.reduceBEq, reduceIte])
        · have h := ifF hb11 h
          refine AW.exit ?_
          try simp only [go_sem, Nat.reduceEqDiff, Nat.reduceAdd, Nat.reduceSub, Nat.reduceMul, Nat.reduceLeDiff, Nat.reduceLT, Nat.reduceBEq, reduceIte]
          refine JoinQ.mk (i7_0, i7_2) [0] (Option.some.inj h).symm (by simp only [go_sem, Nat.reduceEqDiff, Nat.reduceAdd, Nat.reduceSub, Nat.reduceMul, Nat.reduceLeDiff, Nat.reduceLT, Nat.reduceBEq, reduceIte])
      · rintro ⟨e8_0, e8_1⟩ rfl
        have h := hJ10
        try dsimp only [Out.fin] at h
        simp only [go_sem, Nat.reduceEqDiff, Nat.reduceAdd, Nat.reduceSub, Nat.reduceMul, Nat.reduceLeDiff, Nat.reduceLT, Nat.reduceBEq, reduceIte]
        refine AW.cut [0] [(2, .ptr 0 6 0 0), (7, .d (.val (.int .i64 e8_0)))] [some ⟨6, [[.d (.val (.int .i64 e8_1.op)), .d (.val (.string e8_1.name)), .d (.val (.bool e8_1.num.neg)), .d (slD u32V e8_1.num.num), .d (slD u32V e8_1.num.den), .d (slD NodeA.enc e8_1.kids)]]⟩] (by simp only [go_sem, Nat.reduceEqDiff, Nat.reduceAdd, Nat.reduceSub, Nat.reduceMul, Nat.reduceLeDiff, Nat.reduceLT, Nat.reduceBEq, reduceIte]) ?_
        refine AW.one ?_
        refine AW.one ?_
        refine AW.reg mixed (by kernel_rfl) ?_
        try simp only [go_sem, Nat.reduceEqDiff, Nat.reduceAdd, Nat.reduceSub, Nat.reduceMul, Nat.reduceLeDiff, Nat.reduceLT, Nat.reduceBEq, reduceIte]
        obtain ⟨r43, hx44, h⟩ := obind h
        have hc := r08_Sort_ok (h := hx44)
        try simp only [NodeA.enc_eta, RatA.enc_eta, aggV, i64V, u32V, strV, List.map_cons, List.map_nil] at hc
        refine callK_pure hc (by simp only [go_sem, Nat.reduceEqDiff, Nat.reduceAdd, Nat.reduceSub, Nat.reduceMul, Nat.reduceLeDiff, Nat.reduceLT, Nat.reduceBEq, reduceIte]) ?_
        try simp only [go_sem, Nat.reduceEqDiff, Nat.reduceAdd, Nat.reduceSub, Nat.reduceMul, Nat.reduceLeDiff, Nat.reduceLT, Nat.reduceBEq, reduceIte]
        refine AW.cut [] [(7, .d (.val (.int .i64 e8_0))), (98, .d (.val (.bool (r43 != (2 : Int)))))] [] (by simp only [go_sem, Nat.reduceEqDiff, Nat.reduceAdd, Nat.reduceSub, Nat.reduceMul, Nat.reduceLeDiff, Nat.reduceLT, Nat.reduceBEq, reduceIte]) ?_
        refine AW.test (t := (r43 != (2 : Int))) (by simp only [go_sem, Nat.reduceEqDiff, Nat.reduceAdd, Nat.reduceSub, Nat.reduceMul, Nat.reduceLeDiff, Nat.reduceLT, Nat.reduceBEq, reduceIte]) (fun hb45 => ?_) (fun hb45 => ?_)
        · have h := ifT hb45 h
          refine AW.one ?_
          refine AW.reg mixed (by kernel_rfl) ?_
          try simp only [go_sem, Nat.reduceEqDiff, Nat.reduceAdd, Nat.reduceSub, Nat.reduceMul, Nat.reduceLeDiff, Nat.reduceLT, Nat.reduceBEq, reduceIte]
          refine AW.ret ?_
          obtain rfl := Option.some.inj h
          simp only [go_sem, Nat.reduceEqDiff, Nat.reduceAdd, Nat.reduceSub, Nat.reduceMul, Nat.reduceLeDiff, Nat.reduceLT, Nat.reduceBEq, reduceIte]
          exact .same _
        · have h := ifF hb45 h
          refine AW.skip ?_
          try simp only [go_sem, Nat.reduceEqDiff, Nat.reduceAdd, Nat.reduceSub, Nat.reduceMul, Nat.reduceLeDiff, Nat.reduceLT, Nat.reduceBEq, reduceIte]
          refine AW.cut [] [(7, .d (.val (.int .i64 e8_0)))] [] (by simp only [go_sem, Nat.reduceEqDiff, Nat.reduceAdd, Nat.reduceSub, Nat.reduceMul, Nat.reduceLeDiff, Nat.reduceLT, Nat.reduceBEq, reduceIte]) ?_
          refine AW.one ?_
          refine AW.reg mixed (by kernel_rfl) ?_
          try simp only [go_sem, Nat.reduceEqDiff, Nat.reduceAdd, Nat.reduceSub, Nat.reduceMul, Nat.reduceLeDiff, Nat.reduceLT, Nat.reduceBEq, reduceIte]
          refine AW.ret ?_
          obtain rfl := Option.some.inj h
          simp only [go_sem, Nat.reduceEqDiff, Nat.reduceAdd, Nat.reduceSub, Nat.reduceMul, Nat.reduceLeDiff, Nat.reduceLT, Nat.reduceBEq, reduceIte]
          exact .same _

end Go.Proofs.Ytcgphoghmgeecaa
namespace Go.Proofs.Ytcgphoghmgeecaa
open Go Go.Iso Go.Proofs
set_option linter.unusedSimpArgs false
set_option linter.unusedVariables false
set_option maxRecDepth 100000

/-! ### isochrone/tree.Sort -/
def tree_Sort (K : Nat) (p0 : Int) : Option Int := ((
    if (decide ((1 : Int) ≤ p0)) then
      some (decide (p0 ≤ (13 : Int)))
    else
      some false) : Option Bool).bind (fun v1_0 => 
  if v1_0 then
    some (1 : Int)
  else
    ((
      if (decide ((20 : Int) ≤ p0)) then
        some (decide (p0 ≤ (39 : Int)))
      else
        some false) : Option Bool).bind (fun v5_0 => 
    if v5_0 then
      some (2 : Int)
    else
      ((
        if (p0 == (55 : Int)) then
          some true
        else
          some (p0 == (56 : Int))) : Option Bool).bind (fun v9_0 => 
      if v9_0 then
        some (4 : Int)
      else
        ((
          if (decide ((50 : Int) ≤ p0)) then
            some (decide (p0 ≤ (62 : Int)))
          else
            some false) : Option Bool).bind (fun v13_0 => 
        if v13_0 then
          some (3 : Int)
        else
          some (0 : Int)))))
set_option maxHeartbeats 4000000 in
theorem tree_Sort_ok {K : Nat} {p0 : Int} {r : Int} (h : tree_Sort K p0 = some r) : Cn Try.prog 44 [.d (.val (.int .i64 p0))] (.d (.val (.int .i64 r))) := by
  refine Cn.ofA mixed Try.func44 rfl Try.call44 Try.ntmps44 Try.results44 (by simp) (by simp only [go_sem, Nat.reduceEqDiff, Nat.reduceAdd, Nat.reduceSub, Nat.reduceMul, Nat.reduceLeDiff, Nat.reduceLT, Nat.reduceBEq, reduceIte]) fun hfit => ?_
  unfold tree_Sort at h
  refine AW.cut [] [(0, .d (.val (.int .i64 p0)))] [] (by simp only [go_sem, Nat.reduceEqDiff, Nat.reduceAdd, Nat.reduceSub, Nat.reduceMul, Nat.reduceLeDiff, Nat.reduceLT, Nat.reduceBEq, reduceIte]) ?_
  refine AW.one ?_
  refine AW.reg mixed (by kernel_rfl) ?_
  try simp only [go_sem, Nat.reduceEqDiff, Nat.reduceAdd, Nat.reduceSub, Nat.reduceMul, Nat.reduceLeDiff, Nat.reduceLT, Nat.reduceBEq, reduceIte]
  refine AW.cut [] [(0, .d (.val (.int .i64 p0)))] [] (by simp only [go_sem, Nat.reduceEqDiff, Nat.reduceAdd, Nat.reduceSub, Nat.reduceMul, Nat.reduceLeDiff, Nat.reduceLT, Nat.reduceBEq, reduceIte]) ?_
  refine AW.one ?_
  refine AW.block ?_
  refine AW.one ?_
  obtain ⟨oJ2, h, hJ2⟩ := obind h
  refine AW.join (S := Bool) (fun v1_0 => [(0, .d (.val (.int .i64 p0))), (3, .d (.val (.bool v1_0)))]) (fun v1_0 => []) (fun x => x = oJ2) ?_ ?_
  · skip
    refine AW.reg mixed (by kernel_rfl) ?_
    try simp only [go_sem, Nat.reduceEqDiff, Nat.reduceAdd, Nat.reduceSub, Nat.reduceMul, Nat.reduceLeDiff, Nat.reduceLT, Nat.reduceBEq, reduceIte]
    refine splitK_intro (fun hb3 => ?_) (fun hb3 => ?_)
    · have h := ifT hb3 h
      try simp only [go_sem, Nat.reduceEqDiff, Nat.reduceAdd, Nat.reduceSub, Nat.reduceMul, Nat.reduceLeDiff, Nat.reduceLT, Nat.reduceBEq, reduceIte, hb3]
      refine JoinQ.mk (decide (p0 ≤ (13 : Int))) [] (Option.some.inj h) (by simp only [go_sem, Nat.reduceEqDiff, Nat.reduceAdd, Nat.reduceSub, Nat.reduceMul, Nat.reduceLeDiff, Nat.reduceLT, Nat.reduceBEq, reduceIte, hb3])
    · have h := ifF hb3 h
      try simp only [go_sem, Nat.reduceEqDiff, Nat.reduceAdd, Nat.reduceSub, Nat.reduceMul, Nat.reduceLeDiff, Nat.reduceLT, Nat.reduceBEq, reduceIte, hb3]
      refine JoinQ.mk false [] (Option.some.inj h) (by simp only [go_sem, Nat.reduceEqDiff, Nat.reduceAdd, Nat.reduceSub, Nat.reduceMul, Nat.reduceLeDiff, Nat.reduceLT, Nat.reduceBEq, reduceIte, hb3])
  · rintro v1_0 rfl
    have h := hJ2
    try dsimp only [Out.fin] at h
    simp only [go_sem, Nat.reduceEqDiff, Nat.reduceAdd, Nat.reduceSub, Nat.reduceMul, Nat.reduceLeDiff, Nat.reduceLT, Nat.reduceBEq, reduceIte]
    refine AW.test (t := v1_0) (by simp only [go_sem, Nat.reduceEqDiff, Nat.reduceAdd, Nat.reduceSub, Nat.reduceMul, Nat.reduceLeDiff, Nat.reduceLT, Nat.reduceBEq, reduceIte]) (fun hb4 => ?_) (fun hb4 => ?_)
    · have h := ifT hb4 h
      refine AW.one ?_
      refine AW.reg mixed (by kernel_rfl) ?_
      try simp only [go_sem, Nat.reduceEqDiff, Nat.reduceAdd, Nat.reduceSub, Nat.reduceMul, Nat.reduceLeDiff, Nat.reduceLT, Nat.reduceBEq, reduceIte]
      refine AW.ret ?_
      obtain rfl := Option.some.inj h
      simp only [go_sem, Nat.reduceEqDiff, Nat.reduceAdd, Nat.reduceSub, Nat.reduceMul, Nat.reduceLeDiff, Nat.reduceLT, Nat.reduceBEq, reduceIte]
      exact .same _
    · have h := ifF hb4 h
      refine AW.one ?_
      obtain ⟨oJ6, h, hJ6⟩ := obind h
      refine AW.join (S := Bool) (fun v5_0 => [(0, .d (.val (.int .i64 p0))), (10, .d (.val (.bool v5_0)))]) (fun v5_0 => []) (fun x => x = oJ6) ?_ ?_
      · skip
        refine AW.reg mixed (by kernel_rfl) ?_
        try simp only [go_sem, Nat.reduceEqDiff, Nat.reduceAdd, Nat.reduceSub, Nat.reduceMul, Nat.reduceLeDiff, Nat.reduceLT, Nat.reduceBEq, reduceIte]
        refine splitK_intro (fun hb7 => ?_) (fun hb7 => ?_)
        · have h := ifT hb7 h
          try simp only [go_sem, Nat.reduceEqDiff, Nat.reduceAdd, Nat.reduceSub, Nat.reduceMul, Nat.reduceLeDiff, Nat.reduceLT, Nat.reduceBEq, reduceIte, hb7]
          refine JoinQ.mk (decide (p0 ≤ (39 : Int))) [] (Option.some.inj h) (by simp only [go_sem, Nat.reduceEqDiff, Nat.reduceAdd, Nat.reduceSub, Nat.reduceMul, Nat.reduceLeDiff, Nat.reduceLT, Nat.reduceBEq, reduceIte, hb7])
        · have h := ifF hb7 h
          try simp only [go_sem, Nat.reduceEqDiff, Nat.reduceAdd, Nat.reduceSub, Nat.reduceMul, Nat.reduceLeDiff, Nat.reduceLT, Nat.reduceBEq, reduceIte, hb7]
          refine JoinQ.mk false [] (Option.some.inj h) (by simp only [go_sem, Nat.reduceEqDiff, Nat.reduceAdd, Nat.reduceSub, Nat.reduceMul, Nat.reduceLeDiff, Nat.reduceLT, Nat.reduceBEq, reduceIte, hb7])
      · rintro v5_0 rfl
        have h := hJ6
        try dsimp only [Out.fin] at h
        simp only [go_sem, Nat.reduceEqDiff, Nat.reduceAdd, Nat.reduceSub, Nat.reduceMul, Nat.reduceLeDiff, Nat.reduceLT, Nat.reduceBEq, reduceIte]
        refine AW.test (t := v5_0) (by simp only [go_sem, Nat.reduceEqDiff, Nat.reduceAdd, Nat.reduceSub, Nat.reduceMul, Nat.reduceLeDiff, Nat.reduceLT, Nat.reduceBEq, reduceIte]) (fun hb8 => ?_) (fun hb8 => ?_)
        · have h := ifT hb8 h
          refine AW.one ?_
          refine AW.reg mixed (by kernel_rfl) ?_
          try simp only [go_sem, Nat.reduceEqDiff, Nat.reduceAdd, Nat.reduceSub, Nat.reduceMul, Nat.reduceLeDiff, Nat.reduceLT, Nat.reduceBEq, reduceIte]
          refine AW.ret ?_
          obtain rfl := Option.some.inj h
          simp only [go_sem, Nat.reduceEqDiff, Nat.reduceAdd, Nat.reduceSub, Nat.reduceMul, Nat.reduceLeDiff, Nat.reduceLT, Nat.reduceBEq, reduceIte]
          exact .same _
        · have h := ifF hb8 h
          refine AW.one ?_
          obtain ⟨oJ10, h, hJ10⟩ := obind h
          refine AW.join (S := Bool) (fun v9_0 => [(0, .d (.val (.int .i64 p0))), (17, .d (.val (.bool v9_0)))]) (fun v9_0 => []) (fun x => x = oJ10) ?_ ?_
          · skip
            refine AW.reg mixed (by kernel_rfl) ?_
            try simp only [go_sem, Nat.reduceEqDiff, Nat.reduceAdd, Nat.reduceSub, Nat.reduceMul, Nat.reduceLeDiff, Nat.reduceLT, Nat.reduceBEq, reduceIte]
            refine splitK_intro (fun hb11 => ?_) (fun hb11 => ?_)
            · have h := ifT hb11 h
              try simp only [go_sem, Nat.reduceEqDiff, Nat.reduceAdd, Nat.reduceSub, Nat.reduceMul, Nat.reduceLeDiff, Nat.reduceLT, Nat.reduceBEq, reduceIte, hb11]
              refine JoinQ.mk true [] (Option.some.inj h) (by simp only [go_sem, Nat.reduceEqDiff, Nat.reduceAdd, Nat.reduceSub, Nat.reduceMul, Nat.reduceLeDiff, Nat.reduceLT, Nat.reduceBEq, reduceIte, hb11])
            · have h := ifF hb11 h
              try simp only [go_sem, Nat.reduceEqDiff, Nat.reduceAdd, Nat.reduceSub, Nat.reduceMul, Nat.reduceLeDiff, Nat.reduceLT, Nat.reduceBEq, reduceIte, hb11]
              refine JoinQ.mk (p0 == (56 : Int)) [] (Option.some.inj h) (by simp only [go_sem, Nat.reduceEqDiff, Nat.reduceAdd, Nat.reduceSub, Nat.reduceMul, Nat.reduceLeDiff, Nat.reduceLT, Nat.reduceBEq, reduceIte, hb11])
          · rintro v9_0 rfl
            have h := hJ10
            try dsimp only [Out.fin] at h
            simp only [go_sem, Nat.reduceEqDiff, Nat.reduceAdd, Nat.reduceSub, Nat.reduceMul, Nat.reduceLeDiff, Nat.reduceLT, Nat.reduceBEq, reduceIte]
            refine AW.test (t := v9_0) (by simp only [go_sem, Nat.reduceEqDiff, Nat.reduceAdd, Nat.reduceSub, Nat.reduceMul, Nat.reduceLeDiff, Nat.reduceLT, Nat.reduceBEq, reduceIte]) (fun hb12 => ?_) (fun hb12 => ?_)
            · have h := ifT hb12 h
              refine AW.one ?_
              refine AW.reg mixed (by kernel_rfl) ?_
              try simp only [go_sem, Nat.reduceEqDiff, Nat.reduceAdd, Nat.reduceSub, Nat.reduceMul, Nat.reduceLeDiff, Nat.reduceLT, Nat.reduceBEq, reduceIte]
              refine AW.ret ?_
              obtain rfl := Option.some.inj h
              simp only [go_sem, Nat.reduceEqDiff, Nat.reduceAdd, Nat.reduceSub, Nat.reduceMul, Nat.reduceLeDiff, Nat.reduceLT, Nat.reduceBEq, reduceIte]
              exact .same _
            · have h := ifF hb12 h
              refine AW.one ?_
              obtain ⟨oJ14, h, hJ14⟩ := obind h
              refine AW.join (S := Bool) (fun v13_0 => [(24, .d (.val (.bool v13_0)))]) (fun v13_0 => []) (fun x => x = oJ14) ?_ ?_
              · skip
                refine AW.reg mixed (by kernel_rfl) ?_
                try simp only [go_sem, Nat.reduceEqDiff, Nat.reduceAdd, Nat.reduceSub, Nat.reduceMul, Nat.reduceLeDiff, Nat.reduceLT, Nat.reduceBEq, reduceIte]
                refine splitK_intro (fun hb15 => ?_) (fun hb15 => ?_)
                · have h := ifT hb15 h
                  try simp only [go_sem, Nat.reduceEqDiff, Nat.reduceAdd, Nat.reduceSub, Nat.reduceMul, Nat.reduceLeDiff, Nat.reduceLT, Nat.reduceBEq, reduceIte, hb15]
                  refine JoinQ.mk (decide (p0 ≤ (62 : Int))) [] (Option.some.inj h) (by simp only [go_sem, Nat.reduceEqDiff, Nat.reduceAdd, Nat.reduceSub, Nat.reduceMul, Nat.reduceLeDiff, Nat.reduceLT, Nat.reduceBEq, reduceIte, hb15])
                · have h := ifF hb15 h
                  try simp only [go_sem, Nat.reduceEqDiff, Nat.reduceAdd, Nat.reduceSub, Nat.reduceMul, Nat.reduceLeDiff, Nat.reduceLT, Nat.reduceBEq, reduceIte, hb15]
                  refine JoinQ.mk false [] (Option.some.inj h) (by simp only [go_sem, Nat.reduceEqDiff, Nat.reduceAdd, Nat.reduceSub, Nat.reduceMul, Nat.reduceLeDiff, Nat.reduceLT, Nat.reduceBEq, reduceIte, hb15])
              · rintro v13_0 rfl
                have h := hJ14
                try dsimp only [Out.fin] at h
                simp only [go_sem, Nat.reduceEqDiff, Nat.reduceAdd, Nat.reduceSub, Nat.reduceMul, Nat.reduceLeDiff, Nat.reduceLT, Nat.reduceBEq, reduceIte]
                refine AW.test (t := v13_0) (by simp only [go_sem, Nat.reduceEqDiff, Nat.reduceAdd, Nat.reduceSub, Nat.reduceMul, Nat.reduceLeDiff, Nat.reduceLT, Nat.reduceBEq, reduceIte]) (fun hb16 => ?_) (fun hb16 => ?_)
                · have h := ifT hb16 h
                  refine AW.one ?_
                  refine AW.reg mixed (by kernel_rfl) ?_
                  try simp only [go_sem, Nat.reduceEqDiff, Nat.reduceAdd, Nat.reduceSub, Nat.reduceMul, Nat.reduceLeDiff, Nat.reduceLT, Nat.reduceBEq, reduceIte]
                  refine AW.ret ?_
                  obtain rfl := Option.some.inj h
                  simp only [go_sem, Nat.reduceEqDiff, Nat.reduceAdd, Nat.reduceSub, Nat.reduceMul, Nat.reduceLeDiff, Nat.reduceLT, Nat.reduceBEq, reduceIte]
                  exact .same _
                · have h := ifF hb16 h
                  refine AW.skip ?_
                  try simp only [go_sem, Nat.reduceEqDiff, Nat.reduceAdd, Nat.reduceSub, Nat.reduceMul, Nat.reduceLeDiff, Nat.reduceLT, Nat.reduceBEq, reduceIte]
                  refine AW.cut [] [] [] (by simp only [go_sem, Nat.reduceEqDiff, Nat.reduceAdd, Nat.reduceSub, Nat.reduceMul, Nat.reduceLeDiff, Nat.reduceLT, Nat.reduceBEq, reduceIte]) ?_
                  refine AW.one ?_
                  refine AW.reg mixed (by kernel_rfl) ?_
                  try simp only [go_sem, Nat.reduceEqDiff, Nat.reduceAdd, Nat.reduceSub, Nat.reduceMul, Nat.reduceLeDiff, Nat.reduceLT, Nat.reduceBEq, reduceIte]
                  refine AW.ret ?_
                  obtain rfl := Option.some.inj h
                  simp only [go_sem, Nat.reduceEqDiff, Nat.reduceAdd, Nat.reduceSub, Nat.reduceMul, Nat.reduceLeDiff, Nat.reduceLT, Nat.reduceBEq, reduceIte]
                  exact .same _

end Go.Proofs.Ytcgphoghmgeecaa
namespace Go.Proofs.Ytcgphoghmgeecaa
open Go Go.Iso Go.Proofs
set_option linter.unusedSimpArgs false
set_option linter.unusedVariables false
set_option maxRecDepth 100000

/-! ### isochrone/tree.letter -/
def tree_letter (K : Nat) (p0 : Int) : Option Bool := if (decide ((97 : Int) ≤ p0)) then
    if (decide (p0 ≤ (122 : Int))) then
      some true
    else
      if (decide ((65 : Int) ≤ p0)) then
        some (decide (p0 ≤ (90 : Int)))
      else
        some false
  else
    if (decide ((65 : Int) ≤ p0)) then
      some (decide (p0 ≤ (90 : Int)))
    else
      some false
set_option maxHeartbeats 4000000 in
theorem tree_letter_ok {K : Nat} {p0 : Int} {r : Bool} (h : tree_letter K p0 = some r) : Cn Try.prog 69 [.d (.val (.int .u8 p0))] (.d (.val (.bool r))) := by
  refine Cn.ofA mixed Try.func69 rfl Try.call69 Try.ntmps69 Try.results69 (by simp) (by simp only [go_sem, Nat.reduceEqDiff, Nat.reduceAdd, Nat.reduceSub, Nat.reduceMul, Nat.reduceLeDiff, Nat.reduceLT, Nat.reduceBEq, reduceIte]) fun hfit => ?_
  unfold tree_letter at h
  refine AW.cut [] [(0, .d (.val (.int .u8 p0)))] [] (by simp only [go_sem, Nat.reduceEqDiff, Nat.reduceAdd, Nat.reduceSub, Nat.reduceMul, Nat.reduceLeDiff, Nat.reduceLT, Nat.reduceBEq, reduceIte]) ?_
  refine AW.one ?_
  refine AW.reg mixed (by kernel_rfl) ?_
  try simp only [go_sem, Nat.reduceEqDiff, Nat.reduceAdd, Nat.reduceSub, Nat.reduceMul, Nat.reduceLeDiff, Nat.reduceLT, Nat.reduceBEq, reduceIte]
  refine AW.cut [] [(0, .d (.val (.int .u8 p0)))] [] (by simp only [go_sem, Nat.reduceEqDiff, Nat.reduceAdd, Nat.reduceSub, Nat.reduceMul, Nat.reduceLeDiff, Nat.reduceLT, Nat.reduceBEq, reduceIte]) ?_
  refine AW.one ?_
  refine AW.reg mixed (by kernel_rfl) ?_
  try simp only [go_sem, Nat.reduceEqDiff, Nat.reduceAdd, Nat.reduceSub, Nat.reduceMul, Nat.reduceLeDiff, Nat.reduceLT, Nat.reduceBEq, reduceIte]
  refine splitK_intro (fun hb1 => ?_) (fun hb1 => ?_)
  · have h := ifT hb1 h
    try simp only [go_sem, Nat.reduceEqDiff, Nat.reduceAdd, Nat.reduceSub, Nat.reduceMul, Nat.reduceLeDiff, Nat.reduceLT, Nat.reduceBEq, reduceIte, hb1]
    refine splitK_intro (fun hb2 => ?_) (fun hb2 => ?_)
    · have h := ifT hb2 h
      try simp only [go_sem, Nat.reduceEqDiff, Nat.reduceAdd, Nat.reduceSub, Nat.reduceMul, Nat.reduceLeDiff, Nat.reduceLT, Nat.reduceBEq, reduceIte, hb1, hb2]
      refine AW.ret ?_
      obtain rfl := Option.some.inj h
      simp only [go_sem, Nat.reduceEqDiff, Nat.reduceAdd, Nat.reduceSub, Nat.reduceMul, Nat.reduceLeDiff, Nat.reduceLT, Nat.reduceBEq, reduceIte]
      exact .same _
    · have h := ifF hb2 h
      try simp only [go_sem, Nat.reduceEqDiff, Nat.reduceAdd, Nat.reduceSub, Nat.reduceMul, Nat.reduceLeDiff, Nat.reduceLT, Nat.reduceBEq, reduceIte, hb1, hb2]
      refine splitK_intro (fun hb3 => ?_) (fun hb3 => ?_)
      · have h := ifT hb3 h
        try simp only [go_sem, Nat.reduceEqDiff, Nat.reduceAdd, Nat.reduceSub, Nat.reduceMul, Nat.reduceLeDiff, Nat.reduceLT, Nat.reduceBEq, reduceIte, hb1, hb2, hb3]
        refine AW.ret ?_
        obtain rfl := Option.some.inj h
        simp only [go_sem, Nat.reduceEqDiff, Nat.reduceAdd, Nat.reduceSub, Nat.reduceMul, Nat.reduceLeDiff, Nat.reduceLT, Nat.reduceBEq, reduceIte]
        exact .same _
      · have h := ifF hb3 h
        try simp only [go_sem, Nat.reduceEqDiff, Nat.reduceAdd, Nat.reduceSub, Nat.reduceMul, Nat.reduceLeDiff, Nat.reduceLT, Nat.reduceBEq, reduceIte, hb1, hb2, hb3]
        refine AW.ret ?_
        obtain rfl := Option.some.inj h
        simp only [go_sem, Nat.reduceEqDiff, Nat.reduceAdd, Nat.reduceSub, Nat.reduceMul, Nat.reduceLeDiff, Nat.reduceLT, Nat.reduceBEq, reduceIte]
        exact .same _
  · have h := ifF hb1 h
    try simp only [go_sem, Nat.reduceEqDiff, Nat.reduceAdd, Nat.reduceSub, Nat.reduceMul, Nat.reduceLeDiff, Nat.reduceLT, Nat.reduceBEq, reduceIte, hb1]
    refine splitK_intro (fun hb4 => ?_) (fun hb4 => ?_)
    · have h := ifT hb4 h
      try simp only [go_sem, Nat.reduceEqDiff, Nat.reduceAdd, Nat.reduceSub, Nat.reduceMul, Nat.reduceLeDiff, Nat.reduceLT, Nat.reduceBEq, reduceIte, hb1, hb4]
      refine AW.ret ?_
      obtain rfl := Option.some.inj h
      simp only [go_sem, Nat.reduceEqDiff, Nat.reduceAdd, Nat.reduceSub, Nat.reduceMul, Nat.reduceLeDiff, Nat.reduceLT, Nat.reduceBEq, reduceIte]
      exact .same _
    · have h := ifF hb4 h
      try simp only [go_sem, Nat.reduceEqDiff, Nat.reduceAdd, Nat.reduceSub, Nat.reduceMul, Nat.reduceLeDiff, Nat.reduceLT, Nat.reduceBEq, reduceIte, hb1, hb4]
      refine AW.ret ?_
      obtain rfl := Option.some.inj h
      simp only [go_sem, Nat.reduceEqDiff, Nat.reduceAdd, Nat.reduceSub, Nat.reduceMul, Nat.reduceLeDiff, Nat.reduceLT, Nat.reduceBEq, reduceIte]
      exact .same _

end Go.Proofs.Ytcgphoghmgeecaa
namespace Go.Proofs.Ytcgphoghmgeecaa
open Go Go.Iso Go.Proofs
set_option linter.unusedSimpArgs false
set_option linter.unusedVariables false
set_option maxRecDepth 100000

/-! ### isochrone/tree.Name -/
def tree_Name (K : Nat) (p0 : ByteArray) : Option Bool := ((
    ((
      if ((p0.size : Int) == (0 : Int)) then
        some true
      else
        if (decide ((12 : Int) < (p0.size : Int))) then
          some true
        else
          (strAt p0 (0 : Int)).bind fun c7 => 
          (tree_letter K (c7.toNat : Int)).bind fun r9 => 
          some (!r9)) : Option Bool).bind (fun v3_0 => 
    if v3_0 then
      outM (
        some false)
    else
      some (.go ()))) : Option (Out Unit _)).bind (Out.fin fun _ => 
  ((iter (S := Int) (R := Out Unit _) K (fun again i12_0 => 
    if (decide (i12_0 < (p0.size : Int))) then
      ((
        ((
          (strAt p0 i12_0).bind fun c21 => 
          (tree_letter K (c21.toNat : Int)).bind fun r23 => 
          if (!r23) then
            if (decide ((c21.toNat : Int) < (48 : Int))) then
              some true
            else
              some (decide ((57 : Int) < (c21.toNat : Int)))
          else
            some false) : Option Bool).bind (fun v19_0 => 
        if v19_0 then
          outM (
            outM (
              some false))
        else
          some (.go ()))) : Option (Out Unit _)).bind (Out.fin fun _ => 
      again (IntKind.wrap .i64 (i12_0 + (1 : Int))))
    else
      some (.go ())) (0 : Int)) : Option (Out Unit _)).bind (Out.fin fun _ => 
  ((
    if (p0.toList == (⟨#[116, 114, 117, 101]⟩ : ByteArray).toList) then
      some (p0.toList == (⟨#[116, 114, 117, 101]⟩ : ByteArray).toList)
    else
      if (p0.toList == (⟨#[102, 97, 108, 115, 101]⟩ : ByteArray).toList) then
        some (p0.toList == (⟨#[102, 97, 108, 115, 101]⟩ : ByteArray).toList)
      else
        if (p0.toList == (⟨#[102, 111, 114, 97, 108, 108]⟩ : ByteArray).toList) then
          some (p0.toList == (⟨#[102, 111, 114, 97, 108, 108]⟩ : ByteArray).toList)
        else
          some (p0.toList == (⟨#[101, 120, 105, 115, 116, 115]⟩ : ByteArray).toList)) : Option Bool).bind (fun v28_0 => 
  if v28_0 then
    some false
  else
    some true)))
set_option maxHeartbeats 4000000 in
theorem tree_Name_ok {K : Nat} {p0 : ByteArray} {r : Bool} (h : tree_Name K p0 = some r) : Cn Try.prog 49 [.d (.val (.string p0))] (.d (.val (.bool r))) := by
  refine Cn.ofA mixed Try.func49 rfl Try.call49 Try.ntmps49 Try.results49 (by simp) (by simp only [go_sem, Nat.reduceEqDiff, Nat.reduceAdd, Nat.reduceSub, Nat.reduceMul, Nat.reduceLeDiff, Nat.reduceLT, Nat.reduceBEq, reduceIte]) fun hfit => ?_
  unfold tree_Name at h
  refine AW.cut [] [(0, .d (.val (.string p0)))] [] (by simp only [go_sem, Nat.reduceEqDiff, Nat.reduceAdd, Nat.reduceSub, Nat.reduceMul, Nat.reduceLeDiff, Nat.reduceLT, Nat.reduceBEq, reduceIte]) ?_
  refine AW.one ?_
  refine AW.reg mixed (by kernel_rfl) ?_
  try simp only [go_sem, Nat.reduceEqDiff, Nat.reduceAdd, Nat.reduceSub, Nat.reduceMul, Nat.reduceLeDiff, Nat.reduceLT, Nat.reduceBEq, reduceIte]
  refine AW.cut [] [(0, .d (.val (.string p0)))] [] (by simp only [go_sem, Nat.reduceEqDiff, Nat.reduceAdd, Nat.reduceSub, Nat.reduceMul, Nat.reduceLeDiff, Nat.reduceLT, Nat.reduceBEq, reduceIte]) ?_
  refine AW.one ?_
  obtain ⟨oJ2, h, hJ2⟩ := obind h
  refine AW.join (S := Unit) (fun _ => [(0, .d (.val (.string p0)))]) (fun _ => []) (fun x => oJ2 = .go x) ?_ ?_
  · skip
    refine AW.one ?_
    obtain ⟨oJ4, h, hJ4⟩ := obind h
    refine AW.join (S := Bool) (fun v3_0 => [(0, .d (.val (.string p0))), (17, .d (.val (.bool v3_0)))]) (fun v3_0 => []) (fun x => x = oJ4) ?_ ?_
    · skip
      refine AW.reg mixed (by kernel_rfl) ?_
      try simp only [go_sem, Nat.reduceEqDiff, Nat.reduceAdd, Nat.reduceSub, Nat.reduceMul, Nat.reduceLeDiff, Nat.reduceLT, Nat.reduceBEq, reduceIte]
      refine splitK_intro (fun hb5 => ?_) (fun hb5 => ?_)
      · have h := ifT hb5 h
        try simp only [go_sem, Nat.reduceEqDiff, Nat.reduceAdd, Nat.reduceSub, Nat.reduceMul, Nat.reduceLeDiff, Nat.reduceLT, Nat.reduceBEq, reduceIte, hb5]
        refine JoinQ.mk true [] (Option.some.inj h) (by simp only [go_sem, Nat.reduceEqDiff, Nat.reduceAdd, Nat.reduceSub, Nat.reduceMul, Nat.reduceLeDiff, Nat.reduceLT, Nat.reduceBEq, reduceIte, hb5])
      · have h := ifF hb5 h
        try simp only [go_sem, Nat.reduceEqDiff, Nat.reduceAdd, Nat.reduceSub, Nat.reduceMul, Nat.reduceLeDiff, Nat.reduceLT, Nat.reduceBEq, reduceIte, hb5]
        refine splitK_intro (fun hb6 => ?_) (fun hb6 => ?_)
        · have h := ifT hb6 h
          try simp only [go_sem, Nat.reduceEqDiff, Nat.reduceAdd, Nat.reduceSub, Nat.reduceMul, Nat.reduceLeDiff, Nat.reduceLT, Nat.reduceBEq, reduceIte, hb5, hb6]
          refine JoinQ.mk true [] (Option.some.inj h) (by simp only [go_sem, Nat.reduceEqDiff, Nat.reduceAdd, Nat.reduceSub, Nat.reduceMul, Nat.reduceLeDiff, Nat.reduceLT, Nat.reduceBEq, reduceIte, hb5, hb6])
        · have h := ifF hb6 h
          obtain ⟨c7, hx8, h⟩ := obind h
          try simp only [go_sem, Nat.reduceEqDiff, Nat.reduceAdd, Nat.reduceSub, Nat.reduceMul, Nat.reduceLeDiff, Nat.reduceLT, Nat.reduceBEq, reduceIte, hb5, hb6, hx8]
          obtain ⟨r9, hx10, h⟩ := obind h
          have hc := tree_letter_ok (h := hx10)
          try simp only [NodeA.enc_eta, RatA.enc_eta, aggV, i64V, u32V, strV, List.map_cons, List.map_nil] at hc
          refine callK_pure hc (by simp only [go_sem, Nat.reduceEqDiff, Nat.reduceAdd, Nat.reduceSub, Nat.reduceMul, Nat.reduceLeDiff, Nat.reduceLT, Nat.reduceBEq, reduceIte]) ?_
          try simp only [go_sem, Nat.reduceEqDiff, Nat.reduceAdd, Nat.reduceSub, Nat.reduceMul, Nat.reduceLeDiff, Nat.reduceLT, Nat.reduceBEq, reduceIte, hb5, hb6, hx8]
          refine JoinQ.mk (!r9) [] (Option.some.inj h) (by simp only [go_sem, Nat.reduceEqDiff, Nat.reduceAdd, Nat.reduceSub, Nat.reduceMul, Nat.reduceLeDiff, Nat.reduceLT, Nat.reduceBEq, reduceIte, hb5, hb6, hx8])
    · rintro v3_0 rfl
      have h := hJ4
      try dsimp only [Out.fin] at h
      simp only [go_sem, Nat.reduceEqDiff, Nat.reduceAdd, Nat.reduceSub, Nat.reduceMul, Nat.reduceLeDiff, Nat.reduceLT, Nat.reduceBEq, reduceIte]
      refine AW.test (t := v3_0) (by simp only [go_sem, Nat.reduceEqDiff, Nat.reduceAdd, Nat.reduceSub, Nat.reduceMul, Nat.reduceLeDiff, Nat.reduceLT, Nat.reduceBEq, reduceIte]) (fun hb11 => ?_) (fun hb11 => ?_)
      · have h := ifT hb11 h
        refine AW.one ?_
        refine AW.reg mixed (by kernel_rfl) ?_
        try simp only [go_sem, Nat.reduceEqDiff, Nat.reduceAdd, Nat.reduceSub, Nat.reduceMul, Nat.reduceLeDiff, Nat.reduceLT, Nat.reduceBEq, reduceIte]
        refine AW.ret ?_
        obtain ⟨_, h, ho⟩ := outM_some h
        rw [ho, Out.fin_out] at hJ2
        have h := h.trans hJ2
        obtain rfl := Option.some.inj h
        simp only [go_sem, Nat.reduceEqDiff, Nat.reduceAdd, Nat.reduceSub, Nat.reduceMul, Nat.reduceLeDiff, Nat.reduceLT, Nat.reduceBEq, reduceIte]
        exact .same _
      · have h := ifF hb11 h
        refine AW.skip ?_
        try simp only [go_sem, Nat.reduceEqDiff, Nat.reduceAdd, Nat.reduceSub, Nat.reduceMul, Nat.reduceLeDiff, Nat.reduceLT, Nat.reduceBEq, reduceIte]
        refine JoinQ.mk () [] (Option.some.inj h).symm (by simp only [go_sem, Nat.reduceEqDiff, Nat.reduceAdd, Nat.reduceSub, Nat.reduceMul, Nat.reduceLeDiff, Nat.reduceLT, Nat.reduceBEq, reduceIte])
  · rintro ⟨⟩ rfl
    have h := hJ2
    try dsimp only [Out.fin] at h
    simp only [go_sem, Nat.reduceEqDiff, Nat.reduceAdd, Nat.reduceSub, Nat.reduceMul, Nat.reduceLeDiff, Nat.reduceLT, Nat.reduceBEq, reduceIte]
    refine AW.one ?_
    refine AW.one ?_
    refine AW.reg mixed (by kernel_rfl) ?_
    try simp only [go_sem, Nat.reduceEqDiff, Nat.reduceAdd, Nat.reduceSub, Nat.reduceMul, Nat.reduceLeDiff, Nat.reduceLT, Nat.reduceBEq, reduceIte]
    refine AW.cut [] [(0, .d (.val (.string p0))), (3, .d (.val (.int .i64 (0 : Int))))] [] (by simp only [go_sem, Nat.reduceEqDiff, Nat.reduceAdd, Nat.reduceSub, Nat.reduceMul, Nat.reduceLeDiff, Nat.reduceLT, Nat.reduceBEq, reduceIte]) ?_
    obtain ⟨oJ15, h, hJ15⟩ := obind h
    refine AW.join (S := Unit) (fun _ => [(0, .d (.val (.string p0)))]) (fun _ => []) (fun x => oJ15 = .go x) ?_ ?_
    · refine AW.block ?_
      refine AW.iter (S := Int) (fun i12_0 => [(0, .d (.val (.string p0))), (3, .d (.val (.int .i64 i12_0)))]) (fun i12_0 => []) [] h (by simp only [go_sem, Nat.reduceEqDiff, Nat.reduceAdd, Nat.reduceSub, Nat.reduceMul, Nat.reduceLeDiff, Nat.reduceLT, Nat.reduceBEq, reduceIte]) ?_
      rintro again i12_0 h
      try dsimp only at h
      refine AW.one ?_
      refine AW.one ?_
      refine AW.reg mixed (by kernel_rfl) ?_
      try simp only [go_sem, Nat.reduceEqDiff, Nat.reduceAdd, Nat.reduceSub, Nat.reduceMul, Nat.reduceLeDiff, Nat.reduceLT, Nat.reduceBEq, reduceIte]
      refine AW.cut [] [(0, .d (.val (.string p0))), (3, .d (.val (.int .i64 i12_0))), (21, .d (.val (.bool (decide (i12_0 < (p0.size : Int))))))] [] (by simp only [go_sem, Nat.reduceEqDiff, Nat.reduceAdd, Nat.reduceSub, Nat.reduceMul, Nat.reduceLeDiff, Nat.reduceLT, Nat.reduceBEq, reduceIte]) ?_
      refine AW.test (t := (decide (i12_0 < (p0.size : Int)))) (by simp only [go_sem, Nat.reduceEqDiff, Nat.reduceAdd, Nat.reduceSub, Nat.reduceMul, Nat.reduceLeDiff, Nat.reduceLT, Nat.reduceBEq, reduceIte]) (fun hb16 => ?_) (fun hb16 => ?_)
      · have h := ifT hb16 h
        refine AW.skip ?_
        try simp only [go_sem, Nat.reduceEqDiff, Nat.reduceAdd, Nat.reduceSub, Nat.reduceMul, Nat.reduceLeDiff, Nat.reduceLT, Nat.reduceBEq, reduceIte]
        refine AW.cut [] [(0, .d (.val (.string p0))), (3, .d (.val (.int .i64 i12_0)))] [] (by simp only [go_sem, Nat.reduceEqDiff, Nat.reduceAdd, Nat.reduceSub, Nat.reduceMul, Nat.reduceLeDiff, Nat.reduceLT, Nat.reduceBEq, reduceIte]) ?_
        refine AW.one ?_
        obtain ⟨oJ18, h, hJ18⟩ := obind h
        refine AW.join (S := Unit) (fun _ => [(0, .d (.val (.string p0))), (3, .d (.val (.int .i64 i12_0)))]) (fun _ => []) (fun x => oJ18 = .go x) ?_ ?_
        · skip
          refine AW.block ?_
          refine AW.one ?_
          obtain ⟨oJ20, h, hJ20⟩ := obind h
          refine AW.join (S := Bool) (fun v19_0 => [(0, .d (.val (.string p0))), (3, .d (.val (.int .i64 i12_0))), (40, .d (.val (.bool v19_0)))]) (fun v19_0 => []) (fun x => x = oJ20) ?_ ?_
          · skip
            refine AW.reg mixed (by kernel_rfl) ?_
            obtain ⟨c21, hx22, h⟩ := obind h
            try simp only [go_sem, Nat.reduceEqDiff, Nat.reduceAdd, Nat.reduceSub, Nat.reduceMul, Nat.reduceLeDiff, Nat.reduceLT, Nat.reduceBEq, reduceIte, hx22]
            obtain ⟨r23, hx24, h⟩ := obind h
            have hc := tree_letter_ok (h := hx24)
            try simp only [NodeA.enc_eta, RatA.enc_eta, aggV, i64V, u32V, strV, List.map_cons, List.map_nil] at hc
            refine callK_pure hc (by simp only [go_sem, Nat.reduceEqDiff, Nat.reduceAdd, Nat.reduceSub, Nat.reduceMul, Nat.reduceLeDiff, Nat.reduceLT, Nat.reduceBEq, reduceIte]) ?_
            try simp only [go_sem, Nat.reduceEqDiff, Nat.reduceAdd, Nat.reduceSub, Nat.reduceMul, Nat.reduceLeDiff, Nat.reduceLT, Nat.reduceBEq, reduceIte, hx22]
            refine splitK_intro (fun hb25 => ?_) (fun hb25 => ?_)
            · have h := ifT hb25 h
              try simp only [go_sem, Nat.reduceEqDiff, Nat.reduceAdd, Nat.reduceSub, Nat.reduceMul, Nat.reduceLeDiff, Nat.reduceLT, Nat.reduceBEq, reduceIte, hx22, hb25]
              refine splitK_intro (fun hb26 => ?_) (fun hb26 => ?_)
              · have h := ifT hb26 h
                try simp only [go_sem, Nat.reduceEqDiff, Nat.reduceAdd, Nat.reduceSub, Nat.reduceMul, Nat.reduceLeDiff, Nat.reduceLT, Nat.reduceBEq, reduceIte, hx22, hb25, hb26]
                refine JoinQ.mk true [] (Option.some.inj h) (by simp only [go_sem, Nat.reduceEqDiff, Nat.reduceAdd, Nat.reduceSub, Nat.reduceMul, Nat.reduceLeDiff, Nat.reduceLT, Nat.reduceBEq, reduceIte, hx22, hb25, hb26])
              · have h := ifF hb26 h
                try simp only [go_sem, Nat.reduceEqDiff, Nat.reduceAdd, Nat.reduceSub, Nat.reduceMul, Nat.reduceLeDiff, Nat.reduceLT, Nat.reduceBEq, reduceIte, hx22, hb25, hb26]
                refine JoinQ.mk (decide ((57 : Int) < (c21.toNat : Int))) [] (Option.some.inj h) (by simp only [go_sem, Nat.reduceEqDiff, Nat.reduceAdd, Nat.reduceSub, Nat.reduceMul, Nat.reduceLeDiff, Nat.reduceLT, Nat.reduceBEq, reduceIte, hx22, hb25, hb26])
            · have h := ifF hb25 h
              try simp only [go_sem, Nat.reduceEqDiff, Nat.reduceAdd, Nat.reduceSub, Nat.reduceMul, Nat.reduceLeDiff, Nat.reduceLT, Nat.reduceBEq, reduceIte, hx22, hb25]
              refine JoinQ.mk false [] (Option.some.inj h) (by simp only [go_sem, Nat.reduceEqDiff, Nat.reduceAdd, Nat.reduceSub, Nat.reduceMul, Nat.reduceLeDiff, Nat.reduceLT, Nat.reduceBEq, reduceIte, hx22, hb25])
          · rintro v19_0 rfl
            have h := hJ20
            try dsimp only [Out.fin] at h
            simp only [go_sem, Nat.reduceEqDiff, Nat.reduceAdd, Nat.reduceSub, Nat.reduceMul, Nat.reduceLeDiff, Nat.reduceLT, Nat.reduceBEq, reduceIte]
            refine AW.test (t := v19_0) (by simp only [go_sem, Nat.reduceEqDiff, Nat.reduceAdd, Nat.reduceSub, Nat.reduceMul, Nat.reduceLeDiff, Nat.reduceLT, Nat.reduceBEq, reduceIte]) (fun hb27 => ?_) (fun hb27 => ?_)
            · have h := ifT hb27 h
              refine AW.one ?_
              refine AW.reg mixed (by kernel_rfl) ?_
              try simp only [go_sem, Nat.reduceEqDiff, Nat.reduceAdd, Nat.reduceSub, Nat.reduceMul, Nat.reduceLeDiff, Nat.reduceLT, Nat.reduceBEq, reduceIte]
              refine AW.ret ?_
              obtain ⟨_, h, ho⟩ := outM_some h
              rw [ho, Out.fin_out] at hJ18
              have h := h.trans hJ18
              obtain ⟨_, h, ho⟩ := outM_some h
              rw [ho, Out.fin_out] at hJ15
              have h := h.trans hJ15
              obtain rfl := Option.some.inj h
              simp only [go_sem, Nat.reduceEqDiff, Nat.reduceAdd, Nat.reduceSub, Nat.reduceMul, Nat.reduceLeDiff, Nat.reduceLT, Nat.reduceBEq, reduceIte]
              exact .same _
            · have h := ifF hb27 h
              refine AW.skip ?_
              try simp only [go_sem, Nat.reduceEqDiff, Nat.reduceAdd, Nat.reduceSub, Nat.reduceMul, Nat.reduceLeDiff, Nat.reduceLT, Nat.reduceBEq, reduceIte]
              refine JoinQ.mk () [] (Option.some.inj h).symm (by simp only [go_sem, Nat.reduceEqDiff, Nat.reduceAdd, Nat.reduceSub, Nat.reduceMul, Nat.reduceLeDiff, Nat.reduceLT, Nat.reduceBEq, reduceIte])
        · rintro ⟨⟩ rfl
          have h := hJ18
          try dsimp only [Out.fin] at h
          simp only [go_sem, Nat.reduceEqDiff, Nat.reduceAdd, Nat.reduceSub, Nat.reduceMul, Nat.reduceLeDiff, Nat.reduceLT, Nat.reduceBEq, reduceIte]
          refine AW.reg mixed (by kernel_rfl) ?_
          try simp only [go_sem, Nat.reduceEqDiff, Nat.reduceAdd, Nat.reduceSub, Nat.reduceMul, Nat.reduceLeDiff, Nat.reduceLT, Nat.reduceBEq, reduceIte]
          refine NextQ.mk (IntKind.wrap .i64 (i12_0 + (1 : Int))) [] h (by simp only [go_sem, Nat.reduceEqDiff, Nat.reduceAdd, Nat.reduceSub, Nat.reduceMul, Nat.reduceLeDiff, Nat.reduceLT, Nat.reduceBEq, reduceIte])
      · have h := ifF hb16 h
        refine AW.exit ?_
        try simp only [go_sem, Nat.reduceEqDiff, Nat.reduceAdd, Nat.reduceSub, Nat.reduceMul, Nat.reduceLeDiff, Nat.reduceLT, Nat.reduceBEq, reduceIte]
        refine JoinQ.mk () [] (Option.some.inj h).symm (by simp only [go_sem, Nat.reduceEqDiff, Nat.reduceAdd, Nat.reduceSub, Nat.reduceMul, Nat.reduceLeDiff, Nat.reduceLT, Nat.reduceBEq, reduceIte])
    · rintro ⟨⟩ rfl
      have h := hJ15
      try dsimp only [Out.fin] at h
      simp only [go_sem, Nat.reduceEqDiff, Nat.reduceAdd, Nat.reduceSub, Nat.reduceMul, Nat.reduceLeDiff, Nat.reduceLT, Nat.reduceBEq, reduceIte]
      refine AW.cut [] [(0, .d (.val (.string p0)))] [] (by simp only [go_sem, Nat.reduceEqDiff, Nat.reduceAdd, Nat.reduceSub, Nat.reduceMul, Nat.reduceLeDiff, Nat.reduceLT, Nat.reduceBEq, reduceIte]) ?_
      refine AW.one ?_
      refine AW.one ?_
      refine AW.reg mixed (by kernel_rfl) ?_
      try simp only [go_sem, Nat.reduceEqDiff, Nat.reduceAdd, Nat.reduceSub, Nat.reduceMul, Nat.reduceLeDiff, Nat.reduceLT, Nat.reduceBEq, reduceIte]
      refine AW.cut [] [(41, .d (.val (.string p0)))] [] (by simp only [go_sem, Nat.reduceEqDiff, Nat.reduceAdd, Nat.reduceSub, Nat.reduceMul, Nat.reduceLeDiff, Nat.reduceLT, Nat.reduceBEq, reduceIte]) ?_
      refine AW.block ?_
      refine AW.one ?_
      obtain ⟨oJ29, h, hJ29⟩ := obind h
      refine AW.join (S := Bool) (fun v28_0 => [(42, .d (.val (.bool v28_0)))]) (fun v28_0 => []) (fun x => x = oJ29) ?_ ?_
      · skip
        refine AW.one ?_
        refine AW.reg mixed (by kernel_rfl) ?_
        try simp only [go_sem, Nat.reduceEqDiff, Nat.reduceAdd, Nat.reduceSub, Nat.reduceMul, Nat.reduceLeDiff, Nat.reduceLT, Nat.reduceBEq, reduceIte]
        refine AW.cut [] [(41, .d (.val (.string p0))), (42, .d (.val (.bool (p0.toList == (⟨#[116, 114, 117, 101]⟩ : ByteArray).toList))))] [] (by simp only [go_sem, Nat.reduceEqDiff, Nat.reduceAdd, Nat.reduceSub, Nat.reduceMul, Nat.reduceLeDiff, Nat.reduceLT, Nat.reduceBEq, reduceIte]) ?_
        refine AW.test (t := (p0.toList == (⟨#[116, 114, 117, 101]⟩ : ByteArray).toList)) (by simp only [go_sem, Nat.reduceEqDiff, Nat.reduceAdd, Nat.reduceSub, Nat.reduceMul, Nat.reduceLeDiff, Nat.reduceLT, Nat.reduceBEq, reduceIte]) (fun hb30 => ?_) (fun hb30 => ?_)
        · have h := ifT hb30 h
          refine AW.skip ?_
          try simp only [go_sem, Nat.reduceEqDiff, Nat.reduceAdd, Nat.reduceSub, Nat.reduceMul, Nat.reduceLeDiff, Nat.reduceLT, Nat.reduceBEq, reduceIte]
          refine JoinQ.mk (p0.toList == (⟨#[116, 114, 117, 101]⟩ : ByteArray).toList) [] (Option.some.inj h) (by simp only [go_sem, Nat.reduceEqDiff, Nat.reduceAdd, Nat.reduceSub, Nat.reduceMul, Nat.reduceLeDiff, Nat.reduceLT, Nat.reduceBEq, reduceIte])
        · have h := ifF hb30 h
          refine AW.one ?_
          refine AW.reg mixed (by kernel_rfl) ?_
          try simp only [go_sem, Nat.reduceEqDiff, Nat.reduceAdd, Nat.reduceSub, Nat.reduceMul, Nat.reduceLeDiff, Nat.reduceLT, Nat.reduceBEq, reduceIte]
          refine AW.cut [] [(41, .d (.val (.string p0))), (42, .d (.val (.bool (p0.toList == (⟨#[102, 97, 108, 115, 101]⟩ : ByteArray).toList))))] [] (by simp only [go_sem, Nat.reduceEqDiff, Nat.reduceAdd, Nat.reduceSub, Nat.reduceMul, Nat.reduceLeDiff, Nat.reduceLT, Nat.reduceBEq, reduceIte]) ?_
          refine AW.test (t := (p0.toList == (⟨#[102, 97, 108, 115, 101]⟩ : ByteArray).toList)) (by simp only [go_sem, Nat.reduceEqDiff, Nat.reduceAdd, Nat.reduceSub, Nat.reduceMul, Nat.reduceLeDiff, Nat.reduceLT, Nat.reduceBEq, reduceIte]) (fun hb31 => ?_) (fun hb31 => ?_)
          · have h := ifT hb31 h
            refine AW.skip ?_
            try simp only [go_sem, Nat.reduceEqDiff, Nat.reduceAdd, Nat.reduceSub, Nat.reduceMul, Nat.reduceLeDiff, Nat.reduceLT, Nat.reduceBEq, reduceIte]
            refine JoinQ.mk (p0.toList == (⟨#[102, 97, 108, 115, 101]⟩ : ByteArray).toList) [] (Option.some.inj h) (by simp only [go_sem, Nat.reduceEqDiff, Nat.reduceAdd, Nat.reduceSub, Nat.reduceMul, Nat.reduceLeDiff, Nat.reduceLT, Nat.reduceBEq, reduceIte])
          · have h := ifF hb31 h
            refine AW.one ?_
            refine AW.reg mixed (by kernel_rfl) ?_
            try simp only [go_sem, Nat.reduceEqDiff, Nat.reduceAdd, Nat.reduceSub, Nat.reduceMul, Nat.reduceLeDiff, Nat.reduceLT, Nat.reduceBEq, reduceIte]
            refine AW.cut [] [(41, .d (.val (.string p0))), (42, .d (.val (.bool (p0.toList == (⟨#[102, 111, 114, 97, 108, 108]⟩ : ByteArray).toList))))] [] (by simp only [go_sem, Nat.reduceEqDiff, Nat.reduceAdd, Nat.reduceSub, Nat.reduceMul, Nat.reduceLeDiff, Nat.reduceLT, Nat.reduceBEq, reduceIte]) ?_
            refine AW.test (t := (p0.toList == (⟨#[102, 111, 114, 97, 108, 108]⟩ : ByteArray).toList)) (by simp only [go_sem, Nat.reduceEqDiff, Nat.reduceAdd, Nat.reduceSub, Nat.reduceMul, Nat.reduceLeDiff, Nat.reduceLT, Nat.reduceBEq, reduceIte]) (fun hb32 => ?_) (fun hb32 => ?_)
            · have h := ifT hb32 h
              refine AW.skip ?_
              try simp only [go_sem, Nat.reduceEqDiff, Nat.reduceAdd, Nat.reduceSub, Nat.reduceMul, Nat.reduceLeDiff, Nat.reduceLT, Nat.reduceBEq, reduceIte]
              refine JoinQ.mk (p0.toList == (⟨#[102, 111, 114, 97, 108, 108]⟩ : ByteArray).toList) [] (Option.some.inj h) (by simp only [go_sem, Nat.reduceEqDiff, Nat.reduceAdd, Nat.reduceSub, Nat.reduceMul, Nat.reduceLeDiff, Nat.reduceLT, Nat.reduceBEq, reduceIte])
            · have h := ifF hb32 h
              refine AW.reg mixed (by kernel_rfl) ?_
              try simp only [go_sem, Nat.reduceEqDiff, Nat.reduceAdd, Nat.reduceSub, Nat.reduceMul, Nat.reduceLeDiff, Nat.reduceLT, Nat.reduceBEq, reduceIte]
              refine JoinQ.mk (p0.toList == (⟨#[101, 120, 105, 115, 116, 115]⟩ : ByteArray).toList) [] (Option.some.inj h) (by simp only [go_sem, Nat.reduceEqDiff, Nat.reduceAdd, Nat.reduceSub, Nat.reduceMul, Nat.reduceLeDiff, Nat.reduceLT, Nat.reduceBEq, reduceIte])
      · rintro v28_0 rfl
        have h := hJ29
        try dsimp only [Out.fin] at h
        simp only [go_sem, Nat.reduceEqDiff, Nat.reduceAdd, Nat.reduceSub, Nat.reduceMul, Nat.reduceLeDiff, Nat.reduceLT, Nat.reduceBEq, reduceIte]
        refine AW.test (t := v28_0) (by simp only [go_sem, Nat.reduceEqDiff, Nat.reduceAdd, Nat.reduceSub, Nat.reduceMul, Nat.reduceLeDiff, Nat.reduceLT, Nat.reduceBEq, reduceIte]) (fun hb33 => ?_) (fun hb33 => ?_)
        · have h := ifT hb33 h
          refine AW.one ?_
          refine AW.reg mixed (by kernel_rfl) ?_
          try simp only [go_sem, Nat.reduceEqDiff, Nat.reduceAdd, Nat.reduceSub, Nat.reduceMul, Nat.reduceLeDiff, Nat.reduceLT, Nat.reduceBEq, reduceIte]
          refine AW.ret ?_
          obtain rfl := Option.some.inj h
          simp only [go_sem, Nat.reduceEqDiff, Nat.reduceAdd, Nat.reduceSub, Nat.reduceMul, Nat.reduceLeDiff, Nat.reduceLT, Nat.reduceBEq, reduceIte]
          exact .same _
        · have h := ifF hb33 h
          refine AW.skip ?_
          try simp only [go_sem, Nat.reduceEqDiff, Nat.reduceAdd, Nat.reduceSub, Nat.reduceMul, Nat.reduceLeDiff, Nat.reduceLT, Nat.reduceBEq, reduceIte]
          refine AW.cut [] [] [] (by simp only [go_sem, Nat.reduceEqDiff, Nat.reduceAdd, Nat.reduceSub, Nat.reduceMul, Nat.reduceLeDiff, Nat.reduceLT, Nat.reduceBEq, reduceIte]) ?_
          refine AW.one ?_
          refine AW.reg mixed (by kernel_rfl) ?_
          try simp only [go_sem, Nat.reduceEqDiff, Nat.reduceAdd, Nat.reduceSub, Nat.reduceMul, Nat.reduceLeDiff, Nat.reduceLT, Nat.reduceBEq, reduceIte]
          refine AW.ret ?_
          obtain rfl := Option.some.inj h
          simp only [go_sem, Nat.reduceEqDiff, Nat.reduceAdd, Nat.reduceSub, Nat.reduceMul, Nat.reduceLeDiff, Nat.reduceLT, Nat.reduceBEq, reduceIte]
          exact .same _

end Go.Proofs.Ytcgphoghmgeecaa
namespace Go.Proofs.Ytcgphoghmgeecaa
open Go Go.Iso Go.Proofs
set_option linter.unusedSimpArgs false
set_option linter.unusedVariables false
set_option maxRecDepth 100000

/-! ### isochrone/tree.differentiable -/
def tree_differentiable_body (K : Nat) (self78 : NodeA → Option Bool) (p0 : NodeA) : Option Bool := ((
    if (p0.op == (20 : Int)) then
      some (p0.op == (20 : Int))
    else
      if (p0.op == (21 : Int)) then
        some (p0.op == (21 : Int))
      else
        if (p0.op == (22 : Int)) then
          some (p0.op == (22 : Int))
        else
          if (p0.op == (23 : Int)) then
            some (p0.op == (23 : Int))
          else
            if (p0.op == (24 : Int)) then
              some (p0.op == (24 : Int))
            else
              if (p0.op == (25 : Int)) then
                some (p0.op == (25 : Int))
              else
                if (p0.op == (26 : Int)) then
                  some (p0.op == (26 : Int))
                else
                  if (p0.op == (27 : Int)) then
                    some (p0.op == (27 : Int))
                  else
                    if (p0.op == (37 : Int)) then
                      some (p0.op == (37 : Int))
                    else
                      some (p0.op == (38 : Int))) : Option Bool).bind (fun v1_0 => 
  if v1_0 then
    some true
  else
    ((
      if (p0.op == (29 : Int)) then
        some (p0.op == (29 : Int))
      else
        some (p0.op == (30 : Int))) : Option Bool).bind (fun v13_0 => 
    if v13_0 then
      ((iter (S := Int) (R := Out Unit _) K (fun again i17_0 => 
        if (decide (i17_0 < (p0.kids.length : Int))) then
          (idx p0.kids i17_0).bind fun x22 => 
          (self78 (x22)).bind fun r24 => 
          if (!r24) then
            outM (
              some false)
          else
            again (IntKind.wrap .i64 (i17_0 + (1 : Int)))
        else
          some (.go ())) (0 : Int)) : Option (Out Unit _)).bind (Out.fin fun _ => 
      some true)
    else
      some false))
set_option maxHeartbeats 4000000 in
theorem tree_differentiable_step (K : Nat) (self78 : NodeA → Option Bool) (hself78 : ∀ (q : NodeA) (r : Bool), self78 q = some r → Cn Try.prog 78 [aggV q.enc] (.d (.val (.bool r)))) (p0 : NodeA) (r : Bool) (h : tree_differentiable_body K self78 p0 = some r) : Cn Try.prog 78 [aggV p0.enc] (.d (.val (.bool r))) := by
  refine Cn.ofA mixed Try.func78 rfl Try.call78 Try.ntmps78 Try.results78 (by simp) (by simp only [go_sem, Nat.reduceEqDiff, Nat.reduceAdd, Nat.reduceSub, Nat.reduceMul, Nat.reduceLeDiff, Nat.reduceLT, Nat.reduceBEq, reduceIte]) fun hfit => ?_
  unfold tree_differentiable_body at h
  refine AW.cut [] [(0, .agg [.d (.val (.int .i64 p0.op)), .d (.val (.string p0.name)), .d (.val (.bool p0.num.neg)), .d (slD u32V p0.num.num), .d (slD u32V p0.num.den), .d (slD NodeA.enc p0.kids)])] [] (by simp only [go_sem, Nat.reduceEqDiff, Nat.reduceAdd, Nat.reduceSub, Nat.reduceMul, Nat.reduceLeDiff, Nat.reduceLT, Nat.reduceBEq, reduceIte]) ?_
  refine AW.one ?_
  refine AW.reg mixed (by kernel_rfl) ?_
  try simp only [go_sem, Nat.reduceEqDiff, Nat.reduceAdd, Nat.reduceSub, Nat.reduceMul, Nat.reduceLeDiff, Nat.reduceLT, Nat.reduceBEq, reduceIte]
  refine AW.cut [0] [(1, .ptr 0 6 0 0)] [some ⟨6, [[.d (.val (.int .i64 p0.op)), .d (.val (.string p0.name)), .d (.val (.bool p0.num.neg)), .d (slD u32V p0.num.num), .d (slD u32V p0.num.den), .d (slD NodeA.enc p0.kids)]]⟩] (by simp only [go_sem, Nat.reduceEqDiff, Nat.reduceAdd, Nat.reduceSub, Nat.reduceMul, Nat.reduceLeDiff, Nat.reduceLT, Nat.reduceBEq, reduceIte]) ?_
  refine AW.one ?_
  refine AW.one ?_
  refine AW.reg mixed (by kernel_rfl) ?_
  try simp only [go_sem, Nat.reduceEqDiff, Nat.reduceAdd, Nat.reduceSub, Nat.reduceMul, Nat.reduceLeDiff, Nat.reduceLT, Nat.reduceBEq, reduceIte]
  refine AW.cut [0] [(1, .ptr 0 6 0 0), (6, .d (.val (.int .i64 p0.op)))] [some ⟨6, [[.d (.val (.int .i64 p0.op)), .d (.val (.string p0.name)), .d (.val (.bool p0.num.neg)), .d (slD u32V p0.num.num), .d (slD u32V p0.num.den), .d (slD NodeA.enc p0.kids)]]⟩] (by simp only [go_sem, Nat.reduceEqDiff, Nat.reduceAdd, Nat.reduceSub, Nat.reduceMul, Nat.reduceLeDiff, Nat.reduceLT, Nat.reduceBEq, reduceIte]) ?_
  refine AW.block ?_
  refine AW.one ?_
  obtain ⟨oJ2, h, hJ2⟩ := obind h
  refine AW.join (S := Bool) (fun v1_0 => [(1, .ptr 0 6 0 0), (6, .d (.val (.int .i64 p0.op))), (7, .d (.val (.bool v1_0)))]) (fun v1_0 => [some ⟨6, [[.d (.val (.int .i64 p0.op)), .d (.val (.string p0.name)), .d (.val (.bool p0.num.neg)), .d (slD u32V p0.num.num), .d (slD u32V p0.num.den), .d (slD NodeA.enc p0.kids)]]⟩]) (fun x => x = oJ2) ?_ ?_
  · skip
    refine AW.one ?_
    refine AW.reg mixed (by kernel_rfl) ?_
    try simp only [go_sem, Nat.reduceEqDiff, Nat.reduceAdd, Nat.reduceSub, Nat.reduceMul, Nat.reduceLeDiff, Nat.reduceLT, Nat.reduceBEq, reduceIte]
    refine AW.cut [0] [(1, .ptr 0 6 0 0), (6, .d (.val (.int .i64 p0.op))), (7, .d (.val (.bool (p0.op == (20 : Int)))))] [some ⟨6, [[.d (.val (.int .i64 p0.op)), .d (.val (.string p0.name)), .d (.val (.bool p0.num.neg)), .d (slD u32V p0.num.num), .d (slD u32V p0.num.den), .d (slD NodeA.enc p0.kids)]]⟩] (by simp only [go_sem, Nat.reduceEqDiff, Nat.reduceAdd, Nat.reduceSub, Nat.reduceMul, Nat.reduceLeDiff, Nat.reduceLT, Nat.reduceBEq, reduceIte]) ?_
    refine AW.test (t := (p0.op == (20 : Int))) (by simp only [go_sem, Nat.reduceEqDiff, Nat.reduceAdd, Nat.reduceSub, Nat.reduceMul, Nat.reduceLeDiff, Nat.reduceLT, Nat.reduceBEq, reduceIte]) (fun hb3 => ?_) (fun hb3 => ?_)
    · have h := ifT hb3 h
      refine AW.skip ?_
      try simp only [go_sem, Nat.reduceEqDiff, Nat.reduceAdd, Nat.reduceSub, Nat.reduceMul, Nat.reduceLeDiff, Nat.reduceLT, Nat.reduceBEq, reduceIte]
      refine JoinQ.mk (p0.op == (20 : Int)) [0] (Option.some.inj h) (by simp only [go_sem, Nat.reduceEqDiff, Nat.reduceAdd, Nat.reduceSub, Nat.reduceMul, Nat.reduceLeDiff, Nat.reduceLT, Nat.reduceBEq, reduceIte])
    · have h := ifF hb3 h
      refine AW.one ?_
      refine AW.reg mixed (by kernel_rfl) ?_
      try simp only [go_sem, Nat.reduceEqDiff, Nat.reduceAdd, Nat.reduceSub, Nat.reduceMul, Nat.reduceLeDiff, Nat.reduceLT, Nat.reduceBEq, reduceIte]
      refine AW.cut [0] [(1, .ptr 0 6 0 0), (6, .d (.val (.int .i64 p0.op))), (7, .d (.val (.bool (p0.op == (21 : Int)))))] [some ⟨6, [[.d (.val (.int .i64 p0.op)), .d (.val (.string p0.name)), .d (.val (.bool p0.num.neg)), .d (slD u32V p0.num.num), .d (slD u32V p0.num.den), .d (slD NodeA.enc p0.kids)]]⟩] (by simp only [go_sem, Nat.reduceEqDiff, Nat.reduceAdd, Nat.reduceSub, Nat.reduceMul, Nat.reduceLeDiff, Nat.reduceLT, Nat.reduceBEq, reduceIte]) ?_
      refine AW.test (t := (p0.op == (21 : Int))) (by simp only [go_sem, Nat.reduceEqDiff, Nat.reduceAdd, Nat.reduceSub, Nat.reduceMul, Nat.reduceLeDiff, Nat.reduceLT, Nat.reduceBEq, reduceIte]) (fun hb4 => ?_) (fun hb4 => ?_)
      · have h := ifT hb4 h
        refine AW.skip ?_
        try simp only [go_sem, Nat.reduceEqDiff, Nat.reduceAdd, Nat.reduceSub, Nat.reduceMul, Nat.reduceLeDiff, Nat.reduceLT, Nat.reduceBEq, reduceIte]
        refine JoinQ.mk (p0.op == (21 : Int)) [0] (Option.some.inj h) (by simp only [go_sem, Nat.reduceEqDiff, Nat.reduceAdd, Nat.reduceSub, Nat.reduceMul, Nat.reduceLeDiff, Nat.reduceLT, Nat.reduceBEq, reduceIte])
      · have h := ifF hb4 h
        refine AW.one ?_
        refine AW.reg mixed (by kernel_rfl) ?_
        try simp only [go_sem, Nat.reduceEqDiff, Nat.reduceAdd, Nat.reduceSub, Nat.reduceMul, Nat.reduceLeDiff, Nat.reduceLT, Nat.reduceBEq, reduceIte]
        refine AW.cut [0] [(1, .ptr 0 6 0 0), (6, .d (.val (.int .i64 p0.op))), (7, .d (.val (.bool (p0.op == (22 : Int)))))] [some ⟨6, [[.d (.val (.int .i64 p0.op)), .d (.val (.string p0.name)), .d (.val (.bool p0.num.neg)), .d (slD u32V p0.num.num), .d (slD u32V p0.num.den), .d (slD NodeA.enc p0.kids)]]⟩] (by simp only [go_sem, Nat.reduceEqDiff, Nat.reduceAdd, Nat.reduceSub, Nat.reduceMul, Nat.reduceLeDiff, Nat.reduceLT, Nat.reduceBEq, reduceIte]) ?_
        refine AW.test (t := (p0.op == (22 : Int))) (by simp only [go_sem, Nat.reduceEqDiff, Nat.reduceAdd, Nat.reduceSub, Nat.reduceMul, Nat.reduceLeDiff, Nat.reduceLT, Nat.reduceBEq, reduceIte]) (fun hb5 => ?_) (fun hb5 => ?_)
        · have h := ifT hb5 h
          refine AW.skip ?_
          try simp only [go_sem, Nat.reduceEqDiff, Nat.reduceAdd, Nat.reduceSub, Nat.reduceMul, Nat.reduceLeDiff, Nat.reduceLT, Nat.reduceBEq, reduceIte]
          refine JoinQ.mk (p0.op == (22 : Int)) [0] (Option.some.inj h) (by simp only [go_sem, Nat.reduceEqDiff, Nat.reduceAdd, Nat.reduceSub, Nat.reduceMul, Nat.reduceLeDiff, Nat.reduceLT, Nat.reduceBEq, reduceIte])
        · have h := ifF hb5 h
          refine AW.one ?_
          refine AW.reg mixed (by kernel_rfl) ?_
          try simp only [go_sem, Nat.reduceEqDiff, Nat.reduceAdd, Nat.reduceSub, Nat.reduceMul, Nat.reduceLeDiff, Nat.reduceLT, Nat.reduceBEq, reduceIte]
          refine AW.cut [0] [(1, .ptr 0 6 0 0), (6, .d (.val (.int .i64 p0.op))), (7, .d (.val (.bool (p0.op == (23 : Int)))))] [some ⟨6, [[.d (.val (.int .i64 p0.op)), .d (.val (.string p0.name)), .d (.val (.bool p0.num.neg)), .d (slD u32V p0.num.num), .d (slD u32V p0.num.den), .d (slD NodeA.enc p0.kids)]]⟩] (by simp only [go_sem, Nat.reduceEqDiff, Nat.reduceAdd, Nat.reduceSub, Nat.reduceMul, Nat.reduceLeDiff, Nat.reduceLT, Nat.reduceBEq, reduceIte]) ?_
          refine AW.test (t := (p0.op == (23 : Int))) (by simp only [go_sem, Nat.reduceEqDiff, Nat.reduceAdd, Nat.reduceSub, Nat.reduceMul, Nat.reduceLeDiff, Nat.reduceLT, Nat.reduceBEq, reduceIte]) (fun hb6 => ?_) (fun hb6 => ?_)
          · have h := ifT hb6 h
            refine AW.skip ?_
            try simp only [go_sem, Nat.reduceEqDiff, Nat.reduceAdd, Nat.reduceSub, Nat.reduceMul, Nat.reduceLeDiff, Nat.reduceLT, Nat.reduceBEq, reduceIte]
            refine JoinQ.mk (p0.op == (23 : Int)) [0] (Option.some.inj h) (by simp only [go_sem, Nat.reduceEqDiff, Nat.reduceAdd, Nat.reduceSub, Nat.reduceMul, Nat.reduceLeDiff, Nat.reduceLT, Nat.reduceBEq, reduceIte])
          · have h := ifF hb6 h
            refine AW.one ?_
            refine AW.reg mixed (by kernel_rfl) ?_
            try simp only [go_sem, Nat.reduceEqDiff, Nat.reduceAdd, Nat.reduceSub, Nat.reduceMul, Nat.reduceLeDiff, Nat.reduceLT, Nat.reduceBEq, reduceIte]
            refine AW.cut [0] [(1, .ptr 0 6 0 0), (6, .d (.val (.int .i64 p0.op))), (7, .d (.val (.bool (p0.op == (24 : Int)))))] [some ⟨6, [[.d (.val (.int .i64 p0.op)), .d (.val (.string p0.name)), .d (.val (.bool p0.num.neg)), .d (slD u32V p0.num.num), .d (slD u32V p0.num.den), .d (slD NodeA.enc p0.kids)]]⟩] (by simp only [go_sem, Nat.reduceEqDiff, Nat.reduceAdd, Nat.reduceSub, Nat.reduceMul, Nat.reduceLeDiff, Nat.reduceLT, Nat.reduceBEq, reduceIte]) ?_
            refine AW.test (t := (p0.op == (24 : Int))) (by simp only [go_sem, Nat.reduceEqDiff, Nat.reduceAdd, Nat.reduceSub, Nat.reduceMul, Nat.reduceLeDiff, Nat.reduceLT, Nat.reduceBEq, reduceIte]) (fun hb7 => ?_) (fun hb7 => ?_)
            · have h := ifT hb7 h
              refine AW.skip ?_
              try simp only [go_sem, Nat.reduceEqDiff, Nat.reduceAdd, Nat.reduceSub, Nat.reduceMul, Nat.reduceLeDiff, Nat.reduceLT, Nat.reduceBEq, reduceIte]
              refine JoinQ.mk (p0.op == (24 : Int)) [0] (Option.some.inj h) (by simp only [go_sem, Nat.reduceEqDiff, Nat.reduceAdd, Nat.reduceSub, Nat.reduceMul, Nat.reduceLeDiff, Nat.reduceLT, Nat.reduceBEq, reduceIte])
            · have h := ifF hb7 h
              refine AW.one ?_
              refine AW.reg mixed (by kernel_rfl) ?_
              try simp only [go_sem, Nat.reduceEqDiff, Nat.reduceAdd, Nat.reduceSub, Nat.reduceMul, Nat.reduceLeDiff, Nat.reduceLT, Nat.reduceBEq, reduceIte]
              refine AW.cut [0] [(1, .ptr 0 6 0 0), (6, .d (.val (.int .i64 p0.op))), (7, .d (.val (.bool (p0.op == (25 : Int)))))] [some ⟨6, [[.d (.val (.int .i64 p0.op)), .d (.val (.string p0.name)), .d (.val (.bool p0.num.neg)), .d (slD u32V p0.num.num), .d (slD u32V p0.num.den), .d (slD NodeA.enc p0.kids)]]⟩] (by simp only [go_sem, Nat.reduceEqDiff, Nat.reduceAdd, Nat.reduceSub, Nat.reduceMul, Nat.reduceLeDiff, Nat.reduceLT, Nat.reduceBEq, reduceIte]) ?_
              refine AW.test (t := (p0.op == (25 : Int))) (by simp only [go_sem, Nat.reduceEqDiff, Nat.reduceAdd, Nat.reduceSub, Nat.reduceMul, Nat.reduceLeDiff, Nat.reduceLT, Nat.reduceBEq, reduceIte]) (fun hb8 => ?_) (fun hb8 => ?_)
              · have h := ifT hb8 h
                refine AW.skip ?_
                try simp only [go_sem, Nat.reduceEqDiff, Nat.reduceAdd, Nat.reduceSub, Nat.reduceMul, Nat.reduceLeDiff, Nat.reduceLT, Nat.reduceBEq, reduceIte]
                refine JoinQ.mk (p0.op == (25 : Int)) [0] (Option.some.inj h) (by simp only [go_sem, Nat.reduceEqDiff, Nat.reduceAdd, Nat.reduceSub, Nat.reduceMul, Nat.reduceLeDiff, Nat.reduceLT, Nat.reduceBEq, reduceIte])
              · have h := ifF hb8 h
                refine AW.one ?_
                refine AW.reg mixed (by kernel_rfl) ?_
                try simp only [go_sem, Nat.reduceEqDiff, Nat.reduceAdd, Nat.reduceSub, Nat.reduceMul, Nat.reduceLeDiff, Nat.reduceLT, Nat.reduceBEq, reduceIte]
                refine AW.cut [0] [(1, .ptr 0 6 0 0), (6, .d (.val (.int .i64 p0.op))), (7, .d (.val (.bool (p0.op == (26 : Int)))))] [some ⟨6, [[.d (.val (.int .i64 p0.op)), .d (.val (.string p0.name)), .d (.val (.bool p0.num.neg)), .d (slD u32V p0.num.num), .d (slD u32V p0.num.den), .d (slD NodeA.enc p0.kids)]]⟩] (by simp only [go_sem, Nat.reduceEqDiff, Nat.reduceAdd, Nat.reduceSub, Nat.reduceMul, Nat.reduceLeDiff, Nat.reduceLT, Nat.reduceBEq, reduceIte]) ?_
                refine AW.test (t := (p0.op == (26 : Int))) (by simp only [go_sem, Nat.reduceEqDiff, Nat.reduceAdd, Nat.reduceSub, Nat.reduceMul, Nat.reduceLeDiff, Nat.reduceLT, Nat.reduceBEq, reduceIte]) (fun hb9 => ?_) (fun hb9 => ?_)
                · have h := ifT hb9 h
                  refine AW.skip ?_
                  try simp only [go_sem, Nat.reduceEqDiff, Nat.reduceAdd, Nat.reduceSub, Nat.reduceMul, Nat.reduceLeDiff, Nat.reduceLT, Nat.reduceBEq, reduceIte]
                  refine JoinQ.mk (p0.op == (26 : Int)) [0] (Option.some.inj h) (by simp only [go_sem, Nat.reduceEqDiff, Nat.reduceAdd, Nat.reduceSub, Nat.reduceMul, Nat.reduceLeDiff, Nat.reduceLT, Nat.reduceBEq, reduceIte])
                · have h := ifF hb9 h
                  refine AW.one ?_
                  refine AW.reg mixed (by kernel_rfl) ?_
                  try simp only [go_sem, Nat.reduceEqDiff, Nat.reduceAdd, Nat.reduceSub, Nat.reduceMul, Nat.reduceLeDiff, Nat.reduceLT, Nat.reduceBEq, reduceIte]
                  refine AW.cut [0] [(1, .ptr 0 6 0 0), (6, .d (.val (.int .i64 p0.op))), (7, .d (.val (.bool (p0.op == (27 : Int)))))] [some ⟨6, [[.d (.val (.int .i64 p0.op)), .d (.val (.string p0.name)), .d (.val (.bool p0.num.neg)), .d (slD u32V p0.num.num), .d (slD u32V p0.num.den), .d (slD NodeA.enc p0.kids)]]⟩] (by simp only [go_sem, Nat.reduceEqDiff, Nat.reduceAdd, Nat.reduceSub, Nat.reduceMul, Nat.reduceLeDiff, Nat.reduceLT, Nat.reduceBEq, reduceIte]) ?_
                  refine AW.test (t := (p0.op == (27 : Int))) (by simp only [go_sem, Nat.reduceEqDiff, Nat.reduceAdd, Nat.reduceSub, Nat.reduceMul, Nat.reduceLeDiff, Nat.reduceLT, Nat.reduceBEq, reduceIte]) (fun hb10 => ?_) (fun hb10 => ?_)
                  · have h := ifT hb10 h
                    refine AW.skip ?_
                    try simp only [go_sem, Nat.reduceEqDiff, Nat.reduceAdd, Nat.reduceSub, Nat.reduceMul, Nat.reduceLeDiff, Nat.reduceLT, Nat.reduceBEq, reduceIte]
                    refine JoinQ.mk (p0.op == (27 : Int)) [0] (Option.some.inj h) (by simp only [go_sem, Nat.reduceEqDiff, Nat.reduceAdd, Nat.reduceSub, Nat.reduceMul, Nat.reduceLeDiff, Nat.reduceLT, Nat.reduceBEq, reduceIte])
                  · have h := ifF hb10 h
                    refine AW.one ?_
                    refine AW.reg mixed (by kernel_rfl) ?_
                    try simp only [go_sem, Nat.reduceEqDiff, Nat.reduceAdd, Nat.reduceSub, Nat.reduceMul, Nat.reduceLeDiff, Nat.reduceLT, Nat.reduceBEq, reduceIte]
                    refine AW.cut [0] [(1, .ptr 0 6 0 0), (6, .d (.val (.int .i64 p0.op))), (7, .d (.val (.bool (p0.op == (37 : Int)))))] [some ⟨6, [[.d (.val (.int .i64 p0.op)), .d (.val (.string p0.name)), .d (.val (.bool p0.num.neg)), .d (slD u32V p0.num.num), .d (slD u32V p0.num.den), .d (slD NodeA.enc p0.kids)]]⟩] (by simp only [go_sem, Nat.reduceEqDiff, Nat.reduceAdd, Nat.reduceSub, Nat.reduceMul, Nat.reduceLeDiff, Nat.reduceLT, Nat.reduceBEq, reduceIte]) ?_
                    refine AW.test (t := (p0.op == (37 : Int))) (by simp only [go_sem, Nat.reduceEqDiff, Nat.reduceAdd, Nat.reduceSub, Nat.reduceMul, Nat.reduceLeDiff, Nat.reduceLT, Nat.reduceBEq, reduceIte]) (fun hb11 => ?_) (fun hb11 => ?_)
                    · have h := ifT hb11 h
                      refine AW.skip ?_
                      try simp only [go_sem, Nat.reduceEqDiff, Nat.reduceAdd, Nat.reduceSub, Nat.reduceMul, Nat.reduceLeDiff, Nat.reduceLT, Nat.reduceBEq, reduceIte]
                      refine JoinQ.mk (p0.op == (37 : Int)) [0] (Option.some.inj h) (by simp only [go_sem, Nat.reduceEqDiff, Nat.reduceAdd, Nat.reduceSub, Nat.reduceMul, Nat.reduceLeDiff, Nat.reduceLT, Nat.reduceBEq, reduceIte])
                    · have h := ifF hb11 h
                      refine AW.reg mixed (by kernel_rfl) ?_
                      try simp only [go_sem, Nat.reduceEqDiff, Nat.reduceAdd, Nat.reduceSub, Nat.reduceMul, Nat.reduceLeDiff, Nat.reduceLT, Nat.reduceBEq, reduceIte]
                      refine JoinQ.mk (p0.op == (38 : Int)) [0] (Option.some.inj h) (by simp only [go_sem, Nat.reduceEqDiff, Nat.reduceAdd, Nat.reduceSub, Nat.reduceMul, Nat.reduceLeDiff, Nat.reduceLT, Nat.reduceBEq, reduceIte])
  · rintro v1_0 rfl
    have h := hJ2
    try dsimp only [Out.fin] at h
    simp only [go_sem, Nat.reduceEqDiff, Nat.reduceAdd, Nat.reduceSub, Nat.reduceMul, Nat.reduceLeDiff, Nat.reduceLT, Nat.reduceBEq, reduceIte]
    refine AW.test (t := v1_0) (by simp only [go_sem, Nat.reduceEqDiff, Nat.reduceAdd, Nat.reduceSub, Nat.reduceMul, Nat.reduceLeDiff, Nat.reduceLT, Nat.reduceBEq, reduceIte]) (fun hb12 => ?_) (fun hb12 => ?_)
    · have h := ifT hb12 h
      refine AW.one ?_
      refine AW.reg mixed (by kernel_rfl) ?_
      try simp only [go_sem, Nat.reduceEqDiff, Nat.reduceAdd, Nat.reduceSub, Nat.reduceMul, Nat.reduceLeDiff, Nat.reduceLT, Nat.reduceBEq, reduceIte]
      refine AW.ret ?_
      obtain rfl := Option.some.inj h
      simp only [go_sem, Nat.reduceEqDiff, Nat.reduceAdd, Nat.reduceSub, Nat.reduceMul, Nat.reduceLeDiff, Nat.reduceLT, Nat.reduceBEq, reduceIte]
      exact .same _
    · have h := ifF hb12 h
      refine AW.one ?_
      obtain ⟨oJ14, h, hJ14⟩ := obind h
      refine AW.join (S := Bool) (fun v13_0 => [(1, .ptr 0 6 0 0), (18, .d (.val (.bool v13_0)))]) (fun v13_0 => [some ⟨6, [[.d (.val (.int .i64 p0.op)), .d (.val (.string p0.name)), .d (.val (.bool p0.num.neg)), .d (slD u32V p0.num.num), .d (slD u32V p0.num.den), .d (slD NodeA.enc p0.kids)]]⟩]) (fun x => x = oJ14) ?_ ?_
      · skip
        refine AW.one ?_
        refine AW.reg mixed (by kernel_rfl) ?_
        try simp only [go_sem, Nat.reduceEqDiff, Nat.reduceAdd, Nat.reduceSub, Nat.reduceMul, Nat.reduceLeDiff, Nat.reduceLT, Nat.reduceBEq, reduceIte]
        refine AW.cut [0] [(1, .ptr 0 6 0 0), (6, .d (.val (.int .i64 p0.op))), (18, .d (.val (.bool (p0.op == (29 : Int)))))] [some ⟨6, [[.d (.val (.int .i64 p0.op)), .d (.val (.string p0.name)), .d (.val (.bool p0.num.neg)), .d (slD u32V p0.num.num), .d (slD u32V p0.num.den), .d (slD NodeA.enc p0.kids)]]⟩] (by simp only [go_sem, Nat.reduceEqDiff, Nat.reduceAdd, Nat.reduceSub, Nat.reduceMul, Nat.reduceLeDiff, Nat.reduceLT, Nat.reduceBEq, reduceIte]) ?_
        refine AW.test (t := (p0.op == (29 : Int))) (by simp only [go_sem, Nat.reduceEqDiff, Nat.reduceAdd, Nat.reduceSub, Nat.reduceMul, Nat.reduceLeDiff, Nat.reduceLT, Nat.reduceBEq, reduceIte]) (fun hb15 => ?_) (fun hb15 => ?_)
        · have h := ifT hb15 h
          refine AW.skip ?_
          try simp only [go_sem, Nat.reduceEqDiff, Nat.reduceAdd, Nat.reduceSub, Nat.reduceMul, Nat.reduceLeDiff, Nat.reduceLT, Nat.reduceBEq, reduceIte]
          refine JoinQ.mk (p0.op == (29 : Int)) [0] (Option.some.inj h) (by simp only [go_sem, Nat.reduceEqDiff, Nat.reduceAdd, Nat.reduceSub, Nat.reduceMul, Nat.reduceLeDiff, Nat.reduceLT, Nat.reduceBEq, reduceIte])
        · have h := ifF hb15 h
          refine AW.reg mixed (by kernel_rfl) ?_
          try simp only [go_sem, Nat.reduceEqDiff, Nat.reduceAdd, Nat.reduceSub, Nat.reduceMul, Nat.reduceLeDiff, Nat.reduceLT, Nat.reduceBEq, reduceIte]
          refine JoinQ.mk (p0.op == (30 : Int)) [0] (Option.some.inj h) (by simp only [go_sem, Nat.reduceEqDiff, Nat.reduceAdd, Nat.reduceSub, Nat.reduceMul, Nat.reduceLeDiff, Nat.reduceLT, Nat.reduceBEq, reduceIte])
      · rintro v13_0 rfl
        have h := hJ14
        try dsimp only [Out.fin] at h
        simp only [go_sem, Nat.reduceEqDiff, Nat.reduceAdd, Nat.reduceSub, Nat.reduceMul, Nat.reduceLeDiff, Nat.reduceLT, Nat.reduceBEq, reduceIte]
        refine AW.test (t := v13_0) (by simp only [go_sem, Nat.reduceEqDiff, Nat.reduceAdd, Nat.reduceSub, Nat.reduceMul, Nat.reduceLeDiff, Nat.reduceLT, Nat.reduceBEq, reduceIte]) (fun hb16 => ?_) (fun hb16 => ?_)
        · have h := ifT hb16 h
          refine AW.one ?_
          refine AW.one ?_
          refine AW.reg mixed (by kernel_rfl) ?_
          try simp only [go_sem, Nat.reduceEqDiff, Nat.reduceAdd, Nat.reduceSub, Nat.reduceMul, Nat.reduceLeDiff, Nat.reduceLT, Nat.reduceBEq, reduceIte]
          refine AW.cut [] [(22, .d (slD NodeA.enc p0.kids)), (23, .d (.val (.int .i64 (p0.kids.length : Int)))), (24, .d (.val (.int .i64 (0 : Int))))] [] (by simp only [go_sem, Nat.reduceEqDiff, Nat.reduceAdd, Nat.reduceSub, Nat.reduceMul, Nat.reduceLeDiff, Nat.reduceLT, Nat.reduceBEq, reduceIte]) ?_
          obtain ⟨oJ20, h, hJ20⟩ := obind h
          refine AW.join (S := Unit) (fun _ => []) (fun _ => []) (fun x => oJ20 = .go x) ?_ ?_
          · refine AW.block ?_
            refine AW.iter (S := Int) (fun i17_0 => [(22, .d (slD NodeA.enc p0.kids)), (23, .d (.val (.int .i64 (p0.kids.length : Int)))), (24, .d (.val (.int .i64 i17_0)))]) (fun i17_0 => []) [] h (by simp only [go_sem, Nat.reduceEqDiff, Nat.reduceAdd, Nat.reduceSub, Nat.reduceMul, Nat.reduceLeDiff, Nat.reduceLT, Nat.reduceBEq, reduceIte]) ?_
            rintro again i17_0 h
            try dsimp only at h
            refine AW.one ?_
            refine AW.reg mixed (by kernel_rfl) ?_
            try simp only [go_sem, Nat.reduceEqDiff, Nat.reduceAdd, Nat.reduceSub, Nat.reduceMul, Nat.reduceLeDiff, Nat.reduceLT, Nat.reduceBEq, reduceIte]
            refine AW.cut [] [(22, .d (slD NodeA.enc p0.kids)), (23, .d (.val (.int .i64 (p0.kids.length : Int)))), (24, .d (.val (.int .i64 i17_0))), (25, .d (.val (.bool (decide (i17_0 < (p0.kids.length : Int))))))] [] (by simp only [go_sem, Nat.reduceEqDiff, Nat.reduceAdd, Nat.reduceSub, Nat.reduceMul, Nat.reduceLeDiff, Nat.reduceLT, Nat.reduceBEq, reduceIte]) ?_
            refine AW.one ?_
            refine AW.test (t := (decide (i17_0 < (p0.kids.length : Int)))) (by simp only [go_sem, Nat.reduceEqDiff, Nat.reduceAdd, Nat.reduceSub, Nat.reduceMul, Nat.reduceLeDiff, Nat.reduceLT, Nat.reduceBEq, reduceIte]) (fun hb21 => ?_) (fun hb21 => ?_)
            · have h := ifT hb21 h
              refine AW.skip ?_
              try simp only [go_sem, Nat.reduceEqDiff, Nat.reduceAdd, Nat.reduceSub, Nat.reduceMul, Nat.reduceLeDiff, Nat.reduceLT, Nat.reduceBEq, reduceIte]
              refine AW.cut [] [(22, .d (slD NodeA.enc p0.kids)), (23, .d (.val (.int .i64 (p0.kids.length : Int)))), (24, .d (.val (.int .i64 i17_0)))] [] (by simp only [go_sem, Nat.reduceEqDiff, Nat.reduceAdd, Nat.reduceSub, Nat.reduceMul, Nat.reduceLeDiff, Nat.reduceLT, Nat.reduceBEq, reduceIte]) ?_
              refine AW.one ?_
              refine AW.block ?_
              refine AW.one ?_
              refine AW.reg mixed (by kernel_rfl) ?_
              obtain ⟨x22, hx23, h⟩ := obind h
              try simp only [go_sem, Nat.reduceEqDiff, Nat.reduceAdd, Nat.reduceSub, Nat.reduceMul, Nat.reduceLeDiff, Nat.reduceLT, Nat.reduceBEq, reduceIte, (idx_some hx23).1, (idx_some hx23).2]
              refine AW.cut [2] [(4, .ptr 0 6 0 0), (22, .d (slD NodeA.enc p0.kids)), (23, .d (.val (.int .i64 (p0.kids.length : Int)))), (24, .d (.val (.int .i64 i17_0)))] [some ⟨6, [[.d (.val (.int .i64 x22.op)), .d (.val (.string x22.name)), .d (.val (.bool x22.num.neg)), .d (slD u32V x22.num.num), .d (slD u32V x22.num.den), .d (slD NodeA.enc x22.kids)]]⟩] (by simp only [go_sem, Nat.reduceEqDiff, Nat.reduceAdd, Nat.reduceSub, Nat.reduceMul, Nat.reduceLeDiff, Nat.reduceLT, Nat.reduceBEq, reduceIte, (idx_some hx23).1, (idx_some hx23).2]) ?_
              refine AW.one ?_
              refine AW.reg mixed (by kernel_rfl) ?_
              try simp only [go_sem, Nat.reduceEqDiff, Nat.reduceAdd, Nat.reduceSub, Nat.reduceMul, Nat.reduceLeDiff, Nat.reduceLT, Nat.reduceBEq, reduceIte]
              obtain ⟨r24, hx25, h⟩ := obind h
              have hc := hself78 _ _ hx25
              try simp only [NodeA.enc_eta, RatA.enc_eta, aggV, i64V, u32V, strV, List.map_cons, List.map_nil] at hc
              refine callK_pure hc (by simp only [go_sem, Nat.reduceEqDiff, Nat.reduceAdd, Nat.reduceSub, Nat.reduceMul, Nat.reduceLeDiff, Nat.reduceLT, Nat.reduceBEq, reduceIte]) ?_
              try simp only [go_sem, Nat.reduceEqDiff, Nat.reduceAdd, Nat.reduceSub, Nat.reduceMul, Nat.reduceLeDiff, Nat.reduceLT, Nat.reduceBEq, reduceIte]
              refine AW.cut [] [(22, .d (slD NodeA.enc p0.kids)), (23, .d (.val (.int .i64 (p0.kids.length : Int)))), (24, .d (.val (.int .i64 i17_0))), (30, .d (.val (.bool (!r24))))] [] (by simp only [go_sem, Nat.reduceEqDiff, Nat.reduceAdd, Nat.reduceSub, Nat.reduceMul, Nat.reduceLeDiff, Nat.reduceLT, Nat.reduceBEq, reduceIte]) ?_
              refine AW.test (t := (!r24)) (by simp only [go_sem, Nat.reduceEqDiff, Nat.reduceAdd, Nat.reduceSub, Nat.reduceMul, Nat.reduceLeDiff, Nat.reduceLT, Nat.reduceBEq, reduceIte]) (fun hb26 => ?_) (fun hb26 => ?_)
              · have h := ifT hb26 h
                refine AW.one ?_
                refine AW.reg mixed (by kernel_rfl) ?_
                try simp only [go_sem, Nat.reduceEqDiff, Nat.reduceAdd, Nat.reduceSub, Nat.reduceMul, Nat.reduceLeDiff, Nat.reduceLT, Nat.reduceBEq, reduceIte]
                refine AW.ret ?_
                obtain ⟨_, h, ho⟩ := outM_some h
                rw [ho, Out.fin_out] at hJ20
                have h := h.trans hJ20
                obtain rfl := Option.some.inj h
                simp only [go_sem, Nat.reduceEqDiff, Nat.reduceAdd, Nat.reduceSub, Nat.reduceMul, Nat.reduceLeDiff, Nat.reduceLT, Nat.reduceBEq, reduceIte]
                exact .same _
              · have h := ifF hb26 h
                refine AW.skip ?_
                try simp only [go_sem, Nat.reduceEqDiff, Nat.reduceAdd, Nat.reduceSub, Nat.reduceMul, Nat.reduceLeDiff, Nat.reduceLT, Nat.reduceBEq, reduceIte]
                refine AW.cut [] [(22, .d (slD NodeA.enc p0.kids)), (23, .d (.val (.int .i64 (p0.kids.length : Int)))), (24, .d (.val (.int .i64 i17_0)))] [] (by simp only [go_sem, Nat.reduceEqDiff, Nat.reduceAdd, Nat.reduceSub, Nat.reduceMul, Nat.reduceLeDiff, Nat.reduceLT, Nat.reduceBEq, reduceIte]) ?_
                refine AW.reg mixed (by kernel_rfl) ?_
                try simp only [go_sem, Nat.reduceEqDiff, Nat.reduceAdd, Nat.reduceSub, Nat.reduceMul, Nat.reduceLeDiff, Nat.reduceLT, Nat.reduceBEq, reduceIte]
                refine NextQ.mk (IntKind.wrap .i64 (i17_0 + (1 : Int))) [] h (by simp only [go_sem, Nat.reduceEqDiff, Nat.reduceAdd, Nat.reduceSub, Nat.reduceMul, Nat.reduceLeDiff, Nat.reduceLT, Nat.reduceBEq, reduceIte])
            · have h := ifF hb21 h
              refine AW.exit ?_
              try simp only [go_sem, Nat.reduceEqDiff, Nat.reduceAdd, Nat.reduceSub, Nat.reduceMul, Nat.reduceLeDiff, Nat.reduceLT, Nat.reduceBEq, reduceIte]
              refine JoinQ.mk () [] (Option.some.inj h).symm (by simp only [go_sem, Nat.reduceEqDiff, Nat.reduceAdd, Nat.reduceSub, Nat.reduceMul, Nat.reduceLeDiff, Nat.reduceLT, Nat.reduceBEq, reduceIte])
          · rintro ⟨⟩ rfl
            have h := hJ20
            try dsimp only [Out.fin] at h
            simp only [go_sem, Nat.reduceEqDiff, Nat.reduceAdd, Nat.reduceSub, Nat.reduceMul, Nat.reduceLeDiff, Nat.reduceLT, Nat.reduceBEq, reduceIte]
            refine AW.cut [] [] [] (by simp only [go_sem, Nat.reduceEqDiff, Nat.reduceAdd, Nat.reduceSub, Nat.reduceMul, Nat.reduceLeDiff, Nat.reduceLT, Nat.reduceBEq, reduceIte]) ?_
            refine AW.one ?_
            refine AW.reg mixed (by kernel_rfl) ?_
            try simp only [go_sem, Nat.reduceEqDiff, Nat.reduceAdd, Nat.reduceSub, Nat.reduceMul, Nat.reduceLeDiff, Nat.reduceLT, Nat.reduceBEq, reduceIte]
            refine AW.ret ?_
            obtain rfl := Option.some.inj h
            simp only [go_sem, Nat.reduceEqDiff, Nat.reduceAdd, Nat.reduceSub, Nat.reduceMul, Nat.reduceLeDiff, Nat.reduceLT, Nat.reduceBEq, reduceIte]
            exact .same _
        · have h := ifF hb16 h
          refine AW.skip ?_
          try simp only [go_sem, Nat.reduceEqDiff, Nat.reduceAdd, Nat.reduceSub, Nat.reduceMul, Nat.reduceLeDiff, Nat.reduceLT, Nat.reduceBEq, reduceIte]
          refine AW.cut [] [] [] (by simp only [go_sem, Nat.reduceEqDiff, Nat.reduceAdd, Nat.reduceSub, Nat.reduceMul, Nat.reduceLeDiff, Nat.reduceLT, Nat.reduceBEq, reduceIte]) ?_
          refine AW.one ?_
          refine AW.reg mixed (by kernel_rfl) ?_
          try simp only [go_sem, Nat.reduceEqDiff, Nat.reduceAdd, Nat.reduceSub, Nat.reduceMul, Nat.reduceLeDiff, Nat.reduceLT, Nat.reduceBEq, reduceIte]
          refine AW.ret ?_
          obtain rfl := Option.some.inj h
          simp only [go_sem, Nat.reduceEqDiff, Nat.reduceAdd, Nat.reduceSub, Nat.reduceMul, Nat.reduceLeDiff, Nat.reduceLT, Nat.reduceBEq, reduceIte]
          exact .same _
def tree_differentiable (K : Nat) (p0 : NodeA) : Option Bool := iter K (fun self q => tree_differentiable_body K self q) p0
theorem key_tree_differentiable {K : Nat} (k : Nat) : (∀ (q : NodeA) (r : Bool), iter k (fun self q => tree_differentiable_body K self q) q = some r → Cn Try.prog 78 [aggV q.enc] (.d (.val (.bool r)))) := by
  induction k with
  | zero => exact fun q r h => by cases h
  | succ k ih => exact fun q r h => tree_differentiable_step K _ ih q r h
theorem tree_differentiable_ok {K : Nat} {p0 : NodeA} {r : Bool} (h : tree_differentiable K p0 = some r) : Cn Try.prog 78 [aggV p0.enc] (.d (.val (.bool r))) := (key_tree_differentiable K) p0 r h

end Go.Proofs.Ytcgphoghmgeecaa
namespace Go.Proofs.Ytcgphoghmgeecaa
open Go Go.Iso Go.Proofs
set_option linter.unusedSimpArgs false
set_option linter.unusedVariables false
set_option maxRecDepth 100000

/-! ### isochrone/num.valid -/
def num_valid (K : Nat) (p0 : List Int) (p1 : Int) : Option Bool := if (decide ((p0.length : Int) ≤ p1)) then
    if ((p0.length : Int) == (0 : Int)) then
      some true
    else
      (idx p0 (IntKind.wrap .i64 ((p0.length : Int) - (1 : Int)))).bind fun x3 => 
      some (x3 != (0 : Int))
  else
    some false
set_option maxHeartbeats 4000000 in
theorem num_valid_ok {K : Nat} {p0 : List Int} {p1 : Int} {r : Bool} (h : num_valid K p0 p1 = some r) : Cn Try.prog 95 [.d (slD u32V p0), .d (.val (.int .i64 p1))] (.d (.val (.bool r))) := by
  refine Cn.ofA mixed Try.func95 rfl Try.call95 Try.ntmps95 Try.results95 (by simp) (by simp only [go_sem, Nat.reduceEqDiff, Nat.reduceAdd, Nat.reduceSub, Nat.reduceMul, Nat.reduceLeDiff, Nat.reduceLT, Nat.reduceBEq, reduceIte]) fun hfit => ?_
  unfold num_valid at h
  refine AW.cut [] [(0, .d (slD u32V p0)), (1, .d (.val (.int .i64 p1)))] [] (by simp only [go_sem, Nat.reduceEqDiff, Nat.reduceAdd, Nat.reduceSub, Nat.reduceMul, Nat.reduceLeDiff, Nat.reduceLT, Nat.reduceBEq, reduceIte]) ?_
  refine AW.one ?_
  refine AW.reg mixed (by kernel_rfl) ?_
  try simp only [go_sem, Nat.reduceEqDiff, Nat.reduceAdd, Nat.reduceSub, Nat.reduceMul, Nat.reduceLeDiff, Nat.reduceLT, Nat.reduceBEq, reduceIte]
  refine AW.cut [] [(0, .d (slD u32V p0)), (1, .d (.val (.int .i64 p1)))] [] (by simp only [go_sem, Nat.reduceEqDiff, Nat.reduceAdd, Nat.reduceSub, Nat.reduceMul, Nat.reduceLeDiff, Nat.reduceLT, Nat.reduceBEq, reduceIte]) ?_
  refine AW.one ?_
  refine AW.reg mixed (by kernel_rfl) ?_
  try simp only [go_sem, Nat.reduceEqDiff, Nat.reduceAdd, Nat.reduceSub, Nat.reduceMul, Nat.reduceLeDiff, Nat.reduceLT, Nat.reduceBEq, reduceIte]
  refine splitK_intro (fun hb1 => ?_) (fun hb1 => ?_)
  · have h := ifT hb1 h
    try simp only [go_sem, Nat.reduceEqDiff, Nat.reduceAdd, Nat.reduceSub, Nat.reduceMul, Nat.reduceLeDiff, Nat.reduceLT, Nat.reduceBEq, reduceIte, hb1]
    refine splitK_intro (fun hb2 => ?_) (fun hb2 => ?_)
    · have h := ifT hb2 h
      try simp only [go_sem, Nat.reduceEqDiff, Nat.reduceAdd, Nat.reduceSub, Nat.reduceMul, Nat.reduceLeDiff, Nat.reduceLT, Nat.reduceBEq, reduceIte, hb1, hb2]
      refine AW.ret ?_
      obtain rfl := Option.some.inj h
      simp only [go_sem, Nat.reduceEqDiff, Nat.reduceAdd, Nat.reduceSub, Nat.reduceMul, Nat.reduceLeDiff, Nat.reduceLT, Nat.reduceBEq, reduceIte]
      exact .same _
    · have h := ifF hb2 h
      obtain ⟨x3, hx4, h⟩ := obind h
      try simp only [go_sem, Nat.reduceEqDiff, Nat.reduceAdd, Nat.reduceSub, Nat.reduceMul, Nat.reduceLeDiff, Nat.reduceLT, Nat.reduceBEq, reduceIte, hb1, hb2, (idx_some hx4).1, (idx_some hx4).2]
      refine AW.ret ?_
      obtain rfl := Option.some.inj h
      simp only [go_sem, Nat.reduceEqDiff, Nat.reduceAdd, Nat.reduceSub, Nat.reduceMul, Nat.reduceLeDiff, Nat.reduceLT, Nat.reduceBEq, reduceIte]
      exact .same _
  · have h := ifF hb1 h
    try simp only [go_sem, Nat.reduceEqDiff, Nat.reduceAdd, Nat.reduceSub, Nat.reduceMul, Nat.reduceLeDiff, Nat.reduceLT, Nat.reduceBEq, reduceIte, hb1]
    refine AW.ret ?_
    obtain rfl := Option.some.inj h
    simp only [go_sem, Nat.reduceEqDiff, Nat.reduceAdd, Nat.reduceSub, Nat.reduceMul, Nat.reduceLeDiff, Nat.reduceLT, Nat.reduceBEq, reduceIte]
    exact .same _

end Go.Proofs.Ytcgphoghmgeecaa
namespace Go.Proofs.Ytcgphoghmgeecaa
open Go Go.Iso Go.Proofs
set_option linter.unusedSimpArgs false
set_option linter.unusedVariables false
set_option maxRecDepth 100000

/-! ### isochrone/num.Valid -/
def num_Valid (K : Nat) (p0 : RatA) (p1 : Int) : Option Bool := ((
    ((
      (num_valid K p0.num p1).bind fun r5 => 
      if (!r5) then
        some true
      else
        (num_valid K p0.den p1).bind fun r8 => 
        if (!r8) then
          some true
        else
          some ((p0.den.length : Int) == (0 : Int))) : Option Bool).bind (fun v3_0 => 
    if v3_0 then
      outM (
        some false)
    else
      some (.go ()))) : Option (Out Unit _)).bind (Out.fin fun _ => 
  if ((p0.num.length : Int) == (0 : Int)) then
    if (!p0.neg) then
      if ((p0.den.length : Int) == (1 : Int)) then
        (idx p0.den (0 : Int)).bind fun x15 => 
        some (x15 == (1 : Int))
      else
        some false
    else
      some false
  else
    ((
      ((
        if ((p0.den.length : Int) == (1 : Int)) then
          (idx p0.den (0 : Int)).bind fun x22 => 
          some (x22 == (1 : Int))
        else
          some false) : Option Bool).bind (fun v19_0 => 
      if v19_0 then
        outM (
          some true)
      else
        some (.go ()))) : Option (Out Unit _)).bind (Out.fin fun _ => 
    none))
set_option maxHeartbeats 4000000 in
theorem num_Valid_ok {K : Nat} {p0 : RatA} {p1 : Int} {r : Bool} (h : num_Valid K p0 p1 = some r) : Cn Try.prog 83 [aggV p0.enc, .d (.val (.int .i64 p1))] (.d (.val (.bool r))) := by
  refine Cn.ofA mixed Try.func83 rfl Try.call83 Try.ntmps83 Try.results83 (by simp) (by simp only [go_sem, Nat.reduceEqDiff, Nat.reduceAdd, Nat.reduceSub, Nat.reduceMul, Nat.reduceLeDiff, Nat.reduceLT, Nat.reduceBEq, reduceIte]) fun hfit => ?_
  unfold num_Valid at h
  refine AW.cut [] [(0, .agg [.d (.val (.bool p0.neg)), .d (slD u32V p0.num), .d (slD u32V p0.den)]), (1, .d (.val (.int .i64 p1)))] [] (by simp only [go_sem, Nat.reduceEqDiff, Nat.reduceAdd, Nat.reduceSub, Nat.reduceMul, Nat.reduceLeDiff, Nat.reduceLT, Nat.reduceBEq, reduceIte]) ?_
  refine AW.one ?_
  refine AW.reg mixed (by kernel_rfl) ?_
  try simp only [go_sem, Nat.reduceEqDiff, Nat.reduceAdd, Nat.reduceSub, Nat.reduceMul, Nat.reduceLeDiff, Nat.reduceLT, Nat.reduceBEq, reduceIte]
  refine AW.cut [0] [(1, .d (.val (.int .i64 p1))), (2, .ptr 0 3 0 0)] [some ⟨3, [[.d (.val (.bool p0.neg)), .d (slD u32V p0.num), .d (slD u32V p0.den)]]⟩] (by simp only [go_sem, Nat.reduceEqDiff, Nat.reduceAdd, Nat.reduceSub, Nat.reduceMul, Nat.reduceLeDiff, Nat.reduceLT, Nat.reduceBEq, reduceIte]) ?_
  refine AW.one ?_
  obtain ⟨oJ2, h, hJ2⟩ := obind h
  refine AW.join (S := Unit) (fun _ => [(2, .ptr 0 3 0 0)]) (fun _ => [some ⟨3, [[.d (.val (.bool p0.neg)), .d (slD u32V p0.num), .d (slD u32V p0.den)]]⟩]) (fun x => oJ2 = .go x) ?_ ?_
  · skip
    refine AW.one ?_
    obtain ⟨oJ4, h, hJ4⟩ := obind h
    refine AW.join (S := Bool) (fun v3_0 => [(2, .ptr 0 3 0 0), (23, .d (.val (.bool v3_0)))]) (fun v3_0 => [some ⟨3, [[.d (.val (.bool p0.neg)), .d (slD u32V p0.num), .d (slD u32V p0.den)]]⟩]) (fun x => x = oJ4) ?_ ?_
    · skip
      refine AW.reg mixed (by kernel_rfl) ?_
      try simp only [go_sem, Nat.reduceEqDiff, Nat.reduceAdd, Nat.reduceSub, Nat.reduceMul, Nat.reduceLeDiff, Nat.reduceLT, Nat.reduceBEq, reduceIte]
      obtain ⟨r5, hx6, h⟩ := obind h
      have hc := num_valid_ok (h := hx6)
      try simp only [NodeA.enc_eta, RatA.enc_eta, aggV, i64V, u32V, strV, List.map_cons, List.map_nil] at hc
      refine callK_pure hc (by simp only [go_sem, Nat.reduceEqDiff, Nat.reduceAdd, Nat.reduceSub, Nat.reduceMul, Nat.reduceLeDiff, Nat.reduceLT, Nat.reduceBEq, reduceIte]) ?_
      try simp only [go_sem, Nat.reduceEqDiff, Nat.reduceAdd, Nat.reduceSub, Nat.reduceMul, Nat.reduceLeDiff, Nat.reduceLT, Nat.reduceBEq, reduceIte]
      refine splitK_intro (fun hb7 => ?_) (fun hb7 => ?_)
      · have h := ifT hb7 h
        try simp only [go_sem, Nat.reduceEqDiff, Nat.reduceAdd, Nat.reduceSub, Nat.reduceMul, Nat.reduceLeDiff, Nat.reduceLT, Nat.reduceBEq, reduceIte, hb7]
        refine JoinQ.mk true [0] (Option.some.inj h) (by simp only [go_sem, Nat.reduceEqDiff, Nat.reduceAdd, Nat.reduceSub, Nat.reduceMul, Nat.reduceLeDiff, Nat.reduceLT, Nat.reduceBEq, reduceIte, hb7])
      · have h := ifF hb7 h
        try simp only [go_sem, Nat.reduceEqDiff, Nat.reduceAdd, Nat.reduceSub, Nat.reduceMul, Nat.reduceLeDiff, Nat.reduceLT, Nat.reduceBEq, reduceIte, hb7]
        obtain ⟨r8, hx9, h⟩ := obind h
        have hc := num_valid_ok (h := hx9)
        try simp only [NodeA.enc_eta, RatA.enc_eta, aggV, i64V, u32V, strV, List.map_cons, List.map_nil] at hc
        refine callK_pure hc (by simp only [go_sem, Nat.reduceEqDiff, Nat.reduceAdd, Nat.reduceSub, Nat.reduceMul, Nat.reduceLeDiff, Nat.reduceLT, Nat.reduceBEq, reduceIte]) ?_
        try simp only [go_sem, Nat.reduceEqDiff, Nat.reduceAdd, Nat.reduceSub, Nat.reduceMul, Nat.reduceLeDiff, Nat.reduceLT, Nat.reduceBEq, reduceIte, hb7]
        refine splitK_intro (fun hb10 => ?_) (fun hb10 => ?_)
        · have h := ifT hb10 h
          try simp only [go_sem, Nat.reduceEqDiff, Nat.reduceAdd, Nat.reduceSub, Nat.reduceMul, Nat.reduceLeDiff, Nat.reduceLT, Nat.reduceBEq, reduceIte, hb7, hb10]
          refine JoinQ.mk true [0] (Option.some.inj h) (by simp only [go_sem, Nat.reduceEqDiff, Nat.reduceAdd, Nat.reduceSub, Nat.reduceMul, Nat.reduceLeDiff, Nat.reduceLT, Nat.reduceBEq, reduceIte, hb7, hb10])
        · have h := ifF hb10 h
          try simp only [go_sem, Nat.reduceEqDiff, Nat.reduceAdd, Nat.reduceSub, Nat.reduceMul, Nat.reduceLeDiff, Nat.reduceLT, Nat.reduceBEq, reduceIte, hb7, hb10]
          refine JoinQ.mk ((p0.den.length : Int) == (0 : Int)) [0] (Option.some.inj h) (by simp only [go_sem, Nat.reduceEqDiff, Nat.reduceAdd, Nat.reduceSub, Nat.reduceMul, Nat.reduceLeDiff, Nat.reduceLT, Nat.reduceBEq, reduceIte, hb7, hb10])
    · rintro v3_0 rfl
      have h := hJ4
      try dsimp only [Out.fin] at h
      simp only [go_sem, Nat.reduceEqDiff, Nat.reduceAdd, Nat.reduceSub, Nat.reduceMul, Nat.reduceLeDiff, Nat.reduceLT, Nat.reduceBEq, reduceIte]
      refine AW.test (t := v3_0) (by simp only [go_sem, Nat.reduceEqDiff, Nat.reduceAdd, Nat.reduceSub, Nat.reduceMul, Nat.reduceLeDiff, Nat.reduceLT, Nat.reduceBEq, reduceIte]) (fun hb11 => ?_) (fun hb11 => ?_)
      · have h := ifT hb11 h
        refine AW.one ?_
        refine AW.reg mixed (by kernel_rfl) ?_
        try simp only [go_sem, Nat.reduceEqDiff, Nat.reduceAdd, Nat.reduceSub, Nat.reduceMul, Nat.reduceLeDiff, Nat.reduceLT, Nat.reduceBEq, reduceIte]
        refine AW.ret ?_
        obtain ⟨_, h, ho⟩ := outM_some h
        rw [ho, Out.fin_out] at hJ2
        have h := h.trans hJ2
        obtain rfl := Option.some.inj h
        simp only [go_sem, Nat.reduceEqDiff, Nat.reduceAdd, Nat.reduceSub, Nat.reduceMul, Nat.reduceLeDiff, Nat.reduceLT, Nat.reduceBEq, reduceIte]
        exact .same _
      · have h := ifF hb11 h
        refine AW.skip ?_
        try simp only [go_sem, Nat.reduceEqDiff, Nat.reduceAdd, Nat.reduceSub, Nat.reduceMul, Nat.reduceLeDiff, Nat.reduceLT, Nat.reduceBEq, reduceIte]
        refine JoinQ.mk () [0] (Option.some.inj h).symm (by simp only [go_sem, Nat.reduceEqDiff, Nat.reduceAdd, Nat.reduceSub, Nat.reduceMul, Nat.reduceLeDiff, Nat.reduceLT, Nat.reduceBEq, reduceIte])
  · rintro ⟨⟩ rfl
    have h := hJ2
    try dsimp only [Out.fin] at h
    simp only [go_sem, Nat.reduceEqDiff, Nat.reduceAdd, Nat.reduceSub, Nat.reduceMul, Nat.reduceLeDiff, Nat.reduceLT, Nat.reduceBEq, reduceIte]
    refine AW.one ?_
    refine AW.one ?_
    refine AW.reg mixed (by kernel_rfl) ?_
    try simp only [go_sem, Nat.reduceEqDiff, Nat.reduceAdd, Nat.reduceSub, Nat.reduceMul, Nat.reduceLeDiff, Nat.reduceLT, Nat.reduceBEq, reduceIte]
    refine AW.cut [0] [(2, .ptr 0 3 0 0), (27, .d (.val (.bool ((p0.num.length : Int) == (0 : Int)))))] [some ⟨3, [[.d (.val (.bool p0.neg)), .d (slD u32V p0.num), .d (slD u32V p0.den)]]⟩] (by simp only [go_sem, Nat.reduceEqDiff, Nat.reduceAdd, Nat.reduceSub, Nat.reduceMul, Nat.reduceLeDiff, Nat.reduceLT, Nat.reduceBEq, reduceIte]) ?_
    refine AW.test (t := ((p0.num.length : Int) == (0 : Int))) (by simp only [go_sem, Nat.reduceEqDiff, Nat.reduceAdd, Nat.reduceSub, Nat.reduceMul, Nat.reduceLeDiff, Nat.reduceLT, Nat.reduceBEq, reduceIte]) (fun hb12 => ?_) (fun hb12 => ?_)
    · have h := ifT hb12 h
      refine AW.one ?_
      refine AW.reg mixed (by kernel_rfl) ?_
      try simp only [go_sem, Nat.reduceEqDiff, Nat.reduceAdd, Nat.reduceSub, Nat.reduceMul, Nat.reduceLeDiff, Nat.reduceLT, Nat.reduceBEq, reduceIte]
      refine splitK_intro (fun hb13 => ?_) (fun hb13 => ?_)
      · have h := ifT hb13 h
        try simp only [go_sem, Nat.reduceEqDiff, Nat.reduceAdd, Nat.reduceSub, Nat.reduceMul, Nat.reduceLeDiff, Nat.reduceLT, Nat.reduceBEq, reduceIte, hb13]
        refine splitK_intro (fun hb14 => ?_) (fun hb14 => ?_)
        · have h := ifT hb14 h
          obtain ⟨x15, hx16, h⟩ := obind h
          try simp only [go_sem, Nat.reduceEqDiff, Nat.reduceAdd, Nat.reduceSub, Nat.reduceMul, Nat.reduceLeDiff, Nat.reduceLT, Nat.reduceBEq, reduceIte, hb13, hb14, (idx_some hx16).1, (idx_some hx16).2]
          refine AW.ret ?_
          obtain rfl := Option.some.inj h
          simp only [go_sem, Nat.reduceEqDiff, Nat.reduceAdd, Nat.reduceSub, Nat.reduceMul, Nat.reduceLeDiff, Nat.reduceLT, Nat.reduceBEq, reduceIte]
          exact .same _
        · have h := ifF hb14 h
          try simp only [go_sem, Nat.reduceEqDiff, Nat.reduceAdd, Nat.reduceSub, Nat.reduceMul, Nat.reduceLeDiff, Nat.reduceLT, Nat.reduceBEq, reduceIte, hb13, hb14]
          refine AW.ret ?_
          obtain rfl := Option.some.inj h
          simp only [go_sem, Nat.reduceEqDiff, Nat.reduceAdd, Nat.reduceSub, Nat.reduceMul, Nat.reduceLeDiff, Nat.reduceLT, Nat.reduceBEq, reduceIte]
          exact .same _
      · have h := ifF hb13 h
        try simp only [go_sem, Nat.reduceEqDiff, Nat.reduceAdd, Nat.reduceSub, Nat.reduceMul, Nat.reduceLeDiff, Nat.reduceLT, Nat.reduceBEq, reduceIte, hb13]
        refine AW.ret ?_
        obtain rfl := Option.some.inj h
        simp only [go_sem, Nat.reduceEqDiff, Nat.reduceAdd, Nat.reduceSub, Nat.reduceMul, Nat.reduceLeDiff, Nat.reduceLT, Nat.reduceBEq, reduceIte]
        exact .same _
    · have h := ifF hb12 h
      refine AW.skip ?_
      try simp only [go_sem, Nat.reduceEqDiff, Nat.reduceAdd, Nat.reduceSub, Nat.reduceMul, Nat.reduceLeDiff, Nat.reduceLT, Nat.reduceBEq, reduceIte]
      refine AW.cut [0] [(2, .ptr 0 3 0 0)] [some ⟨3, [[.d (.val (.bool p0.neg)), .d (slD u32V p0.num), .d (slD u32V p0.den)]]⟩] (by simp only [go_sem, Nat.reduceEqDiff, Nat.reduceAdd, Nat.reduceSub, Nat.reduceMul, Nat.reduceLeDiff, Nat.reduceLT, Nat.reduceBEq, reduceIte]) ?_
      refine AW.one ?_
      obtain ⟨oJ18, h, hJ18⟩ := obind h
      refine AW.join (S := Unit) (fun _ => [(2, .ptr 0 3 0 0)]) (fun _ => [some ⟨3, [[.d (.val (.bool p0.neg)), .d (slD u32V p0.num), .d (slD u32V p0.den)]]⟩]) (fun x => oJ18 = .go x) ?_ ?_
      · skip
        refine AW.one ?_
        obtain ⟨oJ20, h, hJ20⟩ := obind h
        refine AW.join (S := Bool) (fun v19_0 => [(2, .ptr 0 3 0 0), (54, .d (.val (.bool v19_0)))]) (fun v19_0 => [some ⟨3, [[.d (.val (.bool p0.neg)), .d (slD u32V p0.num), .d (slD u32V p0.den)]]⟩]) (fun x => x = oJ20) ?_ ?_
        · skip
          refine AW.reg mixed (by kernel_rfl) ?_
          try simp only [go_sem, Nat.reduceEqDiff, Nat.reduceAdd, Nat.reduceSub, Nat.reduceMul, Nat.reduceLeDiff, Nat.reduceLT, Nat.reduceBEq, reduceIte]
          refine splitK_intro (fun hb21 => ?_) (fun hb21 => ?_)
          · have h := ifT hb21 h
            obtain ⟨x22, hx23, h⟩ := obind h
            try simp only [go_sem, Nat.reduceEqDiff, Nat.reduceAdd, Nat.reduceSub, Nat.reduceMul, Nat.reduceLeDiff, Nat.reduceLT, Nat.reduceBEq, reduceIte, hb21, (idx_some hx23).1, (idx_some hx23).2]
            refine JoinQ.mk (x22 == (1 : Int)) [0] (Option.some.inj h) (by simp only [go_sem, Nat.reduceEqDiff, Nat.reduceAdd, Nat.reduceSub, Nat.reduceMul, Nat.reduceLeDiff, Nat.reduceLT, Nat.reduceBEq, reduceIte, hb21, (idx_some hx23).1, (idx_some hx23).2])
          · have h := ifF hb21 h
            try simp only [go_sem, Nat.reduceEqDiff, Nat.reduceAdd, Nat.reduceSub, Nat.reduceMul, Nat.reduceLeDiff, Nat.reduceLT, Nat.reduceBEq, reduceIte, hb21]
            refine JoinQ.mk false [0] (Option.some.inj h) (by simp only [go_sem, Nat.reduceEqDiff, Nat.reduceAdd, Nat.reduceSub, Nat.reduceMul, Nat.reduceLeDiff, Nat.reduceLT, Nat.reduceBEq, reduceIte, hb21])
        · rintro v19_0 rfl
          have h := hJ20
          try dsimp only [Out.fin] at h
          simp only [go_sem, Nat.reduceEqDiff, Nat.reduceAdd, Nat.reduceSub, Nat.reduceMul, Nat.reduceLeDiff, Nat.reduceLT, Nat.reduceBEq, reduceIte]
          refine AW.test (t := v19_0) (by simp only [go_sem, Nat.reduceEqDiff, Nat.reduceAdd, Nat.reduceSub, Nat.reduceMul, Nat.reduceLeDiff, Nat.reduceLT, Nat.reduceBEq, reduceIte]) (fun hb24 => ?_) (fun hb24 => ?_)
          · have h := ifT hb24 h
            refine AW.one ?_
            refine AW.reg mixed (by kernel_rfl) ?_
            try simp only [go_sem, Nat.reduceEqDiff, Nat.reduceAdd, Nat.reduceSub, Nat.reduceMul, Nat.reduceLeDiff, Nat.reduceLT, Nat.reduceBEq, reduceIte]
            refine AW.ret ?_
            obtain ⟨_, h, ho⟩ := outM_some h
            rw [ho, Out.fin_out] at hJ18
            have h := h.trans hJ18
            obtain rfl := Option.some.inj h
            simp only [go_sem, Nat.reduceEqDiff, Nat.reduceAdd, Nat.reduceSub, Nat.reduceMul, Nat.reduceLeDiff, Nat.reduceLT, Nat.reduceBEq, reduceIte]
            exact .same _
          · have h := ifF hb24 h
            refine AW.skip ?_
            try simp only [go_sem, Nat.reduceEqDiff, Nat.reduceAdd, Nat.reduceSub, Nat.reduceMul, Nat.reduceLeDiff, Nat.reduceLT, Nat.reduceBEq, reduceIte]
            refine JoinQ.mk () [0] (Option.some.inj h).symm (by simp only [go_sem, Nat.reduceEqDiff, Nat.reduceAdd, Nat.reduceSub, Nat.reduceMul, Nat.reduceLeDiff, Nat.reduceLT, Nat.reduceBEq, reduceIte])
      · rintro ⟨⟩ rfl
        have h := hJ18
        try dsimp only [Out.fin] at h
        simp only [go_sem, Nat.reduceEqDiff, Nat.reduceAdd, Nat.reduceSub, Nat.reduceMul, Nat.reduceLeDiff, Nat.reduceLT, Nat.reduceBEq, reduceIte]
        refine AW.one ?_
        refine AW.reg mixed (by kernel_rfl) ?_
        cases h

end Go.Proofs.Ytcgphoghmgeecaa
namespace Go.Proofs.Ytcgphoghmgeecaa
open Go Go.Iso Go.Proofs
set_option linter.unusedSimpArgs false
set_option linter.unusedVariables false
set_option maxRecDepth 100000

/-! ### isochrone/rat.Valid -/
def rat_Valid (K : Nat) (p0 : RatA) : Option Bool := (num_Valid K p0 (4096 : Int)).bind fun r1 => 
  some r1
set_option maxHeartbeats 4000000 in
theorem rat_Valid_ok {K : Nat} {p0 : RatA} {r : Bool} (h : rat_Valid K p0 = some r) : Cn Try.prog 80 [aggV p0.enc] (.d (.val (.bool r))) := by
  refine Cn.ofA mixed Try.func80 rfl Try.call80 Try.ntmps80 Try.results80 (by simp) (by simp only [go_sem, Nat.reduceEqDiff, Nat.reduceAdd, Nat.reduceSub, Nat.reduceMul, Nat.reduceLeDiff, Nat.reduceLT, Nat.reduceBEq, reduceIte]) fun hfit => ?_
  unfold rat_Valid at h
  refine AW.cut [] [(0, .agg [.d (.val (.bool p0.neg)), .d (slD u32V p0.num), .d (slD u32V p0.den)])] [] (by simp only [go_sem, Nat.reduceEqDiff, Nat.reduceAdd, Nat.reduceSub, Nat.reduceMul, Nat.reduceLeDiff, Nat.reduceLT, Nat.reduceBEq, reduceIte]) ?_
  refine AW.one ?_
  refine AW.reg mixed (by kernel_rfl) ?_
  try simp only [go_sem, Nat.reduceEqDiff, Nat.reduceAdd, Nat.reduceSub, Nat.reduceMul, Nat.reduceLeDiff, Nat.reduceLT, Nat.reduceBEq, reduceIte]
  refine AW.cut [0] [(1, .ptr 0 3 0 0)] [some ⟨3, [[.d (.val (.bool p0.neg)), .d (slD u32V p0.num), .d (slD u32V p0.den)]]⟩] (by simp only [go_sem, Nat.reduceEqDiff, Nat.reduceAdd, Nat.reduceSub, Nat.reduceMul, Nat.reduceLeDiff, Nat.reduceLT, Nat.reduceBEq, reduceIte]) ?_
  refine AW.one ?_
  refine AW.reg mixed (by kernel_rfl) ?_
  try simp only [go_sem, Nat.reduceEqDiff, Nat.reduceAdd, Nat.reduceSub, Nat.reduceMul, Nat.reduceLeDiff, Nat.reduceLT, Nat.reduceBEq, reduceIte]
  obtain ⟨r1, hx2, h⟩ := obind h
  have hc := num_Valid_ok (h := hx2)
  try simp only [NodeA.enc_eta, RatA.enc_eta, aggV, i64V, u32V, strV, List.map_cons, List.map_nil] at hc
  refine callK_pure hc (by simp only [go_sem, Nat.reduceEqDiff, Nat.reduceAdd, Nat.reduceSub, Nat.reduceMul, Nat.reduceLeDiff, Nat.reduceLT, Nat.reduceBEq, reduceIte]) ?_
  try simp only [go_sem, Nat.reduceEqDiff, Nat.reduceAdd, Nat.reduceSub, Nat.reduceMul, Nat.reduceLeDiff, Nat.reduceLT, Nat.reduceBEq, reduceIte]
  refine AW.ret ?_
  obtain rfl := Option.some.inj h
  simp only [go_sem, Nat.reduceEqDiff, Nat.reduceAdd, Nat.reduceSub, Nat.reduceMul, Nat.reduceLeDiff, Nat.reduceLT, Nat.reduceBEq, reduceIte]
  exact .same _

end Go.Proofs.Ytcgphoghmgeecaa
namespace Go.Proofs.Ytcgphoghmgeecaa
open Go Go.Iso Go.Proofs
set_option linter.unusedSimpArgs false
set_option linter.unusedVariables false
set_option maxRecDepth 100000

/-! ### isochrone/tree.natural -/
def tree_natural (K : Nat) (p0 : RatA) : Option Bool := if (!p0.neg) then
    if ((p0.den.length : Int) == (1 : Int)) then
      (idx p0.den (0 : Int)).bind fun x3 => 
      if (x3 == (1 : Int)) then
        if (decide ((p0.num.length : Int) ≤ (20 : Int))) then
          (rat_Valid K p0).bind fun r7 => 
          some r7
        else
          some false
      else
        some false
    else
      some false
  else
    some false
set_option maxHeartbeats 4000000 in
theorem tree_natural_ok {K : Nat} {p0 : RatA} {r : Bool} (h : tree_natural K p0 = some r) : Cn Try.prog 76 [aggV p0.enc] (.d (.val (.bool r))) := by
  refine Cn.ofA mixed Try.func76 rfl Try.call76 Try.ntmps76 Try.results76 (by simp) (by simp only [go_sem, Nat.reduceEqDiff, Nat.reduceAdd, Nat.reduceSub, Nat.reduceMul, Nat.reduceLeDiff, Nat.reduceLT, Nat.reduceBEq, reduceIte]) fun hfit => ?_
  unfold tree_natural at h
  refine AW.cut [] [(0, .agg [.d (.val (.bool p0.neg)), .d (slD u32V p0.num), .d (slD u32V p0.den)])] [] (by simp only [go_sem, Nat.reduceEqDiff, Nat.reduceAdd, Nat.reduceSub, Nat.reduceMul, Nat.reduceLeDiff, Nat.reduceLT, Nat.reduceBEq, reduceIte]) ?_
  refine AW.one ?_
  refine AW.reg mixed (by kernel_rfl) ?_
  try simp only [go_sem, Nat.reduceEqDiff, Nat.reduceAdd, Nat.reduceSub, Nat.reduceMul, Nat.reduceLeDiff, Nat.reduceLT, Nat.reduceBEq, reduceIte]
  refine AW.cut [0] [(1, .ptr 0 3 0 0)] [some ⟨3, [[.d (.val (.bool p0.neg)), .d (slD u32V p0.num), .d (slD u32V p0.den)]]⟩] (by simp only [go_sem, Nat.reduceEqDiff, Nat.reduceAdd, Nat.reduceSub, Nat.reduceMul, Nat.reduceLeDiff, Nat.reduceLT, Nat.reduceBEq, reduceIte]) ?_
  refine AW.one ?_
  refine AW.reg mixed (by kernel_rfl) ?_
  try simp only [go_sem, Nat.reduceEqDiff, Nat.reduceAdd, Nat.reduceSub, Nat.reduceMul, Nat.reduceLeDiff, Nat.reduceLT, Nat.reduceBEq, reduceIte]
  refine splitK_intro (fun hb1 => ?_) (fun hb1 => ?_)
  · have h := ifT hb1 h
    try simp only [go_sem, Nat.reduceEqDiff, Nat.reduceAdd, Nat.reduceSub, Nat.reduceMul, Nat.reduceLeDiff, Nat.reduceLT, Nat.reduceBEq, reduceIte, hb1]
    refine splitK_intro (fun hb2 => ?_) (fun hb2 => ?_)
    · have h := ifT hb2 h
      obtain ⟨x3, hx4, h⟩ := obind h
      try simp only [go_sem, Nat.reduceEqDiff, Nat.reduceAdd, Nat.reduceSub, Nat.reduceMul, Nat.reduceLeDiff, Nat.reduceLT, Nat.reduceBEq, reduceIte, hb1, hb2, (idx_some hx4).1, (idx_some hx4).2]
      refine splitK_intro (fun hb5 => ?_) (fun hb5 => ?_)
      · have h := ifT hb5 h
        try simp only [go_sem, Nat.reduceEqDiff, Nat.reduceAdd, Nat.reduceSub, Nat.reduceMul, Nat.reduceLeDiff, Nat.reduceLT, Nat.reduceBEq, reduceIte, hb1, hb2, (idx_some hx4).1, (idx_some hx4).2, hb5]
        refine splitK_intro (fun hb6 => ?_) (fun hb6 => ?_)
        · have h := ifT hb6 h
          try simp only [go_sem, Nat.reduceEqDiff, Nat.reduceAdd, Nat.reduceSub, Nat.reduceMul, Nat.reduceLeDiff, Nat.reduceLT, Nat.reduceBEq, reduceIte, hb1, hb2, (idx_some hx4).1, (idx_some hx4).2, hb5, hb6]
          obtain ⟨r7, hx8, h⟩ := obind h
          have hc := rat_Valid_ok (h := hx8)
          try simp only [NodeA.enc_eta, RatA.enc_eta, aggV, i64V, u32V, strV, List.map_cons, List.map_nil] at hc
          refine callK_pure hc (by simp only [go_sem, Nat.reduceEqDiff, Nat.reduceAdd, Nat.reduceSub, Nat.reduceMul, Nat.reduceLeDiff, Nat.reduceLT, Nat.reduceBEq, reduceIte]) ?_
          try simp only [go_sem, Nat.reduceEqDiff, Nat.reduceAdd, Nat.reduceSub, Nat.reduceMul, Nat.reduceLeDiff, Nat.reduceLT, Nat.reduceBEq, reduceIte, hb1, hb2, (idx_some hx4).1, (idx_some hx4).2, hb5, hb6]
          refine AW.ret ?_
          obtain rfl := Option.some.inj h
          simp only [go_sem, Nat.reduceEqDiff, Nat.reduceAdd, Nat.reduceSub, Nat.reduceMul, Nat.reduceLeDiff, Nat.reduceLT, Nat.reduceBEq, reduceIte]
          exact .same _
        · have h := ifF hb6 h
          try simp only [go_sem, Nat.reduceEqDiff, Nat.reduceAdd, Nat.reduceSub, Nat.reduceMul, Nat.reduceLeDiff, Nat.reduceLT, Nat.reduceBEq, reduceIte, hb1, hb2, (idx_some hx4).1, (idx_some hx4).2, hb5, hb6]
          refine AW.ret ?_
          obtain rfl := Option.some.inj h
          simp only [go_sem, Nat.reduceEqDiff, Nat.reduceAdd, Nat.reduceSub, Nat.reduceMul, Nat.reduceLeDiff, Nat.reduceLT, Nat.reduceBEq, reduceIte]
          exact .same _
      · have h := ifF hb5 h
        try simp only [go_sem, Nat.reduceEqDiff, Nat.reduceAdd, Nat.reduceSub, Nat.reduceMul, Nat.reduceLeDiff, Nat.reduceLT, Nat.reduceBEq, reduceIte, hb1, hb2, (idx_some hx4).1, (idx_some hx4).2, hb5]
        refine AW.ret ?_
        obtain rfl := Option.some.inj h
        simp only [go_sem, Nat.reduceEqDiff, Nat.reduceAdd, Nat.reduceSub, Nat.reduceMul, Nat.reduceLeDiff, Nat.reduceLT, Nat.reduceBEq, reduceIte]
        exact .same _
    · have h := ifF hb2 h
      try simp only [go_sem, Nat.reduceEqDiff, Nat.reduceAdd, Nat.reduceSub, Nat.reduceMul, Nat.reduceLeDiff, Nat.reduceLT, Nat.reduceBEq, reduceIte, hb1, hb2]
      refine AW.ret ?_
      obtain rfl := Option.some.inj h
      simp only [go_sem, Nat.reduceEqDiff, Nat.reduceAdd, Nat.reduceSub, Nat.reduceMul, Nat.reduceLeDiff, Nat.reduceLT, Nat.reduceBEq, reduceIte]
      exact .same _
  · have h := ifF hb1 h
    try simp only [go_sem, Nat.reduceEqDiff, Nat.reduceAdd, Nat.reduceSub, Nat.reduceMul, Nat.reduceLeDiff, Nat.reduceLT, Nat.reduceBEq, reduceIte, hb1]
    refine AW.ret ?_
    obtain rfl := Option.some.inj h
    simp only [go_sem, Nat.reduceEqDiff, Nat.reduceAdd, Nat.reduceSub, Nat.reduceMul, Nat.reduceLeDiff, Nat.reduceLT, Nat.reduceBEq, reduceIte]
    exact .same _

end Go.Proofs.Ytcgphoghmgeecaa
