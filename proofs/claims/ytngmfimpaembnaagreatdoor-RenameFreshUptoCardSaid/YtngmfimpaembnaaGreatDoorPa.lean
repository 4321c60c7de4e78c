/- Part of the proof of a law: contracts of the functions that the law reaches, or plain laws of them, out of the abstract layer (the texts YtngmfimpaembnaaGreatDoorIso..). No condition. -/
import Derived.Test.YtngmfimpaembnaaGreatDoorW
import Derived.Test.YtngmfimpaembnaaGreatDoorIsoI
import Derived.Test.YtngmfimpaembnaaGreatDoorLman
import Derived.Test.YtngmfimpaembnaaGreatDoorShelf
import Derived.Test.YtngmfimpaembnaaGreatDoorIsoU
import Derived.Test.YtngmfimpaembnaaGreatDoorIsoQ
open Nat (reduceEqDiff reduceAdd reduceSub reduceMul reduceLeDiff reduceLT)
namespace Go.Proofs.YtngmfimpaembnaaGreatDoor
open Go Go.Iso Go.Proofs
set_option linter.unusedSimpArgs false
set_option linter.unusedVariables false
set_option maxRecDepth 100000
/-! ### isochrone/isochroneref08.less -/
def r08_less (K : Nat) (p0 : Int) (p1 : Int) : Option Int := if (decide (p0 < p1)) then
    some (-1 : Int)
  else
    if (decide (p1 < p0)) then
      some (1 : Int)
    else
      some (0 : Int)
set_option maxHeartbeats 4000000 in
theorem r08_less_ok {K : Nat} {p0 : Int} {p1 : Int} {r : Int} (h : r08_less K p0 p1 = some r) : Cn Tryz.prog 81 [.d (.val (.int .i64 p0)), .d (.val (.int .i64 p1))] (.d (.val (.int .i64 r))) := by
  refine Cn.ofA mixed Tryz.func81 rfl Tryz.call81 Tryz.ntmps81 Tryz.results81 (by simp) (by simp only [go_sem, reduceEqDiff, reduceAdd, reduceSub, reduceMul, reduceLeDiff, reduceLT, Nat.reduceBEq, reduceIte]) fun hfit => ?_
  unfold r08_less at h
  refine AW.kp [] [0, 1] ?_
  refine AW.op mixed ?_
  refine AW.kp [] [0, 1] ?_
  refine AW.one ?_
  refine AW.op mixed ?_
  refine AW.kp [] [0, 1, 7] ?_
  refine AW.ts (decide (p0 < p1)) (fun hb1 => ?_) (fun hb1 => ?_)
  · have h := ifT hb1 h
    refine AW.op mixed ?_
    refine AW.ret ?_
    obtain rfl := Option.some.inj h
    refine nz ?_
    exact .same _
  have h := ifF hb1 h
  refine AW.sk ?_
  refine AW.kp [] [0, 1] ?_
  refine AW.one ?_
  refine AW.op mixed ?_
  refine AW.kp [] [10] ?_
  refine AW.ts (decide (p1 < p0)) (fun hb2 => ?_) (fun hb2 => ?_)
  · have h := ifT hb2 h
    refine AW.op mixed ?_
    refine AW.ret ?_
    obtain rfl := Option.some.inj h
    refine nz ?_
    exact .same _
  have h := ifF hb2 h
  refine AW.sk ?_
  refine AW.kp [] [] ?_
  refine AW.op mixed ?_
  refine AW.ret ?_
  obtain rfl := Option.some.inj h
  refine nz ?_
  exact .same _
/-! ### isochrone/isochroneref08.words -/
def r08_words (K : Nat) (p0 : List Int) (p1 : List Int) : Option Int := if ((p0.length : Int) != (p1.length : Int)) then
    if (decide ((p0.length : Int) < (p1.length : Int))) then
      some (-1 : Int)
    else
      some (1 : Int)
  else
    ((iter (S := Int) (R := Out Unit _) K (fun again i3_0 => 
      if (decide ((0 : Int) ≤ i3_0)) then
        (idx p0 i3_0).bind fun x8 => 
        (idx p1 i3_0).bind fun x10 => 
        if (x8 != x10) then
          if (decide (x8 < x10)) then
            outM (
              some (-1 : Int))
          else
            outM (
              some (1 : Int))
        else
          again (IntKind.wrap .i64 (i3_0 - (1 : Int)))
      else
        some (.go ())) (IntKind.wrap .i64 ((p0.length : Int) - (1 : Int)))) : Option (Out Unit _)).bind (Out.fin fun _ => 
    some (0 : Int))
set_option maxHeartbeats 4000000 in
theorem r08_words_ok {K : Nat} {p0 : List Int} {p1 : List Int} {r : Int} (h : r08_words K p0 p1 = some r) : Cn Tryz.prog 82 [.d (slD u32V p0), .d (slD u32V p1)] (.d (.val (.int .i64 r))) := by
  refine Cn.ofA mixed Tryz.func82 rfl Tryz.call82 Tryz.ntmps82 Tryz.results82 (by simp) (by simp only [go_sem, reduceEqDiff, reduceAdd, reduceSub, reduceMul, reduceLeDiff, reduceLT, Nat.reduceBEq, reduceIte]) fun hfit => ?_
  unfold r08_words at h
  refine AW.kp [] [0, 1] ?_
  refine AW.op mixed ?_
  refine AW.kp [] [0, 1] ?_
  refine AW.one ?_
  refine AW.op mixed ?_
  refine AW.kp [] [0, 1, 10] ?_
  refine AW.ts ((p0.length : Int) != (p1.length : Int)) (fun hb1 => ?_) (fun hb1 => ?_)
  · have h := ifT hb1 h
    refine AW.one ?_
    refine AW.op mixed ?_
    refine AW.kp [] [15] ?_
    refine AW.ts (decide ((p0.length : Int) < (p1.length : Int))) (fun hb2 => ?_) (fun hb2 => ?_)
    · have h := ifT hb2 h
      refine AW.op mixed ?_
      refine AW.ret ?_
      obtain rfl := Option.some.inj h
      refine nz ?_
      exact .same _
    have h := ifF hb2 h
    refine AW.sk ?_
    refine AW.kp [] [] ?_
    refine AW.op mixed ?_
    refine AW.ret ?_
    obtain rfl := Option.some.inj h
    refine nz ?_
    exact .same _
  have h := ifF hb1 h
  refine AW.sk ?_
  refine AW.kp [] [0, 1] ?_
  refine AW.one ?_
  refine AW.op mixed ?_
  refine AW.kp [] [0, 1, 5] ?_
  refine obindE h fun oJ6 h hJ6 => ?_
  refine AW.join (S := Unit) (fun _ => []) (fun _ => []) (fun x => oJ6 = .go x) ?_ ?_
  · refine AW.block ?_
    refine AW.iter (S := Int) (fun i3_0 => [(0, .d (slD u32V p0)), (1, .d (slD u32V p1)), (5, .d (.val (.int .i64 i3_0)))]) (fun i3_0 => []) [] h (by simp only [go_sem, reduceEqDiff, reduceAdd, reduceSub, reduceMul, reduceLeDiff, reduceLT, Nat.reduceBEq, reduceIte]) ?_
    rintro again i3_0 h
    try dsimp only at h
    refine AW.one ?_
    refine AW.op mixed ?_
    refine AW.kp [] [0, 1, 5, 20] ?_
    refine AW.ts (decide ((0 : Int) ≤ i3_0)) (fun hb7 => ?_) (fun hb7 => ?_)
    · have h := ifT hb7 h
      refine AW.sk ?_
      refine AW.kp [] [0, 1, 5] ?_
      refine AW.one ?_
      refine AW.block ?_
      refine AW.one ?_
      refine AW.reg mixed (by kernel_rfl) ?_
      apply obindE h; intro x8 hx9 h
      apply obindE h; intro x10 hx11 h
      try simp only [go_sem, reduceEqDiff, reduceAdd, reduceSub, reduceMul, reduceLeDiff, reduceLT, Nat.reduceBEq, reduceIte, (idx_some hx9).1, (idx_some hx9).2, (idx_some hx11).1, (idx_some hx11).2]
      refine AW.cut [] [(0, .d (slD u32V p0)), (1, .d (slD u32V p1)), (5, .d (.val (.int .i64 i3_0))), (31, .d (.val (.bool (x8 != x10))))] [] (by simp only [go_sem, reduceEqDiff, reduceAdd, reduceSub, reduceMul, reduceLeDiff, reduceLT, Nat.reduceBEq, reduceIte, (idx_some hx9).1, (idx_some hx9).2, (idx_some hx11).1, (idx_some hx11).2]) ?_
      refine AW.ts (x8 != x10) (fun hb12 => ?_) (fun hb12 => ?_)
      · have h := ifT hb12 h
        refine AW.one ?_
        refine AW.one ?_
        refine AW.reg mixed (by kernel_rfl) ?_
        try simp only [go_sem, reduceEqDiff, reduceAdd, reduceSub, reduceMul, reduceLeDiff, reduceLT, Nat.reduceBEq, reduceIte, (idx_some hx9).1, (idx_some hx9).2, (idx_some hx11).1, (idx_some hx11).2]
        refine AW.cut [] [(40, .d (.val (.bool (decide (x8 < x10)))))] [] (by simp only [go_sem, reduceEqDiff, reduceAdd, reduceSub, reduceMul, reduceLeDiff, reduceLT, Nat.reduceBEq, reduceIte, (idx_some hx9).1, (idx_some hx9).2, (idx_some hx11).1, (idx_some hx11).2]) ?_
        refine AW.ts (decide (x8 < x10)) (fun hb13 => ?_) (fun hb13 => ?_)
        · have h := ifT hb13 h
          refine AW.op mixed ?_
          refine AW.ret ?_
          obtain ⟨_, h, ho⟩ := outM_some h
          rw [ho, Out.fin_out] at hJ6
          have h := h.trans hJ6
          obtain rfl := Option.some.inj h
          refine nz ?_
          exact .same _
        have h := ifF hb13 h
        refine AW.sk ?_
        refine AW.kp [] [] ?_
        refine AW.op mixed ?_
        refine AW.ret ?_
        obtain ⟨_, h, ho⟩ := outM_some h
        rw [ho, Out.fin_out] at hJ6
        have h := h.trans hJ6
        obtain rfl := Option.some.inj h
        refine nz ?_
        exact .same _
      have h := ifF hb12 h
      refine AW.sk ?_
      refine AW.kp [] [0, 1, 5] ?_
      refine AW.rg mixed ?_
      exact NextQ.ar (IntKind.wrap .i64 (i3_0 - (1 : Int))) [] h
    have h := ifF hb7 h
    refine AW.ex ?_
    exact JoinQ.ar () [] (Option.some.inj h).symm
  rintro ⟨⟩ rfl
  have h := hJ6
  try dsimp only [Out.fin] at h
  refine nz ?_
  refine AW.kp [] [] ?_
  refine AW.op mixed ?_
  refine AW.ret ?_
  obtain rfl := Option.some.inj h
  refine nz ?_
  exact .same _
/-! ### isochrone/isochroneref08.Compare -/
def r08_Compare_body (K : Nat) (self42 : (NodeA × NodeA) → Option Int) (p0 : NodeA) (p1 : NodeA) : Option Int := (r08_less K p0.op p1.op).bind fun r1 => 
  if (r1 != (0 : Int)) then
    some r1
  else
    if (!(p0.name.toList == p1.name.toList)) then
      if (Op.bytesLess p0.name.toList p1.name.toList) then
        some (-1 : Int)
      else
        some (1 : Int)
    else
      if (!(p0.num.neg == p1.num.neg)) then
        if p1.num.neg then
          some (-1 : Int)
        else
          some (1 : Int)
      else
        (r08_words K p0.num.num p1.num.num).bind fun r8 => 
        if (r8 != (0 : Int)) then
          some r8
        else
          (r08_words K p0.num.den p1.num.den).bind fun r11 => 
          if (r11 != (0 : Int)) then
            some r11
          else
            (r08_less K (p0.kids.length : Int) (p1.kids.length : Int)).bind fun r14 => 
            if (r14 != (0 : Int)) then
              some r14
            else
              ((iter (S := Int) (R := Out Unit _) K (fun again i17_0 => 
                if (decide (i17_0 < (p0.kids.length : Int))) then
                  (idx p0.kids i17_0).bind fun x22 => 
                  (idx p1.kids i17_0).bind fun x24 => 
                  (self42 (x22, x24)).bind fun r26 => 
                  if (r26 != (0 : Int)) then
                    outM (
                      some r26)
                  else
                    again (IntKind.wrap .i64 (i17_0 + (1 : Int)))
                else
                  some (.go ())) (0 : Int)) : Option (Out Unit _)).bind (Out.fin fun _ => 
              some (0 : Int))
set_option maxHeartbeats 4000000 in
theorem r08_Compare_step (K : Nat) (self42 : (NodeA × NodeA) → Option Int) (hself42 : ∀ (q : NodeA × NodeA) (r : Int), self42 q = some r → Cn Tryz.prog 42 [aggV q.1.enc, aggV q.2.enc] (.d (.val (.int .i64 r)))) (p0 : NodeA) (p1 : NodeA) (r : Int) (h : r08_Compare_body K self42 p0 p1 = some r) : Cn Tryz.prog 42 [aggV p0.enc, aggV p1.enc] (.d (.val (.int .i64 r))) := by
  refine Cn.ofA mixed Tryz.func42 rfl Tryz.call42 Tryz.ntmps42 Tryz.results42 (by simp) (by simp only [go_sem, reduceEqDiff, reduceAdd, reduceSub, reduceMul, reduceLeDiff, reduceLT, Nat.reduceBEq, reduceIte]) fun hfit => ?_
  unfold r08_Compare_body at h
  refine AW.kp [] [0, 1] ?_
  refine AW.op mixed ?_
  refine AW.kp [0, 1] [2, 3] ?_
  refine AW.one ?_
  refine AW.op mixed ?_
  apply obindE h; intro r1 hx2 h
  have hc := nx (r08_less_ok (h := hx2))
  refine callP hc ?_
  refine AW.kp [0, 1] [2, 3, 5] ?_
  refine AW.op mixed ?_
  refine AW.kp [0, 1] [2, 3, 5, 17] ?_
  refine AW.ts (r1 != (0 : Int)) (fun hb3 => ?_) (fun hb3 => ?_)
  · have h := ifT hb3 h
    refine AW.op mixed ?_
    refine AW.ret ?_
    obtain rfl := Option.some.inj h
    refine nz ?_
    exact .same _
  have h := ifF hb3 h
  refine AW.sk ?_
  refine AW.kp [0, 1] [2, 3] ?_
  refine AW.one ?_
  refine AW.op mixed ?_
  refine AW.kp [0, 1] [2, 3, 23] ?_
  refine AW.ts (!(p0.name.toList == p1.name.toList)) (fun hb4 => ?_) (fun hb4 => ?_)
  · have h := ifT hb4 h
    refine AW.one ?_
    refine AW.op mixed ?_
    refine AW.kp [] [28] ?_
    refine AW.ts (Op.bytesLess p0.name.toList p1.name.toList) (fun hb5 => ?_) (fun hb5 => ?_)
    · have h := ifT hb5 h
      refine AW.op mixed ?_
      refine AW.ret ?_
      obtain rfl := Option.some.inj h
      refine nz ?_
      exact .same _
    have h := ifF hb5 h
    refine AW.sk ?_
    refine AW.kp [] [] ?_
    refine AW.op mixed ?_
    refine AW.ret ?_
    obtain rfl := Option.some.inj h
    refine nz ?_
    exact .same _
  have h := ifF hb4 h
  refine AW.sk ?_
  refine AW.kp [0, 1] [2, 3] ?_
  refine AW.one ?_
  refine AW.op mixed ?_
  refine AW.kp [0, 1] [2, 3, 35] ?_
  refine AW.ts (!(p0.num.neg == p1.num.neg)) (fun hb6 => ?_) (fun hb6 => ?_)
  · have h := ifT hb6 h
    refine AW.one ?_
    refine AW.op mixed ?_
    refine AW.kp [] [38] ?_
    refine AW.ts p1.num.neg (fun hb7 => ?_) (fun hb7 => ?_)
    · have h := ifT hb7 h
      refine AW.op mixed ?_
      refine AW.ret ?_
      obtain rfl := Option.some.inj h
      refine nz ?_
      exact .same _
    have h := ifF hb7 h
    refine AW.sk ?_
    refine AW.kp [] [] ?_
    refine AW.op mixed ?_
    refine AW.ret ?_
    obtain rfl := Option.some.inj h
    refine nz ?_
    exact .same _
  have h := ifF hb6 h
  refine AW.sk ?_
  refine AW.kp [0, 1] [2, 3] ?_
  refine AW.one ?_
  refine AW.op mixed ?_
  apply obindE h; intro r8 hx9 h
  have hc := nx (r08_words_ok (h := hx9))
  refine callP hc ?_
  refine AW.kp [0, 1] [2, 3, 6] ?_
  refine AW.op mixed ?_
  refine AW.kp [0, 1] [2, 3, 6, 47] ?_
  refine AW.ts (r8 != (0 : Int)) (fun hb10 => ?_) (fun hb10 => ?_)
  · have h := ifT hb10 h
    refine AW.op mixed ?_
    refine AW.ret ?_
    obtain rfl := Option.some.inj h
    refine nz ?_
    exact .same _
  have h := ifF hb10 h
  refine AW.sk ?_
  refine AW.kp [0, 1] [2, 3] ?_
  refine AW.one ?_
  refine AW.op mixed ?_
  apply obindE h; intro r11 hx12 h
  have hc := nx (r08_words_ok (h := hx12))
  refine callP hc ?_
  refine AW.kp [0, 1] [2, 3, 7] ?_
  refine AW.op mixed ?_
  refine AW.kp [0, 1] [2, 3, 7, 57] ?_
  refine AW.ts (r11 != (0 : Int)) (fun hb13 => ?_) (fun hb13 => ?_)
  · have h := ifT hb13 h
    refine AW.op mixed ?_
    refine AW.ret ?_
    obtain rfl := Option.some.inj h
    refine nz ?_
    exact .same _
  have h := ifF hb13 h
  refine AW.sk ?_
  refine AW.kp [0, 1] [2, 3] ?_
  refine AW.one ?_
  refine AW.op mixed ?_
  apply obindE h; intro r14 hx15 h
  have hc := nx (r08_less_ok (h := hx15))
  refine callP hc ?_
  refine AW.kp [0, 1] [2, 3, 8] ?_
  refine AW.op mixed ?_
  refine AW.kp [0, 1] [2, 3, 8, 67] ?_
  refine AW.ts (r14 != (0 : Int)) (fun hb16 => ?_) (fun hb16 => ?_)
  · have h := ifT hb16 h
    refine AW.op mixed ?_
    refine AW.ret ?_
    obtain rfl := Option.some.inj h
    refine nz ?_
    exact .same _
  have h := ifF hb16 h
  refine AW.sk ?_
  refine AW.kp [0, 1] [2, 3] ?_
  refine AW.one ?_
  refine AW.op mixed ?_
  refine AW.kp [0, 1] [2, 3, 9] ?_
  refine obindE h fun oJ20 h hJ20 => ?_
  refine AW.join (S := Unit) (fun _ => []) (fun _ => []) (fun x => oJ20 = .go x) ?_ ?_
  · refine AW.block ?_
    refine AW.iter (S := Int) (fun i17_0 => [(2, .ptr 0 6 0 0), (3, .ptr 1 6 0 0), (9, .d (.val (.int .i64 i17_0)))]) (fun i17_0 => [some ⟨6, [[.d (.val (.int .i64 p0.op)), .d (.val (.string p0.name)), .d (.val (.bool p0.num.neg)), .d (slD u32V p0.num.num), .d (slD u32V p0.num.den), .d (slD NodeA.enc p0.kids)]]⟩, some ⟨6, [[.d (.val (.int .i64 p1.op)), .d (.val (.string p1.name)), .d (.val (.bool p1.num.neg)), .d (slD u32V p1.num.num), .d (slD u32V p1.num.den), .d (slD NodeA.enc p1.kids)]]⟩]) [0, 1] h (by simp only [go_sem, reduceEqDiff, reduceAdd, reduceSub, reduceMul, reduceLeDiff, reduceLT, Nat.reduceBEq, reduceIte]) ?_
    rintro again i17_0 h
    try dsimp only at h
    refine AW.one ?_
    refine AW.op mixed ?_
    refine AW.kp [0, 1] [2, 3, 9, 73] ?_
    refine AW.ts (decide (i17_0 < (p0.kids.length : Int))) (fun hb21 => ?_) (fun hb21 => ?_)
    · have h := ifT hb21 h
      refine AW.sk ?_
      refine AW.kp [0, 1] [2, 3, 9] ?_
      refine AW.one ?_
      refine AW.block ?_
      refine AW.one ?_
      refine AW.reg mixed (by kernel_rfl) ?_
      apply obindE h; intro x22 hx23 h
      apply obindE h; intro x24 hx25 h
      try simp only [go_sem, reduceEqDiff, reduceAdd, reduceSub, reduceMul, reduceLeDiff, reduceLT, Nat.reduceBEq, reduceIte, (idx_some hx23).1, (idx_some hx23).2, (idx_some hx25).1, (idx_some hx25).2]
      apply obindE h; intro r26 hx27 h
      have hc := nx (hself42 _ _ hx27)
      refine pcallK_intro hc (by simp only [go_sem, reduceEqDiff, reduceAdd, reduceSub, reduceMul, reduceLeDiff, reduceLT, Nat.reduceBEq, reduceIte]) ?_
      try simp only [go_sem, reduceEqDiff, reduceAdd, reduceSub, reduceMul, reduceLeDiff, reduceLT, Nat.reduceBEq, reduceIte, (idx_some hx23).1, (idx_some hx23).2, (idx_some hx25).1, (idx_some hx25).2]
      refine AW.cut [0, 1] [(2, .ptr 0 6 0 0), (3, .ptr 1 6 0 0), (9, .d (.val (.int .i64 i17_0))), (10, .d (.val (.int .i64 r26)))] [some ⟨6, [[.d (.val (.int .i64 p0.op)), .d (.val (.string p0.name)), .d (.val (.bool p0.num.neg)), .d (slD u32V p0.num.num), .d (slD u32V p0.num.den), .d (slD NodeA.enc p0.kids)]]⟩, some ⟨6, [[.d (.val (.int .i64 p1.op)), .d (.val (.string p1.name)), .d (.val (.bool p1.num.neg)), .d (slD u32V p1.num.num), .d (slD u32V p1.num.den), .d (slD NodeA.enc p1.kids)]]⟩] (by simp only [go_sem, reduceEqDiff, reduceAdd, reduceSub, reduceMul, reduceLeDiff, reduceLT, Nat.reduceBEq, reduceIte, (idx_some hx23).1, (idx_some hx23).2, (idx_some hx25).1, (idx_some hx25).2]) ?_
      refine AW.op mixed ?_
      refine AW.kp [0, 1] [2, 3, 9, 10, 88] ?_
      refine AW.ts (r26 != (0 : Int)) (fun hb28 => ?_) (fun hb28 => ?_)
      · have h := ifT hb28 h
        refine AW.op mixed ?_
        refine AW.ret ?_
        obtain ⟨_, h, ho⟩ := outM_some h
        rw [ho, Out.fin_out] at hJ20
        have h := h.trans hJ20
        obtain rfl := Option.some.inj h
        refine nz ?_
        exact .same _
      have h := ifF hb28 h
      refine AW.sk ?_
      refine AW.kp [0, 1] [2, 3, 9] ?_
      refine AW.rg mixed ?_
      exact NextQ.ar (IntKind.wrap .i64 (i17_0 + (1 : Int))) [0, 1] h
    have h := ifF hb21 h
    refine AW.ex ?_
    exact JoinQ.ar () [] (Option.some.inj h).symm
  rintro ⟨⟩ rfl
  have h := hJ20
  try dsimp only [Out.fin] at h
  refine nz ?_
  refine AW.kp [] [] ?_
  refine AW.op mixed ?_
  refine AW.ret ?_
  obtain rfl := Option.some.inj h
  refine nz ?_
  exact .same _
def r08_Compare (K : Nat) (p0 : NodeA) (p1 : NodeA) : Option Int := iter K (fun self q => r08_Compare_body K self q.1 q.2) (p0, p1)
theorem key_r08_Compare {K : Nat} (k : Nat) : (∀ (q : NodeA × NodeA) (r : Int), iter k (fun self q => r08_Compare_body K self q.1 q.2) q = some r → Cn Tryz.prog 42 [aggV q.1.enc, aggV q.2.enc] (.d (.val (.int .i64 r)))) := by
  induction k with
  | zero => exact fun q r h => by cases h
  | succ k ih => exact fun q r h => r08_Compare_step K _ ih q.1 q.2 r h
theorem r08_Compare_ok {K : Nat} {p0 : NodeA} {p1 : NodeA} {r : Int} (h : r08_Compare K p0 p1 = some r) : Cn Tryz.prog 42 [aggV p0.enc, aggV p1.enc] (.d (.val (.int .i64 r))) := (key_r08_Compare K) (p0, p1) r h
/-! ### isochrone/isochroneref08.Equal -/
def r08_Equal (K : Nat) (p0 : NodeA) (p1 : NodeA) : Option Bool := (r08_Compare K p0 p1).bind fun r1 => 
  some (r1 == (0 : Int))
set_option maxHeartbeats 4000000 in
theorem r08_Equal_ok {K : Nat} {p0 : NodeA} {p1 : NodeA} {r : Bool} (h : r08_Equal K p0 p1 = some r) : Cn Tryz.prog 11 [aggV p0.enc, aggV p1.enc] (.d (.val (.bool r))) := by
  refine Cn.ofA mixed Tryz.func11 rfl Tryz.call11 Tryz.ntmps11 Tryz.results11 (by simp) (by simp only [go_sem, reduceEqDiff, reduceAdd, reduceSub, reduceMul, reduceLeDiff, reduceLT, Nat.reduceBEq, reduceIte]) fun hfit => ?_
  unfold r08_Equal at h
  refine AW.kp [] [0, 1] ?_
  refine AW.op mixed ?_
  refine AW.kp [0, 1] [2, 3] ?_
  refine AW.op mixed ?_
  apply obindE h; intro r1 hx2 h
  have hc := nx (r08_Compare_ok (h := hx2))
  refine callP hc ?_
  refine AW.ret ?_
  obtain rfl := Option.some.inj h
  refine nz ?_
  exact .same _
/-! ### isochrone/rename.binder -/
def rename_binder (K : Nat) (p0 : NodeA) : Option (ByteArray × Int × Bool) := ((
    if (p0.op == (33 : Int)) then
      some (p0.op == (33 : Int))
    else
      some (p0.op == (34 : Int))) : Option Bool).bind (fun v1_0 => 
  if v1_0 then
    some (p0.name, (0 : Int), true)
  else
    ((
      if (p0.op == (35 : Int)) then
        some (p0.op == (35 : Int))
      else
        some (p0.op == (36 : Int))) : Option Bool).bind (fun v5_0 => 
    if v5_0 then
      (idx p0.kids (0 : Int)).bind fun x9 => 
      ((
        if (x9.op == (50 : Int)) then
          some true
        else
          some (x9.op == (52 : Int))) : Option Bool).bind (fun v11_0 => 
      if v11_0 then
        some (x9.name, (1 : Int), true)
      else
        some ((⟨#[]⟩ : ByteArray), (0 : Int), false))
    else
      some ((⟨#[]⟩ : ByteArray), (0 : Int), false)))
set_option maxHeartbeats 4000000 in
theorem rename_binder_ok {K : Nat} {p0 : NodeA} {r : ByteArray × Int × Bool} (h : rename_binder K p0 = some r) : Cn Tryz.prog 25 [aggV p0.enc] (.tup [.d (.val (.string r.1)), .d (.val (.int .i64 r.2.1)), .d (.val (.bool r.2.2))]) := by
  refine Cn.ofA mixed Tryz.func25 rfl Tryz.call25 Tryz.ntmps25 Tryz.results25 (by simp) (by simp only [go_sem, reduceEqDiff, reduceAdd, reduceSub, reduceMul, reduceLeDiff, reduceLT, Nat.reduceBEq, reduceIte]) fun hfit => ?_
  unfold rename_binder at h
  refine AW.kp [] [0] ?_
  refine AW.op mixed ?_
  refine AW.kp [0] [1] ?_
  refine AW.one ?_
  refine AW.op mixed ?_
  refine AW.kp [0] [1, 7] ?_
  refine AW.block ?_
  refine AW.one ?_
  refine obindE h fun oJ2 h hJ2 => ?_
  refine AW.join (S := Bool) (fun v1_0 => [(1, .ptr 0 6 0 0), (7, .d (.val (.int .i64 p0.op))), (8, .d (.val (.bool v1_0)))]) (fun v1_0 => [some ⟨6, [[.d (.val (.int .i64 p0.op)), .d (.val (.string p0.name)), .d (.val (.bool p0.num.neg)), .d (slD u32V p0.num.num), .d (slD u32V p0.num.den), .d (slD NodeA.enc p0.kids)]]⟩]) (fun x => x = oJ2) ?_ ?_
  · skip
    refine AW.op mixed ?_
    refine AW.kp [0] [1, 7, 8] ?_
    refine AW.ts (p0.op == (33 : Int)) (fun hb3 => ?_) (fun hb3 => ?_)
    · have h := ifT hb3 h
      refine AW.sk ?_
      exact JoinQ.ar (p0.op == (33 : Int)) [0] (Option.some.inj h)
    have h := ifF hb3 h
    refine AW.rg mixed ?_
    exact JoinQ.ar (p0.op == (34 : Int)) [0] (Option.some.inj h)
  rintro v1_0 rfl
  have h := hJ2
  try dsimp only [Out.fin] at h
  refine nz ?_
  refine AW.ts v1_0 (fun hb4 => ?_) (fun hb4 => ?_)
  · have h := ifT hb4 h
    refine AW.op mixed ?_
    refine AW.ret ?_
    obtain rfl := Option.some.inj h
    refine nz ?_
    exact .same _
  have h := ifF hb4 h
  refine AW.one ?_
  refine obindE h fun oJ6 h hJ6 => ?_
  refine AW.join (S := Bool) (fun v5_0 => [(1, .ptr 0 6 0 0), (13, .d (.val (.bool v5_0)))]) (fun v5_0 => [some ⟨6, [[.d (.val (.int .i64 p0.op)), .d (.val (.string p0.name)), .d (.val (.bool p0.num.neg)), .d (slD u32V p0.num.num), .d (slD u32V p0.num.den), .d (slD NodeA.enc p0.kids)]]⟩]) (fun x => x = oJ6) ?_ ?_
  · skip
    refine AW.op mixed ?_
    refine AW.kp [0] [1, 7, 13] ?_
    refine AW.ts (p0.op == (35 : Int)) (fun hb7 => ?_) (fun hb7 => ?_)
    · have h := ifT hb7 h
      refine AW.sk ?_
      exact JoinQ.ar (p0.op == (35 : Int)) [0] (Option.some.inj h)
    have h := ifF hb7 h
    refine AW.rg mixed ?_
    exact JoinQ.ar (p0.op == (36 : Int)) [0] (Option.some.inj h)
  rintro v5_0 rfl
  have h := hJ6
  try dsimp only [Out.fin] at h
  refine nz ?_
  refine AW.ts v5_0 (fun hb8 => ?_) (fun hb8 => ?_)
  · have h := ifT hb8 h
    refine AW.one ?_
    refine AW.reg mixed (by kernel_rfl) ?_
    apply obindE h; intro x9 hx10 h
    try simp only [go_sem, reduceEqDiff, reduceAdd, reduceSub, reduceMul, reduceLeDiff, reduceLT, Nat.reduceBEq, reduceIte, (idx_some hx10).1, (idx_some hx10).2]
    refine AW.cut [5] [(5, .ptr 0 6 0 0)] [some ⟨6, [[.d (.val (.int .i64 x9.op)), .d (.val (.string x9.name)), .d (.val (.bool x9.num.neg)), .d (slD u32V x9.num.num), .d (slD u32V x9.num.den), .d (slD NodeA.enc x9.kids)]]⟩] (by simp only [go_sem, reduceEqDiff, reduceAdd, reduceSub, reduceMul, reduceLeDiff, reduceLT, Nat.reduceBEq, reduceIte, (idx_some hx10).1, (idx_some hx10).2]) ?_
    refine AW.one ?_
    refine obindE h fun oJ12 h hJ12 => ?_
    refine AW.join (S := Bool) (fun v11_0 => [(5, .ptr 0 6 0 0), (27, .d (.val (.bool v11_0)))]) (fun v11_0 => [some ⟨6, [[.d (.val (.int .i64 x9.op)), .d (.val (.string x9.name)), .d (.val (.bool x9.num.neg)), .d (slD u32V x9.num.num), .d (slD u32V x9.num.den), .d (slD NodeA.enc x9.kids)]]⟩]) (fun x => x = oJ12) ?_ ?_
    · skip
      refine AW.rg mixed ?_
      refine splitK_intro (fun hb13 => ?_) (fun hb13 => ?_)
      · have h := ifT hb13 h
        try simp only [go_sem, reduceEqDiff, reduceAdd, reduceSub, reduceMul, reduceLeDiff, reduceLT, Nat.reduceBEq, reduceIte, hb13]
        refine JoinQ.mk true [0] (Option.some.inj h) (by simp only [go_sem, reduceEqDiff, reduceAdd, reduceSub, reduceMul, reduceLeDiff, reduceLT, Nat.reduceBEq, reduceIte, hb13])
      have h := ifF hb13 h
      try simp only [go_sem, reduceEqDiff, reduceAdd, reduceSub, reduceMul, reduceLeDiff, reduceLT, Nat.reduceBEq, reduceIte, hb13]
      refine JoinQ.mk (x9.op == (52 : Int)) [0] (Option.some.inj h) (by simp only [go_sem, reduceEqDiff, reduceAdd, reduceSub, reduceMul, reduceLeDiff, reduceLT, Nat.reduceBEq, reduceIte, hb13])
    rintro v11_0 rfl
    have h := hJ12
    try dsimp only [Out.fin] at h
    refine nz ?_
    refine AW.ts v11_0 (fun hb14 => ?_) (fun hb14 => ?_)
    · have h := ifT hb14 h
      refine AW.op mixed ?_
      refine AW.ret ?_
      obtain rfl := Option.some.inj h
      refine nz ?_
      exact .same _
    have h := ifF hb14 h
    refine AW.sk ?_
    refine AW.kp [] [] ?_
    refine AW.op mixed ?_
    refine AW.ret ?_
    obtain rfl := Option.some.inj h
    refine nz ?_
    exact .same _
  have h := ifF hb8 h
  refine AW.sk ?_
  refine AW.kp [] [] ?_
  refine AW.op mixed ?_
  refine AW.ret ?_
  obtain rfl := Option.some.inj h
  refine nz ?_
  exact .same _
/-! ### isochrone/tree.Sort -/
def tree_Sort (K : Nat) (p0 : Int) : Option Int := ((
    if (decide ((1 : Int) ≤ p0)) then
      some (decide (p0 ≤ (13 : Int)))
    else
      some false) : Option Bool).bind (fun v1_0 => 
  if v1_0 then
    some (1 : Int)
  else
    ((
      if (decide ((20 : Int) ≤ p0)) then
        some (decide (p0 ≤ (39 : Int)))
      else
        some false) : Option Bool).bind (fun v5_0 => 
    if v5_0 then
      some (2 : Int)
    else
      ((
        if (p0 == (55 : Int)) then
          some true
        else
          some (p0 == (56 : Int))) : Option Bool).bind (fun v9_0 => 
      if v9_0 then
        some (4 : Int)
      else
        ((
          if (decide ((50 : Int) ≤ p0)) then
            some (decide (p0 ≤ (62 : Int)))
          else
            some false) : Option Bool).bind (fun v13_0 => 
        if v13_0 then
          some (3 : Int)
        else
          some (0 : Int)))))
set_option maxHeartbeats 4000000 in
theorem tree_Sort_ok {K : Nat} {p0 : Int} {r : Int} (h : tree_Sort K p0 = some r) : Cn Tryz.prog 53 [.d (.val (.int .i64 p0))] (.d (.val (.int .i64 r))) := by
  refine Cn.ofA mixed Tryz.func53 rfl Tryz.call53 Tryz.ntmps53 Tryz.results53 (by simp) (by simp only [go_sem, reduceEqDiff, reduceAdd, reduceSub, reduceMul, reduceLeDiff, reduceLT, Nat.reduceBEq, reduceIte]) fun hfit => ?_
  unfold tree_Sort at h
  refine AW.kp [] [0] ?_
  refine AW.op mixed ?_
  refine AW.kp [] [0] ?_
  refine AW.one ?_
  refine AW.block ?_
  refine AW.one ?_
  refine obindE h fun oJ2 h hJ2 => ?_
  refine AW.join (S := Bool) (fun v1_0 => [(0, .d (.val (.int .i64 p0))), (3, .d (.val (.bool v1_0)))]) (fun v1_0 => []) (fun x => x = oJ2) ?_ ?_
  · skip
    refine AW.rg mixed ?_
    refine splitK_intro (fun hb3 => ?_) (fun hb3 => ?_)
    · have h := ifT hb3 h
      try simp only [go_sem, reduceEqDiff, reduceAdd, reduceSub, reduceMul, reduceLeDiff, reduceLT, Nat.reduceBEq, reduceIte, hb3]
      refine JoinQ.mk (decide (p0 ≤ (13 : Int))) [] (Option.some.inj h) (by simp only [go_sem, reduceEqDiff, reduceAdd, reduceSub, reduceMul, reduceLeDiff, reduceLT, Nat.reduceBEq, reduceIte, hb3])
    have h := ifF hb3 h
    try simp only [go_sem, reduceEqDiff, reduceAdd, reduceSub, reduceMul, reduceLeDiff, reduceLT, Nat.reduceBEq, reduceIte, hb3]
    refine JoinQ.mk false [] (Option.some.inj h) (by simp only [go_sem, reduceEqDiff, reduceAdd, reduceSub, reduceMul, reduceLeDiff, reduceLT, Nat.reduceBEq, reduceIte, hb3])
  rintro v1_0 rfl
  have h := hJ2
  try dsimp only [Out.fin] at h
  refine nz ?_
  refine AW.ts v1_0 (fun hb4 => ?_) (fun hb4 => ?_)
  · have h := ifT hb4 h
    refine AW.op mixed ?_
    refine AW.ret ?_
    obtain rfl := Option.some.inj h
    refine nz ?_
    exact .same _
  have h := ifF hb4 h
  refine AW.one ?_
  refine obindE h fun oJ6 h hJ6 => ?_
  refine AW.join (S := Bool) (fun v5_0 => [(0, .d (.val (.int .i64 p0))), (10, .d (.val (.bool v5_0)))]) (fun v5_0 => []) (fun x => x = oJ6) ?_ ?_
  · skip
    refine AW.rg mixed ?_
    refine splitK_intro (fun hb7 => ?_) (fun hb7 => ?_)
    · have h := ifT hb7 h
      try simp only [go_sem, reduceEqDiff, reduceAdd, reduceSub, reduceMul, reduceLeDiff, reduceLT, Nat.reduceBEq, reduceIte, hb7]
      refine JoinQ.mk (decide (p0 ≤ (39 : Int))) [] (Option.some.inj h) (by simp only [go_sem, reduceEqDiff, reduceAdd, reduceSub, reduceMul, reduceLeDiff, reduceLT, Nat.reduceBEq, reduceIte, hb7])
    have h := ifF hb7 h
    try simp only [go_sem, reduceEqDiff, reduceAdd, reduceSub, reduceMul, reduceLeDiff, reduceLT, Nat.reduceBEq, reduceIte, hb7]
    refine JoinQ.mk false [] (Option.some.inj h) (by simp only [go_sem, reduceEqDiff, reduceAdd, reduceSub, reduceMul, reduceLeDiff, reduceLT, Nat.reduceBEq, reduceIte, hb7])
  rintro v5_0 rfl
  have h := hJ6
  try dsimp only [Out.fin] at h
  refine nz ?_
  refine AW.ts v5_0 (fun hb8 => ?_) (fun hb8 => ?_)
  · have h := ifT hb8 h
    refine AW.op mixed ?_
    refine AW.ret ?_
    obtain rfl := Option.some.inj h
    refine nz ?_
    exact .same _
  have h := ifF hb8 h
  refine AW.one ?_
  refine obindE h fun oJ10 h hJ10 => ?_
  refine AW.join (S := Bool) (fun v9_0 => [(0, .d (.val (.int .i64 p0))), (17, .d (.val (.bool v9_0)))]) (fun v9_0 => []) (fun x => x = oJ10) ?_ ?_
  · skip
    refine AW.rg mixed ?_
    refine splitK_intro (fun hb11 => ?_) (fun hb11 => ?_)
    · have h := ifT hb11 h
      try simp only [go_sem, reduceEqDiff, reduceAdd, reduceSub, reduceMul, reduceLeDiff, reduceLT, Nat.reduceBEq, reduceIte, hb11]
      refine JoinQ.mk true [] (Option.some.inj h) (by simp only [go_sem, reduceEqDiff, reduceAdd, reduceSub, reduceMul, reduceLeDiff, reduceLT, Nat.reduceBEq, reduceIte, hb11])
    have h := ifF hb11 h
    try simp only [go_sem, reduceEqDiff, reduceAdd, reduceSub, reduceMul, reduceLeDiff, reduceLT, Nat.reduceBEq, reduceIte, hb11]
    refine JoinQ.mk (p0 == (56 : Int)) [] (Option.some.inj h) (by simp only [go_sem, reduceEqDiff, reduceAdd, reduceSub, reduceMul, reduceLeDiff, reduceLT, Nat.reduceBEq, reduceIte, hb11])
  rintro v9_0 rfl
  have h := hJ10
  try dsimp only [Out.fin] at h
  refine nz ?_
  refine AW.ts v9_0 (fun hb12 => ?_) (fun hb12 => ?_)
  · have h := ifT hb12 h
    refine AW.op mixed ?_
    refine AW.ret ?_
    obtain rfl := Option.some.inj h
    refine nz ?_
    exact .same _
  have h := ifF hb12 h
  refine AW.one ?_
  refine obindE h fun oJ14 h hJ14 => ?_
  refine AW.join (S := Bool) (fun v13_0 => [(24, .d (.val (.bool v13_0)))]) (fun v13_0 => []) (fun x => x = oJ14) ?_ ?_
  · skip
    refine AW.rg mixed ?_
    refine splitK_intro (fun hb15 => ?_) (fun hb15 => ?_)
    · have h := ifT hb15 h
      try simp only [go_sem, reduceEqDiff, reduceAdd, reduceSub, reduceMul, reduceLeDiff, reduceLT, Nat.reduceBEq, reduceIte, hb15]
      refine JoinQ.mk (decide (p0 ≤ (62 : Int))) [] (Option.some.inj h) (by simp only [go_sem, reduceEqDiff, reduceAdd, reduceSub, reduceMul, reduceLeDiff, reduceLT, Nat.reduceBEq, reduceIte, hb15])
    have h := ifF hb15 h
    try simp only [go_sem, reduceEqDiff, reduceAdd, reduceSub, reduceMul, reduceLeDiff, reduceLT, Nat.reduceBEq, reduceIte, hb15]
    refine JoinQ.mk false [] (Option.some.inj h) (by simp only [go_sem, reduceEqDiff, reduceAdd, reduceSub, reduceMul, reduceLeDiff, reduceLT, Nat.reduceBEq, reduceIte, hb15])
  rintro v13_0 rfl
  have h := hJ14
  try dsimp only [Out.fin] at h
  refine nz ?_
  refine AW.ts v13_0 (fun hb16 => ?_) (fun hb16 => ?_)
  · have h := ifT hb16 h
    refine AW.op mixed ?_
    refine AW.ret ?_
    obtain rfl := Option.some.inj h
    refine nz ?_
    exact .same _
  have h := ifF hb16 h
  refine AW.sk ?_
  refine AW.kp [] [] ?_
  refine AW.op mixed ?_
  refine AW.ret ?_
  obtain rfl := Option.some.inj h
  refine nz ?_
  exact .same _
/-! ### isochrone/tree.letter -/
def tree_letter (K : Nat) (p0 : Int) : Option Bool := if (decide ((97 : Int) ≤ p0)) then
    if (decide (p0 ≤ (122 : Int))) then
      some true
    else
      if (decide ((65 : Int) ≤ p0)) then
        some (decide (p0 ≤ (90 : Int)))
      else
        some false
  else
    if (decide ((65 : Int) ≤ p0)) then
      some (decide (p0 ≤ (90 : Int)))
    else
      some false
set_option maxHeartbeats 4000000 in
theorem tree_letter_ok {K : Nat} {p0 : Int} {r : Bool} (h : tree_letter K p0 = some r) : Cn Tryz.prog 59 [.d (.val (.int .u8 p0))] (.d (.val (.bool r))) := by
  refine Cn.ofA mixed Tryz.func59 rfl Tryz.call59 Tryz.ntmps59 Tryz.results59 (by simp) (by simp only [go_sem, reduceEqDiff, reduceAdd, reduceSub, reduceMul, reduceLeDiff, reduceLT, Nat.reduceBEq, reduceIte]) fun hfit => ?_
  unfold tree_letter at h
  refine AW.kp [] [0] ?_
  refine AW.op mixed ?_
  refine AW.kp [] [0] ?_
  refine AW.op mixed ?_
  refine splitK_intro (fun hb1 => ?_) (fun hb1 => ?_)
  · have h := ifT hb1 h
    try simp only [go_sem, reduceEqDiff, reduceAdd, reduceSub, reduceMul, reduceLeDiff, reduceLT, Nat.reduceBEq, reduceIte, hb1]
    refine splitK_intro (fun hb2 => ?_) (fun hb2 => ?_)
    · have h := ifT hb2 h
      try simp only [go_sem, reduceEqDiff, reduceAdd, reduceSub, reduceMul, reduceLeDiff, reduceLT, Nat.reduceBEq, reduceIte, hb1, hb2]
      refine AW.ret ?_
      obtain rfl := Option.some.inj h
      refine nz ?_
      exact .same _
    have h := ifF hb2 h
    try simp only [go_sem, reduceEqDiff, reduceAdd, reduceSub, reduceMul, reduceLeDiff, reduceLT, Nat.reduceBEq, reduceIte, hb1, hb2]
    refine splitK_intro (fun hb3 => ?_) (fun hb3 => ?_)
    · have h := ifT hb3 h
      try simp only [go_sem, reduceEqDiff, reduceAdd, reduceSub, reduceMul, reduceLeDiff, reduceLT, Nat.reduceBEq, reduceIte, hb1, hb2, hb3]
      refine AW.ret ?_
      obtain rfl := Option.some.inj h
      refine nz ?_
      exact .same _
    have h := ifF hb3 h
    try simp only [go_sem, reduceEqDiff, reduceAdd, reduceSub, reduceMul, reduceLeDiff, reduceLT, Nat.reduceBEq, reduceIte, hb1, hb2, hb3]
    refine AW.ret ?_
    obtain rfl := Option.some.inj h
    refine nz ?_
    exact .same _
  have h := ifF hb1 h
  try simp only [go_sem, reduceEqDiff, reduceAdd, reduceSub, reduceMul, reduceLeDiff, reduceLT, Nat.reduceBEq, reduceIte, hb1]
  refine splitK_intro (fun hb4 => ?_) (fun hb4 => ?_)
  · have h := ifT hb4 h
    try simp only [go_sem, reduceEqDiff, reduceAdd, reduceSub, reduceMul, reduceLeDiff, reduceLT, Nat.reduceBEq, reduceIte, hb1, hb4]
    refine AW.ret ?_
    obtain rfl := Option.some.inj h
    refine nz ?_
    exact .same _
  have h := ifF hb4 h
  try simp only [go_sem, reduceEqDiff, reduceAdd, reduceSub, reduceMul, reduceLeDiff, reduceLT, Nat.reduceBEq, reduceIte, hb1, hb4]
  refine AW.ret ?_
  obtain rfl := Option.some.inj h
  refine nz ?_
  exact .same _
/-! ### isochrone/tree.Name -/
def tree_Name (K : Nat) (p0 : ByteArray) : Option Bool := ((
    ((
      if ((p0.size : Int) == (0 : Int)) then
        some true
      else
        if (decide ((12 : Int) < (p0.size : Int))) then
          some true
        else
          (strAt p0 (0 : Int)).bind fun c7 => 
          (tree_letter K (c7.toNat : Int)).bind fun r9 => 
          some (!r9)) : Option Bool).bind (fun v3_0 => 
    if v3_0 then
      outM (
        some false)
    else
      some (.go ()))) : Option (Out Unit _)).bind (Out.fin fun _ => 
  ((iter (S := Int) (R := Out Unit _) K (fun again i12_0 => 
    if (decide (i12_0 < (p0.size : Int))) then
      ((
        ((
          (strAt p0 i12_0).bind fun c21 => 
          (tree_letter K (c21.toNat : Int)).bind fun r23 => 
          if (!r23) then
            if (decide ((c21.toNat : Int) < (48 : Int))) then
              some true
            else
              some (decide ((57 : Int) < (c21.toNat : Int)))
          else
            some false) : Option Bool).bind (fun v19_0 => 
        if v19_0 then
          outM (
            outM (
              some false))
        else
          some (.go ()))) : Option (Out Unit _)).bind (Out.fin fun _ => 
      again (IntKind.wrap .i64 (i12_0 + (1 : Int))))
    else
      some (.go ())) (0 : Int)) : Option (Out Unit _)).bind (Out.fin fun _ => 
  ((
    if (p0.toList == (⟨#[116, 114, 117, 101]⟩ : ByteArray).toList) then
      some (p0.toList == (⟨#[116, 114, 117, 101]⟩ : ByteArray).toList)
    else
      if (p0.toList == (⟨#[102, 97, 108, 115, 101]⟩ : ByteArray).toList) then
        some (p0.toList == (⟨#[102, 97, 108, 115, 101]⟩ : ByteArray).toList)
      else
        if (p0.toList == (⟨#[102, 111, 114, 97, 108, 108]⟩ : ByteArray).toList) then
          some (p0.toList == (⟨#[102, 111, 114, 97, 108, 108]⟩ : ByteArray).toList)
        else
          some (p0.toList == (⟨#[101, 120, 105, 115, 116, 115]⟩ : ByteArray).toList)) : Option Bool).bind (fun v28_0 => 
  if v28_0 then
    some false
  else
    some true)))
set_option maxHeartbeats 4000000 in
theorem tree_Name_ok {K : Nat} {p0 : ByteArray} {r : Bool} (h : tree_Name K p0 = some r) : Cn Tryz.prog 26 [.d (.val (.string p0))] (.d (.val (.bool r))) := by
  refine Cn.ofA mixed Tryz.func26 rfl Tryz.call26 Tryz.ntmps26 Tryz.results26 (by simp) (by simp only [go_sem, reduceEqDiff, reduceAdd, reduceSub, reduceMul, reduceLeDiff, reduceLT, Nat.reduceBEq, reduceIte]) fun hfit => ?_
  unfold tree_Name at h
  refine AW.kp [] [0] ?_
  refine AW.op mixed ?_
  refine AW.kp [] [0] ?_
  refine AW.one ?_
  refine obindE h fun oJ2 h hJ2 => ?_
  refine AW.join (S := Unit) (fun _ => [(0, .d (.val (.string p0)))]) (fun _ => []) (fun x => oJ2 = .go x) ?_ ?_
  · skip
    refine AW.one ?_
    refine obindE h fun oJ4 h hJ4 => ?_
    refine AW.join (S := Bool) (fun v3_0 => [(0, .d (.val (.string p0))), (17, .d (.val (.bool v3_0)))]) (fun v3_0 => []) (fun x => x = oJ4) ?_ ?_
    · skip
      refine AW.rg mixed ?_
      refine splitK_intro (fun hb5 => ?_) (fun hb5 => ?_)
      · have h := ifT hb5 h
        try simp only [go_sem, reduceEqDiff, reduceAdd, reduceSub, reduceMul, reduceLeDiff, reduceLT, Nat.reduceBEq, reduceIte, hb5]
        refine JoinQ.mk true [] (Option.some.inj h) (by simp only [go_sem, reduceEqDiff, reduceAdd, reduceSub, reduceMul, reduceLeDiff, reduceLT, Nat.reduceBEq, reduceIte, hb5])
      have h := ifF hb5 h
      try simp only [go_sem, reduceEqDiff, reduceAdd, reduceSub, reduceMul, reduceLeDiff, reduceLT, Nat.reduceBEq, reduceIte, hb5]
      refine splitK_intro (fun hb6 => ?_) (fun hb6 => ?_)
      · have h := ifT hb6 h
        try simp only [go_sem, reduceEqDiff, reduceAdd, reduceSub, reduceMul, reduceLeDiff, reduceLT, Nat.reduceBEq, reduceIte, hb5, hb6]
        refine JoinQ.mk true [] (Option.some.inj h) (by simp only [go_sem, reduceEqDiff, reduceAdd, reduceSub, reduceMul, reduceLeDiff, reduceLT, Nat.reduceBEq, reduceIte, hb5, hb6])
      have h := ifF hb6 h
      apply obindE h; intro c7 hx8 h
      try simp only [go_sem, reduceEqDiff, reduceAdd, reduceSub, reduceMul, reduceLeDiff, reduceLT, Nat.reduceBEq, reduceIte, hb5, hb6, hx8]
      apply obindE h; intro r9 hx10 h
      have hc := nx (tree_letter_ok (h := hx10))
      refine callK_pure hc (by simp only [go_sem, reduceEqDiff, reduceAdd, reduceSub, reduceMul, reduceLeDiff, reduceLT, Nat.reduceBEq, reduceIte]) ?_
      try simp only [go_sem, reduceEqDiff, reduceAdd, reduceSub, reduceMul, reduceLeDiff, reduceLT, Nat.reduceBEq, reduceIte, hb5, hb6, hx8]
      refine JoinQ.mk (!r9) [] (Option.some.inj h) (by simp only [go_sem, reduceEqDiff, reduceAdd, reduceSub, reduceMul, reduceLeDiff, reduceLT, Nat.reduceBEq, reduceIte, hb5, hb6, hx8])
    rintro v3_0 rfl
    have h := hJ4
    try dsimp only [Out.fin] at h
    refine nz ?_
    refine AW.ts v3_0 (fun hb11 => ?_) (fun hb11 => ?_)
    · have h := ifT hb11 h
      refine AW.op mixed ?_
      refine AW.ret ?_
      obtain ⟨_, h, ho⟩ := outM_some h
      rw [ho, Out.fin_out] at hJ2
      have h := h.trans hJ2
      obtain rfl := Option.some.inj h
      refine nz ?_
      exact .same _
    have h := ifF hb11 h
    refine AW.sk ?_
    exact JoinQ.ar () [] (Option.some.inj h).symm
  rintro ⟨⟩ rfl
  have h := hJ2
  try dsimp only [Out.fin] at h
  refine nz ?_
  refine AW.one ?_
  refine AW.op mixed ?_
  refine AW.kp [] [0, 3] ?_
  refine obindE h fun oJ15 h hJ15 => ?_
  refine AW.join (S := Unit) (fun _ => [(0, .d (.val (.string p0)))]) (fun _ => []) (fun x => oJ15 = .go x) ?_ ?_
  · refine AW.block ?_
    refine AW.iter (S := Int) (fun i12_0 => [(0, .d (.val (.string p0))), (3, .d (.val (.int .i64 i12_0)))]) (fun i12_0 => []) [] h (by simp only [go_sem, reduceEqDiff, reduceAdd, reduceSub, reduceMul, reduceLeDiff, reduceLT, Nat.reduceBEq, reduceIte]) ?_
    rintro again i12_0 h
    try dsimp only at h
    refine AW.one ?_
    refine AW.op mixed ?_
    refine AW.kp [] [0, 3, 21] ?_
    refine AW.ts (decide (i12_0 < (p0.size : Int))) (fun hb16 => ?_) (fun hb16 => ?_)
    · have h := ifT hb16 h
      refine AW.sk ?_
      refine AW.kp [] [0, 3] ?_
      refine AW.one ?_
      refine obindE h fun oJ18 h hJ18 => ?_
      refine AW.join (S := Unit) (fun _ => [(0, .d (.val (.string p0))), (3, .d (.val (.int .i64 i12_0)))]) (fun _ => []) (fun x => oJ18 = .go x) ?_ ?_
      · skip
        refine AW.block ?_
        refine AW.one ?_
        refine obindE h fun oJ20 h hJ20 => ?_
        refine AW.join (S := Bool) (fun v19_0 => [(0, .d (.val (.string p0))), (3, .d (.val (.int .i64 i12_0))), (40, .d (.val (.bool v19_0)))]) (fun v19_0 => []) (fun x => x = oJ20) ?_ ?_
        · skip
          refine AW.reg mixed (by kernel_rfl) ?_
          apply obindE h; intro c21 hx22 h
          try simp only [go_sem, reduceEqDiff, reduceAdd, reduceSub, reduceMul, reduceLeDiff, reduceLT, Nat.reduceBEq, reduceIte, hx22]
          apply obindE h; intro r23 hx24 h
          have hc := nx (tree_letter_ok (h := hx24))
          refine callK_pure hc (by simp only [go_sem, reduceEqDiff, reduceAdd, reduceSub, reduceMul, reduceLeDiff, reduceLT, Nat.reduceBEq, reduceIte]) ?_
          try simp only [go_sem, reduceEqDiff, reduceAdd, reduceSub, reduceMul, reduceLeDiff, reduceLT, Nat.reduceBEq, reduceIte, hx22]
          refine splitK_intro (fun hb25 => ?_) (fun hb25 => ?_)
          · have h := ifT hb25 h
            try simp only [go_sem, reduceEqDiff, reduceAdd, reduceSub, reduceMul, reduceLeDiff, reduceLT, Nat.reduceBEq, reduceIte, hx22, hb25]
            refine splitK_intro (fun hb26 => ?_) (fun hb26 => ?_)
            · have h := ifT hb26 h
              try simp only [go_sem, reduceEqDiff, reduceAdd, reduceSub, reduceMul, reduceLeDiff, reduceLT, Nat.reduceBEq, reduceIte, hx22, hb25, hb26]
              refine JoinQ.mk true [] (Option.some.inj h) (by simp only [go_sem, reduceEqDiff, reduceAdd, reduceSub, reduceMul, reduceLeDiff, reduceLT, Nat.reduceBEq, reduceIte, hx22, hb25, hb26])
            have h := ifF hb26 h
            try simp only [go_sem, reduceEqDiff, reduceAdd, reduceSub, reduceMul, reduceLeDiff, reduceLT, Nat.reduceBEq, reduceIte, hx22, hb25, hb26]
            refine JoinQ.mk (decide ((57 : Int) < (c21.toNat : Int))) [] (Option.some.inj h) (by simp only [go_sem, reduceEqDiff, reduceAdd, reduceSub, reduceMul, reduceLeDiff, reduceLT, Nat.reduceBEq, reduceIte, hx22, hb25, hb26])
          have h := ifF hb25 h
          try simp only [go_sem, reduceEqDiff, reduceAdd, reduceSub, reduceMul, reduceLeDiff, reduceLT, Nat.reduceBEq, reduceIte, hx22, hb25]
          refine JoinQ.mk false [] (Option.some.inj h) (by simp only [go_sem, reduceEqDiff, reduceAdd, reduceSub, reduceMul, reduceLeDiff, reduceLT, Nat.reduceBEq, reduceIte, hx22, hb25])
        rintro v19_0 rfl
        have h := hJ20
        try dsimp only [Out.fin] at h
        refine nz ?_
        refine AW.ts v19_0 (fun hb27 => ?_) (fun hb27 => ?_)
        · have h := ifT hb27 h
          refine AW.op mixed ?_
          refine AW.ret ?_
          obtain ⟨_, h, ho⟩ := outM_some h
          rw [ho, Out.fin_out] at hJ18
          have h := h.trans hJ18
          obtain ⟨_, h, ho⟩ := outM_some h
          rw [ho, Out.fin_out] at hJ15
          have h := h.trans hJ15
          obtain rfl := Option.some.inj h
          refine nz ?_
          exact .same _
        have h := ifF hb27 h
        refine AW.sk ?_
        exact JoinQ.ar () [] (Option.some.inj h).symm
      rintro ⟨⟩ rfl
      have h := hJ18
      try dsimp only [Out.fin] at h
      refine nz ?_
      refine AW.rg mixed ?_
      exact NextQ.ar (IntKind.wrap .i64 (i12_0 + (1 : Int))) [] h
    have h := ifF hb16 h
    refine AW.ex ?_
    exact JoinQ.ar () [] (Option.some.inj h).symm
  rintro ⟨⟩ rfl
  have h := hJ15
  try dsimp only [Out.fin] at h
  refine nz ?_
  refine AW.kp [] [0] ?_
  refine AW.one ?_
  refine AW.op mixed ?_
  refine AW.kp [] [41] ?_
  refine AW.block ?_
  refine AW.one ?_
  refine obindE h fun oJ29 h hJ29 => ?_
  refine AW.join (S := Bool) (fun v28_0 => [(42, .d (.val (.bool v28_0)))]) (fun v28_0 => []) (fun x => x = oJ29) ?_ ?_
  · skip
    refine AW.op mixed ?_
    refine AW.kp [] [41, 42] ?_
    refine AW.ts (p0.toList == (⟨#[116, 114, 117, 101]⟩ : ByteArray).toList) (fun hb30 => ?_) (fun hb30 => ?_)
    · have h := ifT hb30 h
      refine AW.sk ?_
      exact JoinQ.ar (p0.toList == (⟨#[116, 114, 117, 101]⟩ : ByteArray).toList) [] (Option.some.inj h)
    have h := ifF hb30 h
    refine AW.op mixed ?_
    refine AW.kp [] [41, 42] ?_
    refine AW.ts (p0.toList == (⟨#[102, 97, 108, 115, 101]⟩ : ByteArray).toList) (fun hb31 => ?_) (fun hb31 => ?_)
    · have h := ifT hb31 h
      refine AW.sk ?_
      exact JoinQ.ar (p0.toList == (⟨#[102, 97, 108, 115, 101]⟩ : ByteArray).toList) [] (Option.some.inj h)
    have h := ifF hb31 h
    refine AW.op mixed ?_
    refine AW.kp [] [41, 42] ?_
    refine AW.ts (p0.toList == (⟨#[102, 111, 114, 97, 108, 108]⟩ : ByteArray).toList) (fun hb32 => ?_) (fun hb32 => ?_)
    · have h := ifT hb32 h
      refine AW.sk ?_
      exact JoinQ.ar (p0.toList == (⟨#[102, 111, 114, 97, 108, 108]⟩ : ByteArray).toList) [] (Option.some.inj h)
    have h := ifF hb32 h
    refine AW.rg mixed ?_
    exact JoinQ.ar (p0.toList == (⟨#[101, 120, 105, 115, 116, 115]⟩ : ByteArray).toList) [] (Option.some.inj h)
  rintro v28_0 rfl
  have h := hJ29
  try dsimp only [Out.fin] at h
  refine nz ?_
  refine AW.ts v28_0 (fun hb33 => ?_) (fun hb33 => ?_)
  · have h := ifT hb33 h
    refine AW.op mixed ?_
    refine AW.ret ?_
    obtain rfl := Option.some.inj h
    refine nz ?_
    exact .same _
  have h := ifF hb33 h
  refine AW.sk ?_
  refine AW.kp [] [] ?_
  refine AW.op mixed ?_
  refine AW.ret ?_
  obtain rfl := Option.some.inj h
  refine nz ?_
  exact .same _
/-! ### isochrone/tree.differentiable -/
def tree_differentiable_body (K : Nat) (self111 : NodeA → Option Bool) (p0 : NodeA) : Option Bool := ((
    if (p0.op == (20 : Int)) then
      some (p0.op == (20 : Int))
    else
      if (p0.op == (21 : Int)) then
        some (p0.op == (21 : Int))
      else
        if (p0.op == (22 : Int)) then
          some (p0.op == (22 : Int))
        else
          if (p0.op == (23 : Int)) then
            some (p0.op == (23 : Int))
          else
            if (p0.op == (24 : Int)) then
              some (p0.op == (24 : Int))
            else
              if (p0.op == (25 : Int)) then
                some (p0.op == (25 : Int))
              else
                if (p0.op == (26 : Int)) then
                  some (p0.op == (26 : Int))
                else
                  if (p0.op == (27 : Int)) then
                    some (p0.op == (27 : Int))
                  else
                    if (p0.op == (37 : Int)) then
                      some (p0.op == (37 : Int))
                    else
                      some (p0.op == (38 : Int))) : Option Bool).bind (fun v1_0 => 
  if v1_0 then
    some true
  else
    ((
      if (p0.op == (29 : Int)) then
        some (p0.op == (29 : Int))
      else
        some (p0.op == (30 : Int))) : Option Bool).bind (fun v13_0 => 
    if v13_0 then
      ((iter (S := Int) (R := Out Unit _) K (fun again i17_0 => 
        if (decide (i17_0 < (p0.kids.length : Int))) then
          (idx p0.kids i17_0).bind fun x22 => 
          (self111 (x22)).bind fun r24 => 
          if (!r24) then
            outM (
              some false)
          else
            again (IntKind.wrap .i64 (i17_0 + (1 : Int)))
        else
          some (.go ())) (0 : Int)) : Option (Out Unit _)).bind (Out.fin fun _ => 
      some true)
    else
      some false))
set_option maxHeartbeats 4000000 in
theorem tree_differentiable_step (K : Nat) (self111 : NodeA → Option Bool) (hself111 : ∀ (q : NodeA) (r : Bool), self111 q = some r → Cn Tryz.prog 111 [aggV q.enc] (.d (.val (.bool r)))) (p0 : NodeA) (r : Bool) (h : tree_differentiable_body K self111 p0 = some r) : Cn Tryz.prog 111 [aggV p0.enc] (.d (.val (.bool r))) := by
  refine Cn.ofA mixed Tryz.func111 rfl Tryz.call111 Tryz.ntmps111 Tryz.results111 (by simp) (by simp only [go_sem, reduceEqDiff, reduceAdd, reduceSub, reduceMul, reduceLeDiff, reduceLT, Nat.reduceBEq, reduceIte]) fun hfit => ?_
  unfold tree_differentiable_body at h
  refine AW.kp [] [0] ?_
  refine AW.op mixed ?_
  refine AW.kp [0] [1] ?_
  refine AW.one ?_
  refine AW.op mixed ?_
  refine AW.kp [0] [1, 6] ?_
  refine AW.block ?_
  refine AW.one ?_
  refine obindE h fun oJ2 h hJ2 => ?_
  refine AW.join (S := Bool) (fun v1_0 => [(1, .ptr 0 6 0 0), (6, .d (.val (.int .i64 p0.op))), (7, .d (.val (.bool v1_0)))]) (fun v1_0 => [some ⟨6, [[.d (.val (.int .i64 p0.op)), .d (.val (.string p0.name)), .d (.val (.bool p0.num.neg)), .d (slD u32V p0.num.num), .d (slD u32V p0.num.den), .d (slD NodeA.enc p0.kids)]]⟩]) (fun x => x = oJ2) ?_ ?_
  · skip
    refine AW.op mixed ?_
    refine AW.kp [0] [1, 6, 7] ?_
    refine AW.ts (p0.op == (20 : Int)) (fun hb3 => ?_) (fun hb3 => ?_)
    · have h := ifT hb3 h
      refine AW.sk ?_
      exact JoinQ.ar (p0.op == (20 : Int)) [0] (Option.some.inj h)
    have h := ifF hb3 h
    refine AW.op mixed ?_
    refine AW.kp [0] [1, 6, 7] ?_
    refine AW.ts (p0.op == (21 : Int)) (fun hb4 => ?_) (fun hb4 => ?_)
    · have h := ifT hb4 h
      refine AW.sk ?_
      exact JoinQ.ar (p0.op == (21 : Int)) [0] (Option.some.inj h)
    have h := ifF hb4 h
    refine AW.op mixed ?_
    refine AW.kp [0] [1, 6, 7] ?_
    refine AW.ts (p0.op == (22 : Int)) (fun hb5 => ?_) (fun hb5 => ?_)
    · have h := ifT hb5 h
      refine AW.sk ?_
      exact JoinQ.ar (p0.op == (22 : Int)) [0] (Option.some.inj h)
    have h := ifF hb5 h
    refine AW.op mixed ?_
    refine AW.kp [0] [1, 6, 7] ?_
    refine AW.ts (p0.op == (23 : Int)) (fun hb6 => ?_) (fun hb6 => ?_)
    · have h := ifT hb6 h
      refine AW.sk ?_
      exact JoinQ.ar (p0.op == (23 : Int)) [0] (Option.some.inj h)
    have h := ifF hb6 h
    refine AW.op mixed ?_
    refine AW.kp [0] [1, 6, 7] ?_
    refine AW.ts (p0.op == (24 : Int)) (fun hb7 => ?_) (fun hb7 => ?_)
    · have h := ifT hb7 h
      refine AW.sk ?_
      exact JoinQ.ar (p0.op == (24 : Int)) [0] (Option.some.inj h)
    have h := ifF hb7 h
    refine AW.op mixed ?_
    refine AW.kp [0] [1, 6, 7] ?_
    refine AW.ts (p0.op == (25 : Int)) (fun hb8 => ?_) (fun hb8 => ?_)
    · have h := ifT hb8 h
      refine AW.sk ?_
      exact JoinQ.ar (p0.op == (25 : Int)) [0] (Option.some.inj h)
    have h := ifF hb8 h
    refine AW.op mixed ?_
    refine AW.kp [0] [1, 6, 7] ?_
    refine AW.ts (p0.op == (26 : Int)) (fun hb9 => ?_) (fun hb9 => ?_)
    · have h := ifT hb9 h
      refine AW.sk ?_
      exact JoinQ.ar (p0.op == (26 : Int)) [0] (Option.some.inj h)
    have h := ifF hb9 h
    refine AW.op mixed ?_
    refine AW.kp [0] [1, 6, 7] ?_
    refine AW.ts (p0.op == (27 : Int)) (fun hb10 => ?_) (fun hb10 => ?_)
    · have h := ifT hb10 h
      refine AW.sk ?_
      exact JoinQ.ar (p0.op == (27 : Int)) [0] (Option.some.inj h)
    have h := ifF hb10 h
    refine AW.op mixed ?_
    refine AW.kp [0] [1, 6, 7] ?_
    refine AW.ts (p0.op == (37 : Int)) (fun hb11 => ?_) (fun hb11 => ?_)
    · have h := ifT hb11 h
      refine AW.sk ?_
      exact JoinQ.ar (p0.op == (37 : Int)) [0] (Option.some.inj h)
    have h := ifF hb11 h
    refine AW.rg mixed ?_
    exact JoinQ.ar (p0.op == (38 : Int)) [0] (Option.some.inj h)
  rintro v1_0 rfl
  have h := hJ2
  try dsimp only [Out.fin] at h
  refine nz ?_
  refine AW.ts v1_0 (fun hb12 => ?_) (fun hb12 => ?_)
  · have h := ifT hb12 h
    refine AW.op mixed ?_
    refine AW.ret ?_
    obtain rfl := Option.some.inj h
    refine nz ?_
    exact .same _
  have h := ifF hb12 h
  refine AW.one ?_
  refine obindE h fun oJ14 h hJ14 => ?_
  refine AW.join (S := Bool) (fun v13_0 => [(1, .ptr 0 6 0 0), (18, .d (.val (.bool v13_0)))]) (fun v13_0 => [some ⟨6, [[.d (.val (.int .i64 p0.op)), .d (.val (.string p0.name)), .d (.val (.bool p0.num.neg)), .d (slD u32V p0.num.num), .d (slD u32V p0.num.den), .d (slD NodeA.enc p0.kids)]]⟩]) (fun x => x = oJ14) ?_ ?_
  · skip
    refine AW.op mixed ?_
    refine AW.kp [0] [1, 6, 18] ?_
    refine AW.ts (p0.op == (29 : Int)) (fun hb15 => ?_) (fun hb15 => ?_)
    · have h := ifT hb15 h
      refine AW.sk ?_
      exact JoinQ.ar (p0.op == (29 : Int)) [0] (Option.some.inj h)
    have h := ifF hb15 h
    refine AW.rg mixed ?_
    exact JoinQ.ar (p0.op == (30 : Int)) [0] (Option.some.inj h)
  rintro v13_0 rfl
  have h := hJ14
  try dsimp only [Out.fin] at h
  refine nz ?_
  refine AW.ts v13_0 (fun hb16 => ?_) (fun hb16 => ?_)
  · have h := ifT hb16 h
    refine AW.one ?_
    refine AW.op mixed ?_
    refine AW.kp [] [22, 23, 24] ?_
    refine obindE h fun oJ20 h hJ20 => ?_
    refine AW.join (S := Unit) (fun _ => []) (fun _ => []) (fun x => oJ20 = .go x) ?_ ?_
    · refine AW.block ?_
      refine AW.iter (S := Int) (fun i17_0 => [(22, .d (slD NodeA.enc p0.kids)), (23, .d (.val (.int .i64 (p0.kids.length : Int)))), (24, .d (.val (.int .i64 i17_0)))]) (fun i17_0 => []) [] h (by simp only [go_sem, reduceEqDiff, reduceAdd, reduceSub, reduceMul, reduceLeDiff, reduceLT, Nat.reduceBEq, reduceIte]) ?_
      rintro again i17_0 h
      try dsimp only at h
      refine AW.op mixed ?_
      refine AW.kp [] [22, 23, 24, 25] ?_
      refine AW.one ?_
      refine AW.ts (decide (i17_0 < (p0.kids.length : Int))) (fun hb21 => ?_) (fun hb21 => ?_)
      · have h := ifT hb21 h
        refine AW.sk ?_
        refine AW.kp [] [22, 23, 24] ?_
        refine AW.one ?_
        refine AW.block ?_
        refine AW.one ?_
        refine AW.reg mixed (by kernel_rfl) ?_
        apply obindE h; intro x22 hx23 h
        try simp only [go_sem, reduceEqDiff, reduceAdd, reduceSub, reduceMul, reduceLeDiff, reduceLT, Nat.reduceBEq, reduceIte, (idx_some hx23).1, (idx_some hx23).2]
        refine AW.cut [2] [(4, .ptr 0 6 0 0), (22, .d (slD NodeA.enc p0.kids)), (23, .d (.val (.int .i64 (p0.kids.length : Int)))), (24, .d (.val (.int .i64 i17_0)))] [some ⟨6, [[.d (.val (.int .i64 x22.op)), .d (.val (.string x22.name)), .d (.val (.bool x22.num.neg)), .d (slD u32V x22.num.num), .d (slD u32V x22.num.den), .d (slD NodeA.enc x22.kids)]]⟩] (by simp only [go_sem, reduceEqDiff, reduceAdd, reduceSub, reduceMul, reduceLeDiff, reduceLT, Nat.reduceBEq, reduceIte, (idx_some hx23).1, (idx_some hx23).2]) ?_
        refine AW.op mixed ?_
        apply obindE h; intro r24 hx25 h
        have hc := nx (hself111 _ _ hx25)
        refine callP hc ?_
        refine AW.kp [] [22, 23, 24, 30] ?_
        refine AW.ts (!r24) (fun hb26 => ?_) (fun hb26 => ?_)
        · have h := ifT hb26 h
          refine AW.op mixed ?_
          refine AW.ret ?_
          obtain ⟨_, h, ho⟩ := outM_some h
          rw [ho, Out.fin_out] at hJ20
          have h := h.trans hJ20
          obtain rfl := Option.some.inj h
          refine nz ?_
          exact .same _
        have h := ifF hb26 h
        refine AW.sk ?_
        refine AW.kp [] [22, 23, 24] ?_
        refine AW.rg mixed ?_
        exact NextQ.ar (IntKind.wrap .i64 (i17_0 + (1 : Int))) [] h
      have h := ifF hb21 h
      refine AW.ex ?_
      exact JoinQ.ar () [] (Option.some.inj h).symm
    rintro ⟨⟩ rfl
    have h := hJ20
    try dsimp only [Out.fin] at h
    refine nz ?_
    refine AW.kp [] [] ?_
    refine AW.op mixed ?_
    refine AW.ret ?_
    obtain rfl := Option.some.inj h
    refine nz ?_
    exact .same _
  have h := ifF hb16 h
  refine AW.sk ?_
  refine AW.kp [] [] ?_
  refine AW.op mixed ?_
  refine AW.ret ?_
  obtain rfl := Option.some.inj h
  refine nz ?_
  exact .same _
def tree_differentiable (K : Nat) (p0 : NodeA) : Option Bool := iter K (fun self q => tree_differentiable_body K self q) p0
theorem key_tree_differentiable {K : Nat} (k : Nat) : (∀ (q : NodeA) (r : Bool), iter k (fun self q => tree_differentiable_body K self q) q = some r → Cn Tryz.prog 111 [aggV q.enc] (.d (.val (.bool r)))) := by
  induction k with
  | zero => exact fun q r h => by cases h
  | succ k ih => exact fun q r h => tree_differentiable_step K _ ih q r h
theorem tree_differentiable_ok {K : Nat} {p0 : NodeA} {r : Bool} (h : tree_differentiable K p0 = some r) : Cn Tryz.prog 111 [aggV p0.enc] (.d (.val (.bool r))) := (key_tree_differentiable K) p0 r h
/-! ### isochrone/num.valid -/
def num_valid (K : Nat) (p0 : List Int) (p1 : Int) : Option Bool := if (decide ((p0.length : Int) ≤ p1)) then
    if ((p0.length : Int) == (0 : Int)) then
      some true
    else
      (idx p0 (IntKind.wrap .i64 ((p0.length : Int) - (1 : Int)))).bind fun x3 => 
      some (x3 != (0 : Int))
  else
    some false
set_option maxHeartbeats 4000000 in
theorem num_valid_ok {K : Nat} {p0 : List Int} {p1 : Int} {r : Bool} (h : num_valid K p0 p1 = some r) : Cn Tryz.prog 149 [.d (slD u32V p0), .d (.val (.int .i64 p1))] (.d (.val (.bool r))) := by
  refine Cn.ofA mixed Tryz.func149 rfl Tryz.call149 Tryz.ntmps149 Tryz.results149 (by simp) (by simp only [go_sem, reduceEqDiff, reduceAdd, reduceSub, reduceMul, reduceLeDiff, reduceLT, Nat.reduceBEq, reduceIte]) fun hfit => ?_
  unfold num_valid at h
  refine AW.kp [] [0, 1] ?_
  refine AW.op mixed ?_
  refine AW.kp [] [0, 1] ?_
  refine AW.op mixed ?_
  refine splitK_intro (fun hb1 => ?_) (fun hb1 => ?_)
  · have h := ifT hb1 h
    try simp only [go_sem, reduceEqDiff, reduceAdd, reduceSub, reduceMul, reduceLeDiff, reduceLT, Nat.reduceBEq, reduceIte, hb1]
    refine splitK_intro (fun hb2 => ?_) (fun hb2 => ?_)
    · have h := ifT hb2 h
      try simp only [go_sem, reduceEqDiff, reduceAdd, reduceSub, reduceMul, reduceLeDiff, reduceLT, Nat.reduceBEq, reduceIte, hb1, hb2]
      refine AW.ret ?_
      obtain rfl := Option.some.inj h
      refine nz ?_
      exact .same _
    have h := ifF hb2 h
    apply obindE h; intro x3 hx4 h
    try simp only [go_sem, reduceEqDiff, reduceAdd, reduceSub, reduceMul, reduceLeDiff, reduceLT, Nat.reduceBEq, reduceIte, hb1, hb2, (idx_some hx4).1, (idx_some hx4).2]
    refine AW.ret ?_
    obtain rfl := Option.some.inj h
    refine nz ?_
    exact .same _
  have h := ifF hb1 h
  try simp only [go_sem, reduceEqDiff, reduceAdd, reduceSub, reduceMul, reduceLeDiff, reduceLT, Nat.reduceBEq, reduceIte, hb1]
  refine AW.ret ?_
  obtain rfl := Option.some.inj h
  refine nz ?_
  exact .same _
/-! ### isochrone/num.Valid -/
def num_Valid (K : Nat) (p0 : RatA) (p1 : Int) : Option Bool := ((
    ((
      (num_valid K p0.num p1).bind fun r5 => 
      if (!r5) then
        some true
      else
        (num_valid K p0.den p1).bind fun r8 => 
        if (!r8) then
          some true
        else
          some ((p0.den.length : Int) == (0 : Int))) : Option Bool).bind (fun v3_0 => 
    if v3_0 then
      outM (
        some false)
    else
      some (.go ()))) : Option (Out Unit _)).bind (Out.fin fun _ => 
  if ((p0.num.length : Int) == (0 : Int)) then
    if (!p0.neg) then
      if ((p0.den.length : Int) == (1 : Int)) then
        (idx p0.den (0 : Int)).bind fun x15 => 
        some (x15 == (1 : Int))
      else
        some false
    else
      some false
  else
    ((
      ((
        if ((p0.den.length : Int) == (1 : Int)) then
          (idx p0.den (0 : Int)).bind fun x22 => 
          some (x22 == (1 : Int))
        else
          some false) : Option Bool).bind (fun v19_0 => 
      if v19_0 then
        outM (
          some true)
      else
        some (.go ()))) : Option (Out Unit _)).bind (Out.fin fun _ => 
    none))
set_option maxHeartbeats 4000000 in
theorem num_Valid_ok {K : Nat} {p0 : RatA} {p1 : Int} {r : Bool} (h : num_Valid K p0 p1 = some r) : Cn Tryz.prog 136 [aggV p0.enc, .d (.val (.int .i64 p1))] (.d (.val (.bool r))) := by
  refine Cn.ofA mixed Tryz.func136 rfl Tryz.call136 Tryz.ntmps136 Tryz.results136 (by simp) (by simp only [go_sem, reduceEqDiff, reduceAdd, reduceSub, reduceMul, reduceLeDiff, reduceLT, Nat.reduceBEq, reduceIte]) fun hfit => ?_
  unfold num_Valid at h
  refine AW.kp [] [0, 1] ?_
  refine AW.op mixed ?_
  refine AW.kp [0] [1, 2] ?_
  refine AW.one ?_
  refine obindE h fun oJ2 h hJ2 => ?_
  refine AW.join (S := Unit) (fun _ => [(2, .ptr 0 3 0 0)]) (fun _ => [some ⟨3, [[.d (.val (.bool p0.neg)), .d (slD u32V p0.num), .d (slD u32V p0.den)]]⟩]) (fun x => oJ2 = .go x) ?_ ?_
  · skip
    refine AW.one ?_
    refine obindE h fun oJ4 h hJ4 => ?_
    refine AW.join (S := Bool) (fun v3_0 => [(2, .ptr 0 3 0 0), (23, .d (.val (.bool v3_0)))]) (fun v3_0 => [some ⟨3, [[.d (.val (.bool p0.neg)), .d (slD u32V p0.num), .d (slD u32V p0.den)]]⟩]) (fun x => x = oJ4) ?_ ?_
    · skip
      refine AW.rg mixed ?_
      apply obindE h; intro r5 hx6 h
      have hc := nx (num_valid_ok (h := hx6))
      refine callP hc ?_
      refine splitK_intro (fun hb7 => ?_) (fun hb7 => ?_)
      · have h := ifT hb7 h
        try simp only [go_sem, reduceEqDiff, reduceAdd, reduceSub, reduceMul, reduceLeDiff, reduceLT, Nat.reduceBEq, reduceIte, hb7]
        refine JoinQ.mk true [0] (Option.some.inj h) (by simp only [go_sem, reduceEqDiff, reduceAdd, reduceSub, reduceMul, reduceLeDiff, reduceLT, Nat.reduceBEq, reduceIte, hb7])
      have h := ifF hb7 h
      try simp only [go_sem, reduceEqDiff, reduceAdd, reduceSub, reduceMul, reduceLeDiff, reduceLT, Nat.reduceBEq, reduceIte, hb7]
      apply obindE h; intro r8 hx9 h
      have hc := nx (num_valid_ok (h := hx9))
      refine callK_pure hc (by simp only [go_sem, reduceEqDiff, reduceAdd, reduceSub, reduceMul, reduceLeDiff, reduceLT, Nat.reduceBEq, reduceIte]) ?_
      try simp only [go_sem, reduceEqDiff, reduceAdd, reduceSub, reduceMul, reduceLeDiff, reduceLT, Nat.reduceBEq, reduceIte, hb7]
      refine splitK_intro (fun hb10 => ?_) (fun hb10 => ?_)
      · have h := ifT hb10 h
        try simp only [go_sem, reduceEqDiff, reduceAdd, reduceSub, reduceMul, reduceLeDiff, reduceLT, Nat.reduceBEq, reduceIte, hb7, hb10]
        refine JoinQ.mk true [0] (Option.some.inj h) (by simp only [go_sem, reduceEqDiff, reduceAdd, reduceSub, reduceMul, reduceLeDiff, reduceLT, Nat.reduceBEq, reduceIte, hb7, hb10])
      have h := ifF hb10 h
      try simp only [go_sem, reduceEqDiff, reduceAdd, reduceSub, reduceMul, reduceLeDiff, reduceLT, Nat.reduceBEq, reduceIte, hb7, hb10]
      refine JoinQ.mk ((p0.den.length : Int) == (0 : Int)) [0] (Option.some.inj h) (by simp only [go_sem, reduceEqDiff, reduceAdd, reduceSub, reduceMul, reduceLeDiff, reduceLT, Nat.reduceBEq, reduceIte, hb7, hb10])
    rintro v3_0 rfl
    have h := hJ4
    try dsimp only [Out.fin] at h
    refine nz ?_
    refine AW.ts v3_0 (fun hb11 => ?_) (fun hb11 => ?_)
    · have h := ifT hb11 h
      refine AW.op mixed ?_
      refine AW.ret ?_
      obtain ⟨_, h, ho⟩ := outM_some h
      rw [ho, Out.fin_out] at hJ2
      have h := h.trans hJ2
      obtain rfl := Option.some.inj h
      refine nz ?_
      exact .same _
    have h := ifF hb11 h
    refine AW.sk ?_
    exact JoinQ.ar () [0] (Option.some.inj h).symm
  rintro ⟨⟩ rfl
  have h := hJ2
  try dsimp only [Out.fin] at h
  refine nz ?_
  refine AW.one ?_
  refine AW.op mixed ?_
  refine AW.kp [0] [2, 27] ?_
  refine AW.ts ((p0.num.length : Int) == (0 : Int)) (fun hb12 => ?_) (fun hb12 => ?_)
  · have h := ifT hb12 h
    refine AW.op mixed ?_
    refine splitK_intro (fun hb13 => ?_) (fun hb13 => ?_)
    · have h := ifT hb13 h
      try simp only [go_sem, reduceEqDiff, reduceAdd, reduceSub, reduceMul, reduceLeDiff, reduceLT, Nat.reduceBEq, reduceIte, hb13]
      refine splitK_intro (fun hb14 => ?_) (fun hb14 => ?_)
      · have h := ifT hb14 h
        apply obindE h; intro x15 hx16 h
        try simp only [go_sem, reduceEqDiff, reduceAdd, reduceSub, reduceMul, reduceLeDiff, reduceLT, Nat.reduceBEq, reduceIte, hb13, hb14, (idx_some hx16).1, (idx_some hx16).2]
        refine AW.ret ?_
        obtain rfl := Option.some.inj h
        refine nz ?_
        exact .same _
      have h := ifF hb14 h
      try simp only [go_sem, reduceEqDiff, reduceAdd, reduceSub, reduceMul, reduceLeDiff, reduceLT, Nat.reduceBEq, reduceIte, hb13, hb14]
      refine AW.ret ?_
      obtain rfl := Option.some.inj h
      refine nz ?_
      exact .same _
    have h := ifF hb13 h
    try simp only [go_sem, reduceEqDiff, reduceAdd, reduceSub, reduceMul, reduceLeDiff, reduceLT, Nat.reduceBEq, reduceIte, hb13]
    refine AW.ret ?_
    obtain rfl := Option.some.inj h
    refine nz ?_
    exact .same _
  have h := ifF hb12 h
  refine AW.sk ?_
  refine AW.kp [0] [2] ?_
  refine AW.one ?_
  refine obindE h fun oJ18 h hJ18 => ?_
  refine AW.join (S := Unit) (fun _ => [(2, .ptr 0 3 0 0)]) (fun _ => [some ⟨3, [[.d (.val (.bool p0.neg)), .d (slD u32V p0.num), .d (slD u32V p0.den)]]⟩]) (fun x => oJ18 = .go x) ?_ ?_
  · skip
    refine AW.one ?_
    refine obindE h fun oJ20 h hJ20 => ?_
    refine AW.join (S := Bool) (fun v19_0 => [(2, .ptr 0 3 0 0), (54, .d (.val (.bool v19_0)))]) (fun v19_0 => [some ⟨3, [[.d (.val (.bool p0.neg)), .d (slD u32V p0.num), .d (slD u32V p0.den)]]⟩]) (fun x => x = oJ20) ?_ ?_
    · skip
      refine AW.rg mixed ?_
      refine splitK_intro (fun hb21 => ?_) (fun hb21 => ?_)
      · have h := ifT hb21 h
        apply obindE h; intro x22 hx23 h
        try simp only [go_sem, reduceEqDiff, reduceAdd, reduceSub, reduceMul, reduceLeDiff, reduceLT, Nat.reduceBEq, reduceIte, hb21, (idx_some hx23).1, (idx_some hx23).2]
        refine JoinQ.mk (x22 == (1 : Int)) [0] (Option.some.inj h) (by simp only [go_sem, reduceEqDiff, reduceAdd, reduceSub, reduceMul, reduceLeDiff, reduceLT, Nat.reduceBEq, reduceIte, hb21, (idx_some hx23).1, (idx_some hx23).2])
      have h := ifF hb21 h
      try simp only [go_sem, reduceEqDiff, reduceAdd, reduceSub, reduceMul, reduceLeDiff, reduceLT, Nat.reduceBEq, reduceIte, hb21]
      refine JoinQ.mk false [0] (Option.some.inj h) (by simp only [go_sem, reduceEqDiff, reduceAdd, reduceSub, reduceMul, reduceLeDiff, reduceLT, Nat.reduceBEq, reduceIte, hb21])
    rintro v19_0 rfl
    have h := hJ20
    try dsimp only [Out.fin] at h
    refine nz ?_
    refine AW.ts v19_0 (fun hb24 => ?_) (fun hb24 => ?_)
    · have h := ifT hb24 h
      refine AW.op mixed ?_
      refine AW.ret ?_
      obtain ⟨_, h, ho⟩ := outM_some h
      rw [ho, Out.fin_out] at hJ18
      have h := h.trans hJ18
      obtain rfl := Option.some.inj h
      refine nz ?_
      exact .same _
    have h := ifF hb24 h
    refine AW.sk ?_
    exact JoinQ.ar () [0] (Option.some.inj h).symm
  rintro ⟨⟩ rfl
  have h := hJ18
  try dsimp only [Out.fin] at h
  refine nz ?_
  refine AW.one ?_
  refine AW.reg mixed (by kernel_rfl) ?_
  cases h
/-! ### isochrone/rat.Valid -/
def rat_Valid (K : Nat) (p0 : RatA) : Option Bool := (num_Valid K p0 (4096 : Int)).bind fun r1 => 
  some r1
set_option maxHeartbeats 4000000 in
theorem rat_Valid_ok {K : Nat} {p0 : RatA} {r : Bool} (h : rat_Valid K p0 = some r) : Cn Tryz.prog 125 [aggV p0.enc] (.d (.val (.bool r))) := by
  refine Cn.ofA mixed Tryz.func125 rfl Tryz.call125 Tryz.ntmps125 Tryz.results125 (by simp) (by simp only [go_sem, reduceEqDiff, reduceAdd, reduceSub, reduceMul, reduceLeDiff, reduceLT, Nat.reduceBEq, reduceIte]) fun hfit => ?_
  unfold rat_Valid at h
  refine AW.kp [] [0] ?_
  refine AW.op mixed ?_
  refine AW.kp [0] [1] ?_
  refine AW.op mixed ?_
  apply obindE h; intro r1 hx2 h
  have hc := nx (num_Valid_ok (h := hx2))
  refine callP hc ?_
  refine AW.ret ?_
  obtain rfl := Option.some.inj h
  refine nz ?_
  exact .same _
/-! ### isochrone/tree.natural -/
def tree_natural (K : Nat) (p0 : RatA) : Option Bool := if (!p0.neg) then
    if ((p0.den.length : Int) == (1 : Int)) then
      (idx p0.den (0 : Int)).bind fun x3 => 
      if (x3 == (1 : Int)) then
        if (decide ((p0.num.length : Int) ≤ (20 : Int))) then
          (rat_Valid K p0).bind fun r7 => 
          some r7
        else
          some false
      else
        some false
    else
      some false
  else
    some false
set_option maxHeartbeats 4000000 in
theorem tree_natural_ok {K : Nat} {p0 : RatA} {r : Bool} (h : tree_natural K p0 = some r) : Cn Tryz.prog 109 [aggV p0.enc] (.d (.val (.bool r))) := by
  refine Cn.ofA mixed Tryz.func109 rfl Tryz.call109 Tryz.ntmps109 Tryz.results109 (by simp) (by simp only [go_sem, reduceEqDiff, reduceAdd, reduceSub, reduceMul, reduceLeDiff, reduceLT, Nat.reduceBEq, reduceIte]) fun hfit => ?_
  unfold tree_natural at h
  refine AW.kp [] [0] ?_
  refine AW.op mixed ?_
  refine AW.kp [0] [1] ?_
  refine AW.op mixed ?_
  refine splitK_intro (fun hb1 => ?_) (fun hb1 => ?_)
  · have h := ifT hb1 h
    try simp only [go_sem, reduceEqDiff, reduceAdd, reduceSub, reduceMul, reduceLeDiff, reduceLT, Nat.reduceBEq, reduceIte, hb1]
    refine splitK_intro (fun hb2 => ?_) (fun hb2 => ?_)
    · have h := ifT hb2 h
      apply obindE h; intro x3 hx4 h
      try simp only [go_sem, reduceEqDiff, reduceAdd, reduceSub, reduceMul, reduceLeDiff, reduceLT, Nat.reduceBEq, reduceIte, hb1, hb2, (idx_some hx4).1, (idx_some hx4).2]
      refine splitK_intro (fun hb5 => ?_) (fun hb5 => ?_)
      · have h := ifT hb5 h
        try simp only [go_sem, reduceEqDiff, reduceAdd, reduceSub, reduceMul, reduceLeDiff, reduceLT, Nat.reduceBEq, reduceIte, hb1, hb2, (idx_some hx4).1, (idx_some hx4).2, hb5]
        refine splitK_intro (fun hb6 => ?_) (fun hb6 => ?_)
        · have h := ifT hb6 h
          try simp only [go_sem, reduceEqDiff, reduceAdd, reduceSub, reduceMul, reduceLeDiff, reduceLT, Nat.reduceBEq, reduceIte, hb1, hb2, (idx_some hx4).1, (idx_some hx4).2, hb5, hb6]
          apply obindE h; intro r7 hx8 h
          have hc := nx (rat_Valid_ok (h := hx8))
          refine callK_pure hc (by simp only [go_sem, reduceEqDiff, reduceAdd, reduceSub, reduceMul, reduceLeDiff, reduceLT, Nat.reduceBEq, reduceIte]) ?_
          try simp only [go_sem, reduceEqDiff, reduceAdd, reduceSub, reduceMul, reduceLeDiff, reduceLT, Nat.reduceBEq, reduceIte, hb1, hb2, (idx_some hx4).1, (idx_some hx4).2, hb5, hb6]
          refine AW.ret ?_
          obtain rfl := Option.some.inj h
          refine nz ?_
          exact .same _
        have h := ifF hb6 h
        try simp only [go_sem, reduceEqDiff, reduceAdd, reduceSub, reduceMul, reduceLeDiff, reduceLT, Nat.reduceBEq, reduceIte, hb1, hb2, (idx_some hx4).1, (idx_some hx4).2, hb5, hb6]
        refine AW.ret ?_
        obtain rfl := Option.some.inj h
        refine nz ?_
        exact .same _
      have h := ifF hb5 h
      try simp only [go_sem, reduceEqDiff, reduceAdd, reduceSub, reduceMul, reduceLeDiff, reduceLT, Nat.reduceBEq, reduceIte, hb1, hb2, (idx_some hx4).1, (idx_some hx4).2, hb5]
      refine AW.ret ?_
      obtain rfl := Option.some.inj h
      refine nz ?_
      exact .same _
    have h := ifF hb2 h
    try simp only [go_sem, reduceEqDiff, reduceAdd, reduceSub, reduceMul, reduceLeDiff, reduceLT, Nat.reduceBEq, reduceIte, hb1, hb2]
    refine AW.ret ?_
    obtain rfl := Option.some.inj h
    refine nz ?_
    exact .same _
  have h := ifF hb1 h
  try simp only [go_sem, reduceEqDiff, reduceAdd, reduceSub, reduceMul, reduceLeDiff, reduceLT, Nat.reduceBEq, reduceIte, hb1]
  refine AW.ret ?_
  obtain rfl := Option.some.inj h
  refine nz ?_
  exact .same _
/-! ### isochrone/tree.shape -/
def tree_shape (K : Nat) (p0 : Int) : Option (Bool × (Option (List Int))) := ((
    if (p0 == (1 : Int)) then
      some (p0 == (1 : Int))
    else
      if (p0 == (13 : Int)) then
        some (p0 == (13 : Int))
      else
        if (p0 == (20 : Int)) then
          some (p0 == (20 : Int))
        else
          some (p0 == (21 : Int))) : Option Bool).bind (fun v1_0 => 
  if v1_0 then
    some (false, none)
  else
    ((
      if (p0 == (2 : Int)) then
        some (p0 == (2 : Int))
      else
        if (p0 == (3 : Int)) then
          some (p0 == (3 : Int))
        else
          if (p0 == (11 : Int)) then
            some (p0 == (11 : Int))
          else
            if (p0 == (38 : Int)) then
              some (p0 == (38 : Int))
            else
              if (p0 == (52 : Int)) then
                some (p0 == (52 : Int))
              else
                if (p0 == (56 : Int)) then
                  some (p0 == (56 : Int))
                else
                  if (p0 == (61 : Int)) then
                    some (p0 == (61 : Int))
                  else
                    some (p0 == (62 : Int))) : Option Bool).bind (fun v7_0 => 
    if v7_0 then
      some (true, none)
    else
      ((
        if (p0 == (4 : Int)) then
          some (p0 == (4 : Int))
        else
          if (p0 == (12 : Int)) then
            some (p0 == (12 : Int))
          else
            if (p0 == (53 : Int)) then
              some (p0 == (53 : Int))
            else
              if (p0 == (28 : Int)) then
                some (p0 == (28 : Int))
              else
                if (p0 == (39 : Int)) then
                  some (p0 == (39 : Int))
                else
                  if (p0 == (59 : Int)) then
                    some (p0 == (59 : Int))
                  else
                    some (p0 == (60 : Int))) : Option Bool).bind (fun v17_0 => 
      if v17_0 then
        ((
          ((
            if (p0 == (4 : Int)) then
              some (p0 == (4 : Int))
            else
              some (p0 == (12 : Int))) : Option Bool).bind (fun v28_0 => 
          if v28_0 then
            outM (
              some (false, (some [(1 : Int)])))
          else
            ((
              if (p0 == (59 : Int)) then
                some (p0 == (59 : Int))
              else
                some (p0 == (60 : Int))) : Option Bool).bind (fun v32_0 => 
            if v32_0 then
              outM (
                some (false, (some [(3 : Int)])))
            else
              some (.go ())))) : Option (Out Unit _)).bind (Out.fin fun _ => 
        some (false, (some [(2 : Int)])))
      else
        ((
          if (p0 == (5 : Int)) then
            some (p0 == (5 : Int))
          else
            if (p0 == (6 : Int)) then
              some (p0 == (6 : Int))
            else
              if (p0 == (7 : Int)) then
                some (p0 == (7 : Int))
              else
                if (p0 == (8 : Int)) then
                  some (p0 == (8 : Int))
                else
                  if (p0 == (9 : Int)) then
                    some (p0 == (9 : Int))
                  else
                    if (p0 == (22 : Int)) then
                      some (p0 == (22 : Int))
                    else
                      if (p0 == (23 : Int)) then
                        some (p0 == (23 : Int))
                      else
                        if (p0 == (24 : Int)) then
                          some (p0 == (24 : Int))
                        else
                          if (p0 == (25 : Int)) then
                            some (p0 == (25 : Int))
                          else
                            if (p0 == (26 : Int)) then
                              some (p0 == (26 : Int))
                            else
                              some (p0 == (27 : Int))) : Option Bool).bind (fun v36_0 => 
        if v36_0 then
          some (false, (some [(1 : Int), (1 : Int)]))
        else
          ((
            if (p0 == (29 : Int)) then
              some (p0 == (29 : Int))
            else
              if (p0 == (30 : Int)) then
                some (p0 == (30 : Int))
              else
                if (p0 == (31 : Int)) then
                  some (p0 == (31 : Int))
                else
                  some (p0 == (32 : Int))) : Option Bool).bind (fun v49_0 => 
          if v49_0 then
            some (false, (some [(2 : Int), (2 : Int)]))
          else
            ((
              if (p0 == (33 : Int)) then
                some (p0 == (33 : Int))
              else
                some (p0 == (34 : Int))) : Option Bool).bind (fun v55_0 => 
            if v55_0 then
              some (true, (some [(2 : Int)]))
            else
              ((
                if (p0 == (35 : Int)) then
                  some (p0 == (35 : Int))
                else
                  some (p0 == (36 : Int))) : Option Bool).bind (fun v59_0 => 
              if v59_0 then
                some (false, (some [(3 : Int), (2 : Int)]))
              else
                ((
                  if (p0 == (50 : Int)) then
                    some (p0 == (50 : Int))
                  else
                    if (p0 == (51 : Int)) then
                      some (p0 == (51 : Int))
                    else
                      some (p0 == (55 : Int))) : Option Bool).bind (fun v63_0 => 
                if v63_0 then
                  some (true, (some [(1 : Int)]))
                else
                  ((
                    if (p0 == (57 : Int)) then
                      some (p0 == (57 : Int))
                    else
                      some (p0 == (58 : Int))) : Option Bool).bind (fun v68_0 => 
                  if v68_0 then
                    some (false, (some [(3 : Int), (3 : Int)]))
                  else
                    some (false, none))))))))))
set_option maxHeartbeats 4000000 in
theorem tree_shape_ok {K : Nat} {p0 : Int} {r : Bool × (Option (List Int))} (h : tree_shape K p0 = some r) : Cn Tryz.prog 110 [.d (.val (.int .i64 p0))] (.tup [.d (.val (.bool r.1)), nilV i64V r.2]) := by
  refine Cn.ofA mixed Tryz.func110 rfl Tryz.call110 Tryz.ntmps110 Tryz.results110 (by simp) (by simp only [go_sem, reduceEqDiff, reduceAdd, reduceSub, reduceMul, reduceLeDiff, reduceLT, Nat.reduceBEq, reduceIte]) fun hfit => ?_
  unfold tree_shape at h
  refine AW.kp [] [0] ?_
  refine AW.op mixed ?_
  refine AW.kp [] [0] ?_
  refine AW.one ?_
  refine AW.op mixed ?_
  refine AW.kp [] [0, 4] ?_
  refine AW.block ?_
  refine AW.one ?_
  refine obindE h fun oJ2 h hJ2 => ?_
  refine AW.join (S := Bool) (fun v1_0 => [(0, .d (.val (.int .i64 p0))), (4, .d (.val (.int .i64 p0))), (5, .d (.val (.bool v1_0)))]) (fun v1_0 => []) (fun x => x = oJ2) ?_ ?_
  · skip
    refine AW.op mixed ?_
    refine AW.kp [] [0, 4, 5] ?_
    refine AW.ts (p0 == (1 : Int)) (fun hb3 => ?_) (fun hb3 => ?_)
    · have h := ifT hb3 h
      refine AW.sk ?_
      exact JoinQ.ar (p0 == (1 : Int)) [] (Option.some.inj h)
    have h := ifF hb3 h
    refine AW.op mixed ?_
    refine AW.kp [] [0, 4, 5] ?_
    refine AW.ts (p0 == (13 : Int)) (fun hb4 => ?_) (fun hb4 => ?_)
    · have h := ifT hb4 h
      refine AW.sk ?_
      exact JoinQ.ar (p0 == (13 : Int)) [] (Option.some.inj h)
    have h := ifF hb4 h
    refine AW.op mixed ?_
    refine AW.kp [] [0, 4, 5] ?_
    refine AW.ts (p0 == (20 : Int)) (fun hb5 => ?_) (fun hb5 => ?_)
    · have h := ifT hb5 h
      refine AW.sk ?_
      exact JoinQ.ar (p0 == (20 : Int)) [] (Option.some.inj h)
    have h := ifF hb5 h
    refine AW.rg mixed ?_
    exact JoinQ.ar (p0 == (21 : Int)) [] (Option.some.inj h)
  rintro v1_0 rfl
  have h := hJ2
  try dsimp only [Out.fin] at h
  refine nz ?_
  refine AW.ts v1_0 (fun hb6 => ?_) (fun hb6 => ?_)
  · have h := ifT hb6 h
    refine AW.op mixed ?_
    refine AW.ret ?_
    obtain rfl := Option.some.inj h
    refine nz ?_
    exact .same _
  have h := ifF hb6 h
  refine AW.one ?_
  refine obindE h fun oJ8 h hJ8 => ?_
  refine AW.join (S := Bool) (fun v7_0 => [(0, .d (.val (.int .i64 p0))), (4, .d (.val (.int .i64 p0))), (10, .d (.val (.bool v7_0)))]) (fun v7_0 => []) (fun x => x = oJ8) ?_ ?_
  · skip
    refine AW.op mixed ?_
    refine AW.kp [] [0, 4, 10] ?_
    refine AW.ts (p0 == (2 : Int)) (fun hb9 => ?_) (fun hb9 => ?_)
    · have h := ifT hb9 h
      refine AW.sk ?_
      exact JoinQ.ar (p0 == (2 : Int)) [] (Option.some.inj h)
    have h := ifF hb9 h
    refine AW.op mixed ?_
    refine AW.kp [] [0, 4, 10] ?_
    refine AW.ts (p0 == (3 : Int)) (fun hb10 => ?_) (fun hb10 => ?_)
    · have h := ifT hb10 h
      refine AW.sk ?_
      exact JoinQ.ar (p0 == (3 : Int)) [] (Option.some.inj h)
    have h := ifF hb10 h
    refine AW.op mixed ?_
    refine AW.kp [] [0, 4, 10] ?_
    refine AW.ts (p0 == (11 : Int)) (fun hb11 => ?_) (fun hb11 => ?_)
    · have h := ifT hb11 h
      refine AW.sk ?_
      exact JoinQ.ar (p0 == (11 : Int)) [] (Option.some.inj h)
    have h := ifF hb11 h
    refine AW.op mixed ?_
    refine AW.kp [] [0, 4, 10] ?_
    refine AW.ts (p0 == (38 : Int)) (fun hb12 => ?_) (fun hb12 => ?_)
    · have h := ifT hb12 h
      refine AW.sk ?_
      exact JoinQ.ar (p0 == (38 : Int)) [] (Option.some.inj h)
    have h := ifF hb12 h
    refine AW.op mixed ?_
    refine AW.kp [] [0, 4, 10] ?_
    refine AW.ts (p0 == (52 : Int)) (fun hb13 => ?_) (fun hb13 => ?_)
    · have h := ifT hb13 h
      refine AW.sk ?_
      exact JoinQ.ar (p0 == (52 : Int)) [] (Option.some.inj h)
    have h := ifF hb13 h
    refine AW.op mixed ?_
    refine AW.kp [] [0, 4, 10] ?_
    refine AW.ts (p0 == (56 : Int)) (fun hb14 => ?_) (fun hb14 => ?_)
    · have h := ifT hb14 h
      refine AW.sk ?_
      exact JoinQ.ar (p0 == (56 : Int)) [] (Option.some.inj h)
    have h := ifF hb14 h
    refine AW.op mixed ?_
    refine AW.kp [] [0, 4, 10] ?_
    refine AW.ts (p0 == (61 : Int)) (fun hb15 => ?_) (fun hb15 => ?_)
    · have h := ifT hb15 h
      refine AW.sk ?_
      exact JoinQ.ar (p0 == (61 : Int)) [] (Option.some.inj h)
    have h := ifF hb15 h
    refine AW.rg mixed ?_
    exact JoinQ.ar (p0 == (62 : Int)) [] (Option.some.inj h)
  rintro v7_0 rfl
  have h := hJ8
  try dsimp only [Out.fin] at h
  refine nz ?_
  refine AW.ts v7_0 (fun hb16 => ?_) (fun hb16 => ?_)
  · have h := ifT hb16 h
    refine AW.op mixed ?_
    refine AW.ret ?_
    obtain rfl := Option.some.inj h
    refine nz ?_
    exact .same _
  have h := ifF hb16 h
  refine AW.one ?_
  refine obindE h fun oJ18 h hJ18 => ?_
  refine AW.join (S := Bool) (fun v17_0 => [(0, .d (.val (.int .i64 p0))), (4, .d (.val (.int .i64 p0))), (19, .d (.val (.bool v17_0)))]) (fun v17_0 => []) (fun x => x = oJ18) ?_ ?_
  · skip
    refine AW.op mixed ?_
    refine AW.kp [] [0, 4, 19] ?_
    refine AW.ts (p0 == (4 : Int)) (fun hb19 => ?_) (fun hb19 => ?_)
    · have h := ifT hb19 h
      refine AW.sk ?_
      exact JoinQ.ar (p0 == (4 : Int)) [] (Option.some.inj h)
    have h := ifF hb19 h
    refine AW.op mixed ?_
    refine AW.kp [] [0, 4, 19] ?_
    refine AW.ts (p0 == (12 : Int)) (fun hb20 => ?_) (fun hb20 => ?_)
    · have h := ifT hb20 h
      refine AW.sk ?_
      exact JoinQ.ar (p0 == (12 : Int)) [] (Option.some.inj h)
    have h := ifF hb20 h
    refine AW.op mixed ?_
    refine AW.kp [] [0, 4, 19] ?_
    refine AW.ts (p0 == (53 : Int)) (fun hb21 => ?_) (fun hb21 => ?_)
    · have h := ifT hb21 h
      refine AW.sk ?_
      exact JoinQ.ar (p0 == (53 : Int)) [] (Option.some.inj h)
    have h := ifF hb21 h
    refine AW.op mixed ?_
    refine AW.kp [] [0, 4, 19] ?_
    refine AW.ts (p0 == (28 : Int)) (fun hb22 => ?_) (fun hb22 => ?_)
    · have h := ifT hb22 h
      refine AW.sk ?_
      exact JoinQ.ar (p0 == (28 : Int)) [] (Option.some.inj h)
    have h := ifF hb22 h
    refine AW.op mixed ?_
    refine AW.kp [] [0, 4, 19] ?_
    refine AW.ts (p0 == (39 : Int)) (fun hb23 => ?_) (fun hb23 => ?_)
    · have h := ifT hb23 h
      refine AW.sk ?_
      exact JoinQ.ar (p0 == (39 : Int)) [] (Option.some.inj h)
    have h := ifF hb23 h
    refine AW.op mixed ?_
    refine AW.kp [] [0, 4, 19] ?_
    refine AW.ts (p0 == (59 : Int)) (fun hb24 => ?_) (fun hb24 => ?_)
    · have h := ifT hb24 h
      refine AW.sk ?_
      exact JoinQ.ar (p0 == (59 : Int)) [] (Option.some.inj h)
    have h := ifF hb24 h
    refine AW.rg mixed ?_
    exact JoinQ.ar (p0 == (60 : Int)) [] (Option.some.inj h)
  rintro v17_0 rfl
  have h := hJ18
  try dsimp only [Out.fin] at h
  refine nz ?_
  refine AW.ts v17_0 (fun hb25 => ?_) (fun hb25 => ?_)
  · have h := ifT hb25 h
    refine AW.one ?_
    refine obindE h fun oJ27 h hJ27 => ?_
    refine AW.join (S := Unit) (fun _ => []) (fun _ => []) (fun x => oJ27 = .go x) ?_ ?_
    · skip
      refine AW.op mixed ?_
      refine AW.kp [] [27] ?_
      refine AW.block ?_
      refine AW.one ?_
      refine obindE h fun oJ29 h hJ29 => ?_
      refine AW.join (S := Bool) (fun v28_0 => [(27, .d (.val (.int .i64 p0))), (28, .d (.val (.bool v28_0)))]) (fun v28_0 => []) (fun x => x = oJ29) ?_ ?_
      · skip
        refine AW.op mixed ?_
        refine AW.kp [] [27, 28] ?_
        refine AW.ts (p0 == (4 : Int)) (fun hb30 => ?_) (fun hb30 => ?_)
        · have h := ifT hb30 h
          refine AW.sk ?_
          exact JoinQ.ar (p0 == (4 : Int)) [] (Option.some.inj h)
        have h := ifF hb30 h
        refine AW.rg mixed ?_
        exact JoinQ.ar (p0 == (12 : Int)) [] (Option.some.inj h)
      rintro v28_0 rfl
      have h := hJ29
      try dsimp only [Out.fin] at h
      refine nz ?_
      refine AW.ts v28_0 (fun hb31 => ?_) (fun hb31 => ?_)
      · have h := ifT hb31 h
        refine AW.op mixed ?_
        refine AW.ret ?_
        obtain ⟨_, h, ho⟩ := outM_some h
        rw [ho, Out.fin_out] at hJ27
        have h := h.trans hJ27
        obtain rfl := Option.some.inj h
        refine nz ?_
        exact .same _
      have h := ifF hb31 h
      refine AW.one ?_
      refine obindE h fun oJ33 h hJ33 => ?_
      refine AW.join (S := Bool) (fun v32_0 => [(32, .d (.val (.bool v32_0)))]) (fun v32_0 => []) (fun x => x = oJ33) ?_ ?_
      · skip
        refine AW.op mixed ?_
        refine AW.kp [] [27, 32] ?_
        refine AW.ts (p0 == (59 : Int)) (fun hb34 => ?_) (fun hb34 => ?_)
        · have h := ifT hb34 h
          refine AW.sk ?_
          exact JoinQ.ar (p0 == (59 : Int)) [] (Option.some.inj h)
        have h := ifF hb34 h
        refine AW.rg mixed ?_
        exact JoinQ.ar (p0 == (60 : Int)) [] (Option.some.inj h)
      rintro v32_0 rfl
      have h := hJ33
      try dsimp only [Out.fin] at h
      refine nz ?_
      refine AW.ts v32_0 (fun hb35 => ?_) (fun hb35 => ?_)
      · have h := ifT hb35 h
        refine AW.op mixed ?_
        refine AW.ret ?_
        obtain ⟨_, h, ho⟩ := outM_some h
        rw [ho, Out.fin_out] at hJ27
        have h := h.trans hJ27
        obtain rfl := Option.some.inj h
        refine nz ?_
        exact .same _
      have h := ifF hb35 h
      refine AW.sk ?_
      exact JoinQ.ar () [] (Option.some.inj h).symm
    rintro ⟨⟩ rfl
    have h := hJ27
    try dsimp only [Out.fin] at h
    refine nz ?_
    refine AW.op mixed ?_
    refine AW.ret ?_
    obtain rfl := Option.some.inj h
    refine nz ?_
    exact .same _
  have h := ifF hb25 h
  refine AW.one ?_
  refine obindE h fun oJ37 h hJ37 => ?_
  refine AW.join (S := Bool) (fun v36_0 => [(4, .d (.val (.int .i64 p0))), (37, .d (.val (.bool v36_0)))]) (fun v36_0 => []) (fun x => x = oJ37) ?_ ?_
  · skip
    refine AW.op mixed ?_
    refine AW.kp [] [4, 37] ?_
    refine AW.ts (p0 == (5 : Int)) (fun hb38 => ?_) (fun hb38 => ?_)
    · have h := ifT hb38 h
      refine AW.sk ?_
      exact JoinQ.ar (p0 == (5 : Int)) [] (Option.some.inj h)
    have h := ifF hb38 h
    refine AW.op mixed ?_
    refine AW.kp [] [4, 37] ?_
    refine AW.ts (p0 == (6 : Int)) (fun hb39 => ?_) (fun hb39 => ?_)
    · have h := ifT hb39 h
      refine AW.sk ?_
      exact JoinQ.ar (p0 == (6 : Int)) [] (Option.some.inj h)
    have h := ifF hb39 h
    refine AW.op mixed ?_
    refine AW.kp [] [4, 37] ?_
    refine AW.ts (p0 == (7 : Int)) (fun hb40 => ?_) (fun hb40 => ?_)
    · have h := ifT hb40 h
      refine AW.sk ?_
      exact JoinQ.ar (p0 == (7 : Int)) [] (Option.some.inj h)
    have h := ifF hb40 h
    refine AW.op mixed ?_
    refine AW.kp [] [4, 37] ?_
    refine AW.ts (p0 == (8 : Int)) (fun hb41 => ?_) (fun hb41 => ?_)
    · have h := ifT hb41 h
      refine AW.sk ?_
      exact JoinQ.ar (p0 == (8 : Int)) [] (Option.some.inj h)
    have h := ifF hb41 h
    refine AW.op mixed ?_
    refine AW.kp [] [4, 37] ?_
    refine AW.ts (p0 == (9 : Int)) (fun hb42 => ?_) (fun hb42 => ?_)
    · have h := ifT hb42 h
      refine AW.sk ?_
      exact JoinQ.ar (p0 == (9 : Int)) [] (Option.some.inj h)
    have h := ifF hb42 h
    refine AW.op mixed ?_
    refine AW.kp [] [4, 37] ?_
    refine AW.ts (p0 == (22 : Int)) (fun hb43 => ?_) (fun hb43 => ?_)
    · have h := ifT hb43 h
      refine AW.sk ?_
      exact JoinQ.ar (p0 == (22 : Int)) [] (Option.some.inj h)
    have h := ifF hb43 h
    refine AW.op mixed ?_
    refine AW.kp [] [4, 37] ?_
    refine AW.ts (p0 == (23 : Int)) (fun hb44 => ?_) (fun hb44 => ?_)
    · have h := ifT hb44 h
      refine AW.sk ?_
      exact JoinQ.ar (p0 == (23 : Int)) [] (Option.some.inj h)
    have h := ifF hb44 h
    refine AW.op mixed ?_
    refine AW.kp [] [4, 37] ?_
    refine AW.ts (p0 == (24 : Int)) (fun hb45 => ?_) (fun hb45 => ?_)
    · have h := ifT hb45 h
      refine AW.sk ?_
      exact JoinQ.ar (p0 == (24 : Int)) [] (Option.some.inj h)
    have h := ifF hb45 h
    refine AW.op mixed ?_
    refine AW.kp [] [4, 37] ?_
    refine AW.ts (p0 == (25 : Int)) (fun hb46 => ?_) (fun hb46 => ?_)
    · have h := ifT hb46 h
      refine AW.sk ?_
      exact JoinQ.ar (p0 == (25 : Int)) [] (Option.some.inj h)
    have h := ifF hb46 h
    refine AW.op mixed ?_
    refine AW.kp [] [4, 37] ?_
    refine AW.ts (p0 == (26 : Int)) (fun hb47 => ?_) (fun hb47 => ?_)
    · have h := ifT hb47 h
      refine AW.sk ?_
      exact JoinQ.ar (p0 == (26 : Int)) [] (Option.some.inj h)
    have h := ifF hb47 h
    refine AW.rg mixed ?_
    exact JoinQ.ar (p0 == (27 : Int)) [] (Option.some.inj h)
  rintro v36_0 rfl
  have h := hJ37
  try dsimp only [Out.fin] at h
  refine nz ?_
  refine AW.ts v36_0 (fun hb48 => ?_) (fun hb48 => ?_)
  · have h := ifT hb48 h
    refine AW.op mixed ?_
    refine AW.ret ?_
    obtain rfl := Option.some.inj h
    refine nz ?_
    exact .same _
  have h := ifF hb48 h
  refine AW.one ?_
  refine obindE h fun oJ50 h hJ50 => ?_
  refine AW.join (S := Bool) (fun v49_0 => [(4, .d (.val (.int .i64 p0))), (50, .d (.val (.bool v49_0)))]) (fun v49_0 => []) (fun x => x = oJ50) ?_ ?_
  · skip
    refine AW.op mixed ?_
    refine AW.kp [] [4, 50] ?_
    refine AW.ts (p0 == (29 : Int)) (fun hb51 => ?_) (fun hb51 => ?_)
    · have h := ifT hb51 h
      refine AW.sk ?_
      exact JoinQ.ar (p0 == (29 : Int)) [] (Option.some.inj h)
    have h := ifF hb51 h
    refine AW.op mixed ?_
    refine AW.kp [] [4, 50] ?_
    refine AW.ts (p0 == (30 : Int)) (fun hb52 => ?_) (fun hb52 => ?_)
    · have h := ifT hb52 h
      refine AW.sk ?_
      exact JoinQ.ar (p0 == (30 : Int)) [] (Option.some.inj h)
    have h := ifF hb52 h
    refine AW.op mixed ?_
    refine AW.kp [] [4, 50] ?_
    refine AW.ts (p0 == (31 : Int)) (fun hb53 => ?_) (fun hb53 => ?_)
    · have h := ifT hb53 h
      refine AW.sk ?_
      exact JoinQ.ar (p0 == (31 : Int)) [] (Option.some.inj h)
    have h := ifF hb53 h
    refine AW.rg mixed ?_
    exact JoinQ.ar (p0 == (32 : Int)) [] (Option.some.inj h)
  rintro v49_0 rfl
  have h := hJ50
  try dsimp only [Out.fin] at h
  refine nz ?_
  refine AW.ts v49_0 (fun hb54 => ?_) (fun hb54 => ?_)
  · have h := ifT hb54 h
    refine AW.op mixed ?_
    refine AW.ret ?_
    obtain rfl := Option.some.inj h
    refine nz ?_
    exact .same _
  have h := ifF hb54 h
  refine AW.one ?_
  refine obindE h fun oJ56 h hJ56 => ?_
  refine AW.join (S := Bool) (fun v55_0 => [(4, .d (.val (.int .i64 p0))), (56, .d (.val (.bool v55_0)))]) (fun v55_0 => []) (fun x => x = oJ56) ?_ ?_
  · skip
    refine AW.op mixed ?_
    refine AW.kp [] [4, 56] ?_
    refine AW.ts (p0 == (33 : Int)) (fun hb57 => ?_) (fun hb57 => ?_)
    · have h := ifT hb57 h
      refine AW.sk ?_
      exact JoinQ.ar (p0 == (33 : Int)) [] (Option.some.inj h)
    have h := ifF hb57 h
    refine AW.rg mixed ?_
    exact JoinQ.ar (p0 == (34 : Int)) [] (Option.some.inj h)
  rintro v55_0 rfl
  have h := hJ56
  try dsimp only [Out.fin] at h
  refine nz ?_
  refine AW.ts v55_0 (fun hb58 => ?_) (fun hb58 => ?_)
  · have h := ifT hb58 h
    refine AW.op mixed ?_
    refine AW.ret ?_
    obtain rfl := Option.some.inj h
    refine nz ?_
    exact .same _
  have h := ifF hb58 h
  refine AW.one ?_
  refine obindE h fun oJ60 h hJ60 => ?_
  refine AW.join (S := Bool) (fun v59_0 => [(4, .d (.val (.int .i64 p0))), (60, .d (.val (.bool v59_0)))]) (fun v59_0 => []) (fun x => x = oJ60) ?_ ?_
  · skip
    refine AW.op mixed ?_
    refine AW.kp [] [4, 60] ?_
    refine AW.ts (p0 == (35 : Int)) (fun hb61 => ?_) (fun hb61 => ?_)
    · have h := ifT hb61 h
      refine AW.sk ?_
      exact JoinQ.ar (p0 == (35 : Int)) [] (Option.some.inj h)
    have h := ifF hb61 h
    refine AW.rg mixed ?_
    exact JoinQ.ar (p0 == (36 : Int)) [] (Option.some.inj h)
  rintro v59_0 rfl
  have h := hJ60
  try dsimp only [Out.fin] at h
  refine nz ?_
  refine AW.ts v59_0 (fun hb62 => ?_) (fun hb62 => ?_)
  · have h := ifT hb62 h
    refine AW.op mixed ?_
    refine AW.ret ?_
    obtain rfl := Option.some.inj h
    refine nz ?_
    exact .same _
  have h := ifF hb62 h
  refine AW.one ?_
  refine obindE h fun oJ64 h hJ64 => ?_
  refine AW.join (S := Bool) (fun v63_0 => [(4, .d (.val (.int .i64 p0))), (64, .d (.val (.bool v63_0)))]) (fun v63_0 => []) (fun x => x = oJ64) ?_ ?_
  · skip
    refine AW.op mixed ?_
    refine AW.kp [] [4, 64] ?_
    refine AW.ts (p0 == (50 : Int)) (fun hb65 => ?_) (fun hb65 => ?_)
    · have h := ifT hb65 h
      refine AW.sk ?_
      exact JoinQ.ar (p0 == (50 : Int)) [] (Option.some.inj h)
    have h := ifF hb65 h
    refine AW.op mixed ?_
    refine AW.kp [] [4, 64] ?_
    refine AW.ts (p0 == (51 : Int)) (fun hb66 => ?_) (fun hb66 => ?_)
    · have h := ifT hb66 h
      refine AW.sk ?_
      exact JoinQ.ar (p0 == (51 : Int)) [] (Option.some.inj h)
    have h := ifF hb66 h
    refine AW.rg mixed ?_
    exact JoinQ.ar (p0 == (55 : Int)) [] (Option.some.inj h)
  rintro v63_0 rfl
  have h := hJ64
  try dsimp only [Out.fin] at h
  refine nz ?_
  refine AW.ts v63_0 (fun hb67 => ?_) (fun hb67 => ?_)
  · have h := ifT hb67 h
    refine AW.op mixed ?_
    refine AW.ret ?_
    obtain rfl := Option.some.inj h
    refine nz ?_
    exact .same _
  have h := ifF hb67 h
  refine AW.one ?_
  refine obindE h fun oJ69 h hJ69 => ?_
  refine AW.join (S := Bool) (fun v68_0 => [(69, .d (.val (.bool v68_0)))]) (fun v68_0 => []) (fun x => x = oJ69) ?_ ?_
  · skip
    refine AW.op mixed ?_
    refine AW.kp [] [4, 69] ?_
    refine AW.ts (p0 == (57 : Int)) (fun hb70 => ?_) (fun hb70 => ?_)
    · have h := ifT hb70 h
      refine AW.sk ?_
      exact JoinQ.ar (p0 == (57 : Int)) [] (Option.some.inj h)
    have h := ifF hb70 h
    refine AW.rg mixed ?_
    exact JoinQ.ar (p0 == (58 : Int)) [] (Option.some.inj h)
  rintro v68_0 rfl
  have h := hJ69
  try dsimp only [Out.fin] at h
  refine nz ?_
  refine AW.ts v68_0 (fun hb71 => ?_) (fun hb71 => ?_)
  · have h := ifT hb71 h
    refine AW.op mixed ?_
    refine AW.ret ?_
    obtain rfl := Option.some.inj h
    refine nz ?_
    exact .same _
  have h := ifF hb71 h
  refine AW.sk ?_
  refine AW.kp [] [] ?_
  refine AW.op mixed ?_
  refine AW.ret ?_
  obtain rfl := Option.some.inj h
  refine nz ?_
  exact .same _
structure Tree_placeA where
  inDiff : Bool
  inFDiff : Bool
  inFlow : Bool
def Tree_placeA.enc (x : Tree_placeA) : List D := [.val (.bool x.inDiff), .val (.bool x.inFDiff), .val (.bool x.inFlow)]
theorem Tree_placeA.enc_eta (x : Tree_placeA) : x.enc = [.val (.bool x.inDiff), .val (.bool x.inFDiff), .val (.bool x.inFlow)] := rfl
attribute [go_sem] Tree_placeA.enc_eta
/-! ### isochrone/tree.formed -/
def tree_formed_body (K : Nat) (self91 : (NodeA × Tree_placeA) → Option Bool) (p0 : NodeA) (p1 : Tree_placeA) : Option Bool := ((
    if (p0.op == (1 : Int)) then
      (tree_natural K p0.num).bind fun r4 => 
      if (!r4) then
        outM (
          some false)
      else
        some (.go ())
    else
      ((
        if p0.num.neg then
          some true
        else
          if (decide ((0 : Int) < (p0.num.num.length : Int))) then
            some true
          else
            some (decide ((0 : Int) < (p0.num.den.length : Int)))) : Option Bool).bind (fun v7_0 => 
      if v7_0 then
        outM (
          some false)
      else
        some (.go ()))) : Option (Out Unit _)).bind (Out.fin fun _ => 
  (tree_shape K p0.op).bind fun r12 => 
  ((
    ((
      if r12.1 then
        (tree_Name K p0.name).bind fun r19 => 
        if (!r19) then
          some true
        else
          some false
      else
        if (!(p0.name.toList == (⟨#[]⟩ : ByteArray).toList)) then
          if (p0.op != (10 : Int)) then
            some (p0.op != (37 : Int))
          else
            some false
        else
          some false) : Option Bool).bind (fun v16_0 => 
    if v16_0 then
      outM (
        some false)
    else
      some (.go ()))) : Option (Out Unit _)).bind (Out.fin fun _ => 
  ((
    ((
      if (p0.op == (10 : Int)) then
        some (p0.op == (10 : Int))
      else
        some (p0.op == (37 : Int))) : Option Bool).bind (fun v27_0 => 
    if v27_0 then
      ((
        ((
          (tree_Name K p0.name).bind fun r35 => 
          if (!r35) then
            some true
          else
            some (decide ((1 : Int) < (p0.kids.length : Int)))) : Option Bool).bind (fun v33_0 => 
        if v33_0 then
          outM (
            outM (
              some false))
        else
          some (.go ()))) : Option (Out Unit _)).bind (Out.fin fun _ => 
      (must r12.2.isNone).bind fun _ => 
      ((iter (S := Int × (List Int)) (R := (List Int)) K (fun again (i44_0, i44_1) => 
        if (decide (i44_0 < (p0.kids.length : Int))) then
          (appO 8 i44_1 [(1 : Int)]).bind fun l49 => 
          again (IntKind.wrap .i64 (i44_0 + (1 : Int)), l49)
        else
          some i44_1) ((0 : Int), [])) : Option (List Int)).bind (fun e45_0 => 
      some (.go (e45_0, p1))))
    else
      if (p0.op == (54 : Int)) then
        ((
          ((
            if (!(p0.name.toList == (⟨#[]⟩ : ByteArray).toList)) then
              some true
            else
              some (decide ((p0.kids.length : Int) < (2 : Int)))) : Option Bool).bind (fun v54_0 => 
          if v54_0 then
            outM (
              outM (
                some false))
          else
            some (.go ()))) : Option (Out Unit _)).bind (Out.fin fun _ => 
        (must r12.2.isNone).bind fun _ => 
        ((iter (S := Int × (List Int)) (R := Out (List Int) _) K (fun again (i63_0, i63_1) => 
          if (decide (i63_0 < (IntKind.wrap .i64 ((p0.kids.length : Int) - (1 : Int))))) then
            ((
              (idx p0.kids i63_0).bind fun x70 => 
              ((
                ((
                  if (x70.op != (55 : Int)) then
                    if (x70.op != (56 : Int)) then
                      some true
                    else
                      some (i63_0 != (IntKind.wrap .i64 ((IntKind.wrap .i64 ((p0.kids.length : Int) - (1 : Int))) - (1 : Int))))
                  else
                    some false) : Option Bool).bind (fun v74_0 => 
                if v74_0 then
                  outM (
                    outM (
                      outM (
                        outM (
                          some false))))
                else
                  some (.go ()))) : Option (Out Unit _)).bind (Out.fin fun _ => 
              (cutL p0.kids none (some i63_0)).bind fun s79 => 
              ((iter (S := Int) (R := Out Unit _) K (fun again i81_0 => 
                if (decide (i81_0 < (s79.length : Int))) then
                  ((
                    (idx s79 i81_0).bind fun x88 => 
                    ((
                      if (x70.op == (55 : Int)) then
                        some (x88.name.toList == x70.name.toList)
                      else
                        some false) : Option Bool).bind (fun v90_0 => 
                    if v90_0 then
                      outM (
                        outM (
                          outM (
                            outM (
                              outM (
                                some false)))))
                    else
                      some (.go ()))) : Option (Out Unit _)).bind (Out.fin fun _ => 
                  again (IntKind.wrap .i64 (i81_0 + (1 : Int))))
                else
                  some (.go ())) (0 : Int)) : Option (Out Unit _)).bind (Out.fin fun _ => 
              (appO 8 i63_1 [(4 : Int)]).bind fun l94 => 
              some (.go l94)))) : Option (Out (List Int) _)).bind (Out.fin fun v68_0 => 
            again (IntKind.wrap .i64 (i63_0 + (1 : Int)), v68_0))
          else
            some (.go i63_1)) ((0 : Int), [])) : Option (Out (List Int) _)).bind (Out.fin fun e64_0 => 
        (appO 8 e64_0 [(2 : Int)]).bind fun l96 => 
        some (.go (l96, (Tree_placeA.mk p1.inDiff p1.inFDiff true)))))
      else
        if (p0.op == (3 : Int)) then
          ((
            if p1.inDiff then
              some true
            else
              if p1.inFDiff then
                some true
              else
                some p1.inFlow) : Option Bool).bind (fun v99_0 => 
          if v99_0 then
            outM (
              some false)
          else
            some (.go ((r12.2.getD []), p1)))
        else
          if (p0.op == (12 : Int)) then
            ((
              ((
                if p1.inDiff then
                  some true
                else
                  some p1.inFlow) : Option Bool).bind (fun v107_0 => 
              if v107_0 then
                outM (
                  outM (
                    some false))
              else
                some (.go ()))) : Option (Out Unit _)).bind (Out.fin fun _ => 
            some (.go ((r12.2.getD []), (Tree_placeA.mk true p1.inFDiff p1.inFlow))))
          else
            if (p0.op == (39 : Int)) then
              ((
                ((
                  if p1.inFlow then
                    some true
                  else
                    if ((p0.kids.length : Int) != (1 : Int)) then
                      some true
                    else
                      (idx p0.kids (0 : Int)).bind fun x118 => 
                      (tree_differentiable K x118).bind fun r120 => 
                      some (!r120)) : Option Bool).bind (fun v114_0 => 
                if v114_0 then
                  outM (
                    outM (
                      some false))
                else
                  some (.go ()))) : Option (Out Unit _)).bind (Out.fin fun _ => 
              some (.go ((r12.2.getD []), (Tree_placeA.mk p1.inDiff true p1.inFlow))))
            else
              some (.go ((r12.2.getD []), p1)))) : Option (Out ((List Int) × Tree_placeA) _)).bind (Out.fin fun (v25_0, v25_1) => 
  if ((p0.kids.length : Int) != (v25_0.length : Int)) then
    some false
  else
    ((iter (S := Int) (R := Out Unit _) K (fun again i124_0 => 
      if (decide (i124_0 < (p0.kids.length : Int))) then
        ((
          (idx p0.kids i124_0).bind fun x131 => 
          ((
            (tree_Sort K x131.op).bind fun r135 => 
            (idx v25_0 i124_0).bind fun x137 => 
            if (r135 != x137) then
              some true
            else
              (self91 (x131, v25_1)).bind fun r140 => 
              some (!r140)) : Option Bool).bind (fun v133_0 => 
          if v133_0 then
            outM (
              outM (
                some false))
          else
            some (.go ()))) : Option (Out Unit _)).bind (Out.fin fun _ => 
        again (IntKind.wrap .i64 (i124_0 + (1 : Int))))
      else
        some (.go ())) (0 : Int)) : Option (Out Unit _)).bind (Out.fin fun _ => 
    if (p0.op == (8 : Int)) then
      (idx p0.kids (1 : Int)).bind fun x144 => 
      if (x144.op == (1 : Int)) then
        some (decide ((0 : Int) < (x144.num.num.length : Int)))
      else
        some false
    else
      if (p0.op == (9 : Int)) then
        (idx p0.kids (1 : Int)).bind fun x148 => 
        if (x148.op == (1 : Int)) then
          if ((x148.num.num.length : Int) == (0 : Int)) then
            some true
          else
            if ((x148.num.num.length : Int) == (1 : Int)) then
              (idx x148.num.num (0 : Int)).bind fun x153 => 
              some (decide (x153 ≤ (20 : Int)))
            else
              some false
        else
          some false
      else
        some true))))
set_option maxHeartbeats 4000000 in
theorem tree_formed_step (K : Nat) (self91 : (NodeA × Tree_placeA) → Option Bool) (hself91 : ∀ (q : NodeA × Tree_placeA) (r : Bool), self91 q = some r → Cn Tryz.prog 91 [aggV q.1.enc, aggV q.2.enc] (.d (.val (.bool r)))) (p0 : NodeA) (p1 : Tree_placeA) (r : Bool) (h : tree_formed_body K self91 p0 p1 = some r) : Cn Tryz.prog 91 [aggV p0.enc, aggV p1.enc] (.d (.val (.bool r))) := by
  refine Cn.ofA mixed Tryz.func91 rfl Tryz.call91 Tryz.ntmps91 Tryz.results91 (by simp) (by simp only [go_sem, reduceEqDiff, reduceAdd, reduceSub, reduceMul, reduceLeDiff, reduceLT, Nat.reduceBEq, reduceIte]) fun hfit => ?_
  unfold tree_formed_body at h
  refine AW.kp [] [0, 1] ?_
  refine AW.op mixed ?_
  refine AW.kp [0, 1] [2, 3] ?_
  refine AW.one ?_
  refine obindE h fun oJ2 h hJ2 => ?_
  refine AW.join (S := Unit) (fun _ => [(2, .ptr 0 6 0 0), (3, .ptr 1 3 0 0)]) (fun _ => [some ⟨6, [[.d (.val (.int .i64 p0.op)), .d (.val (.string p0.name)), .d (.val (.bool p0.num.neg)), .d (slD u32V p0.num.num), .d (slD u32V p0.num.den), .d (slD NodeA.enc p0.kids)]]⟩, some ⟨3, [[.d (.val (.bool p1.inDiff)), .d (.val (.bool p1.inFDiff)), .d (.val (.bool p1.inFlow))]]⟩]) (fun x => oJ2 = .go x) ?_ ?_
  · skip
    refine AW.op mixed ?_
    refine AW.kp [0, 1] [2, 3, 17] ?_
    refine AW.ts (p0.op == (1 : Int)) (fun hb3 => ?_) (fun hb3 => ?_)
    · have h := ifT hb3 h
      refine AW.op mixed ?_
      apply obindE h; intro r4 hx5 h
      have hc := nx (tree_natural_ok (h := hx5))
      refine callP hc ?_
      refine AW.kp [0, 1] [2, 3, 21] ?_
      refine AW.ts (!r4) (fun hb6 => ?_) (fun hb6 => ?_)
      · have h := ifT hb6 h
        refine AW.op mixed ?_
        refine AW.ret ?_
        obtain ⟨_, h, ho⟩ := outM_some h
        rw [ho, Out.fin_out] at hJ2
        have h := h.trans hJ2
        obtain rfl := Option.some.inj h
        refine nz ?_
        exact .same _
      have h := ifF hb6 h
      refine AW.sk ?_
      exact JoinQ.ar () [0, 1] (Option.some.inj h).symm
    have h := ifF hb3 h
    refine AW.one ?_
    refine obindE h fun oJ8 h hJ8 => ?_
    refine AW.join (S := Bool) (fun v7_0 => [(2, .ptr 0 6 0 0), (3, .ptr 1 3 0 0), (38, .d (.val (.bool v7_0)))]) (fun v7_0 => [some ⟨6, [[.d (.val (.int .i64 p0.op)), .d (.val (.string p0.name)), .d (.val (.bool p0.num.neg)), .d (slD u32V p0.num.num), .d (slD u32V p0.num.den), .d (slD NodeA.enc p0.kids)]]⟩, some ⟨3, [[.d (.val (.bool p1.inDiff)), .d (.val (.bool p1.inFDiff)), .d (.val (.bool p1.inFlow))]]⟩]) (fun x => x = oJ8) ?_ ?_
    · skip
      refine AW.rg mixed ?_
      refine splitK_intro (fun hb9 => ?_) (fun hb9 => ?_)
      · have h := ifT hb9 h
        try simp only [go_sem, reduceEqDiff, reduceAdd, reduceSub, reduceMul, reduceLeDiff, reduceLT, Nat.reduceBEq, reduceIte, hb9]
        refine JoinQ.mk true [0, 1] (Option.some.inj h) (by simp only [go_sem, reduceEqDiff, reduceAdd, reduceSub, reduceMul, reduceLeDiff, reduceLT, Nat.reduceBEq, reduceIte, hb9])
      have h := ifF hb9 h
      try simp only [go_sem, reduceEqDiff, reduceAdd, reduceSub, reduceMul, reduceLeDiff, reduceLT, Nat.reduceBEq, reduceIte, hb9]
      refine splitK_intro (fun hb10 => ?_) (fun hb10 => ?_)
      · have h := ifT hb10 h
        try simp only [go_sem, reduceEqDiff, reduceAdd, reduceSub, reduceMul, reduceLeDiff, reduceLT, Nat.reduceBEq, reduceIte, hb9, hb10]
        refine JoinQ.mk true [0, 1] (Option.some.inj h) (by simp only [go_sem, reduceEqDiff, reduceAdd, reduceSub, reduceMul, reduceLeDiff, reduceLT, Nat.reduceBEq, reduceIte, hb9, hb10])
      have h := ifF hb10 h
      try simp only [go_sem, reduceEqDiff, reduceAdd, reduceSub, reduceMul, reduceLeDiff, reduceLT, Nat.reduceBEq, reduceIte, hb9, hb10]
      refine JoinQ.mk (decide ((0 : Int) < (p0.num.den.length : Int))) [0, 1] (Option.some.inj h) (by simp only [go_sem, reduceEqDiff, reduceAdd, reduceSub, reduceMul, reduceLeDiff, reduceLT, Nat.reduceBEq, reduceIte, hb9, hb10])
    rintro v7_0 rfl
    have h := hJ8
    try dsimp only [Out.fin] at h
    refine nz ?_
    refine AW.ts v7_0 (fun hb11 => ?_) (fun hb11 => ?_)
    · have h := ifT hb11 h
      refine AW.op mixed ?_
      refine AW.ret ?_
      obtain ⟨_, h, ho⟩ := outM_some h
      rw [ho, Out.fin_out] at hJ2
      have h := h.trans hJ2
      obtain rfl := Option.some.inj h
      refine nz ?_
      exact .same _
    have h := ifF hb11 h
    refine AW.sk ?_
    exact JoinQ.ar () [0, 1] (Option.some.inj h).symm
  rintro ⟨⟩ rfl
  have h := hJ2
  try dsimp only [Out.fin] at h
  refine nz ?_
  refine AW.op mixed ?_
  apply obindE h; intro r12 hx13 h
  have hc := nx (tree_shape_ok (h := hx13))
  refine callP hc ?_
  refine AW.kp [0, 1] [2, 3, 5, 6] ?_
  refine AW.one ?_
  refine obindE h fun oJ15 h hJ15 => ?_
  refine AW.join (S := Unit) (fun _ => [(2, .ptr 0 6 0 0), (3, .ptr 1 3 0 0), (6, nilV i64V r12.2)]) (fun _ => [some ⟨6, [[.d (.val (.int .i64 p0.op)), .d (.val (.string p0.name)), .d (.val (.bool p0.num.neg)), .d (slD u32V p0.num.num), .d (slD u32V p0.num.den), .d (slD NodeA.enc p0.kids)]]⟩, some ⟨3, [[.d (.val (.bool p1.inDiff)), .d (.val (.bool p1.inFDiff)), .d (.val (.bool p1.inFlow))]]⟩]) (fun x => oJ15 = .go x) ?_ ?_
  · skip
    refine AW.one ?_
    refine obindE h fun oJ17 h hJ17 => ?_
    refine AW.join (S := Bool) (fun v16_0 => [(2, .ptr 0 6 0 0), (3, .ptr 1 3 0 0), (6, nilV i64V r12.2), (70, .d (.val (.bool v16_0)))]) (fun v16_0 => [some ⟨6, [[.d (.val (.int .i64 p0.op)), .d (.val (.string p0.name)), .d (.val (.bool p0.num.neg)), .d (slD u32V p0.num.num), .d (slD u32V p0.num.den), .d (slD NodeA.enc p0.kids)]]⟩, some ⟨3, [[.d (.val (.bool p1.inDiff)), .d (.val (.bool p1.inFDiff)), .d (.val (.bool p1.inFlow))]]⟩]) (fun x => x = oJ17) ?_ ?_
    · skip
      refine AW.rg mixed ?_
      refine splitK_intro (fun hb18 => ?_) (fun hb18 => ?_)
      · have h := ifT hb18 h
        try simp only [go_sem, reduceEqDiff, reduceAdd, reduceSub, reduceMul, reduceLeDiff, reduceLT, Nat.reduceBEq, reduceIte, hb18]
        apply obindE h; intro r19 hx20 h
        have hc := nx (tree_Name_ok (h := hx20))
        refine callK_pure hc (by simp only [go_sem, reduceEqDiff, reduceAdd, reduceSub, reduceMul, reduceLeDiff, reduceLT, Nat.reduceBEq, reduceIte]) ?_
        try simp only [go_sem, reduceEqDiff, reduceAdd, reduceSub, reduceMul, reduceLeDiff, reduceLT, Nat.reduceBEq, reduceIte, hb18]
        refine splitK_intro (fun hb21 => ?_) (fun hb21 => ?_)
        · have h := ifT hb21 h
          try simp only [go_sem, reduceEqDiff, reduceAdd, reduceSub, reduceMul, reduceLeDiff, reduceLT, Nat.reduceBEq, reduceIte, hb18, hb21]
          refine JoinQ.mk true [0, 1] (Option.some.inj h) (by simp only [go_sem, reduceEqDiff, reduceAdd, reduceSub, reduceMul, reduceLeDiff, reduceLT, Nat.reduceBEq, reduceIte, hb18, hb21])
        have h := ifF hb21 h
        try simp only [go_sem, reduceEqDiff, reduceAdd, reduceSub, reduceMul, reduceLeDiff, reduceLT, Nat.reduceBEq, reduceIte, hb18, hb21]
        refine JoinQ.mk false [0, 1] (Option.some.inj h) (by simp only [go_sem, reduceEqDiff, reduceAdd, reduceSub, reduceMul, reduceLeDiff, reduceLT, Nat.reduceBEq, reduceIte, hb18, hb21])
      have h := ifF hb18 h
      try simp only [go_sem, reduceEqDiff, reduceAdd, reduceSub, reduceMul, reduceLeDiff, reduceLT, Nat.reduceBEq, reduceIte, hb18]
      refine splitK_intro (fun hb22 => ?_) (fun hb22 => ?_)
      · have h := ifT hb22 h
        try simp only [go_sem, reduceEqDiff, reduceAdd, reduceSub, reduceMul, reduceLeDiff, reduceLT, Nat.reduceBEq, reduceIte, hb18, hb22]
        refine splitK_intro (fun hb23 => ?_) (fun hb23 => ?_)
        · have h := ifT hb23 h
          try simp only [go_sem, reduceEqDiff, reduceAdd, reduceSub, reduceMul, reduceLeDiff, reduceLT, Nat.reduceBEq, reduceIte, hb18, hb22, hb23]
          refine JoinQ.mk (p0.op != (37 : Int)) [0, 1] (Option.some.inj h) (by simp only [go_sem, reduceEqDiff, reduceAdd, reduceSub, reduceMul, reduceLeDiff, reduceLT, Nat.reduceBEq, reduceIte, hb18, hb22, hb23])
        have h := ifF hb23 h
        try simp only [go_sem, reduceEqDiff, reduceAdd, reduceSub, reduceMul, reduceLeDiff, reduceLT, Nat.reduceBEq, reduceIte, hb18, hb22, hb23]
        refine JoinQ.mk false [0, 1] (Option.some.inj h) (by simp only [go_sem, reduceEqDiff, reduceAdd, reduceSub, reduceMul, reduceLeDiff, reduceLT, Nat.reduceBEq, reduceIte, hb18, hb22, hb23])
      have h := ifF hb22 h
      try simp only [go_sem, reduceEqDiff, reduceAdd, reduceSub, reduceMul, reduceLeDiff, reduceLT, Nat.reduceBEq, reduceIte, hb18, hb22]
      refine JoinQ.mk false [0, 1] (Option.some.inj h) (by simp only [go_sem, reduceEqDiff, reduceAdd, reduceSub, reduceMul, reduceLeDiff, reduceLT, Nat.reduceBEq, reduceIte, hb18, hb22])
    rintro v16_0 rfl
    have h := hJ17
    try dsimp only [Out.fin] at h
    refine nz ?_
    refine AW.ts v16_0 (fun hb24 => ?_) (fun hb24 => ?_)
    · have h := ifT hb24 h
      refine AW.op mixed ?_
      refine AW.ret ?_
      obtain ⟨_, h, ho⟩ := outM_some h
      rw [ho, Out.fin_out] at hJ15
      have h := h.trans hJ15
      obtain rfl := Option.some.inj h
      refine nz ?_
      exact .same _
    have h := ifF hb24 h
    refine AW.sk ?_
    exact JoinQ.ar () [0, 1] (Option.some.inj h).symm
  rintro ⟨⟩ rfl
  have h := hJ15
  try dsimp only [Out.fin] at h
  refine nz ?_
  refine AW.one ?_
  refine obindE h fun oJ26 h hJ26 => ?_
  refine AW.join (S := (List Int) × Tree_placeA) (fun (v25_0, v25_1) => [(2, .ptr 0 6 0 0), (3, .ptr 1 3 0 0), (6, .d (slD i64V v25_0))]) (fun (v25_0, v25_1) => [some ⟨6, [[.d (.val (.int .i64 p0.op)), .d (.val (.string p0.name)), .d (.val (.bool p0.num.neg)), .d (slD u32V p0.num.num), .d (slD u32V p0.num.den), .d (slD NodeA.enc p0.kids)]]⟩, some ⟨3, [[.d (.val (.bool v25_1.inDiff)), .d (.val (.bool v25_1.inFDiff)), .d (.val (.bool v25_1.inFlow))]]⟩]) (fun x => oJ26 = .go x) ?_ ?_
  · skip
    refine AW.op mixed ?_
    refine AW.kp [0, 1] [2, 3, 6, 72] ?_
    refine AW.block ?_
    refine AW.one ?_
    refine obindE h fun oJ28 h hJ28 => ?_
    refine AW.join (S := Bool) (fun v27_0 => [(2, .ptr 0 6 0 0), (3, .ptr 1 3 0 0), (6, nilV i64V r12.2), (72, .d (.val (.int .i64 p0.op))), (73, .d (.val (.bool v27_0)))]) (fun v27_0 => [some ⟨6, [[.d (.val (.int .i64 p0.op)), .d (.val (.string p0.name)), .d (.val (.bool p0.num.neg)), .d (slD u32V p0.num.num), .d (slD u32V p0.num.den), .d (slD NodeA.enc p0.kids)]]⟩, some ⟨3, [[.d (.val (.bool p1.inDiff)), .d (.val (.bool p1.inFDiff)), .d (.val (.bool p1.inFlow))]]⟩]) (fun x => x = oJ28) ?_ ?_
    · skip
      refine AW.op mixed ?_
      refine AW.kp [0, 1] [2, 3, 6, 72, 73] ?_
      refine AW.ts (p0.op == (10 : Int)) (fun hb29 => ?_) (fun hb29 => ?_)
      · have h := ifT hb29 h
        refine AW.sk ?_
        exact JoinQ.ar (p0.op == (10 : Int)) [0, 1] (Option.some.inj h)
      have h := ifF hb29 h
      refine AW.rg mixed ?_
      exact JoinQ.ar (p0.op == (37 : Int)) [0, 1] (Option.some.inj h)
    rintro v27_0 rfl
    have h := hJ28
    try dsimp only [Out.fin] at h
    refine nz ?_
    refine AW.ts v27_0 (fun hb30 => ?_) (fun hb30 => ?_)
    · have h := ifT hb30 h
      refine AW.one ?_
      refine obindE h fun oJ32 h hJ32 => ?_
      refine AW.join (S := Unit) (fun _ => [(2, .ptr 0 6 0 0), (3, .ptr 1 3 0 0), (6, nilV i64V r12.2)]) (fun _ => [some ⟨6, [[.d (.val (.int .i64 p0.op)), .d (.val (.string p0.name)), .d (.val (.bool p0.num.neg)), .d (slD u32V p0.num.num), .d (slD u32V p0.num.den), .d (slD NodeA.enc p0.kids)]]⟩, some ⟨3, [[.d (.val (.bool p1.inDiff)), .d (.val (.bool p1.inFDiff)), .d (.val (.bool p1.inFlow))]]⟩]) (fun x => oJ32 = .go x) ?_ ?_
      · skip
        refine AW.one ?_
        refine obindE h fun oJ34 h hJ34 => ?_
        refine AW.join (S := Bool) (fun v33_0 => [(2, .ptr 0 6 0 0), (3, .ptr 1 3 0 0), (6, nilV i64V r12.2), (85, .d (.val (.bool v33_0)))]) (fun v33_0 => [some ⟨6, [[.d (.val (.int .i64 p0.op)), .d (.val (.string p0.name)), .d (.val (.bool p0.num.neg)), .d (slD u32V p0.num.num), .d (slD u32V p0.num.den), .d (slD NodeA.enc p0.kids)]]⟩, some ⟨3, [[.d (.val (.bool p1.inDiff)), .d (.val (.bool p1.inFDiff)), .d (.val (.bool p1.inFlow))]]⟩]) (fun x => x = oJ34) ?_ ?_
        · skip
          refine AW.rg mixed ?_
          apply obindE h; intro r35 hx36 h
          have hc := nx (tree_Name_ok (h := hx36))
          refine callP hc ?_
          refine splitK_intro (fun hb37 => ?_) (fun hb37 => ?_)
          · have h := ifT hb37 h
            try simp only [go_sem, reduceEqDiff, reduceAdd, reduceSub, reduceMul, reduceLeDiff, reduceLT, Nat.reduceBEq, reduceIte, hb37]
            refine JoinQ.mk true [0, 1] (Option.some.inj h) (by simp only [go_sem, reduceEqDiff, reduceAdd, reduceSub, reduceMul, reduceLeDiff, reduceLT, Nat.reduceBEq, reduceIte, hb37])
          have h := ifF hb37 h
          try simp only [go_sem, reduceEqDiff, reduceAdd, reduceSub, reduceMul, reduceLeDiff, reduceLT, Nat.reduceBEq, reduceIte, hb37]
          refine JoinQ.mk (decide ((1 : Int) < (p0.kids.length : Int))) [0, 1] (Option.some.inj h) (by simp only [go_sem, reduceEqDiff, reduceAdd, reduceSub, reduceMul, reduceLeDiff, reduceLT, Nat.reduceBEq, reduceIte, hb37])
        rintro v33_0 rfl
        have h := hJ34
        try dsimp only [Out.fin] at h
        refine nz ?_
        refine AW.ts v33_0 (fun hb38 => ?_) (fun hb38 => ?_)
        · have h := ifT hb38 h
          refine AW.op mixed ?_
          refine AW.ret ?_
          obtain ⟨_, h, ho⟩ := outM_some h
          rw [ho, Out.fin_out] at hJ32
          have h := h.trans hJ32
          obtain ⟨_, h, ho⟩ := outM_some h
          rw [ho, Out.fin_out] at hJ26
          have h := h.trans hJ26
          obtain rfl := Option.some.inj h
          refine nz ?_
          exact .same _
        have h := ifF hb38 h
        refine AW.sk ?_
        exact JoinQ.ar () [0, 1] (Option.some.inj h).symm
      rintro ⟨⟩ rfl
      have h := hJ32
      try dsimp only [Out.fin] at h
      refine nz ?_
      refine AW.op mixed ?_
      refine AW.kp [0, 1] [2, 3, 6, 88, 89] ?_
      apply obindE h; intro _ hx43 h
      refine AW.cut [0, 1] [(2, .ptr 0 6 0 0), (3, .ptr 1 3 0 0), (6, .d (.val (.slice none 0 0))), (88, .d (.val (.int .i64 (p0.kids.length : Int)))), (89, .d (.val (.int .i64 (0 : Int))))] [some ⟨6, [[.d (.val (.int .i64 p0.op)), .d (.val (.string p0.name)), .d (.val (.bool p0.num.neg)), .d (slD u32V p0.num.num), .d (slD u32V p0.num.den), .d (slD NodeA.enc p0.kids)]]⟩, some ⟨3, [[.d (.val (.bool p1.inDiff)), .d (.val (.bool p1.inFDiff)), .d (.val (.bool p1.inFlow))]]⟩] (by simp only [go_sem, reduceEqDiff, reduceAdd, reduceSub, reduceMul, reduceLeDiff, reduceLT, Nat.reduceBEq, reduceIte, must_none hx43]) ?_
      refine obindE h fun oJ47 h hJ47 => ?_
      refine AW.join (S := (List Int)) (fun e45_0 => [(2, .ptr 0 6 0 0), (3, .ptr 1 3 0 0), (6, accV 2 1 ((e45_0.map i64V).map (·.map .d)))]) (fun e45_0 => [some ⟨6, [[.d (.val (.int .i64 p0.op)), .d (.val (.string p0.name)), .d (.val (.bool p0.num.neg)), .d (slD u32V p0.num.num), .d (slD u32V p0.num.den), .d (slD NodeA.enc p0.kids)]]⟩, some ⟨3, [[.d (.val (.bool p1.inDiff)), .d (.val (.bool p1.inFDiff)), .d (.val (.bool p1.inFlow))]]⟩, accO 1 ((e45_0.map i64V).map (·.map .d))]) (fun x => x = oJ47) ?_ ?_
      · refine AW.block ?_
        refine AW.iter (S := Int × (List Int)) (fun (i44_0, i44_1) => [(2, .ptr 0 6 0 0), (3, .ptr 1 3 0 0), (6, accV 2 1 ((i44_1.map i64V).map (·.map .d))), (88, .d (.val (.int .i64 (p0.kids.length : Int)))), (89, .d (.val (.int .i64 i44_0)))]) (fun (i44_0, i44_1) => [some ⟨6, [[.d (.val (.int .i64 p0.op)), .d (.val (.string p0.name)), .d (.val (.bool p0.num.neg)), .d (slD u32V p0.num.num), .d (slD u32V p0.num.den), .d (slD NodeA.enc p0.kids)]]⟩, some ⟨3, [[.d (.val (.bool p1.inDiff)), .d (.val (.bool p1.inFDiff)), .d (.val (.bool p1.inFlow))]]⟩, accO 1 ((i44_1.map i64V).map (·.map .d))]) [0, 1, 1002] h (by simp only [go_sem, reduceEqDiff, reduceAdd, reduceSub, reduceMul, reduceLeDiff, reduceLT, Nat.reduceBEq, reduceIte]) ?_
        rintro again ⟨i44_0, i44_1⟩ h
        try dsimp only at h
        refine AW.op mixed ?_
        refine AW.cu [0, 1, 2] [(2, .ptr 0 6 0 0), (3, .ptr 1 3 0 0), (6, accV 2 1 ((i44_1.map i64V).map (·.map .d))), (88, .d (.val (.int .i64 (p0.kids.length : Int)))), (89, .d (.val (.int .i64 i44_0))), (90, .d (.val (.bool (decide (i44_0 < (p0.kids.length : Int))))))] [some ⟨6, [[.d (.val (.int .i64 p0.op)), .d (.val (.string p0.name)), .d (.val (.bool p0.num.neg)), .d (slD u32V p0.num.num), .d (slD u32V p0.num.den), .d (slD NodeA.enc p0.kids)]]⟩, some ⟨3, [[.d (.val (.bool p1.inDiff)), .d (.val (.bool p1.inFDiff)), .d (.val (.bool p1.inFlow))]]⟩, accO 1 ((i44_1.map i64V).map (·.map .d))] ?_
        refine AW.one ?_
        refine AW.ts (decide (i44_0 < (p0.kids.length : Int))) (fun hb48 => ?_) (fun hb48 => ?_)
        · have h := ifT hb48 h
          refine AW.sk ?_
          refine AW.cu [0, 1, 2] [(2, .ptr 0 6 0 0), (3, .ptr 1 3 0 0), (6, accV 2 1 ((i44_1.map i64V).map (·.map .d))), (88, .d (.val (.int .i64 (p0.kids.length : Int)))), (89, .d (.val (.int .i64 i44_0)))] [some ⟨6, [[.d (.val (.int .i64 p0.op)), .d (.val (.string p0.name)), .d (.val (.bool p0.num.neg)), .d (slD u32V p0.num.num), .d (slD u32V p0.num.den), .d (slD NodeA.enc p0.kids)]]⟩, some ⟨3, [[.d (.val (.bool p1.inDiff)), .d (.val (.bool p1.inFDiff)), .d (.val (.bool p1.inFlow))]]⟩, accO 1 ((i44_1.map i64V).map (·.map .d))] ?_
          refine AW.one ?_
          refine AW.block ?_
          refine AW.rg mixed ?_
          apply obindE h; intro l49 hx50 h
          refine appG hx50 rfl (by simp only [go_sem, reduceEqDiff, reduceAdd, reduceSub, reduceMul, reduceLeDiff, reduceLT, Nat.reduceBEq, reduceIte]) (by simp only [go_sem, reduceEqDiff, reduceAdd, reduceSub, reduceMul, reduceLeDiff, reduceLT, Nat.reduceBEq, reduceIte]) (by simp only [go_sem, reduceEqDiff, reduceAdd, reduceSub, reduceMul, reduceLeDiff, reduceLT, Nat.reduceBEq, reduceIte]) (by simp) ?_
          try simp only [go_sem, reduceEqDiff, reduceAdd, reduceSub, reduceMul, reduceLeDiff, reduceLT, Nat.reduceBEq, reduceIte]
          refine AW.cu [0, 1, 5] [(2, .ptr 0 6 0 0), (3, .ptr 1 3 0 0), (6, accV 2 1 ((l49.map i64V).map (·.map .d))), (88, .d (.val (.int .i64 (p0.kids.length : Int)))), (89, .d (.val (.int .i64 i44_0)))] [some ⟨6, [[.d (.val (.int .i64 p0.op)), .d (.val (.string p0.name)), .d (.val (.bool p0.num.neg)), .d (slD u32V p0.num.num), .d (slD u32V p0.num.den), .d (slD NodeA.enc p0.kids)]]⟩, some ⟨3, [[.d (.val (.bool p1.inDiff)), .d (.val (.bool p1.inFDiff)), .d (.val (.bool p1.inFlow))]]⟩, accO 1 ((l49.map i64V).map (·.map .d))] ?_
          refine AW.rg mixed ?_
          exact NextQ.ar (IntKind.wrap .i64 (i44_0 + (1 : Int)), l49) [0, 1, 2] h
        have h := ifF hb48 h
        refine AW.ex ?_
        exact JoinQ.ar i44_1 [0, 1, 2] (Option.some.inj h)
      rintro e45_0 rfl
      have h := hJ47
      try dsimp only [Out.fin] at h
      refine nz ?_
      refine JoinQ.mkS (e45_0, p1) [0, 1] [2] [(6, .d (slD i64V e45_0))] [] (Option.some.inj h).symm (by simp only [go_sem, reduceEqDiff, reduceAdd, reduceSub, reduceMul, reduceLeDiff, reduceLT, Nat.reduceBEq, reduceIte, sealL_cons, sealL_nil]; exact sealAcc (by simp only [go_sem, reduceEqDiff, reduceAdd, reduceSub, reduceMul, reduceLeDiff, reduceLT, Nat.reduceBEq, reduceIte])) (by simp only [go_sem, reduceEqDiff, reduceAdd, reduceSub, reduceMul, reduceLeDiff, reduceLT, Nat.reduceBEq, reduceIte, sealH_cons, sealH_nil]) (by simp only [go_sem, reduceEqDiff, reduceAdd, reduceSub, reduceMul, reduceLeDiff, reduceLT, Nat.reduceBEq, reduceIte])
    have h := ifF hb30 h
    refine AW.op mixed ?_
    refine AW.kp [0, 1] [2, 3, 6, 72, 95] ?_
    refine AW.ts (p0.op == (54 : Int)) (fun hb51 => ?_) (fun hb51 => ?_)
    · have h := ifT hb51 h
      refine AW.one ?_
      refine obindE h fun oJ53 h hJ53 => ?_
      refine AW.join (S := Unit) (fun _ => [(2, .ptr 0 6 0 0), (3, .ptr 1 3 0 0), (6, nilV i64V r12.2)]) (fun _ => [some ⟨6, [[.d (.val (.int .i64 p0.op)), .d (.val (.string p0.name)), .d (.val (.bool p0.num.neg)), .d (slD u32V p0.num.num), .d (slD u32V p0.num.den), .d (slD NodeA.enc p0.kids)]]⟩, some ⟨3, [[.d (.val (.bool p1.inDiff)), .d (.val (.bool p1.inFDiff)), .d (.val (.bool p1.inFlow))]]⟩]) (fun x => oJ53 = .go x) ?_ ?_
      · skip
        refine AW.one ?_
        refine obindE h fun oJ55 h hJ55 => ?_
        refine AW.join (S := Bool) (fun v54_0 => [(2, .ptr 0 6 0 0), (3, .ptr 1 3 0 0), (6, nilV i64V r12.2), (105, .d (.val (.bool v54_0)))]) (fun v54_0 => [some ⟨6, [[.d (.val (.int .i64 p0.op)), .d (.val (.string p0.name)), .d (.val (.bool p0.num.neg)), .d (slD u32V p0.num.num), .d (slD u32V p0.num.den), .d (slD NodeA.enc p0.kids)]]⟩, some ⟨3, [[.d (.val (.bool p1.inDiff)), .d (.val (.bool p1.inFDiff)), .d (.val (.bool p1.inFlow))]]⟩]) (fun x => x = oJ55) ?_ ?_
        · skip
          refine AW.rg mixed ?_
          refine splitK_intro (fun hb56 => ?_) (fun hb56 => ?_)
          · have h := ifT hb56 h
            try simp only [go_sem, reduceEqDiff, reduceAdd, reduceSub, reduceMul, reduceLeDiff, reduceLT, Nat.reduceBEq, reduceIte, hb56]
            refine JoinQ.mk true [0, 1] (Option.some.inj h) (by simp only [go_sem, reduceEqDiff, reduceAdd, reduceSub, reduceMul, reduceLeDiff, reduceLT, Nat.reduceBEq, reduceIte, hb56])
          have h := ifF hb56 h
          try simp only [go_sem, reduceEqDiff, reduceAdd, reduceSub, reduceMul, reduceLeDiff, reduceLT, Nat.reduceBEq, reduceIte, hb56]
          refine JoinQ.mk (decide ((p0.kids.length : Int) < (2 : Int))) [0, 1] (Option.some.inj h) (by simp only [go_sem, reduceEqDiff, reduceAdd, reduceSub, reduceMul, reduceLeDiff, reduceLT, Nat.reduceBEq, reduceIte, hb56])
        rintro v54_0 rfl
        have h := hJ55
        try dsimp only [Out.fin] at h
        refine nz ?_
        refine AW.ts v54_0 (fun hb57 => ?_) (fun hb57 => ?_)
        · have h := ifT hb57 h
          refine AW.op mixed ?_
          refine AW.ret ?_
          obtain ⟨_, h, ho⟩ := outM_some h
          rw [ho, Out.fin_out] at hJ53
          have h := h.trans hJ53
          obtain ⟨_, h, ho⟩ := outM_some h
          rw [ho, Out.fin_out] at hJ26
          have h := h.trans hJ26
          obtain rfl := Option.some.inj h
          refine nz ?_
          exact .same _
        have h := ifF hb57 h
        refine AW.sk ?_
        exact JoinQ.ar () [0, 1] (Option.some.inj h).symm
      rintro ⟨⟩ rfl
      have h := hJ53
      try dsimp only [Out.fin] at h
      refine nz ?_
      refine AW.op mixed ?_
      refine AW.kp [0, 1] [2, 3, 6, 7] ?_
      refine AW.one ?_
      refine AW.op mixed ?_
      refine AW.kp [0, 1] [2, 3, 6, 7, 8] ?_
      apply obindE h; intro _ hx62 h
      refine AW.cut [0, 1] [(2, .ptr 0 6 0 0), (3, .ptr 1 3 0 0), (6, .d (.val (.slice none 0 0))), (7, .d (.val (.int .i64 (IntKind.wrap .i64 ((p0.kids.length : Int) - (1 : Int)))))), (8, .d (.val (.int .i64 (0 : Int))))] [some ⟨6, [[.d (.val (.int .i64 p0.op)), .d (.val (.string p0.name)), .d (.val (.bool p0.num.neg)), .d (slD u32V p0.num.num), .d (slD u32V p0.num.den), .d (slD NodeA.enc p0.kids)]]⟩, some ⟨3, [[.d (.val (.bool p1.inDiff)), .d (.val (.bool p1.inFDiff)), .d (.val (.bool p1.inFlow))]]⟩] (by simp only [go_sem, reduceEqDiff, reduceAdd, reduceSub, reduceMul, reduceLeDiff, reduceLT, Nat.reduceBEq, reduceIte, must_none hx62]) ?_
      refine obindE h fun oJ66 h hJ66 => ?_
      refine AW.join (S := (List Int)) (fun e64_0 => [(2, .ptr 0 6 0 0), (3, .ptr 1 3 0 0), (6, accV 2 1 ((e64_0.map i64V).map (·.map .d)))]) (fun e64_0 => [some ⟨6, [[.d (.val (.int .i64 p0.op)), .d (.val (.string p0.name)), .d (.val (.bool p0.num.neg)), .d (slD u32V p0.num.num), .d (slD u32V p0.num.den), .d (slD NodeA.enc p0.kids)]]⟩, some ⟨3, [[.d (.val (.bool p1.inDiff)), .d (.val (.bool p1.inFDiff)), .d (.val (.bool p1.inFlow))]]⟩, accO 1 ((e64_0.map i64V).map (·.map .d))]) (fun x => oJ66 = .go x) ?_ ?_
      · refine AW.block ?_
        refine AW.iter (S := Int × (List Int)) (fun (i63_0, i63_1) => [(2, .ptr 0 6 0 0), (3, .ptr 1 3 0 0), (6, accV 2 1 ((i63_1.map i64V).map (·.map .d))), (7, .d (.val (.int .i64 (IntKind.wrap .i64 ((p0.kids.length : Int) - (1 : Int)))))), (8, .d (.val (.int .i64 i63_0)))]) (fun (i63_0, i63_1) => [some ⟨6, [[.d (.val (.int .i64 p0.op)), .d (.val (.string p0.name)), .d (.val (.bool p0.num.neg)), .d (slD u32V p0.num.num), .d (slD u32V p0.num.den), .d (slD NodeA.enc p0.kids)]]⟩, some ⟨3, [[.d (.val (.bool p1.inDiff)), .d (.val (.bool p1.inFDiff)), .d (.val (.bool p1.inFlow))]]⟩, accO 1 ((i63_1.map i64V).map (·.map .d))]) [0, 1, 1002] h (by simp only [go_sem, reduceEqDiff, reduceAdd, reduceSub, reduceMul, reduceLeDiff, reduceLT, Nat.reduceBEq, reduceIte]) ?_
        rintro again ⟨i63_0, i63_1⟩ h
        try dsimp only at h
        refine AW.one ?_
        refine AW.op mixed ?_
        refine AW.cu [0, 1, 2] [(2, .ptr 0 6 0 0), (3, .ptr 1 3 0 0), (6, accV 2 1 ((i63_1.map i64V).map (·.map .d))), (7, .d (.val (.int .i64 (IntKind.wrap .i64 ((p0.kids.length : Int) - (1 : Int)))))), (8, .d (.val (.int .i64 i63_0))), (112, .d (.val (.bool (decide (i63_0 < (IntKind.wrap .i64 ((p0.kids.length : Int) - (1 : Int))))))))] [some ⟨6, [[.d (.val (.int .i64 p0.op)), .d (.val (.string p0.name)), .d (.val (.bool p0.num.neg)), .d (slD u32V p0.num.num), .d (slD u32V p0.num.den), .d (slD NodeA.enc p0.kids)]]⟩, some ⟨3, [[.d (.val (.bool p1.inDiff)), .d (.val (.bool p1.inFDiff)), .d (.val (.bool p1.inFlow))]]⟩, accO 1 ((i63_1.map i64V).map (·.map .d))] ?_
        refine AW.ts (decide (i63_0 < (IntKind.wrap .i64 ((p0.kids.length : Int) - (1 : Int))))) (fun hb67 => ?_) (fun hb67 => ?_)
        · have h := ifT hb67 h
          refine AW.sk ?_
          refine AW.cu [0, 1, 2] [(2, .ptr 0 6 0 0), (3, .ptr 1 3 0 0), (6, accV 2 1 ((i63_1.map i64V).map (·.map .d))), (7, .d (.val (.int .i64 (IntKind.wrap .i64 ((p0.kids.length : Int) - (1 : Int)))))), (8, .d (.val (.int .i64 i63_0)))] [some ⟨6, [[.d (.val (.int .i64 p0.op)), .d (.val (.string p0.name)), .d (.val (.bool p0.num.neg)), .d (slD u32V p0.num.num), .d (slD u32V p0.num.den), .d (slD NodeA.enc p0.kids)]]⟩, some ⟨3, [[.d (.val (.bool p1.inDiff)), .d (.val (.bool p1.inFDiff)), .d (.val (.bool p1.inFlow))]]⟩, accO 1 ((i63_1.map i64V).map (·.map .d))] ?_
          refine AW.one ?_
          refine obindE h fun oJ69 h hJ69 => ?_
          refine AW.join (S := (List Int)) (fun v68_0 => [(2, .ptr 0 6 0 0), (3, .ptr 1 3 0 0), (6, accV 2 1 ((v68_0.map i64V).map (·.map .d))), (7, .d (.val (.int .i64 (IntKind.wrap .i64 ((p0.kids.length : Int) - (1 : Int)))))), (8, .d (.val (.int .i64 i63_0)))]) (fun v68_0 => [some ⟨6, [[.d (.val (.int .i64 p0.op)), .d (.val (.string p0.name)), .d (.val (.bool p0.num.neg)), .d (slD u32V p0.num.num), .d (slD u32V p0.num.den), .d (slD NodeA.enc p0.kids)]]⟩, some ⟨3, [[.d (.val (.bool p1.inDiff)), .d (.val (.bool p1.inFDiff)), .d (.val (.bool p1.inFlow))]]⟩, accO 1 ((v68_0.map i64V).map (·.map .d))]) (fun x => oJ69 = .go x) ?_ ?_
          · skip
            refine AW.block ?_
            refine AW.one ?_
            refine AW.reg mixed (by kernel_rfl) ?_
            apply obindE h; intro x70 hx71 h
            try simp only [go_sem, reduceEqDiff, reduceAdd, reduceSub, reduceMul, reduceLeDiff, reduceLT, Nat.reduceBEq, reduceIte, (idx_some hx71).1, (idx_some hx71).2]
            refine AW.cut [0, 1, 2, 8] [(2, .ptr 0 6 0 0), (3, .ptr 1 3 0 0), (6, accV 2 1 ((i63_1.map i64V).map (·.map .d))), (7, .d (.val (.int .i64 (IntKind.wrap .i64 ((p0.kids.length : Int) - (1 : Int)))))), (8, .d (.val (.int .i64 i63_0))), (9, .ptr 3 6 0 0)] [some ⟨6, [[.d (.val (.int .i64 p0.op)), .d (.val (.string p0.name)), .d (.val (.bool p0.num.neg)), .d (slD u32V p0.num.num), .d (slD u32V p0.num.den), .d (slD NodeA.enc p0.kids)]]⟩, some ⟨3, [[.d (.val (.bool p1.inDiff)), .d (.val (.bool p1.inFDiff)), .d (.val (.bool p1.inFlow))]]⟩, accO 1 ((i63_1.map i64V).map (·.map .d)), some ⟨6, [[.d (.val (.int .i64 x70.op)), .d (.val (.string x70.name)), .d (.val (.bool x70.num.neg)), .d (slD u32V x70.num.num), .d (slD u32V x70.num.den), .d (slD NodeA.enc x70.kids)]]⟩] (by simp only [go_sem, reduceEqDiff, reduceAdd, reduceSub, reduceMul, reduceLeDiff, reduceLT, Nat.reduceBEq, reduceIte, (idx_some hx71).1, (idx_some hx71).2]) ?_
            refine AW.one ?_
            refine obindE h fun oJ73 h hJ73 => ?_
            refine AW.join (S := Unit) (fun _ => [(2, .ptr 0 6 0 0), (3, .ptr 1 3 0 0), (6, accV 2 1 ((i63_1.map i64V).map (·.map .d))), (7, .d (.val (.int .i64 (IntKind.wrap .i64 ((p0.kids.length : Int) - (1 : Int)))))), (8, .d (.val (.int .i64 i63_0))), (9, .ptr 3 6 0 0)]) (fun _ => [some ⟨6, [[.d (.val (.int .i64 p0.op)), .d (.val (.string p0.name)), .d (.val (.bool p0.num.neg)), .d (slD u32V p0.num.num), .d (slD u32V p0.num.den), .d (slD NodeA.enc p0.kids)]]⟩, some ⟨3, [[.d (.val (.bool p1.inDiff)), .d (.val (.bool p1.inFDiff)), .d (.val (.bool p1.inFlow))]]⟩, accO 1 ((i63_1.map i64V).map (·.map .d)), some ⟨6, [[.d (.val (.int .i64 x70.op)), .d (.val (.string x70.name)), .d (.val (.bool x70.num.neg)), .d (slD u32V x70.num.num), .d (slD u32V x70.num.den), .d (slD NodeA.enc x70.kids)]]⟩]) (fun x => oJ73 = .go x) ?_ ?_
            · skip
              refine AW.one ?_
              refine obindE h fun oJ75 h hJ75 => ?_
              refine AW.join (S := Bool) (fun v74_0 => [(2, .ptr 0 6 0 0), (3, .ptr 1 3 0 0), (6, accV 2 1 ((i63_1.map i64V).map (·.map .d))), (7, .d (.val (.int .i64 (IntKind.wrap .i64 ((p0.kids.length : Int) - (1 : Int)))))), (8, .d (.val (.int .i64 i63_0))), (9, .ptr 3 6 0 0), (133, .d (.val (.bool v74_0)))]) (fun v74_0 => [some ⟨6, [[.d (.val (.int .i64 p0.op)), .d (.val (.string p0.name)), .d (.val (.bool p0.num.neg)), .d (slD u32V p0.num.num), .d (slD u32V p0.num.den), .d (slD NodeA.enc p0.kids)]]⟩, some ⟨3, [[.d (.val (.bool p1.inDiff)), .d (.val (.bool p1.inFDiff)), .d (.val (.bool p1.inFlow))]]⟩, accO 1 ((i63_1.map i64V).map (·.map .d)), some ⟨6, [[.d (.val (.int .i64 x70.op)), .d (.val (.string x70.name)), .d (.val (.bool x70.num.neg)), .d (slD u32V x70.num.num), .d (slD u32V x70.num.den), .d (slD NodeA.enc x70.kids)]]⟩]) (fun x => x = oJ75) ?_ ?_
              · skip
                refine AW.rg mixed ?_
                refine splitK_intro (fun hb76 => ?_) (fun hb76 => ?_)
                · have h := ifT hb76 h
                  try simp only [go_sem, reduceEqDiff, reduceAdd, reduceSub, reduceMul, reduceLeDiff, reduceLT, Nat.reduceBEq, reduceIte, hb76]
                  refine splitK_intro (fun hb77 => ?_) (fun hb77 => ?_)
                  · have h := ifT hb77 h
                    try simp only [go_sem, reduceEqDiff, reduceAdd, reduceSub, reduceMul, reduceLeDiff, reduceLT, Nat.reduceBEq, reduceIte, hb76, hb77]
                    refine JoinQ.mk true [0, 1, 2, 3] (Option.some.inj h) (by simp only [go_sem, reduceEqDiff, reduceAdd, reduceSub, reduceMul, reduceLeDiff, reduceLT, Nat.reduceBEq, reduceIte, hb76, hb77])
                  have h := ifF hb77 h
                  try simp only [go_sem, reduceEqDiff, reduceAdd, reduceSub, reduceMul, reduceLeDiff, reduceLT, Nat.reduceBEq, reduceIte, hb76, hb77]
                  refine JoinQ.mk (i63_0 != (IntKind.wrap .i64 ((IntKind.wrap .i64 ((p0.kids.length : Int) - (1 : Int))) - (1 : Int)))) [0, 1, 2, 3] (Option.some.inj h) (by simp only [go_sem, reduceEqDiff, reduceAdd, reduceSub, reduceMul, reduceLeDiff, reduceLT, Nat.reduceBEq, reduceIte, hb76, hb77])
                have h := ifF hb76 h
                try simp only [go_sem, reduceEqDiff, reduceAdd, reduceSub, reduceMul, reduceLeDiff, reduceLT, Nat.reduceBEq, reduceIte, hb76]
                refine JoinQ.mk false [0, 1, 2, 3] (Option.some.inj h) (by simp only [go_sem, reduceEqDiff, reduceAdd, reduceSub, reduceMul, reduceLeDiff, reduceLT, Nat.reduceBEq, reduceIte, hb76])
              rintro v74_0 rfl
              have h := hJ75
              try dsimp only [Out.fin] at h
              refine nz ?_
              refine AW.ts v74_0 (fun hb78 => ?_) (fun hb78 => ?_)
              · have h := ifT hb78 h
                refine AW.op mixed ?_
                refine AW.ret ?_
                obtain ⟨_, h, ho⟩ := outM_some h
                rw [ho, Out.fin_out] at hJ73
                have h := h.trans hJ73
                obtain ⟨_, h, ho⟩ := outM_some h
                rw [ho, Out.fin_out] at hJ69
                have h := h.trans hJ69
                obtain ⟨_, h, ho⟩ := outM_some h
                rw [ho, Out.fin_out] at hJ66
                have h := h.trans hJ66
                obtain ⟨_, h, ho⟩ := outM_some h
                rw [ho, Out.fin_out] at hJ26
                have h := h.trans hJ26
                obtain rfl := Option.some.inj h
                refine nz ?_
                exact .same _
              have h := ifF hb78 h
              refine AW.sk ?_
              exact JoinQ.ar () [0, 1, 2, 3] (Option.some.inj h).symm
            rintro ⟨⟩ rfl
            have h := hJ73
            try dsimp only [Out.fin] at h
            refine nz ?_
            refine AW.one ?_
            refine AW.one ?_
            refine AW.reg mixed (by kernel_rfl) ?_
            apply obindE h; intro s79 hx80 h
            try simp only [go_sem, reduceEqDiff, reduceAdd, reduceSub, reduceMul, reduceLeDiff, reduceLT, Nat.reduceBEq, reduceIte, hx80]
            refine AW.cut [0, 1, 2, 3] [(2, .ptr 0 6 0 0), (3, .ptr 1 3 0 0), (6, accV 2 1 ((i63_1.map i64V).map (·.map .d))), (7, .d (.val (.int .i64 (IntKind.wrap .i64 ((p0.kids.length : Int) - (1 : Int)))))), (8, .d (.val (.int .i64 i63_0))), (9, .ptr 3 6 0 0), (137, .d (slD NodeA.enc s79)), (138, .d (.val (.int .i64 (s79.length : Int)))), (139, .d (.val (.int .i64 (0 : Int))))] [some ⟨6, [[.d (.val (.int .i64 p0.op)), .d (.val (.string p0.name)), .d (.val (.bool p0.num.neg)), .d (slD u32V p0.num.num), .d (slD u32V p0.num.den), .d (slD NodeA.enc p0.kids)]]⟩, some ⟨3, [[.d (.val (.bool p1.inDiff)), .d (.val (.bool p1.inFDiff)), .d (.val (.bool p1.inFlow))]]⟩, accO 1 ((i63_1.map i64V).map (·.map .d)), some ⟨6, [[.d (.val (.int .i64 x70.op)), .d (.val (.string x70.name)), .d (.val (.bool x70.num.neg)), .d (slD u32V x70.num.num), .d (slD u32V x70.num.den), .d (slD NodeA.enc x70.kids)]]⟩] (by simp only [go_sem, reduceEqDiff, reduceAdd, reduceSub, reduceMul, reduceLeDiff, reduceLT, Nat.reduceBEq, reduceIte, hx80]) ?_
            refine obindE h fun oJ84 h hJ84 => ?_
            refine AW.join (S := Unit) (fun _ => [(2, .ptr 0 6 0 0), (3, .ptr 1 3 0 0), (6, accV 2 1 ((i63_1.map i64V).map (·.map .d))), (7, .d (.val (.int .i64 (IntKind.wrap .i64 ((p0.kids.length : Int) - (1 : Int)))))), (8, .d (.val (.int .i64 i63_0)))]) (fun _ => [some ⟨6, [[.d (.val (.int .i64 p0.op)), .d (.val (.string p0.name)), .d (.val (.bool p0.num.neg)), .d (slD u32V p0.num.num), .d (slD u32V p0.num.den), .d (slD NodeA.enc p0.kids)]]⟩, some ⟨3, [[.d (.val (.bool p1.inDiff)), .d (.val (.bool p1.inFDiff)), .d (.val (.bool p1.inFlow))]]⟩, accO 1 ((i63_1.map i64V).map (·.map .d))]) (fun x => oJ84 = .go x) ?_ ?_
            · refine AW.block ?_
              refine AW.iter (S := Int) (fun i81_0 => [(2, .ptr 0 6 0 0), (3, .ptr 1 3 0 0), (6, accV 2 1 ((i63_1.map i64V).map (·.map .d))), (7, .d (.val (.int .i64 (IntKind.wrap .i64 ((p0.kids.length : Int) - (1 : Int)))))), (8, .d (.val (.int .i64 i63_0))), (9, .ptr 3 6 0 0), (137, .d (slD NodeA.enc s79)), (138, .d (.val (.int .i64 (s79.length : Int)))), (139, .d (.val (.int .i64 i81_0)))]) (fun i81_0 => [some ⟨6, [[.d (.val (.int .i64 p0.op)), .d (.val (.string p0.name)), .d (.val (.bool p0.num.neg)), .d (slD u32V p0.num.num), .d (slD u32V p0.num.den), .d (slD NodeA.enc p0.kids)]]⟩, some ⟨3, [[.d (.val (.bool p1.inDiff)), .d (.val (.bool p1.inFDiff)), .d (.val (.bool p1.inFlow))]]⟩, accO 1 ((i63_1.map i64V).map (·.map .d)), some ⟨6, [[.d (.val (.int .i64 x70.op)), .d (.val (.string x70.name)), .d (.val (.bool x70.num.neg)), .d (slD u32V x70.num.num), .d (slD u32V x70.num.den), .d (slD NodeA.enc x70.kids)]]⟩]) [0, 1, 2, 3] h (by simp only [go_sem, reduceEqDiff, reduceAdd, reduceSub, reduceMul, reduceLeDiff, reduceLT, Nat.reduceBEq, reduceIte]) ?_
              rintro again i81_0 h
              try dsimp only at h
              refine AW.op mixed ?_
              refine AW.cu [0, 1, 2, 3] [(2, .ptr 0 6 0 0), (3, .ptr 1 3 0 0), (6, accV 2 1 ((i63_1.map i64V).map (·.map .d))), (7, .d (.val (.int .i64 (IntKind.wrap .i64 ((p0.kids.length : Int) - (1 : Int)))))), (8, .d (.val (.int .i64 i63_0))), (9, .ptr 3 6 0 0), (137, .d (slD NodeA.enc s79)), (138, .d (.val (.int .i64 (s79.length : Int)))), (139, .d (.val (.int .i64 i81_0))), (140, .d (.val (.bool (decide (i81_0 < (s79.length : Int))))))] [some ⟨6, [[.d (.val (.int .i64 p0.op)), .d (.val (.string p0.name)), .d (.val (.bool p0.num.neg)), .d (slD u32V p0.num.num), .d (slD u32V p0.num.den), .d (slD NodeA.enc p0.kids)]]⟩, some ⟨3, [[.d (.val (.bool p1.inDiff)), .d (.val (.bool p1.inFDiff)), .d (.val (.bool p1.inFlow))]]⟩, accO 1 ((i63_1.map i64V).map (·.map .d)), some ⟨6, [[.d (.val (.int .i64 x70.op)), .d (.val (.string x70.name)), .d (.val (.bool x70.num.neg)), .d (slD u32V x70.num.num), .d (slD u32V x70.num.den), .d (slD NodeA.enc x70.kids)]]⟩] ?_
              refine AW.one ?_
              refine AW.ts (decide (i81_0 < (s79.length : Int))) (fun hb85 => ?_) (fun hb85 => ?_)
              · have h := ifT hb85 h
                refine AW.sk ?_
                refine AW.cu [0, 1, 2, 3] [(2, .ptr 0 6 0 0), (3, .ptr 1 3 0 0), (6, accV 2 1 ((i63_1.map i64V).map (·.map .d))), (7, .d (.val (.int .i64 (IntKind.wrap .i64 ((p0.kids.length : Int) - (1 : Int)))))), (8, .d (.val (.int .i64 i63_0))), (9, .ptr 3 6 0 0), (137, .d (slD NodeA.enc s79)), (138, .d (.val (.int .i64 (s79.length : Int)))), (139, .d (.val (.int .i64 i81_0)))] [some ⟨6, [[.d (.val (.int .i64 p0.op)), .d (.val (.string p0.name)), .d (.val (.bool p0.num.neg)), .d (slD u32V p0.num.num), .d (slD u32V p0.num.den), .d (slD NodeA.enc p0.kids)]]⟩, some ⟨3, [[.d (.val (.bool p1.inDiff)), .d (.val (.bool p1.inFDiff)), .d (.val (.bool p1.inFlow))]]⟩, accO 1 ((i63_1.map i64V).map (·.map .d)), some ⟨6, [[.d (.val (.int .i64 x70.op)), .d (.val (.string x70.name)), .d (.val (.bool x70.num.neg)), .d (slD u32V x70.num.num), .d (slD u32V x70.num.den), .d (slD NodeA.enc x70.kids)]]⟩] ?_
                refine AW.one ?_
                refine obindE h fun oJ87 h hJ87 => ?_
                refine AW.join (S := Unit) (fun _ => [(2, .ptr 0 6 0 0), (3, .ptr 1 3 0 0), (6, accV 2 1 ((i63_1.map i64V).map (·.map .d))), (7, .d (.val (.int .i64 (IntKind.wrap .i64 ((p0.kids.length : Int) - (1 : Int)))))), (8, .d (.val (.int .i64 i63_0))), (9, .ptr 3 6 0 0), (137, .d (slD NodeA.enc s79)), (138, .d (.val (.int .i64 (s79.length : Int)))), (139, .d (.val (.int .i64 i81_0)))]) (fun _ => [some ⟨6, [[.d (.val (.int .i64 p0.op)), .d (.val (.string p0.name)), .d (.val (.bool p0.num.neg)), .d (slD u32V p0.num.num), .d (slD u32V p0.num.den), .d (slD NodeA.enc p0.kids)]]⟩, some ⟨3, [[.d (.val (.bool p1.inDiff)), .d (.val (.bool p1.inFDiff)), .d (.val (.bool p1.inFlow))]]⟩, accO 1 ((i63_1.map i64V).map (·.map .d)), some ⟨6, [[.d (.val (.int .i64 x70.op)), .d (.val (.string x70.name)), .d (.val (.bool x70.num.neg)), .d (slD u32V x70.num.num), .d (slD u32V x70.num.den), .d (slD NodeA.enc x70.kids)]]⟩]) (fun x => oJ87 = .go x) ?_ ?_
                · skip
                  refine AW.block ?_
                  refine AW.one ?_
                  refine AW.reg mixed (by kernel_rfl) ?_
                  apply obindE h; intro x88 hx89 h
                  try simp only [go_sem, reduceEqDiff, reduceAdd, reduceSub, reduceMul, reduceLeDiff, reduceLT, Nat.reduceBEq, reduceIte, (idx_some hx89).1, (idx_some hx89).2]
                  refine AW.cut [0, 1, 2, 3, 6] [(2, .ptr 0 6 0 0), (3, .ptr 1 3 0 0), (6, accV 2 1 ((i63_1.map i64V).map (·.map .d))), (7, .d (.val (.int .i64 (IntKind.wrap .i64 ((p0.kids.length : Int) - (1 : Int)))))), (8, .d (.val (.int .i64 i63_0))), (9, .ptr 3 6 0 0), (11, .ptr 4 6 0 0), (137, .d (slD NodeA.enc s79)), (138, .d (.val (.int .i64 (s79.length : Int)))), (139, .d (.val (.int .i64 i81_0)))] [some ⟨6, [[.d (.val (.int .i64 p0.op)), .d (.val (.string p0.name)), .d (.val (.bool p0.num.neg)), .d (slD u32V p0.num.num), .d (slD u32V p0.num.den), .d (slD NodeA.enc p0.kids)]]⟩, some ⟨3, [[.d (.val (.bool p1.inDiff)), .d (.val (.bool p1.inFDiff)), .d (.val (.bool p1.inFlow))]]⟩, accO 1 ((i63_1.map i64V).map (·.map .d)), some ⟨6, [[.d (.val (.int .i64 x70.op)), .d (.val (.string x70.name)), .d (.val (.bool x70.num.neg)), .d (slD u32V x70.num.num), .d (slD u32V x70.num.den), .d (slD NodeA.enc x70.kids)]]⟩, some ⟨6, [[.d (.val (.int .i64 x88.op)), .d (.val (.string x88.name)), .d (.val (.bool x88.num.neg)), .d (slD u32V x88.num.num), .d (slD u32V x88.num.den), .d (slD NodeA.enc x88.kids)]]⟩] (by simp only [go_sem, reduceEqDiff, reduceAdd, reduceSub, reduceMul, reduceLeDiff, reduceLT, Nat.reduceBEq, reduceIte, (idx_some hx89).1, (idx_some hx89).2]) ?_
                  refine AW.one ?_
                  refine obindE h fun oJ91 h hJ91 => ?_
                  refine AW.join (S := Bool) (fun v90_0 => [(2, .ptr 0 6 0 0), (3, .ptr 1 3 0 0), (6, accV 2 1 ((i63_1.map i64V).map (·.map .d))), (7, .d (.val (.int .i64 (IntKind.wrap .i64 ((p0.kids.length : Int) - (1 : Int)))))), (8, .d (.val (.int .i64 i63_0))), (9, .ptr 3 6 0 0), (137, .d (slD NodeA.enc s79)), (138, .d (.val (.int .i64 (s79.length : Int)))), (139, .d (.val (.int .i64 i81_0))), (152, .d (.val (.bool v90_0)))]) (fun v90_0 => [some ⟨6, [[.d (.val (.int .i64 p0.op)), .d (.val (.string p0.name)), .d (.val (.bool p0.num.neg)), .d (slD u32V p0.num.num), .d (slD u32V p0.num.den), .d (slD NodeA.enc p0.kids)]]⟩, some ⟨3, [[.d (.val (.bool p1.inDiff)), .d (.val (.bool p1.inFDiff)), .d (.val (.bool p1.inFlow))]]⟩, accO 1 ((i63_1.map i64V).map (·.map .d)), some ⟨6, [[.d (.val (.int .i64 x70.op)), .d (.val (.string x70.name)), .d (.val (.bool x70.num.neg)), .d (slD u32V x70.num.num), .d (slD u32V x70.num.den), .d (slD NodeA.enc x70.kids)]]⟩]) (fun x => x = oJ91) ?_ ?_
                  · skip
                    refine AW.rg mixed ?_
                    refine splitK_intro (fun hb92 => ?_) (fun hb92 => ?_)
                    · have h := ifT hb92 h
                      try simp only [go_sem, reduceEqDiff, reduceAdd, reduceSub, reduceMul, reduceLeDiff, reduceLT, Nat.reduceBEq, reduceIte, hb92]
                      refine JoinQ.mk (x88.name.toList == x70.name.toList) [0, 1, 2, 3] (Option.some.inj h) (by simp only [go_sem, reduceEqDiff, reduceAdd, reduceSub, reduceMul, reduceLeDiff, reduceLT, Nat.reduceBEq, reduceIte, hb92])
                    have h := ifF hb92 h
                    try simp only [go_sem, reduceEqDiff, reduceAdd, reduceSub, reduceMul, reduceLeDiff, reduceLT, Nat.reduceBEq, reduceIte, hb92]
                    refine JoinQ.mk false [0, 1, 2, 3] (Option.some.inj h) (by simp only [go_sem, reduceEqDiff, reduceAdd, reduceSub, reduceMul, reduceLeDiff, reduceLT, Nat.reduceBEq, reduceIte, hb92])
                  rintro v90_0 rfl
                  have h := hJ91
                  try dsimp only [Out.fin] at h
                  refine nz ?_
                  refine AW.ts v90_0 (fun hb93 => ?_) (fun hb93 => ?_)
                  · have h := ifT hb93 h
                    refine AW.op mixed ?_
                    refine AW.ret ?_
                    obtain ⟨_, h, ho⟩ := outM_some h
                    rw [ho, Out.fin_out] at hJ87
                    have h := h.trans hJ87
                    obtain ⟨_, h, ho⟩ := outM_some h
                    rw [ho, Out.fin_out] at hJ84
                    have h := h.trans hJ84
                    obtain ⟨_, h, ho⟩ := outM_some h
                    rw [ho, Out.fin_out] at hJ69
                    have h := h.trans hJ69
                    obtain ⟨_, h, ho⟩ := outM_some h
                    rw [ho, Out.fin_out] at hJ66
                    have h := h.trans hJ66
                    obtain ⟨_, h, ho⟩ := outM_some h
                    rw [ho, Out.fin_out] at hJ26
                    have h := h.trans hJ26
                    obtain rfl := Option.some.inj h
                    refine nz ?_
                    exact .same _
                  have h := ifF hb93 h
                  refine AW.sk ?_
                  exact JoinQ.ar () [0, 1, 2, 3] (Option.some.inj h).symm
                rintro ⟨⟩ rfl
                have h := hJ87
                try dsimp only [Out.fin] at h
                refine nz ?_
                refine AW.rg mixed ?_
                exact NextQ.ar (IntKind.wrap .i64 (i81_0 + (1 : Int))) [0, 1, 2, 3] h
              have h := ifF hb85 h
              refine AW.ex ?_
              exact JoinQ.ar () [0, 1, 2] (Option.some.inj h).symm
            rintro ⟨⟩ rfl
            have h := hJ84
            try dsimp only [Out.fin] at h
            refine nz ?_
            refine AW.cu [0, 1, 2] [(2, .ptr 0 6 0 0), (3, .ptr 1 3 0 0), (6, accV 2 1 ((i63_1.map i64V).map (·.map .d))), (7, .d (.val (.int .i64 (IntKind.wrap .i64 ((p0.kids.length : Int) - (1 : Int)))))), (8, .d (.val (.int .i64 i63_0)))] [some ⟨6, [[.d (.val (.int .i64 p0.op)), .d (.val (.string p0.name)), .d (.val (.bool p0.num.neg)), .d (slD u32V p0.num.num), .d (slD u32V p0.num.den), .d (slD NodeA.enc p0.kids)]]⟩, some ⟨3, [[.d (.val (.bool p1.inDiff)), .d (.val (.bool p1.inFDiff)), .d (.val (.bool p1.inFlow))]]⟩, accO 1 ((i63_1.map i64V).map (·.map .d))] ?_
            refine AW.rg mixed ?_
            apply obindE h; intro l94 hx95 h
            refine appG hx95 rfl (by simp only [go_sem, reduceEqDiff, reduceAdd, reduceSub, reduceMul, reduceLeDiff, reduceLT, Nat.reduceBEq, reduceIte]) (by simp only [go_sem, reduceEqDiff, reduceAdd, reduceSub, reduceMul, reduceLeDiff, reduceLT, Nat.reduceBEq, reduceIte]) (by simp only [go_sem, reduceEqDiff, reduceAdd, reduceSub, reduceMul, reduceLeDiff, reduceLT, Nat.reduceBEq, reduceIte]) (by simp) ?_
            try simp only [go_sem, reduceEqDiff, reduceAdd, reduceSub, reduceMul, reduceLeDiff, reduceLT, Nat.reduceBEq, reduceIte]
            exact JoinQ.ar l94 [0, 1, 5] (Option.some.inj h).symm
          rintro v68_0 rfl
          have h := hJ69
          try dsimp only [Out.fin] at h
          refine nz ?_
          refine AW.rg mixed ?_
          exact NextQ.ar (IntKind.wrap .i64 (i63_0 + (1 : Int)), v68_0) [0, 1, 2] h
        have h := ifF hb67 h
        refine AW.ex ?_
        exact JoinQ.ar i63_1 [0, 1, 2] (Option.some.inj h).symm
      rintro e64_0 rfl
      have h := hJ66
      try dsimp only [Out.fin] at h
      refine nz ?_
      refine AW.cu [0, 1, 2] [(2, .ptr 0 6 0 0), (3, .ptr 1 3 0 0), (6, accV 2 1 ((e64_0.map i64V).map (·.map .d)))] [some ⟨6, [[.d (.val (.int .i64 p0.op)), .d (.val (.string p0.name)), .d (.val (.bool p0.num.neg)), .d (slD u32V p0.num.num), .d (slD u32V p0.num.den), .d (slD NodeA.enc p0.kids)]]⟩, some ⟨3, [[.d (.val (.bool p1.inDiff)), .d (.val (.bool p1.inFDiff)), .d (.val (.bool p1.inFlow))]]⟩, accO 1 ((e64_0.map i64V).map (·.map .d))] ?_
      refine AW.op mixed ?_
      apply obindE h; intro l96 hx97 h
      refine appG hx97 rfl (by simp only [go_sem, reduceEqDiff, reduceAdd, reduceSub, reduceMul, reduceLeDiff, reduceLT, Nat.reduceBEq, reduceIte]) (by simp only [go_sem, reduceEqDiff, reduceAdd, reduceSub, reduceMul, reduceLeDiff, reduceLT, Nat.reduceBEq, reduceIte]) (by simp only [go_sem, reduceEqDiff, reduceAdd, reduceSub, reduceMul, reduceLeDiff, reduceLT, Nat.reduceBEq, reduceIte]) (by simp) ?_
      try simp only [go_sem, reduceEqDiff, reduceAdd, reduceSub, reduceMul, reduceLeDiff, reduceLT, Nat.reduceBEq, reduceIte]
      refine AW.cu [0, 1, 5] [(2, .ptr 0 6 0 0), (3, .ptr 1 3 0 0), (6, accV 2 1 ((l96.map i64V).map (·.map .d)))] [some ⟨6, [[.d (.val (.int .i64 p0.op)), .d (.val (.string p0.name)), .d (.val (.bool p0.num.neg)), .d (slD u32V p0.num.num), .d (slD u32V p0.num.den), .d (slD NodeA.enc p0.kids)]]⟩, some ⟨3, [[.d (.val (.bool p1.inDiff)), .d (.val (.bool p1.inFDiff)), .d (.val (.bool p1.inFlow))]]⟩, accO 1 ((l96.map i64V).map (·.map .d))] ?_
      refine AW.rg mixed ?_
      refine JoinQ.mkS (l96, (Tree_placeA.mk p1.inDiff p1.inFDiff true)) [0, 1] [2] [(6, .d (slD i64V l96))] [] (Option.some.inj h).symm (by simp only [go_sem, reduceEqDiff, reduceAdd, reduceSub, reduceMul, reduceLeDiff, reduceLT, Nat.reduceBEq, reduceIte, sealL_cons, sealL_nil]; exact sealAcc (by simp only [go_sem, reduceEqDiff, reduceAdd, reduceSub, reduceMul, reduceLeDiff, reduceLT, Nat.reduceBEq, reduceIte])) (by simp only [go_sem, reduceEqDiff, reduceAdd, reduceSub, reduceMul, reduceLeDiff, reduceLT, Nat.reduceBEq, reduceIte, sealH_cons, sealH_nil]) (by simp only [go_sem, reduceEqDiff, reduceAdd, reduceSub, reduceMul, reduceLeDiff, reduceLT, Nat.reduceBEq, reduceIte])
    have h := ifF hb51 h
    refine AW.op mixed ?_
    refine AW.kp [0, 1] [2, 3, 6, 72, 161] ?_
    refine AW.ts (p0.op == (3 : Int)) (fun hb98 => ?_) (fun hb98 => ?_)
    · have h := ifT hb98 h
      refine AW.one ?_
      refine obindE h fun oJ100 h hJ100 => ?_
      refine AW.join (S := Bool) (fun v99_0 => [(2, .ptr 0 6 0 0), (3, .ptr 1 3 0 0), (6, nilV i64V r12.2), (172, .d (.val (.bool v99_0)))]) (fun v99_0 => [some ⟨6, [[.d (.val (.int .i64 p0.op)), .d (.val (.string p0.name)), .d (.val (.bool p0.num.neg)), .d (slD u32V p0.num.num), .d (slD u32V p0.num.den), .d (slD NodeA.enc p0.kids)]]⟩, some ⟨3, [[.d (.val (.bool p1.inDiff)), .d (.val (.bool p1.inFDiff)), .d (.val (.bool p1.inFlow))]]⟩]) (fun x => x = oJ100) ?_ ?_
      · skip
        refine AW.rg mixed ?_
        refine splitK_intro (fun hb101 => ?_) (fun hb101 => ?_)
        · have h := ifT hb101 h
          try simp only [go_sem, reduceEqDiff, reduceAdd, reduceSub, reduceMul, reduceLeDiff, reduceLT, Nat.reduceBEq, reduceIte, hb101]
          refine JoinQ.mk true [0, 1] (Option.some.inj h) (by simp only [go_sem, reduceEqDiff, reduceAdd, reduceSub, reduceMul, reduceLeDiff, reduceLT, Nat.reduceBEq, reduceIte, hb101])
        have h := ifF hb101 h
        try simp only [go_sem, reduceEqDiff, reduceAdd, reduceSub, reduceMul, reduceLeDiff, reduceLT, Nat.reduceBEq, reduceIte, hb101]
        refine splitK_intro (fun hb102 => ?_) (fun hb102 => ?_)
        · have h := ifT hb102 h
          try simp only [go_sem, reduceEqDiff, reduceAdd, reduceSub, reduceMul, reduceLeDiff, reduceLT, Nat.reduceBEq, reduceIte, hb101, hb102]
          refine JoinQ.mk true [0, 1] (Option.some.inj h) (by simp only [go_sem, reduceEqDiff, reduceAdd, reduceSub, reduceMul, reduceLeDiff, reduceLT, Nat.reduceBEq, reduceIte, hb101, hb102])
        have h := ifF hb102 h
        try simp only [go_sem, reduceEqDiff, reduceAdd, reduceSub, reduceMul, reduceLeDiff, reduceLT, Nat.reduceBEq, reduceIte, hb101, hb102]
        refine JoinQ.mk p1.inFlow [0, 1] (Option.some.inj h) (by simp only [go_sem, reduceEqDiff, reduceAdd, reduceSub, reduceMul, reduceLeDiff, reduceLT, Nat.reduceBEq, reduceIte, hb101, hb102])
      rintro v99_0 rfl
      have h := hJ100
      try dsimp only [Out.fin] at h
      refine nz ?_
      refine AW.ts v99_0 (fun hb103 => ?_) (fun hb103 => ?_)
      · have h := ifT hb103 h
        refine AW.op mixed ?_
        refine AW.ret ?_
        obtain ⟨_, h, ho⟩ := outM_some h
        rw [ho, Out.fin_out] at hJ26
        have h := h.trans hJ26
        obtain rfl := Option.some.inj h
        refine nz ?_
        exact .same _
      have h := ifF hb103 h
      refine AW.sk ?_
      refine JoinQ.mkS ((r12.2.getD []), p1) [0, 1] [] [(6, .d (slD i64V (r12.2.getD [])))] [] (Option.some.inj h).symm (by simp only [go_sem, reduceEqDiff, reduceAdd, reduceSub, reduceMul, reduceLeDiff, reduceLT, Nat.reduceBEq, reduceIte, sealL_cons, sealL_nil]; exact sealNil) (by simp only [go_sem, reduceEqDiff, reduceAdd, reduceSub, reduceMul, reduceLeDiff, reduceLT, Nat.reduceBEq, reduceIte, sealH_cons, sealH_nil]) (by simp only [go_sem, reduceEqDiff, reduceAdd, reduceSub, reduceMul, reduceLeDiff, reduceLT, Nat.reduceBEq, reduceIte])
    have h := ifF hb98 h
    refine AW.op mixed ?_
    refine AW.kp [0, 1] [2, 3, 6, 72, 173] ?_
    refine AW.ts (p0.op == (12 : Int)) (fun hb104 => ?_) (fun hb104 => ?_)
    · have h := ifT hb104 h
      refine AW.one ?_
      refine obindE h fun oJ106 h hJ106 => ?_
      refine AW.join (S := Unit) (fun _ => [(2, .ptr 0 6 0 0), (3, .ptr 1 3 0 0), (6, nilV i64V r12.2)]) (fun _ => [some ⟨6, [[.d (.val (.int .i64 p0.op)), .d (.val (.string p0.name)), .d (.val (.bool p0.num.neg)), .d (slD u32V p0.num.num), .d (slD u32V p0.num.den), .d (slD NodeA.enc p0.kids)]]⟩, some ⟨3, [[.d (.val (.bool p1.inDiff)), .d (.val (.bool p1.inFDiff)), .d (.val (.bool p1.inFlow))]]⟩]) (fun x => oJ106 = .go x) ?_ ?_
      · skip
        refine AW.one ?_
        refine obindE h fun oJ108 h hJ108 => ?_
        refine AW.join (S := Bool) (fun v107_0 => [(2, .ptr 0 6 0 0), (3, .ptr 1 3 0 0), (6, nilV i64V r12.2), (180, .d (.val (.bool v107_0)))]) (fun v107_0 => [some ⟨6, [[.d (.val (.int .i64 p0.op)), .d (.val (.string p0.name)), .d (.val (.bool p0.num.neg)), .d (slD u32V p0.num.num), .d (slD u32V p0.num.den), .d (slD NodeA.enc p0.kids)]]⟩, some ⟨3, [[.d (.val (.bool p1.inDiff)), .d (.val (.bool p1.inFDiff)), .d (.val (.bool p1.inFlow))]]⟩]) (fun x => x = oJ108) ?_ ?_
        · skip
          refine AW.rg mixed ?_
          refine splitK_intro (fun hb109 => ?_) (fun hb109 => ?_)
          · have h := ifT hb109 h
            try simp only [go_sem, reduceEqDiff, reduceAdd, reduceSub, reduceMul, reduceLeDiff, reduceLT, Nat.reduceBEq, reduceIte, hb109]
            refine JoinQ.mk true [0, 1] (Option.some.inj h) (by simp only [go_sem, reduceEqDiff, reduceAdd, reduceSub, reduceMul, reduceLeDiff, reduceLT, Nat.reduceBEq, reduceIte, hb109])
          have h := ifF hb109 h
          try simp only [go_sem, reduceEqDiff, reduceAdd, reduceSub, reduceMul, reduceLeDiff, reduceLT, Nat.reduceBEq, reduceIte, hb109]
          refine JoinQ.mk p1.inFlow [0, 1] (Option.some.inj h) (by simp only [go_sem, reduceEqDiff, reduceAdd, reduceSub, reduceMul, reduceLeDiff, reduceLT, Nat.reduceBEq, reduceIte, hb109])
        rintro v107_0 rfl
        have h := hJ108
        try dsimp only [Out.fin] at h
        refine nz ?_
        refine AW.ts v107_0 (fun hb110 => ?_) (fun hb110 => ?_)
        · have h := ifT hb110 h
          refine AW.op mixed ?_
          refine AW.ret ?_
          obtain ⟨_, h, ho⟩ := outM_some h
          rw [ho, Out.fin_out] at hJ106
          have h := h.trans hJ106
          obtain ⟨_, h, ho⟩ := outM_some h
          rw [ho, Out.fin_out] at hJ26
          have h := h.trans hJ26
          obtain rfl := Option.some.inj h
          refine nz ?_
          exact .same _
        have h := ifF hb110 h
        refine AW.sk ?_
        exact JoinQ.ar () [0, 1] (Option.some.inj h).symm
      rintro ⟨⟩ rfl
      have h := hJ106
      try dsimp only [Out.fin] at h
      refine nz ?_
      refine AW.rg mixed ?_
      refine JoinQ.mkS ((r12.2.getD []), (Tree_placeA.mk true p1.inFDiff p1.inFlow)) [0, 1] [] [(6, .d (slD i64V (r12.2.getD [])))] [] (Option.some.inj h).symm (by simp only [go_sem, reduceEqDiff, reduceAdd, reduceSub, reduceMul, reduceLeDiff, reduceLT, Nat.reduceBEq, reduceIte, sealL_cons, sealL_nil]; exact sealNil) (by simp only [go_sem, reduceEqDiff, reduceAdd, reduceSub, reduceMul, reduceLeDiff, reduceLT, Nat.reduceBEq, reduceIte, sealH_cons, sealH_nil]) (by simp only [go_sem, reduceEqDiff, reduceAdd, reduceSub, reduceMul, reduceLeDiff, reduceLT, Nat.reduceBEq, reduceIte])
    have h := ifF hb104 h
    refine AW.op mixed ?_
    refine AW.kp [0, 1] [2, 3, 6, 182] ?_
    refine AW.ts (p0.op == (39 : Int)) (fun hb111 => ?_) (fun hb111 => ?_)
    · have h := ifT hb111 h
      refine AW.one ?_
      refine obindE h fun oJ113 h hJ113 => ?_
      refine AW.join (S := Unit) (fun _ => [(2, .ptr 0 6 0 0), (3, .ptr 1 3 0 0), (6, nilV i64V r12.2)]) (fun _ => [some ⟨6, [[.d (.val (.int .i64 p0.op)), .d (.val (.string p0.name)), .d (.val (.bool p0.num.neg)), .d (slD u32V p0.num.num), .d (slD u32V p0.num.den), .d (slD NodeA.enc p0.kids)]]⟩, some ⟨3, [[.d (.val (.bool p1.inDiff)), .d (.val (.bool p1.inFDiff)), .d (.val (.bool p1.inFlow))]]⟩]) (fun x => oJ113 = .go x) ?_ ?_
      · skip
        refine AW.one ?_
        refine obindE h fun oJ115 h hJ115 => ?_
        refine AW.join (S := Bool) (fun v114_0 => [(2, .ptr 0 6 0 0), (3, .ptr 1 3 0 0), (6, nilV i64V r12.2), (199, .d (.val (.bool v114_0)))]) (fun v114_0 => [some ⟨6, [[.d (.val (.int .i64 p0.op)), .d (.val (.string p0.name)), .d (.val (.bool p0.num.neg)), .d (slD u32V p0.num.num), .d (slD u32V p0.num.den), .d (slD NodeA.enc p0.kids)]]⟩, some ⟨3, [[.d (.val (.bool p1.inDiff)), .d (.val (.bool p1.inFDiff)), .d (.val (.bool p1.inFlow))]]⟩]) (fun x => x = oJ115) ?_ ?_
        · skip
          refine AW.rg mixed ?_
          refine splitK_intro (fun hb116 => ?_) (fun hb116 => ?_)
          · have h := ifT hb116 h
            try simp only [go_sem, reduceEqDiff, reduceAdd, reduceSub, reduceMul, reduceLeDiff, reduceLT, Nat.reduceBEq, reduceIte, hb116]
            refine JoinQ.mk true [0, 1] (Option.some.inj h) (by simp only [go_sem, reduceEqDiff, reduceAdd, reduceSub, reduceMul, reduceLeDiff, reduceLT, Nat.reduceBEq, reduceIte, hb116])
          have h := ifF hb116 h
          try simp only [go_sem, reduceEqDiff, reduceAdd, reduceSub, reduceMul, reduceLeDiff, reduceLT, Nat.reduceBEq, reduceIte, hb116]
          refine splitK_intro (fun hb117 => ?_) (fun hb117 => ?_)
          · have h := ifT hb117 h
            try simp only [go_sem, reduceEqDiff, reduceAdd, reduceSub, reduceMul, reduceLeDiff, reduceLT, Nat.reduceBEq, reduceIte, hb116, hb117]
            refine JoinQ.mk true [0, 1] (Option.some.inj h) (by simp only [go_sem, reduceEqDiff, reduceAdd, reduceSub, reduceMul, reduceLeDiff, reduceLT, Nat.reduceBEq, reduceIte, hb116, hb117])
          have h := ifF hb117 h
          apply obindE h; intro x118 hx119 h
          try simp only [go_sem, reduceEqDiff, reduceAdd, reduceSub, reduceMul, reduceLeDiff, reduceLT, Nat.reduceBEq, reduceIte, hb116, hb117, (idx_some hx119).1, (idx_some hx119).2]
          apply obindE h; intro r120 hx121 h
          have hc := nx (tree_differentiable_ok (h := hx121))
          refine callK_pure hc (by simp only [go_sem, reduceEqDiff, reduceAdd, reduceSub, reduceMul, reduceLeDiff, reduceLT, Nat.reduceBEq, reduceIte]) ?_
          try simp only [go_sem, reduceEqDiff, reduceAdd, reduceSub, reduceMul, reduceLeDiff, reduceLT, Nat.reduceBEq, reduceIte, hb116, hb117, (idx_some hx119).1, (idx_some hx119).2]
          refine JoinQ.mk (!r120) [0, 1] (Option.some.inj h) (by simp only [go_sem, reduceEqDiff, reduceAdd, reduceSub, reduceMul, reduceLeDiff, reduceLT, Nat.reduceBEq, reduceIte, hb116, hb117, (idx_some hx119).1, (idx_some hx119).2])
        rintro v114_0 rfl
        have h := hJ115
        try dsimp only [Out.fin] at h
        refine nz ?_
        refine AW.ts v114_0 (fun hb122 => ?_) (fun hb122 => ?_)
        · have h := ifT hb122 h
          refine AW.op mixed ?_
          refine AW.ret ?_
          obtain ⟨_, h, ho⟩ := outM_some h
          rw [ho, Out.fin_out] at hJ113
          have h := h.trans hJ113
          obtain ⟨_, h, ho⟩ := outM_some h
          rw [ho, Out.fin_out] at hJ26
          have h := h.trans hJ26
          obtain rfl := Option.some.inj h
          refine nz ?_
          exact .same _
        have h := ifF hb122 h
        refine AW.sk ?_
        exact JoinQ.ar () [0, 1] (Option.some.inj h).symm
      rintro ⟨⟩ rfl
      have h := hJ113
      try dsimp only [Out.fin] at h
      refine nz ?_
      refine AW.rg mixed ?_
      refine JoinQ.mkS ((r12.2.getD []), (Tree_placeA.mk p1.inDiff true p1.inFlow)) [0, 1] [] [(6, .d (slD i64V (r12.2.getD [])))] [] (Option.some.inj h).symm (by simp only [go_sem, reduceEqDiff, reduceAdd, reduceSub, reduceMul, reduceLeDiff, reduceLT, Nat.reduceBEq, reduceIte, sealL_cons, sealL_nil]; exact sealNil) (by simp only [go_sem, reduceEqDiff, reduceAdd, reduceSub, reduceMul, reduceLeDiff, reduceLT, Nat.reduceBEq, reduceIte, sealH_cons, sealH_nil]) (by simp only [go_sem, reduceEqDiff, reduceAdd, reduceSub, reduceMul, reduceLeDiff, reduceLT, Nat.reduceBEq, reduceIte])
    have h := ifF hb111 h
    refine AW.sk ?_
    refine JoinQ.mkS ((r12.2.getD []), p1) [0, 1] [] [(6, .d (slD i64V (r12.2.getD [])))] [] (Option.some.inj h).symm (by simp only [go_sem, reduceEqDiff, reduceAdd, reduceSub, reduceMul, reduceLeDiff, reduceLT, Nat.reduceBEq, reduceIte, sealL_cons, sealL_nil]; exact sealNil) (by simp only [go_sem, reduceEqDiff, reduceAdd, reduceSub, reduceMul, reduceLeDiff, reduceLT, Nat.reduceBEq, reduceIte, sealH_cons, sealH_nil]) (by simp only [go_sem, reduceEqDiff, reduceAdd, reduceSub, reduceMul, reduceLeDiff, reduceLT, Nat.reduceBEq, reduceIte])
  rintro ⟨v25_0, v25_1⟩ rfl
  have h := hJ26
  try dsimp only [Out.fin] at h
  refine nz ?_
  refine AW.one ?_
  refine AW.op mixed ?_
  refine AW.kp [0, 1] [2, 3, 6, 206] ?_
  refine AW.ts ((p0.kids.length : Int) != (v25_0.length : Int)) (fun hb123 => ?_) (fun hb123 => ?_)
  · have h := ifT hb123 h
    refine AW.op mixed ?_
    refine AW.ret ?_
    obtain rfl := Option.some.inj h
    refine nz ?_
    exact .same _
  have h := ifF hb123 h
  refine AW.sk ?_
  refine AW.kp [0, 1] [2, 3, 6] ?_
  refine AW.one ?_
  refine AW.op mixed ?_
  refine AW.kp [0, 1] [2, 3, 6, 208, 209, 210] ?_
  refine obindE h fun oJ127 h hJ127 => ?_
  refine AW.join (S := Unit) (fun _ => [(2, .ptr 0 6 0 0)]) (fun _ => [some ⟨6, [[.d (.val (.int .i64 p0.op)), .d (.val (.string p0.name)), .d (.val (.bool p0.num.neg)), .d (slD u32V p0.num.num), .d (slD u32V p0.num.den), .d (slD NodeA.enc p0.kids)]]⟩]) (fun x => oJ127 = .go x) ?_ ?_
  · refine AW.block ?_
    refine AW.iter (S := Int) (fun i124_0 => [(2, .ptr 0 6 0 0), (3, .ptr 1 3 0 0), (6, .d (slD i64V v25_0)), (208, .d (slD NodeA.enc p0.kids)), (209, .d (.val (.int .i64 (p0.kids.length : Int)))), (210, .d (.val (.int .i64 i124_0)))]) (fun i124_0 => [some ⟨6, [[.d (.val (.int .i64 p0.op)), .d (.val (.string p0.name)), .d (.val (.bool p0.num.neg)), .d (slD u32V p0.num.num), .d (slD u32V p0.num.den), .d (slD NodeA.enc p0.kids)]]⟩, some ⟨3, [[.d (.val (.bool v25_1.inDiff)), .d (.val (.bool v25_1.inFDiff)), .d (.val (.bool v25_1.inFlow))]]⟩]) [0, 1] h (by simp only [go_sem, reduceEqDiff, reduceAdd, reduceSub, reduceMul, reduceLeDiff, reduceLT, Nat.reduceBEq, reduceIte]) ?_
    rintro again i124_0 h
    try dsimp only at h
    refine AW.op mixed ?_
    refine AW.kp [0, 1] [2, 3, 6, 208, 209, 210, 211] ?_
    refine AW.one ?_
    refine AW.ts (decide (i124_0 < (p0.kids.length : Int))) (fun hb128 => ?_) (fun hb128 => ?_)
    · have h := ifT hb128 h
      refine AW.sk ?_
      refine AW.kp [0, 1] [2, 3, 6, 208, 209, 210] ?_
      refine AW.one ?_
      refine obindE h fun oJ130 h hJ130 => ?_
      refine AW.join (S := Unit) (fun _ => [(2, .ptr 0 6 0 0), (3, .ptr 1 3 0 0), (6, .d (slD i64V v25_0)), (208, .d (slD NodeA.enc p0.kids)), (209, .d (.val (.int .i64 (p0.kids.length : Int)))), (210, .d (.val (.int .i64 i124_0)))]) (fun _ => [some ⟨6, [[.d (.val (.int .i64 p0.op)), .d (.val (.string p0.name)), .d (.val (.bool p0.num.neg)), .d (slD u32V p0.num.num), .d (slD u32V p0.num.den), .d (slD NodeA.enc p0.kids)]]⟩, some ⟨3, [[.d (.val (.bool v25_1.inDiff)), .d (.val (.bool v25_1.inFDiff)), .d (.val (.bool v25_1.inFlow))]]⟩]) (fun x => oJ130 = .go x) ?_ ?_
      · skip
        refine AW.block ?_
        refine AW.one ?_
        refine AW.reg mixed (by kernel_rfl) ?_
        apply obindE h; intro x131 hx132 h
        try simp only [go_sem, reduceEqDiff, reduceAdd, reduceSub, reduceMul, reduceLeDiff, reduceLT, Nat.reduceBEq, reduceIte, (idx_some hx132).1, (idx_some hx132).2]
        refine AW.cut [0, 1, 5] [(2, .ptr 0 6 0 0), (3, .ptr 1 3 0 0), (6, .d (slD i64V v25_0)), (12, .d (.val (.int .i64 i124_0))), (13, .ptr 2 6 0 0), (208, .d (slD NodeA.enc p0.kids)), (209, .d (.val (.int .i64 (p0.kids.length : Int)))), (210, .d (.val (.int .i64 i124_0)))] [some ⟨6, [[.d (.val (.int .i64 p0.op)), .d (.val (.string p0.name)), .d (.val (.bool p0.num.neg)), .d (slD u32V p0.num.num), .d (slD u32V p0.num.den), .d (slD NodeA.enc p0.kids)]]⟩, some ⟨3, [[.d (.val (.bool v25_1.inDiff)), .d (.val (.bool v25_1.inFDiff)), .d (.val (.bool v25_1.inFlow))]]⟩, some ⟨6, [[.d (.val (.int .i64 x131.op)), .d (.val (.string x131.name)), .d (.val (.bool x131.num.neg)), .d (slD u32V x131.num.num), .d (slD u32V x131.num.den), .d (slD NodeA.enc x131.kids)]]⟩] (by simp only [go_sem, reduceEqDiff, reduceAdd, reduceSub, reduceMul, reduceLeDiff, reduceLT, Nat.reduceBEq, reduceIte, (idx_some hx132).1, (idx_some hx132).2]) ?_
        refine AW.one ?_
        refine obindE h fun oJ134 h hJ134 => ?_
        refine AW.join (S := Bool) (fun v133_0 => [(2, .ptr 0 6 0 0), (3, .ptr 1 3 0 0), (6, .d (slD i64V v25_0)), (208, .d (slD NodeA.enc p0.kids)), (209, .d (.val (.int .i64 (p0.kids.length : Int)))), (210, .d (.val (.int .i64 i124_0))), (228, .d (.val (.bool v133_0)))]) (fun v133_0 => [some ⟨6, [[.d (.val (.int .i64 p0.op)), .d (.val (.string p0.name)), .d (.val (.bool p0.num.neg)), .d (slD u32V p0.num.num), .d (slD u32V p0.num.den), .d (slD NodeA.enc p0.kids)]]⟩, some ⟨3, [[.d (.val (.bool v25_1.inDiff)), .d (.val (.bool v25_1.inFDiff)), .d (.val (.bool v25_1.inFlow))]]⟩]) (fun x => x = oJ134) ?_ ?_
        · skip
          refine AW.rg mixed ?_
          apply obindE h; intro r135 hx136 h
          have hc := nx (tree_Sort_ok (h := hx136))
          refine pcallK_intro hc (by simp only [go_sem, reduceEqDiff, reduceAdd, reduceSub, reduceMul, reduceLeDiff, reduceLT, Nat.reduceBEq, reduceIte]) ?_
          apply obindE h; intro x137 hx138 h
          try simp only [go_sem, reduceEqDiff, reduceAdd, reduceSub, reduceMul, reduceLeDiff, reduceLT, Nat.reduceBEq, reduceIte, (idx_some hx138).1, (idx_some hx138).2]
          refine splitK_intro (fun hb139 => ?_) (fun hb139 => ?_)
          · have h := ifT hb139 h
            try simp only [go_sem, reduceEqDiff, reduceAdd, reduceSub, reduceMul, reduceLeDiff, reduceLT, Nat.reduceBEq, reduceIte, (idx_some hx138).1, (idx_some hx138).2, hb139]
            refine JoinQ.mk true [0, 1] (Option.some.inj h) (by simp only [go_sem, reduceEqDiff, reduceAdd, reduceSub, reduceMul, reduceLeDiff, reduceLT, Nat.reduceBEq, reduceIte, (idx_some hx138).1, (idx_some hx138).2, hb139])
          have h := ifF hb139 h
          try simp only [go_sem, reduceEqDiff, reduceAdd, reduceSub, reduceMul, reduceLeDiff, reduceLT, Nat.reduceBEq, reduceIte, (idx_some hx138).1, (idx_some hx138).2, hb139]
          apply obindE h; intro r140 hx141 h
          have hc := nx (hself91 _ _ hx141)
          refine pcallK_intro hc (by simp only [go_sem, reduceEqDiff, reduceAdd, reduceSub, reduceMul, reduceLeDiff, reduceLT, Nat.reduceBEq, reduceIte]) ?_
          try simp only [go_sem, reduceEqDiff, reduceAdd, reduceSub, reduceMul, reduceLeDiff, reduceLT, Nat.reduceBEq, reduceIte, (idx_some hx138).1, (idx_some hx138).2, hb139]
          refine JoinQ.mk (!r140) [0, 1] (Option.some.inj h) (by simp only [go_sem, reduceEqDiff, reduceAdd, reduceSub, reduceMul, reduceLeDiff, reduceLT, Nat.reduceBEq, reduceIte, (idx_some hx138).1, (idx_some hx138).2, hb139])
        rintro v133_0 rfl
        have h := hJ134
        try dsimp only [Out.fin] at h
        refine nz ?_
        refine AW.ts v133_0 (fun hb142 => ?_) (fun hb142 => ?_)
        · have h := ifT hb142 h
          refine AW.op mixed ?_
          refine AW.ret ?_
          obtain ⟨_, h, ho⟩ := outM_some h
          rw [ho, Out.fin_out] at hJ130
          have h := h.trans hJ130
          obtain ⟨_, h, ho⟩ := outM_some h
          rw [ho, Out.fin_out] at hJ127
          have h := h.trans hJ127
          obtain rfl := Option.some.inj h
          refine nz ?_
          exact .same _
        have h := ifF hb142 h
        refine AW.sk ?_
        exact JoinQ.ar () [0, 1] (Option.some.inj h).symm
      rintro ⟨⟩ rfl
      have h := hJ130
      try dsimp only [Out.fin] at h
      refine nz ?_
      refine AW.rg mixed ?_
      exact NextQ.ar (IntKind.wrap .i64 (i124_0 + (1 : Int))) [0, 1] h
    have h := ifF hb128 h
    refine AW.ex ?_
    exact JoinQ.ar () [0] (Option.some.inj h).symm
  rintro ⟨⟩ rfl
  have h := hJ127
  try dsimp only [Out.fin] at h
  refine nz ?_
  refine AW.kp [0] [2] ?_
  refine AW.one ?_
  refine AW.op mixed ?_
  refine AW.kp [0] [2, 232] ?_
  refine AW.ts (p0.op == (8 : Int)) (fun hb143 => ?_) (fun hb143 => ?_)
  · have h := ifT hb143 h
    refine AW.one ?_
    refine AW.reg mixed (by kernel_rfl) ?_
    apply obindE h; intro x144 hx145 h
    try simp only [go_sem, reduceEqDiff, reduceAdd, reduceSub, reduceMul, reduceLeDiff, reduceLT, Nat.reduceBEq, reduceIte, (idx_some hx145).1, (idx_some hx145).2]
    refine splitK_intro (fun hb146 => ?_) (fun hb146 => ?_)
    · have h := ifT hb146 h
      try simp only [go_sem, reduceEqDiff, reduceAdd, reduceSub, reduceMul, reduceLeDiff, reduceLT, Nat.reduceBEq, reduceIte, (idx_some hx145).1, (idx_some hx145).2, hb146]
      refine AW.ret ?_
      obtain rfl := Option.some.inj h
      refine nz ?_
      exact .same _
    have h := ifF hb146 h
    try simp only [go_sem, reduceEqDiff, reduceAdd, reduceSub, reduceMul, reduceLeDiff, reduceLT, Nat.reduceBEq, reduceIte, (idx_some hx145).1, (idx_some hx145).2, hb146]
    refine AW.ret ?_
    obtain rfl := Option.some.inj h
    refine nz ?_
    exact .same _
  have h := ifF hb143 h
  refine AW.sk ?_
  refine AW.kp [0] [2] ?_
  refine AW.one ?_
  refine AW.op mixed ?_
  refine AW.kp [0] [2, 251] ?_
  refine AW.ts (p0.op == (9 : Int)) (fun hb147 => ?_) (fun hb147 => ?_)
  · have h := ifT hb147 h
    refine AW.one ?_
    refine AW.reg mixed (by kernel_rfl) ?_
    apply obindE h; intro x148 hx149 h
    try simp only [go_sem, reduceEqDiff, reduceAdd, reduceSub, reduceMul, reduceLeDiff, reduceLT, Nat.reduceBEq, reduceIte, (idx_some hx149).1, (idx_some hx149).2]
    refine AW.cut [5] [(14, .ptr 0 6 0 0)] [some ⟨6, [[.d (.val (.int .i64 x148.op)), .d (.val (.string x148.name)), .d (.val (.bool x148.num.neg)), .d (slD u32V x148.num.num), .d (slD u32V x148.num.den), .d (slD NodeA.enc x148.kids)]]⟩] (by simp only [go_sem, reduceEqDiff, reduceAdd, reduceSub, reduceMul, reduceLeDiff, reduceLT, Nat.reduceBEq, reduceIte, (idx_some hx149).1, (idx_some hx149).2]) ?_
    refine AW.op mixed ?_
    refine splitK_intro (fun hb150 => ?_) (fun hb150 => ?_)
    · have h := ifT hb150 h
      try simp only [go_sem, reduceEqDiff, reduceAdd, reduceSub, reduceMul, reduceLeDiff, reduceLT, Nat.reduceBEq, reduceIte, hb150]
      refine splitK_intro (fun hb151 => ?_) (fun hb151 => ?_)
      · have h := ifT hb151 h
        try simp only [go_sem, reduceEqDiff, reduceAdd, reduceSub, reduceMul, reduceLeDiff, reduceLT, Nat.reduceBEq, reduceIte, hb150, hb151]
        refine AW.ret ?_
        obtain rfl := Option.some.inj h
        refine nz ?_
        exact .same _
      have h := ifF hb151 h
      try simp only [go_sem, reduceEqDiff, reduceAdd, reduceSub, reduceMul, reduceLeDiff, reduceLT, Nat.reduceBEq, reduceIte, hb150, hb151]
      refine splitK_intro (fun hb152 => ?_) (fun hb152 => ?_)
      · have h := ifT hb152 h
        apply obindE h; intro x153 hx154 h
        try simp only [go_sem, reduceEqDiff, reduceAdd, reduceSub, reduceMul, reduceLeDiff, reduceLT, Nat.reduceBEq, reduceIte, hb150, hb151, hb152, (idx_some hx154).1, (idx_some hx154).2]
        refine AW.ret ?_
        obtain rfl := Option.some.inj h
        refine nz ?_
        exact .same _
      have h := ifF hb152 h
      try simp only [go_sem, reduceEqDiff, reduceAdd, reduceSub, reduceMul, reduceLeDiff, reduceLT, Nat.reduceBEq, reduceIte, hb150, hb151, hb152]
      refine AW.ret ?_
      obtain rfl := Option.some.inj h
      refine nz ?_
      exact .same _
    have h := ifF hb150 h
    try simp only [go_sem, reduceEqDiff, reduceAdd, reduceSub, reduceMul, reduceLeDiff, reduceLT, Nat.reduceBEq, reduceIte, hb150]
    refine AW.ret ?_
    obtain rfl := Option.some.inj h
    refine nz ?_
    exact .same _
  have h := ifF hb147 h
  refine AW.sk ?_
  refine AW.kp [] [] ?_
  refine AW.op mixed ?_
  refine AW.ret ?_
  obtain rfl := Option.some.inj h
  refine nz ?_
  exact .same _
def tree_formed (K : Nat) (p0 : NodeA) (p1 : Tree_placeA) : Option Bool := iter K (fun self q => tree_formed_body K self q.1 q.2) (p0, p1)
theorem key_tree_formed {K : Nat} (k : Nat) : (∀ (q : NodeA × Tree_placeA) (r : Bool), iter k (fun self q => tree_formed_body K self q.1 q.2) q = some r → Cn Tryz.prog 91 [aggV q.1.enc, aggV q.2.enc] (.d (.val (.bool r)))) := by
  induction k with
  | zero => exact fun q r h => by cases h
  | succ k ih => exact fun q r h => tree_formed_step K _ ih q.1 q.2 r h
theorem tree_formed_ok {K : Nat} {p0 : NodeA} {p1 : Tree_placeA} {r : Bool} (h : tree_formed K p0 p1 = some r) : Cn Tryz.prog 91 [aggV p0.enc, aggV p1.enc] (.d (.val (.bool r))) := (key_tree_formed K) (p0, p1) r h
/-! ### isochrone/tree.within -/
def tree_within_body (K : Nat) (self72 : (NodeA × Int × Int) → Option (Bool × Int)) (p0 : NodeA) (p1 : Int) (p2 : Int) : Option (Bool × Int) := ((
    ((
      if (decide ((IntKind.wrap .i64 (p1 - (1 : Int))) < (0 : Int))) then
        some true
      else
        some (decide (p2 ≤ (0 : Int)))) : Option Bool).bind (fun v3_0 => 
    if v3_0 then
      outM (
        some (false, IntKind.wrap .i64 (p1 - (1 : Int))))
    else
      some (.go ()))) : Option (Out Unit _)).bind (Out.fin fun _ => 
  ((iter (S := Int × Int) (R := Out Int _) K (fun again (i7_0, i7_1) => 
    if (decide (i7_0 < (p0.kids.length : Int))) then
      (idx p0.kids i7_0).bind fun x12 => 
      (self72 (x12, i7_1, IntKind.wrap .i64 (p2 - (1 : Int)))).bind fun r14 => 
      if (!r14.1) then
        outM (
          some (false, r14.2))
      else
        again (IntKind.wrap .i64 (i7_0 + (1 : Int)), r14.2)
    else
      some (.go i7_1)) ((0 : Int), IntKind.wrap .i64 (p1 - (1 : Int)))) : Option (Out Int _)).bind (Out.fin fun e8_0 => 
  some (true, e8_0)))
set_option maxHeartbeats 4000000 in
theorem tree_within_step (K : Nat) (self72 : (NodeA × Int × Int) → Option (Bool × Int)) (hself72 : ∀ (q : NodeA × Int × Int) (r : Bool × Int), self72 q = some r → Cl Tryz.prog 72 [aggV q.1.enc, .ptr 0 1 0 0, .d (.val (.int .i64 q.2.2))] [⟨1, [[.d (.val (.int .i64 q.2.1))]]⟩] (.d (.val (.bool r.1))) [⟨1, [[.d (.val (.int .i64 r.2))]]⟩]) (p0 : NodeA) (p1 : Int) (p2 : Int) (r : Bool × Int) (h : tree_within_body K self72 p0 p1 p2 = some r) : Cl Tryz.prog 72 [aggV p0.enc, .ptr 0 1 0 0, .d (.val (.int .i64 p2))] [⟨1, [[.d (.val (.int .i64 p1))]]⟩] (.d (.val (.bool r.1))) [⟨1, [[.d (.val (.int .i64 r.2))]]⟩] := by
  refine Cl.ofA mixed Tryz.func72 rfl Tryz.call72 Tryz.ntmps72 Tryz.results72 (by simp) rfl (by simp only [go_sem, reduceEqDiff, reduceAdd, reduceSub, reduceMul, reduceLeDiff, reduceLT, Nat.reduceBEq, reduceIte, List.length_cons]) (by simp only [go_sem, reduceEqDiff, reduceAdd, reduceSub, reduceMul, reduceLeDiff, reduceLT, Nat.reduceBEq, reduceIte]) (by simp only [go_sem, reduceEqDiff, reduceAdd, reduceSub, reduceMul, reduceLeDiff, reduceLT, Nat.reduceBEq, reduceIte]) (by simp only [go_sem, reduceEqDiff, reduceAdd, reduceSub, reduceMul, reduceLeDiff, reduceLT, Nat.reduceBEq, reduceIte]) fun hfit => ?_
  unfold tree_within_body at h
  refine AW.kp [0] [0, 1, 2] ?_
  refine AW.op mixed ?_
  refine AW.kp [0, 1] [1, 2, 3] ?_
  refine AW.op mixed ?_
  refine AW.kp [0, 1] [1, 2, 3] ?_
  refine AW.one ?_
  refine obindE h fun oJ2 h hJ2 => ?_
  refine AW.join (S := Unit) (fun _ => [(1, .ptr 0 1 0 0), (2, .d (.val (.int .i64 p2))), (3, .ptr 1 6 0 0)]) (fun _ => [some ⟨1, [[.d (.val (.int .i64 (IntKind.wrap .i64 (p1 - (1 : Int)))))]]⟩, some ⟨6, [[.d (.val (.int .i64 p0.op)), .d (.val (.string p0.name)), .d (.val (.bool p0.num.neg)), .d (slD u32V p0.num.num), .d (slD u32V p0.num.den), .d (slD NodeA.enc p0.kids)]]⟩]) (fun x => oJ2 = .go x) ?_ ?_
  · skip
    refine AW.one ?_
    refine obindE h fun oJ4 h hJ4 => ?_
    refine AW.join (S := Bool) (fun v3_0 => [(1, .ptr 0 1 0 0), (2, .d (.val (.int .i64 p2))), (3, .ptr 1 6 0 0), (21, .d (.val (.bool v3_0)))]) (fun v3_0 => [some ⟨1, [[.d (.val (.int .i64 (IntKind.wrap .i64 (p1 - (1 : Int)))))]]⟩, some ⟨6, [[.d (.val (.int .i64 p0.op)), .d (.val (.string p0.name)), .d (.val (.bool p0.num.neg)), .d (slD u32V p0.num.num), .d (slD u32V p0.num.den), .d (slD NodeA.enc p0.kids)]]⟩]) (fun x => x = oJ4) ?_ ?_
    · skip
      refine AW.rg mixed ?_
      refine splitK_intro (fun hb5 => ?_) (fun hb5 => ?_)
      · have h := ifT hb5 h
        try simp only [go_sem, reduceEqDiff, reduceAdd, reduceSub, reduceMul, reduceLeDiff, reduceLT, Nat.reduceBEq, reduceIte, hb5]
        refine JoinQ.mk true [0, 1] (Option.some.inj h) (by simp only [go_sem, reduceEqDiff, reduceAdd, reduceSub, reduceMul, reduceLeDiff, reduceLT, Nat.reduceBEq, reduceIte, hb5])
      have h := ifF hb5 h
      try simp only [go_sem, reduceEqDiff, reduceAdd, reduceSub, reduceMul, reduceLeDiff, reduceLT, Nat.reduceBEq, reduceIte, hb5]
      refine JoinQ.mk (decide (p2 ≤ (0 : Int))) [0, 1] (Option.some.inj h) (by simp only [go_sem, reduceEqDiff, reduceAdd, reduceSub, reduceMul, reduceLeDiff, reduceLT, Nat.reduceBEq, reduceIte, hb5])
    rintro v3_0 rfl
    have h := hJ4
    try dsimp only [Out.fin] at h
    refine nz ?_
    refine AW.ts v3_0 (fun hb6 => ?_) (fun hb6 => ?_)
    · have h := ifT hb6 h
      refine AW.op mixed ?_
      refine AW.ret ?_
      obtain ⟨_, h, ho⟩ := outM_some h
      rw [ho, Out.fin_out] at hJ2
      have h := h.trans hJ2
      obtain rfl := Option.some.inj h
      refine nz ?_
      exact ⟨.same _, ⟨⟨.same _, trivial⟩, trivial⟩⟩
    have h := ifF hb6 h
    refine AW.sk ?_
    exact JoinQ.ar () [0, 1] (Option.some.inj h).symm
  rintro ⟨⟩ rfl
  have h := hJ2
  try dsimp only [Out.fin] at h
  refine nz ?_
  refine AW.one ?_
  refine AW.op mixed ?_
  refine AW.kp [0] [1, 2, 23, 24, 25] ?_
  refine obindE h fun oJ10 h hJ10 => ?_
  refine AW.join (S := Int) (fun e8_0 => []) (fun e8_0 => [some ⟨1, [[.d (.val (.int .i64 e8_0))]]⟩]) (fun x => oJ10 = .go x) ?_ ?_
  · refine AW.block ?_
    refine AW.iter (S := Int × Int) (fun (i7_0, i7_1) => [(1, .ptr 0 1 0 0), (2, .d (.val (.int .i64 p2))), (23, .d (slD NodeA.enc p0.kids)), (24, .d (.val (.int .i64 (p0.kids.length : Int)))), (25, .d (.val (.int .i64 i7_0)))]) (fun (i7_0, i7_1) => [some ⟨1, [[.d (.val (.int .i64 i7_1))]]⟩]) [0] h (by simp only [go_sem, reduceEqDiff, reduceAdd, reduceSub, reduceMul, reduceLeDiff, reduceLT, Nat.reduceBEq, reduceIte]) ?_
    rintro again ⟨i7_0, i7_1⟩ h
    try dsimp only at h
    refine AW.op mixed ?_
    refine AW.kp [0] [1, 2, 23, 24, 25, 26] ?_
    refine AW.one ?_
    refine AW.ts (decide (i7_0 < (p0.kids.length : Int))) (fun hb11 => ?_) (fun hb11 => ?_)
    · have h := ifT hb11 h
      refine AW.sk ?_
      refine AW.kp [0] [1, 2, 23, 24, 25] ?_
      refine AW.one ?_
      refine AW.block ?_
      refine AW.one ?_
      refine AW.reg mixed (by kernel_rfl) ?_
      apply obindE h; intro x12 hx13 h
      try simp only [go_sem, reduceEqDiff, reduceAdd, reduceSub, reduceMul, reduceLeDiff, reduceLT, Nat.reduceBEq, reduceIte, (idx_some hx13).1, (idx_some hx13).2]
      refine AW.cut [0, 3] [(1, .ptr 0 1 0 0), (2, .d (.val (.int .i64 p2))), (8, .ptr 1 6 0 0), (23, .d (slD NodeA.enc p0.kids)), (24, .d (.val (.int .i64 (p0.kids.length : Int)))), (25, .d (.val (.int .i64 i7_0)))] [some ⟨1, [[.d (.val (.int .i64 i7_1))]]⟩, some ⟨6, [[.d (.val (.int .i64 x12.op)), .d (.val (.string x12.name)), .d (.val (.bool x12.num.neg)), .d (slD u32V x12.num.num), .d (slD u32V x12.num.den), .d (slD NodeA.enc x12.kids)]]⟩] (by simp only [go_sem, reduceEqDiff, reduceAdd, reduceSub, reduceMul, reduceLeDiff, reduceLT, Nat.reduceBEq, reduceIte, (idx_some hx13).1, (idx_some hx13).2]) ?_
      refine AW.op mixed ?_
      apply obindE h; intro r14 hx15 h
      have hc := nx (hself72 _ _ hx15)
      refine callK_loc [0] hc (by simp only [go_sem, reduceEqDiff, reduceAdd, reduceSub, reduceMul, reduceLeDiff, reduceLT, Nat.reduceBEq, reduceIte]) (by simp) (by simp only [go_sem, reduceEqDiff, reduceAdd, reduceSub, reduceMul, reduceLeDiff, reduceLT, Nat.reduceBEq, reduceIte]) ?_
      try simp only [go_sem, reduceEqDiff, reduceAdd, reduceSub, reduceMul, reduceLeDiff, reduceLT, Nat.reduceBEq, reduceIte]
      refine AW.kp [0] [1, 2, 23, 24, 25, 34] ?_
      refine AW.ts (!r14.1) (fun hb16 => ?_) (fun hb16 => ?_)
      · have h := ifT hb16 h
        refine AW.op mixed ?_
        refine AW.ret ?_
        obtain ⟨_, h, ho⟩ := outM_some h
        rw [ho, Out.fin_out] at hJ10
        have h := h.trans hJ10
        obtain rfl := Option.some.inj h
        refine nz ?_
        exact ⟨.same _, ⟨⟨.same _, trivial⟩, trivial⟩⟩
      have h := ifF hb16 h
      refine AW.sk ?_
      refine AW.kp [0] [1, 2, 23, 24, 25] ?_
      refine AW.rg mixed ?_
      exact NextQ.ar (IntKind.wrap .i64 (i7_0 + (1 : Int)), r14.2) [0] h
    have h := ifF hb11 h
    refine AW.ex ?_
    exact JoinQ.ar i7_1 [0] (Option.some.inj h).symm
  rintro e8_0 rfl
  have h := hJ10
  try dsimp only [Out.fin] at h
  refine nz ?_
  refine AW.kp [0] [] ?_
  refine AW.op mixed ?_
  refine AW.ret ?_
  obtain rfl := Option.some.inj h
  refine nz ?_
  exact ⟨.same _, ⟨⟨.same _, trivial⟩, trivial⟩⟩
def tree_within (K : Nat) (p0 : NodeA) (p1 : Int) (p2 : Int) : Option (Bool × Int) := iter K (fun self q => tree_within_body K self q.1 q.2.1 q.2.2) (p0, p1, p2)
theorem key_tree_within {K : Nat} (k : Nat) : (∀ (q : NodeA × Int × Int) (r : Bool × Int), iter k (fun self q => tree_within_body K self q.1 q.2.1 q.2.2) q = some r → Cl Tryz.prog 72 [aggV q.1.enc, .ptr 0 1 0 0, .d (.val (.int .i64 q.2.2))] [⟨1, [[.d (.val (.int .i64 q.2.1))]]⟩] (.d (.val (.bool r.1))) [⟨1, [[.d (.val (.int .i64 r.2))]]⟩]) := by
  induction k with
  | zero => exact fun q r h => by cases h
  | succ k ih => exact fun q r h => tree_within_step K _ ih q.1 q.2.1 q.2.2 r h
theorem tree_within_ok {K : Nat} {p0 : NodeA} {p1 : Int} {p2 : Int} {r : Bool × Int} (h : tree_within K p0 p1 p2 = some r) : Cl Tryz.prog 72 [aggV p0.enc, .ptr 0 1 0 0, .d (.val (.int .i64 p2))] [⟨1, [[.d (.val (.int .i64 p1))]]⟩] (.d (.val (.bool r.1))) [⟨1, [[.d (.val (.int .i64 r.2))]]⟩] := (key_tree_within K) (p0, p1, p2) r h
/-! ### isochrone/tree.Check -/
def tree_Check (K : Nat) (p0 : NodeA) (p1 : Int) : Option Int := ((
    ((
      if (decide (p1 < (1 : Int))) then
        some true
      else
        some (decide ((3 : Int) < p1))) : Option Bool).bind (fun v3_0 => 
    if v3_0 then
      outM (
        some (1 : Int))
    else
      some (.go ()))) : Option (Out Unit _)).bind (Out.fin fun _ => 
  (tree_within K p0 (4000 : Int) (60 : Int)).bind fun r7 => 
  if (!r7.1) then
    some (2 : Int)
  else
    (tree_Sort K p0.op).bind fun r10 => 
    if (r10 != p1) then
      some (80 : Int)
    else
      (tree_formed K p0 (Tree_placeA.mk false false false)).bind fun r13 => 
      if (!r13) then
        some (3 : Int)
      else
        some (0 : Int))
set_option maxHeartbeats 4000000 in
theorem tree_Check_ok {K : Nat} {p0 : NodeA} {p1 : Int} {r : Int} (h : tree_Check K p0 p1 = some r) : Cn Tryz.prog 54 [aggV p0.enc, .d (.val (.int .i64 p1))] (.d (.val (.int .i64 r))) := by
  refine Cn.ofA mixed Tryz.func54 rfl Tryz.call54 Tryz.ntmps54 Tryz.results54 (by simp) (by simp only [go_sem, reduceEqDiff, reduceAdd, reduceSub, reduceMul, reduceLeDiff, reduceLT, Nat.reduceBEq, reduceIte]) fun hfit => ?_
  unfold tree_Check at h
  refine AW.kp [] [0, 1] ?_
  refine AW.op mixed ?_
  refine AW.kp [0] [1, 2] ?_
  refine AW.one ?_
  refine obindE h fun oJ2 h hJ2 => ?_
  refine AW.join (S := Unit) (fun _ => [(1, .d (.val (.int .i64 p1))), (2, .ptr 0 6 0 0)]) (fun _ => [some ⟨6, [[.d (.val (.int .i64 p0.op)), .d (.val (.string p0.name)), .d (.val (.bool p0.num.neg)), .d (slD u32V p0.num.num), .d (slD u32V p0.num.den), .d (slD NodeA.enc p0.kids)]]⟩]) (fun x => oJ2 = .go x) ?_ ?_
  · skip
    refine AW.one ?_
    refine obindE h fun oJ4 h hJ4 => ?_
    refine AW.join (S := Bool) (fun v3_0 => [(1, .d (.val (.int .i64 p1))), (2, .ptr 0 6 0 0), (11, .d (.val (.bool v3_0)))]) (fun v3_0 => [some ⟨6, [[.d (.val (.int .i64 p0.op)), .d (.val (.string p0.name)), .d (.val (.bool p0.num.neg)), .d (slD u32V p0.num.num), .d (slD u32V p0.num.den), .d (slD NodeA.enc p0.kids)]]⟩]) (fun x => x = oJ4) ?_ ?_
    · skip
      refine AW.rg mixed ?_
      refine splitK_intro (fun hb5 => ?_) (fun hb5 => ?_)
      · have h := ifT hb5 h
        try simp only [go_sem, reduceEqDiff, reduceAdd, reduceSub, reduceMul, reduceLeDiff, reduceLT, Nat.reduceBEq, reduceIte, hb5]
        refine JoinQ.mk true [0] (Option.some.inj h) (by simp only [go_sem, reduceEqDiff, reduceAdd, reduceSub, reduceMul, reduceLeDiff, reduceLT, Nat.reduceBEq, reduceIte, hb5])
      have h := ifF hb5 h
      try simp only [go_sem, reduceEqDiff, reduceAdd, reduceSub, reduceMul, reduceLeDiff, reduceLT, Nat.reduceBEq, reduceIte, hb5]
      refine JoinQ.mk (decide ((3 : Int) < p1)) [0] (Option.some.inj h) (by simp only [go_sem, reduceEqDiff, reduceAdd, reduceSub, reduceMul, reduceLeDiff, reduceLT, Nat.reduceBEq, reduceIte, hb5])
    rintro v3_0 rfl
    have h := hJ4
    try dsimp only [Out.fin] at h
    refine nz ?_
    refine AW.ts v3_0 (fun hb6 => ?_) (fun hb6 => ?_)
    · have h := ifT hb6 h
      refine AW.op mixed ?_
      refine AW.ret ?_
      obtain ⟨_, h, ho⟩ := outM_some h
      rw [ho, Out.fin_out] at hJ2
      have h := h.trans hJ2
      obtain rfl := Option.some.inj h
      refine nz ?_
      exact .same _
    have h := ifF hb6 h
    refine AW.sk ?_
    exact JoinQ.ar () [0] (Option.some.inj h).symm
  rintro ⟨⟩ rfl
  have h := hJ2
  try dsimp only [Out.fin] at h
  refine nz ?_
  refine AW.op mixed ?_
  refine AW.kp [0, 1] [1, 2, 5] ?_
  refine AW.one ?_
  refine AW.op mixed ?_
  apply obindE h; intro r7 hx8 h
  have hc := nx (tree_within_ok (h := hx8))
  refine callK_loc [1] hc (by simp only [go_sem, reduceEqDiff, reduceAdd, reduceSub, reduceMul, reduceLeDiff, reduceLT, Nat.reduceBEq, reduceIte]) (by simp) (by simp only [go_sem, reduceEqDiff, reduceAdd, reduceSub, reduceMul, reduceLeDiff, reduceLT, Nat.reduceBEq, reduceIte]) ?_
  try simp only [go_sem, reduceEqDiff, reduceAdd, reduceSub, reduceMul, reduceLeDiff, reduceLT, Nat.reduceBEq, reduceIte]
  refine AW.kp [0] [1, 2, 14] ?_
  refine AW.ts (!r7.1) (fun hb9 => ?_) (fun hb9 => ?_)
  · have h := ifT hb9 h
    refine AW.op mixed ?_
    refine AW.ret ?_
    obtain rfl := Option.some.inj h
    refine nz ?_
    exact .same _
  have h := ifF hb9 h
  refine AW.sk ?_
  refine AW.kp [0] [1, 2] ?_
  refine AW.one ?_
  refine AW.op mixed ?_
  apply obindE h; intro r10 hx11 h
  have hc := nx (tree_Sort_ok (h := hx11))
  refine callP hc ?_
  refine AW.kp [0] [2, 19] ?_
  refine AW.ts (r10 != p1) (fun hb12 => ?_) (fun hb12 => ?_)
  · have h := ifT hb12 h
    refine AW.op mixed ?_
    refine AW.ret ?_
    obtain rfl := Option.some.inj h
    refine nz ?_
    exact .same _
  have h := ifF hb12 h
  refine AW.sk ?_
  refine AW.kp [0] [2] ?_
  refine AW.one ?_
  refine AW.op mixed ?_
  apply obindE h; intro r13 hx14 h
  have hc := nx (tree_formed_ok (h := hx14))
  refine callP hc ?_
  refine AW.kp [] [23] ?_
  refine AW.ts (!r13) (fun hb15 => ?_) (fun hb15 => ?_)
  · have h := ifT hb15 h
    refine AW.op mixed ?_
    refine AW.ret ?_
    obtain rfl := Option.some.inj h
    refine nz ?_
    exact .same _
  have h := ifF hb15 h
  refine AW.sk ?_
  refine AW.kp [] [] ?_
  refine AW.op mixed ?_
  refine AW.ret ?_
  obtain rfl := Option.some.inj h
  refine nz ?_
  exact .same _
/-! ### isochrone/rename.check -/
def rename_check (K : Nat) (p0 : NodeA) : Option Int := (tree_Sort K p0.op).bind fun r1 => 
  ((
    ((
      if (r1 == (0 : Int)) then
        some true
      else
        some (r1 == (4 : Int))) : Option Bool).bind (fun v5_0 => 
    if v5_0 then
      outM (
        some (80 : Int))
    else
      some (.go ()))) : Option (Out Unit _)).bind (Out.fin fun _ => 
  (tree_Check K p0 r1).bind fun r9 => 
  some r9)
set_option maxHeartbeats 4000000 in
theorem rename_check_ok {K : Nat} {p0 : NodeA} {r : Int} (h : rename_check K p0 = some r) : Cn Tryz.prog 23 [aggV p0.enc] (.d (.val (.int .i64 r))) := by
  refine Cn.ofA mixed Tryz.func23 rfl Tryz.call23 Tryz.ntmps23 Tryz.results23 (by simp) (by simp only [go_sem, reduceEqDiff, reduceAdd, reduceSub, reduceMul, reduceLeDiff, reduceLT, Nat.reduceBEq, reduceIte]) fun hfit => ?_
  unfold rename_check at h
  refine AW.kp [] [0] ?_
  refine AW.op mixed ?_
  refine AW.kp [0] [1] ?_
  refine AW.op mixed ?_
  apply obindE h; intro r1 hx2 h
  have hc := nx (tree_Sort_ok (h := hx2))
  refine callP hc ?_
  refine AW.kp [0] [1, 3] ?_
  refine AW.one ?_
  refine obindE h fun oJ4 h hJ4 => ?_
  refine AW.join (S := Unit) (fun _ => [(1, .ptr 0 6 0 0), (3, .d (.val (.int .i64 r1)))]) (fun _ => [some ⟨6, [[.d (.val (.int .i64 p0.op)), .d (.val (.string p0.name)), .d (.val (.bool p0.num.neg)), .d (slD u32V p0.num.num), .d (slD u32V p0.num.den), .d (slD NodeA.enc p0.kids)]]⟩]) (fun x => oJ4 = .go x) ?_ ?_
  · skip
    refine AW.one ?_
    refine obindE h fun oJ6 h hJ6 => ?_
    refine AW.join (S := Bool) (fun v5_0 => [(1, .ptr 0 6 0 0), (3, .d (.val (.int .i64 r1))), (12, .d (.val (.bool v5_0)))]) (fun v5_0 => [some ⟨6, [[.d (.val (.int .i64 p0.op)), .d (.val (.string p0.name)), .d (.val (.bool p0.num.neg)), .d (slD u32V p0.num.num), .d (slD u32V p0.num.den), .d (slD NodeA.enc p0.kids)]]⟩]) (fun x => x = oJ6) ?_ ?_
    · skip
      refine AW.rg mixed ?_
      refine splitK_intro (fun hb7 => ?_) (fun hb7 => ?_)
      · have h := ifT hb7 h
        try simp only [go_sem, reduceEqDiff, reduceAdd, reduceSub, reduceMul, reduceLeDiff, reduceLT, Nat.reduceBEq, reduceIte, hb7]
        refine JoinQ.mk true [0] (Option.some.inj h) (by simp only [go_sem, reduceEqDiff, reduceAdd, reduceSub, reduceMul, reduceLeDiff, reduceLT, Nat.reduceBEq, reduceIte, hb7])
      have h := ifF hb7 h
      try simp only [go_sem, reduceEqDiff, reduceAdd, reduceSub, reduceMul, reduceLeDiff, reduceLT, Nat.reduceBEq, reduceIte, hb7]
      refine JoinQ.mk (r1 == (4 : Int)) [0] (Option.some.inj h) (by simp only [go_sem, reduceEqDiff, reduceAdd, reduceSub, reduceMul, reduceLeDiff, reduceLT, Nat.reduceBEq, reduceIte, hb7])
    rintro v5_0 rfl
    have h := hJ6
    try dsimp only [Out.fin] at h
    refine nz ?_
    refine AW.ts v5_0 (fun hb8 => ?_) (fun hb8 => ?_)
    · have h := ifT hb8 h
      refine AW.op mixed ?_
      refine AW.ret ?_
      obtain ⟨_, h, ho⟩ := outM_some h
      rw [ho, Out.fin_out] at hJ4
      have h := h.trans hJ4
      obtain rfl := Option.some.inj h
      refine nz ?_
      exact .same _
    have h := ifF hb8 h
    refine AW.sk ?_
    exact JoinQ.ar () [0] (Option.some.inj h).symm
  rintro ⟨⟩ rfl
  have h := hJ4
  try dsimp only [Out.fin] at h
  refine nz ?_
  refine AW.op mixed ?_
  apply obindE h; intro r9 hx10 h
  have hc := nx (tree_Check_ok (h := hx10))
  refine callP hc ?_
  refine AW.ret ?_
  obtain rfl := Option.some.inj h
  refine nz ?_
  exact .same _
/-! ### isochrone/static.Uses -/
def static_Uses_body (K : Nat) (self60 : (NodeA × (List Int)) → Option Bool) (p0 : NodeA) (p1 : List Int) : Option Bool := ((iter (S := Int) (R := Out Unit _) K (fun again i1_0 => 
    if (decide (i1_0 < (p1.length : Int))) then
      (idx p1 i1_0).bind fun x6 => 
      if (p0.op == x6) then
        outM (
          some true)
      else
        again (IntKind.wrap .i64 (i1_0 + (1 : Int)))
    else
      some (.go ())) (0 : Int)) : Option (Out Unit _)).bind (Out.fin fun _ => 
  ((iter (S := Int) (R := Out Unit _) K (fun again i9_0 => 
    if (decide (i9_0 < (p0.kids.length : Int))) then
      (idx p0.kids i9_0).bind fun x14 => 
      (self60 (x14, p1)).bind fun r16 => 
      if r16 then
        outM (
          some true)
      else
        again (IntKind.wrap .i64 (i9_0 + (1 : Int)))
    else
      some (.go ())) (0 : Int)) : Option (Out Unit _)).bind (Out.fin fun _ => 
  some false))
set_option maxHeartbeats 4000000 in
theorem static_Uses_step (K : Nat) (self60 : (NodeA × (List Int)) → Option Bool) (hself60 : ∀ (q : NodeA × (List Int)) (r : Bool), self60 q = some r → Cn Tryz.prog 60 [aggV q.1.enc, .d (slD i64V q.2)] (.d (.val (.bool r)))) (p0 : NodeA) (p1 : List Int) (r : Bool) (h : static_Uses_body K self60 p0 p1 = some r) : Cn Tryz.prog 60 [aggV p0.enc, .d (slD i64V p1)] (.d (.val (.bool r))) := by
  refine Cn.ofA mixed Tryz.func60 rfl Tryz.call60 Tryz.ntmps60 Tryz.results60 (by simp) (by simp only [go_sem, reduceEqDiff, reduceAdd, reduceSub, reduceMul, reduceLeDiff, reduceLT, Nat.reduceBEq, reduceIte]) fun hfit => ?_
  unfold static_Uses_body at h
  refine AW.kp [] [0, 1] ?_
  refine AW.op mixed ?_
  refine AW.kp [0] [1, 2] ?_
  refine AW.one ?_
  refine AW.op mixed ?_
  refine AW.kp [0] [1, 2, 9, 10, 11] ?_
  refine obindE h fun oJ4 h hJ4 => ?_
  refine AW.join (S := Unit) (fun _ => [(1, .d (slD i64V p1)), (2, .ptr 0 6 0 0)]) (fun _ => [some ⟨6, [[.d (.val (.int .i64 p0.op)), .d (.val (.string p0.name)), .d (.val (.bool p0.num.neg)), .d (slD u32V p0.num.num), .d (slD u32V p0.num.den), .d (slD NodeA.enc p0.kids)]]⟩]) (fun x => oJ4 = .go x) ?_ ?_
  · refine AW.block ?_
    refine AW.iter (S := Int) (fun i1_0 => [(1, .d (slD i64V p1)), (2, .ptr 0 6 0 0), (9, .d (slD i64V p1)), (10, .d (.val (.int .i64 (p1.length : Int)))), (11, .d (.val (.int .i64 i1_0)))]) (fun i1_0 => [some ⟨6, [[.d (.val (.int .i64 p0.op)), .d (.val (.string p0.name)), .d (.val (.bool p0.num.neg)), .d (slD u32V p0.num.num), .d (slD u32V p0.num.den), .d (slD NodeA.enc p0.kids)]]⟩]) [0] h (by simp only [go_sem, reduceEqDiff, reduceAdd, reduceSub, reduceMul, reduceLeDiff, reduceLT, Nat.reduceBEq, reduceIte]) ?_
    rintro again i1_0 h
    try dsimp only at h
    refine AW.op mixed ?_
    refine AW.kp [0] [1, 2, 9, 10, 11, 12] ?_
    refine AW.one ?_
    refine AW.ts (decide (i1_0 < (p1.length : Int))) (fun hb5 => ?_) (fun hb5 => ?_)
    · have h := ifT hb5 h
      refine AW.sk ?_
      refine AW.kp [0] [1, 2, 9, 10, 11] ?_
      refine AW.one ?_
      refine AW.block ?_
      refine AW.one ?_
      refine AW.reg mixed (by kernel_rfl) ?_
      apply obindE h; intro x6 hx7 h
      try simp only [go_sem, reduceEqDiff, reduceAdd, reduceSub, reduceMul, reduceLeDiff, reduceLT, Nat.reduceBEq, reduceIte, (idx_some hx7).1, (idx_some hx7).2]
      refine AW.cut [0] [(1, .d (slD i64V p1)), (2, .ptr 0 6 0 0), (6, .d (.val (.int .i64 x6))), (9, .d (slD i64V p1)), (10, .d (.val (.int .i64 (p1.length : Int)))), (11, .d (.val (.int .i64 i1_0)))] [some ⟨6, [[.d (.val (.int .i64 p0.op)), .d (.val (.string p0.name)), .d (.val (.bool p0.num.neg)), .d (slD u32V p0.num.num), .d (slD u32V p0.num.den), .d (slD NodeA.enc p0.kids)]]⟩] (by simp only [go_sem, reduceEqDiff, reduceAdd, reduceSub, reduceMul, reduceLeDiff, reduceLT, Nat.reduceBEq, reduceIte, (idx_some hx7).1, (idx_some hx7).2]) ?_
      refine AW.op mixed ?_
      refine AW.kp [0] [1, 2, 9, 10, 11, 18] ?_
      refine AW.ts (p0.op == x6) (fun hb8 => ?_) (fun hb8 => ?_)
      · have h := ifT hb8 h
        refine AW.op mixed ?_
        refine AW.ret ?_
        obtain ⟨_, h, ho⟩ := outM_some h
        rw [ho, Out.fin_out] at hJ4
        have h := h.trans hJ4
        obtain rfl := Option.some.inj h
        refine nz ?_
        exact .same _
      have h := ifF hb8 h
      refine AW.sk ?_
      refine AW.kp [0] [1, 2, 9, 10, 11] ?_
      refine AW.rg mixed ?_
      exact NextQ.ar (IntKind.wrap .i64 (i1_0 + (1 : Int))) [0] h
    have h := ifF hb5 h
    refine AW.ex ?_
    exact JoinQ.ar () [0] (Option.some.inj h).symm
  rintro ⟨⟩ rfl
  have h := hJ4
  try dsimp only [Out.fin] at h
  refine nz ?_
  refine AW.kp [0] [1, 2] ?_
  refine AW.one ?_
  refine AW.op mixed ?_
  refine AW.kp [] [1, 21, 22, 23] ?_
  refine obindE h fun oJ12 h hJ12 => ?_
  refine AW.join (S := Unit) (fun _ => []) (fun _ => []) (fun x => oJ12 = .go x) ?_ ?_
  · refine AW.block ?_
    refine AW.iter (S := Int) (fun i9_0 => [(1, .d (slD i64V p1)), (21, .d (slD NodeA.enc p0.kids)), (22, .d (.val (.int .i64 (p0.kids.length : Int)))), (23, .d (.val (.int .i64 i9_0)))]) (fun i9_0 => []) [] h (by simp only [go_sem, reduceEqDiff, reduceAdd, reduceSub, reduceMul, reduceLeDiff, reduceLT, Nat.reduceBEq, reduceIte]) ?_
    rintro again i9_0 h
    try dsimp only at h
    refine AW.op mixed ?_
    refine AW.kp [] [1, 21, 22, 23, 24] ?_
    refine AW.one ?_
    refine AW.ts (decide (i9_0 < (p0.kids.length : Int))) (fun hb13 => ?_) (fun hb13 => ?_)
    · have h := ifT hb13 h
      refine AW.sk ?_
      refine AW.kp [] [1, 21, 22, 23] ?_
      refine AW.one ?_
      refine AW.block ?_
      refine AW.one ?_
      refine AW.reg mixed (by kernel_rfl) ?_
      apply obindE h; intro x14 hx15 h
      try simp only [go_sem, reduceEqDiff, reduceAdd, reduceSub, reduceMul, reduceLeDiff, reduceLT, Nat.reduceBEq, reduceIte, (idx_some hx15).1, (idx_some hx15).2]
      refine AW.cut [2] [(1, .d (slD i64V p1)), (8, .ptr 0 6 0 0), (21, .d (slD NodeA.enc p0.kids)), (22, .d (.val (.int .i64 (p0.kids.length : Int)))), (23, .d (.val (.int .i64 i9_0)))] [some ⟨6, [[.d (.val (.int .i64 x14.op)), .d (.val (.string x14.name)), .d (.val (.bool x14.num.neg)), .d (slD u32V x14.num.num), .d (slD u32V x14.num.den), .d (slD NodeA.enc x14.kids)]]⟩] (by simp only [go_sem, reduceEqDiff, reduceAdd, reduceSub, reduceMul, reduceLeDiff, reduceLT, Nat.reduceBEq, reduceIte, (idx_some hx15).1, (idx_some hx15).2]) ?_
      refine AW.op mixed ?_
      apply obindE h; intro r16 hx17 h
      have hc := nx (hself60 _ _ hx17)
      refine callP hc ?_
      refine AW.kp [] [1, 21, 22, 23, 29] ?_
      refine AW.ts r16 (fun hb18 => ?_) (fun hb18 => ?_)
      · have h := ifT hb18 h
        refine AW.op mixed ?_
        refine AW.ret ?_
        obtain ⟨_, h, ho⟩ := outM_some h
        rw [ho, Out.fin_out] at hJ12
        have h := h.trans hJ12
        obtain rfl := Option.some.inj h
        refine nz ?_
        exact .same _
      have h := ifF hb18 h
      refine AW.sk ?_
      refine AW.kp [] [1, 21, 22, 23] ?_
      refine AW.rg mixed ?_
      exact NextQ.ar (IntKind.wrap .i64 (i9_0 + (1 : Int))) [] h
    have h := ifF hb13 h
    refine AW.ex ?_
    exact JoinQ.ar () [] (Option.some.inj h).symm
  rintro ⟨⟩ rfl
  have h := hJ12
  try dsimp only [Out.fin] at h
  refine nz ?_
  refine AW.kp [] [] ?_
  refine AW.op mixed ?_
  refine AW.ret ?_
  obtain rfl := Option.some.inj h
  refine nz ?_
  exact .same _
def static_Uses (K : Nat) (p0 : NodeA) (p1 : List Int) : Option Bool := iter K (fun self q => static_Uses_body K self q.1 q.2) (p0, p1)
theorem key_static_Uses {K : Nat} (k : Nat) : (∀ (q : NodeA × (List Int)) (r : Bool), iter k (fun self q => static_Uses_body K self q.1 q.2) q = some r → Cn Tryz.prog 60 [aggV q.1.enc, .d (slD i64V q.2)] (.d (.val (.bool r)))) := by
  induction k with
  | zero => exact fun q r h => by cases h
  | succ k ih => exact fun q r h => static_Uses_step K _ ih q.1 q.2 r h
theorem static_Uses_ok {K : Nat} {p0 : NodeA} {p1 : List Int} {r : Bool} (h : static_Uses K p0 p1 = some r) : Cn Tryz.prog 60 [aggV p0.enc, .d (slD i64V p1)] (.d (.val (.bool r))) := (key_static_Uses K) (p0, p1) r h
/-! ### isochrone/rename.renamable -/
def rename_renamable (K : Nat) (p0 : NodeA) : Option Bool := (static_Uses K p0 [(11 : Int), (38 : Int), (61 : Int), (62 : Int), (56 : Int)]).bind fun r1 => 
  some (!r1)
set_option maxHeartbeats 4000000 in
theorem rename_renamable_ok {K : Nat} {p0 : NodeA} {r : Bool} (h : rename_renamable K p0 = some r) : Cn Tryz.prog 27 [aggV p0.enc] (.d (.val (.bool r))) := by
  refine Cn.ofA mixed Tryz.func27 rfl Tryz.call27 Tryz.ntmps27 Tryz.results27 (by simp) (by simp only [go_sem, reduceEqDiff, reduceAdd, reduceSub, reduceMul, reduceLeDiff, reduceLT, Nat.reduceBEq, reduceIte]) fun hfit => ?_
  unfold rename_renamable at h
  refine AW.kp [] [0] ?_
  refine AW.op mixed ?_
  refine AW.kp [0] [1] ?_
  refine AW.op mixed ?_
  apply obindE h; intro r1 hx2 h
  have hc := nx (static_Uses_ok (h := hx2))
  refine callP hc ?_
  refine AW.ret ?_
  obtain rfl := Option.some.inj h
  refine nz ?_
  exact .same _
/-! ### isochrone/rename.uniform$1 -/
def rename_uniform_1 (K : Nat) (p0 : ByteArray) (p1 : ByteArray) (p2 : ByteArray) : Option ByteArray := if (p0.toList == p1.toList) then
    some p2
  else
    if (p0.toList == p2.toList) then
      some p1
    else
      some p0
set_option maxHeartbeats 4000000 in
theorem rename_uniform_1_ok {K : Nat} {p0 : ByteArray} {p1 : ByteArray} {p2 : ByteArray} {r : ByteArray} (h : rename_uniform_1 K p0 p1 p2 = some r) : Cn Tryz.prog 69 [.d (.val (.string p0)), .iptr [.val (.string p1)], .iptr [.val (.string p2)]] (.d (.val (.string r))) := by
  refine Cn.ofA mixed Tryz.func69 rfl Tryz.call69 Tryz.ntmps69 Tryz.results69 (by simp) (by simp only [go_sem, reduceEqDiff, reduceAdd, reduceSub, reduceMul, reduceLeDiff, reduceLT, Nat.reduceBEq, reduceIte]) fun hfit => ?_
  unfold rename_uniform_1 at h
  refine AW.kp [] [0, 1, 2] ?_
  refine AW.op mixed ?_
  refine AW.kp [] [0, 1, 2] ?_
  refine AW.one ?_
  refine AW.op mixed ?_
  refine AW.kp [] [0, 1, 2, 5] ?_
  refine AW.block ?_
  refine AW.op mixed ?_
  refine AW.kp [] [0, 1, 2, 5, 6] ?_
  refine AW.ts (p0.toList == p1.toList) (fun hb1 => ?_) (fun hb1 => ?_)
  · have h := ifT hb1 h
    refine AW.op mixed ?_
    refine AW.ret ?_
    obtain rfl := Option.some.inj h
    refine nz ?_
    exact .same _
  have h := ifF hb1 h
  refine AW.op mixed ?_
  refine AW.kp [] [0, 1, 10] ?_
  refine AW.ts (p0.toList == p2.toList) (fun hb2 => ?_) (fun hb2 => ?_)
  · have h := ifT hb2 h
    refine AW.op mixed ?_
    refine AW.ret ?_
    obtain rfl := Option.some.inj h
    refine nz ?_
    exact .same _
  have h := ifF hb2 h
  refine AW.sk ?_
  refine AW.kp [] [0] ?_
  refine AW.op mixed ?_
  refine AW.ret ?_
  obtain rfl := Option.some.inj h
  refine nz ?_
  exact .same _
/-! ### isochrone/rename.variable -/
def rename_variable (K : Nat) (p0 : Int) : Option Bool := ((
    if (p0 == (2 : Int)) then
      some (p0 == (2 : Int))
    else
      if (p0 == (3 : Int)) then
        some (p0 == (3 : Int))
      else
        if (p0 == (50 : Int)) then
          some (p0 == (50 : Int))
        else
          if (p0 == (51 : Int)) then
            some (p0 == (51 : Int))
          else
            if (p0 == (52 : Int)) then
              some (p0 == (52 : Int))
            else
              if (p0 == (55 : Int)) then
                some (p0 == (55 : Int))
              else
                if (p0 == (33 : Int)) then
                  some (p0 == (33 : Int))
                else
                  some (p0 == (34 : Int))) : Option Bool).bind (fun v1_0 => 
  if v1_0 then
    some true
  else
    some false)
set_option maxHeartbeats 4000000 in
theorem rename_variable_ok {K : Nat} {p0 : Int} {r : Bool} (h : rename_variable K p0 = some r) : Cn Tryz.prog 71 [.d (.val (.int .i64 p0))] (.d (.val (.bool r))) := by
  refine Cn.ofA mixed Tryz.func71 rfl Tryz.call71 Tryz.ntmps71 Tryz.results71 (by simp) (by simp only [go_sem, reduceEqDiff, reduceAdd, reduceSub, reduceMul, reduceLeDiff, reduceLT, Nat.reduceBEq, reduceIte]) fun hfit => ?_
  unfold rename_variable at h
  refine AW.kp [] [0] ?_
  refine AW.op mixed ?_
  refine AW.kp [] [0] ?_
  refine AW.one ?_
  refine AW.op mixed ?_
  refine AW.kp [] [3] ?_
  refine AW.block ?_
  refine AW.one ?_
  refine obindE h fun oJ2 h hJ2 => ?_
  refine AW.join (S := Bool) (fun v1_0 => [(4, .d (.val (.bool v1_0)))]) (fun v1_0 => []) (fun x => x = oJ2) ?_ ?_
  · skip
    refine AW.op mixed ?_
    refine AW.kp [] [3, 4] ?_
    refine AW.ts (p0 == (2 : Int)) (fun hb3 => ?_) (fun hb3 => ?_)
    · have h := ifT hb3 h
      refine AW.sk ?_
      exact JoinQ.ar (p0 == (2 : Int)) [] (Option.some.inj h)
    have h := ifF hb3 h
    refine AW.op mixed ?_
    refine AW.kp [] [3, 4] ?_
    refine AW.ts (p0 == (3 : Int)) (fun hb4 => ?_) (fun hb4 => ?_)
    · have h := ifT hb4 h
      refine AW.sk ?_
      exact JoinQ.ar (p0 == (3 : Int)) [] (Option.some.inj h)
    have h := ifF hb4 h
    refine AW.op mixed ?_
    refine AW.kp [] [3, 4] ?_
    refine AW.ts (p0 == (50 : Int)) (fun hb5 => ?_) (fun hb5 => ?_)
    · have h := ifT hb5 h
      refine AW.sk ?_
      exact JoinQ.ar (p0 == (50 : Int)) [] (Option.some.inj h)
    have h := ifF hb5 h
    refine AW.op mixed ?_
    refine AW.kp [] [3, 4] ?_
    refine AW.ts (p0 == (51 : Int)) (fun hb6 => ?_) (fun hb6 => ?_)
    · have h := ifT hb6 h
      refine AW.sk ?_
      exact JoinQ.ar (p0 == (51 : Int)) [] (Option.some.inj h)
    have h := ifF hb6 h
    refine AW.op mixed ?_
    refine AW.kp [] [3, 4] ?_
    refine AW.ts (p0 == (52 : Int)) (fun hb7 => ?_) (fun hb7 => ?_)
    · have h := ifT hb7 h
      refine AW.sk ?_
      exact JoinQ.ar (p0 == (52 : Int)) [] (Option.some.inj h)
    have h := ifF hb7 h
    refine AW.op mixed ?_
    refine AW.kp [] [3, 4] ?_
    refine AW.ts (p0 == (55 : Int)) (fun hb8 => ?_) (fun hb8 => ?_)
    · have h := ifT hb8 h
      refine AW.sk ?_
      exact JoinQ.ar (p0 == (55 : Int)) [] (Option.some.inj h)
    have h := ifF hb8 h
    refine AW.op mixed ?_
    refine AW.kp [] [3, 4] ?_
    refine AW.ts (p0 == (33 : Int)) (fun hb9 => ?_) (fun hb9 => ?_)
    · have h := ifT hb9 h
      refine AW.sk ?_
      exact JoinQ.ar (p0 == (33 : Int)) [] (Option.some.inj h)
    have h := ifF hb9 h
    refine AW.rg mixed ?_
    exact JoinQ.ar (p0 == (34 : Int)) [] (Option.some.inj h)
  rintro v1_0 rfl
  have h := hJ2
  try dsimp only [Out.fin] at h
  refine nz ?_
  refine AW.ts v1_0 (fun hb10 => ?_) (fun hb10 => ?_)
  · have h := ifT hb10 h
    refine AW.op mixed ?_
    refine AW.ret ?_
    obtain rfl := Option.some.inj h
    refine nz ?_
    exact .same _
  have h := ifF hb10 h
  refine AW.sk ?_
  refine AW.kp [] [] ?_
  refine AW.op mixed ?_
  refine AW.ret ?_
  obtain rfl := Option.some.inj h
  refine nz ?_
  exact .same _
/-! ### isochrone/tree.Copy -/
def tree_Copy_body (K : Nat) (self58 : NodeA → Option NodeA) (p0 : NodeA) : Option NodeA := ((
    if (decide ((0 : Int) < (p0.num.num.length : Int))) then
      (appO 4 [] p0.num.num).bind fun l4 => 
      some l4
    else
      some []) : Option (List Int)).bind (fun v1_0 => 
  ((
    if (decide ((0 : Int) < (p0.num.den.length : Int))) then
      (appO 4 [] p0.num.den).bind fun l9 => 
      some l9
    else
      some []) : Option (List Int)).bind (fun v6_0 => 
  ((iter (S := Int × (List NodeA)) (R := (List NodeA)) K (fun again (i11_0, i11_1) => 
    if (decide (i11_0 < (p0.kids.length : Int))) then
      (idx p0.kids i11_0).bind fun x16 => 
      (self58 (x16)).bind fun r18 => 
      (appO 104 i11_1 [r18]).bind fun l20 => 
      again (IntKind.wrap .i64 (i11_0 + (1 : Int)), l20)
    else
      some i11_1) ((0 : Int), [])) : Option (List NodeA)).bind (fun e12_0 => 
  some (NodeA.mk p0.op p0.name (RatA.mk p0.num.neg v1_0 v6_0) e12_0))))
set_option maxHeartbeats 4000000 in
theorem tree_Copy_stepO (K : Nat) (self58 : NodeA → Option NodeA) (hself58 : ∀ (q : NodeA) (r : NodeA), self58 q = some r → Cn Tryz.prog 58 [aggV q.enc] (aggV r.enc)) (p0 : NodeA) (r : NodeA) (h : tree_Copy_body K self58 p0 = some r) : Co Tryz.prog 58 [aggV p0.enc] (.agg [.d (.val (.int .i64 r.op)), .d (.val (.string r.name)), .d (.val (.bool r.num.neg)), .d (slD u32V r.num.num), .d (slD u32V r.num.den), accV 0 6 ((r.kids.map NodeA.enc).map (·.map .d))]) (accO 6 ((r.kids.map NodeA.enc).map (·.map .d))) := by
  refine Co.ofA mixed Tryz.func58 rfl Tryz.call58 Tryz.ntmps58 Tryz.results58 (by simp) datO_acc (by simp only [go_sem, reduceEqDiff, reduceAdd, reduceSub, reduceMul, reduceLeDiff, reduceLT, Nat.reduceBEq, reduceIte]) fun hfit => ?_
  unfold tree_Copy_body at h
  refine AW.kp [] [0] ?_
  refine AW.op mixed ?_
  refine AW.kp [0, 1] [1, 2] ?_
  refine AW.op mixed ?_
  refine AW.kp [0, 1, 11] [1, 2, 3] ?_
  refine AW.one ?_
  refine obindE h fun oJ2 h hJ2 => ?_
  refine AW.join (S := (List Int)) (fun v1_0 => [(1, .ptr 0 6 0 0), (2, .ptr 1 6 0 0), (3, .ptr 2 6 0 0)]) (fun v1_0 => [some ⟨6, [[.d (.val (.int .i64 p0.op)), .d (.val (.string p0.name)), .d (.val (.bool p0.num.neg)), .d (slD u32V p0.num.num), .d (slD u32V p0.num.den), .d (slD NodeA.enc p0.kids)]]⟩, some ⟨6, [[.d (.val (.int .i64 (0 : Int))), .d (.val (.string (⟨#[]⟩ : ByteArray))), .d (.val (.bool false)), .d (.val (.slice none 0 0)), .d (.val (.slice none 0 0)), .d (.val (.slice none 0 0))]]⟩, some ⟨6, [[.d (.val (.int .i64 p0.op)), .d (.val (.string p0.name)), .d (.val (.bool p0.num.neg)), .d (slD u32V v1_0), .d (.val (.slice none 0 0)), .d (.val (.slice none 0 0))]]⟩]) (fun x => x = oJ2) ?_ ?_
  · skip
    refine AW.op mixed ?_
    refine AW.kp [0, 1, 2] [1, 2, 3, 20] ?_
    refine AW.ts (decide ((0 : Int) < (p0.num.num.length : Int))) (fun hb3 => ?_) (fun hb3 => ?_)
    · have h := ifT hb3 h
      refine AW.rg mixed ?_
      apply obindE h; intro l4 hx5 h
      refine appD hx5 rfl (by simp only [go_sem, reduceEqDiff, reduceAdd, reduceSub, reduceMul, reduceLeDiff, reduceLT, Nat.reduceBEq, reduceIte]) ?_
      try simp only [go_sem, reduceEqDiff, reduceAdd, reduceSub, reduceMul, reduceLeDiff, reduceLT, Nat.reduceBEq, reduceIte]
      exact JoinQ.ar l4 [0, 1, 2] (Option.some.inj h)
    have h := ifF hb3 h
    refine AW.sk ?_
    refine JoinQ.mkS [] [0, 1, 2] [] [] [(2, ⟨6, [[.d (.val (.int .i64 p0.op)), .d (.val (.string p0.name)), .d (.val (.bool p0.num.neg)), .d (slD u32V []), .d (.val (.slice none 0 0)), .d (.val (.slice none 0 0))]]⟩)] (Option.some.inj h) (by simp only [go_sem, reduceEqDiff, reduceAdd, reduceSub, reduceMul, reduceLeDiff, reduceLT, Nat.reduceBEq, reduceIte, sealL_cons, sealL_nil]) (by simp only [go_sem, reduceEqDiff, reduceAdd, reduceSub, reduceMul, reduceLeDiff, reduceLT, Nat.reduceBEq, reduceIte, sealH_cons, sealH_nil]; exact ⟨⟨.same _, .same _, .same _, .nil, .same _, .same _, trivial⟩, trivial⟩) (by simp only [go_sem, reduceEqDiff, reduceAdd, reduceSub, reduceMul, reduceLeDiff, reduceLT, Nat.reduceBEq, reduceIte])
  rintro v1_0 rfl
  have h := hJ2
  try dsimp only [Out.fin] at h
  refine nz ?_
  refine AW.one ?_
  refine obindE h fun oJ7 h hJ7 => ?_
  refine AW.join (S := (List Int)) (fun v6_0 => [(1, .ptr 0 6 0 0), (2, .ptr 1 6 0 0), (3, .ptr 2 6 0 0)]) (fun v6_0 => [some ⟨6, [[.d (.val (.int .i64 p0.op)), .d (.val (.string p0.name)), .d (.val (.bool p0.num.neg)), .d (slD u32V p0.num.num), .d (slD u32V p0.num.den), .d (slD NodeA.enc p0.kids)]]⟩, some ⟨6, [[.d (.val (.int .i64 (0 : Int))), .d (.val (.string (⟨#[]⟩ : ByteArray))), .d (.val (.bool false)), .d (.val (.slice none 0 0)), .d (.val (.slice none 0 0)), .d (.val (.slice none 0 0))]]⟩, some ⟨6, [[.d (.val (.int .i64 p0.op)), .d (.val (.string p0.name)), .d (.val (.bool p0.num.neg)), .d (slD u32V v1_0), .d (slD u32V v6_0), .d (.val (.slice none 0 0))]]⟩]) (fun x => x = oJ7) ?_ ?_
  · skip
    refine AW.op mixed ?_
    refine AW.kp [0, 1, 2] [1, 2, 3, 31] ?_
    refine AW.ts (decide ((0 : Int) < (p0.num.den.length : Int))) (fun hb8 => ?_) (fun hb8 => ?_)
    · have h := ifT hb8 h
      refine AW.rg mixed ?_
      apply obindE h; intro l9 hx10 h
      refine appD hx10 rfl (by simp only [go_sem, reduceEqDiff, reduceAdd, reduceSub, reduceMul, reduceLeDiff, reduceLT, Nat.reduceBEq, reduceIte]) ?_
      try simp only [go_sem, reduceEqDiff, reduceAdd, reduceSub, reduceMul, reduceLeDiff, reduceLT, Nat.reduceBEq, reduceIte]
      exact JoinQ.ar l9 [0, 1, 2] (Option.some.inj h)
    have h := ifF hb8 h
    refine AW.sk ?_
    refine JoinQ.mkS [] [0, 1, 2] [] [] [(2, ⟨6, [[.d (.val (.int .i64 p0.op)), .d (.val (.string p0.name)), .d (.val (.bool p0.num.neg)), .d (slD u32V v1_0), .d (slD u32V []), .d (.val (.slice none 0 0))]]⟩)] (Option.some.inj h) (by simp only [go_sem, reduceEqDiff, reduceAdd, reduceSub, reduceMul, reduceLeDiff, reduceLT, Nat.reduceBEq, reduceIte, sealL_cons, sealL_nil]) (by simp only [go_sem, reduceEqDiff, reduceAdd, reduceSub, reduceMul, reduceLeDiff, reduceLT, Nat.reduceBEq, reduceIte, sealH_cons, sealH_nil]; exact ⟨⟨.same _, .same _, .same _, .same _, .nil, .same _, trivial⟩, trivial⟩) (by simp only [go_sem, reduceEqDiff, reduceAdd, reduceSub, reduceMul, reduceLeDiff, reduceLT, Nat.reduceBEq, reduceIte])
  rintro v6_0 rfl
  have h := hJ7
  try dsimp only [Out.fin] at h
  refine nz ?_
  refine AW.one ?_
  refine AW.op mixed ?_
  refine AW.kp [1, 2] [2, 3, 39, 40, 41] ?_
  refine obindE h fun oJ14 h hJ14 => ?_
  refine AW.join (S := (List NodeA)) (fun e12_0 => [(2, .ptr 0 6 0 0), (3, .ptr 1 6 0 0)]) (fun e12_0 => [some ⟨6, [[.d (.val (.int .i64 (0 : Int))), .d (.val (.string (⟨#[]⟩ : ByteArray))), .d (.val (.bool false)), .d (.val (.slice none 0 0)), .d (.val (.slice none 0 0)), .d (.val (.slice none 0 0))]]⟩, some ⟨6, [[.d (.val (.int .i64 p0.op)), .d (.val (.string p0.name)), .d (.val (.bool p0.num.neg)), .d (slD u32V v1_0), .d (slD u32V v6_0), accV 2 6 ((e12_0.map NodeA.enc).map (·.map .d))]]⟩, accO 6 ((e12_0.map NodeA.enc).map (·.map .d))]) (fun x => x = oJ14) ?_ ?_
  · refine AW.block ?_
    refine AW.iter (S := Int × (List NodeA)) (fun (i11_0, i11_1) => [(2, .ptr 0 6 0 0), (3, .ptr 1 6 0 0), (39, .d (slD NodeA.enc p0.kids)), (40, .d (.val (.int .i64 (p0.kids.length : Int)))), (41, .d (.val (.int .i64 i11_0)))]) (fun (i11_0, i11_1) => [some ⟨6, [[.d (.val (.int .i64 (0 : Int))), .d (.val (.string (⟨#[]⟩ : ByteArray))), .d (.val (.bool false)), .d (.val (.slice none 0 0)), .d (.val (.slice none 0 0)), .d (.val (.slice none 0 0))]]⟩, some ⟨6, [[.d (.val (.int .i64 p0.op)), .d (.val (.string p0.name)), .d (.val (.bool p0.num.neg)), .d (slD u32V v1_0), .d (slD u32V v6_0), accV 2 6 ((i11_1.map NodeA.enc).map (·.map .d))]]⟩, accO 6 ((i11_1.map NodeA.enc).map (·.map .d))]) [0, 1, 1002] h (by simp only [go_sem, reduceEqDiff, reduceAdd, reduceSub, reduceMul, reduceLeDiff, reduceLT, Nat.reduceBEq, reduceIte]) ?_
    rintro again ⟨i11_0, i11_1⟩ h
    try dsimp only at h
    refine AW.op mixed ?_
    refine AW.cu [0, 1, 2] [(2, .ptr 0 6 0 0), (3, .ptr 1 6 0 0), (39, .d (slD NodeA.enc p0.kids)), (40, .d (.val (.int .i64 (p0.kids.length : Int)))), (41, .d (.val (.int .i64 i11_0))), (42, .d (.val (.bool (decide (i11_0 < (p0.kids.length : Int))))))] [some ⟨6, [[.d (.val (.int .i64 (0 : Int))), .d (.val (.string (⟨#[]⟩ : ByteArray))), .d (.val (.bool false)), .d (.val (.slice none 0 0)), .d (.val (.slice none 0 0)), .d (.val (.slice none 0 0))]]⟩, some ⟨6, [[.d (.val (.int .i64 p0.op)), .d (.val (.string p0.name)), .d (.val (.bool p0.num.neg)), .d (slD u32V v1_0), .d (slD u32V v6_0), accV 2 6 ((i11_1.map NodeA.enc).map (·.map .d))]]⟩, accO 6 ((i11_1.map NodeA.enc).map (·.map .d))] ?_
    refine AW.one ?_
    refine AW.ts (decide (i11_0 < (p0.kids.length : Int))) (fun hb15 => ?_) (fun hb15 => ?_)
    · have h := ifT hb15 h
      refine AW.sk ?_
      refine AW.cu [0, 1, 2] [(2, .ptr 0 6 0 0), (3, .ptr 1 6 0 0), (39, .d (slD NodeA.enc p0.kids)), (40, .d (.val (.int .i64 (p0.kids.length : Int)))), (41, .d (.val (.int .i64 i11_0)))] [some ⟨6, [[.d (.val (.int .i64 (0 : Int))), .d (.val (.string (⟨#[]⟩ : ByteArray))), .d (.val (.bool false)), .d (.val (.slice none 0 0)), .d (.val (.slice none 0 0)), .d (.val (.slice none 0 0))]]⟩, some ⟨6, [[.d (.val (.int .i64 p0.op)), .d (.val (.string p0.name)), .d (.val (.bool p0.num.neg)), .d (slD u32V v1_0), .d (slD u32V v6_0), accV 2 6 ((i11_1.map NodeA.enc).map (·.map .d))]]⟩, accO 6 ((i11_1.map NodeA.enc).map (·.map .d))] ?_
      refine AW.one ?_
      refine AW.block ?_
      refine AW.one ?_
      refine AW.reg mixed (by kernel_rfl) ?_
      apply obindE h; intro x16 hx17 h
      try simp only [go_sem, reduceEqDiff, reduceAdd, reduceSub, reduceMul, reduceLeDiff, reduceLT, Nat.reduceBEq, reduceIte, (idx_some hx17).1, (idx_some hx17).2]
      refine AW.cut [0, 1, 2, 5] [(2, .ptr 0 6 0 0), (3, .ptr 1 6 0 0), (5, .ptr 3 6 0 0), (39, .d (slD NodeA.enc p0.kids)), (40, .d (.val (.int .i64 (p0.kids.length : Int)))), (41, .d (.val (.int .i64 i11_0)))] [some ⟨6, [[.d (.val (.int .i64 (0 : Int))), .d (.val (.string (⟨#[]⟩ : ByteArray))), .d (.val (.bool false)), .d (.val (.slice none 0 0)), .d (.val (.slice none 0 0)), .d (.val (.slice none 0 0))]]⟩, some ⟨6, [[.d (.val (.int .i64 p0.op)), .d (.val (.string p0.name)), .d (.val (.bool p0.num.neg)), .d (slD u32V v1_0), .d (slD u32V v6_0), accV 2 6 ((i11_1.map NodeA.enc).map (·.map .d))]]⟩, accO 6 ((i11_1.map NodeA.enc).map (·.map .d)), some ⟨6, [[.d (.val (.int .i64 x16.op)), .d (.val (.string x16.name)), .d (.val (.bool x16.num.neg)), .d (slD u32V x16.num.num), .d (slD u32V x16.num.den), .d (slD NodeA.enc x16.kids)]]⟩] (by simp only [go_sem, reduceEqDiff, reduceAdd, reduceSub, reduceMul, reduceLeDiff, reduceLT, Nat.reduceBEq, reduceIte, (idx_some hx17).1, (idx_some hx17).2]) ?_
      refine AW.op mixed ?_
      apply obindE h; intro r18 hx19 h
      have hc := nx (hself58 _ _ hx19)
      refine callP hc ?_
      refine AW.cu [0, 1, 2, 6] [(2, .ptr 0 6 0 0), (3, .ptr 1 6 0 0), (6, .ptr 3 6 0 0), (39, .d (slD NodeA.enc p0.kids)), (40, .d (.val (.int .i64 (p0.kids.length : Int)))), (41, .d (.val (.int .i64 i11_0)))] [some ⟨6, [[.d (.val (.int .i64 (0 : Int))), .d (.val (.string (⟨#[]⟩ : ByteArray))), .d (.val (.bool false)), .d (.val (.slice none 0 0)), .d (.val (.slice none 0 0)), .d (.val (.slice none 0 0))]]⟩, some ⟨6, [[.d (.val (.int .i64 p0.op)), .d (.val (.string p0.name)), .d (.val (.bool p0.num.neg)), .d (slD u32V v1_0), .d (slD u32V v6_0), accV 2 6 ((i11_1.map NodeA.enc).map (·.map .d))]]⟩, accO 6 ((i11_1.map NodeA.enc).map (·.map .d)), some ⟨6, [[.d (.val (.int .i64 r18.op)), .d (.val (.string r18.name)), .d (.val (.bool r18.num.neg)), .d (slD u32V r18.num.num), .d (slD u32V r18.num.den), .d (slD NodeA.enc r18.kids)]]⟩] ?_
      refine AW.rg mixed ?_
      apply obindE h; intro l20 hx21 h
      refine appG hx21 rfl (by simp only [go_sem, reduceEqDiff, reduceAdd, reduceSub, reduceMul, reduceLeDiff, reduceLT, Nat.reduceBEq, reduceIte]) (by simp only [go_sem, reduceEqDiff, reduceAdd, reduceSub, reduceMul, reduceLeDiff, reduceLT, Nat.reduceBEq, reduceIte]) (by simp only [go_sem, reduceEqDiff, reduceAdd, reduceSub, reduceMul, reduceLeDiff, reduceLT, Nat.reduceBEq, reduceIte]) (by simp) ?_
      try simp only [go_sem, reduceEqDiff, reduceAdd, reduceSub, reduceMul, reduceLeDiff, reduceLT, Nat.reduceBEq, reduceIte]
      refine AW.cu [0, 1, 8] [(2, .ptr 0 6 0 0), (3, .ptr 1 6 0 0), (39, .d (slD NodeA.enc p0.kids)), (40, .d (.val (.int .i64 (p0.kids.length : Int)))), (41, .d (.val (.int .i64 i11_0)))] [some ⟨6, [[.d (.val (.int .i64 (0 : Int))), .d (.val (.string (⟨#[]⟩ : ByteArray))), .d (.val (.bool false)), .d (.val (.slice none 0 0)), .d (.val (.slice none 0 0)), .d (.val (.slice none 0 0))]]⟩, some ⟨6, [[.d (.val (.int .i64 p0.op)), .d (.val (.string p0.name)), .d (.val (.bool p0.num.neg)), .d (slD u32V v1_0), .d (slD u32V v6_0), accV 2 6 ((l20.map NodeA.enc).map (·.map .d))]]⟩, accO 6 ((l20.map NodeA.enc).map (·.map .d))] ?_
      refine AW.rg mixed ?_
      exact NextQ.ar (IntKind.wrap .i64 (i11_0 + (1 : Int)), l20) [0, 1, 2] h
    have h := ifF hb15 h
    refine AW.ex ?_
    exact JoinQ.ar i11_1 [0, 1, 2] (Option.some.inj h)
  rintro e12_0 rfl
  have h := hJ14
  try dsimp only [Out.fin] at h
  refine nz ?_
  refine AW.cu [0, 1, 2] [(2, .ptr 0 6 0 0), (3, .ptr 1 6 0 0)] [some ⟨6, [[.d (.val (.int .i64 (0 : Int))), .d (.val (.string (⟨#[]⟩ : ByteArray))), .d (.val (.bool false)), .d (.val (.slice none 0 0)), .d (.val (.slice none 0 0)), .d (.val (.slice none 0 0))]]⟩, some ⟨6, [[.d (.val (.int .i64 p0.op)), .d (.val (.string p0.name)), .d (.val (.bool p0.num.neg)), .d (slD u32V v1_0), .d (slD u32V v6_0), accV 2 6 ((e12_0.map NodeA.enc).map (·.map .d))]]⟩, accO 6 ((e12_0.map NodeA.enc).map (·.map .d))] ?_
  refine AW.op mixed ?_
  refine AW.ret ?_
  obtain rfl := Option.some.inj h
  refine nz ?_
  refine OwnRes.mk 2 (nz ?_) (by simp only [go_sem, reduceEqDiff, reduceAdd, reduceSub, reduceMul, reduceLeDiff, reduceLT, Nat.reduceBEq, reduceIte])
  exact .same _
theorem tree_Copy_step (K : Nat) (self58 : NodeA → Option NodeA) (hself58 : ∀ (q : NodeA) (r : NodeA), self58 q = some r → Cn Tryz.prog 58 [aggV q.enc] (aggV r.enc)) (p0 : NodeA) (r : NodeA) (h : tree_Copy_body K self58 p0 = some r) : Cn Tryz.prog 58 [aggV p0.enc] (aggV r.enc) := by
  refine Cn.ofCo (tree_Copy_stepO K _ hself58 p0 r h) (nz ?_) (by simp only [go_sem, reduceEqDiff, reduceAdd, reduceSub, reduceMul, reduceLeDiff, reduceLT, Nat.reduceBEq, reduceIte])
  exact .aggL ⟨.same _, .same _, .same _, .same _, .same _, sealAcc (by simp only [go_sem, reduceEqDiff, reduceAdd, reduceSub, reduceMul, reduceLeDiff, reduceLT, Nat.reduceBEq, reduceIte]), trivial⟩
def tree_Copy (K : Nat) (p0 : NodeA) : Option NodeA := iter K (fun self q => tree_Copy_body K self q) p0
theorem key_tree_Copy {K : Nat} (k : Nat) : (∀ (q : NodeA) (r : NodeA), iter k (fun self q => tree_Copy_body K self q) q = some r → Cn Tryz.prog 58 [aggV q.enc] (aggV r.enc)) := by
  induction k with
  | zero => exact fun q r h => by cases h
  | succ k ih => exact fun q r h => tree_Copy_step K _ ih q r h
theorem tree_Copy_own {K : Nat} {p0 : NodeA} {r : NodeA} (h : tree_Copy K p0 = some r) : Co Tryz.prog 58 [aggV p0.enc] (.agg [.d (.val (.int .i64 r.op)), .d (.val (.string r.name)), .d (.val (.bool r.num.neg)), .d (slD u32V r.num.num), .d (slD u32V r.num.den), accV 0 6 ((r.kids.map NodeA.enc).map (·.map .d))]) (accO 6 ((r.kids.map NodeA.enc).map (·.map .d))) := by
  unfold tree_Copy at h
  have key : ∀ k, iter k (fun self q => tree_Copy_body K self q) p0 = some r → Co Tryz.prog 58 [aggV p0.enc] (.agg [.d (.val (.int .i64 r.op)), .d (.val (.string r.name)), .d (.val (.bool r.num.neg)), .d (slD u32V r.num.num), .d (slD u32V r.num.den), accV 0 6 ((r.kids.map NodeA.enc).map (·.map .d))]) (accO 6 ((r.kids.map NodeA.enc).map (·.map .d))) := fun k h => by
    cases k with
    | zero => cases h
    | succ k => exact tree_Copy_stepO K _ (key_tree_Copy k) p0 r h
  exact key K h
theorem tree_Copy_ok {K : Nat} {p0 : NodeA} {r : NodeA} (h : tree_Copy K p0 = some r) : Cn Tryz.prog 58 [aggV p0.enc] (aggV r.enc) := (key_tree_Copy K) p0 r h
/-! ### isochrone/rename.uniform$2 -/
def rename_uniform_2_body (K : Nat) (self70 : (NodeA × ByteArray × ByteArray) → Option NodeA) (p0 : NodeA) (p1 : ByteArray) (p2 : ByteArray) : Option NodeA := (tree_Copy K (NodeA.mk p0.op p0.name p0.num [])).bind fun r1 => 
  ((
    (rename_variable K p0.op).bind fun r5 => 
    if r5 then
      (rename_uniform_1 K p0.name p1 p2).bind fun r8 => 
      some r8
    else
      some r1.name) : Option ByteArray).bind (fun v3_0 => 
  ((iter (S := Int × (List NodeA)) (R := (List NodeA)) K (fun again (i10_0, i10_1) => 
    if (decide (i10_0 < (p0.kids.length : Int))) then
      (idx p0.kids i10_0).bind fun x15 => 
      (self70 (x15, p1, p2)).bind fun r17 => 
      (appO 104 i10_1 [r17]).bind fun l19 => 
      again (IntKind.wrap .i64 (i10_0 + (1 : Int)), l19)
    else
      some i10_1) ((0 : Int), r1.kids)) : Option (List NodeA)).bind (fun e11_0 => 
  some (NodeA.mk r1.op v3_0 r1.num e11_0)))
set_option maxHeartbeats 4000000 in
theorem rename_uniform_2_step (K : Nat) (self70 : (NodeA × ByteArray × ByteArray) → Option NodeA) (hself70 : ∀ (q : NodeA × ByteArray × ByteArray) (r : NodeA), self70 q = some r → Cl Tryz.prog 70 [aggV q.1.enc, .ptr 0 1 0 0, .ptr 3 1 0 0] [⟨1, [[.fn 69 [.ptr 1 1 0 0, .ptr 2 1 0 0]]]⟩, ⟨1, [[.d (.val (.string q.2.1))]]⟩, ⟨1, [[.d (.val (.string q.2.2))]]⟩, ⟨1, [[.fn 70 [.ptr 0 1 0 0, .ptr 3 1 0 0]]]⟩] (aggV r.enc) [⟨1, [[.fn 69 [.ptr 1 1 0 0, .ptr 2 1 0 0]]]⟩, ⟨1, [[.d (.val (.string q.2.1))]]⟩, ⟨1, [[.d (.val (.string q.2.2))]]⟩, ⟨1, [[.fn 70 [.ptr 0 1 0 0, .ptr 3 1 0 0]]]⟩]) (p0 : NodeA) (p1 : ByteArray) (p2 : ByteArray) (r : NodeA) (h : rename_uniform_2_body K self70 p0 p1 p2 = some r) : Cl Tryz.prog 70 [aggV p0.enc, .ptr 0 1 0 0, .ptr 3 1 0 0] [⟨1, [[.fn 69 [.ptr 1 1 0 0, .ptr 2 1 0 0]]]⟩, ⟨1, [[.d (.val (.string p1))]]⟩, ⟨1, [[.d (.val (.string p2))]]⟩, ⟨1, [[.fn 70 [.ptr 0 1 0 0, .ptr 3 1 0 0]]]⟩] (aggV r.enc) [⟨1, [[.fn 69 [.ptr 1 1 0 0, .ptr 2 1 0 0]]]⟩, ⟨1, [[.d (.val (.string p1))]]⟩, ⟨1, [[.d (.val (.string p2))]]⟩, ⟨1, [[.fn 70 [.ptr 0 1 0 0, .ptr 3 1 0 0]]]⟩] := by
  refine Cl.ofA mixed Tryz.func70 rfl Tryz.call70 Tryz.ntmps70 Tryz.results70 (by simp) rfl (by simp only [go_sem, reduceEqDiff, reduceAdd, reduceSub, reduceMul, reduceLeDiff, reduceLT, Nat.reduceBEq, reduceIte, List.length_cons]) (by simp only [go_sem, reduceEqDiff, reduceAdd, reduceSub, reduceMul, reduceLeDiff, reduceLT, Nat.reduceBEq, reduceIte]) (by simp only [go_sem, reduceEqDiff, reduceAdd, reduceSub, reduceMul, reduceLeDiff, reduceLT, Nat.reduceBEq, reduceIte]) (by simp only [go_sem, reduceEqDiff, reduceAdd, reduceSub, reduceMul, reduceLeDiff, reduceLT, Nat.reduceBEq, reduceIte]) fun hfit => ?_
  unfold rename_uniform_2_body at h
  refine AW.kp [0, 1, 2, 3] [0, 1, 2] ?_
  refine AW.op mixed ?_
  refine AW.kp [0, 1, 2, 3, 4, 5] [1, 2, 3, 4] ?_
  refine AW.op mixed ?_
  apply obindE h; intro r1 hx2 h
  have hc := nx (tree_Copy_own (h := hx2))
  refine callK_ownC hc ⟨.aggL ⟨.same _, .same _, .same _, .same _, .same _, .nil, trivial⟩, trivial⟩ (by simp only [go_sem, reduceEqDiff, reduceAdd, reduceSub, reduceMul, reduceLeDiff, reduceLT, Nat.reduceBEq, reduceIte]) ?_
  try simp only [go_sem, reduceEqDiff, reduceAdd, reduceSub, reduceMul, reduceLeDiff, reduceLT, Nat.reduceBEq, reduceIte]
  refine AW.cu [0, 1, 2, 3, 4, 5, 14, 13] [(1, .ptr 0 1 0 0), (2, .ptr 3 1 0 0), (3, .ptr 4 6 0 0), (4, .ptr 5 6 0 0), (5, .ptr 6 6 0 0)] [some ⟨1, [[.fn 69 [.ptr 1 1 0 0, .ptr 2 1 0 0]]]⟩, some ⟨1, [[.d (.val (.string p1))]]⟩, some ⟨1, [[.d (.val (.string p2))]]⟩, some ⟨1, [[.fn 70 [.ptr 0 1 0 0, .ptr 3 1 0 0]]]⟩, some ⟨6, [[.d (.val (.int .i64 p0.op)), .d (.val (.string p0.name)), .d (.val (.bool p0.num.neg)), .d (slD u32V p0.num.num), .d (slD u32V p0.num.den), .d (slD NodeA.enc p0.kids)]]⟩, some ⟨6, [[.d (.val (.int .i64 (0 : Int))), .d (.val (.string (⟨#[]⟩ : ByteArray))), .d (.val (.bool false)), .d (.val (.slice none 0 0)), .d (.val (.slice none 0 0)), .d (.val (.slice none 0 0))]]⟩, some ⟨6, [[.d (.val (.int .i64 r1.op)), .d (.val (.string r1.name)), .d (.val (.bool r1.num.neg)), .d (slD u32V r1.num.num), .d (slD u32V r1.num.den), accV 7 6 ((r1.kids.map NodeA.enc).map (·.map .d))]]⟩, accO 6 ((r1.kids.map NodeA.enc).map (·.map .d))] ?_
  refine AW.one ?_
  refine obindE h fun oJ4 h hJ4 => ?_
  refine AW.join (S := ByteArray) (fun v3_0 => [(2, .ptr 3 1 0 0), (3, .ptr 4 6 0 0), (4, .ptr 5 6 0 0), (5, .ptr 6 6 0 0)]) (fun v3_0 => [some ⟨1, [[.fn 69 [.ptr 1 1 0 0, .ptr 2 1 0 0]]]⟩, some ⟨1, [[.d (.val (.string p1))]]⟩, some ⟨1, [[.d (.val (.string p2))]]⟩, some ⟨1, [[.fn 70 [.ptr 0 1 0 0, .ptr 3 1 0 0]]]⟩, some ⟨6, [[.d (.val (.int .i64 p0.op)), .d (.val (.string p0.name)), .d (.val (.bool p0.num.neg)), .d (slD u32V p0.num.num), .d (slD u32V p0.num.den), .d (slD NodeA.enc p0.kids)]]⟩, some ⟨6, [[.d (.val (.int .i64 (0 : Int))), .d (.val (.string (⟨#[]⟩ : ByteArray))), .d (.val (.bool false)), .d (.val (.slice none 0 0)), .d (.val (.slice none 0 0)), .d (.val (.slice none 0 0))]]⟩, some ⟨6, [[.d (.val (.int .i64 r1.op)), .d (.val (.string v3_0)), .d (.val (.bool r1.num.neg)), .d (slD u32V r1.num.num), .d (slD u32V r1.num.den), accV 7 6 ((r1.kids.map NodeA.enc).map (·.map .d))]]⟩, accO 6 ((r1.kids.map NodeA.enc).map (·.map .d))]) (fun x => x = oJ4) ?_ ?_
  · skip
    refine AW.op mixed ?_
    apply obindE h; intro r5 hx6 h
    have hc := nx (rename_variable_ok (h := hx6))
    refine callP hc ?_
    refine AW.cu [0, 1, 2, 3, 4, 5, 6, 7] [(1, .ptr 0 1 0 0), (2, .ptr 3 1 0 0), (3, .ptr 4 6 0 0), (4, .ptr 5 6 0 0), (5, .ptr 6 6 0 0), (19, .d (.val (.bool r5)))] [some ⟨1, [[.fn 69 [.ptr 1 1 0 0, .ptr 2 1 0 0]]]⟩, some ⟨1, [[.d (.val (.string p1))]]⟩, some ⟨1, [[.d (.val (.string p2))]]⟩, some ⟨1, [[.fn 70 [.ptr 0 1 0 0, .ptr 3 1 0 0]]]⟩, some ⟨6, [[.d (.val (.int .i64 p0.op)), .d (.val (.string p0.name)), .d (.val (.bool p0.num.neg)), .d (slD u32V p0.num.num), .d (slD u32V p0.num.den), .d (slD NodeA.enc p0.kids)]]⟩, some ⟨6, [[.d (.val (.int .i64 (0 : Int))), .d (.val (.string (⟨#[]⟩ : ByteArray))), .d (.val (.bool false)), .d (.val (.slice none 0 0)), .d (.val (.slice none 0 0)), .d (.val (.slice none 0 0))]]⟩, some ⟨6, [[.d (.val (.int .i64 r1.op)), .d (.val (.string r1.name)), .d (.val (.bool r1.num.neg)), .d (slD u32V r1.num.num), .d (slD u32V r1.num.den), accV 7 6 ((r1.kids.map NodeA.enc).map (·.map .d))]]⟩, accO 6 ((r1.kids.map NodeA.enc).map (·.map .d))] ?_
    refine AW.ts r5 (fun hb7 => ?_) (fun hb7 => ?_)
    · have h := ifT hb7 h
      refine AW.rg mixed ?_
      apply obindE h; intro r8 hx9 h
      have hc := nx (rename_uniform_1_ok (h := hx9))
      refine callK_look hc ⟨.same _, sealPtr (by simp only [go_sem, reduceEqDiff, reduceAdd, reduceSub, reduceMul, reduceLeDiff, reduceLT, Nat.reduceBEq, reduceIte]), sealPtr (by simp only [go_sem, reduceEqDiff, reduceAdd, reduceSub, reduceMul, reduceLeDiff, reduceLT, Nat.reduceBEq, reduceIte]), trivial⟩ (by simp only [go_sem, reduceEqDiff, reduceAdd, reduceSub, reduceMul, reduceLeDiff, reduceLT, Nat.reduceBEq, reduceIte]) (by simp [V.flat, V.flatL]) ?_
      try simp only [go_sem, reduceEqDiff, reduceAdd, reduceSub, reduceMul, reduceLeDiff, reduceLT, Nat.reduceBEq, reduceIte]
      exact JoinQ.ar r8 [0, 1, 2, 3, 4, 5, 6, 7] (Option.some.inj h)
    have h := ifF hb7 h
    refine AW.sk ?_
    exact JoinQ.ar r1.name [0, 1, 2, 3, 4, 5, 6, 7] (Option.some.inj h)
  rintro v3_0 rfl
  have h := hJ4
  try dsimp only [Out.fin] at h
  refine nz ?_
  refine AW.one ?_
  refine AW.op mixed ?_
  refine AW.cu [0, 1, 2, 3, 5, 6, 7] [(2, .ptr 3 1 0 0), (4, .ptr 4 6 0 0), (5, .ptr 5 6 0 0), (26, .d (slD NodeA.enc p0.kids)), (27, .d (.val (.int .i64 (p0.kids.length : Int)))), (28, .d (.val (.int .i64 (0 : Int))))] [some ⟨1, [[.fn 69 [.ptr 1 1 0 0, .ptr 2 1 0 0]]]⟩, some ⟨1, [[.d (.val (.string p1))]]⟩, some ⟨1, [[.d (.val (.string p2))]]⟩, some ⟨1, [[.fn 70 [.ptr 0 1 0 0, .ptr 3 1 0 0]]]⟩, some ⟨6, [[.d (.val (.int .i64 (0 : Int))), .d (.val (.string (⟨#[]⟩ : ByteArray))), .d (.val (.bool false)), .d (.val (.slice none 0 0)), .d (.val (.slice none 0 0)), .d (.val (.slice none 0 0))]]⟩, some ⟨6, [[.d (.val (.int .i64 r1.op)), .d (.val (.string v3_0)), .d (.val (.bool r1.num.neg)), .d (slD u32V r1.num.num), .d (slD u32V r1.num.den), accV 6 6 ((r1.kids.map NodeA.enc).map (·.map .d))]]⟩, accO 6 ((r1.kids.map NodeA.enc).map (·.map .d))] ?_
  refine obindE h fun oJ13 h hJ13 => ?_
  refine AW.join (S := (List NodeA)) (fun e11_0 => [(4, .ptr 4 6 0 0), (5, .ptr 5 6 0 0)]) (fun e11_0 => [some ⟨1, [[.fn 69 [.ptr 1 1 0 0, .ptr 2 1 0 0]]]⟩, some ⟨1, [[.d (.val (.string p1))]]⟩, some ⟨1, [[.d (.val (.string p2))]]⟩, some ⟨1, [[.fn 70 [.ptr 0 1 0 0, .ptr 3 1 0 0]]]⟩, some ⟨6, [[.d (.val (.int .i64 (0 : Int))), .d (.val (.string (⟨#[]⟩ : ByteArray))), .d (.val (.bool false)), .d (.val (.slice none 0 0)), .d (.val (.slice none 0 0)), .d (.val (.slice none 0 0))]]⟩, some ⟨6, [[.d (.val (.int .i64 r1.op)), .d (.val (.string v3_0)), .d (.val (.bool r1.num.neg)), .d (slD u32V r1.num.num), .d (slD u32V r1.num.den), accV 6 6 ((e11_0.map NodeA.enc).map (·.map .d))]]⟩, accO 6 ((e11_0.map NodeA.enc).map (·.map .d))]) (fun x => x = oJ13) ?_ ?_
  · refine AW.block ?_
    refine AW.iter (S := Int × (List NodeA)) (fun (i10_0, i10_1) => [(2, .ptr 3 1 0 0), (4, .ptr 4 6 0 0), (5, .ptr 5 6 0 0), (26, .d (slD NodeA.enc p0.kids)), (27, .d (.val (.int .i64 (p0.kids.length : Int)))), (28, .d (.val (.int .i64 i10_0)))]) (fun (i10_0, i10_1) => [some ⟨1, [[.fn 69 [.ptr 1 1 0 0, .ptr 2 1 0 0]]]⟩, some ⟨1, [[.d (.val (.string p1))]]⟩, some ⟨1, [[.d (.val (.string p2))]]⟩, some ⟨1, [[.fn 70 [.ptr 0 1 0 0, .ptr 3 1 0 0]]]⟩, some ⟨6, [[.d (.val (.int .i64 (0 : Int))), .d (.val (.string (⟨#[]⟩ : ByteArray))), .d (.val (.bool false)), .d (.val (.slice none 0 0)), .d (.val (.slice none 0 0)), .d (.val (.slice none 0 0))]]⟩, some ⟨6, [[.d (.val (.int .i64 r1.op)), .d (.val (.string v3_0)), .d (.val (.bool r1.num.neg)), .d (slD u32V r1.num.num), .d (slD u32V r1.num.den), accV 6 6 ((i10_1.map NodeA.enc).map (·.map .d))]]⟩, accO 6 ((i10_1.map NodeA.enc).map (·.map .d))]) [0, 1, 2, 3, 4, 5, 6] h (by simp only [go_sem, reduceEqDiff, reduceAdd, reduceSub, reduceMul, reduceLeDiff, reduceLT, Nat.reduceBEq, reduceIte]) ?_
    rintro again ⟨i10_0, i10_1⟩ h
    try dsimp only at h
    refine AW.op mixed ?_
    refine AW.cu [0, 1, 2, 3, 4, 5, 6] [(2, .ptr 3 1 0 0), (4, .ptr 4 6 0 0), (5, .ptr 5 6 0 0), (26, .d (slD NodeA.enc p0.kids)), (27, .d (.val (.int .i64 (p0.kids.length : Int)))), (28, .d (.val (.int .i64 i10_0))), (29, .d (.val (.bool (decide (i10_0 < (p0.kids.length : Int))))))] [some ⟨1, [[.fn 69 [.ptr 1 1 0 0, .ptr 2 1 0 0]]]⟩, some ⟨1, [[.d (.val (.string p1))]]⟩, some ⟨1, [[.d (.val (.string p2))]]⟩, some ⟨1, [[.fn 70 [.ptr 0 1 0 0, .ptr 3 1 0 0]]]⟩, some ⟨6, [[.d (.val (.int .i64 (0 : Int))), .d (.val (.string (⟨#[]⟩ : ByteArray))), .d (.val (.bool false)), .d (.val (.slice none 0 0)), .d (.val (.slice none 0 0)), .d (.val (.slice none 0 0))]]⟩, some ⟨6, [[.d (.val (.int .i64 r1.op)), .d (.val (.string v3_0)), .d (.val (.bool r1.num.neg)), .d (slD u32V r1.num.num), .d (slD u32V r1.num.den), accV 6 6 ((i10_1.map NodeA.enc).map (·.map .d))]]⟩, accO 6 ((i10_1.map NodeA.enc).map (·.map .d))] ?_
    refine AW.one ?_
    refine AW.ts (decide (i10_0 < (p0.kids.length : Int))) (fun hb14 => ?_) (fun hb14 => ?_)
    · have h := ifT hb14 h
      refine AW.sk ?_
      refine AW.cu [0, 1, 2, 3, 4, 5, 6] [(2, .ptr 3 1 0 0), (4, .ptr 4 6 0 0), (5, .ptr 5 6 0 0), (26, .d (slD NodeA.enc p0.kids)), (27, .d (.val (.int .i64 (p0.kids.length : Int)))), (28, .d (.val (.int .i64 i10_0)))] [some ⟨1, [[.fn 69 [.ptr 1 1 0 0, .ptr 2 1 0 0]]]⟩, some ⟨1, [[.d (.val (.string p1))]]⟩, some ⟨1, [[.d (.val (.string p2))]]⟩, some ⟨1, [[.fn 70 [.ptr 0 1 0 0, .ptr 3 1 0 0]]]⟩, some ⟨6, [[.d (.val (.int .i64 (0 : Int))), .d (.val (.string (⟨#[]⟩ : ByteArray))), .d (.val (.bool false)), .d (.val (.slice none 0 0)), .d (.val (.slice none 0 0)), .d (.val (.slice none 0 0))]]⟩, some ⟨6, [[.d (.val (.int .i64 r1.op)), .d (.val (.string v3_0)), .d (.val (.bool r1.num.neg)), .d (slD u32V r1.num.num), .d (slD u32V r1.num.den), accV 6 6 ((i10_1.map NodeA.enc).map (·.map .d))]]⟩, accO 6 ((i10_1.map NodeA.enc).map (·.map .d))] ?_
      refine AW.one ?_
      refine AW.block ?_
      refine AW.one ?_
      refine AW.reg mixed (by kernel_rfl) ?_
      apply obindE h; intro x15 hx16 h
      try simp only [go_sem, reduceEqDiff, reduceAdd, reduceSub, reduceMul, reduceLeDiff, reduceLT, Nat.reduceBEq, reduceIte, (idx_some hx16).1, (idx_some hx16).2]
      refine AW.cut [0, 1, 2, 3, 4, 5, 6, 9] [(2, .ptr 3 1 0 0), (4, .ptr 4 6 0 0), (5, .ptr 5 6 0 0), (7, .ptr 7 6 0 0), (26, .d (slD NodeA.enc p0.kids)), (27, .d (.val (.int .i64 (p0.kids.length : Int)))), (28, .d (.val (.int .i64 i10_0)))] [some ⟨1, [[.fn 69 [.ptr 1 1 0 0, .ptr 2 1 0 0]]]⟩, some ⟨1, [[.d (.val (.string p1))]]⟩, some ⟨1, [[.d (.val (.string p2))]]⟩, some ⟨1, [[.fn 70 [.ptr 0 1 0 0, .ptr 3 1 0 0]]]⟩, some ⟨6, [[.d (.val (.int .i64 (0 : Int))), .d (.val (.string (⟨#[]⟩ : ByteArray))), .d (.val (.bool false)), .d (.val (.slice none 0 0)), .d (.val (.slice none 0 0)), .d (.val (.slice none 0 0))]]⟩, some ⟨6, [[.d (.val (.int .i64 r1.op)), .d (.val (.string v3_0)), .d (.val (.bool r1.num.neg)), .d (slD u32V r1.num.num), .d (slD u32V r1.num.den), accV 6 6 ((i10_1.map NodeA.enc).map (·.map .d))]]⟩, accO 6 ((i10_1.map NodeA.enc).map (·.map .d)), some ⟨6, [[.d (.val (.int .i64 x15.op)), .d (.val (.string x15.name)), .d (.val (.bool x15.num.neg)), .d (slD u32V x15.num.num), .d (slD u32V x15.num.den), .d (slD NodeA.enc x15.kids)]]⟩] (by simp only [go_sem, reduceEqDiff, reduceAdd, reduceSub, reduceMul, reduceLeDiff, reduceLT, Nat.reduceBEq, reduceIte, (idx_some hx16).1, (idx_some hx16).2]) ?_
      refine AW.op mixed ?_
      apply obindE h; intro r17 hx18 h
      have hc := nx (hself70 _ _ hx18)
      refine callK_loc [0, 1, 2, 3] hc (by simp only [go_sem, reduceEqDiff, reduceAdd, reduceSub, reduceMul, reduceLeDiff, reduceLT, Nat.reduceBEq, reduceIte]) (by simp) (by simp only [go_sem, reduceEqDiff, reduceAdd, reduceSub, reduceMul, reduceLeDiff, reduceLT, Nat.reduceBEq, reduceIte]) ?_
      try simp only [go_sem, reduceEqDiff, reduceAdd, reduceSub, reduceMul, reduceLeDiff, reduceLT, Nat.reduceBEq, reduceIte]
      refine AW.cu [0, 1, 2, 3, 4, 5, 6, 11] [(2, .ptr 3 1 0 0), (4, .ptr 4 6 0 0), (5, .ptr 5 6 0 0), (8, .ptr 7 6 0 0), (26, .d (slD NodeA.enc p0.kids)), (27, .d (.val (.int .i64 (p0.kids.length : Int)))), (28, .d (.val (.int .i64 i10_0)))] [some ⟨1, [[.fn 69 [.ptr 1 1 0 0, .ptr 2 1 0 0]]]⟩, some ⟨1, [[.d (.val (.string p1))]]⟩, some ⟨1, [[.d (.val (.string p2))]]⟩, some ⟨1, [[.fn 70 [.ptr 0 1 0 0, .ptr 3 1 0 0]]]⟩, some ⟨6, [[.d (.val (.int .i64 (0 : Int))), .d (.val (.string (⟨#[]⟩ : ByteArray))), .d (.val (.bool false)), .d (.val (.slice none 0 0)), .d (.val (.slice none 0 0)), .d (.val (.slice none 0 0))]]⟩, some ⟨6, [[.d (.val (.int .i64 r1.op)), .d (.val (.string v3_0)), .d (.val (.bool r1.num.neg)), .d (slD u32V r1.num.num), .d (slD u32V r1.num.den), accV 6 6 ((i10_1.map NodeA.enc).map (·.map .d))]]⟩, accO 6 ((i10_1.map NodeA.enc).map (·.map .d)), some ⟨6, [[.d (.val (.int .i64 r17.op)), .d (.val (.string r17.name)), .d (.val (.bool r17.num.neg)), .d (slD u32V r17.num.num), .d (slD u32V r17.num.den), .d (slD NodeA.enc r17.kids)]]⟩] ?_
      refine AW.rg mixed ?_
      apply obindE h; intro l19 hx20 h
      refine appG hx20 rfl (by simp only [go_sem, reduceEqDiff, reduceAdd, reduceSub, reduceMul, reduceLeDiff, reduceLT, Nat.reduceBEq, reduceIte]) (by simp only [go_sem, reduceEqDiff, reduceAdd, reduceSub, reduceMul, reduceLeDiff, reduceLT, Nat.reduceBEq, reduceIte]) (by simp only [go_sem, reduceEqDiff, reduceAdd, reduceSub, reduceMul, reduceLeDiff, reduceLT, Nat.reduceBEq, reduceIte]) (by simp) ?_
      try simp only [go_sem, reduceEqDiff, reduceAdd, reduceSub, reduceMul, reduceLeDiff, reduceLT, Nat.reduceBEq, reduceIte]
      refine AW.cu [0, 1, 2, 3, 4, 5, 12] [(2, .ptr 3 1 0 0), (4, .ptr 4 6 0 0), (5, .ptr 5 6 0 0), (26, .d (slD NodeA.enc p0.kids)), (27, .d (.val (.int .i64 (p0.kids.length : Int)))), (28, .d (.val (.int .i64 i10_0)))] [some ⟨1, [[.fn 69 [.ptr 1 1 0 0, .ptr 2 1 0 0]]]⟩, some ⟨1, [[.d (.val (.string p1))]]⟩, some ⟨1, [[.d (.val (.string p2))]]⟩, some ⟨1, [[.fn 70 [.ptr 0 1 0 0, .ptr 3 1 0 0]]]⟩, some ⟨6, [[.d (.val (.int .i64 (0 : Int))), .d (.val (.string (⟨#[]⟩ : ByteArray))), .d (.val (.bool false)), .d (.val (.slice none 0 0)), .d (.val (.slice none 0 0)), .d (.val (.slice none 0 0))]]⟩, some ⟨6, [[.d (.val (.int .i64 r1.op)), .d (.val (.string v3_0)), .d (.val (.bool r1.num.neg)), .d (slD u32V r1.num.num), .d (slD u32V r1.num.den), accV 6 6 ((l19.map NodeA.enc).map (·.map .d))]]⟩, accO 6 ((l19.map NodeA.enc).map (·.map .d))] ?_
      refine AW.rg mixed ?_
      exact NextQ.ar (IntKind.wrap .i64 (i10_0 + (1 : Int)), l19) [0, 1, 2, 3, 4, 5, 6] h
    have h := ifF hb14 h
    refine AW.ex ?_
    exact JoinQ.ar i10_1 [0, 1, 2, 3, 4, 5, 6] (Option.some.inj h)
  rintro e11_0 rfl
  have h := hJ13
  try dsimp only [Out.fin] at h
  refine nz ?_
  refine AW.cu [0, 1, 2, 3, 4, 5, 6] [(4, .ptr 4 6 0 0), (5, .ptr 5 6 0 0)] [some ⟨1, [[.fn 69 [.ptr 1 1 0 0, .ptr 2 1 0 0]]]⟩, some ⟨1, [[.d (.val (.string p1))]]⟩, some ⟨1, [[.d (.val (.string p2))]]⟩, some ⟨1, [[.fn 70 [.ptr 0 1 0 0, .ptr 3 1 0 0]]]⟩, some ⟨6, [[.d (.val (.int .i64 (0 : Int))), .d (.val (.string (⟨#[]⟩ : ByteArray))), .d (.val (.bool false)), .d (.val (.slice none 0 0)), .d (.val (.slice none 0 0)), .d (.val (.slice none 0 0))]]⟩, some ⟨6, [[.d (.val (.int .i64 r1.op)), .d (.val (.string v3_0)), .d (.val (.bool r1.num.neg)), .d (slD u32V r1.num.num), .d (slD u32V r1.num.den), accV 6 6 ((e11_0.map NodeA.enc).map (·.map .d))]]⟩, accO 6 ((e11_0.map NodeA.enc).map (·.map .d))] ?_
  refine AW.op mixed ?_
  refine AW.ret ?_
  obtain rfl := Option.some.inj h
  refine nz ?_
  exact ⟨.aggL ⟨.same _, .same _, .same _, .same _, .same _, sealAcc (by simp only [go_sem, reduceEqDiff, reduceAdd, reduceSub, reduceMul, reduceLeDiff, reduceLT, Nat.reduceBEq, reduceIte]), trivial⟩, ⟨⟨.same _, trivial⟩, trivial⟩, ⟨⟨.same _, trivial⟩, trivial⟩, ⟨⟨.same _, trivial⟩, trivial⟩, ⟨⟨.same _, trivial⟩, trivial⟩⟩
def rename_uniform_2 (K : Nat) (p0 : NodeA) (p1 : ByteArray) (p2 : ByteArray) : Option NodeA := iter K (fun self q => rename_uniform_2_body K self q.1 q.2.1 q.2.2) (p0, p1, p2)
theorem key_rename_uniform_2 {K : Nat} (k : Nat) : (∀ (q : NodeA × ByteArray × ByteArray) (r : NodeA), iter k (fun self q => rename_uniform_2_body K self q.1 q.2.1 q.2.2) q = some r → Cl Tryz.prog 70 [aggV q.1.enc, .ptr 0 1 0 0, .ptr 3 1 0 0] [⟨1, [[.fn 69 [.ptr 1 1 0 0, .ptr 2 1 0 0]]]⟩, ⟨1, [[.d (.val (.string q.2.1))]]⟩, ⟨1, [[.d (.val (.string q.2.2))]]⟩, ⟨1, [[.fn 70 [.ptr 0 1 0 0, .ptr 3 1 0 0]]]⟩] (aggV r.enc) [⟨1, [[.fn 69 [.ptr 1 1 0 0, .ptr 2 1 0 0]]]⟩, ⟨1, [[.d (.val (.string q.2.1))]]⟩, ⟨1, [[.d (.val (.string q.2.2))]]⟩, ⟨1, [[.fn 70 [.ptr 0 1 0 0, .ptr 3 1 0 0]]]⟩]) := by
  induction k with
  | zero => exact fun q r h => by cases h
  | succ k ih => exact fun q r h => rename_uniform_2_step K _ ih q.1 q.2.1 q.2.2 r h
theorem rename_uniform_2_ok {K : Nat} {p0 : NodeA} {p1 : ByteArray} {p2 : ByteArray} {r : NodeA} (h : rename_uniform_2 K p0 p1 p2 = some r) : Cl Tryz.prog 70 [aggV p0.enc, .ptr 0 1 0 0, .ptr 3 1 0 0] [⟨1, [[.fn 69 [.ptr 1 1 0 0, .ptr 2 1 0 0]]]⟩, ⟨1, [[.d (.val (.string p1))]]⟩, ⟨1, [[.d (.val (.string p2))]]⟩, ⟨1, [[.fn 70 [.ptr 0 1 0 0, .ptr 3 1 0 0]]]⟩] (aggV r.enc) [⟨1, [[.fn 69 [.ptr 1 1 0 0, .ptr 2 1 0 0]]]⟩, ⟨1, [[.d (.val (.string p1))]]⟩, ⟨1, [[.d (.val (.string p2))]]⟩, ⟨1, [[.fn 70 [.ptr 0 1 0 0, .ptr 3 1 0 0]]]⟩] := (key_rename_uniform_2 K) (p0, p1, p2) r h
/-! ### isochrone/rename.uniform -/
def rename_uniform (K : Nat) (p0 : NodeA) (p1 : ByteArray) (p2 : ByteArray) : Option NodeA := (rename_uniform_2 K p0 p1 p2).bind fun r1 => 
  some r1
set_option maxHeartbeats 4000000 in
theorem rename_uniform_ok {K : Nat} {p0 : NodeA} {p1 : ByteArray} {p2 : ByteArray} {r : NodeA} (h : rename_uniform K p0 p1 p2 = some r) : Cn Tryz.prog 31 [aggV p0.enc, .d (.val (.string p1)), .d (.val (.string p2))] (aggV r.enc) := by
  refine Cn.ofA mixed Tryz.func31 rfl Tryz.call31 Tryz.ntmps31 Tryz.results31 (by simp) (by simp only [go_sem, reduceEqDiff, reduceAdd, reduceSub, reduceMul, reduceLeDiff, reduceLT, Nat.reduceBEq, reduceIte]) fun hfit => ?_
  unfold rename_uniform at h
  refine AW.kp [] [0, 1, 2] ?_
  refine AW.op mixed ?_
  refine AW.kp [0, 1, 2, 3] [3, 4, 5, 6] ?_
  refine AW.op mixed ?_
  refine AW.kp [0, 3, 5, 1, 2] [3, 6, 7] ?_
  refine AW.op mixed ?_
  refine AW.kp [0, 1, 2, 3, 4, 5] [3, 6, 7, 8] ?_
  refine AW.op mixed ?_
  refine AW.kp [0, 1, 5, 2, 3, 4] [3, 6, 8] ?_
  refine AW.op mixed ?_
  apply obindE h; intro r1 hx2 h
  have hc := nx (rename_uniform_2_ok (h := hx2))
  refine callK_loc [3, 4, 5, 2] hc (by simp only [go_sem, reduceEqDiff, reduceAdd, reduceSub, reduceMul, reduceLeDiff, reduceLT, Nat.reduceBEq, reduceIte]) (by simp) (by simp only [go_sem, reduceEqDiff, reduceAdd, reduceSub, reduceMul, reduceLeDiff, reduceLT, Nat.reduceBEq, reduceIte]) ?_
  try simp only [go_sem, reduceEqDiff, reduceAdd, reduceSub, reduceMul, reduceLeDiff, reduceLT, Nat.reduceBEq, reduceIte]
  refine AW.ret ?_
  obtain rfl := Option.some.inj h
  refine nz ?_
  exact .same _
structure Api_NamesA where
  all : Bool
  list : List ByteArray
def Api_NamesA.enc (x : Api_NamesA) : List D := [.val (.bool x.all), slD strV x.list]
theorem Api_NamesA.enc_eta (x : Api_NamesA) : x.enc = [.val (.bool x.all), slD strV x.list] := rfl
attribute [go_sem] Api_NamesA.enc_eta
/-! ### isochrone/static.one -/
def static_one (K : Nat) (p0 : ByteArray) : Option Api_NamesA := some (Api_NamesA.mk false [p0])
set_option maxHeartbeats 4000000 in
theorem static_one_ok {K : Nat} {p0 : ByteArray} {r : Api_NamesA} (h : static_one K p0 = some r) : Cn Tryz.prog 61 [.d (.val (.string p0))] (aggV r.enc) := by
  refine Cn.ofA mixed Tryz.func61 rfl Tryz.call61 Tryz.ntmps61 Tryz.results61 (by simp) (by simp only [go_sem, reduceEqDiff, reduceAdd, reduceSub, reduceMul, reduceLeDiff, reduceLT, Nat.reduceBEq, reduceIte]) fun hfit => ?_
  unfold static_one at h
  refine AW.kp [] [0] ?_
  refine AW.op mixed ?_
  refine AW.kp [0] [0, 2] ?_
  refine AW.op mixed ?_
  refine AW.ret ?_
  obtain rfl := Option.some.inj h
  refine nz ?_
  exact .same _
/-! ### isochrone/static.everything -/
def static_everything (K : Nat)  : Option Api_NamesA := some (Api_NamesA.mk true [])
set_option maxHeartbeats 4000000 in
theorem static_everything_ok {K : Nat}  {r : Api_NamesA} (h : static_everything K  = some r) : Cn Tryz.prog 62 [] (aggV r.enc) := by
  refine Cn.ofA mixed Tryz.func62 rfl Tryz.call62 Tryz.ntmps62 Tryz.results62 (by simp) (by simp only [go_sem, reduceEqDiff, reduceAdd, reduceSub, reduceMul, reduceLeDiff, reduceLT, Nat.reduceBEq, reduceIte]) fun hfit => ?_
  unfold static_everything at h
  refine AW.kp [] [] ?_
  refine AW.op mixed ?_
  refine AW.kp [0] [0] ?_
  refine AW.op mixed ?_
  refine AW.ret ?_
  obtain rfl := Option.some.inj h
  refine nz ?_
  exact .aggL ⟨.same _, .nil, trivial⟩
/-! ### isochrone/static.mix -/
def static_mix (K : Nat) (p0 : List ByteArray) (p1 : List ByteArray) (p2 : Bool) (p3 : Bool) (p4 : Bool) : Option (List ByteArray) := ((iter (S := Int × Int × (List ByteArray)) (R := (List ByteArray)) K (fun again (i1_0, i1_1, i1_2) => 
    ((
      ((
        if (decide (i1_0 < (p0.length : Int))) then
          some true
        else
          some (decide (i1_1 < (p1.length : Int)))) : Option Bool).bind (fun v7_0 => 
      if v7_0 then
        some (.go ())
      else
        outM (
          some i1_2))) : Option (Out Unit _)).bind (Out.fin fun _ => 
    ((
      if (i1_1 == (p1.length : Int)) then
        some true
      else
        if (decide (i1_0 < (p0.length : Int))) then
          (idx p0 i1_0).bind fun x15 => 
          (idx p1 i1_1).bind fun x17 => 
          some (Op.bytesLess x15.toList x17.toList)
        else
          some false) : Option Bool).bind (fun v11_0 => 
    if v11_0 then
      ((
        if p2 then
          (idx p0 i1_0).bind fun x23 => 
          (appO 16 i1_2 [x23]).bind fun l25 => 
          some l25
        else
          some i1_2) : Option (List ByteArray)).bind (fun v20_0 => 
      again (IntKind.wrap .i64 (i1_0 + (1 : Int)), i1_1, v20_0))
    else
      ((
        if (i1_0 == (p0.length : Int)) then
          some true
        else
          (idx p1 i1_1).bind fun x30 => 
          (idx p0 i1_0).bind fun x32 => 
          some (Op.bytesLess x30.toList x32.toList)) : Option Bool).bind (fun v27_0 => 
      if v27_0 then
        ((
          if p4 then
            (idx p1 i1_1).bind fun x38 => 
            (appO 16 i1_2 [x38]).bind fun l40 => 
            some l40
          else
            some i1_2) : Option (List ByteArray)).bind (fun v35_0 => 
        again (i1_0, IntKind.wrap .i64 (i1_1 + (1 : Int)), v35_0))
      else
        ((
          if p3 then
            (idx p0 i1_0).bind fun x45 => 
            (appO 16 i1_2 [x45]).bind fun l47 => 
            some l47
          else
            some i1_2) : Option (List ByteArray)).bind (fun v42_0 => 
        again (IntKind.wrap .i64 (i1_0 + (1 : Int)), IntKind.wrap .i64 (i1_1 + (1 : Int)), v42_0)))))) ((0 : Int), (0 : Int), [])) : Option (List ByteArray)).bind (fun e2_0 => 
  some e2_0)
set_option maxHeartbeats 4000000 in
theorem static_mix_ok {K : Nat} {p0 : List ByteArray} {p1 : List ByteArray} {p2 : Bool} {p3 : Bool} {p4 : Bool} {r : (List ByteArray)} (h : static_mix K p0 p1 p2 p3 p4 = some r) : Cn Tryz.prog 98 [.d (slD strV p0), .d (slD strV p1), .d (.val (.bool p2)), .d (.val (.bool p3)), .d (.val (.bool p4))] (.d (slD strV r)) := by
  refine Cn.ofA mixed Tryz.func98 rfl Tryz.call98 Tryz.ntmps98 Tryz.results98 (by simp) (by simp only [go_sem, reduceEqDiff, reduceAdd, reduceSub, reduceMul, reduceLeDiff, reduceLT, Nat.reduceBEq, reduceIte]) fun hfit => ?_
  unfold static_mix at h
  refine AW.kp [] [0, 1, 2, 3, 4] ?_
  refine AW.op mixed ?_
  refine AW.kp [] [0, 1, 2, 3, 4] ?_
  refine AW.op mixed ?_
  refine AW.kp [] [0, 1, 2, 3, 4, 11] ?_
  refine AW.one ?_
  refine AW.op mixed ?_
  refine AW.kp [] [0, 1, 2, 3, 4, 11, 12, 13] ?_
  refine obindE h fun oJ4 h hJ4 => ?_
  refine AW.join (S := (List ByteArray)) (fun e2_0 => [(11, accV 0 1 ((e2_0.map strV).map (·.map .d)))]) (fun e2_0 => [accO 1 ((e2_0.map strV).map (·.map .d))]) (fun x => x = oJ4) ?_ ?_
  · refine AW.block ?_
    refine AW.iter (S := Int × Int × (List ByteArray)) (fun (i1_0, i1_1, i1_2) => [(0, .d (slD strV p0)), (1, .d (slD strV p1)), (2, .d (.val (.bool p2))), (3, .d (.val (.bool p3))), (4, .d (.val (.bool p4))), (11, accV 0 1 ((i1_2.map strV).map (·.map .d))), (12, .d (.val (.int .i64 i1_0))), (13, .d (.val (.int .i64 i1_1)))]) (fun (i1_0, i1_1, i1_2) => [accO 1 ((i1_2.map strV).map (·.map .d))]) [1000] h (by simp only [go_sem, reduceEqDiff, reduceAdd, reduceSub, reduceMul, reduceLeDiff, reduceLT, Nat.reduceBEq, reduceIte]) ?_
    rintro again ⟨i1_0, i1_1, i1_2⟩ h
    try dsimp only at h
    refine AW.one ?_
    refine obindE h fun oJ6 h hJ6 => ?_
    refine AW.join (S := Unit) (fun _ => [(0, .d (slD strV p0)), (1, .d (slD strV p1)), (2, .d (.val (.bool p2))), (3, .d (.val (.bool p3))), (4, .d (.val (.bool p4))), (11, accV 0 1 ((i1_2.map strV).map (·.map .d))), (12, .d (.val (.int .i64 i1_0))), (13, .d (.val (.int .i64 i1_1)))]) (fun _ => [accO 1 ((i1_2.map strV).map (·.map .d))]) (fun x => oJ6 = .go x) ?_ ?_
    · skip
      refine AW.one ?_
      refine obindE h fun oJ8 h hJ8 => ?_
      refine AW.join (S := Bool) (fun v7_0 => [(0, .d (slD strV p0)), (1, .d (slD strV p1)), (2, .d (.val (.bool p2))), (3, .d (.val (.bool p3))), (4, .d (.val (.bool p4))), (11, accV 0 1 ((i1_2.map strV).map (·.map .d))), (12, .d (.val (.int .i64 i1_0))), (13, .d (.val (.int .i64 i1_1))), (23, .d (.val (.bool v7_0)))]) (fun v7_0 => [accO 1 ((i1_2.map strV).map (·.map .d))]) (fun x => x = oJ8) ?_ ?_
      · skip
        refine AW.rg mixed ?_
        refine splitK_intro (fun hb9 => ?_) (fun hb9 => ?_)
        · have h := ifT hb9 h
          try simp only [go_sem, reduceEqDiff, reduceAdd, reduceSub, reduceMul, reduceLeDiff, reduceLT, Nat.reduceBEq, reduceIte, hb9]
          refine JoinQ.mk true [0] (Option.some.inj h) (by simp only [go_sem, reduceEqDiff, reduceAdd, reduceSub, reduceMul, reduceLeDiff, reduceLT, Nat.reduceBEq, reduceIte, hb9])
        have h := ifF hb9 h
        try simp only [go_sem, reduceEqDiff, reduceAdd, reduceSub, reduceMul, reduceLeDiff, reduceLT, Nat.reduceBEq, reduceIte, hb9]
        refine JoinQ.mk (decide (i1_1 < (p1.length : Int))) [0] (Option.some.inj h) (by simp only [go_sem, reduceEqDiff, reduceAdd, reduceSub, reduceMul, reduceLeDiff, reduceLT, Nat.reduceBEq, reduceIte, hb9])
      rintro v7_0 rfl
      have h := hJ8
      try dsimp only [Out.fin] at h
      refine nz ?_
      refine AW.ts v7_0 (fun hb10 => ?_) (fun hb10 => ?_)
      · have h := ifT hb10 h
        refine AW.sk ?_
        exact JoinQ.ar () [0] (Option.some.inj h).symm
      have h := ifF hb10 h
      refine AW.ex ?_
      obtain ⟨_, h, ho⟩ := outM_some h
      rw [ho, Out.fin_out] at hJ6
      have h := h.trans hJ6
      exact JoinQ.ar i1_2 [0] (Option.some.inj h)
    rintro ⟨⟩ rfl
    have h := hJ6
    try dsimp only [Out.fin] at h
    refine nz ?_
    refine AW.block ?_
    refine AW.block ?_
    refine AW.one ?_
    refine obindE h fun oJ12 h hJ12 => ?_
    refine AW.join (S := Bool) (fun v11_0 => [(0, .d (slD strV p0)), (1, .d (slD strV p1)), (2, .d (.val (.bool p2))), (3, .d (.val (.bool p3))), (4, .d (.val (.bool p4))), (11, accV 0 1 ((i1_2.map strV).map (·.map .d))), (12, .d (.val (.int .i64 i1_0))), (13, .d (.val (.int .i64 i1_1))), (36, .d (.val (.bool v11_0)))]) (fun v11_0 => [accO 1 ((i1_2.map strV).map (·.map .d))]) (fun x => x = oJ12) ?_ ?_
    · skip
      refine AW.rg mixed ?_
      refine splitK_intro (fun hb13 => ?_) (fun hb13 => ?_)
      · have h := ifT hb13 h
        try simp only [go_sem, reduceEqDiff, reduceAdd, reduceSub, reduceMul, reduceLeDiff, reduceLT, Nat.reduceBEq, reduceIte, hb13]
        refine JoinQ.mk true [0] (Option.some.inj h) (by simp only [go_sem, reduceEqDiff, reduceAdd, reduceSub, reduceMul, reduceLeDiff, reduceLT, Nat.reduceBEq, reduceIte, hb13])
      have h := ifF hb13 h
      try simp only [go_sem, reduceEqDiff, reduceAdd, reduceSub, reduceMul, reduceLeDiff, reduceLT, Nat.reduceBEq, reduceIte, hb13]
      refine splitK_intro (fun hb14 => ?_) (fun hb14 => ?_)
      · have h := ifT hb14 h
        apply obindE h; intro x15 hx16 h
        apply obindE h; intro x17 hx18 h
        try simp only [go_sem, reduceEqDiff, reduceAdd, reduceSub, reduceMul, reduceLeDiff, reduceLT, Nat.reduceBEq, reduceIte, hb13, hb14, (idx_some hx16).1, (idx_some hx16).2, (idx_some hx18).1, (idx_some hx18).2]
        refine JoinQ.mk (Op.bytesLess x15.toList x17.toList) [0] (Option.some.inj h) (by simp only [go_sem, reduceEqDiff, reduceAdd, reduceSub, reduceMul, reduceLeDiff, reduceLT, Nat.reduceBEq, reduceIte, hb13, hb14, (idx_some hx16).1, (idx_some hx16).2, (idx_some hx18).1, (idx_some hx18).2])
      have h := ifF hb14 h
      try simp only [go_sem, reduceEqDiff, reduceAdd, reduceSub, reduceMul, reduceLeDiff, reduceLT, Nat.reduceBEq, reduceIte, hb13, hb14]
      refine JoinQ.mk false [0] (Option.some.inj h) (by simp only [go_sem, reduceEqDiff, reduceAdd, reduceSub, reduceMul, reduceLeDiff, reduceLT, Nat.reduceBEq, reduceIte, hb13, hb14])
    rintro v11_0 rfl
    have h := hJ12
    try dsimp only [Out.fin] at h
    refine nz ?_
    refine AW.ts v11_0 (fun hb19 => ?_) (fun hb19 => ?_)
    · have h := ifT hb19 h
      refine AW.one ?_
      refine obindE h fun oJ21 h hJ21 => ?_
      refine AW.join (S := (List ByteArray)) (fun v20_0 => [(0, .d (slD strV p0)), (1, .d (slD strV p1)), (2, .d (.val (.bool p2))), (3, .d (.val (.bool p3))), (4, .d (.val (.bool p4))), (11, accV 0 1 ((v20_0.map strV).map (·.map .d))), (12, .d (.val (.int .i64 i1_0))), (13, .d (.val (.int .i64 i1_1)))]) (fun v20_0 => [accO 1 ((v20_0.map strV).map (·.map .d))]) (fun x => x = oJ21) ?_ ?_
      · skip
        refine AW.op mixed ?_
        refine AW.cu [0] [(0, .d (slD strV p0)), (1, .d (slD strV p1)), (2, .d (.val (.bool p2))), (3, .d (.val (.bool p3))), (4, .d (.val (.bool p4))), (11, accV 0 1 ((i1_2.map strV).map (·.map .d))), (12, .d (.val (.int .i64 i1_0))), (13, .d (.val (.int .i64 i1_1))), (58, .d (.val (.bool p2)))] [accO 1 ((i1_2.map strV).map (·.map .d))] ?_
        refine AW.ts p2 (fun hb22 => ?_) (fun hb22 => ?_)
        · have h := ifT hb22 h
          refine AW.reg mixed (by kernel_rfl) ?_
          apply obindE h; intro x23 hx24 h
          try simp only [go_sem, reduceEqDiff, reduceAdd, reduceSub, reduceMul, reduceLeDiff, reduceLT, Nat.reduceBEq, reduceIte, (idx_some hx24).1, (idx_some hx24).2]
          apply obindE h; intro l25 hx26 h
          refine appG hx26 rfl (by simp only [go_sem, reduceEqDiff, reduceAdd, reduceSub, reduceMul, reduceLeDiff, reduceLT, Nat.reduceBEq, reduceIte, (idx_some hx24).1, (idx_some hx24).2]) (by simp only [go_sem, reduceEqDiff, reduceAdd, reduceSub, reduceMul, reduceLeDiff, reduceLT, Nat.reduceBEq, reduceIte, (idx_some hx24).1, (idx_some hx24).2]) (by simp only [go_sem, reduceEqDiff, reduceAdd, reduceSub, reduceMul, reduceLeDiff, reduceLT, Nat.reduceBEq, reduceIte, (idx_some hx24).1, (idx_some hx24).2]) (by simp) ?_
          try simp only [go_sem, reduceEqDiff, reduceAdd, reduceSub, reduceMul, reduceLeDiff, reduceLT, Nat.reduceBEq, reduceIte, (idx_some hx24).1, (idx_some hx24).2]
          refine JoinQ.mk l25 [7] (Option.some.inj h) (by simp only [go_sem, reduceEqDiff, reduceAdd, reduceSub, reduceMul, reduceLeDiff, reduceLT, Nat.reduceBEq, reduceIte, (idx_some hx24).1, (idx_some hx24).2])
        have h := ifF hb22 h
        refine AW.sk ?_
        exact JoinQ.ar i1_2 [0] (Option.some.inj h)
      rintro v20_0 rfl
      have h := hJ21
      try dsimp only [Out.fin] at h
      refine nz ?_
      refine AW.rg mixed ?_
      exact NextQ.ar (IntKind.wrap .i64 (i1_0 + (1 : Int)), i1_1, v20_0) [0] h
    have h := ifF hb19 h
    refine AW.one ?_
    refine obindE h fun oJ28 h hJ28 => ?_
    refine AW.join (S := Bool) (fun v27_0 => [(0, .d (slD strV p0)), (1, .d (slD strV p1)), (2, .d (.val (.bool p2))), (3, .d (.val (.bool p3))), (4, .d (.val (.bool p4))), (11, accV 0 1 ((i1_2.map strV).map (·.map .d))), (12, .d (.val (.int .i64 i1_0))), (13, .d (.val (.int .i64 i1_1))), (68, .d (.val (.bool v27_0)))]) (fun v27_0 => [accO 1 ((i1_2.map strV).map (·.map .d))]) (fun x => x = oJ28) ?_ ?_
    · skip
      refine AW.rg mixed ?_
      refine splitK_intro (fun hb29 => ?_) (fun hb29 => ?_)
      · have h := ifT hb29 h
        try simp only [go_sem, reduceEqDiff, reduceAdd, reduceSub, reduceMul, reduceLeDiff, reduceLT, Nat.reduceBEq, reduceIte, hb29]
        refine JoinQ.mk true [0] (Option.some.inj h) (by simp only [go_sem, reduceEqDiff, reduceAdd, reduceSub, reduceMul, reduceLeDiff, reduceLT, Nat.reduceBEq, reduceIte, hb29])
      have h := ifF hb29 h
      apply obindE h; intro x30 hx31 h
      apply obindE h; intro x32 hx33 h
      try simp only [go_sem, reduceEqDiff, reduceAdd, reduceSub, reduceMul, reduceLeDiff, reduceLT, Nat.reduceBEq, reduceIte, hb29, (idx_some hx31).1, (idx_some hx31).2, (idx_some hx33).1, (idx_some hx33).2]
      refine JoinQ.mk (Op.bytesLess x30.toList x32.toList) [0] (Option.some.inj h) (by simp only [go_sem, reduceEqDiff, reduceAdd, reduceSub, reduceMul, reduceLeDiff, reduceLT, Nat.reduceBEq, reduceIte, hb29, (idx_some hx31).1, (idx_some hx31).2, (idx_some hx33).1, (idx_some hx33).2])
    rintro v27_0 rfl
    have h := hJ28
    try dsimp only [Out.fin] at h
    refine nz ?_
    refine AW.ts v27_0 (fun hb34 => ?_) (fun hb34 => ?_)
    · have h := ifT hb34 h
      refine AW.one ?_
      refine obindE h fun oJ36 h hJ36 => ?_
      refine AW.join (S := (List ByteArray)) (fun v35_0 => [(0, .d (slD strV p0)), (1, .d (slD strV p1)), (2, .d (.val (.bool p2))), (3, .d (.val (.bool p3))), (4, .d (.val (.bool p4))), (11, accV 0 1 ((v35_0.map strV).map (·.map .d))), (12, .d (.val (.int .i64 i1_0))), (13, .d (.val (.int .i64 i1_1)))]) (fun v35_0 => [accO 1 ((v35_0.map strV).map (·.map .d))]) (fun x => x = oJ36) ?_ ?_
      · skip
        refine AW.op mixed ?_
        refine AW.cu [0] [(0, .d (slD strV p0)), (1, .d (slD strV p1)), (2, .d (.val (.bool p2))), (3, .d (.val (.bool p3))), (4, .d (.val (.bool p4))), (11, accV 0 1 ((i1_2.map strV).map (·.map .d))), (12, .d (.val (.int .i64 i1_0))), (13, .d (.val (.int .i64 i1_1))), (84, .d (.val (.bool p4)))] [accO 1 ((i1_2.map strV).map (·.map .d))] ?_
        refine AW.ts p4 (fun hb37 => ?_) (fun hb37 => ?_)
        · have h := ifT hb37 h
          refine AW.reg mixed (by kernel_rfl) ?_
          apply obindE h; intro x38 hx39 h
          try simp only [go_sem, reduceEqDiff, reduceAdd, reduceSub, reduceMul, reduceLeDiff, reduceLT, Nat.reduceBEq, reduceIte, (idx_some hx39).1, (idx_some hx39).2]
          apply obindE h; intro l40 hx41 h
          refine appG hx41 rfl (by simp only [go_sem, reduceEqDiff, reduceAdd, reduceSub, reduceMul, reduceLeDiff, reduceLT, Nat.reduceBEq, reduceIte, (idx_some hx39).1, (idx_some hx39).2]) (by simp only [go_sem, reduceEqDiff, reduceAdd, reduceSub, reduceMul, reduceLeDiff, reduceLT, Nat.reduceBEq, reduceIte, (idx_some hx39).1, (idx_some hx39).2]) (by simp only [go_sem, reduceEqDiff, reduceAdd, reduceSub, reduceMul, reduceLeDiff, reduceLT, Nat.reduceBEq, reduceIte, (idx_some hx39).1, (idx_some hx39).2]) (by simp) ?_
          try simp only [go_sem, reduceEqDiff, reduceAdd, reduceSub, reduceMul, reduceLeDiff, reduceLT, Nat.reduceBEq, reduceIte, (idx_some hx39).1, (idx_some hx39).2]
          refine JoinQ.mk l40 [7] (Option.some.inj h) (by simp only [go_sem, reduceEqDiff, reduceAdd, reduceSub, reduceMul, reduceLeDiff, reduceLT, Nat.reduceBEq, reduceIte, (idx_some hx39).1, (idx_some hx39).2])
        have h := ifF hb37 h
        refine AW.sk ?_
        exact JoinQ.ar i1_2 [0] (Option.some.inj h)
      rintro v35_0 rfl
      have h := hJ36
      try dsimp only [Out.fin] at h
      refine nz ?_
      refine AW.rg mixed ?_
      exact NextQ.ar (i1_0, IntKind.wrap .i64 (i1_1 + (1 : Int)), v35_0) [0] h
    have h := ifF hb34 h
    refine AW.one ?_
    refine obindE h fun oJ43 h hJ43 => ?_
    refine AW.join (S := (List ByteArray)) (fun v42_0 => [(0, .d (slD strV p0)), (1, .d (slD strV p1)), (2, .d (.val (.bool p2))), (3, .d (.val (.bool p3))), (4, .d (.val (.bool p4))), (11, accV 0 1 ((v42_0.map strV).map (·.map .d))), (12, .d (.val (.int .i64 i1_0))), (13, .d (.val (.int .i64 i1_1)))]) (fun v42_0 => [accO 1 ((v42_0.map strV).map (·.map .d))]) (fun x => x = oJ43) ?_ ?_
    · skip
      refine AW.op mixed ?_
      refine AW.cu [0] [(0, .d (slD strV p0)), (1, .d (slD strV p1)), (2, .d (.val (.bool p2))), (3, .d (.val (.bool p3))), (4, .d (.val (.bool p4))), (11, accV 0 1 ((i1_2.map strV).map (·.map .d))), (12, .d (.val (.int .i64 i1_0))), (13, .d (.val (.int .i64 i1_1))), (24, .d (.val (.bool p3)))] [accO 1 ((i1_2.map strV).map (·.map .d))] ?_
      refine AW.ts p3 (fun hb44 => ?_) (fun hb44 => ?_)
      · have h := ifT hb44 h
        refine AW.reg mixed (by kernel_rfl) ?_
        apply obindE h; intro x45 hx46 h
        try simp only [go_sem, reduceEqDiff, reduceAdd, reduceSub, reduceMul, reduceLeDiff, reduceLT, Nat.reduceBEq, reduceIte, (idx_some hx46).1, (idx_some hx46).2]
        apply obindE h; intro l47 hx48 h
        refine appG hx48 rfl (by simp only [go_sem, reduceEqDiff, reduceAdd, reduceSub, reduceMul, reduceLeDiff, reduceLT, Nat.reduceBEq, reduceIte, (idx_some hx46).1, (idx_some hx46).2]) (by simp only [go_sem, reduceEqDiff, reduceAdd, reduceSub, reduceMul, reduceLeDiff, reduceLT, Nat.reduceBEq, reduceIte, (idx_some hx46).1, (idx_some hx46).2]) (by simp only [go_sem, reduceEqDiff, reduceAdd, reduceSub, reduceMul, reduceLeDiff, reduceLT, Nat.reduceBEq, reduceIte, (idx_some hx46).1, (idx_some hx46).2]) (by simp) ?_
        try simp only [go_sem, reduceEqDiff, reduceAdd, reduceSub, reduceMul, reduceLeDiff, reduceLT, Nat.reduceBEq, reduceIte, (idx_some hx46).1, (idx_some hx46).2]
        refine JoinQ.mk l47 [7] (Option.some.inj h) (by simp only [go_sem, reduceEqDiff, reduceAdd, reduceSub, reduceMul, reduceLeDiff, reduceLT, Nat.reduceBEq, reduceIte, (idx_some hx46).1, (idx_some hx46).2])
      have h := ifF hb44 h
      refine AW.sk ?_
      exact JoinQ.ar i1_2 [0] (Option.some.inj h)
    rintro v42_0 rfl
    have h := hJ43
    try dsimp only [Out.fin] at h
    refine nz ?_
    refine AW.op mixed ?_
    refine AW.cu [0] [(0, .d (slD strV p0)), (1, .d (slD strV p1)), (2, .d (.val (.bool p2))), (3, .d (.val (.bool p3))), (4, .d (.val (.bool p4))), (11, accV 0 1 ((v42_0.map strV).map (·.map .d))), (12, .d (.val (.int .i64 (IntKind.wrap .i64 (i1_0 + (1 : Int)))))), (13, .d (.val (.int .i64 i1_1)))] [accO 1 ((v42_0.map strV).map (·.map .d))] ?_
    refine AW.rg mixed ?_
    exact NextQ.ar (IntKind.wrap .i64 (i1_0 + (1 : Int)), IntKind.wrap .i64 (i1_1 + (1 : Int)), v42_0) [0] h
  rintro e2_0 rfl
  have h := hJ4
  try dsimp only [Out.fin] at h
  refine nz ?_
  refine AW.cu [0] [(11, accV 0 1 ((e2_0.map strV).map (·.map .d)))] [accO 1 ((e2_0.map strV).map (·.map .d))] ?_
  refine AW.op mixed ?_
  refine AW.ret ?_
  obtain rfl := Option.some.inj h
  refine nz ?_
  exact sealAcc (by simp only [go_sem, reduceEqDiff, reduceAdd, reduceSub, reduceMul, reduceLeDiff, reduceLT, Nat.reduceBEq, reduceIte])
/-! ### isochrone/static.union -/
def static_union (K : Nat) (p0 : Api_NamesA) (p1 : Api_NamesA) : Option Api_NamesA := ((
    ((
      if p0.all then
        some p1.all
      else
        some false) : Option Bool).bind (fun v3_0 => 
    if v3_0 then
      (static_mix K p0.list p1.list false true false).bind fun r7 => 
      outM (
        some (Api_NamesA.mk true r7))
    else
      if p0.all then
        (static_mix K p0.list p1.list true false false).bind fun r10 => 
        outM (
          some (Api_NamesA.mk true r10))
      else
        if p1.all then
          (static_mix K p0.list p1.list false false true).bind fun r13 => 
          outM (
            some (Api_NamesA.mk true r13))
        else
          some (.go ()))) : Option (Out Unit _)).bind (Out.fin fun _ => 
  (static_mix K p0.list p1.list true true true).bind fun r15 => 
  some (Api_NamesA.mk false r15))
set_option maxHeartbeats 4000000 in
theorem static_union_ok {K : Nat} {p0 : Api_NamesA} {p1 : Api_NamesA} {r : Api_NamesA} (h : static_union K p0 p1 = some r) : Cn Tryz.prog 65 [aggV p0.enc, aggV p1.enc] (aggV r.enc) := by
  refine Cn.ofA mixed Tryz.func65 rfl Tryz.call65 Tryz.ntmps65 Tryz.results65 (by simp) (by simp only [go_sem, reduceEqDiff, reduceAdd, reduceSub, reduceMul, reduceLeDiff, reduceLT, Nat.reduceBEq, reduceIte]) fun hfit => ?_
  unfold static_union at h
  refine AW.kp [] [0, 1] ?_
  refine AW.op mixed ?_
  refine AW.kp [0, 1, 2] [2, 3, 4] ?_
  refine AW.one ?_
  refine obindE h fun oJ2 h hJ2 => ?_
  refine AW.join (S := Unit) (fun _ => [(2, .ptr 0 2 0 0), (3, .ptr 1 2 0 0), (4, .ptr 2 2 0 0)]) (fun _ => [some ⟨2, [[.d (.val (.bool p0.all)), .d (slD strV p0.list)]]⟩, some ⟨2, [[.d (.val (.bool p1.all)), .d (slD strV p1.list)]]⟩, some ⟨2, [[.d (.val (.bool false)), .d (.val (.slice none 0 0))]]⟩]) (fun x => oJ2 = .go x) ?_ ?_
  · skip
    refine AW.block ?_
    refine AW.one ?_
    refine obindE h fun oJ4 h hJ4 => ?_
    refine AW.join (S := Bool) (fun v3_0 => [(2, .ptr 0 2 0 0), (3, .ptr 1 2 0 0), (4, .ptr 2 2 0 0), (5, .d (.val (.bool v3_0)))]) (fun v3_0 => [some ⟨2, [[.d (.val (.bool p0.all)), .d (slD strV p0.list)]]⟩, some ⟨2, [[.d (.val (.bool p1.all)), .d (slD strV p1.list)]]⟩, some ⟨2, [[.d (.val (.bool false)), .d (.val (.slice none 0 0))]]⟩]) (fun x => x = oJ4) ?_ ?_
    · skip
      refine AW.rg mixed ?_
      refine splitK_intro (fun hb5 => ?_) (fun hb5 => ?_)
      · have h := ifT hb5 h
        try simp only [go_sem, reduceEqDiff, reduceAdd, reduceSub, reduceMul, reduceLeDiff, reduceLT, Nat.reduceBEq, reduceIte, hb5]
        refine JoinQ.mk p1.all [0, 1, 2] (Option.some.inj h) (by simp only [go_sem, reduceEqDiff, reduceAdd, reduceSub, reduceMul, reduceLeDiff, reduceLT, Nat.reduceBEq, reduceIte, hb5])
      have h := ifF hb5 h
      try simp only [go_sem, reduceEqDiff, reduceAdd, reduceSub, reduceMul, reduceLeDiff, reduceLT, Nat.reduceBEq, reduceIte, hb5]
      refine JoinQ.mk false [0, 1, 2] (Option.some.inj h) (by simp only [go_sem, reduceEqDiff, reduceAdd, reduceSub, reduceMul, reduceLeDiff, reduceLT, Nat.reduceBEq, reduceIte, hb5])
    rintro v3_0 rfl
    have h := hJ4
    try dsimp only [Out.fin] at h
    refine nz ?_
    refine AW.ts v3_0 (fun hb6 => ?_) (fun hb6 => ?_)
    · have h := ifT hb6 h
      refine AW.op mixed ?_
      apply obindE h; intro r7 hx8 h
      have hc := nx (static_mix_ok (h := hx8))
      refine callP hc ?_
      refine AW.ret ?_
      obtain ⟨_, h, ho⟩ := outM_some h
      rw [ho, Out.fin_out] at hJ2
      have h := h.trans hJ2
      obtain rfl := Option.some.inj h
      refine nz ?_
      exact .same _
    have h := ifF hb6 h
    refine AW.op mixed ?_
    refine AW.kp [0, 1, 2] [2, 3, 4, 18] ?_
    refine AW.ts p0.all (fun hb9 => ?_) (fun hb9 => ?_)
    · have h := ifT hb9 h
      refine AW.op mixed ?_
      apply obindE h; intro r10 hx11 h
      have hc := nx (static_mix_ok (h := hx11))
      refine callP hc ?_
      refine AW.ret ?_
      obtain ⟨_, h, ho⟩ := outM_some h
      rw [ho, Out.fin_out] at hJ2
      have h := h.trans hJ2
      obtain rfl := Option.some.inj h
      refine nz ?_
      exact .same _
    have h := ifF hb9 h
    refine AW.op mixed ?_
    refine AW.kp [0, 1, 2] [2, 3, 4, 27] ?_
    refine AW.ts p1.all (fun hb12 => ?_) (fun hb12 => ?_)
    · have h := ifT hb12 h
      refine AW.op mixed ?_
      apply obindE h; intro r13 hx14 h
      have hc := nx (static_mix_ok (h := hx14))
      refine callP hc ?_
      refine AW.ret ?_
      obtain ⟨_, h, ho⟩ := outM_some h
      rw [ho, Out.fin_out] at hJ2
      have h := h.trans hJ2
      obtain rfl := Option.some.inj h
      refine nz ?_
      exact .same _
    have h := ifF hb12 h
    refine AW.sk ?_
    exact JoinQ.ar () [0, 1, 2] (Option.some.inj h).symm
  rintro ⟨⟩ rfl
  have h := hJ2
  try dsimp only [Out.fin] at h
  refine nz ?_
  refine AW.op mixed ?_
  apply obindE h; intro r15 hx16 h
  have hc := nx (static_mix_ok (h := hx16))
  refine callP hc ?_
  refine AW.ret ?_
  obtain rfl := Option.some.inj h
  refine nz ?_
  exact .same _
end Go.Proofs.YtngmfimpaembnaaGreatDoor
